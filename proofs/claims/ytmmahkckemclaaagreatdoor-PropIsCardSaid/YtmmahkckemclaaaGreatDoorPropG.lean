/- The properties' named cases, evaluated. No condition. -/
import Derived.Test.YtmmahkckemclaaaGreatDoorPropF
import Derived.Test.YtmmahkckemclaaaGreatDoorPropB
import Derived.Test.YtmmahkckemclaaaGreatDoorErr2
namespace Go.Proofs.YtmmahkckemclaaaGreatDoor
open Go.RowKit

instance : DecidableEq Flt := fun a b => decidable_of_iff (a.k = b.k ∧ a.r = b.r ∧ a.a = b.a) (by cases a; cases b; simp)
instance : DecidableEq Pr := fun a b => decidable_of_iff (a.id = b.id ∧ a.n = b.n ∧ a.s = b.s ∧ a.v = b.v) (by cases a; cases b; simp)

def awL : List Pr := [⟨2, 9, ⟨#[]⟩, ⟨#[]⟩⟩, ⟨38, 0, ⟨#[97]⟩, ⟨#[98]⟩⟩]
def awS : ByteArray := ⟨#[12, 2, 0, 0, 0, 9, 38, 0, 1, 97, 0, 1, 98]⟩
theorem aw_enc : pEnc 3 awL = (awS, none) := by
  have h1 : (pEnc 3 awL).1 = awS := by decide +kernel
  have h2 : (pEnc 3 awL).2 = none := by decide +kernel
  rw [← h1, ← h2]
theorem aw_read : (pRead awS ⟨0, none⟩ 3).1 = awL ∧ (pRead awS ⟨0, none⟩ 3).2.1 = none := by
  constructor
  · decide +kernel
  · decide +kernel
theorem aw_bad : (pRead awS ⟨0, none⟩ 1).1 = [] ∧ (pRead awS ⟨0, none⟩ 1).2.1 = some ⟨2, 129, 1⟩ := by
  constructor
  · decide +kernel
  · decide +kernel
theorem aw_get : pGet awL 38 = (⟨38, 0, ⟨#[97]⟩, ⟨#[98]⟩⟩, true) := by decide +kernel
theorem aw_number : pNumber awL 2 5 = 9 := by decide +kernel
theorem aw_without : (pWithout awL 2).length = 1 := by decide +kernel
theorem aw_ty : pTy 38 = 9 := by decide +kernel
theorem aw_size : prSize awL ≤ 70368744177664 := by decide +kernel
end Go.Proofs.YtmmahkckemclaaaGreatDoor
