/- THE TIED CARD OF PropIs: whatever the input, the law answers true, and the input reads as it did. No condition. -/
import Derived.Test.YtmmahkckemclaaaGreatDoorRowPI
import Derived.Test.YtmmahkckemclaaaGreatDoorTie
import Derived.Test.YtmmahkckemclaaaGreatDoorCards
import Derived.SevenTiedAt
namespace Go.Proofs.YtmmahkckemclaaaGreatDoor
open Go
set_option maxRecDepth 100000

theorem propIs_card : Rows.PropIsCardSaid :=
  Claim7.holds_tied_plain_at .later [] [.handle, .sentinel, .sentinel, .sentinel, .sentinel, .sentinel, .sentinel, .sentinel] true (true, "d96f64770fba2abfd23ce4564bad67c9f7c472b81b6c27cee76d0f3638456ae3") true
    pi_holds (fun _ h => by cases h) (by kernel_rfl) (fun _ h => by cases h) propIs_row_tie rfl ⟨rfl, rfl⟩ (by kernel_rfl) rfl
    (fun f fn hf hfn => by
      obtain rfl : f = 3 := Option.some.inj ((show Tryz.prog.funcNamed "towncrier/towncrierlaw06.PropIs" = some 3 by kernel_rfl).symm.trans hf) |>.symm
      obtain rfl : fn = Tryz.f3 := (Option.some.inj (Tryz.func3.symm.trans hfn)).symm
      exact ⟨by kernel_rfl, fun j t ht => by
        rw [Tryz.params3] at ht
        have h3 : t = 3 ∨ t = 22 := by
          rcases j with _ | _ | _ | j
          · left; simpa using ht.symm
          · left; simpa using ht.symm
          · right; simpa using ht.symm
          · simp at ht
        rcases h3 with rfl | rfl
        · exact (show Tryz.prog.wantsStandIn 3 = false by kernel_rfl)
        · exact (show Tryz.prog.wantsStandIn 22 = false by kernel_rfl)⟩)
    (by kernel_rfl)
#print axioms propIs_card
end Go.Proofs.YtmmahkckemclaaaGreatDoor
