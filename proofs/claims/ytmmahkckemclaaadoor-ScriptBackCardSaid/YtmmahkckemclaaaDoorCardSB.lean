/- THE TIED CARD OF ScriptBack: whatever the input, the law answers true, and the input reads as it did. No condition. -/
import Derived.Test.YtmmahkckemclaaaDoorRowSB
import Derived.Test.YtmmahkckemclaaaDoorTie
import Derived.Test.YtmmahkckemclaaaDoorCards
import Derived.SevenTiedAt
namespace Go.Proofs.YtmmahkckemclaaaDoor
open Go
set_option maxRecDepth 100000

theorem scriptBack_card : Rows.ScriptBackCardSaid :=
  Claim7.holds_tied_plain_at .later [] [.sentinel, .sentinel, .sentinel, .sentinel, .sentinel, .sentinel, .sentinel] true (true, "887dc904ae3190ba2f81c67aab57118a21f22b07ed519d3c18b6af7d35f7fdbb") true
    sb_holds (fun _ h => by cases h) (by kernel_rfl) (fun _ h => by cases h) scriptBack_row_tie rfl ⟨rfl, rfl⟩ (by kernel_rfl) rfl
    (fun f fn hf hfn => by
      obtain rfl : f = 3 := Option.some.inj ((show Tryd.prog.funcNamed "towncrier/towncrierlaw43.ScriptBack" = some 3 by kernel_rfl).symm.trans hf) |>.symm
      obtain rfl : fn = Tryd.f3 := (Option.some.inj (Tryd.func3.symm.trans hfn)).symm
      exact ⟨by kernel_rfl, fun j t ht => by
        rw [Tryd.params3] at ht
        have h3 : t = 23 ∨ t = 24 ∨ t = 9 := by
          rcases j with _ | _ | _ | j
          · left; simpa using ht.symm
          · right; left; simpa using ht.symm
          · right; right; simpa using ht.symm
          · simp at ht
        rcases h3 with rfl | rfl | rfl
        · exact (show Tryd.prog.wantsStandIn 23 = false by kernel_rfl)
        · exact (show Tryd.prog.wantsStandIn 24 = false by kernel_rfl)
        · exact (show Tryd.prog.wantsStandIn 9 = false by kernel_rfl)⟩)
    (by kernel_rfl)
#print axioms scriptBack_card
end Go.Proofs.YtmmahkckemclaaaDoor
