/- Same, of rows that are the same. No condition. -/
import Derived.Test.YtmmahkckemclaaaDoorScr7
namespace Go.Proofs.YtmmahkckemclaaaDoor
open Go.RowKit

set_option maxHeartbeats 4000000 in
theorem same_eq (A A2 : Option Addr) (l : List Ev) (cp cp2 : Nat) (w : World) (hr : Reads w 4 A l.length (evs l)) (hr2 : Reads w 4 A2 l.length (evs l)) :
    Calls Tryd.prog 9 #[.slice A l.length cp, .slice A2 l.length cp2] w fun e w' => e = .returned (.bool true) ∧ Upd Non w w' := by
  have hn := hr.2.1
  go_enter Tryd.func9, Tryd.ntmps9
  go_wp2_with fail
  go_loopg [5] (l.length + 1) (fun kq v w' => ∃ i : Nat, v = .int .i64 i ∧ i + kq = l.length + 1 ∧ Upd Non w w')
  case atStart => exact ⟨0, rfl, by omega, Upd.refl _ _⟩
  case round =>
    obtain ⟨i, rfl, hq, hu⟩ := hrel
    have hr1 := hr.updNon hu
    have hr3 := hr2.updNon hu
    by_cases hi : i < l.length
    · obtain ⟨ad, hA, hb, x0, x1, x2, x3⟩ := evs_at hr1 i hi
      obtain ⟨ad2, hA2, hb2, y0, y1, y2, y3⟩ := evs_at hr3 i hi
      subst hA
      subst hA2
      go_wp2_with fail
      go_quiet (fail)
      go_wp2_with fail
      go_roundg (gk - 1)
      case measure => omega
      case rel => exact ⟨i + 1, by go_num, by omega, hu.drewN nq⟩
    · go_wp2_with fail
      go_ret
      exact ⟨rfl, hu⟩
end Go.Proofs.YtmmahkckemclaaaDoor
