/- fault.Number. Conditions: the package variables hold what the program lays there. -/
import Derived.Test.YtmmahkckemclaaaGreatDoorErr1
namespace Go.Proofs.YtmmahkckemclaaaGreatDoor
open Go.RowKit Go.Extern.Stop Go.Stop Go.Extern

theorem number_nil (w : World) : Calls Tryz.prog 57 #[.nilIface] w fun ev w' => ev = .returned (.int .i64 0) ∧ w = w' := by
  go_enter Tryz.func57, Tryz.ntmps57
  go_wp2
  go_ret
  exact ⟨rfl, rfl⟩

set_option maxHeartbeats 400000 in
theorem number_any (E : GE) (e : Value) (f : Flt) (w : World) (hG : Glob E w) (he : ErrIs E w e (some f)) :
    Calls Tryz.prog 57 #[e] w fun ev w' => ev = .returned (.int .i64 f.k) ∧ Upd Non w w' := by
  obtain ⟨h1, h2, _⟩ := he.rel
  obtain ⟨g, rfl⟩ := he.form
  have HE := Lib.hid he
  clear he
  have g1 := hG.at_ 1 (by decide) (by decide)
  have g2 := hG.at_ 2 (by decide) (by decide)
  have g3 := hG.at_ 3 (by decide) (by decide)
  have g4 := hG.at_ 4 (by decide) (by decide)
  have g5 := hG.at_ 5 (by decide) (by decide)
  have g6 := hG.at_ 6 (by decide) (by decide)
  have g7 := hG.at_ 7 (by decide) (by decide)
  simp only [gix, GE.kd] at g1 g2 g3 g4 g5 g6 g7
  go_enter Tryz.func57, Tryz.ntmps57
  go_wp2_with fail
  go_loopg [16] 8 (fun kq v w' => ∃ n : Nat, v = .int .i64 n ∧ n < f.k ∧ n + kq = 8 ∧ w' = w.alloc (.cells #[E.kd 1, E.kd 2, E.kd 3, E.kd 4, E.kd 5, E.kd 6, E.kd 7] 46))
  case atStart => exact ⟨0, rfl, by omega, rfl, rfl⟩
  case round =>
    obtain ⟨n, rfl, hn, hq, rfl⟩ := hrel
    have hn7 : n < 7 := by omega
    have hU : Upd Non w (w.alloc (.cells #[E.kd 1, E.kd 2, E.kd 3, E.kd 4, E.kd 5, E.kd 6, E.kd 7] 46)) := (Upd.refl _ _).alloc _
    have hG' := hG.non hU
    have HE' := HE.out.non hU
    have hc : (w.alloc (.cells #[E.kd 1, E.kd 2, E.kd 3, E.kd 4, E.kd 5, E.kd 6, E.kd 7] 46)).cell? ⟨w.heap.size, n, none⟩ = some (E.kd (n + 1)) := by
      rw [(Blk.new w 46 #[E.kd 1, E.kd 2, E.kd 3, E.kd 4, E.kd 5, E.kd 6, E.kd 7]).cell n]
      rcases n with _ | _ | _ | _ | _ | _ | _ | n <;> first | rfl | omega
    clear g1 g2 g3 g4 g5 g6 g7 hG HE
    generalize w.alloc (.cells #[E.kd 1, E.kd 2, E.kd 3, E.kd 4, E.kd 5, E.kd 6, E.kd 7] 46) = wl at *
    have HG := Lib.hid hG'
    have HH := Lib.hid HE'
    have HU := Lib.hid hU
    have HQ := Lib.hid hq
    clear hG' HE' hU hq
    unfold GE.kd at hc
    by_cases hf : f.k = n + 1
    · have hd : decide (f.k = n + 1) = true := by simp [hf]
      have HF := Lib.hid hf
      clear hf
      go_wp2_with (go_at_call 119; refine (Is_any E (n + 1) _ f _ HG.out HH.out (by omega) (by omega)).mono ?_; rintro e w' ⟨rfl, rfl⟩)
      go_ret
      exact ⟨by rw [HF.out]; simp, HU.out⟩
    · have hd : decide (f.k = n + 1) = false := by simp [hf]
      have HF := Lib.hid hf
      clear hf
      go_wp2_with (go_at_call 119; refine (Is_any E (n + 1) _ f _ HG.out HH.out (by omega) (by omega)).mono ?_; rintro e w' ⟨rfl, rfl⟩)
      go_roundg (gk - 1)
      case measure => have := HQ.out; omega
      case rel =>
        have := HF.out
        have := HQ.out
        exact ⟨n + 1, by go_num, by omega, by omega, rfl⟩
end Go.Proofs.YtmmahkckemclaaaGreatDoor
