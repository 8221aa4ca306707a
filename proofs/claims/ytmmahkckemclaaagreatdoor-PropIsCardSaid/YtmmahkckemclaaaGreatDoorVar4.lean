/- varint.Take. No condition. -/
import Derived.Test.YtmmahkckemclaaaGreatDoorVar3
namespace Go.Proofs.YtmmahkckemclaaaGreatDoor
open Go.RowKit

set_option maxHeartbeats 2000000 in
theorem take0_any (E : GE) (s : ByteArray) (hz : s.size = 0) (w : World) (hG : Glob E w) : Calls Tryz.prog 163 #[.string s] w fun e w' => (∃ ev, e = .returned (.tuple #[.int .i64 0, .int .i64 0, ev]) ∧ ErrIs E w' ev (some ⟨1, 129, 0⟩)) ∧ Upd Non w w' := by
  have g1 := hG.at_ 1 (by decide) (by decide)
  simp only [gix, GE.kd] at g1
  go_enter Tryz.func163, Tryz.ntmps163
  go_wp2
  refine wp_loop_rounds 1 ?_
  rw [rounds_succ]
  go_wp2_with (go_at_call 66
               refine (new_any _ _ _ _ _).mono ?_
               rintro e w1 ⟨rfl, rfl⟩)
  refine bodyPost_ret (v := .tuple #[.int .i64 0, .int .i64 0, .iface 145 (.pointer (some ⟨w.heap.size, 0, none⟩))]) (by simp [results, Tryz.results163, go_sem]) rfl ?_
  exact ⟨⟨_, rfl, ErrIs.new w 1 129 0 (by decide) (by decide)⟩, (Upd.refl _ _).alloc _⟩

theorem and7 (c : Int) (h0 : 0 ≤ c) (h1 : c < 128) : bits .and .i64 c 127 = c := by
  obtain ⟨m, rfl⟩ := Int.eq_ofNat_of_zero_le h0
  have h : ∀ i : Fin 128, bits .and .i64 ((i.val : Nat) : Int) 127 = (i.val : Int) := by decide +kernel
  exact h ⟨m, by omega⟩
theorem or0 (c : Int) (h0 : 0 ≤ c) (h1 : c < 128) : bits .or .i64 0 c = c := by
  obtain ⟨m, rfl⟩ := Int.eq_ofNat_of_zero_le h0
  have h : ∀ i : Fin 128, bits .or .i64 0 ((i.val : Nat) : Int) = (i.val : Int) := by decide +kernel
  exact h ⟨m, by omega⟩
set_option maxHeartbeats 400000 in
theorem take1_any (s : ByteArray) (h : 0 < s.size) (c : Int) (hc : ((s[0]'h).toNat : Int) = c) (h0 : 0 ≤ c) (h1 : c < 128) (w : World) : Calls Tryz.prog 163 #[.string s] w fun e w' => e = .returned (.tuple #[.int .i64 c, .int .i64 1, .nilIface]) ∧ w = w' := by
  have hz : (0 : Int) < s.size := by omega
  have hn : decide ((0 : Int) = s.size) = false := by simp; omega
  have a0 := and7 c h0 h1
  have o0 := or0 c h0 h1
  go_enter Tryz.func163, Tryz.ntmps163
  go_wp2
  refine wp_loop_rounds 1 ?_
  rw [rounds_succ]
  go_wp2
  all_goals refine bodyPost_ret (v := .tuple #[.int .i64 c, .int .i64 1, .nilIface]) (by simp [results, Tryz.results163, go_sem] <;> omega) rfl ?_
  all_goals exact ⟨rfl, rfl⟩
end Go.Proofs.YtmmahkckemclaaaGreatDoor
