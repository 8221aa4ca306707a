/- varint.Take where it fails behind the first byte. No condition. -/
import Derived.Test.YtmmahkckemclaaaGreatDoorVar7
namespace Go.Proofs.YtmmahkckemclaaaGreatDoor
open Go.RowKit

set_option maxHeartbeats 800000 in
theorem tshort1 (E : GE) (s : ByteArray) (h : s.size = 1) (c : Int) (hc : ((s[0]'(by omega)).toNat : Int) = c) (c0 : 128 ≤ c) (c1 : c < 256) (w : World) (hG : Glob E w) : Calls Tryz.prog 163 #[.string s] w fun e1 w' => (∃ ev, e1 = .returned (.tuple #[.int .i64 0, .int .i64 0, ev]) ∧ ErrIs E w' ev (some ⟨1, 129, 1⟩)) ∧ Upd Non w w' := by
  have g1 := hG.at_ 1 (by decide) (by decide)
  simp only [gix, GE.kd] at g1
  have hsz : (s.size : Int) = 1 := by omega
  have a0 := and7h c c0 c1
  have o0 := or0 (c - 128) (by omega) (by omega)
  go_enter Tryz.func163, Tryz.ntmps163
  go_wp2
  refine wp_loop_rounds 2 ?_
  rw [rounds_succ]
  go_wp2_with (go_at_call 66
               refine (new_any _ _ _ _ _).mono ?_
               rintro e1 w1 ⟨rfl, rfl⟩)
  rw [rounds_succ]
  go_wp2_with (go_at_call 66
               refine (new_any _ _ _ _ _).mono ?_
               rintro e1 w1 ⟨rfl, rfl⟩)
  all_goals refine bodyPost_ret (v := .tuple #[.int .i64 0, .int .i64 0, .iface 145 (.pointer (some ⟨w.heap.size, 0, none⟩))]) (by simp [results, Tryz.results163, go_sem]) rfl ?_
  all_goals exact ⟨⟨_, rfl, ErrIs.new w 1 129 1 (by decide) (by decide)⟩, (Upd.refl _ _).alloc _⟩

set_option maxHeartbeats 800000 in
theorem tshort2 (E : GE) (s : ByteArray) (h : s.size = 2) (c d : Int) (hc : ((s[0]'(by omega)).toNat : Int) = c) (c0 : 128 ≤ c) (c1 : c < 256) (hd : ((s[1]'(by omega)).toNat : Int) = d) (d0 : 128 ≤ d) (d1 : d < 256) (w : World) (hG : Glob E w) : Calls Tryz.prog 163 #[.string s] w fun e1 w' => (∃ ev, e1 = .returned (.tuple #[.int .i64 0, .int .i64 0, ev]) ∧ ErrIs E w' ev (some ⟨1, 129, 2⟩)) ∧ Upd Non w w' := by
  have g1 := hG.at_ 1 (by decide) (by decide)
  simp only [gix, GE.kd] at g1
  have hsz : (s.size : Int) = 2 := by omega
  have a0 := and7h c c0 c1
  have o0 := or0 (c - 128) (by omega) (by omega)
  have a1 := and7h d d0 d1
  have o1 := or1 (c - 128) (d - 128) (by omega) (by omega) (by omega) (by omega)
  go_enter Tryz.func163, Tryz.ntmps163
  go_wp2
  refine wp_loop_rounds 3 ?_
  rw [rounds_succ]
  go_wp2_with (go_at_call 66
               refine (new_any _ _ _ _ _).mono ?_
               rintro e1 w1 ⟨rfl, rfl⟩)
  rw [rounds_succ]
  go_wp2_with (go_at_call 66
               refine (new_any _ _ _ _ _).mono ?_
               rintro e1 w1 ⟨rfl, rfl⟩)
  rw [rounds_succ]
  go_wp2_with (go_at_call 66
               refine (new_any _ _ _ _ _).mono ?_
               rintro e1 w1 ⟨rfl, rfl⟩)
  all_goals refine bodyPost_ret (v := .tuple #[.int .i64 0, .int .i64 0, .iface 145 (.pointer (some ⟨w.heap.size, 0, none⟩))]) (by simp [results, Tryz.results163, go_sem]) rfl ?_
  all_goals exact ⟨⟨_, rfl, ErrIs.new w 1 129 2 (by decide) (by decide)⟩, (Upd.refl _ _).alloc _⟩

set_option maxHeartbeats 800000 in
theorem tshort3 (E : GE) (s : ByteArray) (h : s.size = 3) (c d e : Int) (hc : ((s[0]'(by omega)).toNat : Int) = c) (c0 : 128 ≤ c) (c1 : c < 256) (hd : ((s[1]'(by omega)).toNat : Int) = d) (d0 : 128 ≤ d) (d1 : d < 256) (he : ((s[2]'(by omega)).toNat : Int) = e) (e0 : 128 ≤ e) (e1 : e < 256) (w : World) (hG : Glob E w) : Calls Tryz.prog 163 #[.string s] w fun e1 w' => (∃ ev, e1 = .returned (.tuple #[.int .i64 0, .int .i64 0, ev]) ∧ ErrIs E w' ev (some ⟨1, 129, 3⟩)) ∧ Upd Non w w' := by
  have g1 := hG.at_ 1 (by decide) (by decide)
  simp only [gix, GE.kd] at g1
  have hsz : (s.size : Int) = 3 := by omega
  have a0 := and7h c c0 c1
  have o0 := or0 (c - 128) (by omega) (by omega)
  have a1 := and7h d d0 d1
  have o1 := or1 (c - 128) (d - 128) (by omega) (by omega) (by omega) (by omega)
  have a2 := and7h e e0 e1
  have o2 := or2 (c - 128 + (d - 128) * 128) (e - 128) (by omega) (by omega) (by omega) (by omega)
  go_enter Tryz.func163, Tryz.ntmps163
  go_wp2
  refine wp_loop_rounds 4 ?_
  rw [rounds_succ]
  go_wp2_with (go_at_call 66
               refine (new_any _ _ _ _ _).mono ?_
               rintro e1 w1 ⟨rfl, rfl⟩)
  rw [rounds_succ]
  go_wp2_with (go_at_call 66
               refine (new_any _ _ _ _ _).mono ?_
               rintro e1 w1 ⟨rfl, rfl⟩)
  rw [rounds_succ]
  go_wp2_with (go_at_call 66
               refine (new_any _ _ _ _ _).mono ?_
               rintro e1 w1 ⟨rfl, rfl⟩)
  rw [rounds_succ]
  go_wp2_with (go_at_call 66
               refine (new_any _ _ _ _ _).mono ?_
               rintro e1 w1 ⟨rfl, rfl⟩)
  all_goals refine bodyPost_ret (v := .tuple #[.int .i64 0, .int .i64 0, .iface 145 (.pointer (some ⟨w.heap.size, 0, none⟩))]) (by simp [results, Tryz.results163, go_sem]) rfl ?_
  all_goals exact ⟨⟨_, rfl, ErrIs.new w 1 129 3 (by decide) (by decide)⟩, (Upd.refl _ _).alloc _⟩

set_option maxHeartbeats 800000 in
theorem tzero1 (E : GE) (s : ByteArray) (h : 2 ≤ s.size) (c : Int) (hc : ((s[0]'(by omega)).toNat : Int) = c) (c0 : 128 ≤ c) (c1 : c < 256) (hz : ((s[1]'(by omega)).toNat : Int) = 0) (w : World) (hG : Glob E w) : Calls Tryz.prog 163 #[.string s] w fun e1 w' => (∃ ev, e1 = .returned (.tuple #[.int .i64 0, .int .i64 0, ev]) ∧ ErrIs E w' ev (some ⟨2, 129, 1⟩)) ∧ Upd Non w w' := by
  have g1 := hG.at_ 2 (by decide) (by decide)
  simp only [gix, GE.kd] at g1
  have hsz : (2 : Int) ≤ s.size := by omega
  have a0 := and7h c c0 c1
  have o0 := or0 (c - 128) (by omega) (by omega)
  have az := and7 0 (by omega) (by omega)
  go_enter Tryz.func163, Tryz.ntmps163
  go_wp2
  refine wp_loop_rounds 2 ?_
  rw [rounds_succ]
  go_wp2_with (go_at_call 66
               refine (new_any _ _ _ _ _).mono ?_
               rintro e1 w1 ⟨rfl, rfl⟩)
  rw [rounds_succ]
  go_wp2_with (go_at_call 66
               refine (new_any _ _ _ _ _).mono ?_
               rintro e1 w1 ⟨rfl, rfl⟩)
  all_goals refine bodyPost_ret (v := .tuple #[.int .i64 0, .int .i64 0, .iface 145 (.pointer (some ⟨w.heap.size, 0, none⟩))]) (by simp [results, Tryz.results163, go_sem]) rfl ?_
  all_goals exact ⟨⟨_, rfl, ErrIs.new w 2 129 1 (by decide) (by decide)⟩, (Upd.refl _ _).alloc _⟩

set_option maxHeartbeats 800000 in
theorem tzero2 (E : GE) (s : ByteArray) (h : 3 ≤ s.size) (c d : Int) (hc : ((s[0]'(by omega)).toNat : Int) = c) (c0 : 128 ≤ c) (c1 : c < 256) (hd : ((s[1]'(by omega)).toNat : Int) = d) (d0 : 128 ≤ d) (d1 : d < 256) (hz : ((s[2]'(by omega)).toNat : Int) = 0) (w : World) (hG : Glob E w) : Calls Tryz.prog 163 #[.string s] w fun e1 w' => (∃ ev, e1 = .returned (.tuple #[.int .i64 0, .int .i64 0, ev]) ∧ ErrIs E w' ev (some ⟨2, 129, 2⟩)) ∧ Upd Non w w' := by
  have g1 := hG.at_ 2 (by decide) (by decide)
  simp only [gix, GE.kd] at g1
  have hsz : (3 : Int) ≤ s.size := by omega
  have a0 := and7h c c0 c1
  have o0 := or0 (c - 128) (by omega) (by omega)
  have a1 := and7h d d0 d1
  have o1 := or1 (c - 128) (d - 128) (by omega) (by omega) (by omega) (by omega)
  have az := and7 0 (by omega) (by omega)
  go_enter Tryz.func163, Tryz.ntmps163
  go_wp2
  refine wp_loop_rounds 3 ?_
  rw [rounds_succ]
  go_wp2_with (go_at_call 66
               refine (new_any _ _ _ _ _).mono ?_
               rintro e1 w1 ⟨rfl, rfl⟩)
  rw [rounds_succ]
  go_wp2_with (go_at_call 66
               refine (new_any _ _ _ _ _).mono ?_
               rintro e1 w1 ⟨rfl, rfl⟩)
  rw [rounds_succ]
  go_wp2_with (go_at_call 66
               refine (new_any _ _ _ _ _).mono ?_
               rintro e1 w1 ⟨rfl, rfl⟩)
  all_goals refine bodyPost_ret (v := .tuple #[.int .i64 0, .int .i64 0, .iface 145 (.pointer (some ⟨w.heap.size, 0, none⟩))]) (by simp [results, Tryz.results163, go_sem]) rfl ?_
  all_goals exact ⟨⟨_, rfl, ErrIs.new w 2 129 2 (by decide) (by decide)⟩, (Upd.refl _ _).alloc _⟩

set_option maxHeartbeats 800000 in
theorem tzero3 (E : GE) (s : ByteArray) (h : 4 ≤ s.size) (c d e : Int) (hc : ((s[0]'(by omega)).toNat : Int) = c) (c0 : 128 ≤ c) (c1 : c < 256) (hd : ((s[1]'(by omega)).toNat : Int) = d) (d0 : 128 ≤ d) (d1 : d < 256) (he : ((s[2]'(by omega)).toNat : Int) = e) (e0 : 128 ≤ e) (e1 : e < 256) (hz : ((s[3]'(by omega)).toNat : Int) = 0) (w : World) (hG : Glob E w) : Calls Tryz.prog 163 #[.string s] w fun e1 w' => (∃ ev, e1 = .returned (.tuple #[.int .i64 0, .int .i64 0, ev]) ∧ ErrIs E w' ev (some ⟨2, 129, 3⟩)) ∧ Upd Non w w' := by
  have g1 := hG.at_ 2 (by decide) (by decide)
  simp only [gix, GE.kd] at g1
  have hsz : (4 : Int) ≤ s.size := by omega
  have a0 := and7h c c0 c1
  have o0 := or0 (c - 128) (by omega) (by omega)
  have a1 := and7h d d0 d1
  have o1 := or1 (c - 128) (d - 128) (by omega) (by omega) (by omega) (by omega)
  have a2 := and7h e e0 e1
  have o2 := or2 (c - 128 + (d - 128) * 128) (e - 128) (by omega) (by omega) (by omega) (by omega)
  have az := and7 0 (by omega) (by omega)
  go_enter Tryz.func163, Tryz.ntmps163
  go_wp2
  refine wp_loop_rounds 4 ?_
  rw [rounds_succ]
  go_wp2_with (go_at_call 66
               refine (new_any _ _ _ _ _).mono ?_
               rintro e1 w1 ⟨rfl, rfl⟩)
  rw [rounds_succ]
  go_wp2_with (go_at_call 66
               refine (new_any _ _ _ _ _).mono ?_
               rintro e1 w1 ⟨rfl, rfl⟩)
  rw [rounds_succ]
  go_wp2_with (go_at_call 66
               refine (new_any _ _ _ _ _).mono ?_
               rintro e1 w1 ⟨rfl, rfl⟩)
  rw [rounds_succ]
  go_wp2_with (go_at_call 66
               refine (new_any _ _ _ _ _).mono ?_
               rintro e1 w1 ⟨rfl, rfl⟩)
  all_goals refine bodyPost_ret (v := .tuple #[.int .i64 0, .int .i64 0, .iface 145 (.pointer (some ⟨w.heap.size, 0, none⟩))]) (by simp [results, Tryz.results163, go_sem]) rfl ?_
  all_goals exact ⟨⟨_, rfl, ErrIs.new w 2 129 3 (by decide) (by decide)⟩, (Upd.refl _ _).alloc _⟩

set_option maxHeartbeats 800000 in
theorem tlong (E : GE) (s : ByteArray) (h : 4 ≤ s.size) (c d e f : Int) (hc : ((s[0]'(by omega)).toNat : Int) = c) (c0 : 128 ≤ c) (c1 : c < 256) (hd : ((s[1]'(by omega)).toNat : Int) = d) (d0 : 128 ≤ d) (d1 : d < 256) (he : ((s[2]'(by omega)).toNat : Int) = e) (e0 : 128 ≤ e) (e1 : e < 256) (hf : ((s[3]'(by omega)).toNat : Int) = f) (f0 : 128 ≤ f) (f1 : f < 256) (w : World) (hG : Glob E w) : Calls Tryz.prog 163 #[.string s] w fun e1 w' => (∃ ev, e1 = .returned (.tuple #[.int .i64 0, .int .i64 0, ev]) ∧ ErrIs E w' ev (some ⟨2, 129, 3⟩)) ∧ Upd Non w w' := by
  have g1 := hG.at_ 2 (by decide) (by decide)
  simp only [gix, GE.kd] at g1
  have hsz : (4 : Int) ≤ s.size := by omega
  have a0 := and7h c c0 c1
  have o0 := or0 (c - 128) (by omega) (by omega)
  have a1 := and7h d d0 d1
  have o1 := or1 (c - 128) (d - 128) (by omega) (by omega) (by omega) (by omega)
  have a2 := and7h e e0 e1
  have o2 := or2 (c - 128 + (d - 128) * 128) (e - 128) (by omega) (by omega) (by omega) (by omega)
  have a3 := and7h f f0 f1
  have o3 := or3 (c - 128 + (d - 128) * 128 + (e - 128) * 16384) (f - 128) (by omega) (by omega) (by omega) (by omega)
  go_enter Tryz.func163, Tryz.ntmps163
  go_wp2
  refine wp_loop_rounds 5 ?_
  rw [rounds_succ]
  go_wp2_with (go_at_call 66
               refine (new_any _ _ _ _ _).mono ?_
               rintro e1 w1 ⟨rfl, rfl⟩)
  rw [rounds_succ]
  go_wp2_with (go_at_call 66
               refine (new_any _ _ _ _ _).mono ?_
               rintro e1 w1 ⟨rfl, rfl⟩)
  rw [rounds_succ]
  go_wp2_with (go_at_call 66
               refine (new_any _ _ _ _ _).mono ?_
               rintro e1 w1 ⟨rfl, rfl⟩)
  rw [rounds_succ]
  go_wp2_with (go_at_call 66
               refine (new_any _ _ _ _ _).mono ?_
               rintro e1 w1 ⟨rfl, rfl⟩)
  rw [rounds_succ]
  go_wp2_with (go_at_call 66
               refine (new_any _ _ _ _ _).mono ?_
               rintro e1 w1 ⟨rfl, rfl⟩)
  all_goals refine bodyPost_ret (v := .tuple #[.int .i64 0, .int .i64 0, .iface 145 (.pointer (some ⟨w.heap.size, 0, none⟩))]) (by simp [results, Tryz.results163, go_sem]) rfl ?_
  all_goals exact ⟨⟨_, rfl, ErrIs.new w 2 129 3 (by decide) (by decide)⟩, (Upd.refl _ _).alloc _⟩

end Go.Proofs.YtmmahkckemclaaaGreatDoor
