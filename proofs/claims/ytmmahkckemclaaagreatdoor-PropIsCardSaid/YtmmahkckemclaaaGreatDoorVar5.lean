/- varint.Take at two bytes: a first walk. No condition. -/
import Derived.Test.YtmmahkckemclaaaGreatDoorVar4
namespace Go.Proofs.YtmmahkckemclaaaGreatDoor
open Go.RowKit

theorem and7h (c : Int) (h0 : 128 ≤ c) (h1 : c < 256) : bits .and .i64 c 127 = c - 128 := by
  obtain ⟨m, rfl⟩ := Int.eq_ofNat_of_zero_le (show 0 ≤ c by omega)
  have h : ∀ i : Fin 256, 128 ≤ i.val → bits .and .i64 ((i.val : Nat) : Int) 127 = (i.val : Int) - 128 := by decide +kernel
  exact h ⟨m, by omega⟩ (by simp; omega)
theorem or1 (a b : Int) (h0 : 0 ≤ a) (h1 : a < 128) (h2 : 0 ≤ b) (h3 : b < 128) : bits .or .i64 a (b * 128) = a + b * 128 := by
  obtain ⟨m, rfl⟩ := Int.eq_ofNat_of_zero_le h0
  obtain ⟨k, rfl⟩ := Int.eq_ofNat_of_zero_le h2
  have h : ∀ i j : Fin 128, bits .or .i64 ((i.val : Nat) : Int) ((j.val : Int) * 128) = (i.val : Int) + (j.val : Int) * 128 := by decide +kernel
  exact h ⟨m, by omega⟩ ⟨k, by omega⟩
set_option maxHeartbeats 800000 in
theorem take2_any (s : ByteArray) (h : 1 < s.size) (c d : Int) (hc : ((s[0]'(by omega)).toNat : Int) = c) (hd : ((s[1]'h).toNat : Int) = d) (h0 : 128 ≤ c) (h1 : c < 256) (h2 : 0 < d) (h3 : d < 128) (w : World) :
    Calls Tryz.prog 163 #[.string s] w fun e w' => e = .returned (.tuple #[.int .i64 (c - 128 + d * 128), .int .i64 2, .nilIface]) ∧ w = w' := by
  have hz : (1 : Int) < s.size := by omega
  have hn : decide ((0 : Int) = s.size) = false := by simp; omega
  have hn1 : decide ((1 : Int) = s.size) = false := by simp; omega
  have a0 := and7h c h0 h1
  have o0 := or0 (c - 128) (by omega) (by omega)
  have a1 := and7 d (by omega) h3
  have o1 := or1 (c - 128) d (by omega) (by omega) (by omega) h3
  go_enter Tryz.func163, Tryz.ntmps163
  go_wp2
  refine wp_loop_rounds 2 ?_
  rw [rounds_succ]
  go_wp2
  rw [rounds_succ]
  go_wp2
  all_goals refine bodyPost_ret (v := .tuple #[.int .i64 (c - 128 + d * 128), .int .i64 2, .nilIface]) (by simp [results, Tryz.results163, go_sem] <;> omega) rfl ?_
  all_goals exact ⟨rfl, rfl⟩
end Go.Proofs.YtmmahkckemclaaaGreatDoor
