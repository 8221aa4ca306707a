/- varint.Take at three bytes. No condition. -/
import Derived.Test.YtmmahkckemclaaaGreatDoorVar5
import Derived.Lib.EndianBits
namespace Go.Proofs.YtmmahkckemclaaaGreatDoor
open Go.RowKit

theorem or2 (a b : Int) (h0 : 0 ≤ a) (h1 : a < 16384) (h2 : 0 ≤ b) (h3 : b < 128) : bits .or .i64 a (b * 16384) = a + b * 16384 :=
  bits_join_low .i64 63 (by decide) wraps_i64 14 a (b * 16384) h0 (by omega) (by omega) (by omega) (by omega) (by omega)
theorem or3 (a b : Int) (h0 : 0 ≤ a) (h1 : a < 2097152) (h2 : 0 ≤ b) (h3 : b < 128) : bits .or .i64 a (b * 2097152) = a + b * 2097152 :=
  bits_join_low .i64 63 (by decide) wraps_i64 21 a (b * 2097152) h0 (by omega) (by omega) (by omega) (by omega) (by omega)
set_option maxHeartbeats 800000 in
theorem take3_any (s : ByteArray) (h : 2 < s.size) (c d e : Int) (hc : ((s[0]'(by omega)).toNat : Int) = c) (hd : ((s[1]'(by omega)).toNat : Int) = d) (he : ((s[2]'h).toNat : Int) = e) (h0 : 128 ≤ c) (h1 : c < 256) (h2 : 128 ≤ d) (h3 : d < 256) (h4 : 0 < e) (h5 : e < 128) (w : World) :
    Calls Tryz.prog 163 #[.string s] w fun e1 w' => e1 = .returned (.tuple #[.int .i64 (c - 128 + (d - 128) * 128 + e * 16384), .int .i64 3, .nilIface]) ∧ w = w' := by
  have hz : (2 : Int) < s.size := by omega
  have a0 := and7h c h0 h1
  have o0 := or0 (c - 128) (by omega) (by omega)
  have a1 := and7h d h2 h3
  have o1 := or1 (c - 128) (d - 128) (by omega) (by omega) (by omega) (by omega)
  have a2 := and7 e (by omega) h5
  have o2 := or2 (c - 128 + (d - 128) * 128) e (by omega) (by omega) (by omega) h5
  go_enter Tryz.func163, Tryz.ntmps163
  go_wp2
  refine wp_loop_rounds 3 ?_
  rw [rounds_succ]
  go_wp2
  rw [rounds_succ]
  go_wp2
  rw [rounds_succ]
  go_wp2
  all_goals refine bodyPost_ret (v := .tuple #[.int .i64 (c - 128 + (d - 128) * 128 + e * 16384), .int .i64 3, .nilIface]) (by simp [results, Tryz.results163, go_sem] <;> omega) rfl ?_
  all_goals exact ⟨rfl, rfl⟩
end Go.Proofs.YtmmahkckemclaaaGreatDoor
