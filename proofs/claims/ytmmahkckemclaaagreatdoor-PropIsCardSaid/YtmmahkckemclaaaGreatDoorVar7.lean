/- varint.Take at four bytes. No condition. -/
import Derived.Test.YtmmahkckemclaaaGreatDoorVar6
namespace Go.Proofs.YtmmahkckemclaaaGreatDoor
open Go.RowKit

set_option maxHeartbeats 800000 in
theorem take4_any (s : ByteArray) (h : 3 < s.size) (c d e f : Int) (hc : ((s[0]'(by omega)).toNat : Int) = c) (hd : ((s[1]'(by omega)).toNat : Int) = d) (he : ((s[2]'(by omega)).toNat : Int) = e) (hf : ((s[3]'h).toNat : Int) = f) (h0 : 128 ≤ c) (h1 : c < 256) (h2 : 128 ≤ d) (h3 : d < 256) (h4 : 128 ≤ e) (h5 : e < 256) (h6 : 0 < f) (h7 : f < 128) (w : World) :
    Calls Tryz.prog 163 #[.string s] w fun e1 w' => e1 = .returned (.tuple #[.int .i64 (c - 128 + (d - 128) * 128 + (e - 128) * 16384 + f * 2097152), .int .i64 4, .nilIface]) ∧ w = w' := by
  have hz : (3 : Int) < s.size := by omega
  have a0 := and7h c h0 h1
  have o0 := or0 (c - 128) (by omega) (by omega)
  have a1 := and7h d h2 h3
  have o1 := or1 (c - 128) (d - 128) (by omega) (by omega) (by omega) (by omega)
  have a2 := and7h e h4 h5
  have o2 := or2 (c - 128 + (d - 128) * 128) (e - 128) (by omega) (by omega) (by omega) (by omega)
  have a3 := and7 f (by omega) h7
  have o3 := or3 (c - 128 + (d - 128) * 128 + (e - 128) * 16384) f (by omega) (by omega) (by omega) h7
  go_enter Tryz.func163, Tryz.ntmps163
  go_wp2
  refine wp_loop_rounds 4 ?_
  rw [rounds_succ]
  go_wp2
  rw [rounds_succ]
  go_wp2
  rw [rounds_succ]
  go_wp2
  rw [rounds_succ]
  go_wp2
  all_goals refine bodyPost_ret (v := .tuple #[.int .i64 (c - 128 + (d - 128) * 128 + (e - 128) * 16384 + f * 2097152), .int .i64 4, .nilIface]) (by simp [results, Tryz.results163, go_sem] <;> omega) rfl ?_
  all_goals exact ⟨rfl, rfl⟩
end Go.Proofs.YtmmahkckemclaaaGreatDoor
