/- varint.Size. No condition. -/
import Derived.Test.YtmmahkckemclaaaGreatDoorFlt
namespace Go.Proofs.YtmmahkckemclaaaGreatDoor
open Go.RowKit

/-- How many bytes a number has. -/
def vSize (n : Int) : Int := if n < 0 ∨ 268435455 < n then 0 else if n < 128 then 1 else if n < 16384 then 2 else if n < 2097152 then 3 else 4
set_option maxHeartbeats 2000000 in
theorem size_any (n : Int) (w : World) : Calls Tryz.prog 186 #[.int .i64 n] w fun e w' => e = .returned (.int .i64 (vSize n)) ∧ w = w' := by
  by_cases h0 : n < 0
  · have hv : vSize n = 0 := by simp [vSize, h0]
    rw [hv]
    clear hv
    go_enter Tryz.func186, Tryz.ntmps186
    go_wp2
    go_ret
    exact ⟨rfl, rfl⟩
  by_cases h1 : 268435455 < n
  · have hv : vSize n = 0 := by simp [vSize, h1]
    rw [hv]
    clear hv
    have h0' : decide (n < 0) = false := by simpa using h0
    go_enter Tryz.func186, Tryz.ntmps186
    go_wp2
    go_ret
    exact ⟨rfl, rfl⟩
  have h0' : decide (n < 0) = false := by simpa using h0
  have h1' : decide (268435455 < n) = false := by simpa using h1
  by_cases h2 : n < 128
  · have hv : vSize n = 1 := by simp only [vSize]; rw [if_neg (by omega), if_pos h2]
    rw [hv]
    clear hv
    go_enter Tryz.func186, Tryz.ntmps186
    go_wp2
    refine wp_loop_rounds 1 ?_
    rw [rounds_succ]
    go_wp2
    go_ret
    exact ⟨rfl, rfl⟩
  have e1 : n.tdiv 128 = n / 128 := Int.tdiv_eq_ediv_of_nonneg (by omega)
  by_cases h3 : n < 16384
  · have hv : vSize n = 2 := by simp only [vSize]; rw [if_neg (by omega), if_neg h2, if_pos h3]
    rw [hv]
    clear hv
    go_enter Tryz.func186, Tryz.ntmps186
    go_wp2
    refine wp_loop_rounds 2 ?_
    rw [rounds_succ]
    go_wp2
    rw [rounds_succ]
    go_wp2
    go_ret
    exact ⟨rfl, rfl⟩
  have e2 : (n / 128).tdiv 128 = n / 128 / 128 := Int.tdiv_eq_ediv_of_nonneg (by omega)
  by_cases h4 : n < 2097152
  · have hv : vSize n = 3 := by simp only [vSize]; rw [if_neg (by omega), if_neg h2, if_neg h3, if_pos h4]
    rw [hv]
    clear hv
    go_enter Tryz.func186, Tryz.ntmps186
    go_wp2
    refine wp_loop_rounds 3 ?_
    rw [rounds_succ]
    go_wp2
    rw [rounds_succ]
    go_wp2
    rw [rounds_succ]
    go_wp2
    go_ret
    exact ⟨rfl, rfl⟩
  have e3 : (n / 128 / 128).tdiv 128 = n / 128 / 128 / 128 := Int.tdiv_eq_ediv_of_nonneg (by omega)
  have hv : vSize n = 4 := by simp only [vSize]; rw [if_neg (by omega), if_neg h2, if_neg h3, if_neg h4]
  rw [hv]
  clear hv
  go_enter Tryz.func186, Tryz.ntmps186
  go_wp2
  refine wp_loop_rounds 4 ?_
  rw [rounds_succ]
  go_wp2
  rw [rounds_succ]
  go_wp2
  rw [rounds_succ]
  go_wp2
  rw [rounds_succ]
  go_wp2
  go_ret
  exact ⟨rfl, rfl⟩
end Go.Proofs.YtmmahkckemclaaaGreatDoor
