/- varint.Put at two to four bytes, and where it may not. No condition. -/
import Derived.Test.YtmmahkckemclaaaGreatDoorVar2
namespace Go.Proofs.YtmmahkckemclaaaGreatDoor
open Go.RowKit

set_option maxRecDepth 20000 in
theorem vmk2 (w : World) : (Instr.makeSlice 88 (.int .i64 2) (.int .i64 2)).run Tryz.prog w = .ok (.slice (some ⟨w.heap.size, 0, none⟩) 2 2) (w.alloc (.cells #[.int .u8 0, .int .u8 0] 5)) := by kernel_rfl
set_option maxRecDepth 20000 in
set_option maxHeartbeats 2000000 in
theorem put2_any (n : Int) (h0 : 128 ≤ n) (h1 : n < 16384) (w : World) : Calls Tryz.prog 162 #[.int .i64 n] w fun e w' => e = .returned (.tuple #[.string (str [b8 (n % 128 + 128), b8 (n / 128)]), .nilIface]) ∧ Upd Non w w' := by
  have hs : vSize n = 2 := by simp only [vSize]; rw [if_neg (by omega), if_neg (by omega), if_pos h1]
  have HS := Lib.hid hs
  clear hs
  have e0 : (n).tmod 128 = n % 128 := Int.tmod_eq_emod_of_nonneg (by omega)
  have o0 := or128 (n % 128) (by omega) (by omega)
  have e1 : (n / 128).tmod 128 = n / 128 := by rw [Int.tmod_eq_emod_of_nonneg (by omega)]; omega
  have o1 := or128 (n / 128) (by omega) (by omega)
  have a1 := and127 (n / 128) (by omega) (by omega)
  have hmk := vmk2
  have hst : ∀ w : World, (convert 88 9 (.slice (some ⟨w.heap.size, 0, none⟩) 2 2)).run Tryz.prog (w.alloc (.cells #[.int .u8 (n % 128 + 128), .int .u8 (n / 128)] 5)) = .ok (.string (str [b8 (n % 128 + 128), b8 (n / 128)])) (w.alloc (.cells #[.int .u8 (n % 128 + 128), .int .u8 (n / 128)] 5)) := fun w => by
    refine blk_string (bs := [b8 (n % 128 + 128), b8 (n / 128)]) (t := 5) ?_ rfl
    have := Blk.new w 5 #[.int .u8 (n % 128 + 128), .int .u8 (n / 128)]
    have b0 : ((b8 (n % 128 + 128)).toNat : Int) = n % 128 + 128 := by rw [b8_toNat]; omega
    have b1 : ((b8 (n / 128)).toNat : Int) = n / 128 := by rw [b8_toNat]; omega
    simpa [u8s, b0, b1] using this
  go_enter Tryz.func162, Tryz.ntmps162
  go_wp2_with (go_at_call 186
               refine (size_any _ _).mono ?_
               rw [HS.out]
               rintro e w' ⟨rfl, rfl⟩)
  refine wp_loop_rounds 3 ?_
  rw [rounds_succ]
  go_wp2
  rw [rounds_succ]
  go_wp2
  rw [rounds_succ]
  go_wp2
  go_ret2
  exact ⟨rfl, (Upd.refl _ _).alloc _⟩

set_option maxRecDepth 20000 in
theorem vmk3 (w : World) : (Instr.makeSlice 88 (.int .i64 3) (.int .i64 3)).run Tryz.prog w = .ok (.slice (some ⟨w.heap.size, 0, none⟩) 3 3) (w.alloc (.cells #[.int .u8 0, .int .u8 0, .int .u8 0] 5)) := by kernel_rfl
set_option maxRecDepth 20000 in
set_option maxHeartbeats 2000000 in
theorem put3_any (n : Int) (h0 : 16384 ≤ n) (h1 : n < 2097152) (w : World) : Calls Tryz.prog 162 #[.int .i64 n] w fun e w' => e = .returned (.tuple #[.string (str [b8 (n % 128 + 128), b8 (n / 128 % 128 + 128), b8 (n / 128 / 128)]), .nilIface]) ∧ Upd Non w w' := by
  have hs : vSize n = 3 := by simp only [vSize]; rw [if_neg (by omega), if_neg (by omega), if_neg (by omega), if_pos h1]
  have HS := Lib.hid hs
  clear hs
  have e0 : (n).tmod 128 = n % 128 := Int.tmod_eq_emod_of_nonneg (by omega)
  have o0 := or128 (n % 128) (by omega) (by omega)
  have e1 : (n / 128).tmod 128 = n / 128 % 128 := Int.tmod_eq_emod_of_nonneg (by omega)
  have o1 := or128 (n / 128 % 128) (by omega) (by omega)
  have e2 : (n / 128 / 128).tmod 128 = n / 128 / 128 := by rw [Int.tmod_eq_emod_of_nonneg (by omega)]; omega
  have o2 := or128 (n / 128 / 128) (by omega) (by omega)
  have a2 := and127 (n / 128 / 128) (by omega) (by omega)
  have hmk := vmk3
  have hst : ∀ w : World, (convert 88 9 (.slice (some ⟨w.heap.size, 0, none⟩) 3 3)).run Tryz.prog (w.alloc (.cells #[.int .u8 (n % 128 + 128), .int .u8 (n / 128 % 128 + 128), .int .u8 (n / 128 / 128)] 5)) = .ok (.string (str [b8 (n % 128 + 128), b8 (n / 128 % 128 + 128), b8 (n / 128 / 128)])) (w.alloc (.cells #[.int .u8 (n % 128 + 128), .int .u8 (n / 128 % 128 + 128), .int .u8 (n / 128 / 128)] 5)) := fun w => by
    refine blk_string (bs := [b8 (n % 128 + 128), b8 (n / 128 % 128 + 128), b8 (n / 128 / 128)]) (t := 5) ?_ rfl
    have := Blk.new w 5 #[.int .u8 (n % 128 + 128), .int .u8 (n / 128 % 128 + 128), .int .u8 (n / 128 / 128)]
    have b0 : ((b8 (n % 128 + 128)).toNat : Int) = n % 128 + 128 := by rw [b8_toNat]; omega
    have b1 : ((b8 (n / 128 % 128 + 128)).toNat : Int) = n / 128 % 128 + 128 := by rw [b8_toNat]; omega
    have b2 : ((b8 (n / 128 / 128)).toNat : Int) = n / 128 / 128 := by rw [b8_toNat]; omega
    simpa [u8s, b0, b1, b2] using this
  go_enter Tryz.func162, Tryz.ntmps162
  go_wp2_with (go_at_call 186
               refine (size_any _ _).mono ?_
               rw [HS.out]
               rintro e w' ⟨rfl, rfl⟩)
  refine wp_loop_rounds 4 ?_
  rw [rounds_succ]
  go_wp2
  rw [rounds_succ]
  go_wp2
  rw [rounds_succ]
  go_wp2
  rw [rounds_succ]
  go_wp2
  go_ret2
  exact ⟨rfl, (Upd.refl _ _).alloc _⟩

set_option maxRecDepth 20000 in
theorem vmk4 (w : World) : (Instr.makeSlice 88 (.int .i64 4) (.int .i64 4)).run Tryz.prog w = .ok (.slice (some ⟨w.heap.size, 0, none⟩) 4 4) (w.alloc (.cells #[.int .u8 0, .int .u8 0, .int .u8 0, .int .u8 0] 5)) := by kernel_rfl
set_option maxRecDepth 20000 in
set_option maxHeartbeats 2000000 in
theorem put4_any (n : Int) (h0 : 2097152 ≤ n) (h1 : n < 268435456) (w : World) : Calls Tryz.prog 162 #[.int .i64 n] w fun e w' => e = .returned (.tuple #[.string (str [b8 (n % 128 + 128), b8 (n / 128 % 128 + 128), b8 (n / 128 / 128 % 128 + 128), b8 (n / 128 / 128 / 128)]), .nilIface]) ∧ Upd Non w w' := by
  have hs : vSize n = 4 := by simp only [vSize]; rw [if_neg (by omega), if_neg (by omega), if_neg (by omega), if_neg (by omega)]
  have HS := Lib.hid hs
  clear hs
  have e0 : (n).tmod 128 = n % 128 := Int.tmod_eq_emod_of_nonneg (by omega)
  have o0 := or128 (n % 128) (by omega) (by omega)
  have e1 : (n / 128).tmod 128 = n / 128 % 128 := Int.tmod_eq_emod_of_nonneg (by omega)
  have o1 := or128 (n / 128 % 128) (by omega) (by omega)
  have e2 : (n / 128 / 128).tmod 128 = n / 128 / 128 % 128 := Int.tmod_eq_emod_of_nonneg (by omega)
  have o2 := or128 (n / 128 / 128 % 128) (by omega) (by omega)
  have e3 : (n / 128 / 128 / 128).tmod 128 = n / 128 / 128 / 128 := by rw [Int.tmod_eq_emod_of_nonneg (by omega)]; omega
  have o3 := or128 (n / 128 / 128 / 128) (by omega) (by omega)
  have a3 := and127 (n / 128 / 128 / 128) (by omega) (by omega)
  have hmk := vmk4
  have hst : ∀ w : World, (convert 88 9 (.slice (some ⟨w.heap.size, 0, none⟩) 4 4)).run Tryz.prog (w.alloc (.cells #[.int .u8 (n % 128 + 128), .int .u8 (n / 128 % 128 + 128), .int .u8 (n / 128 / 128 % 128 + 128), .int .u8 (n / 128 / 128 / 128)] 5)) = .ok (.string (str [b8 (n % 128 + 128), b8 (n / 128 % 128 + 128), b8 (n / 128 / 128 % 128 + 128), b8 (n / 128 / 128 / 128)])) (w.alloc (.cells #[.int .u8 (n % 128 + 128), .int .u8 (n / 128 % 128 + 128), .int .u8 (n / 128 / 128 % 128 + 128), .int .u8 (n / 128 / 128 / 128)] 5)) := fun w => by
    refine blk_string (bs := [b8 (n % 128 + 128), b8 (n / 128 % 128 + 128), b8 (n / 128 / 128 % 128 + 128), b8 (n / 128 / 128 / 128)]) (t := 5) ?_ rfl
    have := Blk.new w 5 #[.int .u8 (n % 128 + 128), .int .u8 (n / 128 % 128 + 128), .int .u8 (n / 128 / 128 % 128 + 128), .int .u8 (n / 128 / 128 / 128)]
    have b0 : ((b8 (n % 128 + 128)).toNat : Int) = n % 128 + 128 := by rw [b8_toNat]; omega
    have b1 : ((b8 (n / 128 % 128 + 128)).toNat : Int) = n / 128 % 128 + 128 := by rw [b8_toNat]; omega
    have b2 : ((b8 (n / 128 / 128 % 128 + 128)).toNat : Int) = n / 128 / 128 % 128 + 128 := by rw [b8_toNat]; omega
    have b3 : ((b8 (n / 128 / 128 / 128)).toNat : Int) = n / 128 / 128 / 128 := by rw [b8_toNat]; omega
    simpa [u8s, b0, b1, b2, b3] using this
  go_enter Tryz.func162, Tryz.ntmps162
  go_wp2_with (go_at_call 186
               refine (size_any _ _).mono ?_
               rw [HS.out]
               rintro e w' ⟨rfl, rfl⟩)
  refine wp_loop_rounds 5 ?_
  rw [rounds_succ]
  go_wp2
  rw [rounds_succ]
  go_wp2
  rw [rounds_succ]
  go_wp2
  rw [rounds_succ]
  go_wp2
  rw [rounds_succ]
  go_wp2
  go_ret2
  exact ⟨rfl, (Upd.refl _ _).alloc _⟩

set_option maxHeartbeats 2000000 in
theorem put0_any (E : GE) (n : Int) (h : n < 0 ∨ 268435455 < n) (w : World) (hG : Glob E w) : Calls Tryz.prog 162 #[.int .i64 n] w fun e w' => (∃ ev, e = .returned (.tuple #[.string ⟨#[]⟩, ev]) ∧ ErrIs E w' ev (some ⟨4, 129, 0⟩)) ∧ Upd Non w w' := by
  have hs : vSize n = 0 := by simp only [vSize]; rw [if_pos h]
  have HS := Lib.hid hs
  clear hs
  have g4 := hG.at_ 4 (by decide) (by decide)
  simp only [gix, GE.kd] at g4
  go_enter Tryz.func162, Tryz.ntmps162
  go_wp2_with (first
    | (go_at_call 186
       refine (size_any _ _).mono ?_
       rw [HS.out]
       rintro e w' ⟨rfl, rfl⟩)
    | (go_at_call 66
       refine (new_any _ _ _ _ _).mono ?_
       rintro e w1 ⟨rfl, rfl⟩))
  go_ret2
  exact ⟨⟨_, rfl, ErrIs.new w 4 129 0 (by decide) (by decide)⟩, (Upd.refl _ _).alloc _⟩
/-- What Put answers. -/
def vPut (n : Int) : ByteArray × Option Flt := if vSize n = 0 then (⟨#[]⟩, some ⟨4, 129, 0⟩) else (str (vBytes n), none)
theorem vput_any (E : GE) (n : Int) (w : World) (hG : Glob E w) : Calls Tryz.prog 162 #[.int .i64 n] w fun e w' => (∃ ev, e = .returned (.tuple #[.string (vPut n).1, ev]) ∧ ErrIs E w' ev (vPut n).2) ∧ Upd Non w w' := by
  by_cases h : n < 0 ∨ 268435455 < n
  · have hs : vSize n = 0 := by simp only [vSize]; rw [if_pos h]
    have hp : vPut n = (⟨#[]⟩, some ⟨4, 129, 0⟩) := by simp only [vPut]; rw [if_pos hs]
    rw [hp]
    exact put0_any E n h w hG
  by_cases h1 : n < 128
  · have hs : vSize n = 1 := by simp only [vSize]; rw [if_neg h, if_pos h1]
    have hp : vPut n = (str [b8 n], none) := by simp [vPut, vBytes, hs]
    rw [hp]
    refine (put1_any n (by omega) h1 w).mono ?_
    rintro e w' ⟨rfl, hu⟩
    exact ⟨⟨_, rfl, rfl⟩, hu⟩
  by_cases h2 : n < 16384
  · have hs : vSize n = 2 := by simp only [vSize]; rw [if_neg h, if_neg h1, if_pos h2]
    have hp : vPut n = (str [b8 (n % 128 + 128), b8 (n / 128)], none) := by simp [vPut, vBytes, hs]
    rw [hp]
    refine (put2_any n (by omega) h2 w).mono ?_
    rintro e w' ⟨rfl, hu⟩
    exact ⟨⟨_, rfl, rfl⟩, hu⟩
  by_cases h3 : n < 2097152
  · have hs : vSize n = 3 := by simp only [vSize]; rw [if_neg h, if_neg h1, if_neg h2, if_pos h3]
    have hp : vPut n = (str [b8 (n % 128 + 128), b8 (n / 128 % 128 + 128), b8 (n / 128 / 128)], none) := by simp [vPut, vBytes, hs]
    rw [hp]
    refine (put3_any n (by omega) h3 w).mono ?_
    rintro e w' ⟨rfl, hu⟩
    exact ⟨⟨_, rfl, rfl⟩, hu⟩
  · have hs : vSize n = 4 := by simp only [vSize]; rw [if_neg h, if_neg h1, if_neg h2, if_neg h3]
    have hp : vPut n = (str [b8 (n % 128 + 128), b8 (n / 128 % 128 + 128), b8 (n / 128 / 128 % 128 + 128), b8 (n / 128 / 128 / 128)], none) := by simp [vPut, vBytes, hs]
    rw [hp]
    refine (put4_any n (by omega) (by omega) w).mono ?_
    rintro e w' ⟨rfl, hu⟩
    exact ⟨⟨_, rfl, rfl⟩, hu⟩
end Go.Proofs.YtmmahkckemclaaaGreatDoor
