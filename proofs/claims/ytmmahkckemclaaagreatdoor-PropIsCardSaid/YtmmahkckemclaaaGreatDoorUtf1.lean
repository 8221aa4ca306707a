/- utf.shape. No condition. -/
import Derived.Test.YtmmahkckemclaaaGreatDoorVar3
namespace Go.Proofs.YtmmahkckemclaaaGreatDoor
open Go.RowKit

/-- What a letter's first byte tells: how many bytes follow, its bits, the least letter. -/
def uShape (c : Int) : Nat × Int × Int :=
  if c < 1 then (0, 0, 1) else if c < 128 then (0, c, 1) else if c < 192 then (0, 0, 1) else if c < 224 then (1, c - 192, 128) else if c < 240 then (2, c - 224, 2048) else if c < 248 then (3, c - 240, 65536) else (0, 0, 1)
theorem uShape_bd (c : Int) : (uShape c).1 ≤ 3 ∧ 0 ≤ (uShape c).2.1 ∧ (uShape c).2.1 < 128 := by
  unfold uShape
  repeat' split
  all_goals simp only []
  all_goals omega

theorem shape_0 (c : Int) (h0 : 0 ≤ c) (h1 : c ≤ 0) (w : World) : Calls Tryz.prog 199 #[.int .u8 c] w fun e w' => e = .returned (.tuple #[.int .i64 0, .int .i64 (0), .int .i64 1]) ∧ w = w' := by
  have d0 : decide (1 ≤ c) = false := by simp; omega
  have d1 : decide (c < 128) = true := by simp; omega
  have d2 : decide (192 ≤ c) = false := by simp; omega
  have d3 : decide (c < 224) = true := by simp; omega
  have d4 : decide (224 ≤ c) = false := by simp; omega
  have d5 : decide (c < 240) = true := by simp; omega
  have d6 : decide (240 ≤ c) = false := by simp; omega
  have d7 : decide (c < 248) = true := by simp; omega
  go_enter Tryz.func199, Tryz.ntmps199
  go_wp2
  refine bodyPost_ret (v := .tuple #[.int .i64 0, .int .i64 (0), .int .i64 1]) (by simp [results, Tryz.results199, go_sem]) rfl ⟨rfl, rfl⟩

theorem shape_1 (c : Int) (h0 : 1 ≤ c) (h1 : c ≤ 127) (w : World) : Calls Tryz.prog 199 #[.int .u8 c] w fun e w' => e = .returned (.tuple #[.int .i64 0, .int .i64 (c), .int .i64 1]) ∧ w = w' := by
  have d0 : decide (1 ≤ c) = true := by simp; omega
  have d1 : decide (c < 128) = true := by simp; omega
  have d2 : decide (192 ≤ c) = false := by simp; omega
  have d3 : decide (c < 224) = true := by simp; omega
  have d4 : decide (224 ≤ c) = false := by simp; omega
  have d5 : decide (c < 240) = true := by simp; omega
  have d6 : decide (240 ≤ c) = false := by simp; omega
  have d7 : decide (c < 248) = true := by simp; omega
  go_enter Tryz.func199, Tryz.ntmps199
  go_wp2
  refine bodyPost_ret (v := .tuple #[.int .i64 0, .int .i64 (c), .int .i64 1]) (by simp [results, Tryz.results199, go_sem]) rfl ⟨rfl, rfl⟩

theorem shape_2 (c : Int) (h0 : 128 ≤ c) (h1 : c ≤ 191) (w : World) : Calls Tryz.prog 199 #[.int .u8 c] w fun e w' => e = .returned (.tuple #[.int .i64 0, .int .i64 (0), .int .i64 1]) ∧ w = w' := by
  have d0 : decide (1 ≤ c) = true := by simp; omega
  have d1 : decide (c < 128) = false := by simp; omega
  have d2 : decide (192 ≤ c) = false := by simp; omega
  have d3 : decide (c < 224) = true := by simp; omega
  have d4 : decide (224 ≤ c) = false := by simp; omega
  have d5 : decide (c < 240) = true := by simp; omega
  have d6 : decide (240 ≤ c) = false := by simp; omega
  have d7 : decide (c < 248) = true := by simp; omega
  go_enter Tryz.func199, Tryz.ntmps199
  go_wp2
  refine bodyPost_ret (v := .tuple #[.int .i64 0, .int .i64 (0), .int .i64 1]) (by simp [results, Tryz.results199, go_sem]) rfl ⟨rfl, rfl⟩

theorem shape_3 (c : Int) (h0 : 192 ≤ c) (h1 : c ≤ 223) (w : World) : Calls Tryz.prog 199 #[.int .u8 c] w fun e w' => e = .returned (.tuple #[.int .i64 1, .int .i64 (c - 192), .int .i64 128]) ∧ w = w' := by
  have d0 : decide (1 ≤ c) = true := by simp; omega
  have d1 : decide (c < 128) = false := by simp; omega
  have d2 : decide (192 ≤ c) = true := by simp; omega
  have d3 : decide (c < 224) = true := by simp; omega
  have d4 : decide (224 ≤ c) = false := by simp; omega
  have d5 : decide (c < 240) = true := by simp; omega
  have d6 : decide (240 ≤ c) = false := by simp; omega
  have d7 : decide (c < 248) = true := by simp; omega
  have b0 : bits .and .u8 c 31 = c - 192 := by
    obtain ⟨k, rfl⟩ := Int.eq_ofNat_of_zero_le (show 0 ≤ c by omega)
    have h : ∀ i : Fin 256, 192 ≤ i.val → i.val ≤ 223 → bits .and .u8 ((i.val : Nat) : Int) 31 = (i.val : Int) - 192 := by decide +kernel
    exact h ⟨k, by omega⟩ (by simp; omega) (by simp; omega)
  go_enter Tryz.func199, Tryz.ntmps199
  go_wp2
  refine bodyPost_ret (v := .tuple #[.int .i64 1, .int .i64 (c - 192), .int .i64 128]) (by simp [results, Tryz.results199, go_sem]) rfl ⟨rfl, rfl⟩

theorem shape_4 (c : Int) (h0 : 224 ≤ c) (h1 : c ≤ 239) (w : World) : Calls Tryz.prog 199 #[.int .u8 c] w fun e w' => e = .returned (.tuple #[.int .i64 2, .int .i64 (c - 224), .int .i64 2048]) ∧ w = w' := by
  have d0 : decide (1 ≤ c) = true := by simp; omega
  have d1 : decide (c < 128) = false := by simp; omega
  have d2 : decide (192 ≤ c) = true := by simp; omega
  have d3 : decide (c < 224) = false := by simp; omega
  have d4 : decide (224 ≤ c) = true := by simp; omega
  have d5 : decide (c < 240) = true := by simp; omega
  have d6 : decide (240 ≤ c) = false := by simp; omega
  have d7 : decide (c < 248) = true := by simp; omega
  have b0 : bits .and .u8 c 15 = c - 224 := by
    obtain ⟨k, rfl⟩ := Int.eq_ofNat_of_zero_le (show 0 ≤ c by omega)
    have h : ∀ i : Fin 256, 224 ≤ i.val → i.val ≤ 239 → bits .and .u8 ((i.val : Nat) : Int) 15 = (i.val : Int) - 224 := by decide +kernel
    exact h ⟨k, by omega⟩ (by simp; omega) (by simp; omega)
  go_enter Tryz.func199, Tryz.ntmps199
  go_wp2
  refine bodyPost_ret (v := .tuple #[.int .i64 2, .int .i64 (c - 224), .int .i64 2048]) (by simp [results, Tryz.results199, go_sem]) rfl ⟨rfl, rfl⟩

theorem shape_5 (c : Int) (h0 : 240 ≤ c) (h1 : c ≤ 247) (w : World) : Calls Tryz.prog 199 #[.int .u8 c] w fun e w' => e = .returned (.tuple #[.int .i64 3, .int .i64 (c - 240), .int .i64 65536]) ∧ w = w' := by
  have d0 : decide (1 ≤ c) = true := by simp; omega
  have d1 : decide (c < 128) = false := by simp; omega
  have d2 : decide (192 ≤ c) = true := by simp; omega
  have d3 : decide (c < 224) = false := by simp; omega
  have d4 : decide (224 ≤ c) = true := by simp; omega
  have d5 : decide (c < 240) = false := by simp; omega
  have d6 : decide (240 ≤ c) = true := by simp; omega
  have d7 : decide (c < 248) = true := by simp; omega
  have b0 : bits .and .u8 c 7 = c - 240 := by
    obtain ⟨k, rfl⟩ := Int.eq_ofNat_of_zero_le (show 0 ≤ c by omega)
    have h : ∀ i : Fin 256, 240 ≤ i.val → i.val ≤ 247 → bits .and .u8 ((i.val : Nat) : Int) 7 = (i.val : Int) - 240 := by decide +kernel
    exact h ⟨k, by omega⟩ (by simp; omega) (by simp; omega)
  go_enter Tryz.func199, Tryz.ntmps199
  go_wp2
  refine bodyPost_ret (v := .tuple #[.int .i64 3, .int .i64 (c - 240), .int .i64 65536]) (by simp [results, Tryz.results199, go_sem]) rfl ⟨rfl, rfl⟩

theorem shape_6 (c : Int) (h0 : 248 ≤ c) (h1 : c ≤ 255) (w : World) : Calls Tryz.prog 199 #[.int .u8 c] w fun e w' => e = .returned (.tuple #[.int .i64 0, .int .i64 (0), .int .i64 1]) ∧ w = w' := by
  have d0 : decide (1 ≤ c) = true := by simp; omega
  have d1 : decide (c < 128) = false := by simp; omega
  have d2 : decide (192 ≤ c) = true := by simp; omega
  have d3 : decide (c < 224) = false := by simp; omega
  have d4 : decide (224 ≤ c) = true := by simp; omega
  have d5 : decide (c < 240) = false := by simp; omega
  have d6 : decide (240 ≤ c) = true := by simp; omega
  have d7 : decide (c < 248) = false := by simp; omega
  go_enter Tryz.func199, Tryz.ntmps199
  go_wp2
  refine bodyPost_ret (v := .tuple #[.int .i64 0, .int .i64 (0), .int .i64 1]) (by simp [results, Tryz.results199, go_sem]) rfl ⟨rfl, rfl⟩

theorem shape_any (c : Int) (h0 : 0 ≤ c) (h1 : c < 256) (w : World) : Calls Tryz.prog 199 #[.int .u8 c] w fun e w' => e = .returned (.tuple #[.int .i64 (uShape c).1, .int .i64 (uShape c).2.1, .int .i64 (uShape c).2.2]) ∧ w = w' := by
  unfold uShape
  by_cases k0 : c < 1
  · rw [if_pos k0]; exact shape_0 c (by omega) (by omega) w
  by_cases k1 : c < 128
  · rw [if_neg k0, if_pos k1]; exact shape_1 c (by omega) (by omega) w
  by_cases k2 : c < 192
  · rw [if_neg k0, if_neg k1, if_pos k2]; exact shape_2 c (by omega) (by omega) w
  by_cases k3 : c < 224
  · rw [if_neg k0, if_neg k1, if_neg k2, if_pos k3]; exact shape_3 c (by omega) (by omega) w
  by_cases k4 : c < 240
  · rw [if_neg k0, if_neg k1, if_neg k2, if_neg k3, if_pos k4]; exact shape_4 c (by omega) (by omega) w
  by_cases k5 : c < 248
  · rw [if_neg k0, if_neg k1, if_neg k2, if_neg k3, if_neg k4, if_pos k5]; exact shape_5 c (by omega) (by omega) w
  rw [if_neg k0, if_neg k1, if_neg k2, if_neg k3, if_neg k4, if_neg k5]; exact shape_6 c (by omega) (by omega) w
end Go.Proofs.YtmmahkckemclaaaGreatDoor
