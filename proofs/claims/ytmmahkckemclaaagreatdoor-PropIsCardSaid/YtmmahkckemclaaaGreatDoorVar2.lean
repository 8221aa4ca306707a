/- varint.Put. No condition. -/
import Derived.Test.YtmmahkckemclaaaGreatDoorVar1
namespace Go.Proofs.YtmmahkckemclaaaGreatDoor
open Go.RowKit

/-- The bytes of a number. -/
def vBytes (n : Int) : List UInt8 :=
  if vSize n = 1 then [b8 n] else if vSize n = 2 then [b8 (n % 128 + 128), b8 (n / 128)] else if vSize n = 3 then [b8 (n % 128 + 128), b8 (n / 128 % 128 + 128), b8 (n / 128 / 128)]
  else if vSize n = 4 then [b8 (n % 128 + 128), b8 (n / 128 % 128 + 128), b8 (n / 128 / 128 % 128 + 128), b8 (n / 128 / 128 / 128)] else []
theorem or128 (a : Int) (h0 : 0 ≤ a) (h1 : a < 128) : bits .or .i64 a 128 = a + 128 := by
  obtain ⟨m, rfl⟩ := Int.eq_ofNat_of_zero_le h0
  have h : ∀ i : Fin 128, bits .or .i64 ((i.val : Nat) : Int) 128 = (i.val : Int) + 128 := by decide +kernel
  exact h ⟨m, by omega⟩
theorem and127 (a : Int) (h0 : 0 ≤ a) (h1 : a < 128) : bits .and .u8 (a + 128) 127 = a := by
  obtain ⟨m, rfl⟩ := Int.eq_ofNat_of_zero_le h0
  have h : ∀ i : Fin 128, bits .and .u8 ((i.val : Int) + 128) 127 = (i.val : Int) := by decide +kernel
  exact h ⟨m, by omega⟩

/-- The bytes of a block, as a string. -/
theorem blk_string {w : World} {g n cap : Nat} {t : TypeId} {bs : List UInt8} (hb : Blk w g t (u8s bs).toArray) (hn : bs.length = n) :
    (convert 88 9 (.slice (some ⟨g, 0, none⟩) n cap)).run Tryz.prog w = .ok (.string (str bs)) w := by
  have e1 : str bs = strOfNums (bs.map fun b => (b.toNat : Int)) := by
    simp [str, strOfNums, List.map_map, Function.comp_def]
  rw [e1]
  refine run_convert_bytes_arg w 88 5 Tryz.underlying88 Tryz.underlying5 g 0 n cap (bs.map fun b => (b.toNat : Int)) (by simpa using hn) (fun i hi => ?_) 9 Tryz.underlying9
  have hc := hb.cell (0 + i)
  rw [hc]
  simp [u8s, List.getElem?_eq_getElem (show i < bs.length by omega), List.getD_eq_getElem?_getD]
set_option maxRecDepth 20000 in
theorem vmk1 (w : World) : (Instr.makeSlice 88 (.int .i64 1) (.int .i64 1)).run Tryz.prog w = .ok (.slice (some ⟨w.heap.size, 0, none⟩) 1 1) (w.alloc (.cells #[.int .u8 0] 5)) := by kernel_rfl
set_option maxRecDepth 20000 in
set_option maxHeartbeats 1000000 in
theorem put1_any (n : Int) (h0 : 0 ≤ n) (h1 : n < 128) (w : World) : Calls Tryz.prog 162 #[.int .i64 n] w fun e w' => e = .returned (.tuple #[.string (str [b8 n]), .nilIface]) ∧ Upd Non w w' := by
  have hs : vSize n = 1 := by simp only [vSize]; rw [if_neg (by omega), if_pos h1]
  have HS := Lib.hid hs
  clear hs
  have e0 : n.tmod 128 = n := by rw [Int.tmod_eq_emod_of_nonneg h0]; omega
  have o0 := or128 n h0 h1
  have a0 := and127 n h0 h1
  have hmk := vmk1
  have b0 : ((b8 n).toNat : Int) = n := by rw [b8_toNat]; omega
  have hst : ∀ w : World, (convert 88 9 (.slice (some ⟨w.heap.size, 0, none⟩) 1 1)).run Tryz.prog (w.alloc (.cells #[.int .u8 n] 5)) = .ok (.string (str [b8 n])) (w.alloc (.cells #[.int .u8 n] 5)) := fun w => by
    refine blk_string (bs := [b8 n]) (t := 5) ?_ rfl
    have := Blk.new w 5 #[.int .u8 n]
    simpa [u8s, b0] using this
  go_enter Tryz.func162, Tryz.ntmps162
  go_wp2_with (go_at_call 186
               refine (size_any _ _).mono ?_
               rw [HS.out]
               rintro e w' ⟨rfl, rfl⟩)
  refine wp_loop_rounds 2 ?_
  rw [rounds_succ]
  go_wp2
  rw [rounds_succ]
  go_wp2
  go_ret2
  exact ⟨rfl, (Upd.refl _ _).alloc _⟩
end Go.Proofs.YtmmahkckemclaaaGreatDoor
