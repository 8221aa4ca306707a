/- What the laid seven kinds give. No condition. -/
import Derived.Test.YtmmahkckemclaaaGreatDoorPropI
import Derived.Test.YtmmahkckemclaaaGreatDoorRows
import Derived.Stop.LaidTwo
import Derived.LaidSub
import Derived.LaidLaws
namespace Go.Proofs.YtmmahkckemclaaaGreatDoor
open Go.RowKit
set_option maxRecDepth 100000

def kindRow (n : String) (t : List UInt8) : String × DataW Unit := (n, .iface "*errors.errorString" (.ptr (.agg [.lit (.string t)])))
def laid7 : List (String × DataW Unit) := [
kindRow "towncrier/api.ErrShort" [116, 111, 111, 32, 102, 101, 119, 32, 98, 121, 116, 101, 115],
  kindRow "towncrier/api.ErrMalformed" [109, 97, 108, 102, 111, 114, 109, 101, 100],
  kindRow "towncrier/api.ErrProtocol" [97, 103, 97, 105, 110, 115, 116, 32, 116, 104, 101, 32, 112, 114, 111, 116, 111, 99, 111, 108],
  kindRow "towncrier/api.ErrTooLarge" [116, 111, 111, 32, 108, 97, 114, 103, 101],
  kindRow "towncrier/api.ErrQuota" [110, 111, 32, 114, 111, 111, 109],
  kindRow "towncrier/api.ErrState" [110, 111, 116, 32, 110, 111, 119],
  kindRow "towncrier/api.ErrArgument" [110, 111, 32, 115, 117, 99, 104, 32, 116, 104, 105, 110, 103]]
theorem star_es : "*" ++ "errors.errorString" = "*errors.errorString" := by decide
theorem row_es (u : TypeId) (h : Tryz.prog.typeName? 3 u = some "*errors.errorString") : u = 225 :=
  typeName_ptr_named (nm := "errors.errorString") (by rw [star_es]; kernel_rfl) (by kernel_rfl) (by decide) u (by rw [star_es]; exact h)
theorem cells_es : Tryz.prog.cellsOf 245 = 1 := by kernel_rfl
theorem cells_str : Tryz.prog.cellsOf 9 = 1 := by kernel_rfl

theorem sent2 {W : World} (h : laidMet Tryz.prog laid7 W) (n0 n1 : String) (t0 t1 : List UInt8) (g0 g1 : Nat) (hf : laid7.filter (fun x => x.1 == n0 || x.1 == n1) = [kindRow n0 t0, kindRow n1 t1])
    (hg0 : Tryz.prog.globalNamed n0 = some g0) (ht0 : (Tryz.prog.globals[g0]?).map (·.type) = some 46) (hg1 : Tryz.prog.globalNamed n1 = some g1) (ht1 : (Tryz.prog.globals[g1]?).map (·.type) = some 46) :
    ∃ a0 a1 : Addr, W.cell? ⟨g0, 0, none⟩ = some (.iface 225 (.pointer (some a0))) ∧ W.cell? ⟨g1, 0, none⟩ = some (.iface 225 (.pointer (some a1))) ∧ a0 ≠ a1 ∧
      (∃ c t, W.heap[a0.block]? = some (.cells c t (0, 0))) ∧ (∃ c t, W.heap[a1.block]? = some (.cells c t (0, 0))) := by
  have h2 := h.filter (fun x => x.1 == n0 || x.1 == n1)
  rw [hf] at h2
  obtain ⟨a0, a1, s0, s1, c0, c1, u0, u1, hv0, hv1, hc0, hs0, hz0, hc1, hs1, hz1, hne, hb0, hb1⟩ := laid_sentinels2 h2 hg0 ht0 hg1 ht1 Tryz.underlying46 row_es Tryz.underlying225 Tryz.underlying245 rfl rfl Tryz.underlying9 cells_es cells_str
  exact ⟨a0, a1, by simpa using World.var?_cell hg0 hv0 0, by simpa using World.var?_cell hg1 hv1 0, hne, ⟨c0, u0, hb0⟩, ⟨c1, u1, hb1⟩⟩

/-- A kind's address, out of a world. -/
def addrAt (W : World) (g : Nat) : Addr := match W.cell? ⟨g, 0, none⟩ with
  | some (.iface _ (.pointer (some a))) => a
  | _ => ⟨0, 0, none⟩
def mkGE (W : World) : GE := ⟨fun k => addrAt W (gix k), W.heap.size⟩
theorem addrAt_of {W : World} {g : Nat} {t : TypeId} {a : Addr} (h : W.cell? ⟨g, 0, none⟩ = some (.iface t (.pointer (some a)))) : addrAt W g = a := by
  unfold addrAt; rw [h]
theorem lt_of_blk {W : World} {b : Nat} {o : Obj} (h : W.heap[b]? = some o) : b < W.heap.size := (Array.getElem?_eq_some_iff.1 h).1

theorem glob_of {W : World} (h : laidMet Tryz.prog laid7 W) : Glob (mkGE W) W := by
  obtain ⟨a12, b12, p12, q12, n12, r12, s12⟩ := sent2 h "towncrier/api.ErrShort" "towncrier/api.ErrMalformed" _ _ 3 0 rfl (by kernel_rfl) (by kernel_rfl) (by kernel_rfl) (by kernel_rfl)
  obtain ⟨a13, b13, p13, q13, n13, r13, s13⟩ := sent2 h "towncrier/api.ErrShort" "towncrier/api.ErrProtocol" _ _ 3 1 rfl (by kernel_rfl) (by kernel_rfl) (by kernel_rfl) (by kernel_rfl)
  obtain ⟨a14, b14, p14, q14, n14, r14, s14⟩ := sent2 h "towncrier/api.ErrShort" "towncrier/api.ErrTooLarge" _ _ 3 4 rfl (by kernel_rfl) (by kernel_rfl) (by kernel_rfl) (by kernel_rfl)
  obtain ⟨a15, b15, p15, q15, n15, r15, s15⟩ := sent2 h "towncrier/api.ErrShort" "towncrier/api.ErrQuota" _ _ 3 5 rfl (by kernel_rfl) (by kernel_rfl) (by kernel_rfl) (by kernel_rfl)
  obtain ⟨a16, b16, p16, q16, n16, r16, s16⟩ := sent2 h "towncrier/api.ErrShort" "towncrier/api.ErrState" _ _ 3 6 rfl (by kernel_rfl) (by kernel_rfl) (by kernel_rfl) (by kernel_rfl)
  obtain ⟨a17, b17, p17, q17, n17, r17, s17⟩ := sent2 h "towncrier/api.ErrShort" "towncrier/api.ErrArgument" _ _ 3 2 rfl (by kernel_rfl) (by kernel_rfl) (by kernel_rfl) (by kernel_rfl)
  obtain ⟨a23, b23, p23, q23, n23, r23, s23⟩ := sent2 h "towncrier/api.ErrMalformed" "towncrier/api.ErrProtocol" _ _ 0 1 rfl (by kernel_rfl) (by kernel_rfl) (by kernel_rfl) (by kernel_rfl)
  obtain ⟨a24, b24, p24, q24, n24, r24, s24⟩ := sent2 h "towncrier/api.ErrMalformed" "towncrier/api.ErrTooLarge" _ _ 0 4 rfl (by kernel_rfl) (by kernel_rfl) (by kernel_rfl) (by kernel_rfl)
  obtain ⟨a25, b25, p25, q25, n25, r25, s25⟩ := sent2 h "towncrier/api.ErrMalformed" "towncrier/api.ErrQuota" _ _ 0 5 rfl (by kernel_rfl) (by kernel_rfl) (by kernel_rfl) (by kernel_rfl)
  obtain ⟨a26, b26, p26, q26, n26, r26, s26⟩ := sent2 h "towncrier/api.ErrMalformed" "towncrier/api.ErrState" _ _ 0 6 rfl (by kernel_rfl) (by kernel_rfl) (by kernel_rfl) (by kernel_rfl)
  obtain ⟨a27, b27, p27, q27, n27, r27, s27⟩ := sent2 h "towncrier/api.ErrMalformed" "towncrier/api.ErrArgument" _ _ 0 2 rfl (by kernel_rfl) (by kernel_rfl) (by kernel_rfl) (by kernel_rfl)
  obtain ⟨a34, b34, p34, q34, n34, r34, s34⟩ := sent2 h "towncrier/api.ErrProtocol" "towncrier/api.ErrTooLarge" _ _ 1 4 rfl (by kernel_rfl) (by kernel_rfl) (by kernel_rfl) (by kernel_rfl)
  obtain ⟨a35, b35, p35, q35, n35, r35, s35⟩ := sent2 h "towncrier/api.ErrProtocol" "towncrier/api.ErrQuota" _ _ 1 5 rfl (by kernel_rfl) (by kernel_rfl) (by kernel_rfl) (by kernel_rfl)
  obtain ⟨a36, b36, p36, q36, n36, r36, s36⟩ := sent2 h "towncrier/api.ErrProtocol" "towncrier/api.ErrState" _ _ 1 6 rfl (by kernel_rfl) (by kernel_rfl) (by kernel_rfl) (by kernel_rfl)
  obtain ⟨a37, b37, p37, q37, n37, r37, s37⟩ := sent2 h "towncrier/api.ErrProtocol" "towncrier/api.ErrArgument" _ _ 1 2 rfl (by kernel_rfl) (by kernel_rfl) (by kernel_rfl) (by kernel_rfl)
  obtain ⟨a45, b45, p45, q45, n45, r45, s45⟩ := sent2 h "towncrier/api.ErrTooLarge" "towncrier/api.ErrQuota" _ _ 4 5 rfl (by kernel_rfl) (by kernel_rfl) (by kernel_rfl) (by kernel_rfl)
  obtain ⟨a46, b46, p46, q46, n46, r46, s46⟩ := sent2 h "towncrier/api.ErrTooLarge" "towncrier/api.ErrState" _ _ 4 6 rfl (by kernel_rfl) (by kernel_rfl) (by kernel_rfl) (by kernel_rfl)
  obtain ⟨a47, b47, p47, q47, n47, r47, s47⟩ := sent2 h "towncrier/api.ErrTooLarge" "towncrier/api.ErrArgument" _ _ 4 2 rfl (by kernel_rfl) (by kernel_rfl) (by kernel_rfl) (by kernel_rfl)
  obtain ⟨a56, b56, p56, q56, n56, r56, s56⟩ := sent2 h "towncrier/api.ErrQuota" "towncrier/api.ErrState" _ _ 5 6 rfl (by kernel_rfl) (by kernel_rfl) (by kernel_rfl) (by kernel_rfl)
  obtain ⟨a57, b57, p57, q57, n57, r57, s57⟩ := sent2 h "towncrier/api.ErrQuota" "towncrier/api.ErrArgument" _ _ 5 2 rfl (by kernel_rfl) (by kernel_rfl) (by kernel_rfl) (by kernel_rfl)
  obtain ⟨a67, b67, p67, q67, n67, r67, s67⟩ := sent2 h "towncrier/api.ErrState" "towncrier/api.ErrArgument" _ _ 6 2 rfl (by kernel_rfl) (by kernel_rfl) (by kernel_rfl) (by kernel_rfl)
  rw [← addrAt_of p12, ← addrAt_of q12] at n12
  rw [← addrAt_of p13, ← addrAt_of q13] at n13
  rw [← addrAt_of p14, ← addrAt_of q14] at n14
  rw [← addrAt_of p15, ← addrAt_of q15] at n15
  rw [← addrAt_of p16, ← addrAt_of q16] at n16
  rw [← addrAt_of p17, ← addrAt_of q17] at n17
  rw [← addrAt_of p23, ← addrAt_of q23] at n23
  rw [← addrAt_of p24, ← addrAt_of q24] at n24
  rw [← addrAt_of p25, ← addrAt_of q25] at n25
  rw [← addrAt_of p26, ← addrAt_of q26] at n26
  rw [← addrAt_of p27, ← addrAt_of q27] at n27
  rw [← addrAt_of p34, ← addrAt_of q34] at n34
  rw [← addrAt_of p35, ← addrAt_of q35] at n35
  rw [← addrAt_of p36, ← addrAt_of q36] at n36
  rw [← addrAt_of p37, ← addrAt_of q37] at n37
  rw [← addrAt_of p45, ← addrAt_of q45] at n45
  rw [← addrAt_of p46, ← addrAt_of q46] at n46
  rw [← addrAt_of p47, ← addrAt_of q47] at n47
  rw [← addrAt_of p56, ← addrAt_of q56] at n56
  rw [← addrAt_of p57, ← addrAt_of q57] at n57
  rw [← addrAt_of p67, ← addrAt_of q67] at n67
  have at_ : ∀ k, 1 ≤ k → k ≤ 7 → W.cell? ⟨gix k, 0, none⟩ = some ((mkGE W).kd k) := by
    intro k h1 h2
    match k, h1, h2 with
    | 1, _, _ => exact p12.trans (by have e : (mkGE W).a 1 = a12 := addrAt_of p12; unfold GE.kd; rw [e])
    | 2, _, _ => exact p23.trans (by have e : (mkGE W).a 2 = a23 := addrAt_of p23; unfold GE.kd; rw [e])
    | 3, _, _ => exact p34.trans (by have e : (mkGE W).a 3 = a34 := addrAt_of p34; unfold GE.kd; rw [e])
    | 4, _, _ => exact p45.trans (by have e : (mkGE W).a 4 = a45 := addrAt_of p45; unfold GE.kd; rw [e])
    | 5, _, _ => exact p56.trans (by have e : (mkGE W).a 5 = a56 := addrAt_of p56; unfold GE.kd; rw [e])
    | 6, _, _ => exact p67.trans (by have e : (mkGE W).a 6 = a67 := addrAt_of p67; unfold GE.kd; rw [e])
    | 7, _, _ => exact q67.trans (by have e : (mkGE W).a 7 = b67 := addrAt_of q67; unfold GE.kd; rw [e])
  have blk : ∀ k, 1 ≤ k → k ≤ 7 → ∃ c t, W.heap[((mkGE W).a k).block]? = some (.cells c t (0, 0)) := by
    intro k h1 h2
    match k, h1, h2 with
    | 1, _, _ => have e : (mkGE W).a 1 = a12 := addrAt_of p12; rw [e]; exact r12
    | 2, _, _ => have e : (mkGE W).a 2 = a23 := addrAt_of p23; rw [e]; exact r23
    | 3, _, _ => have e : (mkGE W).a 3 = a34 := addrAt_of p34; rw [e]; exact r34
    | 4, _, _ => have e : (mkGE W).a 4 = a45 := addrAt_of p45; rw [e]; exact r45
    | 5, _, _ => have e : (mkGE W).a 5 = a56 := addrAt_of p56; rw [e]; exact r56
    | 6, _, _ => have e : (mkGE W).a 6 = a67 := addrAt_of p67; rw [e]; exact r67
    | 7, _, _ => have e : (mkGE W).a 7 = b67 := addrAt_of q67; rw [e]; exact s67
  have lt7 : ∀ k, 1 ≤ k → k ≤ 7 → gix k < (mkGE W).B := fun k h1 h2 => World.block_lt_of_cell? _ _ (at_ k h1 h2)
  refine ⟨at_, ?_, Nat.le_refl _, ?_, blk, ?_⟩
  · intro k
    match k with
    | 0 => exact lt7 7 (by omega) (by omega)
    | 1 => exact lt7 1 (by omega) (by omega)
    | 2 => exact lt7 2 (by omega) (by omega)
    | 3 => exact lt7 3 (by omega) (by omega)
    | 4 => exact lt7 4 (by omega) (by omega)
    | 5 => exact lt7 5 (by omega) (by omega)
    | 6 => exact lt7 6 (by omega) (by omega)
    | 7 => exact lt7 7 (by omega) (by omega)
    | k + 8 => exact lt7 7 (by omega) (by omega)
  · intro i j i1 i7 j1 j7 hij
    match i, j, i1, i7, j1, j7, hij with
    | 1, 1, _, _, _, _, hij => exact absurd rfl hij
    | 1, 2, _, _, _, _, _ => exact n12
    | 1, 3, _, _, _, _, _ => exact n13
    | 1, 4, _, _, _, _, _ => exact n14
    | 1, 5, _, _, _, _, _ => exact n15
    | 1, 6, _, _, _, _, _ => exact n16
    | 1, 7, _, _, _, _, _ => exact n17
    | 2, 1, _, _, _, _, _ => exact Ne.symm n12
    | 2, 2, _, _, _, _, hij => exact absurd rfl hij
    | 2, 3, _, _, _, _, _ => exact n23
    | 2, 4, _, _, _, _, _ => exact n24
    | 2, 5, _, _, _, _, _ => exact n25
    | 2, 6, _, _, _, _, _ => exact n26
    | 2, 7, _, _, _, _, _ => exact n27
    | 3, 1, _, _, _, _, _ => exact Ne.symm n13
    | 3, 2, _, _, _, _, _ => exact Ne.symm n23
    | 3, 3, _, _, _, _, hij => exact absurd rfl hij
    | 3, 4, _, _, _, _, _ => exact n34
    | 3, 5, _, _, _, _, _ => exact n35
    | 3, 6, _, _, _, _, _ => exact n36
    | 3, 7, _, _, _, _, _ => exact n37
    | 4, 1, _, _, _, _, _ => exact Ne.symm n14
    | 4, 2, _, _, _, _, _ => exact Ne.symm n24
    | 4, 3, _, _, _, _, _ => exact Ne.symm n34
    | 4, 4, _, _, _, _, hij => exact absurd rfl hij
    | 4, 5, _, _, _, _, _ => exact n45
    | 4, 6, _, _, _, _, _ => exact n46
    | 4, 7, _, _, _, _, _ => exact n47
    | 5, 1, _, _, _, _, _ => exact Ne.symm n15
    | 5, 2, _, _, _, _, _ => exact Ne.symm n25
    | 5, 3, _, _, _, _, _ => exact Ne.symm n35
    | 5, 4, _, _, _, _, _ => exact Ne.symm n45
    | 5, 5, _, _, _, _, hij => exact absurd rfl hij
    | 5, 6, _, _, _, _, _ => exact n56
    | 5, 7, _, _, _, _, _ => exact n57
    | 6, 1, _, _, _, _, _ => exact Ne.symm n16
    | 6, 2, _, _, _, _, _ => exact Ne.symm n26
    | 6, 3, _, _, _, _, _ => exact Ne.symm n36
    | 6, 4, _, _, _, _, _ => exact Ne.symm n46
    | 6, 5, _, _, _, _, _ => exact Ne.symm n56
    | 6, 6, _, _, _, _, hij => exact absurd rfl hij
    | 6, 7, _, _, _, _, _ => exact n67
    | 7, 1, _, _, _, _, _ => exact Ne.symm n17
    | 7, 2, _, _, _, _, _ => exact Ne.symm n27
    | 7, 3, _, _, _, _, _ => exact Ne.symm n37
    | 7, 4, _, _, _, _, _ => exact Ne.symm n47
    | 7, 5, _, _, _, _, _ => exact Ne.symm n57
    | 7, 6, _, _, _, _, _ => exact Ne.symm n67
    | 7, 7, _, _, _, _, hij => exact absurd rfl hij
  · intro k h1 h2
    obtain ⟨c, t, hb⟩ := blk k h1 h2
    exact lt_of_blk hb
end Go.Proofs.YtmmahkckemclaaaGreatDoor
