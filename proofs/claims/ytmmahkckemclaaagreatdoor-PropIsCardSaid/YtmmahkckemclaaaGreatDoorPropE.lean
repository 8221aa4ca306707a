/- Properties: DeleteFunc, Without. Conditions: fewer than 2^41 properties. -/
import Derived.Test.YtmmahkckemclaaaGreatDoorPropD
namespace Go.Proofs.YtmmahkckemclaaaGreatDoor
open Go.RowKit

/-- DeleteFunc's row behind j properties, i of which are kept. -/
def Kept (q : Pr → Bool) (l L : List Pr) (i j : Nat) : Prop := L.length = l.length ∧ i < j ∧ L.take i = (l.take j).filter q ∧ L.drop j = l.drop j
theorem Kept.i {q : Pr → Bool} {l L : List Pr} {i j : Nat} (h : Kept q l L i j) (hj : j ≤ l.length) : i = ((l.take j).filter q).length := by
  rw [← h.2.2.1, List.length_take, h.1]
  have := h.2.1
  omega
theorem Kept.at_ {q : Pr → Bool} {l L : List Pr} {i j : Nat} (h : Kept q l L i j) (hj : j < l.length) : ∃ hL : j < L.length, L[j]'hL = l[j]'hj := by
  have hL : j < L.length := by rw [h.1]; exact hj
  refine ⟨hL, ?_⟩
  have h1 := h.2.2.2
  rw [List.drop_eq_getElem_cons hL, List.drop_eq_getElem_cons hj] at h1
  exact (List.cons.inj h1).1
theorem Kept.skip {q : Pr → Bool} {l L : List Pr} {i j : Nat} (h : Kept q l L i j) (hj : j < l.length) (hq : q (l[j]'hj) = false) : Kept q l L i (j + 1) := by
  refine ⟨h.1, by have := h.2.1; omega, ?_, ?_⟩
  · rw [h.2.2.1, List.take_succ_eq_append_getElem hj, List.filter_append]
    simp [hq]
  · have h1 := h.2.2.2
    have h2 : L.drop (j + 1) = (L.drop j).drop 1 := by rw [List.drop_drop]
    have h3 : l.drop (j + 1) = (l.drop j).drop 1 := by rw [List.drop_drop]
    rw [h2, h3, h1]
theorem Kept.keep {q : Pr → Bool} {l L : List Pr} {i j : Nat} (h : Kept q l L i j) (hj : j < l.length) (y : Pr) (hy : l[j]'hj = y) (hq : q y = true) : Kept q l (L.set i y) (i + 1) (j + 1) := by
  have hij := h.2.1
  have hl := h.1
  refine ⟨by rw [List.length_set]; exact h.1, by omega, ?_, ?_⟩
  · rw [List.take_succ_eq_append_getElem hj, List.filter_append, ← h.2.2.1, hy]
    have hi : i < (L.set i y).length := by rw [List.length_set]; omega
    rw [List.take_succ_eq_append_getElem hi, List.getElem_set_self, List.take_set_of_le (Nat.le_refl _)]
    simp [hq]
  · have h1 := h.2.2.2
    have h2 : L.drop (j + 1) = (L.drop j).drop 1 := by rw [List.drop_drop]
    have h3 : l.drop (j + 1) = (l.drop j).drop 1 := by rw [List.drop_drop]
    rw [List.drop_set_of_lt (by omega), h2, h3, h1]

theorem RowB.at4 {w : World} {g : Nat} {L : List Pr} (h : RowB w g L) (k : Nat) (hk : k < L.length) (y : Pr) (hy : L[k]'hk = y) :
    w.cell? ⟨g, k * 4, none⟩ = some (.int .i64 y.id) ∧ w.cell? ⟨g, k * 4 + 1, none⟩ = some (.int .i64 y.n) ∧ w.cell? ⟨g, k * 4 + 2, none⟩ = some (.string y.s) ∧ w.cell? ⟨g, k * 4 + 3, none⟩ = some (.string y.v) := by
  subst hy
  obtain ⟨cur, hb, hs, hc⟩ := h
  refine ⟨?_, ?_, ?_, ?_⟩
  · rw [hb.cell, hc _ (by omega)]; exact prs_get L k 0 hk (by omega)
  · rw [hb.cell, hc _ (by omega)]; exact prs_get L k 1 hk (by omega)
  · rw [hb.cell, hc _ (by omega)]; exact prs_get L k 2 hk (by omega)
  · rw [hb.cell, hc _ (by omega)]; exact prs_get L k 3 hk (by omega)
set_option maxRecDepth 100000 in
set_option maxHeartbeats 8000000 in
theorem pdelf_some (f b g : Nat) (p : Pr → Bool) (eg : ∀ args w, (callFunc f args).run Tryz.prog w = .ok (.enter f args) w) (l : List Pr) (n c : Nat) (hn : l.length = n) (hc : n ≤ c) (hm : n ≤ 1000000000) (w : World) (hB : RowB w g l)
    (hp : TellsB f #[.pointer (some ⟨b, 0, none⟩)] p g w) (k0 : Nat) (hk0 : l.findIdx? p = some k0) :
    Calls Tryz.prog 63 #[.slice (some ⟨g, 0, none⟩) n c, .func (.func f) #[] #[.pointer (some ⟨b, 0, none⟩)]] w fun e w' => (∃ m, e = .returned (.slice (some ⟨g, 0, none⟩) m c) ∧ m = (l.filter fun x => !p x).length) ∧ PrRow w' (some ⟨g, 0, none⟩) (l.filter fun x => !p x) ∧ Upd (fun i => i = g) w w' := by
  have HT := Lib.hid hp
  have HI := Lib.hid (pidxf_any f b p eg (some ⟨g, 0, none⟩) l n c hn w (hB.row (by omega)) (fun W x hu => hp W x hu.of_non))
  rw [show pIdx p l = k0 by unfold pIdx; rw [hk0]] at HI
  have hk := hk0
  rw [List.findIdx?_eq_some_iff_getElem] at hk
  obtain ⟨hkl, hk1, hk2⟩ := hk
  have hst : Kept (fun x => !p x) l l k0 (k0 + 1) := by
    refine ⟨rfl, by omega, ?_, rfl⟩
    rw [List.take_succ_eq_append_getElem hkl, List.filter_append]
    have h1 : (l.take k0).filter (fun x => !p x) = l.take k0 := by
      rw [List.filter_eq_self]
      intro x hx
      obtain ⟨j, hj, rfl⟩ := List.mem_iff_getElem.1 hx
      rw [List.length_take] at hj
      have := hk2 j (by omega)
      rw [List.getElem_take]
      simpa using this
    rw [h1]
    simp [hk1]
  have hkn : k0 < n := by omega
  have hne1 : ((k0 : Int) == -1) = false := beq_eq_false_iff_ne.2 (by omega)
  have HB := Lib.hid hB
  have HN := Lib.hid hn
  have HS := Lib.hid hst
  clear hp hB hn hk0 hk1 hk2 hst
  go_enter Tryz.func63, Tryz.ntmps63
  go_wp2_with (go_at_call 59; refine HI.out.mono ?_; rintro e w1 ⟨rfl, hu⟩; have HU := Lib.hid hu; clear hu)
  go_loopg [5, 6, 7] (n - (k0 + 1)) (fun gg s5 s6 _ wr => ∃ (i j : Nat) (L : List Pr), s5 = .int .i64 i ∧ s6 = .int .i64 j ∧ j ≤ n ∧ Hid (n - j = gg) ∧ Hid (RowB wr g L) ∧ Hid (Kept (fun x => !p x) l L i j) ∧ Hid (Upd (fun i => i = g) w wr))
  case atStart => exact ⟨k0, k0 + 1, l, rfl, by go_num, by omega, Lib.hid rfl, Lib.hid (HB.out.upd HU.out (fun h => h)), HS, Lib.hid HU.out.of_non⟩
  case round =>
    obtain ⟨i, j, L, rfl, rfl, hjn, hgg, hL, hK, hUp⟩ := hrel
    have hij := hK.out.2.1
    by_cases hlt : j < n
    · have hjl : j < l.length := by rw [HN.out]; exact hlt
      obtain ⟨⟨i1, n1, s1, v1⟩, hy⟩ : ∃ y, l[j]'hjl = y := ⟨_, rfl⟩
      obtain ⟨hjL, hyL⟩ := hK.out.at_ hjl
      rw [hy] at hyL
      have hLl := hK.out.1
      obtain ⟨x0, x1, x2, x3⟩ := hL.out.at4 j hjL _ hyL
      have hic : i < c := by omega
      have hiL : i < L.length := by rw [hLl, HN.out]; omega
      obtain ⟨⟨i2, n2, s2, v2⟩, hz⟩ : ∃ z, L[i]'hiL = z := ⟨_, rfl⟩
      have HC := Lib.hid (fun W (hW : Upd (fun i => i = g) w W) => HT.out W ⟨i1, n1, s1, v1⟩ hW)
      have HL := Lib.hid hLl
      have HY := Lib.hid hy
      simp only [Pr.val] at HC x0 x1 x2 x3
      cases hq : p ⟨i1, n1, s1, v1⟩ with
      | true =>
        rw [hq] at HC
        have HQ := Lib.hid hq
        clear hq hz hy hyL hLl
        go_wp2_with (go_at_fn f; refine (HC.out _ (hUp.out.alloc _)).mono ?_; rintro e w2 ⟨rfl, hu⟩; have HU2 := Lib.hid (((Upd.refl Non wr).alloc _).then hu); clear hu)
        go_roundg (gk - 1)
        case measure => have := hgg.out; omega
        case rel =>
          refine ⟨i, j + 1, L, rfl, by go_num, by omega, Lib.hid (by have := hgg.out; omega), Lib.hid (hL.out.upd HU2.out (fun h => h)), Lib.hid (hK.out.skip (by rw [HN.out]; exact hlt) ?_), Lib.hid (hUp.out.then HU2.out.of_non)⟩
          rw [HY.out, HQ.out]; rfl
      | false =>
        rw [hq] at HC
        have HQ := Lib.hid hq
        have HZ := Lib.hid hz
        have hst4 : ∀ W, Upd Non wr W → RowB ((((W.setCell ⟨g, i * 4, none⟩ (.int .i64 i1)).setCell ⟨g, i * 4 + 1, none⟩ (.int .i64 n1)).setCell ⟨g, i * 4 + 2, none⟩ (.string s1)).setCell ⟨g, i * 4 + 3, none⟩ (.string v1)) g (L.set i ⟨i1, n1, s1, v1⟩) := fun W hW => RowB.set4 (hL.out.upd hW (fun h => h)) i hiL ⟨i1, n1, s1, v1⟩
        have HST := Lib.hid hst4
        clear hq hz hy hyL hLl hst4
        go_wp2_with (go_at_fn f
                     refine (HC.out _ (hUp.out.alloc _)).mono ?_
                     rintro e w2 ⟨rfl, hu⟩
                     have hb2 := (Blk.new wr 26 #[.int .i64 i1, .int .i64 n1, .string s1, .string v1]).upd hu (fun h => h)
                     obtain ⟨p0, p1, p2, p3⟩ := Blk.cells4 hb2
                     have HU2 := Lib.hid (((Upd.refl Non wr).alloc _).then hu)
                     have hL2 := hL.out.upd HU2.out (fun h => h)
                     obtain ⟨y0, y1, y2, y3⟩ := hL2.at4 i hiL _ HZ.out
                     have yf := hL2.frozen
                     have hne : g ≠ wr.heap.size := Nat.ne_of_lt hL.out.lt
                     clear hu hb2 hL2)
        go_roundg (gk - 1)
        case measure => have := hgg.out; omega
        case rel =>
          refine ⟨i + 1, j + 1, L.set i ⟨i1, n1, s1, v1⟩, by go_num, by go_num, by omega, Lib.hid (by have := hgg.out; omega), Lib.hid (HST.out _ HU2.out), Lib.hid (hK.out.keep (by rw [HN.out]; exact hlt) _ HY.out ?_), Lib.hid ?_⟩
          · rw [HQ.out]; rfl
          · refine hUp.out.then (Upd.then HU2.out.of_non ?_)
            repeat (first | (with_reducible exact Upd.refl _ _) | (with_reducible refine Upd.setCell ?_ _ (fun _ => rfl)))
    · have hjn' : j = n := by omega
      have hL0 := hL.out
      have hLl := hK.out.1
      have hLn : L.length = n := by rw [hLl, HN.out]
      have hin : i < n := by omega
      have hic : i < c := by omega
      have hfi : i = (l.filter fun x => !p x).length := by
        have h1 := hK.out.i (by rw [HN.out]; exact hjn)
        rw [List.take_of_length_le (by rw [HN.out]; omega)] at h1
        exact h1
      have hLt : L.take i = l.filter fun x => !p x := by
        have h1 := hK.out.2.2.1
        rw [List.take_of_length_le (l := l) (by rw [HN.out]; omega)] at h1
        exact h1
      have hcl : ∃ vs, ∀ ty, (Builtin.clear_ #[22] ty #[.slice (some ⟨g, i * 4, none⟩) (n - i) (c - i)]).run Tryz.prog wr = .ok (.tuple #[]) (wr.setCells g (i * 4) vs) := by
        obtain ⟨cur, hb, hs, _⟩ := hL0
        exact run_clear4 wr g i (n - i) (c - i) cur hb (by omega) (by omega)
      obtain ⟨vs, hcl⟩ := hcl
      have hcw := hL0.clear i (by omega) vs
      rw [hLt] at hcw
      have HF := Lib.hid hfi
      have HCW := Lib.hid hcw
      have HU9 := Lib.hid (hUp.out.then hcw.2)
      clear hjn' hL0 hLl hLn hfi hLt hcw
      go_wp2_with fail
      go_ret
      exact ⟨⟨i, rfl, HF.out⟩, HCW.out.1.row (by have := HF.out; omega), HU9.out⟩
end Go.Proofs.YtmmahkckemclaaaGreatDoor
