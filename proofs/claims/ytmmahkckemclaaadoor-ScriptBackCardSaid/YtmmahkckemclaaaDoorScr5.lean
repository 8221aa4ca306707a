/- Scripts, more: Take. Conditions: fewer than 2^47 bytes; the package variables hold what the program lays there. -/
import Derived.Test.YtmmahkckemclaaaDoorScr4
namespace Go.Proofs.YtmmahkckemclaaaDoor
open Go.RowKit Go.Extern.Stop Go.Stop Go.Extern

def cfg0 : Cfg := ⟨0, 0, 0, 0, 0, 0, 0, 0, 0, 0, 0, 0, 0⟩
/-- What Take answers. -/
def takeS (s : ByteArray) : Cfg × List Ev × Option Flt :=
  match (rHead s ⟨0, none⟩).2.2.1 with
  | some f => (cfg0, [], some f)
  | none => match (rEvs s (rHead s ⟨0, none⟩).2.1.toNat (rHead s ⟨0, none⟩).2.2.2 []).2.1 with
    | some f => (cfg0, [], some f)
    | none => ((rHead s ⟨0, none⟩).1, (rEvs s (rHead s ⟨0, none⟩).2.1.toNat (rHead s ⟨0, none⟩).2.2.2 []).1, none)

theorem rHead_n (s : ByteArray) (st : RSt) : 0 ≤ (rHead s st).2.1 ∧ (rHead s st).2.1 ≤ 16384 := by
  unfold rHead
  split
  · simp
  · unfold rHead2
    split
    · simp
    · split
      · simp
      · rename_i h
        have := (beVal_range (rRaw s (rCfg s (rRaw s st 5).2).2.2 2).1.data.toList).1
        have h' : (rNum 2 s (rCfg s (rRaw s st 5).2).2.2).1 ≤ 16384 := Int.not_lt.1 h
        exact ⟨this, h'⟩
theorem own_mono {w : World} {base base' : Nat} {e : TypeId} {size n : Nat} {v : Value} {xs : List Value} (h : w.ownsRow base e size v n xs) (hb : base' ≤ base) : w.ownsRow base' e size v n xs := by
  obtain ⟨h1, h2⟩ := h
  refine ⟨h1, ?_⟩
  rcases h2 with h2 | ⟨g, cap, cur, hv, hg, r⟩
  · exact Or.inl h2
  · exact Or.inr ⟨g, cap, cur, hv, Nat.le_trans hb hg, r⟩

set_option maxRecDepth 100000 in
set_option maxHeartbeats 4000000 in
theorem take_any (E : GE) (s : ByteArray) (hs : s.size ≤ 140737488355328) (w : World) (hG : Glob E w) :
    Calls Tryd.prog 8 #[.string s] w fun e w' => (∃ v ev, e = .returned (.tuple #[(takeS s).1.v, v, ev]) ∧ w'.ownsRow w.heap.size 49 4 v (takeS s).2.1.length (evs (takeS s).2.1) ∧ ErrIs E w' ev (takeS s).2.2) ∧ Upd Non w w' := by
  have hn := rHead_n s ⟨0, none⟩
  obtain ⟨h, hh⟩ : ∃ h, h = rHead s ⟨0, none⟩ := ⟨_, rfl⟩
  rw [← hh] at hn
  have HH := Lib.hid hh
  clear hh
  obtain ⟨c, n0, f0, st⟩ := h
  obtain ⟨hn0, hn1⟩ := hn
  simp only at hn0 hn1
  obtain ⟨n, rfl⟩ := Int.eq_ofNat_of_zero_le hn0
  have hn2 : n ≤ 16384 := by omega
  have hG0 := hG.non ((Upd.refl Non w).alloc (.cells #[.int .i64 0, .int .i64 0, .int .i64 0, .int .i64 0, .int .i64 0, .int .i64 0, .int .i64 0, .int .i64 0, .int .i64 0, .int .i64 0, .int .i64 0, .int .i64 0, .int .i64 0] 23))
  cases f0 with
  | some f =>
    have hrv : takeS s = (cfg0, [], some f) := by unfold takeS; rw [← HH.out]
    have HRV := Lib.hid hrv
    clear hrv
    go_enter Tryd.func8, Tryd.ntmps8
    go_wp2_with (first
      | (go_at_call 26
         refine (rnew_any E s _ hG0 hs).mono ?_
         rintro e w1 ⟨g, rfl, hR, hg1, hg2, hu1⟩
         have hb1 := Blk.upd (S := Non) (Blk.new w 23 #[.int .i64 0, .int .i64 0, .int .i64 0, .int .i64 0, .int .i64 0, .int .i64 0, .int .i64 0, .int .i64 0, .int .i64 0, .int .i64 0, .int .i64 0, .int .i64 0, .int .i64 0]) hu1 (fun h => h)
         have HB1 := Lib.hid hb1
         have HU1 := Lib.hid hu1
         clear hb1 hu1)
      | (go_at_call 27
         refine (head_any E g s ⟨0, none⟩ _ (hG0.non HU1.out) hR).mono ?_
         rintro e w2 ⟨⟨ev, rfl, he⟩, hR2, hT2⟩
         rw [← HH.out] at he hR2
         rw [← HH.out]
         obtain ⟨k, rfl⟩ := ErrIs.form he
         have HE := Lib.hid he
         clear he
         have hb2 := HB1.out.tch hT2 (by decide)
         obtain ⟨z0, z1, z2, z3, z4, z5, z6, z7, z8, z9, z10, z11, z12⟩ := hb2.cells13
         have hfz := hb2.frozen
         have hlz := hb2.lt
         unfold Cfg.v Cfg.cells))
    refine bodyPost_ret (v := .tuple #[.agg #[.int .i64 0, .int .i64 0, .int .i64 0, .int .i64 0, .int .i64 0, .int .i64 0, .int .i64 0, .int .i64 0, .int .i64 0, .int .i64 0, .int .i64 0, .int .i64 0, .int .i64 0], .slice none 0 0, .iface 90 (.pointer (some ⟨k, 0, none⟩))]) (by simp [results, Tryd.results8, go_sem, *]) rfl ?_
    rw [HRV.out]
    have hU2 : Upd Non w w2 := Upd.trans (Upd.trans ((Upd.refl _ _).alloc _) HU1.out (fun _ _ h => h)) hT2 (fun i hi ⟨hB, _⟩ => by simp at hg1; omega)
    have hbz := hb2.alloc (.cells #[.int .i64 c.c0, .int .i64 c.c1, .int .i64 c.c2, .int .i64 c.c3, .int .i64 c.c4, .int .i64 c.c5, .int .i64 c.c6, .int .i64 c.c7, .int .i64 c.c8, .int .i64 c.c9, .int .i64 c.c10, .int .i64 c.c11, .int .i64 c.c12] 23)
    have hez := ErrIs.non ((Upd.refl _ _).alloc (.cells #[.int .i64 c.c0, .int .i64 c.c1, .int .i64 c.c2, .int .i64 c.c3, .int .i64 c.c4, .int .i64 c.c5, .int .i64 c.c6, .int .i64 c.c7, .int .i64 c.c8, .int .i64 c.c9, .int .i64 c.c10, .int .i64 c.c11, .int .i64 c.c12] 23)) HE.out
    refine ⟨⟨_, _, rfl, own_nil _ _ _ _, ErrIs.one ?_ hbz (by decide) hez⟩, ?_⟩
    · refine Upd.alloc_both ?_ (by simp) _
      repeat (first | (with_reducible exact Upd.refl _ _) | (with_reducible refine Upd.setCell ?_ _ (fun _ => rfl)))
    · refine Upd.alloc ?_ _
      repeat (first | (with_reducible exact hU2) | (with_reducible refine Upd.setCell ?_ _ (fun h => absurd h (by simp))))
  | none =>
    have hev : Hid (takeS s = (match (rEvs s n st []).2.1 with | some f => (cfg0, [], some f) | none => (c, (rEvs s n st []).1, none))) := by
      unfold takeS; rw [← HH.out]; rfl
    obtain ⟨q, hq⟩ : ∃ q, q = rEvs s n st [] := ⟨_, rfl⟩
    rw [← hq] at hev
    have HQ := Lib.hid hq
    clear hq
    obtain ⟨l, f1, st3⟩ := q
    cases f1 with
    | some f =>
      go_enter Tryd.func8, Tryd.ntmps8
      go_wp2_with (first
        | (go_at_call 26
           refine (rnew_any E s _ hG0 hs).mono ?_
           rintro e w1 ⟨g, rfl, hR, hg1, hg2, hu1⟩
           have hb1 := Blk.upd (S := Non) (Blk.new w 23 #[.int .i64 0, .int .i64 0, .int .i64 0, .int .i64 0, .int .i64 0, .int .i64 0, .int .i64 0, .int .i64 0, .int .i64 0, .int .i64 0, .int .i64 0, .int .i64 0, .int .i64 0]) hu1 (fun h => h)
           have HB1 := Lib.hid hb1
           have HU1 := Lib.hid hu1
           clear hb1 hu1)
        | (go_at_call 27
           refine (head_any E g s ⟨0, none⟩ _ (hG0.non HU1.out) hR).mono ?_
           rintro e w2 ⟨⟨ev, rfl, he⟩, hR2, hT2⟩
           rw [← HH.out] at he hR2
           rw [← HH.out]
           obtain rfl : ev = .nilIface := he
           have hU2 : Upd Non w w2 := Upd.trans (Upd.trans ((Upd.refl _ _).alloc _) HU1.out (fun _ _ h => h)) hT2 (fun i hi ⟨hB, _⟩ => by simp at hg1; omega)
           have hG2 := hG.non hU2
           have hb2 := HB1.out.tch hT2 (by decide)
           have HB2 := Lib.hid hb2
           have HU2 := Lib.hid hU2
           have hlz := hb2.lt
           clear hb2 hU2
           unfold Cfg.v Cfg.cells)
        | (go_at_call 28
           have hua : Upd Non w2 (w2.alloc (.cells #[.int .i64 c.c0, .int .i64 c.c1, .int .i64 c.c2, .int .i64 c.c3, .int .i64 c.c4, .int .i64 c.c5, .int .i64 c.c6, .int .i64 c.c7, .int .i64 c.c8, .int .i64 c.c9, .int .i64 c.c10, .int .i64 c.c11, .int .i64 c.c12] 23)) := (Upd.refl _ _).alloc _
           refine (events_any E g s st n hn2 _ (hG2.non hua) (hR2.non hua)).mono ?_
           rintro e w3 ⟨⟨v, ev, rfl, ho, he⟩, hR3, hT3⟩
           rw [← HQ.out] at he ho
           obtain ⟨k, rfl⟩ := ErrIs.form he
           have HE := Lib.hid he
           clear he
           have HO := Lib.hid ho
           clear ho
           have hb3 := (HB2.out.alloc (.cells #[.int .i64 c.c0, .int .i64 c.c1, .int .i64 c.c2, .int .i64 c.c3, .int .i64 c.c4, .int .i64 c.c5, .int .i64 c.c6, .int .i64 c.c7, .int .i64 c.c8, .int .i64 c.c9, .int .i64 c.c10, .int .i64 c.c11, .int .i64 c.c12] 23)).tch hT3 (by decide)
           have hc3 := (Blk.new w2 23 #[.int .i64 c.c0, .int .i64 c.c1, .int .i64 c.c2, .int .i64 c.c3, .int .i64 c.c4, .int .i64 c.c5, .int .i64 c.c6, .int .i64 c.c7, .int .i64 c.c8, .int .i64 c.c9, .int .i64 c.c10, .int .i64 c.c11, .int .i64 c.c12]).tch hT3 (by decide)
           have hU3 : Upd Non w w3 := Upd.trans (Upd.trans HU2.out hua (fun _ _ h => h)) hT3 (fun i hi ⟨hB, _⟩ => by simp at hg1; omega)
           have HU3 := Lib.hid hU3
           have hlz3 := hb3.lt
           have hlc3 := hc3.lt
           obtain ⟨z0, z1, z2, z3, z4, z5, z6, z7, z8, z9, z10, z11, z12⟩ := hb3.cells13
           obtain ⟨k0, k1, k2, k3, k4, k5, k6, k7, k8, k9, k10, k11, k12⟩ := hc3.cells13
           have hfz := hb3.frozen))
      refine bodyPost_ret (v := .tuple #[.agg #[.int .i64 0, .int .i64 0, .int .i64 0, .int .i64 0, .int .i64 0, .int .i64 0, .int .i64 0, .int .i64 0, .int .i64 0, .int .i64 0, .int .i64 0, .int .i64 0, .int .i64 0], .slice none 0 0, .iface 90 (.pointer (some ⟨k, 0, none⟩))]) (by simp [results, Tryd.results8, go_sem, *]) rfl ?_
      rw [hev.out]
      refine ⟨⟨_, _, rfl, own_nil _ _ _ _, ErrIs.one ?_ hb3 (by decide) HE.out⟩, ?_⟩
      · repeat (first | (with_reducible exact Upd.refl _ _) | (with_reducible refine Upd.setCell ?_ _ (fun _ => rfl)))
      · repeat (first | (with_reducible exact hU3) | (with_reducible refine Upd.setCell ?_ _ (fun h => absurd h (by simp))))
    | none =>
      go_enter Tryd.func8, Tryd.ntmps8
      go_wp2_with (first
        | (go_at_call 26
           refine (rnew_any E s _ hG0 hs).mono ?_
           rintro e w1 ⟨g, rfl, hR, hg1, hg2, hu1⟩
           have hb1 := Blk.upd (S := Non) (Blk.new w 23 #[.int .i64 0, .int .i64 0, .int .i64 0, .int .i64 0, .int .i64 0, .int .i64 0, .int .i64 0, .int .i64 0, .int .i64 0, .int .i64 0, .int .i64 0, .int .i64 0, .int .i64 0]) hu1 (fun h => h)
           have HB1 := Lib.hid hb1
           have HU1 := Lib.hid hu1
           clear hb1 hu1)
        | (go_at_call 27
           refine (head_any E g s ⟨0, none⟩ _ (hG0.non HU1.out) hR).mono ?_
           rintro e w2 ⟨⟨ev, rfl, he⟩, hR2, hT2⟩
           rw [← HH.out] at he hR2
           rw [← HH.out]
           obtain rfl : ev = .nilIface := he
           have hU2 : Upd Non w w2 := Upd.trans (Upd.trans ((Upd.refl _ _).alloc _) HU1.out (fun _ _ h => h)) hT2 (fun i hi ⟨hB, _⟩ => by simp at hg1; omega)
           have hG2 := hG.non hU2
           have hb2 := HB1.out.tch hT2 (by decide)
           have HB2 := Lib.hid hb2
           have HU2 := Lib.hid hU2
           have hlz := hb2.lt
           clear hb2 hU2
           unfold Cfg.v Cfg.cells)
        | (go_at_call 28
           have hua : Upd Non w2 (w2.alloc (.cells #[.int .i64 c.c0, .int .i64 c.c1, .int .i64 c.c2, .int .i64 c.c3, .int .i64 c.c4, .int .i64 c.c5, .int .i64 c.c6, .int .i64 c.c7, .int .i64 c.c8, .int .i64 c.c9, .int .i64 c.c10, .int .i64 c.c11, .int .i64 c.c12] 23)) := (Upd.refl _ _).alloc _
           refine (events_any E g s st n hn2 _ (hG2.non hua) (hR2.non hua)).mono ?_
           rintro e w3 ⟨⟨v, ev, rfl, ho, he⟩, hR3, hT3⟩
           rw [← HQ.out] at he ho
           obtain rfl : ev = .nilIface := he
           have HO := Lib.hid ho
           clear ho
           have hb3 := (HB2.out.alloc (.cells #[.int .i64 c.c0, .int .i64 c.c1, .int .i64 c.c2, .int .i64 c.c3, .int .i64 c.c4, .int .i64 c.c5, .int .i64 c.c6, .int .i64 c.c7, .int .i64 c.c8, .int .i64 c.c9, .int .i64 c.c10, .int .i64 c.c11, .int .i64 c.c12] 23)).tch hT3 (by decide)
           have hc3 := (Blk.new w2 23 #[.int .i64 c.c0, .int .i64 c.c1, .int .i64 c.c2, .int .i64 c.c3, .int .i64 c.c4, .int .i64 c.c5, .int .i64 c.c6, .int .i64 c.c7, .int .i64 c.c8, .int .i64 c.c9, .int .i64 c.c10, .int .i64 c.c11, .int .i64 c.c12]).tch hT3 (by decide)
           have hU3 : Upd Non w w3 := Upd.trans (Upd.trans HU2.out hua (fun _ _ h => h)) hT3 (fun i hi ⟨hB, _⟩ => by simp at hg1; omega)
           have HU3 := Lib.hid hU3
           have hlz3 := hb3.lt
           have hlc3 := hc3.lt
           obtain ⟨z0, z1, z2, z3, z4, z5, z6, z7, z8, z9, z10, z11, z12⟩ := hb3.cells13
           obtain ⟨k0, k1, k2, k3, k4, k5, k6, k7, k8, k9, k10, k11, k12⟩ := hc3.cells13
           have hfz := hb3.frozen))
      refine bodyPost_ret (v := .tuple #[.agg #[.int .i64 c.c0, .int .i64 c.c1, .int .i64 c.c2, .int .i64 c.c3, .int .i64 c.c4, .int .i64 c.c5, .int .i64 c.c6, .int .i64 c.c7, .int .i64 c.c8, .int .i64 c.c9, .int .i64 c.c10, .int .i64 c.c11, .int .i64 c.c12], v, .nilIface]) (by simp [results, Tryd.results8, go_sem, *]) rfl ?_
      rw [hev.out]
      have hsz : w.heap.size < (w2.alloc (.cells #[.int .i64 c.c0, .int .i64 c.c1, .int .i64 c.c2, .int .i64 c.c3, .int .i64 c.c4, .int .i64 c.c5, .int .i64 c.c6, .int .i64 c.c7, .int .i64 c.c8, .int .i64 c.c9, .int .i64 c.c10, .int .i64 c.c11, .int .i64 c.c12] 23)).heap.size := by simp; omega
      refine ⟨⟨_, _, rfl, own_mono (own_upd (S := fun i => i = w.heap.size) HO.out ?_ (fun k hk e => by have := own_base HO.out k hk; omega)) (Nat.le_of_lt hsz), rfl⟩, ?_⟩
      · repeat (first | (with_reducible exact Upd.refl _ _) | (with_reducible refine Upd.setCell ?_ _ (fun _ => rfl)))
      · repeat (first | (with_reducible exact HU3.out) | (with_reducible refine Upd.setCell ?_ _ (fun h => absurd h (by simp))))
end Go.Proofs.YtmmahkckemclaaaDoor
