/- Properties, more: one. Conditions: fewer than 2^47 bytes; the package variables hold what the program lays there. -/
import Derived.Test.YtmmahkckemclaaaGreatDoorProp7
namespace Go.Proofs.YtmmahkckemclaaaGreatDoor
open Go.RowKit

def prZero : Pr := ⟨0, 0, ⟨#[]⟩, ⟨#[]⟩⟩
/-- What one answers: a property, why there is none, the reader. -/
def pOne (s : ByteArray) (st : RSt) (place : Int) (l : List Pr) : Pr × Option Flt × RSt :=
  match (rVar s st).2.f with
  | some f => (prZero, some f, (rVar s st).2)
  | none => match pGround place l (rVar s st).1 st.at_ with
    | some f => (prZero, some f, (rVar s st).2)
    | none => match (pVal s (rVar s st).2 (rVar s st).1).2.f with
      | some f => (prZero, some f, (pVal s (rVar s st).2 (rVar s st).1).2)
      | none => ((pVal s (rVar s st).2 (rVar s st).1).1, pBad (pVal s (rVar s st).2 (rVar s st).1).1 st.at_, (pVal s (rVar s st).2 (rVar s st).1).2)

/-- What a call keeps of a variable of its own. -/
def pKept (g : Nat) (w : World) (W : World) : Prop := Tch g RT w W ∧ Blk W w.heap.size 26 pZero
theorem pKept.stab (g : Nat) (w : World) : Stab g (pKept g w) := fun _ _ ht h => ⟨h.1.trans ht, h.2.tch ht (by decide)⟩
section
variable {E : GE} {g : Nat} {s : ByteArray} {K : World → Prop} {w w1 wf : World} {st st1 : RSt}
theorem pKept.kt (h : RdK E g s K w st) (hT : KT E K) : KT E (pKept g w) := fun _ hW => (hT w h.kept).tch hW.1 h.rd.1
theorem pKept.k (h : RdK E g s K w st) (hK : Stab g K) (hW : pKept g w w1) : K w1 := hK _ _ hW.1 h.kept
theorem pKept.start (h : RdK E g s K w st) : RdK E g s (pKept g w) (w.alloc (.cells pZero 26)) st := by
  have hu := (Upd.refl Non w).alloc (.cells pZero 26)
  exact ⟨h.1.non hu, h.2.1.non hu, Tch.of_non hu, Blk.new w _ _⟩
theorem pKept.fin (H : RdK E g s (pKept g w) w1 st1) (h : RdK E g s K w st) (hK : Stab g K) (hu : Upd (fun i => i = w.heap.size) w1 wf) : RdK E g s K wf st1 := by
  have hb1 := H.kept.2
  have hT : Tch g RT w wf := Upd.trans H.kept.1 hu (fun i hi e => by omega)
  exact ⟨h.1.rd hT h.rd.1, Rd.one hu hb1 (by decide) (by decide) H.rd, hK _ _ hT h.kept⟩
theorem pKept.cells (h : pKept g w w1) : w1.cell? ⟨w.heap.size, 0, none⟩ = some (.int .i64 0) ∧ w1.cell? ⟨w.heap.size, 1, none⟩ = some (.int .i64 0) ∧ w1.cell? ⟨w.heap.size, 2, none⟩ = some (.string ⟨#[]⟩) ∧ w1.cell? ⟨w.heap.size, 3, none⟩ = some (.string ⟨#[]⟩) :=
  ⟨h.2.cell 0, h.2.cell 1, h.2.cell 2, h.2.cell 3⟩
end
theorem Upd.set4 {S : Nat → Prop} {w w' : World} {b : Nat} (h : Upd S w w') (hb : S b) (u0 u1 u2 u3 : Value) : Upd S w ((((w'.setCell ⟨b, 0, none⟩ u0).setCell ⟨b, 1, none⟩ u1).setCell ⟨b, 2, none⟩ u2).setCell ⟨b, 3, none⟩ u3) := by
  refine Upd.setCell (p := ⟨b, 3, none⟩) ?_ _ (fun _ => hb)
  refine Upd.setCell (p := ⟨b, 2, none⟩) ?_ _ (fun _ => hb)
  refine Upd.setCell (p := ⟨b, 1, none⟩) ?_ _ (fun _ => hb)
  exact Upd.setCell (p := ⟨b, 0, none⟩) h _ (fun _ => hb)
theorem set4_far {w : World} {b g : Nat} (h : g ≠ b) (u0 u1 u2 u3 : Value) (i : Nat) : ((((w.setCell ⟨b, 0, none⟩ u0).setCell ⟨b, 1, none⟩ u1).setCell ⟨b, 2, none⟩ u2).setCell ⟨b, 3, none⟩ u3).cell? ⟨g, i, none⟩ = w.cell? ⟨g, i, none⟩ := by
  have hu : Upd (fun j => j = b) w ((((w.setCell ⟨b, 0, none⟩ u0).setCell ⟨b, 1, none⟩ u1).setCell ⟨b, 2, none⟩ u2).setCell ⟨b, 3, none⟩ u3) :=
    Upd.set4 (S := fun j => j = b) (Upd.refl _ _) rfl _ _ _ _
  by_cases hl : g < w.heap.size
  · exact hu.cell (p := ⟨g, i, none⟩) hl h
  · have h1 : w.heap[g]? = none := Array.getElem?_eq_none (by omega)
    refine World.cell?_of_block (w := w) (a := ⟨g, i, none⟩) ?_
    show _ = w.heap[g]?
    rw [h1]
    apply Array.getElem?_eq_none
    simp [World.setCell]
    omega
def OnePost (E : GE) (g : Nat) (s : ByteArray) (K : World → Prop) (r : Pr × Option Flt × RSt) (e : Ending) (w' : World) : Prop :=
  (∃ ev, e = .returned (.tuple #[.agg r.1.cells, ev]) ∧ ErrIs E w' ev r.2.1) ∧ RdK E g s K w' r.2.2

set_option maxRecDepth 100000 in
set_option maxHeartbeats 4000000 in
theorem pone_1 (E : GE) (g : Nat) (s : ByteArray) (K : World → Prop) (st : RSt) (place : Int) (A : Option Addr) (n c : Nat) (w : World) (hK : Stab g K) (hT : KT E K) (h : RdK E g s K w st) (f : Flt) (hf : (rVar s st).2.f = some f) :
    Calls Tryz.prog 117 #[.pointer (some ⟨g, 0, none⟩), .int .i64 place, .slice A n c] w (OnePost E g s K (prZero, some f, (rVar s st).2)) := by
  have H0 : Hid (RdK E g s (pKept g w) (w.alloc (.cells pZero 26)) st) := Lib.hid (pKept.start h)
  have HKT := Lib.hid (pKept.kt h hT)
  have HF := Lib.hid hf
  have HH := Lib.hid h
  have HK := Lib.hid hK
  clear h hK hT hf
  unfold OnePost
  go_enter Tryz.func117, Tryz.ntmps117
  go_wp2_with (first
    | (go_at_call 78; refine (gAt H0.out).mono ?_; rintro e w' ⟨rfl, rfl⟩)
    | (go_at_call 115
       refine (gVar (pKept.stab _ _) HKT.out H0.out).mono ?_
       rintro e w1 ⟨rfl, h1⟩
       obtain ⟨z0, z1, z2, z3⟩ := h1.kept.cells
       have zf : ∀ i, w1.frozen? ⟨w.heap.size, i, none⟩ = false := h1.kept.2.frozen
       have H1 := Lib.hid h1
       clear h1)
    | (go_at_call 80
       refine (gErr_some H1.out HF.out).mono ?_
       rintro e w' ⟨⟨k, rfl, HE⟩, rfl⟩))
  refine bodyPost_ret (v := .tuple #[.agg pZero, .iface 145 (.pointer (some ⟨k, 0, none⟩))]) (by simp [results, Tryz.results117, go_sem, pZero, *]) rfl ⟨⟨_, rfl, ErrIs.one (g := w.heap.size) ?_ H1.out.kept.2 (by decide) HE.out⟩, pKept.fin H1.out HH.out HK.out ?_⟩
  all_goals repeat (first | (with_reducible exact Upd.refl _ _) | (with_reducible refine Upd.setCell ?_ _ (fun _ => rfl)))

set_option maxRecDepth 100000 in
set_option maxHeartbeats 4000000 in
theorem pone_2 (E : GE) (g : Nat) (s : ByteArray) (K : World → Prop) (st : RSt) (place : Int) (A : Option Addr) (l : List Pr) (n c : Nat) (w : World) (hK : Stab g K) (hT : KT E K) (h : RdK E g s K w st) (hRow : ∀ W, K W → PrRow W A l) (hn : l.length = n) (hf : (rVar s st).2.f = none) (f : Flt) (hg : pGround place l (rVar s st).1 st.at_ = some f) :
    Calls Tryz.prog 117 #[.pointer (some ⟨g, 0, none⟩), .int .i64 place, .slice A n c] w (OnePost E g s K (prZero, some f, (rVar s st).2)) := by
  have H0 : Hid (RdK E g s (pKept g w) (w.alloc (.cells pZero 26)) st) := Lib.hid (pKept.start h)
  have HKT := Lib.hid (pKept.kt h hT)
  have HGr : Hid (∀ W, RdK E g s (pKept g w) W (rVar s st).2 → Calls Tryz.prog 160 #[.int .i64 place, .slice A n c, .int .i64 (rVar s st).1, .int .i64 st.at_] W (ErrPost E W (pGround place l (rVar s st).1 st.at_))) := Lib.hid (fun W hW => pground_any E place (rVar s st).1 st.at_ A l n c W hW.glob (hRow W (pKept.k h hK hW.kept)) hn)
  rw [hg] at HGr
  unfold ErrPost at HGr
  have HF := Lib.hid hf
  have HH := Lib.hid h
  have HK := Lib.hid hK
  clear h hK hT hf hg hRow hn
  unfold OnePost
  go_enter Tryz.func117, Tryz.ntmps117
  go_wp2_with (first
    | (go_at_call 78; refine (gAt H0.out).mono ?_; rintro e w' ⟨rfl, rfl⟩)
    | (go_at_call 115
       refine (gVar (pKept.stab _ _) HKT.out H0.out).mono ?_
       rintro e w1 ⟨rfl, h1⟩
       obtain ⟨z0, z1, z2, z3⟩ := h1.kept.cells
       have zf : ∀ i, w1.frozen? ⟨w.heap.size, i, none⟩ = false := h1.kept.2.frozen
       have H1 := Lib.hid h1
       clear h1)
    | (go_at_call 80
       refine (gErr_none H1.out HF.out).mono ?_
       rintro e w' ⟨rfl, rfl⟩)
    | (go_at_call 160
       refine (HGr.out _ H1.out).mono ?_
       rintro e w2 ⟨⟨ev, rfl, he⟩, hu⟩
       obtain ⟨k, rfl⟩ := ErrIs.form he
       have HE := Lib.hid he
       clear he
       have HU := Lib.hid hu
       have H2 := Lib.hid (H1.out.non (pKept.stab _ _) hu)
       obtain ⟨y0, y1, y2, y3⟩ := H2.out.kept.cells
       have yf : ∀ i, w2.frozen? ⟨w.heap.size, i, none⟩ = false := H2.out.kept.2.frozen
       clear hu z0 z1 z2 z3 zf))
  refine bodyPost_ret (v := .tuple #[.agg pZero, .iface 145 (.pointer (some ⟨k, 0, none⟩))]) (by simp [results, Tryz.results117, go_sem, pZero, *]) rfl ⟨⟨_, rfl, ErrIs.one (g := w.heap.size) ?_ H2.out.kept.2 (by decide) HE.out⟩, pKept.fin H2.out HH.out HK.out ?_⟩
  all_goals repeat (first | (with_reducible exact Upd.refl _ _) | (with_reducible refine Upd.setCell ?_ _ (fun _ => rfl)))

set_option maxRecDepth 100000 in
set_option maxHeartbeats 4000000 in
theorem pone_3 (E : GE) (g : Nat) (s : ByteArray) (K : World → Prop) (st : RSt) (place : Int) (A : Option Addr) (l : List Pr) (n c : Nat) (w : World) (hK : Stab g K) (hT : KT E K) (h : RdK E g s K w st) (hRow : ∀ W, K W → PrRow W A l) (hn : l.length = n) (hf : (rVar s st).2.f = none) (hg : pGround place l (rVar s st).1 st.at_ = none) (i1 n1 : Int) (s1 v1 : ByteArray) (st2 : RSt) (hq : pVal s (rVar s st).2 (rVar s st).1 = (⟨i1, n1, s1, v1⟩, st2)) (f : Flt) (hv : st2.f = some f) :
    Calls Tryz.prog 117 #[.pointer (some ⟨g, 0, none⟩), .int .i64 place, .slice A n c] w (OnePost E g s K (prZero, some f, st2)) := by
  have H0 : Hid (RdK E g s (pKept g w) (w.alloc (.cells pZero 26)) st) := Lib.hid (pKept.start h)
  have HKT := Lib.hid (pKept.kt h hT)
  have HGr : Hid (∀ W, RdK E g s (pKept g w) W (rVar s st).2 → Calls Tryz.prog 160 #[.int .i64 place, .slice A n c, .int .i64 (rVar s st).1, .int .i64 st.at_] W (ErrPost E W (pGround place l (rVar s st).1 st.at_))) := Lib.hid (fun W hW => pground_any E place (rVar s st).1 st.at_ A l n c W hW.glob (hRow W (pKept.k h hK hW.kept)) hn)
  rw [hg] at HGr
  unfold ErrPost at HGr
  have HF := Lib.hid hf
  have HV := Lib.hid hv
  have HVal : Hid (∀ W, RdK E g s (pKept g w) W (rVar s st).2 → Calls Tryz.prog 164 #[.pointer (some ⟨g, 0, none⟩), .int .i64 (rVar s st).1] W fun e w' => e = .returned (.agg #[.int .i64 i1, .int .i64 n1, .string s1, .string v1]) ∧ RdK E g s (pKept g w) w' st2) := Lib.hid (fun W hW => by
    have h1 := pvalue_any E g s (pKept g w) (rVar s st).2 (rVar s st).1 W (pKept.stab _ _) HKT.out hW
    rw [hq] at h1
    exact h1)
  have HH := Lib.hid h
  have HK := Lib.hid hK
  clear h hK hT hf hg hRow hn hv hq
  unfold OnePost
  go_enter Tryz.func117, Tryz.ntmps117
  go_wp2_with (first
    | (go_at_call 78; refine (gAt H0.out).mono ?_; rintro e w' ⟨rfl, rfl⟩)
    | (go_at_call 115
       refine (gVar (pKept.stab _ _) HKT.out H0.out).mono ?_
       rintro e w1 ⟨rfl, h1⟩
       obtain ⟨z0, z1, z2, z3⟩ := h1.kept.cells
       have zf : ∀ i, w1.frozen? ⟨w.heap.size, i, none⟩ = false := h1.kept.2.frozen
       have H1 := Lib.hid h1
       clear h1)
    | (go_at_call 160
       refine (HGr.out _ H1.out).mono ?_
       rintro e w2 ⟨⟨ev, rfl, he⟩, hu⟩
       obtain rfl : ev = .nilIface := he
       have HU := Lib.hid hu
       have H2 := Lib.hid (H1.out.non (pKept.stab _ _) hu)
       obtain ⟨y0, y1, y2, y3⟩ := H2.out.kept.cells
       have yf : ∀ i, w2.frozen? ⟨w.heap.size, i, none⟩ = false := H2.out.kept.2.frozen
       clear hu z0 z1 z2 z3 zf)
    | (go_at_call 164
       refine (HVal.out _ H2.out).mono ?_
       rintro e w3 ⟨rfl, h3⟩
       have H3 := Lib.hid h3
       have H4 := Lib.hid (h3.non (pKept.stab _ _) ((Upd.refl Non w3).alloc (.cells #[.int .i64 i1, .int .i64 n1, .string s1, .string v1] 26)))
       obtain ⟨x0, x1, x2, x3⟩ := H4.out.kept.cells
       have xf : ∀ i, (w3.alloc (.cells #[.int .i64 i1, .int .i64 n1, .string s1, .string v1] 26)).frozen? ⟨w.heap.size, i, none⟩ = false := H4.out.kept.2.frozen
       clear h3 y0 y1 y2 y3 yf)
    | (go_at_call 80
       refine (gErr_some H4.out HV.out).mono ?_
       rintro e w' ⟨⟨k, rfl, HE⟩, rfl⟩)
    | (go_at_call 80
       refine (gErr_none H1.out HF.out).mono ?_
       rintro e w' ⟨rfl, rfl⟩))
  refine bodyPost_ret (v := .tuple #[.agg pZero, .iface 145 (.pointer (some ⟨k, 0, none⟩))]) (by simp [results, Tryz.results117, go_sem, pZero, *]) rfl ⟨⟨_, rfl, ErrIs.one (g := w.heap.size) ?_ H4.out.kept.2 (by decide) HE.out⟩, pKept.fin H4.out HH.out HK.out ?_⟩
  all_goals repeat (first | (with_reducible exact Upd.refl _ _) | (with_reducible refine Upd.setCell ?_ _ (fun _ => rfl)))

set_option maxRecDepth 100000 in
set_option maxHeartbeats 4000000 in
theorem pone_4 (E : GE) (g : Nat) (s : ByteArray) (K : World → Prop) (st : RSt) (place : Int) (A : Option Addr) (l : List Pr) (n c : Nat) (w : World) (hK : Stab g K) (hT : KT E K) (h : RdK E g s K w st) (hRow : ∀ W, K W → PrRow W A l) (hn : l.length = n) (hf : (rVar s st).2.f = none) (hg : pGround place l (rVar s st).1 st.at_ = none) (i1 n1 : Int) (s1 v1 : ByteArray) (st2 : RSt) (hq : pVal s (rVar s st).2 (rVar s st).1 = (⟨i1, n1, s1, v1⟩, st2)) (hv : st2.f = none) :
    Calls Tryz.prog 117 #[.pointer (some ⟨g, 0, none⟩), .int .i64 place, .slice A n c] w (OnePost E g s K (⟨i1, n1, s1, v1⟩, pBad ⟨i1, n1, s1, v1⟩ st.at_, st2)) := by
  have H0 : Hid (RdK E g s (pKept g w) (w.alloc (.cells pZero 26)) st) := Lib.hid (pKept.start h)
  have HKT := Lib.hid (pKept.kt h hT)
  have HGr : Hid (∀ W, RdK E g s (pKept g w) W (rVar s st).2 → Calls Tryz.prog 160 #[.int .i64 place, .slice A n c, .int .i64 (rVar s st).1, .int .i64 st.at_] W (ErrPost E W (pGround place l (rVar s st).1 st.at_))) := Lib.hid (fun W hW => pground_any E place (rVar s st).1 st.at_ A l n c W hW.glob (hRow W (pKept.k h hK hW.kept)) hn)
  rw [hg] at HGr
  unfold ErrPost at HGr
  have HF := Lib.hid hf
  have HV := Lib.hid hv
  have HVal : Hid (∀ W, RdK E g s (pKept g w) W (rVar s st).2 → Calls Tryz.prog 164 #[.pointer (some ⟨g, 0, none⟩), .int .i64 (rVar s st).1] W fun e w' => e = .returned (.agg #[.int .i64 i1, .int .i64 n1, .string s1, .string v1]) ∧ RdK E g s (pKept g w) w' st2) := Lib.hid (fun W hW => by
    have h1 := pvalue_any E g s (pKept g w) (rVar s st).2 (rVar s st).1 W (pKept.stab _ _) HKT.out hW
    rw [hq] at h1
    exact h1)
  have HH := Lib.hid h
  have HK := Lib.hid hK
  have HBad : Hid (∀ W, RdK E g s (pKept g w) W st2 → Calls Tryz.prog 161 #[.agg #[.int .i64 i1, .int .i64 n1, .string s1, .string v1], .int .i64 st.at_] W (ErrPost E W (pBad ⟨i1, n1, s1, v1⟩ st.at_))) := Lib.hid (fun W hW => pbad_any E ⟨i1, n1, s1, v1⟩ st.at_ W hW.glob)
  unfold ErrPost at HBad
  clear h hK hT hf hg hRow hn hv hq
  unfold OnePost
  go_enter Tryz.func117, Tryz.ntmps117
  go_wp2_with (first
    | (go_at_call 78; refine (gAt H0.out).mono ?_; rintro e w' ⟨rfl, rfl⟩)
    | (go_at_call 115
       refine (gVar (pKept.stab _ _) HKT.out H0.out).mono ?_
       rintro e w1 ⟨rfl, h1⟩
       obtain ⟨z0, z1, z2, z3⟩ := h1.kept.cells
       have zf : ∀ i, w1.frozen? ⟨w.heap.size, i, none⟩ = false := h1.kept.2.frozen
       have H1 := Lib.hid h1
       clear h1)
    | (go_at_call 160
       refine (HGr.out _ H1.out).mono ?_
       rintro e w2 ⟨⟨ev, rfl, he⟩, hu⟩
       obtain rfl : ev = .nilIface := he
       have HU := Lib.hid hu
       have H2 := Lib.hid (H1.out.non (pKept.stab _ _) hu)
       obtain ⟨y0, y1, y2, y3⟩ := H2.out.kept.cells
       have yf : ∀ i, w2.frozen? ⟨w.heap.size, i, none⟩ = false := H2.out.kept.2.frozen
       clear hu z0 z1 z2 z3 zf)
    | (go_at_call 164
       refine (HVal.out _ H2.out).mono ?_
       rintro e w3 ⟨rfl, h3⟩
       have H3 := Lib.hid h3
       have H4 := Lib.hid (h3.non (pKept.stab _ _) ((Upd.refl Non w3).alloc (.cells #[.int .i64 i1, .int .i64 n1, .string s1, .string v1] 26)))
       obtain ⟨x0, x1, x2, x3⟩ := H4.out.kept.cells
       have xf : ∀ i, (w3.alloc (.cells #[.int .i64 i1, .int .i64 n1, .string s1, .string v1] 26)).frozen? ⟨w.heap.size, i, none⟩ = false := H4.out.kept.2.frozen
       clear h3 y0 y1 y2 y3 yf)
    | (go_at_call 80
       refine (gErr_none H4.out HV.out).mono ?_
       rintro e w' ⟨rfl, rfl⟩)
    | (go_at_call 80
       refine (gErr_none H1.out HF.out).mono ?_
       rintro e w' ⟨rfl, rfl⟩))
  have HBk := Lib.hid (Blk.new w3 26 #[.int .i64 i1, .int .i64 n1, .string s1, .string v1])
  have hne : w3.heap.size ≠ w.heap.size := by have := H3.out.kept.2.lt; omega
  clear x0 x1 x2 x3 xf
  have i0 : (w3.alloc (.cells #[.int .i64 i1, .int .i64 n1, .string s1, .string v1] 26)).drew.cell? ⟨w3.heap.size, 0, none⟩ = some (.int .i64 i1) := HBk.out.cell 0
  have i1' : (w3.alloc (.cells #[.int .i64 i1, .int .i64 n1, .string s1, .string v1] 26)).drew.cell? ⟨w3.heap.size, 1, none⟩ = some (.int .i64 n1) := HBk.out.cell 1
  have i2 : (w3.alloc (.cells #[.int .i64 i1, .int .i64 n1, .string s1, .string v1] 26)).drew.cell? ⟨w3.heap.size, 2, none⟩ = some (.string s1) := HBk.out.cell 2
  have i3 : (w3.alloc (.cells #[.int .i64 i1, .int .i64 n1, .string s1, .string v1] 26)).drew.cell? ⟨w3.heap.size, 3, none⟩ = some (.string v1) := HBk.out.cell 3
  have I5 : Hid (Upd (fun i => i = w.heap.size) (w3.alloc (.cells #[.int .i64 i1, .int .i64 n1, .string s1, .string v1] 26)) (w3.alloc (.cells #[.int .i64 i1, .int .i64 n1, .string s1, .string v1] 26)).drew) := Lib.hid (Upd.drew (Upd.refl _ _))
  go_region_held3 (fun w' => w'.cell? ⟨w3.heap.size, 0, none⟩ = some (.int .i64 i1) ∧ w'.cell? ⟨w3.heap.size, 1, none⟩ = some (.int .i64 n1) ∧ w'.cell? ⟨w3.heap.size, 2, none⟩ = some (.string s1) ∧ w'.cell? ⟨w3.heap.size, 3, none⟩ = some (.string v1) ∧ Hid (Upd (fun i => i = w.heap.size) (w3.alloc (.cells #[.int .i64 i1, .int .i64 n1, .string s1, .string v1] 26)) w')) (first | (with_reducible exact ⟨q0, q1, q2, q3, HU5⟩) | (with_reducible exact ⟨i0, i1', i2, i3, I5⟩) | (with_reducible exact ⟨(set4_far hne _ _ _ _ _).trans q0, (set4_far hne _ _ _ _ _).trans q1, (set4_far hne _ _ _ _ _).trans q2, (set4_far hne _ _ _ _ _).trans q3, Lib.hid (Upd.set4 HU5.out rfl _ _ _ _)⟩))
   (first
    | (go_at_call 161
       refine (HBad.out _ (H4.out.non (pKept.stab _ _) (Upd.drew (Upd.refl _ _)))).mono ?_
       rintro e w4 ⟨⟨ev, rfl, he⟩, hu⟩
       have HU4 := Lib.hid ((Upd.drew (Upd.refl Non (w3.alloc (.cells #[.int .i64 i1, .int .i64 n1, .string s1, .string v1] 26)))).then hu)
       have HU5 : Hid (Upd (fun i => i = w.heap.size) (w3.alloc (.cells #[.int .i64 i1, .int .i64 n1, .string s1, .string v1] 26)) w4) := Lib.hid HU4.out.of_non
       have hb4 := HBk.out.upd HU4.out (fun h => h)
       have q0 : w4.cell? ⟨w3.heap.size, 0, none⟩ = some (.int .i64 i1) := hb4.cell 0
       have q1 : w4.cell? ⟨w3.heap.size, 1, none⟩ = some (.int .i64 n1) := hb4.cell 1
       have q2 : w4.cell? ⟨w3.heap.size, 2, none⟩ = some (.string s1) := hb4.cell 2
       have q3 : w4.cell? ⟨w3.heap.size, 3, none⟩ = some (.string v1) := hb4.cell 3
       have H5 := Lib.hid (H4.out.non (pKept.stab _ _) HU4.out)
       obtain ⟨r0, r1, r2, r3⟩ := H5.out.kept.cells
       have rf : ∀ i, w4.frozen? ⟨w.heap.size, i, none⟩ = false := H5.out.kept.2.frozen
       have HE := Lib.hid he
       clear he hu hb4))
  go_wp2
  refine bodyPost_ret (v := .tuple #[.agg #[.int .i64 i1, .int .i64 n1, .string s1, .string v1], ev]) (by simp [results, Tryz.results117, go_sem, *]) rfl ⟨⟨_, rfl, ErrIs.one (g := w.heap.size) ?_ H5.out.kept.2 (by decide) HE.out⟩, pKept.fin H5.out HH.out HK.out ?_⟩
  all_goals repeat (first | (with_reducible exact Upd.refl _ _) | (with_reducible refine Upd.setCell ?_ _ (fun _ => rfl)) | (with_reducible refine Upd.drew ?_))

theorem pone_any (E : GE) (g : Nat) (s : ByteArray) (K : World → Prop) (st : RSt) (place : Int) (A : Option Addr) (l : List Pr) (n c : Nat) (w : World) (hK : Stab g K) (hT : KT E K) (h : RdK E g s K w st) (hRow : ∀ W, K W → PrRow W A l) (hn : l.length = n) :
    Calls Tryz.prog 117 #[.pointer (some ⟨g, 0, none⟩), .int .i64 place, .slice A n c] w (OnePost E g s K (pOne s st place l)) := by
  unfold pOne
  cases hf : (rVar s st).2.f with
  | some f => exact pone_1 E g s K st place A n c w hK hT h f hf
  | none =>
    cases hg : pGround place l (rVar s st).1 st.at_ with
    | some f => exact pone_2 E g s K st place A l n c w hK hT h hRow hn hf f hg
    | none =>
      obtain ⟨q, hq⟩ : ∃ q, pVal s (rVar s st).2 (rVar s st).1 = q := ⟨_, rfl⟩
      obtain ⟨⟨i1, n1, s1, v1⟩, st2⟩ := q
      simp only [hq]
      cases hv : st2.f with
      | some f => exact pone_3 E g s K st place A l n c w hK hT h hRow hn hf hg i1 n1 s1 v1 st2 hq f hv
      | none => exact pone_4 E g s K st place A l n c w hK hT h hRow hn hf hg i1 n1 s1 v1 st2 hq hv
end Go.Proofs.YtmmahkckemclaaaGreatDoor
