/- Properties, more: value. Conditions: fewer than 2^47 bytes; the package variables hold what the program lays there. -/
import Derived.Test.YtmmahkckemclaaaGreatDoorProp6
namespace Go.Proofs.YtmmahkckemclaaaGreatDoor
open Go.RowKit

/-- What value answers, and does to a reader. -/
def pValT (t : Int) (s : ByteArray) (st : RSt) (id : Int) : Pr × RSt :=
  if t = 1 then (⟨id, (rNum 1 s st).1, ⟨#[]⟩, ⟨#[]⟩⟩, (rNum 1 s st).2)
  else if t = 2 then (⟨id, (rNum 2 s st).1, ⟨#[]⟩, ⟨#[]⟩⟩, (rNum 2 s st).2)
  else if t = 4 then (⟨id, (rNum 4 s st).1, ⟨#[]⟩, ⟨#[]⟩⟩, (rNum 4 s st).2)
  else if t = 5 then (⟨id, (rVar s st).1, ⟨#[]⟩, ⟨#[]⟩⟩, (rVar s st).2)
  else if t = 7 then (⟨id, 0, (rBin s st).1, ⟨#[]⟩⟩, (rBin s st).2)
  else if t = 9 then (⟨id, 0, (rText s st).1, (rText s (rText s st).2).1⟩, (rText s (rText s st).2).2)
  else if t = 6 then (⟨id, 0, (rText s st).1, ⟨#[]⟩⟩, (rText s st).2)
  else (⟨id, 0, ⟨#[]⟩, ⟨#[]⟩⟩, st)
def pVal (s : ByteArray) (st : RSt) (id : Int) : Pr × RSt := pValT (pTy id) s st id

def pZero : Array Value := #[.int .i64 0, .int .i64 0, .string ⟨#[]⟩, .string ⟨#[]⟩]
/-- What a call keeps of two variables of its own. -/
def pTwo (g : Nat) (w : World) (cs : Array Value) (W : World) : Prop := Tch g RT w W ∧ Blk W w.heap.size 26 pZero ∧ Blk W (w.heap.size + 1) 26 cs
theorem pTwo.stab (g : Nat) (w : World) (cs : Array Value) : Stab g (pTwo g w cs) := fun _ _ ht h => ⟨h.1.trans ht, h.2.1.tch ht (by decide), h.2.2.tch ht (by decide)⟩
section
variable {E : GE} {g : Nat} {s : ByteArray} {K : World → Prop} {w w1 wf : World} {st st1 : RSt} {cs : Array Value}
theorem pTwo.kt (h : RdK E g s K w st) (hT : KT E K) : KT E (pTwo g w cs) := fun _ hW => (hT w h.kept).tch hW.1 h.rd.1
theorem pTwo.start (h : RdK E g s K w st) : RdK E g s (pTwo g w cs) ((w.alloc (.cells pZero 26)).alloc (.cells cs 26)) st := by
  have hu := ((Upd.refl Non w).alloc (.cells pZero 26)).alloc (.cells cs 26)
  exact ⟨h.1.non hu, h.2.1.non hu, Tch.of_non hu, (Blk.new w _ _).alloc _, Blk.new_at _ _ _ (by simp)⟩
theorem pTwo.set (H : RdK E g s (pTwo g w cs) w1 st1) (h : RdK E g s K w st) (i : Nat) (u : Value) : RdK E g s (pTwo g w (cs.setIfInBounds i u)) (w1.setCell ⟨w.heap.size + 1, i, none⟩ u) st1 := by
  have hb := H.kept.2.2
  have hu : Upd (fun j => j = w.heap.size + 1) w1 (w1.setCell ⟨w.heap.size + 1, i, none⟩ u) := Upd.setCell (Upd.refl _ _) u (fun _ => rfl)
  refine ⟨H.1.upd hu (fun j hj e => by have := h.1.size; omega), Rd.one hu hb (by decide) (by decide) H.rd, Tch.setNew H.kept.1 (by simp) _, H.kept.2.1.far (by simp) _, hb.set_ i u⟩
theorem pTwo.fin (H : RdK E g s (pTwo g w cs) w1 st1) (h : RdK E g s K w st) (hK : Stab g K) (hu : Upd (fun i => i = w.heap.size ∨ i = w.heap.size + 1) w1 wf) : RdK E g s K wf st1 := by
  have hb1 := H.kept.2.1
  have hb2 := H.kept.2.2
  have hT : Tch g RT w wf := Upd.trans H.kept.1 hu (fun i hi e => by rcases e with rfl | rfl <;> omega)
  obtain ⟨hE, hl, hs, e, hb, he⟩ := H.rd
  refine ⟨h.1.rd hT h.rd.1, ⟨hE, hl, hs, e, hb.upd hu (fun e => ?_), he.upd hu (fun g' cs' hb' e => ?_)⟩, hK _ _ hT h.kept⟩
  · rcases e with rfl | rfl
    · exact hb.ne_ hb1 (by decide) rfl
    · exact hb.ne_ hb2 (by decide) rfl
  · rcases e with rfl | rfl
    · exact hb'.ne_ hb1 (by decide) rfl
    · exact hb'.ne_ hb2 (by decide) rfl
end

set_option maxRecDepth 100000 in
set_option maxHeartbeats 4000000 in
theorem pvalue_1 (E : GE) (g : Nat) (s : ByteArray) (K : World → Prop) (st : RSt) (id : Int) (w : World) (hK : Stab g K) (h : RdK E g s K w st) (ht : pTy id = 1) :
    Calls Tryz.prog 164 #[.pointer (some ⟨g, 0, none⟩), .int .i64 id] w fun e w' => e = .returned (.agg #[.int .i64 id, .int .i64 (rNum 1 s st).1, .string ⟨#[]⟩, .string ⟨#[]⟩]) ∧ RdK E g s K w' (rNum 1 s st).2 := by
  have H0 : Hid (RdK E g s (pTwo g w #[.int .i64 id, .int .i64 0, .string ⟨#[]⟩, .string ⟨#[]⟩]) ((w.alloc (.cells pZero 26)).alloc (.cells #[.int .i64 id, .int .i64 0, .string ⟨#[]⟩, .string ⟨#[]⟩] 26)) st) := Lib.hid (pTwo.start h)
  have HTy := Lib.hid (fun W => ptype_any id W)
  rw [ht] at HTy
  have HH := Lib.hid h
  have HK := Lib.hid hK
  clear h hK ht
  go_enter Tryz.func164, Tryz.ntmps164
  go_wp2_with (first
    | (go_at_call 15; refine (HTy.out _).mono ?_; rintro e w' ⟨rfl, rfl⟩)
    | (go_at_call 144
       refine (gU8 (pTwo.stab _ _ _) H0.out).mono ?_
       rintro e w1 ⟨rfl, h1⟩
       have p0 : w1.cell? ⟨w.heap.size + 1, 0, none⟩ = some (.int .i64 id) := h1.kept.2.2.cell 0
       have p1 : w1.cell? ⟨w.heap.size + 1, 1, none⟩ = some (.int .i64 0) := h1.kept.2.2.cell 1
       have p2 : w1.cell? ⟨w.heap.size + 1, 2, none⟩ = some (.string ⟨#[]⟩) := h1.kept.2.2.cell 2
       have p3 : w1.cell? ⟨w.heap.size + 1, 3, none⟩ = some (.string ⟨#[]⟩) := h1.kept.2.2.cell 3
       have pf : ∀ i, w1.frozen? ⟨w.heap.size + 1, i, none⟩ = false := h1.kept.2.2.frozen
       have z0 : w1.cell? ⟨w.heap.size, 0, none⟩ = some (.int .i64 0) := h1.kept.2.1.cell 0
       have z1 : w1.cell? ⟨w.heap.size, 1, none⟩ = some (.int .i64 0) := h1.kept.2.1.cell 1
       have z2 : w1.cell? ⟨w.heap.size, 2, none⟩ = some (.string ⟨#[]⟩) := h1.kept.2.1.cell 2
       have z3 : w1.cell? ⟨w.heap.size, 3, none⟩ = some (.string ⟨#[]⟩) := h1.kept.2.1.cell 3
       have zf : ∀ i, w1.frozen? ⟨w.heap.size, i, none⟩ = false := h1.kept.2.1.frozen
       have H1 := Lib.hid h1
       have H2 := Lib.hid (pTwo.set h1 HH.out 1 (.int .i64 (rNum 1 s st).1))
       clear h1))
  refine bodyPost_ret (v := .agg #[.int .i64 id, .int .i64 (rNum 1 s st).1, .string ⟨#[]⟩, .string ⟨#[]⟩]) (by simp [results, Tryz.results164, go_sem, *]) rfl ⟨rfl, ?_⟩
  refine pTwo.fin H1.out HH.out HK.out ?_
  repeat (first | (with_reducible exact Upd.refl _ _) | (with_reducible refine Upd.setCell ?_ _ (fun _ => Or.inl rfl)) | (with_reducible refine Upd.setCell ?_ _ (fun _ => Or.inr rfl)))

set_option maxRecDepth 100000 in
set_option maxHeartbeats 4000000 in
theorem pvalue_2 (E : GE) (g : Nat) (s : ByteArray) (K : World → Prop) (st : RSt) (id : Int) (w : World) (hK : Stab g K) (h : RdK E g s K w st) (ht : pTy id = 2) :
    Calls Tryz.prog 164 #[.pointer (some ⟨g, 0, none⟩), .int .i64 id] w fun e w' => e = .returned (.agg #[.int .i64 id, .int .i64 (rNum 2 s st).1, .string ⟨#[]⟩, .string ⟨#[]⟩]) ∧ RdK E g s K w' (rNum 2 s st).2 := by
  have H0 : Hid (RdK E g s (pTwo g w #[.int .i64 id, .int .i64 0, .string ⟨#[]⟩, .string ⟨#[]⟩]) ((w.alloc (.cells pZero 26)).alloc (.cells #[.int .i64 id, .int .i64 0, .string ⟨#[]⟩, .string ⟨#[]⟩] 26)) st) := Lib.hid (pTwo.start h)
  have HTy := Lib.hid (fun W => ptype_any id W)
  rw [ht] at HTy
  have HH := Lib.hid h
  have HK := Lib.hid hK
  clear h hK ht
  go_enter Tryz.func164, Tryz.ntmps164
  go_wp2_with (first
    | (go_at_call 15; refine (HTy.out _).mono ?_; rintro e w' ⟨rfl, rfl⟩)
    | (go_at_call 79
       refine (gU16 (pTwo.stab _ _ _) H0.out).mono ?_
       rintro e w1 ⟨rfl, h1⟩
       have p0 : w1.cell? ⟨w.heap.size + 1, 0, none⟩ = some (.int .i64 id) := h1.kept.2.2.cell 0
       have p1 : w1.cell? ⟨w.heap.size + 1, 1, none⟩ = some (.int .i64 0) := h1.kept.2.2.cell 1
       have p2 : w1.cell? ⟨w.heap.size + 1, 2, none⟩ = some (.string ⟨#[]⟩) := h1.kept.2.2.cell 2
       have p3 : w1.cell? ⟨w.heap.size + 1, 3, none⟩ = some (.string ⟨#[]⟩) := h1.kept.2.2.cell 3
       have pf : ∀ i, w1.frozen? ⟨w.heap.size + 1, i, none⟩ = false := h1.kept.2.2.frozen
       have z0 : w1.cell? ⟨w.heap.size, 0, none⟩ = some (.int .i64 0) := h1.kept.2.1.cell 0
       have z1 : w1.cell? ⟨w.heap.size, 1, none⟩ = some (.int .i64 0) := h1.kept.2.1.cell 1
       have z2 : w1.cell? ⟨w.heap.size, 2, none⟩ = some (.string ⟨#[]⟩) := h1.kept.2.1.cell 2
       have z3 : w1.cell? ⟨w.heap.size, 3, none⟩ = some (.string ⟨#[]⟩) := h1.kept.2.1.cell 3
       have zf : ∀ i, w1.frozen? ⟨w.heap.size, i, none⟩ = false := h1.kept.2.1.frozen
       have H1 := Lib.hid h1
       have H2 := Lib.hid (pTwo.set h1 HH.out 1 (.int .i64 (rNum 2 s st).1))
       clear h1))
  refine bodyPost_ret (v := .agg #[.int .i64 id, .int .i64 (rNum 2 s st).1, .string ⟨#[]⟩, .string ⟨#[]⟩]) (by simp [results, Tryz.results164, go_sem, *]) rfl ⟨rfl, ?_⟩
  refine pTwo.fin H1.out HH.out HK.out ?_
  repeat (first | (with_reducible exact Upd.refl _ _) | (with_reducible refine Upd.setCell ?_ _ (fun _ => Or.inl rfl)) | (with_reducible refine Upd.setCell ?_ _ (fun _ => Or.inr rfl)))

set_option maxRecDepth 100000 in
set_option maxHeartbeats 4000000 in
theorem pvalue_4 (E : GE) (g : Nat) (s : ByteArray) (K : World → Prop) (st : RSt) (id : Int) (w : World) (hK : Stab g K) (h : RdK E g s K w st) (ht : pTy id = 4) :
    Calls Tryz.prog 164 #[.pointer (some ⟨g, 0, none⟩), .int .i64 id] w fun e w' => e = .returned (.agg #[.int .i64 id, .int .i64 (rNum 4 s st).1, .string ⟨#[]⟩, .string ⟨#[]⟩]) ∧ RdK E g s K w' (rNum 4 s st).2 := by
  have H0 : Hid (RdK E g s (pTwo g w #[.int .i64 id, .int .i64 0, .string ⟨#[]⟩, .string ⟨#[]⟩]) ((w.alloc (.cells pZero 26)).alloc (.cells #[.int .i64 id, .int .i64 0, .string ⟨#[]⟩, .string ⟨#[]⟩] 26)) st) := Lib.hid (pTwo.start h)
  have HTy := Lib.hid (fun W => ptype_any id W)
  rw [ht] at HTy
  have HH := Lib.hid h
  have HK := Lib.hid hK
  clear h hK ht
  go_enter Tryz.func164, Tryz.ntmps164
  go_wp2_with (first
    | (go_at_call 15; refine (HTy.out _).mono ?_; rintro e w' ⟨rfl, rfl⟩)
    | (go_at_call 149
       refine (gU32 (pTwo.stab _ _ _) H0.out).mono ?_
       rintro e w1 ⟨rfl, h1⟩
       have p0 : w1.cell? ⟨w.heap.size + 1, 0, none⟩ = some (.int .i64 id) := h1.kept.2.2.cell 0
       have p1 : w1.cell? ⟨w.heap.size + 1, 1, none⟩ = some (.int .i64 0) := h1.kept.2.2.cell 1
       have p2 : w1.cell? ⟨w.heap.size + 1, 2, none⟩ = some (.string ⟨#[]⟩) := h1.kept.2.2.cell 2
       have p3 : w1.cell? ⟨w.heap.size + 1, 3, none⟩ = some (.string ⟨#[]⟩) := h1.kept.2.2.cell 3
       have pf : ∀ i, w1.frozen? ⟨w.heap.size + 1, i, none⟩ = false := h1.kept.2.2.frozen
       have z0 : w1.cell? ⟨w.heap.size, 0, none⟩ = some (.int .i64 0) := h1.kept.2.1.cell 0
       have z1 : w1.cell? ⟨w.heap.size, 1, none⟩ = some (.int .i64 0) := h1.kept.2.1.cell 1
       have z2 : w1.cell? ⟨w.heap.size, 2, none⟩ = some (.string ⟨#[]⟩) := h1.kept.2.1.cell 2
       have z3 : w1.cell? ⟨w.heap.size, 3, none⟩ = some (.string ⟨#[]⟩) := h1.kept.2.1.cell 3
       have zf : ∀ i, w1.frozen? ⟨w.heap.size, i, none⟩ = false := h1.kept.2.1.frozen
       have H1 := Lib.hid h1
       have H2 := Lib.hid (pTwo.set h1 HH.out 1 (.int .i64 (rNum 4 s st).1))
       clear h1))
  refine bodyPost_ret (v := .agg #[.int .i64 id, .int .i64 (rNum 4 s st).1, .string ⟨#[]⟩, .string ⟨#[]⟩]) (by simp [results, Tryz.results164, go_sem, *]) rfl ⟨rfl, ?_⟩
  refine pTwo.fin H1.out HH.out HK.out ?_
  repeat (first | (with_reducible exact Upd.refl _ _) | (with_reducible refine Upd.setCell ?_ _ (fun _ => Or.inl rfl)) | (with_reducible refine Upd.setCell ?_ _ (fun _ => Or.inr rfl)))

set_option maxRecDepth 100000 in
set_option maxHeartbeats 4000000 in
theorem pvalue_5 (E : GE) (g : Nat) (s : ByteArray) (K : World → Prop) (st : RSt) (id : Int) (w : World) (hK : Stab g K) (hT : KT E K) (h : RdK E g s K w st) (ht : pTy id = 5) :
    Calls Tryz.prog 164 #[.pointer (some ⟨g, 0, none⟩), .int .i64 id] w fun e w' => e = .returned (.agg #[.int .i64 id, .int .i64 (rVar s st).1, .string ⟨#[]⟩, .string ⟨#[]⟩]) ∧ RdK E g s K w' (rVar s st).2 := by
  have H0 : Hid (RdK E g s (pTwo g w #[.int .i64 id, .int .i64 0, .string ⟨#[]⟩, .string ⟨#[]⟩]) ((w.alloc (.cells pZero 26)).alloc (.cells #[.int .i64 id, .int .i64 0, .string ⟨#[]⟩, .string ⟨#[]⟩] 26)) st) := Lib.hid (pTwo.start h)
  have HTy := Lib.hid (fun W => ptype_any id W)
  rw [ht] at HTy
  have HH := Lib.hid h
  have HK := Lib.hid hK
  have HKT := Lib.hid hT
  clear h hK hT ht
  go_enter Tryz.func164, Tryz.ntmps164
  go_wp2_with (first
    | (go_at_call 15; refine (HTy.out _).mono ?_; rintro e w' ⟨rfl, rfl⟩)
    | (go_at_call 115
       refine (gVar (pTwo.stab _ _ _) (pTwo.kt HH.out HKT.out) H0.out).mono ?_
       rintro e w1 ⟨rfl, h1⟩
       have p0 : w1.cell? ⟨w.heap.size + 1, 0, none⟩ = some (.int .i64 id) := h1.kept.2.2.cell 0
       have p1 : w1.cell? ⟨w.heap.size + 1, 1, none⟩ = some (.int .i64 0) := h1.kept.2.2.cell 1
       have p2 : w1.cell? ⟨w.heap.size + 1, 2, none⟩ = some (.string ⟨#[]⟩) := h1.kept.2.2.cell 2
       have p3 : w1.cell? ⟨w.heap.size + 1, 3, none⟩ = some (.string ⟨#[]⟩) := h1.kept.2.2.cell 3
       have pf : ∀ i, w1.frozen? ⟨w.heap.size + 1, i, none⟩ = false := h1.kept.2.2.frozen
       have z0 : w1.cell? ⟨w.heap.size, 0, none⟩ = some (.int .i64 0) := h1.kept.2.1.cell 0
       have z1 : w1.cell? ⟨w.heap.size, 1, none⟩ = some (.int .i64 0) := h1.kept.2.1.cell 1
       have z2 : w1.cell? ⟨w.heap.size, 2, none⟩ = some (.string ⟨#[]⟩) := h1.kept.2.1.cell 2
       have z3 : w1.cell? ⟨w.heap.size, 3, none⟩ = some (.string ⟨#[]⟩) := h1.kept.2.1.cell 3
       have zf : ∀ i, w1.frozen? ⟨w.heap.size, i, none⟩ = false := h1.kept.2.1.frozen
       have H1 := Lib.hid h1
       have H2 := Lib.hid (pTwo.set h1 HH.out 1 (.int .i64 (rVar s st).1))
       clear h1))
  refine bodyPost_ret (v := .agg #[.int .i64 id, .int .i64 (rVar s st).1, .string ⟨#[]⟩, .string ⟨#[]⟩]) (by simp [results, Tryz.results164, go_sem, *]) rfl ⟨rfl, ?_⟩
  refine pTwo.fin H1.out HH.out HK.out ?_
  repeat (first | (with_reducible exact Upd.refl _ _) | (with_reducible refine Upd.setCell ?_ _ (fun _ => Or.inl rfl)) | (with_reducible refine Upd.setCell ?_ _ (fun _ => Or.inr rfl)))

set_option maxRecDepth 100000 in
set_option maxHeartbeats 4000000 in
theorem pvalue_7 (E : GE) (g : Nat) (s : ByteArray) (K : World → Prop) (st : RSt) (id : Int) (w : World) (hK : Stab g K) (h : RdK E g s K w st) (ht : pTy id = 7) :
    Calls Tryz.prog 164 #[.pointer (some ⟨g, 0, none⟩), .int .i64 id] w fun e w' => e = .returned (.agg #[.int .i64 id, .int .i64 0, .string (rBin s st).1, .string ⟨#[]⟩]) ∧ RdK E g s K w' (rBin s st).2 := by
  have H0 : Hid (RdK E g s (pTwo g w #[.int .i64 id, .int .i64 0, .string ⟨#[]⟩, .string ⟨#[]⟩]) ((w.alloc (.cells pZero 26)).alloc (.cells #[.int .i64 id, .int .i64 0, .string ⟨#[]⟩, .string ⟨#[]⟩] 26)) st) := Lib.hid (pTwo.start h)
  have HTy := Lib.hid (fun W => ptype_any id W)
  rw [ht] at HTy
  have HH := Lib.hid h
  have HK := Lib.hid hK
  clear h hK ht
  go_enter Tryz.func164, Tryz.ntmps164
  go_wp2_with (first
    | (go_at_call 15; refine (HTy.out _).mono ?_; rintro e w' ⟨rfl, rfl⟩)
    | (go_at_call 139
       refine (gBin (pTwo.stab _ _ _) H0.out).mono ?_
       rintro e w1 ⟨rfl, h1⟩
       have p0 : w1.cell? ⟨w.heap.size + 1, 0, none⟩ = some (.int .i64 id) := h1.kept.2.2.cell 0
       have p1 : w1.cell? ⟨w.heap.size + 1, 1, none⟩ = some (.int .i64 0) := h1.kept.2.2.cell 1
       have p2 : w1.cell? ⟨w.heap.size + 1, 2, none⟩ = some (.string ⟨#[]⟩) := h1.kept.2.2.cell 2
       have p3 : w1.cell? ⟨w.heap.size + 1, 3, none⟩ = some (.string ⟨#[]⟩) := h1.kept.2.2.cell 3
       have pf : ∀ i, w1.frozen? ⟨w.heap.size + 1, i, none⟩ = false := h1.kept.2.2.frozen
       have z0 : w1.cell? ⟨w.heap.size, 0, none⟩ = some (.int .i64 0) := h1.kept.2.1.cell 0
       have z1 : w1.cell? ⟨w.heap.size, 1, none⟩ = some (.int .i64 0) := h1.kept.2.1.cell 1
       have z2 : w1.cell? ⟨w.heap.size, 2, none⟩ = some (.string ⟨#[]⟩) := h1.kept.2.1.cell 2
       have z3 : w1.cell? ⟨w.heap.size, 3, none⟩ = some (.string ⟨#[]⟩) := h1.kept.2.1.cell 3
       have zf : ∀ i, w1.frozen? ⟨w.heap.size, i, none⟩ = false := h1.kept.2.1.frozen
       have H1 := Lib.hid h1
       have H2 := Lib.hid (pTwo.set h1 HH.out 2 (.string (rBin s st).1))
       clear h1))
  refine bodyPost_ret (v := .agg #[.int .i64 id, .int .i64 0, .string (rBin s st).1, .string ⟨#[]⟩]) (by simp [results, Tryz.results164, go_sem, *]) rfl ⟨rfl, ?_⟩
  refine pTwo.fin H1.out HH.out HK.out ?_
  repeat (first | (with_reducible exact Upd.refl _ _) | (with_reducible refine Upd.setCell ?_ _ (fun _ => Or.inl rfl)) | (with_reducible refine Upd.setCell ?_ _ (fun _ => Or.inr rfl)))

set_option maxRecDepth 100000 in
set_option maxHeartbeats 4000000 in
theorem pvalue_9 (E : GE) (g : Nat) (s : ByteArray) (K : World → Prop) (st : RSt) (id : Int) (w : World) (hK : Stab g K) (hT : KT E K) (h : RdK E g s K w st) (ht : pTy id = 9) :
    Calls Tryz.prog 164 #[.pointer (some ⟨g, 0, none⟩), .int .i64 id] w fun e w' => e = .returned (.agg #[.int .i64 id, .int .i64 0, .string (rText s st).1, .string (rText s (rText s st).2).1]) ∧ RdK E g s K w' (rText s (rText s st).2).2 := by
  have H0 : Hid (RdK E g s (pTwo g w #[.int .i64 id, .int .i64 0, .string ⟨#[]⟩, .string ⟨#[]⟩]) ((w.alloc (.cells pZero 26)).alloc (.cells #[.int .i64 id, .int .i64 0, .string ⟨#[]⟩, .string ⟨#[]⟩] 26)) st) := Lib.hid (pTwo.start h)
  have HTy := Lib.hid (fun W => ptype_any id W)
  rw [ht] at HTy
  have HH := Lib.hid h
  have HK := Lib.hid hK
  have HKT := Lib.hid hT
  clear h hK hT ht
  go_enter Tryz.func164, Tryz.ntmps164
  go_wp2_with (first
    | (go_at_call 77
       refine (gText (pTwo.stab _ _ _) (pTwo.kt HH.out HKT.out) H2.out).mono ?_
       rintro e w2 ⟨rfl, h2⟩
       clear p0 p1 p2 p3 pf z0 z1 z2 z3 zf
       have p0 : w2.cell? ⟨w.heap.size + 1, 0, none⟩ = some (.int .i64 id) := h2.kept.2.2.cell 0
       have p1 : w2.cell? ⟨w.heap.size + 1, 1, none⟩ = some (.int .i64 0) := h2.kept.2.2.cell 1
       have p2 : w2.cell? ⟨w.heap.size + 1, 2, none⟩ = some (.string (rText s st).1) := h2.kept.2.2.cell 2
       have p3 : w2.cell? ⟨w.heap.size + 1, 3, none⟩ = some (.string ⟨#[]⟩) := h2.kept.2.2.cell 3
       have pf : ∀ i, w2.frozen? ⟨w.heap.size + 1, i, none⟩ = false := h2.kept.2.2.frozen
       have z0 : w2.cell? ⟨w.heap.size, 0, none⟩ = some (.int .i64 0) := h2.kept.2.1.cell 0
       have z1 : w2.cell? ⟨w.heap.size, 1, none⟩ = some (.int .i64 0) := h2.kept.2.1.cell 1
       have z2 : w2.cell? ⟨w.heap.size, 2, none⟩ = some (.string ⟨#[]⟩) := h2.kept.2.1.cell 2
       have z3 : w2.cell? ⟨w.heap.size, 3, none⟩ = some (.string ⟨#[]⟩) := h2.kept.2.1.cell 3
       have zf : ∀ i, w2.frozen? ⟨w.heap.size, i, none⟩ = false := h2.kept.2.1.frozen
       have H3 := Lib.hid h2
       clear h2)
    | (go_at_call 15; refine (HTy.out _).mono ?_; rintro e w' ⟨rfl, rfl⟩)
    | (go_at_call 77
       refine (gText (pTwo.stab _ _ _) (pTwo.kt HH.out HKT.out) H0.out).mono ?_
       rintro e w1 ⟨rfl, h1⟩
       have p0 : w1.cell? ⟨w.heap.size + 1, 0, none⟩ = some (.int .i64 id) := h1.kept.2.2.cell 0
       have p1 : w1.cell? ⟨w.heap.size + 1, 1, none⟩ = some (.int .i64 0) := h1.kept.2.2.cell 1
       have p2 : w1.cell? ⟨w.heap.size + 1, 2, none⟩ = some (.string ⟨#[]⟩) := h1.kept.2.2.cell 2
       have p3 : w1.cell? ⟨w.heap.size + 1, 3, none⟩ = some (.string ⟨#[]⟩) := h1.kept.2.2.cell 3
       have pf : ∀ i, w1.frozen? ⟨w.heap.size + 1, i, none⟩ = false := h1.kept.2.2.frozen
       have z0 : w1.cell? ⟨w.heap.size, 0, none⟩ = some (.int .i64 0) := h1.kept.2.1.cell 0
       have z1 : w1.cell? ⟨w.heap.size, 1, none⟩ = some (.int .i64 0) := h1.kept.2.1.cell 1
       have z2 : w1.cell? ⟨w.heap.size, 2, none⟩ = some (.string ⟨#[]⟩) := h1.kept.2.1.cell 2
       have z3 : w1.cell? ⟨w.heap.size, 3, none⟩ = some (.string ⟨#[]⟩) := h1.kept.2.1.cell 3
       have zf : ∀ i, w1.frozen? ⟨w.heap.size, i, none⟩ = false := h1.kept.2.1.frozen
       have H1 := Lib.hid h1
       have H2 := Lib.hid (pTwo.set h1 HH.out 2 (.string (rText s st).1))
       clear h1))
  refine bodyPost_ret (v := .agg #[.int .i64 id, .int .i64 0, .string (rText s st).1, .string (rText s (rText s st).2).1]) (by simp [results, Tryz.results164, go_sem, *]) rfl ⟨rfl, ?_⟩
  refine pTwo.fin H3.out HH.out HK.out ?_
  repeat (first | (with_reducible exact Upd.refl _ _) | (with_reducible refine Upd.setCell ?_ _ (fun _ => Or.inl rfl)) | (with_reducible refine Upd.setCell ?_ _ (fun _ => Or.inr rfl)))

set_option maxRecDepth 100000 in
set_option maxHeartbeats 4000000 in
theorem pvalue_6 (E : GE) (g : Nat) (s : ByteArray) (K : World → Prop) (st : RSt) (id : Int) (w : World) (hK : Stab g K) (hT : KT E K) (h : RdK E g s K w st) (ht : pTy id = 6) :
    Calls Tryz.prog 164 #[.pointer (some ⟨g, 0, none⟩), .int .i64 id] w fun e w' => e = .returned (.agg #[.int .i64 id, .int .i64 0, .string (rText s st).1, .string ⟨#[]⟩]) ∧ RdK E g s K w' (rText s st).2 := by
  have H0 : Hid (RdK E g s (pTwo g w #[.int .i64 id, .int .i64 0, .string ⟨#[]⟩, .string ⟨#[]⟩]) ((w.alloc (.cells pZero 26)).alloc (.cells #[.int .i64 id, .int .i64 0, .string ⟨#[]⟩, .string ⟨#[]⟩] 26)) st) := Lib.hid (pTwo.start h)
  have HTy := Lib.hid (fun W => ptype_any id W)
  rw [ht] at HTy
  have HH := Lib.hid h
  have HK := Lib.hid hK
  have HKT := Lib.hid hT
  clear h hK hT ht
  go_enter Tryz.func164, Tryz.ntmps164
  go_wp2_with (first
    | (go_at_call 15; refine (HTy.out _).mono ?_; rintro e w' ⟨rfl, rfl⟩)
    | (go_at_call 77
       refine (gText (pTwo.stab _ _ _) (pTwo.kt HH.out HKT.out) H0.out).mono ?_
       rintro e w1 ⟨rfl, h1⟩
       have p0 : w1.cell? ⟨w.heap.size + 1, 0, none⟩ = some (.int .i64 id) := h1.kept.2.2.cell 0
       have p1 : w1.cell? ⟨w.heap.size + 1, 1, none⟩ = some (.int .i64 0) := h1.kept.2.2.cell 1
       have p2 : w1.cell? ⟨w.heap.size + 1, 2, none⟩ = some (.string ⟨#[]⟩) := h1.kept.2.2.cell 2
       have p3 : w1.cell? ⟨w.heap.size + 1, 3, none⟩ = some (.string ⟨#[]⟩) := h1.kept.2.2.cell 3
       have pf : ∀ i, w1.frozen? ⟨w.heap.size + 1, i, none⟩ = false := h1.kept.2.2.frozen
       have z0 : w1.cell? ⟨w.heap.size, 0, none⟩ = some (.int .i64 0) := h1.kept.2.1.cell 0
       have z1 : w1.cell? ⟨w.heap.size, 1, none⟩ = some (.int .i64 0) := h1.kept.2.1.cell 1
       have z2 : w1.cell? ⟨w.heap.size, 2, none⟩ = some (.string ⟨#[]⟩) := h1.kept.2.1.cell 2
       have z3 : w1.cell? ⟨w.heap.size, 3, none⟩ = some (.string ⟨#[]⟩) := h1.kept.2.1.cell 3
       have zf : ∀ i, w1.frozen? ⟨w.heap.size, i, none⟩ = false := h1.kept.2.1.frozen
       have H1 := Lib.hid h1
       have H2 := Lib.hid (pTwo.set h1 HH.out 2 (.string (rText s st).1))
       clear h1))
  refine bodyPost_ret (v := .agg #[.int .i64 id, .int .i64 0, .string (rText s st).1, .string ⟨#[]⟩]) (by simp [results, Tryz.results164, go_sem, *]) rfl ⟨rfl, ?_⟩
  refine pTwo.fin H1.out HH.out HK.out ?_
  repeat (first | (with_reducible exact Upd.refl _ _) | (with_reducible refine Upd.setCell ?_ _ (fun _ => Or.inl rfl)) | (with_reducible refine Upd.setCell ?_ _ (fun _ => Or.inr rfl)))

set_option maxRecDepth 100000 in
set_option maxHeartbeats 4000000 in
theorem pvalue_0 (E : GE) (g : Nat) (s : ByteArray) (K : World → Prop) (st : RSt) (id : Int) (w : World) (hK : Stab g K) (h : RdK E g s K w st) (ht : pTy id = 0) :
    Calls Tryz.prog 164 #[.pointer (some ⟨g, 0, none⟩), .int .i64 id] w fun e w' => e = .returned (.agg #[.int .i64 id, .int .i64 0, .string ⟨#[]⟩, .string ⟨#[]⟩]) ∧ RdK E g s K w' st := by
  have HTy := Lib.hid (fun W => ptype_any id W)
  rw [ht] at HTy
  have HH := Lib.hid h
  have HK := Lib.hid hK
  clear h hK ht
  go_enter Tryz.func164, Tryz.ntmps164
  go_wp2_with (first
    | (go_at_call 15; refine (HTy.out _).mono ?_; rintro e w' ⟨rfl, rfl⟩))
  refine bodyPost_ret (v := .agg #[.int .i64 id, .int .i64 0, .string ⟨#[]⟩, .string ⟨#[]⟩]) (by simp [results, Tryz.results164, go_sem, *]) rfl ⟨rfl, ?_⟩
  exact HH.out.non HK.out (((Upd.refl _ _).alloc _).alloc _)

theorem pvalue_any (E : GE) (g : Nat) (s : ByteArray) (K : World → Prop) (st : RSt) (id : Int) (w : World) (hK : Stab g K) (hT : KT E K) (h : RdK E g s K w st) :
    Calls Tryz.prog 164 #[.pointer (some ⟨g, 0, none⟩), .int .i64 id] w fun e w' => e = .returned (.agg (pVal s st id).1.cells) ∧ RdK E g s K w' (pVal s st id).2 := by
  unfold pVal
  rcases pTy_cases id with ht | ht | ht | ht | ht | ht | ht | ht
  all_goals rw [ht]
  · exact pvalue_1 E g s K st id w hK h ht
  · exact pvalue_2 E g s K st id w hK h ht
  · exact pvalue_4 E g s K st id w hK h ht
  · exact pvalue_5 E g s K st id w hK hT h ht
  · exact pvalue_7 E g s K st id w hK h ht
  · exact pvalue_9 E g s K st id w hK hT h ht
  · exact pvalue_6 E g s K st id w hK hT h ht
  · exact pvalue_0 E g s K st id w hK h ht
end Go.Proofs.YtmmahkckemclaaaGreatDoor
