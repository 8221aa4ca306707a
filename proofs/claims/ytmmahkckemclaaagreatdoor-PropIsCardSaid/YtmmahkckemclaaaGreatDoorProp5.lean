/- Properties, more: write, Encode. Conditions: fewer than 2^46 bytes; the package variables hold what the program lays there. -/
import Derived.Test.YtmmahkckemclaaaGreatDoorProp4
namespace Go.Proofs.YtmmahkckemclaaaGreatDoor
open Go.RowKit

/-- What write does to a writer. -/
def pWriteT (t : Int) (st : WSt) (p : Pr) : WSt :=
  if t = 1 then wNum 1 (wVar st p.id) p.n
  else if t = 2 then wNum 2 (wVar st p.id) p.n
  else if t = 4 then wNum 4 (wVar st p.id) p.n
  else if t = 5 then wVar (wVar st p.id) p.n
  else if t = 7 then wBin (wVar st p.id) p.s
  else if t = 9 then wText (wText (wVar st p.id) p.s) p.v
  else if t = 6 then wText (wVar st p.id) p.s
  else wVar st p.id
def pWrite (st : WSt) (p : Pr) : WSt := pWriteT (pTy p.id) st p
theorem pTy_cases (id : Int) : pTy id = 1 ∨ pTy id = 2 ∨ pTy id = 4 ∨ pTy id = 5 ∨ pTy id = 7 ∨ pTy id = 9 ∨ pTy id = 6 ∨ pTy id = 0 := by
  unfold pTy
  repeat' split
  all_goals simp
def prSize (l : List Pr) : Nat := (l.map fun p => 16 + p.s.size + p.v.size).sum
theorem pWrite_len (st : WSt) (p : Pr) : (pWrite st p).1.length ≤ st.1.length + (16 + p.s.size + p.v.size) := by
  have h0 := wVar_len st p.id
  unfold pWrite pWriteT
  repeat' split
  · have := wNum_len 1 (wVar st p.id) p.n; omega
  · have := wNum_len 2 (wVar st p.id) p.n; omega
  · have := wNum_len 4 (wVar st p.id) p.n; omega
  · have := wVar_len (wVar st p.id) p.n; omega
  · have := wBin_len (wVar st p.id) p.s; omega
  · have h1 := wText_len (wVar st p.id) p.s
    have := wText_len (wText (wVar st p.id) p.s) p.v
    omega
  · have := wText_len (wVar st p.id) p.s; omega
  · omega

section
variable {E : GE} {B g : Nat} {K : World → Prop} {w : World} {st : WSt}
theorem StabW.and {K K' : World → Prop} (h : StabW B K) (h' : StabW B K') : StabW B (fun w => K w ∧ K' w) := fun w w' ht ⟨a, b⟩ => ⟨h w w' ht a, h' w w' ht b⟩
theorem StabW.blk (b : Nat) (t : TypeId) (cs : Array Value) (ht : t ∉ WT) : StabW B (fun w => Blk w b t cs) := fun _ _ hu hb => hb.tch hu ht
theorem WrK.and {K' : World → Prop} (h : WrK E B g K w st) (h' : K' w) : WrK E B g (fun w => K w ∧ K' w) w st := ⟨h.1, h.2.1, h.2.2, h'⟩
theorem WrK.fst {K' : World → Prop} (h : WrK E B g (fun w => K w ∧ K' w) w st) : WrK E B g K w st := ⟨h.1, h.2.1, h.2.2.1⟩
theorem KT.and {K' : World → Prop} (h : KT E K) : KT E (fun w => K w ∧ K' w) := fun w hw => h w hw.1
end

set_option maxRecDepth 100000 in
set_option maxHeartbeats 4000000 in
theorem pwrite_1 (E : GE) (B g : Nat) (K : World → Prop) (st : WSt) (p : Pr) (w : World) (hK : StabW B K) (hT : KT E K) (h : WrK E B g K w st) (hs : st.1.length + (16 + p.s.size + p.v.size) ≤ 140737488355328) (ht : pTy p.id = 1) :
    Calls Tryz.prog 112 #[.pointer (some ⟨g, 0, none⟩), p.val] w fun e w' => e = .returned (.tuple #[]) ∧ WrK E B g K w' (pWriteT 1 st p) := by
  obtain ⟨id, n, s, v⟩ := p
  simp only [Pr.val] at hs ht ⊢
  have hb := Blk.new w 26 #[.int .i64 id, .int .i64 n, .string s, .string v]
  have H := (h.non hK ((Upd.refl Non w).alloc (.cells #[.int .i64 id, .int .i64 n, .string s, .string v] 26))).and (K' := fun w' => Blk w' w.heap.size 26 #[.int .i64 id, .int .i64 n, .string s, .string v]) hb
  have hK2 : StabW B (fun w' => K w' ∧ Blk w' w.heap.size 26 #[.int .i64 id, .int .i64 n, .string s, .string v]) := hK.and (StabW.blk _ _ _ (by decide))
  have hT2 : KT E (fun w' => K w' ∧ Blk w' w.heap.size 26 #[.int .i64 id, .int .i64 n, .string s, .string v]) := hT.and
  have hv := wVar_len st id
  have HTy := Lib.hid (fun W => ptype_any id W)
  rw [ht] at HTy
  have HH := Lib.hid H
  have HK2 := Lib.hid hK2
  have HT2 := Lib.hid hT2
  have HS := Lib.hid hs
  have HV := Lib.hid hv
  clear H hK2 hT2 hs hv hb h hK hT ht
  go_enter Tryz.func112, Tryz.ntmps112
  go_wp2_with (first
    | (go_at_call 113
       refine (kVar HK2.out HT2.out HH.out id (by have := HS.out; omega)).mono ?_
       rintro e w1 ⟨rfl, h1⟩
       have H1 := Lib.hid h1
       have c0 : w1.cell? ⟨w.heap.size, 0, none⟩ = some (.int .i64 id) := h1.kept.2.cell 0
       have c1 : w1.cell? ⟨w.heap.size, 1, none⟩ = some (.int .i64 n) := h1.kept.2.cell 1
       have c2 : w1.cell? ⟨w.heap.size, 2, none⟩ = some (.string s) := h1.kept.2.cell 2
       have c3 : w1.cell? ⟨w.heap.size, 3, none⟩ = some (.string v) := h1.kept.2.cell 3
       clear h1)
    | (go_at_call 15; refine (HTy.out _).mono ?_; rintro e w' ⟨rfl, rfl⟩)
    | (go_at_call 87
       refine (kU8 HK2.out H1.out n (by have := HS.out; have := HV.out; omega)).mono ?_
       rintro e w2 ⟨rfl, h2⟩
       have H2 := Lib.hid h2
       clear h2))
  go_end0
  exact ⟨rfl, H2.out.fst⟩

set_option maxRecDepth 100000 in
set_option maxHeartbeats 4000000 in
theorem pwrite_2 (E : GE) (B g : Nat) (K : World → Prop) (st : WSt) (p : Pr) (w : World) (hK : StabW B K) (hT : KT E K) (h : WrK E B g K w st) (hs : st.1.length + (16 + p.s.size + p.v.size) ≤ 140737488355328) (ht : pTy p.id = 2) :
    Calls Tryz.prog 112 #[.pointer (some ⟨g, 0, none⟩), p.val] w fun e w' => e = .returned (.tuple #[]) ∧ WrK E B g K w' (pWriteT 2 st p) := by
  obtain ⟨id, n, s, v⟩ := p
  simp only [Pr.val] at hs ht ⊢
  have hb := Blk.new w 26 #[.int .i64 id, .int .i64 n, .string s, .string v]
  have H := (h.non hK ((Upd.refl Non w).alloc (.cells #[.int .i64 id, .int .i64 n, .string s, .string v] 26))).and (K' := fun w' => Blk w' w.heap.size 26 #[.int .i64 id, .int .i64 n, .string s, .string v]) hb
  have hK2 : StabW B (fun w' => K w' ∧ Blk w' w.heap.size 26 #[.int .i64 id, .int .i64 n, .string s, .string v]) := hK.and (StabW.blk _ _ _ (by decide))
  have hT2 : KT E (fun w' => K w' ∧ Blk w' w.heap.size 26 #[.int .i64 id, .int .i64 n, .string s, .string v]) := hT.and
  have hv := wVar_len st id
  have HTy := Lib.hid (fun W => ptype_any id W)
  rw [ht] at HTy
  have HH := Lib.hid H
  have HK2 := Lib.hid hK2
  have HT2 := Lib.hid hT2
  have HS := Lib.hid hs
  have HV := Lib.hid hv
  clear H hK2 hT2 hs hv hb h hK hT ht
  go_enter Tryz.func112, Tryz.ntmps112
  go_wp2_with (first
    | (go_at_call 113
       refine (kVar HK2.out HT2.out HH.out id (by have := HS.out; omega)).mono ?_
       rintro e w1 ⟨rfl, h1⟩
       have H1 := Lib.hid h1
       have c0 : w1.cell? ⟨w.heap.size, 0, none⟩ = some (.int .i64 id) := h1.kept.2.cell 0
       have c1 : w1.cell? ⟨w.heap.size, 1, none⟩ = some (.int .i64 n) := h1.kept.2.cell 1
       have c2 : w1.cell? ⟨w.heap.size, 2, none⟩ = some (.string s) := h1.kept.2.cell 2
       have c3 : w1.cell? ⟨w.heap.size, 3, none⟩ = some (.string v) := h1.kept.2.cell 3
       clear h1)
    | (go_at_call 15; refine (HTy.out _).mono ?_; rintro e w' ⟨rfl, rfl⟩)
    | (go_at_call 68
       refine (kU16 HK2.out H1.out n (by have := HS.out; have := HV.out; omega)).mono ?_
       rintro e w2 ⟨rfl, h2⟩
       have H2 := Lib.hid h2
       clear h2))
  go_end0
  exact ⟨rfl, H2.out.fst⟩

set_option maxRecDepth 100000 in
set_option maxHeartbeats 4000000 in
theorem pwrite_4 (E : GE) (B g : Nat) (K : World → Prop) (st : WSt) (p : Pr) (w : World) (hK : StabW B K) (hT : KT E K) (h : WrK E B g K w st) (hs : st.1.length + (16 + p.s.size + p.v.size) ≤ 140737488355328) (ht : pTy p.id = 4) :
    Calls Tryz.prog 112 #[.pointer (some ⟨g, 0, none⟩), p.val] w fun e w' => e = .returned (.tuple #[]) ∧ WrK E B g K w' (pWriteT 4 st p) := by
  obtain ⟨id, n, s, v⟩ := p
  simp only [Pr.val] at hs ht ⊢
  have hb := Blk.new w 26 #[.int .i64 id, .int .i64 n, .string s, .string v]
  have H := (h.non hK ((Upd.refl Non w).alloc (.cells #[.int .i64 id, .int .i64 n, .string s, .string v] 26))).and (K' := fun w' => Blk w' w.heap.size 26 #[.int .i64 id, .int .i64 n, .string s, .string v]) hb
  have hK2 : StabW B (fun w' => K w' ∧ Blk w' w.heap.size 26 #[.int .i64 id, .int .i64 n, .string s, .string v]) := hK.and (StabW.blk _ _ _ (by decide))
  have hT2 : KT E (fun w' => K w' ∧ Blk w' w.heap.size 26 #[.int .i64 id, .int .i64 n, .string s, .string v]) := hT.and
  have hv := wVar_len st id
  have HTy := Lib.hid (fun W => ptype_any id W)
  rw [ht] at HTy
  have HH := Lib.hid H
  have HK2 := Lib.hid hK2
  have HT2 := Lib.hid hT2
  have HS := Lib.hid hs
  have HV := Lib.hid hv
  clear H hK2 hT2 hs hv hb h hK hT ht
  go_enter Tryz.func112, Tryz.ntmps112
  go_wp2_with (first
    | (go_at_call 113
       refine (kVar HK2.out HT2.out HH.out id (by have := HS.out; omega)).mono ?_
       rintro e w1 ⟨rfl, h1⟩
       have H1 := Lib.hid h1
       have c0 : w1.cell? ⟨w.heap.size, 0, none⟩ = some (.int .i64 id) := h1.kept.2.cell 0
       have c1 : w1.cell? ⟨w.heap.size, 1, none⟩ = some (.int .i64 n) := h1.kept.2.cell 1
       have c2 : w1.cell? ⟨w.heap.size, 2, none⟩ = some (.string s) := h1.kept.2.cell 2
       have c3 : w1.cell? ⟨w.heap.size, 3, none⟩ = some (.string v) := h1.kept.2.cell 3
       clear h1)
    | (go_at_call 15; refine (HTy.out _).mono ?_; rintro e w' ⟨rfl, rfl⟩)
    | (go_at_call 147
       refine (kU32 HK2.out H1.out n (by have := HS.out; have := HV.out; omega)).mono ?_
       rintro e w2 ⟨rfl, h2⟩
       have H2 := Lib.hid h2
       clear h2))
  go_end0
  exact ⟨rfl, H2.out.fst⟩

set_option maxRecDepth 100000 in
set_option maxHeartbeats 4000000 in
theorem pwrite_5 (E : GE) (B g : Nat) (K : World → Prop) (st : WSt) (p : Pr) (w : World) (hK : StabW B K) (hT : KT E K) (h : WrK E B g K w st) (hs : st.1.length + (16 + p.s.size + p.v.size) ≤ 140737488355328) (ht : pTy p.id = 5) :
    Calls Tryz.prog 112 #[.pointer (some ⟨g, 0, none⟩), p.val] w fun e w' => e = .returned (.tuple #[]) ∧ WrK E B g K w' (pWriteT 5 st p) := by
  obtain ⟨id, n, s, v⟩ := p
  simp only [Pr.val] at hs ht ⊢
  have hb := Blk.new w 26 #[.int .i64 id, .int .i64 n, .string s, .string v]
  have H := (h.non hK ((Upd.refl Non w).alloc (.cells #[.int .i64 id, .int .i64 n, .string s, .string v] 26))).and (K' := fun w' => Blk w' w.heap.size 26 #[.int .i64 id, .int .i64 n, .string s, .string v]) hb
  have hK2 : StabW B (fun w' => K w' ∧ Blk w' w.heap.size 26 #[.int .i64 id, .int .i64 n, .string s, .string v]) := hK.and (StabW.blk _ _ _ (by decide))
  have hT2 : KT E (fun w' => K w' ∧ Blk w' w.heap.size 26 #[.int .i64 id, .int .i64 n, .string s, .string v]) := hT.and
  have hv := wVar_len st id
  have HTy := Lib.hid (fun W => ptype_any id W)
  rw [ht] at HTy
  have HH := Lib.hid H
  have HK2 := Lib.hid hK2
  have HT2 := Lib.hid hT2
  have HS := Lib.hid hs
  have HV := Lib.hid hv
  clear H hK2 hT2 hs hv hb h hK hT ht
  go_enter Tryz.func112, Tryz.ntmps112
  go_wp2_with (first
    | (go_at_call 113
       refine (kVar HK2.out HT2.out H1.out n (by have := HS.out; have := HV.out; omega)).mono ?_
       rintro e w2 ⟨rfl, h2⟩
       have H2 := Lib.hid h2
       clear h2)
    | (go_at_call 113
       refine (kVar HK2.out HT2.out HH.out id (by have := HS.out; omega)).mono ?_
       rintro e w1 ⟨rfl, h1⟩
       have H1 := Lib.hid h1
       have c0 : w1.cell? ⟨w.heap.size, 0, none⟩ = some (.int .i64 id) := h1.kept.2.cell 0
       have c1 : w1.cell? ⟨w.heap.size, 1, none⟩ = some (.int .i64 n) := h1.kept.2.cell 1
       have c2 : w1.cell? ⟨w.heap.size, 2, none⟩ = some (.string s) := h1.kept.2.cell 2
       have c3 : w1.cell? ⟨w.heap.size, 3, none⟩ = some (.string v) := h1.kept.2.cell 3
       clear h1)
    | (go_at_call 15; refine (HTy.out _).mono ?_; rintro e w' ⟨rfl, rfl⟩))
  go_end0
  exact ⟨rfl, H2.out.fst⟩

set_option maxRecDepth 100000 in
set_option maxHeartbeats 4000000 in
theorem pwrite_7 (E : GE) (B g : Nat) (K : World → Prop) (st : WSt) (p : Pr) (w : World) (hK : StabW B K) (hT : KT E K) (h : WrK E B g K w st) (hs : st.1.length + (16 + p.s.size + p.v.size) ≤ 140737488355328) (ht : pTy p.id = 7) :
    Calls Tryz.prog 112 #[.pointer (some ⟨g, 0, none⟩), p.val] w fun e w' => e = .returned (.tuple #[]) ∧ WrK E B g K w' (pWriteT 7 st p) := by
  obtain ⟨id, n, s, v⟩ := p
  simp only [Pr.val] at hs ht ⊢
  have hb := Blk.new w 26 #[.int .i64 id, .int .i64 n, .string s, .string v]
  have H := (h.non hK ((Upd.refl Non w).alloc (.cells #[.int .i64 id, .int .i64 n, .string s, .string v] 26))).and (K' := fun w' => Blk w' w.heap.size 26 #[.int .i64 id, .int .i64 n, .string s, .string v]) hb
  have hK2 : StabW B (fun w' => K w' ∧ Blk w' w.heap.size 26 #[.int .i64 id, .int .i64 n, .string s, .string v]) := hK.and (StabW.blk _ _ _ (by decide))
  have hT2 : KT E (fun w' => K w' ∧ Blk w' w.heap.size 26 #[.int .i64 id, .int .i64 n, .string s, .string v]) := hT.and
  have hv := wVar_len st id
  have HTy := Lib.hid (fun W => ptype_any id W)
  rw [ht] at HTy
  have HH := Lib.hid H
  have HK2 := Lib.hid hK2
  have HT2 := Lib.hid hT2
  have HS := Lib.hid hs
  have HV := Lib.hid hv
  clear H hK2 hT2 hs hv hb h hK hT ht
  go_enter Tryz.func112, Tryz.ntmps112
  go_wp2_with (first
    | (go_at_call 113
       refine (kVar HK2.out HT2.out HH.out id (by have := HS.out; omega)).mono ?_
       rintro e w1 ⟨rfl, h1⟩
       have H1 := Lib.hid h1
       have c0 : w1.cell? ⟨w.heap.size, 0, none⟩ = some (.int .i64 id) := h1.kept.2.cell 0
       have c1 : w1.cell? ⟨w.heap.size, 1, none⟩ = some (.int .i64 n) := h1.kept.2.cell 1
       have c2 : w1.cell? ⟨w.heap.size, 2, none⟩ = some (.string s) := h1.kept.2.cell 2
       have c3 : w1.cell? ⟨w.heap.size, 3, none⟩ = some (.string v) := h1.kept.2.cell 3
       clear h1)
    | (go_at_call 15; refine (HTy.out _).mono ?_; rintro e w' ⟨rfl, rfl⟩)
    | (go_at_call 90
       refine (kBin HK2.out H1.out s (by have := HS.out; have := HV.out; omega)).mono ?_
       rintro e w2 ⟨rfl, h2⟩
       have H2 := Lib.hid h2
       clear h2))
  go_end0
  exact ⟨rfl, H2.out.fst⟩

set_option maxRecDepth 100000 in
set_option maxHeartbeats 4000000 in
theorem pwrite_9 (E : GE) (B g : Nat) (K : World → Prop) (st : WSt) (p : Pr) (w : World) (hK : StabW B K) (hT : KT E K) (h : WrK E B g K w st) (hs : st.1.length + (16 + p.s.size + p.v.size) ≤ 140737488355328) (ht : pTy p.id = 9) :
    Calls Tryz.prog 112 #[.pointer (some ⟨g, 0, none⟩), p.val] w fun e w' => e = .returned (.tuple #[]) ∧ WrK E B g K w' (pWriteT 9 st p) := by
  obtain ⟨id, n, s, v⟩ := p
  simp only [Pr.val] at hs ht ⊢
  have hb := Blk.new w 26 #[.int .i64 id, .int .i64 n, .string s, .string v]
  have H := (h.non hK ((Upd.refl Non w).alloc (.cells #[.int .i64 id, .int .i64 n, .string s, .string v] 26))).and (K' := fun w' => Blk w' w.heap.size 26 #[.int .i64 id, .int .i64 n, .string s, .string v]) hb
  have hK2 : StabW B (fun w' => K w' ∧ Blk w' w.heap.size 26 #[.int .i64 id, .int .i64 n, .string s, .string v]) := hK.and (StabW.blk _ _ _ (by decide))
  have hT2 : KT E (fun w' => K w' ∧ Blk w' w.heap.size 26 #[.int .i64 id, .int .i64 n, .string s, .string v]) := hT.and
  have hv := wVar_len st id
  have HTy := Lib.hid (fun W => ptype_any id W)
  rw [ht] at HTy
  have HH := Lib.hid H
  have HK2 := Lib.hid hK2
  have HT2 := Lib.hid hT2
  have HS := Lib.hid hs
  have HV := Lib.hid hv
  clear H hK2 hT2 hs hv hb h hK hT ht
  go_enter Tryz.func112, Tryz.ntmps112
  go_wp2_with (first
    | (go_at_call 67
       refine (kText HK2.out HT2.out H2.out v (by have := HS.out; have := HV.out; have := wText_len (wVar st id) s; omega)).mono ?_
       rintro e w3 ⟨rfl, h3⟩
       have H3 := Lib.hid h3
       clear h3)
    | (go_at_call 113
       refine (kVar HK2.out HT2.out HH.out id (by have := HS.out; omega)).mono ?_
       rintro e w1 ⟨rfl, h1⟩
       have H1 := Lib.hid h1
       have c0 : w1.cell? ⟨w.heap.size, 0, none⟩ = some (.int .i64 id) := h1.kept.2.cell 0
       have c1 : w1.cell? ⟨w.heap.size, 1, none⟩ = some (.int .i64 n) := h1.kept.2.cell 1
       have c2 : w1.cell? ⟨w.heap.size, 2, none⟩ = some (.string s) := h1.kept.2.cell 2
       have c3 : w1.cell? ⟨w.heap.size, 3, none⟩ = some (.string v) := h1.kept.2.cell 3
       clear h1)
    | (go_at_call 15; refine (HTy.out _).mono ?_; rintro e w' ⟨rfl, rfl⟩)
    | (go_at_call 67
       refine (kText HK2.out HT2.out H1.out s (by have := HS.out; have := HV.out; omega)).mono ?_
       rintro e w2 ⟨rfl, h2⟩
       have H2 := Lib.hid h2
       have d3 : w2.cell? ⟨w.heap.size, 3, none⟩ = some (.string v) := h2.kept.2.cell 3
       clear h2))
  go_end0
  exact ⟨rfl, H3.out.fst⟩

set_option maxRecDepth 100000 in
set_option maxHeartbeats 4000000 in
theorem pwrite_6 (E : GE) (B g : Nat) (K : World → Prop) (st : WSt) (p : Pr) (w : World) (hK : StabW B K) (hT : KT E K) (h : WrK E B g K w st) (hs : st.1.length + (16 + p.s.size + p.v.size) ≤ 140737488355328) (ht : pTy p.id = 6) :
    Calls Tryz.prog 112 #[.pointer (some ⟨g, 0, none⟩), p.val] w fun e w' => e = .returned (.tuple #[]) ∧ WrK E B g K w' (pWriteT 6 st p) := by
  obtain ⟨id, n, s, v⟩ := p
  simp only [Pr.val] at hs ht ⊢
  have hb := Blk.new w 26 #[.int .i64 id, .int .i64 n, .string s, .string v]
  have H := (h.non hK ((Upd.refl Non w).alloc (.cells #[.int .i64 id, .int .i64 n, .string s, .string v] 26))).and (K' := fun w' => Blk w' w.heap.size 26 #[.int .i64 id, .int .i64 n, .string s, .string v]) hb
  have hK2 : StabW B (fun w' => K w' ∧ Blk w' w.heap.size 26 #[.int .i64 id, .int .i64 n, .string s, .string v]) := hK.and (StabW.blk _ _ _ (by decide))
  have hT2 : KT E (fun w' => K w' ∧ Blk w' w.heap.size 26 #[.int .i64 id, .int .i64 n, .string s, .string v]) := hT.and
  have hv := wVar_len st id
  have HTy := Lib.hid (fun W => ptype_any id W)
  rw [ht] at HTy
  have HH := Lib.hid H
  have HK2 := Lib.hid hK2
  have HT2 := Lib.hid hT2
  have HS := Lib.hid hs
  have HV := Lib.hid hv
  clear H hK2 hT2 hs hv hb h hK hT ht
  go_enter Tryz.func112, Tryz.ntmps112
  go_wp2_with (first
    | (go_at_call 113
       refine (kVar HK2.out HT2.out HH.out id (by have := HS.out; omega)).mono ?_
       rintro e w1 ⟨rfl, h1⟩
       have H1 := Lib.hid h1
       have c0 : w1.cell? ⟨w.heap.size, 0, none⟩ = some (.int .i64 id) := h1.kept.2.cell 0
       have c1 : w1.cell? ⟨w.heap.size, 1, none⟩ = some (.int .i64 n) := h1.kept.2.cell 1
       have c2 : w1.cell? ⟨w.heap.size, 2, none⟩ = some (.string s) := h1.kept.2.cell 2
       have c3 : w1.cell? ⟨w.heap.size, 3, none⟩ = some (.string v) := h1.kept.2.cell 3
       clear h1)
    | (go_at_call 15; refine (HTy.out _).mono ?_; rintro e w' ⟨rfl, rfl⟩)
    | (go_at_call 67
       refine (kText HK2.out HT2.out H1.out s (by have := HS.out; have := HV.out; omega)).mono ?_
       rintro e w2 ⟨rfl, h2⟩
       have H2 := Lib.hid h2
       clear h2))
  go_end0
  exact ⟨rfl, H2.out.fst⟩

set_option maxRecDepth 100000 in
set_option maxHeartbeats 4000000 in
theorem pwrite_0 (E : GE) (B g : Nat) (K : World → Prop) (st : WSt) (p : Pr) (w : World) (hK : StabW B K) (hT : KT E K) (h : WrK E B g K w st) (hs : st.1.length + (16 + p.s.size + p.v.size) ≤ 140737488355328) (ht : pTy p.id = 0) :
    Calls Tryz.prog 112 #[.pointer (some ⟨g, 0, none⟩), p.val] w fun e w' => e = .returned (.tuple #[]) ∧ WrK E B g K w' (pWriteT 0 st p) := by
  obtain ⟨id, n, s, v⟩ := p
  simp only [Pr.val] at hs ht ⊢
  have hb := Blk.new w 26 #[.int .i64 id, .int .i64 n, .string s, .string v]
  have H := (h.non hK ((Upd.refl Non w).alloc (.cells #[.int .i64 id, .int .i64 n, .string s, .string v] 26))).and (K' := fun w' => Blk w' w.heap.size 26 #[.int .i64 id, .int .i64 n, .string s, .string v]) hb
  have hK2 : StabW B (fun w' => K w' ∧ Blk w' w.heap.size 26 #[.int .i64 id, .int .i64 n, .string s, .string v]) := hK.and (StabW.blk _ _ _ (by decide))
  have hT2 : KT E (fun w' => K w' ∧ Blk w' w.heap.size 26 #[.int .i64 id, .int .i64 n, .string s, .string v]) := hT.and
  have hv := wVar_len st id
  have HTy := Lib.hid (fun W => ptype_any id W)
  rw [ht] at HTy
  have HH := Lib.hid H
  have HK2 := Lib.hid hK2
  have HT2 := Lib.hid hT2
  have HS := Lib.hid hs
  have HV := Lib.hid hv
  clear H hK2 hT2 hs hv hb h hK hT ht
  go_enter Tryz.func112, Tryz.ntmps112
  go_wp2_with (first
    | (go_at_call 113
       refine (kVar HK2.out HT2.out HH.out id (by have := HS.out; omega)).mono ?_
       rintro e w1 ⟨rfl, h1⟩
       have H1 := Lib.hid h1
       have c0 : w1.cell? ⟨w.heap.size, 0, none⟩ = some (.int .i64 id) := h1.kept.2.cell 0
       have c1 : w1.cell? ⟨w.heap.size, 1, none⟩ = some (.int .i64 n) := h1.kept.2.cell 1
       have c2 : w1.cell? ⟨w.heap.size, 2, none⟩ = some (.string s) := h1.kept.2.cell 2
       have c3 : w1.cell? ⟨w.heap.size, 3, none⟩ = some (.string v) := h1.kept.2.cell 3
       clear h1)
    | (go_at_call 15; refine (HTy.out _).mono ?_; rintro e w' ⟨rfl, rfl⟩))
  go_end0
  exact ⟨rfl, H1.out.fst⟩

theorem pwrite_any (E : GE) (B g : Nat) (K : World → Prop) (st : WSt) (p : Pr) (w : World) (hK : StabW B K) (hT : KT E K) (h : WrK E B g K w st) (hs : st.1.length + (16 + p.s.size + p.v.size) ≤ 140737488355328) :
    Calls Tryz.prog 112 #[.pointer (some ⟨g, 0, none⟩), p.val] w fun e w' => e = .returned (.tuple #[]) ∧ WrK E B g K w' (pWrite st p) := by
  unfold pWrite
  rcases pTy_cases p.id with ht | ht | ht | ht | ht | ht | ht | ht
  all_goals rw [ht]
  · exact pwrite_1 E B g K st p w hK hT h hs ht
  · exact pwrite_2 E B g K st p w hK hT h hs ht
  · exact pwrite_4 E B g K st p w hK hT h hs ht
  · exact pwrite_5 E B g K st p w hK hT h hs ht
  · exact pwrite_7 E B g K st p w hK hT h hs ht
  · exact pwrite_9 E B g K st p w hK hT h hs ht
  · exact pwrite_6 E B g K st p w hK hT h hs ht
  · exact pwrite_0 E B g K st p w hK hT h hs ht
end Go.Proofs.YtmmahkckemclaaaGreatDoor
