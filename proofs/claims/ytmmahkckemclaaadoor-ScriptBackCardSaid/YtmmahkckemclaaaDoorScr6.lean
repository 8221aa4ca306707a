/- Scripts, more: Put. Conditions: fewer than 2^46 bytes; the package variables hold what the program lays there. -/
import Derived.Test.YtmmahkckemclaaaDoorScr5
import Derived.Test.YtmmahkckemclaaaDoorWr3
namespace Go.Proofs.YtmmahkckemclaaaDoor
open Go.RowKit Go.Extern.Stop Go.Stop Go.Extern

set_option maxRecDepth 100000 in
set_option maxHeartbeats 2000000 in
theorem sbounds_any (c : Cfg) (w : World) :
    Calls Tryd.prog 19 #[.agg #[.int .i64 c.c0, .int .i64 c.c1, .int .i64 c.c2, .int .i64 c.c3, .int .i64 c.c4, .int .i64 c.c5, .int .i64 c.c6, .int .i64 c.c7, .int .i64 c.c8, .int .i64 c.c9, .int .i64 c.c10, .int .i64 c.c11, .int .i64 c.c12]] w fun e w' => ∃ g, e = .returned (.slice (some ⟨g, 0, none⟩) 13 13) ∧ w.heap.size ≤ g ∧ Blk w' g 3 #[.int .i64 c.c0, .int .i64 c.c1, .int .i64 c.c2, .int .i64 c.c3, .int .i64 c.c4, .int .i64 c.c5, .int .i64 c.c6, .int .i64 c.c7, .int .i64 c.c8, .int .i64 c.c9, .int .i64 c.c10, .int .i64 c.c11, .int .i64 c.c12] ∧ Upd Non w w' := by
  go_enter Tryd.func19, Tryd.ntmps19
  go_wp2
  go_ret
  exact ⟨_, rfl, by omega, Blk.new_at _ _ _ (by simp), ((Upd.refl _ _).alloc _).alloc _⟩
theorem cints_at (c : Cfg) (i : Nat) (hi : i < 13) : (#[Value.int .i64 c.c0, Value.int .i64 c.c1, Value.int .i64 c.c2, Value.int .i64 c.c3, Value.int .i64 c.c4, Value.int .i64 c.c5, Value.int .i64 c.c6, Value.int .i64 c.c7, Value.int .i64 c.c8, Value.int .i64 c.c9, Value.int .i64 c.c10, Value.int .i64 c.c11, Value.int .i64 c.c12] : Array Value)[i]? = some (.int .i64 (c.list.getD i 0)) := by
  rcases i with _ | _ | _ | _ | _ | _ | _ | _ | _ | _ | _ | _ | _ | i
  all_goals first | rfl | omega

/-- What a script's event makes of a writer. -/
def putE (st : WSt) (e : Ev) : WSt := wBin (wNum 4 (wNum 1 (wNum 1 st e.kind) e.conn) e.n) e.bytes
/-- What the events, from the k-th on, make of a writer; or at which one it ends. -/
def putEvs : Nat → List Ev → WSt → WSt ⊕ Flt
  | _, [], st => .inl st
  | k, e :: l, st => if mayKind e.kind then putEvs (k + 1) l (putE st e) else .inr ⟨7, 128, k⟩
def putStart (c : Cfg) (n : Nat) : WSt := wNum 2 (c.list.foldl (wNum 4) (wRaw ([], none) crier)) n
/-- What Put answers. -/
def putS (c : Cfg) (l : List Ev) : ByteArray × Option Flt :=
  match c.check with
  | some f => (⟨#[]⟩, some f)
  | none =>
    if 16384 < l.length then (⟨#[]⟩, some ⟨4, 149, 0⟩)
    else match putEvs 0 l (putStart c l.length) with
      | .inl st => (wOut st, st.2)
      | .inr f => (⟨#[]⟩, some f)

def evSize (l : List Ev) : Nat := (l.map fun e => 8 + e.bytes.size).sum
theorem putE_len (st : WSt) (e : Ev) : (putE st e).1.length ≤ st.1.length + (8 + e.bytes.size) := by
  unfold putE
  have h1 := wNum_len 1 st e.kind
  have h2 := wNum_len 1 (wNum 1 st e.kind) e.conn
  have h3 := wNum_len 4 (wNum 1 (wNum 1 st e.kind) e.conn) e.n
  have h4 := wBin_len (wNum 4 (wNum 1 (wNum 1 st e.kind) e.conn) e.n) e.bytes
  omega

/-! ### An event of a slice that is read -/
theorem add_pos (a : Addr) (i j : Nat) (hj : 0 < j) : (⟨(a.add i).block, (a.add i).off + j, none⟩ : Addr) = a.add (i + j) := by
  rw [← add_of_add]
  generalize a.add i = x
  unfold Addr.add
  rw [if_neg (by omega)]
theorem evs_get (l : List Ev) (k j : Nat) (hk : k < l.length) (hj : j < 4) : (evs l)[k * 4 + j]? = (l[k]'hk).cells[j]? := by
  induction l generalizing k with
  | nil => simp at hk
  | cons e l ih =>
    have e1 : evs (e :: l) = e.cells.toList ++ evs l := rfl
    have e2 : e.cells.toList.length = 4 := rfl
    cases k with
    | zero => rw [e1, List.getElem?_append_left (by omega)]; simp
    | succ k =>
      rw [e1, List.getElem?_append_right (by omega), show (k + 1) * 4 + j - e.cells.toList.length = k * 4 + j by omega, ih k (by simpa using hk)]
      simp
theorem evs_at {w : World} {A : Option Addr} {l : List Ev} (h : Reads w 4 A l.length (evs l)) (k : Nat) (hk : k < l.length) : ∃ ad, A = some ad ∧ ad.block < w.heap.size ∧
    w.cell? (ad.add (k * 4)) = some (.int .i64 (l[k]'hk).kind) ∧ w.cell? ⟨(ad.add (k * 4)).block, (ad.add (k * 4)).off + 1, none⟩ = some (.int .i64 (l[k]'hk).conn) ∧
    w.cell? ⟨(ad.add (k * 4)).block, (ad.add (k * 4)).off + 2, none⟩ = some (.string (l[k]'hk).bytes) ∧ w.cell? ⟨(ad.add (k * 4)).block, (ad.add (k * 4)).off + 3, none⟩ = some (.int .i64 (l[k]'hk).n) := by
  obtain ⟨ad, rfl, hb, hc⟩ := h.2.2 (by omega)
  refine ⟨ad, rfl, hb, ?_, ?_, ?_, ?_⟩
  · exact hc (k * 4 + 0) (.int .i64 (l[k]'hk).kind) ((evs_get l k 0 hk (by omega)).trans rfl)
  · rw [add_pos _ _ _ (by omega)]; exact hc (k * 4 + 1) _ ((evs_get l k 1 hk (by omega)).trans rfl)
  · rw [add_pos _ _ _ (by omega)]; exact hc (k * 4 + 2) _ ((evs_get l k 2 hk (by omega)).trans rfl)
  · rw [add_pos _ _ _ (by omega)]; exact hc (k * 4 + 3) _ ((evs_get l k 3 hk (by omega)).trans rfl)

set_option maxRecDepth 100000 in
set_option maxHeartbeats 4000000 in
theorem put_check (E : GE) (c : Cfg) (A : Option Addr) (l : List Ev) (cp : Nat) (w : World) (hG : Glob E w) (f : Flt) (hf : c.check = some f) :
    Calls Tryd.prog 7 #[.agg #[.int .i64 c.c0, .int .i64 c.c1, .int .i64 c.c2, .int .i64 c.c3, .int .i64 c.c4, .int .i64 c.c5, .int .i64 c.c6, .int .i64 c.c7, .int .i64 c.c8, .int .i64 c.c9, .int .i64 c.c10, .int .i64 c.c11, .int .i64 c.c12], .slice A l.length cp] w fun e w' => (∃ ev, e = .returned (.tuple #[.string (putS c l).1, ev]) ∧ ErrIs E w' ev (putS c l).2) ∧ Upd Non w w' := by
  have hrv : putS c l = (⟨#[]⟩, some f) := by unfold putS; rw [hf]
  rw [hrv]
  have HF := Lib.hid hf
  clear hf hrv
  have hG0 := hG.non ((Upd.refl Non w).alloc (.cells #[.int .i64 c.c0, .int .i64 c.c1, .int .i64 c.c2, .int .i64 c.c3, .int .i64 c.c4, .int .i64 c.c5, .int .i64 c.c6, .int .i64 c.c7, .int .i64 c.c8, .int .i64 c.c9, .int .i64 c.c10, .int .i64 c.c11, .int .i64 c.c12] 23))
  go_enter Tryd.func7, Tryd.ntmps7
  go_wp2_with (go_at_call 16
               refine (check_any E c _ hG0).mono ?_
               rintro e w1 ⟨⟨ev, rfl, he⟩, hu⟩
               rw [HF.out] at he
               obtain ⟨k, rfl⟩ := ErrIs.form he
               have HE := Lib.hid he
               clear he)
  go_ret2
  exact ⟨⟨_, rfl, HE.out⟩, Upd.trans ((Upd.refl _ _).alloc _) hu (fun _ _ h => h)⟩
set_option maxRecDepth 100000 in
set_option maxHeartbeats 4000000 in
theorem put_long (E : GE) (c : Cfg) (A : Option Addr) (l : List Ev) (cp : Nat) (w : World) (hG : Glob E w) (hf : c.check = none) (hl : 16384 < l.length) :
    Calls Tryd.prog 7 #[.agg #[.int .i64 c.c0, .int .i64 c.c1, .int .i64 c.c2, .int .i64 c.c3, .int .i64 c.c4, .int .i64 c.c5, .int .i64 c.c6, .int .i64 c.c7, .int .i64 c.c8, .int .i64 c.c9, .int .i64 c.c10, .int .i64 c.c11, .int .i64 c.c12], .slice A l.length cp] w fun e w' => (∃ ev, e = .returned (.tuple #[.string (putS c l).1, ev]) ∧ ErrIs E w' ev (putS c l).2) ∧ Upd Non w w' := by
  have hrv : putS c l = (⟨#[]⟩, some ⟨4, 149, 0⟩) := by unfold putS; rw [hf]; simp only; rw [if_pos hl]
  rw [hrv]
  have HF := Lib.hid hf
  clear hf hrv
  have hG0 := hG.non ((Upd.refl Non w).alloc (.cells #[.int .i64 c.c0, .int .i64 c.c1, .int .i64 c.c2, .int .i64 c.c3, .int .i64 c.c4, .int .i64 c.c5, .int .i64 c.c6, .int .i64 c.c7, .int .i64 c.c8, .int .i64 c.c9, .int .i64 c.c10, .int .i64 c.c11, .int .i64 c.c12] 23))
  go_enter Tryd.func7, Tryd.ntmps7
  go_wp2_with (first
    | (go_at_call 16
       refine (check_any E c _ hG0).mono ?_
       rintro e w1 ⟨⟨ev, rfl, he⟩, hu⟩
       rw [HF.out] at he
       obtain rfl : ev = .nilIface := he
       have hG1 := hG0.non hu
       have g4 := hG1.at_ 4 (by decide) (by decide)
       simp only [gix, GE.kd] at g4)
    | (go_at_call 17; refine (new_any _ _ _ _ _).mono ?_; rintro e w2 ⟨rfl, rfl⟩))
  go_ret2
  exact ⟨⟨_, rfl, ErrIs.new_at _ 4 149 0 (by decide) (by decide) rfl⟩, (Upd.trans ((Upd.refl _ _).alloc _) hu (fun _ _ h => h)).alloc _⟩

/-- Behind what stands ahead: where the writer is. -/
theorem fold_take (st : WSt) (l : List Int) (i : Nat) (hi : i < l.length) : (l.take (i + 1)).foldl (wNum 4) st = wNum 4 ((l.take i).foldl (wNum 4) st) (l.getD i 0) := by
  rw [List.take_succ_eq_append_getElem hi, List.foldl_append, List.getD_eq_getElem?_getD, List.getElem?_eq_getElem hi]
  rfl
set_option maxRecDepth 100000 in
set_option maxHeartbeats 4000000 in
theorem put_main (E : GE) (c : Cfg) (A : Option Addr) (l : List Ev) (cp : Nat) (w : World) (hG : Glob E w) (hf : c.check = none) (hl : l.length ≤ 16384) (hr : Reads w 4 A l.length (evs l)) (hs : evSize l ≤ 70368744177664) :
    Calls Tryd.prog 7 #[.agg #[.int .i64 c.c0, .int .i64 c.c1, .int .i64 c.c2, .int .i64 c.c3, .int .i64 c.c4, .int .i64 c.c5, .int .i64 c.c6, .int .i64 c.c7, .int .i64 c.c8, .int .i64 c.c9, .int .i64 c.c10, .int .i64 c.c11, .int .i64 c.c12], .slice A l.length cp] w fun e w' => (∃ ev, e = .returned (.tuple #[.string (putS c l).1, ev]) ∧ ErrIs E w' ev (putS c l).2) ∧ Upd Non w w' := by
  have hrv : putS c l = (match putEvs 0 l (putStart c l.length) with | .inl st => (wOut st, st.2) | .inr f => (⟨#[]⟩, some f)) := by
    unfold putS; rw [hf]; simp only; rw [if_neg (by omega)]
  have HRV := Lib.hid hrv
  have HF := Lib.hid hf
  clear hf hrv
  have hG0 := hG.non ((Upd.refl Non w).alloc (.cells #[.int .i64 c.c0, .int .i64 c.c1, .int .i64 c.c2, .int .i64 c.c3, .int .i64 c.c4, .int .i64 c.c5, .int .i64 c.c6, .int .i64 c.c7, .int .i64 c.c8, .int .i64 c.c9, .int .i64 c.c10, .int .i64 c.c11, .int .i64 c.c12] 23))
  have hb0 := Blk.new w 23 #[.int .i64 c.c0, .int .i64 c.c1, .int .i64 c.c2, .int .i64 c.c3, .int .i64 c.c4, .int .i64 c.c5, .int .i64 c.c6, .int .i64 c.c7, .int .i64 c.c8, .int .i64 c.c9, .int .i64 c.c10, .int .i64 c.c11, .int .i64 c.c12]
  go_enter Tryd.func7, Tryd.ntmps7
  go_upto_region 8 with (first
    | (go_at_call 16
       refine (check_any E c _ hG0).mono ?_
       rintro e w1 ⟨⟨ev, rfl, he⟩, hu⟩
       rw [HF.out] at he
       obtain rfl : ev = .nilIface := he
       have hG1 := hG0.non hu
       have hb1 := hb0.upd hu (fun h => h)
       have hU1 : Upd Non w w1 := Upd.trans ((Upd.refl _ _).alloc _) hu (fun _ _ h => h)
       clear hb0 hG0)
    | (go_at_call 18
       have hlz := hb1.lt
       have hK : Hid (StabW w1.heap.size (fun w' => Upd Non w w' ∧ Blk w' w.heap.size 23 #[.int .i64 c.c0, .int .i64 c.c1, .int .i64 c.c2, .int .i64 c.c3, .int .i64 c.c4, .int .i64 c.c5, .int .i64 c.c6, .int .i64 c.c7, .int .i64 c.c8, .int .i64 c.c9, .int .i64 c.c10, .int .i64 c.c11, .int .i64 c.c12])) :=
         Lib.hid (fun _ _ ht h => ⟨Upd.trans h.1 ht (fun i hi ⟨hB, _⟩ => by omega), h.2.tch ht (by decide)⟩)
       have h0 : WrK E w1.heap.size w1.heap.size (fun w' => Upd Non w w' ∧ Blk w' w.heap.size 23 #[.int .i64 c.c0, .int .i64 c.c1, .int .i64 c.c2, .int .i64 c.c3, .int .i64 c.c4, .int .i64 c.c5, .int .i64 c.c6, .int .i64 c.c7, .int .i64 c.c8, .int .i64 c.c9, .int .i64 c.c10, .int .i64 c.c11, .int .i64 c.c12]) (w1.alloc (.cells #[.slice none 0 0, .nilIface] 58)) ([], none) :=
         ⟨hG1.non ((Upd.refl _ _).alloc _), Wr.new E w1 hG1, hU1.alloc _, hb1.alloc _⟩
       refine (kRaw hK.out h0 _ (by simp [ByteArray.size])).mono ?_
       rintro e w2 ⟨rfl, h2⟩))
  clear hG1 hb1
  have hk2 := h2.kept
  obtain ⟨z0, z1, z2, z3, z4, z5, z6, z7, z8, z9, z10, z11, z12⟩ := hk2.2.cells13
  have HK2 := Lib.hid hk2
  clear hk2
  obtain ⟨K2, hK2e⟩ : ∃ K2 : Nat → World → Prop, K2 = fun gb w' => Upd Non w w' ∧ Blk w' gb 3 #[.int .i64 c.c0, .int .i64 c.c1, .int .i64 c.c2, .int .i64 c.c3, .int .i64 c.c4, .int .i64 c.c5, .int .i64 c.c6, .int .i64 c.c7, .int .i64 c.c8, .int .i64 c.c9, .int .i64 c.c10, .int .i64 c.c11, .int .i64 c.c12] := ⟨_, rfl⟩
  have hK2 : Hid (∀ gb, StabW w1.heap.size (K2 gb)) := by
    rw [hK2e]
    exact Lib.hid (fun gb _ _ ht h => ⟨Upd.trans h.1 ht (fun i hi ⟨hB, _⟩ => by have := hU1.size; omega), h.2.tch ht (by decide)⟩)
  have HK2E := Lib.hid hK2e
  clear hK2e
  have hst0 : Hid ((wRaw ([], none) crier).1.length ≤ 5) := Lib.hid (by decide)
  go_wp2_with (go_at_call 19
               refine (sbounds_any c _).mono ?_
               rintro e w3 ⟨gb, rfl, hgb, hbb, hu3⟩
               have h3 : WrK E w1.heap.size w1.heap.size (K2 gb) w3 (wRaw ([], none) crier) := by
                 rw [HK2E.out]
                 exact ⟨h2.glob.non hu3, h2.wr.non hu3, Upd.trans HK2.out.1 hu3 (fun _ _ h => h), hbb⟩
               clear h2 hbb z0 z1 z2 z3 z4 z5 z6 z7 z8 z9 z10 z11 z12)
  have hK3 := Lib.hid (hK2.out gb)
  go_loopg [29] 13 (fun kq v w' => ∃ (i : Nat) (st' : WSt), v = .int .i64 i ∧ Hid (i + kq = 13) ∧ Hid (st' = (c.list.take i).foldl (wNum 4) (wRaw ([], none) crier)) ∧ Hid (st'.1.length ≤ 5 + 4 * i) ∧ WrK E w1.heap.size w1.heap.size (K2 gb) w' st')
  case atStart => exact ⟨0, _, rfl, Lib.hid rfl, Lib.hid rfl, hst0, h3⟩
  case round =>
    clear h3
    obtain ⟨i, st', rfl, hq, hst, hln, h3⟩ := hrel
    by_cases hi : i < 13
    · have hbb := h3.kept
      rw [HK2E.out] at hbb
      have hc := (hbb.2.cell i).trans (cints_at c i hi)
      clear hbb
      obtain ⟨x, hx⟩ : ∃ x, x = c.list.getD i 0 := ⟨_, rfl⟩
      rw [← hx] at hc
      have HX := Lib.hid hx
      clear hx
      go_wp2_with (go_at_call 20
                   refine (kU32 hK3.out h3 _ (by have := hln.out; omega)).mono ?_
                   rintro e w4 ⟨rfl, h4⟩)
      go_roundg (gk - 1)
      case measure => have := hq.out; omega
      case rel =>
        have hq' := hq.out
        have hln' := hln.out
        have h5 := wNum_len 4 st' x
        refine ⟨i + 1, wNum 4 st' x, by go_num, Lib.hid (by omega), Lib.hid ?_, Lib.hid (by omega), h4⟩
        rw [fold_take _ _ _ (by exact hi), ← hst.out, HX.out]
    · have h13 : i = 13 := by have := hq.out; omega
      have hi' : ¬ ((i : Int) < 13) := by omega
      have hb57 : st'.1.length ≤ 57 := by have := hln.out; omega
      have hst' : Hid (wNum 2 st' l.length = putStart c l.length) := by
        have h1 : c.list.take i = c.list := List.take_of_length_le (by rw [h13]; exact Nat.le_refl _)
        unfold putStart
        rw [hst.out, h1]
        exact rfl
      have HI := Lib.hid h13
      clear h13
      go_wp2_with (go_at_call 21
                   refine (kU16 hK3.out h3 _ (by omega)).mono ?_
                   rintro e w4 ⟨rfl, h4⟩
                   rw [hst'.out] at h4)
      go_loopg [43] l.length (fun kq v w' => ∃ (i : Nat) (st' : WSt), v = .int .i64 i ∧ Hid (i + kq = l.length) ∧ Hid (putEvs i (l.drop i) st' = putEvs 0 l (putStart c l.length)) ∧ Hid (st'.1.length + evSize (l.drop i) ≤ 59 + evSize l) ∧ WrK E w1.heap.size w1.heap.size (K2 gb) w' st')
      case atStart =>
        refine ⟨0, _, rfl, Lib.hid (Nat.zero_add _), Lib.hid rfl, Lib.hid ?_, h4⟩
        have h5 := wNum_len 2 st' l.length
        rw [hst'.out] at h5
        rw [List.drop_zero]
        omega
      case round =>
        clear h3 h4 hq hst hln hst' HI hi' hi hb57 hst0
        obtain ⟨i, st', rfl, hq, hE, hln, h3⟩ := hrel
        by_cases hi : i < l.length
        · obtain ⟨e, he⟩ : ∃ e, e = l[i]'hi := ⟨_, rfl⟩
          have hkk := h3.kept
          rw [HK2E.out] at hkk
          obtain ⟨ad, hA, hal, x0, x1, x2, x3⟩ := evs_at (hr.updNon hkk.1) i hi
          subst hA
          rw [← he] at x0 x1 x2 x3
          have hdr : l.drop i = e :: l.drop (i + 1) := by rw [he]; exact List.drop_eq_getElem_cons hi
          have hE' := hE.out
          have hln' := hln.out
          rw [hdr] at hE' hln'
          have hez : evSize (e :: l.drop (i + 1)) = 8 + e.bytes.size + evSize (l.drop (i + 1)) := by simp [evSize]
          rw [hez] at hln'
          have L0 : st'.1.length + 8 + e.bytes.size ≤ 140737488355328 := by omega
          have L1 := wNum_len 1 st' e.kind
          have L2 := wNum_len 1 (wNum 1 st' e.kind) e.conn
          have L3 := wNum_len 4 (wNum 1 (wNum 1 st' e.kind) e.conn) e.n
          have HLN := Lib.hid hln'
          have HEE := Lib.hid hE'
          have hK4 : Hid (StabW w1.heap.size (fun w' => K2 gb w' ∧ Blk w' wr.heap.size 49 #[.int .i64 e.kind, .int .i64 e.conn, .string e.bytes, .int .i64 e.n])) := Lib.hid (fun _ _ ht h => ⟨hK3.out _ _ ht h.1, h.2.tch ht (by decide)⟩)
          have h4 : WrK E w1.heap.size w1.heap.size (fun w' => K2 gb w' ∧ Blk w' wr.heap.size 49 #[.int .i64 e.kind, .int .i64 e.conn, .string e.bytes, .int .i64 e.n]) (wr.alloc (.cells #[.int .i64 e.kind, .int .i64 e.conn, .string e.bytes, .int .i64 e.n] 49)) st' :=
            ⟨h3.glob.non ((Upd.refl _ _).alloc _), h3.wr.non ((Upd.refl _ _).alloc _), hK3.out _ _ (Tch.of_non ((Upd.refl _ _).alloc _)) h3.kept, Blk.new _ _ _⟩
          clear he hdr hE' hln' hez hkk
          cases hm : mayKind e.kind with
          | false =>
            have HM := Lib.hid hm
            clear hm
            have g7 := h3.glob.at_ 7 (by decide) (by decide)
            simp only [gix, GE.kd] at g7
            have hl7 : 1 < wr.heap.size := Nat.lt_of_lt_of_le (h3.glob.lt 7) h3.glob.size
            go_wp2_with (first
              | (go_at_call 22; refine (may_any _ _).mono ?_; rintro e w5 ⟨rfl, rfl⟩; rw [HM.out])
              | (go_at_call 17; refine (new_any _ _ _ _ _).mono ?_; rintro e w5 ⟨rfl, rfl⟩))
            go_ret2
            have hkk := h3.kept
            rw [HK2E.out] at hkk
            have e1 : putEvs 0 l (putStart c l.length) = .inr ⟨7, 128, i⟩ := by
              rw [← HEE.out]; unfold putEvs; rw [HM.out]; rfl
            have e2 : putS c l = (⟨#[]⟩, some ⟨7, 128, i⟩) := by rw [HRV.out, e1]
            rw [e2]
            exact ⟨⟨_, rfl, ErrIs.new_at _ 7 128 i (by decide) (by decide) (by simp)⟩, (hkk.1.alloc _).alloc _⟩
          | true =>
            have HM := Lib.hid hm
            clear hm
            go_wp2_with (first
              | (go_at_call 22; refine (may_any _ _).mono ?_; rintro e w5 ⟨rfl, rfl⟩; rw [HM.out])
              | (go_at_call 23
                 refine (kU8 hK4.out (by assumption) _ (by omega)).mono ?_
                 rintro e' w5 ⟨rfl, h5⟩
                 obtain ⟨y0, y1, y2, y3⟩ := h5.kept.2.cells4)
              | (go_at_call 20
                 refine (kU32 hK4.out (by assumption) _ (by omega)).mono ?_
                 rintro e' w6 ⟨rfl, h6⟩
                 obtain ⟨t0, t1, t2, t3⟩ := h6.kept.2.cells4)
              | (go_at_call 24
                 refine (kBin hK4.out (by assumption) _ (by omega)).mono ?_
                 rintro e' w7 ⟨rfl, h7⟩))
            go_roundg (gk - 1)
            case measure => have := hq.out; omega
            case rel =>
              have hq' := hq.out
              have hln' := HLN.out
              have hpl := putE_len st' e
              have e1 : putEvs (i + 1) (l.drop (i + 1)) (putE st' e) = putEvs 0 l (putStart c l.length) := by
                rw [← HEE.out]
                conv => rhs; unfold putEvs
                rw [HM.out]; rfl
              exact ⟨i + 1, putE st' e, by go_num, Lib.hid (by omega), Lib.hid e1, Lib.hid (by omega), h7.glob, h7.wr, h7.kept.1⟩
        · have hil : i = l.length := by have := hq.out; omega
          have hE' := hE.out
          rw [List.drop_of_length_le (by omega)] at hE'
          have e1 : putS c l = (wOut st', st'.2) := by rw [HRV.out, ← hE']; rfl
          have E1 := Lib.hid e1
          have hi2 : ¬ ((i : Int) < l.length) := by omega
          clear hE' hil e1
          go_wp2_with (go_at_call 25; refine (kBytes h3).mono ?_; rintro e w5 ⟨⟨ev, rfl, he⟩, rfl⟩)
          go_ret2
          have hkk := h3.kept
          rw [HK2E.out] at hkk
          rw [E1.out]
          exact ⟨⟨_, rfl, he⟩, hkk.1⟩
theorem put_any (E : GE) (c : Cfg) (A : Option Addr) (l : List Ev) (cp : Nat) (w : World) (hG : Glob E w) (hr : Reads w 4 A l.length (evs l)) (hs : evSize l ≤ 70368744177664) :
    Calls Tryd.prog 7 #[.agg #[.int .i64 c.c0, .int .i64 c.c1, .int .i64 c.c2, .int .i64 c.c3, .int .i64 c.c4, .int .i64 c.c5, .int .i64 c.c6, .int .i64 c.c7, .int .i64 c.c8, .int .i64 c.c9, .int .i64 c.c10, .int .i64 c.c11, .int .i64 c.c12], .slice A l.length cp] w fun e w' => (∃ ev, e = .returned (.tuple #[.string (putS c l).1, ev]) ∧ ErrIs E w' ev (putS c l).2) ∧ Upd Non w w' := by
  cases hf : c.check with
  | some f => exact put_check E c A l cp w hG f hf
  | none =>
    by_cases hl : 16384 < l.length
    · exact put_long E c A l cp w hG hf hl
    · exact put_main E c A l cp w hG hf (by omega) hr hs
end Go.Proofs.YtmmahkckemclaaaDoor
