/- The law: a script that is put is taken as it was, a script that is taken is put as the same bytes. No condition. -/
import Derived.Test.YtmmahkckemclaaaDoorScr9
namespace Go.Proofs.YtmmahkckemclaaaDoor
open Go.RowKit

theorem evSize_le : ∀ (l : List Ev), (∀ e, e ∈ l → e.bytes.size < 65536) → evSize l ≤ l.length * 65544
  | [], _ => by simp [evSize]
  | e :: l, h => by
    have h1 := evSize_le l (fun x hx => h x (List.mem_cons_of_mem _ hx))
    have h2 := h e List.mem_cons_self
    simp only [evSize, List.map_cons, List.sum_cons, List.length_cons] at h1 ⊢
    omega
theorem few_size (l : List Ev) (h : fewEv l = true) : evSize l ≤ 70368744177664 := by
  simp only [fewEv, Bool.and_eq_true, decide_eq_true_eq, List.all_eq_true] at h
  have h1 := evSize_le l (fun e he => by have := h.2 e he; omega)
  have h2 := h.1
  omega
theorem put_size (c : Cfg) (l : List Ev) (s : ByteArray) (h : putS c l = (s, none)) : evSize l ≤ 70368744177664 := by
  unfold putS at h
  split at h
  · cases h
  · split at h
    · cases h
    · rename_i hl
      split at h
      · rename_i st hst
        obtain ⟨_, h2, _⟩ := putEvs_none _ _ _ _ hst (Prod.mk.inj h).2
        have := evSize_le l (fun e he => (h2 e he).2.2.2.2)
        omega
      · cases h
/-- What is not taken is nothing. -/
theorem take_none (s : ByteArray) (f : Flt) (h : (takeS s).2.2 = some f) : takeS s = (cfg0, [], some f) := by
  unfold takeS at h ⊢
  split at h
  · cases h; rfl
  · split at h
    · cases h; rfl
    · cases h

/-- Put, at a world behind. -/
theorem put_call (E : GE) (c : Cfg) (A : Option Addr) (l : List Ev) (cp : Nat) (w w1 : World) (hG : Glob E w) (hr : Reads w 4 A l.length (evs l)) (hs : evSize l ≤ 70368744177664) (hu : Upd Non w w1) (r : ByteArray × Option Flt) (hp : putS c l = r) :
    Calls Tryd.prog 7 #[.agg #[.int .i64 c.c0, .int .i64 c.c1, .int .i64 c.c2, .int .i64 c.c3, .int .i64 c.c4, .int .i64 c.c5, .int .i64 c.c6, .int .i64 c.c7, .int .i64 c.c8, .int .i64 c.c9, .int .i64 c.c10, .int .i64 c.c11, .int .i64 c.c12], .slice A l.length cp] w1 fun e w' => (∃ ev, e = .returned (.tuple #[.string r.1, ev]) ∧ Hid (ErrIs E w' ev r.2)) ∧ Hid (Upd Non w1 w') := by
  subst hp
  refine (put_any E c A l cp w1 (hG.non hu) (hr.updNon hu) hs).mono ?_
  rintro e w' ⟨⟨ev, rfl, he⟩, hu'⟩
  exact ⟨⟨ev, rfl, Lib.hid he⟩, Lib.hid hu'⟩
/-- Take, at a world behind. -/
theorem take_call (E : GE) (s : ByteArray) (hs : s.size ≤ 140737488355328) (w w1 : World) (hG : Glob E w) (hu : Upd Non w w1) (d : Cfg) (l : List Ev) (f : Option Flt) (ht : takeS s = (d, l, f)) :
    Calls Tryd.prog 8 #[.string s] w1 fun e w' => (∃ A cp ev, e = .returned (.tuple #[.agg #[.int .i64 d.c0, .int .i64 d.c1, .int .i64 d.c2, .int .i64 d.c3, .int .i64 d.c4, .int .i64 d.c5, .int .i64 d.c6, .int .i64 d.c7, .int .i64 d.c8, .int .i64 d.c9, .int .i64 d.c10, .int .i64 d.c11, .int .i64 d.c12], .slice A l.length cp, ev]) ∧ Hid (Reads w' 4 A l.length (evs l)) ∧ Hid (ErrIs E w' ev f)) ∧ Hid (Upd Non w1 w') := by
  have hT := take_any E s hs w1 (hG.non hu)
  rw [ht] at hT
  refine hT.mono ?_
  rintro e w' ⟨⟨v, ev, rfl, ho, he⟩, hu'⟩
  obtain ⟨A, cp, rfl⟩ := own_slice ho
  exact ⟨⟨A, cp, ev, rfl, Lib.hid (Reads.of_own ho), Lib.hid he⟩, Lib.hid hu'⟩
theorem take_call_no (E : GE) (s : ByteArray) (hs : s.size ≤ 140737488355328) (w w1 : World) (hG : Glob E w) (hu : Upd Non w w1) (f : Flt) (ht : takeS s = (cfg0, [], some f)) :
    Calls Tryd.prog 8 #[.string s] w1 fun e w' => (∃ A cp k, e = .returned (.tuple #[.agg #[.int .i64 0, .int .i64 0, .int .i64 0, .int .i64 0, .int .i64 0, .int .i64 0, .int .i64 0, .int .i64 0, .int .i64 0, .int .i64 0, .int .i64 0, .int .i64 0, .int .i64 0], .slice A 0 cp, .iface 90 (.pointer (some ⟨k, 0, none⟩))])) ∧ Hid (Upd Non w1 w') := by
  refine (take_call E s hs w w1 hG hu cfg0 [] (some f) ht).mono ?_
  rintro e w' ⟨⟨A, cp, ev, rfl, _, he⟩, hu'⟩
  obtain ⟨k, rfl⟩ := ErrIs.form he.out
  exact ⟨⟨A, cp, k, rfl⟩, hu'⟩
theorem evB_len : ∀ (l : List Ev), (l.flatMap evB).length = evSize l
  | [] => rfl
  | e :: l => by
    have h := evB_len l
    simp only [evSize, List.map_cons, List.sum_cons] at h ⊢
    rw [List.flatMap_cons, List.length_append, h, evB]
    simp only [List.length_append, beN_length, Array.length_toList, ByteArray.size_data]
    omega
theorem put_len (c : Cfg) (l : List Ev) (S : ByteArray) (h : putS c l = (S, none)) : S.size ≤ 140737488355328 := by
  have hs := put_size c l S h
  unfold putS at h
  split at h
  · cases h
  · split at h
    · cases h
    · split at h
      · rename_i st hst
        obtain ⟨h1, h2, h3⟩ := putEvs_none _ _ _ _ hst (Prod.mk.inj h).2
        unfold putStart at h1 h3
        obtain ⟨h4, h5, h6⟩ := wNum_none _ _ _ h1
        obtain ⟨h7, h8, h9⟩ := fold_none _ _ h4
        rw [h6, h9] at h3
        rw [h3] at h
        have := (Prod.mk.inj h).1
        rw [← this]
        have hl := evB_len l
        simp only [wOut, str_size, wRaw, crier, List.length_append, beN_length, Cfg.list, List.flatMap_cons, List.flatMap_nil, List.length_nil, str_toList, List.length_cons, hl]
        omega
      · cases h
theorem few_call (A : Option Addr) (l : List Ev) (cp : Nat) (w w1 : World) (hr : Reads w 4 A l.length (evs l)) (hu : Upd Non w w1) (b : Bool) (hb : fewEv l = b) :
    Calls Tryd.prog 5 #[.slice A l.length cp, .int .i64 40] w1 fun e w' => e = .returned (.bool b) ∧ w1 = w' := by
  subst hb
  exact few_any A l cp w1 (hr.updNon hu)
theorem awake_call (E : GE) (w w1 : World) (hG : Glob E w) (hu : Upd Non w w1) : Calls Tryd.prog 6 #[] w1 fun e w' => e = .returned (.bool true) ∧ Hid (Upd Non w w') := by
  refine (awake_any E w1 (hG.non hu)).mono ?_
  rintro e w' ⟨rfl, hu'⟩
  exact ⟨rfl, Lib.hid (hu.trans hu' (fun _ _ h => h))⟩

set_option maxRecDepth 100000 in
set_option maxHeartbeats 4000000 in
theorem law_many (E : GE) (c : Cfg) (A : Option Addr) (l : List Ev) (cp : Nat) (s : ByteArray) (w : World) (hG : Glob E w) (hr : Reads w 4 A l.length (evs l)) (hf : fewEv l = false) :
    Calls Tryd.prog 3 #[.agg #[.int .i64 c.c0, .int .i64 c.c1, .int .i64 c.c2, .int .i64 c.c3, .int .i64 c.c4, .int .i64 c.c5, .int .i64 c.c6, .int .i64 c.c7, .int .i64 c.c8, .int .i64 c.c9, .int .i64 c.c10, .int .i64 c.c11, .int .i64 c.c12], .slice A l.length cp, .string s] w fun e w' => e = .returned (.bool true) ∧ Upd Non w w' := by
  have HUB := Lib.hid ((Upd.refl Non w).alloc (.cells #[.int .i64 c.c0, .int .i64 c.c1, .int .i64 c.c2, .int .i64 c.c3, .int .i64 c.c4, .int .i64 c.c5, .int .i64 c.c6, .int .i64 c.c7, .int .i64 c.c8, .int .i64 c.c9, .int .i64 c.c10, .int .i64 c.c11, .int .i64 c.c12] 23))
  have HF := Lib.hid hf
  have HR := Lib.hid hr
  clear hf hr
  go_enter Tryd.func3, Tryd.ntmps3
  go_wp2_with (first
    | (go_at_call 5
       refine (few_call A l cp w _ HR.out HUB.out _ HF.out).mono ?_
       rintro e w0 ⟨rfl, hw0⟩
       subst hw0)
    | (go_at_call 6
       refine (awake_call E w _ hG HUB.out).mono ?_
       rintro e w0 ⟨rfl, hw0⟩))
  go_ret
  exact ⟨rfl, hw0.out⟩
set_option maxRecDepth 100000 in
set_option maxHeartbeats 4000000 in
theorem law_long (E : GE) (c : Cfg) (A : Option Addr) (l : List Ev) (cp : Nat) (s : ByteArray) (w : World) (hG : Glob E w) (hr : Reads w 4 A l.length (evs l)) (hf : fewEv l = true) (hz : (8192 : Int) < s.size) :
    Calls Tryd.prog 3 #[.agg #[.int .i64 c.c0, .int .i64 c.c1, .int .i64 c.c2, .int .i64 c.c3, .int .i64 c.c4, .int .i64 c.c5, .int .i64 c.c6, .int .i64 c.c7, .int .i64 c.c8, .int .i64 c.c9, .int .i64 c.c10, .int .i64 c.c11, .int .i64 c.c12], .slice A l.length cp, .string s] w fun e w' => e = .returned (.bool true) ∧ Upd Non w w' := by
  have HUB := Lib.hid ((Upd.refl Non w).alloc (.cells #[.int .i64 c.c0, .int .i64 c.c1, .int .i64 c.c2, .int .i64 c.c3, .int .i64 c.c4, .int .i64 c.c5, .int .i64 c.c6, .int .i64 c.c7, .int .i64 c.c8, .int .i64 c.c9, .int .i64 c.c10, .int .i64 c.c11, .int .i64 c.c12] 23))
  have HF := Lib.hid hf
  have HR := Lib.hid hr
  clear hf hr
  go_enter Tryd.func3, Tryd.ntmps3
  go_wp2_with (first
    | (go_at_call 5
       refine (few_call A l cp w _ HR.out HUB.out _ HF.out).mono ?_
       rintro e w0 ⟨rfl, hw0⟩
       subst hw0)
    | (go_at_call 6
       refine (awake_call E w _ hG HUB.out).mono ?_
       rintro e w0 ⟨rfl, hw0⟩))
  go_ret
  exact ⟨rfl, hw0.out⟩

set_option maxRecDepth 100000 in
set_option maxHeartbeats 4000000 in
theorem law_none_none (E : GE) (c : Cfg) (A : Option Addr) (l : List Ev) (cp : Nat) (s : ByteArray) (w : World) (hG : Glob E w) (hr : Reads w 4 A l.length (evs l)) (hf : fewEv l = true) (hz : (s.size : Int) ≤ 8192) (S : ByteArray) (hp : putS c l = (S, none)) (d : Cfg) (l2 : List Ev) (ht : takeS s = (d, l2, none)) :
    Calls Tryd.prog 3 #[.agg #[.int .i64 c.c0, .int .i64 c.c1, .int .i64 c.c2, .int .i64 c.c3, .int .i64 c.c4, .int .i64 c.c5, .int .i64 c.c6, .int .i64 c.c7, .int .i64 c.c8, .int .i64 c.c9, .int .i64 c.c10, .int .i64 c.c11, .int .i64 c.c12], .slice A l.length cp, .string s] w fun e w' => e = .returned (.bool true) ∧ Upd Non w w' := by
  have HUB := Lib.hid ((Upd.refl Non w).alloc (.cells #[.int .i64 c.c0, .int .i64 c.c1, .int .i64 c.c2, .int .i64 c.c3, .int .i64 c.c4, .int .i64 c.c5, .int .i64 c.c6, .int .i64 c.c7, .int .i64 c.c8, .int .i64 c.c9, .int .i64 c.c10, .int .i64 c.c11, .int .i64 c.c12] 23))
  have HF := Lib.hid hf
  have HR := Lib.hid hr
  clear hf hr
  have hS := few_size l HF.out
  have HS := Lib.hid hS
  clear hS
  have HP := Lib.hid hp
  have HT := Lib.hid ht
  have hzs : s.size ≤ 140737488355328 := by omega
  have hng : decide ((8192 : Int) < s.size) = false := by simp; omega
  have HP2 := Lib.hid (take_put s (by rw [ht]))
  rw [ht] at HP2
  have HS2 := Lib.hid (put_size d l2 s HP2.out)
  have HT1 := Lib.hid (put_take c l (by rw [hp]))
  rw [hp] at HT1
  have hSs := put_len c l S hp
  clear hp ht
  go_enter Tryd.func3, Tryd.ntmps3
  go_wp2_with (first
    | (go_at_call 5
       refine (few_call A l cp w _ HR.out HUB.out _ HF.out).mono ?_
       rintro e w0 ⟨rfl, hw0⟩
       subst hw0)
    | (go_at_call 7
       have _w4 := w4.heap
       refine (put_call E d A4 l2 cp4 w4 _ (hG.non HU4.out) HR4.out HS2.out ((Upd.refl Non w4).alloc _) _ HP2.out).mono ?_
       rintro e w5 ⟨⟨ev5, rfl, HE5⟩, HV5⟩
       obtain rfl : ev5 = .nilIface := HE5.out
       have HU5 := hidT (hidT HU4 ((Upd.refl Non w4).alloc _)) HV5.out)
    | (go_at_call 7
       refine (put_call E c A l cp w _ hG HR.out HS.out HUB.out _ HP.out).mono ?_
       rintro e w1 ⟨⟨ev1, rfl, HE1⟩, HV1⟩
       obtain rfl : ev1 = .nilIface := HE1.out
       have HU1 := hidT HUB HV1.out)
    | (go_at_call 8
       have _w3 := w3.heap
       refine (take_call E s hzs w w3 hG HU3.out d l2 none HT.out).mono ?_
       rintro e w4 ⟨⟨A4, cp4, ev4, rfl, HR4, HE4⟩, HV4⟩
       obtain rfl : ev4 = .nilIface := HE4.out
       have HU4 := hidT HU3 HV4.out)
    | (go_at_call 8
       refine (take_call E S hSs w w1 hG HU1.out c l none HT1.out).mono ?_
       rintro e w2 ⟨⟨A2, cp2, ev2, rfl, HR2, HE2⟩, HV2⟩
       obtain rfl : ev2 = .nilIface := HE2.out
       have HU2 := hidT HU1 HV2.out
       have hb2 := Blk.upd (S := Non) (Blk.upd (S := Non) (Blk.new w 23 #[.int .i64 c.c0, .int .i64 c.c1, .int .i64 c.c2, .int .i64 c.c3, .int .i64 c.c4, .int .i64 c.c5, .int .i64 c.c6, .int .i64 c.c7, .int .i64 c.c8, .int .i64 c.c9, .int .i64 c.c10, .int .i64 c.c11, .int .i64 c.c12]) HV1.out (fun h => h)) HV2.out (fun h => h)
       obtain ⟨z0, z1, z2, z3, z4, z5, z6, z7, z8, z9, z10, z11, z12⟩ := hb2.cells13
       have hlz := hb2.lt
       clear hb2)
    | (go_at_call 9
       refine (same_eq A2 A l cp2 cp _ (HR2.out.updNon ((Upd.refl Non w2).alloc _)) (HR.out.updNon (HU2.out.alloc _))).mono ?_
       rintro e w3 ⟨rfl, hu3⟩
       have HU3 := hidT (hidT HU2 ((Upd.refl Non w2).alloc _)) hu3
       clear hu3)
    | (go_at_call 6
       refine (awake_call E w w5 hG HU5.out).mono ?_
       rintro e w6 ⟨rfl, hw6⟩))
  go_ret
  exact ⟨rfl, hw6.out⟩

set_option maxRecDepth 100000 in
set_option maxHeartbeats 4000000 in
theorem law_none_some (E : GE) (c : Cfg) (A : Option Addr) (l : List Ev) (cp : Nat) (s : ByteArray) (w : World) (hG : Glob E w) (hr : Reads w 4 A l.length (evs l)) (hf : fewEv l = true) (hz : (s.size : Int) ≤ 8192) (S : ByteArray) (hp : putS c l = (S, none)) (f2 : Flt) (ht : takeS s = (cfg0, [], some f2)) :
    Calls Tryd.prog 3 #[.agg #[.int .i64 c.c0, .int .i64 c.c1, .int .i64 c.c2, .int .i64 c.c3, .int .i64 c.c4, .int .i64 c.c5, .int .i64 c.c6, .int .i64 c.c7, .int .i64 c.c8, .int .i64 c.c9, .int .i64 c.c10, .int .i64 c.c11, .int .i64 c.c12], .slice A l.length cp, .string s] w fun e w' => e = .returned (.bool true) ∧ Upd Non w w' := by
  have HUB := Lib.hid ((Upd.refl Non w).alloc (.cells #[.int .i64 c.c0, .int .i64 c.c1, .int .i64 c.c2, .int .i64 c.c3, .int .i64 c.c4, .int .i64 c.c5, .int .i64 c.c6, .int .i64 c.c7, .int .i64 c.c8, .int .i64 c.c9, .int .i64 c.c10, .int .i64 c.c11, .int .i64 c.c12] 23))
  have HF := Lib.hid hf
  have HR := Lib.hid hr
  clear hf hr
  have hS := few_size l HF.out
  have HS := Lib.hid hS
  clear hS
  have HP := Lib.hid hp
  have HT := Lib.hid ht
  have hzs : s.size ≤ 140737488355328 := by omega
  have hng : decide ((8192 : Int) < s.size) = false := by simp; omega
  have HT1 := Lib.hid (put_take c l (by rw [hp]))
  rw [hp] at HT1
  have hSs := put_len c l S hp
  clear hp ht
  go_enter Tryd.func3, Tryd.ntmps3
  go_wp2_with (first
    | (go_at_call 5
       refine (few_call A l cp w _ HR.out HUB.out _ HF.out).mono ?_
       rintro e w0 ⟨rfl, hw0⟩
       subst hw0)
    | (go_at_call 7
       refine (put_call E c A l cp w _ hG HR.out HS.out HUB.out _ HP.out).mono ?_
       rintro e w1 ⟨⟨ev1, rfl, HE1⟩, HV1⟩
       obtain rfl : ev1 = .nilIface := HE1.out
       have HU1 := hidT HUB HV1.out)
    | (go_at_call 8
       have _w3 := w3.heap
       refine (take_call_no E s hzs w w3 hG HU3.out f2 HT.out).mono ?_
       rintro e w4 ⟨⟨A4, cp4, k4, rfl⟩, HV4⟩
       have HU4 := hidT HU3 HV4.out)
    | (go_at_call 8
       refine (take_call E S hSs w w1 hG HU1.out c l none HT1.out).mono ?_
       rintro e w2 ⟨⟨A2, cp2, ev2, rfl, HR2, HE2⟩, HV2⟩
       obtain rfl : ev2 = .nilIface := HE2.out
       have HU2 := hidT HU1 HV2.out
       have hb2 := Blk.upd (S := Non) (Blk.upd (S := Non) (Blk.new w 23 #[.int .i64 c.c0, .int .i64 c.c1, .int .i64 c.c2, .int .i64 c.c3, .int .i64 c.c4, .int .i64 c.c5, .int .i64 c.c6, .int .i64 c.c7, .int .i64 c.c8, .int .i64 c.c9, .int .i64 c.c10, .int .i64 c.c11, .int .i64 c.c12]) HV1.out (fun h => h)) HV2.out (fun h => h)
       obtain ⟨z0, z1, z2, z3, z4, z5, z6, z7, z8, z9, z10, z11, z12⟩ := hb2.cells13
       have hlz := hb2.lt
       clear hb2)
    | (go_at_call 9
       refine (same_eq A2 A l cp2 cp _ (HR2.out.updNon ((Upd.refl Non w2).alloc _)) (HR.out.updNon (HU2.out.alloc _))).mono ?_
       rintro e w3 ⟨rfl, hu3⟩
       have HU3 := hidT (hidT HU2 ((Upd.refl Non w2).alloc _)) hu3
       clear hu3)
    | (go_at_call 6
       refine (awake_call E w _ hG (HU4.out.alloc _)).mono ?_
       rintro e w6 ⟨rfl, hw6⟩))
  go_ret
  exact ⟨rfl, hw6.out⟩

set_option maxRecDepth 100000 in
set_option maxHeartbeats 4000000 in
theorem law_some_none (E : GE) (c : Cfg) (A : Option Addr) (l : List Ev) (cp : Nat) (s : ByteArray) (w : World) (hG : Glob E w) (hr : Reads w 4 A l.length (evs l)) (hf : fewEv l = true) (hz : (s.size : Int) ≤ 8192) (S : ByteArray) (f : Flt) (hp : putS c l = (S, some f)) (d : Cfg) (l2 : List Ev) (ht : takeS s = (d, l2, none)) :
    Calls Tryd.prog 3 #[.agg #[.int .i64 c.c0, .int .i64 c.c1, .int .i64 c.c2, .int .i64 c.c3, .int .i64 c.c4, .int .i64 c.c5, .int .i64 c.c6, .int .i64 c.c7, .int .i64 c.c8, .int .i64 c.c9, .int .i64 c.c10, .int .i64 c.c11, .int .i64 c.c12], .slice A l.length cp, .string s] w fun e w' => e = .returned (.bool true) ∧ Upd Non w w' := by
  have HUB := Lib.hid ((Upd.refl Non w).alloc (.cells #[.int .i64 c.c0, .int .i64 c.c1, .int .i64 c.c2, .int .i64 c.c3, .int .i64 c.c4, .int .i64 c.c5, .int .i64 c.c6, .int .i64 c.c7, .int .i64 c.c8, .int .i64 c.c9, .int .i64 c.c10, .int .i64 c.c11, .int .i64 c.c12] 23))
  have HF := Lib.hid hf
  have HR := Lib.hid hr
  clear hf hr
  have hS := few_size l HF.out
  have HS := Lib.hid hS
  clear hS
  have HP := Lib.hid hp
  have HT := Lib.hid ht
  have hzs : s.size ≤ 140737488355328 := by omega
  have hng : decide ((8192 : Int) < s.size) = false := by simp; omega
  have HP2 := Lib.hid (take_put s (by rw [ht]))
  rw [ht] at HP2
  have HS2 := Lib.hid (put_size d l2 s HP2.out)
  clear hp ht
  go_enter Tryd.func3, Tryd.ntmps3
  go_wp2_with (first
    | (go_at_call 5
       refine (few_call A l cp w _ HR.out HUB.out _ HF.out).mono ?_
       rintro e w0 ⟨rfl, hw0⟩
       subst hw0)
    | (go_at_call 7
       have _w4 := w4.heap
       refine (put_call E d A4 l2 cp4 w4 _ (hG.non HU4.out) HR4.out HS2.out ((Upd.refl Non w4).alloc _) _ HP2.out).mono ?_
       rintro e w5 ⟨⟨ev5, rfl, HE5⟩, HV5⟩
       obtain rfl : ev5 = .nilIface := HE5.out
       have HU5 := hidT (hidT HU4 ((Upd.refl Non w4).alloc _)) HV5.out)
    | (go_at_call 7
       refine (put_call E c A l cp w _ hG HR.out HS.out HUB.out _ HP.out).mono ?_
       rintro e w3 ⟨⟨ev1, rfl, HE1⟩, HV1⟩
       obtain ⟨k1, rfl⟩ := ErrIs.form HE1.out
       have HU3 := hidT HUB HV1.out)
    | (go_at_call 8
       have _w3 := w3.heap
       refine (take_call E s hzs w w3 hG HU3.out d l2 none HT.out).mono ?_
       rintro e w4 ⟨⟨A4, cp4, ev4, rfl, HR4, HE4⟩, HV4⟩
       obtain rfl : ev4 = .nilIface := HE4.out
       have HU4 := hidT HU3 HV4.out)
    | (go_at_call 6
       refine (awake_call E w w5 hG HU5.out).mono ?_
       rintro e w6 ⟨rfl, hw6⟩))
  go_ret
  exact ⟨rfl, hw6.out⟩

set_option maxRecDepth 100000 in
set_option maxHeartbeats 4000000 in
theorem law_some_some (E : GE) (c : Cfg) (A : Option Addr) (l : List Ev) (cp : Nat) (s : ByteArray) (w : World) (hG : Glob E w) (hr : Reads w 4 A l.length (evs l)) (hf : fewEv l = true) (hz : (s.size : Int) ≤ 8192) (S : ByteArray) (f : Flt) (hp : putS c l = (S, some f)) (f2 : Flt) (ht : takeS s = (cfg0, [], some f2)) :
    Calls Tryd.prog 3 #[.agg #[.int .i64 c.c0, .int .i64 c.c1, .int .i64 c.c2, .int .i64 c.c3, .int .i64 c.c4, .int .i64 c.c5, .int .i64 c.c6, .int .i64 c.c7, .int .i64 c.c8, .int .i64 c.c9, .int .i64 c.c10, .int .i64 c.c11, .int .i64 c.c12], .slice A l.length cp, .string s] w fun e w' => e = .returned (.bool true) ∧ Upd Non w w' := by
  have HUB := Lib.hid ((Upd.refl Non w).alloc (.cells #[.int .i64 c.c0, .int .i64 c.c1, .int .i64 c.c2, .int .i64 c.c3, .int .i64 c.c4, .int .i64 c.c5, .int .i64 c.c6, .int .i64 c.c7, .int .i64 c.c8, .int .i64 c.c9, .int .i64 c.c10, .int .i64 c.c11, .int .i64 c.c12] 23))
  have HF := Lib.hid hf
  have HR := Lib.hid hr
  clear hf hr
  have hS := few_size l HF.out
  have HS := Lib.hid hS
  clear hS
  have HP := Lib.hid hp
  have HT := Lib.hid ht
  have hzs : s.size ≤ 140737488355328 := by omega
  have hng : decide ((8192 : Int) < s.size) = false := by simp; omega
  clear hp ht
  go_enter Tryd.func3, Tryd.ntmps3
  go_wp2_with (first
    | (go_at_call 5
       refine (few_call A l cp w _ HR.out HUB.out _ HF.out).mono ?_
       rintro e w0 ⟨rfl, hw0⟩
       subst hw0)
    | (go_at_call 7
       refine (put_call E c A l cp w _ hG HR.out HS.out HUB.out _ HP.out).mono ?_
       rintro e w3 ⟨⟨ev1, rfl, HE1⟩, HV1⟩
       obtain ⟨k1, rfl⟩ := ErrIs.form HE1.out
       have HU3 := hidT HUB HV1.out)
    | (go_at_call 8
       have _w3 := w3.heap
       refine (take_call_no E s hzs w w3 hG HU3.out f2 HT.out).mono ?_
       rintro e w4 ⟨⟨A4, cp4, k4, rfl⟩, HV4⟩
       have HU4 := hidT HU3 HV4.out)
    | (go_at_call 6
       refine (awake_call E w _ hG (HU4.out.alloc _)).mono ?_
       rintro e w6 ⟨rfl, hw6⟩))
  go_ret
  exact ⟨rfl, hw6.out⟩

end Go.Proofs.YtmmahkckemclaaaDoor
