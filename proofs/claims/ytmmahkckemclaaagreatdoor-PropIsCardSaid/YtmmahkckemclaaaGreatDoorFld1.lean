/- The writer of fields, more: Var, Text. Conditions: fewer than 2^47 bytes. -/
import Derived.Test.YtmmahkckemclaaaGreatDoorUtf3
import Derived.Test.YtmmahkckemclaaaGreatDoorVar9
namespace Go.Proofs.YtmmahkckemclaaaGreatDoor
open Go.RowKit

theorem GlobT.tch {E : GE} {B : Nat} {ts : List TypeId} {w w' : World} (h : GlobT E w) (hu : Tch B ts w w') (hB : E.B ≤ B) : GlobT E w' := h.upd hu fun i hi ⟨h1, _⟩ => by omega

/-- What Var does to a writer. -/
def wVar (st : WSt) (n : Int) : WSt :=
  match st.2 with
  | some _ => st
  | none => match (vPut n).2 with
    | some f => (st.1, some ⟨f.k, f.r, furtherN f.a st.1.length⟩)
    | none => (st.1 ++ (vPut n).1.data.toList, none)
/-- What Text does to a writer. -/
def wText (st : WSt) (s : ByteArray) : WSt :=
  match st.2 with
  | some _ => st
  | none => match uChk s with
    | some f => (st.1, some ⟨f.k, f.r, furtherN f.a ((st.1.length : Int) + 2)⟩)
    | none => wBin st s
theorem vPut_len (n : Int) : (vPut n).1.size ≤ 4 := by
  unfold vPut
  split
  · simp [ByteArray.size]
  · simp only [str_size]
    unfold vBytes
    repeat' split
    all_goals simp
theorem wVar_len (st : WSt) (n : Int) : (wVar st n).1.length ≤ st.1.length + 4 := by
  have h1 := vPut_len n
  rw [size_list] at h1
  unfold wVar
  split
  · omega
  · split
    · simp
    · simp only [List.length_append]; omega
theorem wText_len (st : WSt) (s : ByteArray) : (wText st s).1.length ≤ st.1.length + 2 + s.size := by
  unfold wText
  split
  · omega
  · split
    · simp only []; omega
    · exact wBin_len st s

theorem wr_fail2 {E : GE} {w w1 : World} {B g : Nat} {bs : List UInt8} (hW : Wr E w B g bs none) (hu : Upd Non w w1) {v : Value} {f : Flt} (he : ErrIs E w1 v (some f)) :
    Wr E (w1.setCell ⟨g, 1, none⟩ v) B g bs (some f) ∧ Tch B WT w (w1.setCell ⟨g, 1, none⟩ v) := by
  obtain ⟨hB, hE, v0, e, hb, ho, _⟩ := hW.non hu
  exact ⟨⟨hB, hE, v0, v, hb.set_ 1 v, own_set ho (own_ne ho hb (by decide)) v, ErrIs.one (Upd.setCell (Upd.refl _ _) v (fun _ => rfl)) hb (by decide) he⟩, Tch.set (Tch.of_non hu) hb (by simp) hB 1 _⟩

set_option maxRecDepth 100000 in
set_option maxHeartbeats 2000000 in
theorem wVar_any (E : GE) (B g : Nat) (st : WSt) (n : Int) (w : World) (hT : GlobT E w) (hW : WrS E w B g st) (hs : st.1.length + 4 ≤ 140737488355328) :
    Calls Tryz.prog 113 #[.pointer (some ⟨g, 0, none⟩), .int .i64 n] w fun e w' => e = .returned (.tuple #[]) ∧ WrS E w' B g (wVar st n) ∧ Tch B WT w w' := by
  obtain ⟨bs, f⟩ := st
  obtain ⟨hB, hE, v, e, hb, ho, he⟩ := id hW
  cases f with
  | some f =>
    obtain ⟨k, rfl⟩ := ErrIs.form he
    have hc1 : w.cell? ⟨g, 1, none⟩ = some (.iface 145 (.pointer (some ⟨k, 0, none⟩))) := hb.cell 1
    go_enter Tryz.func113, Tryz.ntmps113
    go_wp2_with (go_at_call 122; refine (off_err _ _ _ _ hc1).mono ?_; rintro e w' ⟨rfl, rfl⟩)
    exact bodyPost_ret (v := .tuple #[]) (by simp [results, Tryz.results113, go_sem]) rfl ⟨rfl, hW, Upd.refl _ _⟩
  | none =>
    obtain rfl : e = .nilIface := he
    obtain ⟨A, c, rfl⟩ := own_slice ho
    have hc0 : w.cell? ⟨g, 0, none⟩ = some (.slice A bs.length c) := hb.cell 0
    have hc1 : w.cell? ⟨g, 1, none⟩ = some .nilIface := hb.cell 1
    have HP := Lib.hid (vput_any E n w hT.g)
    have hs' : bs.length + 4 ≤ 140737488355328 := hs
    have hl := vPut_len n
    unfold wVar
    simp only
    obtain ⟨⟨S, o⟩, hq⟩ : ∃ q, vPut n = q := ⟨_, rfl⟩
    rw [hq] at HP hl ⊢
    simp only at HP hl ⊢
    clear hq
    cases o with
    | some f =>
      have HG := Lib.hid hT
      have HW := Lib.hid hW
      clear hT hW ho
      go_enter Tryz.func113, Tryz.ntmps113
      go_wp2_with (first
        | (go_at_call 122; refine (off_nil _ _ hc1).mono ?_; rintro e w' ⟨rfl, rfl⟩)
        | (go_at_call 162
           refine HP.out.mono ?_
           rintro e w1 ⟨⟨ev, rfl, he⟩, hu⟩
           obtain ⟨k, rfl⟩ := ErrIs.form he
           have HE := Lib.hid he
           have HU := Lib.hid hu
           have hb1 := hb.upd hu (fun h => h)
           have hd0 : w1.cell? ⟨g, 0, none⟩ = some (.slice A bs.length c) := hb1.cell 0
           clear he hu hb1)
        | (go_at_call 118
           refine (deeper_any E _ _ _ _ (HG.out.non HU.out) HE.out).mono ?_
           rintro e w2 ⟨⟨v2, rfl, he⟩, hu⟩
           obtain ⟨k2, rfl⟩ := ErrIs.form he
           have HE2 := Lib.hid he
           have HU2 := Lib.hid (HU.out.then hu)
           have hb2 := hb.upd HU2.out (fun h => h)
           clear he hu)
        | (go_at_call 124
           refine (fail_blk _ _ _ _ _ _ hb2).mono ?_
           rintro e w3 ⟨rfl, rfl⟩))
      have hf := wr_fail2 HW.out HU2.out HE2.out
      exact bodyPost_ret (v := .tuple #[]) (by simp [results, Tryz.results113, go_sem]) rfl ⟨rfl, hf.1, hf.2⟩
    | none =>
      obtain ⟨i0, hi, hz⟩ := Option.map_eq_some_iff.1 u8_info
      simp only [Prod.mk.injEq] at hz
      obtain ⟨hz0, hz1, hz2⟩ := hz
      have HO := Lib.hid ho
      clear ho
      go_enter Tryz.func113, Tryz.ntmps113
      go_wp2_with (first
        | (go_at_call 122; refine (off_nil _ _ hc1).mono ?_; rintro e w' ⟨rfl, rfl⟩)
        | (go_at_call 162
           refine HP.out.mono ?_
           rintro e w1 ⟨⟨ev, rfl, he⟩, hu⟩
           obtain rfl : ev = .nilIface := he
           have HU := Lib.hid hu
           have hb1 := hb.upd hu (fun h => h)
           have ho1 := own_upd HO.out hu (fun _ _ => id)
           have hd0 : w1.cell? ⟨g, 0, none⟩ = some (.slice A bs.length c) := hb1.cell 0
           clear hu)
        | (at_builtin
           refine Lib.wpList_append_own_string _ rfl (.tmp 28) (.tmp 29) 88 9 rfl B 5 i0 Tryz.underlying88 Tryz.underlying9 hi hz0 hz1 hz2 _ _ _ rfl ho1 S rfl (by simp only [maxLen]; omega) (by omega) (by have := hb1.lt; omega) ?_
           intro v1 w2 hown1 hg1 _
           obtain ⟨A1, c1, rfl⟩ := own_slice hown1
           have hb2 := hb1.grown hg1 (fun e => own_ne ho1 hb1 (by decide) e.symm)
           have he0 : w2.cell? ⟨g, 0, none⟩ = some (.slice A bs.length c) := hb2.cell 0
           have he1 : w2.frozen? ⟨g, 0, none⟩ = false := hb2.frozen 0))
      go_end0
      exact ⟨rfl, wr_put hB hE hb HO.out HU.out (new := S.data.toList) rfl hown1 hg1⟩

set_option maxRecDepth 100000 in
set_option maxHeartbeats 2000000 in
theorem wText_any (E : GE) (B g : Nat) (st : WSt) (s : ByteArray) (w : World) (hT : GlobT E w) (hW : WrS E w B g st) (hs : st.1.length + 2 + s.size ≤ 140737488355328) :
    Calls Tryz.prog 67 #[.pointer (some ⟨g, 0, none⟩), .string s] w fun e w' => e = .returned (.tuple #[]) ∧ WrS E w' B g (wText st s) ∧ Tch B WT w w' := by
  obtain ⟨bs, f⟩ := st
  obtain ⟨hB, hE, v, e, hb, ho, he⟩ := id hW
  cases f with
  | some f =>
    obtain ⟨k, rfl⟩ := ErrIs.form he
    have hc1 : w.cell? ⟨g, 1, none⟩ = some (.iface 145 (.pointer (some ⟨k, 0, none⟩))) := hb.cell 1
    go_enter Tryz.func67, Tryz.ntmps67
    go_wp2_with (go_at_call 122; refine (off_err _ _ _ _ hc1).mono ?_; rintro e w' ⟨rfl, rfl⟩)
    exact bodyPost_ret (v := .tuple #[]) (by simp [results, Tryz.results67, go_sem]) rfl ⟨rfl, hW, Upd.refl _ _⟩
  | none =>
    obtain rfl : e = .nilIface := he
    obtain ⟨A, c, rfl⟩ := own_slice ho
    have hc0 : w.cell? ⟨g, 0, none⟩ = some (.slice A bs.length c) := hb.cell 0
    have hc1 : w.cell? ⟨g, 1, none⟩ = some .nilIface := hb.cell 1
    have hs' : bs.length + 2 + s.size ≤ 140737488355328 := hs
    have HP := Lib.hid (uchk_any E s (by omega) w hT.g)
    unfold wText
    simp only
    obtain ⟨o, hq⟩ : ∃ o, uChk s = o := ⟨_, rfl⟩
    rw [hq] at HP ⊢
    clear hq
    cases o with
    | some f =>
      simp only
      have HG := Lib.hid hT
      have HW := Lib.hid hW
      clear hT hW ho
      go_enter Tryz.func67, Tryz.ntmps67
      go_wp2_with (first
        | (go_at_call 122; refine (off_nil _ _ hc1).mono ?_; rintro e w' ⟨rfl, rfl⟩)
        | (go_at_call 123
           refine HP.out.mono ?_
           rintro e w1 ⟨⟨ev, rfl, he⟩, hu⟩
           obtain ⟨k, rfl⟩ := ErrIs.form he
           have HE := Lib.hid he
           have HU := Lib.hid hu
           have hb1 := hb.upd hu (fun h => h)
           have hd0 : w1.cell? ⟨g, 0, none⟩ = some (.slice A bs.length c) := hb1.cell 0
           clear he hu hb1)
        | (go_at_call 118
           refine (deeper_any E _ _ _ _ (HG.out.non HU.out) HE.out).mono ?_
           rintro e w2 ⟨⟨v2, rfl, he⟩, hu⟩
           obtain ⟨k2, rfl⟩ := ErrIs.form he
           have HE2 := Lib.hid he
           have HU2 := Lib.hid (HU.out.then hu)
           have hb2 := hb.upd HU2.out (fun h => h)
           clear he hu)
        | (go_at_call 124
           refine (fail_blk _ _ _ _ _ _ hb2).mono ?_
           rintro e w3 ⟨rfl, rfl⟩))
      have hf := wr_fail2 HW.out HU2.out HE2.out
      exact bodyPost_ret (v := .tuple #[]) (by simp [results, Tryz.results67, go_sem]) rfl ⟨rfl, hf.1, hf.2⟩
    | none =>
      have HG := Lib.hid hT
      have HW := Lib.hid hW
      clear hT hW ho
      go_enter Tryz.func67, Tryz.ntmps67
      go_wp2_with (first
        | (go_at_call 122; refine (off_nil _ _ hc1).mono ?_; rintro e w' ⟨rfl, rfl⟩)
        | (go_at_call 123
           refine HP.out.mono ?_
           rintro e w1 ⟨⟨ev, rfl, he⟩, hu⟩
           obtain rfl : ev = .nilIface := he
           have HU := Lib.hid hu
           clear hu)
        | (go_at_call 90
           refine (wBin_any E B g (bs, none) s _ (HG.out.non HU.out).g (HW.out.non HU.out) hs').mono ?_
           rintro e w2 ⟨rfl, hw2, ht2⟩))
      go_end0
      exact ⟨rfl, hw2, (Tch.of_non HU.out).trans ht2⟩

/-! ### With what is kept beside it -/
def KT (E : GE) (K : World → Prop) : Prop := ∀ w, K w → GlobT E w
section
variable {E : GE} {B g : Nat} {K : World → Prop} {w : World} {st : WSt}
theorem kVar (hK : StabW B K) (hT : KT E K) (h : WrK E B g K w st) (n : Int) (hs : st.1.length + 4 ≤ 140737488355328) :
    Calls Tryz.prog 113 #[.pointer (some ⟨g, 0, none⟩), .int .i64 n] w fun e w' => e = .returned (.tuple #[]) ∧ WrK E B g K w' (wVar st n) := by
  refine (wVar_any E B g st n w (hT w h.kept) h.wr hs).mono ?_
  rintro e w' ⟨rfl, hr, ht⟩
  exact ⟨rfl, h.next hK hr ht⟩
theorem kText (hK : StabW B K) (hT : KT E K) (h : WrK E B g K w st) (s : ByteArray) (hs : st.1.length + 2 + s.size ≤ 140737488355328) :
    Calls Tryz.prog 67 #[.pointer (some ⟨g, 0, none⟩), .string s] w fun e w' => e = .returned (.tuple #[]) ∧ WrK E B g K w' (wText st s) := by
  refine (wText_any E B g st s w (hT w h.kept) h.wr hs).mono ?_
  rintro e w' ⟨rfl, hr, ht⟩
  exact ⟨rfl, h.next hK hr ht⟩
end
end Go.Proofs.YtmmahkckemclaaaGreatDoor
