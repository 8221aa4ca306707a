/- The reader of fields, more: Var, Text, Rest. Conditions: fewer than 2^47 bytes. -/
import Derived.Test.YtmmahkckemclaaaGreatDoorFld1
namespace Go.Proofs.YtmmahkckemclaaaGreatDoor
open Go.RowKit

/-- What Var answers, and does to a reader. -/
def rVar (s : ByteArray) (st : RSt) : Int × RSt :=
  match st.f with
  | some _ => (0, st)
  | none => match (vTake (s.data.toList.drop st.at_)).2.2 with
    | some f => (0, ⟨st.at_, some ⟨f.k, f.r, furtherN f.a st.at_⟩⟩)
    | none => ((vTake (s.data.toList.drop st.at_)).1, ⟨st.at_ + (vTake (s.data.toList.drop st.at_)).2.1, none⟩)
theorem vTake_le (l : List UInt8) : (vTake l).2.1 ≤ l.length ∧ 0 ≤ (vTake l).1 ∧ (vTake l).1 < 268435456 := by
  rcases l with _ | ⟨c, r⟩
  · simp [vTake]
  have hc := c.toNat_lt
  simp only [vTake]
  split
  · simp only [List.length_cons]; omega
  rcases r with _ | ⟨d, r⟩
  · simp
  have hd := d.toNat_lt
  simp only
  split
  · simp
  split
  · simp only [List.length_cons]; omega
  rcases r with _ | ⟨e, r⟩
  · simp
  have he := e.toNat_lt
  simp only
  split
  · simp
  split
  · simp only [List.length_cons]; omega
  rcases r with _ | ⟨f, r⟩
  · simp
  have hf := f.toNat_lt
  simp only
  split
  · simp
  split
  · simp only [List.length_cons]; omega
  · simp
theorem vTake_pos (l : List UInt8) (h : (vTake l).2.2 = none) : 0 < (vTake l).2.1 := by
  rcases l with _ | ⟨c, r⟩
  · simp [vTake] at h
  simp only [vTake] at h ⊢
  split at h
  · rename_i h1; rw [if_pos h1]; simp
  rename_i h1; rw [if_neg h1]
  rcases r with _ | ⟨d, r⟩
  · simp at h
  simp only at h ⊢
  split at h
  · cases h
  rename_i h2; rw [if_neg h2]
  split at h
  · rename_i h3; rw [if_pos h3]; simp
  rename_i h3; rw [if_neg h3]
  rcases r with _ | ⟨e, r⟩
  · simp at h
  simp only at h ⊢
  split at h
  · cases h
  rename_i h4; rw [if_neg h4]
  split at h
  · rename_i h5; rw [if_pos h5]; simp
  rename_i h5; rw [if_neg h5]
  rcases r with _ | ⟨f, r⟩
  · simp at h
  simp only at h ⊢
  split at h
  · cases h
  rename_i h6; rw [if_neg h6]
  split at h
  · rename_i h7; rw [if_pos h7]; simp
  · cases h
/-- What Text answers, and does to a reader. -/
def rText (s : ByteArray) (st : RSt) : ByteArray × RSt :=
  match (rBin s st).2.f with
  | some _ => (⟨#[]⟩, (rBin s st).2)
  | none => match uChk (rBin s st).1 with
    | some f => (⟨#[]⟩, ⟨st.at_, some ⟨f.k, f.r, furtherN f.a ((st.at_ : Int) + 2)⟩⟩)
    | none => rBin s st
/-- What Rest answers, and does to a reader. -/
def rRest (s : ByteArray) (st : RSt) : ByteArray × RSt := rRaw s st ((s.size : Int) - st.at_)

theorem rd_fail2 {E : GE} {w w1 : World} {g : Nat} {s : ByteArray} {a : Nat} {o : Option Flt} (hR : Rd E w g s ⟨a, o⟩) (hu : Upd Non w w1) {v : Value} {f : Flt} (he : ErrIs E w1 v (some f)) :
    Rd E (w1.setCell ⟨g, 2, none⟩ v) g s ⟨a, some f⟩ ∧ Tch g RT w (w1.setCell ⟨g, 2, none⟩ v) := by
  obtain ⟨hE, hl, hs, e, hb, _⟩ := hR.non hu
  exact ⟨⟨hE, hl, hs, v, hb.set_ 2 v, ErrIs.one (Upd.setCell (Upd.refl _ _) v (fun _ => rfl)) hb (by decide) he⟩, Tch.set (Tch.of_non hu) hb (by simp) (Nat.le_refl _) 2 _⟩

set_option maxRecDepth 100000 in
set_option maxHeartbeats 2000000 in
theorem rVar_off (E : GE) (g : Nat) (s : ByteArray) (a : Nat) (f : Flt) (w : World) (hR : Rd E w g s ⟨a, some f⟩) :
    Calls Tryz.prog 115 #[.pointer (some ⟨g, 0, none⟩)] w fun e w' => e = .returned (.int .i64 0) ∧ w = w' := by
  obtain ⟨hE, hl, hs, ev, hb, he⟩ := id hR
  obtain ⟨k, rfl⟩ := ErrIs.form he
  have hc : w.cell? ⟨g, 2, none⟩ = some (.iface 145 (.pointer (some ⟨k, 0, none⟩))) := hb.cell 2
  go_enter Tryz.func115, Tryz.ntmps115
  go_wp2_with (go_at_call 140; refine (roff_err _ _ _ _ hc).mono ?_; rintro e w' ⟨rfl, rfl⟩)
  go_ret
  exact ⟨rfl, rfl⟩

set_option maxRecDepth 100000 in
set_option maxHeartbeats 4000000 in
theorem rVar_on (E : GE) (g : Nat) (s : ByteArray) (a : Nat) (w : World) (hT : GlobT E w) (hR : Rd E w g s ⟨a, none⟩) :
    Calls Tryz.prog 115 #[.pointer (some ⟨g, 0, none⟩)] w fun e w' => e = .returned (.int .i64 (rVar s ⟨a, none⟩).1) ∧ Rd E w' g s (rVar s ⟨a, none⟩).2 ∧ Tch g RT w w' := by
  obtain ⟨hE, hl, hs, ev, hb, he⟩ := id hR
  obtain rfl : ev = .nilIface := he
  have hl' : a ≤ s.size := hl
  have hc0 : w.cell? ⟨g, 0, none⟩ = some (.string s) := hb.cell 0
  have hc1 : w.cell? ⟨g, 1, none⟩ = some (.int .i64 a) := hb.cell 1
  have hc2 : w.cell? ⟨g, 2, none⟩ = some .nilIface := hb.cell 2
  have hf := hb.frozen
  have hlt := hb.lt
  have HP : Hid (∀ W, Glob E W → Calls Tryz.prog 163 #[.string (s.extract a s.size)] W (TakePost E W (vTake (s.data.toList.drop a)))) := Lib.hid (fun W hW => by
    have := vtake_any E (s.extract a s.size) W hW
    rw [ext_end] at this
    exact this)
  have hle := vTake_le (s.data.toList.drop a)
  rw [List.length_drop, ← size_list] at hle
  unfold rVar
  simp only
  obtain ⟨⟨n, k, o⟩, hq⟩ : ∃ q, vTake (s.data.toList.drop a) = q := ⟨_, rfl⟩
  rw [hq] at HP hle ⊢
  simp only at hle ⊢
  clear hq
  obtain ⟨hk, hn0, hn1⟩ := hle
  have HG := Lib.hid hT
  have HR := Lib.hid hR
  have HB := Lib.hid hb
  clear hT hR hb
  cases o with
  | some f =>
    simp only
    go_enter Tryz.func115, Tryz.ntmps115
    go_wp2_with (go_at_call 140; refine (roff_nil _ _ hc2).mono ?_; rintro e w' ⟨rfl, rfl⟩)
    go_region_held3 (fun w' => w'.cell? ⟨g, 0, none⟩ = some (.string s) ∧ w'.cell? ⟨g, 1, none⟩ = some (.int .i64 a) ∧ Hid (Upd Non w w')) (first | exact ⟨by assumption, by assumption, by assumption⟩ | exact ⟨by assumption, by assumption, Lib.hid (Upd.drew (Upd.refl _ _))⟩)
     (first
      | (go_at_call 163
         refine (HP.out _ (HG.out.g.non ((Upd.refl _ _).drew))).mono ?_
         rintro e w1 ⟨⟨ev, rfl, he⟩, hu⟩
         obtain ⟨k1, rfl⟩ := ErrIs.form he
         have HE := Lib.hid he
         have HU := Lib.hid (((Upd.refl Non w).drew).then hu)
         have hb1 := HB.out.upd HU.out (fun h => h)
         have q0 : w1.cell? ⟨g, 0, none⟩ = some (.string s) := hb1.cell 0
         have q1 : w1.cell? ⟨g, 1, none⟩ = some (.int .i64 a) := hb1.cell 1
         clear he hu hb1))
    go_wp2_with (go_at_call 118
                 refine (deeper_any E _ _ _ _ (HG.out.non HU.out) HE.out).mono ?_
                 rintro e w2 ⟨⟨v2, rfl, he⟩, hu⟩
                 obtain ⟨k2, rfl⟩ := ErrIs.form he
                 have HE2 := Lib.hid he
                 have HU2 := Lib.hid (HU.out.then hu)
                 have hb2 := HB.out.upd HU2.out (fun h => h)
                 have p2 : w2.cell? ⟨g, 2, none⟩ = some .nilIface := hb2.cell 2
                 have hf2 : w2.frozen? ⟨g, 2, none⟩ = false := hb2.frozen 2
                 clear he hu hb2)
    go_ret
    have hf := rd_fail2 HR.out HU2.out HE2.out
    exact ⟨rfl, hf.1, hf.2⟩
  | none =>
    simp only
    have h3 : (0 : Int) ≤ (a : Int) + k := by omega
    have h4 : (a : Int) + k ≤ 140737488355328 := by omega
    go_enter Tryz.func115, Tryz.ntmps115
    go_wp2_with (go_at_call 140; refine (roff_nil _ _ hc2).mono ?_; rintro e w' ⟨rfl, rfl⟩)
    go_region_held3 (fun w' => w'.cell? ⟨g, 0, none⟩ = some (.string s) ∧ w'.cell? ⟨g, 1, none⟩ = some (.int .i64 a) ∧ Hid (Upd Non w w')) (first | exact ⟨by assumption, by assumption, by assumption⟩ | exact ⟨by assumption, by assumption, Lib.hid (Upd.drew (Upd.refl _ _))⟩)
     (first
      | (go_at_call 163
         refine (HP.out _ (HG.out.g.non ((Upd.refl _ _).drew))).mono ?_
         rintro e w1 ⟨⟨ev, rfl, he⟩, hu⟩
         obtain rfl : ev = .nilIface := he
         have HU := Lib.hid (((Upd.refl Non w).drew).then hu)
         have hb1 := HB.out.upd HU.out (fun h => h)
         have q0 : w1.cell? ⟨g, 0, none⟩ = some (.string s) := hb1.cell 0
         have q1 : w1.cell? ⟨g, 1, none⟩ = some (.int .i64 a) := hb1.cell 1
         have qf : w1.frozen? ⟨g, 1, none⟩ = false := hb1.frozen 1
         clear hu hb1))
    go_wp2
    go_ret
    have hb1 := HB.out.upd HU.out (fun h => h)
    have e1 : ((a : Int) + k) = ((a + k : Nat) : Int) := by omega
    refine ⟨rfl, ⟨hE, ?_, hs, .nilIface, ?_, rfl⟩, ?_⟩
    · show a + k ≤ s.size
      omega
    · rw [e1]; exact hb1.set_ 1 (.int .i64 ((a + k : Nat) : Int))
    · exact Tch.set (Tch.of_non HU.out) hb1 (by simp) (Nat.le_refl _) 1 _
theorem rVar_any (E : GE) (g : Nat) (s : ByteArray) (st : RSt) (w : World) (hT : GlobT E w) (hR : Rd E w g s st) :
    Calls Tryz.prog 115 #[.pointer (some ⟨g, 0, none⟩)] w fun e w' => e = .returned (.int .i64 (rVar s st).1) ∧ Rd E w' g s (rVar s st).2 ∧ Tch g RT w w' := by
  obtain ⟨a, f⟩ := st
  cases f with
  | some f =>
    refine (rVar_off E g s a f w hR).mono ?_
    rintro e w' ⟨rfl, rfl⟩
    exact ⟨rfl, hR, Upd.refl _ _⟩
  | none => exact rVar_on E g s a w hT hR

theorem rRaw_size (s : ByteArray) (st : RSt) (n : Int) : (rRaw s st n).1.size ≤ s.size := by
  unfold rRaw
  repeat' split
  all_goals first
    | exact Nat.zero_le _
    | (simp only [ByteArray.size_extract]; omega)
theorem rBin_size (s : ByteArray) (st : RSt) : (rBin s st).1.size ≤ s.size := rRaw_size s _ _
theorem rRaw_mono (s : ByteArray) (st : RSt) (n : Int) (h : (rRaw s st n).2.f = none) : st.at_ ≤ (rRaw s st n).2.at_ := by
  unfold rRaw at h ⊢
  repeat' split
  all_goals simp_all

set_option maxRecDepth 100000 in
set_option maxHeartbeats 4000000 in
theorem rText_any (E : GE) (g : Nat) (s : ByteArray) (st : RSt) (w : World) (hT : GlobT E w) (hR : Rd E w g s st) :
    Calls Tryz.prog 77 #[.pointer (some ⟨g, 0, none⟩)] w fun e w' => e = .returned (.string (rText s st).1) ∧ Rd E w' g s (rText s st).2 ∧ Tch g RT w w' := by
  have hE := hR.1
  have hl := hR.2.1
  have hs := hR.2.2.1
  have hz := rBin_size s st
  have HA := Lib.hid (rAt_any E g s st w hR)
  have HB := Lib.hid (rbin_any E g s st w hT.g hR)
  have HG := Lib.hid hT
  have hl2 : (st.at_ : Int) + 2 ≤ 140737488355330 := by omega
  clear hT hR
  unfold rText
  obtain ⟨⟨x, a, f⟩, hq⟩ : ∃ q, rBin s st = q := ⟨_, rfl⟩
  rw [hq] at HB hz ⊢
  simp only at HB hz ⊢
  clear hq
  cases f with
  | some f =>
    simp only
    go_enter Tryz.func77, Tryz.ntmps77
    go_wp2_with (first
      | (go_at_call 78; refine HA.out.mono ?_; rintro e w' ⟨rfl, rfl⟩)
      | (go_at_call 139
         refine HB.out.mono ?_
         rintro e w1 ⟨rfl, hr, ht⟩
         obtain ⟨_, _, _, ev, hb, he⟩ := id hr
         obtain ⟨k, rfl⟩ := ErrIs.form he
         have hc : w1.cell? ⟨g, 2, none⟩ = some (.iface 145 (.pointer (some ⟨k, 0, none⟩))) := hb.cell 2
         have HR := Lib.hid hr
         have HT := Lib.hid ht
         clear hr ht hb he)
      | (go_at_call 140; refine (roff_err _ _ _ _ hc).mono ?_; rintro e w' ⟨rfl, rfl⟩))
    go_ret
    exact ⟨rfl, HR.out, HT.out⟩
  | none =>
    simp only
    have HP : Hid (∀ W, Glob E W → Calls Tryz.prog 123 #[.string x] W fun e w' => (∃ ev, e = .returned ev ∧ ErrIs E w' ev (uChk x)) ∧ Upd Non W w') := Lib.hid (fun W hW => uchk_any E x (by omega) W hW)
    obtain ⟨o, hq⟩ : ∃ o, uChk x = o := ⟨_, rfl⟩
    rw [hq] at HP ⊢
    clear hq
    cases o with
    | none =>
      simp only
      go_enter Tryz.func77, Tryz.ntmps77
      go_wp2_with (first
        | (go_at_call 78; refine HA.out.mono ?_; rintro e w' ⟨rfl, rfl⟩)
        | (go_at_call 139
           refine HB.out.mono ?_
           rintro e w1 ⟨rfl, hr, ht⟩
           obtain ⟨_, _, _, ev, hb, he⟩ := id hr
           obtain rfl : ev = .nilIface := he
           have hc : w1.cell? ⟨g, 2, none⟩ = some .nilIface := hb.cell 2
           have HR := Lib.hid hr
           have HT := Lib.hid ht
           clear hr ht hb)
        | (go_at_call 140; refine (roff_nil _ _ hc).mono ?_; rintro e w' ⟨rfl, rfl⟩)
        | (go_at_call 123
           refine (HP.out _ (HG.out.tch HT.out hE).g).mono ?_
           rintro e w2 ⟨⟨ev, rfl, he⟩, hu⟩
           obtain rfl : ev = .nilIface := he
           have HU := Lib.hid hu
           clear hu))
      go_ret
      exact ⟨rfl, HR.out.non HU.out, HT.out.trans (Tch.of_non HU.out)⟩
    | some f =>
      simp only
      go_enter Tryz.func77, Tryz.ntmps77
      go_wp2_with (first
        | (go_at_call 78; refine HA.out.mono ?_; rintro e w' ⟨rfl, rfl⟩)
        | (go_at_call 139
           refine HB.out.mono ?_
           rintro e w1 ⟨rfl, hr, ht⟩
           obtain ⟨_, _, _, ev, hb, he⟩ := id hr
           obtain rfl : ev = .nilIface := he
           have hc : w1.cell? ⟨g, 2, none⟩ = some .nilIface := hb.cell 2
           have HR := Lib.hid hr
           have HT := Lib.hid ht
           have HB1 := Lib.hid hb
           clear hr ht hb)
        | (go_at_call 140; refine (roff_nil _ _ hc).mono ?_; rintro e w' ⟨rfl, rfl⟩)
        | (go_at_call 123
           refine (HP.out _ (HG.out.tch HT.out hE).g).mono ?_
           rintro e w2 ⟨⟨ev, rfl, he⟩, hu⟩
           obtain ⟨k1, rfl⟩ := ErrIs.form he
           have HEE := Lib.hid he
           have HU := Lib.hid hu
           clear he hu)
        | (go_at_call 118
           refine (deeper_any E _ _ _ _ ((HG.out.tch HT.out hE).non HU.out) HEE.out).mono ?_
           rintro e w3 ⟨⟨v2, rfl, he⟩, hu⟩
           obtain ⟨k2, rfl⟩ := ErrIs.form he
           have HE2 := Lib.hid he
           have HU2 := Lib.hid (HU.out.then hu)
           have hb2 := HB1.out.upd HU2.out (fun h => h)
           have p2 : w3.cell? ⟨g, 2, none⟩ = some .nilIface := hb2.cell 2
           have hf2 : w3.frozen? ⟨g, 2, none⟩ = false := hb2.frozen 2
           have hff := rd_fail2 HR.out HU2.out HE2.out
           have HR3 := Lib.hid hff.1
           have HT3 := Lib.hid (HT.out.trans hff.2)
           clear he hu hb2 hff)
        | (go_at_call 141
           refine (back_any E g s _ st.at_ hl _ HR3.out).mono ?_
           rintro e w4 ⟨rfl, hr4, ht4⟩
           have HR4 := Lib.hid hr4
           have HT4 := Lib.hid ht4
           clear hr4 ht4))
      go_ret
      exact ⟨rfl, HR4.out, HT3.out.trans HT4.out⟩

set_option maxHeartbeats 1000000 in
theorem rRest_any (E : GE) (g : Nat) (s : ByteArray) (st : RSt) (w : World) (hG : Glob E w) (hR : Rd E w g s st) :
    Calls Tryz.prog 81 #[.pointer (some ⟨g, 0, none⟩)] w fun e w' => e = .returned (.string (rRest s st).1) ∧ Rd E w' g s (rRest s st).2 ∧ Tch g RT w w' := by
  have HL := Lib.hid (rLeft_any E g s st w hR)
  have HR := Lib.hid hR
  have HG := Lib.hid hG
  clear hR hG
  unfold rRest
  go_enter Tryz.func81, Tryz.ntmps81
  go_wp2_with (first
    | (go_at_call 116; refine HL.out.mono ?_; rintro e w1 ⟨rfl, nq, rfl⟩)
    | (go_at_call 114
       refine (raw_any E g s st _ _ (HG.out.drewN nq) (HR.out.drewN nq)).mono ?_
       rintro e w2 ⟨rfl, hr, ht⟩
       have HR2 := Lib.hid hr
       have HT2 := Lib.hid ht
       clear hr ht))
  go_ret
  exact ⟨rfl, HR2.out, (Tch.of_non ((Upd.refl _ _).drewN nq)).trans HT2.out⟩

section
variable {E : GE} {g : Nat} {s : ByteArray} {K : World → Prop} {w : World} {st : RSt}
theorem gVar (hK : Stab g K) (hT : KT E K) (h : RdK E g s K w st) :
    Calls Tryz.prog 115 #[.pointer (some ⟨g, 0, none⟩)] w fun e w' => e = .returned (.int .i64 (rVar s st).1) ∧ RdK E g s K w' (rVar s st).2 := by
  refine (rVar_any E g s st w (hT w h.kept) h.rd).mono ?_
  rintro e w' ⟨rfl, hr, ht⟩
  exact ⟨rfl, h.next hK hr ht⟩
theorem gText (hK : Stab g K) (hT : KT E K) (h : RdK E g s K w st) :
    Calls Tryz.prog 77 #[.pointer (some ⟨g, 0, none⟩)] w fun e w' => e = .returned (.string (rText s st).1) ∧ RdK E g s K w' (rText s st).2 := by
  refine (rText_any E g s st w (hT w h.kept) h.rd).mono ?_
  rintro e w' ⟨rfl, hr, ht⟩
  exact ⟨rfl, h.next hK hr ht⟩
theorem gRest (hK : Stab g K) (h : RdK E g s K w st) :
    Calls Tryz.prog 81 #[.pointer (some ⟨g, 0, none⟩)] w fun e w' => e = .returned (.string (rRest s st).1) ∧ RdK E g s K w' (rRest s st).2 := by
  refine (rRest_any E g s st w h.glob h.rd).mono ?_
  rintro e w' ⟨rfl, hr, ht⟩
  exact ⟨rfl, h.next hK hr ht⟩
end
end Go.Proofs.YtmmahkckemclaaaGreatDoor
