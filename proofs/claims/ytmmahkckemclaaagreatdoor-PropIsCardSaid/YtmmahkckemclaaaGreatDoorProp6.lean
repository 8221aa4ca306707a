/- Properties, more: Encode. Conditions: fewer than 2^46 bytes; the package variables hold what the program lays there. -/
import Derived.Test.YtmmahkckemclaaaGreatDoorProp5
namespace Go.Proofs.YtmmahkckemclaaaGreatDoor
open Go.RowKit

def pEncSt (l : List Pr) : WSt := l.foldl pWrite ([], none)
/-- What stands behind: the bytes with their length ahead. -/
def pEncAll (S : ByteArray) : WSt := wRaw (wVar ([], none) S.size) S
/-- What Encode answers. -/
def pEnc (place : Int) (l : List Pr) : ByteArray × Option Flt :=
  match pCheck place l with
  | some f => (⟨#[]⟩, some f)
  | none => match (pEncSt l).2 with
    | some f => (⟨#[]⟩, some f)
    | none => (wOut (pEncAll (wOut (pEncSt l))), (pEncAll (wOut (pEncSt l))).2)

theorem pfold_len (l : List Pr) : ∀ st : WSt, (l.foldl pWrite st).1.length ≤ st.1.length + prSize l := by
  induction l with
  | nil => intro st; simp [prSize]
  | cons p l ih =>
    intro st
    have h1 := ih (pWrite st p)
    have h2 := pWrite_len st p
    simp only [List.foldl_cons, prSize, List.map_cons, List.sum_cons] at h1 ⊢
    omega
theorem prSize_take (l : List Pr) (k : Nat) (hk : k < l.length) (q : Pr) (hq : l[k]'hk = q) : prSize (l.take k) + (16 + q.s.size + q.v.size) ≤ prSize l := by
  subst hq
  have e : l = l.take k ++ (l[k] :: l.drop (k + 1)) := by rw [← List.drop_eq_getElem_cons hk, List.take_append_drop]
  have e2 : prSize l = prSize (l.take k ++ (l[k] :: l.drop (k + 1))) := by rw [← e]
  rw [e2]
  unfold prSize
  rw [List.map_append, List.sum_append, List.map_cons, List.sum_cons]
  omega
theorem wOut_size (st : WSt) : (wOut st).size ≤ st.1.length := by
  unfold wOut
  split
  · exact Nat.zero_le _
  · rw [str_size]; exact Nat.le_refl _

theorem Reads.tch0 {w0 w w' : World} {B size n : Nat} {ts : List TypeId} {A : Option Addr} {xs : List Value} (h0 : Reads w0 size A n xs) (hB : w0.heap.size ≤ B) (h : Reads w size A n xs) (hu : Tch B ts w w') : Reads w' size A n xs := by
  by_cases hn : 0 < n
  · obtain ⟨ad, hA, hb, _⟩ := h0.2.2 hn
    refine h.old hu fun ad' e => ?_
    rw [hA] at e
    cases e
    omega
  · exact ⟨h.1, h.2.1, fun h => absurd h hn⟩
section
variable {B : Nat} {E : GE}
theorem StabW.upd {w0 : World} (hB : w0.heap.size ≤ B) : StabW B (fun W => Upd Non w0 W) := fun _ _ ht hu => hu.trans ht (fun i hi ⟨h1, _⟩ => by omega)
theorem StabW.globT (hB : E.B ≤ B) : StabW B (fun W => GlobT E W) := fun _ _ ht h => h.tch ht hB
theorem StabW.row {w0 : World} {A : Option Addr} {l : List Pr} (h0 : PrRow w0 A l) (hB : w0.heap.size ≤ B) : StabW B (fun W => PrRow W A l) := fun _ _ ht h => Reads.tch0 h0 hB h ht
end
/-- A string and an error. -/
def StrPost (E : GE) (w : World) (r : ByteArray × Option Flt) (e : Ending) (w' : World) : Prop := (∃ ev, e = .returned (.tuple #[.string r.1, ev]) ∧ ErrIs E w' ev r.2) ∧ Upd Non w w'

theorem wnew_K {E : GE} {K : World → Prop} {w : World} (hG : Glob E w) (hk : ∀ W, Upd Non w W → K W) : WrK E w.heap.size w.heap.size K (w.alloc (.cells #[.slice none 0 0, .nilIface] 90)) ([], none) := by
  have hu := (Upd.refl Non w).alloc (.cells #[.slice none 0 0, .nilIface] 90)
  exact ⟨hG.non hu, Wr.new E w hG, hk _ hu⟩

set_option maxRecDepth 100000 in
set_option maxHeartbeats 8000000 in
theorem penc_no (E : GE) (place : Int) (A : Option Addr) (l : List Pr) (n c : Nat) (hn : l.length = n) (hc : n ≤ c) (w : World) (hT : GlobT E w) (hr : PrRow w A l) (f : Flt) (hf : pCheck place l = some f) :
    Calls Tryz.prog 54 #[.int .i64 place, .slice A n c] w (StrPost E w (⟨#[]⟩, some f)) := by
  have HC := Lib.hid (pcheck_any E place A l n c hn hc w hT.g hr)
  rw [hf] at HC
  unfold ErrPost at HC
  clear hr hT hf hn
  unfold StrPost
  go_enter Tryz.func54, Tryz.ntmps54
  go_wp2_with (go_at_call 111
               refine HC.out.mono ?_
               rintro e w1 ⟨⟨ev, rfl, he⟩, hu⟩
               obtain ⟨k1, rfl⟩ := ErrIs.form he
               have HE := Lib.hid he
               have HU := Lib.hid hu
               clear he hu)
  go_ret2
  exact ⟨⟨_, rfl, HE.out⟩, HU.out⟩

abbrev pKeep (E : GE) (w : World) (A : Option Addr) (l : List Pr) (W : World) : Prop := (GlobT E W ∧ PrRow W A l) ∧ Upd Non w W
set_option maxRecDepth 100000 in
set_option maxHeartbeats 8000000 in
theorem penc_yes (E : GE) (place : Int) (A : Option Addr) (l : List Pr) (n c : Nat) (hn : l.length = n) (hc : n ≤ c) (w : World) (hT : GlobT E w) (hr : PrRow w A l) (hs : prSize l ≤ 70368744177664) (hf : pCheck place l = none) (r : ByteArray × Option Flt)
    (HR : Hid (r = match (pEncSt l).2 with
    | some f => (⟨#[]⟩, some f)
    | none => (wOut (pEncAll (wOut (pEncSt l))), (pEncAll (wOut (pEncSt l))).2))) :
    Calls Tryz.prog 54 #[.int .i64 place, .slice A n c] w (StrPost E w r) := by
  have HC := Lib.hid (pcheck_any E place A l n c hn hc w hT.g hr)
  rw [hf] at HC
  unfold ErrPost at HC
  have hm := hr.2.1
  rw [hn] at hm
  have HRow := Lib.hid hr
  have HT := Lib.hid hT
  have HN := Lib.hid hn
  have HS := Lib.hid hs
  have hEB := hT.g.size
  clear hr hT hf hn hs
  unfold StrPost
  go_enter Tryz.func54, Tryz.ntmps54
  go_wp2_with (go_at_call 111
               refine HC.out.mono ?_
               rintro e w1 ⟨⟨ev, rfl, he⟩, hu⟩
               obtain rfl : ev = .nilIface := he
               have HU := Lib.hid hu
               clear hu)
  have hw1 : w.heap.size ≤ w1.heap.size := HU.out.size
  have hT1 := HT.out.non HU.out
  have hK : StabW w1.heap.size (pKeep E w A l) := ((StabW.globT (by omega)).and (StabW.row HRow.out (by omega))).and (StabW.upd (by omega))
  have hKT : KT E (pKeep E w A l) := fun W hW => hW.1.1
  have h0 : WrK E w1.heap.size w1.heap.size (pKeep E w A l) (w1.alloc (.cells #[.slice none 0 0, .nilIface] 90)) ([], none) :=
    wnew_K hT1.g fun W hW => ⟨⟨hT1.non hW, (HRow.out.updNon HU.out).updNon hW⟩, HU.out.then hW⟩
  have HK := Lib.hid hK
  have HKT := Lib.hid hKT
  have H0 := Lib.hid h0
  have HW1 := Lib.hid hw1
  clear hw1 hT1 hK hKT h0
  go_loopg [23] n (fun gg s23 wr => ∃ k : Nat, k ≤ n ∧ Hid (gg = n - k) ∧ s23 = .int .i64 k ∧ Hid (WrK E w1.heap.size w1.heap.size (pKeep E w A l) wr ((l.take k).foldl pWrite ([], none))))
  case atStart => exact ⟨0, by omega, Lib.hid rfl, rfl, Lib.hid (by rw [List.take_zero]; exact H0.out)⟩
  case round =>
    obtain ⟨k, hk, hg, rfl, HW⟩ := hrel
    by_cases hlt : k < n
    · have hkl : k < l.length := by rw [HN.out]; exact hlt
      obtain ⟨y, hy⟩ : ∃ y, l[k]'hkl = y := ⟨_, rfl⟩
      obtain ⟨ad, hA, hb, x0, x1, x2, x3⟩ := prs_at HW.out.kept.1.2 k hkl y hy
      subst hA
      have hz1 := prSize_take l k hkl y hy
      have hz2 := pfold_len (l.take k) ([], none)
      simp only [List.length_nil] at hz2
      have e1 : (l.take (k + 1)).foldl pWrite ([], none) = pWrite ((l.take k).foldl pWrite ([], none)) y := by
        rw [List.take_succ_eq_append_getElem hkl, List.foldl_append, hy]; rfl
      obtain ⟨id, yn, s, v⟩ := y
      simp only at x0 x1 x2 x3 hz1
      have hw : Calls Tryz.prog 112 #[.pointer (some ⟨w1.heap.size, 0, none⟩), .agg #[.int .i64 id, .int .i64 yn, .string s, .string v]] (wr.alloc (.cells #[.int .i64 id, .int .i64 yn, .string s, .string v] 26)) fun e w' => e = .returned (.tuple #[]) ∧ WrK E w1.heap.size w1.heap.size (pKeep E w (some ad) l) w' (pWrite ((l.take k).foldl pWrite ([], none)) ⟨id, yn, s, v⟩) :=
        pwrite_any E w1.heap.size w1.heap.size (pKeep E w (some ad) l) _ ⟨id, yn, s, v⟩ _ HK.out HKT.out (HW.out.non HK.out ((Upd.refl _ _).alloc _)) (by have := HS.out; simp only; omega)
      rw [← e1] at hw
      have HWr := Lib.hid hw
      clear hw e1 hz1 hz2 hy hkl
      go_wp2_with (go_at_call 112
                   refine HWr.out.mono ?_
                   rintro e w2 ⟨rfl, h2⟩
                   have H2 := Lib.hid h2
                   clear h2)
      go_roundg (gk - 1)
      case measure => have := hg.out; omega
      case rel => exact ⟨k + 1, by omega, Lib.hid (by have := hg.out; omega), by go_num, H2⟩
    · have htk : l.take k = l := List.take_of_length_le (by rw [HN.out]; omega)
      rw [htk] at HW
      have HWe : Hid (WrK E w1.heap.size w1.heap.size (pKeep E w A l) wr (pEncSt l)) := HW
      have hzl : (pEncSt l).1.length ≤ 70368744177664 := by
        have := pfold_len l ([], none); have := HS.out; unfold pEncSt; simp only [List.length_nil] at *; omega
      have hzo := wOut_size (pEncSt l)
      have hr := HR.out
      clear htk HW
      obtain ⟨st, hst⟩ : ∃ st, pEncSt l = st := ⟨_, rfl⟩
      rw [hst] at HWe hzl hzo hr
      clear hst HR
      obtain ⟨bs, o⟩ := st
      cases o with
      | some f =>
        simp only at hr
        have HR := Lib.hid hr
        clear hr
        go_wp2_with (go_at_call 70
                     refine (kBytes HWe.out).mono ?_
                     rintro e w2 ⟨⟨ev, rfl, he⟩, rfl⟩
                     obtain ⟨k1, rfl⟩ := ErrIs.form he
                     have HE := Lib.hid he
                     clear he)
        go_ret2
        rw [HR.out]
        exact ⟨⟨_, rfl, HE.out⟩, HWe.out.kept.2⟩
      | none =>
        simp only at hr
        obtain ⟨S, hS⟩ : ∃ S, wOut (bs, none) = S := ⟨_, rfl⟩
        have hB := kBytes HWe.out
        rw [hS] at hr hzo hB
        have HR := Lib.hid hr
        have HBy := Lib.hid hB
        have hv := wVar_len ([], none) S.size
        simp only [List.length_nil] at hv
        have hzS : S.size ≤ 70368744177664 := by simp only at hzo hzl; omega
        have hEB2 : E.B ≤ wr.heap.size := HWe.out.glob.size
        have hsz2 : w.heap.size ≤ wr.heap.size := HWe.out.kept.2.size
        have hK2 : StabW wr.heap.size (fun W => GlobT E W ∧ Upd Non w W) := (StabW.globT hEB2).and (StabW.upd hsz2)
        have hKT2 : KT E (fun W => GlobT E W ∧ Upd Non w W) := fun W hW => hW.1
        have hW2 : WrK E wr.heap.size wr.heap.size (fun W => GlobT E W ∧ Upd Non w W) (wr.alloc (.cells #[.slice none 0 0, .nilIface] 90)) ([], none) :=
          wnew_K HWe.out.glob fun W hW => ⟨HWe.out.kept.1.1.non hW, HWe.out.kept.2.then hW⟩
        have HK2 := Lib.hid hK2
        have HKT2 := Lib.hid hKT2
        have HW2 := Lib.hid hW2
        have hv0 := kVar HK2.out HKT2.out HW2.out S.size (by simp)
        have HV0 := Lib.hid hv0
        clear hr hS hB hK2 hKT2 hW2 hv0 hzo hEB2 hsz2
        go_wp2_with (first
          | (go_at_call 70
             refine (kBytes H4.out).mono ?_
             rintro e w5 ⟨⟨ev, rfl, he⟩, rfl⟩
             have HE := Lib.hid he
             clear he)
          | (go_at_call 70
             refine HBy.out.mono ?_
             rintro e w2 ⟨⟨ev, rfl, he⟩, rfl⟩
             obtain rfl : ev = .nilIface := he)
          | (go_at_call 113
             refine HV0.out.mono ?_
             rintro e w3 ⟨rfl, h3⟩
             have H3 := Lib.hid h3
             clear h3)
          | (go_at_call 69
             refine (kRaw HK2.out H3.out S (by omega)).mono ?_
             rintro e w4 ⟨rfl, h4⟩
             have H4 := Lib.hid h4
             clear h4))
        go_ret2
        rw [HR.out]
        exact ⟨⟨_, rfl, HE.out⟩, H4.out.kept.2⟩
theorem penc_any (E : GE) (place : Int) (A : Option Addr) (l : List Pr) (n c : Nat) (hn : l.length = n) (hc : n ≤ c) (w : World) (hT : GlobT E w) (hr : PrRow w A l) (hs : prSize l ≤ 70368744177664) :
    Calls Tryz.prog 54 #[.int .i64 place, .slice A n c] w (StrPost E w (pEnc place l)) := by
  unfold pEnc
  cases hf : pCheck place l with
  | some f => exact penc_no E place A l n c hn hc w hT hr f hf
  | none => exact penc_yes E place A l n c hn hc w hT hr hs hf _ (Lib.hid rfl)
end Go.Proofs.YtmmahkckemclaaaGreatDoor
