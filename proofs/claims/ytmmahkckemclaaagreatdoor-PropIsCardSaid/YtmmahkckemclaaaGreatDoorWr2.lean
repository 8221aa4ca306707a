/- The writer of fields, more: Raw, Bin, Bytes. Conditions: fewer than 2^47 bytes. -/
import Derived.Test.YtmmahkckemclaaaGreatDoorWr
import Derived.Laws.BytesArg
namespace Go.Proofs.YtmmahkckemclaaaGreatDoor
open Go.RowKit Go.Extern.Stop Go.Stop Go.Extern

/-- What Raw does to a writer. -/
def wRaw (st : List UInt8 × Option Flt) (s : ByteArray) : List UInt8 × Option Flt :=
  match st.2 with
  | some _ => st
  | none => (st.1 ++ s.data.toList, none)
/-- What Bin does to a writer. -/
def wBin (st : List UInt8 × Option Flt) (s : ByteArray) : List UInt8 × Option Flt := wRaw (wNum 2 st s.size) s

set_option maxHeartbeats 1000000 in
theorem wRaw_any (E : GE) (B g : Nat) (st : List UInt8 × Option Flt) (s : ByteArray) (w : World) (hW : WrS E w B g st) (hs : st.1.length + s.size ≤ 140737488355328) :
    Calls Tryz.prog 69 #[.pointer (some ⟨g, 0, none⟩), .string s] w fun e w' => e = .returned (.tuple #[]) ∧ WrS E w' B g (wRaw st s) ∧ Tch B WT w w' := by
  obtain ⟨bs, f⟩ := st
  obtain ⟨hB, hE, v, e, hb, ho, he⟩ := id hW
  cases f with
  | some f =>
    obtain ⟨k, rfl⟩ := ErrIs.form he
    have hc1 : w.cell? ⟨g, 1, none⟩ = some (.iface 145 (.pointer (some ⟨k, 0, none⟩))) := hb.cell 1
    go_enter Tryz.func69, Tryz.ntmps69
    go_wp2_with (go_at_call 122; refine (off_err _ _ _ _ hc1).mono ?_; rintro e w' ⟨rfl, rfl⟩)
    go_end0
    exact ⟨rfl, hW, Upd.refl _ _⟩
  | none =>
    obtain rfl : e = .nilIface := he
    obtain ⟨A, c, rfl⟩ := own_slice ho
    have hc0 : w.cell? ⟨g, 0, none⟩ = some (.slice A bs.length c) := hb.cell 0
    have hc1 : w.cell? ⟨g, 1, none⟩ = some .nilIface := hb.cell 1
    have hf := hb.frozen
    have hs' : bs.length + s.size ≤ 140737488355328 := hs
    obtain ⟨i0, hi, hz⟩ := Option.map_eq_some_iff.1 u8_info
    simp only [Prod.mk.injEq] at hz
    obtain ⟨hz0, hz1, hz2⟩ := hz
    go_enter Tryz.func69, Tryz.ntmps69
    go_wp2_with (first
      | (go_at_call 122; refine (off_nil _ _ hc1).mono ?_; rintro e w' ⟨rfl, rfl⟩)
      | (at_builtin
         refine Lib.wpList_append_own_string _ rfl (.tmp 11) (.tmp 12) 88 9 rfl B 5 i0 Tryz.underlying88 Tryz.underlying9 hi hz0 hz1 hz2 _ _ _ rfl ho s rfl (by simp only [maxLen]; omega) hs' (by have := hb.lt; omega) ?_
         intro v1 w1 hown1 hg1 _
         obtain ⟨A1, c1, rfl⟩ := own_slice hown1
         have hb1 := hb.grown hg1 (fun e => own_ne ho hb (by decide) e.symm)
         have hd0 : w1.cell? ⟨g, 0, none⟩ = some (.slice A bs.length c) := hb1.cell 0
         have hd1 : w1.frozen? ⟨g, 0, none⟩ = false := hb1.frozen 0))
    go_end0
    exact ⟨rfl, wr_put hB hE hb ho (Upd.refl _ _) (new := s.data.toList) rfl hown1 hg1⟩

theorem wBin_any (E : GE) (B g : Nat) (st : List UInt8 × Option Flt) (s : ByteArray) (w : World) (hG : Glob E w) (hW : WrS E w B g st) (hs : st.1.length + 2 + s.size ≤ 140737488355328) :
    Calls Tryz.prog 90 #[.pointer (some ⟨g, 0, none⟩), .string s] w fun e w' => e = .returned (.tuple #[]) ∧ WrS E w' B g (wBin st s) ∧ Tch B WT w w' := by
  have hl : (wNum 2 st s.size).1.length ≤ st.1.length + 2 := by
    unfold wNum
    split
    · omega
    · split
      · simp [beN_length]
      · simp
  go_enter Tryz.func90, Tryz.ntmps90
  go_wp2_with (first
    | (go_at_call 68; refine (wU16 E B g st _ _ hG hW (by omega)).mono ?_; rintro e w1 ⟨rfl, hw1, ht1⟩)
    | (go_at_call 69; refine (wRaw_any E B g _ s _ hw1 (by omega)).mono ?_; rintro e w2 ⟨rfl, hw2, ht2⟩))
  go_end0
  exact ⟨rfl, hw2, ht1.trans ht2⟩

theorem first_any (g : Nat) (e : Value) (w : World) (hc : w.cell? ⟨g, 1, none⟩ = some e) :
    Calls Tryz.prog 126 #[.pointer (some ⟨g, 0, none⟩)] w fun ev w' => ev = .returned e ∧ w = w' := by
  go_enter Tryz.func126, Tryz.ntmps126
  go_wp2
  go_ret
  exact ⟨rfl, rfl⟩

/-- What a writer gives: its bytes, or nothing. -/
def wOut (st : List UInt8 × Option Flt) : ByteArray := match st.2 with
  | some _ => ⟨#[]⟩
  | none => str st.1

theorem own_bytes_string {P : Program} {w : World} {base n : Nat} {e' src dst e : TypeId} {v : Value} {bs : List UInt8} (hs : P.underlying src = some (.slice e)) (he : P.underlying e = some (.int .u8)) (hd : P.underlying dst = some .string)
    (h : w.ownsRow base e' 1 v n (u8s bs)) : (convert src dst v).run P w = .ok (.string (str bs)) w := by
  have hl : bs.length = n := by have := h.1; simp [u8s] at this; exact this
  rcases h.2 with ⟨rfl, rfl⟩ | ⟨g, cap, cur, rfl, _⟩
  · obtain rfl : bs = [] := List.eq_nil_of_length_eq_zero hl
    exact run_convert_bytes_nil w src e hs he 0 0 dst hd
  · have e1 : str bs = strOfNums (bs.map fun b => (b.toNat : Int)) := by
      simp [str, strOfNums, List.map_map, Function.comp_def]
    rw [e1]
    refine run_convert_bytes_arg w src e hs he g 0 n cap (bs.map fun b => (b.toNat : Int)) (by simpa using hl) (fun i hi => ?_) dst hd
    have hc := h.cells (g := g) rfl i (.int .u8 ((bs.map fun b => (b.toNat : Int)).getD i 0)) (by
      simp [u8s, List.getElem?_eq_getElem (show i < bs.length by omega), List.getD_eq_getElem?_getD])
    have ha : (⟨g, 0, none⟩ : Addr).add i = ⟨g, 0 + i, none⟩ := by unfold Addr.add; split <;> simp_all
    rwa [ha] at hc

theorem wBytes_any (E : GE) (B g : Nat) (st : List UInt8 × Option Flt) (w : World) (hW : WrS E w B g st) :
    Calls Tryz.prog 70 #[.pointer (some ⟨g, 0, none⟩)] w fun e w' => (∃ ev, e = .returned (.tuple #[.string (wOut st), ev]) ∧ ErrIs E w' ev st.2) ∧ w = w' := by
  obtain ⟨bs, f⟩ := st
  obtain ⟨hB, hE, v, e, hb, ho, he⟩ := id hW
  cases f with
  | some f =>
    obtain ⟨k, rfl⟩ := ErrIs.form he
    have hc1 : w.cell? ⟨g, 1, none⟩ = some (.iface 145 (.pointer (some ⟨k, 0, none⟩))) := hb.cell 1
    go_enter Tryz.func70, Tryz.ntmps70
    go_wp2_with (go_at_call 126; refine (first_any _ _ _ hc1).mono ?_; rintro e w' ⟨rfl, rfl⟩)
    go_ret2
    exact ⟨⟨_, rfl, he⟩, rfl⟩
  | none =>
    obtain rfl : e = .nilIface := he
    have hc0 : w.cell? ⟨g, 0, none⟩ = some v := hb.cell 0
    have hc1 : w.cell? ⟨g, 1, none⟩ = some .nilIface := hb.cell 1
    have hcv := own_bytes_string (P := Tryz.prog) Tryz.underlying88 Tryz.underlying5 Tryz.underlying9 ho
    obtain ⟨A, c, rfl⟩ := own_slice ho
    go_enter Tryz.func70, Tryz.ntmps70
    go_wp2
    go_ret2
    exact ⟨⟨_, rfl, rfl⟩, rfl⟩
end Go.Proofs.YtmmahkckemclaaaGreatDoor
