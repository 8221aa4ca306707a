/- The reader of fields: what each of its methods does to it and answers. Conditions: fewer than 2^47 bytes. -/
import Derived.Test.YtmmahkckemclaaaGreatDoorErr1
import Derived.Lib.ConvBytes
namespace Go.Proofs.YtmmahkckemclaaaGreatDoor
open Go.RowKit Go.Extern.Stop Go.Stop Go.Extern

/-- A reader's state but for its bytes: where it is, and its first error. -/
structure RSt where
  at_ : Nat
  f : Option Flt

/-- A reader of s. -/
def Rd (E : GE) (w : World) (g : Nat) (s : ByteArray) (st : RSt) : Prop :=
  E.B ≤ g ∧ st.at_ ≤ s.size ∧ s.size ≤ 140737488355328 ∧ ∃ e, Blk w g 138 #[.string s, .int .i64 st.at_, e] ∧ ErrIs E w e st.f

abbrev RT : List TypeId := [138]

theorem Glob.rd {E : GE} {B : Nat} {ts : List TypeId} {w w' : World} (h : Glob E w) (hu : Tch B ts w w') (hB : E.B ≤ B) : Glob E w' := h.upd hu fun i hi ⟨h1, _⟩ => by omega
theorem ErrIs.rd {E : GE} {B : Nat} {ts : List TypeId} {w w' : World} (hu : Tch B ts w w') (ht : 149 ∉ ts) {e : Value} {f : Option Flt} (h : ErrIs E w e f) : ErrIs E w' e f :=
  h.kept fun _ _ hb => hb.tch hu ht
theorem Rd.tch {E : GE} {B g : Nat} {ts : List TypeId} {s : ByteArray} {st : RSt} {w w' : World} (hu : Tch B ts w w') (h1 : 149 ∉ ts) (h2 : 138 ∉ ts) (h : Rd E w g s st) : Rd E w' g s st := by
  obtain ⟨hE, hl, hs, e, hb, he⟩ := h
  exact ⟨hE, hl, hs, e, hb.tch hu h2, he.rd hu h1⟩
theorem Rd.non {E : GE} {g : Nat} {s : ByteArray} {st : RSt} {w w' : World} (hu : Upd Non w w') (h : Rd E w g s st) : Rd E w' g s st :=
  h.tch (B := 0) (ts := []) (Tch.of_non hu) (by simp) (by simp)
/-- What is written are readers behind it. -/
theorem Rd.later {E : GE} {B g : Nat} {s : ByteArray} {st : RSt} {w w' : World} (hu : Tch B RT w w') (hB : g < B) (h : Rd E w g s st) : Rd E w' g s st := by
  obtain ⟨hE, hl, hs, e, hb, he⟩ := h
  exact ⟨hE, hl, hs, e, hb.upd hu (fun h => by have := h.1; omega), he.rd hu (by simp)⟩

theorem rnew_any (E : GE) (s : ByteArray) (w : World) (hG : Glob E w) (hs : s.size ≤ 140737488355328) :
    Calls Tryz.prog 55 #[.string s] w fun e w' => ∃ g, e = .returned (.pointer (some ⟨g, 0, none⟩)) ∧ Rd E w' g s ⟨0, none⟩ ∧ w.heap.size ≤ g ∧ g < w'.heap.size ∧ Upd Non w w' := by
  go_enter Tryz.func55, Tryz.ntmps55
  go_wp2
  go_ret
  exact ⟨_, rfl, ⟨hG.size, by simp, hs, _, Blk.new _ _ _, rfl⟩, Nat.le_refl _, by simp, (Upd.refl _ _).alloc _⟩

theorem roff_nil (g : Nat) (w : World) (hc : w.cell? ⟨g, 2, none⟩ = some .nilIface) :
    Calls Tryz.prog 140 #[.pointer (some ⟨g, 0, none⟩)] w fun e w' => e = .returned (.bool false) ∧ w = w' := by
  go_enter Tryz.func140, Tryz.ntmps140
  go_wp2
  go_ret
  exact ⟨rfl, rfl⟩
theorem roff_err (g : Nat) (t : TypeId) (v : Value) (w : World) (hc : w.cell? ⟨g, 2, none⟩ = some (.iface t v)) :
    Calls Tryz.prog 140 #[.pointer (some ⟨g, 0, none⟩)] w fun e w' => e = .returned (.bool true) ∧ w = w' := by
  go_enter Tryz.func140, Tryz.ntmps140
  go_wp2
  go_ret
  exact ⟨rfl, rfl⟩
theorem rErr_any (E : GE) (g : Nat) (s : ByteArray) (st : RSt) (w : World) (hR : Rd E w g s st) :
    Calls Tryz.prog 80 #[.pointer (some ⟨g, 0, none⟩)] w fun e w' => (∃ ev, e = .returned ev ∧ ErrIs E w' ev st.f) ∧ w = w' := by
  obtain ⟨hE, hl, hs, ev, hb, he⟩ := id hR
  have hc : w.cell? ⟨g, 2, none⟩ = some ev := hb.cell 2
  go_enter Tryz.func80, Tryz.ntmps80
  go_wp2
  go_ret
  exact ⟨⟨_, rfl, he⟩, rfl⟩
theorem rAt_any (E : GE) (g : Nat) (s : ByteArray) (st : RSt) (w : World) (hR : Rd E w g s st) :
    Calls Tryz.prog 78 #[.pointer (some ⟨g, 0, none⟩)] w fun e w' => e = .returned (.int .i64 st.at_) ∧ w = w' := by
  obtain ⟨hE, hl, hs, ev, hb, he⟩ := id hR
  have hc : w.cell? ⟨g, 1, none⟩ = some (.int .i64 st.at_) := hb.cell 1
  go_enter Tryz.func78, Tryz.ntmps78
  go_wp2
  go_ret
  exact ⟨rfl, rfl⟩
theorem rLeft_any (E : GE) (g : Nat) (s : ByteArray) (st : RSt) (w : World) (hR : Rd E w g s st) :
    Calls Tryz.prog 116 #[.pointer (some ⟨g, 0, none⟩)] w fun e w' => e = .returned (.int .i64 ((s.size : Int) - st.at_)) ∧ ∃ n, w' = w.drewN n := by
  obtain ⟨hE, hl, hs, ev, hb, he⟩ := id hR
  have hc0 : w.cell? ⟨g, 0, none⟩ = some (.string s) := hb.cell 0
  have hc1 : w.cell? ⟨g, 1, none⟩ = some (.int .i64 st.at_) := hb.cell 1
  have hl' : (0 : Int) ≤ s.size - st.at_ := by omega
  have hl2 : (s.size : Int) - st.at_ ≤ 140737488355328 := by omega
  go_enter Tryz.func116, Tryz.ntmps116
  go_wp2
  go_quiet (fail)
  go_wp2
  go_ret
  exact ⟨rfl, _, rfl⟩
end Go.Proofs.YtmmahkckemclaaaGreatDoor
