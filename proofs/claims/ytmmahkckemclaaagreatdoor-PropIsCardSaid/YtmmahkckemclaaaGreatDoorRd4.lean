/- The reader's contracts with what is kept beside it. No condition of its own. -/
import Derived.Test.YtmmahkckemclaaaGreatDoorMem2
namespace Go.Proofs.YtmmahkckemclaaaGreatDoor
open Go.RowKit Go.Extern.Stop Go.Stop Go.Extern

/-- A reader, and what no writing to it turns. -/
def RdK (E : GE) (g : Nat) (s : ByteArray) (K : World → Prop) (w : World) (st : RSt) : Prop := Glob E w ∧ Rd E w g s st ∧ K w
/-- K is not turned by what is done to the reader. -/
def Stab (g : Nat) (K : World → Prop) : Prop := ∀ w w', Tch g RT w w' → K w → K w'
section
variable {E : GE} {g : Nat} {s : ByteArray} {K : World → Prop} {w w' : World} {st st' : RSt}
theorem RdK.glob (h : RdK E g s K w st) : Glob E w := h.1
theorem RdK.rd (h : RdK E g s K w st) : Rd E w g s st := h.2.1
theorem RdK.kept (h : RdK E g s K w st) : K w := h.2.2
theorem RdK.le (h : RdK E g s K w st) : st.at_ ≤ s.size := h.2.1.2.1
theorem RdK.next (h : RdK E g s K w st) (hK : Stab g K) (hr : Rd E w' g s st') (ht : Tch g RT w w') : RdK E g s K w' st' :=
  ⟨h.1.rd ht h.2.1.1, hr, hK _ _ ht h.2.2⟩
theorem RdK.non (h : RdK E g s K w st) (hK : Stab g K) (hu : Upd Non w w') : RdK E g s K w' st :=
  ⟨h.1.non hu, h.2.1.non hu, hK _ _ (Tch.of_non hu) h.2.2⟩
theorem RdK.drewN (h : RdK E g s K w st) (hK : Stab g K) (n : Nat) : RdK E g s K (w.drewN n) st := h.non hK ((Upd.refl _ _).drewN n)
theorem RdK.lt (h : RdK E g s K w st) : g < w.heap.size := by obtain ⟨_, ⟨_, _, _, _, hb, _⟩, _⟩ := h; exact hb.lt
theorem gU8 (hK : Stab g K) (h : RdK E g s K w st) :
    Calls Tryz.prog 144 #[.pointer (some ⟨g, 0, none⟩)] w fun e w' => e = .returned (.int .i64 (rNum 1 s st).1) ∧ RdK E g s K w' (rNum 1 s st).2 := by
  refine (rU8 E g s st w h.glob h.rd).mono ?_
  rintro e w' ⟨rfl, hr, ht⟩
  exact ⟨rfl, h.next hK hr ht⟩
theorem gU16 (hK : Stab g K) (h : RdK E g s K w st) :
    Calls Tryz.prog 79 #[.pointer (some ⟨g, 0, none⟩)] w fun e w' => e = .returned (.int .i64 (rNum 2 s st).1) ∧ RdK E g s K w' (rNum 2 s st).2 := by
  refine (rU16 E g s st w h.glob h.rd).mono ?_
  rintro e w' ⟨rfl, hr, ht⟩
  exact ⟨rfl, h.next hK hr ht⟩
theorem gU32 (hK : Stab g K) (h : RdK E g s K w st) :
    Calls Tryz.prog 149 #[.pointer (some ⟨g, 0, none⟩)] w fun e w' => e = .returned (.int .i64 (rNum 4 s st).1) ∧ RdK E g s K w' (rNum 4 s st).2 := by
  refine (rU32 E g s st w h.glob h.rd).mono ?_
  rintro e w' ⟨rfl, hr, ht⟩
  exact ⟨rfl, h.next hK hr ht⟩
theorem gRaw (hK : Stab g K) (h : RdK E g s K w st) (n : Int) :
    Calls Tryz.prog 114 #[.pointer (some ⟨g, 0, none⟩), .int .i64 n] w fun e w' => e = .returned (.string (rRaw s st n).1) ∧ RdK E g s K w' (rRaw s st n).2 := by
  refine (raw_any E g s st n w h.glob h.rd).mono ?_
  rintro e w' ⟨rfl, hr, ht⟩
  exact ⟨rfl, h.next hK hr ht⟩
theorem gBin (hK : Stab g K) (h : RdK E g s K w st) :
    Calls Tryz.prog 139 #[.pointer (some ⟨g, 0, none⟩)] w fun e w' => e = .returned (.string (rBin s st).1) ∧ RdK E g s K w' (rBin s st).2 := by
  refine (rbin_any E g s st w h.glob h.rd).mono ?_
  rintro e w' ⟨rfl, hr, ht⟩
  exact ⟨rfl, h.next hK hr ht⟩
theorem gBack (hK : Stab g K) (h : RdK E g s K w st) (a : Nat) (ha : a ≤ s.size) :
    Calls Tryz.prog 141 #[.pointer (some ⟨g, 0, none⟩), .int .i64 a] w fun e w' => e = .returned (.tuple #[]) ∧ RdK E g s K w' (rBack st a) := by
  refine (back_any E g s st a ha w h.rd).mono ?_
  rintro e w' ⟨rfl, hr, ht⟩
  exact ⟨rfl, h.next hK hr ht⟩
theorem gErr (h : RdK E g s K w st) :
    Calls Tryz.prog 80 #[.pointer (some ⟨g, 0, none⟩)] w fun e w' => (∃ ev, e = .returned ev ∧ ErrIs E w' ev st.f) ∧ w = w' := rErr_any E g s st w h.rd
theorem gErr_none (h : RdK E g s K w st) (hf : st.f = none) :
    Calls Tryz.prog 80 #[.pointer (some ⟨g, 0, none⟩)] w fun e w' => e = .returned .nilIface ∧ w = w' := by
  refine (rErr_any E g s st w h.rd).mono ?_
  rintro e w' ⟨⟨ev, rfl, hev⟩, rfl⟩
  rw [hf] at hev
  obtain rfl : ev = .nilIface := hev
  exact ⟨rfl, rfl⟩
theorem gErr_some (h : RdK E g s K w st) {f : Flt} (hf : st.f = some f) :
    Calls Tryz.prog 80 #[.pointer (some ⟨g, 0, none⟩)] w fun e w' => (∃ k, e = .returned (.iface 145 (.pointer (some ⟨k, 0, none⟩))) ∧ Hid (ErrIs E w' (.iface 145 (.pointer (some ⟨k, 0, none⟩))) (some f))) ∧ w = w' := by
  refine (rErr_any E g s st w h.rd).mono ?_
  rintro e w' ⟨⟨ev, rfl, hev⟩, rfl⟩
  rw [hf] at hev
  obtain ⟨k, rfl⟩ := ErrIs.form hev
  exact ⟨⟨k, rfl, hev⟩, rfl⟩
theorem gAt (h : RdK E g s K w st) :
    Calls Tryz.prog 78 #[.pointer (some ⟨g, 0, none⟩)] w fun e w' => e = .returned (.int .i64 st.at_) ∧ w = w' := rAt_any E g s st w h.rd
theorem gLeft (h : RdK E g s K w st) :
    Calls Tryz.prog 116 #[.pointer (some ⟨g, 0, none⟩)] w fun e w' => e = .returned (.int .i64 ((s.size : Int) - st.at_)) ∧ ∃ n, w' = w.drewN n := rLeft_any E g s st w h.rd
theorem gDone (hK : Stab g K) (h : RdK E g s K w st) :
    Calls Tryz.prog 145 #[.pointer (some ⟨g, 0, none⟩)] w fun e w' => (∃ ev, e = .returned ev ∧ ErrIs E w' ev (rDone s st)) ∧ RdK E g s K w' st ∧ Upd Non w w' := by
  refine (rDone_any E g s st w h.glob h.rd).mono ?_
  rintro e w' ⟨h1, hu⟩
  exact ⟨h1, h.non hK hu, hu⟩
end
end Go.Proofs.YtmmahkckemclaaaGreatDoor
