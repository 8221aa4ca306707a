/- The writer's contracts with what is kept beside it. Conditions: fewer than 2^47 bytes. -/
import Derived.Test.YtmmahkckemclaaaGreatDoorWr2
namespace Go.Proofs.YtmmahkckemclaaaGreatDoor
open Go.RowKit Go.Extern.Stop Go.Stop Go.Extern

abbrev WSt := List UInt8 × Option Flt
/-- A writer, and what no writing to it turns. -/
def WrK (E : GE) (B g : Nat) (K : World → Prop) (w : World) (st : WSt) : Prop := Glob E w ∧ WrS E w B g st ∧ K w
/-- K is not turned by what is done to the writer. -/
def StabW (B : Nat) (K : World → Prop) : Prop := ∀ w w', Tch B WT w w' → K w → K w'
theorem wNum_len (k : Nat) (st : WSt) (n : Int) : (wNum k st n).1.length ≤ st.1.length + k := by
  unfold wNum
  split
  · omega
  · split
    · simp [beN_length]
    · simp
theorem wRaw_len (st : WSt) (s : ByteArray) : (wRaw st s).1.length ≤ st.1.length + s.size := by
  unfold wRaw
  split
  · omega
  · simp
theorem wBin_len (st : WSt) (s : ByteArray) : (wBin st s).1.length ≤ st.1.length + 2 + s.size := by
  unfold wBin
  have h1 := wRaw_len (wNum 2 st s.size) s
  have h2 := wNum_len 2 st s.size
  omega
section
variable {E : GE} {B g : Nat} {K : World → Prop} {w w' : World} {st st' : WSt}
theorem WrK.glob (h : WrK E B g K w st) : Glob E w := h.1
theorem WrK.wr (h : WrK E B g K w st) : WrS E w B g st := h.2.1
theorem WrK.kept (h : WrK E B g K w st) : K w := h.2.2
theorem WrK.next (h : WrK E B g K w st) (hK : StabW B K) (hr : WrS E w' B g st') (ht : Tch B WT w w') : WrK E B g K w' st' :=
  ⟨h.1.tch ht h.2.1.2.1, hr, hK _ _ ht h.2.2⟩
theorem WrK.non (h : WrK E B g K w st) (hK : StabW B K) (hu : Upd Non w w') : WrK E B g K w' st :=
  ⟨h.1.non hu, h.2.1.non hu, hK _ _ (Tch.of_non hu) h.2.2⟩
theorem WrK.drewN (h : WrK E B g K w st) (hK : StabW B K) (n : Nat) : WrK E B g K (w.drewN n) st := h.non hK ((Upd.refl _ _).drewN n)
theorem WrK.lt (h : WrK E B g K w st) : g < w.heap.size := by obtain ⟨_, ⟨_, _, _, _, hb, _⟩, _⟩ := h; exact hb.lt
theorem WrK.le (h : WrK E B g K w st) : B ≤ g := h.2.1.1
theorem kU8 (hK : StabW B K) (h : WrK E B g K w st) (n : Int) (hs : st.1.length + 1 ≤ 140737488355328) :
    Calls Tryz.prog 87 #[.pointer (some ⟨g, 0, none⟩), .int .i64 n] w fun e w' => e = .returned (.tuple #[]) ∧ WrK E B g K w' (wNum 1 st n) := by
  refine (wU8 E B g st n w h.glob h.wr hs).mono ?_
  rintro e w' ⟨rfl, hr, ht⟩
  exact ⟨rfl, h.next hK hr ht⟩
theorem kU16 (hK : StabW B K) (h : WrK E B g K w st) (n : Int) (hs : st.1.length + 2 ≤ 140737488355328) :
    Calls Tryz.prog 68 #[.pointer (some ⟨g, 0, none⟩), .int .i64 n] w fun e w' => e = .returned (.tuple #[]) ∧ WrK E B g K w' (wNum 2 st n) := by
  refine (wU16 E B g st n w h.glob h.wr hs).mono ?_
  rintro e w' ⟨rfl, hr, ht⟩
  exact ⟨rfl, h.next hK hr ht⟩
theorem kU32 (hK : StabW B K) (h : WrK E B g K w st) (n : Int) (hs : st.1.length + 4 ≤ 140737488355328) :
    Calls Tryz.prog 147 #[.pointer (some ⟨g, 0, none⟩), .int .i64 n] w fun e w' => e = .returned (.tuple #[]) ∧ WrK E B g K w' (wNum 4 st n) := by
  refine (wU32 E B g st n w h.glob h.wr hs).mono ?_
  rintro e w' ⟨rfl, hr, ht⟩
  exact ⟨rfl, h.next hK hr ht⟩
theorem kRaw (hK : StabW B K) (h : WrK E B g K w st) (s : ByteArray) (hs : st.1.length + s.size ≤ 140737488355328) :
    Calls Tryz.prog 69 #[.pointer (some ⟨g, 0, none⟩), .string s] w fun e w' => e = .returned (.tuple #[]) ∧ WrK E B g K w' (wRaw st s) := by
  refine (wRaw_any E B g st s w h.wr hs).mono ?_
  rintro e w' ⟨rfl, hr, ht⟩
  exact ⟨rfl, h.next hK hr ht⟩
theorem kBin (hK : StabW B K) (h : WrK E B g K w st) (s : ByteArray) (hs : st.1.length + 2 + s.size ≤ 140737488355328) :
    Calls Tryz.prog 90 #[.pointer (some ⟨g, 0, none⟩), .string s] w fun e w' => e = .returned (.tuple #[]) ∧ WrK E B g K w' (wBin st s) := by
  refine (wBin_any E B g st s w h.glob h.wr hs).mono ?_
  rintro e w' ⟨rfl, hr, ht⟩
  exact ⟨rfl, h.next hK hr ht⟩
theorem kBytes (h : WrK E B g K w st) :
    Calls Tryz.prog 70 #[.pointer (some ⟨g, 0, none⟩)] w fun e w' => (∃ ev, e = .returned (.tuple #[.string (wOut st), ev]) ∧ ErrIs E w' ev st.2) ∧ w = w' := wBytes_any E B g st w h.wr
end
end Go.Proofs.YtmmahkckemclaaaGreatDoor
