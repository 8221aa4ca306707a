/- Errors: the seven kinds in their variables, a fault in memory, fault.New. Conditions: the package variables hold what the program lays there. -/
import Derived.Test.YtmmahkckemclaaaGreatDoorProg
import Derived.Test.YtmmahkckemclaaaGreatDoorMem
import Derived.Lib.Hide
import Derived.Deep.QuietTactic
import Derived.BigQuiet
import Derived.Deep.RegionHeld3
import Derived.Deep.DeepCutAuto
import Derived.Deep.CutBlock
import Derived.Deep.LoopGhost
import Derived.LaidEqlPtr
import Derived.Stop.Asserts
import Derived.RowKitTokens
namespace Go.Proofs.YtmmahkckemclaaaGreatDoor
open Go.RowKit Go.Extern.Stop Go.Stop Go.Extern

/-- Where the seven kinds' texts lie, and below which block no call writes. -/
structure GE where
  a : Nat → Addr
  B : Nat

/-- The variable of a kind. -/
def gix : Nat → Nat
  | 1 => 3
  | 2 => 0
  | 3 => 1
  | 4 => 4
  | 5 => 5
  | 6 => 6
  | _ => 2

/-- A kind's value. -/
def GE.kd (E : GE) (k : Nat) : Value := .iface 225 (.pointer (some (E.a k)))

structure Glob (E : GE) (w : World) : Prop where
  at_ : ∀ k, 1 ≤ k → k ≤ 7 → w.cell? ⟨gix k, 0, none⟩ = some (E.kd k)
  lt : ∀ k, gix k < E.B
  size : E.B ≤ w.heap.size
  ne : ∀ i j, 1 ≤ i → i ≤ 7 → 1 ≤ j → j ≤ 7 → i ≠ j → E.a i ≠ E.a j
  blk : ∀ k, 1 ≤ k → k ≤ 7 → ∃ c t, w.heap[(E.a k).block]? = some (.cells c t (0, 0))
  alt : ∀ k, 1 ≤ k → k ≤ 7 → (E.a k).block < E.B

theorem Glob.upd {E : GE} {S : Nat → Prop} {w w' : World} (h : Glob E w) (hu : Upd S w w') (hs : ∀ i, i < E.B → ¬ S i) : Glob E w' :=
  ⟨fun k h1 h2 => (hu.cell (Nat.lt_of_lt_of_le (h.lt k) h.size) (hs _ (h.lt k))).trans (h.at_ k h1 h2), h.lt, Nat.le_trans h.size hu.size, h.ne,
    fun k h1 h2 => by
      obtain ⟨c, t, hb⟩ := h.blk k h1 h2
      exact ⟨c, t, (hu.block _ (Nat.lt_of_lt_of_le (h.alt k h1 h2) h.size) (hs _ (h.alt k h1 h2))).trans hb⟩, h.alt⟩
theorem Glob.non {E : GE} {w w' : World} (h : Glob E w) (hu : Upd Non w w') : Glob E w' := h.upd hu fun _ _ => id
theorem Glob.drewN {E : GE} {w : World} (h : Glob E w) (n : Nat) : Glob E (w.drewN n) := ⟨h.at_, h.lt, h.size, h.ne, h.blk, h.alt⟩

/-- A fault of d wrappings: its kind, reason and place. -/
def ErrN (E : GE) (w : World) : Nat → Value → Nat → Int → Int → Prop
  | 0, e, k, r, a => ∃ g, e = .iface 145 (.pointer (some ⟨g, 0, none⟩)) ∧ Blk w g 149 #[.int .i64 r, .int .i64 a, E.kd k] ∧ 1 ≤ k ∧ k ≤ 7
  | d + 1, e, k, r, a => ∃ g e' r' a', e = .iface 145 (.pointer (some ⟨g, 0, none⟩)) ∧ Blk w g 149 #[.int .i64 r, .int .i64 a, e'] ∧ ErrN E w d e' k r' a'

/-- A fault: its kind, reason and place. -/
structure Flt where
  k : Nat
  r : Int
  a : Int

def ErrIs (E : GE) (w : World) (e : Value) : Option Flt → Prop
  | none => e = .nilIface
  | some f => ∃ d, ErrN E w d e f.k f.r f.a

theorem ErrN.kept {E : GE} {w w' : World} (hk : ∀ g cs, Blk w g 149 cs → Blk w' g 149 cs) : ∀ {d : Nat} {e : Value} {k : Nat} {r a : Int}, ErrN E w d e k r a → ErrN E w' d e k r a := by
  intro d
  induction d with
  | zero => rintro e k r a ⟨g, he, hb, h1⟩; exact ⟨g, he, hk _ _ hb, h1⟩
  | succ d ih => rintro e k r a ⟨g, e', r', a', he, hb, h⟩; exact ⟨g, e', r', a', he, hk _ _ hb, ih h⟩
theorem ErrIs.kept {E : GE} {w w' : World} (hk : ∀ g cs, Blk w g 149 cs → Blk w' g 149 cs) {e : Value} {f : Option Flt} (h : ErrIs E w e f) : ErrIs E w' e f := by
  cases f with
  | none => exact h
  | some f => obtain ⟨d, h⟩ := h; exact ⟨d, h.kept hk⟩
theorem ErrIs.upd {E : GE} {S : Nat → Prop} {w w' : World} (hu : Upd S w w') (hs : ∀ g cs, Blk w g 149 cs → ¬ S g) {e : Value} {f : Option Flt} (h : ErrIs E w e f) : ErrIs E w' e f :=
  h.kept fun g cs hb => hb.upd hu (hs g cs hb)
theorem ErrIs.non {E : GE} {w w' : World} (hu : Upd Non w w') {e : Value} {f : Option Flt} (h : ErrIs E w e f) : ErrIs E w' e f := h.upd hu fun _ _ _ => id
/-- What is written is a block of another type. -/
theorem ErrIs.one {E : GE} {g : Nat} {t : TypeId} {cs : Array Value} {w w' : World} (hu : Upd (fun i => i = g) w w') (hg : Blk w g t cs) (ht : t ≠ 149) {e : Value} {f : Option Flt} (h : ErrIs E w e f) : ErrIs E w' e f :=
  h.upd hu fun _ _ hb e => by subst e; exact hb.ne_ hg (fun e => ht e.symm) rfl
theorem ErrIs.drew {E : GE} {w : World} {e : Value} {f : Option Flt} (h : ErrIs E w e f) : ErrIs E w.drew e f := ErrIs.kept (w := w) (w' := w.drew) (fun _ _ h => h) h
theorem ErrIs.drewN {E : GE} {w : World} {e : Value} {f : Option Flt} (h : ErrIs E w e f) (n : Nat) : ErrIs E (w.drewN n) e f := ErrIs.kept (w := w) (w' := w.drewN n) (fun _ _ h => h) h
theorem ErrIs.form {E : GE} {w : World} {e : Value} {f : Flt} (h : ErrIs E w e (some f)) : ∃ g, e = .iface 145 (.pointer (some ⟨g, 0, none⟩)) := by
  obtain ⟨d, h⟩ := h
  cases d with
  | zero => obtain ⟨g, he, _⟩ := h; exact ⟨g, he⟩
  | succ d => obtain ⟨g, _, _, _, he, _⟩ := h; exact ⟨g, he⟩
theorem ErrIs.new {E : GE} (w : World) (k : Nat) (r a : Int) (h1 : 1 ≤ k) (h2 : k ≤ 7) : ErrIs E (w.alloc (.cells #[.int .i64 r, .int .i64 a, E.kd k] 149)) (.iface 145 (.pointer (some ⟨w.heap.size, 0, none⟩))) (some ⟨k, r, a⟩) :=
  ⟨0, _, rfl, Blk.new _ _ _, h1, h2⟩

set_option maxHeartbeats 400000 in
/-- fault.New of something. -/
theorem new_any (r a : Int) (t : TypeId) (v : Value) (w : World) :
    Calls Tryz.prog 66 #[.int .i64 r, .int .i64 a, .iface t v] w fun e w' => e = .returned (.iface 145 (.pointer (some ⟨w.heap.size, 0, none⟩))) ∧ w' = w.alloc (.cells #[.int .i64 r, .int .i64 a, .iface t v] 149) := by
  go_enter Tryz.func66, Tryz.ntmps66
  go_wp2
  go_ret
  exact ⟨rfl, rfl⟩
theorem new_kd (E : GE) (r a : Int) (k : Nat) (w : World) (h1 : 1 ≤ k) (h2 : k ≤ 7) :
    Calls Tryz.prog 66 #[.int .i64 r, .int .i64 a, E.kd k] w fun e w' => ∃ v, e = .returned v ∧ ErrIs E w' v (some ⟨k, r, a⟩) ∧ Upd Non w w' := by
  refine (new_any r a _ _ w).mono ?_
  rintro e w' ⟨rfl, rfl⟩
  exact ⟨_, rfl, ErrIs.new w k r a h1 h2, (Upd.refl _ _).alloc _⟩

end Go.Proofs.YtmmahkckemclaaaGreatDoor
