/- Faults told of a whole: Reason, At, Deeper. No condition. -/
import Derived.Test.YtmmahkckemclaaaGreatDoorAs
namespace Go.Proofs.YtmmahkckemclaaaGreatDoor
open Go.RowKit

/-- What a world holds besides: the variable that errors.As asks. -/
structure GlobT (E : GE) (w : World) : Prop where
  g : Glob E w
  et : w.cell? ⟨7, 0, none⟩ = some (.iface 203 (.agg #[.pointer (some ⟨8, 46, none⟩)]))
  etl : 7 < E.B
theorem GlobT.upd {E : GE} {S : Nat → Prop} {w w' : World} (h : GlobT E w) (hu : Upd S w w') (hs : ∀ i, i < E.B → ¬ S i) : GlobT E w' :=
  ⟨h.g.upd hu hs, (hu.cell (p := ⟨7, 0, none⟩) (Nat.lt_of_lt_of_le h.etl h.g.size) (hs _ h.etl)).trans h.et, h.etl⟩
theorem GlobT.non {E : GE} {w w' : World} (h : GlobT E w) (hu : Upd Non w w') : GlobT E w' := h.upd hu fun _ _ => id

/-- errors.As at a variable of the faults' type. -/
theorem as_any (g : Addr) (b : Nat) (old : Value) (w : World) (hT : w.cell? ⟨7, 0, none⟩ = some (.iface 203 (.agg #[.pointer (some ⟨8, 46, none⟩)])))
    (hb : Blk w b 145 #[old]) :
    Calls Tryz.prog 120 #[.iface 145 (.pointer (some g)), .iface 147 (.pointer (some ⟨b, 0, none⟩))] w fun e w' => e = .returned (.bool true) ∧ Upd (fun i => i = b) w w' ∧ Blk w' b 145 #[.pointer (some g)] := by
  refine (as_hit g ⟨b, 0, none⟩ old w hT (hb.cell 0) (hb.frozen 0)).mono ?_
  rintro e w' ⟨rfl, rfl⟩
  refine ⟨rfl, ?_, ?_⟩
  · exact Upd.setCell (Upd.alloc (Upd.alloc (Upd.alloc (Upd.alloc (Upd.refl _ _) _) _) _) _) _ (fun _ => rfl)
  · exact ((((hb.alloc _).alloc _).alloc _).alloc _).set_ 0 _

/-- What stands in a fault's own block. -/
theorem ErrIs.top {E : GE} {w : World} {e : Value} {f : Flt} (h : ErrIs E w e (some f)) : ∃ g e', e = .iface 145 (.pointer (some ⟨g, 0, none⟩)) ∧ Blk w g 149 #[.int .i64 f.r, .int .i64 f.a, e'] := by
  obtain ⟨d, h⟩ := h
  cases d with
  | zero => obtain ⟨g, he, hb, _⟩ := h; exact ⟨g, _, he, hb⟩
  | succ d => obtain ⟨g, e', _, _, he, hb, _⟩ := h; exact ⟨g, e', he, hb⟩

set_option maxHeartbeats 2000000 in
theorem reason_any (E : GE) (e : Value) (f : Flt) (w : World) (hG : GlobT E w) (he : ErrIs E w e (some f)) :
    Calls Tryz.prog 76 #[e] w fun ev w' => ev = .returned (.int .i64 f.r) ∧ Upd Non w w' := by
  obtain ⟨g, e', rfl, hb⟩ := he.top
  have hT := (hG.non ((Upd.refl Non w).alloc (.cells #[.pointer none] 145))).et
  have HB := Lib.hid hb
  have HT := Lib.hid hT
  clear hb hT he
  obtain ⟨r, hr⟩ : ∃ r, r = f.r := ⟨_, rfl⟩
  rw [← hr] at HB ⊢
  clear hr
  go_enter Tryz.func76, Tryz.ntmps76
  go_wp2_with (go_at_call 120
               refine (as_any _ w.heap.size (.pointer none) _ HT.out (Blk.new _ _ _)).mono ?_
               rintro ev w1 ⟨rfl, hu, hb1⟩
               have hf1 : Blk w1 g 149 #[.int .i64 r, .int .i64 f.a, e'] := (HB.out.alloc _).upd hu (Nat.ne_of_lt HB.out.lt)
               have z0 := hb1.cell 0
               have z1 := hf1.cell 0
               simp only [List.getElem?_toArray, List.getElem?_cons_zero] at z0 z1
               have HU := Lib.hid hu
               clear hu hb1 hf1)
  go_ret
  exact ⟨rfl, ((Upd.refl Non w).alloc _).trans HU.out (fun i hi e => by omega)⟩
set_option maxHeartbeats 2000000 in
theorem at_any (E : GE) (e : Value) (f : Flt) (w : World) (hG : GlobT E w) (he : ErrIs E w e (some f)) :
    Calls Tryz.prog 58 #[e] w fun ev w' => ev = .returned (.int .i64 f.a) ∧ Upd Non w w' := by
  obtain ⟨g, e', rfl, hb⟩ := he.top
  have hT := (hG.non ((Upd.refl Non w).alloc (.cells #[.pointer none] 145))).et
  have HB := Lib.hid hb
  have HT := Lib.hid hT
  clear hb hT he
  obtain ⟨r, hr⟩ : ∃ r, r = f.a := ⟨_, rfl⟩
  rw [← hr] at HB ⊢
  clear hr
  go_enter Tryz.func58, Tryz.ntmps58
  go_wp2_with (go_at_call 120
               refine (as_any _ w.heap.size (.pointer none) _ HT.out (Blk.new _ _ _)).mono ?_
               rintro ev w1 ⟨rfl, hu, hb1⟩
               have hf1 : Blk w1 g 149 #[.int .i64 f.r, .int .i64 r, e'] := (HB.out.alloc _).upd hu (Nat.ne_of_lt HB.out.lt)
               have z0 := hb1.cell 0
               have z1 := hf1.cell 1
               simp only [List.getElem?_toArray, List.getElem?_cons_zero, List.getElem?_cons_succ] at z0 z1
               have HU := Lib.hid hu
               clear hu hb1 hf1)
  go_ret
  exact ⟨rfl, ((Upd.refl Non w).alloc _).trans HU.out (fun i hi e => by omega)⟩

/-- hold, further. -/
def holdN (n m : Int) : Int := max (-m) (min n m)
def furtherN (a by_ : Int) : Int := max 0 (min (holdN a 18014398509481984 + holdN by_ 18014398509481984) 9007199254740992)
theorem hold_any (n m : Int) (h0 : 0 ≤ m) (h1 : m ≤ 1152921504606846976) (w : World) : Calls Tryz.prog 187 #[.int .i64 n, .int .i64 m] w fun e w' => e = .returned (.int .i64 (holdN n m)) ∧ w = w' := by
  go_enter Tryz.func187, Tryz.ntmps187
  go_wp2
  all_goals go_ret
  all_goals refine ⟨?_, rfl⟩
  all_goals refine congrArg (fun z => Ending.returned (.int .i64 z)) ?_
  all_goals simp only [holdN]
  all_goals first | omega | (split at * <;> omega)
theorem hold_in (n m : Int) (h0 : 0 ≤ m) : -m ≤ holdN n m ∧ holdN n m ≤ m := by simp only [holdN]; omega
set_option maxRecDepth 20000 in
theorem further_any (a by_ : Int) (w : World) : Calls Tryz.prog 165 #[.int .i64 a, .int .i64 by_] w fun e w' => e = .returned (.int .i64 (furtherN a by_)) ∧ w = w' := by
  obtain ⟨b11, b12⟩ := hold_in a 18014398509481984 (by omega)
  obtain ⟨b21, b22⟩ := hold_in by_ 18014398509481984 (by omega)
  unfold furtherN
  go_enter Tryz.func165, Tryz.ntmps165
  go_wp2_with (go_at_call 187
               refine (hold_any _ _ (by omega) (by omega) _).mono ?_
               rintro e w' ⟨rfl, rfl⟩)
  all_goals go_ret
  all_goals refine ⟨?_, rfl⟩
  all_goals refine congrArg (fun z => Ending.returned (.int .i64 z)) ?_
  all_goals first | omega | (split at * <;> omega)

set_option maxHeartbeats 2000000 in
theorem deeper_any (E : GE) (e : Value) (f : Flt) (by_ : Int) (w : World) (hG : GlobT E w) (he : ErrIs E w e (some f)) :
    Calls Tryz.prog 118 #[e, .int .i64 by_] w fun ev w' => (∃ v, ev = .returned v ∧ ErrIs E w' v (some ⟨f.k, f.r, furtherN f.a by_⟩)) ∧ Upd Non w w' := by
  have hG' := Lib.hid hG
  have HE := Lib.hid he
  obtain ⟨g, rfl⟩ := he.form
  clear he hG
  go_enter Tryz.func118, Tryz.ntmps118
  go_wp2_with (first
    | (go_at_call 76
       refine (reason_any E _ f _ hG'.out HE.out).mono ?_
       rintro e w1 ⟨rfl, hu1⟩
       have HU1 := Lib.hid hu1
       clear hu1)
    | (go_at_call 58
       refine (at_any E _ f _ (hG'.out.non HU1.out) (HE.out.non HU1.out)).mono ?_
       rintro e w2 ⟨rfl, hu2⟩
       have HU2 := Lib.hid (HU1.out.then hu2)
       clear hu2)
    | (go_at_call 165
       refine (further_any _ _ _).mono ?_
       rintro e w' ⟨rfl, rfl⟩))
  go_ret
  have he2 := HE.out.non HU2.out
  obtain ⟨dd, hd⟩ := he2
  have hu := HU2.out.alloc (.cells #[.int .i64 f.r, .int .i64 (furtherN f.a by_), .iface 145 (.pointer (some ⟨g, 0, none⟩))] 149)
  refine ⟨⟨_, rfl, dd + 1, _, _, f.r, f.a, rfl, Blk.new _ _ _, ?_⟩, hu⟩
  exact hd.kept fun _ _ hb => hb.alloc _
end Go.Proofs.YtmmahkckemclaaaGreatDoor
