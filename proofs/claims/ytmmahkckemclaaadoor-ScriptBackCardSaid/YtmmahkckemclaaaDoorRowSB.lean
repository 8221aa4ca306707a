/- THE ROW OF ScriptBack, PROVED. -/
import Derived.Test.YtmmahkckemclaaaDoorGlob
import Derived.ProofKit
import Derived.ChangeVars
import Derived.JoinedOf
import Derived.LaidHandle
import Derived.Stop.Joined
namespace Go.Proofs.YtmmahkckemclaaaDoor
open Go.ChangeShapes Go.WideShapes Go.RowKit
set_option maxRecDepth 100000

theorem law_any (E : GE) (c : Cfg) (A : Option Addr) (l : List Ev) (cp : Nat) (s : ByteArray) (w : World) (hG : Glob E w) (hr : Reads w 4 A l.length (evs l)) :
    Calls Tryd.prog 3 #[.agg #[.int .i64 c.c0, .int .i64 c.c1, .int .i64 c.c2, .int .i64 c.c3, .int .i64 c.c4, .int .i64 c.c5, .int .i64 c.c6, .int .i64 c.c7, .int .i64 c.c8, .int .i64 c.c9, .int .i64 c.c10, .int .i64 c.c11, .int .i64 c.c12], .slice A l.length cp, .string s] w fun e w' => e = .returned (.bool true) ∧ Upd Non w w' := by
  cases hf : fewEv l with
  | false => exact law_many E c A l cp s w hG hr hf
  | true =>
    by_cases hz : (8192 : Int) < s.size
    · exact law_long E c A l cp s w hG hr hf hz
    · have hz' : (s.size : Int) ≤ 8192 := by omega
      obtain ⟨S, hS⟩ : ∃ S, (putS c l).1 = S := ⟨_, rfl⟩
      cases hp : (putS c l).2 with
      | none =>
        have hp' : putS c l = (S, none) := by rw [← hS, ← hp]
        cases ht : (takeS s).2.2 with
        | none => exact law_none_none E c A l cp s w hG hr hf hz' S hp' (takeS s).1 (takeS s).2.1 (by rw [← ht])
        | some f2 => exact law_none_some E c A l cp s w hG hr hf hz' S hp' f2 (take_none s f2 ht)
      | some f =>
        have hp' : putS c l = (S, some f) := by rw [← hS, ← hp]
        cases ht : (takeS s).2.2 with
        | none => exact law_some_none E c A l cp s w hG hr hf hz' S f hp' (takeS s).1 (takeS s).2.1 (by rw [← ht])
        | some f2 => exact law_some_some E c A l cp s w hG hr hf hz' S f hp' f2 (take_none s f2 ht)

theorem sb_own : ownKnob Tryd.prog.godebug = none := by kernel_rfl
theorem sb_out : laidOutB Tryd.prog = true := by kernel_rfl
noncomputable def sbLow : Nat := (World.holding Tryd.prog default ⟨#[], #[], []⟩).heap.size
/-- A world that meets the condition: the settled one, the seven kinds laid. -/
noncomputable def sbWorld (os : Os) : World :=
  let w0 := World.holding Tryd.prog os ⟨#[
    .cells #[.string ⟨#[116, 111, 111, 32, 102, 101, 119, 32, 98, 121, 116, 101, 115]⟩] 190,
    .cells #[.string ⟨#[109, 97, 108, 102, 111, 114, 109, 101, 100]⟩] 190,
    .cells #[.string ⟨#[97, 103, 97, 105, 110, 115, 116, 32, 116, 104, 101, 32, 112, 114, 111, 116, 111, 99, 111, 108]⟩] 190,
    .cells #[.string ⟨#[116, 111, 111, 32, 108, 97, 114, 103, 101]⟩] 190,
    .cells #[.string ⟨#[110, 111, 32, 114, 111, 111, 109]⟩] 190,
    .cells #[.string ⟨#[110, 111, 116, 32, 110, 111, 119]⟩] 190,
    .cells #[.string ⟨#[110, 111, 32, 115, 117, 99, 104, 32, 116, 104, 105, 110, 103]⟩] 190], #[], []⟩
  let lay (h : Array Obj) (g k : Nat) : Array Obj := h.modify g fun
      | .cells _ t frozen => .cells #[.iface 170 (.pointer (some ⟨sbLow + k, 0, none⟩))] t frozen
      | o => o
  { w0 with heap := lay (lay (lay (lay (lay (lay (lay w0.heap 3 0) 2 1) 4 2) 0 3) 5 4) 6 5) 1 6 }
theorem sb_met0 (os : Os) (args : Array Value) : laidMet Tryd.prog laid7 ((sbWorld os).forCall (fun _ _ => 0) ⟨#[], args, []⟩).memory :=
  laidMet_of_run (ps := [.cell 3 0, .cell sbLow 0, .cell 2 0, .cell (sbLow + 1) 0, .cell 4 0, .cell (sbLow + 2) 0, .cell 0 0, .cell (sbLow + 3) 0,
    .cell 5 0, .cell (sbLow + 4) 0, .cell 6 0, .cell (sbLow + 5) 0, .cell 1 0, .cell (sbLow + 6) 0]) 8 (by kernel_rfl) (by kernel_rfl) (by kernel_rfl)
theorem laidH_7 {w : World} : laidMetH Tryd.prog laid7 w ↔ laidMet Tryd.prog laid7 w := by
  have h1 : (laid7.filter fun x => x.2.handleName?.isSome) = [] := by kernel_rfl
  unfold laidMetH
  rw [h1]
theorem row_laid : Rows.scriptBackRow.laid = laid7 := by kernel_rfl

theorem sb_lifted (os : Os) (started : os.Started) (H : Type) (enc : TypeId × Value → H) :
    ReturnsInHanded {} Tryd.checked os 3 .any (fun w args => (Rows.scriptBackSpec.pre enc Tryd.prog Tryd.f3 [] false w args ∧ laidMetH Tryd.prog laid7 w) ∧ sizedMet enc Tryd.prog Tryd.f3 (OpenSpec.ofChange Rows.scriptBackSpec) false w args)
      (Rows.scriptBackSpec.post enc Tryd.prog Tryd.f3 false true false false) := by
  refine returnsInHanded_of_change_and (C := Tryd.checked) (X := fun w _ => laidMetH Tryd.prog laid7 w) (fun _ _ _ hh h => h.of_heap hh) sb_own started (by kernel_rfl) Tryd.func3
    (ChangeSpec.witness_at (enc := enc) (C := Tryd.checked) (os := os) (X := fun w _ => laidMetH Tryd.prog laid7 w) false (sbWorld os) #[.agg #[.int .i64 0, .int .i64 0, .int .i64 0, .int .i64 0, .int .i64 0, .int .i64 0, .int .i64 0, .int .i64 0, .int .i64 0, .int .i64 0, .int .i64 0, .int .i64 0, .int .i64 0], .slice none 0 0, .string ⟨#[]⟩] 8 rfl (by kernel_rfl) (by kernel_rfl) (by kernel_rfl) (by kernel_rfl) (by kernel_rfl) (laidH_7.2 (sb_met0 os _))) ?_
  intro W base args ds gs before hval0 hW _ _ hL _
  have hval : ∀ (j : Nat) t v, Tryd.f3.params[j]? = some t → args[j]? = some v → Value.okWide Tryd.prog W .any base t v := hval0
  have hW' := hW
  obtain ⟨p, q, hA0, hV0, rfl, hfz, hnd⟩ := hW
  have hA : DataW.TrodAll enc Tryd.prog W 0 (fun _ => true) true Tryd.f3.params.toList args.toList ds p := hA0
  have hV : DataW.TrodVars enc Tryd.prog W (fun _ => true) [] gs q := hV0
  rw [Tryd.params3] at hA hval
  obtain ⟨v0, v1, v2, d0, d1, d2, p0, p1, p2, rfl, rfl, rfl, h0, h1, h2⟩ := trodAll_three hA
  obtain ⟨rfl, rfl⟩ := trodVars_none hV
  obtain ⟨c, rfl⟩ := open_cfg (hval 0 23 v0 rfl rfl) h0
  obtain ⟨A, cp, l, rfl, hr⟩ := open_events (hval 1 24 v1 rfl rfl) h1
  obtain ⟨s, rfl, rfl, rfl, hz⟩ := Go.ChangeMaps.open_string Tryd.underlying9 (hval 2 9 v2 rfl rfl) h2
  clear hA0 hV0 hval0
  have hlt := fun x hx => hW'.lt x hx
  refine (law_any (mkGE W) c A l cp s W (glob_of (laidH_7.1 hL)) hr).mono fun e W' ⟨he, hu⟩ => ?_
  subst he
  have hb := hu.below
  have e1 : Rows.scriptBackSpec.fn H ([d0, d1, .lit (.string s.data.toList)] ++ []) = { results := [.lit (.bool true)], args := [d0, d1, .lit (.string s.data.toList)] } := rfl
  refine ⟨_, rfl, _, _, _, [], p0 ++ (p1 ++ []), [], hW', ?_, ?_, ?_, World.keptBut_mono (fun p hp => ⟨hp, Or.inr (Or.inl (by simpa using hp))⟩) (hb.frame (· ∈ p0 ++ p1 ++ [] ++ [])), fun h => by cases h⟩
  · rw [e1]; exact trodAll_mk1 (shut_bool Tryd.underlying4 true)
  · rw [e1]
    exact trodAll_mk3 (Below.trod sb_out (by kernel_rfl) (of_decide_eq_true (by kernel_rfl)) h0 hb (fun x hx => hlt x (by simp [hx]))) (Below.trod sb_out (by kernel_rfl) (of_decide_eq_true (by kernel_rfl)) h1 hb (fun x hx => hlt x (by simp [hx]))) (Go.ChangeMaps.shut_string Tryd.underlying9 hz)
  · rw [e1]; rfl

theorem sb_holds : Rows.ScriptBackSaid :=
  OpenClaim.holds_of_wide 3 Tryd.f3 rfl rfl rfl rfl rfl rfl rfl ⟨rfl, rfl, rfl, rfl, rfl⟩ rfl rfl rfl rfl rfl (by kernel_rfl) Tryd.func3 (by kernel_rfl)
    (of_decide_eq_true (by kernel_rfl)) (by unfold Func.isWrapper; rw [if_neg (of_decide_eq_false (by kernel_rfl))]; exact ⟨rfl, rfl⟩)
    (fun os started H enc _ => sb_lifted os started H enc)
#print axioms sb_holds
end Go.Proofs.YtmmahkckemclaaaDoor
