/- errors.Is at a fault and one of the seven kinds; fault.Number. Conditions: the package variables hold what the program lays there. -/
import Derived.Test.YtmmahkckemclaaaGreatDoorErr0
import Derived.LaidEql
namespace Go.Proofs.YtmmahkckemclaaaGreatDoor
open Go.RowKit Go.Extern.Stop Go.Stop Go.Extern

/-! ### Closed facts -/
theorem isTypeOf (v : Value) (w : World) : (Extern.ReflectliteType.typeOf #[.iface 225 v]).run Tryz.prog w = .ok (.iface 203 (.agg #[.pointer (some ⟨8, 225, none⟩)])) w := by kernel_rfl
/-- The model's entry for (rtype).Comparable. -/
def cmpE : Array Value → Sem Value := Extern.ReflectliteType.method fun t => do
  Extern.Rtype.noPackHeld "Comparable" t
  pure (.bool (← typeInfo t).comparable)
theorem isComparable (w : World) : (cmpE #[.agg #[.pointer (some ⟨8, 225, none⟩)]]).run Tryz.prog w = .ok (.bool true) w := by kernel_rfl
theorem isMethodComparable (v : Value) (w : World) : (Go.method 356 203 v "Comparable").run Tryz.prog w = .ok (224, v) w := by kernel_rfl
theorem isComp : (Tryz.prog.info? 225).map (·.comparable) = some true := by kernel_rfl
theorem isSize : (Tryz.prog.info? 245).map (·.size) = some 1 := by kernel_rfl
theorem noIsE (v : Value) (xT : TypeId) (w : World) : (Instr.typeAssert (.iface 225 v) xT 205 true).run Tryz.prog w = .ok (.tuple #[.nilIface, .bool false]) w := run_typeAssert_lacksB Tryz.underlying205 (by kernel_rfl) (by kernel_rfl) v xT w
theorem noUnwrapE (v : Value) (xT : TypeId) (w : World) : (Instr.typeAssert (.iface 225 v) xT 208 true).run Tryz.prog w = .ok (.tuple #[.nilIface, .bool false]) w := run_typeAssert_lacksB Tryz.underlying208 (by kernel_rfl) (by kernel_rfl) v xT w
theorem noUnwrapsE (v : Value) (xT : TypeId) (w : World) : (Instr.typeAssert (.iface 225 v) xT 209 true).run Tryz.prog w = .ok (.tuple #[.nilIface, .bool false]) w := run_typeAssert_lacksB Tryz.underlying209 (by kernel_rfl) (by kernel_rfl) v xT w
theorem noIsW (v : Value) (xT : TypeId) (w : World) : (Instr.typeAssert (.iface 145 v) xT 205 true).run Tryz.prog w = .ok (.tuple #[.nilIface, .bool false]) w := run_typeAssert_lacksB Tryz.underlying205 (by kernel_rfl) (by kernel_rfl) v xT w
theorem hasUnwrapW (v : Value) (xT : TypeId) (w : World) : (Instr.typeAssert (.iface 145 v) xT 208 true).run Tryz.prog w = .ok (.tuple #[.iface 145 v, .bool true]) w := run_typeAssert_hasB Tryz.underlying208 (by kernel_rfl) v xT w
theorem methodUnwrap (v : Value) (w : World) : (Go.method 356 145 v "Unwrap").run Tryz.prog w = .ok (218, v) w := by kernel_rfl

/-- (*Fault).Unwrap. -/
theorem unwrap_any (g : Nat) (e : Value) (w : World) (hc : w.cell? ⟨g, 2, none⟩ = some e) :
    Calls Tryz.prog 218 #[.pointer (some ⟨g, 0, none⟩)] w fun ev w' => ev = .returned e ∧ w = w' := by
  go_enter Tryz.func218, Tryz.ntmps218
  go_wp2
  go_ret
  exact ⟨rfl, rfl⟩

/-- What errors.is looks at, d steps ahead of the kind. -/
def IsRel (E : GE) (w : World) (k : Nat) : Nat → Value → Prop
  | 0, v => v = E.kd k
  | d + 1, v => ∃ r a, ErrN E w d v k r a

set_option maxHeartbeats 1000000 in
theorem is_any (E : GE) (d k k' : Nat) (e : Value) (w : World) (hG : Glob E w) (hk1 : 1 ≤ k) (hk2 : k ≤ 7) (hk1' : 1 ≤ k') (hk2' : k' ≤ 7) (he : IsRel E w k d e) :
    Calls Tryz.prog 167 #[e, E.kd k', .bool true] w fun ev w' => ev = .returned (.bool (decide (k = k'))) ∧ w = w' := by
  obtain ⟨i, hi, hcmp⟩ := Option.map_eq_some_iff.1 isComp
  obtain ⟨j, hj, hjs⟩ := Option.map_eq_some_iff.1 isSize
  have nE := noIsE
  have uE := noUnwrapE
  have vE := noUnwrapsE
  have nW := noIsW
  have uW := hasUnwrapW
  have mU := methodUnwrap
  have hE := Lib.hid he
  clear he
  go_enter Tryz.func167, Tryz.ntmps167
  go_wp2_with fail
  go_loopg [0] d (fun kq v w' => IsRel E w k kq v ∧ w' = w)
  case atStart => exact ⟨hE.out, rfl⟩
  case round =>
    obtain ⟨hR, rfl⟩ := hrel
    clear hE
    cases gk with
    | zero =>
      have hR' : _ = E.kd k := hR
      subst hR'
      clear hR
      by_cases hkk : k = k'
      · subst hkk
        have heq := run_eql_iface_ptr_same (P := Tryz.prog) wr (E.a k) Tryz.underlying46 Tryz.underlying225 hi hcmp hj
        unfold GE.kd
        go_wp2
        go_ret
        exact ⟨by simp, rfl⟩
      · obtain ⟨ca, ta, ha⟩ := hG.blk k hk1 hk2
        obtain ⟨cb, tb, hb⟩ := hG.blk k' hk1' hk2'
        have heq := run_eql_iface_ptr_other (P := Tryz.prog) wr Tryz.underlying46 Tryz.underlying225 hi hcmp hj (by rw [hjs]; decide) (hG.ne k k' hk1 hk2 hk1' hk2' hkk) ha hb
        unfold GE.kd
        clear ha hb
        go_wp2
        go_ret
        exact ⟨by simp [hkk], rfl⟩
    | succ d =>
      obtain ⟨r, a, hN⟩ := hR

      have next : ∃ g e', u0 = .iface 145 (.pointer (some ⟨g, 0, none⟩)) ∧ wr.cell? ⟨g, 2, none⟩ = some e' ∧ IsRel E wr k d e' ∧ ∃ t v, e' = .iface t v := by
        cases d with
        | zero => obtain ⟨g, hv, hb, _⟩ := hN; exact ⟨g, _, hv, hb.cell 2, rfl, _, _, rfl⟩
        | succ d =>
          obtain ⟨g, e', r', a', hv, hb, hn⟩ := hN
          refine ⟨g, _, hv, hb.cell 2, ⟨r', a', hn⟩, ?_⟩
          obtain ⟨g', h'⟩ := ErrIs.form (f := ⟨k, r', a'⟩) ⟨d, hn⟩
          exact ⟨_, _, h'⟩
      obtain ⟨g, e', rfl, hc, hR', t, v, rfl⟩ := next
      clear hN
      have HR := Lib.hid hR'
      clear hR'
      have hty := run_eql_iface_types (P := Tryz.prog) 145 225 (.pointer (some ⟨g, 0, none⟩)) (.pointer (some (E.a k'))) Tryz.underlying46 (by decide) wr
      unfold GE.kd
      go_wp2_with (go_at_call 218; refine (unwrap_any _ _ _ hc).mono ?_; rintro e w' ⟨rfl, rfl⟩)
      go_roundg d
      case measure => omega
      case rel => exact ⟨HR.out, rfl⟩

theorem ErrN.kind {E : GE} {w : World} {k : Nat} : ∀ {d : Nat} {e : Value} {r a : Int}, ErrN E w d e k r a → 1 ≤ k ∧ k ≤ 7 := by
  intro d
  induction d with
  | zero => rintro e r a ⟨_, _, _, h⟩; exact h
  | succ d ih => rintro e r a ⟨_, _, _, _, _, _, h⟩; exact ih h
theorem ErrIs.rel {E : GE} {w : World} {e : Value} {f : Flt} (h : ErrIs E w e (some f)) : 1 ≤ f.k ∧ f.k ≤ 7 ∧ ∃ d, IsRel E w f.k d e := by
  obtain ⟨d, h⟩ := h
  exact ⟨h.kind.1, h.kind.2, d + 1, _, _, h⟩

set_option maxHeartbeats 1000000 in
theorem Is_any (E : GE) (k' : Nat) (e : Value) (f : Flt) (w : World) (hG : Glob E w) (he : ErrIs E w e (some f)) (hk1' : 1 ≤ k') (hk2' : k' ≤ 7) :
    Calls Tryz.prog 119 #[e, E.kd k'] w fun ev w' => ev = .returned (.bool (decide (f.k = k'))) ∧ w = w' := by
  obtain ⟨h1, h2, d, hr⟩ := he.rel
  obtain ⟨g, rfl⟩ := he.form
  have HR := Lib.hid hr
  clear hr he
  have h8 := @run_callFunc_extern Tryz.prog 166 _ Extern.ReflectliteType.typeOf Tryz.func166 (by kernel_rfl) (by kernel_rfl) (by kernel_rfl) (by kernel_rfl)
  have h32 := @run_callFunc_extern Tryz.prog 224 _ cmpE Tryz.func224 (by kernel_rfl) (by kernel_rfl) (by kernel_rfl) (by kernel_rfl)
  have tT := isTypeOf
  have cT := isComparable
  have mR := isMethodComparable
  unfold GE.kd
  go_enter Tryz.func119, Tryz.ntmps119
  go_wp2_with (go_at_call 167; refine (is_any E d f.k k' _ _ hG h1 h2 hk1' hk2' HR.out).mono ?_; rintro e w' ⟨rfl, rfl⟩)
  go_ret
  exact ⟨rfl, rfl⟩
end Go.Proofs.YtmmahkckemclaaaGreatDoor
