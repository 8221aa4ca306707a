/- The arguments opened: a row of properties. No condition. -/
import Derived.Test.YtmmahkckemclaaaGreatDoorGlobY
import Derived.ProofKit
import Derived.Deep.Slices
import Derived.Deep.Fields
namespace Go.Proofs.YtmmahkckemclaaaGreatDoor
open Go.RowKit Go.ChangeShapes Go.WideShapes Go.Deep
set_option maxRecDepth 100000

section
variable {H : Type} {enc : TypeId × Value → H} {w : World}
theorem int_cell {n : Nat} {c : Value} {y : DataW H × List MemPlace} (h : DataW.trod enc Tryz.prog w 0 (fun _ => true) true n 3 [c] = some y) : ∃ k : Int, c = .int .i64 k := by
  obtain ⟨k, hk, _, _⟩ := DataW.trod_int Tryz.underlying3 h
  simp only [List.cons.injEq, and_true] at hk
  exact ⟨k, hk⟩
theorem string_cell {n : Nat} {c : Value} {y : DataW H × List MemPlace} (h : DataW.trod enc Tryz.prog w 0 (fun _ => true) true n 9 [c] = some y) : ∃ s : ByteArray, c = .string s ∧ s.size ≤ maxLen := by
  obtain ⟨s, hs, _, hz⟩ := DataW.trod_string Tryz.underlying9 h
  simp only [List.cons.injEq, and_true] at hs
  exact ⟨s, hs, hz⟩
theorem pr_one : ∀ fs : Array Field, Tryz.prog.underlying 26 = some (.struct fs) → oneCellFields Tryz.prog fs = true := by
  intro fs h
  rw [Tryz.underlying26] at h
  obtain rfl := TypeDesc.struct.inj (Option.some.inj h)
  kernel_rfl
theorem list_of {α : Type} {Q : Nat → α → Prop} : ∀ n : Nat, (∀ i, i < n → ∃ e, Q i e) → ∃ l : List α, l.length = n ∧ ∀ (i : Nat) (h : i < l.length), Q i (l[i]'h)
  | 0, _ => ⟨[], rfl, fun i h => absurd h (by simp)⟩
  | n + 1, h => by
    obtain ⟨l, hl, hq⟩ := list_of n (fun i hi => h i (by omega))
    obtain ⟨e, he⟩ := h n (by omega)
    refine ⟨l ++ [e], by simp [hl], fun i hi => ?_⟩
    by_cases hin : i < l.length
    · rw [List.getElem_append_left hin]; exact hq i hin
    · have : i = n := by simp at hi; omega
      subst this
      rw [List.getElem_append_right (by omega)]
      simpa using he
theorem open_props {r : Reach} {b0 : Nat} {v : Value} {d : DataW H} {p : List MemPlace} (hv : Value.okWide Tryz.prog w r b0 22 v) (h : DataW.Trod enc Tryz.prog w 0 (fun _ => true) true 22 v d p) :
    ∃ (A : Option Addr) (cp : Nat) (l : List Pr), v = .slice A l.length cp ∧ PrRow w A l ∧ l.length ≤ cp := by
  obtain ⟨A, len, cap, rfl⟩ := okWide_slice Tryz.underlying22 hv
  obtain ⟨fuel, hf⟩ := h
  have hce : Tryz.prog.cellsOf 26 = 4 := by kernel_rfl
  rcases open_slice Tryz.underlying22 hf with ⟨h0, _⟩ | ⟨a, len', cap', m, n, D, Pl, hcs, hb, hl, hm, hmm, hx, hi⟩
  · have h1 := (List.cons.inj (h0 : [_] = [_])).1
    cases h1
    exact ⟨none, 0, [], rfl, Reads.none_, Nat.le_refl _⟩
  · have h1 := (List.cons.inj (hcs : [_] = [_])).1
    cases h1
    simp only [if_true] at hmm
    subst hmm
    have hone := pr_one _ Tryz.underlying26
    have key : ∀ i, i < len → ∃ e : Pr, w.cell? (a.add (i * 4)) = some (.int .i64 e.id) ∧ w.cell? (a.add (i * 4 + 1)) = some (.int .i64 e.n) ∧ w.cell? (a.add (i * 4 + 2)) = some (.string e.s) ∧ w.cell? (a.add (i * 4 + 3)) = some (.string e.v) := by
      intro i hin
      obtain ⟨cs', hc, ht'⟩ := hi i (by omega)
      rw [hce] at hc
      obtain ⟨ys, n', hn', hy, hlen, hyl, hg⟩ := DataW.trod_struct Tryz.underlying26 ht'
      obtain ⟨_, hcl, hat⟩ := World.cells?_some hc
      match cs', hcl with
      | [v0, v1, v2, v3], _ =>
        match ys, hyl with
        | [y0, y1, y2, y3], _ =>
          obtain ⟨o0, k0⟩ := hone_of hone 0 _ rfl
          obtain ⟨o1, k1⟩ := hone_of hone 1 _ rfl
          obtain ⟨o2, k2⟩ := hone_of hone 2 _ rfl
          obtain ⟨o3, k3⟩ := hone_of hone 3 _ rfl
          have g0 := hg 0 _ rfl
          have g1 := hg 1 _ rfl
          have g2 := hg 2 _ rfl
          have g3 := hg 3 _ rfl
          rw [o0, k0] at g0
          rw [o1, k1] at g1
          rw [o2, k2] at g2
          rw [o3, k3] at g3
          obtain ⟨n0, rfl⟩ := int_cell (c := v0) g0
          obtain ⟨n1, rfl⟩ := int_cell (c := v1) g1
          obtain ⟨s2, rfl, _⟩ := string_cell (c := v2) g2
          obtain ⟨s3, rfl, _⟩ := string_cell (c := v3) g3
          refine ⟨⟨n0, n1, s2, s3⟩, ?_, ?_, ?_, ?_⟩
          · have := hat 0 (by omega); rw [Addr.add_add] at this; exact this
          · have := hat 1 (by omega); rw [Addr.add_add] at this; exact this
          · have := hat 2 (by omega); rw [Addr.add_add] at this; exact this
          · have := hat 3 (by omega); rw [Addr.add_add] at this; exact this
    obtain ⟨l, hll, hq⟩ := list_of len key
    subst hll
    refine ⟨some a, _, l, rfl, ⟨prs_length l, ?_, ?_⟩, hl⟩
    · have : maxLen = 9223372036854775807 := rfl
      omega
    · intro hp
      refine ⟨a, rfl, ?_, ?_⟩
      · have := World.block_lt_of_cell? _ _ (hq 0 hp).1
        exact this
      · intro j u hj
        have hjl : j < l.length * 4 := by
          rw [← prs_length]; exact (List.getElem?_eq_some_iff.1 hj).1
        have hjk : j / 4 < l.length := by omega
        have hj4 : j = j / 4 * 4 + j % 4 := by omega
        have hm4 : j % 4 < 4 := by omega
        have he := prs_get l (j / 4) (j % 4) hjk hm4
        rw [← hj4, hj] at he
        have hc := hq (j / 4) hjk
        generalize j % 4 = r at *
        generalize j / 4 = k at *
        subst hj4
        match r, hm4, he with
        | 0, _, he => rw [he.trans rfl]; exact hc.1
        | 1, _, he => rw [he.trans rfl]; exact hc.2.1
        | 2, _, he => rw [he.trans rfl]; exact hc.2.2.1
        | 3, _, he => rw [he.trans rfl]; exact hc.2.2.2
end
end Go.Proofs.YtmmahkckemclaaaGreatDoor
