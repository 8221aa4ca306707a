/- The arguments opened: a Config by value, a row of events. No condition. -/
import Derived.Test.YtmmahkckemclaaaDoorLaw
import Derived.ProofKit
import Derived.Deep.Slices
import Derived.Deep.Fields
namespace Go.Proofs.YtmmahkckemclaaaDoor
open Go.RowKit Go.ChangeShapes Go.WideShapes Go.Deep
set_option maxRecDepth 100000

section
variable {H : Type} {enc : TypeId × Value → H} {w : World}
theorem int_cell {n : Nat} {c : Value} {y : DataW H × List MemPlace} (h : DataW.trod enc Tryd.prog w 0 (fun _ => true) true n 3 [c] = some y) : ∃ k : Int, c = .int .i64 k := by
  obtain ⟨k, hk, _, _⟩ := DataW.trod_int Tryd.underlying3 h
  simp only [List.cons.injEq, and_true] at hk
  exact ⟨k, hk⟩
theorem string_cell {n : Nat} {c : Value} {y : DataW H × List MemPlace} (h : DataW.trod enc Tryd.prog w 0 (fun _ => true) true n 9 [c] = some y) : ∃ s : ByteArray, c = .string s ∧ s.size ≤ maxLen := by
  obtain ⟨s, hs, _, hz⟩ := DataW.trod_string Tryd.underlying9 h
  simp only [List.cons.injEq, and_true] at hs
  exact ⟨s, hs, hz⟩
theorem cfg_one : ∀ fs : Array Field, Tryd.prog.underlying 23 = some (.struct fs) → oneCellFields Tryd.prog fs = true := by
  intro fs h
  rw [Tryd.underlying23] at h
  obtain rfl := TypeDesc.struct.inj (Option.some.inj h)
  kernel_rfl
theorem ev_one : ∀ fs : Array Field, Tryd.prog.underlying 49 = some (.struct fs) → oneCellFields Tryd.prog fs = true := by
  intro fs h
  rw [Tryd.underlying49] at h
  obtain rfl := TypeDesc.struct.inj (Option.some.inj h)
  kernel_rfl
theorem open_cfg {r : Reach} {b0 : Nat} {v : Value} {d : DataW H} {p : List MemPlace} (hv : Value.okWide Tryd.prog w r b0 23 v) (h : DataW.Trod enc Tryd.prog w 0 (fun _ => true) true 23 v d p) :
    ∃ c : Cfg, v = .agg #[.int .i64 c.c0, .int .i64 c.c1, .int .i64 c.c2, .int .i64 c.c3, .int .i64 c.c4, .int .i64 c.c5, .int .i64 c.c6, .int .i64 c.c7, .int .i64 c.c8, .int .i64 c.c9, .int .i64 c.c10, .int .i64 c.c11, .int .i64 c.c12] := by
  obtain ⟨cs, rfl, hsz⟩ := okWide_struct Tryd.underlying23 hv
  obtain ⟨l⟩ := cs
  match l, hsz.trans (show Tryd.prog.cellsOf 23 = 13 by kernel_rfl) with
  | [v0, v1, v2, v3, v4, v5, v6, v7, v8, v9, v10, v11, v12], _ =>
    obtain ⟨fuel, hf⟩ := h
    obtain ⟨xs, n, _, hx, _, hlen, hg⟩ := DataW.trod_struct Tryd.underlying23 hf
    have hone := cfg_one _ Tryd.underlying23
    match xs, hlen with
    | [y0, y1, y2, y3, y4, y5, y6, y7, y8, y9, y10, y11, y12], _ =>
      obtain ⟨o0, k0⟩ := hone_of hone 0 _ rfl
      have g0 := hg 0 _ rfl
      rw [o0, k0] at g0
      obtain ⟨n0, rfl⟩ := int_cell (c := v0) g0
      obtain ⟨o1, k1⟩ := hone_of hone 1 _ rfl
      have g1 := hg 1 _ rfl
      rw [o1, k1] at g1
      obtain ⟨n1, rfl⟩ := int_cell (c := v1) g1
      obtain ⟨o2, k2⟩ := hone_of hone 2 _ rfl
      have g2 := hg 2 _ rfl
      rw [o2, k2] at g2
      obtain ⟨n2, rfl⟩ := int_cell (c := v2) g2
      obtain ⟨o3, k3⟩ := hone_of hone 3 _ rfl
      have g3 := hg 3 _ rfl
      rw [o3, k3] at g3
      obtain ⟨n3, rfl⟩ := int_cell (c := v3) g3
      obtain ⟨o4, k4⟩ := hone_of hone 4 _ rfl
      have g4 := hg 4 _ rfl
      rw [o4, k4] at g4
      obtain ⟨n4, rfl⟩ := int_cell (c := v4) g4
      obtain ⟨o5, k5⟩ := hone_of hone 5 _ rfl
      have g5 := hg 5 _ rfl
      rw [o5, k5] at g5
      obtain ⟨n5, rfl⟩ := int_cell (c := v5) g5
      obtain ⟨o6, k6⟩ := hone_of hone 6 _ rfl
      have g6 := hg 6 _ rfl
      rw [o6, k6] at g6
      obtain ⟨n6, rfl⟩ := int_cell (c := v6) g6
      obtain ⟨o7, k7⟩ := hone_of hone 7 _ rfl
      have g7 := hg 7 _ rfl
      rw [o7, k7] at g7
      obtain ⟨n7, rfl⟩ := int_cell (c := v7) g7
      obtain ⟨o8, k8⟩ := hone_of hone 8 _ rfl
      have g8 := hg 8 _ rfl
      rw [o8, k8] at g8
      obtain ⟨n8, rfl⟩ := int_cell (c := v8) g8
      obtain ⟨o9, k9⟩ := hone_of hone 9 _ rfl
      have g9 := hg 9 _ rfl
      rw [o9, k9] at g9
      obtain ⟨n9, rfl⟩ := int_cell (c := v9) g9
      obtain ⟨o10, k10⟩ := hone_of hone 10 _ rfl
      have g10 := hg 10 _ rfl
      rw [o10, k10] at g10
      obtain ⟨n10, rfl⟩ := int_cell (c := v10) g10
      obtain ⟨o11, k11⟩ := hone_of hone 11 _ rfl
      have g11 := hg 11 _ rfl
      rw [o11, k11] at g11
      obtain ⟨n11, rfl⟩ := int_cell (c := v11) g11
      obtain ⟨o12, k12⟩ := hone_of hone 12 _ rfl
      have g12 := hg 12 _ rfl
      rw [o12, k12] at g12
      obtain ⟨n12, rfl⟩ := int_cell (c := v12) g12
      exact ⟨⟨n0, n1, n2, n3, n4, n5, n6, n7, n8, n9, n10, n11, n12⟩, rfl⟩

theorem list_of {α : Type} {Q : Nat → α → Prop} : ∀ n : Nat, (∀ i, i < n → ∃ e, Q i e) → ∃ l : List α, l.length = n ∧ ∀ (i : Nat) (h : i < l.length), Q i (l[i]'h)
  | 0, _ => ⟨[], rfl, fun i h => absurd h (by simp)⟩
  | n + 1, h => by
    obtain ⟨l, hl, hq⟩ := list_of n (fun i hi => h i (by omega))
    obtain ⟨e, he⟩ := h n (by omega)
    refine ⟨l ++ [e], by simp [hl], fun i hi => ?_⟩
    by_cases hin : i < l.length
    · rw [List.getElem_append_left hin]; exact hq i hin
    · have : i = n := by simp at hi; omega
      subst this
      rw [List.getElem_append_right (by omega)]
      simpa using he
theorem open_events {r : Reach} {b0 : Nat} {v : Value} {d : DataW H} {p : List MemPlace} (hv : Value.okWide Tryd.prog w r b0 24 v) (h : DataW.Trod enc Tryd.prog w 0 (fun _ => true) true 24 v d p) :
    ∃ (A : Option Addr) (cp : Nat) (l : List Ev), v = .slice A l.length cp ∧ Reads w 4 A l.length (evs l) := by
  obtain ⟨A, len, cap, rfl⟩ := okWide_slice Tryd.underlying24 hv
  obtain ⟨fuel, hf⟩ := h
  have hce : Tryd.prog.cellsOf 49 = 4 := by kernel_rfl
  rcases open_slice Tryd.underlying24 hf with ⟨h0, _⟩ | ⟨a, len', cap', m, n, D, Pl, hcs, hb, hl, hm, hmm, hx, hi⟩
  · have h1 := (List.cons.inj (h0 : [_] = [_])).1
    cases h1
    exact ⟨none, 0, [], rfl, Reads.none_⟩
  · have h1 := (List.cons.inj (hcs : [_] = [_])).1
    cases h1
    simp only [if_true] at hmm
    subst hmm
    have hone := ev_one _ Tryd.underlying49
    have key : ∀ i, i < len → ∃ e : Ev, w.cell? (a.add (i * 4)) = some (.int .i64 e.kind) ∧ w.cell? (a.add (i * 4 + 1)) = some (.int .i64 e.conn) ∧ w.cell? (a.add (i * 4 + 2)) = some (.string e.bytes) ∧ w.cell? (a.add (i * 4 + 3)) = some (.int .i64 e.n) := by
      intro i hin
      obtain ⟨cs', hc, ht'⟩ := hi i (by omega)
      rw [hce] at hc
      obtain ⟨ys, n', hn', hy, hlen, hyl, hg⟩ := DataW.trod_struct Tryd.underlying49 ht'
      obtain ⟨_, hcl, hat⟩ := World.cells?_some hc
      match cs', hcl with
      | [v0, v1, v2, v3], _ =>
        match ys, hyl with
        | [y0, y1, y2, y3], _ =>
          obtain ⟨o0, k0⟩ := hone_of hone 0 _ rfl
          obtain ⟨o1, k1⟩ := hone_of hone 1 _ rfl
          obtain ⟨o2, k2⟩ := hone_of hone 2 _ rfl
          obtain ⟨o3, k3⟩ := hone_of hone 3 _ rfl
          have g0 := hg 0 _ rfl
          have g1 := hg 1 _ rfl
          have g2 := hg 2 _ rfl
          have g3 := hg 3 _ rfl
          rw [o0, k0] at g0
          rw [o1, k1] at g1
          rw [o2, k2] at g2
          rw [o3, k3] at g3
          obtain ⟨n0, rfl⟩ := int_cell (c := v0) g0
          obtain ⟨n1, rfl⟩ := int_cell (c := v1) g1
          obtain ⟨s2, rfl, _⟩ := string_cell (c := v2) g2
          obtain ⟨n3, rfl⟩ := int_cell (c := v3) g3
          refine ⟨⟨n0, n1, s2, n3⟩, ?_, ?_, ?_, ?_⟩
          · have := hat 0 (by omega); rw [Addr.add_add] at this; exact this
          · have := hat 1 (by omega); rw [Addr.add_add] at this; exact this
          · have := hat 2 (by omega); rw [Addr.add_add] at this; exact this
          · have := hat 3 (by omega); rw [Addr.add_add] at this; exact this
    obtain ⟨l, hll, hq⟩ := list_of len key
    subst hll
    refine ⟨some a, _, l, rfl, evs_length l, ?_, ?_⟩
    · have : maxLen = 9223372036854775807 := rfl
      omega
    · intro hp
      refine ⟨a, rfl, ?_, ?_⟩
      · have := World.block_lt_of_cell? _ _ (hq 0 hp).1
        exact this
      · intro j u hj
        have hjl : j < l.length * 4 := by
          rw [← evs_length]; exact (List.getElem?_eq_some_iff.1 hj).1
        have hjk : j / 4 < l.length := by omega
        have hj4 : j = j / 4 * 4 + j % 4 := by omega
        have hm4 : j % 4 < 4 := by omega
        have he := evs_get l (j / 4) (j % 4) hjk hm4
        rw [← hj4, hj] at he
        have hc := hq (j / 4) hjk
        generalize j % 4 = r at *
        generalize j / 4 = k at *
        subst hj4
        match r, hm4, he with
        | 0, _, he => rw [he.trans rfl]; exact hc.1
        | 1, _, he => rw [he.trans rfl]; exact hc.2.1
        | 2, _, he => rw [he.trans rfl]; exact hc.2.2.1
        | 3, _, he => rw [he.trans rfl]; exact hc.2.2.2
end
end Go.Proofs.YtmmahkckemclaaaDoor
