/- Properties: Clone, DeleteFunc, Without. Conditions: fewer than 2^41 properties. -/
import Derived.Test.YtmmahkckemclaaaGreatDoorPropC
import Derived.Lib.SliceRun
namespace Go.Proofs.YtmmahkckemclaaaGreatDoor
open Go.RowKit

set_option maxRecDepth 100000 in
set_option maxHeartbeats 4000000 in
theorem pclone_any (A : Option Addr) (l : List Pr) (n c : Nat) (hn : l.length = n) (hz : n * 48 ≤ 140737488355328) (w : World) (hr : PrRow w A l) :
    Calls Tryz.prog 64 #[.slice A n c] w fun e w' => (∃ v, e = .returned v ∧ PrOwn w' w.heap.size v l) ∧ Upd Non w w' := by
  have q22 : ∀ (w : World) (a : Option Addr) (n c n' c' : Nat), (binOp .eql 22 (.slice a n c) (.slice none n' c')).run Tryz.prog w = .ok (.bool a.isNone) w := fun w a n c n' c' => Lib.run_eql_slice_nil w _ _ a n c n' c' Tryz.underlying22
  cases A with
  | none =>
    have h0 : n = 0 := by
      rcases Nat.eq_zero_or_pos n with h | h
      · exact h
      · obtain ⟨ad, h1, _⟩ := hr.2.2 (by omega)
        cases h1
    obtain rfl : l = [] := List.eq_nil_of_length_eq_zero (by omega)
    clear hr hn
    go_enter Tryz.func64, Tryz.ntmps64
    go_wp2
    go_ret
    exact ⟨⟨_, rfl, own_nil _ _ _ _⟩, Upd.refl _ _⟩
  | some ad =>
    obtain ⟨i0, hi, hzz⟩ := Option.map_eq_some_iff.1 pr_info
    simp only [Prod.mk.injEq] at hzz
    obtain ⟨hz0, hz1, hz2⟩ := hzz
    have hl : (prs l).length = n * 4 := by rw [prs_length, hn]
    have hc : ∀ (j : Nat) (u : Value), (prs l)[j]? = some u → w.cell? (ad.add j) = some u := fun j u hj => by
      have hlt : 0 < l.length := by
        rcases Nat.eq_zero_or_pos l.length with h | h
        · have : prs l = [] := List.eq_nil_of_length_eq_zero (by rw [prs_length]; omega)
          rw [this] at hj; cases hj
        · exact h
      obtain ⟨ad', h1, _, h2⟩ := hr.2.2 hlt
      cases h1
      exact h2 j u hj
    have h1 : ∀ u, u ∈ prs l → u.oneCell' = true := by
      intro u hu
      simp only [prs, List.mem_flatMap, Pr.cells] at hu
      obtain ⟨p, _, hp⟩ := hu
      simp at hp
      rcases hp with rfl | rfl | rfl | rfl <;> rfl
    have HC := Lib.hid hc
    have H1 := Lib.hid h1
    have HL := Lib.hid hl
    clear hr hc h1 hl
    go_enter Tryz.func64, Tryz.ntmps64
    go_wp2_with (at_builtin; refine wpList_append_own _ rfl _ _ 22 rfl w.heap.size 26 i0 _ 4 48 Tryz.underlying22 hi hz0 hz1 hz2 rfl (by decide) _ _ _ rfl (World.ownsRow_made w #[] 0 (Nat.le_refl _) (Nat.zero_le _) (by simp)) ad n c (prs l) rfl ?qc1 ?qc2 ?qc3 ?qc4 ?qc5 ?qc6 ?_)
    case qc1 => exact HL.out
    case qc2 =>
      intro j u hj
      exact Lib.cell?_alloc_some _ (HC.out j u hj)
    case qc3 => exact H1.out
    case qc4 => rw [Nat.zero_add]; simp only [maxLen]; omega
    case qc5 => rw [Nat.zero_add]; exact hz
    case qc6 => simp
    intro v' w1 hown hgrow _
    go_wp2
    go_ret
    refine ⟨⟨v', rfl, ?_⟩, ?_⟩
    · show World.ownsRow _ _ _ _ _ _ _
      rw [hn]
      simpa using hown
    · exact ((Upd.refl Non w).alloc _).grown hgrow (by intro k hk h; simp [Value.ownBlock] at h; omega)

/-! ### A row at the head of a block -/
def RowB (w : World) (g : Nat) (L : List Pr) : Prop := ∃ cur : Array Value, Blk w g 26 cur ∧ L.length * 4 ≤ cur.size ∧ ∀ j, j < L.length * 4 → cur[j]? = (prs L)[j]?
theorem RowB.row {w : World} {g : Nat} {L : List Pr} (h : RowB w g L) (hm : L.length ≤ 9223372036854775807) : PrRow w (some ⟨g, 0, none⟩) L := by
  obtain ⟨cur, hb, hs, hc⟩ := h
  refine ⟨prs_length L, hm, fun _ => ⟨_, rfl, hb.lt, fun j u hj => ?_⟩⟩
  have hjl : j < L.length * 4 := by rw [← prs_length]; exact (List.getElem?_eq_some_iff.1 hj).1
  have ha : (⟨g, 0, none⟩ : Addr).add j = ⟨g, j, none⟩ := by unfold Addr.add; split <;> simp_all
  rw [ha, hb.cell j, hc j hjl, hj]
theorem RowB.upd {S : Nat → Prop} {w w' : World} {g : Nat} {L : List Pr} (h : RowB w g L) (hu : Upd S w w') (hn : ¬ S g) : RowB w' g L := by
  obtain ⟨cur, hb, r⟩ := h
  exact ⟨cur, hb.upd hu hn, r⟩
theorem RowB.lt {w : World} {g : Nat} {L : List Pr} (h : RowB w g L) : g < w.heap.size := by obtain ⟨_, hb, _⟩ := h; exact hb.lt
theorem RowB.frozen {w : World} {g : Nat} {L : List Pr} (h : RowB w g L) (i : Nat) : w.frozen? ⟨g, i, none⟩ = false := by obtain ⟨_, hb, _⟩ := h; exact hb.frozen i
theorem RowB.set4 {w : World} {g : Nat} {L : List Pr} (h : RowB w g L) (i : Nat) (hi : i < L.length) (y : Pr) :
    RowB ((((w.setCell ⟨g, i * 4, none⟩ (.int .i64 y.id)).setCell ⟨g, i * 4 + 1, none⟩ (.int .i64 y.n)).setCell ⟨g, i * 4 + 2, none⟩ (.string y.s)).setCell ⟨g, i * 4 + 3, none⟩ (.string y.v)) g (L.set i y) := by
  obtain ⟨cur, hb, hs, hc⟩ := h
  refine ⟨_, (((hb.set_ _ _).set_ _ _).set_ _ _).set_ _ _, by simp only [Array.size_setIfInBounds, List.length_set]; exact hs, fun j hj => ?_⟩
  rw [List.length_set] at hj
  have hk : j / 4 < L.length := by omega
  have hjk : j = j / 4 * 4 + j % 4 := by omega
  have hr : j % 4 < 4 := by omega
  have hg := prs_get (L.set i y) (j / 4) (j % 4) (by rw [List.length_set]; exact hk) hr
  have hg0 := prs_get L (j / 4) (j % 4) hk hr
  have hcj := hc j hj
  rw [← hjk] at hg hg0
  rw [hg]
  generalize j / 4 = k at *
  generalize j % 4 = r at *
  subst hjk
  by_cases hki : i = k
  · subst hki
    rw [List.getElem_set_self]
    have h0 : i * 4 < cur.size := by omega
    have h1 : i * 4 + 1 < cur.size := by omega
    have h2 : i * 4 + 2 < cur.size := by omega
    have h3 : i * 4 + 3 < cur.size := by omega
    rcases r with _ | _ | _ | _ | r
    · simp [Pr.cells, h0]
    · simp [Pr.cells, h1]
    · simp [Pr.cells, h2]
    · simp [Pr.cells, h3]
    · omega
  · rw [List.getElem_set_ne hki, ← hg0, ← hcj]
    rw [Array.getElem?_setIfInBounds_ne (by omega), Array.getElem?_setIfInBounds_ne (by omega), Array.getElem?_setIfInBounds_ne (by omega), Array.getElem?_setIfInBounds_ne (by omega)]
theorem Blk.setCells {g : Nat} {t : TypeId} : ∀ (vs : List Value) (o : Nat) {w : World} {cur : Array Value}, Blk w g t cur → ∃ cur', Blk (w.setCells g o vs) g t cur' ∧ cur'.size = cur.size ∧ (∀ j, j < o → cur'[j]? = cur[j]?) ∧ Upd (fun i => i = g) w (w.setCells g o vs)
  | [], o, w, cur, h => ⟨cur, h, rfl, fun _ _ => rfl, Upd.refl _ _⟩
  | v :: r, o, w, cur, h => by
    obtain ⟨cur', h1, h2, h3, h4⟩ := Blk.setCells r (o + 1) (h.set_ o v)
    refine ⟨cur', h1, by rw [h2]; simp, fun j hj => ?_, ?_⟩
    · rw [h3 j (by omega), Array.getElem?_setIfInBounds_ne (by omega)]
    · exact Upd.then (Upd.setCell (S := fun i => i = g) (Upd.refl _ _) v (fun _ => rfl)) h4
theorem RowB.clear {w : World} {g : Nat} {L : List Pr} (h : RowB w g L) (i : Nat) (hi : i ≤ L.length) (vs : List Value) : RowB (w.setCells g (i * 4) vs) g (L.take i) ∧ Upd (fun j => j = g) w (w.setCells g (i * 4) vs) := by
  obtain ⟨cur, hb, hs, hc⟩ := h
  obtain ⟨cur', h1, h2, h3, h4⟩ := Blk.setCells vs (i * 4) hb
  have hl : (L.take i).length = i := by rw [List.length_take]; omega
  refine ⟨⟨cur', h1, by rw [h2, hl]; omega, fun j hj => ?_⟩, h4⟩
  rw [hl] at hj
  rw [h3 j hj, hc j (by omega)]
  have hk : j / 4 < i := by omega
  have hjk : j = j / 4 * 4 + j % 4 := by omega
  have ha := prs_get L (j / 4) (j % 4) (by omega) (by omega)
  have hb := prs_get (L.take i) (j / 4) (j % 4) (by rw [hl]; exact hk) (by omega)
  rw [← hjk] at ha hb
  rw [ha, hb, List.getElem_take]
theorem PrOwn.rowB {w : World} {base : Nat} {A : Option Addr} {n c : Nat} {l : List Pr} (h : PrOwn w base (.slice A n c) l) (hl : l ≠ []) : ∃ g, A = some ⟨g, 0, none⟩ ∧ base ≤ g ∧ RowB w g l := by
  have hlen := prs_length l
  rcases h.2 with ⟨_, h1⟩ | ⟨g, cap, cur, h0, hb, hh, h1, h2, h3, h4⟩
  · exact absurd (List.eq_nil_of_length_eq_zero (by omega)) hl
  · injection h0 with hA
    refine ⟨g, hA, hb, cur, hh, by omega, fun j hj => ?_⟩
    rw [← h4, List.getElem?_take, if_pos hj, Array.getElem?_toList]

/-! ### DeleteFunc -/
/-- A function value that tells, whatever is written to a block. -/
def TellsB (f : Nat) (lb : Array Value) (p : Pr → Bool) (g : Nat) (w : World) : Prop :=
  ∀ (W : World) (x : Pr), Upd (fun i => i = g) w W → Calls Tryz.prog f (#[x.val] ++ lb) W fun e w' => e = .returned (.bool (p x)) ∧ Upd Non W w'
theorem run_clear4 (w : World) (b i n c : Nat) (cur : Array Value) (hb : Blk w b 26 cur) (hs : (i + n) * 4 ≤ cur.size) (hn : 0 < n) :
    ∃ vs, ∀ ty, (Builtin.clear_ #[22] ty #[.slice (some ⟨b, i * 4, none⟩) n c]).run Tryz.prog w = .ok (.tuple #[]) (w.setCells b (i * 4) vs) := by
  have hv : ∀ w, (zeroValue 26).run Tryz.prog w = .ok (.agg pZero) w := by intro w; kernel_rfl
  have hzc : ((Value.agg pZero).cells) = pZero := rfl
  refine ⟨(Builtin.zeroCells pZero n).toList, fun ty => ?_⟩
  have hsz : (Builtin.zeroCells pZero n).toList.length = n * 4 := by simp [Builtin.zeroCells, pZero]
  have hst := run_storeCells_cells (P := Tryz.prog) b (i * 4) (Builtin.zeroCells pZero n).toList 0 w
    (by intro j hj; rw [hsz] at hj; rw [show i * 4 + 0 + j = i * 4 + j by omega, hb.cell, Array.getElem?_eq_getElem (by omega)]; rfl) (by intro j _; exact hb.frozen _)
    (by
      intro v hv'
      simp only [Builtin.zeroCells, Array.toList_map, List.mem_map] at hv'
      obtain ⟨k, _, rfl⟩ := hv'
      have : k % pZero.size < 4 := Nat.mod_lt _ (by decide)
      generalize k % pZero.size = r at *
      rcases r with _ | _ | _ | _ | r
      · rfl
      · rfl
      · rfl
      · rfl
      · omega)
  simp only [Nat.add_zero] at hst
  obtain ⟨m, rfl⟩ : ∃ m, n = m + 1 := ⟨n - 1, by omega⟩
  simp [Builtin.clear_, run_underlying Tryz.underlying22, hv, hzc, hst]
end Go.Proofs.YtmmahkckemclaaaGreatDoor
