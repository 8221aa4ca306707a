/- Properties: Get, Number, Same, Few, Without in the document. Conditions: fewer than 2^47 bytes. -/
import Derived.Test.YtmmahkckemclaaaGreatDoorPropA
namespace Go.Proofs.YtmmahkckemclaaaGreatDoor
open Go.RowKit

/-- The first property of an identifier. -/
def pGet (l : List Pr) (id : Int) : Pr × Bool := match l.find? (fun p => p.id == id) with | some p => (p, true) | none => (prZero, false)
def pNumber (l : List Pr) (id other : Int) : Int := if (pGet l id).2 then (pGet l id).1.n else other
def GetPost (w : World) (r : Pr × Bool) (e : Ending) (w' : World) : Prop := e = .returned (.tuple #[.agg #[.int .i64 r.1.id, .int .i64 r.1.n, .string r.1.s, .string r.1.v], .bool r.2]) ∧ Upd Non w w'
theorem find_of_idx (p : Pr → Bool) (l : List Pr) (k : Nat) (h : l.findIdx? p = some k) : ∃ hk : k < l.length, l.find? p = some (l[k]'hk) := by
  rw [List.findIdx?_eq_some_iff_getElem] at h
  obtain ⟨hk, h1, h2⟩ := h
  refine ⟨hk, ?_⟩
  rw [List.find?_eq_some_iff_getElem]
  exact ⟨h1, k, hk, rfl, fun j hj => by simpa using h2 j hj⟩
theorem find_of_none (p : Pr → Bool) (l : List Pr) (h : l.findIdx? p = none) : l.find? p = none := by
  rw [List.findIdx?_eq_none_iff] at h
  rw [List.find?_eq_none]
  intro x hx
  rw [h x hx]; simp

set_option maxRecDepth 100000 in
set_option maxHeartbeats 4000000 in
theorem pget_any (A : Option Addr) (l : List Pr) (n c : Nat) (hn : l.length = n) (id : Int) (w : World) (hr : PrRow w A l) :
    Calls Tryz.prog 13 #[.slice A n c, .int .i64 id] w (GetPost w (pGet l id)) := by
  have hbk : ∀ W, Upd Non ((w.alloc (.cells #[.int .i64 id] 3)).alloc (.cells pZero 26)) W → Blk W w.heap.size 3 #[.int .i64 id] := fun W hW => ((Blk.new w 3 #[.int .i64 id]).alloc _).upd hW (fun h => h)
  have hU0 : Upd Non w ((w.alloc (.cells #[.int .i64 id] 3)).alloc (.cells pZero 26)) := ((Upd.refl _ _).alloc _).alloc _
  have HC : Hid (∀ W, Upd Non ((w.alloc (.cells #[.int .i64 id] 3)).alloc (.cells pZero 26)) W → Calls Tryz.prog 59 #[.slice A n c, .func (.func 60) #[] #[.pointer (some ⟨w.heap.size, 0, none⟩)]] W fun e w' => e = .returned (.int .i64 (pIdx (fun p => p.id == id) l)) ∧ Upd Non W w') := Lib.hid (fun W hW => by
    have hb := hbk W hW
    exact pidxf_any 60 w.heap.size (fun p => p.id == id) (by intro args w; exact enters_of Tryz.func60 (by kernel_rfl) rfl args w) A l n c hn W (hr.updNon (hU0.then hW)) (tells_get w.heap.size id W (hb.cell 0) hb.lt))
  have hmf : ∀ (fn : Fn) (first cap : Array Value) (w : World), (Instr.makeFunc fn first cap).run Tryz.prog w = .ok (.func fn first cap) w := fun _ _ _ _ => rfl
  have HB2 := Lib.hid (Blk.new_at (g := w.heap.size + 1) (w.alloc (.cells #[.int .i64 id] 3)) 26 pZero (by simp))
  have HU0 := Lib.hid hU0
  have hm := hr.2.1
  rw [hn] at hm
  have HR := Lib.hid hr
  have HN := Lib.hid hn
  unfold GetPost pGet
  cases hi : l.findIdx? (fun p => p.id == id) with
  | none =>
    have e1 : pIdx (fun p => p.id == id) l = -1 := by unfold pIdx; rw [hi]
    rw [e1] at HC
    rw [find_of_none _ _ hi]
    clear hbk hU0 hr hn hi e1
    go_enter Tryz.func13, Tryz.ntmps13
    go_wp2_with (go_at_call 59
                 refine (HC.out _ (Upd.refl _ _)).mono ?_
                 rintro e w1 ⟨rfl, hu⟩
                 have hb := HB2.out.upd hu (fun h => h)
                 obtain ⟨z0, z1, z2, z3⟩ := Blk.cells4 hb
                 have zf := hb.frozen
                 have HU1 := Lib.hid (HU0.out.then hu)
                 clear hu hb)
    refine bodyPost_ret (v := .tuple #[.agg pZero, .bool false]) (by simp [results, Tryz.results13, go_sem, pZero, *]) rfl ⟨rfl, ?_⟩
    refine Upd.mono (S := fun i => i = w.heap.size + 1) ?_ (fun i hi e => by omega)
    exact Upd.set4 (S := fun i => i = w.heap.size + 1) HU1.out.of_non rfl _ _ _ _
  | some k =>
    obtain ⟨hk, hf⟩ := find_of_idx _ _ k hi
    have e1 : pIdx (fun p => p.id == id) l = k := by unfold pIdx; rw [hi]
    rw [e1] at HC
    rw [hf]
    obtain ⟨y, hy⟩ : ∃ y, l[k]'hk = y := ⟨_, rfl⟩
    rw [hy]
    have hkn : k < n := by omega
    have HPA : Hid (∀ W, Upd Non w W → ∃ ad, A = some ad ∧ ad.block < W.heap.size ∧ W.cell? (ad.add (k * 4)) = some (.int .i64 y.id) ∧ W.cell? ⟨(ad.add (k * 4)).block, (ad.add (k * 4)).off + 1, none⟩ = some (.int .i64 y.n) ∧ W.cell? ⟨(ad.add (k * 4)).block, (ad.add (k * 4)).off + 2, none⟩ = some (.string y.s) ∧ W.cell? ⟨(ad.add (k * 4)).block, (ad.add (k * 4)).off + 3, none⟩ = some (.string y.v)) := Lib.hid (fun W hW => prs_at (hr.updNon hW) k hk y hy)
    obtain ⟨ad, hA, _⟩ := prs_at hr k hk y hy
    subst hA
    obtain ⟨i1, n1, s1, v1⟩ := y
    clear hbk hU0 hr hn hi e1 hf hy HR HN
    go_enter Tryz.func13, Tryz.ntmps13
    go_wp2_with (go_at_call 59
                 refine (HC.out _ (Upd.refl _ _)).mono ?_
                 rintro e w1 ⟨rfl, hu⟩
                 have hb := HB2.out.upd hu (fun h => h)
                 obtain ⟨z0, z1, z2, z3⟩ := Blk.cells4 hb
                 have zf := hb.frozen
                 have HU1 := Lib.hid (HU0.out.then hu)
                 obtain ⟨ad', hA', hbl, x0, x1, x2, x3⟩ := HPA.out w1 HU1.out
                 cases hA'
                 clear hu hb)
    refine bodyPost_ret (v := .tuple #[.agg #[.int .i64 i1, .int .i64 n1, .string s1, .string v1], .bool true]) (by simp [results, Tryz.results13, go_sem, *]) rfl ⟨rfl, ?_⟩
    refine Upd.mono (S := fun i => i = w.heap.size + 1) ?_ (fun i hi e => by omega)
    exact Upd.set4 (S := fun i => i = w.heap.size + 1) HU1.out.of_non rfl _ _ _ _

set_option maxRecDepth 100000 in
set_option maxHeartbeats 4000000 in
theorem rget_any (A : Option Addr) (l : List Pr) (n c : Nat) (hn : l.length = n) (id : Int) (w : World) (hr : PrRow w A l) :
    Calls Tryz.prog 14 #[.slice A n c, .int .i64 id] w (GetPost w (pGet l id)) := by
  have hm := hr.2.1
  rw [hn] at hm
  have hU0 : Upd Non w (w.alloc (.cells #[.int .i64 0, .int .i64 0, .string ⟨#[]⟩, .string ⟨#[]⟩] 26)) := (Upd.refl _ _).alloc _
  have HB2 := Lib.hid (Blk.new w 26 #[.int .i64 0, .int .i64 0, .string ⟨#[]⟩, .string ⟨#[]⟩])
  have HR := Lib.hid hr
  have HN := Lib.hid hn
  have HU0 := Lib.hid hU0
  obtain ⟨q, hq⟩ : ∃ q, pGet l id = q := ⟨_, rfl⟩
  have HQ := Lib.hid hq
  rw [hq]
  obtain ⟨⟨i1, n1, s1, v1⟩, b⟩ := q
  unfold GetPost
  clear hr hn hU0 hq
  go_enter Tryz.func14, Tryz.ntmps14
  go_wp2_with fail
  go_loop [6] (fun i => ∃ k : Nat, k ≤ n ∧ i = .int .i64 k ∧ Hid (∀ (j : Nat) (hj : j < l.length), j < k → ((l[j]'hj).id == id) = false)) (fun i => n - (intOf i).toNat)
  case atStart => exact ⟨0, by omega, rfl, Lib.hid (fun j _ hj => absurd hj (by omega))⟩
  case round =>
    obtain ⟨k, hk, rfl, hall⟩ := hrel
    obtain ⟨z0, z1, z2, z3⟩ := Blk.cells4 HB2.out
    have zf := HB2.out.frozen
    by_cases hlt : k < n
    · have hkl : k < l.length := by rw [HN.out]; exact hlt
      obtain ⟨y, hy⟩ : ∃ y, l[k]'hkl = y := ⟨_, rfl⟩
      obtain ⟨ad, hA, hb, x0, x1, x2, x3⟩ := prs_at (HR.out.updNon HU0.out) k hkl y hy
      subst hA
      have HY := Lib.hid hy
      clear hy
      obtain ⟨i2, n2, s2, v2⟩ := y
      simp only at x0 x1 x2 x3
      by_cases hxy : i2 = id
      · subst hxy
        have hf : pGet l i2 = (⟨i2, n2, s2, v2⟩, true) := by
          have h1 : l.findIdx? (fun p => p.id == i2) = some k := by
            rw [List.findIdx?_eq_some_iff_getElem]
            refine ⟨hkl, by rw [HY.out]; simp, fun j hj => ?_⟩
            rw [hall.out j (by omega) hj]; simp
          obtain ⟨_, h2⟩ := find_of_idx _ _ k h1
          unfold pGet
          rw [h2, HY.out]
        have h3 := HQ.out
        rw [hf] at h3
        cases h3
        clear hf
        go_wp2_with fail
        refine bodyPost_ret (v := .tuple #[.agg #[.int .i64 i1, .int .i64 n1, .string s1, .string v1], .bool true]) (by simp [results, Tryz.results14, go_sem, *]) rfl ⟨rfl, (Upd.refl _ _).alloc _⟩
      · have hne : (i2 == id) = false := by simpa using hxy
        have HX := Lib.hid hne
        clear hxy z0 z1 z2 z3 zf
        go_wp2_with fail
        go_round
        case measure => simp [intOf]; omega
        case rel =>
          refine ⟨k + 1, by omega, by go_num, Lib.hid (fun j hj h1 => ?_)⟩
          rcases Nat.lt_succ_iff_lt_or_eq.1 h1 with h2 | h2
          · exact hall.out j hj h2
          · subst h2; rw [HY.out]; exact HX.out
    · have hkn : k = n := by omega
      have hf : pGet l id = (prZero, false) := by
        have h1 : l.findIdx? (fun p => p.id == id) = none := by
          rw [List.findIdx?_eq_none_iff]
          intro z hz
          obtain ⟨j, hj, rfl⟩ := List.mem_iff_getElem.1 hz
          exact hall.out j hj (by have := HN.out; omega)
        unfold pGet
        rw [find_of_none _ _ h1]
      have h3 := HQ.out
      rw [hf] at h3
      unfold prZero at h3
      cases h3
      clear hf hkn
      go_wp2_with fail
      refine bodyPost_ret (v := .tuple #[.agg pZero, .bool false]) (by simp [results, Tryz.results14, go_sem, pZero, *]) rfl ⟨rfl, (Upd.refl _ _).alloc _⟩

/-! ### Number -/
set_option maxHeartbeats 2000000 in
theorem pnumber_any (A : Option Addr) (l : List Pr) (n c : Nat) (hn : l.length = n) (id other : Int) (w : World) (hr : PrRow w A l) :
    Calls Tryz.prog 19 #[.slice A n c, .int .i64 id, .int .i64 other] w fun e w' => e = .returned (.int .i64 (pNumber l id other)) ∧ Upd Non w w' := by
  have HC := Lib.hid (pget_any A l n c hn id w hr)
  unfold pNumber
  obtain ⟨q, hq⟩ : ∃ q, pGet l id = q := ⟨_, rfl⟩
  rw [hq] at HC ⊢
  unfold GetPost at HC
  obtain ⟨⟨i1, n1, s1, v1⟩, b⟩ := q
  clear hq hr hn
  cases b with
  | true =>
    rw [if_pos rfl]
    go_enter Tryz.func19, Tryz.ntmps19
    go_wp2_with (go_at_call 13; refine HC.out.mono ?_; rintro e w1 ⟨rfl, hu⟩; have HU := Lib.hid hu; clear hu)
    go_ret
    exact ⟨rfl, HU.out.alloc _⟩
  | false =>
    rw [if_neg (by simp)]
    go_enter Tryz.func19, Tryz.ntmps19
    go_wp2_with (go_at_call 13; refine HC.out.mono ?_; rintro e w1 ⟨rfl, hu⟩; have HU := Lib.hid hu; clear hu)
    go_ret
    exact ⟨rfl, HU.out.alloc _⟩
set_option maxHeartbeats 2000000 in
theorem rnumber_any (A : Option Addr) (l : List Pr) (n c : Nat) (hn : l.length = n) (id other : Int) (w : World) (hr : PrRow w A l) :
    Calls Tryz.prog 20 #[.slice A n c, .int .i64 id, .int .i64 other] w fun e w' => e = .returned (.int .i64 (pNumber l id other)) ∧ Upd Non w w' := by
  have HC := Lib.hid (rget_any A l n c hn id w hr)
  unfold pNumber
  obtain ⟨q, hq⟩ : ∃ q, pGet l id = q := ⟨_, rfl⟩
  rw [hq] at HC ⊢
  unfold GetPost at HC
  obtain ⟨⟨i1, n1, s1, v1⟩, b⟩ := q
  clear hq hr hn
  cases b with
  | true =>
    rw [if_pos rfl]
    go_enter Tryz.func20, Tryz.ntmps20
    go_wp2_with (go_at_call 14; refine HC.out.mono ?_; rintro e w1 ⟨rfl, hu⟩; have HU := Lib.hid hu; clear hu)
    go_ret
    exact ⟨rfl, HU.out.alloc _⟩
  | false =>
    rw [if_neg (by simp)]
    go_enter Tryz.func20, Tryz.ntmps20
    go_wp2_with (go_at_call 14; refine HC.out.mono ?_; rintro e w1 ⟨rfl, hu⟩; have HU := Lib.hid hu; clear hu)
    go_ret
    exact ⟨rfl, HU.out.alloc _⟩

/-! ### Same, of rows that are the same -/
set_option maxRecDepth 100000 in
set_option maxHeartbeats 4000000 in
theorem psame_eq (A A2 : Option Addr) (l : List Pr) (n cp cp2 : Nat) (hn' : l.length = n) (w : World) (hr : PrRow w A l) (hr2 : PrRow w A2 l) :
    Calls Tryz.prog 21 #[.slice A n cp, .slice A2 n cp2] w fun e w' => e = .returned (.bool true) ∧ Upd Non w w' := by
  have hm := hr.2.1
  subst hn'
  have HR := Lib.hid hr
  have HR2 := Lib.hid hr2
  clear hr hr2
  go_enter Tryz.func21, Tryz.ntmps21
  go_wp2_with fail
  go_loopg [5] (l.length + 1) (fun kq v w' => ∃ i : Nat, v = .int .i64 i ∧ i + kq = l.length + 1 ∧ Hid (Upd Non w w'))
  case atStart => exact ⟨0, rfl, by omega, Lib.hid (Upd.refl _ _)⟩
  case round =>
    obtain ⟨i, rfl, hq, hu⟩ := hrel
    by_cases hi : i < l.length
    · obtain ⟨⟨i1, n1, s1, v1⟩, hy⟩ : ∃ y, l[i]'hi = y := ⟨_, rfl⟩
      obtain ⟨ad, hA, hb, x0, x1, x2, x3⟩ := prs_at (HR.out.updNon hu.out) i hi _ hy
      obtain ⟨ad2, hA2, hb2, y0, y1, y2, y3⟩ := prs_at (HR2.out.updNon hu.out) i hi _ hy
      subst hA
      subst hA2
      clear hy
      simp only at x0 x1 x2 x3 y0 y1 y2 y3
      go_wp2_with fail
      go_quiet (fail)
      go_wp2_with fail
      go_roundg (gk - 1)
      case measure => omega
      case rel => exact ⟨i + 1, by go_num, by omega, Lib.hid (hu.out.drewN nq)⟩
    · go_wp2_with fail
      go_ret
      exact ⟨rfl, hu.out⟩

/-! ### Few -/
def pFew (l : List Pr) : Bool := decide (l.length ≤ 70) && l.all (fun p => decide (p.s.size ≤ 200) && decide (p.v.size ≤ 200))
theorem pFew_bad (l : List Pr) (k : Nat) (hk : k < l.length) (y : Pr) (hy : l[k]'hk = y) (h : 200 < y.s.size ∨ 200 < y.v.size) : pFew l = false := by
  unfold pFew
  have : l.all (fun p => decide (p.s.size ≤ 200) && decide (p.v.size ≤ 200)) = false := by
    rw [List.all_eq_false]
    refine ⟨y, by rw [← hy]; exact List.getElem_mem hk, ?_⟩
    simp
    omega
  rw [this, Bool.and_false]
set_option maxRecDepth 100000 in
set_option maxHeartbeats 4000000 in
theorem pfew_any (A : Option Addr) (l : List Pr) (n c : Nat) (hn : l.length = n) (w : World) (hr : PrRow w A l) :
    Calls Tryz.prog 11 #[.slice A n c] w fun e w' => e = .returned (.bool (pFew l)) ∧ w = w' := by
  have hm := hr.2.1
  rw [hn] at hm
  have HR := Lib.hid hr
  have HN := Lib.hid hn
  obtain ⟨b, hb⟩ : ∃ b, pFew l = b := ⟨_, rfl⟩
  rw [hb]
  have HB := Lib.hid hb
  clear hr hn hb
  go_enter Tryz.func11, Tryz.ntmps11
  go_wp2_with fail
  go_loop [3] (fun i => ∃ k : Nat, k ≤ n ∧ k ≤ 70 ∧ i = .int .i64 k ∧ Hid (∀ (j : Nat) (hj : j < l.length), j < k → (l[j]'hj).s.size ≤ 200 ∧ (l[j]'hj).v.size ≤ 200)) (fun i => n - (intOf i).toNat)
  case atStart => exact ⟨0, by omega, by omega, rfl, Lib.hid (fun j _ hj => absurd hj (by omega))⟩
  case round =>
    obtain ⟨k, hk, hk70, rfl, hall⟩ := hrel
    by_cases hlt : k < n
    · by_cases hlt2 : k < 70
      · have hkl : k < l.length := by rw [HN.out]; exact hlt
        obtain ⟨y, hy⟩ : ∃ y, l[k]'hkl = y := ⟨_, rfl⟩
        obtain ⟨ad, hA, hb, x0, x1, x2, x3⟩ := prs_at HR.out k hkl y hy
        subst hA
        obtain ⟨i2, n2, s2, v2⟩ := y
        simp only at x0 x1 x2 x3
        by_cases h1 : 200 < s2.size
        · have hbad := pFew_bad l k hkl _ hy (Or.inl h1)
          have h2 := HB.out
          rw [hbad] at h2
          subst h2
          clear hbad hy HB
          go_wp2_with fail
          go_ret
          exact ⟨rfl, rfl⟩
        · have h1' : s2.size ≤ 200 := by omega
          clear h1
          by_cases h3 : 200 < v2.size
          · have hbad := pFew_bad l k hkl _ hy (Or.inr h3)
            have h2 := HB.out
            rw [hbad] at h2
            subst h2
            clear hbad hy HB
            go_wp2_with fail
            go_ret
            exact ⟨rfl, rfl⟩
          · have h3' : v2.size ≤ 200 := by omega
            clear h3
            have HY := Lib.hid hy
            clear hy
            go_wp2_with fail
            go_round
            case measure => simp [intOf]; omega
            case rel =>
              refine ⟨k + 1, by omega, by omega, by go_num, Lib.hid (fun j hj h1 => ?_)⟩
              rcases Nat.lt_succ_iff_lt_or_eq.1 h1 with h2 | h2
              · exact hall.out j hj h2
              · subst h2
                rw [HY.out]
                exact ⟨h1', h3'⟩
      · have h70 : k = 70 := by omega
        have HL := Lib.hid hlt
        have hbad : pFew l = false := by
          unfold pFew
          have : decide (l.length ≤ 70) = false := by simp; have := HN.out; omega
          rw [this, Bool.false_and]
        have h2 := HB.out
        rw [hbad] at h2
        subst h2
        subst h70
        clear hbad HB
        go_wp2_with fail
        go_ret
        exact ⟨by simp; omega, rfl⟩
    · have hkn : k = n := by omega
      have hgood : pFew l = true := by
        unfold pFew
        rw [Bool.and_eq_true]
        refine ⟨by simp; have := HN.out; omega, ?_⟩
        rw [List.all_eq_true]
        intro p hp
        obtain ⟨j, hj, rfl⟩ := List.mem_iff_getElem.1 hp
        have := hall.out j hj (by have := HN.out; omega)
        simp; exact this
      have h2 := HB.out
      rw [hgood] at h2
      subst h2
      clear hgood HB hkn
      go_wp2_with fail
      go_ret
      exact ⟨by simp; omega, rfl⟩
end Go.Proofs.YtmmahkckemclaaaGreatDoor
