/- Properties, more: rows of them, what a place says against one. Conditions: fewer than 2^47 bytes. -/
import Derived.Test.YtmmahkckemclaaaGreatDoorProp1
import Derived.Shelf.Abstract
namespace Go.Proofs.YtmmahkckemclaaaGreatDoor
open Go.RowKit

/-! ### Properties -/
structure Pr where
  id : Int
  n : Int
  s : ByteArray
  v : ByteArray
def Pr.cells (p : Pr) : Array Value := #[.int .i64 p.id, .int .i64 p.n, .string p.s, .string p.v]
abbrev Pr.val (p : Pr) : Value := .agg #[.int .i64 p.id, .int .i64 p.n, .string p.s, .string p.v]
def prs (l : List Pr) : List Value := l.flatMap fun p => p.cells.toList
/-- May a property have its number? -/
def pNum (id n : Int) : Bool :=
  if id = 1 ∨ id = 23 ∨ id = 25 ∨ id = 36 ∨ id = 37 ∨ id = 40 ∨ id = 41 ∨ id = 42 then decide (n = 0) || decide (n = 1)
  else if id = 11 ∨ id = 33 ∨ id = 35 ∨ id = 39 then decide (0 < n)
  else true
set_option maxRecDepth 100000 in
set_option maxHeartbeats 8000000 in
theorem pnumbered_any (p : Pr) (w : World) : Calls Tryz.prog 185 #[p.val] w (OkPost w (pNum p.id p.n)) := by
  obtain ⟨id, n, s, v⟩ := p
  unfold OkPost
  go_enter Tryz.func185, Tryz.ntmps185
  go_wp2
  all_goals go_ret
  all_goals refine ⟨?_, (Upd.refl _ _).alloc _⟩
  all_goals refine congrArg (fun z => Ending.returned (.bool z)) ?_
  all_goals rw [Bool.eq_iff_iff]
  all_goals simp_all [pNum]

def pBad (p : Pr) (a : Int) : Option Flt := if pNum p.id p.n then none else some ⟨3, 130, a⟩
def ErrPost (E : GE) (w : World) (f : Option Flt) (e : Ending) (w' : World) : Prop := (∃ ev, e = .returned ev ∧ ErrIs E w' ev f) ∧ Upd Non w w'
set_option maxRecDepth 100000 in
set_option maxHeartbeats 2000000 in
theorem pbad_any (E : GE) (p : Pr) (a : Int) (w : World) (hG : Glob E w) : Calls Tryz.prog 161 #[p.val, .int .i64 a] w (ErrPost E w (pBad p a)) := by
  have HN : Hid (∀ W, Calls Tryz.prog 185 #[p.val] W (OkPost W (pNum p.id p.n))) := Lib.hid (pnumbered_any p)
  unfold pBad
  obtain ⟨id, n, s, v⟩ := p
  simp only [Pr.val] at HN ⊢
  have HG := Lib.hid hG
  clear hG
  cases hb : pNum id n with
  | true =>
    rw [hb] at HN
    unfold OkPost at HN
    rw [if_pos rfl]
    unfold ErrPost
    clear hb
    go_enter Tryz.func161, Tryz.ntmps161
    go_wp2_with (go_at_call 185; refine (HN.out _).mono ?_; rintro e w1 ⟨rfl, hu⟩; have HU := Lib.hid hu; clear hu)
    go_ret
    exact ⟨⟨_, rfl, rfl⟩, ((Upd.refl _ _).alloc _).then HU.out⟩
  | false =>
    rw [hb] at HN
    unfold OkPost at HN
    rw [if_neg (by simp)]
    unfold ErrPost
    clear hb
    go_enter Tryz.func161, Tryz.ntmps161
    go_wp2_with (first
      | (go_at_call 185
         refine (HN.out _).mono ?_
         rintro e w1 ⟨rfl, hu⟩
         have HU := Lib.hid (((Upd.refl Non w).alloc _).then hu)
         have g3 := (HG.out.non HU.out).at_ 3 (by decide) (by decide)
         simp only [gix, GE.kd] at g3
         clear hu)
      | (go_at_call 66; refine (new_any _ _ _ _ _).mono ?_; rintro e w2 ⟨rfl, rfl⟩))
    go_ret
    exact ⟨⟨_, rfl, ErrIs.new w1 3 130 a (by decide) (by decide)⟩, HU.out.alloc _⟩

/-! ### Rows of properties -/
theorem prs_length (l : List Pr) : (prs l).length = l.length * 4 := by
  induction l with
  | nil => rfl
  | cons e l ih =>
    have e1 : prs (e :: l) = e.cells.toList ++ prs l := rfl
    have e2 : e.cells.toList.length = 4 := rfl
    rw [e1, List.length_append, ih, e2, List.length_cons]; omega
theorem prs_append (a b : List Pr) : prs (a ++ b) = prs a ++ prs b := by simp [prs]
theorem prs_get (l : List Pr) (k j : Nat) (hk : k < l.length) (hj : j < 4) : (prs l)[k * 4 + j]? = (l[k]'hk).cells[j]? := by
  induction l generalizing k with
  | nil => simp at hk
  | cons e l ih =>
    have e1 : prs (e :: l) = e.cells.toList ++ prs l := rfl
    have e2 : e.cells.toList.length = 4 := rfl
    cases k with
    | zero => rw [e1, List.getElem?_append_left (by omega)]; simp
    | succ k =>
      rw [e1, List.getElem?_append_right (by omega), show (k + 1) * 4 + j - e.cells.toList.length = k * 4 + j by omega, ih k (by simpa using hk)]
      simp
theorem add_pos (a : Addr) (i j : Nat) (hj : 0 < j) : (⟨(a.add i).block, (a.add i).off + j, none⟩ : Addr) = a.add (i + j) := by
  rw [← add_of_add]
  generalize a.add i = x
  unfold Addr.add
  rw [if_neg (by omega)]
abbrev PrRow (w : World) (A : Option Addr) (l : List Pr) : Prop := Reads w 4 A l.length (prs l)
theorem prs_at {w : World} {A : Option Addr} {l : List Pr} (h : PrRow w A l) (k : Nat) (hk : k < l.length) (q : Pr) (hq : l[k]'hk = q) : ∃ ad, A = some ad ∧ ad.block < w.heap.size ∧
    w.cell? (ad.add (k * 4)) = some (.int .i64 q.id) ∧ w.cell? ⟨(ad.add (k * 4)).block, (ad.add (k * 4)).off + 1, none⟩ = some (.int .i64 q.n) ∧
    w.cell? ⟨(ad.add (k * 4)).block, (ad.add (k * 4)).off + 2, none⟩ = some (.string q.s) ∧ w.cell? ⟨(ad.add (k * 4)).block, (ad.add (k * 4)).off + 3, none⟩ = some (.string q.v) := by
  subst hq
  obtain ⟨ad, rfl, hb, hc⟩ := h.2.2 (by omega)
  refine ⟨ad, rfl, hb, ?_, ?_, ?_, ?_⟩
  · exact hc (k * 4 + 0) (.int .i64 (l[k]'hk).id) ((prs_get l k 0 hk (by omega)).trans rfl)
  · rw [add_pos _ _ _ (by omega)]; exact hc (k * 4 + 1) _ ((prs_get l k 1 hk (by omega)).trans rfl)
  · rw [add_pos _ _ _ (by omega)]; exact hc (k * 4 + 2) _ ((prs_get l k 2 hk (by omega)).trans rfl)
  · rw [add_pos _ _ _ (by omega)]; exact hc (k * 4 + 3) _ ((prs_get l k 3 hk (by omega)).trans rfl)

/-- Where the first is that is so. -/
def pIdx (p : Pr → Bool) (l : List Pr) : Int := match l.findIdx? p with | some i => (i : Int) | none => -1
/-- A function value that tells whether a property is so. -/
def Tells (g : Nat) (lb : Array Value) (p : Pr → Bool) (w : World) : Prop :=
  ∀ (W : World) (x : Pr), Upd Non w W → Calls Tryz.prog g (#[x.val] ++ lb) W fun e w' => e = .returned (.bool (p x)) ∧ Upd Non W w'

set_option maxRecDepth 100000 in
set_option maxHeartbeats 4000000 in
theorem pidxf_any (g b : Nat) (p : Pr → Bool) (eg : ∀ args w, (callFunc g args).run Tryz.prog w = .ok (.enter g args) w) (A : Option Addr) (l : List Pr) (n c : Nat) (hn : l.length = n) (w : World) (hr : PrRow w A l) (hp : Tells g #[.pointer (some ⟨b, 0, none⟩)] p w) :
    Calls Tryz.prog 59 #[.slice A n c, .func (.func g) #[] #[.pointer (some ⟨b, 0, none⟩)]] w fun e w' => e = .returned (.int .i64 (pIdx p l)) ∧ Upd Non w w' := by
  have hm := hr.2.1
  have HR := Lib.hid hr
  have HP := Lib.hid hp
  have HN := Lib.hid hn
  obtain ⟨r, hrr⟩ : ∃ r, pIdx p l = r := ⟨_, rfl⟩
  rw [hrr]
  have HRR := Lib.hid hrr
  rw [hn] at hm
  clear hr hp hrr hn
  go_enter Tryz.func59, Tryz.ntmps59
  go_wp2_with fail
  go_loopg [8] n (fun gg s8 wr => ∃ k : Nat, k ≤ n ∧ Hid (gg = n - k) ∧ s8 = .int .i64 k ∧ Hid (Upd Non w wr) ∧ Hid (∀ (j : Nat) (hj : j < l.length), j < k → p (l[j]'hj) = false))
  case atStart => exact ⟨0, by omega, Lib.hid rfl, rfl, Lib.hid (Upd.refl _ _), Lib.hid (fun j _ hj => absurd hj (by omega))⟩
  case round =>
    obtain ⟨k, hk, hg, rfl, HU, hall⟩ := hrel
    by_cases hlt : k < n
    · have hkl : k < l.length := by rw [HN.out]; exact hlt
      obtain ⟨y, hy⟩ : ∃ y, l[k]'hkl = y := ⟨_, rfl⟩
      obtain ⟨ad, hA, hb, x0, x1, x2, x3⟩ := prs_at (HR.out.updNon HU.out) k hkl y hy
      subst hA
      have HC := Lib.hid (HP.out wr y HU.out)
      have HY := Lib.hid hy
      clear hy
      obtain ⟨id, yn, s, v⟩ := y
      simp only [Pr.val] at HC x0 x1 x2 x3
      cases hq : p ⟨id, yn, s, v⟩ with
      | true =>
        rw [hq] at HC
        have HQ := Lib.hid hq
        clear hq
        go_wp2_with (go_at_fn g; refine HC.out.mono ?_; rintro e w1 ⟨rfl, hu⟩; have HU1 := Lib.hid (HU.out.then hu); clear hu)
        go_ret
        refine ⟨?_, HU1.out⟩
        rw [← HRR.out]
        have hkl : k < l.length := by rw [HN.out]; exact hlt
        have hf : l.findIdx? p = some k := by
          rw [List.findIdx?_eq_some_iff_getElem]
          refine ⟨hkl, by rw [HY.out]; exact HQ.out, fun j hj => ?_⟩
          rw [hall.out j (by omega) hj]; simp
        simp [pIdx, hf]
      | false =>
        rw [hq] at HC
        have HQ := Lib.hid hq
        clear hq
        go_wp2_with (go_at_fn g; refine HC.out.mono ?_; rintro e w1 ⟨rfl, hu⟩; have HU1 := Lib.hid (HU.out.then hu); clear hu)
        go_roundg (gk - 1)
        case measure => have := hg.out; omega
        case rel =>
          refine ⟨k + 1, by omega, Lib.hid (by have := hg.out; omega), by go_num, HU1, Lib.hid (fun j hj h1 => ?_)⟩
          rcases Nat.lt_succ_iff_lt_or_eq.1 h1 with h2 | h2
          · exact hall.out j hj h2
          · subst h2; rw [HY.out]; exact HQ.out
    · have hkn : k = n := by omega
      have HK := Lib.hid hkn
      clear hkn
      go_wp2_with fail
      go_ret
      refine ⟨?_, HU.out⟩
      have hf : l.findIdx? p = none := by
        rw [List.findIdx?_eq_none_iff]
        intro z hz
        obtain ⟨j, hj, rfl⟩ := List.mem_iff_getElem.1 hz
        exact hall.out j hj (by have := HN.out; have := HK.out; omega)
      rw [← HRR.out]
      simp [pIdx, hf]
theorem pIdx_any (p : Pr → Bool) (l : List Pr) : decide (0 ≤ pIdx p l) = l.any p := by
  unfold pIdx
  cases h : l.findIdx? p with
  | none =>
    rw [List.findIdx?_eq_none_iff] at h
    have : l.any p = false := by rw [List.any_eq_false]; intro x hx; rw [h x hx]; simp
    simp [this]
  | some i =>
    rw [List.findIdx?_eq_some_iff_getElem] at h
    obtain ⟨hi, h1, _⟩ := h
    have : l.any p = true := by rw [List.any_eq_true]; exact ⟨l[i], List.getElem_mem hi, h1⟩
    simp [this]
theorem pcontf_any (g b : Nat) (p : Pr → Bool) (eg : ∀ args w, (callFunc g args).run Tryz.prog w = .ok (.enter g args) w) (A : Option Addr) (l : List Pr) (n c : Nat) (hn : l.length = n) (w : World) (hr : PrRow w A l) (hp : Tells g #[.pointer (some ⟨b, 0, none⟩)] p w) :
    Calls Tryz.prog 183 #[.slice A n c, .func (.func g) #[] #[.pointer (some ⟨b, 0, none⟩)]] w fun e w' => e = .returned (.bool (l.any p)) ∧ Upd Non w w' := by
  have HI := Lib.hid (pidxf_any g b p eg A l n c hn w hr hp)
  have hm := pIdx_any p l
  obtain ⟨r, h1⟩ : ∃ r, pIdx p l = r := ⟨_, rfl⟩
  obtain ⟨q, h2⟩ : ∃ q, l.any p = q := ⟨_, rfl⟩
  rw [h1] at HI hm
  rw [h2] at hm ⊢
  clear hr hp hn h1 h2
  go_enter Tryz.func183, Tryz.ntmps183
  go_wp2_with (go_at_call 59; refine HI.out.mono ?_; rintro e w1 ⟨rfl, hu⟩)
  go_ret
  exact ⟨rfl, hu⟩

/-! ### The closures: is a property of an identifier? -/
set_option maxHeartbeats 2000000 in
theorem tells_ground (b : Nat) (id : Int) (w : World) (hb : w.cell? ⟨b, 0, none⟩ = some (.int .i64 id)) (hl : b < w.heap.size) : Tells 184 #[.pointer (some ⟨b, 0, none⟩)] (fun p => p.id == id) w := by
  intro W x hu
  have hc := (hu.cell (p := ⟨b, 0, none⟩) hl (fun h => h)).trans hb
  have hl' : b < W.heap.size := Nat.lt_of_lt_of_le hl hu.size
  obtain ⟨i, n, s, v⟩ := x
  clear hb hl
  go_enter Tryz.func184, Tryz.ntmps184
  go_wp2
  go_ret
  exact ⟨rfl, (Upd.refl _ _).alloc _⟩
set_option maxHeartbeats 2000000 in
theorem tells_get (b : Nat) (id : Int) (w : World) (hb : w.cell? ⟨b, 0, none⟩ = some (.int .i64 id)) (hl : b < w.heap.size) : Tells 60 #[.pointer (some ⟨b, 0, none⟩)] (fun p => p.id == id) w := by
  intro W x hu
  have hc := (hu.cell (p := ⟨b, 0, none⟩) hl (fun h => h)).trans hb
  have hl' : b < W.heap.size := Nat.lt_of_lt_of_le hl hu.size
  obtain ⟨i, n, s, v⟩ := x
  clear hb hl
  go_enter Tryz.func60, Tryz.ntmps60
  go_wp2
  go_ret
  exact ⟨rfl, (Upd.refl _ _).alloc _⟩
set_option maxHeartbeats 2000000 in
theorem tells_without (b : Nat) (id : Int) (w : World) (hb : w.cell? ⟨b, 0, none⟩ = some (.int .i64 id)) (hl : b < w.heap.size) : Tells 65 #[.pointer (some ⟨b, 0, none⟩)] (fun p => p.id == id) w := by
  intro W x hu
  have hc := (hu.cell (p := ⟨b, 0, none⟩) hl (fun h => h)).trans hb
  have hl' : b < W.heap.size := Nat.lt_of_lt_of_le hl hu.size
  obtain ⟨i, n, s, v⟩ := x
  clear hb hl
  go_enter Tryz.func65, Tryz.ntmps65
  go_wp2
  go_ret
  exact ⟨rfl, (Upd.refl _ _).alloc _⟩
end Go.Proofs.YtmmahkckemclaaaGreatDoor
