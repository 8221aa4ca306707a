/- Properties: Without. Conditions: fewer than 2^30 properties. -/
import Derived.Test.YtmmahkckemclaaaGreatDoorPropE
namespace Go.Proofs.YtmmahkckemclaaaGreatDoor
open Go.RowKit

set_option maxRecDepth 100000 in
set_option maxHeartbeats 4000000 in
theorem pdelf_none (f b : Nat) (p : Pr → Bool) (eg : ∀ args w, (callFunc f args).run Tryz.prog w = .ok (.enter f args) w) (A : Option Addr) (l : List Pr) (n c : Nat) (hn : l.length = n) (w : World) (hr : PrRow w A l)
    (hp : Tells f #[.pointer (some ⟨b, 0, none⟩)] p w) (hk0 : l.findIdx? p = none) :
    Calls Tryz.prog 63 #[.slice A n c, .func (.func f) #[] #[.pointer (some ⟨b, 0, none⟩)]] w fun e w' => e = .returned (.slice A n c) ∧ Upd Non w w' := by
  have HI := Lib.hid (pidxf_any f b p eg A l n c hn w hr hp)
  rw [show pIdx p l = -1 by unfold pIdx; rw [hk0]] at HI
  clear hr hp hk0 hn
  go_enter Tryz.func63, Tryz.ntmps63
  go_wp2_with (go_at_call 59; refine HI.out.mono ?_; rintro e w1 ⟨rfl, hu⟩; have HU := Lib.hid hu; clear hu)
  go_ret
  exact ⟨rfl, HU.out⟩
/-- The properties of other identifiers. -/
def pWithout (l : List Pr) (id : Int) : List Pr := l.filter fun p => !(p.id == id)
def RowPost (w : World) (l : List Pr) (e : Ending) (w' : World) : Prop := (∃ A m c, e = .returned (.slice A m c) ∧ m = l.length ∧ PrRow w' A l) ∧ Upd Non w w'

/-- DeleteFunc of a row of the call's own. -/
theorem pdelf_any (f b g0 : Nat) (p : Pr → Bool) (eg : ∀ args w, (callFunc f args).run Tryz.prog w = .ok (.enter f args) w) (A : Option Addr) (l : List Pr) (n c base : Nat) (hn : l.length = n) (hm : n ≤ 1000000000) (w : World) (ho : PrOwn w base (.slice A n c) l) (hbase : g0 ≤ base)
    (hp : ∀ g, g0 ≤ g → TellsB f #[.pointer (some ⟨b, 0, none⟩)] p g w) :
    Calls Tryz.prog 63 #[.slice A n c, .func (.func f) #[] #[.pointer (some ⟨b, 0, none⟩)]] w fun e w' => (∃ A' m c', e = .returned (.slice A' m c') ∧ m = (l.filter fun x => !p x).length ∧ PrRow w' A' (l.filter fun x => !p x)) ∧ Upd (fun i => g0 ≤ i) w w' := by
  have hcap := PrOwn.cap ho
  cases hk : l.findIdx? p with
  | none =>
    have hr : PrRow w A l := Reads.of_own (by rw [← hn] at ho; exact ho)
    have hf : (l.filter fun x => !p x) = l := by
      rw [List.findIdx?_eq_none_iff] at hk
      rw [List.filter_eq_self]
      intro x hx
      rw [hk x hx]; rfl
    rw [hf]
    refine (pdelf_none f b p eg A l n c hn w hr (fun W x hu => hp g0 (Nat.le_refl _) W x hu.of_non) hk).mono ?_
    rintro e w' ⟨rfl, hu⟩
    exact ⟨⟨A, n, c, rfl, hn.symm, hr.updNon hu⟩, hu.of_non⟩
  | some k0 =>
    have hl : l ≠ [] := by intro e; rw [e] at hk; simp at hk
    obtain ⟨g, hA, hg, hB⟩ := PrOwn.rowB ho hl
    subst hA
    refine (pdelf_some f b g p eg l n c hn (by omega) hm w hB (hp g (by omega)) k0 hk).mono ?_
    rintro e w' ⟨⟨m, rfl, hm2⟩, hr, hu⟩
    exact ⟨⟨_, m, c, rfl, hm2, hr⟩, hu.mono fun i _ e => by omega⟩

theorem tellsB_without (b g : Nat) (id : Int) (w : World) (hb : w.cell? ⟨b, 0, none⟩ = some (.int .i64 id)) (hl : b < w.heap.size) (hne : b ≠ g) : TellsB 65 #[.pointer (some ⟨b, 0, none⟩)] (fun p => p.id == id) g w := by
  intro W x hu
  exact tells_without b id W ((hu.cell (p := ⟨b, 0, none⟩) hl hne).trans hb) (Nat.lt_of_lt_of_le hl hu.size) W x (Upd.refl _ _)

set_option maxRecDepth 100000 in
set_option maxHeartbeats 4000000 in
theorem pwithout_any (A : Option Addr) (l : List Pr) (n c : Nat) (hn : l.length = n) (hm : n ≤ 1000000000) (id : Int) (w : World) (hr : PrRow w A l) :
    Calls Tryz.prog 22 #[.slice A n c, .int .i64 id] w (RowPost w (pWithout l id)) := by
  have hU0 : Upd Non w (w.alloc (.cells #[.int .i64 id] 3)) := (Upd.refl _ _).alloc _
  have HC := Lib.hid (pclone_any A l n c hn (by omega) (w.alloc (.cells #[.int .i64 id] 3)) (hr.updNon hU0))
  have HD : Hid (∀ W A2 c2, Upd Non (w.alloc (.cells #[.int .i64 id] 3)) W → PrOwn W (w.alloc (.cells #[.int .i64 id] 3)).heap.size (.slice A2 n c2) l → Calls Tryz.prog 63 #[.slice A2 n c2, .func (.func 65) #[] #[.pointer (some ⟨w.heap.size, 0, none⟩)]] W fun e w' => (∃ A' m c', e = .returned (.slice A' m c') ∧ m = (pWithout l id).length ∧ PrRow w' A' (pWithout l id)) ∧ Upd (fun i => w.heap.size + 1 ≤ i) W w') := Lib.hid (fun W A2 c2 hW ho => by
    have hb := (Blk.new w 3 #[.int .i64 id]).upd hW (fun h => h)
    exact pdelf_any 65 w.heap.size (w.heap.size + 1) (fun p => p.id == id) (by intro args w; exact enters_of Tryz.func65 (by kernel_rfl) rfl args w) A2 l n c2 _ hn hm W ho (by simp) (fun g hg => tellsB_without w.heap.size g id W (hb.cell 0) hb.lt (by omega)))
  have hmf : ∀ (fn : Fn) (first cap : Array Value) (w : World), (Instr.makeFunc fn first cap).run Tryz.prog w = .ok (.func fn first cap) w := fun _ _ _ _ => rfl
  have HU0 := Lib.hid hU0
  have HN := Lib.hid hn
  unfold RowPost
  clear hr hn hU0
  go_enter Tryz.func22, Tryz.ntmps22
  go_wp2_with (first
    | (go_at_call 64
       refine HC.out.mono ?_
       rintro e w1 ⟨⟨v, rfl, ho⟩, hu⟩
       obtain ⟨A2, c2, rfl⟩ := own_slice ho
       rw [HN.out] at ho
       have HO := Lib.hid ho
       have HU := Lib.hid hu
       rw [HN.out]
       clear ho hu)
    | (go_at_call 63
       refine (HD.out w1 A2 c2 HU.out HO.out).mono ?_
       rintro e w2 ⟨⟨A3, m, c3, rfl, hm3, hr3⟩, hu2⟩
       have HM := Lib.hid hm3
       have HR := Lib.hid hr3
       have HU2 := Lib.hid hu2
       clear hm3 hr3 hu2))
  go_ret
  refine ⟨⟨A3, m, c3, rfl, HM.out, HR.out⟩, ?_⟩
  exact (HU0.out.then HU.out).trans HU2.out (fun i hi h => by omega)

set_option maxRecDepth 100000 in
set_option maxHeartbeats 8000000 in
theorem rwithout_any (A : Option Addr) (l : List Pr) (n c : Nat) (hn : l.length = n) (hm : n ≤ 1000000000) (id : Int) (w : World) (hr : PrRow w A l) :
    Calls Tryz.prog 23 #[.slice A n c, .int .i64 id] w (RowPost w (pWithout l id)) := by
  obtain ⟨i0, hi, hzz⟩ := Option.map_eq_some_iff.1 pr_info
  simp only [Prod.mk.injEq] at hzz
  obtain ⟨hz0, hz1, hz2⟩ := hzz
  have HR := Lib.hid hr
  have HN := Lib.hid hn
  unfold RowPost
  clear hr hn
  go_enter Tryz.func23, Tryz.ntmps23
  go_wp2_with fail
  go_loopg [5, 6] n (fun gg s5 s6 wr => ∃ (k : Nat) (A2 : Option Addr) (c2 m2 : Nat), k ≤ n ∧ Hid (gg = n - k) ∧ m2 ≤ k ∧ s6 = .int .i64 k ∧ s5 = .slice A2 m2 c2 ∧ Hid (m2 = (pWithout (l.take k) id).length) ∧ Hid (PrOwn wr w.heap.size (.slice A2 m2 c2) (pWithout (l.take k) id)) ∧ Hid (Upd Non w wr))
  case atStart => exact ⟨0, none, 0, 0, by omega, Lib.hid rfl, by omega, rfl, rfl, Lib.hid (by rw [List.take_zero]; rfl), Lib.hid (by rw [List.take_zero]; exact own_nil _ _ _ _), Lib.hid (Upd.refl _ _)⟩
  case round =>
    obtain ⟨k, A2, c2, m2, hk, hg, hmk, rfl, rfl, hm2, ho, hu⟩ := hrel
    by_cases hlt : k < n
    · have hkl : k < l.length := by rw [HN.out]; exact hlt
      obtain ⟨y, hy⟩ : ∃ y, l[k]'hkl = y := ⟨_, rfl⟩
      obtain ⟨ad, hA, hb, x0, x1, x2, x3⟩ := prs_at (HR.out.updNon hu.out) k hkl y hy
      subst hA
      have htk : l.take (k + 1) = l.take k ++ [y] := by rw [List.take_succ_eq_append_getElem hkl, hy]
      obtain ⟨i1, n1, s1, v1⟩ := y
      simp only at x0 x1 x2 x3
      have hsz := hu.out.size
      by_cases hxy : i1 = id
      · subst hxy
        have hw : pWithout (l.take (k + 1)) i1 = pWithout (l.take k) i1 := by rw [htk]; simp [pWithout]
        have HW := Lib.hid hw
        clear hw htk hy
        go_wp2_with fail
        go_roundg (gk - 1)
        case measure => have := hg.out; omega
        case rel => exact ⟨k + 1, A2, c2, m2, by omega, Lib.hid (by have := hg.out; omega), by omega, by go_num, rfl, Lib.hid (by rw [HW.out]; exact hm2.out), Lib.hid (by rw [HW.out]; exact ho.out), hu⟩
      · have hne : (i1 != id) = true := by simpa using hxy
        have hw : pWithout (l.take (k + 1)) id = pWithout (l.take k) id ++ [⟨i1, n1, s1, v1⟩] := by rw [htk]; simp [pWithout, hxy]
        have HW := Lib.hid hw
        have ho1 := ho.out
        unfold PrOwn at ho1
        rw [← hm2.out] at ho1
        clear hw htk hy hxy
        go_wp2_with (at_builtin
                     refine wpList_append_own_at _ rfl (.tmp 20) (.tmp 25) 22 rfl w.heap.size 26 i0 _ 4 48 Tryz.underlying22 hi hz0 hz1 hz2 rfl (by decide) _ _ _ rfl (ho1.alloc _) ⟨wr.heap.size, 0, none⟩ 1 1 [.int .i64 i1, .int .i64 n1, .string s1, .string v1] rfl rfl (cell_four_new _ _ _ _ _ _ (by simp)) (by simp [Value.oneCell']) (by simp only [maxLen]; omega) (by omega) (by simp; omega) ?_
                     intro v6 w6 hown1 hg1 _ _
                     obtain ⟨A6, c6, rfl⟩ := own_slice hown1)
        go_roundg (gk - 1)
        case measure => have := hg.out; omega
        case rel =>
          refine ⟨k + 1, A6, c6, m2 + 1, by omega, Lib.hid (by have := hg.out; omega), by omega, by go_num, rfl, Lib.hid (by rw [HW.out, List.length_append, ← hm2.out]; rfl), Lib.hid ?_, Lib.hid ?_⟩
          · show World.ownsRow _ _ _ _ _ _ _
            rw [HW.out, List.length_append, ← hm2.out, prs_snoc]
            exact hown1
          · exact Upd.grown (row := (Value.slice A2 m2 c2).ownBlock) (hu.out.alloc _) hg1 (fun j hj h => by have := own_base ho1 j h; omega)
    · have htk : l.take k = l := List.take_of_length_le (by rw [HN.out]; omega)
      rw [htk] at hm2 ho
      have hr2 : PrRow wr A2 (pWithout l id) := Reads.of_own (by have := ho.out; rw [hm2.out] at this; exact this)
      have HR2 := Lib.hid hr2
      clear htk hr2
      go_wp2_with fail
      go_ret
      exact ⟨⟨A2, m2, c2, rfl, hm2.out, HR2.out⟩, hu.out⟩
end Go.Proofs.YtmmahkckemclaaaGreatDoor
