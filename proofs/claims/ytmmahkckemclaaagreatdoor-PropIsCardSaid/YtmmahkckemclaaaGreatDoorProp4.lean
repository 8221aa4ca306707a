/- Properties, more: Check. Conditions: the package variables hold what the program lays there. -/
import Derived.Test.YtmmahkckemclaaaGreatDoorProp3
namespace Go.Proofs.YtmmahkckemclaaaGreatDoor
open Go.RowKit

/-- Why properties may not be, from the k-th on. -/
def pChk (place : Int) (l : List Pr) : Nat → List Pr → Option Flt
  | _, [] => none
  | k, p :: r => match pGround place (l.take k) p.id k with
    | some f => some f
    | none => match pBad p k with
      | some f => some f
      | none => pChk place l (k + 1) r
def pCheck (place : Int) (l : List Pr) : Option Flt := pChk place l 0 l

theorem PrRow.take {w : World} {A : Option Addr} {l : List Pr} (h : PrRow w A l) (k : Nat) (hk : k ≤ l.length) : PrRow w A (l.take k) := by
  have h1 := Reads.take h hk
  have e1 : (prs l).take (k * 4) = prs (l.take k) := by
    have e2 : l = l.take k ++ l.drop k := (List.take_append_drop k l).symm
    have e3 : (prs (l.take k)).length = k * 4 := by rw [prs_length, List.length_take]; omega
    calc (prs l).take (k * 4) = (prs (l.take k) ++ prs (l.drop k)).take (k * 4) := by rw [← prs_append, ← e2]
      _ = prs (l.take k) := by rw [← e3, List.take_left]
  rw [e1] at h1
  have e4 : (l.take k).length = k := by rw [List.length_take]; omega
  unfold PrRow
  rw [e4]
  exact h1

set_option maxRecDepth 100000 in
set_option maxHeartbeats 8000000 in
theorem pcheck_any (E : GE) (place : Int) (A : Option Addr) (l : List Pr) (n c : Nat) (hn : l.length = n) (hc : n ≤ c) (w : World) (hG : Glob E w) (hr : PrRow w A l) :
    Calls Tryz.prog 111 #[.int .i64 place, .slice A n c] w (ErrPost E w (pCheck place l)) := by
  have hm := hr.2.1
  rw [hn] at hm
  have HR := Lib.hid hr
  have HN := Lib.hid hn
  have HG := Lib.hid hG
  obtain ⟨o, ho⟩ : ∃ o, pCheck place l = o := ⟨_, rfl⟩
  rw [ho]
  have HO := Lib.hid ho
  clear hr hn hG ho
  unfold ErrPost
  go_enter Tryz.func111, Tryz.ntmps111
  go_wp2_with fail
  go_loopg [11] n (fun gg s11 wr => ∃ k : Nat, k ≤ n ∧ Hid (gg = n - k) ∧ s11 = .int .i64 k ∧ Hid (Upd Non w wr) ∧ Hid (pChk place l k (l.drop k) = o))
  case atStart => exact ⟨0, by omega, Lib.hid rfl, rfl, Lib.hid (Upd.refl _ _), Lib.hid (by rw [List.drop_zero]; exact HO.out)⟩
  case round =>
    obtain ⟨k, hk, hg, rfl, HU, hs⟩ := hrel
    by_cases hlt : k < n
    · have hkl : k < l.length := by rw [HN.out]; exact hlt
      obtain ⟨y, hy⟩ : ∃ y, l[k]'hkl = y := ⟨_, rfl⟩
      obtain ⟨ad, hA, hb, x0, x1, x2, x3⟩ := prs_at (HR.out.updNon HU.out) k hkl y hy
      subst hA
      have hs1 := hs.out
      rw [List.drop_eq_getElem_cons hkl, hy] at hs1
      simp only [pChk] at hs1
      have htk := HR.out.take k (by omega)
      have HTK := Lib.hid htk
      have hkc : k ≤ c := by omega
      have hlk : (l.take k).length = k := by rw [List.length_take]; omega
      obtain ⟨id, yn, s, v⟩ := y
      simp only at x0 x1 x2 x3 hs1
      have HB := Lib.hid (Blk.new wr 26 #[.int .i64 id, .int .i64 yn, .string s, .string v])
      have HU0 := Lib.hid (HU.out.alloc (.cells #[.int .i64 id, .int .i64 yn, .string s, .string v] 26))
      have HC : Hid (∀ W, Upd Non (wr.alloc (.cells #[.int .i64 id, .int .i64 yn, .string s, .string v] 26)) W → Calls Tryz.prog 160 #[.int .i64 place, .slice (some ad) k c, .int .i64 id, .int .i64 k] W (ErrPost E W (pGround place (l.take k) id k))) := Lib.hid (fun W hW => pground_any E place id k (some ad) (l.take k) k c W (HG.out.non (HU0.out.then hW)) (htk.updNon (HU0.out.then hW)) hlk)
      have HBad : Hid (∀ W, Upd Non (wr.alloc (.cells #[.int .i64 id, .int .i64 yn, .string s, .string v] 26)) W → Calls Tryz.prog 161 #[.agg #[.int .i64 id, .int .i64 yn, .string s, .string v], .int .i64 k] W (ErrPost E W (pBad ⟨id, yn, s, v⟩ k))) := Lib.hid (fun W hW => pbad_any E ⟨id, yn, s, v⟩ k W (HG.out.non (HU0.out.then hW)))
      unfold ErrPost at HC HBad
      obtain ⟨o1, ho1⟩ : ∃ o1, pGround place (l.take k) id k = o1 := ⟨_, rfl⟩
      obtain ⟨o2, ho2⟩ : ∃ o2, pBad ⟨id, yn, s, v⟩ k = o2 := ⟨_, rfl⟩
      rw [ho1] at HC hs1
      rw [ho2] at HBad hs1
      have HS1 := Lib.hid hs1
      clear hs hs1 ho1 ho2 hlk htk hy hkl HTK
      cases o1 with
      | some f =>
        go_wp2_with fail
        go_region_held3 (fun w' => w'.cell? ⟨wr.heap.size, 0, none⟩ = some (.int .i64 id) ∧ Hid (Upd Non (wr.alloc (.cells #[.int .i64 id, .int .i64 yn, .string s, .string v] 26)) w')) (first | exact ⟨by assumption, by assumption⟩ | exact ⟨HB.out.cell 0, Lib.hid (Upd.drew (Upd.refl _ _))⟩)
         (first
          | (go_at_call 160
             refine (HC.out _ (Upd.drew (Upd.refl _ _))).mono ?_
             rintro e w1 ⟨⟨ev, rfl, he⟩, hu⟩
             obtain ⟨k1, rfl⟩ := ErrIs.form he
             have HE := Lib.hid he
             have HU1 := Lib.hid ((Upd.drew (Upd.refl Non (wr.alloc (.cells #[.int .i64 id, .int .i64 yn, .string s, .string v] 26)))).then hu)
             have hb1 := HB.out.upd HU1.out (fun h => h)
             have q0 : w1.cell? ⟨wr.heap.size, 0, none⟩ = some (.int .i64 id) := hb1.cell 0
             clear he hu hb1))
        go_wp2_with fail
        go_ret
        exact ⟨⟨_, rfl, by rw [← HS1.out]; exact HE.out⟩, HU0.out.then HU1.out⟩
      | none =>
        cases o2 with
        | some f =>
          go_wp2_with fail
          go_region_held3 (fun w' => w'.cell? ⟨wr.heap.size, 0, none⟩ = some (.int .i64 id) ∧ Hid (Upd Non (wr.alloc (.cells #[.int .i64 id, .int .i64 yn, .string s, .string v] 26)) w')) (first | exact ⟨by assumption, by assumption⟩ | exact ⟨HB.out.cell 0, Lib.hid (Upd.drew (Upd.refl _ _))⟩)
           (first
            | (go_at_call 160
               refine (HC.out _ (Upd.drew (Upd.refl _ _))).mono ?_
               rintro e w1 ⟨⟨ev, rfl, he⟩, hu⟩
               obtain rfl : ev = .nilIface := he
               have HU1 := Lib.hid ((Upd.drew (Upd.refl Non (wr.alloc (.cells #[.int .i64 id, .int .i64 yn, .string s, .string v] 26)))).then hu)
               have hb1 := HB.out.upd HU1.out (fun h => h)
               have q0 : w1.cell? ⟨wr.heap.size, 0, none⟩ = some (.int .i64 id) := hb1.cell 0
               have q1 : w1.cell? ⟨wr.heap.size, 1, none⟩ = some (.int .i64 yn) := hb1.cell 1
               have q2 : w1.cell? ⟨wr.heap.size, 2, none⟩ = some (.string s) := hb1.cell 2
               have q3 : w1.cell? ⟨wr.heap.size, 3, none⟩ = some (.string v) := hb1.cell 3
               clear hu hb1))
          go_wp2_with (go_at_call 161
                       refine (HBad.out _ HU1.out).mono ?_
                       rintro e w2 ⟨⟨ev, rfl, he⟩, hu⟩
                       obtain ⟨k1, rfl⟩ := ErrIs.form he
                       have HE := Lib.hid he
                       have HU2 := Lib.hid (HU1.out.then hu)
                       clear he hu)
          go_ret
          exact ⟨⟨_, rfl, by rw [← HS1.out]; exact HE.out⟩, HU0.out.then HU2.out⟩
        | none =>
          go_wp2_with fail
          go_region_held3 (fun w' => w'.cell? ⟨wr.heap.size, 0, none⟩ = some (.int .i64 id) ∧ Hid (Upd Non (wr.alloc (.cells #[.int .i64 id, .int .i64 yn, .string s, .string v] 26)) w')) (first | exact ⟨by assumption, by assumption⟩ | exact ⟨HB.out.cell 0, Lib.hid (Upd.drew (Upd.refl _ _))⟩)
           (first
            | (go_at_call 160
               refine (HC.out _ (Upd.drew (Upd.refl _ _))).mono ?_
               rintro e w1 ⟨⟨ev, rfl, he⟩, hu⟩
               obtain rfl : ev = .nilIface := he
               have HU1 := Lib.hid ((Upd.drew (Upd.refl Non (wr.alloc (.cells #[.int .i64 id, .int .i64 yn, .string s, .string v] 26)))).then hu)
               have hb1 := HB.out.upd HU1.out (fun h => h)
               have q0 : w1.cell? ⟨wr.heap.size, 0, none⟩ = some (.int .i64 id) := hb1.cell 0
               have q1 : w1.cell? ⟨wr.heap.size, 1, none⟩ = some (.int .i64 yn) := hb1.cell 1
               have q2 : w1.cell? ⟨wr.heap.size, 2, none⟩ = some (.string s) := hb1.cell 2
               have q3 : w1.cell? ⟨wr.heap.size, 3, none⟩ = some (.string v) := hb1.cell 3
               clear hu hb1))
          go_wp2_with (go_at_call 161
                       refine (HBad.out _ HU1.out).mono ?_
                       rintro e w2 ⟨⟨ev, rfl, he⟩, hu⟩
                       obtain rfl : ev = .nilIface := he
                       have HU2 := Lib.hid (HU1.out.then hu)
                       clear hu)
          go_roundg (gk - 1)
          case measure => have := hg.out; omega
          case rel => exact ⟨k + 1, by omega, Lib.hid (by have := hg.out; omega), by go_num, Lib.hid (HU0.out.then HU2.out), HS1⟩
    · have hkn : k = n := by omega
      have hd : l.drop k = [] := List.drop_eq_nil_of_le (by rw [HN.out]; omega)
      have hs1 := hs.out
      rw [hd] at hs1
      have HS1 := Lib.hid hs1
      clear hkn hd hs1 hs
      go_wp2_with fail
      go_ret
      exact ⟨⟨_, rfl, by rw [← HS1.out]; rfl⟩, HU.out⟩
end Go.Proofs.YtmmahkckemclaaaGreatDoor
