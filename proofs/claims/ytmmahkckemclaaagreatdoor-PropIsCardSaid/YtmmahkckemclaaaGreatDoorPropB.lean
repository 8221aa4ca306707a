/- Properties in the document: types, places. No condition. -/
import Derived.Test.YtmmahkckemclaaaGreatDoorPropA
namespace Go.Proofs.YtmmahkckemclaaaGreatDoor
open Go.RowKit

set_option maxRecDepth 100000 in
set_option maxHeartbeats 4000000 in
theorem rtype_any (id : Int) (w : World) : Calls Tryz.prog 16 #[.int .i64 id] w fun e w' => e = .returned (.int .i64 (pTy id)) ∧ w = w' := by
  go_enter Tryz.func16, Tryz.ntmps16
  go_wp2
  all_goals go_ret
  all_goals refine ⟨?_, rfl⟩
  all_goals refine congrArg (fun z => Ending.returned (.int .i64 z)) ?_
  all_goals simp_all [pTy]

/-- A slice of numbers. -/
def intsRow (w : World) (A : Option Addr) (l : List Int) : Prop := l ≠ [] → ∃ g, A = some ⟨g, 0, none⟩ ∧ intsAt w g l
theorem ints_new (w : World) (t : TypeId) (l : List Int) : intsAt (w.alloc (.cells (l.map (Value.int .i64)).toArray t)) w.heap.size l := by
  intro k hk
  rw [(Blk.new w t _).cell k]
  simp [List.getD_eq_getElem?_getD, List.getElem?_eq_getElem hk]
def PlacesPost (w : World) (l : List Int) (e : Ending) (w' : World) : Prop := (∃ A c, e = .returned (.slice A l.length c) ∧ intsRow w' A l) ∧ Upd Non w w'
theorem rplaces_1 (w : World) : Calls Tryz.prog 62 #[.int .i64 1] w (PlacesPost w [3, 16]) := by
  unfold PlacesPost
  go_enter Tryz.func62, Tryz.ntmps62
  go_wp2
  go_ret
  exact ⟨⟨_, _, rfl, fun _ => ⟨_, rfl, ints_new w 3 [3, 16]⟩⟩, (Upd.refl _ _).alloc _⟩
theorem rplaces_2 (w : World) : Calls Tryz.prog 62 #[.int .i64 2] w (PlacesPost w [3, 16]) := by
  unfold PlacesPost
  go_enter Tryz.func62, Tryz.ntmps62
  go_wp2
  go_ret
  exact ⟨⟨_, _, rfl, fun _ => ⟨_, rfl, ints_new w 3 [3, 16]⟩⟩, (Upd.refl _ _).alloc _⟩
theorem rplaces_3 (w : World) : Calls Tryz.prog 62 #[.int .i64 3] w (PlacesPost w [3, 16]) := by
  unfold PlacesPost
  go_enter Tryz.func62, Tryz.ntmps62
  go_wp2
  go_ret
  exact ⟨⟨_, _, rfl, fun _ => ⟨_, rfl, ints_new w 3 [3, 16]⟩⟩, (Upd.refl _ _).alloc _⟩
theorem rplaces_8 (w : World) : Calls Tryz.prog 62 #[.int .i64 8] w (PlacesPost w [3, 16]) := by
  unfold PlacesPost
  go_enter Tryz.func62, Tryz.ntmps62
  go_wp2
  go_ret
  exact ⟨⟨_, _, rfl, fun _ => ⟨_, rfl, ints_new w 3 [3, 16]⟩⟩, (Upd.refl _ _).alloc _⟩
theorem rplaces_9 (w : World) : Calls Tryz.prog 62 #[.int .i64 9] w (PlacesPost w [3, 16]) := by
  unfold PlacesPost
  go_enter Tryz.func62, Tryz.ntmps62
  go_wp2
  go_ret
  exact ⟨⟨_, _, rfl, fun _ => ⟨_, rfl, ints_new w 3 [3, 16]⟩⟩, (Upd.refl _ _).alloc _⟩
theorem rplaces_11 (w : World) : Calls Tryz.prog 62 #[.int .i64 11] w (PlacesPost w [3, 8]) := by
  unfold PlacesPost
  go_enter Tryz.func62, Tryz.ntmps62
  go_wp2
  go_ret
  exact ⟨⟨_, _, rfl, fun _ => ⟨_, rfl, ints_new w 3 [3, 8]⟩⟩, (Upd.refl _ _).alloc _⟩
theorem rplaces_17 (w : World) : Calls Tryz.prog 62 #[.int .i64 17] w (PlacesPost w [1, 2, 14]) := by
  unfold PlacesPost
  go_enter Tryz.func62, Tryz.ntmps62
  go_wp2
  go_ret
  exact ⟨⟨_, _, rfl, fun _ => ⟨_, rfl, ints_new w 3 [1, 2, 14]⟩⟩, (Upd.refl _ _).alloc _⟩
theorem rplaces_18 (w : World) : Calls Tryz.prog 62 #[.int .i64 18] w (PlacesPost w [2]) := by
  unfold PlacesPost
  go_enter Tryz.func62, Tryz.ntmps62
  go_wp2
  go_ret
  exact ⟨⟨_, _, rfl, fun _ => ⟨_, rfl, ints_new w 3 [2]⟩⟩, (Upd.refl _ _).alloc _⟩
theorem rplaces_19 (w : World) : Calls Tryz.prog 62 #[.int .i64 19] w (PlacesPost w [2]) := by
  unfold PlacesPost
  go_enter Tryz.func62, Tryz.ntmps62
  go_wp2
  go_ret
  exact ⟨⟨_, _, rfl, fun _ => ⟨_, rfl, ints_new w 3 [2]⟩⟩, (Upd.refl _ _).alloc _⟩
theorem rplaces_26 (w : World) : Calls Tryz.prog 62 #[.int .i64 26] w (PlacesPost w [2]) := by
  unfold PlacesPost
  go_enter Tryz.func62, Tryz.ntmps62
  go_wp2
  go_ret
  exact ⟨⟨_, _, rfl, fun _ => ⟨_, rfl, ints_new w 3 [2]⟩⟩, (Upd.refl _ _).alloc _⟩
theorem rplaces_36 (w : World) : Calls Tryz.prog 62 #[.int .i64 36] w (PlacesPost w [2]) := by
  unfold PlacesPost
  go_enter Tryz.func62, Tryz.ntmps62
  go_wp2
  go_ret
  exact ⟨⟨_, _, rfl, fun _ => ⟨_, rfl, ints_new w 3 [2]⟩⟩, (Upd.refl _ _).alloc _⟩
theorem rplaces_37 (w : World) : Calls Tryz.prog 62 #[.int .i64 37] w (PlacesPost w [2]) := by
  unfold PlacesPost
  go_enter Tryz.func62, Tryz.ntmps62
  go_wp2
  go_ret
  exact ⟨⟨_, _, rfl, fun _ => ⟨_, rfl, ints_new w 3 [2]⟩⟩, (Upd.refl _ _).alloc _⟩
theorem rplaces_40 (w : World) : Calls Tryz.prog 62 #[.int .i64 40] w (PlacesPost w [2]) := by
  unfold PlacesPost
  go_enter Tryz.func62, Tryz.ntmps62
  go_wp2
  go_ret
  exact ⟨⟨_, _, rfl, fun _ => ⟨_, rfl, ints_new w 3 [2]⟩⟩, (Upd.refl _ _).alloc _⟩
theorem rplaces_41 (w : World) : Calls Tryz.prog 62 #[.int .i64 41] w (PlacesPost w [2]) := by
  unfold PlacesPost
  go_enter Tryz.func62, Tryz.ntmps62
  go_wp2
  go_ret
  exact ⟨⟨_, _, rfl, fun _ => ⟨_, rfl, ints_new w 3 [2]⟩⟩, (Upd.refl _ _).alloc _⟩
theorem rplaces_42 (w : World) : Calls Tryz.prog 62 #[.int .i64 42] w (PlacesPost w [2]) := by
  unfold PlacesPost
  go_enter Tryz.func62, Tryz.ntmps62
  go_wp2
  go_ret
  exact ⟨⟨_, _, rfl, fun _ => ⟨_, rfl, ints_new w 3 [2]⟩⟩, (Upd.refl _ _).alloc _⟩
theorem rplaces_21 (w : World) : Calls Tryz.prog 62 #[.int .i64 21] w (PlacesPost w [1, 2, 15]) := by
  unfold PlacesPost
  go_enter Tryz.func62, Tryz.ntmps62
  go_wp2
  go_ret
  exact ⟨⟨_, _, rfl, fun _ => ⟨_, rfl, ints_new w 3 [1, 2, 15]⟩⟩, (Upd.refl _ _).alloc _⟩
theorem rplaces_22 (w : World) : Calls Tryz.prog 62 #[.int .i64 22] w (PlacesPost w [1, 2, 15]) := by
  unfold PlacesPost
  go_enter Tryz.func62, Tryz.ntmps62
  go_wp2
  go_ret
  exact ⟨⟨_, _, rfl, fun _ => ⟨_, rfl, ints_new w 3 [1, 2, 15]⟩⟩, (Upd.refl _ _).alloc _⟩
theorem rplaces_23 (w : World) : Calls Tryz.prog 62 #[.int .i64 23] w (PlacesPost w [1]) := by
  unfold PlacesPost
  go_enter Tryz.func62, Tryz.ntmps62
  go_wp2
  go_ret
  exact ⟨⟨_, _, rfl, fun _ => ⟨_, rfl, ints_new w 3 [1]⟩⟩, (Upd.refl _ _).alloc _⟩
theorem rplaces_25 (w : World) : Calls Tryz.prog 62 #[.int .i64 25] w (PlacesPost w [1]) := by
  unfold PlacesPost
  go_enter Tryz.func62, Tryz.ntmps62
  go_wp2
  go_ret
  exact ⟨⟨_, _, rfl, fun _ => ⟨_, rfl, ints_new w 3 [1]⟩⟩, (Upd.refl _ _).alloc _⟩
theorem rplaces_24 (w : World) : Calls Tryz.prog 62 #[.int .i64 24] w (PlacesPost w [16]) := by
  unfold PlacesPost
  go_enter Tryz.func62, Tryz.ntmps62
  go_wp2
  go_ret
  exact ⟨⟨_, _, rfl, fun _ => ⟨_, rfl, ints_new w 3 [16]⟩⟩, (Upd.refl _ _).alloc _⟩
theorem rplaces_28 (w : World) : Calls Tryz.prog 62 #[.int .i64 28] w (PlacesPost w [2, 14]) := by
  unfold PlacesPost
  go_enter Tryz.func62, Tryz.ntmps62
  go_wp2
  go_ret
  exact ⟨⟨_, _, rfl, fun _ => ⟨_, rfl, ints_new w 3 [2, 14]⟩⟩, (Upd.refl _ _).alloc _⟩
theorem rplaces_31 (w : World) : Calls Tryz.prog 62 #[.int .i64 31] w (PlacesPost w [2, 4, 5, 6, 7, 9, 11, 14, 15]) := by
  unfold PlacesPost
  go_enter Tryz.func62, Tryz.ntmps62
  go_wp2
  go_ret
  exact ⟨⟨_, _, rfl, fun _ => ⟨_, rfl, ints_new w 3 [2, 4, 5, 6, 7, 9, 11, 14, 15]⟩⟩, (Upd.refl _ _).alloc _⟩
theorem rplaces_33 (w : World) : Calls Tryz.prog 62 #[.int .i64 33] w (PlacesPost w [1, 2]) := by
  unfold PlacesPost
  go_enter Tryz.func62, Tryz.ntmps62
  go_wp2
  go_ret
  exact ⟨⟨_, _, rfl, fun _ => ⟨_, rfl, ints_new w 3 [1, 2]⟩⟩, (Upd.refl _ _).alloc _⟩
theorem rplaces_34 (w : World) : Calls Tryz.prog 62 #[.int .i64 34] w (PlacesPost w [1, 2]) := by
  unfold PlacesPost
  go_enter Tryz.func62, Tryz.ntmps62
  go_wp2
  go_ret
  exact ⟨⟨_, _, rfl, fun _ => ⟨_, rfl, ints_new w 3 [1, 2]⟩⟩, (Upd.refl _ _).alloc _⟩
theorem rplaces_39 (w : World) : Calls Tryz.prog 62 #[.int .i64 39] w (PlacesPost w [1, 2]) := by
  unfold PlacesPost
  go_enter Tryz.func62, Tryz.ntmps62
  go_wp2
  go_ret
  exact ⟨⟨_, _, rfl, fun _ => ⟨_, rfl, ints_new w 3 [1, 2]⟩⟩, (Upd.refl _ _).alloc _⟩
theorem rplaces_35 (w : World) : Calls Tryz.prog 62 #[.int .i64 35] w (PlacesPost w [3]) := by
  unfold PlacesPost
  go_enter Tryz.func62, Tryz.ntmps62
  go_wp2
  go_ret
  exact ⟨⟨_, _, rfl, fun _ => ⟨_, rfl, ints_new w 3 [3]⟩⟩, (Upd.refl _ _).alloc _⟩
theorem rplaces_38 (w : World) : Calls Tryz.prog 62 #[.int .i64 38] w (PlacesPost w [1, 2, 3, 4, 5, 6, 7, 8, 9, 10, 11, 14, 15, 16]) := by
  unfold PlacesPost
  go_enter Tryz.func62, Tryz.ntmps62
  go_wp2
  go_ret
  exact ⟨⟨_, _, rfl, fun _ => ⟨_, rfl, ints_new w 3 [1, 2, 3, 4, 5, 6, 7, 8, 9, 10, 11, 14, 15, 16]⟩⟩, (Upd.refl _ _).alloc _⟩
theorem rplaces_other (id : Int) (h1 : (id == 1) = false) (h2 : (id == 2) = false) (h3 : (id == 3) = false) (h8 : (id == 8) = false) (h9 : (id == 9) = false) (h11 : (id == 11) = false) (h17 : (id == 17) = false) (h18 : (id == 18) = false) (h19 : (id == 19) = false) (h26 : (id == 26) = false) (h36 : (id == 36) = false) (h37 : (id == 37) = false) (h40 : (id == 40) = false) (h41 : (id == 41) = false) (h42 : (id == 42) = false) (h21 : (id == 21) = false) (h22 : (id == 22) = false) (h23 : (id == 23) = false) (h25 : (id == 25) = false) (h24 : (id == 24) = false) (h28 : (id == 28) = false) (h31 : (id == 31) = false) (h33 : (id == 33) = false) (h34 : (id == 34) = false) (h39 : (id == 39) = false) (h35 : (id == 35) = false) (h38 : (id == 38) = false) (w : World) : Calls Tryz.prog 62 #[.int .i64 id] w (PlacesPost w []) := by
  unfold PlacesPost
  go_enter Tryz.func62, Tryz.ntmps62
  go_wp2
  go_ret
  exact ⟨⟨_, _, rfl, fun h => absurd rfl h⟩, Upd.refl _ _⟩
theorem rplaces_any (id : Int) (w : World) : Calls Tryz.prog 62 #[.int .i64 id] w (PlacesPost w (pPlaces id)) := by
  by_cases k1 : id = 1
  · subst k1; exact rplaces_1 w
  by_cases k2 : id = 2
  · subst k2; exact rplaces_2 w
  by_cases k3 : id = 3
  · subst k3; exact rplaces_3 w
  by_cases k8 : id = 8
  · subst k8; exact rplaces_8 w
  by_cases k9 : id = 9
  · subst k9; exact rplaces_9 w
  by_cases k11 : id = 11
  · subst k11; exact rplaces_11 w
  by_cases k17 : id = 17
  · subst k17; exact rplaces_17 w
  by_cases k18 : id = 18
  · subst k18; exact rplaces_18 w
  by_cases k19 : id = 19
  · subst k19; exact rplaces_19 w
  by_cases k26 : id = 26
  · subst k26; exact rplaces_26 w
  by_cases k36 : id = 36
  · subst k36; exact rplaces_36 w
  by_cases k37 : id = 37
  · subst k37; exact rplaces_37 w
  by_cases k40 : id = 40
  · subst k40; exact rplaces_40 w
  by_cases k41 : id = 41
  · subst k41; exact rplaces_41 w
  by_cases k42 : id = 42
  · subst k42; exact rplaces_42 w
  by_cases k21 : id = 21
  · subst k21; exact rplaces_21 w
  by_cases k22 : id = 22
  · subst k22; exact rplaces_22 w
  by_cases k23 : id = 23
  · subst k23; exact rplaces_23 w
  by_cases k25 : id = 25
  · subst k25; exact rplaces_25 w
  by_cases k24 : id = 24
  · subst k24; exact rplaces_24 w
  by_cases k28 : id = 28
  · subst k28; exact rplaces_28 w
  by_cases k31 : id = 31
  · subst k31; exact rplaces_31 w
  by_cases k33 : id = 33
  · subst k33; exact rplaces_33 w
  by_cases k34 : id = 34
  · subst k34; exact rplaces_34 w
  by_cases k39 : id = 39
  · subst k39; exact rplaces_39 w
  by_cases k35 : id = 35
  · subst k35; exact rplaces_35 w
  by_cases k38 : id = 38
  · subst k38; exact rplaces_38 w
  have e : pPlaces id = [] := by simp only [pPlaces, k1, k2, k3, k8, k9, k11, k17, k18, k19, k26, k36, k37, k40, k41, k42, k21, k22, k23, k25, k24, k28, k31, k33, k34, k39, k35, k38, or_self, if_false]
  rw [e]
  exact rplaces_other id (by simpa using k1) (by simpa using k2) (by simpa using k3) (by simpa using k8) (by simpa using k9) (by simpa using k11) (by simpa using k17) (by simpa using k18) (by simpa using k19) (by simpa using k26) (by simpa using k36) (by simpa using k37) (by simpa using k40) (by simpa using k41) (by simpa using k42) (by simpa using k21) (by simpa using k22) (by simpa using k23) (by simpa using k25) (by simpa using k24) (by simpa using k28) (by simpa using k31) (by simpa using k33) (by simpa using k34) (by simpa using k39) (by simpa using k35) (by simpa using k38) w

theorem ite_len {c : Prop} [Decidable c] {a b : List Int} (ha : a.length ≤ 14) (hb : b.length ≤ 14) : (if c then a else b).length ≤ 14 := by split <;> assumption
set_option maxRecDepth 100000 in
set_option maxHeartbeats 4000000 in
theorem rallowed_any (id place : Int) (w : World) : Calls Tryz.prog 18 #[.int .i64 id, .int .i64 place] w (OkPost w (pOk id place)) := by
  have HP := Lib.hid (rplaces_any id w)
  have hlen : (pPlaces id).length ≤ 14 := by
    unfold pPlaces
    repeat (refine ite_len (by decide) ?_)
    decide
  unfold pOk
  obtain ⟨l, hl⟩ : ∃ l, pPlaces id = l := ⟨_, rfl⟩
  rw [hl] at HP hlen ⊢
  clear hl
  obtain ⟨n, hn⟩ : ∃ n, l.length = n := ⟨_, rfl⟩
  unfold PlacesPost at HP
  rw [hn] at HP hlen
  have HN := Lib.hid hn
  obtain ⟨b, hb⟩ : ∃ b, decide (place ∈ l) = b := ⟨_, rfl⟩
  rw [hb]
  have HB := Lib.hid hb
  clear hn hb
  unfold OkPost
  go_enter Tryz.func18, Tryz.ntmps18
  go_wp2_with (go_at_call 62
               refine HP.out.mono ?_
               rintro e w1 ⟨⟨A, c, rfl, hr⟩, hu⟩
               have HR := Lib.hid hr
               have HU := Lib.hid hu
               clear hr hu)
  go_loop [6] (fun i => ∃ k : Nat, k ≤ n ∧ i = .int .i64 k ∧ Hid (∀ j, j < k → (l.getD j 0 == place) = false)) (fun i => n - (intOf i).toNat)
  case atStart => exact ⟨0, by omega, rfl, Lib.hid (fun j hj => absurd hj (by omega))⟩
  case round =>
    obtain ⟨k, hk, rfl, hall⟩ := hrel
    by_cases hlt : k < n
    · have hne : l ≠ [] := by intro e; have := HN.out; rw [e] at this; simp at this; omega
      obtain ⟨g, hA, hi⟩ := HR.out hne
      subst hA
      have hkl : k < l.length := by rw [HN.out]; exact hlt
      have hc := hi k hkl
      obtain ⟨y, hy⟩ : ∃ y, y = l.getD k 0 := ⟨_, rfl⟩
      rw [← hy] at hc
      have HY := Lib.hid hy
      clear hy hi hne hkl HR
      by_cases hxy : y = place
      · subst hxy
        go_wp2_with fail
        go_ret
        refine ⟨?_, HU.out⟩
        have hm : y ∈ l := by
          have hkl : k < l.length := by rw [HN.out]; exact hlt
          have h1 := HY.out
          rw [List.getD_eq_getElem?_getD, List.getElem?_eq_getElem hkl] at h1
          simp at h1
          rw [h1]; exact List.getElem_mem hkl
        have h2 := HB.out
        rw [decide_eq_true hm] at h2
        rw [← h2]; rfl
      · have hne : (y == place) = false := by simpa using hxy
        have HX := Lib.hid hne
        clear hxy
        go_wp2_with fail
        go_round
        case measure => simp [intOf]; omega
        case rel =>
          refine ⟨k + 1, by omega, by go_num, Lib.hid (fun j hj => ?_)⟩
          rcases Nat.lt_succ_iff_lt_or_eq.1 hj with h1 | h1
          · exact hall.out j h1
          · subst h1; rw [← HY.out]; exact HX.out
    · have hkn : k = n := by omega
      have HK := Lib.hid hkn
      clear hkn
      go_wp2_with fail
      go_ret
      refine ⟨?_, HU.out⟩
      have hm : place ∉ l := by
        intro hz
        obtain ⟨j, hj, he⟩ := List.mem_iff_getElem.1 hz
        have h1 := hall.out j (by have := HN.out; have := HK.out; omega)
        rw [List.getD_eq_getElem?_getD, List.getElem?_eq_getElem hj] at h1
        simp [he] at h1
      have h2 := HB.out
      rw [decide_eq_false hm] at h2
      rw [← h2]; rfl
end Go.Proofs.YtmmahkckemclaaaGreatDoor
