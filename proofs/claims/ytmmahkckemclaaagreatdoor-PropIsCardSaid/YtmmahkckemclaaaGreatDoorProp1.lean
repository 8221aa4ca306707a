/- Properties: what each has, whether a place may have it, whether it may have its number. No condition. -/
import Derived.Test.YtmmahkckemclaaaGreatDoorFld2
namespace Go.Proofs.YtmmahkckemclaaaGreatDoor
open Go.RowKit

/-- What a property has. -/
def pTy (id : Int) : Int :=
  if id = 1 ∨ id = 23 ∨ id = 25 ∨ id = 36 ∨ id = 37 ∨ id = 40 ∨ id = 41 ∨ id = 42 then 1
  else if id = 19 ∨ id = 33 ∨ id = 34 ∨ id = 35 then 2
  else if id = 2 ∨ id = 17 ∨ id = 24 ∨ id = 39 then 4
  else if id = 11 then 5
  else if id = 3 ∨ id = 8 ∨ id = 18 ∨ id = 21 ∨ id = 26 ∨ id = 28 ∨ id = 31 then 6
  else if id = 9 ∨ id = 22 then 7
  else if id = 38 then 9 else 0

set_option maxRecDepth 100000 in
set_option maxHeartbeats 4000000 in
theorem ptype_any (id : Int) (w : World) : Calls Tryz.prog 15 #[.int .i64 id] w fun e w' => e = .returned (.int .i64 (pTy id)) ∧ w = w' := by
  go_enter Tryz.func15, Tryz.ntmps15
  go_wp2
  all_goals go_ret
  all_goals refine ⟨?_, rfl⟩
  all_goals refine congrArg (fun z => Ending.returned (.int .i64 z)) ?_
  all_goals simp_all [pTy]

/-- The places that may have a property. -/
def pPlaces (id : Int) : List Int :=
  if id = 1 ∨ id = 2 ∨ id = 3 ∨ id = 8 ∨ id = 9 then [3, 16]
  else if id = 11 then [3, 8]
  else if id = 17 then [1, 2, 14]
  else if id = 18 ∨ id = 19 ∨ id = 26 ∨ id = 36 ∨ id = 37 ∨ id = 40 ∨ id = 41 ∨ id = 42 then [2]
  else if id = 21 ∨ id = 22 then [1, 2, 15]
  else if id = 23 ∨ id = 25 then [1]
  else if id = 24 then [16]
  else if id = 28 then [2, 14]
  else if id = 31 then [2, 4, 5, 6, 7, 9, 11, 14, 15]
  else if id = 33 ∨ id = 34 ∨ id = 39 then [1, 2]
  else if id = 35 then [3]
  else if id = 38 then [1, 2, 3, 4, 5, 6, 7, 8, 9, 10, 11, 14, 15, 16]
  else []
def pOk (id place : Int) : Bool := decide (place ∈ pPlaces id)

def intsAt (w : World) (g : Nat) (l : List Int) : Prop := ∀ k, k < l.length → w.cell? ⟨g, k, none⟩ = some (.int .i64 (l.getD k 0))
/-- slices.Index at numbers. -/
def iIdx (l : List Int) (x : Int) : Int := match l.findIdx? (· == x) with | some i => (i : Int) | none => -1
set_option maxHeartbeats 2000000 in
theorem iindex_any (g n c : Nat) (l : List Int) (hl : l.length = n) (hn : n ≤ 1000000) (x : Int) (w : World) (hc : intsAt w g l) :
    Calls Tryz.prog 121 #[.slice (some ⟨g, 0, none⟩) n c, .int .i64 x] w fun e w' => e = .returned (.int .i64 (iIdx l x)) ∧ w = w' := by
  have HC := Lib.hid hc
  have HLen := Lib.hid hl
  obtain ⟨r, hr⟩ : ∃ r, iIdx l x = r := ⟨_, rfl⟩
  rw [hr]
  have HR := Lib.hid hr
  clear hc hr hl
  go_enter Tryz.func121, Tryz.ntmps121
  go_wp2_with fail
  go_loop [8] (fun i => ∃ k : Nat, k ≤ n ∧ i = .int .i64 k ∧ Hid (∀ j, j < k → (l.getD j 0 == x) = false)) (fun i => n - (intOf i).toNat)
  case atStart => exact ⟨0, by omega, rfl, Lib.hid (fun j hj => absurd hj (by omega))⟩
  case round =>
    obtain ⟨k, hk, rfl, hall⟩ := hrel
    by_cases hlt : k < n
    · have hc := HC.out k (by rw [HLen.out]; exact hlt)
      obtain ⟨y, hy⟩ : ∃ y, y = l.getD k 0 := ⟨_, rfl⟩
      rw [← hy] at hc
      have HY := Lib.hid hy
      clear hy
      by_cases hxy : x = y
      · subst hxy
        go_wp2_with fail
        go_ret
        refine ⟨?_, rfl⟩
        have hf : l.findIdx? (· == x) = some k := by
          rw [List.findIdx?_eq_some_iff_getElem]
          have hkl : k < l.length := by rw [HLen.out]; exact hlt
          refine ⟨hkl, ?_, fun j hj => ?_⟩
          · have := HY.out; rw [List.getD_eq_getElem?_getD, List.getElem?_eq_getElem hkl] at this; simp at this; simp [← this]
          · have h1 := hall.out j hj
            rw [List.getD_eq_getElem?_getD, List.getElem?_eq_getElem (by omega)] at h1
            simpa using h1
        rw [← HR.out]
        simp [iIdx, hf]
      · have hne : (x == y) = false := by simpa using hxy
        have HN := Lib.hid hxy
        clear hxy
        go_wp2_with fail
        go_round
        case measure => simp [intOf]; omega
        case rel =>
          refine ⟨k + 1, by omega, by go_num, Lib.hid (fun j hj => ?_)⟩
          rcases Nat.lt_succ_iff_lt_or_eq.1 hj with h1 | h1
          · exact hall.out j h1
          · subst h1; rw [← HY.out]; simpa using fun e => HN.out e.symm
    · have hkn : k = n := by omega
      have HK := Lib.hid hkn
      clear hkn
      go_wp2_with fail
      go_ret
      refine ⟨?_, rfl⟩
      have hf : l.findIdx? (· == x) = none := by
        rw [List.findIdx?_eq_none_iff]
        intro z hz
        obtain ⟨j, hj, rfl⟩ := List.mem_iff_getElem.1 hz
        have h1 := hall.out j (by have := HLen.out; have := HK.out; omega)
        rw [List.getD_eq_getElem?_getD, List.getElem?_eq_getElem (by omega)] at h1
        simpa using h1
      rw [← HR.out]
      simp [iIdx, hf]
theorem iIdx_mem (l : List Int) (x : Int) : decide (0 ≤ iIdx l x) = decide (x ∈ l) := by
  unfold iIdx
  cases h : l.findIdx? (· == x) with
  | none =>
    rw [List.findIdx?_eq_none_iff] at h
    have : x ∉ l := fun hx => by simpa using h x hx
    simp [this]
  | some i =>
    rw [List.findIdx?_eq_some_iff_getElem] at h
    obtain ⟨hi, h1, _⟩ := h
    have : x ∈ l := by have h2 : l[i] = x := by simpa using h1
                       rw [← h2]; exact List.getElem_mem hi
    simp [this]
theorem icontains_any (g n c : Nat) (l : List Int) (hl : l.length = n) (hn : n ≤ 1000000) (x : Int) (w : World) (hc : intsAt w g l) :
    Calls Tryz.prog 61 #[.slice (some ⟨g, 0, none⟩) n c, .int .i64 x] w fun e w' => e = .returned (.bool (decide (x ∈ l))) ∧ w = w' := by
  have HI := Lib.hid (iindex_any g n c l hl hn x w hc)
  have hm := iIdx_mem l x
  obtain ⟨r, hr⟩ : ∃ r, iIdx l x = r := ⟨_, rfl⟩
  obtain ⟨b, hb⟩ : ∃ b, decide (x ∈ l) = b := ⟨_, rfl⟩
  rw [hr] at HI hm
  rw [hb] at hm ⊢
  clear hl hn hc hr hb
  go_enter Tryz.func61, Tryz.ntmps61
  go_wp2_with (go_at_call 121; refine HI.out.mono ?_; rintro e w' ⟨rfl, rfl⟩)
  go_ret
  exact ⟨rfl, rfl⟩

def OkPost (w : World) (b : Bool) (e : Ending) (w' : World) : Prop := e = .returned (.bool b) ∧ Upd Non w w'

set_option maxRecDepth 100000 in
set_option maxHeartbeats 4000000 in
theorem pallowed_31 (place : Int) (w : World) : Calls Tryz.prog 17 #[.int .i64 31, .int .i64 place] w (OkPost w (decide (place ∈ [2, 4, 5, 6, 7, 9, 11, 14, 15]))) := by
  have HC : Hid (∀ W, Upd Non w W → Calls Tryz.prog 61 #[.slice (some ⟨W.heap.size, 0, none⟩) 9 9, .int .i64 place] (W.alloc (.cells #[.int .i64 2, .int .i64 4, .int .i64 5, .int .i64 6, .int .i64 7, .int .i64 9, .int .i64 11, .int .i64 14, .int .i64 15] 3)) (OkPost w (decide (place ∈ ([2, 4, 5, 6, 7, 9, 11, 14, 15] : List Int))))) := Lib.hid (fun W hW => by
    refine (icontains_any W.heap.size 9 9 [2, 4, 5, 6, 7, 9, 11, 14, 15] rfl (by decide) place _ ?_).mono ?_
    · intro k hk
      rw [(Blk.new W 3 #[.int .i64 2, .int .i64 4, .int .i64 5, .int .i64 6, .int .i64 7, .int .i64 9, .int .i64 11, .int .i64 14, .int .i64 15]).cell k]
      rcases k with _ | _ | _ | _ | _ | _ | _ | _ | _ | k <;> first | rfl | (simp at hk; omega)
    · rintro e w' ⟨rfl, rfl⟩
      exact ⟨rfl, hW.alloc _⟩)
  generalize decide (place ∈ ([2, 4, 5, 6, 7, 9, 11, 14, 15] : List Int)) = b at *
  unfold OkPost at *
  go_enter Tryz.func17, Tryz.ntmps17
  go_wp2_with (go_at_call 61; refine (HC.out _ (Upd.refl _ _)).mono ?_; rintro e w' ⟨rfl, hu⟩)
  go_ret
  exact ⟨rfl, hu⟩

set_option maxRecDepth 100000 in
set_option maxHeartbeats 8000000 in
theorem pallowed_other (id place : Int) (h31 : (id == 31) = false) (w : World) : Calls Tryz.prog 17 #[.int .i64 id, .int .i64 place] w fun e w' => e = .returned (.bool (pOk id place)) ∧ w = w' := by
  go_enter Tryz.func17, Tryz.ntmps17
  go_wp2
  all_goals go_ret
  all_goals refine ⟨?_, rfl⟩
  all_goals refine congrArg (fun z => Ending.returned (.bool z)) ?_
  all_goals rw [Bool.eq_iff_iff]
  all_goals simp_all [pOk, pPlaces]
  all_goals omega
theorem pallowed_any (id place : Int) (w : World) : Calls Tryz.prog 17 #[.int .i64 id, .int .i64 place] w (OkPost w (pOk id place)) := by
  by_cases h : id = 31
  · subst h
    exact pallowed_31 place w
  · refine (pallowed_other id place (by simpa using h) w).mono ?_
    rintro e w' ⟨rfl, rfl⟩
    exact ⟨rfl, Upd.refl _ _⟩

end Go.Proofs.YtmmahkckemclaaaGreatDoor
