/- Properties, more: ground, Get, Number. Conditions: the package variables hold what the program lays there. -/
import Derived.Test.YtmmahkckemclaaaGreatDoorProp2
namespace Go.Proofs.YtmmahkckemclaaaGreatDoor
open Go.RowKit

/-- May a property be often? -/
def pOften (id place : Int) : Bool := id == 38 || id == 11 && place == 3
/-- Why a property may not stand behind others. -/
def pGround (place : Int) (l : List Pr) (id a : Int) : Option Flt :=
  if 64 ≤ l.length then some ⟨4, 149, a⟩
  else if (pTy id == 0) = true then some ⟨2, 129, a⟩
  else if pOk id place = false then some ⟨2, 129, a⟩
  else if pOften id place = false ∧ l.any (fun p => p.id == id) = true then some ⟨3, 130, a⟩
  else none

theorem pways (id place : Int) : id = 38 ∨ (id = 11 ∧ place = 3) ∨ (id = 11 ∧ (place == 3) = false) ∨ ((id == 38) = false ∧ (id == 11) = false) := by
  by_cases h1 : id = 38
  · exact .inl h1
  by_cases h2 : id = 11
  · by_cases h3 : place = 3
    · exact .inr (.inl ⟨h2, h3⟩)
    · exact .inr (.inr (.inl ⟨h2, by simpa using h3⟩))
  · exact .inr (.inr (.inr ⟨by simpa using h1, by simpa using h2⟩))

section
variable (E : GE) (place id a : Int) (A : Option Addr) (l : List Pr) (n c : Nat) (w : World)
set_option maxRecDepth 100000 in
set_option maxHeartbeats 4000000 in
theorem pground_many (hG : Glob E w) (h64 : 64 ≤ n) :
    Calls Tryz.prog 160 #[.int .i64 place, .slice A n c, .int .i64 id, .int .i64 a] w (ErrPost E w (some ⟨4, 149, a⟩)) := by
  have hU := (Upd.refl Non w).alloc (.cells #[.int .i64 id] 3)
  have g4 := (hG.non hU).at_ 4 (by decide) (by decide)
  simp only [gix, GE.kd] at g4
  have HU := Lib.hid hU
  clear hU hG
  unfold ErrPost
  rcases pways id place with rfl | ⟨rfl, rfl⟩ | ⟨rfl, hw3⟩ | ⟨hw1, hw2⟩
  all_goals
    go_enter Tryz.func160, Tryz.ntmps160
    go_wp2_with (go_at_call 66; refine (new_any _ _ _ _ _).mono ?_; rintro e w2 ⟨rfl, rfl⟩)
    go_ret
    exact ⟨⟨_, rfl, ErrIs.new_at (E := E) _ 4 149 a (by decide) (by decide) (by simp)⟩, HU.out.alloc _⟩

set_option maxRecDepth 100000 in
set_option maxHeartbeats 4000000 in
theorem pground_type (hG : Glob E w) (h64 : ¬ 64 ≤ n) (ht : (pTy id == 0) = true) :
    Calls Tryz.prog 160 #[.int .i64 place, .slice A n c, .int .i64 id, .int .i64 a] w (ErrPost E w (some ⟨2, 129, a⟩)) := by
  have hU := (Upd.refl Non w).alloc (.cells #[.int .i64 id] 3)
  have g2 := (hG.non hU).at_ 2 (by decide) (by decide)
  simp only [gix, GE.kd] at g2
  have HU := Lib.hid hU
  have HP := Lib.hid (ptype_any id (w.alloc (.cells #[.int .i64 id] 3)))
  have hlt : n < 64 := by omega
  generalize pTy id = t at *
  obtain rfl : t = 0 := by simpa using ht
  clear hU hG h64 ht
  unfold ErrPost
  rcases pways id place with rfl | ⟨rfl, rfl⟩ | ⟨rfl, hw3⟩ | ⟨hw1, hw2⟩
  all_goals
    go_enter Tryz.func160, Tryz.ntmps160
    go_wp2_with (first
      | (go_at_call 15; refine HP.out.mono ?_; rintro e w' ⟨rfl, rfl⟩)
      | (go_at_call 66; refine (new_any _ _ _ _ _).mono ?_; rintro e w2 ⟨rfl, rfl⟩))
    go_ret
    exact ⟨⟨_, rfl, ErrIs.new_at (E := E) _ 2 129 a (by decide) (by decide) (by simp)⟩, HU.out.alloc _⟩

set_option maxRecDepth 100000 in
set_option maxHeartbeats 4000000 in
theorem pground_place (hG : Glob E w) (h64 : ¬ 64 ≤ n) (ht : (pTy id == 0) = false) (hp : pOk id place = false) :
    Calls Tryz.prog 160 #[.int .i64 place, .slice A n c, .int .i64 id, .int .i64 a] w (ErrPost E w (some ⟨2, 129, a⟩)) := by
  have hU := (Upd.refl Non w).alloc (.cells #[.int .i64 id] 3)
  have HG := Lib.hid (hG.non hU)
  have HU := Lib.hid hU
  have HP := Lib.hid (ptype_any id (w.alloc (.cells #[.int .i64 id] 3)))
  have HA := Lib.hid (pallowed_any id place (w.alloc (.cells #[.int .i64 id] 3)))
  have hlt : n < 64 := by omega
  rw [hp] at HA
  unfold OkPost at HA
  generalize pTy id = t at *
  clear hU hG h64 hp
  unfold ErrPost
  rcases pways id place with rfl | ⟨rfl, rfl⟩ | ⟨rfl, hw3⟩ | ⟨hw1, hw2⟩
  all_goals
    go_enter Tryz.func160, Tryz.ntmps160
    go_wp2_with (first
      | (go_at_call 15; refine HP.out.mono ?_; rintro e w' ⟨rfl, rfl⟩)
      | (go_at_call 17
         refine HA.out.mono ?_
         rintro e w1 ⟨rfl, hu⟩
         have HU1 := Lib.hid (HU.out.then hu)
         have g2 := (HG.out.non hu).at_ 2 (by decide) (by decide)
         simp only [gix, GE.kd] at g2
         clear hu)
      | (go_at_call 66; refine (new_any _ _ _ _ _).mono ?_; rintro e w2 ⟨rfl, rfl⟩))
    go_ret
    exact ⟨⟨_, rfl, ErrIs.new_at (E := E) _ 2 129 a (by decide) (by decide) (by simp)⟩, HU1.out.alloc _⟩

set_option maxRecDepth 100000 in
set_option maxHeartbeats 8000000 in
theorem pground_often (h64 : ¬ 64 ≤ n) (ht : (pTy id == 0) = false) (hp : pOk id place = true) (ho : id = 38 ∨ id = 11 ∧ place = 3) :
    Calls Tryz.prog 160 #[.int .i64 place, .slice A n c, .int .i64 id, .int .i64 a] w (ErrPost E w none) := by
  have hU := (Upd.refl Non w).alloc (.cells #[.int .i64 id] 3)
  have HU := Lib.hid hU
  have HP := Lib.hid (ptype_any id (w.alloc (.cells #[.int .i64 id] 3)))
  have HA := Lib.hid (pallowed_any id place (w.alloc (.cells #[.int .i64 id] 3)))
  have hlt : n < 64 := by omega
  rw [hp] at HA
  unfold OkPost at HA
  generalize pTy id = t at *
  clear hU h64 hp
  unfold ErrPost
  rcases ho with rfl | ⟨rfl, rfl⟩
  all_goals
    go_enter Tryz.func160, Tryz.ntmps160
    go_wp2_with (first
      | (go_at_call 15; refine HP.out.mono ?_; rintro e w' ⟨rfl, rfl⟩)
      | (go_at_call 17
         refine HA.out.mono ?_
         rintro e w1 ⟨rfl, hu⟩
         have HU1 := Lib.hid (HU.out.then hu)
         clear hu))
    go_ret
    exact ⟨⟨_, rfl, rfl⟩, HU1.out⟩

set_option maxRecDepth 100000 in
set_option maxHeartbeats 8000000 in
theorem pground_once (hG : Glob E w) (hr : PrRow w A l) (hn : l.length = n) (h64 : ¬ 64 ≤ n) (ht : (pTy id == 0) = false) (hp : pOk id place = true) (h38 : (id == 38) = false) (h11 : (id == 11) = false ∨ (place == 3) = false) :
    Calls Tryz.prog 160 #[.int .i64 place, .slice A n c, .int .i64 id, .int .i64 a] w (ErrPost E w (if l.any (fun p => p.id == id) = true then some ⟨3, 130, a⟩ else none)) := by
  have hU := (Upd.refl Non w).alloc (.cells #[.int .i64 id] 3)
  have HU := Lib.hid hU
  have HG := Lib.hid hG
  have HP := Lib.hid (ptype_any id (w.alloc (.cells #[.int .i64 id] 3)))
  have HA := Lib.hid (pallowed_any id place (w.alloc (.cells #[.int .i64 id] 3)))
  have hlt : n < 64 := by omega
  have hbk : ∀ W, Upd Non (w.alloc (.cells #[.int .i64 id] 3)) W → Blk W w.heap.size 3 #[.int .i64 id] := fun W hW => (Blk.new w 3 #[.int .i64 id]).upd hW (fun h => h)
  have HC : Hid (∀ W, Upd Non (w.alloc (.cells #[.int .i64 id] 3)) W → Calls Tryz.prog 183 #[.slice A n c, .func (.func 184) #[] #[.pointer (some ⟨w.heap.size, 0, none⟩)]] W fun e w' => e = .returned (.bool (l.any (fun p => p.id == id))) ∧ Upd Non W w') := Lib.hid (fun W hW => by
    have hb := hbk W hW
    exact pcontf_any 184 w.heap.size (fun p => p.id == id) (by intro args w; exact enters_of Tryz.func184 (by kernel_rfl) rfl args w) A l n c hn W (hr.updNon (hU.then hW)) (tells_ground w.heap.size id W (hb.cell 0) hb.lt))
  rw [hp] at HA
  unfold OkPost at HA
  generalize pTy id = t at *
  generalize l.any (fun p => p.id == id) = q at *
  clear hU h64 hp hr hn hG hbk
  have hmf : ∀ (fn : Fn) (first cap : Array Value) (w : World), (Instr.makeFunc fn first cap).run Tryz.prog w = .ok (.func fn first cap) w := fun _ _ _ _ => rfl
  unfold ErrPost
  cases q with
  | true =>
    rw [if_pos rfl]
    rcases pways id place with rfl | ⟨rfl, rfl⟩ | ⟨rfl, hw3⟩ | ⟨hw1, hw2⟩
    · exact absurd h38 (by decide)
    · exact absurd h11 (by decide)
    all_goals
      clear h38 h11
      go_enter Tryz.func160, Tryz.ntmps160
      go_wp2_with (first
        | (go_at_call 15; refine HP.out.mono ?_; rintro e w' ⟨rfl, rfl⟩)
        | (go_at_call 17
           refine HA.out.mono ?_
           rintro e w1 ⟨rfl, hu⟩
           have HU1 := Lib.hid hu
           clear hu)
        | (go_at_call 183
           refine (HC.out _ HU1.out).mono ?_
           rintro e w2 ⟨rfl, hu⟩
           have HU2 := Lib.hid (HU.out.then (HU1.out.then hu))
           have g3 := (HG.out.non HU2.out).at_ 3 (by decide) (by decide)
           simp only [gix, GE.kd] at g3
           clear hu)
        | (go_at_call 66; refine (new_any _ _ _ _ _).mono ?_; rintro e w3 ⟨rfl, rfl⟩))
      go_ret
      exact ⟨⟨_, rfl, ErrIs.new_at (E := E) _ 3 130 a (by decide) (by decide) (by simp)⟩, HU2.out.alloc _⟩
  | false =>
    rw [if_neg (by simp)]
    rcases pways id place with rfl | ⟨rfl, rfl⟩ | ⟨rfl, hw3⟩ | ⟨hw1, hw2⟩
    · exact absurd h38 (by decide)
    · exact absurd h11 (by decide)
    all_goals
      clear h38 h11
      go_enter Tryz.func160, Tryz.ntmps160
      go_wp2_with (first
        | (go_at_call 15; refine HP.out.mono ?_; rintro e w' ⟨rfl, rfl⟩)
        | (go_at_call 17
           refine HA.out.mono ?_
           rintro e w1 ⟨rfl, hu⟩
           have HU1 := Lib.hid hu
           clear hu)
        | (go_at_call 183
           refine (HC.out _ HU1.out).mono ?_
           rintro e w2 ⟨rfl, hu⟩
           have HU2 := Lib.hid (HU.out.then (HU1.out.then hu))
           clear hu))
      go_ret
      exact ⟨⟨_, rfl, rfl⟩, HU2.out⟩
theorem pground_any (hG : Glob E w) (hr : PrRow w A l) (hn : l.length = n) :
    Calls Tryz.prog 160 #[.int .i64 place, .slice A n c, .int .i64 id, .int .i64 a] w (ErrPost E w (pGround place l id a)) := by
  unfold pGround
  rw [hn]
  by_cases h1 : 64 ≤ n
  · rw [if_pos h1]; exact pground_many E place id a A n c w hG h1
  rw [if_neg h1]
  by_cases h2 : (pTy id == 0) = true
  · rw [if_pos h2]; exact pground_type E place id a A n c w hG h1 h2
  rw [if_neg h2]
  have h2' : (pTy id == 0) = false := by simpa using h2
  by_cases h3 : pOk id place = false
  · rw [if_pos h3]; exact pground_place E place id a A n c w hG h1 h2' h3
  rw [if_neg h3]
  have h3' : pOk id place = true := by simpa using h3
  by_cases h4 : id = 38 ∨ id = 11 ∧ place = 3
  · have ho : pOften id place = true := by unfold pOften; rcases h4 with rfl | ⟨rfl, rfl⟩ <;> rfl
    rw [ho, if_neg (by simp)]
    exact pground_often E place id a A n c w h1 h2' h3' h4
  · have h5 : (id == 38) = false := by simp; omega
    have h6 : (id == 11) = false ∨ (place == 3) = false := by
      by_cases h : id = 11
      · right; simp; omega
      · left; simpa using h
    have ho : pOften id place = false := by unfold pOften; rcases h6 with h6 | h6 <;> simp [h5, h6]
    rw [ho]
    simp only [true_and]
    exact pground_once E place id a A l n c w hG hr hn h1 h2' h3' h5 h6
end
end Go.Proofs.YtmmahkckemclaaaGreatDoor
