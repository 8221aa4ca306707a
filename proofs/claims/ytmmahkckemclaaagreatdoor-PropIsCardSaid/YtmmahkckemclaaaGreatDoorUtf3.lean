/- utf.walk, Letters, Check. Conditions: fewer than 2^47 bytes. -/
import Derived.Test.YtmmahkckemclaaaGreatDoorUtf2
namespace Go.Proofs.YtmmahkckemclaaaGreatDoor
open Go.RowKit

theorem uFirst_le (l : List UInt8) : uFirst l ≤ l.length := by
  cases l with
  | nil => simp [uFirst]
  | cons c r =>
    simp only [uFirst]
    repeat' split
    all_goals simp only [List.length_cons]
    all_goals omega
/-- How many bytes letters have that bytes begin with. -/
def uWalk : Nat → List UInt8 → Nat
  | 0, _ => 0
  | k + 1, l => if uFirst l = 0 then 0 else uFirst l + uWalk k (l.drop (uFirst l))
theorem uWalk_fuel : ∀ (n k : Nat) (l : List UInt8), l.length ≤ n → n ≤ k → uWalk k l = uWalk n l := by
  intro n
  induction n with
  | zero =>
    intro k l hl hk
    obtain rfl : l = [] := List.eq_nil_of_length_eq_zero (by omega)
    cases k with
    | zero => rfl
    | succ k => simp [uWalk, uFirst]
  | succ n ih =>
    intro k l hl hk
    obtain ⟨k, rfl⟩ : ∃ j, k = j + 1 := ⟨k - 1, by omega⟩
    simp only [uWalk]
    by_cases h0 : uFirst l = 0
    · rw [if_pos h0, if_pos h0]
    · rw [if_neg h0, if_neg h0, ih k (l.drop (uFirst l)) (by rw [List.length_drop]; omega) (by omega)]
theorem uWalk_le : ∀ (k : Nat) (l : List UInt8), uWalk k l ≤ l.length
  | 0, _ => by simp [uWalk]
  | k + 1, l => by
    simp only [uWalk]
    split
    · omega
    · have h1 := uWalk_le k (l.drop (uFirst l))
      have h2 := uFirst_le l
      rw [List.length_drop] at h1
      omega
/-- How many of the first bytes are letters. -/
def uCut (l : List UInt8) : Nat := uWalk l.length l
theorem uCut_step (l : List UInt8) (a : Nat) (h0 : uFirst (l.drop a) ≠ 0) : uCut (l.drop a) = uFirst (l.drop a) + uCut (l.drop (a + uFirst (l.drop a))) := by
  generalize hx : l.drop a = x at *
  have hd : l.drop (a + uFirst x) = x.drop (uFirst x) := by rw [← hx, List.drop_drop]
  rw [hd]
  cases x with
  | nil => simp [uFirst] at h0
  | cons c r =>
    have hle := uFirst_le (c :: r)
    unfold uCut
    rw [List.length_cons, uWalk, if_neg h0, List.length_drop, List.length_cons]
    congr 1
    rw [List.length_cons] at hle
    rw [uWalk_fuel (r.length + 1 - uFirst (c :: r)) r.length _ (by rw [List.length_drop, List.length_cons]; omega) (by omega)]
theorem uCut_stop (l : List UInt8) (h0 : uFirst l = 0) : uCut l = 0 := by
  unfold uCut
  cases l with
  | nil => rfl
  | cons c r => rw [List.length_cons, uWalk, if_pos h0]
theorem uCut_le (l : List UInt8) : uCut l ≤ l.length := uWalk_le _ _

theorem ext_end (s : ByteArray) (a : Nat) : (s.extract a s.size).data.toList = s.data.toList.drop a := by
  rw [ext_list, List.take_of_length_le (by rw [List.length_drop, ← size_list]; omega)]

set_option maxRecDepth 100000 in
set_option maxHeartbeats 2000000 in
theorem walk_any (s : ByteArray) (hs : s.size ≤ 140737488355328) (w : World) :
    Calls Tryz.prog 190 #[.string s] w fun e w' => (∃ m : Int, e = .returned (.tuple #[.int .i64 m, .int .i64 (uCut s.data.toList)])) ∧ Upd Non w w' := by
  obtain ⟨z, hz⟩ : ∃ z, uCut s.data.toList = z := ⟨_, rfl⟩
  rw [hz]
  have HZ := Lib.hid hz
  clear hz
  go_enter Tryz.func190, Tryz.ntmps190
  go_wp2_with fail
  go_loopg [4, 5] s.size (fun kq v4 v5 w' => ∃ (a : Nat) (m : Int), v4 = .int .i64 m ∧ v5 = .int .i64 a ∧ a ≤ s.size ∧ Hid (kq = s.size - a) ∧ Hid (z = a + uCut (s.data.toList.drop a)) ∧ Hid (Upd Non w w'))
  case atStart => exact ⟨0, 0, rfl, rfl, by omega, Lib.hid rfl, Lib.hid (by rw [List.drop_zero, HZ.out, Nat.zero_add]), Lib.hid (Upd.refl _ _)⟩
  case round =>
    obtain ⟨a, m, rfl, rfl, ha, hq, hzz, hu⟩ := hrel
    by_cases hlt : a < s.size
    · have hF := ufirst_any (s.extract a s.size) (by rw [ext_size _ _ _ (by omega) (by omega)]; omega)
      rw [ext_end s a] at hF
      have hle := uFirst_le (s.data.toList.drop a)
      rw [List.length_drop, ← size_list] at hle
      obtain ⟨x, hx⟩ : ∃ x, uFirst (s.data.toList.drop a) = x := ⟨_, rfl⟩
      rw [hx] at hF hle
      have HF := Lib.hid hF
      have HX := Lib.hid hx
      clear hF hx
      by_cases h0 : x = 0
      · subst h0
        go_wp2_with (go_at_call 196; refine (HF.out _).mono ?_; rintro e w1 ⟨rfl, hu1⟩; have HU1 := Lib.hid (hu.out.then hu1); clear hu1)
        go_ret2
        have hs0 := uCut_stop _ HX.out
        have hz1 := hzz.out
        rw [hs0] at hz1
        refine ⟨⟨m, ?_⟩, HU1.out⟩
        rw [hz1]
        rfl
      · have hx0 : ((x : Int) == 0) = false := by simp; omega
        have HX0 := Lib.hid h0
        clear h0
        go_wp2_with (go_at_call 196; refine (HF.out _).mono ?_; rintro e w1 ⟨rfl, hu1⟩; have HU1 := Lib.hid (hu.out.then hu1); clear hu1)
        go_roundg (gk - x)
        case measure => have := hq.out; have := HX0.out; omega
        case rel =>
          refine ⟨a + x, _, rfl, by go_num, by omega, Lib.hid ?_, Lib.hid ?_, HU1⟩
          · have := hq.out; omega
          · have h1 := uCut_step s.data.toList a (by rw [HX.out]; exact HX0.out)
            have := hzz.out
            rw [HX.out] at h1
            omega
    · go_wp2_with fail
      go_ret2
      have hz1 := hzz.out
      have hs0 : uCut (s.data.toList.drop a) = 0 := by
        have := uCut_le (s.data.toList.drop a)
        rw [List.length_drop, ← size_list] at this
        omega
      rw [hs0] at hz1
      refine ⟨⟨m, ?_⟩, hu.out⟩
      rw [hz1]
      rfl

/-- Why bytes may not be a text. -/
def uChk (s : ByteArray) : Option Flt :=
  if 65535 < s.size then some ⟨4, 129, 65535⟩ else if uCut s.data.toList < s.size then some ⟨2, 129, uCut s.data.toList⟩ else none
set_option maxRecDepth 100000 in
set_option maxHeartbeats 2000000 in
theorem letters_any (E : GE) (s : ByteArray) (hs : s.size ≤ 140737488355328) (w : World) (hG : Glob E w) :
    Calls Tryz.prog 172 #[.string s] w fun e w' => (∃ (m : Int) (ev : Value), e = .returned (.tuple #[.int .i64 m, ev]) ∧ ErrIs E w' ev (uChk s)) ∧ Upd Non w w' := by
  unfold uChk
  have g4 := hG.at_ 4 (by decide) (by decide)
  simp only [gix, GE.kd] at g4
  by_cases h1 : 65535 < s.size
  · rw [if_pos h1]
    go_enter Tryz.func172, Tryz.ntmps172
    go_wp2_with (go_at_call 66; refine (new_any _ _ _ _ _).mono ?_; rintro e w1 ⟨rfl, rfl⟩)
    go_ret2
    exact ⟨⟨_, _, rfl, ErrIs.new w 4 129 65535 (by decide) (by decide)⟩, (Upd.refl _ _).alloc _⟩
  · rw [if_neg h1]
    have hle := uCut_le s.data.toList
    rw [← size_list] at hle
    have HW := Lib.hid (walk_any s hs w)
    obtain ⟨z, hz⟩ : ∃ z, uCut s.data.toList = z := ⟨_, rfl⟩
    rw [hz] at hle HW ⊢
    clear hz
    by_cases h2 : z < s.size
    · rw [if_pos h2]
      go_enter Tryz.func172, Tryz.ntmps172
      go_wp2_with (first
        | (go_at_call 190
           refine HW.out.mono ?_
           rintro e w1 ⟨⟨m, rfl⟩, hu⟩
           have g2 := (hG.non hu).at_ 2 (by decide) (by decide)
           simp only [gix, GE.kd] at g2
           have HU := Lib.hid hu
           clear hu)
        | (go_at_call 66; refine (new_any _ _ _ _ _).mono ?_; rintro e w2 ⟨rfl, rfl⟩))
      go_ret2
      exact ⟨⟨_, _, rfl, ErrIs.new _ 2 129 _ (by decide) (by decide)⟩, HU.out.alloc _⟩
    · rw [if_neg h2]
      go_enter Tryz.func172, Tryz.ntmps172
      go_wp2_with (go_at_call 190
                   refine HW.out.mono ?_
                   rintro e w1 ⟨⟨m, rfl⟩, hu⟩
                   have HU := Lib.hid hu
                   clear hu)
      go_ret2
      exact ⟨⟨_, _, rfl, rfl⟩, HU.out⟩
theorem uchk_any (E : GE) (s : ByteArray) (hs : s.size ≤ 140737488355328) (w : World) (hG : Glob E w) :
    Calls Tryz.prog 123 #[.string s] w fun e w' => (∃ ev, e = .returned ev ∧ ErrIs E w' ev (uChk s)) ∧ Upd Non w w' := by
  have HL := Lib.hid (letters_any E s hs w hG)
  go_enter Tryz.func123, Tryz.ntmps123
  go_wp2_with (go_at_call 172
               refine HL.out.mono ?_
               rintro e w1 ⟨⟨m, ev, rfl, he⟩, hu⟩
               have HE := Lib.hid he
               have HU := Lib.hid hu
               clear he hu)
  go_ret
  exact ⟨⟨_, rfl, HE.out⟩, HU.out⟩
end Go.Proofs.YtmmahkckemclaaaGreatDoor
