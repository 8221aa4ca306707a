/- utf.first. Conditions: fewer than 2^47 bytes. -/
import Derived.Test.YtmmahkckemclaaaGreatDoorUtf1
import Derived.Test.YtmmahkckemclaaaGreatDoorRt
namespace Go.Proofs.YtmmahkckemclaaaGreatDoor
open Go.RowKit

/-- A byte behind a letter's first one. -/
def uMore (c : UInt8) : Bool := decide (128 ≤ c.toNat) && decide (c.toNat < 192)
def uNum (n : Int) (l : List UInt8) : Int := l.foldl (fun n c => n * 64 + (c.toNat : Int) % 64) n
theorem uNum_snoc (n : Int) (l : List UInt8) (c : UInt8) : uNum n (l ++ [c]) = uNum n l * 64 + (c.toNat : Int) % 64 := by simp [uNum]
/-- Is a number a letter of at least so much? -/
def uOk (n least : Int) : Bool := decide (least ≤ n) && decide (n ≤ 1114111) && !(decide (55296 ≤ n) && decide (n ≤ 57343))
def uFirst : List UInt8 → Nat
  | [] => 0
  | c :: r =>
    let p := uShape (c.toNat : Int)
    if r.length < p.1 then 0
    else if (r.take p.1).all uMore = false then 0
    else if uOk (uNum p.2.1 (r.take p.1)) p.2.2 = false then 0
    else p.1 + 1

theorem u_and192 (c : UInt8) : bits .and .u8 (c.toNat : Int) 192 = if uMore c then 128 else (c.toNat : Int) / 64 * 64 := by
  have h : ∀ i : Fin 256, bits .and .u8 ((i.val : Nat) : Int) 192 = (i.val : Int) / 64 * 64 := by decide +kernel
  have h1 := h ⟨c.toNat, c.toNat_lt⟩
  simp only at h1
  rw [h1]
  unfold uMore
  have := c.toNat_lt
  by_cases a : 128 ≤ c.toNat <;> by_cases b : c.toNat < 192 <;> simp [a, b] <;> omega
theorem u_and63 (c : UInt8) : bits .and .u8 (c.toNat : Int) 63 = (c.toNat : Int) % 64 := by
  have h : ∀ i : Fin 256, bits .and .u8 ((i.val : Nat) : Int) 63 = (i.val : Int) % 64 := by decide +kernel
  exact h ⟨c.toNat, c.toNat_lt⟩
theorem or6_i64 (a c : Int) (h0 : 0 ≤ a) (h1 : a < 36028797018963968) (h2 : 0 ≤ c) (h3 : c < 64) : bits .or .i64 (wrap64 (a * 64)) c = a * 64 + c := by
  rw [wrap64_of _ (by omega) (by omega)]
  exact bits_join .i64 63 (by decide) wraps_i64 6 (a * 64) c (by omega) (by omega) (by omega) h2 (by omega) (by omega)
theorem uNum_bd (n : Int) (l : List UInt8) (h0 : 0 ≤ n) (h1 : n < 128) (hl : l.length ≤ 3) : 0 ≤ uNum n l ∧ uNum n l < 33554432 := by
  rcases l with _ | ⟨a, _ | ⟨b, _ | ⟨c, _ | ⟨d, l⟩⟩⟩⟩
  all_goals first | (simp only [List.length_cons] at hl; omega) | skip
  all_goals simp only [uNum, List.foldl_cons, List.foldl_nil]
  all_goals omega

theorem list_head (s : ByteArray) (h : 0 < s.size) : s.data.toList = s[0] :: (s.extract 1 s.size).data.toList := by
  have e1 : s.data.toList = s.data.toList.drop 0 := rfl
  have hl : 0 < s.data.toList.length := by rw [← size_list]; exact h
  rw [e1, List.drop_eq_getElem_cons hl, ext_list]
  congr 1
  rw [List.take_of_length_le (by rw [List.length_drop, ← size_list]; omega)]

set_option maxRecDepth 100000 in
set_option maxHeartbeats 2000000 in
theorem first_short (s : ByteArray) (h : 0 < s.size) (f : Nat) (n0 least : Int) (hS : uShape (s[0].toNat : Int) = (f, n0, least)) (hf : s.size ≤ f) (w : World) :
    Calls Tryz.prog 196 #[.string s] w fun e w' => e = .returned (.int .i64 0) ∧ w = w' := by
  have hC := shape_any (s[0].toNat : Int) (by omega) (by have := s[0].toNat_lt; omega) w
  rw [hS] at hC
  have HC := Lib.hid hC
  clear hC hS
  have h' : (0 : Int) < s.size := by omega
  generalize hc : s[0] = c at HC
  have HH := Lib.hid hc
  have hcc : ((s[0].toNat : Int)) = (c.toNat : Int) := by rw [hc]
  clear hc
  go_enter Tryz.func196, Tryz.ntmps196
  go_wp2_with (go_at_call 199; refine HC.out.mono ?_; rintro e w' ⟨rfl, rfl⟩)
  go_ret
  exact ⟨rfl, rfl⟩

theorem list_get (s : ByteArray) (i : Nat) (h : i < s.size) : s.data.toList.getD i 0 = s[i] := by
  have hl : i < s.data.toList.length := by rw [← size_list]; exact h
  rw [List.getD_eq_getElem?_getD, List.getElem?_eq_getElem hl]
  rfl
theorem ext_size (s : ByteArray) (a b : Nat) (h : a ≤ b) (hb : b ≤ s.size) : (s.extract a b).size = b - a := by
  rw [ByteArray.size_extract]; omega

set_option maxRecDepth 100000 in
set_option maxHeartbeats 2000000 in
theorem first_long (s : ByteArray) (h : 0 < s.size) (f : Nat) (n0 least : Int) (hS : uShape (s[0].toNat : Int) = (f, n0, least)) (hf : f < s.size) (hf3 : f ≤ 3) (h00 : 0 ≤ n0) (h01 : n0 < 128) (w : World)
    (l : List UInt8) (hl : (s.extract 1 (f + 1)).data.toList = l) (r : Int) (HR : Hid (r = if l.all uMore = false then 0 else if uOk (uNum n0 l) least = false then 0 else (f : Int) + 1)) :
    Calls Tryz.prog 196 #[.string s] w fun e w' => e = .returned (.int .i64 r) ∧ Upd Non w w' := by
  have hC := shape_any (s[0].toNat : Int) (by omega) (by have := s[0].toNat_lt; omega) w
  rw [hS] at hC
  have HC := Lib.hid hC
  clear hC hS
  have h' : (0 : Int) < s.size := by omega
  generalize hc : s[0] = c at HC
  have HH := Lib.hid hc
  have hcc : ((s[0].toNat : Int)) = (c.toNat : Int) := by rw [hc]
  clear hc
  have hll : l.length = f := by rw [← hl, ← size_list, ext_size s 1 (f + 1) (by omega) (by omega)]; omega
  have hcv := fun (W : World) (x : ByteArray) => Lib.run_convert_string_bytes (P := Tryz.prog) W 9 88 5 x Tryz.underlying9 Tryz.underlying88 Tryz.underlying5
  have hx := ext_size s 1 (f + 1) (by omega) (by omega)
  have hf1 : (f : Int) + 1 ≤ s.size := by omega
  have HL := Lib.hid hl
  have HX := Lib.hid hx
  have HLL := Lib.hid hll
  clear hl hx hll
  go_enter Tryz.func196, Tryz.ntmps196
  go_wp2_with (go_at_call 199; refine HC.out.mono ?_; rintro e w' ⟨rfl, rfl⟩)
  have hU := Upd.bytesWorld w 5 (s.extract 1 (f + 1))
  have hcell := fun j hj => Lib.bytesWorld_cell w 5 (s.extract 1 (f + 1)) j hj
  rw [HL.out, HX.out] at hcell
  generalize Lib.bytesWorld w 5 (s.extract 1 (f + 1)) = w2 at *
  have HU := Lib.hid hU
  clear hcv hU
  go_loop [4, 25] (fun n i => ∃ k : Nat, k ≤ f ∧ i = .int .i64 k ∧ n = .int .i64 (uNum n0 (l.take k)) ∧ Hid ((l.take k).all uMore = true)) (fun _ i => f - (intOf i).toNat)
  case atStart => exact ⟨0, by omega, rfl, rfl, Lib.hid rfl⟩
  case round =>
    obtain ⟨k, hk, rfl, rfl, hall⟩ := hrel
    have hb := uNum_bd n0 (l.take k) h00 h01 (by rw [List.length_take]; omega)
    by_cases hlt : k < f
    · have hc := hcell k (by omega)
      have hkl : k < l.length := by have := HLL.out; omega
      have e1 : l.take (k + 1) = l.take k ++ [l.getD k 0] := by
        rw [List.take_succ_eq_append_getElem hkl, List.getD_eq_getElem?_getD, List.getElem?_eq_getElem hkl]; rfl
      have hmem : l.getD k 0 ∈ l := by
        rw [List.getD_eq_getElem?_getD, List.getElem?_eq_getElem hkl]; exact List.getElem_mem hkl
      obtain ⟨d, hd⟩ : ∃ d, d = l.getD k 0 := ⟨_, rfl⟩
      rw [← hd] at hc e1 hmem
      have E1 := Lib.hid e1
      have HM := Lib.hid hmem
      have hd256 := d.toNat_lt
      have a0 := u_and63 d
      have a1 := u_and192 d
      clear hcell hd e1 hmem
      by_cases hm : uMore d = true
      · rw [if_pos hm] at a1
        have HU1 := Lib.hid hm
        clear hm
        go_wp2_with fail
        go_round
        case measure => simp [intOf]; omega
        case rel =>
          refine ⟨k + 1, by omega, by go_num, ?_, ?_⟩
          · have h6 := or6_i64 (uNum n0 (l.take k)) ((d.toNat : Int) % 64) hb.1 (by omega) (by omega) (by omega)
            rw [wrap64_of _ (by omega) (by omega)] at h6
            rw [h6, E1.out, uNum_snoc]
          · exact Lib.hid (by rw [E1.out, List.all_append, hall.out]; simp [HU1.out])
      · have hm' : uMore d = false := by simpa using hm
        have hne : ((d.toNat : Int) / 64 * 64 != 128) = true := by
          simp only [uMore, Bool.and_eq_false_iff, decide_eq_false_iff_not] at hm'
          simp; omega
        rw [if_neg hm] at a1
        have HU1 := Lib.hid hm'
        clear hm hm'
        go_wp2_with fail
        go_ret
        refine ⟨?_, HU.out⟩
        have : l.all uMore = false := by
          rw [List.all_eq_false]
          exact ⟨d, HM.out, by rw [HU1.out]; simp⟩
        rw [HR.out, if_pos this]
        rfl
    · have hkf : k = f := by omega
      have hlk : l.take k = l := List.take_of_length_le (by have := HLL.out; omega)
      rw [hlk] at hall hb ⊢
      have HK := Lib.hid hkf
      have hr := HR.out
      rw [if_neg (by rw [hall.out]; simp)] at hr
      clear hkf hlk
      obtain ⟨n, hn⟩ : ∃ n, n = uNum n0 l := ⟨_, rfl⟩
      rw [← hn] at hb hr ⊢
      clear hn
      obtain ⟨hb0, hb1⟩ := hb
      by_cases c1 : n < least
      · have : uOk n least = false := by simp [uOk]; omega
        rw [if_pos this] at hr
        subst hr
        go_wp2_with fail
        go_ret
        exact ⟨rfl, HU.out⟩
      · have d1 : decide (n < least) = false := by simpa using c1
        by_cases c2 : 1114111 < n
        · have : uOk n least = false := by simp [uOk]; omega
          rw [if_pos this] at hr
          subst hr
          go_wp2_with fail
          go_ret
          exact ⟨rfl, HU.out⟩
        · have d2 : decide (1114111 < n) = false := by simpa using c2
          by_cases c3 : 55296 ≤ n
          · by_cases c4 : n ≤ 57343
            · have : uOk n least = false := by simp [uOk]; omega
              rw [if_pos this] at hr
              subst hr
              go_wp2_with fail
              go_ret
              exact ⟨rfl, HU.out⟩
            · have d4 : decide (n ≤ 57343) = false := by simpa using c4
              have : uOk n least = true := by simp [uOk]; omega
              rw [if_neg (by rw [this]; simp)] at hr
              subst hr
              go_wp2_with fail
              go_ret
              exact ⟨rfl, HU.out⟩
          · have d3 : decide (55296 ≤ n) = false := by simpa using c3
            have : uOk n least = true := by simp [uOk]; omega
            rw [if_neg (by rw [this]; simp)] at hr
            subst hr
            go_wp2_with fail
            go_ret
            exact ⟨rfl, HU.out⟩
theorem ufirst_any (s : ByteArray) (h : 0 < s.size) (w : World) :
    Calls Tryz.prog 196 #[.string s] w fun e w' => e = .returned (.int .i64 (uFirst s.data.toList)) ∧ Upd Non w w' := by
  have hl := list_head s h
  obtain ⟨q, hq⟩ : ∃ q, uShape (s[0].toNat : Int) = q := ⟨_, rfl⟩
  have hb := uShape_bd (s[0].toNat : Int)
  rw [hq] at hb
  obtain ⟨f, n0, least⟩ := q
  have hlen : (s.extract 1 s.size).data.toList.length = s.size - 1 := by rw [← size_list, ext_size _ _ _ (by omega) (by omega)]
  have hu : uFirst s.data.toList = if (s.extract 1 s.size).data.toList.length < f then 0 else if ((s.extract 1 s.size).data.toList.take f).all uMore = false then 0 else if uOk (uNum n0 ((s.extract 1 s.size).data.toList.take f)) least = false then 0 else f + 1 := by
    rw [hl]
    simp only [uFirst, hq]
  rw [hu, hlen]
  by_cases hf : s.size ≤ f
  · rw [if_pos (by omega)]
    exact (first_short s h f n0 least hq hf w).mono fun e w' ⟨h1, h2⟩ => ⟨h1, h2 ▸ Upd.refl _ _⟩
  · rw [if_neg (by omega)]
    have e1 : (s.extract 1 (f + 1)).data.toList = (s.extract 1 s.size).data.toList.take f := by
      rw [ext_list, ext_list, List.take_take]
      congr 1
      omega
    refine first_long s h f n0 least hq (by omega) hb.1 hb.2.1 hb.2.2 w _ e1 _ (Lib.hid ?_)
    split
    · rfl
    · split
      · rfl
      · omega
end Go.Proofs.YtmmahkckemclaaaGreatDoor
