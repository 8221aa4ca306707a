/- Plain laws: what the writer writes the reader reads, and what is read is written so. No condition. -/
import Derived.Test.YtmmahkckemclaaaGreatDoorRd4
import Derived.Test.YtmmahkckemclaaaGreatDoorWr3
namespace Go.Proofs.YtmmahkckemclaaaGreatDoor
open Go.RowKit

/-! ### Numbers and bytes -/
theorem beVal_app (a b : List UInt8) : beVal (a ++ b) = b.foldl (fun n c => n * 256 + (c.toNat : Int)) (beVal a) := by simp [beVal]
theorem beVal_beN : ∀ (k : Nat) (n : Int), 0 ≤ n → n < 256 ^ k → beVal (beN k n) = n
  | 0, n, h0, h1 => by simp at h1; simp [beN, beVal]; omega
  | k + 1, n, h0, h1 => by
    have hp : (256 : Int) ^ (k + 1) = 256 ^ k * 256 := Int.pow_succ ..
    rw [beN, beVal_snoc, beVal_beN k (n / 256) (by omega) (by omega), b8_toNat]
    omega
theorem b8_of (c : UInt8) (m : Int) : b8 (m * 256 + (c.toNat : Int)) = c := by
  have hc := c.toNat_lt
  apply UInt8.toNat_inj.1
  have := b8_toNat (m * 256 + (c.toNat : Int))
  omega
theorem beN_beVal : ∀ (k : Nat) (bs : List UInt8), bs.length = k → beN k (beVal bs) = bs
  | 0, bs, h => by rw [List.eq_nil_of_length_eq_zero h]; rfl
  | k + 1, bs, h => by
    have hne : bs ≠ [] := by intro e; rw [e] at h; cases h
    have e1 : bs = bs.dropLast ++ [bs.getLast hne] := (List.dropLast_concat_getLast hne).symm
    have hl : bs.dropLast.length = k := by rw [List.length_dropLast]; omega
    generalize bs.dropLast = d at e1 hl
    generalize bs.getLast hne = c at e1
    subst e1
    have hc := c.toNat_lt
    rw [beVal_snoc, beN, b8_of, show (beVal d * 256 + (c.toNat : Int)) / 256 = beVal d by omega, beN_beVal k d hl]

theorem ext_list (s : ByteArray) (a b : Nat) : (s.extract a b).data.toList = (s.data.toList.drop a).take (b - a) := by
  rw [ByteArray.data_extract, Array.toList_extract, List.extract_eq_take_drop]
theorem size_list (s : ByteArray) : s.size = s.data.toList.length := by rw [Array.length_toList]; rfl

section
variable {s : ByteArray} {p q bs : List UInt8}
theorem rRaw_of (h : s.data.toList = p ++ (bs ++ q)) : rRaw s ⟨p.length, none⟩ bs.length = (str bs, ⟨(p ++ bs).length, none⟩) := by
  have hl : s.size = p.length + (bs.length + q.length) := by rw [size_list, h]; simp
  have e1 : s.extract p.length (p.length + bs.length) = str bs := by
    have := ext_list s p.length (p.length + bs.length)
    rw [h, List.drop_left, Nat.add_sub_cancel_left, List.take_left] at this
    have h2 := str_data (s.extract p.length (p.length + bs.length))
    rw [this] at h2
    exact h2.symm
  simp only [rRaw]
  rw [if_neg (by omega), if_neg (by omega), Int.toNat_natCast, e1]
  simp
theorem rNum_of (k : Nat) (n : Int) (h : s.data.toList = p ++ (beN k n ++ q)) (h0 : 0 ≤ n) (h1 : n < 256 ^ k) : rNum k s ⟨p.length, none⟩ = (n, ⟨(p ++ beN k n).length, none⟩) := by
  have := rRaw_of h
  rw [beN_length] at this
  unfold rNum
  rw [this]
  simp only [str_toList, beVal_beN k n h0 h1]
theorem rBin_of (b : ByteArray) (hb : b.size < 65536) (h : s.data.toList = p ++ ((beN 2 b.size ++ b.data.toList) ++ q)) : rBin s ⟨p.length, none⟩ = (b, ⟨(p ++ (beN 2 b.size ++ b.data.toList)).length, none⟩) := by
  have e1 := rNum_of (s := s) (p := p) (q := b.data.toList ++ q) 2 b.size (by rw [h]; simp) (by omega) (by simp; omega)
  have e2 := rRaw_of (s := s) (p := p ++ beN 2 b.size) (q := q) (bs := b.data.toList) (by rw [h]; simp)
  rw [← size_list] at e2
  unfold rBin
  simp only [e1, e2, str_data, rBack]
  simp
end

/-! ### What is read without an error -/
section
variable {s : ByteArray} {st : RSt}
theorem rRaw_none (n : Int) (h : (rRaw s st n).2.f = none) : st.f = none := by
  unfold rRaw at h
  split at h
  · rename_i f hf; rw [hf] at h; cases h
  · assumption
theorem rNum_none (k : Nat) (h : (rNum k s st).2.f = none) : st.f = none := rRaw_none _ h
theorem rBack_none (a : Nat) (h : (rBack st a).f = none) : st.f = none ∧ rBack st a = st := by
  unfold rBack at h ⊢
  split
  · rename_i f hf; rw [hf] at h; cases h
  · exact ⟨by assumption, rfl⟩
theorem rBin_none (h : (rBin s st).2.f = none) : st.f = none := rNum_none 2 (rRaw_none _ (rBack_none _ h).1)
theorem rRaw_some (n : Nat) (hf : st.f = none) (h : (rRaw s st n).2.f = none) : st.at_ + n ≤ s.size ∧ (rRaw s st n).2 = ⟨st.at_ + n, none⟩ ∧ (rRaw s st n).1.data.toList = (s.data.toList.drop st.at_).take n := by
  obtain ⟨a, f⟩ := st
  obtain rfl : f = none := hf
  simp only [rRaw] at h ⊢
  split at h
  · cases h
  · split at h
    · cases h
    · rename_i h1 h2
      rw [if_neg h1, if_neg h2, Int.toNat_natCast]
      refine ⟨by omega, rfl, ?_⟩
      rw [ext_list, Nat.add_sub_cancel_left]

/-- The writer's state that mirrors a reader's. -/
def mir (s : ByteArray) (a : Nat) : WSt := (s.data.toList.take a, none)
theorem take_more (l : List UInt8) (a n : Nat) : l.take a ++ (l.drop a).take n = l.take (a + n) := by
  rw [List.take_add]
theorem mir_num (k : Nat) (h : (rNum k s st).2.f = none) : wNum k (mir s st.at_) (rNum k s st).1 = mir s (rNum k s st).2.at_ := by
  have hf := rNum_none k h
  obtain ⟨h1, h2, h3⟩ := rRaw_some (s := s) k hf h
  have e1 : (rNum k s st).2.at_ = st.at_ + k := by unfold rNum; rw [h2]
  have hl : ((s.data.toList.drop st.at_).take k).length = k := by
    rw [size_list] at h1
    simp only [List.length_take, List.length_drop]
    omega
  have e2 : (rNum k s st).1 = beVal ((s.data.toList.drop st.at_).take k) := by unfold rNum; rw [h3]
  have hr := beVal_range ((s.data.toList.drop st.at_).take k)
  rw [hl] at hr
  rw [e1, e2]
  simp only [wNum, mir]
  rw [if_pos hr, beN_beVal k _ hl, take_more]
theorem mir_raw (n : Nat) (h : (rRaw s st n).2.f = none) : wRaw (mir s st.at_) (rRaw s st n).1 = mir s (rRaw s st n).2.at_ := by
  have hf := rRaw_none _ h
  obtain ⟨h1, h2, h3⟩ := rRaw_some (s := s) n hf h
  rw [h2]
  simp only [wRaw, mir]
  rw [h3, take_more]
theorem mir_bin (h : (rBin s st).2.f = none) : wBin (mir s st.at_) (rBin s st).1 = mir s (rBin s st).2.at_ := by
  obtain ⟨h1, h2⟩ := rBack_none _ h
  have hn := rRaw_none _ h1
  have hv := beVal_range (rRaw s st 2).1.data.toList
  obtain ⟨m, hm⟩ := Int.eq_ofNat_of_zero_le (show 0 ≤ (rNum 2 s st).1 from hv.1)
  have e0 : (rBin s st).1 = (rRaw s (rNum 2 s st).2 (rNum 2 s st).1).1 := rfl
  have e1 : (rBin s st).2 = (rRaw s (rNum 2 s st).2 (rNum 2 s st).1).2 := h2
  rw [hm] at h1 e0 e1
  obtain ⟨k1, k2, k3⟩ := rRaw_some (s := s) m hn h1
  have hsz : (rRaw s (rNum 2 s st).2 (m : Int)).1.size = m := by
    rw [size_list, k3]
    rw [size_list] at k1
    simp only [List.length_take, List.length_drop]
    omega
  unfold wBin
  rw [e0, hsz, ← hm, mir_num 2 hn, hm, mir_raw m h1, e1]
end
end Go.Proofs.YtmmahkckemclaaaGreatDoor
