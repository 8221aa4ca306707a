/- Properties, more: Read. Conditions: fewer than 2^47 bytes; the package variables hold what the program lays there. -/
import Derived.Test.YtmmahkckemclaaaGreatDoorProp8
namespace Go.Proofs.YtmmahkckemclaaaGreatDoor
open Go.RowKit

/-- What Read makes of a part's bytes: the properties behind those that came, or why they may not be. -/
def pReadL (S : ByteArray) (place : Int) : Nat → RSt → List Pr → List Pr × Option Flt
  | 0, _, l => (l, none)
  | k + 1, st, l =>
    if st.at_ < S.size then match (pOne S st place l).2.1 with
      | some f => ([], some f)
      | none => pReadL S place k (pOne S st place l).2.2 (l ++ [(pOne S st place l).1])
    else (l, none)
/-- The bytes of a part, and the reader behind them. -/
def pPart (s : ByteArray) (st : RSt) : ByteArray × RSt := rRaw s (rVar s st).2 (rVar s st).1
/-- What Read answers: the properties, why there are none, the reader. -/
def pRead (s : ByteArray) (st : RSt) (place : Int) : List Pr × Option Flt × RSt :=
  match (pPart s st).2.f with
  | some f => ([], some f, (pPart s st).2)
  | none => match (pReadL (pPart s st).1 place (pPart s st).1.size ⟨0, none⟩ []).2 with
    | some f => ([], some ⟨f.k, f.r, furtherN f.a (((pPart s st).2.at_ : Int) - (pPart s st).1.size)⟩, (pPart s st).2)
    | none => ((pReadL (pPart s st).1 place (pPart s st).1.size ⟨0, none⟩ []).1, none, (pPart s st).2)

/-! ### A reader goes on -/
theorem rNum_mono (k : Nat) (s : ByteArray) (st : RSt) (h : (rNum k s st).2.f = none) : st.at_ ≤ (rNum k s st).2.at_ := rRaw_mono s st _ h
theorem rBin_mono (s : ByteArray) (st : RSt) (h : (rBin s st).2.f = none) : st.at_ ≤ (rBin s st).2.at_ := by
  obtain ⟨h1, h2⟩ := rBack_none _ h
  have e : (rBin s st).2 = (rRaw s (rNum 2 s st).2 (rNum 2 s st).1).2 := h2
  have a := rRaw_mono s _ _ h1
  have b := rNum_mono 2 s st (rRaw_none _ h1)
  rw [e]; omega
theorem rText_none (s : ByteArray) (st : RSt) (h : (rText s st).2.f = none) : (rBin s st).2.f = none ∧ uChk (rBin s st).1 = none ∧ rText s st = rBin s st := by
  unfold rText at h ⊢
  split at h
  · rename_i f hf; simp only at h; rw [hf] at h; cases h
  · split at h
    · cases h
    · rename_i h1 _ h2
      exact ⟨h1, h2, rfl⟩
theorem rText_mono (s : ByteArray) (st : RSt) (h : (rText s st).2.f = none) : st.at_ ≤ (rText s st).2.at_ := by
  obtain ⟨h1, _, h3⟩ := rText_none s st h
  rw [h3]; exact rBin_mono s st h1
theorem rVar_none (s : ByteArray) (st : RSt) (h : (rVar s st).2.f = none) : st.f = none ∧ (vTake (s.data.toList.drop st.at_)).2.2 = none ∧ rVar s st = ((vTake (s.data.toList.drop st.at_)).1, ⟨st.at_ + (vTake (s.data.toList.drop st.at_)).2.1, none⟩) := by
  unfold rVar at h ⊢
  split at h
  · rename_i f hf; simp only at h; rw [hf] at h; cases h
  · rename_i h1
    split at h
    · cases h
    · rename_i h2
      exact ⟨h1, h2, rfl⟩
theorem rVar_lt (s : ByteArray) (st : RSt) (h : (rVar s st).2.f = none) : st.at_ < (rVar s st).2.at_ := by
  obtain ⟨_, h2, h3⟩ := rVar_none s st h
  have := vTake_pos _ h2
  rw [h3]; show st.at_ < st.at_ + _; omega
theorem pVal_mono (s : ByteArray) (st : RSt) (id : Int) (h : (pVal s st id).2.f = none) : st.at_ ≤ (pVal s st id).2.at_ := by
  unfold pVal at h ⊢
  rcases pTy_cases id with ht | ht | ht | ht | ht | ht | ht | ht
  all_goals rw [ht] at h ⊢
  · exact rNum_mono 1 s st h
  · exact rNum_mono 2 s st h
  · exact rNum_mono 4 s st h
  · exact Nat.le_of_lt (rVar_lt s st h)
  · exact rBin_mono s st h
  · have h1 : (rText s st).2.f = none := by
      have := rText_none s _ h
      exact rNum_none 2 (rRaw_none _ (rBack_none _ this.1).1)
    have h2 := rText_mono s st h1
    have h3 := rText_mono s _ h
    exact Nat.le_trans h2 h3
  · exact rText_mono s st h
  · exact Nat.le_refl _
theorem pOne_none (s : ByteArray) (st : RSt) (place : Int) (l : List Pr) (h : (pOne s st place l).2.1 = none) :
    (rVar s st).2.f = none ∧ pGround place l (rVar s st).1 st.at_ = none ∧ (pVal s (rVar s st).2 (rVar s st).1).2.f = none ∧ pBad (pVal s (rVar s st).2 (rVar s st).1).1 st.at_ = none ∧
    pOne s st place l = ((pVal s (rVar s st).2 (rVar s st).1).1, none, (pVal s (rVar s st).2 (rVar s st).1).2) := by
  unfold pOne at h ⊢
  split at h
  · cases h
  · rename_i h1
    split at h
    · cases h
    · rename_i h2
      split at h
      · cases h
      · rename_i h3
        simp only at h
        exact ⟨h1, h2, h3, h, by rw [h]⟩
theorem pOne_lt (s : ByteArray) (st : RSt) (place : Int) (l : List Pr) (h : (pOne s st place l).2.1 = none) : st.at_ < (pOne s st place l).2.2.at_ ∧ l.length < 64 := by
  obtain ⟨h1, h2, h3, _, h5⟩ := pOne_none s st place l h
  have a := rVar_lt s st h1
  have b := pVal_mono s _ _ h3
  rw [h5]
  refine ⟨Nat.lt_of_lt_of_le a b, ?_⟩
  unfold pGround at h2
  split at h2
  · cases h2
  · omega
theorem pReadL_fuel (S : ByteArray) (place : Int) : ∀ (d k j : Nat) (st : RSt) (l : List Pr), S.size - st.at_ ≤ d → d ≤ k → d ≤ j → pReadL S place k st l = pReadL S place j st l := by
  intro d
  induction d with
  | zero =>
    intro k j st l hd _ _
    have hn : ¬ st.at_ < S.size := by omega
    have h0 : ∀ i, pReadL S place i st l = (l, none) := by
      intro i
      cases i with
      | zero => rfl
      | succ i => simp only [pReadL]; rw [if_neg hn]
    rw [h0, h0]
  | succ d ih =>
    intro k j st l hd hk hj
    obtain ⟨k, rfl⟩ : ∃ m, k = m + 1 := ⟨k - 1, by omega⟩
    obtain ⟨j, rfl⟩ : ∃ m, j = m + 1 := ⟨j - 1, by omega⟩
    simp only [pReadL]
    by_cases hn : st.at_ < S.size
    · rw [if_pos hn, if_pos hn]
      cases ho : (pOne S st place l).2.1 with
      | some f => rfl
      | none =>
        have hlt := (pOne_lt S st place l ho).1
        exact ih k j _ _ (by omega) (by omega) (by omega)
    · rw [if_neg hn, if_neg hn]
/-- The part from where the reader is. -/
def pRest (S : ByteArray) (place : Int) (st : RSt) (l : List Pr) : List Pr × Option Flt := pReadL S place (S.size - st.at_) st l
theorem pRest_end (S : ByteArray) (place : Int) (st : RSt) (l : List Pr) (h : ¬ st.at_ < S.size) : pRest S place st l = (l, none) := by
  unfold pRest
  rw [show S.size - st.at_ = 0 by omega]; rfl
theorem pRest_bad (S : ByteArray) (place : Int) (st : RSt) (l : List Pr) (h : st.at_ < S.size) (f : Flt) (hf : (pOne S st place l).2.1 = some f) : pRest S place st l = ([], some f) := by
  unfold pRest
  obtain ⟨k, hk⟩ : ∃ k, S.size - st.at_ = k + 1 := ⟨S.size - st.at_ - 1, by omega⟩
  rw [hk]; simp only [pReadL]; rw [if_pos h, hf]
theorem pRest_step (S : ByteArray) (place : Int) (st : RSt) (l : List Pr) (h : st.at_ < S.size) (hf : (pOne S st place l).2.1 = none) : pRest S place st l = pRest S place (pOne S st place l).2.2 (l ++ [(pOne S st place l).1]) := by
  have hlt := (pOne_lt S st place l hf).1
  unfold pRest
  obtain ⟨k, hk⟩ : ∃ k, S.size - st.at_ = k + 1 := ⟨S.size - st.at_ - 1, by omega⟩
  rw [hk]; simp only [pReadL]; rw [if_pos h, hf]
  exact pReadL_fuel S place (S.size - (pOne S st place l).2.2.at_) _ _ _ _ (by omega) (by omega) (by omega)
end Go.Proofs.YtmmahkckemclaaaGreatDoor
