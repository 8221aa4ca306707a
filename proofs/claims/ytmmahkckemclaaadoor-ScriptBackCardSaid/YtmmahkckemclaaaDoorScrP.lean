/- The plain laws of scripts: what is put is taken as it was, what is taken is put as the same bytes. No condition. -/
import Derived.Test.YtmmahkckemclaaaDoorRt
import Derived.Test.YtmmahkckemclaaaDoorScr7
namespace Go.Proofs.YtmmahkckemclaaaDoor
open Go.RowKit

/-! ### What is written without an error -/
theorem wNum_none (k : Nat) (st : WSt) (n : Int) (h : (wNum k st n).2 = none) : st.2 = none ∧ (0 ≤ n ∧ n < 256 ^ k) ∧ wNum k st n = (st.1 ++ beN k n, none) := by
  obtain ⟨bs, f⟩ := st
  cases f with
  | some f => simp [wNum] at h
  | none =>
    simp only [wNum] at h ⊢
    split at h
    · rename_i hr
      rw [if_pos hr]
      exact ⟨trivial, hr, rfl⟩
    · cases h
theorem wRaw_none (st : WSt) (s : ByteArray) (h : (wRaw st s).2 = none) : st.2 = none ∧ wRaw st s = (st.1 ++ s.data.toList, none) := by
  obtain ⟨bs, f⟩ := st
  cases f with
  | some f => simp only [wRaw] at h; cases h
  | none => exact ⟨by rfl, by rfl⟩
theorem wBin_none (st : WSt) (s : ByteArray) (h : (wBin st s).2 = none) : st.2 = none ∧ s.size < 65536 ∧ wBin st s = (st.1 ++ (beN 2 s.size ++ s.data.toList), none) := by
  unfold wBin at h ⊢
  obtain ⟨h1, h2⟩ := wRaw_none _ _ h
  obtain ⟨h3, h4, h5⟩ := wNum_none _ _ _ h1
  refine ⟨h3, by simp at h4; omega, ?_⟩
  rw [h2, h5, List.append_assoc]

def evB (e : Ev) : List UInt8 := beN 1 e.kind ++ (beN 1 e.conn ++ (beN 4 e.n ++ (beN 2 e.bytes.size ++ e.bytes.data.toList)))
def evOk (e : Ev) : Prop := mayKind e.kind = true ∧ (0 ≤ e.kind ∧ e.kind < 256 ^ 1) ∧ (0 ≤ e.conn ∧ e.conn < 256 ^ 1) ∧ (0 ≤ e.n ∧ e.n < 256 ^ 4) ∧ e.bytes.size < 65536
theorem putE_none (st : WSt) (e : Ev) (hm : mayKind e.kind = true) (h : (putE st e).2 = none) : st.2 = none ∧ evOk e ∧ putE st e = (st.1 ++ evB e, none) := by
  unfold putE at h ⊢
  obtain ⟨h1, h2, h3⟩ := wBin_none _ _ h
  obtain ⟨h4, h5, h6⟩ := wNum_none _ _ _ h1
  obtain ⟨h7, h8, h9⟩ := wNum_none _ _ _ h4
  obtain ⟨h10, h11, h12⟩ := wNum_none _ _ _ h7
  refine ⟨h10, ⟨hm, h11, h8, h5, h2⟩, ?_⟩
  rw [h3, h6, h9, h12]
  simp [evB]
theorem putEvs_none : ∀ (l : List Ev) (k : Nat) (st st' : WSt), putEvs k l st = .inl st' → st'.2 = none → st.2 = none ∧ (∀ e, e ∈ l → evOk e) ∧ st' = (st.1 ++ l.flatMap evB, none)
  | [], k, st, st', h, hn => by
    simp only [putEvs, Sum.inl.injEq] at h
    subst h
    obtain ⟨b, f⟩ := st
    obtain rfl : f = none := hn
    exact ⟨rfl, by simp, by simp⟩
  | e :: l, k, st, st', h, hn => by
    simp only [putEvs] at h
    split at h
    · rename_i hm
      obtain ⟨h1, h2, h3⟩ := putEvs_none l (k + 1) (putE st e) st' h hn
      obtain ⟨h4, h5, h6⟩ := putE_none st e hm h1
      refine ⟨h4, ?_, ?_⟩
      · intro x hx
        rcases List.mem_cons.1 hx with rfl | hx
        · exact h5
        · exact h2 x hx
      · rw [h3, h6]; simp
    · cases h
theorem fold_none : ∀ (l : List Int) (st : WSt), (l.foldl (wNum 4) st).2 = none → st.2 = none ∧ (∀ x, x ∈ l → 0 ≤ x ∧ x < 256 ^ 4) ∧ l.foldl (wNum 4) st = (st.1 ++ l.flatMap (beN 4), none)
  | [], st, h => by
    obtain ⟨b, f⟩ := st
    obtain rfl : f = none := h
    exact ⟨rfl, by simp, by simp⟩
  | x :: l, st, h => by
    obtain ⟨h1, h2, h3⟩ := fold_none l (wNum 4 st x) h
    obtain ⟨h4, h5, h6⟩ := wNum_none _ _ _ h1
    refine ⟨h4, ?_, ?_⟩
    · intro y hy
      rcases List.mem_cons.1 hy with rfl | hy
      · exact h5
      · exact h2 y hy
    · rw [List.foldl_cons, h3, h6]; simp

/-! ### What is read of what was written -/
section
variable {s : ByteArray}
theorem rNums_of (xs : List Int) (hx : ∀ x, x ∈ xs → 0 ≤ x ∧ x < 256 ^ 4) (p q : List UInt8) (h : s.data.toList = p ++ (xs.flatMap (beN 4) ++ q)) :
    ∀ k, k ≤ xs.length → rNums s ⟨p.length, none⟩ k = (xs.take k, ⟨(p ++ (xs.take k).flatMap (beN 4)).length, none⟩)
  | 0, _ => by simp [rNums]
  | k + 1, hk => by
    have hk' : k < xs.length := by omega
    have e1 := rNums_of xs hx p q h k (by omega)
    have e2 : xs.take (k + 1) = xs.take k ++ [xs[k]] := List.take_succ_eq_append_getElem hk'
    have e3 : xs = xs.take k ++ (xs[k] :: xs.drop (k + 1)) := by
      rw [← List.drop_eq_getElem_cons hk', List.take_append_drop]
    have hr := hx xs[k] (List.getElem_mem hk')
    have e5 : xs.flatMap (beN 4) = (xs.take k).flatMap (beN 4) ++ (beN 4 xs[k] ++ (xs.drop (k + 1)).flatMap (beN 4)) := by
      have := congrArg (fun l => l.flatMap (beN 4)) e3
      simp only [List.flatMap_append, List.flatMap_cons] at this
      exact this
    have e4 := rNum_of (s := s) (p := p ++ (xs.take k).flatMap (beN 4)) (q := (xs.drop (k + 1)).flatMap (beN 4) ++ q) 4 xs[k] (by
      rw [h, e5]
      simp only [List.append_assoc]) hr.1 hr.2
    have e6 : (xs.take (k + 1)).flatMap (beN 4) = (xs.take k).flatMap (beN 4) ++ beN 4 xs[k] := by
      rw [e2]; simp only [List.flatMap_append, List.flatMap_cons, List.flatMap_nil, List.append_nil]
    rw [rNums, e1]
    simp only [e4]
    rw [e6, e2, List.append_assoc]
theorem rEv_of (e : Ev) (he : evOk e) (p q : List UInt8) (h : s.data.toList = p ++ (evB e ++ q)) : rEv s ⟨p.length, none⟩ = (e, none, ⟨(p ++ evB e).length, none⟩) := by
  obtain ⟨hm, h1, h2, h3, h4⟩ := he
  unfold evB at h
  have a1 := rNum_of (s := s) (p := p) (q := beN 1 e.conn ++ (beN 4 e.n ++ (beN 2 e.bytes.size ++ e.bytes.data.toList)) ++ q) 1 e.kind (by rw [h]; simp) h1.1 h1.2
  have a2 := rNum_of (s := s) (p := p ++ beN 1 e.kind) (q := (beN 4 e.n ++ (beN 2 e.bytes.size ++ e.bytes.data.toList)) ++ q) 1 e.conn (by rw [h]; simp) h2.1 h2.2
  have a3 := rNum_of (s := s) (p := p ++ beN 1 e.kind ++ beN 1 e.conn) (q := (beN 2 e.bytes.size ++ e.bytes.data.toList) ++ q) 4 e.n (by rw [h]; simp) h3.1 h3.2
  have a4 := rBin_of (s := s) (p := p ++ beN 1 e.kind ++ beN 1 e.conn ++ beN 4 e.n) (q := q) e.bytes h4 (by rw [h]; simp)
  unfold rEv
  rw [a1]; simp only
  rw [a2]; simp only
  rw [a3]; simp only
  rw [a4]; simp only
  rw [hm]
  simp [evB]
theorem rEvs_of : ∀ (l : List Ev) (p : List UInt8) (acc : List Ev), (∀ e, e ∈ l → evOk e) → s.data.toList = p ++ l.flatMap evB → ∃ st, rEvs s l.length ⟨p.length, none⟩ acc = (acc ++ l, none, st)
  | [], p, acc, _, h => by
    have hl : s.size = p.length := by rw [size_list, h]; simp
    refine ⟨⟨p.length, none⟩, ?_⟩
    simp [rEvs, rDone, hl]
  | e :: l, p, acc, he, h => by
    have e1 := rEv_of (s := s) e (he e (List.mem_cons_self)) p (l.flatMap evB) (by rw [h]; simp)
    obtain ⟨st, hst⟩ := rEvs_of l (p ++ evB e) (acc ++ [e]) (fun x hx => he x (List.mem_cons_of_mem _ hx)) (by rw [h]; simp)
    refine ⟨st, ?_⟩
    rw [List.length_cons, rEvs, e1]
    simp only
    rw [hst]
    simp
end

/-- WHAT IS PUT IS TAKEN AS IT WAS. -/
theorem put_take (c : Cfg) (l : List Ev) (h : (putS c l).2 = none) : takeS (putS c l).1 = (c, l, none) := by
  unfold putS at h ⊢
  split at h
  · cases h
  · rename_i hc
    split at h
    · cases h
    · rename_i hl
      rw [if_neg hl]
      split at h
      · rename_i st hst
        obtain ⟨h1, h2, h3⟩ := putEvs_none _ _ _ _ hst h
        unfold putStart at h1 h3 hst
        obtain ⟨h4, h5, h6⟩ := wNum_none _ _ _ h1
        obtain ⟨h7, h8, h9⟩ := fold_none _ _ h4
        rw [h6, h9] at h3
        have hout : wOut st = str ([67, 82, 73, 69, 82] ++ (c.list.flatMap (beN 4) ++ (beN 2 l.length ++ l.flatMap evB))) := by
          rw [h3]
          simp [wOut, wRaw, crier, str]
        rw [hout]
        generalize hs : str ([67, 82, 73, 69, 82] ++ (c.list.flatMap (beN 4) ++ (beN 2 l.length ++ l.flatMap evB))) = s
        have hd : s.data.toList = [67, 82, 73, 69, 82] ++ (c.list.flatMap (beN 4) ++ (beN 2 l.length ++ l.flatMap evB)) := by rw [← hs, str_toList]
        have a1 := rRaw_of (s := s) (p := []) (bs := [67, 82, 73, 69, 82]) (q := c.list.flatMap (beN 4) ++ (beN 2 l.length ++ l.flatMap evB)) (by rw [hd]; simp)
        have a2 := rNums_of (s := s) c.list h8 [67, 82, 73, 69, 82] (beN 2 l.length ++ l.flatMap evB) hd 13 (Nat.le_refl _)
        have a3 := rNum_of (s := s) (p := [67, 82, 73, 69, 82] ++ c.list.flatMap (beN 4)) (q := l.flatMap evB) 2 l.length (by rw [hd]; simp) h5.1 h5.2
        obtain ⟨st4, a4⟩ := rEvs_of (s := s) l ([67, 82, 73, 69, 82] ++ c.list.flatMap (beN 4) ++ beN 2 l.length) [] h2 (by rw [hd]; simp)
        have e13 : c.list.take 13 = c.list := rfl
        rw [e13] at a2
        have b1 : rRaw s ⟨0, none⟩ 5 = (crier, ⟨5, none⟩) := a1
        have b2 : rCfg s ⟨5, none⟩ = (c, none, ⟨([67, 82, 73, 69, 82] ++ c.list.flatMap (beN 4)).length, none⟩) := by
          have a2' : rNums s ⟨5, none⟩ 13 = (c.list, ⟨([67, 82, 73, 69, 82] ++ c.list.flatMap (beN 4)).length, none⟩) := a2
          have hcc : Cfg.of c.list = c := rfl
          unfold rCfg
          rw [a2']
          simp only [hcc, hc]
        have b3 : rHead s ⟨0, none⟩ = (c, (l.length : Int), none, (⟨([67, 82, 73, 69, 82] ++ c.list.flatMap (beN 4) ++ beN 2 l.length).length, none⟩ : RSt)) := by
          unfold rHead
          rw [b1]
          simp only [Option.isNone_none, Bool.true_and]
          rw [if_neg (by simp)]
          unfold rHead2
          rw [b2]
          simp only
          rw [a3]
          simp only
          rw [if_neg (by omega)]
        unfold takeS
        rw [b3]
        simp only [Int.toNat_natCast]
        rw [a4]
        simp
      · cases h

/-! ### What is taken without an error -/
section
variable {s : ByteArray}
theorem rNums_none (st : RSt) : ∀ k, (rNums s st k).2.f = none → st.f = none
  | 0, h => h
  | k + 1, h => rNums_none st k (rNum_none 4 h)
theorem mir_nums (st : RSt) : ∀ k, (rNums s st k).2.f = none → (rNums s st k).1.foldl (wNum 4) (mir s st.at_) = mir s (rNums s st k).2.at_
  | 0, _ => rfl
  | k + 1, h => by
    have h1 := rNum_none 4 h
    have ih := mir_nums st k h1
    rw [rNums, List.foldl_append, ih]
    exact mir_num 4 h
theorem mir_ev (st : RSt) (h : (rEv s st).2.1 = none) : st.f = none ∧ (rEv s st).2.2.f = none ∧ mayKind (rEv s st).1.kind = true ∧ putE (mir s st.at_) (rEv s st).1 = mir s (rEv s st).2.2.at_ := by
  unfold rEv at h ⊢
  simp only at h ⊢
  split at h
  · cases h
  · rename_i h4
    split at h
    · rename_i hm
      have h3 := rBin_none h4
      have h2 := rNum_none 4 h3
      have h1 := rNum_none 1 h2
      refine ⟨rNum_none 1 h1, h4, hm, ?_⟩
      unfold putE
      simp only
      rw [mir_num 1 h1, mir_num 1 h2, mir_num 4 h3, mir_bin h4]
    · cases h
theorem rNum_le (k : Nat) (st : RSt) (h : (rNum k s st).2.f = none) : (rNum k s st).2.at_ ≤ s.size := by
  obtain ⟨h1, h2, h3⟩ := rRaw_some (s := s) k (rNum_none k h) h
  have e1 : (rNum k s st).2.at_ = st.at_ + k := by unfold rNum; rw [h2]
  omega
theorem rBin_le (st : RSt) (h : (rBin s st).2.f = none) : (rBin s st).2.at_ ≤ s.size := by
  obtain ⟨h1, h2⟩ := rBack_none _ h
  have hn := rRaw_none _ h1
  have hv := beVal_range (rRaw s st 2).1.data.toList
  obtain ⟨m, hm⟩ := Int.eq_ofNat_of_zero_le (show 0 ≤ (rNum 2 s st).1 from hv.1)
  have e1 : (rBin s st).2 = (rRaw s (rNum 2 s st).2 (rNum 2 s st).1).2 := h2
  rw [hm] at h1 e1
  obtain ⟨k1, k2, k3⟩ := rRaw_some (s := s) m hn h1
  rw [e1, k2]
  exact k1
theorem rEv_le (st : RSt) (h : (rEv s st).2.2.f = none) : (rEv s st).2.2.at_ ≤ s.size := rBin_le _ h
theorem rDone_none (st : RSt) (hl : st.at_ ≤ s.size) (h : rDone s st = none) : st.f = none ∧ st.at_ = s.size := by
  unfold rDone at h
  split at h
  · cases h
  · rename_i hf
    split at h
    · cases h
    · exact ⟨hf, by omega⟩
theorem mir_evs : ∀ (k : Nat) (st : RSt) (acc : List Ev) (j : Nat), st.at_ ≤ s.size → (rEvs s k st acc).2.1 = none → st.f = none ∧ ∃ l, (rEvs s k st acc).1 = acc ++ l ∧ l.length = k ∧ putEvs j l (mir s st.at_) = .inl (mir s s.size)
  | 0, st, acc, j, hl, h => by
    obtain ⟨h1, h2⟩ := rDone_none st hl h
    refine ⟨h1, [], by simp [rEvs], rfl, ?_⟩
    rw [h2]; rfl
  | k + 1, st, acc, j, hl, h => by
    simp only [rEvs] at h ⊢
    split at h
    · cases h
    · rename_i he
      obtain ⟨h1, h2, h3, h4⟩ := mir_ev st he
      obtain ⟨h5, l, h6, h7, h8⟩ := mir_evs k _ (acc ++ [(rEv s st).1]) (j + 1) (rEv_le st h2) h
      refine ⟨h1, (rEv s st).1 :: l, by rw [h6, List.append_assoc]; rfl, by rw [List.length_cons, h7], ?_⟩
      simp only [putEvs]
      rw [h3, if_pos rfl, h4, h8]
theorem cfg_list : ∀ (l : List Int), l.length = 13 → (Cfg.of l).list = l
  | [_, _, _, _, _, _, _, _, _, _, _, _, _], _ => rfl
theorem rHead_none (h : (rHead s ⟨0, none⟩).2.2.1 = none) : (rHead s ⟨0, none⟩).1.check = none ∧ ∃ n : Nat, (rHead s ⟨0, none⟩).2.1 = n ∧ n ≤ 16384 ∧ (rHead s ⟨0, none⟩).2.2.2.f = none ∧ (rHead s ⟨0, none⟩).2.2.2.at_ ≤ s.size ∧
    putStart (rHead s ⟨0, none⟩).1 n = mir s (rHead s ⟨0, none⟩).2.2.2.at_ := by
  unfold rHead at h ⊢
  split at h
  · cases h
  · rename_i hb
    rw [if_neg hb]
    unfold rHead2 at h ⊢
    split at h
    · cases h
    · rename_i hc
      split at h
      · cases h
      · rename_i hn
        rw [if_neg hn]
        simp only at h ⊢
        unfold rCfg at hc
        simp only at hc
        split at hc
        · cases hc
        · rename_i h13
          have h1 := rNums_none _ 13 h13
          have hr : (rRaw s ⟨0, none⟩ 5).1 = crier := by
            rw [h1] at hb
            simpa using hb
          have e1 := mir_raw (s := s) (st := ⟨0, none⟩) 5 h1
          have e2 := mir_nums (s := s) _ 13 h13
          have e3 := mir_num (s := s) 2 h
          have hv := beVal_range (rRaw s (rCfg s (rRaw s ⟨0, none⟩ 5).2).2.2 2).1.data.toList
          obtain ⟨m, hm⟩ := Int.eq_ofNat_of_zero_le (show 0 ≤ (rNum 2 s (rCfg s (rRaw s ⟨0, none⟩ 5).2).2.2).1 from hv.1)
          refine ⟨hc, m, hm, by omega, h, rNum_le 2 _ h, ?_⟩
          have hcl : (rCfg s (rRaw s ⟨0, none⟩ 5).2).1.list = (rNums s (rRaw s ⟨0, none⟩ 5).2 13).1 := by
            exact cfg_list _ (rNums_length _ _ 13)
          unfold putStart
          rw [hcl]
          have e0 : (([], none) : WSt) = mir s 0 := by simp [mir]
          have e1' : wRaw ([], none) crier = mir s (rRaw s ⟨0, none⟩ 5).2.at_ := by
            rw [e0, ← hr]; exact e1
          rw [e1', e2]
          rw [hm] at e3
          exact e3
end

/-- WHAT IS TAKEN IS PUT AS THE SAME BYTES. -/
theorem take_put (s : ByteArray) (h : (takeS s).2.2 = none) : putS (takeS s).1 (takeS s).2.1 = (s, none) := by
  unfold takeS at h ⊢
  split at h
  · cases h
  · rename_i h1
    split at h
    · cases h
    · rename_i h2
      obtain ⟨a1, n, a2, a3, a4, a5, a6⟩ := rHead_none h1
      simp only
      rw [a2, Int.toNat_natCast] at h2 ⊢
      obtain ⟨b1, l, b2, b3, b4⟩ := mir_evs n _ [] 0 a5 h2
      rw [b2, List.nil_append]
      unfold putS
      rw [a1]
      simp only
      rw [if_neg (by omega), b3, a6, b4]
      have e : s.data.toList.take s.size = s.data.toList := by rw [size_list, List.take_length]
      simp only [wOut, mir, e, str_data]
end Go.Proofs.YtmmahkckemclaaaDoor
