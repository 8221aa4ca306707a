/- Properties, more: Read walked. Conditions: fewer than 2^47 bytes; the package variables hold what the program lays there. -/
import Derived.Test.YtmmahkckemclaaaGreatDoorProp9
namespace Go.Proofs.YtmmahkckemclaaaGreatDoor
open Go.RowKit

theorem prs_snoc (l : List Pr) (p : Pr) : prs (l ++ [p]) = prs l ++ [.int .i64 p.id, .int .i64 p.n, .string p.s, .string p.v] := by
  simp [prs, Pr.cells]
theorem pr_info : (Tryz.prog.info? 26).map (fun i => (i.zero, i.size, i.bytes)) = some (some (.agg #[.int .i64 0, .int .i64 0, .string ⟨#[]⟩, .string ⟨#[]⟩]), 4, 48) := by kernel_rfl
theorem cell_four_new (w : World) (x y z u : Value) (t : TypeId) {g : Nat} (hg : g = w.heap.size) : ∀ j v, [x, y, z, u][j]? = some v → (w.alloc (.cells #[x, y, z, u] t)).cell? ((⟨g, 0, none⟩ : Addr).add j) = some v := by
  subst hg
  intro j v hv
  rcases j with _ | _ | _ | _ | j
  · simp at hv; subst hv; exact (Blk.new w t #[x, y, z, u]).cell 0
  · simp at hv; subst hv; exact (Blk.new w t #[x, y, z, u]).cell 1
  · simp at hv; subst hv; exact (Blk.new w t #[x, y, z, u]).cell 2
  · simp at hv; subst hv; exact (Blk.new w t #[x, y, z, u]).cell 3
  · simp at hv
/-- A row of properties of a call's own. -/
abbrev PrOwn (w : World) (base : Nat) (v : Value) (l : List Pr) : Prop := w.ownsRow base 26 4 v l.length (prs l)
theorem PrOwn.cap {w : World} {base : Nat} {A : Option Addr} {n c : Nat} {l : List Pr} (h : PrOwn w base (.slice A n c) l) : l.length ≤ c := by
  rcases h.2 with ⟨h0, h1⟩ | ⟨g, cap, cur, h0, _, _, h1, _⟩
  · injection h0; omega
  · injection h0; omega

theorem PrOwn.base {w : World} {b b' : Nat} {v : Value} {l : List Pr} (h : PrOwn w b v l) (hb : b' ≤ b) : PrOwn w b' v l := by
  obtain ⟨h1, h2⟩ := h
  refine ⟨h1, ?_⟩
  rcases h2 with h2 | ⟨g, cap, cur, hv, hg, r⟩
  · exact Or.inl h2
  · exact Or.inr ⟨g, cap, cur, hv, Nat.le_trans hb hg, r⟩
theorem rRaw_at (s : ByteArray) (st : RSt) (n : Int) : (rRaw s st n).1.size ≤ (rRaw s st n).2.at_ := by
  unfold rRaw
  repeat' split
  all_goals first
    | exact Nat.zero_le _
    | (simp only [ByteArray.size_extract]; omega)
/-- What Read keeps: the outer reader, the row, all else. -/
def rdKeep (E : GE) (gr : Nat) (s : ByteArray) (st : RSt) (w : World) (B : Nat) (v : Value) (l : List Pr) (W : World) : Prop := Tch gr RT w W ∧ Rd E W gr s st ∧ PrOwn W B v l
theorem rdKeep.stab {E : GE} {gr g : Nat} {s : ByteArray} {st : RSt} {w : World} {B : Nat} {v : Value} {l : List Pr} (hg : gr < g) : Stab g (rdKeep E gr s st w B v l) := fun _ _ ht h =>
  ⟨h.1.trans (ht.mono (by omega) (fun _ h => h)), h.2.1.later ht hg, own_tch h.2.2 ht (by decide)⟩
def ReadPost (E : GE) (g : Nat) (s : ByteArray) (K : World → Prop) (w : World) (r : List Pr × Option Flt × RSt) (e : Ending) (w' : World) : Prop :=
  (∃ v ev, e = .returned (.tuple #[v, ev]) ∧ PrOwn w' w.heap.size v r.1 ∧ ErrIs E w' ev r.2.1) ∧ RdK E g s K w' r.2.2

set_option maxRecDepth 100000 in
set_option maxHeartbeats 4000000 in
theorem pread_off (E : GE) (g : Nat) (s : ByteArray) (K : World → Prop) (st : RSt) (place : Int) (w : World) (hK : Stab g K) (hT : KT E K) (h : RdK E g s K w st) (f : Flt) (hf : (pPart s st).2.f = some f) :
    Calls Tryz.prog 56 #[.pointer (some ⟨g, 0, none⟩), .int .i64 place] w (ReadPost E g s K w ([], some f, (pPart s st).2)) := by
  have H := Lib.hid h
  have HK := Lib.hid hK
  have HT := Lib.hid hT
  have HF : Hid ((rRaw s (rVar s st).2 (rVar s st).1).2.f = some f) := Lib.hid hf
  clear h hK hT hf
  unfold ReadPost pPart
  go_enter Tryz.func56, Tryz.ntmps56
  go_wp2_with (first
    | (go_at_call 115
       refine (gVar HK.out HT.out H.out).mono ?_
       rintro e w1 ⟨rfl, h1⟩
       have H1 := Lib.hid h1
       clear h1)
    | (go_at_call 114
       refine (gRaw HK.out H1.out _).mono ?_
       rintro e w2 ⟨rfl, h2⟩
       have H2 := Lib.hid h2
       clear h2)
    | (go_at_call 80
       refine (gErr_some H2.out HF.out).mono ?_
       rintro e w' ⟨⟨k, rfl, HE⟩, rfl⟩))
  go_ret2
  exact ⟨⟨_, _, rfl, own_nil _ _ _ _, HE.out⟩, H2.out⟩

set_option maxRecDepth 100000 in
set_option maxHeartbeats 8000000 in
theorem pread_on (E : GE) (g : Nat) (s : ByteArray) (K : World → Prop) (st : RSt) (place : Int) (w : World) (hKs : ∀ W, K W → w.heap.size ≤ W.heap.size) (hK : Stab g K) (hT : KT E K) (h : RdK E g s K w st) (S : ByteArray) (st2 : RSt) (hp : pPart s st = (S, st2)) (hf : st2.f = none) (R : List Pr × Option Flt × RSt)
    (HR : Hid (R = match (pRest S place ⟨0, none⟩ []).2 with
    | some f => ([], some ⟨f.k, f.r, furtherN f.a ((st2.at_ : Int) - S.size)⟩, st2)
    | none => ((pRest S place ⟨0, none⟩ []).1, none, st2))) :
    Calls Tryz.prog 56 #[.pointer (some ⟨g, 0, none⟩), .int .i64 place] w (ReadPost E g s K w R) := by
  obtain ⟨i0, hi, hz⟩ := Option.map_eq_some_iff.1 pr_info
  simp only [Prod.mk.injEq] at hz
  obtain ⟨hz0, hz1, hz2⟩ := hz
  have HI := Lib.hid hi
  have HZ0 := Lib.hid hz0
  have HZ1 := Lib.hid hz1
  have HZ2 := Lib.hid hz2
  have hSs : S.size ≤ s.size := by
    have := rRaw_size s (rVar s st).2 (rVar s st).1
    have e : rRaw s (rVar s st).2 (rVar s st).1 = (S, st2) := hp
    rw [e] at this; exact this
  have hs := h.rd.2.2.1
  have hEg := h.rd.1
  have hglt := h.lt
  have hst3 : S.size ≤ st2.at_ := by
    have h0 := rRaw_at s (rVar s st).2 (rVar s st).1
    have e : rRaw s (rVar s st).2 (rVar s st).1 = (S, st2) := hp
    rw [e] at h0; exact h0
  have H := Lib.hid h
  have HK := Lib.hid hK
  have HT := Lib.hid hT
  have HF := Lib.hid hf
  have HRaw : Hid (∀ W, RdK E g s K W (rVar s st).2 → Calls Tryz.prog 114 #[.pointer (some ⟨g, 0, none⟩), .int .i64 (rVar s st).1] W fun e w' => e = .returned (.string S) ∧ RdK E g s K w' st2) := Lib.hid (fun W hW => by
    have h1 := gRaw hK hW (rVar s st).1
    have e : rRaw s (rVar s st).2 (rVar s st).1 = (S, st2) := hp
    rw [e] at h1
    exact h1)
  clear h hK hT hf hp hi hz0 hz1 hz2
  have hb1 : (0 : Int) ≤ (st2.at_ : Int) - S.size := by omega
  unfold ReadPost
  go_enter Tryz.func56, Tryz.ntmps56
  go_wp2_with (first
    | (go_at_call 115
       refine (gVar HK.out HT.out H.out).mono ?_
       rintro e w1 ⟨rfl, h1⟩
       have H1 := Lib.hid h1
       clear h1)
    | (go_at_call 114
       refine (HRaw.out _ H1.out).mono ?_
       rintro e w2 ⟨rfl, h2⟩
       have H2 := Lib.hid h2
       have hst2 := h2.le
       have hb2 : (st2.at_ : Int) - S.size ≤ 140737488355328 := by omega
       clear h2)
    | (go_at_call 80
       refine (gErr_none H2.out HF.out).mono ?_
       rintro e w' ⟨rfl, rfl⟩)
    | (go_at_call 78
       refine (gAt H2.out).mono ?_
       rintro e w' ⟨rfl, rfl⟩)
    | (go_at_call 55
       refine (rnew_any E S _ H2.out.glob (by omega)).mono ?_
       rintro e w3 ⟨g2, rfl, hr, hlo, hhi, hu⟩
       have HR2 := Lib.hid hr
       have HLo := Lib.hid hlo
       have HU3 := Lib.hid hu
       clear hr hlo hu))
  have hgl2 := H2.out.lt
  have hgg : g < g2 := by have := HLo.out; omega
  have hGT := HT.out w2 H2.out.kept
  have h0 : RdK E g2 S (rdKeep E g s st2 w2 w2.heap.size (.slice none 0 0) []) w3 ⟨0, none⟩ :=
    ⟨H2.out.glob.non HU3.out, HR2.out, Tch.of_non HU3.out, H2.out.rd.non HU3.out, own_nil _ _ _ _⟩
  have hEw : E.B ≤ w2.heap.size := H2.out.glob.size
  have HGG := Lib.hid hgg
  have HGT := Lib.hid hGT
  have H0 := Lib.hid h0
  have HEw := Lib.hid hEw
  clear hgl2 hgg hGT h0 hEw HR2 HLo HU3 hhi
  go_loopg [10] S.size (fun gg v10 wr => ∃ (acc : List Pr) (st' : RSt) (A : Option Addr) (c : Nat), v10 = .slice A acc.length c ∧ Hid (gg = S.size - st'.at_) ∧ Hid (pRest S place st' acc = pRest S place ⟨0, none⟩ []) ∧ Hid (RdK E g2 S (rdKeep E g s st2 w2 w2.heap.size (.slice A acc.length c) acc) wr st'))
  case atStart => exact ⟨[], ⟨0, none⟩, none, 0, rfl, Lib.hid rfl, Lib.hid rfl, H0⟩
  case round =>
    clear H0
    obtain ⟨acc, st', A, c, rfl, hg, hR, hW⟩ := hrel
    have HL := Lib.hid (gLeft hW.out)
    have hle := hW.out.le
    have hSsz := hW.out.rd.2.2.1
    by_cases hlt : st'.at_ < S.size
    · have hd : decide ((0 : Int) < S.size - st'.at_) = true := by simp; omega
      obtain ⟨q, hq⟩ : ∃ q, pOne S st' place acc = q := ⟨_, rfl⟩
      obtain ⟨⟨i1, n1, s1, v1⟩, o, st''⟩ := q
      have HOne : Hid (∀ nq, Calls Tryz.prog 117 #[.pointer (some ⟨g2, 0, none⟩), .int .i64 place, .slice A acc.length c] (wr.drewN nq) fun e w' => (∃ ev, e = .returned (.tuple #[.agg #[.int .i64 i1, .int .i64 n1, .string s1, .string v1], ev]) ∧ ErrIs E w' ev o) ∧ RdK E g2 S (rdKeep E g s st2 w2 w2.heap.size (.slice A acc.length c) acc) w' st'') := Lib.hid (fun nq => by
        have h1 := pone_any E g2 S (rdKeep E g s st2 w2 w2.heap.size (.slice A acc.length c) acc) st' place A acc acc.length c (wr.drewN nq) (rdKeep.stab HGG.out) (fun W hW => HGT.out.tch hW.1 hEg) (hW.out.drewN (rdKeep.stab HGG.out) nq) (fun W hW => Reads.of_own hW.2.2) rfl
        rw [hq] at h1
        exact h1)
      cases o with
      | some f =>
        have hb := pRest_bad S place st' acc hlt f (by rw [hq])
        rw [hR.out] at hb
        have hr := HR.out
        rw [hb] at hr
        simp only at hr
        have HRR := Lib.hid hr
        clear hr hb hq hR HR
        go_wp2_with (first
          | (go_at_call 116; refine HL.out.mono ?_; rintro e w4 ⟨rfl, nq, rfl⟩)
          | (go_at_call 117
             refine (HOne.out nq).mono ?_
             rintro e w5 ⟨⟨ev, rfl, he⟩, h5⟩
             obtain ⟨k, rfl⟩ := ErrIs.form he
             have hu5 : Upd Non w5 (w5.alloc (.cells #[.int .i64 i1, .int .i64 n1, .string s1, .string v1] 26)) := (Upd.refl _ _).alloc _
             have HE := Lib.hid (ErrIs.non hu5 he)
             have H5 := Lib.hid (h5.non (rdKeep.stab HGG.out) hu5)
             clear he h5 hu5)
          | (go_at_call 118
             refine (deeper_any E _ f _ _ (HGT.out.tch H5.out.kept.1 hEg) HE.out).mono ?_
             rintro e w6 ⟨⟨v2, rfl, he⟩, hu⟩
             have HE6 := Lib.hid he
             have H6 := Lib.hid (H5.out.non (rdKeep.stab HGG.out) hu)
             clear he hu))
        go_ret2
        rw [HRR.out]
        exact ⟨⟨_, _, rfl, own_nil _ _ _ _, HE6.out⟩, H6.out.glob, H6.out.kept.2.1, HK.out _ _ H6.out.kept.1 H2.out.kept⟩
      | none =>
        have hb := pRest_step S place st' acc hlt (by rw [hq])
        have hl2 := pOne_lt S st' place acc (by rw [hq])
        rw [hR.out, hq] at hb
        rw [hq] at hl2
        simp only at hb hl2
        obtain ⟨hl2, hl64⟩ := hl2
        have HB := Lib.hid hb
        have HL2 := Lib.hid hl2
        clear hb hq hR hl2
        go_wp2_with (first
          | (go_at_call 116; refine HL.out.mono ?_; rintro e w4 ⟨rfl, nq, rfl⟩)
          | (go_at_call 117
             refine (HOne.out nq).mono ?_
             rintro e w5 ⟨⟨ev, rfl, he⟩, h5⟩
             obtain rfl : ev = .nilIface := he
             have H5 := Lib.hid h5
             clear h5)
          | (at_builtin
             have ho1 := H5.out.kept.2.2
             have hsz := H5.out.kept.1.size
             refine wpList_append_own_at _ rfl (.tmp 44) (.tmp 46) 22 rfl w2.heap.size 26 i0 _ 4 48 Tryz.underlying22 HI.out HZ0.out HZ1.out HZ2.out rfl (by decide) _ _ _ rfl ((ho1.alloc _).alloc _) ⟨w5.heap.size + 1, 0, none⟩ 1 1 [.int .i64 i1, .int .i64 n1, .string s1, .string v1] rfl rfl (cell_four_new _ _ _ _ _ _ (by simp)) (by simp [Value.oneCell']) (by simp only [maxLen]; omega) (by omega) (by simp; omega) ?_
             intro v6 w6 hown1 hg1 _ _
             obtain ⟨A1, c1, rfl⟩ := own_slice hown1))
        go_roundg (S.size - st''.at_)
        case measure => have := hg.out; have := HL2.out; omega
        case rel =>
          have hu2 : Upd Non w5 ((w5.alloc (.cells #[.int .i64 i1, .int .i64 n1, .string s1, .string v1] 26)).alloc (.cells #[.int .i64 i1, .int .i64 n1, .string s1, .string v1] 26)) := ((Upd.refl _ _).alloc _).alloc _
          have h3 := H5.out.non (rdKeep.stab HGG.out) hu2
          have hg2 : Tch w2.heap.size [26] _ w6 := Tch.grown (Upd.refl _ _) h3.kept.2.2 (by simp) (Nat.le_refl _) hg1
          refine ⟨acc ++ [⟨i1, n1, s1, v1⟩], st'', A1, c1, by simp, Lib.hid rfl, Lib.hid HB.out.symm, Lib.hid ⟨h3.glob.rd hg2 HEw.out, h3.rd.tch hg2 (by decide) (by decide), ?_, h3.kept.2.1.tch hg2 (by decide) (by decide), ?_⟩⟩
          · exact Upd.trans h3.kept.1 hg2 (fun j hj ⟨hB, _⟩ => by omega)
          · show World.ownsRow _ _ _ _ _ _ _
            rw [prs_snoc]
            simpa using hown1
    · have hd : decide ((0 : Int) < S.size - st'.at_) = false := by simp; omega
      have hb := pRest_end S place st' acc hlt
      rw [hR.out] at hb
      have hr := HR.out
      rw [hb] at hr
      simp only at hr
      have HRR := Lib.hid hr
      clear hr hb hR HR
      go_wp2_with (go_at_call 116; refine HL.out.mono ?_; rintro e w4 ⟨rfl, nq, rfl⟩)
      go_ret2
      rw [HRR.out]
      have h3 := hW.out.drewN (rdKeep.stab HGG.out) nq
      exact ⟨⟨_, _, rfl, PrOwn.base h3.kept.2.2 (hKs _ H2.out.kept), rfl⟩, h3.glob, h3.kept.2.1, HK.out _ _ h3.kept.1 H2.out.kept⟩

theorem pread_any (E : GE) (g : Nat) (s : ByteArray) (K : World → Prop) (st : RSt) (place : Int) (w : World) (hK : Stab g K) (hT : KT E K) (h : RdK E g s K w st) :
    Calls Tryz.prog 56 #[.pointer (some ⟨g, 0, none⟩), .int .i64 place] w (ReadPost E g s K w (pRead s st place)) := by
  unfold pRead
  cases hf : (pPart s st).2.f with
  | some f => exact pread_off E g s K st place w hK hT h f hf
  | none =>
    obtain ⟨q, hq⟩ : ∃ q, pPart s st = q := ⟨_, rfl⟩
    obtain ⟨S, st2⟩ := q
    rw [hq] at hf ⊢
    have hK2 : Stab g (fun W => K W ∧ w.heap.size ≤ W.heap.size) := fun a b ht hh => ⟨hK a b ht hh.1, Nat.le_trans hh.2 ht.size⟩
    refine (pread_on E g s (fun W => K W ∧ w.heap.size ≤ W.heap.size) st place w (fun W hW => hW.2) hK2 (fun W hW => hT W hW.1) ⟨h.1, h.2.1, h.2.2, Nat.le_refl _⟩ S st2 hq hf _ (Lib.hid rfl)).mono ?_
    rintro e w' ⟨⟨v, ev, rfl, ho, he⟩, hr⟩
    refine ⟨⟨v, ev, rfl, ?_, ?_⟩, ?_⟩
    · exact ho
    · exact he
    · exact ⟨hr.1, hr.2.1, hr.2.2.1⟩
end Go.Proofs.YtmmahkckemclaaaGreatDoor
