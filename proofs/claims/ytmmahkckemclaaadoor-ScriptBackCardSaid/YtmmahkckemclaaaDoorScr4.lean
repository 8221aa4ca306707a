/- Scripts, more: what stands ahead, Take. Conditions: fewer than 2^47 bytes; the package variables hold what the program lays there. -/
import Derived.Test.YtmmahkckemclaaaDoorScr3
namespace Go.Proofs.YtmmahkckemclaaaDoor
open Go.RowKit Go.Extern.Stop Go.Stop Go.Extern

def crier : ByteArray := str [67, 82, 73, 69, 82]
/-- Behind the name. -/
def rHead2 (s : ByteArray) (p : RSt) : Cfg × Int × Option Flt × RSt :=
  match (rCfg s p).2.1 with
    | some f => ((rCfg s p).1, 0, some f, (rCfg s p).2.2)
    | none =>
      if (rNum 2 s (rCfg s p).2.2).1 > 16384 then ((rCfg s p).1, 0, some ⟨4, 149, (rCfg s p).2.2.at_⟩, (rNum 2 s (rCfg s p).2.2).2)
      else ((rCfg s p).1, (rNum 2 s (rCfg s p).2.2).1, (rNum 2 s (rCfg s p).2.2).2.f, (rNum 2 s (rCfg s p).2.2).2)
/-- What head answers: the bounds, how many events, why not, and the reader. -/
def rHead (s : ByteArray) (st : RSt) : Cfg × Int × Option Flt × RSt :=
  if (rRaw s st 5).2.f.isNone && !decide ((rRaw s st 5).1 = crier) then (⟨0, 0, 0, 0, 0, 0, 0, 0, 0, 0, 0, 0, 0⟩, 0, some ⟨2, 129, 0⟩, (rRaw s st 5).2)
  else rHead2 s (rRaw s st 5).2

theorem gConfig {E : GE} {g : Nat} {s : ByteArray} {K : World → Prop} {w : World} {st : RSt} (c : Cfg) (hc : (rCfg s st).1 = c) (hK : Stab g K) (h : RdK E g s K w st) :
    Calls Tryd.prog 49 #[.pointer (some ⟨g, 0, none⟩)] w fun e w' => (∃ ev, e = .returned (.tuple #[.agg #[.int .i64 c.c0, .int .i64 c.c1, .int .i64 c.c2, .int .i64 c.c3, .int .i64 c.c4, .int .i64 c.c5, .int .i64 c.c6, .int .i64 c.c7, .int .i64 c.c8, .int .i64 c.c9, .int .i64 c.c10, .int .i64 c.c11, .int .i64 c.c12], ev]) ∧ Hid (ErrIs E w' ev (rCfg s st).2.1)) ∧ RdK E g s K w' (rCfg s st).2.2 := by
  refine (config_any E g s st w h.glob h.rd).mono ?_
  rintro e w' ⟨⟨ev, rfl, he⟩, hr, ht⟩
  subst hc
  exact ⟨⟨ev, rfl, he⟩, h.next hK hr ht⟩

def headBad (s : ByteArray) (st : RSt) : Bool := (rRaw s st 5).2.f.isNone && !decide ((rRaw s st 5).1 = crier)
set_option maxRecDepth 100000 in
set_option maxHeartbeats 4000000 in
theorem head_any (E : GE) (g : Nat) (s : ByteArray) (st : RSt) (w : World) (hG : Glob E w) (hR : Rd E w g s st) :
    Calls Tryd.prog 27 #[.pointer (some ⟨g, 0, none⟩)] w fun e w' => (∃ ev, e = .returned (.tuple #[(rHead s st).1.v, .int .i64 (rHead s st).2.1, ev]) ∧ ErrIs E w' ev (rHead s st).2.2.1) ∧ Rd E w' g s (rHead s st).2.2.2 ∧ Tch g RT w w' := by
  obtain ⟨K, hKe⟩ : ∃ K : World → Prop, K = fun w' => Tch g RT w w' ∧ Blk w' w.heap.size 23 #[.int .i64 0, .int .i64 0, .int .i64 0, .int .i64 0, .int .i64 0, .int .i64 0, .int .i64 0, .int .i64 0, .int .i64 0, .int .i64 0, .int .i64 0, .int .i64 0, .int .i64 0] := ⟨_, rfl⟩
  have hK : Stab g K := by
    rw [hKe]
    exact fun _ _ ht h => ⟨Tch.trans h.1 ht, h.2.tch ht (by decide)⟩
  have h0 : RdK E g s K (w.alloc (.cells #[.int .i64 0, .int .i64 0, .int .i64 0, .int .i64 0, .int .i64 0, .int .i64 0, .int .i64 0, .int .i64 0, .int .i64 0, .int .i64 0, .int .i64 0, .int .i64 0, .int .i64 0] 23)) st := by
    rw [hKe]
    exact ⟨hG.non ((Upd.refl _ _).alloc _), hR.non ((Upd.refl _ _).alloc _), (Upd.refl _ _).alloc _, Blk.new _ _ _⟩
  have HK := Lib.hid hK
  have HKE := Lib.hid hKe
  clear hKe hK
  have hl1 : 2 < w.heap.size := Nat.lt_of_lt_of_le (hG.lt 2) hG.size
  go_enter Tryd.func27, Tryd.ntmps27
  go_upto_region 2 with (go_at_call 47; refine (gRaw HK.out h0 _).mono ?_; rintro e w1 ⟨rfl, h1⟩)
  go_cut [18] (fun v wc => v = .bool (headBad s st) ∧ wc = w1)
  case first =>
    have hB : Hid (headBad s st = ((rRaw s st 5).2.f.isNone && !decide ((rRaw s st 5).1 = crier))) := rfl
    have hs := toList_beq (rRaw s st 5).1 [67, 82, 73, 69, 82]
    cases hf : (rRaw s st 5).2.f with
    | some f =>
      have HF := Lib.hid hf
      clear hf hs
      go_wp2_with (go_at_call 48; refine (gErr_some h1 HF.out).mono ?_; rintro e w1 ⟨⟨k, rfl, he⟩, rfl⟩)
      go_meet
      case rel => exact ⟨by rw [hB.out, HF.out]; rfl, rfl⟩
    | none =>
      have HF := Lib.hid hf
      clear hf
      go_wp2_with (go_at_call 48; refine (gErr_none h1 HF.out).mono ?_; rintro e w1 ⟨rfl, rfl⟩)
      go_meet
      case rel => exact ⟨by rw [hB.out, HF.out]; rfl, rfl⟩
  case rest =>
    obtain ⟨rfl, rfl⟩ := hcut
    clear h0
    cases hb : headBad s st with
    | true =>
      have hf : (rRaw s st 5).2.f = none := by
        unfold headBad at hb
        cases h : (rRaw s st 5).2.f with
        | none => rfl
        | some f => rw [h] at hb; simp at hb
      have hrv : rHead s st = (⟨0, 0, 0, 0, 0, 0, 0, 0, 0, 0, 0, 0, 0⟩, 0, some ⟨2, 129, 0⟩, (rRaw s st 5).2) := by
        have hb' : ((rRaw s st 5).2.f.isNone && !decide ((rRaw s st 5).1 = crier)) = true := hb
        unfold rHead; rw [hb']; rfl
      have HRV := Lib.hid hrv
      have hk1 := h1.kept
      rw [HKE.out] at hk1
      have hz := hk1.2.cells13
      have hfz := hk1.2.frozen
      have hlz := hk1.2.lt
      have hl2 : 2 < wc.heap.size := Nat.lt_of_lt_of_le (h1.glob.lt 2) h1.glob.size
      have g2 := h1.glob.at_ 2 (by decide) (by decide)
      simp only [gix, GE.kd] at g2
      obtain ⟨z0, z1, z2, z3, z4, z5, z6, z7, z8, z9, z10, z11, z12⟩ := hz
      clear hf hrv hb
      go_wp2_with (go_at_call 17; refine (new_any _ _ _ _ _).mono ?_; rintro e w1 ⟨rfl, rfl⟩)
      refine bodyPost_ret (v := .tuple #[.agg #[.int .i64 0, .int .i64 0, .int .i64 0, .int .i64 0, .int .i64 0, .int .i64 0, .int .i64 0, .int .i64 0, .int .i64 0, .int .i64 0, .int .i64 0, .int .i64 0, .int .i64 0], .int .i64 0, .iface 90 (.pointer (some ⟨wc.heap.size, 0, none⟩))]) (by simp [results, Tryd.results27, go_sem, *]) rfl ?_
      rw [HRV.out]
      refine ⟨⟨_, rfl, ErrIs.new_at _ 2 129 0 (by decide) (by decide) (by simp)⟩, Rd.non ((Upd.refl _ _).alloc _) (Rd.one ?_ hk1.2 (by decide) (by decide) h1.rd), ?_⟩
      · repeat (first | (with_reducible exact Upd.refl _ _) | (with_reducible refine Upd.setCell ?_ _ (fun _ => rfl)))
      · refine Upd.alloc ?_ _
        repeat (first | (with_reducible exact hk1.1) | (with_reducible refine Tch.setNew ?_ (by simp) _))
    | false =>
      have hrv : rHead s st = rHead2 s (rRaw s st 5).2 := by
        have hb' : ((rRaw s st 5).2.f.isNone && !decide ((rRaw s st 5).1 = crier)) = false := hb
        unfold rHead; rw [hb']; rfl
      have HRV := Lib.hid hrv
      clear hrv hb
      generalize (rRaw s st 5).2 = p at *
      obtain ⟨c, hc⟩ : ∃ c, c = (rCfg s p).1 := ⟨_, rfl⟩
      have HC := Lib.hid hc
      clear hc
      cases hf : (rCfg s p).2.1 with
      | some f =>
        have HF := Lib.hid hf
        clear hf
        go_wp2_with (first
          | (go_at_call 49
             refine (gConfig c HC.out.symm HK.out h1).mono ?_
             rintro e w2 ⟨⟨ev, rfl, he⟩, h2⟩
             rw [HF.out] at he
             obtain ⟨k, rfl⟩ := ErrIs.form he.out
             have hk2 := h2.kept
             rw [HKE.out] at hk2
             obtain ⟨z0, z1, z2, z3, z4, z5, z6, z7, z8, z9, z10, z11, z12⟩ := hk2.2.cells13
             have hfz := hk2.2.frozen
             have hlz := hk2.2.lt))
        refine bodyPost_ret (v := .tuple #[.agg #[.int .i64 c.c0, .int .i64 c.c1, .int .i64 c.c2, .int .i64 c.c3, .int .i64 c.c4, .int .i64 c.c5, .int .i64 c.c6, .int .i64 c.c7, .int .i64 c.c8, .int .i64 c.c9, .int .i64 c.c10, .int .i64 c.c11, .int .i64 c.c12], .int .i64 0, .iface 90 (.pointer (some ⟨k, 0, none⟩))]) (by simp [results, Tryd.results27, go_sem, *]) rfl ?_
        have hrv2 : rHead2 s p = (c, 0, some f, (rCfg s p).2.2) := by
          unfold rHead2; rw [HF.out, HC.out]
        rw [HRV.out, hrv2]
        have hbz := hk2.2.alloc (.cells #[.int .i64 c.c0, .int .i64 c.c1, .int .i64 c.c2, .int .i64 c.c3, .int .i64 c.c4, .int .i64 c.c5, .int .i64 c.c6, .int .i64 c.c7, .int .i64 c.c8, .int .i64 c.c9, .int .i64 c.c10, .int .i64 c.c11, .int .i64 c.c12] 23)
        have hez := ErrIs.non ((Upd.refl _ _).alloc (.cells #[.int .i64 c.c0, .int .i64 c.c1, .int .i64 c.c2, .int .i64 c.c3, .int .i64 c.c4, .int .i64 c.c5, .int .i64 c.c6, .int .i64 c.c7, .int .i64 c.c8, .int .i64 c.c9, .int .i64 c.c10, .int .i64 c.c11, .int .i64 c.c12] 23)) he.out
        have hrz := Rd.non ((Upd.refl _ _).alloc (.cells #[.int .i64 c.c0, .int .i64 c.c1, .int .i64 c.c2, .int .i64 c.c3, .int .i64 c.c4, .int .i64 c.c5, .int .i64 c.c6, .int .i64 c.c7, .int .i64 c.c8, .int .i64 c.c9, .int .i64 c.c10, .int .i64 c.c11, .int .i64 c.c12] 23)) h2.rd
        refine ⟨⟨_, rfl, ErrIs.one ?_ hbz (by decide) hez⟩, Rd.one ?_ hbz (by decide) (by decide) hrz, ?_⟩
        · refine Upd.alloc_both ?_ (by simp) _
          repeat (first | (with_reducible exact Upd.refl _ _) | (with_reducible refine Upd.setCell ?_ _ (fun _ => rfl)))
        · refine Upd.alloc_both ?_ (by simp) _
          repeat (first | (with_reducible exact Upd.refl _ _) | (with_reducible refine Upd.setCell ?_ _ (fun _ => rfl)))
        · refine Upd.alloc ?_ _
          repeat (first | (with_reducible exact hk2.1) | (with_reducible refine Tch.setNew ?_ (by simp) _))
      | none =>
        have HF := Lib.hid hf
        clear hf
        have hqr : Hid (0 ≤ (rNum 2 s (rCfg s p).2.2).1) := Lib.hid (beVal_range _).1
        obtain ⟨q, hq⟩ : ∃ q, q = rNum 2 s (rCfg s p).2.2 := ⟨_, rfl⟩
        have HQ := Lib.hid hq
        clear hq
        rw [← HQ.out] at hqr
        have hq0 : 0 ≤ q.1 := hqr.out
        go_upto_region 9 with (first
          | (go_at_call 49
             refine (gConfig c HC.out.symm HK.out h1).mono ?_
             rintro e w2 ⟨⟨ev, rfl, he⟩, h2⟩
             rw [HF.out] at he
             obtain rfl : ev = .nilIface := he.out
             have hk2 := h2.kept
             rw [HKE.out] at hk2
             have hlt12 : w.heap.size < w2.heap.size := hk2.2.lt
             clear hk2
             have hK2 : Hid (Stab g (fun w' => K w' ∧ Blk w' w2.heap.size 23 #[.int .i64 c.c0, .int .i64 c.c1, .int .i64 c.c2, .int .i64 c.c3, .int .i64 c.c4, .int .i64 c.c5, .int .i64 c.c6, .int .i64 c.c7, .int .i64 c.c8, .int .i64 c.c9, .int .i64 c.c10, .int .i64 c.c11, .int .i64 c.c12])) := Lib.hid (fun _ _ ht h => ⟨HK.out _ _ ht h.1, h.2.tch ht (by decide)⟩)
             have h3 : RdK E g s (fun w' => K w' ∧ Blk w' w2.heap.size 23 #[.int .i64 c.c0, .int .i64 c.c1, .int .i64 c.c2, .int .i64 c.c3, .int .i64 c.c4, .int .i64 c.c5, .int .i64 c.c6, .int .i64 c.c7, .int .i64 c.c8, .int .i64 c.c9, .int .i64 c.c10, .int .i64 c.c11, .int .i64 c.c12]) (w2.alloc (.cells #[.int .i64 c.c0, .int .i64 c.c1, .int .i64 c.c2, .int .i64 c.c3, .int .i64 c.c4, .int .i64 c.c5, .int .i64 c.c6, .int .i64 c.c7, .int .i64 c.c8, .int .i64 c.c9, .int .i64 c.c10, .int .i64 c.c11, .int .i64 c.c12] 23)) (rCfg s p).2.2 :=
               ⟨h2.glob.non ((Upd.refl _ _).alloc _), h2.rd.non ((Upd.refl _ _).alloc _), HK.out _ _ (Tch.of_non ((Upd.refl _ _).alloc _)) h2.kept, Blk.new _ _ _⟩)
          | (go_at_call 50; refine (gAt h3).mono ?_; rintro e w3 ⟨rfl, rfl⟩)
          | (go_at_call 51
             refine (gU16 hK2.out h3).mono ?_
             rintro e w3 ⟨rfl, h4⟩
             rw [← HQ.out] at h4
             rw [← HQ.out]))
        have hk4 := h4.kept.1
        have hkc := h4.kept.2
        rw [HKE.out] at hk4
        obtain ⟨z0, z1, z2, z3, z4, z5, z6, z7, z8, z9, z10, z11, z12⟩ := hk4.2.cells13
        obtain ⟨k0, k1, k2, k3, k4, k5, k6, k7, k8, k9, k10, k11, k12⟩ := hkc.cells13
        have hfz := hk4.2.frozen
        have hlz := hk4.2.lt
        have hlc := hkc.lt
        have hrv2 : rHead2 s p = (if q.1 > 16384 then (c, 0, some ⟨4, 149, (rCfg s p).2.2.at_⟩, q.2) else (c, q.1, q.2.f, q.2)) := by
          unfold rHead2; rw [HF.out, HC.out, HQ.out]
        by_cases hbig : 16384 < q.1
        · rw [if_pos hbig] at hrv2
          have HRV2 := Lib.hid hrv2
          clear hrv2
          have hl3 : 0 < w.heap.size := Nat.lt_of_lt_of_le (hG.lt 4) hG.size
          have hl4 : 0 < w3.heap.size := Nat.lt_of_lt_of_le (h4.glob.lt 4) h4.glob.size
          have g4 := h4.glob.at_ 4 (by decide) (by decide)
          simp only [gix, GE.kd] at g4
          go_wp2
          go_region_held3 (fun w' => w'.cell? ⟨w2.heap.size, 0, none⟩ = some (.int .i64 c.c0) ∧ w'.cell? ⟨w2.heap.size, 1, none⟩ = some (.int .i64 c.c1) ∧ w'.cell? ⟨w2.heap.size, 2, none⟩ = some (.int .i64 c.c2) ∧ w'.cell? ⟨w2.heap.size, 3, none⟩ = some (.int .i64 c.c3) ∧ w'.cell? ⟨w2.heap.size, 4, none⟩ = some (.int .i64 c.c4) ∧ w'.cell? ⟨w2.heap.size, 5, none⟩ = some (.int .i64 c.c5) ∧ w'.cell? ⟨w2.heap.size, 6, none⟩ = some (.int .i64 c.c6) ∧ w'.cell? ⟨w2.heap.size, 7, none⟩ = some (.int .i64 c.c7) ∧ w'.cell? ⟨w2.heap.size, 8, none⟩ = some (.int .i64 c.c8) ∧ w'.cell? ⟨w2.heap.size, 9, none⟩ = some (.int .i64 c.c9) ∧ w'.cell? ⟨w2.heap.size, 10, none⟩ = some (.int .i64 c.c10) ∧ w'.cell? ⟨w2.heap.size, 11, none⟩ = some (.int .i64 c.c11) ∧ w'.cell? ⟨w2.heap.size, 12, none⟩ = some (.int .i64 c.c12) ∧ w'.cell? ⟨0, 0, none⟩ = some (.iface 170 (.pointer (some (E.a 4))))) (simp [go_sem, World.cell?_alloc_lt, *])
           (first
            | (go_at_call 17; refine (new_any _ _ _ _ _).mono ?_; rintro e w4 ⟨rfl, rfl⟩))
          go_wp2
          refine bodyPost_ret (v := .tuple #[.agg #[.int .i64 c.c0, .int .i64 c.c1, .int .i64 c.c2, .int .i64 c.c3, .int .i64 c.c4, .int .i64 c.c5, .int .i64 c.c6, .int .i64 c.c7, .int .i64 c.c8, .int .i64 c.c9, .int .i64 c.c10, .int .i64 c.c11, .int .i64 c.c12], .int .i64 0, .iface 90 (.pointer (some ⟨w3.heap.size, 0, none⟩))]) (by simp [results, Tryd.results27, go_sem, *]) rfl ?_
          rw [HRV.out, HRV2.out]
          refine ⟨⟨_, rfl, ErrIs.drew (ErrIs.new_at _ 4 149 _ (by decide) (by decide) (by simp))⟩, Rd.drew (Rd.non ((Upd.refl _ _).alloc _) (Rd.one ?_ hk4.2 (by decide) (by decide) h4.rd)), ?_⟩
          · repeat (first | (with_reducible exact Upd.refl _ _) | (with_reducible refine Upd.setCell ?_ _ (fun _ => rfl)))
          · refine Upd.drew (Upd.alloc ?_ _)
            repeat (first | (with_reducible exact hk4.1) | (with_reducible refine Tch.setNew ?_ (by simp) _))
        · rw [if_neg hbig] at hrv2
          have HRV2 := Lib.hid hrv2
          clear hrv2
          have h4d : RdK E g s _ w3.drew q.2 := h4.drewN hK2.out 1
          cases hf2 : q.2.f with
          | some f =>
            have HF2 := Lib.hid hf2
            clear hf2
            go_wp2
            go_region_held3 (fun w' => w'.cell? ⟨w2.heap.size, 0, none⟩ = some (.int .i64 c.c0) ∧ w'.cell? ⟨w2.heap.size, 1, none⟩ = some (.int .i64 c.c1) ∧ w'.cell? ⟨w2.heap.size, 2, none⟩ = some (.int .i64 c.c2) ∧ w'.cell? ⟨w2.heap.size, 3, none⟩ = some (.int .i64 c.c3) ∧ w'.cell? ⟨w2.heap.size, 4, none⟩ = some (.int .i64 c.c4) ∧ w'.cell? ⟨w2.heap.size, 5, none⟩ = some (.int .i64 c.c5) ∧ w'.cell? ⟨w2.heap.size, 6, none⟩ = some (.int .i64 c.c6) ∧ w'.cell? ⟨w2.heap.size, 7, none⟩ = some (.int .i64 c.c7) ∧ w'.cell? ⟨w2.heap.size, 8, none⟩ = some (.int .i64 c.c8) ∧ w'.cell? ⟨w2.heap.size, 9, none⟩ = some (.int .i64 c.c9) ∧ w'.cell? ⟨w2.heap.size, 10, none⟩ = some (.int .i64 c.c10) ∧ w'.cell? ⟨w2.heap.size, 11, none⟩ = some (.int .i64 c.c11) ∧ w'.cell? ⟨w2.heap.size, 12, none⟩ = some (.int .i64 c.c12)) (simp [go_sem, *])
             (first
              | (go_at_call 48; refine (gErr_some h4d HF2.out).mono ?_; rintro e w4 ⟨⟨k, rfl, he⟩, rfl⟩))
            go_wp2
            refine bodyPost_ret (v := .tuple #[.agg #[.int .i64 c.c0, .int .i64 c.c1, .int .i64 c.c2, .int .i64 c.c3, .int .i64 c.c4, .int .i64 c.c5, .int .i64 c.c6, .int .i64 c.c7, .int .i64 c.c8, .int .i64 c.c9, .int .i64 c.c10, .int .i64 c.c11, .int .i64 c.c12], .int .i64 q.1, .iface 90 (.pointer (some ⟨k, 0, none⟩))]) (by simp [results, Tryd.results27, go_sem, *]) rfl ?_
            rw [HRV.out, HRV2.out, HF2.out]
            refine ⟨⟨_, rfl, ErrIs.one ?_ hk4.2.drew (by decide) he.out⟩, Rd.one ?_ hk4.2.drew (by decide) (by decide) h4d.rd, ?_⟩
            · refine Upd.drews ?_
              repeat (first | (with_reducible exact Upd.refl _ _) | (with_reducible refine Upd.setCell ?_ _ (fun _ => rfl)))
            · refine Upd.drews ?_
              repeat (first | (with_reducible exact Upd.refl _ _) | (with_reducible refine Upd.setCell ?_ _ (fun _ => rfl)))
            · refine Upd.drew ?_
              repeat (first | (with_reducible exact hk4.1) | (with_reducible refine Tch.setNew ?_ (by simp) _))
          | none =>
            have HF2 := Lib.hid hf2
            clear hf2
            go_wp2
            go_region_held3 (fun w' => w'.cell? ⟨w2.heap.size, 0, none⟩ = some (.int .i64 c.c0) ∧ w'.cell? ⟨w2.heap.size, 1, none⟩ = some (.int .i64 c.c1) ∧ w'.cell? ⟨w2.heap.size, 2, none⟩ = some (.int .i64 c.c2) ∧ w'.cell? ⟨w2.heap.size, 3, none⟩ = some (.int .i64 c.c3) ∧ w'.cell? ⟨w2.heap.size, 4, none⟩ = some (.int .i64 c.c4) ∧ w'.cell? ⟨w2.heap.size, 5, none⟩ = some (.int .i64 c.c5) ∧ w'.cell? ⟨w2.heap.size, 6, none⟩ = some (.int .i64 c.c6) ∧ w'.cell? ⟨w2.heap.size, 7, none⟩ = some (.int .i64 c.c7) ∧ w'.cell? ⟨w2.heap.size, 8, none⟩ = some (.int .i64 c.c8) ∧ w'.cell? ⟨w2.heap.size, 9, none⟩ = some (.int .i64 c.c9) ∧ w'.cell? ⟨w2.heap.size, 10, none⟩ = some (.int .i64 c.c10) ∧ w'.cell? ⟨w2.heap.size, 11, none⟩ = some (.int .i64 c.c11) ∧ w'.cell? ⟨w2.heap.size, 12, none⟩ = some (.int .i64 c.c12)) (simp [go_sem, *])
             (first
              | (go_at_call 48; refine (gErr_none h4d HF2.out).mono ?_; rintro e w4 ⟨rfl, rfl⟩))
            go_wp2
            refine bodyPost_ret (v := .tuple #[.agg #[.int .i64 c.c0, .int .i64 c.c1, .int .i64 c.c2, .int .i64 c.c3, .int .i64 c.c4, .int .i64 c.c5, .int .i64 c.c6, .int .i64 c.c7, .int .i64 c.c8, .int .i64 c.c9, .int .i64 c.c10, .int .i64 c.c11, .int .i64 c.c12], .int .i64 q.1, .nilIface]) (by simp [results, Tryd.results27, go_sem, *]) rfl ?_
            rw [HRV.out, HRV2.out, HF2.out]
            refine ⟨⟨_, rfl, rfl⟩, Rd.one ?_ hk4.2.drew (by decide) (by decide) h4d.rd, ?_⟩
            · refine Upd.drews ?_
              repeat (first | (with_reducible exact Upd.refl _ _) | (with_reducible refine Upd.setCell ?_ _ (fun _ => rfl)))
            · refine Upd.drew ?_
              repeat (first | (with_reducible exact hk4.1) | (with_reducible refine Tch.setNew ?_ (by simp) _))
end Go.Proofs.YtmmahkckemclaaaDoor
