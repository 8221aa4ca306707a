/- Scripts: what reads them. Conditions: fewer than 2^47 bytes; the package variables hold what the program lays there. -/
import Derived.Test.YtmmahkckemclaaaDoorMem2
import Derived.Test.YtmmahkckemclaaaDoorTerms
namespace Go.Proofs.YtmmahkckemclaaaDoor
open Go.RowKit Go.Extern.Stop Go.Stop Go.Extern

def mayKind (k : Int) : Bool := decide (1 ≤ k) && decide (k ≤ 7)
theorem may_any (k : Int) (w : World) : Calls Tryd.prog 22 #[.int .i64 k] w fun e w' => e = .returned (.bool (mayKind k)) ∧ w = w' := by
  unfold mayKind
  by_cases h : 1 ≤ k
  · go_enter Tryd.func22, Tryd.ntmps22
    go_wp2
    go_ret
    exact ⟨by simp; omega, rfl⟩
  · have h' : decide (1 ≤ k) = false := by simpa using h
    go_enter Tryd.func22, Tryd.ntmps22
    go_wp2
    go_ret
    exact ⟨by simp, rfl⟩

/-- So many numbers of four bytes. -/
def rNums (s : ByteArray) (st : RSt) : Nat → List Int × RSt
  | 0 => ([], st)
  | k + 1 => ((rNums s st k).1 ++ [(rNum 4 s (rNums s st k).2).1], (rNum 4 s (rNums s st k).2).2)
theorem rNums_length (s : ByteArray) (st : RSt) : ∀ k, (rNums s st k).1.length = k
  | 0 => rfl
  | k + 1 => by simp [rNums, rNums_length s st k]

def Cfg.of (l : List Int) : Cfg := ⟨l.getD 0 0, l.getD 1 0, l.getD 2 0, l.getD 3 0, l.getD 4 0, l.getD 5 0, l.getD 6 0, l.getD 7 0, l.getD 8 0, l.getD 9 0, l.getD 10 0, l.getD 11 0, l.getD 12 0⟩
/-- What config answers: the bounds, and why they may not be. -/
def rCfg (s : ByteArray) (st : RSt) : Cfg × Option Flt × RSt :=
  let p := rNums s st 13
  (Cfg.of p.1, (match p.2.f with | some f => some f | none => (Cfg.of p.1).check), p.2)

def numsArr (l : List Int) (k : Nat) : Array Value := ((l.map fun n => Value.int .i64 n) ++ List.replicate k (Value.int .i64 0)).toArray
theorem numsArr_set (l : List Int) (k : Nat) (x : Int) : (numsArr l (k + 1)).setIfInBounds l.length (.int .i64 x) = numsArr (l ++ [x]) k := by
  simp [numsArr, List.replicate_succ]
theorem numsArr_get (l : List Int) (k : Nat) : (numsArr l (k + 1))[l.length]? = some (.int .i64 0) := by
  simp [numsArr, List.replicate_succ]
theorem numsArr_size (l : List Int) (k : Nat) : (numsArr l k).size = l.length + k := by simp [numsArr]

theorem list13 (l : List Int) (h : l.length = 13) : ∃ x0 x1 x2 x3 x4 x5 x6 x7 x8 x9 x10 x11 x12 : Int, l = [x0, x1, x2, x3, x4, x5, x6, x7, x8, x9, x10, x11, x12] := by
  rcases l with _ | ⟨x0, _ | ⟨x1, _ | ⟨x2, _ | ⟨x3, _ | ⟨x4, _ | ⟨x5, _ | ⟨x6, _ | ⟨x7, _ | ⟨x8, _ | ⟨x9, _ | ⟨x10, _ | ⟨x11, _ | ⟨x12, l⟩⟩⟩⟩⟩⟩⟩⟩⟩⟩⟩⟩⟩
  all_goals first | (simp at h; done) | skip
  obtain rfl : l = [] := List.eq_nil_of_length_eq_zero (by simpa using h)
  exact ⟨_, _, _, _, _, _, _, _, _, _, _, _, _, rfl⟩

theorem rCfg_1 (s : ByteArray) (st : RSt) : (rCfg s st).1 = Cfg.of (rNums s st 13).1 := rfl
theorem rCfg_2 (s : ByteArray) (st : RSt) : (rCfg s st).2.1 = (match (rNums s st 13).2.f with | some f => some f | none => (Cfg.of (rNums s st 13).1).check) := rfl
theorem rCfg_3 (s : ByteArray) (st : RSt) : (rCfg s st).2.2 = (rNums s st 13).2 := rfl
theorem rCfg_v (s : ByteArray) (st : RSt) (x0 x1 x2 x3 x4 x5 x6 x7 x8 x9 x10 x11 x12 : Int) (h : (rNums s st 13).1 = [x0, x1, x2, x3, x4, x5, x6, x7, x8, x9, x10, x11, x12]) :
    (rCfg s st).1 = ⟨x0, x1, x2, x3, x4, x5, x6, x7, x8, x9, x10, x11, x12⟩ := by rw [rCfg_1, h]; rfl

set_option maxRecDepth 100000 in
set_option maxHeartbeats 2000000 in
theorem config_any (E : GE) (g : Nat) (s : ByteArray) (st : RSt) (w : World) (hG : Glob E w) (hR : Rd E w g s st) :
    Calls Tryd.prog 49 #[.pointer (some ⟨g, 0, none⟩)] w fun e w' => (∃ ev, e = .returned (.tuple #[(rCfg s st).1.v, ev]) ∧ ErrIs E w' ev (rCfg s st).2.1) ∧ Rd E w' g s (rCfg s st).2.2 ∧ Tch g RT w w' := by
  go_enter Tryd.func49, Tryd.ntmps49
  go_wp2_with fail
  have hlt : g < w.heap.size := by obtain ⟨_, _, _, _, hb, _⟩ := hR; exact hb.lt
  go_loopg [8] 13 (fun kq v w' => ∃ k : Nat, v = .int .i64 k ∧ k + kq = 13 ∧ Rd E w' g s (rNums s st k).2 ∧ Blk w' (w.heap.size + 1) 113 (numsArr (rNums s st k).1 (13 - k)) ∧
    Blk w' w.heap.size 23 (Cfg.cells ⟨0, 0, 0, 0, 0, 0, 0, 0, 0, 0, 0, 0, 0⟩) ∧ Tch g RT w w')
  case atStart =>
    refine ⟨0, rfl, rfl, (hR.non ((Upd.refl _ _).alloc _)).non ((Upd.refl _ _).alloc _), Blk.new_at _ _ _ (by simp), (Blk.new_at _ _ _ rfl).alloc _, ((Upd.refl _ _).alloc _).alloc _⟩
  case round =>
    obtain ⟨k, rfl, hq, hR1, hA, hC, hT⟩ := hrel
    have HR := Lib.hid hR1
    have HA := Lib.hid hA
    have HC := Lib.hid hC
    have HT := Lib.hid hT
    have HQ := Lib.hid hq
    have HG := Lib.hid (hG.rd hT hR.1)
    clear hR1 hA hC hT hq
    by_cases hk : k < 13
    · have hlen := rNums_length s st k
      obtain ⟨m, hm⟩ : ∃ m, 13 - k = m + 1 := ⟨12 - k, by omega⟩
      have hget := numsArr_get (rNums s st k).1 m
      rw [hlen, ← hm] at hget
      have HM := Lib.hid hm
      have HL := Lib.hid hlen
      have HE := Lib.hid hget
      clear hm hlen hget
      go_wp2_with (go_at_call 38
                   refine (rU32 E g s _ _ HG.out HR.out).mono ?_
                   rintro e w1 ⟨rfl, hR1, hT1⟩
                   have hA1 := HA.out.tch hT1 (by decide)
                   have hC1 := HC.out.tch hT1 (by decide)
                   have hc : w1.cell? ⟨w.heap.size + 1, k, none⟩ = some (.int .i64 0) := (hA1.cell k).trans HE.out
                   have hf : w1.frozen? ⟨w.heap.size + 1, k, none⟩ = false := hA1.frozen k)
      go_roundg (gk - 1)
      case measure => have := HQ.out; omega
      case rel =>
        have := HQ.out
        have hne : w.heap.size ≠ w.heap.size + 1 := by omega
        have hT2 : Tch (w.heap.size + 1) [113] w1 (w1.setCell ⟨w.heap.size + 1, k, none⟩ (.int .i64 (rNum 4 s (rNums s st k).2).1)) := Tch.set (Upd.refl _ _) hA1 (by simp) (Nat.le_refl _) k _
        refine ⟨k + 1, by go_num, by omega, hR1.tch hT2 (by decide) (by decide), ?_, hC1.far hne _, Tch.setNew (HT.out.trans hT1) (by simp) _⟩
        · have h1 := hA1.set_ k (.int .i64 (rNum 4 s (rNums s st k).2).1)
          have h2 := numsArr_set (rNums s st k).1 m (rNum 4 s (rNums s st k).2).1
          rw [HL.out, ← HM.out] at h2
          rw [h2] at h1
          rw [show 13 - (k + 1) = m by have := HM.out; omega]
          exact h1
    · have h13 : k = 13 := by have := HQ.out; omega
      subst h13
      obtain ⟨x0, x1, x2, x3, x4, x5, x6, x7, x8, x9, x10, x11, x12, hl⟩ := list13 _ (rNums_length s st 13)
      have hA := HA.out
      rw [hl] at hA
      have hA' : Blk wr (w.heap.size + 1) 113 #[.int .i64 x0, .int .i64 x1, .int .i64 x2, .int .i64 x3, .int .i64 x4, .int .i64 x5, .int .i64 x6, .int .i64 x7, .int .i64 x8, .int .i64 x9, .int .i64 x10, .int .i64 x11, .int .i64 x12] := hA
      clear hA
      have HL := Lib.hid hl
      clear hl
      obtain ⟨cx0, cx1, cx2, cx3, cx4, cx5, cx6, cx7, cx8, cx9, cx10, cx11, cx12⟩ := hA'.cells13
      have hC := HC.out
      unfold Cfg.cells at hC
      obtain ⟨rx0, rx1, rx2, rx3, rx4, rx5, rx6, rx7, rx8, rx9, rx10, rx11, rx12⟩ := hC.cells13
      have hfr := hC.frozen
      have hz1 := hA'.lt
      have hz2 := hC.lt
      cases hf : (rNums s st 13).2.f with
      | some f =>
        have HF := Lib.hid hf
        clear hf
        go_wp2_with (go_at_call 48; refine (rErr_any E g s _ _ (HR.out.non ((Upd.refl _ _).alloc _))).mono ?_; rintro e w0 ⟨⟨ev, rfl, hev⟩, rfl⟩; rw [HF.out] at hev; obtain ⟨k, rfl⟩ := ErrIs.form hev; have HV := Lib.hid hev; clear hev)
        have hCa := hC.alloc (.cells #[.int .i64 x0, .int .i64 x1, .int .i64 x2, .int .i64 x3, .int .i64 x4, .int .i64 x5, .int .i64 x6, .int .i64 x7, .int .i64 x8, .int .i64 x9, .int .i64 x10, .int .i64 x11, .int .i64 x12] 23)
        have hcfg := rCfg_v s st _ _ _ _ _ _ _ _ _ _ _ _ _ HL.out
        have he : (rCfg s st).2.1 = some f := by rw [rCfg_2, HF.out]
        refine bodyPost_ret (v := .tuple #[.agg #[.int .i64 x0, .int .i64 x1, .int .i64 x2, .int .i64 x3, .int .i64 x4, .int .i64 x5, .int .i64 x6, .int .i64 x7, .int .i64 x8, .int .i64 x9, .int .i64 x10, .int .i64 x11, .int .i64 x12], .iface 90 (.pointer (some ⟨k, 0, none⟩))]) (by simp [results, Tryd.results49, go_sem, *]) rfl ?_
        rw [hcfg, he, rCfg_3]
        refine ⟨⟨_, rfl, ErrIs.one ?_ hCa (by decide) HV.out⟩, Rd.one ?_ hCa (by decide) (by decide) (HR.out.non ((Upd.refl _ _).alloc _)), ?_⟩
        · refine Upd.alloc_both ?_ (by simp) _
          repeat (first | (with_reducible exact Upd.refl _ _) | (with_reducible refine Upd.setCell ?_ _ (fun _ => rfl)))
        · refine Upd.alloc_both ?_ (by simp) _
          repeat (first | (with_reducible exact Upd.refl _ _) | (with_reducible refine Upd.setCell ?_ _ (fun _ => rfl)))
        · refine Upd.alloc ?_ _
          repeat (first | (with_reducible exact HT.out) | (with_reducible refine Tch.setNew ?_ (by simp) _))
      | none =>
        have HF := Lib.hid hf
        clear hf
        have hcw := Blk.new wr 23 #[.int .i64 x0, .int .i64 x1, .int .i64 x2, .int .i64 x3, .int .i64 x4, .int .i64 x5, .int .i64 x6, .int .i64 x7, .int .i64 x8, .int .i64 x9, .int .i64 x10, .int .i64 x11, .int .i64 x12]
        have hua : Upd Non wr (wr.alloc (.cells #[.int .i64 x0, .int .i64 x1, .int .i64 x2, .int .i64 x3, .int .i64 x4, .int .i64 x5, .int .i64 x6, .int .i64 x7, .int .i64 x8, .int .i64 x9, .int .i64 x10, .int .i64 x11, .int .i64 x12] 23)) := (Upd.refl _ _).alloc _
        have HCW := Lib.hid hcw
        have HCa := Lib.hid (hC.upd hua (fun h => h))
        have HUa := Lib.hid hua
        clear hcw hua
        go_wp2_with (go_at_call 48; refine (rErr_any E g s _ _ (HR.out.non HUa.out)).mono ?_; rintro e w0 ⟨⟨ev, rfl, hev⟩, rfl⟩; rw [HF.out] at hev; obtain rfl : ev = .nilIface := hev)
        go_region_held3 (fun w' => w'.cell? ⟨wr.heap.size, 0, none⟩ = some (.int .i64 x0) ∧ w'.cell? ⟨wr.heap.size, 1, none⟩ = some (.int .i64 x1) ∧ w'.cell? ⟨wr.heap.size, 2, none⟩ = some (.int .i64 x2) ∧ w'.cell? ⟨wr.heap.size, 3, none⟩ = some (.int .i64 x3) ∧ w'.cell? ⟨wr.heap.size, 4, none⟩ = some (.int .i64 x4) ∧ w'.cell? ⟨wr.heap.size, 5, none⟩ = some (.int .i64 x5) ∧ w'.cell? ⟨wr.heap.size, 6, none⟩ = some (.int .i64 x6) ∧ w'.cell? ⟨wr.heap.size, 7, none⟩ = some (.int .i64 x7) ∧ w'.cell? ⟨wr.heap.size, 8, none⟩ = some (.int .i64 x8) ∧ w'.cell? ⟨wr.heap.size, 9, none⟩ = some (.int .i64 x9) ∧ w'.cell? ⟨wr.heap.size, 10, none⟩ = some (.int .i64 x10) ∧ w'.cell? ⟨wr.heap.size, 11, none⟩ = some (.int .i64 x11) ∧ w'.cell? ⟨wr.heap.size, 12, none⟩ = some (.int .i64 x12)) (simp [go_sem, *])
         (first
          | (go_at_call 16
             refine (check_any E ⟨x0, x1, x2, x3, x4, x5, x6, x7, x8, x9, x10, x11, x12⟩ _ ?_).mono ?_
             · exact (HG.out.non HUa.out).drewN 1
             rintro e w2 ⟨⟨ev, rfl, hev⟩, hu2⟩
             obtain ⟨kx0, kx1, kx2, kx3, kx4, kx5, kx6, kx7, kx8, kx9, kx10, kx11, kx12⟩ := (Blk.upd (S := Non) HCW.out.drew hu2 (fun h => h)).cells13
             have hC2 := Blk.upd (S := Non) HCa.out.drew hu2 (fun h => h)
             obtain ⟨mx0, mx1, mx2, mx3, mx4, mx5, mx6, mx7, mx8, mx9, mx10, mx11, mx12⟩ := hC2.cells13
             have hfr2 := hC2.frozen))
        go_wp2
        have hcfg := rCfg_v s st _ _ _ _ _ _ _ _ _ _ _ _ _ HL.out
        have he : (rCfg s st).2.1 = Cfg.check ⟨x0, x1, x2, x3, x4, x5, x6, x7, x8, x9, x10, x11, x12⟩ := by rw [rCfg_2, HF.out, ← rCfg_1, hcfg]
        have hT2 : Tch g RT w w2 := Tch.trans (Upd.drew (Tch.trans HT.out (Tch.of_non HUa.out))) (Tch.of_non hu2)
        refine bodyPost_ret (v := .tuple #[.agg #[.int .i64 x0, .int .i64 x1, .int .i64 x2, .int .i64 x3, .int .i64 x4, .int .i64 x5, .int .i64 x6, .int .i64 x7, .int .i64 x8, .int .i64 x9, .int .i64 x10, .int .i64 x11, .int .i64 x12], ev]) (by simp [results, Tryd.results49, go_sem, *]) rfl ?_
        rw [hcfg, he, rCfg_3]
        refine ⟨⟨_, rfl, ErrIs.one ?_ hC2 (by decide) hev⟩, Rd.one ?_ hC2 (by decide) (by decide) (Rd.non hu2 (Rd.drew (HR.out.non HUa.out))), ?_⟩
        · repeat (first | (with_reducible exact Upd.refl _ _) | (with_reducible refine Upd.drew ?_) | (with_reducible refine Upd.setCell ?_ _ (fun _ => rfl)))
        · repeat (first | (with_reducible exact Upd.refl _ _) | (with_reducible refine Upd.drew ?_) | (with_reducible refine Upd.setCell ?_ _ (fun _ => rfl)))
        · repeat (first | (with_reducible exact hT2) | (with_reducible refine Upd.drew ?_) | (with_reducible refine Tch.setNew ?_ (by simp) _))
end Go.Proofs.YtmmahkckemclaaaDoor
