/- Scripts, more: an event, the events, what stands ahead, Take. Conditions: fewer than 2^47 bytes; the package variables hold what the program lays there. -/
import Derived.Test.YtmmahkckemclaaaDoorRd4
import Derived.Test.YtmmahkckemclaaaDoorScr1
namespace Go.Proofs.YtmmahkckemclaaaDoor
open Go.RowKit Go.Extern.Stop Go.Stop Go.Extern

/-- api.Event. -/
structure Ev where
  kind : Int
  conn : Int
  bytes : ByteArray
  n : Int
def Ev.cells (e : Ev) : Array Value := #[.int .i64 e.kind, .int .i64 e.conn, .string e.bytes, .int .i64 e.n]
def Ev.v (e : Ev) : Value := .agg e.cells

/-- What event answers: the event, why it may not be, and the reader. -/
def rEv (s : ByteArray) (st : RSt) : Ev × Option Flt × RSt :=
  (⟨(rNum 1 s st).1, (rNum 1 s (rNum 1 s st).2).1, (rBin s (rNum 4 s (rNum 1 s (rNum 1 s st).2).2).2).1, (rNum 4 s (rNum 1 s (rNum 1 s st).2).2).1⟩,
   (match (rBin s (rNum 4 s (rNum 1 s (rNum 1 s st).2).2).2).2.f with
    | some f => some f
    | none => if mayKind (rNum 1 s st).1 then none else some ⟨2, 129, st.at_⟩),
   (rBin s (rNum 4 s (rNum 1 s (rNum 1 s st).2).2).2).2)

set_option maxRecDepth 100000 in
set_option maxHeartbeats 2000000 in
theorem event_any (E : GE) (g : Nat) (s : ByteArray) (st : RSt) (w : World) (hG : Glob E w) (hR : Rd E w g s st) :
    Calls Tryd.prog 52 #[.pointer (some ⟨g, 0, none⟩)] w fun e w' => (∃ ev, e = .returned (.tuple #[(rEv s st).1.v, ev]) ∧ ErrIs E w' ev (rEv s st).2.1) ∧ Rd E w' g s (rEv s st).2.2 ∧ Tch g RT w w' := by
  obtain ⟨K, hKe⟩ : ∃ K : World → Prop, K = fun w' => Tch g RT w w' ∧ Blk w' w.heap.size 49 #[.int .i64 0, .int .i64 0, .string ⟨#[]⟩, .int .i64 0] := ⟨_, rfl⟩
  have hK : Stab g K := by
    rw [hKe]
    exact fun _ _ ht h => ⟨Tch.trans h.1 ht, h.2.tch ht (by decide)⟩
  have h0 : RdK E g s K (w.alloc (.cells #[.int .i64 0, .int .i64 0, .string ⟨#[]⟩, .int .i64 0] 49)) st := by
    rw [hKe]
    exact ⟨hG.non ((Upd.refl _ _).alloc _), hR.non ((Upd.refl _ _).alloc _), (Upd.refl _ _).alloc _, Blk.new _ _ _⟩
  have HK := Lib.hid hK
  have HKE := Lib.hid hKe
  clear hKe hK
  cases hf : (rBin s (rNum 4 s (rNum 1 s (rNum 1 s st).2).2).2).2.f with
  | some f =>
    have hrv : rEv s st = (⟨(rNum 1 s st).1, (rNum 1 s (rNum 1 s st).2).1, (rBin s (rNum 4 s (rNum 1 s (rNum 1 s st).2).2).2).1, (rNum 4 s (rNum 1 s (rNum 1 s st).2).2).1⟩, some f, (rBin s (rNum 4 s (rNum 1 s (rNum 1 s st).2).2).2).2) := by
      unfold rEv; rw [hf]
    rw [hrv]
    have HF := Lib.hid hf
    clear hf hrv
    go_enter Tryd.func52, Tryd.ntmps52
    go_wp2_with (first
      | (go_at_call 50; refine (gAt (by assumption)).mono ?_; rintro e w1 ⟨rfl, rfl⟩)
      | (go_at_call 36; refine (gU8 HK.out (by assumption)).mono ?_; rintro e w1 ⟨rfl, h1⟩)
      | (go_at_call 38; refine (gU32 HK.out (by assumption)).mono ?_; rintro e w1 ⟨rfl, h1⟩)
      | (go_at_call 37
         refine (gBin HK.out (by assumption)).mono ?_
         rintro e wz ⟨rfl, hz⟩
         have hza := hz.non HK.out ((Upd.refl _ _).alloc (.cells #[.int .i64 (rNum 1 s st).1, .int .i64 (rNum 1 s (rNum 1 s st).2).1, .string (rBin s (rNum 4 s (rNum 1 s (rNum 1 s st).2).2).2).1, .int .i64 (rNum 4 s (rNum 1 s (rNum 1 s st).2).2).1] 49))
         have hzd : RdK E g s K (wz.alloc (.cells #[.int .i64 (rNum 1 s st).1, .int .i64 (rNum 1 s (rNum 1 s st).2).1, .string (rBin s (rNum 4 s (rNum 1 s (rNum 1 s st).2).2).2).1, .int .i64 (rNum 4 s (rNum 1 s (rNum 1 s st).2).2).1] 49)).drew _ := hza.drewN HK.out 1
         have hkz := hz.kept
         rw [HKE.out] at hkz
         have hlt1 : w.heap.size < wz.heap.size := hkz.2.lt
         obtain ⟨d0, d1, d2, d3⟩ := hkz.2.cells4
         have hfz := hkz.2.frozen
         have hT := Lib.hid hkz.1
         clear hkz
         have hkr := hza.kept
         rw [HKE.out] at hkr
         have hb := hkr.2
         clear hkr)
      | (go_at_call 48; refine (gErr_some (by assumption) HF.out).mono ?_; rintro e w1 ⟨⟨k, rfl, he⟩, rfl⟩))
    go_region_held3 (fun w' => w'.cell? ⟨wz.heap.size, 0, none⟩ = some (.int .i64 (rNum 1 s st).1) ∧ w'.cell? ⟨wz.heap.size, 1, none⟩ = some (.int .i64 (rNum 1 s (rNum 1 s st).2).1) ∧ w'.cell? ⟨wz.heap.size, 2, none⟩ = some (.string (rBin s (rNum 4 s (rNum 1 s (rNum 1 s st).2).2).2).1) ∧ w'.cell? ⟨wz.heap.size, 3, none⟩ = some (.int .i64 (rNum 4 s (rNum 1 s (rNum 1 s st).2).2).1)) (simp [go_sem, *])
     (first
      | (go_at_call 48; refine (gErr_some hzd HF.out).mono ?_; rintro e w1 ⟨⟨k, rfl, he⟩, rfl⟩))
    go_wp2
    refine bodyPost_ret (v := .tuple #[.agg #[.int .i64 (rNum 1 s st).1, .int .i64 (rNum 1 s (rNum 1 s st).2).1, .string (rBin s (rNum 4 s (rNum 1 s (rNum 1 s st).2).2).2).1, .int .i64 (rNum 4 s (rNum 1 s (rNum 1 s st).2).2).1], .iface 90 (.pointer (some ⟨k, 0, none⟩))]) (by simp [results, Tryd.results52, go_sem, *]) rfl ?_
    refine ⟨⟨_, rfl, ErrIs.one ?_ hb.drew (by decide) he.out⟩, Rd.one ?_ hb.drew (by decide) (by decide) hzd.rd, ?_⟩
    · refine Upd.drews (Upd.alloc_both ?_ (by simp) _)
      repeat (first | (with_reducible exact Upd.refl _ _) | (with_reducible refine Upd.setCell ?_ _ (fun _ => rfl)))
    · refine Upd.drews (Upd.alloc_both ?_ (by simp) _)
      repeat (first | (with_reducible exact Upd.refl _ _) | (with_reducible refine Upd.setCell ?_ _ (fun _ => rfl)))
    · refine Upd.drew (Upd.alloc ?_ _)
      repeat (first | (with_reducible exact hT.out) | (with_reducible refine Tch.setNew ?_ (by simp) _))
  | none =>
    have HF := Lib.hid hf
    cases hm : mayKind (rNum 1 s st).1 with
    | true =>
      have hrv : rEv s st = (⟨(rNum 1 s st).1, (rNum 1 s (rNum 1 s st).2).1, (rBin s (rNum 4 s (rNum 1 s (rNum 1 s st).2).2).2).1, (rNum 4 s (rNum 1 s (rNum 1 s st).2).2).1⟩, none, (rBin s (rNum 4 s (rNum 1 s (rNum 1 s st).2).2).2).2) := by
        unfold rEv; rw [hf, hm]; rfl
      rw [hrv]
      have HM := Lib.hid hm
      clear hf hm hrv
      go_enter Tryd.func52, Tryd.ntmps52
      go_wp2_with (first
        | (go_at_call 50; refine (gAt (by assumption)).mono ?_; rintro e w1 ⟨rfl, rfl⟩)
        | (go_at_call 36; refine (gU8 HK.out (by assumption)).mono ?_; rintro e w1 ⟨rfl, h1⟩)
        | (go_at_call 38; refine (gU32 HK.out (by assumption)).mono ?_; rintro e w1 ⟨rfl, h1⟩)
        | (go_at_call 37
           refine (gBin HK.out (by assumption)).mono ?_
           rintro e wz ⟨rfl, hz⟩
           have hza := hz.non HK.out ((Upd.refl _ _).alloc (.cells #[.int .i64 (rNum 1 s st).1, .int .i64 (rNum 1 s (rNum 1 s st).2).1, .string (rBin s (rNum 4 s (rNum 1 s (rNum 1 s st).2).2).2).1, .int .i64 (rNum 4 s (rNum 1 s (rNum 1 s st).2).2).1] 49))
           have hzd : RdK E g s K (wz.alloc (.cells #[.int .i64 (rNum 1 s st).1, .int .i64 (rNum 1 s (rNum 1 s st).2).1, .string (rBin s (rNum 4 s (rNum 1 s (rNum 1 s st).2).2).2).1, .int .i64 (rNum 4 s (rNum 1 s (rNum 1 s st).2).2).1] 49)).drew _ := hza.drewN HK.out 1
           have hkz := hz.kept
           rw [HKE.out] at hkz
           have hlt1 : w.heap.size < wz.heap.size := hkz.2.lt
           obtain ⟨d0, d1, d2, d3⟩ := hkz.2.cells4
           have hfz := hkz.2.frozen
           have hT := Lib.hid hkz.1
           clear hkz
           have hkr := hza.kept
           rw [HKE.out] at hkr
           have hb := hkr.2
           clear hkr)
        | (go_at_call 48; refine (gErr_none hza HF.out).mono ?_; rintro e w1 ⟨rfl, rfl⟩)
        | (go_at_call 22; refine (may_any _ _).mono ?_; rintro e w1 ⟨rfl, rfl⟩; rw [HM.out]))
      go_region_held3 (fun w' => w'.cell? ⟨wz.heap.size, 0, none⟩ = some (.int .i64 (rNum 1 s st).1) ∧ w'.cell? ⟨wz.heap.size, 1, none⟩ = some (.int .i64 (rNum 1 s (rNum 1 s st).2).1) ∧ w'.cell? ⟨wz.heap.size, 2, none⟩ = some (.string (rBin s (rNum 4 s (rNum 1 s (rNum 1 s st).2).2).2).1) ∧ w'.cell? ⟨wz.heap.size, 3, none⟩ = some (.int .i64 (rNum 4 s (rNum 1 s (rNum 1 s st).2).2).1)) (simp [go_sem, *])
       (first
        | (go_at_call 48; refine (gErr_none hzd HF.out).mono ?_; rintro e w1 ⟨rfl, rfl⟩))
      go_wp2
      refine bodyPost_ret (v := .tuple #[.agg #[.int .i64 (rNum 1 s st).1, .int .i64 (rNum 1 s (rNum 1 s st).2).1, .string (rBin s (rNum 4 s (rNum 1 s (rNum 1 s st).2).2).2).1, .int .i64 (rNum 4 s (rNum 1 s (rNum 1 s st).2).2).1], .nilIface]) (by simp [results, Tryd.results52, go_sem, *]) rfl ?_
      refine ⟨⟨_, rfl, rfl⟩, Rd.one ?_ hb.drew (by decide) (by decide) hzd.rd, ?_⟩
      · refine Upd.drews (Upd.alloc_both ?_ (by simp) _)
        repeat (first | (with_reducible exact Upd.refl _ _) | (with_reducible refine Upd.setCell ?_ _ (fun _ => rfl)))
      · refine Upd.drew (Upd.alloc ?_ _)
        repeat (first | (with_reducible exact hT.out) | (with_reducible refine Tch.setNew ?_ (by simp) _))
    | false =>
      have hrv : rEv s st = (⟨(rNum 1 s st).1, (rNum 1 s (rNum 1 s st).2).1, (rBin s (rNum 4 s (rNum 1 s (rNum 1 s st).2).2).2).1, (rNum 4 s (rNum 1 s (rNum 1 s st).2).2).1⟩, some ⟨2, 129, st.at_⟩, (rBin s (rNum 4 s (rNum 1 s (rNum 1 s st).2).2).2).2) := by
        unfold rEv; rw [hf, hm]; rfl
      rw [hrv]
      have HM := Lib.hid hm
      clear hf hm hrv
      go_enter Tryd.func52, Tryd.ntmps52
      go_wp2_with (first
        | (go_at_call 50; refine (gAt (by assumption)).mono ?_; rintro e w1 ⟨rfl, rfl⟩)
        | (go_at_call 36; refine (gU8 HK.out (by assumption)).mono ?_; rintro e w1 ⟨rfl, h1⟩)
        | (go_at_call 38; refine (gU32 HK.out (by assumption)).mono ?_; rintro e w1 ⟨rfl, h1⟩)
        | (go_at_call 37
           refine (gBin HK.out (by assumption)).mono ?_
           rintro e wz ⟨rfl, hz⟩
           have hza := hz.non HK.out ((Upd.refl _ _).alloc (.cells #[.int .i64 (rNum 1 s st).1, .int .i64 (rNum 1 s (rNum 1 s st).2).1, .string (rBin s (rNum 4 s (rNum 1 s (rNum 1 s st).2).2).2).1, .int .i64 (rNum 4 s (rNum 1 s (rNum 1 s st).2).2).1] 49))
           have hzd : RdK E g s K (wz.alloc (.cells #[.int .i64 (rNum 1 s st).1, .int .i64 (rNum 1 s (rNum 1 s st).2).1, .string (rBin s (rNum 4 s (rNum 1 s (rNum 1 s st).2).2).2).1, .int .i64 (rNum 4 s (rNum 1 s (rNum 1 s st).2).2).1] 49)).drew _ := hza.drewN HK.out 1
           have hkz := hz.kept
           rw [HKE.out] at hkz
           have hlt1 : w.heap.size < wz.heap.size := hkz.2.lt
           obtain ⟨d0, d1, d2, d3⟩ := hkz.2.cells4
           have hfz := hkz.2.frozen
           have hT := Lib.hid hkz.1
           clear hkz
           have hkr := hza.kept
           rw [HKE.out] at hkr
           have hb := hkr.2
           clear hkr)
        | (go_at_call 48; refine (gErr_none hza HF.out).mono ?_; rintro e w1 ⟨rfl, rfl⟩)
        | (go_at_call 22; refine (may_any _ _).mono ?_; rintro e w1 ⟨rfl, rfl⟩; rw [HM.out]))
      have hl1 : 2 < w.heap.size := Nat.lt_of_lt_of_le (hG.lt 2) hG.size
      have hGz := hza.glob
      have g2 := hz.glob.at_ 2 (by decide) (by decide)
      simp only [gix, GE.kd] at g2
      have hl0 : 2 < wz.heap.size := Nat.lt_of_lt_of_le (hz.glob.lt 2) hz.glob.size
      go_region_held3 (fun w' => w'.cell? ⟨wz.heap.size, 0, none⟩ = some (.int .i64 (rNum 1 s st).1) ∧ w'.cell? ⟨wz.heap.size, 1, none⟩ = some (.int .i64 (rNum 1 s (rNum 1 s st).2).1) ∧ w'.cell? ⟨wz.heap.size, 2, none⟩ = some (.string (rBin s (rNum 4 s (rNum 1 s (rNum 1 s st).2).2).2).1) ∧ w'.cell? ⟨wz.heap.size, 3, none⟩ = some (.int .i64 (rNum 4 s (rNum 1 s (rNum 1 s st).2).2).1) ∧ w'.cell? ⟨2, 0, none⟩ = some (.iface 170 (.pointer (some (E.a 2))))) (simp [go_sem, World.cell?_alloc_lt, *])
       (first
        | (go_at_call 17; refine (new_any _ _ _ _ _).mono ?_; rintro e w1 ⟨rfl, rfl⟩))
      go_wp2
      refine bodyPost_ret (v := .tuple #[.agg #[.int .i64 (rNum 1 s st).1, .int .i64 (rNum 1 s (rNum 1 s st).2).1, .string (rBin s (rNum 4 s (rNum 1 s (rNum 1 s st).2).2).2).1, .int .i64 (rNum 4 s (rNum 1 s (rNum 1 s st).2).2).1], .iface 90 (.pointer (some ⟨wz.heap.size + 1, 0, none⟩))]) (by simp [results, Tryd.results52, go_sem, *]) rfl ?_
      refine ⟨⟨_, rfl, ErrIs.drew (ErrIs.new_at _ 2 129 st.at_ (by decide) (by decide) (by simp))⟩, Rd.drew (Rd.non ((Upd.refl _ _).alloc _) (Rd.one ?_ hb (by decide) (by decide) hza.rd)), ?_⟩
      · refine Upd.alloc_both ?_ (by simp) _
        repeat (first | (with_reducible exact Upd.refl _ _) | (with_reducible refine Upd.setCell ?_ _ (fun _ => rfl)))
      · refine Upd.drew (Upd.alloc (Upd.alloc ?_ _) _)
        repeat (first | (with_reducible exact hT.out) | (with_reducible refine Tch.setNew ?_ (by simp) _))
end Go.Proofs.YtmmahkckemclaaaDoor
