/- The reader of fields, more: Raw. Conditions: fewer than 2^47 bytes. -/
import Derived.Test.YtmmahkckemclaaaGreatDoorRd
namespace Go.Proofs.YtmmahkckemclaaaGreatDoor
open Go.RowKit Go.Extern.Stop Go.Stop Go.Extern

/-- What Raw answers, and does to a reader. -/
def rRaw (s : ByteArray) (st : RSt) (n : Int) : ByteArray × RSt :=
  match st.f with
  | some _ => (⟨#[]⟩, st)
  | none =>
    if n < 0 then (⟨#[]⟩, ⟨st.at_, some ⟨4, 129, st.at_⟩⟩)
    else if (s.size : Int) - st.at_ < n then (⟨#[]⟩, ⟨st.at_, some ⟨1, 129, s.size⟩⟩)
    else (s.extract st.at_ (st.at_ + n.toNat), ⟨st.at_ + n.toNat, none⟩)

theorem rd_fail {E : GE} {w : World} {g : Nat} {s : ByteArray} {a : Nat} (hR : Rd E w g s ⟨a, none⟩) (k : Nat) (r p : Int) (h1 : 1 ≤ k) (h2 : k ≤ 7) :
    Rd E ((w.setCell ⟨g, 2, none⟩ (.iface 145 (.pointer (some ⟨w.heap.size, 0, none⟩)))).alloc (.cells #[.int .i64 r, .int .i64 p, E.kd k] 149)) g s ⟨a, some ⟨k, r, p⟩⟩ ∧
    Tch g RT w ((w.setCell ⟨g, 2, none⟩ (.iface 145 (.pointer (some ⟨w.heap.size, 0, none⟩)))).alloc (.cells #[.int .i64 r, .int .i64 p, E.kd k] 149)) := by
  obtain ⟨hE, hl, hs, e, hb, he⟩ := hR
  have hb1 := hb.set_ 2 (.iface 145 (.pointer (some ⟨w.heap.size, 0, none⟩)))
  have hz : (w.setCell ⟨g, 2, none⟩ (.iface 145 (.pointer (some ⟨w.heap.size, 0, none⟩)))).heap.size = w.heap.size := by simp [World.setCell]
  refine ⟨⟨hE, hl, hs, _, hb1.alloc _, ?_⟩, (Tch.set (Upd.refl _ _) hb (by simp) (Nat.le_refl _) 2 _).alloc _⟩
  have hn := ErrIs.new (E := E) (w.setCell ⟨g, 2, none⟩ (.iface 145 (.pointer (some ⟨w.heap.size, 0, none⟩)))) k r p h1 h2
  rw [hz] at hn
  exact hn

/-- A draw changes nothing that is told. -/
theorem Rd.drewN {E : GE} {w : World} {g : Nat} {s : ByteArray} {st : RSt} (h : Rd E w g s st) (n : Nat) : Rd E (w.drewN n) g s st := by
  obtain ⟨hE, hl, hs, e, hb, he⟩ := h
  exact ⟨hE, hl, hs, e, hb.drewN n, ErrIs.drewN he n⟩
theorem Rd.drew {E : GE} {w : World} {g : Nat} {s : ByteArray} {st : RSt} (h : Rd E w g s st) : Rd E w.drew g s st := h.drewN 1

set_option maxRecDepth 100000 in
set_option maxHeartbeats 1000000 in
theorem raw_off (E : GE) (g : Nat) (s : ByteArray) (a : Nat) (f : Flt) (n : Int) (w : World) (hR : Rd E w g s ⟨a, some f⟩) :
    Calls Tryz.prog 114 #[.pointer (some ⟨g, 0, none⟩), .int .i64 n] w fun e w' => e = .returned (.string ⟨#[]⟩) ∧ w = w' := by
  obtain ⟨hE, hl, hs, ev, hb, he⟩ := id hR
  obtain ⟨k, rfl⟩ := ErrIs.form he
  have hc : w.cell? ⟨g, 2, none⟩ = some (.iface 145 (.pointer (some ⟨k, 0, none⟩))) := hb.cell 2
  go_enter Tryz.func114, Tryz.ntmps114
  go_wp2_with (go_at_call 140; refine (roff_err _ _ _ _ hc).mono ?_; rintro e w' ⟨rfl, rfl⟩)
  go_ret
  exact ⟨rfl, rfl⟩

set_option maxRecDepth 100000 in
set_option maxHeartbeats 1000000 in
theorem raw_neg (E : GE) (g : Nat) (s : ByteArray) (a : Nat) (n : Int) (w : World) (hG : Glob E w) (hR : Rd E w g s ⟨a, none⟩) (hn : n < 0) :
    Calls Tryz.prog 114 #[.pointer (some ⟨g, 0, none⟩), .int .i64 n] w fun e w' => e = .returned (.string ⟨#[]⟩) ∧ Rd E w' g s ⟨a, some ⟨4, 129, a⟩⟩ ∧ Tch g RT w w' := by
  obtain ⟨hE, hl, hs, ev, hb, he⟩ := id hR
  obtain rfl : ev = .nilIface := he
  have hc1 : w.cell? ⟨g, 1, none⟩ = some (.int .i64 a) := hb.cell 1
  have hc2 : w.cell? ⟨g, 2, none⟩ = some .nilIface := hb.cell 2
  have hf := hb.frozen
  have hlt := hb.lt
  have hl0 : 4 < w.heap.size := Nat.lt_of_lt_of_le (hG.lt 4) hG.size
  have g4 := hG.at_ 4 (by decide) (by decide)
  simp only [gix, GE.kd] at g4
  go_enter Tryz.func114, Tryz.ntmps114
  go_wp2_with (go_at_call 140; refine (roff_nil _ _ hc2).mono ?_; rintro e w' ⟨rfl, rfl⟩)
  go_region_held3 (fun w' => w'.cell? ⟨g, 1, none⟩ = some (.int .i64 a) ∧ w'.cell? ⟨4, 0, none⟩ = some (.iface 225 (.pointer (some (E.a 4))))) (simp [go_sem, World.cell?_alloc_lt, *])
   (first
    | (go_at_call 66; refine (new_any _ _ _ _ _).mono ?_; rintro e w1 ⟨rfl, rfl⟩))
  go_wp2
  go_ret
  exact ⟨rfl, (rd_fail hR 4 _ _ (by decide) (by decide)).1.drew, (rd_fail hR 4 _ _ (by decide) (by decide)).2.drew⟩

set_option maxRecDepth 100000 in
set_option maxHeartbeats 1000000 in
theorem raw_short (E : GE) (g : Nat) (s : ByteArray) (a : Nat) (n : Int) (w : World) (hG : Glob E w) (hR : Rd E w g s ⟨a, none⟩) (hn : 0 ≤ n) (hn2 : (s.size : Int) - a < n) :
    Calls Tryz.prog 114 #[.pointer (some ⟨g, 0, none⟩), .int .i64 n] w fun e w' => e = .returned (.string ⟨#[]⟩) ∧ Rd E w' g s ⟨a, some ⟨1, 129, s.size⟩⟩ ∧ Tch g RT w w' := by
  obtain ⟨hE, hl, hs, ev, hb, he⟩ := id hR
  obtain rfl : ev = .nilIface := he
  have hc0 : w.cell? ⟨g, 0, none⟩ = some (.string s) := hb.cell 0
  have hc1 : w.cell? ⟨g, 1, none⟩ = some (.int .i64 a) := hb.cell 1
  have hc2 : w.cell? ⟨g, 2, none⟩ = some .nilIface := hb.cell 2
  have hf := hb.frozen
  have hlt := hb.lt
  have hl0 : 3 < w.heap.size := Nat.lt_of_lt_of_le (hG.lt 1) hG.size
  have g4 := hG.at_ 1 (by decide) (by decide)
  simp only [gix, GE.kd] at g4
  have hl' : (0 : Int) ≤ s.size - a := by have : a ≤ s.size := hl; omega
  have hl2 : (s.size : Int) - a ≤ 140737488355328 := by omega
  go_enter Tryz.func114, Tryz.ntmps114
  go_wp2_with (go_at_call 140; refine (roff_nil _ _ hc2).mono ?_; rintro e w' ⟨rfl, rfl⟩)
  go_quiet (fail)
  go_wp2
  have hR' := hR.drewN nq
  have hT : Tch g RT w (w.drewN nq) := (Upd.refl _ _).drewN nq
  have hb' := hb.drewN nq
  have hlt' : g < (w.drewN nq).heap.size := hlt
  have hl0' : 3 < (w.drewN nq).heap.size := hl0
  have g4' : (w.drewN nq).cell? ⟨3, 0, none⟩ = some (.iface 225 (.pointer (some (E.a 1)))) := g4
  clear hc0 hc1 hc2 hf hlt hl0 g4 hb
  generalize w.drewN nq = wq at *
  have hc0 : wq.cell? ⟨g, 0, none⟩ = some (.string s) := hb'.cell 0
  have hc2 : wq.cell? ⟨g, 2, none⟩ = some .nilIface := hb'.cell 2
  have hf := hb'.frozen
  go_region_held3 (fun w' => w'.cell? ⟨g, 0, none⟩ = some (.string s) ∧ w'.cell? ⟨3, 0, none⟩ = some (.iface 225 (.pointer (some (E.a 1))))) (simp [go_sem, World.cell?_alloc_lt, *])
   (first
    | (go_at_call 66; refine (new_any _ _ _ _ _).mono ?_; rintro e w1 ⟨rfl, rfl⟩))
  go_wp2
  go_ret
  exact ⟨rfl, (rd_fail hR' 1 _ _ (by decide) (by decide)).1.drew, hT.trans (rd_fail hR' 1 _ _ (by decide) (by decide)).2.drew⟩

set_option maxRecDepth 100000 in
set_option maxHeartbeats 1000000 in
theorem raw_ok (E : GE) (g : Nat) (s : ByteArray) (a : Nat) (n : Nat) (w : World) (hR : Rd E w g s ⟨a, none⟩) (hn2 : a + n ≤ s.size) :
    Calls Tryz.prog 114 #[.pointer (some ⟨g, 0, none⟩), .int .i64 n] w fun e w' => e = .returned (.string (s.extract a (a + n))) ∧ Rd E w' g s ⟨a + n, none⟩ ∧ Tch g RT w w' := by
  obtain ⟨hE, hl, hs, ev, hb, he⟩ := id hR
  obtain rfl : ev = .nilIface := he
  have hc0 : w.cell? ⟨g, 0, none⟩ = some (.string s) := hb.cell 0
  have hc1 : w.cell? ⟨g, 1, none⟩ = some (.int .i64 a) := hb.cell 1
  have hc2 : w.cell? ⟨g, 2, none⟩ = some .nilIface := hb.cell 2
  have hf := hb.frozen
  have h0 : ¬ ((s.size : Int) - a < n) := by omega
  have h1 : (0 : Int) ≤ s.size - a := by have : a ≤ s.size := hl; omega
  have h2 : (s.size : Int) - a ≤ 140737488355328 := by omega
  have h3 : (0 : Int) ≤ (a : Int) + n := by omega
  have h4 : (a : Int) + n ≤ 140737488355328 := by omega
  go_enter Tryz.func114, Tryz.ntmps114
  go_wp2_with (go_at_call 140; refine (roff_nil _ _ hc2).mono ?_; rintro e w' ⟨rfl, rfl⟩)
  go_quiet (fail)
  go_wp2
  go_quiet (fail)
  go_wp2
  go_ret
  have e1 : ((a : Int) + n) = ((a + n : Nat) : Int) := by omega
  refine ⟨rfl, ⟨hE, hn2, hs, .nilIface, ?_, rfl⟩, ?_⟩
  · rw [e1]; exact (hb.set_ 1 (.int .i64 ((a + n : Nat) : Int))).drewN _
  · exact (Tch.set (Upd.refl _ _) hb (by simp) (Nat.le_refl _) 1 _).drewN _
end Go.Proofs.YtmmahkckemclaaaGreatDoor
