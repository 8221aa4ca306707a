/- Scripts, more: the events. Conditions: fewer than 2^47 bytes; the package variables hold what the program lays there. -/
import Derived.Test.YtmmahkckemclaaaDoorScr2
namespace Go.Proofs.YtmmahkckemclaaaDoor
open Go.RowKit Go.Extern.Stop Go.Stop Go.Extern

def evs (l : List Ev) : List Value := l.flatMap fun e => e.cells.toList
theorem evs_length (l : List Ev) : (evs l).length = l.length * 4 := by
  induction l with
  | nil => rfl
  | cons e l ih => simp only [evs, List.flatMap_cons, List.length_append, List.length_cons] at ih ⊢; rw [ih]; simp [Ev.cells]; omega
theorem evs_snoc (l : List Ev) (e : Ev) : evs (l ++ [e]) = evs l ++ [.int .i64 e.kind, .int .i64 e.conn, .string e.bytes, .int .i64 e.n] := by
  simp [evs, Ev.cells]

/-- What events answers, so many yet to come, behind those that came. -/
def rEvs (s : ByteArray) : Nat → RSt → List Ev → List Ev × Option Flt × RSt
  | 0, st, acc => (acc, rDone s st, st)
  | k + 1, st, acc =>
    match (rEv s st).2.1 with
    | some f => ([], some f, (rEv s st).2.2)
    | none => rEvs s k (rEv s st).2.2 (acc ++ [(rEv s st).1])

theorem ev_info : (Tryd.prog.info? 49).map (fun i => (i.zero, i.size, i.bytes)) = some (some (.agg #[.int .i64 0, .int .i64 0, .string ⟨#[]⟩, .int .i64 0]), 4, 40) := by kernel_rfl
theorem cell_four_new (w : World) (x y z u : Value) (t : TypeId) {g : Nat} (hg : g = w.heap.size) : ∀ j v, [x, y, z, u][j]? = some v → (w.alloc (.cells #[x, y, z, u] t)).cell? ((⟨g, 0, none⟩ : Addr).add j) = some v := by
  subst hg
  intro j v hv
  rcases j with _ | _ | _ | _ | j
  · simp at hv; subst hv; exact (Blk.new w t #[x, y, z, u]).cell 0
  · simp at hv; subst hv; exact (Blk.new w t #[x, y, z, u]).cell 1
  · simp at hv; subst hv; exact (Blk.new w t #[x, y, z, u]).cell 2
  · simp at hv; subst hv; exact (Blk.new w t #[x, y, z, u]).cell 3
  · simp at hv

theorem gEvent {E : GE} {g : Nat} {s : ByteArray} {K : World → Prop} {w : World} {st : RSt} (hK : Stab g K) (h : RdK E g s K w st) :
    Calls Tryd.prog 52 #[.pointer (some ⟨g, 0, none⟩)] w fun e w' => (∃ ev, e = .returned (.tuple #[.agg #[.int .i64 (rEv s st).1.kind, .int .i64 (rEv s st).1.conn, .string (rEv s st).1.bytes, .int .i64 (rEv s st).1.n], ev]) ∧ ErrIs E w' ev (rEv s st).2.1) ∧ RdK E g s K w' (rEv s st).2.2 ∧ Tch g RT w w' := by
  refine (event_any E g s st w h.glob h.rd).mono ?_
  rintro e w' ⟨⟨ev, rfl, he⟩, hr, ht⟩
  exact ⟨⟨ev, rfl, he⟩, h.next hK hr ht, ht⟩

set_option maxRecDepth 100000 in
set_option maxHeartbeats 2000000 in
theorem events_any (E : GE) (g : Nat) (s : ByteArray) (st : RSt) (n : Nat) (hn : n ≤ 16384) (w : World) (hG : Glob E w) (hR : Rd E w g s st) :
    Calls Tryd.prog 28 #[.pointer (some ⟨g, 0, none⟩), .int .i64 n] w fun e w' => (∃ v ev, e = .returned (.tuple #[v, ev]) ∧ w'.ownsRow w.heap.size 49 4 v (rEvs s n st []).1.length (evs (rEvs s n st []).1) ∧ ErrIs E w' ev (rEvs s n st []).2.1) ∧ Rd E w' g s (rEvs s n st []).2.2 ∧ Tch g RT w w' := by
  obtain ⟨i0, hi, hz⟩ := Option.map_eq_some_iff.1 ev_info
  simp only [Prod.mk.injEq] at hz
  obtain ⟨hz0, hz1, hz2⟩ := hz
  have hK : Hid (Stab g (fun w' => Tch g RT w w')) := Lib.hid (fun _ _ ht h => Tch.trans h ht)
  have h0 : RdK E g s (fun w' => Tch g RT w w') w st := ⟨hG, hR, Upd.refl _ _⟩
  have HI := Lib.hid hi
  have HZ0 := Lib.hid hz0
  have HZ1 := Lib.hid hz1
  have HZ2 := Lib.hid hz2
  clear hi hz0 hz1 hz2
  go_enter Tryd.func28, Tryd.ntmps28
  go_wp2_with fail
  go_loopg [6, 10] n (fun kq v6 v10 w' => ∃ (i : Nat) (acc : List Ev) (st' : RSt) (A : Option Addr) (c : Nat), v10 = .int .i64 i ∧ v6 = .slice A acc.length c ∧ Hid (i + kq = n) ∧ Hid (acc.length = i) ∧ Hid (rEvs s kq st' acc = rEvs s n st []) ∧ Hid (w'.ownsRow w.heap.size 49 4 (.slice A acc.length c) acc.length (evs acc)) ∧ RdK E g s (fun w' => Tch g RT w w') w' st')
  case atStart => exact ⟨0, [], st, none, 0, rfl, rfl, Lib.hid (by omega), Lib.hid rfl, Lib.hid rfl, Lib.hid (own_nil _ _ _ _), h0⟩
  case round =>
    clear h0
    obtain ⟨i, acc, st', A, c, rfl, rfl, hq, hl, hE, ho, h1⟩ := hrel
    cases gk with
    | zero =>
      have hin : ¬ (i < n) := by have := hq.out; omega
      go_wp2_with (go_at_call 40; refine (gDone hK.out h1).mono ?_; rintro e w1 ⟨⟨ev, rfl, he⟩, h2, hu⟩)
      go_ret2
      have e1 : rEvs s n st [] = (acc, rDone s st', st') := by rw [← hE.out]; rfl
      rw [e1]
      exact ⟨⟨_, _, rfl, own_upd ho.out hu (fun _ _ => id), he⟩, h2.rd, h2.kept⟩
    | succ kq =>
      have hin : i < n := by have := hq.out; omega
      cases hf : (rEv s st').2.1 with
      | some f =>
        have HF := Lib.hid hf
        clear hf
        go_wp2_with (go_at_call 52; refine (gEvent hK.out h1).mono ?_; rintro e w1 ⟨⟨ev, rfl, he⟩, h2, hu⟩; rw [HF.out] at he; obtain ⟨k, rfl⟩ := ErrIs.form he; have HE := Lib.hid he; clear he)
        go_ret2
        have e1 : rEvs s n st [] = ([], some f, (rEv s st').2.2) := by rw [← hE.out, rEvs, HF.out]
        rw [e1]
        have hu2 : Upd Non w1 (w1.alloc (.cells #[.int .i64 (rEv s st').1.kind, .int .i64 (rEv s st').1.conn, .string (rEv s st').1.bytes, .int .i64 (rEv s st').1.n] 49)) := (Upd.refl _ _).alloc _
        exact ⟨⟨_, _, rfl, own_nil _ _ _ _, ErrIs.non hu2 HE.out⟩, (h2.non hK.out hu2).rd, (h2.non hK.out hu2).kept⟩
      | none =>
        have HF := Lib.hid hf
        clear hf
        go_wp2_with (first
          | (go_at_call 52; refine (gEvent hK.out h1).mono ?_; rintro e w1 ⟨⟨ev, rfl, he⟩, h2, hu⟩; rw [HF.out] at he; obtain rfl : ev = .nilIface := he)
          | (at_builtin
             have hlen := hl.out
             have hlt := h1.lt
             have hsz := h2.kept.size
             have ho1 := own_tch ho.out hu (by decide)
             refine wpList_append_own_at _ rfl (.tmp 20) (.tmp 22) 24 rfl w.heap.size 49 i0 _ 4 40 Tryd.underlying24 HI.out HZ0.out HZ1.out HZ2.out rfl (by decide) _ _ _ rfl ((ho1.alloc _).alloc _) ⟨w1.heap.size + 1, 0, none⟩ 1 1 [.int .i64 (rEv s st').1.kind, .int .i64 (rEv s st').1.conn, .string (rEv s st').1.bytes, .int .i64 (rEv s st').1.n] rfl rfl (cell_four_new _ _ _ _ _ _ (by simp)) (by simp [Value.oneCell']) (by simp only [maxLen]; omega) (by omega) (by simp; omega) ?_
             intro v1 w2 hown1 hg1 _ _
             obtain ⟨A1, c1, rfl⟩ := own_slice hown1))
        go_roundg kq
        case measure => omega
        case rel =>
          have hq' := hq.out
          have hl' := hl.out
          have hu2 : Upd Non w1 ((w1.alloc (.cells #[.int .i64 (rEv s st').1.kind, .int .i64 (rEv s st').1.conn, .string (rEv s st').1.bytes, .int .i64 (rEv s st').1.n] 49)).alloc (.cells #[.int .i64 (rEv s st').1.kind, .int .i64 (rEv s st').1.conn, .string (rEv s st').1.bytes, .int .i64 (rEv s st').1.n] 49)) := ((Upd.refl _ _).alloc _).alloc _
          have h3 := h2.non hK.out hu2
          have ho1 := own_upd (own_tch ho.out hu (by decide)) hu2 (fun _ _ => id)
          have e1 : rEvs s (kq + 1) st' acc = rEvs s kq (rEv s st').2.2 (acc ++ [(rEv s st').1]) := by rw [rEvs, HF.out]
          have hg2 : Tch w.heap.size [49] _ w2 := Tch.grown (Upd.refl _ _) ho1 (by simp) (Nat.le_refl _) hg1
          refine ⟨i + 1, acc ++ [(rEv s st').1], (rEv s st').2.2, A1, c1, by go_num, by simp; omega, Lib.hid (by omega), Lib.hid (by simp; omega), Lib.hid (by rw [← e1]; exact hE.out), Lib.hid ?_, ?_⟩
          · rw [evs_snoc]; simpa using hown1
          · refine ⟨h3.glob.rd hg2 (by have := hG.size; exact this), h3.rd.tch hg2 (by decide) (by decide), ?_⟩
            exact Upd.trans h3.kept hg2 (fun j hj ⟨hB, _⟩ => by omega)
end Go.Proofs.YtmmahkckemclaaaDoor
