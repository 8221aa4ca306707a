/- The writer of fields: what each of its methods does to it. Conditions: fewer than 2^47 bytes. -/
import Derived.Test.YtmmahkckemclaaaGreatDoorErr1
import Derived.Lib.AppendStr
import Derived.StillTailTactics
namespace Go.Proofs.YtmmahkckemclaaaGreatDoor
open Go.RowKit Go.Extern.Stop Go.Stop Go.Extern

/-- A writer: its bytes, and its first error. -/
def Wr (E : GE) (w : World) (B g : Nat) (bs : List UInt8) (f : Option Flt) : Prop :=
  B ≤ g ∧ E.B ≤ B ∧ ∃ v e, Blk w g 90 #[v, e] ∧ w.ownsRow B 5 1 v bs.length (u8s bs) ∧ ErrIs E w e f

abbrev WT : List TypeId := [90, 5]

theorem Glob.tch {E : GE} {B : Nat} {ts : List TypeId} {w w' : World} (h : Glob E w) (hu : Tch B ts w w') (hB : E.B ≤ B) : Glob E w' := h.upd hu fun i hi ⟨h1, _⟩ => by omega
theorem ErrIs.tch {E : GE} {B : Nat} {ts : List TypeId} {w w' : World} (hu : Tch B ts w w') (ht : 149 ∉ ts) {e : Value} {f : Option Flt} (h : ErrIs E w e f) : ErrIs E w' e f :=
  h.kept fun _ _ hb => hb.tch hu ht
theorem Wr.tch {E : GE} {B B' g : Nat} {ts : List TypeId} {bs : List UInt8} {f : Option Flt} {w w' : World} (hu : Tch B' ts w w') (h1 : 149 ∉ ts) (h2 : 90 ∉ ts) (h3 : 5 ∉ ts) (h : Wr E w B g bs f) : Wr E w' B g bs f := by
  obtain ⟨hB, hE, v, e, hb, ho, he⟩ := h
  exact ⟨hB, hE, v, e, hb.tch hu h2, own_tch ho hu h3, he.tch hu h1⟩
theorem Wr.non {E : GE} {B g : Nat} {bs : List UInt8} {f : Option Flt} {w w' : World} (hu : Upd Non w w') (h : Wr E w B g bs f) : Wr E w' B g bs f :=
  h.tch (B' := 0) (ts := []) (Tch.of_non hu) (by simp) (by simp) (by simp)
/-- A new one. -/
theorem Wr.new (E : GE) (w : World) (hG : Glob E w) : Wr E (w.alloc (.cells #[.slice none 0 0, .nilIface] 90)) w.heap.size w.heap.size [] none :=
  ⟨Nat.le_refl _, hG.size, _, _, Blk.new _ _ _, own_nil _ _ _ _, rfl⟩

theorem off_nil (g : Nat) (w : World) (hc : w.cell? ⟨g, 1, none⟩ = some .nilIface) :
    Calls Tryz.prog 122 #[.pointer (some ⟨g, 0, none⟩)] w fun e w' => e = .returned (.bool false) ∧ w = w' := by
  go_enter Tryz.func122, Tryz.ntmps122
  go_wp2
  go_ret
  exact ⟨rfl, rfl⟩
theorem off_err (g : Nat) (t : TypeId) (v : Value) (w : World) (hc : w.cell? ⟨g, 1, none⟩ = some (.iface t v)) :
    Calls Tryz.prog 122 #[.pointer (some ⟨g, 0, none⟩)] w fun e w' => e = .returned (.bool true) ∧ w = w' := by
  go_enter Tryz.func122, Tryz.ntmps122
  go_wp2
  go_ret
  exact ⟨rfl, rfl⟩
theorem fail_any (g : Nat) (t : TypeId) (v old : Value) (w : World) (hc : w.cell? ⟨g, 1, none⟩ = some old) (hf : w.frozen? ⟨g, 1, none⟩ = false) :
    Calls Tryz.prog 124 #[.pointer (some ⟨g, 0, none⟩), .iface t v] w fun e w' => e = .returned (.tuple #[]) ∧ w' = w.setCell ⟨g, 1, none⟩ (.iface t v) := by
  go_enter Tryz.func124, Tryz.ntmps124
  go_wp2
  go_end0
  exact ⟨rfl, rfl⟩
theorem fail_blk (g : Nat) (t : TypeId) (v x old : Value) (w : World) (hb : Blk w g 90 #[x, old]) :
    Calls Tryz.prog 124 #[.pointer (some ⟨g, 0, none⟩), .iface t v] w fun e w' => e = .returned (.tuple #[]) ∧ w' = w.setCell ⟨g, 1, none⟩ (.iface t v) :=
  fail_any g t v old w (hb.cell 1) (hb.frozen 1)

set_option maxHeartbeats 400000 in
theorem wnum_off (g : Nat) (n m : Int) (t : TypeId) (v : Value) (w : World) (hc : w.cell? ⟨g, 1, none⟩ = some (.iface t v)) :
    Calls Tryz.prog 125 #[.pointer (some ⟨g, 0, none⟩), .int .i64 n, .int .i64 m] w fun e w' => e = .returned (.tuple #[]) ∧ w = w' := by
  go_enter Tryz.func125, Tryz.ntmps125
  go_wp2_with (go_at_call 122; refine (off_err _ _ _ _ hc).mono ?_; rintro e w' ⟨rfl, rfl⟩)
  exact bodyPost_ret (v := .tuple #[]) (by simp [results, Tryz.results125, go_sem]) rfl ⟨rfl, rfl⟩

theorem wr_fail {E : GE} {w : World} {B g : Nat} {bs : List UInt8} (hW : Wr E w B g bs none) (k : Nat) (r a : Int) (h1 : 1 ≤ k) (h2 : k ≤ 7) :
    Wr E (((w.setCell ⟨g, 1, none⟩ (.iface 145 (.pointer (some ⟨w.heap.size, 0, none⟩)))).alloc (.cells #[.int .i64 r, .int .i64 a, E.kd k] 149)).drew) B g bs (some ⟨k, r, a⟩) ∧
    Tch B WT w (((w.setCell ⟨g, 1, none⟩ (.iface 145 (.pointer (some ⟨w.heap.size, 0, none⟩)))).alloc (.cells #[.int .i64 r, .int .i64 a, E.kd k] 149)).drew) := by
  obtain ⟨hB, hE, v, e, hb, ho, he⟩ := hW
  have hb1 := hb.set_ 1 (.iface 145 (.pointer (some ⟨w.heap.size, 0, none⟩)))
  have hz : (w.setCell ⟨g, 1, none⟩ (.iface 145 (.pointer (some ⟨w.heap.size, 0, none⟩)))).heap.size = w.heap.size := by simp [World.setCell]
  have ho1 := own_set ho (own_ne ho hb (by decide)) (.iface 145 (.pointer (some ⟨w.heap.size, 0, none⟩))) (p := ⟨g, 1, none⟩)
  refine ⟨⟨hB, hE, v, _, hb1.alloc _, ho1.alloc _, ?_⟩, ((Tch.set (Upd.refl _ _) hb (by simp) hB 1 _).alloc _).drew⟩
  have hn := ErrIs.new (E := E) (w.setCell ⟨g, 1, none⟩ (.iface 145 (.pointer (some ⟨w.heap.size, 0, none⟩)))) k r a h1 h2
  rw [hz] at hn
  exact ErrIs.drew hn

theorem wr_put {E : GE} {w w' w1 : World} {B g : Nat} {bs new : List UInt8} {v v1 : Value} {n : Nat} {cells : List Value} (hB : B ≤ g) (hE : E.B ≤ B) (hb : Blk w g 90 #[v, .nilIface])
    (ho : w.ownsRow B 5 1 v bs.length (u8s bs)) (hu : Upd Non w w') (hnew : cells = u8s new) (hown1 : w1.ownsRow B 5 1 v1 n (u8s bs ++ cells)) (hg1 : w'.grownBy w1 v.ownBlock) :
    Wr E (w1.setCell ⟨g, 0, none⟩ v1) B g (bs ++ new) none ∧ Tch B WT w (w1.setCell ⟨g, 0, none⟩ v1) := by
  subst hnew
  have ho' : w'.ownsRow B 5 1 v bs.length (u8s bs) := own_upd ho hu fun _ _ => id
  have hb' := hb.upd hu (fun h => h)
  have hb1 := hb'.grown hg1 (fun e => own_ne ho' hb' (by decide) e.symm)
  have hn : n = (bs ++ new).length := by have := hown1.1; simp [u8s] at this; simp; omega
  subst hn
  rw [← u8s_append] at hown1
  refine ⟨⟨hB, hE, v1, .nilIface, hb1.set_ 0 _, own_set hown1 (own_ne hown1 hb1 (by decide)) _, rfl⟩, ?_⟩
  exact Tch.set (Tch.grown (Tch.of_non hu) ho' (by simp) (Nat.le_refl _) hg1) hb1 (by simp) hB 0 _

theorem cell_two_new (w : World) (x y : Value) (t : TypeId) : ∀ j u, [x, y][j]? = some u → (w.alloc (.cells #[x, y] t)).cell? ((⟨w.heap.size, 0, none⟩ : Addr).add j) = some u := by
  intro j u hu
  rcases j with _ | _ | j
  · simp at hu; subst hu; exact (Blk.new w t #[x, y]).cell 0
  · simp at hu; subst hu; exact (Blk.new w t #[x, y]).cell 1
  · simp at hu
theorem u8_info : (Tryz.prog.info? 5).map (fun i => (i.zero, i.size, i.bytes)) = some (some (.int .u8 0), 1, 1) := by kernel_rfl

set_option maxRecDepth 100000 in
set_option maxHeartbeats 2000000 in
theorem wnum_ok1 (E : GE) (B g : Nat) (bs : List UInt8) (n : Int) (w : World) (hW : Wr E w B g bs none) (hn : 0 ≤ n) (hn2 : n < 256) (hs : bs.length + 1 ≤ 140737488355328) :
    Calls Tryz.prog 125 #[.pointer (some ⟨g, 0, none⟩), .int .i64 n, .int .i64 1] w fun e w' => e = .returned (.tuple #[]) ∧ Wr E w' B g (bs ++ [b8 n]) none ∧ Tch B WT w w' := by
  obtain ⟨hB, hE, v, e, hb, ho, he⟩ := id hW
  obtain rfl : e = .nilIface := he
  obtain ⟨A, c, rfl⟩ := own_slice ho
  have hc0 : w.cell? ⟨g, 0, none⟩ = some (.slice A _ c) := hb.cell 0
  have hc1 : w.cell? ⟨g, 1, none⟩ = some .nilIface := hb.cell 1
  have hf := hb.frozen
  obtain ⟨i0, hi, hz⟩ := Option.map_eq_some_iff.1 u8_info
  simp only [Prod.mk.injEq] at hz
  obtain ⟨hz0, hz1, hz2⟩ := hz
  go_enter Tryz.func125, Tryz.ntmps125
  go_wp2_with (first
   | (go_at_call 122; refine (off_nil _ _ hc1).mono ?_; rintro e w' ⟨rfl, rfl⟩)
   | (at_builtin; refine wpList_append_own_at _ rfl (.tmp 62) (.tmp 65) 88 rfl B 5 i0 _ 1 1 Tryz.underlying88 hi hz0 hz1 hz2 rfl (by decide) _ _ _ rfl (ho.alloc _) ⟨w.heap.size, 0, none⟩ 1 1 [.int .u8 n] rfl rfl (cell_one_new _ _ _) (by simp [Value.oneCell']) (by simp only [maxLen]; omega) (by omega) (by have := hb.lt; simp; omega) ?_
      intro v1 w1 hown1 hg1 _ _
      obtain ⟨A1, c1, rfl⟩ := own_slice hown1
      have hb1 := (hb.alloc _).grown hg1 (fun e => own_ne ho hb (by decide) e.symm)
      have hd0 : w1.cell? ⟨g, 0, none⟩ = some (.slice A _ c) := hb1.cell 0
      have hd1 : w1.frozen? ⟨g, 0, none⟩ = false := hb1.frozen 0))
  go_end0
  exact ⟨rfl, wr_put hB hE hb ho ((Upd.refl _ _).alloc _) (by simp [u8s, b8_toNat]; omega) hown1 hg1⟩

set_option maxRecDepth 100000 in
set_option maxHeartbeats 2000000 in
theorem wnum_ok2 (E : GE) (B g : Nat) (bs : List UInt8) (n : Int) (w : World) (hW : Wr E w B g bs none) (hn : 0 ≤ n) (hn2 : n < 65536) (hs : bs.length + 2 ≤ 140737488355328) :
    Calls Tryz.prog 125 #[.pointer (some ⟨g, 0, none⟩), .int .i64 n, .int .i64 2] w fun e w' => e = .returned (.tuple #[]) ∧ Wr E w' B g (bs ++ [b8 (n / 256)] ++ [b8 n]) none ∧ Tch B WT w w' := by
  obtain ⟨hB, hE, v, e, hb, ho, he⟩ := id hW
  obtain rfl : e = .nilIface := he
  obtain ⟨A, c, rfl⟩ := own_slice ho
  have hc0 : w.cell? ⟨g, 0, none⟩ = some (.slice A _ c) := hb.cell 0
  have hc1 : w.cell? ⟨g, 1, none⟩ = some .nilIface := hb.cell 1
  have hf := hb.frozen
  obtain ⟨i0, hi, hz⟩ := Option.map_eq_some_iff.1 u8_info
  simp only [Prod.mk.injEq] at hz
  obtain ⟨hz0, hz1, hz2⟩ := hz
  go_enter Tryz.func125, Tryz.ntmps125
  go_upto_block 3 with ((go_at_call 122; refine (off_nil _ _ hc1).mono ?_; rintro e w' ⟨rfl, rfl⟩))
  go_cut [] (fun wc => ∃ bs1, Hid (bs1 = bs ++ [b8 (n / 256)]) ∧ bs1.length ≤ bs.length + 1 ∧ Wr E wc B g bs1 none ∧ Tch B WT w wc)
  case first =>
    go_wp2_with (first
   | (at_builtin; refine wpList_append_own_at _ rfl (.tmp 50) (.tmp 54) 88 rfl B 5 i0 _ 1 1 Tryz.underlying88 hi hz0 hz1 hz2 rfl (by decide) _ _ _ rfl (ho.alloc _) ⟨w.heap.size, 0, none⟩ 1 1 [.int .u8 (n / 256)] rfl rfl (cell_one_new _ _ _) (by simp [Value.oneCell']) (by simp only [maxLen]; omega) (by omega) (by have := hb.lt; simp; omega) ?_
      intro v1 w1 hown1 hg1 _ _
      obtain ⟨A1, c1, rfl⟩ := own_slice hown1
      have hb1 := (hb.alloc _).grown hg1 (fun e => own_ne ho hb (by decide) e.symm)
      have hd0 : w1.cell? ⟨g, 0, none⟩ = some (.slice A _ c) := hb1.cell 0
      have hd1 : w1.frozen? ⟨g, 0, none⟩ = false := hb1.frozen 0))
    go_meet
    case rel =>
      have hp := wr_put hB hE hb ho ((Upd.refl _ _).alloc _) (new := [b8 (n / 256)]) (by simp [u8s, b8_toNat] <;> omega) hown1 hg1
      exact ⟨_, Lib.hid rfl, by simp, hp⟩
  case rest =>
  clear hW hb ho hc0 hc1 hf hB hE
  obtain ⟨bs1, hbs, hl, hW, hT⟩ := hcut
  clear A c
  obtain ⟨hB, hE, v, e, hb, ho, he⟩ := id hW
  obtain rfl : e = .nilIface := he
  obtain ⟨A, c, rfl⟩ := own_slice ho
  have hc0 : wc.cell? ⟨g, 0, none⟩ = some (.slice A _ c) := hb.cell 0
  have hc1 : wc.cell? ⟨g, 1, none⟩ = some .nilIface := hb.cell 1
  have hf := hb.frozen
  go_wp2_with (first
   | (at_builtin; refine wpList_append_own_at _ rfl (.tmp 62) (.tmp 65) 88 rfl B 5 i0 _ 1 1 Tryz.underlying88 hi hz0 hz1 hz2 rfl (by decide) _ _ _ rfl (ho.alloc _) ⟨wc.heap.size, 0, none⟩ 1 1 [.int .u8 (IntKind.u8.wrap n)] rfl rfl (cell_one_new _ _ _) (by simp [Value.oneCell']) (by simp only [maxLen]; omega) (by omega) (by have := hb.lt; simp; omega) ?_
      intro v1 w1 hown1 hg1 _ _
      obtain ⟨A1, c1, rfl⟩ := own_slice hown1
      have hb1 := (hb.alloc _).grown hg1 (fun e => own_ne ho hb (by decide) e.symm)
      have hd0 : w1.cell? ⟨g, 0, none⟩ = some (.slice A _ c) := hb1.cell 0
      have hd1 : w1.frozen? ⟨g, 0, none⟩ = false := hb1.frozen 0))
  go_end0
  have hp := wr_put hB hE hb ho ((Upd.refl _ _).alloc _) (new := [b8 (n)]) (by simp [u8s, b8_toNat, IntKind.wrap_u8] <;> omega) hown1 hg1
  exact ⟨rfl, by rw [← hbs.out]; exact hp.1, hT.trans hp.2⟩

set_option maxRecDepth 100000 in
set_option maxHeartbeats 2000000 in
theorem wnum_ok4 (E : GE) (B g : Nat) (bs : List UInt8) (n : Int) (w : World) (hW : Wr E w B g bs none) (hn : 0 ≤ n) (hn2 : n < 4294967296) (hs : bs.length + 4 ≤ 140737488355328) :
    Calls Tryz.prog 125 #[.pointer (some ⟨g, 0, none⟩), .int .i64 n, .int .i64 4] w fun e w' => e = .returned (.tuple #[]) ∧ Wr E w' B g (bs ++ [b8 (n / 16777216), b8 (n / 65536)] ++ [b8 (n / 256)] ++ [b8 n]) none ∧ Tch B WT w w' := by
  obtain ⟨hB, hE, v, e, hb, ho, he⟩ := id hW
  obtain rfl : e = .nilIface := he
  obtain ⟨A, c, rfl⟩ := own_slice ho
  have hc0 : w.cell? ⟨g, 0, none⟩ = some (.slice A _ c) := hb.cell 0
  have hc1 : w.cell? ⟨g, 1, none⟩ = some .nilIface := hb.cell 1
  have hf := hb.frozen
  obtain ⟨i0, hi, hz⟩ := Option.map_eq_some_iff.1 u8_info
  simp only [Prod.mk.injEq] at hz
  obtain ⟨hz0, hz1, hz2⟩ := hz
  go_enter Tryz.func125, Tryz.ntmps125
  go_upto_block 3 with ((go_at_call 122; refine (off_nil _ _ hc1).mono ?_; rintro e w' ⟨rfl, rfl⟩))
  go_cut [] (fun wc => ∃ bs1, Hid (bs1 = bs ++ [b8 (n / 16777216), b8 (n / 65536)] ++ [b8 (n / 256)]) ∧ bs1.length ≤ bs.length + 3 ∧ Wr E wc B g bs1 none ∧ Tch B WT w wc)
  case first =>
    go_upto_block 2 with (fail)
    go_cut [] (fun wc => ∃ bs1, Hid (bs1 = bs ++ [b8 (n / 16777216), b8 (n / 65536)]) ∧ bs1.length ≤ bs.length + 2 ∧ Wr E wc B g bs1 none ∧ Tch B WT w wc)
    case first =>
      go_wp2_with (first
       | (at_builtin; refine wpList_append_own_at _ rfl (.tmp 35) (.tmp 42) 88 rfl B 5 i0 _ 1 1 Tryz.underlying88 hi hz0 hz1 hz2 rfl (by decide) _ _ _ rfl (ho.alloc _) ⟨w.heap.size, 0, none⟩ 2 2 [.int .u8 (n / 16777216), .int .u8 (IntKind.u8.wrap (n / 65536))] rfl rfl (cell_two_new _ _ _ _) (by simp [Value.oneCell']) (by simp only [maxLen]; omega) (by omega) (by have := hb.lt; simp; omega) ?_
          intro v1 w1 hown1 hg1 _ _
          obtain ⟨A1, c1, rfl⟩ := own_slice hown1
          have hb1 := (hb.alloc _).grown hg1 (fun e => own_ne ho hb (by decide) e.symm)
          have hd0 : w1.cell? ⟨g, 0, none⟩ = some (.slice A _ c) := hb1.cell 0
          have hd1 : w1.frozen? ⟨g, 0, none⟩ = false := hb1.frozen 0))
      go_meet
      case rel =>
        have hp := wr_put hB hE hb ho ((Upd.refl _ _).alloc _) (new := [b8 (n / 16777216), b8 (n / 65536)]) (by simp [u8s, b8_toNat, IntKind.wrap_u8] <;> omega) hown1 hg1
        exact ⟨_, Lib.hid rfl, by simp, hp⟩
    case rest =>
      clear hW hb ho hc0 hc1 hf hB hE
      obtain ⟨bs1, hbs, hl, hW, hT⟩ := hcut
      clear A c
      obtain ⟨hB, hE, v, e, hb, ho, he⟩ := id hW
      obtain rfl : e = .nilIface := he
      obtain ⟨A, c, rfl⟩ := own_slice ho
      have hc0 : wc.cell? ⟨g, 0, none⟩ = some (.slice A _ c) := hb.cell 0
      have hc1 : wc.cell? ⟨g, 1, none⟩ = some .nilIface := hb.cell 1
      have hf := hb.frozen
      go_wp2_with (first
       | (at_builtin; refine wpList_append_own_at _ rfl (.tmp 50) (.tmp 54) 88 rfl B 5 i0 _ 1 1 Tryz.underlying88 hi hz0 hz1 hz2 rfl (by decide) _ _ _ rfl (ho.alloc _) ⟨wc.heap.size, 0, none⟩ 1 1 [.int .u8 (IntKind.u8.wrap (n / 256))] rfl rfl (cell_one_new _ _ _) (by simp [Value.oneCell']) (by simp only [maxLen]; omega) (by omega) (by have := hb.lt; simp; omega) ?_
          intro v1 w1 hown1 hg1 _ _
          obtain ⟨A1, c1, rfl⟩ := own_slice hown1
          have hb1 := (hb.alloc _).grown hg1 (fun e => own_ne ho hb (by decide) e.symm)
          have hd0 : w1.cell? ⟨g, 0, none⟩ = some (.slice A _ c) := hb1.cell 0
          have hd1 : w1.frozen? ⟨g, 0, none⟩ = false := hb1.frozen 0))
      go_meet
      case rel =>
        have hp := wr_put hB hE hb ho ((Upd.refl _ _).alloc _) (new := [b8 (n / 256)]) (by simp [u8s, b8_toNat, IntKind.wrap_u8] <;> omega) hown1 hg1
        exact ⟨_, Lib.hid (by rw [hbs.out]), by simp; omega, hp.1, hT.trans hp.2⟩
  case rest =>
  clear hW hb ho hc0 hc1 hf hB hE
  obtain ⟨bs1, hbs, hl, hW, hT⟩ := hcut
  clear A c
  obtain ⟨hB, hE, v, e, hb, ho, he⟩ := id hW
  obtain rfl : e = .nilIface := he
  obtain ⟨A, c, rfl⟩ := own_slice ho
  have hc0 : wc.cell? ⟨g, 0, none⟩ = some (.slice A _ c) := hb.cell 0
  have hc1 : wc.cell? ⟨g, 1, none⟩ = some .nilIface := hb.cell 1
  have hf := hb.frozen
  go_wp2_with (first
   | (at_builtin; refine wpList_append_own_at _ rfl (.tmp 62) (.tmp 65) 88 rfl B 5 i0 _ 1 1 Tryz.underlying88 hi hz0 hz1 hz2 rfl (by decide) _ _ _ rfl (ho.alloc _) ⟨wc.heap.size, 0, none⟩ 1 1 [.int .u8 (IntKind.u8.wrap n)] rfl rfl (cell_one_new _ _ _) (by simp [Value.oneCell']) (by simp only [maxLen]; omega) (by omega) (by have := hb.lt; simp; omega) ?_
      intro v1 w1 hown1 hg1 _ _
      obtain ⟨A1, c1, rfl⟩ := own_slice hown1
      have hb1 := (hb.alloc _).grown hg1 (fun e => own_ne ho hb (by decide) e.symm)
      have hd0 : w1.cell? ⟨g, 0, none⟩ = some (.slice A _ c) := hb1.cell 0
      have hd1 : w1.frozen? ⟨g, 0, none⟩ = false := hb1.frozen 0))
  go_end0
  have hp := wr_put hB hE hb ho ((Upd.refl _ _).alloc _) (new := [b8 (n)]) (by simp [u8s, b8_toNat, IntKind.wrap_u8] <;> omega) hown1 hg1
  exact ⟨rfl, by rw [← hbs.out]; exact hp.1, hT.trans hp.2⟩


set_option maxRecDepth 100000 in
set_option maxHeartbeats 1000000 in
theorem wnum_lo1 (E : GE) (B g : Nat) (bs : List UInt8) (n : Int) (w : World) (hG : Glob E w) (hW : Wr E w B g bs none) (hn : n < 0) :
    Calls Tryz.prog 125 #[.pointer (some ⟨g, 0, none⟩), .int .i64 n, .int .i64 1] w fun e w' => e = .returned (.tuple #[]) ∧ Wr E w' B g bs (some ⟨4, 129, bs.length⟩) ∧ Tch B WT w w' := by
  obtain ⟨hB, hE, v, e, hb, ho, he⟩ := id hW
  obtain rfl : e = .nilIface := he
  obtain ⟨A, c, rfl⟩ := own_slice ho
  have hc0 : w.cell? ⟨g, 0, none⟩ = some (.slice A bs.length c) := hb.cell 0
  have hc1 : w.cell? ⟨g, 1, none⟩ = some .nilIface := hb.cell 1
  have hf := hb.frozen
  have hlt := hb.lt
  have hl0 : 4 < w.heap.size := Nat.lt_of_lt_of_le (hG.lt 4) hG.size
  have g4 := hG.at_ 4 (by decide) (by decide)
  simp only [gix, GE.kd] at g4
  go_enter Tryz.func125, Tryz.ntmps125
  go_wp2_with (go_at_call 122; refine (off_nil _ _ hc1).mono ?_; rintro e w' ⟨rfl, rfl⟩)
  go_region_held3 (fun w' => w'.cell? ⟨g, 0, none⟩ = some (.slice A bs.length c) ∧ w'.cell? ⟨4, 0, none⟩ = some (.iface 225 (.pointer (some (E.a 4))))) (simp [go_sem, World.cell?_alloc_lt, *])
   (first
    | (go_at_call 66; refine (new_any _ _ _ _ _).mono ?_; rintro e w1 ⟨rfl, rfl⟩)
    | (go_at_call 124; refine (fail_blk g _ _ (.slice A bs.length c) .nilIface _ (by repeat (first | exact hb | apply Blk.alloc | apply Blk.drewN | apply Blk.drew))).mono ?_; rintro e w1 ⟨rfl, rfl⟩))
  go_wp2
  exact bodyPost_ret (v := .tuple #[]) (by simp [results, Tryz.results125, go_sem]) rfl ⟨rfl, wr_fail hW 4 _ _ (by decide) (by decide)⟩

set_option maxRecDepth 100000 in
set_option maxHeartbeats 1000000 in
theorem wnum_hi1 (E : GE) (B g : Nat) (bs : List UInt8) (n : Int) (w : World) (hG : Glob E w) (hW : Wr E w B g bs none) (hn : 256 ≤ n) :
    Calls Tryz.prog 125 #[.pointer (some ⟨g, 0, none⟩), .int .i64 n, .int .i64 1] w fun e w' => e = .returned (.tuple #[]) ∧ Wr E w' B g bs (some ⟨4, 129, bs.length⟩) ∧ Tch B WT w w' := by
  obtain ⟨hB, hE, v, e, hb, ho, he⟩ := id hW
  obtain rfl : e = .nilIface := he
  obtain ⟨A, c, rfl⟩ := own_slice ho
  have hc0 : w.cell? ⟨g, 0, none⟩ = some (.slice A bs.length c) := hb.cell 0
  have hc1 : w.cell? ⟨g, 1, none⟩ = some .nilIface := hb.cell 1
  have hf := hb.frozen
  have hlt := hb.lt
  have hl0 : 4 < w.heap.size := Nat.lt_of_lt_of_le (hG.lt 4) hG.size
  have g4 := hG.at_ 4 (by decide) (by decide)
  simp only [gix, GE.kd] at g4
  go_enter Tryz.func125, Tryz.ntmps125
  go_wp2_with (go_at_call 122; refine (off_nil _ _ hc1).mono ?_; rintro e w' ⟨rfl, rfl⟩)
  go_region_held3 (fun w' => w'.cell? ⟨g, 0, none⟩ = some (.slice A bs.length c) ∧ w'.cell? ⟨4, 0, none⟩ = some (.iface 225 (.pointer (some (E.a 4))))) (simp [go_sem, World.cell?_alloc_lt, *])
   (first
    | (go_at_call 66; refine (new_any _ _ _ _ _).mono ?_; rintro e w1 ⟨rfl, rfl⟩)
    | (go_at_call 124; refine (fail_blk g _ _ (.slice A bs.length c) .nilIface _ (by repeat (first | exact hb | apply Blk.alloc | apply Blk.drewN | apply Blk.drew))).mono ?_; rintro e w1 ⟨rfl, rfl⟩))
  go_wp2
  exact bodyPost_ret (v := .tuple #[]) (by simp [results, Tryz.results125, go_sem]) rfl ⟨rfl, wr_fail hW 4 _ _ (by decide) (by decide)⟩

set_option maxRecDepth 100000 in
set_option maxHeartbeats 1000000 in
theorem wnum_lo2 (E : GE) (B g : Nat) (bs : List UInt8) (n : Int) (w : World) (hG : Glob E w) (hW : Wr E w B g bs none) (hn : n < 0) :
    Calls Tryz.prog 125 #[.pointer (some ⟨g, 0, none⟩), .int .i64 n, .int .i64 2] w fun e w' => e = .returned (.tuple #[]) ∧ Wr E w' B g bs (some ⟨4, 129, bs.length⟩) ∧ Tch B WT w w' := by
  obtain ⟨hB, hE, v, e, hb, ho, he⟩ := id hW
  obtain rfl : e = .nilIface := he
  obtain ⟨A, c, rfl⟩ := own_slice ho
  have hc0 : w.cell? ⟨g, 0, none⟩ = some (.slice A bs.length c) := hb.cell 0
  have hc1 : w.cell? ⟨g, 1, none⟩ = some .nilIface := hb.cell 1
  have hf := hb.frozen
  have hlt := hb.lt
  have hl0 : 4 < w.heap.size := Nat.lt_of_lt_of_le (hG.lt 4) hG.size
  have g4 := hG.at_ 4 (by decide) (by decide)
  simp only [gix, GE.kd] at g4
  go_enter Tryz.func125, Tryz.ntmps125
  go_wp2_with (go_at_call 122; refine (off_nil _ _ hc1).mono ?_; rintro e w' ⟨rfl, rfl⟩)
  go_region_held3 (fun w' => w'.cell? ⟨g, 0, none⟩ = some (.slice A bs.length c) ∧ w'.cell? ⟨4, 0, none⟩ = some (.iface 225 (.pointer (some (E.a 4))))) (simp [go_sem, World.cell?_alloc_lt, *])
   (first
    | (go_at_call 66; refine (new_any _ _ _ _ _).mono ?_; rintro e w1 ⟨rfl, rfl⟩)
    | (go_at_call 124; refine (fail_blk g _ _ (.slice A bs.length c) .nilIface _ (by repeat (first | exact hb | apply Blk.alloc | apply Blk.drewN | apply Blk.drew))).mono ?_; rintro e w1 ⟨rfl, rfl⟩))
  go_wp2
  exact bodyPost_ret (v := .tuple #[]) (by simp [results, Tryz.results125, go_sem]) rfl ⟨rfl, wr_fail hW 4 _ _ (by decide) (by decide)⟩

set_option maxRecDepth 100000 in
set_option maxHeartbeats 1000000 in
theorem wnum_hi2 (E : GE) (B g : Nat) (bs : List UInt8) (n : Int) (w : World) (hG : Glob E w) (hW : Wr E w B g bs none) (hn : 65536 ≤ n) :
    Calls Tryz.prog 125 #[.pointer (some ⟨g, 0, none⟩), .int .i64 n, .int .i64 2] w fun e w' => e = .returned (.tuple #[]) ∧ Wr E w' B g bs (some ⟨4, 129, bs.length⟩) ∧ Tch B WT w w' := by
  obtain ⟨hB, hE, v, e, hb, ho, he⟩ := id hW
  obtain rfl : e = .nilIface := he
  obtain ⟨A, c, rfl⟩ := own_slice ho
  have hc0 : w.cell? ⟨g, 0, none⟩ = some (.slice A bs.length c) := hb.cell 0
  have hc1 : w.cell? ⟨g, 1, none⟩ = some .nilIface := hb.cell 1
  have hf := hb.frozen
  have hlt := hb.lt
  have hl0 : 4 < w.heap.size := Nat.lt_of_lt_of_le (hG.lt 4) hG.size
  have g4 := hG.at_ 4 (by decide) (by decide)
  simp only [gix, GE.kd] at g4
  go_enter Tryz.func125, Tryz.ntmps125
  go_wp2_with (go_at_call 122; refine (off_nil _ _ hc1).mono ?_; rintro e w' ⟨rfl, rfl⟩)
  go_region_held3 (fun w' => w'.cell? ⟨g, 0, none⟩ = some (.slice A bs.length c) ∧ w'.cell? ⟨4, 0, none⟩ = some (.iface 225 (.pointer (some (E.a 4))))) (simp [go_sem, World.cell?_alloc_lt, *])
   (first
    | (go_at_call 66; refine (new_any _ _ _ _ _).mono ?_; rintro e w1 ⟨rfl, rfl⟩)
    | (go_at_call 124; refine (fail_blk g _ _ (.slice A bs.length c) .nilIface _ (by repeat (first | exact hb | apply Blk.alloc | apply Blk.drewN | apply Blk.drew))).mono ?_; rintro e w1 ⟨rfl, rfl⟩))
  go_wp2
  exact bodyPost_ret (v := .tuple #[]) (by simp [results, Tryz.results125, go_sem]) rfl ⟨rfl, wr_fail hW 4 _ _ (by decide) (by decide)⟩

set_option maxRecDepth 100000 in
set_option maxHeartbeats 1000000 in
theorem wnum_lo4 (E : GE) (B g : Nat) (bs : List UInt8) (n : Int) (w : World) (hG : Glob E w) (hW : Wr E w B g bs none) (hn : n < 0) :
    Calls Tryz.prog 125 #[.pointer (some ⟨g, 0, none⟩), .int .i64 n, .int .i64 4] w fun e w' => e = .returned (.tuple #[]) ∧ Wr E w' B g bs (some ⟨4, 129, bs.length⟩) ∧ Tch B WT w w' := by
  obtain ⟨hB, hE, v, e, hb, ho, he⟩ := id hW
  obtain rfl : e = .nilIface := he
  obtain ⟨A, c, rfl⟩ := own_slice ho
  have hc0 : w.cell? ⟨g, 0, none⟩ = some (.slice A bs.length c) := hb.cell 0
  have hc1 : w.cell? ⟨g, 1, none⟩ = some .nilIface := hb.cell 1
  have hf := hb.frozen
  have hlt := hb.lt
  have hl0 : 4 < w.heap.size := Nat.lt_of_lt_of_le (hG.lt 4) hG.size
  have g4 := hG.at_ 4 (by decide) (by decide)
  simp only [gix, GE.kd] at g4
  go_enter Tryz.func125, Tryz.ntmps125
  go_wp2_with (go_at_call 122; refine (off_nil _ _ hc1).mono ?_; rintro e w' ⟨rfl, rfl⟩)
  go_region_held3 (fun w' => w'.cell? ⟨g, 0, none⟩ = some (.slice A bs.length c) ∧ w'.cell? ⟨4, 0, none⟩ = some (.iface 225 (.pointer (some (E.a 4))))) (simp [go_sem, World.cell?_alloc_lt, *])
   (first
    | (go_at_call 66; refine (new_any _ _ _ _ _).mono ?_; rintro e w1 ⟨rfl, rfl⟩)
    | (go_at_call 124; refine (fail_blk g _ _ (.slice A bs.length c) .nilIface _ (by repeat (first | exact hb | apply Blk.alloc | apply Blk.drewN | apply Blk.drew))).mono ?_; rintro e w1 ⟨rfl, rfl⟩))
  go_wp2
  exact bodyPost_ret (v := .tuple #[]) (by simp [results, Tryz.results125, go_sem]) rfl ⟨rfl, wr_fail hW 4 _ _ (by decide) (by decide)⟩

set_option maxRecDepth 100000 in
set_option maxHeartbeats 1000000 in
theorem wnum_hi4 (E : GE) (B g : Nat) (bs : List UInt8) (n : Int) (w : World) (hG : Glob E w) (hW : Wr E w B g bs none) (hn : 4294967296 ≤ n) :
    Calls Tryz.prog 125 #[.pointer (some ⟨g, 0, none⟩), .int .i64 n, .int .i64 4] w fun e w' => e = .returned (.tuple #[]) ∧ Wr E w' B g bs (some ⟨4, 129, bs.length⟩) ∧ Tch B WT w w' := by
  obtain ⟨hB, hE, v, e, hb, ho, he⟩ := id hW
  obtain rfl : e = .nilIface := he
  obtain ⟨A, c, rfl⟩ := own_slice ho
  have hc0 : w.cell? ⟨g, 0, none⟩ = some (.slice A bs.length c) := hb.cell 0
  have hc1 : w.cell? ⟨g, 1, none⟩ = some .nilIface := hb.cell 1
  have hf := hb.frozen
  have hlt := hb.lt
  have hl0 : 4 < w.heap.size := Nat.lt_of_lt_of_le (hG.lt 4) hG.size
  have g4 := hG.at_ 4 (by decide) (by decide)
  simp only [gix, GE.kd] at g4
  go_enter Tryz.func125, Tryz.ntmps125
  go_wp2_with (go_at_call 122; refine (off_nil _ _ hc1).mono ?_; rintro e w' ⟨rfl, rfl⟩)
  go_region_held3 (fun w' => w'.cell? ⟨g, 0, none⟩ = some (.slice A bs.length c) ∧ w'.cell? ⟨4, 0, none⟩ = some (.iface 225 (.pointer (some (E.a 4))))) (simp [go_sem, World.cell?_alloc_lt, *])
   (first
    | (go_at_call 66; refine (new_any _ _ _ _ _).mono ?_; rintro e w1 ⟨rfl, rfl⟩)
    | (go_at_call 124; refine (fail_blk g _ _ (.slice A bs.length c) .nilIface _ (by repeat (first | exact hb | apply Blk.alloc | apply Blk.drewN | apply Blk.drew))).mono ?_; rintro e w1 ⟨rfl, rfl⟩))
  go_wp2
  exact bodyPost_ret (v := .tuple #[]) (by simp [results, Tryz.results125, go_sem]) rfl ⟨rfl, wr_fail hW 4 _ _ (by decide) (by decide)⟩

/-- What number does to a writer. -/
def wNum (k : Nat) (st : List UInt8 × Option Flt) (n : Int) : List UInt8 × Option Flt :=
  match st.2 with
  | some _ => st
  | none => if 0 ≤ n ∧ n < 256 ^ k then (st.1 ++ beN k n, none) else (st.1, some ⟨4, 129, st.1.length⟩)
abbrev WrS (E : GE) (w : World) (B g : Nat) (st : List UInt8 × Option Flt) : Prop := Wr E w B g st.1 st.2

theorem wnum_1 (E : GE) (B g : Nat) (st : List UInt8 × Option Flt) (n : Int) (w : World) (hG : Glob E w) (hW : WrS E w B g st) (hs : st.1.length + 1 ≤ 140737488355328) :
    Calls Tryz.prog 125 #[.pointer (some ⟨g, 0, none⟩), .int .i64 n, .int .i64 1] w fun e w' => e = .returned (.tuple #[]) ∧ WrS E w' B g (wNum 1 st n) ∧ Tch B WT w w' := by
  obtain ⟨bs, f⟩ := st
  cases f with
  | some f =>
    obtain ⟨hB, hE, v, e, hb, ho, he⟩ := id hW
    obtain ⟨k, rfl⟩ := ErrIs.form he
    refine (wnum_off g n 1 _ _ w (hb.cell 1)).mono ?_
    rintro e w' ⟨rfl, rfl⟩
    exact ⟨rfl, hW, Upd.refl _ _⟩
  | none =>
    by_cases h0 : 0 ≤ n
    · by_cases h1 : n < 256 ^ 1
      · refine (wnum_ok1 E B g bs n w hW h0 (by simpa using h1) hs).mono ?_
        rintro e w' ⟨rfl, hw, ht⟩
        refine ⟨rfl, ?_, ht⟩
        have e1 : wNum 1 (bs, none) n = (bs ++ beN 1 n, none) := by simp only [wNum]; rw [if_pos ⟨h0, h1⟩]
        rw [e1]
        simpa [WrS, beN, Int.ediv_ediv_of_nonneg] using hw
      · refine (wnum_hi1 E B g bs n w hG hW (by simp at h1; omega)).mono ?_
        rintro e w' ⟨rfl, hw, ht⟩
        have e1 : wNum 1 (bs, none) n = (bs, some ⟨4, 129, bs.length⟩) := by simp only [wNum]; rw [if_neg (fun h => h1 h.2)]
        exact ⟨rfl, by rw [e1]; exact hw, ht⟩
    · refine (wnum_lo1 E B g bs n w hG hW (by omega)).mono ?_
      rintro e w' ⟨rfl, hw, ht⟩
      have e1 : wNum 1 (bs, none) n = (bs, some ⟨4, 129, bs.length⟩) := by simp only [wNum]; rw [if_neg (fun h => h0 h.1)]
      exact ⟨rfl, by rw [e1]; exact hw, ht⟩
theorem wnum_2 (E : GE) (B g : Nat) (st : List UInt8 × Option Flt) (n : Int) (w : World) (hG : Glob E w) (hW : WrS E w B g st) (hs : st.1.length + 2 ≤ 140737488355328) :
    Calls Tryz.prog 125 #[.pointer (some ⟨g, 0, none⟩), .int .i64 n, .int .i64 2] w fun e w' => e = .returned (.tuple #[]) ∧ WrS E w' B g (wNum 2 st n) ∧ Tch B WT w w' := by
  obtain ⟨bs, f⟩ := st
  cases f with
  | some f =>
    obtain ⟨hB, hE, v, e, hb, ho, he⟩ := id hW
    obtain ⟨k, rfl⟩ := ErrIs.form he
    refine (wnum_off g n 2 _ _ w (hb.cell 1)).mono ?_
    rintro e w' ⟨rfl, rfl⟩
    exact ⟨rfl, hW, Upd.refl _ _⟩
  | none =>
    by_cases h0 : 0 ≤ n
    · by_cases h1 : n < 256 ^ 2
      · refine (wnum_ok2 E B g bs n w hW h0 (by simpa using h1) hs).mono ?_
        rintro e w' ⟨rfl, hw, ht⟩
        refine ⟨rfl, ?_, ht⟩
        have e1 : wNum 2 (bs, none) n = (bs ++ beN 2 n, none) := by simp only [wNum]; rw [if_pos ⟨h0, h1⟩]
        rw [e1]
        simpa [WrS, beN, Int.ediv_ediv_of_nonneg] using hw
      · refine (wnum_hi2 E B g bs n w hG hW (by simp at h1; omega)).mono ?_
        rintro e w' ⟨rfl, hw, ht⟩
        have e1 : wNum 2 (bs, none) n = (bs, some ⟨4, 129, bs.length⟩) := by simp only [wNum]; rw [if_neg (fun h => h1 h.2)]
        exact ⟨rfl, by rw [e1]; exact hw, ht⟩
    · refine (wnum_lo2 E B g bs n w hG hW (by omega)).mono ?_
      rintro e w' ⟨rfl, hw, ht⟩
      have e1 : wNum 2 (bs, none) n = (bs, some ⟨4, 129, bs.length⟩) := by simp only [wNum]; rw [if_neg (fun h => h0 h.1)]
      exact ⟨rfl, by rw [e1]; exact hw, ht⟩
theorem wnum_4 (E : GE) (B g : Nat) (st : List UInt8 × Option Flt) (n : Int) (w : World) (hG : Glob E w) (hW : WrS E w B g st) (hs : st.1.length + 4 ≤ 140737488355328) :
    Calls Tryz.prog 125 #[.pointer (some ⟨g, 0, none⟩), .int .i64 n, .int .i64 4] w fun e w' => e = .returned (.tuple #[]) ∧ WrS E w' B g (wNum 4 st n) ∧ Tch B WT w w' := by
  obtain ⟨bs, f⟩ := st
  cases f with
  | some f =>
    obtain ⟨hB, hE, v, e, hb, ho, he⟩ := id hW
    obtain ⟨k, rfl⟩ := ErrIs.form he
    refine (wnum_off g n 4 _ _ w (hb.cell 1)).mono ?_
    rintro e w' ⟨rfl, rfl⟩
    exact ⟨rfl, hW, Upd.refl _ _⟩
  | none =>
    by_cases h0 : 0 ≤ n
    · by_cases h1 : n < 256 ^ 4
      · refine (wnum_ok4 E B g bs n w hW h0 (by simpa using h1) hs).mono ?_
        rintro e w' ⟨rfl, hw, ht⟩
        refine ⟨rfl, ?_, ht⟩
        have e1 : wNum 4 (bs, none) n = (bs ++ beN 4 n, none) := by simp only [wNum]; rw [if_pos ⟨h0, h1⟩]
        rw [e1]
        simpa [WrS, beN, Int.ediv_ediv_of_nonneg] using hw
      · refine (wnum_hi4 E B g bs n w hG hW (by simp at h1; omega)).mono ?_
        rintro e w' ⟨rfl, hw, ht⟩
        have e1 : wNum 4 (bs, none) n = (bs, some ⟨4, 129, bs.length⟩) := by simp only [wNum]; rw [if_neg (fun h => h1 h.2)]
        exact ⟨rfl, by rw [e1]; exact hw, ht⟩
    · refine (wnum_lo4 E B g bs n w hG hW (by omega)).mono ?_
      rintro e w' ⟨rfl, hw, ht⟩
      have e1 : wNum 4 (bs, none) n = (bs, some ⟨4, 129, bs.length⟩) := by simp only [wNum]; rw [if_neg (fun h => h0 h.1)]
      exact ⟨rfl, by rw [e1]; exact hw, ht⟩
theorem wU8 (E : GE) (B g : Nat) (st : List UInt8 × Option Flt) (n : Int) (w : World) (hG : Glob E w) (hW : WrS E w B g st) (hs : st.1.length + 1 ≤ 140737488355328) :
    Calls Tryz.prog 87 #[.pointer (some ⟨g, 0, none⟩), .int .i64 n] w fun e w' => e = .returned (.tuple #[]) ∧ WrS E w' B g (wNum 1 st n) ∧ Tch B WT w w' := by
  go_enter Tryz.func87, Tryz.ntmps87
  go_wp2_with (go_at_call 125; refine (wnum_1 E B g st _ _ hG hW hs).mono ?_; rintro e w' ⟨rfl, hw, ht⟩)
  go_end0
  exact ⟨rfl, hw, ht⟩
theorem wU16 (E : GE) (B g : Nat) (st : List UInt8 × Option Flt) (n : Int) (w : World) (hG : Glob E w) (hW : WrS E w B g st) (hs : st.1.length + 2 ≤ 140737488355328) :
    Calls Tryz.prog 68 #[.pointer (some ⟨g, 0, none⟩), .int .i64 n] w fun e w' => e = .returned (.tuple #[]) ∧ WrS E w' B g (wNum 2 st n) ∧ Tch B WT w w' := by
  go_enter Tryz.func68, Tryz.ntmps68
  go_wp2_with (go_at_call 125; refine (wnum_2 E B g st _ _ hG hW hs).mono ?_; rintro e w' ⟨rfl, hw, ht⟩)
  go_end0
  exact ⟨rfl, hw, ht⟩
theorem wU32 (E : GE) (B g : Nat) (st : List UInt8 × Option Flt) (n : Int) (w : World) (hG : Glob E w) (hW : WrS E w B g st) (hs : st.1.length + 4 ≤ 140737488355328) :
    Calls Tryz.prog 147 #[.pointer (some ⟨g, 0, none⟩), .int .i64 n] w fun e w' => e = .returned (.tuple #[]) ∧ WrS E w' B g (wNum 4 st n) ∧ Tch B WT w w' := by
  go_enter Tryz.func147, Tryz.ntmps147
  go_wp2_with (go_at_call 125; refine (wnum_4 E B g st _ _ hG hW hs).mono ?_; rintro e w' ⟨rfl, hw, ht⟩)
  go_end0
  exact ⟨rfl, hw, ht⟩

end Go.Proofs.YtmmahkckemclaaaGreatDoor
