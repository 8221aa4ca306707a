/- awake of the properties' law. Condition: the package variables hold what the program lays there. -/
import Derived.Test.YtmmahkckemclaaaGreatDoorPropG
namespace Go.Proofs.YtmmahkckemclaaaGreatDoor
open Go.RowKit

def awCells : Array Value := #[.int .i64 2, .int .i64 9, .string ⟨#[]⟩, .string ⟨#[]⟩, .int .i64 38, .int .i64 0, .string ⟨#[97]⟩, .string ⟨#[98]⟩]
theorem aw_row {w : World} {g : Nat} (h : Blk w g 26 awCells) : PrRow w (some ⟨g, 0, none⟩) awL := by
  refine ⟨rfl, by decide, fun _ => ⟨_, rfl, h.lt, fun j u hj => ?_⟩⟩
  have ha : (⟨g, 0, none⟩ : Addr).add j = ⟨g, j, none⟩ := by unfold Addr.add; split <;> simp_all
  rw [ha, h.cell j]
  have e : (prs awL)[j]? = awCells[j]? := by simp [prs, awL, awCells, Pr.cells]
  rw [← e]; exact hj
theorem Stab.and {g : Nat} {K K' : World → Prop} (h : Stab g K) (h' : Stab g K') : Stab g (fun w => K w ∧ K' w) := fun w w' ht ⟨a, b⟩ => ⟨h w w' ht a, h' w w' ht b⟩
theorem Stab.upd {g : Nat} {w0 : World} (hB : w0.heap.size ≤ g) : Stab g (fun W => Upd Non w0 W) := fun _ _ ht hu => hu.trans ht (fun i hi ⟨h1, _⟩ => by omega)
theorem Stab.globT {E : GE} {g : Nat} (hB : E.B ≤ g) : Stab g (fun W => GlobT E W) := fun _ _ ht h => h.tch ht hB
theorem Stab.blk {g : Nat} (b : Nat) (t : TypeId) (cs : Array Value) (ht : t ∉ RT) : Stab g (fun W => Blk W b t cs) := fun _ _ hu hb => hb.tch hu ht
theorem Stab.own {g base : Nat} {v : Value} {l : List Pr} : Stab g (fun W => PrOwn W base v l) := fun _ _ hu ho => own_tch ho hu (by decide)

/-- New reader, and Read, of bytes. -/
def ReadCall (E : GE) (w : World) (b0 : Nat) (cs : Array Value) (r : List Pr × Option Flt) (e : Ending) (w' : World) : Prop :=
  (∃ A m c ev, e = .returned (.tuple #[.slice A m c, ev]) ∧ Hid (m = r.1.length) ∧ Hid (PrRow w' A r.1) ∧ Hid (ErrIs E w' ev r.2)) ∧ Hid (GlobT E w' ∧ Blk w' b0 26 cs ∧ Upd Non w w')
theorem read_call (E : GE) (w W : World) (g b0 : Nat) (cs : Array Value) (s : ByteArray) (place : Int) (hT : GlobT E W) (hb : Blk W b0 26 cs) (hR : Rd E W g s ⟨0, none⟩) (hu : Upd Non w W) (hg : w.heap.size ≤ g) :
    Calls Tryz.prog 56 #[.pointer (some ⟨g, 0, none⟩), .int .i64 place] W (ReadCall E w b0 cs ((pRead s ⟨0, none⟩ place).1, (pRead s ⟨0, none⟩ place).2.1)) := by
  have hK : Stab g (fun W' => (GlobT E W' ∧ Blk W' b0 26 cs) ∧ Upd Non w W') := ((Stab.globT hR.1).and (Stab.blk _ _ _ (by decide))).and (Stab.upd hg)
  refine (pread_any E g s _ ⟨0, none⟩ place W hK (fun W' h => h.1.1) ⟨hT.g, hR, ⟨hT, hb⟩, hu⟩).mono ?_
  rintro e w' ⟨⟨v, ev, rfl, ho, he⟩, hr⟩
  obtain ⟨A, c, rfl⟩ := own_slice ho
  exact ⟨⟨A, _, c, ev, rfl, Lib.hid rfl, Lib.hid (Reads.of_own ho), Lib.hid he⟩, Lib.hid ⟨hr.kept.1.1, hr.kept.1.2, hr.kept.2⟩⟩

set_option maxRecDepth 100000 in
set_option maxHeartbeats 8000000 in
theorem awake06 (E : GE) (w : World) (hT : GlobT E w) : Calls Tryz.prog 12 #[] w fun e w' => e = .returned (.bool true) ∧ Upd Non w w' := by
  have hb0 := Blk.new w 26 awCells
  have hU0 := (Upd.refl Non w).alloc (.cells awCells 26)
  have hEnc := penc_any E 3 (some ⟨w.heap.size, 0, none⟩) awL 2 2 rfl (Nat.le_refl _) _ (hT.non hU0) (aw_row hb0) aw_size
  rw [aw_enc] at hEnc
  unfold StrPost at hEnc
  have HEnc : Hid (Calls Tryz.prog 54 #[.int .i64 3, .slice (some ⟨w.heap.size, 0, none⟩) 2 2] (w.alloc (.cells #[.int .i64 2, .int .i64 9, .string ⟨#[]⟩, .string ⟨#[]⟩, .int .i64 38, .int .i64 0, .string ⟨#[97]⟩, .string ⟨#[98]⟩] 26)) fun e w' => (∃ ev, e = .returned (.tuple #[.string ⟨#[12, 2, 0, 0, 0, 9, 38, 0, 1, 97, 0, 1, 98]⟩, ev]) ∧ ErrIs E w' ev none) ∧ Upd Non (w.alloc (.cells awCells 26)) w') := Lib.hid hEnc
  have HB0 := Lib.hid hb0
  have HU0 := Lib.hid hU0
  have HT := Lib.hid hT
  clear hEnc hb0 hU0 hT
  have HRd : Hid (∀ w0 W g, GlobT E W → Blk W w.heap.size 26 awCells → Rd E W g ⟨#[12, 2, 0, 0, 0, 9, 38, 0, 1, 97, 0, 1, 98]⟩ ⟨0, none⟩ → Upd Non w0 W → w0.heap.size ≤ g → Calls Tryz.prog 56 #[.pointer (some ⟨g, 0, none⟩), .int .i64 3] W (ReadCall E w0 w.heap.size awCells (awL, none))) := Lib.hid (fun w0 W g h1 h2 h3 h4 h5 => by
    have h := read_call E w0 W g w.heap.size awCells awS 3 h1 h2 h3 h4 h5
    rw [aw_read.1, aw_read.2] at h
    exact h)
  have HRd2 : Hid (∀ w0 W g, GlobT E W → Blk W w.heap.size 26 awCells → Rd E W g ⟨#[12, 2, 0, 0, 0, 9, 38, 0, 1, 97, 0, 1, 98]⟩ ⟨0, none⟩ → Upd Non w0 W → w0.heap.size ≤ g → Calls Tryz.prog 56 #[.pointer (some ⟨g, 0, none⟩), .int .i64 1] W (ReadCall E w0 w.heap.size awCells ([], some ⟨2, 129, 1⟩))) := Lib.hid (fun w0 W g h1 h2 h3 h4 h5 => by
    have h := read_call E w0 W g w.heap.size awCells awS 1 h1 h2 h3 h4 h5
    rw [aw_bad.1, aw_bad.2] at h
    exact h)
  have HGet : Hid (∀ W, Blk W w.heap.size 26 awCells → Calls Tryz.prog 13 #[.slice (some ⟨w.heap.size, 0, none⟩) 2 2, .int .i64 38] W fun e w' => e = .returned (.tuple #[.agg #[.int .i64 38, .int .i64 0, .string ⟨#[97]⟩, .string ⟨#[98]⟩], .bool true]) ∧ Upd Non W w') := Lib.hid (fun W hW => by
    have h := pget_any (some ⟨w.heap.size, 0, none⟩) awL 2 2 rfl 38 W (aw_row hW)
    rw [aw_get] at h
    exact h)
  have HNum : Hid (∀ W, Blk W w.heap.size 26 awCells → Calls Tryz.prog 19 #[.slice (some ⟨w.heap.size, 0, none⟩) 2 2, .int .i64 2, .int .i64 5] W fun e w' => e = .returned (.int .i64 9) ∧ Upd Non W w') := Lib.hid (fun W hW => by
    have h := pnumber_any (some ⟨w.heap.size, 0, none⟩) awL 2 2 rfl 2 5 W (aw_row hW)
    rw [aw_number] at h
    exact h)
  have HTy : Hid (∀ W, Calls Tryz.prog 15 #[.int .i64 38] W fun e w' => e = .returned (.int .i64 9) ∧ W = w') := Lib.hid (fun W => by
    have h := ptype_any 38 W
    rw [aw_ty] at h
    exact h)
  have HWo : Hid (∀ W, Blk W w.heap.size 26 awCells → Calls Tryz.prog 22 #[.slice (some ⟨w.heap.size, 0, none⟩) 2 2, .int .i64 2] W fun e w' => (∃ A c, e = .returned (.slice A 1 c)) ∧ Upd Non W w') := Lib.hid (fun W hW => by
    refine (pwithout_any (some ⟨w.heap.size, 0, none⟩) awL 2 2 rfl (by decide) 2 W (aw_row hW)).mono ?_
    rintro e w' ⟨⟨A, m, c, rfl, hm, _⟩, hu⟩
    rw [aw_without] at hm
    subst hm
    exact ⟨⟨A, c, rfl⟩, hu⟩)
  go_enter Tryz.func12, Tryz.ntmps12
  go_wp2_with (first
    | (go_at_call 54
       refine HEnc.out.mono ?_
       rintro e w1 ⟨⟨ev, rfl, he⟩, hu⟩
       obtain rfl : ev = .nilIface := he
       have HB1 := Lib.hid (HB0.out.upd hu (fun h => h))
       have HU1 := Lib.hid (HU0.out.then hu)
       have HT1 := Lib.hid (HT.out.non HU1.out)
       clear hu)
    | (go_at_call 55
       have tok := HU3
       refine (rnew_any E _ w3 HT3.out.g (by decide)).mono ?_
       rintro e w4 ⟨g2, rfl, hr, hlo, hhi, hu⟩
       have HR4 := Lib.hid hr
       have HLo4 := Lib.hid hlo
       have HU4 := Lib.hid hu
       have HB4 := Lib.hid (HB3.out.upd hu (fun h => h))
       have HT4 := Lib.hid (HT3.out.non hu)
       clear hr hlo hhi hu tok)
    | (go_at_call 55
       refine (rnew_any E _ w1 HT1.out.g (by decide)).mono ?_
       rintro e w2 ⟨g1, rfl, hr, hlo, hhi, hu⟩
       have HR2 := Lib.hid hr
       have HLo2 := Lib.hid hlo
       have HU2 := Lib.hid (HU1.out.then hu)
       have HB2 := Lib.hid (HB1.out.upd hu (fun h => h))
       have HT2 := Lib.hid (HT1.out.non hu)
       clear hr hlo hhi hu)
    | (go_at_call 56
       refine (HRd2.out w3 w4 g2 HT4.out HB4.out HR4.out HU4.out HLo4.out).mono ?_
       rintro e w5 ⟨⟨A5, m5, c5, ev5, rfl, hm5, hr5, he5⟩, hk5⟩
       obtain ⟨k5, rfl⟩ := ErrIs.form he5.out
       have HB5 := Lib.hid hk5.out.2.1
       have HT5 := Lib.hid hk5.out.1
       have HU5 := Lib.hid hk5.out.2.2
       have HR5 := Lib.hid (HR3.out.updNon HU5.out))
    | (go_at_call 56
       refine (HRd.out w w2 g1 HT2.out HB2.out HR2.out HU2.out (Nat.le_trans HU1.out.size HLo2.out)).mono ?_
       rintro e w3 ⟨⟨A3, m3, c3, ev3, rfl, hm3, hr3, he3⟩, hk3⟩
       obtain rfl : ev3 = .nilIface := he3.out
       obtain rfl : m3 = 2 := hm3.out
       have HB3 := Lib.hid hk3.out.2.1
       have HT3 := Lib.hid hk3.out.1
       have HU3 := Lib.hid hk3.out.2.2
       have HR3 := Lib.hid hr3.out
       clear hr3 hk3 he3 hm3)
    | (go_at_call 13
       refine (HGet.out _ HB5.out).mono ?_
       rintro e w6 ⟨rfl, hu⟩
       have HU6 := Lib.hid (hu.alloc (.cells #[.int .i64 38, .int .i64 0, .string ⟨#[97]⟩, .string ⟨#[98]⟩] 26))
       have HP6 := Lib.hid (Blk.new w6 26 #[.int .i64 38, .int .i64 0, .string ⟨#[97]⟩, .string ⟨#[98]⟩])
       clear hu)
    | (go_at_call 21
       refine (psame_eq _ _ awL 2 _ _ rfl _ (HR5.out.updNon HU6.out) (aw_row (HB5.out.upd HU6.out (fun h => h)))).mono ?_
       rintro e w7 ⟨rfl, hu⟩
       have HU7 := Lib.hid (HU6.out.then hu)
       have HP7 := Lib.hid (HP6.out.upd hu (fun h => h))
       clear hu)
    | (go_at_call 57
       refine (number_any E _ _ _ (HT5.out.non HU7.out).g (he5.out.non HU7.out)).mono ?_
       rintro e w8 ⟨rfl, hu⟩
       have HU8 := Lib.hid (HU7.out.then hu)
       have HP8 := Lib.hid (HP7.out.upd hu (fun h => h))
       clear hu)
    | (go_at_call 58
       refine (at_any E _ _ _ (HT5.out.non HU8.out) (he5.out.non HU8.out)).mono ?_
       rintro e w9 ⟨rfl, hu⟩
       have HU9 := Lib.hid (HU8.out.then hu)
       have HP9 := Lib.hid (HP8.out.upd hu (fun h => h))
       clear hu)
    | (go_at_call 15; refine (HTy.out _).mono ?_; rintro e w' ⟨rfl, rfl⟩)
    | (go_at_call 19
       refine (HNum.out _ (HB5.out.upd HU9.out (fun h => h))).mono ?_
       rintro e w10 ⟨rfl, hu⟩
       have HU10 := Lib.hid (HU9.out.then hu)
       have q3 : w10.cell? ⟨w6.heap.size, 3, none⟩ = some (.string ⟨#[98]⟩) := (HP9.out.upd hu (fun h => h)).cell 3
       clear hu)
    | (go_at_call 22
       refine (HWo.out _ (HB5.out.upd HU10.out (fun h => h))).mono ?_
       rintro e w11 ⟨⟨A11, c11, rfl⟩, hu⟩
       have HU11 := Lib.hid (HU10.out.then hu)
       clear hu))
  go_ret
  exact ⟨rfl, (HU3.out.then HU5.out).then HU11.out⟩
end Go.Proofs.YtmmahkckemclaaaGreatDoor
