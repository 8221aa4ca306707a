/- awake: the named cases answer as they must. No condition. -/
import Derived.Test.YtmmahkckemclaaaDoorScr8
import Derived.Test.YtmmahkckemclaaaDoorScrP
import Derived.Test.YtmmahkckemclaaaDoorErr2
namespace Go.Proofs.YtmmahkckemclaaaDoor
open Go.RowKit

def awEv : Ev := ⟨2, 1, ⟨#[120]⟩, 0⟩
def awStr : ByteArray := (putS cfgUsual [awEv]).1
theorem aw_put : putS cfgUsual [awEv] = (awStr, none) := by
  have : (putS cfgUsual [awEv]).2 = none := by decide +kernel
  rw [← this]; rfl
theorem aw_size : awStr.size = 68 := by decide +kernel
theorem aw_take : takeS awStr = (cfgUsual, [awEv], none) := by
  have h := put_take cfgUsual [awEv] (by rw [aw_put])
  exact h
theorem aw_bad : takeS ⟨#[67, 82, 73, 69, 88]⟩ = (cfg0, [], some ⟨2, 129, 0⟩) := by
  have h1 : rHead ⟨#[67, 82, 73, 69, 88]⟩ ⟨0, none⟩ = (cfg0, 0, some ⟨2, 129, 0⟩, (rRaw ⟨#[67, 82, 73, 69, 88]⟩ ⟨0, none⟩ 5).2) := by
    unfold rHead
    rw [if_pos (by decide +kernel)]
    rfl
  unfold takeS
  rw [h1]
theorem aw_new (w1 : World) : Reads (w1.alloc (.cells #[.int .i64 2, .int .i64 1, .string ⟨#[120]⟩, .int .i64 0] 49)) 4 (some ⟨w1.heap.size, 0, none⟩) 1 (evs [awEv]) := by
  refine ⟨rfl, by decide, fun _ => ⟨_, rfl, by simp, ?_⟩⟩
  exact cell_four_new w1 _ _ _ _ _ rfl
theorem aw_put_call (E : GE) (S : ByteArray) (HP : Hid (putS cfgUsual [awEv] = (S, none))) (w w1 : World) (hG : Glob E w) (hu : Upd Non w w1) :
    Calls Tryd.prog 7 #[.agg #[.int .i64 8, .int .i64 1024, .int .i64 8, .int .i64 4, .int .i64 16, .int .i64 16, .int .i64 4096, .int .i64 65536, .int .i64 8, .int .i64 16, .int .i64 0, .int .i64 0, .int .i64 1000], .slice (some ⟨w1.heap.size, 0, none⟩) 1 1] (w1.alloc (.cells #[.int .i64 2, .int .i64 1, .string ⟨#[120]⟩, .int .i64 0] 49)) fun e w' => e = .returned (.tuple #[.string S, .nilIface]) ∧ Upd Non w w' := by
  have hu' : Upd Non w (w1.alloc (.cells #[.int .i64 2, .int .i64 1, .string ⟨#[120]⟩, .int .i64 0] 49)) := hu.alloc _
  have hP := put_any E cfgUsual (some ⟨w1.heap.size, 0, none⟩) [awEv] 1 (w1.alloc (.cells #[.int .i64 2, .int .i64 1, .string ⟨#[120]⟩, .int .i64 0] 49)) (hG.non hu') (aw_new w1) (by simp [evSize, awEv]; decide)
  rw [HP.out] at hP
  refine hP.mono ?_
  rintro e w2 ⟨⟨ev, rfl, he⟩, hu2⟩
  obtain rfl : ev = .nilIface := he
  exact ⟨rfl, hu'.trans hu2 (fun _ _ h => h)⟩
theorem aw_take_call (E : GE) (S : ByteArray) (hs : S.size ≤ 140737488355328) (HT : Hid (takeS S = (cfgUsual, [awEv], none))) (w w1 : World) (hG : Glob E w) (hu : Upd Non w w1) :
    Calls Tryd.prog 8 #[.string S] w1 fun e w' => (∃ ad c, e = .returned (.tuple #[.agg #[.int .i64 8, .int .i64 1024, .int .i64 8, .int .i64 4, .int .i64 16, .int .i64 16, .int .i64 4096, .int .i64 65536, .int .i64 8, .int .i64 16, .int .i64 0, .int .i64 0, .int .i64 1000], .slice (some ad) 1 c, .nilIface]) ∧ Reads w' 4 (some ad) 1 (evs [awEv])) ∧ Upd Non w w' := by
  have hT := take_any E S hs w1 (hG.non hu)
  rw [HT.out] at hT
  refine hT.mono ?_
  rintro e w3 ⟨⟨v, ev, rfl, ho, he⟩, hu3⟩
  obtain ⟨A, c, rfl⟩ := own_slice ho
  obtain rfl : ev = .nilIface := he
  have hr := Reads.of_own ho
  obtain ⟨ad, rfl, _⟩ := evs_at hr 0 (by decide)
  exact ⟨⟨ad, c, rfl, hr⟩, hu.trans hu3 (fun _ _ h => h)⟩
theorem aw_bad_call (E : GE) (w w1 : World) (hG : Glob E w) (hu : Upd Non w w1) :
    Calls Tryd.prog 8 #[.string ⟨#[67, 82, 73, 69, 88]⟩] w1 fun e w' => (∃ A c k, e = .returned (.tuple #[.agg #[.int .i64 0, .int .i64 0, .int .i64 0, .int .i64 0, .int .i64 0, .int .i64 0, .int .i64 0, .int .i64 0, .int .i64 0, .int .i64 0, .int .i64 0, .int .i64 0, .int .i64 0], .slice A 0 c, .iface 90 (.pointer (some ⟨k, 0, none⟩))]) ∧ Hid (ErrIs E w' (.iface 90 (.pointer (some ⟨k, 0, none⟩))) (some ⟨2, 129, 0⟩))) ∧ Hid (Upd Non w1 w') := by
  have hT := take_any E ⟨#[67, 82, 73, 69, 88]⟩ (by decide) w1 (hG.non hu)
  rw [aw_bad] at hT
  refine hT.mono ?_
  rintro e w3 ⟨⟨v, ev, rfl, ho, he⟩, hu3⟩
  obtain ⟨A, c, rfl⟩ := own_slice ho
  obtain ⟨k, rfl⟩ := ErrIs.form he
  exact ⟨⟨A, c, k, rfl, Lib.hid he⟩, Lib.hid hu3⟩

theorem hidT {w w1 w2 : World} (h : Hid (Upd Non w w1)) (h2 : Upd Non w1 w2) : Hid (Upd Non w w2) := Lib.hid (h.out.trans h2 (fun _ _ h => h))
set_option maxRecDepth 100000 in
set_option maxHeartbeats 4000000 in
theorem awake_any (E : GE) (w : World) (hG : Glob E w) : Calls Tryd.prog 6 #[] w fun e w' => e = .returned (.bool true) ∧ Upd Non w w' := by
  obtain ⟨S, hS⟩ : ∃ S, S = awStr := ⟨_, rfl⟩
  have hp := aw_put
  have ht := aw_take
  have hz := aw_size
  rw [← hS] at hp ht hz
  clear hS
  have hsz : S.size ≤ 140737488355328 := by omega
  have HP := Lib.hid hp
  have HT := Lib.hid ht
  clear hp ht
  go_enter Tryd.func6, Tryd.ntmps6
  go_wp2_with (first
    | (go_at_call 14
       refine (usual_any _).mono ?_
       rintro e w1 ⟨rfl, hu1⟩
       have HU1 := Lib.hid hu1
       clear hu1)
    | (go_at_call 7
       refine (aw_put_call E S HP w w1 hG HU1.out).mono ?_
       rintro e w2 ⟨rfl, hu2⟩
       have HU2 := Lib.hid hu2
       clear hu2)
    | (go_at_call 8
       have hu3' : Upd Non w (w3.alloc (.cells #[.int .i64 8, .int .i64 1024, .int .i64 8, .int .i64 4, .int .i64 16, .int .i64 16, .int .i64 4096, .int .i64 65536, .int .i64 8, .int .i64 16, .int .i64 0, .int .i64 0, .int .i64 1000] 23)) := HU3.out.alloc _
       refine (aw_bad_call E w (w3.alloc (.cells #[.int .i64 8, .int .i64 1024, .int .i64 8, .int .i64 4, .int .i64 16, .int .i64 16, .int .i64 4096, .int .i64 65536, .int .i64 8, .int .i64 16, .int .i64 0, .int .i64 0, .int .i64 1000] 23)) hG hu3').mono ?_
       rintro e w4 ⟨⟨A0, c0, k, rfl, HE4⟩, HU4⟩
       have hb4 := Blk.upd (S := Non) (Blk.new w3 23 #[.int .i64 8, .int .i64 1024, .int .i64 8, .int .i64 4, .int .i64 16, .int .i64 16, .int .i64 4096, .int .i64 65536, .int .i64 8, .int .i64 16, .int .i64 0, .int .i64 0, .int .i64 1000]) HU4.out (fun h => h)
       have HB4 := Lib.hid hb4
       clear hb4 hu3')
    | (go_at_call 8
       refine (aw_take_call E S hsz HT w w2 hG HU2.out).mono ?_
       rintro e w3 ⟨⟨ad, c, rfl, hr⟩, hu3⟩
       have HR3 := Lib.hid hr
       have HU3 := Lib.hid hu3
       clear hr hu3))
  have hU40 : Upd Non w4 ((w4.alloc (.cells #[.int .i64 0, .int .i64 0, .int .i64 0, .int .i64 0, .int .i64 0, .int .i64 0, .int .i64 0, .int .i64 0, .int .i64 0, .int .i64 0, .int .i64 0, .int .i64 0, .int .i64 0] 23)).drew) := ((Upd.refl _ _).alloc _).drew
  have hb5 := Blk.upd (S := Non) HB4.out hU40 (fun h => h)
  have hr5 := ((HR3.out.updNon ((Upd.refl _ w3).alloc _)).updNon HU4.out).updNon hU40
  obtain ⟨ad', hA, hab, x0, x1, x2, x3⟩ := evs_at hr5 0 (by decide)
  cases hA
  obtain ⟨z0, z1, z2, z3, z4, z5, z6, z7, z8, z9, z10, z11, z12⟩ := hb5.cells13
  have hlz := hb5.lt
  have hU5 : Upd Non w ((w4.alloc (.cells #[.int .i64 0, .int .i64 0, .int .i64 0, .int .i64 0, .int .i64 0, .int .i64 0, .int .i64 0, .int .i64 0, .int .i64 0, .int .i64 0, .int .i64 0, .int .i64 0, .int .i64 0] 23)).drew) := ((HU3.out.alloc _).trans HU4.out (fun _ _ h => h)).trans hU40 (fun _ _ h => h)
  have hE5 := HE4.out.non hU40
  have x2' : ((w4.alloc (.cells #[.int .i64 0, .int .i64 0, .int .i64 0, .int .i64 0, .int .i64 0, .int .i64 0, .int .i64 0, .int .i64 0, .int .i64 0, .int .i64 0, .int .i64 0, .int .i64 0, .int .i64 0] 23)).drew).cell? ⟨ad.block, ad.off + 2, none⟩ = some (.string ⟨#[120]⟩) := x2
  clear HB4 hb5 x2 hr5 x0 x1 x3
  have HU5 := Lib.hid hU5
  have HE5 := Lib.hid hE5
  have HUr : Hid (Upd Non ((w4.alloc (.cells #[.int .i64 0, .int .i64 0, .int .i64 0, .int .i64 0, .int .i64 0, .int .i64 0, .int .i64 0, .int .i64 0, .int .i64 0, .int .i64 0, .int .i64 0, .int .i64 0, .int .i64 0] 23)).drew) ((w4.alloc (.cells #[.int .i64 0, .int .i64 0, .int .i64 0, .int .i64 0, .int .i64 0, .int .i64 0, .int .i64 0, .int .i64 0, .int .i64 0, .int .i64 0, .int .i64 0, .int .i64 0, .int .i64 0] 23)).drew)) := Lib.hid (Upd.refl _ _)
  clear hU5 hE5 hU40
  go_region_held3 (fun w' => Hid (Upd Non ((w4.alloc (.cells #[.int .i64 0, .int .i64 0, .int .i64 0, .int .i64 0, .int .i64 0, .int .i64 0, .int .i64 0, .int .i64 0, .int .i64 0, .int .i64 0, .int .i64 0, .int .i64 0, .int .i64 0] 23)).drew) w') ∧ w'.cell? ⟨w3.heap.size, 0, none⟩ = some (.int .i64 8) ∧ w'.cell? ⟨w3.heap.size, 1, none⟩ = some (.int .i64 1024) ∧ w'.cell? ⟨w3.heap.size, 2, none⟩ = some (.int .i64 8) ∧ w'.cell? ⟨w3.heap.size, 3, none⟩ = some (.int .i64 4) ∧ w'.cell? ⟨w3.heap.size, 4, none⟩ = some (.int .i64 16) ∧ w'.cell? ⟨w3.heap.size, 5, none⟩ = some (.int .i64 16) ∧ w'.cell? ⟨w3.heap.size, 6, none⟩ = some (.int .i64 4096) ∧ w'.cell? ⟨w3.heap.size, 7, none⟩ = some (.int .i64 65536) ∧ w'.cell? ⟨w3.heap.size, 8, none⟩ = some (.int .i64 8) ∧ w'.cell? ⟨w3.heap.size, 9, none⟩ = some (.int .i64 16) ∧ w'.cell? ⟨w3.heap.size, 10, none⟩ = some (.int .i64 0) ∧ w'.cell? ⟨w3.heap.size, 11, none⟩ = some (.int .i64 0) ∧ w'.cell? ⟨w3.heap.size, 12, none⟩ = some (.int .i64 1000) ∧ w'.cell? ⟨ad.block, ad.off + 2, none⟩ = some (.string ⟨#[120]⟩)) (exact ⟨by assumption, by assumption, by assumption, by assumption, by assumption, by assumption, by assumption, by assumption, by assumption, by assumption, by assumption, by assumption, by assumption, by assumption, by assumption⟩)
    (first
     | (go_at_call 14
        refine (usual_any _).mono ?_
        rintro e w6 ⟨rfl, hu6⟩
        have HUn := hidT (w := ((w4.alloc (.cells #[.int .i64 0, .int .i64 0, .int .i64 0, .int .i64 0, .int .i64 0, .int .i64 0, .int .i64 0, .int .i64 0, .int .i64 0, .int .i64 0, .int .i64 0, .int .i64 0, .int .i64 0] 23)).drew)) (by assumption) hu6
        have q0 := (HUn.out.cell (p := ⟨w3.heap.size, 0, none⟩) hlz id).trans z0
        have q1 := (HUn.out.cell (p := ⟨w3.heap.size, 1, none⟩) hlz id).trans z1
        have q2 := (HUn.out.cell (p := ⟨w3.heap.size, 2, none⟩) hlz id).trans z2
        have q3 := (HUn.out.cell (p := ⟨w3.heap.size, 3, none⟩) hlz id).trans z3
        have q4 := (HUn.out.cell (p := ⟨w3.heap.size, 4, none⟩) hlz id).trans z4
        have q5 := (HUn.out.cell (p := ⟨w3.heap.size, 5, none⟩) hlz id).trans z5
        have q6 := (HUn.out.cell (p := ⟨w3.heap.size, 6, none⟩) hlz id).trans z6
        have q7 := (HUn.out.cell (p := ⟨w3.heap.size, 7, none⟩) hlz id).trans z7
        have q8 := (HUn.out.cell (p := ⟨w3.heap.size, 8, none⟩) hlz id).trans z8
        have q9 := (HUn.out.cell (p := ⟨w3.heap.size, 9, none⟩) hlz id).trans z9
        have q10 := (HUn.out.cell (p := ⟨w3.heap.size, 10, none⟩) hlz id).trans z10
        have q11 := (HUn.out.cell (p := ⟨w3.heap.size, 11, none⟩) hlz id).trans z11
        have q12 := (HUn.out.cell (p := ⟨w3.heap.size, 12, none⟩) hlz id).trans z12
        have q13 := (HUn.out.cell (p := ⟨ad.block, ad.off + 2, none⟩) hab id).trans x2'
        clear hu6)
     | (go_at_call 15
        have HUc := hidT (w := ((w4.alloc (.cells #[.int .i64 0, .int .i64 0, .int .i64 0, .int .i64 0, .int .i64 0, .int .i64 0, .int .i64 0, .int .i64 0, .int .i64 0, .int .i64 0, .int .i64 0, .int .i64 0, .int .i64 0] 23)).drew)) (w1 := w6) HUn (Upd.refl _ _)
        have HEn := HE5.out.non HUc.out
        have HGn := hG.non (HU5.out.trans HUc.out (fun _ _ h => h))
        refine (number_any E _ _ w6 HGn HEn).mono ?_
        rintro e w7 ⟨rfl, hu7⟩
        have HUm := hidT (w := ((w4.alloc (.cells #[.int .i64 0, .int .i64 0, .int .i64 0, .int .i64 0, .int .i64 0, .int .i64 0, .int .i64 0, .int .i64 0, .int .i64 0, .int .i64 0, .int .i64 0, .int .i64 0, .int .i64 0] 23)).drew)) HUc hu7
        clear HEn HGn
        have r0 := (HUm.out.cell (p := ⟨w3.heap.size, 0, none⟩) hlz id).trans z0
        have r1 := (HUm.out.cell (p := ⟨w3.heap.size, 1, none⟩) hlz id).trans z1
        have r2 := (HUm.out.cell (p := ⟨w3.heap.size, 2, none⟩) hlz id).trans z2
        have r3 := (HUm.out.cell (p := ⟨w3.heap.size, 3, none⟩) hlz id).trans z3
        have r4 := (HUm.out.cell (p := ⟨w3.heap.size, 4, none⟩) hlz id).trans z4
        have r5 := (HUm.out.cell (p := ⟨w3.heap.size, 5, none⟩) hlz id).trans z5
        have r6 := (HUm.out.cell (p := ⟨w3.heap.size, 6, none⟩) hlz id).trans z6
        have r7 := (HUm.out.cell (p := ⟨w3.heap.size, 7, none⟩) hlz id).trans z7
        have r8 := (HUm.out.cell (p := ⟨w3.heap.size, 8, none⟩) hlz id).trans z8
        have r9 := (HUm.out.cell (p := ⟨w3.heap.size, 9, none⟩) hlz id).trans z9
        have r10 := (HUm.out.cell (p := ⟨w3.heap.size, 10, none⟩) hlz id).trans z10
        have r11 := (HUm.out.cell (p := ⟨w3.heap.size, 11, none⟩) hlz id).trans z11
        have r12 := (HUm.out.cell (p := ⟨w3.heap.size, 12, none⟩) hlz id).trans z12
        have r13 := (HUm.out.cell (p := ⟨ad.block, ad.off + 2, none⟩) hab id).trans x2'
        clear hu7))
  go_wp2
  go_ret
  exact ⟨rfl, HU5.out.trans HUm.out (fun _ _ h => h)⟩
end Go.Proofs.YtmmahkckemclaaaDoor
