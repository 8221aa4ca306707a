/- PropIs, walked. Condition: the package variables hold what the program lays there. -/
import Derived.Test.YtmmahkckemclaaaGreatDoorPropH
namespace Go.Proofs.YtmmahkckemclaaaGreatDoor
open Go.RowKit

set_option maxRecDepth 100000 in
set_option maxHeartbeats 4000000 in
theorem propis_many (E : GE) (id place : Int) (A : Option Addr) (l : List Pr) (n c : Nat) (hn : l.length = n) (w : World) (hT : GlobT E w) (hr : PrRow w A l) (hf : pFew l = false) :
    Calls Tryz.prog 3 #[.int .i64 id, .int .i64 place, .slice A n c] w fun e w' => e = .returned (.bool true) ∧ Upd Non w w' := by
  have HF := Lib.hid (pfew_any A l n c hn w hr)
  rw [hf] at HF
  have HA := Lib.hid (awake06 E w hT)
  clear hr hT hn hf
  go_enter Tryz.func3, Tryz.ntmps3
  go_wp2_with (first
    | (go_at_call 11; refine HF.out.mono ?_; rintro e w' ⟨rfl, rfl⟩)
    | (go_at_call 12; refine HA.out.mono ?_; rintro e w1 ⟨rfl, hu⟩; have HU := Lib.hid hu; clear hu))
  go_ret
  exact ⟨rfl, HU.out⟩

set_option maxRecDepth 100000 in
set_option maxHeartbeats 8000000 in
theorem propis_few (E : GE) (id place : Int) (A : Option Addr) (l : List Pr) (n c : Nat) (hn : l.length = n) (w : World) (hT : GlobT E w) (hr : PrRow w A l) (hf : pFew l = true) :
    Calls Tryz.prog 3 #[.int .i64 id, .int .i64 place, .slice A n c] w fun e w' => e = .returned (.bool true) ∧ Upd Non w w' := by
  have HF := Lib.hid (pfew_any A l n c hn w hr)
  rw [hf] at HF
  have hm : n ≤ 1000000000 := by
    unfold pFew at hf
    rw [Bool.and_eq_true] at hf
    have := hf.1
    simp at this
    omega
  have HR : Hid (∀ W, Upd Non w W → PrRow W A l) := Lib.hid (fun W hW => hr.updNon hW)
  have HT : Hid (∀ W, Upd Non w W → GlobT E W) := Lib.hid (fun W hW => hT.non hW)
  have HG := Lib.hid (fun W (h : Upd Non w W) => pget_any A l n c hn id W (hr.updNon h))
  have HG2 := Lib.hid (fun W (h : Upd Non w W) => rget_any A l n c hn id W (hr.updNon h))
  have HN1 := Lib.hid (fun W (h : Upd Non w W) => pnumber_any A l n c hn id place W (hr.updNon h))
  have HN2 := Lib.hid (fun W (h : Upd Non w W) => rnumber_any A l n c hn id place W (hr.updNon h))
  have HW1 := Lib.hid (fun W (h : Upd Non w W) => pwithout_any A l n c hn hm id W (hr.updNon h))
  have HW2 := Lib.hid (fun W (h : Upd Non w W) => rwithout_any A l n c hn hm id W (hr.updNon h))
  have HT1 := Lib.hid (fun W => ptype_any id W)
  have HT2 := Lib.hid (fun W => rtype_any id W)
  have HA1 := Lib.hid (fun W => pallowed_any id place W)
  have HA2 := Lib.hid (fun W => rallowed_any id place W)
  generalize pTy id = ty at *
  generalize pOk id place = ok at *
  generalize pNumber l id place = num at *
  generalize pWithout l id = wo at *
  obtain ⟨q, hq⟩ : ∃ q, pGet l id = q := ⟨_, rfl⟩
  rw [hq] at HG HG2
  obtain ⟨⟨i1, n1, s1, v1⟩, b⟩ := q
  unfold GetPost at HG HG2
  unfold RowPost at HW1 HW2
  unfold OkPost at HA1 HA2
  clear hr hT hf hq hn
  go_enter Tryz.func3, Tryz.ntmps3
  go_wp2_with (first
    | (go_at_call 11; refine HF.out.mono ?_; rintro e w' ⟨rfl, rfl⟩)
    | (go_at_call 13
       refine (HG.out _ (Upd.refl _ _)).mono ?_
       rintro e w1 ⟨rfl, hu⟩
       have HU1 := Lib.hid (hu.alloc (.cells #[.int .i64 i1, .int .i64 n1, .string s1, .string v1] 26))
       have HP1 := Lib.hid (Blk.new w1 26 #[.int .i64 i1, .int .i64 n1, .string s1, .string v1])
       clear hu)
    | (go_at_call 14
       refine (HG2.out _ HU1.out).mono ?_
       rintro e w2 ⟨rfl, hu⟩
       have HU2 := Lib.hid (HU1.out.then (hu.alloc (.cells #[.int .i64 i1, .int .i64 n1, .string s1, .string v1] 26)))
       have HP2 := Lib.hid (HP1.out.upd (hu.alloc (.cells #[.int .i64 i1, .int .i64 n1, .string s1, .string v1] 26)) (fun h => h))
       have HQ2 := Lib.hid (Blk.new w2 26 #[.int .i64 i1, .int .i64 n1, .string s1, .string v1])
       clear hu)
    | (go_at_call 15; refine (HT1.out _).mono ?_; rintro e w' ⟨rfl, rfl⟩)
    | (go_at_call 16; refine (HT2.out _).mono ?_; rintro e w' ⟨rfl, rfl⟩)
    | (go_at_call 17
       refine (HA1.out _).mono ?_
       rintro e w3 ⟨rfl, hu⟩
       have HU3 := Lib.hid (HU2.out.then hu)
       have HP3 := Lib.hid (HP2.out.upd hu (fun h => h))
       have HQ3 := Lib.hid (HQ2.out.upd hu (fun h => h))
       clear hu)
    | (go_at_call 18
       refine (HA2.out _).mono ?_
       rintro e w4 ⟨rfl, hu⟩
       have HU4 := Lib.hid (HU3.out.then hu)
       obtain ⟨x0, x1, x2, x3⟩ := Blk.cells4 (HP3.out.upd hu (fun h => h))
       obtain ⟨y0, y1, y2, y3⟩ := Blk.cells4 (HQ3.out.upd hu (fun h => h))
       clear hu)
    | (go_at_call 19
       refine (HN1.out _ HU4.out).mono ?_
       rintro e w5 ⟨rfl, hu⟩
       have HU5 := Lib.hid (HU4.out.then hu)
       clear hu)
    | (go_at_call 20
       refine (HN2.out _ HU5.out).mono ?_
       rintro e w6 ⟨rfl, hu⟩
       have HU6 := Lib.hid (HU5.out.then hu)
       clear hu)
    | (go_at_call 22
       refine (HW1.out _ HU6.out).mono ?_
       rintro e w7 ⟨⟨A7, m7, c7, rfl, hm7, hr7⟩, hu⟩
       have HU7 := Lib.hid (HU6.out.then hu)
       have HM7 := Lib.hid hm7
       have HR7 := Lib.hid hr7
       clear hu hm7 hr7)
    | (go_at_call 23
       refine (HW2.out _ HU7.out).mono ?_
       rintro e w8 ⟨⟨A8, m8, c8, rfl, hm8, hr8⟩, hu⟩
       have HU8 := Lib.hid (HU7.out.then hu)
       have HR78 := Lib.hid (HR7.out.updNon hu)
       obtain rfl : m8 = m7 := hm8.trans HM7.out.symm
       have HR8 := Lib.hid hr8
       clear hu hm8 hr8)
    | (go_at_call 21
       refine (psame_eq A7 A8 wo m8 c7 c8 HM7.out.symm w8 HR78.out HR8.out).mono ?_
       rintro e w9 ⟨rfl, hu⟩
       have HU9 := Lib.hid (HU8.out.then hu)
       clear hu)
    | (go_at_call 12
       refine (awake06 E w9 (HT.out _ HU9.out)).mono ?_
       rintro e w10 ⟨rfl, hu⟩
       have HU10 := Lib.hid (HU9.out.then hu)
       clear hu))
  go_ret
  exact ⟨rfl, HU10.out⟩
theorem propis_any (E : GE) (id place : Int) (A : Option Addr) (l : List Pr) (n c : Nat) (hn : l.length = n) (w : World) (hT : GlobT E w) (hr : PrRow w A l) :
    Calls Tryz.prog 3 #[.int .i64 id, .int .i64 place, .slice A n c] w fun e w' => e = .returned (.bool true) ∧ Upd Non w w' := by
  cases hf : pFew l with
  | false => exact propis_many E id place A l n c hn w hT hr hf
  | true => exact propis_few E id place A l n c hn w hT hr hf
end Go.Proofs.YtmmahkckemclaaaGreatDoor
