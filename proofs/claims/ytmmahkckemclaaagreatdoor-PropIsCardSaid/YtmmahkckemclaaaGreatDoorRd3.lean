/- The reader of fields, more: numbers, Bin. Conditions: fewer than 2^47 bytes. -/
import Derived.Test.YtmmahkckemclaaaGreatDoorRd2
namespace Go.Proofs.YtmmahkckemclaaaGreatDoor
open Go.RowKit Go.Extern.Stop Go.Stop Go.Extern

theorem raw_any (E : GE) (g : Nat) (s : ByteArray) (st : RSt) (n : Int) (w : World) (hG : Glob E w) (hR : Rd E w g s st) :
    Calls Tryz.prog 114 #[.pointer (some ⟨g, 0, none⟩), .int .i64 n] w fun e w' => e = .returned (.string (rRaw s st n).1) ∧ Rd E w' g s (rRaw s st n).2 ∧ Tch g RT w w' := by
  obtain ⟨a, f⟩ := st
  cases f with
  | some f =>
    refine (raw_off E g s a f n w hR).mono ?_
    rintro e w' ⟨rfl, rfl⟩
    exact ⟨rfl, hR, Upd.refl _ _⟩
  | none =>
    by_cases h0 : n < 0
    · have e1 : rRaw s ⟨a, none⟩ n = (⟨#[]⟩, ⟨a, some ⟨4, 129, a⟩⟩) := by simp only [rRaw]; rw [if_pos h0]
      rw [e1]
      exact raw_neg E g s a n w hG hR h0
    · by_cases h1 : (s.size : Int) - a < n
      · have e1 : rRaw s ⟨a, none⟩ n = (⟨#[]⟩, ⟨a, some ⟨1, 129, s.size⟩⟩) := by simp only [rRaw]; rw [if_neg h0, if_pos h1]
        rw [e1]
        exact raw_short E g s a n w hG hR (by omega) h1
      · have e1 : rRaw s ⟨a, none⟩ n = (s.extract a (a + n.toNat), ⟨a + n.toNat, none⟩) := by simp only [rRaw]; rw [if_neg h0, if_neg h1]
        rw [e1]
        obtain ⟨m, rfl⟩ := Int.eq_ofNat_of_zero_le (show 0 ≤ n by omega)
        rw [Int.toNat_natCast]
        exact raw_ok E g s a m w hR (by have : a ≤ s.size := hR.2.1; omega)

/-- The number that bytes are. -/
def beVal (bs : List UInt8) : Int := bs.foldl (fun n c => n * 256 + (c.toNat : Int)) 0
theorem beVal_snoc (bs : List UInt8) (c : UInt8) : beVal (bs ++ [c]) = beVal bs * 256 + (c.toNat : Int) := by simp [beVal]
theorem beVal_foldl : ∀ (bs : List UInt8) (m : Nat) (a : Int), 0 ≤ a → a < 256 ^ m → 0 ≤ bs.foldl (fun n c => n * 256 + (c.toNat : Int)) a ∧ bs.foldl (fun n c => n * 256 + (c.toNat : Int)) a < 256 ^ (m + bs.length)
  | [], m, a, h0, h1 => ⟨h0, h1⟩
  | c :: bs, m, a, h0, h1 => by
    have hc := c.toNat_lt
    have hp : (256 : Int) ^ (m + 1) = 256 ^ m * 256 := Int.pow_succ ..
    have := beVal_foldl bs (m + 1) (a * 256 + (c.toNat : Int)) (by omega) (by omega)
    simpa [List.foldl_cons, Nat.add_assoc, Nat.add_comm 1] using this
theorem beVal_range (bs : List UInt8) : 0 ≤ beVal bs ∧ beVal bs < 256 ^ bs.length := by
  have := beVal_foldl bs 0 0 (by omega) (by simp)
  rw [Nat.zero_add] at this
  exact this
theorem beVal_lt (bs : List UInt8) (h : bs.length ≤ 3) : beVal bs < 16777216 := by
  have h1 := (beVal_range bs).2
  have h2 : bs.length = 0 ∨ bs.length = 1 ∨ bs.length = 2 ∨ bs.length = 3 := by omega
  rcases h2 with h2 | h2 | h2 | h2 <;> rw [h2] at h1 <;> simp at h1 <;> omega
/-- What number answers, and does to a reader. -/
def rNum (many : Nat) (s : ByteArray) (st : RSt) : Int × RSt := (beVal (rRaw s st many).1.data.toList, (rRaw s st many).2)

theorem rRaw_len (s : ByteArray) (st : RSt) (n : Nat) : (rRaw s st n).1.size ≤ n := by
  unfold rRaw
  split
  · simp [ByteArray.size]
  · split
    · simp [ByteArray.size]
    · split
      · simp [ByteArray.size]
      · simp [ByteArray.size_extract]; omega

theorem Upd.bytesWorld (w : World) (e : TypeId) (s : ByteArray) : Upd Non w (Lib.bytesWorld w e s) :=
  ⟨rfl, rfl, rfl, by rw [Lib.bytesWorld_size]; omega, fun i hi _ => Lib.bytesWorld_at_old w e s i hi⟩

set_option maxRecDepth 100000 in
set_option maxHeartbeats 1000000 in
theorem num_any (E : GE) (g : Nat) (s : ByteArray) (st : RSt) (many : Nat) (hm : many ≤ 4) (w : World) (hG : Glob E w) (hR : Rd E w g s st) :
    Calls Tryz.prog 142 #[.pointer (some ⟨g, 0, none⟩), .int .i64 many] w fun e w' => e = .returned (.int .i64 (rNum many s st).1) ∧ Rd E w' g s (rNum many s st).2 ∧ Tch g RT w w' := by
  have hl := rRaw_len s st many
  have hcv := fun (W : World) (x : ByteArray) => Lib.run_convert_string_bytes (P := Tryz.prog) W 9 88 5 x Tryz.underlying9 Tryz.underlying88 Tryz.underlying5
  have hC := raw_any E g s st (many : Int) w hG hR
  unfold rNum
  generalize rRaw s st (many : Int) = q at *
  obtain ⟨x, st'⟩ := q
  simp only at hl hC ⊢
  have HC := Lib.hid hC
  clear hC
  go_enter Tryz.func142, Tryz.ntmps142
  go_wp2_with (go_at_call 114; refine HC.out.mono ?_; rintro e w1 ⟨rfl, hR1, hT1⟩)
  have hU := Upd.bytesWorld w1 5 x
  have hcell := fun j hj => Lib.bytesWorld_cell w1 5 x j hj
  have hR2 := hR1.non hU
  have hT2 := hT1.trans (Tch.of_non hU)
  generalize Lib.bytesWorld w1 5 x = w2 at *
  clear hcv
  go_loop [5, 13] (fun n i => ∃ k : Nat, k ≤ x.size ∧ i = .int .i64 k ∧ n = .int .i64 (beVal (x.data.toList.take k))) (fun _ i => x.size - (intOf i).toNat)
  case atStart => exact ⟨0, by omega, rfl, rfl⟩
  case round =>
    obtain ⟨k, hk, rfl, rfl⟩ := hrel
    obtain ⟨b0, b1⟩ := beVal_range (x.data.toList.take k)
    by_cases hlt : k < x.size
    · have hc := hcell k hlt
      clear hcell HC
      have b2 : Hid (beVal (x.data.toList.take k) < 16777216) := Lib.hid (beVal_lt _ (by simp; omega))
      obtain ⟨c, hcd⟩ : ∃ c, c = x.data.toList.getD k 0 := ⟨_, rfl⟩
      rw [← hcd] at hc
      have HCD := Lib.hid hcd
      clear hcd
      go_wp2_with fail
      go_round
      case rel =>
        have e1 : x.data.toList.take (k + 1) = x.data.toList.take k ++ [x.data.toList.getD k 0] := by
          have hk' : k < x.data.toList.length := by simpa using hlt
          rw [List.take_succ_eq_append_getElem hk', List.getD_eq_getElem?_getD, List.getElem?_eq_getElem hk']
          rfl
        refine ⟨k + 1, by omega, by go_num, ?_⟩
        rw [e1, beVal_snoc, or8_i64 _ _ b0 (by have := b2.out; omega) (by omega) (by have := c.toNat_lt; omega), HCD.out]
      case measure => simp [intOf]; omega
    · go_wp2_with fail
      go_ret
      have e1 : x.data.toList.take k = x.data.toList := List.take_of_length_le (by simpa using hlt)
      exact ⟨by rw [e1]; rfl, hR2, hT2⟩

theorem rU8 (E : GE) (g : Nat) (s : ByteArray) (st : RSt) (w : World) (hG : Glob E w) (hR : Rd E w g s st) :
    Calls Tryz.prog 144 #[.pointer (some ⟨g, 0, none⟩)] w fun e w' => e = .returned (.int .i64 (rNum 1 s st).1) ∧ Rd E w' g s (rNum 1 s st).2 ∧ Tch g RT w w' := by
  go_enter Tryz.func144, Tryz.ntmps144
  go_wp2_with (go_at_call 142; refine (num_any E g s st 1 (by decide) _ hG hR).mono ?_; rintro e w1 ⟨rfl, hR1, hT1⟩)
  go_ret
  exact ⟨rfl, hR1, hT1⟩
theorem rU16 (E : GE) (g : Nat) (s : ByteArray) (st : RSt) (w : World) (hG : Glob E w) (hR : Rd E w g s st) :
    Calls Tryz.prog 79 #[.pointer (some ⟨g, 0, none⟩)] w fun e w' => e = .returned (.int .i64 (rNum 2 s st).1) ∧ Rd E w' g s (rNum 2 s st).2 ∧ Tch g RT w w' := by
  go_enter Tryz.func79, Tryz.ntmps79
  go_wp2_with (go_at_call 142; refine (num_any E g s st 2 (by decide) _ hG hR).mono ?_; rintro e w1 ⟨rfl, hR1, hT1⟩)
  go_ret
  exact ⟨rfl, hR1, hT1⟩
theorem rU32 (E : GE) (g : Nat) (s : ByteArray) (st : RSt) (w : World) (hG : Glob E w) (hR : Rd E w g s st) :
    Calls Tryz.prog 149 #[.pointer (some ⟨g, 0, none⟩)] w fun e w' => e = .returned (.int .i64 (rNum 4 s st).1) ∧ Rd E w' g s (rNum 4 s st).2 ∧ Tch g RT w w' := by
  go_enter Tryz.func149, Tryz.ntmps149
  go_wp2_with (go_at_call 142; refine (num_any E g s st 4 (by decide) _ hG hR).mono ?_; rintro e w1 ⟨rfl, hR1, hT1⟩)
  go_ret
  exact ⟨rfl, hR1, hT1⟩

/-- Back to a place, if there is an error. -/
def rBack (st : RSt) (a : Nat) : RSt := match st.f with
  | some f => ⟨a, some f⟩
  | none => st
theorem back_any (E : GE) (g : Nat) (s : ByteArray) (st : RSt) (a : Nat) (ha : a ≤ s.size) (w : World) (hR : Rd E w g s st) :
    Calls Tryz.prog 141 #[.pointer (some ⟨g, 0, none⟩), .int .i64 a] w fun e w' => e = .returned (.tuple #[]) ∧ Rd E w' g s (rBack st a) ∧ Tch g RT w w' := by
  obtain ⟨p, f⟩ := st
  obtain ⟨hE, hl, hs, e, hb, he⟩ := id hR
  cases f with
  | some f =>
    obtain ⟨k, rfl⟩ := ErrIs.form he
    have hc0 : w.cell? ⟨g, 1, none⟩ = some (.int .i64 p) := hb.cell 1
    have hc : w.cell? ⟨g, 2, none⟩ = some (.iface 145 (.pointer (some ⟨k, 0, none⟩))) := hb.cell 2
    have hf := hb.frozen
    go_enter Tryz.func141, Tryz.ntmps141
    go_wp2
    go_end0
    have hT : Tch g RT w (w.setCell ⟨g, 1, none⟩ (.int .i64 a)) := Tch.set (Upd.refl _ _) hb (by simp) (Nat.le_refl _) 1 _
    exact ⟨rfl, ⟨hE, ha, hs, _, hb.set_ 1 _, he.rd hT (by simp)⟩, hT⟩
  | none =>
    obtain rfl : e = .nilIface := he
    have hc : w.cell? ⟨g, 2, none⟩ = some .nilIface := hb.cell 2
    go_enter Tryz.func141, Tryz.ntmps141
    go_wp2
    go_end0
    exact ⟨rfl, hR, Upd.refl _ _⟩

/-- What Bin answers, and does to a reader. -/
def rBin (s : ByteArray) (st : RSt) : ByteArray × RSt :=
  let p := rNum 2 s st
  let q := rRaw s p.2 p.1
  (q.1, rBack q.2 st.at_)
theorem rbin_any (E : GE) (g : Nat) (s : ByteArray) (st : RSt) (w : World) (hG : Glob E w) (hR : Rd E w g s st) :
    Calls Tryz.prog 139 #[.pointer (some ⟨g, 0, none⟩)] w fun e w' => e = .returned (.string (rBin s st).1) ∧ Rd E w' g s (rBin s st).2 ∧ Tch g RT w w' := by
  unfold rBin
  go_enter Tryz.func139, Tryz.ntmps139
  go_wp2_with (first
    | (go_at_call 78; refine (rAt_any E g s st _ hR).mono ?_; rintro e w0 ⟨rfl, rfl⟩)
    | (go_at_call 79; refine (rU16 E g s st _ hG hR).mono ?_; rintro e w1 ⟨rfl, hR1, hT1⟩)
    | (go_at_call 114; refine (raw_any E g s _ _ _ (hG.rd hT1 hR.1) hR1).mono ?_; rintro e w2 ⟨rfl, hR2, hT2⟩)
    | (go_at_call 141; refine (back_any E g s _ st.at_ hR.2.1 _ hR2).mono ?_; rintro e w3 ⟨rfl, hR3, hT3⟩))
  go_ret
  exact ⟨rfl, hR3, (hT1.trans hT2).trans hT3⟩

/-- The first error; also that bytes are left. -/
def rDone (s : ByteArray) (st : RSt) : Option Flt := match st.f with
  | some f => some f
  | none => if st.at_ < s.size then some ⟨2, 129, st.at_⟩ else none
set_option maxHeartbeats 1000000 in
theorem rDone_any (E : GE) (g : Nat) (s : ByteArray) (st : RSt) (w : World) (hG : Glob E w) (hR : Rd E w g s st) :
    Calls Tryz.prog 145 #[.pointer (some ⟨g, 0, none⟩)] w fun e w' => (∃ ev, e = .returned ev ∧ ErrIs E w' ev (rDone s st)) ∧ Upd Non w w' := by
  obtain ⟨a, f⟩ := st
  cases f with
  | some f =>
    go_enter Tryz.func145, Tryz.ntmps145
    go_wp2_with (go_at_call 80; refine (rErr_any E g s ⟨a, some f⟩ _ hR).mono ?_; rintro e w0 ⟨⟨ev, rfl, hev⟩, rfl⟩; obtain ⟨k, rfl⟩ := ErrIs.form hev)
    go_ret
    exact ⟨⟨_, rfl, by assumption⟩, Upd.refl _ _⟩
  | none =>
    have ha : a ≤ s.size := hR.2.1
    have hs := hR.2.2.1
    by_cases hlt : a < s.size
    · have hd : decide ((0 : Int) < s.size - a) = true := by simp; omega
      have e1 : rDone s ⟨a, none⟩ = some ⟨2, 129, a⟩ := by simp [rDone, hlt]
      rw [e1]
      clear e1
      go_enter Tryz.func145, Tryz.ntmps145
      go_wp2_with (first
        | (go_at_call 80; refine (rErr_any E g s ⟨a, none⟩ _ hR).mono ?_; rintro e w0 ⟨⟨ev, rfl, hev⟩, rfl⟩; obtain rfl : ev = .nilIface := hev)
        | (go_at_call 116; refine (rLeft_any E g s ⟨a, none⟩ _ hR).mono ?_; rintro e w0 ⟨rfl, nq, rfl⟩))
      have hR' := hR.drewN nq
      have hG' := hG.drewN nq
      have hU : Upd Non w (w.drewN nq) := (Upd.refl _ _).drewN nq
      clear hR hG
      generalize w.drewN nq = wq at *
      obtain ⟨hE, _, _, ev, hb, he⟩ := hR'
      have hc1 : wq.cell? ⟨g, 1, none⟩ = some (.int .i64 a) := hb.cell 1
      have hl0 : 0 < wq.heap.size := Nat.lt_of_lt_of_le (hG'.lt 2) hG'.size
      have hlt' := hb.lt
      have g4 := hG'.at_ 2 (by decide) (by decide)
      simp only [gix, GE.kd] at g4
      go_region_held3 (fun w' => w'.cell? ⟨g, 1, none⟩ = some (.int .i64 a) ∧ w'.cell? ⟨0, 0, none⟩ = some (.iface 225 (.pointer (some (E.a 2))))) (simp [go_sem, World.cell?_alloc_lt, *])
       (first
        | (go_at_call 66; refine (new_any _ _ _ _ _).mono ?_; rintro e w1 ⟨rfl, rfl⟩))
      go_wp2
      go_ret
      exact ⟨⟨_, rfl, ErrIs.drew (ErrIs.new (E := E) wq 2 129 a (by decide) (by decide))⟩, (hU.alloc _).drew⟩
    · have hd : decide ((0 : Int) < s.size - a) = false := by simp; omega
      have e1 : rDone s ⟨a, none⟩ = none := by simp [rDone, hlt]
      rw [e1]
      clear e1
      go_enter Tryz.func145, Tryz.ntmps145
      go_wp2_with (first
        | (go_at_call 80; refine (rErr_any E g s ⟨a, none⟩ _ ?_).mono ?_; (first | exact hR | exact hR.drewN _); rintro e w0 ⟨⟨ev, rfl, hev⟩, rfl⟩; obtain rfl : ev = .nilIface := hev)
        | (go_at_call 116; refine (rLeft_any E g s ⟨a, none⟩ _ hR).mono ?_; rintro e w0 ⟨rfl, nq, rfl⟩))
      go_ret
      exact ⟨⟨_, rfl, rfl⟩, (Upd.refl _ _).drewN _⟩
end Go.Proofs.YtmmahkckemclaaaGreatDoor
