/- varint.Take of any bytes. No condition. -/
import Derived.Test.YtmmahkckemclaaaGreatDoorVar8
namespace Go.Proofs.YtmmahkckemclaaaGreatDoor
open Go.RowKit

/-- What Take answers: the number, how many bytes it has, why there is none. -/
def vTake : List UInt8 → Int × Nat × Option Flt
  | [] => (0, 0, some ⟨1, 129, 0⟩)
  | c :: r =>
    if c.toNat < 128 then ((c.toNat : Int), 1, none) else
    match r with
    | [] => (0, 0, some ⟨1, 129, 1⟩)
    | d :: r =>
      if d.toNat = 0 then (0, 0, some ⟨2, 129, 1⟩) else if d.toNat < 128 then ((c.toNat : Int) - 128 + (d.toNat : Int) * 128, 2, none) else
      match r with
      | [] => (0, 0, some ⟨1, 129, 2⟩)
      | e :: r =>
        if e.toNat = 0 then (0, 0, some ⟨2, 129, 2⟩) else if e.toNat < 128 then ((c.toNat : Int) - 128 + ((d.toNat : Int) - 128) * 128 + (e.toNat : Int) * 16384, 3, none) else
        match r with
        | [] => (0, 0, some ⟨1, 129, 3⟩)
        | f :: _ =>
          if f.toNat = 0 then (0, 0, some ⟨2, 129, 3⟩) else if f.toNat < 128 then ((c.toNat : Int) - 128 + ((d.toNat : Int) - 128) * 128 + ((e.toNat : Int) - 128) * 16384 + (f.toNat : Int) * 2097152, 4, none) else (0, 0, some ⟨2, 129, 3⟩)

def TakePost (E : GE) (w : World) (r : Int × Nat × Option Flt) (e : Ending) (w' : World) : Prop := (∃ ev, e = .returned (.tuple #[.int .i64 r.1, .int .i64 r.2.1, ev]) ∧ ErrIs E w' ev r.2.2) ∧ Upd Non w w'
theorem TakePost.ok {E : GE} {w : World} {n : Int} {k : Nat} {e : Ending} {w' : World} (h : e = .returned (.tuple #[.int .i64 n, .int .i64 k, .nilIface]) ∧ w = w') : TakePost E w (n, k, none) e w' := by
  obtain ⟨rfl, rfl⟩ := h
  exact ⟨⟨_, rfl, rfl⟩, Upd.refl _ _⟩

theorem vtake_any (E : GE) (s : ByteArray) (w : World) (hG : Glob E w) : Calls Tryz.prog 163 #[.string s] w (TakePost E w (vTake s.data.toList)) := by
  obtain ⟨l, hl⟩ : ∃ l, s.data.toList = l := ⟨_, rfl⟩
  obtain rfl : s = str l := by rw [← hl, str_data]
  clear hl
  rw [str_toList]
  have hz := str_size l
  rcases l with _ | ⟨c, r⟩
  · exact take0_any E _ hz w hG
  have hc := c.toNat_lt
  have gc : ∀ h, (((str (c :: r))[0]'h).toNat : Int) = (c.toNat : Int) := fun _ => rfl
  by_cases h1 : c.toNat < 128
  · simp only [vTake]; rw [if_pos h1]
    exact (take1_any _ (by rw [hz]; simp) _ (gc _) (by omega) (by omega) w).mono fun _ _ h => .ok h
  rcases r with _ | ⟨d, r⟩
  · simp only [vTake]; rw [if_neg h1]
    exact tshort1 E _ hz _ (gc _) (by omega) (by omega) w hG
  have hd := d.toNat_lt
  have gd : ∀ h, (((str (c :: d :: r))[1]'h).toNat : Int) = (d.toNat : Int) := fun _ => rfl
  by_cases h2 : d.toNat = 0
  · simp only [vTake]; rw [if_neg h1, if_pos h2]
    exact tzero1 E _ (by rw [hz]; simp) _ (gc _) (by omega) (by omega) (by rw [gd]; omega) w hG
  by_cases h3 : d.toNat < 128
  · simp only [vTake]; rw [if_neg h1, if_neg h2, if_pos h3]
    exact (take2_any _ (by rw [hz]; simp) _ _ (gc _) (gd _) (by omega) (by omega) (by omega) (by omega) w).mono fun _ _ h => .ok h
  rcases r with _ | ⟨e, r⟩
  · simp only [vTake]; rw [if_neg h1, if_neg h2, if_neg h3]
    exact tshort2 E _ hz _ _ (gc _) (by omega) (by omega) (gd _) (by omega) (by omega) w hG
  have he := e.toNat_lt
  have ge : ∀ h, (((str (c :: d :: e :: r))[2]'h).toNat : Int) = (e.toNat : Int) := fun _ => rfl
  by_cases h4 : e.toNat = 0
  · simp only [vTake]; rw [if_neg h1, if_neg h2, if_neg h3, if_pos h4]
    exact tzero2 E _ (by rw [hz]; simp) _ _ (gc _) (by omega) (by omega) (gd _) (by omega) (by omega) (by rw [ge]; omega) w hG
  by_cases h5 : e.toNat < 128
  · simp only [vTake]; rw [if_neg h1, if_neg h2, if_neg h3, if_neg h4, if_pos h5]
    exact (take3_any _ (by rw [hz]; simp) _ _ _ (gc _) (gd _) (ge _) (by omega) (by omega) (by omega) (by omega) (by omega) (by omega) w).mono fun _ _ h => .ok h
  rcases r with _ | ⟨f, r⟩
  · simp only [vTake]; rw [if_neg h1, if_neg h2, if_neg h3, if_neg h4, if_neg h5]
    exact tshort3 E _ hz _ _ _ (gc _) (by omega) (by omega) (gd _) (by omega) (by omega) (ge _) (by omega) (by omega) w hG
  have hf := f.toNat_lt
  have gf : ∀ h, (((str (c :: d :: e :: f :: r))[3]'h).toNat : Int) = (f.toNat : Int) := fun _ => rfl
  by_cases h6 : f.toNat = 0
  · simp only [vTake]; rw [if_neg h1, if_neg h2, if_neg h3, if_neg h4, if_neg h5, if_pos h6]
    exact tzero3 E _ (by rw [hz]; simp) _ _ _ (gc _) (by omega) (by omega) (gd _) (by omega) (by omega) (ge _) (by omega) (by omega) (by rw [gf]; omega) w hG
  by_cases h7 : f.toNat < 128
  · simp only [vTake]; rw [if_neg h1, if_neg h2, if_neg h3, if_neg h4, if_neg h5, if_neg h6, if_pos h7]
    exact (take4_any _ (by rw [hz]; simp) _ _ _ _ (gc _) (gd _) (ge _) (gf _) (by omega) (by omega) (by omega) (by omega) (by omega) (by omega) (by omega) (by omega) w).mono fun _ _ h => .ok h
  · simp only [vTake]; rw [if_neg h1, if_neg h2, if_neg h3, if_neg h4, if_neg h5, if_neg h6, if_neg h7]
    exact tlong E _ (by rw [hz]; simp) _ _ _ _ (gc _) (by omega) (by omega) (gd _) (by omega) (by omega) (ge _) (by omega) (by omega) (gf _) (by omega) (by omega) w hG
end Go.Proofs.YtmmahkckemclaaaGreatDoor
