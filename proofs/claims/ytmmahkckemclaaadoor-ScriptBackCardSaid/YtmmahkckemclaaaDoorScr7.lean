/- Scripts, more: FewEvents, Same at equal events, Usual. No condition of their own. -/
import Derived.Test.YtmmahkckemclaaaDoorScr6
namespace Go.Proofs.YtmmahkckemclaaaDoor
open Go.RowKit Go.Extern.Stop Go.Stop Go.Extern

def cfgUsual : Cfg := ⟨8, 1024, 8, 4, 16, 16, 4096, 65536, 8, 16, 0, 0, 1000⟩
set_option maxHeartbeats 1000000 in
theorem usual_any (w : World) : Calls Tryd.prog 14 #[] w fun e w' => e = .returned (.agg #[.int .i64 8, .int .i64 1024, .int .i64 8, .int .i64 4, .int .i64 16, .int .i64 16, .int .i64 4096, .int .i64 65536, .int .i64 8, .int .i64 16, .int .i64 0, .int .i64 0, .int .i64 1000]) ∧ Upd Non w w' := by
  go_enter Tryd.func14, Tryd.ntmps14
  go_wp2
  refine bodyPost_ret (v := .agg #[.int .i64 8, .int .i64 1024, .int .i64 8, .int .i64 4, .int .i64 16, .int .i64 16, .int .i64 4096, .int .i64 65536, .int .i64 8, .int .i64 16, .int .i64 0, .int .i64 0, .int .i64 1000]) (by simp [results, Tryd.results14, go_sem]) rfl ⟨rfl, (Upd.refl _ _).alloc _⟩

/-- Few events, of few bytes? -/
def fewEv (l : List Ev) : Bool := decide (l.length ≤ 40) && l.all fun e => decide (e.bytes.size ≤ 512)
theorem few_no (l : List Ev) (i : Nat) (hi : i < l.length) (h : 512 < (l[i]'hi).bytes.size) : fewEv l = false := by
  have : (l.all fun e => decide (e.bytes.size ≤ 512)) = false := by
    rw [List.all_eq_false]
    exact ⟨l[i]'hi, List.getElem_mem hi, by simp; omega⟩
  simp [fewEv, this]
theorem few_yes (l : List Ev) (h : ∀ (j : Nat) (hj : j < l.length), (l[j]'hj).bytes.size ≤ 512) : fewEv l = decide (l.length ≤ 40) := by
  have : (l.all fun e => decide (e.bytes.size ≤ 512)) = true := by
    rw [List.all_eq_true]
    intro e he
    obtain ⟨j, hj, rfl⟩ := List.getElem_of_mem he
    simpa using h j hj
  simp [fewEv, this]
theorem few_long (l : List Ev) (h : 40 < l.length) : fewEv l = false := by
  have : decide (l.length ≤ 40) = false := by simp; omega
  simp [fewEv, this]

set_option maxHeartbeats 2000000 in
theorem few_any (A : Option Addr) (l : List Ev) (cp : Nat) (w : World) (hr : Reads w 4 A l.length (evs l)) :
    Calls Tryd.prog 5 #[.slice A l.length cp, .int .i64 40] w fun e w' => e = .returned (.bool (fewEv l)) ∧ w = w' := by
  have hn := hr.2.1
  go_enter Tryd.func5, Tryd.ntmps5
  go_wp2_with fail
  go_loopg [5] (l.length + 1) (fun kq v w' => ∃ i : Nat, v = .int .i64 i ∧ i + kq = l.length + 1 ∧ Hid (∀ (j : Nat) (hj : j < l.length), j < i → (l[j]'hj).bytes.size ≤ 512) ∧ w' = w)
  case atStart => exact ⟨0, rfl, by omega, Lib.hid (fun j _ hj => by omega), rfl⟩
  case round =>
    obtain ⟨i, rfl, hq, hj, rfl⟩ := hrel
    have HQ := Lib.hid hq
    clear hq
    by_cases hi : i < l.length
    · by_cases hi4 : i < 40
      · obtain ⟨ad, hA, _, x0, x1, x2, x3⟩ := evs_at hr i hi
        subst hA
        have HI : Hid (512 < (l[i]'hi).bytes.size → fewEv l = false) := Lib.hid (few_no l i hi)
        have HN : Hid (i < i + 1 → ∀ (j : Nat) (hj : j < l.length), j < i + 1 → ¬ 512 < (l[i]'hi).bytes.size → (l[j]'hj).bytes.size ≤ 512) := by
          refine Lib.hid (fun _ j hj1 hj2 h => ?_)
          rcases Nat.lt_or_ge j i with h1 | h1
          · exact hj.out j hj1 h1
          · obtain rfl : j = i := by omega
            omega
        generalize (l[i]'hi).bytes.size = z at *
        obtain ⟨b, hb⟩ : ∃ b, b = (l[i]'hi).bytes := ⟨_, rfl⟩
        rw [← hb] at x2
        have HI2 : Hid (512 < b.size → fewEv l = false) := by rw [hb]; exact Lib.hid (few_no l i hi)
        have HN2 : Hid (∀ (j : Nat) (hj : j < l.length), j < i + 1 → ¬ 512 < b.size → (l[j]'hj).bytes.size ≤ 512) := by
          rw [hb]
          refine Lib.hid (fun j hj1 hj2 h => ?_)
          rcases Nat.lt_or_ge j i with h1 | h1
          · exact hj.out j hj1 h1
          · obtain rfl : j = i := by omega
            omega
        clear hb HI HN x0 x1 x3
        by_cases hz : 512 < b.size
        · go_wp2_with fail
          go_ret
          exact ⟨by rw [HI2.out hz]; rfl, rfl⟩
        · go_wp2_with fail
          go_roundg (gk - 1)
          case measure => have := HQ.out; omega
          case rel => have := HQ.out; exact ⟨i + 1, by go_num, by omega, Lib.hid (fun j hj1 hj2 => HN2.out j hj1 hj2 hz), rfl⟩
      · have hll : Hid (fewEv l = false) := Lib.hid (few_long l (by omega))
        have hlo : decide ((l.length : Int) ≤ 40) = false := by simp; omega
        go_wp2_with fail
        go_ret
        exact ⟨by rw [hll.out]; rfl, rfl⟩
    · have hll : Hid (fewEv l = decide (l.length ≤ 40)) := Lib.hid (few_yes l (fun j hj1 => hj.out j hj1 (by omega)))
      by_cases hlo : (l.length : Int) ≤ 40
      · have hlo' : decide ((l.length : Int) ≤ 40) = true := by simpa using hlo
        go_wp2_with fail
        go_ret
        exact ⟨by rw [hll.out]; simp; omega, rfl⟩
      · have hlo' : decide ((l.length : Int) ≤ 40) = false := by simpa using hlo
        go_wp2_with fail
        go_ret
        exact ⟨by rw [hll.out]; simp; omega, rfl⟩
end Go.Proofs.YtmmahkckemclaaaDoor
