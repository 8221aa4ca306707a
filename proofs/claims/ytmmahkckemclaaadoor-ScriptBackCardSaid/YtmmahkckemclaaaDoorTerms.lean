/- The bounds of a broker: terms.bounds, terms.Check, script.bounds, Usual. Conditions: the package variables hold what the program lays there. -/
import Derived.Test.YtmmahkckemclaaaDoorErr1
namespace Go.Proofs.YtmmahkckemclaaaDoor
open Go.RowKit Go.Extern.Stop Go.Stop Go.Extern

/-- api.Config. -/
structure Cfg where
  c0 : Int
  c1 : Int
  c2 : Int
  c3 : Int
  c4 : Int
  c5 : Int
  c6 : Int
  c7 : Int
  c8 : Int
  c9 : Int
  c10 : Int
  c11 : Int
  c12 : Int
def Cfg.cells (c : Cfg) : Array Value := #[.int .i64 c.c0, .int .i64 c.c1, .int .i64 c.c2, .int .i64 c.c3, .int .i64 c.c4, .int .i64 c.c5, .int .i64 c.c6, .int .i64 c.c7, .int .i64 c.c8, .int .i64 c.c9, .int .i64 c.c10, .int .i64 c.c11, .int .i64 c.c12]
def Cfg.v (c : Cfg) : Value := .agg c.cells
def Cfg.list (c : Cfg) : List Int := [c.c0, c.c1, c.c2, c.c3, c.c4, c.c5, c.c6, c.c7, c.c8, c.c9, c.c10, c.c11, c.c12]

def bLeast : List Int := [1, 64, 1, 0, 0, 0, 64, 0, 1, 0, 0, 0, 0]
def bMost : List Int := [8, 65536, 65535, 65535, 65536, 65536, 1048576, 16777216, 8, 65536, 65535, 4294967295, 4294967295]
def Cfg.bad (c : Cfg) (i : Nat) : Bool := decide (c.list.getD i 0 < bLeast.getD i 0) || decide (bMost.getD i 0 < c.list.getD i 0)
/-- Why bounds may not be. -/
def Cfg.check (c : Cfg) : Option Flt := ((List.range 13).find? c.bad).map fun i => ⟨7, 131, i⟩

def Cfg.bounds (c : Cfg) : Array Value := #[
  .int .i64 c.c0, .int .i64 1, .int .i64 8, .int .i64 c.c1, .int .i64 64, .int .i64 65536, .int .i64 c.c2, .int .i64 1, .int .i64 65535, .int .i64 c.c3, .int .i64 0, .int .i64 65535,
  .int .i64 c.c4, .int .i64 0, .int .i64 65536, .int .i64 c.c5, .int .i64 0, .int .i64 65536, .int .i64 c.c6, .int .i64 64, .int .i64 1048576, .int .i64 c.c7, .int .i64 0, .int .i64 16777216,
  .int .i64 c.c8, .int .i64 1, .int .i64 8, .int .i64 c.c9, .int .i64 0, .int .i64 65536, .int .i64 c.c10, .int .i64 0, .int .i64 65535, .int .i64 c.c11, .int .i64 0, .int .i64 4294967295, .int .i64 c.c12, .int .i64 0, .int .i64 4294967295]
theorem bounds_at (c : Cfg) (i : Nat) (hi : i < 13) : c.bounds[i * 3]? = some (.int .i64 (c.list.getD i 0)) ∧ c.bounds[i * 3 + 1]? = some (.int .i64 (bLeast.getD i 0)) ∧ c.bounds[i * 3 + 2]? = some (.int .i64 (bMost.getD i 0)) := by
  rcases i with _ | _ | _ | _ | _ | _ | _ | _ | _ | _ | _ | _ | _ | i
  all_goals first | exact ⟨rfl, rfl, rfl⟩ | omega

set_option maxRecDepth 100000 in
set_option maxHeartbeats 2000000 in
theorem bounds_any (c : Cfg) (w : World) :
    Calls Tryd.prog 43 #[c.v] w fun e w' => ∃ g, e = .returned (.slice (some ⟨g, 0, none⟩) 13 13) ∧ Blk w' g 89 c.bounds ∧ Upd Non w w' := by
  unfold Cfg.v Cfg.cells
  go_enter Tryd.func43, Tryd.ntmps43
  go_wp2
  go_ret
  exact ⟨_, rfl, Blk.new_at _ _ _ (by simp), ((Upd.refl _ _).alloc _).alloc _⟩

theorem check_some (c : Cfg) (i : Nat) (hi : i < 13) (hl : ∀ j, j < i → c.bad j = false) (hb : c.bad i = true) : c.check = some ⟨7, 131, i⟩ := by
  have h : (List.range 13).find? c.bad = some i := by
    rw [List.find?_range_eq_some]
    exact ⟨hb, List.mem_range.2 hi, fun j hj => by simp [hl j hj]⟩
  unfold Cfg.check
  rw [h]
  rfl
theorem check_bad (w wr : World) (E : GE) (c : Cfg) (i : Nat) (hi : i < 13) (hl : ∀ j, j < i → c.bad j = false) (hb : c.bad i = true) (hu : Upd Non w wr) {o : Obj} :
    (∃ ev, Ending.returned (.iface 90 (.pointer (some ⟨wr.heap.size + 1, 0, none⟩))) = .returned ev ∧ ErrIs E ((wr.alloc o).alloc (.cells #[.int .i64 131, .int .i64 i, E.kd 7] 92)) ev c.check) ∧
      Upd Non w ((wr.alloc o).alloc (.cells #[.int .i64 131, .int .i64 i, E.kd 7] 92)) := by
  rw [check_some c i hi hl hb]
  refine ⟨⟨_, rfl, ?_⟩, (hu.alloc _).alloc _⟩
  have := ErrIs.new (E := E) (wr.alloc o) 7 131 i (by decide) (by decide)
  simpa using this

set_option maxRecDepth 100000 in
set_option maxHeartbeats 2000000 in
theorem check_any (E : GE) (c : Cfg) (w : World) (hG : Glob E w) :
    Calls Tryd.prog 16 #[c.v] w fun e w' => (∃ ev, e = .returned ev ∧ ErrIs E w' ev c.check) ∧ Upd Non w w' := by
  unfold Cfg.v Cfg.cells
  go_enter Tryd.func16, Tryd.ntmps16
  go_wp2_with (go_at_call 43; refine (bounds_any c _).mono ?_; rintro e w1 ⟨g, rfl, hg, hu⟩)
  go_loopg [8] 13 (fun kq v w' => ∃ i : Nat, v = .int .i64 i ∧ i + kq = 13 ∧ Hid (∀ j, j < i → c.bad j = false) ∧ Blk w' g 89 c.bounds ∧ Upd Non w w')
  case atStart => exact ⟨0, rfl, rfl, Lib.hid (fun j hj => by omega), hg, Upd.trans ((Upd.refl _ _).alloc _) hu fun _ _ h => h⟩
  case round =>
    clear hg hu
    obtain ⟨i, rfl, hq, hl, hg, hu⟩ := hrel
    have HG := Lib.hid (hG.non hu)
    have HU := Lib.hid hu
    have HQ := Lib.hid hq
    have HB := Lib.hid hg
    by_cases hi : i < 13
    · obtain ⟨b0, b1, b2⟩ := bounds_at c i hi
      have d0 := (hg.cell (i * 3)).trans b0
      have d1 := (hg.cell (i * 3 + 1)).trans b1
      have d2 := (hg.cell (i * 3 + 2)).trans b2
      clear b0 b1 b2 hq hg hu
      have g7 := HG.out.at_ 7 (by decide) (by decide)
      simp only [gix, GE.kd] at g7
      have hl0 : 1 < wr.heap.size := Nat.lt_of_lt_of_le (HG.out.lt 7) HG.out.size
      have hbd : Hid (c.bad i = (decide (c.list.getD i 0 < bLeast.getD i 0) || decide (bMost.getD i 0 < c.list.getD i 0))) := rfl
      generalize c.list.getD i 0 = x at *
      generalize bLeast.getD i 0 = y at *
      generalize bMost.getD i 0 = z at *
      by_cases h1 : x < y
      · go_wp2_with (go_at_call 17; refine (new_any _ _ _ _ _).mono ?_; rintro e w2 ⟨rfl, rfl⟩)
        go_ret
        exact check_bad w wr E c i hi hl.out (by rw [hbd.out]; simp [h1]) HU.out
      · by_cases h2 : z < x
        · go_wp2_with (go_at_call 17; refine (new_any _ _ _ _ _).mono ?_; rintro e w2 ⟨rfl, rfl⟩)
          go_ret
          exact check_bad w wr E c i hi hl.out (by rw [hbd.out]; simp [h2]) HU.out
        · go_wp2_with fail
          go_roundg (gk - 1)
          case measure => have := HQ.out; omega
          case rel =>
            have := HQ.out
            refine ⟨i + 1, by go_num, by omega, Lib.hid (fun j hj => ?_), HB.out.alloc _, HU.out.alloc _⟩
            rcases Nat.lt_or_ge j i with h | h
            · exact hl.out j h
            · obtain rfl : j = i := by omega
              rw [hbd.out]; simp; omega
    · clear hg hu hq
      go_wp2_with fail
      go_ret
      have e1 : c.check = none := by
        unfold Cfg.check
        rw [List.find?_eq_none.2 (fun j hj => by have := hl.out j (by have := List.mem_range.1 hj; omega); simp [this])]
        rfl
      exact ⟨⟨_, rfl, by rw [e1]; rfl⟩, HU.out⟩
end Go.Proofs.YtmmahkckemclaaaDoor
