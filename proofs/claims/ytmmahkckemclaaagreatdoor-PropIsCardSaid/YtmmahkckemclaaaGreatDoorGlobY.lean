/- What the laid handle and the laid kinds give. No condition. -/
import Derived.Test.YtmmahkckemclaaaGreatDoorGlobZ
import Derived.LaidHandle
namespace Go.Proofs.YtmmahkckemclaaaGreatDoor
open Go.RowKit
set_option maxRecDepth 100000

def hdRow : String × DataW Unit := ("errors.errorType", .iface "internal/reflectlite.rtype" (.agg [.ptr (.lit (.string [101, 114, 114, 111, 114]))]))
def laid8 : List (String × DataW Unit) := hdRow :: laid7
theorem et_named : Tryz.prog.globalNamed "errors.errorType" = some 7 := by kernel_rfl
theorem rt_cut : (Tryz.prog.cutTypes.find? (·.1 == "internal/reflectlite.rtype")).map (·.2) = some 203 := by kernel_rfl
theorem err_row : ((List.range 256).filter fun t => Tryz.prog.rowNamed t [101, 114, 114, 111, 114]) = [46] := by kernel_rfl
theorem types_size : Tryz.prog.types.size = 256 := by kernel_rfl
theorem laidH_8 {w : World} (h : laidMetH Tryz.prog laid8 w) : laidMet Tryz.prog laid7 w ∧ handlesMet Tryz.prog [hdRow] w := by
  have h1 : (laid8.filter fun x => x.2.handleName?.isSome) = [hdRow] := by kernel_rfl
  have h2 : (laid8.filter fun x => x.2.handleName?.isNone) = laid7 := by kernel_rfl
  unfold laidMetH at h
  rw [h1] at h
  simp only at h
  rw [h2] at h
  exact h
theorem handle_of {W : World} (h : handlesMet Tryz.prog [hdRow] W) : W.cell? ⟨7, 0, none⟩ = some (.iface 203 (.agg #[.pointer (some ⟨8, 46, none⟩)])) := by
  obtain ⟨name, u, ty, e1, e2, e3, e4, e5⟩ := h _ (List.mem_singleton.2 rfl)
  have en : name = [101, 114, 114, 111, 114] := (Option.some.inj e1).symm
  subst en
  obtain rfl := Option.some.inj (rt_cut.symm.trans e2)
  have hm : ty ∈ (List.range 256).filter fun t => Tryz.prog.rowNamed t [101, 114, 114, 111, 114] := List.mem_filter.2 ⟨List.mem_range.2 (by rw [← types_size]; exact e3), e4⟩
  rw [err_row] at hm
  obtain rfl := List.mem_singleton.1 hm
  have hh : typeHandle Tryz.prog 46 = .pointer (some ⟨8, 46, none⟩) := by kernel_rfl
  rw [hh] at e5
  simpa using World.var?_cell et_named e5 0
theorem globT_of {W : World} (h : laidMetH Tryz.prog laid8 W) : GlobT (mkGE W) W := by
  obtain ⟨h1, h2⟩ := laidH_8 h
  have hc := handle_of h2
  exact ⟨glob_of h1, hc, World.block_lt_of_cell? _ _ hc⟩

theorem z_own : ownKnob Tryz.prog.godebug = none := by kernel_rfl
theorem z_out : laidOutB Tryz.prog = true := by kernel_rfl
noncomputable def zLow : Nat := (World.holding Tryz.prog default ⟨#[], #[], []⟩).heap.size
/-- A world that meets the condition: the settled one, the handle and the seven kinds laid. -/
noncomputable def zWorld (os : Os) : World :=
  let w0 := World.holding Tryz.prog os ⟨#[
    .cells #[.string ⟨#[116, 111, 111, 32, 102, 101, 119, 32, 98, 121, 116, 101, 115]⟩] 245,
    .cells #[.string ⟨#[109, 97, 108, 102, 111, 114, 109, 101, 100]⟩] 245,
    .cells #[.string ⟨#[97, 103, 97, 105, 110, 115, 116, 32, 116, 104, 101, 32, 112, 114, 111, 116, 111, 99, 111, 108]⟩] 245,
    .cells #[.string ⟨#[116, 111, 111, 32, 108, 97, 114, 103, 101]⟩] 245,
    .cells #[.string ⟨#[110, 111, 32, 114, 111, 111, 109]⟩] 245,
    .cells #[.string ⟨#[110, 111, 116, 32, 110, 111, 119]⟩] 245,
    .cells #[.string ⟨#[110, 111, 32, 115, 117, 99, 104, 32, 116, 104, 105, 110, 103]⟩] 245], #[], []⟩
  let lay (h : Array Obj) (g k : Nat) : Array Obj := h.modify g fun
      | .cells _ t frozen => .cells #[.iface 225 (.pointer (some ⟨zLow + k, 0, none⟩))] t frozen
      | o => o
  let h7 := lay (lay (lay (lay (lay (lay (lay w0.heap 3 0) 0 1) 1 2) 4 3) 5 4) 6 5) 2 6
  { w0 with heap := h7.modify 7 fun
      | .cells _ t frozen => .cells #[.iface 203 (.agg #[.pointer (some ⟨8, 46, none⟩)])] t frozen
      | o => o }
theorem z_met7 (os : Os) (args : Array Value) : laidMet Tryz.prog laid7 ((zWorld os).forCall (fun _ _ => 0) ⟨#[], args, []⟩).memory :=
  laidMet_of_run (ps := [.cell 3 0, .cell zLow 0, .cell 0 0, .cell (zLow + 1) 0, .cell 1 0, .cell (zLow + 2) 0, .cell 4 0, .cell (zLow + 3) 0,
    .cell 5 0, .cell (zLow + 4) 0, .cell 6 0, .cell (zLow + 5) 0, .cell 2 0, .cell (zLow + 6) 0]) 8 (by kernel_rfl) (by kernel_rfl) (by kernel_rfl)
theorem z_met (os : Os) (args : Array Value) : laidMetH Tryz.prog laid8 ((zWorld os).forCall (fun _ _ => 0) ⟨#[], args, []⟩).memory := by
  have h2 : (laid8.filter fun x => x.2.handleName?.isNone) = laid7 := by kernel_rfl
  exact laidMetH_of_parts (by rw [h2]; exact z_met7 os args) (by kernel_rfl)
end Go.Proofs.YtmmahkckemclaaaGreatDoor
