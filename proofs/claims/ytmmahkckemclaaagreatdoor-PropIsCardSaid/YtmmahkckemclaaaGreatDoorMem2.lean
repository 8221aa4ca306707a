/- Words for memory, more. No condition. -/
import Derived.Test.YtmmahkckemclaaaGreatDoorRd3
namespace Go.Proofs.YtmmahkckemclaaaGreatDoor
open Go.RowKit
theorem Upd.alloc_both {S : Nat → Prop} {w w' : World} (h : Upd S w w') (hs : w'.heap.size = w.heap.size) (o : Obj) : Upd S (w.alloc o) (w'.alloc o) := by
  refine ⟨h.os, h.tape, h.output, by simp [hs], fun i hi hn => ?_⟩
  rcases Nat.lt_or_ge i w.heap.size with hlt | hge
  · rw [Below.heap_alloc _ _ _ hlt, Below.heap_alloc _ _ _ (by omega)]
    exact h.block i hlt hn
  · have hi' : i = w.heap.size := by simp at hi; omega
    subst hi'
    have h1 : (w'.alloc o).heap[w.heap.size]? = some o := by rw [← hs]; exact heap_alloc_new w' o
    rw [h1, heap_alloc_new w o]
theorem Upd.drews {S : Nat → Prop} {w w' : World} (h : Upd S w w') : Upd S w.drew w'.drew := ⟨h.os, h.tape, h.output, h.size, h.block⟩
theorem ErrIs.new_at {E : GE} (w : World) {g : Nat} (k : Nat) (r a : Int) (h1 : 1 ≤ k) (h2 : k ≤ 7) (hg : g = w.heap.size) : ErrIs E (w.alloc (.cells #[.int .i64 r, .int .i64 a, E.kd k] 149)) (.iface 145 (.pointer (some ⟨g, 0, none⟩))) (some ⟨k, r, a⟩) := by
  subst hg
  exact ErrIs.new w k r a h1 h2
theorem toList_beq (x : ByteArray) (l : List UInt8) : (x.toList == l) = decide (x = str l) := by
  rw [ByteArray.toList_eq]
  by_cases h : x = str l
  · subst h; simp [str]
  · have : x.data.toList ≠ l := fun e => h (by rw [← e, str_data])
    simp [h, this]
theorem Rd.one {E : GE} {b g : Nat} {t : TypeId} {cs : Array Value} {s : ByteArray} {st : RSt} {w w' : World} (hu : Upd (fun i => i = b) w w') (hb : Blk w b t cs) (h1 : t ≠ 149) (h2 : t ≠ 138) (h : Rd E w g s st) : Rd E w' g s st := by
  obtain ⟨hE, hl, hs, e, hg, he⟩ := h
  exact ⟨hE, hl, hs, e, hg.upd hu (fun e => by subst e; exact hg.ne_ hb (fun e => h2 e.symm) rfl), ErrIs.one hu hb h1 he⟩
end Go.Proofs.YtmmahkckemclaaaGreatDoor
