/- DERIVED. Small laws on memory for the walk of fix.parts: a block of three cells that is known whole. No program in sight. -/
import Derived.WalkKit
import Derived.Below
import Derived.OneCell
import Derived.Lib.OthersKept
import Derived.WalkSmall
import Derived.Laws.AppendOwn
import Derived.Laws.BytesArg
import Derived.Maps.AppendAt
import Derived.Lib.Hide
import Derived.Test.YtkfbpofjalcahaaDoorPl
namespace Go.Proofs.YtkfbpofjalcahaaDoor
open Go Go.RowKit

theorem three_cells {w : World} {b : Nat} {x y z : Value} {t : TypeId} (h : w.heap[b]? = some (.cells #[x, y, z] t (0, 0))) :
    w.cell? ⟨b, 0, none⟩ = some x ∧ w.cell? ⟨b, 1, none⟩ = some y ∧ w.cell? ⟨b, 2, none⟩ = some z ∧ (∀ o, w.frozen? ⟨b, o, none⟩ = false) := by
  refine ⟨?_, ?_, ?_, ?_⟩ <;> simp [World.cell?, World.frozen?, h]

theorem heap_setCell_at {w : World} {b : Nat} {c : Array Value} {t : TypeId} (h : w.heap[b]? = some (.cells c t (0, 0))) (o : Nat) (u : Value) :
    (w.setCell ⟨b, o, none⟩ u).heap[b]? = some (.cells (c.setIfInBounds o u) t (0, 0)) := by
  have hlt := lt_of_block h
  have h' : w.heap[b] = .cells c t (0, 0) := by simpa [Array.getElem?_eq_getElem hlt] using h
  show (w.heap.modify b _)[b]? = _
  rw [Array.getElem?_eq_getElem (by simpa using hlt), Array.getElem_modify_self, h']
  rfl

theorem set_three {w : World} {b : Nat} {x y z : Value} {t : TypeId} (h : w.heap[b]? = some (.cells #[x, y, z] t (0, 0))) (x' y' z' : Value) :
    (((w.setCell ⟨b, 0, none⟩ x').setCell ⟨b, 1, none⟩ y').setCell ⟨b, 2, none⟩ z').heap[b]? = some (.cells #[x', y', z'] t (0, 0)) := by
  rw [heap_setCell_at (heap_setCell_at (heap_setCell_at h 0 x') 1 y') 2 z']
  rfl

theorem heap_setCell_ne {w : World} {b j : Nat} (o : Nat) (u : Value) (hj : j ≠ b) : (w.setCell ⟨b, o, none⟩ u).heap[j]? = w.heap[j]? :=
  Below.heap_setCell _ _ _ _ hj

/-- What the loop of fix.parts has in memory: the result's block, the number's block, the iterator, the row of digits. -/
structure PM (s : ByteArray) (w wx : World) (pos : Nat) (neg : Bool) (xe : Int) (ds : List UInt8) (v : Value) : Prop where
  own : wx.ownsRow (w.heap.size + 3) 5 1 v ds.length (ds.map fun b => Value.int .u8 b.toNat)
  it : wx.heap[w.heap.size + 1 + 1]? = some (.stringIter s pos)
  x : wx.heap[w.heap.size + 1]? = some (.cells #[.bool neg, .string ⟨#[]⟩, .int .i64 xe] 32 (0, 0))
  r : wx.heap[w.heap.size]? = some (.cells #[.bool false, .string ⟨#[]⟩, .int .i64 0] 32 (0, 0))
  bw : Below w.heap.size w wx
  sz : w.heap.size + 3 ≤ wx.heap.size

variable {s : ByteArray} {w wx : World} {pos : Nat} {neg : Bool} {xe : Int} {ds : List UInt8} {v : Value}

theorem PM.iterAt (h : PM s w wx pos neg xe ds v) (p : Nat) : PM s w (wx.iterAt (w.heap.size + 1 + 1) s p) p neg xe ds v :=
  ⟨ownsRow_iterAt h.own (by omega) s p, Lib.iterAt_heap _ _ _ _ _ h.it, (Lib.iterAt_other _ _ _ _ _ (by omega)).trans h.x, (Lib.iterAt_other _ _ _ _ _ (by omega)).trans h.r,
    Lib.below_iterAt h.bw (by omega) s p, by rw [Lib.iterAt_size]; exact h.sz⟩

theorem PM.setX (h : PM s w wx pos neg xe ds v) (o : Nat) (u : Value) (neg' : Bool) (xe' : Int)
    (e : (#[.bool neg, .string ⟨#[]⟩, .int .i64 xe] : Array Value).setIfInBounds o u = #[.bool neg', .string ⟨#[]⟩, .int .i64 xe']) :
    PM s w (wx.setCell ⟨w.heap.size + 1, o, none⟩ u) pos neg' xe' ds v := by
  refine ⟨ownsRow_setCell_other h.own ?_ u, (heap_setCell_ne _ _ (by omega)).trans h.it, ?_, (heap_setCell_ne _ _ (by omega)).trans h.r, h.bw.setCell (by simp) u, ?_⟩
  · intro e1
    have := (h.own.lt _ e1).1
    simp only at this
    omega
  · rw [heap_setCell_at h.x, e]
  · have := h.sz
    simpa [World.setCell] using this

theorem PM.grow (h : PM s w wx pos neg xe ds v) (o : Obj) (c : UInt8) {v' : Value} {w1 : World} (hown : w1.ownsRow (w.heap.size + 3) 5 1 v' (ds.length + 1) ((ds.map fun b => Value.int .u8 b.toNat) ++ [Value.int .u8 c.toNat]))
    (hg : (wx.alloc o).grownBy w1 v.ownBlock) : PM s w w1 pos neg xe (ds ++ [c]) v' := by
  have hs := h.sz
  have hr : ∀ k, v.ownBlock = some k → w.heap.size + 3 ≤ k := fun k hk => (h.own.lt _ hk).1
  have old : ∀ j ob, j < w.heap.size + 3 → wx.heap[j]? = some ob → w1.heap[j]? = some ob := fun j ob hj hb => by
    rw [hg.block j (by simp; omega) (fun e => by have := hr j e.symm; omega), Below.heap_alloc wx o j (by omega)]
    exact hb
  refine ⟨by simpa using hown, old _ _ (by omega) h.it, old _ _ (by omega) h.x, old _ _ (by omega) h.r, (h.bw.alloc (by omega) o).grown hg (by simp; omega) (fun k hk => by have := hr k hk; omega), ?_⟩
  have := hg.size
  simp at this
  omega

end Go.Proofs.YtkfbpofjalcahaaDoor
