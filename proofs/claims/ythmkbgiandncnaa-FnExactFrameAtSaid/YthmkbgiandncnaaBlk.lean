/- Blocks that were laid one behind the other. -/
import Derived.Test.YthmkbgiandncnaaMem
namespace Go.Proofs.Ythmkbgiandncnaa
open Go.RowKit
/-- the block that was laid k-th behind w: its cells and that none is frozen, in every later world -/
theorem blk_cell {w1 w2 : World} {B g j : Nat} {cs : Array Value} {t : TypeId} {v : Value} (h : Below B w1 w2) (hg : g < B) (hw : w1.heap[g]? = some (.cells cs t (0, 0))) (hv : cs[j]? = some v) : w2.cell? ⟨g, j, none⟩ = some v := by
  rw [h.cell (by simpa using hg)]
  simp [World.cell?, hw, hv]
theorem blk_frozen {w1 w2 : World} {B g : Nat} {cs : Array Value} {t : TypeId} (h : Below B w1 w2) (hg : g < B) (hw : w1.heap[g]? = some (.cells cs t (0, 0))) (j : Nat) : w2.frozen? ⟨g, j, none⟩ = false := by
  rw [h.frozen (by simpa using hg)]
  simp [World.frozen?, hw]
theorem heap_1 (w : World) (o : Obj) : (w.alloc o).heap[w.heap.size]? = some o := by show (w.heap.push o)[w.heap.size]? = _; simp
theorem heap_2 (w : World) (o p : Obj) : ((w.alloc o).alloc p).heap[w.heap.size + 1]? = some p := by
  show ((w.heap.push o).push p)[w.heap.size + 1]? = _
  rw [Array.getElem?_push, if_pos (by simp)]
theorem heap_3 (w : World) (o p q : Obj) : (((w.alloc o).alloc p).alloc q).heap[w.heap.size + 2]? = some q := by
  show (((w.heap.push o).push p).push q)[w.heap.size + 2]? = _
  rw [Array.getElem?_push, if_pos (by simp)]
theorem heap_31 (w : World) (o p q : Obj) : (((w.alloc o).alloc p).alloc q).heap[w.heap.size]? = some o := by
  show (((w.heap.push o).push p).push q)[w.heap.size]? = _
  rw [Array.getElem?_push, if_neg (by simp; try omega), Array.getElem?_push, if_neg (by simp; try omega), Array.getElem?_push, if_pos (by simp)]
theorem heap_32 (w : World) (o p q : Obj) : (((w.alloc o).alloc p).alloc q).heap[w.heap.size + 1]? = some p := by
  show (((w.heap.push o).push p).push q)[w.heap.size + 1]? = _
  rw [Array.getElem?_push, if_neg (by simp; try omega), Array.getElem?_push, if_pos (by simp)]

theorem after1 {w w1 : World} {o : Obj} (h : Below (w.alloc o).heap.size (w.alloc o) w1) : Below w.heap.size w w1 := (bl_a w o).trans (h.mono (by simp))
theorem after2 {w w1 : World} {o p : Obj} (h : Below ((w.alloc o).alloc p).heap.size ((w.alloc o).alloc p) w1) : Below w.heap.size w w1 := ((bl_a w o).alloc (by simp) p).trans (h.mono (by simp; omega))
theorem after3 {w w1 : World} {o p q : Obj} (h : Below (((w.alloc o).alloc p).alloc q).heap.size (((w.alloc o).alloc p).alloc q) w1) : Below w.heap.size w w1 := (((bl_a w o).alloc (by simp) p).alloc (by simp; omega) q).trans (h.mono (by simp; omega))

/-- block g is just these cells, none frozen -/
def Blk (w : World) (g : Nat) (t : TypeId) (cs : Array Value) : Prop := w.heap[g]? = some (.cells cs t (0, 0))
section
variable {w w' : World} {g B j : Nat} {t : TypeId} {cs : Array Value} {a : Addr} {u v : Value}
theorem Blk.lt (h : Blk w g t cs) : g < w.heap.size := by
  rcases Nat.lt_or_ge g w.heap.size with hlt | hge
  · exact hlt
  · unfold Blk at h; rw [Array.getElem?_eq_none hge] at h; cases h
theorem Blk.cell_ (h : Blk w g t cs) (hv : cs[j]? = some v) : w.cell? ⟨g, j, none⟩ = some v := by unfold Blk at h; simp [World.cell?, h, hv]
theorem Blk.froz (h : Blk w g t cs) (j : Nat) : w.frozen? ⟨g, j, none⟩ = false := by unfold Blk at h; simp [World.frozen?, h]
theorem Blk.set_ (h : Blk w g t cs) : Blk (w.setCell ⟨g, j, none⟩ u) g t (cs.setIfInBounds j u) := by
  unfold Blk at h ⊢
  simp [World.setCell, Array.getElem?_modify, h]
theorem Blk.far (h : Blk w g t cs) (hne : g ≠ a.block) : Blk (w.setCell a u) g t cs := (Below.heap_setCell w a u g hne).trans h
theorem Blk.below' (h : Blk w g t cs) (hb : Below B w w') (hg : g < B) : Blk w' g t cs := (hb.block g hg).trans h
theorem Blk.below (h : Blk w g t cs) (hb : Below w.heap.size w w') : Blk w' g t cs := h.below' hb h.lt
theorem Blk.drewN (h : Blk w g t cs) (n : Nat) : Blk (w.drewN n) g t cs := h
theorem Blk.drew (h : Blk w g t cs) : Blk w.drew g t cs := h
theorem Blk.alloc (h : Blk w g t cs) (o : Obj) : Blk (w.alloc o) g t cs := (Below.heap_alloc w o g h.lt).trans h
end
end Go.Proofs.Ythmkbgiandncnaa
