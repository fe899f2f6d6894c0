/- LengthsOf, both, over what a law holds. -/
import Derived.Test.YthmkbgiandncnaaLe3
import Derived.Test.YthmkbgiandncnaaHaV
namespace Go.Proofs.Ythmkbgiandncnaa
open Go.RowKit

theorem lens_few {ss : List Snd} {ms : List ByteArray} {qs : List Bool} (h : ms.length ≤ 1048576) : (lenRes ss ms qs).length ≤ 1048576 := by
  unfold lenRes
  split
  · rw [lens_len]; exact h
  · simp
theorem specLenHas_any {w : World} {l0 h0 l1 h1 l2 h2 : Nat} {v0 v1 v2 : Value} {ss : List Snd} {ms : List ByteArray} {qs : List Bool} (a : HasS w l0 h0 v0 ss) (b : HasStr w l1 h1 v1 ms) (c : HasBoo w l2 h2 v2 qs) :
    Calls Try.prog 37 #[v0, v1, v2] w fun e w' => ∃ r, e = .returned (.tuple #[r, .bool (lenOk ss ms qs)]) ∧ HasF w' w.heap.size w'.heap.size r (lenRes ss ms qs) ∧ Below w.heap.size w w' := by
  obtain ⟨A, x, rfl, hA⟩ := a.reads
  obtain ⟨A1, x1, rfl, hA1⟩ := b.reads
  obtain ⟨A2, x2, rfl, hA2⟩ := c.reads
  refine (specLengths_any A A1 A2 x x1 x2 ss ms qs w _ _ _ (Nat.le_refl _) (Nat.le_refl _) (Nat.le_refl _) hA hA1 hA2 a.own.few.1 b.n).mono ?_
  rintro e w' ⟨r, rfl, h2, h3⟩
  exact ⟨r, rfl, .of h2 (lens_few b.n), h3⟩
theorem implLenHas_any {w : World} {l0 h0 l1 h1 l2 h2 : Nat} {v0 v1 v2 : Value} {ss : List Snd} {ms : List ByteArray} {qs : List Bool} (a : HasS w l0 h0 v0 ss) (b : HasStr w l1 h1 v1 ms) (c : HasBoo w l2 h2 v2 qs) :
    Calls Try.prog 40 #[v0, v1, v2] w fun e w' => ∃ r, e = .returned (.tuple #[r, .bool (lenOk ss ms qs)]) ∧ HasF w' w.heap.size w'.heap.size r (lenRes ss ms qs) ∧ Below w.heap.size w w' := by
  obtain ⟨A, x, rfl, hA⟩ := a.reads
  obtain ⟨A1, x1, rfl, hA1⟩ := b.reads
  obtain ⟨A2, x2, rfl, hA2⟩ := c.reads
  refine (implLengths_any A A1 A2 x x1 x2 ss ms qs w _ _ _ (Nat.le_refl _) (Nat.le_refl _) (Nat.le_refl _) hA hA1 hA2 a.own.few.1 b.n).mono ?_
  rintro e w' ⟨r, rfl, h2, h3⟩
  exact ⟨r, rfl, .of h2 (lens_few b.n), h3⟩
end Go.Proofs.Ythmkbgiandncnaa
