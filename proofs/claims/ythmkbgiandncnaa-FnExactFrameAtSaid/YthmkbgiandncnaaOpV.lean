/- What came in, opened: lists of texts and of bools. -/
import Derived.Test.YthmkbgiandncnaaOpS
import Derived.Test.YthmkbgiandncnaaVec
namespace Go.Proofs.Ythmkbgiandncnaa
open Go.RowKit Go.ChangeShapes Go.WideShapes Go.ChangeAt

section
variable {H : Type} {enc : TypeId × Value → H} {w : World} {spare : Nat → Bool} {held : Bool}
theorem g_bool {P : Program} {t : TypeId} (ht : P.underlying t = some .bool) {fuel : Nat} {v : Value} {x : DataW H × List MemPlace} (h : DataW.trod enc P w 0 spare held fuel t [v] = some x) : ∃ b, v = .bool b := by
  cases fuel with
  | zero => cases h
  | succ n =>
    unfold DataW.trod at h
    rw [ht] at h
    cases v <;> simp at h
    exact ⟨_, rfl⟩
theorem in_bool {fuel : Nat} {v : Value} {x : DataW H × List MemPlace} (h : DataW.trod enc Try.prog w 0 spare held fuel 4 [v] = some x) : ∃ b, v = .bool b := g_bool Try.underlying4 h
theorem in_bools {fuel : Nat} {v : Value} {x : DataW H × List MemPlace} (h : DataW.trod enc Try.prog w 0 spare held fuel 64 [v] = some x) :
    ∃ A c xs, v = .slice A xs.length c ∧ Boos w w.heap.size A xs ∧ xs.length ≤ big := by
  rcases Go.Deep.open_slice1 Try.underlying64 (by kernel_rfl) h with ⟨hv, rfl⟩ | ⟨a, len, cap, m, n, V, D, Pl, hv, _, hl, hm, hmm, rfl, hx⟩
  · injection hv with hv _
    exact ⟨none, 0, [], by rw [hv]; rfl, ⟨rfl, fun h => absurd h (by simp)⟩, Nat.zero_le _⟩
  · injection hv with hv _
    have hlm : len ≤ m := by rw [hmm]; split <;> omega
    obtain ⟨X, hX⟩ := Go.Deep.choose_lt (α := Bool) (p := fun i b => V i = .bool b) (n := m) fun i hi => in_bool (hx i hi).2
    refine ⟨some a, cap, (List.range len).map X, by rw [hv]; simp, ⟨by simp, fun h0 => ⟨a, rfl, ?_, ?_⟩⟩, by simp; unfold maxLen at hm; unfold big; omega⟩
    · simp at h0
      exact World.cells?_block (cells?_one (base := 0) (Nat.zero_le _) (hx 0 (by omega)).1) Nat.one_pos
    · intro j u hj
      have hjl := lt_of_some hj
      simp at hjl
      rw [(hx j (by omega)).1, hX j (by omega), ← hj]
      simp [hjl]
theorem in_strs {fuel : Nat} {v : Value} {x : DataW H × List MemPlace} (h : DataW.trod enc Try.prog w 0 spare held fuel 63 [v] = some x) :
    ∃ A c xs, v = .slice A xs.length c ∧ Strs w w.heap.size A xs ∧ xs.length ≤ big ∧ ∀ x ∈ xs, x.size ≤ big := by
  rcases Go.Deep.open_slice1 Try.underlying63 (by kernel_rfl) h with ⟨hv, rfl⟩ | ⟨a, len, cap, m, n, V, D, Pl, hv, _, hl, hm, hmm, rfl, hx⟩
  · injection hv with hv _
    exact ⟨none, 0, [], by rw [hv]; rfl, ⟨rfl, fun h => absurd h (by simp)⟩, Nat.zero_le _, fun x hx => by cases hx⟩
  · injection hv with hv _
    have hlm : len ≤ m := by rw [hmm]; split <;> omega
    obtain ⟨X, hX⟩ := Go.Deep.choose_lt (α := ByteArray) (p := fun i b => V i = .string b ∧ b.size ≤ big) (n := m) fun i hi => in_string (hx i hi).2
    refine ⟨some a, cap, (List.range len).map X, by rw [hv]; simp, ⟨by simp, fun h0 => ⟨a, rfl, ?_, ?_⟩⟩, by simp; unfold maxLen at hm; unfold big; omega, fun x hx => by
      obtain ⟨i, hi, rfl⟩ := List.mem_map.1 hx
      exact (hX i (by have := List.mem_range.1 hi; omega)).2⟩
    · simp at h0
      exact World.cells?_block (cells?_one (base := 0) (Nat.zero_le _) (hx 0 (by omega)).1) Nat.one_pos
    · intro j u hj
      have hjl := lt_of_some hj
      simp at hjl
      rw [(hx j (by omega)).1, (hX j (by omega)).1, ← hj]
      simp [hjl]
variable {r : Reach} {b0 : Nat} {v : Value} {d : DataW H} {p : List MemPlace}
set_option maxRecDepth 100000 in
theorem open_strs (hv : Value.okWide Try.prog w r b0 63 v) (h : DataW.Trod enc Try.prog w 0 spare held 63 v d p) :
    ∃ A c xs, v = .slice A xs.length c ∧ Strs w w.heap.size A xs ∧ xs.length ≤ big ∧ ∀ x ∈ xs, x.size ≤ big := by
  obtain ⟨a, n, c, rfl⟩ := g_slice Try.underlying63 hv
  obtain ⟨fuel, hf⟩ := one_slice h
  exact in_strs hf
set_option maxRecDepth 100000 in
theorem open_bools (hv : Value.okWide Try.prog w r b0 64 v) (h : DataW.Trod enc Try.prog w 0 spare held 64 v d p) :
    ∃ A c xs, v = .slice A xs.length c ∧ Boos w w.heap.size A xs ∧ xs.length ≤ big := by
  obtain ⟨a, n, c, rfl⟩ := g_slice Try.underlying64 hv
  obtain ⟨fuel, hf⟩ := one_slice h
  exact in_bools hf
end
end Go.Proofs.Ythmkbgiandncnaa
