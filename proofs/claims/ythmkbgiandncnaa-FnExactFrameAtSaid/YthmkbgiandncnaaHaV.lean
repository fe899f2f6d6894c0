/- Lists of numbers, of texts, of bools that a law holds, and what becomes of them. -/
import Derived.Test.YthmkbgiandncnaaVec
namespace Go.Proofs.Ythmkbgiandncnaa
open Go.RowKit

theorem nextS_few2 {ss : List Snd} (h : sndsFew ss) : nextS ss 1 ≤ 1100000000000 := by
  have key : ∀ (ts : List Snd) (k : Nat), (∀ t ∈ ts, t.xs.length ≤ 1048576) → nextS ts k ≤ k + ts.length * 1048581 := by
    intro ts
    induction ts with
    | nil => intro k _; simp [nextS]
    | cons t ts ih =>
      intro k ht
      have h1 := ih (t.next k) fun s hs => ht s (List.mem_cons_of_mem _ hs)
      have h2 := ht t (List.mem_cons_self ..)
      have h3 : t.next k ≤ k + 1048581 := by unfold Snd.next; omega
      simp only [nextS, List.length_cons]
      omega
  have := key ss 1 fun t ht => (h.2 t ht).1
  have := h.1
  omega

/-- a list of numbers whose block lies in [lo, hi) -/
structure HasF (w : World) (lo hi : Nat) (v : Value) (xs : List Nat) : Prop where
  own : OwnF w lo v xs
  top : ∀ g, v.ownBlock = some g → g < hi
  le : hi ≤ w.heap.size
  n : xs.length ≤ 1048576
section
variable {w w' : World} {lo hi a b : Nat} {v : Value} {xs : List Nat}
theorem HasF.of (h : OwnF w lo v xs) (hn : xs.length ≤ 1048576) : HasF w lo w.heap.size v xs := ⟨h, fun g hg => (World.ownsRow.lt h g hg).2, Nat.le_refl _, hn⟩
theorem HasF.below (h : HasF w lo hi v xs) (hb : Below w.heap.size w w') : HasF w' lo hi v xs :=
  ⟨own_below h.own (hb.mono h.le) h.top, h.top, Nat.le_trans h.le hb.size, h.n⟩
theorem HasF.drew (h : HasF w lo hi v xs) : HasF w.drew lo hi v xs := h.below (below_drewN _ w 1)
theorem HasF.only (h : HasF w lo hi v xs) (ho : Only a b w w') (hd : hi ≤ a ∨ b ≤ lo) : HasF w' lo hi v xs :=
  ⟨own_only h.own ho fun g hg => by have := (World.ownsRow.lt h.own g hg).1; have := h.top g hg; omega, h.top, Nat.le_trans h.le ho.size, h.n⟩
theorem HasF.reads (h : HasF w lo hi v xs) : ∃ A c, v = .slice A xs.length c ∧ Fs w w.heap.size A xs := h.own.reads
end
theorem toHasF_any (A : Option Addr) (c : Nat) (xs : List Nat) (w : World) (B : Nat) (hB : B ≤ w.heap.size) (hx : Fs w B A xs) (hm : xs.length ≤ 1048576) :
    Calls Try.prog 49 #[.slice A xs.length c] w fun e w' => ∃ v, e = .returned v ∧ HasF w' w.heap.size w'.heap.size v xs ∧ Below w.heap.size w w' := by
  refine (toFloat32S_any A c xs w B hB hx hm).mono ?_
  rintro e w' ⟨g, rfl, _, h2, h3⟩
  exact ⟨_, rfl, .of h2 hm, h3⟩
theorem eqHasF_any {w : World} {lo hi lo' hi' : Nat} {v v' : Value} {xs ys : List Nat} (h : HasF w lo hi v xs) (h' : HasF w lo' hi' v' ys) (hq : cans xs ys) :
    Calls Try.prog 41 #[v, v'] w fun e w' => e = .returned (.bool true) ∧ Below w.heap.size w w' := by
  obtain ⟨A, c, rfl, h1⟩ := h.reads
  obtain ⟨A', c', rfl, h2⟩ := h'.reads
  refine (eqFloat32S_yes A A' c c' xs ys w _ _ h1 h2 hq h.n).mono ?_
  rintro e w' ⟨rfl, n, rfl⟩
  exact ⟨rfl, below_drewN _ _ _⟩
theorem markHasF_any {w : World} {lo hi : Nat} {v : Value} {xs : List Nat} (k : Nat) (hk : k ≤ 4398046511104) (h : HasF w lo hi v xs) :
    Calls Try.prog 46 #[v, .int .i64 k] w fun e w' => e = .returned (.int .i64 (k + xs.length : Nat)) ∧ HasF w' lo hi v (marks k xs.length) ∧ Only lo hi w w' := by
  refine (markFloat32S_any v xs k w lo hi h.own h.top h.n hk).mono ?_
  rintro e w' ⟨rfl, h1, h2⟩
  exact ⟨rfl, ⟨h1, h.top, Nat.le_trans h.le h2.size, by rw [marks_len]; exact h.n⟩, h2⟩
theorem heldHasF_any {w : World} {lo hi : Nat} {v : Value} (k n : Nat) (hk : k ≤ 4398046511104) (h : HasF w lo hi v (marks k n)) :
    Calls Try.prog 47 #[v, .int .i64 k] w fun e w' => e = .returned (.int .i64 (k + n : Nat)) ∧ Below w.heap.size w w' := by
  obtain ⟨A, c, e, h1⟩ := h.reads
  rw [marks_len] at e
  subst e
  have hn := h.n
  rw [marks_len] at hn
  refine (heldFloat32S_any A c n k w _ h1 hn hk).mono ?_
  rintro e w' ⟨rfl, rfl⟩
  exact ⟨rfl, Below.refl _ _⟩

/-- a list of texts whose block lies in [lo, hi) -/
structure HasStr (w : World) (lo hi : Nat) (v : Value) (xs : List ByteArray) : Prop where
  own : OwnStr w lo v xs
  top : ∀ g, v.ownBlock = some g → g < hi
  le : hi ≤ w.heap.size
  n : xs.length ≤ 1048576
section
variable {w w' : World} {lo hi a b : Nat} {v : Value} {xs : List ByteArray}
theorem HasStr.of (h : OwnStr w lo v xs) (hn : xs.length ≤ 1048576) : HasStr w lo w.heap.size v xs := ⟨h, fun g hg => (World.ownsRow.lt h g hg).2, Nat.le_refl _, hn⟩
theorem HasStr.below (h : HasStr w lo hi v xs) (hb : Below w.heap.size w w') : HasStr w' lo hi v xs :=
  ⟨own_below h.own (hb.mono h.le) h.top, h.top, Nat.le_trans h.le hb.size, h.n⟩
theorem HasStr.drew (h : HasStr w lo hi v xs) : HasStr w.drew lo hi v xs := h.below (below_drewN _ w 1)
theorem HasStr.only (h : HasStr w lo hi v xs) (ho : Only a b w w') (hd : hi ≤ a ∨ b ≤ lo) : HasStr w' lo hi v xs :=
  ⟨own_only h.own ho fun g hg => by have := (World.ownsRow.lt h.own g hg).1; have := h.top g hg; omega, h.top, Nat.le_trans h.le ho.size, h.n⟩
theorem HasStr.reads (h : HasStr w lo hi v xs) : ∃ A c, v = .slice A xs.length c ∧ Strs w w.heap.size A xs := h.own.reads
end
theorem toHasStr_any (A : Option Addr) (c : Nat) (xs : List ByteArray) (w : World) (B : Nat) (hB : B ≤ w.heap.size) (hx : Strs w B A xs) (hm : xs.length ≤ 1048576) :
    Calls Try.prog 38 #[.slice A xs.length c] w fun e w' => ∃ v, e = .returned v ∧ HasStr w' w.heap.size w'.heap.size v xs ∧ Below w.heap.size w w' := by
  refine (toStringS_any A c xs w B hB hx hm).mono ?_
  rintro e w' ⟨g, rfl, _, _, h2, h3⟩
  exact ⟨_, rfl, .of h2 hm, h3⟩
theorem eqHasStr_any {w : World} {lo hi lo' hi' : Nat} {v v' : Value} {xs : List ByteArray} (h : HasStr w lo hi v xs) (h' : HasStr w lo' hi' v' xs) :
    Calls Try.prog 42 #[v, v'] w fun e w' => e = .returned (.bool true) ∧ Below w.heap.size w w' := by
  obtain ⟨A, c, rfl, h1⟩ := h.reads
  obtain ⟨A', c', rfl, h2⟩ := h'.reads
  refine (eqStringS_yes A A' c c' xs w _ _ h1 h2 h.n).mono ?_
  rintro e w' ⟨rfl, n, rfl⟩
  exact ⟨rfl, below_drewN _ _ _⟩
theorem markHasStr_any {w : World} {lo hi : Nat} {v : Value} {xs : List ByteArray} (k : Nat) (h0 : 0 < k) (hk : k + xs.length ≤ 4398046511104) (h : HasStr w lo hi v xs) :
    Calls Try.prog 44 #[v, .int .i64 k] w fun e w' => e = .returned (.int .i64 (k + xs.length : Nat)) ∧ Only lo hi w w' :=
  markStringS_any v xs k w lo hi h.own h.top h.n h0 hk

/-- a list of bools whose block lies in [lo, hi) -/
structure HasBoo (w : World) (lo hi : Nat) (v : Value) (xs : List Bool) : Prop where
  own : OwnBoo w lo v xs
  top : ∀ g, v.ownBlock = some g → g < hi
  le : hi ≤ w.heap.size
  n : xs.length ≤ 1048576
section
variable {w w' : World} {lo hi a b : Nat} {v : Value} {xs : List Bool}
theorem HasBoo.of (h : OwnBoo w lo v xs) (hn : xs.length ≤ 1048576) : HasBoo w lo w.heap.size v xs := ⟨h, fun g hg => (World.ownsRow.lt h g hg).2, Nat.le_refl _, hn⟩
theorem HasBoo.below (h : HasBoo w lo hi v xs) (hb : Below w.heap.size w w') : HasBoo w' lo hi v xs :=
  ⟨own_below h.own (hb.mono h.le) h.top, h.top, Nat.le_trans h.le hb.size, h.n⟩
theorem HasBoo.drew (h : HasBoo w lo hi v xs) : HasBoo w.drew lo hi v xs := h.below (below_drewN _ w 1)
theorem HasBoo.only (h : HasBoo w lo hi v xs) (ho : Only a b w w') (hd : hi ≤ a ∨ b ≤ lo) : HasBoo w' lo hi v xs :=
  ⟨own_only h.own ho fun g hg => by have := (World.ownsRow.lt h.own g hg).1; have := h.top g hg; omega, h.top, Nat.le_trans h.le ho.size, h.n⟩
theorem HasBoo.reads (h : HasBoo w lo hi v xs) : ∃ A c, v = .slice A xs.length c ∧ Boos w w.heap.size A xs := h.own.reads
end
theorem toHasBoo_any (A : Option Addr) (c : Nat) (xs : List Bool) (w : World) (B : Nat) (hB : B ≤ w.heap.size) (hx : Boos w B A xs) (hm : xs.length ≤ 1048576) :
    Calls Try.prog 39 #[.slice A xs.length c] w fun e w' => ∃ v, e = .returned v ∧ HasBoo w' w.heap.size w'.heap.size v xs ∧ Below w.heap.size w w' := by
  refine (toBoolS_any A c xs w B hB hx hm).mono ?_
  rintro e w' ⟨g, rfl, _, _, h2, h3⟩
  exact ⟨_, rfl, .of h2 hm, h3⟩
theorem eqHasBoo_any {w : World} {lo hi lo' hi' : Nat} {v v' : Value} {xs : List Bool} (h : HasBoo w lo hi v xs) (h' : HasBoo w lo' hi' v' xs) :
    Calls Try.prog 43 #[v, v'] w fun e w' => e = .returned (.bool true) ∧ Below w.heap.size w w' := by
  obtain ⟨A, c, rfl, h1⟩ := h.reads
  obtain ⟨A', c', rfl, h2⟩ := h'.reads
  refine (eqBoolS_yes A A' c c' xs w _ _ h1 h2 h.n).mono ?_
  rintro e w' ⟨rfl, n, rfl⟩
  exact ⟨rfl, below_drewN _ _ _⟩
theorem markHasBoo_any {w : World} {lo hi : Nat} {v : Value} {xs : List Bool} (k : Nat) (h0 : 0 < k) (hk : k + xs.length ≤ 4398046511104) (h : HasBoo w lo hi v xs) :
    Calls Try.prog 45 #[v, .int .i64 k] w fun e w' => e = .returned (.int .i64 (k + xs.length : Nat)) ∧ Only lo hi w w' :=
  markBoolS_any v xs k w lo hi h.own h.top h.n h0 hk
end Go.Proofs.Ythmkbgiandncnaa
