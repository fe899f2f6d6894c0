/- Lists of sounds that a law holds, and what becomes of them. -/
import Derived.Test.YthmkbgiandncnaaStr
namespace Go.Proofs.Ythmkbgiandncnaa
open Go.RowKit

/-- a list of sounds whose blocks lie in [lo, hi) -/
structure HasS (w : World) (lo hi : Nat) (v : Value) (ss : List Snd) : Prop where
  own : OwnS w lo v ss
  top : ∀ g, v.ownBlock = some g → g < hi
  tops : ∀ s ∈ ss, ∀ g, s.blk = some g → g < hi
  le : hi ≤ w.heap.size
section
variable {w w' : World} {lo hi lo' hi' a b k : Nat} {v v' : Value} {ss ts : List Snd}
theorem HasS.of (h : OwnS w lo v ss) : HasS w lo w.heap.size v ss :=
  ⟨h, fun g hg => (World.ownsRow.lt h.row g hg).2, fun s hs g hg => (World.ownsRow.lt (h.each s hs) g hg).2, Nat.le_refl _⟩
theorem HasS.below' (h : HasS w lo hi v ss) (hb : Below hi w w') : HasS w' lo hi v ss :=
  ⟨⟨own_below h.own.row hb h.top, fun s hs => own_below (h.own.each s hs) hb (h.tops s hs), h.own.few, h.own.apart⟩, h.top, h.tops, Nat.le_trans h.le hb.size⟩
theorem HasS.below (h : HasS w lo hi v ss) (hb : Below w.heap.size w w') : HasS w' lo hi v ss := h.below' (hb.mono h.le)
theorem HasS.drew (h : HasS w lo hi v ss) : HasS w.drew lo hi v ss := h.below (below_drewN _ w 1)
theorem HasS.only (h : HasS w lo hi v ss) (ho : Only a b w w') (hd : hi ≤ a ∨ b ≤ lo) : HasS w' lo hi v ss := by
  have e : ∀ g, lo ≤ g → g < hi → g < a ∨ b ≤ g := fun g h1 h2 => by omega
  refine ⟨⟨own_only h.own.row ho fun g hg => e g (World.ownsRow.lt h.own.row g hg).1 (h.top g hg), fun s hs => own_only (h.own.each s hs) ho fun g hg => e g (World.ownsRow.lt (h.own.each s hs) g hg).1 (h.tops s hs g hg), h.own.few, h.own.apart⟩, h.top, h.tops, Nat.le_trans h.le ho.size⟩
theorem HasS.reads (h : HasS w lo hi v ss) : ∃ A c, v = .slice A ss.length c ∧ Snds w w.heap.size A ss := h.own.reads
theorem HasS.mark (h : OwnS w' lo v (marksS ss k)) (h0 : HasS w lo hi v ss) (hs : w.heap.size ≤ w'.heap.size) : HasS w' lo hi v (marksS ss k) := by
  refine ⟨h, h0.top, fun s hs g hg => ?_, Nat.le_trans h0.le hs⟩
  obtain ⟨s', hs', c, _, _, rfl⟩ := marksS_mem hs
  rw [mark_blk] at hg
  exact h0.tops s' hs' g hg
end
theorem nextS_few {ss : List Snd} (h : sndsFew ss) : nextS ss 1 ≤ 4398046511104 := by
  have key : ∀ (ts : List Snd) (k : Nat), (∀ t ∈ ts, t.xs.length ≤ 1048576) → nextS ts k ≤ k + ts.length * 1048581 := by
    intro ts
    induction ts with
    | nil => intro k _; simp [nextS]
    | cons t ts ih =>
      intro k ht
      have h1 := ih (t.next k) fun s hs => ht s (List.mem_cons_of_mem _ hs)
      have h2 := ht t (List.mem_cons_self ..)
      have h3 : t.next k ≤ k + 1048581 := by unfold Snd.next; omega
      simp only [nextS, List.length_cons]
      omega
  have := key ss 1 fun t ht => (h.2 t ht).1
  have := h.1
  omega
theorem sames_likes {ss ts : List Snd} (h : sames ss ts) : likes ss ts := ⟨sames_len h, fun _k h1 h2 => like_bareS (sames_at h h1 h2)⟩
theorem sames_symm {ss ts : List Snd} (h : sames ss ts) : sames ts ss := Eq.symm h
theorem sames_trans {ss ts us : List Snd} (h : sames ss ts) (h2 : sames ts us) : sames ss us := Eq.trans h h2

theorem eqHas_any {w : World} {lo hi lo' hi' : Nat} {v v' : Value} {ss ts : List Snd} (h : HasS w lo hi v ss) (h' : HasS w lo' hi' v' ts) (hq : likes ss ts) :
    Calls Try.prog 20 #[v, v'] w fun e w' => e = .returned (.bool true) ∧ Below w.heap.size w w' := by
  obtain ⟨A, c, rfl, h1⟩ := h.reads
  obtain ⟨A', c', rfl, h2⟩ := h'.reads
  exact eqSoundS_yes A A' c c' ss ts w _ _ (Nat.le_refl _) (Nat.le_refl _) h1 h2 hq h.own.few.1
theorem markHas_any {w : World} {lo hi : Nat} {v : Value} {ss : List Snd} (h : HasS w lo hi v ss) :
    Calls Try.prog 21 #[v, .int .i64 1] w fun e w' => e = .returned (.int .i64 (nextS ss 1 : Nat)) ∧ HasS w' lo hi v (marksS ss 1) ∧ Only lo hi w w' := by
  refine (markSoundS_any v ss 1 w lo hi h.own h.top h.tops (by omega) (nextS_few h.own.few)).mono ?_
  rintro e w' ⟨rfl, h1, h2⟩
  exact ⟨rfl, .mark h1 h h2.size, h2⟩
theorem heldHas_any {w : World} {lo hi : Nat} {v : Value} {ss : List Snd} (h : HasS w lo hi v (marksS ss 1)) (hf : sndsFew ss) :
    Calls Try.prog 22 #[v, .int .i64 1] w fun e w' => e = .returned (.int .i64 (nextS ss 1 : Nat)) ∧ Below w.heap.size w w' := by
  obtain ⟨A, c, e, h1⟩ := h.reads
  rw [marksS_len] at e
  subst e
  exact heldSoundS_any A c ss 1 w _ (Nat.le_refl _) h1 hf.1 (by omega) (nextS_few hf)
theorem specStrHas_any {w : World} {lo hi : Nat} {v : Value} {ss : List Snd} (b : Nat) (h : HasS w lo hi v ss) :
    Calls Try.prog 17 #[v, fl b] w fun e w' => ∃ v' ts, e = .returned (.tuple #[v', .bool (strOk ss b)]) ∧ sames (strRes ss b) ts ∧ HasS w' w.heap.size w'.heap.size v' ts ∧ Below w.heap.size w w' := by
  obtain ⟨A, c, rfl, h1⟩ := h.reads
  refine (specStretch_any A c ss b w _ (Nat.le_refl _) h1 h.own.few.1).mono ?_
  rintro e w' ⟨v', ts, rfl, h2, h3, h4⟩
  exact ⟨v', ts, rfl, h2, .of h3, h4⟩
theorem implStrHas_any {w : World} {lo hi : Nat} {v : Value} {ss : List Snd} (b : Nat) (h : HasS w lo hi v ss) :
    Calls Try.prog 19 #[v, fl b] w fun e w' => ∃ v' ts, e = .returned (.tuple #[v', .bool (strOk ss b)]) ∧ sames (strRes ss b) ts ∧ HasS w' w.heap.size w'.heap.size v' ts ∧ Below w.heap.size w w' := by
  obtain ⟨A, c, rfl, h1⟩ := h.reads
  refine (implStretch_any A c ss b w _ (Nat.le_refl _) h1 h.own.few.1).mono ?_
  rintro e w' ⟨v', ts, rfl, h2, h3, h4⟩
  exact ⟨v', ts, rfl, h2, .of h3, h4⟩
theorem toHas_any (A : Option Addr) (c : Nat) (ss : List Snd) (w : World) (B : Nat) (hB : B ≤ w.heap.size) (hx : Snds w B A ss) (hm : ss.length ≤ 1048576) :
    Calls Try.prog 18 #[.slice A ss.length c] w fun e w' => ∃ v ts, e = .returned v ∧ sames ss ts ∧ HasS w' w.heap.size w'.heap.size v ts ∧ Below w.heap.size w w' := by
  refine (toSoundS_any A c ss w B hB hx hm).mono ?_
  rintro e w' ⟨g, ts, rfl, h1, _, h2, h3⟩
  exact ⟨_, ts, rfl, h1, .of h2, h3⟩
end Go.Proofs.Ythmkbgiandncnaa
