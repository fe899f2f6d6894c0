/- The laws' marks: lists of sounds. -/
import Derived.Test.YthmkbgiandncnaaMarT
namespace Go.Proofs.Ythmkbgiandncnaa
open Go.RowKit

/-- from world to world nothing below the heap's old end has turned but block b -/
structure Turn (b : Option Nat) (w w' : World) : Prop where
  os : w'.os = w.os
  tape : w'.tape = w.tape
  output : w'.output = w.output
  size : w.heap.size ≤ w'.heap.size
  block : ∀ k, k < w.heap.size → b ≠ some k → w'.heap[k]? = w.heap[k]?
theorem Turn.only {b : Option Nat} {w w' : World} {lo hi : Nat} (h : Turn b w w') (hb : ∀ k, b = some k → lo ≤ k ∧ k < hi) : Only lo hi w w' :=
  ⟨h.os, h.tape, h.output, h.size, fun k hk ho => h.block k hk fun e => by have := hb k e; omega⟩
theorem OwnF.raise {w : World} {base g cap n : Nat} {xs : List Nat} (h : OwnF w base (.slice (some ⟨g, 0, none⟩) n cap) xs) : OwnF w g (.slice (some ⟨g, 0, none⟩) n cap) xs := by
  refine ⟨h.1, ?_⟩
  rcases h.2 with ⟨h2, _⟩ | ⟨g', cap', cur, hv, hg, r⟩
  · cases h2
  · have hv' := hv
    injection hv with e _ _
    injection e with e
    injection e with e _ _
    subst e
    exact .inr ⟨g, cap', cur, hv', Nat.le_refl _, r⟩
theorem markOwn_any (v : Value) (xs : List Nat) (k : Nat) (w : World) (base : Nat) (ho : OwnF w base v xs) (hm : xs.length ≤ 1048576) (hk : k ≤ 4398046511104) :
    Calls Try.prog 46 #[v, .int .i64 k] w fun e w' => e = .returned (.int .i64 (k + xs.length : Nat)) ∧ OwnF w' base v (marks k xs.length) ∧ Turn v.ownBlock w w' := by
  rcases ho.form with ⟨rfl, rfl⟩ | ⟨g, cap, rfl, hb, hg⟩
  · refine (markFloat32S_any _ _ k w base 0 ho (fun g h => by cases h) hm hk).mono ?_
    rintro e w' ⟨rfl, h1, h2⟩
    exact ⟨rfl, h1, h2.os, h2.tape, h2.output, h2.size, fun j hj _ => h2.block j hj (.inr (Nat.zero_le _))⟩
  · refine (markFloat32S_any _ _ k w g (g + 1) ho.raise (fun g' h => (show g = g' by simpa [Value.ownBlock] using h) ▸ Nat.lt_succ_self g) hm hk).mono ?_
    rintro e w' ⟨rfl, h1, h2⟩
    exact ⟨rfl, h1.less hb, h2.os, h2.tape, h2.output, h2.size, fun j hj hne => h2.block j hj (by have : g ≠ j := fun e => hne (by rw [e]; rfl); omega)⟩

/-- a sound, marked from k on -/
def Snd.mark (s : Snd) (k : Nat) : Snd := { s with name := mtext k, xs := marks (k + 1) s.xs.length, long := mrk (k + 1 + s.xs.length), ramp := mrk (k + 1 + s.xs.length + 1), voice := mrk (k + 1 + s.xs.length + 1 + 1), noise := mrk (k + 1 + s.xs.length + 1 + 1 + 1) }
def Snd.next (s : Snd) (k : Nat) : Nat := k + 1 + s.xs.length + 1 + 1 + 1 + 1
def marksS : List Snd → Nat → List Snd
  | [], _ => []
  | s :: ss, k => s.mark k :: marksS ss (s.next k)
def nextS : List Snd → Nat → Nat
  | [], k => k
  | s :: ss, k => nextS ss (s.next k)
theorem marksS_snoc (ss : List Snd) (s : Snd) (k : Nat) : marksS (ss ++ [s]) k = marksS ss k ++ [s.mark (nextS ss k)] := by
  induction ss generalizing k with
  | nil => rfl
  | cons t ss ih => simp only [List.cons_append, marksS, nextS, ih]
theorem nextS_snoc (ss : List Snd) (s : Snd) (k : Nat) : nextS (ss ++ [s]) k = s.next (nextS ss k) := by
  induction ss generalizing k with
  | nil => rfl
  | cons t ss ih => simp only [List.cons_append, nextS, ih]
theorem marksS_len (ss : List Snd) (k : Nat) : (marksS ss k).length = ss.length := by
  induction ss generalizing k with
  | nil => rfl
  | cons t ss ih => simp only [marksS, List.length_cons, ih]
theorem mark_val (s : Snd) (k : Nat) : (s.mark k).val = s.val := by simp [Snd.val, Snd.mark, marks_len]
theorem mark_blk (s : Snd) (k : Nat) : (s.mark k).blk = s.blk := by unfold Snd.blk; rw [mark_val]
/-- two rows of things of two types lie in two blocks -/
theorem row_ne {w : World} {base base' sz sz' n n' m m' g b cap cap' : Nat} {e e' : TypeId} {ys ys' : List Value} (he : e ≠ e') (h : w.ownsRow base e sz (.slice (some ⟨g, 0, none⟩) n cap) n' ys)
    (h' : w.ownsRow base' e' sz' (.slice (some ⟨b, 0, none⟩) m cap') m' ys') : g ≠ b := by
  rintro rfl
  rcases h.2 with ⟨h2, _⟩ | ⟨g1, c1, cur1, e1, _, r1, _⟩
  · cases h2
  rcases h'.2 with ⟨h2, _⟩ | ⟨g2, c2, cur2, e2, _, r2, _⟩
  · cases h2
  injection e1 with e1 _ _
  injection e1 with e1
  injection e1 with e1 _ _
  injection e2 with e2 _ _
  injection e2 with e2
  injection e2 with e2 _ _
  subst e1; subst e2
  rw [r1] at r2
  injection r2 with r2
  injection r2 with _ r2 _
  exact he r2

theorem next_ge (s : Snd) (k : Nat) : k < s.next k := by unfold Snd.next; omega
theorem nextS_ge (ss : List Snd) (k : Nat) : k ≤ nextS ss k := by
  induction ss generalizing k with
  | nil => exact Nat.le_refl _
  | cons s ss ih => exact Nat.le_trans (Nat.le_of_lt (next_ge s k)) (ih _)
theorem nextS_app (ps qs : List Snd) (k : Nat) : nextS (ps ++ qs) k = nextS qs (nextS ps k) := by
  induction ps generalizing k with
  | nil => rfl
  | cons s ss ih => exact ih _
theorem nextS_take (ss : List Snd) (k j : Nat) : nextS (ss.take j) k ≤ nextS ss k := by
  have h := nextS_app (ss.take j) (ss.drop j) k
  rw [List.take_append_drop] at h
  rw [h]; exact nextS_ge _ _
theorem nextS_step (ss : List Snd) (k j : Nat) (h : j < ss.length) : nextS (ss.take (j + 1)) k = ss[j].next (nextS (ss.take j) k) := by
  rw [List.take_succ_eq_append_getElem h, nextS_snoc]
theorem digs_size : ∀ (d r : Nat) (b : ByteArray), r < 10 ^ d → (digs r b).size ≤ b.size + d
  | 0, r, b, h => by
    have : r = 0 := by simpa using h
    subst this
    rw [digs_0]; omega
  | d + 1, r, b, h => by
    rcases Nat.eq_zero_or_pos r with rfl | hr
    · rw [digs_0]; omega
    · rw [digs_step hr]
      have h2 := digs_size d (r / 10) (⟨#[dig r]⟩ ++ b) (by rw [Nat.pow_succ] at h; omega)
      have h3 : (⟨#[dig r]⟩ ++ b : ByteArray).size = 1 + b.size := by rw [ByteArray.size_append]; rfl
      omega
theorem mtext_size {k : Nat} (h : k ≤ 4398046511104) : (mtext k).size ≤ 1048576 := by
  have h2 := digs_size 13 k ByteArray.empty (by omega)
  have h3 : (mtext k).size = 1 + (digs k ByteArray.empty).size := by unfold mtext; rw [ByteArray.size_append]; rfl
  have h4 : ByteArray.empty.size = 0 := rfl
  omega
theorem marksS_mem {ss : List Snd} {k : Nat} {t : Snd} (h : t ∈ marksS ss k) : ∃ s ∈ ss, ∃ c, k ≤ c ∧ c ≤ nextS ss k ∧ t = s.mark c := by
  induction ss generalizing k with
  | nil => cases h
  | cons s ss ih =>
    rcases List.mem_cons.1 h with rfl | h
    · exact ⟨s, by simp, k, Nat.le_refl _, nextS_ge (s :: ss) k, rfl⟩
    · obtain ⟨s', hs', c, h1, h2, rfl⟩ := ih h
      exact ⟨s', by simp [hs'], c, Nat.le_trans (Nat.le_of_lt (next_ge s k)) h1, h2, rfl⟩
theorem marksS_few {ss : List Snd} {k : Nat} (h : sndsFew ss) (hk : nextS ss k ≤ 4398046511104) : sndsFew (marksS ss k) := by
  refine ⟨by rw [marksS_len]; exact h.1, fun t ht => ?_⟩
  obtain ⟨s, hs, c, _, h2, rfl⟩ := marksS_mem ht
  have := h.2 s hs
  exact ⟨by simp only [Snd.mark, marks_len]; exact this.1, mtext_size (by omega)⟩
theorem marksS_apart {ss : List Snd} (h : ss.Pairwise fun s t => s.blk = none ∨ s.blk ≠ t.blk) (k : Nat) : (marksS ss k).Pairwise fun s t => s.blk = none ∨ s.blk ≠ t.blk := by
  induction ss generalizing k with
  | nil => exact .nil
  | cons s ss ih =>
    rw [List.pairwise_cons] at h
    refine List.pairwise_cons.2 ⟨fun t ht => ?_, ih h.2 _⟩
    obtain ⟨s', hs', c, _, _, rfl⟩ := marksS_mem ht
    rw [mark_blk, mark_blk]
    exact h.1 s' hs'

section
variable {w w' : World} {base B g n cap : Nat} {v : Value} {xs : List Nat} {ss : List Snd} {s t : Snd}
theorem OwnF.turn {b : Option Nat} (h : OwnF w base v xs) (ht : Turn b w w') (hb : v.ownBlock = none ∨ v.ownBlock ≠ b) : OwnF w' base v xs := by
  refine ⟨h.1, ?_⟩
  rcases h.2 with h2 | ⟨g, cap, cur, rfl, hg, hh, r⟩
  · exact .inl h2
  · refine .inr ⟨g, cap, cur, rfl, hg, ?_, r⟩
    have hlt := (World.ownsRow.lt h g rfl).2
    rw [ht.block g hlt (fun e => hb.elim (fun hb => by cases hb) (fun hb => hb (by rw [e]; rfl)))]
    exact hh
theorem row_turn {b : Option Nat} {e sz m : Nat} {ys : List Value} (h : w.ownsRow base e sz (.slice (some ⟨g, 0, none⟩) n cap) m ys) (ht : Turn b w w') (hb : b ≠ some g) : w'.ownsRow base e sz (.slice (some ⟨g, 0, none⟩) n cap) m ys := by
  refine ⟨h.1, ?_⟩
  rcases h.2 with h2 | ⟨g', cap', cur, hv, hg, hh, r⟩
  · exact .inl h2
  · have hv' := hv
    injection hv' with e1 _ _
    injection e1 with e1
    injection e1 with e1 _ _
    subst e1
    refine .inr ⟨g, cap', cur, hv, hg, ?_, r⟩
    rw [ht.block g (World.ownsRow.lt h g rfl).2 hb]
    exact hh
theorem turn_set (w : World) (a : Addr) (u : Value) : Turn (some a.block) w (w.setCell a u) :=
  ⟨rfl, rfl, rfl, by rw [size_set]; exact Nat.le_refl _, fun k _ hk => Below.heap_setCell w a u k (fun e => hk (by rw [e]))⟩
theorem OwnF.far (h : OwnF w base v xs) {a : Addr} {u : Value} (hb : v.ownBlock = none ∨ v.ownBlock ≠ some a.block) : OwnF (w.setCell a u) base v xs := h.turn (turn_set _ _ _) hb
/-- the areas of a sound lie in another block than a row of sounds -/
theorem blk_row {base' m : Nat} {ys : List Value} (h : OwnF w base s.val s.xs) (h' : w.ownsRow base' 98 6 (.slice (some ⟨g, 0, none⟩) n cap) m ys) : s.blk = none ∨ s.blk ≠ some g := by
  rcases h.form with ⟨h1, h2⟩ | ⟨b, c, h1, _, _⟩
  · left; unfold Snd.blk; rw [h1]; rfl
  · right
    unfold Snd.blk
    have h3 := h
    rw [h1] at h3 ⊢
    intro e
    have : b = g := by simpa [Value.ownBlock] using e
    exact row_ne (by decide) h3 h' this
theorem OwnF.far6 {i : Nat} {b2 b3 b4 b5 : Value} (h : OwnF w base v xs) (hb : v.ownBlock = none ∨ v.ownBlock ≠ some g) :
    OwnF ((((w.setCell ⟨g, i + 2, none⟩ b2).setCell ⟨g, i + 3, none⟩ b3).setCell ⟨g, i + 4, none⟩ b4).setCell ⟨g, i + 5, none⟩ b5) base v xs :=
  (((h.far hb).far hb).far hb).far hb
end
/-- the first j sounds are marked -/
def mix (ss : List Snd) (k j : Nat) : List Value := (marksS (ss.take j) k).flatMap Snd.cells ++ (ss.drop j).flatMap Snd.cells
theorem mix_0 (ss : List Snd) (k : Nat) : mix ss k 0 = ss.flatMap Snd.cells := by simp [mix, marksS]
theorem mix_end (ss : List Snd) (k j : Nat) (h : ss.length ≤ j) : mix ss k j = (marksS ss k).flatMap Snd.cells := by simp [mix, List.take_of_length_le h, List.drop_eq_nil_of_le h]
theorem mix_at (ss : List Snd) (k j : Nat) (h : j < ss.length) : mix ss k j = (marksS (ss.take j) k).flatMap Snd.cells ++ (ss[j].cells ++ (ss.drop (j + 1)).flatMap Snd.cells) := by
  unfold mix; rw [List.drop_eq_getElem_cons h, List.flatMap_cons]
theorem mix_next (ss : List Snd) (k j : Nat) (h : j < ss.length) : mix ss k (j + 1) = (marksS (ss.take j) k).flatMap Snd.cells ++ ((ss[j].mark (nextS (ss.take j) k)).cells ++ (ss.drop (j + 1)).flatMap Snd.cells) := by
  unfold mix; rw [List.take_succ_eq_append_getElem h, marksS_snoc, List.flatMap_append, List.append_assoc]; simp
theorem mix_pre (ss : List Snd) (k j : Nat) (h : j ≤ ss.length) : ((marksS (ss.take j) k).flatMap Snd.cells).length = j * 6 := by
  rw [flat_len, marksS_len, List.length_take, Nat.min_eq_left h]
theorem pair_get {α : Type} {R : α → α → Prop} {xs : List α} (h : xs.Pairwise R) (j : Nat) (hj : j < xs.length) : (∀ a ∈ xs.take j, R a xs[j]) ∧ (∀ a ∈ xs.drop (j + 1), R xs[j] a) := by
  have e : xs = xs.take j ++ (xs[j] :: xs.drop (j + 1)) := by rw [← List.drop_eq_getElem_cons hj, List.take_append_drop]
  rw [e] at h
  rw [List.pairwise_append, List.pairwise_cons] at h
  exact ⟨fun a ha => h.2.2 a ha _ (List.mem_cons_self ..), h.2.1.1⟩
theorem offB_symm {a b : Option Nat} (h : a = none ∨ a ≠ b) : b = none ∨ b ≠ a := by
  rcases h with rfl | h
  · cases b
    · exact .inl rfl
    · exact .inr (by simp)
  · exact .inr (Ne.symm h)

theorem row_at {pre c post : List Value} {n j : Nat} (hp : pre.length = n * 6) (hc : c.length = 6) (hj : j < 6) : (pre ++ (c ++ post))[n * 6 + j]? = c[j]? := by
  rw [List.getElem?_append_right (by omega), List.getElem?_append_left (by omega), show n * 6 + j - pre.length = j by omega]
theorem mark6 {pre post : List Value} {n : Nat} (hp : pre.length = n * 6) {s : Snd} {b0 b2 b3 b4 b5 : Value} :
    ((((((pre ++ (s.cells ++ post)).set (n * 6) b0).set (n * 6 + 2) b2).set (n * 6 + 3) b3).set (n * 6 + 4) b4).set (n * 6 + 5) b5) = pre ++ ([b0, s.val, b2, b3, b4, b5] ++ post) := by
  rw [← hp]
  have := set_app pre (s.cells ++ post) 0 b0
  rw [Nat.add_zero] at this
  rw [this, set_app, set_app, set_app, set_app]
  rfl

theorem mark_cells (s : Snd) (k : Nat) : (s.mark k).cells = [.string (mtext k), s.val, fl (mrk (k + 1 + s.xs.length)), fl (mrk (k + 1 + s.xs.length + 1)), fl (mrk (k + 1 + s.xs.length + 1 + 1)), fl (mrk (k + 1 + s.xs.length + 1 + 1 + 1))] := by
  unfold Snd.cells Snd.mark Snd.val
  simp only [marks_len]

set_option maxHeartbeats 4000000 in
theorem markSoundS_any (v : Value) (ss : List Snd) (k : Nat) (w : World) (lo hi : Nat) (ho : OwnS w lo v ss) (hv : ∀ g, v.ownBlock = some g → g < hi) (hs : ∀ s ∈ ss, ∀ g, s.blk = some g → g < hi) (h0 : 0 < k) (hk : nextS ss k ≤ 4398046511104) :
    Calls Try.prog 21 #[v, .int .i64 k] w fun e w' => e = .returned (.int .i64 (nextS ss k : Nat)) ∧ OwnS w' lo v (marksS ss k) ∧ Only lo hi w w' := by
  rcases ho.form with ⟨rfl, rfl⟩ | ⟨g, cap, rfl, hb, hg⟩
  · go_enter Try.func21, Try.ntmps21
    go_wp2
    go_loopw [1, 5] (fun i j wr => i = .int .i64 k ∧ j = .int .i64 0 ∧ wr = w) (fun _ _ _ => 0)
    case atStart => exact ⟨rfl, rfl, rfl⟩
    case round =>
      obtain ⟨rfl, rfl, rfl⟩ := hrel
      go_wp2
      go_ret
      exact ⟨rfl, ho, Only.refl _ _ _⟩
  · have hgh := hv g rfl
    have hm := ho.few.1
    have HO := Lib.hid ho; clear ho hv
    have HS := Lib.hid hs; clear hs
    go_enter Try.func21, Try.ntmps21
    go_wp2
    go_loopw [1, 5] (fun i j wr => ∃ n : Nat, n ≤ ss.length ∧ i = .int .i64 (nextS (ss.take n) k : Nat) ∧ j = .int .i64 n ∧ wr.ownsRow lo 98 6 (.slice (some ⟨g, 0, none⟩) ss.length cap) ss.length (mix ss k n) ∧
      (∀ s ∈ marksS (ss.take n) k, OwnF wr lo s.val s.xs) ∧ (∀ s ∈ ss.drop n, OwnF wr lo s.val s.xs) ∧ Only lo hi w wr) (fun _ j _ => ss.length - (intOf j).toNat)
    case atStart => exact ⟨0, Nat.zero_le _, rfl, rfl, by rw [mix_0]; exact HO.out.row, by simp [marksS], by simpa using HO.out.each, Only.refl _ _ _⟩
    case round =>
      obtain ⟨n, hn, rfl, rfl, hown, hdone, htodo, hon⟩ := hrel
      have hq := nextS_take ss k n
      have hq0 := nextS_ge (ss.take n) k
      by_cases hlt : n < ss.length
      · have hq2 := nextS_step ss k n hlt
        have hq3 := nextS_take ss k (n + 1)
        have hxm := (HO.out.few.2 _ (List.getElem_mem hlt)).1
        have hpre := mix_pre ss k n (by omega)
        have hpa := pair_get HO.out.apart n hlt
        rw [mix_at ss k n hlt] at hown
        have hblk := blk_row (htodo ss[n] (by rw [List.drop_eq_getElem_cons hlt]; exact List.mem_cons_self ..)) hown
        have HR := Lib.hid hown; clear hown
        have HDn := Lib.hid hdone; have HTd := Lib.hid htodo; have HN := Lib.hid hon; clear hdone htodo hon
        have hq4 : nextS (ss.take n) k + 1 + ss[n].xs.length + 4 ≤ 4398046511104 := by rw [hq2] at hq3; unfold Snd.next at hq3; omega
        have HQ2 := Lib.hid hq2; clear hq2
        have HPr := Lib.hid hpre; clear hpre
        have HPa := Lib.hid hpa; clear hpa
        have HBk := Lib.hid hblk; clear hblk
        generalize hkk : nextS (ss.take n) k = kk at *
        have HKK := Lib.hid hkk; clear hkk
        go_wp2_with fail
        refine (markText_any kk wr (by omega) (by omega)).mono ?_
        rintro e w1 ⟨rfl, hb1⟩
        have hrow := own_below HR.out hb1 fun k hk => (World.ownsRow.lt HR.out k hk).2
        obtain ⟨v0, q0⟩ := own_cell hrow (show n * 6 < _ by omega)
        have q1 : w1.cell? ⟨g, n * 6 + 1, none⟩ = some (.slice ss[n].A ss[n].xs.length ss[n].c) := by
          rw [World.ownsRow.cellAt hrow _ (by omega), row_at HPr.out rfl (by omega)]; rfl
        have fz : ∀ j, w1.frozen? ⟨g, j, none⟩ = false := World.ownsRow.frozenAt hrow
        have hb1' := hb1
        have HB1 := Lib.hid hb1'; clear hb1'
        have HRow := Lib.hid hrow; clear hrow
        clear hb1
        go_wp2_with fail
        have hown : OwnF (w1.setCell ⟨g, n * 6, none⟩ (.string (mtext kk))) lo ss[n].val ss[n].xs :=
          ((HTd.out ss[n] (by rw [List.drop_eq_getElem_cons hlt]; exact List.mem_cons_self ..)).below HB1.out).far HBk.out
        refine (markOwn_any ss[n].val ss[n].xs (kk + 1) _ lo hown hxm (by omega)).mono ?_
        rintro e w2 ⟨rfl, hm2, ht2⟩
        have hr1 := (World.ownsRow.stored HRow.out (n * 6) (.string (mtext kk))).1
        have hne : ss[n].val.ownBlock ≠ some g := by
          intro e
          rcases HBk.out with h | h
          · rw [show ss[n].val.ownBlock = none from h] at e; cases e
          · exact h e
        have hr2 := row_turn hr1 ht2 hne
        clear hown hr1
        obtain ⟨v2, q2⟩ := own_cell hr2 (show n * 6 + 2 < _ by omega)
        obtain ⟨v3, q3⟩ := own_cell hr2 (show n * 6 + 3 < _ by omega)
        obtain ⟨v4, q4⟩ := own_cell hr2 (show n * 6 + 4 < _ by omega)
        obtain ⟨v5, q5⟩ := own_cell hr2 (show n * 6 + 5 < _ by omega)
        clear fz
        have fz : ∀ j, w2.frozen? ⟨g, j, none⟩ = false := World.ownsRow.frozenAt hr2
        have hr3 := (World.ownsRow.stored (World.ownsRow.stored (World.ownsRow.stored (World.ownsRow.stored hr2 (n * 6 + 2) (fl (mrk (kk + 1 + ss[n].xs.length)))).1 (n * 6 + 3) (fl (mrk (kk + 1 + ss[n].xs.length + 1)))).1 (n * 6 + 4) (fl (mrk (kk + 1 + ss[n].xs.length + 1 + 1)))).1 (n * 6 + 5) (fl (mrk (kk + 1 + ss[n].xs.length + 1 + 1 + 1)))).1
        rw [mark6 HPr.out] at hr3
        have hrn : (w.heap.size : Nat) ≤ w.heap.size := Nat.le_refl _
        have HR3 := Lib.hid hr3; clear hr3 hr2 hrn
        have HM2 := Lib.hid hm2; clear hm2
        have HT2 := Lib.hid ht2; clear ht2
        have HNe := Lib.hid hne; clear hne
        clear q0 q1
        go_wp2_with fail
        have e1 : floatOfInt .f32 ((kk : Int) + 1 + (ss[n].xs.length : Int)) = mrk (kk + 1 + ss[n].xs.length) := by unfold mrk; simp
        have e2 : floatOfInt .f32 ((kk : Int) + 1 + (ss[n].xs.length : Int) + 1) = mrk (kk + 1 + ss[n].xs.length + 1) := by unfold mrk; simp
        have e3 : floatOfInt .f32 ((kk : Int) + 1 + (ss[n].xs.length : Int) + 1 + 1) = mrk (kk + 1 + ss[n].xs.length + 1 + 1) := by unfold mrk; simp
        have e4 : floatOfInt .f32 ((kk : Int) + 1 + (ss[n].xs.length : Int) + 1 + 1 + 1) = mrk (kk + 1 + ss[n].xs.length + 1 + 1 + 1) := by unfold mrk; simp
        rw [e1, e2, e3, e4]
        clear e1 e2 e3 e4 q2 q3 q4 q5 fz
        have hfar : ∀ s : Snd, OwnF wr lo s.val s.xs → (s.blk = none ∨ s.blk ≠ ss[n].blk) → OwnF ((((w2.setCell ⟨g, n * 6 + 2, none⟩ (fl (mrk (kk + 1 + ss[n].xs.length)))).setCell ⟨g, n * 6 + 3, none⟩ (fl (mrk (kk + 1 + ss[n].xs.length + 1)))).setCell ⟨g, n * 6 + 4, none⟩ (fl (mrk (kk + 1 + ss[n].xs.length + 1 + 1)))).setCell ⟨g, n * 6 + 5, none⟩ (fl (mrk (kk + 1 + ss[n].xs.length + 1 + 1 + 1)))) lo s.val s.xs := by
          intro s hs hb
          have hr := blk_row hs HR.out
          exact (((hs.below HB1.out).far (a := ⟨g, n * 6, none⟩) hr).turn HT2.out hb).far6 hr
        go_roundw
        case rel =>
          refine ⟨n + 1, by omega, by rw [HQ2.out]; unfold Snd.next; go_num, by go_num, ?_, ?_, ?_, ?_⟩
          · rw [mix_next ss k n hlt, HKK.out, mark_cells]; exact HR3.out
          · intro s hs
            rw [List.take_succ_eq_append_getElem hlt, marksS_snoc, HKK.out] at hs
            rcases List.mem_append.1 hs with hs | hs
            · obtain ⟨s', hs', c, _, _, rfl⟩ := marksS_mem hs
              exact hfar _ (HDn.out _ hs) (by rw [mark_blk]; exact HPa.out.1 s' hs')
            · simp at hs; subst hs
              rw [mark_val]
              exact HM2.out.far6 (.inr HNe.out)
          · intro s hs
            exact hfar s (HTd.out s (by rw [List.drop_eq_getElem_cons hlt]; exact List.mem_cons_of_mem _ hs)) (offB_symm (HPa.out.2 s hs))
          · have h1 := (HN.out.trans (.of_below HB1.out)).setCell (a := ⟨g, n * 6, none⟩) hb hgh (.string (mtext kk))
            have h2 := h1.trans (HT2.out.only (lo := lo) (hi := hi) fun b hbb => ⟨((HTd.out ss[n] (by rw [List.drop_eq_getElem_cons hlt]; exact List.mem_cons_self ..))).ge hbb, HS.out _ (List.getElem_mem hlt) b hbb⟩)
            exact (((h2.setCell hb hgh _).setCell hb hgh _).setCell hb hgh _).setCell hb hgh _
        case measure => simp [intOf]; omega
      · rw [mix_end ss k n (by omega)] at hown
        have hend : ss.take n = ss := List.take_of_length_le (by omega)
        rw [hend] at hdone
        have HE := Lib.hid hend; clear hend
        have HR := Lib.hid hown; clear hown
        have HDn := Lib.hid hdone; have HN := Lib.hid hon; clear hdone htodo hon
        go_wp2
        go_ret
        refine ⟨ret_int (by rw [HE.out]), ⟨?_, HDn.out, marksS_few HO.out.few hk, marksS_apart HO.out.apart k⟩, HN.out⟩
        rw [marksS_len]; exact HR.out
end Go.Proofs.Ythmkbgiandncnaa
