/- The laws' copies of lists of sounds: what such a copy owns. -/
import Derived.Test.YthmkbgiandncnaaTo
import Derived.Test.YthmkbgiandncnaaSz
namespace Go.Proofs.Ythmkbgiandncnaa
open Go.RowKit

theorem infoS : (Try.prog.info? 98).map (fun i => (i.zero, i.size, i.bytes)) = some (some (.agg #[.string ByteArray.empty, .slice none 0 0, fl 0, fl 0, fl 0, fl 0]), 6, 56) := by kernel_rfl

/-- a sound without the place of its areas -/
def Snd.bare (s : Snd) : Snd := { s with A := none, c := 0 }
def Snd.val (s : Snd) : Value := .slice s.A s.xs.length s.c
def Snd.blk (s : Snd) : Option Nat := s.val.ownBlock
def zeroS : List Value := [.string ByteArray.empty, .slice none 0 0, fl 0, fl 0, fl 0, fl 0]
/-- a list of sounds that was made from block base on, no two of whose areas lie in one block -/
structure OwnS (w : World) (base : Nat) (v : Value) (ss : List Snd) : Prop where
  row : w.ownsRow base 98 6 v ss.length (ss.flatMap Snd.cells)
  each : ∀ s ∈ ss, OwnF w base s.val s.xs
  few : sndsFew ss
  apart : ss.Pairwise fun s t => s.blk = none ∨ s.blk ≠ t.blk

/-- lists of the same sounds, wherever their areas lie -/
def sames (ss ts : List Snd) : Prop := ss.map Snd.bare = ts.map Snd.bare
theorem sames_len {ss ts : List Snd} (h : sames ss ts) : ss.length = ts.length := by have := congrArg List.length h; simpa using this
theorem sames_snoc {ss ts : List Snd} {s t : Snd} (h : sames ss ts) (h2 : s.bare = t.bare) : sames (ss ++ [s]) (ts ++ [t]) := by
  unfold sames at *; simp [h, h2]
theorem bare_few {s t : Snd} (h : s.bare = t.bare) (hf : s.few) : t.few := by
  unfold Snd.few at *
  have h1 : s.bare.xs = t.bare.xs := by rw [h]
  have h2 : s.bare.name = t.bare.name := by rw [h]
  exact ⟨by rw [show t.xs = s.xs from h1.symm]; exact hf.1, by rw [show t.name = s.name from h2.symm]; exact hf.2⟩
theorem sames_few {ss ts : List Snd} (h : sames ss ts) (hf : sndsFew ss) : sndsFew ts := by
  refine ⟨by rw [← sames_len h]; exact hf.1, fun t ht => ?_⟩
  have : t.bare ∈ ss.map Snd.bare := by rw [h]; exact List.mem_map_of_mem ht
  obtain ⟨s, hs, e⟩ := List.mem_map.1 this
  exact bare_few e (hf.2 s hs)

section
variable {w w' : World} {base B n : Nat} {v : Value} {ss : List Snd} {s : Snd}
theorem OwnS.below (h : OwnS w base v ss) (hb : Below w.heap.size w w') : OwnS w' base v ss :=
  ⟨own_below h.row hb fun k hk => (World.ownsRow.lt h.row k hk).2, fun s hs => (h.each s hs).below hb, h.few, h.apart⟩
theorem OwnS.less (h : OwnS w base v ss) {base' : Nat} (hb : base' ≤ base) : OwnS w base' v ss := by
  refine ⟨⟨h.row.1, ?_⟩, fun s hs => (h.each s hs).less hb, h.few, h.apart⟩
  rcases h.row.2 with h2 | ⟨g, cap, cur, hv, hg, r⟩
  · exact .inl h2
  · exact .inr ⟨g, cap, cur, hv, by omega, r⟩
theorem OwnS.form (h : OwnS w base v ss) : (v = .slice none 0 0 ∧ ss = []) ∨ ∃ g cap, v = .slice (some ⟨g, 0, none⟩) ss.length cap ∧ base ≤ g ∧ g < w.heap.size := by
  rcases h.row.2 with ⟨h1, h2⟩ | ⟨g, cap, cur, hv, hb, hh, _⟩
  · exact .inl ⟨h1, List.eq_nil_of_length_eq_zero h2⟩
  · refine .inr ⟨g, cap, hv, hb, ?_⟩
    rcases Nat.lt_or_ge g w.heap.size with hlt | hge
    · exact hlt
    · rw [Array.getElem?_eq_none hge] at hh; cases hh
theorem val_form {s : Snd} (h : OwnF w base s.val s.xs) : Fs w w.heap.size s.A s.xs := by
  obtain ⟨A, c, e, hf⟩ := h.reads
  unfold Snd.val at e
  injection e with e1 _ _
  rw [e1]; exact hf
/-- it reads as its sounds -/
theorem OwnS.reads (h : OwnS w base v ss) : ∃ A c, v = .slice A ss.length c ∧ Snds w w.heap.size A ss := by
  have he : ∀ s ∈ ss, SndIn w w.heap.size s := fun s hs => ⟨val_form (h.each s hs), h.few.2 s hs⟩
  rcases h.form with ⟨rfl, rfl⟩ | ⟨g, cap, rfl, hb, hg⟩
  · exact ⟨none, 0, rfl, Sl.nil _ _ _ _, by simp⟩
  · exact ⟨_, cap, rfl, ⟨by rw [flat_len], fun _ => ⟨_, rfl, hg, World.ownsRow.cells h.row (g := g) rfl⟩⟩, he⟩
end

/-! ### six cells of a row -/
theorem set_app {α : Type} (pre l : List α) (j : Nat) (v : α) : (pre ++ l).set (pre.length + j) v = pre ++ l.set j v := by
  rw [List.set_append_right _ _ (by omega), Nat.add_sub_cancel_left]
theorem set6 {pre post : List Value} {k : Nat} (hk : pre.length = k * 6) (a0 a1 a2 a3 a4 a5 b0 b1 b2 b3 b4 b5 : Value) :
    ((((((pre ++ ([a0, a1, a2, a3, a4, a5] ++ post)).set (k * 6) b0).set (k * 6 + 1) b1).set (k * 6 + 2) b2).set (k * 6 + 3) b3).set (k * 6 + 4) b4).set (k * 6 + 5) b5 = pre ++ ([b0, b1, b2, b3, b4, b5] ++ post) := by
  rw [← hk]
  have := set_app pre ([a0, a1, a2, a3, a4, a5] ++ post) 0 b0
  rw [Nat.add_zero] at this
  rw [this, set_app, set_app, set_app, set_app, set_app]
  rfl
def zerosS (n : Nat) : List Value := (List.replicate n zeroS).flatten
theorem zerosS_succ (n : Nat) : zerosS (n + 1) = zeroS ++ zerosS n := by unfold zerosS; rw [List.replicate_succ, List.flatten_cons]
theorem zerosS_snoc (n : Nat) : zerosS (n + 1) = zerosS n ++ zeroS := by unfold zerosS; rw [List.replicate_succ', List.flatten_append]; simp
theorem madeS (n : Nat) : (madeCells (Value.agg #[.string ByteArray.empty, .slice none 0 0, fl 0, fl 0, fl 0, fl 0]).cells (n * 6)).toList = zerosS n := by
  have key : ∀ n : Nat, (List.range (n * 6)).map (fun i => (#[.string ByteArray.empty, .slice none 0 0, fl 0, fl 0, fl 0, fl 0] : Array Value)[i % 6]!) = zerosS n := by
    intro n
    induction n with
    | zero => rfl
    | succ n ih =>
      rw [zerosS_snoc, ← ih, show (n + 1) * 6 = n * 6 + 6 from by omega]
      rw [List.range_add, List.map_append]
      congr 1
      simp only [List.map_map]
      have e : ∀ j, j < 6 → (n * 6 + j) % 6 = j := fun j hj => by omega
      show [_, _, _, _, _, _] = _
      simp only [Function.comp, e 0 (by omega), e 1 (by omega), e 2 (by omega), e 3 (by omega), e 4 (by omega), e 5 (by omega)]
      rfl
  unfold madeCells
  rw [Array.toList_map, Array.toList_range]
  exact key n

theorem own_cell {w : World} {base g n cap j : Nat} {zs : List Value} (h : w.ownsRow base 98 6 (.slice (some ⟨g, 0, none⟩) n cap) n zs) (hj : j < n * 6) : ∃ v, w.cell? ⟨g, j, none⟩ = some v := by
  have hl := h.1
  exact ⟨zs[j]'(by omega), by rw [World.ownsRow.cellAt h j hj, List.getElem?_eq_getElem]⟩
/-- six cells of a row of sounds are written -/
theorem own_set6 {w : World} {base g n cap k : Nat} {pre post : List Value} {a0 a1 a2 a3 a4 a5 : Value} (hk : pre.length = k * 6) (h : w.ownsRow base 98 6 (.slice (some ⟨g, 0, none⟩) n cap) n (pre ++ ([a0, a1, a2, a3, a4, a5] ++ post))) (b0 b1 b2 b3 b4 b5 : Value) :
    ((((((w.setCell ⟨g, k * 6, none⟩ b0).setCell ⟨g, k * 6 + 1, none⟩ b1).setCell ⟨g, k * 6 + 2, none⟩ b2).setCell ⟨g, k * 6 + 3, none⟩ b3).setCell ⟨g, k * 6 + 4, none⟩ b4).setCell ⟨g, k * 6 + 5, none⟩ b5).ownsRow base 98 6 (.slice (some ⟨g, 0, none⟩) n cap) n (pre ++ ([b0, b1, b2, b3, b4, b5] ++ post)) := by
  have h1 := (World.ownsRow.stored h (k * 6) b0).1
  have h2 := (World.ownsRow.stored h1 (k * 6 + 1) b1).1
  have h3 := (World.ownsRow.stored h2 (k * 6 + 2) b2).1
  have h4 := (World.ownsRow.stored h3 (k * 6 + 3) b3).1
  have h5 := (World.ownsRow.stored h4 (k * 6 + 4) b4).1
  have h6 := (World.ownsRow.stored h5 (k * 6 + 5) b5).1
  rw [set6 hk] at h6
  exact h6
theorem OwnF.set6 {w : World} {base g i : Nat} {v : Value} {xs : List Nat} {b0 b1 b2 b3 b4 b5 : Value} (h : OwnF w base v xs) (hg : g < base) :
    OwnF ((((((w.setCell ⟨g, i, none⟩ b0).setCell ⟨g, i + 1, none⟩ b1).setCell ⟨g, i + 2, none⟩ b2).setCell ⟨g, i + 3, none⟩ b3).setCell ⟨g, i + 4, none⟩ b4).setCell ⟨g, i + 5, none⟩ b5) base v xs :=
  .set_ (.set_ (.set_ (.set_ (.set_ (.set_ h hg) hg) hg) hg) hg) hg
theorem below_set6 {w w0 : World} {B g i : Nat} {b0 b1 b2 b3 b4 b5 : Value} (h : Below B w0 w) (hg : B ≤ g) :
    Below B w0 ((((((w.setCell ⟨g, i, none⟩ b0).setCell ⟨g, i + 1, none⟩ b1).setCell ⟨g, i + 2, none⟩ b2).setCell ⟨g, i + 3, none⟩ b3).setCell ⟨g, i + 4, none⟩ b4).setCell ⟨g, i + 5, none⟩ b5) :=
  (((((h.setCell hg _).setCell hg _).setCell hg _).setCell hg _).setCell hg _).setCell hg _
theorem size_set (w : World) (a : Addr) (u : Value) : (w.setCell a u).heap.size = w.heap.size := by simp [World.setCell]
theorem apart_snoc {ts : List Snd} {t : Snd} (h : ts.Pairwise fun s t => s.blk = none ∨ s.blk ≠ t.blk) (h2 : ∀ s ∈ ts, s.blk = none ∨ s.blk ≠ t.blk) : (ts ++ [t]).Pairwise fun s t => s.blk = none ∨ s.blk ≠ t.blk := by
  rw [List.pairwise_append]
  exact ⟨h, by simp, fun a ha b hb => by simp at hb; subst hb; exact h2 a ha⟩

set_option maxHeartbeats 1000000 in
theorem toSoundS_any (A : Option Addr) (c : Nat) (ss : List Snd) (w : World) (B : Nat) (hB : B ≤ w.heap.size) (hx : Snds w B A ss) (hm : ss.length ≤ 1048576) :
    Calls Try.prog 18 #[.slice A ss.length c] w fun e w' => ∃ g ts, e = .returned (.slice (some ⟨g, 0, none⟩) ss.length ss.length) ∧ sames ss ts ∧ w.heap.size ≤ g ∧ OwnS w' w.heap.size (.slice (some ⟨g, 0, none⟩) ss.length ss.length) ts ∧ Below w.heap.size w w' := by
  obtain ⟨i0, hi, hz0, hz1, hz2⟩ := info_parts infoS
  go_enter Try.func18, Try.ntmps18
  go_wp2_with (at_make; refine wpList_make_full _ rfl _ _ 31 rfl w.heap.size 98 i0 _ 6 Try.underlying31 hi hz0 hz1 .i64 .i64 _ _ ss.length rfl rfl rfl rfl (by rw [hz2]; omega) (by unfold maxLen; omega) (Nat.le_refl _) ?_; intro w0 hown hg)
  rw [madeS] at hown
  have hb0 : Below w.heap.size w w0 := (Below.refl _ _).grown hg (Nat.le_refl _) (by simp)
  have hz : w.heap.size + 1 ≤ w0.heap.size := by have := (World.ownsRow.lt hown w.heap.size rfl).2; omega
  have HO := Lib.hid hown; clear hown
  have HB0 := Lib.hid hb0; clear hb0 hg hi hz0 hz1 hz2
  go_loopw [4] (fun i wr => ∃ (k : Nat) (ts : List Snd), k ≤ ss.length ∧ i = .int .i64 k ∧ sames (ss.take k) ts ∧
    wr.ownsRow w.heap.size 98 6 (.slice (some ⟨w.heap.size, 0, none⟩) ss.length ss.length) ss.length (ts.flatMap Snd.cells ++ zerosS (ss.length - k)) ∧
    (∀ t ∈ ts, OwnF wr (w.heap.size + 1) t.val t.xs) ∧ (ts.Pairwise fun s t => s.blk = none ∨ s.blk ≠ t.blk) ∧ w.heap.size + 1 ≤ wr.heap.size ∧ Below w.heap.size w wr) (fun i _ => ss.length - (intOf i).toNat)
  case atStart => exact ⟨0, [], Nat.zero_le _, rfl, rfl, HO.out, by simp, .nil, hz, HB0.out⟩
  case round =>
    obtain ⟨k, ts, hk, rfl, hsam, hown, heach, hap, hwz, hb⟩ := hrel
    by_cases hlt : k < ss.length
    · obtain ⟨ad, rfl, hadB, hat, hin⟩ := (hx.below' hb hB).at_ hlt
      obtain ⟨a0, a1, a2, a3, a4, a5⟩ := cells_at hat
      have hlen : ts.length = k := by have := sames_len hsam; rw [← this]; simp; omega
      rw [show ss.length - k = (ss.length - (k + 1)) + 1 from by omega, zerosS_succ] at hown
      have HI := Lib.hid hin; clear hin hat
      have HS := Lib.hid hsam; clear hsam
      have HO := Lib.hid hown; clear hown
      have HE := Lib.hid heach; clear heach
      have HP := Lib.hid hap; clear hap
      have HB := Lib.hid hb; clear hb
      have HL := Lib.hid hlen; clear hlen
      have HX := Lib.hid hx; clear hx
      have hBr : B ≤ wr.heap.size := by omega
      go_wp2_with fail
      refine (toSound_any _ ss[k].c _ _ _ _ _ _ _ B hBr HI.out.1 HI.out.2.1).mono ?_
      rintro e w1 ⟨g, rfl, hg, hown1, hb1⟩
      have hrow := own_below HO.out hb1 fun k hk => (World.ownsRow.lt HO.out k hk).2
      obtain ⟨v0, q0⟩ := own_cell hrow (show k * 6 < _ by omega)
      obtain ⟨v1, q1⟩ := own_cell hrow (show k * 6 + 1 < _ by omega)
      obtain ⟨v2, q2⟩ := own_cell hrow (show k * 6 + 2 < _ by omega)
      obtain ⟨v3, q3⟩ := own_cell hrow (show k * 6 + 3 < _ by omega)
      obtain ⟨v4, q4⟩ := own_cell hrow (show k * 6 + 4 < _ by omega)
      obtain ⟨v5, q5⟩ := own_cell hrow (show k * 6 + 5 < _ by omega)
      have fz : ∀ j, w1.frozen? ⟨w.heap.size, j, none⟩ = false := World.ownsRow.frozenAt hrow
      have hfin := own_set6 (k := k) (by rw [flat_len, HL.out]) hrow (.string ss[k].name) (.slice (some ⟨g, 0, none⟩) ss[k].xs.length ss[k].xs.length) (fl ss[k].long) (fl ss[k].ramp) (fl ss[k].voice) (fl ss[k].noise)
      have z1 := hb1.size
      have HF := Lib.hid hfin; clear hfin hrow
      have HN := Lib.hid hown1; clear hown1
      have HB1 := Lib.hid hb1; clear hb1
      go_wp2
      go_roundw
      case rel =>
        refine ⟨k + 1, ts ++ [{ ss[k] with A := some ⟨g, 0, none⟩, c := ss[k].xs.length }], by omega, by go_num, ?_, ?_, ?_, ?_, ?_, ?_⟩
        · rw [List.take_succ_eq_append_getElem hlt]; exact sames_snoc HS.out rfl
        · rw [List.flatMap_append, List.append_assoc]; exact HF.out
        · intro t ht
          rcases List.mem_append.1 ht with ht | ht
          · exact ((HE.out t ht).below HB1.out).set6 (by omega)
          · simp at ht; subst ht
            exact (HN.out.less (by omega)).set6 (by omega)
        · refine apart_snoc HP.out fun s hs => ?_
          cases hbk : s.blk with
          | none => exact .inl rfl
          | some b =>
            right
            have := (World.ownsRow.lt (HE.out s hs) b hbk).2
            intro h
            simp [Snd.blk, Snd.val, Value.ownBlock] at h
            omega
        · simp only [size_set]; omega
        · exact below_set6 (HB.out.trans (HB1.out.mono (by omega))) (Nat.le_refl _)
      case measure => simp [intOf]; omega
    · have hk' : k = ss.length := by omega
      rw [List.take_of_length_le (by omega)] at hsam
      rw [show ss.length - k = 0 from by omega] at hown
      have hl := sames_len hsam
      have HS := Lib.hid hsam; clear hsam
      have HO := Lib.hid hown; clear hown
      have HE := Lib.hid heach; clear heach
      have HP := Lib.hid hap; clear hap
      have HB := Lib.hid hb; clear hb
      have HL := Lib.hid hl; clear hl
      have HX := Lib.hid hx; clear hx hk'
      go_wp2
      go_ret
      refine ⟨w.heap.size, ts, rfl, HS.out, Nat.le_refl _, ⟨?_, fun s hs => (HE.out s hs).less (by omega), sames_few HS.out ⟨hm, fun s hs => (HX.out.2 s hs).2⟩, HP.out⟩, HB.out⟩
      rw [← HL.out]
      have := HO.out
      rwa [show zerosS 0 = [] from rfl, List.append_nil] at this
end Go.Proofs.Ythmkbgiandncnaa
