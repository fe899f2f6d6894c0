/- How much the arguments of a law hold: the functions that count it. -/
import Derived.Test.YthmkbgiandncnaaDsk
namespace Go.Proofs.Ythmkbgiandncnaa
open Go.RowKit

/-- what an argument's lengths are at most, before anything is counted -/
def big : Nat := 9223372036854775807
def SndIn0 (w : World) (B : Nat) (s : Snd) : Prop := Fs w B s.A s.xs ∧ s.xs.length ≤ big ∧ s.name.size ≤ big
def Snds0 (w : World) (B : Nat) (A : Option Addr) (ss : List Snd) : Prop := Sl w B 6 A ss.length (ss.flatMap Snd.cells) ∧ ∀ s ∈ ss, SndIn0 w B s
structure DskIn0 (w : World) (B : Nat) (d : Dsk) : Prop where
  t : Fs w B d.tA d.txs
  tn : d.txs.length ≤ big
  p : Fs w B d.pA d.pxs
  pn : d.pxs.length ≤ big
  s : Snds0 w B d.sA d.ss
  sn : d.ss.length ≤ big
/-- few enough of all -/
def Snd.few (s : Snd) : Prop := s.xs.length ≤ 1048576 ∧ s.name.size ≤ 1048576
def sndsFew (ss : List Snd) : Prop := ss.length ≤ 1048576 ∧ ∀ s ∈ ss, s.few
def Dsk.few (d : Dsk) : Prop := d.txs.length ≤ 1048576 ∧ d.pxs.length ≤ 1048576 ∧ sndsFew d.ss
section
variable {w w' : World} {B B' : Nat} {A : Option Addr} {ss : List Snd} {s : Snd} {d : Dsk}
theorem SndIn0.below' (h : SndIn0 w B s) (hb : Below B' w w') (hB : B ≤ B') : SndIn0 w' B s := ⟨h.1.below' hb hB, h.2⟩
theorem SndIn0.alloc (h : SndIn0 w B s) (hB : B ≤ w.heap.size) (o : Obj) : SndIn0 (w.alloc o) B s := ⟨h.1.alloc hB o, h.2⟩
theorem Snds0.below' (h : Snds0 w B A ss) (hb : Below B' w w') (hB : B ≤ B') : Snds0 w' B A ss := ⟨h.1.below' hb hB, fun s hs => (h.2 s hs).below' hb hB⟩
theorem Snds0.alloc (h : Snds0 w B A ss) (hB : B ≤ w.heap.size) (o : Obj) : Snds0 (w.alloc o) B A ss := ⟨h.1.alloc hB o, fun s hs => (h.2 s hs).alloc hB o⟩
theorem Snds0.at_ {k : Nat} (h : Snds0 w B A ss) (hk : k < ss.length) : ∃ ad, A = some ad ∧ ad.block < B ∧ At w (ad.add (k * 6)) ss[k].cells ∧ SndIn0 w B ss[k] := by
  obtain ⟨ad, e, hb, hc⟩ := h.1.2 (by omega)
  refine ⟨ad, e, hb, fun j u hu => ?_, h.2 _ (List.getElem_mem hk)⟩
  rw [add_add']
  refine hc _ u ?_
  have hj : j < 6 := by have := lt_of_some hu; rwa [cells_len] at this
  rw [flat_get hk hj]; exact hu
theorem Snds0.few (h : Snds0 w B A ss) (hf : sndsFew ss) : Snds w B A ss := ⟨h.1, fun s hs => ⟨(h.2 s hs).1, hf.2 s hs⟩⟩
theorem Snds0.more (h : Snds0 w B A ss) (hB : B ≤ B') : Snds0 w B' A ss := ⟨h.1.more hB, fun s hs => ⟨(h.2 s hs).1.more hB, (h.2 s hs).2⟩⟩
theorem DskIn0.below' (h : DskIn0 w B d) (hb : Below B' w w') (hB : B ≤ B') : DskIn0 w' B d := ⟨h.t.below' hb hB, h.tn, h.p.below' hb hB, h.pn, h.s.below' hb hB, h.sn⟩
theorem DskIn0.alloc (h : DskIn0 w B d) (hB : B ≤ w.heap.size) (o : Obj) : DskIn0 (w.alloc o) B d := ⟨h.t.alloc hB o, h.tn, h.p.alloc hB o, h.pn, h.s.alloc hB o, h.sn⟩
theorem DskIn0.few (h : DskIn0 w B d) (hf : d.few) : DskIn w B d := ⟨h.t, hf.1, h.p, hf.2.1, h.s.few hf.2.2, hf.2.2.1⟩
end

/-- what is left, -1 if it is less than nothing; if something is left, P holds -/
def SzPost (left : Int) (P : Prop) (w : World) (e : Ending) (w' : World) : Prop := ∃ r : Int, e = .returned (.int .i64 r) ∧ -1 ≤ r ∧ (0 ≤ r → r ≤ left ∧ P) ∧ Below w.heap.size w w'

set_option maxHeartbeats 400000 in
theorem szFloat32S_any (A : Option Addr) (c n : Nat) (left : Int) (w : World) (hn : n ≤ big) (h0 : 0 ≤ left) (h1 : left ≤ 1048576) :
    Calls Try.prog 115 #[.slice A n c, .int .i64 left] w (SzPost left (n ≤ 1048576) w) := by
  unfold big at hn
  go_enter Try.func115, Try.ntmps115
  go_wp2
  all_goals go_ret
  · exact ⟨-1, rfl, by omega, fun h => by omega, Below.refl _ _⟩
  · exact ⟨left - n, rfl, by omega, fun h => ⟨by omega, by omega⟩, Below.refl _ _⟩

set_option maxHeartbeats 400000 in
theorem szSound_any (s : Snd) (left : Int) (w : World) (hn : s.xs.length ≤ big) (hnm : s.name.size ≤ big) (h0 : 0 ≤ left) (h1 : left ≤ 1048576) :
    Calls Try.prog 58 #[.agg #[.string s.name, .slice s.A s.xs.length s.c, fl s.long, fl s.ramp, fl s.voice, fl s.noise], .int .i64 left] w (SzPost left s.few w) := by
  have hn' := hn; have hnm' := hnm
  unfold big at hn' hnm'
  have H1 := Lib.hid hn; clear hn
  by_cases hlt : left - (s.name.size : Int) < 0
  · go_enter Try.func58, Try.ntmps58
    go_wp2
    go_ret
    exact ⟨-1, rfl, by omega, fun h => by omega, bl_a _ _⟩
  · go_enter Try.func58, Try.ntmps58
    go_wp2_with fail
    refine (szFloat32S_any _ _ _ _ _ H1.out (by omega) (by omega)).mono ?_
    rintro e w1 ⟨r, rfl, hr1, hr2, hb⟩
    have hb1 := box_first hb; clear hb
    have hs : s.name.size ≤ 1048576 := by omega
    have HB := Lib.hid hb1; clear hb1
    have HR := Lib.hid hr2; clear hr2
    have H1' := H1
    go_wp2
    all_goals go_ret
    · exact ⟨-1, rfl, by omega, fun h => by omega, box_done HB.out⟩
    · exact ⟨r, rfl, by omega, fun h => ⟨by have := (HR.out h).1; omega, (HR.out h).2, hs⟩, box_done HB.out⟩

theorem few_step {ss : List Snd} {k : Nat} (hk : k < ss.length) (h : ∀ s ∈ ss.take k, s.few) (h2 : ss[k].few) : ∀ s ∈ ss.take (k + 1), s.few := by
  intro s hs
  rw [List.take_succ_eq_append_getElem hk, List.mem_append] at hs
  rcases hs with hs | hs
  · exact h s hs
  · simp at hs; subst hs; exact h2
set_option maxHeartbeats 400000 in
theorem szSoundS_any (A : Option Addr) (c : Nat) (ss : List Snd) (left : Int) (w : World) (B : Nat) (hB : B ≤ w.heap.size) (hx : Snds0 w B A ss) (hm : ss.length ≤ big) (h0 : 0 ≤ left) (h1 : left ≤ 1048576) :
    Calls Try.prog 16 #[.slice A ss.length c, .int .i64 left] w (SzPost left (sndsFew ss) w) := by
  unfold big at hm
  by_cases hl : left - (ss.length : Int) < 0
  · go_enter Try.func16, Try.ntmps16
    go_wp2
    go_ret
    exact ⟨-1, rfl, by omega, fun h => by omega, Below.refl _ _⟩
  · go_enter Try.func16, Try.ntmps16
    go_wp2
    go_loopw [1, 5] (fun l i wr => ∃ (k : Nat) (r : Int), k ≤ ss.length ∧ i = .int .i64 k ∧ l = .int .i64 r ∧ 0 ≤ r ∧ r ≤ left ∧ (∀ s ∈ ss.take k, s.few) ∧ Below w.heap.size w wr) (fun _ i _ => ss.length - (intOf i).toNat)
    case atStart => exact ⟨0, _, Nat.zero_le _, rfl, rfl, by omega, by omega, by simp, Below.refl _ _⟩
    case round =>
      obtain ⟨k, r, hk, rfl, rfl, hr0, hr1, hf, hb⟩ := hrel
      have hx1 := hx.below' hb hB
      have hsz := hb.size
      have HF := Lib.hid hf; clear hf
      have HB := Lib.hid hb; clear hb
      have HX := Lib.hid hx1; clear hx1
      by_cases hlt : k < ss.length
      · obtain ⟨ad, rfl, hadB, hat, hin⟩ := HX.out.at_ hlt
        obtain ⟨a0, a1, a2, a3, a4, a5⟩ := cells_at hat
        clear hat
        have HI := Lib.hid hin; clear hin
        go_wp2_with fail
        refine (szSound_any ss[k] r _ HI.out.2.1 HI.out.2.2 hr0 (by omega)).mono ?_
        rintro e w1 ⟨r', rfl, hq1, hq2, hb1⟩
        have HQ := Lib.hid hq2; clear hq2
        have HB1 := Lib.hid hb1; clear hb1
        by_cases hneg : r' < 0
        · go_wp2
          go_ret
          exact ⟨-1, rfl, by omega, fun h => by omega, bl_step HB.out HB1.out⟩
        · go_wp2
          go_roundw
          case rel => exact ⟨k + 1, r', by omega, by go_num, rfl, by omega, by have := (HQ.out (by omega)).1; omega, few_step hlt HF.out (HQ.out (by omega)).2, bl_step HB.out HB1.out⟩
          case measure => simp [intOf]; omega
      · go_wp2
        go_ret
        exact ⟨r, rfl, by omega, fun h => ⟨hr1, by omega, by have := HF.out; rwa [List.take_of_length_le (by omega)] at this⟩, HB.out⟩

set_option maxHeartbeats 400000 in
theorem szTube_any (A : Option Addr) (c n a b d : Nat) (left : Int) (w : World) (hn : n ≤ big) (h0 : 0 ≤ left) (h1 : left ≤ 1048576) :
    Calls Try.prog 82 #[.agg #[.slice A n c, fl a, fl b, fl d], .int .i64 left] w (SzPost left (n ≤ 1048576) w) := by
  go_enter Try.func82, Try.ntmps82
  go_wp2_with fail
  refine (szFloat32S_any _ _ _ _ _ hn (by omega) (by omega)).mono ?_
  rintro e w1 ⟨r, rfl, hr1, hr2, hb⟩
  have hb1 := box_first hb; clear hb
  have HB := Lib.hid hb1; clear hb1
  have HR := Lib.hid hr2; clear hr2
  go_wp2
  all_goals go_ret
  · exact ⟨-1, rfl, by omega, fun h => by omega, box_done HB.out⟩
  · exact ⟨r, rfl, by omega, fun h => HR.out h, box_done HB.out⟩
set_option maxHeartbeats 400000 in
theorem szPredictor_any (A : Option Addr) (c n a : Nat) (left : Int) (w : World) (hn : n ≤ big) (h0 : 0 ≤ left) (h1 : left ≤ 1048576) :
    Calls Try.prog 83 #[.agg #[.slice A n c, fl a], .int .i64 left] w (SzPost left (n ≤ 1048576) w) := by
  go_enter Try.func83, Try.ntmps83
  go_wp2_with fail
  refine (szFloat32S_any _ _ _ _ _ hn (by omega) (by omega)).mono ?_
  rintro e w1 ⟨r, rfl, hr1, hr2, hb⟩
  have hb1 := box_first hb; clear hb
  have HB := Lib.hid hb1; clear hb1
  have HR := Lib.hid hr2; clear hr2
  go_wp2
  all_goals go_ret
  · exact ⟨-1, rfl, by omega, fun h => by omega, box_done HB.out⟩
  · exact ⟨r, rfl, by omega, fun h => HR.out h, box_done HB.out⟩

set_option maxHeartbeats 400000 in
theorem szDesk_any (d : Dsk) (left : Int) (w : World) (B : Nat) (hB : B ≤ w.heap.size) (hd : DskIn0 w B d) (h0 : 0 ≤ left) (h1 : left ≤ 1048576) :
    Calls Try.prog 30 #[.agg d.cells.toArray, .int .i64 left] w (SzPost left d.few w) := by
  have hd1 := hd.alloc hB (.cells d.cells.toArray 57)
  have HD := Lib.hid hd1; clear hd1 hd
  unfold Dsk.cells
  go_enter Try.func30, Try.ntmps30
  go_wp2_with fail
  refine (szTube_any _ _ _ _ _ _ _ _ HD.out.tn h0 h1).mono ?_
  rintro e w1 ⟨r1, rfl, hr1, hr2, hb1'⟩
  have hb1 := box_first hb1'; clear hb1'
  have d1 := HD.out.below' hb1 (show B ≤ w.heap.size + 1 by omega)
  have z1 := box_size hb1
  have g9 : w1.cell? ⟨w.heap.size, 9, none⟩ = some (.slice d.pA d.pxs.length d.pc) := box_cell hb1 rfl
  have g10 : w1.cell? ⟨w.heap.size, 10, none⟩ = some (fl d.gain) := box_cell hb1 rfl
  have HB1 := Lib.hid hb1; clear hb1
  have HD1 := Lib.hid d1; clear d1
  have HR1 := Lib.hid hr2; clear hr2
  by_cases n1 : r1 < 0
  · go_wp2
    go_ret
    exact ⟨-1, rfl, by omega, fun h => by omega, box_done HB1.out⟩
  have q1 := (HR1.out (by omega)).1
  go_wp2_with fail
  refine (szPredictor_any _ _ _ _ _ _ HD1.out.pn (by omega) (by omega)).mono ?_
  rintro e w2 ⟨r2, rfl, hr1, hr2, hb2'⟩
  have hb2 := box_next HB1.out hb2'
  have d2 := HD1.out.below' hb2' (show B ≤ w1.heap.size by omega)
  clear hb2'
  have z2 := box_size hb2
  have g11 : w2.cell? ⟨w.heap.size, 11, none⟩ = some (.slice d.sA d.ss.length d.sc) := box_cell hb2 rfl
  have HB2 := Lib.hid hb2; clear hb2
  have HD2 := Lib.hid d2; clear d2
  have HR2 := Lib.hid hr2; clear hr2
  by_cases n2 : r2 < 0
  · go_wp2
    go_ret
    exact ⟨-1, rfl, by omega, fun h => by omega, box_done HB2.out⟩
  have q2 := (HR2.out (by omega)).1
  go_wp2_with fail
  refine (szSoundS_any _ _ _ _ _ B (by omega) HD2.out.s HD2.out.sn (by omega) (by omega)).mono ?_
  rintro e w3 ⟨r3, rfl, hr1, hr2, hb3'⟩
  have hb3 := box_next HB2.out hb3'
  clear hb3'
  have HB3 := Lib.hid hb3; clear hb3
  have HR3 := Lib.hid hr2; clear hr2
  by_cases n3 : r3 < 0
  · go_wp2
    go_ret
    exact ⟨-1, rfl, by omega, fun h => by omega, box_done HB3.out⟩
  have q3 := (HR3.out (by omega)).1
  go_wp2
  go_ret
  exact ⟨r3, rfl, by omega, fun h => ⟨by omega, (HR1.out (by omega)).2, (HR2.out (by omega)).2, (HR3.out (by omega)).2⟩, box_done HB3.out⟩
end Go.Proofs.Ythmkbgiandncnaa
