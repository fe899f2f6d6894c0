/- The laws' copies of desks. -/
import Derived.Test.YthmkbgiandncnaaToS
namespace Go.Proofs.Ythmkbgiandncnaa
open Go.RowKit

set_option maxHeartbeats 1000000 in
theorem toThroat_any (a b c d e : Nat) (w : World) :
    Calls Try.prog 89 #[.agg #[fl a, fl b, fl c, fl d, fl e]] w fun en w' => en = .returned (.agg #[fl a, fl b, fl c, fl d, fl e]) ∧ Below w.heap.size w w' := by
  go_enter Try.func89, Try.ntmps89
  go_wp2
  refine bodyPost_ret (v := .agg #[fl a, fl b, fl c, fl d, fl e]) ?_ rfl ⟨rfl, ?_⟩
  · simp [results, Try.results89, go_sem]
  · exact ((bl_a _ _).alloc (by simp) _).alloc (by simp; omega) _

/-- a desk without the places of its lists -/
def Dsk.bare (d : Dsk) : Dsk := { d with tA := none, tc := 0, pA := none, pc := 0, sA := none, sc := 0, ss := d.ss.map Snd.bare }
def Dsk.tv (d : Dsk) : Value := .slice d.tA d.txs.length d.tc
def Dsk.pv (d : Dsk) : Value := .slice d.pA d.pxs.length d.pc
def Dsk.sv (d : Dsk) : Value := .slice d.sA d.ss.length d.sc
def offB (a b : Option Nat) : Prop := a = none ∨ a ≠ b
/-- a desk that was made from block base on, no two of whose lists lie in one block -/
structure OwnD (w : World) (base : Nat) (d : Dsk) : Prop where
  t : OwnF w base d.tv d.txs
  p : OwnF w base d.pv d.pxs
  s : OwnS w base d.sv d.ss
  few : d.few
  tp : offB d.tv.ownBlock d.pv.ownBlock
  ts : ∀ s ∈ d.ss, offB d.tv.ownBlock s.blk
  ps : ∀ s ∈ d.ss, offB d.pv.ownBlock s.blk
theorem bare_ok {d d' : Dsk} (h : d.bare = d'.bare) : d.txs = d'.txs ∧ d.loss = d'.loss ∧ d.throat = d'.throat ∧ d.lips = d'.lips ∧ d.period = d'.period ∧ d.op = d'.op ∧ d.cl = d'.cl ∧ d.breath = d'.breath ∧ d.shake = d'.shake ∧ d.pxs = d'.pxs ∧ d.gain = d'.gain ∧ sames d.ss d'.ss := by
  unfold Dsk.bare at h
  injection h
  exact ⟨‹_›, ‹_›, ‹_›, ‹_›, ‹_›, ‹_›, ‹_›, ‹_›, ‹_›, ‹_›, ‹_›, ‹_›⟩
theorem DskIn.set_ {w : World} {B : Nat} {d : Dsk} (h : DskIn w B d) {a : Addr} {u : Value} (ha : B ≤ a.block) : DskIn (w.setCell a u) B d := h.below ((Below.refl B w).setCell ha u)
theorem OwnS.set_ {w : World} {base : Nat} {v : Value} {ss : List Snd} (h : OwnS w base v ss) {a : Addr} {u : Value} (ha : a.block < base) : OwnS (w.setCell a u) base v ss :=
  ⟨ownsRow_setCell_below h.row ha u, fun s hs => (h.each s hs).set_ ha, h.few, h.apart⟩
theorem OwnF.ge {w : World} {base b : Nat} {v : Value} {xs : List Nat} (h : OwnF w base v xs) (hb : v.ownBlock = some b) : base ≤ b := by
  rcases h.form with ⟨rfl, _⟩ | ⟨g, cap, rfl, hg, _⟩
  · cases hb
  · simp [Value.ownBlock] at hb; omega
section
variable {w w' : World} {base B : Nat} {d : Dsk}
theorem OwnD.below (h : OwnD w base d) (hb : Below w.heap.size w w') : OwnD w' base d := ⟨h.t.below hb, h.p.below hb, h.s.below hb, h.few, h.tp, h.ts, h.ps⟩
theorem OwnD.less (h : OwnD w base d) {base' : Nat} (hb : base' ≤ base) : OwnD w base' d := ⟨h.t.less hb, h.p.less hb, h.s.less hb, h.few, h.tp, h.ts, h.ps⟩
theorem OwnD.reads (h : OwnD w base d) : DskIn w w.heap.size d := by
  obtain ⟨A1, c1, e1, h1⟩ := h.t.reads
  obtain ⟨A2, c2, e2, h2⟩ := h.p.reads
  obtain ⟨A3, c3, e3, h3⟩ := h.s.reads
  unfold Dsk.tv at e1; unfold Dsk.pv at e2; unfold Dsk.sv at e3
  injection e1 with e1 _ _; injection e2 with e2 _ _; injection e3 with e3 _ _
  exact ⟨e1 ▸ h1, h.few.1, e2 ▸ h2, h.few.2.1, e3 ▸ h3, h.few.2.2.1⟩
end

set_option maxHeartbeats 4000000 in
theorem toDesk_any (d : Dsk) (w : World) (B : Nat) (hB : B ≤ w.heap.size) (hd : DskIn w B d) :
    Calls Try.prog 32 #[.agg d.cells.toArray] w fun e w' => ∃ d' : Dsk, e = .returned (.agg d'.cells.toArray) ∧ d'.bare = d.bare ∧ OwnD w' w.heap.size d' ∧ Below w.heap.size w w' := by
  have hd1 := ((hd.alloc hB (.cells d.cells.toArray 57)).alloc (by simp; omega) (.cells #[.slice none 0 0, fl 0, fl 0, fl 0, fl 0, fl 0, fl 0, fl 0, fl 0, .slice none 0 0, fl 0, .slice none 0 0] 46)).alloc (by simp; omega) (.cells #[.slice none 0 0, fl 0, fl 0, fl 0, fl 0, fl 0, fl 0, fl 0, fl 0, .slice none 0 0, fl 0, .slice none 0 0] 46)
  have HD := Lib.hid hd1; clear hd1 hd
  unfold Dsk.cells
  go_enter Try.func32, Try.ntmps32
  go_wp2_with fail
  refine (toTube_any _ _ _ _ _ _ _ B (by simp; omega) HD.out.t HD.out.tn).mono ?_
  rintro e w1 ⟨g1, rfl, hg1, hown1, hb⟩
  simp at hg1
  have z1 : w.heap.size + 3 ≤ w1.heap.size := by have := hb.size; simpa using this
  have BC : Blk w1 w.heap.size 57 #[.slice d.tA d.txs.length d.tc, fl d.loss, fl d.throat, fl d.lips, fl d.period, fl d.op, fl d.cl, fl d.breath, fl d.shake, .slice d.pA d.pxs.length d.pc, fl d.gain, .slice d.sA d.ss.length d.sc] := Blk.below' (heap_31 _ _ _ _) hb (by simp; omega)
  have BR : Blk w1 (w.heap.size + 1) 46 #[.slice none 0 0, fl 0, fl 0, fl 0, fl 0, fl 0, fl 0, fl 0, fl 0, .slice none 0 0, fl 0, .slice none 0 0] := Blk.below' (heap_32 _ _ _ _) hb (by simp)
  have BO : Blk w1 (w.heap.size + 2) 46 #[.slice none 0 0, fl 0, fl 0, fl 0, fl 0, fl 0, fl 0, fl 0, fl 0, .slice none 0 0, fl 0, .slice none 0 0] := Blk.below' (heap_3 _ _ _ _) hb (by simp)
  have hbw := after3 hb
  have hd2 : DskIn w1 B d := HD.out.below' hb (by simp; omega)
  have hown1' := hown1.less (base' := w.heap.size + 3) (by simp)
  have hlt1 : g1 < w1.heap.size := (World.ownsRow.lt hown1' g1 rfl).2
  clear hb hown1
  have HO1 := Lib.hid hown1'; clear hown1'
  have BC1 := Lib.hid BC; have BR1 := Lib.hid BR; have BO1 := Lib.hid BO; clear BC BR BO
  have HD2 := Lib.hid hd2; clear hd2
  have HB1 := Lib.hid hbw; clear hbw
  have o0 : w1.cell? ⟨w.heap.size + 2, 0, none⟩ = _ := BO1.out.cell_ (j := 0) rfl
  have o1 : w1.cell? ⟨w.heap.size + 2, 1, none⟩ = _ := BO1.out.cell_ (j := 1) rfl
  have o2 : w1.cell? ⟨w.heap.size + 2, 2, none⟩ = _ := BO1.out.cell_ (j := 2) rfl
  have o3 : w1.cell? ⟨w.heap.size + 2, 3, none⟩ = _ := BO1.out.cell_ (j := 3) rfl
  have fo1 := BO1.out.froz
  have c4 : w1.cell? ⟨w.heap.size, 4, none⟩ = _ := BC1.out.cell_ (j := 4) rfl
  have c5 : w1.cell? ⟨w.heap.size, 5, none⟩ = _ := BC1.out.cell_ (j := 5) rfl
  have c6 : w1.cell? ⟨w.heap.size, 6, none⟩ = _ := BC1.out.cell_ (j := 6) rfl
  have c7 : w1.cell? ⟨w.heap.size, 7, none⟩ = _ := BC1.out.cell_ (j := 7) rfl
  have c8 : w1.cell? ⟨w.heap.size, 8, none⟩ = _ := BC1.out.cell_ (j := 8) rfl
  go_wp2_with fail
  clear o0 o1 o2 o3 c4 c5 c6 c7 c8 fo1
  refine (toThroat_any _ _ _ _ _ _).mono ?_
  rintro e w2 ⟨rfl, hb⟩
  have z2 : w1.heap.size ≤ w2.heap.size := by have := hb.size; simpa only [size_set] using this
  have hbs : Below w.heap.size w1 w2 := Below.trans (((((Below.refl _ _).setCell (by simp; omega) _).setCell (by simp; omega) _).setCell (by simp; omega) _).setCell (by simp; omega) _) (hb.mono (by simp only [size_set]; omega))
  have BC : Blk w2 w.heap.size 57 #[.slice d.tA d.txs.length d.tc, fl d.loss, fl d.throat, fl d.lips, fl d.period, fl d.op, fl d.cl, fl d.breath, fl d.shake, .slice d.pA d.pxs.length d.pc, fl d.gain, .slice d.sA d.ss.length d.sc] := Blk.below (((((BC1.out).far (by simp; try omega)).far (by simp; try omega)).far (by simp; try omega)).far (by simp; try omega)) hb
  have BR : Blk w2 (w.heap.size + 1) 46 #[.slice none 0 0, fl 0, fl 0, fl 0, fl 0, fl 0, fl 0, fl 0, fl 0, .slice none 0 0, fl 0, .slice none 0 0] := Blk.below (((((BR1.out).far (by simp; try omega)).far (by simp; try omega)).far (by simp; try omega)).far (by simp; try omega)) hb
  have BO : Blk w2 (w.heap.size + 2) 46 #[.slice (some ⟨g1, 0, none⟩) d.txs.length d.txs.length, fl d.loss, fl d.throat, fl d.lips, fl 0, fl 0, fl 0, fl 0, fl 0, .slice none 0 0, fl 0, .slice none 0 0] := Blk.below (((((BO1.out).set_).set_).set_).set_) hb
  have hd2 : DskIn w2 B d := HD2.out.below' hbs (by omega)
  have hown1' : OwnF w2 (w.heap.size + 3) _ d.txs := OwnF.below (((((HO1.out).set_ (by simp)).set_ (by simp)).set_ (by simp)).set_ (by simp)) hb
  have hbw := HB1.out.trans hbs
  clear hb hbs
  clear HO1; have HO1 := Lib.hid hown1'; clear hown1'
  have BC2 := Lib.hid BC; have BR2 := Lib.hid BR; have BO2 := Lib.hid BO; clear BC BR BO
  have HD3 := Lib.hid hd2; clear hd2
  have HB2 := Lib.hid hbw; clear hbw
  have o4 : w2.cell? ⟨w.heap.size + 2, 4, none⟩ = _ := BO2.out.cell_ (j := 4) rfl
  have o5 : w2.cell? ⟨w.heap.size + 2, 5, none⟩ = _ := BO2.out.cell_ (j := 5) rfl
  have o6 : w2.cell? ⟨w.heap.size + 2, 6, none⟩ = _ := BO2.out.cell_ (j := 6) rfl
  have o7 : w2.cell? ⟨w.heap.size + 2, 7, none⟩ = _ := BO2.out.cell_ (j := 7) rfl
  have o8 : w2.cell? ⟨w.heap.size + 2, 8, none⟩ = _ := BO2.out.cell_ (j := 8) rfl
  have fo2 := BO2.out.froz
  have c9 : w2.cell? ⟨w.heap.size, 9, none⟩ = _ := BC2.out.cell_ (j := 9) rfl
  have c10 : w2.cell? ⟨w.heap.size, 10, none⟩ = _ := BC2.out.cell_ (j := 10) rfl
  go_wp2_with fail
  clear o4 o5 o6 o7 o8 c9 c10 fo2
  have S3 : DskIn (((((w2.setCell ⟨w.heap.size + 1 + 1, 4, none⟩ (.float .f32 d.period)).setCell ⟨w.heap.size + 1 + 1, 5, none⟩ (.float .f32 d.op)).setCell ⟨w.heap.size + 1 + 1, 6, none⟩ (.float .f32 d.cl)).setCell ⟨w.heap.size + 1 + 1, 7, none⟩ (.float .f32 d.breath)).setCell ⟨w.heap.size + 1 + 1, 8, none⟩ (.float .f32 d.shake)) B d := HD3.out.below ((((((Below.refl _ _).setCell (by simp; omega) _).setCell (by simp; omega) _).setCell (by simp; omega) _).setCell (by simp; omega) _).setCell (by simp; omega) _)
  refine (toPredictor_any _ _ _ _ _ B (by simp only [size_set]; omega) S3.p S3.pn).mono ?_
  rintro e w3 ⟨g3, rfl, hg3, hown3, hb⟩
  have z3 : w2.heap.size ≤ w3.heap.size := by have := hb.size; simpa only [size_set] using this
  have hbs : Below w.heap.size w2 w3 := Below.trans ((((((Below.refl _ _).setCell (by simp; omega) _).setCell (by simp; omega) _).setCell (by simp; omega) _).setCell (by simp; omega) _).setCell (by simp; omega) _) (hb.mono (by simp only [size_set]; omega))
  have BC : Blk w3 w.heap.size 57 #[.slice d.tA d.txs.length d.tc, fl d.loss, fl d.throat, fl d.lips, fl d.period, fl d.op, fl d.cl, fl d.breath, fl d.shake, .slice d.pA d.pxs.length d.pc, fl d.gain, .slice d.sA d.ss.length d.sc] := Blk.below ((((((BC2.out).far (by simp; try omega)).far (by simp; try omega)).far (by simp; try omega)).far (by simp; try omega)).far (by simp; try omega)) hb
  have BR : Blk w3 (w.heap.size + 1) 46 #[.slice none 0 0, fl 0, fl 0, fl 0, fl 0, fl 0, fl 0, fl 0, fl 0, .slice none 0 0, fl 0, .slice none 0 0] := Blk.below ((((((BR2.out).far (by simp; try omega)).far (by simp; try omega)).far (by simp; try omega)).far (by simp; try omega)).far (by simp; try omega)) hb
  have BO : Blk w3 (w.heap.size + 2) 46 #[.slice (some ⟨g1, 0, none⟩) d.txs.length d.txs.length, fl d.loss, fl d.throat, fl d.lips, fl d.period, fl d.op, fl d.cl, fl d.breath, fl d.shake, .slice none 0 0, fl 0, .slice none 0 0] := Blk.below ((((((BO2.out).set_).set_).set_).set_).set_) hb
  have hd2 : DskIn w3 B d := HD3.out.below' hbs (by omega)
  have hown1' : OwnF w3 (w.heap.size + 3) _ d.txs := OwnF.below ((((((HO1.out).set_ (by simp)).set_ (by simp)).set_ (by simp)).set_ (by simp)).set_ (by simp)) hb
  simp only [size_set] at hg3
  have hown3' : OwnF w3 (w.heap.size + 3) _ d.pxs := hown3.less (by simp only [size_set]; omega)
  have hlt3 : g3 < w3.heap.size := (World.ownsRow.lt hown3' g3 rfl).2
  clear hown3
  have hbw := HB2.out.trans hbs
  clear hb hbs
  clear HO1; have HO1 := Lib.hid hown1'; clear hown1'
  have HO3 := Lib.hid hown3'; clear hown3'
  have BC3 := Lib.hid BC; have BR3 := Lib.hid BR; have BO3 := Lib.hid BO; clear BC BR BO
  have HD4 := Lib.hid hd2; clear hd2
  have HB3 := Lib.hid hbw; clear hbw
  have o9 : w3.cell? ⟨w.heap.size + 2, 9, none⟩ = _ := BO3.out.cell_ (j := 9) rfl
  have o10 : w3.cell? ⟨w.heap.size + 2, 10, none⟩ = _ := BO3.out.cell_ (j := 10) rfl
  have fo3 := BO3.out.froz
  have c11 : w3.cell? ⟨w.heap.size, 11, none⟩ = _ := BC3.out.cell_ (j := 11) rfl
  go_wp2_with fail
  clear o9 o10 c11 fo3
  have S4 : DskIn ((w3.setCell ⟨w.heap.size + 1 + 1, 9, none⟩ (.slice (some ⟨g3, 0, none⟩) d.pxs.length d.pxs.length)).setCell ⟨w.heap.size + 1 + 1, 10, none⟩ (.float .f32 d.gain)) B d := HD4.out.below (((Below.refl _ _).setCell (by simp; omega) _).setCell (by simp; omega) _)
  refine (toSoundS_any _ _ _ _ B (by simp only [size_set]; omega) S4.s S4.sn).mono ?_
  rintro e w4 ⟨g4, ts, rfl, hsam, hg4, hown4, hb⟩
  have z4 : w3.heap.size ≤ w4.heap.size := by have := hb.size; simpa only [size_set] using this
  have hbs : Below w.heap.size w3 w4 := Below.trans (((Below.refl _ _).setCell (by simp; omega) _).setCell (by simp; omega) _) (hb.mono (by simp only [size_set]; omega))
  have BC : Blk w4 w.heap.size 57 #[.slice d.tA d.txs.length d.tc, fl d.loss, fl d.throat, fl d.lips, fl d.period, fl d.op, fl d.cl, fl d.breath, fl d.shake, .slice d.pA d.pxs.length d.pc, fl d.gain, .slice d.sA d.ss.length d.sc] := Blk.below (((BC3.out).far (by simp; try omega)).far (by simp; try omega)) hb
  have BR : Blk w4 (w.heap.size + 1) 46 #[.slice none 0 0, fl 0, fl 0, fl 0, fl 0, fl 0, fl 0, fl 0, fl 0, .slice none 0 0, fl 0, .slice none 0 0] := Blk.below (((BR3.out).far (by simp; try omega)).far (by simp; try omega)) hb
  have BO : Blk w4 (w.heap.size + 2) 46 #[.slice (some ⟨g1, 0, none⟩) d.txs.length d.txs.length, fl d.loss, fl d.throat, fl d.lips, fl d.period, fl d.op, fl d.cl, fl d.breath, fl d.shake, .slice (some ⟨g3, 0, none⟩) d.pxs.length d.pxs.length, fl d.gain, .slice none 0 0] := Blk.below (((BO3.out).set_).set_) hb
  have hd2 : DskIn w4 B d := HD4.out.below' hbs (by omega)
  have hown1' : OwnF w4 (w.heap.size + 3) _ d.txs := OwnF.below (((HO1.out).set_ (by simp)).set_ (by simp)) hb
  have hown3' : OwnF w4 (w.heap.size + 3) _ d.pxs := OwnF.below (((HO3.out).set_ (by simp)).set_ (by simp)) hb
  simp only [size_set] at hg4
  have hown4' : OwnS w4 w3.heap.size _ ts := hown4.less (by simp only [size_set]; omega)
  clear hown4
  have hbw := HB3.out.trans hbs
  clear hb hbs
  clear HO1; have HO1 := Lib.hid hown1'; clear hown1'
  clear HO3; have HO3 := Lib.hid hown3'; clear hown3'
  have HO4 := Lib.hid hown4'; clear hown4'
  have BC4 := Lib.hid BC; have BR4 := Lib.hid BR; have BO4 := Lib.hid BO; clear BC BR BO
  have HD5 := Lib.hid hd2; clear hd2
  have HB4 := Lib.hid hbw; clear hbw
  have o11 : w4.cell? ⟨w.heap.size + 2, 11, none⟩ = _ := BO4.out.cell_ (j := 11) rfl
  have fo4 := BO4.out.froz
  have o0 : w4.cell? ⟨w.heap.size + 2, 0, none⟩ = _ := BO4.out.cell_ (j := 0) rfl
  have o1 : w4.cell? ⟨w.heap.size + 2, 1, none⟩ = _ := BO4.out.cell_ (j := 1) rfl
  have o2 : w4.cell? ⟨w.heap.size + 2, 2, none⟩ = _ := BO4.out.cell_ (j := 2) rfl
  have o3 : w4.cell? ⟨w.heap.size + 2, 3, none⟩ = _ := BO4.out.cell_ (j := 3) rfl
  have o4 : w4.cell? ⟨w.heap.size + 2, 4, none⟩ = _ := BO4.out.cell_ (j := 4) rfl
  have o5 : w4.cell? ⟨w.heap.size + 2, 5, none⟩ = _ := BO4.out.cell_ (j := 5) rfl
  have o6 : w4.cell? ⟨w.heap.size + 2, 6, none⟩ = _ := BO4.out.cell_ (j := 6) rfl
  have o7 : w4.cell? ⟨w.heap.size + 2, 7, none⟩ = _ := BO4.out.cell_ (j := 7) rfl
  have o8 : w4.cell? ⟨w.heap.size + 2, 8, none⟩ = _ := BO4.out.cell_ (j := 8) rfl
  have o9 : w4.cell? ⟨w.heap.size + 2, 9, none⟩ = _ := BO4.out.cell_ (j := 9) rfl
  have o10 : w4.cell? ⟨w.heap.size + 2, 10, none⟩ = _ := BO4.out.cell_ (j := 10) rfl
  have r0 : w4.cell? ⟨w.heap.size + 1, 0, none⟩ = _ := BR4.out.cell_ (j := 0) rfl
  have r1 : w4.cell? ⟨w.heap.size + 1, 1, none⟩ = _ := BR4.out.cell_ (j := 1) rfl
  have r2 : w4.cell? ⟨w.heap.size + 1, 2, none⟩ = _ := BR4.out.cell_ (j := 2) rfl
  have r3 : w4.cell? ⟨w.heap.size + 1, 3, none⟩ = _ := BR4.out.cell_ (j := 3) rfl
  have r4 : w4.cell? ⟨w.heap.size + 1, 4, none⟩ = _ := BR4.out.cell_ (j := 4) rfl
  have r5 : w4.cell? ⟨w.heap.size + 1, 5, none⟩ = _ := BR4.out.cell_ (j := 5) rfl
  have r6 : w4.cell? ⟨w.heap.size + 1, 6, none⟩ = _ := BR4.out.cell_ (j := 6) rfl
  have r7 : w4.cell? ⟨w.heap.size + 1, 7, none⟩ = _ := BR4.out.cell_ (j := 7) rfl
  have r8 : w4.cell? ⟨w.heap.size + 1, 8, none⟩ = _ := BR4.out.cell_ (j := 8) rfl
  have r9 : w4.cell? ⟨w.heap.size + 1, 9, none⟩ = _ := BR4.out.cell_ (j := 9) rfl
  have r10 : w4.cell? ⟨w.heap.size + 1, 10, none⟩ = _ := BR4.out.cell_ (j := 10) rfl
  have r11 : w4.cell? ⟨w.heap.size + 1, 11, none⟩ = _ := BR4.out.cell_ (j := 11) rfl
  have fr4 := BR4.out.froz
  go_wp2_with fail
  have hl := sames_len hsam
  have HL := Lib.hid hl; clear hl
  refine bodyPost_ret (v := .agg #[.slice (some ⟨g1, 0, none⟩) d.txs.length d.txs.length, fl d.loss, fl d.throat, fl d.lips, fl d.period, fl d.op, fl d.cl, fl d.breath, fl d.shake, .slice (some ⟨g3, 0, none⟩) d.pxs.length d.pxs.length, fl d.gain, .slice (some ⟨g4, 0, none⟩) d.ss.length d.ss.length]) ?_ rfl ⟨{ d with tA := some ⟨g1, 0, none⟩, tc := d.txs.length, pA := some ⟨g3, 0, none⟩, pc := d.pxs.length, sA := some ⟨g4, 0, none⟩, sc := d.ss.length, ss := ts }, ?_, ?_, ?_, ?_⟩
  · simp [results, Try.results32, go_sem, r0, r1, r2, r3, r4, r5, r6, r7, r8, r9, r10, r11]
  · rw [HL.out]
  · unfold Dsk.bare; rw [show ts.map Snd.bare = d.ss.map Snd.bare from hsam.symm]
  · refine ⟨OwnF.less (base := w.heap.size + 3) ?_ (by omega), OwnF.less (base := w.heap.size + 3) ?_ (by omega), OwnS.less (base := w3.heap.size) ?_ (by omega), ⟨HD.out.tn, HD.out.pn, HO4.out.few⟩, ?_, ?_, ?_⟩
    · exact (.set_ (.set_ (.set_ (.set_ (.set_ (.set_ (.set_ (.set_ (.set_ (.set_ (.set_ (.set_ (.set_ HO1.out (by simp; try omega)) (by simp; try omega)) (by simp; try omega)) (by simp; try omega)) (by simp; try omega)) (by simp; try omega)) (by simp; try omega)) (by simp; try omega)) (by simp; try omega)) (by simp; try omega)) (by simp; try omega)) (by simp; try omega)) (by simp; try omega))
    · exact (.set_ (.set_ (.set_ (.set_ (.set_ (.set_ (.set_ (.set_ (.set_ (.set_ (.set_ (.set_ (.set_ HO3.out (by simp; try omega)) (by simp; try omega)) (by simp; try omega)) (by simp; try omega)) (by simp; try omega)) (by simp; try omega)) (by simp; try omega)) (by simp; try omega)) (by simp; try omega)) (by simp; try omega)) (by simp; try omega)) (by simp; try omega)) (by simp; try omega))
    · unfold Dsk.sv; dsimp only; rw [← HL.out]; exact (.set_ (.set_ (.set_ (.set_ (.set_ (.set_ (.set_ (.set_ (.set_ (.set_ (.set_ (.set_ (.set_ (HL.out ▸ HO4.out) (by simp; try omega)) (by simp; try omega)) (by simp; try omega)) (by simp; try omega)) (by simp; try omega)) (by simp; try omega)) (by simp; try omega)) (by simp; try omega)) (by simp; try omega)) (by simp; try omega)) (by simp; try omega)) (by simp; try omega)) (by simp; try omega))
    · right; simp [Dsk.tv, Dsk.pv, Value.ownBlock]; omega
    · intro s hs; right; intro h; have : w3.heap.size ≤ g1 := (HO4.out.each s hs).ge h.symm; omega
    · intro s hs; right; intro h; have : w3.heap.size ≤ g3 := (HO4.out.each s hs).ge h.symm; omega
  · exact (((((((((((((HB4.out).setCell (by simp; try omega) _).setCell (by simp; try omega) _).setCell (by simp; try omega) _).setCell (by simp; try omega) _).setCell (by simp; try omega) _).setCell (by simp; try omega) _).setCell (by simp; try omega) _).setCell (by simp; try omega) _).setCell (by simp; try omega) _).setCell (by simp; try omega) _).setCell (by simp; try omega) _).setCell (by simp; try omega) _).setCell (by simp; try omega) _
end Go.Proofs.Ythmkbgiandncnaa
