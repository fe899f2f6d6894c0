/- Desks in memory; which desks are valid. -/
import Derived.Test.YthmkbgiandncnaaAre
namespace Go.Proofs.Ythmkbgiandncnaa
open Go.RowKit

/-- a desk as it lies in memory -/
structure Dsk where
  tA : Option Addr
  tc : Nat
  txs : List Nat
  loss : Nat
  throat : Nat
  lips : Nat
  period : Nat
  op : Nat
  cl : Nat
  breath : Nat
  shake : Nat
  pA : Option Addr
  pc : Nat
  pxs : List Nat
  gain : Nat
  sA : Option Addr
  sc : Nat
  ss : List Snd
def Dsk.cells (d : Dsk) : List Value := [.slice d.tA d.txs.length d.tc, fl d.loss, fl d.throat, fl d.lips, fl d.period, fl d.op, fl d.cl, fl d.breath, fl d.shake, .slice d.pA d.pxs.length d.pc, fl d.gain, .slice d.sA d.ss.length d.sc]
def Dsk.ok (d : Dsk) : Bool := tubeOk d.txs d.loss d.throat d.lips && throatOk d.period d.op d.cl d.breath d.shake && predOk d.pxs d.gain && soundsOk d.ss
structure DskIn (w : World) (B : Nat) (d : Dsk) : Prop where
  t : Fs w B d.tA d.txs
  tn : d.txs.length ≤ 1048576
  p : Fs w B d.pA d.pxs
  pn : d.pxs.length ≤ 1048576
  s : Snds w B d.sA d.ss
  sn : d.ss.length ≤ 1048576
section
variable {w w' : World} {B B' : Nat} {d : Dsk}
theorem DskIn.below (h : DskIn w B d) (hb : Below B w w') : DskIn w' B d := ⟨h.t.below hb, h.tn, h.p.below hb, h.pn, h.s.below hb, h.sn⟩
theorem DskIn.below' (h : DskIn w B d) (hb : Below B' w w') (hB : B ≤ B') : DskIn w' B d := ⟨h.t.below' hb hB, h.tn, h.p.below' hb hB, h.pn, h.s.below' hb hB, h.sn⟩
theorem DskIn.drewN (h : DskIn w B d) (n : Nat) : DskIn (w.drewN n) B d := ⟨h.t.drewN n, h.tn, h.p.drewN n, h.pn, h.s.drewN n, h.sn⟩
theorem DskIn.drew (h : DskIn w B d) : DskIn w.drew B d := ⟨h.t.drew, h.tn, h.p.drew, h.pn, h.s.drew, h.sn⟩
theorem DskIn.alloc (h : DskIn w B d) (hB : B ≤ w.heap.size) (o : Obj) : DskIn (w.alloc o) B d := ⟨h.t.alloc hB o, h.tn, h.p.alloc hB o, h.pn, h.s.alloc hB o, h.sn⟩
theorem DskIn.more (h : DskIn w B d) (hB : B ≤ B') : DskIn w B' d := ⟨h.t.more hB, h.tn, h.p.more hB, h.pn, h.s.more hB, h.sn⟩
end

theorem desk_at {w : World} {ad : Addr} {d : Dsk} (h : At w ad d.cells) : At w ad [.slice d.tA d.txs.length d.tc, fl d.loss, fl d.throat, fl d.lips] ∧
    At w ⟨ad.block, ad.off + 4, none⟩ [fl d.period, fl d.op, fl d.cl, fl d.breath, fl d.shake] ∧ At w ⟨ad.block, ad.off + 9, none⟩ [.slice d.pA d.pxs.length d.pc, fl d.gain] ∧
    w.cell? ⟨ad.block, ad.off + 11, none⟩ = some (.slice d.sA d.ss.length d.sc) := by
  have h1 : At w ad ([.slice d.tA d.txs.length d.tc, fl d.loss, fl d.throat, fl d.lips] ++ ([fl d.period, fl d.op, fl d.cl, fl d.breath, fl d.shake] ++ ([.slice d.pA d.pxs.length d.pc, fl d.gain] ++ [.slice d.sA d.ss.length d.sc]))) := h
  obtain ⟨a, h2⟩ := h1.app
  obtain ⟨b, h3⟩ := h2.app
  obtain ⟨c, h4⟩ := h3.app
  exact ⟨a, b, c, h4 0 _ rfl⟩

set_option maxHeartbeats 1000000 in
theorem l08Is_any (d : Dsk) (ad : Addr) (w : World) (B : Nat) (hc : At w ad d.cells) (hd : DskIn w B d) :
    Calls Try.prog 95 #[.pointer (some ad)] w fun e w' => e = .returned (.bool d.ok) ∧ ∃ n, w' = w.drewN n := by
  obtain ⟨h0, h1, h2, h11⟩ := desk_at hc
  have H0 := Lib.hid h0; clear h0
  have H1 := Lib.hid h1; clear h1
  have H2 := Lib.hid h2; clear h2 hc
  have HD := Lib.hid hd; clear hd
  have hm := HD.out.tn; have hm2 := HD.out.pn; have hm3 := HD.out.sn
  go_enter Try.func95, Try.ntmps95
  go_wp2_with (first
    | (go_at_call 133; refine (l02Is_any _ _ d.tc _ _ _ _ _ B H0.out HD.out.t (by omega)).mono ?_; rintro e w' ⟨rfl, n, rfl⟩)
    | (go_at_call 134; refine (l03Throat_any _ _ _ _ _ _ _ (by exact H1.out)).mono ?_; rintro e w' ⟨rfl, n, rfl⟩)
    | (go_at_call 135; refine (l04Is_any _ _ d.pc _ _ _ B (by exact H2.out) (by exact HD.out.p) (by omega)).mono ?_; rintro e w' ⟨rfl, n, rfl⟩)
    | (go_at_call 59; refine (l06Are_any _ _ _ _ B (by exact HD.out.s) hm3).mono ?_; rintro e w' ⟨rfl, n, rfl⟩))
  all_goals go_ret
  all_goals exact ⟨ret_bool (by simp [Dsk.ok, *]), _, rfl⟩

set_option maxHeartbeats 1000000 in
theorem ValidDesk_any (d : Dsk) (w : World) (B : Nat) (hB : B ≤ w.heap.size) (hd : DskIn w B d) :
    Calls Try.prog 35 #[.agg d.cells.toArray] w fun e w' => e = .returned (.bool d.ok) ∧ Below w.heap.size w w' := by
  have hd1 := hd.alloc hB (.cells d.cells.toArray 46)
  have HD := Lib.hid hd1; clear hd1 hd
  have hm := HD.out.tn; have hm2 := HD.out.pn; have hm3 := HD.out.sn
  unfold Dsk.cells
  go_enter Try.func35, Try.ntmps35
  go_wp2_with fail
  refine (ValidTube_any _ _ _ _ _ _ _ B (by simp; omega) HD.out.t (by omega)).mono ?_
  rintro e w1 ⟨rfl, hb1'⟩
  have hb1 := box_first hb1'; clear hb1'
  have d1 := HD.out.below' hb1 (show B ≤ w.heap.size + 1 by omega)
  have z1 := box_size hb1
  have g4 : w1.cell? ⟨w.heap.size, 4, none⟩ = some (fl d.period) := box_cell hb1 rfl
  have g5 : w1.cell? ⟨w.heap.size, 5, none⟩ = some (fl d.op) := box_cell hb1 rfl
  have g6 : w1.cell? ⟨w.heap.size, 6, none⟩ = some (fl d.cl) := box_cell hb1 rfl
  have g7 : w1.cell? ⟨w.heap.size, 7, none⟩ = some (fl d.breath) := box_cell hb1 rfl
  have g8 : w1.cell? ⟨w.heap.size, 8, none⟩ = some (fl d.shake) := box_cell hb1 rfl
  have HB1 := Lib.hid hb1; clear hb1
  have HD1 := Lib.hid d1; clear d1
  cases ht : tubeOk d.txs d.loss d.throat d.lips
  · go_wp2_with fail
    go_ret
    exact ⟨ret_bool (by simp [Dsk.ok, ht]), box_done HB1.out⟩
  go_wp2_with fail
  refine (ValidThroat_any _ _ _ _ _ _).mono ?_
  rintro e w2 ⟨rfl, hb2'⟩
  have hb2 := box_next HB1.out hb2'
  have d2 := HD1.out.below' hb2' (show B ≤ w1.heap.size by omega)
  clear hb2'
  have z2 := box_size hb2
  have g9 : w2.cell? ⟨w.heap.size, 9, none⟩ = some (.slice d.pA d.pxs.length d.pc) := box_cell hb2 rfl
  have g10 : w2.cell? ⟨w.heap.size, 10, none⟩ = some (fl d.gain) := box_cell hb2 rfl
  have HB2 := Lib.hid hb2; clear hb2
  have HD2 := Lib.hid d2; clear d2
  cases ht2 : throatOk d.period d.op d.cl d.breath d.shake
  · go_wp2_with fail
    go_ret
    exact ⟨ret_bool (by simp [Dsk.ok, ht2]), box_done HB2.out⟩
  go_wp2_with fail
  refine (ValidPredictor_any _ _ _ _ _ B (by omega) HD2.out.p (by omega)).mono ?_
  rintro e w3 ⟨rfl, hb3'⟩
  have hb3 := box_next HB2.out hb3'
  have d3 := HD2.out.below' hb3' (show B ≤ w2.heap.size by omega)
  clear hb3'
  have z3 := box_size hb3
  have g11 : w3.cell? ⟨w.heap.size, 11, none⟩ = some (.slice d.sA d.ss.length d.sc) := box_cell hb3 rfl
  have HB3 := Lib.hid hb3; clear hb3
  have HD3 := Lib.hid d3; clear d3
  cases ht3 : predOk d.pxs d.gain
  · go_wp2_with fail
    go_ret
    exact ⟨ret_bool (by simp [Dsk.ok, ht3]), box_done HB3.out⟩
  go_wp2_with fail
  refine (AreSounds_any _ _ _ _ B (by omega) HD3.out.s hm3).mono ?_
  rintro e w4 ⟨rfl, hb4'⟩
  have hb4 := box_next HB3.out hb4'
  clear hb4'
  have HB4 := Lib.hid hb4; clear hb4
  go_wp2_with fail
  go_ret
  exact ⟨ret_bool (by simp [Dsk.ok, ht, ht2, ht3]), box_done HB4.out⟩
end Go.Proofs.Ythmkbgiandncnaa
