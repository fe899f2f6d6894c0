/- When desks are the same: the specification's test and the program's. -/
import Derived.Test.YthmkbgiandncnaaSam5
namespace Go.Proofs.Ythmkbgiandncnaa
open Go.RowKit

theorem D12.two {w : World} {d d' : Dsk} {t t' : TypeId} : D12 ((w.alloc (.cells d.cells.toArray t)).alloc (.cells d'.cells.toArray t')) w.heap.size d ∧ D12 ((w.alloc (.cells d.cells.toArray t)).alloc (.cells d'.cells.toArray t')) (w.heap.size + 1) d' := by
  refine ⟨(D12.box (w := w) (d := d) (t := t)).below (B := w.heap.size + 1) ((Below.refl _ _).alloc (by simp) _) (Nat.lt_succ_self _), ?_⟩
  have := D12.box (w := w.alloc (.cells d.cells.toArray t)) (d := d') (t := t')
  rwa [show (w.alloc (.cells d.cells.toArray t)).heap.size = w.heap.size + 1 by simp] at this
theorem D12.parts {w : World} {b : Nat} {d : Dsk} (h : D12 w b d) : At w ⟨b, 0, none⟩ [.slice d.tA d.txs.length d.tc, fl d.loss, fl d.throat, fl d.lips] ∧ At w ⟨b, 9, none⟩ [.slice d.pA d.pxs.length d.pc, fl d.gain] := by
  obtain ⟨h0, _, h2, _⟩ := desk_at h.at_
  exact ⟨h0, by simpa using h2⟩

theorem D12.d4 {w : World} {b : Nat} {d : Dsk} (h : D12 w b d) : w.cell? ⟨b, 4, none⟩ = some (fl d.period) := h.2.2.2.2.1
theorem D12.d5 {w : World} {b : Nat} {d : Dsk} (h : D12 w b d) : w.cell? ⟨b, 5, none⟩ = some (fl d.op) := h.2.2.2.2.2.1
theorem D12.d6 {w : World} {b : Nat} {d : Dsk} (h : D12 w b d) : w.cell? ⟨b, 6, none⟩ = some (fl d.cl) := h.2.2.2.2.2.2.1
theorem D12.d7 {w : World} {b : Nat} {d : Dsk} (h : D12 w b d) : w.cell? ⟨b, 7, none⟩ = some (fl d.breath) := h.2.2.2.2.2.2.2.1
theorem D12.d8 {w : World} {b : Nat} {d : Dsk} (h : D12 w b d) : w.cell? ⟨b, 8, none⟩ = some (fl d.shake) := h.2.2.2.2.2.2.2.2.1
theorem D12.d9 {w : World} {b : Nat} {d : Dsk} (h : D12 w b d) : w.cell? ⟨b, 9, none⟩ = some (.slice d.pA d.pxs.length d.pc) := h.2.2.2.2.2.2.2.2.2.1
theorem D12.d10 {w : World} {b : Nat} {d : Dsk} (h : D12 w b d) : w.cell? ⟨b, 10, none⟩ = some (fl d.gain) := h.2.2.2.2.2.2.2.2.2.2.1
theorem D12.d11 {w : World} {b : Nat} {d : Dsk} (h : D12 w b d) : w.cell? ⟨b, 11, none⟩ = some (.slice d.sA d.ss.length d.sc) := h.2.2.2.2.2.2.2.2.2.2.2

set_option maxHeartbeats 2000000 in
theorem specSameDesk_any (d d' : Dsk) (w : World) (B B' : Nat) (hB : B ≤ w.heap.size) (hB' : B' ≤ w.heap.size) (hd : DskIn w B d) (hd' : DskIn w B' d') (fd : d.fit) (fd' : d'.fit) :
    Calls Try.prog 31 #[.agg d.cells.toArray, .agg d'.cells.toArray] w fun e w' => e = .returned (.bool (dskSm d d')) ∧ Below w.heap.size w w' := by
  have HD0 := Lib.hid hd; have HD0' := Lib.hid hd'; clear hd hd'
  have hm := HD0.out.tn; have hm2 := HD0.out.pn; have hm3 := HD0.out.sn
  have hn := HD0'.out.tn; have hn2 := HD0'.out.pn; have hn3 := HD0'.out.sn
  obtain ⟨i0, i1, i2, i3, i4, i5, i6, i7, i8, i9, i10, i11⟩ := fd
  obtain ⟨j0, j1, j2, j3, j4, j5, j6, j7, j8, j9, j10, j11⟩ := fd'
  have I0 := Lib.hid i0; have I9 := Lib.hid i9; have I11 := Lib.hid i11; have J0 := Lib.hid j0; have J9 := Lib.hid j9; have J11 := Lib.hid j11
  clear i0 i9 i11 j0 j9 j11
  have HTW := Lib.hid (D12.two (w := w) (d := d) (d' := d') (t := 46) (t' := 46))
  unfold Dsk.cells
  go_enter Try.func31, Try.ntmps31
  go_wp2_with fail
  generalize hwz : World.alloc (World.alloc _ _) _ = wz
  replace hwz := hwz.symm
  have zz : wz.heap.size = w.heap.size + 2 := by rw [hwz]; simp
  have HD := Lib.hid (show DskIn wz B d by rw [hwz]; exact (HD0.out.alloc hB _).alloc (by simp; omega) _)
  have HD' := Lib.hid (show DskIn wz B' d' by rw [hwz]; exact (HD0'.out.alloc hB' _).alloc (by simp; omega) _)
  have HX := Lib.hid (show D12 wz w.heap.size d by rw [hwz]; exact HTW.out.1)
  have HY := Lib.hid (show D12 wz (w.heap.size + 1) d' by rw [hwz]; exact HTW.out.2)
  have HZ := Lib.hid (show Below w.heap.size w wz by rw [hwz]; exact bl_step (bl_a _ _) (bl_a _ _))
  clear hwz HTW
  cases q1 : tubeSm d.txs d.loss d.throat d.lips d'.txs d'.loss d'.throat d'.lips
  · refine (bool_of (l02Same_any _ _ _ _ d.tc d'.tc _ _ _ _ _ _ _ _ _ B B' HX.out.parts.1 HY.out.parts.1 HD.out.t HD'.out.t hm hn I0.out J0.out (by assumption) (by assumption) (by assumption) (by assumption) (by assumption) (by assumption)) q1).mono ?_
    rintro e w1 ⟨rfl, n1, hw1⟩
    have hb1 : Below wz.heap.size wz w1 := by rw [hw1]; exact below_drewN _ _ _
    clear hw1
    have z1 := hb1.size
    have HB1 := Lib.hid (show Below (w.heap.size + 2) wz w1 from hb1.mono (by omega)); clear hb1
    go_wp2_with fail
    go_ret
    exact ⟨ret_bool (by simp [dskSm, q1]), HZ.out.trans (HB1.out.mono (by omega))⟩
  refine (bool_of (l02Same_any _ _ _ _ d.tc d'.tc _ _ _ _ _ _ _ _ _ B B' HX.out.parts.1 HY.out.parts.1 HD.out.t HD'.out.t hm hn I0.out J0.out (by assumption) (by assumption) (by assumption) (by assumption) (by assumption) (by assumption)) q1).mono ?_
  rintro e w1 ⟨rfl, n1, hw1⟩
  have hb1 : Below wz.heap.size wz w1 := by rw [hw1]; exact below_drewN _ _ _
  clear hw1
  have z1 := hb1.size
  have HB1 := Lib.hid (show Below (w.heap.size + 2) wz w1 from hb1.mono (by omega)); clear hb1
  have Dg1 := Lib.hid (HX.out.below HB1.out (by omega))
  have g4 : w1.cell? ⟨w.heap.size, 4, none⟩ = some (fl d.period) := Dg1.out.d4
  have g5 : w1.cell? ⟨w.heap.size, 5, none⟩ = some (fl d.op) := Dg1.out.d5
  have g6 : w1.cell? ⟨w.heap.size, 6, none⟩ = some (fl d.cl) := Dg1.out.d6
  have g7 : w1.cell? ⟨w.heap.size, 7, none⟩ = some (fl d.breath) := Dg1.out.d7
  have g8 : w1.cell? ⟨w.heap.size, 8, none⟩ = some (fl d.shake) := Dg1.out.d8
  have Dh1 := Lib.hid (HY.out.below HB1.out (by omega))
  have h4 : w1.cell? ⟨w.heap.size + 1, 4, none⟩ = some (fl d'.period) := Dh1.out.d4
  have h5 : w1.cell? ⟨w.heap.size + 1, 5, none⟩ = some (fl d'.op) := Dh1.out.d5
  have h6 : w1.cell? ⟨w.heap.size + 1, 6, none⟩ = some (fl d'.cl) := Dh1.out.d6
  have h7 : w1.cell? ⟨w.heap.size + 1, 7, none⟩ = some (fl d'.breath) := Dh1.out.d7
  have h8 : w1.cell? ⟨w.heap.size + 1, 8, none⟩ = some (fl d'.shake) := Dh1.out.d8
  go_wp2_with fail
  cases q2 : throatSm d.period d.op d.cl d.breath d.shake d'.period d'.op d'.cl d'.breath d'.shake
  · refine (bool_of (specSameThroat_any _ _ _ _ _ _ _ _ _ _ _ (by assumption) (by assumption) (by assumption) (by assumption) (by assumption) (by assumption) (by assumption) (by assumption) (by assumption) (by assumption)) q2).mono ?_
    rintro e w2 ⟨rfl, hb2⟩
    have z2 := hb2.size
    have HB2 := Lib.hid (show Below (w.heap.size + 2) wz w2 from HB1.out.trans (hb2.mono (by omega))); clear hb2
    go_wp2_with fail
    go_ret
    exact ⟨ret_bool (by simp [dskSm, q1, q2]), HZ.out.trans (HB2.out.mono (by omega))⟩
  refine (bool_of (specSameThroat_any _ _ _ _ _ _ _ _ _ _ _ (by assumption) (by assumption) (by assumption) (by assumption) (by assumption) (by assumption) (by assumption) (by assumption) (by assumption) (by assumption)) q2).mono ?_
  rintro e w2 ⟨rfl, hb2⟩
  have z2 := hb2.size
  have HB2 := Lib.hid (show Below (w.heap.size + 2) wz w2 from HB1.out.trans (hb2.mono (by omega))); clear hb2
  have Dg2 := Lib.hid (HX.out.below HB2.out (by omega))
  have g9 : w2.cell? ⟨w.heap.size, 9, none⟩ = some (.slice d.pA d.pxs.length d.pc) := Dg2.out.d9
  have g10 : w2.cell? ⟨w.heap.size, 10, none⟩ = some (fl d.gain) := Dg2.out.d10
  have Dh2 := Lib.hid (HY.out.below HB2.out (by omega))
  have h9 : w2.cell? ⟨w.heap.size + 1, 9, none⟩ = some (.slice d'.pA d'.pxs.length d'.pc) := Dh2.out.d9
  have h10 : w2.cell? ⟨w.heap.size + 1, 10, none⟩ = some (fl d'.gain) := Dh2.out.d10
  go_wp2_with fail
  cases q3 : predSm d.pxs d.gain d'.pxs d'.gain
  · refine (bool_of (l04Same_any _ _ _ _ d.pc d'.pc _ _ _ _ _ B B' (HX.out.below HB2.out (by omega)).parts.2 (HY.out.below HB2.out (by omega)).parts.2 (HD.out.p.below' HB2.out (by omega)) (HD'.out.p.below' HB2.out (by omega)) hm2 hn2 I9.out J9.out (by assumption) (by assumption)) q3).mono ?_
    rintro e w3 ⟨rfl, n3, hw3⟩
    have hb3 : Below w2.heap.size w2 w3 := by rw [hw3]; exact below_drewN _ _ _
    clear hw3
    have z3 := hb3.size
    have HB3 := Lib.hid (show Below (w.heap.size + 2) wz w3 from HB2.out.trans (hb3.mono (by omega))); clear hb3
    go_wp2_with fail
    go_ret
    exact ⟨ret_bool (by simp [dskSm, q1, q2, q3]), HZ.out.trans (HB3.out.mono (by omega))⟩
  refine (bool_of (l04Same_any _ _ _ _ d.pc d'.pc _ _ _ _ _ B B' (HX.out.below HB2.out (by omega)).parts.2 (HY.out.below HB2.out (by omega)).parts.2 (HD.out.p.below' HB2.out (by omega)) (HD'.out.p.below' HB2.out (by omega)) hm2 hn2 I9.out J9.out (by assumption) (by assumption)) q3).mono ?_
  rintro e w3 ⟨rfl, n3, hw3⟩
  have hb3 : Below w2.heap.size w2 w3 := by rw [hw3]; exact below_drewN _ _ _
  clear hw3
  have z3 := hb3.size
  have HB3 := Lib.hid (show Below (w.heap.size + 2) wz w3 from HB2.out.trans (hb3.mono (by omega))); clear hb3
  have Dg3 := Lib.hid (HX.out.below HB3.out (by omega))
  have g11 : w3.cell? ⟨w.heap.size, 11, none⟩ = some (.slice d.sA d.ss.length d.sc) := Dg3.out.d11
  have Dh3 := Lib.hid (HY.out.below HB3.out (by omega))
  have h11 : w3.cell? ⟨w.heap.size + 1, 11, none⟩ = some (.slice d'.sA d'.ss.length d'.sc) := Dh3.out.d11
  go_wp2_with fail
  cases q4 : sndsSm d.ss d'.ss
  · refine (bool_of (l06Same_any _ _ _ _ d.ss d'.ss _ B B' (HD.out.s.below' HB3.out (by omega)) (HD'.out.s.below' HB3.out (by omega)) I11.out J11.out hm3 hn3) q4).mono ?_
    rintro e w4 ⟨rfl, n4, hw4⟩
    have hb4 : Below w3.heap.size w3 w4 := by rw [hw4]; exact below_drewN _ _ _
    clear hw4
    have z4 := hb4.size
    have HB4 := Lib.hid (show Below (w.heap.size + 2) wz w4 from HB3.out.trans (hb4.mono (by omega))); clear hb4
    go_wp2_with fail
    go_ret
    exact ⟨ret_bool (by simp [dskSm, q1, q2, q3, q4]), HZ.out.trans (HB4.out.mono (by omega))⟩
  refine (bool_of (l06Same_any _ _ _ _ d.ss d'.ss _ B B' (HD.out.s.below' HB3.out (by omega)) (HD'.out.s.below' HB3.out (by omega)) I11.out J11.out hm3 hn3) q4).mono ?_
  rintro e w4 ⟨rfl, n4, hw4⟩
  have hb4 : Below w3.heap.size w3 w4 := by rw [hw4]; exact below_drewN _ _ _
  clear hw4
  have z4 := hb4.size
  have HB4 := Lib.hid (show Below (w.heap.size + 2) wz w4 from HB3.out.trans (hb4.mono (by omega))); clear hb4
  go_wp2_with fail
  go_ret
  exact ⟨ret_bool (by simp [dskSm, q1, q2, q3, q4]), HZ.out.trans (HB4.out.mono (by omega))⟩


set_option maxHeartbeats 2000000 in
theorem SameDesk_any (d d' : Dsk) (w : World) (B B' : Nat) (hB : B ≤ w.heap.size) (hB' : B' ≤ w.heap.size) (hd : DskIn w B d) (hd' : DskIn w B' d') (fd : d.fit) (fd' : d'.fit) :
    Calls Try.prog 33 #[.agg d.cells.toArray, .agg d'.cells.toArray] w fun e w' => e = .returned (.bool (dskSm d d')) ∧ Below w.heap.size w w' := by
  have HD0 := Lib.hid hd; have HD0' := Lib.hid hd'; clear hd hd'
  have hm := HD0.out.tn; have hm2 := HD0.out.pn; have hm3 := HD0.out.sn
  have hn := HD0'.out.tn; have hn2 := HD0'.out.pn; have hn3 := HD0'.out.sn
  obtain ⟨i0, i1, i2, i3, i4, i5, i6, i7, i8, i9, i10, i11⟩ := fd
  obtain ⟨j0, j1, j2, j3, j4, j5, j6, j7, j8, j9, j10, j11⟩ := fd'
  have I0 := Lib.hid i0; have I9 := Lib.hid i9; have I11 := Lib.hid i11; have J0 := Lib.hid j0; have J9 := Lib.hid j9; have J11 := Lib.hid j11
  clear i0 i9 i11 j0 j9 j11
  have HTW := Lib.hid (D12.two (w := w) (d := d) (d' := d') (t := 46) (t' := 46))
  unfold Dsk.cells
  go_enter Try.func33, Try.ntmps33
  go_wp2_with fail
  generalize hwz : World.alloc (World.alloc _ _) _ = wz
  replace hwz := hwz.symm
  have zz : wz.heap.size = w.heap.size + 2 := by rw [hwz]; simp
  have HD := Lib.hid (show DskIn wz B d by rw [hwz]; exact (HD0.out.alloc hB _).alloc (by simp; omega) _)
  have HD' := Lib.hid (show DskIn wz B' d' by rw [hwz]; exact (HD0'.out.alloc hB' _).alloc (by simp; omega) _)
  have HX := Lib.hid (show D12 wz w.heap.size d by rw [hwz]; exact HTW.out.1)
  have HY := Lib.hid (show D12 wz (w.heap.size + 1) d' by rw [hwz]; exact HTW.out.2)
  have HZ := Lib.hid (show Below w.heap.size w wz by rw [hwz]; exact bl_step (bl_a _ _) (bl_a _ _))
  clear hwz HTW
  cases q1 : tubeSm d.txs d.loss d.throat d.lips d'.txs d'.loss d'.throat d'.lips
  · refine (bool_of (SameTube_any _ _ d.tc d'.tc _ _ _ _ _ _ _ _ _ B B' (by omega) (by omega) HD.out.t HD'.out.t hm hn I0.out J0.out (by assumption) (by assumption) (by assumption) (by assumption) (by assumption) (by assumption)) q1).mono ?_
    rintro e w1 ⟨rfl, hb1⟩
    have z1 := hb1.size
    have HB1 := Lib.hid (show Below (w.heap.size + 2) wz w1 from hb1.mono (by omega)); clear hb1
    go_wp2_with fail
    go_ret
    exact ⟨ret_bool (by simp [dskSm, q1]), HZ.out.trans (HB1.out.mono (by omega))⟩
  refine (bool_of (SameTube_any _ _ d.tc d'.tc _ _ _ _ _ _ _ _ _ B B' (by omega) (by omega) HD.out.t HD'.out.t hm hn I0.out J0.out (by assumption) (by assumption) (by assumption) (by assumption) (by assumption) (by assumption)) q1).mono ?_
  rintro e w1 ⟨rfl, hb1⟩
  have z1 := hb1.size
  have HB1 := Lib.hid (show Below (w.heap.size + 2) wz w1 from hb1.mono (by omega)); clear hb1
  have Dg1 := Lib.hid (HX.out.below HB1.out (by omega))
  have g4 : w1.cell? ⟨w.heap.size, 4, none⟩ = some (fl d.period) := Dg1.out.d4
  have g5 : w1.cell? ⟨w.heap.size, 5, none⟩ = some (fl d.op) := Dg1.out.d5
  have g6 : w1.cell? ⟨w.heap.size, 6, none⟩ = some (fl d.cl) := Dg1.out.d6
  have g7 : w1.cell? ⟨w.heap.size, 7, none⟩ = some (fl d.breath) := Dg1.out.d7
  have g8 : w1.cell? ⟨w.heap.size, 8, none⟩ = some (fl d.shake) := Dg1.out.d8
  have Dh1 := Lib.hid (HY.out.below HB1.out (by omega))
  have h4 : w1.cell? ⟨w.heap.size + 1, 4, none⟩ = some (fl d'.period) := Dh1.out.d4
  have h5 : w1.cell? ⟨w.heap.size + 1, 5, none⟩ = some (fl d'.op) := Dh1.out.d5
  have h6 : w1.cell? ⟨w.heap.size + 1, 6, none⟩ = some (fl d'.cl) := Dh1.out.d6
  have h7 : w1.cell? ⟨w.heap.size + 1, 7, none⟩ = some (fl d'.breath) := Dh1.out.d7
  have h8 : w1.cell? ⟨w.heap.size + 1, 8, none⟩ = some (fl d'.shake) := Dh1.out.d8
  go_wp2_with fail
  cases q2 : throatSm d.period d.op d.cl d.breath d.shake d'.period d'.op d'.cl d'.breath d'.shake
  · refine (bool_of (SameThroat_any _ _ _ _ _ _ _ _ _ _ _ (by assumption) (by assumption) (by assumption) (by assumption) (by assumption) (by assumption) (by assumption) (by assumption) (by assumption) (by assumption)) q2).mono ?_
    rintro e w2 ⟨rfl, hb2⟩
    have z2 := hb2.size
    have HB2 := Lib.hid (show Below (w.heap.size + 2) wz w2 from HB1.out.trans (hb2.mono (by omega))); clear hb2
    go_wp2_with fail
    go_ret
    exact ⟨ret_bool (by simp [dskSm, q1, q2]), HZ.out.trans (HB2.out.mono (by omega))⟩
  refine (bool_of (SameThroat_any _ _ _ _ _ _ _ _ _ _ _ (by assumption) (by assumption) (by assumption) (by assumption) (by assumption) (by assumption) (by assumption) (by assumption) (by assumption) (by assumption)) q2).mono ?_
  rintro e w2 ⟨rfl, hb2⟩
  have z2 := hb2.size
  have HB2 := Lib.hid (show Below (w.heap.size + 2) wz w2 from HB1.out.trans (hb2.mono (by omega))); clear hb2
  have Dg2 := Lib.hid (HX.out.below HB2.out (by omega))
  have g9 : w2.cell? ⟨w.heap.size, 9, none⟩ = some (.slice d.pA d.pxs.length d.pc) := Dg2.out.d9
  have g10 : w2.cell? ⟨w.heap.size, 10, none⟩ = some (fl d.gain) := Dg2.out.d10
  have Dh2 := Lib.hid (HY.out.below HB2.out (by omega))
  have h9 : w2.cell? ⟨w.heap.size + 1, 9, none⟩ = some (.slice d'.pA d'.pxs.length d'.pc) := Dh2.out.d9
  have h10 : w2.cell? ⟨w.heap.size + 1, 10, none⟩ = some (fl d'.gain) := Dh2.out.d10
  go_wp2_with fail
  cases q3 : predSm d.pxs d.gain d'.pxs d'.gain
  · refine (bool_of (SamePredictor_any _ _ d.pc d'.pc _ _ _ _ _ B B' (by omega) (by omega) (HD.out.p.below' HB2.out (by omega)) (HD'.out.p.below' HB2.out (by omega)) hm2 hn2 I9.out J9.out (by assumption) (by assumption)) q3).mono ?_
    rintro e w3 ⟨rfl, hb3⟩
    have z3 := hb3.size
    have HB3 := Lib.hid (show Below (w.heap.size + 2) wz w3 from HB2.out.trans (hb3.mono (by omega))); clear hb3
    go_wp2_with fail
    go_ret
    exact ⟨ret_bool (by simp [dskSm, q1, q2, q3]), HZ.out.trans (HB3.out.mono (by omega))⟩
  refine (bool_of (SamePredictor_any _ _ d.pc d'.pc _ _ _ _ _ B B' (by omega) (by omega) (HD.out.p.below' HB2.out (by omega)) (HD'.out.p.below' HB2.out (by omega)) hm2 hn2 I9.out J9.out (by assumption) (by assumption)) q3).mono ?_
  rintro e w3 ⟨rfl, hb3⟩
  have z3 := hb3.size
  have HB3 := Lib.hid (show Below (w.heap.size + 2) wz w3 from HB2.out.trans (hb3.mono (by omega))); clear hb3
  have Dg3 := Lib.hid (HX.out.below HB3.out (by omega))
  have g11 : w3.cell? ⟨w.heap.size, 11, none⟩ = some (.slice d.sA d.ss.length d.sc) := Dg3.out.d11
  have Dh3 := Lib.hid (HY.out.below HB3.out (by omega))
  have h11 : w3.cell? ⟨w.heap.size + 1, 11, none⟩ = some (.slice d'.sA d'.ss.length d'.sc) := Dh3.out.d11
  go_wp2_with fail
  cases q4 : sndsSm d.ss d'.ss
  · refine (bool_of (SameSounds_any _ _ _ _ d.ss d'.ss _ B B' (by omega) (by omega) (HD.out.s.below' HB3.out (by omega)) (HD'.out.s.below' HB3.out (by omega)) I11.out J11.out hm3 hn3) q4).mono ?_
    rintro e w4 ⟨rfl, hb4⟩
    have z4 := hb4.size
    have HB4 := Lib.hid (show Below (w.heap.size + 2) wz w4 from HB3.out.trans (hb4.mono (by omega))); clear hb4
    go_wp2_with fail
    go_ret
    exact ⟨ret_bool (by simp [dskSm, q1, q2, q3, q4]), HZ.out.trans (HB4.out.mono (by omega))⟩
  refine (bool_of (SameSounds_any _ _ _ _ d.ss d'.ss _ B B' (by omega) (by omega) (HD.out.s.below' HB3.out (by omega)) (HD'.out.s.below' HB3.out (by omega)) I11.out J11.out hm3 hn3) q4).mono ?_
  rintro e w4 ⟨rfl, hb4⟩
  have z4 := hb4.size
  have HB4 := Lib.hid (show Below (w.heap.size + 2) wz w4 from HB3.out.trans (hb4.mono (by omega))); clear hb4
  go_wp2_with fail
  go_ret
  exact ⟨ret_bool (by simp [dskSm, q1, q2, q3, q4]), HZ.out.trans (HB4.out.mono (by omega))⟩

end Go.Proofs.Ythmkbgiandncnaa
