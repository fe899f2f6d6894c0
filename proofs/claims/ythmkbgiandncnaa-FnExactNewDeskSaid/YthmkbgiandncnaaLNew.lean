/- The walk of the law of NewDesk. -/
import Derived.Test.YthmkbgiandncnaaMaD
namespace Go.Proofs.Ythmkbgiandncnaa
open Go.RowKit

def bareD : Dsk := newD none 0 none 0 none 0
theorem specNewHas_any (w : World) :
    Calls Try.prog 23 #[] w fun e w' => ∃ d : Dsk, e = .returned (.agg d.cells.toArray) ∧ d.bare = bareD ∧ HasD w' w.heap.size w'.heap.size d ∧ Below w.heap.size w w' :=
  (specNewDesk_any w).mono fun _ _ ⟨_, _, _, _, _, _, h1, h2, h3⟩ => ⟨_, h1, rfl, .of h2 rfl, h3⟩
theorem implNewHas_any (w : World) :
    Calls Try.prog 24 #[] w fun e w' => ∃ d : Dsk, e = .returned (.agg d.cells.toArray) ∧ d.bare = bareD ∧ HasD w' w.heap.size w'.heap.size d ∧ Below w.heap.size w w' :=
  (implNewDesk_any w).mono fun _ _ ⟨_, _, _, _, _, _, h1, h2, h3⟩ => ⟨_, h1, rfl, .of h2 rfl, h3⟩
theorem eqHasD_any {w : World} {lo hi lo' hi' : Nat} {d d' : Dsk} (h : HasD w lo hi d) (h' : HasD w lo' hi' d') (hq : d.bare = d'.bare) :
    Calls Try.prog 25 #[.agg d.cells.toArray, .agg d'.cells.toArray] w fun e w' => e = .returned (.bool true) ∧ Below w.heap.size w w' :=
  eqDesk_yes d d' w _ _ (Nat.le_refl _) (Nat.le_refl _) h.own.reads h'.own.reads (like_bare hq)

set_option maxHeartbeats 4000000 in
theorem FnExactNewDesk_any (w : World) :
    Calls Try.prog 5 #[] w fun e w' => e = .returned (.bool true) ∧ Below w.heap.size w w' := by
  go_enter Try.func5, Try.ntmps5
  go_wp2_with fail
  refine (specNewHas_any w).mono ?_
  rintro e w1 ⟨d, rfl, hd, hh, hb1⟩
  have z1 := hb1.size
  have HE := Lib.hid hd; have HH := Lib.hid hh; have HB1 := Lib.hid hb1; clear hd hh hb1
  obtain ⟨wz, hwz⟩ : ∃ wz, wz = w1.alloc (.cells d.cells.toArray 46) := ⟨_, rfl⟩
  have zz : wz.heap.size = w1.heap.size + 1 := by rw [hwz]; simp
  have hbz : Below w1.heap.size w1 wz := by rw [hwz]; exact bl_a _ _
  have HX := Lib.hid (show D12 wz w1.heap.size d by rw [hwz]; exact D12.box)
  have HBz := Lib.hid (bl_step HB1.out hbz); have HHz := Lib.hid (HH.out.below hbz); clear hbz HB1 HH
  unfold Dsk.cells at hwz ⊢
  go_wp2_with fail
  rw [← hwz]
  clear hwz
  refine (implNewHas_any wz).mono ?_
  rintro e w2 ⟨g, rfl, hg, hh, hb2⟩
  have z2 := hb2.size
  have HG := Lib.hid hg; have HI := Lib.hid hh
  have HX2 := Lib.hid (HX.out.below hb2 (by omega)); have HH2 := Lib.hid (HHz.out.below hb2); have HB2 := Lib.hid (bl_step HBz.out hb2); clear hg hh hb2 HX HHz HBz
  obtain ⟨wy, hwy⟩ : ∃ wy, wy = w2.alloc (.cells g.cells.toArray 46) := ⟨_, rfl⟩
  have zy : wy.heap.size = w2.heap.size + 1 := by rw [hwy]; simp
  have hby : Below w2.heap.size w2 wy := by rw [hwy]; exact bl_a _ _
  have HY := Lib.hid (show D12 wy w2.heap.size g by rw [hwy]; exact D12.box)
  have HX3 := Lib.hid (HX2.out.below hby (by omega)); have HH3 := Lib.hid (HH2.out.below hby); have HI3 := Lib.hid (HI.out.below hby); have HB3 := Lib.hid (bl_step HB2.out hby); clear hby HX2 HH2 HI HB2
  obtain ⟨h0, h1, h2, h3, h4, h5, h6, h7, h8, h9, h10, h11⟩ := HX3.out
  obtain ⟨k0, k1, k2, k3, k4, k5, k6, k7, k8, k9, k10, k11⟩ := HY.out
  unfold Dsk.cells at hwy ⊢
  rw [hwy] at h0 h1 h2 h3 h4 h5 h6 h7 h8 h9 h10 h11 k0 k1 k2 k3 k4 k5 k6 k7 k8 k9 k10 k11
  go_wp2_with fail
  rw [← hwy] at *
  clear h0 h1 h2 h3 h4 h5 h6 h7 h8 h9 h10 h11 k0 k1 k2 k3 k4 k5 k6 k7 k8 k9 k10 k11 hwy
  refine (eqHasD_any HI3.out HH3.out (HG.out.trans HE.out.symm)).mono ?_
  rintro e w3 ⟨rfl, hb4⟩
  have z3 := hb4.size
  have HX4 := Lib.hid (HX3.out.below hb4 (by omega)); have HY4 := Lib.hid (HY.out.below hb4 (by omega)); have HH4 := Lib.hid (HH3.out.below hb4); have HI4 := Lib.hid (HI3.out.below hb4); have HB4 := Lib.hid (bl_step HB3.out hb4); clear hb4 HX3 HY HH3 HI3 HB3
  obtain ⟨k0, k1, k2, k3, k4, k5, k6, k7, k8, k9, k10, k11⟩ := HY4.out
  go_wp2_with fail
  clear k0 k1 k2 k3 k4 k5 k6 k7 k8 k9 k10 k11
  refine (markDesk_any g w3 _ _ HI4.out).mono ?_
  rintro e w4 ⟨rfl, hm, ho⟩
  have z4 := ho.size
  generalize hnx : 1 + g.txs.length + g.pxs.length = nx at *
  have HNx := Lib.hid hnx; clear hnx
  have HX5 := Lib.hid (HX4.out.only ho (by omega) (.inl (by omega))); have HY5 := Lib.hid (HY4.out.only ho (by omega) (.inr (by omega)))
  have HH5 := Lib.hid (HH4.out.only ho (.inl (by omega))); have HI5 := Lib.hid hm; have HB5 := Lib.hid (HB4.out.trans ((ho.below (by omega)).mono (by omega))); clear hm ho HX4 HY4 HH4 HI4 HB4
  obtain ⟨k0, k1, k2, k3, k4, k5, k6, k7, k8, k9, k10, k11⟩ := HY5.out
  go_wp2_with fail
  clear k0 k1 k2 k3 k4 k5 k6 k7 k8 k9 k10 k11
  refine (heldDesk_any g w4 _ _ HI5.out).mono ?_
  rintro e w5 ⟨rfl, hb6⟩
  rw [HNx.out]
  have z5 := hb6.size
  have HX6 := Lib.hid (HX5.out.below hb6 (by omega)); have HY6 := Lib.hid (HY5.out.below hb6 (by omega)); have HH6 := Lib.hid (HH5.out.below hb6); have HI6 := Lib.hid (HI5.out.below hb6); have HB6 := Lib.hid (bl_step HB5.out hb6); clear hb6 HX5 HY5 HH5 HI5 HB5
  go_wp2_with fail
  refine (implNewHas_any w5).mono ?_
  rintro e w6 ⟨h, rfl, hh, hhh, hb7⟩
  have z6 := hb7.size
  have HX7 := Lib.hid (HX6.out.below hb7 (by omega)); have HY7 := Lib.hid (HY6.out.below hb7 (by omega)); have HH7 := Lib.hid (HH6.out.below hb7); have HI7 := Lib.hid (HI6.out.below hb7); have HB7 := Lib.hid (bl_step HB6.out hb7); clear hb7 HX6 HY6 HH6 HI6 HB6
  have HEh := Lib.hid hh; have HJ := Lib.hid hhh; clear hh hhh
  obtain ⟨wx, hwx⟩ : ∃ wx, wx = w6.alloc (.cells h.cells.toArray 46) := ⟨_, rfl⟩
  have zx : wx.heap.size = w6.heap.size + 1 := by rw [hwx]; simp
  have hbx : Below w6.heap.size w6 wx := by rw [hwx]; exact bl_a _ _
  have HW := Lib.hid (show D12 wx w6.heap.size h by rw [hwx]; exact D12.box)
  have HX8 := Lib.hid (HX7.out.below hbx (by omega)); have HY8 := Lib.hid (HY7.out.below hbx (by omega)); have HH8 := Lib.hid (HH7.out.below hbx); have HI8 := Lib.hid (HI7.out.below hbx); have HJ8 := Lib.hid (HJ.out.below hbx); have HB8 := Lib.hid (bl_step HB7.out hbx); clear hbx HX7 HY7 HH7 HI7 HJ HB7
  obtain ⟨h0, h1, h2, h3, h4, h5, h6, h7, h8, h9, h10, h11⟩ := HX8.out
  obtain ⟨k0, k1, k2, k3, k4, k5, k6, k7, k8, k9, k10, k11⟩ := HW.out
  unfold Dsk.cells at hwx ⊢
  rw [hwx] at h0 h1 h2 h3 h4 h5 h6 h7 h8 h9 h10 h11 k0 k1 k2 k3 k4 k5 k6 k7 k8 k9 k10 k11
  go_wp2_with fail
  rw [← hwx] at *
  clear h0 h1 h2 h3 h4 h5 h6 h7 h8 h9 h10 h11 k0 k1 k2 k3 k4 k5 k6 k7 k8 k9 k10 k11 hwx
  refine (eqHasD_any HJ8.out HH8.out (HEh.out.trans HE.out.symm)).mono ?_
  rintro e w7 ⟨rfl, hb9⟩
  have z7 := hb9.size
  have HY9 := Lib.hid (HY8.out.below hb9 (by omega)); have HI9 := Lib.hid (HI8.out.below hb9); have HB9 := Lib.hid (bl_step HB8.out hb9); clear hb9 HX8 HY8 HH8 HI8 HJ8 HB8
  obtain ⟨k0, k1, k2, k3, k4, k5, k6, k7, k8, k9, k10, k11⟩ := HY9.out
  go_wp2_with fail
  clear k0 k1 k2 k3 k4 k5 k6 k7 k8 k9 k10 k11
  refine (heldDesk_any g w7 _ _ HI9.out).mono ?_
  rintro e w8 ⟨rfl, hb10⟩
  have HB10 := Lib.hid (bl_step HB9.out hb10); clear hb10
  rw [HNx.out]
  go_wp2_with fail
  go_ret
  exact ⟨rfl, HB10.out⟩
end Go.Proofs.Ythmkbgiandncnaa
