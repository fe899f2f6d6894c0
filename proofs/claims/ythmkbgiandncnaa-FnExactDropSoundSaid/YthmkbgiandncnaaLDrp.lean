/- The walk of the law of DropSound. -/
import Derived.Test.YthmkbgiandncnaaDrp
namespace Go.Proofs.Ythmkbgiandncnaa
open Go.RowKit

set_option maxHeartbeats 4000000 in
theorem FnExactDropSound_any (A : Option Addr) (c : Nat) (ss : List Snd) (nm : ByteArray) (w : World) (B : Nat) (hB : B ≤ w.heap.size) (hx : Snds0 w B A ss) (hm : ss.length ≤ big) (hn : nm.size ≤ big) :
    Calls Try.prog 6 #[.slice A ss.length c, (.string nm)] w fun e w' => e = .returned (.bool true) ∧ Below w.heap.size w w' := by
  have HX0 := Lib.hid hx; clear hx
  have hn' := hn
  unfold big at hn'
  go_enter Try.func6, Try.ntmps6
  by_cases hbg : 1048576 < nm.size
  · go_wp2_with fail
    go_ret
    exact ⟨rfl, Below.refl _ _⟩
  go_wp2_with fail
  refine (szSoundS_any A c ss _ _ B hB HX0.out hm (by omega) (by omega)).mono ?_
  rintro e w1 ⟨r, rfl, hr, hr2, hb1⟩
  have z1 := hb1.size
  have HB1 := Lib.hid hb1; clear hb1
  have H2 := Lib.hid hr2; clear hr2
  by_cases hneg : r < 0
  · go_wp2_with fail
    go_ret
    exact ⟨rfl, HB1.out⟩
  have hfew := (H2.out (by omega)).2
  have hml := hfew.1
  have hxx : Snds w B A ss := ⟨HX0.out.1, fun s hs => ⟨(HX0.out.2 s hs).1, hfew.2 s hs⟩⟩
  have HX := Lib.hid hxx; clear hxx HX0 hfew H2
  -- the reference
  go_wp2_with fail
  refine (toHas_any A c ss w1 B (by omega) (HX.out.below' HB1.out hB) hml).mono ?_
  rintro e w2 ⟨v1, t1, rfl, s1, h1, hb2⟩
  have z2 := hb2.size
  have HB2 := Lib.hid (bl_step HB1.out hb2); clear hb2 HB1
  have S1 := Lib.hid s1; have H1 := Lib.hid h1; clear s1 h1
  go_wp2_with fail
  refine (specDrpHas_any nm H1.out).mono ?_
  rintro e w3 ⟨v0, t0, rfl, s0, h0, hb3⟩
  have z3 := hb3.size
  have HB3 := Lib.hid (bl_step HB2.out hb3); clear hb3 HB2
  have s0' := sames_trans (dropRes_bare S1.out nm) s0
  rw [← dropOk_bare S1.out nm]
  have S0 := Lib.hid s0'; have H0 := Lib.hid h0; clear s0 s0' h0 H1 S1
  generalize hok : dropOk ss nm = ok at *
  have HOk := Lib.hid hok; clear hok
  -- the program
  go_wp2_with fail
  refine (toHas_any A c ss w3 B (by omega) (HX.out.below' HB3.out hB) hml).mono ?_
  rintro e w4 ⟨vx, tx, rfl, sx, hxx, hb4⟩
  have z4 := hb4.size
  have H04 := Lib.hid (H0.out.below hb4); clear H0
  have HB4 := Lib.hid (bl_step HB3.out hb4); clear hb4 HB3
  have SX := Lib.hid sx; have HXX := Lib.hid hxx; clear sx hxx
  go_wp2_with fail
  refine (implDrpHas_any nm HXX.out).mono ?_
  rintro e w5 ⟨vg, tg, rfl, sg, hg, hb5⟩
  have z5 := hb5.size
  have H05 := Lib.hid (H04.out.below hb5); clear H04
  have HX5 := Lib.hid (HXX.out.below hb5); clear HXX
  have HB5 := Lib.hid (bl_step HB4.out hb5); clear hb5 HB4
  have sg' := sames_trans (dropRes_bare SX.out nm) sg
  rw [← dropOk_bare SX.out nm, HOk.out]
  have SG := Lib.hid sg'; have HG := Lib.hid hg; clear sg sg' hg
  have hlk := sames_likes (sames_trans (sames_symm SG.out) S0.out)
  have LK := Lib.hid hlk; clear hlk
  go_wp2_with fail
  refine (eqHas_any HG.out H05.out LK.out).mono ?_
  rintro e w6 ⟨rfl, hb6⟩
  have z6 := hb6.size
  have H06 := Lib.hid (H05.out.below hb6); clear H05
  have HX6 := Lib.hid (HX5.out.below hb6); clear HX5
  have HG6 := Lib.hid (HG.out.below hb6); clear HG
  have HB6 := Lib.hid (bl_step HB5.out hb6); clear hb6 HB5
  have nok : (ok != ok) = false := by simp
  -- the argument is as it was
  go_wp2_with fail
  refine (toHas_any A c ss w6 B (by omega) (HX.out.below' HB6.out hB) hml).mono ?_
  rintro e w7 ⟨vy, ty, rfl, sy, hy, hb7⟩
  have z7 := hb7.size
  have H07 := Lib.hid (H06.out.below hb7); clear H06
  have HX7 := Lib.hid (HX6.out.below hb7); clear HX6
  have HG7 := Lib.hid (HG6.out.below hb7); clear HG6
  have HB7 := Lib.hid (bl_step HB6.out hb7); clear hb7 HB6
  have HY := Lib.hid hy; clear hy
  have hlk2 := sames_likes (sames_trans (sames_symm SX.out) sy)
  have LK2 := Lib.hid hlk2; clear hlk2 sy
  go_wp2_with fail
  refine (eqHas_any HX7.out HY.out LK2.out).mono ?_
  rintro e w8 ⟨rfl, hb8⟩
  have z8 := hb8.size
  have H08 := Lib.hid (H07.out.below hb8); clear H07
  have HX8 := Lib.hid (HX7.out.below hb8); clear HX7
  have HG8 := Lib.hid (HG7.out.below hb8); clear HG7
  have HB8 := Lib.hid (bl_step HB7.out hb8); clear hb8 HB7 HY LK2
  -- the argument is marked: the result is as it was
  go_wp2_with fail
  refine (markHas_any HX8.out).mono ?_
  rintro e w9 ⟨rfl, _, ho9⟩
  have z9 := ho9.size
  have H09 := Lib.hid (H08.out.only ho9 (.inl (by omega))); clear H08
  have HG9 := Lib.hid (HG8.out.only ho9 (.inr (by omega))); clear HG8
  have HB9 := Lib.hid (HB8.out.trans ((ho9.below (by omega)).mono (by omega))); clear ho9 HB8 HX8
  go_wp2_with fail
  refine (eqHas_any HG9.out H09.out LK.out).mono ?_
  rintro e w10 ⟨rfl, hb10⟩
  have z10 := hb10.size
  have H10 := Lib.hid (H09.out.below hb10); clear H09
  have HG10 := Lib.hid (HG9.out.below hb10); clear HG9
  have HB10 := Lib.hid (bl_step HB9.out hb10); clear hb10 HB9
  -- the result is marked
  go_wp2_with fail
  refine (markHas_any HG10.out).mono ?_
  rintro e w11 ⟨rfl, hm11, ho11⟩
  have z11 := ho11.size
  have hfw := HG10.out.own.few
  have FW := Lib.hid hfw; clear hfw
  have H11 := Lib.hid (H10.out.only ho11 (.inl (by omega))); clear H10
  have HG11 := Lib.hid hm11; clear hm11 HG10
  have HB11 := Lib.hid (HB10.out.trans ((ho11.below (by omega)).mono (by omega))); clear ho11 HB10
  go_wp2_with fail
  refine (heldHas_any HG11.out FW.out).mono ?_
  rintro e w12 ⟨rfl, hb12⟩
  have z12 := hb12.size
  have H12 := Lib.hid (H11.out.below hb12); clear H11
  have HG12 := Lib.hid (HG11.out.below hb12); clear HG11
  have HB12 := Lib.hid (bl_step HB11.out hb12); clear hb12 HB11
  generalize hnx : nextS tg 1 = nx at *
  have HNx := Lib.hid hnx; clear hnx
  -- once more
  go_wp2_with fail
  refine (toHas_any A c ss w12 B (by omega) (HX.out.below' HB12.out hB) hml).mono ?_
  rintro e w13 ⟨vz, tz, rfl, sz, hz, hb13⟩
  have z13 := hb13.size
  have H13 := Lib.hid (H12.out.below hb13); clear H12
  have HG13 := Lib.hid (HG12.out.below hb13); clear HG12
  have HB13 := Lib.hid (bl_step HB12.out hb13); clear hb13 HB12
  have SZ := Lib.hid sz; have HZ := Lib.hid hz; clear sz hz
  go_wp2_with fail
  refine (implDrpHas_any nm HZ.out).mono ?_
  rintro e w14 ⟨vh, th, rfl, sh, hh, hb14⟩
  have z14 := hb14.size
  have H14 := Lib.hid (H13.out.below hb14); clear H13
  have HG14 := Lib.hid (HG13.out.below hb14); clear HG13
  have HB14 := Lib.hid (bl_step HB13.out hb14); clear hb14 HB13 HZ
  rw [← dropOk_bare SZ.out nm, HOk.out]
  have hlk3 := sames_likes (sames_trans (sames_symm (sames_trans (dropRes_bare SZ.out nm) sh)) S0.out)
  have LK3 := Lib.hid hlk3; have HH := Lib.hid hh; clear hlk3 hh sh
  go_wp2_with fail
  refine (eqHas_any HH.out H14.out LK3.out).mono ?_
  rintro e w15 ⟨rfl, hb15⟩
  have HG15 := Lib.hid (HG14.out.below hb15); clear HG14
  have HB15 := Lib.hid (bl_step HB14.out hb15); clear hb15 HB14
  go_wp2_with fail
  refine (heldHas_any HG15.out FW.out).mono ?_
  rintro e w16 ⟨rfl, hb16⟩
  have HB16 := Lib.hid (bl_step HB15.out hb16); clear hb16 HB15
  rw [HNx.out]
  go_wp2_with fail
  go_ret
  exact ⟨rfl, HB16.out⟩
end Go.Proofs.Ythmkbgiandncnaa
