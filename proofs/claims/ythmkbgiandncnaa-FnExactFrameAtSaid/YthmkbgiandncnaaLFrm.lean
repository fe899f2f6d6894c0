/- The walk of the law of FrameAt. -/
import Derived.Test.YthmkbgiandncnaaFrH
namespace Go.Proofs.Ythmkbgiandncnaa
open Go.RowKit

set_option maxRecDepth 20000 in
set_option maxHeartbeats 4000000 in
theorem FnExactFrameAt_any (A0 : Option Addr) (c0 : Nat) (s0 : List Snd) (A1 : Option Addr) (c1 : Nat) (m1 : List ByteArray) (A2 : Option Addr) (c2 : Nat) (x2 : List Nat) (b3 : Nat) (w : World) (B : Nat) (hB : B ≤ w.heap.size) (hx0 : Snds0 w B A0 s0) (hm0 : s0.length ≤ big) (hx1 : Strs w B A1 m1) (hm1 : m1.length ≤ big ∧ ∀ x ∈ m1, x.size ≤ big) (hx2 : Fs w B A2 x2) (hm2 : x2.length ≤ big) :
    Calls Try.prog 10 #[.slice A0 s0.length c0, .slice A1 m1.length c1, .slice A2 x2.length c2, fl b3] w fun e w' => e = .returned (.bool true) ∧ Below w.heap.size w w' := by
  have HX0 := Lib.hid hx0; clear hx0
  have HX1 := Lib.hid hx1; clear hx1
  have HX2 := Lib.hid hx2; clear hx2
  have hm0' := hm0; unfold big at hm0'
  have hm1' := hm1.1; unfold big at hm1'
  have hm2' := hm2; unfold big at hm2'
  go_enter Try.func10, Try.ntmps10
  by_cases hg : 1048576 < x2.length
  · go_wp2_with fail
    go_ret
    exact ⟨rfl, Below.refl _ _⟩
  have hgl0 := Nat.le_of_not_lt hg; clear hg
  have HB_0 := Lib.hid (Below.refl w.heap.size w)
  go_wp2_with fail
  refine (szSoundS_any A0 c0 s0 _ w B (by omega) (HX0.out) hm0 (by omega) (by omega)).mono ?_
  rintro e w1 ⟨r1, rfl, hr1, hq1, hb⟩
  have z1 := hb.size
  have HB_1 := Lib.hid (bl_step HB_0.out hb); clear hb HB_0
  have HQ1 := Lib.hid hq1; clear hq1
  by_cases hneg : r1 < 0
  · go_wp2_with fail
    go_ret
    exact ⟨rfl, HB_1.out⟩
  have hfw0 := (HQ1.out (by omega)).2
  have hle1 := (HQ1.out (by omega)).1
  have hnn1 : 0 ≤ r1 := by omega
  clear hneg
  have hlen0 := hfw0.1
  have hxx0 : Snds w B A0 s0 := ⟨HX0.out.1, fun s hs => ⟨(HX0.out.2 s hs).1, hfw0.2 s hs⟩⟩
  clear HX0; have HX0 := Lib.hid hxx0; clear hxx0 hfw0
  go_wp2_with fail
  refine (szStringS_any A1 c1 m1 _ w1 B (by omega) ((HX1.out).below' HB_1.out hB) hm1.1 hm1.2 (by omega) (by omega)).mono ?_
  rintro e w2 ⟨r2, rfl, hr2, hq2, hb⟩
  have z2 := hb.size
  have HB_2 := Lib.hid (bl_step HB_1.out hb); clear hb HB_1
  have HQ2 := Lib.hid hq2; clear hq2
  by_cases hneg : r2 < 0
  · go_wp2_with fail
    go_ret
    exact ⟨rfl, HB_2.out⟩
  have hfw1 := (HQ2.out (by omega)).2
  have hle2 := (HQ2.out (by omega)).1
  have hnn2 : 0 ≤ r2 := by omega
  clear hneg
  have hlen1 := hfw1.1
  clear hfw1
  have hlen2 : x2.length ≤ 1048576 := by omega
  go_wp2_with fail
  refine (toHas_any A0 c0 s0 w2 B (by omega) ((HX0.out).below' HB_2.out hB) hlen0).mono ?_
  rintro e w3 ⟨va0, ta0, rfl, sm, hh, hb⟩
  have z3 := hb.size
  have HB_3 := Lib.hid (bl_step HB_2.out hb); clear hb HB_2
  have Ha0_3 := Lib.hid hh; clear hh
  have Sa0 := Lib.hid sm; clear sm
  go_wp2_with fail
  refine (toHasStr_any A1 c1 m1 w3 B (by omega) ((HX1.out).below' HB_3.out hB) hlen1).mono ?_
  rintro e w4 ⟨va1, rfl, hh, hb⟩
  have z4 := hb.size
  have Ha0_4 := Lib.hid (Ha0_3.out.below hb); clear Ha0_3
  have HB_4 := Lib.hid (bl_step HB_3.out hb); clear hb HB_3
  have Ha1_4 := Lib.hid hh; clear hh
  go_wp2_with fail
  refine (toHasF_any A2 c2 x2 w4 B (by omega) ((HX2.out).below' HB_4.out hB) hlen2).mono ?_
  rintro e w5 ⟨va2, rfl, hh, hb⟩
  have z5 := hb.size
  have Ha0_5 := Lib.hid (Ha0_4.out.below hb); clear Ha0_4
  have Ha1_5 := Lib.hid (Ha1_4.out.below hb); clear Ha1_4
  have HB_5 := Lib.hid (bl_step HB_4.out hb); clear hb HB_4
  have Ha2_5 := Lib.hid hh; clear hh
  go_wp2_with fail
  refine (specFrmHas_any b3 Ha0_5.out Ha1_5.out Ha2_5.out).mono ?_
  rintro e w6 ⟨fA0, fc0, rfl, hh, hb⟩
  have z6 := hb.size
  have Ha0_6 := Lib.hid (Ha0_5.out.below hb); clear Ha0_5
  have Ha1_6 := Lib.hid (Ha1_5.out.below hb); clear Ha1_5
  have Ha2_6 := Lib.hid (Ha2_5.out.below hb); clear Ha2_5
  have HB_6 := Lib.hid (bl_step HB_5.out hb); clear hb HB_5
  have R0_6 := Lib.hid hh; clear hh
  rw [← frmAtOk_bare Sa0.out m1 x2 b3, ← frmAtRes_bare Sa0.out m1 x2 b3]
  have hrr := R0_6.out; rw [← frmAtRes_bare Sa0.out m1 x2 b3] at hrr; clear R0_6
  have HrR := Lib.hid hrr; clear hrr
  generalize hok : frmAtOk s0 m1 x2 b3 = ok at *
  have HOk := Lib.hid hok; clear hok
  have nok : (ok != ok) = false := by simp
  generalize hF : frmAtRes s0 m1 x2 b3 = F at *
  have HF := Lib.hid hF; clear hF
  have R0_6 := Lib.hid HrR.out; clear HrR
  unfold Frd.val
  clear Ha0_6
  clear Ha1_6
  clear Ha2_6
  go_wp2_with fail
  generalize hbx : World.alloc w6 _ = w7
  have z7 : w7.heap.size = w6.heap.size + 1 := by rw [← hbx]; simp
  have hb : Below w6.heap.size w6 w7 := by rw [← hbx]; exact bl_a _ _
  have hbl : BoxM w7 w6.heap.size w7.heap.size w6.heap.size fA0 fc0 F := by rw [← hbx]; exact BoxM.new _ _ _ _
  clear hbx
  have R0_7 := Lib.hid (R0_6.out.below hb); clear R0_6
  have HB_7 := Lib.hid (bl_step HB_6.out hb); clear hb HB_6
  have B0_7 := Lib.hid hbl; clear hbl
  refine (toHas_any A0 c0 s0 w7 B (by omega) ((HX0.out).below' HB_7.out hB) hlen0).mono ?_
  rintro e w8 ⟨vx0, tx0, rfl, sm, hh, hb⟩
  have z8 := hb.size
  have R0_8 := Lib.hid (R0_7.out.below hb); clear R0_7
  have B0_8 := Lib.hid (B0_7.out.below hb); clear B0_7
  have HB_8 := Lib.hid (bl_step HB_7.out hb); clear hb HB_7
  have Hx0_8 := Lib.hid hh; clear hh
  have Sx0 := Lib.hid sm; clear sm
  go_wp2_with fail
  refine (toHasStr_any A1 c1 m1 w8 B (by omega) ((HX1.out).below' HB_8.out hB) hlen1).mono ?_
  rintro e w9 ⟨vx1, rfl, hh, hb⟩
  have z9 := hb.size
  have R0_9 := Lib.hid (R0_8.out.below hb); clear R0_8
  have B0_9 := Lib.hid (B0_8.out.below hb); clear B0_8
  have Hx0_9 := Lib.hid (Hx0_8.out.below hb); clear Hx0_8
  have HB_9 := Lib.hid (bl_step HB_8.out hb); clear hb HB_8
  have Hx1_9 := Lib.hid hh; clear hh
  go_wp2_with fail
  refine (toHasF_any A2 c2 x2 w9 B (by omega) ((HX2.out).below' HB_9.out hB) hlen2).mono ?_
  rintro e w10 ⟨vx2, rfl, hh, hb⟩
  have z10 := hb.size
  have R0_10 := Lib.hid (R0_9.out.below hb); clear R0_9
  have B0_10 := Lib.hid (B0_9.out.below hb); clear B0_9
  have Hx0_10 := Lib.hid (Hx0_9.out.below hb); clear Hx0_9
  have Hx1_10 := Lib.hid (Hx1_9.out.below hb); clear Hx1_9
  have HB_10 := Lib.hid (bl_step HB_9.out hb); clear hb HB_9
  have Hx2_10 := Lib.hid hh; clear hh
  go_wp2_with fail
  refine (implFrmHas_any b3 Hx0_10.out Hx1_10.out Hx2_10.out).mono ?_
  rintro e w11 ⟨fAg, fcg, rfl, hh, hb⟩
  have z11 := hb.size
  have R0_11 := Lib.hid (R0_10.out.below hb); clear R0_10
  have B0_11 := Lib.hid (B0_10.out.below hb); clear B0_10
  have Hx0_11 := Lib.hid (Hx0_10.out.below hb); clear Hx0_10
  have Hx1_11 := Lib.hid (Hx1_10.out.below hb); clear Hx1_10
  have Hx2_11 := Lib.hid (Hx2_10.out.below hb); clear Hx2_10
  have HB_11 := Lib.hid (bl_step HB_10.out hb); clear hb HB_10
  have Rg_11 := Lib.hid hh; clear hh
  rw [← frmAtOk_bare Sx0.out m1 x2 b3, ← frmAtRes_bare Sx0.out m1 x2 b3]
  have hrr := Rg_11.out; rw [← frmAtRes_bare Sx0.out m1 x2 b3] at hrr; clear Rg_11
  rw [HOk.out, HF.out]
  rw [HF.out] at hrr
  have Rg_11 := Lib.hid hrr; clear hrr
  unfold Frd.val
  have yB00 := B0_11.out.c0; have yB01 := B0_11.out.c1; have yB02 := B0_11.out.c2; have yB03 := B0_11.out.c3
  go_wp2_with fail
  clear yB00 yB01 yB02 yB03
  generalize hbx : World.alloc w11 _ = w12
  have z12 : w12.heap.size = w11.heap.size + 1 := by rw [← hbx]; simp
  have hb : Below w11.heap.size w11 w12 := by rw [← hbx]; exact bl_a _ _
  have hbl : BoxM w12 w11.heap.size w12.heap.size w11.heap.size fAg fcg F := by rw [← hbx]; exact BoxM.new _ _ _ _
  clear hbx
  have R0_12 := Lib.hid (R0_11.out.below hb); clear R0_11
  have B0_12 := Lib.hid (B0_11.out.below hb); clear B0_11
  have Hx0_12 := Lib.hid (Hx0_11.out.below hb); clear Hx0_11
  have Hx1_12 := Lib.hid (Hx1_11.out.below hb); clear Hx1_11
  have Hx2_12 := Lib.hid (Hx2_11.out.below hb); clear Hx2_11
  have Rg_12 := Lib.hid (Rg_11.out.below hb); clear Rg_11
  have HB_12 := Lib.hid (bl_step HB_11.out hb); clear hb HB_11
  have Bg_12 := Lib.hid hbl; clear hbl
  refine (eqFrm_any F Rg_12.out R0_12.out).mono ?_
  rintro e w13 ⟨rfl, hb⟩
  have z13 := hb.size
  have R0_13 := Lib.hid (R0_12.out.below hb); clear R0_12
  have B0_13 := Lib.hid (B0_12.out.below hb); clear B0_12
  have Hx0_13 := Lib.hid (Hx0_12.out.below hb); clear Hx0_12
  have Hx1_13 := Lib.hid (Hx1_12.out.below hb); clear Hx1_12
  have Hx2_13 := Lib.hid (Hx2_12.out.below hb); clear Hx2_12
  have Rg_13 := Lib.hid (Rg_12.out.below hb); clear Rg_12
  have Bg_13 := Lib.hid (Bg_12.out.below hb); clear Bg_12
  have HB_13 := Lib.hid (bl_step HB_12.out hb); clear hb HB_12
  go_wp2_with fail
  refine (toHas_any A0 c0 s0 w13 B (by omega) ((HX0.out).below' HB_13.out hB) hlen0).mono ?_
  rintro e w14 ⟨vy0, ty0, rfl, sm, hh, hb⟩
  have z14 := hb.size
  have R0_14 := Lib.hid (R0_13.out.below hb); clear R0_13
  have B0_14 := Lib.hid (B0_13.out.below hb); clear B0_13
  have Hx0_14 := Lib.hid (Hx0_13.out.below hb); clear Hx0_13
  have Hx1_14 := Lib.hid (Hx1_13.out.below hb); clear Hx1_13
  have Hx2_14 := Lib.hid (Hx2_13.out.below hb); clear Hx2_13
  have Rg_14 := Lib.hid (Rg_13.out.below hb); clear Rg_13
  have Bg_14 := Lib.hid (Bg_13.out.below hb); clear Bg_13
  have HB_14 := Lib.hid (bl_step HB_13.out hb); clear hb HB_13
  have Hy0_14 := Lib.hid hh; clear hh
  have Sy0 := Lib.hid sm; clear sm
  go_wp2_with fail
  refine (eqHas_any Hx0_14.out Hy0_14.out (sames_likes (sames_trans (sames_symm Sx0.out) Sy0.out))).mono ?_
  rintro e w15 ⟨rfl, hb⟩
  have z15 := hb.size
  have R0_15 := Lib.hid (R0_14.out.below hb); clear R0_14
  have B0_15 := Lib.hid (B0_14.out.below hb); clear B0_14
  have Hx0_15 := Lib.hid (Hx0_14.out.below hb); clear Hx0_14
  have Hx1_15 := Lib.hid (Hx1_14.out.below hb); clear Hx1_14
  have Hx2_15 := Lib.hid (Hx2_14.out.below hb); clear Hx2_14
  have Rg_15 := Lib.hid (Rg_14.out.below hb); clear Rg_14
  have Bg_15 := Lib.hid (Bg_14.out.below hb); clear Bg_14
  have Hy0_15 := Lib.hid (Hy0_14.out.below hb); clear Hy0_14
  have HB_15 := Lib.hid (bl_step HB_14.out hb); clear hb HB_14
  clear Hy0_15
  go_wp2_with fail
  refine (toHasStr_any A1 c1 m1 w15 B (by omega) ((HX1.out).below' HB_15.out hB) hlen1).mono ?_
  rintro e w16 ⟨vy1, rfl, hh, hb⟩
  have z16 := hb.size
  have R0_16 := Lib.hid (R0_15.out.below hb); clear R0_15
  have B0_16 := Lib.hid (B0_15.out.below hb); clear B0_15
  have Hx0_16 := Lib.hid (Hx0_15.out.below hb); clear Hx0_15
  have Hx1_16 := Lib.hid (Hx1_15.out.below hb); clear Hx1_15
  have Hx2_16 := Lib.hid (Hx2_15.out.below hb); clear Hx2_15
  have Rg_16 := Lib.hid (Rg_15.out.below hb); clear Rg_15
  have Bg_16 := Lib.hid (Bg_15.out.below hb); clear Bg_15
  have HB_16 := Lib.hid (bl_step HB_15.out hb); clear hb HB_15
  have Hy1_16 := Lib.hid hh; clear hh
  go_wp2_with fail
  refine (eqHasStr_any Hx1_16.out Hy1_16.out).mono ?_
  rintro e w17 ⟨rfl, hb⟩
  have z17 := hb.size
  have R0_17 := Lib.hid (R0_16.out.below hb); clear R0_16
  have B0_17 := Lib.hid (B0_16.out.below hb); clear B0_16
  have Hx0_17 := Lib.hid (Hx0_16.out.below hb); clear Hx0_16
  have Hx1_17 := Lib.hid (Hx1_16.out.below hb); clear Hx1_16
  have Hx2_17 := Lib.hid (Hx2_16.out.below hb); clear Hx2_16
  have Rg_17 := Lib.hid (Rg_16.out.below hb); clear Rg_16
  have Bg_17 := Lib.hid (Bg_16.out.below hb); clear Bg_16
  have Hy1_17 := Lib.hid (Hy1_16.out.below hb); clear Hy1_16
  have HB_17 := Lib.hid (bl_step HB_16.out hb); clear hb HB_16
  clear Hy1_17
  go_wp2_with fail
  refine (toHasF_any A2 c2 x2 w17 B (by omega) ((HX2.out).below' HB_17.out hB) hlen2).mono ?_
  rintro e w18 ⟨vy2, rfl, hh, hb⟩
  have z18 := hb.size
  have R0_18 := Lib.hid (R0_17.out.below hb); clear R0_17
  have B0_18 := Lib.hid (B0_17.out.below hb); clear B0_17
  have Hx0_18 := Lib.hid (Hx0_17.out.below hb); clear Hx0_17
  have Hx1_18 := Lib.hid (Hx1_17.out.below hb); clear Hx1_17
  have Hx2_18 := Lib.hid (Hx2_17.out.below hb); clear Hx2_17
  have Rg_18 := Lib.hid (Rg_17.out.below hb); clear Rg_17
  have Bg_18 := Lib.hid (Bg_17.out.below hb); clear Bg_17
  have HB_18 := Lib.hid (bl_step HB_17.out hb); clear hb HB_17
  have Hy2_18 := Lib.hid hh; clear hh
  go_wp2_with fail
  refine (eqHasF_any Hx2_18.out Hy2_18.out rfl).mono ?_
  rintro e w19 ⟨rfl, hb⟩
  have z19 := hb.size
  have R0_19 := Lib.hid (R0_18.out.below hb); clear R0_18
  have B0_19 := Lib.hid (B0_18.out.below hb); clear B0_18
  have Hx0_19 := Lib.hid (Hx0_18.out.below hb); clear Hx0_18
  have Hx1_19 := Lib.hid (Hx1_18.out.below hb); clear Hx1_18
  have Hx2_19 := Lib.hid (Hx2_18.out.below hb); clear Hx2_18
  have Rg_19 := Lib.hid (Rg_18.out.below hb); clear Rg_18
  have Bg_19 := Lib.hid (Bg_18.out.below hb); clear Bg_18
  have Hy2_19 := Lib.hid (Hy2_18.out.below hb); clear Hy2_18
  have HB_19 := Lib.hid (bl_step HB_18.out hb); clear hb HB_18
  clear Hy2_19
  have hbd := nextS_few2 (Hx0_19.out.own.few)
  go_wp2_with fail
  refine (markHas_any Hx0_19.out).mono ?_
  rintro e w20 ⟨rfl, _, ho⟩
  have z20 := ho.size
  have R0_20 := Lib.hid (R0_19.out.only ho (by omega)); clear R0_19
  have B0_20 := Lib.hid (B0_19.out.only ho (by omega)); clear B0_19
  have Hx1_20 := Lib.hid (Hx1_19.out.only ho (by omega)); clear Hx1_19
  have Hx2_20 := Lib.hid (Hx2_19.out.only ho (by omega)); clear Hx2_19
  have Rg_20 := Lib.hid (Rg_19.out.only ho (by omega)); clear Rg_19
  have Bg_20 := Lib.hid (Bg_19.out.only ho (by omega)); clear Bg_19
  have HB_20 := Lib.hid (HB_19.out.trans ((ho.below (by omega)).mono (by omega))); clear HB_19
  have hge0 := nextS_ge tx0 1
  generalize hkk : nextS tx0 1 = k0 at *
  clear hkk
  clear ho
  clear Hx0_19
  go_wp2_with fail
  refine (markHasStr_any k0 (by omega) (by omega) Hx1_20.out).mono ?_
  rintro e w21 ⟨rfl, ho⟩
  have z21 := ho.size
  have R0_21 := Lib.hid (R0_20.out.only ho (by omega)); clear R0_20
  have B0_21 := Lib.hid (B0_20.out.only ho (by omega)); clear B0_20
  have Hx2_21 := Lib.hid (Hx2_20.out.only ho (by omega)); clear Hx2_20
  have Rg_21 := Lib.hid (Rg_20.out.only ho (by omega)); clear Rg_20
  have Bg_21 := Lib.hid (Bg_20.out.only ho (by omega)); clear Bg_20
  have HB_21 := Lib.hid (HB_20.out.trans ((ho.below (by omega)).mono (by omega))); clear HB_20
  generalize hkk : k0 + m1.length = k1 at *
  have hkb1 : 0 < k1 ∧ k1 ≤ 1200002000000 := by omega
  obtain ⟨_, _⟩ := hkb1
  clear hkk ho
  clear Hx1_20
  go_wp2_with fail
  refine (markHasF_any k1 (by omega) Hx2_21.out).mono ?_
  rintro e w22 ⟨rfl, _, ho⟩
  have z22 := ho.size
  have R0_22 := Lib.hid (R0_21.out.only ho (by omega)); clear R0_21
  have B0_22 := Lib.hid (B0_21.out.only ho (by omega)); clear B0_21
  have Rg_22 := Lib.hid (Rg_21.out.only ho (by omega)); clear Rg_21
  have Bg_22 := Lib.hid (Bg_21.out.only ho (by omega)); clear Bg_21
  have HB_22 := Lib.hid (HB_21.out.trans ((ho.below (by omega)).mono (by omega))); clear HB_21
  generalize hkk : k1 + x2.length = k2 at *
  have hkb2 : 0 < k2 ∧ k2 ≤ 1200004000000 := by omega
  obtain ⟨_, _⟩ := hkb2
  clear hkk ho
  clear Hx2_21
  obtain ⟨yg0, yg1, yg2, yg3⟩ := Bg_22.out.cells
  obtain ⟨y00, y01, y02, y03⟩ := B0_22.out.cells
  go_wp2_with fail
  clear yg0 yg1 yg2 yg3
  clear y00 y01 y02 y03
  refine (eqFrm_any F Rg_22.out R0_22.out).mono ?_
  rintro e w23 ⟨rfl, hb⟩
  have z23 := hb.size
  have R0_23 := Lib.hid (R0_22.out.below hb); clear R0_22
  have B0_23 := Lib.hid (B0_22.out.below hb); clear B0_22
  have Rg_23 := Lib.hid (Rg_22.out.below hb); clear Rg_22
  have Bg_23 := Lib.hid (Bg_22.out.below hb); clear Bg_22
  have HB_23 := Lib.hid (bl_step HB_22.out hb); clear hb HB_22
  obtain ⟨yg0, yg1, yg2, yg3⟩ := Bg_23.out.cells
  go_wp2_with fail
  clear yg0 yg1 yg2 yg3
  refine (markFrm_any F 1 (by omega) Rg_23.out).mono ?_
  rintro e w24 ⟨rfl, hmk, ho⟩
  have z24 := ho.size
  have R0_24 := Lib.hid (R0_23.out.only ho (by omega)); clear R0_23
  have B0_24 := Lib.hid (B0_23.out.only ho (by omega)); clear B0_23
  have Bg_24 := Lib.hid (Bg_23.out.only ho (by omega)); clear Bg_23
  have HB_24 := Lib.hid (HB_23.out.trans ((ho.below (by omega)).mono (by omega))); clear HB_23
  clear Rg_23; have Rg_24 := Lib.hid hmk; clear hmk ho
  generalize hnx : 1 + F.xs.length = nx at *
  have HNx := Lib.hid hnx; clear hnx
  obtain ⟨yg0, yg1, yg2, yg3⟩ := Bg_24.out.cells
  go_wp2_with fail
  clear yg0 yg1 yg2 yg3
  refine (heldFrm_any F 1 (by omega) Rg_24.out).mono ?_
  rintro e w25 ⟨rfl, hb⟩
  have z25 := hb.size
  have R0_25 := Lib.hid (R0_24.out.below hb); clear R0_24
  have B0_25 := Lib.hid (B0_24.out.below hb); clear B0_24
  have Rg_25 := Lib.hid (Rg_24.out.below hb); clear Rg_24
  have Bg_25 := Lib.hid (Bg_24.out.below hb); clear Bg_24
  have HB_25 := Lib.hid (bl_step HB_24.out hb); clear hb HB_24
  rw [HNx.out]
  go_wp2_with fail
  refine (toHas_any A0 c0 s0 w25 B (by omega) ((HX0.out).below' HB_25.out hB) hlen0).mono ?_
  rintro e w26 ⟨vz0, tz0, rfl, sm, hh, hb⟩
  have z26 := hb.size
  have R0_26 := Lib.hid (R0_25.out.below hb); clear R0_25
  have B0_26 := Lib.hid (B0_25.out.below hb); clear B0_25
  have Rg_26 := Lib.hid (Rg_25.out.below hb); clear Rg_25
  have Bg_26 := Lib.hid (Bg_25.out.below hb); clear Bg_25
  have HB_26 := Lib.hid (bl_step HB_25.out hb); clear hb HB_25
  have Hz0_26 := Lib.hid hh; clear hh
  have Sz0 := Lib.hid sm; clear sm
  go_wp2_with fail
  refine (toHasStr_any A1 c1 m1 w26 B (by omega) ((HX1.out).below' HB_26.out hB) hlen1).mono ?_
  rintro e w27 ⟨vz1, rfl, hh, hb⟩
  have z27 := hb.size
  have R0_27 := Lib.hid (R0_26.out.below hb); clear R0_26
  have B0_27 := Lib.hid (B0_26.out.below hb); clear B0_26
  have Rg_27 := Lib.hid (Rg_26.out.below hb); clear Rg_26
  have Bg_27 := Lib.hid (Bg_26.out.below hb); clear Bg_26
  have Hz0_27 := Lib.hid (Hz0_26.out.below hb); clear Hz0_26
  have HB_27 := Lib.hid (bl_step HB_26.out hb); clear hb HB_26
  have Hz1_27 := Lib.hid hh; clear hh
  go_wp2_with fail
  refine (toHasF_any A2 c2 x2 w27 B (by omega) ((HX2.out).below' HB_27.out hB) hlen2).mono ?_
  rintro e w28 ⟨vz2, rfl, hh, hb⟩
  have z28 := hb.size
  have R0_28 := Lib.hid (R0_27.out.below hb); clear R0_27
  have B0_28 := Lib.hid (B0_27.out.below hb); clear B0_27
  have Rg_28 := Lib.hid (Rg_27.out.below hb); clear Rg_27
  have Bg_28 := Lib.hid (Bg_27.out.below hb); clear Bg_27
  have Hz0_28 := Lib.hid (Hz0_27.out.below hb); clear Hz0_27
  have Hz1_28 := Lib.hid (Hz1_27.out.below hb); clear Hz1_27
  have HB_28 := Lib.hid (bl_step HB_27.out hb); clear hb HB_27
  have Hz2_28 := Lib.hid hh; clear hh
  go_wp2_with fail
  refine (implFrmHas_any b3 Hz0_28.out Hz1_28.out Hz2_28.out).mono ?_
  rintro e w29 ⟨fAh, fch, rfl, hh, hb⟩
  have z29 := hb.size
  have R0_29 := Lib.hid (R0_28.out.below hb); clear R0_28
  have B0_29 := Lib.hid (B0_28.out.below hb); clear B0_28
  have Rg_29 := Lib.hid (Rg_28.out.below hb); clear Rg_28
  have Bg_29 := Lib.hid (Bg_28.out.below hb); clear Bg_28
  have Hz0_29 := Lib.hid (Hz0_28.out.below hb); clear Hz0_28
  have Hz1_29 := Lib.hid (Hz1_28.out.below hb); clear Hz1_28
  have Hz2_29 := Lib.hid (Hz2_28.out.below hb); clear Hz2_28
  have HB_29 := Lib.hid (bl_step HB_28.out hb); clear hb HB_28
  have Rh_29 := Lib.hid hh; clear hh
  rw [← frmAtOk_bare Sz0.out m1 x2 b3, ← frmAtRes_bare Sz0.out m1 x2 b3]
  have hrr := Rh_29.out; rw [← frmAtRes_bare Sz0.out m1 x2 b3] at hrr; clear Rh_29
  rw [HOk.out, HF.out]
  rw [HF.out] at hrr
  have Rh_29 := Lib.hid hrr; clear hrr
  unfold Frd.val
  clear Hz0_29
  clear Hz1_29
  clear Hz2_29
  have yB00 := B0_29.out.c0; have yB01 := B0_29.out.c1; have yB02 := B0_29.out.c2; have yB03 := B0_29.out.c3
  have yBg0 := Bg_29.out.c0; have yBg1 := Bg_29.out.c1; have yBg2 := Bg_29.out.c2; have yBg3 := Bg_29.out.c3
  go_wp2_with fail
  clear yB00 yB01 yB02 yB03
  clear yBg0 yBg1 yBg2 yBg3
  generalize hbx : World.alloc w29 _ = w30
  have z30 : w30.heap.size = w29.heap.size + 1 := by rw [← hbx]; simp
  have hb : Below w29.heap.size w29 w30 := by rw [← hbx]; exact bl_a _ _
  have hbl : BoxM w30 w29.heap.size w30.heap.size w29.heap.size fAh fch F := by rw [← hbx]; exact BoxM.new _ _ _ _
  clear hbx
  have R0_30 := Lib.hid (R0_29.out.below hb); clear R0_29
  have B0_30 := Lib.hid (B0_29.out.below hb); clear B0_29
  have Rg_30 := Lib.hid (Rg_29.out.below hb); clear Rg_29
  have Bg_30 := Lib.hid (Bg_29.out.below hb); clear Bg_29
  have Rh_30 := Lib.hid (Rh_29.out.below hb); clear Rh_29
  have HB_30 := Lib.hid (bl_step HB_29.out hb); clear hb HB_29
  have Bh_30 := Lib.hid hbl; clear hbl
  refine (eqFrm_any F Rh_30.out R0_30.out).mono ?_
  rintro e w31 ⟨rfl, hb⟩
  have z31 := hb.size
  have R0_31 := Lib.hid (R0_30.out.below hb); clear R0_30
  have B0_31 := Lib.hid (B0_30.out.below hb); clear B0_30
  have Rg_31 := Lib.hid (Rg_30.out.below hb); clear Rg_30
  have Bg_31 := Lib.hid (Bg_30.out.below hb); clear Bg_30
  have Rh_31 := Lib.hid (Rh_30.out.below hb); clear Rh_30
  have Bh_31 := Lib.hid (Bh_30.out.below hb); clear Bh_30
  have HB_31 := Lib.hid (bl_step HB_30.out hb); clear hb HB_30
  obtain ⟨yg0, yg1, yg2, yg3⟩ := Bg_31.out.cells
  go_wp2_with fail
  clear yg0 yg1 yg2 yg3
  refine (heldFrm_any F 1 (by omega) Rg_31.out).mono ?_
  rintro e w32 ⟨rfl, hb⟩
  have z32 := hb.size
  have R0_32 := Lib.hid (R0_31.out.below hb); clear R0_31
  have B0_32 := Lib.hid (B0_31.out.below hb); clear B0_31
  have Rg_32 := Lib.hid (Rg_31.out.below hb); clear Rg_31
  have Bg_32 := Lib.hid (Bg_31.out.below hb); clear Bg_31
  have Rh_32 := Lib.hid (Rh_31.out.below hb); clear Rh_31
  have Bh_32 := Lib.hid (Bh_31.out.below hb); clear Bh_31
  have HB_32 := Lib.hid (bl_step HB_31.out hb); clear hb HB_31
  rw [HNx.out]
  go_wp2_with fail
  go_ret
  exact ⟨rfl, HB_32.out⟩
end Go.Proofs.Ythmkbgiandncnaa

