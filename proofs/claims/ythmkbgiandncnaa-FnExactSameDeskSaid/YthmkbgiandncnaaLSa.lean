/- The walk of the law of SameDesk. -/
import Derived.Test.YthmkbgiandncnaaSam6
import Derived.Deep.CutRange
namespace Go.Proofs.Ythmkbgiandncnaa
open Go.RowKit

theorem sm_same {x y x' y' : Nat} (h : x = x') (h' : y = y') : sm x y = sm x' y' := by rw [h, h']
theorem sndSm_bare {s t s' t' : Snd} (h : s.bare = s'.bare) (h' : t.bare = t'.bare) : sndSm s t = sndSm s' t' := by
  have e : ∀ s t : Snd, sndSm s t = sndSm s.bare t.bare := fun _ _ => rfl
  rw [e s t, e s' t', h, h']
theorem sndsSm_bare {ss ts ss' ts' : List Snd} (h : sames ss ss') (h' : sames ts ts') : sndsSm ss ts = sndsSm ss' ts' := by
  have e : ∀ ss ts : List Snd, sndsSm ss ts = sndsSm (ss.map Snd.bare) (ts.map Snd.bare) := by
    intro ss ts
    unfold sndsSm
    rw [List.length_map, List.length_map]
    congr 2
    funext k
    unfold sndAtB
    simp only [List.getElem?_map]
    cases ss[k]? <;> cases ts[k]? <;> rfl
  rw [e ss ts, e ss' ts', show ss.map Snd.bare = _ from h, show ts.map Snd.bare = _ from h']
theorem dskSm_bare {d f d' f' : Dsk} (h : d.bare = d'.bare) (h' : f.bare = f'.bare) : dskSm d f = dskSm d' f' := by
  obtain ⟨a1, a2, a3, a4, a5, a6, a7, a8, a9, a10, a11, a12⟩ := bare_ok h
  obtain ⟨b1, b2, b3, b4, b5, b6, b7, b8, b9, b10, b11, b12⟩ := bare_ok h'
  unfold dskSm
  rw [a1, a2, a3, a4, a5, a6, a7, a8, a9, a10, a11, b1, b2, b3, b4, b5, b6, b7, b8, b9, b10, b11, sndsSm_bare a12 b12]
theorem Snd.fit_bare {s t : Snd} (h : s.bare = t.bare) (hf : s.fit) : t.fit := by
  have e : ∀ s : Snd, s.fit ↔ s.bare.fit := fun _ => Iff.rfl
  rw [e] at hf ⊢
  rwa [← h]
theorem Dsk.fit_bare {d d' : Dsk} (h : d.bare = d'.bare) (hf : d.fit) : d'.fit := by
  obtain ⟨a1, a2, a3, a4, a5, a6, a7, a8, a9, a10, a11, a12⟩ := bare_ok h
  obtain ⟨f1, f2, f3, f4, f5, f6, f7, f8, f9, f10, f11, f12⟩ := hf
  refine ⟨a1 ▸ f1, a2 ▸ f2, a3 ▸ f3, a4 ▸ f4, a5 ▸ f5, a6 ▸ f6, a7 ▸ f7, a8 ▸ f8, a9 ▸ f9, a10 ▸ f10, a11 ▸ f11, fun s hs => ?_⟩
  have : s.bare ∈ d.ss.map Snd.bare := by
    rw [show d.ss.map Snd.bare = _ from a12]
    exact List.mem_map.2 ⟨s, hs, rfl⟩
  obtain ⟨t, ht, e⟩ := List.mem_map.1 this
  exact Snd.fit_bare e (f12 t ht)

set_option maxHeartbeats 4000000 in
theorem FnExactSameDesk_any (d f : Dsk) (w : World) (B : Nat) (hB : B ≤ w.heap.size) (hd : DskIn0 w B d) (hf : DskIn0 w B f) (kd : d.fit) (kf : f.fit) :
    Calls Try.prog 7 #[.agg d.cells.toArray, .agg f.cells.toArray] w fun e w' => e = .returned (.bool true) ∧ Below w.heap.size w w' := by
  have HD0 := Lib.hid hd; have HF0 := Lib.hid hf; clear hd hf
  have KD := Lib.hid kd; have KF := Lib.hid kf; clear kd kf
  have HTW := Lib.hid (D12.two (w := w) (d := d) (d' := f) (t := 57) (t' := 57))
  unfold Dsk.cells
  go_enter Try.func7, Try.ntmps7
  go_wp2_with fail
  generalize hwz : World.alloc (World.alloc _ _) _ = wz
  replace hwz := hwz.symm
  have zz : wz.heap.size = w.heap.size + 2 := by rw [hwz]; simp
  have hz : Below w.heap.size w wz := by rw [hwz]; exact bl_step (bl_a _ _) (bl_a _ _)
  have HX := Lib.hid (show D12 wz w.heap.size d by rw [hwz]; exact HTW.out.1)
  have HY := Lib.hid (show D12 wz (w.heap.size + 1) f by rw [hwz]; exact HTW.out.2)
  clear hwz HTW
  have HD := Lib.hid (HD0.out.below' hz hB); have HF := Lib.hid (HF0.out.below' hz hB); have HZ := Lib.hid hz; clear hz
  refine (szDesk_any d _ _ B (by omega) HD.out (by omega) (by omega)).mono ?_
  rintro e w1 ⟨r, rfl, hr, hr2, hb1⟩
  have z1 := hb1.size
  have HB := Lib.hid (show Below (w.heap.size + 2) wz w1 by rw [← zz]; exact hb1); clear hb1
  have H2 := Lib.hid hr2; clear hr2
  by_cases hneg : r < 0
  · go_wp2_with fail
    go_ret
    exact ⟨rfl, HZ.out.trans (HB.out.mono (by omega))⟩
  have hfew := (H2.out (by omega)).2
  have hr3 := (H2.out (by omega)).1
  have HI := Lib.hid (HD.out.few hfew)
  clear hfew
  obtain ⟨h0, h1, h2, h3, h4, h5, h6, h7, h8, h9, h10, h11⟩ := show D12 w1 (w.heap.size + 1) f from HY.out.below HB.out (by omega)
  go_wp2_with fail
  refine (szDesk_any f _ _ B (by omega) (HF.out.below' HB.out (by omega)) (by omega) (by omega)).mono ?_
  clear h0 h1 h2 h3 h4 h5 h6 h7 h8 h9 h10 h11
  rintro e w2 ⟨r', rfl, hr', hr2', hb2⟩
  have z2 := hb2.size
  have HB2 := Lib.hid (HB.out.trans (hb2.mono (by omega))); clear hb2 HB
  have HB := HB2; clear HB2
  have H3 := Lib.hid hr2'; clear hr2'
  by_cases hneg' : r' < 0
  · go_wp2_with fail
    go_ret
    exact ⟨rfl, HZ.out.trans (HB.out.mono (by omega))⟩
  have hfew := (H3.out (by omega)).2
  have HJ := Lib.hid (HF.out.few hfew)
  clear hfew
  obtain ⟨g0, g1, g2, g3, g4, g5, g6, g7, g8, g9, g10, g11⟩ := show D12 w2 w.heap.size d from HX.out.below HB.out (by omega)
  obtain ⟨h0, h1, h2, h3, h4, h5, h6, h7, h8, h9, h10, h11⟩ := show D12 w2 (w.heap.size + 1) f from HY.out.below HB.out (by omega)
  have HDd := Lib.hid ((HI.out.below' HB.out (by omega)).drew)
  have hs2 : B ≤ w2.drew.heap.size := by show B ≤ w2.heap.size; omega
  go_upto_region 8 with fail
  go_cut [6] from 20 to 24 (fun s6 wx => s6 = .bool (dskSm d f) ∧ Below (w.heap.size + 2) wz wx)
  case first =>
    go_region_with (first
      | (go_at_call_of 32 (Value.slice d.tA d.txs.length d.tc); refine (toDesk_any d w2.drew B hs2 HDd.out).mono ?_; rintro e w3 ⟨d1, rfl, hd1, ho1, hb3⟩
         have z3 : w2.heap.size ≤ w3.heap.size := hb3.size
         have HO1 := Lib.hid ho1.reads; have E1 := Lib.hid hd1; clear ho1 hd1
         have HB3 := Lib.hid (HB.out.trans ((below_drewN _ w2 1).trans (hb3.mono (by show w.heap.size + 2 ≤ w2.heap.size; omega)))); clear hb3
         have HFd := Lib.hid (HJ.out.below' HB3.out (by omega))
         have HYd := Lib.hid (show D12 w3 (w.heap.size + 1) f from HY.out.below HB3.out (by omega))
         obtain ⟨k0, k1, k2, k3, k4, k5, k6, k7, k8, k9, k10, k11⟩ := HYd.out
         unfold Dsk.cells)
      | (go_at_call_of 32 (Value.slice f.tA f.txs.length f.tc); refine (toDesk_any f w3 B (by omega) HFd.out).mono ?_; rintro e w4 ⟨f1, rfl, hf1, ho2, hb4⟩
         have z4 : w3.heap.size ≤ w4.heap.size := hb4.size
         have HO2 := Lib.hid ho2.reads; have E2 := Lib.hid hf1; clear ho2 hf1
         have HO1b := Lib.hid (HO1.out.below hb4)
         have HB4 := Lib.hid (HB3.out.trans (hb4.mono (by omega))); clear hb4
         unfold Dsk.cells)
      | (go_at_call 31; refine (specSameDesk_any d1 f1 w4 w3.heap.size w4.heap.size (by omega) (Nat.le_refl _) HO1b.out HO2.out (Dsk.fit_bare E1.out.symm KD.out) (Dsk.fit_bare E2.out.symm KF.out)).mono ?_; rintro e w5 ⟨he, hb5⟩
         rw [dskSm_bare E1.out E2.out] at he
         subst he
         have HB5 := Lib.hid (HB4.out.trans (hb5.mono (by omega))); clear hb5))
    all_goals (go_wp2_with fail; go_meet; exact ⟨rfl, HB5.out⟩)
  case rest =>
    obtain ⟨rfl, hbc⟩ := hcut
    clear g0 g1 g2 g3 g4 g5 g6 g7 g8 g9 g10 g11 h0 h1 h2 h3 h4 h5 h6 h7 h8 h9 h10 h11 HDd hs2 HB
    have zc := hbc.size
    have HB := Lib.hid hbc; clear hbc
    obtain ⟨g0, g1, g2, g3, g4, g5, g6, g7, g8, g9, g10, g11⟩ := show D12 wc w.heap.size d from HX.out.below HB.out (by omega)
    go_wp2_with fail
    refine (toDesk_any d _ B (by omega) (HI.out.below' HB.out (by omega))).mono ?_
    clear g0 g1 g2 g3 g4 g5 g6 g7 g8 g9 g10 g11
    rintro e w6 ⟨d2, rfl, hd2, ho2, hb6⟩
    have z6 := hb6.size
    have HO2 := Lib.hid ho2.reads; have E2 := Lib.hid hd2; clear ho2 hd2
    have HB6 := Lib.hid (HB.out.trans (hb6.mono (by omega))); clear hb6 HB
    unfold Dsk.cells
    have hyy : D12 (w6.alloc (.cells d2.cells.toArray 46)) w6.heap.size d2 := D12.box
    have HYY := Lib.hid hyy; clear hyy
    unfold Dsk.cells at HYY
    obtain ⟨wy, hwy⟩ : ∃ wy, wy = w6.alloc (.cells d2.cells.toArray 46) := ⟨_, rfl⟩
    have zy : wy.heap.size = w6.heap.size + 1 := by rw [hwy]; simp
    have hby : Below w6.heap.size w6 wy := by rw [hwy]; exact bl_a _ _
    have HP := Lib.hid (show D12 wy w6.heap.size d2 by rw [hwy]; exact D12.box)
    have HB7 := Lib.hid (HB6.out.trans (hby.mono (by omega))); clear HB6
    have HI2 := Lib.hid (HO2.out.below hby); clear hby HO2 HYY
    obtain ⟨h0, h1, h2, h3, h4, h5, h6, h7, h8, h9, h10, h11⟩ := show D12 wy (w.heap.size + 1) f from HY.out.below HB7.out (by omega)
    have hwy2 : ∀ K : World → Prop, K wy → K (w6.alloc (.cells d2.cells.toArray 46)) := fun K h => hwy ▸ h
    unfold Dsk.cells at hwy hwy2
    rw [hwy] at h0 h1 h2 h3 h4 h5 h6 h7 h8 h9 h10 h11
    go_wp2_with fail
    rw [← hwy] at *
    refine (toDesk_any f wy B (by omega) (HJ.out.below' HB7.out (by omega))).mono ?_
    clear h0 h1 h2 h3 h4 h5 h6 h7 h8 h9 h10 h11 hwy hwy2
    rintro e w7 ⟨f2, rfl, hf2, ho3, hb8⟩
    have z7 := hb8.size
    have HO3 := Lib.hid ho3.reads; have E3 := Lib.hid hf2; clear ho3 hf2
    have HB8 := Lib.hid (HB7.out.trans (hb8.mono (by omega)))
    have HP7 := Lib.hid (HP.out.below hb8 (by omega)); clear HP
    have HI7 := Lib.hid (HI2.out.below' hb8 (by omega)); clear HI2 hb8 HB7
    unfold Dsk.cells
    obtain ⟨wv, hwv⟩ : ∃ wv, wv = w7.alloc (.cells f2.cells.toArray 46) := ⟨_, rfl⟩
    have zv : wv.heap.size = w7.heap.size + 1 := by rw [hwv]; simp
    have hbv : Below w7.heap.size w7 wv := by rw [hwv]; exact bl_a _ _
    have HQ := Lib.hid (show D12 wv w7.heap.size f2 by rw [hwv]; exact D12.box)
    have HB9 := Lib.hid (HB8.out.trans (hbv.mono (by omega))); clear HB8
    have HI9 := Lib.hid (HI7.out.below' hbv (by omega)); clear HI7
    have HJ9 := Lib.hid (HO3.out.below hbv); clear HO3
    have HP9 := Lib.hid (HP7.out.below hbv (by omega)); clear HP7 hbv
    obtain ⟨p0, p1, p2, p3, p4, p5, p6, p7, p8, p9, p10, p11⟩ := HP9.out
    unfold Dsk.cells at hwv
    rw [hwv] at p0 p1 p2 p3 p4 p5 p6 p7 p8 p9 p10 p11
    go_wp2_with fail
    rw [← hwv] at *
    refine (SameDesk_any d2 f2 wv w6.heap.size w7.heap.size (by omega) (by omega) HI9.out HJ9.out (Dsk.fit_bare E2.out.symm KD.out) (Dsk.fit_bare E3.out.symm KF.out)).mono ?_
    clear p0 p1 p2 p3 p4 p5 p6 p7 p8 p9 p10 p11 hwv
    rintro e w8 ⟨he, hb10⟩
    rw [dskSm_bare E2.out E3.out] at he
    subst he
    have z8 := hb10.size
    have HB10 := Lib.hid (HB9.out.trans (hb10.mono (by omega))); clear HB9
    have HI10 := Lib.hid (HI9.out.below' hb10 (by omega)); clear HI9
    have HJ10 := Lib.hid (HJ9.out.below' hb10 (by omega)); clear HJ9
    have HP10 := Lib.hid (HP9.out.below hb10 (by omega)); clear HP9
    have HQ10 := Lib.hid (HQ.out.below hb10 (by omega)); clear HQ hb10
    have HDd := Lib.hid ((HI.out.below' HB10.out (by omega)).drew)
    have hs8 : B ≤ w8.drew.heap.size := by show B ≤ w8.heap.size; omega
    obtain ⟨g0, g1, g2, g3, g4, g5, g6, g7, g8, g9, g10, g11⟩ := show D12 w8 w.heap.size d from HX.out.below HB10.out (by omega)
    obtain ⟨p0, p1, p2, p3, p4, p5, p6, p7, p8, p9, p10, p11⟩ := HP10.out
    go_upto_region 14 with fail
    go_cut [39] from 35 to 38 (fun s39 wx => s39 = .bool false ∧ Below w8.heap.size w8 wx)
    case first =>
      go_region_with (first
        | (go_at_call 32; refine (toDesk_any d w8.drew B hs8 HDd.out).mono ?_; rintro e w9 ⟨d3, rfl, hd3, ho4, hb11⟩
           have z9 : w8.heap.size ≤ w9.heap.size := hb11.size
           have HO4 := Lib.hid ho4.reads; have E4 := Lib.hid hd3; clear ho4 hd3
           have HB11 := Lib.hid (show Below w8.heap.size w8 w9 from (below_drewN _ w8 1).trans hb11); clear hb11
           have HP11 := Lib.hid (HP10.out.below HB11.out (by omega))
           have HI11 := Lib.hid (HI10.out.below' HB11.out (by omega))
           obtain ⟨k0, k1, k2, k3, k4, k5, k6, k7, k8, k9, k10, k11⟩ := HP11.out
           unfold Dsk.cells)
        | (go_at_call 25; refine (eqDesk_yes d2 d3 w9 w6.heap.size w9.heap.size (by omega) (Nat.le_refl _) HI11.out HO4.out (like_bare (E2.out.trans E4.out.symm))).mono ?_; rintro e w10 ⟨rfl, hb12⟩
           have HB12 := Lib.hid (HB11.out.trans (hb12.mono (by omega))); clear hb12))
      all_goals (go_wp2_with fail; go_meet; exact ⟨rfl, HB12.out⟩)
    case rest =>
    obtain ⟨rfl, hbc⟩ := hcut
    clear g0 g1 g2 g3 g4 g5 g6 g7 g8 g9 g10 g11 p0 p1 p2 p3 p4 p5 p6 p7 p8 p9 p10 p11 HDd hs8
    have z9 := hbc.size
    have HB11 := Lib.hid (HB10.out.trans (hbc.mono (by omega)))
    have HQ11 := Lib.hid (HQ10.out.below hbc (by omega))
    have HJ11 := Lib.hid (HJ10.out.below' hbc (by omega)); clear hbc
    have HFd := Lib.hid ((HJ.out.below' HB11.out (by omega)).drew)
    have hs9 : B ≤ wc.drew.heap.size := by show B ≤ wc.heap.size; omega
    obtain ⟨h0, h1, h2, h3, h4, h5, h6, h7, h8, h9, h10, h11⟩ := show D12 wc (w.heap.size + 1) f from HY.out.below HB11.out (by omega)
    obtain ⟨p0, p1, p2, p3, p4, p5, p6, p7, p8, p9, p10, p11⟩ := HQ11.out
    go_wp2_with fail
    go_region_with (first
        | (go_at_call 32; refine (toDesk_any f wc.drew B hs9 HFd.out).mono ?_; rintro e w10 ⟨f3, rfl, hf3, ho4, hb11⟩
           have z10 : wc.heap.size ≤ w10.heap.size := hb11.size
           have HO4 := Lib.hid ho4.reads; have E4 := Lib.hid hf3; clear ho4 hf3
           have HBn := Lib.hid (show Below wc.heap.size wc w10 from (below_drewN _ wc 1).trans hb11); clear hb11
           have HQ12 := Lib.hid (HQ11.out.below HBn.out (by omega))
           have HJ12 := Lib.hid (HJ11.out.below' HBn.out (by omega))
           obtain ⟨k0, k1, k2, k3, k4, k5, k6, k7, k8, k9, k10, k11⟩ := HQ12.out
           unfold Dsk.cells)
        | (go_at_call 25; refine (eqDesk_yes f2 f3 w10 w7.heap.size w10.heap.size (by omega) (Nat.le_refl _) HJ12.out HO4.out (like_bare (E3.out.trans E4.out.symm))).mono ?_; rintro e w11 ⟨rfl, hb12⟩
           have HBo := Lib.hid (HBn.out.trans (hb12.mono (by omega))); clear hb12))
    all_goals
      go_wp2_with fail
      go_ret
      exact ⟨rfl, HZ.out.trans ((HB11.out.trans (HBo.out.mono (by omega))).mono (by omega))⟩
end Go.Proofs.Ythmkbgiandncnaa
