/- The walk of the law of ValidDesk; what the walks of the laws of desks share. -/
import Derived.Test.YthmkbgiandncnaaEqD
import Derived.Test.YthmkbgiandncnaaSz
namespace Go.Proofs.Ythmkbgiandncnaa
open Go.RowKit

/-- a desk's cells, one by one, behind a block's address -/
def D12 (w : World) (b : Nat) (d : Dsk) : Prop := w.cell? ⟨b, 0, none⟩ = some (.slice d.tA d.txs.length d.tc) ∧ w.cell? ⟨b, 1, none⟩ = some (fl d.loss) ∧ w.cell? ⟨b, 2, none⟩ = some (fl d.throat) ∧ w.cell? ⟨b, 3, none⟩ = some (fl d.lips) ∧ w.cell? ⟨b, 4, none⟩ = some (fl d.period) ∧ w.cell? ⟨b, 5, none⟩ = some (fl d.op) ∧ w.cell? ⟨b, 6, none⟩ = some (fl d.cl) ∧ w.cell? ⟨b, 7, none⟩ = some (fl d.breath) ∧ w.cell? ⟨b, 8, none⟩ = some (fl d.shake) ∧ w.cell? ⟨b, 9, none⟩ = some (.slice d.pA d.pxs.length d.pc) ∧ w.cell? ⟨b, 10, none⟩ = some (fl d.gain) ∧ w.cell? ⟨b, 11, none⟩ = some (.slice d.sA d.ss.length d.sc)
theorem D12.of {w : World} {b : Nat} {d : Dsk} (h : At w ⟨b, 0, none⟩ d.cells) : D12 w b d := by
  have e : ∀ j, (⟨b, 0, none⟩ : Addr).add j = ⟨b, j, none⟩ := fun j => by simp [Addr.add]; omega
  have h : ∀ j u, d.cells[j]? = some u → w.cell? ⟨b, j, none⟩ = some u := fun j u hj => by rw [← e j]; exact h j u hj
  exact ⟨h 0 _ rfl, h 1 _ rfl, h 2 _ rfl, h 3 _ rfl, h 4 _ rfl, h 5 _ rfl, h 6 _ rfl, h 7 _ rfl, h 8 _ rfl, h 9 _ rfl, h 10 _ rfl, h 11 _ rfl⟩
theorem D12.at_ {w : World} {b : Nat} {d : Dsk} (h : D12 w b d) : At w ⟨b, 0, none⟩ d.cells := by
  obtain ⟨h0, h1, h2, h3, h4, h5, h6, h7, h8, h9, h10, h11⟩ := h
  intro j u hj
  have e : (⟨b, 0, none⟩ : Addr).add j = ⟨b, j, none⟩ := by simp [Addr.add]; omega
  rw [e]
  match j, hj with
  | 0, hj => exact (by injection hj with hj; rw [← hj]; exact h0)
  | 1, hj => exact (by injection hj with hj; rw [← hj]; exact h1)
  | 2, hj => exact (by injection hj with hj; rw [← hj]; exact h2)
  | 3, hj => exact (by injection hj with hj; rw [← hj]; exact h3)
  | 4, hj => exact (by injection hj with hj; rw [← hj]; exact h4)
  | 5, hj => exact (by injection hj with hj; rw [← hj]; exact h5)
  | 6, hj => exact (by injection hj with hj; rw [← hj]; exact h6)
  | 7, hj => exact (by injection hj with hj; rw [← hj]; exact h7)
  | 8, hj => exact (by injection hj with hj; rw [← hj]; exact h8)
  | 9, hj => exact (by injection hj with hj; rw [← hj]; exact h9)
  | 10, hj => exact (by injection hj with hj; rw [← hj]; exact h10)
  | 11, hj => exact (by injection hj with hj; rw [← hj]; exact h11)
  | j + 12, hj => exact absurd hj (by simp [Dsk.cells])
theorem D12.box {w : World} {d : Dsk} {t : TypeId} : D12 (w.alloc (.cells d.cells.toArray t)) w.heap.size d := by
  unfold D12 Dsk.cells
  refine ⟨?_, ?_, ?_, ?_, ?_, ?_, ?_, ?_, ?_, ?_, ?_, ?_⟩ <;> go_simp
theorem D12.below {w w' : World} {b B : Nat} {d : Dsk} (h : D12 w b d) (hb : Below B w w') (hB : b < B) : D12 w' b d := by
  unfold D12 at *
  simp only [hb.cell (show (⟨b, _, none⟩ : Addr).block < B from hB)]
  exact h

theorem sames_at {ss ts : List Snd} (h : sames ss ts) {k : Nat} (h1 : k < ss.length) (h2 : k < ts.length) : ss[k].bare = ts[k].bare := by
  have := congrArg (·[k]?) h
  simp only [List.getElem?_map, List.getElem?_eq_getElem h1, List.getElem?_eq_getElem h2, Option.map_some, Option.some.injEq] at this
  exact this
theorem like_bareS {s t : Snd} (h : s.bare = t.bare) : likeS s t := by
  unfold Snd.bare at h
  injection h with a b c d e f g i
  exact ⟨by rw [a], by rw [d]; rfl, by rw [e], by rw [f], by rw [g], by rw [i]⟩
theorem like_bare {d d' : Dsk} (h : d.bare = d'.bare) : likeD d d' := by
  obtain ⟨a, b, c, e, f, g, i, j, k, l, m, n⟩ := bare_ok h
  exact ⟨by rw [a]; rfl, by rw [b], by rw [c], by rw [e], by rw [f], by rw [g], by rw [i], by rw [j], by rw [k], by rw [l]; rfl, by rw [m], sames_len n, fun k h1 h2 => like_bareS (sames_at n h1 h2)⟩
theorem okAt_bare (ss : List Snd) (k : Nat) : okAt (ss.map Snd.bare) k = okAt ss k := by
  unfold okAt
  simp only [List.getElem?_map]
  cases ss[k]? <;> cases ss[0]? <;> cases ss[k - 1]? <;> rfl
theorem soundsOk_map (ss : List Snd) : soundsOk (ss.map Snd.bare) = soundsOk ss := by
  unfold soundsOk
  rw [List.length_map, show okAt (ss.map Snd.bare) = okAt ss from funext (okAt_bare ss)]
theorem soundsOk_bare {ss ts : List Snd} (h : sames ss ts) : soundsOk ss = soundsOk ts := by
  rw [← soundsOk_map ss, ← soundsOk_map ts, show ss.map Snd.bare = ts.map Snd.bare from h]
theorem ok_bare {d d' : Dsk} (h : d.bare = d'.bare) : d.ok = d'.ok := by
  obtain ⟨a, b, c, e, f, g, i, j, k, l, m, n⟩ := bare_ok h
  unfold Dsk.ok
  rw [a, b, c, e, f, g, i, j, k, l, m, soundsOk_bare n]

set_option maxHeartbeats 1000000 in
theorem specValidDesk_any (d : Dsk) (w : World) (B : Nat) (hB : B ≤ w.heap.size) (hd : DskIn w B d) :
    Calls Try.prog 34 #[.agg d.cells.toArray] w fun e w' => e = .returned (.bool d.ok) ∧ Below w.heap.size w w' := by
  have HD := Lib.hid hd; clear hd
  go_enter Try.func34, Try.ntmps34
  go_wp2_with fail
  refine (l08Is_any d ⟨w.heap.size, 0, none⟩ _ B D12.box.at_ (HD.out.alloc hB _)).mono ?_
  rintro e w' ⟨rfl, n, rfl⟩
  go_wp2_with fail
  go_ret
  exact ⟨rfl, bl_ad _ _ _⟩

set_option maxHeartbeats 2000000 in
theorem FnExactValidDesk_any (d : Dsk) (w : World) (B : Nat) (hB : B ≤ w.heap.size) (hd : DskIn0 w B d) :
    Calls Try.prog 8 #[.agg d.cells.toArray] w fun e w' => e = .returned (.bool true) ∧ Below w.heap.size w w' := by
  have HD0 := Lib.hid hd; clear hd
  have hx : D12 (w.alloc (.cells d.cells.toArray 57)) w.heap.size d := D12.box
  unfold Dsk.cells at hx ⊢
  have HX0 := Lib.hid hx; clear hx
  go_enter Try.func8, Try.ntmps8
  go_wp2_with fail
  generalize hwz : World.alloc _ _ = wz
  replace hwz := hwz.symm
  have zz : wz.heap.size = w.heap.size + 1 := by rw [hwz]; simp
  have hz : Below w.heap.size w wz := by rw [hwz]; exact bl_a _ _
  have HX := Lib.hid (show D12 wz w.heap.size d by rw [hwz]; exact HX0.out); clear HX0 hwz
  have HD := Lib.hid (HD0.out.below' hz hB); have HZ := Lib.hid hz; clear hz
  refine (szDesk_any d _ _ B (by omega) HD.out (by omega) (by omega)).mono ?_
  rintro e w1 ⟨r, rfl, hr, hr2, hb1⟩
  have z1 := hb1.size
  have HB := Lib.hid (show Below (w.heap.size + 1) wz w1 by rw [← zz]; exact hb1); clear hb1
  have H2 := Lib.hid hr2; clear hr2
  by_cases hneg : r < 0
  · go_wp2_with fail
    go_ret
    exact ⟨rfl, HZ.out.trans (HB.out.mono (by omega))⟩
  have hfew := (H2.out (by omega)).2
  have HI := Lib.hid (HD.out.few hfew)
  clear hfew
  obtain ⟨g0, g1, g2, g3, g4, g5, g6, g7, g8, g9, g10, g11⟩ := show D12 w1 w.heap.size d from HX.out.below HB.out (by omega)
  go_wp2_with fail
  refine (toDesk_any d _ B (by omega) (HI.out.below' HB.out (by omega))).mono ?_
  clear g0 g1 g2 g3 g4 g5 g6 g7 g8 g9 g10 g11
  rintro e w2 ⟨d1, rfl, hd1, ho1, hb2⟩
  have z2 := hb2.size
  have HO1 := Lib.hid ho1; have E1 := Lib.hid hd1; clear ho1 hd1
  have HB2 := Lib.hid (HB.out.trans (hb2.mono (by omega))); clear hb2 HB
  unfold Dsk.cells
  go_wp2_with fail
  refine (specValidDesk_any d1 _ _ (Nat.le_refl _) HO1.out.reads).mono ?_
  rintro e w3 ⟨he, hb3⟩
  rw [ok_bare E1.out] at he
  subst he
  have z3 := hb3.size
  have HB := Lib.hid (HB2.out.trans (hb3.mono (by omega))); clear hb3 HB2
  obtain ⟨g0, g1, g2, g3, g4, g5, g6, g7, g8, g9, g10, g11⟩ := show D12 w3 w.heap.size d from HX.out.below HB.out (by omega)
  go_wp2_with fail
  refine (toDesk_any d _ B (by omega) (HI.out.below' HB.out (by omega))).mono ?_
  clear g0 g1 g2 g3 g4 g5 g6 g7 g8 g9 g10 g11
  rintro e w4 ⟨d2, rfl, hd2, ho2, hb4⟩
  have z4 := hb4.size
  have HO2 := Lib.hid ho2; have E2 := Lib.hid hd2; clear ho2 hd2
  have HB4 := Lib.hid (HB.out.trans (hb4.mono (by omega))); clear hb4 HB
  unfold Dsk.cells
  go_wp2_with fail
  generalize hwy : World.alloc _ _ = wy
  replace hwy := hwy.symm
  have zy : wy.heap.size = w4.heap.size + 1 := by rw [hwy]; simp
  have hby : Below w4.heap.size w4 wy := by rw [hwy]; exact bl_a _ _
  have HY := Lib.hid (show D12 wy w4.heap.size d2 by rw [hwy]; exact D12.box); clear hwy
  have HB5 := Lib.hid (HB4.out.trans (hby.mono (by omega))); clear HB4
  have HI2 := Lib.hid (HO2.out.reads.below hby); clear hby HO2
  refine (ValidDesk_any d2 _ w4.heap.size (by omega) HI2.out).mono ?_
  rintro e w5 ⟨he, hb6⟩
  rw [ok_bare E2.out] at he
  subst he
  have z5 := hb6.size
  have HB6 := Lib.hid (HB5.out.trans (hb6.mono (by omega))); clear HB5
  have HI5 := Lib.hid (HI2.out.below' hb6 (by omega)); clear HI2
  have HY5 := Lib.hid (HY.out.below hb6 (by omega)); clear HY hb6
  have HD5 := Lib.hid ((HI.out.below' HB6.out (by omega)).drew); clear HI
  have hs5 : B ≤ w5.drew.heap.size := by show B ≤ w5.heap.size; omega
  obtain ⟨g0, g1, g2, g3, g4, g5, g6, g7, g8, g9, g10, g11⟩ := show D12 w5 w.heap.size d from HX.out.below HB6.out (by omega)
  obtain ⟨h0, h1, h2, h3, h4, h5, h6, h7, h8, h9, h10, h11⟩ := HY5.out
  go_wp2_with fail
  go_region_with (first
    | (go_at_call 32; refine (toDesk_any d w5.drew B hs5 HD5.out).mono ?_; rintro e w6 ⟨d3, rfl, hd3, ho3, hb7⟩
       have z6 : w5.heap.size ≤ w6.heap.size := hb7.size
       have HO3 := Lib.hid ho3.reads; have E3 := Lib.hid hd3; clear ho3 hd3
       have HY6 := Lib.hid (show D12 w6 w4.heap.size d2 from (show D12 w5.drew w4.heap.size d2 from HY5.out).below hb7 (by show w4.heap.size < w5.heap.size; omega))
       have HI6 := Lib.hid (HI5.out.drew.below' hb7 (by show w4.heap.size ≤ w5.heap.size; omega))
       have HB7 := Lib.hid (HB6.out.trans ((below_drewN _ w5 1).trans (hb7.mono (by show w.heap.size + 1 ≤ w5.heap.size; omega)))); clear hb7
       obtain ⟨k0, k1, k2, k3, k4, k5, k6, k7, k8, k9, k10, k11⟩ := HY6.out
       unfold Dsk.cells)
    | (go_at_call 25; refine (eqDesk_yes d2 d3 w6 w4.heap.size w6.heap.size (by omega) (Nat.le_refl _) HI6.out HO3.out (like_bare (E2.out.trans E3.out.symm))).mono ?_; rintro e w7 ⟨rfl, hb8⟩
       have HB8 := Lib.hid (HB7.out.trans (hb8.mono (by omega))); clear hb8))
  all_goals
    go_wp2_with fail
    go_ret
    exact ⟨rfl, HZ.out.trans (HB8.out.mono (by omega))⟩
end Go.Proofs.Ythmkbgiandncnaa
