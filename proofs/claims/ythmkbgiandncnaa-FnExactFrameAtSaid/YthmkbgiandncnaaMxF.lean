/- Frames between two others: the reference's. -/
import Derived.Test.YthmkbgiandncnaaMix
import Derived.Deep.CutRange
namespace Go.Proofs.Ythmkbgiandncnaa
open Go.RowKit

theorem l02Mix_sl (A A' : Option Addr) (c c' : Nat) (xs ys : List Nat) (sh : Nat) (w : World) (B : Nat) (hB : B ≤ w.heap.size) (hx : Fs w B A xs) (hy : Fs w B A' ys) (hl : xs.length = ys.length) (hm : xs.length ≤ 1048576)
    (h1 : ∀ x ∈ xs, nonneg x) (h2 : ∀ y ∈ ys, nonneg y) (hs : fin32 sh = true) :
    Calls Try.prog 171 #[.slice A xs.length c, .slice A' ys.length c', fl sh] w fun e w' => ∃ A1 c1, e = .returned (.slice A1 xs.length c1) ∧ OwnF w' w.heap.size (.slice A1 xs.length c1) (mixed xs ys sh) ∧ Below w.heap.size w w' := by
  refine (l02Mix_any A A' c c' xs ys sh w B hB hx hy hl hm h1 h2 hs).mono ?_
  rintro e w' ⟨v, rfl, ho, hb⟩
  obtain ⟨A1, c1, rfl, _⟩ := ho.reads
  rw [mixed_len hl] at ho ⊢
  exact ⟨A1, c1, rfl, ho, hb⟩

set_option maxRecDepth 20000 in
set_option maxHeartbeats 4000000 in
theorem l06Mix_any (ga gb : Nat) (A A' : Option Addr) (c c' p v z p' v' z' : Nat) (xs ys : List Nat) (sh : Nat) (w : World) (B : Nat) (hB : B ≤ w.heap.size)
    (ka : Blk w ga 77 #[.slice A xs.length c, fl p, fl v, fl z]) (kb : Blk w gb 77 #[.slice A' ys.length c', fl p', fl v', fl z'])
    (hx : Fs w B A xs) (hy : Fs w B A' ys) (hl : xs.length = ys.length) (hm : xs.length ≤ 1048576)
    (h1 : ∀ x ∈ xs, nonneg x) (h2 : ∀ y ∈ ys, nonneg y) (hs : fin32 sh = true) (hp : nonneg p) (hp' : nonneg p') (hv : nonneg v) (hv' : nonneg v') (hz : nonneg z) (hz' : nonneg z') :
    Calls Try.prog 143 #[.pointer (some ⟨ga, 0, none⟩), .pointer (some ⟨gb, 0, none⟩), fl sh] w fun e w' => ∃ A1 c1, e = .returned (.agg #[.slice A1 xs.length c1, fl (mixP p p' sh), fl (mixP v v' sh), fl (mixP z z' sh)]) ∧ OwnF w' w.heap.size (.slice A1 xs.length c1) (mixed xs ys sh) ∧ Below w.heap.size w w' := by
  have HX := Lib.hid hx; have HY := Lib.hid hy; have HL := Lib.hid hl; have H1 := Lib.hid h1; have H2 := Lib.hid h2; have HS := Lib.hid hs; have HKa := Lib.hid ka; have HKb := Lib.hid kb
  obtain ⟨d1, q1, r1, e1, m11, m12, m13⟩ := mix_runs hp hp' hs
  obtain ⟨d2, q2, r2, e2, m21, m22, m23⟩ := mix_runs hv hv' hs
  obtain ⟨d3, q3, r3, e3, m31, m32, m33⟩ := mix_runs hz hz' hs
  rw [e1, e2, e3]
  clear hx hy hl h1 h2 hs ka kb e1 e2 e3 hp hp' hv hv' hz hz'
  go_enter Try.func143, Try.ntmps143
  go_wp2_with fail
  generalize hwz : World.alloc w _ = wz
  have zz : wz.heap.size = w.heap.size + 1 := by rw [← hwz]; simp
  have hbz : Below w.heap.size w wz := by rw [← hwz]; exact bl_a _ _
  have hk0 : Blk wz w.heap.size 77 #[.slice none 0 0, fl 0, fl 0, fl 0] := by rw [← hwz]; exact heap_1 _ _
  clear hwz
  have hka := HKa.out.below hbz; have hkb := HKb.out.below hbz
  have la := HKa.out.lt; have lb := HKb.out.lt
  have hxz := HX.out.below' hbz hB; have hyz := HY.out.below' hbz hB
  have a0 : wz.cell? ⟨ga, 0, none⟩ = some (.slice A xs.length c) := hka.cell_ (j := 0) rfl
  have b0 : wz.cell? ⟨gb, 0, none⟩ = some (.slice A' ys.length c') := hkb.cell_ (j := 0) rfl
  have a0o : ∀ o, (wz.drew.alloc o).cell? ⟨ga, 0, none⟩ = some (.slice A xs.length c) := fun o => (Blk.alloc (Blk.drew hka) o).cell_ (j := 0) rfl
  have b0o : ∀ o, (wz.drew.alloc o).cell? ⟨gb, 0, none⟩ = some (.slice A' ys.length c') := fun o => (Blk.alloc (Blk.drew hkb) o).cell_ (j := 0) rfl
  have HXz := Lib.hid hxz; have HYz := Lib.hid hyz; have HBz := Lib.hid hbz; have HK0 := Lib.hid hk0; have HKaz := Lib.hid hka; have HKbz := Lib.hid hkb; clear hxz hyz hbz hk0 hka hkb
  go_cut [7] from 8 to 18 (fun s7 wx => ∃ g A1 c1, s7 = .pointer (some ⟨g, 0, none⟩) ∧ wz.heap.size ≤ g ∧ Blk wx g 77 #[.slice A1 xs.length c1, fl 0, fl 0, fl 0] ∧ OwnF wx wz.heap.size (.slice A1 xs.length c1) (mixed xs ys sh) ∧ ((Value.slice A1 xs.length c1).ownBlock = none ∨ (Value.slice A1 xs.length c1).ownBlock ≠ some g) ∧ Below wz.heap.size wz wx)
  case first =>
    go_region_held3 (fun w' => w'.cell? ⟨ga, 0, none⟩ = some (.slice A xs.length c) ∧ w'.cell? ⟨gb, 0, none⟩ = some (.slice A' ys.length c')) (go_keep)
      (first
        | (go_at_call 171; refine (l02Mix_sl A A' c c' xs ys sh wz.drew B (by simp; omega) HXz.out.drew HYz.out.drew HL.out hm H1.out H2.out HS.out).mono ?_; rintro e w1 ⟨A1, c1, rfl, hown, hb⟩
           have f1 : w1.cell? ⟨ga, 0, none⟩ = some (.slice A xs.length c) := (hb.cell (by simp; omega)).trans a0
           have s1 := hb.size
           have f1o : ∀ o, (w1.alloc o).cell? ⟨ga, 0, none⟩ = some (.slice A xs.length c) := fun o => (World.cell?_alloc_lt w1 o ⟨ga, 0, none⟩ (by simp at s1; simp; omega)).trans f1
           have f2 : w1.cell? ⟨gb, 0, none⟩ = some (.slice A' ys.length c') := (hb.cell (by simp; omega)).trans b0
           have f2o : ∀ o, (w1.alloc o).cell? ⟨gb, 0, none⟩ = some (.slice A' ys.length c') := fun o => (World.cell?_alloc_lt w1 o ⟨gb, 0, none⟩ (by simp at s1; simp; omega)).trans f2
           have HB1 := Lib.hid hb; have HO1 := Lib.hid hown; clear hown hb)
        | (go_at_call 171; refine (l02Mix_sl A A' c c' xs ys sh _ B (by simp; omega) (Fs.alloc (w := wz.drew) HXz.out (by simp; omega) _) (Fs.alloc (w := wz.drew) HYz.out (by simp; omega) _) HL.out hm H1.out H2.out HS.out).mono ?_; rintro e w1 ⟨A1, c1, rfl, hown, hb⟩
           have f1 : w1.cell? ⟨ga, 0, none⟩ = some (.slice A xs.length c) := (hb.cell (by simp; omega)).trans (a0o _)
           have f2 : w1.cell? ⟨gb, 0, none⟩ = some (.slice A' ys.length c') := (hb.cell (by simp; omega)).trans (b0o _)
           have r0 : w1.cell? ⟨w.heap.size + 1, 0, none⟩ = some (.slice none 0 0) := by rw [← zz]; exact blk_cell hb (by simp) (heap_1 wz.drew _) rfl
           have r1 : w1.cell? ⟨w.heap.size + 1, 1, none⟩ = some (fl 0) := by rw [← zz]; exact blk_cell hb (by simp) (heap_1 wz.drew _) rfl
           have r2 : w1.cell? ⟨w.heap.size + 1, 2, none⟩ = some (fl 0) := by rw [← zz]; exact blk_cell hb (by simp) (heap_1 wz.drew _) rfl
           have r3 : w1.cell? ⟨w.heap.size + 1, 3, none⟩ = some (fl 0) := by rw [← zz]; exact blk_cell hb (by simp) (heap_1 wz.drew _) rfl
           have fr : ∀ j, w1.frozen? ⟨w.heap.size + 1, j, none⟩ = false := by rw [← zz]; exact fun j => blk_frozen hb (show wz.heap.size < _ by simp) (heap_1 wz.drew _) j
           have g1 := fun u0 u1 u2 u3 => (far4 (w := w1) (g := w.heap.size + 1) (p := ⟨ga, 0, none⟩) (by simp; omega) u0 u1 u2 u3).trans f1
           have g2 := fun u0 u1 u2 u3 => (far4 (w := w1) (g := w.heap.size + 1) (p := ⟨gb, 0, none⟩) (by simp; omega) u0 u1 u2 u3).trans f2
           have HB1 := Lib.hid hb; have HO1 := Lib.hid hown; clear hown hb))
    · go_wp2_with fail
      go_meet
      have s2 : wz.heap.size ≤ w1.heap.size := s1
      refine ⟨w1.heap.size, A1, c1, rfl, s2, heap_1 _ _, HO1.out.alloc _, ?_, ?_⟩
      · cases hv : (Value.slice A1 xs.length c1).ownBlock with
        | none => exact .inl rfl
        | some b => right; intro e; have := (World.ownsRow.lt HO1.out b hv).2; injection e with e; omega
      · exact ((below_drewN _ wz 1).trans HB1.out).alloc s2 _
    · go_wp2_with fail
      go_meet
      have hbw : Below wz.heap.size wz w1 := ((Below.refl _ _).drew.alloc (by simp) _).trans (HB1.out.mono (by simp))
      have hbk : Blk w1 (w.heap.size + 1) 77 #[.slice none 0 0, fl 0, fl 0, fl 0] := by rw [← zz]; exact Blk.below' (heap_1 wz.drew _) HB1.out (by simp)
      have hge : ∀ b, (Value.slice A1 xs.length c1).ownBlock = some b → w.heap.size + 2 ≤ b := fun b hv => by have := HO1.out.ge hv; simp at this; omega
      have hne : (Value.slice A1 xs.length c1).ownBlock = none ∨ (Value.slice A1 xs.length c1).ownBlock ≠ some (w.heap.size + 1) := by
        cases hv : (Value.slice A1 xs.length c1).ownBlock with
        | none => exact .inl rfl
        | some b => right; intro e; have := hge b hv; injection e with e; omega
      refine ⟨w.heap.size + 1, A1, c1, rfl, by omega, ?_, ?_, hne, ?_⟩
      · exact Blk.set_ (Blk.set_ (Blk.set_ (Blk.set_ hbk)))
      · exact OwnF.far (OwnF.far (OwnF.far (OwnF.far (HO1.out.less (by simp)) hne) hne) hne) hne
      · exact (((hbw.setCell (by simp; omega) _).setCell (by simp; omega) _).setCell (by simp; omega) _).setCell (by simp; omega) _
  case rest =>
    obtain ⟨g, A1, c1, rfl, hg, hkg, hown, hne, hb⟩ := hcut
    have ka := HKaz.out.below' hb (by omega); have kb := HKbz.out.below' hb (by omega)
    have k0 := HK0.out.below' hb (by omega)
    have na : ga ≠ g := by omega
    have nb : gb ≠ g := by omega
    have n0 : w.heap.size ≠ g := by omega
    have HB := Lib.hid hb; have HO := Lib.hid hown; have HN := Lib.hid hne; clear hb hown hne a0 b0 a0o b0o
    have x1 : wc.cell? ⟨ga, 1, none⟩ = some (fl p) := ka.cell_ (j := 1) rfl
    have y1 : wc.cell? ⟨gb, 1, none⟩ = some (fl p') := kb.cell_ (j := 1) rfl
    have g1 : wc.cell? ⟨g, 1, none⟩ = some (fl 0) := hkg.cell_ (j := 1) rfl
    have gf1 := hkg.froz
    have HA1 := Lib.hid ka; have HB1 := Lib.hid kb; have HG1 := Lib.hid hkg; have HS1 := Lib.hid k0; clear ka kb hkg k0
    go_wp2_with fail
    go_still_tail 17, (by kernel_rfl)
    change wpList _ _ _ _ _ (World.drew _)
    go_wp2_with fail
    have ka := Blk.drew (HA1.out.far (a := ⟨g, 1, none⟩) (u := fl r1) na)
    have kb := Blk.drew (HB1.out.far (a := ⟨g, 1, none⟩) (u := fl r1) nb)
    have k0 := Blk.drew (HS1.out.far (a := ⟨g, 1, none⟩) (u := fl r1) n0)
    have hkg := Blk.drew (HG1.out.set_ (j := 1) (u := fl r1))
    have hb1 : Below wz.heap.size wz (World.drew (wc.setCell ⟨g, 1, none⟩ (fl r1))) := (HB.out.setCell (by simp; omega) _).drew
    have ho1 : OwnF (World.drew (wc.setCell ⟨g, 1, none⟩ (fl r1))) wz.heap.size (.slice A1 xs.length c1) (mixed xs ys sh) := OwnF.far HO.out HN.out
    generalize hw1 : World.drew (wc.setCell ⟨g, 1, none⟩ (Value.float .f32 r1)) = wd at *
    have HBe1 := Lib.hid hb1; have HOe1 := Lib.hid ho1; clear hb1 ho1 hw1
    have x2 : wd.cell? ⟨ga, 2, none⟩ = some (fl v) := ka.cell_ (j := 2) rfl
    have y2 : wd.cell? ⟨gb, 2, none⟩ = some (fl v') := kb.cell_ (j := 2) rfl
    have g2 : wd.cell? ⟨g, 2, none⟩ = some (fl 0) := hkg.cell_ (j := 2) rfl
    have gf2 := hkg.froz
    have HA2 := Lib.hid ka; have HB2 := Lib.hid kb; have HG2 := Lib.hid hkg; have HS2 := Lib.hid k0; clear ka kb hkg k0
    go_wp2_with fail
    go_still_tail 17, (by kernel_rfl)
    change wpList _ _ _ _ _ (World.drew _)
    go_wp2_with fail
    have ka := Blk.drew (HA2.out.far (a := ⟨g, 2, none⟩) (u := fl r2) na)
    have kb := Blk.drew (HB2.out.far (a := ⟨g, 2, none⟩) (u := fl r2) nb)
    have k0 := Blk.drew (HS2.out.far (a := ⟨g, 2, none⟩) (u := fl r2) n0)
    have hkg := Blk.drew (HG2.out.set_ (j := 2) (u := fl r2))
    have hb2 : Below wz.heap.size wz (World.drew (wd.setCell ⟨g, 2, none⟩ (fl r2))) := (HBe1.out.setCell (by simp; omega) _).drew
    have ho2 : OwnF (World.drew (wd.setCell ⟨g, 2, none⟩ (fl r2))) wz.heap.size (.slice A1 xs.length c1) (mixed xs ys sh) := OwnF.far HOe1.out HN.out
    generalize hw2 : World.drew (wd.setCell ⟨g, 2, none⟩ (Value.float .f32 r2)) = we at *
    have HBe2 := Lib.hid hb2; have HOe2 := Lib.hid ho2; clear hb2 ho2 hw2
    have x3 : we.cell? ⟨ga, 3, none⟩ = some (fl z) := ka.cell_ (j := 3) rfl
    have y3 : we.cell? ⟨gb, 3, none⟩ = some (fl z') := kb.cell_ (j := 3) rfl
    have g3 : we.cell? ⟨g, 3, none⟩ = some (fl 0) := hkg.cell_ (j := 3) rfl
    have gf3 := hkg.froz
    have g0 : we.cell? ⟨g, 0, none⟩ = some (.slice A1 xs.length c1) := hkg.cell_ (j := 0) rfl
    have g1 : we.cell? ⟨g, 1, none⟩ = some (fl r1) := hkg.cell_ (j := 1) rfl
    have g2 : we.cell? ⟨g, 2, none⟩ = some (fl r2) := hkg.cell_ (j := 2) rfl
    have s0 : we.cell? ⟨w.heap.size, 0, none⟩ = some (.slice none 0 0) := k0.cell_ (j := 0) rfl
    have s1 : we.cell? ⟨w.heap.size, 1, none⟩ = some (fl 0) := k0.cell_ (j := 1) rfl
    have s2 : we.cell? ⟨w.heap.size, 2, none⟩ = some (fl 0) := k0.cell_ (j := 2) rfl
    have s3 : we.cell? ⟨w.heap.size, 3, none⟩ = some (fl 0) := k0.cell_ (j := 3) rfl
    have sf := k0.froz
    have ng : ¬ g = w.heap.size := by omega
    have ng' : ¬ w.heap.size = g := by omega
    have HA3 := Lib.hid ka; have HB3 := Lib.hid kb; have HG3 := Lib.hid hkg; have HS3 := Lib.hid k0; clear ka kb hkg k0
    go_wp2_with fail
    go_still_tail 17, (by kernel_rfl)
    change wpList _ _ _ _ _ (World.drew _)
    go_wp2_with fail
    refine bodyPost_ret (v := .agg #[.slice A1 xs.length c1, fl r1, fl r2, fl r3]) ?_ rfl ⟨_, _, rfl, ?_, ?_⟩
    · simp [results, Try.results143, go_sem, s0, s1, s2, s3]
    · exact OwnF.less (base := wz.heap.size) (.set_ (.set_ (.set_ (.set_ (OwnF.far HOe2.out HN.out) (by simp; omega)) (by simp; omega)) (by simp; omega)) (by simp; omega)) (by omega)
    · exact ((((HBz.out.trans ((HBe2.out.setCell (by simp; omega) _).drew.mono (by omega))).setCell (by simp) _).setCell (by simp) _).setCell (by simp) _).setCell (by simp) _
end Go.Proofs.Ythmkbgiandncnaa
