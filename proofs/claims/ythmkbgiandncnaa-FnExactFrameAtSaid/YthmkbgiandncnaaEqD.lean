/- The laws' comparisons of tubes, throats, predictors, lists of sounds and desks. -/
import Derived.Test.YthmkbgiandncnaaEq
import Derived.StillTailTactics
namespace Go.Proofs.Ythmkbgiandncnaa
open Go.RowKit

abbrev lk (x y : Nat) : Prop := canF .f32 x = canF .f32 y
def likes (ss ts : List Snd) : Prop := ss.length = ts.length ∧ ∀ (k : Nat) (h1 : k < ss.length) (h2 : k < ts.length), likeS ss[k] ts[k]
structure likeD (d e : Dsk) : Prop where
  t : cans d.txs e.txs
  loss : lk d.loss e.loss
  throat : lk d.throat e.throat
  lips : lk d.lips e.lips
  period : lk d.period e.period
  op : lk d.op e.op
  cl : lk d.cl e.cl
  breath : lk d.breath e.breath
  shake : lk d.shake e.shake
  p : cans d.pxs e.pxs
  gain : lk d.gain e.gain
  s : likes d.ss e.ss

set_option maxRecDepth 20000 in
set_option maxHeartbeats 1000000 in
theorem eqSoundS_yes (A A' : Option Addr) (c c' : Nat) (ss ts : List Snd) (w : World) (B B' : Nat) (hB : B ≤ w.heap.size) (hB' : B' ≤ w.heap.size) (hs : Snds w B A ss) (ht : Snds w B' A' ts) (hst : likes ss ts) (hm : ss.length ≤ 1048576) :
    Calls Try.prog 20 #[.slice A ss.length c, .slice A' ts.length c'] w fun e w' => e = .returned (.bool true) ∧ Below w.heap.size w w' := by
  have hl := hst.1
  rw [← hl]
  have HL := Lib.hid hl; clear hl
  have HC := Lib.hid hst; clear hst
  have HS := Lib.hid hs; have HT := Lib.hid ht; clear hs ht
  go_enter Try.func20, Try.ntmps20
  go_wp2
  go_loopw [5] (fun i wr => ∃ k : Nat, k ≤ ss.length ∧ i = .int .i64 k ∧ Below w.heap.size w wr) (fun i _ => ss.length - (intOf i).toNat)
  case atStart => exact ⟨0, Nat.zero_le _, rfl, Below.refl _ _⟩
  case round =>
    obtain ⟨k, hk, rfl, hwr⟩ := hrel
    have hsz := hwr.size
    by_cases hlt : k < ss.length
    · have hlt' : k < ts.length := by have := HL.out; omega
      obtain ⟨ad, hA, hadB, hcell, hin⟩ := (HS.out.below' hwr hB).at_ hlt
      obtain ⟨ad', hA', hadB', hcell', hin'⟩ := (HT.out.below' hwr hB').at_ hlt'
      subst hA; subst hA'
      have hq := HC.out.2 k hlt hlt'
      have HQ := Lib.hid hq; clear hq
      have HI := Lib.hid hin; have HI' := Lib.hid hin'; clear hin hin'
      obtain ⟨a0, a1, a2, a3, a4, a5⟩ := cells_at hcell
      obtain ⟨b0, b1, b2, b3, b4, b5⟩ := cells_at hcell'
      have HW := Lib.hid hwr; clear hwr
      clear hcell hcell'
      go_wp2_with fail
      go_still_tail 8, (by kernel_rfl)
      change wpList _ _ _ _ _ wr.drew
      go_wp2_with fail
      refine (eqSound_yes ss[k] ts[k] wr.drew B B' (by simp; omega) (by simp; omega) HI.out.drew HI'.out.drew HQ.out).mono ?_
      rintro e w' ⟨rfl, hb⟩
      have hb' : Below w.heap.size w w' := bl_step (HW.out.trans (below_drewN _ _ 1)) hb
      have HB' := Lib.hid hb'; clear hb' hb
      go_wp2_with fail
      go_roundw
      case rel => exact ⟨k + 1, by omega, by go_num, HB'.out⟩
      case measure => simp [intOf]; omega
    · go_wp2
      go_ret
      exact ⟨rfl, hwr⟩

set_option maxHeartbeats 1000000 in
theorem eqTube_yes (A A' : Option Addr) (c c' : Nat) (xs ys : List Nat) (x1 x2 x3 y1 y2 y3 : Nat) (w : World) (B B' : Nat) (hB : B ≤ w.heap.size) (hB' : B' ≤ w.heap.size) (hx : Fs w B A xs) (hy : Fs w B' A' ys) (hxy : cans xs ys) (hm : xs.length ≤ 1048576)
    (q1 : lk x1 y1) (q2 : lk x2 y2) (q3 : lk x3 y3) :
    Calls Try.prog 71 #[.agg #[.slice A xs.length c, fl x1, fl x2, fl x3], .agg #[.slice A' ys.length c', fl y1, fl y2, fl y3]] w fun e w' => e = .returned (.bool true) ∧ Below w.heap.size w w' := by
  have hs1 := (hx.alloc hB (.cells #[.slice A xs.length c, fl x1, fl x2, fl x3] 40)).alloc (by simp; omega) (.cells #[.slice A' ys.length c', fl y1, fl y2, fl y3] 40)
  have ht1 := (hy.alloc hB' (.cells #[.slice A xs.length c, fl x1, fl x2, fl x3] 40)).alloc (by simp; omega) (.cells #[.slice A' ys.length c', fl y1, fl y2, fl y3] 40)
  have HS := Lib.hid hs1; have HT := Lib.hid ht1; clear hs1 ht1 hx hy
  have H0 := Lib.hid hxy; have H1 := Lib.hid q1; have H2 := Lib.hid q2; have H3 := Lib.hid q3
  clear hxy q1 q2 q3
  go_enter Try.func71, Try.ntmps71
  go_wp2_with fail
  go_at_call 41
  refine (eqFloat32S_yes _ _ _ _ _ _ _ _ _ HS.out HT.out H0.out hm).mono ?_
  rintro e wz ⟨rfl, n, hwz⟩
  have c1 : wz.cell? ⟨w.heap.size, 1, none⟩ = some (fl x1) := by rw [hwz]; go_simp
  have c2 : wz.cell? ⟨w.heap.size, 2, none⟩ = some (fl x2) := by rw [hwz]; go_simp
  have c3 : wz.cell? ⟨w.heap.size, 3, none⟩ = some (fl x3) := by rw [hwz]; go_simp
  have d1 : wz.cell? ⟨w.heap.size + 1, 1, none⟩ = some (fl y1) := by rw [hwz]; go_simp
  have d2 : wz.cell? ⟨w.heap.size + 1, 2, none⟩ = some (fl y2) := by rw [hwz]; go_simp
  have d3 : wz.cell? ⟨w.heap.size + 1, 3, none⟩ = some (fl y3) := by rw [hwz]; go_simp
  have HZ := Lib.hid hwz; clear hwz
  go_wp2_with fail
  go_at_call 103; refine (sameFloat_yes _ _ (cv_same H1.out _ _) _).mono ?_; rintro e w' ⟨rfl, n', rfl⟩
  go_wp2_with fail
  go_at_call 103; refine (sameFloat_yes _ _ (cv_same H2.out _ _) _).mono ?_; rintro e w' ⟨rfl, n', rfl⟩
  go_wp2_with fail
  go_at_call 103; refine (sameFloat_yes _ _ (cv_same H3.out _ _) _).mono ?_; rintro e w' ⟨rfl, n', rfl⟩
  go_wp2_with fail
  go_ret
  refine ⟨rfl, ?_⟩
  rw [HZ.out]
  exact drewN_below (drewN_below (bl_step (bl_a _ _) (bl_a _ _)) _) _

set_option maxHeartbeats 1000000 in
theorem eqPredictor_yes (A A' : Option Addr) (c c' : Nat) (xs ys : List Nat) (x1 y1 : Nat) (w : World) (B B' : Nat) (hB : B ≤ w.heap.size) (hB' : B' ≤ w.heap.size) (hx : Fs w B A xs) (hy : Fs w B' A' ys) (hxy : cans xs ys) (hm : xs.length ≤ 1048576)
    (q1 : lk x1 y1) :
    Calls Try.prog 73 #[.agg #[.slice A xs.length c, fl x1], .agg #[.slice A' ys.length c', fl y1]] w fun e w' => e = .returned (.bool true) ∧ Below w.heap.size w w' := by
  have hs1 := (hx.alloc hB (.cells #[.slice A xs.length c, fl x1] 44)).alloc (by simp; omega) (.cells #[.slice A' ys.length c', fl y1] 44)
  have ht1 := (hy.alloc hB' (.cells #[.slice A xs.length c, fl x1] 44)).alloc (by simp; omega) (.cells #[.slice A' ys.length c', fl y1] 44)
  have HS := Lib.hid hs1; have HT := Lib.hid ht1; clear hs1 ht1 hx hy
  have H0 := Lib.hid hxy; have H1 := Lib.hid q1
  clear hxy q1
  go_enter Try.func73, Try.ntmps73
  go_wp2_with fail
  go_at_call 41
  refine (eqFloat32S_yes _ _ _ _ _ _ _ _ _ HS.out HT.out H0.out hm).mono ?_
  rintro e wz ⟨rfl, n, hwz⟩
  have c1 : wz.cell? ⟨w.heap.size, 1, none⟩ = some (fl x1) := by rw [hwz]; go_simp
  have d1 : wz.cell? ⟨w.heap.size + 1, 1, none⟩ = some (fl y1) := by rw [hwz]; go_simp
  have HZ := Lib.hid hwz; clear hwz
  go_wp2_with fail
  go_at_call 103; refine (sameFloat_yes _ _ (cv_same H1.out _ _) _).mono ?_; rintro e w' ⟨rfl, n', rfl⟩
  go_wp2_with fail
  go_ret
  refine ⟨rfl, ?_⟩
  rw [HZ.out]
  exact drewN_below (drewN_below (bl_step (bl_a _ _) (bl_a _ _)) _) _

set_option maxHeartbeats 1000000 in
theorem eqThroat_yes (x1 x2 x3 x4 x5 y1 y2 y3 y4 y5 : Nat) (w : World) (q1 : lk x1 y1) (q2 : lk x2 y2) (q3 : lk x3 y3) (q4 : lk x4 y4) (q5 : lk x5 y5) :
    Calls Try.prog 72 #[.agg #[fl x1, fl x2, fl x3, fl x4, fl x5], .agg #[fl y1, fl y2, fl y3, fl y4, fl y5]] w fun e w' => e = .returned (.bool true) ∧ Below w.heap.size w w' := by
  have H1 := Lib.hid q1; have H2 := Lib.hid q2; have H3 := Lib.hid q3; have H4 := Lib.hid q4; have H5 := Lib.hid q5
  clear q1 q2 q3 q4 q5
  go_enter Try.func72, Try.ntmps72
  go_wp2_with fail
  go_at_call 103; refine (sameFloat_yes _ _ (cv_same H1.out _ _) _).mono ?_; rintro e w' ⟨rfl, n', rfl⟩
  go_wp2_with fail
  go_at_call 103; refine (sameFloat_yes _ _ (cv_same H2.out _ _) _).mono ?_; rintro e w' ⟨rfl, n', rfl⟩
  go_wp2_with fail
  go_at_call 103; refine (sameFloat_yes _ _ (cv_same H3.out _ _) _).mono ?_; rintro e w' ⟨rfl, n', rfl⟩
  go_wp2_with fail
  go_at_call 103; refine (sameFloat_yes _ _ (cv_same H4.out _ _) _).mono ?_; rintro e w' ⟨rfl, n', rfl⟩
  go_wp2_with fail
  go_at_call 103; refine (sameFloat_yes _ _ (cv_same H5.out _ _) _).mono ?_; rintro e w' ⟨rfl, n', rfl⟩
  go_wp2_with fail
  go_ret
  refine ⟨rfl, ?_⟩
  exact drewN_below (bl_step (bl_a _ _) (bl_a _ _)) _

set_option maxHeartbeats 2000000 in
theorem eqDesk_yes (d d' : Dsk) (w : World) (B B' : Nat) (hB : B ≤ w.heap.size) (hB' : B' ≤ w.heap.size) (hd : DskIn w B d) (hd' : DskIn w B' d') (hq : likeD d d') :
    Calls Try.prog 25 #[.agg d.cells.toArray, .agg d'.cells.toArray] w fun e w' => e = .returned (.bool true) ∧ Below w.heap.size w w' := by
  have HD0 := Lib.hid hd; have HD0' := Lib.hid hd'; clear hd hd'
  have HQ := Lib.hid hq; clear hq
  have hm := HD0.out.tn; have hm2 := HD0.out.pn; have hm3 := HD0.out.sn
  unfold Dsk.cells
  go_enter Try.func25, Try.ntmps25
  go_wp2_with fail
  generalize hwz : (World.alloc (World.alloc _ _) _) = wz
  replace hwz := hwz.symm
  have HD := Lib.hid (show DskIn wz B d by rw [hwz]; exact (HD0.out.alloc hB _).alloc (by simp; omega) _)
  have HD' := Lib.hid (show DskIn wz B' d' by rw [hwz]; exact (HD0'.out.alloc hB' _).alloc (by simp; omega) _)
  have zz : wz.heap.size = w.heap.size + 2 := by rw [hwz]; simp
  refine (eqTube_yes _ _ _ _ _ _ _ _ _ _ _ _ _ B B' (by omega) (by omega) HD.out.t HD'.out.t HQ.out.t HD.out.tn HQ.out.loss HQ.out.throat HQ.out.lips).mono ?_
  rintro e w1 ⟨rfl, hb1⟩
  have z1 := hb1.size
  have HB1 := Lib.hid (show Below (w.heap.size + 2) wz w1 by rw [← zz]; exact hb1); clear hb1
  have g4 : w1.cell? ⟨w.heap.size, 4, none⟩ = some (fl d.period) := by rw [HB1.out.cell (by simp), hwz]; go_simp
  have g5 : w1.cell? ⟨w.heap.size, 5, none⟩ = some (fl d.op) := by rw [HB1.out.cell (by simp), hwz]; go_simp
  have g6 : w1.cell? ⟨w.heap.size, 6, none⟩ = some (fl d.cl) := by rw [HB1.out.cell (by simp), hwz]; go_simp
  have g7 : w1.cell? ⟨w.heap.size, 7, none⟩ = some (fl d.breath) := by rw [HB1.out.cell (by simp), hwz]; go_simp
  have g8 : w1.cell? ⟨w.heap.size, 8, none⟩ = some (fl d.shake) := by rw [HB1.out.cell (by simp), hwz]; go_simp
  have h4 : w1.cell? ⟨w.heap.size + 1, 4, none⟩ = some (fl d'.period) := by rw [HB1.out.cell (by simp), hwz]; go_simp
  have h5 : w1.cell? ⟨w.heap.size + 1, 5, none⟩ = some (fl d'.op) := by rw [HB1.out.cell (by simp), hwz]; go_simp
  have h6 : w1.cell? ⟨w.heap.size + 1, 6, none⟩ = some (fl d'.cl) := by rw [HB1.out.cell (by simp), hwz]; go_simp
  have h7 : w1.cell? ⟨w.heap.size + 1, 7, none⟩ = some (fl d'.breath) := by rw [HB1.out.cell (by simp), hwz]; go_simp
  have h8 : w1.cell? ⟨w.heap.size + 1, 8, none⟩ = some (fl d'.shake) := by rw [HB1.out.cell (by simp), hwz]; go_simp
  go_wp2_with fail
  refine (eqThroat_yes _ _ _ _ _ _ _ _ _ _ _ HQ.out.period HQ.out.op HQ.out.cl HQ.out.breath HQ.out.shake).mono ?_
  rintro e w2 ⟨rfl, hb2⟩
  have z2 := hb2.size
  have HB2 := Lib.hid (HB1.out.trans (hb2.mono (by omega))); clear hb2
  have g9 : w2.cell? ⟨w.heap.size, 9, none⟩ = some (.slice d.pA d.pxs.length d.pc) := by rw [HB2.out.cell (by simp), hwz]; go_simp
  have g10 : w2.cell? ⟨w.heap.size, 10, none⟩ = some (fl d.gain) := by rw [HB2.out.cell (by simp), hwz]; go_simp
  have h9 : w2.cell? ⟨w.heap.size + 1, 9, none⟩ = some (.slice d'.pA d'.pxs.length d'.pc) := by rw [HB2.out.cell (by simp), hwz]; go_simp
  have h10 : w2.cell? ⟨w.heap.size + 1, 10, none⟩ = some (fl d'.gain) := by rw [HB2.out.cell (by simp), hwz]; go_simp
  go_wp2_with fail
  refine (eqPredictor_yes _ _ _ _ _ _ _ _ _ B B' (by omega) (by omega) (HD.out.p.below' HB2.out (by omega)) (HD'.out.p.below' HB2.out (by omega)) HQ.out.p HD.out.pn HQ.out.gain).mono ?_
  rintro e w3 ⟨rfl, hb3⟩
  have z3 := hb3.size
  have HB3 := Lib.hid (HB2.out.trans (hb3.mono (by omega))); clear hb3
  have g11 : w3.cell? ⟨w.heap.size, 11, none⟩ = some (.slice d.sA d.ss.length d.sc) := by rw [HB3.out.cell (by simp), hwz]; go_simp
  have h11 : w3.cell? ⟨w.heap.size + 1, 11, none⟩ = some (.slice d'.sA d'.ss.length d'.sc) := by rw [HB3.out.cell (by simp), hwz]; go_simp
  go_wp2_with fail
  refine (eqSoundS_yes _ _ _ _ _ _ _ B B' (by omega) (by omega) (HD.out.s.below' HB3.out (by omega)) (HD'.out.s.below' HB3.out (by omega)) HQ.out.s HD.out.sn).mono ?_
  rintro e w4 ⟨rfl, hb4⟩
  have HB4 := Lib.hid (HB3.out.trans (hb4.mono (by omega))); clear hb4
  go_wp2_with fail
  go_ret
  refine ⟨rfl, ?_⟩
  have hb5 := HB4.out
  rw [hwz] at hb5
  exact (bl_step (bl_a _ _) (bl_a _ _)).trans (hb5.mono (by omega))
end Go.Proofs.Ythmkbgiandncnaa
