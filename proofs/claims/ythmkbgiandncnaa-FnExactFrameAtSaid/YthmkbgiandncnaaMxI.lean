/- Frames between two others: the program's. -/
import Derived.Test.YthmkbgiandncnaaMxF
import Derived.Test.YthmkbgiandncnaaNew
namespace Go.Proofs.Ythmkbgiandncnaa
open Go.RowKit

theorem heap_4 (w : World) (o p q r : Obj) : ((((w.alloc o).alloc p).alloc q).alloc r).heap[w.heap.size + 3]? = some r := by
  have := heap_1 (((w.alloc o).alloc p).alloc q) r
  rwa [show (((w.alloc o).alloc p).alloc q).heap.size = w.heap.size + 3 by simp] at this

theorem heap_2' (w : World) (o p : Obj) {n : Nat} (h : w.heap.size = n) : ((w.alloc o).alloc p).heap[n + 1]? = some p := by rw [← h]; exact heap_2 _ _ _
theorem heap_21' (w : World) (o p : Obj) {n : Nat} (h : w.heap.size = n) : ((w.alloc o).alloc p).heap[n]? = some o := by rw [← h]; exact (Below.heap_alloc (w.alloc o) p _ (by simp)).trans (heap_1 w o)

set_option maxRecDepth 20000 in
set_option maxHeartbeats 8000000 in
theorem mixFrames_any (A A' : Option Addr) (c c' p v z p' v' z' : Nat) (xs ys : List Nat) (sh : Nat) (w : World) (B : Nat) (hB : B ≤ w.heap.size)
    (hx : Fs w B A xs) (hy : Fs w B A' ys) (hl : xs.length = ys.length) (hm : xs.length ≤ 1048576)
    (h1 : ∀ x ∈ xs, nonneg x) (h2 : ∀ y ∈ ys, nonneg y) (hs : fin32 sh = true) (hp : nonneg p) (hp' : nonneg p') (hv : nonneg v) (hv' : nonneg v') (hz : nonneg z) (hz' : nonneg z') :
    Calls Try.prog 149 #[.agg #[.slice A xs.length c, fl p, fl v, fl z], .agg #[.slice A' ys.length c', fl p', fl v', fl z'], fl sh] w fun e w' => ∃ A1 c1, e = .returned (.tuple (frmRet A1 c1 (mixed xs ys sh) (mixP p p' sh) (mixP v v' sh) (mixP z z' sh))) ∧ OwnF w' w.heap.size (.slice A1 (mixed xs ys sh).length c1) (mixed xs ys sh) ∧ Below w.heap.size w w' := by
  have hml := mixed_len hl sh
  have HX := Lib.hid hx; have HY := Lib.hid hy; have HL := Lib.hid hl; have H1 := Lib.hid h1; have H2 := Lib.hid h2; have HS := Lib.hid hs; have HML := Lib.hid hml; clear hx hy hl h1 h2 hs hml
  have Hp := Lib.hid hp; have Hp' := Lib.hid hp'; have Hv := Lib.hid hv; have Hv' := Lib.hid hv'; have Hz := Lib.hid hz; have Hz' := Lib.hid hz'; clear hp hp' hv hv' hz hz'
  have hmk : ∀ w, (Instr.makeSlice 38 (.int .i64 (xs.length : Int)) (.int .i64 (xs.length : Int))).run Try.prog w = .ok (.slice (some ⟨w.heap.size, 0, none⟩) xs.length xs.length) (w.alloc (.cells (madeCells #[.float .f32 0] xs.length) 29)) :=
    fun w => run_make_row' 38 29 (.float .f32 0) 4 Try.underlying38 infoF rfl .i64 .i64 xs.length (by omega) (by omega) w
  go_enter Try.func149, Try.ntmps149
  go_wp2_with fail
  generalize hwz : World.alloc (World.alloc (World.alloc (World.alloc w _) _) _) _ = wz
  have zz : wz.heap.size = w.heap.size + 4 := by rw [← hwz]; simp
  have hbz : Below w.heap.size w wz := by rw [← hwz]; exact (((bl_a w _).alloc (by simp) _).alloc (by simp; omega) _).alloc (by simp; omega) _
  have k3 : Blk wz w.heap.size 77 #[.slice A xs.length c, fl p, fl v, fl z] := by rw [← hwz]; exact Blk.alloc (Blk.alloc (Blk.alloc (heap_1 _ _) _) _) _
  have k4 : Blk wz (w.heap.size + 1) 77 #[.slice A' ys.length c', fl p', fl v', fl z'] := by rw [← hwz]; exact Blk.alloc (Blk.alloc (heap_2 _ _ _) _) _
  have k5 : Blk wz (w.heap.size + 1 + 1) 29 #[fl sh] := by rw [← hwz]; exact Blk.alloc (heap_3 _ _ _ _) _
  have k6 : Blk wz (w.heap.size + 1 + 1 + 1) 77 #[.slice none 0 0, fl 0, fl 0, fl 0] := by rw [← hwz]; exact heap_4 _ _ _ _ _
  clear hwz
  generalize hg3 : w.heap.size = g3 at k3 k4 k5 k6 ⊢
  generalize hg6 : g3 + 1 + 1 + 1 = g6 at k6 ⊢
  generalize hg5 : g3 + 1 + 1 = g5 at k5 ⊢
  generalize hg4 : g3 + 1 = g4 at k4 ⊢
  have c0 : wz.cell? ⟨g3, 0, none⟩ = some (.slice A xs.length c) := k3.cell_ (j := 0) rfl
  have d0 : ∀ o, (wz.drew.alloc o).cell? ⟨g3, 0, none⟩ = some (.slice A xs.length c) := fun o => (Blk.alloc (Blk.drew k3) o).cell_ (j := 0) rfl
  have e0 : ∀ o o', ((wz.drew.alloc o).alloc o').cell? ⟨g3, 0, none⟩ = some (.slice A xs.length c) := fun o o' => (Blk.alloc (Blk.alloc (Blk.drew k3) o) o').cell_ (j := 0) rfl
  have c1 : wz.cell? ⟨g3, 1, none⟩ = some (fl p) := k3.cell_ (j := 1) rfl
  have d1 : ∀ o, (wz.drew.alloc o).cell? ⟨g3, 1, none⟩ = some (fl p) := fun o => (Blk.alloc (Blk.drew k3) o).cell_ (j := 1) rfl
  have e1 : ∀ o o', ((wz.drew.alloc o).alloc o').cell? ⟨g3, 1, none⟩ = some (fl p) := fun o o' => (Blk.alloc (Blk.alloc (Blk.drew k3) o) o').cell_ (j := 1) rfl
  have c2 : wz.cell? ⟨g3, 2, none⟩ = some (fl v) := k3.cell_ (j := 2) rfl
  have d2 : ∀ o, (wz.drew.alloc o).cell? ⟨g3, 2, none⟩ = some (fl v) := fun o => (Blk.alloc (Blk.drew k3) o).cell_ (j := 2) rfl
  have e2 : ∀ o o', ((wz.drew.alloc o).alloc o').cell? ⟨g3, 2, none⟩ = some (fl v) := fun o o' => (Blk.alloc (Blk.alloc (Blk.drew k3) o) o').cell_ (j := 2) rfl
  have c3 : wz.cell? ⟨g3, 3, none⟩ = some (fl z) := k3.cell_ (j := 3) rfl
  have d3 : ∀ o, (wz.drew.alloc o).cell? ⟨g3, 3, none⟩ = some (fl z) := fun o => (Blk.alloc (Blk.drew k3) o).cell_ (j := 3) rfl
  have e3 : ∀ o o', ((wz.drew.alloc o).alloc o').cell? ⟨g3, 3, none⟩ = some (fl z) := fun o o' => (Blk.alloc (Blk.alloc (Blk.drew k3) o) o').cell_ (j := 3) rfl
  have c4 : wz.cell? ⟨g4, 1, none⟩ = some (fl p') := k4.cell_ (j := 1) rfl
  have d4 : ∀ o, (wz.drew.alloc o).cell? ⟨g4, 1, none⟩ = some (fl p') := fun o => (Blk.alloc (Blk.drew k4) o).cell_ (j := 1) rfl
  have e4 : ∀ o o', ((wz.drew.alloc o).alloc o').cell? ⟨g4, 1, none⟩ = some (fl p') := fun o o' => (Blk.alloc (Blk.alloc (Blk.drew k4) o) o').cell_ (j := 1) rfl
  have c5 : wz.cell? ⟨g4, 2, none⟩ = some (fl v') := k4.cell_ (j := 2) rfl
  have d5 : ∀ o, (wz.drew.alloc o).cell? ⟨g4, 2, none⟩ = some (fl v') := fun o => (Blk.alloc (Blk.drew k4) o).cell_ (j := 2) rfl
  have e5 : ∀ o o', ((wz.drew.alloc o).alloc o').cell? ⟨g4, 2, none⟩ = some (fl v') := fun o o' => (Blk.alloc (Blk.alloc (Blk.drew k4) o) o').cell_ (j := 2) rfl
  have c6 : wz.cell? ⟨g4, 3, none⟩ = some (fl z') := k4.cell_ (j := 3) rfl
  have d6 : ∀ o, (wz.drew.alloc o).cell? ⟨g4, 3, none⟩ = some (fl z') := fun o => (Blk.alloc (Blk.drew k4) o).cell_ (j := 3) rfl
  have e6 : ∀ o o', ((wz.drew.alloc o).alloc o').cell? ⟨g4, 3, none⟩ = some (fl z') := fun o o' => (Blk.alloc (Blk.alloc (Blk.drew k4) o) o').cell_ (j := 3) rfl
  have c7 : wz.cell? ⟨g5, 0, none⟩ = some (fl sh) := k5.cell_ (j := 0) rfl
  have d7 : ∀ o, (wz.drew.alloc o).cell? ⟨g5, 0, none⟩ = some (fl sh) := fun o => (Blk.alloc (Blk.drew k5) o).cell_ (j := 0) rfl
  have e7 : ∀ o o', ((wz.drew.alloc o).alloc o').cell? ⟨g5, 0, none⟩ = some (fl sh) := fun o o' => (Blk.alloc (Blk.alloc (Blk.drew k5) o) o').cell_ (j := 0) rfl
  have K3 := Lib.hid k3; have K4 := Lib.hid k4; have K5 := Lib.hid k5; have K6 := Lib.hid k6; have HBz := Lib.hid hbz; clear k3 k4 k5 k6 hbz
  have zz' : wz.heap.size = g3 + 4 := by omega
  go_cut [9] from 13 to 35 (fun s9 wx => ∃ g gs, s9 = .pointer (some ⟨g, 0, none⟩) ∧ wz.heap.size ≤ g ∧ wz.heap.size ≤ gs ∧ g ≠ gs ∧ Blk wx g 77 #[.slice (some ⟨gs, 0, none⟩) xs.length xs.length, fl (mixP p p' sh), fl (mixP v v' sh), fl (mixP z z' sh)] ∧ Blk wx gs 29 (madeCells #[.float .f32 0] xs.length) ∧ Below wz.heap.size wz wx)
  case first =>
    go_region_held3 (fun w' => w'.cell? ⟨g5, 0, none⟩ = some (fl sh) ∧ w'.cell? ⟨g4, 3, none⟩ = some (fl z') ∧ w'.cell? ⟨g4, 2, none⟩ = some (fl v') ∧ w'.cell? ⟨g4, 1, none⟩ = some (fl p') ∧ w'.cell? ⟨g3, 3, none⟩ = some (fl z) ∧ w'.cell? ⟨g3, 2, none⟩ = some (fl v) ∧ w'.cell? ⟨g3, 1, none⟩ = some (fl p) ∧ w'.cell? ⟨g3, 0, none⟩ = some (.slice A xs.length c)) (go_keep)
      (first
        | (go_at_call_of 174 (fl p); refine (mix1_any p p' sh ⟨g5, 0, none⟩ Hp.out Hp'.out HS.out _ (by first | exact c7 | exact d7 _ | exact e7 _ _)).mono ?_; rintro e w1 ⟨rfl, rfl⟩)
        | (go_at_call_of 174 (fl v); refine (mix1_any v v' sh ⟨g5, 0, none⟩ Hv.out Hv'.out HS.out _ (by first | exact c7 | exact d7 _ | exact e7 _ _)).mono ?_; rintro e w1 ⟨rfl, rfl⟩)
        | (go_at_call_of 174 (fl z); refine (mix1_any z z' sh ⟨g5, 0, none⟩ Hz.out Hz'.out HS.out _ (by first | exact c7 | exact d7 _ | exact e7 _ _)).mono ?_; rintro e w1 ⟨rfl, rfl⟩))
    all_goals (go_wp2_with fail; go_meet)
    all_goals first
      | exact ⟨_, _, rfl, by omega, by omega, by omega, Blk.drew (heap_2' wz _ _ zz'), Blk.drew (heap_21' wz _ _ zz'), (((Below.refl _ _).alloc (Nat.le_refl _) _).alloc (by simp) _).drew⟩
      | exact ⟨_, _, rfl, by omega, by omega, by omega, Blk.drew (heap_21' wz _ _ zz'), Blk.drew (heap_2' wz _ _ zz'), (((Below.refl _ _).alloc (Nat.le_refl _) _).alloc (by simp) _).drew⟩
  case rest =>
    obtain ⟨g, gs, rfl, hg, hgs, hne, hkg, hks, hb⟩ := hcut
    have h0 : filled (mixed xs ys sh) 0 = List.replicate xs.length 0 := by rw [filled_0, HML.out]
    have hrow : wc.ownsRow wz.heap.size 29 1 (.slice (some ⟨gs, 0, none⟩) xs.length xs.length) xs.length ((filled (mixed xs ys sh) 0).map fl) := by
      rw [h0, ← madeF]
      refine Blk.own ?_ hgs (by simp [madeCells]) (by unfold maxLen; omega)
      rw [Nat.mul_one]
      exact hks
    have HR0 := Lib.hid hrow; have HG0 := Lib.hid hkg; have HB0 := Lib.hid hb; clear h0 hrow hks hkg hb c0 c1 c2 c3 c4 c5 c6 c7 d0 d1 d2 d3 d4 d5 d6 d7 e0 e1 e2 e3 e4 e5 e6 e7 hmk
    have x0 : wc.cell? ⟨g3, 0, none⟩ = some (.slice A xs.length c) := (K3.out.below' HB0.out (by omega)).cell_ (j := 0) rfl
    have n5 : ¬ gs = g5 := by omega
    have n4 : ¬ gs = g4 := by omega
    have ng : ¬ gs = g := fun e => hne e.symm
    go_wp2_with fail
    go_loopw [39] (fun i wr => ∃ k : Nat, k ≤ xs.length ∧ i = .int .i64 k ∧ wr.ownsRow wz.heap.size 29 1 (.slice (some ⟨gs, 0, none⟩) xs.length xs.length) xs.length ((filled (mixed xs ys sh) k).map fl) ∧ Blk wr g 77 #[.slice (some ⟨gs, 0, none⟩) xs.length xs.length, fl (mixP p p' sh), fl (mixP v v' sh), fl (mixP z z' sh)] ∧ Below wz.heap.size wz wr) (fun i _ => xs.length - (intOf i).toNat)
    case atStart => exact ⟨0, Nat.zero_le _, rfl, HR0.out, HG0.out, HB0.out⟩
    case round =>
      obtain ⟨k, hk, rfl, hown, hkg, hb⟩ := hrel
      have hsz := hb.size
      have HR := Lib.hid hown; have HB := Lib.hid hb; have HG := Lib.hid hkg; clear hown hb hkg x0
      have hbw := HBz.out.trans (HB.out.mono (by omega))
      by_cases hlt : k < xs.length
      · have hlt2 : k < ys.length := by rw [← HL.out]; exact hlt
        obtain ⟨ax, hAx, bx, hcx⟩ := (HX.out.below' hbw hB).cell hlt
        obtain ⟨ay, hAy, b_y, hcy⟩ := (HY.out.below' hbw hB).cell hlt2
        subst hAx; subst hAy
        have s5 : wr.cell? ⟨g5, 0, none⟩ = some (fl sh) := (K5.out.below' HB.out (by omega)).cell_ (j := 0) rfl
        have s4 : wr.cell? ⟨g4, 0, none⟩ = some (.slice (some ay) ys.length c') := (K4.out.below' HB.out (by omega)).cell_ (j := 0) rfl
        have s9 : wr.cell? ⟨g, 0, none⟩ = some (.slice (some ⟨gs, 0, none⟩) xs.length xs.length) := HG.out.cell_ (j := 0) rfl
        have hcy' : ∀ u, (wr.setCell ⟨gs, k, none⟩ u).cell? (ay.add k) = some (fl ys[k]) := fun u => (World.cell?_setCell_other wr _ (ay.add k) u (fun e => by have := congrArg Addr.block e; rw [add_block] at this; simp at this; omega)).trans hcy
        have hfl := filled_len (mixed xs ys sh) k
        have hml := HML.out
        obtain ⟨v0, hc1⟩ : ∃ v0, wr.cell? ⟨gs, k, none⟩ = some v0 :=
          ⟨fl ((filled (mixed xs ys sh) k)[k]'(by omega)), by rw [World.ownsRow.cellAt HR.out k (by omega), List.getElem?_map, List.getElem?_eq_getElem (by omega)]; rfl⟩
        have hf1 : wr.frozen? ⟨gs, k, none⟩ = false := World.ownsRow.frozenAt HR.out k
        have hst := (World.ownsRow.stored HR.out k (fl (mixP xs[k] ys[k] sh))).1
        rw [← List.map_set, ← mixed_get (by omega) hlt hlt2, filled_step _ k (by omega), mixed_get (by omega) hlt hlt2] at hst
        have HSt := Lib.hid hst; clear hst hfl hml
        have hbs : Below wz.heap.size wz (wr.setCell ⟨gs, k, none⟩ (fl (mixP xs[k] ys[k] sh))) := HB.out.setCell (by simp; omega) _
        have hgs' : Blk (wr.setCell ⟨gs, k, none⟩ (fl (mixP xs[k] ys[k] sh))) g 77 _ := HG.out.far (by simp; omega)
        have HBs := Lib.hid hbs; have HGs := Lib.hid hgs'; clear hbs hgs' hbw
        go_wp2_with fail
        go_region_held3 (fun w' => w'.cell? ⟨g5, 0, none⟩ = some (fl sh) ∧ w'.cell? ⟨g4, 0, none⟩ = some (.slice (some ay) ys.length c') ∧ w'.cell? ⟨g, 0, none⟩ = some (.slice (some ⟨gs, 0, none⟩) xs.length xs.length) ∧ w'.cell? (ay.add k) = some (fl ys[k])) (go_keep)
          (first
            | (go_at_call 174; refine (mix1_any xs[k] ys[k] sh ⟨g5, 0, none⟩ (H1.out _ (List.getElem_mem hlt)) (H2.out _ (List.getElem_mem hlt2)) HS.out wr.drew s5).mono ?_; rintro e w1 ⟨rfl, rfl⟩))
        go_wp2_with fail
        go_roundw
        case rel => exact ⟨k + 1, by omega, by go_num, HSt.out, HGs.out, HBs.out.drew⟩
        case measure => simp [intOf]; omega
      · have hkn : k = xs.length := by omega
        have hfin : OwnF wr wz.heap.size (.slice (some ⟨gs, 0, none⟩) (mixed xs ys sh).length xs.length) (mixed xs ys sh) := by
          have h := HR.out
          rw [filled_end _ _ (by rw [HML.out]; omega)] at h
          unfold OwnF; rw [HML.out]; exact h
        have hfs : Fs wr wr.heap.size (some ⟨gs, 0, none⟩) (mixed xs ys sh) := by
          obtain ⟨A', c', e, h⟩ := hfin.reads
          injection e with e1 _ _
          rw [e1]; exact h
        have gv := checkedFrame_any (some ⟨gs, 0, none⟩) xs.length (mixP p p' sh) (mixP v v' sh) (mixP z z' sh) (mixed xs ys sh) wr _ (Nat.le_refl _) hfs (by rw [HML.out]; omega)
        have s0 : wr.cell? ⟨g, 0, none⟩ = some (.slice (some ⟨gs, 0, none⟩) xs.length xs.length) := HG.out.cell_ (j := 0) rfl
        have s1 : wr.cell? ⟨g, 1, none⟩ = some (fl (mixP p p' sh)) := HG.out.cell_ (j := 1) rfl
        have s2 : wr.cell? ⟨g, 2, none⟩ = some (fl (mixP v v' sh)) := HG.out.cell_ (j := 2) rfl
        have s3 : wr.cell? ⟨g, 3, none⟩ = some (fl (mixP z z' sh)) := HG.out.cell_ (j := 3) rfl
        have HF := Lib.hid hfin; clear hfin hfs
        rw [HML.out] at gv
        have GV := Lib.hid gv; have HBW := Lib.hid hbw; clear gv hkn hbw
        go_wp2_with fail
        refine GV.out.mono ?_
        rintro e w1 ⟨he, hb1⟩
        subst he
        have z1 := hb1.size
        have k6 := (K6.out.below' HB.out (by omega)).below hb1
        have q0 : w1.cell? ⟨g6, 0, none⟩ = some (.slice none 0 0) := k6.cell_ (j := 0) rfl
        have q1 : w1.cell? ⟨g6, 1, none⟩ = some (fl 0) := k6.cell_ (j := 1) rfl
        have q2 : w1.cell? ⟨g6, 2, none⟩ = some (fl 0) := k6.cell_ (j := 2) rfl
        have q3 : w1.cell? ⟨g6, 3, none⟩ = some (fl 0) := k6.cell_ (j := 3) rfl
        have qf := k6.froz
        have hbf : Below w.heap.size w w1 := HBW.out.trans (hb1.mono (by omega))
        have HOf := Lib.hid (HF.out.below hb1); have HBf := Lib.hid hbf; clear hb1 k6 hbf
        have o6 : w.heap.size ≤ g6 := by omega
        have o6' : g6 < wz.heap.size := by omega
        cases hok : frmOk (mixed xs ys sh) (mixP p p' sh) (mixP v v' sh) (mixP z z' sh)
        · rw [frmRet_no hok]
          have HK := Lib.hid (frmRet_no (A := some ⟨gs, 0, none⟩) (c := xs.length) hok); clear hok
          go_wp2_with fail
          refine bodyPost_ret (v := .tuple #[zeroFrm, .bool false]) ?_ rfl ⟨some ⟨gs, 0, none⟩, xs.length, by rw [HK.out], ?_, ?_⟩
          · simp [results, Try.results149, go_sem, q0, q1, q2, q3]
          · exact OwnF.less (base := wz.heap.size) (.set_ (.set_ (.set_ (.set_ HOf.out (by simp; omega)) (by simp; omega)) (by simp; omega)) (by simp; omega)) (by omega)
          · exact (((HBf.out.setCell (by simp; omega) _).setCell (by simp; omega) _).setCell (by simp; omega) _).setCell (by simp; omega) _
        · rw [frmRet_yes hok]
          have HK := Lib.hid (frmRet_yes (A := some ⟨gs, 0, none⟩) (c := xs.length) hok); clear hok
          go_wp2_with fail
          refine bodyPost_ret (v := .tuple #[.agg #[.slice (some ⟨gs, 0, none⟩) (mixed xs ys sh).length xs.length, fl (mixP p p' sh), fl (mixP v v' sh), fl (mixP z z' sh)], .bool true]) ?_ rfl ⟨some ⟨gs, 0, none⟩, xs.length, by rw [HK.out], ?_, ?_⟩
          · simp [results, Try.results149, go_sem, q0, q1, q2, q3]
          · exact OwnF.less (base := wz.heap.size) (.set_ (.set_ (.set_ (.set_ HOf.out (by simp; omega)) (by simp; omega)) (by simp; omega)) (by simp; omega)) (by omega)
          · exact (((HBf.out.setCell (by simp; omega) _).setCell (by simp; omega) _).setCell (by simp; omega) _).setCell (by simp; omega) _
end Go.Proofs.Ythmkbgiandncnaa
