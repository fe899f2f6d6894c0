/- The frame at a time: the reference's. -/
import Derived.Test.YthmkbgiandncnaaFrP
import Derived.Test.YthmkbgiandncnaaMxF
namespace Go.Proofs.Ythmkbgiandncnaa
open Go.RowKit

theorem sub_run {t l : Nat} (ht : nanB .f32 t = false) (hl : fin32 l = true) : (∀ w, (binOp .sub 29 (.float .f32 t) (.float .f32 l)).run Try.prog w = .ok (.float .f32 (sub32 t l)) w) ∧ nanB .f32 (sub32 t l) = false := by
  obtain ⟨r, h, e, hn⟩ := sub_num' ht hl
  rw [e]
  exact ⟨fun w => run_float_arith w _ _ _ _ _ _ h, hn⟩
theorem div_run {t p : Nat} (ht : nanB .f32 t = false) (hp : fin32 p = true) (h : ltF .f32 t p = true) : (∀ w, (binOp .quo 29 (.float .f32 t) (.float .f32 p)).run Try.prog w = .ok (.float .f32 (div32 t p)) w) ∧ nanB .f32 (div32 t p) = false := by
  obtain ⟨r, h, e, hn⟩ := div_num' ht hp h
  rw [e]
  exact ⟨fun w => run_float_arith w _ _ _ _ _ _ h, hn⟩

theorem giveD_any (F : Frd) (A : Option Addr) (c : Nat) (w : World) (base : Nat) (h : OwnF w base (.slice A F.xs.length c) F.xs) (hm : F.xs.length ≤ 1048576) :
    Calls Try.prog 145 #[F.val A c] w fun e w' => ∃ A' c', e = .returned (.tuple #[F.res.val A' c', .bool F.ok]) ∧ OwnF w' base (.slice A' F.res.xs.length c') F.res.xs ∧ Below w.heap.size w w' := by
  obtain ⟨A', c', e, hx⟩ := h.reads
  injection e with e1 _ _
  subst e1
  refine (l06GiveFrame_any A c F.p F.v F.z F.xs w _ (Nat.le_refl _) hx hm).mono ?_
  rintro e w' ⟨rfl, hb⟩
  obtain ⟨A2, c2, h1, h2⟩ := frd_ret h
  exact ⟨A2, c2, by rw [h1], h2.below hb, hb⟩

set_option maxRecDepth 20000 in
set_option maxHeartbeats 8000000 in
theorem l06At_any (A A' A2 : Option Addr) (c c' c2 : Nat) (ss : List Snd) (ms : List ByteArray) (ls : List Nat) (t : Nat) (w : World) (B : Nat) (hB : B ≤ w.heap.size) (hx : Snds w B A ss) (hy : Strs w B A' ms) (hz : Fs w B A2 ls) (hm : ss.length ≤ 1048576) (hm2 : ms.length ≤ 1048576)
    (hok : namesOk ss ms = true) (hls : ls.length = ms.length) (ht : least t = true) (hab : ls.all above = true) :
    Calls Try.prog 106 #[.slice A ss.length c, .slice A' ms.length c', .slice A2 ls.length c2, fl t] w fun e w' => ∃ A1 c1, e = .returned (.tuple #[(frdAt ss ms ls t).res.val A1 c1, .bool (frdAt ss ms ls t).ok]) ∧ OwnF w' w.heap.size (.slice A1 (frdAt ss ms ls t).res.xs.length c1) (frdAt ss ms ls t).res.xs ∧ Below w.heap.size w w' := by
  have h1m : 1 ≤ ms.length := by
    unfold namesOk inI at hok
    simp only [Bool.and_eq_true, decide_eq_true_eq] at hok
    omega
  have htn : nanB .f32 t = false := by unfold least at ht; simp only [Bool.and_eq_true] at ht; exact fin32_num ht.1
  have HX := Lib.hid hx; have HY := Lib.hid hy; have HZ := Lib.hid hz; have HOk := Lib.hid hok; have HQ := Lib.hid hls; have HT := Lib.hid htn; have HAb := Lib.hid hab; clear hx hy hz hok hls ht htn hab
  go_enter Try.func106, Try.ntmps106
  go_wp2_with fail
  generalize hwz : World.alloc w _ = wz
  have zz : wz.heap.size = w.heap.size + 1 := by rw [← hwz]; simp
  have hbz : Below w.heap.size w wz := by rw [← hwz]; exact bl_a _ _
  have hk0 : Blk wz w.heap.size 77 #[.slice none 0 0, fl 0, fl 0, fl 0] := by rw [← hwz]; exact heap_1 _ _
  clear hwz
  have HBz := Lib.hid hbz; have HK0 := Lib.hid hk0; clear hbz hk0
  go_loop [3, 10] (fun tv i => ∃ k tm : Nat, k < ms.length ∧ i = .int .i64 k ∧ tv = fl tm ∧ nanB .f32 tm = false ∧ seekF ls ms.length (ms.length - k) k tm = seekF ls ms.length ms.length 0 t) (fun _ i => ms.length - (intOf i).toNat)
  case atStart => exact ⟨0, t, by omega, rfl, rfl, HT.out, rfl⟩
  case round =>
    obtain ⟨k, tm, hk, rfl, rfl, hnn, hseek⟩ := hrel
    have hkl : k < ls.length := by rw [HQ.out]; exact hk
    obtain ⟨al, hAl, _, hcl⟩ := (HZ.out.below' HBz.out hB).cell hkl
    obtain ⟨am, hAm, _, hcm⟩ := (HY.out.below' HBz.out hB).cell hk
    subst hAl; subst hAm
    have hfl : fin32 ls[k] = true := above_fin1 (List.all_eq_true.1 HAb.out _ (List.getElem_mem hkl))
    by_cases hgo : k + 1 < ms.length ∧ leF .f32 ls[k] tm = true
    · obtain ⟨hg1, hg2⟩ := hgo
      obtain ⟨hr, hn2⟩ := sub_run hnn hfl
      have HN := Lib.hid hn2; have HSk := Lib.hid (seek_step hkl hg1 hg2); have HSe := Lib.hid hseek; clear hn2 hseek hfl hcm
      have hl1 : (k : Int) < (ms.length : Int) - 1 := by omega
      go_wp2_with fail
      go_round
      case rel => exact ⟨k + 1, _, by omega, by go_num, rfl, HN.out, by rw [← HSk.out]; exact HSe.out⟩
      case measure => simp [intOf]; omega
    · have hstop := hseek.symm.trans (seek_stop hkl (Decidable.not_and_iff_or_not.1 hgo |>.imp_right (fun h => Bool.eq_false_iff.2 h)))
      have hfr : frdAt ss ms ls t = frdFrom ss ms k tm := by unfold frdAt; rw [hstop]
      have HFr := Lib.hid hfr
      clear hstop hfr hseek hfl
      obtain ⟨j, hj, he⟩ := has_at HOk.out hk
      obtain ⟨ads, hAs, hadB, hat, hin⟩ := (HX.out.below' HBz.out hB).at_ hj
      obtain ⟨_, _, _, a3, _, _⟩ := cells_at hat
      subst hAs
      have hsok := ok_at (names_ok HOk.out) (List.getElem_mem hj)
      obtain ⟨p1, p2, p3, p4⟩ := ok_parts hsok
      have hpos := (ok_fin hsok).2.2
      have hxm := hin.2.1
      have HE := Lib.hid he; have HAt := Lib.hid hat; have HIn := Lib.hid hin; have HN := Lib.hid hnn; have HP := Lib.hid p1; have HR := Lib.hid p2; have HV := Lib.hid p3; have HNo := Lib.hid p4; clear he hat hin hnn p1 p2 p3 p4 hsok
      have hcond : (((k : Int) < (ms.length : Int) - 1) ∧ leF .f32 ls[k] tm = false) ∨ ¬ ((k : Int) < (ms.length : Int) - 1) := by
        by_cases h1 : (k : Int) < (ms.length : Int) - 1
        · left; refine ⟨h1, ?_⟩
          cases h2 : leF .f32 ls[k] tm
          · rfl
          · exact absurd ⟨by omega, h2⟩ hgo
        · exact .inr h1
      clear hgo
      rcases hcond with ⟨hc1, hc2⟩ | hc1
      all_goals
        go_wp2_with fail
        refine (l06Find_any (some ads) c ss ms[k] wz B (HX.out.below' HBz.out hB) hm).mono ?_
        rintro e w' ⟨rfl, rfl⟩
        rw [HE.out]
        go_wp2_with fail
        refine (l06Of_any ss[j] 0 (ads.add (j * 6)) wz B (by omega) (by rw [add_block]; exact hadB) HAt.out HIn.out hpos).mono ?_
        rintro e w1 ⟨A1, c1, rfl, hown, hb⟩
        have z1 := hb.size
        have r3 : w1.cell? ⟨(ads.add (j * 6)).block, (ads.add (j * 6)).off + 3, none⟩ = some (fl ss[j].ramp) := (hb.cell (by show (ads.add (j * 6)).block < _; rw [add_block]; omega)).trans a3
        have r3o : ∀ o, (w1.alloc o).cell? ⟨(ads.add (j * 6)).block, (ads.add (j * 6)).off + 3, none⟩ = some (fl ss[j].ramp) := fun o => (World.cell?_alloc_lt w1 o ⟨(ads.add (j * 6)).block, (ads.add (j * 6)).off + 3, none⟩ (by show (ads.add (j * 6)).block < _; rw [add_block]; omega)).trans r3
        have HO := Lib.hid hown; have HB1 := Lib.hid hb; clear hown hb
        cases hlt : ltF .f32 tm ss[j].ramp
        · have HF2 := Lib.hid (HFr.out.trans (frdFrom_plain hk hj HE.out (.inr hlt)))
          by_cases hk0 : 0 < k
          · have hk0' : (0 : Int) < (k : Int) := by omega
            have GV := Lib.hid (giveD_any ss[j].frd A1 c1 (w1.alloc (.cells #[.slice A1 ss[j].xs.length c1, fl 0, fl ss[j].voice, fl ss[j].noise] 77)) wz.heap.size (HO.out.alloc _) hxm)
            go_wp2_with fail
            refine GV.out.mono ?_
            rintro e w2 ⟨A2, c2', rfl, hown2, hb2⟩
            unfold Frd.val
            have z2 := hb2.size
            have hbw := (HBz.out.trans (HB1.out.mono (by omega))).trans (((Below.refl _ w1).alloc (by omega) _).trans (hb2.mono (by simp; omega)))
            have k0 := ((HK0.out.below HB1.out).alloc _).below hb2
            have q0 : w2.cell? ⟨w.heap.size, 0, none⟩ = some (.slice none 0 0) := k0.cell_ (j := 0) rfl
            have q1 : w2.cell? ⟨w.heap.size, 1, none⟩ = some (fl 0) := k0.cell_ (j := 1) rfl
            have q2 : w2.cell? ⟨w.heap.size, 2, none⟩ = some (fl 0) := k0.cell_ (j := 2) rfl
            have q3 : w2.cell? ⟨w.heap.size, 3, none⟩ = some (fl 0) := k0.cell_ (j := 3) rfl
            have qf := k0.froz
            have HBw := Lib.hid hbw; have HO2 := Lib.hid hown2; clear hbw hown2 hb2 k0 GV
            go_wp2_with fail
            refine bodyPost_ret (v := .tuple #[.agg #[.slice A2 ss[j].frd.res.xs.length c2', fl ss[j].frd.res.p, fl ss[j].frd.res.v, fl ss[j].frd.res.z], .bool ss[j].frd.ok]) ?_ rfl ⟨A2, c2', by rw [HF2.out]; rfl, ?_, ?_⟩
            · simp [results, Try.results106, go_sem, q0, q1, q2, q3]
            · rw [HF2.out]; exact OwnF.less (base := wz.heap.size) (.set_ (.set_ (.set_ (.set_ HO2.out (by simp; omega)) (by simp; omega)) (by simp; omega)) (by simp; omega)) (by omega)
            · exact (((HBw.out.setCell (by simp) _).setCell (by simp) _).setCell (by simp) _).setCell (by simp) _
          · have hk0' : ¬ (0 : Int) < (k : Int) := by omega
            have GV := Lib.hid (giveD_any ss[j].frd A1 c1 (w1.alloc (.cells #[.slice A1 ss[j].xs.length c1, fl 0, fl ss[j].voice, fl ss[j].noise] 77)) wz.heap.size (HO.out.alloc _) hxm)
            go_wp2_with fail
            refine GV.out.mono ?_
            rintro e w2 ⟨A2, c2', rfl, hown2, hb2⟩
            unfold Frd.val
            have z2 := hb2.size
            have hbw := (HBz.out.trans (HB1.out.mono (by omega))).trans (((Below.refl _ w1).alloc (by omega) _).trans (hb2.mono (by simp; omega)))
            have k0 := ((HK0.out.below HB1.out).alloc _).below hb2
            have q0 : w2.cell? ⟨w.heap.size, 0, none⟩ = some (.slice none 0 0) := k0.cell_ (j := 0) rfl
            have q1 : w2.cell? ⟨w.heap.size, 1, none⟩ = some (fl 0) := k0.cell_ (j := 1) rfl
            have q2 : w2.cell? ⟨w.heap.size, 2, none⟩ = some (fl 0) := k0.cell_ (j := 2) rfl
            have q3 : w2.cell? ⟨w.heap.size, 3, none⟩ = some (fl 0) := k0.cell_ (j := 3) rfl
            have qf := k0.froz
            have HBw := Lib.hid hbw; have HO2 := Lib.hid hown2; clear hbw hown2 hb2 k0 GV
            go_wp2_with fail
            refine bodyPost_ret (v := .tuple #[.agg #[.slice A2 ss[j].frd.res.xs.length c2', fl ss[j].frd.res.p, fl ss[j].frd.res.v, fl ss[j].frd.res.z], .bool ss[j].frd.ok]) ?_ rfl ⟨A2, c2', by rw [HF2.out]; rfl, ?_, ?_⟩
            · simp [results, Try.results106, go_sem, q0, q1, q2, q3]
            · rw [HF2.out]; exact OwnF.less (base := wz.heap.size) (.set_ (.set_ (.set_ (.set_ HO2.out (by simp; omega)) (by simp; omega)) (by simp; omega)) (by simp; omega)) (by omega)
            · exact (((HBw.out.setCell (by simp) _).setCell (by simp) _).setCell (by simp) _).setCell (by simp) _
        by_cases hk0 : 0 < k
        · obtain ⟨q, rfl⟩ : ∃ q, k = q + 1 := ⟨k - 1, by omega⟩
          have hk0' : (0 : Int) < ((q + 1 : Nat) : Int) := by omega
          have hq : q < ms.length := by omega
          obtain ⟨i, hi, hei⟩ := has_at HOk.out hq
          have hF := Lib.hid (HFr.out.trans (frdFrom_mix (t := tm) hk (show q + 1 - 1 < ms.length by omega) hj HE.out hi (by simpa using hei) (by omega) hlt))
          have hsoki := ok_at (names_ok HOk.out) (List.getElem_mem hi)
          obtain ⟨i1, _, i3, i4⟩ := ok_parts hsoki
          have hposi := (ok_fin hsoki).2.2
          obtain ⟨hdiv, hdn⟩ := div_run HN.out HR.out hlt
          have HI1 := Lib.hid i1; have HI3 := Lib.hid i3; have HI4 := Lib.hid i4; have HEi := Lib.hid hei; have HDn := Lib.hid hdn; clear i1 i3 i4 hei hdn hsoki
          obtain ⟨am', hAm', bm, hcq⟩ := (HY.out.below' (HBz.out.trans (HB1.out.mono (show w.heap.size ≤ wz.heap.size by omega))) hB).cell hq
          injection hAm' with hAm'
          subst hAm'
          have hcqo : ∀ o, (w1.alloc o).cell? (am.add q) = some (st ms[q]) := fun o => (World.cell?_alloc_lt w1 o (am.add q) (by rw [add_block]; omega)).trans hcq
          have HX1 := Lib.hid (fun o => (HX.out.below' (HBz.out.trans (HB1.out.mono (show w.heap.size ≤ wz.heap.size by omega))) hB).alloc (show B ≤ w1.heap.size by omega) o)
          go_wp2_with fail
          refine (l06Find_any (some ads) c ss ms[q] _ B (HX1.out _) hm).mono ?_
          rintro e w' ⟨rfl, rfl⟩
          rw [HEi.out]
          generalize hw2 : World.alloc w1 _ = w2
          have z2 : w2.heap.size = w1.heap.size + 1 := by rw [← hw2]; simp
          have hb2 : Below w1.heap.size w1 w2 := by rw [← hw2]; exact bl_a _ _
          have hk2 : Blk w2 w1.heap.size 77 #[.slice A1 ss[j].xs.length c1, fl 0, fl ss[j].voice, fl ss[j].noise] := by rw [← hw2]; exact heap_1 _ _
          have hx2 : Snds w2 B (some ads) ss := by rw [← hw2]; exact HX1.out _
          have hr2 : w2.cell? ⟨(ads.add (j * 6)).block, (ads.add (j * 6)).off + 3, none⟩ = some (fl ss[j].ramp) := by rw [← hw2]; exact r3o _
          have ho2 := HO.out.below hb2
          clear hw2 r3o hcqo hcq
          obtain ⟨ads', hAs', hadB', hat2, hin2⟩ := hx2.at_ hi
          injection hAs' with hAs'
          subst hAs'
          have hxi := hin2.2.1
          have hbw2 := (HBz.out.trans (HB1.out.mono (show w.heap.size ≤ wz.heap.size by omega))).trans (hb2.mono (show w.heap.size ≤ w1.heap.size by omega))
          have k02 := (HK0.out.below HB1.out).below hb2
          have HK2 := Lib.hid hk2; have HX2 := Lib.hid hx2; have HO2 := Lib.hid ho2; have HBw2 := Lib.hid hbw2; have HK02 := Lib.hid k02; clear hk2 hx2 ho2 hbw2 k02 hb2
          go_wp2_with fail
          refine (l06Of_any ss[i] 0 (ads.add (i * 6)) w2 B (by omega) (by rw [add_block]; exact hadB) hat2 hin2 hposi).mono ?_
          rintro e w3 ⟨A3, c3, rfl, hown3, hb3⟩
          clear hat2 hin2
          have z3 := hb3.size
          have hr3 : w3.cell? ⟨(ads.add (j * 6)).block, (ads.add (j * 6)).off + 3, none⟩ = some (fl ss[j].ramp) := (hb3.cell (by show (ads.add (j * 6)).block < _; rw [add_block]; omega)).trans hr2
          have hr3o : ∀ o, (w3.alloc o).cell? ⟨(ads.add (j * 6)).block, (ads.add (j * 6)).off + 3, none⟩ = some (fl ss[j].ramp) := fun o => (World.cell?_alloc_lt w3 o ⟨(ads.add (j * 6)).block, (ads.add (j * 6)).off + 3, none⟩ (by show (ads.add (j * 6)).block < _; rw [add_block]; omega)).trans hr3
          have HO3 := Lib.hid hown3; have HB3 := Lib.hid hb3; clear hown3 hb3
          go_wp2_with fail
          refine (l06Ramp_any _ HDn.out _).mono ?_
          rintro e w' ⟨rfl, rfl⟩
          generalize hw4 : World.alloc w3 _ = w4
          have z4 : w4.heap.size = w3.heap.size + 1 := by rw [← hw4]; simp
          have hb4 : Below w3.heap.size w3 w4 := by rw [← hw4]; exact bl_a _ _
          have hk4 : Blk w4 w3.heap.size 77 #[.slice A3 ss[i].xs.length c3, fl 0, fl ss[i].voice, fl ss[i].noise] := by rw [← hw4]; exact heap_1 _ _
          clear hw4 hr3o hr3 hr2
          have hk42 := (HK2.out.below HB3.out).below hb4
          have hf3 : Fs w4 w4.heap.size A3 ss[i].xs := by
            obtain ⟨A', c', e, h⟩ := HO3.out.reads
            injection e with e1 _ _
            rw [e1]; exact (h.below hb4).more (by omega)
          have hf1 : Fs w4 w4.heap.size A1 ss[j].xs := by
            obtain ⟨A', c', e, h⟩ := HO2.out.reads
            injection e with e1 _ _
            rw [e1]; exact ((h.below HB3.out).below' hb4 (by omega)).more (by omega)
          have hlen := ok_len (names_ok HOk.out) hi hj
          have GM := Lib.hid (l06Mix_any w3.heap.size w1.heap.size A3 A1 c3 c1 0 ss[i].voice ss[i].noise 0 ss[j].voice ss[j].noise ss[i].xs ss[j].xs (rampP (div32 tm ss[j].ramp)) w4 _ (Nat.le_refl _) hk4 hk42 hf3 hf1 hlen hxi HI1.out HP.out (ramp_fin HDn.out) zero_nonneg zero_nonneg HI3.out HV.out HI4.out HNo.out)
          have hbw4 := HBw2.out.trans ((HB3.out.mono (show w.heap.size ≤ w2.heap.size by omega)).trans (hb4.mono (show w.heap.size ≤ w3.heap.size by omega)))
          have k04 := (HK02.out.below HB3.out).below hb4
          have HK42 := Lib.hid hk42; have HBw4 := Lib.hid hbw4; have HK04 := Lib.hid k04; have HL := Lib.hid hlen; clear hk42 hbw4 k04 hk4 hf3 hf1 hb4 hlen
          go_wp2_with fail
          refine GM.out.mono ?_
          rintro e w5 ⟨A5, c5, rfl, hown5, hb5⟩
          have z5 := hb5.size
          have k5 := HK42.out.below hb5
          have f0 : w5.cell? ⟨w1.heap.size, 0, none⟩ = some (.slice A1 ss[j].xs.length c1) := k5.cell_ (j := 0) rfl
          have f1 : w5.cell? ⟨w1.heap.size, 1, none⟩ = some (fl 0) := k5.cell_ (j := 1) rfl
          have f2 : w5.cell? ⟨w1.heap.size, 2, none⟩ = some (fl ss[j].voice) := k5.cell_ (j := 2) rfl
          have f3 : w5.cell? ⟨w1.heap.size, 3, none⟩ = some (fl ss[j].noise) := k5.cell_ (j := 3) rfl
          have ff := k5.froz
          have k05 := HK04.out.below hb5
          obtain ⟨F, hFF⟩ : ∃ F, F = mixD ss[i].frd ss[j].frd (rampP (div32 tm ss[j].ramp)) := ⟨_, rfl⟩
          have hFl : F.xs.length = ss[i].xs.length := by rw [hFF]; exact mixed_len HL.out _
          have hown5' : OwnF w5 w4.heap.size (.slice A5 F.xs.length c5) F.xs := by rw [hFl, hFF]; exact hown5
          have HBw5 := Lib.hid (HBw4.out.trans (hb5.mono (show w.heap.size ≤ w4.heap.size by omega)))
          have hob := OwnF.set_ (OwnF.set_ (OwnF.set_ (OwnF.set_ hown5' (a := ⟨w1.heap.size, 0, none⟩) (show w1.heap.size < w4.heap.size by omega) (u := .slice A5 ss[i].xs.length c5)) (a := ⟨w1.heap.size, 1, none⟩) (show w1.heap.size < w4.heap.size by omega) (u := fl F.p)) (a := ⟨w1.heap.size, 2, none⟩) (show w1.heap.size < w4.heap.size by omega) (u := fl F.v)) (a := ⟨w1.heap.size, 3, none⟩) (show w1.heap.size < w4.heap.size by omega) (u := fl F.z)
          have GV := Lib.hid (giveD_any F A5 c5 _ w4.heap.size hob (by omega))
          have hne : w.heap.size ≠ w1.heap.size := by omega
          have k06 := Blk.far (Blk.far (Blk.far (Blk.far k05 (a := ⟨w1.heap.size, 0, none⟩) (u := .slice A5 ss[i].xs.length c5) hne) (a := ⟨w1.heap.size, 1, none⟩) (u := fl F.p) hne) (a := ⟨w1.heap.size, 2, none⟩) (u := fl F.v) hne) (a := ⟨w1.heap.size, 3, none⟩) (u := fl F.z) hne
          have e1 : mixP 0 0 (rampP (div32 tm ss[j].ramp)) = F.p := by rw [hFF]; rfl
          have e2 : mixP ss[i].voice ss[j].voice (rampP (div32 tm ss[j].ramp)) = F.v := by rw [hFF]; rfl
          have e3 : mixP ss[i].noise ss[j].noise (rampP (div32 tm ss[j].ramp)) = F.z := by rw [hFF]; rfl
          rw [e1, e2, e3]
          have HF2 := Lib.hid (hF.out.trans hFF.symm)
          have HK06 := Lib.hid k06; have HFl := Lib.hid hFl
          clear k5 k05 k06 hown5 hown5' hob hb5 e1 e2 e3 hFF hFl GM
          unfold Frd.val at GV
          rw [HFl.out] at GV
          go_wp2_with fail
          refine GV.out.mono ?_
          rintro e w6 ⟨A2, c2', rfl, hown6, hb6⟩
          have z6 := hb6.size
          have k0 := HK06.out.below hb6
          have q0 : w6.cell? ⟨w.heap.size, 0, none⟩ = some (.slice none 0 0) := k0.cell_ (j := 0) rfl
          have q1 : w6.cell? ⟨w.heap.size, 1, none⟩ = some (fl 0) := k0.cell_ (j := 1) rfl
          have q2 : w6.cell? ⟨w.heap.size, 2, none⟩ = some (fl 0) := k0.cell_ (j := 2) rfl
          have q3 : w6.cell? ⟨w.heap.size, 3, none⟩ = some (fl 0) := k0.cell_ (j := 3) rfl
          have qf := k0.froz
          have hbw6 : Below w.heap.size w w6 := ((((HBw5.out.setCell (by simp; omega) _).setCell (by simp; omega) _).setCell (by simp; omega) _).setCell (by simp; omega) _).trans (hb6.mono (by simp; omega))
          have HBw6 := Lib.hid hbw6; have HO6 := Lib.hid hown6; clear hbw6 hown6 hb6 k0 GV f0 f1 f2 f3 ff
          go_wp2_with fail
          refine bodyPost_ret (v := .tuple #[.agg #[.slice A2 F.res.xs.length c2', fl F.res.p, fl F.res.v, fl F.res.z], .bool F.ok]) ?_ rfl ⟨A2, c2', by rw [HF2.out]; rfl, ?_, ?_⟩
          · simp [results, Try.results106, go_sem, q0, q1, q2, q3]
          · rw [HF2.out]; exact OwnF.less (base := w4.heap.size) (.set_ (.set_ (.set_ (.set_ HO6.out (by simp; omega)) (by simp; omega)) (by simp; omega)) (by simp; omega)) (by omega)
          · exact (((HBw6.out.setCell (by simp) _).setCell (by simp) _).setCell (by simp) _).setCell (by simp) _
        · have HF2 := Lib.hid (HFr.out.trans (frdFrom_plain hk hj HE.out (.inl (by omega))))
          have hk0' : ¬ (0 : Int) < (k : Int) := by omega
          have GV := Lib.hid (giveD_any ss[j].frd A1 c1 (w1.alloc (.cells #[.slice A1 ss[j].xs.length c1, fl 0, fl ss[j].voice, fl ss[j].noise] 77)) wz.heap.size (HO.out.alloc _) hxm)
          go_wp2_with fail
          refine GV.out.mono ?_
          rintro e w2 ⟨A2, c2', rfl, hown2, hb2⟩
          unfold Frd.val
          have z2 := hb2.size
          have hbw := (HBz.out.trans (HB1.out.mono (by omega))).trans (((Below.refl _ w1).alloc (by omega) _).trans (hb2.mono (by simp; omega)))
          have k0 := ((HK0.out.below HB1.out).alloc _).below hb2
          have q0 : w2.cell? ⟨w.heap.size, 0, none⟩ = some (.slice none 0 0) := k0.cell_ (j := 0) rfl
          have q1 : w2.cell? ⟨w.heap.size, 1, none⟩ = some (fl 0) := k0.cell_ (j := 1) rfl
          have q2 : w2.cell? ⟨w.heap.size, 2, none⟩ = some (fl 0) := k0.cell_ (j := 2) rfl
          have q3 : w2.cell? ⟨w.heap.size, 3, none⟩ = some (fl 0) := k0.cell_ (j := 3) rfl
          have qf := k0.froz
          have HBw := Lib.hid hbw; have HO2 := Lib.hid hown2; clear hbw hown2 hb2 k0 GV
          go_wp2_with fail
          refine bodyPost_ret (v := .tuple #[.agg #[.slice A2 ss[j].frd.res.xs.length c2', fl ss[j].frd.res.p, fl ss[j].frd.res.v, fl ss[j].frd.res.z], .bool ss[j].frd.ok]) ?_ rfl ⟨A2, c2', by rw [HF2.out]; rfl, ?_, ?_⟩
          · simp [results, Try.results106, go_sem, q0, q1, q2, q3]
          · rw [HF2.out]; exact OwnF.less (base := wz.heap.size) (.set_ (.set_ (.set_ (.set_ HO2.out (by simp; omega)) (by simp; omega)) (by simp; omega)) (by simp; omega)) (by omega)
          · exact (((HBw.out.setCell (by simp) _).setCell (by simp) _).setCell (by simp) _).setCell (by simp) _
end Go.Proofs.Ythmkbgiandncnaa
