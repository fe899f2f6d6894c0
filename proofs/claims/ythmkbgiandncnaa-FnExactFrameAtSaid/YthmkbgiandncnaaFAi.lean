/- The frame at a time: the program's. -/
import Derived.Test.YthmkbgiandncnaaFAs
import Derived.Test.YthmkbgiandncnaaMxI
namespace Go.Proofs.Ythmkbgiandncnaa
open Go.RowKit

theorem checkD_any (F : Frd) (A : Option Addr) (c : Nat) (w : World) (base : Nat) (h : OwnF w base (.slice A F.xs.length c) F.xs) (hm : F.xs.length ≤ 1048576) :
    Calls Try.prog 148 #[F.val A c] w fun e w' => ∃ A' c', e = .returned (.tuple #[F.res.val A' c', .bool F.ok]) ∧ OwnF w' base (.slice A' F.res.xs.length c') F.res.xs ∧ Below w.heap.size w w' := by
  obtain ⟨A', c', e, hx⟩ := h.reads
  injection e with e1 _ _
  subst e1
  refine (checkedFrame_any A c F.p F.v F.z F.xs w _ (Nat.le_refl _) hx hm).mono ?_
  rintro e w' ⟨rfl, hb⟩
  obtain ⟨A2, c2, h1, h2⟩ := frd_ret h
  exact ⟨A2, c2, by rw [h1], h2.below hb, hb⟩
theorem mixFramesD_any (A A' : Option Addr) (c c' p v z p' v' z' : Nat) (xs ys : List Nat) (sh : Nat) (w : World) (B : Nat) (hB : B ≤ w.heap.size)
    (hx : Fs w B A xs) (hy : Fs w B A' ys) (hl : xs.length = ys.length) (hm : xs.length ≤ 1048576)
    (h1 : ∀ x ∈ xs, nonneg x) (h2 : ∀ y ∈ ys, nonneg y) (hs : fin32 sh = true) (hp : nonneg p) (hp' : nonneg p') (hv : nonneg v) (hv' : nonneg v') (hz : nonneg z) (hz' : nonneg z') (F : Frd) (hF : F = mixD ⟨xs, p, v, z⟩ ⟨ys, p', v', z'⟩ sh) :
    Calls Try.prog 149 #[.agg #[.slice A xs.length c, fl p, fl v, fl z], .agg #[.slice A' ys.length c', fl p', fl v', fl z'], fl sh] w fun e w' => ∃ A1 c1, e = .returned (.tuple #[.agg #[.slice A1 F.res.xs.length c1, fl F.res.p, fl F.res.v, fl F.res.z], .bool F.ok]) ∧ OwnF w' w.heap.size (.slice A1 F.res.xs.length c1) F.res.xs ∧ Below w.heap.size w w' := by
  refine (mixFrames_any A A' c c' p v z p' v' z' xs ys sh w B hB hx hy hl hm h1 h2 hs hp hp' hv hv' hz hz').mono ?_
  rintro e w' ⟨A1, c1, rfl, ho, hb⟩
  have ho' : OwnF w' w.heap.size (.slice A1 F.xs.length c1) F.xs := by rw [hF]; exact ho
  obtain ⟨A2, c2, h1, h2⟩ := frd_ret ho'
  refine ⟨A2, c2, ?_, h2, hb⟩
  rw [hF] at h1 ⊢
  exact congrArg (fun a => Ending.returned (.tuple a)) h1

set_option maxRecDepth 20000 in
set_option maxHeartbeats 8000000 in
theorem frameAt_any (A A' A2 : Option Addr) (c c' c2 : Nat) (ss : List Snd) (ms : List ByteArray) (ls : List Nat) (t : Nat) (w : World) (B : Nat) (hB : B ≤ w.heap.size) (hx : Snds w B A ss) (hy : Strs w B A' ms) (hz : Fs w B A2 ls) (hm : ss.length ≤ 1048576) (hm2 : ms.length ≤ 1048576)
    (hok : namesOk ss ms = true) (hls : ls.length = ms.length) (ht : least t = true) (hab : ls.all above = true) :
    Calls Try.prog 109 #[.slice A ss.length c, .slice A' ms.length c', .slice A2 ls.length c2, fl t] w fun e w' => ∃ A1 c1, e = .returned (.tuple #[(frdAt ss ms ls t).res.val A1 c1, .bool (frdAt ss ms ls t).ok]) ∧ OwnF w' w.heap.size (.slice A1 (frdAt ss ms ls t).res.xs.length c1) (frdAt ss ms ls t).res.xs ∧ Below w.heap.size w w' := by
  have h1m : 1 ≤ ms.length := by
    unfold namesOk inI at hok
    simp only [Bool.and_eq_true, decide_eq_true_eq] at hok
    omega
  have htn : nanB .f32 t = false := by unfold least at ht; simp only [Bool.and_eq_true] at ht; exact fin32_num ht.1
  have HX := Lib.hid hx; have HY := Lib.hid hy; have HZ := Lib.hid hz; have HOk := Lib.hid hok; have HQ := Lib.hid hls; have HT := Lib.hid htn; have HAb := Lib.hid hab; clear hx hy hz hok hls ht htn hab
  go_enter Try.func109, Try.ntmps109
  go_wp2_with fail
  generalize hwz : World.alloc w _ = wz
  have zz : wz.heap.size = w.heap.size + 1 := by rw [← hwz]; simp
  have hbz : Below w.heap.size w wz := by rw [← hwz]; exact bl_a _ _
  have hk0 : Blk wz w.heap.size 77 #[.slice none 0 0, fl 0, fl 0, fl 0] := by rw [← hwz]; exact heap_1 _ _
  clear hwz
  have HBz := Lib.hid hbz; have HK0 := Lib.hid hk0; clear hbz hk0
  go_loop [3, 10] (fun tv i => ∃ k tm : Nat, k < ms.length ∧ i = .int .i64 k ∧ tv = fl tm ∧ nanB .f32 tm = false ∧ seekF ls ms.length (ms.length - k) k tm = seekF ls ms.length ms.length 0 t) (fun _ i => ms.length - (intOf i).toNat)
  case atStart => exact ⟨0, t, by omega, rfl, rfl, HT.out, rfl⟩
  case round =>
    obtain ⟨k, tm, hk, rfl, rfl, hnn, hseek⟩ := hrel
    have hkl : k < ls.length := by rw [HQ.out]; exact hk
    obtain ⟨al, hAl, _, hcl⟩ := (HZ.out.below' HBz.out hB).cell hkl
    obtain ⟨am, hAm, _, hcm⟩ := (HY.out.below' HBz.out hB).cell hk
    subst hAl; subst hAm
    have hfl : fin32 ls[k] = true := above_fin1 (List.all_eq_true.1 HAb.out _ (List.getElem_mem hkl))
    by_cases hgo : k + 1 < ms.length ∧ leF .f32 ls[k] tm = true
    · obtain ⟨hg1, hg2⟩ := hgo
      obtain ⟨hr, hn2⟩ := sub_run hnn hfl
      have HN := Lib.hid hn2; have HSk := Lib.hid (seek_step hkl hg1 hg2); have HSe := Lib.hid hseek; clear hn2 hseek hfl hcm
      have hl1 : (k : Int) < (ms.length : Int) - 1 := by omega
      go_wp2_with fail
      go_round
      case rel => exact ⟨k + 1, _, by omega, by go_num, rfl, HN.out, by rw [← HSk.out]; exact HSe.out⟩
      case measure => simp [intOf]; omega
    · have hstop := hseek.symm.trans (seek_stop hkl (Decidable.not_and_iff_or_not.1 hgo |>.imp_right (fun h => Bool.eq_false_iff.2 h)))
      have hfr : frdAt ss ms ls t = frdFrom ss ms k tm := by unfold frdAt; rw [hstop]
      have HFr := Lib.hid hfr
      clear hstop hfr hseek hfl
      obtain ⟨j, hj, he⟩ := has_at HOk.out hk
      obtain ⟨ads, hAs, hadB, hat, hin⟩ := (HX.out.below' HBz.out hB).at_ hj
      obtain ⟨_, _, _, a3, _, _⟩ := cells_at hat
      subst hAs
      have hsok := ok_at (names_ok HOk.out) (List.getElem_mem hj)
      obtain ⟨p1, p2, p3, p4⟩ := ok_parts hsok
      have hpos := (ok_fin hsok).2.2
      have hxm := hin.2.1
      have HE := Lib.hid he; have HAt := Lib.hid hat; have HIn := Lib.hid hin; have HN := Lib.hid hnn; have HP := Lib.hid p1; have HR := Lib.hid p2; have HV := Lib.hid p3; have HNo := Lib.hid p4; clear he hat hin hnn p1 p2 p3 p4 hsok
      have hcond : (((k : Int) < (ms.length : Int) - 1) ∧ leF .f32 ls[k] tm = false) ∨ ¬ ((k : Int) < (ms.length : Int) - 1) := by
        by_cases h1 : (k : Int) < (ms.length : Int) - 1
        · left; refine ⟨h1, ?_⟩
          cases h2 : leF .f32 ls[k] tm
          · rfl
          · exact absurd ⟨by omega, h2⟩ hgo
        · exact .inr h1
      clear hgo
      have hge : geF .f32 tm ss[j].ramp = !ltF .f32 tm ss[j].ramp := geF_not HN.out (fin32_num HR.out)
      rcases hcond with ⟨hc1, hc2⟩ | hc1
      all_goals
        go_wp2_with fail
        refine (findSound_any (some ads) c ss ms[k] wz B (by omega) (HX.out.below' HBz.out hB) hm).mono ?_
        rintro e wf ⟨rfl, hbf⟩
        have zf := hbf.size
        rw [HE.out]
        have hatf := HAt.out.below hbf (by rw [add_block]; omega)
        have hinf := HIn.out.below' hbf (by omega)
        obtain ⟨b0, b1, b2, b3, b4, b5⟩ := cells_at hatf
        have HIf := Lib.hid (fun o => hinf.alloc (show B ≤ wf.heap.size by omega) o); have HBf := Lib.hid hbf; clear hbf hatf hinf a3
        go_wp2_with fail
        refine (frameOf_any ss[j] 0 (wf.alloc (.cells #[st ss[j].name, .slice ss[j].A ss[j].xs.length ss[j].c, fl ss[j].long, fl ss[j].ramp, fl ss[j].voice, fl ss[j].noise] 98)) B (by simp; omega) (HIf.out _)).mono ?_
        rintro e w1 ⟨A1, c1, rfl, hown, hb⟩
        have z1 : wf.heap.size + 1 ≤ w1.heap.size := by have := hb.size; simpa using this
        have hkb := Blk.below' (t := 98) (heap_1 wf _) hb (by simp)
        have r3 : w1.cell? ⟨wf.heap.size, 3, none⟩ = some (fl ss[j].ramp) := hkb.cell_ (j := 3) rfl
        have r3o : ∀ o, (w1.alloc o).cell? ⟨wf.heap.size, 3, none⟩ = some (fl ss[j].ramp) := fun o => (World.cell?_alloc_lt w1 o ⟨wf.heap.size, 3, none⟩ (by show wf.heap.size < _; omega)).trans r3
        have hbz1 : Below wz.heap.size wz w1 := HBf.out.trans (((Below.refl _ wf).alloc (by omega) _).trans (hb.mono (by simp; omega)))
        have HO := Lib.hid (hown.less (base' := wf.heap.size + 1) (by simp)); have HB1 := Lib.hid hbz1; have HKr := Lib.hid hkb; clear hown hb hbz1 hkb b0 b1 b2 b3 b4 b5
        cases hlt : ltF .f32 tm ss[j].ramp
        · have HF2 := Lib.hid (HFr.out.trans (frdFrom_plain hk hj HE.out (.inr hlt)))
          rw [hlt] at hge
          simp only [Bool.not_false] at hge
          by_cases hk0 : k = 0
          · have hk0' : ((k : Int) == 0) = true := by simp; omega
            have GV := Lib.hid (checkD_any ss[j].frd A1 c1 (w1.alloc (.cells #[.slice A1 ss[j].xs.length c1, fl 0, fl ss[j].voice, fl ss[j].noise] 77)) (wf.heap.size + 1) (HO.out.alloc _) hxm)
            go_wp2_with fail
            refine GV.out.mono ?_
            rintro e w2 ⟨A2, c2', rfl, hown2, hb2⟩
            unfold Frd.val
            have z2 := hb2.size
            have hbw := (HBz.out.trans (HB1.out.mono (by omega))).trans (((Below.refl _ w1).alloc (by omega) _).trans (hb2.mono (by simp; omega)))
            have k0 := ((HK0.out.below HB1.out).alloc _).below hb2
            have q0 : w2.cell? ⟨w.heap.size, 0, none⟩ = some (.slice none 0 0) := k0.cell_ (j := 0) rfl
            have q1 : w2.cell? ⟨w.heap.size, 1, none⟩ = some (fl 0) := k0.cell_ (j := 1) rfl
            have q2 : w2.cell? ⟨w.heap.size, 2, none⟩ = some (fl 0) := k0.cell_ (j := 2) rfl
            have q3 : w2.cell? ⟨w.heap.size, 3, none⟩ = some (fl 0) := k0.cell_ (j := 3) rfl
            have qf := k0.froz
            have HBw := Lib.hid hbw; have HO2 := Lib.hid hown2; clear hbw hown2 hb2 k0 GV
            go_wp2_with fail
            refine bodyPost_ret (v := .tuple #[.agg #[.slice A2 ss[j].frd.res.xs.length c2', fl ss[j].frd.res.p, fl ss[j].frd.res.v, fl ss[j].frd.res.z], .bool ss[j].frd.ok]) ?_ rfl ⟨A2, c2', by rw [HF2.out]; rfl, ?_, ?_⟩
            · simp [results, Try.results109, go_sem, q0, q1, q2, q3]
            · rw [HF2.out]; exact OwnF.less (base := wf.heap.size + 1) (.set_ (.set_ (.set_ (.set_ HO2.out (by simp; omega)) (by simp; omega)) (by simp; omega)) (by simp; omega)) (by omega)
            · exact (((HBw.out.setCell (by simp) _).setCell (by simp) _).setCell (by simp) _).setCell (by simp) _
          · have hk0' : ((k : Int) == 0) = false := by simp; omega
            have GV := Lib.hid (checkD_any ss[j].frd A1 c1 (w1.alloc (.cells #[.slice A1 ss[j].xs.length c1, fl 0, fl ss[j].voice, fl ss[j].noise] 77)) (wf.heap.size + 1) (HO.out.alloc _) hxm)
            go_wp2_with fail
            refine GV.out.mono ?_
            rintro e w2 ⟨A2, c2', rfl, hown2, hb2⟩
            unfold Frd.val
            have z2 := hb2.size
            have hbw := (HBz.out.trans (HB1.out.mono (by omega))).trans (((Below.refl _ w1).alloc (by omega) _).trans (hb2.mono (by simp; omega)))
            have k0 := ((HK0.out.below HB1.out).alloc _).below hb2
            have q0 : w2.cell? ⟨w.heap.size, 0, none⟩ = some (.slice none 0 0) := k0.cell_ (j := 0) rfl
            have q1 : w2.cell? ⟨w.heap.size, 1, none⟩ = some (fl 0) := k0.cell_ (j := 1) rfl
            have q2 : w2.cell? ⟨w.heap.size, 2, none⟩ = some (fl 0) := k0.cell_ (j := 2) rfl
            have q3 : w2.cell? ⟨w.heap.size, 3, none⟩ = some (fl 0) := k0.cell_ (j := 3) rfl
            have qf := k0.froz
            have HBw := Lib.hid hbw; have HO2 := Lib.hid hown2; clear hbw hown2 hb2 k0 GV
            go_wp2_with fail
            refine bodyPost_ret (v := .tuple #[.agg #[.slice A2 ss[j].frd.res.xs.length c2', fl ss[j].frd.res.p, fl ss[j].frd.res.v, fl ss[j].frd.res.z], .bool ss[j].frd.ok]) ?_ rfl ⟨A2, c2', by rw [HF2.out]; rfl, ?_, ?_⟩
            · simp [results, Try.results109, go_sem, q0, q1, q2, q3]
            · rw [HF2.out]; exact OwnF.less (base := wf.heap.size + 1) (.set_ (.set_ (.set_ (.set_ HO2.out (by simp; omega)) (by simp; omega)) (by simp; omega)) (by simp; omega)) (by omega)
            · exact (((HBw.out.setCell (by simp) _).setCell (by simp) _).setCell (by simp) _).setCell (by simp) _
        rw [hlt] at hge
        simp only [Bool.not_true] at hge
        by_cases hk0 : 0 < k
        · obtain ⟨q, rfl⟩ : ∃ q, k = q + 1 := ⟨k - 1, by omega⟩
          have hk0' : (((q + 1 : Nat) : Int) == 0) = false := by simp; omega
          have hq : q < ms.length := by omega
          obtain ⟨i, hi, hei⟩ := has_at HOk.out hq
          obtain ⟨F, hFF⟩ : ∃ F, F = mixD ss[i].frd ss[j].frd (rampP (div32 tm ss[j].ramp)) := ⟨_, rfl⟩
          have HF2 := Lib.hid ((HFr.out.trans (frdFrom_mix (t := tm) hk (show q + 1 - 1 < ms.length by omega) hj HE.out hi (by simpa using hei) (by omega) hlt)).trans hFF.symm)
          have hsoki := ok_at (names_ok HOk.out) (List.getElem_mem hi)
          obtain ⟨i1, _, i3, i4⟩ := ok_parts hsoki
          obtain ⟨hdiv, hdn⟩ := div_run HN.out HR.out hlt
          have HI1 := Lib.hid i1; have HI3 := Lib.hid i3; have HI4 := Lib.hid i4; have HEi := Lib.hid hei; have HDn := Lib.hid hdn; have HFF := Lib.hid hFF; clear i1 i3 i4 hei hdn hsoki hFF
          have hbw1 := HBz.out.trans (HB1.out.mono (show w.heap.size ≤ wz.heap.size by omega))
          obtain ⟨am', hAm', bm, hcq⟩ := (HY.out.below' hbw1 hB).cell hq
          injection hAm' with hAm'
          subst hAm'
          have hcqo : ∀ o, (w1.alloc o).cell? (am.add q) = some (st ms[q]) := fun o => (World.cell?_alloc_lt w1 o (am.add q) (by rw [add_block]; omega)).trans hcq
          have HX1 := Lib.hid (fun o => (HX.out.below' hbw1 hB).alloc (show B ≤ w1.heap.size by omega) o)
          have HBw1 := Lib.hid hbw1; clear hbw1
          go_wp2_with fail
          refine (findSound_any (some ads) c ss ms[q] (w1.alloc (.cells #[.slice A1 ss[j].xs.length c1, fl 0, fl ss[j].voice, fl ss[j].noise] 77)) B (by simp; omega) (HX1.out _) hm).mono ?_
          rintro e wg ⟨rfl, hbg⟩
          have zg : w1.heap.size + 1 ≤ wg.heap.size := by have := hbg.size; simpa using this
          have hk2 : Blk wg w1.heap.size 77 #[.slice A1 ss[j].xs.length c1, fl 0, fl ss[j].voice, fl ss[j].noise] := Blk.below (heap_1 w1 _) hbg
          have hb1g : Below w1.heap.size w1 wg := ((Below.refl _ w1).alloc (Nat.le_refl _) _).trans (hbg.mono (by simp))
          have hkr := HKr.out.below hb1g
          have hxg := HX1.out (.cells #[.slice A1 ss[j].xs.length c1, fl 0, fl ss[j].voice, fl ss[j].noise] 77)
          have hxg2 := hxg.below' hbg (show B ≤ _ by simp; omega)
          obtain ⟨ads', hAs', hadB', hat2, hin2⟩ := hxg2.at_ hi
          injection hAs' with hAs'
          subst hAs'
          obtain ⟨y0, y1, y2, y3, y4, y5⟩ := cells_at hat2
          have hxi := hin2.2.1
          have HKr2 := Lib.hid hkr; have HK2 := Lib.hid hk2; have HBg := Lib.hid hb1g; have HIn2 := Lib.hid hin2; clear hkr hk2 hb1g hin2 hat2 hxg hxg2 hbg hcqo hcq r3 r3o
          rw [HEi.out]
          go_wp2_with fail
          refine (frameOf_any ss[i] 0 wg B (by omega) HIn2.out).mono ?_
          rintro e w3 ⟨A3, c3, rfl, hown3, hb3⟩
          have z3 := hb3.size
          have HO3 := Lib.hid hown3; have HB3 := Lib.hid hb3; clear hown3 hb3 y0 y1 y2 y3 y4 y5
          go_wp2_with fail
          generalize hw4 : World.alloc w3 _ = w4
          have z4 : w4.heap.size = w3.heap.size + 1 := by rw [← hw4]; simp
          have hb4 : Below w3.heap.size w3 w4 := by rw [← hw4]; exact bl_a _ _
          have hk4 : Blk w4 w3.heap.size 77 #[.slice A3 ss[i].xs.length c3, fl 0, fl ss[i].voice, fl ss[i].noise] := by rw [← hw4]; exact heap_1 _ _
          clear hw4
          have hk42 := (HK2.out.below HB3.out).below hb4
          have hkr := (HKr2.out.below HB3.out).below hb4
          have hf3 : Fs w4 w4.heap.size A3 ss[i].xs := by
            obtain ⟨A', c', e, h⟩ := HO3.out.reads
            injection e with e1 _ _
            rw [e1]; exact (h.below hb4).more (by omega)
          have hf1 : Fs w4 w4.heap.size A1 ss[j].xs := by
            obtain ⟨A', c', e, h⟩ := (HO.out.below HBg.out).reads
            injection e with e1 _ _
            rw [e1]; exact ((h.below HB3.out).below' hb4 (by omega)).more (by omega)
          have hlen := ok_len (names_ok HOk.out) hi hj
          have GM := Lib.hid (mixFramesD_any A3 A1 c3 c1 0 ss[i].voice ss[i].noise 0 ss[j].voice ss[j].noise ss[i].xs ss[j].xs (rampP (div32 tm ss[j].ramp)) w4.drew w4.heap.size (by simp) hf3.drew hf1.drew hlen hxi HI1.out HP.out (ramp_fin HDn.out) zero_nonneg zero_nonneg HI3.out HV.out HI4.out HNo.out F HFF.out)
          have hbw4 : Below w.heap.size w w4 := HBw1.out.trans ((HBg.out.mono (by omega)).trans ((HB3.out.mono (show w.heap.size ≤ wg.heap.size by omega)).trans (hb4.mono (show w.heap.size ≤ w3.heap.size by omega))))
          have k04 := (((HK0.out.below HB1.out).below HBg.out).below HB3.out).below hb4
          have s0 : w4.cell? ⟨w1.heap.size, 0, none⟩ = some (.slice A1 ss[j].xs.length c1) := hk42.cell_ (j := 0) rfl
          have s1 : w4.cell? ⟨w1.heap.size, 1, none⟩ = some (fl 0) := hk42.cell_ (j := 1) rfl
          have s2 : w4.cell? ⟨w1.heap.size, 2, none⟩ = some (fl ss[j].voice) := hk42.cell_ (j := 2) rfl
          have s3 : w4.cell? ⟨w1.heap.size, 3, none⟩ = some (fl ss[j].noise) := hk42.cell_ (j := 3) rfl
          have s4 : w4.cell? ⟨w3.heap.size, 0, none⟩ = some (.slice A3 ss[i].xs.length c3) := hk4.cell_ (j := 0) rfl
          have s5 : w4.cell? ⟨w3.heap.size, 1, none⟩ = some (fl 0) := hk4.cell_ (j := 1) rfl
          have s6 : w4.cell? ⟨w3.heap.size, 2, none⟩ = some (fl ss[i].voice) := hk4.cell_ (j := 2) rfl
          have s7 : w4.cell? ⟨w3.heap.size, 3, none⟩ = some (fl ss[i].noise) := hk4.cell_ (j := 3) rfl
          have s8 : w4.cell? ⟨wf.heap.size, 3, none⟩ = some (fl ss[j].ramp) := hkr.cell_ (j := 3) rfl
          have HBw4 := Lib.hid hbw4; have HK04 := Lib.hid k04; clear hbw4 k04 hk4 hk42 hkr hf3 hf1 hb4 hlen
          go_region_held3 (fun w' => w'.cell? ⟨w1.heap.size, 0, none⟩ = some (.slice A1 ss[j].xs.length c1) ∧ w'.cell? ⟨w1.heap.size, 1, none⟩ = some (fl 0) ∧ w'.cell? ⟨w1.heap.size, 2, none⟩ = some (fl ss[j].voice) ∧ w'.cell? ⟨w1.heap.size, 3, none⟩ = some (fl ss[j].noise) ∧ w'.cell? ⟨w3.heap.size, 0, none⟩ = some (.slice A3 ss[i].xs.length c3) ∧ w'.cell? ⟨w3.heap.size, 1, none⟩ = some (fl 0) ∧ w'.cell? ⟨w3.heap.size, 2, none⟩ = some (fl ss[i].voice) ∧ w'.cell? ⟨w3.heap.size, 3, none⟩ = some (fl ss[i].noise) ∧ w'.cell? ⟨wf.heap.size, 3, none⟩ = some (fl ss[j].ramp)) (go_keep)
            (first
              | (go_at_call 150; refine (rampAt_any _ HDn.out _).mono ?_; rintro e w' ⟨rfl, rfl⟩)
              | (go_at_call 149; refine GM.out.mono ?_; rintro e w5 ⟨A5, c5, rfl, hown5, hb5⟩
                 have hb5 : Below w4.heap.size w4 w5 := (below_drewN _ w4 1).trans (hb5.mono (by simp))
                 have z5 := hb5.size
                 have k5 := HK04.out.below hb5
                 have q0 : w5.cell? ⟨w.heap.size, 0, none⟩ = some (.slice none 0 0) := k5.cell_ (j := 0) rfl
                 have q1 : w5.cell? ⟨w.heap.size, 1, none⟩ = some (fl 0) := k5.cell_ (j := 1) rfl
                 have q2 : w5.cell? ⟨w.heap.size, 2, none⟩ = some (fl 0) := k5.cell_ (j := 2) rfl
                 have q3 : w5.cell? ⟨w.heap.size, 3, none⟩ = some (fl 0) := k5.cell_ (j := 3) rfl
                 have qf := k5.froz
                 have t0 : w5.cell? ⟨w1.heap.size, 0, none⟩ = some (.slice A1 ss[j].xs.length c1) := (hb5.cell (by show w1.heap.size < w4.heap.size; omega)).trans s0
                 have u0 := fun y0 y1 y2 y3 => (far4 (w := w5) (g := w.heap.size) (p := ⟨w1.heap.size, 0, none⟩) (by show w1.heap.size ≠ w.heap.size; omega) y0 y1 y2 y3).trans t0
                 have t1 : w5.cell? ⟨w1.heap.size, 1, none⟩ = some (fl 0) := (hb5.cell (by show w1.heap.size < w4.heap.size; omega)).trans s1
                 have u1 := fun y0 y1 y2 y3 => (far4 (w := w5) (g := w.heap.size) (p := ⟨w1.heap.size, 1, none⟩) (by show w1.heap.size ≠ w.heap.size; omega) y0 y1 y2 y3).trans t1
                 have t2 : w5.cell? ⟨w1.heap.size, 2, none⟩ = some (fl ss[j].voice) := (hb5.cell (by show w1.heap.size < w4.heap.size; omega)).trans s2
                 have u2 := fun y0 y1 y2 y3 => (far4 (w := w5) (g := w.heap.size) (p := ⟨w1.heap.size, 2, none⟩) (by show w1.heap.size ≠ w.heap.size; omega) y0 y1 y2 y3).trans t2
                 have t3 : w5.cell? ⟨w1.heap.size, 3, none⟩ = some (fl ss[j].noise) := (hb5.cell (by show w1.heap.size < w4.heap.size; omega)).trans s3
                 have u3 := fun y0 y1 y2 y3 => (far4 (w := w5) (g := w.heap.size) (p := ⟨w1.heap.size, 3, none⟩) (by show w1.heap.size ≠ w.heap.size; omega) y0 y1 y2 y3).trans t3
                 have t4 : w5.cell? ⟨w3.heap.size, 0, none⟩ = some (.slice A3 ss[i].xs.length c3) := (hb5.cell (by show w3.heap.size < w4.heap.size; omega)).trans s4
                 have u4 := fun y0 y1 y2 y3 => (far4 (w := w5) (g := w.heap.size) (p := ⟨w3.heap.size, 0, none⟩) (by show w3.heap.size ≠ w.heap.size; omega) y0 y1 y2 y3).trans t4
                 have t5 : w5.cell? ⟨w3.heap.size, 1, none⟩ = some (fl 0) := (hb5.cell (by show w3.heap.size < w4.heap.size; omega)).trans s5
                 have u5 := fun y0 y1 y2 y3 => (far4 (w := w5) (g := w.heap.size) (p := ⟨w3.heap.size, 1, none⟩) (by show w3.heap.size ≠ w.heap.size; omega) y0 y1 y2 y3).trans t5
                 have t6 : w5.cell? ⟨w3.heap.size, 2, none⟩ = some (fl ss[i].voice) := (hb5.cell (by show w3.heap.size < w4.heap.size; omega)).trans s6
                 have u6 := fun y0 y1 y2 y3 => (far4 (w := w5) (g := w.heap.size) (p := ⟨w3.heap.size, 2, none⟩) (by show w3.heap.size ≠ w.heap.size; omega) y0 y1 y2 y3).trans t6
                 have t7 : w5.cell? ⟨w3.heap.size, 3, none⟩ = some (fl ss[i].noise) := (hb5.cell (by show w3.heap.size < w4.heap.size; omega)).trans s7
                 have u7 := fun y0 y1 y2 y3 => (far4 (w := w5) (g := w.heap.size) (p := ⟨w3.heap.size, 3, none⟩) (by show w3.heap.size ≠ w.heap.size; omega) y0 y1 y2 y3).trans t7
                 have t8 : w5.cell? ⟨wf.heap.size, 3, none⟩ = some (fl ss[j].ramp) := (hb5.cell (by show wf.heap.size < w4.heap.size; omega)).trans s8
                 have u8 := fun y0 y1 y2 y3 => (far4 (w := w5) (g := w.heap.size) (p := ⟨wf.heap.size, 3, none⟩) (by show wf.heap.size ≠ w.heap.size; omega) y0 y1 y2 y3).trans t8
                 have HBw5 := Lib.hid (HBw4.out.trans (hb5.mono (show w.heap.size ≤ w4.heap.size by omega)))
                 have HO5 := Lib.hid hown5; clear hown5 k5 hb5))
          go_wp2_with fail
          refine bodyPost_ret (v := .tuple #[.agg #[.slice A5 F.res.xs.length c5, fl F.res.p, fl F.res.v, fl F.res.z], .bool F.ok]) ?_ rfl ⟨A5, c5, by rw [HF2.out]; rfl, ?_, ?_⟩
          · simp [results, Try.results109, go_sem, q0, q1, q2, q3]
          · rw [HF2.out]; exact OwnF.less (base := w4.drew.heap.size) (.set_ (.set_ (.set_ (.set_ HO5.out (by simp; omega)) (by simp; omega)) (by simp; omega)) (by simp; omega)) (by simp; omega)
          · exact (((HBw5.out.setCell (by simp) _).setCell (by simp) _).setCell (by simp) _).setCell (by simp) _
        · have HF2 := Lib.hid (HFr.out.trans (frdFrom_plain hk hj HE.out (.inl (by omega))))
          have hk0' : ((k : Int) == 0) = true := by simp; omega
          have GV := Lib.hid (checkD_any ss[j].frd A1 c1 (w1.alloc (.cells #[.slice A1 ss[j].xs.length c1, fl 0, fl ss[j].voice, fl ss[j].noise] 77)) (wf.heap.size + 1) (HO.out.alloc _) hxm)
          go_wp2_with fail
          refine GV.out.mono ?_
          rintro e w2 ⟨A2, c2', rfl, hown2, hb2⟩
          unfold Frd.val
          have z2 := hb2.size
          have hbw := (HBz.out.trans (HB1.out.mono (by omega))).trans (((Below.refl _ w1).alloc (by omega) _).trans (hb2.mono (by simp; omega)))
          have k0 := ((HK0.out.below HB1.out).alloc _).below hb2
          have q0 : w2.cell? ⟨w.heap.size, 0, none⟩ = some (.slice none 0 0) := k0.cell_ (j := 0) rfl
          have q1 : w2.cell? ⟨w.heap.size, 1, none⟩ = some (fl 0) := k0.cell_ (j := 1) rfl
          have q2 : w2.cell? ⟨w.heap.size, 2, none⟩ = some (fl 0) := k0.cell_ (j := 2) rfl
          have q3 : w2.cell? ⟨w.heap.size, 3, none⟩ = some (fl 0) := k0.cell_ (j := 3) rfl
          have qf := k0.froz
          have HBw := Lib.hid hbw; have HO2 := Lib.hid hown2; clear hbw hown2 hb2 k0 GV
          go_wp2_with fail
          refine bodyPost_ret (v := .tuple #[.agg #[.slice A2 ss[j].frd.res.xs.length c2', fl ss[j].frd.res.p, fl ss[j].frd.res.v, fl ss[j].frd.res.z], .bool ss[j].frd.ok]) ?_ rfl ⟨A2, c2', by rw [HF2.out]; rfl, ?_, ?_⟩
          · simp [results, Try.results109, go_sem, q0, q1, q2, q3]
          · rw [HF2.out]; exact OwnF.less (base := wf.heap.size + 1) (.set_ (.set_ (.set_ (.set_ HO2.out (by simp; omega)) (by simp; omega)) (by simp; omega)) (by simp; omega)) (by omega)
          · exact (((HBw.out.setCell (by simp) _).setCell (by simp) _).setCell (by simp) _).setCell (by simp) _
end Go.Proofs.Ythmkbgiandncnaa
