/- StretchSounds, the reference's and the program's. -/
import Derived.Test.YthmkbgiandncnaaCl2
import Derived.Test.YthmkbgiandncnaaLVa
namespace Go.Proofs.Ythmkbgiandncnaa
open Go.RowKit

/-- a sound of another length -/
def Snd.str (by_ : Nat) (s : Snd) : Snd := { s with long := mul32 s.long by_, ramp := mul32 s.ramp by_ }
def strOk (ss : List Snd) (by_ : Nat) : Bool := soundsOk ss && fin32 by_ && soundsOk (ss.map (Snd.str by_))
def strRes (ss : List Snd) (by_ : Nat) : List Snd := if strOk ss by_ then ss.map (Snd.str by_) else []
theorem str_bare {s t : Snd} (h : s.bare = t.bare) (b : Nat) : (s.str b).bare = (t.str b).bare := by
  have e : ∀ s : Snd, (s.str b).bare = s.bare.str b := fun _ => rfl
  rw [e, e, h]
theorem sames_str {ss ts : List Snd} (h : sames ss ts) (b : Nat) : sames (ss.map (Snd.str b)) (ts.map (Snd.str b)) := by
  unfold sames at *
  have e : ∀ xs : List Snd, (xs.map (Snd.str b)).map Snd.bare = (xs.map Snd.bare).map (Snd.str b) := fun xs => by
    rw [List.map_map, List.map_map]; rfl
  rw [e, e, h]
theorem strOk_bare {ss ts : List Snd} (h : sames ss ts) (b : Nat) : strOk ss b = strOk ts b := by
  unfold strOk; rw [soundsOk_bare h, soundsOk_bare (sames_str h b)]
theorem strRes_bare {ss ts : List Snd} (h : sames ss ts) (b : Nat) : sames (strRes ss b) (strRes ts b) := by
  unfold strRes; rw [strOk_bare h]
  split
  · exact sames_str h b
  · rfl
theorem str_val (s : Snd) (b : Nat) : (s.str b).val = s.val := rfl
theorem str_blk (s : Snd) (b : Nat) : (s.str b).blk = s.blk := rfl
theorem ok_at {ss : List Snd} (h : soundsOk ss = true) {s : Snd} (hs : s ∈ ss) : s.ok = true := by
  unfold soundsOk at h
  simp only [Bool.and_eq_true, List.all_eq_true, List.mem_range] at h
  obtain ⟨k, hk, rfl⟩ := List.getElem_of_mem hs
  have := h.2 k hk
  rw [okAt_at hk (by omega) (by omega)] at this
  simp only [Bool.and_eq_true] at this
  exact this.1.1
theorem ok_fin {s : Snd} (h : s.ok = true) : fin32 s.long = true ∧ fin32 s.ramp = true ∧ 0 < s.xs.length := by
  unfold Snd.ok soundOk above least areasOk inI at h
  simp only [Bool.and_eq_true, decide_eq_true_eq] at h
  obtain ⟨⟨⟨⟨⟨_, ⟨h1, _⟩, _⟩, h2, _⟩, h3, _⟩, _⟩, _⟩ := h
  exact ⟨h2, h3, by omega⟩
theorem kept_ok {w : World} {B : Nat} {s : Snd} (hin : SndIn w B s) (h : s.ok = true) : s.kept := by
  intro hA
  obtain ⟨_, _, hl⟩ := ok_fin h
  obtain ⟨ad, e, _⟩ := hin.1.2 hl
  rw [hA] at e; cases e

/-- the first n sounds have been stretched -/
def half (ts : List Snd) (b n : Nat) : List Value := ((ts.take n).map (Snd.str b)).flatMap Snd.cells ++ (ts.drop n).flatMap Snd.cells
theorem half_0 (ts : List Snd) (b : Nat) : half ts b 0 = ts.flatMap Snd.cells := by simp [half]
theorem half_end (ts : List Snd) (b n : Nat) (h : ts.length ≤ n) : half ts b n = (ts.map (Snd.str b)).flatMap Snd.cells := by simp [half, List.take_of_length_le h, List.drop_eq_nil_of_le h]
theorem half_at (ts : List Snd) (b n : Nat) (h : n < ts.length) : half ts b n = ((ts.take n).map (Snd.str b)).flatMap Snd.cells ++ (ts[n].cells ++ (ts.drop (n + 1)).flatMap Snd.cells) := by
  unfold half; rw [List.drop_eq_getElem_cons h, List.flatMap_cons]
theorem half_next (ts : List Snd) (b n : Nat) (h : n < ts.length) : half ts b (n + 1) = ((ts.take n).map (Snd.str b)).flatMap Snd.cells ++ ((ts[n].str b).cells ++ (ts.drop (n + 1)).flatMap Snd.cells) := by
  unfold half; rw [List.take_succ_eq_append_getElem h, List.map_append, List.flatMap_append, List.append_assoc]; simp
theorem half_pre (ts : List Snd) (b n : Nat) (h : n ≤ ts.length) : (((ts.take n).map (Snd.str b)).flatMap Snd.cells).length = n * 6 := by
  rw [flat_len, List.length_map, List.length_take, Nat.min_eq_left h]
theorem str_set {pre post : List Value} {n : Nat} (hp : pre.length = n * 6) (s : Snd) (b : Nat) :
    ((pre ++ (s.cells ++ post)).set (n * 6 + 2) (fl (mul32 s.long b))).set (n * 6 + 3) (fl (mul32 s.ramp b)) = pre ++ ((s.str b).cells ++ post) := by
  rw [← hp, set_app, set_app]; rfl
theorem OwnS.str {w : World} {base n cap g : Nat} {ts : List Snd} {b : Nat} (h : sndsFew ts) (ha : ts.Pairwise fun s t => s.blk = none ∨ s.blk ≠ t.blk) (he : ∀ t ∈ ts, OwnF w base t.val t.xs)
    (hr : w.ownsRow base 98 6 (.slice (some ⟨g, 0, none⟩) n cap) ts.length ((ts.map (Snd.str b)).flatMap Snd.cells)) : OwnS w base (.slice (some ⟨g, 0, none⟩) n cap) (ts.map (Snd.str b)) := by
  refine ⟨by rw [List.length_map]; exact hr, ?_, ⟨by rw [List.length_map]; exact h.1, ?_⟩, ?_⟩
  · intro s hs
    obtain ⟨t, ht, rfl⟩ := List.mem_map.1 hs
    exact he t ht
  · intro s hs
    obtain ⟨t, ht, rfl⟩ := List.mem_map.1 hs
    exact h.2 t ht
  · exact List.pairwise_map.2 ha

theorem ret_vb {v v' : Value} {a b : Bool} (h : v = v') (h2 : a = b) : Ending.returned (.tuple #[v, .bool a]) = .returned (.tuple #[v', .bool b]) := by rw [h, h2]
set_option maxHeartbeats 400000 in
theorem l06Give_yes (A : Option Addr) (c : Nat) (ss : List Snd) (w : World) (B : Nat) (hx : Snds w B A ss) (hm : ss.length ≤ 1048576) (h : soundsOk ss = true) :
    Calls Try.prog 62 #[.slice A ss.length c] w fun e w' => e = .returned (.tuple #[.slice A ss.length c, .bool true]) ∧ ∃ n, w' = w.drewN n := by
  have H := Lib.hid h; have HX := Lib.hid hx; clear h hx
  go_enter Try.func62, Try.ntmps62
  go_wp2_with fail
  refine (l06Are_any A c ss w B HX.out hm).mono ?_
  rintro e w' ⟨rfl, n, rfl⟩
  rw [H.out]
  go_wp2_with fail
  go_ret2
  exact ⟨rfl, _, rfl⟩
set_option maxHeartbeats 400000 in
theorem l06Give_no (A : Option Addr) (c : Nat) (ss : List Snd) (w : World) (B : Nat) (hx : Snds w B A ss) (hm : ss.length ≤ 1048576) (h : soundsOk ss = false) :
    Calls Try.prog 62 #[.slice A ss.length c] w fun e w' => e = .returned (.tuple #[.slice none 0 0, .bool false]) ∧ ∃ n, w' = w.drewN n := by
  have H := Lib.hid h; have HX := Lib.hid hx; clear h hx
  go_enter Try.func62, Try.ntmps62
  go_wp2_with fail
  refine (l06Are_any A c ss w B HX.out hm).mono ?_
  rintro e w' ⟨rfl, n, rfl⟩
  rw [H.out]
  go_wp2_with fail
  go_ret2
  exact ⟨rfl, _, rfl⟩

theorem OwnS.nil (w : World) (base : Nat) : OwnS w base (.slice none 0 0) [] := ⟨World.ownsRow_nil _ _ _ _, by simp, ⟨by simp, by simp⟩, .nil⟩
theorem OwnS.drewN {w : World} {base n : Nat} {v : Value} {ss : List Snd} (h : OwnS w base v ss) : OwnS (w.drewN n) base v ss := h.below (below_drewN _ _ _)

set_option maxRecDepth 20000 in
set_option maxHeartbeats 2000000 in
theorem specStretch_any (A : Option Addr) (c : Nat) (ss : List Snd) (b : Nat) (w : World) (B : Nat) (hB : B ≤ w.heap.size) (hx : Snds w B A ss) (hm : ss.length ≤ 1048576) :
    Calls Try.prog 17 #[.slice A ss.length c, fl b] w fun e w' => ∃ v ts, e = .returned (.tuple #[v, .bool (strOk ss b)]) ∧ sames (strRes ss b) ts ∧ OwnS w' w.heap.size v ts ∧ Below w.heap.size w w' := by
  have HX := Lib.hid hx; clear hx
  cases h1 : soundsOk ss
  · have h2 : strOk ss b = false := by simp [strOk, h1]
    have h3 : strRes ss b = [] := by simp [strRes, h2]
    rw [h2, h3]
    have H1 := Lib.hid h1; clear h1 h2 h3
    go_enter Try.func17, Try.ntmps17
    go_wp2_with fail
    refine (l06Are_any A c ss w B HX.out hm).mono ?_
    rintro e w' ⟨rfl, n, rfl⟩
    rw [H1.out]
    go_wp2_with fail
    go_ret2
    exact ⟨_, [], rfl, rfl, OwnS.nil _ _, below_drewN _ _ _⟩
  cases h0 : fin32 b
  · have h2 : strOk ss b = false := by simp [strOk, h0]
    have h3 : strRes ss b = [] := by simp [strRes, h2]
    rw [h2, h3]
    have H1 := Lib.hid h1; have H0 := Lib.hid h0; clear h1 h2 h3 h0
    go_enter Try.func17, Try.ntmps17
    go_wp2_with fail
    refine (l06Are_any A c ss w B HX.out hm).mono ?_
    rintro e w' ⟨rfl, n, rfl⟩
    rw [H1.out]
    go_wp2_with fail
    refine (l01Finite_any _ _).mono ?_
    rintro e w' ⟨rfl, n', rfl⟩
    rw [H0.out]
    go_wp2_with fail
    go_ret2
    exact ⟨_, [], rfl, rfl, OwnS.nil _ _, below_drewN _ _ _⟩
  have hkept : ∀ s ∈ ss, s.kept := fun s hs => kept_ok (HX.out.2 s hs) (ok_at h1 hs)
  have HK := Lib.hid hkept; clear hkept
  have H1 := Lib.hid h1; have H0 := Lib.hid h0; clear h1 h0
  go_enter Try.func17, Try.ntmps17
  go_wp2_with fail
  refine (l06Are_any A c ss w B HX.out hm).mono ?_
  rintro e w' ⟨rfl, n, rfl⟩
  rw [H1.out]
  go_wp2_with fail
  refine (l01Finite_any _ _).mono ?_
  rintro e w' ⟨rfl, n', rfl⟩
  rw [H0.out]
  go_wp2_with fail
  refine (l06Own_any A c ss _ B (by simpa using hB) (by exact HX.out.drewN _) hm HK.out).mono ?_
  rintro e w1 ⟨v, ts, rfl, hsam, hown', hb'⟩
  have hb : Below w.heap.size w w1 := (below_drewN _ w _).trans hb'
  have hown : OwnS w1 w.heap.size v ts := hown'
  clear hb' hown'
  have HB1 := Lib.hid hb; clear hb
  have HS := Lib.hid hsam; clear hsam
  rcases hown.form with ⟨rfl, rfl⟩ | ⟨g, cap, rfl, hg, hglt⟩
  · have h2 : soundsOk ([] : List Snd) = true := rfl
    have e1 : strOk ss b = true := by rw [strOk_bare HS.out]; simp [strOk, H0.out]; rfl
    have e2 : sames (strRes ss b) [] := by
      have := strRes_bare HS.out b
      rwa [show strRes [] b = [] by unfold strRes; split <;> rfl] at this
    have E1 := Lib.hid e1; have E2 := Lib.hid e2; clear e1 e2
    go_wp2_with fail
    go_loopw [7] (fun i wr => i = .int .i64 0 ∧ wr = w1) (fun _ _ => 0)
    case atStart => exact ⟨rfl, rfl⟩
    case round =>
      obtain ⟨rfl, rfl⟩ := hrel
      go_wp2_with fail
      refine (l06Give_yes none 0 [] wr B ⟨Sl.nil _ _ _ _, by simp⟩ (by simp) h2).mono ?_
      rintro e w' ⟨rfl, n, rfl⟩
      go_wp2_with fail
      go_ret2
      exact ⟨.slice none 0 0, [], by rw [E1.out]; rfl, E2.out, OwnS.nil _ _, drewN_below HB1.out _⟩
  · have hfew := hown.few
    have hfin : ∀ t ∈ ts, fin32 t.long = true ∧ fin32 t.ramp = true := fun t ht => by
      have := ok_fin (ok_at (by rw [← soundsOk_bare HS.out]; exact H1.out) ht)
      exact ⟨this.1, this.2.1⟩
    have HFi := Lib.hid hfin; clear hfin
    have hap := hown.apart
    have HA := Lib.hid hap; clear hap
    have heach := hown.each
    have hrow := hown.row
    rw [← half_0 ts b] at hrow
    have HR0 := Lib.hid hrow; have HE0 := Lib.hid heach; clear hrow heach hown
    have hm2 := hfew.1
    have HW := Lib.hid hfew; clear hfew
    go_wp2_with fail
    go_loopw [7] (fun i wr => ∃ n : Nat, n ≤ ts.length ∧ i = .int .i64 n ∧ wr.ownsRow w.heap.size 98 6 (.slice (some ⟨g, 0, none⟩) ts.length cap) ts.length (half ts b n) ∧
      (∀ t ∈ ts, OwnF wr w.heap.size t.val t.xs) ∧ Below w.heap.size w wr) (fun i _ => ts.length - (intOf i).toNat)
    case atStart => exact ⟨0, Nat.zero_le _, rfl, HR0.out, HE0.out, HB1.out⟩
    case round =>
      obtain ⟨n, hn, rfl, hown, heach, hb⟩ := hrel
      by_cases hlt : n < ts.length
      · have hpre := half_pre ts b n (by omega)
        rw [half_at ts b n hlt] at hown
        have q2 : wr.cell? ⟨g, n * 6 + 2, none⟩ = some (.float .f32 ts[n].long) := by rw [World.ownsRow.cellAt hown _ (by omega), row_at hpre rfl (by omega)]; rfl
        have q3 : wr.cell? ⟨g, n * 6 + 3, none⟩ = some (.float .f32 ts[n].ramp) := by rw [World.ownsRow.cellAt hown _ (by omega), row_at hpre rfl (by omega)]; rfl
        have fz : ∀ j, wr.frozen? ⟨g, j, none⟩ = false := World.ownsRow.frozenAt hown
        obtain ⟨f1, f2⟩ := HFi.out _ (List.getElem_mem hlt)
        obtain ⟨r1, hr1, e1⟩ := mul_some f1 H0.out
        obtain ⟨r2, hr2, e2⟩ := mul_some f2 H0.out
        have m1 : ∀ w, (binOp .mul 29 (.float .f32 ts[n].long) (.float .f32 b)).run Try.prog w = .ok (.float .f32 (mul32 ts[n].long b)) w := fun w => by rw [e1]; exact run_float_arith w _ _ _ _ _ _ hr1
        have m2 : ∀ w, (binOp .mul 29 (.float .f32 ts[n].ramp) (.float .f32 b)).run Try.prog w = .ok (.float .f32 (mul32 ts[n].ramp b)) w := fun w => by rw [e2]; exact run_float_arith w _ _ _ _ _ _ hr2
        clear hr1 e1 hr2 e2 f1 f2
        have hst := (World.ownsRow.stored (World.ownsRow.stored hown (n * 6 + 2) (fl (mul32 ts[n].long b))).1 (n * 6 + 3) (fl (mul32 ts[n].ramp b))).1
        rw [str_set hpre, ← half_next ts b n hlt] at hst
        have hne : ∀ t ∈ ts, t.blk = none ∨ t.blk ≠ some g := fun t ht => blk_row (heach t ht) hown
        have HF := Lib.hid hst; clear hst hown
        have HN := Lib.hid hne; clear hne
        have HE := Lib.hid heach; clear heach
        have HB := Lib.hid hb; clear hb hpre
        go_wp2_with fail
        go_roundw
        case rel => exact ⟨n + 1, by omega, by go_num, HF.out, fun t ht => ((HE.out t ht).far (a := ⟨g, n * 6 + 2, none⟩) (HN.out t ht)).far (a := ⟨g, n * 6 + 3, none⟩) (HN.out t ht), (HB.out.setCell hg _).setCell hg _⟩
        case measure => simp [intOf]; omega
      · rw [half_end ts b n (by omega)] at hown
        have hown2 := OwnS.str (b := b) HW.out HA.out heach hown
        have HO := Lib.hid hown2; clear hown2 hown heach
        have HB := Lib.hid hb; clear hb
        have hrd : Snds wr wr.heap.size (some ⟨g, 0, none⟩) (ts.map (Snd.str b)) := by
          obtain ⟨A', c', e, h⟩ := HO.out.reads
          injection e with e1 e2 e3
          rw [e1]; exact h
        have HRd := Lib.hid hrd; clear hrd
        have hl : (ts.map (Snd.str b)).length = ts.length := List.length_map ..
        cases hok : soundsOk (ts.map (Snd.str b))
        · have e1 : strOk ss b = false := by rw [strOk_bare HS.out]; simp [strOk, hok]
          have e2 : strRes ss b = [] := by simp [strRes, e1]
          have gv := l06Give_no (some ⟨g, 0, none⟩) cap _ wr _ HRd.out (by rw [hl]; exact hm2) hok
          rw [hl] at gv
          have E1 := Lib.hid e1; have E2 := Lib.hid e2; clear e1 e2 hok hl
          have GV := Lib.hid gv; clear gv
          go_wp2_with fail
          refine GV.out.mono ?_
          rintro e w' ⟨rfl, k, rfl⟩
          go_wp2_with fail
          go_ret2
          exact ⟨.slice none 0 0, [], ret_vb rfl E1.out.symm, by rw [E2.out]; rfl, OwnS.nil _ _, drewN_below HB.out _⟩
        · have e1 : strOk ss b = true := by rw [strOk_bare HS.out]; simp only [strOk, hok, H0.out, ← soundsOk_bare HS.out, H1.out]; rfl
          have e2 : strRes ss b = ss.map (Snd.str b) := by simp [strRes, e1]
          have gv := l06Give_yes (some ⟨g, 0, none⟩) cap _ wr _ HRd.out (by rw [hl]; exact hm2) hok
          rw [hl] at gv
          have E1 := Lib.hid e1; have E2 := Lib.hid e2; clear e1 e2 hok hl
          have GV := Lib.hid gv; clear gv
          go_wp2_with fail
          refine GV.out.mono ?_
          rintro e w' ⟨rfl, k, rfl⟩
          go_wp2_with fail
          go_ret2
          exact ⟨.slice (some ⟨g, 0, none⟩) ts.length cap, ts.map (Snd.str b), ret_vb rfl E1.out.symm, by rw [E2.out]; exact sames_str HS.out b, HO.out.drewN, drewN_below HB.out _⟩
set_option maxRecDepth 20000 in
set_option maxHeartbeats 2000000 in
theorem implStretch_any (A : Option Addr) (c : Nat) (ss : List Snd) (b : Nat) (w : World) (B : Nat) (hB : B ≤ w.heap.size) (hx : Snds w B A ss) (hm : ss.length ≤ 1048576) :
    Calls Try.prog 19 #[.slice A ss.length c, fl b] w fun e w' => ∃ v ts, e = .returned (.tuple #[v, .bool (strOk ss b)]) ∧ sames (strRes ss b) ts ∧ OwnS w' w.heap.size v ts ∧ Below w.heap.size w w' := by
  have HX := Lib.hid hx; clear hx
  cases h1 : soundsOk ss
  · have h2 : strOk ss b = false := by simp [strOk, h1]
    have h3 : strRes ss b = [] := by simp [strRes, h2]
    rw [h2, h3]
    have H1 := Lib.hid h1; clear h1 h2 h3
    go_enter Try.func19, Try.ntmps19
    go_wp2_with fail
    refine (AreSounds_any A c ss w B hB HX.out hm).mono ?_
    rintro e wa ⟨rfl, hba⟩
    rw [H1.out]
    have HBa := Lib.hid hba; clear hba
    go_wp2_with fail
    go_ret2
    exact ⟨_, [], rfl, rfl, OwnS.nil _ _, HBa.out⟩
  cases h0 : fin32 b
  · have h2 : strOk ss b = false := by simp [strOk, h0]
    have h3 : strRes ss b = [] := by simp [strRes, h2]
    rw [h2, h3]
    have H1 := Lib.hid h1; have H0 := Lib.hid h0; clear h1 h2 h3 h0
    go_enter Try.func19, Try.ntmps19
    go_wp2_with fail
    refine (AreSounds_any A c ss w B hB HX.out hm).mono ?_
    rintro e wa ⟨rfl, hba⟩
    rw [H1.out]
    have HBa := Lib.hid hba; clear hba
    go_wp2_with fail
    refine (IsFinite_any _ _).mono ?_
    rintro e w' ⟨rfl, n', rfl⟩
    rw [H0.out]
    go_wp2_with fail
    go_ret2
    exact ⟨_, [], rfl, rfl, OwnS.nil _ _, drewN_below HBa.out _⟩
  have H1 := Lib.hid h1; have H0 := Lib.hid h0; clear h1 h0
  go_enter Try.func19, Try.ntmps19
  go_wp2_with fail
  refine (AreSounds_any A c ss w B hB HX.out hm).mono ?_
  rintro e wa ⟨rfl, hba⟩
  rw [H1.out]
  have hza := hba.size
  have HBa := Lib.hid hba; clear hba
  go_wp2_with fail
  refine (IsFinite_any _ _).mono ?_
  rintro e w' ⟨rfl, n', rfl⟩
  rw [H0.out]
  go_wp2_with fail
  refine (cloneSounds_any A c ss (wa.drewN n') B (show B ≤ wa.heap.size by omega) (Snds.drewN (HX.out.below' HBa.out hB) n') hm).mono ?_
  rintro e w1 ⟨v, ts, rfl, hsam, hown', hb'⟩
  have hb : Below w.heap.size w w1 := HBa.out.trans ((below_drewN _ wa _).trans (hb'.mono (show w.heap.size ≤ wa.heap.size by omega)))
  have hown : OwnS w1 w.heap.size v ts := OwnS.less (base := wa.heap.size) hown' hza
  clear hb' hown'
  have HB1 := Lib.hid hb; clear hb
  have HS := Lib.hid hsam; clear hsam
  rcases hown.form with ⟨rfl, rfl⟩ | ⟨g, cap, rfl, hg, hglt⟩
  · have h2 : soundsOk ([] : List Snd) = true := rfl
    have e1 : strOk ss b = true := by rw [strOk_bare HS.out]; simp [strOk, H0.out]; rfl
    have e2 : sames (strRes ss b) [] := by
      have := strRes_bare HS.out b
      rwa [show strRes [] b = [] by unfold strRes; split <;> rfl] at this
    have E1 := Lib.hid e1; have E2 := Lib.hid e2; clear e1 e2
    go_wp2_with fail
    go_loopw [20] (fun i wr => i = .int .i64 0 ∧ wr = w1) (fun _ _ => 0)
    case atStart => exact ⟨rfl, rfl⟩
    case round =>
      obtain ⟨rfl, rfl⟩ := hrel
      go_wp2_with fail
      refine (AreSounds_any none 0 [] wr wr.heap.size (Nat.le_refl _) ⟨Sl.nil _ _ _ _, by simp⟩ (by simp)).mono ?_
      rintro e we ⟨rfl, hbe⟩
      rw [h2]
      have HBe := Lib.hid (bl_step HB1.out hbe); clear hbe
      go_wp2_with fail
      go_ret2
      exact ⟨.slice none 0 0, [], by rw [E1.out]; rfl, E2.out, OwnS.nil _ _, HBe.out⟩
  · have hfew := hown.few
    have hfin : ∀ t ∈ ts, fin32 t.long = true ∧ fin32 t.ramp = true := fun t ht => by
      have := ok_fin (ok_at (by rw [← soundsOk_bare HS.out]; exact H1.out) ht)
      exact ⟨this.1, this.2.1⟩
    have HFi := Lib.hid hfin; clear hfin
    have hap := hown.apart
    have HA := Lib.hid hap; clear hap
    have heach := hown.each
    have hrow := hown.row
    rw [← half_0 ts b] at hrow
    have HR0 := Lib.hid hrow; have HE0 := Lib.hid heach; clear hrow heach hown
    have hm2 := hfew.1
    have HW := Lib.hid hfew; clear hfew
    go_wp2_with fail
    go_loopw [20] (fun i wr => ∃ n : Nat, n ≤ ts.length ∧ i = .int .i64 n ∧ wr.ownsRow w.heap.size 98 6 (.slice (some ⟨g, 0, none⟩) ts.length cap) ts.length (half ts b n) ∧
      (∀ t ∈ ts, OwnF wr w.heap.size t.val t.xs) ∧ Below w.heap.size w wr) (fun i _ => ts.length - (intOf i).toNat)
    case atStart => exact ⟨0, Nat.zero_le _, rfl, HR0.out, HE0.out, HB1.out⟩
    case round =>
      obtain ⟨n, hn, rfl, hown, heach, hb⟩ := hrel
      by_cases hlt : n < ts.length
      · have hpre := half_pre ts b n (by omega)
        rw [half_at ts b n hlt] at hown
        have q2 : wr.cell? ⟨g, n * 6 + 2, none⟩ = some (.float .f32 ts[n].long) := by rw [World.ownsRow.cellAt hown _ (by omega), row_at hpre rfl (by omega)]; rfl
        have q3 : wr.cell? ⟨g, n * 6 + 3, none⟩ = some (.float .f32 ts[n].ramp) := by rw [World.ownsRow.cellAt hown _ (by omega), row_at hpre rfl (by omega)]; rfl
        have fz : ∀ j, wr.frozen? ⟨g, j, none⟩ = false := World.ownsRow.frozenAt hown
        obtain ⟨f1, f2⟩ := HFi.out _ (List.getElem_mem hlt)
        obtain ⟨r1, hr1, e1⟩ := mul_some f1 H0.out
        obtain ⟨r2, hr2, e2⟩ := mul_some f2 H0.out
        have m1 : ∀ w, (binOp .mul 29 (.float .f32 ts[n].long) (.float .f32 b)).run Try.prog w = .ok (.float .f32 (mul32 ts[n].long b)) w := fun w => by rw [e1]; exact run_float_arith w _ _ _ _ _ _ hr1
        have m2 : ∀ w, (binOp .mul 29 (.float .f32 ts[n].ramp) (.float .f32 b)).run Try.prog w = .ok (.float .f32 (mul32 ts[n].ramp b)) w := fun w => by rw [e2]; exact run_float_arith w _ _ _ _ _ _ hr2
        clear hr1 e1 hr2 e2 f1 f2
        have hst := (World.ownsRow.stored (World.ownsRow.stored hown (n * 6 + 2) (fl (mul32 ts[n].long b))).1 (n * 6 + 3) (fl (mul32 ts[n].ramp b))).1
        rw [str_set hpre, ← half_next ts b n hlt] at hst
        have hne : ∀ t ∈ ts, t.blk = none ∨ t.blk ≠ some g := fun t ht => blk_row (heach t ht) hown
        have HF := Lib.hid hst; clear hst hown
        have HN := Lib.hid hne; clear hne
        have HE := Lib.hid heach; clear heach
        have HB := Lib.hid hb; clear hb hpre
        go_wp2_with fail
        go_roundw
        case rel => exact ⟨n + 1, by omega, by go_num, HF.out, fun t ht => ((HE.out t ht).far (a := ⟨g, n * 6 + 2, none⟩) (HN.out t ht)).far (a := ⟨g, n * 6 + 3, none⟩) (HN.out t ht), (HB.out.setCell hg _).setCell hg _⟩
        case measure => simp [intOf]; omega
      · rw [half_end ts b n (by omega)] at hown
        have hown2 := OwnS.str (b := b) HW.out HA.out heach hown
        have HO := Lib.hid hown2; clear hown2 hown heach
        have HB := Lib.hid hb; clear hb
        have hrd : Snds wr wr.heap.size (some ⟨g, 0, none⟩) (ts.map (Snd.str b)) := by
          obtain ⟨A', c', e, h⟩ := HO.out.reads
          injection e with e1 e2 e3
          rw [e1]; exact h
        have HRd := Lib.hid hrd; clear hrd
        have hl : (ts.map (Snd.str b)).length = ts.length := List.length_map ..
        cases hok : soundsOk (ts.map (Snd.str b))
        · have e1 : strOk ss b = false := by rw [strOk_bare HS.out]; simp [strOk, hok]
          have e2 : strRes ss b = [] := by simp [strRes, e1]
          have gv := AreSounds_any (some ⟨g, 0, none⟩) cap _ wr _ (Nat.le_refl _) HRd.out (by rw [hl]; exact hm2)
          rw [hok] at gv
          rw [hl] at gv
          have E1 := Lib.hid e1; have E2 := Lib.hid e2; clear e1 e2 hok hl
          have GV := Lib.hid gv; clear gv
          go_wp2_with fail
          refine GV.out.mono ?_
          rintro e we ⟨rfl, hbe⟩
          have HO2 := Lib.hid (HO.out.below hbe)
          have HBe := Lib.hid (bl_step HB.out hbe); clear hbe
          go_wp2_with fail
          go_ret2
          exact ⟨.slice none 0 0, [], ret_vb rfl E1.out.symm, by rw [E2.out]; rfl, OwnS.nil _ _, HBe.out⟩
        · have e1 : strOk ss b = true := by rw [strOk_bare HS.out]; simp only [strOk, hok, H0.out, ← soundsOk_bare HS.out, H1.out]; rfl
          have e2 : strRes ss b = ss.map (Snd.str b) := by simp [strRes, e1]
          have gv := AreSounds_any (some ⟨g, 0, none⟩) cap _ wr _ (Nat.le_refl _) HRd.out (by rw [hl]; exact hm2)
          rw [hok] at gv
          rw [hl] at gv
          have E1 := Lib.hid e1; have E2 := Lib.hid e2; clear e1 e2 hok hl
          have GV := Lib.hid gv; clear gv
          go_wp2_with fail
          refine GV.out.mono ?_
          rintro e we ⟨rfl, hbe⟩
          have HO2 := Lib.hid (HO.out.below hbe)
          have HBe := Lib.hid (bl_step HB.out hbe); clear hbe
          go_wp2_with fail
          go_ret2
          exact ⟨.slice (some ⟨g, 0, none⟩) ts.length cap, ts.map (Snd.str b), ret_vb rfl E1.out.symm, by rw [E2.out]; exact sames_str HS.out b, HO2.out, HBe.out⟩
end Go.Proofs.Ythmkbgiandncnaa
