/- How long named sounds are: the program's loop; both functions. -/
import Derived.Test.YthmkbgiandncnaaLe2
namespace Go.Proofs.Ythmkbgiandncnaa
open Go.RowKit

set_option maxRecDepth 20000 in
set_option maxHeartbeats 4000000 in
theorem lengthsOf_any (A A' A2 : Option Addr) (c c' c2 : Nat) (ss : List Snd) (ms : List ByteArray) (qs : List Bool) (w : World) (B B' B2 : Nat) (hB : B ≤ w.heap.size) (hB' : B' ≤ w.heap.size) (hB2 : B2 ≤ w.heap.size) (hx : Snds w B A ss) (hy : Strs w B' A' ms) (hz : Boos w B2 A2 qs) (hm : ss.length ≤ 1048576) (hm2 : ms.length ≤ 1048576)
    (hok : namesOk ss ms = true) (hqs : qs.length = ms.length) :
    Calls Try.prog 102 #[.slice A ss.length c, .slice A' ms.length c', .slice A2 ms.length c2] w fun e w' => ∃ v, e = .returned (.tuple #[v, .bool (allFin (lens ss ms qs))]) ∧ OwnF w' w.heap.size v (lensRes ss ms qs) ∧ Below w.heap.size w w' := by
  obtain ⟨i0, hi, hz0, hz1, hz2⟩ := info_parts infoF
  have HX := Lib.hid hx; have HY := Lib.hid hy; have HZ := Lib.hid hz; have HOk := Lib.hid hok; have HQ := Lib.hid hqs; clear hx hy hz hok hqs
  go_enter Try.func102, Try.ntmps102
  go_wp2_with (at_make; refine wpList_make_full _ rfl _ _ 38 rfl w.heap.size 29 i0 (.float .f32 0) 1 Try.underlying38 hi hz0 hz1 .i64 .i64 _ _ ms.length rfl rfl rfl rfl (by rw [hz2]; omega) (by unfold maxLen; omega) (Nat.le_refl _) ?_; intro w0 hown hg)
  have hll := lens_len ss ms qs
  have h0 : filled (lens ss ms qs) 0 = List.replicate ms.length 0 := by rw [filled_0, hll]
  rw [madeF, ← h0] at hown
  have hb0 : Below w.heap.size w w0 := (Below.refl _ _).grown hg (Nat.le_refl _) (by simp)
  have hs0 : w.heap.size + 1 ≤ w0.heap.size := by have := (World.ownsRow.lt hown w.heap.size rfl).2; omega
  have HO := Lib.hid hown; clear hown
  have HB0 := Lib.hid hb0; clear hb0 hg hi hz0 hz1 hz2 h0
  have HLL := Lib.hid hll; clear hll
  go_loopw [17] (fun i wr => ∃ k : Nat, k ≤ ms.length ∧ i = .int .i64 k ∧ wr.ownsRow w.heap.size 29 1 (.slice (some ⟨w.heap.size, 0, none⟩) ms.length ms.length) ms.length ((filled (lens ss ms qs) k).map fl) ∧ w.heap.size + 1 ≤ wr.heap.size ∧ Below w.heap.size w wr) (fun i _ => ms.length - (intOf i).toNat)
  case atStart => exact ⟨0, Nat.zero_le _, rfl, HO.out, hs0, HB0.out⟩
  case round =>
    obtain ⟨k, hk, rfl, hown, hsz, hb⟩ := hrel
    have HR := Lib.hid hown; have HB := Lib.hid hb; clear hown hb
    by_cases hlt : k < ms.length
    · obtain ⟨j, hj, he⟩ := has_at HOk.out hlt
      obtain ⟨adm, hAm, _, hcm⟩ := (HY.out.below' HB.out hB').cell hlt
      have hval := lenAt_is hlt (show k < qs.length by rw [HQ.out]; exact hlt) hj he
      obtain ⟨m1, m2, m3⟩ := len_mul (long_num (names_ok HOk.out) hj)
      subst hAm
      have HE := Lib.hid he; clear he
      have hqk : k < qs.length := by rw [HQ.out]; exact hlt
      by_cases hl : k + 1 = ms.length
      all_goals
        cases hq : qs[k]
      all_goals
        simp only [hq, hl, if_true, if_false, Bool.false_eq_true] at hval
        have HV := Lib.hid hval; clear hval
        have HQk := Lib.hid hq; clear hq
        have hL1 : ((k : Int) == (ms.length : Int) - 1) = decide (k + 1 = ms.length) := by
          rw [Bool.eq_iff_iff]; simp; omega
        simp only [hl, decide_true, decide_false] at hL1
        go_wp2_with fail
        refine (findSound_any A c ss ms[k] wr B (by omega) (HX.out.below' HB.out hB) hm).mono ?_
        rintro e w1 ⟨rfl, hb1⟩
        have z1 := hb1.size
        rw [HE.out]
        have hb1w := HB.out.trans (hb1.mono (by omega))
        have hrow1 := own_below HR.out hb1 fun g hg => (World.ownsRow.lt HR.out g hg).2
        have HB1 := Lib.hid hb1w; have HR1 := Lib.hid hrow1; clear hb1 hb1w hrow1 hcm
        obtain ⟨adq, hAq, _, hcq⟩ := (HZ.out.below' HB1.out hB2).cell (k := k) (by rw [HQ.out]; exact hlt)
        obtain ⟨ads, hAs, _, hat, _⟩ := (HX.out.below' HB1.out hB).at_ hj
        obtain ⟨_, _, a2, _, _, _⟩ := cells_at hat
        subst hAq; subst hAs
        rw [HQk.out] at hcq
        clear hat
        have hfl := filled_len (lens ss ms qs) k
        have hfl2 := HLL.out
        obtain ⟨v0, hc1⟩ : ∃ v0, w1.cell? ⟨w.heap.size, k, none⟩ = some v0 :=
          ⟨fl ((filled (lens ss ms qs) k)[k]'(by omega)), by rw [World.ownsRow.cellAt HR1.out k (by omega), List.getElem?_map, List.getElem?_eq_getElem (by omega)]; rfl⟩
        have hf1 : w1.frozen? ⟨w.heap.size, k, none⟩ = false := World.ownsRow.frozenAt HR1.out k
        have hst := (World.ownsRow.stored HR1.out k (fl (lenAt ss ms qs k))).1
        rw [← List.map_set, ← lens_get ss ms qs k (by omega), filled_step _ k (by omega), lens_get, HV.out] at hst
        have HS := Lib.hid hst; clear hst hfl hfl2
        go_wp2_with fail
        go_roundw
        case rel => exact ⟨k + 1, by omega, by go_num, HS.out, by rw [size_set]; omega, HB1.out.setCell (by simp) _⟩
        case measure => simp [intOf]; omega
    · have hkn : k = ms.length := by omega
      have hfin : OwnF wr w.heap.size (.slice (some ⟨w.heap.size, 0, none⟩) (lens ss ms qs).length ms.length) (lens ss ms qs) := by
        have h := HR.out
        rw [filled_end _ _ (by rw [HLL.out]; omega)] at h
        unfold OwnF; rw [HLL.out]; exact h
      have hfs : Fs wr wr.heap.size (some ⟨w.heap.size, 0, none⟩) (lens ss ms qs) := by
        obtain ⟨A', c', e, h⟩ := hfin.reads
        injection e with e1 _ _
        rw [e1]; exact h
      have gv := checkedNumbers_any (some ⟨w.heap.size, 0, none⟩) ms.length (lens ss ms qs) wr _ hfs (by rw [HLL.out]; omega)
      have HF := Lib.hid hfin; clear hfin hfs
      rw [HLL.out] at gv
      have GV := Lib.hid gv; clear gv hkn
      go_wp2_with fail
      refine GV.out.mono ?_
      rintro e w' ⟨he, n, rfl⟩
      subst he
      cases hf : allFin (lens ss ms qs)
      · have e1 : numRet (some ⟨w.heap.size, 0, none⟩) ms.length (lens ss ms qs) = #[.slice none 0 0, .bool false] := numRet_no hf
        have e2 : lensRes ss ms qs = [] := by unfold lensRes; rw [hf]; rfl
        rw [e1]
        have E2 := Lib.hid e2; have E1 := Lib.hid hf; clear e1 e2 hf
        go_wp2_with fail
        go_ret2
        exact ⟨.slice none 0 0, ret_vb rfl E1.out.symm, by rw [E2.out]; exact World.ownsRow_nil _ _ _ _, drewN_below HB.out _⟩
      · have e1 : numRet (some ⟨w.heap.size, 0, none⟩) ms.length (lens ss ms qs) = #[.slice (some ⟨w.heap.size, 0, none⟩) (lens ss ms qs).length ms.length, .bool true] := numRet_yes hf
        have e2 : lensRes ss ms qs = lens ss ms qs := by unfold lensRes; rw [hf]; rfl
        rw [e1]
        have E2 := Lib.hid e2; have E1 := Lib.hid hf; clear e1 e2 hf
        go_wp2_with fail
        go_ret2
        exact ⟨.slice (some ⟨w.heap.size, 0, none⟩) (lens ss ms qs).length ms.length, ret_vb rfl E1.out.symm, by rw [E2.out]; exact HF.out.drewN n, drewN_below HB.out _⟩

def lenOk (ss : List Snd) (ms : List ByteArray) (qs : List Bool) : Bool := namesOk ss ms && decide (qs.length = ms.length) && allFin (lens ss ms qs)
def lenRes (ss : List Snd) (ms : List ByteArray) (qs : List Bool) : List Nat := if lenOk ss ms qs then lens ss ms qs else []
theorem lenOk_bare {ss ts : List Snd} (h : sames ss ts) (ms : List ByteArray) (qs : List Bool) : lenOk ss ms qs = lenOk ts ms qs := by unfold lenOk; rw [namesOk_bare h, lens_bare h]
theorem lenRes_bare {ss ts : List Snd} (h : sames ss ts) (ms : List ByteArray) (qs : List Bool) : lenRes ss ms qs = lenRes ts ms qs := by unfold lenRes; rw [lenOk_bare h, lens_bare h]
theorem lenOk_yes {ss : List Snd} {ms : List ByteArray} {qs : List Bool} (h1 : namesOk ss ms = true) (h2 : qs.length = ms.length) : lenOk ss ms qs = allFin (lens ss ms qs) ∧ lenRes ss ms qs = lensRes ss ms qs := by
  have : lenOk ss ms qs = allFin (lens ss ms qs) := by unfold lenOk; simp [h1, h2]
  refine ⟨this, ?_⟩
  unfold lenRes lensRes; rw [this]
theorem lenOk_no {ss : List Snd} {ms : List ByteArray} {qs : List Bool} (h : namesOk ss ms = false ∨ qs.length ≠ ms.length) : lenOk ss ms qs = false ∧ lenRes ss ms qs = [] := by
  have : lenOk ss ms qs = false := by
    unfold lenOk
    rcases h with h | h
    · rw [h]; rfl
    · simp [h]
  refine ⟨this, ?_⟩
  unfold lenRes; rw [this]; rfl

set_option maxHeartbeats 1000000 in
theorem specLengths_any (A A' A2 : Option Addr) (c c' c2 : Nat) (ss : List Snd) (ms : List ByteArray) (qs : List Bool) (w : World) (B B' B2 : Nat) (hB : B ≤ w.heap.size) (hB' : B' ≤ w.heap.size) (hB2 : B2 ≤ w.heap.size) (hx : Snds w B A ss) (hy : Strs w B' A' ms) (hz : Boos w B2 A2 qs) (hm : ss.length ≤ 1048576) (hm2 : ms.length ≤ 1048576) :
    Calls Try.prog 37 #[.slice A ss.length c, .slice A' ms.length c', .slice A2 qs.length c2] w fun e w' => ∃ v, e = .returned (.tuple #[v, .bool (lenOk ss ms qs)]) ∧ OwnF w' w.heap.size v (lenRes ss ms qs) ∧ Below w.heap.size w w' := by
  have HX := Lib.hid hx; have HY := Lib.hid hy; have HZ := Lib.hid hz; clear hx hy hz
  cases hn : namesOk ss ms
  · obtain ⟨e1, e2⟩ := lenOk_no (qs := qs) (.inl hn)
    rw [e1, e2]
    have HN := Lib.hid hn; clear e1 e2 hn
    go_enter Try.func37, Try.ntmps37
    go_wp2_with fail
    refine (l06Names_any A A' c c' ss ms w B B' HX.out HY.out hm hm2).mono ?_
    rintro e w' ⟨rfl, n, rfl⟩
    rw [HN.out]
    go_wp2_with fail
    go_ret2
    exact ⟨_, rfl, World.ownsRow_nil _ _ _ _, below_drewN _ _ _⟩
  by_cases hl : qs.length = ms.length
  · obtain ⟨e1, e2⟩ := lenOk_yes hn hl
    rw [e1, e2, hl]
    have HN := Lib.hid hn; have HL := Lib.hid hl; clear e1 e2 hn hl
    go_enter Try.func37, Try.ntmps37
    go_wp2_with fail
    refine (l06Names_any A A' c c' ss ms w B B' HX.out HY.out hm hm2).mono ?_
    rintro e w' ⟨rfl, n, rfl⟩
    rw [HN.out]
    go_wp2_with fail
    refine (l06Lengths_any A A' A2 c c' c2 ss ms qs (w.drewN n) B B' B2 hB hB' hB2 (HX.out.drewN n) (HY.out.drewN n) (HZ.out.drewN n) hm hm2 HN.out HL.out).mono ?_
    rintro e w1 ⟨v, rfl, ho, hb⟩
    have HO := Lib.hid ho; have HB := Lib.hid (show Below w.heap.size w w1 from (below_drewN _ w n).trans hb); clear ho hb
    go_wp2_with fail
    go_ret2
    exact ⟨v, rfl, HO.out, HB.out⟩
  · obtain ⟨e1, e2⟩ := lenOk_no (ss := ss) (.inr hl)
    rw [e1, e2]
    have HN := Lib.hid hn
    have hd : ((qs.length : Int) != (ms.length : Int)) = true := by simp; omega
    clear e1 e2 hn
    have HL := Lib.hid hl; clear hl
    go_enter Try.func37, Try.ntmps37
    go_wp2_with fail
    refine (l06Names_any A A' c c' ss ms w B B' HX.out HY.out hm hm2).mono ?_
    rintro e w' ⟨rfl, n, rfl⟩
    rw [HN.out]
    go_wp2_with fail
    go_ret2
    exact ⟨_, rfl, World.ownsRow_nil _ _ _ _, below_drewN _ _ _⟩

set_option maxHeartbeats 1000000 in
theorem implLengths_any (A A' A2 : Option Addr) (c c' c2 : Nat) (ss : List Snd) (ms : List ByteArray) (qs : List Bool) (w : World) (B B' B2 : Nat) (hB : B ≤ w.heap.size) (hB' : B' ≤ w.heap.size) (hB2 : B2 ≤ w.heap.size) (hx : Snds w B A ss) (hy : Strs w B' A' ms) (hz : Boos w B2 A2 qs) (hm : ss.length ≤ 1048576) (hm2 : ms.length ≤ 1048576) :
    Calls Try.prog 40 #[.slice A ss.length c, .slice A' ms.length c', .slice A2 qs.length c2] w fun e w' => ∃ v, e = .returned (.tuple #[v, .bool (lenOk ss ms qs)]) ∧ OwnF w' w.heap.size v (lenRes ss ms qs) ∧ Below w.heap.size w w' := by
  have HX := Lib.hid hx; have HY := Lib.hid hy; have HZ := Lib.hid hz; clear hx hy hz
  cases hn : namesOk ss ms
  · obtain ⟨e1, e2⟩ := lenOk_no (qs := qs) (.inl hn)
    rw [e1, e2]
    have HN := Lib.hid hn; clear e1 e2 hn
    go_enter Try.func40, Try.ntmps40
    go_wp2_with fail
    refine (areNames_any A A' c c' ss ms w B B' hB hB' HX.out HY.out hm hm2).mono ?_
    rintro e w1 ⟨rfl, hb1⟩
    have z1 := hb1.size
    have HB1 := Lib.hid hb1; clear hb1
    rw [HN.out]
    go_wp2_with fail
    go_ret2
    exact ⟨_, rfl, World.ownsRow_nil _ _ _ _, HB1.out⟩
  by_cases hl : qs.length = ms.length
  · obtain ⟨e1, e2⟩ := lenOk_yes hn hl
    rw [e1, e2, hl]
    have HN := Lib.hid hn; have HL := Lib.hid hl; clear e1 e2 hn hl
    go_enter Try.func40, Try.ntmps40
    go_wp2_with fail
    refine (areNames_any A A' c c' ss ms w B B' hB hB' HX.out HY.out hm hm2).mono ?_
    rintro e w1 ⟨rfl, hb1⟩
    have z1 := hb1.size
    have HB1 := Lib.hid hb1; clear hb1
    rw [HN.out]
    go_wp2_with fail
    refine (lengthsOf_any A A' A2 c c' c2 ss ms qs w1 B B' B2 (by omega) (by omega) (by omega) (HX.out.below' HB1.out hB) (HY.out.below' HB1.out hB') (HZ.out.below' HB1.out hB2) hm hm2 HN.out HL.out).mono ?_
    rintro e w2 ⟨v, rfl, ho, hb⟩
    have HO := Lib.hid (ho.less z1); have HB := Lib.hid (bl_step HB1.out hb); clear ho hb
    go_wp2_with fail
    go_ret2
    exact ⟨v, rfl, HO.out, HB.out⟩
  · obtain ⟨e1, e2⟩ := lenOk_no (ss := ss) (.inr hl)
    rw [e1, e2]
    have HN := Lib.hid hn
    have hd : ((qs.length : Int) != (ms.length : Int)) = true := by simp; omega
    clear e1 e2 hn
    have HL := Lib.hid hl; clear hl
    go_enter Try.func40, Try.ntmps40
    go_wp2_with fail
    refine (areNames_any A A' c c' ss ms w B B' hB hB' HX.out HY.out hm hm2).mono ?_
    rintro e w1 ⟨rfl, hb1⟩
    have z1 := hb1.size
    have HB1 := Lib.hid hb1; clear hb1
    rw [HN.out]
    go_wp2_with fail
    go_ret2
    exact ⟨_, rfl, World.ownsRow_nil _ _ _ _, HB1.out⟩
end Go.Proofs.Ythmkbgiandncnaa
