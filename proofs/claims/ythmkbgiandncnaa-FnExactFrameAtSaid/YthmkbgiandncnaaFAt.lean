/- The frame at a time: both functions. -/
import Derived.Test.YthmkbgiandncnaaFAi
namespace Go.Proofs.Ythmkbgiandncnaa
open Go.RowKit

def notAb (x : Nat) : Bool := !fin32 x || leF .f32 x 0
theorem notAb_above (x : Nat) : notAb x = !above x := by
  unfold notAb above
  cases h : fin32 x
  · rfl
  · rw [le0_not h]; simp
theorem any_notAb (xs : List Nat) : xs.any notAb = !xs.all above := by
  rw [show notAb = fun x => !above x from funext notAb_above, List.any_eq_not_all_not]; simp
set_option maxHeartbeats 400000 in
theorem FrameAt1_any (a : Nat) (w : World) :
    Calls Try.prog 108 #[.float .f32 a] w fun e w' => e = .returned (.bool (notAb a)) ∧ ∃ n, w' = w.drewN n := by
  go_enter Try.func108, Try.ntmps108
  go_wp2_with (go_at_call 65; refine (IsFinite_any _ _).mono ?_; rintro e w' ⟨rfl, n, rfl⟩)
  all_goals go_ret
  all_goals exact ⟨ret_bool (by simp [notAb, *]), _, rfl⟩
set_option maxHeartbeats 400000 in
theorem IndexAb_any (A : Option Addr) (c : Nat) (xs : List Nat) (w : World) (B : Nat) (hx : Fs w B A xs) (hm : xs.length ≤ 9223372036854775807) :
    Calls Try.prog 146 #[.slice A xs.length c, .func (.func 108) #[] #[]] w fun e w' => e = .returned (.int .i64 (idx notAb xs)) ∧ ∃ n, w' = w.drewN n := by
  go_enter Try.func146, Try.ntmps146
  go_wp2
  go_loopw [8] (fun i wr => ∃ k n : Nat, k ≤ xs.length ∧ i = .int .i64 k ∧ (xs.take k).any notAb = false ∧ wr = w.drewN n) (fun i _ => xs.length - (intOf i).toNat)
  case atStart => exact ⟨0, 0, Nat.zero_le _, rfl, rfl, rfl⟩
  case round =>
    obtain ⟨k, n, hk, rfl, hall, rfl⟩ := hrel
    have HA := Lib.hid hall; clear hall
    by_cases hlt : k < xs.length
    · obtain ⟨ad, rfl, hadB, hcell⟩ := hx.cell hlt
      have HX := Lib.hid hx; clear hx
      cases hh : notAb xs[k]
      · have HH := Lib.hid hh; clear hh
        go_wp2_with fail
        refine (FrameAt1_any _ _).mono ?_
        rintro e w' ⟨rfl, n', rfl⟩
        rw [HH.out]
        go_wp2_with fail
        go_roundw
        case rel => exact ⟨k + 1, _, by omega, by go_num, any_take_succ hlt HA.out HH.out, rfl⟩
        case measure => simp [intOf]; omega
      · have HH := Lib.hid hh; clear hh
        go_wp2_with fail
        refine (FrameAt1_any _ _).mono ?_
        rintro e w' ⟨rfl, n', rfl⟩
        rw [HH.out]
        go_wp2_with fail
        go_ret
        exact ⟨ret_int (idx_hit hlt HA.out HH.out).symm, _, rfl⟩
    · go_wp2
      go_ret
      exact ⟨ret_int (idx_none (any_end HA.out hlt)).symm, _, rfl⟩
set_option maxHeartbeats 400000 in
theorem ContainsAb_any (A : Option Addr) (c : Nat) (xs : List Nat) (w : World) (B : Nat) (hx : Fs w B A xs) (hm : xs.length ≤ 9223372036854775807) :
    Calls Try.prog 107 #[.slice A xs.length c, .func (.func 108) #[] #[]] w fun e w' => e = .returned (.bool (!xs.all above)) ∧ ∃ n, w' = w.drewN n := by
  have HA := Lib.hid (any_notAb xs)
  go_enter Try.func107, Try.ntmps107
  go_wp2_with fail
  refine (IndexAb_any A c xs w B hx hm).mono ?_
  rintro e w' ⟨rfl, n, rfl⟩
  rcases idx_cases notAb xs with ⟨h1, h2⟩ | ⟨k, hk, h1, h2, _⟩
  · rw [h1]
    have H2 := Lib.hid h2; clear h1 h2
    go_wp2
    go_ret
    exact ⟨ret_bool (by rw [← HA.out, H2.out]), _, rfl⟩
  · rw [h1]
    have H2 := Lib.hid h2; clear h1 h2
    go_wp2
    go_ret
    exact ⟨ret_bool (by rw [← HA.out, H2.out]), _, rfl⟩

theorem above_no' {xs : List Nat} {k : Nat} (hlt : k < xs.length) (h : above xs[k] = false) : xs.all above = false := all_no (k := k) (h := hlt) h

set_option maxRecDepth 20000 in
set_option maxHeartbeats 4000000 in
theorem specFrameAt_any (A A' A2 : Option Addr) (c c' c2 : Nat) (ss : List Snd) (ms : List ByteArray) (ls : List Nat) (t : Nat) (w : World) (B : Nat) (hB : B ≤ w.heap.size) (hx : Snds w B A ss) (hy : Strs w B A' ms) (hz : Fs w B A2 ls) (hm : ss.length ≤ 1048576) (hm2 : ms.length ≤ 1048576) (hm3 : ls.length ≤ 1048576) :
    Calls Try.prog 48 #[.slice A ss.length c, .slice A' ms.length c', .slice A2 ls.length c2, fl t] w fun e w' => ∃ A1 c1, e = .returned (.tuple #[(frmAtRes ss ms ls t).val A1 c1, .bool (frmAtOk ss ms ls t)]) ∧ OwnF w' w.heap.size (.slice A1 (frmAtRes ss ms ls t).xs.length c1) (frmAtRes ss ms ls t).xs ∧ Below w.heap.size w w' := by
  have HX := Lib.hid hx; have HY := Lib.hid hy; have HZ := Lib.hid hz; clear hx hy hz
  go_enter Try.func48, Try.ntmps48
  go_wp2_with fail
  generalize hwz : World.alloc w _ = wz
  have zz : wz.heap.size = w.heap.size + 1 := by rw [← hwz]; simp
  have hbz : Below w.heap.size w wz := by rw [← hwz]; exact bl_a _ _
  have hk0 : Blk wz w.heap.size 77 #[.slice none 0 0, fl 0, fl 0, fl 0] := by rw [← hwz]; exact heap_1 _ _
  clear hwz
  have hxz := HX.out.below' hbz hB; have hyz := HY.out.below' hbz hB; have hzz := HZ.out.below' hbz hB
  have HXz := Lib.hid hxz; have HYz := Lib.hid hyz; have HZz := Lib.hid hzz; have HBz := Lib.hid hbz; have HK0 := Lib.hid hk0; clear hxz hyz hzz hbz hk0
  have k0 := HK0.out
  have q0 : wz.cell? ⟨w.heap.size, 0, none⟩ = some (.slice none 0 0) := k0.cell_ (j := 0) rfl
  have q1 : wz.cell? ⟨w.heap.size, 1, none⟩ = some (fl 0) := k0.cell_ (j := 1) rfl
  have q2 : wz.cell? ⟨w.heap.size, 2, none⟩ = some (fl 0) := k0.cell_ (j := 2) rfl
  have q3 : wz.cell? ⟨w.heap.size, 3, none⟩ = some (fl 0) := k0.cell_ (j := 3) rfl
  have qf := k0.froz
  clear k0
  refine (l06Names_any A A' c c' ss ms wz B B HXz.out HYz.out hm hm2).mono ?_
  rintro e w' ⟨rfl, n, rfl⟩
  cases hn : namesOk ss ms
  · have HN := Lib.hid hn; clear hn
    obtain ⟨e1, e2⟩ := frd_no (ss := ss) (ms := ms) (ls := ls) (t := t) (.inl HN.out)
    have E1 := Lib.hid e1; have E2 := Lib.hid e2; clear e1 e2
    go_wp2_with fail
    refine bodyPost_ret (v := .tuple #[zeroFrm, .bool false]) ?_ rfl ⟨none, 0, by rw [E1.out, E2.out]; rfl, by rw [E2.out]; exact World.ownsRow_nil _ _ _ _, ?_⟩
    · simp [results, Try.results48, go_sem, q0, q1, q2, q3]
    · exact (((((drewN_below HBz.out n).setCell (by simp) _).setCell (by simp) _).setCell (by simp) _).setCell (by simp) _)
  have HN := Lib.hid hn; clear hn
  by_cases hl : ls.length = ms.length
  case neg =>
    have hd : ((ls.length : Int) != (ms.length : Int)) = true := by simp; omega
    have HL := Lib.hid hl; clear hl
    obtain ⟨e1, e2⟩ := frd_no (ss := ss) (ms := ms) (ls := ls) (t := t) (.inr (.inl HL.out))
    have E1 := Lib.hid e1; have E2 := Lib.hid e2; clear e1 e2
    go_wp2_with fail
    refine bodyPost_ret (v := .tuple #[zeroFrm, .bool false]) ?_ rfl ⟨none, 0, by rw [E1.out, E2.out]; rfl, by rw [E2.out]; exact World.ownsRow_nil _ _ _ _, ?_⟩
    · simp [results, Try.results48, go_sem, q0, q1, q2, q3]
    · exact (((((drewN_below HBz.out n).setCell (by simp) _).setCell (by simp) _).setCell (by simp) _).setCell (by simp) _)
  have hd : ((ls.length : Int) != (ms.length : Int)) = false := by simp; omega
  have HL := Lib.hid hl; clear hl
  go_wp2_with fail
  refine (l02Least_any _ _).mono ?_
  rintro e w' ⟨rfl, n2, rfl⟩
  cases ht : least t
  · have HT := Lib.hid ht; clear ht
    obtain ⟨e1, e2⟩ := frd_no (ss := ss) (ms := ms) (ls := ls) (t := t) (.inr (.inr (.inl HT.out)))
    have E1 := Lib.hid e1; have E2 := Lib.hid e2; clear e1 e2
    go_wp2_with fail
    refine bodyPost_ret (v := .tuple #[zeroFrm, .bool false]) ?_ rfl ⟨none, 0, by rw [E1.out, E2.out]; rfl, by rw [E2.out]; exact World.ownsRow_nil _ _ _ _, ?_⟩
    · simp [results, Try.results48, go_sem, q0, q1, q2, q3]
    · exact (((((drewN_below HBz.out (n + n2)).setCell (by simp) _).setCell (by simp) _).setCell (by simp) _).setCell (by simp) _)
  have HT := Lib.hid ht; clear ht
  go_wp2_with fail
  go_loopw [10] (fun i wr => ∃ k n : Nat, k ≤ ls.length ∧ i = .int .i64 k ∧ (ls.take k).all above = true ∧ wr = wz.drewN n) (fun i _ => ls.length - (intOf i).toNat)
  case atStart => exact ⟨0, _, Nat.zero_le _, rfl, rfl, rfl⟩
  case round =>
    obtain ⟨k, n3, hk, rfl, hall, rfl⟩ := hrel
    have HA := Lib.hid hall; clear hall
    by_cases hlt : k < ls.length
    · obtain ⟨al, hAl, _, hcl⟩ := HZz.out.cell hlt
      subst hAl
      go_wp2_with fail
      refine (l02Above_any _ _).mono ?_
      rintro e w' ⟨rfl, n4, rfl⟩
      cases hab : above ls[k]
      · have HAb := Lib.hid (above_no' hlt hab); clear hab
        obtain ⟨e1, e2⟩ := frd_no (ss := ss) (ms := ms) (ls := ls) (t := t) (.inr (.inr (.inr HAb.out)))
        have E1 := Lib.hid e1; have E2 := Lib.hid e2; clear e1 e2
        go_wp2_with fail
        refine bodyPost_ret (v := .tuple #[zeroFrm, .bool false]) ?_ rfl ⟨none, 0, by rw [E1.out, E2.out]; rfl, by rw [E2.out]; exact World.ownsRow_nil _ _ _ _, ?_⟩
        · simp [results, Try.results48, go_sem, q0, q1, q2, q3]
        · exact (((((drewN_below HBz.out (n3 + n4)).setCell (by simp) _).setCell (by simp) _).setCell (by simp) _).setCell (by simp) _)
      · have HAb := Lib.hid hab; clear hab
        go_wp2_with fail
        go_roundw
        case rel => exact ⟨k + 1, _, by omega, by go_num, all_step (h := hlt) HA.out HAb.out, rfl⟩
        case measure => simp [intOf]; omega
    · have HAb := Lib.hid (show ls.all above = true from all_end HA.out hlt); clear HA
      go_wp2_with fail
      refine (l06At_any A A' A2 c c' c2 ss ms ls t (wz.drewN n3) B (by simp; omega) (HXz.out.drewN _) (HYz.out.drewN _) (HZz.out.drewN _) hm hm2 HN.out HL.out HT.out HAb.out).mono ?_
      rintro e w9 ⟨A9, c9, rfl, hown, hb⟩
      unfold Frd.val
      have hbw : Below w.heap.size w w9 := (drewN_below HBz.out n3).trans (hb.mono (by have := (drewN_below HBz.out n3).size; simpa using this))
      have HO := Lib.hid hown; have HBw := Lib.hid hbw; have HEq := Lib.hid (frd_yes HN.out HL.out HT.out HAb.out)
      have k0 := Blk.below' (Blk.drewN HK0.out n3) hb (by have := HBz.out.size; simp; omega)
      have q0 : w9.cell? ⟨w.heap.size, 0, none⟩ = some (.slice none 0 0) := k0.cell_ (j := 0) rfl
      have q1 : w9.cell? ⟨w.heap.size, 1, none⟩ = some (fl 0) := k0.cell_ (j := 1) rfl
      have q2 : w9.cell? ⟨w.heap.size, 2, none⟩ = some (fl 0) := k0.cell_ (j := 2) rfl
      have q3 : w9.cell? ⟨w.heap.size, 3, none⟩ = some (fl 0) := k0.cell_ (j := 3) rfl
      have qf := k0.froz
      clear k0
      clear hown hb hbw
      go_wp2_with fail
      refine bodyPost_ret (v := .tuple #[.agg #[.slice A9 (frdAt ss ms ls t).res.xs.length c9, fl (frdAt ss ms ls t).res.p, fl (frdAt ss ms ls t).res.v, fl (frdAt ss ms ls t).res.z], .bool (frdAt ss ms ls t).ok]) ?_ rfl ⟨A9, c9, by rw [HEq.out.1, HEq.out.2]; rfl, ?_, ?_⟩
      · simp [results, Try.results48, go_sem, q0, q1, q2, q3]
      · rw [HEq.out.2]; exact OwnF.less (base := (wz.drewN n3).heap.size) (.set_ (.set_ (.set_ (.set_ HO.out (by have := (drewN_below HBz.out n3).size; simp; simp at this; omega)) (by have := (drewN_below HBz.out n3).size; simp; simp at this; omega)) (by have := (drewN_below HBz.out n3).size; simp; simp at this; omega)) (by have := (drewN_below HBz.out n3).size; simp; simp at this; omega)) (by have := (drewN_below HBz.out n3).size; simp; simp at this; omega)
      · exact (((HBw.out.setCell (by simp) _).setCell (by simp) _).setCell (by simp) _).setCell (by simp) _

set_option maxRecDepth 20000 in
set_option maxHeartbeats 4000000 in
theorem implFrameAt_any (A A' A2 : Option Addr) (c c' c2 : Nat) (ss : List Snd) (ms : List ByteArray) (ls : List Nat) (t : Nat) (w : World) (B : Nat) (hB : B ≤ w.heap.size) (hx : Snds w B A ss) (hy : Strs w B A' ms) (hz : Fs w B A2 ls) (hm : ss.length ≤ 1048576) (hm2 : ms.length ≤ 1048576) (hm3 : ls.length ≤ 1048576) :
    Calls Try.prog 50 #[.slice A ss.length c, .slice A' ms.length c', .slice A2 ls.length c2, fl t] w fun e w' => ∃ A1 c1, e = .returned (.tuple #[(frmAtRes ss ms ls t).val A1 c1, .bool (frmAtOk ss ms ls t)]) ∧ OwnF w' w.heap.size (.slice A1 (frmAtRes ss ms ls t).xs.length c1) (frmAtRes ss ms ls t).xs ∧ Below w.heap.size w w' := by
  have HX := Lib.hid hx; have HY := Lib.hid hy; have HZ := Lib.hid hz; clear hx hy hz
  go_enter Try.func50, Try.ntmps50
  go_wp2_with fail
  generalize hwz : World.alloc w _ = wz
  have zz : wz.heap.size = w.heap.size + 1 := by rw [← hwz]; simp
  have hbz : Below w.heap.size w wz := by rw [← hwz]; exact bl_a _ _
  have hk0 : Blk wz w.heap.size 77 #[.slice none 0 0, fl 0, fl 0, fl 0] := by rw [← hwz]; exact heap_1 _ _
  clear hwz
  have hxz := HX.out.below' hbz hB; have hyz := HY.out.below' hbz hB; have hzz := HZ.out.below' hbz hB
  have HXz := Lib.hid hxz; have HYz := Lib.hid hyz; have HZz := Lib.hid hzz; have HBz := Lib.hid hbz; have HK0 := Lib.hid hk0; clear hxz hyz hzz hbz hk0
  refine (areNames_any A A' c c' ss ms wz B B (by omega) (by omega) HXz.out HYz.out hm hm2).mono ?_
  rintro e w1 ⟨rfl, hb1⟩
  have z1 := hb1.size
  have HB1 := Lib.hid (HBz.out.trans (hb1.mono (show w.heap.size ≤ wz.heap.size by omega)))
  have HK1 := Lib.hid (HK0.out.below hb1)
  have HX1 := Lib.hid (HXz.out.below' hb1 (show B ≤ wz.heap.size by omega)); have HY1 := Lib.hid (HYz.out.below' hb1 (show B ≤ wz.heap.size by omega)); have HZ1 := Lib.hid (HZz.out.below' hb1 (show B ≤ wz.heap.size by omega))
  clear hb1
  have k0 := HK1.out
  have q0 : w1.cell? ⟨w.heap.size, 0, none⟩ = some (.slice none 0 0) := k0.cell_ (j := 0) rfl
  have q1 : w1.cell? ⟨w.heap.size, 1, none⟩ = some (fl 0) := k0.cell_ (j := 1) rfl
  have q2 : w1.cell? ⟨w.heap.size, 2, none⟩ = some (fl 0) := k0.cell_ (j := 2) rfl
  have q3 : w1.cell? ⟨w.heap.size, 3, none⟩ = some (fl 0) := k0.cell_ (j := 3) rfl
  have qf := k0.froz
  clear k0
  cases hn : namesOk ss ms
  · have HN := Lib.hid hn; clear hn
    obtain ⟨e1, e2⟩ := frd_no (ss := ss) (ms := ms) (ls := ls) (t := t) (.inl HN.out)
    have E1 := Lib.hid e1; have E2 := Lib.hid e2; clear e1 e2
    go_wp2_with fail
    refine bodyPost_ret (v := .tuple #[zeroFrm, .bool false]) ?_ rfl ⟨none, 0, by rw [E1.out, E2.out]; rfl, by rw [E2.out]; exact World.ownsRow_nil _ _ _ _, ?_⟩
    · simp [results, Try.results50, go_sem, q0, q1, q2, q3]
    · exact (((((HB1.out).setCell (by simp) _).setCell (by simp) _).setCell (by simp) _).setCell (by simp) _)
  have HN := Lib.hid hn; clear hn
  by_cases hl : ls.length = ms.length
  case neg =>
    have hd : ((ls.length : Int) != (ms.length : Int)) = true := by simp; omega
    have HL := Lib.hid hl; clear hl
    obtain ⟨e1, e2⟩ := frd_no (ss := ss) (ms := ms) (ls := ls) (t := t) (.inr (.inl HL.out))
    have E1 := Lib.hid e1; have E2 := Lib.hid e2; clear e1 e2
    go_wp2_with fail
    refine bodyPost_ret (v := .tuple #[zeroFrm, .bool false]) ?_ rfl ⟨none, 0, by rw [E1.out, E2.out]; rfl, by rw [E2.out]; exact World.ownsRow_nil _ _ _ _, ?_⟩
    · simp [results, Try.results50, go_sem, q0, q1, q2, q3]
    · exact (((((HB1.out).setCell (by simp) _).setCell (by simp) _).setCell (by simp) _).setCell (by simp) _)
  have hd : ((ls.length : Int) != (ms.length : Int)) = false := by simp; omega
  have HL := Lib.hid hl; clear hl
  go_wp2_with fail
  refine (IsFinite_any _ _).mono ?_
  rintro e w' ⟨rfl, n2, rfl⟩
  cases hf : fin32 t
  · have HF := Lib.hid (show least t = false by unfold least; rw [hf]; rfl); clear hf
    obtain ⟨e1, e2⟩ := frd_no (ss := ss) (ms := ms) (ls := ls) (t := t) (.inr (.inr (.inl HF.out)))
    have E1 := Lib.hid e1; have E2 := Lib.hid e2; clear e1 e2
    go_wp2_with fail
    refine bodyPost_ret (v := .tuple #[zeroFrm, .bool false]) ?_ rfl ⟨none, 0, by rw [E1.out, E2.out]; rfl, by rw [E2.out]; exact World.ownsRow_nil _ _ _ _, ?_⟩
    · simp [results, Try.results50, go_sem, q0, q1, q2, q3]
    · exact (((((drewN_below HB1.out n2).setCell (by simp) _).setCell (by simp) _).setCell (by simp) _).setCell (by simp) _)
  cases hg : geF .f32 t 0
  · have HF := Lib.hid (show least t = false by unfold least; rw [hg]; simp)
    obtain ⟨e1, e2⟩ := frd_no (ss := ss) (ms := ms) (ls := ls) (t := t) (.inr (.inr (.inl HF.out)))
    have E1 := Lib.hid e1; have E2 := Lib.hid e2; clear e1 e2
    go_wp2_with fail
    refine bodyPost_ret (v := .tuple #[zeroFrm, .bool false]) ?_ rfl ⟨none, 0, by rw [E1.out, E2.out]; rfl, by rw [E2.out]; exact World.ownsRow_nil _ _ _ _, ?_⟩
    · simp [results, Try.results50, go_sem, q0, q1, q2, q3]
    · exact (((((drewN_below HB1.out n2).setCell (by simp) _).setCell (by simp) _).setCell (by simp) _).setCell (by simp) _)
  have HT := Lib.hid (show least t = true by unfold least; rw [hf, hg]; rfl); clear hf
  go_wp2_with fail
  refine (ContainsAb_any A2 c2 ls _ B (HZ1.out.drewN _) (by omega)).mono ?_
  rintro e w' ⟨rfl, n3, rfl⟩
  cases hab : ls.all above
  · have HAb := Lib.hid hab; clear hab
    obtain ⟨e1, e2⟩ := frd_no (ss := ss) (ms := ms) (ls := ls) (t := t) (.inr (.inr (.inr HAb.out)))
    have E1 := Lib.hid e1; have E2 := Lib.hid e2; clear e1 e2
    go_wp2_with fail
    refine bodyPost_ret (v := .tuple #[zeroFrm, .bool false]) ?_ rfl ⟨none, 0, by rw [E1.out, E2.out]; rfl, by rw [E2.out]; exact World.ownsRow_nil _ _ _ _, ?_⟩
    · simp [results, Try.results50, go_sem, q0, q1, q2, q3]
    · exact (((((drewN_below HB1.out (n2 + n3)).setCell (by simp) _).setCell (by simp) _).setCell (by simp) _).setCell (by simp) _)
  have HAb := Lib.hid hab; clear hab
  go_wp2_with fail
  refine (frameAt_any A A' A2 c c' c2 ss ms ls t _ B (by simp; omega) (HX1.out.drewN (n2 + n3)) (HY1.out.drewN (n2 + n3)) (HZ1.out.drewN (n2 + n3)) hm hm2 HN.out HL.out HT.out HAb.out).mono ?_
  rintro e w9 ⟨A9, c9, rfl, hown, hb⟩
  unfold Frd.val
  have hbw : Below w.heap.size w w9 := (drewN_below HB1.out (n2 + n3)).trans (hb.mono (by have := (drewN_below HB1.out (n2 + n3)).size; simpa using this))
  have HO := Lib.hid hown; have HBw := Lib.hid hbw; have HEq := Lib.hid (frd_yes HN.out HL.out HT.out HAb.out)
  have k0 := Blk.below' (Blk.drewN HK1.out (n2 + n3)) hb (by have := HBz.out.size; simp; omega)
  have q0 : w9.cell? ⟨w.heap.size, 0, none⟩ = some (.slice none 0 0) := k0.cell_ (j := 0) rfl
  have q1 : w9.cell? ⟨w.heap.size, 1, none⟩ = some (fl 0) := k0.cell_ (j := 1) rfl
  have q2 : w9.cell? ⟨w.heap.size, 2, none⟩ = some (fl 0) := k0.cell_ (j := 2) rfl
  have q3 : w9.cell? ⟨w.heap.size, 3, none⟩ = some (fl 0) := k0.cell_ (j := 3) rfl
  have qf := k0.froz
  clear k0
  clear hown hb hbw
  go_wp2_with fail
  refine bodyPost_ret (v := .tuple #[.agg #[.slice A9 (frdAt ss ms ls t).res.xs.length c9, fl (frdAt ss ms ls t).res.p, fl (frdAt ss ms ls t).res.v, fl (frdAt ss ms ls t).res.z], .bool (frdAt ss ms ls t).ok]) ?_ rfl ⟨A9, c9, by rw [HEq.out.1, HEq.out.2]; rfl, ?_, ?_⟩
  · simp [results, Try.results50, go_sem, q0, q1, q2, q3]
  · rw [HEq.out.2]; exact OwnF.less (base := (w1.drewN (n2 + n3)).heap.size) (.set_ (.set_ (.set_ (.set_ HO.out (by have := (drewN_below HB1.out (n2 + n3)).size; simp; simp at this; omega)) (by have := (drewN_below HB1.out (n2 + n3)).size; simp; simp at this; omega)) (by have := (drewN_below HB1.out (n2 + n3)).size; simp; simp at this; omega)) (by have := (drewN_below HB1.out (n2 + n3)).size; simp; simp at this; omega)) (by have := (drewN_below HB1.out (n2 + n3)).size; simp; simp at this; omega)
  · exact (((HBw.out.setCell (by simp) _).setCell (by simp) _).setCell (by simp) _).setCell (by simp) _
end Go.Proofs.Ythmkbgiandncnaa
