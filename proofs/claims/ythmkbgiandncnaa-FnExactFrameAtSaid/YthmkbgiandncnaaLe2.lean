/- How long named sounds are: the reference's and the program's. -/
import Derived.Test.YthmkbgiandncnaaLen
namespace Go.Proofs.Ythmkbgiandncnaa
open Go.RowKit

abbrev c125 : Nat := 1067450368
abbrev c15 : Nat := 1069547520
theorem mul_const {a b m : Nat} {e : Int} (ha : nanB .f32 a = false) (hb : Ieee.single.read b = .number false m e) (hm : m ≠ 0) : ∃ r, floatBits .mul .f32 a b = some r ∧ mul32 a b = r ∧ nanB .f32 r = false := by
  have : ∃ r, Ieee.single.mul a b = some r := by
    unfold Ieee.Format.mul
    rw [hb]
    unfold nanB FloatKind.decode at ha
    have ha' : (Ieee.single.read a).isNaN = false := ha
    generalize Ieee.single.read a = d at ha'
    cases d with
    | number s m' e' => exact ⟨_, rfl⟩
    | infinity s => simp [Ieee.Datum.product, hm]
    | nan s f => cases ha'
  obtain ⟨r, hr⟩ := this
  have hr' : floatBits .mul .f32 a b = some r := hr
  exact ⟨r, hr', by unfold mul32 arF; rw [hr']; rfl, floatBits_num hr'⟩
theorem mul_125 {a : Nat} (ha : nanB .f32 a = false) : ∃ r, floatBits .mul .f32 a c125 = some r ∧ mul32 a c125 = r ∧ nanB .f32 r = false := mul_const (m := 10485760) (e := -23) ha (by decide +kernel) (by decide)
theorem mul_15 {a : Nat} (ha : nanB .f32 a = false) : ∃ r, floatBits .mul .f32 a c15 = some r ∧ mul32 a c15 = r ∧ nanB .f32 r = false := mul_const (m := 12582912) (e := -23) ha (by decide +kernel) (by decide)

def longOf (ss : List Snd) (nm : ByteArray) : Nat := ((ss.find? (named nm)).map Snd.long).getD 0
theorem longOf_at {ss : List Snd} {nm : ByteArray} {k : Nat} (hk : k < ss.length) (h : idx (named nm) ss = k) : longOf ss nm = ss[k].long := by
  unfold idx at h
  unfold longOf
  cases hf : ss.findIdx? (named nm) with
  | none => rw [hf] at h; exact absurd h (by simp)
  | some i =>
    rw [hf] at h
    have : i = k := by have h' : (i : Int) = k := h; omega
    subst this
    rw [List.findIdx?_eq_some_iff_getElem] at hf
    obtain ⟨hi, hp, hb⟩ := hf
    have : ss.find? (named nm) = some ss[i] := by
      rw [List.find?_eq_some_iff_getElem]
      exact ⟨hp, i, hi, rfl, fun j hj => by simpa using hb j hj⟩
    rw [this]; rfl
theorem longOf_bare {ss ts : List Snd} (h : sames ss ts) (nm : ByteArray) : longOf ss nm = longOf ts nm := by
  have e : ∀ xs : List Snd, longOf xs nm = longOf (xs.map Snd.bare) nm := fun xs => by
    unfold longOf
    rw [List.find?_map, show (named nm ∘ Snd.bare) = named nm from rfl, Option.map_map]; rfl
  rw [e ss, e ts, show ss.map Snd.bare = _ from h]
/-- how long the i-th of names is -/
def lenAt (ss : List Snd) (ms : List ByteArray) (qs : List Bool) (i : Nat) : Nat :=
  let x := longOf ss (ms.getD i ByteArray.empty)
  let y := if qs.getD i false then mul32 x c125 else x
  if i + 1 = ms.length then mul32 y c15 else y
def lens (ss : List Snd) (ms : List ByteArray) (qs : List Bool) : List Nat := (List.range ms.length).map (lenAt ss ms qs)
theorem lens_len (ss : List Snd) (ms : List ByteArray) (qs : List Bool) : (lens ss ms qs).length = ms.length := by simp [lens]
theorem lens_bare {ss ts : List Snd} (h : sames ss ts) (ms : List ByteArray) (qs : List Bool) : lens ss ms qs = lens ts ms qs := by
  unfold lens
  rw [show lenAt ss ms qs = lenAt ts ms qs from funext fun i => by unfold lenAt; rw [longOf_bare h]]
theorem lens_get (ss : List Snd) (ms : List ByteArray) (qs : List Bool) (k : Nat) (h : k < (lens ss ms qs).length) : (lens ss ms qs)[k] = lenAt ss ms qs k := by simp [lens]

/-- what a step of both loops reckons, way by way -/
theorem lenAt_is {ss : List Snd} {ms : List ByteArray} {qs : List Bool} {k j : Nat} (hk : k < ms.length) (hq : k < qs.length) (hj : j < ss.length) (he : idx (named ms[k]) ss = j) :
    lenAt ss ms qs k = (if k + 1 = ms.length then mul32 (if qs[k] then mul32 ss[j].long c125 else ss[j].long) c15 else if qs[k] then mul32 ss[j].long c125 else ss[j].long) := by
  unfold lenAt
  rw [show ms.getD k ByteArray.empty = ms[k] by simp [List.getD, hk], show qs.getD k false = qs[k] by simp [List.getD, hq], longOf_at hj he]

def numRet (A : Option Addr) (c : Nat) (xs : List Nat) : Array Value := if allFin xs then #[.slice A xs.length c, .bool true] else #[.slice none 0 0, .bool false]
theorem numRet_yes {A : Option Addr} {c : Nat} {xs : List Nat} (h : allFin xs = true) : numRet A c xs = #[.slice A xs.length c, .bool true] := by unfold numRet; rw [h]; rfl
theorem numRet_no {A : Option Addr} {c : Nat} {xs : List Nat} (h : allFin xs = false) : numRet A c xs = #[.slice none 0 0, .bool false] := by unfold numRet; rw [h]; rfl
set_option maxHeartbeats 400000 in
theorem l02List_any (A : Option Addr) (c : Nat) (xs : List Nat) (w : World) (B : Nat) (hx : Fs w B A xs) (hm : xs.length ≤ 1048576) :
    Calls Try.prog 138 #[.slice A xs.length c] w fun e w' => e = .returned (.tuple (numRet A c xs)) ∧ ∃ n, w' = w.drewN n := by
  go_enter Try.func138, Try.ntmps138
  go_wp2
  go_loopw [4] (fun i wr => ∃ k n : Nat, k ≤ xs.length ∧ i = .int .i64 k ∧ (xs.take k).all fin32 = true ∧ wr = w.drewN n) (fun i _ => xs.length - (intOf i).toNat)
  case atStart => exact ⟨0, 0, Nat.zero_le _, rfl, rfl, rfl⟩
  case round =>
    obtain ⟨k, n, hk, rfl, hall, rfl⟩ := hrel
    by_cases hlt : k < xs.length
    · obtain ⟨ad, rfl, hadB, hcell⟩ := hx.cell hlt
      have HA := Lib.hid hall; clear hall
      have HX := Lib.hid hx; clear hx
      cases hf : fin32 xs[k]
      · have HF := Lib.hid hf; clear hf
        go_wp2_with fail
        refine (l01Finite_any _ _).mono ?_
        rintro e w' ⟨rfl, n', rfl⟩
        rw [HF.out]
        go_wp2_with fail
        go_ret2
        refine ⟨?_, _, rfl⟩
        rw [numRet_no (all_no (k := k) (h := hlt) HF.out)]; rfl
      · have HF := Lib.hid hf; clear hf
        go_wp2_with fail
        refine (l01Finite_any _ _).mono ?_
        rintro e w' ⟨rfl, n', rfl⟩
        rw [HF.out]
        go_wp2_with fail
        go_roundw
        case rel => exact ⟨k + 1, _, by omega, by go_num, all_step (h := hlt) HA.out HF.out, rfl⟩
        case measure => simp [intOf]; omega
    · have HA := Lib.hid (show allFin xs = true from all_end hall hlt); clear hall
      have HX := Lib.hid hx; clear hx
      go_wp2_with fail
      go_ret2
      exact ⟨by rw [numRet_yes HA.out]; rfl, _, rfl⟩
set_option maxHeartbeats 400000 in
theorem checkedNumbers_any (A : Option Addr) (c : Nat) (xs : List Nat) (w : World) (B : Nat) (hx : Fs w B A xs) (hm : xs.length ≤ 1048576) :
    Calls Try.prog 141 #[.slice A xs.length c] w fun e w' => e = .returned (.tuple (numRet A c xs)) ∧ ∃ n, w' = w.drewN n := by
  have HX := Lib.hid hx; clear hx
  go_enter Try.func141, Try.ntmps141
  go_wp2_with fail
  refine (areFinite_any A c xs w B HX.out (by omega)).mono ?_
  rintro e w' ⟨rfl, n, rfl⟩
  cases hf : allFin xs
  · have HF := Lib.hid (numRet_no (A := A) (c := c) hf); clear hf
    go_wp2_with fail
    go_ret2
    exact ⟨by rw [HF.out]; rfl, _, rfl⟩
  · have HF := Lib.hid (numRet_yes (A := A) (c := c) hf); clear hf
    go_wp2_with fail
    go_ret2
    exact ⟨by rw [HF.out]; rfl, _, rfl⟩

def lensRes (ss : List Snd) (ms : List ByteArray) (qs : List Bool) : List Nat := if allFin (lens ss ms qs) then lens ss ms qs else []
theorem has_at {ss : List Snd} {ms : List ByteArray} (h : namesOk ss ms = true) {k : Nat} (hk : k < ms.length) : ∃ (j : Nat) (_ : j < ss.length), idx (named ms[k]) ss = j := by
  unfold namesOk at h
  simp only [Bool.and_eq_true, List.all_eq_true] at h
  have := h.2 ms[k] (List.getElem_mem hk)
  rcases idx_cases (named ms[k]) ss with ⟨_, ha⟩ | ⟨j, hj, he, _, _⟩
  · unfold has at this; rw [ha] at this; cases this
  · exact ⟨j, hj, he⟩
theorem names_ok {ss : List Snd} {ms : List ByteArray} (h : namesOk ss ms = true) : soundsOk ss = true := by
  unfold namesOk at h; simp only [Bool.and_eq_true] at h; exact h.1.1
theorem lens_take (ss : List Snd) (ms : List ByteArray) (qs : List Bool) (k : Nat) (h : k < ms.length) : (lens ss ms qs).take (k + 1) = (lens ss ms qs).take k ++ [lenAt ss ms qs k] := by
  rw [List.take_succ_eq_append_getElem (by rw [lens_len]; exact h), lens_get]
theorem long_num {ss : List Snd} (h : soundsOk ss = true) {j : Nat} (hj : j < ss.length) : nanB .f32 ss[j].long = false := fin32_num (ok_fin (ok_at h (List.getElem_mem hj))).1

theorem len_mul {x : Nat} (h : nanB .f32 x = false) :
    (∀ w, (binOp .mul 29 (.float .f32 x) (.float .f32 c125)).run Try.prog w = .ok (.float .f32 (mul32 x c125)) w) ∧
    (∀ w, (binOp .mul 29 (.float .f32 x) (.float .f32 c15)).run Try.prog w = .ok (.float .f32 (mul32 x c15)) w) ∧
    (∀ w, (binOp .mul 29 (.float .f32 (mul32 x c125)) (.float .f32 c15)).run Try.prog w = .ok (.float .f32 (mul32 (mul32 x c125) c15)) w) := by
  obtain ⟨r1, hr1, e1, n1⟩ := mul_125 h
  obtain ⟨r2, hr2, e2, _⟩ := mul_15 h
  obtain ⟨r3, hr3, e3, _⟩ := mul_15 n1
  refine ⟨fun w => ?_, fun w => ?_, fun w => ?_⟩
  · rw [e1]; exact run_float_arith w _ _ _ _ _ _ hr1
  · rw [e2]; exact run_float_arith w _ _ _ _ _ _ hr2
  · rw [e1, e3]; exact run_float_arith w _ _ _ _ _ _ hr3
set_option maxRecDepth 20000 in
set_option maxHeartbeats 4000000 in
theorem l06Lengths_any (A A' A2 : Option Addr) (c c' c2 : Nat) (ss : List Snd) (ms : List ByteArray) (qs : List Bool) (w : World) (B B' B2 : Nat) (hB : B ≤ w.heap.size) (hB' : B' ≤ w.heap.size) (hB2 : B2 ≤ w.heap.size) (hx : Snds w B A ss) (hy : Strs w B' A' ms) (hz : Boos w B2 A2 qs) (hm : ss.length ≤ 1048576) (hm2 : ms.length ≤ 1048576)
    (hok : namesOk ss ms = true) (hqs : qs.length = ms.length) :
    Calls Try.prog 100 #[.slice A ss.length c, .slice A' ms.length c', .slice A2 ms.length c2] w fun e w' => ∃ v, e = .returned (.tuple #[v, .bool (allFin (lens ss ms qs))]) ∧ OwnF w' w.heap.size v (lensRes ss ms qs) ∧ Below w.heap.size w w' := by
  obtain ⟨i0, hi, hz0, hz1, hz2⟩ := info_parts infoF
  have HX := Lib.hid hx; have HY := Lib.hid hy; have HZ := Lib.hid hz; have HOk := Lib.hid hok; have HQ := Lib.hid hqs; clear hx hy hz hok hqs
  have hown0 : (w.alloc (.cells #[] 29)).ownsRow w.heap.size 29 1 (.slice (some ⟨w.heap.size, 0, none⟩) 0 0) 0 [] := World.ownsRow_lit _ #[] 0 (Nat.le_refl _) (by unfold maxLen; omega) rfl
  have HO := Lib.hid hown0; clear hown0
  go_enter Try.func100, Try.ntmps100
  go_wp2_with fail
  go_loopw [8, 9] (fun v i wr => ∃ k : Nat, k ≤ ms.length ∧ i = .int .i64 k ∧ wr.ownsRow w.heap.size 29 1 v k (((lens ss ms qs).take k).map fl) ∧ Below w.heap.size w wr) (fun _ i _ => ms.length - (intOf i).toNat)
  case atStart => exact ⟨0, Nat.zero_le _, rfl, HO.out, bl_a _ _⟩
  case round =>
    obtain ⟨k, hk, rfl, hown, hb⟩ := hrel
    have hsz := hb.size
    have HR := Lib.hid hown; have HB := Lib.hid hb; clear hown hb
    by_cases hlt : k < ms.length
    · obtain ⟨j, hj, he⟩ := has_at HOk.out hlt
      obtain ⟨adm, hAm, _, hcm⟩ := (HY.out.below' HB.out hB').cell hlt
      obtain ⟨adq, hAq, _, hcq⟩ := (HZ.out.below' HB.out hB2).cell (k := k) (by rw [HQ.out]; exact hlt)
      obtain ⟨ads, hAs, _, hat, _⟩ := (HX.out.below' HB.out hB).at_ hj
      obtain ⟨_, _, a2, _, _, _⟩ := cells_at hat
      have hqk : k < qs.length := by rw [HQ.out]; exact hlt
      have hval := lenAt_is hlt hqk hj he
      obtain ⟨m1, m2, m3⟩ := len_mul (long_num (names_ok HOk.out) hj)
      clear hat
      subst hAm; subst hAq; subst hAs
      have HE := Lib.hid he; clear he
      have hLL := Lib.hid (lens_take ss ms qs k hlt)
      by_cases hl : k + 1 = ms.length
      all_goals
        cases hq : qs[k]
      all_goals
        simp only [hq, hl, if_true, if_false, Bool.false_eq_true] at hval
        rw [hq] at hcq
        have HV := Lib.hid hval; clear hval hq
        have hL1 : ((k : Int) == (ms.length : Int) - 1) = decide (k + 1 = ms.length) := by
          rw [Bool.eq_iff_iff]; simp; omega
        simp only [hl, decide_true, decide_false] at hL1
        go_wp2_with fail
        refine (l06Find_any (some ads) c ss ms[k] wr B (HX.out.below' HB.out hB) hm).mono ?_
        rintro e w' ⟨rfl, rfl⟩
        rw [HE.out]
        go_wp2_with (at_builtin; refine wpList_append_own_at _ rfl _ _ _ rfl w.heap.size 29 i0 (.float .f32 0) 1 4 Try.underlying38 hi hz0 hz1 hz2 rfl (by decide) _ k _ rfl (HR.out.alloc _) ⟨_, 0, none⟩ 1 1 [fl _] rfl rfl (cell_one_new _ (fl _) _) (one_fl [_]) (by unfold maxLen; omega) (by omega) (by simp; omega) ?_; intro v' w2 hown2 hgrow _ _)
        have hb2 : Below w.heap.size wr w2 := ((Below.refl _ _).alloc (by omega) _).trans (grown_below (v := u8) hgrow (by simp; omega) fun g hg => (World.ownsRow.lt HR.out g hg).1)
        have HB2 := Lib.hid hb2; have HO2 := Lib.hid hown2; clear hb2 hown2 hgrow
        go_roundw
        case rel =>
          refine ⟨k + 1, by omega, by go_num, ?_, HB.out.trans HB2.out⟩
          rw [hLL.out, List.map_append, HV.out]
          exact HO2.out
        case measure => simp [intOf]; omega
    · have hkn : k = ms.length := by omega
      have hfin : OwnF wr w.heap.size u8 (lens ss ms qs) := by
        have h := HR.out
        rw [List.take_of_length_le (by rw [lens_len]; omega)] at h
        unfold OwnF; rw [lens_len, ← hkn]; exact h
      obtain ⟨Ar, cr, hu, hfs⟩ := hfin.reads
      subst hu
      have hll := lens_len ss ms qs
      have gv := l02List_any Ar cr (lens ss ms qs) wr _ hfs (by omega)
      have HF := Lib.hid hfin; clear hfin hfs
      rw [hll] at gv
      have hnum : (lens ss ms qs).length = ms.length := hll
      have GV := Lib.hid gv; clear gv hkn
      rw [hll]
      have HLL := Lib.hid hll; clear hll hnum
      go_wp2_with fail
      refine GV.out.mono ?_
      rintro e w' ⟨he, n, rfl⟩
      subst he
      cases hf : allFin (lens ss ms qs)
      · have e1 : numRet Ar cr (lens ss ms qs) = #[.slice none 0 0, .bool false] := numRet_no hf
        have e2 : lensRes ss ms qs = [] := by unfold lensRes; rw [hf]; rfl
        rw [e1]
        have E2 := Lib.hid e2; have E1 := Lib.hid hf; clear e1 e2 hf
        go_wp2_with fail
        go_ret2
        exact ⟨.slice none 0 0, ret_vb rfl E1.out.symm, by rw [E2.out]; exact World.ownsRow_nil _ _ _ _, drewN_below HB.out _⟩
      · have e1 : numRet Ar cr (lens ss ms qs) = #[.slice Ar (lens ss ms qs).length cr, .bool true] := numRet_yes hf
        have e2 : lensRes ss ms qs = lens ss ms qs := by unfold lensRes; rw [hf]; rfl
        rw [e1]
        have E2 := Lib.hid e2; have E1 := Lib.hid hf; clear e1 e2 hf
        go_wp2_with fail
        go_ret2
        exact ⟨.slice Ar (lens ss ms qs).length cr, ret_vb rfl E1.out.symm, by rw [E2.out]; exact HF.out.drewN n, drewN_below HB.out _⟩
end Go.Proofs.Ythmkbgiandncnaa
