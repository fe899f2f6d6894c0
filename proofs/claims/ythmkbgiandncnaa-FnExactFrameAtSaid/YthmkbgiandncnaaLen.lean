/- Names of sounds, and how long the sounds are: the reference's and the program's. -/
import Derived.Test.YthmkbgiandncnaaVec
import Derived.Test.YthmkbgiandncnaaDrp
namespace Go.Proofs.Ythmkbgiandncnaa
open Go.RowKit

def has (ss : List Snd) (nm : ByteArray) : Bool := ss.any (named nm)
def namesOk (ss : List Snd) (ms : List ByteArray) : Bool := soundsOk ss && inI ms.length 1 24 && ms.all (has ss)
theorem namesOk_bare {ss ts : List Snd} (h : sames ss ts) (ms : List ByteArray) : namesOk ss ms = namesOk ts ms := by
  unfold namesOk
  rw [soundsOk_bare h, show has ss = has ts from funext fun nm => sames_any h nm]

set_option maxHeartbeats 1000000 in
theorem l06Names_any (A A' : Option Addr) (c c' : Nat) (ss : List Snd) (ms : List ByteArray) (w : World) (B B' : Nat) (hx : Snds w B A ss) (hy : Strs w B' A' ms) (hm : ss.length ≤ 1048576) (hm2 : ms.length ≤ 1048576) :
    Calls Try.prog 99 #[.slice A ss.length c, .slice A' ms.length c'] w fun e w' => e = .returned (.bool (namesOk ss ms)) ∧ ∃ n, w' = w.drewN n := by
  have HX := Lib.hid hx; have HY := Lib.hid hy; clear hx hy
  by_cases h24 : ms.length ≤ 24
  · go_enter Try.func99, Try.ntmps99
    go_wp2
    go_loop [5] (fun i => ∃ k : Nat, k ≤ ms.length ∧ i = .int .i64 k ∧ (ms.take k).all (has ss) = true) (fun i => ms.length - (intOf i).toNat)
    case atStart => exact ⟨0, Nat.zero_le _, rfl, rfl⟩
    case round =>
      obtain ⟨k, hk, rfl, hall⟩ := hrel
      have HA := Lib.hid hall; clear hall
      by_cases hlt : k < ms.length
      · obtain ⟨ad, hA, hadB, hcell⟩ := HY.out.cell hlt
        subst hA
        rcases idx_cases (named ms[k]) ss with ⟨he, ha⟩ | ⟨j, hj, he, ha, hp⟩
        · have HE := Lib.hid he; have HN := Lib.hid (show has ss ms[k] = false from ha); clear he ha
          go_wp2_with fail
          refine (l06Find_any A c ss ms[k] _ B HX.out hm).mono ?_
          rintro e w' ⟨rfl, rfl⟩
          rw [HE.out]
          go_wp2_with fail
          go_ret
          exact ⟨ret_bool (by unfold namesOk; rw [all_no (k := k) (h := hlt) HN.out]; simp), 0, rfl⟩
        · have HE := Lib.hid he; have HN := Lib.hid (show has ss ms[k] = true from ha); clear he ha hp
          go_wp2_with fail
          refine (l06Find_any A c ss ms[k] _ B HX.out hm).mono ?_
          rintro e w' ⟨rfl, rfl⟩
          rw [HE.out]
          go_wp2_with fail
          go_round
          case rel => exact ⟨k + 1, by omega, by go_num, all_step (h := hlt) HA.out HN.out⟩
          case measure => simp [intOf]; omega
      · have HAll := Lib.hid (all_end HA.out hlt)
        go_wp2_with fail
        refine (l06Are_any A c ss w B HX.out hm).mono ?_
        rintro e w' ⟨rfl, n, rfl⟩
        cases hok : soundsOk ss
        · go_wp2
          go_ret
          exact ⟨ret_bool (by unfold namesOk; rw [hok]; rfl), n, rfl⟩
        · go_wp2
          all_goals go_ret
          all_goals exact ⟨ret_bool (by unfold namesOk inI; rw [hok, HAll.out]; simp; try omega), n, rfl⟩
  · have hno : namesOk ss ms = false := by unfold namesOk inI; simp; omega
    have HN := Lib.hid hno; clear hno
    go_enter Try.func99, Try.ntmps99
    go_wp2
    go_loop [5] (fun i => i = .int .i64 0) (fun i => 0)
    case atStart => exact rfl
    case round =>
      subst hrel
      go_wp2_with fail
      refine (l06Are_any A c ss w B HX.out hm).mono ?_
      rintro e w' ⟨rfl, n, rfl⟩
      cases hok : soundsOk ss
      all_goals
        go_wp2
        go_ret
        exact ⟨ret_bool (by rw [HN.out]; try (simp; omega)), n, rfl⟩

/-! ## the program's test -/
set_option maxHeartbeats 400000 in
theorem areNames1_any (A : Option Addr) (c : Nat) (ss : List Snd) (nm : ByteArray) (p : Addr) (w : World) (B : Nat) (hB : B ≤ w.heap.size) (hx : Snds w B A ss) (hm : ss.length ≤ 1048576) (hc : w.cell? p = some (.slice A ss.length c)) :
    Calls Try.prog 140 #[.string nm, .pointer (some p)] w fun e w' => e = .returned (.bool (!has ss nm)) ∧ Below w.heap.size w w' := by
  have HX := Lib.hid hx; clear hx
  rcases idx_cases (named nm) ss with ⟨he, ha⟩ | ⟨j, hj, he, ha, hp⟩
  · have HE := Lib.hid he; have HN := Lib.hid (show has ss nm = false from ha); clear he ha
    go_enter Try.func140, Try.ntmps140
    go_wp2_with fail
    refine (findSound_any A c ss nm w B hB HX.out hm).mono ?_
    rintro e w' ⟨rfl, hb⟩
    rw [HE.out]
    have HB := Lib.hid hb; clear hb
    go_wp2_with fail
    go_ret
    exact ⟨ret_bool (by rw [HN.out]; rfl), HB.out⟩
  · have HE := Lib.hid he; have HN := Lib.hid (show has ss nm = true from ha); clear he ha hp
    go_enter Try.func140, Try.ntmps140
    go_wp2_with fail
    refine (findSound_any A c ss nm w B hB HX.out hm).mono ?_
    rintro e w' ⟨rfl, hb⟩
    rw [HE.out]
    have HB := Lib.hid hb; clear hb
    go_wp2_with fail
    go_ret
    exact ⟨ret_bool (by rw [HN.out]; simp), HB.out⟩

set_option maxHeartbeats 400000 in
theorem IndexNames_any (A A' : Option Addr) (c c' : Nat) (ss : List Snd) (ms : List ByteArray) (p : Addr) (w : World) (B B' : Nat) (hB : B ≤ w.heap.size) (hB' : B' ≤ w.heap.size) (hx : Snds w B A ss) (hy : Strs w B' A' ms) (hm : ss.length ≤ 1048576) (hm2 : ms.length ≤ 1048576) (hp : p.block < w.heap.size) (hc : w.cell? p = some (.slice A ss.length c)) :
    Calls Try.prog 170 #[.slice A' ms.length c', .func (.func 140) #[] #[.pointer (some p)]] w fun e w' => e = .returned (.int .i64 (idx (fun nm => !has ss nm) ms)) ∧ Below w.heap.size w w' := by
  have HX := Lib.hid hx; have HY := Lib.hid hy; clear hx hy
  go_enter Try.func170, Try.ntmps170
  go_wp2
  go_loopw [8] (fun i wr => ∃ k : Nat, k ≤ ms.length ∧ i = .int .i64 k ∧ (ms.take k).any (fun nm => !has ss nm) = false ∧ Below w.heap.size w wr) (fun i _ => ms.length - (intOf i).toNat)
  case atStart => exact ⟨0, Nat.zero_le _, rfl, rfl, Below.refl _ _⟩
  case round =>
    obtain ⟨k, hk, rfl, hall, hb⟩ := hrel
    have HA := Lib.hid hall; clear hall
    by_cases hlt : k < ms.length
    · obtain ⟨ad, hA, hadB, hcell⟩ := (HY.out.below' hb hB').cell hlt
      subst hA
      have hcp : wr.cell? p = some (.slice A ss.length c) := by rw [hb.cell hp]; exact hc
      have hsz := hb.size
      have HB := Lib.hid hb; clear hb hc
      go_wp2_with fail
      refine (areNames1_any A c ss ms[k] p wr B (by omega) (HX.out.below' HB.out hB) hm hcp).mono ?_
      rintro e w' ⟨rfl, hb'⟩
      have HB' := Lib.hid (bl_step HB.out hb'); clear hb' hcp
      cases hh : has ss ms[k]
      · have HH := Lib.hid hh; clear hh
        go_wp2
        go_ret
        exact ⟨ret_int (idx_hit hlt HA.out (by rw [HH.out]; rfl)).symm, HB'.out⟩
      · have HH := Lib.hid hh; clear hh
        go_wp2
        go_roundw
        case rel => exact ⟨k + 1, by omega, by go_num, any_take_succ hlt HA.out (by rw [HH.out]; rfl), HB'.out⟩
        case measure => simp [intOf]; omega
    · have HB := Lib.hid hb; clear hb
      go_wp2
      go_ret
      exact ⟨ret_int (idx_none (any_end HA.out hlt)).symm, HB.out⟩
set_option maxHeartbeats 400000 in
theorem ContainsNames_any (A A' : Option Addr) (c c' : Nat) (ss : List Snd) (ms : List ByteArray) (p : Addr) (w : World) (B B' : Nat) (hB : B ≤ w.heap.size) (hB' : B' ≤ w.heap.size) (hx : Snds w B A ss) (hy : Strs w B' A' ms) (hm : ss.length ≤ 1048576) (hm2 : ms.length ≤ 1048576) (hp : p.block < w.heap.size) (hc : w.cell? p = some (.slice A ss.length c)) :
    Calls Try.prog 139 #[.slice A' ms.length c', .func (.func 140) #[] #[.pointer (some p)]] w fun e w' => e = .returned (.bool (!ms.all (has ss))) ∧ Below w.heap.size w w' := by
  have HX := Lib.hid hx; have HY := Lib.hid hy; have HC := Lib.hid hc; clear hx hy hc
  have hany : ms.any (fun nm => !has ss nm) = !ms.all (has ss) := by rw [List.any_eq_not_all_not]; simp
  go_enter Try.func139, Try.ntmps139
  have HAny := Lib.hid hany; clear hany
  go_wp2_with fail
  refine (IndexNames_any A A' c c' ss ms p w B B' hB hB' HX.out HY.out hm hm2 hp HC.out).mono ?_
  rintro e w' ⟨rfl, hb⟩
  have HB := Lib.hid hb; clear hb
  rcases idx_cases (fun nm => !has ss nm) ms with ⟨h1, h2⟩ | ⟨k, hk, h1, h2, _⟩
  · rw [h1]
    have H2 := Lib.hid h2; clear h1 h2
    go_wp2
    go_ret
    exact ⟨ret_bool (by rw [← HAny.out, H2.out]), HB.out⟩
  · rw [h1]
    have H2 := Lib.hid h2; clear h1 h2
    go_wp2
    go_ret
    exact ⟨ret_bool (by rw [← HAny.out, H2.out]), HB.out⟩

set_option maxHeartbeats 1000000 in
theorem areNames_any (A A' : Option Addr) (c c' : Nat) (ss : List Snd) (ms : List ByteArray) (w : World) (B B' : Nat) (hB : B ≤ w.heap.size) (hB' : B' ≤ w.heap.size) (hx : Snds w B A ss) (hy : Strs w B' A' ms) (hm : ss.length ≤ 1048576) (hm2 : ms.length ≤ 1048576) :
    Calls Try.prog 101 #[.slice A ss.length c, .slice A' ms.length c'] w fun e w' => e = .returned (.bool (namesOk ss ms)) ∧ Below w.heap.size w w' := by
  have HX := Lib.hid hx; have HY := Lib.hid hy; clear hx hy
  go_enter Try.func101, Try.ntmps101
  go_wp2_with fail
  generalize hwz : World.alloc w _ = wz
  have zz : wz.heap.size = w.heap.size + 1 := by rw [← hwz]; simp
  have hbz : Below w.heap.size w wz := by rw [← hwz]; exact bl_a _ _
  have hcz : wz.cell? ⟨w.heap.size, 0, none⟩ = some (.slice A ss.length c) := by rw [← hwz]; exact box_cell (Below.refl _ _) rfl
  clear hwz
  have HZ := Lib.hid hbz; have HC := Lib.hid hcz; clear hbz hcz
  refine (AreSounds_any A c ss wz B (by omega) (HX.out.below' HZ.out hB) hm).mono ?_
  rintro e w1 ⟨rfl, hb⟩
  have z1 := hb.size
  have hc1 : w1.cell? ⟨w.heap.size, 0, none⟩ = some (.slice A ss.length c) := by rw [hb.cell (by simp; omega)]; exact HC.out
  have HB := Lib.hid (HZ.out.trans (hb.mono (by omega))); have HC1 := Lib.hid hc1; clear hb hc1
  cases hok : soundsOk ss
  · have hno : namesOk ss ms = false := by unfold namesOk; rw [hok]; rfl
    have HN := Lib.hid hno; clear hok hno
    go_wp2
    go_ret
    exact ⟨ret_bool (by rw [HN.out]), HB.out⟩
  · have HO := Lib.hid hok; clear hok
    go_wp2_with fail
    refine (within_any _ _ _ _).mono ?_
    rintro e w' ⟨rfl, rfl⟩
    cases hin : inI ms.length 1 24
    · have hno : namesOk ss ms = false := by unfold namesOk; rw [hin]; simp
      have HN := Lib.hid hno; clear hin hno
      go_wp2
      go_ret
      exact ⟨ret_bool (by rw [HN.out]), HB.out⟩
    · have HI := Lib.hid hin; clear hin
      go_wp2_with fail
      refine (ContainsNames_any A A' c c' ss ms ⟨w.heap.size, 0, none⟩ w1 B B' (by omega) (by omega) (HX.out.below' HB.out hB) (HY.out.below' HB.out hB') hm hm2 (by simp; omega) HC1.out).mono ?_
      rintro e w2 ⟨rfl, hb2⟩
      have HB2 := Lib.hid (bl_step HB.out hb2); clear hb2
      go_wp2
      go_ret
      exact ⟨ret_bool (by unfold namesOk; rw [HO.out, HI.out]; simp), HB2.out⟩
end Go.Proofs.Ythmkbgiandncnaa
