/- When lists of numbers, tubes, throats, predictors and sounds are the same. -/
import Derived.Test.YthmkbgiandncnaaSame
import Derived.Test.YthmkbgiandncnaaEqD
namespace Go.Proofs.Ythmkbgiandncnaa
open Go.RowKit

theorem ra_step {p : Nat → Bool} {k : Nat} (h : (List.range k).all p = true) (hp : p k = true) : (List.range (k + 1)).all p = true := by
  rw [List.range_succ, List.all_append, h]; simp [hp]
theorem ra_no {p : Nat → Bool} {k n : Nat} (hk : k < n) (hp : p k = false) : (List.range n).all p = false := by
  rw [List.all_eq_false]; exact ⟨k, List.mem_range.2 hk, by simp [hp]⟩
theorem smAt {xs ys : List Nat} {k : Nat} (h1 : k < xs.length) (h2 : k < ys.length) : sm (xs.getD k 0) (ys.getD k 0) = sm xs[k] ys[k] := by
  simp [List.getD, List.getElem?_eq_getElem h1, List.getElem?_eq_getElem h2]

theorem l01Same_q (x y : Nat) (hx : x < 4294967296) (hy : y < 4294967296) (w : World) :
    Calls Try.prog 127 #[fl x, fl y] w fun e w' => e = .returned (.bool (sm x y)) ∧ ∃ n, w' = w.drewN n :=
  (l01Same_any x y hx hy w).mono fun _ _ h => ⟨h.1, 0, h.2.symm⟩
set_option maxHeartbeats 1000000 in
theorem l01SameAll_any (A A' : Option Addr) (c c' : Nat) (xs ys : List Nat) (w : World) (B B' : Nat) (hx : Fs w B A xs) (hy : Fs w B' A' ys) (fx : fits xs) (fy : fits ys) (hm : xs.length ≤ 1048576) (_hm2 : ys.length ≤ 1048576) :
    Calls Try.prog 126 #[.slice A xs.length c, .slice A' ys.length c'] w fun e w' => e = .returned (.bool (sms xs ys)) ∧ ∃ n, w' = w.drewN n := by
  have HFX := Lib.hid fx; have HFY := Lib.hid fy; clear fx fy
  by_cases hl : ys.length = xs.length
  · rw [hl]
    have HL := Lib.hid hl; clear hl _hm2
    go_enter Try.func126, Try.ntmps126
    go_wp2
    go_loopw [5] (fun i wr => ∃ k n : Nat, k ≤ xs.length ∧ i = .int .i64 k ∧ wr = w.drewN n ∧ (List.range k).all (fun k => sm (xs.getD k 0) (ys.getD k 0)) = true) (fun i _ => xs.length - (intOf i).toNat)
    case atStart => exact ⟨0, 0, Nat.zero_le _, rfl, rfl, rfl⟩
    case round =>
      obtain ⟨k, n, hk, rfl, hwr, hall⟩ := hrel
      have HA := Lib.hid hall; clear hall
      by_cases hlt : k < xs.length
      · have hlt' : k < ys.length := by have := HL.out; omega
        obtain ⟨ad, rfl, hadB, hcell⟩ := (show Fs wr B A xs by rw [hwr]; exact hx).cell hlt
        obtain ⟨ad', rfl, hadB', hcell'⟩ := (show Fs wr B' A' ys by rw [hwr]; exact hy).cell hlt'
        have HW := Lib.hid hwr; clear hwr
        have HX := Lib.hid hx; clear hx
        have HY := Lib.hid hy; clear hy
        cases hq : sm xs[k] ys[k]
        · go_wp2
          go_quiet ((go_at_call 127; exact Calls.quiet_of (bool_of (l01Same_q xs[k] ys[k] (fits_at HFX.out hlt) (fits_at HFY.out hlt') _) ‹_›)))
          go_wp2
          go_ret
          refine ⟨ret_bool ?_, _, by rw [HW.out, World.drewN_drewN]⟩
          unfold sms
          rw [ra_no hlt (p := fun k => sm (xs.getD k 0) (ys.getD k 0)) (by rw [smAt hlt hlt', hq])]
          simp
        · go_wp2
          go_quiet ((go_at_call 127; exact Calls.quiet_of (bool_of (l01Same_q xs[k] ys[k] (fits_at HFX.out hlt) (fits_at HFY.out hlt') _) ‹_›)))
          go_wp2
          go_roundw
          case rel => exact ⟨k + 1, _, by omega, by go_num, by rw [HW.out, World.drewN_drewN], ra_step HA.out (by rw [smAt hlt hlt', hq])⟩
          case measure => simp [intOf]; omega
      · go_wp2
        go_ret
        refine ⟨ret_bool ?_, n, rfl⟩
        unfold sms
        rw [show xs.length = k by omega, HA.out, HL.out, show xs.length = k by omega]
        simp
  · have e : sms xs ys = false := by unfold sms; rw [show (xs.length == ys.length) = false by simp; omega]; rfl
    rw [e]; clear e
    go_enter Try.func126, Try.ntmps126
    go_wp2
    go_ret
    exact ⟨rfl, 0, rfl⟩
end Go.Proofs.Ythmkbgiandncnaa
