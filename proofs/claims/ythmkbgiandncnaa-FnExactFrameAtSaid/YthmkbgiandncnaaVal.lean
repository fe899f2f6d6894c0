/- Which tubes, throats, predictors, sounds, desks are valid: the program's tests and the reference's come to the same. -/
import Derived.Test.YthmkbgiandncnaaNum
import Derived.Deep.QuietTactic
import Derived.BigQuiet
namespace Go.Proofs.Ythmkbgiandncnaa
open Go.RowKit

/-! ## the plain tests -/
def tubeOk (xs : List Nat) (loss throat lips : Nat) : Bool :=
  areasOk xs && gtF .f32 loss 0 && leF .f32 loss 1065353216 && betw throat 3212836864 1065353216 && betw lips 3212836864 1065353216
def throatOk (p o c b s : Nat) : Bool :=
  betw p 1073741824 1148846080 && above o && above c && leF .f32 (add32 o c) 1065353216 && least b && betw s 0 1056964608
def predOk (xs : List Nat) (gain : Nat) : Bool := inI xs.length 1 16 && allFin xs && least gain

theorem pos_inf {x : Nat} (h1 : gtF .f32 x 0 = true) (h2 : fin32 x = false) : Ieee.single.read x = .infinity false := by
  cases hd : Ieee.single.read x with
  | number s m e => rw [fin32_of_number hd] at h2; cases h2
  | nan s f =>
    have hn : nanB .f32 x = true := by unfold nanB FloatKind.decode; rw [show FloatKind.f32.format.read x = .nan s f from hd]; rfl
    unfold gtF at h1; rw [order_nan_left hn] at h1; cases h1
  | infinity s =>
    cases s
    · rfl
    · exfalso
      unfold gtF Ieee.Format.order at h1
      rw [show FloatKind.f32.format.read x = .infinity true from hd] at h1
      revert h1
      decide +kernel
theorem pos_read {x : Nat} (h1 : gtF .f32 x 0 = true) : (∃ s m e, Ieee.single.read x = .number s m e) ∨ Ieee.single.read x = .infinity false := by
  cases h : fin32 x
  · exact .inr (pos_inf h1 h)
  · exact .inl (number_of_fin32 h)
theorem sum_one_fin {o c : Nat} (h1 : gtF .f32 o 0 = true) (h2 : gtF .f32 c 0 = true) (h3 : leF .f32 (add32 o c) 1065353216 = true) : fin32 o = true ∧ fin32 c = true := by
  have no : ∀ x, x = 0x7f800000 → leF .f32 x 1065353216 = false := by rintro x rfl; decide +kernel
  have key : (Ieee.single.read o).sum (Ieee.single.read c) = some (.infinity false) → False := by
    intro hs
    have : add32 o c = 0x7f800000 := by
      show ((Ieee.single.add o c).getD _) = _
      unfold Ieee.Format.add
      rw [hs]
      decide +kernel
    rw [no _ this] at h3; cases h3
  rcases pos_read h1 with ⟨s, m, e, ho⟩ | ho <;> rcases pos_read h2 with ⟨s', m', e', hc⟩ | hc
  · exact ⟨fin32_of_number ho, fin32_of_number hc⟩
  all_goals exfalso; rw [ho, hc] at key; exact key rfl

theorem throat_raw (p o c b s : Nat) : throatOk p o c b s = (betw p 1073741824 1148846080 && gtF .f32 o 0 && gtF .f32 c 0 && leF .f32 (add32 o c) 1065353216 && fin32 b && geF .f32 b 0 && betw s 0 1056964608) := by
  unfold throatOk above least
  cases h1 : gtF .f32 o 0
  · simp
  cases h2 : gtF .f32 c 0
  · simp
  cases h3 : leF .f32 (add32 o c) 1065353216
  · simp
  obtain ⟨f1, f2⟩ := sum_one_fin h1 h2 h3
  rw [f1, f2]
  simp [Bool.and_assoc]
theorem throat_r {p o c b s r : Nat} (hr : canF .f32 r = arF .add .f32 o c) : throatOk p o c b s = (betw p 1073741824 1148846080 && gtF .f32 o 0 && gtF .f32 c 0 && leF .f32 r 1065353216 && fin32 b && geF .f32 b 0 && betw s 0 1056964608) := by
  rw [throat_raw, leF_can (arF_num hr) (rfl : canF .f32 1065353216 = canF .f32 1065353216)]; rfl

/-! ## the reference's tests: by a pointer -/
set_option maxHeartbeats 400000 in
theorem l02Is_any (ad : Addr) (A : Option Addr) (c : Nat) (xs : List Nat) (loss throat lips : Nat) (w : World) (B : Nat) (hc : At w ad [.slice A xs.length c, fl loss, fl throat, fl lips]) (hx : Fs w B A xs) (hm : xs.length ≤ 9223372036854775807) :
    Calls Try.prog 133 #[.pointer (some ad)] w fun e w' => e = .returned (.bool (tubeOk xs loss throat lips)) ∧ ∃ n, w' = w.drewN n := by
  have h0 : w.cell? ad = _ := hc 0 _ rfl
  have h1 : w.cell? ⟨ad.block, ad.off + 1, none⟩ = _ := hc 1 _ rfl
  have h2 : w.cell? ⟨ad.block, ad.off + 2, none⟩ = _ := hc 2 _ rfl
  have h3 : w.cell? ⟨ad.block, ad.off + 3, none⟩ = _ := hc 3 _ rfl
  have HC := Lib.hid hc; clear hc
  have HX := Lib.hid hx; clear hx
  go_enter Try.func133, Try.ntmps133
  go_wp2_with (first | (go_at_call 161; refine (l02Areas_any _ _ _ _ B (by exact HX.out) hm).mono ?_; rintro e w' ⟨rfl, n, rfl⟩) | (go_at_call 168; refine (l02End_any _ _).mono ?_; rintro e w' ⟨rfl, rfl⟩))
  all_goals go_ret
  all_goals exact ⟨ret_bool (by simp [tubeOk, *]), _, rfl⟩

set_option maxHeartbeats 400000 in
theorem l04Is_any (ad : Addr) (A : Option Addr) (c : Nat) (xs : List Nat) (gain : Nat) (w : World) (B : Nat) (hc : At w ad [.slice A xs.length c, fl gain]) (hx : Fs w B A xs) (hm : xs.length ≤ 9223372036854775807) :
    Calls Try.prog 135 #[.pointer (some ad)] w fun e w' => e = .returned (.bool (predOk xs gain)) ∧ ∃ n, w' = w.drewN n := by
  have h0 : w.cell? ad = _ := hc 0 _ rfl
  have h1 : w.cell? ⟨ad.block, ad.off + 1, none⟩ = _ := hc 1 _ rfl
  have HC := Lib.hid hc; clear hc
  have HX := Lib.hid hx; clear hx
  go_enter Try.func135, Try.ntmps135
  go_wp2_with (first | (go_at_call 169; refine (l02Finite_any _ _ _ _ B (by exact HX.out) hm).mono ?_; rintro e w' ⟨rfl, n, rfl⟩) | (go_at_call 104; refine (l02Least_any _ _).mono ?_; rintro e w' ⟨rfl, n, rfl⟩))
  all_goals go_ret
  all_goals first | exact ⟨ret_bool (by simp [predOk, inI, *]), _, rfl⟩ | exact ⟨ret_bool (by simp [predOk, inI, *]; try omega), _, rfl⟩ | exact ⟨ret_bool (by simp [predOk, inI, *]; try omega), 0, rfl⟩

/-! ## the program's tests: by value -/
set_option maxHeartbeats 400000 in
theorem ValidPredictor_any (A : Option Addr) (c : Nat) (xs : List Nat) (gain : Nat) (w : World) (B : Nat) (hB : B ≤ w.heap.size) (hx : Fs w B A xs) (hm : xs.length ≤ 9223372036854775807) :
    Calls Try.prog 98 #[.agg #[.slice A xs.length c, fl gain]] w fun e w' => e = .returned (.bool (predOk xs gain)) ∧ Below w.heap.size w w' := by
  have HX := Lib.hid (fun o => hx.alloc hB o); clear hx
  go_enter Try.func98, Try.ntmps98
  go_wp2_with (first | (go_at_call 121; refine (within_any _ _ _ _).mono ?_; rintro e w' ⟨rfl, rfl⟩) | (go_at_call 137; refine (areFinite_any _ _ _ _ B (by exact HX.out _) hm).mono ?_; rintro e w' ⟨rfl, n, rfl⟩) | (go_at_call 65; refine (IsFinite_any _ _).mono ?_; rintro e w' ⟨rfl, n, rfl⟩))
  all_goals go_ret
  all_goals refine ⟨ret_bool (by simp [predOk, least, *]), ?_⟩
  all_goals first | exact bl_a _ _ | exact bl_ad _ _ _

set_option maxHeartbeats 400000 in
theorem ValidTube_any (A : Option Addr) (c : Nat) (xs : List Nat) (loss throat lips : Nat) (w : World) (B : Nat) (hB : B ≤ w.heap.size) (hx : Fs w B A xs) (hm : xs.length ≤ 9223372036854775807) :
    Calls Try.prog 96 #[.agg #[.slice A xs.length c, fl loss, fl throat, fl lips]] w fun e w' => e = .returned (.bool (tubeOk xs loss throat lips)) ∧ Below w.heap.size w w' := by
  have hx1 := hx.alloc hB (.cells #[.slice A xs.length c, fl loss, fl throat, fl lips] 40)
  clear hx
  cases hin : inI xs.length 1 16
  · have HI := Lib.hid hin
    have HX := Lib.hid hx1; clear hx1
    go_enter Try.func96, Try.ntmps96
    go_wp2_with (go_at_call 121; refine (within_any _ _ _ _).mono ?_; rintro e w' ⟨rfl, rfl⟩)
    go_ret
    exact ⟨ret_bool (by simp [tubeOk, areasOk, HI.out]), bl_a _ _⟩
  · have HI := Lib.hid hin
    go_enter Try.func96, Try.ntmps96
    go_wp2_with (go_at_call 121; refine (within_any _ _ _ _).mono ?_; rintro e w' ⟨rfl, rfl⟩)
    go_loopw [13] (fun i wr => ∃ k n : Nat, k ≤ xs.length ∧ i = .int .i64 k ∧ (xs.take k).all above = true ∧ wr = (w.alloc (.cells #[.slice A xs.length c, fl loss, fl throat, fl lips] 40)).drewN n) (fun i _ => xs.length - (intOf i).toNat)
    case atStart => exact ⟨0, 0, Nat.zero_le _, rfl, rfl, rfl⟩
    case round =>
      obtain ⟨k, n, hk, rfl, hall, rfl⟩ := hrel
      by_cases hlt : k < xs.length
      · obtain ⟨ad, rfl, hadB, hcell⟩ := hx1.cell hlt
        have HA := Lib.hid hall; clear hall
        have HX := Lib.hid hx1; clear hx1
        go_wp2_with (go_at_call 65; refine (IsFinite_any _ _).mono ?_; rintro e w' ⟨rfl, n', rfl⟩)
        · go_ret
          exact ⟨ret_bool (by unfold tubeOk areasOk; rw [all_no (k := k) (h := hlt) (above_no1 ‹fin32 xs[k] = true› ‹leF .f32 xs[k] 0 = true›)]; simp), bl_ad _ _ _⟩
        · go_roundw
          case rel => exact ⟨k + 1, _, by omega, by go_num, all_step HA.out (above_yes ‹fin32 xs[k] = true› ‹leF .f32 xs[k] 0 = false›), rfl⟩
          case measure => simp [intOf]; omega
        · go_ret
          exact ⟨ret_bool (by unfold tubeOk areasOk; rw [all_no (k := k) (h := hlt) (above_no2 (Bool.eq_false_iff.2 ‹¬fin32 xs[k] = true›))]; simp), bl_ad _ _ _⟩
      · go_wp2_with (go_at_call 136; refine (isBetween_any _ _ _ _).mono ?_; rintro e w' ⟨rfl, rfl⟩)
        all_goals go_ret
        all_goals exact ⟨ret_bool (by simp [tubeOk, areasOk, HI.out, all_end hall hlt, *]), bl_ad _ _ _⟩

set_option maxHeartbeats 400000 in
theorem ValidThroat_any (p o c b s : Nat) (w : World) :
    Calls Try.prog 97 #[.agg #[fl p, fl o, fl c, fl b, fl s]] w fun e w' => e = .returned (.bool (throatOk p o c b s)) ∧ Below w.heap.size w w' := by
  cases h1 : gtF .f32 o 0
  · go_enter Try.func97, Try.ntmps97
    go_wp2_with (go_at_call 136; refine (isBetween_any _ _ _ _).mono ?_; rintro e w' ⟨rfl, rfl⟩)
    all_goals go_ret
    all_goals exact ⟨ret_bool (by simp [throatOk, above, h1]), bl_a _ _⟩
  · go_enter Try.func97, Try.ntmps97
    go_wp2_with (first | (go_at_call 136; refine (isBetween_any _ _ _ _).mono ?_; rintro e w' ⟨rfl, rfl⟩) | (go_at_call 65; refine (IsFinite_any _ _).mono ?_; rintro e w' ⟨rfl, n, rfl⟩) | (refine wpList_flo_g rfl rfl rfl rfl rfl ?_; intro r n hr))
    all_goals go_ret
    all_goals first
      | exact ⟨ret_bool (by rw [throat_r ‹canF .f32 _ = arF .add .f32 o c›]; simp [*]), bl_ad _ _ _⟩
      | exact ⟨ret_bool (by rw [throat_raw]; simp [*]), bl_a _ _⟩

set_option maxHeartbeats 1000000 in
theorem l03Throat_any (ad : Addr) (p o c b s : Nat) (w : World) (hc : At w ad [fl p, fl o, fl c, fl b, fl s]) :
    Calls Try.prog 134 #[.pointer (some ad)] w fun e w' => e = .returned (.bool (throatOk p o c b s)) ∧ ∃ n, w' = w.drewN n := by
  have h0 : w.cell? ad = _ := hc 0 _ rfl
  have h1 : w.cell? ⟨ad.block, ad.off + 1, none⟩ = _ := hc 1 _ rfl
  have h2 : w.cell? ⟨ad.block, ad.off + 2, none⟩ = _ := hc 2 _ rfl
  have h3 : w.cell? ⟨ad.block, ad.off + 3, none⟩ = _ := hc 3 _ rfl
  have h4 : w.cell? ⟨ad.block, ad.off + 4, none⟩ = _ := hc 4 _ rfl
  have HC := Lib.hid hc; clear hc
  cases hp : geF .f32 p 1073741824
  · go_enter Try.func134, Try.ntmps134
    go_wp2
    go_quiet (fail)
    go_wp2
    go_ret
    exact ⟨ret_bool (by simp [throatOk, betw, hp]), _, rfl⟩
  cases hq : leF .f32 p 1148846080
  · go_enter Try.func134, Try.ntmps134
    go_wp2
    go_quiet (fail)
    go_wp2
    go_ret
    exact ⟨ret_bool (by simp [throatOk, betw, hp, hq]), _, rfl⟩
  cases ho : above o
  · go_enter Try.func134, Try.ntmps134
    go_wp2
    go_quiet ((go_at_call 105; exact Calls.quiet_of (bool_of (l02Above_any _ _) ‹_›)))
    go_wp2
    go_ret
    exact ⟨ret_bool (by simp [throatOk, betw, hp, hq, ho]), _, rfl⟩
  cases hcc : above c
  · go_enter Try.func134, Try.ntmps134
    go_wp2
    go_quiet ((go_at_call 105; exact Calls.quiet_of (bool_of (l02Above_any _ _) ‹_›)))
    go_wp2
    go_ret
    exact ⟨ret_bool (by simp [throatOk, betw, hp, hq, ho, hcc]), _, rfl⟩
  obtain ⟨r, hr, hr'⟩ := add_some (above_fin1 ho) (above_fin1 hcc)
  have hadd : ∀ w, (binOp .add 29 (.float .f32 o) (.float .f32 c)).run Try.prog w = .ok (.float .f32 r) w := fun w => run_float_arith w _ _ _ _ _ _ hr
  have HR := Lib.hid hr'; clear hr hr'
  cases hle : leF .f32 r 1065353216
  · go_enter Try.func134, Try.ntmps134
    go_wp2
    go_quiet ((go_at_call 105; exact Calls.quiet_of (bool_of (l02Above_any _ _) ‹_›)))
    go_wp2
    go_ret
    exact ⟨ret_bool (by simp [throatOk, HR.out, hle]), _, rfl⟩
  cases hb : least b
  · go_enter Try.func134, Try.ntmps134
    go_wp2
    go_quiet ((first | (go_at_call 105; exact Calls.quiet_of (bool_of (l02Above_any _ _) ‹_›)) | (go_at_call 104; exact Calls.quiet_of (bool_of (l02Least_any _ _) ‹_›))))
    go_wp2
    go_ret
    exact ⟨ret_bool (by simp [throatOk, hb]), _, rfl⟩
  cases hs : geF .f32 s 0
  · go_enter Try.func134, Try.ntmps134
    go_wp2
    go_quiet ((first | (go_at_call 105; exact Calls.quiet_of (bool_of (l02Above_any _ _) ‹_›)) | (go_at_call 104; exact Calls.quiet_of (bool_of (l02Least_any _ _) ‹_›))))
    go_wp2
    go_ret
    exact ⟨ret_bool (by simp [throatOk, betw, hs]), _, rfl⟩
  · go_enter Try.func134, Try.ntmps134
    go_wp2
    go_quiet ((first | (go_at_call 105; exact Calls.quiet_of (bool_of (l02Above_any _ _) ‹_›)) | (go_at_call 104; exact Calls.quiet_of (bool_of (l02Least_any _ _) ‹_›))))
    go_wp2
    go_ret
    exact ⟨ret_bool (by simp [throatOk, betw, hp, hq, ho, hcc, HR.out, hle, hb, hs]), _, rfl⟩
end Go.Proofs.Ythmkbgiandncnaa
