/- When numbers, lists of numbers, tubes, throats and predictors are the same. -/
import Derived.Test.YthmkbgiandncnaaFeq
import Derived.Test.YthmkbgiandncnaaDsk
import Derived.Test.YthmkbgiandncnaaEq
import Derived.Laws.Externs
namespace Go.Proofs.Ythmkbgiandncnaa
open Go.RowKit

/-- one number, up to which NaN -/
def sm (x y : Nat) : Bool := canF .f32 x == canF .f32 y
def sms (xs ys : List Nat) : Bool := xs.length == ys.length && (List.range xs.length).all fun k => sm (xs.getD k 0) (ys.getD k 0)
/-- each fits a word -/
def fit (x : Nat) : Prop := x < 4294967296
def fits (xs : List Nat) : Prop := ∀ x ∈ xs, x < 4294967296
theorem fits_at {xs : List Nat} (h : fits xs) {k : Nat} (hk : k < xs.length) : xs[k] < 4294967296 := h _ (List.getElem_mem hk)
theorem can_lt {x : Nat} (h : x < 4294967296) : canF .f32 x < 4294967296 := by
  unfold canF
  split
  · show 2143289344 < 4294967296; omega
  · exact h

theorem run_bits32 (x : Nat) (w : World) : (callFunc 182 #[.float .f32 x]).run Try.prog w = .ok (.value (.int .u32 x)) w := by
  rw [run_callFunc_extern Try.func182 (by kernel_rfl) (by kernel_rfl) (by kernel_rfl) (e := Extern.MathFloatBits.float32bits) (by rfl)]
  rfl
theorem run_bits64 (x : Nat) (w : World) : (callFunc 183 #[.float .f64 x]).run Try.prog w = .ok (.value (.int .u64 x)) w := by
  rw [run_callFunc_extern Try.func183 (by kernel_rfl) (by kernel_rfl) (by kernel_rfl) (e := Extern.MathFloatBits.float64bits) (by rfl)]
  rfl

set_option maxHeartbeats 400000 in
theorem l01Bits_any (x : Nat) (hx : x < 4294967296) (w : World) :
    Calls Try.prog 166 #[fl x] w fun e w' => e = .returned (.int .i64 (canF .f32 x : Nat)) ∧ w = w' := by
  have hr := run_bits32
  have h1 := eqF_self (k := .f32) x
  cases hn : nanB .f32 x
  · rw [hn] at h1; simp only [Bool.not_false] at h1
    rw [canF_num hn]; clear hn
    go_enter Try.func166, Try.ntmps166
    go_wp2
    go_ret
    exact ⟨ret_int (by go_num), rfl⟩
  · rw [hn] at h1; simp only [Bool.not_true] at h1
    rw [canF_nan hn]; clear hn
    go_enter Try.func166, Try.ntmps166
    go_wp2
    go_ret
    exact ⟨rfl, rfl⟩

set_option maxHeartbeats 400000 in
theorem l01Same_any (x y : Nat) (hx : x < 4294967296) (hy : y < 4294967296) (w : World) :
    Calls Try.prog 127 #[fl x, fl y] w fun e w' => e = .returned (.bool (sm x y)) ∧ w = w' := by
  have HX := Lib.hid hx; have HY := Lib.hid hy; clear hx hy
  go_enter Try.func127, Try.ntmps127
  go_wp2_with fail
  go_at_call 166; refine (l01Bits_any x HX.out _).mono ?_; rintro e w' ⟨rfl, rfl⟩
  go_wp2_with fail
  go_at_call 166; refine (l01Bits_any y HY.out _).mono ?_; rintro e w' ⟨rfl, rfl⟩
  go_wp2_with fail
  go_ret
  refine ⟨ret_bool ?_, rfl⟩
  unfold sm
  rw [Bool.eq_iff_iff]
  simp
  omega

set_option maxHeartbeats 400000 in
theorem Signbit_any (x : Nat) (hx : x < 18446744073709551616) (w : World) :
    Calls Try.prog 167 #[.float .f64 x] w fun e w' => e = .returned (.bool (decide (9223372036854775808 ≤ x))) ∧ w = w' := by
  have hr := run_bits64
  go_enter Try.func167, Try.ntmps167
  go_wp2
  go_ret
  refine ⟨ret_bool ?_, rfl⟩
  rw [decide_eq_decide]
  unfold wrap64
  omega

theorem wide_sgn {x : Nat} (hn : nanB .f32 x = false) : wide x < 18446744073709551616 ∧ decide (9223372036854775808 ≤ wide x) = sgn x := by
  have hw : ∀ (s : Bool) (r : Nat), r ≤ 9218868437227405312 → FloatKind.f64.format.word s r < 18446744073709551616 ∧ decide (9223372036854775808 ≤ FloatKind.f64.format.word s r) = s := by
    intro s r hr
    have e : FloatKind.f64.format.word s r = if s then 9223372036854775808 + r else r := rfl
    rw [e]
    cases s <;> simp <;> omega
  have hw2 : ∀ (s : Bool) (m : Nat) (p : Int), FloatKind.f64.format.nearest s m p < 18446744073709551616 ∧ decide (9223372036854775808 ≤ FloatKind.f64.format.nearest s m p) = s := by
    intro s m p
    unfold Ieee.Format.nearest
    split
    · exact hw s 0 (by omega)
    · exact hw s _ (Nat.le_trans (Nat.min_le_right _ _) (by decide +kernel))
  unfold wide
  rcases read_cases x hn with ⟨e, _⟩ | ⟨e, _⟩
  · have e2 : floatToFloatBits .f32 x .f64 = some (FloatKind.f64.format.word (sgn x) 9218868437227405312) := by
      unfold floatToFloatBits
      rw [show FloatKind.f32.decode x = _ from e]
      rfl
    rw [e2]
    exact hw _ _ (Nat.le_refl _)
  · have e2 : floatToFloatBits .f32 x .f64 = some (FloatKind.f64.format.nearest (sgn x) (rmag (x % 2147483648)) (-149 + (rpl (x % 2147483648) : Int))) := by
      unfold floatToFloatBits
      rw [show FloatKind.f32.decode x = _ from e]
      simp [wide_fits e]
      rfl
    rw [e2]
    exact hw2 _ _ _

theorem cv_num {x : Nat} (hn : nanB .f32 x = false) (w : World) : cv x w = wide x := by unfold cv; rw [hn]; rfl
theorem cn_num {x : Nat} (hn : nanB .f32 x = false) : cn x = 0 := by unfold cn; rw [hn]; rfl
set_option maxHeartbeats 1000000 in
theorem SameNumber_any (x y : Nat) (hx : x < 4294967296) (hy : y < 4294967296) (w : World) :
    Calls Try.prog 130 #[fl x, fl y] w fun e w' => e = .returned (.bool (sm x y)) ∧ w = w' := by
  have h1 := eqF_self (k := .f32) x
  have h2 := eqF_self (k := .f32) y
  cases hn : nanB .f32 x <;> cases hm : nanB .f32 y <;> rw [hn] at h1 <;> rw [hm] at h2 <;> simp only [Bool.not_false, Bool.not_true] at h1 h2
  · have hs := eq_sgn hn hm hx hy
    have e : sm x y = (x == y) := by unfold sm; rw [canF_num hn, canF_num hm]
    rw [e, ← hs]
    have k1 := Lib.hid (wide_sgn hn); have k2 := Lib.hid (wide_sgn hm)
    have c1 := cv_num hn; have c2 := cn_num hn; have c3 := cv_num hm; have c4 := cn_num hm
    have HN := Lib.hid hn; have HM := Lib.hid hm
    clear hn hm hs e hx hy
    cases h0 : eqF .f32 x y
    · go_enter Try.func130, Try.ntmps130
      go_wp2_with fail
      go_ret
      exact ⟨ret_bool (by simp), rfl⟩
    · go_enter Try.func130, Try.ntmps130
      go_wp2_with fail
      go_at_call 167; refine (Signbit_any _ k1.out.1 _).mono ?_; rintro e w' ⟨rfl, rfl⟩
      go_wp2_with fail
      go_at_call 167; refine (Signbit_any _ k2.out.1 _).mono ?_; rintro e w' ⟨rfl, rfl⟩
      go_wp2_with fail
      go_ret
      exact ⟨ret_bool (by rw [k1.out.2, k2.out.2]; simp), by simp [World.drewN]⟩
  all_goals
    have e : sm x y = (nanB .f32 x && nanB .f32 y) := by
      unfold sm canF
      rw [hn, hm]
      simp
      try first | (intro h; rw [h, qnan_nan] at hn; cases hn) | (intro h; rw [← h, qnan_nan] at hm; cases hm)
    rw [e, hn, hm]
    clear e hn hm hx hy
    go_enter Try.func130, Try.ntmps130
    go_wp2_with fail
    go_ret
    exact ⟨ret_bool (by simp), rfl⟩
end Go.Proofs.Ythmkbgiandncnaa
