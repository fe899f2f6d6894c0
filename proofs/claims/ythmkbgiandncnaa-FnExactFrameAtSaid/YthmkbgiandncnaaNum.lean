/- Numbers: the tests on float32 numbers and lists of these, of the program and of the reference. -/
import Derived.Test.YthmkbgiandncnaaRows
import Derived.Test.YthmkbgiandncnaaMem
namespace Go.Proofs.Ythmkbgiandncnaa
open Go.RowKit

/-! ## the plain tests -/
def fin32 (x : Nat) : Bool := eqF .f32 (sub32 x x) 0
def above (x : Nat) : Bool := fin32 x && gtF .f32 x 0
def least (x : Nat) : Bool := fin32 x && geF .f32 x 0
def betw (x lo hi : Nat) : Bool := geF .f32 x lo && leF .f32 x hi
def share (x : Nat) : Bool := betw x 0 1065353216
def inI (n lo hi : Int) : Bool := decide (lo ≤ n) && decide (n ≤ hi)
def allFin (xs : List Nat) : Bool := xs.all fin32
def anyLe0 (xs : List Nat) : Bool := xs.any (leF .f32 · 0)
def areasOk (xs : List Nat) : Bool := inI xs.length 1 16 && xs.all above
theorem fin32_can {a b : Nat} (h : c32 a = c32 b) : fin32 a = fin32 b := by
  unfold fin32 sub32; rw [arF_can h h]

theorem fin32_num {a : Nat} (h : fin32 a = true) : nanB .f32 a = false := by
  cases hn : nanB .f32 a
  · rfl
  · exfalso
    have h1 : sub32 a a = qnan .f32 := by unfold sub32 arF; rw [floatBits_nan_left hn]; rfl
    unfold fin32 at h
    rw [h1, eqF_nan (qnan_nan .f32)] at h
    cases h
theorem fin32_of_number {x : Nat} {s : Bool} {m : Nat} {e : Int} (h : Ieee.single.read x = .number s m e) : fin32 x = true := by
  have hs : (Ieee.Datum.number s m e).sum (Ieee.Datum.number s m e).opposite = some (.number false 0 e) := by
    unfold Ieee.Datum.opposite Ieee.Datum.sum
    cases s <;> simp [Ieee.signed] <;> omega
  have : sub32 x x = 0 := by
    show ((Ieee.single.sub x x).getD _) = 0
    unfold Ieee.Format.sub
    rw [h, hs]
    rfl
  unfold fin32; rw [this]; decide +kernel
theorem number_of_fin32 {x : Nat} (h : fin32 x = true) : ∃ s m e, Ieee.single.read x = .number s m e := by
  have hn := fin32_num h
  unfold nanB FloatKind.decode at hn
  cases hd : Ieee.single.read x with
  | number s m e => exact ⟨s, m, e, rfl⟩
  | nan s f => rw [show FloatKind.f32.format.read x = .nan s f from hd] at hn; cases hn
  | infinity s =>
    exfalso
    have : sub32 x x = qnan .f32 := by
      show ((Ieee.single.sub x x).getD _) = _
      unfold Ieee.Format.sub
      rw [hd]
      cases s <;> rfl
    unfold fin32 at h
    rw [this, eqF_nan (qnan_nan .f32)] at h
    cases h
theorem add_some {a b : Nat} (ha : fin32 a = true) (hb : fin32 b = true) : ∃ r, floatBits .add .f32 a b = some r ∧ add32 a b = r := by
  obtain ⟨s, m, e, h1⟩ := number_of_fin32 ha
  obtain ⟨s', m', e', h2⟩ := number_of_fin32 hb
  have : ∃ r, Ieee.single.add a b = some r := by
    unfold Ieee.Format.add
    rw [h1, h2]
    exact ⟨_, rfl⟩
  obtain ⟨r, hr⟩ := this
  have hr' : floatBits .add .f32 a b = some r := hr
  exact ⟨r, hr', by unfold add32 arF; rw [hr']; rfl⟩
theorem num0 : nanB .f32 0 = false := by decide +kernel
theorem above_fin1 {a : Nat} (h : above a = true) : fin32 a = true := by unfold above at h; simp at h; exact h.1
theorem le0_not {a : Nat} (h : fin32 a = true) : leF .f32 a 0 = !gtF .f32 a 0 := leF_not (fin32_num h) num0
theorem above_no1 {x : Nat} (h1 : fin32 x = true) (h2 : leF .f32 x 0 = true) : above x = false := by
  rw [le0_not h1] at h2; unfold above; rw [h1]; simpa using h2
theorem above_yes {x : Nat} (h1 : fin32 x = true) (h2 : leF .f32 x 0 = false) : above x = true := by
  rw [le0_not h1] at h2; unfold above; rw [h1]; simpa using h2
theorem above_no2 {x : Nat} (h1 : fin32 x = false) : above x = false := by unfold above; rw [h1]; rfl
theorem above_le {xs : List Nat} (h : xs.all fin32 = true) : xs.all above = !xs.any (leF .f32 · 0) := by
  induction xs with
  | nil => rfl
  | cons x xs ih =>
    simp only [List.all_cons, Bool.and_eq_true] at h
    simp only [List.all_cons, List.any_cons, ih h.2, le0_not h.1, above, h.1]
    cases gtF .f32 x 0 <;> simp
theorem above_fin {xs : List Nat} (h : xs.all fin32 = false) : xs.all above = false := by
  rw [List.all_eq_false] at h ⊢
  obtain ⟨x, hx, h⟩ := h
  exact ⟨x, hx, by simp at h; simp [above, h]⟩

/-! ## the walks -/
set_option maxHeartbeats 400000 in
theorem within_any (a b c : Int) (w : World) :
    Calls Try.prog 121 #[.int .i64 a, .int .i64 b, .int .i64 c] w fun e w' => e = .returned (.bool (inI a b c)) ∧ w = w' := by
  go_enter Try.func121, Try.ntmps121
  go_wp2
  all_goals go_ret
  all_goals exact ⟨ret_bool (by simp [inI]; try omega), rfl⟩

set_option maxHeartbeats 400000 in
theorem l00In_any (a b c : Int) (w : World) :
    Calls Try.prog 154 #[.int .i64 a, .int .i64 b, .int .i64 c] w fun e w' => e = .returned (.bool (inI a b c)) ∧ w = w' := by
  go_enter Try.func154, Try.ntmps154
  go_wp2
  all_goals go_ret
  all_goals exact ⟨ret_bool (by simp [inI]; try omega), rfl⟩

set_option maxHeartbeats 400000 in
theorem isBetween_any (a b c : Nat) (w : World) :
    Calls Try.prog 136 #[.float .f32 a, .float .f32 b, .float .f32 c] w fun e w' => e = .returned (.bool (betw a b c)) ∧ w = w' := by
  go_enter Try.func136, Try.ntmps136
  go_wp2
  all_goals go_ret
  all_goals exact ⟨ret_bool (by simp [betw, *]), rfl⟩

set_option maxHeartbeats 400000 in
theorem l02Share_any (a : Nat) (w : World) :
    Calls Try.prog 162 #[.float .f32 a] w fun e w' => e = .returned (.bool (share a)) ∧ w = w' := by
  go_enter Try.func162, Try.ntmps162
  go_wp2
  all_goals go_ret
  all_goals exact ⟨ret_bool (by simp [share, betw, *]), rfl⟩

set_option maxHeartbeats 400000 in
theorem l02End_any (a : Nat) (w : World) :
    Calls Try.prog 168 #[.float .f32 a] w fun e w' => e = .returned (.bool (betw a 3212836864 1065353216)) ∧ w = w' := by
  go_enter Try.func168, Try.ntmps168
  go_wp2
  all_goals go_ret
  all_goals exact ⟨ret_bool (by simp [betw, *]), rfl⟩

set_option maxHeartbeats 400000 in
theorem IsFinite_any (a : Nat) (w : World) :
    Calls Try.prog 65 #[.float .f32 a] w fun e w' => e = .returned (.bool (fin32 a)) ∧ ∃ n, w' = w.drewN n := by
  go_enter Try.func65, Try.ntmps65
  go_wp2_with (refine wpList_flo rfl rfl rfl rfl rfl ?_; intro r n hr)
  go_ret
  exact ⟨ret_bool (by unfold fin32 sub32; rw [← eqF_can (arF_num hr) rfl]), _, rfl⟩

set_option maxHeartbeats 400000 in
theorem l01Finite_any (a : Nat) (w : World) :
    Calls Try.prog 60 #[.float .f32 a] w fun e w' => e = .returned (.bool (fin32 a)) ∧ ∃ n, w' = w.drewN n := by
  go_enter Try.func60, Try.ntmps60
  go_wp2_with (refine wpList_flo rfl rfl rfl rfl rfl ?_; intro r n hr)
  go_ret
  exact ⟨ret_bool (by unfold fin32 sub32; rw [← eqF_can (arF_num hr) rfl]), _, rfl⟩

set_option maxHeartbeats 400000 in
theorem l02Above_any (a : Nat) (w : World) :
    Calls Try.prog 105 #[.float .f32 a] w fun e w' => e = .returned (.bool (above a)) ∧ ∃ n, w' = w.drewN n := by
  go_enter Try.func105, Try.ntmps105
  go_wp2_with (go_at_call 60; refine (l01Finite_any _ _).mono ?_; rintro e w' ⟨rfl, n', rfl⟩)
  all_goals go_ret
  all_goals exact ⟨ret_bool (by simp [above, *]), _, rfl⟩

set_option maxHeartbeats 400000 in
theorem l02Least_any (a : Nat) (w : World) :
    Calls Try.prog 104 #[.float .f32 a] w fun e w' => e = .returned (.bool (least a)) ∧ ∃ n, w' = w.drewN n := by
  go_enter Try.func104, Try.ntmps104
  go_wp2_with (go_at_call 60; refine (l01Finite_any _ _).mono ?_; rintro e w' ⟨rfl, n', rfl⟩)
  all_goals go_ret
  all_goals exact ⟨ret_bool (by simp [least, *]), _, rfl⟩

/-! ### loops over a slice of numbers -/
set_option maxHeartbeats 400000 in
theorem areFinite_any (A : Option Addr) (c : Nat) (xs : List Nat) (w : World) (B : Nat) (hx : Fs w B A xs) (hm : xs.length ≤ 9223372036854775807) :
    Calls Try.prog 137 #[.slice A xs.length c] w fun e w' => e = .returned (.bool (allFin xs)) ∧ ∃ n, w' = w.drewN n := by
  go_enter Try.func137, Try.ntmps137
  go_wp2
  go_loopw [7] (fun i wr => ∃ k n : Nat, k ≤ xs.length ∧ i = .int .i64 k ∧ (xs.take k).all fin32 = true ∧ wr = w.drewN n) (fun i _ => xs.length - (intOf i).toNat)
  case atStart => exact ⟨0, 0, Nat.zero_le _, rfl, rfl, rfl⟩
  case round =>
    obtain ⟨k, n, hk, rfl, hall, rfl⟩ := hrel
    by_cases hlt : k < xs.length
    · obtain ⟨ad, rfl, hadB, hcell⟩ := hx.cell hlt
      have HA := Lib.hid hall; clear hall
      have HX := Lib.hid hx; clear hx
      go_wp2_with (go_at_call 65; refine (IsFinite_any _ _).mono ?_; rintro e w' ⟨rfl, n', rfl⟩)
      · go_ret
        exact ⟨ret_bool (all_no (k := k) (h := hlt) (by simpa using ‹(!fin32 xs[k]) = true›)).symm, _, rfl⟩
      · go_roundw
        case rel => exact ⟨k + 1, _, by omega, by go_num, all_step HA.out (by simpa using ‹(!fin32 xs[k]) = false›), rfl⟩
        case measure => simp [intOf]; omega
    · go_wp2
      go_ret
      exact ⟨ret_bool (all_end hall hlt).symm, _, rfl⟩

set_option maxHeartbeats 400000 in
theorem l02Finite_any (A : Option Addr) (c : Nat) (xs : List Nat) (w : World) (B : Nat) (hx : Fs w B A xs) (hm : xs.length ≤ 9223372036854775807) :
    Calls Try.prog 169 #[.slice A xs.length c] w fun e w' => e = .returned (.bool (allFin xs)) ∧ ∃ n, w' = w.drewN n := by
  go_enter Try.func169, Try.ntmps169
  go_wp2
  go_loopw [3] (fun i wr => ∃ k n : Nat, k ≤ xs.length ∧ i = .int .i64 k ∧ (xs.take k).all fin32 = true ∧ wr = w.drewN n) (fun i _ => xs.length - (intOf i).toNat)
  case atStart => exact ⟨0, 0, Nat.zero_le _, rfl, rfl, rfl⟩
  case round =>
    obtain ⟨k, n, hk, rfl, hall, rfl⟩ := hrel
    by_cases hlt : k < xs.length
    · obtain ⟨ad, rfl, hadB, hcell⟩ := hx.cell hlt
      have HA := Lib.hid hall; clear hall
      have HX := Lib.hid hx; clear hx
      go_wp2_with (go_at_call 60; refine (l01Finite_any _ _).mono ?_; rintro e w' ⟨rfl, n', rfl⟩)
      · go_ret
        exact ⟨ret_bool (all_no (k := k) (h := hlt) (by simpa using ‹(!fin32 xs[k]) = true›)).symm, _, rfl⟩
      · go_roundw
        case rel => exact ⟨k + 1, _, by omega, by go_num, all_step HA.out (by simpa using ‹(!fin32 xs[k]) = false›), rfl⟩
        case measure => simp [intOf]; omega
    · go_wp2
      go_ret
      exact ⟨ret_bool (all_end hall hlt).symm, _, rfl⟩

set_option maxHeartbeats 400000 in
theorem l02Areas_any (A : Option Addr) (c : Nat) (xs : List Nat) (w : World) (B : Nat) (hx : Fs w B A xs) (hm : xs.length ≤ 9223372036854775807) :
    Calls Try.prog 161 #[.slice A xs.length c] w fun e w' => e = .returned (.bool (areasOk xs)) ∧ ∃ n, w' = w.drewN n := by
  by_cases h16 : xs.length ≤ 16
  · go_enter Try.func161, Try.ntmps161
    go_wp2
    go_loopw [3] (fun i wr => ∃ k n : Nat, k ≤ xs.length ∧ i = .int .i64 k ∧ (xs.take k).all above = true ∧ wr = w.drewN n) (fun i _ => xs.length - (intOf i).toNat)
    case atStart => exact ⟨0, 0, Nat.zero_le _, rfl, rfl, rfl⟩
    case round =>
      obtain ⟨k, n, hk, rfl, hall, rfl⟩ := hrel
      by_cases hlt : k < xs.length
      · obtain ⟨ad, rfl, hadB, hcell⟩ := hx.cell hlt
        have HA := Lib.hid hall; clear hall
        have HX := Lib.hid hx; clear hx
        go_wp2_with (go_at_call 105; refine (l02Above_any _ _).mono ?_; rintro e w' ⟨rfl, n', rfl⟩)
        · go_ret
          exact ⟨ret_bool (by unfold areasOk; rw [all_no (k := k) (h := hlt) (by simpa using ‹(!above xs[k]) = true›)]; simp), _, rfl⟩
        · go_roundw
          case rel => exact ⟨k + 1, _, by omega, by go_num, all_step HA.out (by simpa using ‹(!above xs[k]) = false›), rfl⟩
          case measure => simp [intOf]; omega
      · have HA := Lib.hid (all_end hall hlt); clear hall
        go_wp2
        all_goals go_ret
        all_goals exact ⟨ret_bool (by unfold areasOk inI; rw [HA.out]; simp; try omega), _, rfl⟩
  · have hno : areasOk xs = false := by unfold areasOk inI; simp; omega
    have HN := Lib.hid hno; clear hno
    go_enter Try.func161, Try.ntmps161
    go_wp2
    go_loopw [3] (fun i wr => i = .int .i64 0 ∧ wr = w) (fun i _ => 0)
    case atStart => exact ⟨rfl, rfl⟩
    case round =>
      obtain ⟨rfl, rfl⟩ := hrel
      go_wp2
      all_goals go_ret
      all_goals exact ⟨ret_bool (by rw [HN.out]; try (simp; omega)), 0, rfl⟩
set_option maxHeartbeats 400000 in
theorem areAreas1_any (a : Nat) (w : World) :
    Calls Try.prog 179 #[.float .f32 a] w fun e w' => e = .returned (.bool (leF .f32 a 0)) ∧ w = w' := by
  go_enter Try.func179, Try.ntmps179
  go_wp2
  go_ret
  exact ⟨rfl, rfl⟩
set_option maxHeartbeats 400000 in
theorem IndexAreas_any (A : Option Addr) (c : Nat) (xs : List Nat) (w : World) (B : Nat) (hx : Fs w B A xs) (hm : xs.length ≤ 9223372036854775807) :
    Calls Try.prog 146 #[.slice A xs.length c, .func (.func 179) #[] #[]] w fun e w' => e = .returned (.int .i64 (idx (leF .f32 · 0) xs)) ∧ ∃ n, w' = w.drewN n := by
  go_enter Try.func146, Try.ntmps146
  go_wp2
  go_loopw [8] (fun i wr => ∃ k n : Nat, k ≤ xs.length ∧ i = .int .i64 k ∧ (xs.take k).any (leF .f32 · 0) = false ∧ wr = w.drewN n) (fun i _ => xs.length - (intOf i).toNat)
  case atStart => exact ⟨0, 0, Nat.zero_le _, rfl, rfl, rfl⟩
  case round =>
    obtain ⟨k, n, hk, rfl, hall, rfl⟩ := hrel
    by_cases hlt : k < xs.length
    · obtain ⟨ad, rfl, hadB, hcell⟩ := hx.cell hlt
      have HA := Lib.hid hall; clear hall
      have HX := Lib.hid hx; clear hx
      go_wp2_with (go_at_call 179; refine (areAreas1_any _ _).mono ?_; rintro e w' ⟨rfl, rfl⟩)
      · go_ret
        exact ⟨ret_int (idx_hit hlt HA.out ‹_›).symm, _, rfl⟩
      · go_roundw
        case rel => exact ⟨k + 1, _, by omega, by go_num, any_take_succ hlt HA.out ‹_›, rfl⟩
        case measure => simp [intOf]; omega
    · go_wp2
      go_ret
      exact ⟨ret_int (idx_none (any_end hall hlt)).symm, _, rfl⟩
set_option maxHeartbeats 400000 in
theorem ContainsAreas_any (A : Option Addr) (c : Nat) (xs : List Nat) (w : World) (B : Nat) (hx : Fs w B A xs) (hm : xs.length ≤ 9223372036854775807) :
    Calls Try.prog 107 #[.slice A xs.length c, .func (.func 179) #[] #[]] w fun e w' => e = .returned (.bool (anyLe0 xs)) ∧ ∃ n, w' = w.drewN n := by
  go_enter Try.func107, Try.ntmps107
  go_wp2_with (go_at_call 146; refine (IndexAreas_any _ _ _ _ _ hx hm).mono ?_; rintro e w' ⟨rfl, n, rfl⟩)
  go_ret
  refine ⟨ret_bool ?_, _, rfl⟩
  unfold anyLe0
  rcases idx_cases (leF .f32 · 0) xs with ⟨h1, h2⟩ | ⟨k, hk, h1, h2, _⟩
  · rw [h1, h2]; rfl
  · rw [h1, h2]; simp
set_option maxHeartbeats 400000 in
theorem areAreas_any (A : Option Addr) (c : Nat) (xs : List Nat) (w : World) (B : Nat) (hx : Fs w B A xs) (hm : xs.length ≤ 9223372036854775807) :
    Calls Try.prog 164 #[.slice A xs.length c] w fun e w' => e = .returned (.bool (areasOk xs)) ∧ ∃ n, w' = w.drewN n := by
  go_enter Try.func164, Try.ntmps164
  go_wp2_with (first | (go_at_call 121; refine (within_any _ _ _ _).mono ?_; rintro e w' ⟨rfl, rfl⟩) | (go_at_call 137; refine (areFinite_any _ _ _ _ B (by exact hx) hm).mono ?_; rintro e w' ⟨rfl, n, rfl⟩) | (go_at_call 107; refine (ContainsAreas_any _ _ _ _ B (by exact hx) hm).mono ?_; rintro e w' ⟨rfl, n, rfl⟩))
  all_goals go_ret
  · rename_i hf
    exact ⟨ret_bool (by unfold areasOk; rw [above_le hf, ‹inI (↑xs.length) 1 16 = true›]; rfl), _, rfl⟩
  · exact ⟨ret_bool (by unfold areasOk; rw [above_fin (Bool.eq_false_iff.2 ‹¬allFin xs = true›)]; simp), _, rfl⟩
  · exact ⟨ret_bool (by unfold areasOk; rw [Bool.eq_false_iff.2 ‹¬inI (↑xs.length) 1 16 = true›]; rfl), 0, rfl⟩
end Go.Proofs.Ythmkbgiandncnaa
