/- The laws' comparisons: they say yes of what is the same up to which NaN. -/
import Derived.Test.YthmkbgiandncnaaToD
import Derived.RegionTactic
import Derived.Deep.RegionWith
import Derived.Deep.CutRange
namespace Go.Proofs.Ythmkbgiandncnaa
open Go.RowKit

/-- the same numbers, up to which NaN -/
def cans (xs ys : List Nat) : Prop := xs.map (canF .f32) = ys.map (canF .f32)
theorem cans_len {xs ys : List Nat} (h : cans xs ys) : xs.length = ys.length := by have := congrArg List.length h; simpa using this
theorem cans_get {xs ys : List Nat} (h : cans xs ys) {k : Nat} (h1 : k < xs.length) (h2 : k < ys.length) : canF .f32 xs[k] = canF .f32 ys[k] := by
  have := congrArg (·[k]?) h
  simp only [List.getElem?_map, List.getElem?_eq_getElem h1, List.getElem?_eq_getElem h2, Option.map_some, Option.some.injEq] at this
  exact this

/-- what float64(x) of a float32 gives in a world: of a NaN some NaN -/
@[irreducible] def cv (x : Nat) (w : World) : Nat := if nanB .f32 x then (Question.nanConv .f64 x).cut (w.tape w.drawn (.nanConv .f64 x)) else wide x
/-- how many draws it takes -/
@[irreducible] def cn (x : Nat) : Nat := if nanB .f32 x then 1 else 0
/-- what an operation on floats gives in a world, and how many draws it takes -/
@[irreducible] def fv (op : BinOp) (k : FloatKind) (x y : Nat) (w : World) : Nat := (floatBits op k x y).getD ((Question.nanBits k x y).cut (w.tape w.drawn (.nanBits k x y)))
@[irreducible] def fn_ (op : BinOp) (k : FloatKind) (x y : Nat) : Nat := if (floatBits op k x y).isSome then 0 else 1
theorem wide_some {x : Nat} (hx : nanB .f32 x = false) : floatToFloatBits .f32 x .f64 = some (wide x) := by
  unfold wide floatToFloatBits
  simp only [reduceCtorEq, if_false]
  unfold nanB at hx
  cases hd : FloatKind.f32.decode x with
  | nan s f => rw [hd] at hx; cases hx
  | infinity s => rfl
  | number s m e => simp [wide_fits hd]
@[go_sem] theorem run_wide_all {P : Program} {src dst : TypeId} (hs : P.underlying src = some (.float .f32)) (hd : P.underlying dst = some (.float .f64)) (x : Nat) (w : World) :
    (convert src dst (.float .f32 x)).run P w = .ok (.float .f64 (cv x w)) (w.drewN (cn x)) := by
  cases hx : nanB .f32 x
  · rw [run_convert_float_float w src dst .f32 .f64 x _ (by rw [hs]; rfl) hd (wide_some hx)]
    unfold cv cn; rw [hx]; rfl
  · obtain ⟨s, f, e⟩ := read_nan hx
    have e' : FloatKind.f32.decode x = .nan s f := e
    unfold cv cn
    rw [hx]
    simp [convert, run_underlying hs, run_underlying hd, Conv.floatToFloat, e', choose, Sem.run, Question.forced, World.drewN]
theorem cv_can (x : Nat) (w : World) : canF .f64 (cv x w) = wide x := by
  unfold cv
  cases hx : nanB .f32 x
  · simp only [Bool.false_eq_true, if_false]; exact canF_wide x
  · simp only [if_true]; rw [canF_nan (cut_nanBits .f64 _ (.inr (.inl ⟨x, rfl⟩)) _)]; unfold wide; rw [wide_nan hx]; rfl
theorem cv_same {x y : Nat} (h : canF .f32 x = canF .f32 y) (w1 w2 : World) : canF .f64 (cv x w1) = canF .f64 (cv y w2) := by rw [cv_can, cv_can, wide_can h]
theorem run_float_all {P : Program} (op : BinOp) (hop : isAr op = true) (t : TypeId) (k : FloatKind) (x y : Nat) (w : World) :
    (binOp op t (.float k x) (.float k y)).run P w = .ok (.float k (fv op k x y w)) (w.drewN (fn_ op k x y)) := by
  unfold fv fn_
  cases h : floatBits op k x y with
  | some r => rw [run_float_arith w op t k x y r h]; rfl
  | none => rcases isAr_or hop with rfl | rfl | rfl | rfl <;> simp only [floatBits] at h <;> simp [binOp, Op.floatArith, h, choose, Sem.run, Question.forced, World.drewN, bind, Sem.bind, pure]
theorem fv_can (op : BinOp) (k : FloatKind) (x y : Nat) (w : World) : canF k (fv op k x y w) = arF op k x y := by
  unfold fv arF
  cases h : floatBits op k x y with
  | some r => exact canF_num (floatBits_num h)
  | none => exact canF_nan (cut_nanBits k _ (.inl ⟨x, y, rfl⟩) _)
@[go_sem] theorem run_float_add {P : Program} (t : TypeId) (k : FloatKind) (x y : Nat) (w : World) : (binOp .add t (.float k x) (.float k y)).run P w = .ok (.float k (fv .add k x y w)) (w.drewN (fn_ .add k x y)) := run_float_all .add rfl t k x y w
@[go_sem] theorem run_float_sub {P : Program} (t : TypeId) (k : FloatKind) (x y : Nat) (w : World) : (binOp .sub t (.float k x) (.float k y)).run P w = .ok (.float k (fv .sub k x y w)) (w.drewN (fn_ .sub k x y)) := run_float_all .sub rfl t k x y w
@[go_sem] theorem run_float_mul {P : Program} (t : TypeId) (k : FloatKind) (x y : Nat) (w : World) : (binOp .mul t (.float k x) (.float k y)).run P w = .ok (.float k (fv .mul k x y w)) (w.drewN (fn_ .mul k x y)) := run_float_all .mul rfl t k x y w
@[go_sem] theorem run_float_quo {P : Program} (t : TypeId) (k : FloatKind) (x y : Nat) (w : World) : (binOp .quo t (.float k x) (.float k y)).run P w = .ok (.float k (fv .quo k x y w)) (w.drewN (fn_ .quo k x y)) := run_float_all .quo rfl t k x y w

set_option maxHeartbeats 400000 in
theorem sameFloat_yes (a b : Nat) (hab : canF .f64 a = canF .f64 b) (w : World) :
    Calls Try.prog 103 #[.float .f64 a, .float .f64 b] w fun e w' => e = .returned (.bool true) ∧ ∃ n, w' = w.drewN n := by
  rcases can_cases hab with rfl | ⟨ha, hb⟩
  · clear hab
    have h1 := eqF_self (k := .f64) a
    cases hn : nanB .f64 a
    · rw [hn] at h1; clear hn; simp only [Bool.not_false] at h1
      cases h0 : eqF .f64 a 0
      · go_enter Try.func103, Try.ntmps103
        go_wp2
        go_ret
        exact ⟨rfl, 0, rfl⟩
      · go_enter Try.func103, Try.ntmps103
        go_wp2_with (refine wpList_flo rfl rfl rfl rfl rfl ?_; intro r n hr)
        rename_i r1 n1 hr1
        go_ret
        exact ⟨ret_bool (by rw [gtF_can ((arF_num hr1).trans (arF_num hr).symm) rfl]; simp), _, rfl⟩
    · rw [hn] at h1; clear hn; simp only [Bool.not_true] at h1
      go_enter Try.func103, Try.ntmps103
      go_wp2
      go_ret
      exact ⟨rfl, 0, rfl⟩
  · have h1 : eqF .f64 a a = false := eqF_nan ha _
    have h2 : eqF .f64 b b = false := eqF_nan hb _
    clear hab ha hb
    go_enter Try.func103, Try.ntmps103
    go_wp2
    go_ret
    exact ⟨rfl, 0, rfl⟩
set_option maxHeartbeats 1000000 in
theorem eqFloat32S_yes (A A' : Option Addr) (c c' : Nat) (xs ys : List Nat) (w : World) (B B' : Nat) (hx : Fs w B A xs) (hy : Fs w B' A' ys) (hxy : cans xs ys) (hm : xs.length ≤ 1048576) :
    Calls Try.prog 41 #[.slice A xs.length c, .slice A' ys.length c'] w fun e w' => e = .returned (.bool true) ∧ ∃ n, w' = w.drewN n := by
  have hl := cans_len hxy
  rw [← hl]
  have HL := Lib.hid hl; clear hl
  have HC := Lib.hid hxy; clear hxy
  go_enter Try.func41, Try.ntmps41
  go_wp2
  go_loopw [5] (fun i wr => ∃ k n : Nat, k ≤ xs.length ∧ i = .int .i64 k ∧ wr = w.drewN n) (fun i _ => xs.length - (intOf i).toNat)
  case atStart => exact ⟨0, 0, Nat.zero_le _, rfl, rfl⟩
  case round =>
    obtain ⟨k, n, hk, rfl, hwr⟩ := hrel
    by_cases hlt : k < xs.length
    · have hlt' : k < ys.length := by have := HL.out; omega
      obtain ⟨ad, rfl, hadB, hcell⟩ := (show Fs wr B A xs by rw [hwr]; exact hx).cell hlt
      obtain ⟨ad', rfl, hadB', hcell'⟩ := (show Fs wr B' A' ys by rw [hwr]; exact hy).cell hlt'
      have hq := cans_get HC.out hlt hlt'
      have HW := Lib.hid hwr; clear hwr
      have HX := Lib.hid hx; clear hx
      have HY := Lib.hid hy; clear hy
      have HQ := Lib.hid hq; clear hq
      go_wp2
      go_region_with (go_at_call 103; refine (sameFloat_yes _ _ (cv_same HQ.out _ _) _).mono ?_; rintro e w' ⟨rfl, n', rfl⟩)
      all_goals
        go_wp2
        go_roundw
        case rel => exact ⟨k + 1, _, by omega, by go_num, by rw [HW.out, World.drewN_drewN]⟩
        case measure => simp [intOf]; omega
    · go_wp2
      go_ret
      exact ⟨rfl, n, rfl⟩

/-- the same sounds up to which NaN, wherever their areas lie -/
def likeS (s t : Snd) : Prop := s.name.toList = t.name.toList ∧ cans s.xs t.xs ∧ canF .f32 s.long = canF .f32 t.long ∧ canF .f32 s.ramp = canF .f32 t.ramp ∧ canF .f32 s.voice = canF .f32 t.voice ∧ canF .f32 s.noise = canF .f32 t.noise

set_option maxHeartbeats 1000000 in
theorem eqSound_yes (s t : Snd) (w : World) (B B' : Nat) (hB : B ≤ w.heap.size) (hB' : B' ≤ w.heap.size) (hs : SndIn w B s) (ht : SndIn w B' t) (hst : likeS s t) :
    Calls Try.prog 67 #[.agg #[.string s.name, .slice s.A s.xs.length s.c, fl s.long, fl s.ramp, fl s.voice, fl s.noise], .agg #[.string t.name, .slice t.A t.xs.length t.c, fl t.long, fl t.ramp, fl t.voice, fl t.noise]] w fun e w' => e = .returned (.bool true) ∧ Below w.heap.size w w' := by
  obtain ⟨q0, q1, q2, q3, q4, q5⟩ := hst
  have hs1 := (hs.alloc hB (.cells #[.string s.name, .slice s.A s.xs.length s.c, fl s.long, fl s.ramp, fl s.voice, fl s.noise] 98)).alloc (by simp; omega) (.cells #[.string t.name, .slice t.A t.xs.length t.c, fl t.long, fl t.ramp, fl t.voice, fl t.noise] 98)
  have ht1 := (ht.alloc hB' (.cells #[.string s.name, .slice s.A s.xs.length s.c, fl s.long, fl s.ramp, fl s.voice, fl s.noise] 98)).alloc (by simp; omega) (.cells #[.string t.name, .slice t.A t.xs.length t.c, fl t.long, fl t.ramp, fl t.voice, fl t.noise] 98)
  have n1 : (s.name.toList == t.name.toList) = true := by rw [q0]; simp
  have n2 : (s.name.toList != t.name.toList) = false := by rw [q0]; simp
  have HS := Lib.hid hs1; have HT := Lib.hid ht1; clear hs1 ht1 hs ht
  have H1 := Lib.hid q1; have H2 := Lib.hid q2; have H3 := Lib.hid q3; have H4 := Lib.hid q4; have H5 := Lib.hid q5
  clear q0 q1 q2 q3 q4 q5
  go_enter Try.func67, Try.ntmps67
  go_wp2_with fail
  go_at_call 41
  refine (eqFloat32S_yes _ _ _ _ _ _ _ _ _ HS.out.1 HT.out.1 H1.out HS.out.2.1).mono ?_
  rintro e wz ⟨rfl, n, hwz⟩
  have c2 : wz.cell? ⟨w.heap.size, 2, none⟩ = some (fl s.long) := by rw [hwz]; go_simp
  have c3 : wz.cell? ⟨w.heap.size, 3, none⟩ = some (fl s.ramp) := by rw [hwz]; go_simp
  have c4 : wz.cell? ⟨w.heap.size, 4, none⟩ = some (fl s.voice) := by rw [hwz]; go_simp
  have c5 : wz.cell? ⟨w.heap.size, 5, none⟩ = some (fl s.noise) := by rw [hwz]; go_simp
  have d2 : wz.cell? ⟨w.heap.size + 1, 2, none⟩ = some (fl t.long) := by rw [hwz]; go_simp
  have d3 : wz.cell? ⟨w.heap.size + 1, 3, none⟩ = some (fl t.ramp) := by rw [hwz]; go_simp
  have d4 : wz.cell? ⟨w.heap.size + 1, 4, none⟩ = some (fl t.voice) := by rw [hwz]; go_simp
  have d5 : wz.cell? ⟨w.heap.size + 1, 5, none⟩ = some (fl t.noise) := by rw [hwz]; go_simp
  have HZ := Lib.hid hwz; clear hwz
  go_wp2_with fail
  go_at_call 103; refine (sameFloat_yes _ _ (cv_same H2.out _ _) _).mono ?_; rintro e w' ⟨rfl, n', rfl⟩
  go_wp2_with fail
  go_at_call 103; refine (sameFloat_yes _ _ (cv_same H3.out _ _) _).mono ?_; rintro e w' ⟨rfl, n', rfl⟩
  go_wp2_with fail
  go_at_call 103; refine (sameFloat_yes _ _ (cv_same H4.out _ _) _).mono ?_; rintro e w' ⟨rfl, n', rfl⟩
  go_wp2_with fail
  go_at_call 103; refine (sameFloat_yes _ _ (cv_same H5.out _ _) _).mono ?_; rintro e w' ⟨rfl, n', rfl⟩
  go_wp2_with fail
  go_ret
  refine ⟨rfl, ?_⟩
  rw [HZ.out]
  exact drewN_below (drewN_below (bl_step (bl_a _ _) (bl_a _ _)) _) _
end Go.Proofs.Ythmkbgiandncnaa
