/- Floats for the walks: what '+', '-', '*', '/', the conversions and the comparisons give, up to which NaN; the steps of a walk over them. -/
import Derived.WalkKit
import Derived.WalkSpells
import Derived.WalkLawsBesides
import Derived.Deep.Draws
namespace Go.Proofs.Ythmkbgiandncnaa
open Go.RowKit

def nanB (k : FloatKind) (b : Nat) : Bool := (k.decode b).isNaN
def qnan : FloatKind → Nat | .f32 => 2143289344 | .f64 => 9221120237041090560
/-- one NaN for all -/
def canF (k : FloatKind) (b : Nat) : Nat := if nanB k b then qnan k else b
def arF (op : BinOp) (k : FloatKind) (x y : Nat) : Nat := (floatBits op k x y).getD (qnan k)
def ltF (k : FloatKind) (x y : Nat) : Bool := k.format.order x y == some .lt
def gtF (k : FloatKind) (x y : Nat) : Bool := k.format.order x y == some .gt
def eqF (k : FloatKind) (x y : Nat) : Bool := k.format.order x y == some .eq
def leF (k : FloatKind) (x y : Nat) : Bool := ltF k x y || eqF k x y
def geF (k : FloatKind) (x y : Nat) : Bool := gtF k x y || eqF k x y
abbrev c32 := canF .f32
abbrev c64 := canF .f64
def add32 := arF .add .f32
def sub32 := arF .sub .f32
def mul32 := arF .mul .f32
def div32 := arF .quo .f32
def add64 := arF .add .f64
def sub64 := arF .sub .f64
def mul64 := arF .mul .f64
def div64 := arF .quo .f64
/-- float64(x) of a float32 -/
def wide (x : Nat) : Nat := (floatToFloatBits .f32 x .f64).getD (qnan .f64)

section canon
theorem qnan_nan (k : FloatKind) : nanB k (qnan k) = true := by cases k <;> decide +kernel
theorem canF_nan {k : FloatKind} {b : Nat} (h : nanB k b = true) : canF k b = qnan k := by simp [canF, h]
theorem canF_num {k : FloatKind} {b : Nat} (h : nanB k b = false) : canF k b = b := by simp [canF, h]
theorem canF_canF (k : FloatKind) (b : Nat) : canF k (canF k b) = canF k b := by
  cases h : nanB k b
  · rw [canF_num h, canF_num h]
  · rw [canF_nan h, canF_nan (qnan_nan k)]
theorem nanB_canF (k : FloatKind) (b : Nat) : nanB k (canF k b) = nanB k b := by
  cases h : nanB k b
  · rw [canF_num h, h]
  · rw [canF_nan h, qnan_nan]
theorem nanB_of_can {k : FloatKind} {a b : Nat} (h : canF k a = canF k b) : nanB k a = nanB k b := by rw [← nanB_canF k a, h, nanB_canF]
/-- the same up to which NaN: both NaNs, or one word -/
theorem can_cases {k : FloatKind} {a b : Nat} (h : canF k a = canF k b) : a = b ∨ (nanB k a = true ∧ nanB k b = true) := by
  have hn := nanB_of_can h
  cases ha : nanB k a
  · left
    rw [canF_num ha, canF_num (hn ▸ ha)] at h
    exact h
  · right; exact ⟨rfl, by rw [← hn, ha]⟩

theorem read_nan {k : FloatKind} {b : Nat} (h : nanB k b = true) : ∃ s f, k.format.read b = .nan s f := by
  unfold nanB FloatKind.decode Ieee.Datum.isNaN at h
  split at h
  · rename_i s f e; exact ⟨s, f, e⟩
  · cases h

theorem order_nan_left {k : FloatKind} {a b : Nat} (h : nanB k a = true) : k.format.order a b = none := by
  obtain ⟨s, f, e⟩ := read_nan h
  simp [Ieee.Format.order, e, Ieee.Datum.order]
theorem order_nan_right {k : FloatKind} {a b : Nat} (h : nanB k b = true) : k.format.order a b = none := by
  obtain ⟨s, f, e⟩ := read_nan h
  unfold Ieee.Format.order
  rw [e]
  cases k.format.read a <;> rfl
theorem order_can {k : FloatKind} {a a' b b' : Nat} (ha : canF k a = canF k a') (hb : canF k b = canF k b') : k.format.order a b = k.format.order a' b' := by
  rcases can_cases ha with rfl | ⟨h, h'⟩
  · rcases can_cases hb with rfl | ⟨h, h'⟩
    · rfl
    · rw [order_nan_right h, order_nan_right h']
  · rw [order_nan_left h, order_nan_left h']
theorem ltF_can {k : FloatKind} {a a' b b' : Nat} (ha : canF k a = canF k a') (hb : canF k b = canF k b') : ltF k a b = ltF k a' b' := by unfold ltF; rw [order_can ha hb]
theorem gtF_can {k : FloatKind} {a a' b b' : Nat} (ha : canF k a = canF k a') (hb : canF k b = canF k b') : gtF k a b = gtF k a' b' := by unfold gtF; rw [order_can ha hb]
theorem eqF_can {k : FloatKind} {a a' b b' : Nat} (ha : canF k a = canF k a') (hb : canF k b = canF k b') : eqF k a b = eqF k a' b' := by unfold eqF; rw [order_can ha hb]
theorem leF_can {k : FloatKind} {a a' b b' : Nat} (ha : canF k a = canF k a') (hb : canF k b = canF k b') : leF k a b = leF k a' b' := by unfold leF; rw [ltF_can ha hb, eqF_can ha hb]
theorem geF_can {k : FloatKind} {a a' b b' : Nat} (ha : canF k a = canF k a') (hb : canF k b = canF k b') : geF k a b = geF k a' b' := by unfold geF; rw [gtF_can ha hb, eqF_can ha hb]

theorem sum_nan_left (s : Bool) (f : Nat) (d : Ieee.Datum) : Ieee.Datum.sum (.nan s f) d = none := by cases d <;> rfl
theorem sum_nan_right (s : Bool) (f : Nat) (d : Ieee.Datum) : Ieee.Datum.sum d (.nan s f) = none := by cases d <;> rfl
theorem product_nan_left (s : Bool) (f : Nat) (d : Ieee.Datum) : Ieee.Datum.product (.nan s f) d = none := by cases d <;> rfl
theorem product_nan_right (s : Bool) (f : Nat) (d : Ieee.Datum) : Ieee.Datum.product d (.nan s f) = none := by cases d <;> rfl
theorem quotient_nan_left (n : Nat) (s : Bool) (f : Nat) (d : Ieee.Datum) : Ieee.Datum.quotient n (.nan s f) d = none := by cases d <;> rfl
theorem quotient_nan_right (n : Nat) (s : Bool) (f : Nat) (d : Ieee.Datum) : Ieee.Datum.quotient n d (.nan s f) = none := by cases d <;> rfl

theorem floatBits_nan_left {op : BinOp} {k : FloatKind} {a b : Nat} (h : nanB k a = true) : floatBits op k a b = none := by
  obtain ⟨s, f, e⟩ := read_nan h
  unfold floatBits
  split <;> simp [Ieee.Format.add, Ieee.Format.sub, Ieee.Format.mul, Ieee.Format.div, e, sum_nan_left, product_nan_left, quotient_nan_left]
theorem floatBits_nan_right {op : BinOp} {k : FloatKind} {a b : Nat} (h : nanB k b = true) : floatBits op k a b = none := by
  obtain ⟨s, f, e⟩ := read_nan h
  unfold floatBits
  split <;> simp [Ieee.Format.add, Ieee.Format.sub, Ieee.Format.mul, Ieee.Format.div, e, Ieee.Datum.opposite, sum_nan_right, product_nan_right, quotient_nan_right]
theorem floatBits_can {op : BinOp} {k : FloatKind} {a a' b b' : Nat} (ha : canF k a = canF k a') (hb : canF k b = canF k b') : floatBits op k a b = floatBits op k a' b' := by
  rcases can_cases ha with rfl | ⟨h, h'⟩
  · rcases can_cases hb with rfl | ⟨h, h'⟩
    · rfl
    · rw [floatBits_nan_right h, floatBits_nan_right h']
  · rw [floatBits_nan_left h, floatBits_nan_left h']
theorem arF_can {op : BinOp} {k : FloatKind} {a a' b b' : Nat} (ha : canF k a = canF k a') (hb : canF k b = canF k b') : arF op k a b = arF op k a' b' := by
  unfold arF; rw [floatBits_can ha hb]
theorem wide_nan {a : Nat} (h : nanB .f32 a = true) : floatToFloatBits .f32 a .f64 = none := by
  obtain ⟨s, f, e⟩ := read_nan h
  simp only [floatToFloatBits, FloatKind.decode, e]
  rfl
theorem wide_can {a a' : Nat} (ha : canF .f32 a = canF .f32 a') : wide a = wide a' := by
  rcases can_cases ha with rfl | ⟨h, h'⟩
  · rfl
  · unfold wide; rw [wide_nan h, wide_nan h']
end canon

/-! what the writing of a datum that is no NaN gives is no NaN -/
section written
open Ieee
theorem rung_word (f : Format) (neg : Bool) {r : Nat} (h : r < f.signWeight) : f.word neg r % f.signWeight = r := by
  unfold Format.word
  cases neg
  · simp [Nat.mod_eq_of_lt h]
  · simp [Nat.mod_eq_of_lt h]
theorem infRung_le (f : Format) : f.infRung < f.signWeight := Format.infRung_lt f
theorem read_word_le (f : Format) (neg : Bool) {r : Nat} (h : r ≤ f.infRung) : (f.read (f.word neg r)).isNaN = false := by
  unfold Format.read
  rw [rung_word f neg (Nat.lt_of_le_of_lt h (infRung_le f))]
  dsimp only
  split
  · rfl
  · split
    · rfl
    · split
      · rfl
      · omega
theorem write_num (f : Format) (d : Datum) (h : d.isNaN = false) : (f.read (f.write d)).isNaN = false := by
  cases d with
  | number s m e =>
    show (f.read (f.nearest s m e)).isNaN = false
    unfold Format.nearest
    split
    · exact read_word_le f s (Nat.zero_le _)
    · exact read_word_le f s (Nat.min_le_right _ _)
  | infinity s => exact read_word_le f s (Nat.le_refl _)
  | nan s fr => cases h
theorem sum_num {a b d : Datum} (h : a.sum b = some d) : d.isNaN = false := by
  cases a <;> cases b <;> simp only [Datum.sum] at h <;> first | (cases h; done) | skip
  all_goals first | (split at h <;> first | (cases h; done) | (cases h; rfl)) | (cases h; rfl)
theorem product_num {a b d : Datum} (h : a.product b = some d) : d.isNaN = false := by
  cases a <;> cases b <;> simp only [Datum.product] at h <;> first | (cases h; done) | skip
  all_goals first | (split at h <;> first | (cases h; done) | (cases h; rfl)) | (cases h; rfl)
theorem quotient_num {n : Nat} {a b d : Datum} (h : a.quotient n b = some d) : d.isNaN = false := by
  cases a <;> cases b <;> simp only [Datum.quotient] at h <;> first | (cases h; done) | skip
  all_goals first | (split at h <;> first | (cases h; done) | (split at h <;> first | (cases h; done) | (cases h; rfl)) | (cases h; rfl)) | (cases h; rfl)
end written

theorem floatBits_num {op : BinOp} {k : FloatKind} {a b r : Nat} (h : floatBits op k a b = some r) : nanB k r = false := by
  have key : ∀ (o : Option Ieee.Datum), (∀ d, o = some d → d.isNaN = false) → o.map k.format.write = some r → nanB k r = false := by
    intro o ho h
    cases o with
    | none => cases h
    | some d => simp only [Option.map_some, Option.some.injEq] at h; subst h; exact write_num _ _ (ho d rfl)
  unfold floatBits at h
  split at h
  · exact key _ (fun d e => sum_num e) h
  · exact key _ (fun d e => sum_num e) h
  · exact key _ (fun d e => product_num e) h
  · exact key _ (fun d e => quotient_num e) h
  · cases h
theorem canF_arF (op : BinOp) (k : FloatKind) (a b : Nat) : canF k (arF op k a b) = arF op k a b := by
  unfold arF
  cases h : floatBits op k a b with
  | none => exact canF_nan (qnan_nan k)
  | some r => exact canF_num (floatBits_num h)
theorem decode_written (k : FloatKind) (d : Ieee.Datum) (h : d.isNaN = false) : nanB k (k.encode d) = false := write_num _ _ h
theorem wide_num {a r : Nat} (h : floatToFloatBits .f32 a .f64 = some r) : nanB .f64 r = false := by
  unfold floatToFloatBits at h
  simp only [reduceCtorEq, if_false] at h
  split at h
  · cases h
  · cases h; exact decode_written _ _ rfl
  · split at h
    · cases h
    · cases h; exact decode_written _ _ rfl
theorem canF_wide (a : Nat) : canF .f64 (wide a) = wide a := by
  unfold wide
  cases h : floatToFloatBits .f32 a .f64 with
  | none => exact canF_nan (qnan_nan .f64)
  | some r => exact canF_num (wide_num h)

/-! a float32 fits a float64 -/
theorem cut_zero (n : Nat) (neg : Bool) : Ieee.Toward.even.cut neg n 0 = n := by
  unfold Ieee.Toward.cut
  simp [Nat.mod_one]
theorem decode32_number {x : Nat} {s : Bool} {m : Nat} {e : Int} (h : FloatKind.f32.decode x = .number s m e) : m < 2 ^ 24 ∧ -149 ≤ e ∧ e ≤ 104 := by
  unfold FloatKind.decode FloatKind.format Ieee.Format.read at h
  have h1 : Ieee.single.signWeight = 2147483648 := by decide +kernel
  have h2 : Ieee.single.binade = 8388608 := by decide +kernel
  have h3 : Ieee.single.infRung = 2139095040 := by decide +kernel
  have h4 : Ieee.single.leastPlace = -149 := by decide +kernel
  rw [h1, h2, h3, h4] at h
  dsimp only at h
  split at h
  · injection h with _ hm he; omega
  · split at h
    · injection h with _ hm he
      have : x % 2147483648 / 8388608 ≤ 254 := by omega
      have : x % 2147483648 % 8388608 < 8388608 := Nat.mod_lt _ (by omega)
      omega
    · split at h <;> cases h
theorem min_far {a k : Nat} (ha : a ≤ 1149) (hk : k < 2 ^ 53) : min (a * 4503599627370496 + k) 9218868437227405312 < 9218868437227405312 := by
  refine Nat.lt_of_le_of_lt (Nat.min_le_left _ _) ?_
  refine Nat.lt_of_lt_of_le (Nat.add_lt_add_of_le_of_lt (Nat.mul_le_mul_right _ ha) hk) ?_
  decide
theorem wide_fits {x : Nat} {s : Bool} {m : Nat} {e : Int} (h : FloatKind.f32.decode x = .number s m e) : (FloatKind.f64.decode (FloatKind.f64.encode (.number s m e))).isInfinity = false := by
  obtain ⟨hm, he1, he2⟩ := decode32_number h
  show (Ieee.double.read (Ieee.double.nearest s m e)).isInfinity = false
  have h1 : Ieee.double.signWeight = 9223372036854775808 := by decide +kernel
  have h2 : Ieee.double.binade = 4503599627370496 := by decide +kernel
  have h3 : Ieee.double.infRung = 9218868437227405312 := by decide +kernel
  have h4 : Ieee.double.leastPlace = -1074 := by decide +kernel
  have key : ∀ r, r < 9218868437227405312 → (Ieee.double.read (Ieee.double.word s r)).isInfinity = false := by
    intro r hr
    unfold Ieee.Format.read
    rw [rung_word _ _ (by rw [h1]; omega), h2, h3]
    dsimp only
    split
    · rfl
    · first | rfl | (rw [if_pos hr]; rfl)
  unfold Ieee.Format.nearest
  by_cases h0 : m = 0
  · rw [if_pos h0]; exact key 0 (by omega)
  · rw [if_neg h0, h4, h2, h3]
    have hl : m.log2 < 24 := (Nat.log2_lt h0).2 hm
    have hself : m < 2 ^ (m.log2 + 1) := (Nat.log2_lt h0).1 (Nat.lt_succ_self _)
    have e1 : max (e + (m.log2 : Int) - (Ieee.double.fractionBits : Int)) (-1074) = e + (m.log2 : Int) - 52 := by
      show max (e + (m.log2 : Int) - 52) (-1074) = _
      omega
    rw [e1]
    have e2 : (e + (m.log2 : Int) - 52 - e).toNat = 0 := by omega
    have e3 : (e - (e + (m.log2 : Int) - 52)).toNat = 52 - m.log2 := by omega
    dsimp only
    rw [e2, e3, cut_zero]
    refine key _ ?_
    have hk : m <<< (52 - m.log2) < 2 ^ 53 := by
      rw [Nat.shiftLeft_eq]
      calc m * 2 ^ (52 - m.log2) < 2 ^ (m.log2 + 1) * 2 ^ (52 - m.log2) := Nat.mul_lt_mul_of_pos_right hself (Nat.pos_of_ne_zero (by simp))
        _ = 2 ^ 53 := by rw [← Nat.pow_add]; congr 1; omega
    have hb : ((e + (m.log2 : Int) - 52 - -1074).toNat) ≤ 1149 := by omega
    exact min_far hb hk

/-! the draws: a NaN whichever -/
theorem nan_drawn (k : FloatKind) (B I m t : Nat) (hB : k.format.signWeight = B) (hI : k.format.infRung = I) (hbin : k.format.binade ≤ I) (hm : 0 < m ∧ I + m < B) : nanB k ((t % 2) * B + I + 1 + (t / 2) % m) = true := by
  have hr : (t / 2) % m < m := Nat.mod_lt _ hm.1
  generalize (t / 2) % m = r at hr
  have e : (t % 2 * B + I + 1 + r) % B = I + 1 + r := by
    rw [Nat.add_assoc, Nat.add_assoc, Nat.mul_comm, Nat.mul_add_mod]
    rw [Nat.mod_eq_of_lt (by omega)]; omega
  unfold nanB FloatKind.decode Ieee.Format.read
  rw [hB, hI]
  dsimp only
  rw [e, if_neg (by omega), if_neg (by omega), if_neg (by omega)]
  rfl
theorem cut_nanBits (k : FloatKind) (q : Question) (hq : (∃ x y, q = .nanBits k x y) ∨ (∃ x, q = .nanConv k x) ∨ (∃ m x y, q = .nanMinMax k m x y)) (t : Nat) : nanB k (q.cut t) = true := by
  have h32 : ∀ t : Nat, nanB .f32 ((t % 2) * 2 ^ 31 + 0x7f800000 + 1 + (t / 2) % (2 ^ 23 - 1)) = true := fun t =>
    nan_drawn .f32 (2 ^ 31) 0x7f800000 (2 ^ 23 - 1) t (by decide +kernel) (by decide +kernel) (by decide +kernel) (by decide +kernel)
  have h64 : ∀ t : Nat, nanB .f64 ((t % 2) * 2 ^ 63 + 0x7ff0000000000000 + 1 + (t / 2) % (2 ^ 52 - 1)) = true := fun t =>
    nan_drawn .f64 (2 ^ 63) 0x7ff0000000000000 (2 ^ 52 - 1) t (by decide +kernel) (by decide +kernel) (by decide +kernel) (by decide +kernel)
  cases k with
  | f32 => rcases hq with ⟨x, y, rfl⟩ | ⟨x, rfl⟩ | ⟨m, x, y, rfl⟩ <;> exact h32 t
  | f64 => rcases hq with ⟨x, y, rfl⟩ | ⟨x, rfl⟩ | ⟨m, x, y, rfl⟩ <;> exact h64 t

section runs
variable {P : Program} (w : World)
theorem run_float_any (op : BinOp) (hop : op = .add ∨ op = .sub ∨ op = .mul ∨ op = .quo) (t : TypeId) (k : FloatKind) (x y : Nat) :
    ∃ r n, (binOp op t (.float k x) (.float k y)).run P w = .ok (.float k r) (w.drewN n) ∧ canF k r = arF op k x y := by
  cases h : floatBits op k x y with
  | some r => exact ⟨r, 0, run_float_arith w op t k x y r h, by unfold arF; rw [h]; exact canF_num (floatBits_num h)⟩
  | none =>
    refine ⟨(Question.nanBits k x y).cut (w.tape w.drawn (.nanBits k x y)), 1, ?_, ?_⟩
    · rcases hop with rfl | rfl | rfl | rfl <;> simp only [floatBits] at h <;> simp [binOp, Op.floatArith, h, choose, Sem.run, Question.forced, World.drewN, bind, Sem.bind, pure]
    · unfold arF; rw [h]; exact canF_nan (cut_nanBits k _ (.inl ⟨x, y, rfl⟩) _)

theorem run_wide_any (src dst : TypeId) (hs : P.underlying src = some (.float .f32)) (hd : P.underlying dst = some (.float .f64)) (x : Nat) :
    ∃ r n, (convert src dst (.float .f32 x)).run P w = .ok (.float .f64 r) (w.drewN n) ∧ canF .f64 r = wide x := by
  cases h : floatToFloatBits .f32 x .f64 with
  | some r => exact ⟨r, 0, run_convert_float_float w src dst .f32 .f64 x r (by rw [hs]; rfl) hd h, by unfold wide; rw [h]; exact canF_num (wide_num h)⟩
  | none =>
    have hn : ∃ s f, FloatKind.f32.decode x = .nan s f := by
      unfold floatToFloatBits at h
      simp only [reduceCtorEq, if_false] at h
      split at h
      · rename_i s f e; exact ⟨s, f, e⟩
      · cases h
      · rename_i s m e he
        split at h
        · rename_i hi
          exfalso
          rw [wide_fits he] at hi; cases hi
        · cases h
    obtain ⟨s, f, e⟩ := hn
    refine ⟨(Question.nanConv .f64 x).cut (w.tape w.drawn (.nanConv .f64 x)), 1, ?_, ?_⟩
    · simp [convert, run_underlying hs, run_underlying hd, Conv.floatToFloat, e, choose, Sem.run, Question.forced, World.drewN]
    · unfold wide; rw [h]; exact canF_nan (cut_nanBits .f64 _ (.inr (.inl ⟨x, rfl⟩)) _)
end runs

/-! stores of floats -/
section stores
variable (P : Program) (w : World) (a : Addr) (m : Mode)
@[go_sem] theorem run_store_float (k : FloatKind) (b : Nat) : (store a (.float k b) m).run P w = stored P w a (.float k b) m := run_store P w a _ m rfl
@[go_sem] theorem run_store_complex (k : FloatKind) (b c : Nat) : (store a (.complex k b c) m).run P w = stored P w a (.complex k b c) m := run_store P w a _ m rfl
end stores
/-! comparisons, as the walk shall write them -/
section folds
variable (k : FloatKind) (a b : Nat)
@[go_sem] theorem fold_eqF : (k.format.order a b == some .eq) = eqF k a b := rfl
@[go_sem] theorem fold_neF : (k.format.order a b != some .eq) = !eqF k a b := rfl
@[go_sem] theorem fold_ltF : (k.format.order a b == some .lt) = ltF k a b := rfl
@[go_sem] theorem fold_gtF : (k.format.order a b == some .gt) = gtF k a b := rfl
@[go_sem] theorem fold_leF : (ltF k a b || eqF k a b) = leF k a b := rfl
@[go_sem] theorem fold_geF : (gtF k a b || eqF k a b) = geF k a b := rfl
end folds
theorem order_self {k : FloatKind} {a : Nat} (h : nanB k a = false) : k.format.order a a = some .eq := by
  unfold Ieee.Format.order
  unfold nanB FloatKind.decode at h
  generalize k.format.read a = d at h
  cases d with
  | number s m e => simp [Ieee.Datum.order]
  | infinity s => simp [Ieee.Datum.order]
  | nan s f => cases h
theorem eqF_self {k : FloatKind} (a : Nat) : eqF k a a = !nanB k a := by
  cases h : nanB k a
  · unfold eqF; rw [order_self h]; rfl
  · unfold eqF; rw [order_nan_left h]; rfl
theorem eqF_nan {k : FloatKind} {a : Nat} (h : nanB k a = true) (b : Nat) : eqF k a b = false := by unfold eqF; rw [order_nan_left h]; rfl

theorem order_some {k : FloatKind} {a b : Nat} (ha : nanB k a = false) (hb : nanB k b = false) : ∃ o, k.format.order a b = some o := by
  unfold Ieee.Format.order
  unfold nanB FloatKind.decode at ha hb
  generalize k.format.read a = d at ha
  generalize k.format.read b = d' at hb
  cases d <;> cases d' <;> first | exact ⟨_, rfl⟩ | exact Bool.noConfusion ha | exact Bool.noConfusion hb
theorem leF_not {k : FloatKind} {a b : Nat} (ha : nanB k a = false) (hb : nanB k b = false) : leF k a b = !gtF k a b := by
  obtain ⟨o, h⟩ := order_some ha hb
  unfold leF ltF gtF eqF; rw [h]; cases o <;> rfl
theorem geF_not {k : FloatKind} {a b : Nat} (ha : nanB k a = false) (hb : nanB k b = false) : geF k a b = !ltF k a b := by
  obtain ⟨o, h⟩ := order_some ha hb
  unfold geF ltF gtF eqF; rw [h]; cases o <;> rfl

/-! the steps of a walk -/
section steps
variable {P : Program} {ops : Array Oper} {rest : List Oper} {o : Oper} {a : Act} {w : World} {Q : Exit → Act → World → Prop} {K : Act → World → Prop}
def isAr : BinOp → Bool | .add | .sub | .mul | .quo => true | _ => false
theorem isAr_or {op : BinOp} (h : isAr op = true) : op = .add ∨ op = .sub ∨ op = .mul ∨ op = .quo := by cases op <;> simp_all [isAr]
theorem wp_flo {op : BinOp} {t t2 : TypeId} {X Y : Operand} {k : FloatKind} {x y : Nat} (ho : o.op = .binOp op t X Y t2) (hop : isAr op = true)
    (hx : a.eval X = .float k x) (hy : a.eval Y = .float k y)
    (h : ∀ r n, canF k r = arF op k x y → K (a.put o.dst (.float k r)) (w.drewN n)) : o.wp P a w K Q := by
  obtain ⟨r, n, hr, hc⟩ := run_float_any (P := P) w op (isAr_or hop) t k x y
  have hg : (eqGuard op t X Y (.float k x) (.float k y)).run P w = .ok () w := by
    rcases isAr_or hop with rfl | rfl | rfl | rfl <;> simp [eqGuard, pure]
  unfold Oper.wp execOp
  simp only [ho, Sem.run_bind, Sem.run_pure, Result.andThen_ok, hx, hy, hr, hg]
  exact h r n hc
theorem wp_wide {s d : TypeId} {X : Operand} {x : Nat} (ho : o.op = .convert s d X) (hs : P.underlying s = some (.float .f32)) (hd : P.underlying d = some (.float .f64))
    (hx : a.eval X = .float .f32 x) (h : ∀ r n, canF .f64 r = wide x → K (a.put o.dst (.float .f64 r)) (w.drewN n)) : o.wp P a w K Q := by
  obtain ⟨r, n, hr, hc⟩ := run_wide_any (P := P) w s d hs hd x
  unfold Oper.wp execOp
  simp only [ho, Sem.run_bind, Sem.run_pure, Result.andThen_ok, hx, hr]
  exact h r n hc
theorem wpList_flo {op : BinOp} {t t2 : TypeId} {X Y : Operand} {k : FloatKind} {x y : Nat} (hgd : o.guard = none) (ho : o.op = .binOp op t X Y t2) (hop : isAr op = true)
    (hx : a.eval X = .float k x) (hy : a.eval Y = .float k y)
    (h : ∀ r n, canF k r = arF op k x y → wpList P ops Q rest (a.put o.dst (.float k r)) (w.drewN n)) : wpList P ops Q (o :: rest) a w :=
  wpList_plain hgd fun _ hK => wp_flo ho hop hx hy fun r n hr => hK _ _ (h r n hr)
theorem wpList_wide {s d : TypeId} {X : Operand} {x : Nat} (hgd : o.guard = none) (ho : o.op = .convert s d X) (hs : P.underlying s = some (.float .f32)) (hd : P.underlying d = some (.float .f64))
    (hx : a.eval X = .float .f32 x) (h : ∀ r n, canF .f64 r = wide x → wpList P ops Q rest (a.put o.dst (.float .f64 r)) (w.drewN n)) : wpList P ops Q (o :: rest) a w :=
  wpList_plain hgd fun _ hK => wp_wide ho hs hd hx fun r n hr => hK _ _ (h r n hr)
theorem wpList_wanted (hw : Region.wanted o (yielded ops a.tmps) = true) (h : ∀ K : Act → World → Prop, (∀ a w, wpList P ops Q rest a w → K a w) → o.wp P a w K Q) : wpList P ops Q (o :: rest) a w :=
  wpList_step fun K hK => by rw [if_pos hw]; exact h K hK
theorem wpList_flo_g {op : BinOp} {t t2 : TypeId} {X Y : Operand} {k : FloatKind} {x y : Nat} (ho : o.op = .binOp op t X Y t2) (hop : isAr op = true)
    (hx : a.eval X = .float k x) (hy : a.eval Y = .float k y) (hw : Region.wanted o (yielded ops a.tmps) = true)
    (h : ∀ r n, canF k r = arF op k x y → wpList P ops Q rest (a.put o.dst (.float k r)) (w.drewN n)) : wpList P ops Q (o :: rest) a w :=
  wpList_wanted hw fun _ hK => wp_flo ho hop hx hy fun r n hr => hK _ _ (h r n hr)
end steps
end Go.Proofs.Ythmkbgiandncnaa
