/- How far float32 numbers go: rounding keeps what is small small; a difference of numbers not below 0 is finite; ramps are finite; mixes are no NaNs. -/
import Derived.Test.YthmkbgiandncnaaLe2
namespace Go.Proofs.Ythmkbgiandncnaa
open Go.RowKit

section small
open Ieee
theorem k_sw : Ieee.single.signWeight = 2147483648 := by decide +kernel
theorem k_bin : Ieee.single.binade = 8388608 := by decide +kernel
theorem k_inf : Ieee.single.infRung = 2139095040 := by decide +kernel
theorem k_least : Ieee.single.leastPlace = -149 := by decide +kernel
theorem k_frac : Ieee.single.fractionBits = 23 := rfl

/-- below 2^k -/
def lt2 (m : Nat) (e k : Int) : Prop := m = 0 ∨ e + (m.log2 : Int) < k
theorem lt2.mono {m : Nat} {e k k' : Int} (h : lt2 m e k) (hk : k ≤ k') : lt2 m e k' := by
  rcases h with h | h
  · exact .inl h
  · exact .inr (by omega)

theorem low_le {n d b : Nat} (h : n < 2 ^ (d + b)) : n / (1 <<< min d (n.log2 + 2)) < 2 ^ b := by
  rw [Nat.shiftLeft_eq, Nat.one_mul]
  by_cases hd : d ≤ n.log2 + 2
  · rw [Nat.min_eq_left hd, Nat.div_lt_iff_lt_mul (Nat.two_pow_pos _), ← Nat.pow_add, Nat.add_comm b d]; exact h
  · rw [Nat.min_eq_right (by omega)]
    have : n < 2 ^ (n.log2 + 2) := by
      by_cases h0 : n = 0
      · subst h0; exact Nat.two_pow_pos _
      · exact (Nat.log2_lt h0).1 (by omega)
    rw [Nat.div_eq_of_lt this]; exact Nat.two_pow_pos _
theorem cut_le {neg : Bool} {n d b : Nat} (h : n < 2 ^ (d + b)) : Toward.even.cut neg n d ≤ 2 ^ b := by
  unfold Toward.cut
  have := low_le h
  have hm : ∀ q : Bool, q.toNat ≤ 1 := fun q => by cases q <;> decide
  exact Nat.le_trans (Nat.add_le_add_left (hm _) _) (by omega)
theorem cut_exact {neg : Bool} {n d N : Nat} (h : n ≤ N * 2 ^ d) (hd : d ≤ n.log2 + 2) : Toward.even.cut neg n d ≤ N := by
  unfold Toward.cut
  rw [Nat.shiftLeft_eq, Nat.one_mul, Nat.min_eq_left hd]
  dsimp only
  have hp : 0 < 2 ^ d := Nat.two_pow_pos _
  have hl : n / 2 ^ d ≤ N := by rw [Nat.div_le_iff_le_mul_add_pred hp, Nat.mul_comm]; omega
  have hm : ∀ q : Bool, q.toNat ≤ 1 := fun q => by cases q <;> decide
  rcases Nat.lt_or_ge (n / 2 ^ d) N with h1 | h1
  · exact Nat.le_trans (Nat.add_le_add_left (hm _) _) (by omega)
  · have he : n / 2 ^ d = N := by omega
    have hr : n % 2 ^ d = 0 := by
      have := Nat.div_add_mod n (2 ^ d)
      rw [he, Nat.mul_comm] at this; omega
    rw [hr, he]
    have h2 : (decide (2 ^ d < 2 * 0) || 2 ^ d == 2 * 0 && N % 2 == 1) = false := by
      simp
    rw [h2]; exact Nat.le_refl _
theorem cut_zero' (n : Nat) (neg : Bool) : Toward.even.cut neg n 0 = n := by
  unfold Toward.cut; simp [Nat.mod_one]

/-- how a rung reads -/
theorem read_rung {s : Bool} {r : Nat} {k : Int} (h0 : 0 ≤ k) (h127 : k ≤ 127) (hr : (r : Int) ≤ (k + 127) * 8388608) : ∃ s' m e, single.read (single.word s r) = .number s' m e ∧ lt2 m e (k + 1) := by
  have hr2 : r ≤ 2130706432 := by omega
  unfold Format.read
  rw [rung_word _ _ (by rw [k_sw]; omega), k_bin, k_inf, k_least]
  dsimp only
  by_cases h1 : r < 8388608
  · rw [if_pos h1]
    refine ⟨_, _, _, rfl, ?_⟩
    by_cases hz : r = 0
    · exact .inl hz
    · right
      have : r.log2 < 23 := (Nat.log2_lt hz).2 h1
      omega
  · rw [if_neg h1, if_pos (by omega)]
    refine ⟨_, _, _, rfl, .inr ?_⟩
    have hl : (8388608 + r % 8388608).log2 < 24 := (Nat.log2_lt (by omega)).2 (by show _ < 16777216; have := Nat.mod_lt r (show 0 < 8388608 by omega); omega)
    have hd : r / 8388608 = (r / 8388608 - 1) + 1 := by omega
    omega
theorem near_rung {s : Bool} {m : Nat} {e k : Int} (h : lt2 m e k) (h0 : 0 ≤ k) (h127 : k ≤ 127) : ∃ s' m' e', single.read (single.nearest s m e) = .number s' m' e' ∧ lt2 m' e' (k + 1) := by
  unfold Format.nearest
  by_cases hm : m = 0
  · rw [if_pos hm]; exact read_rung h0 h127 (by omega)
  · rw [if_neg hm, k_bin, k_inf, k_least, k_frac]
    dsimp only
    have h := h.resolve_left hm
    have hlt : m < 2 ^ (m.log2 + 1) := (Nat.log2_lt hm).1 (Nat.lt_succ_self _)
    generalize hq : m.log2 = q at *
    generalize hl : max (e + (q : Int) - ((23 : Nat) : Int)) (-149) = last
    have hk : Toward.even.cut s (m <<< (e - last).toNat) (last - e).toNat ≤ 16777216 := by
      by_cases hc : last ≤ e
      · rw [show (last - e).toNat = 0 by omega, cut_zero', Nat.shiftLeft_eq]
        have : m * 2 ^ (e - last).toNat < 2 ^ (q + 1) * 2 ^ (e - last).toNat := Nat.mul_lt_mul_of_pos_right hlt (Nat.two_pow_pos _)
        rw [← Nat.pow_add] at this
        have h2 : 2 ^ (q + 1 + (e - last).toNat) ≤ 2 ^ 24 := Nat.pow_le_pow_right (by decide) (by omega)
        have h3 : (2 : Nat) ^ 24 = 16777216 := by decide
        omega
      · rw [show (e - last).toNat = 0 by omega, Nat.shiftLeft_zero]
        exact cut_le (b := 24) (Nat.lt_of_lt_of_le hlt (Nat.pow_le_pow_right (by decide) (by omega)))
    generalize Toward.even.cut s (m <<< (e - last).toNat) (last - e).toNat = kept at hk
    have hle : min ((last - -149).toNat * 8388608 + kept) 2139095040 ≤ (last - -149).toNat * 8388608 + kept := Nat.min_le_left _ _
    generalize min ((last - -149).toNat * 8388608 + kept) 2139095040 = r at hle
    exact read_rung h0 h127 (by omega)
theorem near_max {s : Bool} {m : Nat} {e : Int} (he1 : -149 ≤ e) (he2 : e ≤ 104) (h : m ≤ 16777215 * 2 ^ (104 - e).toNat) : ∃ s' m' e', single.read (single.nearest s m e) = .number s' m' e' := by
  by_cases hm : m = 0
  · subst hm
    obtain ⟨a, b, c, h, _⟩ := near_rung (s := s) (m := 0) (e := e) (k := 0) (.inl rfl) (by omega) (by omega)
    exact ⟨a, b, c, h⟩
  have hlt : m < 2 ^ (m.log2 + 1) := (Nat.log2_lt hm).1 (Nat.lt_succ_self _)
  have hlog : m.log2 < (104 - e).toNat + 24 := (Nat.log2_lt hm).2 (by
    rw [Nat.add_comm, Nat.pow_add]
    have : 16777215 * 2 ^ (104 - e).toNat < 2 ^ 24 * 2 ^ (104 - e).toNat := Nat.mul_lt_mul_of_pos_right (by decide) (Nat.two_pow_pos _)
    omega)
  by_cases hs : lt2 m e 127
  · obtain ⟨a, b, c, h, _⟩ := near_rung (s := s) hs (by omega) (by omega)
    exact ⟨a, b, c, h⟩
  · have hq : e + (m.log2 : Int) = 127 := by
      have : ¬ (e + (m.log2 : Int) < 127) := fun h => hs (.inr h)
      omega
    unfold Format.nearest
    rw [if_neg hm, k_bin, k_inf, k_least, k_frac]
    dsimp only
    rw [show max (e + (m.log2 : Int) - ((23 : Nat) : Int)) (-149) = 104 by omega, show (e - 104).toNat = 0 by omega, Nat.shiftLeft_zero]
    have hk : Toward.even.cut s m (104 - e).toNat ≤ 16777215 := cut_exact h (by omega)
    generalize Toward.even.cut s m (104 - e).toNat = kept at hk
    have hr : min ((104 - -149 : Int).toNat * 8388608 + kept) 2139095040 < 2139095040 := Nat.lt_of_le_of_lt (Nat.min_le_left _ _) (by show 253 * 8388608 + kept < _; omega)
    generalize min ((104 - -149 : Int).toNat * 8388608 + kept) 2139095040 = r at hr
    unfold Format.read
    rw [rung_word _ _ (by rw [k_sw]; omega), k_bin, k_inf, k_least]
    dsimp only
    by_cases h1 : r < 8388608
    · rw [if_pos h1]; exact ⟨_, _, _, rfl⟩
    · rw [if_neg h1, if_pos hr]; exact ⟨_, _, _, rfl⟩
end small

/-- a finite number that is not below 0 -/
def nonneg (a : Nat) : Prop := ∃ s m e, Ieee.single.read a = .number s m e ∧ (s = false ∨ m = 0)
theorem read_zero : Ieee.single.read 0 = .number false 0 (-149) := by decide +kernel
theorem nonneg_of {a : Nat} (h : fin32 a = true) (hg : ltF .f32 a 0 = false) : nonneg a := by
  obtain ⟨s, m, e, hr⟩ := number_of_fin32 h
  refine ⟨s, m, e, hr, ?_⟩
  unfold ltF Ieee.Format.order at hg
  rw [show FloatKind.f32.format.read a = .number s m e from hr, show FloatKind.f32.format.read 0 = .number false 0 (-149) from read_zero] at hg
  cases s
  · exact .inl rfl
  · right
    by_cases hm : m = 0
    · exact hm
    · exfalso
      simp only [Ieee.Datum.order, Ieee.signed, if_true, Bool.false_eq_true, if_false, Nat.zero_shiftLeft] at hg
      have hp : 0 < m <<< (e - min e (-149)).toNat := by rw [Nat.shiftLeft_eq]; exact Nat.mul_pos (Nat.pos_of_ne_zero hm) (Nat.two_pow_pos _)
      have : compare (-((m <<< (e - min e (-149)).toNat : Nat) : Int)) ((0 : Nat) : Int) = .lt := by rw [Int.compare_eq_lt]; omega
      rw [this] at hg
      cases hg
theorem geF_lt {a : Nat} (h : geF .f32 a 0 = true) : ltF .f32 a 0 = false := by
  unfold geF gtF eqF at h
  unfold ltF
  cases ho : FloatKind.f32.format.order a 0 with
  | none => rfl
  | some o => rw [ho] at h; cases o <;> first | rfl | cases h
theorem least_nonneg {a : Nat} (h : least a = true) : nonneg a := by
  unfold least at h; simp at h; exact nonneg_of h.1 (geF_lt h.2)
theorem gtF_lt {a : Nat} (h : gtF .f32 a 0 = true) : ltF .f32 a 0 = false := by
  unfold gtF at h
  unfold ltF
  cases ho : FloatKind.f32.format.order a 0 with
  | none => rfl
  | some o => rw [ho] at h; cases o <;> first | rfl | cases h
theorem above_nonneg {a : Nat} (h : above a = true) : nonneg a := by
  unfold above at h; simp at h; exact nonneg_of h.1 (gtF_lt h.2)
theorem nonneg_fin {a : Nat} (h : nonneg a) : fin32 a = true := by
  obtain ⟨s, m, e, hr, _⟩ := h; exact fin32_of_number hr
theorem decode32 {x : Nat} {s : Bool} {m : Nat} {e : Int} (h : Ieee.single.read x = .number s m e) : m < 2 ^ 24 ∧ -149 ≤ e ∧ e ≤ 104 := decode32_number (x := x) (s := s) h

theorem sub_fin {a b : Nat} (ha : nonneg a) (hb : nonneg b) : ∃ r, floatBits .sub .f32 b a = some r ∧ sub32 b a = r ∧ fin32 r = true := by
  obtain ⟨s, m, e, h1, hs⟩ := ha
  obtain ⟨t, n, f, h2, ht⟩ := hb
  obtain ⟨m1, m2, m3⟩ := decode32 h1
  obtain ⟨n1, n2, n3⟩ := decode32 h2
  have key : ∃ q M, ((Ieee.single.read b).sum (Ieee.single.read a).opposite) = some (.number q M (min f e)) ∧ M ≤ 16777215 * 2 ^ (104 - min f e).toNat := by
    rw [h1, h2]
    unfold Ieee.Datum.opposite Ieee.Datum.sum
    refine ⟨_, _, rfl, ?_⟩
    have bound : ∀ {x : Nat} {i : Int}, x < 2 ^ 24 → i ≤ 104 → min f e ≤ i → x <<< (i - min f e).toNat ≤ 16777215 * 2 ^ (104 - min f e).toNat := by
      intro x i hx hi hmin
      rw [Nat.shiftLeft_eq]
      exact Nat.mul_le_mul (by have : (2 : Nat) ^ 24 = 16777216 := by decide
                               omega) (Nat.pow_le_pow_right (by decide) (by omega))
    have b1 := bound n1 n3 (by omega)
    have b2 := bound m1 m3 (by omega)
    have hX0 : s = false ∨ m <<< (e - min f e).toNat = 0 := hs.imp id fun h => by rw [h, Nat.zero_shiftLeft]
    have hY0 : t = false ∨ n <<< (f - min f e).toNat = 0 := ht.imp id fun h => by rw [h, Nat.zero_shiftLeft]
    clear bound hs ht m1 n1
    unfold Ieee.signed
    generalize m <<< (e - min f e).toNat = X at *
    generalize n <<< (f - min f e).toNat = Y at *
    generalize 16777215 * 2 ^ (104 - min f e).toNat = K at *
    rcases hX0 with rfl | rfl <;> rcases hY0 with rfl | rfl <;> (try cases s) <;> (try cases t) <;> simp only [Bool.not_false, Bool.not_true, if_true, Bool.false_eq_true, if_false] <;> omega
  obtain ⟨q, M, hk, hM⟩ := key
  obtain ⟨s', m', e', hr⟩ := near_max (s := q) (m := M) (e := min f e) (by omega) (by omega) hM
  have hr' : floatBits .sub .f32 b a = some (Ieee.single.nearest q M (min f e)) := by
    show Ieee.single.sub b a = _
    unfold Ieee.Format.sub
    rw [hk]; rfl
  exact ⟨_, hr', by unfold sub32 arF; rw [hr']; rfl, fin32_of_number hr⟩
theorem add_num {a b : Nat} (ha : fin32 a = true) (hb : nanB .f32 b = false) : ∃ r, floatBits .add .f32 a b = some r ∧ add32 a b = r := by
  obtain ⟨s, m, e, h1⟩ := number_of_fin32 ha
  have : ∃ r, Ieee.single.add a b = some r := by
    unfold Ieee.Format.add
    rw [h1]
    unfold nanB FloatKind.decode at hb
    have hb' : (Ieee.single.read b).isNaN = false := hb
    generalize Ieee.single.read b = d at hb'
    cases d with
    | number => exact ⟨_, rfl⟩
    | infinity => exact ⟨_, rfl⟩
    | nan => cases hb'
  obtain ⟨r, hr⟩ := this
  have hr' : floatBits .add .f32 a b = some r := hr
  exact ⟨r, hr', by unfold add32 arF; rw [hr']; rfl⟩
/-- between two numbers -/
def mixP (x y sh : Nat) : Nat := add32 x (mul32 sh (sub32 y x))
theorem mix_num {x y sh : Nat} (hx : nonneg x) (hy : nonneg y) (hs : fin32 sh = true) :
    ∃ d p r, floatBits .sub .f32 y x = some d ∧ floatBits .mul .f32 sh d = some p ∧ floatBits .add .f32 x p = some r ∧ mixP x y sh = r ∧ nanB .f32 r = false := by
  obtain ⟨d, h1, e1, f1⟩ := sub_fin hx hy
  obtain ⟨p, h2, e2⟩ := mul_some hs f1
  obtain ⟨r, h3, e3⟩ := add_num (nonneg_fin hx) (floatBits_num h2)
  exact ⟨d, p, r, h1, h2, h3, by unfold mixP; rw [e1, e2, e3], floatBits_num h3⟩

theorem lt2_mul {m n : Nat} {e f k l : Int} (h1 : lt2 m e k) (h2 : lt2 n f l) : lt2 (m * n) (e + f) (k + l) := by
  by_cases hm : m = 0
  · exact .inl (by rw [hm, Nat.zero_mul])
  by_cases hn : n = 0
  · exact .inl (by rw [hn, Nat.mul_zero])
  have h1 := h1.resolve_left hm
  have h2 := h2.resolve_left hn
  right
  have a1 : m < 2 ^ (m.log2 + 1) := (Nat.log2_lt hm).1 (Nat.lt_succ_self _)
  have a2 : n < 2 ^ (n.log2 + 1) := (Nat.log2_lt hn).1 (Nat.lt_succ_self _)
  have : (m * n).log2 < m.log2 + 1 + (n.log2 + 1) := (Nat.log2_lt (Nat.mul_ne_zero hm hn)).2 (by rw [Nat.pow_add]; exact Nat.mul_lt_mul'' a1 a2)
  omega
/-- a finite number below 2^k -/
def numK (x : Nat) (k : Int) : Prop := ∃ s m e, Ieee.single.read x = .number s m e ∧ lt2 m e k
theorem numK.fin {x : Nat} {k : Int} (h : numK x k) : fin32 x = true := by obtain ⟨s, m, e, h, _⟩ := h; exact fin32_of_number h
theorem mul_numK {x y : Nat} {k l : Int} (hx : numK x k) (hy : numK y l) (h0 : 0 ≤ k + l) (h1 : k + l ≤ 127) : ∃ r, floatBits .mul .f32 x y = some r ∧ mul32 x y = r ∧ numK r (k + l + 1) := by
  obtain ⟨s, m, e, hr1, a1⟩ := hx
  obtain ⟨t, n, f, hr2, a2⟩ := hy
  obtain ⟨s', m', e', hr, hb⟩ := near_rung (s := s ^^ t) (lt2_mul a1 a2) h0 h1
  have hr' : floatBits .mul .f32 x y = some (Ieee.single.nearest (s ^^ t) (m * n) (e + f)) := by
    show Ieee.single.mul x y = _
    unfold Ieee.Format.mul
    rw [hr1, hr2]; rfl
  exact ⟨_, hr', by unfold mul32 arF; rw [hr']; rfl, s', m', e', hr, hb⟩
theorem lt2_shift {m : Nat} {e k base : Int} (h : lt2 m e k) (hb : base ≤ e) : m <<< (e - base).toNat < 2 ^ (k - base).toNat ∨ (m = 0) := by
  by_cases hm : m = 0
  · exact .inr hm
  left
  have h := h.resolve_left hm
  have a1 : m < 2 ^ (m.log2 + 1) := (Nat.log2_lt hm).1 (Nat.lt_succ_self _)
  rw [Nat.shiftLeft_eq]
  have : m * 2 ^ (e - base).toNat < 2 ^ (m.log2 + 1) * 2 ^ (e - base).toNat := Nat.mul_lt_mul_of_pos_right a1 (Nat.two_pow_pos _)
  rw [← Nat.pow_add] at this
  exact Nat.lt_of_lt_of_le this (Nat.pow_le_pow_right (by decide) (by omega))
theorem sub_numK {x y : Nat} {k : Int} (hx : numK x k) (hy : numK y k) (h0 : 0 ≤ k) (h1 : k < 127) : ∃ r, floatBits .sub .f32 x y = some r ∧ sub32 x y = r ∧ numK r (k + 2) := by
  obtain ⟨s, m, e, hr1, a1⟩ := hx
  obtain ⟨t, n, f, hr2, a2⟩ := hy
  have key : ∃ q M, ((Ieee.single.read x).sum (Ieee.single.read y).opposite) = some (.number q M (min e f)) ∧ lt2 M (min e f) (k + 1) := by
    rw [hr1, hr2]
    unfold Ieee.Datum.opposite Ieee.Datum.sum
    refine ⟨_, _, rfl, ?_⟩
    have pos := Nat.two_pow_pos (k - min e f).toNat
    have z : ∀ (k : Nat), 0 <<< k = 0 := fun k => Nat.zero_shiftLeft k
    have c1 : m <<< (e - min e f).toNat < 2 ^ (k - min e f).toNat := by
      rcases lt2_shift a1 (show min e f ≤ e by omega) with h | h
      · exact h
      · rw [h, z]; exact pos
    have c2 : n <<< (f - min e f).toNat < 2 ^ (k - min e f).toNat := by
      rcases lt2_shift a2 (show min e f ≤ f by omega) with h | h
      · exact h
      · rw [h, z]; exact pos
    unfold Ieee.signed
    generalize m <<< (e - min e f).toNat = X at *
    generalize n <<< (f - min e f).toNat = Y at *
    generalize min e f = base at *
    have hlt : ∀ M : Nat, (M : Int) ≤ X + Y → lt2 M base (k + 1) := by
      intro M hM
      by_cases h0 : M = 0
      · exact .inl h0
      right
      have hlt : M < 2 ^ ((k - base).toNat + 1) := by rw [Nat.pow_succ]; omega
      have := (Nat.log2_lt h0).2 hlt
      by_cases hk : base ≤ k
      · omega
      · exfalso
        have e0 : (k - base).toNat = 0 := by omega
        rw [e0] at c1 c2
        have q1 : X = 0 := by omega
        have q2 : Y = 0 := by omega
        omega
    refine hlt _ ?_
    cases s <;> cases t <;> simp only [Bool.not_false, Bool.not_true, if_true, Bool.false_eq_true, if_false] <;> omega
  obtain ⟨q, M, hk, hM⟩ := key
  obtain ⟨s', m', e', hr, hb⟩ := near_rung (s := q) hM (by omega) (by omega)
  have hr' : floatBits .sub .f32 x y = some (Ieee.single.nearest q M (min e f)) := by
    show Ieee.single.sub x y = _
    unfold Ieee.Format.sub
    rw [hk]; rfl
  exact ⟨_, hr', by unfold sub32 arF; rw [hr']; rfl, s', m', e', hr, by rw [show k + 2 = k + 1 + 1 by omega]; exact hb⟩

abbrev one32 : Nat := 1065353216
abbrev two32 : Nat := 1073741824
abbrev three32 : Nat := 1077936128
/-- a soft ramp -/
def rampP (q : Nat) : Nat := if ltF .f32 q 0 then 0 else if gtF .f32 q one32 then one32 else mul32 (mul32 q q) (sub32 three32 (mul32 two32 q))
theorem read_one : Ieee.single.read one32 = .number false 8388608 (-23) := by decide +kernel
theorem numK_of {q : Nat} (hn : nanB .f32 q = false) (h0 : ltF .f32 q 0 = false) (h1 : gtF .f32 q one32 = false) : numK q 1 := by
  unfold ltF Ieee.Format.order at h0
  unfold gtF Ieee.Format.order at h1
  unfold nanB FloatKind.decode at hn
  rw [show FloatKind.f32.format.read 0 = .number false 0 (-149) from read_zero] at h0
  rw [show FloatKind.f32.format.read one32 = .number false 8388608 (-23) from read_one] at h1
  cases hd : Ieee.single.read q with
  | nan s f => rw [show FloatKind.f32.format.read q = _ from hd] at hn; cases hn
  | infinity s =>
    exfalso
    rw [show FloatKind.f32.format.read q = _ from hd] at h0 h1
    cases s
    · cases h1
    · cases h0
  | number s m e =>
    refine ⟨s, m, e, hd, ?_⟩
    by_cases hm : m = 0
    · exact .inl hm
    have hneg : nonneg q := by
      refine nonneg_of (fin32_of_number hd) ?_
      unfold ltF Ieee.Format.order
      rw [show FloatKind.f32.format.read 0 = .number false 0 (-149) from read_zero]; exact h0
    obtain ⟨s', m', e', hd', hs'⟩ := hneg
    rw [hd] at hd'
    injection hd' with i1 i2 i3
    subst i1; subst i2; subst i3
    have hs : s = false := hs'.resolve_right hm
    subst hs
    rw [show FloatKind.f32.format.read q = _ from hd] at h1
    right
    simp only [Ieee.Datum.order, Ieee.signed, Bool.false_eq_true, if_false] at h1
    have hle : m <<< (e - min e (-23)).toNat ≤ 8388608 <<< (-23 - min e (-23)).toNat := by
      rcases Nat.lt_or_ge (8388608 <<< (-23 - min e (-23)).toNat) (m <<< (e - min e (-23)).toNat) with h | h
      · exfalso
        have : compare ((m <<< (e - min e (-23)).toNat : Nat) : Int) ((8388608 <<< (-23 - min e (-23)).toNat : Nat) : Int) = .gt := by rw [Int.compare_eq_gt]; omega
        rw [this] at h1; cases h1
      · exact h
    rw [Nat.shiftLeft_eq, Nat.shiftLeft_eq] at hle
    have hp : 2 ^ m.log2 ≤ m := Nat.log2_self_le hm
    have h2 : 2 ^ (m.log2 + (e - min e (-23)).toNat) ≤ 2 ^ (23 + (-23 - min e (-23)).toNat) := by
      rw [Nat.pow_add, Nat.pow_add]
      exact Nat.le_trans (Nat.mul_le_mul_right _ hp) hle
    have := (Nat.pow_le_pow_iff_right (by decide)).1 h2
    omega
theorem ramp_parts {q : Nat} (h : numK q 1) : ∃ a b c d, floatBits .mul .f32 q q = some a ∧ floatBits .mul .f32 two32 q = some b ∧ floatBits .sub .f32 three32 b = some c ∧ floatBits .mul .f32 a c = some d ∧ mul32 (mul32 q q) (sub32 three32 (mul32 two32 q)) = d ∧ fin32 d = true := by
  have k2 : numK two32 2 := ⟨false, 8388608, -22, by decide +kernel, .inr (by decide +kernel)⟩
  have k3 : numK three32 4 := ⟨false, 12582912, -22, by decide +kernel, .inr (by decide +kernel)⟩
  obtain ⟨a, h1, e1, ka⟩ := mul_numK h h (by omega) (by omega)
  obtain ⟨b, h2, e2, kb⟩ := mul_numK k2 h (by omega) (by omega)
  obtain ⟨c, h3, e3, kc⟩ := sub_numK k3 (show numK b 4 from kb) (by omega) (by omega)
  obtain ⟨d, h4, e4, kd⟩ := mul_numK ka kc (by omega) (by omega)
  exact ⟨a, b, c, d, h1, h2, h3, h4, by rw [e1, e2, e3, e4], kd.fin⟩
theorem ramp_fin {q : Nat} (hn : nanB .f32 q = false) : fin32 (rampP q) = true := by
  unfold rampP
  cases h0 : ltF .f32 q 0
  · cases h1 : gtF .f32 q one32
    · obtain ⟨_, _, _, _, _, _, _, _, e, f⟩ := ramp_parts (numK_of hn h0 h1)
      simp only [Bool.false_eq_true, if_false]
      rw [e]; exact f
    · simp only [Bool.false_eq_true, if_false, if_true]; exact fin32_of_number read_one
  · simp only [if_true]; exact fin32_of_number read_zero
theorem div_num {t p : Nat} (ht : fin32 t = true) (hp : fin32 p = true) (h : ltF .f32 t p = true) : ∃ r, floatBits .quo .f32 t p = some r ∧ div32 t p = r ∧ nanB .f32 r = false := by
  obtain ⟨s, m, e, h1⟩ := number_of_fin32 ht
  obtain ⟨s', n, f, h2⟩ := number_of_fin32 hp
  have : ∃ r, Ieee.single.div t p = some r := by
    unfold Ieee.Format.div
    rw [h1, h2]
    unfold Ieee.Datum.quotient
    dsimp only
    by_cases hn : n = 0
    · rw [if_pos hn]
      by_cases hm : m = 0
      · exfalso
        unfold ltF Ieee.Format.order at h
        rw [show FloatKind.f32.format.read t = _ from h1, show FloatKind.f32.format.read p = _ from h2, hm, hn] at h
        revert h
        simp only [Ieee.Datum.order, Ieee.signed, Nat.zero_shiftLeft]
        cases s <;> cases s' <;> decide
      · rw [if_neg hm]; exact ⟨_, rfl⟩
    · rw [if_neg hn]; exact ⟨_, rfl⟩
  obtain ⟨r, hr⟩ := this
  have hr' : floatBits .quo .f32 t p = some r := hr
  exact ⟨r, hr', by unfold div32 arF; rw [hr']; rfl, floatBits_num hr'⟩
end Go.Proofs.Ythmkbgiandncnaa
