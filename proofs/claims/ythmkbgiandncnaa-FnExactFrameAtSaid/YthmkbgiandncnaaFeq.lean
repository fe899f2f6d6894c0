/- Two float32 numbers: equal and of one sign is one word. -/
import Derived.Test.YthmkbgiandncnaaFlo
namespace Go.Proofs.Ythmkbgiandncnaa
open Go.RowKit

/-- the sign of a float32 word -/
def sgn (x : Nat) : Bool := x / 2147483648 % 2 == 1
/-- the magnitude of a rung, and its place above the least -/
def rmag (r : Nat) : Nat := if r < 8388608 then r else 8388608 + r % 8388608
def rpl (r : Nat) : Nat := if r < 8388608 then 0 else r / 8388608 - 1
theorem rung_inj {r s : Nat} (h : rmag r * 2 ^ rpl r = rmag s * 2 ^ rpl s) : r = s := by
  have key : ∀ {r s : Nat}, rpl r ≤ rpl s → rmag r * 2 ^ rpl r = rmag s * 2 ^ rpl s → r = s := by
    intro r s hle h
    obtain ⟨d, hd⟩ : ∃ d, rpl s = rpl r + d := ⟨rpl s - rpl r, by omega⟩
    rw [hd, Nat.pow_add, ← Nat.mul_assoc, Nat.mul_right_comm] at h
    have h2 : rmag r = rmag s * 2 ^ d := Nat.eq_of_mul_eq_mul_right (Nat.two_pow_pos _) h
    have hr : rmag r < 16777216 := by unfold rmag; split <;> omega
    rcases d with _ | d
    · simp at h2 hd
      unfold rmag at h2
      unfold rpl at hd
      split at h2 <;> split at h2 <;> simp_all <;> omega
    · exfalso
      have hs : 8388608 ≤ rmag s := by
        unfold rpl at hd
        unfold rmag
        split at hd
        · omega
        · rename_i hns; rw [if_neg hns]; omega
      have : 2 ≤ 2 ^ (d + 1) := by rw [Nat.pow_succ]; have := Nat.two_pow_pos d; omega
      have : rmag s * 2 ≤ rmag s * 2 ^ (d + 1) := Nat.mul_le_mul_left _ this
      omega
  rcases Nat.le_total (rpl r) (rpl s) with hle | hle
  · exact key hle h
  · exact (key hle h.symm).symm

theorem read_cases (x : Nat) (h : nanB .f32 x = false) : (FloatKind.f32.format.read x = .infinity (sgn x) ∧ x % 2147483648 = 2139095040) ∨
    (FloatKind.f32.format.read x = .number (sgn x) (rmag (x % 2147483648)) (-149 + (rpl (x % 2147483648) : Int)) ∧ x % 2147483648 < 2139095040) := by
  unfold nanB FloatKind.decode at h
  have e : FloatKind.f32.format.read x = (if x % 2147483648 < 8388608 then Ieee.Datum.number (sgn x) (x % 2147483648) (-149)
    else if x % 2147483648 < 2139095040 then .number (sgn x) (8388608 + x % 2147483648 % 8388608) (-149 + (x % 2147483648 / 8388608 - 1 : Nat))
    else if x % 2147483648 = 2139095040 then .infinity (sgn x) else .nan (sgn x) (x % 2147483648 - 2139095040)) := rfl
  rw [e] at h ⊢
  by_cases h1 : x % 2147483648 < 8388608
  · rw [if_pos h1]
    right
    unfold rmag rpl
    rw [if_pos h1, if_pos h1]
    exact ⟨rfl, by omega⟩
  · rw [if_neg h1] at h ⊢
    by_cases h2 : x % 2147483648 < 2139095040
    · rw [if_pos h2]
      right
      unfold rmag rpl
      rw [if_neg h1, if_neg h1]
      exact ⟨rfl, h2⟩
    · rw [if_neg h2] at h ⊢
      by_cases h3 : x % 2147483648 = 2139095040
      · rw [if_pos h3]; exact .inl ⟨rfl, h3⟩
      · rw [if_neg h3] at h; cases h

theorem eq_sgn {a b : Nat} (ha : nanB .f32 a = false) (hb : nanB .f32 b = false) (ha2 : a < 4294967296) (hb2 : b < 4294967296) : (eqF .f32 a b && (sgn a == sgn b)) = (a == b) := by
  rw [Bool.eq_iff_iff]
  simp only [Bool.and_eq_true, beq_iff_eq]
  constructor
  · rintro ⟨he, hs⟩
    have hw : a % 2147483648 = b % 2147483648 → a = b := by
      intro hr
      unfold sgn at hs
      have h1 : a / 2147483648 < 2 := by omega
      have h2 : b / 2147483648 < 2 := by omega
      rw [Bool.eq_iff_iff] at hs
      simp only [beq_iff_eq] at hs
      omega
    unfold eqF Ieee.Format.order at he
    rcases read_cases a ha with ⟨ra, ia⟩ | ⟨ra, ia⟩ <;> rcases read_cases b hb with ⟨rb, ib⟩ | ⟨rb, ib⟩
    · exact hw (by omega)
    · rw [ra, rb] at he
      simp only [Ieee.Datum.order] at he
      cases hsa : sgn a <;> rw [hsa] at he <;> cases he
    · rw [ra, rb] at he
      simp only [Ieee.Datum.order] at he
      cases hsb : sgn b <;> rw [hsb] at he <;> cases he
    · rw [ra, rb, hs] at he
      apply hw
      apply rung_inj
      simp only [Ieee.Datum.order] at he
      generalize rmag (a % 2147483648) = m at *
      generalize rmag (b % 2147483648) = n at *
      generalize rpl (a % 2147483648) = p at *
      generalize rpl (b % 2147483648) = q at *
      have hu : (-149 + (p : Int) - min (-149 + (p : Int)) (-149 + (q : Int))).toNat = p - min p q := by omega
      have hv : (-149 + (q : Int) - min (-149 + (p : Int)) (-149 + (q : Int))).toNat = q - min p q := by omega
      rw [hu, hv] at he
      have hc : Ieee.signed (sgn b) m (p - min p q) = Ieee.signed (sgn b) n (q - min p q) := by
        have he := (beq_iff_eq.1 he)
        injection he with he
        exact Int.compare_eq_eq.1 he
      have hs : m * 2 ^ (p - min p q) = n * 2 ^ (q - min p q) := by
        unfold Ieee.signed at hc
        rw [Nat.shiftLeft_eq, Nat.shiftLeft_eq] at hc
        cases hb3 : sgn b <;> rw [hb3] at hc <;> simp at hc <;> exact_mod_cast hc
      have h3 : m * 2 ^ (p - min p q) * 2 ^ (min p q) = n * 2 ^ (q - min p q) * 2 ^ (min p q) := by rw [hs]
      rw [Nat.mul_assoc, Nat.mul_assoc, ← Nat.pow_add, ← Nat.pow_add] at h3
      rwa [show p - min p q + min p q = p by omega, show q - min p q + min p q = q by omega] at h3
  · rintro rfl
    exact ⟨by rw [eqF_self, ha]; rfl, rfl⟩
end Go.Proofs.Ythmkbgiandncnaa
