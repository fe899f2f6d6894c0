/- The laws' marks: texts. -/
import Derived.Test.YthmkbgiandncnaaMark
import Derived.Laws.IdiomStrings
import Derived.Laws.Concat
namespace Go.Proofs.Ythmkbgiandncnaa
open Go.RowKit

def dig (k : Nat) : UInt8 := UInt8.ofNat (48 + k % 10)
/-- the digits of k ahead of a text -/
def digs : Nat → ByteArray → ByteArray
  | 0, b => b
  | k + 1, b => digs ((k + 1) / 10) (⟨#[dig (k + 1)]⟩ ++ b)
termination_by k => k
decreasing_by omega
def mtext (k : Nat) : ByteArray := ⟨#[109]⟩ ++ digs k ByteArray.empty
theorem digs_step {r : Nat} (h : 0 < r) (b : ByteArray) : digs r b = digs (r / 10) (⟨#[dig r]⟩ ++ b) := by
  obtain ⟨k, rfl⟩ : ∃ k, r = k + 1 := ⟨r - 1, by omega⟩
  rw [digs]
theorem digs_0 (b : ByteArray) : digs 0 b = b := by rw [digs]
theorem dig_val (r : Nat) : ((dig r).toNat : Int) = 48 + (r : Int) % 10 := by
  unfold dig
  rw [UInt8.toNat_ofNat']
  omega

theorem run_digit (w : World) (r cap : Nat) (t : TypeId) : (convert 141 9 (.slice (some ⟨w.heap.size, 0, none⟩) 1 cap)).run Try.prog (w.alloc (.cells #[.int .u8 (48 + (r : Int) % 10)] t)) = .ok (.string ⟨#[dig r]⟩) (w.alloc (.cells #[.int .u8 (48 + (r : Int) % 10)] t)) :=
  run_convert_bytes_back _ _ _ _ ⟨w.heap.size, 0, none⟩ cap [dig r] Try.underlying141 Try.underlying5 Try.underlying9 fun j hj => by
    have : j = 0 := by simpa using hj
    subst this
    rw [show (⟨w.heap.size, 0, none⟩ : Addr).add 0 = ⟨w.heap.size, 0, none⟩ from add_zero' _]
    have := box_cell (w := w) (cs := #[.int .u8 (48 + (r : Int) % 10)]) (t := t) (fz := (0, 0)) (j := 0) (Below.refl _ _) rfl
    rw [this]
    simp [dig_val]

theorem digs_bound {r s k : Nat} (h : 0 < r) (hp : r * 10 ^ s ≤ k) (hk : k < 10 ^ 13) : r / 10 * 10 ^ (s + 1) ≤ k ∧ s + 1 ≤ 13 := by
  constructor
  · have : r / 10 * 10 * 10 ^ s ≤ r * 10 ^ s := Nat.mul_le_mul_right _ (Nat.div_mul_le_self r 10)
    rw [Nat.pow_succ, Nat.mul_comm (10 ^ s) 10, ← Nat.mul_assoc]
    omega
  · have h1 : 10 ^ s ≤ r * 10 ^ s := Nat.le_mul_of_pos_left _ h
    have h2 : 10 ^ s < 10 ^ 13 := by omega
    have := (Nat.pow_lt_pow_iff_right (by omega : 1 < 10)).1 h2
    omega
set_option maxRecDepth 20000 in
set_option maxHeartbeats 1000000 in
theorem markText_any (k : Nat) (w : World) (h0 : 0 < k) (hk : k ≤ 4398046511104) :
    Calls Try.prog 68 #[.int .i64 k] w fun e w' => e = .returned (.string (mtext k)) ∧ Below w.heap.size w w' := by
  go_enter Try.func68, Try.ntmps68
  go_wp2
  go_loopw [0, 3] (fun i o wr => ∃ (r : Nat) (b : ByteArray), r ≤ k ∧ i = .int .i64 r ∧ o = .string b ∧ digs r b = digs k ByteArray.empty ∧ (r * 10 ^ b.size ≤ k ∧ b.size ≤ 13) ∧ Below w.heap.size w wr) (fun i _ _ => (intOf i).toNat)
  case atStart => exact ⟨k, ByteArray.empty, Nat.le_refl _, rfl, rfl, rfl, by simp, Below.refl _ _⟩
  case round =>
    obtain ⟨r, b, hr, rfl, rfl, hd, ⟨hp, hs⟩, hb⟩ := hrel
    by_cases hlt : 0 < r
    · have hm : (r : Int).tmod 10 = (r : Int) % 10 := by rw [Int.tmod_eq_emod_of_nonneg (by omega)]
      have HD := Lib.hid hd; clear hd
      have hcv := run_digit wr r 1 5
      have hadd : ∀ w, (Op.stringOp .add ⟨#[dig r]⟩ b).run Try.prog w = .ok (.string (⟨#[dig r]⟩ ++ b)) w := fun w => run_string_add_sum w _ _ (by show 1 + b.size ≤ _; omega)
      have HP := Lib.hid (digs_bound hlt hp (by omega)); clear hp
      have HB := Lib.hid hb; clear hb
      go_wp2_with fail
      refine ⟨⟨r / 10, ⟨#[dig r]⟩ ++ b, by omega, by go_num, rfl, by rw [← HD.out, digs_step hlt], ?_, HB.out.trans ((bl_a _ _).mono HB.out.size)⟩, ?_⟩
      · rw [show (⟨#[dig r]⟩ ++ b : ByteArray).size = b.size + 1 by rw [ByteArray.size_append]; show 1 + b.size = _; omega]
        exact HP.out
      · simp [intOf]; omega
    · have e : r = 0 := by omega
      subst e
      rw [digs_0] at hd
      have HD := Lib.hid hd; clear hd hp
      have hadd : ∀ w, (Op.stringOp .add ⟨#[109]⟩ b).run Try.prog w = .ok (.string (⟨#[109]⟩ ++ b)) w := fun w => run_string_add_sum w _ _ (by show 1 + b.size ≤ _; omega)
      go_wp2_with fail
      go_ret
      exact ⟨by rw [HD.out]; rfl, hb⟩
end Go.Proofs.Ythmkbgiandncnaa
