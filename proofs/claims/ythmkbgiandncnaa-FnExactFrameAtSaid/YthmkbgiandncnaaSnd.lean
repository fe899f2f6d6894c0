/- Names of sounds, sounds, lists of sounds: which are valid. -/
import Derived.Test.YthmkbgiandncnaaVal
namespace Go.Proofs.Ythmkbgiandncnaa
open Go.RowKit

def lowerB (c : UInt8) : Bool := decide (97 ≤ (c.toNat : Int)) && decide ((c.toNat : Int) ≤ 122)
def letters (s : ByteArray) : Bool := s.data.toList.all lowerB
def nameOk (s : ByteArray) : Bool := inI s.size 1 4 && letters s
def soundOk (nm : ByteArray) (xs : List Nat) (long ramp voice noise : Nat) : Bool :=
  nameOk nm && areasOk xs && above long && least ramp && share voice && share noise

theorem lower_yes {c : UInt8} (h1 : 97 ≤ (c.toNat : Int)) (h2 : (c.toNat : Int) ≤ 122) : lowerB c = true := by unfold lowerB; simp; omega
theorem lower_no {c : UInt8} (h : (c.toNat : Int) < 97 ∨ 122 < (c.toNat : Int)) : lowerB c = false := by unfold lowerB; simp; omega
theorem str_len (s : ByteArray) : s.data.toList.length = s.size := Array.length_toList
theorem letters_no {s : ByteArray} {k : Nat} (hlt : k < s.size) (h : (s[k].toNat : Int) < 97 ∨ 122 < (s[k].toNat : Int)) : letters s = false :=
  all_no (k := k) (h := by rw [str_len]; exact hlt) (lower_no h)
theorem letters_step {s : ByteArray} {k : Nat} (hlt : k < s.size) (h0 : (s.data.toList.take k).all lowerB = true) (h1 : 97 ≤ (s[k].toNat : Int)) (h2 : (s[k].toNat : Int) ≤ 122) : (s.data.toList.take (k + 1)).all lowerB = true :=
  all_step (h := by rw [str_len]; exact hlt) h0 (lower_yes h1 h2)
theorem letters_end {s : ByteArray} {k : Nat} (h0 : (s.data.toList.take k).all lowerB = true) (h : ¬ k < s.size) : letters s = true := all_end h0 (by rw [str_len]; exact h)

set_option maxHeartbeats 400000 in
theorem IsName_any (s : ByteArray) (w : World) (hs : s.size ≤ 9223372036854775807) :
    Calls Try.prog 178 #[.string s] w fun e w' => e = .returned (.bool (letters s && inI s.size 1 8)) ∧ w = w' := by
  go_enter Try.func178, Try.ntmps178
  go_wp2
  go_loop [3] (fun i => ∃ k : Nat, k ≤ s.size ∧ i = .int .i64 k ∧ (s.data.toList.take k).all lowerB = true) (fun i => s.size - (intOf i).toNat)
  case atStart => exact ⟨0, Nat.zero_le _, rfl, rfl⟩
  case round =>
    obtain ⟨k, hk, rfl, hall⟩ := hrel
    have HA := Lib.hid hall; clear hall
    by_cases hlt : k < s.size
    · go_wp2
      · go_ret
        exact ⟨ret_bool (by rw [letters_no hlt ‹_›]; rfl), rfl⟩
      · go_round
        case rel => exact ⟨k + 1, by omega, by go_num, letters_step hlt HA.out (by omega) (by omega)⟩
        case measure => simp [intOf]; omega
      · go_ret
        exact ⟨ret_bool (by rw [letters_no hlt (.inl ‹_›)]; rfl), rfl⟩
    · go_wp2_with (go_at_call 121; refine (within_any _ _ _ _).mono ?_; rintro e w' ⟨rfl, rfl⟩)
      go_ret
      exact ⟨ret_bool (by rw [letters_end HA.out hlt]; rfl), rfl⟩

theorem in48 {n : Nat} (h : n ≤ 4) : inI n 1 8 = inI n 1 4 := by unfold inI; simp [show ((n : Nat) : Int) ≤ 8 from by omega, show ((n : Nat) : Int) ≤ 4 from by omega]
set_option maxHeartbeats 400000 in
theorem isSoundName_any (s : ByteArray) (w : World) (hs : s.size ≤ 9223372036854775807) :
    Calls Try.prog 163 #[.string s] w fun e w' => e = .returned (.bool (nameOk s)) ∧ w = w' := by
  by_cases h4 : s.size ≤ 4
  · have H := Lib.hid (in48 h4)
    go_enter Try.func163, Try.ntmps163
    go_wp2_with (go_at_call 178; refine (IsName_any _ _ hs).mono ?_; rintro e w' ⟨rfl, rfl⟩)
    go_ret
    exact ⟨ret_bool (by unfold nameOk; rw [H.out]; simp [Bool.and_comm]), rfl⟩
  · have H := Lib.hid (show nameOk s = false by unfold nameOk inI; simp; omega)
    go_enter Try.func163, Try.ntmps163
    go_wp2
    go_ret
    exact ⟨ret_bool H.out.symm, rfl⟩

set_option maxHeartbeats 400000 in
theorem l06Name_any (s : ByteArray) (w : World) (hs : s.size ≤ 9223372036854775807) :
    Calls Try.prog 160 #[.string s] w fun e w' => e = .returned (.bool (nameOk s)) ∧ w = w' := by
  by_cases h4 : s.size ≤ 4
  · go_enter Try.func160, Try.ntmps160
    go_wp2
    go_loop [3] (fun i => ∃ k : Nat, k ≤ s.size ∧ i = .int .i64 k ∧ (s.data.toList.take k).all lowerB = true) (fun i => s.size - (intOf i).toNat)
    case atStart => exact ⟨0, Nat.zero_le _, rfl, rfl⟩
    case round =>
      obtain ⟨k, hk, rfl, hall⟩ := hrel
      have HA := Lib.hid hall; clear hall
      by_cases hlt : k < s.size
      · go_wp2
        · go_ret
          exact ⟨ret_bool (by unfold nameOk; rw [letters_no hlt ‹_›]; simp), rfl⟩
        · go_round
          case rel => exact ⟨k + 1, by omega, by go_num, letters_step hlt HA.out (by omega) (by omega)⟩
          case measure => simp [intOf]; omega
        · go_ret
          exact ⟨ret_bool (by unfold nameOk; rw [letters_no hlt (.inl ‹_›)]; simp), rfl⟩
      · go_wp2
        all_goals go_ret
        all_goals exact ⟨ret_bool (by unfold nameOk inI; rw [letters_end HA.out hlt]; simp; try omega), rfl⟩
  · have H := Lib.hid (show nameOk s = false by unfold nameOk inI; simp; omega)
    go_enter Try.func160, Try.ntmps160
    go_wp2
    go_loop [3] (fun i => i = .int .i64 0) (fun i => 0)
    case atStart => exact rfl
    case round =>
      subst hrel
      go_wp2
      all_goals go_ret
      all_goals exact ⟨ret_bool (by rw [H.out]; try (simp; omega)), rfl⟩

set_option maxHeartbeats 1000000 in
theorem ValidSound_any (nm : ByteArray) (A : Option Addr) (c : Nat) (xs : List Nat) (long ramp voice noise : Nat) (w : World) (B : Nat) (hB : B ≤ w.heap.size) (hx : Fs w B A xs) (hm : xs.length ≤ 9223372036854775807) (hs : nm.size ≤ 9223372036854775807) :
    Calls Try.prog 117 #[.agg #[.string nm, .slice A xs.length c, fl long, fl ramp, fl voice, fl noise]] w fun e w' => e = .returned (.bool (soundOk nm xs long ramp voice noise)) ∧ Below w.heap.size w w' := by
  have HX := Lib.hid (fun o => hx.alloc hB o); clear hx
  go_enter Try.func117, Try.ntmps117
  go_wp2_with (first | (go_at_call 163; refine (isSoundName_any _ _ hs).mono ?_; rintro e w' ⟨rfl, rfl⟩) | (go_at_call 164; refine (areAreas_any _ _ _ _ B (by exact HX.out _) hm).mono ?_; rintro e w' ⟨rfl, n, rfl⟩) | (go_at_call 65; refine (IsFinite_any _ _).mono ?_; rintro e w' ⟨rfl, n, rfl⟩) | (go_at_call 136; refine (isBetween_any _ _ _ _).mono ?_; rintro e w' ⟨rfl, rfl⟩))
  all_goals go_ret
  all_goals refine ⟨ret_bool (by simp [soundOk, above, least, share, *]), ?_⟩
  all_goals first | exact bl_a _ _ | exact bl_ad _ _ _

set_option maxHeartbeats 1000000 in
theorem l06Sound_any (ad : Addr) (nm : ByteArray) (A : Option Addr) (c : Nat) (xs : List Nat) (long ramp voice noise : Nat) (w : World) (B : Nat) (hc : At w ad [.string nm, .slice A xs.length c, fl long, fl ramp, fl voice, fl noise]) (hx : Fs w B A xs) (hm : xs.length ≤ 9223372036854775807) (hs : nm.size ≤ 9223372036854775807) :
    Calls Try.prog 116 #[.pointer (some ad)] w fun e w' => e = .returned (.bool (soundOk nm xs long ramp voice noise)) ∧ ∃ n, w' = w.drewN n := by
  have h0 : w.cell? ad = _ := hc 0 _ rfl
  have h1 : w.cell? ⟨ad.block, ad.off + 1, none⟩ = _ := hc 1 _ rfl
  have h2 : w.cell? ⟨ad.block, ad.off + 2, none⟩ = _ := hc 2 _ rfl
  have h3 : w.cell? ⟨ad.block, ad.off + 3, none⟩ = _ := hc 3 _ rfl
  have h4 : w.cell? ⟨ad.block, ad.off + 4, none⟩ = _ := hc 4 _ rfl
  have h5 : w.cell? ⟨ad.block, ad.off + 5, none⟩ = _ := hc 5 _ rfl
  have HC := Lib.hid hc; clear hc
  have HX := Lib.hid hx; clear hx
  go_enter Try.func116, Try.ntmps116
  go_wp2_with (first | (go_at_call 160; refine (l06Name_any _ _ hs).mono ?_; rintro e w' ⟨rfl, rfl⟩) | (go_at_call 161; refine (l02Areas_any _ _ _ _ B (by exact HX.out) hm).mono ?_; rintro e w' ⟨rfl, n, rfl⟩) | (go_at_call 105; refine (l02Above_any _ _).mono ?_; rintro e w' ⟨rfl, n, rfl⟩) | (go_at_call 104; refine (l02Least_any _ _).mono ?_; rintro e w' ⟨rfl, n, rfl⟩) | (go_at_call 162; refine (l02Share_any _ _).mono ?_; rintro e w' ⟨rfl, rfl⟩))
  all_goals go_ret
  all_goals first | exact ⟨ret_bool (by simp [soundOk, *]), _, rfl⟩ | exact ⟨ret_bool (by simp [soundOk, *]), 0, rfl⟩
end Go.Proofs.Ythmkbgiandncnaa
