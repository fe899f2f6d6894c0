/- When sounds, lists of sounds and desks are the same. -/
import Derived.Test.YthmkbgiandncnaaSam3
namespace Go.Proofs.Ythmkbgiandncnaa
open Go.RowKit

def Snd.fit (s : Snd) : Prop := fits s.xs ∧ s.long < 4294967296 ∧ s.ramp < 4294967296 ∧ s.voice < 4294967296 ∧ s.noise < 4294967296
set_option maxHeartbeats 2000000 in
theorem l06SameSound_any (s t : Snd) (ad ad' : Addr) (w : World) (B B' : Nat) (hc : At w ad s.cells) (hc' : At w ad' t.cells) (hs : SndIn w B s) (ht : SndIn w B' t) (fs : s.fit) (ft : t.fit) :
    Calls Try.prog 128 #[.pointer (some ad), .pointer (some ad')] w fun e w' => e = .returned (.bool (sndSm s t)) ∧ ∃ n, w' = w.drewN n := by
  obtain ⟨a0, a1, a2, a3, a4, a5⟩ := cells_at hc
  obtain ⟨b0, b1, b2, b3, b4, b5⟩ := cells_at hc'
  have HX := Lib.hid hs.1; have HY := Lib.hid ht.1
  have m1 := hs.2.1; have m2 := ht.2.1
  obtain ⟨f0, f1, f2, f3, f4⟩ := fs
  obtain ⟨k0, k1, k2, k3, k4⟩ := ft
  have HFX := Lib.hid f0; have HFY := Lib.hid k0
  clear hc hc' hs ht f0 k0
  cases q0 : (s.name.toList == t.name.toList)
  · have n2 : (s.name.toList != t.name.toList) = true := by simpa [bne] using q0
    go_enter Try.func128, Try.ntmps128
    go_wp2_with fail
    go_quiet ((first
      | (go_at_call 126; exact Calls.quiet_of (bool_of (l01SameAll_any _ _ _ _ _ _ _ B B' (by exact HX.out) (by exact HY.out) (by exact HFX.out) (by exact HFY.out) (by assumption) (by assumption)) ‹_›))
      | (go_at_call 127; exact Calls.quiet_of (bool_of (l01Same_q _ _ (by assumption) (by assumption) _) ‹_›))))
    go_wp2_with fail
    go_ret
    exact ⟨ret_bool (by simp [sndSm, q0]), _, rfl⟩
  have n2 : (s.name.toList != t.name.toList) = false := by simpa [bne] using q0
  cases q1 : sms s.xs t.xs
  · go_enter Try.func128, Try.ntmps128
    go_wp2_with fail
    go_quiet ((first
      | (go_at_call 126; exact Calls.quiet_of (bool_of (l01SameAll_any _ _ _ _ _ _ _ B B' (by exact HX.out) (by exact HY.out) (by exact HFX.out) (by exact HFY.out) (by assumption) (by assumption)) ‹_›))
      | (go_at_call 127; exact Calls.quiet_of (bool_of (l01Same_q _ _ (by assumption) (by assumption) _) ‹_›))))
    go_wp2_with fail
    go_ret
    exact ⟨ret_bool (by simp [sndSm, q0, q1]), _, rfl⟩
  cases q2 : sm s.long t.long
  · go_enter Try.func128, Try.ntmps128
    go_wp2_with fail
    go_quiet ((first
      | (go_at_call 126; exact Calls.quiet_of (bool_of (l01SameAll_any _ _ _ _ _ _ _ B B' (by exact HX.out) (by exact HY.out) (by exact HFX.out) (by exact HFY.out) (by assumption) (by assumption)) ‹_›))
      | (go_at_call 127; exact Calls.quiet_of (bool_of (l01Same_q _ _ (by assumption) (by assumption) _) ‹_›))))
    go_wp2_with fail
    generalize hw2 : World.drewN w _ = w2
    have hc2 : ∀ p, w.cell? p = w2.cell? p := fun p => by rw [← hw2]; rfl
    rw [hc2] at a2 a3 a4 a5 b2 b3 b4 b5
    clear hc2
    have HW := Lib.hid hw2; clear hw2
    go_quiet ((first
      | (go_at_call 126; exact Calls.quiet_of (bool_of (l01SameAll_any _ _ _ _ _ _ _ B B' (by exact HX.out) (by exact HY.out) (by exact HFX.out) (by exact HFY.out) (by assumption) (by assumption)) ‹_›))
      | (go_at_call 127; exact Calls.quiet_of (bool_of (l01Same_q _ _ (by assumption) (by assumption) _) ‹_›))))
    go_wp2_with fail
    go_ret
    exact ⟨ret_bool (by simp [sndSm, q0, q1, q2]), _, by rw [← HW.out, World.drewN_drewN]⟩
  cases q3 : sm s.ramp t.ramp
  · go_enter Try.func128, Try.ntmps128
    go_wp2_with fail
    go_quiet ((first
      | (go_at_call 126; exact Calls.quiet_of (bool_of (l01SameAll_any _ _ _ _ _ _ _ B B' (by exact HX.out) (by exact HY.out) (by exact HFX.out) (by exact HFY.out) (by assumption) (by assumption)) ‹_›))
      | (go_at_call 127; exact Calls.quiet_of (bool_of (l01Same_q _ _ (by assumption) (by assumption) _) ‹_›))))
    go_wp2_with fail
    generalize hw2 : World.drewN w _ = w2
    have hc2 : ∀ p, w.cell? p = w2.cell? p := fun p => by rw [← hw2]; rfl
    rw [hc2] at a2 a3 a4 a5 b2 b3 b4 b5
    clear hc2
    have HW := Lib.hid hw2; clear hw2
    go_quiet ((first
      | (go_at_call 126; exact Calls.quiet_of (bool_of (l01SameAll_any _ _ _ _ _ _ _ B B' (by exact HX.out) (by exact HY.out) (by exact HFX.out) (by exact HFY.out) (by assumption) (by assumption)) ‹_›))
      | (go_at_call 127; exact Calls.quiet_of (bool_of (l01Same_q _ _ (by assumption) (by assumption) _) ‹_›))))
    go_wp2_with fail
    go_ret
    exact ⟨ret_bool (by simp [sndSm, q0, q1, q2, q3]), _, by rw [← HW.out, World.drewN_drewN]⟩
  cases q4 : sm s.voice t.voice
  · go_enter Try.func128, Try.ntmps128
    go_wp2_with fail
    go_quiet ((first
      | (go_at_call 126; exact Calls.quiet_of (bool_of (l01SameAll_any _ _ _ _ _ _ _ B B' (by exact HX.out) (by exact HY.out) (by exact HFX.out) (by exact HFY.out) (by assumption) (by assumption)) ‹_›))
      | (go_at_call 127; exact Calls.quiet_of (bool_of (l01Same_q _ _ (by assumption) (by assumption) _) ‹_›))))
    go_wp2_with fail
    generalize hw2 : World.drewN w _ = w2
    have hc2 : ∀ p, w.cell? p = w2.cell? p := fun p => by rw [← hw2]; rfl
    rw [hc2] at a2 a3 a4 a5 b2 b3 b4 b5
    clear hc2
    have HW := Lib.hid hw2; clear hw2
    go_quiet ((first
      | (go_at_call 126; exact Calls.quiet_of (bool_of (l01SameAll_any _ _ _ _ _ _ _ B B' (by exact HX.out) (by exact HY.out) (by exact HFX.out) (by exact HFY.out) (by assumption) (by assumption)) ‹_›))
      | (go_at_call 127; exact Calls.quiet_of (bool_of (l01Same_q _ _ (by assumption) (by assumption) _) ‹_›))))
    go_wp2_with fail
    go_ret
    exact ⟨ret_bool (by simp [sndSm, q0, q1, q2, q3, q4]), _, by rw [← HW.out, World.drewN_drewN]⟩
  cases q5 : sm s.noise t.noise
  · go_enter Try.func128, Try.ntmps128
    go_wp2_with fail
    go_quiet ((first
      | (go_at_call 126; exact Calls.quiet_of (bool_of (l01SameAll_any _ _ _ _ _ _ _ B B' (by exact HX.out) (by exact HY.out) (by exact HFX.out) (by exact HFY.out) (by assumption) (by assumption)) ‹_›))
      | (go_at_call 127; exact Calls.quiet_of (bool_of (l01Same_q _ _ (by assumption) (by assumption) _) ‹_›))))
    go_wp2_with fail
    generalize hw2 : World.drewN w _ = w2
    have hc2 : ∀ p, w.cell? p = w2.cell? p := fun p => by rw [← hw2]; rfl
    rw [hc2] at a2 a3 a4 a5 b2 b3 b4 b5
    clear hc2
    have HW := Lib.hid hw2; clear hw2
    go_quiet ((first
      | (go_at_call 126; exact Calls.quiet_of (bool_of (l01SameAll_any _ _ _ _ _ _ _ B B' (by exact HX.out) (by exact HY.out) (by exact HFX.out) (by exact HFY.out) (by assumption) (by assumption)) ‹_›))
      | (go_at_call 127; exact Calls.quiet_of (bool_of (l01Same_q _ _ (by assumption) (by assumption) _) ‹_›))))
    go_wp2_with fail
    go_ret
    exact ⟨ret_bool (by simp [sndSm, q0, q1, q2, q3, q4, q5]), _, by rw [← HW.out, World.drewN_drewN]⟩
  go_enter Try.func128, Try.ntmps128
  go_wp2_with fail
  go_quiet ((first
    | (go_at_call 126; exact Calls.quiet_of (bool_of (l01SameAll_any _ _ _ _ _ _ _ B B' (by exact HX.out) (by exact HY.out) (by exact HFX.out) (by exact HFY.out) (by assumption) (by assumption)) ‹_›))
    | (go_at_call 127; exact Calls.quiet_of (bool_of (l01Same_q _ _ (by assumption) (by assumption) _) ‹_›))))
  go_wp2_with fail
  generalize hw2 : World.drewN w _ = w2
  have hc2 : ∀ p, w.cell? p = w2.cell? p := fun p => by rw [← hw2]; rfl
  rw [hc2] at a2 a3 a4 a5 b2 b3 b4 b5
  clear hc2
  have HW := Lib.hid hw2; clear hw2
  go_quiet ((first
    | (go_at_call 126; exact Calls.quiet_of (bool_of (l01SameAll_any _ _ _ _ _ _ _ B B' (by exact HX.out) (by exact HY.out) (by exact HFX.out) (by exact HFY.out) (by assumption) (by assumption)) ‹_›))
    | (go_at_call 127; exact Calls.quiet_of (bool_of (l01Same_q _ _ (by assumption) (by assumption) _) ‹_›))))
  go_wp2_with fail
  go_ret
  exact ⟨ret_bool (by simp [sndSm, q0, q1, q2, q3, q4, q5]), _, by rw [← HW.out, World.drewN_drewN]⟩


def sndAtB (ss ts : List Snd) (k : Nat) : Bool := match ss[k]?, ts[k]? with | some s, some t => sndSm s t | _, _ => true
def sndsSm (ss ts : List Snd) : Bool := ss.length == ts.length && (List.range ss.length).all (sndAtB ss ts)
theorem sndAt {ss ts : List Snd} {k : Nat} (h1 : k < ss.length) (h2 : k < ts.length) : sndAtB ss ts k = sndSm ss[k] ts[k] := by
  unfold sndAtB
  rw [List.getElem?_eq_getElem h1, List.getElem?_eq_getElem h2]
theorem l06SameSound_q (s t : Snd) (ad ad' : Addr) (w : World) (B B' : Nat) (hc : At w ad s.cells) (hc' : At w ad' t.cells) (hs : SndIn w B s) (ht : SndIn w B' t) (fs : s.fit) (ft : t.fit) {b : Bool} (hb : sndSm s t = b) :
    Calls Try.prog 128 #[.pointer (some ad), .pointer (some ad')] w fun e w' => e = .returned (.bool b) ∧ ∃ n, w' = w.drewN n := bool_of (l06SameSound_any s t ad ad' w B B' hc hc' hs ht fs ft) hb

set_option maxHeartbeats 1000000 in
theorem l06Same_any (A A' : Option Addr) (c c' : Nat) (ss ts : List Snd) (w : World) (B B' : Nat) (hx : Snds w B A ss) (hy : Snds w B' A' ts) (fx : ∀ s ∈ ss, s.fit) (fy : ∀ s ∈ ts, s.fit) (hm : ss.length ≤ 1048576) (_hm2 : ts.length ≤ 1048576) :
    Calls Try.prog 87 #[.slice A ss.length c, .slice A' ts.length c'] w fun e w' => e = .returned (.bool (sndsSm ss ts)) ∧ ∃ n, w' = w.drewN n := by
  have HFX := Lib.hid fx; have HFY := Lib.hid fy; clear fx fy
  by_cases hl : ts.length = ss.length
  · rw [hl]
    have HL := Lib.hid hl; clear hl _hm2
    have HX := Lib.hid hx; clear hx
    have HY := Lib.hid hy; clear hy
    go_enter Try.func87, Try.ntmps87
    go_wp2
    go_loopw [5] (fun i wr => ∃ k n : Nat, k ≤ ss.length ∧ i = .int .i64 k ∧ wr = w.drewN n ∧ (List.range k).all (sndAtB ss ts) = true) (fun i _ => ss.length - (intOf i).toNat)
    case atStart => exact ⟨0, 0, Nat.zero_le _, rfl, rfl, rfl⟩
    case round =>
      obtain ⟨k, n, hk, rfl, hwr, hall⟩ := hrel
      have HA := Lib.hid hall; clear hall
      by_cases hlt : k < ss.length
      · have hlt' : k < ts.length := by have := HL.out; omega
        obtain ⟨ad, hA, hadB, hcell, hin⟩ := (show Snds wr B A ss by rw [hwr]; exact HX.out).at_ hlt
        obtain ⟨ad', hA', hadB', hcell', hin'⟩ := (show Snds wr B' A' ts by rw [hwr]; exact HY.out).at_ hlt'
        subst hA; subst hA'
        have HW := Lib.hid hwr; clear hwr
        have HI := Lib.hid hin; have HI' := Lib.hid hin'; clear hin hin'
        have HC := Lib.hid hcell; have HC' := Lib.hid hcell'; clear hcell hcell'
        cases hq : sndSm ss[k] ts[k]
        · go_wp2
          go_quiet ((go_at_call 128; exact Calls.quiet_of (l06SameSound_q ss[k] ts[k] _ _ _ B B' (by exact HC.out) (by exact HC'.out) (by exact HI.out) (by exact HI'.out) (HFX.out _ (List.getElem_mem hlt)) (HFY.out _ (List.getElem_mem hlt')) (by assumption))))
          go_wp2
          go_ret
          refine ⟨ret_bool ?_, _, by rw [HW.out, World.drewN_drewN]⟩
          unfold sndsSm
          rw [ra_no hlt (p := sndAtB ss ts) (by rw [sndAt hlt hlt', hq])]
          simp
        · go_wp2
          go_quiet ((go_at_call 128; exact Calls.quiet_of (l06SameSound_q ss[k] ts[k] _ _ _ B B' (by exact HC.out) (by exact HC'.out) (by exact HI.out) (by exact HI'.out) (HFX.out _ (List.getElem_mem hlt)) (HFY.out _ (List.getElem_mem hlt')) (by assumption))))
          go_wp2
          go_roundw
          case rel => exact ⟨k + 1, _, by omega, by go_num, by rw [HW.out, World.drewN_drewN], ra_step HA.out (by rw [sndAt hlt hlt', hq])⟩
          case measure => simp [intOf]; omega
      · go_wp2
        go_ret
        refine ⟨ret_bool ?_, n, rfl⟩
        unfold sndsSm
        rw [show ss.length = k by omega, HA.out, HL.out, show ss.length = k by omega]
        simp
  · have e : sndsSm ss ts = false := by unfold sndsSm; rw [show (ss.length == ts.length) = false by simp; omega]; rfl
    rw [e]; clear e
    go_enter Try.func87, Try.ntmps87
    go_wp2
    go_ret
    exact ⟨rfl, 0, rfl⟩

end Go.Proofs.Ythmkbgiandncnaa
