/- When tubes, throats and predictors are the same: the specification's tests and the program's. -/
import Derived.Test.YthmkbgiandncnaaSam2
namespace Go.Proofs.Ythmkbgiandncnaa
open Go.RowKit

def tubeSm (xs : List Nat) (x1 x2 x3 : Nat) (ys : List Nat) (y1 y2 y3 : Nat) : Bool := sms xs ys && sm x1 y1 && sm x2 y2 && sm x3 y3
def predSm (xs : List Nat) (x1 : Nat) (ys : List Nat) (y1 : Nat) : Bool := sms xs ys && sm x1 y1
def throatSm (x1 x2 x3 x4 x5 y1 y2 y3 y4 y5 : Nat) : Bool := sm x1 y1 && sm x2 y2 && sm x3 y3 && sm x4 y4 && sm x5 y5
def sndSm (s t : Snd) : Bool := s.name.toList == t.name.toList && sms s.xs t.xs && sm s.long t.long && sm s.ramp t.ramp && sm s.voice t.voice && sm s.noise t.noise


set_option maxHeartbeats 2000000 in
theorem l02Same_any (ad ad' : Addr) (A A' : Option Addr) (c c' : Nat) (xs ys : List Nat) (x1 x2 x3 y1 y2 y3 : Nat) (w : World) (B B' : Nat) (hc : At w ad [.slice A xs.length c, fl x1, fl x2, fl x3]) (hc' : At w ad' [.slice A' ys.length c', fl y1, fl y2, fl y3])
    (hx : Fs w B A xs) (hy : Fs w B' A' ys) (hm : xs.length ≤ 1048576) (hm' : ys.length ≤ 1048576) (fx : fits xs) (fy : fits ys) (g1 : x1 < 4294967296) (g2 : x2 < 4294967296) (g3 : x3 < 4294967296) (h1 : y1 < 4294967296) (h2 : y2 < 4294967296) (h3 : y3 < 4294967296) :
    Calls Try.prog 84 #[.pointer (some ad), .pointer (some ad')] w fun e w' => e = .returned (.bool (tubeSm xs x1 x2 x3 ys y1 y2 y3)) ∧ ∃ n, w' = w.drewN n := by
  have a0 : w.cell? ad = _ := hc 0 _ rfl
  have a1 : w.cell? ⟨ad.block, ad.off + 1, none⟩ = _ := hc 1 _ rfl
  have a2 : w.cell? ⟨ad.block, ad.off + 2, none⟩ = _ := hc 2 _ rfl
  have a3 : w.cell? ⟨ad.block, ad.off + 3, none⟩ = _ := hc 3 _ rfl
  have b0 : w.cell? ad' = _ := hc' 0 _ rfl
  have b1 : w.cell? ⟨ad'.block, ad'.off + 1, none⟩ = _ := hc' 1 _ rfl
  have b2 : w.cell? ⟨ad'.block, ad'.off + 2, none⟩ = _ := hc' 2 _ rfl
  have b3 : w.cell? ⟨ad'.block, ad'.off + 3, none⟩ = _ := hc' 3 _ rfl
  have HX := Lib.hid hx; have HY := Lib.hid hy; have HFX := Lib.hid fx; have HFY := Lib.hid fy
  clear hc hc' hx hy fx fy
  cases q0 : sms xs ys
  · go_enter Try.func84, Try.ntmps84
    go_wp2_with fail
    go_quiet ((first
      | (go_at_call 126; exact Calls.quiet_of (bool_of (l01SameAll_any _ _ _ _ _ _ _ B B' (by exact HX.out) (by exact HY.out) (by exact HFX.out) (by exact HFY.out) (by assumption) (by assumption)) ‹_›))
      | (go_at_call 127; exact Calls.quiet_of (bool_of (l01Same_q _ _ (by assumption) (by assumption) _) ‹_›))))
    go_wp2
    go_ret
    exact ⟨ret_bool (by simp [tubeSm, q0]), _, rfl⟩
  cases q1 : sm x1 y1
  · go_enter Try.func84, Try.ntmps84
    go_wp2_with fail
    go_quiet ((first
      | (go_at_call 126; exact Calls.quiet_of (bool_of (l01SameAll_any _ _ _ _ _ _ _ B B' (by exact HX.out) (by exact HY.out) (by exact HFX.out) (by exact HFY.out) (by assumption) (by assumption)) ‹_›))
      | (go_at_call 127; exact Calls.quiet_of (bool_of (l01Same_q _ _ (by assumption) (by assumption) _) ‹_›))))
    go_wp2
    go_ret
    exact ⟨ret_bool (by simp [tubeSm, q0, q1]), _, rfl⟩
  cases q2 : sm x2 y2
  · go_enter Try.func84, Try.ntmps84
    go_wp2_with fail
    go_quiet ((first
      | (go_at_call 126; exact Calls.quiet_of (bool_of (l01SameAll_any _ _ _ _ _ _ _ B B' (by exact HX.out) (by exact HY.out) (by exact HFX.out) (by exact HFY.out) (by assumption) (by assumption)) ‹_›))
      | (go_at_call 127; exact Calls.quiet_of (bool_of (l01Same_q _ _ (by assumption) (by assumption) _) ‹_›))))
    go_wp2
    go_ret
    exact ⟨ret_bool (by simp [tubeSm, q0, q1, q2]), _, rfl⟩
  cases q3 : sm x3 y3
  · go_enter Try.func84, Try.ntmps84
    go_wp2_with fail
    go_quiet ((first
      | (go_at_call 126; exact Calls.quiet_of (bool_of (l01SameAll_any _ _ _ _ _ _ _ B B' (by exact HX.out) (by exact HY.out) (by exact HFX.out) (by exact HFY.out) (by assumption) (by assumption)) ‹_›))
      | (go_at_call 127; exact Calls.quiet_of (bool_of (l01Same_q _ _ (by assumption) (by assumption) _) ‹_›))))
    go_wp2
    go_ret
    exact ⟨ret_bool (by simp [tubeSm, q0, q1, q2, q3]), _, rfl⟩
  go_enter Try.func84, Try.ntmps84
  go_wp2_with fail
  go_quiet ((first
    | (go_at_call 126; exact Calls.quiet_of (bool_of (l01SameAll_any _ _ _ _ _ _ _ B B' (by exact HX.out) (by exact HY.out) (by exact HFX.out) (by exact HFY.out) (by assumption) (by assumption)) ‹_›))
    | (go_at_call 127; exact Calls.quiet_of (bool_of (l01Same_q _ _ (by assumption) (by assumption) _) ‹_›))))
  go_wp2
  go_ret
  exact ⟨ret_bool (by simp [tubeSm, q0, q1, q2, q3]), _, rfl⟩

set_option maxHeartbeats 2000000 in
theorem l04Same_any (ad ad' : Addr) (A A' : Option Addr) (c c' : Nat) (xs ys : List Nat) (x1 y1 : Nat) (w : World) (B B' : Nat) (hc : At w ad [.slice A xs.length c, fl x1]) (hc' : At w ad' [.slice A' ys.length c', fl y1])
    (hx : Fs w B A xs) (hy : Fs w B' A' ys) (hm : xs.length ≤ 1048576) (hm' : ys.length ≤ 1048576) (fx : fits xs) (fy : fits ys) (g1 : x1 < 4294967296) (h1 : y1 < 4294967296) :
    Calls Try.prog 86 #[.pointer (some ad), .pointer (some ad')] w fun e w' => e = .returned (.bool (predSm xs x1 ys y1)) ∧ ∃ n, w' = w.drewN n := by
  have a0 : w.cell? ad = _ := hc 0 _ rfl
  have a1 : w.cell? ⟨ad.block, ad.off + 1, none⟩ = _ := hc 1 _ rfl
  have b0 : w.cell? ad' = _ := hc' 0 _ rfl
  have b1 : w.cell? ⟨ad'.block, ad'.off + 1, none⟩ = _ := hc' 1 _ rfl
  have HX := Lib.hid hx; have HY := Lib.hid hy; have HFX := Lib.hid fx; have HFY := Lib.hid fy
  clear hc hc' hx hy fx fy
  cases q0 : sms xs ys
  · go_enter Try.func86, Try.ntmps86
    go_wp2_with fail
    go_quiet ((first
      | (go_at_call 126; exact Calls.quiet_of (bool_of (l01SameAll_any _ _ _ _ _ _ _ B B' (by exact HX.out) (by exact HY.out) (by exact HFX.out) (by exact HFY.out) (by assumption) (by assumption)) ‹_›))
      | (go_at_call 127; exact Calls.quiet_of (bool_of (l01Same_q _ _ (by assumption) (by assumption) _) ‹_›))))
    go_wp2
    go_ret
    exact ⟨ret_bool (by simp [predSm, q0]), _, rfl⟩
  cases q1 : sm x1 y1
  · go_enter Try.func86, Try.ntmps86
    go_wp2_with fail
    go_quiet ((first
      | (go_at_call 126; exact Calls.quiet_of (bool_of (l01SameAll_any _ _ _ _ _ _ _ B B' (by exact HX.out) (by exact HY.out) (by exact HFX.out) (by exact HFY.out) (by assumption) (by assumption)) ‹_›))
      | (go_at_call 127; exact Calls.quiet_of (bool_of (l01Same_q _ _ (by assumption) (by assumption) _) ‹_›))))
    go_wp2
    go_ret
    exact ⟨ret_bool (by simp [predSm, q0, q1]), _, rfl⟩
  go_enter Try.func86, Try.ntmps86
  go_wp2_with fail
  go_quiet ((first
    | (go_at_call 126; exact Calls.quiet_of (bool_of (l01SameAll_any _ _ _ _ _ _ _ B B' (by exact HX.out) (by exact HY.out) (by exact HFX.out) (by exact HFY.out) (by assumption) (by assumption)) ‹_›))
    | (go_at_call 127; exact Calls.quiet_of (bool_of (l01Same_q _ _ (by assumption) (by assumption) _) ‹_›))))
  go_wp2
  go_ret
  exact ⟨ret_bool (by simp [predSm, q0, q1]), _, rfl⟩

set_option maxHeartbeats 1000000 in
theorem sameNumbers_any (A A' : Option Addr) (c c' : Nat) (xs ys : List Nat) (w : World) (B B' : Nat) (hx : Fs w B A xs) (hy : Fs w B' A' ys) (fx : fits xs) (fy : fits ys) (hm : xs.length ≤ 1048576) (_hm2 : ys.length ≤ 1048576) :
    Calls Try.prog 129 #[.slice A xs.length c, .slice A' ys.length c'] w fun e w' => e = .returned (.bool (sms xs ys)) ∧ w = w' := by
  have HFX := Lib.hid fx; have HFY := Lib.hid fy; clear fx fy
  by_cases hl : ys.length = xs.length
  · rw [hl]
    have HL := Lib.hid hl; clear hl _hm2
    go_enter Try.func129, Try.ntmps129
    go_wp2
    go_loopw [14] (fun i wr => ∃ k : Nat, k ≤ xs.length ∧ i = .int .i64 k ∧ w = wr ∧ (List.range k).all (fun k => sm (xs.getD k 0) (ys.getD k 0)) = true) (fun i _ => xs.length - (intOf i).toNat)
    case atStart => exact ⟨0, Nat.zero_le _, rfl, by trivial, rfl⟩
    case round =>
      obtain ⟨k, hk, rfl, rfl, hall⟩ := hrel
      have HA := Lib.hid hall; clear hall
      by_cases hlt : k < xs.length
      · have hlt' : k < ys.length := by have := HL.out; omega
        obtain ⟨ad, rfl, hadB, hcell⟩ := hx.cell hlt
        obtain ⟨ad', rfl, hadB', hcell'⟩ := hy.cell hlt'
        have HX := Lib.hid hx; clear hx
        have HY := Lib.hid hy; clear hy
        cases hq : sm xs[k] ys[k]
        · go_wp2_with (go_at_call 130; refine (bool_of (SameNumber_any xs[k] ys[k] (fits_at HFX.out hlt) (fits_at HFY.out hlt') _) hq).mono ?_; rintro e w' ⟨rfl, rfl⟩)
          go_ret
          refine ⟨ret_bool ?_, rfl⟩
          unfold sms
          rw [ra_no hlt (p := fun k => sm (xs.getD k 0) (ys.getD k 0)) (by rw [smAt hlt hlt', hq])]
          simp
        · go_wp2_with (go_at_call 130; refine (bool_of (SameNumber_any xs[k] ys[k] (fits_at HFX.out hlt) (fits_at HFY.out hlt') _) hq).mono ?_; rintro e w' ⟨rfl, rfl⟩)
          go_roundw
          case rel => exact ⟨k + 1, by omega, by go_num, by trivial, ra_step HA.out (by rw [smAt hlt hlt', hq])⟩
          case measure => simp [intOf]; omega
      · go_wp2
        go_ret
        refine ⟨ret_bool ?_, rfl⟩
        unfold sms
        rw [show xs.length = k by omega, HA.out, HL.out, show xs.length = k by omega]
        simp
  · have e : sms xs ys = false := by unfold sms; rw [show (xs.length == ys.length) = false by simp; omega]; rfl
    rw [e]; clear e
    go_enter Try.func129, Try.ntmps129
    go_wp2
    go_ret
    exact ⟨rfl, rfl⟩

set_option maxHeartbeats 1000000 in
theorem SameTube_any (A A' : Option Addr) (c c' : Nat) (xs ys : List Nat) (x1 x2 x3 y1 y2 y3 : Nat) (w : World) (B B' : Nat) (hB : B ≤ w.heap.size) (hB' : B' ≤ w.heap.size)
    (hx : Fs w B A xs) (hy : Fs w B' A' ys) (hm : xs.length ≤ 1048576) (hm' : ys.length ≤ 1048576) (fx : fits xs) (fy : fits ys) (g1 : x1 < 4294967296) (g2 : x2 < 4294967296) (g3 : x3 < 4294967296) (h1 : y1 < 4294967296) (h2 : y2 < 4294967296) (h3 : y3 < 4294967296) :
    Calls Try.prog 91 #[.agg #[.slice A xs.length c, fl x1, fl x2, fl x3], .agg #[.slice A' ys.length c', fl y1, fl y2, fl y3]] w fun e w' => e = .returned (.bool (tubeSm xs x1 x2 x3 ys y1 y2 y3)) ∧ Below w.heap.size w w' := by
  have hx1 := (hx.alloc hB (.cells #[.slice A xs.length c, fl x1, fl x2, fl x3] 40)).alloc (by simp; omega) (.cells #[.slice A' ys.length c', fl y1, fl y2, fl y3] 40)
  have hy1 := (hy.alloc hB' (.cells #[.slice A xs.length c, fl x1, fl x2, fl x3] 40)).alloc (by simp; omega) (.cells #[.slice A' ys.length c', fl y1, fl y2, fl y3] 40)
  have HX := Lib.hid hx1; have HY := Lib.hid hy1; have HFX := Lib.hid fx; have HFY := Lib.hid fy
  clear hx hy hx1 hy1 fx fy
  go_enter Try.func91, Try.ntmps91
  go_wp2_with (first
    | (go_at_call 129; refine (sameNumbers_any _ _ _ _ _ _ _ B B' HX.out HY.out HFX.out HFY.out hm hm').mono ?_; rintro e w' ⟨rfl, rfl⟩)
    | (go_at_call 130; refine (SameNumber_any _ _ (by assumption) (by assumption) _).mono ?_; rintro e w' ⟨rfl, rfl⟩))
  all_goals go_ret
  all_goals exact ⟨ret_bool (by simp [tubeSm, *]), bl_step (bl_a _ _) (bl_a _ _)⟩

set_option maxHeartbeats 1000000 in
theorem SamePredictor_any (A A' : Option Addr) (c c' : Nat) (xs ys : List Nat) (x1 y1 : Nat) (w : World) (B B' : Nat) (hB : B ≤ w.heap.size) (hB' : B' ≤ w.heap.size)
    (hx : Fs w B A xs) (hy : Fs w B' A' ys) (hm : xs.length ≤ 1048576) (hm' : ys.length ≤ 1048576) (fx : fits xs) (fy : fits ys) (g1 : x1 < 4294967296) (h1 : y1 < 4294967296) :
    Calls Try.prog 93 #[.agg #[.slice A xs.length c, fl x1], .agg #[.slice A' ys.length c', fl y1]] w fun e w' => e = .returned (.bool (predSm xs x1 ys y1)) ∧ Below w.heap.size w w' := by
  have hx1 := (hx.alloc hB (.cells #[.slice A xs.length c, fl x1] 44)).alloc (by simp; omega) (.cells #[.slice A' ys.length c', fl y1] 44)
  have hy1 := (hy.alloc hB' (.cells #[.slice A xs.length c, fl x1] 44)).alloc (by simp; omega) (.cells #[.slice A' ys.length c', fl y1] 44)
  have HX := Lib.hid hx1; have HY := Lib.hid hy1; have HFX := Lib.hid fx; have HFY := Lib.hid fy
  clear hx hy hx1 hy1 fx fy
  go_enter Try.func93, Try.ntmps93
  go_wp2_with (first
    | (go_at_call 129; refine (sameNumbers_any _ _ _ _ _ _ _ B B' HX.out HY.out HFX.out HFY.out hm hm').mono ?_; rintro e w' ⟨rfl, rfl⟩)
    | (go_at_call 130; refine (SameNumber_any _ _ (by assumption) (by assumption) _).mono ?_; rintro e w' ⟨rfl, rfl⟩))
  all_goals go_ret
  all_goals exact ⟨ret_bool (by simp [predSm, *]), bl_step (bl_a _ _) (bl_a _ _)⟩

set_option maxHeartbeats 1000000 in
theorem specSameThroat_any (x1 x2 x3 x4 x5 y1 y2 y3 y4 y5 : Nat) (w : World) (g1 : x1 < 4294967296) (g2 : x2 < 4294967296) (g3 : x3 < 4294967296) (g4 : x4 < 4294967296) (g5 : x5 < 4294967296) (h1 : y1 < 4294967296) (h2 : y2 < 4294967296) (h3 : y3 < 4294967296) (h4 : y4 < 4294967296) (h5 : y5 < 4294967296) :
    Calls Try.prog 85 #[.agg #[fl x1, fl x2, fl x3, fl x4, fl x5], .agg #[fl y1, fl y2, fl y3, fl y4, fl y5]] w fun e w' => e = .returned (.bool (throatSm x1 x2 x3 x4 x5 y1 y2 y3 y4 y5)) ∧ Below w.heap.size w w' := by
  go_enter Try.func85, Try.ntmps85
  go_wp2_with (go_at_call 127; refine (l01Same_any _ _ (by assumption) (by assumption) _).mono ?_; rintro e w' ⟨rfl, rfl⟩)
  all_goals go_ret
  all_goals exact ⟨ret_bool (by simp [throatSm, *]), bl_step (bl_a _ _) (bl_a _ _)⟩

theorem fs_made (w0 : World) (xs : List Nat) (t : TypeId) (g : Nat) (hg : w0.heap.size = g) : Fs (w0.alloc (.cells (xs.map fl).toArray t)) (g + 1) (some ⟨g, 0, none⟩) xs := by
  subst hg
  refine ⟨by simp, fun _ => ⟨_, rfl, Nat.lt_succ_self _, fun j u hj => ?_⟩⟩
  rw [show (⟨w0.heap.size, 0, none⟩ : Addr).add j = ⟨w0.heap.size, j, none⟩ by simp [Addr.add]; omega]
  exact box_cell (Below.refl _ _) (by simpa using hj)
theorem sms5 (x1 x2 x3 x4 x5 y1 y2 y3 y4 y5 : Nat) : sms [x1, x2, x3, x4, x5] [y1, y2, y3, y4, y5] = throatSm x1 x2 x3 x4 x5 y1 y2 y3 y4 y5 := by
  simp [sms, throatSm, List.range_succ, Bool.and_assoc]

set_option maxHeartbeats 1000000 in
theorem SameThroat_any (x1 x2 x3 x4 x5 y1 y2 y3 y4 y5 : Nat) (w : World) (g1 : x1 < 4294967296) (g2 : x2 < 4294967296) (g3 : x3 < 4294967296) (g4 : x4 < 4294967296) (g5 : x5 < 4294967296) (h1 : y1 < 4294967296) (h2 : y2 < 4294967296) (h3 : y3 < 4294967296) (h4 : y4 < 4294967296) (h5 : y5 < 4294967296) :
    Calls Try.prog 92 #[.agg #[fl x1, fl x2, fl x3, fl x4, fl x5], .agg #[fl y1, fl y2, fl y3, fl y4, fl y5]] w fun e w' => e = .returned (.bool (throatSm x1 x2 x3 x4 x5 y1 y2 y3 y4 y5)) ∧ Below w.heap.size w w' := by
  rw [← sms5]
  go_enter Try.func92, Try.ntmps92
  go_wp2_with fail
  have hb : Below w.heap.size w ((((w.alloc (Obj.cells #[fl x1, fl x2, fl x3, fl x4, fl x5] 42)).alloc (Obj.cells #[fl y1, fl y2, fl y3, fl y4, fl y5] 42)).alloc (Obj.cells #[fl x1, fl x2, fl x3, fl x4, fl x5] 29)).alloc (Obj.cells #[fl y1, fl y2, fl y3, fl y4, fl y5] 29)) := bl_step (bl_a _ _) (bl_step (bl_a _ _) (bl_step (bl_a _ _) (bl_a _ _)))
  have HB := Lib.hid hb; clear hb
  refine (sameNumbers_any _ _ 5 5 [x1, x2, x3, x4, x5] [y1, y2, y3, y4, y5] _ (w.heap.size + 3) (w.heap.size + 4) ((fs_made _ [x1, x2, x3, x4, x5] _ _ (by simp)).alloc (by simp) _) (fs_made _ [y1, y2, y3, y4, y5] _ _ (by simp)) (by simp [fits, *]) (by simp [fits, *]) (by simp) (by simp)).mono ?_
  rintro e w' ⟨rfl, rfl⟩
  go_wp2_with fail
  go_ret
  exact ⟨rfl, HB.out⟩


end Go.Proofs.Ythmkbgiandncnaa
