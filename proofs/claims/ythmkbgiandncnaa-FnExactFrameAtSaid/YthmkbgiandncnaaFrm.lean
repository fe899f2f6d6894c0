/- Frames: which are valid; the frames of sounds; ramps. -/
import Derived.Test.YthmkbgiandncnaaRmp
import Derived.Deep.RegionHeld3
import Derived.Deep.AppendLies
import Derived.StillTailTactics
namespace Go.Proofs.Ythmkbgiandncnaa
open Go.RowKit

theorem Blk.at_ {w : World} {g : Nat} {t : TypeId} {cs : Array Value} (h : Blk w g t cs) : At w ⟨g, 0, none⟩ cs.toList := by
  intro j u hu
  have hadd : (⟨g, 0, none⟩ : Addr).add j = ⟨g, j, none⟩ := by unfold Addr.add; split <;> simp_all
  rw [hadd]
  exact h.cell_ (by simpa using hu)

theorem below_of_eq {B : Nat} {w w1 : World} {n : Nat} (h : w1 = w.drewN n) : Below B w w1 := by rw [h]; exact below_drewN _ _ _

def frmOk (xs : List Nat) (p v z : Nat) : Bool := areasOk xs && least p && share v && share z

set_option maxHeartbeats 400000 in
theorem l06Frame_any (ad : Addr) (A : Option Addr) (c : Nat) (xs : List Nat) (p v z : Nat) (w : World) (B : Nat) (hc : At w ad [.slice A xs.length c, fl p, fl v, fl z]) (hx : Fs w B A xs) (hm : xs.length ≤ 9223372036854775807) :
    Calls Try.prog 172 #[.pointer (some ad)] w fun e w' => e = .returned (.bool (frmOk xs p v z)) ∧ ∃ n, w' = w.drewN n := by
  have h0 : w.cell? ad = _ := hc 0 _ rfl
  have h1 : w.cell? ⟨ad.block, ad.off + 1, none⟩ = _ := hc 1 _ rfl
  have h2 : w.cell? ⟨ad.block, ad.off + 2, none⟩ = _ := hc 2 _ rfl
  have h3 : w.cell? ⟨ad.block, ad.off + 3, none⟩ = _ := hc 3 _ rfl
  have HC := Lib.hid hc; clear hc
  have HX := Lib.hid hx; clear hx
  go_enter Try.func172, Try.ntmps172
  go_wp2_with (first | (go_at_call 161; refine (l02Areas_any _ _ _ _ B (by exact HX.out) hm).mono ?_; rintro e w' ⟨rfl, n, rfl⟩) | (go_at_call 104; refine (l02Least_any _ _).mono ?_; rintro e w' ⟨rfl, n, rfl⟩) | (go_at_call 162; refine (l02Share_any _ _).mono ?_; rintro e w' ⟨rfl, rfl⟩))
  all_goals go_ret
  all_goals first | exact ⟨ret_bool (by simp [frmOk, *]), _, rfl⟩ | exact ⟨ret_bool (by simp [frmOk, *]), 0, rfl⟩

set_option maxHeartbeats 1000000 in
theorem ValidFrame_any (A : Option Addr) (c : Nat) (xs : List Nat) (p v z : Nat) (w : World) (B : Nat) (hB : B ≤ w.heap.size) (hx : Fs w B A xs) (hm : xs.length ≤ 9223372036854775807) :
    Calls Try.prog 173 #[.agg #[.slice A xs.length c, fl p, fl v, fl z]] w fun e w' => e = .returned (.bool (frmOk xs p v z)) ∧ Below w.heap.size w w' := by
  have HX := Lib.hid (fun o => hx.alloc hB o); clear hx
  go_enter Try.func173, Try.ntmps173
  go_wp2_with (first | (go_at_call 164; refine (areAreas_any _ _ _ _ B (by exact HX.out _) hm).mono ?_; rintro e w' ⟨rfl, n, rfl⟩) | (go_at_call 65; refine (IsFinite_any _ _).mono ?_; rintro e w' ⟨rfl, n, rfl⟩) | (go_at_call 136; refine (isBetween_any _ _ _ _).mono ?_; rintro e w' ⟨rfl, rfl⟩))
  all_goals go_ret
  all_goals refine ⟨ret_bool (by simp [frmOk, least, share, *]), ?_⟩
  all_goals first | exact bl_a _ _ | exact bl_ad _ _ _

abbrev zeroFrm : Value := .agg #[.slice none 0 0, fl 0, fl 0, fl 0]
def frmRet (A : Option Addr) (c : Nat) (xs : List Nat) (p v z : Nat) : Array Value := if frmOk xs p v z then #[.agg #[.slice A xs.length c, fl p, fl v, fl z], .bool true] else #[zeroFrm, .bool false]
theorem frmRet_yes {A : Option Addr} {c : Nat} {xs : List Nat} {p v z : Nat} (h : frmOk xs p v z = true) : frmRet A c xs p v z = #[.agg #[.slice A xs.length c, fl p, fl v, fl z], .bool true] := by unfold frmRet; rw [h]; rfl
theorem frmRet_no {A : Option Addr} {c : Nat} {xs : List Nat} {p v z : Nat} (h : frmOk xs p v z = false) : frmRet A c xs p v z = #[zeroFrm, .bool false] := by unfold frmRet; rw [h]; rfl

set_option maxHeartbeats 1000000 in
theorem l06GiveFrame_any (A : Option Addr) (c p v z : Nat) (xs : List Nat) (w : World) (B : Nat) (hB : B ≤ w.heap.size) (hx : Fs w B A xs) (hm : xs.length ≤ 1048576) :
    Calls Try.prog 145 #[.agg #[.slice A xs.length c, fl p, fl v, fl z]] w fun e w' => e = .returned (.tuple (frmRet A c xs p v z)) ∧ Below w.heap.size w w' := by
  have hx2 := fun o o' => (hx.alloc hB o).alloc (by simp; omega) o'
  have HX := Lib.hid hx2; clear hx hx2
  go_enter Try.func145, Try.ntmps145
  go_wp2_with fail
  refine (l06Frame_any ⟨w.heap.size, 0, none⟩ A c xs p v z _ B (Blk.at_ (Blk.alloc (heap_1 _ _) _)) (HX.out _ _) (by omega)).mono ?_
  rintro e w1 ⟨rfl, n, hw⟩
  have hb2 := below_of_eq (B := w.heap.size + 2) hw
  clear hw
  have z1 : w.heap.size + 2 ≤ w1.heap.size := by have := hb2.size; simpa using this
  have c0 : w1.cell? ⟨w.heap.size, 0, none⟩ = some _ := blk_cell hb2 (by omega) (Blk.alloc (heap_1 _ _) _) rfl
  have c1 : w1.cell? ⟨w.heap.size, 1, none⟩ = some _ := blk_cell hb2 (by omega) (Blk.alloc (heap_1 _ _) _) rfl
  have c2 : w1.cell? ⟨w.heap.size, 2, none⟩ = some _ := blk_cell hb2 (by omega) (Blk.alloc (heap_1 _ _) _) rfl
  have c3 : w1.cell? ⟨w.heap.size, 3, none⟩ = some _ := blk_cell hb2 (by omega) (Blk.alloc (heap_1 _ _) _) rfl
  have r0 : w1.cell? ⟨w.heap.size + 1, 0, none⟩ = some _ := blk_cell hb2 (by omega) (heap_2 _ _ _) rfl
  have r1 : w1.cell? ⟨w.heap.size + 1, 1, none⟩ = some _ := blk_cell hb2 (by omega) (heap_2 _ _ _) rfl
  have r2 : w1.cell? ⟨w.heap.size + 1, 2, none⟩ = some _ := blk_cell hb2 (by omega) (heap_2 _ _ _) rfl
  have r3 : w1.cell? ⟨w.heap.size + 1, 3, none⟩ = some _ := blk_cell hb2 (by omega) (heap_2 _ _ _) rfl
  have fr := fun j => blk_frozen hb2 (show w.heap.size + 1 < _ by omega) (heap_2 _ _ _) j
  have HB := Lib.hid (((bl_a w _).alloc (by simp) _).trans (hb2.mono (by omega))); clear hb2
  cases hok : frmOk xs p v z
  · have e1 := Lib.hid (frmRet_no (A := A) (c := c) hok); clear hok
    go_wp2_with fail
    refine bodyPost_ret (v := .tuple #[zeroFrm, .bool false]) ?_ rfl ⟨by rw [e1.out], ?_⟩
    · simp [results, Try.results145, go_sem, r0, r1, r2, r3]
    · exact (((HB.out.setCell (by simp) _).setCell (by simp) _).setCell (by simp) _).setCell (by simp) _
  · have e1 := Lib.hid (frmRet_yes (A := A) (c := c) hok); clear hok
    go_wp2_with fail
    refine bodyPost_ret (v := .tuple #[.agg #[.slice A xs.length c, fl p, fl v, fl z], .bool true]) ?_ rfl ⟨by rw [e1.out], ?_⟩
    · simp [results, Try.results145, go_sem, r0, r1, r2, r3]
    · exact (((HB.out.setCell (by simp) _).setCell (by simp) _).setCell (by simp) _).setCell (by simp) _
set_option maxHeartbeats 1000000 in
theorem checkedFrame_any (A : Option Addr) (c p v z : Nat) (xs : List Nat) (w : World) (B : Nat) (hB : B ≤ w.heap.size) (hx : Fs w B A xs) (hm : xs.length ≤ 1048576) :
    Calls Try.prog 148 #[.agg #[.slice A xs.length c, fl p, fl v, fl z]] w fun e w' => e = .returned (.tuple (frmRet A c xs p v z)) ∧ Below w.heap.size w w' := by
  have hx2 := fun o o' => (hx.alloc hB o).alloc (by simp; omega) o'
  have HX := Lib.hid hx2; clear hx hx2
  go_enter Try.func148, Try.ntmps148
  go_wp2_with fail
  refine (ValidFrame_any A c xs p v z _ B (by simp; omega) (HX.out _ _) (by omega)).mono ?_
  rintro e w1 ⟨rfl, hb⟩
  have hb2 : Below (w.heap.size + 2) _ w1 := hb.mono (by simp)
  have z1 : w.heap.size + 2 ≤ w1.heap.size := by have := hb.size; simpa using this
  have c0 : w1.cell? ⟨w.heap.size, 0, none⟩ = some _ := blk_cell hb2 (by omega) (Blk.alloc (heap_1 _ _) _) rfl
  have c1 : w1.cell? ⟨w.heap.size, 1, none⟩ = some _ := blk_cell hb2 (by omega) (Blk.alloc (heap_1 _ _) _) rfl
  have c2 : w1.cell? ⟨w.heap.size, 2, none⟩ = some _ := blk_cell hb2 (by omega) (Blk.alloc (heap_1 _ _) _) rfl
  have c3 : w1.cell? ⟨w.heap.size, 3, none⟩ = some _ := blk_cell hb2 (by omega) (Blk.alloc (heap_1 _ _) _) rfl
  have r0 : w1.cell? ⟨w.heap.size + 1, 0, none⟩ = some _ := blk_cell hb2 (by omega) (heap_2 _ _ _) rfl
  have r1 : w1.cell? ⟨w.heap.size + 1, 1, none⟩ = some _ := blk_cell hb2 (by omega) (heap_2 _ _ _) rfl
  have r2 : w1.cell? ⟨w.heap.size + 1, 2, none⟩ = some _ := blk_cell hb2 (by omega) (heap_2 _ _ _) rfl
  have r3 : w1.cell? ⟨w.heap.size + 1, 3, none⟩ = some _ := blk_cell hb2 (by omega) (heap_2 _ _ _) rfl
  have fr := fun j => blk_frozen hb2 (show w.heap.size + 1 < _ by omega) (heap_2 _ _ _) j
  have HB := Lib.hid (after2 hb); clear hb hb2
  cases hok : frmOk xs p v z
  · have e1 := Lib.hid (frmRet_no (A := A) (c := c) hok); clear hok
    go_wp2_with fail
    refine bodyPost_ret (v := .tuple #[zeroFrm, .bool false]) ?_ rfl ⟨by rw [e1.out], ?_⟩
    · simp [results, Try.results148, go_sem, r0, r1, r2, r3]
    · exact (((HB.out.setCell (by simp) _).setCell (by simp) _).setCell (by simp) _).setCell (by simp) _
  · have e1 := Lib.hid (frmRet_yes (A := A) (c := c) hok); clear hok
    go_wp2_with fail
    refine bodyPost_ret (v := .tuple #[.agg #[.slice A xs.length c, fl p, fl v, fl z], .bool true]) ?_ rfl ⟨by rw [e1.out], ?_⟩
    · simp [results, Try.results148, go_sem, r0, r1, r2, r3]
    · exact (((HB.out.setCell (by simp) _).setCell (by simp) _).setCell (by simp) _).setCell (by simp) _

/-! ## ramps -/
theorem ramp_runs {q : Nat} (h : numK q 1) : ∃ a b c d, mul32 (mul32 q q) (sub32 three32 (mul32 two32 q)) = d ∧
    (∀ w, (binOp .mul 29 (.float .f32 q) (.float .f32 q)).run Try.prog w = .ok (.float .f32 a) w) ∧
    (∀ w, (binOp .mul 29 (.float .f32 two32) (.float .f32 q)).run Try.prog w = .ok (.float .f32 b) w) ∧
    (∀ w, (binOp .sub 29 (.float .f32 three32) (.float .f32 b)).run Try.prog w = .ok (.float .f32 c) w) ∧
    (∀ w, (binOp .mul 29 (.float .f32 a) (.float .f32 c)).run Try.prog w = .ok (.float .f32 d) w) := by
  obtain ⟨a, b, c, d, h1, h2, h3, h4, e, _⟩ := ramp_parts h
  exact ⟨a, b, c, d, e, fun w => run_float_arith w _ _ _ _ _ _ h1, fun w => run_float_arith w _ _ _ _ _ _ h2, fun w => run_float_arith w _ _ _ _ _ _ h3, fun w => run_float_arith w _ _ _ _ _ _ h4⟩
set_option maxRecDepth 20000 in
set_option maxHeartbeats 1000000 in
theorem l06Ramp_any (q : Nat) (hn : nanB .f32 q = false) (w : World) :
    Calls Try.prog 144 #[fl q] w fun e w' => e = .returned (fl (rampP q)) ∧ w' = w := by
  cases h0 : ltF .f32 q 0
  · cases h1 : gtF .f32 q one32
    · obtain ⟨a, b, c, d, e, r1, r2, r3, r4⟩ := ramp_runs (numK_of hn h0 h1)
      have E := Lib.hid (show rampP q = d by unfold rampP; rw [h0, h1]; exact e); clear e hn
      go_enter Try.func144, Try.ntmps144
      go_wp2
      go_ret
      exact ⟨by rw [E.out]; rfl, rfl⟩
    · have E := Lib.hid (show rampP q = one32 by unfold rampP; rw [h0, h1]; rfl); clear hn
      go_enter Try.func144, Try.ntmps144
      go_wp2
      go_ret
      exact ⟨by rw [E.out]; rfl, rfl⟩
  · have E := Lib.hid (show rampP q = 0 by unfold rampP; rw [h0]; rfl); clear hn
    go_enter Try.func144, Try.ntmps144
    go_wp2
    go_ret
    exact ⟨by rw [E.out]; rfl, rfl⟩
set_option maxRecDepth 20000 in
set_option maxHeartbeats 1000000 in
theorem rampAt_any (q : Nat) (hn : nanB .f32 q = false) (w : World) :
    Calls Try.prog 150 #[fl q] w fun e w' => e = .returned (fl (rampP q)) ∧ w' = w := by
  cases h0 : ltF .f32 q 0
  · cases h1 : gtF .f32 q one32
    · obtain ⟨a, b, c, d, e, r1, r2, r3, r4⟩ := ramp_runs (numK_of hn h0 h1)
      have E := Lib.hid (show rampP q = d by unfold rampP; rw [h0, h1]; exact e); clear e hn
      go_enter Try.func150, Try.ntmps150
      go_wp2
      go_ret
      exact ⟨by rw [E.out]; rfl, rfl⟩
    · have E := Lib.hid (show rampP q = one32 by unfold rampP; rw [h0, h1]; rfl); clear hn
      go_enter Try.func150, Try.ntmps150
      go_wp2
      go_ret
      exact ⟨by rw [E.out]; rfl, rfl⟩
  · have E := Lib.hid (show rampP q = 0 by unfold rampP; rw [h0]; rfl); clear hn
    go_enter Try.func150, Try.ntmps150
    go_wp2
    go_ret
    exact ⟨by rw [E.out]; rfl, rfl⟩
end Go.Proofs.Ythmkbgiandncnaa
