/- The laws' copies of structs. -/
import Derived.Test.YthmkbgiandncnaaOwn
namespace Go.Proofs.Ythmkbgiandncnaa
open Go.RowKit

set_option maxHeartbeats 1000000 in
theorem toPredictor_any (A : Option Addr) (c : Nat) (xs : List Nat) (gain : Nat) (w : World) (B : Nat) (hB : B ≤ w.heap.size) (hx : Fs w B A xs) (hm : xs.length ≤ 1048576) :
    Calls Try.prog 90 #[.agg #[.slice A xs.length c, fl gain]] w fun e w' => ∃ g, e = .returned (.agg #[.slice (some ⟨g, 0, none⟩) xs.length xs.length, fl gain]) ∧ w.heap.size ≤ g ∧ OwnF w' w.heap.size (.slice (some ⟨g, 0, none⟩) xs.length xs.length) xs ∧ Below w.heap.size w w' := by
  go_enter Try.func90, Try.ntmps90
  go_wp2_with fail
  refine (toFloat32S_any _ _ _ _ B (by simp; omega) (((hx.alloc hB _).alloc (by simp; omega) _).alloc (by simp; omega) _) hm).mono ?_
  rintro e w1 ⟨g, rfl, hg, hown, hb⟩
  simp at hg
  have hb3 : Below (w.heap.size + 3) _ w1 := hb.mono (by simp)
  have z1 : w.heap.size + 3 ≤ w1.heap.size := by have := hb.size; simpa using this
  have c0 : w1.cell? ⟨w.heap.size, 0, none⟩ = some (.slice A xs.length c) := blk_cell hb3 (by omega) (heap_31 _ _ _ _) rfl
  have c1 : w1.cell? ⟨w.heap.size, 1, none⟩ = some (fl gain) := blk_cell hb3 (by omega) (heap_31 _ _ _ _) rfl
  have r0 : w1.cell? ⟨w.heap.size + 1, 0, none⟩ = some (.slice none 0 0) := blk_cell hb3 (by omega) (heap_32 _ _ _ _) rfl
  have r1 : w1.cell? ⟨w.heap.size + 1, 1, none⟩ = some (fl 0) := blk_cell hb3 (by omega) (heap_32 _ _ _ _) rfl
  have o0 : w1.cell? ⟨w.heap.size + 2, 0, none⟩ = some (.slice none 0 0) := blk_cell hb3 (by omega) (heap_3 _ _ _ _) rfl
  have o1 : w1.cell? ⟨w.heap.size + 2, 1, none⟩ = some (fl 0) := blk_cell hb3 (by omega) (heap_3 _ _ _ _) rfl
  have fr := fun j => blk_frozen hb3 (show w.heap.size + 1 < _ by omega) (heap_32 _ _ _ _) j
  have fo := fun j => blk_frozen hb3 (show w.heap.size + 2 < _ by omega) (heap_3 _ _ _ _) j
  have HB := Lib.hid (after3 hb); clear hb hb3
  have HO := Lib.hid (hown.less (base' := w.heap.size + 3) (by simp)); clear hown
  go_wp2_with fail
  refine bodyPost_ret (v := .agg #[.slice (some ⟨g, 0, none⟩) xs.length xs.length, fl gain]) ?_ rfl ⟨g, rfl, by omega, ?_, ?_⟩
  · simp [results, Try.results90, go_sem, r0, r1]
  · exact OwnF.less (base := w.heap.size + 3) (.set_ (.set_ (.set_ (.set_ HO.out (by simp)) (by simp)) (by simp)) (by simp)) (by omega)
  · exact ((((HB.out.setCell (by simp; omega) _).setCell (by simp; omega) _).setCell (by simp) _).setCell (by simp) _)

set_option maxHeartbeats 1000000 in
theorem toTube_any (A : Option Addr) (c : Nat) (xs : List Nat) (loss : Nat) (throat : Nat) (lips : Nat) (w : World) (B : Nat) (hB : B ≤ w.heap.size) (hx : Fs w B A xs) (hm : xs.length ≤ 1048576) :
    Calls Try.prog 88 #[.agg #[.slice A xs.length c, fl loss, fl throat, fl lips]] w fun e w' => ∃ g, e = .returned (.agg #[.slice (some ⟨g, 0, none⟩) xs.length xs.length, fl loss, fl throat, fl lips]) ∧ w.heap.size ≤ g ∧ OwnF w' w.heap.size (.slice (some ⟨g, 0, none⟩) xs.length xs.length) xs ∧ Below w.heap.size w w' := by
  go_enter Try.func88, Try.ntmps88
  go_wp2_with fail
  refine (toFloat32S_any _ _ _ _ B (by simp; omega) (((hx.alloc hB _).alloc (by simp; omega) _).alloc (by simp; omega) _) hm).mono ?_
  rintro e w1 ⟨g, rfl, hg, hown, hb⟩
  simp at hg
  have hb3 : Below (w.heap.size + 3) _ w1 := hb.mono (by simp)
  have z1 : w.heap.size + 3 ≤ w1.heap.size := by have := hb.size; simpa using this
  have c0 : w1.cell? ⟨w.heap.size, 0, none⟩ = some (.slice A xs.length c) := blk_cell hb3 (by omega) (heap_31 _ _ _ _) rfl
  have c1 : w1.cell? ⟨w.heap.size, 1, none⟩ = some (fl loss) := blk_cell hb3 (by omega) (heap_31 _ _ _ _) rfl
  have c2 : w1.cell? ⟨w.heap.size, 2, none⟩ = some (fl throat) := blk_cell hb3 (by omega) (heap_31 _ _ _ _) rfl
  have c3 : w1.cell? ⟨w.heap.size, 3, none⟩ = some (fl lips) := blk_cell hb3 (by omega) (heap_31 _ _ _ _) rfl
  have r0 : w1.cell? ⟨w.heap.size + 1, 0, none⟩ = some (.slice none 0 0) := blk_cell hb3 (by omega) (heap_32 _ _ _ _) rfl
  have r1 : w1.cell? ⟨w.heap.size + 1, 1, none⟩ = some (fl 0) := blk_cell hb3 (by omega) (heap_32 _ _ _ _) rfl
  have r2 : w1.cell? ⟨w.heap.size + 1, 2, none⟩ = some (fl 0) := blk_cell hb3 (by omega) (heap_32 _ _ _ _) rfl
  have r3 : w1.cell? ⟨w.heap.size + 1, 3, none⟩ = some (fl 0) := blk_cell hb3 (by omega) (heap_32 _ _ _ _) rfl
  have o0 : w1.cell? ⟨w.heap.size + 2, 0, none⟩ = some (.slice none 0 0) := blk_cell hb3 (by omega) (heap_3 _ _ _ _) rfl
  have o1 : w1.cell? ⟨w.heap.size + 2, 1, none⟩ = some (fl 0) := blk_cell hb3 (by omega) (heap_3 _ _ _ _) rfl
  have o2 : w1.cell? ⟨w.heap.size + 2, 2, none⟩ = some (fl 0) := blk_cell hb3 (by omega) (heap_3 _ _ _ _) rfl
  have o3 : w1.cell? ⟨w.heap.size + 2, 3, none⟩ = some (fl 0) := blk_cell hb3 (by omega) (heap_3 _ _ _ _) rfl
  have fr := fun j => blk_frozen hb3 (show w.heap.size + 1 < _ by omega) (heap_32 _ _ _ _) j
  have fo := fun j => blk_frozen hb3 (show w.heap.size + 2 < _ by omega) (heap_3 _ _ _ _) j
  have HB := Lib.hid (after3 hb); clear hb hb3
  have HO := Lib.hid (hown.less (base' := w.heap.size + 3) (by simp)); clear hown
  go_wp2_with fail
  refine bodyPost_ret (v := .agg #[.slice (some ⟨g, 0, none⟩) xs.length xs.length, fl loss, fl throat, fl lips]) ?_ rfl ⟨g, rfl, by omega, ?_, ?_⟩
  · simp [results, Try.results88, go_sem, r0, r1, r2, r3]
  · exact OwnF.less (base := w.heap.size + 3) (.set_ (.set_ (.set_ (.set_ (.set_ (.set_ (.set_ (.set_ HO.out (by simp)) (by simp)) (by simp)) (by simp)) (by simp)) (by simp)) (by simp)) (by simp)) (by omega)
  · exact ((((((((HB.out.setCell (by simp; omega) _).setCell (by simp; omega) _).setCell (by simp; omega) _).setCell (by simp; omega) _).setCell (by simp) _).setCell (by simp) _).setCell (by simp) _).setCell (by simp) _)

set_option maxHeartbeats 1000000 in
theorem toSound_any (A : Option Addr) (c : Nat) (xs : List Nat) (nm : ByteArray) (long : Nat) (ramp : Nat) (voice : Nat) (noise : Nat) (w : World) (B : Nat) (hB : B ≤ w.heap.size) (hx : Fs w B A xs) (hm : xs.length ≤ 1048576) :
    Calls Try.prog 63 #[.agg #[.string nm, .slice A xs.length c, fl long, fl ramp, fl voice, fl noise]] w fun e w' => ∃ g, e = .returned (.agg #[.string nm, .slice (some ⟨g, 0, none⟩) xs.length xs.length, fl long, fl ramp, fl voice, fl noise]) ∧ w.heap.size ≤ g ∧ OwnF w' w.heap.size (.slice (some ⟨g, 0, none⟩) xs.length xs.length) xs ∧ Below w.heap.size w w' := by
  go_enter Try.func63, Try.ntmps63
  go_wp2_with fail
  refine (toFloat32S_any _ _ _ _ B (by simp; omega) (((hx.alloc hB _).alloc (by simp; omega) _).alloc (by simp; omega) _) hm).mono ?_
  rintro e w1 ⟨g, rfl, hg, hown, hb⟩
  simp at hg
  have hb3 : Below (w.heap.size + 3) _ w1 := hb.mono (by simp)
  have z1 : w.heap.size + 3 ≤ w1.heap.size := by have := hb.size; simpa using this
  have c0 : w1.cell? ⟨w.heap.size, 0, none⟩ = some (.string nm) := blk_cell hb3 (by omega) (heap_31 _ _ _ _) rfl
  have c1 : w1.cell? ⟨w.heap.size, 1, none⟩ = some (.slice A xs.length c) := blk_cell hb3 (by omega) (heap_31 _ _ _ _) rfl
  have c2 : w1.cell? ⟨w.heap.size, 2, none⟩ = some (fl long) := blk_cell hb3 (by omega) (heap_31 _ _ _ _) rfl
  have c3 : w1.cell? ⟨w.heap.size, 3, none⟩ = some (fl ramp) := blk_cell hb3 (by omega) (heap_31 _ _ _ _) rfl
  have c4 : w1.cell? ⟨w.heap.size, 4, none⟩ = some (fl voice) := blk_cell hb3 (by omega) (heap_31 _ _ _ _) rfl
  have c5 : w1.cell? ⟨w.heap.size, 5, none⟩ = some (fl noise) := blk_cell hb3 (by omega) (heap_31 _ _ _ _) rfl
  have r0 : w1.cell? ⟨w.heap.size + 1, 0, none⟩ = some (.string ByteArray.empty) := blk_cell hb3 (by omega) (heap_32 _ _ _ _) rfl
  have r1 : w1.cell? ⟨w.heap.size + 1, 1, none⟩ = some (.slice none 0 0) := blk_cell hb3 (by omega) (heap_32 _ _ _ _) rfl
  have r2 : w1.cell? ⟨w.heap.size + 1, 2, none⟩ = some (fl 0) := blk_cell hb3 (by omega) (heap_32 _ _ _ _) rfl
  have r3 : w1.cell? ⟨w.heap.size + 1, 3, none⟩ = some (fl 0) := blk_cell hb3 (by omega) (heap_32 _ _ _ _) rfl
  have r4 : w1.cell? ⟨w.heap.size + 1, 4, none⟩ = some (fl 0) := blk_cell hb3 (by omega) (heap_32 _ _ _ _) rfl
  have r5 : w1.cell? ⟨w.heap.size + 1, 5, none⟩ = some (fl 0) := blk_cell hb3 (by omega) (heap_32 _ _ _ _) rfl
  have o0 : w1.cell? ⟨w.heap.size + 2, 0, none⟩ = some (.string nm) := blk_cell hb3 (by omega) (heap_3 _ _ _ _) rfl
  have o1 : w1.cell? ⟨w.heap.size + 2, 1, none⟩ = some (.slice none 0 0) := blk_cell hb3 (by omega) (heap_3 _ _ _ _) rfl
  have o2 : w1.cell? ⟨w.heap.size + 2, 2, none⟩ = some (fl 0) := blk_cell hb3 (by omega) (heap_3 _ _ _ _) rfl
  have o3 : w1.cell? ⟨w.heap.size + 2, 3, none⟩ = some (fl 0) := blk_cell hb3 (by omega) (heap_3 _ _ _ _) rfl
  have o4 : w1.cell? ⟨w.heap.size + 2, 4, none⟩ = some (fl 0) := blk_cell hb3 (by omega) (heap_3 _ _ _ _) rfl
  have o5 : w1.cell? ⟨w.heap.size + 2, 5, none⟩ = some (fl 0) := blk_cell hb3 (by omega) (heap_3 _ _ _ _) rfl
  have fr := fun j => blk_frozen hb3 (show w.heap.size + 1 < _ by omega) (heap_32 _ _ _ _) j
  have fo := fun j => blk_frozen hb3 (show w.heap.size + 2 < _ by omega) (heap_3 _ _ _ _) j
  have HB := Lib.hid (after3 hb); clear hb hb3
  have HO := Lib.hid (hown.less (base' := w.heap.size + 3) (by simp)); clear hown
  go_wp2_with fail
  refine bodyPost_ret (v := .agg #[.string nm, .slice (some ⟨g, 0, none⟩) xs.length xs.length, fl long, fl ramp, fl voice, fl noise]) ?_ rfl ⟨g, rfl, by omega, ?_, ?_⟩
  · simp [results, Try.results63, go_sem, r0, r1, r2, r3, r4, r5]
  · exact OwnF.less (base := w.heap.size + 3) (.set_ (.set_ (.set_ (.set_ (.set_ (.set_ (.set_ (.set_ (.set_ (.set_ (.set_ HO.out (by simp)) (by simp)) (by simp)) (by simp)) (by simp)) (by simp)) (by simp)) (by simp)) (by simp)) (by simp)) (by simp)) (by omega)
  · exact (((((((((((HB.out.setCell (by simp; omega) _).setCell (by simp; omega) _).setCell (by simp; omega) _).setCell (by simp; omega) _).setCell (by simp; omega) _).setCell (by simp) _).setCell (by simp) _).setCell (by simp) _).setCell (by simp) _).setCell (by simp) _).setCell (by simp) _)

end Go.Proofs.Ythmkbgiandncnaa
