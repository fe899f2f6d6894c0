/- New desks, the reference's and the program's: the desks. -/
import Derived.Test.YthmkbgiandncnaaNew
namespace Go.Proofs.Ythmkbgiandncnaa
open Go.RowKit

set_option maxHeartbeats 1000000 in
theorem checkedTube_yes (A : Option Addr) (n c l t p : Nat) (xs : List Nat) (hn : xs.length = n) (w : World) (B : Nat) (hB : B ≤ w.heap.size) (hx : Fs w B A xs) (hm : n ≤ 1048576) (hok : tubeOk xs l t p = true) :
    Calls Try.prog 122 #[.agg #[.slice A n c, fl l, fl t, fl p]] w fun e w' => e = .returned (.tuple #[.agg #[.slice A n c, fl l, fl t, fl p], .bool true]) ∧ Below w.heap.size w w' := by
  subst hn
  have hx2 := fun o o' => (hx.alloc hB o).alloc (by simp; omega) o'
  have HX := Lib.hid hx2; clear hx hx2
  have HO := Lib.hid hok; clear hok
  go_enter Try.func122, Try.ntmps122
  go_wp2_with fail
  refine (ValidTube_any A c xs l t p _ B (by simp; omega) (HX.out _ _) (by omega)).mono ?_
  rintro e w1 ⟨rfl, hb⟩
  have hb2 : Below (w.heap.size + 2) _ w1 := hb.mono (by simp)
  have z1 : w.heap.size + 2 ≤ w1.heap.size := by have := hb.size; simpa using this
  have c0 : w1.cell? ⟨w.heap.size, 0, none⟩ = some _ := blk_cell hb2 (by omega) (Blk.alloc (heap_1 _ _) _) rfl
  have c1 : w1.cell? ⟨w.heap.size, 1, none⟩ = some _ := blk_cell hb2 (by omega) (Blk.alloc (heap_1 _ _) _) rfl
  have c2 : w1.cell? ⟨w.heap.size, 2, none⟩ = some _ := blk_cell hb2 (by omega) (Blk.alloc (heap_1 _ _) _) rfl
  have c3 : w1.cell? ⟨w.heap.size, 3, none⟩ = some _ := blk_cell hb2 (by omega) (Blk.alloc (heap_1 _ _) _) rfl
  have r0 : w1.cell? ⟨w.heap.size + 1, 0, none⟩ = some _ := blk_cell hb2 (by omega) (heap_2 _ _ _) rfl
  have r1 : w1.cell? ⟨w.heap.size + 1, 1, none⟩ = some _ := blk_cell hb2 (by omega) (heap_2 _ _ _) rfl
  have r2 : w1.cell? ⟨w.heap.size + 1, 2, none⟩ = some _ := blk_cell hb2 (by omega) (heap_2 _ _ _) rfl
  have r3 : w1.cell? ⟨w.heap.size + 1, 3, none⟩ = some _ := blk_cell hb2 (by omega) (heap_2 _ _ _) rfl
  have fr := fun j => blk_frozen hb2 (show w.heap.size + 1 < _ by omega) (heap_2 _ _ _) j
  have HB := Lib.hid (after2 hb); clear hb hb2
  rw [HO.out]
  go_wp2_with fail
  refine bodyPost_ret (v := .tuple #[.agg #[.slice A xs.length c, fl l, fl t, fl p], .bool true]) ?_ rfl ⟨rfl, ?_⟩
  · simp [results, Try.results122, go_sem, r0, r1, r2, r3]
  · exact (((HB.out.setCell (by simp) _).setCell (by simp) _).setCell (by simp) _).setCell (by simp) _

theorem Repeat4_any (x : Nat) (ad : Addr) (c : Nat) (w : World) (hc : w.cell? ad = some (fl x)) (hlt : ad.block < w.heap.size) :
    Calls Try.prog 123 #[.slice (some ad) 1 c, .int .i64 4] w fun e w' => ∃ A c, e = .returned (.slice A 4 c) ∧ OwnF w' w.heap.size (.slice A 4 c) [x, x, x, x] ∧ Below w.heap.size w w' :=
  (Repeat14_any x ad c w hc hlt).mono fun _ _ ⟨h1, h2, h3⟩ => ⟨_, _, h1, h2, h3⟩
theorem one_ok : tubeOk [one, one, one, one] one q3 m78 = true := by decide +kernel
set_option maxHeartbeats 1000000 in
theorem EvenTube_any (w : World) :
    Calls Try.prog 70 #[.int .i64 4, fl one] w fun e w' => ∃ A c, e = .returned (.tuple #[.agg #[.slice A 4 c, fl one, fl q3, fl m78], .bool true]) ∧ OwnF w' w.heap.size (.slice A 4 c) [one, one, one, one] ∧ Below w.heap.size w w' := by
  have HO := Lib.hid one_ok
  go_enter Try.func70, Try.ntmps70
  go_wp2_with fail
  refine (within_any _ _ _ _).mono ?_
  rintro e w' ⟨rfl, rfl⟩
  rw [show inI 4 1 16 = true by decide]
  go_wp2_with fail
  refine (Repeat4_any one ⟨w.heap.size + 1, 0, none⟩ 1 _ (by go_simp) (by simp)).mono ?_
  rintro e w1 ⟨A, c, rfl, hown, hb⟩
  have hb2 : Below (w.heap.size + 2) _ w1 := hb.mono (by simp)
  have z1 : w.heap.size + 2 ≤ w1.heap.size := by have := hb.size; simpa using this
  have hblk : Blk w1 w.heap.size 40 #[.slice none 0 0, fl 0, fl 0, fl 0] := Blk.below' (Blk.alloc (heap_1 _ _) _) hb2 (by omega)
  have hown2 := hown.less (base' := w.heap.size + 2) (by simp)
  have HB := Lib.hid (after2 hb); have HOw := Lib.hid hown2; have HBk := Lib.hid hblk; clear hb hb2 hown hown2 hblk
  have hfs : Fs w1 w1.heap.size A [one, one, one, one] := by
    obtain ⟨A', c', e, h⟩ := HOw.out.reads
    injection e with e1 _ _
    rw [e1]; exact h
  have HF := Lib.hid hfs; clear hfs
  go_wp2_with fail
  refine (checkedTube_yes A 4 c one q3 m78 [one, one, one, one] rfl w1 _ (Nat.le_refl _) HF.out (by omega) HO.out).mono ?_
  rintro e w2 ⟨rfl, hb3⟩
  have hK1 := HBk.out.below hb3
  have r0 : w2.cell? ⟨w.heap.size, 0, none⟩ = some (.slice none 0 0) := hK1.cell_ (j := 0) rfl
  have r1 : w2.cell? ⟨w.heap.size, 1, none⟩ = some (fl 0) := hK1.cell_ (j := 1) rfl
  have r2 : w2.cell? ⟨w.heap.size, 2, none⟩ = some (fl 0) := hK1.cell_ (j := 2) rfl
  have r3 : w2.cell? ⟨w.heap.size, 3, none⟩ = some (fl 0) := hK1.cell_ (j := 3) rfl
  have fr := hK1.froz
  have z2 := hb3.size
  have HB2 := Lib.hid (HB.out.trans (hb3.mono (by omega))); have HO2 := Lib.hid (HOw.out.below hb3); clear hb3 hK1
  go_wp2_with fail
  refine bodyPost_ret (v := .tuple #[.agg #[.slice A 4 c, fl one, fl q3, fl m78], .bool true]) ?_ rfl ⟨A, c, rfl, ?_, ?_⟩
  · simp [results, Try.results70, go_sem, r0, r1, r2, r3]
  · exact OwnF.less (base := w.heap.size + 2) (.set_ (.set_ (.set_ (.set_ HO2.out (by simp)) (by simp)) (by simp)) (by simp)) (by omega)
  · exact (((HB2.out.setCell (by simp) _).setCell (by simp) _).setCell (by simp) _).setCell (by simp) _
end Go.Proofs.Ythmkbgiandncnaa
