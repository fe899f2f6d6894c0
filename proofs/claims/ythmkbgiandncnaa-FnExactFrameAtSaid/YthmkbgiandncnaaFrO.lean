/- The frame of a sound: the reference's and the program's. -/
import Derived.Test.YthmkbgiandncnaaFrm
namespace Go.Proofs.Ythmkbgiandncnaa
open Go.RowKit

theorem far4 {w : World} {g : Nat} {p : Addr} (h : p.block ≠ g) (u0 u1 u2 u3 : Value) :
    ((((w.setCell ⟨g, 0, none⟩ u0).setCell ⟨g, 1, none⟩ u1).setCell ⟨g, 2, none⟩ u2).setCell ⟨g, 3, none⟩ u3).cell? p = w.cell? p := by
  have o : ∀ (w : World) (j : Nat) (u : Value), (w.setCell ⟨g, j, none⟩ u).cell? p = w.cell? p := fun w j u => World.cell?_setCell_other w _ p u (fun e => h (by subst e; rfl))
  rw [o, o, o, o]

set_option maxRecDepth 20000 in
set_option maxHeartbeats 4000000 in
theorem l06Of_any (s : Snd) (p : Nat) (ad : Addr) (w : World) (B : Nat) (hB : B ≤ w.heap.size) (hadB : ad.block < B) (hat : At w ad s.cells) (hin : SndIn w B s) (hpos : 0 < s.xs.length) :
    Calls Try.prog 142 #[.pointer (some ad), fl p] w fun e w' => ∃ A' c', e = .returned (.agg #[.slice A' s.xs.length c', fl p, fl s.voice, fl s.noise]) ∧ OwnF w' w.heap.size (.slice A' s.xs.length c') s.xs ∧ Below w.heap.size w w' := by
  obtain ⟨i0, hi, hz0, hz1, hz2⟩ := info_parts infoF
  obtain ⟨ad2, hA, hb2, _⟩ := hin.1.2 hpos
  have hm := hin.2.1
  obtain ⟨_, a1, _, _, a4, a5⟩ := cells_at hat
  rw [hA] at a1
  have hlt : ad.block < w.heap.size := by omega
  have b1 : ∀ o, (w.alloc o).cell? ⟨ad.block, ad.off + 1, none⟩ = some (.slice (some ad2) s.xs.length s.c) := fun o => (World.cell?_alloc_lt w o ⟨ad.block, ad.off + 1, none⟩ hlt).trans a1
  have b4 : ∀ o, (w.alloc o).cell? ⟨ad.block, ad.off + 4, none⟩ = some (fl s.voice) := fun o => (World.cell?_alloc_lt w o ⟨ad.block, ad.off + 4, none⟩ hlt).trans a4
  have b5 : ∀ o, (w.alloc o).cell? ⟨ad.block, ad.off + 5, none⟩ = some (fl s.noise) := fun o => (World.cell?_alloc_lt w o ⟨ad.block, ad.off + 5, none⟩ hlt).trans a5
  have d1 : ∀ o q, ((w.alloc o).drew.alloc q).cell? ⟨ad.block, ad.off + 1, none⟩ = some (.slice (some ad2) s.xs.length s.c) := fun o q => (World.cell?_alloc_lt (w.alloc o).drew q ⟨ad.block, ad.off + 1, none⟩ (by simp; omega)).trans (b1 o)
  have d4 : ∀ o q, ((w.alloc o).drew.alloc q).cell? ⟨ad.block, ad.off + 4, none⟩ = some (fl s.voice) := fun o q => (World.cell?_alloc_lt (w.alloc o).drew q ⟨ad.block, ad.off + 4, none⟩ (by simp; omega)).trans (b4 o)
  have d5 : ∀ o q, ((w.alloc o).drew.alloc q).cell? ⟨ad.block, ad.off + 5, none⟩ = some (fl s.noise) := fun o q => (World.cell?_alloc_lt (w.alloc o).drew q ⟨ad.block, ad.off + 5, none⟩ (by simp; omega)).trans (b5 o)
  have hown0 : ∀ o, ((w.alloc o).drew.alloc (.cells #[] 29)).ownsRow (w.heap.size + 1) 29 1 (.slice (some ⟨w.heap.size + 1, 0, none⟩) 0 0) 0 [] := fun o => by
    have := World.ownsRow_lit (e := 29) (size := 1) (base := w.heap.size + 1) (w.alloc o).drew #[] 0 (by simp) (by unfold maxLen; omega) rfl
    rwa [show (w.alloc o).drew.heap.size = w.heap.size + 1 by simp] at this
  have hat2 : ∀ o q, At ((w.alloc o).drew.alloc q) ad2 (s.xs.map fl) := fun o q => Fs.some (hA ▸ ((hin.1.alloc hB o).drew.alloc (by simp; omega) q))
  have hres : ∀ (o : Obj) (q : Obj) (w1 : World), ((w.alloc o).drew.alloc q).grownBy w1 (some (w.heap.size + 1)) → Below (w.heap.size + 1) ((w.alloc o).drew.alloc q) w1 := fun o q w1 hg => grown_below (v := .slice (some ⟨w.heap.size + 1, 0, none⟩) 0 0) hg (by simp) fun g hg => by simp [Value.ownBlock] at hg; omega
  have HO := Lib.hid hown0; have HA := Lib.hid hat2; have HG := Lib.hid hres; clear hown0 hat2 hres hin hat a1 a4 a5
  go_enter Try.func142, Try.ntmps142
  go_wp2_with fail
  go_region_held3 (fun w' => w'.cell? ⟨ad.block, ad.off + 1, none⟩ = some (.slice (some ad2) s.xs.length s.c) ∧ w'.cell? ⟨ad.block, ad.off + 4, none⟩ = some (fl s.voice) ∧ w'.cell? ⟨ad.block, ad.off + 5, none⟩ = some (fl s.noise)) (go_keep)
    (first
      | (refine step_append_lies _ rfl (.tmp 5) (.tmp 9) 38 rfl (w.heap.size + 1) 29 i0 (.float .f32 0) 1 4 Try.underlying38 hi hz0 hz1 hz2 rfl (by decide) (.slice (some ⟨w.heap.size + 1, 0, none⟩) 0 0) 0 [] (by simp [Act.eval]) (HO.out _) ad2 s.xs.length s.c (s.xs.map fl) (by simp [Act.eval]) (by simp) (HA.out _ _) (one_fl s.xs) hpos (by unfold maxLen; omega) (by omega) (by simp) (w.heap.size + 2) (by simp) ?_
         intro g cap w1 hown hgrow hg hlt1
         have hb1 := HG.out _ _ _ hgrow
         have s1 : w1.heap.size ≥ w.heap.size + 2 := by have := hb1.size; simpa using this
         have f1 : w1.cell? ⟨ad.block, ad.off + 1, none⟩ = some (.slice (some ad2) s.xs.length s.c) := (hb1.cell (by simp; omega)).trans (d1 _ _)
         have g1 := fun u0 u1 u2 u3 => (far4 (w := w1) (g := w.heap.size) (p := ⟨ad.block, ad.off + 1, none⟩) (by simp; omega) u0 u1 u2 u3).trans f1
         have f4 : w1.cell? ⟨ad.block, ad.off + 4, none⟩ = some (fl s.voice) := (hb1.cell (by simp; omega)).trans (d4 _ _)
         have g4 := fun u0 u1 u2 u3 => (far4 (w := w1) (g := w.heap.size) (p := ⟨ad.block, ad.off + 4, none⟩) (by simp; omega) u0 u1 u2 u3).trans f4
         have f5 : w1.cell? ⟨ad.block, ad.off + 5, none⟩ = some (fl s.noise) := (hb1.cell (by simp; omega)).trans (d5 _ _)
         have g5 := fun u0 u1 u2 u3 => (far4 (w := w1) (g := w.heap.size) (p := ⟨ad.block, ad.off + 5, none⟩) (by simp; omega) u0 u1 u2 u3).trans f5
         have r0 : w1.cell? ⟨w.heap.size, 0, none⟩ = some (.slice none 0 0) := blk_cell hb1 (by omega) (Blk.alloc (heap_1 _ _) _) rfl
         have r1 : w1.cell? ⟨w.heap.size, 1, none⟩ = some (fl 0) := blk_cell hb1 (by omega) (Blk.alloc (heap_1 _ _) _) rfl
         have r2 : w1.cell? ⟨w.heap.size, 2, none⟩ = some (fl 0) := blk_cell hb1 (by omega) (Blk.alloc (heap_1 _ _) _) rfl
         have r3 : w1.cell? ⟨w.heap.size, 3, none⟩ = some (fl 0) := blk_cell hb1 (by omega) (Blk.alloc (heap_1 _ _) _) rfl
         have fr := fun j => blk_frozen hb1 (show w.heap.size < _ by omega) (Blk.alloc (heap_1 _ _) _) j
         have HB := Lib.hid (((bl_a w _).drew.alloc (by simp) _).trans (hb1.mono (by omega)))
         have HOW := Lib.hid hown; clear hown hb1 hgrow))
  go_wp2_with fail
  have hfin : OwnF w1 (w.heap.size + 1) (.slice (some ⟨g, 0, none⟩) s.xs.length cap) s.xs := by have := HOW.out; rwa [Nat.zero_add, List.nil_append] at this
  refine bodyPost_ret (v := .agg #[.slice (some ⟨g, 0, none⟩) s.xs.length cap, fl p, fl s.voice, fl s.noise]) ?_ rfl ⟨_, _, rfl, ?_, ?_⟩
  · simp [results, Try.results142, go_sem, r0, r1, r2, r3]
  · exact OwnF.less (base := w.heap.size + 1) (.set_ (.set_ (.set_ (.set_ hfin (by simp)) (by simp)) (by simp)) (by simp)) (by omega)
  · exact (((HB.out.setCell (by simp) _).setCell (by simp) _).setCell (by simp) _).setCell (by simp) _

set_option maxRecDepth 20000 in
set_option maxHeartbeats 4000000 in
theorem frameOf_any (s : Snd) (p : Nat) (w : World) (B : Nat) (hB : B ≤ w.heap.size) (hin : SndIn w B s) :
    Calls Try.prog 147 #[.agg #[.string s.name, .slice s.A s.xs.length s.c, fl s.long, fl s.ramp, fl s.voice, fl s.noise], fl p] w fun e w' => ∃ A' c', e = .returned (.agg #[.slice A' s.xs.length c', fl p, fl s.voice, fl s.noise]) ∧ OwnF w' w.heap.size (.slice A' s.xs.length c') s.xs ∧ Below w.heap.size w w' := by
  have hm := hin.2.1
  have hx2 := fun o o' => ((hin.1.alloc hB o).alloc (by simp; omega) o').drew
  have HX := Lib.hid hx2; clear hx2 hin
  go_enter Try.func147, Try.ntmps147
  go_wp2_with fail
  go_region_held3 (fun w' => w'.cell? ⟨w.heap.size, 1, none⟩ = some (.slice s.A s.xs.length s.c) ∧ w'.cell? ⟨w.heap.size, 4, none⟩ = some (fl s.voice) ∧ w'.cell? ⟨w.heap.size, 5, none⟩ = some (fl s.noise)) (go_keep)
    (first
      | (go_at_call 119; refine (CloneF_any s.A s.c s.xs _ B (by simp; omega) (HX.out _ _) hm).mono ?_; rintro e w1 ⟨A', c', rfl, hown, hb⟩
         have hb1 : Below (w.heap.size + 2) _ w1 := hb.mono (by simp)
         have s1 : w1.heap.size ≥ w.heap.size + 2 := by have := hb1.size; simpa using this
         have f1 : w1.cell? ⟨w.heap.size, 1, none⟩ = some (.slice s.A s.xs.length s.c) := blk_cell hb1 (by omega) (Blk.drew (Blk.alloc (heap_1 _ _) _)) rfl
         have f4 : w1.cell? ⟨w.heap.size, 4, none⟩ = some (fl s.voice) := blk_cell hb1 (by omega) (Blk.drew (Blk.alloc (heap_1 _ _) _)) rfl
         have f5 : w1.cell? ⟨w.heap.size, 5, none⟩ = some (fl s.noise) := blk_cell hb1 (by omega) (Blk.drew (Blk.alloc (heap_1 _ _) _)) rfl
         have g1 := fun u0 u1 u2 u3 => (far4 (w := w1) (g := w.heap.size + 1) (p := ⟨w.heap.size, 1, none⟩) (by simp) u0 u1 u2 u3).trans f1
         have g4 := fun u0 u1 u2 u3 => (far4 (w := w1) (g := w.heap.size + 1) (p := ⟨w.heap.size, 4, none⟩) (by simp) u0 u1 u2 u3).trans f4
         have g5 := fun u0 u1 u2 u3 => (far4 (w := w1) (g := w.heap.size + 1) (p := ⟨w.heap.size, 5, none⟩) (by simp) u0 u1 u2 u3).trans f5
         have r0 : w1.cell? ⟨w.heap.size + 1, 0, none⟩ = some (.slice none 0 0) := blk_cell hb1 (by omega) (Blk.drew (heap_2 _ _ _)) rfl
         have r1 : w1.cell? ⟨w.heap.size + 1, 1, none⟩ = some (fl 0) := blk_cell hb1 (by omega) (Blk.drew (heap_2 _ _ _)) rfl
         have r2 : w1.cell? ⟨w.heap.size + 1, 2, none⟩ = some (fl 0) := blk_cell hb1 (by omega) (Blk.drew (heap_2 _ _ _)) rfl
         have r3 : w1.cell? ⟨w.heap.size + 1, 3, none⟩ = some (fl 0) := blk_cell hb1 (by omega) (Blk.drew (heap_2 _ _ _)) rfl
         have fr := fun j => blk_frozen hb1 (show w.heap.size + 1 < _ by omega) (Blk.drew (heap_2 _ _ _)) j
         have HB := Lib.hid (((bl_a w _).alloc (by simp) _).drew.trans (hb1.mono (by omega)))
         have HOW := Lib.hid (hown.less (base' := w.heap.size + 2) (by simp)); clear hown hb1 hb))
  go_wp2_with fail
  refine bodyPost_ret (v := .agg #[.slice A' s.xs.length c', fl p, fl s.voice, fl s.noise]) ?_ rfl ⟨_, _, rfl, ?_, ?_⟩
  · simp [results, Try.results147, go_sem, r0, r1, r2, r3]
  · exact OwnF.less (base := w.heap.size + 2) (.set_ (.set_ (.set_ (.set_ HOW.out (by simp)) (by simp)) (by simp)) (by simp)) (by omega)
  · exact (((HB.out.setCell (by simp) _).setCell (by simp) _).setCell (by simp) _).setCell (by simp) _
end Go.Proofs.Ythmkbgiandncnaa
