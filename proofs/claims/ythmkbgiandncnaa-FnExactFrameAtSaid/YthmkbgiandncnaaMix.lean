/- Frames between two others: the numbers; the reference's mix. -/
import Derived.Test.YthmkbgiandncnaaFrO
namespace Go.Proofs.Ythmkbgiandncnaa
open Go.RowKit

def mixed (xs ys : List Nat) (sh : Nat) : List Nat := List.zipWith (fun x y => mixP x y sh) xs ys
theorem mixed_len {xs ys : List Nat} (h : xs.length = ys.length) (sh : Nat) : (mixed xs ys sh).length = xs.length := by simp [mixed, h]
theorem mixed_get {xs ys : List Nat} {sh k : Nat} (hk : k < (mixed xs ys sh).length) (h1 : k < xs.length) (h2 : k < ys.length) : (mixed xs ys sh)[k] = mixP xs[k] ys[k] sh := by simp [mixed]
theorem mixed_take {xs ys : List Nat} (h : xs.length = ys.length) (sh : Nat) {k : Nat} (h1 : k < xs.length) (h2 : k < ys.length) : (mixed xs ys sh).take (k + 1) = (mixed xs ys sh).take k ++ [mixP xs[k] ys[k] sh] := by
  rw [List.take_succ_eq_append_getElem (by rw [mixed_len h]; exact h1), mixed_get _ h1 h2]

theorem mix_runs {x y sh : Nat} (hx : nonneg x) (hy : nonneg y) (hs : fin32 sh = true) : ∃ d q r, mixP x y sh = r ∧
    (∀ w, (binOp .sub 29 (.float .f32 y) (.float .f32 x)).run Try.prog w = .ok (.float .f32 d) w) ∧
    (∀ w, (binOp .mul 29 (.float .f32 sh) (.float .f32 d)).run Try.prog w = .ok (.float .f32 q) w) ∧
    (∀ w, (binOp .add 29 (.float .f32 x) (.float .f32 q)).run Try.prog w = .ok (.float .f32 r) w) := by
  obtain ⟨d, q, r, h1, h2, h3, e, _⟩ := mix_num hx hy hs
  exact ⟨d, q, r, e, fun w => run_float_arith w _ _ _ _ _ _ h1, fun w => run_float_arith w _ _ _ _ _ _ h2, fun w => run_float_arith w _ _ _ _ _ _ h3⟩

set_option maxRecDepth 20000 in
set_option maxHeartbeats 4000000 in
theorem l02Mix_any (A A' : Option Addr) (c c' : Nat) (xs ys : List Nat) (sh : Nat) (w : World) (B : Nat) (hB : B ≤ w.heap.size) (hx : Fs w B A xs) (hy : Fs w B A' ys) (hl : xs.length = ys.length) (hm : xs.length ≤ 1048576)
    (h1 : ∀ x ∈ xs, nonneg x) (h2 : ∀ y ∈ ys, nonneg y) (hs : fin32 sh = true) :
    Calls Try.prog 171 #[.slice A xs.length c, .slice A' ys.length c', fl sh] w fun e w' => ∃ v, e = .returned v ∧ OwnF w' w.heap.size v (mixed xs ys sh) ∧ Below w.heap.size w w' := by
  obtain ⟨i0, hi, hz0, hz1, hz2⟩ := info_parts infoF
  have HX := Lib.hid hx; have HY := Lib.hid hy; have HL := Lib.hid hl; have H1 := Lib.hid h1; have H2 := Lib.hid h2; have HS := Lib.hid hs; clear hx hy hl h1 h2 hs
  have hown0 : (w.alloc (.cells #[] 29)).ownsRow w.heap.size 29 1 (.slice (some ⟨w.heap.size, 0, none⟩) 0 0) 0 [] := World.ownsRow_lit _ #[] 0 (Nat.le_refl _) (by unfold maxLen; omega) rfl
  have HO := Lib.hid hown0; clear hown0
  go_enter Try.func171, Try.ntmps171
  go_wp2_with fail
  go_loopw [7, 8] (fun v i wr => ∃ k : Nat, k ≤ xs.length ∧ i = .int .i64 k ∧ wr.ownsRow w.heap.size 29 1 v k (((mixed xs ys sh).take k).map fl) ∧ Below w.heap.size w wr) (fun _ i _ => xs.length - (intOf i).toNat)
  case atStart => exact ⟨0, Nat.zero_le _, rfl, HO.out, bl_a _ _⟩
  case round =>
    obtain ⟨k, hk, rfl, hown, hb⟩ := hrel
    have hsz := hb.size
    have HR := Lib.hid hown; have HB := Lib.hid hb; clear hown hb
    by_cases hlt : k < xs.length
    · have hlt2 : k < ys.length := by rw [← HL.out]; exact hlt
      obtain ⟨ax, hAx, bx, hcx⟩ := (HX.out.below' HB.out hB).cell hlt
      obtain ⟨ay, hAy, b_y, hcy⟩ := (HY.out.below' HB.out hB).cell hlt2
      subst hAx; subst hAy
      obtain ⟨d, q, r, hval, m1, m2, m3⟩ := mix_runs (H1.out _ (List.getElem_mem hlt)) (H2.out _ (List.getElem_mem hlt2)) HS.out
      have hLL := Lib.hid (mixed_take HL.out sh hlt hlt2)
      have HV := Lib.hid hval; clear hval
      have ex : ∀ o, (wr.drew.alloc o).cell? (ax.add k) = some (fl xs[k]) := fun o => (World.cell?_alloc_lt wr.drew o (ax.add k) (by rw [add_block]; simp; omega)).trans hcx
      have ey : ∀ o, (wr.drew.alloc o).cell? (ay.add k) = some (fl ys[k]) := fun o => (World.cell?_alloc_lt wr.drew o (ay.add k) (by rw [add_block]; simp; omega)).trans hcy
      go_wp2_with fail
      go_region_held3 (fun w' => w'.cell? (ax.add k) = some (fl xs[k]) ∧ w'.cell? (ay.add k) = some (fl ys[k])) (go_keep)
        (first
          | (refine step_append_lies _ rfl (.tmp 16) (.tmp 33) 38 rfl w.heap.size 29 i0 (.float .f32 0) 1 4 Try.underlying38 hi hz0 hz1 hz2 rfl (by decide) _ k _ (by simp [Act.eval]) (World.ownsRow.alloc (w := wr.drew) HR.out _) ⟨wr.heap.size, 0, none⟩ 1 1 [fl r] (by simp [Act.eval]) rfl (cell_one_new wr.drew (fl r) _) (one_fl [r]) (by decide) (by unfold maxLen; omega) (by omega) (by simp; omega) (wr.heap.size + 1) (by simp) ?_
             intro g cap w2 hown2 hgrow hg hlt1
             have hb2 : Below w.heap.size wr w2 := ((Below.refl _ _).drew.alloc (by simp; omega) _).trans (grown_below hgrow (by simp; omega) fun g hg => (World.ownsRow.lt HR.out g hg).1)
             have f1 : w2.cell? (ax.add k) = some (fl xs[k]) := (hb2.cell (by rw [add_block]; omega)).trans hcx
             have f2 : w2.cell? (ay.add k) = some (fl ys[k]) := (hb2.cell (by rw [add_block]; omega)).trans hcy
             have HB2 := Lib.hid hb2; have HO2 := Lib.hid hown2; clear hb2 hown2 hgrow))
      go_wp2_with fail
      go_roundw
      case rel =>
        refine ⟨k + 1, by omega, by go_num, ?_, HB.out.trans HB2.out⟩
        rw [hLL.out, List.map_append, HV.out]
        exact HO2.out
      case measure => simp [intOf]; omega
    · have hkn : k = xs.length := by omega
      have hml := mixed_len HL.out sh
      have hfin : OwnF wr w.heap.size u7 (mixed xs ys sh) := by
        have h := HR.out
        rw [List.take_of_length_le (by omega)] at h
        unfold OwnF; rw [hml, ← hkn]; exact h
      have HF := Lib.hid hfin; clear hfin hml
      go_wp2_with fail
      go_ret
      exact ⟨_, rfl, HF.out, HB.out⟩

set_option maxRecDepth 20000 in
set_option maxHeartbeats 1000000 in
theorem mix1_any (x y sh : Nat) (p : Addr) (hx : nonneg x) (hy : nonneg y) (hs : fin32 sh = true) (w : World) (hc : w.cell? p = some (fl sh)) :
    Calls Try.prog 174 #[fl x, fl y, .pointer (some p)] w fun e w' => e = .returned (fl (mixP x y sh)) ∧ w' = w := by
  obtain ⟨d, q, r, hval, m1, m2, m3⟩ := mix_runs hx hy hs
  rw [hval]
  clear hx hy hs hval
  go_enter Try.func174, Try.ntmps174
  go_wp2
  go_ret
  exact ⟨rfl, rfl⟩
end Go.Proofs.Ythmkbgiandncnaa
