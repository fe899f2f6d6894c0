/- slices.Delete of one sound. -/
import Derived.Test.YthmkbgiandncnaaHas
import Derived.Deep.RegionLaw
import Derived.Lib.SliceRun
namespace Go.Proofs.Ythmkbgiandncnaa
open Go.RowKit

/-! ### cells that are laid over a row's -/
def lay : List Value → Nat → List Value → List Value
  | xs, _, [] => xs
  | xs, o, v :: r => lay (xs.set o v) (o + 1) r
theorem lay_len (xs : List Value) (o : Nat) (vs : List Value) : (lay xs o vs).length = xs.length := by
  induction vs generalizing xs o with
  | nil => rfl
  | cons v r ih => rw [lay, ih, List.length_set]
theorem lay_take (xs : List Value) (o : Nat) (vs : List Value) (m : Nat) (h : m ≤ o) : (lay xs o vs).take m = xs.take m := by
  induction vs generalizing xs o with
  | nil => rfl
  | cons v r ih => rw [lay, ih _ _ (by omega), List.take_set_of_le (by omega)]
theorem lay_mid (pre ys vs : List Value) (h : vs.length ≤ ys.length) : lay (pre ++ ys) pre.length vs = pre ++ (vs ++ ys.drop vs.length) := by
  induction vs generalizing pre ys with
  | nil => simp [lay]
  | cons v r ih =>
    cases ys with
    | nil => simp at h
    | cons y ys =>
      rw [lay]
      have e : (pre ++ y :: ys).set pre.length v = (pre ++ [v]) ++ ys := by
        have := set_app pre (y :: ys) 0 v
        rw [Nat.add_zero] at this
        rw [this]; simp
      rw [e, show pre.length + 1 = (pre ++ [v]).length by simp, ih _ _ (by simpa using h)]
      simp
section
variable {w : World} {base e sz g n cap m : Nat} {xs : List Value}
theorem row_lay (o : Nat) (vs : List Value) (h : w.ownsRow base e sz (.slice (some ⟨g, 0, none⟩) n cap) n xs) : (w.setCells g o vs).ownsRow base e sz (.slice (some ⟨g, 0, none⟩) n cap) n (lay xs o vs) := by
  induction vs generalizing w xs o with
  | nil => exact h
  | cons v r ih => exact ih (o + 1) (World.ownsRow.stored h o v).1
theorem row_cut (h : w.ownsRow base e sz (.slice (some ⟨g, 0, none⟩) n cap) n xs) (hm : m ≤ n) : w.ownsRow base e sz (.slice (some ⟨g, 0, none⟩) m cap) m (xs.take (m * sz)) := by
  have hl := h.1
  have hms : m * sz ≤ n * sz := Nat.mul_le_mul_right _ hm
  refine ⟨by rw [List.length_take]; omega, ?_⟩
  rcases h.2 with ⟨h2, _⟩ | ⟨g', cap', cur, hv, hg, hh, h1, h2, h3, h4⟩
  · cases h2
  · injection hv with e1 e2 e3
    injection e1 with e1
    injection e1 with e1 _ _
    subst e1; subst e3
    refine .inr ⟨g, cap, cur, rfl, hg, hh, by omega, h2, h3, ?_⟩
    rw [← h4, List.take_take, Nat.min_eq_left hms]
theorem turn_cells (g o : Nat) (vs : List Value) : Turn (some g) w (w.setCells g o vs) := by
  induction vs generalizing w o with
  | nil => exact ⟨rfl, rfl, rfl, Nat.le_refl _, fun _ _ _ => rfl⟩
  | cons v r ih =>
    have h1 := turn_set w ⟨g, o, none⟩ v
    have h2 := @ih (w.setCell ⟨g, o, none⟩ v) (o + 1)
    refine ⟨h2.os.trans h1.os, h2.tape.trans h1.tape, h2.output.trans h1.output, Nat.le_trans h1.size h2.size, fun k hk hne => ?_⟩
    rw [World.setCells, h2.block k (Nat.lt_of_lt_of_le hk h1.size) hne]
    exact h1.block k hk hne
end
theorem Turn.trans {b : Option Nat} {w w' w'' : World} (h : Turn b w w') (k : Turn b w' w'') : Turn b w w'' :=
  ⟨k.os.trans h.os, k.tape.trans h.tape, k.output.trans h.output, Nat.le_trans h.size k.size, fun j hj hb => (k.block j (Nat.lt_of_lt_of_le hj h.size) hb).trans (h.block j hj hb)⟩

theorem zero_sound (w : World) : (zeroValue 98).run Try.prog w = .ok (.agg zeroS.toArray) w := by kernel_rfl
theorem run_clear_sound (w : World) (ty : TypeId) (b o c : Nat) (hc : ∀ j, j < 6 → (w.cell? ⟨b, o + j, none⟩).isSome = true) (hf : ∀ j, j < 6 → w.frozen? ⟨b, o + j, none⟩ = false) :
    (Builtin.clear_ #[31] ty #[.slice (some ⟨b, o, none⟩) 1 c]).run Try.prog w = .ok (.tuple #[]) (w.setCells b o zeroS) := by
  have hst := run_storeCells_cells (P := Try.prog) b o zeroS 0 w (by simpa [zeroS] using hc) (by simpa [zeroS] using hf) (by intro v hv; exact one_cells ⟨ByteArray.empty, none, 0, [], 0, 0, 0, 0⟩ v hv)
  simp only [Nat.add_zero] at hst
  have hz : (Builtin.zeroCells (Value.agg zeroS.toArray).cells 1).toList = zeroS := by
    simp [Builtin.zeroCells, Value.cells, zeroS, Array.range]
  obtain ⟨zv, hzv⟩ : ∃ zv, zv = Value.agg zeroS.toArray := ⟨_, rfl⟩
  have hz1 := zero_sound
  rw [← hzv] at hz hz1
  simp [Builtin.clear_, run_underlying Try.underlying31, hz1, hz, hst]

set_option maxRecDepth 100000 in
set_option maxHeartbeats 4000000 in
theorem DeleteS_any (g cap i j : Nat) (ss : List Snd) (w : World) (base : Nat) (hrow : w.ownsRow base 98 6 (.slice (some ⟨g, 0, none⟩) ss.length cap) ss.length (ss.flatMap Snd.cells)) (hij : i < ss.length) (hj : j = i + 1) (hm : ss.length ≤ 1048576) :
    Calls Try.prog 81 #[.slice (some ⟨g, 0, none⟩) ss.length cap, .int .i64 i, .int .i64 j] w fun e w' => e = .returned (.slice (some ⟨g, 0, none⟩) (ss.eraseIdx i).length cap) ∧ w'.ownsRow base 98 6 (.slice (some ⟨g, 0, none⟩) (ss.eraseIdx i).length cap) (ss.eraseIdx i).length ((ss.eraseIdx i).flatMap Snd.cells) ∧ Turn (some g) w w' := by
  obtain ⟨i0, hi, hz0, hz1, hz2⟩ := info_parts infoS
  have hcap : ss.length ≤ cap ∧ cap ≤ 9223372036854775807 := by
    rcases hrow.2 with ⟨h2, _⟩ | ⟨g', cap', cur, hv, _, _, h1, h2, _⟩
    · cases h2
    · injection hv with _ _ e3
      unfold maxLen at h2
      omega
  obtain ⟨hc1, hc2⟩ := hcap
  obtain ⟨news, hnews⟩ : ∃ news, news = (ss.drop j).flatMap Snd.cells := ⟨_, rfl⟩
  have hlen : news.length = (ss.length - j) * 6 := by rw [hnews, flat_len, List.length_drop]
  have hpl : ((ss.take i).flatMap Snd.cells).length = i * 6 := by rw [flat_len, List.length_take, Nat.min_eq_left (by omega)]
  have hsplit : ss.flatMap Snd.cells = (ss.take i).flatMap Snd.cells ++ (ss[i].cells ++ news) := by
    have e : ss = ss.take i ++ (ss[i] :: ss.drop (i + 1)) := by rw [← List.drop_eq_getElem_cons hij, List.take_append_drop]
    rw [hnews, hj]
    conv => lhs; rw [e]
    rw [List.flatMap_append, List.flatMap_cons]
  obtain ⟨A, hA, hsrc⟩ : ∃ A : Addr, (if cap = j then some (⟨g, 0, none⟩ : Addr) else some ⟨g, j * 6, none⟩) = some A ∧ Hid (∀ t u, news[t]? = some u → w.drew.cell? (A.add t) = some u) := by
    refine ⟨if cap = j then ⟨g, 0, none⟩ else ⟨g, j * 6, none⟩, by split <;> rfl, fun t u hu => ?_⟩
    have ht : t < (ss.length - j) * 6 := by rw [← hlen]; exact lt_of_some hu
    have hne : ¬ cap = j := by omega
    rw [if_neg hne]
    have e : (⟨g, j * 6, none⟩ : Addr).add t = ⟨g, j * 6 + t, none⟩ := by unfold Addr.add; cases t <;> simp
    rw [e]
    show w.cell? _ = _
    rw [World.ownsRow.cellAt hrow _ (by omega), hsplit, List.getElem?_append_right (by omega), List.getElem?_append_right (by rw [cells_len]; omega), cells_len]
    rw [← hu]; congr 1; omega
  have s1 : Hid (news.length = (ss.length - j) * 6) := hlen
  have s2 : Hid (∀ u ∈ news, u.oneCell' = true) := by rw [hnews]; exact flat_one
  have s3 : Hid (∀ t, t < news.length → (w.drew.cell? ⟨g, 0 + i * 6 + t, none⟩).isSome = true ∧ w.drew.frozen? ⟨g, 0 + i * 6 + t, none⟩ = false) := by
    intro t ht
    obtain ⟨v, hv⟩ := own_cell hrow (show 0 + i * 6 + t < _ by omega)
    exact ⟨by show (w.cell? _).isSome = true; rw [hv]; rfl, World.ownsRow.frozenAt hrow _⟩
  obtain ⟨W1, hW1⟩ : ∃ W1, W1 = w.drew.setCells g (0 + i * 6) news := ⟨_, rfl⟩
  have hrow1 : W1.ownsRow base 98 6 (.slice (some ⟨g, 0, none⟩) ss.length cap) ss.length ((ss.take i).flatMap Snd.cells ++ (news ++ (ss[i].cells ++ news).drop news.length)) := by
    have h := row_lay (0 + i * 6) news (show w.drew.ownsRow base 98 6 (.slice (some ⟨g, 0, none⟩) ss.length cap) ss.length (ss.flatMap Snd.cells) from hrow)
    rw [hsplit, show 0 + i * 6 = ((ss.take i).flatMap Snd.cells).length by omega, lay_mid _ _ _ (by simp)] at h
    rw [hW1, show 0 + i * 6 = ((ss.take i).flatMap Snd.cells).length by omega]
    exact h
  have hturn1 : Turn (some g) w W1 := by
    rw [hW1]
    have h0 : Turn (some g) w w.drew := ⟨rfl, rfl, rfl, Nat.le_refl _, fun _ _ _ => rfl⟩
    exact h0.trans (turn_cells g _ news)
  have hone : ss.length - (i + (ss.length - j)) = 1 := by omega
  have hcl : ∀ ty, (Builtin.clear_ #[31] ty #[.slice (some ⟨g, (i + (ss.length - j)) * 6, none⟩) (ss.length - (i + (ss.length - j))) (cap - (i + (ss.length - j)))]).run Try.prog W1 = .ok (.tuple #[]) (W1.setCells g ((i + (ss.length - j)) * 6) zeroS) := by
    intro ty
    rw [hone]
    refine run_clear_sound W1 ty g _ _ (fun t ht => ?_) (fun t _ => World.ownsRow.frozenAt hrow1 _)
    obtain ⟨v, hv⟩ := own_cell hrow1 (show (i + (ss.length - j)) * 6 + t < _ by omega)
    rw [hv]; rfl
  have hel : (ss.eraseIdx i).length = i + (ss.length - j) := by rw [List.length_eraseIdx, if_pos hij]; omega
  have hrow2 := row_cut (m := i + (ss.length - j)) (row_lay ((i + (ss.length - j)) * 6) zeroS hrow1) (by omega)
  have hflat : (lay ((ss.take i).flatMap Snd.cells ++ (news ++ (ss[i].cells ++ news).drop news.length)) ((i + (ss.length - j)) * 6) zeroS).take ((i + (ss.length - j)) * 6) = (ss.eraseIdx i).flatMap Snd.cells := by
    rw [lay_take _ _ _ _ (Nat.le_refl _), ← List.append_assoc, List.take_append_of_le_length (by simp only [List.length_append]; omega), List.take_of_length_le (by simp only [List.length_append]; omega)]
    rw [List.eraseIdx_eq_take_drop_succ, List.flatMap_append, hnews, hj]
  rw [hflat, ← hel] at hrow2
  have HR := Lib.hid hrow2; clear hrow2
  have HT := Lib.hid (hturn1.trans (turn_cells g ((i + (ss.length - j)) * 6) zeroS)); clear hturn1
  have hW : Hid (W1 = w.drew.setCells g (0 + i * 6) news) := hW1
  have HE := Lib.hid hel; clear hel
  have hij2 : i < j := by omega
  have hjn : j ≤ ss.length := by omega
  have hic : i ≤ cap := by omega
  have hjc : j ≤ cap := by omega
  have HJ := Lib.hid hj; clear hj hW1 hrow1 hrow hflat hnews hlen hpl hsplit hone
  go_enter Try.func81, Try.ntmps81
  go_wp2_with fail
  go_region_law (refine step_append_room rfl (.tmp 22) (.tmp 25) 31 rfl 98 i0 6 Try.underlying31 hi hz1 g 0 i cap (by simp [Act.eval, Act.put]) A (ss.length - j) (cap - j) news (by simp [Act.eval, Act.put]) s1.out hsrc.out s2.out (by omega) s3.out ?_; rw [← hW.out])
  go_wp2
  go_ret
  refine ⟨by rw [HE.out]; rfl, ?_, HT.out⟩
  have := HR.out
  rw [HE.out] at this ⊢
  exact this
end Go.Proofs.Ythmkbgiandncnaa
