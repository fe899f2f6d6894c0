/- Slices that the call itself makes: numbers. -/
import Derived.Test.YthmkbgiandncnaaDsk
import Derived.Test.YthmkbgiandncnaaBlk
import Derived.OwnWalk
import Derived.Deep.OwnRows
namespace Go.Proofs.Ythmkbgiandncnaa
open Go.RowKit

theorem infoF : (Try.prog.info? 29).map (fun i => (i.zero, i.size, i.bytes)) = some (some (.float .f32 0), 1, 4) := by kernel_rfl

/-- a slice of numbers at the head of a row that was made from block base on -/
def OwnF (w : World) (base : Nat) (v : Value) (xs : List Nat) : Prop := w.ownsRow base 29 1 v xs.length (xs.map fl)
section
variable {w w' : World} {base B g n cap : Nat} {v : Value} {xs : List Nat}
theorem OwnF.cell (h : OwnF w base (.slice (some ⟨g, 0, none⟩) xs.length cap) xs) {k : Nat} (hk : k < xs.length) : w.cell? ⟨g, k, none⟩ = some (fl xs[k]) := by
  have := World.ownsRow.cellAt h k (by omega)
  rw [this, List.getElem?_map, List.getElem?_eq_getElem hk]; rfl
theorem OwnF.frozen (h : OwnF w base (.slice (some ⟨g, 0, none⟩) xs.length cap) xs) (k : Nat) : w.frozen? ⟨g, k, none⟩ = false := World.ownsRow.frozenAt h k
theorem OwnF.store (h : OwnF w base (.slice (some ⟨g, 0, none⟩) xs.length cap) xs) (k x : Nat) :
    OwnF (w.setCell ⟨g, k, none⟩ (fl x)) base (.slice (some ⟨g, 0, none⟩) (xs.set k x).length cap) (xs.set k x) := by
  have := (World.ownsRow.stored h k (fl x)).1
  unfold OwnF
  rw [List.map_set, List.length_set]; exact this
/-- the value's form -/
theorem OwnF.form (h : OwnF w base v xs) : (v = .slice none 0 0 ∧ xs = []) ∨ ∃ g cap, v = .slice (some ⟨g, 0, none⟩) xs.length cap ∧ base ≤ g ∧ g < w.heap.size := by
  rcases h.2 with ⟨h1, h2⟩ | ⟨g, cap, cur, hv, hb, hh, _⟩
  · exact .inl ⟨h1, List.eq_nil_of_length_eq_zero h2⟩
  · refine .inr ⟨g, cap, hv, hb, ?_⟩
    rcases Nat.lt_or_ge g w.heap.size with hlt | hge
    · exact hlt
    · rw [Array.getElem?_eq_none hge] at hh; cases hh
/-- it reads as its numbers -/
theorem OwnF.reads (h : OwnF w base v xs) : ∃ A c, v = .slice A xs.length c ∧ Fs w w.heap.size A xs := by
  rcases h.form with ⟨rfl, rfl⟩ | ⟨g, cap, rfl, hb, hg⟩
  · exact ⟨none, 0, rfl, Sl.nil _ _ _ _⟩
  · exact ⟨_, cap, rfl, by simp, fun _ => ⟨_, rfl, hg, fun j u hu => by have := World.ownsRow.cells h (g := g) rfl j u hu; exact this⟩⟩
theorem OwnF.kept (h : OwnF w base v xs) {row : Option Nat} (hg : w.grownBy w' row) (hne : v.ownBlock = none ∨ v.ownBlock ≠ row) : OwnF w' base v xs := World.ownsRow.kept h hg hne
/-- a world that has turned nothing below B keeps what is owned below B -/
theorem own_below {e sz : Nat} {ys : List Value} (h : w.ownsRow base e sz v n ys) (hb : Below B w w') (hv : ∀ k, v.ownBlock = some k → k < B) : w'.ownsRow base e sz v n ys := by
  refine ⟨h.1, ?_⟩
  rcases h.2 with h2 | ⟨g, cap, cur, rfl, hg, hh, r⟩
  · exact .inl h2
  · exact .inr ⟨g, cap, cur, rfl, hg, by rw [hb.block g (hv g rfl)]; exact hh, r⟩
theorem OwnF.below (h : OwnF w base v xs) (hb : Below w.heap.size w w') : OwnF w' base v xs := own_below h hb fun k hk => (World.ownsRow.lt h k hk).2
theorem OwnF.below' (h : OwnF w base v xs) (hb : Below B w w') (hv : ∀ k, v.ownBlock = some k → k < B) : OwnF w' base v xs := own_below h hb hv
theorem OwnF.less (h : OwnF w base v xs) {base' : Nat} (hb : base' ≤ base) : OwnF w base' v xs := by
  refine ⟨h.1, ?_⟩
  rcases h.2 with h2 | ⟨g, cap, cur, hv, hg, r⟩
  · exact .inl h2
  · exact .inr ⟨g, cap, cur, hv, by omega, r⟩
theorem OwnF.alloc (h : OwnF w base v xs) (o : Obj) : OwnF (w.alloc o) base v xs := World.ownsRow.alloc h o
theorem OwnF.set_ (h : OwnF w base v xs) {a : Addr} (ha : a.block < base) {u : Value} : OwnF (w.setCell a u) base v xs := ownsRow_setCell_below h ha u
theorem OwnF.drewN (h : OwnF w base v xs) (k : Nat) : OwnF (w.drewN k) base v xs := h
end

/-! ### copies, number by number -/
theorem take_set {α : Type} (xs : List α) (k : Nat) (z : List α) (h : k < xs.length) (hz : z.length = xs.length) : (xs.take k ++ z.drop k).set k xs[k] = xs.take (k + 1) ++ z.drop (k + 1) := by
  have hk : k < z.length := by omega
  rw [List.set_append_right _ _ (by simp; omega), List.drop_eq_getElem_cons hk]
  rw [show k - (xs.take k).length = 0 from by simp; omega]
  rw [List.set_cons_zero, List.take_succ_eq_append_getElem h, List.append_assoc]; rfl

theorem madeF (n : Nat) : (madeCells (Value.float .f32 0).cells (n * 1)).toList = (List.replicate n 0).map fl := by
  rw [Nat.mul_one]
  show (madeCells #[.float .f32 0] n).toList = _
  rw [toList_madeCells_one, List.map_replicate]
/-- the first k numbers have been laid, the others are still zeros -/
def filled (xs : List Nat) (k : Nat) : List Nat := xs.take k ++ (List.replicate xs.length 0).drop k
theorem filled_len (xs : List Nat) (k : Nat) : (filled xs k).length = xs.length := by unfold filled; simp; omega
theorem filled_0 (xs : List Nat) : filled xs 0 = List.replicate xs.length 0 := by simp [filled]
theorem filled_end (xs : List Nat) (k : Nat) (h : ¬ k < xs.length) : filled xs k = xs := by unfold filled; rw [List.take_of_length_le (by omega), List.drop_eq_nil_of_le (by simp; omega)]; simp
theorem filled_step (xs : List Nat) (k : Nat) (h : k < xs.length) : (filled xs k).set k xs[k] = filled xs (k + 1) := take_set xs k _ h (by simp)

set_option maxHeartbeats 400000 in
theorem toFloat32S_any (A : Option Addr) (c : Nat) (xs : List Nat) (w : World) (B : Nat) (hB : B ≤ w.heap.size) (hx : Fs w B A xs) (hm : xs.length ≤ 1048576) :
    Calls Try.prog 49 #[.slice A xs.length c] w fun e w' => ∃ g, e = .returned (.slice (some ⟨g, 0, none⟩) xs.length xs.length) ∧ w.heap.size ≤ g ∧ OwnF w' w.heap.size (.slice (some ⟨g, 0, none⟩) xs.length xs.length) xs ∧ Below w.heap.size w w' := by
  obtain ⟨i0, hi, hz0, hz1, hz2⟩ := info_parts infoF
  go_enter Try.func49, Try.ntmps49
  go_wp2_with (at_make; refine wpList_make_full _ rfl _ _ 38 rfl w.heap.size 29 i0 (.float .f32 0) 1 Try.underlying38 hi hz0 hz1 .i64 .i64 _ _ xs.length rfl rfl rfl rfl (by rw [hz2]; omega) (by unfold maxLen; omega) (Nat.le_refl _) ?_; intro w0 hown hg)
  rw [madeF, ← filled_0] at hown
  have hb0 : Below w.heap.size w w0 := (Below.refl _ _).grown hg (Nat.le_refl _) (by simp)
  have HO := Lib.hid hown; clear hown
  have HB0 := Lib.hid hb0; clear hb0 hg hi hz0 hz1 hz2
  go_loopw [4] (fun i wr => ∃ k : Nat, k ≤ xs.length ∧ i = .int .i64 k ∧ wr.ownsRow w.heap.size 29 1 (.slice (some ⟨w.heap.size, 0, none⟩) xs.length xs.length) xs.length ((filled xs k).map fl) ∧ Below w.heap.size w wr) (fun i _ => xs.length - (intOf i).toNat)
  case atStart => exact ⟨0, Nat.zero_le _, rfl, HO.out, HB0.out⟩
  case round =>
    obtain ⟨k, hk, rfl, hown, hb⟩ := hrel
    by_cases hlt : k < xs.length
    · obtain ⟨ad, rfl, hadB, hcell⟩ := (hx.below' hb hB).cell hlt
      have hfl := filled_len xs k
      obtain ⟨v0, hc1⟩ : ∃ v0, wr.cell? ⟨w.heap.size, k, none⟩ = some v0 :=
        ⟨fl ((filled xs k)[k]'(by omega)), by rw [World.ownsRow.cellAt hown k (by omega), List.getElem?_map, List.getElem?_eq_getElem (by omega)]; rfl⟩
      have hf1 : wr.frozen? ⟨w.heap.size, k, none⟩ = false := World.ownsRow.frozenAt hown k
      have hst := (World.ownsRow.stored hown k (fl xs[k])).1
      rw [← List.map_set, filled_step xs k hlt] at hst
      have HS := Lib.hid hst; clear hst hown
      have HB := Lib.hid hb; clear hb
      have HX := Lib.hid hx; clear hx
      clear hfl
      go_wp2
      go_roundw
      case rel => exact ⟨k + 1, by omega, by go_num, HS.out, HB.out.setCell (by simp) _⟩
      case measure => simp [intOf]; omega
    · rw [filled_end xs k hlt] at hown
      have HS := Lib.hid hown; clear hown
      have HB := Lib.hid hb; clear hb
      go_wp2
      go_ret
      exact ⟨_, rfl, Nat.le_refl _, HS.out, HB.out⟩
end Go.Proofs.Ythmkbgiandncnaa
