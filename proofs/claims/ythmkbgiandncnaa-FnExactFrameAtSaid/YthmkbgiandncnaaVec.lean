/- The laws' copies, comparisons, marks of lists of texts and of bools. -/
import Derived.Test.YthmkbgiandncnaaHas
namespace Go.Proofs.Ythmkbgiandncnaa
open Go.RowKit

/-! ## lists of texts -/
theorem infoStr : (Try.prog.info? 9).map (fun i => (i.zero, i.size, i.bytes)) = some (some (.string ByteArray.empty), 1, 16) := by kernel_rfl
abbrev st (x : ByteArray) : Value := .string x
def Strs (w : World) (B : Nat) (A : Option Addr) (xs : List ByteArray) : Prop := Sl w B 1 A xs.length (xs.map st)
def OwnStr (w : World) (base : Nat) (v : Value) (xs : List ByteArray) : Prop := w.ownsRow base 9 1 v xs.length (xs.map st)
section
variable {w w' : World} {B B' base n : Nat} {A : Option Addr} {v : Value} {xs : List ByteArray}
theorem Strs.below (h : Strs w B A xs) (hb : Below B w w') : Strs w' B A xs := Sl.below h hb
theorem Strs.below' (h : Strs w B A xs) (hb : Below B' w w') (hB : B ≤ B') : Strs w' B A xs := Sl.below' h hb hB
theorem Strs.drewN (h : Strs w B A xs) (k : Nat) : Strs (w.drewN k) B A xs := h
theorem Strs.drew (h : Strs w B A xs) : Strs w.drew B A xs := h
theorem Strs.alloc (h : Strs w B A xs) (hB : B ≤ w.heap.size) (o : Obj) : Strs (w.alloc o) B A xs := Sl.alloc h hB o
theorem Strs.more (h : Strs w B A xs) (hB : B ≤ B') : Strs w B' A xs := Sl.more h hB
theorem Strs.cell {k : Nat} (h : Strs w B A xs) (hk : k < xs.length) : ∃ ad, A = some ad ∧ ad.block < B ∧ w.cell? (ad.add k) = some (st xs[k]) := by
  obtain ⟨ad, u, e, hb, hx, hc⟩ := h.cell1 hk
  rw [List.getElem?_map, List.getElem?_eq_getElem hk] at hx
  cases hx
  exact ⟨ad, e, hb, hc⟩
theorem OwnStr.form (h : OwnStr w base v xs) : (v = .slice none 0 0 ∧ xs = []) ∨ ∃ g cap, v = .slice (some ⟨g, 0, none⟩) xs.length cap ∧ base ≤ g ∧ g < w.heap.size := by
  rcases h.2 with ⟨h1, h2⟩ | ⟨g, cap, cur, hv, hb, hh, _⟩
  · exact .inl ⟨h1, List.eq_nil_of_length_eq_zero h2⟩
  · refine .inr ⟨g, cap, hv, hb, ?_⟩
    rcases Nat.lt_or_ge g w.heap.size with hlt | hge
    · exact hlt
    · rw [Array.getElem?_eq_none hge] at hh; cases hh
theorem OwnStr.reads (h : OwnStr w base v xs) : ∃ A c, v = .slice A xs.length c ∧ Strs w w.heap.size A xs := by
  rcases h.form with ⟨rfl, rfl⟩ | ⟨g, cap, rfl, hb, hg⟩
  · exact ⟨none, 0, rfl, Sl.nil _ _ _ _⟩
  · exact ⟨_, cap, rfl, by simp, fun _ => ⟨_, rfl, hg, fun j u hu => by have := World.ownsRow.cells h (g := g) rfl j u hu; exact this⟩⟩
end
theorem madeStr (n : Nat) : (madeCells (.string ByteArray.empty : Value).cells (n * 1)).toList = (List.replicate n ByteArray.empty).map st := by
  rw [Nat.mul_one]
  show (madeCells #[.string ByteArray.empty] n).toList = _
  rw [toList_madeCells_one, List.map_replicate]
def filledStr (xs : List ByteArray) (k : Nat) : List ByteArray := xs.take k ++ (List.replicate xs.length ByteArray.empty).drop k
theorem filledStr_len (xs : List ByteArray) (k : Nat) : (filledStr xs k).length = xs.length := by unfold filledStr; simp; omega
theorem filledStr_0 (xs : List ByteArray) : filledStr xs 0 = List.replicate xs.length ByteArray.empty := by simp [filledStr]
theorem filledStr_end (xs : List ByteArray) (k : Nat) (h : ¬ k < xs.length) : filledStr xs k = xs := by unfold filledStr; rw [List.take_of_length_le (by omega), List.drop_eq_nil_of_le (by simp; omega)]; simp
theorem filledStr_step (xs : List ByteArray) (k : Nat) (h : k < xs.length) : (filledStr xs k).set k xs[k] = filledStr xs (k + 1) := take_set xs k _ h (by simp)

set_option maxHeartbeats 400000 in
theorem toStringS_any (A : Option Addr) (c : Nat) (xs : List ByteArray) (w : World) (B : Nat) (hB : B ≤ w.heap.size) (hx : Strs w B A xs) (hm : xs.length ≤ 1048576) :
    Calls Try.prog 38 #[.slice A xs.length c] w fun e w' => ∃ g, e = .returned (.slice (some ⟨g, 0, none⟩) xs.length xs.length) ∧ w.heap.size ≤ g ∧ g < w'.heap.size ∧ OwnStr w' w.heap.size (.slice (some ⟨g, 0, none⟩) xs.length xs.length) xs ∧ Below w.heap.size w w' := by
  obtain ⟨i0, hi, hz0, hz1, hz2⟩ := info_parts infoStr
  go_enter Try.func38, Try.ntmps38
  go_wp2_with (at_make; refine wpList_make_full _ rfl _ _ 63 rfl w.heap.size 9 i0 (.string ByteArray.empty) 1 Try.underlying63 hi hz0 hz1 .i64 .i64 _ _ xs.length rfl rfl rfl rfl (by rw [hz2]; omega) (by unfold maxLen; omega) (Nat.le_refl _) ?_; intro w0 hown hg)
  rw [madeStr, ← filledStr_0] at hown
  have hb0 : Below w.heap.size w w0 := (Below.refl _ _).grown hg (Nat.le_refl _) (by simp)
  have HO := Lib.hid hown; clear hown
  have HB0 := Lib.hid hb0; clear hb0 hg hi hz0 hz1 hz2
  go_loopw [4] (fun i wr => ∃ k : Nat, k ≤ xs.length ∧ i = .int .i64 k ∧ wr.ownsRow w.heap.size 9 1 (.slice (some ⟨w.heap.size, 0, none⟩) xs.length xs.length) xs.length ((filledStr xs k).map st) ∧ Below w.heap.size w wr) (fun i _ => xs.length - (intOf i).toNat)
  case atStart => exact ⟨0, Nat.zero_le _, rfl, HO.out, HB0.out⟩
  case round =>
    obtain ⟨k, hk, rfl, hown, hb⟩ := hrel
    by_cases hlt : k < xs.length
    · obtain ⟨ad, rfl, hadB, hcell⟩ := (hx.below' hb hB).cell hlt
      have hfl := filledStr_len xs k
      obtain ⟨v0, hc1⟩ : ∃ v0, wr.cell? ⟨w.heap.size, k, none⟩ = some v0 :=
        ⟨st ((filledStr xs k)[k]'(by omega)), by rw [World.ownsRow.cellAt hown k (by omega), List.getElem?_map, List.getElem?_eq_getElem (by omega)]; rfl⟩
      have hf1 : wr.frozen? ⟨w.heap.size, k, none⟩ = false := World.ownsRow.frozenAt hown k
      have hst := (World.ownsRow.stored hown k (st xs[k])).1
      rw [← List.map_set, filledStr_step xs k hlt] at hst
      have HS := Lib.hid hst; clear hst hown
      have HB := Lib.hid hb; clear hb
      have HX := Lib.hid hx; clear hx
      clear hfl
      go_wp2
      go_roundw
      case rel => exact ⟨k + 1, by omega, by go_num, HS.out, HB.out.setCell (by simp) _⟩
      case measure => simp [intOf]; omega
    · rw [filledStr_end xs k hlt] at hown
      have HS := Lib.hid hown; clear hown
      have HB := Lib.hid hb; clear hb
      go_wp2
      go_ret
      exact ⟨_, rfl, Nat.le_refl _, (World.ownsRow.lt HS.out _ rfl).2, HS.out, HB.out⟩

set_option maxHeartbeats 1000000 in
theorem eqStringS_yes (A A' : Option Addr) (c c' : Nat) (xs : List ByteArray) (w : World) (B B' : Nat) (hx : Strs w B A xs) (hy : Strs w B' A' xs) (hm : xs.length ≤ 1048576) :
    Calls Try.prog 42 #[.slice A xs.length c, .slice A' xs.length c'] w fun e w' => e = .returned (.bool true) ∧ ∃ n, w' = w.drewN n := by
  go_enter Try.func42, Try.ntmps42
  go_wp2
  go_loopw [5] (fun i wr => ∃ k n : Nat, k ≤ xs.length ∧ i = .int .i64 k ∧ wr = w.drewN n) (fun i _ => xs.length - (intOf i).toNat)
  case atStart => exact ⟨0, 0, Nat.zero_le _, rfl, rfl⟩
  case round =>
    obtain ⟨k, n, hk, rfl, hwr⟩ := hrel
    by_cases hlt : k < xs.length
    · obtain ⟨ad, rfl, hadB, hcell⟩ := (show Strs wr B A xs by rw [hwr]; exact hx).cell hlt
      obtain ⟨ad', rfl, hadB', hcell'⟩ := (show Strs wr B' A' xs by rw [hwr]; exact hy).cell hlt
      have HW := Lib.hid hwr; clear hwr
      have HX := Lib.hid hx; clear hx
      have HY := Lib.hid hy; clear hy
      have hne : (xs[k].toList != xs[k].toList) = false := by simp
      go_wp2
      go_quiet (fail)
      go_wp2
      go_roundw
      case rel => exact ⟨k + 1, _, by omega, by go_num, by rw [HW.out, World.drewN_drewN]⟩
      case measure => simp [intOf]; omega
    · go_wp2
      go_ret
      exact ⟨rfl, n, rfl⟩

set_option maxHeartbeats 1000000 in
theorem markStringS_any (v : Value) (xs : List ByteArray) (k : Nat) (w : World) (base hi : Nat) (ho : OwnStr w base v xs) (hh : ∀ g, v.ownBlock = some g → g < hi) (hm : xs.length ≤ 1048576) (h0 : 0 < k) (hk : k + xs.length ≤ 4398046511104) :
    Calls Try.prog 44 #[v, .int .i64 k] w fun e w' => e = .returned (.int .i64 (k + xs.length : Nat)) ∧ Only base hi w w' := by
  rcases ho.form with ⟨rfl, rfl⟩ | ⟨g, cap, rfl, hb, hg⟩
  · go_enter Try.func44, Try.ntmps44
    go_wp2
    go_loopw [1, 5] (fun i j wr => i = .int .i64 k ∧ j = .int .i64 0 ∧ wr = w) (fun _ _ _ => 0)
    case atStart => exact ⟨rfl, rfl, rfl⟩
    case round =>
      obtain ⟨rfl, rfl, rfl⟩ := hrel
      go_wp2
      go_ret
      exact ⟨rfl, Only.refl _ _ _⟩
  · have hgh := hh g rfl
    have HO := Lib.hid ho; clear ho hh
    go_enter Try.func44, Try.ntmps44
    go_wp2
    go_loopw [1, 5] (fun i j wr => ∃ (n : Nat) (ys : List Value), n ≤ xs.length ∧ i = .int .i64 (k + n : Nat) ∧ j = .int .i64 n ∧ wr.ownsRow base 9 1 (.slice (some ⟨g, 0, none⟩) xs.length cap) xs.length ys ∧ Only base hi w wr) (fun _ j _ => xs.length - (intOf j).toNat)
    case atStart => exact ⟨0, _, Nat.zero_le _, rfl, rfl, HO.out, Only.refl _ _ _⟩
    case round =>
      obtain ⟨n, ys, hn, rfl, rfl, hown, hon⟩ := hrel
      by_cases hlt : n < xs.length
      · have hyl := hown.1
        have HR := Lib.hid hown; clear hown
        have HN := Lib.hid hon; clear hon
        go_wp2_with fail
        have hgm := markText_any (k + n) wr (by omega) (by omega)
        rw [show ((k + n : Nat) : Int) = (k : Int) + (n : Int) by omega] at hgm
        refine hgm.mono ?_
        clear hgm
        rintro e w1 ⟨rfl, hb1⟩
        have hrow := own_below HR.out hb1 fun k hk => (World.ownsRow.lt HR.out k hk).2
        have hc1 : w1.cell? ⟨g, n, none⟩ = some (ys[n]'(by omega)) := by rw [World.ownsRow.cellAt hrow n (by omega), List.getElem?_eq_getElem]
        have hf1 : w1.frozen? ⟨g, n, none⟩ = false := World.ownsRow.frozenAt hrow n
        have hst := (World.ownsRow.stored hrow n (.string (mtext (k + n)))).1
        have HS := Lib.hid hst; clear hst hrow
        have HB1 := Lib.hid hb1; clear hb1
        go_wp2
        go_roundw
        case rel => exact ⟨n + 1, _, by omega, by go_num, by go_num, HS.out, (HN.out.trans (.of_below HB1.out)).setCell hb hgh _⟩
        case measure => simp [intOf]; omega
      · have HN := Lib.hid hon; clear hon hown
        go_wp2
        go_ret
        exact ⟨ret_int (by rw [show n = xs.length by omega]), HN.out⟩

def strsFew (xs : List ByteArray) : Prop := xs.length ≤ 1048576 ∧ ∀ x ∈ xs, x.size ≤ 1048576
set_option maxHeartbeats 400000 in
theorem szStringS_any (A : Option Addr) (c : Nat) (xs : List ByteArray) (left : Int) (w : World) (B : Nat) (hB : B ≤ w.heap.size) (hx : Strs w B A xs) (hm : xs.length ≤ big) (hs : ∀ x ∈ xs, x.size ≤ big) (h0 : 0 ≤ left) (h1 : left ≤ 1048576) :
    Calls Try.prog 36 #[.slice A xs.length c, .int .i64 left] w (SzPost left (strsFew xs) w) := by
  unfold big at hm hs
  by_cases hl : left - (xs.length : Int) < 0
  · go_enter Try.func36, Try.ntmps36
    go_wp2
    go_ret
    exact ⟨-1, rfl, by omega, fun h => by omega, Below.refl _ _⟩
  · have HS0 := Lib.hid hs; clear hs
    go_enter Try.func36, Try.ntmps36
    go_wp2
    go_loopw [1, 5] (fun v i wr => ∃ (k : Nat) (r : Int), k ≤ xs.length ∧ i = .int .i64 k ∧ v = .int .i64 r ∧ 0 ≤ r ∧ r ≤ left ∧ (∀ x ∈ xs.take k, x.size ≤ 1048576) ∧ wr = w) (fun _ i _ => xs.length - (intOf i).toNat)
    case atStart => exact ⟨0, _, Nat.zero_le _, rfl, rfl, by omega, by omega, by simp, by trivial⟩
    case round =>
      obtain ⟨k, r, hk, rfl, rfl, hr0, hr1, hall, rfl⟩ := hrel
      have HA := Lib.hid hall; clear hall
      by_cases hlt : k < xs.length
      · obtain ⟨ad, rfl, hadB, hcell⟩ := hx.cell hlt
        have hsz := HS0.out _ (List.getElem_mem hlt)
        have HX := Lib.hid hx; clear hx
        by_cases hneg : r - (xs[k].size : Int) < 0
        · go_wp2
          go_ret
          exact ⟨-1, rfl, by omega, fun h => by omega, Below.refl _ _⟩
        · go_wp2
          go_roundw
          case rel =>
            refine ⟨k + 1, _, by omega, by go_num, rfl, by omega, by omega, ?_, by trivial⟩
            intro x hx
            rw [List.take_succ_eq_append_getElem hlt, List.mem_append] at hx
            rcases hx with hx | hx
            · exact HA.out x hx
            · simp at hx; subst hx; omega
          case measure => simp [intOf]; omega
      · go_wp2
        go_ret
        refine ⟨r, rfl, by omega, fun h => ⟨by omega, by omega, ?_⟩, Below.refl _ _⟩
        have := HA.out
        rwa [List.take_of_length_le (by omega)] at this

/-! ## lists of bools -/
theorem infoBoo : (Try.prog.info? 4).map (fun i => (i.zero, i.size, i.bytes)) = some (some (.bool false), 1, 1) := by kernel_rfl
abbrev bo (x : Bool) : Value := .bool x
def Boos (w : World) (B : Nat) (A : Option Addr) (xs : List Bool) : Prop := Sl w B 1 A xs.length (xs.map bo)
def OwnBoo (w : World) (base : Nat) (v : Value) (xs : List Bool) : Prop := w.ownsRow base 4 1 v xs.length (xs.map bo)
section
variable {w w' : World} {B B' base n : Nat} {A : Option Addr} {v : Value} {xs : List Bool}
theorem Boos.below (h : Boos w B A xs) (hb : Below B w w') : Boos w' B A xs := Sl.below h hb
theorem Boos.below' (h : Boos w B A xs) (hb : Below B' w w') (hB : B ≤ B') : Boos w' B A xs := Sl.below' h hb hB
theorem Boos.drewN (h : Boos w B A xs) (k : Nat) : Boos (w.drewN k) B A xs := h
theorem Boos.drew (h : Boos w B A xs) : Boos w.drew B A xs := h
theorem Boos.alloc (h : Boos w B A xs) (hB : B ≤ w.heap.size) (o : Obj) : Boos (w.alloc o) B A xs := Sl.alloc h hB o
theorem Boos.more (h : Boos w B A xs) (hB : B ≤ B') : Boos w B' A xs := Sl.more h hB
theorem Boos.cell {k : Nat} (h : Boos w B A xs) (hk : k < xs.length) : ∃ ad, A = some ad ∧ ad.block < B ∧ w.cell? (ad.add k) = some (bo xs[k]) := by
  obtain ⟨ad, u, e, hb, hx, hc⟩ := h.cell1 hk
  rw [List.getElem?_map, List.getElem?_eq_getElem hk] at hx
  cases hx
  exact ⟨ad, e, hb, hc⟩
theorem OwnBoo.form (h : OwnBoo w base v xs) : (v = .slice none 0 0 ∧ xs = []) ∨ ∃ g cap, v = .slice (some ⟨g, 0, none⟩) xs.length cap ∧ base ≤ g ∧ g < w.heap.size := by
  rcases h.2 with ⟨h1, h2⟩ | ⟨g, cap, cur, hv, hb, hh, _⟩
  · exact .inl ⟨h1, List.eq_nil_of_length_eq_zero h2⟩
  · refine .inr ⟨g, cap, hv, hb, ?_⟩
    rcases Nat.lt_or_ge g w.heap.size with hlt | hge
    · exact hlt
    · rw [Array.getElem?_eq_none hge] at hh; cases hh
theorem OwnBoo.reads (h : OwnBoo w base v xs) : ∃ A c, v = .slice A xs.length c ∧ Boos w w.heap.size A xs := by
  rcases h.form with ⟨rfl, rfl⟩ | ⟨g, cap, rfl, hb, hg⟩
  · exact ⟨none, 0, rfl, Sl.nil _ _ _ _⟩
  · exact ⟨_, cap, rfl, by simp, fun _ => ⟨_, rfl, hg, fun j u hu => by have := World.ownsRow.cells h (g := g) rfl j u hu; exact this⟩⟩
end
theorem madeBoo (n : Nat) : (madeCells (.bool false : Value).cells (n * 1)).toList = (List.replicate n false).map bo := by
  rw [Nat.mul_one]
  show (madeCells #[.bool false] n).toList = _
  rw [toList_madeCells_one, List.map_replicate]
def filledBoo (xs : List Bool) (k : Nat) : List Bool := xs.take k ++ (List.replicate xs.length false).drop k
theorem filledBoo_len (xs : List Bool) (k : Nat) : (filledBoo xs k).length = xs.length := by unfold filledBoo; simp; omega
theorem filledBoo_0 (xs : List Bool) : filledBoo xs 0 = List.replicate xs.length false := by simp [filledBoo]
theorem filledBoo_end (xs : List Bool) (k : Nat) (h : ¬ k < xs.length) : filledBoo xs k = xs := by unfold filledBoo; rw [List.take_of_length_le (by omega), List.drop_eq_nil_of_le (by simp; omega)]; simp
theorem filledBoo_step (xs : List Bool) (k : Nat) (h : k < xs.length) : (filledBoo xs k).set k xs[k] = filledBoo xs (k + 1) := take_set xs k _ h (by simp)

set_option maxHeartbeats 400000 in
theorem toBoolS_any (A : Option Addr) (c : Nat) (xs : List Bool) (w : World) (B : Nat) (hB : B ≤ w.heap.size) (hx : Boos w B A xs) (hm : xs.length ≤ 1048576) :
    Calls Try.prog 39 #[.slice A xs.length c] w fun e w' => ∃ g, e = .returned (.slice (some ⟨g, 0, none⟩) xs.length xs.length) ∧ w.heap.size ≤ g ∧ g < w'.heap.size ∧ OwnBoo w' w.heap.size (.slice (some ⟨g, 0, none⟩) xs.length xs.length) xs ∧ Below w.heap.size w w' := by
  obtain ⟨i0, hi, hz0, hz1, hz2⟩ := info_parts infoBoo
  go_enter Try.func39, Try.ntmps39
  go_wp2_with (at_make; refine wpList_make_full _ rfl _ _ 64 rfl w.heap.size 4 i0 (.bool false) 1 Try.underlying64 hi hz0 hz1 .i64 .i64 _ _ xs.length rfl rfl rfl rfl (by rw [hz2]; omega) (by unfold maxLen; omega) (Nat.le_refl _) ?_; intro w0 hown hg)
  rw [madeBoo, ← filledBoo_0] at hown
  have hb0 : Below w.heap.size w w0 := (Below.refl _ _).grown hg (Nat.le_refl _) (by simp)
  have HO := Lib.hid hown; clear hown
  have HB0 := Lib.hid hb0; clear hb0 hg hi hz0 hz1 hz2
  go_loopw [4] (fun i wr => ∃ k : Nat, k ≤ xs.length ∧ i = .int .i64 k ∧ wr.ownsRow w.heap.size 4 1 (.slice (some ⟨w.heap.size, 0, none⟩) xs.length xs.length) xs.length ((filledBoo xs k).map bo) ∧ Below w.heap.size w wr) (fun i _ => xs.length - (intOf i).toNat)
  case atStart => exact ⟨0, Nat.zero_le _, rfl, HO.out, HB0.out⟩
  case round =>
    obtain ⟨k, hk, rfl, hown, hb⟩ := hrel
    by_cases hlt : k < xs.length
    · obtain ⟨ad, rfl, hadB, hcell⟩ := (hx.below' hb hB).cell hlt
      have hfl := filledBoo_len xs k
      obtain ⟨v0, hc1⟩ : ∃ v0, wr.cell? ⟨w.heap.size, k, none⟩ = some v0 :=
        ⟨bo ((filledBoo xs k)[k]'(by omega)), by rw [World.ownsRow.cellAt hown k (by omega), List.getElem?_map, List.getElem?_eq_getElem (by omega)]; rfl⟩
      have hf1 : wr.frozen? ⟨w.heap.size, k, none⟩ = false := World.ownsRow.frozenAt hown k
      have hst := (World.ownsRow.stored hown k (bo xs[k])).1
      rw [← List.map_set, filledBoo_step xs k hlt] at hst
      have HS := Lib.hid hst; clear hst hown
      have HB := Lib.hid hb; clear hb
      have HX := Lib.hid hx; clear hx
      clear hfl
      go_wp2
      go_roundw
      case rel => exact ⟨k + 1, by omega, by go_num, HS.out, HB.out.setCell (by simp) _⟩
      case measure => simp [intOf]; omega
    · rw [filledBoo_end xs k hlt] at hown
      have HS := Lib.hid hown; clear hown
      have HB := Lib.hid hb; clear hb
      go_wp2
      go_ret
      exact ⟨_, rfl, Nat.le_refl _, (World.ownsRow.lt HS.out _ rfl).2, HS.out, HB.out⟩

set_option maxHeartbeats 1000000 in
theorem eqBoolS_yes (A A' : Option Addr) (c c' : Nat) (xs : List Bool) (w : World) (B B' : Nat) (hx : Boos w B A xs) (hy : Boos w B' A' xs) (hm : xs.length ≤ 1048576) :
    Calls Try.prog 43 #[.slice A xs.length c, .slice A' xs.length c'] w fun e w' => e = .returned (.bool true) ∧ ∃ n, w' = w.drewN n := by
  go_enter Try.func43, Try.ntmps43
  go_wp2
  go_loopw [5] (fun i wr => ∃ k n : Nat, k ≤ xs.length ∧ i = .int .i64 k ∧ wr = w.drewN n) (fun i _ => xs.length - (intOf i).toNat)
  case atStart => exact ⟨0, 0, Nat.zero_le _, rfl, rfl⟩
  case round =>
    obtain ⟨k, n, hk, rfl, hwr⟩ := hrel
    by_cases hlt : k < xs.length
    · obtain ⟨ad, rfl, hadB, hcell⟩ := (show Boos wr B A xs by rw [hwr]; exact hx).cell hlt
      obtain ⟨ad', rfl, hadB', hcell'⟩ := (show Boos wr B' A' xs by rw [hwr]; exact hy).cell hlt
      have HW := Lib.hid hwr; clear hwr
      have HX := Lib.hid hx; clear hx
      have HY := Lib.hid hy; clear hy
      have hne : (xs[k] != xs[k]) = false := by simp
      go_wp2
      go_quiet (fail)
      go_wp2
      go_roundw
      case rel => exact ⟨k + 1, _, by omega, by go_num, by rw [HW.out, World.drewN_drewN]⟩
      case measure => simp [intOf]; omega
    · go_wp2
      go_ret
      exact ⟨rfl, n, rfl⟩

set_option maxHeartbeats 1000000 in
theorem markBoolS_any (v : Value) (xs : List Bool) (k : Nat) (w : World) (base hi : Nat) (ho : OwnBoo w base v xs) (hh : ∀ g, v.ownBlock = some g → g < hi) (hm : xs.length ≤ 1048576) (h0 : 0 < k) (hk : k + xs.length ≤ 4398046511104) :
    Calls Try.prog 45 #[v, .int .i64 k] w fun e w' => e = .returned (.int .i64 (k + xs.length : Nat)) ∧ Only base hi w w' := by
  rcases ho.form with ⟨rfl, rfl⟩ | ⟨g, cap, rfl, hb, hg⟩
  · go_enter Try.func45, Try.ntmps45
    go_wp2
    go_loopw [1, 5] (fun i j wr => i = .int .i64 k ∧ j = .int .i64 0 ∧ wr = w) (fun _ _ _ => 0)
    case atStart => exact ⟨rfl, rfl, rfl⟩
    case round =>
      obtain ⟨rfl, rfl, rfl⟩ := hrel
      go_wp2
      go_ret
      exact ⟨rfl, Only.refl _ _ _⟩
  · have hgh := hh g rfl
    have HO := Lib.hid ho; clear ho hh
    go_enter Try.func45, Try.ntmps45
    go_wp2
    go_loopw [1, 5] (fun i j wr => ∃ (n : Nat) (ys : List Value), n ≤ xs.length ∧ i = .int .i64 (k + n : Nat) ∧ j = .int .i64 n ∧ wr.ownsRow base 4 1 (.slice (some ⟨g, 0, none⟩) xs.length cap) xs.length ys ∧ Only base hi w wr) (fun _ j _ => xs.length - (intOf j).toNat)
    case atStart => exact ⟨0, _, Nat.zero_le _, rfl, rfl, HO.out, Only.refl _ _ _⟩
    case round =>
      obtain ⟨n, ys, hn, rfl, rfl, hown, hon⟩ := hrel
      by_cases hlt : n < xs.length
      · have hyl := hown.1
        have hc1 : wr.cell? ⟨g, n, none⟩ = some (ys[n]'(by omega)) := by rw [World.ownsRow.cellAt hown n (by omega), List.getElem?_eq_getElem]
        have hf1 : wr.frozen? ⟨g, n, none⟩ = false := World.ownsRow.frozenAt hown n
        have hst := fun u => (World.ownsRow.stored hown n u).1
        have HS := Lib.hid hst; clear hst hown
        have HN := Lib.hid hon; clear hon
        go_wp2
        all_goals
          go_roundw
          case rel => exact ⟨n + 1, _, by omega, by go_num, by go_num, HS.out _, HN.out.setCell hb hgh _⟩
          case measure => simp [intOf]; omega
      · have HN := Lib.hid hon; clear hon hown
        go_wp2
        go_ret
        exact ⟨ret_int (by rw [show n = xs.length by omega]), HN.out⟩
end Go.Proofs.Ythmkbgiandncnaa
