/- The laws' marks: lists of numbers. -/
import Derived.Test.YthmkbgiandncnaaToD
import Derived.Test.YthmkbgiandncnaaEq
namespace Go.Proofs.Ythmkbgiandncnaa
open Go.RowKit

/-- from world to world nothing below the heap's old end has turned but blocks of [lo, hi) -/
structure Only (lo hi : Nat) (w w' : World) : Prop where
  os : w'.os = w.os
  tape : w'.tape = w.tape
  output : w'.output = w.output
  size : w.heap.size ≤ w'.heap.size
  block : ∀ k, k < w.heap.size → (k < lo ∨ hi ≤ k) → w'.heap[k]? = w.heap[k]?
section
variable {lo hi : Nat} {w w' w'' : World}
theorem Only.refl (lo hi : Nat) (w : World) : Only lo hi w w := ⟨rfl, rfl, rfl, Nat.le_refl _, fun _ _ _ => rfl⟩
theorem Only.trans (h : Only lo hi w w') (k : Only lo hi w' w'') : Only lo hi w w'' :=
  ⟨k.os.trans h.os, k.tape.trans h.tape, k.output.trans h.output, Nat.le_trans h.size k.size, fun j hj hb => (k.block j (Nat.lt_of_lt_of_le hj h.size) hb).trans (h.block j hj hb)⟩
theorem Only.of_below (h : Below w.heap.size w w') : Only lo hi w w' := ⟨h.os, h.tape, h.output, h.size, fun j hj _ => h.block j hj⟩
theorem Only.below (h : Only lo hi w w') (hl : lo ≤ w.heap.size) : Below lo w w' := ⟨h.os, h.tape, h.output, h.size, fun j hj => h.block j (by omega) (.inl hj)⟩
theorem Only.more {lo' hi' : Nat} (h : Only lo hi w w') (hl : lo' ≤ lo) (hh : hi ≤ hi') : Only lo' hi' w w' := ⟨h.os, h.tape, h.output, h.size, fun j hj hb => h.block j hj (by omega)⟩
theorem Only.setCell (h : Only lo hi w w') {a : Addr} (h1 : lo ≤ a.block) (h2 : a.block < hi) (u : Value) : Only lo hi w (w'.setCell a u) := by
  refine h.trans ⟨rfl, rfl, rfl, ?_, fun k _ hb => Below.heap_setCell w' a u k (by omega)⟩
  exact ((Below.refl 0 w').setCell (Nat.zero_le _) u).size
/-- what is owned in blocks outside -/
theorem own_only {base e sz n : Nat} {v : Value} {ys : List Value} (h : w.ownsRow base e sz v n ys) (ho : Only lo hi w w') (hv : ∀ k, v.ownBlock = some k → k < lo ∨ hi ≤ k) : w'.ownsRow base e sz v n ys := by
  refine ⟨h.1, ?_⟩
  rcases h.2 with h2 | ⟨g, cap, cur, rfl, hg, hh, r⟩
  · exact .inl h2
  · have hlt : g < w.heap.size := by
      rcases Nat.lt_or_ge g w.heap.size with hlt | hge
      · exact hlt
      · rw [Array.getElem?_eq_none hge] at hh; cases hh
    exact .inr ⟨g, cap, cur, rfl, hg, by rw [ho.block g hlt (hv g rfl)]; exact hh, r⟩
end

/-- float32(k), and on -/
def mrk (k : Nat) : Nat := floatOfInt .f32 (k : Int)
def marks (k n : Nat) : List Nat := (List.range n).map fun i => mrk (k + i)
/-- the first j numbers are marked -/
def marked (xs : List Nat) (k j : Nat) : List Nat := marks k j ++ xs.drop j
theorem marks_len (k n : Nat) : (marks k n).length = n := by simp [marks]
theorem marked_len (xs : List Nat) (k j : Nat) (h : j ≤ xs.length) : (marked xs k j).length = xs.length := by simp [marked, marks_len]; omega
theorem marked_0 (xs : List Nat) (k : Nat) : marked xs k 0 = xs := by simp [marked, marks]
theorem marked_end (xs : List Nat) (k j : Nat) (h : j = xs.length) : marked xs k j = marks k xs.length := by subst h; simp [marked]
theorem marked_step (xs : List Nat) (k j : Nat) (h : j < xs.length) : (marked xs k j).set j (mrk (k + j)) = marked xs k (j + 1) := by
  unfold marked marks
  rw [List.set_append_right _ _ (by simp), List.drop_eq_getElem_cons h, List.length_map, List.length_range, Nat.sub_self, List.set_cons_zero, List.range_succ, List.map_append, List.append_assoc]
  rfl

set_option maxHeartbeats 1000000 in
theorem markFloat32S_any (v : Value) (xs : List Nat) (k : Nat) (w : World) (base hi : Nat) (ho : OwnF w base v xs) (hh : ∀ g, v.ownBlock = some g → g < hi) (hm : xs.length ≤ 1048576) (hk : k ≤ 4398046511104) :
    Calls Try.prog 46 #[v, .int .i64 k] w fun e w' => e = .returned (.int .i64 (k + xs.length : Nat)) ∧ OwnF w' base v (marks k xs.length) ∧ Only base hi w w' := by
  rcases ho.form with ⟨rfl, rfl⟩ | ⟨g, cap, rfl, hb, hg⟩
  · go_enter Try.func46, Try.ntmps46
    go_wp2
    go_loopw [1, 5] (fun i j wr => i = .int .i64 k ∧ j = .int .i64 0 ∧ wr = w) (fun _ _ _ => 0)
    case atStart => exact ⟨rfl, rfl, rfl⟩
    case round =>
      obtain ⟨rfl, rfl, rfl⟩ := hrel
      go_wp2
      go_ret
      exact ⟨rfl, ho, Only.refl _ _ _⟩
  · have hgh := hh g rfl
    have HO := Lib.hid ho; clear ho hh
    go_enter Try.func46, Try.ntmps46
    go_wp2
    go_loopw [1, 5] (fun i j wr => ∃ n : Nat, n ≤ xs.length ∧ i = .int .i64 (k + n : Nat) ∧ j = .int .i64 n ∧ wr.ownsRow base 29 1 (.slice (some ⟨g, 0, none⟩) xs.length cap) xs.length ((marked xs k n).map fl) ∧ Only base hi w wr) (fun _ j _ => xs.length - (intOf j).toNat)
    case atStart => exact ⟨0, Nat.zero_le _, rfl, rfl, by rw [marked_0]; exact HO.out, Only.refl _ _ _⟩
    case round =>
      obtain ⟨n, hn, rfl, rfl, hown, hon⟩ := hrel
      by_cases hlt : n < xs.length
      · have hfl := marked_len xs k n hn
        obtain ⟨v0, hc1⟩ : ∃ v0, wr.cell? ⟨g, n, none⟩ = some v0 :=
          ⟨fl ((marked xs k n)[n]'(by omega)), by rw [World.ownsRow.cellAt hown n (by omega), List.getElem?_map, List.getElem?_eq_getElem (by omega)]; rfl⟩
        have hf1 : wr.frozen? ⟨g, n, none⟩ = false := World.ownsRow.frozenAt hown n
        have hst := (World.ownsRow.stored hown n (fl (mrk (k + n)))).1
        rw [← List.map_set, marked_step xs k n hlt] at hst
        have HS := Lib.hid hst; clear hst hown
        have HN := Lib.hid hon; clear hon
        clear hfl
        go_wp2
        go_roundw
        case rel => exact ⟨n + 1, by omega, by go_num, by go_num, HS.out, HN.out.setCell hb hgh _⟩
        case measure => simp [intOf]; omega
      · rw [marked_end xs k n (by omega)] at hown
        have HS := Lib.hid hown; clear hown
        have HN := Lib.hid hon; clear hon
        go_wp2
        go_ret
        refine ⟨ret_int (by rw [show n = xs.length by omega]), ?_, HN.out⟩
        have := HS.out
        unfold OwnF
        rw [marks_len]; exact this

theorem word_num (s : Bool) (r : Nat) (hr : r ≤ 2139095040) : nanB .f32 (FloatKind.f32.format.word s r) = false := by
  have e : FloatKind.f32.format.word s r = if s then 2147483648 + r else r := rfl
  have h2 : (if s then 2147483648 + r else r) % 2147483648 = r := by cases s <;> simp <;> omega
  rw [e]
  generalize (if s then 2147483648 + r else r) = x at h2
  unfold nanB FloatKind.decode
  have e : FloatKind.f32.format.read x = (if x % 2147483648 < 8388608 then Ieee.Datum.number (x / 2147483648 % 2 == 1) (x % 2147483648) (-149)
    else if x % 2147483648 < 2139095040 then .number (x / 2147483648 % 2 == 1) (8388608 + x % 2147483648 % 8388608) (-149 + (x % 2147483648 / 8388608 - 1 : Nat))
    else if x % 2147483648 = 2139095040 then .infinity (x / 2147483648 % 2 == 1) else .nan (x / 2147483648 % 2 == 1) (x % 2147483648 - 2139095040)) := rfl
  rw [e, h2]
  split
  · rfl
  · split
    · rfl
    · rw [if_pos (by omega)]; rfl
theorem mk_num (k : Nat) : nanB .f32 (mrk k) = false := by
  show nanB .f32 (FloatKind.f32.format.nearest _ _ _) = false
  unfold Ieee.Format.nearest
  split
  · exact word_num _ 0 (by omega)
  · exact word_num _ _ (Nat.le_trans (Nat.min_le_right _ _) (by decide +kernel))
theorem mk_eq (k : Nat) : eqF .f32 (mrk k) (mrk k) = true := by rw [eqF_self, mk_num]; rfl
theorem marks_get (k n j : Nat) (h : j < (marks k n).length) : (marks k n)[j] = mrk (k + j) := by simp [marks]

set_option maxHeartbeats 1000000 in
theorem heldFloat32S_any (A : Option Addr) (c n k : Nat) (w : World) (B : Nat) (hx : Fs w B A (marks k n)) (hm : n ≤ 1048576) (hk : k ≤ 4398046511104) :
    Calls Try.prog 47 #[.slice A n c, .int .i64 k] w fun e w' => e = .returned (.int .i64 (k + n : Nat)) ∧ w = w' := by
  have hl := marks_len k n
  go_enter Try.func47, Try.ntmps47
  go_wp2
  go_loopw [1, 5] (fun i j wr => ∃ r : Nat, r ≤ n ∧ i = .int .i64 (k + r : Nat) ∧ j = .int .i64 r ∧ wr = w) (fun _ j _ => n - (intOf j).toNat)
  case atStart => exact ⟨0, Nat.zero_le _, rfl, rfl, by trivial⟩
  case round =>
    obtain ⟨r, hr, rfl, rfl, rfl⟩ := hrel
    by_cases hlt : r < n
    · obtain ⟨ad, rfl, hadB, hcell⟩ := hx.cell (k := r) (by omega)
      rw [marks_get] at hcell
      have HX := Lib.hid hx; clear hx
      have he : eqF .f32 (mrk (k + r)) (floatOfInt .f32 ((k + r : Nat) : Int)) = true := mk_eq (k + r)
      have he2 : eqF .f32 (mrk (k + r)) (floatOfInt .f32 ((k : Int) + (r : Int))) = true := by rw [← Int.natCast_add]; exact he
      clear hl
      go_wp2
      go_roundw
      case rel => exact ⟨r + 1, by omega, by go_num, by go_num, by trivial⟩
      case measure => simp [intOf]; omega
    · go_wp2
      go_ret
      exact ⟨ret_int (by rw [show r = n by omega]), by trivial⟩
end Go.Proofs.Ythmkbgiandncnaa
