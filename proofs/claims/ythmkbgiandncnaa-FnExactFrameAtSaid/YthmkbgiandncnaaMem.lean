/- Memory for the walks: a slice that reads as a list of cells; what is kept from world to world. -/
import Derived.Test.YthmkbgiandncnaaFlo
import Derived.Below
import Derived.Lib.Hide
import Derived.Laws.OwnMore
import Derived.Deep.AppendLies
namespace Go.Proofs.Ythmkbgiandncnaa
open Go.RowKit

theorem ret_bool {a b : Bool} (h : a = b) : Ending.returned (.bool a) = .returned (.bool b) := by rw [h]
theorem ret_int {k : IntKind} {a b : Int} (h : a = b) : Ending.returned (.int k a) = .returned (.int k b) := by rw [h]
theorem arF_num {op : BinOp} {k : FloatKind} {r x y : Nat} (h : canF k r = arF op k x y) : canF k r = canF k (arF op k x y) := by rw [canF_arF, h]
theorem wide_num' {r x : Nat} (h : canF .f64 r = wide x) : canF .f64 r = canF .f64 (wide x) := by rw [canF_wide, h]
theorem lt_of_some {α : Type} {l : List α} {i : Nat} {a : α} (h : l[i]? = some a) : i < l.length := (List.getElem?_eq_some_iff.1 h).1

/-! ### lists -/
theorem all_take_succ {α : Type} (p : α → Bool) (xs : List α) (k : Nat) (h : k < xs.length) : (xs.take (k + 1)).all p = ((xs.take k).all p && p xs[k]) := by
  rw [List.take_succ_eq_append_getElem h, List.all_append]; simp only [List.all_cons, List.all_nil, Bool.and_true]
theorem all_step {α : Type} {p : α → Bool} {xs : List α} {k : Nat} {h : k < xs.length} (h1 : (xs.take k).all p = true) (h2 : p xs[k] = true) : (xs.take (k + 1)).all p = true := by
  rw [all_take_succ p xs k h, h1, h2]; rfl
theorem all_no {α : Type} {p : α → Bool} {xs : List α} {k : Nat} {h : k < xs.length} (h2 : p xs[k] = false) : xs.all p = false := by
  rw [List.all_eq_false]; exact ⟨_, List.getElem_mem h, by simp [h2]⟩
theorem all_end {α : Type} {p : α → Bool} {xs : List α} {k : Nat} (h1 : (xs.take k).all p = true) (h : ¬ k < xs.length) : xs.all p = true := by
  rwa [List.take_of_length_le (by omega)] at h1

/-- the index of the first that fits, -1 if none does -/
def idx {α : Type} (p : α → Bool) (xs : List α) : Int := match xs.findIdx? p with | some i => i | none => -1
theorem idx_hit {α : Type} {p : α → Bool} {xs : List α} {k : Nat} (hk : k < xs.length) (h1 : (xs.take k).any p = false) (h2 : p xs[k] = true) : idx p xs = k := by
  have : xs.findIdx? p = some k := by
    rw [List.findIdx?_eq_some_iff_getElem]
    refine ⟨hk, h2, fun j hj => ?_⟩
    rw [List.any_eq_false] at h1
    exact h1 _ (by rw [List.mem_take_iff_getElem]; exact ⟨j, by omega, rfl⟩)
  unfold idx; rw [this]
theorem idx_none {α : Type} {p : α → Bool} {xs : List α} (h1 : xs.any p = false) : idx p xs = -1 := by
  have : xs.findIdx? p = none := by
    rw [List.findIdx?_eq_none_iff]
    intro x hx
    rw [List.any_eq_false] at h1
    simpa using h1 x hx
  unfold idx; rw [this]
theorem idx_cases {α : Type} (p : α → Bool) (xs : List α) : (idx p xs = -1 ∧ xs.any p = false) ∨ ∃ (k : Nat) (hk : k < xs.length), idx p xs = k ∧ xs.any p = true ∧ p xs[k] = true := by
  cases h : xs.findIdx? p with
  | none =>
    left
    refine ⟨by unfold idx; rw [h], ?_⟩
    rw [List.findIdx?_eq_none_iff] at h
    rw [List.any_eq_false]; intro x hx; simp [h x hx]
  | some k =>
    right
    have h' := h
    rw [List.findIdx?_eq_some_iff_getElem] at h'
    obtain ⟨hk, hp, _⟩ := h'
    exact ⟨k, hk, by unfold idx; rw [h], List.any_eq_true.2 ⟨_, List.getElem_mem hk, hp⟩, hp⟩
theorem any_take_succ {α : Type} {p : α → Bool} {xs : List α} {k : Nat} (h : k < xs.length) (h1 : (xs.take k).any p = false) (h2 : p xs[k] = false) : (xs.take (k + 1)).any p = false := by
  rw [List.take_succ_eq_append_getElem h, List.any_append, h1]; simp [h2]
theorem any_end {α : Type} {p : α → Bool} {xs : List α} {k : Nat} (h1 : (xs.take k).any p = false) (h : ¬ k < xs.length) : xs.any p = false := by
  rwa [List.take_of_length_le (by omega)] at h1

/-! ### addresses -/
theorem add_zero' (a : Addr) : a.add 0 = a := by simp [Addr.add]
theorem add_block (a : Addr) (n : Nat) : (a.add n).block = a.block := by unfold Addr.add; split <;> rfl
theorem add_add' (a : Addr) (i j : Nat) : (a.add i).add j = a.add (i + j) := by
  unfold Addr.add
  by_cases hi : i = 0 <;> by_cases hj : j = 0 <;> simp [hi, hj, Nat.add_assoc]

/-- the cells from an address on -/
def At (w : World) (ad : Addr) (xs : List Value) : Prop := ∀ j u, xs[j]? = some u → w.cell? (ad.add j) = some u
/-- a slice's address, below block B, where n elements of sz cells lie -/
def Sl (w : World) (B sz : Nat) (A : Option Addr) (n : Nat) (xs : List Value) : Prop :=
  xs.length = n * sz ∧ (0 < n → ∃ ad, A = some ad ∧ ad.block < B ∧ At w ad xs)

section keeps
variable {w w' : World} {B B' sz n : Nat} {A : Option Addr} {ad : Addr} {xs ys : List Value}
theorem At.keep (h : At w ad xs) (hk : ∀ p : Addr, p.block = ad.block → w'.cell? p = w.cell? p) : At w' ad xs := fun j u hu => (hk _ (add_block _ _)).trans (h j u hu)
theorem At.below (h : At w ad xs) (hb : Below B w w') (hB : ad.block < B) : At w' ad xs := h.keep fun _ hp => hb.cell (hp ▸ hB)
theorem At.drewN (h : At w ad xs) (n : Nat) : At (w.drewN n) ad xs := h
theorem At.app (h : At w ad (xs ++ ys)) : At w ad xs ∧ At w (ad.add xs.length) ys := by
  refine ⟨fun j u hu => h j u ?_, fun j u hu => ?_⟩
  · rw [List.getElem?_append_left (lt_of_some hu)]; exact hu
  · rw [add_add']; exact h _ u (by rw [List.getElem?_append_right (by omega), Nat.add_sub_cancel_left]; exact hu)
theorem At.of_app (h : At w ad xs) (h' : At w (ad.add xs.length) ys) : At w ad (xs ++ ys) := by
  intro j u hu
  rcases Nat.lt_or_ge j xs.length with hj | hj
  · rw [List.getElem?_append_left hj] at hu; exact h j u hu
  · rw [List.getElem?_append_right hj] at hu
    have := h' _ u hu
    rwa [add_add', Nat.add_sub_cancel' hj] at this
theorem Sl.keep (h : Sl w B sz A n xs) (hk : ∀ p : Addr, p.block < B → w'.cell? p = w.cell? p) : Sl w' B sz A n xs :=
  ⟨h.1, fun hn => let ⟨ad, e, hb, hc⟩ := h.2 hn; ⟨ad, e, hb, hc.keep fun p hp => hk p (hp ▸ hb)⟩⟩
theorem Sl.more (h : Sl w B sz A n xs) (hB : B ≤ B') : Sl w B' sz A n xs :=
  ⟨h.1, fun hn => let ⟨ad, e, hb, hc⟩ := h.2 hn; ⟨ad, e, by omega, hc⟩⟩
theorem Sl.below (h : Sl w B sz A n xs) (hb : Below B w w') : Sl w' B sz A n xs := h.keep fun _ hp => hb.cell hp
theorem Sl.below' (h : Sl w B sz A n xs) (hb : Below B' w w') (hB : B ≤ B') : Sl w' B sz A n xs := h.keep fun _ hp => hb.cell (by omega)
theorem Sl.drewN (h : Sl w B sz A n xs) (k : Nat) : Sl (w.drewN k) B sz A n xs := h
theorem Sl.drew (h : Sl w B sz A n xs) : Sl w.drew B sz A n xs := h
theorem Sl.alloc (h : Sl w B sz A n xs) (hB : B ≤ w.heap.size) (o : Obj) : Sl (w.alloc o) B sz A n xs := h.keep fun p hp => World.cell?_alloc_lt w o p (by omega)
theorem Sl.setCell (h : Sl w B sz A n xs) {p : Addr} (hB : B ≤ p.block) (u : Value) : Sl (w.setCell p u) B sz A n xs :=
  h.keep fun q hq => World.cell?_setCell_other w p q u (fun e => by subst e; omega)
theorem Sl.nil (w : World) (B sz : Nat) (A : Option Addr) : Sl w B sz A 0 [] := ⟨by simp, fun h => absurd h (by omega)⟩
theorem Sl.cell1 {k : Nat} (h : Sl w B 1 A n xs) (hk : k < n) : ∃ ad u, A = some ad ∧ ad.block < B ∧ xs[k]? = some u ∧ w.cell? (ad.add k) = some u := by
  obtain ⟨ad, e, hb, hc⟩ := h.2 (by omega)
  have hl : k < xs.length := by have := h.1; omega
  exact ⟨ad, xs[k], e, hb, List.getElem?_eq_getElem hl, hc k _ (List.getElem?_eq_getElem hl)⟩
end keeps

theorem bool_of {P : Program} {f : FuncId} {args : Array Value} {w : World} {a b : Bool} {R : World → Prop} (h : Calls P f args w fun e w' => e = .returned (.bool a) ∧ R w') (hab : a = b) :
    Calls P f args w fun e w' => e = .returned (.bool b) ∧ R w' := hab ▸ h

/-! ### worlds after draws, and others -/
theorem drewN_below {B : Nat} {w w' : World} (h : Below B w w') (n : Nat) : Below B w (w'.drewN n) := ⟨h.os, h.tape, h.output, h.size, h.block⟩
theorem below_of_drewN {B : Nat} {w w' : World} {n : Nat} (h : Below B (w.drewN n) w') : Below B w w' := ⟨h.os, h.tape, h.output, h.size, h.block⟩
theorem below_drewN (B : Nat) (w : World) (n : Nat) : Below B w (w.drewN n) := drewN_below (Below.refl _ _) n

theorem bl_a (w : World) (o : Obj) : Below w.heap.size w (w.alloc o) := (Below.refl _ _).alloc (Nat.le_refl _) o
theorem bl_ad (w : World) (o : Obj) (n : Nat) : Below w.heap.size w ((w.alloc o).drewN n) := drewN_below (bl_a w o) n

theorem bl_step {w w1 w2 : World} (h : Below w.heap.size w w1) (h2 : Below w1.heap.size w1 w2) : Below w.heap.size w w2 := h.trans (h2.mono h.size)
/-- a block that was laid in the beginning, cell by cell, in every later world -/
theorem box_cell {w w1 : World} {cs : Array Value} {t : TypeId} {fz : Nat × Nat} {j : Nat} {v : Value} (h : Below (w.heap.size + 1) (w.alloc (.cells cs t fz)) w1) (hv : cs[j]? = some v) : w1.cell? ⟨w.heap.size, j, none⟩ = some v := by
  rw [h.cell (by simp)]
  show (match (w.heap.push (.cells cs t fz))[w.heap.size]? with | some (.cells c _ _) => _ | _ => _) = _
  rw [Array.getElem?_push, if_pos rfl]
  exact hv
theorem box_first {w w1 : World} {o : Obj} (h : Below (w.alloc o).heap.size (w.alloc o) w1) : Below (w.heap.size + 1) (w.alloc o) w1 := h.mono (by simp)
theorem box_next {w w1 w2 : World} {o : Obj} (h : Below (w.heap.size + 1) (w.alloc o) w1) (h2 : Below w1.heap.size w1 w2) : Below (w.heap.size + 1) (w.alloc o) w2 := h.trans (h2.mono (by have := h.size; simpa using this))
theorem box_done {w w1 : World} {o : Obj} (h : Below (w.heap.size + 1) (w.alloc o) w1) : Below w.heap.size w w1 := (bl_a w o).trans (h.mono (by omega))
theorem box_size {w w1 : World} {o : Obj} (h : Below (w.heap.size + 1) (w.alloc o) w1) : w.heap.size + 1 ≤ w1.heap.size := by have := h.size; simpa using this

/-! ### a slice of float32 -/
abbrev fl (x : Nat) : Value := .float .f32 x
def Fs (w : World) (B : Nat) (A : Option Addr) (xs : List Nat) : Prop := Sl w B 1 A xs.length (xs.map fl)
section
variable {w w' : World} {B B' : Nat} {A : Option Addr} {xs : List Nat}
theorem Fs.alloc (h : Fs w B A xs) (hB : B ≤ w.heap.size) (o : Obj) : Fs (w.alloc o) B A xs := Sl.alloc h hB o
theorem Fs.below (h : Fs w B A xs) (hb : Below B w w') : Fs w' B A xs := Sl.below h hb
theorem Fs.below' (h : Fs w B A xs) (hb : Below B' w w') (hB : B ≤ B') : Fs w' B A xs := Sl.below' h hb hB
theorem Fs.drewN (h : Fs w B A xs) (k : Nat) : Fs (w.drewN k) B A xs := h
theorem Fs.drew (h : Fs w B A xs) : Fs w.drew B A xs := h
theorem Fs.more (h : Fs w B A xs) (hB : B ≤ B') : Fs w B' A xs := Sl.more h hB
theorem Fs.setCell (h : Fs w B A xs) {p : Addr} (hB : B ≤ p.block) (u : Value) : Fs (w.setCell p u) B A xs := Sl.setCell h hB u
end
theorem Fs.cell {w : World} {B : Nat} {A : Option Addr} {xs : List Nat} {k : Nat} (h : Fs w B A xs) (hk : k < xs.length) : ∃ ad, A = some ad ∧ ad.block < B ∧ w.cell? (ad.add k) = some (fl xs[k]) := by
  obtain ⟨ad, u, e, hb, hx, hc⟩ := h.cell1 hk
  rw [List.getElem?_map, List.getElem?_eq_getElem hk] at hx
  cases hx
  exact ⟨ad, e, hb, hc⟩
end Go.Proofs.Ythmkbgiandncnaa
