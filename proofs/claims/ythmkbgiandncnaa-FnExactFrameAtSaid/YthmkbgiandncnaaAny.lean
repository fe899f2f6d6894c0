/- A region that draws its order, whose first operations can only come in the order of the text and whose other operations are quiet. -/
import Derived.Test.YthmkbgiandncnaaMem
import Derived.Orders
import Derived.Deep.QuietTactic
import Derived.BigQuiet
namespace Go.Proofs.Ythmkbgiandncnaa
open Go.RowKit

/-- which operations have been done once the first n are -/
def doneTo (size n : Nat) : Array Bool := ((List.replicate n true) ++ (List.replicate (size - n) false)).toArray
/-- the first operations can only come one by one, in the order of the text -/
def forced (ops : Array Oper) : Nat → Nat → Bool
  | 0, _ => true
  | n + 1, k => (Region.ready .any ops (doneTo ops.size k) == [k]) && forced ops n (k + 1)
def behind (P : Program) (ops : Array Oper) (Q : Exit → Act → World → Prop) (fuel : Nat) (listed : Array Bool) : Exit → Act → World → Prop
  | .normal, a, w => wpAny P .any ops Q fuel listed a w
  | e, a, w => Q e a w

section
variable {P : Program} {ops : Array Oper} {Q : Exit → Act → World → Prop}
theorem wp_behind {fuel : Nat} {listed : Array Bool} {o : Oper} {a : Act} {w : World} {K : Act → World → Prop} (h : o.wp P a w K (behind P ops Q fuel listed)) : o.wp P a w K Q := by
  unfold Oper.wp at *
  generalize (execOp a.eval o).run P w = r at *
  cases r with
  | ok n w' =>
    cases n <;> simp only [Oper.upon] at h ⊢ <;>
      first
        | exact h
        | exact Calls.mono h (fun e w'' he => by
            cases e <;> first | exact he | (obtain ⟨a', w', hb⟩ := he; exact ⟨a', w', hb⟩))
  | halt x w' => cases x <;> simp only [Oper.upon] at h ⊢ <;> exact h

theorem doneTo_set (size k : Nat) (h : k < size) : (doneTo size k).setIfInBounds k true = doneTo size (k + 1) := by
  apply Array.ext'
  simp only [doneTo, Array.toList_setIfInBounds]
  apply List.ext_getElem?
  intro i
  rw [List.getElem?_set]
  simp only [List.getElem?_append, List.length_replicate, List.getElem?_replicate, List.length_append]
  by_cases h1 : k = i
  · subst h1
    have a1 : ¬ k < k := by omega
    have a2 : k < k + (size - k) := by omega
    simp [a2]
  · by_cases h2 : i < k
    · have : i < k + 1 := by omega
      simp [h1, h2, this]
    · have h3 : ¬ i < k + 1 := by omega
      by_cases h4 : i - k < size - k
      · have : i - (k + 1) < size - (k + 1) := by omega
        simp [h1, h2, h3, h4, this]
      · have : ¬ i - (k + 1) < size - (k + 1) := by omega
        simp [h1, h2, h3, h4, this]

theorem any_pre (fuel : Nat) : ∀ (l : List Oper) (k : Nat) (a : Act) (w : World), k + l.length ≤ ops.size → (∀ j o, l[j]? = some o → ops[k + j]? = some o) → forced ops l.length k = true →
    wpList P ops (behind P ops Q fuel (doneTo ops.size (k + l.length))) l a w → wpAny P .any ops Q (l.length + fuel) (doneTo ops.size k) a w
  | [], k, a, w, _, _, _, h => by simpa [wpList, behind] using h
  | o :: l, k, a, w, hk, hl, hf, h => by
    simp only [List.length_cons] at hk hf h ⊢
    simp only [forced, Bool.and_eq_true, beq_iff_eq] at hf
    have h0 : ops[k]? = some o := by have := hl 0 o rfl; simpa using this
    rw [show l.length + 1 + fuel = (l.length + fuel) + 1 from by omega]
    refine wpAny_all hf.1 (by simp) ?_
    intro i hi
    simp only [List.mem_singleton] at hi
    subst hi
    have next : ∀ a' w', wpList P ops (behind P ops Q fuel (doneTo ops.size (i + (l.length + 1)))) l a' w' → wpAny P .any ops Q (l.length + fuel) ((doneTo ops.size i).setIfInBounds i true) a' w' := by
      intro a' w' h'
      rw [doneTo_set _ _ (by omega)]
      refine any_pre fuel l (i + 1) a' w' (by omega) (fun j o hj => ?_) hf.2 ?_
      · have := hl (j + 1) o (by simpa using hj)
        rwa [show i + 1 + j = i + (j + 1) from by omega]
      · rwa [show i + 1 + l.length = i + (l.length + 1) from by omega]
    unfold wpOp
    simp only [h0]
    unfold wpList at h
    split at h
    · rename_i hw
      rw [if_pos hw]
      rcases h with h | ⟨h1, h2⟩
      · exact .inl (Oper.wp_mono next (wp_behind h))
      · exact .inr ⟨h1, h2⟩
    · rename_i hw
      rw [if_neg hw]
      exact next _ _ h

theorem any_quiet {C : World → Prop} {k : Nat} {l : List Oper} {a : Act} {w : World} (hs : Region.noSelect ops = true) (hl : ops.toList.drop k = l) (hB : Region.lexFrom .any ops l.length k (doneTo ops.size k) = true) (hC : C w)
    (h : wpQuiet P ops C (fun a' => ∀ w', C w' → Q .normal a' w') l a) : wpAny P .any ops Q l.length (doneTo ops.size k) a w :=
  wpAny_of_quiet (Q := fun a' => ∀ w', C w' → Q .normal a' w') (fun _ w' hw' h => h w' hw') _ _ _ _ hC
    (wpAnyQ_lex hs l k _ a (fun j => by rw [← hl]; simp [List.getElem?_drop]) hB h)

theorem wp_mono_q {o : Oper} {a : Act} {w : World} {K K' : Act → World → Prop} {Q' : Exit → Act → World → Prop} (hK : ∀ a w, K a w → K' a w) (hQ : ∀ e a w, Q e a w → Q' e a w) (h : o.wp P a w K Q) : o.wp P a w K' Q' := by
  unfold Oper.wp at *
  generalize (execOp a.eval o).run P w = r at *
  cases r with
  | ok n w' =>
    cases n <;> simp only [Oper.upon] at h ⊢ <;>
      first
        | exact hK _ _ h
        | exact Calls.mono h (fun e w'' he => by
            cases e <;> first | exact hK _ _ he | exact hQ _ _ _ he | (obtain ⟨a', w', hb⟩ := he; exact ⟨a', w', hQ _ _ _ hb⟩))
        | exact Rows.mono h (fun _ _ he => hK _ _ he)
  | halt x w' => cases x <;> simp only [Oper.upon] at h ⊢ <;> first | exact h | exact hQ _ _ _ h
theorem wpList_mono_q {Q' : Exit → Act → World → Prop} (hQ : ∀ e a w, Q e a w → Q' e a w) : ∀ (l : List Oper) (a : Act) (w : World), wpList P ops Q l a w → wpList P ops Q' l a w
  | [], a, w, h => hQ _ _ _ h
  | o :: l, a, w, h => by
    unfold wpList at h ⊢
    split at h
    · rename_i hw
      rw [if_pos hw]
      rcases h with h | ⟨h1, a', w', h2⟩
      · exact .inl (wp_mono_q (fun a w h => wpList_mono_q hQ l a w h) hQ h)
      · exact .inr ⟨h1, a', w', hQ _ _ _ h2⟩
    · rename_i hw
      rw [if_neg hw]
      exact wpList_mono_q hQ l _ _ h
/-- what is asked behind the first operations: that the others are quiet -/
@[irreducible] def preQ (P : Program) (l rest : List Oper) (Q : Exit → Act → World → Prop) : Exit → Act → World → Prop
  | .normal, a, w => wpQuiet P l.toArray (fun w1 => ∃ n, w1 = w.drewN n) (fun a' => ∀ w1, (∃ n, w1 = w.drewN n) → Q .normal a' w1) rest a
  | e, a, w => Q e a w

theorem preQ_normal {l rest : List Oper} {a : Act} {w : World} (h : wpQuiet P l.toArray (fun w1 => ∃ n, w1 = w.drewN n) (fun a' => ∀ w1, (∃ n, w1 = w.drewN n) → Q .normal a' w1) rest a) : preQ P l rest Q .normal a w := by
  unfold preQ; exact h
/-- the first m operations in the order of the text, then the others, which are quiet -/
theorem wp_region_pre (m : Nat) {id : Nat} {l : List Oper} {a : Act} {w : World} (hm : P.follows .mixedOrders = true) (hs : Region.noSelect l.toArray = true) (hml' : Nat.ble m l.length = true) (hf : forced l.toArray m 0 = true)
    (hB : Region.lexFrom .any l.toArray (l.drop m).length m (doneTo l.length m) = true)
    (h : wpList P l.toArray (preQ P l (l.drop m) Q) (l.take m) a w.drew) :
    (Code.region id l.toArray true).wp P Q a w := by
  have hml : m ≤ l.length := Nat.le_of_ble_eq_true hml'
  refine wp_region_any hm ?_
  have hz : (Array.replicate l.toArray.size false) = doneTo l.toArray.size 0 := by apply Array.ext'; simp [doneTo]
  have hlen : (l.take m).length = m := by simp; omega
  have hsz : l.toArray.size = m + (l.drop m).length := by simp; omega
  rw [hz]
  have key := any_pre (P := P) (ops := l.toArray) (Q := Q) (l.drop m).length (l.take m) 0 a { w with drawn := w.drawn + 1 } (by simp; omega) (fun j o hj => by
    have : j < m := by have := lt_of_some hj; omega
    rw [List.getElem?_take_of_lt this] at hj; simpa using hj) (by rw [hlen]; exact hf)
  rw [hlen, ← hsz] at key
  refine key (wpList_mono_q ?_ _ _ _ h)
  intro e a' w' he
  unfold preQ at he
  cases e with
  | normal =>
    show wpAny _ _ _ _ _ _ _ _
    rw [Nat.zero_add]
    exact any_quiet hs (by simp) (by simpa using hB) ⟨0, rfl⟩ he
  | _ => exact he
end
end Go.Proofs.Ythmkbgiandncnaa
