/- What came in, opened: lists of floats, sounds, desks; the last step of a law that only reads. -/
import Derived.Test.YthmkbgiandncnaaSam5
import Derived.ProofKit
import Derived.Lib.SmallJoins
namespace Go.Proofs.Ythmkbgiandncnaa
open Go.RowKit Go.ChangeShapes Go.WideShapes Go.ChangeAt

theorem Try.laidOut : laidOutB Try.prog = true := by kernel_rfl
theorem Try.own : ownKnob Try.prog.godebug = none := by kernel_rfl

section
variable {H : Type} {enc : TypeId × Value → H} {w : World} {spare : Nat → Bool} {held : Bool}

theorem g_float {P : Program} {t : TypeId} (ht : P.underlying t = some (.float .f32)) {fuel : Nat} {v : Value} {x : DataW H × List MemPlace} (h : DataW.trod enc P w 0 spare held fuel t [v] = some x) : ∃ b, v = fl b ∧ b < 4294967296 := by
  cases fuel with
  | zero => cases h
  | succ n =>
    unfold DataW.trod at h
    rw [ht] at h
    cases v <;> simp at h
    obtain ⟨⟨rfl, hw⟩, _⟩ := h
    exact ⟨_, rfl, by simpa [Lit.wf] using hw⟩
theorem g_string {P : Program} {t : TypeId} (ht : P.underlying t = some .string) {fuel : Nat} {v : Value} {x : DataW H × List MemPlace} (h : DataW.trod enc P w 0 spare held fuel t [v] = some x) : ∃ s : ByteArray, v = .string s ∧ s.size ≤ big := by
  cases fuel with
  | zero => cases h
  | succ n =>
    unfold DataW.trod at h
    rw [ht] at h
    cases v <;> simp at h
    exact ⟨_, rfl, h.1⟩
theorem in_float {fuel : Nat} {v : Value} {x : DataW H × List MemPlace} (h : DataW.trod enc Try.prog w 0 spare held fuel 29 [v] = some x) : ∃ b, v = fl b ∧ b < 4294967296 := g_float Try.underlying29 h
theorem in_string {fuel : Nat} {v : Value} {x : DataW H × List MemPlace} (h : DataW.trod enc Try.prog w 0 spare held fuel 9 [v] = some x) : ∃ s : ByteArray, v = .string s ∧ s.size ≤ big := g_string Try.underlying9 h
theorem at_of_cells {base : Nat} {a : Addr} {n : Nat} {cs : List Value} (h : w.cells? base a n = some cs) : At w a cs := by
  obtain ⟨_, hl, hc⟩ := World.cells?_some h
  intro j u hj
  rw [hc j (by have := lt_of_some hj; omega), hj]

theorem at_flat {α : Type} (f : α → List Value) (m : Nat) (hm : ∀ a, (f a).length = m) : ∀ (xs : List α) (ad : Addr), (∀ (k : Nat) (hk : k < xs.length), At w (ad.add (k * m)) (f xs[k])) → At w ad (xs.flatMap f)
  | [], _, _ => fun j u hj => by simp at hj
  | x :: xs, ad, h => by
    rw [List.flatMap_cons]
    refine At.of_app (by have := h 0 (by simp); rw [Nat.zero_mul, add_zero'] at this; simpa using this) ?_
    rw [hm x]
    refine at_flat f m hm xs _ fun k hk => ?_
    have := h (k + 1) (by simpa using hk)
    rw [add_add', show m + k * m = (k + 1) * m by rw [Nat.succ_mul]; omega]
    simpa using this

theorem in_fs {fuel : Nat} {v : Value} {x : DataW H × List MemPlace} (h : DataW.trod enc Try.prog w 0 spare held fuel 38 [v] = some x) :
    ∃ A c xs, v = .slice A xs.length c ∧ Fs w w.heap.size A xs ∧ xs.length ≤ big ∧ fits xs := by
  rcases Go.Deep.open_slice1 Try.underlying38 (by kernel_rfl) h with ⟨hv, rfl⟩ | ⟨a, len, cap, m, n, V, D, Pl, hv, _, hl, hm, hmm, rfl, hx⟩
  · injection hv with hv _
    exact ⟨none, 0, [], by rw [hv]; rfl, ⟨rfl, fun h => absurd h (by simp)⟩, Nat.zero_le _, fun x hx => by cases hx⟩
  · injection hv with hv _
    have hlm : len ≤ m := by rw [hmm]; split <;> omega
    obtain ⟨X, hX⟩ := Go.Deep.choose_lt (α := Nat) (p := fun i b => V i = fl b ∧ b < 4294967296) (n := m) fun i hi => in_float (hx i hi).2
    refine ⟨some a, cap, (List.range len).map X, by rw [hv]; simp, ⟨by simp, fun h0 => ⟨a, rfl, ?_, ?_⟩⟩, by simp; unfold maxLen at hm; unfold big; omega, fun x hx => by
      obtain ⟨i, hi, rfl⟩ := List.mem_map.1 hx
      exact (hX i (by have := List.mem_range.1 hi; omega)).2⟩
    · simp at h0
      exact World.cells?_block (cells?_one (base := 0) (Nat.zero_le _) (hx 0 (by omega)).1) Nat.one_pos
    · intro j u hj
      have hjl := lt_of_some hj
      simp at hjl
      rw [(hx j (by omega)).1, (hX j (by omega)).1, ← hj]
      simp [hjl]

theorem list6 {l : List Value} (h : l.length = 6) : ∃ a b c d e f, l = [a, b, c, d, e, f] := by
  match l, h with
  | [a, b, c, d, e, f], _ => exact ⟨a, b, c, d, e, f, rfl⟩
theorem list12 {l : List Value} (h : l.length = 12) : ∃ a b c d e f g i j k m n, l = [a, b, c, d, e, f, g, i, j, k, m, n] := by
  match l, h with
  | [a, b, c, d, e, f, g, i, j, k, m, n], _ => exact ⟨a, b, c, d, e, f, g, i, j, k, m, n, rfl⟩

/-- field i of a struct: its own cells read -/
theorem in_field {fuel : Nat} {t : TypeId} {fs : Array Field} {cs : List Value} {x : DataW H × List MemPlace} (ht : Try.prog.underlying t = some (.struct fs)) (h : DataW.trod enc Try.prog w 0 spare held fuel t cs = some x) :
    cs.length = Try.prog.cellsOf t ∧ ∃ n, ∀ (i : Nat) (f : Field), fs[i]? = some f → ∃ y, DataW.trod enc Try.prog w 0 spare held n f.type ((cs.drop f.offset).take (Try.prog.cellsOf f.type)) = some y := by
  obtain ⟨xs, n, _, _, hl, hlen, hf⟩ := DataW.trod_struct ht h
  refine ⟨hl, n, fun i f hi => ?_⟩
  have : i < xs.length := by rw [hlen]; exact (Array.getElem?_eq_some_iff.1 hi).1
  exact ⟨_, (hf i f hi).trans (List.getElem?_eq_getElem this)⟩

theorem in_snd {fuel : Nat} {cs : List Value} {x : DataW H × List MemPlace} (h : DataW.trod enc Try.prog w 0 spare held fuel 94 cs = some x) : ∃ s : Snd, cs = s.cells ∧ SndIn0 w w.heap.size s ∧ s.fit := by
  obtain ⟨hl, n, hf⟩ := in_field Try.underlying94 h
  rw [show Try.prog.cellsOf 94 = 6 by kernel_rfl] at hl
  have c1 : Try.prog.cellsOf 29 = 1 := by kernel_rfl
  have c2 : Try.prog.cellsOf 9 = 1 := by kernel_rfl
  have c3 : Try.prog.cellsOf 38 = 1 := by kernel_rfl
  obtain ⟨a, b, c, d, e, f, rfl⟩ := list6 hl
  obtain ⟨y0, h0⟩ := hf 0 _ rfl
  obtain ⟨y1, h1⟩ := hf 1 _ rfl
  obtain ⟨y2, h2⟩ := hf 2 _ rfl
  obtain ⟨y3, h3⟩ := hf 3 _ rfl
  obtain ⟨y4, h4⟩ := hf 4 _ rfl
  obtain ⟨y5, h5⟩ := hf 5 _ rfl
  simp only [c1, c2, c3, List.getElem_toArray, List.getElem_cons_zero, List.getElem_cons_succ, List.drop_zero, List.drop_succ_cons, List.take_succ_cons, List.take_zero] at h0 h1 h2 h3 h4 h5
  obtain ⟨nm, rfl, hn⟩ := in_string h0
  obtain ⟨A, cc, xs, rfl, hA, hx, hfx⟩ := in_fs h1
  obtain ⟨b2, rfl, l2⟩ := in_float h2
  obtain ⟨b3, rfl, l3⟩ := in_float h3
  obtain ⟨b4, rfl, l4⟩ := in_float h4
  obtain ⟨b5, rfl, l5⟩ := in_float h5
  exact ⟨⟨nm, A, cc, xs, b2, b3, b4, b5⟩, rfl, ⟨hA, hx, hn⟩, hfx, l2, l3, l4, l5⟩

instance : Inhabited Snd := ⟨⟨ByteArray.empty, none, 0, [], 0, 0, 0, 0⟩⟩
theorem in_snds {fuel : Nat} {v : Value} {x : DataW H × List MemPlace} (h : DataW.trod enc Try.prog w 0 spare held fuel 28 [v] = some x) :
    ∃ A c ss, v = .slice A ss.length c ∧ Snds0 w w.heap.size A ss ∧ ss.length ≤ big ∧ ∀ s ∈ ss, s.fit := by
  have c6 : Try.prog.cellsOf 94 = 6 := by kernel_rfl
  rcases Go.Deep.open_slice Try.underlying28 h with ⟨hv, rfl⟩ | ⟨a, len, cap, m, n, D, Pl, hv, _, hl, hm, hmm, rfl, hx⟩
  · injection hv with hv _
    exact ⟨none, 0, [], by rw [hv]; rfl, ⟨⟨rfl, fun h => absurd h (by simp)⟩, fun s hs => by cases hs⟩, Nat.zero_le _, fun s hs => by cases hs⟩
  · injection hv with hv _
    rw [c6] at hx
    have hlm : len ≤ m := by rw [hmm]; split <;> omega
    obtain ⟨S, hS⟩ := Go.Deep.choose_lt (α := Snd) (p := fun i s => w.cells? 0 (a.add (i * 6)) 6 = some s.cells ∧ SndIn0 w w.heap.size s ∧ s.fit) (n := m) fun i hi => by
      obtain ⟨cs', h1, h2⟩ := hx i hi
      obtain ⟨s, rfl, hs⟩ := in_snd h2
      exact ⟨s, h1, hs⟩
    refine ⟨some a, cap, (List.range len).map S, by rw [hv]; simp, ⟨⟨by rw [flat_len], fun h0 => ⟨a, rfl, ?_, ?_⟩⟩, fun s hs => ?_⟩, by simp; unfold maxLen at hm; unfold big; omega, fun s hs => ?_⟩
    · simp at h0
      have := World.cells?_block (hS 0 (by omega)).1 (by omega)
      rwa [show (a.add (0 * 6)).block = a.block from add_block _ _] at this
    · refine at_flat _ 6 (fun _ => rfl) _ _ fun k hk => ?_
      simp at hk
      simpa using at_of_cells (hS k (by omega)).1
    · obtain ⟨k, hk, rfl⟩ := List.mem_map.1 hs
      exact (hS k (by have := List.mem_range.1 hk; omega)).2.1
    · obtain ⟨k, hk, rfl⟩ := List.mem_map.1 hs
      exact (hS k (by have := List.mem_range.1 hk; omega)).2.2

theorem in_desk {fuel : Nat} {cs : List Value} {x : DataW H × List MemPlace} (h : DataW.trod enc Try.prog w 0 spare held fuel 57 cs = some x) : ∃ d : Dsk, cs = d.cells ∧ DskIn0 w w.heap.size d ∧ d.fit := by
  obtain ⟨hl, n, hf⟩ := in_field Try.underlying57 h
  rw [show Try.prog.cellsOf 57 = 12 by kernel_rfl] at hl
  have c1 : Try.prog.cellsOf 29 = 1 := by kernel_rfl
  have c3 : Try.prog.cellsOf 38 = 1 := by kernel_rfl
  have c4 : Try.prog.cellsOf 53 = 4 := by kernel_rfl
  have c5 : Try.prog.cellsOf 54 = 5 := by kernel_rfl
  have c6 : Try.prog.cellsOf 55 = 2 := by kernel_rfl
  have c7 : Try.prog.cellsOf 28 = 1 := by kernel_rfl
  obtain ⟨v0, v1, v2, v3, v4, v5, v6, v7, v8, v9, v10, v11, rfl⟩ := list12 hl
  obtain ⟨y0, h0⟩ := hf 0 _ rfl
  obtain ⟨y1, h1⟩ := hf 1 _ rfl
  obtain ⟨y2, h2⟩ := hf 2 _ rfl
  obtain ⟨y3, h3⟩ := hf 3 _ rfl
  clear hf
  simp only [c4, c5, c6, c7, List.getElem_toArray, List.getElem_cons_zero, List.getElem_cons_succ, List.drop_zero, List.drop_succ_cons, List.take_succ_cons, List.take_zero] at h0 h1 h2 h3
  obtain ⟨_, n0, g0⟩ := in_field Try.underlying53 h0
  obtain ⟨_, n1, g1⟩ := in_field Try.underlying54 h1
  obtain ⟨_, n2, g2⟩ := in_field Try.underlying55 h2
  obtain ⟨_, k0⟩ := g0 0 _ rfl
  obtain ⟨_, k1⟩ := g0 1 _ rfl
  obtain ⟨_, k2⟩ := g0 2 _ rfl
  obtain ⟨_, k3⟩ := g0 3 _ rfl
  obtain ⟨_, k4⟩ := g1 0 _ rfl
  obtain ⟨_, k5⟩ := g1 1 _ rfl
  obtain ⟨_, k6⟩ := g1 2 _ rfl
  obtain ⟨_, k7⟩ := g1 3 _ rfl
  obtain ⟨_, k8⟩ := g1 4 _ rfl
  obtain ⟨_, k9⟩ := g2 0 _ rfl
  obtain ⟨_, k10⟩ := g2 1 _ rfl
  simp only [c1, c3, List.getElem_toArray, List.getElem_cons_zero, List.getElem_cons_succ, List.drop_zero, List.drop_succ_cons, List.take_succ_cons, List.take_zero] at k0 k1 k2 k3 k4 k5 k6 k7 k8 k9 k10
  obtain ⟨tA, tc, txs, rfl, ht, htn, hft⟩ := in_fs k0
  obtain ⟨b1, rfl, l1⟩ := in_float k1
  obtain ⟨b2, rfl, l2⟩ := in_float k2
  obtain ⟨b3, rfl, l3⟩ := in_float k3
  obtain ⟨b4, rfl, l4⟩ := in_float k4
  obtain ⟨b5, rfl, l5⟩ := in_float k5
  obtain ⟨b6, rfl, l6⟩ := in_float k6
  obtain ⟨b7, rfl, l7⟩ := in_float k7
  obtain ⟨b8, rfl, l8⟩ := in_float k8
  obtain ⟨pA, pc, pxs, rfl, hp, hpn, hfp⟩ := in_fs k9
  obtain ⟨b10, rfl, l10⟩ := in_float k10
  obtain ⟨sA, sc, ss, rfl, hs, hsn, hfs⟩ := in_snds h3
  exact ⟨⟨tA, tc, txs, b1, b2, b3, b4, b5, b6, b7, b8, pA, pc, pxs, b10, sA, sc, ss⟩, rfl, ⟨ht, htn, hp, hpn, hs, hsn⟩, hft, l1, l2, l3, l4, l5, l6, l7, l8, hfp, l10, hfs⟩

theorem g_okw {P : Program} {r : Reach} {b0 : Nat} {t : TypeId} {fs : Array Field} {v : Value} (ht : P.underlying t = some (.struct fs)) (hv : Value.okWide P w r b0 t v) : ∃ cs, v = .agg cs :=
  let ⟨cs, h, _⟩ := okWide_struct ht hv
  ⟨cs, h⟩
theorem g_agg {P : Program} {t : TypeId} {cs : Array Value} {d : DataW H} {p : List MemPlace} (h : DataW.Trod enc P w 0 spare held t (.agg cs) d p) : ∃ fuel, DataW.trod enc P w 0 spare held fuel t cs.toList = some (d, p) := h
set_option maxRecDepth 100000 in
theorem open_desk {r : Reach} {b0 : Nat} {v : Value} {d : DataW H} {p : List MemPlace} (hv : Value.okWide Try.prog w r b0 57 v) (h : DataW.Trod enc Try.prog w 0 spare held 57 v d p) :
    ∃ d : Dsk, v = .agg d.cells.toArray ∧ DskIn0 w w.heap.size d ∧ d.fit := by
  obtain ⟨cs, rfl⟩ := g_okw Try.underlying57 hv
  obtain ⟨fuel, hf⟩ := g_agg h
  obtain ⟨d, hd, hin⟩ := in_desk hf
  refine ⟨d, ?_, hin⟩
  congr 1
  exact Array.ext' hd
end

section
variable {H : Type} {enc : TypeId × Value → H} {P : Program}
/-- the last step where the call has turned nothing below the heap's old size -/
theorem post_of_read {f : Func} {s : ChangeSpec} {W W' : World} {args : Array Value} {v : Value} {ds : List (DataW H)} {before : List MemPlace} (hv : s.vars = [])
    (hW : DataW.Whole enc P f.params.toList s.vars false W args.toList ds [] before)
    (hres : ∀ (b : Nat) (sp : Nat → Bool) (hd : Bool), DataW.TrodAll enc P W' b sp hd f.resultTypes.toList (v.resultList f.resultTypes.size) (s.fn H (ds ++ [])).results [])
    (hargs : DataW.TrodAll enc P W' 0 (fun b => decide (b < W.heap.size)) true f.params.toList args.toList (s.fn H (ds ++ [])).args before)
    (hvars : (s.fn H (ds ++ [])).vars = []) (hb : Below W.heap.size W W') :
    s.post enc P f false true false false W args v W' := by
  refine ⟨ds, [], before, [], before, [], hW, hres _ _ _, hargs, ?_, hb.frame _, fun h => by cases h⟩
  rw [hv, hvars]
  rfl
end
end Go.Proofs.Ythmkbgiandncnaa
