/- DropSound, the reference's and the program's. -/
import Derived.Test.YthmkbgiandncnaaDel
namespace Go.Proofs.Ythmkbgiandncnaa
open Go.RowKit

theorem bytesLess_trans : ∀ a b c : List UInt8, Op.bytesLess a b = true → Op.bytesLess b c = true → Op.bytesLess a c = true
  | [], [], _, h, _ => by unfold Op.bytesLess at h; cases h
  | _ :: _, [], _, h, _ => by unfold Op.bytesLess at h; cases h
  | _, _ :: _, [], _, h => by unfold Op.bytesLess at h; cases h
  | [], _ :: _, _ :: _, _, _ => by unfold Op.bytesLess; rfl
  | x :: xs, y :: ys, z :: zs, h1, h2 => by
    unfold Op.bytesLess at h1 h2 ⊢
    simp only [Bool.or_eq_true, Bool.and_eq_true, decide_eq_true_eq, beq_iff_eq, UInt8.lt_iff_toNat_lt] at h1 h2 ⊢
    rcases h1 with h1 | ⟨rfl, h1⟩
    · rcases h2 with h2 | ⟨rfl, h2⟩
      · exact .inl (by omega)
      · exact .inl h1
    · rcases h2 with h2 | ⟨rfl, h2⟩
      · exact .inl h2
      · exact .inr ⟨rfl, bytesLess_trans xs ys zs h1 h2⟩
theorem less_trans {a b c : ByteArray} (h1 : nmLess a b = true) (h2 : nmLess b c = true) : nmLess a c = true := bytesLess_trans _ _ _ h1 h2
theorem less_irrefl (a : ByteArray) : nmLess a a = false := bytesLess_irrefl _
/-- the names of a valid list ascend -/
theorem ok_less {ss : List Snd} (h : soundsOk ss = true) : ∀ (k d : Nat) (hk : k + d + 1 < ss.length), nmLess ss[k].name ss[k + d + 1].name = true := by
  have step : ∀ (k : Nat) (hk : k + 1 < ss.length), nmLess ss[k].name ss[k + 1].name = true := by
    intro k hk
    unfold soundsOk at h
    simp only [Bool.and_eq_true, List.all_eq_true, List.mem_range] at h
    have := h.2 (k + 1) hk
    rw [okAt_at hk (by omega) (by omega)] at this
    simp only [Bool.and_eq_true, Bool.or_eq_true, beq_iff_eq] at this
    rcases this.2 with h3 | h3
    · omega
    · exact h3
  intro k d
  induction d with
  | zero => intro hk; exact step k hk
  | succ d ih => intro hk; exact less_trans (ih (by omega)) (step (k + d + 1) (by omega))
theorem named_one {ss : List Snd} {nm : ByteArray} (h : soundsOk ss = true) {k : Nat} (hk : k < ss.length) (hn : named nm ss[k] = true) : ∀ (i : Nat) (hi : i < ss.length), i ≠ k → named nm ss[i] = false := by
  have ne : ∀ a b : Snd, nmLess a.name b.name = true → named nm a = true → named nm b = true → False := by
    intro a b hl h1 h2
    unfold named at h1 h2
    simp only [beq_iff_eq] at h1 h2
    unfold nmLess at hl
    rw [h1, h2, bytesLess_irrefl] at hl
    cases hl
  intro i hi hik
  cases hb : named nm ss[i] with
  | false => rfl
  | true =>
    exfalso
    rcases Nat.lt_or_ge i k with hlt | hge
    · obtain ⟨d, rfl⟩ : ∃ d, k = i + d + 1 := ⟨k - i - 1, by omega⟩
      exact ne _ _ (ok_less h i d hk) hb hn
    · obtain ⟨d, rfl⟩ : ∃ d, i = k + d + 1 := ⟨i - k - 1, by omega⟩
      exact ne _ _ (ok_less h k d hi) hn hb
theorem filter_all {α : Type} {p : α → Bool} : ∀ (l : List α), (∀ (i : Nat) (hi : i < l.length), p l[i] = true) → l.filter p = l := by
  intro l h
  exact List.filter_eq_self.2 fun a ha => by
    obtain ⟨i, hi, rfl⟩ := List.getElem_of_mem ha
    exact h i hi
/-- without the sound of a name -/
def without (nm : ByteArray) (ss : List Snd) : List Snd := ss.filter fun s => !named nm s
theorem without_erase {ss : List Snd} {nm : ByteArray} (h : soundsOk ss = true) {k : Nat} (hk : k < ss.length) (hn : named nm ss[k] = true) : ss.eraseIdx k = without nm ss := by
  have hone := named_one h hk hn
  unfold without
  have e : ss = ss.take k ++ (ss[k] :: ss.drop (k + 1)) := by rw [← List.drop_eq_getElem_cons hk, List.take_append_drop]
  rw [List.eraseIdx_eq_take_drop_succ]
  conv => rhs; rw [e]
  rw [List.filter_append, List.filter_cons, hn]
  simp only [Bool.not_true, Bool.false_eq_true, if_false]
  rw [filter_all (ss.take k), filter_all (ss.drop (k + 1))]
  · intro i hi
    simp only [List.length_drop] at hi
    rw [List.getElem_drop, hone (k + 1 + i) (by omega) (by omega)]; rfl
  · intro i hi
    simp only [List.length_take] at hi
    rw [List.getElem_take, hone i (by omega) (by omega)]; rfl
theorem named_bare (nm : ByteArray) (s : Snd) : named nm s.bare = named nm s := rfl
theorem sames_without {ss ts : List Snd} (h : sames ss ts) (nm : ByteArray) : sames (without nm ss) (without nm ts) := by
  unfold sames without at *
  have e : ∀ xs : List Snd, (xs.filter fun s => !named nm s).map Snd.bare = (xs.map Snd.bare).filter fun s => !named nm s := by
    intro xs
    rw [List.filter_map]; rfl
  rw [e, e, h]
theorem sames_any {ss ts : List Snd} (h : sames ss ts) (nm : ByteArray) : ss.any (named nm) = ts.any (named nm) := by
  have e : ∀ xs : List Snd, xs.any (named nm) = (xs.map Snd.bare).any (named nm) := fun xs => by rw [List.any_map]; rfl
  rw [e ss, e ts, show ss.map Snd.bare = _ from h]
def dropOk (ss : List Snd) (nm : ByteArray) : Bool := soundsOk ss && ss.any (named nm)
def dropRes (ss : List Snd) (nm : ByteArray) : List Snd := if dropOk ss nm then without nm ss else []
theorem dropOk_bare {ss ts : List Snd} (h : sames ss ts) (nm : ByteArray) : dropOk ss nm = dropOk ts nm := by unfold dropOk; rw [soundsOk_bare h, sames_any h]
theorem dropRes_bare {ss ts : List Snd} (h : sames ss ts) (nm : ByteArray) : sames (dropRes ss nm) (dropRes ts nm) := by
  unfold dropRes; rw [dropOk_bare h]
  split
  · exact sames_without h nm
  · rfl
theorem without_snoc_no {ss : List Snd} {nm : ByteArray} {n : Nat} (h : n < ss.length) (hn : named nm ss[n] = true) : without nm (ss.take (n + 1)) = without nm (ss.take n) := by
  unfold without
  rw [List.take_succ_eq_append_getElem h, List.filter_append, List.filter_cons, hn]; simp
theorem without_snoc_yes {ss : List Snd} {nm : ByteArray} {n : Nat} (h : n < ss.length) (hn : named nm ss[n] = false) : without nm (ss.take (n + 1)) = without nm (ss.take n) ++ [ss[n]] := by
  unfold without
  rw [List.take_succ_eq_append_getElem h, List.filter_append, List.filter_cons, hn]; simp
theorem few_without {ss : List Snd} (h : sndsFew ss) (nm : ByteArray) : sndsFew (without nm ss) :=
  ⟨Nat.le_trans (List.length_filter_le _ _) h.1, fun s hs => h.2 s ((List.mem_filter.1 hs).1)⟩

set_option maxRecDepth 20000 in
set_option maxHeartbeats 2000000 in
theorem specDrop_any (A : Option Addr) (c : Nat) (ss : List Snd) (nm : ByteArray) (w : World) (B : Nat) (hB : B ≤ w.heap.size) (hx : Snds w B A ss) (hm : ss.length ≤ 1048576) :
    Calls Try.prog 28 #[.slice A ss.length c, .string nm] w fun e w' => ∃ v ts, e = .returned (.tuple #[v, .bool (dropOk ss nm)]) ∧ sames (dropRes ss nm) ts ∧ OwnS w' w.heap.size v ts ∧ Below w.heap.size w w' := by
  obtain ⟨i0, hi, hz0, hz1, hz2⟩ := info_parts infoS
  have HX := Lib.hid hx; clear hx
  cases h1 : soundsOk ss
  · have h2 : dropOk ss nm = false := by simp [dropOk, h1]
    have h3 : dropRes ss nm = [] := by simp [dropRes, h2]
    rw [h2, h3]
    have H1 := Lib.hid h1; clear h1 h2 h3
    go_enter Try.func28, Try.ntmps28
    go_wp2_with fail
    refine (l06Are_any A c ss w B HX.out hm).mono ?_
    rintro e w' ⟨rfl, n, rfl⟩
    rw [H1.out]
    go_wp2_with fail
    go_ret2
    exact ⟨_, [], rfl, rfl, OwnS.nil _ _, below_drewN _ _ _⟩
  rcases idx_cases (named nm) ss with ⟨he, ha⟩ | ⟨k, hk, he, ha, hp⟩
  · have h2 : dropOk ss nm = false := by simp [dropOk, ha]
    have h3 : dropRes ss nm = [] := by simp [dropRes, h2]
    rw [h2, h3]
    have H1 := Lib.hid h1; have HE := Lib.hid he; clear h1 h2 h3 he ha
    go_enter Try.func28, Try.ntmps28
    go_wp2_with fail
    refine (l06Are_any A c ss w B HX.out hm).mono ?_
    rintro e w' ⟨rfl, n, rfl⟩
    rw [H1.out]
    go_wp2_with fail
    refine (l06Find_any A c ss nm _ B (by exact HX.out.drewN n) hm).mono ?_
    rintro e w' ⟨rfl, rfl⟩
    rw [HE.out]
    go_wp2_with fail
    go_ret2
    exact ⟨_, [], rfl, rfl, OwnS.nil _ _, below_drewN _ _ _⟩
  have h2 : dropOk ss nm = true := by simp [dropOk, h1, ha]
  have h3 : dropRes ss nm = without nm ss := by simp [dropRes, h2]
  rw [h2, h3]
  have hkept : ∀ s ∈ ss, s.kept := fun s hs => kept_ok (HX.out.2 s hs) (ok_at h1 hs)
  have HK := Lib.hid hkept; clear hkept
  have H1 := Lib.hid h1; have HE := Lib.hid he; clear h1 h2 h3 he ha hp
  have hown0 : ∀ n, ((w.drewN n).alloc (.cells #[] 98)).ownsRow w.heap.size 98 6 (.slice (some ⟨w.heap.size, 0, none⟩) 0 0) 0 [] := fun n => World.ownsRow_lit (w.drewN n) #[] 0 (Nat.le_refl _) (by unfold maxLen; omega) rfl
  have HO := Lib.hid hown0; clear hown0
  go_enter Try.func28, Try.ntmps28
  go_wp2_with fail
  refine (l06Are_any A c ss w B HX.out hm).mono ?_
  rintro e w' ⟨rfl, n0, rfl⟩
  rw [H1.out]
  go_wp2_with fail
  refine (l06Find_any A c ss nm _ B (by exact HX.out.drewN n0) hm).mono ?_
  rintro e w' ⟨rfl, rfl⟩
  rw [HE.out]
  go_wp2_with fail
  go_loopw [6, 7] (fun v i wr => ∃ (n : Nat) (ts : List Snd), n ≤ ss.length ∧ i = .int .i64 n ∧ sames (without nm (ss.take n)) ts ∧ wr.ownsRow w.heap.size 98 6 v ts.length (ts.flatMap Snd.cells) ∧
    (∀ t ∈ ts, OwnF wr w.heap.size t.val t.xs) ∧ (ts.Pairwise fun s t => s.blk = none ∨ s.blk ≠ t.blk) ∧ ts.length ≤ n ∧ Below w.heap.size w wr) (fun _ i _ => ss.length - (intOf i).toNat)
  case atStart => exact ⟨0, [], Nat.zero_le _, rfl, rfl, HO.out _, by simp, .nil, Nat.zero_le _, drewN_below (bl_a w _) n0⟩
  case round =>
    obtain ⟨n, ts, hn, rfl, hsam, hown, heach, hap, htl, hb⟩ := hrel
    have hsz := hb.size
    by_cases hlt : n < ss.length
    · obtain ⟨ad, hA, hadB, hat, hin⟩ := (HX.out.below' hb hB).at_ hlt
      subst hA
      have HI := Lib.hid hin
      have q0 : wr.cell? (ad.add (n * 6)) = some (.string ss[n].name) := by have := hat 0 _ rfl; rwa [add_zero'] at this
      have HA := Lib.hid hat; clear hin hat
      have HS := Lib.hid hsam; clear hsam
      have HW := Lib.hid hown; clear hown
      have HEc := Lib.hid heach; clear heach
      have HP := Lib.hid hap; clear hap
      have HB := Lib.hid hb; clear hb
      have hkn := Lib.hid (HK.out _ (List.getElem_mem hlt))
      cases hnm : named nm ss[n]
      · have e1 : (ss[n].name.toList == nm.toList) = false := hnm
        have HN := Lib.hid hnm; clear hnm
        go_wp2_with fail
        refine (l06Copy_any ss[n] _ _ B (by omega) (by rw [add_block]; exact hadB) HA.out HI.out hkn.out).mono ?_
        rintro e w1 ⟨A', c', rfl, hown1, hb1⟩
        have z1 := hb1.size
        have hrow := own_below HW.out hb1 fun k hk => (World.ownsRow.lt HW.out k hk).2
        have HR := Lib.hid hrow; clear hrow
        have HO1 := Lib.hid hown1; clear hown1
        have HB1 := Lib.hid hb1; clear hb1 q0 e1
        obtain ⟨t, ht⟩ : ∃ t : Snd, t = { ss[n] with A := A', c := c' } := ⟨_, rfl⟩
        have e0 : ss[n].name = t.name := by rw [ht]
        have e1 : Value.slice A' ss[n].xs.length c' = .slice t.A t.xs.length t.c := by rw [ht]
        have e2 : ss[n].long = t.long := by rw [ht]
        have e3 : ss[n].ramp = t.ramp := by rw [ht]
        have e4 : ss[n].voice = t.voice := by rw [ht]
        have e5 : ss[n].noise = t.noise := by rw [ht]
        have hbare : ss[n].bare = t.bare := by rw [ht]; rfl
        have hownt : OwnF w1 wr.heap.size t.val t.xs := by rw [ht]; exact HO1.out
        have HT := Lib.hid hownt; clear hownt
        have HBa := Lib.hid hbare; clear hbare ht
        rw [e0, e1, e2, e3, e4, e5]
        clear e0 e1 e2 e3 e4 e5
        go_wp2_with (at_builtin; refine wpList_append_own_at _ rfl _ _ _ rfl w.heap.size 98 i0 _ 6 56 Try.underlying31 hi hz0 hz1 hz2 rfl (by decide) _ _ (ts.flatMap Snd.cells) rfl (HR.out.alloc _) ⟨w1.heap.size, 0, none⟩ 1 1 t.cells rfl rfl (news_cells w1 t _) (one_cells t) (by unfold maxLen; omega) (by omega) (by simp; omega) ?_; intro v' w2 hown2 hgrow _ _)
        have hg2 : (w1.alloc (.cells t.cells.toArray 98)).grownBy w2 u6.ownBlock := hgrow
        have hb2 : Below w.heap.size w1 w2 := ((Below.refl _ _).alloc (by omega) _).trans (grown_below hg2 (by simp; omega) fun g hg => (World.ownsRow.lt HR.out g hg).1)
        have HB2 := Lib.hid hb2; clear hb2
        have HG := Lib.hid hg2; clear hg2 hgrow
        have HO2 := Lib.hid hown2; clear hown2
        go_roundw
        case rel =>
          refine ⟨n + 1, ts ++ [t], by omega, by go_num, ?_, ?_, ?_, ?_, by simp; omega, ?_⟩
          · rw [without_snoc_yes hlt HN.out]; exact sames_snoc HS.out HBa.out
          · rw [List.flatMap_append, List.length_append]; simpa using HO2.out
          · intro s hs
            rcases List.mem_append.1 hs with hs | hs
            · have h1 := (HEc.out s hs).below HB1.out
              exact (h1.alloc _).kept HG.out (blk_off h1 HR.out)
            · simp at hs; subst hs
              exact ((HT.out.alloc _).kept HG.out (blk_off HT.out HR.out)).less hsz
          · refine apart_snoc HP.out fun s hs => ?_
            cases hbk : s.blk with
            | none => exact .inl rfl
            | some b =>
              right
              have h1 := (World.ownsRow.lt (HEc.out s hs) b hbk).2
              intro h
              have h2 := (World.ownsRow.lt HT.out b (show t.val.ownBlock = some b from h.symm)).1
              omega
          · exact HB.out.trans ((HB1.out.mono hsz).trans HB2.out)
        case measure => simp [intOf]; omega
      · have e1 : (ss[n].name.toList == nm.toList) = true := hnm
        have HN := Lib.hid hnm; clear hnm
        go_wp2_with fail
        go_roundw
        case rel => exact ⟨n + 1, ts, by omega, by go_num, by rw [without_snoc_no hlt HN.out]; exact HS.out, HW.out, HEc.out, HP.out, by omega, HB.out⟩
        case measure => simp [intOf]; omega
    · rw [List.take_of_length_le (by omega)] at hsam
      have HS := Lib.hid hsam; clear hsam
      have HW := Lib.hid hown; clear hown
      have HEc := Lib.hid heach; clear heach
      have HP := Lib.hid hap; clear hap
      have HB := Lib.hid hb; clear hb
      go_wp2
      go_ret2
      exact ⟨_, ts, rfl, HS.out, ⟨HW.out, HEc.out, sames_few HS.out (few_without ⟨hm, fun s hs => (HX.out.2 s hs).2⟩ nm), HP.out⟩, HB.out⟩

set_option maxRecDepth 20000 in
set_option maxHeartbeats 2000000 in
theorem implDrop_any (A : Option Addr) (c : Nat) (ss : List Snd) (nm : ByteArray) (w : World) (B : Nat) (hB : B ≤ w.heap.size) (hx : Snds w B A ss) (hm : ss.length ≤ 1048576) :
    Calls Try.prog 29 #[.slice A ss.length c, .string nm] w fun e w' => ∃ v ts, e = .returned (.tuple #[v, .bool (dropOk ss nm)]) ∧ sames (dropRes ss nm) ts ∧ OwnS w' w.heap.size v ts ∧ Below w.heap.size w w' := by
  have HX := Lib.hid hx; clear hx
  rcases idx_cases (named nm) ss with ⟨he, ha⟩ | ⟨k, hk, he, ha, hp⟩
  · have h2 : dropOk ss nm = false := by simp [dropOk, ha]
    have h3 : dropRes ss nm = [] := by simp [dropRes, h2]
    rw [h2, h3]
    have HE := Lib.hid he; clear h2 h3 he ha
    go_enter Try.func29, Try.ntmps29
    go_wp2_with fail
    refine (findSound_any A c ss nm w B hB HX.out hm).mono ?_
    rintro e w1 ⟨rfl, hb1⟩
    have z1 := hb1.size
    have HB1 := Lib.hid hb1; clear hb1
    rw [HE.out]
    go_wp2_with fail
    refine (AreSounds_any A c ss w1 B (by omega) (HX.out.below' HB1.out hB) hm).mono ?_
    rintro e w2 ⟨rfl, hb2⟩
    have HB2 := Lib.hid (bl_step HB1.out hb2); clear hb2
    cases hok : soundsOk ss
    all_goals
      go_wp2_with fail
      go_ret2
      exact ⟨_, [], rfl, rfl, OwnS.nil _ _, HB2.out⟩
  cases h1 : soundsOk ss
  · have h2 : dropOk ss nm = false := by simp [dropOk, h1]
    have h3 : dropRes ss nm = [] := by simp [dropRes, h2]
    rw [h2, h3]
    have H1 := Lib.hid h1; have HE := Lib.hid he; clear h1 h2 h3 he ha hp
    go_enter Try.func29, Try.ntmps29
    go_wp2_with fail
    refine (findSound_any A c ss nm w B hB HX.out hm).mono ?_
    rintro e w1 ⟨rfl, hb1⟩
    have z1 := hb1.size
    have HB1 := Lib.hid hb1; clear hb1
    rw [HE.out]
    go_wp2_with fail
    refine (AreSounds_any A c ss w1 B (by omega) (HX.out.below' HB1.out hB) hm).mono ?_
    rintro e w2 ⟨rfl, hb2⟩
    have HB2 := Lib.hid (bl_step HB1.out hb2); clear hb2
    rw [H1.out]
    go_wp2_with fail
    go_ret2
    exact ⟨_, [], rfl, rfl, OwnS.nil _ _, HB2.out⟩
  have h2 : dropOk ss nm = true := by simp [dropOk, h1, ha]
  have h3 : dropRes ss nm = without nm ss := by simp [dropRes, h2]
  rw [h2, h3]
  have H1 := Lib.hid h1; have HE := Lib.hid he; have HP := Lib.hid hp; clear h1 h2 h3 he ha hp
  go_enter Try.func29, Try.ntmps29
  go_wp2_with fail
  refine (findSound_any A c ss nm w B hB HX.out hm).mono ?_
  rintro e w1 ⟨rfl, hb1⟩
  have z1 := hb1.size
  have HB1 := Lib.hid hb1; clear hb1
  rw [HE.out]
  go_wp2_with fail
  refine (AreSounds_any A c ss w1 B (by omega) (HX.out.below' HB1.out hB) hm).mono ?_
  rintro e w2 ⟨rfl, hb2⟩
  have z2 := hb2.size
  have HB2 := Lib.hid (bl_step HB1.out hb2); clear hb2
  rw [H1.out]
  go_wp2_with fail
  refine (cloneSounds_any A c ss w2 B (by omega) (HX.out.below' HB2.out hB) hm).mono ?_
  rintro e w3 ⟨v, ts, rfl, hsam, hown, hb3⟩
  have hl := sames_len hsam
  have hkt : k < ts.length := by omega
  have z3 := hb3.size
  have HB3 := Lib.hid (bl_step HB2.out hb3); clear hb3
  obtain ⟨g, cap, rfl, hg, hglt⟩ := World.ownsRow.form hown.row (by omega)
  have hq : named nm ts[k] = true := by rw [← named_bare, ← sames_at hsam hk hkt, named_bare]; exact HP.out
  have her : ts.eraseIdx k = without nm ts := without_erase (by rw [← soundsOk_bare hsam]; exact H1.out) hkt hq
  have HS := Lib.hid hsam; have HO := Lib.hid hown; have HEr := Lib.hid her; clear hsam hown hq her
  go_wp2_with fail
  refine (DeleteS_any g cap k (k + 1) ts w3 w2.heap.size HO.out.row hkt rfl HO.out.few.1).mono ?_
  rintro e w4 ⟨rfl, hrow, ht⟩
  have hfin : OwnS w4 w2.heap.size (.slice (some ⟨g, 0, none⟩) (ts.eraseIdx k).length cap) (ts.eraseIdx k) :=
    ⟨hrow, fun s hs => (HO.out.each s (List.mem_of_mem_eraseIdx hs)).turn ht (blk_row (HO.out.each s (List.mem_of_mem_eraseIdx hs)) HO.out.row), by rw [HEr.out]; exact few_without HO.out.few nm,
      List.Pairwise.sublist (List.eraseIdx_sublist ..) HO.out.apart⟩
  have hb4 : Below w.heap.size w w4 := HB3.out.trans ⟨ht.os, ht.tape, ht.output, ht.size, fun j hj => ht.block j (by omega) (by simp; omega)⟩
  have HF := Lib.hid hfin; have HB4 := Lib.hid hb4; clear hfin hb4 hrow ht
  go_wp2_with fail
  go_ret2
  exact ⟨.slice (some ⟨g, 0, none⟩) (ts.eraseIdx k).length cap, ts.eraseIdx k, rfl, by rw [HEr.out]; exact sames_without HS.out nm, HF.out.less (by omega), HB4.out⟩
theorem specDrpHas_any {w : World} {lo hi : Nat} {v : Value} {ss : List Snd} (nm : ByteArray) (h : HasS w lo hi v ss) :
    Calls Try.prog 28 #[v, .string nm] w fun e w' => ∃ v' ts, e = .returned (.tuple #[v', .bool (dropOk ss nm)]) ∧ sames (dropRes ss nm) ts ∧ HasS w' w.heap.size w'.heap.size v' ts ∧ Below w.heap.size w w' := by
  obtain ⟨A, c, rfl, h1⟩ := h.reads
  refine (specDrop_any A c ss nm w _ (Nat.le_refl _) h1 h.own.few.1).mono ?_
  rintro e w' ⟨v', ts, rfl, h2, h3, h4⟩
  exact ⟨v', ts, rfl, h2, .of h3, h4⟩
theorem implDrpHas_any {w : World} {lo hi : Nat} {v : Value} {ss : List Snd} (nm : ByteArray) (h : HasS w lo hi v ss) :
    Calls Try.prog 29 #[v, .string nm] w fun e w' => ∃ v' ts, e = .returned (.tuple #[v', .bool (dropOk ss nm)]) ∧ sames (dropRes ss nm) ts ∧ HasS w' w.heap.size w'.heap.size v' ts ∧ Below w.heap.size w w' := by
  obtain ⟨A, c, rfl, h1⟩ := h.reads
  refine (implDrop_any A c ss nm w _ (Nat.le_refl _) h1 h.own.few.1).mono ?_
  rintro e w' ⟨v', ts, rfl, h2, h3, h4⟩
  exact ⟨v', ts, rfl, h2, .of h3, h4⟩
end Go.Proofs.Ythmkbgiandncnaa
