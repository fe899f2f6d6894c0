/- The program's copies of sounds. -/
import Derived.Test.YthmkbgiandncnaaCln
namespace Go.Proofs.Ythmkbgiandncnaa
open Go.RowKit

theorem flat_one {ss : List Snd} : ∀ u ∈ ss.flatMap Snd.cells, u.oneCell' = true := by
  intro u hu
  obtain ⟨s, _, h⟩ := List.mem_flatMap.1 hu
  exact one_cells s u h
theorem Snds.some {w : World} {B : Nat} {ad : Addr} {ss : List Snd} (h : Snds w B (some ad) ss) : At w ad (ss.flatMap Snd.cells) := by
  intro j u hu
  have hl := lt_of_some hu
  rw [flat_len] at hl
  obtain ⟨ad', e, _, hc⟩ := h.1.2 (by omega)
  cases e
  exact hc j u hu

set_option maxRecDepth 20000 in
set_option maxHeartbeats 400000 in
theorem CloneS_any (A : Option Addr) (c : Nat) (ss : List Snd) (w : World) (B : Nat) (hB : B ≤ w.heap.size) (hx : Snds w B A ss) (hm : ss.length ≤ 1048576) :
    Calls Try.prog 118 #[.slice A ss.length c] w fun e w' => ∃ v, e = .returned v ∧ w'.ownsRow w.heap.size 98 6 v ss.length (ss.flatMap Snd.cells) ∧ Below w.heap.size w w' := by
  obtain ⟨i0, hi, hz0, hz1, hz2⟩ := info_parts infoS
  cases A with
  | none =>
    have h0 : ss = [] := by
      rcases Nat.eq_zero_or_pos ss.length with h | h
      · exact List.eq_nil_of_length_eq_zero h
      · obtain ⟨_, e, _⟩ := hx.1.2 h; cases e
    subst h0
    have heq : ∀ w, (binOp .eql 31 (.slice none 0 c) (.slice none 0 0)).run Try.prog w = .ok (.bool true) w := fun w => Lib.run_eql_slice_nil (P := Try.prog) w 31 98 none 0 c 0 0 Try.underlying31
    go_enter Try.func118, Try.ntmps118
    go_wp2_with fail
    go_ret
    exact ⟨_, rfl, World.ownsRow_nil _ _ _ _, Below.refl _ _⟩
  | some ad =>
    have hat2 := (hx.alloc hB (.cells #[] 98)).some
    have HA := Lib.hid hat2; clear hat2 hx
    have hown0 : (w.alloc (.cells #[] 98)).ownsRow w.heap.size 98 6 (.slice (some ⟨w.heap.size, 0, none⟩) 0 0) 0 [] := World.ownsRow_lit _ #[] 0 (Nat.le_refl _) (by unfold maxLen; omega) rfl
    have HO := Lib.hid hown0; clear hown0
    have heq : ∀ w, (binOp .eql 31 (.slice (some ad) ss.length c) (.slice none 0 0)).run Try.prog w = .ok (.bool false) w := fun w => Lib.run_eql_slice_nil (P := Try.prog) w 31 98 (some ad) ss.length c 0 0 Try.underlying31
    go_enter Try.func118, Try.ntmps118
    go_wp2_with (at_builtin; refine wpList_append_own_at _ rfl _ _ _ rfl w.heap.size 98 i0 _ 6 56 Try.underlying31 hi hz0 hz1 hz2 rfl (by decide) (.slice (some ⟨w.heap.size, 0, none⟩) 0 0) 0 [] rfl HO.out ad ss.length c (ss.flatMap Snd.cells) rfl (flat_len ss) HA.out flat_one (by unfold maxLen; omega) (by omega) (by simp) ?_; intro v' w1 hown1 hgrow _ _)
    have hb1 : Below w.heap.size w w1 := (bl_a w _).trans (grown_below hgrow (by simp) fun g hg => by simp [Value.ownBlock] at hg; omega)
    have HO1 := Lib.hid hown1; clear hown1
    have HB1 := Lib.hid hb1; clear hb1 hgrow
    go_wp2_with fail
    go_ret
    have := HO1.out
    rw [Nat.zero_add, List.nil_append] at this
    exact ⟨v', rfl, this, HB1.out⟩

/-- the areas of a sound are written -/
theorem set_areas {pre post : List Value} {k : Nat} (hk : pre.length = k * 6) (s : Snd) (A' : Option Addr) (c' : Nat) :
    (pre ++ (s.cells ++ post)).set (k * 6 + 1) (.slice A' s.xs.length c') = pre ++ (({ s with A := A', c := c' } : Snd).cells ++ post) := by
  rw [← hk, set_app]; rfl

set_option maxRecDepth 20000 in
set_option maxHeartbeats 1000000 in
theorem cloneSounds_any (A : Option Addr) (c : Nat) (ss : List Snd) (w : World) (B : Nat) (hB : B ≤ w.heap.size) (hx : Snds w B A ss) (hm : ss.length ≤ 1048576) :
    Calls Try.prog 66 #[.slice A ss.length c] w fun e w' => ∃ v ts, e = .returned v ∧ sames ss ts ∧ OwnS w' w.heap.size v ts ∧ Below w.heap.size w w' := by
  have HX := Lib.hid hx; clear hx
  go_enter Try.func66, Try.ntmps66
  go_wp2_with fail
  refine (CloneS_any A c ss _ B hB HX.out hm).mono ?_
  rintro e w0 ⟨v, rfl, hown, hb⟩
  have hz := hb.size
  have HB0 := Lib.hid hb; clear hb
  rcases Nat.eq_zero_or_pos ss.length with h0 | h0
  · have h0' := List.eq_nil_of_length_eq_zero h0
    subst h0'
    obtain ⟨A', c', rfl⟩ : ∃ A' c', v = .slice A' 0 c' := by
      rcases hown.2 with ⟨h1, _⟩ | ⟨g, cap, cur, hv, _⟩
      · exact ⟨_, _, h1⟩
      · exact ⟨_, _, hv⟩
    have HW := Lib.hid hown; clear hown
    go_wp2_with fail
    go_loopw [9] (fun i wr => i = .int .i64 0 ∧ wr = w0) (fun _ _ => 0)
    case atStart => exact ⟨rfl, rfl⟩
    case round =>
      obtain ⟨rfl, rfl⟩ := hrel
      go_wp2
      go_ret
      exact ⟨_, [], rfl, rfl, ⟨HW.out, by simp, ⟨by simp, by simp⟩, .nil⟩, HB0.out⟩
  · obtain ⟨g, cap, rfl, hg, hglt⟩ := World.ownsRow.form hown h0
    have HW := Lib.hid hown; clear hown
    go_wp2_with fail
    go_loopw [9] (fun i wr => ∃ (n : Nat) (ts : List Snd), n ≤ ss.length ∧ i = .int .i64 n ∧ sames (ss.take n) ts ∧ wr.ownsRow w.heap.size 98 6 (.slice (some ⟨g, 0, none⟩) ss.length cap) ss.length (ts.flatMap Snd.cells ++ (ss.drop n).flatMap Snd.cells) ∧
      (∀ t ∈ ts, OwnF wr w0.heap.size t.val t.xs) ∧ (ts.Pairwise fun s t => s.blk = none ∨ s.blk ≠ t.blk) ∧ w0.heap.size ≤ wr.heap.size ∧ Below w.heap.size w wr) (fun i _ => ss.length - (intOf i).toNat)
    case atStart => exact ⟨0, [], Nat.zero_le _, rfl, rfl, by simpa using HW.out, by simp, .nil, Nat.le_refl _, HB0.out⟩
    case round =>
      obtain ⟨n, ts, hn, rfl, hsam, hown, heach, hap, hsz, hb⟩ := hrel
      by_cases hlt : n < ss.length
      · have hin := (HX.out.below' hb hB).2 _ (List.getElem_mem hlt)
        have hlen : ts.length = n := by have := sames_len hsam; rw [← this]; simp; omega
        have hpre : (ts.flatMap Snd.cells).length = n * 6 := by rw [flat_len, hlen]
        rw [List.drop_eq_getElem_cons hlt, List.flatMap_cons] at hown
        have q1 : wr.cell? ⟨g, n * 6 + 1, none⟩ = some (.slice ss[n].A ss[n].xs.length ss[n].c) := by
          rw [World.ownsRow.cellAt hown _ (by omega), row_at hpre rfl (by omega)]; rfl
        have fz : ∀ j, wr.frozen? ⟨g, j, none⟩ = false := World.ownsRow.frozenAt hown
        have HI := Lib.hid hin; clear hin
        have HS := Lib.hid hsam; clear hsam
        have HR := Lib.hid hown; clear hown
        have HE := Lib.hid heach; clear heach
        have HP := Lib.hid hap; clear hap
        have HB := Lib.hid hb; clear hb
        have HL := Lib.hid hlen; clear hlen
        have HPr := Lib.hid hpre; clear hpre
        go_wp2_with fail
        refine (CloneF_any ss[n].A ss[n].c ss[n].xs wr B (by omega) HI.out.1 HI.out.2.1).mono ?_
        rintro e w1 ⟨A', c', rfl, hown1, hb1⟩
        have z1 := hb1.size
        have hrow := own_below HR.out hb1 fun k hk => (World.ownsRow.lt HR.out k hk).2
        clear q1 fz
        have q1 : w1.cell? ⟨g, n * 6 + 1, none⟩ = some (.slice ss[n].A ss[n].xs.length ss[n].c) := by
          rw [World.ownsRow.cellAt hrow _ (by omega), row_at HPr.out rfl (by omega)]; rfl
        have fz : ∀ j, w1.frozen? ⟨g, j, none⟩ = false := World.ownsRow.frozenAt hrow
        have hst := (World.ownsRow.stored hrow (n * 6 + 1) (.slice A' ss[n].xs.length c')).1
        rw [set_areas HPr.out] at hst
        have HF := Lib.hid hst; clear hst hrow
        have HN := Lib.hid hown1; clear hown1
        have HB1 := Lib.hid hb1; clear hb1
        go_wp2_with fail
        go_roundw
        case rel =>
          refine ⟨n + 1, ts ++ [{ ss[n] with A := A', c := c' }], by omega, by go_num, ?_, ?_, ?_, ?_, ?_, ?_⟩
          · rw [List.take_succ_eq_append_getElem hlt]; exact sames_snoc HS.out rfl
          · rw [List.flatMap_append, List.append_assoc]; simpa using HF.out
          · intro s hs
            rcases List.mem_append.1 hs with hs | hs
            · have h1 := (HE.out s hs).below HB1.out
              exact h1.set_ (by simp; omega)
            · simp at hs; subst hs
              exact (HN.out.less hsz).set_ (by simp; omega)
          · refine apart_snoc HP.out fun s hs => ?_
            cases hbk : s.blk with
            | none => exact .inl rfl
            | some b =>
              right
              have h1 := (World.ownsRow.lt (HE.out s hs) b hbk).2
              intro h
              have h2 := (World.ownsRow.lt HN.out b h.symm).1
              omega
          · rw [size_set]; omega
          · exact (HB.out.trans (HB1.out.mono (by omega))).setCell (by simp; omega) _
        case measure => simp [intOf]; omega
      · rw [List.take_of_length_le (by omega)] at hsam
        rw [List.drop_eq_nil_of_le (by omega)] at hown
        simp only [List.flatMap_nil, List.append_nil] at hown
        have hl := sames_len hsam
        have HS := Lib.hid hsam; clear hsam
        have HR := Lib.hid hown; clear hown
        have HE := Lib.hid heach; clear heach
        have HP := Lib.hid hap; clear hap
        have HB := Lib.hid hb; clear hb
        have HL := Lib.hid hl; clear hl
        go_wp2
        go_ret
        exact ⟨_, ts, rfl, HS.out, ⟨by rw [← HL.out]; exact HR.out, fun s hs => (HE.out s hs).less (by omega), sames_few HS.out ⟨hm, fun s hs => (HX.out.2 s hs).2⟩, HP.out⟩, HB.out⟩
end Go.Proofs.Ythmkbgiandncnaa
