/- Copies of lists: slices.Clone, the reference's copies of sounds, the program's. -/
import Derived.Test.YthmkbgiandncnaaHelS
import Derived.Maps.AppendAt
import Derived.Laws.AppendOwnNone
import Derived.Deep.AppendLies
namespace Go.Proofs.Ythmkbgiandncnaa
open Go.RowKit

theorem mul_some {a b : Nat} (ha : fin32 a = true) (hb : fin32 b = true) : ∃ r, floatBits .mul .f32 a b = some r ∧ mul32 a b = r := by
  obtain ⟨s, m, e, h1⟩ := number_of_fin32 ha
  obtain ⟨s', m', e', h2⟩ := number_of_fin32 hb
  have : ∃ r, Ieee.single.mul a b = some r := by
    unfold Ieee.Format.mul
    rw [h1, h2]
    exact ⟨_, rfl⟩
  obtain ⟨r, hr⟩ := this
  have hr' : floatBits .mul .f32 a b = some r := hr
  exact ⟨r, hr', by unfold mul32 arF; rw [hr']; rfl⟩

theorem ownsRow_less {w : World} {base base' e sz n : Nat} {v : Value} {ys : List Value} (h : w.ownsRow base e sz v n ys) (hb : base' ≤ base) : w.ownsRow base' e sz v n ys := by
  refine ⟨h.1, ?_⟩
  rcases h.2 with h2 | ⟨g, cap, cur, hv, hg, r⟩
  · exact .inl h2
  · exact .inr ⟨g, cap, cur, hv, by omega, r⟩
theorem one_fl (xs : List Nat) : ∀ u ∈ xs.map fl, u.oneCell' = true := by
  intro u hu
  obtain ⟨x, _, rfl⟩ := List.mem_map.1 hu
  rfl
theorem grown_below {w w' : World} {v : Value} (hg : w.grownBy w' v.ownBlock) {B : Nat} (hB : B ≤ w.heap.size) (hv : ∀ g, v.ownBlock = some g → B ≤ g) : Below B w w' :=
  (Below.refl _ _).grown hg hB hv
theorem Fs.some {w : World} {B : Nat} {ad : Addr} {xs : List Nat} (h : Fs w B (some ad) xs) : At w ad (xs.map fl) := by
  intro j u hu
  have hl := lt_of_some hu
  simp at hl
  obtain ⟨ad', e, _, hc⟩ := h.2 (by omega)
  cases e
  exact hc j u hu

set_option maxRecDepth 20000 in
set_option maxHeartbeats 400000 in
theorem CloneF_any (A : Option Addr) (c : Nat) (xs : List Nat) (w : World) (B : Nat) (hB : B ≤ w.heap.size) (hx : Fs w B A xs) (hm : xs.length ≤ 1048576) :
    Calls Try.prog 119 #[.slice A xs.length c] w fun e w' => ∃ A' c', e = .returned (.slice A' xs.length c') ∧ OwnF w' w.heap.size (.slice A' xs.length c') xs ∧ Below w.heap.size w w' := by
  obtain ⟨i0, hi, hz0, hz1, hz2⟩ := info_parts infoF
  cases A with
  | none =>
    have h0 : xs = [] := by
      rcases Nat.eq_zero_or_pos xs.length with h | h
      · exact List.eq_nil_of_length_eq_zero h
      · obtain ⟨_, e, _⟩ := hx.2 h; cases e
    subst h0
    have heq : ∀ w, (binOp .eql 38 (.slice none 0 c) (.slice none 0 0)).run Try.prog w = .ok (.bool true) w := fun w => Lib.run_eql_slice_nil (P := Try.prog) w 38 29 none 0 c 0 0 Try.underlying38
    go_enter Try.func119, Try.ntmps119
    go_wp2_with fail
    go_ret
    exact ⟨none, 0, rfl, World.ownsRow_nil _ _ _ _, Below.refl _ _⟩
  | some ad =>
    have hat := hx.some
    have hx2 := hx.alloc hB (.cells #[] 29)
    have hat2 := hx2.some
    have HX := Lib.hid hx; clear hx hx2
    have HA := Lib.hid hat2; clear hat hat2
    have hown0 : (w.alloc (.cells #[] 29)).ownsRow w.heap.size 29 1 (.slice (some ⟨w.heap.size, 0, none⟩) 0 0) 0 [] := World.ownsRow_lit _ #[] 0 (Nat.le_refl _) (by unfold maxLen; omega) rfl
    have HO := Lib.hid hown0; clear hown0
    have heq : ∀ w, (binOp .eql 38 (.slice (some ad) xs.length c) (.slice none 0 0)).run Try.prog w = .ok (.bool false) w := fun w => Lib.run_eql_slice_nil (P := Try.prog) w 38 29 (some ad) xs.length c 0 0 Try.underlying38
    go_enter Try.func119, Try.ntmps119
    go_wp2_with (at_builtin; refine wpList_append_own_at _ rfl _ _ _ rfl w.heap.size 29 i0 (.float .f32 0) 1 4 Try.underlying38 hi hz0 hz1 hz2 rfl (by decide) (.slice (some ⟨w.heap.size, 0, none⟩) 0 0) 0 [] rfl HO.out ad xs.length c (xs.map fl) rfl (by simp) HA.out (one_fl xs) (by unfold maxLen; omega) (by omega) (by simp) ?_; intro v' w1 hown1 hgrow _ _)
    have hb1 : Below w.heap.size w w1 := (bl_a w _).trans (grown_below hgrow (by simp) fun g hg => by simp [Value.ownBlock] at hg; omega)
    have HO1 := Lib.hid hown1; clear hown1
    have HB1 := Lib.hid hb1; clear hb1 hgrow
    go_wp2_with fail
    go_ret
    have hown : OwnF w1 w.heap.size v' xs := by have := HO1.out; rwa [Nat.zero_add, List.nil_append] at this
    obtain ⟨A', c', rfl, _⟩ := hown.reads
    exact ⟨A', c', rfl, hown, HB1.out⟩

/-- a sound whose areas are nil has them from nowhere -/
def Snd.kept (s : Snd) : Prop := s.A = none → s.c = 0 ∧ s.xs = []
abbrev zeroSd : Array Value := #[.string ByteArray.empty, .slice none 0 0, .float .f32 0, .float .f32 0, .float .f32 0, .float .f32 0]

set_option maxRecDepth 20000 in
set_option maxHeartbeats 2000000 in
theorem l06Copy_any (s : Snd) (ad : Addr) (w : World) (B : Nat) (hB : B ≤ w.heap.size) (hadB : ad.block < B) (hat : At w ad s.cells) (hin : SndIn w B s) (hk : s.kept) :
    Calls Try.prog 79 #[.pointer (some ad)] w fun e w' => ∃ A' c', e = .returned (.agg #[.string s.name, .slice A' s.xs.length c', fl s.long, fl s.ramp, fl s.voice, fl s.noise]) ∧ OwnF w' w.heap.size (.slice A' s.xs.length c') s.xs ∧ Below w.heap.size w w' := by
  obtain ⟨i0, hi, hz0, hz1, hz2⟩ := info_parts infoF
  obtain ⟨a0, a1, a2, a3, a4, a5⟩ := cells_at hat
  have hlt : ad.block < w.heap.size := by omega
  have k1 : ∀ o (p : Addr), p.block = ad.block → (w.alloc o).cell? p = w.cell? p := fun o p hp => World.cell?_alloc_lt w o p (by omega)
  have b0 : ∀ o, (w.alloc o).cell? ad = some (.string s.name) := fun o => (k1 o ad rfl).trans a0
  have b1 : ∀ o, (w.alloc o).cell? ⟨ad.block, ad.off + 1, none⟩ = some (.slice s.A s.xs.length s.c) := fun o => (k1 o ⟨ad.block, ad.off + 1, none⟩ rfl).trans a1
  have b2 : ∀ o, (w.alloc o).cell? ⟨ad.block, ad.off + 2, none⟩ = some (fl s.long) := fun o => (k1 o ⟨ad.block, ad.off + 2, none⟩ rfl).trans a2
  have b3 : ∀ o, (w.alloc o).cell? ⟨ad.block, ad.off + 3, none⟩ = some (fl s.ramp) := fun o => (k1 o ⟨ad.block, ad.off + 3, none⟩ rfl).trans a3
  have b4 : ∀ o, (w.alloc o).cell? ⟨ad.block, ad.off + 4, none⟩ = some (fl s.voice) := fun o => (k1 o ⟨ad.block, ad.off + 4, none⟩ rfl).trans a4
  have b5 : ∀ o, (w.alloc o).cell? ⟨ad.block, ad.off + 5, none⟩ = some (fl s.noise) := fun o => (k1 o ⟨ad.block, ad.off + 5, none⟩ rfl).trans a5
  have c1 : ∀ o p q, (((w.alloc o).alloc p).alloc q).cell? ⟨ad.block, ad.off + 1, none⟩ = some (.slice s.A s.xs.length s.c) := fun o p q => by
    rw [World.cell?_alloc_lt _ _ _ (by simp; omega), World.cell?_alloc_lt _ _ _ (by simp; omega)]; exact b1 o
  clear k1 a0 a1 a2 a3 a4 a5 hlt
  have hm := hin.2.1
  have hf3 : ∀ o p q, Fs (((w.alloc o).alloc p).alloc q) B s.A s.xs := fun o p q => ((hin.1.alloc hB _).alloc (by simp; omega) _).alloc (by simp; omega) _
  have hown0 : ∀ o p, (((w.alloc o).alloc p).alloc (.cells #[] 29)).ownsRow (w.heap.size + 2) 29 1 (.slice (some ⟨w.heap.size + 2, 0, none⟩) 0 0) 0 [] := fun o p => by
    have := World.ownsRow_lit (e := 29) (size := 1) (base := w.heap.size + 2) ((w.alloc o).alloc p) #[] 0 (by simp) (by unfold maxLen; omega) rfl
    rwa [show ((w.alloc o).alloc p).heap.size = w.heap.size + 2 by simp] at this
  have HF := Lib.hid hf3; clear hf3 hin
  have HO := Lib.hid hown0; clear hown0
  clear hat
  have HK := Lib.hid hk; clear hk
  cases hA : s.A with
  | none =>
    have hx0 : s.xs = [] := (HK.out hA).2
    have hc0 : s.c = 0 := (HK.out hA).1
    have hl0 : s.xs.length = 0 := by rw [hx0]; rfl
    rw [hA, hc0, hl0] at b1 c1
    have HX := Lib.hid hx0; have HL := Lib.hid hl0; clear hx0 hc0 hl0 hA HK
    go_enter Try.func79, Try.ntmps79
    go_wp2_with (at_builtin; refine wpList_append_own_none rfl _ _ _ rfl (w.heap.size + 2) 29 i0 1 Try.underlying38 hi (.slice (some ⟨w.heap.size + 2, 0, none⟩) 0 0) 0 [] rfl (HO.out _ _) rfl ?_)
    refine bodyPost_ret (v := .agg #[.string s.name, .slice (some ⟨w.heap.size + 2, 0, none⟩) s.xs.length 0, fl s.long, fl s.ramp, fl s.voice, fl s.noise]) ?_ rfl ⟨_, _, rfl, ?_, ?_⟩
    · simp [results, Try.results79, go_sem, HL.out]
    · rw [HX.out]
      exact ownsRow_less (HO.out _ _) (by omega)
    · exact ((bl_a w _).alloc (by simp) _).alloc (by simp; omega) _
  | some ad2 =>
    rw [hA] at b1 c1
    have hat2 : ∀ o p q, At (((w.alloc o).alloc p).alloc q) ad2 (s.xs.map fl) := fun o p q => Fs.some (hA ▸ HF.out o p q)
    have HA2 := Lib.hid hat2; clear hat2 hA HK
    go_enter Try.func79, Try.ntmps79
    go_wp2_with
      (at_builtin; refine wpList_append_own_at _ rfl _ _ _ rfl (w.heap.size + 2) 29 i0 (.float .f32 0) 1 4 Try.underlying38 hi hz0 hz1 hz2 rfl (by decide) (.slice (some ⟨w.heap.size + 2, 0, none⟩) 0 0) 0 [] rfl (HO.out _ _) ad2 s.xs.length s.c (s.xs.map fl) rfl (by simp) (HA2.out _ _ _) (one_fl s.xs) (by unfold maxLen; omega) (by omega) (by simp) ?_; intro v' w1 hown1 hgrow _ _
       have hown : OwnF w1 (w.heap.size + 2) v' s.xs := by rwa [Nat.zero_add, List.nil_append] at hown1
       have HBB := Lib.hid (grown_below (B := w.heap.size + 2) hgrow (by simp) fun g hg => by simp [Value.ownBlock] at hg; omega)
       obtain ⟨A', c', rfl, _⟩ := hown.reads
       have HOW := Lib.hid hown; clear hown hown1 hgrow
       have hb3 : Below (w.heap.size + 2) _ w1 := HBB.out
       have z1 : w.heap.size + 3 ≤ w1.heap.size := by have := hb3.size; simpa using this
       have r0 : w1.cell? ⟨w.heap.size, 0, none⟩ = some (.string ByteArray.empty) := blk_cell hb3 (by omega) (heap_31 _ _ _ _) rfl
       have r1 : w1.cell? ⟨w.heap.size, 1, none⟩ = some (.slice none 0 0) := blk_cell hb3 (by omega) (heap_31 _ _ _ _) rfl
       have r2 : w1.cell? ⟨w.heap.size, 2, none⟩ = some (fl 0) := blk_cell hb3 (by omega) (heap_31 _ _ _ _) rfl
       have r3 : w1.cell? ⟨w.heap.size, 3, none⟩ = some (fl 0) := blk_cell hb3 (by omega) (heap_31 _ _ _ _) rfl
       have r4 : w1.cell? ⟨w.heap.size, 4, none⟩ = some (fl 0) := blk_cell hb3 (by omega) (heap_31 _ _ _ _) rfl
       have r5 : w1.cell? ⟨w.heap.size, 5, none⟩ = some (fl 0) := blk_cell hb3 (by omega) (heap_31 _ _ _ _) rfl
       have o0 : w1.cell? ⟨w.heap.size + 1, 0, none⟩ = some (.string s.name) := blk_cell hb3 (by omega) (heap_32 _ _ _ _) rfl
       have o1 : w1.cell? ⟨w.heap.size + 1, 1, none⟩ = some _ := blk_cell hb3 (by omega) (heap_32 _ _ _ _) rfl
       have o2 : w1.cell? ⟨w.heap.size + 1, 2, none⟩ = some (fl s.long) := blk_cell hb3 (by omega) (heap_32 _ _ _ _) rfl
       have o3 : w1.cell? ⟨w.heap.size + 1, 3, none⟩ = some (fl s.ramp) := blk_cell hb3 (by omega) (heap_32 _ _ _ _) rfl
       have o4 : w1.cell? ⟨w.heap.size + 1, 4, none⟩ = some (fl s.voice) := blk_cell hb3 (by omega) (heap_32 _ _ _ _) rfl
       have o5 : w1.cell? ⟨w.heap.size + 1, 5, none⟩ = some (fl s.noise) := blk_cell hb3 (by omega) (heap_32 _ _ _ _) rfl
       have fr := fun j => blk_frozen hb3 (show w.heap.size < _ by omega) (heap_31 _ _ _ _) j
       have fo := fun j => blk_frozen hb3 (show w.heap.size + 1 < _ by omega) (heap_32 _ _ _ _) j
       have hbw := ((bl_a w _).alloc (by simp) _).alloc (by simp; omega) _ |>.trans (hb3.mono (by omega))
       clear hb3 HBB
       have HBW := Lib.hid hbw; clear hbw)
    refine bodyPost_ret (v := .agg #[.string s.name, .slice A' s.xs.length c', fl s.long, fl s.ramp, fl s.voice, fl s.noise]) ?_ rfl ⟨A', c', rfl, ?_, ?_⟩
    · simp [results, Try.results79, go_sem, r0, r1, r2, r3, r4, r5]
    · exact OwnF.less (base := w.heap.size + 2) (.set_ (.set_ (.set_ (.set_ (.set_ (.set_ (.set_ HOW.out (by simp)) (by simp)) (by simp)) (by simp)) (by simp)) (by simp)) (by simp)) (by omega)
    · exact (((((((HBW.out.setCell (by simp) _).setCell (by simp) _).setCell (by simp) _).setCell (by simp) _).setCell (by simp) _).setCell (by simp) _).setCell (by simp) _)

theorem blk_off {w : World} {base base' m : Nat} {v : Value} {ys : List Value} {s : Snd} (h : OwnF w base s.val s.xs) (h' : w.ownsRow base' 98 6 v m ys) : s.blk = none ∨ s.blk ≠ v.ownBlock := by
  rcases h'.2 with ⟨rfl, _⟩ | ⟨g, cap, cur, rfl, _⟩
  · cases hb : s.blk
    · exact .inl rfl
    · right; intro e; cases e
  · exact blk_row h h'
theorem one_cells (s : Snd) : ∀ u ∈ s.cells, u.oneCell' = true := by
  intro u hu
  simp [Snd.cells] at hu
  rcases hu with rfl | rfl | rfl | rfl | rfl | rfl <;> rfl
theorem news_cells (w : World) (s : Snd) (t : TypeId) : ∀ j u, s.cells[j]? = some u → (w.alloc (.cells s.cells.toArray t)).cell? ((⟨w.heap.size, 0, none⟩ : Addr).add j) = some u := by
  intro j u hu
  have := box_cell (w := w) (cs := s.cells.toArray) (t := t) (fz := (0, 0)) (j := j) (v := u) (Below.refl _ _) (by simpa using hu)
  rw [← this]
  unfold Addr.add
  cases j <;> simp

set_option maxRecDepth 20000 in
set_option maxHeartbeats 1000000 in
theorem l06Own_any (A : Option Addr) (c : Nat) (ss : List Snd) (w : World) (B : Nat) (hB : B ≤ w.heap.size) (hx : Snds w B A ss) (hm : ss.length ≤ 1048576) (hk : ∀ s ∈ ss, s.kept) :
    Calls Try.prog 61 #[.slice A ss.length c] w fun e w' => ∃ v ts, e = .returned v ∧ sames ss ts ∧ OwnS w' w.heap.size v ts ∧ Below w.heap.size w w' := by
  obtain ⟨i0, hi, hz0, hz1, hz2⟩ := info_parts infoS
  have HX := Lib.hid hx; clear hx
  have HK := Lib.hid hk; clear hk
  have hown0 : (w.alloc (.cells #[] 98)).ownsRow w.heap.size 98 6 (.slice (some ⟨w.heap.size, 0, none⟩) 0 0) 0 [] := World.ownsRow_lit _ #[] 0 (Nat.le_refl _) (by unfold maxLen; omega) rfl
  have HO := Lib.hid hown0; clear hown0
  go_enter Try.func61, Try.ntmps61
  go_wp2_with fail
  go_loopw [3, 4] (fun v i wr => ∃ (n : Nat) (ts : List Snd), n ≤ ss.length ∧ i = .int .i64 n ∧ sames (ss.take n) ts ∧ wr.ownsRow w.heap.size 98 6 v n (ts.flatMap Snd.cells) ∧
    (∀ t ∈ ts, OwnF wr w.heap.size t.val t.xs) ∧ (ts.Pairwise fun s t => s.blk = none ∨ s.blk ≠ t.blk) ∧ Below w.heap.size w wr) (fun _ i _ => ss.length - (intOf i).toNat)
  case atStart => exact ⟨0, [], Nat.zero_le _, rfl, rfl, HO.out, by simp, .nil, bl_a _ _⟩
  case round =>
    obtain ⟨n, ts, hn, rfl, hsam, hown, heach, hap, hb⟩ := hrel
    have hsz := hb.size
    by_cases hlt : n < ss.length
    · obtain ⟨ad, hA, hadB, hat, hin⟩ := (HX.out.below' hb hB).at_ hlt
      subst hA
      have HI := Lib.hid hin; have HA := Lib.hid hat; clear hin hat
      have HS := Lib.hid hsam; clear hsam
      have HW := Lib.hid hown; clear hown
      have HE := Lib.hid heach; clear heach
      have HP := Lib.hid hap; clear hap
      have HB := Lib.hid hb; clear hb
      have hkn := HK.out _ (List.getElem_mem hlt)
      go_wp2_with fail
      refine (l06Copy_any ss[n] _ _ B (by omega) (by rw [add_block]; exact hadB) HA.out HI.out hkn).mono ?_
      rintro e w1 ⟨A', c', rfl, hown1, hb1⟩
      have z1 := hb1.size
      have hrow := own_below HW.out hb1 fun k hk => (World.ownsRow.lt HW.out k hk).2
      have HR := Lib.hid hrow; clear hrow
      have HO1 := Lib.hid hown1; clear hown1
      have HB1 := Lib.hid hb1; clear hb1 hkn
      obtain ⟨t, ht⟩ : ∃ t : Snd, t = { ss[n] with A := A', c := c' } := ⟨_, rfl⟩
      have e0 : ss[n].name = t.name := by rw [ht]
      have e1 : Value.slice A' ss[n].xs.length c' = .slice t.A t.xs.length t.c := by rw [ht]
      have e2 : ss[n].long = t.long := by rw [ht]
      have e3 : ss[n].ramp = t.ramp := by rw [ht]
      have e4 : ss[n].voice = t.voice := by rw [ht]
      have e5 : ss[n].noise = t.noise := by rw [ht]
      have hbare : ss[n].bare = t.bare := by rw [ht]; rfl
      have hownt : OwnF w1 wr.heap.size t.val t.xs := by rw [ht]; exact HO1.out
      have HT := Lib.hid hownt; clear hownt
      have HBa := Lib.hid hbare; clear hbare ht
      rw [e0, e1, e2, e3, e4, e5]
      clear e0 e1 e2 e3 e4 e5
      go_wp2_with (at_builtin; refine wpList_append_own_at _ rfl _ _ _ rfl w.heap.size 98 i0 _ 6 56 Try.underlying31 hi hz0 hz1 hz2 rfl (by decide) _ _ (ts.flatMap Snd.cells) rfl (HR.out.alloc _) ⟨w1.heap.size, 0, none⟩ 1 1 t.cells rfl rfl (news_cells w1 t _) (one_cells t) (by unfold maxLen; omega) (by omega) (by simp; omega) ?_; intro v' w2 hown2 hgrow _ _)
      have hg2 : (w1.alloc (.cells t.cells.toArray 98)).grownBy w2 u3.ownBlock := hgrow
      have hb2 : Below w.heap.size w1 w2 := ((Below.refl _ _).alloc (by omega) _).trans (grown_below hg2 (by simp; omega) fun g hg => (World.ownsRow.lt HR.out g hg).1)
      have HB2 := Lib.hid hb2; clear hb2
      have HG := Lib.hid hg2; clear hg2 hgrow
      have HO2 := Lib.hid hown2; clear hown2
      go_roundw
      case rel =>
        refine ⟨n + 1, ts ++ [t], by omega, by go_num, ?_, ?_, ?_, ?_, ?_⟩
        · rw [List.take_succ_eq_append_getElem hlt]; exact sames_snoc HS.out HBa.out
        · rw [List.flatMap_append]; simpa using HO2.out
        · intro s hs
          rcases List.mem_append.1 hs with hs | hs
          · have h1 := (HE.out s hs).below HB1.out
            exact (h1.alloc _).kept HG.out (blk_off h1 HR.out)
          · simp at hs; subst hs
            exact ((HT.out.alloc _).kept HG.out (blk_off HT.out HR.out)).less hsz
        · refine apart_snoc HP.out fun s hs => ?_
          cases hbk : s.blk with
          | none => exact .inl rfl
          | some b =>
            right
            have h1 := (World.ownsRow.lt (HE.out s hs) b hbk).2
            intro h
            have h2 := (World.ownsRow.lt HT.out b (show t.val.ownBlock = some b from h.symm)).1
            omega
        · exact HB.out.trans ((HB1.out.mono hsz).trans HB2.out)
      case measure => simp [intOf]; omega
    · rw [List.take_of_length_le (by omega)] at hsam
      have hl := sames_len hsam
      have hln : n = ts.length := by omega
      subst hln
      have HS := Lib.hid hsam; clear hsam
      have HW := Lib.hid hown; clear hown
      have HE := Lib.hid heach; clear heach
      have HP := Lib.hid hap; clear hap
      have HB := Lib.hid hb; clear hb
      have HL := Lib.hid hl; clear hl
      go_wp2
      go_ret
      exact ⟨_, ts, rfl, HS.out, ⟨HW.out, HE.out, sames_few HS.out ⟨hm, fun s hs => (HX.out.2 s hs).2⟩, HP.out⟩, HB.out⟩
end Go.Proofs.Ythmkbgiandncnaa
