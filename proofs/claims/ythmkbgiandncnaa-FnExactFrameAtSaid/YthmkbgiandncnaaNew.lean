/- New desks, the reference's and the program's. -/
import Derived.Test.YthmkbgiandncnaaVec
import Derived.Test.YthmkbgiandncnaaCl2
import Derived.Laws.CopyOwn
import Derived.Deep.RegionLaw
namespace Go.Proofs.Ythmkbgiandncnaa
open Go.RowKit

abbrev one : Nat := 1065353216
abbrev q3 : Nat := 1061158912
abbrev m78 : Nat := 3210739712

set_option maxHeartbeats 400000 in
theorem l02New_any (A : Option Addr) (n c : Nat) (w : World) :
    Calls Try.prog 120 #[.slice A n c] w fun e w' => e = .returned (.agg #[.slice A n c, fl one, fl q3, fl m78]) ∧ Below w.heap.size w w' := by
  go_enter Try.func120, Try.ntmps120
  go_wp2_with fail
  refine bodyPost_ret (v := .agg #[.slice A n c, fl one, fl q3, fl m78]) ?_ rfl ⟨rfl, bl_a _ _⟩
  simp [results, Try.results120, go_sem]

set_option maxRecDepth 20000 in
set_option maxHeartbeats 1000000 in
theorem l02Even_any (n : Nat) (x : Nat) (w : World) (hn : n ≤ 16) :
    Calls Try.prog 69 #[.int .i64 n, fl x] w fun e w' => ∃ A c, e = .returned (.agg #[.slice A n c, fl one, fl q3, fl m78]) ∧ OwnF w' w.heap.size (.slice A n c) (List.replicate n x) ∧ Below w.heap.size w w' := by
  obtain ⟨i0, hi, hz0, hz1, hz2⟩ := info_parts infoF
  have hown0 : ∀ o, ((w.alloc o).alloc (.cells #[] 29)).ownsRow (w.heap.size + 1) 29 1 (.slice (some ⟨w.heap.size + 1, 0, none⟩) 0 0) 0 [] := fun o => by
    have := World.ownsRow_lit (e := 29) (size := 1) (base := w.heap.size + 1) (w.alloc o) #[] 0 (by simp) (by unfold maxLen; omega) rfl
    rwa [show (w.alloc o).heap.size = w.heap.size + 1 by simp] at this
  have HO := Lib.hid hown0; clear hown0
  go_enter Try.func69, Try.ntmps69
  go_wp2_with fail
  generalize hwz : World.alloc (World.alloc _ _) _ = wz
  have hblk : Blk wz w.heap.size 40 #[.slice none 0 0, fl 0, fl 0, fl 0] := by rw [← hwz]; exact Blk.alloc (heap_1 _ _) _
  have hb0 : Below w.heap.size w wz := by rw [← hwz]; exact (bl_a w _).alloc (by simp) _
  have ho0 : wz.ownsRow (w.heap.size + 1) 29 1 (.slice (some ⟨w.heap.size + 1, 0, none⟩) 0 0) 0 [] := by rw [← hwz]; exact HO.out _
  have hz0' : w.heap.size + 2 ≤ wz.heap.size := by rw [← hwz]; simp
  have HK := Lib.hid hblk; have HB0 := Lib.hid hb0; have HO0 := Lib.hid ho0; clear hblk hb0 ho0 hwz HO
  go_loopw [5, 6] (fun v i wr => ∃ k : Nat, k ≤ n ∧ i = .int .i64 k ∧ wr.ownsRow (w.heap.size + 1) 29 1 v k ((List.replicate k x).map fl) ∧ Blk wr w.heap.size 40 #[.slice none 0 0, fl 0, fl 0, fl 0] ∧ w.heap.size + 2 ≤ wr.heap.size ∧ Below w.heap.size w wr) (fun _ i _ => n - (intOf i).toNat)
  case atStart => exact ⟨0, Nat.zero_le _, rfl, HO0.out, HK.out, hz0', HB0.out⟩
  case round =>
    obtain ⟨k, hk, rfl, hown, hbk, hsz, hb⟩ := hrel
    by_cases hlt : k < n
    · have HO := Lib.hid hown; have HKr := Lib.hid hbk; have HB := Lib.hid hb; clear hown hbk hb
      go_wp2_with (at_builtin; refine wpList_append_own_at _ rfl _ _ _ rfl (w.heap.size + 1) 29 i0 (.float .f32 0) 1 4 Try.underlying38 hi hz0 hz1 hz2 rfl (by decide) _ k _ rfl (HO.out.alloc _) ⟨wr.heap.size, 0, none⟩ 1 1 [fl x] rfl rfl (cell_one_new wr (fl x) _) (one_fl [x]) (by unfold maxLen; omega) (by omega) (by simp; omega) ?_; intro v' w2 hown2 hgrow _ _)
      have hg2 : (wr.alloc (.cells #[fl x] 29)).grownBy w2 u5.ownBlock := hgrow
      have hne : ∀ g, u5.ownBlock = some g → w.heap.size + 1 ≤ g := fun g hg => (World.ownsRow.lt HO.out g hg).1
      have hb2 : Below (w.heap.size + 1) wr w2 := ((Below.refl _ _).alloc (by omega) _).trans (grown_below hg2 (by simp; omega) hne)
      have HB2 := Lib.hid hb2; clear hb2 hne hg2 hgrow
      have HO2 := Lib.hid hown2; clear hown2
      go_roundw
      case rel =>
        refine ⟨k + 1, by omega, by go_num, ?_, HKr.out.below' HB2.out (by omega), by have := HB2.out.size; omega, HB.out.trans (HB2.out.mono (by omega))⟩
        rw [List.replicate_succ', List.map_append]
        exact HO2.out
      case measure => simp [intOf]; omega
    · have hkn : k = n := by omega
      subst hkn
      have hfin : OwnF wr (w.heap.size + 1) u5 (List.replicate k x) := by unfold OwnF; rw [List.length_replicate]; exact hown
      obtain ⟨A, c, rfl, _⟩ := hfin.reads
      rw [List.length_replicate] at hfin
      have HF := Lib.hid hfin; have HKr := Lib.hid hbk; have HB := Lib.hid hb; clear hfin hown hbk hb
      simp only [List.length_replicate]
      go_wp2_with fail
      refine (l02New_any A k c wr).mono ?_
      rintro e w1 ⟨rfl, hb1⟩
      have hK1 := HKr.out.below hb1
      have r0 : w1.cell? ⟨w.heap.size, 0, none⟩ = some (.slice none 0 0) := hK1.cell_ (j := 0) rfl
      have r1 : w1.cell? ⟨w.heap.size, 1, none⟩ = some (fl 0) := hK1.cell_ (j := 1) rfl
      have r2 : w1.cell? ⟨w.heap.size, 2, none⟩ = some (fl 0) := hK1.cell_ (j := 2) rfl
      have r3 : w1.cell? ⟨w.heap.size, 3, none⟩ = some (fl 0) := hK1.cell_ (j := 3) rfl
      have fr := hK1.froz
      have hF1 := HF.out.below hb1
      have z1 := hb1.size
      have HF1 := Lib.hid hF1; have HB1 := Lib.hid (HB.out.trans (hb1.mono (by omega))); clear hF1 hb1 hK1
      go_wp2_with fail
      refine bodyPost_ret (v := .agg #[.slice A k c, fl one, fl q3, fl m78]) ?_ rfl ⟨A, c, rfl, ?_, ?_⟩
      · simp [results, Try.results69, go_sem, r0, r1, r2, r3]
      · exact OwnF.less (base := w.heap.size + 1) (.set_ (.set_ (.set_ (.set_ HF1.out (by simp)) (by simp)) (by simp)) (by simp)) (by omega)
      · exact (((HB1.out.setCell (by simp) _).setCell (by simp) _).setCell (by simp) _).setCell (by simp) _

set_option maxHeartbeats 1000000 in
theorem bitsMul64_14 (w : World) : Calls Try.prog 181 #[.int .u64 1, .int .u64 4] w fun e w' => e = .returned (.tuple #[.int .u64 0, .int .u64 4]) ∧ w = w' := by
  go_enter Try.func181, Try.ntmps181
  go_wp2
  go_ret2
  exact ⟨rfl, rfl⟩
set_option maxHeartbeats 1000000 in
theorem bitsMul_14 (w : World) : Calls Try.prog 165 #[.int .u64 1, .int .u64 4] w fun e w' => e = .returned (.tuple #[.int .u64 0, .int .u64 4]) ∧ w = w' := by
  go_enter Try.func165, Try.ntmps165
  go_wp2_with fail
  refine (bitsMul64_14 _).mono ?_
  rintro e w' ⟨rfl, rfl⟩
  go_wp2
  go_ret2
  exact ⟨rfl, rfl⟩

theorem own_blk {w : World} {base e g n : Nat} {xs : List Value} (h : w.ownsRow base e 1 (.slice (some ⟨g, 0, none⟩) n n) n xs) : Blk w g e xs.toArray := by
  rcases h.2 with ⟨h2, _⟩ | ⟨g', cap', cur, hv, _, hh, _, _, h3, h4⟩
  · cases h2
  · injection hv with e1 _ e3
    injection e1 with e1
    injection e1 with e1 _ _
    subst e1; subst e3
    have hc : cur.toList = xs := by
      rw [← h4, List.take_of_length_le (by simp [h3])]
    unfold Blk
    rw [hh, ← hc]
theorem Blk.own {w : World} {base e g n : Nat} {xs : List Value} (h : Blk w g e xs.toArray) (hb : base ≤ g) (hn : xs.length = n) (hm : n ≤ maxLen) : w.ownsRow base e 1 (.slice (some ⟨g, 0, none⟩) n n) n xs :=
  ⟨by omega, .inr ⟨g, n, xs.toArray, rfl, hb, h, Nat.le_refl _, hm, by simp [hn], by rw [Nat.mul_one, ← hn]; simp⟩⟩

def rep4 (n x : Nat) : List Value := (List.replicate n x ++ List.replicate (4 - n) 0).map fl
theorem src_one {w w0 : World} {B : Nat} {ad : Addr} {v : Value} (hb : Below B w w0) (hlt : ad.block < B) (hc : w.cell? ad = some v) : ∀ j u, [v][j]? = some u → w0.cell? (ad.add j) = some u := by
  intro j u hj
  have : j = 0 := by have := lt_of_some hj; simpa using this
  subst this
  rw [add_zero', hb.cell hlt, hc, ← hj]; rfl

set_option maxRecDepth 20000 in
set_option maxHeartbeats 2000000 in
theorem Repeat14_any (x : Nat) (ad : Addr) (c : Nat) (w : World) (hc : w.cell? ad = some (fl x)) (hlt : ad.block < w.heap.size) :
    Calls Try.prog 123 #[.slice (some ad) 1 c, .int .i64 4] w fun e w' => e = .returned (.slice (some ⟨w.heap.size, 0, none⟩) 4 4) ∧ OwnF w' w.heap.size (.slice (some ⟨w.heap.size, 0, none⟩) 4 4) [x, x, x, x] ∧ Below w.heap.size w w' := by
  obtain ⟨i0, hi, hz0, hz1, hz2⟩ := info_parts infoF
  have hsz1 : (Try.prog.info? 29).map (·.size) = some 1 := by rw [hi]; simp [hz1]
  have HC := Lib.hid hc; clear hc
  go_enter Try.func123, Try.ntmps123
  go_wp2_with fail
  refine (bitsMul_14 w).mono ?_
  rintro e w' ⟨rfl, rfl⟩
  go_wp2_with (first
    | (at_make; refine wpList_make_full _ rfl _ _ 38 rfl w.heap.size 29 i0 (.float .f32 0) 1 Try.underlying38 hi hz0 hz1 .i64 .i64 _ _ 4 rfl rfl rfl rfl (by rw [hz2]; omega) (by unfold maxLen; omega) (Nat.le_refl _) ?_; intro w0 hown hg
       rw [madeF] at hown
       have hblk := own_blk hown
       have hb0 : Below w.heap.size w w0 := (Below.refl _ _).grown hg (Nat.le_refl _) (by simp)
       have HK := Lib.hid hblk; have HB0 := Lib.hid hb0; clear hown hblk hb0 hg)
    | (refine wpList_copy_splice (o := ⟨some 33, _, _, _, _, _⟩) rfl (.tmp 31) (.tmp 32) 38 38 rfl 29 Try.underlying38 hsz1 (some ⟨w.heap.size, 0, none⟩) (some ad) 4 4 1 c rfl rfl w.heap.size 0 ((List.replicate 4 0).map fl) 29 HK.out [fl x] rfl (fun _ => ⟨rfl, ad, rfl, src_one HB0.out hlt HC.out⟩) (by simp) (one_fl [x]) w.heap.size w HB0.out (Nat.le_refl _) ?_; intro w1 hk1 hb1
       have HB1 := Lib.hid hb1; clear hb1))
  have hk1' : Blk w1 w.heap.size 29 (rep4 1 x).toArray := hk1.out
  have HK1 := Lib.hid hk1'; clear hk1' hk1
  go_loopw [8] (fun i wr => ∃ n : Nat, (n = 1 ∨ n = 2 ∨ n = 4) ∧ i = .int .i64 n ∧ Blk wr w.heap.size 29 (rep4 n x).toArray ∧ Below w.heap.size w wr) (fun i _ => 4 - (intOf i).toNat)
  case atStart => exact ⟨1, .inl rfl, rfl, HK1.out, HB1.out⟩
  case round =>
    obtain ⟨n, hn, rfl, hk, hb⟩ := hrel
    have HKr := Lib.hid hk; have HB := Lib.hid hb; clear hk hb
    rcases hn with rfl | rfl | rfl
    · have hsrc : ∀ j v, [fl x][j]? = some v → wr.drew.cell? ((⟨w.heap.size, 0, none⟩ : Addr).add j) = some v := by
        intro j v hj
        have hj0 : j = 0 := by have := lt_of_some hj; simpa using this
        subst hj0
        rw [add_zero']
        exact (HKr.out.cell_ (j := 0) rfl).trans hj
      have HSr := Lib.hid hsrc; clear hsrc
      go_wp2_with fail
      go_region_law (refine step_copy_splice rfl (.tmp 41) (.tmp 44) 38 38 rfl 29 Try.underlying38 hsz1 (some ⟨w.heap.size, 1, none⟩) (some ⟨w.heap.size, 0, none⟩) 3 3 1 4 (by simp [Act.eval, Act.put]) (by simp [Act.eval, Act.put]) w.heap.size 1 (rep4 1 x) 29 (show wr.drew.heap[w.heap.size]? = _ from HKr.out) [fl x] rfl (fun _ => ⟨rfl, _, rfl, HSr.out⟩) (by simp [rep4]) (one_fl [x]) w.heap.size w (show Below w.heap.size w wr.drew from drewN_below HB.out 1) (Nat.le_refl _) ?_; intro w2 hk2 hb2)
      all_goals
        have HK2 := Lib.hid (show Blk w2 w.heap.size 29 (rep4 2 x).toArray from hk2.out)
        have HB2 := Lib.hid hb2
        clear hk2 hb2
        rw [show IntKind.i64.wrap 2 = 2 by decide]
        simp only [Act.put, List.getElem_toArray, List.getElem_cons_zero, List.getElem_cons_succ, List.setIfInBounds_toArray, List.set_cons_succ, List.set_cons_zero]
        go_roundw
        case rel => exact ⟨_, _, _, _, _, _, _, _, _, _, _, _, _, _, ⟨2, by omega, rfl, HK2.out, HB2.out⟩, rfl⟩
        case measure => simp [intOf]
    · have hsrc : ∀ j v, [fl x, fl x][j]? = some v → wr.drew.cell? ((⟨w.heap.size, 0, none⟩ : Addr).add j) = some v := by
        intro j v hj
        have hj0 : j < 2 := by have := lt_of_some hj; simpa using this
        rcases (show j = 0 ∨ j = 1 by omega) with rfl | rfl
        · rw [add_zero']
          exact (HKr.out.cell_ (j := 0) rfl).trans hj
        · exact (HKr.out.cell_ (j := 1) rfl).trans hj
      have HSr := Lib.hid hsrc; clear hsrc
      go_wp2_with fail
      go_region_law (refine step_copy_splice rfl (.tmp 41) (.tmp 44) 38 38 rfl 29 Try.underlying38 hsz1 (some ⟨w.heap.size, 2, none⟩) (some ⟨w.heap.size, 0, none⟩) 2 2 2 4 (by simp [Act.eval, Act.put]) (by simp [Act.eval, Act.put]) w.heap.size 2 (rep4 2 x) 29 (show wr.drew.heap[w.heap.size]? = _ from HKr.out) [fl x, fl x] rfl (fun _ => ⟨rfl, _, rfl, HSr.out⟩) (by simp [rep4]) (one_fl [x, x]) w.heap.size w (show Below w.heap.size w wr.drew from drewN_below HB.out 1) (Nat.le_refl _) ?_; intro w2 hk2 hb2)
      all_goals
        have HK2 := Lib.hid (show Blk w2 w.heap.size 29 (rep4 4 x).toArray from hk2.out)
        have HB2 := Lib.hid hb2
        clear hk2 hb2
        rw [show IntKind.i64.wrap 4 = 4 by decide]
        simp only [Act.put, List.getElem_toArray, List.getElem_cons_zero, List.getElem_cons_succ, List.setIfInBounds_toArray, List.set_cons_succ, List.set_cons_zero]
        go_roundw
        case rel => exact ⟨_, _, _, _, _, _, _, _, _, _, _, _, _, _, ⟨4, by omega, rfl, HK2.out, HB2.out⟩, rfl⟩
        case measure => simp [intOf]
    · go_wp2
      go_ret
      exact ⟨rfl, Blk.own (n := 4) HKr.out (Nat.le_refl _) rfl (by unfold maxLen; omega), HB.out⟩
end Go.Proofs.Ythmkbgiandncnaa
