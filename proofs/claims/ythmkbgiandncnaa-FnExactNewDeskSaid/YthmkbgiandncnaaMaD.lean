/- The laws' marks: desks without sounds. -/
import Derived.Test.YthmkbgiandncnaaNe3
import Derived.Test.YthmkbgiandncnaaLVa
import Derived.Test.YthmkbgiandncnaaDel
namespace Go.Proofs.Ythmkbgiandncnaa
open Go.RowKit

theorem Turn.of_below {b : Option Nat} {w w' : World} (h : Below w.heap.size w w') : Turn b w w' := ⟨h.os, h.tape, h.output, h.size, fun k hk _ => h.block k hk⟩
theorem Turn.alloc (b : Option Nat) (w : World) (o : Obj) : Turn b w (w.alloc o) := .of_below (bl_a w o)
theorem Turn.cell {b : Option Nat} {w w' : World} (h : Turn b w w') {p : Addr} (hp : p.block < w.heap.size) (hb : b ≠ some p.block) : w'.cell? p = w.cell? p := by
  unfold World.cell?
  rw [h.block p.block hp hb]
theorem Turn.blk {b : Option Nat} {w w' : World} (h : Turn b w w') {g : Nat} {t : TypeId} {cs : Array Value} (hp : Blk w g t cs) (hb : b ≠ some g) : Blk w' g t cs := (h.block g hp.lt hb).trans hp

set_option maxHeartbeats 400000 in
theorem markTube_any (v : Value) (l t p : Nat) (xs : List Nat) (k : Nat) (w : World) (base : Nat) (ho : OwnF w base v xs) (hm : xs.length ≤ 1048576) (hk : k ≤ 4398046511104) :
    Calls Try.prog 74 #[.agg #[v, fl l, fl t, fl p], .int .i64 k] w fun e w' => e = .returned (.int .i64 (k + xs.length : Nat)) ∧ OwnF w' base v (marks k xs.length) ∧ Turn v.ownBlock w w' := by
  obtain ⟨A, c, rfl, _⟩ := ho.reads
  have HO := Lib.hid (ho.alloc (.cells #[.slice A xs.length c, fl l, fl t, fl p] 40)); clear ho
  go_enter Try.func74, Try.ntmps74
  go_wp2_with fail
  refine (markOwn_any _ xs k _ base HO.out hm hk).mono ?_
  rintro e w' ⟨rfl, h1, h2⟩
  have H1 := Lib.hid h1; have H2 := Lib.hid ((Turn.alloc _ w _).trans h2); clear h1 h2
  go_wp2_with fail
  go_ret
  exact ⟨rfl, H1.out, H2.out⟩
set_option maxHeartbeats 400000 in
theorem markPredictor_any (v : Value) (l : Nat) (xs : List Nat) (k : Nat) (w : World) (base : Nat) (ho : OwnF w base v xs) (hm : xs.length ≤ 1048576) (hk : k ≤ 4398046511104) :
    Calls Try.prog 75 #[.agg #[v, fl l], .int .i64 k] w fun e w' => e = .returned (.int .i64 (k + xs.length : Nat)) ∧ OwnF w' base v (marks k xs.length) ∧ Turn v.ownBlock w w' := by
  obtain ⟨A, c, rfl, _⟩ := ho.reads
  have HO := Lib.hid (ho.alloc (.cells #[.slice A xs.length c, fl l] 44)); clear ho
  go_enter Try.func75, Try.ntmps75
  go_wp2_with fail
  refine (markOwn_any _ xs k _ base HO.out hm hk).mono ?_
  rintro e w' ⟨rfl, h1, h2⟩
  have H1 := Lib.hid h1; have H2 := Lib.hid ((Turn.alloc _ w _).trans h2); clear h1 h2
  go_wp2_with fail
  go_ret
  exact ⟨rfl, H1.out, H2.out⟩
set_option maxHeartbeats 400000 in
theorem heldTube_any (A : Option Addr) (c n l t p k : Nat) (w : World) (B : Nat) (hB : B ≤ w.heap.size) (hx : Fs w B A (marks k n)) (hm : n ≤ 1048576) (hk : k ≤ 4398046511104) :
    Calls Try.prog 76 #[.agg #[.slice A n c, fl l, fl t, fl p], .int .i64 k] w fun e w' => e = .returned (.int .i64 (k + n : Nat)) ∧ Below w.heap.size w w' := by
  have HX := Lib.hid (fun o => hx.alloc hB o); clear hx
  go_enter Try.func76, Try.ntmps76
  go_wp2_with fail
  refine (heldFloat32S_any A c n k _ B (HX.out _) hm hk).mono ?_
  rintro e w' ⟨rfl, rfl⟩
  go_wp2_with fail
  go_ret
  exact ⟨rfl, bl_a _ _⟩
set_option maxHeartbeats 400000 in
theorem heldPredictor_any (A : Option Addr) (c n l k : Nat) (w : World) (B : Nat) (hB : B ≤ w.heap.size) (hx : Fs w B A (marks k n)) (hm : n ≤ 1048576) (hk : k ≤ 4398046511104) :
    Calls Try.prog 77 #[.agg #[.slice A n c, fl l], .int .i64 k] w fun e w' => e = .returned (.int .i64 (k + n : Nat)) ∧ Below w.heap.size w w' := by
  have HX := Lib.hid (fun o => hx.alloc hB o); clear hx
  go_enter Try.func77, Try.ntmps77
  go_wp2_with fail
  refine (heldFloat32S_any A c n k _ B (HX.out _) hm hk).mono ?_
  rintro e w' ⟨rfl, rfl⟩
  go_wp2_with fail
  go_ret
  exact ⟨rfl, bl_a _ _⟩
set_option maxHeartbeats 400000 in
theorem markNone_any (A : Option Addr) (c k : Nat) (w : World) :
    Calls Try.prog 21 #[.slice A 0 c, .int .i64 k] w fun e w' => e = .returned (.int .i64 k) ∧ w = w' := by
  go_enter Try.func21, Try.ntmps21
  go_wp2
  go_loopw [1, 5] (fun i j wr => i = .int .i64 k ∧ j = .int .i64 0 ∧ wr = w) (fun _ _ _ => 0)
  case atStart => exact ⟨rfl, rfl, rfl⟩
  case round =>
    obtain ⟨rfl, rfl, rfl⟩ := hrel
    go_wp2
    go_ret
    exact ⟨rfl, rfl⟩
set_option maxHeartbeats 400000 in
theorem heldNone_any (A : Option Addr) (c k : Nat) (w : World) :
    Calls Try.prog 22 #[.slice A 0 c, .int .i64 k] w fun e w' => e = .returned (.int .i64 k) ∧ w = w' := by
  go_enter Try.func22, Try.ntmps22
  go_wp2
  go_loopw [1, 5] (fun i j wr => i = .int .i64 k ∧ j = .int .i64 0 ∧ wr = w) (fun _ _ _ => 0)
  case atStart => exact ⟨rfl, rfl, rfl⟩
  case round =>
    obtain ⟨rfl, rfl, rfl⟩ := hrel
    go_wp2
    go_ret
    exact ⟨rfl, rfl⟩

/-- a desk, marked from k on: its lists of numbers -/
def Dsk.mk' (d : Dsk) (k : Nat) : Dsk := { d with txs := marks k d.txs.length, pxs := marks (k + d.txs.length) d.pxs.length }
theorem mk_tv (d : Dsk) (k : Nat) : (d.mk' k).tv = d.tv := by simp [Dsk.tv, Dsk.mk', marks_len]
theorem mk_pv (d : Dsk) (k : Nat) : (d.mk' k).pv = d.pv := by simp [Dsk.pv, Dsk.mk', marks_len]
/-- a desk without sounds whose blocks lie in [lo, hi) -/
structure HasD (w : World) (lo hi : Nat) (d : Dsk) : Prop where
  own : OwnD w lo d
  non : d.ss = []
  tt : ∀ g, d.tv.ownBlock = some g → g < hi
  pt : ∀ g, d.pv.ownBlock = some g → g < hi
  st : ∀ g, d.sv.ownBlock = some g → g < hi
  le : hi ≤ w.heap.size
section
variable {w w' : World} {lo hi a b : Nat} {d : Dsk}
theorem HasD.of (h : OwnD w lo d) (hn : d.ss = []) : HasD w lo w.heap.size d := ⟨h, hn, fun _ hg => h.t.lt hg, fun _ hg => h.p.lt hg, fun g hg => (World.ownsRow.lt h.s.row g hg).2, Nat.le_refl _⟩
theorem HasD.below (h : HasD w lo hi d) (hb : Below w.heap.size w w') : HasD w' lo hi d := ⟨h.own.below hb, h.non, h.tt, h.pt, h.st, Nat.le_trans h.le hb.size⟩
theorem HasD.only (h : HasD w lo hi d) (ho : Only a b w w') (hd : hi ≤ a ∨ b ≤ lo) : HasD w' lo hi d := by
  have e : ∀ g, lo ≤ g → g < hi → g < a ∨ b ≤ g := fun g h1 h2 => by omega
  refine ⟨⟨own_only h.own.t ho fun g hg => e g (h.own.t.ge hg) (h.tt g hg), own_only h.own.p ho fun g hg => e g (h.own.p.ge hg) (h.pt g hg), ⟨own_only h.own.s.row ho fun g hg => e g (World.ownsRow.lt h.own.s.row g hg).1 (h.st g hg), fun s hs => ?_, h.own.s.few, h.own.s.apart⟩, h.own.few, h.own.tp, h.own.ts, h.own.ps⟩, h.non, h.tt, h.pt, h.st, Nat.le_trans h.le ho.size⟩
  rw [h.non] at hs; cases hs
theorem Only.cell (h : Only a b w w') {p : Addr} (hp : p.block < w.heap.size) (hb : p.block < a ∨ b ≤ p.block) : w'.cell? p = w.cell? p := by
  unfold World.cell?
  rw [h.block p.block hp hb]
theorem D12.only {g : Nat} (h : D12 w g d) (ho : Only a b w w') (hg : g < w.heap.size) (hb : g < a ∨ b ≤ g) : D12 w' g d := by
  have k : ∀ j, w'.cell? ⟨g, j, none⟩ = w.cell? ⟨g, j, none⟩ := fun j => ho.cell (p := ⟨g, j, none⟩) hg hb
  unfold D12 at *
  simp only [k]
  exact h
end

/-- two rows of two types, whichever their base -/
theorem rowoff {w w1 w2 : World} {base e n : Nat} {v a b : Value} {xs ys : List Nat} (h : w.ownsRow base 98 6 v n []) (ha : OwnF w e a xs) (hb : OwnF w e b ys) (h1 : Turn a.ownBlock w w1) (h2 : Turn b.ownBlock w1 w2) : w2.ownsRow base 98 6 v n [] := by
  rcases h.2 with ⟨rfl, rfl⟩ | ⟨g, cap, cur, rfl, hg⟩
  · exact ⟨h.1, .inl ⟨rfl, rfl⟩⟩
  · have na : a.ownBlock ≠ some g := by
      intro e1
      rcases ha.form with ⟨rfl, _⟩ | ⟨b1, c1, rfl, _⟩
      · cases e1
      · have : b1 = g := by simpa [Value.ownBlock] using e1
        exact row_ne (by decide) ha h this
    have nb : b.ownBlock ≠ some g := by
      intro e1
      rcases hb.form with ⟨rfl, _⟩ | ⟨b1, c1, rfl, _⟩
      · cases e1
      · have : b1 = g := by simpa [Value.ownBlock] using e1
        exact row_ne (by decide) hb h this
    exact row_turn (row_turn h h1 na) h2 nb

set_option maxHeartbeats 2000000 in
theorem markDesk_any (d : Dsk) (w : World) (lo hi : Nat) (h : HasD w lo hi d) :
    Calls Try.prog 26 #[.agg d.cells.toArray, .int .i64 1] w fun e w' => e = .returned (.int .i64 (1 + d.txs.length + d.pxs.length : Nat)) ∧ HasD w' lo hi (d.mk' 1) ∧ Only lo hi w w' := by
  have hs0 : d.ss.length = 0 := by rw [h.non]; rfl
  have hfew := h.own.few
  have hm := hfew.1; have hm2 := hfew.2.1
  have H := Lib.hid h; clear h hfew
  have hbx : D12 (w.alloc (.cells d.cells.toArray 46)) w.heap.size d := D12.box
  unfold Dsk.cells at hbx ⊢
  rw [hs0] at hbx ⊢
  have HBx := Lib.hid hbx; clear hbx
  go_enter Try.func26, Try.ntmps26
  obtain ⟨h0, h1, h2, h3, h4, h5, h6, h7, h8, h9, h10, h11⟩ := show D12 _ _ _ from HBx.out
  go_wp2_with fail
  generalize hwz : World.alloc w _ = wz at *
  have zz : wz.heap.size = w.heap.size + 1 := by rw [← hwz]; simp
  have hbz : Below w.heap.size w wz := by rw [← hwz]; exact bl_a _ _
  clear h0 h1 h2 h3 h4 h5 h6 h7 h8 h9 h10 h11 hwz
  have HZ := Lib.hid hbz
  have HB := Lib.hid (H.out.below hbz); clear hbz
  refine (markTube_any d.tv d.loss d.throat d.lips d.txs 1 wz lo HB.out.own.t hm (by omega)).mono ?_
  rintro e w1 ⟨rfl, ht, ht1⟩
  have z1 := ht1.size
  have hne1 : d.tv.ownBlock ≠ some w.heap.size := fun e => by have := H.out.tt _ e; have := H.out.le; omega
  have hne2 : d.pv.ownBlock ≠ some w.heap.size := fun e => by have := H.out.pt _ e; have := H.out.le; omega
  have hd1 : D12 w1 w.heap.size d := by
    have k : ∀ j, w1.cell? ⟨w.heap.size, j, none⟩ = wz.cell? ⟨w.heap.size, j, none⟩ := fun j => ht1.cell (p := ⟨w.heap.size, j, none⟩) (by simp; omega) hne1
    have hx := HBx.out
    unfold D12
    simp only [k]
    exact hx
  have hp1 := HB.out.own.p.turn ht1 (offB_symm HB.out.own.tp)
  have HT := Lib.hid ht; have HT1 := Lib.hid ht1; have HP1 := Lib.hid hp1; have HN1 := Lib.hid hne1; have HN2 := Lib.hid hne2; have HD1 := Lib.hid hd1; clear ht ht1 hp1 hne1 hne2 hd1
  obtain ⟨h0, h1, h2, h3, h4, h5, h6, h7, h8, h9, h10, h11⟩ := HD1.out
  go_wp2_with fail
  clear h0 h1 h2 h3 h4 h5 h6 h7 h8 h9 h10 h11
  refine (markPredictor_any d.pv d.gain d.pxs (1 + d.txs.length) w1 lo HP1.out hm2 (by omega)).mono ?_
  rintro e w2 ⟨rfl, hp, ht2⟩
  have z2 := ht2.size
  have hd2 : D12 w2 w.heap.size d := by
    have k : ∀ j, w2.cell? ⟨w.heap.size, j, none⟩ = w1.cell? ⟨w.heap.size, j, none⟩ := fun j => ht2.cell (p := ⟨w.heap.size, j, none⟩) (by simp; omega) HN2.out
    have hx := HD1.out
    unfold D12
    simp only [k]
    exact hx
  have hs1 : OwnS w2 lo d.sv [] := by
    have h0 := HB.out.own.s.row
    rw [HB.out.non] at h0
    exact ⟨rowoff h0 HB.out.own.t HB.out.own.p HT1.out ht2, by simp, ⟨by simp, by simp⟩, .nil⟩
  have hfin : HasD w2 lo hi (d.mk' 1) := by
    refine ⟨⟨?_, ?_, ?_, ?_, ?_, ?_, ?_⟩, H.out.non, ?_, ?_, H.out.st, by have := H.out.le; omega⟩
    · rw [mk_tv]; exact HT.out.turn ht2 HB.out.own.tp
    · rw [mk_pv]; exact hp
    · show OwnS w2 lo d.sv d.ss
      rw [H.out.non]; exact hs1
    · have := H.out.own.few
      exact ⟨by simp [Dsk.mk', marks_len, this.1], by simp [Dsk.mk', marks_len, this.2.1], this.2.2⟩
    · rw [mk_tv, mk_pv]; exact H.out.own.tp
    · intro s hs
      rw [show (d.mk' 1).ss = d.ss from rfl, H.out.non] at hs; cases hs
    · intro s hs
      rw [show (d.mk' 1).ss = d.ss from rfl, H.out.non] at hs; cases hs
    · rw [mk_tv]; exact H.out.tt
    · rw [mk_pv]; exact H.out.pt
  have hon : Only lo hi w w2 := by
    have o1 : Only lo hi wz w1 := HT1.out.only fun k hk => ⟨HB.out.own.t.ge hk, HB.out.tt k hk⟩
    have o2 : Only lo hi w1 w2 := ht2.only fun k hk => ⟨HB.out.own.p.ge hk, HB.out.pt k hk⟩
    exact (Only.of_below HZ.out).trans (o1.trans o2)
  have HF := Lib.hid hfin; have HO := Lib.hid hon; have HD2 := Lib.hid hd2; clear hp ht2 hs1 hfin hon hd2
  obtain ⟨h0, h1, h2, h3, h4, h5, h6, h7, h8, h9, h10, h11⟩ := HD2.out
  go_wp2_with fail
  clear h0 h1 h2 h3 h4 h5 h6 h7 h8 h9 h10 h11
  refine (markNone_any d.sA d.sc (1 + d.txs.length + d.pxs.length) w2).mono ?_
  rintro e w3 ⟨rfl, rfl⟩
  go_wp2_with fail
  go_ret
  exact ⟨rfl, HF.out, HO.out⟩

set_option maxHeartbeats 2000000 in
theorem heldDesk_any (d : Dsk) (w : World) (lo hi : Nat) (h : HasD w lo hi (d.mk' 1)) :
    Calls Try.prog 27 #[.agg d.cells.toArray, .int .i64 1] w fun e w' => e = .returned (.int .i64 (1 + d.txs.length + d.pxs.length : Nat)) ∧ Below w.heap.size w w' := by
  have hs0 : d.ss.length = 0 := by have := h.non; rw [show (d.mk' 1).ss = d.ss from rfl] at this; rw [this]; rfl
  have hfew := h.own.few
  have hm : d.txs.length ≤ 1048576 := by have := hfew.1; simpa [Dsk.mk', marks_len] using this
  have hm2 : d.pxs.length ≤ 1048576 := by have := hfew.2.1; simpa [Dsk.mk', marks_len] using this
  have hr := h.own.reads
  have hrt : Fs w w.heap.size d.tA (marks 1 d.txs.length) := hr.t
  have hrp : Fs w w.heap.size d.pA (marks (1 + d.txs.length) d.pxs.length) := hr.p
  have HT := Lib.hid hrt; have HP := Lib.hid hrp; clear h hfew hr hrt hrp
  have hbx : D12 (w.alloc (.cells d.cells.toArray 46)) w.heap.size d := D12.box
  unfold Dsk.cells at hbx ⊢
  rw [hs0] at hbx ⊢
  have HBx := Lib.hid hbx; clear hbx
  go_enter Try.func27, Try.ntmps27
  obtain ⟨h0, h1, h2, h3, h4, h5, h6, h7, h8, h9, h10, h11⟩ := show D12 _ _ _ from HBx.out
  go_wp2_with fail
  generalize hwz : World.alloc w _ = wz at *
  have zz : wz.heap.size = w.heap.size + 1 := by rw [← hwz]; simp
  have hbz : Below w.heap.size w wz := by rw [← hwz]; exact bl_a _ _
  clear h0 h1 h2 h3 h4 h5 h6 h7 h8 h9 h10 h11 hwz
  have HZ := Lib.hid hbz; clear hbz
  refine (heldTube_any d.tA d.tc d.txs.length d.loss d.throat d.lips 1 wz w.heap.size (by omega) (HT.out.below HZ.out) hm (by omega)).mono ?_
  rintro e w1 ⟨rfl, hb1⟩
  have z1 := hb1.size
  have HB1 := Lib.hid hb1; clear hb1
  obtain ⟨h0, h1, h2, h3, h4, h5, h6, h7, h8, h9, h10, h11⟩ := show D12 w1 w.heap.size d from HBx.out.below HB1.out (by omega)
  go_wp2_with fail
  clear h0 h1 h2 h3 h4 h5 h6 h7 h8 h9 h10 h11
  refine (heldPredictor_any d.pA d.pc d.pxs.length d.gain (1 + d.txs.length) w1 w.heap.size (by omega) ((HP.out.below HZ.out).below' HB1.out (by omega)) hm2 (by omega)).mono ?_
  rintro e w2 ⟨rfl, hb2⟩
  have HB2 := Lib.hid (HB1.out.trans (hb2.mono (by omega))); clear hb2
  obtain ⟨h0, h1, h2, h3, h4, h5, h6, h7, h8, h9, h10, h11⟩ := show D12 w2 w.heap.size d from HBx.out.below HB2.out (by omega)
  go_wp2_with fail
  clear h0 h1 h2 h3 h4 h5 h6 h7 h8 h9 h10 h11
  refine (heldNone_any d.sA d.sc (1 + d.txs.length + d.pxs.length) w2).mono ?_
  rintro e w3 ⟨rfl, rfl⟩
  go_wp2_with fail
  go_ret
  exact ⟨rfl, HZ.out.trans (HB2.out.mono (by omega))⟩
end Go.Proofs.Ythmkbgiandncnaa
