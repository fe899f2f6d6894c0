/- Frames that a law holds: equal, marked, held; FrameAt over what a law holds. -/
import Derived.Test.YthmkbgiandncnaaFAt
import Derived.Test.YthmkbgiandncnaaHaV
import Derived.Test.YthmkbgiandncnaaEqD
namespace Go.Proofs.Ythmkbgiandncnaa
open Go.RowKit

/-- a frame in a box of the law's -/
structure BoxM (w : World) (lo hi g : Nat) (A : Option Addr) (c : Nat) (F : Frd) : Prop where
  ge : lo ≤ g
  lt : g < hi
  le : hi ≤ w.heap.size
  blk : Blk w g 77 #[.slice A F.xs.length c, fl F.p, fl F.v, fl F.z]
section
variable {w w' : World} {lo hi a b g : Nat} {A : Option Addr} {c : Nat} {F : Frd}
theorem BoxM.below (h : BoxM w lo hi g A c F) (hb : Below w.heap.size w w') : BoxM w' lo hi g A c F := ⟨h.ge, h.lt, Nat.le_trans h.le hb.size, h.blk.below hb⟩
theorem BoxM.only (h : BoxM w lo hi g A c F) (ho : Only a b w w') (hd : hi ≤ a ∨ b ≤ lo) : BoxM w' lo hi g A c F :=
  ⟨h.ge, h.lt, Nat.le_trans h.le ho.size, (ho.block g h.blk.lt (by have := h.ge; have := h.lt; omega)).trans h.blk⟩
theorem BoxM.cells (h : BoxM w lo hi g A c F) : w.cell? ⟨g, 0, none⟩ = some (.slice A F.xs.length c) ∧ w.cell? ⟨g, 1, none⟩ = some (fl F.p) ∧ w.cell? ⟨g, 2, none⟩ = some (fl F.v) ∧ w.cell? ⟨g, 3, none⟩ = some (fl F.z) :=
  ⟨h.blk.cell_ (j := 0) rfl, h.blk.cell_ (j := 1) rfl, h.blk.cell_ (j := 2) rfl, h.blk.cell_ (j := 3) rfl⟩
theorem BoxM.c0 (h : BoxM w lo hi g A c F) (o : Obj) : (w.alloc o).cell? ⟨g, 0, none⟩ = some (.slice A F.xs.length c) := (h.blk.alloc o).cell_ (j := 0) rfl
theorem BoxM.c1 (h : BoxM w lo hi g A c F) (o : Obj) : (w.alloc o).cell? ⟨g, 1, none⟩ = some (fl F.p) := (h.blk.alloc o).cell_ (j := 1) rfl
theorem BoxM.c2 (h : BoxM w lo hi g A c F) (o : Obj) : (w.alloc o).cell? ⟨g, 2, none⟩ = some (fl F.v) := (h.blk.alloc o).cell_ (j := 2) rfl
theorem BoxM.c3 (h : BoxM w lo hi g A c F) (o : Obj) : (w.alloc o).cell? ⟨g, 3, none⟩ = some (fl F.z) := (h.blk.alloc o).cell_ (j := 3) rfl
end
theorem BoxM.new (w : World) (A : Option Addr) (c : Nat) (F : Frd) : BoxM (w.alloc (.cells #[.slice A F.xs.length c, fl F.p, fl F.v, fl F.z] 77)) w.heap.size (w.alloc (.cells #[.slice A F.xs.length c, fl F.p, fl F.v, fl F.z] 77)).heap.size w.heap.size A c F :=
  ⟨Nat.le_refl _, by simp, Nat.le_refl _, heap_1 _ _⟩

theorem frm_few {F : Frd} : F.res.xs.length ≤ 1048576 := by
  cases h : F.ok
  · rw [res_no h]; simp [zeroFrd]
  · rw [res_yes h]
    unfold Frd.ok frmOk areasOk inI at h
    simp only [Bool.and_eq_true, decide_eq_true_eq] at h
    omega
theorem frmAt_few (ss : List Snd) (ms : List ByteArray) (ls : List Nat) (t : Nat) : (frmAtRes ss ms ls t).xs.length ≤ 1048576 := by
  unfold frmAtRes
  split
  · rename_i h
    have hk : (frdAt ss ms ls t).ok = true := by unfold frmAtOk at h; simp only [Bool.and_eq_true] at h; exact h.2
    have := frm_few (F := frdAt ss ms ls t)
    rwa [res_yes hk] at this
  · simp [zeroFrd]

theorem specFrmHas_any {w : World} {l0 h0 l1 h1 l2 h2 : Nat} {v0 v1 v2 : Value} {ss : List Snd} {ms : List ByteArray} {ls : List Nat} (t : Nat) (a : HasS w l0 h0 v0 ss) (b : HasStr w l1 h1 v1 ms) (c : HasF w l2 h2 v2 ls) :
    Calls Try.prog 48 #[v0, v1, v2, fl t] w fun e w' => ∃ A c', e = .returned (.tuple #[(frmAtRes ss ms ls t).val A c', .bool (frmAtOk ss ms ls t)]) ∧ HasF w' w.heap.size w'.heap.size (.slice A (frmAtRes ss ms ls t).xs.length c') (frmAtRes ss ms ls t).xs ∧ Below w.heap.size w w' := by
  obtain ⟨A, x, rfl, hA⟩ := a.reads
  obtain ⟨A1, x1, rfl, hA1⟩ := b.reads
  obtain ⟨A2, x2, rfl, hA2⟩ := c.reads
  refine (specFrameAt_any A A1 A2 x x1 x2 ss ms ls t w _ (Nat.le_refl _) hA hA1 hA2 a.own.few.1 b.n c.n).mono ?_
  rintro e w' ⟨A3, c3, rfl, h2, h3⟩
  exact ⟨A3, c3, rfl, .of h2 (frmAt_few _ _ _ _), h3⟩
theorem implFrmHas_any {w : World} {l0 h0 l1 h1 l2 h2 : Nat} {v0 v1 v2 : Value} {ss : List Snd} {ms : List ByteArray} {ls : List Nat} (t : Nat) (a : HasS w l0 h0 v0 ss) (b : HasStr w l1 h1 v1 ms) (c : HasF w l2 h2 v2 ls) :
    Calls Try.prog 50 #[v0, v1, v2, fl t] w fun e w' => ∃ A c', e = .returned (.tuple #[(frmAtRes ss ms ls t).val A c', .bool (frmAtOk ss ms ls t)]) ∧ HasF w' w.heap.size w'.heap.size (.slice A (frmAtRes ss ms ls t).xs.length c') (frmAtRes ss ms ls t).xs ∧ Below w.heap.size w w' := by
  obtain ⟨A, x, rfl, hA⟩ := a.reads
  obtain ⟨A1, x1, rfl, hA1⟩ := b.reads
  obtain ⟨A2, x2, rfl, hA2⟩ := c.reads
  refine (implFrameAt_any A A1 A2 x x1 x2 ss ms ls t w _ (Nat.le_refl _) hA hA1 hA2 a.own.few.1 b.n c.n).mono ?_
  rintro e w' ⟨A3, c3, rfl, h2, h3⟩
  exact ⟨A3, c3, rfl, .of h2 (frmAt_few _ _ _ _), h3⟩

set_option maxHeartbeats 1000000 in
theorem eqFrame_yes (A A' : Option Addr) (c c' : Nat) (xs ys : List Nat) (x1 x2 x3 y1 y2 y3 : Nat) (w : World) (B B' : Nat) (hB : B ≤ w.heap.size) (hB' : B' ≤ w.heap.size) (hx : Fs w B A xs) (hy : Fs w B' A' ys) (hxy : cans xs ys) (hm : xs.length ≤ 1048576)
    (q1 : lk x1 y1) (q2 : lk x2 y2) (q3 : lk x3 y3) :
    Calls Try.prog 51 #[.agg #[.slice A xs.length c, fl x1, fl x2, fl x3], .agg #[.slice A' ys.length c', fl y1, fl y2, fl y3]] w fun e w' => e = .returned (.bool true) ∧ Below w.heap.size w w' := by
  have hs1 := (hx.alloc hB (.cells #[.slice A xs.length c, fl x1, fl x2, fl x3] 77)).alloc (by simp; omega) (.cells #[.slice A' ys.length c', fl y1, fl y2, fl y3] 77)
  have ht1 := (hy.alloc hB' (.cells #[.slice A xs.length c, fl x1, fl x2, fl x3] 77)).alloc (by simp; omega) (.cells #[.slice A' ys.length c', fl y1, fl y2, fl y3] 77)
  have HS := Lib.hid hs1; have HT := Lib.hid ht1; clear hs1 ht1 hx hy
  have H0 := Lib.hid hxy; have H1 := Lib.hid q1; have H2 := Lib.hid q2; have H3 := Lib.hid q3
  clear hxy q1 q2 q3
  go_enter Try.func51, Try.ntmps51
  go_wp2_with fail
  go_at_call 41
  refine (eqFloat32S_yes _ _ _ _ _ _ _ _ _ HS.out HT.out H0.out hm).mono ?_
  rintro e wz ⟨rfl, n, hwz⟩
  have c1 : wz.cell? ⟨w.heap.size, 1, none⟩ = some (fl x1) := by rw [hwz]; go_simp
  have c2 : wz.cell? ⟨w.heap.size, 2, none⟩ = some (fl x2) := by rw [hwz]; go_simp
  have c3 : wz.cell? ⟨w.heap.size, 3, none⟩ = some (fl x3) := by rw [hwz]; go_simp
  have d1 : wz.cell? ⟨w.heap.size + 1, 1, none⟩ = some (fl y1) := by rw [hwz]; go_simp
  have d2 : wz.cell? ⟨w.heap.size + 1, 2, none⟩ = some (fl y2) := by rw [hwz]; go_simp
  have d3 : wz.cell? ⟨w.heap.size + 1, 3, none⟩ = some (fl y3) := by rw [hwz]; go_simp
  have HZ := Lib.hid hwz; clear hwz
  go_wp2_with fail
  go_at_call 103; refine (sameFloat_yes _ _ (cv_same H1.out _ _) _).mono ?_; rintro e w' ⟨rfl, n', rfl⟩
  go_wp2_with fail
  go_at_call 103; refine (sameFloat_yes _ _ (cv_same H2.out _ _) _).mono ?_; rintro e w' ⟨rfl, n', rfl⟩
  go_wp2_with fail
  go_at_call 103; refine (sameFloat_yes _ _ (cv_same H3.out _ _) _).mono ?_; rintro e w' ⟨rfl, n', rfl⟩
  go_wp2_with fail
  go_ret
  refine ⟨rfl, ?_⟩
  rw [HZ.out]
  exact drewN_below (drewN_below (bl_step (bl_a _ _) (bl_a _ _)) _) _
theorem eqFrm_any {w : World} {lo hi lo' hi' : Nat} {A A' : Option Addr} {c c' : Nat} (F : Frd) (h : HasF w lo hi (.slice A F.xs.length c) F.xs) (h' : HasF w lo' hi' (.slice A' F.xs.length c') F.xs) :
    Calls Try.prog 51 #[.agg #[.slice A F.xs.length c, fl F.p, fl F.v, fl F.z], .agg #[.slice A' F.xs.length c', fl F.p, fl F.v, fl F.z]] w fun e w' => e = .returned (.bool true) ∧ Below w.heap.size w w' := by
  obtain ⟨_, _, e, h1⟩ := h.reads
  obtain ⟨_, _, e', h2⟩ := h'.reads
  injection e with e1 _ _
  injection e' with e1' _ _
  subst e1; subst e1'
  exact eqFrame_yes A A' c c' F.xs F.xs _ _ _ _ _ _ w _ _ (Nat.le_refl _) (Nat.le_refl _) h1 h2 rfl h.n rfl rfl rfl
set_option maxHeartbeats 400000 in
theorem markFrm_any {w : World} {lo hi : Nat} {A : Option Addr} {c : Nat} (F : Frd) (k : Nat) (hk : k ≤ 4398046511104) (h : HasF w lo hi (.slice A F.xs.length c) F.xs) :
    Calls Try.prog 52 #[.agg #[.slice A F.xs.length c, fl F.p, fl F.v, fl F.z], .int .i64 k] w fun e w' => e = .returned (.int .i64 (k + F.xs.length : Nat)) ∧ HasF w' lo hi (.slice A F.xs.length c) (marks k F.xs.length) ∧ Only lo hi w w' := by
  have hb : ∀ o, Below w.heap.size w (w.alloc o) := fun o => bl_a _ _
  have HA := Lib.hid (fun o => h.below (hb o)); have HB := Lib.hid hb; have hle := h.le; clear hb h
  go_enter Try.func52, Try.ntmps52
  go_wp2_with fail
  refine (markHasF_any k hk (HA.out _)).mono ?_
  rintro e w1 ⟨rfl, hm, ho⟩
  have HM := Lib.hid hm; have HO := Lib.hid ho; clear hm ho
  go_wp2_with fail
  go_ret
  refine ⟨rfl, HM.out, ?_⟩
  have o := HO.out
  exact ⟨o.os, o.tape, o.output, by have := o.size; simp at this; omega, fun k hk hd => (o.block k (by simp; omega) hd).trans (Below.heap_alloc w _ k hk)⟩
set_option maxHeartbeats 400000 in
theorem heldFrm_any {w : World} {lo hi : Nat} {A : Option Addr} {c : Nat} (F : Frd) (k : Nat) (hk : k ≤ 4398046511104) (h : HasF w lo hi (.slice A F.xs.length c) (marks k F.xs.length)) :
    Calls Try.prog 53 #[.agg #[.slice A F.xs.length c, fl F.p, fl F.v, fl F.z], .int .i64 k] w fun e w' => e = .returned (.int .i64 (k + F.xs.length : Nat)) ∧ Below w.heap.size w w' := by
  have hb : ∀ o, Below w.heap.size w (w.alloc o) := fun o => bl_a _ _
  have HA := Lib.hid (fun o => h.below (hb o)); clear hb h
  go_enter Try.func53, Try.ntmps53
  go_wp2_with fail
  refine (heldHasF_any k _ hk (HA.out _)).mono ?_
  rintro e w1 ⟨rfl, hb⟩
  have HB := Lib.hid hb; clear hb
  go_wp2_with fail
  go_ret
  exact ⟨rfl, bl_step (bl_a _ _) HB.out⟩
end Go.Proofs.Ythmkbgiandncnaa
