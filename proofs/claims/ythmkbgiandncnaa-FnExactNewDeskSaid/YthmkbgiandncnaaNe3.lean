/- New desks, the reference's and the program's: whole. -/
import Derived.Test.YthmkbgiandncnaaNe2
import Derived.Deep.CutRange
namespace Go.Proofs.Ythmkbgiandncnaa
open Go.RowKit

abbrev f8 : Nat := 1090519040
abbrev q1 : Nat := 1048576000
abbrev hf : Nat := 1056964608
/-- the desk that both make, wherever its lists lie -/
def newD (tA : Option Addr) (tc : Nat) (pA : Option Addr) (pc : Nat) (sA : Option Addr) (sc : Nat) : Dsk := ⟨tA, tc, [one, one, one, one], one, q3, m78, f8, q1, q1, 0, 0, pA, pc, [hf], one, sA, sc, []⟩
theorem set12 {w : World} {base g : Nat} {v : Value} {xs : List Nat} {b0 b1 b2 b3 b4 b5 b6 b7 b8 b9 b10 b11 : Value} (h : OwnF w base v xs) (hg : g < base) :
    OwnF ((((((((((((w.setCell ⟨g, 0, none⟩ b0).setCell ⟨g, 1, none⟩ b1).setCell ⟨g, 2, none⟩ b2).setCell ⟨g, 3, none⟩ b3).setCell ⟨g, 4, none⟩ b4).setCell ⟨g, 5, none⟩ b5).setCell ⟨g, 6, none⟩ b6).setCell ⟨g, 7, none⟩ b7).setCell ⟨g, 8, none⟩ b8).setCell ⟨g, 9, none⟩ b9).setCell ⟨g, 10, none⟩ b10).setCell ⟨g, 11, none⟩ b11) base v xs :=
  .set_ (.set_ (.set_ (.set_ (.set_ (.set_ (.set_ (.set_ (.set_ (.set_ (.set_ (.set_ h hg) hg) hg) hg) hg) hg) hg) hg) hg) hg) hg) hg
theorem below12 {w w0 : World} {B g : Nat} {b0 b1 b2 b3 b4 b5 b6 b7 b8 b9 b10 b11 : Value} (h : Below B w0 w) (hg : B ≤ g) :
    Below B w0 ((((((((((((w.setCell ⟨g, 0, none⟩ b0).setCell ⟨g, 1, none⟩ b1).setCell ⟨g, 2, none⟩ b2).setCell ⟨g, 3, none⟩ b3).setCell ⟨g, 4, none⟩ b4).setCell ⟨g, 5, none⟩ b5).setCell ⟨g, 6, none⟩ b6).setCell ⟨g, 7, none⟩ b7).setCell ⟨g, 8, none⟩ b8).setCell ⟨g, 9, none⟩ b9).setCell ⟨g, 10, none⟩ b10).setCell ⟨g, 11, none⟩ b11) :=
  (((((((((((h.setCell hg _).setCell hg _).setCell hg _).setCell hg _).setCell hg _).setCell hg _).setCell hg _).setCell hg _).setCell hg _).setCell hg _).setCell hg _).setCell hg _

theorem newD_own {w : World} {base : Nat} {tA pA sA : Option Addr} {tc pc sc : Nat} (ht : OwnF w base (.slice tA 4 tc) [one, one, one, one]) (hp : OwnF w base (.slice pA 1 pc) [hf]) (hs : OwnS w base (.slice sA 0 sc) []) (h : offB (Value.slice tA 4 tc).ownBlock (Value.slice pA 1 pc).ownBlock) :
    OwnD w base (newD tA tc pA pc sA sc) :=
  ⟨ht, hp, hs, ⟨by show 4 ≤ _; omega, by show 1 ≤ _; omega, by show 0 ≤ _; omega, fun s hs => by cases hs⟩, h, (fun s hs => by cases hs), fun s hs => by cases hs⟩
theorem OwnF.lt {w : World} {base g : Nat} {v : Value} {xs : List Nat} (h : OwnF w base v xs) (hg : v.ownBlock = some g) : g < w.heap.size := (World.ownsRow.lt h g hg).2
theorem offB_lt {a : Option Nat} {b : Nat} (h : ∀ g, a = some g → g < b) : offB a (some b) := by
  cases a with
  | none => exact .inl rfl
  | some g => exact .inr (fun e => by have := h g rfl; injection e; omega)
theorem own_hf (w : World) (base : Nat) (hb : base ≤ w.heap.size) : OwnF (w.alloc (.cells #[fl hf] 29)) base (.slice (some ⟨w.heap.size, 0, none⟩) 1 1) [hf] :=
  World.ownsRow_lit w #[fl hf] 1 hb (by unfold maxLen; omega) rfl

set_option maxHeartbeats 2000000 in
theorem implNewDesk_any (w : World) :
    Calls Try.prog 24 #[] w fun e w' => ∃ tA tc pA pc sA sc, e = .returned (.agg (newD tA tc pA pc sA sc).cells.toArray) ∧ OwnD w' w.heap.size (newD tA tc pA pc sA sc) ∧ Below w.heap.size w w' := by
  go_enter Try.func24, Try.ntmps24
  go_wp2_with fail
  refine (EvenTube_any _).mono ?_
  rintro e w1 ⟨A, c, rfl, hown, hb⟩
  have hb1 : Below (w.heap.size + 1) _ w1 := hb.mono (by simp)
  have z1 : w.heap.size + 1 ≤ w1.heap.size := by have := hb.size; simpa using this
  have hblk : Blk w1 w.heap.size 46 #[.slice none 0 0, fl 0, fl 0, fl 0, fl 0, fl 0, fl 0, fl 0, fl 0, .slice none 0 0, fl 0, .slice none 0 0] := Blk.below' (heap_1 _ _) hb1 (by omega)
  have hown2 := hown.less (base' := w.heap.size + 1) (by simp)
  have HB := Lib.hid (after1 hb); have HOw := Lib.hid hown2; have HBk := Lib.hid hblk; clear hb hb1 hown hown2 hblk
  have hB2 : ∀ o p, Blk ((w1.alloc o).alloc p) w.heap.size 46 #[.slice none 0 0, fl 0, fl 0, fl 0, fl 0, fl 0, fl 0, fl 0, fl 0, .slice none 0 0, fl 0, .slice none 0 0] := fun o p => (HBk.out.alloc o).alloc p
  have r0 : ∀ o p, ((w1.alloc o).alloc p).cell? ⟨w.heap.size, 0, none⟩ = some (.slice none 0 0) := fun o p => (hB2 o p).cell_ (j := 0) rfl
  have r1 : ∀ o p, ((w1.alloc o).alloc p).cell? ⟨w.heap.size, 1, none⟩ = some (fl 0) := fun o p => (hB2 o p).cell_ (j := 1) rfl
  have r2 : ∀ o p, ((w1.alloc o).alloc p).cell? ⟨w.heap.size, 2, none⟩ = some (fl 0) := fun o p => (hB2 o p).cell_ (j := 2) rfl
  have r3 : ∀ o p, ((w1.alloc o).alloc p).cell? ⟨w.heap.size, 3, none⟩ = some (fl 0) := fun o p => (hB2 o p).cell_ (j := 3) rfl
  have r4 : ∀ o p, ((w1.alloc o).alloc p).cell? ⟨w.heap.size, 4, none⟩ = some (fl 0) := fun o p => (hB2 o p).cell_ (j := 4) rfl
  have r5 : ∀ o p, ((w1.alloc o).alloc p).cell? ⟨w.heap.size, 5, none⟩ = some (fl 0) := fun o p => (hB2 o p).cell_ (j := 5) rfl
  have r6 : ∀ o p, ((w1.alloc o).alloc p).cell? ⟨w.heap.size, 6, none⟩ = some (fl 0) := fun o p => (hB2 o p).cell_ (j := 6) rfl
  have r7 : ∀ o p, ((w1.alloc o).alloc p).cell? ⟨w.heap.size, 7, none⟩ = some (fl 0) := fun o p => (hB2 o p).cell_ (j := 7) rfl
  have r8 : ∀ o p, ((w1.alloc o).alloc p).cell? ⟨w.heap.size, 8, none⟩ = some (fl 0) := fun o p => (hB2 o p).cell_ (j := 8) rfl
  have r9 : ∀ o p, ((w1.alloc o).alloc p).cell? ⟨w.heap.size, 9, none⟩ = some (.slice none 0 0) := fun o p => (hB2 o p).cell_ (j := 9) rfl
  have r10 : ∀ o p, ((w1.alloc o).alloc p).cell? ⟨w.heap.size, 10, none⟩ = some (fl 0) := fun o p => (hB2 o p).cell_ (j := 10) rfl
  have r11 : ∀ o p, ((w1.alloc o).alloc p).cell? ⟨w.heap.size, 11, none⟩ = some (.slice none 0 0) := fun o p => (hB2 o p).cell_ (j := 11) rfl
  have fr : ∀ o p j, ((w1.alloc o).alloc p).frozen? ⟨w.heap.size, j, none⟩ = false := fun o p j => (hB2 o p).froz j
  clear hB2
  go_wp2_with fail
  clear r0 r1 r2 r3 r4 r5 r6 r7 r8 r9 r10 r11 fr
  have hown3 : OwnF ((w1.alloc (.cells #[.slice A 4 c, fl one, fl q3, fl m78] 40)).alloc (.cells #[fl hf] 29)) (w.heap.size + 1) (.slice A 4 c) [one, one, one, one] := (HOw.out.alloc _).alloc _
  have hpr : OwnF ((w1.alloc (.cells #[.slice A 4 c, fl one, fl q3, fl m78] 40)).alloc (.cells #[fl hf] 29)) (w.heap.size + 1) (.slice (some ⟨w1.heap.size + 1, 0, none⟩) 1 1) [hf] := by
    have := own_hf (w1.alloc (.cells #[.slice A 4 c, fl one, fl q3, fl m78] 40)) (w.heap.size + 1) (by simp; omega)
    rwa [show (w1.alloc (.cells #[.slice A 4 c, fl one, fl q3, fl m78] 40)).heap.size = w1.heap.size + 1 by simp] at this
  have hbw : Below w.heap.size w ((w1.alloc (.cells #[.slice A 4 c, fl one, fl q3, fl m78] 40)).alloc (.cells #[fl hf] 29)) := (HB.out.alloc (by omega) _).alloc (by simp; omega) _
  have hblk2 : Blk ((w1.alloc (.cells #[.slice A 4 c, fl one, fl q3, fl m78] 40)).alloc (.cells #[fl hf] 29)) w.heap.size 46 #[.slice none 0 0, fl 0, fl 0, fl 0, fl 0, fl 0, fl 0, fl 0, fl 0, .slice none 0 0, fl 0, .slice none 0 0] := (HBk.out.alloc _).alloc _
  have hoff : offB (Value.slice A 4 c).ownBlock (some (w1.heap.size + 1)) := offB_lt fun g hg => Nat.lt_succ_of_lt (HOw.out.lt hg)
  generalize hwz : World.alloc (World.alloc w1 _) _ = wz at *
  have r0 : wz.cell? ⟨w.heap.size, 0, none⟩ = some (.slice none 0 0) := hblk2.cell_ (j := 0) rfl
  have r1 : wz.cell? ⟨w.heap.size, 1, none⟩ = some (fl 0) := hblk2.cell_ (j := 1) rfl
  have r2 : wz.cell? ⟨w.heap.size, 2, none⟩ = some (fl 0) := hblk2.cell_ (j := 2) rfl
  have r3 : wz.cell? ⟨w.heap.size, 3, none⟩ = some (fl 0) := hblk2.cell_ (j := 3) rfl
  have r4 : wz.cell? ⟨w.heap.size, 4, none⟩ = some (fl 0) := hblk2.cell_ (j := 4) rfl
  have r5 : wz.cell? ⟨w.heap.size, 5, none⟩ = some (fl 0) := hblk2.cell_ (j := 5) rfl
  have r6 : wz.cell? ⟨w.heap.size, 6, none⟩ = some (fl 0) := hblk2.cell_ (j := 6) rfl
  have r7 : wz.cell? ⟨w.heap.size, 7, none⟩ = some (fl 0) := hblk2.cell_ (j := 7) rfl
  have r8 : wz.cell? ⟨w.heap.size, 8, none⟩ = some (fl 0) := hblk2.cell_ (j := 8) rfl
  have r9 : wz.cell? ⟨w.heap.size, 9, none⟩ = some (.slice none 0 0) := hblk2.cell_ (j := 9) rfl
  have r10 : wz.cell? ⟨w.heap.size, 10, none⟩ = some (fl 0) := hblk2.cell_ (j := 10) rfl
  have r11 : wz.cell? ⟨w.heap.size, 11, none⟩ = some (.slice none 0 0) := hblk2.cell_ (j := 11) rfl
  refine bodyPost_ret (v := .agg (newD A c (some ⟨w1.heap.size + 1, 0, none⟩) 1 none 0).cells.toArray) ?_ rfl ⟨A, c, _, _, _, _, rfl, ?_, ?_⟩
  · simp [results, Try.results24, go_sem, newD, Dsk.cells, r0, r1, r2, r3, r4, r5, r6, r7, r8, r9, r10, r11]
  · exact OwnD.less (base := w.heap.size + 1) (newD_own (set12 hown3 (by omega)) (set12 hpr (by omega)) ((OwnS.nil _ _).less (Nat.le_refl _)) hoff) (by omega)
  · exact below12 hbw (Nat.le_refl _)

theorem oS12 {w : World} {base g : Nat} {v : Value} {ss : List Snd} {b0 b1 b2 b3 b4 b5 b6 b7 b8 b9 b10 b11 : Value} (h : OwnS w base v ss) (hg : g < base) :
    OwnS ((((((((((((w.setCell ⟨g, 0, none⟩ b0).setCell ⟨g, 1, none⟩ b1).setCell ⟨g, 2, none⟩ b2).setCell ⟨g, 3, none⟩ b3).setCell ⟨g, 4, none⟩ b4).setCell ⟨g, 5, none⟩ b5).setCell ⟨g, 6, none⟩ b6).setCell ⟨g, 7, none⟩ b7).setCell ⟨g, 8, none⟩ b8).setCell ⟨g, 9, none⟩ b9).setCell ⟨g, 10, none⟩ b10).setCell ⟨g, 11, none⟩ b11) base v ss :=
  .set_ (.set_ (.set_ (.set_ (.set_ (.set_ (.set_ (.set_ (.set_ (.set_ (.set_ (.set_ h hg) hg) hg) hg) hg) hg) hg) hg) hg) hg) hg) hg
set_option maxHeartbeats 2000000 in
theorem specNewDesk_any (w : World) :
    Calls Try.prog 23 #[] w fun e w' => ∃ tA tc pA pc sA sc, e = .returned (.agg (newD tA tc pA pc sA sc).cells.toArray) ∧ OwnD w' w.heap.size (newD tA tc pA pc sA sc) ∧ Below w.heap.size w w' := by
  go_enter Try.func23, Try.ntmps23
  go_wp2_with fail
  refine (l02Even_any 4 one _ (by omega)).mono ?_
  rintro e w1 ⟨A, c, rfl, hown, hb⟩
  have hb1 : Below (w.heap.size + 1) _ w1 := hb.mono (by simp)
  have z1 : w.heap.size + 1 ≤ w1.heap.size := by have := hb.size; simpa using this
  have hblk : Blk w1 w.heap.size 46 #[.slice none 0 0, fl 0, fl 0, fl 0, fl 0, fl 0, fl 0, fl 0, fl 0, .slice none 0 0, fl 0, .slice none 0 0] := Blk.below' (heap_1 _ _) hb1 (by omega)
  have hown2 : OwnF w1 (w.heap.size + 1) (.slice A 4 c) [one, one, one, one] := hown.less (base' := w.heap.size + 1) (by simp)
  have HB := Lib.hid (after1 hb); have HOw := Lib.hid hown2; have HBk := Lib.hid hblk; clear hb hb1 hown hown2 hblk
  go_upto_region 4 with fail
  have hown3 : OwnF (((w1.alloc (.cells #[.slice A 4 c, fl one, fl q3, fl m78, fl f8, fl q1, fl q1, fl 0, fl 0, .slice (some ⟨w1.heap.size + 1, 0, none⟩) 1 1, fl one, .slice (some ⟨w1.heap.size + 2, 0, none⟩) 0 0] 46)).alloc (.cells #[fl hf] 29)).alloc (.cells #[] 98)) (w.heap.size + 1) (.slice A 4 c) [one, one, one, one] := ((HOw.out.alloc _).alloc _).alloc _
  have hpr : OwnF (((w1.alloc (.cells #[.slice A 4 c, fl one, fl q3, fl m78, fl f8, fl q1, fl q1, fl 0, fl 0, .slice (some ⟨w1.heap.size + 1, 0, none⟩) 1 1, fl one, .slice (some ⟨w1.heap.size + 2, 0, none⟩) 0 0] 46)).alloc (.cells #[fl hf] 29)).alloc (.cells #[] 98)) (w.heap.size + 1) (.slice (some ⟨w1.heap.size + 1, 0, none⟩) 1 1) [hf] := by
    have := own_hf (w1.alloc (.cells #[.slice A 4 c, fl one, fl q3, fl m78, fl f8, fl q1, fl q1, fl 0, fl 0, .slice (some ⟨w1.heap.size + 1, 0, none⟩) 1 1, fl one, .slice (some ⟨w1.heap.size + 2, 0, none⟩) 0 0] 46)) (w.heap.size + 1) (by simp; omega)
    rw [show (w1.alloc (.cells #[.slice A 4 c, fl one, fl q3, fl m78, fl f8, fl q1, fl q1, fl 0, fl 0, .slice (some ⟨w1.heap.size + 1, 0, none⟩) 1 1, fl one, .slice (some ⟨w1.heap.size + 2, 0, none⟩) 0 0] 46)).heap.size = w1.heap.size + 1 by simp] at this
    exact this.alloc _
  have hss : OwnS (((w1.alloc (.cells #[.slice A 4 c, fl one, fl q3, fl m78, fl f8, fl q1, fl q1, fl 0, fl 0, .slice (some ⟨w1.heap.size + 1, 0, none⟩) 1 1, fl one, .slice (some ⟨w1.heap.size + 2, 0, none⟩) 0 0] 46)).alloc (.cells #[fl hf] 29)).alloc (.cells #[] 98)) (w.heap.size + 1) (.slice (some ⟨w1.heap.size + 2, 0, none⟩) 0 0) [] := by
    have := World.ownsRow_lit (e := 98) (size := 6) (base := w.heap.size + 1) ((w1.alloc (.cells #[.slice A 4 c, fl one, fl q3, fl m78, fl f8, fl q1, fl q1, fl 0, fl 0, .slice (some ⟨w1.heap.size + 1, 0, none⟩) 1 1, fl one, .slice (some ⟨w1.heap.size + 2, 0, none⟩) 0 0] 46)).alloc (.cells #[fl hf] 29)) #[] 0 (by simp; omega) (by unfold maxLen; omega) rfl
    rw [show ((w1.alloc (.cells #[.slice A 4 c, fl one, fl q3, fl m78, fl f8, fl q1, fl q1, fl 0, fl 0, .slice (some ⟨w1.heap.size + 1, 0, none⟩) 1 1, fl one, .slice (some ⟨w1.heap.size + 2, 0, none⟩) 0 0] 46)).alloc (.cells #[fl hf] 29)).heap.size = w1.heap.size + 2 by simp] at this
    exact ⟨this, by simp, ⟨by simp, by simp⟩, .nil⟩
  have hbw : Below w.heap.size w (((w1.alloc (.cells #[.slice A 4 c, fl one, fl q3, fl m78, fl f8, fl q1, fl q1, fl 0, fl 0, .slice (some ⟨w1.heap.size + 1, 0, none⟩) 1 1, fl one, .slice (some ⟨w1.heap.size + 2, 0, none⟩) 0 0] 46)).alloc (.cells #[fl hf] 29)).alloc (.cells #[] 98)) := ((HB.out.alloc (by omega) _).alloc (by simp; omega) _).alloc (by simp; omega) _
  have hblk2 : Blk (((w1.alloc (.cells #[.slice A 4 c, fl one, fl q3, fl m78, fl f8, fl q1, fl q1, fl 0, fl 0, .slice (some ⟨w1.heap.size + 1, 0, none⟩) 1 1, fl one, .slice (some ⟨w1.heap.size + 2, 0, none⟩) 0 0] 46)).alloc (.cells #[fl hf] 29)).alloc (.cells #[] 98)) w.heap.size 46 #[.slice none 0 0, fl 0, fl 0, fl 0, fl 0, fl 0, fl 0, fl 0, fl 0, .slice none 0 0, fl 0, .slice none 0 0] := ((HBk.out.alloc _).alloc _).alloc _
  have hblk3 : Blk (((w1.alloc (.cells #[.slice A 4 c, fl one, fl q3, fl m78, fl f8, fl q1, fl q1, fl 0, fl 0, .slice (some ⟨w1.heap.size + 1, 0, none⟩) 1 1, fl one, .slice (some ⟨w1.heap.size + 2, 0, none⟩) 0 0] 46)).alloc (.cells #[fl hf] 29)).alloc (.cells #[] 98)) w1.heap.size 46 #[.slice A 4 c, fl one, fl q3, fl m78, fl f8, fl q1, fl q1, fl 0, fl 0, .slice (some ⟨w1.heap.size + 1, 0, none⟩) 1 1, fl one, .slice (some ⟨w1.heap.size + 2, 0, none⟩) 0 0] := ((Blk.alloc (heap_1 w1 _) _)).alloc _
  have hoff : offB (Value.slice A 4 c).ownBlock (some (w1.heap.size + 1)) := offB_lt fun g hg => Nat.lt_succ_of_lt (HOw.out.lt hg)
  generalize hwz : World.alloc (World.alloc (World.alloc w1 _) _) _ = wz at *
  clear hwz
  have r0 : wz.cell? ⟨w.heap.size, 0, none⟩ = some (.slice none 0 0) := hblk2.cell_ (j := 0) rfl
  have r1 : wz.cell? ⟨w.heap.size, 1, none⟩ = some (fl 0) := hblk2.cell_ (j := 1) rfl
  have r2 : wz.cell? ⟨w.heap.size, 2, none⟩ = some (fl 0) := hblk2.cell_ (j := 2) rfl
  have r3 : wz.cell? ⟨w.heap.size, 3, none⟩ = some (fl 0) := hblk2.cell_ (j := 3) rfl
  have r4 : wz.cell? ⟨w.heap.size, 4, none⟩ = some (fl 0) := hblk2.cell_ (j := 4) rfl
  have r5 : wz.cell? ⟨w.heap.size, 5, none⟩ = some (fl 0) := hblk2.cell_ (j := 5) rfl
  have r6 : wz.cell? ⟨w.heap.size, 6, none⟩ = some (fl 0) := hblk2.cell_ (j := 6) rfl
  have r7 : wz.cell? ⟨w.heap.size, 7, none⟩ = some (fl 0) := hblk2.cell_ (j := 7) rfl
  have r8 : wz.cell? ⟨w.heap.size, 8, none⟩ = some (fl 0) := hblk2.cell_ (j := 8) rfl
  have r9 : wz.cell? ⟨w.heap.size, 9, none⟩ = some (.slice none 0 0) := hblk2.cell_ (j := 9) rfl
  have r10 : wz.cell? ⟨w.heap.size, 10, none⟩ = some (fl 0) := hblk2.cell_ (j := 10) rfl
  have r11 : wz.cell? ⟨w.heap.size, 11, none⟩ = some (.slice none 0 0) := hblk2.cell_ (j := 11) rfl
  have c0 : wz.cell? ⟨w1.heap.size, 0, none⟩ = some (.slice A 4 c) := hblk3.cell_ (j := 0) rfl
  have c1 : wz.cell? ⟨w1.heap.size, 1, none⟩ = some (fl one) := hblk3.cell_ (j := 1) rfl
  have c2 : wz.cell? ⟨w1.heap.size, 2, none⟩ = some (fl q3) := hblk3.cell_ (j := 2) rfl
  have c3 : wz.cell? ⟨w1.heap.size, 3, none⟩ = some (fl m78) := hblk3.cell_ (j := 3) rfl
  have c4 : wz.cell? ⟨w1.heap.size, 4, none⟩ = some (fl f8) := hblk3.cell_ (j := 4) rfl
  have c5 : wz.cell? ⟨w1.heap.size, 5, none⟩ = some (fl q1) := hblk3.cell_ (j := 5) rfl
  have c6 : wz.cell? ⟨w1.heap.size, 6, none⟩ = some (fl q1) := hblk3.cell_ (j := 6) rfl
  have c7 : wz.cell? ⟨w1.heap.size, 7, none⟩ = some (fl 0) := hblk3.cell_ (j := 7) rfl
  have c8 : wz.cell? ⟨w1.heap.size, 8, none⟩ = some (fl 0) := hblk3.cell_ (j := 8) rfl
  have c9 : wz.cell? ⟨w1.heap.size, 9, none⟩ = some (.slice (some ⟨w1.heap.size + 1, 0, none⟩) 1 1) := hblk3.cell_ (j := 9) rfl
  have c10 : wz.cell? ⟨w1.heap.size, 10, none⟩ = some (fl one) := hblk3.cell_ (j := 10) rfl
  have c11 : wz.cell? ⟨w1.heap.size, 11, none⟩ = some (.slice (some ⟨w1.heap.size + 2, 0, none⟩) 0 0) := hblk3.cell_ (j := 11) rfl
  have fr : ∀ j, wz.frozen? ⟨w.heap.size, j, none⟩ = false := hblk2.froz
  have HO3 := Lib.hid hown3; have HP := Lib.hid hpr; have HS := Lib.hid hss; have HW := Lib.hid hbw; have HF := Lib.hid hoff
  clear hown3 hpr hss hbw hoff hblk2 hblk3
  go_wp2_with fail
  refine bodyPost_ret (v := .agg (newD A c (some ⟨w1.heap.size + 1, 0, none⟩) 1 (some ⟨w1.heap.size + 2, 0, none⟩) 0).cells.toArray) ?_ rfl ⟨A, c, _, _, _, _, rfl, ?_, ?_⟩
  · simp [results, Try.results23, go_sem, newD, Dsk.cells, r0, r1, r2, r3, r4, r5, r6, r7, r8, r9, r10, r11]
  · exact OwnD.less (base := w.heap.size + 1) (newD_own (set12 HO3.out (by omega)) (set12 HP.out (by omega)) (oS12 HS.out (by omega)) HF.out) (by omega)
  · exact below12 HW.out (Nat.le_refl _)
end Go.Proofs.Ythmkbgiandncnaa
