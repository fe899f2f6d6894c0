/- When lists of sounds and desks are the same: the program's tests, and the desks'. -/
import Derived.Test.YthmkbgiandncnaaSam4
import Derived.Test.YthmkbgiandncnaaLVa
namespace Go.Proofs.Ythmkbgiandncnaa
open Go.RowKit

theorem sms4 (x1 x2 x3 x4 y1 y2 y3 y4 : Nat) : sms [x1, x2, x3, x4] [y1, y2, y3, y4] = (sm x1 y1 && sm x2 y2 && sm x3 y3 && sm x4 y4) := by
  simp [sms, List.range_succ, Bool.and_assoc]
abbrev Snd.agg (s : Snd) : Value := .agg #[.string s.name, .slice s.A s.xs.length s.c, fl s.long, fl s.ramp, fl s.voice, fl s.noise]
theorem sndSm_sms (s t : Snd) : sndSm s t = (s.name.toList == t.name.toList && sms s.xs t.xs && sms [s.long, s.ramp, s.voice, s.noise] [t.long, t.ramp, t.voice, t.noise]) := by
  rw [sms4]; simp [sndSm, Bool.and_assoc]

set_option maxHeartbeats 1000000 in
theorem SameSounds1_any (s t : Snd) (w : World) (B B' : Nat) (hB : B ≤ w.heap.size) (hB' : B' ≤ w.heap.size) (hs : SndIn w B s) (ht : SndIn w B' t) (fs : s.fit) (ft : t.fit) :
    Calls Try.prog 132 #[.agg #[.string s.name, .slice s.A s.xs.length s.c, fl s.long, fl s.ramp, fl s.voice, fl s.noise], .agg #[.string t.name, .slice t.A t.xs.length t.c, fl t.long, fl t.ramp, fl t.voice, fl t.noise]] w fun e w' => e = .returned (.bool (sndSm s t)) ∧ Below w.heap.size w w' := by
  rw [sndSm_sms]
  have m1 := hs.2.1; have m2 := ht.2.1
  obtain ⟨f0, f1, f2, f3, f4⟩ := fs
  obtain ⟨k0, k1, k2, k3, k4⟩ := ft
  have hs1 := (hs.alloc hB (.cells #[.string s.name, .slice s.A s.xs.length s.c, fl s.long, fl s.ramp, fl s.voice, fl s.noise] 98)).alloc (by simp; omega) (.cells #[.string t.name, .slice t.A t.xs.length t.c, fl t.long, fl t.ramp, fl t.voice, fl t.noise] 98)
  have ht1 := (ht.alloc hB' (.cells #[.string s.name, .slice s.A s.xs.length s.c, fl s.long, fl s.ramp, fl s.voice, fl s.noise] 98)).alloc (by simp; omega) (.cells #[.string t.name, .slice t.A t.xs.length t.c, fl t.long, fl t.ramp, fl t.voice, fl t.noise] 98)
  have HX := Lib.hid hs1.1; have HY := Lib.hid ht1.1; have HFX := Lib.hid f0; have HFY := Lib.hid k0
  clear hs ht hs1 ht1 f0 k0
  cases q0 : (s.name.toList == t.name.toList)
  · go_enter Try.func132, Try.ntmps132
    go_wp2_with fail
    go_ret
    exact ⟨ret_bool (by simp), bl_step (bl_a _ _) (bl_a _ _)⟩
  cases q1 : sms s.xs t.xs
  · go_enter Try.func132, Try.ntmps132
    go_wp2_with fail
    refine (bool_of (sameNumbers_any _ _ _ _ _ _ _ B B' HX.out HY.out HFX.out HFY.out m1 m2) q1).mono ?_
    rintro e w' ⟨rfl, rfl⟩
    go_wp2_with fail
    go_ret
    exact ⟨ret_bool (by simp), bl_step (bl_a _ _) (bl_a _ _)⟩
  · go_enter Try.func132, Try.ntmps132
    go_wp2_with fail
    refine (bool_of (sameNumbers_any _ _ _ _ _ _ _ B B' HX.out HY.out HFX.out HFY.out m1 m2) q1).mono ?_
    rintro e w' ⟨rfl, rfl⟩
    go_wp2_with fail
    refine (sameNumbers_any _ _ 4 4 [s.long, s.ramp, s.voice, s.noise] [t.long, t.ramp, t.voice, t.noise] _ (w.heap.size + 3) (w.heap.size + 4) ((fs_made _ [s.long, s.ramp, s.voice, s.noise] _ _ (by simp)).alloc (by simp) _) (fs_made _ [t.long, t.ramp, t.voice, t.noise] _ _ (by simp)) (by simp [fits, *]) (by simp [fits, *]) (by simp) (by simp)).mono ?_
    rintro e w' ⟨rfl, rfl⟩
    go_wp2_with fail
    go_ret
    exact ⟨ret_bool (by simp), bl_step (bl_a _ _) (bl_step (bl_a _ _) (bl_step (bl_a _ _) (bl_a _ _)))⟩

set_option maxHeartbeats 1000000 in
theorem EqualFunc_any (A A' : Option Addr) (c c' : Nat) (ss ts : List Snd) (w : World) (B B' : Nat) (hB : B ≤ w.heap.size) (hB' : B' ≤ w.heap.size) (hx : Snds w B A ss) (hy : Snds w B' A' ts) (fx : ∀ s ∈ ss, s.fit) (fy : ∀ s ∈ ts, s.fit) (hm : ss.length ≤ 1048576) (_hm2 : ts.length ≤ 1048576) :
    Calls Try.prog 131 #[.slice A ss.length c, .slice A' ts.length c', .func (.func 132) #[] #[]] w fun e w' => e = .returned (.bool (sndsSm ss ts)) ∧ Below w.heap.size w w' := by
  have HFX := Lib.hid fx; have HFY := Lib.hid fy; clear fx fy
  by_cases hl : ts.length = ss.length
  · rw [hl]
    have HL := Lib.hid hl; clear hl _hm2
    have HX := Lib.hid hx; clear hx
    have HY := Lib.hid hy; clear hy
    go_enter Try.func131, Try.ntmps131
    go_wp2
    go_loopw [17] (fun i wr => ∃ k : Nat, k ≤ ss.length ∧ i = .int .i64 k ∧ Below w.heap.size w wr ∧ (List.range k).all (sndAtB ss ts) = true) (fun i _ => ss.length - (intOf i).toNat)
    case atStart => exact ⟨0, Nat.zero_le _, rfl, Below.refl _ _, rfl⟩
    case round =>
      obtain ⟨k, hk, rfl, hwr, hall⟩ := hrel
      have HA := Lib.hid hall; clear hall
      by_cases hlt : k < ss.length
      · have hlt' : k < ts.length := by have := HL.out; omega
        obtain ⟨ad, hA, hadB, hcell, hin⟩ := (HX.out.below' hwr hB).at_ hlt
        obtain ⟨ad', hA', hadB', hcell', hin'⟩ := (HY.out.below' hwr hB').at_ hlt'
        subst hA; subst hA'
        have hsz := hwr.size
        have HW := Lib.hid hwr; clear hwr
        have HI := Lib.hid hin; have HI' := Lib.hid hin'; clear hin hin'
        obtain ⟨a0, a1, a2, a3, a4, a5⟩ := cells_at hcell
        obtain ⟨b0, b1, b2, b3, b4, b5⟩ := cells_at hcell'
        clear hcell hcell'
        have l2 : (ad'.add (k * 6)).block < wr.heap.size := by rw [add_block]; omega
        have e0 : ∀ o, (wr.alloc o).cell? (ad'.add (k * 6)) = some (.string ts[k].name) := fun o => by rw [World.cell?_alloc_lt _ _ _ l2]; exact b0
        have e1 : ∀ o, (wr.alloc o).cell? ⟨(ad'.add (k * 6)).block, (ad'.add (k * 6)).off + 1, none⟩ = some (.slice ts[k].A ts[k].xs.length ts[k].c) := fun o => (World.cell?_alloc_lt _ _ _ (show (⟨(ad'.add (k * 6)).block, (ad'.add (k * 6)).off + 1, none⟩ : Addr).block < _ from l2)).trans b1
        have e2 : ∀ o, (wr.alloc o).cell? ⟨(ad'.add (k * 6)).block, (ad'.add (k * 6)).off + 2, none⟩ = some (fl ts[k].long) := fun o => (World.cell?_alloc_lt _ _ _ (show (⟨(ad'.add (k * 6)).block, (ad'.add (k * 6)).off + 2, none⟩ : Addr).block < _ from l2)).trans b2
        have e3 : ∀ o, (wr.alloc o).cell? ⟨(ad'.add (k * 6)).block, (ad'.add (k * 6)).off + 3, none⟩ = some (fl ts[k].ramp) := fun o => (World.cell?_alloc_lt _ _ _ (show (⟨(ad'.add (k * 6)).block, (ad'.add (k * 6)).off + 3, none⟩ : Addr).block < _ from l2)).trans b3
        have e4 : ∀ o, (wr.alloc o).cell? ⟨(ad'.add (k * 6)).block, (ad'.add (k * 6)).off + 4, none⟩ = some (fl ts[k].voice) := fun o => (World.cell?_alloc_lt _ _ _ (show (⟨(ad'.add (k * 6)).block, (ad'.add (k * 6)).off + 4, none⟩ : Addr).block < _ from l2)).trans b4
        have e5 : ∀ o, (wr.alloc o).cell? ⟨(ad'.add (k * 6)).block, (ad'.add (k * 6)).off + 5, none⟩ = some (fl ts[k].noise) := fun o => (World.cell?_alloc_lt _ _ _ (show (⟨(ad'.add (k * 6)).block, (ad'.add (k * 6)).off + 5, none⟩ : Addr).block < _ from l2)).trans b5
        clear b0 b1 b2 b3 b4 b5 l2
        cases hq : sndSm ss[k] ts[k]
        · go_wp2_with fail
          refine (bool_of (SameSounds1_any ss[k] ts[k] _ B B' (by simp; omega) (by simp; omega) ((HI.out.alloc (by omega) _).alloc (by simp; omega) _) ((HI'.out.alloc (by omega) _).alloc (by simp; omega) _) (HFX.out _ (List.getElem_mem hlt)) (HFY.out _ (List.getElem_mem hlt'))) hq).mono ?_
          rintro e w' ⟨rfl, hb⟩
          have hb' : Below w.heap.size w w' := HW.out.trans ((bl_step (bl_step (bl_a _ _) (bl_a _ _)) hb).mono hsz)
          have HB := Lib.hid hb'; clear hb hb'
          go_wp2_with fail
          go_ret
          refine ⟨ret_bool ?_, HB.out⟩
          unfold sndsSm
          rw [ra_no hlt (p := sndAtB ss ts) (by rw [sndAt hlt hlt', hq])]
          simp
        · go_wp2_with fail
          refine (bool_of (SameSounds1_any ss[k] ts[k] _ B B' (by simp; omega) (by simp; omega) ((HI.out.alloc (by omega) _).alloc (by simp; omega) _) ((HI'.out.alloc (by omega) _).alloc (by simp; omega) _) (HFX.out _ (List.getElem_mem hlt)) (HFY.out _ (List.getElem_mem hlt'))) hq).mono ?_
          rintro e w' ⟨rfl, hb⟩
          have hb' : Below w.heap.size w w' := HW.out.trans ((bl_step (bl_step (bl_a _ _) (bl_a _ _)) hb).mono hsz)
          have HB := Lib.hid hb'; clear hb hb'
          go_wp2_with fail
          go_roundw
          case rel => exact ⟨k + 1, by omega, by go_num, HB.out, ra_step HA.out (by rw [sndAt hlt hlt', hq])⟩
          case measure => simp [intOf]; omega
      · go_wp2
        go_ret
        refine ⟨ret_bool ?_, hwr⟩
        unfold sndsSm
        rw [show ss.length = k by omega, HA.out, HL.out, show ss.length = k by omega]
        simp
  · have e : sndsSm ss ts = false := by unfold sndsSm; rw [show (ss.length == ts.length) = false by simp; omega]; rfl
    rw [e]; clear e
    go_enter Try.func131, Try.ntmps131
    go_wp2
    go_ret
    exact ⟨rfl, Below.refl _ _⟩

set_option maxHeartbeats 400000 in
theorem SameSounds_any (A A' : Option Addr) (c c' : Nat) (ss ts : List Snd) (w : World) (B B' : Nat) (hB : B ≤ w.heap.size) (hB' : B' ≤ w.heap.size) (hx : Snds w B A ss) (hy : Snds w B' A' ts) (fx : ∀ s ∈ ss, s.fit) (fy : ∀ s ∈ ts, s.fit) (hm : ss.length ≤ 1048576) (hm' : ts.length ≤ 1048576) :
    Calls Try.prog 94 #[.slice A ss.length c, .slice A' ts.length c'] w fun e w' => e = .returned (.bool (sndsSm ss ts)) ∧ Below w.heap.size w w' := by
  have HX := Lib.hid hx; have HY := Lib.hid hy; have HFX := Lib.hid fx; have HFY := Lib.hid fy; clear hx hy fx fy
  go_enter Try.func94, Try.ntmps94
  go_wp2_with fail
  refine (EqualFunc_any _ _ _ _ ss ts _ B B' hB hB' HX.out HY.out HFX.out HFY.out hm hm').mono ?_
  rintro e w' ⟨rfl, hb⟩
  go_wp2_with fail
  go_ret
  exact ⟨rfl, hb⟩

def Dsk.fit (d : Dsk) : Prop := fits d.txs ∧ d.loss < 4294967296 ∧ d.throat < 4294967296 ∧ d.lips < 4294967296 ∧ d.period < 4294967296 ∧ d.op < 4294967296 ∧ d.cl < 4294967296 ∧ d.breath < 4294967296 ∧ d.shake < 4294967296 ∧ fits d.pxs ∧ d.gain < 4294967296 ∧ ∀ s ∈ d.ss, s.fit
def dskSm (d e : Dsk) : Bool := tubeSm d.txs d.loss d.throat d.lips e.txs e.loss e.throat e.lips && throatSm d.period d.op d.cl d.breath d.shake e.period e.op e.cl e.breath e.shake && predSm d.pxs d.gain e.pxs e.gain && sndsSm d.ss e.ss
end Go.Proofs.Ythmkbgiandncnaa
