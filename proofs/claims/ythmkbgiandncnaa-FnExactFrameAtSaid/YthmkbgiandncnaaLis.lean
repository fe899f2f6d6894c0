/- Lists of sounds in memory. -/
import Derived.Test.YthmkbgiandncnaaSnd
namespace Go.Proofs.Ythmkbgiandncnaa
open Go.RowKit

/-- a sound as it lies in memory: its areas behind an address -/
structure Snd where
  name : ByteArray
  A : Option Addr
  c : Nat
  xs : List Nat
  long : Nat
  ramp : Nat
  voice : Nat
  noise : Nat
def Snd.cells (s : Snd) : List Value := [.string s.name, .slice s.A s.xs.length s.c, fl s.long, fl s.ramp, fl s.voice, fl s.noise]
def Snd.ok (s : Snd) : Bool := soundOk s.name s.xs s.long s.ramp s.voice s.noise
def SndIn (w : World) (B : Nat) (s : Snd) : Prop := Fs w B s.A s.xs ∧ s.xs.length ≤ 1048576 ∧ s.name.size ≤ 1048576
def Snds (w : World) (B : Nat) (A : Option Addr) (ss : List Snd) : Prop := Sl w B 6 A ss.length (ss.flatMap Snd.cells) ∧ ∀ s ∈ ss, SndIn w B s

theorem cells_len (s : Snd) : s.cells.length = 6 := rfl
theorem flat_len (ss : List Snd) : (ss.flatMap Snd.cells).length = ss.length * 6 := by
  induction ss with
  | nil => rfl
  | cons s ss ih => rw [List.flatMap_cons, List.length_append, ih, cells_len, List.length_cons]; omega
theorem flat_get {ss : List Snd} {k j : Nat} (hk : k < ss.length) (hj : j < 6) : (ss.flatMap Snd.cells)[k * 6 + j]? = ss[k].cells[j]? := by
  induction ss generalizing k with
  | nil => simp at hk
  | cons s ss ih =>
    rw [List.flatMap_cons]
    cases k with
    | zero => rw [Nat.zero_mul, Nat.zero_add, List.getElem?_append_left (by rw [cells_len]; exact hj)]; rfl
    | succ k =>
      rw [List.getElem?_append_right (by rw [cells_len]; omega), cells_len]
      rw [show (k + 1) * 6 + j - 6 = k * 6 + j from by omega, ih (by simpa using hk)]
      rfl
section
variable {w w' : World} {B B' : Nat} {A : Option Addr} {ss : List Snd} {s : Snd}
theorem SndIn.below (h : SndIn w B s) (hb : Below B w w') : SndIn w' B s := ⟨h.1.below hb, h.2⟩
theorem SndIn.below' (h : SndIn w B s) (hb : Below B' w w') (hB : B ≤ B') : SndIn w' B s := ⟨h.1.below' hb hB, h.2⟩
theorem SndIn.drewN (h : SndIn w B s) (n : Nat) : SndIn (w.drewN n) B s := h
theorem SndIn.drew (h : SndIn w B s) : SndIn w.drew B s := h
theorem SndIn.alloc (h : SndIn w B s) (hB : B ≤ w.heap.size) (o : Obj) : SndIn (w.alloc o) B s := ⟨h.1.alloc hB o, h.2⟩
theorem SndIn.more (h : SndIn w B s) (hB : B ≤ B') : SndIn w B' s := ⟨h.1.more hB, h.2⟩
theorem Snds.below (h : Snds w B A ss) (hb : Below B w w') : Snds w' B A ss := ⟨h.1.below hb, fun s hs => (h.2 s hs).below hb⟩
theorem Snds.below' (h : Snds w B A ss) (hb : Below B' w w') (hB : B ≤ B') : Snds w' B A ss := ⟨h.1.below' hb hB, fun s hs => (h.2 s hs).below' hb hB⟩
theorem Snds.drewN (h : Snds w B A ss) (n : Nat) : Snds (w.drewN n) B A ss := h
theorem Snds.drew (h : Snds w B A ss) : Snds w.drew B A ss := h
theorem Snds.alloc (h : Snds w B A ss) (hB : B ≤ w.heap.size) (o : Obj) : Snds (w.alloc o) B A ss := ⟨h.1.alloc hB o, fun s hs => (h.2 s hs).alloc hB o⟩
theorem Snds.more (h : Snds w B A ss) (hB : B ≤ B') : Snds w B' A ss := ⟨h.1.more hB, fun s hs => (h.2 s hs).more hB⟩
theorem Snds.at_ {k : Nat} (h : Snds w B A ss) (hk : k < ss.length) : ∃ ad, A = some ad ∧ ad.block < B ∧ At w (ad.add (k * 6)) ss[k].cells ∧ SndIn w B ss[k] := by
  obtain ⟨ad, e, hb, hc⟩ := h.1.2 (by omega)
  refine ⟨ad, e, hb, fun j u hu => ?_, h.2 _ (List.getElem_mem hk)⟩
  rw [add_add']
  refine hc _ u ?_
  have hj : j < 6 := by have := lt_of_some hu; rwa [cells_len] at this
  rw [flat_get hk hj]; exact hu
end
theorem cells_at {w : World} {a : Addr} {s : Snd} (h : At w a s.cells) : w.cell? a = some (.string s.name) ∧ w.cell? ⟨a.block, a.off + 1, none⟩ = some (.slice s.A s.xs.length s.c) ∧
    w.cell? ⟨a.block, a.off + 2, none⟩ = some (fl s.long) ∧ w.cell? ⟨a.block, a.off + 3, none⟩ = some (fl s.ramp) ∧ w.cell? ⟨a.block, a.off + 4, none⟩ = some (fl s.voice) ∧ w.cell? ⟨a.block, a.off + 5, none⟩ = some (fl s.noise) :=
  ⟨by have := h 0 _ rfl; rwa [add_zero'] at this, h 1 _ rfl, h 2 _ rfl, h 3 _ rfl, h 4 _ rfl, h 5 _ rfl⟩

theorem ValidSoundS_any (s : Snd) (w : World) (B : Nat) (hB : B ≤ w.heap.size) (hin : SndIn w B s) :
    Calls Try.prog 117 #[.agg #[.string s.name, .slice s.A s.xs.length s.c, fl s.long, fl s.ramp, fl s.voice, fl s.noise]] w fun e w' => e = .returned (.bool s.ok) ∧ Below w.heap.size w w' :=
  ValidSound_any _ _ _ _ _ _ _ _ w B hB hin.1 (by have := hin.2.1; omega) (by have := hin.2.2; omega)
theorem l06SoundS_any (s : Snd) (ad : Addr) (w : World) (B : Nat) (hat : At w ad s.cells) (hin : SndIn w B s) :
    Calls Try.prog 116 #[.pointer (some ad)] w fun e w' => e = .returned (.bool s.ok) ∧ ∃ n, w' = w.drewN n :=
  l06Sound_any ad _ _ _ _ _ _ _ _ w B hat hin.1 (by have := hin.2.1; omega) (by have := hin.2.2; omega)

/-! ## finding a sound -/
def named (nm : ByteArray) (s : Snd) : Bool := s.name.toList == nm.toList

set_option maxHeartbeats 400000 in
theorem l06Find_any (A : Option Addr) (c : Nat) (ss : List Snd) (nm : ByteArray) (w : World) (B : Nat) (hx : Snds w B A ss) (hm : ss.length ≤ 1048576) :
    Calls Try.prog 78 #[.slice A ss.length c, .string nm] w fun e w' => e = .returned (.int .i64 (idx (named nm) ss)) ∧ w = w' := by
  go_enter Try.func78, Try.ntmps78
  go_wp2
  go_loop [5] (fun i => ∃ k : Nat, k ≤ ss.length ∧ i = .int .i64 k ∧ (ss.take k).any (named nm) = false) (fun i => ss.length - (intOf i).toNat)
  case atStart => exact ⟨0, Nat.zero_le _, rfl, rfl⟩
  case round =>
    obtain ⟨k, hk, rfl, hall⟩ := hrel
    have HA := Lib.hid hall; clear hall
    by_cases hlt : k < ss.length
    · obtain ⟨ad, rfl, hadB, hat, hin⟩ := hx.at_ hlt
      have h0 : w.cell? (ad.add (k * 6)) = some (.string ss[k].name) := by have := hat 0 _ rfl; rwa [add_zero'] at this
      have HX := Lib.hid hx; clear hx
      have HT := Lib.hid hat; clear hat
      go_wp2
      · go_ret
        exact ⟨ret_int (idx_hit hlt HA.out ‹_›).symm, rfl⟩
      · go_round
        case rel => exact ⟨k + 1, by omega, by go_num, any_take_succ hlt HA.out ‹_›⟩
        case measure => simp [intOf]; omega
    · go_wp2
      go_ret
      exact ⟨ret_int (idx_none (any_end HA.out hlt)).symm, rfl⟩

set_option maxHeartbeats 400000 in
theorem findSound1_any (s : Snd) (p : Addr) (nm : ByteArray) (w : World) (hp : p.block < w.heap.size) (hc : w.cell? p = some (.string nm)) :
    Calls Try.prog 125 #[.agg #[.string s.name, .slice s.A s.xs.length s.c, fl s.long, fl s.ramp, fl s.voice, fl s.noise], .pointer (some p)] w fun e w' => e = .returned (.bool (named nm s)) ∧ Below w.heap.size w w' := by
  have hc1 : (w.alloc (.cells #[.string s.name, .slice s.A s.xs.length s.c, fl s.long, fl s.ramp, fl s.voice, fl s.noise] 98)).cell? p = some (.string nm) := by rw [World.cell?_alloc_lt _ _ _ hp]; exact hc
  go_enter Try.func125, Try.ntmps125
  go_wp2
  go_ret
  exact ⟨rfl, bl_a _ _⟩

set_option maxHeartbeats 400000 in
theorem IndexNamed_any (A : Option Addr) (c : Nat) (ss : List Snd) (p : Addr) (nm : ByteArray) (w : World) (B : Nat) (hB : B ≤ w.heap.size) (hx : Snds w B A ss) (hm : ss.length ≤ 1048576) (hp : p.block < w.heap.size) (hc : w.cell? p = some (.string nm)) :
    Calls Try.prog 124 #[.slice A ss.length c, .func (.func 125) #[] #[.pointer (some p)]] w fun e w' => e = .returned (.int .i64 (idx (named nm) ss)) ∧ Below w.heap.size w w' := by
  go_enter Try.func124, Try.ntmps124
  go_wp2
  go_loopw [8] (fun i wr => ∃ k : Nat, k ≤ ss.length ∧ i = .int .i64 k ∧ (ss.take k).any (named nm) = false ∧ Below w.heap.size w wr) (fun i _ => ss.length - (intOf i).toNat)
  case atStart => exact ⟨0, Nat.zero_le _, rfl, rfl, Below.refl _ _⟩
  case round =>
    obtain ⟨k, hk, rfl, hall, hb⟩ := hrel
    have HA := Lib.hid hall; clear hall
    by_cases hlt : k < ss.length
    · have hx1 := hx.below' hb hB
      obtain ⟨ad, rfl, hadB, hat, hin⟩ := hx1.at_ hlt
      have hcp : wr.cell? p = some (.string nm) := by rw [hb.cell hp]; exact hc
      obtain ⟨h0, h1, h2, h3, h4, h5⟩ := cells_at hat
      have HX := Lib.hid hx; clear hx hx1
      have HT := Lib.hid hat; clear hat
      have hsz := hb.size
      go_wp2_with (go_at_call 125; refine (findSound1_any ss[k] p nm _ (by omega) hcp).mono ?_; rintro e w' ⟨rfl, hb'⟩)
      · go_ret
        exact ⟨ret_int (idx_hit hlt HA.out ‹_›).symm, hb.trans (hb'.mono (by omega))⟩
      · go_roundw
        case rel => exact ⟨k + 1, by omega, by go_num, any_take_succ hlt HA.out ‹_›, hb.trans (hb'.mono (by omega))⟩
        case measure => simp [intOf]; omega
    · go_wp2
      go_ret
      exact ⟨ret_int (idx_none (any_end HA.out hlt)).symm, hb⟩

set_option maxHeartbeats 400000 in
theorem findSound_any (A : Option Addr) (c : Nat) (ss : List Snd) (nm : ByteArray) (w : World) (B : Nat) (hB : B ≤ w.heap.size) (hx : Snds w B A ss) (hm : ss.length ≤ 1048576) :
    Calls Try.prog 80 #[.slice A ss.length c, .string nm] w fun e w' => e = .returned (.int .i64 (idx (named nm) ss)) ∧ Below w.heap.size w w' := by
  have hx1 := hx.alloc hB (.cells #[.string nm] 9)
  have HX := Lib.hid hx1; clear hx hx1
  go_enter Try.func80, Try.ntmps80
  go_wp2_with (go_at_call 124; refine (IndexNamed_any _ _ _ _ nm _ B (by simp; omega) HX.out hm (by simp) (by simp)).mono ?_; rintro e w' ⟨rfl, hb⟩)
  go_ret
  exact ⟨rfl, (bl_a _ _).trans (hb.mono (by simp))⟩
end Go.Proofs.Ythmkbgiandncnaa
