/- The frame at a time: what it is, in plain terms. -/
import Derived.Test.YthmkbgiandncnaaMix
namespace Go.Proofs.Ythmkbgiandncnaa
open Go.RowKit

/-- the sound and the time within it -/
def seekF (ls : List Nat) (n : Nat) : Nat → Nat → Nat → Nat × Nat
  | 0, i, t => (i, t)
  | f + 1, i, t => if i + 1 < n ∧ leF .f32 (ls.getD i 0) t = true then seekF ls n f (i + 1) (sub32 t (ls.getD i 0)) else (i, t)
theorem seek_step {ls : List Nat} {n k t : Nat} (hk : k < ls.length) (h1 : k + 1 < n) (h2 : leF .f32 ls[k] t = true) : seekF ls n (n - k) k t = seekF ls n (n - (k + 1)) (k + 1) (sub32 t ls[k]) := by
  rw [show n - k = (n - (k + 1)) + 1 by omega]
  have e : ls.getD k 0 = ls[k] := by simp [List.getD, hk]
  rw [seekF, e, if_pos ⟨h1, h2⟩]
theorem seek_stop {ls : List Nat} {n k t : Nat} (hk : k < ls.length) (h : ¬ k + 1 < n ∨ leF .f32 ls[k] t = false) : seekF ls n (n - k) k t = (k, t) := by
  have e : ls.getD k 0 = ls[k] := by simp [List.getD, hk]
  cases hd : n - k with
  | zero => rfl
  | succ f =>
    rw [seekF, e, if_neg]
    rintro ⟨h1, h2⟩
    rcases h with h | h
    · exact h h1
    · rw [h] at h2; cases h2

def zeroSnd : Snd := ⟨ByteArray.empty, none, 0, [], 0, 0, 0, 0⟩
def sndOf (ss : List Snd) (nm : ByteArray) : Snd := (ss.find? (named nm)).getD zeroSnd
theorem sndOf_at {ss : List Snd} {nm : ByteArray} {k : Nat} (hk : k < ss.length) (h : idx (named nm) ss = k) : sndOf ss nm = ss[k] := by
  unfold idx at h
  unfold sndOf
  cases hf : ss.findIdx? (named nm) with
  | none => rw [hf] at h; exact absurd h (by simp)
  | some i =>
    rw [hf] at h
    have : i = k := by have h' : (i : Int) = k := h; omega
    subst this
    rw [List.findIdx?_eq_some_iff_getElem] at hf
    obtain ⟨hi, hp, hb⟩ := hf
    have : ss.find? (named nm) = some ss[i] := by
      rw [List.find?_eq_some_iff_getElem]
      exact ⟨hp, i, hi, rfl, fun j hj => by simpa using hb j hj⟩
    rw [this]; rfl
theorem sndOf_bare (ss : List Snd) (nm : ByteArray) : (sndOf ss nm).bare = (sndOf (ss.map Snd.bare) nm).bare := by
  unfold sndOf
  rw [List.find?_map, show (named nm ∘ Snd.bare) = named nm from rfl]
  cases ss.find? (named nm) <;> rfl

structure Frd where
  xs : List Nat
  p : Nat
  v : Nat
  z : Nat
def Frd.val (F : Frd) (A : Option Addr) (c : Nat) : Value := .agg #[.slice A F.xs.length c, fl F.p, fl F.v, fl F.z]
def Frd.ok (F : Frd) : Bool := frmOk F.xs F.p F.v F.z
def zeroFrd : Frd := ⟨[], 0, 0, 0⟩
def Frd.res (F : Frd) : Frd := if F.ok then F else zeroFrd
def Snd.frd (s : Snd) : Frd := ⟨s.xs, 0, s.voice, s.noise⟩
def mixD (F G : Frd) (sh : Nat) : Frd := ⟨mixed F.xs G.xs sh, mixP F.p G.p sh, mixP F.v G.v sh, mixP F.z G.z sh⟩
/-- the frame at the i-th sound's time -/
def frdFrom (ss : List Snd) (ms : List ByteArray) (i t : Nat) : Frd :=
  let s := sndOf ss (ms.getD i ByteArray.empty)
  if 0 < i ∧ ltF .f32 t s.ramp = true then mixD (sndOf ss (ms.getD (i - 1) ByteArray.empty)).frd s.frd (rampP (div32 t s.ramp)) else s.frd
def frdAt (ss : List Snd) (ms : List ByteArray) (ls : List Nat) (t : Nat) : Frd :=
  let r := seekF ls ms.length ms.length 0 t
  frdFrom ss ms r.1 r.2
def frmAtOk (ss : List Snd) (ms : List ByteArray) (ls : List Nat) (t : Nat) : Bool := namesOk ss ms && decide (ls.length = ms.length) && least t && ls.all above && (frdAt ss ms ls t).ok
def frmAtRes (ss : List Snd) (ms : List ByteArray) (ls : List Nat) (t : Nat) : Frd := if frmAtOk ss ms ls t then frdAt ss ms ls t else zeroFrd

theorem frd_bare {s t : Snd} (h : s.bare = t.bare) : s.frd = t.frd ∧ s.ramp = t.ramp := by
  have e : ∀ s : Snd, s.frd = s.bare.frd ∧ s.ramp = s.bare.ramp := fun _ => ⟨rfl, rfl⟩
  exact ⟨by rw [(e s).1, (e t).1, h], by rw [(e s).2, (e t).2, h]⟩
theorem frdAt_bare {ss ts : List Snd} (h : sames ss ts) (ms : List ByteArray) (ls : List Nat) (t : Nat) : frdAt ss ms ls t = frdAt ts ms ls t := by
  have e : ∀ nm, (sndOf ss nm).bare = (sndOf ts nm).bare := fun nm => by rw [sndOf_bare ss, sndOf_bare ts, show ss.map Snd.bare = _ from h]
  unfold frdAt frdFrom
  simp only [(frd_bare (e _)).1, (frd_bare (e _)).2]
theorem frmAtOk_bare {ss ts : List Snd} (h : sames ss ts) (ms : List ByteArray) (ls : List Nat) (t : Nat) : frmAtOk ss ms ls t = frmAtOk ts ms ls t := by
  unfold frmAtOk; rw [namesOk_bare h, frdAt_bare h]
theorem frmAtRes_bare {ss ts : List Snd} (h : sames ss ts) (ms : List ByteArray) (ls : List Nat) (t : Nat) : frmAtRes ss ms ls t = frmAtRes ts ms ls t := by
  unfold frmAtRes; rw [frmAtOk_bare h, frdAt_bare h]

theorem frdFrom_plain {ss : List Snd} {ms : List ByteArray} {k t j : Nat} (hk : k < ms.length) (hj : j < ss.length) (he : idx (named ms[k]) ss = j) (h : k = 0 ∨ ltF .f32 t ss[j].ramp = false) : frdFrom ss ms k t = ss[j].frd := by
  unfold frdFrom
  rw [show ms.getD k ByteArray.empty = ms[k] by simp [List.getD, hk], sndOf_at hj he]
  dsimp only
  rw [if_neg]
  rintro ⟨h1, h2⟩
  rcases h with h | h
  · omega
  · rw [h] at h2; cases h2
theorem frdFrom_mix {ss : List Snd} {ms : List ByteArray} {k t j i : Nat} (hk : k < ms.length) (hp : k - 1 < ms.length) (hj : j < ss.length) (he : idx (named ms[k]) ss = j) (hi : i < ss.length) (hei : idx (named ms[k - 1]) ss = i) (h0 : 0 < k) (h : ltF .f32 t ss[j].ramp = true) :
    frdFrom ss ms k t = mixD ss[i].frd ss[j].frd (rampP (div32 t ss[j].ramp)) := by
  unfold frdFrom
  rw [show ms.getD k ByteArray.empty = ms[k] by simp [List.getD, hk], sndOf_at hj he, show ms.getD (k - 1) ByteArray.empty = ms[k - 1] by simp [List.getD, hp], sndOf_at hi hei]
  dsimp only
  rw [if_pos ⟨h0, h⟩]
theorem res_yes {F : Frd} (h : F.ok = true) : F.res = F := by unfold Frd.res; rw [h]; rfl
theorem res_no {F : Frd} (h : F.ok = false) : F.res = zeroFrd := by unfold Frd.res; rw [h]; rfl
/-- what a frame that is given out if it is valid comes to -/
theorem frd_ret {w : World} {base : Nat} {A : Option Addr} {c : Nat} {F : Frd} (h : OwnF w base (.slice A F.xs.length c) F.xs) :
    ∃ A' c', frmRet A c F.xs F.p F.v F.z = #[F.res.val A' c', .bool F.ok] ∧ OwnF w base (.slice A' F.res.xs.length c') F.res.xs := by
  cases hk : F.ok
  · refine ⟨none, 0, ?_, ?_⟩
    · rw [frmRet_no hk, res_no hk]; rfl
    · rw [res_no hk]; exact World.ownsRow_nil _ _ _ _
  · refine ⟨A, c, ?_, ?_⟩
    · rw [frmRet_yes hk, res_yes hk]; rfl
    · rw [res_yes hk]; exact h
theorem frd_yes {ss : List Snd} {ms : List ByteArray} {ls : List Nat} {t : Nat} (h1 : namesOk ss ms = true) (h2 : ls.length = ms.length) (h3 : least t = true) (h4 : ls.all above = true) : frmAtOk ss ms ls t = (frdAt ss ms ls t).ok ∧ frmAtRes ss ms ls t = (frdAt ss ms ls t).res := by
  have : frmAtOk ss ms ls t = (frdAt ss ms ls t).ok := by unfold frmAtOk; simp [h1, h2, h3, h4]
  exact ⟨this, by unfold frmAtRes Frd.res; rw [this]⟩
theorem frd_no {ss : List Snd} {ms : List ByteArray} {ls : List Nat} {t : Nat} (h : namesOk ss ms = false ∨ ls.length ≠ ms.length ∨ least t = false ∨ ls.all above = false) : frmAtOk ss ms ls t = false ∧ frmAtRes ss ms ls t = zeroFrd := by
  have : frmAtOk ss ms ls t = false := by
    unfold frmAtOk
    rcases h with h | h | h | h
    · rw [h]; rfl
    · simp [h]
    · rw [h]; simp
    · rw [h]; simp
  exact ⟨this, by unfold frmAtRes; rw [this]; rfl⟩

/-! what valid sounds give -/
theorem ok_parts {s : Snd} (h : s.ok = true) : (∀ x ∈ s.xs, nonneg x) ∧ fin32 s.ramp = true ∧ nonneg s.voice ∧ nonneg s.noise := by
  unfold Snd.ok soundOk areasOk at h
  simp only [Bool.and_eq_true, List.all_eq_true] at h
  obtain ⟨⟨⟨⟨⟨_, _, h1⟩, _⟩, h2⟩, h3⟩, h4⟩ := h
  have sh : ∀ {x : Nat}, share x = true → nonneg x := by
    intro x hx
    unfold share betw at hx
    simp only [Bool.and_eq_true] at hx
    have hn : ltF .f32 x 0 = false := geF_lt hx.1
    refine nonneg_of ?_ hn
    cases hd : Ieee.single.read x with
    | number s m e => exact fin32_of_number hd
    | nan s f =>
      exfalso
      have : nanB .f32 x = true := by unfold nanB FloatKind.decode; rw [show FloatKind.f32.format.read x = .nan s f from hd]; rfl
      have h1 := hx.1
      unfold geF gtF eqF at h1
      rw [order_nan_left this] at h1
      cases h1
    | infinity s =>
      exfalso
      have h1 := hx.1
      have h2 := hx.2
      unfold geF gtF eqF Ieee.Format.order at h1
      unfold leF ltF eqF Ieee.Format.order at h2
      rw [show FloatKind.f32.format.read x = .infinity s from hd] at h1 h2
      cases s
      · revert h2; decide +kernel
      · revert h1; decide +kernel
  exact ⟨fun x hx => above_nonneg (h1 x hx), by unfold least at h2; simp at h2; exact h2.1, sh h3, sh h4⟩
theorem ok_len {ss : List Snd} (h : soundsOk ss = true) {i j : Nat} (hi : i < ss.length) (hj : j < ss.length) : ss[i].xs.length = ss[j].xs.length := by
  have key : ∀ {k : Nat} (hk : k < ss.length), ss[k].xs.length = (ss[0]'(by omega)).xs.length := by
    intro k hk
    unfold soundsOk at h
    simp only [Bool.and_eq_true, List.all_eq_true, List.mem_range] at h
    have := h.2 k hk
    rw [okAt_at hk (by omega) (by omega)] at this
    simp only [Bool.and_eq_true, beq_iff_eq] at this
    exact this.1.2
  rw [key hi, key hj]
theorem zero_nonneg : nonneg 0 := ⟨false, 0, -149, read_zero, .inl rfl⟩
theorem sub_num' {t l : Nat} (ht : nanB .f32 t = false) (hl : fin32 l = true) : ∃ r, floatBits .sub .f32 t l = some r ∧ sub32 t l = r ∧ nanB .f32 r = false := by
  obtain ⟨s, m, e, h2⟩ := number_of_fin32 hl
  have : ∃ r, Ieee.single.sub t l = some r := by
    unfold Ieee.Format.sub
    rw [h2]
    unfold nanB FloatKind.decode at ht
    have ht' : (Ieee.single.read t).isNaN = false := ht
    generalize Ieee.single.read t = d at ht'
    cases d with
    | number => exact ⟨_, rfl⟩
    | infinity => exact ⟨_, rfl⟩
    | nan => cases ht'
  obtain ⟨r, hr⟩ := this
  have hr' : floatBits .sub .f32 t l = some r := hr
  exact ⟨r, hr', by unfold sub32 arF; rw [hr']; rfl, floatBits_num hr'⟩
theorem div_num' {t p : Nat} (ht : nanB .f32 t = false) (hp : fin32 p = true) (h : ltF .f32 t p = true) : ∃ r, floatBits .quo .f32 t p = some r ∧ div32 t p = r ∧ nanB .f32 r = false := by
  cases hf : fin32 t
  · obtain ⟨s', n, f, h2⟩ := number_of_fin32 hp
    have : ∃ r, Ieee.single.div t p = some r := by
      unfold Ieee.Format.div
      rw [h2]
      unfold nanB FloatKind.decode at ht
      have ht' : (Ieee.single.read t).isNaN = false := ht
      cases hd : Ieee.single.read t with
      | number s m e => rw [fin32_of_number hd] at hf; cases hf
      | infinity => exact ⟨_, rfl⟩
      | nan => rw [hd] at ht'; cases ht'
    obtain ⟨r, hr⟩ := this
    have hr' : floatBits .quo .f32 t p = some r := hr
    exact ⟨r, hr', by unfold div32 arF; rw [hr']; rfl, floatBits_num hr'⟩
  · exact div_num hf hp h
end Go.Proofs.Ythmkbgiandncnaa
