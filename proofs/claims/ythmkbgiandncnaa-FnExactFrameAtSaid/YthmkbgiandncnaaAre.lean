/- Which lists are valid lists of sounds. -/
import Derived.Test.YthmkbgiandncnaaLis
import Derived.Test.YthmkbgiandncnaaAny
namespace Go.Proofs.Ythmkbgiandncnaa
open Go.RowKit

def nmLess (a b : ByteArray) : Bool := Op.bytesLess a.toList b.toList
def okAt (ss : List Snd) (k : Nat) : Bool :=
  match ss[k]?, ss[0]?, ss[k - 1]? with
  | some s, some z, some p => s.ok && (s.xs.length == z.xs.length) && (k == 0 || nmLess p.name s.name)
  | _, _, _ => true
def soundsOk (ss : List Snd) : Bool := decide (ss.length ≤ 16) && (List.range ss.length).all (okAt ss)

theorem okAt_at {ss : List Snd} {k : Nat} (hk : k < ss.length) (h0 : 0 < ss.length) (hp : k - 1 < ss.length) :
    okAt ss k = (ss[k].ok && (ss[k].xs.length == ss[0].xs.length) && (k == 0 || nmLess ss[k - 1].name ss[k].name)) := by
  unfold okAt
  rw [List.getElem?_eq_getElem hk, List.getElem?_eq_getElem h0, List.getElem?_eq_getElem hp]
theorem okAt_yes {a z l r : Bool} {x y : Nat} (hq : r = (a && (x == y) && (z || l))) (ha : a = true) (hx : x = y) (hz : (z || l) = true) : r = true := by rw [hq, ha, hz, hx]; simp
theorem okAt_no {a z l r : Bool} {x y : Nat} (hq : r = (a && (x == y) && (z || l))) (h : a = false ∨ x ≠ y ∨ (z || l) = false) : r = false := by
  rw [hq]
  rcases h with h | h | h
  · rw [h]; rfl
  · simp [h]
  · rw [h]; simp
theorem range_step {p : Nat → Bool} {k : Nat} (h1 : (List.range k).all p = true) (h2 : p k = true) : (List.range (k + 1)).all p = true := by
  rw [List.range_succ, List.all_append, h1]; simp [h2]
theorem soundsOk_no {ss : List Snd} {k : Nat} (hk : k < ss.length) (h : okAt ss k = false) : soundsOk ss = false := by
  unfold soundsOk
  have : (List.range ss.length).all (okAt ss) = false := by
    rw [List.all_eq_false]; exact ⟨k, by simpa using hk, by simp [h]⟩
  rw [this]; simp

/-! strings as the language orders them -/
theorem bytesLess_irrefl (a : List UInt8) : Op.bytesLess a a = false := by
  induction a with
  | nil => rfl
  | cons x xs ih => unfold Op.bytesLess; simp [ih]
theorem bytesLess_total (a b : List UInt8) : (!Op.bytesLess a b) = (Op.bytesLess b a || b == a) := by
  induction a generalizing b with
  | nil => cases b <;> rfl
  | cons x xs ih =>
    cases b with
    | nil => rfl
    | cons y ys =>
      unfold Op.bytesLess
      have ih' := ih ys
      by_cases h1 : x < y
      · have h2 : ¬ y < x := by rw [UInt8.lt_iff_toNat_lt] at *; omega
        have h3 : ¬ x = y := by rintro rfl; rw [UInt8.lt_iff_toNat_lt] at h1; omega
        simp [h1, h2, Ne.symm h3]
      · by_cases h2 : x = y
        · subst h2
          have h4 : ¬ x < x := h1
          simp [h4, ih']
        · have h3 : y < x := by
            rw [UInt8.lt_iff_toNat_lt] at *
            have : x.toNat ≠ y.toNat := fun e => h2 (UInt8.toNat_inj.1 e)
            omega
          simp [h1, h2, h3]
theorem le_of_not_less {a b : ByteArray} (h : nmLess a b = false) : (Op.bytesLess b.toList a.toList || b.toList == a.toList) = true := by
  rw [← bytesLess_total]; unfold nmLess at h; rw [h]; rfl
theorem not_le_of_less {a b : ByteArray} (h : nmLess a b = true) : (Op.bytesLess b.toList a.toList || b.toList == a.toList) = false := by
  rw [← bytesLess_total]; unfold nmLess at h; rw [h]; rfl

set_option maxHeartbeats 1000000 in
theorem l06Are_any (A : Option Addr) (c : Nat) (ss : List Snd) (w : World) (B : Nat) (hx : Snds w B A ss) (hm : ss.length ≤ 1048576) :
    Calls Try.prog 59 #[.slice A ss.length c] w fun e w' => e = .returned (.bool (soundsOk ss)) ∧ ∃ n, w' = w.drewN n := by
  by_cases h16 : ss.length ≤ 16
  · go_enter Try.func59, Try.ntmps59
    go_wp2
    go_loopw [3] (fun i wr => ∃ k n : Nat, k ≤ ss.length ∧ i = .int .i64 k ∧ (List.range k).all (okAt ss) = true ∧ wr = w.drewN n) (fun i _ => ss.length - (intOf i).toNat)
    case atStart => exact ⟨0, 0, Nat.zero_le _, rfl, rfl, rfl⟩
    case round =>
      obtain ⟨k, n, hk, rfl, hall, hwr⟩ := hrel
      have hx1 : Snds wr B A ss := by rw [hwr]; exact hx
      have HW := Lib.hid hwr; clear hwr hx
      have HA := Lib.hid hall; clear hall
      by_cases hlt : k < ss.length
      · obtain ⟨ad, rfl, hadB, hat, hin⟩ := hx1.at_ hlt
        obtain ⟨ad0, e0, _, hat0, hin0⟩ := hx1.at_ (show 0 < ss.length by omega)
        obtain ⟨ad1, e1, _, hat1, hin1⟩ := hx1.at_ (show k - 1 < ss.length by omega)
        cases e0; cases e1
        have hpos : 0 < ss.length := by omega
        rw [Nat.zero_mul, add_zero'] at hat0
        have HQ := Lib.hid (okAt_at hlt (by omega) (by omega))
        obtain ⟨a0, a1, _, _, _, _⟩ := cells_at hat
        obtain ⟨b0, b1, _, _, _, _⟩ := cells_at hat0
        obtain ⟨c0, c1, _, _, _, _⟩ := cells_at hat1
        have HX := Lib.hid hx1; clear hx1
        have HT := Lib.hid hat; clear hat hat0 hat1
        have HI := Lib.hid hin; clear hin hin0 hin1
        cases hok : ss[k].ok
        · go_wp2
          go_quiet ((go_at_call 116; exact Calls.quiet_of (bool_of (l06SoundS_any ss[k] _ _ B (by exact HT.out) (by exact HI.out)) hok)))
          go_wp2
          go_ret
          exact ⟨ret_bool (soundsOk_no hlt (by rw [HQ.out, hok]; rfl)).symm, _, by rw [HW.out, World.drewN_drewN]⟩
        by_cases hle : ss[k].xs.length = ss[0].xs.length
        · have hle1 : (ss[k].xs.length != ss[0].xs.length) = false := by simp [hle]
          have hle2 : ((ss[k].xs.length : Int) != (ss[0].xs.length : Int)) = false := by simp [hle]
          have HL := Lib.hid hle; clear hle
          by_cases hk0 : k = 0
          · have hd : decide (0 < k) = false := by simp [hk0]
            have hd' : ¬ 0 < k := by omega
            have HK := Lib.hid hk0; clear hk0
            go_wp2
            go_quiet ((go_at_call 116; exact Calls.quiet_of (bool_of (l06SoundS_any ss[k] _ _ B (by exact HT.out) (by exact HI.out)) hok)))
            go_wp2
            go_roundw
            case rel => exact ⟨k + 1, _, by omega, by go_num, range_step HA.out (okAt_yes HQ.out hok HL.out (by simp [HK.out])), by rw [HW.out, World.drewN_drewN]⟩
            case measure => simp [intOf]; omega
          · have hd : decide (0 < k) = true := by simp; omega
            have hd' : 0 < k := by omega
            have hk1 : k - 1 < ss.length := by omega
            have hi1 : IntKind.i64.wrap ((k : Int) - 1) = (k : Int) - 1 := IntWalk.i64_in _ (by omega)
            have hi2 : 0 ≤ (k : Int) - 1 := by omega
            have hi3 : ((k : Int) - 1).toNat = k - 1 := by omega
            have hi4 : (k : Int) - 1 < (ss.length : Int) := by omega
            cases hls : nmLess (ss[k - 1]'hk1).name (ss[k]'hlt).name
            · have hcmp := le_of_not_less hls
              go_wp2
              go_quiet ((go_at_call 116; exact Calls.quiet_of (bool_of (l06SoundS_any ss[k] _ _ B (by exact HT.out) (by exact HI.out)) hok)))
              clear hi1 hi2 hi3 hi4
              go_wp2
              go_ret
              exact ⟨ret_bool (soundsOk_no hlt (okAt_no HQ.out (.inr (.inr (by rw [hls]; simp; omega))))).symm, _, by rw [HW.out, World.drewN_drewN]⟩
            · have hcmp := not_le_of_less hls
              go_wp2
              go_quiet ((go_at_call 116; exact Calls.quiet_of (bool_of (l06SoundS_any ss[k] _ _ B (by exact HT.out) (by exact HI.out)) hok)))
              clear hi1 hi2 hi3 hi4
              go_wp2
              go_roundw
              case rel => exact ⟨k + 1, _, by omega, by go_num, range_step HA.out (okAt_yes HQ.out hok HL.out (by rw [hls]; simp)), by rw [HW.out, World.drewN_drewN]⟩
              case measure => simp [intOf]; omega
        · have hle1 : (ss[k].xs.length != ss[0].xs.length) = true := by simp [hle]
          have hle2 : ((ss[k].xs.length : Int) != (ss[0].xs.length : Int)) = true := by simp; omega
          have HL := Lib.hid hle; clear hle
          go_wp2
          go_quiet ((go_at_call 116; exact Calls.quiet_of (bool_of (l06SoundS_any ss[k] _ _ B (by exact HT.out) (by exact HI.out)) hok)))
          go_wp2
          go_ret
          exact ⟨ret_bool (soundsOk_no hlt (okAt_no HQ.out (.inr (.inl HL.out)))).symm, _, by rw [HW.out, World.drewN_drewN]⟩
      · go_wp2
        go_ret
        exact ⟨ret_bool (by unfold soundsOk; rw [show ss.length = k from by omega, HA.out]; simp; omega), _, HW.out⟩
  · have HN := Lib.hid (show soundsOk ss = false by unfold soundsOk; simp [h16])
    go_enter Try.func59, Try.ntmps59
    go_wp2
    go_loopw [3] (fun i wr => i = .int .i64 0 ∧ wr = w) (fun i _ => 0)
    case atStart => exact ⟨rfl, rfl⟩
    case round =>
      obtain ⟨rfl, rfl⟩ := hrel
      go_wp2
      all_goals go_ret
      all_goals exact ⟨ret_bool (by rw [HN.out]; try (simp; omega)), 0, rfl⟩
set_option maxHeartbeats 1000000 in
theorem AreSounds_any (A : Option Addr) (c : Nat) (ss : List Snd) (w : World) (B : Nat) (hB : B ≤ w.heap.size) (hx : Snds w B A ss) (hm : ss.length ≤ 1048576) :
    Calls Try.prog 64 #[.slice A ss.length c] w fun e w' => e = .returned (.bool (soundsOk ss)) ∧ Below w.heap.size w w' := by
  go_enter Try.func64, Try.ntmps64
  go_wp2
  go_loopw [7] (fun i wr => ∃ k : Nat, k ≤ ss.length ∧ i = .int .i64 k ∧ (List.range k).all (okAt ss) = true ∧ Below w.heap.size w wr) (fun i _ => ss.length - (intOf i).toNat)
  case atStart => exact ⟨0, Nat.zero_le _, rfl, rfl, Below.refl _ _⟩
  case round =>
    obtain ⟨k, hk, rfl, hall, hb⟩ := hrel
    have hx1 := hx.below' hb hB
    have hsz := hb.size
    have HA := Lib.hid hall; clear hall
    have HB := Lib.hid hb; clear hb hx
    by_cases hlt : k < ss.length
    · obtain ⟨ad, rfl, hadB, hat, hin⟩ := hx1.at_ hlt
      obtain ⟨ad0, e0, _, hat0, hin0⟩ := hx1.at_ (show 0 < ss.length by omega)
      obtain ⟨ad1, e1, _, hat1, hin1⟩ := hx1.at_ (show k - 1 < ss.length by omega)
      cases e0; cases e1
      have hpos : 0 < ss.length := by omega
      rw [Nat.zero_mul, add_zero'] at hat0
      have HQ := Lib.hid (okAt_at hlt (by omega) (by omega))
      obtain ⟨a0, a1, a2, a3, a4, a5⟩ := cells_at hat
      have HX := Lib.hid hx1; clear hx1
      have HT := Lib.hid hat; clear hat
      have HT0 := Lib.hid hat0; clear hat0
      have HT1 := Lib.hid hat1; clear hat1
      have HI := Lib.hid hin; clear hin hin0 hin1
      cases hok : ss[k].ok
      · go_wp2
        refine wp_region_pre 4 (by kernel_rfl) (by kernel_rfl) (by kernel_rfl) (by kernel_rfl) (by kernel_rfl) ?_
        simp only [List.take_succ_cons, List.take_zero]
        go_wp2_with fail
        refine (bool_of (ValidSoundS_any ss[k] _ B (by simp; omega) (HI.out.alloc (by omega) _).drew) hok).mono ?_
        rintro e w1 ⟨rfl, hb1⟩
        have hx2 : Snds w1 B (some ad) ss := ((HX.out.alloc (by omega) _).drew).below' hb1 (by simp; omega)
        have hs1 : wr.heap.size + 1 ≤ w1.heap.size := by have := hb1.size; simp at this; omega
        have hb2 : Below w.heap.size w w1 := HB.out.trans (((Below.refl _ _).alloc (by omega) _).drew.trans (hb1.mono (by simp; omega)))
        have d0 : w1.cell? ⟨wr.heap.size, 0, none⟩ = some (.string ss[k].name) := by rw [hb1.cell (by simp)]; simp
        have d1 : w1.cell? ⟨wr.heap.size, 1, none⟩ = some (.slice ss[k].A ss[k].xs.length ss[k].c) := by rw [hb1.cell (by simp)]; simp
        clear hb1
        have HB2 := Lib.hid hb2; clear hb2
        obtain ⟨adk, ek, _, hatk, _⟩ := hx2.at_ hlt
        obtain ⟨ad0, e0, _, hat0, _⟩ := hx2.at_ (show 0 < ss.length by omega)
        obtain ⟨ad1, e1, _, hat1, _⟩ := hx2.at_ (show k - 1 < ss.length by omega)
        cases e0; cases e1; cases ek
        rw [Nat.zero_mul, add_zero'] at hat0
        obtain ⟨b0, b1, _, _, _, _⟩ := cells_at hat0
        obtain ⟨c0, c1, _, _, _, _⟩ := cells_at hat1
        have HX2 := Lib.hid hx2; clear hx2 hatk hat0 hat1
        go_wp2_with fail
        refine preQ_normal ?_
        simp only [List.drop_succ_cons, List.drop_zero]
        repeat (go_big_quiet_step (fail))
        refine wpQuiet_nil ?_
        intro _ hw'
        obtain ⟨nq, hw''⟩ := hw'
        subst hw''
        go_wp2
        go_ret
        exact ⟨ret_bool (soundsOk_no hlt (okAt_no HQ.out (.inl hok))).symm, drewN_below HB2.out _⟩
      · by_cases hle : ss[k].xs.length = ss[0].xs.length
        · have hle1 : (ss[k].xs.length != ss[0].xs.length) = false := by simp [hle]
          have hle2 : ((ss[k].xs.length : Int) != (ss[0].xs.length : Int)) = false := by simp [hle]
          have HL := Lib.hid hle; clear hle
          by_cases hk0 : k = 0
          · have hd : decide (0 < k) = false := by simp [hk0]
            have hd' : ¬ 0 < k := by omega
            have HK := Lib.hid hk0; clear hk0
            go_wp2
            refine wp_region_pre 4 (by kernel_rfl) (by kernel_rfl) (by kernel_rfl) (by kernel_rfl) (by kernel_rfl) ?_
            simp only [List.take_succ_cons, List.take_zero]
            go_wp2_with fail
            refine (bool_of (ValidSoundS_any ss[k] _ B (by simp; omega) (HI.out.alloc (by omega) _).drew) hok).mono ?_
            rintro e w1 ⟨rfl, hb1⟩
            have hx2 : Snds w1 B (some ad) ss := ((HX.out.alloc (by omega) _).drew).below' hb1 (by simp; omega)
            have hs1 : wr.heap.size + 1 ≤ w1.heap.size := by have := hb1.size; simp at this; omega
            have hb2 : Below w.heap.size w w1 := HB.out.trans (((Below.refl _ _).alloc (by omega) _).drew.trans (hb1.mono (by simp; omega)))
            have d0 : w1.cell? ⟨wr.heap.size, 0, none⟩ = some (.string ss[k].name) := by rw [hb1.cell (by simp)]; simp
            have d1 : w1.cell? ⟨wr.heap.size, 1, none⟩ = some (.slice ss[k].A ss[k].xs.length ss[k].c) := by rw [hb1.cell (by simp)]; simp
            clear hb1
            have HB2 := Lib.hid hb2; clear hb2
            obtain ⟨adk, ek, _, hatk, _⟩ := hx2.at_ hlt
            obtain ⟨ad0, e0, _, hat0, _⟩ := hx2.at_ (show 0 < ss.length by omega)
            obtain ⟨ad1, e1, _, hat1, _⟩ := hx2.at_ (show k - 1 < ss.length by omega)
            cases e0; cases e1; cases ek
            rw [Nat.zero_mul, add_zero'] at hat0
            obtain ⟨b0, b1, _, _, _, _⟩ := cells_at hat0
            obtain ⟨c0, c1, _, _, _, _⟩ := cells_at hat1
            have HX2 := Lib.hid hx2; clear hx2 hatk hat0 hat1
            go_wp2_with fail
            refine preQ_normal ?_
            simp only [List.drop_succ_cons, List.drop_zero]
            repeat (go_big_quiet_step (fail))
            refine wpQuiet_nil ?_
            intro _ hw'
            obtain ⟨nq, hw''⟩ := hw'
            subst hw''
            go_wp2
            go_roundw
            case rel => exact ⟨k + 1, by omega, by go_num, range_step HA.out (okAt_yes HQ.out hok HL.out (by simp [HK.out])), drewN_below HB2.out _⟩
            case measure => simp [intOf]; omega
          · have hd : decide (0 < k) = true := by simp; omega
            have hd' : 0 < k := by omega
            have hk1 : k - 1 < ss.length := by omega
            have hi1 : IntKind.i64.wrap ((k : Int) - 1) = (k : Int) - 1 := IntWalk.i64_in _ (by omega)
            have hi2 : 0 ≤ (k : Int) - 1 := by omega
            have hi3 : ((k : Int) - 1).toNat = k - 1 := by omega
            have hi4 : (k : Int) - 1 < (ss.length : Int) := by omega
            cases hls : nmLess (ss[k - 1]'hk1).name (ss[k]'hlt).name
            · have hcmp : (!Op.bytesLess (ss[k - 1]'hk1).name.toList (ss[k]'hlt).name.toList) = true := by unfold nmLess at hls; rw [hls]; rfl
              go_wp2
              refine wp_region_pre 4 (by kernel_rfl) (by kernel_rfl) (by kernel_rfl) (by kernel_rfl) (by kernel_rfl) ?_
              simp only [List.take_succ_cons, List.take_zero]
              go_wp2_with fail
              refine (bool_of (ValidSoundS_any ss[k] _ B (by simp; omega) (HI.out.alloc (by omega) _).drew) hok).mono ?_
              rintro e w1 ⟨rfl, hb1⟩
              have hx2 : Snds w1 B (some ad) ss := ((HX.out.alloc (by omega) _).drew).below' hb1 (by simp; omega)
              have hs1 : wr.heap.size + 1 ≤ w1.heap.size := by have := hb1.size; simp at this; omega
              have hb2 : Below w.heap.size w w1 := HB.out.trans (((Below.refl _ _).alloc (by omega) _).drew.trans (hb1.mono (by simp; omega)))
              have d0 : w1.cell? ⟨wr.heap.size, 0, none⟩ = some (.string ss[k].name) := by rw [hb1.cell (by simp)]; simp
              have d1 : w1.cell? ⟨wr.heap.size, 1, none⟩ = some (.slice ss[k].A ss[k].xs.length ss[k].c) := by rw [hb1.cell (by simp)]; simp
              clear hb1
              have HB2 := Lib.hid hb2; clear hb2
              obtain ⟨adk, ek, _, hatk, _⟩ := hx2.at_ hlt
              obtain ⟨ad0, e0, _, hat0, _⟩ := hx2.at_ (show 0 < ss.length by omega)
              obtain ⟨ad1, e1, _, hat1, _⟩ := hx2.at_ (show k - 1 < ss.length by omega)
              cases e0; cases e1; cases ek
              rw [Nat.zero_mul, add_zero'] at hat0
              obtain ⟨b0, b1, _, _, _, _⟩ := cells_at hat0
              obtain ⟨c0, c1, _, _, _, _⟩ := cells_at hat1
              have HX2 := Lib.hid hx2; clear hx2 hatk hat0 hat1
              go_wp2_with fail
              refine preQ_normal ?_
              simp only [List.drop_succ_cons, List.drop_zero]
              repeat (go_big_quiet_step (fail))
              refine wpQuiet_nil ?_
              intro _ hw'
              obtain ⟨nq, hw''⟩ := hw'
              subst hw''
              clear hi1 hi2 hi3 hi4
              go_wp2
              go_ret
              exact ⟨ret_bool (soundsOk_no hlt (okAt_no HQ.out (.inr (.inr (by rw [hls]; simp; omega))))).symm, drewN_below HB2.out _⟩
            · have hcmp : (!Op.bytesLess (ss[k - 1]'hk1).name.toList (ss[k]'hlt).name.toList) = false := by unfold nmLess at hls; rw [hls]; rfl
              go_wp2
              refine wp_region_pre 4 (by kernel_rfl) (by kernel_rfl) (by kernel_rfl) (by kernel_rfl) (by kernel_rfl) ?_
              simp only [List.take_succ_cons, List.take_zero]
              go_wp2_with fail
              refine (bool_of (ValidSoundS_any ss[k] _ B (by simp; omega) (HI.out.alloc (by omega) _).drew) hok).mono ?_
              rintro e w1 ⟨rfl, hb1⟩
              have hx2 : Snds w1 B (some ad) ss := ((HX.out.alloc (by omega) _).drew).below' hb1 (by simp; omega)
              have hs1 : wr.heap.size + 1 ≤ w1.heap.size := by have := hb1.size; simp at this; omega
              have hb2 : Below w.heap.size w w1 := HB.out.trans (((Below.refl _ _).alloc (by omega) _).drew.trans (hb1.mono (by simp; omega)))
              have d0 : w1.cell? ⟨wr.heap.size, 0, none⟩ = some (.string ss[k].name) := by rw [hb1.cell (by simp)]; simp
              have d1 : w1.cell? ⟨wr.heap.size, 1, none⟩ = some (.slice ss[k].A ss[k].xs.length ss[k].c) := by rw [hb1.cell (by simp)]; simp
              clear hb1
              have HB2 := Lib.hid hb2; clear hb2
              obtain ⟨adk, ek, _, hatk, _⟩ := hx2.at_ hlt
              obtain ⟨ad0, e0, _, hat0, _⟩ := hx2.at_ (show 0 < ss.length by omega)
              obtain ⟨ad1, e1, _, hat1, _⟩ := hx2.at_ (show k - 1 < ss.length by omega)
              cases e0; cases e1; cases ek
              rw [Nat.zero_mul, add_zero'] at hat0
              obtain ⟨b0, b1, _, _, _, _⟩ := cells_at hat0
              obtain ⟨c0, c1, _, _, _, _⟩ := cells_at hat1
              have HX2 := Lib.hid hx2; clear hx2 hatk hat0 hat1
              go_wp2_with fail
              refine preQ_normal ?_
              simp only [List.drop_succ_cons, List.drop_zero]
              repeat (go_big_quiet_step (fail))
              refine wpQuiet_nil ?_
              intro _ hw'
              obtain ⟨nq, hw''⟩ := hw'
              subst hw''
              clear hi1 hi2 hi3 hi4
              go_wp2
              go_roundw
              case rel => exact ⟨k + 1, by omega, by go_num, range_step HA.out (okAt_yes HQ.out hok HL.out (by rw [hls]; simp)), drewN_below HB2.out _⟩
              case measure => simp [intOf]; omega
        · have hle1 : (ss[k].xs.length != ss[0].xs.length) = true := by simp [hle]
          have hle2 : ((ss[k].xs.length : Int) != (ss[0].xs.length : Int)) = true := by simp; omega
          have HL := Lib.hid hle; clear hle
          go_wp2
          refine wp_region_pre 4 (by kernel_rfl) (by kernel_rfl) (by kernel_rfl) (by kernel_rfl) (by kernel_rfl) ?_
          simp only [List.take_succ_cons, List.take_zero]
          go_wp2_with fail
          refine (bool_of (ValidSoundS_any ss[k] _ B (by simp; omega) (HI.out.alloc (by omega) _).drew) hok).mono ?_
          rintro e w1 ⟨rfl, hb1⟩
          have hx2 : Snds w1 B (some ad) ss := ((HX.out.alloc (by omega) _).drew).below' hb1 (by simp; omega)
          have hs1 : wr.heap.size + 1 ≤ w1.heap.size := by have := hb1.size; simp at this; omega
          have hb2 : Below w.heap.size w w1 := HB.out.trans (((Below.refl _ _).alloc (by omega) _).drew.trans (hb1.mono (by simp; omega)))
          have d0 : w1.cell? ⟨wr.heap.size, 0, none⟩ = some (.string ss[k].name) := by rw [hb1.cell (by simp)]; simp
          have d1 : w1.cell? ⟨wr.heap.size, 1, none⟩ = some (.slice ss[k].A ss[k].xs.length ss[k].c) := by rw [hb1.cell (by simp)]; simp
          clear hb1
          have HB2 := Lib.hid hb2; clear hb2
          obtain ⟨adk, ek, _, hatk, _⟩ := hx2.at_ hlt
          obtain ⟨ad0, e0, _, hat0, _⟩ := hx2.at_ (show 0 < ss.length by omega)
          obtain ⟨ad1, e1, _, hat1, _⟩ := hx2.at_ (show k - 1 < ss.length by omega)
          cases e0; cases e1; cases ek
          rw [Nat.zero_mul, add_zero'] at hat0
          obtain ⟨b0, b1, _, _, _, _⟩ := cells_at hat0
          obtain ⟨c0, c1, _, _, _, _⟩ := cells_at hat1
          have HX2 := Lib.hid hx2; clear hx2 hatk hat0 hat1
          go_wp2_with fail
          refine preQ_normal ?_
          simp only [List.drop_succ_cons, List.drop_zero]
          repeat (go_big_quiet_step (fail))
          refine wpQuiet_nil ?_
          intro _ hw'
          obtain ⟨nq, hw''⟩ := hw'
          subst hw''
          go_wp2
          go_ret
          exact ⟨ret_bool (soundsOk_no hlt (okAt_no HQ.out (.inr (.inl HL.out)))).symm, drewN_below HB2.out _⟩
    · go_wp2
      go_ret
      exact ⟨ret_bool (by unfold soundsOk; rw [show ss.length = k from by omega, HA.out]; simp; omega), HB.out⟩
end Go.Proofs.Ythmkbgiandncnaa
