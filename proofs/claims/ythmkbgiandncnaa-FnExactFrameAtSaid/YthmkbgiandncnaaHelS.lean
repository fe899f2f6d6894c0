/- The laws' marks: lists of sounds that are held. -/
import Derived.Test.YthmkbgiandncnaaMarS
import Derived.Deep.RegionHeld3
namespace Go.Proofs.Ythmkbgiandncnaa
open Go.RowKit

theorem marksS_get (ss : List Snd) (k j : Nat) (h : j < ss.length) (h' : j < (marksS ss k).length) : (marksS ss k)[j] = ss[j].mark (nextS (ss.take j) k) := by
  have e : marksS ss k = marksS (ss.take j) k ++ (ss[j].mark (nextS (ss.take j) k)) :: marksS (ss.drop (j + 1)) (ss[j].next (nextS (ss.take j) k)) := by
    have e2 : ∀ (ps qs : List Snd) (k : Nat), marksS (ps ++ qs) k = marksS ps k ++ marksS qs (nextS ps k) := by
      intro ps qs k
      induction ps generalizing k with
      | nil => rfl
      | cons p ps ih => simp only [List.cons_append, marksS, nextS, ih]
    have e3 : ss = ss.take j ++ ss[j] :: ss.drop (j + 1) := by rw [← List.drop_eq_getElem_cons h, List.take_append_drop]
    have e4 := e2 (ss.take j) (ss[j] :: ss.drop (j + 1)) k
    rw [← e3] at e4
    exact e4
  have hl : (marksS (ss.take j) k).length = j := by rw [marksS_len, List.length_take]; omega
  have h2 : (marksS ss k)[j]? = some (ss[j].mark (nextS (ss.take j) k)) := by
    rw [e, List.getElem?_append_right (by omega), hl]; simp
  rw [List.getElem?_eq_getElem h'] at h2
  injection h2
set_option maxHeartbeats 4000000 in
theorem heldSoundS_any (A : Option Addr) (c : Nat) (ss : List Snd) (k : Nat) (w : World) (B : Nat) (hB : B ≤ w.heap.size) (hx : Snds w B A (marksS ss k)) (hm : ss.length ≤ 1048576) (h0 : 0 < k) (hk : nextS ss k ≤ 4398046511104) :
    Calls Try.prog 22 #[.slice A ss.length c, .int .i64 k] w fun e w' => e = .returned (.int .i64 (nextS ss k : Nat)) ∧ Below w.heap.size w w' := by
  have HX := Lib.hid hx; clear hx
  go_enter Try.func22, Try.ntmps22
  go_wp2
  go_loopw [1, 5] (fun i j wr => ∃ n : Nat, n ≤ ss.length ∧ i = .int .i64 (nextS (ss.take n) k : Nat) ∧ j = .int .i64 n ∧ Below w.heap.size w wr) (fun _ j _ => ss.length - (intOf j).toNat)
  case atStart => exact ⟨0, Nat.zero_le _, rfl, rfl, Below.refl _ _⟩
  case round =>
    obtain ⟨n, hn, rfl, rfl, hb⟩ := hrel
    have hq := nextS_take ss k n
    have hq0 := nextS_ge (ss.take n) k
    have hsz := hb.size
    by_cases hlt : n < ss.length
    · have hlt' : n < (marksS ss k).length := by rw [marksS_len]; exact hlt
      have hq2 := nextS_step ss k n hlt
      have hq3 := nextS_take ss k (n + 1)
      have hq4 : nextS (ss.take n) k + 1 + ss[n].xs.length + 4 ≤ 4398046511104 := by rw [hq2] at hq3; unfold Snd.next at hq3; omega
      obtain ⟨ad, hA, hadB, hat, hin⟩ := (HX.out.below' hb hB).at_ hlt'
      subst hA
      rw [marksS_get ss k n hlt hlt'] at hat hin
      have HQ2 := Lib.hid hq2; clear hq2
      generalize hkk : nextS (ss.take n) k = kk at *
      have HKK := Lib.hid hkk; clear hkk
      have hnb : ad.block < wr.heap.size := by omega
      have HB := Lib.hid hb; clear hb
      have hns : (mtext kk).size ≤ 1048576 := mtext_size (by omega)
      rw [show At wr (ad.add (n * 6)) (ss[n].mark kk).cells ↔ At wr (ad.add (n * 6)) [.string (mtext kk), ss[n].val, fl (mrk (kk + 1 + ss[n].xs.length)), fl (mrk (kk + 1 + ss[n].xs.length + 1)), fl (mrk (kk + 1 + ss[n].xs.length + 1 + 1)), fl (mrk (kk + 1 + ss[n].xs.length + 1 + 1 + 1))] by rw [mark_cells]] at hat
      have HAt := Lib.hid hat; clear hat
      have HIn := Lib.hid hin; clear hin
      have q0 : wr.cell? (ad.add (n * 6)) = some (.string (mtext kk)) := by have := HAt.out 0 _ rfl; rwa [add_zero'] at this
      have ne1 : ((mtext kk).toList != (mtext kk).toList) = false := by simp
      go_wp2_with fail
      go_region_held3 (fun w' => w'.cell? (ad.add (n * 6)) = some (.string (mtext kk))) (go_keep)
        (first
          | (go_at_call 68; refine (markText_any kk _ (by omega) (by omega)).mono ?_; rintro e w1 ⟨rfl, hb1⟩
             have q1 : w1.cell? (ad.add (n * 6)) = some (.string (mtext kk)) := (hb1.cell (by rw [add_block]; exact hnb)).trans q0
             have HB1 := Lib.hid hb1; clear hb1))
      clear q0 q1
      have hat1 := HAt.out.keep (w' := w1) fun p hp => HB1.out.cell (by rw [hp, add_block]; exact hnb)
      have hin1 : SndIn w1 B (ss[n].mark kk) := SndIn.below' HIn.out ((below_drewN _ wr 1).trans HB1.out) (show B ≤ wr.heap.size by omega)
      have a1 : w1.cell? ⟨(ad.add (n * 6)).block, (ad.add (n * 6)).off + 1, none⟩ = some (.slice ss[n].A ss[n].xs.length ss[n].c) := hat1 1 _ rfl
      have a2 : w1.cell? ⟨(ad.add (n * 6)).block, (ad.add (n * 6)).off + 2, none⟩ = some (.float .f32 (mrk (kk + 1 + ss[n].xs.length))) := hat1 2 _ rfl
      have a3 : w1.cell? ⟨(ad.add (n * 6)).block, (ad.add (n * 6)).off + 3, none⟩ = some (.float .f32 (mrk (kk + 1 + ss[n].xs.length + 1))) := hat1 3 _ rfl
      have a4 : w1.cell? ⟨(ad.add (n * 6)).block, (ad.add (n * 6)).off + 4, none⟩ = some (.float .f32 (mrk (kk + 1 + ss[n].xs.length + 1 + 1))) := hat1 4 _ rfl
      have a5 : w1.cell? ⟨(ad.add (n * 6)).block, (ad.add (n * 6)).off + 5, none⟩ = some (.float .f32 (mrk (kk + 1 + ss[n].xs.length + 1 + 1 + 1))) := hat1 5 _ rfl
      have hfs : Fs w1 B ss[n].A (marks (kk + 1) ss[n].xs.length) := hin1.1
      have hxm : ss[n].xs.length ≤ 1048576 := by have := hin1.2.1; simpa [Snd.mark, marks_len] using this
      clear hat1 hin1
      have HF := Lib.hid hfs; clear hfs
      go_wp2_with fail
      refine (heldFloat32S_any ss[n].A ss[n].c ss[n].xs.length (kk + 1) w1 B HF.out hxm (by omega)).mono ?_
      rintro e w2 ⟨rfl, rfl⟩
      have e1 : floatOfInt .f32 ((kk : Int) + 1 + (ss[n].xs.length : Int)) = mrk (kk + 1 + ss[n].xs.length) := by unfold mrk; simp
      have e2 : floatOfInt .f32 ((kk : Int) + 1 + (ss[n].xs.length : Int) + 1) = mrk (kk + 1 + ss[n].xs.length + 1) := by unfold mrk; simp
      have e3 : floatOfInt .f32 ((kk : Int) + 1 + (ss[n].xs.length : Int) + 1 + 1) = mrk (kk + 1 + ss[n].xs.length + 1 + 1) := by unfold mrk; simp
      have e4 : floatOfInt .f32 ((kk : Int) + 1 + (ss[n].xs.length : Int) + 1 + 1 + 1) = mrk (kk + 1 + ss[n].xs.length + 1 + 1 + 1) := by unfold mrk; simp
      have m1 := mk_eq (kk + 1 + ss[n].xs.length)
      have m2 := mk_eq (kk + 1 + ss[n].xs.length + 1)
      have m3 := mk_eq (kk + 1 + ss[n].xs.length + 1 + 1)
      have m4 := mk_eq (kk + 1 + ss[n].xs.length + 1 + 1 + 1)
      go_wp2_with fail
      go_roundw
      case rel => exact ⟨n + 1, by omega, by rw [HQ2.out]; unfold Snd.next; go_num, by go_num, HB.out.trans (((below_drewN _ wr 1).trans HB1.out).mono (show w.heap.size ≤ wr.drew.heap.size from hsz))⟩
      case measure => simp [intOf]; omega
    · have HB := Lib.hid hb; clear hb hq hq0
      go_wp2
      go_ret
      exact ⟨ret_int (by rw [List.take_of_length_le (by omega)]), HB.out⟩
end Go.Proofs.Ythmkbgiandncnaa
