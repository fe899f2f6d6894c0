/- FnExactFrameAt holds for every input: the law answers true and what came in reads as before. No condition. -/
import Derived.Test.YthmkbgiandncnaaLFrm
import Derived.Test.YthmkbgiandncnaaOpS
import Derived.Test.YthmkbgiandncnaaOpV
import Derived.Test.YthmkbgiandncnaaRows
namespace Go.Proofs.Ythmkbgiandncnaa
open Go.ChangeShapes Go.WideShapes Go.ChangeAt Go.RowKit

set_option maxRecDepth 100000 in
theorem frameAt_lifted (os : Os) (started : os.Started) (H : Type) (enc : TypeId × Value → H) :
    ReturnsInHanded {} Try.checked os 10 .any (Rows.fnExactFrameAtSpec.pre6 enc Try.prog Try.f10 Rows.fnExactFrameAtRow.domain false) (Rows.fnExactFrameAtSpec.post enc Try.prog Try.f10 false true false false) := by
  refine returnsInHanded_of_change (C := Try.checked) Try.own started (by kernel_rfl) Try.func10
    (ChangeSpec.witness6 (enc := enc) (C := Try.checked) false ⟨#[], #[.slice none 0 0, .slice none 0 0, .slice none 0 0, fl 0], []⟩ 8 (by kernel_rfl) (by kernel_rfl) (by kernel_rfl) (by kernel_rfl)) ?_
  intro W base args ds gs before hval0 hW hcnd _
  have hval : ∀ (j : Nat) t v, Try.f10.params[j]? = some t → args[j]? = some v → Value.okWide Try.prog W .any base t v := hval0
  have hW' := hW
  obtain ⟨p, q, hA0, hV, rfl, hfz, hnd⟩ := hW
  have hA : DataW.TrodAll enc Try.prog W 0 (fun _ => true) true Try.f10.params.toList args.toList ds p := hA0
  rw [Try.params10] at hA hval
  obtain ⟨v0, vs0, d0, ds0, p0, q0, hargs0, rfl, rfl, h0, r0⟩ := trodAll_cons hA
  obtain ⟨v1, vs1, d1, ds1, p1, q1, rfl, rfl, rfl, h1, r1⟩ := trodAll_cons r0
  obtain ⟨v2, vs2, d2, ds2, p2, q2, rfl, rfl, rfl, h2, r2⟩ := trodAll_cons r1
  obtain ⟨v3, vs3, d3, ds3, p3, q3, rfl, rfl, rfl, h3, r3⟩ := trodAll_cons r2
  obtain ⟨rfl, rfl, rfl⟩ := trodAll_nil r3
  obtain rfl : args = #[v0, v1, v2, v3] := by cases args; simp_all
  obtain ⟨rfl, rfl⟩ := trodVars_none hV
  obtain ⟨A0, c0, s0, rfl, hx0, hm0, ft0⟩ := open_snds (hval 0 28 v0 rfl rfl) h0
  obtain ⟨A1, c1, m1, rfl, hx1, hm1⟩ := open_strs (hval 1 63 v1 rfl rfl) h1
  obtain ⟨A2, c2, x2, rfl, hx2, hm2, ft2⟩ := open_fs (hval 2 38 v2 rfl rfl) h2
  obtain ⟨b3, rfl, hw3⟩ := open_flt (hval 3 29 v3 rfl rfl) h3
  clear hA0 hval0
  have hlt0 : ∀ z ∈ p0, z.block < W.heap.size := fun z hz => by simpa using hW'.lt z (by simp [hz])
  have hlt1 : ∀ z ∈ p1, z.block < W.heap.size := fun z hz => by simpa using hW'.lt z (by simp [hz])
  have hlt2 : ∀ z ∈ p2, z.block < W.heap.size := fun z hz => by simpa using hW'.lt z (by simp [hz])
  have hlt3 : ∀ z ∈ p3, z.block < W.heap.size := fun z hz => by simpa using hW'.lt z (by simp [hz])
  simp only [List.append_nil] at hW'
  refine (FnExactFrameAt_any A0 c0 s0 A1 c1 m1 A2 c2 x2 b3 W _ (Nat.le_refl _) hx0 hm0 hx1 hm1 hx2 hm2).mono fun e W' ⟨he, hb⟩ => ?_
  subst he
  have hargs := (trodAll_cons_mk (Below.trod Try.laidOut (by kernel_rfl) (of_decide_eq_true (by kernel_rfl)) h0 hb hlt0) (trodAll_cons_mk (Below.trod Try.laidOut (by kernel_rfl) (of_decide_eq_true (by kernel_rfl)) h1 hb hlt1) (trodAll_cons_mk (Below.trod Try.laidOut (by kernel_rfl) (of_decide_eq_true (by kernel_rfl)) h2 hb hlt2) (trodAll_cons_mk (Below.trod Try.laidOut (by kernel_rfl) (of_decide_eq_true (by kernel_rfl)) h3 hb hlt3) trodAll_mk0))))
  try rw [List.append_nil] at hargs
  exact ⟨_, rfl, post_of_read rfl hW' (fun _ _ _ => (trodAll_cons_mk (shut_bool Try.underlying4 _) trodAll_mk0))
    hargs rfl hb⟩

theorem frameAt_holds : Rows.FnExactFrameAtSaid :=
  OpenClaim.holds_of_wide 10 Try.f10 rfl rfl rfl rfl rfl rfl rfl ⟨rfl, rfl, rfl, rfl, rfl⟩ rfl rfl rfl rfl rfl (by kernel_rfl) Try.func10 (by kernel_rfl)
    (of_decide_eq_true (by kernel_rfl)) (by unfold Func.isWrapper; first | (rw [if_pos (by decide +kernel)]; kernel_rfl) | (rw [if_neg (by decide +kernel)]; exact ⟨rfl, rfl⟩))
    (fun os started H enc _ => frameAt_lifted os started H enc)
#print axioms frameAt_holds
end Go.Proofs.Ythmkbgiandncnaa
