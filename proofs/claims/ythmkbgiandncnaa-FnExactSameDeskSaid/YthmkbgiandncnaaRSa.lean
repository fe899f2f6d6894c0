/- FnExactSameDesk holds for every input: the law answers true and both desks read as before. No condition. -/
import Derived.Test.YthmkbgiandncnaaLSa
import Derived.Test.YthmkbgiandncnaaOpF
import Derived.Test.YthmkbgiandncnaaRows
namespace Go.Proofs.Ythmkbgiandncnaa
open Go.ChangeShapes Go.WideShapes Go.ChangeAt Go.RowKit

abbrev zeroD : Value := .agg #[.slice none 0 0, fl 0, fl 0, fl 0, fl 0, fl 0, fl 0, fl 0, fl 0, .slice none 0 0, fl 0, .slice none 0 0]

set_option maxRecDepth 100000 in
theorem sameDesk_lifted (os : Os) (started : os.Started) (H : Type) (enc : TypeId × Value → H) :
    ReturnsInHanded {} Try.checked os 7 .any (Rows.fnExactSameDeskSpec.pre6 enc Try.prog Try.f7 Rows.fnExactSameDeskRow.domain false) (Rows.fnExactSameDeskSpec.post enc Try.prog Try.f7 false true false false) := by
  refine returnsInHanded_of_change (C := Try.checked) Try.own started (by kernel_rfl) Try.func7
    (ChangeSpec.witness6 (enc := enc) (C := Try.checked) false ⟨#[], #[zeroD, zeroD], []⟩ 8 (by kernel_rfl) (by kernel_rfl) (by kernel_rfl) (by kernel_rfl)) ?_
  intro W base args ds gs before hval0 hW hcnd _
  have hval : ∀ (j : Nat) t v, Try.f7.params[j]? = some t → args[j]? = some v → Value.okWide Try.prog W .any base t v := hval0
  have hW' := hW
  obtain ⟨p, q, hA0, hV, rfl, hfz, hnd⟩ := hW
  have hA : DataW.TrodAll enc Try.prog W 0 (fun _ => true) true Try.f7.params.toList args.toList ds p := hA0
  rw [Try.params7] at hA hval
  obtain ⟨v0, vs0, d0, ds0, p0, q0, hargs0, rfl, rfl, h0, r0⟩ := trodAll_cons hA
  obtain ⟨v1, vs1, d1, ds1, p1, q1, rfl, rfl, rfl, h1, r1⟩ := trodAll_cons r0
  obtain ⟨rfl, rfl, rfl⟩ := trodAll_nil r1
  obtain rfl : args = #[v0, v1] := by cases args; simp_all
  obtain ⟨rfl, rfl⟩ := trodVars_none hV
  obtain ⟨x, rfl, hx, fx⟩ := open_desk (hval 0 57 v0 rfl rfl) h0
  obtain ⟨y, rfl, hy, fy⟩ := open_desk (hval 1 57 v1 rfl rfl) h1
  clear hA0 hval0
  have hlt : ∀ z ∈ p0, z.block < W.heap.size := fun z hz => by simpa using hW'.lt z (by simp [hz])
  have hlt1 : ∀ z ∈ p1, z.block < W.heap.size := fun z hz => by simpa using hW'.lt z (by simp [hz])
  simp only [List.append_nil] at hW'
  refine (FnExactSameDesk_any x y W _ (Nat.le_refl _) hx hy fx fy).mono fun e W' ⟨he, hb⟩ => ?_
  subst he
  have hargs := trodAll_cons_mk (Below.trod Try.laidOut (by kernel_rfl) (of_decide_eq_true (by kernel_rfl)) h0 hb hlt) (trodAll_cons_mk (Below.trod Try.laidOut (by kernel_rfl) (of_decide_eq_true (by kernel_rfl)) h1 hb hlt1) trodAll_mk0)
  rw [List.append_nil] at hargs
  exact ⟨_, rfl, post_of_read rfl hW' (fun _ _ _ => (trodAll_cons_mk (shut_bool Try.underlying4 _) trodAll_mk0))
    hargs rfl hb⟩

theorem sameDesk_holds : Rows.FnExactSameDeskSaid :=
  OpenClaim.holds_of_wide 7 Try.f7 rfl rfl rfl rfl rfl rfl rfl ⟨rfl, rfl, rfl, rfl, rfl⟩ rfl rfl rfl rfl rfl (by kernel_rfl) Try.func7 (by kernel_rfl)
    (of_decide_eq_true (by kernel_rfl)) (by unfold Func.isWrapper; first | (rw [if_pos (by decide +kernel)]; kernel_rfl) | (rw [if_neg (by decide +kernel)]; exact ⟨rfl, rfl⟩))
    (fun os started H enc _ => sameDesk_lifted os started H enc)
#print axioms sameDesk_holds
end Go.Proofs.Ythmkbgiandncnaa
