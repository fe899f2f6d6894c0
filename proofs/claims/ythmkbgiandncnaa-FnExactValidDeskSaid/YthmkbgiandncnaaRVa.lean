/- The row of the law of ValidDesk. -/
import Derived.Test.YthmkbgiandncnaaLVa
import Derived.Test.YthmkbgiandncnaaOp
import Derived.Test.YthmkbgiandncnaaRows
namespace Go.Proofs.Ythmkbgiandncnaa
open Go.ChangeShapes Go.WideShapes Go.ChangeAt Go.RowKit

abbrev zeroD : Value := .agg #[.slice none 0 0, fl 0, fl 0, fl 0, fl 0, fl 0, fl 0, fl 0, fl 0, .slice none 0 0, fl 0, .slice none 0 0]

set_option maxRecDepth 100000 in
theorem validDesk_lifted (os : Os) (started : os.Started) (H : Type) (enc : TypeId × Value → H) :
    ReturnsInHanded {} Try.checked os 8 .any (Rows.fnExactValidDeskSpec.pre6 enc Try.prog Try.f8 Rows.fnExactValidDeskRow.domain false) (Rows.fnExactValidDeskSpec.post enc Try.prog Try.f8 false true false false) := by
  refine returnsInHanded_of_change (C := Try.checked) Try.own started (by kernel_rfl) Try.func8
    (ChangeSpec.witness6 (enc := enc) (C := Try.checked) false ⟨#[], #[zeroD], []⟩ 8 (by kernel_rfl) (by kernel_rfl) (by kernel_rfl) (by kernel_rfl)) ?_
  intro W base args ds gs before hval0 hW hcnd _
  have hval : ∀ (j : Nat) t v, Try.f8.params[j]? = some t → args[j]? = some v → Value.okWide Try.prog W .any base t v := hval0
  have hW' := hW
  obtain ⟨p, q, hA0, hV, rfl, hfz, hnd⟩ := hW
  have hA : DataW.TrodAll enc Try.prog W 0 (fun _ => true) true Try.f8.params.toList args.toList ds p := hA0
  rw [Try.params8] at hA hval
  obtain ⟨v0, vs0, d0, ds0, p0, q0, hargs, rfl, rfl, h0, r0⟩ := trodAll_cons hA
  obtain ⟨rfl, rfl, rfl⟩ := trodAll_nil r0
  obtain rfl : args = #[v0] := by cases args; simp_all
  obtain ⟨rfl, rfl⟩ := trodVars_none hV
  obtain ⟨x, rfl, hx⟩ := open_desk (hval 0 57 v0 rfl rfl) h0
  clear hA0 hval0
  have hlt : ∀ y ∈ p0, y.block < W.heap.size := fun y hy => by simpa using hW'.lt y (by simp [hy])
  simp only [List.append_nil] at hW'
  refine (FnExactValidDesk_any x W _ (Nat.le_refl _) hx).mono fun e W' ⟨he, hb⟩ => ?_
  subst he
  have hargs := trodAll_cons_mk (Below.trod Try.laidOut (by kernel_rfl) (of_decide_eq_true (by kernel_rfl)) h0 hb hlt) trodAll_mk0
  rw [List.append_nil] at hargs
  exact ⟨_, rfl, post_of_read rfl hW' (fun _ _ _ => (trodAll_cons_mk (shut_bool Try.underlying4 _) trodAll_mk0))
    hargs rfl hb⟩

theorem validDesk_holds : Rows.FnExactValidDeskSaid :=
  OpenClaim.holds_of_wide 8 Try.f8 rfl rfl rfl rfl rfl rfl rfl ⟨rfl, rfl, rfl, rfl, rfl⟩ rfl rfl rfl rfl rfl (by kernel_rfl) Try.func8 (by kernel_rfl)
    (of_decide_eq_true (by kernel_rfl)) (by unfold Func.isWrapper; first | (rw [if_pos (by decide +kernel)]; kernel_rfl) | (rw [if_neg (by decide +kernel)]; exact ⟨rfl, rfl⟩))
    (fun os started H enc _ => validDesk_lifted os started H enc)
#print axioms validDesk_holds
end Go.Proofs.Ythmkbgiandncnaa
