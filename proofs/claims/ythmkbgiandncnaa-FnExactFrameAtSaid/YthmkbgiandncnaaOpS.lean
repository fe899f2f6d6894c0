/- What came in, opened: arguments of one cell. -/
import Derived.Test.YthmkbgiandncnaaOpF
import Derived.Laws.Cover2
namespace Go.Proofs.Ythmkbgiandncnaa
open Go.RowKit Go.ChangeShapes Go.WideShapes Go.ChangeAt

section
variable {H : Type} {enc : TypeId × Value → H} {w : World} {spare : Nat → Bool} {held : Bool} {r : Reach} {b0 : Nat} {v : Value} {d : DataW H} {p : List MemPlace}
theorem g_slice {P : Program} {t e : TypeId} (ht : P.underlying t = some (.slice e)) (hv : Value.okWide P w r b0 t v) : ∃ a n c, v = .slice a n c := okWide_slice ht hv
theorem g_flt {P : Program} {t : TypeId} {k : FloatKind} (ht : P.underlying t = some (.float k)) (hv : Value.okWide P w r b0 t v) : ∃ b, v = .float k b := okWide_float ht hv
theorem g_str {P : Program} {t : TypeId} (ht : P.underlying t = some .string) (hv : Value.okWide P w r b0 t v) : ∃ s, v = .string s := okWide_string ht hv
theorem one_slice {P : Program} {t : TypeId} {a : Option Addr} {n c : Nat} (h : DataW.Trod enc P w 0 spare held t (.slice a n c) d p) : ∃ fuel, DataW.trod enc P w 0 spare held fuel t [.slice a n c] = some (d, p) := h
theorem one_float {P : Program} {t : TypeId} {k : FloatKind} {b : Nat} (h : DataW.Trod enc P w 0 spare held t (.float k b) d p) : ∃ fuel, DataW.trod enc P w 0 spare held fuel t [.float k b] = some (d, p) := h
theorem one_string {P : Program} {t : TypeId} {s : ByteArray} (h : DataW.Trod enc P w 0 spare held t (.string s) d p) : ∃ fuel, DataW.trod enc P w 0 spare held fuel t [.string s] = some (d, p) := h
set_option maxRecDepth 100000 in
theorem open_snds (hv : Value.okWide Try.prog w r b0 28 v) (h : DataW.Trod enc Try.prog w 0 spare held 28 v d p) :
    ∃ A c ss, v = .slice A ss.length c ∧ Snds0 w w.heap.size A ss ∧ ss.length ≤ big ∧ ∀ s ∈ ss, s.fit := by
  obtain ⟨a, n, c, rfl⟩ := g_slice Try.underlying28 hv
  obtain ⟨fuel, hf⟩ := one_slice h
  exact in_snds hf
set_option maxRecDepth 100000 in
theorem open_flt (hv : Value.okWide Try.prog w r b0 29 v) (h : DataW.Trod enc Try.prog w 0 spare held 29 v d p) : ∃ b, v = fl b ∧ b < 4294967296 := by
  obtain ⟨b, rfl⟩ := g_flt Try.underlying29 hv
  obtain ⟨fuel, hf⟩ := one_float h
  exact in_float hf
set_option maxRecDepth 100000 in
theorem open_str (hv : Value.okWide Try.prog w r b0 9 v) (h : DataW.Trod enc Try.prog w 0 spare held 9 v d p) : ∃ s : ByteArray, v = .string s ∧ s.size ≤ big := by
  obtain ⟨s, rfl⟩ := g_str Try.underlying9 hv
  obtain ⟨fuel, hf⟩ := one_string h
  exact in_string hf
set_option maxRecDepth 100000 in
theorem open_fs (hv : Value.okWide Try.prog w r b0 38 v) (h : DataW.Trod enc Try.prog w 0 spare held 38 v d p) :
    ∃ A c xs, v = .slice A xs.length c ∧ Fs w w.heap.size A xs ∧ xs.length ≤ big ∧ fits xs := by
  obtain ⟨a, n, c, rfl⟩ := g_slice Try.underlying38 hv
  obtain ⟨fuel, hf⟩ := one_slice h
  exact in_fs hf
end
end Go.Proofs.Ythmkbgiandncnaa
