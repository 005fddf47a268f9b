/- What a valid transfer is made of. -/
import Derived.Test.YtlfmgagokaekjaaTrValid
namespace Go.Proofs.Ytlfmgagokaekjaa
open Go.RowKit
set_option linter.unusedVariables false
set_option linter.unusedSimpArgs false

theorem validB_parts {n k : Int} {xs : List Int} (h : validB n k xs = true) : 0 ≤ k ∧ k ≤ n ∧ n ≤ xs.length ∧ xs.length ≤ 20 := by
  simp only [validB, Bool.and_eq_true] at h
  obtain ⟨⟨h1, h2⟩, h3⟩ := h
  have := itemsB_len h1
  have a := inB_true h2
  have b := inB_true h3
  omega

end Go.Proofs.Ytlfmgagokaekjaa
