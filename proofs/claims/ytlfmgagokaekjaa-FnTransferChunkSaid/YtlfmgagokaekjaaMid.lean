/- A part of a row reads as that part. -/
import Derived.Test.YtlfmgagokaekjaaMem
namespace Go.Proofs.Ytlfmgagokaekjaa
open Go.RowKit
set_option linter.unusedVariables false
set_option linter.unusedSimpArgs false

theorem RInts.mid {w : World} {g off n cap : Nat} {zs : List Int} (h : RInts w (.slice (some ⟨g, off, none⟩) n cap) zs) (lo hi : Nat) (hlo : lo ≤ hi) (hhi : hi ≤ zs.length) :
    RInts w (.slice (some ⟨g, off + lo, none⟩) (hi - lo) (cap - lo)) ((zs.take hi).drop lo) := by
  obtain ⟨a, cap', hsh, hc, hm, hcell⟩ := h
  simp only [Value.slice.injEq] at hsh
  obtain ⟨rfl, rfl, rfl⟩ := hsh
  have hl : ((zs.take hi).drop lo).length = hi - lo := by simp; omega
  refine ⟨_, _, by rw [hl], by omega, by omega, fun i hi' => ?_⟩
  obtain ⟨b, o, hb, hlt, hcl⟩ := hcell (lo + i) (by omega)
  simp only [Option.some.injEq, Addr.mk.injEq, and_true] at hb
  obtain ⟨rfl, rfl⟩ := hb
  refine ⟨_, _, rfl, hlt, ?_⟩
  rw [Nat.add_assoc, hcl]
  simp
end Go.Proofs.Ytlfmgagokaekjaa
