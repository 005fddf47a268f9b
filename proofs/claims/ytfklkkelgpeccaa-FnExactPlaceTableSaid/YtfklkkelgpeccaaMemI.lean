/- Blocks known whole, and one set of words by which facts are carried from world to world. -/
import Derived.Test.YtfklkkelgpeccaaInts
import Derived.Test.YtfklkkelgpeccaaEq
import Derived.Test.YtfklkkelgpeccaaMark
import Derived.Test.YtfklkkelgpeccaaHeld
import Derived.Laws.Rows
import Derived.Laws.Tables
import Derived.Laws.CopyOwn
import Derived.Laws.AppendOwnNone
import Derived.Deep.RegionHeld3
import Derived.Test.YtfklkkelgpeccaaMemG
namespace Go.Proofs.Ytfklkkelgpeccaa
open Go.RowKit
set_option linter.unusedVariables false
set_option linter.unusedSimpArgs false

/-- eqIntS and sameInts at equal lists; heldIntS at what was marked. -/
theorem eqIntS_same (v1 v2 : Value) (xs : List Int) (w : World) (hl : xs.length ≤ 4194304) (hr1 : RInts w v1 xs) (hr2 : RInts w v2 xs) :
    Calls Try.prog 23 #[v1, v2] w fun e w' => e = .returned (.bool true) ∧ ∃ n, w' = w.drewN n := by
  refine (eqIntS_any v1 v2 xs xs w hl hr1 hr2).mono ?_
  rintro e w' ⟨rfl, h⟩
  exact ⟨by simp, h⟩
theorem heldIntS_up (v : Value) (q : Int) (m : Nat) (w : World) (h1 : 0 ≤ q) (h2 : q ≤ 1000000000) (hl : m ≤ 4194304) (hr : RInts w v (upFrom q m)) :
    Calls Try.prog 26 #[v, .int .i64 q] w fun e w' => e = .returned (.int .i64 (q + m)) ∧ w = w' := by
  refine (heldIntS_any v _ q w h1 (by omega) (by rw [length_upFrom]; omega) hr).mono ?_
  rw [heldFrom_up]
  exact fun e w' h => h
end Go.Proofs.Ytfklkkelgpeccaa
