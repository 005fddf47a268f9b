/- A region that draws its order, whose operations read and whose callees read or make memory: one walk in the order of the text. No program in sight. -/
import Derived.Test.YtcahemedlmagdaaBase
import Derived.BigQuiet
import Derived.Deep.QuietTactic
namespace Go.Proofs.Ytcahemedlmagdaa
open Go.RowKit

/-- A world in which all that stood in w stands. -/
structure BW (w : World) where
  x : World
  h : Below w.heap.size w x
instance (w : World) : Nonempty (BW w) := ⟨⟨w, Below.refl _ _⟩⟩
def BW.next {w : World} (i : BW w) {w' : World} (h : Below i.x.heap.size i.x w') : BW w := ⟨w', i.h.trans (h.mono i.h.size)⟩
theorem BW.cell {w : World} {b o : Nat} {v : Value} (h : w.cell? ⟨b, o, none⟩ = some v) : ∀ i : BW w, i.x.cell? ⟨b, o, none⟩ = some v :=
  fun i => (i.h.cell (p := ⟨b, o, none⟩) (cell_lt h)).trans h

theorem wp_region_quiet_b {P : Program} {id : Nat} {Q : Exit → Act → World → Prop} {a : Act} {w : World} {l : List Oper} (hm : P.follows .mixedOrders = true) (hB : Region.lexB .any l.toArray = true)
    (h : wpQuiet P l.toArray (fun w' => ∃ i : BW w, w' = i.x) (fun a' => ∀ w', (∃ i : BW w, w' = i.x) → Q .normal a' w') l a) : (Code.region id l.toArray true).wp P Q a w :=
  wp_region_quiet (C := fun w' => ∃ i : BW w, w' = i.x) hm hB ⟨⟨{ w with drawn := w.drawn + 1 }, below_draws' w 1⟩, rfl⟩ (by simpa using h)

theorem quiet_b {P : Program} {f : FuncId} {args : Array Value} {w : World} {i : BW w} {v : Value}
    (h : Calls P f args i.x fun e w' => e = .returned v ∧ Below i.x.heap.size i.x w') : Calls P f args i.x fun e w'' => e = .returned v ∧ ∃ j : BW w, w'' = j.x :=
  h.mono fun _ _ ⟨he, hb⟩ => ⟨he, i.next hb, rfl⟩
theorem quiet_bs {P : Program} {f : FuncId} {args : Array Value} {w : World} {i : BW w} {v : Value}
    (h : Calls P f args i.x fun e w' => e = .returned v ∧ i.x = w') : Calls P f args i.x fun e w'' => e = .returned v ∧ ∃ j : BW w, w'' = j.x :=
  h.mono fun _ _ ⟨he, hb⟩ => ⟨he, i, hb.symm⟩
end Go.Proofs.Ytcahemedlmagdaa
