/-
  No cell of these rows narrows 'for every input' (looked for: loops, veiled, ifaces, maps, wideKeys, modest, calm, conditions, laid).
  DERIVED. THE GIVEN ROWS OF THIS SEAT. 5 by the template 'for every input the law returns true; each argument reads behind the call as it read before'; 0 by the template 'total and deterministic' (their statements: YthgekfiodedelaaTotals.lean).
  GIVEN WITH THE SEED: the statements are not yours to turn. If you find one false, say at which input.
  Laid BY PROGRAM, IN A SANDBOX (cutbox-rows.mjs): the forced cells as the released guide's own fill.sh prints them over the translation 99d003dd49719c9c… (all of the seat's roots in one cut). By AI agents, Wed Nov 11 2026. No macro, syntax, notation, axiom, sorry.
-/
import Derived.Test.YthgekfiodedelaaChecked
import GoSem.Claim
import GoSem.ClaimJoined
import GoSem.ClaimMapViews
import Derived.JoinedTies
import Derived.KernelRfl
namespace Go.Proofs.Ythgekfiodedelaa
/- THE CELL 'sum', in the pinned program and in every row, IS THE sha256 OF THE DUMP (.gsa) THAT YthgekfiodedelaaProg.lean LOADS. Nothing in Lean hashes anything: it is a label: what it is worth is what the hold of that sum in a sandbox is worth. -/
noncomputable def Try.pinned : Pinned := { name := "ythgekfiodedelaa", sum := "99d003dd49719c9c53c424827f3711e863b66352c4a1cae10f798a4a53417fdb", checked := Try.checked }
namespace Rows
def none {H : Type} : Left H := { results := [], args := [] }

/-- 'laws.FnCalmRounds': WHATEVER THE INPUT: true; the input reads as it did. -/
def fnCalmRoundsSpec : ChangeSpec := { name := "fnCalmRounds", fn := fun _ => fun
  | [d] => { results := [.lit (.bool true)], args := [d] }
  | _ => none }
def fnCalmRoundsRow : OpenClaim := { program := "ythgekfiodedelaa", sum := "99d003dd49719c9c53c424827f3711e863b66352c4a1cae10f798a4a53417fdb", func := "loop.example/ringoverlay/laws.FnCalmRounds", spec := "fnCalmRounds", unfollowed := true, recurses := true, apart := false }
def FnCalmRoundsSaid : Prop := fnCalmRoundsRow.holds Try.pinned (OpenSpec.ofChange fnCalmRoundsSpec)

/-- ITS FALSE NEIGHBOUR: 'it returns false'. Refute it at one input. -/
def fnCalmRoundsWrong : ChangeSpec := { name := "fnCalmRounds", fn := fun _ => fun
  | [d] => { results := [.lit (.bool false)], args := [d] }
  | _ => none }
def FnCalmRoundsWrongFalsely : Prop := fnCalmRoundsRow.holds Try.pinned (OpenSpec.ofChange fnCalmRoundsWrong)

/-- 'laws.FnCalm': WHATEVER THE INPUT: true; the input reads as it did. -/
def fnCalmSpec : ChangeSpec := { name := "fnCalm", fn := fun _ => fun
  | [d] => { results := [.lit (.bool true)], args := [d] }
  | _ => none }
def fnCalmRow : OpenClaim := { program := "ythgekfiodedelaa", sum := "99d003dd49719c9c53c424827f3711e863b66352c4a1cae10f798a4a53417fdb", func := "loop.example/ringoverlay/laws.FnCalm", spec := "fnCalm", unfollowed := true, recurses := true, apart := false }
def FnCalmSaid : Prop := fnCalmRow.holds Try.pinned (OpenSpec.ofChange fnCalmSpec)

/-- ITS FALSE NEIGHBOUR: 'it returns false'. Refute it at one input. -/
def fnCalmWrong : ChangeSpec := { name := "fnCalm", fn := fun _ => fun
  | [d] => { results := [.lit (.bool false)], args := [d] }
  | _ => none }
def FnCalmWrongFalsely : Prop := fnCalmRow.holds Try.pinned (OpenSpec.ofChange fnCalmWrong)

/-- 'laws.FnJoinCalm': WHATEVER THE INPUT: true; the input reads as it did. -/
def fnJoinCalmSpec : ChangeSpec := { name := "fnJoinCalm", fn := fun _ => fun
  | [d] => { results := [.lit (.bool true)], args := [d] }
  | _ => none }
def fnJoinCalmRow : OpenClaim := { program := "ythgekfiodedelaa", sum := "99d003dd49719c9c53c424827f3711e863b66352c4a1cae10f798a4a53417fdb", func := "loop.example/ringoverlay/laws.FnJoinCalm", spec := "fnJoinCalm", inPlace := ["slices.overlaps[loop.example/ringoverlay/impl.Node]"], unfollowed := true, recurses := true, apart := false }
def FnJoinCalmSaid : Prop := fnJoinCalmRow.holds Try.pinned (OpenSpec.ofChange fnJoinCalmSpec)

/-- ITS FALSE NEIGHBOUR: 'it returns false'. Refute it at one input. -/
def fnJoinCalmWrong : ChangeSpec := { name := "fnJoinCalm", fn := fun _ => fun
  | [d] => { results := [.lit (.bool false)], args := [d] }
  | _ => none }
def FnJoinCalmWrongFalsely : Prop := fnJoinCalmRow.holds Try.pinned (OpenSpec.ofChange fnJoinCalmWrong)

/-- 'laws.FnSafeJoin': WHATEVER THE INPUT: true; the input reads as it did. -/
def fnSafeJoinSpec : ChangeSpec := { name := "fnSafeJoin", fn := fun _ => fun
  | [d] => { results := [.lit (.bool true)], args := [d] }
  | _ => none }
def fnSafeJoinRow : OpenClaim := { program := "ythgekfiodedelaa", sum := "99d003dd49719c9c53c424827f3711e863b66352c4a1cae10f798a4a53417fdb", func := "loop.example/ringoverlay/laws.FnSafeJoin", spec := "fnSafeJoin", inPlace := ["slices.overlaps[loop.example/ringoverlay/impl.Node]"], unfollowed := true, recurses := true, apart := false }
def FnSafeJoinSaid : Prop := fnSafeJoinRow.holds Try.pinned (OpenSpec.ofChange fnSafeJoinSpec)

/-- ITS FALSE NEIGHBOUR: 'it returns false'. Refute it at one input. -/
def fnSafeJoinWrong : ChangeSpec := { name := "fnSafeJoin", fn := fun _ => fun
  | [d] => { results := [.lit (.bool false)], args := [d] }
  | _ => none }
def FnSafeJoinWrongFalsely : Prop := fnSafeJoinRow.holds Try.pinned (OpenSpec.ofChange fnSafeJoinWrong)

/-- 'laws.FnFailCalm': WHATEVER THE INPUT: true; the input reads as it did. -/
def fnFailCalmSpec : ChangeSpec := { name := "fnFailCalm", fn := fun _ => fun
  | [d] => { results := [.lit (.bool true)], args := [d] }
  | _ => none }
def fnFailCalmRow : OpenClaim := { program := "ythgekfiodedelaa", sum := "99d003dd49719c9c53c424827f3711e863b66352c4a1cae10f798a4a53417fdb", func := "loop.example/ringoverlay/laws.FnFailCalm", spec := "fnFailCalm", unfollowed := true, recurses := true, apart := false }
def FnFailCalmSaid : Prop := fnFailCalmRow.holds Try.pinned (OpenSpec.ofChange fnFailCalmSpec)

/-- ITS FALSE NEIGHBOUR: 'it returns false'. Refute it at one input. -/
def fnFailCalmWrong : ChangeSpec := { name := "fnFailCalm", fn := fun _ => fun
  | [d] => { results := [.lit (.bool false)], args := [d] }
  | _ => none }
def FnFailCalmWrongFalsely : Prop := fnFailCalmRow.holds Try.pinned (OpenSpec.ofChange fnFailCalmWrong)

/- THE SECOND FORM. 'bulk': how many values and letters a reading holds, each counted each time it is reached (what is shared counts as often as it is met; a slice's spare places count too). A statement '..UptoSaid' is the law's where the arguments, and the package variables that the reading takes, are together of bulk at most 1048576: NARROWER than '..Said'. Prove '..Said' where nothing that the law and all that it calls make is longer than what came in: it says more and counts as full. Else prove '..UptoSaid'. A law counts once. -/
mutual
def uptoBulk {H : Type} : DataW H → Nat
  | .lit (.string bytes) => bytes.length + 1
  | .lit _ => 1
  | .nil => 1
  | .ptr d => uptoBulk d + 1
  | .slice elems spare => uptoBulkAll elems + uptoBulkAll spare + 1
  | .agg parts => uptoBulkAll parts + 1
  | .iface _ d => uptoBulk d + 1
  | .map entries => uptoBulkEntries entries + 1
  | .held _ => 1
def uptoBulkAll {H : Type} : List (DataW H) → Nat
  | [] => 0
  | d :: r => uptoBulk d + uptoBulkAll r
def uptoBulkEntries {H : Type} : List (Lit × DataW H) → Nat
  | [] => 0
  | x :: r => uptoBulkEntry x + uptoBulkEntries r
def uptoBulkEntry {H : Type} : Lit × DataW H → Nat
  | (.string bytes, d) => bytes.length + uptoBulk d + 1
  | (_, d) => uptoBulk d + 1
 end
def uptoSmall : (H : Type) → List (DataW H) → Bool := fun _ ds => decide (uptoBulkAll ds ≤ 1048576)
def OpenSpec.upto (s : _root_.Go.ChangeSpec) : _root_.Go.OpenSpec := { _root_.Go.OpenSpec.ofChange s with cond := some uptoSmall }

/-- 'laws.FnCalmRounds', WHERE WHAT IT READS IS OF BULK AT MOST 1048576: true; the input reads as it did. -/
def fnCalmRoundsUptoRow : OpenClaim := { program := "ythgekfiodedelaa", sum := "99d003dd49719c9c53c424827f3711e863b66352c4a1cae10f798a4a53417fdb", func := "loop.example/ringoverlay/laws.FnCalmRounds", spec := "fnCalmRounds", unfollowed := true, recurses := true, apart := false, narrowed := true }
def FnCalmRoundsUptoSaid : Prop := fnCalmRoundsUptoRow.holds Try.pinned (OpenSpec.upto fnCalmRoundsSpec)

/-- 'laws.FnCalm', WHERE WHAT IT READS IS OF BULK AT MOST 1048576: true; the input reads as it did. -/
def fnCalmUptoRow : OpenClaim := { program := "ythgekfiodedelaa", sum := "99d003dd49719c9c53c424827f3711e863b66352c4a1cae10f798a4a53417fdb", func := "loop.example/ringoverlay/laws.FnCalm", spec := "fnCalm", unfollowed := true, recurses := true, apart := false, narrowed := true }
def FnCalmUptoSaid : Prop := fnCalmUptoRow.holds Try.pinned (OpenSpec.upto fnCalmSpec)

/-- 'laws.FnJoinCalm', WHERE WHAT IT READS IS OF BULK AT MOST 1048576: true; the input reads as it did. -/
def fnJoinCalmUptoRow : OpenClaim := { program := "ythgekfiodedelaa", sum := "99d003dd49719c9c53c424827f3711e863b66352c4a1cae10f798a4a53417fdb", func := "loop.example/ringoverlay/laws.FnJoinCalm", spec := "fnJoinCalm", inPlace := ["slices.overlaps[loop.example/ringoverlay/impl.Node]"], unfollowed := true, recurses := true, apart := false, narrowed := true }
def FnJoinCalmUptoSaid : Prop := fnJoinCalmUptoRow.holds Try.pinned (OpenSpec.upto fnJoinCalmSpec)

/-- 'laws.FnSafeJoin', WHERE WHAT IT READS IS OF BULK AT MOST 1048576: true; the input reads as it did. -/
def fnSafeJoinUptoRow : OpenClaim := { program := "ythgekfiodedelaa", sum := "99d003dd49719c9c53c424827f3711e863b66352c4a1cae10f798a4a53417fdb", func := "loop.example/ringoverlay/laws.FnSafeJoin", spec := "fnSafeJoin", inPlace := ["slices.overlaps[loop.example/ringoverlay/impl.Node]"], unfollowed := true, recurses := true, apart := false, narrowed := true }
def FnSafeJoinUptoSaid : Prop := fnSafeJoinUptoRow.holds Try.pinned (OpenSpec.upto fnSafeJoinSpec)

/-- 'laws.FnFailCalm', WHERE WHAT IT READS IS OF BULK AT MOST 1048576: true; the input reads as it did. -/
def fnFailCalmUptoRow : OpenClaim := { program := "ythgekfiodedelaa", sum := "99d003dd49719c9c53c424827f3711e863b66352c4a1cae10f798a4a53417fdb", func := "loop.example/ringoverlay/laws.FnFailCalm", spec := "fnFailCalm", unfollowed := true, recurses := true, apart := false, narrowed := true }
def FnFailCalmUptoSaid : Prop := fnFailCalmUptoRow.holds Try.pinned (OpenSpec.upto fnFailCalmSpec)

end Rows
end Go.Proofs.Ythgekfiodedelaa
