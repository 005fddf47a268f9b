/-
  No cell of these rows narrows 'for every input' (looked for: loops, veiled, ifaces, maps, wideKeys, modest, calm, conditions, laid).
  DERIVED. THE GIVEN ROWS OF THIS SEAT. 8 by the template 'for every input the law returns true; each argument reads behind the call as it read before'; 0 by the template 'total and deterministic' (their statements: YtldlaklddcekiaaTotals.lean).
  GIVEN WITH THE SEED: the statements are not yours to turn. If you find one false, say at which input.
  Laid BY PROGRAM, IN A SANDBOX (cutbox-rows.mjs): the forced cells as the released guide's own fill.sh prints them over the translation 78dc792663fb1fff… (all of the seat's roots in one cut). By AI agents, Wed Nov 11 2026. No macro, syntax, notation, axiom, sorry.
-/
import Derived.Test.YtldlaklddcekiaaChecked
import GoSem.Claim
import GoSem.ClaimJoined
import GoSem.ClaimMapViews
import Derived.JoinedTies
import Derived.KernelRfl
namespace Go.Proofs.Ytldlaklddcekiaa
/- THE CELL 'sum', in the pinned program and in every row, IS THE sha256 OF THE DUMP (.gsa) THAT YtldlaklddcekiaaProg.lean LOADS. Nothing in Lean hashes anything: it is a label: what it is worth is what the hold of that sum in a sandbox is worth. -/
noncomputable def Try.pinned : Pinned := { name := "ytldlaklddcekiaa", sum := "78dc792663fb1fff555e95a990ce81c843ebe02b6cbc78e8c51e91be218aeb62", checked := Try.checked }
namespace Rows
def none {H : Type} : Left H := { results := [], args := [] }

/-- 'laws.FnExactCacheValid': WHATEVER THE INPUT: true; the input reads as it did. -/
def fnExactCacheValidSpec : ChangeSpec := { name := "fnExactCacheValid", fn := fun _ => fun
  | [d] => { results := [.lit (.bool true)], args := [d] }
  | _ => none }
def fnExactCacheValidRow : OpenClaim := { program := "ytldlaklddcekiaa", sum := "78dc792663fb1fff555e95a990ce81c843ebe02b6cbc78e8c51e91be218aeb62", func := "loop.example/ringoverlay/laws.FnExactCacheValid", spec := "fnExactCacheValid", unfollowed := true, recurses := true, apart := false }
def FnExactCacheValidSaid : Prop := fnExactCacheValidRow.holds Try.pinned (OpenSpec.ofChange fnExactCacheValidSpec)

/-- ITS FALSE NEIGHBOUR: 'it returns false'. Refute it at one input. -/
def fnExactCacheValidWrong : ChangeSpec := { name := "fnExactCacheValid", fn := fun _ => fun
  | [d] => { results := [.lit (.bool false)], args := [d] }
  | _ => none }
def FnExactCacheValidWrongFalsely : Prop := fnExactCacheValidRow.holds Try.pinned (OpenSpec.ofChange fnExactCacheValidWrong)

/-- 'laws.FnExactCacheGet': WHATEVER THE INPUT: true; the input reads as it did. -/
def fnExactCacheGetSpec : ChangeSpec := { name := "fnExactCacheGet", fn := fun _ => fun
  | [d1, d2, d3] => { results := [.lit (.bool true)], args := [d1, d2, d3] }
  | _ => none }
def fnExactCacheGetRow : OpenClaim := { program := "ytldlaklddcekiaa", sum := "78dc792663fb1fff555e95a990ce81c843ebe02b6cbc78e8c51e91be218aeb62", func := "loop.example/ringoverlay/laws.FnExactCacheGet", spec := "fnExactCacheGet", unfollowed := true, recurses := true, apart := false }
def FnExactCacheGetSaid : Prop := fnExactCacheGetRow.holds Try.pinned (OpenSpec.ofChange fnExactCacheGetSpec)

/-- ITS FALSE NEIGHBOUR: 'it returns false'. Refute it at one input. -/
def fnExactCacheGetWrong : ChangeSpec := { name := "fnExactCacheGet", fn := fun _ => fun
  | [d1, d2, d3] => { results := [.lit (.bool false)], args := [d1, d2, d3] }
  | _ => none }
def FnExactCacheGetWrongFalsely : Prop := fnExactCacheGetRow.holds Try.pinned (OpenSpec.ofChange fnExactCacheGetWrong)

/-- 'laws.FnExactCacheSweep': WHATEVER THE INPUT: true; the input reads as it did. -/
def fnExactCacheSweepSpec : ChangeSpec := { name := "fnExactCacheSweep", fn := fun _ => fun
  | [d1, d2] => { results := [.lit (.bool true)], args := [d1, d2] }
  | _ => none }
def fnExactCacheSweepRow : OpenClaim := { program := "ytldlaklddcekiaa", sum := "78dc792663fb1fff555e95a990ce81c843ebe02b6cbc78e8c51e91be218aeb62", func := "loop.example/ringoverlay/laws.FnExactCacheSweep", spec := "fnExactCacheSweep", unfollowed := true, recurses := true, apart := false }
def FnExactCacheSweepSaid : Prop := fnExactCacheSweepRow.holds Try.pinned (OpenSpec.ofChange fnExactCacheSweepSpec)

/-- ITS FALSE NEIGHBOUR: 'it returns false'. Refute it at one input. -/
def fnExactCacheSweepWrong : ChangeSpec := { name := "fnExactCacheSweep", fn := fun _ => fun
  | [d1, d2] => { results := [.lit (.bool false)], args := [d1, d2] }
  | _ => none }
def FnExactCacheSweepWrongFalsely : Prop := fnExactCacheSweepRow.holds Try.pinned (OpenSpec.ofChange fnExactCacheSweepWrong)

/-- 'laws.FnExactCacheDrop': WHATEVER THE INPUT: true; the input reads as it did. -/
def fnExactCacheDropSpec : ChangeSpec := { name := "fnExactCacheDrop", fn := fun _ => fun
  | [d1, d2] => { results := [.lit (.bool true)], args := [d1, d2] }
  | _ => none }
def fnExactCacheDropRow : OpenClaim := { program := "ytldlaklddcekiaa", sum := "78dc792663fb1fff555e95a990ce81c843ebe02b6cbc78e8c51e91be218aeb62", func := "loop.example/ringoverlay/laws.FnExactCacheDrop", spec := "fnExactCacheDrop", unfollowed := true, recurses := true, apart := false }
def FnExactCacheDropSaid : Prop := fnExactCacheDropRow.holds Try.pinned (OpenSpec.ofChange fnExactCacheDropSpec)

/-- ITS FALSE NEIGHBOUR: 'it returns false'. Refute it at one input. -/
def fnExactCacheDropWrong : ChangeSpec := { name := "fnExactCacheDrop", fn := fun _ => fun
  | [d1, d2] => { results := [.lit (.bool false)], args := [d1, d2] }
  | _ => none }
def FnExactCacheDropWrongFalsely : Prop := fnExactCacheDropRow.holds Try.pinned (OpenSpec.ofChange fnExactCacheDropWrong)

/-- 'laws.FnCacheStale': WHATEVER THE INPUT: true; the input reads as it did. -/
def fnCacheStaleSpec : ChangeSpec := { name := "fnCacheStale", fn := fun _ => fun
  | [d] => { results := [.lit (.bool true)], args := [d] }
  | _ => none }
def fnCacheStaleRow : OpenClaim := { program := "ytldlaklddcekiaa", sum := "78dc792663fb1fff555e95a990ce81c843ebe02b6cbc78e8c51e91be218aeb62", func := "loop.example/ringoverlay/laws.FnCacheStale", spec := "fnCacheStale", unfollowed := true, recurses := true, apart := false }
def FnCacheStaleSaid : Prop := fnCacheStaleRow.holds Try.pinned (OpenSpec.ofChange fnCacheStaleSpec)

/-- ITS FALSE NEIGHBOUR: 'it returns false'. Refute it at one input. -/
def fnCacheStaleWrong : ChangeSpec := { name := "fnCacheStale", fn := fun _ => fun
  | [d] => { results := [.lit (.bool false)], args := [d] }
  | _ => none }
def FnCacheStaleWrongFalsely : Prop := fnCacheStaleRow.holds Try.pinned (OpenSpec.ofChange fnCacheStaleWrong)

/-- 'laws.FnCacheDrop': WHATEVER THE INPUT: true; the input reads as it did. -/
def fnCacheDropSpec : ChangeSpec := { name := "fnCacheDrop", fn := fun _ => fun
  | [d1, d2] => { results := [.lit (.bool true)], args := [d1, d2] }
  | _ => none }
def fnCacheDropRow : OpenClaim := { program := "ytldlaklddcekiaa", sum := "78dc792663fb1fff555e95a990ce81c843ebe02b6cbc78e8c51e91be218aeb62", func := "loop.example/ringoverlay/laws.FnCacheDrop", spec := "fnCacheDrop", unfollowed := true, recurses := true, apart := false }
def FnCacheDropSaid : Prop := fnCacheDropRow.holds Try.pinned (OpenSpec.ofChange fnCacheDropSpec)

/-- ITS FALSE NEIGHBOUR: 'it returns false'. Refute it at one input. -/
def fnCacheDropWrong : ChangeSpec := { name := "fnCacheDrop", fn := fun _ => fun
  | [d1, d2] => { results := [.lit (.bool false)], args := [d1, d2] }
  | _ => none }
def FnCacheDropWrongFalsely : Prop := fnCacheDropRow.holds Try.pinned (OpenSpec.ofChange fnCacheDropWrong)

/-- 'laws.FnCacheSweepGet': WHATEVER THE INPUT: true; the input reads as it did. -/
def fnCacheSweepGetSpec : ChangeSpec := { name := "fnCacheSweepGet", fn := fun _ => fun
  | [d1, d2] => { results := [.lit (.bool true)], args := [d1, d2] }
  | _ => none }
def fnCacheSweepGetRow : OpenClaim := { program := "ytldlaklddcekiaa", sum := "78dc792663fb1fff555e95a990ce81c843ebe02b6cbc78e8c51e91be218aeb62", func := "loop.example/ringoverlay/laws.FnCacheSweepGet", spec := "fnCacheSweepGet", unfollowed := true, recurses := true, apart := false }
def FnCacheSweepGetSaid : Prop := fnCacheSweepGetRow.holds Try.pinned (OpenSpec.ofChange fnCacheSweepGetSpec)

/-- ITS FALSE NEIGHBOUR: 'it returns false'. Refute it at one input. -/
def fnCacheSweepGetWrong : ChangeSpec := { name := "fnCacheSweepGet", fn := fun _ => fun
  | [d1, d2] => { results := [.lit (.bool false)], args := [d1, d2] }
  | _ => none }
def FnCacheSweepGetWrongFalsely : Prop := fnCacheSweepGetRow.holds Try.pinned (OpenSpec.ofChange fnCacheSweepGetWrong)

/-- 'laws.FnCacheSweep': WHATEVER THE INPUT: true; the input reads as it did. -/
def fnCacheSweepSpec : ChangeSpec := { name := "fnCacheSweep", fn := fun _ => fun
  | [d] => { results := [.lit (.bool true)], args := [d] }
  | _ => none }
def fnCacheSweepRow : OpenClaim := { program := "ytldlaklddcekiaa", sum := "78dc792663fb1fff555e95a990ce81c843ebe02b6cbc78e8c51e91be218aeb62", func := "loop.example/ringoverlay/laws.FnCacheSweep", spec := "fnCacheSweep", unfollowed := true, recurses := true, apart := false }
def FnCacheSweepSaid : Prop := fnCacheSweepRow.holds Try.pinned (OpenSpec.ofChange fnCacheSweepSpec)

/-- ITS FALSE NEIGHBOUR: 'it returns false'. Refute it at one input. -/
def fnCacheSweepWrong : ChangeSpec := { name := "fnCacheSweep", fn := fun _ => fun
  | [d] => { results := [.lit (.bool false)], args := [d] }
  | _ => none }
def FnCacheSweepWrongFalsely : Prop := fnCacheSweepRow.holds Try.pinned (OpenSpec.ofChange fnCacheSweepWrong)

/- THE SECOND FORM. 'bulk': how many values and letters a reading holds, each counted each time it is reached (what is shared counts as often as it is met; a slice's spare places count too). A statement '..UptoSaid' is the law's where the arguments, and the package variables that the reading takes, are together of bulk at most 1048576: NARROWER than '..Said'. Prove '..Said' where nothing that the law and all that it calls make is longer than what came in: it says more and counts as full. Else prove '..UptoSaid'. A law counts once. -/
mutual
def uptoBulk {H : Type} : DataW H → Nat
  | .lit (.string bytes) => bytes.length + 1
  | .lit _ => 1
  | .nil => 1
  | .ptr d => uptoBulk d + 1
  | .slice elems spare => uptoBulkAll elems + uptoBulkAll spare + 1
  | .agg parts => uptoBulkAll parts + 1
  | .iface _ d => uptoBulk d + 1
  | .map entries => uptoBulkEntries entries + 1
  | .held _ => 1
def uptoBulkAll {H : Type} : List (DataW H) → Nat
  | [] => 0
  | d :: r => uptoBulk d + uptoBulkAll r
def uptoBulkEntries {H : Type} : List (Lit × DataW H) → Nat
  | [] => 0
  | x :: r => uptoBulkEntry x + uptoBulkEntries r
def uptoBulkEntry {H : Type} : Lit × DataW H → Nat
  | (.string bytes, d) => bytes.length + uptoBulk d + 1
  | (_, d) => uptoBulk d + 1
 end
def uptoSmall : (H : Type) → List (DataW H) → Bool := fun _ ds => decide (uptoBulkAll ds ≤ 1048576)
def OpenSpec.upto (s : _root_.Go.ChangeSpec) : _root_.Go.OpenSpec := { _root_.Go.OpenSpec.ofChange s with cond := some uptoSmall }

/-- 'laws.FnExactCacheValid', WHERE WHAT IT READS IS OF BULK AT MOST 1048576: true; the input reads as it did. -/
def fnExactCacheValidUptoRow : OpenClaim := { program := "ytldlaklddcekiaa", sum := "78dc792663fb1fff555e95a990ce81c843ebe02b6cbc78e8c51e91be218aeb62", func := "loop.example/ringoverlay/laws.FnExactCacheValid", spec := "fnExactCacheValid", unfollowed := true, recurses := true, apart := false, narrowed := true }
def FnExactCacheValidUptoSaid : Prop := fnExactCacheValidUptoRow.holds Try.pinned (OpenSpec.upto fnExactCacheValidSpec)

/-- 'laws.FnExactCacheGet', WHERE WHAT IT READS IS OF BULK AT MOST 1048576: true; the input reads as it did. -/
def fnExactCacheGetUptoRow : OpenClaim := { program := "ytldlaklddcekiaa", sum := "78dc792663fb1fff555e95a990ce81c843ebe02b6cbc78e8c51e91be218aeb62", func := "loop.example/ringoverlay/laws.FnExactCacheGet", spec := "fnExactCacheGet", unfollowed := true, recurses := true, apart := false, narrowed := true }
def FnExactCacheGetUptoSaid : Prop := fnExactCacheGetUptoRow.holds Try.pinned (OpenSpec.upto fnExactCacheGetSpec)

/-- 'laws.FnExactCacheSweep', WHERE WHAT IT READS IS OF BULK AT MOST 1048576: true; the input reads as it did. -/
def fnExactCacheSweepUptoRow : OpenClaim := { program := "ytldlaklddcekiaa", sum := "78dc792663fb1fff555e95a990ce81c843ebe02b6cbc78e8c51e91be218aeb62", func := "loop.example/ringoverlay/laws.FnExactCacheSweep", spec := "fnExactCacheSweep", unfollowed := true, recurses := true, apart := false, narrowed := true }
def FnExactCacheSweepUptoSaid : Prop := fnExactCacheSweepUptoRow.holds Try.pinned (OpenSpec.upto fnExactCacheSweepSpec)

/-- 'laws.FnExactCacheDrop', WHERE WHAT IT READS IS OF BULK AT MOST 1048576: true; the input reads as it did. -/
def fnExactCacheDropUptoRow : OpenClaim := { program := "ytldlaklddcekiaa", sum := "78dc792663fb1fff555e95a990ce81c843ebe02b6cbc78e8c51e91be218aeb62", func := "loop.example/ringoverlay/laws.FnExactCacheDrop", spec := "fnExactCacheDrop", unfollowed := true, recurses := true, apart := false, narrowed := true }
def FnExactCacheDropUptoSaid : Prop := fnExactCacheDropUptoRow.holds Try.pinned (OpenSpec.upto fnExactCacheDropSpec)

/-- 'laws.FnCacheStale', WHERE WHAT IT READS IS OF BULK AT MOST 1048576: true; the input reads as it did. -/
def fnCacheStaleUptoRow : OpenClaim := { program := "ytldlaklddcekiaa", sum := "78dc792663fb1fff555e95a990ce81c843ebe02b6cbc78e8c51e91be218aeb62", func := "loop.example/ringoverlay/laws.FnCacheStale", spec := "fnCacheStale", unfollowed := true, recurses := true, apart := false, narrowed := true }
def FnCacheStaleUptoSaid : Prop := fnCacheStaleUptoRow.holds Try.pinned (OpenSpec.upto fnCacheStaleSpec)

/-- 'laws.FnCacheDrop', WHERE WHAT IT READS IS OF BULK AT MOST 1048576: true; the input reads as it did. -/
def fnCacheDropUptoRow : OpenClaim := { program := "ytldlaklddcekiaa", sum := "78dc792663fb1fff555e95a990ce81c843ebe02b6cbc78e8c51e91be218aeb62", func := "loop.example/ringoverlay/laws.FnCacheDrop", spec := "fnCacheDrop", unfollowed := true, recurses := true, apart := false, narrowed := true }
def FnCacheDropUptoSaid : Prop := fnCacheDropUptoRow.holds Try.pinned (OpenSpec.upto fnCacheDropSpec)

/-- 'laws.FnCacheSweepGet', WHERE WHAT IT READS IS OF BULK AT MOST 1048576: true; the input reads as it did. -/
def fnCacheSweepGetUptoRow : OpenClaim := { program := "ytldlaklddcekiaa", sum := "78dc792663fb1fff555e95a990ce81c843ebe02b6cbc78e8c51e91be218aeb62", func := "loop.example/ringoverlay/laws.FnCacheSweepGet", spec := "fnCacheSweepGet", unfollowed := true, recurses := true, apart := false, narrowed := true }
def FnCacheSweepGetUptoSaid : Prop := fnCacheSweepGetUptoRow.holds Try.pinned (OpenSpec.upto fnCacheSweepGetSpec)

/-- 'laws.FnCacheSweep', WHERE WHAT IT READS IS OF BULK AT MOST 1048576: true; the input reads as it did. -/
def fnCacheSweepUptoRow : OpenClaim := { program := "ytldlaklddcekiaa", sum := "78dc792663fb1fff555e95a990ce81c843ebe02b6cbc78e8c51e91be218aeb62", func := "loop.example/ringoverlay/laws.FnCacheSweep", spec := "fnCacheSweep", unfollowed := true, recurses := true, apart := false, narrowed := true }
def FnCacheSweepUptoSaid : Prop := fnCacheSweepUptoRow.holds Try.pinned (OpenSpec.upto fnCacheSweepSpec)

end Rows
end Go.Proofs.Ytldlaklddcekiaa
