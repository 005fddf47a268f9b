/-
  No cell of these rows narrows 'for every input' (looked for: loops, veiled, ifaces, maps, wideKeys, modest, calm, conditions, laid).
  DERIVED. THE GIVEN ROWS OF THIS SEAT. 7 by the template 'for every input the law returns true; each argument reads behind the call as it read before'; 0 by the template 'total and deterministic' (their statements: YtcahemedlmagdaaTotals.lean).
  GIVEN WITH THE SEED: the statements are not yours to turn. If you find one false, say at which input.
  Laid BY PROGRAM, IN A SANDBOX (cutbox-rows.mjs): the forced cells as the released guide's own fill.sh prints them over the translation b3b6b98bc355bb1d… (all of the seat's roots in one cut). By AI agents, Wed Nov 11 2026. No macro, syntax, notation, axiom, sorry.
-/
import Derived.Test.YtcahemedlmagdaaChecked
import GoSem.Claim
import GoSem.ClaimJoined
import GoSem.ClaimMapViews
import Derived.JoinedTies
import Derived.KernelRfl
namespace Go.Proofs.Ytcahemedlmagdaa
/- THE CELL 'sum', in the pinned program and in every row, IS THE sha256 OF THE DUMP (.gsa) THAT YtcahemedlmagdaaProg.lean LOADS. Nothing in Lean hashes anything: it is a label: what it is worth is what the hold of that sum in a sandbox is worth. -/
noncomputable def Try.pinned : Pinned := { name := "ytcahemedlmagdaa", sum := "b3b6b98bc355bb1d0603aeb9dad4870eba4498c6d50e4a4a8de7238bc8301e6f", checked := Try.checked }
namespace Rows
def none {H : Type} : Left H := { results := [], args := [] }

/-- 'laws.FnCacheOthers': WHATEVER THE INPUT: true; the input reads as it did. -/
def fnCacheOthersSpec : ChangeSpec := { name := "fnCacheOthers", fn := fun _ => fun
  | [d] => { results := [.lit (.bool true)], args := [d] }
  | _ => none }
def fnCacheOthersRow : OpenClaim := { program := "ytcahemedlmagdaa", sum := "b3b6b98bc355bb1d0603aeb9dad4870eba4498c6d50e4a4a8de7238bc8301e6f", func := "loop.example/ringoverlay/laws.FnCacheOthers", spec := "fnCacheOthers", inPlace := ["slices.overlaps[loop.example/ringoverlay/impl.Entry]"], unfollowed := true, recurses := true, apart := false }
def FnCacheOthersSaid : Prop := fnCacheOthersRow.holds Try.pinned (OpenSpec.ofChange fnCacheOthersSpec)

/-- ITS FALSE NEIGHBOUR: 'it returns false'. Refute it at one input. -/
def fnCacheOthersWrong : ChangeSpec := { name := "fnCacheOthers", fn := fun _ => fun
  | [d] => { results := [.lit (.bool false)], args := [d] }
  | _ => none }
def FnCacheOthersWrongFalsely : Prop := fnCacheOthersRow.holds Try.pinned (OpenSpec.ofChange fnCacheOthersWrong)

/-- 'laws.FnCachePutTwice': WHATEVER THE INPUT: true; the input reads as it did. -/
def fnCachePutTwiceSpec : ChangeSpec := { name := "fnCachePutTwice", fn := fun _ => fun
  | [d] => { results := [.lit (.bool true)], args := [d] }
  | _ => none }
def fnCachePutTwiceRow : OpenClaim := { program := "ytcahemedlmagdaa", sum := "b3b6b98bc355bb1d0603aeb9dad4870eba4498c6d50e4a4a8de7238bc8301e6f", func := "loop.example/ringoverlay/laws.FnCachePutTwice", spec := "fnCachePutTwice", inPlace := ["slices.overlaps[loop.example/ringoverlay/impl.Entry]"], unfollowed := true, recurses := true, apart := false }
def FnCachePutTwiceSaid : Prop := fnCachePutTwiceRow.holds Try.pinned (OpenSpec.ofChange fnCachePutTwiceSpec)

/-- ITS FALSE NEIGHBOUR: 'it returns false'. Refute it at one input. -/
def fnCachePutTwiceWrong : ChangeSpec := { name := "fnCachePutTwice", fn := fun _ => fun
  | [d] => { results := [.lit (.bool false)], args := [d] }
  | _ => none }
def FnCachePutTwiceWrongFalsely : Prop := fnCachePutTwiceRow.holds Try.pinned (OpenSpec.ofChange fnCachePutTwiceWrong)

/-- 'laws.FnExactCachePut': WHATEVER THE INPUT: true; the input reads as it did. -/
def fnExactCachePutSpec : ChangeSpec := { name := "fnExactCachePut", fn := fun _ => fun
  | [d1, d2, d3, d4] => { results := [.lit (.bool true)], args := [d1, d2, d3, d4] }
  | _ => none }
def fnExactCachePutRow : OpenClaim := { program := "ytcahemedlmagdaa", sum := "b3b6b98bc355bb1d0603aeb9dad4870eba4498c6d50e4a4a8de7238bc8301e6f", func := "loop.example/ringoverlay/laws.FnExactCachePut", spec := "fnExactCachePut", inPlace := ["slices.overlaps[loop.example/ringoverlay/impl.Entry]"], unfollowed := true, recurses := true, apart := false }
def FnExactCachePutSaid : Prop := fnExactCachePutRow.holds Try.pinned (OpenSpec.ofChange fnExactCachePutSpec)

/-- ITS FALSE NEIGHBOUR: 'it returns false'. Refute it at one input. -/
def fnExactCachePutWrong : ChangeSpec := { name := "fnExactCachePut", fn := fun _ => fun
  | [d1, d2, d3, d4] => { results := [.lit (.bool false)], args := [d1, d2, d3, d4] }
  | _ => none }
def FnExactCachePutWrongFalsely : Prop := fnExactCachePutRow.holds Try.pinned (OpenSpec.ofChange fnExactCachePutWrong)

/-- 'laws.FnCacheSize': WHATEVER THE INPUT: true; the input reads as it did. -/
def fnCacheSizeSpec : ChangeSpec := { name := "fnCacheSize", fn := fun _ => fun
  | [d] => { results := [.lit (.bool true)], args := [d] }
  | _ => none }
def fnCacheSizeRow : OpenClaim := { program := "ytcahemedlmagdaa", sum := "b3b6b98bc355bb1d0603aeb9dad4870eba4498c6d50e4a4a8de7238bc8301e6f", func := "loop.example/ringoverlay/laws.FnCacheSize", spec := "fnCacheSize", inPlace := ["slices.overlaps[loop.example/ringoverlay/impl.Entry]"], unfollowed := true, recurses := true, apart := false }
def FnCacheSizeSaid : Prop := fnCacheSizeRow.holds Try.pinned (OpenSpec.ofChange fnCacheSizeSpec)

/-- ITS FALSE NEIGHBOUR: 'it returns false'. Refute it at one input. -/
def fnCacheSizeWrong : ChangeSpec := { name := "fnCacheSize", fn := fun _ => fun
  | [d] => { results := [.lit (.bool false)], args := [d] }
  | _ => none }
def FnCacheSizeWrongFalsely : Prop := fnCacheSizeRow.holds Try.pinned (OpenSpec.ofChange fnCacheSizeWrong)

/-- 'laws.FnCacheLife': WHATEVER THE INPUT: true; the input reads as it did. -/
def fnCacheLifeSpec : ChangeSpec := { name := "fnCacheLife", fn := fun _ => fun
  | [d1, d2] => { results := [.lit (.bool true)], args := [d1, d2] }
  | _ => none }
def fnCacheLifeRow : OpenClaim := { program := "ytcahemedlmagdaa", sum := "b3b6b98bc355bb1d0603aeb9dad4870eba4498c6d50e4a4a8de7238bc8301e6f", func := "loop.example/ringoverlay/laws.FnCacheLife", spec := "fnCacheLife", inPlace := ["slices.overlaps[loop.example/ringoverlay/impl.Entry]"], unfollowed := true, recurses := true, apart := false }
def FnCacheLifeSaid : Prop := fnCacheLifeRow.holds Try.pinned (OpenSpec.ofChange fnCacheLifeSpec)

/-- ITS FALSE NEIGHBOUR: 'it returns false'. Refute it at one input. -/
def fnCacheLifeWrong : ChangeSpec := { name := "fnCacheLife", fn := fun _ => fun
  | [d1, d2] => { results := [.lit (.bool false)], args := [d1, d2] }
  | _ => none }
def FnCacheLifeWrongFalsely : Prop := fnCacheLifeRow.holds Try.pinned (OpenSpec.ofChange fnCacheLifeWrong)

/-- 'laws.FnCachePut': WHATEVER THE INPUT: true; the input reads as it did. -/
def fnCachePutSpec : ChangeSpec := { name := "fnCachePut", fn := fun _ => fun
  | [d] => { results := [.lit (.bool true)], args := [d] }
  | _ => none }
def fnCachePutRow : OpenClaim := { program := "ytcahemedlmagdaa", sum := "b3b6b98bc355bb1d0603aeb9dad4870eba4498c6d50e4a4a8de7238bc8301e6f", func := "loop.example/ringoverlay/laws.FnCachePut", spec := "fnCachePut", inPlace := ["slices.overlaps[loop.example/ringoverlay/impl.Entry]"], unfollowed := true, recurses := true, apart := false }
def FnCachePutSaid : Prop := fnCachePutRow.holds Try.pinned (OpenSpec.ofChange fnCachePutSpec)

/-- ITS FALSE NEIGHBOUR: 'it returns false'. Refute it at one input. -/
def fnCachePutWrong : ChangeSpec := { name := "fnCachePut", fn := fun _ => fun
  | [d] => { results := [.lit (.bool false)], args := [d] }
  | _ => none }
def FnCachePutWrongFalsely : Prop := fnCachePutRow.holds Try.pinned (OpenSpec.ofChange fnCachePutWrong)

/-- 'laws.FnCacheReplace': WHATEVER THE INPUT: true; the input reads as it did. -/
def fnCacheReplaceSpec : ChangeSpec := { name := "fnCacheReplace", fn := fun _ => fun
  | [d1, d2] => { results := [.lit (.bool true)], args := [d1, d2] }
  | _ => none }
def fnCacheReplaceRow : OpenClaim := { program := "ytcahemedlmagdaa", sum := "b3b6b98bc355bb1d0603aeb9dad4870eba4498c6d50e4a4a8de7238bc8301e6f", func := "loop.example/ringoverlay/laws.FnCacheReplace", spec := "fnCacheReplace", inPlace := ["slices.overlaps[loop.example/ringoverlay/impl.Entry]"], unfollowed := true, recurses := true, apart := false }
def FnCacheReplaceSaid : Prop := fnCacheReplaceRow.holds Try.pinned (OpenSpec.ofChange fnCacheReplaceSpec)

/-- ITS FALSE NEIGHBOUR: 'it returns false'. Refute it at one input. -/
def fnCacheReplaceWrong : ChangeSpec := { name := "fnCacheReplace", fn := fun _ => fun
  | [d1, d2] => { results := [.lit (.bool false)], args := [d1, d2] }
  | _ => none }
def FnCacheReplaceWrongFalsely : Prop := fnCacheReplaceRow.holds Try.pinned (OpenSpec.ofChange fnCacheReplaceWrong)

/- THE SECOND FORM. 'bulk': how many values and letters a reading holds, each counted each time it is reached (what is shared counts as often as it is met; a slice's spare places count too). A statement '..UptoSaid' is the law's where the arguments, and the package variables that the reading takes, are together of bulk at most 1048576: NARROWER than '..Said'. Prove '..Said' where nothing that the law and all that it calls make is longer than what came in: it says more and counts as full. Else prove '..UptoSaid'. A law counts once. -/
mutual
def uptoBulk {H : Type} : DataW H → Nat
  | .lit (.string bytes) => bytes.length + 1
  | .lit _ => 1
  | .nil => 1
  | .ptr d => uptoBulk d + 1
  | .slice elems spare => uptoBulkAll elems + uptoBulkAll spare + 1
  | .agg parts => uptoBulkAll parts + 1
  | .iface _ d => uptoBulk d + 1
  | .map entries => uptoBulkEntries entries + 1
  | .held _ => 1
def uptoBulkAll {H : Type} : List (DataW H) → Nat
  | [] => 0
  | d :: r => uptoBulk d + uptoBulkAll r
def uptoBulkEntries {H : Type} : List (Lit × DataW H) → Nat
  | [] => 0
  | x :: r => uptoBulkEntry x + uptoBulkEntries r
def uptoBulkEntry {H : Type} : Lit × DataW H → Nat
  | (.string bytes, d) => bytes.length + uptoBulk d + 1
  | (_, d) => uptoBulk d + 1
 end
def uptoSmall : (H : Type) → List (DataW H) → Bool := fun _ ds => decide (uptoBulkAll ds ≤ 1048576)
def OpenSpec.upto (s : _root_.Go.ChangeSpec) : _root_.Go.OpenSpec := { _root_.Go.OpenSpec.ofChange s with cond := some uptoSmall }

/-- 'laws.FnCacheOthers', WHERE WHAT IT READS IS OF BULK AT MOST 1048576: true; the input reads as it did. -/
def fnCacheOthersUptoRow : OpenClaim := { program := "ytcahemedlmagdaa", sum := "b3b6b98bc355bb1d0603aeb9dad4870eba4498c6d50e4a4a8de7238bc8301e6f", func := "loop.example/ringoverlay/laws.FnCacheOthers", spec := "fnCacheOthers", inPlace := ["slices.overlaps[loop.example/ringoverlay/impl.Entry]"], unfollowed := true, recurses := true, apart := false, narrowed := true }
def FnCacheOthersUptoSaid : Prop := fnCacheOthersUptoRow.holds Try.pinned (OpenSpec.upto fnCacheOthersSpec)

/-- 'laws.FnCachePutTwice', WHERE WHAT IT READS IS OF BULK AT MOST 1048576: true; the input reads as it did. -/
def fnCachePutTwiceUptoRow : OpenClaim := { program := "ytcahemedlmagdaa", sum := "b3b6b98bc355bb1d0603aeb9dad4870eba4498c6d50e4a4a8de7238bc8301e6f", func := "loop.example/ringoverlay/laws.FnCachePutTwice", spec := "fnCachePutTwice", inPlace := ["slices.overlaps[loop.example/ringoverlay/impl.Entry]"], unfollowed := true, recurses := true, apart := false, narrowed := true }
def FnCachePutTwiceUptoSaid : Prop := fnCachePutTwiceUptoRow.holds Try.pinned (OpenSpec.upto fnCachePutTwiceSpec)

/-- 'laws.FnExactCachePut', WHERE WHAT IT READS IS OF BULK AT MOST 1048576: true; the input reads as it did. -/
def fnExactCachePutUptoRow : OpenClaim := { program := "ytcahemedlmagdaa", sum := "b3b6b98bc355bb1d0603aeb9dad4870eba4498c6d50e4a4a8de7238bc8301e6f", func := "loop.example/ringoverlay/laws.FnExactCachePut", spec := "fnExactCachePut", inPlace := ["slices.overlaps[loop.example/ringoverlay/impl.Entry]"], unfollowed := true, recurses := true, apart := false, narrowed := true }
def FnExactCachePutUptoSaid : Prop := fnExactCachePutUptoRow.holds Try.pinned (OpenSpec.upto fnExactCachePutSpec)

/-- 'laws.FnCacheSize', WHERE WHAT IT READS IS OF BULK AT MOST 1048576: true; the input reads as it did. -/
def fnCacheSizeUptoRow : OpenClaim := { program := "ytcahemedlmagdaa", sum := "b3b6b98bc355bb1d0603aeb9dad4870eba4498c6d50e4a4a8de7238bc8301e6f", func := "loop.example/ringoverlay/laws.FnCacheSize", spec := "fnCacheSize", inPlace := ["slices.overlaps[loop.example/ringoverlay/impl.Entry]"], unfollowed := true, recurses := true, apart := false, narrowed := true }
def FnCacheSizeUptoSaid : Prop := fnCacheSizeUptoRow.holds Try.pinned (OpenSpec.upto fnCacheSizeSpec)

/-- 'laws.FnCacheLife', WHERE WHAT IT READS IS OF BULK AT MOST 1048576: true; the input reads as it did. -/
def fnCacheLifeUptoRow : OpenClaim := { program := "ytcahemedlmagdaa", sum := "b3b6b98bc355bb1d0603aeb9dad4870eba4498c6d50e4a4a8de7238bc8301e6f", func := "loop.example/ringoverlay/laws.FnCacheLife", spec := "fnCacheLife", inPlace := ["slices.overlaps[loop.example/ringoverlay/impl.Entry]"], unfollowed := true, recurses := true, apart := false, narrowed := true }
def FnCacheLifeUptoSaid : Prop := fnCacheLifeUptoRow.holds Try.pinned (OpenSpec.upto fnCacheLifeSpec)

/-- 'laws.FnCachePut', WHERE WHAT IT READS IS OF BULK AT MOST 1048576: true; the input reads as it did. -/
def fnCachePutUptoRow : OpenClaim := { program := "ytcahemedlmagdaa", sum := "b3b6b98bc355bb1d0603aeb9dad4870eba4498c6d50e4a4a8de7238bc8301e6f", func := "loop.example/ringoverlay/laws.FnCachePut", spec := "fnCachePut", inPlace := ["slices.overlaps[loop.example/ringoverlay/impl.Entry]"], unfollowed := true, recurses := true, apart := false, narrowed := true }
def FnCachePutUptoSaid : Prop := fnCachePutUptoRow.holds Try.pinned (OpenSpec.upto fnCachePutSpec)

/-- 'laws.FnCacheReplace', WHERE WHAT IT READS IS OF BULK AT MOST 1048576: true; the input reads as it did. -/
def fnCacheReplaceUptoRow : OpenClaim := { program := "ytcahemedlmagdaa", sum := "b3b6b98bc355bb1d0603aeb9dad4870eba4498c6d50e4a4a8de7238bc8301e6f", func := "loop.example/ringoverlay/laws.FnCacheReplace", spec := "fnCacheReplace", inPlace := ["slices.overlaps[loop.example/ringoverlay/impl.Entry]"], unfollowed := true, recurses := true, apart := false, narrowed := true }
def FnCacheReplaceUptoSaid : Prop := fnCacheReplaceUptoRow.holds Try.pinned (OpenSpec.upto fnCacheReplaceSpec)

end Rows
end Go.Proofs.Ytcahemedlmagdaa
