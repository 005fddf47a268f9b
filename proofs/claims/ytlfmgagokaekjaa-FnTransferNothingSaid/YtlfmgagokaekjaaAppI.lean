/- Appends of rows of the call's own to such rows, numbers; results of which the last is a cell. -/
import Derived.Test.YtlfmgagokaekjaaCopyOwn
import Derived.Test.YtlfmgagokaekjaaDrawItems
import Derived.Deep.RegionLaw
namespace Go.Proofs.Ytlfmgagokaekjaa
open Go.RowKit
set_option linter.unusedVariables false
set_option linter.unusedSimpArgs false

theorem own_app2 {w1 : World} {B : Nat} {v' : Value} {xs ys : List Int} {n m : Nat} (h : w1.ownsRow B 3 1 v' n (ints xs ++ ints ys)) (hn : n = xs.length + ys.length) : OwnInts w1 B v' (xs ++ ys) := by
  subst hn; unfold OwnInts; simpa [ints_append] using h
theorem ownLen {w : World} {B : Nat} {a : Option Addr} {n cap : Nat} {xs : List Int} (h : OwnInts w B (.slice a n cap) xs) : n = xs.length := h.len

theorem wpList_appI {ops : Array Oper} {rest : List Oper} {o : Oper} {a : Act} {Q : Exit → Act → World → Prop} (w : World) (hgd : o.guard = none) (s x : Operand)
    (ho : o.op = .call { callee := .builtin .append, args := #[s, x], argTypes := #[23, 23] })
    (B : Nat) (v : Value) (xs : List Int) (hs : a.eval s = v) (hown : OwnInts w B v xs) (B' : Nat) (u : Value) (ys : List Int) (hx : a.eval x = u) (ob : OwnInts w B' u ys) (hl : xs.length + ys.length ≤ 4194304) (hB : B ≤ w.heap.size) (hv : v ≠ .slice none 0 0)
    (h : ∀ v' w', OwnInts w' B v' (xs ++ ys) → w.grownBy w' v.ownBlock → v' ≠ .slice none 0 0 → wpList Try.prog ops Q rest (a.put o.dst v') w') :
    wpList Try.prog ops Q (o :: rest) a w := by
  obtain ⟨i0, hi0, hz0, hz1, hz2⟩ := info_parts infoInt
  rcases ownsRow_shape ob with ⟨rfl, hn0⟩ | ⟨g, capb, rfl, hB', hgl, hn, hc⟩
  · have hy : ys = [] := by
      have := ob.reads.nil.1
      exact this
    subst hy
    rcases ownsRow_shape hown with ⟨rfl, _⟩ | ⟨g, cap, rfl, _⟩
    · exact absurd rfl hv
    exact wpList_append_own_none hgd s x 23 ho B 3 i0 1 Try.underlying23 hi0 _ xs.length (ints xs) hs hown hx (h _ _ (by simpa using hown) (grown_refl _ _) (by simp))
  · refine wpList_append_own w hgd s x 23 ho B 3 i0 (.int .i64 0) 1 8 Try.underlying23 hi0 hz0 hz1 hz2 rfl (by decide) v xs.length (ints xs) hs hown ⟨g, 0, none⟩ ys.length capb (ints ys) hx (by simp) (fun j u hj => (ob.reads.addr.2 j u hj).2) (ints_oneCell _) (by unfold maxLen; omega) (by omega) hB ?_
    intro v' w9 h1 h2 h3
    exact h v' w9 (own_app2 (m := 0) h1 rfl) h2 (fun hn => by have := (h3.1 hn).1; exact hv this)

theorem step_appI {ops : Array Oper} {o : Oper} {a : Act} {w : World} {K : Act → World → Prop} {Q : Exit → Act → World → Prop} {E : Prop} (hgd : o.guard = none) (s x : Operand)
    (ho : o.op = .call { callee := .builtin .append, args := #[s, x], argTypes := #[23, 23] })
    (B : Nat) (v : Value) (xs : List Int) (hs : a.eval s = v) (hown : OwnInts w B v xs) (ad : Addr) (m c : Nat) (ys : List Int) (hx : a.eval x = .slice (some ad) m c) (hu : RInts w (.slice (some ad) m c) ys) (hl : xs.length + ys.length ≤ 4194304) (hB : B ≤ w.heap.size) (hv : v ≠ .slice none 0 0)
    (h : ∀ v' w', OwnInts w' B v' (xs ++ ys) → w.grownBy w' v.ownBlock → v' ≠ .slice none 0 0 → K (a.put o.dst v') w') :
    if Region.wanted o (yielded ops a.tmps) = true then Oper.wp Try.prog o a w K Q else E := by
  obtain ⟨i0, hi0, hz0, hz1, hz2⟩ := info_parts infoInt
  have hw : Region.wanted o (yielded ops a.tmps) = true := by simp [Region.wanted, hgd]
  rw [if_pos hw]
  obtain ⟨hm, hcell⟩ := hu.addr
  subst hm
  refine wp_append_own w s x 23 ho B 3 i0 (.int .i64 0) 1 8 Try.underlying23 hi0 hz0 hz1 hz2 rfl (by decide) v xs.length (ints xs) hs hown ad ys.length c (ints ys) hx (by simp) (fun j u hj => (hcell j u hj).2) (ints_oneCell _) (by unfold maxLen; omega) (by omega) hB ?_
  intro v' w9 h1 h2 h3
  exact h v' w9 (own_app2 (m := 0) h1 rfl) h2 (fun hn => by have := (h3.1 hn).1; exact hv this)

theorem RInts.one (w : World) (z : Int) {cs : Array Value} {t : TypeId} {g : Nat} (hg : g = w.heap.size) (hc : cs = #[.int .i64 z]) : RInts (w.alloc (.cells cs t)) (.slice (some ⟨g, 0, none⟩) 1 1) [z] := by
  subst hg hc
  refine ⟨_, 1, rfl, by simp, by unfold maxLen; omega, fun i hi => ⟨w.heap.size, 0, rfl, by simp, ?_⟩⟩
  have : i = 0 := by simp at hi; omega
  subst this
  simp

/-- A call of a Go function by its contract, inside a region that draws its order. -/
theorem step_call {P : Program} {ops : Array Oper} {o : Oper} {a : Act} {w : World} {K : Act → World → Prop} {Q : Exit → Act → World → Prop} {E : Prop} {f : FuncId} {args : Array Value} {R : Ending → World → Prop} (hgd : o.guard = none)
    (hr : (execOp a.eval o).run P w = .ok (.enter f args) w) (hc : Calls P f args w R)
    (h : ∀ e w', R e w' → ∃ v, e = .returned v ∧ K (a.put o.dst v) w') : if Region.wanted o (yielded ops a.tmps) = true then Oper.wp P o a w K Q else E := by
  have hw : Region.wanted o (yielded ops a.tmps) = true := by simp [Region.wanted, hgd]
  rw [if_pos hw, Oper.wp, hr, Oper.upon_enter]
  refine hc.mono ?_
  rintro e w' hR
  obtain ⟨v, rfl, hK⟩ := h e w' hR
  exact hK

theorem results_tmp_cellrow {P : Program} {fn : Func} {p u : Tmp} {ty : TypeId} (h : fn.results = #[.tmp u, .cell p ty]) (tmps : Array Value) (w : World) (g : Nat) (t : TypeId) (cs : Array Value) (fr : Nat × Nat) (d : TypeDesc)
    (hp : tmps.getD p undef = .pointer (some ⟨g, 0, none⟩)) (hg : w.heap[g]? = some (.cells cs t fr)) (hu : P.underlying ty = some d) (hd : (match d with | .struct _ | .array _ _ => true | _ => false) = true) (hi : (P.info? ty).map (·.size) = some cs.size) :
    (results fn tmps).run P w = .ok (.tuple #[tmps.getD u undef, .agg cs]) w := by
  have hp' : tmps[p]?.getD undef = .pointer (some ⟨g, 0, none⟩) := by simpa using hp
  simp [results, h, hp', asAddr, run_loadVar_row w g t ty cs fr d hg hu hd hi]
end Go.Proofs.Ytlfmgagokaekjaa
