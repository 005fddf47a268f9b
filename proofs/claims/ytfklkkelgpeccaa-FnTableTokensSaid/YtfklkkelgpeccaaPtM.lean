/- A map from int to int, as a function; its sorted keys. -/
import Derived.Test.YtfklkkelgpeccaaMapShelf
namespace Go.Proofs.Ytfklkkelgpeccaa
open Go.RowKit Go.Maps
set_option linter.unusedVariables false
set_option linter.unusedSimpArgs false

theorem keyedI : Keyed Try.prog 3 := int_keyed Try.underlying3
theorem zeroI (w : World) : (zeroValue 3).run Try.prog w = .ok (.int .i64 0) w := by kernel_rfl
def i64d (c : Int) : DataW Unit := .lit (.int .i64 c)
theorem keyLit (x : Int) : WideAt.IsKeyLit (Lit.int .i64 x) := by simp [WideAt.IsKeyLit]
/-- Block b is a map that holds f and nothing else. -/
def MapIs (w : World) (b n : Nat) (f : Int → Option Int) : Prop :=
  ∃ D : DataW Unit, w.ownsMap Try.prog 3 (plainElem Try.prog 3) b n D ∧ (∀ x, has D (.int .i64 x) = (f x).isSome) ∧ ∀ x c, f x = some c → ∀ z, D.atKey (.int .i64 x) z = i64d c
theorem MapIs.made (w : World) : MapIs (w.alloc (.map #[] 0)) w.heap.size 0 (fun _ => none) :=
  ⟨.map [], World.ownsMap_made _ _ _ _, fun _ => rfl, fun x c h => by cases h⟩
theorem MapIs.lt {w : World} {b n : Nat} {f : Int → Option Int} (h : MapIs w b n f) : b < w.heap.size := by obtain ⟨D, h, -⟩ := h; exact h.lt
theorem MapIs.gr {w w' : World} {row : Option Nat} {b n : Nat} {f : Int → Option Int} (h : MapIs w b n f) (hg : w.grownBy w' row) (hne : some b ≠ row) : MapIs w' b n f := by
  obtain ⟨D, h, h1⟩ := h; exact ⟨D, h.kept hg hne, h1⟩
theorem MapIs.al {w : World} {b n : Nat} {f : Int → Option Int} (h : MapIs w b n f) (o : Obj) : MapIs (w.alloc o) b n f := by
  obtain ⟨D, h, h1⟩ := h; exact ⟨D, h.alloc o, h1⟩
theorem MapIs.bl {w w' : World} {S b n : Nat} {f : Int → Option Int} (h : MapIs w b n f) (hS : b < S) (hb : Below S w w') : MapIs w' b n f := by
  obtain ⟨D, ⟨es, clock, h1, h2⟩, h3⟩ := h
  exact ⟨D, ⟨es, clock, (hb.block b hS).trans h1, h2⟩, h3⟩
theorem MapIs.put {w' : World} {b n : Nat} {f : Int → Option Int} {D : DataW Unit} {x c : Int} (h : w'.ownsMap Try.prog 3 (plainElem Try.prog 3) b n (D.put (.int .i64 x) (i64d c))) (hm : IsMap D)
    (h1 : ∀ x, has D (.int .i64 x) = (f x).isSome) (h2 : ∀ x c, f x = some c → ∀ z, D.atKey (.int .i64 x) z = i64d c) : MapIs w' b n (fun y => if y = x then some c else f y) := by
  refine ⟨_, h, fun y => ?_, fun y d hy z => ?_⟩
  · by_cases e : y = x
    · subst e; rw [has_put_same hm (keyLit _)]; simp
    · rw [has_put_other (by simpa using e), h1]; simp [e]
  · by_cases e : y = x
    · subst e; rw [atKey_put_same hm (keyLit _)]; simp at hy; rw [hy]
    · rw [atKey_put_other (by simpa using e)]; simp [e] at hy; exact h2 y d hy z
theorem MapIs.congr {w : World} {b n : Nat} {f g : Int → Option Int} (h : MapIs w b n f) (e : ∀ x, f x = g x) : MapIs w b n g := by
  have : f = g := funext e
  exact this ▸ h
theorem MapIs.mono {w : World} {b n m : Nat} {f : Int → Option Int} (h : MapIs w b n f) (hn : n ≤ m) : MapIs w b m f := by
  obtain ⟨D, h, h1⟩ := h; exact ⟨D, h.mono hn, h1⟩

/-- The keys in their order. -/
def keys64 (f : Int → Option Int) (p : Nat) : List Int := ((List.range p).map fun (i : Nat) => (i : Int)).filter fun x => (f x).isSome
theorem sorted_keys {w : World} {b n : Nat} {D : DataW Unit} {f : Int → Option Int} (h : w.ownsMap Try.prog 3 (plainElem Try.prog 3) b n D) (h1 : ∀ x, has D (.int .i64 x) = (f x).isSome) (hf : ∀ x, (f x).isSome = true → 0 ≤ x ∧ x < 64)
    {ss : List Int} (hp : ss.Perm (intKeys D)) : ss.mergeSort (fun x y => decide (x ≤ y)) = keys64 f 64 := by
  obtain ⟨es, hD, hpw, _⟩ := h.entries keyedI
  obtain ⟨es', hD', hko⟩ := h.keysOf
  obtain rfl : es = es' := by rw [hD] at hD'; simpa using hD'
  subst hD
  have hk : ∀ p ∈ es, ∃ x, p.1 = Lit.int .i64 x := fun p hp => by obtain ⟨v, hv⟩ := hko p hp; obtain ⟨x, _, hx, _⟩ := Maps.keyOf_i64 Try.underlying3 hv; exact ⟨x, hx⟩
  have hr : ((List.range 64).map fun (i : Nat) => (i : Int)).Nodup := List.pairwise_map.2 (List.nodup_range.imp (fun h e => h (by omega)))
  have hkp : (keys64 f 64).Perm (intKeys (.map es)) := by
    refine perm_intKeys hpw hk (hr.filter _) (fun x => ?_)
    rw [h1]
    unfold keys64
    rw [List.mem_filter, List.mem_map]
    constructor
    · exact fun h => h.2
    · intro h
      have := hf x h
      exact ⟨⟨x.toNat, by simp; omega, by omega⟩, h⟩
  rw [show (fun x y : Int => decide (x ≤ y)) = leI from rfl, mergeSort_of_perm_i (hp.trans hkp.symm)]
  refine List.mergeSort_of_pairwise ?_
  unfold keys64
  refine List.Pairwise.filter _ (List.pairwise_map.2 (List.pairwise_lt_range.imp (fun h => ?_)))
  simp only [leI, decide_eq_true_eq]; omega
theorem tabTo_keys (l : List (Int × Nat)) (p : Nat) : tabTo l p = (keys64 (fun x => ownFrom x l) p).map fun x => (x, (ownFrom x l).getD 0) := by
  induction p with
  | zero => rfl
  | succ p ih =>
    unfold keys64 at ih ⊢
    rw [tabTo, ih, List.range_succ, List.map_append, List.filter_append, List.map_append]
    congr 1
    unfold lastL
    cases h : ownFrom (p : Int) l with
    | none => simp [h]
    | some n => simp [h]
theorem ownFrom_snoc (x : Int) (n : Int) (k : Nat) : ∀ l : List (Int × Nat), ownFrom x (l ++ [(n, k)]) = (ownFrom x l).or (if tokP x n k then some n else none)
  | [] => by simp [ownFrom]
  | (m, j) :: l => by
    rw [List.cons_append, ownFrom, ownFrom]
    split
    · rfl
    · exact ownFrom_snoc x n k l
theorem tok_range (n : Int) (i : Int) : 0 ≤ tok n i ∧ tok n i < 64 := by unfold tok; omega
theorem ownFrom_range (x : Int) : ∀ l : List (Int × Nat), (ownFrom x l).isSome = true → 0 ≤ x ∧ x < 64
  | [], h => by cases h
  | (n, k) :: l, h => by
    rw [ownFrom] at h
    split at h
    · rename_i ht
      unfold tokP toks at ht
      rw [List.any_eq_true] at ht
      obtain ⟨y, hy, hx⟩ := ht
      obtain ⟨i, -, rfl⟩ := List.mem_map.1 hy
      have := tok_range n i
      simp at hx
      omega
    · exact ownFrom_range x l h
/-- While a node's tokens are laid. -/
def ownK (P : List (Int × Nat)) (m : Nat) (nd : Int) (t : Nat) (x : Int) : Option Int := (ownFrom x (P.take m)).or (if tokP x nd t then some nd else none)
theorem ownK_zero (P : List (Int × Nat)) (m : Nat) (nd : Int) (x : Int) : ownK P m nd 0 x = ownFrom x (P.take m) := by simp [ownK, tokP, toks]
theorem ownK_end (P : List (Int × Nat)) (m : Nat) (nd : Int) (K : Nat) (h : m < P.length) (e : P[m] = (nd, K)) (x : Int) : ownK P m nd K x = ownFrom x (P.take (m + 1)) := by
  rw [List.take_succ_eq_append_getElem h, e, ownFrom_snoc]; rfl
theorem ownK_taken {P : List (Int × Nat)} {m : Nat} {nd : Int} {t : Nat} (h : (ownK P m nd t (tok nd t)).isSome = true) (x : Int) : ownK P m nd t x = ownK P m nd (t + 1) x := by
  unfold ownK at h ⊢
  rw [tokP_succ]
  by_cases e : tok nd t = x
  · subst e
    cases h1 : ownFrom (tok nd t) (P.take m) with
    | some c => rfl
    | none =>
      rw [h1] at h
      cases h2 : tokP (tok nd t) nd t with
      | true => simp
      | false => rw [h2] at h; cases h
  · simp [e]
theorem ownK_put {P : List (Int × Nat)} {m : Nat} {nd : Int} {t : Nat} (h : (ownK P m nd t (tok nd t)).isSome = false) (x : Int) : (if x = tok nd t then some nd else ownK P m nd t x) = ownK P m nd (t + 1) x := by
  unfold ownK at h ⊢
  rw [tokP_succ]
  by_cases e : x = tok nd t
  · subst e
    cases h1 : ownFrom (tok nd t) (P.take m) with
    | some c => rw [h1] at h; cases h
    | none => simp
  · have : ¬ tok nd t = x := fun h => e h.symm
    simp [e, this]
theorem wf_small {x : Int} (h : -9223372036854775808 ≤ x) (h2 : x ≤ 9223372036854775807) : (Lit.int .i64 x).wf = true := by
  simp [Lit.wf, IntKind.min, IntKind.max, IntKind.signed, IntKind.bits]; omega
end Go.Proofs.Ytfklkkelgpeccaa
