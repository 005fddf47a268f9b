/- A region that draws its order, by facts: for each operation one step, whatever has come up before it. No program in sight. -/
import Derived.Orders
import Derived.RowKit
namespace Go.Proofs.Ythgekfiodedelaa
open Go
set_option linter.unusedVariables false
set_option linter.unusedSimpArgs false

def dstsOf (l : List Oper) : List Tmp := l.filterMap (·.dst)
def dstAt (l : List Oper) (k : Nat) : Option Tmp := (l[k]?).bind (·.dst)
def edgesOf (o : Oper) : List Nat := (o.after.toList.filter (Region.binds .any)).map (·.on)
def regL (L : Nat → Bool) (i : Nat) : Nat → Bool := fun j => if j = i then true else L j
def setV (vs : Nat → Value) (i : Nat) (v : Value) : Nat → Value := fun j => if j = i then v else vs j

def putAll (vs : Nat → Value) : List Oper → Nat → Act → Act
  | [], _, a => a
  | o :: l, k, a => putAll vs l (k + 1) (a.put o.dst (vs k))
def putSome (vs : Nat → Value) (L : Nat → Bool) : List Oper → Nat → Act → Act
  | [], _, a => a
  | o :: l, k, a => putSome vs L l (k + 1) (if L k = true then a.put o.dst (vs k) else a)

theorem putSome_none (vs : Nat → Value) (L : Nat → Bool) : ∀ (l : List Oper) (k : Nat) (a : Act), (∀ j, L j = false) → putSome vs L l k a = a
  | [], _, _, _ => rfl
  | o :: l, k, a, h => by rw [putSome, h k]; exact putSome_none vs L l (k + 1) a h
theorem putSome_all (vs : Nat → Value) (L : Nat → Bool) : ∀ (l : List Oper) (k : Nat) (a : Act), (∀ j, k ≤ j → j < k + l.length → L j = true) → putSome vs L l k a = putAll vs l k a
  | [], _, _, _ => rfl
  | o :: l, k, a, h => by
    rw [putSome, putAll, h k (Nat.le_refl _) (by simp), if_pos rfl]
    exact putSome_all vs L l (k + 1) _ (fun j h1 h2 => h j (by omega) (by simp at *; omega))
theorem putSome_congr (vs vs' : Nat → Value) (L L' : Nat → Bool) : ∀ (l : List Oper) (k : Nat) (a : Act), (∀ j, k ≤ j → vs j = vs' j ∧ L j = L' j) → putSome vs L l k a = putSome vs' L' l k a
  | [], _, _, _ => rfl
  | o :: l, k, a, h => by
    rw [putSome, putSome, (h k (Nat.le_refl _)).1, (h k (Nat.le_refl _)).2]
    exact putSome_congr vs vs' L L' l (k + 1) _ (fun j hj => h j (by omega))
theorem putSome_put (vs : Nat → Value) (L : Nat → Bool) (x : Option Tmp) (v : Value) : ∀ (l : List Oper) (k : Nat) (a : Act), (∀ d, x = some d → d ∉ dstsOf l) → putSome vs L l k (a.put x v) = (putSome vs L l k a).put x v
  | [], _, _, _ => rfl
  | o :: l, k, a, h => by
    rw [putSome, putSome]
    have h1 : ∀ d, x = some d → o.dst ≠ some d := fun d hd he => h d hd (by simp [dstsOf, he])
    have h2 : ∀ d, x = some d → d ∉ dstsOf l := fun d hd he => h d hd (by
      unfold dstsOf at *; rw [List.filterMap_cons]; split
      · exact he
      · exact List.mem_cons_of_mem _ he)
    split
    · rw [Act.put_comm a v (vs k) h1]
      exact putSome_put vs L x v l (k + 1) _ h2
    · exact putSome_put vs L x v l (k + 1) _ h2
theorem putSome_set (vs : Nat → Value) (L : Nat → Bool) (v : Value) : ∀ (l : List Oper) (k i : Nat) (a : Act) (o : Oper), l[i]? = some o → L (k + i) = false → (dstsOf l).Nodup →
    putSome (setV vs (k + i) v) (regL L (k + i)) l k a = (putSome vs L l k a).put o.dst v
  | [], _, _, _, _, h, _, _ => by simp at h
  | o' :: l, k, 0, a, o, h, hL, hn => by
    simp only [List.getElem?_cons_zero, Option.some.injEq] at h
    subst h
    have hd : ∀ d, o'.dst = some d → d ∉ dstsOf l := fun d he => by
      unfold dstsOf at *; rw [List.filterMap_cons, he] at hn; exact (List.nodup_cons.1 hn).1
    rw [putSome, putSome]
    simp only [Nat.add_zero] at *
    rw [hL]
    have e1 : regL L k k = true := by simp [regL]
    have e2 : setV vs k v k = v := by simp [setV]
    rw [e1, e2]
    simp only [if_true, Bool.false_eq_true, if_false]
    rw [putSome_congr (setV vs k v) vs (regL L k) L l (k + 1) _ (fun j hj => by simp only [setV, regL]; constructor <;> rw [if_neg (by omega)])]
    exact putSome_put vs L _ v l (k + 1) a hd
  | o' :: l, k, i + 1, a, o, h, hL, hn => by
    simp only [List.getElem?_cons_succ] at h
    have hn' : (dstsOf l).Nodup := by
      unfold dstsOf at *; rw [List.filterMap_cons] at hn
      split at hn
      · exact hn
      · exact (List.nodup_cons.1 hn).2
    rw [putSome, putSome]
    have e1 : regL L (k + (i + 1)) k = L k := by simp only [regL]; rw [if_neg (by omega)]
    have e2 : setV vs (k + (i + 1)) v k = vs k := by simp only [setV]; rw [if_neg (by omega)]
    rw [e1, e2]
    have := putSome_set vs L v l (k + 1) i (if L k = true then a.put o'.dst (vs k) else a) o h (by rw [← hL]; congr 1; omega) hn'
    rw [show k + (i + 1) = k + 1 + i by omega]
    exact this

/-- The marks fit: no two operations write one slot, each writes within the frame, waits for earlier ones alone; D i: operations that have come up whenever i may. -/
def factsB (l : List Oper) (D : List (List Nat)) (n : Nat) : Bool :=
  decide (dstsOf l).Nodup && (dstsOf l).all (fun d => decide (d < n)) &&
  (List.range l.length).all (fun i => match l[i]? with
    | some o => (edgesOf o).all (fun k => decide (k < i)) && (D.getD i []).all (fun k => (edgesOf o).any (fun e => e == k || (D.getD e []).contains k))
    | none => true)

def allFrom (S : Nat → Oper → Prop) : List Oper → Nat → Prop
  | [], _ => True
  | o :: l, k => S k o ∧ allFrom S l (k + 1)
theorem allFrom_get {S : Nat → Oper → Prop} : ∀ (l : List Oper) (k : Nat), allFrom S l k → ∀ i o, l[i]? = some o → S (k + i) o
  | [], _, _, i, o, h => by simp at h
  | o' :: l, k, h, 0, o, ho => by simp at ho; subst ho; exact h.1
  | o' :: l, k, h, i + 1, o, ho => by
    have := allFrom_get l (k + 1) h.2 i o (by simpa using ho)
    rwa [show k + (i + 1) = k + 1 + i by omega]

/-- What is to be shown of one operation. -/
def FactStep (P : Program) (l : List Oper) (D : List (List Nat)) (Q : Exit → Act → World → Prop) (W : (Nat → Bool) → World → Prop) (G : Nat → Value → World → Prop) (R : World → World → Prop) (a0 : Act) (i : Nat) (o : Oper) : Prop :=
  ∀ (a : Act) (w : World) (vs : Nat → Value) (L : Nat → Bool), W L w → L i = false → (∀ j, i ∈ D.getD j [] → L j = false) → (∀ t, t ∉ dstsOf l → a.tmps[t]? = a0.tmps[t]?) →
    (∀ k, k ∈ D.getD i [] → L k = true ∧ G k (vs k) w) → (∀ k d, k ∈ D.getD i [] → dstAt l k = some d → a.tmps[d]? = some (vs k)) →
    ∀ K : Act → World → Prop, (∀ v w', W (regL L i) w' → R w w' → G i v w' → K (a.put o.dst v) w') →
    if Region.wanted o (yielded l.toArray a.tmps) = true then o.wp P a w K Q else K (a.put o.dst undef) w

structure FactInv (l : List Oper) (D : List (List Nat)) (W : (Nat → Bool) → World → Prop) (G : Nat → Value → World → Prop) (a0 : Act) (listed : Array Bool) (a : Act) (w : World) (vs : Nat → Value) : Prop where
  size : listed.size = l.length
  tsize : a.tmps.size = a0.tmps.size
  eq : a = putSome vs (fun k => listed.getD k false) l 0 a0
  W : W (fun k => listed.getD k false) w
  G : ∀ k, listed.getD k false = true → G k (vs k) w
  dst : ∀ k d, listed.getD k false = true → dstAt l k = some d → a.tmps[d]? = some (vs k)
  other : ∀ t, t ∉ dstsOf l → a.tmps[t]? = a0.tmps[t]?
  closed : ∀ i, listed.getD i false = true → ∀ k, k ∈ D.getD i [] → listed.getD k false = true

theorem getD_tf {listed : Array Bool} {i : Nat} (h : i < listed.size) : listed.getD i true = listed.getD i false := by
  simp [h]
theorem getD_set {listed : Array Bool} {i : Nat} (h : i < listed.size) : (fun k => (listed.setIfInBounds i true).getD k false) = regL (fun k => listed.getD k false) i := by
  funext k
  simp only [regL]
  by_cases e : k = i
  · subst e; simp [h]
  · rw [if_neg e, getD_set_ne false (Ne.symm e)]

theorem dstsOf_mem {l : List Oper} {k : Nat} {d : Tmp} (h : dstAt l k = some d) : d ∈ dstsOf l := by
  unfold dstAt at h
  cases ho : l[k]? with
  | none => simp [ho] at h
  | some o =>
    simp [ho] at h
    exact List.mem_filterMap.2 ⟨o, List.mem_of_getElem? ho, h⟩
theorem dstAt_inj {d : Tmp} : ∀ (l : List Oper) (i k : Nat), (dstsOf l).Nodup → dstAt l i = some d → dstAt l k = some d → i = k
  | [], _, _, _, h, _ => by simp [dstAt] at h
  | o :: l, 0, 0, _, _, _ => rfl
  | o :: l, 0, k + 1, hn, h, h' => by
    have h0 : o.dst = some d := by simpa [dstAt] using h
    have h1 : dstAt l k = some d := by simpa [dstAt] using h'
    unfold dstsOf at hn; rw [List.filterMap_cons, h0] at hn
    exact absurd (dstsOf_mem h1) (List.nodup_cons.1 hn).1
  | o :: l, i + 1, 0, hn, h, h' => by
    have h0 : o.dst = some d := by simpa [dstAt] using h'
    have h1 : dstAt l i = some d := by simpa [dstAt] using h
    unfold dstsOf at hn; rw [List.filterMap_cons, h0] at hn
    exact absurd (dstsOf_mem h1) (List.nodup_cons.1 hn).1
  | o :: l, i + 1, k + 1, hn, h, h' => by
    have hn' : (dstsOf l).Nodup := by
      unfold dstsOf at *; rw [List.filterMap_cons] at hn
      split at hn
      · exact hn
      · exact (List.nodup_cons.1 hn).2
    rw [dstAt_inj l i k hn' (by simpa [dstAt] using h) (by simpa [dstAt] using h')]

theorem countP_set_lt {l : List Bool} {i : Nat} (h : l[i]? = some false) : ((l.set i true).countP (· == false)) + 1 = l.countP (· == false) := by
  induction l generalizing i with
  | nil => simp at h
  | cons b l ih =>
    cases i with
    | zero => simp at h; subst h; simp
    | succ i =>
      simp at h
      have := ih h
      simp only [List.set_cons_succ, List.countP_cons]
      omega

theorem wpAny_of_facts {P : Program} {l : List Oper} {D : List (List Nat)} {Q : Exit → Act → World → Prop} {W : (Nat → Bool) → World → Prop} {G : Nat → Value → World → Prop} {R : World → World → Prop} {a0 : Act}
    (hB : factsB l D a0.tmps.size = true) (hG : ∀ k u w w', R w w' → G k u w → G k u w')
    (hstep : allFrom (FactStep P l D Q W G R a0) l 0)
    (hend : ∀ vs w, W (fun k => decide (k < l.length)) w → (∀ k, k < l.length → G k (vs k) w) → Q .normal (putAll vs l 0 a0) w) :
    ∀ (fuel : Nat) (listed : Array Bool) (a : Act) (w : World) (vs : Nat → Value), FactInv l D W G a0 listed a w vs → listed.toList.countP (· == false) ≤ fuel → wpAny P .any l.toArray Q fuel listed a w := by
  simp only [factsB, Bool.and_eq_true, decide_eq_true_eq, List.all_eq_true, List.mem_range] at hB
  obtain ⟨⟨hnd, hlt⟩, hed⟩ := hB
  have hdone : ∀ (listed : Array Bool) (a : Act) (w : World) (vs : Nat → Value), FactInv l D W G a0 listed a w vs → (∀ i, i < l.length → listed.getD i false = true) → Q .normal a w := by
    intro listed a w vs I hall
    have eL : (fun k => listed.getD k false) = (fun k => decide (k < l.length)) := by
      funext k
      by_cases hk : k < l.length
      · rw [hall k hk]; simp [hk]
      · have : listed.size ≤ k := by have := I.size; omega
        simp [hk, Array.getElem?_eq_none this]
    have h := hend vs w (by rw [← eL]; exact I.W) (fun k hk => I.G k (hall k hk))
    rw [I.eq, putSome_all _ _ l 0 a0 (fun j _ hj => hall j (by simpa using hj))]
    exact h
  have hready : ∀ (listed : Array Bool), listed.size = l.length → Region.ready .any l.toArray listed = [] → ∀ i, i < l.length → listed.getD i false = true := by
    intro listed hs h0 i
    induction i using Nat.strongRecOn with
    | ind i ih =>
      intro hi
      by_cases e : listed.getD i false = true
      · exact e
      · exfalso
        have hm : i ∈ Region.ready .any l.toArray listed := by
          rw [mem_ready]
          refine ⟨by rw [getD_tf (by omega)]; simpa using e, l[i], by simp [hi], ?_⟩
          intro ed hed' hb
          have h1 := hed i hi
          rw [List.getElem?_eq_getElem hi] at h1
          simp only [Bool.and_eq_true, List.all_eq_true, decide_eq_true_eq] at h1
          have h2 := h1.1 ed.on (by
            unfold edgesOf
            exact List.mem_map.2 ⟨ed, List.mem_filter.2 ⟨by simpa using hed', hb⟩, rfl⟩)
          exact ih ed.on h2 (by omega)
        rw [h0] at hm; cases hm
  intro fuel
  induction fuel with
  | zero =>
    intro listed a w vs I hc
    have hall : ∀ i, i < l.length → listed.getD i false = true := fun i hi => by
      have h0 : listed.toList.countP (· == false) = 0 := by omega
      rw [List.countP_eq_zero] at h0
      have hs := I.size
      have := h0 (listed[i]'(by omega)) (by simp)
      simp [show i < listed.size by omega] at this ⊢
      exact this
    refine ⟨?_, hdone _ _ _ _ I hall⟩
    rw [List.eq_nil_iff_forall_not_mem]
    intro i hi
    rw [mem_ready] at hi
    obtain ⟨h1, o, ho, -⟩ := hi
    have hi' : i < l.length := by
      have := (Array.getElem?_eq_some_iff.1 ho).1
      simpa using this
    rw [getD_tf (by have := I.size; omega), hall i hi'] at h1
    cases h1
  | succ fuel ih =>
    intro listed a w vs I hc
    refine ⟨fun h0 => hdone _ _ _ _ I (hready listed I.size h0), fun i hi => ?_⟩
    rw [mem_ready] at hi
    obtain ⟨h1, o, ho, hall⟩ := hi
    have hi' : i < l.length := by
      have := (Array.getElem?_eq_some_iff.1 ho).1
      simpa using this
    have hsz := I.size
    rw [getD_tf (by omega)] at h1
    have hol : l[i]? = some o := by simpa using ho
    have hE := hed i hi'
    rw [hol] at hE
    simp only [Bool.and_eq_true, List.all_eq_true, decide_eq_true_eq] at hE
    have hdep : ∀ k, k ∈ D.getD i [] → listed.getD k false = true := by
      intro k hk
      have h2 := hE.2 k hk
      rw [List.any_eq_true] at h2
      obtain ⟨e, he, h3⟩ := h2
      unfold edgesOf at he
      obtain ⟨ed, hed', rfl⟩ := List.mem_map.1 he
      obtain ⟨h4, h5⟩ := List.mem_filter.1 hed'
      have h6 := hall ed (by simpa using h4) h5
      simp only [Bool.or_eq_true, beq_iff_eq] at h3
      rcases h3 with h3 | h3
      · rw [← h3]; exact h6
      · exact I.closed ed.on h6 k (by simpa using h3)
    have hS := allFrom_get l 0 hstep i o hol
    rw [Nat.zero_add] at hS
    have hgoal := hS a w vs (fun k => listed.getD k false) I.W h1 (fun j hj => by
        cases hjl : listed.getD j false with
        | false => rfl
        | true => rw [I.closed j hjl i hj] at h1; cases h1) I.other (fun k hk => ⟨hdep k hk, I.G k (hdep k hk)⟩) (fun k d hk hd => I.dst k d (hdep k hk) hd)
      (wpAny P .any l.toArray Q fuel (listed.setIfInBounds i true)) (by
        intro v w' hW' hR hGv
        have hL := getD_set (listed := listed) (i := i) (by omega)
        have hLk : ∀ k, (listed.setIfInBounds i true).getD k false = regL (fun k => listed.getD k false) i k := fun k => congrFun hL k
        have hcnt : (listed.setIfInBounds i true).toList.countP (· == false) ≤ fuel := by
          have : listed.toList[i]? = some false := by
            have : i < listed.size := by omega
            simp [this] at h1 ⊢; exact h1
          have := countP_set_lt this
          rw [Array.toList_setIfInBounds]
          omega
        refine ih _ _ _ (setV vs i v) ⟨by simp [hsz], ?_, ?_, by rw [hL]; exact hW', ?_, ?_, ?_, ?_⟩ hcnt
        · rw [← I.tsize]; unfold Act.put; split <;> simp
        · rw [hL]
          have := putSome_set vs (fun k => listed.getD k false) v l 0 i a0 o hol (by simpa using h1) hnd
          rw [Nat.zero_add] at this
          rw [this, ← I.eq]
        · intro k hk
          rw [hLk] at hk
          unfold regL at hk; unfold setV
          by_cases e : k = i
          · subst e; rw [if_pos rfl]; exact hGv
          · rw [if_neg e] at hk ⊢; exact hG k _ w w' hR (I.G k hk)
        · intro k d hk hd
          rw [hLk] at hk
          unfold regL at hk; unfold setV
          by_cases e : k = i
          · subst e
            rw [if_pos rfl]
            have h7 : o.dst = some d := by simpa [dstAt, hol] using hd
            rw [h7]
            have h8 : d < a.tmps.size := by rw [I.tsize]; exact hlt d (dstsOf_mem hd)
            simp [Act.put, h8]
          · rw [if_neg e] at hk ⊢
            have h7 := I.dst k d hk hd
            unfold Act.put
            split
            · rename_i d' he
              have : d' ≠ d := fun h => by
                subst h
                exact e (dstAt_inj l k i hnd hd (by simp [dstAt, hol, he]))
              simp only
              rw [Array.getElem?_setIfInBounds_ne this]; exact h7
            · exact h7
        · intro t ht
          rw [← I.other t ht]
          unfold Act.put
          split
          · rename_i d' he
            have : d' ≠ t := fun h => by
              subst h
              exact ht (dstsOf_mem (k := i) (by simp [dstAt, hol, he]))
            simp only
            rw [Array.getElem?_setIfInBounds_ne this]
          · rfl
        · intro j hj k hk
          rw [hLk] at hj ⊢
          unfold regL at hj ⊢
          by_cases e : j = i
          · subst e
            by_cases e2 : k = j
            · rw [if_pos e2]
            · rw [if_neg e2]; exact hdep k hk
          · rw [if_neg e] at hj
            by_cases e2 : k = i
            · rw [if_pos e2]
            · rw [if_neg e2]; exact I.closed j hj k hk)
    unfold wpOp
    rw [ho]
    simp only
    split
    · rename_i hw
      rw [if_pos hw] at hgoal
      exact .inl hgoal
    · rename_i hw
      rw [if_neg hw] at hgoal
      exact hgoal

/-- A REGION THAT DRAWS ITS ORDER, BY FACTS. -/
theorem wp_region_facts {P : Program} {id : Nat} {l : List Oper} (D : List (List Nat)) {Q : Exit → Act → World → Prop} (W : (Nat → Bool) → World → Prop) (G : Nat → Value → World → Prop) (R : World → World → Prop) {a0 : Act} {w0 : World}
    (hm : P.follows .mixedOrders = true) (hB : factsB l D a0.tmps.size = true) (hG : ∀ k u w w', R w w' → G k u w → G k u w') (hW : W (fun _ => false) w0.drew)
    (hstep : allFrom (FactStep P l D Q W G R a0) l 0)
    (hend : ∀ vs w, W (fun k => decide (k < l.length)) w → (∀ k, k < l.length → G k (vs k) w) → Q .normal (putAll vs l 0 a0) w) :
    (Code.region id l.toArray true).wp P Q a0 w0 := by
  refine wp_region_any hm (wpAny_of_facts hB hG hstep hend _ _ _ _ (fun _ => undef) ⟨by simp, rfl, ?_, ?_, ?_, ?_, fun _ _ => rfl, ?_⟩ ?_)
  · rw [putSome_none]; intro j; simp [Array.getElem?_replicate]; split <;> simp
  · have : (fun k => (Array.replicate l.toArray.size false).getD k false) = fun _ => false := by funext k; simp [Array.getElem?_replicate]; split <;> simp
    rw [this]; exact hW
  · intro k hk; simp [Array.getElem?_replicate] at hk; split at hk <;> simp at hk
  · intro k d hk; simp [Array.getElem?_replicate] at hk; split at hk <;> simp at hk
  · intro k hk; simp [Array.getElem?_replicate] at hk; split at hk <;> simp at hk
  · have := List.countP_le_length (p := (· == false)) (l := (Array.replicate l.toArray.size false).toList)
    simpa using this
end Go.Proofs.Ythgekfiodedelaa
