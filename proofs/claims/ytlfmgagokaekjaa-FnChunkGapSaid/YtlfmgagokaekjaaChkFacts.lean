/- What follows from a chunk's being put: plain laws. -/
import Derived.Test.YtlfmgagokaekjaaPut
import Derived.Test.YtlfmgagokaekjaaSame
namespace Go.Proofs.Ytlfmgagokaekjaa
open Go.RowKit
set_option linter.unusedVariables false
set_option linter.unusedSimpArgs false

theorem putT_parts {got : List Int} {n : Int} {cs : List Int} (h : putT got n cs = true) : ∃ a : Nat, n = a ∧ putG got n cs = true ∧ a ≤ got.length ∧ okB got cs a = true ∧ putL got n cs = got ++ cs.drop (got.length - a) := by
  have hG : putG got n cs = true := by
    cases hg : putG got n cs with
    | true => rfl
    | false => rw [(put_bad hg).2] at h; cases h
  obtain ⟨_, _, _, _, _, h0, _⟩ := putG_parts hG
  obtain ⟨a, rfl⟩ := Int.eq_ofNat_of_zero_le h0
  have ha : a ≤ got.length := by
    rcases Nat.lt_or_ge got.length a with hlt | hge
    · rw [(put_far hG hlt).2] at h; cases h
    · exact hge
  have ho : okB got cs a = true := by
    cases hb : okB got cs a with
    | true => rfl
    | false => rw [(put_mis hG hb).2] at h; cases h
  exact ⟨a, rfl, hG, ha, ho, (put_ok hG ha ho).1⟩

theorem putR_get {got cs : List Int} {a i : Nat} (ha : a ≤ got.length) (ho : okB got cs a = true) (hi : i < cs.length) : (got ++ cs.drop (got.length - a)).getD (a + i) 0 = cs.getD i 0 := by
  simp only [okB, List.all_eq_true, List.mem_range, decide_eq_true_eq] at ho
  by_cases h : a + i < got.length
  · have := ho i hi h
    rw [List.getD_eq_getElem?_getD, List.getElem?_append_left h, ← List.getD_eq_getElem?_getD]; exact this
  · rw [List.getD_eq_getElem?_getD, List.getElem?_append_right (by omega), List.getElem?_drop, ← List.getD_eq_getElem?_getD]
    congr 1; omega
theorem putR_slice {got cs : List Int} {a : Nat} (ha : a ≤ got.length) (ho : okB got cs a = true) : ((got ++ cs.drop (got.length - a)).take (a + cs.length)).drop a = cs := by
  refine List.ext_getElem (by simp; omega) (fun i h1 h2 => ?_)
  have := putR_get ha ho h2
  rw [List.getD_eq_getElem?_getD, List.getD_eq_getElem?_getD, List.getElem?_eq_getElem (by simp; omega), List.getElem?_eq_getElem h2] at this
  simpa using this
theorem putR_len {got cs : List Int} {a : Nat} (ha : a ≤ got.length) : (got ++ cs.drop (got.length - a)).length = max got.length (a + cs.length) := by
  simp; omega
theorem put_twice {got cs : List Int} {n : Int} (h : putT got n cs = true) : putL (putL got n cs) n cs = putL got n cs ∧ putT (putL got n cs) n cs = true := by
  obtain ⟨a, rfl, hG, ha, ho, hR⟩ := putT_parts h
  rw [hR]
  obtain ⟨hi, hc, h20, h1, h4, h0, hn⟩ := putG_parts hG
  have hn20 : a + cs.length ≤ 20 := by
    simp only [chunkB, Bool.and_eq_true] at hc
    have := inB_true hc.2
    omega
  have hG2 : putG (got ++ cs.drop (got.length - a)) a cs = true := by
    simp only [putG, Bool.and_eq_true]
    refine ⟨?_, hc⟩
    have hl := putR_len (cs := cs) ha
    simp only [itemsB, chunkB, allB, Bool.and_eq_true, decide_eq_true_eq, List.all_eq_true] at hi hc ⊢
    refine ⟨?_, by omega⟩
    rw [List.any_append]
    have a1 := hi.1
    have a2 := hc.1.2.1
    rw [Bool.not_eq_true'] at a1 a2 ⊢
    rw [Bool.or_eq_false_iff]
    refine ⟨a1, ?_⟩
    rw [List.any_eq_false] at a2 ⊢
    exact fun x hx => a2 x (List.mem_of_mem_drop hx)
  have ha2 : a ≤ (got ++ cs.drop (got.length - a)).length := by rw [putR_len ha]; omega
  have ho2 : okB (got ++ cs.drop (got.length - a)) cs a = true := by
    simp only [okB, List.all_eq_true, List.mem_range, decide_eq_true_eq]
    intro i hi _
    exact putR_get ha ho hi
  obtain ⟨e1, e2⟩ := put_ok hG2 ha2 ho2
  rw [e1, e2]
  refine ⟨?_, rfl⟩
  have : cs.drop ((got ++ cs.drop (got.length - a)).length - a) = [] := List.drop_of_length_le (by rw [putR_len ha]; omega)
  rw [this, List.append_nil]
theorem sameInts_same (v1 v2 : Value) (xs : List Int) (w : World) (hl1 : xs.length ≤ 4194304) (hr1 : RInts w v1 xs) (hr2 : RInts w v2 xs) :
    Calls Try.prog 16 #[v1, v2] w fun e w' => e = .returned (.bool true) ∧ ∃ n, w' = w.drewN n :=
  (sameInts_any v1 v2 xs xs w hl1 hr1 hr2).mono fun e w' ⟨h1, h2⟩ => ⟨by rw [h1]; simp, h2⟩
end Go.Proofs.Ytlfmgagokaekjaa
