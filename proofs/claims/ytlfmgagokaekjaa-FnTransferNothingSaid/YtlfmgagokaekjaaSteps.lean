/- One round of a transfer: what is sent, put and acknowledged. Plain laws. -/
import Derived.Test.YtlfmgagokaekjaaSendS
import Derived.Test.YtlfmgagokaekjaaPut
import Derived.Test.YtlfmgagokaekjaaSame
namespace Go.Proofs.Ytlfmgagokaekjaa
open Go.RowKit
set_option linter.unusedVariables false
set_option linter.unusedSimpArgs false

theorem allB_sub {xs ys : List Int} (h : allB xs = true) (hs : ∀ x ∈ ys, x ∈ xs) : allB ys = true := by
  simp only [allB] at h ⊢
  rw [Bool.not_eq_true'] at h ⊢
  rw [List.any_eq_false] at h ⊢
  exact fun x hx => h x (hs x hx)
theorem itemsB_all {xs : List Int} (h : itemsB xs = true) : allB xs = true ∧ xs.length ≤ 20 := by
  simp only [itemsB, Bool.and_eq_true, decide_eq_true_eq] at h
  exact h
theorem itemsB_of {xs : List Int} (h : allB xs = true) (h2 : xs.length ≤ 20) : itemsB xs = true := by
  simp only [itemsB, Bool.and_eq_true, decide_eq_true_eq]
  exact ⟨h, h2⟩
theorem validB_of {xs : List Int} {n k : Nat} (h : itemsB xs = true) (hkn : k ≤ n) (hn : n ≤ xs.length) : validB n k xs = true := by
  simp only [validB, Bool.and_eq_true]
  exact ⟨⟨h, inB_of ⟨by omega, by omega⟩⟩, inB_of ⟨by omega, by omega⟩⟩
theorem mid_getD {xs : List Int} {n E i : Nat} (h : n + i < E) : ((xs.take E).drop n).getD i 0 = xs.getD (n + i) 0 := by
  rw [List.getD_eq_getElem?_getD, List.getD_eq_getElem?_getD, List.getElem?_drop, List.getElem?_take_of_lt h]
theorem take_getD {xs : List Int} {g i : Nat} (h : i < g) : (xs.take g).getD i 0 = xs.getD i 0 := by
  rw [List.getD_eq_getElem?_getD, List.getD_eq_getElem?_getD, List.getElem?_take_of_lt h]
theorem take_mid (xs : List Int) (g E n : Nat) (hng : n ≤ g) (hg : g ≤ xs.length) : xs.take g ++ ((xs.take E).drop n).drop (g - n) = xs.take (max g E) := by
  rw [List.drop_drop, show n + (g - n) = g by omega]
  rcases Nat.le_total g E with h | h
  · rw [Nat.max_eq_right h]
    have : xs.take g = (xs.take E).take g := by rw [List.take_take, Nat.min_eq_left h]
    rw [this, List.take_append_drop]
  · rw [Nat.max_eq_left h, List.drop_of_length_le (by simp; omega), List.append_nil]
theorem put_step {xs : List Int} {n g E : Nat} (hi : itemsB xs = true) (hng : n ≤ g) (hg : g ≤ xs.length) (hnE : n < E) (hE : E ≤ xs.length) (hE4 : E ≤ n + 4) :
    putL (xs.take g) n ((xs.take E).drop n) = xs.take (max g E) ∧ putT (xs.take g) n ((xs.take E).drop n) = true := by
  obtain ⟨ha, hl⟩ := itemsB_all hi
  have hcl : ((xs.take E).drop n).length = E - n := by simp; omega
  have hgl : (xs.take g).length = g := by simp; omega
  have hG : putG (xs.take g) n ((xs.take E).drop n) = true := by
    simp only [putG, Bool.and_eq_true]
    refine ⟨itemsB_of (allB_sub ha fun x hx => List.mem_of_mem_take hx) (by rw [hgl]; omega), ?_⟩
    simp only [chunkB, Bool.and_eq_true, decide_eq_true_eq]
    exact ⟨⟨by rw [hcl]; omega, allB_sub ha fun x hx => List.mem_of_mem_take (List.mem_of_mem_drop hx), by rw [hcl]; omega⟩, inB_of ⟨by omega, by rw [hcl]; omega⟩⟩
  have ho : okB (xs.take g) ((xs.take E).drop n) n = true := by
    simp only [okB, List.all_eq_true, List.mem_range, decide_eq_true_eq]
    intro i hi hlt
    rw [hcl] at hi; rw [hgl] at hlt
    rw [mid_getD (by omega), take_getD hlt]
  obtain ⟨e1, e2⟩ := put_ok hG (by rw [hgl]; exact hng) ho
  rw [e1, e2, hgl, take_mid xs g E n hng hg]
  exact ⟨rfl, rfl⟩
/-- What a transfer sends at a good state; E: where it stands behind it. -/
theorem send_step {xs : List Int} {n k m : Nat} (hi : itemsB xs = true) (hkn : k ≤ n) (hn : n ≤ xs.length) (hm : m ≤ 20) :
    ∃ E : Nat, (E : Int) = sendE n k m xs ∧ sendG n k m xs = true ∧ (E = min (min xs.length (n + 4)) (k + m)) := by
  refine ⟨min (min xs.length (n + 4)) (k + m), by unfold sendE; omega, ?_, rfl⟩
  simp only [sendG, Bool.and_eq_true]
  exact ⟨validB_of hi hkn hn, inB_of ⟨by omega, by omega⟩⟩
theorem send_go {xs : List Int} {n k m E : Nat} (hi : itemsB xs = true) (hkn : k ≤ n) (hn : n ≤ xs.length) (hm : m ≤ 20) (hE : E = min (min xs.length (n + 4)) (k + m)) (hlt : n < E) :
    sendL n k m xs = xs ∧ sendN n k m xs = E ∧ sendK n k m xs = k ∧ sendA n k m xs = n ∧ sendC n k m xs = (xs.take E).drop n ∧ sendB n k m xs = true := by
  obtain ⟨E', h1, h2, h3⟩ := send_step (m := m) hi hkn hn hm
  rw [← hE] at h3; subst h3
  obtain ⟨e1, e2, e3, e4, e5, e6⟩ := send_some h2 (by omega)
  rw [← h1] at e2 e5
  exact ⟨e1, e2, e3, e4, by rw [e5]; simp, e6⟩
theorem send_stop {xs : List Int} {n k m E : Nat} (hi : itemsB xs = true) (hkn : k ≤ n) (hn : n ≤ xs.length) (hm : m ≤ 20) (hE : E = min (min xs.length (n + 4)) (k + m)) (hle : E ≤ n) :
    sendL n k m xs = xs ∧ sendN n k m xs = n ∧ sendK n k m xs = k ∧ sendA n k m xs = 0 ∧ sendC n k m xs = [] ∧ sendB n k m xs = false := by
  obtain ⟨E', h1, h2, h3⟩ := send_step (m := m) hi hkn hn hm
  rw [← hE] at h3; subst h3
  exact send_none h2 (by omega)
theorem ack_step {xs : List Int} {n k m : Nat} (hi : itemsB xs = true) (hkn : k ≤ n) (hn : n ≤ xs.length) (hkm : k ≤ m) (hm : m ≤ n) :
    ackL n k m xs = xs ∧ ackN n k m xs = n ∧ ackK n k m xs = m ∧ ackT n k m xs = true := by
  have hG : ackG n k m xs = true := by
    simp only [ackG, Bool.and_eq_true]
    exact ⟨validB_of hi hkn hn, inB_of ⟨by omega, by omega⟩⟩
  obtain ⟨e1, e2, e3, e4⟩ := ack_good hG
  exact ⟨e1, e2, by rw [e3]; omega, by rw [e4]; simp; omega⟩
theorem res_step {xs : List Int} {n k : Nat} (hi : itemsB xs = true) (hkn : k ≤ n) (hn : n ≤ xs.length) : resL n k xs = xs ∧ resN n k xs = k := res_good (validB_of hi hkn hn)
theorem own_ne {w : World} {B g : Nat} {v : Value} {xs : List Int} {cs : Array Value} {t : TypeId} (h : OwnInts w B v xs) (hb : Blk w g cs t) (ht : t ≠ 3) : ∀ k, v.ownBlock = some k → k ≠ g := by
  rintro k hk rfl
  rcases h.2 with ⟨rfl, -⟩ | ⟨g', cap, cur, rfl, -, hg, -⟩
  · cases hk
  · have : g' = k := Option.some.inj hk
    subst this
    have := hb.h
    rw [hg] at this
    simp only [Option.some.injEq, Obj.cells.injEq] at this
    exact ht this.2.1.symm
theorem same_ints (v1 v2 : Value) (xs : List Int) (w : World) (hl1 : xs.length ≤ 4194304) (hr1 : RInts w v1 xs) (hr2 : RInts w v2 xs) :
    Calls Try.prog 16 #[v1, v2] w fun e w' => e = .returned (.bool true) ∧ Below w.heap.size w w' :=
  (sameInts_any v1 v2 xs xs w hl1 hr1 hr2).mono fun e w' ⟨h1, n, h2⟩ => ⟨by rw [h1]; simp, by rw [h2]; exact bl_self _ _⟩
end Go.Proofs.Ytlfmgagokaekjaa
