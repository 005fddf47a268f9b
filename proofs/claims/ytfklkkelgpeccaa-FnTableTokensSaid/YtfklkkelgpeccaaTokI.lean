/- TokensOf of the program: the positions of a node's tokens. -/
import Derived.Test.YtfklkkelgpeccaaInts
import Derived.Test.YtfklkkelgpeccaaPt
namespace Go.Proofs.Ytfklkkelgpeccaa
open Go.RowKit
set_option linter.unusedVariables false
set_option linter.unusedSimpArgs false

def tok (node i : Int) : Int := (37 * node + 23 * i + 7 * i * i) % 64
def toks (node : Int) (n : Nat) : List Int := (List.range n).map fun (i : Nat) => tok node i
@[simp] theorem length_toks (node : Int) (n : Nat) : (toks node n).length = n := by simp [toks]
theorem toks_succ (node : Int) (n : Nat) : toks node (n + 1) = toks node n ++ [tok node n] := by simp [toks, List.range_succ]
theorem toks_take (node : Int) {k n : Nat} (h : k ≤ n) : (toks node n).take k = toks node k := by
  simp [toks, ← List.map_take, List.take_range, Nat.min_eq_left h]
def tokensM (node weight : Int) : List Int := if ptB node && inB weight 1 5 then toks node weight.toNat else []

set_option maxHeartbeats 400000 in
theorem l31Token_any (node i : Int) (w : World) (h0 : 0 ≤ node) (h1 : node ≤ 63) (h2 : 0 ≤ i) (h3 : i ≤ 5) :
    Calls Try.prog 53 #[.int .i64 node, .int .i64 i] w fun e w' => e = .returned (.int .i64 (tok node i)) ∧ w = w' := by
  have hq : 0 ≤ 7 * i * i := Int.mul_nonneg (by omega) h2
  have hq2 : 7 * i * i ≤ 35 * 5 := Int.mul_le_mul (by omega) h3 h2 (by omega)
  go_enter Try.func53, Try.ntmps53
  go_wp2
  go_ret
  exact ⟨ret_int rfl, rfl⟩

theorem tokensM_bad {node weight : Int} (h : ptB node = false ∨ inB weight 1 5 = false) : tokensM node weight = [] := by
  unfold tokensM; rcases h with h | h <;> simp [h]
theorem tokensM_good {node weight : Int} (h : ptB node = true) (h' : inB weight 1 5 = true) : tokensM node weight = toks node weight.toNat := by
  unfold tokensM; simp [h, h']
theorem length_tokensM (node weight : Int) : (tokensM node weight).length ≤ 5 := by
  unfold tokensM
  split
  · rename_i h
    simp only [Bool.and_eq_true] at h
    have := inB_true h.2
    simp; omega
  · simp


set_option maxHeartbeats 1000000 in
theorem implTokensOf_any (node weight : Int) (w : World) :
    Calls Try.prog 38 #[.int .i64 node, .int .i64 weight] w fun e w' => ∃ v, e = .returned v ∧ OwnInts w' w.heap.size v (tokensM node weight) ∧ Below w.heap.size w w' := by
  obtain ⟨i0, hi, hz0, hz1, hz2⟩ := info_parts infoInt
  cases hp : ptB node with
  | false =>
    go_enter Try.func38, Try.ntmps38
    go_wp2_with (go_at_call 44; refine (ok_any _ _).mono ?_; rintro e w' ⟨rfl, rfl⟩)
    go_ret
    exact ⟨_, rfl, by rw [tokensM_bad (.inl hp)]; exact OwnInts.nil _ _, Below.refl _ _⟩
  | true =>
    cases hq : inB weight 1 5 with
    | false =>
      go_enter Try.func38, Try.ntmps38
      go_wp2_with (first | (go_at_call 44; refine (ok_any _ _).mono ?_; rintro e w' ⟨rfl, rfl⟩) | (go_at_call 58; refine (inRange_any _ _ _ _).mono ?_; rintro e w' ⟨rfl, rfl⟩))
      go_ret
      exact ⟨_, rfl, by rw [tokensM_bad (.inr hq)]; exact OwnInts.nil _ _, Below.refl _ _⟩
    | true =>
      obtain ⟨b0, b1⟩ := ptB_true hp
      obtain ⟨b2, b3⟩ := inB_true hq
      obtain ⟨m, rfl⟩ := Int.eq_ofNat_of_zero_le (show 0 ≤ weight by omega)
      go_enter Try.func38, Try.ntmps38
      go_wp2_with (first | (go_at_call 44; refine (ok_any _ _).mono ?_; rintro e w' ⟨rfl, rfl⟩) | (go_at_call 58; refine (inRange_any _ _ _ _).mono ?_; rintro e w' ⟨rfl, rfl⟩))
      go_loopw [5, 16] (fun v i wr => ∃ k : Nat, k ≤ m ∧ i = .int .i64 k ∧ OwnInts wr w.heap.size v (toks node k) ∧ Below w.heap.size w wr) (fun _ i _ => m - (intOf i).toNat)
      case atStart => exact ⟨0, Nat.zero_le _, rfl, OwnInts.nil _ _, Below.refl _ _⟩
      case round =>
        obtain ⟨k, hk, rfl, hown, hbel⟩ := hrel
        have hsz := hbel.size
        have hq : 0 ≤ 7 * (k : Int) * k := Int.mul_nonneg (by omega) (by omega)
        have hq2 : 7 * (k : Int) * k ≤ 35 * 5 := Int.mul_le_mul (by omega) (by omega) (by omega) (by omega)
        by_cases hlt : k < m
        · go_wp2_with (first
            | (at_builtin; refine wpList_append_own _ rfl _ _ 29 rfl w.heap.size 3 i0 (.int .i64 0) 1 8 Try.underlying29 hi hz0 hz1 hz2 rfl (by decide) _ _ _ rfl (World.ownsRow.alloc hown _) ⟨wr.heap.size, 0, none⟩ 1 1 [.int .i64 (tok node k)] rfl rfl (cell_one_new _ _ _) (oneCell_int _) ?c3 ?c4 ?c5 ?_))
          case c3 => simp; unfold maxLen; omega
          case c4 => simp; omega
          case c5 => simp; omega
          intro v' w1 hown' hgrow _
          have hown2 : OwnInts w1 w.heap.size v' (toks node (k + 1)) := by rw [toks_succ]; exact own_snoc hown' (by simp)
          have hbel2 : Below w.heap.size w w1 := (hbel.alloc hsz _).grown hgrow (by simp; omega) (fun j hj => (ownsRow_lt hown hj).1)
          clear hown' hgrow hown hbel
          go_wp2
          go_roundw
          case rel => exact ⟨k + 1, by omega, by go_num, hown2, hbel2⟩
          case measure => simp [intOf]; omega
        · obtain rfl : k = m := by omega
          go_wp2
          go_ret
          exact ⟨_, rfl, by rw [tokensM_good hp hq]; simpa using hown, hbel⟩
end Go.Proofs.Ytfklkkelgpeccaa
