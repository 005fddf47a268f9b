/- Which tables are valid: tableOk of the program. -/
import Derived.Test.YtfklkkelgpeccaaTok2
import Derived.Test.YtfklkkelgpeccaaStepCall
import Derived.Test.YtfklkkelgpeccaaReg
namespace Go.Proofs.Ytfklkkelgpeccaa
open Go.RowKit
set_option linter.unusedVariables false
set_option linter.unusedSimpArgs false

theorem two_all (x y : Int) : [x, y].all ptB = (ptB x && ptB y) := by simp
theorem bad3 {P J C : Bool} {x p : Int} (h : (!P || (J && C)) = true) (hC : C = decide (x ≤ p)) : (P && decide (p < x)) = false := by
  subst hC
  cases P with
  | false => rfl
  | true =>
    simp at h ⊢
    exact h.2
theorem good3 {P J C : Bool} {x y p : Int} {j : Nat} (h : (!P || (J && C)) = false) (hP : (ptB x && ptB y) = P) (hJ : J = decide (0 < j)) (hC : C = decide (x ≤ p)) (hz : ¬ 0 < j → p = -1) : P = true ∧ decide (p < x) = true := by
  cases P with
  | false => simp at h
  | true =>
    refine ⟨rfl, ?_⟩
    simp only [Bool.and_eq_true] at hP
    have := ptB_true hP.1
    subst hC; subst hJ
    simp at h ⊢
    by_cases hj : 0 < j
    · exact h hj
    · have := hz hj; omega
/-- What each operation of tableOk's region gives. -/
def tkG (g b o : Nat) (T : Value) (x y p : Int) (j k : Nat) (P J C : Bool) (i : Nat) (v : Value) (w : World) : Prop := match i with
  | 0 => v = .pointer (some ⟨g, 0, none⟩)
  | 1 => v = .int .i64 x
  | 2 => v = .pointer (some ⟨g, 1, none⟩)
  | 3 => v = .int .i64 y
  | 4 => v = .slice (some ⟨g + 1, 0, none⟩) 2 2
  | 5 => v = .bool P
  | 6 => v = .bool (!P)
  | 7 => v = .bool (!P)
  | 8 => P = true → v = .int .i64 j
  | 9 => P = true → v = .bool J
  | 10 => v = if P then .bool J else undef
  | 11 => (P && J) = true → v = T
  | 12 => (P && J) = true → v = .int .i64 j
  | 13 => (P && J) = true → v = .int .i64 k
  | 14 => (P && J) = true → v = .pointer (some ⟨b, o, none⟩)
  | 15 => (P && J) = true → v = .pointer (some ⟨b, o, none⟩)
  | 16 => (P && J) = true → v = .int .i64 p
  | 17 => (P && J) = true → v = .pointer (some ⟨g, 0, none⟩)
  | 18 => (P && J) = true → v = .int .i64 x
  | 19 => (P && J) = true → v = .bool C
  | 20 => P = true → v = .bool (J && C)
  | 21 => v = .bool (!P || (J && C))
  | _ => True
def tkW (w0 : World) (O : Obj) (L : Nat → Bool) (w : World) : Prop := w = if L 4 then w0.alloc O else w0
theorem tkW.skip {w0 : World} {O : Obj} {L : Nat → Bool} {w : World} (h : tkW w0 O L w) {i : Nat} (hi : i ≠ 4) : tkW w0 O (regL L i) w := by
  unfold tkW at *; rw [h]; simp [regL, Ne.symm hi]

set_option maxRecDepth 100000 in
set_option maxHeartbeats 4000000 in
theorem tableOk_any (v : Value) (zs : List Tok) (w : World) (hl : zs.length ≤ 4194304) (hr : RRow TL w v zs) :
    Calls Try.prog 43 #[v] w fun e w' => e = .returned (.bool (tvB zs)) ∧ Below w.heap.size w w' := by
  obtain ⟨a, cap, rfl, hc, hm, -⟩ := id hr
  have hcell := hr.tok
  clear hr
  go_enter Try.func43, Try.ntmps43
  go_wp2
  go_loopw [3, 4, 7] (fun i3 i4 i wr => ∃ j : Nat, j ≤ zs.length ∧ i = .int .i64 j ∧ Hid (tvFrom (-1) zs = tvFrom (prevP zs j) (zs.drop j)) ∧ Below w.heap.size w wr) (fun _ _ i _ => zs.length - (intOf i).toNat)
  case atStart => exact ⟨0, Nat.zero_le _, rfl, Lib.hid rfl, Below.refl _ _⟩
  case round =>
    obtain ⟨j, hj, rfl, hH, hB⟩ := hrel
    by_cases hlt : j < zs.length
    · obtain ⟨b, off, rfl, hbl, h0, h1⟩ := hcell j hlt
      obtain ⟨x, hx⟩ : ∃ x, x = zs[j].1 := ⟨_, rfl⟩
      obtain ⟨y, hy⟩ : ∃ y, y = zs[j].2 := ⟨_, rfl⟩
      rw [← hx] at h0; rw [← hy] at h1
      obtain ⟨p, hp⟩ : ∃ p, p = prevP zs j := ⟨_, rfl⟩
      have HS := Lib.hid (tvFrom_at zs j hlt (x := x) (y := y) (by rw [hx, hy]) hp.symm)
      clear hx hy
      have r0 := (hB.cell (p := ⟨b, off + j * 2, none⟩) hbl).trans h0
      have r1 := (hB.cell (p := ⟨b, off + j * 2 + 1, none⟩) hbl).trans h1
      clear h0 h1
      have B1 := Blk.new wr #[.int .i64 x, .int .i64 y] 38
      have c1 := bAl hB (.cells #[.int .i64 x, .int .i64 y] 38)
      have hsz := hB.size
      have HP : Hid (0 < j → ∃ k : Nat, j = k + 1 ∧ k < zs.length ∧ wr.cell? ⟨b, off + k * 2, none⟩ = some (.int .i64 p)) := Lib.hid (fun hj0 => by
        obtain ⟨k, rfl⟩ : ∃ k, j = k + 1 := ⟨j - 1, by omega⟩
        have hk' : k < zs.length := by omega
        obtain ⟨b', off', he, -, g0, -⟩ := hcell k hk'
        simp only [Option.some.injEq, Addr.mk.injEq, and_true] at he
        obtain ⟨rfl, rfl⟩ := he
        refine ⟨k, rfl, hk', ?_⟩
        rw [hp, prevP_pos rfl hk']
        exact (hB.cell (p := ⟨b, off + k * 2, none⟩) hbl).trans g0)
      have HZ : Hid (¬ 0 < j → p = -1) := Lib.hid (fun h => by
        have : j = 0 := by omega
        subst this; exact hp)
      clear hp hcell
      obtain ⟨P, hP⟩ : ∃ P, P = [x, y].all ptB := ⟨_, rfl⟩
      have HPP := Lib.hid hP; clear hP
      obtain ⟨J, hJ⟩ : ∃ J, J = decide (0 < j) := ⟨_, rfl⟩
      have HJ := Lib.hid hJ; clear hJ
      obtain ⟨C, hC⟩ : ∃ C, C = decide (x ≤ p) := ⟨_, rfl⟩
      have HC := Lib.hid hC; clear hC
      obtain ⟨k, hk⟩ : ∃ k : Nat, 0 < j → j = k + 1 := ⟨j - 1, by omega⟩
      have HK := Lib.hid hk; clear hk
      have KC : ∀ L w3, tkW ((wr.alloc (.cells #[.int .i64 x, .int .i64 y] 38)).drew) (.cells #[.int .i64 x, .int .i64 y] 3) L w3 → w3.cell? ⟨wr.heap.size, 0, none⟩ = some (.int .i64 x) ∧ w3.cell? ⟨wr.heap.size, 1, none⟩ = some (.int .i64 y) := by
        intro L w3 h
        unfold tkW at h
        cases hL : L 4 with
        | false => rw [hL] at h; subst h; exact B1.d1.get2
        | true => rw [hL] at h; subst h; exact (B1.d1.al _).get2
      have KP : ∀ L w3, tkW ((wr.alloc (.cells #[.int .i64 x, .int .i64 y] 38)).drew) (.cells #[.int .i64 x, .int .i64 y] 3) L w3 → 0 < j → w3.cell? ⟨b, off + k * 2, none⟩ = some (.int .i64 p) := by
        intro L w3 h hj0
        obtain ⟨k0, hjk, hk0, hc0⟩ := HP.out hj0
        obtain rfl : k0 = k := by have := HK.out hj0; omega
        have c2 := bD1 c1
        have hc1 : (wr.alloc (.cells #[.int .i64 x, .int .i64 y] 38)).drew.cell? ⟨b, off + k0 * 2, none⟩ = some (.int .i64 p) := (((below_alloc wr (.cells #[.int .i64 x, .int .i64 y] 38)).cell (p := ⟨b, off + k0 * 2, none⟩) (by show b < wr.heap.size; omega))).trans hc0
        unfold tkW at h
        cases hL : L 4 with
        | false => rw [hL] at h; subst h; exact hc1
        | true => rw [hL] at h; subst h; exact (((below_alloc _ _).cell (p := ⟨b, off + k0 * 2, none⟩) (by show b < (wr.alloc _).heap.size; simp; omega))).trans hc1
      go_wp2_with fail
      refine wp_region_facts [[],[0],[],[2],[1,3],[4],[5],[6],[7],[8,7],[9,7],[10],[10],[12,10],[11,13,10],[14,10],[15,10],[10],[17,10],[16,18,10],[10,19,7],[7,20]] (tkW ((wr.alloc (.cells #[.int .i64 x, .int .i64 y] 38)).drew) (.cells #[.int .i64 x, .int .i64 y] 3)) (tkG wr.heap.size b (off + k * 2) (.slice (some ⟨b, off, none⟩) zs.length cap) x y p j k P J C) (fun _ _ => True) (by kernel_rfl) (by kernel_rfl) (fun _ _ _ _ _ h => h) rfl ?_ ?_
      · refine ⟨?_, ?_, ?_, ?_, ?_, ?_, ?_, ?_, ?_, ?_, ?_, ?_, ?_, ?_, ?_, ?_, ?_, ?_, ?_, ?_, ?_, ?_, trivial⟩
        · intro a w3 vs L hW hL hN hO hk hd K hK
          have h4 := hO 4 (by decide)
          go_simp
          exact hK _ _ (hW.skip (by decide)) trivial rfl
        · intro a w3 vs L hW hL hN hO hk hd K hK
          have d0 := hd 0 12 (by decide) rfl
          rw [show vs 0 = .pointer (some ⟨wr.heap.size, 0, none⟩) from (hk 0 (by decide)).2] at d0
          obtain ⟨x0, x1⟩ := KC L w3 hW
          go_simp
          exact hK _ _ (hW.skip (by decide)) trivial rfl
        · intro a w3 vs L hW hL hN hO hk hd K hK
          have h4 := hO 4 (by decide)
          go_simp
          exact hK _ _ (hW.skip (by decide)) trivial rfl
        · intro a w3 vs L hW hL hN hO hk hd K hK
          have d2 := hd 2 14 (by decide) rfl
          rw [show vs 2 = .pointer (some ⟨wr.heap.size, 1, none⟩) from (hk 2 (by decide)).2] at d2
          obtain ⟨x0, x1⟩ := KC L w3 hW
          go_simp
          exact hK _ _ (hW.skip (by decide)) trivial rfl
        · intro a w3 vs L hW hL hN hO hk hd K hK
          have d1 := hd 1 13 (by decide) rfl
          rw [show vs 1 = .int .i64 x from (hk 1 (by decide)).2] at d1
          have d3 := hd 3 15 (by decide) rfl
          rw [show vs 3 = .int .i64 y from (hk 3 (by decide)).2] at d3
          have e3 : w3 = (wr.alloc (.cells #[.int .i64 x, .int .i64 y] 38)).drew := by unfold tkW at hW; rw [hL] at hW; exact hW
          subst e3
          clear hk hd hN
          go_simp
          refine hK _ _ (by unfold tkW; simp [regL]; rfl) trivial ?_
          unfold tkG; simp
        · intro a w3 vs L hW hL hN hO hk hd K hK
          have d4 := hd 4 16 (by decide) rfl
          rw [show vs 4 = .slice (some ⟨wr.heap.size + 1, 0, none⟩) 2 2 from (hk 4 (by decide)).2] at d4
          have e3 : w3 = (wr.alloc (.cells #[.int .i64 x, .int .i64 y] 38)).drew.alloc (.cells #[.int .i64 x, .int .i64 y] 3) := by unfold tkW at hW; rw [(hk 4 (by decide)).1] at hW; exact hW
          have RT := RInts.two ((wr.alloc (.cells #[.int .i64 x, .int .i64 y] 38)).drew) x y (g := wr.heap.size + 1) (by show wr.heap.size + 1 = (wr.alloc _).heap.size; simp)
          refine step_call rfl (f := 59) (args := #[.slice (some ⟨wr.heap.size + 1, 0, none⟩) 2 2]) (by simp [execOp, Act.eval, Act.put, go_sem, d4]) (positions_any _ [x, y] _ (by simp) (by rw [e3]; exact RT)) ?_
          rintro e w4 ⟨rfl, rfl⟩
          exact ⟨_, rfl, hK _ _ (hW.skip (by decide)) trivial (by rw [HPP.out]; rfl)⟩
        · intro a w3 vs L hW hL hN hO hk hd K hK
          have d5 := hd 5 17 (by decide) rfl
          rw [show vs 5 = .bool P from (hk 5 (by decide)).2] at d5
          go_simp
          exact hK _ _ (hW.skip (by decide)) trivial rfl
        · intro a w3 vs L hW hL hN hO hk hd K hK
          have d6 := hd 6 18 (by decide) rfl
          rw [show vs 6 = .bool (!P) from (hk 6 (by decide)).2] at d6
          go_simp
          exact hK _ _ (hW.skip (by decide)) trivial rfl
        · intro a w3 vs L hW hL hN hO hk hd K hK
          have h3 := hO 3 (by decide)
          have d7 := hd 7 19 (by decide) rfl
          rw [show vs 7 = .bool (!P) from (hk 7 (by decide)).2] at d7
          clear hd hN
          cases P with
          | false =>
            go_simp
            exact hK _ _ (hW.skip (by decide)) trivial (fun h => by cases h)
          | true =>
            go_simp
            exact hK _ _ (hW.skip (by decide)) trivial (fun _ => rfl)
        · intro a w3 vs L hW hL hN hO hk hd K hK
          have d8 := hd 8 20 (by decide) rfl
          have f8 : P = true → vs 8 = .int .i64 j := (hk 8 (by decide)).2
          have d7 := hd 7 19 (by decide) rfl
          rw [show vs 7 = .bool (!P) from (hk 7 (by decide)).2] at d7
          clear hd hN
          cases P with
          | false =>
            go_simp
            exact hK _ _ (hW.skip (by decide)) trivial (fun h => by cases h)
          | true =>
            rw [f8 rfl] at d8
            go_simp
            exact hK _ _ (hW.skip (by decide)) trivial (fun _ => by rw [HJ.out])
        · intro a w3 vs L hW hL hN hO hk hd K hK
          have d9 := hd 9 21 (by decide) rfl
          have f9 : P = true → vs 9 = .bool J := (hk 9 (by decide)).2
          have d7 := hd 7 19 (by decide) rfl
          rw [show vs 7 = .bool (!P) from (hk 7 (by decide)).2] at d7
          clear hd hN
          cases P with
          | false =>
            go_simp
            exact hK _ _ (hW.skip (by decide)) trivial rfl
          | true =>
            rw [f9 rfl] at d9
            go_simp
            exact hK _ _ (hW.skip (by decide)) trivial rfl
        · intro a w3 vs L hW hL hN hO hk hd K hK
          have h0 := hO 0 (by decide)
          have d10 := hd 10 22 (by decide) rfl
          rw [show vs 10 = if P then .bool J else undef from (hk 10 (by decide)).2] at d10
          clear hd hN
          cases P with
          | false =>
            simp only [Bool.false_eq_true, if_false] at d10
            go_simp
            exact hK _ _ (hW.skip (by decide)) trivial (fun h => by cases h)
          | true =>
            cases J with
            | false =>
              simp only [if_true] at d10
              go_simp
              exact hK _ _ (hW.skip (by decide)) trivial (fun h => by cases h)
            | true =>
              simp only [if_true] at d10
              go_simp
              exact hK _ _ (hW.skip (by decide)) trivial (fun _ => rfl)
        · intro a w3 vs L hW hL hN hO hk hd K hK
          have h3 := hO 3 (by decide)
          have d10 := hd 10 22 (by decide) rfl
          rw [show vs 10 = if P then .bool J else undef from (hk 10 (by decide)).2] at d10
          clear hd hN
          cases P with
          | false =>
            simp only [Bool.false_eq_true, if_false] at d10
            go_simp
            exact hK _ _ (hW.skip (by decide)) trivial (fun h => by cases h)
          | true =>
            cases J with
            | false =>
              simp only [if_true] at d10
              go_simp
              exact hK _ _ (hW.skip (by decide)) trivial (fun h => by cases h)
            | true =>
              simp only [if_true] at d10
              go_simp
              exact hK _ _ (hW.skip (by decide)) trivial (fun _ => rfl)
        · intro a w3 vs L hW hL hN hO hk hd K hK
          have d12 := hd 12 24 (by decide) rfl
          have f12 : (P && J) = true → vs 12 = .int .i64 j := (hk 12 (by decide)).2
          have d10 := hd 10 22 (by decide) rfl
          rw [show vs 10 = if P then .bool J else undef from (hk 10 (by decide)).2] at d10
          clear hd hN
          cases P with
          | false =>
            simp only [Bool.false_eq_true, if_false] at d10
            go_simp
            exact hK _ _ (hW.skip (by decide)) trivial (fun h => by cases h)
          | true =>
            cases J with
            | false =>
              simp only [if_true] at d10
              go_simp
              exact hK _ _ (hW.skip (by decide)) trivial (fun h => by cases h)
            | true =>
              simp only [if_true] at d10
              rw [f12 rfl] at d12
              obtain ⟨k0, rfl, hk0, hc0⟩ := HP.out (by simpa using HJ.out.symm)
              obtain rfl : k0 = k := by have := HK.out (by omega); omega
              have e1 : ((k0 + 1 : Nat) : Int) - 1 = k0 := by omega
              have e2 : IntKind.i64.wrap (((k0 + 1 : Nat) : Int) - 1) = k0 := by rw [e1]; exact IntWalk.i64_in _ (by omega)
              go_simp
              exact hK _ _ (hW.skip (by decide)) trivial (fun _ => by have e3 := IntWalk.i64_in (k0 : Int) (by omega); simp [e3])
        · intro a w3 vs L hW hL hN hO hk hd K hK
          have d11 := hd 11 23 (by decide) rfl
          have f11 : (P && J) = true → vs 11 = .slice (some ⟨b, off, none⟩) zs.length cap := (hk 11 (by decide)).2
          have d13 := hd 13 25 (by decide) rfl
          have f13 : (P && J) = true → vs 13 = .int .i64 k := (hk 13 (by decide)).2
          have d10 := hd 10 22 (by decide) rfl
          rw [show vs 10 = if P then .bool J else undef from (hk 10 (by decide)).2] at d10
          clear hd hN
          cases P with
          | false =>
            simp only [Bool.false_eq_true, if_false] at d10
            go_simp
            exact hK _ _ (hW.skip (by decide)) trivial (fun h => by cases h)
          | true =>
            cases J with
            | false =>
              simp only [if_true] at d10
              go_simp
              exact hK _ _ (hW.skip (by decide)) trivial (fun h => by cases h)
            | true =>
              simp only [if_true] at d10
              rw [f11 rfl] at d11
              rw [f13 rfl] at d13
              obtain ⟨k0, rfl, hk0, hc0⟩ := HP.out (by simpa using HJ.out.symm)
              obtain rfl : k0 = k := by have := HK.out (by omega); omega
              have i0 : (0 : Int) ≤ (k0 : Int) := by omega
              have i1 : (k0 : Int) < zs.length := by omega
              go_simp
              exact hK _ _ (hW.skip (by decide)) trivial (fun _ => rfl)
        · intro a w3 vs L hW hL hN hO hk hd K hK
          have d14 := hd 14 26 (by decide) rfl
          have f14 : (P && J) = true → vs 14 = .pointer (some ⟨b, off + k * 2, none⟩) := (hk 14 (by decide)).2
          have d10 := hd 10 22 (by decide) rfl
          rw [show vs 10 = if P then .bool J else undef from (hk 10 (by decide)).2] at d10
          clear hd hN
          cases P with
          | false =>
            simp only [Bool.false_eq_true, if_false] at d10
            go_simp
            exact hK _ _ (hW.skip (by decide)) trivial (fun h => by cases h)
          | true =>
            cases J with
            | false =>
              simp only [if_true] at d10
              go_simp
              exact hK _ _ (hW.skip (by decide)) trivial (fun h => by cases h)
            | true =>
              simp only [if_true] at d10
              rw [f14 rfl] at d14
              go_simp
              exact hK _ _ (hW.skip (by decide)) trivial (fun _ => rfl)
        · intro a w3 vs L hW hL hN hO hk hd K hK
          have d15 := hd 15 27 (by decide) rfl
          have f15 : (P && J) = true → vs 15 = .pointer (some ⟨b, off + k * 2, none⟩) := (hk 15 (by decide)).2
          have d10 := hd 10 22 (by decide) rfl
          rw [show vs 10 = if P then .bool J else undef from (hk 10 (by decide)).2] at d10
          clear hd hN
          cases P with
          | false =>
            simp only [Bool.false_eq_true, if_false] at d10
            go_simp
            exact hK _ _ (hW.skip (by decide)) trivial (fun h => by cases h)
          | true =>
            cases J with
            | false =>
              simp only [if_true] at d10
              go_simp
              exact hK _ _ (hW.skip (by decide)) trivial (fun h => by cases h)
            | true =>
              simp only [if_true] at d10
              rw [f15 rfl] at d15
              have x2 := KP L w3 hW (by simpa using HJ.out.symm)
              go_simp
              exact hK _ _ (hW.skip (by decide)) trivial (fun _ => rfl)
        · intro a w3 vs L hW hL hN hO hk hd K hK
          have h4 := hO 4 (by decide)
          have d10 := hd 10 22 (by decide) rfl
          rw [show vs 10 = if P then .bool J else undef from (hk 10 (by decide)).2] at d10
          clear hd hN
          cases P with
          | false =>
            simp only [Bool.false_eq_true, if_false] at d10
            go_simp
            exact hK _ _ (hW.skip (by decide)) trivial (fun h => by cases h)
          | true =>
            cases J with
            | false =>
              simp only [if_true] at d10
              go_simp
              exact hK _ _ (hW.skip (by decide)) trivial (fun h => by cases h)
            | true =>
              simp only [if_true] at d10
              go_simp
              exact hK _ _ (hW.skip (by decide)) trivial (fun _ => rfl)
        · intro a w3 vs L hW hL hN hO hk hd K hK
          have d17 := hd 17 29 (by decide) rfl
          have f17 : (P && J) = true → vs 17 = .pointer (some ⟨wr.heap.size, 0, none⟩) := (hk 17 (by decide)).2
          have d10 := hd 10 22 (by decide) rfl
          rw [show vs 10 = if P then .bool J else undef from (hk 10 (by decide)).2] at d10
          clear hd hN
          cases P with
          | false =>
            simp only [Bool.false_eq_true, if_false] at d10
            go_simp
            exact hK _ _ (hW.skip (by decide)) trivial (fun h => by cases h)
          | true =>
            cases J with
            | false =>
              simp only [if_true] at d10
              go_simp
              exact hK _ _ (hW.skip (by decide)) trivial (fun h => by cases h)
            | true =>
              simp only [if_true] at d10
              rw [f17 rfl] at d17
              obtain ⟨x0, x1⟩ := KC L w3 hW
              go_simp
              exact hK _ _ (hW.skip (by decide)) trivial (fun _ => rfl)
        · intro a w3 vs L hW hL hN hO hk hd K hK
          have d16 := hd 16 28 (by decide) rfl
          have f16 : (P && J) = true → vs 16 = .int .i64 p := (hk 16 (by decide)).2
          have d18 := hd 18 30 (by decide) rfl
          have f18 : (P && J) = true → vs 18 = .int .i64 x := (hk 18 (by decide)).2
          have d10 := hd 10 22 (by decide) rfl
          rw [show vs 10 = if P then .bool J else undef from (hk 10 (by decide)).2] at d10
          clear hd hN
          cases P with
          | false =>
            simp only [Bool.false_eq_true, if_false] at d10
            go_simp
            exact hK _ _ (hW.skip (by decide)) trivial (fun h => by cases h)
          | true =>
            cases J with
            | false =>
              simp only [if_true] at d10
              go_simp
              exact hK _ _ (hW.skip (by decide)) trivial (fun h => by cases h)
            | true =>
              simp only [if_true] at d10
              rw [f16 rfl] at d16
              rw [f18 rfl] at d18
              go_simp
              exact hK _ _ (hW.skip (by decide)) trivial (fun _ => by rw [HC.out])
        · intro a w3 vs L hW hL hN hO hk hd K hK
          have d10 := hd 10 22 (by decide) rfl
          rw [show vs 10 = if P then .bool J else undef from (hk 10 (by decide)).2] at d10
          have d19 := hd 19 31 (by decide) rfl
          have f19 : (P && J) = true → vs 19 = .bool C := (hk 19 (by decide)).2
          have d7 := hd 7 19 (by decide) rfl
          rw [show vs 7 = .bool (!P) from (hk 7 (by decide)).2] at d7
          clear hd hN
          cases P with
          | false =>
            go_simp
            exact hK _ _ (hW.skip (by decide)) trivial (fun h => by cases h)
          | true =>
            simp only [if_true] at d10
            cases J with
            | false =>
              go_simp
              exact hK _ _ (hW.skip (by decide)) trivial (fun _ => rfl)
            | true =>
              rw [f19 rfl] at d19
              go_simp
              exact hK _ _ (hW.skip (by decide)) trivial (fun _ => rfl)
        · intro a w3 vs L hW hL hN hO hk hd K hK
          have d7 := hd 7 19 (by decide) rfl
          rw [show vs 7 = .bool (!P) from (hk 7 (by decide)).2] at d7
          have d20 := hd 20 32 (by decide) rfl
          have f20 : P = true → vs 20 = .bool (J && C) := (hk 20 (by decide)).2
          clear hd hN
          cases P with
          | false =>
            go_simp
            exact hK _ _ (hW.skip (by decide)) trivial rfl
          | true =>
            rw [f20 rfl] at d20
            go_simp
            exact hK _ _ (hW.skip (by decide)) trivial rfl
      · intro vs w3 hW hG
        have e21 : vs 21 = .bool (!P || (J && C)) := hG 21 (by decide)
        have ew : w3 = (wr.alloc (.cells #[.int .i64 x, .int .i64 y] 38)).drew.alloc (.cells #[.int .i64 x, .int .i64 y] 3) := by unfold tkW at hW; rw [if_pos (by kernel_rfl)] at hW; exact hW
        subst ew
        clear hW hG KC KP B1 r0 r1
        have c3 := bAl (bD1 c1) (.cells #[.int .i64 x, .int .i64 y] 3)
        simp only [putAll, Act.put, e21, Nat.zero_add, Nat.reduceAdd]
        generalize vs 0 = y0
        generalize vs 1 = y1
        generalize vs 2 = y2
        generalize vs 3 = y3
        generalize vs 4 = y4
        generalize vs 5 = y5
        generalize vs 6 = y6
        generalize vs 7 = y7
        generalize vs 8 = y8
        generalize vs 9 = y9
        generalize vs 10 = y10
        generalize vs 11 = y11
        generalize vs 12 = y12
        generalize vs 13 = y13
        generalize vs 14 = y14
        generalize vs 15 = y15
        generalize vs 16 = y16
        generalize vs 17 = y17
        generalize vs 18 = y18
        generalize vs 19 = y19
        generalize vs 20 = y20
        simp only [List.setIfInBounds_toArray, List.set_cons_succ, List.set_cons_zero]
        have HPx : Hid ((ptB x && ptB y) = P) := Lib.hid (by rw [HPP.out, two_all])
        cases hE : (!P || (J && C)) with
        | true =>
          have HE := Lib.hid hE; clear hE e21
          go_wp2
          go_ret
          exact ⟨ret_bool (by rw [tvB, hH.out, HS.out, HPx.out, bad3 HE.out HC.out]; rfl), c3⟩
        | false =>
          have HE := Lib.hid hE; clear hE e21
          have HN := Lib.hid (good3 HE.out HPx.out HJ.out HC.out HZ.out)
          go_wp2
          go_roundw
          case rel => exact ⟨j + 1, by omega, by go_num, Lib.hid (by rw [hH.out, HS.out, HPx.out, HN.out.1, HN.out.2]; simp), c3⟩
          case measure => simp [intOf]; omega
    · have HE := Lib.hid (tvFrom_end zs j (by omega))
      by_cases hz : 0 < zs.length
      · have hd : decide ((0 : Int) < (zs.length : Int)) = true := decide_eq_true (by omega)
        have hd' : decide (0 < zs.length) = true := decide_eq_true hz
        go_wp2
        go_ret
        exact ⟨ret_bool (by rw [tvB, hH.out, HE.out, hd']; rfl), hB⟩
      · have hd : decide ((0 : Int) < (zs.length : Int)) = false := decide_eq_false (by omega)
        have hd' : decide (0 < zs.length) = false := decide_eq_false hz
        go_wp2
        go_ret
        exact ⟨ret_bool (by rw [tvB, hH.out, HE.out, hd']; rfl), hB⟩
end Go.Proofs.Ytfklkkelgpeccaa
