/- NodesValid of both sides: positions in ascending order, one to ten of them. -/
import Derived.Test.YthgekfiodedelaaPt
import Derived.Test.YthgekfiodedelaaInts
import Derived.BigQuiet
import Derived.IntWalk
import Derived.Handy
namespace Go.Proofs.Ythgekfiodedelaa
open Go.RowKit
set_option linter.unusedVariables false
set_option linter.unusedSimpArgs false

def ascFrom : Int → List Int → Bool
  | _, [] => true
  | p, x :: xs => ptB x && decide (p < x) && ascFrom x xs
def nodesB (ns : List Int) : Bool := inB ns.length 1 10 && ascFrom (-1) ns
/-- The node before place j, or -1. -/
def prevI (zs : List Int) : Nat → Int
  | 0 => -1
  | j + 1 => zs.getD j 0
theorem prevI_pos {zs : List Int} {j k : Nat} (h : j = k + 1) (hk : k < zs.length) : prevI zs j = zs[k] := by
  subst h; simp [prevI, hk]
theorem ascFrom_at (zs : List Int) (j : Nat) (hj : j < zs.length) {x p : Int} (hz : zs[j] = x) (hp : prevI zs j = p) : ascFrom (prevI zs j) (zs.drop j) = (ptB x && decide (p < x) && ascFrom (prevI zs (j + 1)) (zs.drop (j + 1))) := by
  subst hz; subst hp
  rw [List.drop_eq_getElem_cons hj, ascFrom]
  simp [prevI, hj]
theorem ascFrom_end (zs : List Int) (j : Nat) (hj : zs.length ≤ j) : ascFrom (prevI zs j) (zs.drop j) = true := by
  rw [List.drop_of_length_le hj]; rfl
def DrawnI (w w' : World) : Prop := ∃ n, w' = w.drewN n
theorem DrawnI.refl (w : World) : DrawnI w w := ⟨0, rfl⟩
theorem DrawnI.cell {w w' : World} (h : DrawnI w w') (a : Addr) : w'.cell? a = w.cell? a := by obtain ⟨n, rfl⟩ := h; rfl
theorem DrawnI.next {w wi : World} (h : DrawnI w wi) (n : Nat) : DrawnI w (wi.drewN n) := by obtain ⟨m, rfl⟩ := h; exact draws_two _ _ _
theorem quietI_left {P : Program} {f : FuncId} {args : Array Value} {w : World} {n : Nat} {v : Value}
    (h : Calls P f args (w.drewN n) fun e w' => e = .returned v ∧ w.drewN n = w') : Calls P f args (w.drewN n) fun e w'' => e = .returned v ∧ ∃ m, w'' = w.drewN m :=
  h.mono fun _ _ ⟨he, hm⟩ => ⟨he, n, hm.symm⟩

set_option maxRecDepth 100000 in
set_option maxHeartbeats 2000000 in
theorem l1Nodes_any (v : Value) (zs : List Int) (w : World) (hl : zs.length ≤ 4194304) (hr : RInts w v zs) :
    Calls Try.prog 118 #[v] w fun e w' => e = .returned (.bool (ascFrom (-1) zs)) ∧ DrawnI w w' := by
  obtain ⟨a, cap, rfl, hc, hm, hcell⟩ := hr
  go_enter Try.func118, Try.ntmps118
  go_wp2
  go_loopw [3] (fun i wr => ∃ j : Nat, j ≤ zs.length ∧ i = .int .i64 j ∧ Hid (ascFrom (-1) zs = ascFrom (prevI zs j) (zs.drop j)) ∧ DrawnI w wr) (fun i _ => zs.length - (intOf i).toNat)
  case atStart => exact ⟨0, Nat.zero_le _, rfl, Lib.hid rfl, DrawnI.refl _⟩
  case round =>
    obtain ⟨j, hj, rfl, hH, hD⟩ := hrel
    by_cases hlt : j < zs.length
    · obtain ⟨b, off, rfl, hbl, h0⟩ := hcell j hlt
      rw [← hD.cell] at h0
      obtain ⟨x, hx⟩ : ∃ x, x = zs[j] := ⟨_, rfl⟩
      rw [← hx] at h0
      have HX : Hid (zs[j] = x) := Lib.hid hx.symm
      clear hx
      by_cases hj0 : 0 < j
      · obtain ⟨k, hk⟩ : ∃ k, j = k + 1 := ⟨j - 1, by omega⟩
        have hk' : k < zs.length := by omega
        obtain ⟨b', off', he, -, g0⟩ := hcell k hk'
        rw [← hD.cell] at g0
        simp only [Option.some.injEq, Addr.mk.injEq, and_true] at he
        obtain ⟨rfl, rfl⟩ := he
        have hP := prevI_pos hk hk'
        obtain ⟨p, hp⟩ : ∃ p, p = zs[k]'hk' := ⟨_, rfl⟩
        rw [← hp] at hP g0
        have HS := Lib.hid (ascFrom_at zs j hlt HX.out hP)
        have e1 : (j : Int) - 1 = k := by omega
        have e2 : IntKind.i64.wrap ((j : Int) - 1) = k := by rw [e1]; exact IntWalk.i64_in _ (by omega)
        have e3 : decide (0 < (j : Int)) = true := decide_eq_true (by omega)
        have e3' : decide (0 < j) = true := decide_eq_true (by omega)
        clear hp hP hcell hk HX
        cases q1 : ptB x with
        | false =>
          go_wp2
          go_quiet (((first | (go_at_call 44; exact quietI_left (l1Point_any _ _)))))
          go_wp2
          go_ret
          exact ⟨ret_bool (by rw [hH.out, HS.out]; simp [q1]), hD.next _⟩
        | true =>
          by_cases q4 : p < x
          · have q5 : decide (x ≤ p) = false := decide_eq_false (by omega)
            have Q4 : Hid (decide (p < x) = true) := Lib.hid (decide_eq_true q4)
            go_wp2
            go_quiet (((first | (go_at_call 44; exact quietI_left (l1Point_any _ _)))))
            go_wp2
            go_roundw
            case rel => exact ⟨j + 1, by omega, by go_num, Lib.hid (by rw [hH.out, HS.out, Q4.out]; simp [q1]), hD.next _⟩
            case measure => simp [intOf]; omega
          · have q5 : decide (x ≤ p) = true := decide_eq_true (by omega)
            have Q4 : Hid (decide (p < x) = false) := Lib.hid (decide_eq_false q4)
            go_wp2
            go_quiet (((first | (go_at_call 44; exact quietI_left (l1Point_any _ _)))))
            go_wp2
            go_ret
            exact ⟨ret_bool (by rw [hH.out, HS.out, Q4.out]; simp [q1]), hD.next _⟩
      · have e3 : decide (0 < (j : Int)) = false := decide_eq_false (by omega)
        have e3' : decide (0 < j) = false := decide_eq_false (by omega)
        have hP : prevI zs j = -1 := by
          have : j = 0 := by omega
          subst this; rfl
        have HS := Lib.hid (ascFrom_at zs j hlt HX.out hP)
        clear hP hcell HX
        cases q1 : ptB x with
        | false =>
          go_wp2
          go_quiet (((first | (go_at_call 44; exact quietI_left (l1Point_any _ _)))))
          go_wp2
          go_ret
          exact ⟨ret_bool (by rw [hH.out, HS.out]; simp [q1]), hD.next _⟩
        | true =>
          have Q4 : Hid (decide (-1 < x) = true) := Lib.hid (decide_eq_true (by have := ptB_true q1; omega))
          go_wp2
          go_quiet (((first | (go_at_call 44; exact quietI_left (l1Point_any _ _)))))
          go_wp2
          go_roundw
          case rel => exact ⟨j + 1, by omega, by go_num, Lib.hid (by rw [hH.out, HS.out, Q4.out]; simp [q1]), hD.next _⟩
          case measure => simp [intOf]; omega
    · have HE := Lib.hid (ascFrom_end zs j (by omega))
      go_wp2
      go_ret
      exact ⟨ret_bool (by rw [hH.out, HE.out]), hD⟩

set_option maxRecDepth 100000 in
set_option maxHeartbeats 2000000 in
theorem ascending_any (v : Value) (zs : List Int) (w : World) (hl : zs.length ≤ 4194304) (hr : RInts w v zs) :
    Calls Try.prog 92 #[v] w fun e w' => e = .returned (.bool (ascFrom (-1) zs)) ∧ DrawnI w w' := by
  obtain ⟨a, cap, rfl, hc, hm, hcell⟩ := hr
  go_enter Try.func92, Try.ntmps92
  go_wp2
  go_loopw [3, 4, 7] (fun s3 s4 i wr => ∃ j : Nat, j ≤ zs.length ∧ i = .int .i64 j ∧ Hid (ascFrom (-1) zs = ascFrom (prevI zs j) (zs.drop j)) ∧ DrawnI w wr) (fun _ _ i _ => zs.length - (intOf i).toNat)
  case atStart => exact ⟨0, Nat.zero_le _, rfl, Lib.hid rfl, DrawnI.refl _⟩
  case round =>
    obtain ⟨j, hj, rfl, hH, hD⟩ := hrel
    by_cases hlt : j < zs.length
    · obtain ⟨b, off, rfl, hbl, h0⟩ := hcell j hlt
      rw [← hD.cell] at h0
      obtain ⟨x, hx⟩ : ∃ x, x = zs[j] := ⟨_, rfl⟩
      rw [← hx] at h0
      have HX : Hid (zs[j] = x) := Lib.hid hx.symm
      clear hx
      by_cases hj0 : 0 < j
      · obtain ⟨k, hk⟩ : ∃ k, j = k + 1 := ⟨j - 1, by omega⟩
        have hk' : k < zs.length := by omega
        obtain ⟨b', off', he, -, g0⟩ := hcell k hk'
        rw [← hD.cell] at g0
        simp only [Option.some.injEq, Addr.mk.injEq, and_true] at he
        obtain ⟨rfl, rfl⟩ := he
        have hP := prevI_pos hk hk'
        obtain ⟨p, hp⟩ : ∃ p, p = zs[k]'hk' := ⟨_, rfl⟩
        rw [← hp] at hP g0
        have HS := Lib.hid (ascFrom_at zs j hlt HX.out hP)
        have e1 : (j : Int) - 1 = k := by omega
        have e2 : IntKind.i64.wrap ((j : Int) - 1) = k := by rw [e1]; exact IntWalk.i64_in _ (by omega)
        have e3 : decide (0 < (j : Int)) = true := decide_eq_true (by omega)
        have e3' : decide (0 < j) = true := decide_eq_true (by omega)
        clear hp hP hcell hk HX
        cases q1 : ptB x with
        | false =>
          go_wp2_with fail
          refine (ok_any _ _).mono ?_
          rintro e w2 ⟨rfl, rfl⟩
          rw [q1]
          go_wp2
          go_ret
          exact ⟨ret_bool (by rw [hH.out, HS.out]; simp [q1]), hD⟩
        | true =>
          by_cases q4 : p < x
          · have q5 : decide (x ≤ p) = false := decide_eq_false (by omega)
            have Q4 : Hid (decide (p < x) = true) := Lib.hid (decide_eq_true q4)
            go_wp2_with fail
            refine (ok_any _ _).mono ?_
            rintro e w2 ⟨rfl, rfl⟩
            rw [q1]
            go_wp2
            go_roundw
            case rel => exact ⟨j + 1, by omega, by go_num, Lib.hid (by rw [hH.out, HS.out, Q4.out]; simp [q1]), hD⟩
            case measure => simp [intOf]; omega
          · have q5 : decide (x ≤ p) = true := decide_eq_true (by omega)
            have Q4 : Hid (decide (p < x) = false) := Lib.hid (decide_eq_false q4)
            go_wp2_with fail
            refine (ok_any _ _).mono ?_
            rintro e w2 ⟨rfl, rfl⟩
            rw [q1]
            go_wp2
            go_ret
            exact ⟨ret_bool (by rw [hH.out, HS.out, Q4.out]; simp [q1]), hD⟩
      · have e3 : decide (0 < (j : Int)) = false := decide_eq_false (by omega)
        have e3' : decide (0 < j) = false := decide_eq_false (by omega)
        have hP : prevI zs j = -1 := by
          have : j = 0 := by omega
          subst this; rfl
        have HS := Lib.hid (ascFrom_at zs j hlt HX.out hP)
        clear hP hcell HX
        cases q1 : ptB x with
        | false =>
          go_wp2_with fail
          refine (ok_any _ _).mono ?_
          rintro e w2 ⟨rfl, rfl⟩
          rw [q1]
          go_wp2
          go_ret
          exact ⟨ret_bool (by rw [hH.out, HS.out]; simp [q1]), hD⟩
        | true =>
          have Q4 : Hid (decide (-1 < x) = true) := Lib.hid (decide_eq_true (by have := ptB_true q1; omega))
          go_wp2_with fail
          refine (ok_any _ _).mono ?_
          rintro e w2 ⟨rfl, rfl⟩
          rw [q1]
          go_wp2
          go_roundw
          case rel => exact ⟨j + 1, by omega, by go_num, Lib.hid (by rw [hH.out, HS.out, Q4.out]; simp [q1]), hD⟩
          case measure => simp [intOf]; omega
    · have HE := Lib.hid (ascFrom_end zs j (by omega))
      go_wp2
      go_ret
      exact ⟨ret_bool (by rw [hH.out, HE.out]), hD⟩

set_option maxHeartbeats 400000 in
theorem specNodesValid_any (v : Value) (zs : List Int) (w : World) (hl : zs.length ≤ 4194304) (hr : RInts w v zs) :
    Calls Try.prog 104 #[v] w fun e w' => e = .returned (.bool (nodesB zs)) ∧ DrawnI w w' := by
  obtain ⟨a, cap, rfl, hc, hm, -⟩ := id hr
  have HR := Lib.hid hr; clear hr
  go_enter Try.func104, Try.ntmps104
  go_wp2_with fail
  refine (l6In_any _ _ _ _).mono ?_
  rintro e w2 ⟨rfl, rfl⟩
  cases hi : inB zs.length 1 10 with
  | false =>
    go_wp2
    go_ret
    exact ⟨ret_bool (by rw [nodesB, hi]; rfl), DrawnI.refl _⟩
  | true =>
    go_wp2_with fail
    refine (l1Nodes_any _ zs _ hl HR.out).mono ?_
    rintro e w2 ⟨rfl, hD⟩
    go_wp2
    go_ret
    exact ⟨ret_bool (by rw [nodesB, hi]; rfl), hD⟩

set_option maxHeartbeats 400000 in
theorem implNodesValid_any (v : Value) (zs : List Int) (w : World) (hl : zs.length ≤ 4194304) (hr : RInts w v zs) :
    Calls Try.prog 66 #[v] w fun e w' => e = .returned (.bool (nodesB zs)) ∧ DrawnI w w' := by
  obtain ⟨a, cap, rfl, hc, hm, -⟩ := id hr
  have HR := Lib.hid hr; clear hr
  go_enter Try.func66, Try.ntmps66
  go_wp2_with fail
  refine (inRange_any _ _ _ _).mono ?_
  rintro e w2 ⟨rfl, rfl⟩
  cases hi : inB zs.length 1 10 with
  | false =>
    go_wp2
    go_ret
    exact ⟨ret_bool (by rw [nodesB, hi]; rfl), DrawnI.refl _⟩
  | true =>
    go_wp2_with fail
    refine (ascending_any _ zs _ hl HR.out).mono ?_
    rintro e w2 ⟨rfl, hD⟩
    go_wp2
    go_ret
    exact ⟨ret_bool (by rw [nodesB, hi]; rfl), hD⟩
end Go.Proofs.Ythgekfiodedelaa
