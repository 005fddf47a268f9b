/- Which tables are valid: of the reference. -/
import Derived.Test.YtfklkkelgpeccaaTkEq
import Derived.Test.YtfklkkelgpeccaaPt
import Derived.IntWalk
import Derived.BigQuiet
import Derived.Deep.QuietTactic
namespace Go.Proofs.Ytfklkkelgpeccaa
open Go.RowKit
set_option linter.unusedVariables false
set_option linter.unusedSimpArgs false

def tkB (e : Tok) : Bool := ptB e.1 && ptB e.2
def tvFrom : Int → List Tok → Bool
  | _, [] => true
  | p, e :: es => tkB e && decide (p < e.1) && tvFrom e.1 es
def tvB (zs : List Tok) : Bool := tvFrom (-1) zs && decide (0 < zs.length)
/-- The position before place j, or -1. -/
def prevP (zs : List Tok) : Nat → Int
  | 0 => -1
  | j + 1 => (zs.getD j (0, 0)).1
theorem prevP_pos {zs : List Tok} {j k : Nat} (h : j = k + 1) (hk : k < zs.length) : prevP zs j = zs[k].1 := by
  subst h; simp [prevP, hk]
theorem tvFrom_step (zs : List Tok) (j : Nat) (hj : j < zs.length) : tvFrom (prevP zs j) (zs.drop j) = (tkB zs[j] && decide (prevP zs j < zs[j].1) && tvFrom (prevP zs (j + 1)) (zs.drop (j + 1))) := by
  rw [List.drop_eq_getElem_cons hj, tvFrom]
  simp [prevP, hj]
theorem tvFrom_at (zs : List Tok) (j : Nat) (hj : j < zs.length) {x y p : Int} (hz : zs[j] = (x, y)) (hp : prevP zs j = p) : tvFrom (prevP zs j) (zs.drop j) = (ptB x && ptB y && decide (p < x) && tvFrom (prevP zs (j + 1)) (zs.drop (j + 1))) := by
  rw [tvFrom_step zs j hj, hz, hp]; rfl
theorem tvFrom_end (zs : List Tok) (j : Nat) (hj : zs.length ≤ j) : tvFrom (prevP zs j) (zs.drop j) = true := by
  rw [List.drop_of_length_le hj]; rfl
/-- w' is w but for draws. -/
def Drawn (w w' : World) : Prop := ∃ n, w' = w.drewN n
theorem Drawn.refl (w : World) : Drawn w w := ⟨0, rfl⟩
theorem Drawn.cell {w w' : World} (h : Drawn w w') (a : Addr) : w'.cell? a = w.cell? a := by obtain ⟨n, rfl⟩ := h; rfl
theorem Drawn.next {w wi : World} (h : Drawn w wi) (n : Nat) : Drawn w (wi.drewN n) := by obtain ⟨m, rfl⟩ := h; exact draws_two _ _ _
theorem Drawn.below {w w' : World} (h : Drawn w w') : Below w.heap.size w w' := by obtain ⟨n, rfl⟩ := h; exact bl_self _ _
theorem quiet_left {P : Program} {f : FuncId} {args : Array Value} {w : World} {n : Nat} {v : Value}
    (h : Calls P f args (w.drewN n) fun e w' => e = .returned v ∧ w.drewN n = w') : Calls P f args (w.drewN n) fun e w'' => e = .returned v ∧ ∃ m, w'' = w.drewN m :=
  h.mono fun _ _ ⟨he, hm⟩ => ⟨he, n, hm.symm⟩

set_option maxRecDepth 100000 in
set_option maxHeartbeats 4000000 in
theorem l31Table_any (v : Value) (zs : List Tok) (w : World) (hl : zs.length ≤ 4194304) (hr : RRow TL w v zs) :
    Calls Try.prog 39 #[v] w fun e w' => e = .returned (.bool (tvB zs)) ∧ Drawn w w' := by
  obtain ⟨a, cap, rfl, hc, hm, -⟩ := id hr
  have hcell := hr.tok
  clear hr
  go_enter Try.func39, Try.ntmps39
  go_wp2
  go_loopw [3] (fun i wr => ∃ j : Nat, j ≤ zs.length ∧ i = .int .i64 j ∧ Hid (tvFrom (-1) zs = tvFrom (prevP zs j) (zs.drop j)) ∧ Drawn w wr) (fun i _ => zs.length - (intOf i).toNat)
  case atStart => exact ⟨0, Nat.zero_le _, rfl, Lib.hid rfl, Drawn.refl _⟩
  case round =>
    obtain ⟨j, hj, rfl, hH, hD⟩ := hrel
    by_cases hlt : j < zs.length
    · obtain ⟨b, off, rfl, hbl, h0, h1⟩ := hcell j hlt
      rw [← hD.cell] at h0 h1
      obtain ⟨x, hx⟩ : ∃ x, x = zs[j].1 := ⟨_, rfl⟩
      obtain ⟨y, hy⟩ : ∃ y, y = zs[j].2 := ⟨_, rfl⟩
      rw [← hx] at h0; rw [← hy] at h1
      have HX : Hid (zs[j] = (x, y)) := Lib.hid (by rw [hx, hy])
      clear hx hy
      by_cases hj0 : 0 < j
      · obtain ⟨k, hk⟩ : ∃ k, j = k + 1 := ⟨j - 1, by omega⟩
        have hk' : k < zs.length := by omega
        obtain ⟨b', off', he, -, g0, -⟩ := hcell k hk'
        rw [← hD.cell] at g0
        simp only [Option.some.injEq, Addr.mk.injEq, and_true] at he
        obtain ⟨rfl, rfl⟩ := he
        have hP := prevP_pos hk hk'
        obtain ⟨p, hp⟩ : ∃ p, p = (zs[k]'hk').1 := ⟨_, rfl⟩
        rw [← hp] at hP g0
        have HS := Lib.hid (tvFrom_at zs j hlt HX.out hP)
        have e1 : (j : Int) - 1 = k := by omega
        have e2 : IntKind.i64.wrap ((j : Int) - 1) = k := by rw [e1]; exact IntWalk.i64_in _ (by omega)
        have e3 : decide (0 < (j : Int)) = true := decide_eq_true (by omega)
        have e3' : decide (0 < j) = true := decide_eq_true (by omega)
        clear hp hP hcell hk HX
        cases q1 : ptB x with
        | false =>
          go_wp2
          go_quiet (((first | (go_at_call 40; exact quiet_left (l1Point_any _ _)))))
          go_wp2
          go_ret
          exact ⟨ret_bool (by rw [tvB, hH.out, HS.out]; simp [q1]), hD.next _⟩
        | true =>
          cases q2 : ptB y with
          | false =>
            go_wp2
            go_quiet (((first | (go_at_call 40; exact quiet_left (l1Point_any _ _)))))
            go_wp2
            go_ret
            exact ⟨ret_bool (by rw [tvB, hH.out, HS.out]; simp [q1, q2]), hD.next _⟩
          | true =>
            by_cases q4 : p < x
            · have q5 : decide (x ≤ p) = false := decide_eq_false (by omega)
              have Q4 : Hid (decide (p < x) = true) := Lib.hid (decide_eq_true q4)
              go_wp2
              go_quiet (((first | (go_at_call 40; exact quiet_left (l1Point_any _ _)))))
              go_wp2
              go_roundw
              case rel => exact ⟨j + 1, by omega, by go_num, Lib.hid (by rw [hH.out, HS.out, Q4.out]; simp [q1, q2]), hD.next _⟩
              case measure => simp [intOf]; omega
            · have q5 : decide (x ≤ p) = true := decide_eq_true (by omega)
              have Q4 : Hid (decide (p < x) = false) := Lib.hid (decide_eq_false q4)
              go_wp2
              go_quiet (((first | (go_at_call 40; exact quiet_left (l1Point_any _ _)))))
              go_wp2
              go_ret
              exact ⟨ret_bool (by rw [tvB, hH.out, HS.out, Q4.out]; simp [q1, q2]), hD.next _⟩
      · have e3 : decide (0 < (j : Int)) = false := decide_eq_false (by omega)
        have e3' : decide (0 < j) = false := decide_eq_false (by omega)
        have hP : prevP zs j = -1 := by
          have : j = 0 := by omega
          subst this; rfl
        have HS := Lib.hid (tvFrom_at zs j hlt HX.out hP)
        clear hP hcell HX
        cases q1 : ptB x with
        | false =>
          go_wp2
          go_quiet (((first | (go_at_call 40; exact quiet_left (l1Point_any _ _)))))
          go_wp2
          go_ret
          exact ⟨ret_bool (by rw [tvB, hH.out, HS.out]; simp [q1]), hD.next _⟩
        | true =>
          cases q2 : ptB y with
          | false =>
            go_wp2
            go_quiet (((first | (go_at_call 40; exact quiet_left (l1Point_any _ _)))))
            go_wp2
            go_ret
            exact ⟨ret_bool (by rw [tvB, hH.out, HS.out]; simp [q1, q2]), hD.next _⟩
          | true =>
            have Q4 : Hid (decide (-1 < x) = true) := Lib.hid (decide_eq_true (by have := ptB_true q1; omega))
            go_wp2
            go_quiet (((first | (go_at_call 40; exact quiet_left (l1Point_any _ _)))))
            go_wp2
            go_roundw
            case rel => exact ⟨j + 1, by omega, by go_num, Lib.hid (by rw [hH.out, HS.out, Q4.out]; simp [q1, q2]), hD.next _⟩
            case measure => simp [intOf]; omega
    · have HE := Lib.hid (tvFrom_end zs j (by omega))
      by_cases hz : 0 < zs.length
      · have hd : decide ((0 : Int) < (zs.length : Int)) = true := decide_eq_true (by omega)
        have hd' : decide (0 < zs.length) = true := decide_eq_true hz
        go_wp2
        go_ret
        exact ⟨ret_bool (by rw [tvB, hH.out, HE.out, hd']; rfl), hD⟩
      · have hd : decide ((0 : Int) < (zs.length : Int)) = false := decide_eq_false (by omega)
        have hd' : decide (0 < zs.length) = false := decide_eq_false hz
        go_wp2
        go_ret
        exact ⟨ret_bool (by rw [tvB, hH.out, HE.out, hd']; rfl), hD⟩
end Go.Proofs.Ytfklkkelgpeccaa
