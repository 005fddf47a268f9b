/- Which caches are valid. -/
import Derived.Test.YtcahemedlmagdaaEntEq
import Derived.Test.YtcahemedlmagdaaPt
import Derived.Test.YtcahemedlmagdaaFind
import Derived.IntWalk
namespace Go.Proofs.Ytcahemedlmagdaa
open Go.RowKit
set_option linter.unusedVariables false
set_option linter.unusedSimpArgs false

def enB (e : Ent) : Bool := ptB e.1 && inB e.2.1 0 99 && inB e.2.2 0 999
def cvFrom : Int → List Ent → Bool
  | _, [] => true
  | p, e :: es => enB e && decide (p < e.1) && cvFrom e.1 es
def cvB (zs : List Ent) : Bool := cvFrom (-1) zs && decide (zs.length ≤ 6)
theorem enB_parts {e : Ent} (h : enB e = true) : (0 ≤ e.1 ∧ e.1 ≤ 63) ∧ (0 ≤ e.2.1 ∧ e.2.1 ≤ 99) ∧ (0 ≤ e.2.2 ∧ e.2.2 ≤ 999) := by
  simp only [enB, Bool.and_eq_true] at h
  exact ⟨ptB_true h.1.1, inB_true h.1.2, inB_true h.2⟩

set_option maxHeartbeats 400000 in
theorem l12Time_any (n : Int) (w : World) : Calls Try.prog 34 #[.int .i64 n] w fun e w' => e = .returned (.bool (inB n 0 999)) ∧ w = w' := by
  go_enter Try.func34, Try.ntmps34
  go_wp2_with (go_at_call 33; refine (l6In_any _ _ _ _).mono ?_; rintro e w' ⟨rfl, rfl⟩)
  go_ret
  exact ⟨rfl, rfl⟩

set_option maxHeartbeats 400000 in
theorem times1_any (n : Int) (w : World) : Calls Try.prog 52 #[.int .i64 n] w fun e w' => e = .returned (.bool (!inB n 0 999)) ∧ w = w' := by
  go_enter Try.func52, Try.ntmps52
  go_wp2_with (go_at_call 44; refine (inRange_any _ _ _ _).mono ?_; rintro e w' ⟨rfl, rfl⟩)
  go_ret
  exact ⟨rfl, rfl⟩
theorem saysT : Says 52 (fun n => !inB n 0 999) := ⟨enters_of Try.func52 (by kernel_rfl) rfl, times1_any⟩

set_option maxHeartbeats 400000 in
theorem times_any (v : Value) (n : Int) (w : World) (hr : RInts w v [n]) :
    Calls Try.prog 40 #[v] w fun e w' => e = .returned (.bool (inB n 0 999)) ∧ w = w' := by
  obtain ⟨a, cap, rfl, hc, hm, _⟩ := id hr
  have HR := Lib.hid hr; clear hr
  go_enter Try.func40, Try.ntmps40
  go_wp2_with fail
  refine (containsFunc_any _ _ saysT _ [n] _ (by simp) HR.out).mono ?_
  rintro e w' ⟨rfl, rfl⟩
  go_wp2
  go_ret
  exact ⟨ret_bool (by simp), rfl⟩

/-- What the call lays for its one argument. -/
theorem reads_one (w : World) (n : Int) {g : Nat} (hg : g = w.heap.size) : RInts (w.alloc (.cells #[.int .i64 n] 3)) (.slice (some ⟨g, 0, none⟩) 1 1) [n] := by
  subst hg
  exact ⟨_, 1, rfl, by simp, by unfold maxLen; omega, fun i hi => ⟨w.heap.size, 0, rfl, by simp, by
    have : i = 0 := by simp at hi; omega
    subst this
    exact cell_of_row _ _ 0 _ _ (0, 0) (heap_alloc_new _ _)⟩⟩

set_option maxHeartbeats 400000 in
theorem entryOk_any (x y z : Int) (w : World) :
    Calls Try.prog 25 #[.agg #[.int .i64 x, .int .i64 y, .int .i64 z]] w fun e w' => e = .returned (.bool (enB (x, y, z))) ∧ Below w.heap.size w w' := by
  cases h1 : ptB x with
  | false =>
    go_enter Try.func25, Try.ntmps25
    go_wp2_with ((go_at_call 39; refine (ok_any _ _).mono ?_; rintro e w' ⟨rfl, rfl⟩))
    go_ret
    exact ⟨ret_bool (by simp [enB, h1]), below_alloc _ _⟩
  | true =>
    cases h2 : inB y 0 99 with
    | false =>
      go_enter Try.func25, Try.ntmps25
      go_wp2_with (first | (go_at_call 39; refine (ok_any _ _).mono ?_; rintro e w' ⟨rfl, rfl⟩) | (go_at_call 44; refine (inRange_any _ _ _ _).mono ?_; rintro e w' ⟨rfl, rfl⟩))
      go_ret
      exact ⟨ret_bool (by simp [enB, h1, h2]), below_alloc _ _⟩
    | true =>
      go_enter Try.func25, Try.ntmps25
      go_wp2_with fail
      refine (ok_any _ _).mono ?_; rintro e w' ⟨rfl, rfl⟩
      go_wp2_with fail
      refine (inRange_any _ _ _ _).mono ?_; rintro e w' ⟨rfl, rfl⟩
      go_wp2_with fail
      refine (times_any _ z _ ?c1).mono ?_
      case c1 => exact reads_one _ z (by simp)
      rintro e w' ⟨rfl, rfl⟩
      go_wp2
      go_ret
      exact ⟨ret_bool (by simp [enB, h1, h2]), bAl (below_alloc _ _) _⟩

/-- The key before place j, or -1. -/
def prevK (zs : List Ent) : Nat → Int
  | 0 => -1
  | j + 1 => (zs.getD j (0, 0, 0)).1
theorem prevK_pos {zs : List Ent} {j k : Nat} (h : j = k + 1) (hk : k < zs.length) : prevK zs j = zs[k].1 := by
  subst h; simp [prevK, hk]
theorem cvFrom_step (zs : List Ent) (j : Nat) (hj : j < zs.length) : cvFrom (prevK zs j) (zs.drop j) = (enB zs[j] && decide (prevK zs j < zs[j].1) && cvFrom (prevK zs (j + 1)) (zs.drop (j + 1))) := by
  rw [List.drop_eq_getElem_cons hj, cvFrom]
  simp [prevK, hj]
theorem cvFrom_at (zs : List Ent) (j : Nat) (hj : j < zs.length) {x y z p : Int} (hz : zs[j] = (x, y, z)) (hp : prevK zs j = p) : cvFrom (prevK zs j) (zs.drop j) = (ptB x && inB y 0 99 && inB z 0 999 && decide (p < x) && cvFrom (prevK zs (j + 1)) (zs.drop (j + 1))) := by
  rw [cvFrom_step zs j hj, hz, hp]; rfl
theorem cvFrom_end (zs : List Ent) (j : Nat) (hj : zs.length ≤ j) : cvFrom (prevK zs j) (zs.drop j) = true := by
  rw [List.drop_of_length_le hj]; rfl

/-- w' is w but for draws. -/
def Drawn (w w' : World) : Prop := ∃ n, w' = w.drewN n
theorem Drawn.refl (w : World) : Drawn w w := ⟨0, rfl⟩
theorem Drawn.cell {w w' : World} (h : Drawn w w') (a : Addr) : w'.cell? a = w.cell? a := by obtain ⟨n, rfl⟩ := h; rfl
theorem Drawn.next {w wi : World} (h : Drawn w wi) (n : Nat) : Drawn w (wi.drewN n) := by obtain ⟨m, rfl⟩ := h; exact draws_two _ _ _
theorem quiet_left {P : Program} {f : FuncId} {args : Array Value} {w : World} {n : Nat} {v : Value}
    (h : Calls P f args (w.drewN n) fun e w' => e = .returned v ∧ w.drewN n = w') : Calls P f args (w.drewN n) fun e w'' => e = .returned v ∧ ∃ m, w'' = w.drewN m :=
  h.mono fun _ _ ⟨he, hm⟩ => ⟨he, n, hm.symm⟩

set_option maxHeartbeats 4000000 in
theorem specCacheValid_any (v : Value) (zs : List Ent) (w : World) (hl : zs.length ≤ 4194304) (hr : RRow EL w v zs) :
    Calls Try.prog 31 #[v] w fun e w' => e = .returned (.bool (cvB zs)) ∧ Drawn w w' := by
  obtain ⟨a, cap, rfl, hc, hm, -⟩ := id hr
  have hcell := hr.ent
  clear hr
  go_enter Try.func31, Try.ntmps31
  go_wp2
  go_loopw [3] (fun i wr => ∃ j : Nat, j ≤ zs.length ∧ i = .int .i64 j ∧ Hid (cvFrom (-1) zs = cvFrom (prevK zs j) (zs.drop j)) ∧ Drawn w wr) (fun i _ => zs.length - (intOf i).toNat)
  case atStart => exact ⟨0, Nat.zero_le _, rfl, Lib.hid rfl, Drawn.refl _⟩
  case round =>
    obtain ⟨j, hj, rfl, hH, hD⟩ := hrel
    by_cases hlt : j < zs.length
    · obtain ⟨b, off, rfl, hbl, h0, h1, h2⟩ := hcell j hlt
      rw [← hD.cell] at h0 h1 h2
      obtain ⟨x, hx⟩ : ∃ x, x = zs[j].1 := ⟨_, rfl⟩
      obtain ⟨y, hy⟩ : ∃ y, y = zs[j].2.1 := ⟨_, rfl⟩
      obtain ⟨z, hz⟩ : ∃ z, z = zs[j].2.2 := ⟨_, rfl⟩
      rw [← hx] at h0; rw [← hy] at h1; rw [← hz] at h2
      have HX : Hid (zs[j] = (x, y, z)) := Lib.hid (by rw [hx, hy, hz])
      clear hx hy hz
      by_cases hj0 : 0 < j
      · obtain ⟨k, hk⟩ : ∃ k, j = k + 1 := ⟨j - 1, by omega⟩
        have hk' : k < zs.length := by omega
        obtain ⟨b', off', he, -, g0, -, -⟩ := hcell k hk'
        rw [← hD.cell] at g0
        simp only [Option.some.injEq, Addr.mk.injEq, and_true] at he
        obtain ⟨rfl, rfl⟩ := he
        have hP := prevK_pos hk hk'
        obtain ⟨p, hp⟩ : ∃ p, p = (zs[k]'hk').1 := ⟨_, rfl⟩
        rw [← hp] at hP g0
        have HS := Lib.hid (cvFrom_at zs j hlt HX.out hP)
        have e1 : (j : Int) - 1 = k := by omega
        have e2 : IntKind.i64.wrap ((j : Int) - 1) = k := by rw [e1]; exact IntWalk.i64_in _ (by omega)
        have e3 : decide (0 < (j : Int)) = true := decide_eq_true (by omega)
        have e3' : decide (0 < j) = true := decide_eq_true (by omega)
        clear hp hP hcell hk HX
        cases q1 : ptB x with
        | false =>
          go_wp2
          go_quiet (((first | (go_at_call 32; exact quiet_left (l1Point_any _ _)) | (go_at_call 33; exact quiet_left (l6In_any _ _ _ _)) | (go_at_call 34; exact quiet_left (l12Time_any _ _)))))
          go_wp2
          go_ret
          exact ⟨ret_bool (by rw [cvB, hH.out, HS.out]; simp [q1]), hD.next _⟩
        | true =>
          cases q2 : inB y 0 99 with
          | false =>
            go_wp2
            go_quiet (((first | (go_at_call 32; exact quiet_left (l1Point_any _ _)) | (go_at_call 33; exact quiet_left (l6In_any _ _ _ _)) | (go_at_call 34; exact quiet_left (l12Time_any _ _)))))
            go_wp2
            go_ret
            exact ⟨ret_bool (by rw [cvB, hH.out, HS.out]; simp [q1, q2]), hD.next _⟩
          | true =>
            cases q3 : inB z 0 999 with
            | false =>
              go_wp2
              go_quiet (((first | (go_at_call 32; exact quiet_left (l1Point_any _ _)) | (go_at_call 33; exact quiet_left (l6In_any _ _ _ _)) | (go_at_call 34; exact quiet_left (l12Time_any _ _)))))
              go_wp2
              go_ret
              exact ⟨ret_bool (by rw [cvB, hH.out, HS.out]; simp [q1, q2, q3]), hD.next _⟩
            | true =>
              by_cases q4 : p < x
              · have q5 : decide (x ≤ p) = false := decide_eq_false (by omega)
                have Q4 : Hid (decide (p < x) = true) := Lib.hid (decide_eq_true q4)
                go_wp2
                go_quiet (((first | (go_at_call 32; exact quiet_left (l1Point_any _ _)) | (go_at_call 33; exact quiet_left (l6In_any _ _ _ _)) | (go_at_call 34; exact quiet_left (l12Time_any _ _)))))
                go_wp2
                go_roundw
                case rel => exact ⟨j + 1, by omega, by go_num, Lib.hid (by rw [hH.out, HS.out]; simp [q1, q2, q3, Q4.out]), hD.next _⟩
                case measure => simp [intOf]; omega
              · have q5 : decide (x ≤ p) = true := decide_eq_true (by omega)
                have Q4 : Hid (decide (p < x) = false) := Lib.hid (decide_eq_false q4)
                go_wp2
                go_quiet (((first | (go_at_call 32; exact quiet_left (l1Point_any _ _)) | (go_at_call 33; exact quiet_left (l6In_any _ _ _ _)) | (go_at_call 34; exact quiet_left (l12Time_any _ _)))))
                go_wp2
                go_ret
                exact ⟨ret_bool (by rw [cvB, hH.out, HS.out]; simp [q1, q2, q3, Q4.out]), hD.next _⟩
      · have e3 : decide (0 < (j : Int)) = false := decide_eq_false (by omega)
        have e3' : decide (0 < j) = false := decide_eq_false (by omega)
        have hP : prevK zs j = -1 := by
          have : j = 0 := by omega
          subst this; rfl
        have HS := Lib.hid (cvFrom_at zs j hlt HX.out hP)
        clear hP hcell HX
        cases q1 : ptB x with
        | false =>
          go_wp2
          go_quiet (((first | (go_at_call 32; exact quiet_left (l1Point_any _ _)) | (go_at_call 33; exact quiet_left (l6In_any _ _ _ _)) | (go_at_call 34; exact quiet_left (l12Time_any _ _)))))
          go_wp2
          go_ret
          exact ⟨ret_bool (by rw [cvB, hH.out, HS.out]; simp [q1]), hD.next _⟩
        | true =>
          cases q2 : inB y 0 99 with
          | false =>
            go_wp2
            go_quiet (((first | (go_at_call 32; exact quiet_left (l1Point_any _ _)) | (go_at_call 33; exact quiet_left (l6In_any _ _ _ _)) | (go_at_call 34; exact quiet_left (l12Time_any _ _)))))
            go_wp2
            go_ret
            exact ⟨ret_bool (by rw [cvB, hH.out, HS.out]; simp [q1, q2]), hD.next _⟩
          | true =>
            cases q3 : inB z 0 999 with
            | false =>
              go_wp2
              go_quiet (((first | (go_at_call 32; exact quiet_left (l1Point_any _ _)) | (go_at_call 33; exact quiet_left (l6In_any _ _ _ _)) | (go_at_call 34; exact quiet_left (l12Time_any _ _)))))
              go_wp2
              go_ret
              exact ⟨ret_bool (by rw [cvB, hH.out, HS.out]; simp [q1, q2, q3]), hD.next _⟩
            | true =>
              have q4 : decide (-1 < x) = true := decide_eq_true (by have := ptB_true q1; omega)
              have Q4 := Lib.hid q4; clear q4
              go_wp2
              go_quiet (((first | (go_at_call 32; exact quiet_left (l1Point_any _ _)) | (go_at_call 33; exact quiet_left (l6In_any _ _ _ _)) | (go_at_call 34; exact quiet_left (l12Time_any _ _)))))
              go_wp2
              go_roundw
              case rel => exact ⟨j + 1, by omega, by go_num, Lib.hid (by rw [hH.out, HS.out]; simp [q1, q2, q3, Q4.out]), hD.next _⟩
              case measure => simp [intOf]; omega
    · go_wp2
      go_ret
      refine ⟨ret_bool ?_, hD⟩
      rw [cvB, hH.out, cvFrom_end zs j (by omega), Bool.true_and]
      simp
      omega
end Go.Proofs.Ytcahemedlmagdaa
