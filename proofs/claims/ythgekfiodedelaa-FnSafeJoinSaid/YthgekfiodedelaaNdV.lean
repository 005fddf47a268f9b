/- spec.RingValid. -/
import Derived.Test.YthgekfiodedelaaNd
import Derived.Test.YthgekfiodedelaaNodes
namespace Go.Proofs.Ythgekfiodedelaa
open Go.RowKit
set_option linter.unusedVariables false
set_option linter.unusedSimpArgs false

def ndOk (e : Rn) : Bool := ptB e.1 && (decide (e.2.1 = -1) || ptB e.2.1) && decide (e.2.2.length = 2) && e.2.2.all ptB
def vFrom : Int → List Rn → Bool
  | _, [] => true
  | q, e :: D => ndOk e && decide (q < e.1) && vFrom e.1 D
def vD (D : List Rn) : Bool := vFrom (-1) D && decide (D.length ≤ 10)
def prevN (D : List Rn) : Nat → Int
  | 0 => -1
  | k + 1 => (D.getD k (0, 0, [])).1
theorem prevN_pos {D : List Rn} {j k : Nat} (h : j = k + 1) (hk : k < D.length) : prevN D j = D[k].1 := by
  subst h; simp [prevN, List.getD, hk]
theorem vFrom_at (D : List Rn) (j : Nat) (hj : j < D.length) {x q : Int} {e : Rn} (hz : D[j] = e) (hx : e.1 = x) (hp : prevN D j = q) : vFrom (prevN D j) (D.drop j) = (ndOk e && decide (q < x) && vFrom (prevN D (j + 1)) (D.drop (j + 1))) := by
  have h1 : prevN D (j + 1) = e.1 := by rw [prevN_pos rfl hj, hz]
  rw [h1, List.drop_eq_getElem_cons hj, vFrom, hz, hp, hx]
theorem vFrom_end (D : List Rn) (j : Nat) (hj : D.length ≤ j) : vFrom (prevN D j) (D.drop j) = true := by
  rw [List.drop_eq_nil_of_le hj]; rfl
theorem quiet_l {P : Program} {f : FuncId} {args : Array Value} {w : World} {n : Nat} {v : Value}
    (h : Calls P f args (w.drewN n) fun e w' => e = .returned v ∧ w.drewN n = w') : Calls P f args (w.drewN n) fun e w'' => e = .returned v ∧ ∃ m, w'' = w.drewN m :=
  h.mono fun _ _ ⟨he, hm⟩ => ⟨he, n, hm.symm⟩

set_option maxRecDepth 100000 in
set_option maxHeartbeats 8000000 in
theorem specRingValid_any (v : Value) (D : List Rn) (w : World) (hl : D.length ≤ 4194304) (hr : RRing w v D) :
    Calls Try.prog 32 #[v] w fun e w' => e = .returned (.bool (vD D)) ∧ Below w.heap.size w w' := by
  obtain ⟨a, cap, rfl, hc, hm⟩ := id hr.sl
  have HR := Lib.hid hr; clear hr
  go_enter Try.func32, Try.ntmps32
  go_wp2
  go_loopw [3, 4, 5] (fun i _ _ wr => ∃ j : Nat, j ≤ D.length ∧ i = .int .i64 j ∧ Hid (vFrom (-1) D = vFrom (prevN D j) (D.drop j)) ∧ Hid (Below w.heap.size w wr)) (fun i _ _ _ => D.length - (intOf i).toNat)
  case atStart => exact ⟨0, Nat.zero_le _, rfl, Lib.hid rfl, Lib.hid (Below.refl _ _)⟩
  case round =>
    obtain ⟨j, hj, rfl, hH, BJ⟩ := hrel
    by_cases hlt : j < D.length
    · have RJ := HR.out.bl BJ.out
      obtain ⟨b, off, s, c, rfl, hb, x0, x1, x2, r3⟩ := RJ.nd j hlt
      have xp : ∀ k, j = k + 1 → wr.cell? ⟨b, off + k * 3, none⟩ = some (.int .i64 (prevN D j)) := fun k hk => by
        obtain ⟨b', off', s', c', he, -, y0, -, -, -⟩ := RJ.nd k (by omega)
        simp only [Option.some.injEq, Addr.mk.injEq, and_true] at he
        obtain ⟨rfl, rfl⟩ := he
        rw [y0, prevN_pos hk (by omega)]
      obtain ⟨x, hx⟩ : ∃ x, x = D[j].1 := ⟨_, rfl⟩
      obtain ⟨y, hy⟩ : ∃ y, y = D[j].2.1 := ⟨_, rfl⟩
      obtain ⟨zs, hzs⟩ : ∃ zs, zs = D[j].2.2 := ⟨_, rfl⟩
      rw [← hx] at x0; rw [← hy] at x1; rw [← hzs] at x2 r3
      obtain ⟨q, hq⟩ : ∃ q, q = prevN D j := ⟨_, rfl⟩
      rw [← hq] at xp
      have HS := Lib.hid (vFrom_at D j hlt (e := (x, y, zs)) (by rw [hx, hy, hzs]) rfl hq.symm)
      have hq0 : j = 0 → q = -1 := fun h => by rw [hq, h]; rfl
      have HN : Hid (ndOk (x, y, zs) = (ptB x && (decide (y = -1) || ptB y) && decide (zs.length = 2) && zs.all ptB)) := Lib.hid rfl
      clear RJ hx hy hzs hq
      have C1 := Lib.hid (bAl BJ.out (.cells #[.int .i64 x, .int .i64 y, .slice s zs.length c] 37))
      have R3 := Lib.hid (r3.al (.cells #[.int .i64 x, .int .i64 y, .slice s zs.length c] 37))
      have BK := Lib.hid (Blk.new wr #[.int .i64 x, .int .i64 y, .slice s zs.length c] 37)
      have xp' : ∀ k, j = k + 1 → (wr.alloc (.cells #[.int .i64 x, .int .i64 y, .slice s zs.length c] 37)).cell? ⟨b, off + k * 3, none⟩ = some (.int .i64 q) := fun k hk => by
        rw [(below_alloc wr _).cell (p := ⟨b, off + k * 3, none⟩) hb]; exact xp k hk
      clear xp r3 BJ
      go_wp2
      clear x0 x1 x2
      obtain ⟨W, hW⟩ : ∃ W, W = wr.alloc (.cells #[.int .i64 x, .int .i64 y, .slice s zs.length c] 37) := ⟨_, rfl⟩
      obtain ⟨G, hG⟩ : ∃ G, G = wr.heap.size := ⟨_, rfl⟩
      rw [← hW, ← hG] at BK
      rw [← hW] at C1 R3 xp'
      rw [← hW, ← hG]
      have hGW : G < W.heap.size := by rw [hW, hG]; simp
      obtain ⟨y0, y1, y2⟩ := BK.out.get3
      clear hW hG BK

      cases q1 : ptB x with
      | false =>
        clear xp'
        go_wp2
        go_quiet (((first | (go_at_call 44; exact quiet_l (l1Point_any _ _)))))
        go_wp2
        go_ret
        exact ⟨ret_bool (by rw [vD, hH.out, HS.out, HN.out]; simp [q1]), bDr C1.out _⟩
      | true =>
        by_cases h0 : j = 0
        · have e3 : decide (0 < (j : Int)) = false := decide_eq_false (by omega)
          have e3' : decide (0 < j) = false := decide_eq_false (by omega)
          have QX : Hid (decide (q < x) = true) := Lib.hid (decide_eq_true (by rw [hq0 h0]; have := ptB_true q1; omega))
          clear xp' hq0 h0
          by_cases q3 : y = -1
          · have e5 : (y != -1) = false := by simp [q3]
            have Q3 : Hid ((decide (y = -1) || ptB y) = true) := Lib.hid (by simp [q3])
            clear q3
            by_cases q6 : zs.length = 2
            · have e6 : ((zs.length : Int) != 2) = false := by simp [q6]
              have Q6 : Hid (decide (zs.length = 2) = true) := Lib.hid (decide_eq_true q6)
              have hzl : zs.length ≤ 4 := by omega
              clear q6
              go_wp2
              go_quiet (((first | (go_at_call 44; exact quiet_l (l1Point_any _ _)))))
              go_wp2
              simp only [q1]
              go_loopw [5] (fun k wr => ∃ m : Nat, m ≤ zs.length ∧ k = .int .i64 m ∧ Hid (zs.all ptB = (zs.drop m).all ptB) ∧ ∃ n, wr = W.drewN n) (fun k _ => zs.length - (intOf k).toNat)
              case atStart => exact ⟨0, Nat.zero_le _, rfl, Lib.hid rfl, by first | exact ⟨_, rfl⟩ | exact draws_two _ _ _⟩
              case round =>
                obtain ⟨m, hm, rfl, HA, n1, rfl⟩ := hrel
                by_cases hmt : m < zs.length
                · obtain ⟨bz, oz, rfl, hbz, z0⟩ : ∃ b off, s = some ⟨b, off, none⟩ ∧ b < W.heap.size ∧ W.cell? ⟨b, off + m, none⟩ = some (.int .i64 zs[m]) := by
                    obtain ⟨_, _, e, -, -, hc⟩ := R3.out
                    cases e
                    exact hc m hmt
                  have HD : Hid ((zs.drop m).all ptB = (ptB zs[m] && (zs.drop (m + 1)).all ptB)) := Lib.hid (by rw [List.drop_eq_getElem_cons hmt, List.all_cons])
                  generalize zs[m] = z at *
                  cases qz : ptB z with
                  | false =>
                    go_wp2_with fail
                    refine (l1Point_any z _).mono ?_
                    rw [qz]
                    rintro e w9 ⟨rfl, rfl⟩
                    go_wp2
                    go_ret
                    exact ⟨ret_bool (by rw [vD, hH.out, HS.out, HN.out, HA.out, HD.out, qz]; simp), bDr C1.out _⟩
                  | true =>
                    have HA1 : Hid (zs.all ptB = (zs.drop (m + 1)).all ptB) := Lib.hid (by rw [HA.out, HD.out, qz]; rfl)
                    go_wp2_with fail
                    refine (l1Point_any z _).mono ?_
                    rw [qz]
                    rintro e w9 ⟨rfl, rfl⟩
                    go_wp2
                    go_roundw
                    case rel => exact ⟨m + 1, by omega, by go_num, HA1, n1, rfl⟩
                    case measure => simp [intOf]; omega
                · have HA1 : Hid (zs.all ptB = true) := Lib.hid (by rw [HA.out, List.drop_eq_nil_of_le (by omega)]; rfl)
                  obtain rfl : m = zs.length := by omega
                  have HO : Hid (ndOk (x, y, zs) = true) := Lib.hid (by rw [HN.out, Q3.out, Q6.out, HA1.out, q1]; rfl)
                  have HV : Hid (vFrom (-1) D = vFrom (prevN D (j + 1)) (D.drop (j + 1))) := Lib.hid (by rw [hH.out, HS.out, HO.out, QX.out]; rfl)
                  go_wp2
                  go_roundw
                  case rel => exact ⟨j + 1, by omega, by go_num, HV, Lib.hid (bDr C1.out _)⟩
                  case measure => simp [intOf]; omega
            · have e6 : ((zs.length : Int) != 2) = true := by simp; omega
              have Q6 : Hid (decide (zs.length = 2) = false) := Lib.hid (decide_eq_false q6)
              clear q6
              go_wp2
              go_quiet (((first | (go_at_call 44; exact quiet_l (l1Point_any _ _)))))
              go_wp2
              go_ret
              exact ⟨ret_bool (by rw [vD, hH.out, HS.out, HN.out]; simp [Q6.out]), bDr C1.out _⟩
          · have e5 : (y != -1) = true := by simp [q3]
            cases q4 : ptB y with
            | false =>
              have Q3 : Hid ((decide (y = -1) || ptB y) = false) := Lib.hid (by simp [q3, q4])
              clear q3
              go_wp2
              go_quiet (((first | (go_at_call 44; exact quiet_l (l1Point_any _ _)))))
              go_wp2
              go_ret
              exact ⟨ret_bool (by rw [vD, hH.out, HS.out, HN.out]; simp [Q3.out]), bDr C1.out _⟩
            | true =>
              have Q3 : Hid ((decide (y = -1) || ptB y) = true) := Lib.hid (by simp [q4])
              clear q3
              by_cases q6 : zs.length = 2
              · have e6 : ((zs.length : Int) != 2) = false := by simp [q6]
                have Q6 : Hid (decide (zs.length = 2) = true) := Lib.hid (decide_eq_true q6)
                have hzl : zs.length ≤ 4 := by omega
                clear q6
                go_wp2
                go_quiet (((first | (go_at_call 44; exact quiet_l (l1Point_any _ _)))))
                go_wp2
                simp only [q1]
                simp only [q4]
                go_loopw [5] (fun k wr => ∃ m : Nat, m ≤ zs.length ∧ k = .int .i64 m ∧ Hid (zs.all ptB = (zs.drop m).all ptB) ∧ ∃ n, wr = W.drewN n) (fun k _ => zs.length - (intOf k).toNat)
                case atStart => exact ⟨0, Nat.zero_le _, rfl, Lib.hid rfl, by first | exact ⟨_, rfl⟩ | exact draws_two _ _ _⟩
                case round =>
                  obtain ⟨m, hm, rfl, HA, n1, rfl⟩ := hrel
                  by_cases hmt : m < zs.length
                  · obtain ⟨bz, oz, rfl, hbz, z0⟩ : ∃ b off, s = some ⟨b, off, none⟩ ∧ b < W.heap.size ∧ W.cell? ⟨b, off + m, none⟩ = some (.int .i64 zs[m]) := by
                      obtain ⟨_, _, e, -, -, hc⟩ := R3.out
                      cases e
                      exact hc m hmt
                    have HD : Hid ((zs.drop m).all ptB = (ptB zs[m] && (zs.drop (m + 1)).all ptB)) := Lib.hid (by rw [List.drop_eq_getElem_cons hmt, List.all_cons])
                    generalize zs[m] = z at *
                    cases qz : ptB z with
                    | false =>
                      go_wp2_with fail
                      refine (l1Point_any z _).mono ?_
                      rw [qz]
                      rintro e w9 ⟨rfl, rfl⟩
                      go_wp2
                      go_ret
                      exact ⟨ret_bool (by rw [vD, hH.out, HS.out, HN.out, HA.out, HD.out, qz]; simp), bDr C1.out _⟩
                    | true =>
                      have HA1 : Hid (zs.all ptB = (zs.drop (m + 1)).all ptB) := Lib.hid (by rw [HA.out, HD.out, qz]; rfl)
                      go_wp2_with fail
                      refine (l1Point_any z _).mono ?_
                      rw [qz]
                      rintro e w9 ⟨rfl, rfl⟩
                      go_wp2
                      go_roundw
                      case rel => exact ⟨m + 1, by omega, by go_num, HA1, n1, rfl⟩
                      case measure => simp [intOf]; omega
                  · have HA1 : Hid (zs.all ptB = true) := Lib.hid (by rw [HA.out, List.drop_eq_nil_of_le (by omega)]; rfl)
                    obtain rfl : m = zs.length := by omega
                    have HO : Hid (ndOk (x, y, zs) = true) := Lib.hid (by rw [HN.out, Q3.out, Q6.out, HA1.out, q1]; rfl)
                    have HV : Hid (vFrom (-1) D = vFrom (prevN D (j + 1)) (D.drop (j + 1))) := Lib.hid (by rw [hH.out, HS.out, HO.out, QX.out]; rfl)
                    go_wp2
                    go_roundw
                    case rel => exact ⟨j + 1, by omega, by go_num, HV, Lib.hid (bDr C1.out _)⟩
                    case measure => simp [intOf]; omega
              · have e6 : ((zs.length : Int) != 2) = true := by simp; omega
                have Q6 : Hid (decide (zs.length = 2) = false) := Lib.hid (decide_eq_false q6)
                clear q6
                go_wp2
                go_quiet (((first | (go_at_call 44; exact quiet_l (l1Point_any _ _)))))
                go_wp2
                go_ret
                exact ⟨ret_bool (by rw [vD, hH.out, HS.out, HN.out]; simp [Q6.out]), bDr C1.out _⟩
        · obtain ⟨k, hk⟩ : ∃ k, j = k + 1 := ⟨j - 1, by omega⟩
          have g0 := xp' k hk
          have e1 : (j : Int) - 1 = k := by omega
          have e2 : IntKind.i64.wrap ((j : Int) - 1) = k := by rw [e1]; exact IntWalk.i64_in _ (by omega)
          have e3 : decide (0 < (j : Int)) = true := decide_eq_true (by omega)
          have e3' : decide (0 < j) = true := decide_eq_true (by omega)
          have hkl : k < D.length := by omega
          clear xp' hq0 h0 hk
          by_cases q2 : q < x
          · have e4 : decide (x ≤ q) = false := decide_eq_false (by omega)
            have QX : Hid (decide (q < x) = true) := Lib.hid (decide_eq_true q2)
            clear q2
            by_cases q3 : y = -1
            · have e5 : (y != -1) = false := by simp [q3]
              have Q3 : Hid ((decide (y = -1) || ptB y) = true) := Lib.hid (by simp [q3])
              clear q3
              by_cases q6 : zs.length = 2
              · have e6 : ((zs.length : Int) != 2) = false := by simp [q6]
                have Q6 : Hid (decide (zs.length = 2) = true) := Lib.hid (decide_eq_true q6)
                have hzl : zs.length ≤ 4 := by omega
                clear q6
                go_wp2
                go_quiet (((first | (go_at_call 44; exact quiet_l (l1Point_any _ _)))))
                go_wp2
                simp only [q1]
                go_loopw [5] (fun k wr => ∃ m : Nat, m ≤ zs.length ∧ k = .int .i64 m ∧ Hid (zs.all ptB = (zs.drop m).all ptB) ∧ ∃ n, wr = W.drewN n) (fun k _ => zs.length - (intOf k).toNat)
                case atStart => exact ⟨0, Nat.zero_le _, rfl, Lib.hid rfl, by first | exact ⟨_, rfl⟩ | exact draws_two _ _ _⟩
                case round =>
                  obtain ⟨m, hm, rfl, HA, n1, rfl⟩ := hrel
                  by_cases hmt : m < zs.length
                  · obtain ⟨bz, oz, rfl, hbz, z0⟩ : ∃ b off, s = some ⟨b, off, none⟩ ∧ b < W.heap.size ∧ W.cell? ⟨b, off + m, none⟩ = some (.int .i64 zs[m]) := by
                      obtain ⟨_, _, e, -, -, hc⟩ := R3.out
                      cases e
                      exact hc m hmt
                    have HD : Hid ((zs.drop m).all ptB = (ptB zs[m] && (zs.drop (m + 1)).all ptB)) := Lib.hid (by rw [List.drop_eq_getElem_cons hmt, List.all_cons])
                    generalize zs[m] = z at *
                    cases qz : ptB z with
                    | false =>
                      go_wp2_with fail
                      refine (l1Point_any z _).mono ?_
                      rw [qz]
                      rintro e w9 ⟨rfl, rfl⟩
                      go_wp2
                      go_ret
                      exact ⟨ret_bool (by rw [vD, hH.out, HS.out, HN.out, HA.out, HD.out, qz]; simp), bDr C1.out _⟩
                    | true =>
                      have HA1 : Hid (zs.all ptB = (zs.drop (m + 1)).all ptB) := Lib.hid (by rw [HA.out, HD.out, qz]; rfl)
                      go_wp2_with fail
                      refine (l1Point_any z _).mono ?_
                      rw [qz]
                      rintro e w9 ⟨rfl, rfl⟩
                      go_wp2
                      go_roundw
                      case rel => exact ⟨m + 1, by omega, by go_num, HA1, n1, rfl⟩
                      case measure => simp [intOf]; omega
                  · have HA1 : Hid (zs.all ptB = true) := Lib.hid (by rw [HA.out, List.drop_eq_nil_of_le (by omega)]; rfl)
                    obtain rfl : m = zs.length := by omega
                    have HO : Hid (ndOk (x, y, zs) = true) := Lib.hid (by rw [HN.out, Q3.out, Q6.out, HA1.out, q1]; rfl)
                    have HV : Hid (vFrom (-1) D = vFrom (prevN D (j + 1)) (D.drop (j + 1))) := Lib.hid (by rw [hH.out, HS.out, HO.out, QX.out]; rfl)
                    go_wp2
                    go_roundw
                    case rel => exact ⟨j + 1, by omega, by go_num, HV, Lib.hid (bDr C1.out _)⟩
                    case measure => simp [intOf]; omega
              · have e6 : ((zs.length : Int) != 2) = true := by simp; omega
                have Q6 : Hid (decide (zs.length = 2) = false) := Lib.hid (decide_eq_false q6)
                clear q6
                go_wp2
                go_quiet (((first | (go_at_call 44; exact quiet_l (l1Point_any _ _)))))
                go_wp2
                go_ret
                exact ⟨ret_bool (by rw [vD, hH.out, HS.out, HN.out]; simp [Q6.out]), bDr C1.out _⟩
            · have e5 : (y != -1) = true := by simp [q3]
              cases q4 : ptB y with
              | false =>
                have Q3 : Hid ((decide (y = -1) || ptB y) = false) := Lib.hid (by simp [q3, q4])
                clear q3
                go_wp2
                go_quiet (((first | (go_at_call 44; exact quiet_l (l1Point_any _ _)))))
                go_wp2
                go_ret
                exact ⟨ret_bool (by rw [vD, hH.out, HS.out, HN.out]; simp [Q3.out]), bDr C1.out _⟩
              | true =>
                have Q3 : Hid ((decide (y = -1) || ptB y) = true) := Lib.hid (by simp [q4])
                clear q3
                by_cases q6 : zs.length = 2
                · have e6 : ((zs.length : Int) != 2) = false := by simp [q6]
                  have Q6 : Hid (decide (zs.length = 2) = true) := Lib.hid (decide_eq_true q6)
                  have hzl : zs.length ≤ 4 := by omega
                  clear q6
                  go_wp2
                  go_quiet (((first | (go_at_call 44; exact quiet_l (l1Point_any _ _)))))
                  go_wp2
                  simp only [q1]
                  simp only [q4]
                  go_loopw [5] (fun k wr => ∃ m : Nat, m ≤ zs.length ∧ k = .int .i64 m ∧ Hid (zs.all ptB = (zs.drop m).all ptB) ∧ ∃ n, wr = W.drewN n) (fun k _ => zs.length - (intOf k).toNat)
                  case atStart => exact ⟨0, Nat.zero_le _, rfl, Lib.hid rfl, by first | exact ⟨_, rfl⟩ | exact draws_two _ _ _⟩
                  case round =>
                    obtain ⟨m, hm, rfl, HA, n1, rfl⟩ := hrel
                    by_cases hmt : m < zs.length
                    · obtain ⟨bz, oz, rfl, hbz, z0⟩ : ∃ b off, s = some ⟨b, off, none⟩ ∧ b < W.heap.size ∧ W.cell? ⟨b, off + m, none⟩ = some (.int .i64 zs[m]) := by
                        obtain ⟨_, _, e, -, -, hc⟩ := R3.out
                        cases e
                        exact hc m hmt
                      have HD : Hid ((zs.drop m).all ptB = (ptB zs[m] && (zs.drop (m + 1)).all ptB)) := Lib.hid (by rw [List.drop_eq_getElem_cons hmt, List.all_cons])
                      generalize zs[m] = z at *
                      cases qz : ptB z with
                      | false =>
                        go_wp2_with fail
                        refine (l1Point_any z _).mono ?_
                        rw [qz]
                        rintro e w9 ⟨rfl, rfl⟩
                        go_wp2
                        go_ret
                        exact ⟨ret_bool (by rw [vD, hH.out, HS.out, HN.out, HA.out, HD.out, qz]; simp), bDr C1.out _⟩
                      | true =>
                        have HA1 : Hid (zs.all ptB = (zs.drop (m + 1)).all ptB) := Lib.hid (by rw [HA.out, HD.out, qz]; rfl)
                        go_wp2_with fail
                        refine (l1Point_any z _).mono ?_
                        rw [qz]
                        rintro e w9 ⟨rfl, rfl⟩
                        go_wp2
                        go_roundw
                        case rel => exact ⟨m + 1, by omega, by go_num, HA1, n1, rfl⟩
                        case measure => simp [intOf]; omega
                    · have HA1 : Hid (zs.all ptB = true) := Lib.hid (by rw [HA.out, List.drop_eq_nil_of_le (by omega)]; rfl)
                      obtain rfl : m = zs.length := by omega
                      have HO : Hid (ndOk (x, y, zs) = true) := Lib.hid (by rw [HN.out, Q3.out, Q6.out, HA1.out, q1]; rfl)
                      have HV : Hid (vFrom (-1) D = vFrom (prevN D (j + 1)) (D.drop (j + 1))) := Lib.hid (by rw [hH.out, HS.out, HO.out, QX.out]; rfl)
                      go_wp2
                      go_roundw
                      case rel => exact ⟨j + 1, by omega, by go_num, HV, Lib.hid (bDr C1.out _)⟩
                      case measure => simp [intOf]; omega
                · have e6 : ((zs.length : Int) != 2) = true := by simp; omega
                  have Q6 : Hid (decide (zs.length = 2) = false) := Lib.hid (decide_eq_false q6)
                  clear q6
                  go_wp2
                  go_quiet (((first | (go_at_call 44; exact quiet_l (l1Point_any _ _)))))
                  go_wp2
                  go_ret
                  exact ⟨ret_bool (by rw [vD, hH.out, HS.out, HN.out]; simp [Q6.out]), bDr C1.out _⟩
          · have e4 : decide (x ≤ q) = true := decide_eq_true (by omega)
            have QX : Hid (decide (q < x) = false) := Lib.hid (decide_eq_false q2)
            clear q2
            go_wp2
            go_quiet (((first | (go_at_call 44; exact quiet_l (l1Point_any _ _)))))
            go_wp2
            go_ret
            exact ⟨ret_bool (by rw [vD, hH.out, HS.out, HN.out]; simp [QX.out]), bDr C1.out _⟩
    · obtain rfl : j = D.length := by omega
      have HV : Hid (vFrom (-1) D = true) := Lib.hid (by rw [hH.out]; exact vFrom_end D _ (Nat.le_refl _))
      go_wp2
      go_ret
      exact ⟨ret_bool (by rw [vD, HV.out, Bool.true_and]; exact decide_eq_decide.2 (by omega)), BJ.out⟩
end Go.Proofs.Ythgekfiodedelaa
