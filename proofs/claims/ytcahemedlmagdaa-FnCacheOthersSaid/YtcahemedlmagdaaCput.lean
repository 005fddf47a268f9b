/- CachePut of the reference. -/
import Derived.Test.YtcahemedlmagdaaDropI
import Derived.Test.YtcahemedlmagdaaApp
import Derived.Deep.DeepCutAuto
import Derived.Handy
namespace Go.Proofs.Ytcahemedlmagdaa
open Go.RowKit
set_option linter.unusedVariables false
set_option linter.unusedSimpArgs false

/-- The place of the oldest of the first j entries, the first one of several. -/
def oldTo (zs : List Ent) : Nat → Nat
  | 0 => 0
  | j + 1 => if (zs.getD j (0, 0, 0)).2.2 < (zs.getD (oldTo zs j) (0, 0, 0)).2.2 then j else oldTo zs j
def oldI (zs : List Ent) : Nat := oldTo zs zs.length
theorem oldTo_lt (zs : List Ent) (j : Nat) (h0 : 0 < zs.length) (hj : j ≤ zs.length) : oldTo zs j < zs.length := by
  induction j with
  | zero => exact h0
  | succ j ih =>
    simp only [oldTo]
    split
    · omega
    · exact ih (by omega)
theorem oldTo_step (zs : List Ent) (j : Nat) (hj : j < zs.length) : oldTo zs (j + 1) = if zs[j].2.2 < (zs[oldTo zs j]'(oldTo_lt zs j (by omega) (by omega))).2.2 then j else oldTo zs j := by
  have h := oldTo_lt zs j (by omega) (by omega)
  simp [oldTo, hj, h]

set_option maxHeartbeats 1000000 in
theorem l23Oldest_any (v : Value) (zs : List Ent) (w : World) (hl : zs.length ≤ 4194304) (h0 : 0 < zs.length) (hr : RRow EL w v zs) :
    Calls Try.prog 36 #[v] w fun e w' => e = .returned (.int .i64 (oldI zs)) ∧ Drawn w w' := by
  obtain ⟨a, cap, rfl, hc, hm, -⟩ := id hr
  have hcell := hr.ent
  clear hr
  go_enter Try.func36, Try.ntmps36
  go_wp2
  go_loopw [3, 4] (fun k i wr => ∃ j p : Nat, j ≤ zs.length ∧ i = .int .i64 j ∧ k = .int .i64 p ∧ p < zs.length ∧ Hid (p = oldTo zs j) ∧ Drawn w wr) (fun _ i _ => zs.length - (intOf i).toNat)
  case atStart => exact ⟨0, 0, Nat.zero_le _, rfl, rfl, h0, Lib.hid rfl, Drawn.refl _⟩
  case round =>
    obtain ⟨j, p, hj, rfl, rfl, hp, hP, hD⟩ := hrel
    by_cases hlt : j < zs.length
    · obtain ⟨b, off, rfl, hbl, -, -, h2⟩ := hcell j hlt
      obtain ⟨b', off', he, -, -, -, g2⟩ := hcell p hp
      simp only [Option.some.injEq, Addr.mk.injEq, and_true] at he
      obtain ⟨rfl, rfl⟩ := he
      rw [← hD.cell] at h2 g2
      have HS : Hid (oldTo zs (j + 1) = if zs[j].2.2 < zs[p].2.2 then j else p) := Lib.hid (by
        have := oldTo_step zs j hlt
        have e := hP.out
        subst e
        exact this)
      clear hcell
      generalize zs[j].2.2 = x at *
      generalize zs[p].2.2 = y at *
      by_cases hxy : x < y
      · have hq : decide (x < y) = true := decide_eq_true hxy
        have HQ := Lib.hid hxy; clear hxy
        go_wp2
        go_quiet (fail)
        go_wp2
        go_roundw
        case rel => exact ⟨j + 1, j, by omega, by go_num, rfl, hlt, Lib.hid (by rw [HS.out, if_pos HQ.out]), hD.next _⟩
        case measure => simp [intOf]; omega
      · have hq : decide (x < y) = false := decide_eq_false hxy
        have HQ : Hid (¬ x < y) := Lib.hid hxy; clear hxy
        go_wp2
        go_quiet (fail)
        go_wp2
        go_roundw
        case rel => exact ⟨j + 1, p, by omega, by go_num, rfl, hp, Lib.hid (by rw [HS.out, if_neg (by have := HQ.out; omega)]), hD.next _⟩
        case measure => simp [intOf]; omega
    · obtain rfl : j = zs.length := by omega
      go_wp2
      go_ret
      exact ⟨by rw [oldI, ← hP.out]; rfl, hD⟩

/-- What CachePut makes. -/
def cpG (zs : List Ent) (key value now : Int) : Bool := cvB zs && ptB key && inB value 0 99 && inB now 0 999
def cpX (zs : List Ent) (key : Int) : List Ent :=
  if 6 ≤ (dropL zs key).length then dropL (dropL zs key) ((dropL zs key).getD (oldI (dropL zs key)) (0, 0, 0)).1 else dropL zs key
def cpL (zs : List Ent) (key value now : Int) : List Ent :=
  if cpG zs key value now then (cpX zs key).take (posOf (cpX zs key) key) ++ [(key, value, now)] ++ (cpX zs key).drop (posOf (cpX zs key) key) else []
theorem cp_bad {zs : List Ent} {key value now : Int} (h : cpG zs key value now = false) : cpL zs key value now = [] := by simp [cpL, h]
theorem cp_good {zs : List Ent} {key value now : Int} (h : cpG zs key value now = true) : cpL zs key value now = (cpX zs key).take (posOf (cpX zs key) key) ++ [(key, value, now)] ++ (cpX zs key).drop (posOf (cpX zs key) key) := by simp [cpL, h]
theorem cpX_len (zs : List Ent) (key : Int) : (cpX zs key).length ≤ zs.length := by
  unfold cpX
  have := dropL_len zs key
  split
  · have := dropL_len (dropL zs key) ((dropL zs key).getD (oldI (dropL zs key)) (0, 0, 0)).1; omega
  · exact this
theorem cpL_len (zs : List Ent) (key value now : Int) : (cpL zs key value now).length ≤ zs.length + 1 := by
  unfold cpL
  have := cpX_len zs key
  have := posOf_le (cpX zs key) key
  split
  · simp; omega
  · simp

/-- A row of the call's own, cut at j: the rest reads so. -/
theorem dropR {e : TypeId} {w : World} {B g n cp j : Nat} {es : List Ent} {A : Addr} (h : OwnRow EL e w B (.slice (some ⟨g, 0, none⟩) n cp) es) (hj : j ≤ es.length) (hA : (if cp = j then some (⟨g, 0, none⟩ : Addr) else some ⟨g, j * 3, none⟩) = some A) :
    RRow EL w (.slice (some A) (es.length - j) (cp - j)) (es.drop j) := by
  obtain rfl := h.len
  obtain ⟨a', cap', hv, hn, hc, -⟩ := h.reads
  simp only [Value.slice.injEq, true_and] at hv
  obtain ⟨-, rfl⟩ := hv
  by_cases hcj : cp = j
  · rw [if_pos hcj] at hA
    have hz : es.drop j = [] := List.drop_of_length_le (by omega)
    rw [hz]
    exact ⟨some A, cp - j, by congr 1; simp; omega, by simp, by omega, fun i hi => absurd hi (by simp)⟩
  · rw [if_neg hcj] at hA
    cases hA
    have h1 := h.reads.sub j es.length hj (Nat.le_refl _) (cp - j) (by omega) (by omega)
    rw [List.take_length, Nat.zero_add] at h1
    exact h1

set_option maxRecDepth 1000000 in
set_option maxHeartbeats 4000000 in
theorem specCachePut_any (v : Value) (zs : List Ent) (key value now : Int) (w : World) (hl : zs.length ≤ 4194304) (hr : RRow EL w v zs) :
    Calls Try.prog 12 #[v, .int .i64 key, .int .i64 value, .int .i64 now] w fun e w' => ∃ u, e = .returned (.tuple #[u, .bool (cpG zs key value now)]) ∧ OwnRow EL entT w' w.heap.size u (cpL zs key value now) ∧ Below w.heap.size w w' ∧ u ≠ .slice none 0 0 := by
  obtain ⟨a, cap, rfl, hc, hm, -⟩ := id hr
  have HR := Lib.hid hr; clear hr
  obtain ⟨i0, hi, hz0, hz1, hz2⟩ := info_parts infoEn4
  cases hv : cvB zs with
  | false =>
    have hG : cpG zs key value now = false := by simp [cpG, hv]
    rw [cp_bad hG, hG]
    have HV := Lib.hid hv; clear hv hG
    go_enter Try.func12, Try.ntmps12
    go_wp2_with fail
    refine (specCacheValid_b _ zs _ hl HR.out).mono ?_
    rw [HV.out]
    rintro e w1 ⟨rfl, b1⟩
    go_wp2
    go_ret2
    exact ⟨_, rfl, (OwnRow.empty EL entT w1).base b1.size, bAl b1 _, by simp⟩
  | true =>
    cases hk : ptB key with
    | false =>
      have hG : cpG zs key value now = false := by simp [cpG, hv, hk]
      rw [cp_bad hG, hG]
      have HV := Lib.hid hv; clear hv hG
      go_enter Try.func12, Try.ntmps12
      go_wp2_with fail
      refine (specCacheValid_b _ zs _ hl HR.out).mono ?_
      rw [HV.out]
      rintro e w1 ⟨rfl, b1⟩
      go_wp2_with fail
      refine (l1Point_any _ _).mono ?_
      rintro e w' ⟨rfl, rfl⟩
      go_wp2
      go_ret2
      exact ⟨_, rfl, (OwnRow.empty EL entT w1).base b1.size, bAl b1 _, by simp⟩
    | true =>
      cases hvv : inB value 0 99 with
      | false =>
        have hG : cpG zs key value now = false := by simp [cpG, hv, hk, hvv]
        rw [cp_bad hG, hG]
        have HV := Lib.hid hv; clear hv hG
        go_enter Try.func12, Try.ntmps12
        go_wp2_with fail
        refine (specCacheValid_b _ zs _ hl HR.out).mono ?_
        rw [HV.out]
        rintro e w1 ⟨rfl, b1⟩
        go_wp2_with fail
        refine (l1Point_any _ _).mono ?_
        rintro e w' ⟨rfl, rfl⟩
        go_wp2_with fail
        refine (l6In_any _ _ _ _).mono ?_
        rintro e w' ⟨rfl, rfl⟩
        go_wp2
        go_ret2
        exact ⟨_, rfl, (OwnRow.empty EL entT w1).base b1.size, bAl b1 _, by simp⟩
      | true =>
        cases hn : inB now 0 999 with
        | false =>
          have hG : cpG zs key value now = false := by simp [cpG, hv, hk, hvv, hn]
          rw [cp_bad hG, hG]
          have HV := Lib.hid hv; clear hv hG
          go_enter Try.func12, Try.ntmps12
          go_wp2_with fail
          refine (specCacheValid_b _ zs _ hl HR.out).mono ?_
          rw [HV.out]
          rintro e w1 ⟨rfl, b1⟩
          go_wp2_with fail
          refine (l1Point_any _ _).mono ?_
          rintro e w' ⟨rfl, rfl⟩
          go_wp2_with fail
          refine (l6In_any _ _ _ _).mono ?_
          rintro e w' ⟨rfl, rfl⟩
          go_wp2_with fail
          refine (l12Time_any _ _).mono ?_
          rintro e w' ⟨rfl, rfl⟩
          go_wp2
          go_ret2
          exact ⟨_, rfl, (OwnRow.empty EL entT w1).base b1.size, bAl b1 _, by simp⟩
        | true =>
          have hG : cpG zs key value now = true := by simp [cpG, hv, hk, hvv, hn]
          rw [cp_good hG, hG]
          have h6 := (cvB_from hv).2
          have HV := Lib.hid hv; clear hv hG
          have HXd : Hid (cpX zs key = if 6 ≤ (dropL zs key).length then dropL (dropL zs key) ((dropL zs key).getD (oldI (dropL zs key)) (0, 0, 0)).1 else dropL zs key) := Lib.hid rfl
          have hxl := cpX_len zs key
          obtain ⟨X, hX⟩ : ∃ X, X = cpX zs key := ⟨_, rfl⟩
          rw [← hX] at HXd hxl ⊢
          clear hX
          have hd1 := dropL_len zs key
          obtain ⟨D, hD⟩ : ∃ D, D = dropL zs key := ⟨_, rfl⟩
          rw [← hD] at HXd hd1
          have HD := Lib.hid hD; clear hD
          go_enter Try.func12, Try.ntmps12
          go_wp2_with fail
          refine (specCacheValid_b _ zs _ hl HR.out).mono ?_
          rw [HV.out]
          rintro e w1 ⟨rfl, b1⟩
          go_wp2_with fail
          refine (l1Point_any _ _).mono ?_
          rintro e w' ⟨rfl, rfl⟩
          go_wp2_with fail
          refine (l6In_any _ _ _ _).mono ?_
          rintro e w' ⟨rfl, rfl⟩
          go_wp2_with fail
          refine (l12Time_any _ _).mono ?_
          rintro e w' ⟨rfl, rfl⟩
          go_wp2_with fail
          refine (specCacheDrop_nn _ zs key _ hl (HR.out.bl b1)).mono ?_
          rw [← HD.out]
          generalize dropT zs key = tq
          rintro e w2 ⟨u2, rfl, o2, b2, n2⟩
          have c2 := bNext b1 b2
          rcases o2.shape with ⟨rfl, _⟩ | ⟨g2, cap2, rfl, -, -, -, -⟩
          · exact absurd rfl n2
          clear n2
          have O2 := Lib.hid (o2.base b1.size); clear o2
          go_upto_if 40 with fail
          go_cut [10] (fun s10 wx => ∃ g cp : Nat, s10 = .slice (some ⟨g, 0, none⟩) X.length cp ∧ Hid (OwnRow EL entT wx w.heap.size (.slice (some ⟨g, 0, none⟩) X.length cp) X) ∧ Below w.heap.size w wx)
          case first =>
            by_cases h6' : 6 ≤ D.length
            · have hq : decide (6 ≤ D.length) = true := decide_eq_true h6'
              have hq2 : decide ((6 : Int) ≤ D.length) = true := decide_eq_true (by omega)
              have HXe : Hid (X = dropL D (D.getD (oldI D) (0, 0, 0)).1) := Lib.hid (by rw [HXd.out, if_pos h6'])
              have hp : oldI D < D.length := oldTo_lt D D.length (by omega) (Nat.le_refl _)
              have hgd : D.getD (oldI D) (0, 0, 0) = D[oldI D] := by simp [List.getD, hp]
              rw [hgd] at HXe
              clear hgd HXd
              go_wp2_with fail
              refine (l23Oldest_any _ D _ (by omega) (by omega) O2.out.reads).mono ?_
              generalize oldI D = p at *
              rintro e w3 ⟨rfl, D3⟩
              have O3 : Hid (OwnRow EL entT w3 w.heap.size (.slice (some ⟨g2, 0, none⟩) D.length cap2) D) := Lib.hid (by obtain ⟨n, rfl⟩ := D3; exact O2.out)
              have c3 := bNext c2 D3.below
              obtain ⟨k0, -, -⟩ := O3.out.ent p hp
              generalize D[p].1 = x at *
              clear D3
              go_wp2_with fail
              refine (specCacheDrop_nn _ D x _ (by omega) O3.out.reads).mono ?_
              rw [← HXe.out]
              generalize dropT D x = tq2
              rintro e w4 ⟨u4, rfl, o4, b4, n4⟩
              have c4 := bNext c3 b4
              rcases o4.shape with ⟨rfl, _⟩ | ⟨g4, cap4, rfl, -, -, -, -⟩
              · exact absurd rfl n4
              have O4 := Lib.hid (o4.base c3.size)
              clear o4 n4 k0
              go_wp2
              go_meet
              exact ⟨g4, cap4, rfl, O4, c4⟩
            · have hq : decide (6 ≤ D.length) = false := decide_eq_false h6'
              have hq2 : decide ((6 : Int) ≤ D.length) = false := decide_eq_false (by omega)
              have HXe : X = D := by rw [HXd.out, if_neg h6']
              subst HXe
              go_wp2
              go_meet
              exact ⟨g2, cap2, rfl, O2, c2⟩
          case rest =>
            obtain ⟨g, cp, rfl, OX, cX⟩ := hcut
            clear O2 c2
            have hX6 : X.length ≤ 6 := by omega
            go_wp2
            go_loop [12] (fun i => ∃ j : Nat, j ≤ X.length ∧ i = .int .i64 j ∧ Hid (∀ k (h : k < X.length), k < j → X[k].1 < key)) (fun i => X.length - (intOf i).toNat)
            case atStart => exact ⟨0, Nat.zero_le _, rfl, Lib.hid (fun k h hk => by omega)⟩
            case round =>
              obtain ⟨j, hj, rfl, HJ⟩ := hrel
              by_cases hgo : ∃ h : j < X.length, X[j].1 < key
              · obtain ⟨hlt, hxk⟩ := hgo
                obtain ⟨k0, -, -⟩ := OX.out.ent j hlt
                have HXK := Lib.hid hxk
                have hq : decide (X[j].1 < key) = true := decide_eq_true hxk
                clear hxk
                have hj1 : Hid (∀ k (h : k < X.length), k < j + 1 → X[k].1 < key) := Lib.hid (fun k h hk => by
                  by_cases hkj : k = j
                  · subst hkj; exact HXK.out
                  · exact HJ.out k h (by omega))
                generalize X[j].1 = x at *
                go_wp2
                go_round
                case rel => exact ⟨j + 1, by omega, by go_num, hj1⟩
                case measure => simp [intOf]; omega
              · have HP : Hid (posOf X key = j) := Lib.hid (posOf_eq HJ.out (fun h => by
                  by_cases hx : X[j].1 < key
                  · exact absurd ⟨h, hx⟩ hgo
                  · omega) hj)
                have hexit : Hid (j = X.length ∨ ∃ h : j < X.length, ¬ X[j].1 < key) := Lib.hid (by
                  by_cases hlt : j < X.length
                  · exact .inr ⟨hlt, fun hx => hgo ⟨hlt, hx⟩⟩
                  · exact .inl (by omega))
                clear hgo
                have hcp : X.length ≤ cp := by obtain ⟨_, _, hh, h2, _, _⟩ := OX.out.reads; simp at hh; omega
                have hcm : cp ≤ maxLen := by obtain ⟨_, _, hh, _, h2, _⟩ := OX.out.reads; simp at hh; omega
                have hjc : j ≤ cp := by omega
                obtain ⟨A, hA⟩ : ∃ A : Addr, (if cp = j then some (⟨g, 0, none⟩ : Addr) else some ⟨g, j * 3, none⟩) = some A := by split <;> exact ⟨_, rfl⟩
                have RT := (OX.out.take hj).reads
                have RDp := dropR OX.out hj hA
                rcases hexit.out with hje | ⟨hlt, hxk⟩
                · have hq : decide ((j : Int) < X.length) = false := decide_eq_false (by omega)
                  have hq' : decide (j < X.length) = false := decide_eq_false (by omega)
                  clear hje
                  go_wp2_with fail
                  clear hq; go_region_law (first | (refine step_appL EL rfl (.tmp 67) (.tmp 70) 23 30 rfl i0 (.agg #[.int .i64 0, .int .i64 0, .int .i64 0]) 24 Try.underlying23 hi hz0 hz1 hz2 rfl wc.heap.size (.slice (some ⟨wc.heap.size, 0, none⟩) 0 0) ([]) ?_ (by repeat' (first | with_reducible refine OwnRow.empty' EL entT _ (by simp) (by simp) | with_reducible refine OwnRow.al ?_ _ | with_reducible refine OwnRow.d1 ?_)) (⟨g, 0, none⟩) (j) (cp) (X.take j) (by simp [Act.eval, Act.put]) (by repeat' (first | with_reducible assumption | with_reducible refine RRow.al ?_ _ | with_reducible refine RRow.d1 ?_)) (by simp; unfold maxLen; omega) (by simp; omega) (Below.size (B := wc.heap.size) (w := wc) (by repeat' (first | with_reducible exact Below.refl _ _ | with_reducible assumption | with_reducible refine bAl ?_ _ | with_reducible refine bD1 ?_))) (by first | assumption | simp) ?_; (· (simp [Act.eval, Act.put])); intro v1 w1 o1 g1 n1; have b1' : Below wc.heap.size wc w1 := bGr (by repeat' (first | with_reducible exact Below.refl _ _ | with_reducible assumption | with_reducible refine bAl ?_ _ | with_reducible refine bD1 ?_)) g1 (fun k hk => by simp [Value.ownBlock] at hk; omega)) | (refine step_appL EL rfl (.tmp 67) (.tmp 70) 23 30 rfl i0 (.agg #[.int .i64 0, .int .i64 0, .int .i64 0]) 24 Try.underlying23 hi hz0 hz1 hz2 rfl wc.heap.size (.slice (some ⟨wc.heap.size + 1, 0, none⟩) 0 0) ([]) ?_ (by repeat' (first | with_reducible refine OwnRow.empty' EL entT _ (by simp) (by simp) | with_reducible refine OwnRow.al ?_ _ | with_reducible refine OwnRow.d1 ?_)) (⟨g, 0, none⟩) (j) (cp) (X.take j) (by simp [Act.eval, Act.put]) (by repeat' (first | with_reducible assumption | with_reducible refine RRow.al ?_ _ | with_reducible refine RRow.d1 ?_)) (by simp; unfold maxLen; omega) (by simp; omega) (Below.size (B := wc.heap.size) (w := wc) (by repeat' (first | with_reducible exact Below.refl _ _ | with_reducible assumption | with_reducible refine bAl ?_ _ | with_reducible refine bD1 ?_))) (by first | assumption | simp) ?_; (· (simp [Act.eval, Act.put])); intro v1 w1 o1 g1 n1; have b1' : Below wc.heap.size wc w1 := bGr (by repeat' (first | with_reducible exact Below.refl _ _ | with_reducible assumption | with_reducible refine bAl ?_ _ | with_reducible refine bD1 ?_)) g1 (fun k hk => by simp [Value.ownBlock] at hk; omega)) | (refine step_appL EL rfl (.tmp 71) (.tmp 76) 23 30 rfl i0 (.agg #[.int .i64 0, .int .i64 0, .int .i64 0]) 24 Try.underlying23 hi hz0 hz1 hz2 rfl wc.heap.size (v1) ([] ++ X.take j) (by simp [Act.eval, Act.put]) (by repeat' (first | with_reducible assumption | with_reducible refine OwnRow.al ?_ _ | with_reducible refine OwnRow.d1 ?_)) (⟨w1.heap.size, 0, none⟩) (1) (1) ([(key, value, now)]) ?_ (RRow.one EL _ (key, value, now) rfl rfl) (by simp; unfold maxLen; omega) (by simp; omega) (Below.size (B := wc.heap.size) (w := wc) (by repeat' (first | with_reducible exact Below.refl _ _ | with_reducible assumption | with_reducible refine bAl ?_ _ | with_reducible refine bD1 ?_))) (by first | assumption | simp) ?_; (· (simp [Act.eval, Act.put])); intro v2 w2 o2 g2' n2; have b2' : Below wc.heap.size wc w2 := bGr (by repeat' (first | with_reducible exact Below.refl _ _ | with_reducible assumption | with_reducible refine bAl ?_ _ | with_reducible refine bD1 ?_)) g2' (fun k hk => (o1.lts k hk).1)) | (refine step_appL EL rfl (.tmp 71) (.tmp 76) 23 30 rfl i0 (.agg #[.int .i64 0, .int .i64 0, .int .i64 0]) 24 Try.underlying23 hi hz0 hz1 hz2 rfl wc.heap.size (v1) ([] ++ X.take j) (by simp [Act.eval, Act.put]) (by repeat' (first | with_reducible assumption | with_reducible refine OwnRow.al ?_ _ | with_reducible refine OwnRow.d1 ?_)) (⟨wc.heap.size + 1, 0, none⟩) (1) (1) ([(key, value, now)]) ?_ (RRow.gr (RRow.d1 (RRow.one EL _ (key, value, now) (by simp) rfl)) g1 (.inr (by simp [Value.ownBlock]))) (by simp; unfold maxLen; omega) (by simp; omega) (Below.size (B := wc.heap.size) (w := wc) (by repeat' (first | with_reducible exact Below.refl _ _ | with_reducible assumption | with_reducible refine bAl ?_ _ | with_reducible refine bD1 ?_))) (by first | assumption | simp) ?_; (· (simp [Act.eval, Act.put])); intro v2 w2 o2 g2' n2; have b2' : Below wc.heap.size wc w2 := bGr (by repeat' (first | with_reducible exact Below.refl _ _ | with_reducible assumption | with_reducible refine bAl ?_ _ | with_reducible refine bD1 ?_)) g2' (fun k hk => (o1.lts k hk).1)) | (refine step_appL EL rfl (.tmp 71) (.tmp 76) 23 30 rfl i0 (.agg #[.int .i64 0, .int .i64 0, .int .i64 0]) 24 Try.underlying23 hi hz0 hz1 hz2 rfl wc.heap.size (v1) ([] ++ X.take j) (by simp [Act.eval, Act.put]) (by repeat' (first | with_reducible assumption | with_reducible refine OwnRow.al ?_ _ | with_reducible refine OwnRow.d1 ?_)) (⟨wc.heap.size, 0, none⟩) (1) (1) ([(key, value, now)]) ?_ (RRow.gr (RRow.d1 (RRow.al (RRow.one EL _ (key, value, now) (by simp) rfl) _)) g1 (.inr (by simp [Value.ownBlock]))) (by simp; unfold maxLen; omega) (by simp; omega) (Below.size (B := wc.heap.size) (w := wc) (by repeat' (first | with_reducible exact Below.refl _ _ | with_reducible assumption | with_reducible refine bAl ?_ _ | with_reducible refine bD1 ?_))) (by first | assumption | simp) ?_; (· (simp [Act.eval, Act.put])); intro v2 w2 o2 g2' n2; have b2' : Below wc.heap.size wc w2 := bGr (by repeat' (first | with_reducible exact Below.refl _ _ | with_reducible assumption | with_reducible refine bAl ?_ _ | with_reducible refine bD1 ?_)) g2' (fun k hk => (o1.lts k hk).1)) | (refine step_appL EL rfl (.tmp 77) (.tmp 80) 23 30 rfl i0 (.agg #[.int .i64 0, .int .i64 0, .int .i64 0]) 24 Try.underlying23 hi hz0 hz1 hz2 rfl wc.heap.size (v2) ([] ++ X.take j ++ [(key, value, now)]) (by simp [Act.eval, Act.put]) (by repeat' (first | with_reducible assumption | with_reducible refine OwnRow.al ?_ _ | with_reducible refine OwnRow.d1 ?_)) (A) (X.length - j) (cp - j) (X.drop j) (by simp [Act.eval, Act.put]) (RDp.bl b2') (by simp; unfold maxLen; omega) (by simp; omega) (Below.size (B := wc.heap.size) (w := wc) (by repeat' (first | with_reducible exact Below.refl _ _ | with_reducible assumption | with_reducible refine bAl ?_ _ | with_reducible refine bD1 ?_))) (by first | assumption | simp) ?_; intro v3 w3 o3 g3 n3; have b3' : Below wc.heap.size wc w3 := bGr (by repeat' (first | with_reducible exact Below.refl _ _ | with_reducible assumption | with_reducible refine bAl ?_ _ | with_reducible refine bD1 ?_)) g3 (fun k hk => (o2.lts k hk).1)))
                  all_goals (go_wp2; go_ret2; exact ⟨_, rfl, by rw [HP.out]; exact o3.base cX.size, bNext cX b3', n3⟩)
                · obtain ⟨k0, -, -⟩ := OX.out.ent j hlt
                  have hq : decide (X[j].1 < key) = false := decide_eq_false hxk
                  clear hxk
                  generalize X[j].1 = x at *
                  go_wp2_with fail
                  clear hq; go_region_law (first | (refine step_appL EL rfl (.tmp 67) (.tmp 70) 23 30 rfl i0 (.agg #[.int .i64 0, .int .i64 0, .int .i64 0]) 24 Try.underlying23 hi hz0 hz1 hz2 rfl wc.heap.size (.slice (some ⟨wc.heap.size, 0, none⟩) 0 0) ([]) ?_ (by repeat' (first | with_reducible refine OwnRow.empty' EL entT _ (by simp) (by simp) | with_reducible refine OwnRow.al ?_ _ | with_reducible refine OwnRow.d1 ?_)) (⟨g, 0, none⟩) (j) (cp) (X.take j) (by simp [Act.eval, Act.put]) (by repeat' (first | with_reducible assumption | with_reducible refine RRow.al ?_ _ | with_reducible refine RRow.d1 ?_)) (by simp; unfold maxLen; omega) (by simp; omega) (Below.size (B := wc.heap.size) (w := wc) (by repeat' (first | with_reducible exact Below.refl _ _ | with_reducible assumption | with_reducible refine bAl ?_ _ | with_reducible refine bD1 ?_))) (by first | assumption | simp) ?_; (· (simp [Act.eval, Act.put])); intro v1 w1 o1 g1 n1; have b1' : Below wc.heap.size wc w1 := bGr (by repeat' (first | with_reducible exact Below.refl _ _ | with_reducible assumption | with_reducible refine bAl ?_ _ | with_reducible refine bD1 ?_)) g1 (fun k hk => by simp [Value.ownBlock] at hk; omega)) | (refine step_appL EL rfl (.tmp 67) (.tmp 70) 23 30 rfl i0 (.agg #[.int .i64 0, .int .i64 0, .int .i64 0]) 24 Try.underlying23 hi hz0 hz1 hz2 rfl wc.heap.size (.slice (some ⟨wc.heap.size + 1, 0, none⟩) 0 0) ([]) ?_ (by repeat' (first | with_reducible refine OwnRow.empty' EL entT _ (by simp) (by simp) | with_reducible refine OwnRow.al ?_ _ | with_reducible refine OwnRow.d1 ?_)) (⟨g, 0, none⟩) (j) (cp) (X.take j) (by simp [Act.eval, Act.put]) (by repeat' (first | with_reducible assumption | with_reducible refine RRow.al ?_ _ | with_reducible refine RRow.d1 ?_)) (by simp; unfold maxLen; omega) (by simp; omega) (Below.size (B := wc.heap.size) (w := wc) (by repeat' (first | with_reducible exact Below.refl _ _ | with_reducible assumption | with_reducible refine bAl ?_ _ | with_reducible refine bD1 ?_))) (by first | assumption | simp) ?_; (· (simp [Act.eval, Act.put])); intro v1 w1 o1 g1 n1; have b1' : Below wc.heap.size wc w1 := bGr (by repeat' (first | with_reducible exact Below.refl _ _ | with_reducible assumption | with_reducible refine bAl ?_ _ | with_reducible refine bD1 ?_)) g1 (fun k hk => by simp [Value.ownBlock] at hk; omega)) | (refine step_appL EL rfl (.tmp 71) (.tmp 76) 23 30 rfl i0 (.agg #[.int .i64 0, .int .i64 0, .int .i64 0]) 24 Try.underlying23 hi hz0 hz1 hz2 rfl wc.heap.size (v1) ([] ++ X.take j) (by simp [Act.eval, Act.put]) (by repeat' (first | with_reducible assumption | with_reducible refine OwnRow.al ?_ _ | with_reducible refine OwnRow.d1 ?_)) (⟨w1.heap.size, 0, none⟩) (1) (1) ([(key, value, now)]) ?_ (RRow.one EL _ (key, value, now) rfl rfl) (by simp; unfold maxLen; omega) (by simp; omega) (Below.size (B := wc.heap.size) (w := wc) (by repeat' (first | with_reducible exact Below.refl _ _ | with_reducible assumption | with_reducible refine bAl ?_ _ | with_reducible refine bD1 ?_))) (by first | assumption | simp) ?_; (· (simp [Act.eval, Act.put])); intro v2 w2 o2 g2' n2; have b2' : Below wc.heap.size wc w2 := bGr (by repeat' (first | with_reducible exact Below.refl _ _ | with_reducible assumption | with_reducible refine bAl ?_ _ | with_reducible refine bD1 ?_)) g2' (fun k hk => (o1.lts k hk).1)) | (refine step_appL EL rfl (.tmp 71) (.tmp 76) 23 30 rfl i0 (.agg #[.int .i64 0, .int .i64 0, .int .i64 0]) 24 Try.underlying23 hi hz0 hz1 hz2 rfl wc.heap.size (v1) ([] ++ X.take j) (by simp [Act.eval, Act.put]) (by repeat' (first | with_reducible assumption | with_reducible refine OwnRow.al ?_ _ | with_reducible refine OwnRow.d1 ?_)) (⟨wc.heap.size + 1, 0, none⟩) (1) (1) ([(key, value, now)]) ?_ (RRow.gr (RRow.d1 (RRow.one EL _ (key, value, now) (by simp) rfl)) g1 (.inr (by simp [Value.ownBlock]))) (by simp; unfold maxLen; omega) (by simp; omega) (Below.size (B := wc.heap.size) (w := wc) (by repeat' (first | with_reducible exact Below.refl _ _ | with_reducible assumption | with_reducible refine bAl ?_ _ | with_reducible refine bD1 ?_))) (by first | assumption | simp) ?_; (· (simp [Act.eval, Act.put])); intro v2 w2 o2 g2' n2; have b2' : Below wc.heap.size wc w2 := bGr (by repeat' (first | with_reducible exact Below.refl _ _ | with_reducible assumption | with_reducible refine bAl ?_ _ | with_reducible refine bD1 ?_)) g2' (fun k hk => (o1.lts k hk).1)) | (refine step_appL EL rfl (.tmp 71) (.tmp 76) 23 30 rfl i0 (.agg #[.int .i64 0, .int .i64 0, .int .i64 0]) 24 Try.underlying23 hi hz0 hz1 hz2 rfl wc.heap.size (v1) ([] ++ X.take j) (by simp [Act.eval, Act.put]) (by repeat' (first | with_reducible assumption | with_reducible refine OwnRow.al ?_ _ | with_reducible refine OwnRow.d1 ?_)) (⟨wc.heap.size, 0, none⟩) (1) (1) ([(key, value, now)]) ?_ (RRow.gr (RRow.d1 (RRow.al (RRow.one EL _ (key, value, now) (by simp) rfl) _)) g1 (.inr (by simp [Value.ownBlock]))) (by simp; unfold maxLen; omega) (by simp; omega) (Below.size (B := wc.heap.size) (w := wc) (by repeat' (first | with_reducible exact Below.refl _ _ | with_reducible assumption | with_reducible refine bAl ?_ _ | with_reducible refine bD1 ?_))) (by first | assumption | simp) ?_; (· (simp [Act.eval, Act.put])); intro v2 w2 o2 g2' n2; have b2' : Below wc.heap.size wc w2 := bGr (by repeat' (first | with_reducible exact Below.refl _ _ | with_reducible assumption | with_reducible refine bAl ?_ _ | with_reducible refine bD1 ?_)) g2' (fun k hk => (o1.lts k hk).1)) | (refine step_appL EL rfl (.tmp 77) (.tmp 80) 23 30 rfl i0 (.agg #[.int .i64 0, .int .i64 0, .int .i64 0]) 24 Try.underlying23 hi hz0 hz1 hz2 rfl wc.heap.size (v2) ([] ++ X.take j ++ [(key, value, now)]) (by simp [Act.eval, Act.put]) (by repeat' (first | with_reducible assumption | with_reducible refine OwnRow.al ?_ _ | with_reducible refine OwnRow.d1 ?_)) (A) (X.length - j) (cp - j) (X.drop j) (by simp [Act.eval, Act.put]) (RDp.bl b2') (by simp; unfold maxLen; omega) (by simp; omega) (Below.size (B := wc.heap.size) (w := wc) (by repeat' (first | with_reducible exact Below.refl _ _ | with_reducible assumption | with_reducible refine bAl ?_ _ | with_reducible refine bD1 ?_))) (by first | assumption | simp) ?_; intro v3 w3 o3 g3 n3; have b3' : Below wc.heap.size wc w3 := bGr (by repeat' (first | with_reducible exact Below.refl _ _ | with_reducible assumption | with_reducible refine bAl ?_ _ | with_reducible refine bD1 ?_)) g3 (fun k hk => (o2.lts k hk).1)))
                  all_goals (go_wp2; go_ret2; exact ⟨_, rfl, by rw [HP.out]; exact o3.base cX.size, bNext cX b3', n3⟩)
end Go.Proofs.Ytcahemedlmagdaa
