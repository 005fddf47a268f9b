/- l1Has; l91Good: a drawn list of positions, ascending. -/
import Derived.Test.YthgekfiodedelaaFree
import Derived.Test.YthgekfiodedelaaApp
import Derived.Test.YthgekfiodedelaaDraw
import Derived.Test.YthgekfiodedelaaRdPt
import Derived.Test.YthgekfiodedelaaMemG
import Derived.BigRegion
import Derived.BigQuiet
namespace Go.Proofs.Ythgekfiodedelaa
open Go.RowKit
set_option linter.unusedVariables false
set_option linter.unusedSimpArgs false

/-- Numbers, one cell each. -/
def IL : Lay Int := ⟨1, fun x => [.int .i64 x], fun _ => rfl, fun a u hu => by simp at hu; subst hu; rfl, by omega⟩
theorem flat_IL (xs : List Int) : flat IL xs = ints xs := by
  induction xs with
  | nil => rfl
  | cons x xs ih => rw [flat_cons, ih]; rfl
theorem OwnInts.il {w : World} {B : Nat} {v : Value} {zs : List Int} (h : OwnInts w B v zs) : OwnRow IL 3 w B v zs := by unfold OwnRow; rw [flat_IL]; exact h
theorem OwnRow.li {w : World} {B : Nat} {v : Value} {zs : List Int} (h : OwnRow IL 3 w B v zs) : OwnInts w B v zs := by unfold OwnRow at h; rw [flat_IL] at h; exact h
theorem dropI {w : World} {B g n cp j : Nat} {es : List Int} {A : Addr} (h : OwnRow IL 3 w B (.slice (some ⟨g, 0, none⟩) n cp) es) (hj : j ≤ es.length) (hA : (if cp = j then some (⟨g, 0, none⟩ : Addr) else some ⟨g, j, none⟩) = some A) :
    RRow IL w (.slice (some A) (es.length - j) (cp - j)) (es.drop j) := by
  obtain rfl := h.len
  obtain ⟨a', cap', hv, hn, hc, -⟩ := h.reads
  simp only [Value.slice.injEq, true_and] at hv
  obtain ⟨-, rfl⟩ := hv
  by_cases hcj : cp = j
  · rw [if_pos hcj] at hA
    have hz : es.drop j = [] := List.drop_of_length_le (by omega)
    rw [hz]
    exact ⟨some A, cp - j, by congr 1; simp; omega, by simp, by omega, fun i hi => absurd hi (by simp)⟩
  · rw [if_neg hcj] at hA
    cases hA
    have h1 := h.reads.sub j es.length hj (Nat.le_refl _) (cp - j) (by omega) (by omega)
    rw [List.take_length, Nat.zero_add, show IL.k = 1 from rfl, Nat.mul_one] at h1
    exact h1

set_option maxHeartbeats 400000 in
theorem l1Has_any (v : Value) (zs : List Int) (n : Int) (w : World) (hlen : zs.length ≤ 4194304) (hr : RInts w v zs) :
    Calls Try.prog 106 #[v, .int .i64 n] w fun e w' => e = .returned (.bool (decide (n ∈ zs))) ∧ w = w' := by
  obtain ⟨a, cap, rfl, hc, hm, hcell⟩ := hr
  go_enter Try.func106, Try.ntmps106
  go_wp2
  go_loop [5] (fun i => ∃ j : Nat, j ≤ zs.length ∧ i = .int .i64 j ∧ Hid (n ∉ zs.take j)) (fun i => zs.length - (intOf i).toNat)
  case atStart => exact ⟨0, Nat.zero_le _, rfl, by simp [Hid]⟩
  case round =>
    obtain ⟨j, hj, rfl, hH⟩ := hrel
    by_cases hlt : j < zs.length
    · obtain ⟨b, off, rfl, hb, hcj⟩ := hcell j hlt
      have hD : Hid (zs.take (j + 1) = zs.take j ++ [zs[j]]) := List.take_succ_eq_append_getElem hlt
      have hM : Hid (zs[j] ∈ zs) := List.getElem_mem hlt
      obtain ⟨z, hz⟩ : ∃ z, z = zs[j] := ⟨_, rfl⟩
      rw [← hz] at hcj hD hM
      clear hz
      by_cases hzk : z = n
      · have hzk' : (z == n) = true := by simp [hzk]
        have HZ := Lib.hid hzk; clear hzk
        go_wp2
        go_ret
        exact ⟨ret_bool (by rw [decide_eq_true]; rw [← HZ.out]; exact hM.out), rfl⟩
      · have hzk' : (z == n) = false := by simp [hzk]
        go_wp2
        go_round
        case rel => exact ⟨j + 1, by omega, by go_num, by show n ∉ _; rw [hD.out]; simp; exact ⟨hH.out, fun h => hzk h.symm⟩⟩
        case measure => simp [intOf]; omega
    · go_wp2
      go_ret
      exact ⟨ret_bool (by rw [decide_eq_false]; have := hH.out; rw [List.take_of_length_le (by omega)] at this; exact this), rfl⟩

set_option maxRecDepth 1000000 in
set_option maxHeartbeats 8000000 in
theorem l91Good_any (S b least : Nat) (p : Int) (w : World) (hr : IsRd w S b p) (hp : p ≤ 800000) (hl1 : 1 ≤ least) (hl10 : least ≤ 10) :
    Calls Try.prog 86 #[.pointer (some ⟨b, 0, none⟩), .int .i64 least] w fun e w' => ∃ u xs, e = .returned u ∧ OwnInts w' w.heap.size u xs ∧ (least ≤ xs.length ∧ xs.length ≤ 10) ∧ AscI xs ∧ u ≠ .slice none 0 0 ∧ (∃ q, q ≤ p + 12 ∧ IsRd w' S b q) ∧ w.grownBy w' (some b) := by
  obtain ⟨i0, hi, hz0, hz1, hz2⟩ := info_parts infoInt
  have hbl := hr.lt
  have hp0 := hr.2.1
  have e11 : IntKind.i64.wrap (11 - (least : Int)) = 11 - (least : Int) := IntWalk.i64_in _ (by omega)
  go_enter Try.func86, Try.ntmps86
  go_wp2_with fail
  refine (pick_any S b _ _ _ (hr.alloc _) (by omega) (by omega) (by omega)).mono ?_
  rintro e w1 ⟨m1, rfl, ⟨hm1, hm1'⟩, r1, g1⟩
  obtain ⟨m1, rfl⟩ := Int.eq_ofNat_of_zero_le hm1
  have o1 : OwnInts w1 w.heap.size _ [] := (own_empty w).rd hbl g1
  have O1 := Lib.hid o1.il
  have G1 := Lib.hid ((gAlloc (grown_refl w (some b)) (.cells #[] 3)).trans g1)
  have R1 := Lib.hid r1
  obtain ⟨n, hn⟩ : ∃ n, n = least + m1 := ⟨_, rfl⟩
  have e12 : IntKind.i64.wrap ((least : Int) + (m1 : Int)) = (n : Int) := by rw [IntWalk.i64_in _ (by omega)]; omega
  have hn10 : least ≤ n ∧ n ≤ 10 := by omega
  clear hn o1 g1 r1 hm1 hm1'
  go_wp2
  go_loopw [5, 7, 8, 9] (fun o i s8 s9 wr => ∃ (k : Nat) (xs : List Int), k ≤ n ∧ i = .int .i64 k ∧ xs.length = k ∧ Hid (AscI xs) ∧ Hid (OwnRow IL 3 wr w.heap.size o xs) ∧ Hid (o ≠ .slice none 0 0) ∧ Hid (IsRd wr S b (p + 1 + k)) ∧ Hid (w.grownBy wr (some b))) (fun _ i _ _ _ => n - (intOf i).toNat)
  case atStart => exact ⟨0, [], Nat.zero_le _, rfl, rfl, Lib.hid AscI.nil, O1, Lib.hid (by simp), Lib.hid (by simpa using R1.out), G1⟩
  case round =>
    obtain ⟨k, xs, hk, rfl, hxl, HA, OW, NN, RD, GG⟩ := hrel
    clear O1 R1 G1
    rcases OW.out.shape with ⟨rfl, _⟩ | ⟨g, cp, rfl, hBg, hgl, hncap, hcm⟩
    · exact absurd rfl NN.out
    clear hgl
    by_cases hlt : k < n
    · have hx10 : xs.length ≤ 10 := by omega
      have HXL := Lib.hid hxl
      have dk : decide ((k : Int) < (n : Int)) = true := decide_eq_true (by omega)
      have dk' : decide (k < n) = true := decide_eq_true hlt
      clear hxl
      go_wp2_with fail
      refine (pick_any S b _ 64 _ RD.out (by omega) (by omega) (by omega)).mono ?_
      rintro e wq ⟨m2, rfl, ⟨hm2, hm2'⟩, r2, g2⟩
      have O2q := Lib.hid (OW.out.gr g2 (ap_ne fun x hx => by have := (OW.out.lts x hx).1; omega))
      have R2 := Lib.hid r2
      have G2 := Lib.hid (GG.out.trans g2)
      clear r2 g2 OW RD GG
      go_wp2
      go_loop [8] (fun s8 => ∃ pp : Int, s8 = .int .i64 pp ∧ 0 ≤ pp ∧ pp ≤ 63) (fun s8 => freeR xs (intOf s8) 11)
      case atStart => exact ⟨m2, rfl, hm2, by omega⟩
      case round =>
        obtain ⟨pp, rfl, hpp0, hpp1⟩ := hrel
        by_cases hin : pp ∈ xs
        · have hq : decide (pp ∈ xs) = true := decide_eq_true hin
          have HS := Lib.hid (freeR_step hx10 hpp0 (by omega) hin)
          have e13 : IntKind.i64.wrap (pp + 1) = pp + 1 := IntWalk.i64_in _ (by omega)
          have e14 : Int.tmod (pp + 1) 64 = (pp + 1) % 64 := Int.tmod_eq_emod_of_nonneg (by omega)
          clear hin
          go_wp2_with fail
          refine (l1Has_any _ xs pp _ (by omega) O2q.out.li.reads).mono ?_
          rintro e w' ⟨rfl, rfl⟩
          rw [hq]
          obtain ⟨pq, hpq⟩ : ∃ pq, pq = (pp + 1) % 64 := ⟨_, rfl⟩
          rw [← hpq] at e14 HS
          have hpq2 : 0 ≤ pq ∧ pq ≤ 63 := by omega
          clear hpq
          go_wp2
          go_round
          case rel => exact ⟨pq, rfl, hpq2.1, hpq2.2⟩
          case measure => simpa [intOf] using HS.out
        · have hq : decide (pp ∈ xs) = false := decide_eq_false hin
          have HNI := Lib.hid hin
          clear hin
          go_wp2_with fail
          refine (l1Has_any _ xs pp _ (by omega) O2q.out.li.reads).mono ?_
          rintro e w' ⟨rfl, rfl⟩
          rw [hq]
          have HCL0 : ∀ t (h : t < xs.length), wq.cell? ⟨g, t, none⟩ = some (.int .i64 xs[t]) := fun t h => by
            have := (O2q.out.reads.addr.2 t (.int .i64 xs[t]) (by rw [flat_IL]; simp [ints, h])).2
            rwa [Addr.add_mid, Nat.zero_add] at this
          have HCL := Lib.hid HCL0
          clear HCL0
          go_wp2
          go_loop [9] (fun s9 => ∃ j : Nat, j ≤ xs.length ∧ s9 = .int .i64 j ∧ Hid (∀ t (h : t < xs.length), t < j → xs[t] < pp)) (fun s9 => xs.length - (intOf s9).toNat)
          case atStart => exact ⟨0, Nat.zero_le _, rfl, Lib.hid (fun t h ht => by omega)⟩
          case round =>
            obtain ⟨j, hj, rfl, HJ⟩ := hrel
            by_cases hgo : ∃ h : j < xs.length, xs[j] < pp
            · obtain ⟨hjl, hxk⟩ := hgo
              have k0 := HCL.out j hjl
              have HXK := Lib.hid hxk
              have hq2 : decide (xs[j] < pp) = true := decide_eq_true hxk
              have d1 : decide ((j : Int) < (xs.length : Int)) = true := decide_eq_true (by omega)
              have d1' : decide (j < xs.length) = true := decide_eq_true hjl
              clear hxk
              have hj1 : Hid (∀ t (h : t < xs.length), t < j + 1 → xs[t] < pp) := Lib.hid (fun t h ht => by
                by_cases htj : t = j
                · subst htj; exact HXK.out
                · exact HJ.out t h (by omega))
              generalize xs[j] = x at *
              go_wp2
              go_round
              case rel => exact ⟨j + 1, by omega, by go_num, hj1⟩
              case measure => simp [intOf]; omega
            · have HAI : Hid (AscI (insAt xs j pp)) := Lib.hid (HA.out.ins ⟨hpp0, hpp1⟩ HNI.out hj (fun i hi hij => HJ.out i hi hij) (fun h hx => hgo ⟨h, hx⟩))
              have HIL : Hid ((insAt xs j pp).length = k + 1) := Lib.hid (by rw [insAt_len pp hj, HXL.out])
              have hexit : Hid (j = xs.length ∨ ∃ h : j < xs.length, ¬ xs[j] < pp) := Lib.hid (by
                by_cases h : j < xs.length
                · exact .inr ⟨h, fun hx => hgo ⟨h, hx⟩⟩
                · exact .inl (by omega))
              clear hgo
              obtain ⟨A, hA⟩ : ∃ A : Addr, (if cp = j then some (⟨g, 0, none⟩ : Addr) else some ⟨g, j, none⟩) = some A := by split <;> exact ⟨_, rfl⟩
              have OR := O2q.out
              have RT := (OR.take hj).reads
              have RDp := dropI OR hj hA
              have hjc : j ≤ cp := by omega
              have hG2 := G2.out.size
              rcases hexit.out with hje | ⟨hjl, hxk⟩
              · have d1 : decide ((j : Int) < (xs.length : Int)) = false := decide_eq_false (by omega)
                have d1' : decide (j < xs.length) = false := decide_eq_false (by omega)
                clear hje
                go_wp2_with fail
                clear d1 d1'
                go_region_law (first | (refine step_appL IL rfl (.tmp 44) (.tmp 47) 30 3 rfl i0 (.int .i64 0) 8 Try.underlying30 hi hz0 hz1 hz2 rfl wq.heap.size (.slice (some ⟨wq.heap.size, 0, none⟩) 0 0) ([]) ?_ (by repeat' (first | with_reducible refine OwnRow.empty' IL 3 _ (by simp) (by simp) | with_reducible refine OwnRow.al ?_ _ | with_reducible refine OwnRow.d1 ?_)) (⟨g, 0, none⟩) (j) (cp) (xs.take j) (by simp [Act.eval, Act.put]) (by repeat' (first | with_reducible assumption | with_reducible refine RRow.al ?_ _ | with_reducible refine RRow.d1 ?_)) (by simp; unfold maxLen; omega) (by simp; omega) (Below.size (B := wq.heap.size) (w := wq) (by repeat' (first | with_reducible exact Below.refl _ _ | with_reducible assumption | with_reducible refine bAl ?_ _ | with_reducible refine bD1 ?_))) (by first | assumption | simp) ?_; (· (simp [Act.eval, Act.put])); intro v1 w1 o1 g1 n1; have b1' : Below wq.heap.size wq w1 := bGr (by repeat' (first | with_reducible exact Below.refl _ _ | with_reducible assumption | with_reducible refine bAl ?_ _ | with_reducible refine bD1 ?_)) g1 (fun k hk => by simp [Value.ownBlock] at hk; omega)) | (refine step_appL IL rfl (.tmp 44) (.tmp 47) 30 3 rfl i0 (.int .i64 0) 8 Try.underlying30 hi hz0 hz1 hz2 rfl wq.heap.size (.slice (some ⟨wq.heap.size + 1, 0, none⟩) 0 0) ([]) ?_ (by repeat' (first | with_reducible refine OwnRow.empty' IL 3 _ (by simp) (by simp) | with_reducible refine OwnRow.al ?_ _ | with_reducible refine OwnRow.d1 ?_)) (⟨g, 0, none⟩) (j) (cp) (xs.take j) (by simp [Act.eval, Act.put]) (by repeat' (first | with_reducible assumption | with_reducible refine RRow.al ?_ _ | with_reducible refine RRow.d1 ?_)) (by simp; unfold maxLen; omega) (by simp; omega) (Below.size (B := wq.heap.size) (w := wq) (by repeat' (first | with_reducible exact Below.refl _ _ | with_reducible assumption | with_reducible refine bAl ?_ _ | with_reducible refine bD1 ?_))) (by first | assumption | simp) ?_; (· (simp [Act.eval, Act.put])); intro v1 w1 o1 g1 n1; have b1' : Below wq.heap.size wq w1 := bGr (by repeat' (first | with_reducible exact Below.refl _ _ | with_reducible assumption | with_reducible refine bAl ?_ _ | with_reducible refine bD1 ?_)) g1 (fun k hk => by simp [Value.ownBlock] at hk; omega)) | (refine step_appL IL rfl (.tmp 48) (.tmp 50) 30 3 rfl i0 (.int .i64 0) 8 Try.underlying30 hi hz0 hz1 hz2 rfl wq.heap.size (v1) ([] ++ xs.take j) (by simp [Act.eval, Act.put]) (by repeat' (first | with_reducible assumption | with_reducible refine OwnRow.al ?_ _ | with_reducible refine OwnRow.d1 ?_)) (⟨w1.heap.size, 0, none⟩) (1) (1) ([pp]) ?_ (RRow.one IL _ pp rfl rfl) (by simp; unfold maxLen; omega) (by simp; omega) (Below.size (B := wq.heap.size) (w := wq) (by repeat' (first | with_reducible exact Below.refl _ _ | with_reducible assumption | with_reducible refine bAl ?_ _ | with_reducible refine bD1 ?_))) (by first | assumption | simp) ?_; (· (simp [Act.eval, Act.put])); intro v2 w2 o2 g2' n2; have b2' : Below wq.heap.size wq w2 := bGr (by repeat' (first | with_reducible exact Below.refl _ _ | with_reducible assumption | with_reducible refine bAl ?_ _ | with_reducible refine bD1 ?_)) g2' (fun k hk => (o1.lts k hk).1)) | (refine step_appL IL rfl (.tmp 48) (.tmp 50) 30 3 rfl i0 (.int .i64 0) 8 Try.underlying30 hi hz0 hz1 hz2 rfl wq.heap.size (v1) ([] ++ xs.take j) (by simp [Act.eval, Act.put]) (by repeat' (first | with_reducible assumption | with_reducible refine OwnRow.al ?_ _ | with_reducible refine OwnRow.d1 ?_)) (⟨wq.heap.size + 1, 0, none⟩) (1) (1) ([pp]) ?_ (RRow.gr (RRow.d1 (RRow.one IL _ pp (by simp) rfl)) g1 (.inr (by simp [Value.ownBlock]))) (by simp; unfold maxLen; omega) (by simp; omega) (Below.size (B := wq.heap.size) (w := wq) (by repeat' (first | with_reducible exact Below.refl _ _ | with_reducible assumption | with_reducible refine bAl ?_ _ | with_reducible refine bD1 ?_))) (by first | assumption | simp) ?_; (· (simp [Act.eval, Act.put])); intro v2 w2 o2 g2' n2; have b2' : Below wq.heap.size wq w2 := bGr (by repeat' (first | with_reducible exact Below.refl _ _ | with_reducible assumption | with_reducible refine bAl ?_ _ | with_reducible refine bD1 ?_)) g2' (fun k hk => (o1.lts k hk).1)) | (refine step_appL IL rfl (.tmp 48) (.tmp 50) 30 3 rfl i0 (.int .i64 0) 8 Try.underlying30 hi hz0 hz1 hz2 rfl wq.heap.size (v1) ([] ++ xs.take j) (by simp [Act.eval, Act.put]) (by repeat' (first | with_reducible assumption | with_reducible refine OwnRow.al ?_ _ | with_reducible refine OwnRow.d1 ?_)) (⟨wq.heap.size, 0, none⟩) (1) (1) ([pp]) ?_ (RRow.gr (RRow.d1 (RRow.al (RRow.one IL _ pp (by simp) rfl) _)) g1 (.inr (by simp [Value.ownBlock]))) (by simp; unfold maxLen; omega) (by simp; omega) (Below.size (B := wq.heap.size) (w := wq) (by repeat' (first | with_reducible exact Below.refl _ _ | with_reducible assumption | with_reducible refine bAl ?_ _ | with_reducible refine bD1 ?_))) (by first | assumption | simp) ?_; (· (simp [Act.eval, Act.put])); intro v2 w2 o2 g2' n2; have b2' : Below wq.heap.size wq w2 := bGr (by repeat' (first | with_reducible exact Below.refl _ _ | with_reducible assumption | with_reducible refine bAl ?_ _ | with_reducible refine bD1 ?_)) g2' (fun k hk => (o1.lts k hk).1)) | (refine step_appL IL rfl (.tmp 51) (.tmp 54) 30 3 rfl i0 (.int .i64 0) 8 Try.underlying30 hi hz0 hz1 hz2 rfl wq.heap.size (v2) ([] ++ xs.take j ++ [pp]) (by simp [Act.eval, Act.put]) (by repeat' (first | with_reducible assumption | with_reducible refine OwnRow.al ?_ _ | with_reducible refine OwnRow.d1 ?_)) (A) (xs.length - j) (cp - j) (xs.drop j) (by simp [Act.eval, Act.put]) (RDp.bl b2') (by simp; unfold maxLen; omega) (by simp; omega) (Below.size (B := wq.heap.size) (w := wq) (by repeat' (first | with_reducible exact Below.refl _ _ | with_reducible assumption | with_reducible refine bAl ?_ _ | with_reducible refine bD1 ?_))) (by first | assumption | simp) ?_; intro v3 w3 o3 g3 n3; have b3' : Below wq.heap.size wq w3 := bGr (by repeat' (first | with_reducible exact Below.refl _ _ | with_reducible assumption | with_reducible refine bAl ?_ _ | with_reducible refine bD1 ?_)) g3 (fun k hk => (o2.lts k hk).1)))
                all_goals
                  have O3 := Lib.hid (o3.base hG2)
                  have N3 := Lib.hid n3
                  have R3 := Lib.hid ((R2.out.belowAll b3').up (show p + 1 + (k : Int) + 1 = p + 1 + ((k + 1 : Nat) : Int) by omega))
                  have G3 := Lib.hid (gBelow G2.out b3')
                  clear o1 g1 n1 b1' o2 g2' n2 b2' o3 g3 n3 b3'
                  go_wp2
                  go_roundw
                  case rel => exact ⟨k + 1, insAt xs j pp, by omega, by go_num, HIL.out, HAI, O3, N3, R3, G3⟩
                  case measure => simp [intOf]; omega
              · have k0 := HCL.out j hjl
                have hq2 : decide (xs[j] < pp) = false := decide_eq_false hxk
                have d1 : decide ((j : Int) < (xs.length : Int)) = true := decide_eq_true (by omega)
                have d1' : decide (j < xs.length) = true := decide_eq_true hjl
                clear hxk
                generalize xs[j] = x at *
                go_wp2_with fail
                clear d1 d1' hq2 k0
                go_region_law (first | (refine step_appL IL rfl (.tmp 44) (.tmp 47) 30 3 rfl i0 (.int .i64 0) 8 Try.underlying30 hi hz0 hz1 hz2 rfl wq.heap.size (.slice (some ⟨wq.heap.size, 0, none⟩) 0 0) ([]) ?_ (by repeat' (first | with_reducible refine OwnRow.empty' IL 3 _ (by simp) (by simp) | with_reducible refine OwnRow.al ?_ _ | with_reducible refine OwnRow.d1 ?_)) (⟨g, 0, none⟩) (j) (cp) (xs.take j) (by simp [Act.eval, Act.put]) (by repeat' (first | with_reducible assumption | with_reducible refine RRow.al ?_ _ | with_reducible refine RRow.d1 ?_)) (by simp; unfold maxLen; omega) (by simp; omega) (Below.size (B := wq.heap.size) (w := wq) (by repeat' (first | with_reducible exact Below.refl _ _ | with_reducible assumption | with_reducible refine bAl ?_ _ | with_reducible refine bD1 ?_))) (by first | assumption | simp) ?_; (· (simp [Act.eval, Act.put])); intro v1 w1 o1 g1 n1; have b1' : Below wq.heap.size wq w1 := bGr (by repeat' (first | with_reducible exact Below.refl _ _ | with_reducible assumption | with_reducible refine bAl ?_ _ | with_reducible refine bD1 ?_)) g1 (fun k hk => by simp [Value.ownBlock] at hk; omega)) | (refine step_appL IL rfl (.tmp 44) (.tmp 47) 30 3 rfl i0 (.int .i64 0) 8 Try.underlying30 hi hz0 hz1 hz2 rfl wq.heap.size (.slice (some ⟨wq.heap.size + 1, 0, none⟩) 0 0) ([]) ?_ (by repeat' (first | with_reducible refine OwnRow.empty' IL 3 _ (by simp) (by simp) | with_reducible refine OwnRow.al ?_ _ | with_reducible refine OwnRow.d1 ?_)) (⟨g, 0, none⟩) (j) (cp) (xs.take j) (by simp [Act.eval, Act.put]) (by repeat' (first | with_reducible assumption | with_reducible refine RRow.al ?_ _ | with_reducible refine RRow.d1 ?_)) (by simp; unfold maxLen; omega) (by simp; omega) (Below.size (B := wq.heap.size) (w := wq) (by repeat' (first | with_reducible exact Below.refl _ _ | with_reducible assumption | with_reducible refine bAl ?_ _ | with_reducible refine bD1 ?_))) (by first | assumption | simp) ?_; (· (simp [Act.eval, Act.put])); intro v1 w1 o1 g1 n1; have b1' : Below wq.heap.size wq w1 := bGr (by repeat' (first | with_reducible exact Below.refl _ _ | with_reducible assumption | with_reducible refine bAl ?_ _ | with_reducible refine bD1 ?_)) g1 (fun k hk => by simp [Value.ownBlock] at hk; omega)) | (refine step_appL IL rfl (.tmp 48) (.tmp 50) 30 3 rfl i0 (.int .i64 0) 8 Try.underlying30 hi hz0 hz1 hz2 rfl wq.heap.size (v1) ([] ++ xs.take j) (by simp [Act.eval, Act.put]) (by repeat' (first | with_reducible assumption | with_reducible refine OwnRow.al ?_ _ | with_reducible refine OwnRow.d1 ?_)) (⟨w1.heap.size, 0, none⟩) (1) (1) ([pp]) ?_ (RRow.one IL _ pp rfl rfl) (by simp; unfold maxLen; omega) (by simp; omega) (Below.size (B := wq.heap.size) (w := wq) (by repeat' (first | with_reducible exact Below.refl _ _ | with_reducible assumption | with_reducible refine bAl ?_ _ | with_reducible refine bD1 ?_))) (by first | assumption | simp) ?_; (· (simp [Act.eval, Act.put])); intro v2 w2 o2 g2' n2; have b2' : Below wq.heap.size wq w2 := bGr (by repeat' (first | with_reducible exact Below.refl _ _ | with_reducible assumption | with_reducible refine bAl ?_ _ | with_reducible refine bD1 ?_)) g2' (fun k hk => (o1.lts k hk).1)) | (refine step_appL IL rfl (.tmp 48) (.tmp 50) 30 3 rfl i0 (.int .i64 0) 8 Try.underlying30 hi hz0 hz1 hz2 rfl wq.heap.size (v1) ([] ++ xs.take j) (by simp [Act.eval, Act.put]) (by repeat' (first | with_reducible assumption | with_reducible refine OwnRow.al ?_ _ | with_reducible refine OwnRow.d1 ?_)) (⟨wq.heap.size + 1, 0, none⟩) (1) (1) ([pp]) ?_ (RRow.gr (RRow.d1 (RRow.one IL _ pp (by simp) rfl)) g1 (.inr (by simp [Value.ownBlock]))) (by simp; unfold maxLen; omega) (by simp; omega) (Below.size (B := wq.heap.size) (w := wq) (by repeat' (first | with_reducible exact Below.refl _ _ | with_reducible assumption | with_reducible refine bAl ?_ _ | with_reducible refine bD1 ?_))) (by first | assumption | simp) ?_; (· (simp [Act.eval, Act.put])); intro v2 w2 o2 g2' n2; have b2' : Below wq.heap.size wq w2 := bGr (by repeat' (first | with_reducible exact Below.refl _ _ | with_reducible assumption | with_reducible refine bAl ?_ _ | with_reducible refine bD1 ?_)) g2' (fun k hk => (o1.lts k hk).1)) | (refine step_appL IL rfl (.tmp 48) (.tmp 50) 30 3 rfl i0 (.int .i64 0) 8 Try.underlying30 hi hz0 hz1 hz2 rfl wq.heap.size (v1) ([] ++ xs.take j) (by simp [Act.eval, Act.put]) (by repeat' (first | with_reducible assumption | with_reducible refine OwnRow.al ?_ _ | with_reducible refine OwnRow.d1 ?_)) (⟨wq.heap.size, 0, none⟩) (1) (1) ([pp]) ?_ (RRow.gr (RRow.d1 (RRow.al (RRow.one IL _ pp (by simp) rfl) _)) g1 (.inr (by simp [Value.ownBlock]))) (by simp; unfold maxLen; omega) (by simp; omega) (Below.size (B := wq.heap.size) (w := wq) (by repeat' (first | with_reducible exact Below.refl _ _ | with_reducible assumption | with_reducible refine bAl ?_ _ | with_reducible refine bD1 ?_))) (by first | assumption | simp) ?_; (· (simp [Act.eval, Act.put])); intro v2 w2 o2 g2' n2; have b2' : Below wq.heap.size wq w2 := bGr (by repeat' (first | with_reducible exact Below.refl _ _ | with_reducible assumption | with_reducible refine bAl ?_ _ | with_reducible refine bD1 ?_)) g2' (fun k hk => (o1.lts k hk).1)) | (refine step_appL IL rfl (.tmp 51) (.tmp 54) 30 3 rfl i0 (.int .i64 0) 8 Try.underlying30 hi hz0 hz1 hz2 rfl wq.heap.size (v2) ([] ++ xs.take j ++ [pp]) (by simp [Act.eval, Act.put]) (by repeat' (first | with_reducible assumption | with_reducible refine OwnRow.al ?_ _ | with_reducible refine OwnRow.d1 ?_)) (A) (xs.length - j) (cp - j) (xs.drop j) (by simp [Act.eval, Act.put]) (RDp.bl b2') (by simp; unfold maxLen; omega) (by simp; omega) (Below.size (B := wq.heap.size) (w := wq) (by repeat' (first | with_reducible exact Below.refl _ _ | with_reducible assumption | with_reducible refine bAl ?_ _ | with_reducible refine bD1 ?_))) (by first | assumption | simp) ?_; intro v3 w3 o3 g3 n3; have b3' : Below wq.heap.size wq w3 := bGr (by repeat' (first | with_reducible exact Below.refl _ _ | with_reducible assumption | with_reducible refine bAl ?_ _ | with_reducible refine bD1 ?_)) g3 (fun k hk => (o2.lts k hk).1)))
                all_goals
                  have O3 := Lib.hid (o3.base hG2)
                  have N3 := Lib.hid n3
                  have R3 := Lib.hid ((R2.out.belowAll b3').up (show p + 1 + (k : Int) + 1 = p + 1 + ((k + 1 : Nat) : Int) by omega))
                  have G3 := Lib.hid (gBelow G2.out b3')
                  clear o1 g1 n1 b1' o2 g2' n2 b2' o3 g3 n3 b3'
                  go_wp2
                  go_roundw
                  case rel => exact ⟨k + 1, insAt xs j pp, by omega, by go_num, HIL.out, HAI, O3, N3, R3, G3⟩
                  case measure => simp [intOf]; omega
    · obtain rfl : k = n := by omega
      have dk : decide ((k : Int) < (k : Int)) = false := decide_eq_false (by omega)
      go_wp2
      go_ret
      exact ⟨_, xs, rfl, OW.out.li, ⟨by omega, by omega⟩, HA.out, by simp, ⟨_, by omega, RD.out⟩, GG.out⟩
end Go.Proofs.Ythgekfiodedelaa
