/- What DrawPlaceOwner, DrawPlaceTable, DrawPlaceLoad, DrawPlaceMoved draw. -/
import Derived.Test.YtfklkkelgpeccaaDrawPl2
import Derived.Test.YtfklkkelgpeccaaStepCall
import Derived.Deep.RegionLaw
namespace Go.Proofs.Ytfklkkelgpeccaa
open Go.RowKit
set_option linter.unusedVariables false
set_option linter.unusedSimpArgs false

set_option maxHeartbeats 1000000 in
theorem drawPlaceOwner_any (v : Value) (zs : List Int) (w : World) (hr : RBytes w v zs) (hl : zs.length ≤ 1048576) :
    Calls Try.prog 27 #[v] w fun e w' => ∃ u ts key, e = .returned (.tuple #[u, .int .i64 key]) ∧ OwnRow TL tokT w' w.heap.size u ts ∧ ts.length ≤ 64 ∧ Below w.heap.size w w' := by
  go_enter Try.func27, Try.ntmps27
  go_wp2_with fail
  refine (l6Open_any v zs _ hr hl).mono ?_
  rintro e w1 ⟨b, rfl, hb, r1, b1⟩
  have hbl := r1.lt
  go_wp2_with fail
  refine (l92Table_any _ b 0 _ r1 (by omega)).mono ?_
  rintro e w2 ⟨u, xs, rfl, o2, hl2, -, ⟨q, hq, r2⟩, g2⟩
  have hs1 := b1.size
  obtain ⟨au, capu, rfl, -, -, -⟩ := o2.reads
  go_wp2_with fail
  refine (l91Point_any _ b _ _ r2 (by omega)).mono ?_
  rintro e w3 ⟨m3, rfl, -, r3, g3⟩
  have o3 := o2.rdx hbl g3
  have G3 := g2.trans g3
  go_wp2
  refine bodyPost_ret (v := .tuple #[.slice au xs.length capu, .int .i64 m3]) ?_ rfl ⟨_, xs, m3, rfl, o3.base hs1, hl2, b1.grown G3 hs1 (fun j hj => by cases hj; exact hb)⟩
  simp [results, Try.results27, go_sem]

set_option maxHeartbeats 1000000 in
theorem drawPlaceTable_any (v : Value) (zs : List Int) (w : World) (hr : RBytes w v zs) (hl : zs.length ≤ 1048576) :
    Calls Try.prog 36 #[v] w fun e w' => ∃ u x ns ws, e = .returned (.tuple #[u, x]) ∧ OwnRow IL 3 w' w.heap.size u ns ∧ OwnRow IL 3 w' w.heap.size x ws ∧ ns.length ≤ 20 ∧ ws.length ≤ 21 ∧ Below w.heap.size w w' := by
  go_enter Try.func36, Try.ntmps36
  go_wp2_with fail
  refine (l6Open_any v zs _ hr hl).mono ?_
  rintro e w1 ⟨b, rfl, hb, r1, b1⟩
  have hbl := r1.lt
  go_wp2_with fail
  refine (l92Place_any _ b 0 _ r1 (by omega)).mono ?_
  rintro e w2 ⟨u, x, xs, ys, rfl, o2, p2, hl2, hl3, ⟨q, hq, r2⟩, g2⟩
  have hs1 := b1.size
  obtain ⟨au, capu, rfl, -, -, -⟩ := o2.reads
  obtain ⟨ax, capx, rfl, -, -, -⟩ := p2.reads
  go_wp2
  refine bodyPost_ret (v := .tuple #[.slice au xs.length capu, .slice ax ys.length capx]) ?_ rfl ⟨_, _, xs, ys, rfl, o2.base hs1, p2.base hs1, hl2, hl3, b1.grown g2 hs1 (fun j hj => by cases hj; exact hb)⟩
  simp [results, Try.results36, go_sem]

set_option maxHeartbeats 2000000 in
theorem drawPlaceLoad_any (v : Value) (zs : List Int) (w : World) (hr : RBytes w v zs) (hl : zs.length ≤ 1048576) :
    Calls Try.prog 28 #[v] w fun e w' => ∃ u ts key, e = .returned (.tuple #[u, .int .i64 key]) ∧ OwnRow TL tokT w' w.heap.size u ts ∧ ts.length ≤ 64 ∧ Below w.heap.size w w' := by
  go_enter Try.func28, Try.ntmps28
  go_wp2_with fail
  refine (l6Open_any v zs _ hr hl).mono ?_
  rintro e w1 ⟨b, rfl, hb, r1, b1⟩
  have hbl := r1.lt
  go_wp2_with fail
  refine (l92Table_any _ b 0 _ r1 (by omega)).mono ?_
  rintro e w2 ⟨u, xs, rfl, o2, hl2, nn, ⟨q, hq, r2⟩, g2⟩
  have hs1 := b1.size
  have hq0 := r2.2.1
  rcases o2.shape with ⟨rfl, _⟩ | ⟨g, cp, rfl, hBg, hgl, hncap, hcm⟩
  · exact absurd rfl nn
  clear nn
  have point : ∀ (wx : World) (rx : IsRd wx w.heap.size b (q + 1) ∨ IsRd wx w.heap.size b q), True := fun _ _ => trivial
  by_cases hz : 0 < xs.length
  · have dz : decide ((0 : Int) < (xs.length : Int)) = true := decide_eq_true (by omega)
    have dz' : decide (0 < xs.length) = true := decide_eq_true hz
    go_wp2_with fail
    refine (pick_any _ b _ 4 _ r2 (by omega) (by omega) (by omega)).mono ?_
    rintro e w3 ⟨m3, rfl, ⟨hm3, hm3'⟩, r3, g3⟩
    have o3 := o2.rdx hbl g3
    have G3 := g2.trans g3
    clear o2 g2 g3 r2 point
    by_cases h0 : 0 < m3
    · have d0 : decide (0 < m3) = true := decide_eq_true h0
      clear h0
      have O3 := Lib.hid o3; have GG3 := Lib.hid G3; have R3 := Lib.hid r3
      clear o3 G3 r3
      go_wp2_with fail
      go_region_law (apply step_call rfl (f := 50) (args := #[.pointer (some ⟨b, 0, none⟩), .int .i64 xs.length]); (· simp [execOp, Act.eval, Act.put, go_sem]); (· exact pick_any _ b _ _ _ (show IsRd w3.drew w.heap.size b (q + 1) from R3.out) (by omega) (by omega) (by omega)); rintro e w4 ⟨m4, rfl, ⟨hm4, hm4'⟩, r4, g4⟩; refine ⟨_, rfl, ?_⟩; obtain ⟨m4, rfl⟩ := Int.eq_ofNat_of_zero_le hm4; have hm4l : m4 < xs.length := (by omega); have o4 := Lib.hid (OwnRow.rdx (O3.out.d1) hbl g4); obtain ⟨-, k1⟩ := o4.out.tok m4 hm4l; have G4 := Lib.hid (GG3.out.trans ((grown_drewN w3 1 (some b)).trans g4)); generalize xs[m4].2 = y at *)
      all_goals
        go_wp2
        refine bodyPost_ret (v := .tuple #[.slice (some ⟨g, 0, none⟩) xs.length cp, .int .i64 y]) ?_ rfl ⟨_, xs, y, rfl, o4.out.base hs1, hl2, b1.grown G4.out hs1 (fun j hj => by cases hj; exact hb)⟩
        simp [results, Try.results28, go_sem]
    · have d0 : decide (0 < m3) = false := decide_eq_false h0
      clear h0
      go_wp2_with fail
      refine (l91Point_any _ b _ _ r3 (by omega)).mono ?_
      rintro e w4 ⟨m4, rfl, -, r4, g4⟩
      have o4 := o3.rdx hbl g4
      have G4 := G3.trans g4
      go_wp2
      refine bodyPost_ret (v := .tuple #[.slice (some ⟨g, 0, none⟩) xs.length cp, .int .i64 m4]) ?_ rfl ⟨_, xs, m4, rfl, o4.base hs1, hl2, b1.grown G4 hs1 (fun j hj => by cases hj; exact hb)⟩
      simp [results, Try.results28, go_sem]
  · have dz : decide ((0 : Int) < (xs.length : Int)) = false := decide_eq_false (by omega)
    have dz' : decide (0 < xs.length) = false := decide_eq_false hz
    clear hz point
    go_wp2_with fail
    refine (l91Point_any _ b _ _ r2 (by omega)).mono ?_
    rintro e w4 ⟨m4, rfl, -, r4, g4⟩
    have o4 := o2.rdx hbl g4
    have G4 := g2.trans g4
    go_wp2
    refine bodyPost_ret (v := .tuple #[.slice (some ⟨g, 0, none⟩) xs.length cp, .int .i64 m4]) ?_ rfl ⟨_, xs, m4, rfl, o4.base hs1, hl2, b1.grown G4 hs1 (fun j hj => by cases hj; exact hb)⟩
    simp [results, Try.results28, go_sem]
theorem dropTk {e : TypeId} {w : World} {B g n cp j : Nat} {es : List Tok} {A : Addr} (h : OwnRow TL e w B (.slice (some ⟨g, 0, none⟩) n cp) es) (hj : j ≤ es.length) (hA : (if cp = j then some (⟨g, 0, none⟩ : Addr) else some ⟨g, j * 2, none⟩) = some A) :
    RRow TL w (.slice (some A) (es.length - j) (cp - j)) (es.drop j) := by
  obtain rfl := h.len
  obtain ⟨a', cap', hv, hn, hc, -⟩ := h.reads
  simp only [Value.slice.injEq, true_and] at hv
  obtain ⟨-, rfl⟩ := hv
  by_cases hcj : cp = j
  · rw [if_pos hcj] at hA
    have hz : es.drop j = [] := List.drop_of_length_le (by omega)
    rw [hz]
    exact ⟨some A, cp - j, by congr 1; simp; omega, by simp, by omega, fun i hi => absurd hi (by simp)⟩
  · rw [if_neg hcj] at hA
    cases hA
    have h1 := h.reads.sub j es.length hj (Nat.le_refl _) (cp - j) (by omega) (by omega)
    rw [List.take_length, Nat.zero_add] at h1
    exact h1

set_option maxRecDepth 1000000 in
set_option maxHeartbeats 4000000 in
theorem drawPlaceMoved_any (v : Value) (zs : List Int) (w : World) (hr : RBytes w v zs) (hl : zs.length ≤ 1048576) :
    Calls Try.prog 29 #[v] w fun e w' => ∃ u x ts us, e = .returned (.tuple #[u, x]) ∧ OwnRow TL tokT w' w.heap.size u ts ∧ OwnRow TL tokT w' w.heap.size x us ∧ ts.length ≤ 64 ∧ us.length ≤ 64 ∧ Below w.heap.size w w' := by
  obtain ⟨i0, hi, hz0, hz1, hz2⟩ := info_parts infoTk4
  go_enter Try.func29, Try.ntmps29
  go_wp2_with fail
  refine (l6Open_any v zs _ hr hl).mono ?_
  rintro e w1 ⟨b, rfl, hb, r1, b1⟩
  have hbl := r1.lt
  go_wp2_with fail
  refine (l92Table_any _ b 0 _ r1 (by omega)).mono ?_
  rintro e w2 ⟨u, xs, rfl, o2, hl2, nn, ⟨q, hq, r2⟩, g2⟩
  have hs1 := b1.size
  have hq0 := r2.2.1
  rcases o2.shape with ⟨rfl, _⟩ | ⟨g, cp, rfl, hBg, hgl, hncap, hcm⟩
  · exact absurd rfl nn
  clear nn
  go_wp2_with fail
  refine (pick_any _ b _ 2 _ r2 (by omega) (by omega) (by omega)).mono ?_
  rintro e wp ⟨m3, rfl, ⟨hm3, hm3'⟩, r3, g3⟩
  have O3 := Lib.hid (o2.rdx hbl g3)
  have G3 := Lib.hid (g2.trans g3)
  have R3 := Lib.hid r3
  clear o2 g2 r2 g3 r3
  have other : ∀ (hh : (m3 == 0) = false ∨ ¬ 1 < xs.length), True := fun _ => trivial
  cases h0 : (m3 == 0) with
  | false =>
    clear other
    go_wp2_with fail
    refine (l92Table_any _ b _ _ R3.out (by omega)).mono ?_
    rintro e w5 ⟨x, ys, rfl, o5, hl5, nn5, ⟨q5, hq5, r5⟩, g5⟩
    have O5 := O3.out.rdx hbl g5
    have G5 := G3.out.trans g5
    have hs3 := G3.out.size
    obtain ⟨ax, capx, rfl, -, -, -⟩ := o5.reads
    have Y5 := Lib.hid (o5.base (B' := w.heap.size) (by omega))
    clear o5 nn5
    go_wp2
    refine bodyPost_ret (v := .tuple #[.slice (some ⟨g, 0, none⟩) xs.length cp, .slice ax ys.length capx]) ?_ rfl ⟨_, _, xs, ys, rfl, O5.base hs1, Y5.out, hl2, hl5, b1.grown G5 hs1 (fun j hj => by cases hj; exact hb)⟩
    simp [results, Try.results29, go_sem]
  | true =>
    by_cases hz : 1 < xs.length
    · have dz : decide ((1 : Int) < (xs.length : Int)) = true := decide_eq_true (by omega)
      have dz' : decide (1 < xs.length) = true := decide_eq_true hz
      clear other
      go_wp2_with fail
      refine (pick_any _ b _ _ _ R3.out (by omega) (by omega) (by omega)).mono ?_
      rintro e wq ⟨k, rfl, ⟨hk, hk'⟩, r4, g4⟩
      obtain ⟨k, rfl⟩ := Int.eq_ofNat_of_zero_le hk
      have O4 := O3.out.rdx hbl g4
      have G4 := Lib.hid (G3.out.trans g4)
      have hkl : k < xs.length := by omega
      have RT := (O4.take (k := k) (by omega)).reads
      obtain ⟨A, hA⟩ : ∃ A : Addr, (if cp = k + 1 then some (⟨g, 0, none⟩ : Addr) else some ⟨g, (k + 1) * 2, none⟩) = some A := by split <;> exact ⟨_, rfl⟩
      have RDp := dropTk O4 (j := k + 1) (by omega) hA
      have OA := Lib.hid O4
      have R4 := Lib.hid r4
      have hs4 := G4.out.size
      have e1 : IntKind.i64.wrap ((k : Int) + 1) = (k : Int) + 1 := IntWalk.i64_in _ (by omega)
      have z0 : (0 : Int) ≤ (k : Int) + 1 := by omega
      have z1 : (k : Int) + 1 ≤ (xs.length : Int) := by omega
      have z2 : ((k : Int) + 1).toNat = k + 1 := by omega
      have z3 : k ≤ cp := by omega
      have z4 : (k : Int) ≤ (cp : Int) := by omega
      clear O3 G3 R3 O4 r4 g4 hk hk'
      go_wp2_with fail
      go_region_law (first | (refine step_appL TL rfl (.tmp 24) (.tmp 27) 25 38 rfl i0 (.agg #[.int .i64 0, .int .i64 0]) 16 Try.underlying25 hi hz0 hz1 hz2 rfl wq.heap.size (.slice (some ⟨wq.heap.size, 0, none⟩) 0 0) ([]) ?_ (by repeat' (first | with_reducible refine OwnRow.empty' TL tokT _ (by simp) (by simp) | with_reducible refine OwnRow.al ?_ _ | with_reducible refine OwnRow.d1 ?_)) (⟨g, 0, none⟩) (k) (cp) (xs.take k) (by simp [Act.eval, Act.put]) (by repeat' (first | with_reducible assumption | with_reducible refine RRow.al ?_ _ | with_reducible refine RRow.d1 ?_)) (by simp; unfold maxLen; omega) (by simp; omega) (Below.size (B := wq.heap.size) (w := wq) (by repeat' (first | with_reducible exact Below.refl _ _ | with_reducible assumption | with_reducible refine bAl ?_ _ | with_reducible refine bD1 ?_))) (by first | assumption | simp) ?_; (· (simp [Act.eval, Act.put])); intro v1 w1 o1 g1 n1; have b1' : Below wq.heap.size wq w1 := bGr (by repeat' (first | with_reducible exact Below.refl _ _ | with_reducible assumption | with_reducible refine bAl ?_ _ | with_reducible refine bD1 ?_)) g1 (fun k hk => by simp [Value.ownBlock] at hk; omega)) | (refine step_appL TL rfl (.tmp 28) (.tmp 32) 25 38 rfl i0 (.agg #[.int .i64 0, .int .i64 0]) 16 Try.underlying25 hi hz0 hz1 hz2 rfl wq.heap.size (v1) ([] ++ xs.take k) (by simp [Act.eval, Act.put]) (by repeat' (first | with_reducible assumption | with_reducible refine OwnRow.al ?_ _ | with_reducible refine OwnRow.d1 ?_)) (A) (xs.length - (k + 1)) (cp - (k + 1)) (xs.drop (k + 1)) (by simp [Act.eval, Act.put]) (RDp.bl b1') (by simp; unfold maxLen; omega) (by simp; omega) (Below.size (B := wq.heap.size) (w := wq) (by repeat' (first | with_reducible exact Below.refl _ _ | with_reducible assumption | with_reducible refine bAl ?_ _ | with_reducible refine bD1 ?_))) (by first | assumption | simp) ?_; intro v3 w3 o3 g3 n3; have b3' : Below wq.heap.size wq w3 := bGr (by repeat' (first | with_reducible exact Below.refl _ _ | with_reducible assumption | with_reducible refine bAl ?_ _ | with_reducible refine bD1 ?_)) g3 (fun k hk => (o1.lts k hk).1)))
      all_goals
        have Y := Lib.hid (o3.base (B' := w.heap.size) (by omega))
        have X := Lib.hid ((OA.out.bl b3').base hs1)
        have B3 := Lib.hid ((b1.grown G4.out hs1 (fun j hj => by cases hj; exact hb)).trans (b3'.mono (by omega)))
        obtain ⟨ax, capx, rfl, -, -, -⟩ := o3.reads
        clear o1 g1 n1 b1' o3 g3 n3 b3'
        go_wp2
        refine bodyPost_ret (v := .tuple #[.slice (some ⟨g, 0, none⟩) xs.length cp, .slice ax _ capx]) ?_ rfl ⟨_, _, xs, _, rfl, X.out, Y.out, hl2, by simp; omega, B3.out⟩
        simp [results, Try.results29, go_sem]
    · have dz : decide ((1 : Int) < (xs.length : Int)) = false := decide_eq_false (by omega)
      have dz' : decide (1 < xs.length) = false := decide_eq_false hz
      clear hz other
      go_wp2_with fail
      refine (l92Table_any _ b _ _ R3.out (by omega)).mono ?_
      rintro e w5 ⟨x, ys, rfl, o5, hl5, nn5, ⟨q5, hq5, r5⟩, g5⟩
      have O5 := O3.out.rdx hbl g5
      have G5 := G3.out.trans g5
      have hs3 := G3.out.size
      obtain ⟨ax, capx, rfl, -, -, -⟩ := o5.reads
      have Y5 := Lib.hid (o5.base (B' := w.heap.size) (by omega))
      clear o5 nn5
      go_wp2
      refine bodyPost_ret (v := .tuple #[.slice (some ⟨g, 0, none⟩) xs.length cp, .slice ax ys.length capx]) ?_ rfl ⟨_, _, xs, ys, rfl, O5.base hs1, Y5.out, hl2, hl5, b1.grown G5 hs1 (fun j hj => by cases hj; exact hb)⟩
      simp [results, Try.results29, go_sem]
end Go.Proofs.Ytfklkkelgpeccaa
