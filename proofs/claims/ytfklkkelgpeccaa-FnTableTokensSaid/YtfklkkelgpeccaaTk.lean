/- The laws' helpers on tokens: what each computes. -/
import Derived.Test.YtfklkkelgpeccaaMemG
import Derived.Test.YtfklkkelgpeccaaStr
import Derived.Handy
namespace Go.Proofs.Ytfklkkelgpeccaa
open Go.RowKit
set_option linter.unusedVariables false
set_option linter.unusedSimpArgs false

abbrev tokT : TypeId := 38
def tkV (e : Tok) : Value := .agg #[.int .i64 e.1, .int .i64 e.2]
theorem infoTk : (Try.prog.info? 38).map (·.size) = some 2 := by kernel_rfl

set_option maxHeartbeats 400000 in
theorem toToken_any (x y : Int) (w : World) :
    Calls Try.prog 42 #[.agg #[.int .i64 x, .int .i64 y]] w fun e w' => e = .returned (.agg #[.int .i64 x, .int .i64 y]) ∧ Below w.heap.size w w' := by
  go_enter Try.func42, Try.ntmps42
  go_wp2
  have B := (Blk.new (w.alloc (.cells #[.int .i64 x, .int .i64 y] 52)) #[.int .i64 x, .int .i64 y] 38).al (.cells #[.int .i64 x, .int .i64 y] 38)
  simp only [World.size_alloc] at B
  refine bodyPost_ret (results_cell_row rfl _ _ (w.heap.size + 1) 38 #[.int .i64 x, .int .i64 y] (0, 0) _ rfl B.h Try.underlying38 rfl infoTk) rfl ⟨rfl, bAl (bAl (below_alloc _ _) _) _⟩

set_option maxHeartbeats 400000 in
theorem eqToken_any (x y x2 y2 : Int) (w : World) :
    Calls Try.prog 46 #[.agg #[.int .i64 x, .int .i64 y], .agg #[.int .i64 x2, .int .i64 y2]] w fun e w' => e = .returned (.bool (decide (((x, y) : Tok) = (x2, y2)))) ∧ Below w.heap.size w w' := by
  by_cases h1 : x = x2
  · have h1' : (x != x2) = false := by simp [h1]
    by_cases h2 : y = y2
    · have h2' : (y != y2) = false := by simp [h2]
      have H1 := Lib.hid h1; have H2 := Lib.hid h2; clear h1 h2
      go_enter Try.func46, Try.ntmps46
      go_wp2
      go_ret
      exact ⟨ret_bool (by simp [H1.out, H2.out]), bAl (below_alloc _ _) _⟩
    · have h2' : (y != y2) = true := by simp [h2]
      have H1 := Lib.hid h1; clear h1
      go_enter Try.func46, Try.ntmps46
      go_wp2
      go_ret
      exact ⟨ret_bool (by simp [h2]), bAl (below_alloc _ _) _⟩
  · have h1' : (x != x2) = true := by simp [h1]
    go_enter Try.func46, Try.ntmps46
    go_wp2
    go_ret
    exact ⟨ret_bool (by simp [h1]), bAl (below_alloc _ _) _⟩

set_option maxHeartbeats 400000 in
theorem szTokenS_any (v : Value) (l : Int) (zs : List Tok) (w : World) (h0 : 0 ≤ l) (h1 : l ≤ 4611686018427387904) (hr : RRow TL w v zs) :
    Calls Try.prog 14 #[v, .int .i64 l] w fun e w' => e = .returned (.int .i64 (if l < (zs.length : Int) then -1 else l - zs.length)) ∧ w = w' := by
  obtain ⟨a, cap, rfl, hc, hm, _⟩ := hr
  unfold maxLen at hm
  by_cases h : l < (zs.length : Int)
  · have h' : decide (l - (zs.length : Int) < 0) = true := decide_eq_true (by omega)
    go_enter Try.func14, Try.ntmps14
    go_wp2
    go_ret
    exact ⟨ret_int (by first | rfl | rw [if_pos h]), rfl⟩
  · have h' : decide (l - (zs.length : Int) < 0) = false := decide_eq_false (by omega)
    go_enter Try.func14, Try.ntmps14
    go_wp2
    go_ret
    exact ⟨ret_int (by first | rfl | rw [if_neg (by omega)]), rfl⟩

/-- What toTokenS has laid after j rounds. -/
theorem set_toT {zs : List Tok} {j : Nat} (hj : j < zs.length) : (zs.take j ++ List.replicate (zs.length - j) ((0, 0) : Tok)).set j zs[j] = zs.take (j + 1) ++ List.replicate (zs.length - (j + 1)) ((0, 0) : Tok) := by
  have e : zs.length - j = (zs.length - (j + 1)) + 1 := by omega
  have hl : (zs.take j).length = j := by simp; omega
  rw [List.take_succ_eq_append_getElem hj, e, List.replicate_succ, List.set_append, if_neg (by rw [hl]; omega), hl, Nat.sub_self, List.append_assoc]
  rfl
theorem infoTk4 : (Try.prog.info? 38).map (fun i => (i.zero, i.size, i.bytes)) = some (some (.agg #[.int .i64 0, .int .i64 0]), 2, 16) := by kernel_rfl

set_option maxHeartbeats 1000000 in
theorem toTokenS_any (v : Value) (zs : List Tok) (w : World) (hlen : zs.length ≤ 4194304) (hr : RRow TL w v zs) :
    Calls Try.prog 16 #[v] w fun e w' => ∃ u, e = .returned u ∧ OwnRow TL tokT w' w.heap.size u zs ∧ Below w.heap.size w w' := by
  obtain ⟨a, cap, rfl, hc, hm, -⟩ := id hr
  have hcell := hr.tok
  clear hr
  obtain ⟨i0, hi, hz0, hz1, hz2⟩ := info_parts infoTk4
  go_enter Try.func16, Try.ntmps16
  go_wp2_with (at_make; refine wpList_make_full _ rfl _ _ 25 rfl w.heap.size 38 i0 (.agg #[.int .i64 0, .int .i64 0]) 2 Try.underlying25 hi hz0 hz1 .i64 .i64 _ _ zs.length rfl rfl rfl rfl ?c1 ?c2 ?c3 ?_)
  case c1 => rw [hz2]; omega
  case c2 => omega
  case c3 => exact Nat.le_refl _
  intro w1 hown1 hg1
  have hown1' : OwnRow TL tokT w1 w.heap.size (.slice (some ⟨w.heap.size, 0, none⟩) zs.length zs.length) (zs.take 0 ++ List.replicate (zs.length - 0) ((0, 0) : Tok)) := by
    have e := made_flat TL #[.int .i64 0, .int .i64 0] (0, 0) rfl zs.length
    have hl : (zs.take 0 ++ List.replicate (zs.length - 0) ((0, 0) : Tok)) = List.replicate zs.length (0, 0) := by simp
    rw [hl]
    unfold OwnRow
    rw [← e, List.length_replicate]; exact hown1
  have hbel : Below w.heap.size w w1 := (Below.refl _ _).grown hg1 (Nat.le_refl _) (fun j hj => by cases hj)
  clear hown1 hg1
  go_wp2
  go_loopw [4] (fun i wr => ∃ j : Nat, j ≤ zs.length ∧ i = .int .i64 j ∧ OwnRow TL tokT wr w.heap.size (.slice (some ⟨w.heap.size, 0, none⟩) zs.length zs.length) (zs.take j ++ List.replicate (zs.length - j) ((0, 0) : Tok)) ∧ Below w.heap.size w wr) (fun i _ => zs.length - (intOf i).toNat)
  case atStart => exact ⟨0, Nat.zero_le _, rfl, hown1', hbel⟩
  case round =>
    obtain ⟨j, hj, rfl, hownj, hb⟩ := hrel
    by_cases hlt : j < zs.length
    · obtain ⟨b, off, rfl, hbl, h0, h1⟩ := hcell j hlt
      have hr0 : wr.cell? ⟨b, off + j * 2, none⟩ = some (.int .i64 zs[j].1) := by rw [hb.cell (p := ⟨b, off + j * 2, none⟩) hbl]; exact h0
      have hr1 : wr.cell? ⟨b, off + j * 2 + 1, none⟩ = some (.int .i64 zs[j].2) := by rw [hb.cell (p := ⟨b, off + j * 2 + 1, none⟩) hbl]; exact h1
      clear h0 h1 hcell
      have HS := Lib.hid (set_toT hlt)
      have HL : (zs.take j ++ List.replicate (zs.length - j) ((0, 0) : Tok)).length = zs.length := by simp; omega
      obtain ⟨x, hx⟩ : ∃ x, x = zs[j].1 := ⟨_, rfl⟩
      obtain ⟨y, hy⟩ : ∃ y, y = zs[j].2 := ⟨_, rfl⟩
      rw [← hx] at hr0; rw [← hy] at hr1
      have HX : Hid (zs[j] = (x, y)) := Lib.hid (by rw [hx, hy])
      clear hx hy
      have HL := Lib.hid HL
      go_wp2_with fail
      refine (toToken_any _ _ _).mono ?_
      rintro e w2 ⟨rfl, b2⟩
      have o2 := hownj.bl b2
      have c2 := bNext hb b2
      obtain ⟨k0, k1⟩ := o2.tok j (by rw [HL.out]; exact hlt)
      obtain ⟨u0, k0⟩ : ∃ u, w2.cell? ⟨w.heap.size, j * 2, none⟩ = some u := ⟨_, k0⟩
      obtain ⟨u1, k1⟩ : ∃ u, w2.cell? ⟨w.heap.size, j * 2 + 1, none⟩ = some u := ⟨_, k1⟩
      have f0 := o2.frozenAt (j * 2); have f1 := o2.frozenAt (j * 2 + 1)
      have hst := o2.set2 j (by rw [HL.out]; exact hlt) x y
      rw [← HX.out, HS.out] at hst
      have HST := Lib.hid hst
      clear hst hr0 hr1
      go_wp2
      go_roundw
      case rel => exact ⟨j + 1, by omega, by go_num, HST.out, (c2.setCell (Nat.le_refl _) _).setCell (Nat.le_refl _) _⟩
      case measure => simp [intOf]; omega
    · obtain rfl : j = zs.length := by omega
      go_wp2
      go_ret
      exact ⟨_, rfl, by simpa using hownj, hb⟩

/-- What markTokenS lays. -/
def upTok (k : Int) : Nat → List Tok
  | 0 => []
  | n + 1 => (k, k + 1) :: upTok (k + 2) n
theorem length_upTok (k : Int) (n : Nat) : (upTok k n).length = n := by
  induction n generalizing k with
  | zero => rfl
  | succ n ih => simp [upTok, ih]
theorem upTok_snoc (k : Int) (j : Nat) : upTok k (j + 1) = upTok k j ++ [(k + 2 * j, k + 2 * j + 1)] := by
  induction j generalizing k with
  | zero => simp [upTok]
  | succ j ih => rw [upTok, ih (k + 2)]; simp [upTok]; omega
theorem set_upT {zs : List Tok} {k : Int} {j : Nat} (hj : j < zs.length) : (upTok k j ++ zs.drop j).set j (k + 2 * j, k + 2 * j + 1) = upTok k (j + 1) ++ zs.drop (j + 1) := by
  rw [upTok_snoc, List.set_append, if_neg (by rw [length_upTok]; omega), length_upTok, Nat.sub_self, List.append_assoc, List.drop_eq_getElem_cons hj]
  rfl

set_option maxHeartbeats 1000000 in
theorem markTokenS_any (v : Value) (zs : List Tok) (k : Int) (w : World) (B : Nat) (hk0 : 0 ≤ k) (hk1 : k ≤ 4611686018427387904) (hlen : zs.length ≤ 4194304) (hown0 : OwnAny TL w B v zs) :
    Calls Try.prog 24 #[v, .int .i64 k] w fun e w' => e = .returned (.int .i64 (k + 2 * (zs.length : Int))) ∧ OwnAny TL w' B v (upTok k zs.length) ∧ w.grownBy w' v.ownBlock := by
  obtain ⟨e, hown⟩ := hown0
  rcases hown.shape with ⟨rfl, rfl⟩ | ⟨g, cap, rfl, hB, hg, hn, hc⟩
  · go_enter Try.func24, Try.ntmps24
    go_wp2
    refine wp_loop_rounds 1 ?_
    rw [rounds_succ]
    go_wp2
    go_ret
    exact ⟨by simp, ⟨e, hown⟩, ⟨rfl, rfl, rfl, Nat.le_refl _, fun _ _ _ => rfl⟩⟩
  · go_enter Try.func24, Try.ntmps24
    go_wp2
    go_loopw [1, 5] (fun q i wr => ∃ j : Nat, j ≤ zs.length ∧ i = .int .i64 j ∧ q = .int .i64 (k + 2 * j) ∧ OwnRow TL e wr B (.slice (some ⟨g, 0, none⟩) zs.length cap) (upTok k j ++ zs.drop j) ∧ w.grownBy wr (some g)) (fun _ i _ => zs.length - (intOf i).toNat)
    case atStart => exact ⟨0, Nat.zero_le _, rfl, by simp, by simpa [upTok] using hown, ⟨rfl, rfl, rfl, Nat.le_refl _, fun _ _ _ => rfl⟩⟩
    case round =>
      obtain ⟨j, hj, rfl, rfl, hownj, hgr⟩ := hrel
      by_cases hlt : j < zs.length
      · have hjl : j < (upTok k j ++ zs.drop j).length := by simp [length_upTok]; omega
        obtain ⟨k0, k1⟩ := hownj.tok j hjl
        obtain ⟨u0, k0⟩ : ∃ u, wr.cell? ⟨g, j * 2, none⟩ = some u := ⟨_, k0⟩
        obtain ⟨u1, k1⟩ : ∃ u, wr.cell? ⟨g, j * 2 + 1, none⟩ = some u := ⟨_, k1⟩
        have f0 := hownj.frozenAt (j * 2); have f1 := hownj.frozenAt (j * 2 + 1)
        have hst := hownj.set2 j hjl (k + 2 * j) (k + 2 * j + 1)
        rw [set_upT hlt] at hst
        have HST := Lib.hid hst
        have hG := (grown_set wr g (j * 2) (.int .i64 (k + 2 * j))).trans (grown_set _ g (j * 2 + 1) (.int .i64 (k + 2 * j + 1)))
        clear hst
        go_wp2
        go_roundw
        case rel => exact ⟨j + 1, by omega, by go_num, by go_num, HST.out, hgr.trans hG⟩
        case measure => simp [intOf]; omega
      · obtain rfl : j = zs.length := by omega
        go_wp2
        go_ret
        exact ⟨rfl, ⟨e, by simpa [length_upTok] using hownj⟩, hgr⟩

set_option maxHeartbeats 1000000 in
theorem heldTokenS_up (v : Value) (q : Int) (m : Nat) (w : World) (h1 : 0 ≤ q) (h2 : q ≤ 1000000000) (hl : m ≤ 4194304) (hr : RRow TL w v (upTok q m)) :
    Calls Try.prog 35 #[v, .int .i64 q] w fun e w' => e = .returned (.int .i64 (q + 2 * (m : Int))) ∧ w = w' := by
  obtain ⟨a, cap, rfl, hc, hm, -⟩ := id hr
  have hcell := hr.tok
  clear hr
  have hlen := length_upTok q m
  have HU : ∀ j (h : j < (upTok q m).length), (upTok q m)[j] = (q + 2 * j, q + 2 * j + 1) := by
    clear hcell hc hl hlen h1 h2
    induction m generalizing q with
    | zero => intro j h; simp [upTok] at h
    | succ m ih =>
      intro j h
      cases j with
      | zero => simp [upTok]
      | succ j =>
        have := ih (q + 2) j (by simpa [upTok] using h)
        simp only [upTok, List.getElem_cons_succ]
        rw [this]
        simp; omega
  generalize upTok q m = us at *
  obtain rfl := hlen
  have HUH := Lib.hid HU
  clear HU
  go_enter Try.func35, Try.ntmps35
  go_wp2
  go_loop [1, 5] (fun k i => ∃ j : Nat, j ≤ us.length ∧ i = .int .i64 j ∧ k = .int .i64 (q + 2 * j)) (fun _ i => us.length - (intOf i).toNat)
  case atStart => exact ⟨0, Nat.zero_le _, rfl, by simp⟩
  case round =>
    obtain ⟨j, hj, rfl, rfl⟩ := hrel
    by_cases hlt : j < us.length
    · obtain ⟨b, off, rfl, hb, c0, c1⟩ := hcell j hlt
      rw [HUH.out j hlt] at c0 c1
      clear hcell
      go_wp2
      go_round
      case rel => exact ⟨j + 1, by omega, by go_num, by go_num⟩
      case measure => simp [intOf]; omega
    · obtain rfl : j = us.length := by omega
      go_wp2
      go_ret
      exact ⟨rfl, rfl⟩
end Go.Proofs.Ytfklkkelgpeccaa
