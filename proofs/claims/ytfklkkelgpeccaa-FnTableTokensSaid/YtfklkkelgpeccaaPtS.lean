/- PlaceTable of the reference. -/
import Derived.Test.YtfklkkelgpeccaaPtL
import Derived.Test.YtfklkkelgpeccaaTk
namespace Go.Proofs.Ytfklkkelgpeccaa
open Go.RowKit
set_option linter.unusedVariables false
set_option linter.unusedSimpArgs false

theorem cells_tok (w : World) (x y : Int) {g : Nat} (hg : g = w.heap.size) (t : TypeId) : ∀ j u, [Value.int .i64 x, .int .i64 y][j]? = some u → (w.alloc (.cells #[.int .i64 x, .int .i64 y] t)).cell? ((⟨g, 0, none⟩ : Addr).add j) = some u := by
  subst hg
  intro j u hj
  rw [Addr.add_mid, Nat.zero_add, cell_of_row _ _ j _ _ (0, 0) (heap_alloc_new _ _)]
  simpa using hj
theorem oneCell_tok (x y : Int) : ∀ u ∈ [Value.int .i64 x, .int .i64 y], u.oneCell' = true := by
  intro u hu; simp at hu; rcases hu with rfl | rfl <;> rfl
theorem app_tok {w1 : World} {B n : Nat} {v' : Value} {xs : List Tok} {x y : Int} (h : w1.ownsRow B tokT 2 v' n (flat TL xs ++ [.int .i64 x, .int .i64 y])) (hn : n = xs.length + 1) : OwnRow TL tokT w1 B v' (xs ++ [(x, y)]) :=
  OwnRow.snoc (L := TL) h rfl hn
theorem last_snoc {α : Type} (xs : List α) (y : α) {m : Nat} (h : (xs ++ [y]).length = m + 1) : (xs ++ [y])[m]'(by omega) = y := by
  have : m = xs.length := by simp at h; omega
  subst this; simp

theorem own_nn {α : Type} {L : Lay α} {e : TypeId} {w : World} {B : Nat} {v : Value} {xs : List α} {y : α} (h : OwnRow L e w B v (xs ++ [y])) : v ≠ .slice none 0 0 := by
  rcases h.shape with ⟨_, h⟩ | ⟨g, cap, rfl, _⟩
  · simp at h
  · simp

set_option maxRecDepth 1000000 in
set_option maxHeartbeats 8000000 in
theorem specPlaceTable_any (v u : Value) (ns ws : List Int) (w : World) (hl : ns.length ≤ 4194304) (hl2 : ws.length ≤ 4194304) (hr : RInts w v ns) (hr2 : RInts w u ws) :
    Calls Try.prog 32 #[v, u] w fun e w' => ∃ x, e = .returned x ∧ OwnRow TL tokT w' w.heap.size x (ptL ns ws) ∧ Below w.heap.size w w' ∧ x ≠ .slice none 0 0 := by
  obtain ⟨i0, hi, hz0, hz1, hz2⟩ := info_parts infoTk4
  obtain ⟨a, cap, rfl, hc, hm, -⟩ := id hr
  obtain ⟨a2, cap2, rfl, hc2, hm2, -⟩ := id hr2
  have HR := Lib.hid hr; have HR2 := Lib.hid hr2; clear hr hr2
  have O0 := Lib.hid (OwnRow.empty TL tokT w)
  have b0 := below_alloc w (.cells #[] tokT)
  cases hv : nodesB ns with
  | false =>
    have hG : ptG ns ws = false := by simp [ptG, hv]
    rw [pt_bad hG]
    have HV := Lib.hid hv; clear hv hG
    go_enter Try.func32, Try.ntmps32
    go_wp2_with fail
    refine (specNodesValid_any _ ns _ hl (HR.out.bl b0)).mono ?_
    rw [HV.out]
    rintro e w1 ⟨rfl, n1, rfl⟩
    go_wp2
    go_ret
    exact ⟨_, rfl, O0.out.dr n1, bDr b0 _, by simp⟩
  | true =>
    by_cases hlen : ws.length = ns.length
    · have q1 : ((ws.length : Int) != (ns.length : Int)) = false := by simp [hlen]
      have HV := Lib.hid hv
      cases hall : ws.all (fun w => inB w 1 5) with
      | false =>
        have hG : ptG ns ws = false := by simp [ptG, hall]
        rw [pt_bad hG]
        have HA := Lib.hid hall; clear hv hG hall hlen
        go_enter Try.func32, Try.ntmps32
        go_wp2_with fail
        refine (specNodesValid_any _ ns _ hl (HR.out.bl b0)).mono ?_
        rw [HV.out]
        rintro e w1 ⟨rfl, n1, hw1⟩
        have O1 : Hid (OwnRow TL tokT w1 w.heap.size (.slice (some ⟨w.heap.size, 0, none⟩) 0 0) []) := Lib.hid (by rw [hw1]; exact O0.out.dr n1)
        have b1 : Below w.heap.size w w1 := by rw [hw1]; exact bDr b0 _
        clear hw1
        obtain ⟨_, _, he, -, -, hcell⟩ := HR2.out.bl b1
        simp only [Value.slice.injEq, true_and] at he
        obtain ⟨rfl, rfl⟩ := he
        go_wp2
        go_loop [6] (fun i => ∃ j : Nat, j ≤ ws.length ∧ i = .int .i64 j ∧ Hid (∀ k (h : k < ws.length), k < j → inB ws[k] 1 5 = true)) (fun i => ws.length - (intOf i).toNat)
        case atStart => exact ⟨0, Nat.zero_le _, rfl, Lib.hid (fun k h hk => by omega)⟩
        case round =>
          obtain ⟨j, hj, rfl, HJ⟩ := hrel
          by_cases hlt : j < ws.length
          · obtain ⟨b, off, rfl, hbl, h0⟩ := hcell j hlt
            cases hb : inB ws[j] 1 5 with
            | false =>
              have HB := Lib.hid hb; clear hb
              go_wp2_with fail
              refine (l6In_any _ _ _ _).mono ?_
              rintro e w' ⟨rfl, rfl⟩
              rw [HB.out]
              go_wp2
              go_ret
              exact ⟨_, rfl, O1.out, b1, by simp⟩
            | true =>
              have HB := Lib.hid hb
              have HJ1 : Hid (∀ k (h : k < ws.length), k < j + 1 → inB ws[k] 1 5 = true) := Lib.hid (fun k h hk => by
                by_cases hkj : k = j
                · subst hkj; exact HB.out
                · exact HJ.out k h (by omega))
              clear hb
              go_wp2_with fail
              refine (l6In_any _ _ _ _).mono ?_
              rintro e w' ⟨rfl, rfl⟩
              rw [HB.out]
              go_wp2
              go_round
              case rel => exact ⟨j + 1, by omega, by go_num, HJ1⟩
              case measure => simp [intOf]; omega
          · exfalso
            have := HA.out
            rw [List.all_eq_false] at this
            obtain ⟨x, hx, hx2⟩ := this
            obtain ⟨k, hk, rfl⟩ := List.getElem_of_mem hx
            exact hx2 (HJ.out k hk (by omega))
      | true =>
        have hG : ptG ns ws = true := by simp [ptG, hv, hlen, hall]
        rw [pt_good hG]
        obtain ⟨-, -, hW⟩ := ptG_parts hG
        obtain ⟨⟨hn1, hn10⟩, hasc⟩ := nodesB_parts hv
        have HN : Hid (∀ i (h : i < ns.length), 0 ≤ ns[i] ∧ ns[i] ≤ 63) := Lib.hid (fun i h => asc_pt hasc _ (List.getElem_mem h))
        have HWB : Hid (∀ i (h : i < ws.length), ∃ k : Nat, ws[i] = k ∧ k ≤ 5) := Lib.hid (fun i h => by have := hW _ (List.getElem_mem h); exact ⟨ws[i].toNat, by omega, by omega⟩)
        have HWA : Hid (∀ i (h : i < ws.length), inB ws[i] 1 5 = true) := Lib.hid (fun i h => by have := hW _ (List.getElem_mem h); exact inB_of this)
        have HLen := Lib.hid hlen
        obtain ⟨P, hP⟩ : ∃ P, P = pairsL ns ws := ⟨_, rfl⟩
        have HPl : Hid (P.length = ns.length) := Lib.hid (by rw [hP]; exact pairs_len hlen)
        have HPg : Hid (∀ i (h : i < ns.length) (h' : i < P.length) (h2 : i < ws.length), P[i] = (ns[i], ws[i].toNat)) := Lib.hid (fun i h h' h2 => by subst hP; exact pairs_get hlen i h)
        rw [← hP]
        have hwl : ws.length ≤ 10 := by omega
        clear hv hG hall hlen hW hasc hP
        go_enter Try.func32, Try.ntmps32
        go_wp2_with fail
        refine (specNodesValid_any _ ns _ hl (HR.out.bl b0)).mono ?_
        rw [HV.out]
        rintro e w1 ⟨rfl, n1, hw1⟩
        have O1 : Hid (OwnRow TL tokT w1 w.heap.size (.slice (some ⟨w.heap.size, 0, none⟩) 0 0) []) := Lib.hid (by rw [hw1]; exact O0.out.dr n1)
        have b1 : Below w.heap.size w w1 := by rw [hw1]; exact bDr b0 _
        clear hw1
        have RN := HR.out.bl b1
        have RW := HR2.out.bl b1
        obtain ⟨_, _, he, -, -, hcell⟩ := id RW
        simp only [Value.slice.injEq, true_and] at he
        obtain ⟨rfl, rfl⟩ := he
        have RN := Lib.hid RN; have RW := Lib.hid RW
        go_wp2
        go_loop [6] (fun i => ∃ j : Nat, j ≤ ws.length ∧ i = .int .i64 j) (fun i => ws.length - (intOf i).toNat)
        case atStart => exact ⟨0, Nat.zero_le _, rfl⟩
        case round =>
          obtain ⟨j, hj, rfl⟩ := hrel
          by_cases hlt : j < ws.length
          · obtain ⟨b, off, rfl, hbl, h0⟩ := hcell j hlt
            have HB := Lib.hid (HWA.out j hlt)
            clear hcell
            go_wp2_with fail
            refine (l6In_any _ _ _ _).mono ?_
            rintro e w' ⟨rfl, rfl⟩
            rw [HB.out]
            go_wp2
            go_round
            case rel => exact ⟨j + 1, by omega, by go_num⟩
            case measure => simp [intOf]; omega
          · obtain rfl : j = ws.length := by omega
            clear hcell
            go_wp2
            go_loopw [5, 7, 8, 9] (fun o p s8 s9 wr => ∃ q : Nat, q ≤ 64 ∧ p = .int .i64 q ∧ Hid (OwnRow TL tokT wr w.heap.size o (tabTo P q)) ∧ Hid (o ≠ .slice none 0 0) ∧ Hid (Below w.heap.size w wr)) (fun _ p _ _ _ => 64 - (intOf p).toNat)
            case atStart => exact ⟨0, Nat.zero_le _, rfl, O1, Lib.hid (by simp), Lib.hid b1⟩
            case round =>
              obtain ⟨q, hq, rfl, OW, NN, BB⟩ := hrel
              obtain ⟨wo, rfl⟩ : ∃ wo : World, wo = wr := ⟨_, rfl⟩
              by_cases hq64 : q < 64
              · have d64 : decide ((q : Int) < 64) = true := decide_eq_true (by omega)
                have d64' : decide (q < 64) = true := decide_eq_true hq64
                have e1 : IntKind.i64.wrap ((ns.length : Int) - 1) = (ns.length : Int) - 1 := IntWalk.i64_in _ (by omega)
                have HT := Lib.hid (tabTo_lt P q)
                have HTl := tabTo_len P q
                have HTS : Hid (tabTo P (q + 1) = tabTo P q ++ lastL q P) := Lib.hid rfl
                obtain ⟨base, hbase⟩ : ∃ base, base = tabTo P q := ⟨_, rfl⟩
                rw [← hbase] at OW HT HTl HTS
                clear hbase
                go_wp2
                go_loopw [5, 8, 9] (fun o i s9 wr => ∃ m : Nat, m ≤ ns.length ∧ i = .int .i64 ((m : Int) - 1) ∧ Hid (OwnRow TL tokT wr w.heap.size o (base ++ lastL q (P.drop m))) ∧ Hid (o ≠ .slice none 0 0) ∧ Hid (Below w.heap.size w wr)) (fun _ i _ _ => (intOf i + 1).toNat)
                case atStart => exact ⟨ns.length, Nat.le_refl _, rfl, Lib.hid (by rw [List.drop_of_length_le (by rw [HPl.out]; exact Nat.le_refl _)]; simpa [lastL, ownFrom] using OW.out), NN, BB⟩
                case round =>
                  obtain ⟨m, hm', rfl, OW2, NN2, BB2⟩ := hrel
                  obtain ⟨wi, rfl⟩ : ∃ wi : World, wi = wr := ⟨_, rfl⟩
                  clear OW NN BB
                  by_cases hm0 : m = 0
                  · have hmz := hm0
                    subst hm0
                    have HF := Lib.hid OW2.out
                    rw [List.drop_zero, ← HTS.out] at HF
                    clear OW2 hmz
                    go_wp2
                    go_roundw
                    case rel => exact ⟨q + 1, by omega, by go_num, HF, NN2, BB2⟩
                    case measure => simp [intOf]; omega
                  · obtain ⟨i, hi1⟩ : ∃ i, m = i + 1 := ⟨m - 1, by omega⟩
                    have e2 : (m : Int) - 1 = (i : Int) := by omega
                    rw [e2]
                    have hin : i < ns.length := by omega
                    have hiw : i < ws.length := by have := HLen.out; omega
                    have hiP : i < P.length := by have := HPl.out; omega
                    obtain ⟨K, hK, hK5⟩ := HWB.out i hiw
                    have HD : Hid (lastL q (P.drop i) = curK q ns[i] (lastL q (P.drop m)) K) := Lib.hid (by
                      rw [List.drop_eq_getElem_cons hiP, HPg.out i hin hiP hiw, lastL_cons, hi1, curK]
                      have : (ws[i]).toNat = K := by omega
                      rw [this])
                    have HC := Lib.hid (lastL_shape q (P.drop m))
                    obtain ⟨nlo, nhi⟩ := HN.out i hin
                    have HNI := HR.out
                    obtain ⟨_, _, he, -, -, hcn⟩ := HNI
                    simp only [Value.slice.injEq, true_and] at he
                    obtain ⟨rfl, rfl⟩ := he
                    obtain ⟨bn, ofn, rfl, hbn, hn0⟩ := hcn i hin
                    have HWI := HR2.out
                    obtain ⟨_, _, he, -, -, hcw⟩ := HWI
                    simp only [Value.slice.injEq, true_and] at he
                    obtain ⟨rfl, rfl⟩ := he
                    obtain ⟨bw, ofw, rfl, hbw, hw0⟩ := hcw i hiw
                    rw [hK] at hw0
                    obtain ⟨nd, hnd⟩ : ∃ nd, nd = ns[i] := ⟨_, rfl⟩
                    rw [← hnd] at hn0 nlo nhi HD
                    obtain ⟨cc, hcc⟩ : ∃ cc, cc = lastL q (P.drop m) := ⟨_, rfl⟩
                    rw [← hcc] at HC HD OW2
                    have HI1 := Lib.hid hi1
                    clear hcn hcw hcc hnd e2 hi1 hm0
                    go_wp2
                    go_loopw [5, 9] (fun o k wr => ∃ t : Nat, t ≤ K ∧ k = .int .i64 t ∧ Hid (OwnRow TL tokT wr w.heap.size o (base ++ curK q nd cc t)) ∧ Hid (o ≠ .slice none 0 0) ∧ Hid (Below w.heap.size w wr)) (fun _ k _ => K - (intOf k).toNat)
                    case atStart => exact ⟨0, Nat.zero_le _, rfl, Lib.hid (by rw [curK_zero]; exact OW2.out), NN2, BB2⟩
                    case round =>
                      obtain ⟨t, ht, rfl, OW3, NN3, BB3⟩ := hrel
                      have c0 : wr.cell? ⟨bn, ofn + i, none⟩ = some (.int .i64 nd) := (BB3.out.cell (p := ⟨bn, ofn + i, none⟩) hbn).trans hn0
                      have c1 : wr.cell? ⟨bw, ofw + i, none⟩ = some (.int .i64 K) := (BB3.out.cell (p := ⟨bw, ofw + i, none⟩) hbw).trans hw0
                      clear OW2 NN2 BB2
                      by_cases htK : t < K
                      · by_cases hit : tok nd t = q
                        · have HH : Hid (curK q nd cc (t + 1) = [((q : Int), nd)]) := Lib.hid (curK_hit cc hit)
                          have q5 : (tok nd t != (q : Int)) = false := by simp [hit]
                          have HIT := Lib.hid hit
                          clear hit
                          have HCS := Lib.hid (curK_shape HC.out t (n := nd))
                          obtain ⟨cur, hcur⟩ : ∃ cur, cur = curK q nd cc t := ⟨_, rfl⟩
                          rw [← hcur] at OW3 HCS
                          clear hcur
                          rcases HCS.out with hce | ⟨n', hce⟩
                          · rw [hce, List.append_nil] at OW3
                            clear hce HCS
                            rcases OW3.out.shape with ⟨rfl, _⟩ | ⟨g, cp, rfl, hBg, hgl, hncap, hcm⟩
                            · exact absurd rfl NN3.out
                            have OB := OW3
                            by_cases hbz : base.length = 0
                            · have d0 : decide ((0 : Int) < (base.length : Int)) = false := decide_eq_false (by omega)
                              have d0' : decide (0 < base.length) = false := decide_eq_false (by omega)
                              clear hbz
                              go_wp2_with fail
                              refine (l31Token_any nd t _ nlo nhi (by omega) (by omega)).mono ?_
                              rintro e w' ⟨rfl, rfl⟩
                              rw [HIT.out]
                              go_wp2_with (at_builtin; refine wpList_append_own _ rfl _ _ 25 rfl w.heap.size 38 i0 (.agg #[.int .i64 0, .int .i64 0]) 2 16 Try.underlying25 hi hz0 hz1 hz2 rfl (by decide) _ _ _ rfl (OB.out.al _) ⟨wr.heap.size, 0, none⟩ 1 1 [.int .i64 q, .int .i64 nd] rfl rfl (cells_tok _ _ _ rfl _) (oneCell_tok _ _) ?c3 ?c4 ?c5 ?_)
                              case c3 => unfold maxLen; omega
                              case c4 => omega
                              case c5 => have := BB3.out.size; simp; omega
                              intro v' w4 hown4 hg4 _
                              have o4 := Lib.hid (app_tok hown4 rfl)
                              have nn4 := Lib.hid (own_nn o4.out)
                              have b4 := Lib.hid (bGr (bAl BB3.out (.cells #[.int .i64 q, .int .i64 nd] tokT)) hg4 (fun x hx => ((OB.out.al (.cells #[.int .i64 q, .int .i64 nd] tokT)).lts x hx).1))
                              clear hown4 hg4
                              go_wp2
                              go_roundw
                              case rel => exact ⟨t + 1, by omega, by go_num, by rw [HH.out]; exact o4, nn4, b4⟩
                              case measure => simp [intOf]; omega
                            · obtain ⟨z, hz⟩ : ∃ z, base.length = z + 1 := ⟨base.length - 1, by omega⟩
                              have hzl : z < base.length := by omega
                              have d0 : decide ((0 : Int) < (base.length : Int)) = true := decide_eq_true (by omega)
                              have d0' : decide (0 < base.length) = true := decide_eq_true (by omega)
                              have e4 : IntKind.i64.wrap ((base.length : Int) - 1) = (z : Int) := by rw [IntWalk.i64_in _ (by omega)]; omega
                              obtain ⟨x0, -⟩ := OB.out.tok z hzl
                              have hxq := (HT.out _ (List.getElem_mem hzl)).2
                              generalize base[z].1 = xq at *
                              have q6 : (xq == (q : Int)) = false := by rw [beq_eq_false_iff_ne]; omega
                              have z1 : (z : Int) < (base.length : Int) := by omega
                              have HZ := Lib.hid hz
                              clear hxq hz
                              go_wp2_with fail
                              refine (l31Token_any nd t _ nlo nhi (by omega) (by omega)).mono ?_
                              rintro e w' ⟨rfl, rfl⟩
                              rw [HIT.out]
                              go_wp2_with (at_builtin; refine wpList_append_own _ rfl _ _ 25 rfl w.heap.size 38 i0 (.agg #[.int .i64 0, .int .i64 0]) 2 16 Try.underlying25 hi hz0 hz1 hz2 rfl (by decide) _ _ _ rfl (OB.out.al _) ⟨wr.heap.size, 0, none⟩ 1 1 [.int .i64 q, .int .i64 nd] rfl rfl (cells_tok _ _ _ rfl _) (oneCell_tok _ _) ?c3 ?c4 ?c5 ?_)
                              case c3 => unfold maxLen; omega
                              case c4 => omega
                              case c5 => have := BB3.out.size; simp; omega
                              intro v' w4 hown4 hg4 _
                              have o4 := Lib.hid (app_tok hown4 rfl)
                              have nn4 := Lib.hid (own_nn o4.out)
                              have b4 := Lib.hid (bGr (bAl BB3.out (.cells #[.int .i64 q, .int .i64 nd] tokT)) hg4 (fun x hx => ((OB.out.al (.cells #[.int .i64 q, .int .i64 nd] tokT)).lts x hx).1))
                              clear hown4 hg4
                              go_wp2
                              go_roundw
                              case rel => exact ⟨t + 1, by omega, by go_num, by rw [HH.out]; exact o4, nn4, b4⟩
                              case measure => simp [intOf]; omega
                          · rw [hce] at OW3
                            clear hce HCS
                            have hbl1 : (base ++ [((q : Int), n')]).length = base.length + 1 := by simp
                            rcases OW3.out.shape with ⟨rfl, _⟩ | ⟨g, cp, rfl, hBg, hgl, hncap, hcm⟩
                            · exact absurd rfl NN3.out
                            have OB : Hid (OwnRow TL tokT wr w.heap.size (.slice (some ⟨g, 0, none⟩) base.length cp) base) := Lib.hid (by
                              have := OW3.out.take (k := base.length) (by rw [hbl1]; omega)
                              rwa [List.take_left] at this)
                            obtain ⟨x0, -⟩ := OW3.out.tok base.length (by rw [hbl1]; omega)
                            have e9 : (base ++ [((q : Int), n')])[base.length]'(by rw [hbl1]; omega) = ((q : Int), n') := last_snoc base _ hbl1
                            rw [e9] at x0
                            rw [hbl1] at hncap
                            rw [hbl1]
                            have d0 : decide ((0 : Int) < ((base.length + 1 : Nat) : Int)) = true := decide_eq_true (by omega)
                            have d0' : decide ((0 : Int) < (base.length : Int) + 1) = true := decide_eq_true (by omega)
                            have e4 : IntKind.i64.wrap (((base.length + 1 : Nat) : Int) - 1) = (base.length : Int) := by rw [IntWalk.i64_in _ (by omega)]; omega
                            have e5 : IntKind.i64.wrap ((base.length : Int) + 1 - 1) = (base.length : Int) := by rw [IntWalk.i64_in _ (by omega)]; omega
                            have q6 : ((q : Int) == (q : Int)) = true := by simp
                            have z1 : (base.length : Int) < ((base.length + 1 : Nat) : Int) := by omega
                            have z2 : (base.length : Int) ≤ (cp : Int) := by omega
                            clear e9 hbl1 OW3
                            go_wp2_with fail
                            refine (l31Token_any nd t _ nlo nhi (by omega) (by omega)).mono ?_
                            rintro e w' ⟨rfl, rfl⟩
                            rw [HIT.out]
                            go_wp2_with (at_builtin; refine wpList_append_own _ rfl _ _ 25 rfl w.heap.size 38 i0 (.agg #[.int .i64 0, .int .i64 0]) 2 16 Try.underlying25 hi hz0 hz1 hz2 rfl (by decide) _ _ _ rfl (OB.out.al _) ⟨wr.heap.size, 0, none⟩ 1 1 [.int .i64 q, .int .i64 nd] rfl rfl (cells_tok _ _ _ rfl _) (oneCell_tok _ _) ?c3 ?c4 ?c5 ?_)
                            case c3 => unfold maxLen; omega
                            case c4 => omega
                            case c5 => have := BB3.out.size; simp; omega
                            intro v' w4 hown4 hg4 _
                            have o4 := Lib.hid (app_tok hown4 rfl)
                            have nn4 := Lib.hid (own_nn o4.out)
                            have b4 := Lib.hid (bGr (bAl BB3.out (.cells #[.int .i64 q, .int .i64 nd] tokT)) hg4 (fun x hx => ((OB.out.al (.cells #[.int .i64 q, .int .i64 nd] tokT)).lts x hx).1))
                            clear hown4 hg4
                            go_wp2
                            go_roundw
                            case rel => exact ⟨t + 1, by omega, by go_num, by rw [HH.out]; exact o4, nn4, b4⟩
                            case measure => simp [intOf]; omega
                        · have HH : Hid (curK q nd cc (t + 1) = curK q nd cc t) := Lib.hid (curK_miss cc hit)
                          have q5 : (tok nd t != (q : Int)) = true := by simp [hit]
                          clear hit
                          go_wp2_with fail
                          refine (l31Token_any nd t _ nlo nhi (by omega) (by omega)).mono ?_
                          rintro e w' ⟨rfl, rfl⟩
                          go_wp2
                          go_roundw
                          case rel => exact ⟨t + 1, by omega, by go_num, by rw [HH.out]; exact OW3, NN3, BB3⟩
                          case measure => simp [intOf]; omega
                      · obtain rfl : t = K := by omega
                        have HF : Hid (OwnRow TL tokT wr w.heap.size _ (base ++ lastL q (P.drop i))) := Lib.hid (by rw [HD.out]; exact OW3.out)
                        have e3 : IntKind.i64.wrap ((i : Int) - 1) = (i : Int) - 1 := IntWalk.i64_in _ (by omega)
                        clear OW3
                        go_wp2
                        go_roundw
                        case rel => exact ⟨i, by omega, rfl, HF, NN3, BB3⟩
                        case measure => have := HI1.out; simp [intOf] <;> omega
              · obtain rfl : q = 64 := by omega
                go_wp2
                go_ret
                exact ⟨_, rfl, OW.out, BB.out, NN.out⟩
    · have q1 : ((ws.length : Int) != (ns.length : Int)) = true := by rw [bne_iff_ne]; omega
      have hG : ptG ns ws = false := by simp [ptG, hlen]
      rw [pt_bad hG]
      have HV := Lib.hid hv; clear hv hG hlen
      go_enter Try.func32, Try.ntmps32
      go_wp2_with fail
      refine (specNodesValid_any _ ns _ hl (HR.out.bl b0)).mono ?_
      rw [HV.out]
      rintro e w1 ⟨rfl, n1, rfl⟩
      go_wp2
      go_ret
      exact ⟨_, rfl, O0.out.dr n1, bDr b0 _, by simp⟩
end Go.Proofs.Ytfklkkelgpeccaa
