/- impl.RingNew, RingIdeal. -/
import Derived.Test.YthgekfiodedelaaImK
import Derived.Test.YthgekfiodedelaaNdX
import Derived.Test.YthgekfiodedelaaApp
namespace Go.Proofs.Ythgekfiodedelaa
open Go.RowKit
set_option linter.unusedVariables false
set_option linter.unusedSimpArgs false

/-- An append whose run is known. -/
theorem step_append_run {P : Program} {ops : Array Oper} {o : Oper} {a : Act} {w : World} {K : Act → World → Prop} {Q : Exit → Act → World → Prop} {E : Prop} (hgd : o.guard = none) (s x : Operand) (t : TypeId)
    (ho : o.op = .call { callee := .builtin .append, args := #[s, x], argTypes := #[t, t] }) (v u : Value) (hs : a.eval s = v) (hx : a.eval x = u) (v' : Value) (w' : World) (hrun : (Builtin.append_ #[t, t] o.type #[v, u]).run P w = .ok v' w')
    (h : K (a.put o.dst v') w') : if Region.wanted o (yielded ops a.tmps) = true then Oper.wp P o a w K Q else E := by
  have hw : Region.wanted o (yielded ops a.tmps) = true := by simp [Region.wanted, hgd]
  rw [if_pos hw]
  unfold Oper.wp execOp
  simp only [ho, resolve, invoke, builtin, Sem.run_bind, Sem.run_pure, Result.andThen_ok, List.map_toArray, List.map_cons, List.map_nil, hs, hx, hrun]
  exact h
/-- The run of an append of one number. -/
theorem run_app1 (w : World) (B : Nat) (v : Value) (xs : List Int) (hown : OwnInts w B v xs) (g : Nat) (y : Int) (hu : w.cell? ⟨g, 0, none⟩ = some (.int .i64 y)) (h63 : xs.length ≤ 4096) (hB : B ≤ w.heap.size) :
    ∃ v' w', (Builtin.append_ #[30, 30] 30 #[v, .slice (some ⟨g, 0, none⟩) 1 1]).run Try.prog w = .ok v' w' ∧ OwnInts w' B v' (xs ++ [y]) ∧ w.grownBy w' v.ownBlock := by
  obtain ⟨i0, hi, hz0, hz1, hz2⟩ := info_parts infoInt
  obtain ⟨v', w', h0, h1, h2, h3⟩ := run_append_own (P := Try.prog) w B 30 30 3 i0 (.int .i64 0) 1 8 Try.underlying30 hi hz0 hz1 hz2 rfl (by decide) v xs.length (ints xs) hown ⟨g, 0, none⟩ 1 1 [.int .i64 y] rfl (fun j u hj => by
    rw [Addr.add_mid, Nat.zero_add]
    match j, hj with
    | 0, hj => simp at hj; rw [hu, ← hj]) (oneCell_int _) (by unfold maxLen; omega) (by omega) hB
  exact ⟨v', w', h0, own_snoc h1 (by simp), h2⟩

/-- Before, between and behind two of a region's operations that make memory, and behind a third that stores. -/
structure PW (i1 i2 i3 : Nat) (A B C E : World → Prop) (L : Nat → Bool) (w : World) : Prop where
  a : L i1 = false → A w
  b : L i1 = true → L i2 = false → B w
  c : L i2 = true → L i3 = false → C w
  e : L i3 = true → E w
theorem PW.start {i1 i2 i3 : Nat} {A B C E : World → Prop} {w : World} (h : A w) : PW i1 i2 i3 A B C E (fun _ => false) w := ⟨fun _ => h, fun e => (by cases e), fun e => (by cases e), fun e => (by cases e)⟩
theorem PW.skip {i1 i2 i3 i : Nat} {A B C E : World → Prop} {L : Nat → Bool} {w : World} (h : PW i1 i2 i3 A B C E L w) (h1 : ¬ i1 = i) (h2 : ¬ i2 = i) (h3 : ¬ i3 = i) : PW i1 i2 i3 A B C E (regL L i) w := by
  refine ⟨fun e => h.a ?_, fun e f => h.b ?_ ?_, fun e f => h.c ?_ ?_, fun e => h.e ?_⟩ <;> simp_all [regL]
theorem PW.to2 {i1 i2 i3 : Nat} {A B C E : World → Prop} {L : Nat → Bool} {w : World} (h2 : L i2 = false) (h3 : L i3 = false) (n2 : ¬ i2 = i1) (n3 : ¬ i3 = i1) (h : B w) : PW i1 i2 i3 A B C E (regL L i1) w := by
  refine ⟨fun e => ?_, fun e f => h, fun e f => ?_, fun e => ?_⟩ <;> simp_all [regL]
theorem PW.to3 {i1 i2 i3 : Nat} {A B C E : World → Prop} {L : Nat → Bool} {w : World} (h1 : L i1 = true) (h3 : L i3 = false) (n1 : ¬ i1 = i2) (n3 : ¬ i3 = i2) (h : C w) : PW i1 i2 i3 A B C E (regL L i2) w := by
  refine ⟨fun e => ?_, fun e f => ?_, fun e f => h, fun e => ?_⟩ <;> simp_all [regL]
theorem PW.to4 {i1 i2 i3 : Nat} {A B C E : World → Prop} {L : Nat → Bool} {w : World} (h1 : L i1 = true) (h2 : L i2 = true) (n1 : ¬ i1 = i3) (n2 : ¬ i2 = i3) (h : E w) : PW i1 i2 i3 A B C E (regL L i3) w := by
  refine ⟨fun e => ?_, fun e f => ?_, fun e f => ?_, fun e => h⟩ <;> simp_all [regL]

/-- A node under way: its block, and its list so far. -/
structure NW (W0 : World) (G : Nat) (x y : Int) (s : Sl) (zs : List Int) (w : World) : Prop where
  bl : Below W0.heap.size W0 w
  bk : Blk w G #[.int .i64 x, .int .i64 y, slV s] 37
  ow : OwnInts w (G + 1) (slV s) zs
theorem NW.nx {W0 w w' : World} {G : Nat} {x y : Int} {s : Sl} {zs : List Int} (h : NW W0 G x y s zs w) (hb : Below w.heap.size w w') : NW W0 G x y s zs w' := ⟨bNext h.bl hb, h.bk.bl hb, h.ow.bl hb⟩

set_option maxRecDepth 100000 in
set_option maxHeartbeats 8000000 in
theorem implRingNew_ok (v : Value) (I : List Int) (w : World) (hn : nodesB I = true) (h3 : 3 ≤ I.length) (hr : RInts w v I) :
    Calls Try.prog 35 #[v] w fun e w' => ∃ x, e = .returned (.tuple #[x, .bool true]) ∧ OwnRingS w' w.heap.size x (dats (idealS I)) ∧ Below w.heap.size w w' := by
  have hl : I.length ≤ 10 := by
    rw [nodesB, Bool.and_eq_true] at hn
    have := inB_true hn.1; omega
  have h0 : 0 < I.length := by omega
  obtain ⟨i0, hi, hz0, hz1, hz2⟩ := info_parts infoNd4
  obtain ⟨b, off, cap, rfl, hc, hm, hr2, hcell⟩ := hr.shape rfl h0
  have hbw := (hcell 0 h0).1
  have HR := Lib.hid hr2
  have HNB := Lib.hid hn
  clear hr hr2 hcell hn
  go_enter Try.func35, Try.ntmps35
  go_wp2_with fail
  refine (implNodesValid_any _ I _ (by omega) HR.out).mono ?_
  rw [HNB.out]
  rintro e w1 ⟨rfl, n1, rfl⟩
  have B1 : Hid (Below w.heap.size w (w.drewN n1)) := Lib.hid (bDr (Below.refl _ _) _)
  have d3 : decide ((I.length : Int) < 3) = false := decide_eq_false (by omega)
  have d3' : decide (I.length < 3) = false := decide_eq_false (by omega)
  go_wp2
  clear d3 d3'
  go_loopw [4, 6, 7, 8, 9, 22] (fun o _ _ _ _ i wr => ∃ j : Nat, j ≤ I.length ∧ i = .int .i64 j ∧ Hid (OwnRingS wr w.heap.size o (dats (idTo I j))) ∧ Hid (Below w.heap.size w wr)) (fun _ _ _ _ _ i _ => I.length - (intOf i).toNat)
  case atStart => exact ⟨0, Nat.zero_le _, rfl, Lib.hid (OwnRingS.nil _ _), B1⟩
  case round =>
    obtain ⟨j, hj, rfl, HOW, BJ⟩ := hrel
    obtain ⟨vo, rfl⟩ : ∃ z, z = u4 := ⟨_, rfl⟩
    obtain ⟨wo, rfl⟩ : ∃ z, z = wr := ⟨_, rfl⟩
    clear B1
    by_cases hlt : j < I.length
    · obtain ⟨P0, hP0⟩ : ∃ P, P = (j + I.length - 1) % I.length := ⟨_, rfl⟩
      obtain ⟨PF, hPF⟩ : ∃ PF : Nat → Nat, PF = fun m => (j + (m + 1)) % I.length := ⟨_, rfl⟩
      have p0 : P0 < I.length := by rw [hP0]; exact Nat.mod_lt _ h0
      have hpf : ∀ m, PF m < I.length := fun m => by rw [hPF]; exact Nat.mod_lt _ h0
      have HD : Hid (dats (idTo I (j + 1)) = dats (idTo I j) ++ [(I.getD j 0, I.getD P0 0, [I.getD (PF 0) 0, I.getD (PF 1) 0])]) := Lib.hid (by
        rw [idTo_succ, hP0, hPF]; simp [dats, dat, idN])
      have t0 : Int.tmod ((j : Int) + (I.length : Int) - 1) (I.length : Int) = (P0 : Int) := by
        rw [Int.tmod_eq_emod_of_nonneg (by omega), hP0, Int.natCast_emod]; congr 1; omega
      have HTF : Hid (∀ m : Nat, Int.tmod ((j : Int) + ((m : Int) + 1)) (I.length : Int) = (PF m : Int)) := Lib.hid (fun m => by
        rw [Int.tmod_eq_emod_of_nonneg (by omega), hPF, Int.natCast_emod]; congr 1)
      have r0 : ((j : Int) + (I.length : Int) - 1) % (I.length : Int) = (P0 : Int) := by rw [← Int.tmod_eq_emod_of_nonneg (by omega), t0]
      have e1 : IntKind.i64.wrap ((j : Int) + (I.length : Int)) = (j : Int) + (I.length : Int) := IntWalk.i64_in _ (by omega)
      have e2 : IntKind.i64.wrap ((j : Int) + (I.length : Int) - 1) = (j : Int) + (I.length : Int) - 1 := IntWalk.i64_in _ (by omega)
      have ez : ((I.length : Int) == 0) = false := by simpa using (show I.length ≠ 0 by omega)
      have ez2 : I ≠ [] := by intro e; rw [e] at h0; exact absurd h0 (by simp)
      have ez3 : ¬ ((I.length : Int) = 0) := by omega
      have ez1 : (j : Int) + (I.length : Int) - 1 ≥ 0 := by omega
      have RJ := HR.out.bl BJ.out
      have c0 := RJ.at hlt
      have c1 := RJ.at p0
      have HCF : Hid (∀ m, wo.cell? ⟨b, off + PF m, none⟩ = some (.int .i64 (I.getD (PF m) 0))) := Lib.hid (fun m => RJ.at (hpf m))
      have HPF := Lib.hid hpf
      obtain ⟨hs, hRS⟩ := HOW.out
      have HRS := Lib.hid hRS
      have hhl : hs.length = j := by have := hRS.len; rw [dats_len, idTo_len] at this; exact this
      have hbr : b < wo.heap.size := Nat.lt_of_lt_of_le hbw BJ.out.size
      clear hP0 hPF RJ hRS HOW hpf
      obtain ⟨ZF, hZF⟩ : ∃ ZF : Nat → Int, ZF = fun m => I.getD (PF m) 0 := ⟨_, rfl⟩
      have HCZ : Hid (∀ m, wo.cell? ⟨b, off + PF m, none⟩ = some (.int .i64 (ZF m))) := Lib.hid (fun m => by rw [hZF]; exact HCF.out m)
      have HD2 : Hid (dats (idTo I (j + 1)) = dats (idTo I j) ++ [(I.getD j 0, I.getD P0 0, [ZF 0, ZF 1])]) := Lib.hid (by rw [hZF]; exact HD.out)
      clear hZF HCF HD
      generalize I.getD j 0 = x at *
      generalize I.getD P0 0 = y at *
      obtain ⟨W0, hW0⟩ : ∃ W0, W0 = wo.alloc (.cells #[.int .i64 x, .int .i64 y, .slice none 0 0] 37) := ⟨_, rfl⟩
      obtain ⟨G, hG⟩ : ∃ G, G = wo.heap.size := ⟨_, rfl⟩
      have N0 : Hid (NW wo G x y (none, 0, 0) [] W0) := Lib.hid (by
        rw [hW0, hG]
        exact ⟨below_alloc _ _, Blk.new _ _ _, OwnInts.nil _ _⟩)
      have hbG : b < G := by rw [hG]; exact hbr
      go_wp2
      rw [← hW0, ← hG]
      have HGS := Lib.hid hG
      have HW0 := Lib.hid hW0
      clear hW0 hG c0 c1 t0 r0 e1 e2
      go_loopw [9] (fun kk wr => ∃ m : Nat, m ≤ 2 ∧ kk = .int .i64 ((m : Int) + 1) ∧ Hid (∃ s, NW wo G x y s ([ZF 0, ZF 1].take m) wr)) (fun kk _ => 3 - (intOf kk).toNat)
      case atStart => exact ⟨0, by omega, rfl, Lib.hid ⟨_, N0.out⟩⟩
      case round =>
        obtain ⟨m, hm2, rfl, HN⟩ := hrel
        clear N0
        obtain ⟨s, hN⟩ := HN.out
        obtain ⟨y0, y1, y2⟩ := hN.bk.get3
        have HNW := Lib.hid hN
        clear HN
        by_cases hmt : m < 2
        · have dk : decide ((m : Int) + 1 ≤ 2) = true := decide_eq_true (by omega)
          have hZ : Hid ([ZF 0, ZF 1].take (m + 1) = [ZF 0, ZF 1].take m ++ [ZF m]) := Lib.hid (by
            rcases (show m = 0 ∨ m = 1 by omega) with rfl | rfl <;> rfl)
          have hzl : ([ZF 0, ZF 1].take m).length ≤ 4096 := by rw [List.length_take]; omega
          have tm := HTF.out m
          have rm : ((j : Int) + ((m : Int) + 1)) % (I.length : Int) = (PF m : Int) := by rw [← Int.tmod_eq_emod_of_nonneg (by omega), tm]
          have em : IntKind.i64.wrap ((j : Int) + ((m : Int) + 1)) = (j : Int) + ((m : Int) + 1) := IntWalk.i64_in _ (by omega)
          have hpm := HPF.out m
          have hcm := (hN.bl.cell (p := ⟨b, off + PF m, none⟩) hbr).trans (HCZ.out m)
          have hGw : G < wr.heap.size := hN.bk.lt
          clear hN
          generalize ZF m = z at *
          generalize PF m = pm at *
          obtain ⟨A2, hA2⟩ : ∃ A2, A2 = wr.drew.alloc (.cells #[.int .i64 z] 3) := ⟨_, rfl⟩
          have NA : Hid (NW wo G x y s ([ZF 0, ZF 1].take m) A2) := Lib.hid (by rw [hA2]; exact HNW.out.nx (bAl (Below.refl _ _).drew _))
          obtain ⟨v3, A3, hrun, o3, g3⟩ := run_app1 A2 (G + 1) (slV s) ([ZF 0, ZF 1].take m) NA.out.ow wr.heap.size z (by rw [hA2]; exact (Blk.new wr.drew #[.int .i64 z] 3).get1) hzl (by rw [hA2]; have := HGS.out; simp; omega)
          obtain ⟨a3, q3, rfl, -, -, -⟩ := id o3.reads
          have hge : ∀ q, (slV s).ownBlock = some q → G + 1 ≤ q := fun q hq => (NA.out.ow.lts q hq).1
          have bl3 : Below wo.heap.size wo A3 := bGr NA.out.bl g3 (fun q hq => by have := hge q hq; have := HGS.out; omega)
          have bk3 : Blk A3 G #[.int .i64 x, .int .i64 y, slV s] 37 := NA.out.bk.gr g3 (fun q hq e => by have := hge q hq; omega)
          have yc3 := bk3.get3.2.2
          have yf3 := bk3.f 2
          have NF : Hid (NW wo G x y (a3, ([ZF 0, ZF 1].take m ++ [z]).length, q3) ([ZF 0, ZF 1].take m ++ [z]) (A3.setCell ⟨G, 2, none⟩ (.slice a3 ([ZF 0, ZF 1].take m ++ [z]).length q3))) := Lib.hid ⟨bSc bl3 (by have := HGS.out; omega) 2 _, bk3.s32 _, o3.sc (Nat.lt_succ_self _) 2 _⟩
          generalize hL3 : ([ZF 0, ZF 1].take m ++ [z]).length = L3 at *
          have HRUN := Lib.hid hrun
          have HA2 := Lib.hid hA2
          have y2A : A2.cell? ⟨G, 2, none⟩ = some (slV s) := NA.out.bk.get3.2.2
          have Y2 := Lib.hid (And.intro (show wr.drew.cell? ⟨G, 2, none⟩ = some (slV s) from y2) y2A)
          have Y3 := Lib.hid (And.intro yc3 yf3)
          clear hA2 hrun o3 g3 hge bl3 bk3 yc3 yf3 y2A hL3
          go_wp2
          clear y0 y1 y2
          refine wp_region_facts [[], [0], [], [], [], [3, 4], [], [5, 6, 3, 4], [2, 7, 5, 6, 3, 4], [8, 2, 7, 5, 6, 3, 4], [9, 8, 2, 7, 5, 6, 3, 4], [1, 10, 0, 9, 8, 2, 7, 5, 6, 3, 4], [1, 9, 10, 11, 0, 8, 2, 7, 5, 6, 3, 4], [12, 11, 0, 1, 2, 3, 4, 5, 6, 7, 8, 9, 10]] (PW 10 11 13 (fun w' => w' = wr.drew) (fun w' => w' = A2) (fun w' => w' = A3) (fun w' => w' = A3.setCell ⟨G, 2, none⟩ (.slice a3 L3 q3))) (fun q0 v w => match q0 with | 0 => v = .pointer (some ⟨G, 2, none⟩) | 1 => v = slV s | 2 => v = .slice (some ⟨b, off, none⟩) I.length cap | 3 => v = .int .i64 j | 4 => v = .int .i64 ((m : Int) + 1) | 5 => v = .int .i64 ((j : Int) + ((m : Int) + 1)) | 6 => v = .int .i64 I.length | 7 => v = .int .i64 pm | 8 => v = .pointer (some ⟨b, off + pm, none⟩) | 9 => v = .int .i64 z | 10 => v = .slice (some ⟨wr.heap.size, 0, none⟩) 1 1 | 11 => v = .slice a3 L3 q3 | 12 => v = .pointer (some ⟨G, 2, none⟩) | _ => True) (fun _ _ => True) (by kernel_rfl) (by kernel_rfl) (fun _ _ _ _ _ h => h) (PW.start rfl) ?_ ?_
          · refine ⟨?_, ?_, ?_, ?_, ?_, ?_, ?_, ?_, ?_, ?_, ?_, ?_, ?_, ?_, trivial⟩
            · intro a wq vs L hW hL hN hO hk hd K hK
              have p8 := hO 8 (by decide)
              clear hN hO hL hk hd
              go_simp
              exact hK _ _ (hW.skip (by decide) (by decide) (by decide)) trivial rfl
            · intro a wq vs L hW hL hN hO hk hd K hK
              have d0 := hd 0 42 (by decide) rfl
              rw [show vs 0 = .pointer (some ⟨G, 2, none⟩) from (hk 0 (by decide)).2] at d0
              have h11 := hN 11 (by decide)
              have hc : wq.cell? ⟨G, 2, none⟩ = some (slV s) := by
                cases h10 : L 10 with
                | false => rw [hW.a h10]; exact Y2.out.1
                | true => rw [hW.b h10 h11]; exact Y2.out.2
              clear hN hO hL hk hd
              go_simp
              exact hK _ _ (hW.skip (by decide) (by decide) (by decide)) trivial rfl
            · intro a wq vs L hW hL hN hO hk hd K hK
              have p0 := hO 0 (by decide)
              clear hN hO hL hk hd
              go_simp
              exact hK _ _ (hW.skip (by decide) (by decide) (by decide)) trivial rfl
            · intro a wq vs L hW hL hN hO hk hd K hK
              have p6 := hO 6 (by decide)
              clear hN hO hL hk hd
              go_simp
              exact hK _ _ (hW.skip (by decide) (by decide) (by decide)) trivial rfl
            · intro a wq vs L hW hL hN hO hk hd K hK
              have p9 := hO 9 (by decide)
              clear hN hO hL hk hd
              go_simp
              exact hK _ _ (hW.skip (by decide) (by decide) (by decide)) trivial rfl
            · intro a wq vs L hW hL hN hO hk hd K hK
              have d3 := hd 3 45 (by decide) rfl
              rw [show vs 3 = .int .i64 j from (hk 3 (by decide)).2] at d3
              have d4 := hd 4 46 (by decide) rfl
              rw [show vs 4 = .int .i64 ((m : Int) + 1) from (hk 4 (by decide)).2] at d4
              clear hN hO hL hk hd
              go_simp
              exact hK _ _ (hW.skip (by decide) (by decide) (by decide)) trivial rfl
            · intro a wq vs L hW hL hN hO hk hd K hK
              have p5 := hO 5 (by decide)
              clear hN hO hL hk hd
              go_simp
              exact hK _ _ (hW.skip (by decide) (by decide) (by decide)) trivial rfl
            · intro a wq vs L hW hL hN hO hk hd K hK
              have d5 := hd 5 47 (by decide) rfl
              rw [show vs 5 = .int .i64 ((j : Int) + ((m : Int) + 1)) from (hk 5 (by decide)).2] at d5
              have d6 := hd 6 48 (by decide) rfl
              rw [show vs 6 = .int .i64 I.length from (hk 6 (by decide)).2] at d6
              clear hN hO hL hk hd
              go_simp
              exact hK _ _ (hW.skip (by decide) (by decide) (by decide)) trivial rfl
            · intro a wq vs L hW hL hN hO hk hd K hK
              have d2 := hd 2 44 (by decide) rfl
              rw [show vs 2 = .slice (some ⟨b, off, none⟩) I.length cap from (hk 2 (by decide)).2] at d2
              have d7 := hd 7 49 (by decide) rfl
              rw [show vs 7 = .int .i64 pm from (hk 7 (by decide)).2] at d7
              clear hN hO hL hk hd
              go_simp
              exact hK _ _ (hW.skip (by decide) (by decide) (by decide)) trivial rfl
            · intro a wq vs L hW hL hN hO hk hd K hK
              have d8 := hd 8 50 (by decide) rfl
              rw [show vs 8 = .pointer (some ⟨b, off + pm, none⟩) from (hk 8 (by decide)).2] at d8
              have hc : wq.cell? ⟨b, off + pm, none⟩ = some (.int .i64 z) := by rw [hW.a (hN 10 (by decide))]; exact hcm
              clear hN hO hL hk hd
              go_simp
              exact hK _ _ (hW.skip (by decide) (by decide) (by decide)) trivial rfl
            · intro a wq vs L hW hL hN hO hk hd K hK
              have d9 := hd 9 51 (by decide) rfl
              rw [show vs 9 = .int .i64 z from (hk 9 (by decide)).2] at d9
              have ha := hW.a hL
              have h11 := hN 11 (by decide)
              have h13 := hN 13 (by decide)
              subst ha
              clear hN hO hL hk hd
              go_simp
              exact hK _ _ (PW.to2 h11 h13 (by decide) (by decide) HA2.out.symm) trivial rfl
            · intro a wq vs L hW hL hN hO hk hd K hK
              have d1 := hd 1 43 (by decide) rfl
              rw [show vs 1 = slV s from (hk 1 (by decide)).2] at d1
              have d10 := hd 10 52 (by decide) rfl
              rw [show vs 10 = .slice (some ⟨wr.heap.size, 0, none⟩) 1 1 from (hk 10 (by decide)).2] at d10
              have h10 := (hk 10 (by decide)).1
              have hb := hW.b h10 hL
              have h13 := hN 13 (by decide)
              subst hb
              exact step_append_run rfl (.tmp 43) (.tmp 52) 30 rfl _ _ (by simp [Act.eval, d1]) (by simp [Act.eval, d10]) _ _ HRUN.out (hK _ _ (PW.to3 h10 h13 (by decide) (by decide) rfl) trivial rfl)
            · intro a wq vs L hW hL hN hO hk hd K hK
              have p8 := hO 8 (by decide)
              clear hN hO hL hk hd
              go_simp
              exact hK _ _ (hW.skip (by decide) (by decide) (by decide)) trivial rfl
            · intro a wq vs L hW hL hN hO hk hd K hK
              have d11 := hd 11 53 (by decide) rfl
              rw [show vs 11 = .slice a3 L3 q3 from (hk 11 (by decide)).2] at d11
              have d12 := hd 12 54 (by decide) rfl
              rw [show vs 12 = .pointer (some ⟨G, 2, none⟩) from (hk 12 (by decide)).2] at d12
              have h10 := (hk 10 (by decide)).1
              have h11 := (hk 11 (by decide)).1
              have hc := hW.c h11 hL
              subst hc
              obtain ⟨yc, yf⟩ := Y3.out
              clear hN hO hk hd hL
              go_simp
              exact hK undef _ (PW.to4 h10 h11 (by decide) (by decide) rfl) trivial trivial
          · intro vs wq hW hG
            clear hG
            simp only [putAll, Act.put, Nat.zero_add, Nat.reduceAdd]
            generalize vs 0 = y0
            generalize vs 1 = y1
            generalize vs 2 = y2
            generalize vs 3 = y3
            generalize vs 4 = y4
            generalize vs 5 = y5
            generalize vs 6 = y6
            generalize vs 7 = y7
            generalize vs 8 = y8
            generalize vs 9 = y9
            generalize vs 10 = y10
            generalize vs 11 = y11
            generalize vs 12 = y12
            simp only [List.setIfInBounds_toArray, List.set_cons_succ, List.set_cons_zero]
            have e4 := hW.e (by decide)
            subst e4
            clear hW
            go_wp2
            go_roundw
            case rel => exact ⟨m + 1, by omega, by go_num, Lib.hid ⟨_, by rw [hZ.out]; exact NF.out⟩⟩
            case measure => simp [intOf]; omega
        · obtain rfl : m = 2 := by omega
          have dk : decide (((2 : Nat) : Int) + 1 ≤ 2) = false := by decide
          obtain ⟨a9, q9, e9, -, -, -⟩ := hN.ow.reads
          have e9' : slV s = .slice a9 2 q9 := e9
          have o9 : OwnInts wr (G + 1) (slV (a9, 2, q9)) [ZF 0, ZF 1] := by
            show OwnInts wr (G + 1) (.slice a9 2 q9) [ZF 0, ZF 1]
            rw [← e9']; exact hN.ow
          rw [e9'] at y2
          have HBL := Lib.hid hN.bl
          have O9 := Lib.hid (o9.al (.cells #[.int .i64 x, .int .i64 y, .slice a9 2 q9] 37))
          have BB : Hid (Below wo.heap.size wo (wr.alloc (.cells #[.int .i64 x, .int .i64 y, .slice a9 2 q9] 37))) := Lib.hid (bAl HBL.out _)
          have H9 := (HRS.out.bl BB.out).row
          have hgs1 : wo.heap.size ≤ G + 1 := by have := HGS.out; omega
          have hgs2 : w.heap.size ≤ G + 1 := by have := BJ.out.size; omega
          have hsz9 := BB.out.size
          have hszw := BJ.out.size
          have hwr : w.heap.size ≤ wr.heap.size := by have := HBL.out.size; omega
          have HG12 := Lib.hid (And.intro hgs1 hgs2)
          clear hN e9 e9' o9 HNW hgs1 hgs2
          go_wp2_with (at_builtin; refine wpList_append_own _ rfl _ _ 23 rfl w.heap.size 37 i0 (.agg #[.int .i64 0, .int .i64 0, .slice none 0 0]) 3 40 Try.underlying23 hi hz0 hz1 hz2 rfl (by decide) _ _ _ rfl H9 ⟨wr.heap.size, 0, none⟩ 1 1 [.int .i64 x, .int .i64 y, .slice a9 2 q9] rfl rfl (cells_nd _ x y a9 2 q9 rfl _) (oneCell_nd _ _ _ _ _) ?c3 ?c4 ?c5 ?_)
          case c3 => unfold maxLen; omega
          case c4 => omega
          case c5 => simp; omega
          intro v10 w10 hown10 hg10 _
          have HX : Hid (OwnRingS w10 w.heap.size v10 (dats (idTo I (j + 1)))) := Lib.hid (by
            rw [HD2.out]
            exact ⟨_, HRS.out.snoc (s := (a9, 2, q9)) BB.out O9.out HG12.out.1 HG12.out.2 hown10 (by omega) hg10⟩)
          have C10 : Hid (Below w.heap.size w w10) := Lib.hid (bGr (bNext BJ.out BB.out) hg10 (fun k hk => by have := (HRS.out.row.lts k hk).1; omega))
          clear hown10 hg10 H9 y0 y1 y2
          go_wp2
          go_roundw
          case rel => exact ⟨j + 1, by omega, by go_num, HX, C10⟩
          case measure => simp [intOf]; omega
    · obtain rfl : j = I.length := by omega
      have HE := Lib.hid (congrArg dats (idTo_all I))
      go_wp2
      go_ret2
      exact ⟨_, rfl, by rw [← HE.out]; exact HOW.out, BJ.out⟩

theorem asc_from : ∀ {I : List Int} {q : Int}, ascFrom q I = true → (∀ x ∈ I, q < x) ∧ I.Pairwise (· < ·) ∧ ∀ x ∈ I, 0 ≤ x ∧ x < 64
  | [], _, _ => ⟨by simp, by simp, by simp⟩
  | y :: I, q, h => by
    simp only [ascFrom, Bool.and_eq_true, decide_eq_true_eq] at h
    obtain ⟨⟨h1, h2⟩, h3⟩ := h
    obtain ⟨a, b, c⟩ := asc_from h3
    have hp := ptB_true h1
    refine ⟨fun x hx => ?_, List.pairwise_cons.2 ⟨a, b⟩, fun x hx => ?_⟩
    · rcases List.mem_cons.1 hx with rfl | hx
      · exact h2
      · have := a x hx; omega
    · rcases List.mem_cons.1 hx with rfl | hx
      · omega
      · exact c x hx
theorem asc_from_of : ∀ {I : List Int} {q : Int}, (∀ x ∈ I, q < x) → I.Pairwise (· < ·) → (∀ x ∈ I, 0 ≤ x ∧ x < 64) → ascFrom q I = true
  | [], _, _, _, _ => rfl
  | y :: I, q, a, b, c => by
    obtain ⟨b1, b2⟩ := List.pairwise_cons.1 b
    have hy := c y (by simp)
    rw [ascFrom, ptB_of (by omega), decide_eq_true (a y (by simp)), asc_from_of b1 b2 (fun x hx => c x (by simp [hx]))]; rfl
theorem nodes_ok {R : List Nd} (h : ValidL R) (h3 : 3 ≤ R.length) : nodesB (idsL R) = true := by
  have hl : (idsL R).length = R.length := by simp [idsL]
  have h10 := h.len
  rw [nodesB, inB_of (by rw [hl]; omega), asc_from_of (fun x hx => by have := (h.ascI.2 x hx).1; omega) h.asc h.ascI.2]; rfl
theorem three_of {R : List Nd} (hs : safeL R = true) : 3 ≤ R.length := by
  simp only [safeL, Bool.and_eq_true, decide_eq_true_eq] at hs
  have := List.length_filter_le (prcB R) (idsL R)
  have hl : (idsL R).length = R.length := by simp [idsL]
  have h2 := hs.2
  unfold princ at h2
  omega

set_option maxRecDepth 100000 in
set_option maxHeartbeats 2000000 in
theorem implRingIdeal_ok (v : Value) (R : List Nd) (w : World) (hv : ValidL R) (hs : safeL R = true) (hr : RR w v R) :
    Calls Try.prog 13 #[v] w fun e w' => e = .returned (.bool (decide (dats R = dats (idealS (idsL R))))) ∧ Below w.heap.size w w' := by
  have h10 := hv.len
  have HV := Lib.hid (vD_dats hv)
  have HN := Lib.hid (nodes_ok hv (three_of hs))
  have HL : Hid (3 ≤ (idsL R).length) := Lib.hid (by simpa [idsL] using three_of hs)
  have HR := Lib.hid hr
  have DS := Lib.hid (dats_small R)
  clear hr hv hs
  go_enter Try.func13, Try.ntmps13
  go_wp2_with fail
  refine (implRingValid_any v (dats R) _ (by rw [dats_len]; omega) HR.out).mono ?_
  rw [HV.out]
  rintro e w1 ⟨rfl, b1⟩
  have B1 := Lib.hid b1; clear b1
  go_wp2_with fail
  refine (idsOf_any v R _ h10 (HR.out.bl B1.out)).mono ?_
  rintro e w2 ⟨x2, rfl, o2, b2⟩
  have B2 := Lib.hid (bNext B1.out b2)
  have O2 := Lib.hid o2.reads
  clear o2 b2 B1
  go_wp2_with fail
  refine (implRingNew_ok x2 (idsL R) _ HN.out HL.out O2.out).mono ?_
  rintro e w3 ⟨x3, rfl, o3, b3⟩
  have B3 := Lib.hid (bNext B2.out b3)
  have O3 := Lib.hid o3.reads
  clear o3 b3 B2
  go_wp2_with fail
  refine (implSameRing_any v x3 (dats R) (dats (idealS (idsL R))) _ (by rw [dats_len]; omega) DS.out (HR.out.bl B3.out) O3.out).mono ?_
  rintro e w4 ⟨rfl, b4⟩
  have B4 := Lib.hid (bNext B3.out b4)
  clear b4
  go_wp2
  go_ret
  exact ⟨rfl, B4.out⟩
end Go.Proofs.Ythgekfiodedelaa
