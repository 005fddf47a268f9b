/- Rings of the call's own; spec.l3Copy. -/
import Derived.Test.YthgekfiodedelaaNdS
import Derived.Laws.AppendOwnNone
namespace Go.Proofs.Ythgekfiodedelaa
open Go.RowKit
set_option linter.unusedVariables false
set_option linter.unusedSimpArgs false

theorem infoNd4 : (Try.prog.info? 37).map (fun i => (i.zero, i.size, i.bytes)) = some (some (.agg #[.int .i64 0, .int .i64 0, .slice none 0 0]), 3, 40) := by kernel_rfl
theorem cells_nd (w : World) (x y : Int) (s : Option Addr) (n c : Nat) {g : Nat} (hg : g = w.heap.size) (t : TypeId) : ∀ j u, [Value.int .i64 x, .int .i64 y, .slice s n c][j]? = some u → (w.alloc (.cells #[.int .i64 x, .int .i64 y, .slice s n c] t)).cell? ((⟨g, 0, none⟩ : Addr).add j) = some u := by
  subst hg
  intro j u hj
  rw [Addr.add_mid, Nat.zero_add, cell_of_row _ _ j _ _ (0, 0) (heap_alloc_new _ _)]
  simpa using hj
theorem oneCell_nd (x y : Int) (s : Option Addr) (n c : Nat) : ∀ u ∈ [Value.int .i64 x, .int .i64 y, .slice s n c], u.oneCell' = true := by
  intro u hu; simp at hu; rcases hu with rfl | rfl | rfl <;> rfl
theorem RInts.adr {w : World} {x : Addr} {n cap : Nat} {zs : List Int} (h : RInts w (.slice (some x) n cap) zs) :
    zs.length = n ∧ ∀ j u, (ints zs)[j]? = some u → x.block < w.heap.size ∧ w.cell? (x.add j) = some u := by
  obtain ⟨a, cap', hv, hn, hc, hcell⟩ := h
  simp only [Value.slice.injEq] at hv
  obtain ⟨rfl, rfl, rfl⟩ := hv
  refine ⟨rfl, fun j u hj => ?_⟩
  have hjl : j < zs.length := by
    have := (List.getElem?_eq_some_iff.1 hj).1
    simpa using this
  obtain ⟨b, off, he, hb, hx⟩ := hcell j hjl
  cases he
  rw [Addr.add_mid, hx]
  simp [ints, hjl] at hj
  exact ⟨hb, by rw [hj]⟩
theorem RInts.nl {w : World} {n cap : Nat} {zs : List Int} (h : RInts w (.slice none n cap) zs) : zs = [] ∧ n = 0 := by
  obtain ⟨a, cap', hv, hn, hc, hcell⟩ := h
  simp only [Value.slice.injEq] at hv
  obtain ⟨rfl, rfl, rfl⟩ := hv
  cases zs with
  | nil => exact ⟨rfl, rfl⟩
  | cons z zs =>
    obtain ⟨b, off, he, _⟩ := hcell 0 (by simp)
    cases he
theorem add_block (x : Addr) (j : Nat) : (x.add j).block = x.block := by unfold Addr.add; split <;> rfl
theorem own_app0 {w w1 : World} {v' : Value} {zs : List Int} {n m : Nat} (h : w1.ownsRow w.heap.size 3 1 v' n (([] : List Value) ++ ints zs)) (hn : n = zs.length) : OwnInts w1 w.heap.size v' zs := by
  subst hn; simpa [OwnInts] using h
theorem one_ints (ys : List Int) : ∀ u ∈ ints ys, u.oneCell' = true := by intro u hu; simp only [ints, List.mem_map] at hu; obtain ⟨z, -, rfl⟩ := hu; rfl
/-- 'append([]int{}, v...)': a copy of a readable row. -/
theorem wpList_copyRd {ops : Array Oper} {rest : List Oper} {o : Oper} {a : Act} {Q : Exit → Act → World → Prop} (w : World) (hgd : o.guard = none) (s x : Operand)
    (ho : o.op = .call { callee := .builtin .append, args := #[s, x], argTypes := #[30, 30] })
    (g0 : Nat) (hs : a.eval s = .slice (some ⟨g0, 0, none⟩) 0 0) (hg0 : g0 = w.heap.size) (v : Value) (hx : a.eval x = v) (ys : List Int) (hr : RInts w v ys) (h0 : 0 < ys.length) (hl : ys.length ≤ 4194304)
    (h : ∀ v' w', OwnInts w' w.heap.size v' ys → Below w.heap.size w w' → wpList Try.prog ops Q rest (a.put o.dst v') w') :
    wpList Try.prog ops Q (o :: rest) a (w.alloc (.cells #[] 3)) := by
  subst hg0
  obtain ⟨i0, hi0, hz0, hz1, hz2⟩ := info_parts infoInt
  obtain ⟨ad, cap, rfl, hlc, hcm, -⟩ := id hr
  cases ad with
  | none =>
    obtain ⟨rfl, -⟩ := hr.nl
    exact absurd h0 (by simp)
  | some x0 =>
    have hcell := hr.adr.2
    have hnews : ∀ o j u, (ints ys)[j]? = some u → (w.alloc o).cell? (x0.add j) = some u := by
      intro o j u hj
      obtain ⟨h1, h2⟩ := hcell j u hj
      rw [(below_alloc w o).cell (p := x0.add j) (by rw [add_block]; exact h1)]; exact h2
    refine wpList_append_own _ hgd s x 30 ho w.heap.size 3 i0 (.int .i64 0) 1 8 Try.underlying30 hi0 hz0 hz1 hz2 rfl (by decide) _ 0 [] hs (own_empty w) x0 ys.length cap (ints ys) hx (by simp) (hnews _) (one_ints _) (by simp; omega) (by simp; omega) (by simp) ?_
    intro v' w9 hown hg9 _
    exact h v' w9 (own_app0 (m := 0) hown (by simp)) ((below_alloc w _).grown hg9 (by simp) (fun j hj => by cases hj; exact Nat.le_refl _))

/-- Rows of different types lie in different blocks. -/
theorem own_types {w : World} {B B' k k' n n' : Nat} {e f : TypeId} {v u : Value} {xs ys : List Value} (h : w.ownsRow B e k v n xs) (h' : w.ownsRow B' f k' u n' ys) (hne : e ≠ f) : v.ownBlock = none ∨ v.ownBlock ≠ u.ownBlock := by
  rcases h.2 with ⟨rfl, -⟩ | ⟨g, cap, cur, rfl, -, hg, -⟩
  · exact .inl rfl
  · rcases h'.2 with ⟨rfl, -⟩ | ⟨g', cap', cur', rfl, -, hg', -⟩
    · exact .inr (by simp [Value.ownBlock])
    · refine .inr fun e1 => ?_
      have e2 : g = g' := Option.some.inj e1
      subst e2
      rw [hg] at hg'
      simp only [Option.some.injEq, Obj.cells.injEq] at hg'
      exact hne hg'.2.1
/-- A ring of the call's own: its nodes' headers, and each list in a block of its own. -/
structure RS (w : World) (B : Nat) (v : Value) (hs : List Hd) (D : List Rn) : Prop where
  row : OwnRow HL 37 w B v hs
  len : hs.length = D.length
  nd : ∀ i (h : i < hs.length) (h' : i < D.length), hs[i].1 = D[i].1 ∧ hs[i].2.1 = D[i].2.1 ∧ OwnInts w B (slV hs[i].2.2) D[i].2.2
  ap : ∀ i k (hi : i < hs.length) (hk : k < hs.length), i < k → (slV hs[i].2.2).ownBlock = none ∨ (slV hs[i].2.2).ownBlock ≠ (slV hs[k].2.2).ownBlock
def OwnRingS (w : World) (B : Nat) (v : Value) (D : List Rn) : Prop := ∃ hs, RS w B v hs D
theorem RS.bl {w w' : World} {B : Nat} {v : Value} {hs : List Hd} {D : List Rn} (h : RS w B v hs D) (hb : Below w.heap.size w w') : RS w' B v hs D :=
  ⟨h.row.bl hb, h.len, fun i h1 h2 => by obtain ⟨a, b, c⟩ := h.nd i h1 h2; exact ⟨a, b, c.bl hb⟩, h.ap⟩
theorem RS.reads {w : World} {B : Nat} {v : Value} {hs : List Hd} {D : List Rn} (h : RS w B v hs D) : RRing w v D :=
  ⟨hs, h.row.reads, h.len, fun i h1 h2 => by obtain ⟨a, b, c⟩ := h.nd i h1 h2; exact ⟨a, b, c.reads⟩⟩
theorem OwnRingS.bl {w w' : World} {B : Nat} {v : Value} {D : List Rn} (h : OwnRingS w B v D) (hb : Below w.heap.size w w') : OwnRingS w' B v D := by obtain ⟨hs, h⟩ := h; exact ⟨hs, h.bl hb⟩
theorem OwnRingS.reads {w : World} {B : Nat} {v : Value} {D : List Rn} (h : OwnRingS w B v D) : RRing w v D := by obtain ⟨hs, h⟩ := h; exact h.reads
theorem OwnRingS.dr {w : World} {B : Nat} {v : Value} {D : List Rn} (h : OwnRingS w B v D) (n : Nat) : OwnRingS (w.drewN n) B v D := h.bl (below_draws' w n)
theorem OwnRingS.base {w : World} {B B' : Nat} {v : Value} {D : List Rn} (h : OwnRingS w B v D) (hB : B' ≤ B) : OwnRingS w B' v D := by
  obtain ⟨hs, h⟩ := h
  exact ⟨hs, h.row.base hB, h.len, fun i h1 h2 => by obtain ⟨a, b, c⟩ := h.nd i h1 h2; exact ⟨a, b, ownsRow_base c hB⟩, h.ap⟩
theorem OwnRingS.empty (w : World) : OwnRingS (w.alloc (.cells #[] 37)) w.heap.size (.slice (some ⟨w.heap.size, 0, none⟩) 0 0) [] :=
  ⟨[], OwnRow.empty HL _ w, rfl, fun i h => absurd h (by simp), fun i k h => absurd h (by simp)⟩
theorem OwnRingS.nil (w : World) (B : Nat) : OwnRingS w B (.slice none 0 0) [] :=
  ⟨[], OwnRow.nil HL _ w B, rfl, fun i h => absurd h (by simp), fun i k h => absurd h (by simp)⟩
theorem RS.snoc {wr w9 w10 : World} {B S n : Nat} {v v10 : Value} {hs : List Hd} {D : List Rn} {x y : Int} {s : Sl} {zs : List Int} (h : RS wr B v hs D) (hb : Below wr.heap.size wr w9) (ho : OwnInts w9 S (slV s) zs)
    (hS : wr.heap.size ≤ S) (hBS : B ≤ S) (hown : w10.ownsRow B 37 3 v10 n (flat HL hs ++ [.int .i64 x, .int .i64 y, slV s])) (hn : n = hs.length + 1) (hg : w9.grownBy w10 v.ownBlock) : RS w10 B v10 (hs ++ [(x, y, s)]) (D ++ [(x, y, zs)]) := by
  have h9 := h.bl hb
  have hne : (3 : TypeId) ≠ 37 := by decide
  have hl := h.len
  refine ⟨OwnRow.snoc (L := HL) (y := (x, y, s)) hown rfl hn, by simp [hl], fun i h1 h2 => ?_, fun i k hi hk hik => ?_⟩
  · by_cases hi : i < hs.length
    · have hi' : i < D.length := by omega
      rw [List.getElem_append_left hi, List.getElem_append_left hi']
      obtain ⟨a, b, c⟩ := h9.nd i hi hi'
      exact ⟨a, b, c.gr hg (own_types c h9.row hne)⟩
    · have e : i = hs.length := by simp at h1; omega
      subst e
      have e1 : (hs ++ [(x, y, s)])[hs.length] = (x, y, s) := by simp
      have e2 : (D ++ [(x, y, zs)])[hs.length] = (x, y, zs) := by simp [hl]
      rw [e1, e2]
      exact ⟨rfl, rfl, ownsRow_base (ho.gr hg (own_types ho h9.row hne)) hBS⟩
  · have hi' : i < hs.length := by simp at hk; omega
    by_cases hk' : k < hs.length
    · rw [List.getElem_append_left hi', List.getElem_append_left hk']
      exact h.ap i k hi' hk' hik
    · have e : k = hs.length := by simp at hk; omega
      subst e
      have e1 : (hs ++ [(x, y, s)])[hs.length] = (x, y, s) := by simp
      rw [e1, List.getElem_append_left hi']
      obtain ⟨-, -, c⟩ := h.nd i hi' (by omega)
      cases hb1 : (slV hs[i].2.2).ownBlock with
      | none => exact .inl rfl
      | some p =>
        refine .inr fun e3 => ?_
        have h3 := (c.lts p hb1).2
        have h4 := (ho.lts p e3.symm).1
        omega
theorem dats_take {R : List Nd} {j : Nat} (h : j < R.length) : dats (R.take (j + 1)) = dats (R.take j) ++ [dat (nth R j)] := by
  have e : R[j] = nth R j := by simp [nth, List.getD, h]
  rw [List.take_succ_eq_append_getElem h, e, dats, List.map_append]; rfl

set_option maxRecDepth 100000 in
set_option maxHeartbeats 4000000 in
theorem l3Copy_any (v : Value) (R : List Nd) (w : World) (hl : R.length ≤ 4096) (hr : RR w v R) :
    Calls Try.prog 47 #[v] w fun e w' => ∃ x, e = .returned x ∧ OwnRingS w' w.heap.size x (dats R) ∧ Below w.heap.size w w' := by
  obtain ⟨i0, hi, hz0, hz1, hz2⟩ := info_parts infoNd4
  obtain ⟨a, cap, rfl, hc, hm⟩ := id hr.sl
  have HR := Lib.hid hr; clear hr
  go_enter Try.func47, Try.ntmps47
  go_wp2
  go_loopw [3, 4, 5] (fun o i _ wr => ∃ j : Nat, j ≤ R.length ∧ i = .int .i64 j ∧ Hid (OwnRingS wr w.heap.size o (dats (R.take j))) ∧ Hid (Below w.heap.size w wr)) (fun _ i _ _ => R.length - (intOf i).toNat)
  case atStart => exact ⟨0, Nat.zero_le _, rfl, Lib.hid (OwnRingS.empty w), Lib.hid (below_alloc w _)⟩
  case round =>
    obtain ⟨j, hj, rfl, HOW, BJ⟩ := hrel
    by_cases hlt : j < R.length
    · have RJ := Lib.hid (HR.out.bl BJ.out)
      have hsz := BJ.out.size
      obtain ⟨b, off, bs, os, c, rfl, hb, hbs, x0, x1, x2, r3, -, -⟩ := RJ.out.nd j hlt
      obtain ⟨hs, hRS⟩ := HOW.out
      have HRS := Lib.hid hRS
      have hhl : hs.length = j := by have := hRS.len; rw [dats_len, List.length_take] at this; omega
      have HD : Hid (dats (R.take (j + 1)) = dats (R.take j) ++ [((nth R j).id, (nth R j).bf, [(nth R j).a0, (nth R j).a1])]) := Lib.hid (dats_take hlt)
      obtain ⟨zs, hzs⟩ : ∃ zs, zs = [(nth R j).a0, (nth R j).a1] := ⟨_, rfl⟩
      have hz2l : zs.length = 2 := by rw [hzs]; rfl
      rw [← hzs] at r3 HD
      clear hzs hRS HOW RJ
      generalize (nth R j).id = x at *
      generalize (nth R j).bf = y at *
      have R3 := Lib.hid (r3.al (.cells #[.int .i64 x, .int .i64 y, .slice (some ⟨bs, os, none⟩) 2 c] 37))
      have BK := Lib.hid (Blk.new wr #[.int .i64 x, .int .i64 y, .slice (some ⟨bs, os, none⟩) 2 c] 37)
      have HZ := Lib.hid hz2l
      clear r3 hz2l
      go_wp2_with (at_builtin; refine wpList_copyRd _ rfl _ _ rfl _ rfl (by simp) _ rfl zs R3.out (by rw [HZ.out]; omega) (by rw [HZ.out]; omega) ?_)
      intro v7 w7 o7 b7
      obtain ⟨a7, q7, rfl, -, -, -⟩ := id o7.reads
      have BK7 := BK.out.bl (by rw [World.size_alloc]; exact b7)
      obtain ⟨y0, y1, y2⟩ := BK7.get3
      obtain ⟨f0, f1, f2⟩ := BK7.fr3
      have B8 := BK7.s32 (.slice a7 zs.length q7)
      obtain ⟨z0, z1, z2⟩ := B8.get3
      have hlt8 : wr.heap.size < wr.heap.size + 1 := Nat.lt_succ_self _
      have o8 := o7.sc hlt8 2 (.slice a7 zs.length q7)
      have bb : Below wr.heap.size wr (w7.setCell ⟨wr.heap.size, 2, none⟩ (.slice a7 zs.length q7)) := ((below_alloc wr _).trans (b7.mono (by simp))).setCell (Nat.le_refl _) _
      have bb9 := bb.trans ((below_alloc _ (.cells #[.int .i64 x, .int .i64 y, .slice a7 zs.length q7] 37)).mono bb.size)
      have o9 := Lib.hid (o8.al (.cells #[.int .i64 x, .int .i64 y, .slice a7 zs.length q7] 37))
      have H9 := (HRS.out.bl bb9).row
      have BB := Lib.hid bb9
      have hs8 := bb.size
      clear BK B8 BK7 o7 o8 b7 R3 bb bb9
      go_wp2_with (at_builtin; refine wpList_append_own _ rfl _ _ 23 rfl w.heap.size 37 i0 (.agg #[.int .i64 0, .int .i64 0, .slice none 0 0]) 3 40 Try.underlying23 hi hz0 hz1 hz2 rfl (by decide) _ _ _ rfl H9 ⟨w7.heap.size, 0, none⟩ 1 1 [.int .i64 x, .int .i64 y, .slice a7 zs.length q7] rfl rfl (cells_nd _ x y a7 zs.length q7 (by simp) _) (oneCell_nd _ _ _ _ _) ?c3 ?c4 ?c5 ?_)
      case c3 => unfold maxLen; omega
      case c4 => omega
      case c5 => have := BB.out.size; simp at this ⊢; omega
      intro v10 w10 hown10 hg10 _
      have HN : Hid (OwnRingS w10 w.heap.size v10 (dats (R.take (j + 1)))) := Lib.hid (by
        rw [HD.out]
        exact ⟨_, HRS.out.snoc (s := (a7, zs.length, q7)) BB.out o9.out (by omega) (by omega) hown10 (by omega) hg10⟩)
      have C10 : Hid (Below w.heap.size w w10) := Lib.hid (bGr (bNext BJ.out BB.out) hg10 (fun k hk => by have := (HRS.out.row.lts k hk).1; omega))
      clear hown10 hg10 H9 o9
      go_wp2
      go_roundw
      case rel => exact ⟨j + 1, by omega, by go_num, HN, C10⟩
      case measure => simp [intOf]; omega
    · obtain rfl : j = R.length := by omega
      have HE : Hid (dats (R.take R.length) = dats R) := Lib.hid (by rw [List.take_length])
      go_wp2
      go_ret
      exact ⟨_, rfl, by rw [← HE.out]; exact HOW.out, BJ.out⟩
end Go.Proofs.Ythgekfiodedelaa
