/- CacheDrop of the reference. -/
import Derived.Test.YtcahemedlmagdaaGet0
namespace Go.Proofs.Ytcahemedlmagdaa
open Go.RowKit
set_option linter.unusedVariables false
set_option linter.unusedSimpArgs false

def dropF (key : Int) (e : Ent) : Bool := e.1 != key
def dropG (zs : List Ent) (key : Int) : Bool := cvB zs && ptB key
def dropL (zs : List Ent) (key : Int) : List Ent := if dropG zs key then zs.filter (dropF key) else []
def dropT (zs : List Ent) (key : Int) : Bool := dropG zs key && decide ((zs.filter (dropF key)).length < zs.length)
theorem drop_bad {zs : List Ent} {key : Int} (h : dropG zs key = false) : dropL zs key = [] ∧ dropT zs key = false := by simp [dropL, dropT, h]
theorem drop_good {zs : List Ent} {key : Int} (h : dropG zs key = true) : dropL zs key = zs.filter (dropF key) ∧ dropT zs key = decide ((zs.filter (dropF key)).length < zs.length) := by simp [dropL, dropT, h]
theorem dropL_len (zs : List Ent) (key : Int) : (dropL zs key).length ≤ zs.length := by
  unfold dropL; split
  · exact List.length_filter_le _ _
  · simp
theorem take_filter {zs : List Ent} {f : Ent → Bool} {j : Nat} (hj : j < zs.length) : (zs.take (j + 1)).filter f = (zs.take j).filter f ++ if f zs[j] then [zs[j]] else [] := by
  rw [List.take_succ_eq_append_getElem hj, List.filter_append]
  by_cases h : f zs[j] <;> simp [h]
/-- What one append of an entry leaves. -/
theorem app_ent {w1 : World} {B n : Nat} {v' : Value} {xs : List Ent} {x y z : Int} (h : w1.ownsRow B entT 3 v' n (flat EL xs ++ [.int .i64 x, .int .i64 y, .int .i64 z])) (hn : n = xs.length + 1) : OwnRow EL entT w1 B v' (xs ++ [(x, y, z)]) :=
  OwnRow.snoc (L := EL) h rfl hn
theorem cells_ent (w : World) (x y z : Int) {g : Nat} (hg : g = w.heap.size) (t : TypeId) : ∀ j u, [Value.int .i64 x, .int .i64 y, .int .i64 z][j]? = some u → (w.alloc (.cells #[.int .i64 x, .int .i64 y, .int .i64 z] t)).cell? ((⟨g, 0, none⟩ : Addr).add j) = some u := by
  subst hg
  intro j u hj
  rw [Addr.add_mid, Nat.zero_add, cell_of_row _ _ j _ _ (0, 0) (heap_alloc_new _ _)]
  simpa using hj
theorem oneCell_ent (x y z : Int) : ∀ u ∈ [Value.int .i64 x, .int .i64 y, .int .i64 z], u.oneCell' = true := by
  intro u hu; simp at hu; rcases hu with rfl | rfl | rfl <;> rfl
/-- The list's cells while rows of the call's own grow. -/
theorem bOwnR {w wi wj : World} {e : TypeId} {B : Nat} {v : Value} {xs : List Ent} (h : Below w.heap.size w wi) (hown : OwnRow EL e wi B v xs) (hB : w.heap.size ≤ B) (hg : wi.grownBy wj v.ownBlock) : Below w.heap.size w wj := bNextOwn h hown hB hg

set_option maxHeartbeats 2000000 in
theorem specCacheDrop_nn (v : Value) (zs : List Ent) (key : Int) (w : World) (hl : zs.length ≤ 4194304) (hr : RRow EL w v zs) :
    Calls Try.prog 35 #[v, .int .i64 key] w fun e w' => ∃ u, e = .returned (.tuple #[u, .bool (dropT zs key)]) ∧ OwnRow EL entT w' w.heap.size u (dropL zs key) ∧ Below w.heap.size w w' ∧ u ≠ .slice none 0 0 := by
  obtain ⟨a, cap, rfl, hc, hm, -⟩ := id hr
  have HR := Lib.hid hr; clear hr
  obtain ⟨i0, hi, hz0, hz1, hz2⟩ := info_parts infoEn4
  cases hv : cvB zs with
  | false =>
    obtain ⟨e1, e2⟩ := drop_bad (zs := zs) (key := key) (by simp [dropG, hv])
    rw [e1, e2]
    have HV := Lib.hid hv; clear hv e1 e2
    go_enter Try.func35, Try.ntmps35
    go_wp2_with fail
    refine (specCacheValid_b _ zs _ hl HR.out).mono ?_
    rw [HV.out]
    rintro e w1 ⟨rfl, b1⟩
    go_wp2
    go_ret2
    exact ⟨_, rfl, (OwnRow.empty EL entT w1).base b1.size, bAl b1 _, by simp⟩
  | true =>
    cases hk : ptB key with
    | false =>
      obtain ⟨e1, e2⟩ := drop_bad (zs := zs) (key := key) (by simp [dropG, hv, hk])
      rw [e1, e2]
      have HV := Lib.hid hv; clear hv e1 e2
      go_enter Try.func35, Try.ntmps35
      go_wp2_with fail
      refine (specCacheValid_b _ zs _ hl HR.out).mono ?_
      rw [HV.out]
      rintro e w1 ⟨rfl, b1⟩
      go_wp2_with fail
      refine (l1Point_any _ _).mono ?_
      rintro e w' ⟨rfl, rfl⟩
      go_wp2
      go_ret2
      exact ⟨_, rfl, (OwnRow.empty EL entT w1).base b1.size, bAl b1 _, by simp⟩
    | true =>
      obtain ⟨e1, e2⟩ := drop_good (zs := zs) (key := key) (by simp [dropG, hv, hk])
      rw [e1, e2]
      have HV := Lib.hid hv; clear hv e1 e2
      go_enter Try.func35, Try.ntmps35
      go_wp2_with fail
      refine (specCacheValid_b _ zs _ hl HR.out).mono ?_
      rw [HV.out]
      rintro e w1 ⟨rfl, b1⟩
      go_wp2_with fail
      refine (l1Point_any _ _).mono ?_
      rintro e w' ⟨rfl, rfl⟩
      go_wp2
      go_loopw [6, 7] (fun o i wr => ∃ (j : Nat) (xs : List Ent), j ≤ zs.length ∧ xs.length ≤ j ∧ i = .int .i64 j ∧ Hid (xs = (zs.take j).filter (dropF key)) ∧ OwnRow EL entT wr w.heap.size o xs ∧ Below w.heap.size w wr ∧ Hid (o ≠ .slice none 0 0)) (fun _ i _ => zs.length - (intOf i).toNat)
      case atStart => exact ⟨0, [], Nat.zero_le _, Nat.zero_le _, rfl, Lib.hid rfl, (OwnRow.empty EL entT w1).base b1.size, bAl b1 _, Lib.hid (by simp)⟩
      case round =>
        obtain ⟨j, xs, hj, hxj, rfl, hX, hown, hB, HNN⟩ := hrel
        by_cases hlt : j < zs.length
        · obtain ⟨b, off, rfl, hbl, h0, h1, h2⟩ := HR.out.ent j hlt
          have r0 := (hB.cell (p := ⟨b, off + j * 3, none⟩) hbl).trans h0
          have r1 := (hB.cell (p := ⟨b, off + j * 3 + 1, none⟩) hbl).trans h1
          have r2 := (hB.cell (p := ⟨b, off + j * 3 + 2, none⟩) hbl).trans h2
          clear h0 h1 h2
          have HX : Hid (zs[j] = (zs[j].1, zs[j].2.1, zs[j].2.2)) := Lib.hid rfl
          have HS := Lib.hid (take_filter (f := dropF key) hlt)
          generalize zs[j].1 = x at *
          generalize zs[j].2.1 = y at *
          generalize zs[j].2.2 = z at *
          by_cases hxk : x = key
          · have hq : (x != key) = false := by simp [hxk]
            have HQ := Lib.hid hxk; clear hxk
            go_wp2
            go_roundw
            case rel => exact ⟨j + 1, xs, by omega, by omega, by go_num, Lib.hid (by rw [HS.out, ← hX.out, HX.out]; simp [dropF, HQ.out]), hown, hB, HNN⟩
            case measure => simp [intOf]; omega
          · have hq : (x != key) = true := by simp [hxk]
            have HQ : Hid (¬ x = key) := Lib.hid hxk; clear hxk
            go_wp2_with (at_builtin; refine wpList_append_own _ rfl _ _ 23 rfl w.heap.size 30 i0 (.agg #[.int .i64 0, .int .i64 0, .int .i64 0]) 3 24 Try.underlying23 hi hz0 hz1 hz2 rfl (by decide) _ _ _ rfl (hown.al _) ⟨wr.heap.size, 0, none⟩ 1 1 [.int .i64 x, .int .i64 y, .int .i64 z] rfl rfl (cells_ent _ x y z rfl _) (oneCell_ent _ _ _) ?c3 ?c4 ?c5 ?_)
            case c3 => unfold maxLen; omega
            case c4 => omega
            case c5 => have := hB.size; simp; omega
            intro v' w2 hown2 hg2 hnn2
            have HNN2 : Hid (v' ≠ .slice none 0 0) := Lib.hid hnn2
            clear hnn2
            have o2 := app_ent hown2 rfl
            have c2 := bOwnR (bAl hB (.cells #[.int .i64 x, .int .i64 y, .int .i64 z] entT)) (hown.al _) (Nat.le_refl _) hg2
            have hl2 : (xs ++ [(x, y, z)]).length ≤ j + 1 := by simp; omega
            clear hown2 hg2
            go_wp2
            go_roundw
            case rel => exact ⟨j + 1, xs ++ [(x, y, z)], by omega, hl2, by go_num, Lib.hid (by rw [HS.out, ← hX.out, HX.out]; simp [dropF, HQ.out]), o2, c2, HNN2⟩
            case measure => simp [intOf]; omega
        · obtain rfl : j = zs.length := by omega
          rw [List.take_length] at hX
          obtain ⟨au, capu, rfl, -, -, -⟩ := hown.reads
          go_wp2
          go_ret2
          exact ⟨_, by rw [← hX.out]; rfl, by rw [← hX.out]; exact hown, hB, HNN.out⟩

theorem specCacheDrop_any (v : Value) (zs : List Ent) (key : Int) (w : World) (hl : zs.length ≤ 4194304) (hr : RRow EL w v zs) :
    Calls Try.prog 35 #[v, .int .i64 key] w fun e w' => ∃ u, e = .returned (.tuple #[u, .bool (dropT zs key)]) ∧ OwnRow EL entT w' w.heap.size u (dropL zs key) ∧ Below w.heap.size w w' :=
  (specCacheDrop_nn v zs key w hl hr).mono fun _ _ ⟨u, h1, h2, h3, _⟩ => ⟨u, h1, h2, h3⟩
end Go.Proofs.Ytcahemedlmagdaa
