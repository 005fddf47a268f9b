/- CacheDrop of the program. -/
import Derived.Test.YtcahemedlmagdaaDel
namespace Go.Proofs.Ytcahemedlmagdaa
open Go.RowKit
set_option linter.unusedVariables false
set_option linter.unusedSimpArgs false

theorem hasK_at {zs : List Ent} {key : Int} (h : hasK zs key = true) : ∃ hp : posOf zs key < zs.length, zs[posOf zs key].1 = key := by
  rw [hasK, keyAt] at h
  cases e : zs[posOf zs key]? with
  | none => rw [e] at h; simp at h
  | some x =>
    obtain ⟨hp, hx⟩ := List.getElem?_eq_some_iff.1 e
    refine ⟨hp, ?_⟩
    rw [e] at h
    simp only [beq_iff_eq] at h
    rw [hx]; exact h
theorem hasK_not {zs : List Ent} {key : Int} (hc : cvFrom (-1) zs = true) (h : hasK zs key = false) : ∀ j (hj : j < zs.length), zs[j].1 ≠ key := by
  intro j hj he
  by_cases hjp : j = posOf zs key
  · subst hjp
    rw [hasK, keyAt, List.getElem?_eq_getElem hj] at h
    simp [he] at h
  · exact notKey hc hj hjp he
theorem filter_not {zs : List Ent} {key : Int} (hc : cvFrom (-1) zs = true) (h : hasK zs key = false) : zs.filter (dropF key) = zs := by
  rw [List.filter_eq_self]
  intro e he
  obtain ⟨j, hj, rfl⟩ := List.getElem_of_mem he
  simpa [dropF] using hasK_not hc h j hj
theorem filter_cut {zs : List Ent} {key : Int} (hc : cvFrom (-1) zs = true) (h : hasK zs key = true) : zs.filter (dropF key) = cutAt zs (posOf zs key) := by
  obtain ⟨hp, hk⟩ := hasK_at h
  have e : zs = zs.take (posOf zs key) ++ zs[posOf zs key] :: zs.drop (posOf zs key + 1) := by
    rw [← List.drop_eq_getElem_cons hp, List.take_append_drop]
  have h1 : (zs.take (posOf zs key)).filter (dropF key) = zs.take (posOf zs key) := by
    rw [List.filter_eq_self]
    intro x hx
    obtain ⟨j, hj, rfl⟩ := List.getElem_of_mem hx
    have hj' : j < posOf zs key := by simp at hj; omega
    have := notKey hc (j := j) (key := key) (by omega) (by omega)
    simpa [dropF] using this
  have h2 : (zs.drop (posOf zs key + 1)).filter (dropF key) = zs.drop (posOf zs key + 1) := by
    rw [List.filter_eq_self]
    intro x hx
    obtain ⟨j, hj, rfl⟩ := List.getElem_of_mem hx
    have hj' : posOf zs key + 1 + j < zs.length := by simp at hj; omega
    have := notKey hc (key := key) hj' (by omega)
    simpa [dropF] using this
  have h3 : dropF key zs[posOf zs key] = false := by simp [dropF, hk]
  unfold cutAt
  have e2 : zs.filter (dropF key) = (zs.take (posOf zs key) ++ zs[posOf zs key] :: zs.drop (posOf zs key + 1)).filter (dropF key) := by rw [← e]
  rw [e2, List.filter_append, List.filter_cons, h3, h1, h2]; rfl
theorem drop_has {zs : List Ent} {key : Int} (h : dropG zs key = true) (hh : hasK zs key = true) : dropL zs key = cutAt zs (posOf zs key) ∧ dropT zs key = true := by
  obtain ⟨e1, e2⟩ := drop_good h
  simp only [dropG, Bool.and_eq_true] at h
  have hf := filter_cut (cvB_from h.1).1 hh
  obtain ⟨hp, _⟩ := hasK_at hh
  refine ⟨by rw [e1, hf], ?_⟩
  rw [e2, hf, cutAt_len hp]
  simp; omega
theorem drop_hasnot {zs : List Ent} {key : Int} (h : dropG zs key = true) (hh : hasK zs key = false) : dropL zs key = zs ∧ dropT zs key = false := by
  obtain ⟨e1, e2⟩ := drop_good h
  simp only [dropG, Bool.and_eq_true] at h
  have hf := filter_not (cvB_from h.1).1 hh
  refine ⟨by rw [e1, hf], ?_⟩
  rw [e2, hf]
  simp

set_option maxHeartbeats 2000000 in
theorem implCacheDrop_any (v : Value) (zs : List Ent) (key : Int) (w : World) (hl : zs.length ≤ 4194304) (hr : RRow EL w v zs) :
    Calls Try.prog 19 #[v, .int .i64 key] w fun e w' => ∃ u, e = .returned (.tuple #[u, .bool (dropT zs key)]) ∧ OwnRow EL entT w' w.heap.size u (dropL zs key) ∧ Below w.heap.size w w' := by
  obtain ⟨a, cap, rfl, hc, hm, -⟩ := id hr
  have HR := Lib.hid hr; clear hr
  cases hv : cvB zs with
  | false =>
    obtain ⟨e1, e2⟩ := drop_bad (zs := zs) (key := key) (by simp [dropG, hv])
    rw [e1, e2]
    have HV := Lib.hid hv; clear hv e1 e2
    go_enter Try.func19, Try.ntmps19
    go_wp2_with fail
    refine (implCacheValid_any _ zs _ hl HR.out).mono ?_
    rw [HV.out]
    rintro e w1 ⟨rfl, b1⟩
    go_wp2
    go_ret2
    exact ⟨_, rfl, OwnRow.nil _ _ _ _, b1⟩
  | true =>
    cases hk : ptB key with
    | false =>
      obtain ⟨e1, e2⟩ := drop_bad (zs := zs) (key := key) (by simp [dropG, hv, hk])
      rw [e1, e2]
      have HV := Lib.hid hv; clear hv e1 e2
      go_enter Try.func19, Try.ntmps19
      go_wp2_with fail
      refine (implCacheValid_any _ zs _ hl HR.out).mono ?_
      rw [HV.out]
      rintro e w1 ⟨rfl, b1⟩
      go_wp2_with fail
      refine (ok_any _ _).mono ?_
      rintro e w' ⟨rfl, rfl⟩
      go_wp2
      go_ret2
      exact ⟨_, rfl, OwnRow.nil _ _ _ _, b1⟩
    | true =>
      have hkk := ptB_true hk
      have hG : dropG zs key = true := by simp [dropG, hv, hk]
      cases hh : hasK zs key with
      | false =>
        obtain ⟨e1, e2⟩ := drop_hasnot hG hh
        rw [e1, e2]
        have HV := Lib.hid hv; have HH := Lib.hid hh; clear hv e1 e2 hG hh
        go_enter Try.func19, Try.ntmps19
        go_wp2_with fail
        refine (implCacheValid_any _ zs _ hl HR.out).mono ?_
        rw [HV.out]
        rintro e w1 ⟨rfl, b1⟩
        go_wp2_with fail
        refine (ok_any _ _).mono ?_
        rintro e w' ⟨rfl, rfl⟩
        go_wp2_with fail
        refine (cloneE_any _ zs _ hl (HR.out.bl b1)).mono ?_
        rintro e w2 ⟨u, rfl, o2, b2⟩
        have c2 := bNext b1 b2
        obtain ⟨au, capu, rfl, -, -, -⟩ := o2.reads
        have O2 := Lib.hid o2; clear o2
        go_wp2_with fail
        refine (findEntry_any _ zs key _ HV.out hkk O2.out.reads).mono ?_
        rw [HH.out]
        rintro e w3 ⟨rfl, b3⟩
        have o3 := Lib.hid ((O2.out.bl b3).base b1.size)
        have c3 := bNext c2 b3
        go_wp2
        go_ret2
        exact ⟨_, rfl, o3.out, c3⟩
      | true =>
        obtain ⟨e1, e2⟩ := drop_has hG hh
        rw [e1, e2]
        obtain ⟨hp, -⟩ := hasK_at hh
        obtain ⟨p, hpp⟩ : ∃ p, p = posOf zs key := ⟨_, rfl⟩
        rw [← hpp] at hp ⊢
        have HP := Lib.hid hpp
        have HV := Lib.hid hv; have HH := Lib.hid hh; clear hv e1 e2 hG hh hpp
        have h6 := (cvB_from HV.out).2
        go_enter Try.func19, Try.ntmps19
        go_wp2_with fail
        refine (implCacheValid_any _ zs _ hl HR.out).mono ?_
        rw [HV.out]
        rintro e w1 ⟨rfl, b1⟩
        go_wp2_with fail
        refine (ok_any _ _).mono ?_
        rintro e w' ⟨rfl, rfl⟩
        go_wp2_with fail
        refine (cloneE_any _ zs _ hl (HR.out.bl b1)).mono ?_
        rintro e w2 ⟨u, rfl, o2, b2⟩
        have c2 := bNext b1 b2
        rcases o2.shape with ⟨rfl, hz⟩ | ⟨g, capu, rfl, hg1, -, -, -⟩
        · exact absurd hp (by rw [hz]; simp)
        have O2 := Lib.hid o2; clear o2
        go_wp2_with fail
        refine (findEntry_any _ zs key _ HV.out hkk O2.out.reads).mono ?_
        rw [HH.out, ← HP.out]
        rintro e w3 ⟨rfl, b3⟩
        have o3 := Lib.hid ((O2.out.bl b3).base b1.size)
        have c3 := bNext c2 b3
        have hs1 := b1.size
        go_wp2_with fail
        refine (deleteE_any g capu p zs _ _ hl hp o3.out).mono ?_
        rintro e w4 ⟨u, rfl, hu, o4, g4⟩
        have O4 := Lib.hid o4
        have C4 := Lib.hid (bGr c3 g4 (fun k hk' => by cases hk'; omega))
        clear o4 g4 hu
        go_wp2
        go_ret2
        exact ⟨_, rfl, O4.out, C4.out⟩
end Go.Proofs.Ytcahemedlmagdaa
