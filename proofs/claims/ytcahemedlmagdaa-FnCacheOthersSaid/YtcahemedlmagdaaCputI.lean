/- CachePut of the program. -/
import Derived.Test.YtcahemedlmagdaaInsE
import Derived.Test.YtcahemedlmagdaaHeapI
namespace Go.Proofs.Ytcahemedlmagdaa
open Go.RowKit
set_option linter.unusedVariables false
set_option linter.unusedSimpArgs false

theorem insertE_any (v : Value) (zs : List Ent) (i : Nat) (x y z : Int) (vb : Nat) (tB : TypeId) (B : Nat) (w : World) (hl : zs.length ≤ 1000) (hi : i ≤ zs.length) (ho : OwnRow EL entT w B v zs) (hb : Blk w vb #[.int .i64 x, .int .i64 y, .int .i64 z] tB) (hvb : ∀ g, v.ownBlock = some g → vb ≠ g) (hB : B ≤ w.heap.size) :
    Calls Try.prog 30 #[v, .int .i64 i, .slice (some ⟨vb, 0, none⟩) 1 1] w
      fun e w' => ∃ u, e = .returned u ∧ OwnRow EL entT w' B u (insAt zs i (x, y, z)) ∧ Below B w w' := by
  by_cases hin : i = zs.length
  · subst hin
    refine (insEnd_any v zs x y z vb tB B w hl ho hb hB).mono ?_
    rintro e w' ⟨u, rfl, o, g⟩
    refine ⟨u, rfl, ?_, (Below.refl B w).grown g hB (fun k hk => (ho.lts k hk).1)⟩
    have e1 : insAt zs zs.length (x, y, z) = zs ++ [(x, y, z)] := by simp [insAt]
    rw [e1]; exact o
  · rcases ho.shape with ⟨rfl, rfl⟩ | ⟨g, cap, rfl, hBg, hgl, hc, hm⟩
    · simp at hi; simp at hin; omega
    · by_cases hroom : zs.length + 1 ≤ cap
      · refine (insShift_any g cap i zs x y z vb tB B w hl (by omega) hroom ho hb (hvb g rfl)).mono ?_
        rintro e w' ⟨u, rfl, o, gr⟩
        exact ⟨u, rfl, o, (Below.refl B w).grown gr hB (fun k hk => by cases hk; exact hBg)⟩
      · obtain rfl : cap = zs.length := by omega
        refine (insGrow_any g i zs x y z vb tB B w hl (by omega) ho hb).mono ?_
        rintro e w' ⟨u, rfl, o, b⟩
        exact ⟨u, rfl, o.base hB, b.mono hB⟩

theorem fieldE0 (x y z : Int) (w : World) : (Instr.field 30 (.agg #[.int .i64 x, .int .i64 y, .int .i64 z]) 0).run Try.prog w = .ok (.int .i64 x) w := by kernel_rfl

set_option maxRecDepth 100000 in
set_option maxHeartbeats 4000000 in
theorem implCachePut_any (v : Value) (zs : List Ent) (key value now : Int) (w : World) (hl : zs.length ≤ 4194304) (hr : RRow EL w v zs) :
    Calls Try.prog 11 #[v, .int .i64 key, .int .i64 value, .int .i64 now] w fun e w' => ∃ u, e = .returned (.tuple #[u, .bool (cpG zs key value now)]) ∧ OwnRow EL entT w' w.heap.size u (cpL zs key value now) ∧ Below w.heap.size w w' := by
  obtain ⟨a, cap, rfl, hc, hm, -⟩ := id hr
  have E0 := Lib.hid (Blk.new w #[.int .i64 key, .int .i64 value, .int .i64 now] entT)
  have HR := Lib.hid (hr.al (.cells #[.int .i64 key, .int .i64 value, .int .i64 now] entT)); clear hr
  have c0 := Lib.hid (below_alloc w (.cells #[.int .i64 key, .int .i64 value, .int .i64 now] entT))
  cases hv : cvB zs with
  | false =>
    have hG : cpG zs key value now = false := by simp [cpG, hv]
    rw [cp_bad hG, hG]
    have HV := Lib.hid hv; clear hv hG
    go_enter Try.func11, Try.ntmps11
    go_wp2_with fail
    refine (implCacheValid_any _ zs _ hl HR.out).mono ?_
    rw [HV.out]
    rintro e w1 ⟨rfl, b1⟩
    go_wp2
    go_ret2
    exact ⟨_, rfl, OwnRow.nil _ _ _ _, bNext c0.out b1⟩
  | true =>
    have HV := Lib.hid hv
    cases hE : enB (key, value, now) with
    | false =>
      have hG : cpG zs key value now = false := by rw [cpG, hv, Bool.true_and]; exact hE
      rw [cp_bad hG, hG]
      have HE := Lib.hid hE; clear hv hG hE
      go_enter Try.func11, Try.ntmps11
      go_wp2_with fail
      refine (implCacheValid_any _ zs _ hl HR.out).mono ?_
      rw [HV.out]
      rintro e w1 ⟨rfl, b1⟩
      have E1 := E0.out.bl b1
      obtain ⟨e0, e1, e2⟩ := E1.get3
      go_wp2_with fail
      refine (entryOk_at _ _ _ false _ HE.out).mono ?_
      rintro e w2 ⟨rfl, b2⟩
      clear E1 e0 e1 e2
      go_wp2
      go_ret2
      exact ⟨_, rfl, OwnRow.nil _ _ _ _, bNext (bNext c0.out b1) b2⟩
    | true =>
      have hG : cpG zs key value now = true := by rw [cpG, hv, Bool.true_and]; exact hE
      have HE := Lib.hid hE
      have hkk := (enB_parts hE).1
      have h6 := (cvB_from hv).2
      cases hh : hasK zs key with
      | true =>
        rw [cp_has hG hh, hG]
        obtain ⟨hp, -⟩ := hasK_at hh
        obtain ⟨p, hpp⟩ : ∃ p, p = posOf zs key := ⟨_, rfl⟩
        rw [← hpp] at hp ⊢
        have HP := Lib.hid hpp; have HH := Lib.hid hh
        clear hv hG hE hh hpp
        go_enter Try.func11, Try.ntmps11
        go_wp2_with fail
        refine (implCacheValid_any _ zs _ hl HR.out).mono ?_
        rw [HV.out]
        rintro e w1 ⟨rfl, b1⟩
        have E1 := E0.out.bl b1
        obtain ⟨e0, e1, e2⟩ := E1.get3
        go_wp2_with fail
        refine (entryOk_at _ _ _ true _ HE.out).mono ?_
        rintro e w2 ⟨rfl, b2⟩
        have c2 := bNext (bNext c0.out b1) b2
        have E2 := E1.bl b2
        clear E1 e0 e1 e2
        have s0 := b1.size; have s1 := b2.size
        simp only [World.size_alloc] at s0
        go_wp2_with fail
        refine (cloneE_any _ zs _ hl ((HR.out.bl b1).bl b2)).mono ?_
        rintro e w3 ⟨u, rfl, o3, b3⟩
        have c3 := bNext c2 b3
        rcases o3.shape with ⟨rfl, hz⟩ | ⟨g, capu, rfl, hg1, -, -, -⟩
        · exact absurd hp (by rw [hz]; simp)
        have O3 := Lib.hid (o3.base (B' := w.heap.size + 1) (by omega)); clear o3
        have E3 := E2.bl b3
        clear E2
        go_wp2_with fail
        refine (findEntry_any _ zs key _ HV.out hkk O3.out.reads).mono ?_
        rw [HH.out, ← HP.out]
        rintro e w4 ⟨rfl, b4⟩
        have o4 := Lib.hid (O3.out.bl b4)
        have c4 := bNext c3 b4
        have E4 := E3.bl b4
        clear E3 O3
        obtain ⟨e0, e1, e2⟩ := E4.get3
        obtain ⟨k0, k1, k2⟩ := o4.out.ent p hp
        obtain ⟨u0, k0⟩ : ∃ u, w4.cell? ⟨g, p * 3, none⟩ = some u := ⟨_, k0⟩
        obtain ⟨u1, k1⟩ : ∃ u, w4.cell? ⟨g, p * 3 + 1, none⟩ = some u := ⟨_, k1⟩
        obtain ⟨u2, k2⟩ : ∃ u, w4.cell? ⟨g, p * 3 + 2, none⟩ = some u := ⟨_, k2⟩
        have f0 := o4.out.frozenAt (p * 3); have f1 := o4.out.frozenAt (p * 3 + 1); have f2 := o4.out.frozenAt (p * 3 + 2)
        have hst := o4.out.set3 p hp key value now
        have HST := Lib.hid (hst.base (B' := w.heap.size) (by omega))
        have CST := Lib.hid (bGr c4 (((grown_set w4 g (p * 3) (.int .i64 key)).trans (grown_set _ g (p * 3 + 1) (.int .i64 value))).trans (grown_set _ g (p * 3 + 2) (.int .i64 now))) (fun k hk => by cases hk; omega))
        clear hst E4
        go_wp2
        go_ret2
        exact ⟨_, rfl, HST.out, CST.out⟩
      | false =>
        by_cases h66 : zs.length = 6
        · obtain ⟨k2, hk2⟩ : ∃ k2, k2 = (zE (initL zs) 0).1 := ⟨_, rfl⟩
          obtain ⟨hr2, hh2, -⟩ := oldK hv h66 hk2
          rw [cp_full hG hh h66 hk2, hG]
          obtain ⟨hp, -⟩ := hasK_at hh2
          obtain ⟨p, hpp⟩ : ∃ p, p = posOf zs k2 := ⟨_, rfl⟩
          rw [← hpp] at hp ⊢
          have hvc := cv_cut hv p
          have hcl := cutAt_len hp
          obtain ⟨X, hX⟩ : ∃ X, X = cutAt zs p := ⟨_, rfl⟩
          have HXE := Lib.hid hX
          rw [← hX] at hvc hcl ⊢
          clear hX
          have hql := posOf_le X key
          have hX5 : X.length ≤ 5 := by omega
          obtain ⟨q, hq⟩ : ∃ q, q = posOf X key := ⟨_, rfl⟩
          have HQ := Lib.hid hq
          rw [← hq] at hql ⊢
          clear hq
          have HP := Lib.hid hpp; have HH := Lib.hid hh; have HVC := Lib.hid hvc; have H66 := Lib.hid h66; have HH2 := Lib.hid hh2; have HK2 := Lib.hid hk2; have HCL := Lib.hid hcl
          have q6 : ((zs.length : Int) == 6) = true := by simp [h66]
          have hl6 : zs.length ≤ 6 := by omega
          clear hv hG hE hh hpp hvc h66 hh2 hk2 hcl h6
          go_enter Try.func11, Try.ntmps11
          go_wp2_with fail
          refine (implCacheValid_any _ zs _ hl HR.out).mono ?_
          rw [HV.out]
          rintro e w1 ⟨rfl, b1⟩
          have E1 := E0.out.bl b1
          obtain ⟨e0, e1, e2⟩ := E1.get3
          go_wp2_with fail
          refine (entryOk_at _ _ _ true _ HE.out).mono ?_
          rintro e w2 ⟨rfl, b2⟩
          have c2 := bNext (bNext c0.out b1) b2
          have E2 := E1.bl b2
          clear E1 e0 e1 e2
          have s0 := b1.size; have s1 := b2.size
          simp only [World.size_alloc] at s0
          go_wp2_with fail
          refine (cloneE_any _ zs _ hl ((HR.out.bl b1).bl b2)).mono ?_
          rintro e w3 ⟨u, rfl, o3, b3⟩
          have c3 := bNext c2 b3
          have s3 := b3.size
          rcases o3.shape with ⟨rfl, hz⟩ | ⟨g, capu, rfl, hg1, hg2, -, -⟩
          · exact absurd hp (by rw [hz]; simp)
          have O3 := Lib.hid (o3.base (B' := w.heap.size + 1) (by omega)); clear o3
          have E3 := E2.bl b3
          clear E2
          go_wp2_with fail
          refine (findEntry_any _ zs key _ HV.out hkk O3.out.reads).mono ?_
          rw [HH.out]
          generalize posOf zs key = q0
          rintro e w4 ⟨rfl, b4⟩
          have o4 := Lib.hid (O3.out.bl b4)
          have c4 := bNext c3 b4
          have s4 := b4.size
          have E4 := E3.bl b4
          clear E3 O3 b1 b2 b3 b4
          go_wp2_with fail
          refine (oldest_any _ zs _ H66.out o4.out.reads).mono ?_
          have HZ : Hid (enV (zE (initL zs) 0) = .agg #[.int .i64 k2, .int .i64 (zE (initL zs) 0).2.1, .int .i64 (zE (initL zs) 0).2.2]) := Lib.hid (by rw [HK2.out]; rfl)
          rw [HZ.out]
          generalize (zE (initL zs) 0).2.1 = y2 at *
          generalize (zE (initL zs) 0).2.2 = z2 at *
          rintro e w5 ⟨rfl, b5⟩
          have o5 := Lib.hid (o4.out.bl b5)
          have c5 := bNext c4 b5
          have s5 := b5.size
          have E5 := E4.bl b5
          clear E4 o4 b5
          have fe := fieldE0 k2 y2 z2 w5
          go_wp2_with fail
          clear fe
          refine (findEntry_any _ zs k2 _ HV.out hr2 o5.out.reads).mono ?_
          rw [HH2.out, ← HP.out]
          rintro e w6 ⟨rfl, b6⟩
          have o6 := Lib.hid (o5.out.bl b6)
          have c6 := bNext c5 b6
          have s6 := b6.size
          have E6 := E5.bl b6
          clear E5 o5 b6
          go_wp2_with fail
          refine (deleteE_any g capu p zs _ _ hl hp o6.out).mono ?_
          rintro e w7 ⟨u, rfl, hu, o7, g7⟩
          rw [← HXE.out] at o7
          obtain ⟨au, cu, rfl, -, -, -⟩ := o7.reads
          have O7 := Lib.hid o7
          have hu' := Lib.hid hu
          have c7 := bGr c6 g7 (fun k hk' => by cases hk'; omega)
          have s7 := g7.size
          have E7 := E6.gr g7 (fun k hk' => by cases hk'; omega)
          clear E6 o6 o7 g7 hu
          go_wp2_with fail
          refine (findEntry_any _ X key _ HVC.out hkk O7.out.reads).mono ?_
          rw [← HQ.out]
          generalize hasK X key = hx
          rintro e w8 ⟨rfl, b8⟩
          have o8 := Lib.hid (O7.out.bl b8)
          have c8 := bNext c7 b8
          have s8 := b8.size
          have E8 := E7.bl b8
          clear E7 O7 b8
          obtain ⟨e0, e1, e2⟩ := E8.get3
          clear E8
          go_wp2_with fail
          refine (insertE_any _ X q key value now _ 30 w.heap.size _ (by omega) hql ((o8.out.al _).base (by omega)) (Blk.new w8 _ _) (fun g' hg' => ?_) (by simp; omega)).mono ?_
          · have := hu'.out; rw [this] at hg'; cases hg'; omega
          rintro e w9 ⟨u9, rfl, o9, b9⟩
          have O9 := Lib.hid o9
          have C9 := Lib.hid ((bAl c8 (.cells #[.int .i64 key, .int .i64 value, .int .i64 now] 30)).trans b9)
          clear o9 b9
          go_wp2
          go_ret2
          exact ⟨_, rfl, O9.out, C9.out⟩
        · rw [cp_room hG hh h66, hG]
          have hql := posOf_le zs key
          obtain ⟨q, hq⟩ : ∃ q, q = posOf zs key := ⟨_, rfl⟩
          have HQ := Lib.hid hq
          rw [← hq] at hql ⊢
          clear hq
          have HH := Lib.hid hh
          have q6 : ((zs.length : Int) == 6) = false := by rw [beq_eq_false_iff_ne]; omega
          clear hv hG hE hh h66
          go_enter Try.func11, Try.ntmps11
          go_wp2_with fail
          refine (implCacheValid_any _ zs _ hl HR.out).mono ?_
          rw [HV.out]
          rintro e w1 ⟨rfl, b1⟩
          have E1 := E0.out.bl b1
          obtain ⟨e0, e1, e2⟩ := E1.get3
          go_wp2_with fail
          refine (entryOk_at _ _ _ true _ HE.out).mono ?_
          rintro e w2 ⟨rfl, b2⟩
          have c2 := bNext (bNext c0.out b1) b2
          have E2 := E1.bl b2
          clear E1 e0 e1 e2
          have s0 := b1.size; have s1 := b2.size
          simp only [World.size_alloc] at s0
          go_wp2_with fail
          refine (cloneE_any _ zs _ hl ((HR.out.bl b1).bl b2)).mono ?_
          rintro e w3 ⟨u, rfl, o3, b3⟩
          have c3 := bNext c2 b3
          have s3 := b3.size
          have O3 := Lib.hid (o3.base (B' := w.heap.size + 1) (by omega))
          have L3 := Lib.hid o3.lts
          obtain ⟨au, cu, rfl, -, -, -⟩ := o3.reads
          clear o3
          have E3 := E2.bl b3
          clear E2
          go_wp2_with fail
          refine (findEntry_any _ zs key _ HV.out hkk O3.out.reads).mono ?_
          rw [HH.out, ← HQ.out]
          rintro e w4 ⟨rfl, b4⟩
          have o4 := Lib.hid (O3.out.bl b4)
          have c4 := bNext c3 b4
          have s4 := b4.size
          have E4 := E3.bl b4
          clear E3 O3 b1 b2 b3 b4
          go_wp2_with fail
          refine (findEntry_any _ zs key _ HV.out hkk o4.out.reads).mono ?_
          rw [HH.out, ← HQ.out]
          rintro e w8 ⟨rfl, b8⟩
          have o8 := Lib.hid (o4.out.bl b8)
          have c8 := bNext c4 b8
          have s8 := b8.size
          have E8 := E4.bl b8
          clear E4 o4 b8
          obtain ⟨e0, e1, e2⟩ := E8.get3
          clear E8
          go_wp2_with fail
          refine (insertE_any _ zs q key value now _ 30 w.heap.size _ (by omega) hql ((o8.out.al _).base (by omega)) (Blk.new w8 _ _) (fun g' hg' => ?_) (by simp; omega)).mono ?_
          · have := (L3.out g' hg').2; omega
          rintro e w9 ⟨u9, rfl, o9, b9⟩
          have O9 := Lib.hid o9
          have C9 := Lib.hid ((bAl c8 (.cells #[.int .i64 key, .int .i64 value, .int .i64 now] 30)).trans b9)
          clear o9 b9
          go_wp2
          go_ret2
          exact ⟨_, rfl, O9.out, C9.out⟩

theorem specCachePut_p (v : Value) (zs : List Ent) (key value now : Int) (w : World) (hl : zs.length ≤ 4194304) (hr : RRow EL w v zs) :
    Calls Try.prog 12 #[v, .int .i64 key, .int .i64 value, .int .i64 now] w fun e w' => ∃ u, e = .returned (.tuple #[u, .bool (cpG zs key value now)]) ∧ OwnRow EL entT w' w.heap.size u (cpL zs key value now) ∧ Below w.heap.size w w' :=
  (specCachePut_any v zs key value now w hl hr).mono fun e w' ⟨u, h1, h2, h3, _⟩ => ⟨u, h1, h2, h3⟩
end Go.Proofs.Ytcahemedlmagdaa
