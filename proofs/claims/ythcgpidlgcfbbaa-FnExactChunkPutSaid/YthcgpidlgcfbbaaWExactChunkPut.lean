/- The walk of FnExactChunkPut: the law returns true. -/
import Derived.Test.YthcgpidlgcfbbaaPutS
import Derived.Test.YthcgpidlgcfbbaaMem
namespace Go.Proofs.Ythcgpidlgcfbbaa
open Go.RowKit
set_option linter.unusedVariables false
set_option linter.unusedSimpArgs false

set_option maxRecDepth 100000 in
set_option maxHeartbeats 2000000 in
theorem exactChunkPut_walk (v0 : Value) (zs0 : List Int) (n1 : Int) (v1 : Value) (zs1 : List Int) (w : World) (hr0 : RInts w v0 zs0) (hw0 : ∀ n ∈ zs0, (Lit.int .i64 n).wf = true) (hn1 : -9223372036854775808 ≤ n1) (hn'1 : n1 ≤ 9223372036854775807) (hr1 : RInts w v1 zs1) (hw1 : ∀ n ∈ zs1, (Lit.int .i64 n).wf = true) :
    Calls Try.prog 9 #[v0, chV n1 v1] w fun e w' => e = .returned (.bool true) ∧ Below w.heap.size w w' := by
  obtain ⟨ad0, cap0, rfl, -, -, -⟩ := id hr0
  have HR0 := Lib.hid hr0; clear hr0 hw0
  obtain ⟨ad1, cap1, rfl, -, -, -⟩ := id hr1
  have HR1 := Lib.hid hr1; clear hr1 hw1
  unfold chV
  by_cases hl0 : zs0.length ≤ 1048576
  · have hl'0 : decide ((1048576 : Int) < zs0.length) = false := decide_eq_false (by omega)
    by_cases hl1 : (zs1.length : Int) ≤ 1048576
    · have hL1 : zs1.length ≤ 1048576 := by omega
      obtain ⟨T, hT⟩ : ∃ T, T = putL zs0 n1 zs1 := ⟨_, rfl⟩
      have hTl : T.length ≤ 2200000 := by rw [hT]; exact Nat.le_trans (putL_len zs0 n1 zs1) (by omega)
      have HT := Lib.hid hT; clear hT
      obtain ⟨ok, hok⟩ : ∃ ok, ok = putT zs0 n1 zs1 := ⟨_, rfl⟩
      have Hok := Lib.hid hok; clear hok
      go_enter Try.func9, Try.ntmps9
      have c1 := bAl (Below.refl w.heap.size w) (.cells #[.int .i64 n1, .slice ad1 zs1.length cap1] 46)
      have s1 := sAl w (.cells #[.int .i64 n1, .slice ad1 zs1.length cap1] 46)
      have P1 := Blk.new w #[.int .i64 n1, .slice ad1 zs1.length cap1] 46
      go_wp2_with fail
      have r2 := (HR1.out.bl c1)
      refine (szChunk_any _ n1 (1048576) zs1 _ (by omega) (by omega) r2).mono ?_
      rw [if_neg (by omega)]
      rintro e w3 ⟨rfl, b4⟩
      have c2 := bNext c1 b4
      have s5 := b4.size
      have d6 : decide (1048576 - (zs1.length : Int) < 0) = false := decide_eq_false (by omega)
      have r8 := (P1.bl b4)
      have k7 := r8.get2
      go_wp2_with fail
      have c3 := bD1 c2
      have s9 := sD1 w3
      go_region_held3 (fun w' => (w'.cell? ⟨w.heap.size, 0, none⟩ = some (.int .i64 n1) ∧ w'.cell? ⟨w.heap.size, 1, none⟩ = some (.slice ad1 zs1.length cap1))) (first | exact k7 | exact k17 | exact k28 | exact k37) (first | (go_at_call 22; have r10 := (HR0.out.bl c3); refine (toIntS_any _ zs0 _ (by omega) r10).mono ?_; rintro e w11 ⟨u12, rfl, o13, b14⟩; have c4 := bNext c3 b14; have s15 := b14.size; have L16 := Lib.hid o13.lts; have r18 := (r8.d1.bl b14); have k17 := r18.get2) | (go_at_call 34; have r19 := (HR1.out.bl c4); refine (toChunk_any _ n1 zs1 _ (by omega) r19).mono ?_; unfold chV; rintro e w20 ⟨u21, rfl, o22, b23⟩; obtain ⟨a24, q25, rfl, -, -, -⟩ := o22.reads; have c5 := bNext c4 b23; have s26 := b23.size; have L27 := Lib.hid o22.lts; have r29 := (r18.bl b23); have k28 := r29.get2) | (go_at_call 33; have r30 := (o13.bl b23); refine (specChunkPut_any _ zs0 _ n1 zs1 _ _ (by omega) (by omega) r30 o22.reads).mono ?_; rw [← HT.out, ← Hok.out]; rintro e w31 ⟨u33, rfl, o34, b32⟩; have c6 := bNext c5 b32; have s35 := b32.size; have L36 := Lib.hid o34.lts; have r38 := (r29.bl b32); have k37 := r38.get2))
      go_wp2_with fail
      have r39 := (HR0.out.bl c6)
      refine (toIntS_any _ zs0 _ (by omega) r39).mono ?_
      rintro e w40 ⟨u41, rfl, o42, b43⟩
      have c7 := bNext c6 b43
      have s44 := b43.size
      have L45 := Lib.hid o42.lts
      have r48 := (r38.bl b43)
      obtain ⟨x46, x47⟩ := r48.get2
      go_wp2_with fail
      clear x46 x47
      have r49 := (HR1.out.bl c7)
      refine (toChunk_any _ n1 zs1 _ (by omega) r49).mono ?_
      unfold chV
      rintro e w50 ⟨u51, rfl, o52, b53⟩
      obtain ⟨a54, q55, rfl, -, -, -⟩ := o52.reads
      have c8 := bNext c7 b53
      have s56 := b53.size
      have L57 := Lib.hid o52.lts
      have c9 := bAl c8 (.cells #[.int .i64 n1, (.slice a54 zs1.length q55)] 50)
      have s58 := sAl w50 (.cells #[.int .i64 n1, (.slice a54 zs1.length q55)] 50)
      have B59 := Blk.new w50 #[.int .i64 n1, (.slice a54 zs1.length q55)] 50
      obtain ⟨x60, x61⟩ := B59.get2
      go_wp2_with fail
      clear x60 x61
      have r62 := ((o42.bl b53).al (.cells #[.int .i64 n1, (.slice a54 zs1.length q55)] 50))
      have r63 := (o52.al (.cells #[.int .i64 n1, (.slice a54 zs1.length q55)] 50))
      refine (implChunkPut_any _ zs0 _ n1 zs1 _ (by omega) (by omega) r62.reads r63.reads).mono ?_
      rw [← HT.out, ← Hok.out]
      rintro e w64 ⟨u66, rfl, o67, b65⟩
      have c10 := bNext c9 b65
      have s68 := b65.size
      have L69 := Lib.hid o67.lts
      go_wp2_with fail
      have r71 := ((((o34.bl b43).bl b53).al (.cells #[.int .i64 n1, (.slice a54 zs1.length q55)] 50)).bl b65)
      refine (eqIntS_same _ _ T _ (by omega) o67.reads r71.reads).mono ?_
      rintro e w70 ⟨rfl, n72, rfl⟩
      have c11 := bDr c10 n72
      have s73 := sDr w64 n72
      go_wp2_with fail
      have r74 := (HR0.out.bl c11)
      refine (toIntS_any _ zs0 _ (by omega) r74).mono ?_
      rintro e w75 ⟨u76, rfl, o77, b78⟩
      have c12 := bNext c11 b78
      have s79 := b78.size
      have L80 := Lib.hid o77.lts
      go_wp2_with fail
      have r82 := (((r62.bl b65).dr n72).bl b78)
      refine (eqIntS_same _ _ zs0 _ (by omega) r82.reads o77.reads).mono ?_
      rintro e w81 ⟨rfl, n83, rfl⟩
      have c13 := bDr c12 n83
      have s84 := sDr w75 n83
      have r86 := ((((B59.bl b65).dr n72).bl b78).dr n83)
      have r87 := ((((((r48.bl b53).al (.cells #[.int .i64 n1, (.slice a54 zs1.length q55)] 50)).bl b65).dr n72).bl b78).dr n83)
      have k85 := And.intro (r86.get2) (r87.get2)
      go_wp2_with fail
      have c14 := bD1 c13
      have s88 := sD1 (w75.drewN n83)
      go_region_held3 (fun w' => (w'.cell? ⟨w50.heap.size, 0, none⟩ = some (.int .i64 n1) ∧ w'.cell? ⟨w50.heap.size, 1, none⟩ = some ((.slice a54 zs1.length q55))) ∧ (w'.cell? ⟨w.heap.size, 0, none⟩ = some (.int .i64 n1) ∧ w'.cell? ⟨w.heap.size, 1, none⟩ = some (.slice ad1 zs1.length cap1))) (first | exact k85 | exact k98 | exact k105) (first | (go_at_call 34; have r89 := (HR1.out.bl c14); refine (toChunk_any _ n1 zs1 _ (by omega) r89).mono ?_; unfold chV; rintro e w90 ⟨u91, rfl, o92, b93⟩; obtain ⟨a94, q95, rfl, -, -, -⟩ := o92.reads; have c15 := bNext c14 b93; have s96 := b93.size; have L97 := Lib.hid o92.lts; have r99 := (r86.d1.bl b93); have r100 := (r87.d1.bl b93); have k98 := And.intro (r99.get2) (r100.get2)) | (go_at_call 36; have r103 := (((((r63.bl b65).dr n72).bl b78).dr n83).d1.bl b93); refine (eqChunk_any _ _ n1 zs1 _ (by omega) r103.reads o92.reads).mono ?_; rintro e w101 ⟨rfl, b102⟩; have c16 := bNext c15 b102; have s104 := b102.size; have r106 := (r99.bl b102); have r107 := (r100.bl b102); have k105 := And.intro (r106.get2) (r107.get2)))
      clear k85 k98 k105
      go_wp2_with fail
      have r108 := (((r82.dr n83).d1.bl b93).bl b102)
      refine (markIntS_any _ zs0 (1) _ _ (by omega) (by omega) (by omega) r108.any).mono ?_
      rintro e w109 ⟨rfl, o110, g111⟩
      have c17 := bGr c16 g111 (fun k h => by have e := L45.out k h; omega)
      have s112 := g111.size
      have r115 := (r106.gr g111 (fun k h => by have e := L45.out k h; omega))
      obtain ⟨x113, x114⟩ := r115.get2
      go_wp2_with fail
      clear x113 x114
      have r116 := ((r103.bl b102).gr g111 (ap_of fun k h1 h2 => by have e1 := L57.out k h1; have e2 := L45.out k h2; omega))
      refine (markChunk_any _ n1 (1 + (zs0.length : Int)) zs1 _ _ (by omega) (by omega) (by omega) r116.any).mono ?_
      rintro e w117 ⟨rfl, o118, g119⟩
      have c18 := bGr c17 g119 (fun k h => by have e := L57.out k h; omega)
      have s120 := g119.size
      have d121 : decide (1 + (zs0.length : Int) + (zs1.length : Int) < 0) = false := decide_eq_false (by omega)
      go_wp2_with fail
      have r123 := (((((((o67.dr n72).bl b78).dr n83).d1.bl b93).bl b102).gr g111 (ap_of fun k h1 h2 => by have e1 := L69.out k h1; have e2 := L45.out k h2; omega)).gr g119 (ap_of fun k h1 h2 => by have e1 := L69.out k h1; have e2 := L57.out k h2; omega))
      have r124 := (((((((r71.dr n72).bl b78).dr n83).d1.bl b93).bl b102).gr g111 (ap_of fun k h1 h2 => by have e1 := L36.out k h1; have e2 := L45.out k h2; omega)).gr g119 (ap_of fun k h1 h2 => by have e1 := L36.out k h1; have e2 := L57.out k h2; omega))
      refine (eqIntS_same _ _ T _ (by omega) r123.reads r124.reads).mono ?_
      rintro e w122 ⟨rfl, n125, rfl⟩
      have c19 := bDr c18 n125
      have s126 := sDr w117 n125
      go_wp2_with fail
      have r127 := (r123.dr n125)
      refine (markIntS_any _ T (1) _ _ (by omega) (by omega) (by omega) r127.any).mono ?_
      rintro e w128 ⟨rfl, o129, g130⟩
      have c20 := bGr c19 g130 (fun k h => by have e := L69.out k h; omega)
      have s131 := g130.size
      go_wp2_with fail
      refine (heldIntS_up _ (1) T.length _ (by omega) (by omega) (by omega) o129.reads).mono ?_
      rintro e w132 ⟨rfl, rfl⟩
      have d133 : decide (1 + (T.length : Int) < 0) = false := decide_eq_false (by omega)
      have r135 := ((((r107.gr g111 (fun k h => by have e := L45.out k h; omega)).gr g119 (fun k h => by have e := L57.out k h; omega)).dr n125).gr g130 (fun k h => by have e := L69.out k h; omega))
      have k134 := r135.get2
      go_wp2_with fail
      have c21 := bD1 c20
      have s136 := sD1 w128
      go_region_held3 (fun w' => (w'.cell? ⟨w.heap.size, 0, none⟩ = some (.int .i64 n1) ∧ w'.cell? ⟨w.heap.size, 1, none⟩ = some (.slice ad1 zs1.length cap1))) (first | exact k134 | exact k144 | exact k155 | exact k164) (first | (go_at_call 22; have r137 := (HR0.out.bl c21); refine (toIntS_any _ zs0 _ (by omega) r137).mono ?_; rintro e w138 ⟨u139, rfl, o140, b141⟩; have c22 := bNext c21 b141; have s142 := b141.size; have L143 := Lib.hid o140.lts; have r145 := (r135.d1.bl b141); have k144 := r145.get2) | (go_at_call 34; have r146 := (HR1.out.bl c22); refine (toChunk_any _ n1 zs1 _ (by omega) r146).mono ?_; unfold chV; rintro e w147 ⟨u148, rfl, o149, b150⟩; obtain ⟨a151, q152, rfl, -, -, -⟩ := o149.reads; have c23 := bNext c22 b150; have s153 := b150.size; have L154 := Lib.hid o149.lts; have r156 := (r145.bl b150); have k155 := r156.get2) | (go_at_call 35; have r157 := (o140.bl b150); refine (implChunkPut_any _ zs0 _ n1 zs1 _ (by omega) (by omega) r157.reads o149.reads).mono ?_; rw [← HT.out, ← Hok.out]; rintro e w158 ⟨u160, rfl, o161, b159⟩; have c24 := bNext c23 b159; have s162 := b159.size; have L163 := Lib.hid o161.lts; have r165 := (r156.bl b159); have k164 := r165.get2))
      go_wp2_with fail
      have r167 := (((((r124.dr n125).gr g130 (ap_of fun k h1 h2 => by have e1 := L36.out k h1; have e2 := L69.out k h2; omega)).d1.bl b141).bl b150).bl b159)
      refine (eqIntS_same _ _ T _ (by omega) o161.reads r167.reads).mono ?_
      rintro e w166 ⟨rfl, n168, rfl⟩
      have c25 := bDr c24 n168
      have s169 := sDr w158 n168
      go_wp2_with fail
      have r170 := ((((o129.d1.bl b141).bl b150).bl b159).dr n168)
      refine (heldIntS_up _ (1) T.length _ (by omega) (by omega) (by omega) r170.reads).mono ?_
      rintro e w171 ⟨rfl, rfl⟩
      have d172 : decide (1 + (T.length : Int) < 0) = false := decide_eq_false (by omega)
      go_wp2
      go_ret
      exact ⟨rfl, c25⟩
    · go_enter Try.func9, Try.ntmps9
      have c1 := bAl (Below.refl w.heap.size w) (.cells #[.int .i64 n1, .slice ad1 zs1.length cap1] 46)
      have s1 := sAl w (.cells #[.int .i64 n1, .slice ad1 zs1.length cap1] 46)
      have P1 := Blk.new w #[.int .i64 n1, .slice ad1 zs1.length cap1] 46
      go_wp2_with fail
      have r2 := (HR1.out.bl c1)
      refine (szChunk_any _ n1 (1048576) zs1 _ (by omega) (by omega) r2).mono ?_
      rw [if_pos (by omega)]
      rintro e w3 ⟨rfl, b4⟩
      have c2 := bNext c1 b4
      have s5 := b4.size
      go_wp2
      go_ret
      exact ⟨rfl, c2⟩
  · have hl' : decide ((1048576 : Int) < zs0.length) = true := decide_eq_true (by omega)
    go_enter Try.func9, Try.ntmps9
    have c1 := bAl (Below.refl w.heap.size w) (.cells #[.int .i64 n1, .slice ad1 zs1.length cap1] 46)
    have s1 := sAl w (.cells #[.int .i64 n1, .slice ad1 zs1.length cap1] 46)
    have P1 := Blk.new w #[.int .i64 n1, .slice ad1 zs1.length cap1] 46
    go_wp2
    go_ret
    exact ⟨rfl, c1⟩
end Go.Proofs.Ythcgpidlgcfbbaa
