/- The walk of FnExactTransferResume: the law returns true. -/
import Derived.Test.YthcgpidlgcfbbaaTrAck
import Derived.Test.YthcgpidlgcfbbaaMem
namespace Go.Proofs.Ythcgpidlgcfbbaa
open Go.RowKit
set_option linter.unusedVariables false
set_option linter.unusedSimpArgs false

set_option maxRecDepth 100000 in
set_option maxHeartbeats 2000000 in
theorem exactTransferResume_walk (v0 : Value) (zs0 : List Int) (n0 k0 : Int) (w : World) (hr0 : RInts w v0 zs0) (hw0 : ∀ n ∈ zs0, (Lit.int .i64 n).wf = true) (hn0 : -9223372036854775808 ≤ n0) (hn'0 : n0 ≤ 9223372036854775807) (hk0 : -9223372036854775808 ≤ k0) (hk'0 : k0 ≤ 9223372036854775807) :
    Calls Try.prog 8 #[trV v0 n0 k0] w fun e w' => e = .returned (.bool true) ∧ Below w.heap.size w w' := by
  obtain ⟨ad0, cap0, rfl, -, -, -⟩ := id hr0
  have HR0 := Lib.hid hr0; clear hr0 hw0
  unfold trV
  by_cases hl0 : (zs0.length : Int) ≤ 1048576
  · have hL0 : zs0.length ≤ 1048576 := by omega
    obtain ⟨T, hT⟩ : ∃ T, T = resL n0 k0 zs0 := ⟨_, rfl⟩
    have hTl : T.length ≤ 1048600 := by rw [hT]; exact Nat.le_trans (resL_len n0 k0 zs0) (by omega)
    have HT := Lib.hid hT; clear hT
    obtain ⟨N, hN⟩ : ∃ N, N = resN n0 k0 zs0 := ⟨_, rfl⟩
    have HN := Lib.hid hN; clear hN
    go_enter Try.func8, Try.ntmps8
    have c1 := bAl (Below.refl w.heap.size w) (.cells #[.slice ad0 zs0.length cap0, .int .i64 n0, .int .i64 k0] 24)
    have s1 := sAl w (.cells #[.slice ad0 zs0.length cap0, .int .i64 n0, .int .i64 k0] 24)
    have P0 := Blk.new w #[.slice ad0 zs0.length cap0, .int .i64 n0, .int .i64 k0] 24
    go_wp2_with fail
    have r2 := (HR0.out.bl c1)
    refine (szTransfer_any _ n0 k0 (1048576) zs0 _ (by omega) (by omega) r2).mono ?_
    rw [if_neg (by omega)]
    rintro e w3 ⟨rfl, b4⟩
    have c2 := bNext c1 b4
    have s5 := b4.size
    have d6 : decide (1048576 - (zs0.length : Int) < 0) = false := decide_eq_false (by omega)
    have r10 := (P0.bl b4)
    obtain ⟨x7, x8, x9⟩ := r10.get3
    go_wp2_with fail
    clear x7 x8 x9
    have r11 := (HR0.out.bl c2)
    refine (toTransfer_any _ n0 k0 zs0 _ (by omega) r11).mono ?_
    unfold trV
    rintro e w12 ⟨u13, rfl, o14, b15⟩
    obtain ⟨a16, q17, rfl, -, -, -⟩ := o14.reads
    have c3 := bNext c2 b15
    have s18 := b15.size
    have L19 := Lib.hid o14.lts
    go_wp2_with fail
    refine (specTransferResume_any _ n0 k0 zs0 _ _ (by omega) o14).mono ?_
    rw [← HT.out, ← HN.out]
    unfold trV
    rintro e w20 ⟨u22, rfl, o23, b21⟩
    obtain ⟨a24, q25, rfl, -, -, -⟩ := o23.reads
    have c4 := bNext c3 b21
    have s26 := b21.size
    have L27 := Lib.hid o23.lts
    have c5 := bAl c4 (.cells #[.slice a24 T.length q25, .int .i64 N, .int .i64 N] 27)
    have s28 := sAl w20 (.cells #[.slice a24 T.length q25, .int .i64 N, .int .i64 N] 27)
    have B29 := Blk.new w20 #[.slice a24 T.length q25, .int .i64 N, .int .i64 N] 27
    have r33 := (((r10.bl b15).bl b21).al (.cells #[.slice a24 T.length q25, .int .i64 N, .int .i64 N] 27))
    obtain ⟨x30, x31, x32⟩ := r33.get3
    go_wp2_with fail
    clear x30 x31 x32
    have r34 := (HR0.out.bl c5)
    refine (toTransfer_any _ n0 k0 zs0 _ (by omega) r34).mono ?_
    unfold trV
    rintro e w35 ⟨u36, rfl, o37, b38⟩
    obtain ⟨a39, q40, rfl, -, -, -⟩ := o37.reads
    have c6 := bNext c5 b38
    have s41 := b38.size
    have L42 := Lib.hid o37.lts
    have c7 := bAl c6 (.cells #[(.slice a39 zs0.length q40), .int .i64 n0, .int .i64 k0] 27)
    have s43 := sAl w35 (.cells #[(.slice a39 zs0.length q40), .int .i64 n0, .int .i64 k0] 27)
    have B44 := Blk.new w35 #[(.slice a39 zs0.length q40), .int .i64 n0, .int .i64 k0] 27
    obtain ⟨x45, x46, x47⟩ := B44.get3
    go_wp2_with fail
    clear x45 x46 x47
    have r48 := (o37.al (.cells #[(.slice a39 zs0.length q40), .int .i64 n0, .int .i64 k0] 27))
    refine (implTransferResume_any _ n0 k0 zs0 _ (by omega) r48.reads).mono ?_
    rw [← HT.out, ← HN.out]
    unfold trV
    rintro e w49 ⟨u51, rfl, o52, b50⟩
    obtain ⟨a53, q54, rfl, -, -, -⟩ := o52.reads
    have c8 := bNext c7 b50
    have s55 := b50.size
    have L56 := Lib.hid o52.lts
    have c9 := bAl c8 (.cells #[.slice a53 T.length q54, .int .i64 N, .int .i64 N] 27)
    have s57 := sAl w49 (.cells #[.slice a53 T.length q54, .int .i64 N, .int .i64 N] 27)
    have B58 := Blk.new w49 #[.slice a53 T.length q54, .int .i64 N, .int .i64 N] 27
    obtain ⟨x59, x60, x61⟩ := B58.get3
    have r65 := ((((B29.bl b38).al (.cells #[(.slice a39 zs0.length q40), .int .i64 n0, .int .i64 k0] 27)).bl b50).al (.cells #[.slice a53 T.length q54, .int .i64 N, .int .i64 N] 27))
    obtain ⟨x62, x63, x64⟩ := r65.get3
    go_wp2_with fail
    clear x59 x60 x61 x62 x63 x64
    have r67 := (o52.al (.cells #[.slice a53 T.length q54, .int .i64 N, .int .i64 N] 27))
    have r68 := (((((o23.al (.cells #[.slice a24 T.length q25, .int .i64 N, .int .i64 N] 27)).bl b38).al (.cells #[(.slice a39 zs0.length q40), .int .i64 n0, .int .i64 k0] 27)).bl b50).al (.cells #[.slice a53 T.length q54, .int .i64 N, .int .i64 N] 27))
    refine (eqTransfer_any _ _ N N T _ (by omega) r67.reads r68.reads).mono ?_
    rintro e w66 ⟨rfl, b69⟩
    have c10 := bNext c9 b69
    have s70 := b69.size
    have r72 := (((B44.bl b50).al (.cells #[.slice a53 T.length q54, .int .i64 N, .int .i64 N] 27)).bl b69)
    have r73 := (((((r33.bl b38).al (.cells #[(.slice a39 zs0.length q40), .int .i64 n0, .int .i64 k0] 27)).bl b50).al (.cells #[.slice a53 T.length q54, .int .i64 N, .int .i64 N] 27)).bl b69)
    have k71 := And.intro (r72.get3) (r73.get3)
    go_wp2_with fail
    have c11 := bD1 c10
    go_region_held3 (fun w' => (w'.cell? ⟨w35.heap.size, 0, none⟩ = some ((.slice a39 zs0.length q40)) ∧ w'.cell? ⟨w35.heap.size, 1, none⟩ = some (.int .i64 n0) ∧ w'.cell? ⟨w35.heap.size, 2, none⟩ = some (.int .i64 k0)) ∧ (w'.cell? ⟨w.heap.size, 0, none⟩ = some (.slice ad0 zs0.length cap0) ∧ w'.cell? ⟨w.heap.size, 1, none⟩ = some (.int .i64 n0) ∧ w'.cell? ⟨w.heap.size, 2, none⟩ = some (.int .i64 k0))) (first | exact k71 | exact k83 | exact k90) (first | (go_at_call 14; have r74 := (HR0.out.bl c11); refine (toTransfer_any _ n0 k0 zs0 _ (by omega) r74).mono ?_; unfold trV; rintro e w75 ⟨u76, rfl, o77, b78⟩; obtain ⟨a79, q80, rfl, -, -, -⟩ := o77.reads; have c12 := bNext c11 b78; have s81 := b78.size; have L82 := Lib.hid o77.lts; have r84 := (r72.d1.bl b78); have r85 := (r73.d1.bl b78); have k83 := And.intro (r84.get3) (r85.get3)) | (go_at_call 16; have r88 := ((((r48.bl b50).al (.cells #[.slice a53 T.length q54, .int .i64 N, .int .i64 N] 27)).bl b69).d1.bl b78); refine (eqTransfer_any _ _ n0 k0 zs0 _ (by omega) r88.reads o77.reads).mono ?_; rintro e w86 ⟨rfl, b87⟩; have c13 := bNext c12 b87; have s89 := b87.size; have r91 := (r84.bl b87); have r92 := (r85.bl b87); have k90 := And.intro (r91.get3) (r92.get3)))
    clear k71 k83 k90
    obtain ⟨x93, x94, x95⟩ := r91.get3
    go_wp2_with fail
    clear x93 x94 x95
    have r96 := (r88.bl b87)
    refine (markTransfer_any _ n0 k0 (1) zs0 _ _ (by omega) (by omega) (by omega) r96.any).mono ?_
    rintro e w97 ⟨rfl, o98, g99⟩
    have c14 := bGr c13 g99 (fun k h => by have e := L42.out k h; omega)
    have s100 := g99.size
    have d101 : decide (1 + (zs0.length : Int) < 0) = false := decide_eq_false (by omega)
    have r105 := ((((B58.bl b69).d1.bl b78).bl b87).gr g99 (fun k h => by have e := L42.out k h; omega))
    obtain ⟨x102, x103, x104⟩ := r105.get3
    have r109 := ((((r65.bl b69).d1.bl b78).bl b87).gr g99 (fun k h => by have e := L42.out k h; omega))
    obtain ⟨x106, x107, x108⟩ := r109.get3
    go_wp2_with fail
    clear x102 x103 x104 x106 x107 x108
    have r111 := ((((r67.bl b69).d1.bl b78).bl b87).gr g99 (ap_of fun k h1 h2 => by have e1 := L56.out k h1; have e2 := L42.out k h2; omega))
    have r112 := ((((r68.bl b69).d1.bl b78).bl b87).gr g99 (ap_of fun k h1 h2 => by have e1 := L27.out k h1; have e2 := L42.out k h2; omega))
    refine (eqTransfer_any _ _ N N T _ (by omega) r111.reads r112.reads).mono ?_
    rintro e w110 ⟨rfl, b113⟩
    have c15 := bNext c14 b113
    have s114 := b113.size
    have r118 := (r105.bl b113)
    obtain ⟨x115, x116, x117⟩ := r118.get3
    go_wp2_with fail
    clear x115 x116 x117
    have r119 := (r111.bl b113)
    refine (markTransfer_any _ N N (1) T _ _ (by omega) (by omega) (by omega) r119.any).mono ?_
    rintro e w120 ⟨rfl, o121, g122⟩
    have c16 := bGr c15 g122 (fun k h => by have e := L56.out k h; omega)
    have s123 := g122.size
    have r127 := (r118.gr g122 (fun k h => by have e := L56.out k h; omega))
    obtain ⟨x124, x125, x126⟩ := r127.get3
    go_wp2_with fail
    clear x124 x125 x126
    refine (heldTransfer_any _ N N (1) T.length _ (by omega) (by omega) (by omega) o121.reads).mono ?_
    rintro e w128 ⟨rfl, b129⟩
    have c17 := bNext c16 b129
    have s130 := b129.size
    have d131 : decide (1 + (T.length : Int) < 0) = false := decide_eq_false (by omega)
    have r135 := ((((r92.gr g99 (fun k h => by have e := L42.out k h; omega)).bl b113).gr g122 (fun k h => by have e := L56.out k h; omega)).bl b129)
    obtain ⟨x132, x133, x134⟩ := r135.get3
    go_wp2_with fail
    clear x132 x133 x134
    have r136 := (HR0.out.bl c17)
    refine (toTransfer_any _ n0 k0 zs0 _ (by omega) r136).mono ?_
    unfold trV
    rintro e w137 ⟨u138, rfl, o139, b140⟩
    obtain ⟨a141, q142, rfl, -, -, -⟩ := o139.reads
    have c18 := bNext c17 b140
    have s143 := b140.size
    have L144 := Lib.hid o139.lts
    go_wp2_with fail
    refine (implTransferResume_any _ n0 k0 zs0 _ (by omega) o139.reads).mono ?_
    rw [← HT.out, ← HN.out]
    unfold trV
    rintro e w145 ⟨u147, rfl, o148, b146⟩
    obtain ⟨a149, q150, rfl, -, -, -⟩ := o148.reads
    have c19 := bNext c18 b146
    have s151 := b146.size
    have L152 := Lib.hid o148.lts
    have c20 := bAl c19 (.cells #[.slice a149 T.length q150, .int .i64 N, .int .i64 N] 27)
    have s153 := sAl w145 (.cells #[.slice a149 T.length q150, .int .i64 N, .int .i64 N] 27)
    have B154 := Blk.new w145 #[.slice a149 T.length q150, .int .i64 N, .int .i64 N] 27
    obtain ⟨x155, x156, x157⟩ := B154.get3
    have r161 := ((((((r109.bl b113).gr g122 (fun k h => by have e := L56.out k h; omega)).bl b129).bl b140).bl b146).al (.cells #[.slice a149 T.length q150, .int .i64 N, .int .i64 N] 27))
    obtain ⟨x158, x159, x160⟩ := r161.get3
    go_wp2_with fail
    clear x155 x156 x157 x158 x159 x160
    have r163 := (o148.al (.cells #[.slice a149 T.length q150, .int .i64 N, .int .i64 N] 27))
    have r164 := ((((((r112.bl b113).gr g122 (ap_of fun k h1 h2 => by have e1 := L27.out k h1; have e2 := L56.out k h2; omega)).bl b129).bl b140).bl b146).al (.cells #[.slice a149 T.length q150, .int .i64 N, .int .i64 N] 27))
    refine (eqTransfer_any _ _ N N T _ (by omega) r163.reads r164.reads).mono ?_
    rintro e w162 ⟨rfl, b165⟩
    have c21 := bNext c20 b165
    have s166 := b165.size
    have r170 := (((((r127.bl b129).bl b140).bl b146).al (.cells #[.slice a149 T.length q150, .int .i64 N, .int .i64 N] 27)).bl b165)
    obtain ⟨x167, x168, x169⟩ := r170.get3
    go_wp2_with fail
    clear x167 x168 x169
    have r171 := (((((o121.bl b129).bl b140).bl b146).al (.cells #[.slice a149 T.length q150, .int .i64 N, .int .i64 N] 27)).bl b165)
    refine (heldTransfer_any _ N N (1) T.length _ (by omega) (by omega) (by omega) r171.reads).mono ?_
    rintro e w172 ⟨rfl, b173⟩
    have c22 := bNext c21 b173
    have s174 := b173.size
    have d175 : decide (1 + (T.length : Int) < 0) = false := decide_eq_false (by omega)
    go_wp2
    go_ret
    exact ⟨rfl, c22⟩
  · go_enter Try.func8, Try.ntmps8
    have c1 := bAl (Below.refl w.heap.size w) (.cells #[.slice ad0 zs0.length cap0, .int .i64 n0, .int .i64 k0] 24)
    have s1 := sAl w (.cells #[.slice ad0 zs0.length cap0, .int .i64 n0, .int .i64 k0] 24)
    have P0 := Blk.new w #[.slice ad0 zs0.length cap0, .int .i64 n0, .int .i64 k0] 24
    go_wp2_with fail
    have r2 := (HR0.out.bl c1)
    refine (szTransfer_any _ n0 k0 (1048576) zs0 _ (by omega) (by omega) r2).mono ?_
    rw [if_pos (by omega)]
    rintro e w3 ⟨rfl, b4⟩
    have c2 := bNext c1 b4
    have s5 := b4.size
    go_wp2
    go_ret
    exact ⟨rfl, c2⟩
end Go.Proofs.Ythcgpidlgcfbbaa
