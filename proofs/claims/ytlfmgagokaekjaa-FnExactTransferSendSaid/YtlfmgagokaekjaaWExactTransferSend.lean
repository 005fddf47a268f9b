/- The walk of FnExactTransferSend: the law returns true. -/
import Derived.Test.YtlfmgagokaekjaaSendI
import Derived.Test.YtlfmgagokaekjaaChkHeld
import Derived.Test.YtlfmgagokaekjaaMem
namespace Go.Proofs.Ytlfmgagokaekjaa
open Go.RowKit
set_option linter.unusedVariables false
set_option linter.unusedSimpArgs false

set_option maxRecDepth 100000 in
set_option maxHeartbeats 2000000 in
theorem exactTransferSend_walk (v0 : Value) (zs0 : List Int) (n0 k0 : Int) (a1 : Int) (w : World) (hr0 : RInts w v0 zs0) (hw0 : ∀ n ∈ zs0, (Lit.int .i64 n).wf = true) (hn0 : -9223372036854775808 ≤ n0) (hn'0 : n0 ≤ 9223372036854775807) (hk0 : -9223372036854775808 ≤ k0) (hk'0 : k0 ≤ 9223372036854775807) (ha1 : -9223372036854775808 ≤ a1) (hb1 : a1 ≤ 9223372036854775807) :
    Calls Try.prog 12 #[trV v0 n0 k0, .int .i64 a1] w fun e w' => e = .returned (.bool true) ∧ Below w.heap.size w w' := by
  obtain ⟨ad0, cap0, rfl, -, -, -⟩ := id hr0
  have HR0 := Lib.hid hr0; clear hr0 hw0
  unfold trV
  by_cases hl0 : (zs0.length : Int) ≤ 1048576
  · have hL0 : zs0.length ≤ 1048576 := by omega
    obtain ⟨T, hT⟩ : ∃ T, T = sendL n0 k0 a1 zs0 := ⟨_, rfl⟩
    have hTl : T.length ≤ 2200000 := by rw [hT]; exact Nat.le_trans (sendL_len n0 k0 a1 zs0) (by omega)
    have HT := Lib.hid hT; clear hT
    obtain ⟨N, hN⟩ : ∃ N, N = sendN n0 k0 a1 zs0 := ⟨_, rfl⟩
    have HN := Lib.hid hN; clear hN
    obtain ⟨K, hK⟩ : ∃ K, K = sendK n0 k0 a1 zs0 := ⟨_, rfl⟩
    have HK := Lib.hid hK; clear hK
    obtain ⟨A, hA⟩ : ∃ A, A = sendA n0 k0 a1 zs0 := ⟨_, rfl⟩
    have HA := Lib.hid hA; clear hA
    obtain ⟨U, hU⟩ : ∃ U, U = sendC n0 k0 a1 zs0 := ⟨_, rfl⟩
    have hUl : U.length ≤ 2200000 := by rw [hU]; exact Nat.le_trans (sendC_len n0 k0 a1 zs0) (by omega)
    have HU := Lib.hid hU; clear hU
    obtain ⟨ok, hok⟩ : ∃ ok, ok = sendB n0 k0 a1 zs0 := ⟨_, rfl⟩
    have Hok := Lib.hid hok; clear hok
    go_enter Try.func12, Try.ntmps12
    have c1 := bAl (Below.refl w.heap.size w) (.cells #[.slice ad0 zs0.length cap0, .int .i64 n0, .int .i64 k0] 47)
    have s1 := sAl w (.cells #[.slice ad0 zs0.length cap0, .int .i64 n0, .int .i64 k0] 47)
    have P0 := Blk.new w #[.slice ad0 zs0.length cap0, .int .i64 n0, .int .i64 k0] 47
    go_wp2_with fail
    have r2 := (HR0.out.bl c1)
    refine (szTransfer_any _ n0 k0 (1048576) zs0 _ (by omega) (by omega) r2).mono ?_
    rw [if_neg (by omega)]
    rintro e w3 ⟨rfl, b4⟩
    have c2 := bNext c1 b4
    have s5 := b4.size
    have d6 : decide (1048576 - (zs0.length : Int) < 0) = false := decide_eq_false (by omega)
    have r10 := (P0.bl b4)
    obtain ⟨x7, x8, x9⟩ := r10.get3
    go_wp2_with fail
    clear x7 x8 x9
    have r11 := (HR0.out.bl c2)
    refine (toTransfer_any _ n0 k0 zs0 _ (by omega) r11).mono ?_
    unfold trV
    rintro e w12 ⟨u13, rfl, o14, b15⟩
    obtain ⟨a16, q17, rfl, -, -, -⟩ := o14.reads
    have c3 := bNext c2 b15
    have s18 := b15.size
    have L19 := Lib.hid o14.lts
    go_wp2_with fail
    refine (specTransferSend_any _ n0 k0 a1 zs0 _ _ (by omega) o14).mono ?_
    rw [← HT.out, ← HN.out, ← HK.out, ← HA.out, ← HU.out, ← Hok.out]
    unfold chV trV
    rintro e w20 ⟨u22, u23, rfl, o24, o25, b21⟩
    obtain ⟨a26, q27, rfl, -, -, -⟩ := o24.reads
    obtain ⟨a28, q29, rfl, -, -, -⟩ := o25.reads
    have c4 := bNext c3 b21
    have s30 := b21.size
    have L31 := Lib.hid o24.lts
    have L32 := Lib.hid o25.lts
    have c5 := bAl c4 (.cells #[.slice a26 T.length q27, .int .i64 N, .int .i64 K] 33)
    have s33 := sAl w20 (.cells #[.slice a26 T.length q27, .int .i64 N, .int .i64 K] 33)
    have B34 := Blk.new w20 #[.slice a26 T.length q27, .int .i64 N, .int .i64 K] 33
    have c6 := bAl c5 (.cells #[.int .i64 A, .slice a28 U.length q29] 25)
    have s35 := sAl (w20.alloc (.cells #[.slice a26 T.length q27, .int .i64 N, .int .i64 K] 33)) (.cells #[.int .i64 A, .slice a28 U.length q29] 25)
    have B36 := Blk.new (w20.alloc (.cells #[.slice a26 T.length q27, .int .i64 N, .int .i64 K] 33)) #[.int .i64 A, .slice a28 U.length q29] 25
    simp only [World.size_alloc] at B36
    have r40 := ((((r10.bl b15).bl b21).al (.cells #[.slice a26 T.length q27, .int .i64 N, .int .i64 K] 33)).al (.cells #[.int .i64 A, .slice a28 U.length q29] 25))
    obtain ⟨x37, x38, x39⟩ := r40.get3
    go_wp2_with fail
    clear x37 x38 x39
    have r41 := (HR0.out.bl c6)
    refine (toTransfer_any _ n0 k0 zs0 _ (by omega) r41).mono ?_
    unfold trV
    rintro e w42 ⟨u43, rfl, o44, b45⟩
    obtain ⟨a46, q47, rfl, -, -, -⟩ := o44.reads
    have c7 := bNext c6 b45
    have s48 := b45.size
    have L49 := Lib.hid o44.lts
    have c8 := bAl c7 (.cells #[(.slice a46 zs0.length q47), .int .i64 n0, .int .i64 k0] 33)
    have s50 := sAl w42 (.cells #[(.slice a46 zs0.length q47), .int .i64 n0, .int .i64 k0] 33)
    have B51 := Blk.new w42 #[(.slice a46 zs0.length q47), .int .i64 n0, .int .i64 k0] 33
    obtain ⟨x52, x53, x54⟩ := B51.get3
    go_wp2_with fail
    clear x52 x53 x54
    have r55 := (o44.al (.cells #[(.slice a46 zs0.length q47), .int .i64 n0, .int .i64 k0] 33))
    refine (implTransferSend_ap _ n0 k0 a1 zs0 _ (by omega) r55.reads).mono ?_
    rw [← HT.out, ← HN.out, ← HK.out, ← HA.out, ← HU.out, ← Hok.out]
    unfold chV trV
    rintro e w56 ⟨u58, u59, rfl, o60, o61, b57, ap62⟩
    obtain ⟨a63, q64, rfl, -, -, -⟩ := o60.reads
    obtain ⟨a65, q66, rfl, -, -, -⟩ := o61.reads
    have Hap62 := Lib.hid ap62; clear ap62
    have c9 := bNext c8 b57
    have s67 := b57.size
    have L68 := Lib.hid o60.lts
    have L69 := Lib.hid o61.lts
    have c10 := bAl c9 (.cells #[.slice a63 T.length q64, .int .i64 N, .int .i64 K] 33)
    have s70 := sAl w56 (.cells #[.slice a63 T.length q64, .int .i64 N, .int .i64 K] 33)
    have B71 := Blk.new w56 #[.slice a63 T.length q64, .int .i64 N, .int .i64 K] 33
    have c11 := bAl c10 (.cells #[.int .i64 A, .slice a65 U.length q66] 25)
    have s72 := sAl (w56.alloc (.cells #[.slice a63 T.length q64, .int .i64 N, .int .i64 K] 33)) (.cells #[.int .i64 A, .slice a65 U.length q66] 25)
    have B73 := Blk.new (w56.alloc (.cells #[.slice a63 T.length q64, .int .i64 N, .int .i64 K] 33)) #[.int .i64 A, .slice a65 U.length q66] 25
    simp only [World.size_alloc] at B73
    have r77 := (B71.al (.cells #[.int .i64 A, .slice a65 U.length q66] 25))
    obtain ⟨x74, x75, x76⟩ := r77.get3
    have r81 := ((((((B34.al (.cells #[.int .i64 A, .slice a28 U.length q29] 25)).bl b45).al (.cells #[(.slice a46 zs0.length q47), .int .i64 n0, .int .i64 k0] 33)).bl b57).al (.cells #[.slice a63 T.length q64, .int .i64 N, .int .i64 K] 33)).al (.cells #[.int .i64 A, .slice a65 U.length q66] 25))
    obtain ⟨x78, x79, x80⟩ := r81.get3
    go_wp2_with fail
    clear x74 x75 x76 x78 x79 x80
    have r83 := ((o60.al (.cells #[.slice a63 T.length q64, .int .i64 N, .int .i64 K] 33)).al (.cells #[.int .i64 A, .slice a65 U.length q66] 25))
    have r84 := (((((((o24.al (.cells #[.slice a26 T.length q27, .int .i64 N, .int .i64 K] 33)).al (.cells #[.int .i64 A, .slice a28 U.length q29] 25)).bl b45).al (.cells #[(.slice a46 zs0.length q47), .int .i64 n0, .int .i64 k0] 33)).bl b57).al (.cells #[.slice a63 T.length q64, .int .i64 N, .int .i64 K] 33)).al (.cells #[.int .i64 A, .slice a65 U.length q66] 25))
    refine (eqTransfer_any _ _ N K T _ (by omega) r83.reads r84.reads).mono ?_
    rintro e w82 ⟨rfl, b85⟩
    have c12 := bNext c11 b85
    have s86 := b85.size
    have r89 := (B73.bl b85)
    obtain ⟨x87, x88⟩ := r89.get2
    have r92 := ((((((B36.bl b45).al (.cells #[(.slice a46 zs0.length q47), .int .i64 n0, .int .i64 k0] 33)).bl b57).al (.cells #[.slice a63 T.length q64, .int .i64 N, .int .i64 K] 33)).al (.cells #[.int .i64 A, .slice a65 U.length q66] 25)).bl b85)
    obtain ⟨x90, x91⟩ := r92.get2
    go_wp2_with fail
    clear x87 x88 x90 x91
    have r94 := (((o61.al (.cells #[.slice a63 T.length q64, .int .i64 N, .int .i64 K] 33)).al (.cells #[.int .i64 A, .slice a65 U.length q66] 25)).bl b85)
    have r95 := ((((((((o25.al (.cells #[.slice a26 T.length q27, .int .i64 N, .int .i64 K] 33)).al (.cells #[.int .i64 A, .slice a28 U.length q29] 25)).bl b45).al (.cells #[(.slice a46 zs0.length q47), .int .i64 n0, .int .i64 k0] 33)).bl b57).al (.cells #[.slice a63 T.length q64, .int .i64 N, .int .i64 K] 33)).al (.cells #[.int .i64 A, .slice a65 U.length q66] 25)).bl b85)
    refine (eqChunk_any _ _ A U _ (by omega) r94.reads r95.reads).mono ?_
    rintro e w93 ⟨rfl, b96⟩
    have c13 := bNext c12 b96
    have s97 := b96.size
    have r99 := (((((B51.bl b57).al (.cells #[.slice a63 T.length q64, .int .i64 N, .int .i64 K] 33)).al (.cells #[.int .i64 A, .slice a65 U.length q66] 25)).bl b85).bl b96)
    have r100 := (((((((r40.bl b45).al (.cells #[(.slice a46 zs0.length q47), .int .i64 n0, .int .i64 k0] 33)).bl b57).al (.cells #[.slice a63 T.length q64, .int .i64 N, .int .i64 K] 33)).al (.cells #[.int .i64 A, .slice a65 U.length q66] 25)).bl b85).bl b96)
    have k98 := And.intro (r99.get3) (r100.get3)
    go_wp2_with fail
    have c14 := bD1 c13
    have s101 := sD1 w93
    go_region_held3 (fun w' => (w'.cell? ⟨w42.heap.size, 0, none⟩ = some ((.slice a46 zs0.length q47)) ∧ w'.cell? ⟨w42.heap.size, 1, none⟩ = some (.int .i64 n0) ∧ w'.cell? ⟨w42.heap.size, 2, none⟩ = some (.int .i64 k0)) ∧ (w'.cell? ⟨w.heap.size, 0, none⟩ = some (.slice ad0 zs0.length cap0) ∧ w'.cell? ⟨w.heap.size, 1, none⟩ = some (.int .i64 n0) ∧ w'.cell? ⟨w.heap.size, 2, none⟩ = some (.int .i64 k0))) (first | exact k98 | exact k111 | exact k118) (first | (go_at_call 32; have r102 := (HR0.out.bl c14); refine (toTransfer_any _ n0 k0 zs0 _ (by omega) r102).mono ?_; unfold trV; rintro e w103 ⟨u104, rfl, o105, b106⟩; obtain ⟨a107, q108, rfl, -, -, -⟩ := o105.reads; have c15 := bNext c14 b106; have s109 := b106.size; have L110 := Lib.hid o105.lts; have r112 := (r99.d1.bl b106); have r113 := (r100.d1.bl b106); have k111 := And.intro (r112.get3) (r113.get3)) | (go_at_call 33; have r116 := ((((((r55.bl b57).al (.cells #[.slice a63 T.length q64, .int .i64 N, .int .i64 K] 33)).al (.cells #[.int .i64 A, .slice a65 U.length q66] 25)).bl b85).bl b96).d1.bl b106); refine (eqTransfer_any _ _ n0 k0 zs0 _ (by omega) r116.reads o105.reads).mono ?_; rintro e w114 ⟨rfl, b115⟩; have c16 := bNext c15 b115; have s117 := b115.size; have r119 := (r112.bl b115); have r120 := (r113.bl b115); have k118 := And.intro (r119.get3) (r120.get3)))
    clear k98 k111 k118
    obtain ⟨x121, x122, x123⟩ := r119.get3
    go_wp2_with fail
    clear x121 x122 x123
    have r124 := (r116.bl b115)
    refine (markTransfer_any _ n0 k0 (1) zs0 _ _ (by omega) (by omega) (by omega) r124.any).mono ?_
    rintro e w125 ⟨rfl, o126, g127⟩
    have c17 := bGr c16 g127 (fun k h => by have e := L49.out k h; omega)
    have s128 := g127.size
    have d129 : decide (1 + (zs0.length : Int) < 0) = false := decide_eq_false (by omega)
    have r133 := (((((r77.bl b85).bl b96).d1.bl b106).bl b115).gr g127 (fun k h => by have e := L49.out k h; omega))
    obtain ⟨x130, x131, x132⟩ := r133.get3
    have r137 := (((((r81.bl b85).bl b96).d1.bl b106).bl b115).gr g127 (fun k h => by have e := L49.out k h; omega))
    obtain ⟨x134, x135, x136⟩ := r137.get3
    go_wp2_with fail
    clear x130 x131 x132 x134 x135 x136
    have r139 := (((((r83.bl b85).bl b96).d1.bl b106).bl b115).gr g127 (ap_of fun k h1 h2 => by have e1 := L68.out k h1; have e2 := L49.out k h2; omega))
    have r140 := (((((r84.bl b85).bl b96).d1.bl b106).bl b115).gr g127 (ap_of fun k h1 h2 => by have e1 := L31.out k h1; have e2 := L49.out k h2; omega))
    refine (eqTransfer_any _ _ N K T _ (by omega) r139.reads r140.reads).mono ?_
    rintro e w138 ⟨rfl, b141⟩
    have c18 := bNext c17 b141
    have s142 := b141.size
    have r145 := (((((r89.bl b96).d1.bl b106).bl b115).gr g127 (fun k h => by have e := L49.out k h; omega)).bl b141)
    obtain ⟨x143, x144⟩ := r145.get2
    have r148 := (((((r92.bl b96).d1.bl b106).bl b115).gr g127 (fun k h => by have e := L49.out k h; omega)).bl b141)
    obtain ⟨x146, x147⟩ := r148.get2
    go_wp2_with fail
    clear x143 x144 x146 x147
    have r150 := (((((r94.bl b96).d1.bl b106).bl b115).gr g127 (ap_of fun k h1 h2 => by have e1 := L69.out k h1; have e2 := L49.out k h2; omega)).bl b141)
    have r151 := (((((r95.bl b96).d1.bl b106).bl b115).gr g127 (ap_of fun k h1 h2 => by have e1 := L32.out k h1; have e2 := L49.out k h2; omega)).bl b141)
    refine (eqChunk_any _ _ A U _ (by omega) r150.reads r151.reads).mono ?_
    rintro e w149 ⟨rfl, b152⟩
    have c19 := bNext c18 b152
    have s153 := b152.size
    have r157 := ((r133.bl b141).bl b152)
    obtain ⟨x154, x155, x156⟩ := r157.get3
    go_wp2_with fail
    clear x154 x155 x156
    have r158 := ((r139.bl b141).bl b152)
    refine (markTransfer_any _ N K (1) T _ _ (by omega) (by omega) (by omega) r158.any).mono ?_
    rintro e w159 ⟨rfl, o160, g161⟩
    have c20 := bGr c19 g161 (fun k h => by have e := L68.out k h; omega)
    have s162 := g161.size
    have r165 := ((r145.bl b152).gr g161 (fun k h => by have e := L68.out k h; omega))
    obtain ⟨x163, x164⟩ := r165.get2
    go_wp2_with fail
    clear x163 x164
    have r166 := ((r150.bl b152).gr g161 (ap_of fun k h1 h2 => Hap62.out k h2 h1))
    refine (markChunk_any _ A (1 + (T.length : Int)) U _ _ (by omega) (by omega) (by omega) r166.any).mono ?_
    rintro e w167 ⟨rfl, o168, g169⟩
    have c21 := bGr c20 g169 (fun k h => by have e := L69.out k h; omega)
    have s170 := g169.size
    have r174 := ((r157.gr g161 (fun k h => by have e := L68.out k h; omega)).gr g169 (fun k h => by have e := L69.out k h; omega))
    obtain ⟨x171, x172, x173⟩ := r174.get3
    go_wp2_with fail
    clear x171 x172 x173
    have r175 := (o160.gr g169 (ap_of fun k h1 h2 => Hap62.out k h1 h2))
    refine (heldTransfer_any _ N K (1) T.length _ (by omega) (by omega) (by omega) r175.reads).mono ?_
    rintro e w176 ⟨rfl, b177⟩
    have c22 := bNext c21 b177
    have s178 := b177.size
    have d179 : decide (1 + (T.length : Int) < 0) = false := decide_eq_false (by omega)
    have r182 := ((r165.gr g169 (fun k h => by have e := L69.out k h; omega)).bl b177)
    obtain ⟨x180, x181⟩ := r182.get2
    go_wp2_with fail
    clear x180 x181
    have r183 := (o168.bl b177)
    refine (heldChunk_any _ A (1 + (T.length : Int)) U.length _ (by omega) (by omega) (by omega) r183.reads).mono ?_
    rintro e w184 ⟨rfl, b185⟩
    have c23 := bNext c22 b185
    have s186 := b185.size
    have d187 : decide (1 + (T.length : Int) + (U.length : Int) < 0) = false := decide_eq_false (by omega)
    have r191 := (((((((r120.gr g127 (fun k h => by have e := L49.out k h; omega)).bl b141).bl b152).gr g161 (fun k h => by have e := L68.out k h; omega)).gr g169 (fun k h => by have e := L69.out k h; omega)).bl b177).bl b185)
    obtain ⟨x188, x189, x190⟩ := r191.get3
    go_wp2_with fail
    clear x188 x189 x190
    have r192 := (HR0.out.bl c23)
    refine (toTransfer_any _ n0 k0 zs0 _ (by omega) r192).mono ?_
    unfold trV
    rintro e w193 ⟨u194, rfl, o195, b196⟩
    obtain ⟨a197, q198, rfl, -, -, -⟩ := o195.reads
    have c24 := bNext c23 b196
    have s199 := b196.size
    have L200 := Lib.hid o195.lts
    go_wp2_with fail
    refine (implTransferSend_ap _ n0 k0 a1 zs0 _ (by omega) o195.reads).mono ?_
    rw [← HT.out, ← HN.out, ← HK.out, ← HA.out, ← HU.out, ← Hok.out]
    unfold chV trV
    rintro e w201 ⟨u203, u204, rfl, o205, o206, b202, ap207⟩
    obtain ⟨a208, q209, rfl, -, -, -⟩ := o205.reads
    obtain ⟨a210, q211, rfl, -, -, -⟩ := o206.reads
    have Hap207 := Lib.hid ap207; clear ap207
    have c25 := bNext c24 b202
    have s212 := b202.size
    have L213 := Lib.hid o205.lts
    have L214 := Lib.hid o206.lts
    have c26 := bAl c25 (.cells #[.slice a208 T.length q209, .int .i64 N, .int .i64 K] 33)
    have s215 := sAl w201 (.cells #[.slice a208 T.length q209, .int .i64 N, .int .i64 K] 33)
    have B216 := Blk.new w201 #[.slice a208 T.length q209, .int .i64 N, .int .i64 K] 33
    have c27 := bAl c26 (.cells #[.int .i64 A, .slice a210 U.length q211] 25)
    have s217 := sAl (w201.alloc (.cells #[.slice a208 T.length q209, .int .i64 N, .int .i64 K] 33)) (.cells #[.int .i64 A, .slice a210 U.length q211] 25)
    have B218 := Blk.new (w201.alloc (.cells #[.slice a208 T.length q209, .int .i64 N, .int .i64 K] 33)) #[.int .i64 A, .slice a210 U.length q211] 25
    simp only [World.size_alloc] at B218
    have r222 := (B216.al (.cells #[.int .i64 A, .slice a210 U.length q211] 25))
    obtain ⟨x219, x220, x221⟩ := r222.get3
    have r226 := ((((((((((r137.bl b141).bl b152).gr g161 (fun k h => by have e := L68.out k h; omega)).gr g169 (fun k h => by have e := L69.out k h; omega)).bl b177).bl b185).bl b196).bl b202).al (.cells #[.slice a208 T.length q209, .int .i64 N, .int .i64 K] 33)).al (.cells #[.int .i64 A, .slice a210 U.length q211] 25))
    obtain ⟨x223, x224, x225⟩ := r226.get3
    go_wp2_with fail
    clear x219 x220 x221 x223 x224 x225
    have r228 := ((o205.al (.cells #[.slice a208 T.length q209, .int .i64 N, .int .i64 K] 33)).al (.cells #[.int .i64 A, .slice a210 U.length q211] 25))
    have r229 := ((((((((((r140.bl b141).bl b152).gr g161 (ap_of fun k h1 h2 => by have e1 := L31.out k h1; have e2 := L68.out k h2; omega)).gr g169 (ap_of fun k h1 h2 => by have e1 := L31.out k h1; have e2 := L69.out k h2; omega)).bl b177).bl b185).bl b196).bl b202).al (.cells #[.slice a208 T.length q209, .int .i64 N, .int .i64 K] 33)).al (.cells #[.int .i64 A, .slice a210 U.length q211] 25))
    refine (eqTransfer_any _ _ N K T _ (by omega) r228.reads r229.reads).mono ?_
    rintro e w227 ⟨rfl, b230⟩
    have c28 := bNext c27 b230
    have s231 := b230.size
    have r234 := (B218.bl b230)
    obtain ⟨x232, x233⟩ := r234.get2
    have r237 := ((((((((((r148.bl b152).gr g161 (fun k h => by have e := L68.out k h; omega)).gr g169 (fun k h => by have e := L69.out k h; omega)).bl b177).bl b185).bl b196).bl b202).al (.cells #[.slice a208 T.length q209, .int .i64 N, .int .i64 K] 33)).al (.cells #[.int .i64 A, .slice a210 U.length q211] 25)).bl b230)
    obtain ⟨x235, x236⟩ := r237.get2
    go_wp2_with fail
    clear x232 x233 x235 x236
    have r239 := (((o206.al (.cells #[.slice a208 T.length q209, .int .i64 N, .int .i64 K] 33)).al (.cells #[.int .i64 A, .slice a210 U.length q211] 25)).bl b230)
    have r240 := ((((((((((r151.bl b152).gr g161 (ap_of fun k h1 h2 => by have e1 := L32.out k h1; have e2 := L68.out k h2; omega)).gr g169 (ap_of fun k h1 h2 => by have e1 := L32.out k h1; have e2 := L69.out k h2; omega)).bl b177).bl b185).bl b196).bl b202).al (.cells #[.slice a208 T.length q209, .int .i64 N, .int .i64 K] 33)).al (.cells #[.int .i64 A, .slice a210 U.length q211] 25)).bl b230)
    refine (eqChunk_any _ _ A U _ (by omega) r239.reads r240.reads).mono ?_
    rintro e w238 ⟨rfl, b241⟩
    have c29 := bNext c28 b241
    have s242 := b241.size
    have r246 := ((((((((r174.bl b177).bl b185).bl b196).bl b202).al (.cells #[.slice a208 T.length q209, .int .i64 N, .int .i64 K] 33)).al (.cells #[.int .i64 A, .slice a210 U.length q211] 25)).bl b230).bl b241)
    obtain ⟨x243, x244, x245⟩ := r246.get3
    go_wp2_with fail
    clear x243 x244 x245
    have r247 := ((((((((r175.bl b177).bl b185).bl b196).bl b202).al (.cells #[.slice a208 T.length q209, .int .i64 N, .int .i64 K] 33)).al (.cells #[.int .i64 A, .slice a210 U.length q211] 25)).bl b230).bl b241)
    refine (heldTransfer_any _ N K (1) T.length _ (by omega) (by omega) (by omega) r247.reads).mono ?_
    rintro e w248 ⟨rfl, b249⟩
    have c30 := bNext c29 b249
    have s250 := b249.size
    have d251 : decide (1 + (T.length : Int) < 0) = false := decide_eq_false (by omega)
    have r254 := ((((((((r182.bl b185).bl b196).bl b202).al (.cells #[.slice a208 T.length q209, .int .i64 N, .int .i64 K] 33)).al (.cells #[.int .i64 A, .slice a210 U.length q211] 25)).bl b230).bl b241).bl b249)
    obtain ⟨x252, x253⟩ := r254.get2
    go_wp2_with fail
    clear x252 x253
    have r255 := ((((((((r183.bl b185).bl b196).bl b202).al (.cells #[.slice a208 T.length q209, .int .i64 N, .int .i64 K] 33)).al (.cells #[.int .i64 A, .slice a210 U.length q211] 25)).bl b230).bl b241).bl b249)
    refine (heldChunk_any _ A (1 + (T.length : Int)) U.length _ (by omega) (by omega) (by omega) r255.reads).mono ?_
    rintro e w256 ⟨rfl, b257⟩
    have c31 := bNext c30 b257
    have s258 := b257.size
    have d259 : decide (1 + (T.length : Int) + (U.length : Int) < 0) = false := decide_eq_false (by omega)
    go_wp2
    go_ret
    exact ⟨rfl, c31⟩
  · go_enter Try.func12, Try.ntmps12
    have c1 := bAl (Below.refl w.heap.size w) (.cells #[.slice ad0 zs0.length cap0, .int .i64 n0, .int .i64 k0] 47)
    have s1 := sAl w (.cells #[.slice ad0 zs0.length cap0, .int .i64 n0, .int .i64 k0] 47)
    have P0 := Blk.new w #[.slice ad0 zs0.length cap0, .int .i64 n0, .int .i64 k0] 47
    go_wp2_with fail
    have r2 := (HR0.out.bl c1)
    refine (szTransfer_any _ n0 k0 (1048576) zs0 _ (by omega) (by omega) r2).mono ?_
    rw [if_pos (by omega)]
    rintro e w3 ⟨rfl, b4⟩
    have c2 := bNext c1 b4
    have s5 := b4.size
    go_wp2
    go_ret
    exact ⟨rfl, c2⟩
end Go.Proofs.Ytlfmgagokaekjaa
