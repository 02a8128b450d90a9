/- The law SheafGrows. -/
import Derived.Test.YtkoejeghihcmlaaGreatXB
namespace Go.Proofs.YtkoejeghihcmlaaGreat
open Go.RowKit Go.Shelf

theorem clearA_vals (p : Pl) (hour known : Int) : clearA p hour known = 0 ∨ clearA p hour known = 1 ∨ clearA p hour known = 2 := by
  unfold clearA
  split
  · unfold clearS ans
    split
    · exact .inr (.inl rfl)
    · split
      · exact .inl rfl
      · exact .inr (.inr rfl)
  · exact .inl rfl
set_option maxRecDepth 100000 in
set_option maxHeartbeats 16000000 in
theorem law4_any (r : Raw) (A1 A2 A3 : Option Addr) (n1 c1 n2 c2 n3 c3 : Nat) (x y z : Int) (w : World) (h1 : Arr q4cells 4 w A1 n1 r.loads) (h2 : Arr q4cells 4 w A2 n2 r.stands) (h3 : Arr q4cells 4 w A3 n3 r.spells)
    (hn : n1 ≤ 9223372036854775807 ∧ n2 ≤ 9223372036854775807 ∧ n3 ≤ 9223372036854775807) (hr : RawOk r) (_ix : I64 x) (_iy : I64 y) (_iz : I64 z) :
    Calls Tryz.prog 4 #[.agg (rawv r A1 A2 A3 n1 c1 n2 c2 n3 c3), .agg #[.int .i64 x, .int .i64 y, .int .i64 z]] w fun e w' => e = .returned (.bool true) ∧ Below w.heap.size w w' := by
  have H1 := Lib.hid h1
  have H2 := Lib.hid h2
  have H3 := Lib.hid h3
  have HN := Lib.hid hn
  have HR := Lib.hid hr
  clear h1 h2 h3 hn hr
  obtain ⟨W1, hW1⟩ : ∃ W1, (w.alloc (.cells (rawv r A1 A2 A3 n1 c1 n2 c2 n3 c3) 24)).alloc (.cells #[.int .i64 x, .int .i64 y, .int .i64 z] 93) = W1 := ⟨_, rfl⟩
  have G1 := Lib.hid (show Below w.heap.size w W1 by rw [← hW1]; exact two_more _ _ _)
  have B2 := Lib.hid (show Blk W1 w.heap.size 24 (rawv r A1 A2 A3 n1 c1 n2 c2 n3 c3) by rw [← hW1]; exact (Blk.new _ _ _).alloc _)
  have B3 := Lib.hid (show Blk W1 (w.heap.size + 1) 93 #[.int .i64 x, .int .i64 y, .int .i64 z] by rw [← hW1]; have := Blk.new (w.alloc (.cells (rawv r A1 A2 A3 n1 c1 n2 c2 n3 c3) 24)) 93 #[.int .i64 x, .int .i64 y, .int .i64 z]; rwa [World.size_alloc] at this)
  have HW1 := Lib.hid hW1
  clear hW1
  obtain ⟨P, hP⟩ : ∃ P, madeP r true = P := ⟨_, rfl⟩
  have H19 := Lib.hid (show P.loads.length ≤ 19 by rw [← hP]; exact made_19 r true)
  obtain ⟨hh, hhh⟩ : ∃ h, x % 130 = h := ⟨_, rfl⟩
  obtain ⟨ll, hll⟩ : ∃ l, hh + y % 60 = l := ⟨_, rfl⟩
  have hh0 : 0 ≤ hh := by omega
  have hh1 : hh ≤ 129 := by omega
  have hl0 : hh ≤ ll := by omega
  have hl1 : ll ≤ 188 := by omega
  have a1 : askE P [hh] 20 = 0 := by rw [← hP]; exact made_ask r hh0 (by omega)
  have a2 : askE P [ll] 20 = 0 := by rw [← hP]; exact made_ask r (by omega) (by omega)
  have a0 : askE P [0] 20 = 0 := by rw [← hP]; exact made_ask r (by omega) (by omega)
  have an := stood_anti a1 a2 hl0
  have cf := clear_first a1 a0 hh0 (by omega)
  have cf2 := clear_first a2 a0 (by omega) (by omega)
  have T1 := fun D1 d1 D2 d2 D3 d3 m1 m2 m3 W (hp : Pa W P D1 D2 D3 m1 d1 m2 d2 m3 d3) => stood_any P D1 D2 D3 m1 d1 m2 d2 m3 d3 hh 20 W hp H19.out
  have T2 := fun D1 d1 D2 d2 D3 d3 m1 m2 m3 W (hp : Pa W P D1 D2 D3 m1 d1 m2 d2 m3 d3) => stood_any P D1 D2 D3 m1 d1 m2 d2 m3 d3 ll 20 W hp H19.out
  have T3 := fun D1 d1 D2 d2 D3 d3 m1 m2 m3 W (hp : Pa W P D1 D2 D3 m1 d1 m2 d2 m3 d3) => clear_any P D1 D2 D3 m1 d1 m2 d2 m3 d3 hh 20 W hp H19.out
  have T4 := fun D1 d1 D2 d2 D3 d3 m1 m2 m3 W (hp : Pa W P D1 D2 D3 m1 d1 m2 d2 m3 d3) => clear_any P D1 D2 D3 m1 d1 m2 d2 m3 d3 ll 20 W hp H19.out
  have T5 := fun D1 d1 D2 d2 D3 d3 m1 m2 m3 W (hp : Pa W P D1 D2 D3 m1 d1 m2 d2 m3 d3) => first'_any P D1 D2 D3 m1 d1 m2 d2 m3 d3 20 W hp H19.out
  rw [a1] at T1 T3
  rw [a2] at T2 T4
  rw [a0] at T5
  obtain ⟨⟨s0, s1⟩, hs⟩ : ∃ s, stoodR P hh 20 = s := ⟨_, rfl⟩
  obtain ⟨⟨t0, t1⟩, ht⟩ : ∃ s, stoodR P ll 20 = s := ⟨_, rfl⟩
  obtain ⟨⟨f0, f1⟩, hf⟩ : ∃ s, firstR P 20 = s := ⟨_, rfl⟩
  obtain ⟨ca, hca⟩ : ∃ c, clearA P hh 20 = c := ⟨_, rfl⟩
  obtain ⟨cb, hcb⟩ : ∃ c, clearA P ll 20 = c := ⟨_, rfl⟩
  rw [hs, ht] at an
  rw [hca, hf] at cf
  rw [hcb, hf] at cf2
  dsimp only at an cf cf2
  rw [hs] at T1
  rw [ht] at T2
  rw [hca] at T3
  rw [hcb] at T4
  rw [hf] at T5
  have H4 := Lib.hid T1
  have H5 := Lib.hid T2
  have H6 := Lib.hid T3
  have H7 := Lib.hid T4
  have H8 := Lib.hid T5
  have CV := Lib.hid (show ca = 0 ∨ ca = 1 ∨ ca = 2 by rw [← hca]; exact clearA_vals _ _ _)
  have CF := Lib.hid cf
  have CF2 := Lib.hid cf2
  have an0 := an.1
  have an1 := an.2
  have HP := Lib.hid hP
  have HHH := Lib.hid hhh
  have HLL := Lib.hid hll
  clear T1 T2 T3 T4 T5 hs ht hf hca hcb a0 a1 a2 hP cf cf2 an hhh hll
  have TM := Lib.hid (fun n m V h0 h1 => mod_any n m V h0 h1)
  go_enter Tryz.func4, Tryz.ntmps4
  go_upto_region 1 with fail
  rw [HW1.out]
  have kb3_0 := B3.out.cell 0
  have kb3_1 := B3.out.cell 1
  have kb3_2 := B3.out.cell 2
  have kb2_0 := B2.out.cell 0
  have kb2_1 := B2.out.cell 1
  have kb2_2 := B2.out.cell 2
  have kb2_3 := B2.out.cell 3
  have kb2_4 := B2.out.cell 4
  go_upto_region 2 with (go_at_call 34; (with_reducible refine (sane_any _).mono ?_); rintro e V2 ⟨rfl, hg⟩)
  clear kb3_0 kb3_1 kb3_2 kb2_0 kb2_1 kb2_2 kb2_3 kb2_4
  have G2 := Lib.hid (G1.out.trans (hg.mono G1.out.size))
  have B3 := Lib.hid (B3.out.ext hg)
  have B2 := Lib.hid (B2.out.ext hg)
  clear hg
  have HMD := Lib.hid (made_call r true A1 A2 A3 n1 c1 n2 c2 n3 c3 V2 (H1.out.below G2.out) (H2.out.below G2.out) (H3.out.below G2.out) HN.out HR.out)
  have kb3_0 := B3.out.cell 0
  have kb3_1 := B3.out.cell 1
  have kb3_2 := B3.out.cell 2
  have kb2_0 := B2.out.cell 0
  have kb2_1 := B2.out.cell 1
  have kb2_2 := B2.out.cell 2
  have kb2_3 := B2.out.cell 3
  have kb2_4 := B2.out.cell 4
  go_upto_region 3 with (go_at_call 15; (with_reducible refine (HMD.out).mono ?_); rintro e V3 ⟨⟨D1, d1, D2, d2, D3, d3, Dn, dn, m1, m2, m3, mn, hm1, hm2, hm3, hmn, rfl, hpa, hia⟩, hg⟩; have HPA := Lib.hid hpa; have HIA := Lib.hid hia; have HM1 := Lib.hid hm1; have HM2 := Lib.hid hm2; have HM3 := Lib.hid hm3; have HMN := Lib.hid hmn; clear hpa hia hm1 hm2 hm3 hmn)
  clear kb3_0 kb3_1 kb3_2 kb2_0 kb2_1 kb2_2 kb2_3 kb2_4
  rw [HP.out] at HPA HM1 HM2 HM3 ⊢
  obtain ⟨W3, hW3⟩ : ∃ W, ((V3.alloc (.cells (plb P D1 D2 D3 m1 d1 m2 d2 m3 d3) 38)).alloc (.cells (#[.int .i64 (r.sown % 200), .slice Dn mn dn]) 41)) = W := ⟨_, rfl⟩
  have ga : Below V3.heap.size V3 W3 := by rw [← hW3]; exact two_more _ _ _
  have gb := hg.trans (ga.mono hg.size)
  have G3 := Lib.hid (G2.out.trans (gb.mono G2.out.size))
  have B3 := Lib.hid (B3.out.ext gb)
  have B2 := Lib.hid (B2.out.ext gb)
  have HPA := Lib.hid (HPA.out.below ga)
  have HIA := Lib.hid (HIA.out.below ga)
  have BP := Lib.hid (show Blk W3 (V3.heap.size) 38 (plb P D1 D2 D3 m1 d1 m2 d2 m3 d3) by rw [← hW3]; exact (Blk.new _ _ _).alloc _)
  have BC := Lib.hid (show Blk W3 (V3.heap.size + 1) 41 (#[.int .i64 (r.sown % 200), .slice Dn mn dn]) by rw [← hW3]; have := Blk.new (V3.alloc (.cells (plb P D1 D2 D3 m1 d1 m2 d2 m3 d3) 38)) 41 (#[.int .i64 (r.sown % 200), .slice Dn mn dn]); rwa [World.size_alloc] at this)
  rw [hW3]
  clear hg ga gb hW3
  have kb3_0 := B3.out.cell 0
  have kb3_1 := B3.out.cell 1
  have kb3_2 := B3.out.cell 2
  have kbp_0 := BP.out.cell 0
  have kbp_1 := BP.out.cell 1
  have kbp_2 := BP.out.cell 2
  have kbp_3 := BP.out.cell 3
  have kbp_4 := BP.out.cell 4
  have kbp_5 := BP.out.cell 5
  have kbc_0 := BC.out.cell 0
  have kbc_1 := BC.out.cell 1
  go_upto_region 4 with (first | (go_at_call 17; (with_reducible refine (TM.out _ _ _ (by omega) (by omega)).mono ?_); rintro e w' ⟨rfl, rfl⟩))
  clear kb3_0 kb3_1 kb3_2 kbp_0 kbp_1 kbp_2 kbp_3 kbp_4 kbp_5 kbc_0 kbc_1
  rw [HHH.out]
  have kb3_0 := B3.out.cell 0
  have kb3_1 := B3.out.cell 1
  have kb3_2 := B3.out.cell 2
  have kbp_0 := BP.out.cell 0
  have kbp_1 := BP.out.cell 1
  have kbp_2 := BP.out.cell 2
  have kbp_3 := BP.out.cell 3
  have kbp_4 := BP.out.cell 4
  have kbp_5 := BP.out.cell 5
  have kbc_0 := BC.out.cell 0
  have kbc_1 := BC.out.cell 1
  go_upto_region 5 with (first | (go_at_call 17; (with_reducible refine (TM.out _ _ _ (by omega) (by omega)).mono ?_); rintro e w' ⟨rfl, rfl⟩))
  clear kb3_0 kb3_1 kb3_2 kbp_0 kbp_1 kbp_2 kbp_3 kbp_4 kbp_5 kbc_0 kbc_1
  rw [HLL.out]
  have kb3_0 := B3.out.cell 0
  have kb3_1 := B3.out.cell 1
  have kb3_2 := B3.out.cell 2
  have kbp_0 := BP.out.cell 0
  have kbp_1 := BP.out.cell 1
  have kbp_2 := BP.out.cell 2
  have kbp_3 := BP.out.cell 3
  have kbp_4 := BP.out.cell 4
  have kbp_5 := BP.out.cell 5
  have kbc_0 := BC.out.cell 0
  have kbc_1 := BC.out.cell 1
  go_upto_region 6 with (go_at_call 35; (with_reducible refine (H4.out _ _ _ _ _ _ _ _ _ _ HPA.out).mono ?_); rintro e V4 ⟨rfl, hg⟩)
  clear kb3_0 kb3_1 kb3_2 kbp_0 kbp_1 kbp_2 kbp_3 kbp_4 kbp_5 kbc_0 kbc_1
  obtain ⟨W4, hW4⟩ : ∃ W, (V4.alloc (.cells (#[.int .i64 s0, .int .i64 s1]) 33)) = W := ⟨_, rfl⟩
  have ga : Below V4.heap.size V4 W4 := by rw [← hW4]; exact one_more _ _
  have gb := hg.trans (ga.mono hg.size)
  have G4 := Lib.hid (G3.out.trans (gb.mono G3.out.size))
  have B3 := Lib.hid (B3.out.ext gb)
  have B2 := Lib.hid (B2.out.ext gb)
  have BP := Lib.hid (BP.out.ext gb)
  have BC := Lib.hid (BC.out.ext gb)
  have HPA := Lib.hid (HPA.out.below gb)
  have HIA := Lib.hid (HIA.out.below gb)
  have BS := Lib.hid (show Blk W4 (V4.heap.size) 33 (#[.int .i64 s0, .int .i64 s1]) by rw [← hW4]; exact Blk.new _ _ _)
  rw [hW4]
  clear hg ga gb hW4
  have kb3_0 := B3.out.cell 0
  have kb3_1 := B3.out.cell 1
  have kb3_2 := B3.out.cell 2
  have kbp_0 := BP.out.cell 0
  have kbp_1 := BP.out.cell 1
  have kbp_2 := BP.out.cell 2
  have kbp_3 := BP.out.cell 3
  have kbp_4 := BP.out.cell 4
  have kbp_5 := BP.out.cell 5
  have kbc_0 := BC.out.cell 0
  have kbc_1 := BC.out.cell 1
  have kbs_0 := BS.out.cell 0
  have kbs_1 := BS.out.cell 1
  go_upto_region 7 with (go_at_call 35; (with_reducible refine (H5.out _ _ _ _ _ _ _ _ _ _ HPA.out).mono ?_); rintro e V5 ⟨rfl, hg⟩)
  clear kb3_0 kb3_1 kb3_2 kbp_0 kbp_1 kbp_2 kbp_3 kbp_4 kbp_5 kbc_0 kbc_1 kbs_0 kbs_1
  obtain ⟨W5, hW5⟩ : ∃ W, (V5.alloc (.cells (#[.int .i64 t0, .int .i64 t1]) 33)) = W := ⟨_, rfl⟩
  have ga : Below V5.heap.size V5 W5 := by rw [← hW5]; exact one_more _ _
  have gb := hg.trans (ga.mono hg.size)
  have G5 := Lib.hid (G4.out.trans (gb.mono G4.out.size))
  have B3 := Lib.hid (B3.out.ext gb)
  have B2 := Lib.hid (B2.out.ext gb)
  have BP := Lib.hid (BP.out.ext gb)
  have BC := Lib.hid (BC.out.ext gb)
  have BS := Lib.hid (BS.out.ext gb)
  have HPA := Lib.hid (HPA.out.below gb)
  have HIA := Lib.hid (HIA.out.below gb)
  have BT := Lib.hid (show Blk W5 (V5.heap.size) 33 (#[.int .i64 t0, .int .i64 t1]) by rw [← hW5]; exact Blk.new _ _ _)
  rw [hW5]
  clear hg ga gb hW5
  have kb3_0 := B3.out.cell 0
  have kb3_1 := B3.out.cell 1
  have kb3_2 := B3.out.cell 2
  have kbp_0 := BP.out.cell 0
  have kbp_1 := BP.out.cell 1
  have kbp_2 := BP.out.cell 2
  have kbp_3 := BP.out.cell 3
  have kbp_4 := BP.out.cell 4
  have kbp_5 := BP.out.cell 5
  have kbc_0 := BC.out.cell 0
  have kbc_1 := BC.out.cell 1
  have kbs_0 := BS.out.cell 0
  have kbs_1 := BS.out.cell 1
  have kbt_0 := BT.out.cell 0
  have kbt_1 := BT.out.cell 1
  go_upto_region 8 with (go_at_call 36; (with_reducible refine (H6.out _ _ _ _ _ _ _ _ _ _ HPA.out).mono ?_); rintro e V6 ⟨rfl, hg⟩)
  clear kb3_0 kb3_1 kb3_2 kbp_0 kbp_1 kbp_2 kbp_3 kbp_4 kbp_5 kbc_0 kbc_1 kbs_0 kbs_1 kbt_0 kbt_1
  have G6 := Lib.hid (G5.out.trans (hg.mono G5.out.size))
  have B3 := Lib.hid (B3.out.ext hg)
  have B2 := Lib.hid (B2.out.ext hg)
  have BP := Lib.hid (BP.out.ext hg)
  have BC := Lib.hid (BC.out.ext hg)
  have BS := Lib.hid (BS.out.ext hg)
  have BT := Lib.hid (BT.out.ext hg)
  have HPA := Lib.hid (HPA.out.below hg)
  have HIA := Lib.hid (HIA.out.below hg)
  clear hg
  have kb3_0 := B3.out.cell 0
  have kb3_1 := B3.out.cell 1
  have kb3_2 := B3.out.cell 2
  have kbp_0 := BP.out.cell 0
  have kbp_1 := BP.out.cell 1
  have kbp_2 := BP.out.cell 2
  have kbp_3 := BP.out.cell 3
  have kbp_4 := BP.out.cell 4
  have kbp_5 := BP.out.cell 5
  have kbc_0 := BC.out.cell 0
  have kbc_1 := BC.out.cell 1
  have kbs_0 := BS.out.cell 0
  have kbs_1 := BS.out.cell 1
  have kbt_0 := BT.out.cell 0
  have kbt_1 := BT.out.cell 1
  go_upto_region 9 with (go_at_call 36; (with_reducible refine (H7.out _ _ _ _ _ _ _ _ _ _ HPA.out).mono ?_); rintro e V7 ⟨rfl, hg⟩)
  clear kb3_0 kb3_1 kb3_2 kbp_0 kbp_1 kbp_2 kbp_3 kbp_4 kbp_5 kbc_0 kbc_1 kbs_0 kbs_1 kbt_0 kbt_1
  have G7 := Lib.hid (G6.out.trans (hg.mono G6.out.size))
  have B3 := Lib.hid (B3.out.ext hg)
  have B2 := Lib.hid (B2.out.ext hg)
  have BP := Lib.hid (BP.out.ext hg)
  have BC := Lib.hid (BC.out.ext hg)
  have BS := Lib.hid (BS.out.ext hg)
  have BT := Lib.hid (BT.out.ext hg)
  have HPA := Lib.hid (HPA.out.below hg)
  have HIA := Lib.hid (HIA.out.below hg)
  clear hg
  have kb3_0 := B3.out.cell 0
  have kb3_1 := B3.out.cell 1
  have kb3_2 := B3.out.cell 2
  have kbp_0 := BP.out.cell 0
  have kbp_1 := BP.out.cell 1
  have kbp_2 := BP.out.cell 2
  have kbp_3 := BP.out.cell 3
  have kbp_4 := BP.out.cell 4
  have kbp_5 := BP.out.cell 5
  have kbc_0 := BC.out.cell 0
  have kbc_1 := BC.out.cell 1
  have kbs_0 := BS.out.cell 0
  have kbs_1 := BS.out.cell 1
  have kbt_0 := BT.out.cell 0
  have kbt_1 := BT.out.cell 1
  go_upto_region 10 with (go_at_call 23; (with_reducible refine (H8.out _ _ _ _ _ _ _ _ _ _ HPA.out).mono ?_); rintro e V8 ⟨rfl, hg⟩)
  clear kb3_0 kb3_1 kb3_2 kbp_0 kbp_1 kbp_2 kbp_3 kbp_4 kbp_5 kbc_0 kbc_1 kbs_0 kbs_1 kbt_0 kbt_1
  obtain ⟨W8, hW8⟩ : ∃ W, (V8.alloc (.cells (#[.int .i64 f0, .int .i64 f1]) 33)) = W := ⟨_, rfl⟩
  have ga : Below V8.heap.size V8 W8 := by rw [← hW8]; exact one_more _ _
  have gb := hg.trans (ga.mono hg.size)
  have G8 := Lib.hid (G7.out.trans (gb.mono G7.out.size))
  have B3 := Lib.hid (B3.out.ext gb)
  have B2 := Lib.hid (B2.out.ext gb)
  have BP := Lib.hid (BP.out.ext gb)
  have BC := Lib.hid (BC.out.ext gb)
  have BS := Lib.hid (BS.out.ext gb)
  have BT := Lib.hid (BT.out.ext gb)
  have HPA := Lib.hid (HPA.out.below gb)
  have HIA := Lib.hid (HIA.out.below gb)
  have BF := Lib.hid (show Blk W8 (V8.heap.size) 33 (#[.int .i64 f0, .int .i64 f1]) by rw [← hW8]; exact Blk.new _ _ _)
  rw [hW8]
  clear hg ga gb hW8
  have kb3_0 := B3.out.cell 0
  have kb3_1 := B3.out.cell 1
  have kb3_2 := B3.out.cell 2
  have kbp_0 := BP.out.cell 0
  have kbp_1 := BP.out.cell 1
  have kbp_2 := BP.out.cell 2
  have kbp_3 := BP.out.cell 3
  have kbp_4 := BP.out.cell 4
  have kbp_5 := BP.out.cell 5
  have kbc_0 := BC.out.cell 0
  have kbc_1 := BC.out.cell 1
  have kbs_0 := BS.out.cell 0
  have kbs_1 := BS.out.cell 1
  have kbt_0 := BT.out.cell 0
  have kbt_1 := BT.out.cell 1
  have kbf_0 := BF.out.cell 0
  have kbf_1 := BF.out.cell 1
  have HGE := Lib.hid G8.out
  have d0 : decide (s0 < t0) = false := decide_eq_false (by omega)
  have d1' : decide (s1 < t1) = false := decide_eq_false (by omega)
  by_cases c1 : ca = 1
  · have e1 := CF.out.1.1 c1
    have e2 := CF2.out.1.2 (by omega)
    have e3 : ¬ hh < f0 := fun h => by have := CF.out.2.2 h; omega
    subst c1 e2
    go_wp2_with fail
    go_ret
    exact ⟨rfl, HGE.out⟩
  · have e1 : ¬ f1 ≤ hh := fun h => c1 (CF.out.1.2 h)
    by_cases c0 : ca = 0
    · have e3 := CF.out.2.1 c0
      subst c0
      go_wp2_with fail
      go_ret
      exact ⟨rfl, HGE.out⟩
    · have e3 : ¬ hh < f0 := fun h => c0 (CF.out.2.2 h)
      obtain rfl : ca = 2 := by have := CV.out; omega
      go_wp2_with fail
      go_ret
      exact ⟨rfl, HGE.out⟩
end Go.Proofs.YtkoejeghihcmlaaGreat
