/- The law SheafTrue. -/
import Derived.Test.YtkoejeghihcmlaaGreatXB
import Derived.Test.YtkoejeghihcmlaaGreatWO
import Derived.Test.YtkoejeghihcmlaaGreatWF
import Derived.Test.YtkoejeghihcmlaaGreatXG
namespace Go.Proofs.YtkoejeghihcmlaaGreat
open Go.RowKit Go.Shelf

theorem openA_vals (p : Pl) (hour known : Int) : openA p hour known = 0 ∨ openA p hour known = 1 ∨ openA p hour known = 2 := by
  unfold openA
  split
  · unfold ans
    split
    · exact .inr (.inl rfl)
    · split
      · exact .inl rfl
      · exact .inr (.inr rfl)
  · exact .inl rfl
set_option maxRecDepth 100000 in
set_option maxHeartbeats 16000000 in
theorem law9_any (r : Raw) (A1 A2 A3 : Option Addr) (n1 c1 n2 c2 n3 c3 : Nat) (x : Int) (w : World) (h1 : Arr q4cells 4 w A1 n1 r.loads) (h2 : Arr q4cells 4 w A2 n2 r.stands) (h3 : Arr q4cells 4 w A3 n3 r.spells)
    (hn : n1 ≤ 9223372036854775807 ∧ n2 ≤ 9223372036854775807 ∧ n3 ≤ 9223372036854775807) (hr : RawOk r) (_ix : I64 x) :
    Calls Tryz.prog 9 #[.agg (rawv r A1 A2 A3 n1 c1 n2 c2 n3 c3), .int .i64 x] w fun e w' => e = .returned (.bool true) ∧ Below w.heap.size w w' := by
  have H1 := Lib.hid h1
  have H2 := Lib.hid h2
  have H3 := Lib.hid h3
  have HN := Lib.hid hn
  have HR := Lib.hid hr
  clear h1 h2 h3 hn hr
  obtain ⟨W1, hW1⟩ : ∃ W1, w.alloc (.cells (rawv r A1 A2 A3 n1 c1 n2 c2 n3 c3) 24) = W1 := ⟨_, rfl⟩
  have G1 := Lib.hid (show Below w.heap.size w W1 by rw [← hW1]; exact one_more _ _)
  have B2 := Lib.hid (show Blk W1 w.heap.size 24 (rawv r A1 A2 A3 n1 c1 n2 c2 n3 c3) by rw [← hW1]; exact Blk.new _ _ _)
  have HW1 := Lib.hid hW1
  clear hW1
  obtain ⟨P, hP⟩ : ∃ P, madeP r true = P := ⟨_, rfl⟩
  obtain ⟨nu, hnu⟩ : ∃ l, madeNums r = l := ⟨_, rfl⟩
  obtain ⟨sw, hsw⟩ : ∃ s, r.sown % 200 = s := ⟨_, rfl⟩
  have H19 := Lib.hid (show P.loads.length ≤ 19 by rw [← hP]; exact made_19 r true)
  have HNI := Lib.hid (show ∀ x ∈ nu, -9223372036854775808 ≤ x ∧ x ≤ 9223372036854775807 from fun x hx => by
    rw [← hnu] at hx
    obtain ⟨i, hi, rfl⟩ := List.getElem_of_mem hx
    have := nums_bd r (j := i) (by have := made_nlen r; omega)
    rw [getD_int hi] at this
    omega)
  obtain ⟨hh, hhh⟩ : ∃ h, 15 + x % 130 = h := ⟨_, rfl⟩
  have hh0 : 15 ≤ hh := by omega
  have hh1 : hh ≤ 144 := by omega
  have a1 : askE P [hh] 20 = 0 := by rw [← hP]; exact made_ask r (by omega) (by omega)
  have a0 : askE P [0] 20 = 0 := by rw [← hP]; exact made_ask r (by omega) (by omega)
  have htr : Tru (lookL P 20 every) (lookS P 20 every) (leftS r) := by rw [← hP]; exact made_tru r
  have htb : truthB P 20 sw nu = true := by rw [← hP, ← hsw, ← hnu]; exact made_truth r
  have hts : truS P 20 sw nu = leftS r := by rw [← hP, ← hsw, ← hnu]; exact made_truS r true
  have hok : okPl P = true := by rw [← hP]; exact made_ok r true
  have f0 : firstE P [] [20] = 0 := first_of hok (fun h hh => (by cases hh)) (by omega) (by omega)
  have f1 : firstE P [hh] [20] = 0 := first_of hok (fun h hh' => by rw [List.mem_singleton.1 hh']; omega) (by omega) (by omega)
  have l0 : leftE P [] 20 sw nu = 0 := by unfold leftE; rw [if_pos f0, htb]; rfl
  have l1 : leftE P [hh] 20 sw nu = 0 := by unfold leftE; rw [if_pos f1, htb]; rfl
  have lv : leftV P hh 20 sw nu = (leftS r).getD (after (lookL P 20 every) hh) 0 := by unfold leftV; rw [if_pos l1, hts]
  have lt : trulyR P hh 20 sw nu = trulyV P 20 hh (leftS r) := by unfold trulyR; rw [if_pos l1, hts]
  have k1 := stood_in a1 htr
  have k2 := clear_true a1 htr
  have k3 := open_true a1 htr
  have k4 := fun h => truly_clear a1 htr h
  have k5 := first_true a1 a0 htr
  have k6 := true_pos a1 htr (after_len (lookL P 20 every) hh)
  have HCR := Lib.hid (show ∀ i, i < P.loads.length → cartE P (P.loads.getD i z6).a 20 = 0 ∧ (cartR P (P.loads.getD i z6).a 20).lo ≤ nu.getD i 0 ∧ nu.getD i 0 ≤ (cartR P (P.loads.getD i z6).a 20).hi from fun i hi => by
    rw [← hP] at hi ⊢
    rw [← hnu]
    exact made_carted r hi)
  have HNL := Lib.hid (show nu.length = P.loads.length by rw [← hP, ← hnu, made_nlen]; exact (made_len r).symm)
  rw [← lv] at k1 k2 k4 k5 k6
  rw [← lt] at k3 k4
  have T0 := fun D1 d1 D2 d2 D3 d3 m1 m2 m3 N nn cn W (hp : Pa W P D1 D2 D3 m1 d1 m2 d2 m3 d3) (hn : Ints W N nn nu) (hm : nn ≤ 9223372036854775807) => checkCart_any P D1 D2 D3 m1 d1 m2 d2 m3 d3 20 N nn cn nu sw W hp H19.out hn HNI.out hm
  have T1 := fun D1 d1 D2 d2 D3 d3 m1 m2 m3 W (hp : Pa W P D1 D2 D3 m1 d1 m2 d2 m3 d3) => stood_any P D1 D2 D3 m1 d1 m2 d2 m3 d3 hh 20 W hp H19.out
  have T2 := fun D1 d1 D2 d2 D3 d3 m1 m2 m3 N nn cn W (hp : Pa W P D1 D2 D3 m1 d1 m2 d2 m3 d3) (hn : Ints W N nn nu) (hm : nn ≤ 9223372036854775807) => left_any P D1 D2 D3 m1 d1 m2 d2 m3 d3 hh 20 N nn cn nu sw W hp H19.out hn HNI.out hm
  have T3 := fun D1 d1 D2 d2 D3 d3 m1 m2 m3 W (hp : Pa W P D1 D2 D3 m1 d1 m2 d2 m3 d3) => clear_any P D1 D2 D3 m1 d1 m2 d2 m3 d3 hh 20 W hp H19.out
  have T4 := fun D1 d1 D2 d2 D3 d3 m1 m2 m3 W (hp : Pa W P D1 D2 D3 m1 d1 m2 d2 m3 d3) => openP_any P D1 D2 D3 m1 d1 m2 d2 m3 d3 hh 20 W hp H19.out
  have T5 := fun D1 d1 D2 d2 D3 d3 m1 m2 m3 N nn cn W (hp : Pa W P D1 D2 D3 m1 d1 m2 d2 m3 d3) (hn : Ints W N nn nu) (hm : nn ≤ 9223372036854775807) => trulyP_any P D1 D2 D3 m1 d1 m2 d2 m3 d3 hh 20 N nn cn nu sw W hp H19.out hn HNI.out hm
  have T6 := fun D1 d1 D2 d2 D3 d3 m1 m2 m3 W (hp : Pa W P D1 D2 D3 m1 d1 m2 d2 m3 d3) => first'_any P D1 D2 D3 m1 d1 m2 d2 m3 d3 20 W hp H19.out
  have T7 := fun D1 d1 D2 d2 D3 d3 m1 m2 m3 s W (hp : Pa W P D1 D2 D3 m1 d1 m2 d2 m3 d3) => cartedP_any P D1 D2 D3 m1 d1 m2 d2 m3 d3 s 20 W hp H19.out
  unfold TEnd at T5
  rw [l0] at T0
  rw [a1] at T1 T3 T4
  rw [l1] at T2 T5
  rw [a0] at T6
  obtain ⟨⟨s0, s1⟩, hs⟩ : ∃ s, stoodR P hh 20 = s := ⟨_, rfl⟩
  obtain ⟨⟨f0', f1'⟩, hf⟩ : ∃ s, firstR P 20 = s := ⟨_, rfl⟩
  obtain ⟨ca, hca⟩ : ∃ c, clearA P hh 20 = c := ⟨_, rfl⟩
  obtain ⟨oa, hoa⟩ : ∃ c, openA P hh 20 = c := ⟨_, rfl⟩
  obtain ⟨nv, hnv⟩ : ∃ c, leftV P hh 20 sw nu = c := ⟨_, rfl⟩
  obtain ⟨tv, htv⟩ : ∃ c, trulyR P hh 20 sw nu = c := ⟨_, rfl⟩
  rw [hnv] at k1 k2 k4 k5 k6 T2
  rw [htv] at k3 k4 T5
  rw [hs] at k1 T1
  rw [hf] at k5 T6
  rw [hca] at k2 T3
  rw [hoa] at k3 T4
  dsimp only at k1 k5
  have H4 := Lib.hid T0
  have H5 := Lib.hid T1
  have H6 := Lib.hid T2
  have H7 := Lib.hid T3
  have H8 := Lib.hid T4
  have H9 := Lib.hid T5
  have H10 := Lib.hid T6
  have H11 := Lib.hid T7
  have K1 := Lib.hid k1
  have K2 := Lib.hid k2
  have K3 := Lib.hid k3
  have K4 := Lib.hid k4
  have K5 := Lib.hid k5
  have K6 := Lib.hid k6
  have CV := Lib.hid (show ca = 0 ∨ ca = 1 ∨ ca = 2 by rw [← hca]; exact clearA_vals _ _ _)
  have OV := Lib.hid (show oa = 0 ∨ oa = 1 ∨ oa = 2 by rw [← hoa]; exact openA_vals _ _ _)
  have HP := Lib.hid hP
  have HHH := Lib.hid hhh
  have HNU := Lib.hid hnu
  have HSW := Lib.hid hsw
  clear T0 T1 T2 T3 T4 T5 T6 T7 hs hf hca hoa hnv htv a0 a1 hP k1 k2 k3 k4 k5 k6 hhh hnu hsw l0 l1 lv lt f0 f1 htr htb hts hok
  have TM := Lib.hid (fun n m V h0 h1 => mod_any n m V h0 h1)
  go_enter Tryz.func9, Tryz.ntmps9
  go_upto_region 1 with fail
  rw [HW1.out]
  have kb2_0 := B2.out.cell 0
  have kb2_1 := B2.out.cell 1
  have kb2_2 := B2.out.cell 2
  have kb2_3 := B2.out.cell 3
  have kb2_4 := B2.out.cell 4
  go_upto_region 2 with (go_at_call 34; (with_reducible refine (sane_any _).mono ?_); rintro e V2 ⟨rfl, hg⟩)
  clear kb2_0 kb2_1 kb2_2 kb2_3 kb2_4
  have G2 := Lib.hid (G1.out.trans (hg.mono G1.out.size))
  have B2 := Lib.hid (B2.out.ext hg)
  clear hg
  have HMD := Lib.hid (made_call r true A1 A2 A3 n1 c1 n2 c2 n3 c3 V2 (H1.out.below G2.out) (H2.out.below G2.out) (H3.out.below G2.out) HN.out HR.out)
  have kb2_0 := B2.out.cell 0
  have kb2_1 := B2.out.cell 1
  have kb2_2 := B2.out.cell 2
  have kb2_3 := B2.out.cell 3
  have kb2_4 := B2.out.cell 4
  go_upto_region 3 with (go_at_call 15; (with_reducible refine (HMD.out).mono ?_); rintro e V3 ⟨⟨D1, d1, D2, d2, D3, d3, Dn, dn, m1, m2, m3, mn, hm1, hm2, hm3, hmn, rfl, hpa, hia⟩, hg⟩; have HPA := Lib.hid hpa; have HIA := Lib.hid hia; have HM1 := Lib.hid hm1; have HM2 := Lib.hid hm2; have HM3 := Lib.hid hm3; have HMN := Lib.hid hmn; clear hpa hia hm1 hm2 hm3 hmn)
  clear kb2_0 kb2_1 kb2_2 kb2_3 kb2_4
  rw [HP.out] at HPA HM1 HM2 HM3 ⊢
  obtain ⟨W3, hW3⟩ : ∃ W, ((V3.alloc (.cells (plb P D1 D2 D3 m1 d1 m2 d2 m3 d3) 38)).alloc (.cells (#[.int .i64 (r.sown % 200), .slice Dn mn dn]) 41)) = W := ⟨_, rfl⟩
  have ga : Below V3.heap.size V3 W3 := by rw [← hW3]; exact two_more _ _ _
  have gb := hg.trans (ga.mono hg.size)
  have G3 := Lib.hid (G2.out.trans (gb.mono G2.out.size))
  have B2 := Lib.hid (B2.out.ext gb)
  have HPA := Lib.hid (HPA.out.below ga)
  have HIA := Lib.hid (HIA.out.below ga)
  have BP := Lib.hid (show Blk W3 (V3.heap.size) 38 (plb P D1 D2 D3 m1 d1 m2 d2 m3 d3) by rw [← hW3]; exact (Blk.new _ _ _).alloc _)
  have BC := Lib.hid (show Blk W3 (V3.heap.size + 1) 41 (#[.int .i64 (r.sown % 200), .slice Dn mn dn]) by rw [← hW3]; have := Blk.new (V3.alloc (.cells (plb P D1 D2 D3 m1 d1 m2 d2 m3 d3) 38)) 41 (#[.int .i64 (r.sown % 200), .slice Dn mn dn]); rwa [World.size_alloc] at this)
  rw [hW3]
  clear hg ga gb hW3
  rw [HNU.out] at HMN HIA
  rw [HSW.out] at BC ⊢
  have HM19 := Lib.hid (show mn ≤ 9223372036854775807 by rw [HMN.out, HNL.out]; have := H19.out; omega)
  have kbp_0 := BP.out.cell 0
  have kbp_1 := BP.out.cell 1
  have kbp_2 := BP.out.cell 2
  have kbp_3 := BP.out.cell 3
  have kbp_4 := BP.out.cell 4
  have kbp_5 := BP.out.cell 5
  have kbc_0 := BC.out.cell 0
  have kbc_1 := BC.out.cell 1
  go_upto_region 4 with (first | (go_at_call 17; (with_reducible refine (TM.out _ _ _ (by omega) (by omega)).mono ?_); rintro e w' ⟨rfl, rfl⟩))
  clear kbp_0 kbp_1 kbp_2 kbp_3 kbp_4 kbp_5 kbc_0 kbc_1
  rw [HHH.out]
  have kbp_0 := BP.out.cell 0
  have kbp_1 := BP.out.cell 1
  have kbp_2 := BP.out.cell 2
  have kbp_3 := BP.out.cell 3
  have kbp_4 := BP.out.cell 4
  have kbp_5 := BP.out.cell 5
  have kbc_0 := BC.out.cell 0
  have kbc_1 := BC.out.cell 1
  go_upto_region 6 with (go_at_call 21; (with_reducible refine (H4.out _ _ _ _ _ _ _ _ _ _ _ dn _ HPA.out HIA.out HM19.out).mono ?_); rintro e V4 ⟨rfl, hg⟩)
  clear kbp_0 kbp_1 kbp_2 kbp_3 kbp_4 kbp_5 kbc_0 kbc_1
  have G4 := Lib.hid (G3.out.trans (hg.mono G3.out.size))
  have B2 := Lib.hid (B2.out.ext hg)
  have BP := Lib.hid (BP.out.ext hg)
  have BC := Lib.hid (BC.out.ext hg)
  have HPA := Lib.hid (HPA.out.below hg)
  have HIA := Lib.hid (HIA.out.below hg)
  clear hg
  have kbp_0 := BP.out.cell 0
  have kbp_1 := BP.out.cell 1
  have kbp_2 := BP.out.cell 2
  have kbp_3 := BP.out.cell 3
  have kbp_4 := BP.out.cell 4
  have kbp_5 := BP.out.cell 5
  have kbc_0 := BC.out.cell 0
  have kbc_1 := BC.out.cell 1
  go_upto_region 7 with (go_at_call 35; (with_reducible refine (H5.out _ _ _ _ _ _ _ _ _ _ HPA.out).mono ?_); rintro e V5 ⟨rfl, hg⟩)
  clear kbp_0 kbp_1 kbp_2 kbp_3 kbp_4 kbp_5 kbc_0 kbc_1
  obtain ⟨W5, hW5⟩ : ∃ W, (V5.alloc (.cells (#[.int .i64 s0, .int .i64 s1]) 33)) = W := ⟨_, rfl⟩
  have ga : Below V5.heap.size V5 W5 := by rw [← hW5]; exact one_more _ _
  have gb := hg.trans (ga.mono hg.size)
  have G5 := Lib.hid (G4.out.trans (gb.mono G4.out.size))
  have B2 := Lib.hid (B2.out.ext gb)
  have BP := Lib.hid (BP.out.ext gb)
  have BC := Lib.hid (BC.out.ext gb)
  have HPA := Lib.hid (HPA.out.below gb)
  have HIA := Lib.hid (HIA.out.below gb)
  have BS := Lib.hid (show Blk W5 (V5.heap.size) 33 (#[.int .i64 s0, .int .i64 s1]) by rw [← hW5]; exact Blk.new _ _ _)
  rw [hW5]
  clear hg ga gb hW5
  have kbp_0 := BP.out.cell 0
  have kbp_1 := BP.out.cell 1
  have kbp_2 := BP.out.cell 2
  have kbp_3 := BP.out.cell 3
  have kbp_4 := BP.out.cell 4
  have kbp_5 := BP.out.cell 5
  have kbc_0 := BC.out.cell 0
  have kbc_1 := BC.out.cell 1
  have kbs_0 := BS.out.cell 0
  have kbs_1 := BS.out.cell 1
  go_upto_region 8 with (go_at_call 19; (with_reducible refine (H6.out _ _ _ _ _ _ _ _ _ _ _ dn _ HPA.out HIA.out HM19.out).mono ?_); rintro e V6 ⟨rfl, hg⟩)
  clear kbp_0 kbp_1 kbp_2 kbp_3 kbp_4 kbp_5 kbc_0 kbc_1 kbs_0 kbs_1
  have G6 := Lib.hid (G5.out.trans (hg.mono G5.out.size))
  have B2 := Lib.hid (B2.out.ext hg)
  have BP := Lib.hid (BP.out.ext hg)
  have BC := Lib.hid (BC.out.ext hg)
  have BS := Lib.hid (BS.out.ext hg)
  have HPA := Lib.hid (HPA.out.below hg)
  have HIA := Lib.hid (HIA.out.below hg)
  clear hg
  have kbp_0 := BP.out.cell 0
  have kbp_1 := BP.out.cell 1
  have kbp_2 := BP.out.cell 2
  have kbp_3 := BP.out.cell 3
  have kbp_4 := BP.out.cell 4
  have kbp_5 := BP.out.cell 5
  have kbc_0 := BC.out.cell 0
  have kbc_1 := BC.out.cell 1
  have kbs_0 := BS.out.cell 0
  have kbs_1 := BS.out.cell 1
  go_upto_region 9 with (go_at_call 36; (with_reducible refine (H7.out _ _ _ _ _ _ _ _ _ _ HPA.out).mono ?_); rintro e V7 ⟨rfl, hg⟩)
  clear kbp_0 kbp_1 kbp_2 kbp_3 kbp_4 kbp_5 kbc_0 kbc_1 kbs_0 kbs_1
  have G7 := Lib.hid (G6.out.trans (hg.mono G6.out.size))
  have B2 := Lib.hid (B2.out.ext hg)
  have BP := Lib.hid (BP.out.ext hg)
  have BC := Lib.hid (BC.out.ext hg)
  have BS := Lib.hid (BS.out.ext hg)
  have HPA := Lib.hid (HPA.out.below hg)
  have HIA := Lib.hid (HIA.out.below hg)
  clear hg
  have kbp_0 := BP.out.cell 0
  have kbp_1 := BP.out.cell 1
  have kbp_2 := BP.out.cell 2
  have kbp_3 := BP.out.cell 3
  have kbp_4 := BP.out.cell 4
  have kbp_5 := BP.out.cell 5
  have kbc_0 := BC.out.cell 0
  have kbc_1 := BC.out.cell 1
  have kbs_0 := BS.out.cell 0
  have kbs_1 := BS.out.cell 1
  go_upto_region 10 with (go_at_call 18; (with_reducible refine (H8.out _ _ _ _ _ _ _ _ _ _ HPA.out).mono ?_); rintro e V8 ⟨rfl, hg⟩)
  clear kbp_0 kbp_1 kbp_2 kbp_3 kbp_4 kbp_5 kbc_0 kbc_1 kbs_0 kbs_1
  have G8 := Lib.hid (G7.out.trans (hg.mono G7.out.size))
  have B2 := Lib.hid (B2.out.ext hg)
  have BP := Lib.hid (BP.out.ext hg)
  have BC := Lib.hid (BC.out.ext hg)
  have BS := Lib.hid (BS.out.ext hg)
  have HPA := Lib.hid (HPA.out.below hg)
  have HIA := Lib.hid (HIA.out.below hg)
  clear hg
  have kbp_0 := BP.out.cell 0
  have kbp_1 := BP.out.cell 1
  have kbp_2 := BP.out.cell 2
  have kbp_3 := BP.out.cell 3
  have kbp_4 := BP.out.cell 4
  have kbp_5 := BP.out.cell 5
  have kbc_0 := BC.out.cell 0
  have kbc_1 := BC.out.cell 1
  have kbs_0 := BS.out.cell 0
  have kbs_1 := BS.out.cell 1
  go_upto_region 11 with (go_at_call 52; (with_reducible refine (H9.out _ _ _ _ _ _ _ _ _ _ _ dn _ HPA.out HIA.out HM19.out).mono ?_); rintro e V9 ⟨rfl, hg⟩)
  clear kbp_0 kbp_1 kbp_2 kbp_3 kbp_4 kbp_5 kbc_0 kbc_1 kbs_0 kbs_1
  have G9 := Lib.hid (G8.out.trans (hg.mono G8.out.size))
  have B2 := Lib.hid (B2.out.ext hg)
  have BP := Lib.hid (BP.out.ext hg)
  have BC := Lib.hid (BC.out.ext hg)
  have BS := Lib.hid (BS.out.ext hg)
  have HPA := Lib.hid (HPA.out.below hg)
  have HIA := Lib.hid (HIA.out.below hg)
  clear hg
  have kbp_0 := BP.out.cell 0
  have kbp_1 := BP.out.cell 1
  have kbp_2 := BP.out.cell 2
  have kbp_3 := BP.out.cell 3
  have kbp_4 := BP.out.cell 4
  have kbp_5 := BP.out.cell 5
  have kbc_0 := BC.out.cell 0
  have kbc_1 := BC.out.cell 1
  have kbs_0 := BS.out.cell 0
  have kbs_1 := BS.out.cell 1
  go_upto_region 12 with (go_at_call 23; (with_reducible refine (H10.out _ _ _ _ _ _ _ _ _ _ HPA.out).mono ?_); rintro e V10 ⟨rfl, hg⟩)
  clear kbp_0 kbp_1 kbp_2 kbp_3 kbp_4 kbp_5 kbc_0 kbc_1 kbs_0 kbs_1
  obtain ⟨W10, hW10⟩ : ∃ W, (V10.alloc (.cells (#[.int .i64 f0', .int .i64 f1']) 33)) = W := ⟨_, rfl⟩
  have ga : Below V10.heap.size V10 W10 := by rw [← hW10]; exact one_more _ _
  have gb := hg.trans (ga.mono hg.size)
  have G10 := Lib.hid (G9.out.trans (gb.mono G9.out.size))
  have B2 := Lib.hid (B2.out.ext gb)
  have BP := Lib.hid (BP.out.ext gb)
  have BC := Lib.hid (BC.out.ext gb)
  have BS := Lib.hid (BS.out.ext gb)
  have HPA := Lib.hid (HPA.out.below gb)
  have HIA := Lib.hid (HIA.out.below gb)
  have BF := Lib.hid (show Blk W10 (V10.heap.size) 33 (#[.int .i64 f0', .int .i64 f1']) by rw [← hW10]; exact Blk.new _ _ _)
  rw [hW10]
  clear hg ga gb hW10
  have kbp_0 := BP.out.cell 0
  have kbp_1 := BP.out.cell 1
  have kbp_2 := BP.out.cell 2
  have kbp_3 := BP.out.cell 3
  have kbp_4 := BP.out.cell 4
  have kbp_5 := BP.out.cell 5
  have kbc_0 := BC.out.cell 0
  have kbc_1 := BC.out.cell 1
  have kbs_0 := BS.out.cell 0
  have kbs_1 := BS.out.cell 1
  have kbf_0 := BF.out.cell 0
  have kbf_1 := BF.out.cell 1
  go_upto_region 14 with fail
  go_cut [146] from 99 to 146 (fun cc wx => cc = .bool false ∧ W10 = wx)
  case first =>
    have k1 := K1.out
    have k6 := K6.out
    have e1 : decide (nv < s0) = false := decide_eq_false (by omega)
    have e2 : decide (s1 < nv) = false := decide_eq_false (by omega)
    cases tv with
    | true =>
      have hz := K4.out rfl
      subst hz
      have hc0 : ca ≠ 0 := fun h => by have := K2.out.2 h; omega
      have ho0 : oa ≠ 0 := fun h => by have := K3.out.2 h; cases this
      have b1 : (ca == 0) = false := by simpa using hc0
      have b2 : (oa == 0) = false := by simpa using ho0
      by_cases c1 : ca = 1
      · by_cases o1 : oa = 1
        · subst c1 o1
          go_wp2_with fail
          go_meet
          exact ⟨rfl, rfl⟩
        · have b3 : (oa == 1) = false := by simpa using o1
          subst c1
          go_wp2_with fail
          go_meet
          exact ⟨rfl, rfl⟩
      · have b4 : (ca == 1) = false := by simpa using c1
        by_cases o1 : oa = 1
        · subst o1
          go_wp2_with fail
          go_meet
          exact ⟨rfl, rfl⟩
        · have b3 : (oa == 1) = false := by simpa using o1
          go_wp2_with fail
          go_meet
          exact ⟨rfl, rfl⟩
    | false =>
      have ho1 : oa ≠ 1 := fun h => by have := K3.out.1 h; cases this
      have b2 : (oa == 1) = false := by simpa using ho1
      by_cases c1 : ca = 1
      · have hz := K2.out.1 c1
        subst hz c1
        by_cases o1 : oa = 0
        · subst o1
          go_wp2_with fail
          go_meet
          exact ⟨rfl, rfl⟩
        · have b3 : (oa == 0) = false := by simpa using o1
          go_wp2_with fail
          go_meet
          exact ⟨rfl, rfl⟩
      · have b4 : (ca == 1) = false := by simpa using c1
        by_cases c0 : ca = 0
        · have hz := K2.out.2 c0
          have b5 : (nv == 0) = false := by simp; omega
          subst c0
          by_cases o1 : oa = 0
          · subst o1
            go_wp2_with fail
            go_meet
            exact ⟨rfl, rfl⟩
          · have b3 : (oa == 0) = false := by simpa using o1
            go_wp2_with fail
            go_meet
            exact ⟨rfl, rfl⟩
        · have b6 : (ca == 0) = false := by simpa using c0
          by_cases o1 : oa = 0
          · subst o1
            go_wp2_with fail
            go_meet
            exact ⟨rfl, rfl⟩
          · have b3 : (oa == 0) = false := by simpa using o1
            go_wp2_with fail
            go_meet
            exact ⟨rfl, rfl⟩
  case rest =>
    obtain ⟨rfl, rfl⟩ := hcut
    go_upto_region 16 with fail
    go_cut [164] from 147 to 164 (fun cc wx => cc = .bool false ∧ W10 = wx)
    case first =>
      have k6 := K6.out
      by_cases hz : nv = 0
      · have h5 := K5.out.1 hz
        have b1 : decide (hh < f0') = false := decide_eq_false (by omega)
        subst hz
        go_wp2_with fail
        go_meet
        exact ⟨rfl, rfl⟩
      · have h5 := K5.out.2 (by omega)
        have b1 : (nv == 0) = false := by simpa using hz
        have b2 : decide (0 < nv) = true := decide_eq_true (by omega)
        have b3 : decide (f1' ≤ hh) = false := decide_eq_false (by omega)
        go_wp2_with fail
        go_meet
        exact ⟨rfl, rfl⟩
    case rest =>
      obtain ⟨rfl, rfl⟩ := hcut
      have hm6 : m1 ≤ 19 := by rw [HM1.out]; exact H19.out
      go_upto_region 18 with fail
      clear kbp_0 kbp_1 kbp_2 kbp_3 kbp_4 kbp_5 kbc_0 kbc_1 kbs_0 kbs_1 kbf_0 kbf_1
      go_upto_region 19 with fail
      go_loopw [20] (fun i wr => ∃ k : Nat, k ≤ m1 ∧ i = .int .i64 k ∧ Below W10.heap.size W10 wr) (fun i _ => m1 - (intOf i).toNat)
      case atStart => exact ⟨0, Nat.zero_le _, rfl, Below.refl _ _⟩
      case round =>
        obtain ⟨k, hk, rfl, hgk⟩ := hrel
        obtain ⟨V, rfl⟩ : ∃ V : World, V = wr := ⟨_, rfl⟩
        have HGK := Lib.hid hgk
        have hvs := hgk.size
        have BPk := Lib.hid (BP.out.ext hgk)
        have BCk := Lib.hid (BC.out.ext hgk)
        have HPAk := Lib.hid (HPA.out.below hgk)
        have HIAk := Lib.hid (HIA.out.below hgk)
        have p2 := BPk.out.cell 2
        clear hgk
        by_cases hkn : k < m1
        · obtain ⟨b0, o0, e0, -, -, hc⟩ := six_at HPAk.out.l1 hkn
          have hkl : k < P.loads.length := by rw [← HM1.out]; exact hkn
          obtain ⟨hc1, hc2, hc3⟩ := HCR.out k hkl
          have TQ := fun X (g : Below V.heap.size V X) => H11.out D1 d1 D2 d2 D3 d3 m1 m2 m3 (P.loads.getD k z6).a X (HPAk.out.below g)
          obtain ⟨q, hq⟩ : ∃ q, P.loads.getD k z6 = q := ⟨_, rfl⟩
          rw [hq] at hc hc1 hc2 hc3 TQ
          rw [hc1] at TQ
          obtain ⟨⟨x0, x1⟩, hx⟩ : ∃ s, cartR P q.a 20 = s := ⟨_, rfl⟩
          rw [hx] at hc2 hc3 TQ
          dsimp only at hc2 hc3
          have HTQ := Lib.hid TQ
          subst e0
          have HKP := Lib.hid (fun X (g : Below V.heap.size V X) => (⟨(BPk.out.ext g).cell 0, (BPk.out.ext g).cell 1, (BPk.out.ext g).cell 2, (BPk.out.ext g).cell 3, (BPk.out.ext g).cell 4, (BPk.out.ext g).cell 5, (hc _ g).1⟩ : X.cell? ⟨V3.heap.size, 0, none⟩ = some (.int .i64 P.lo) ∧ X.cell? ⟨V3.heap.size, 1, none⟩ = some (.int .i64 P.hi) ∧ X.cell? ⟨V3.heap.size, 2, none⟩ = some (.slice (some ⟨b0, o0, none⟩) m1 d1) ∧ X.cell? ⟨V3.heap.size, 3, none⟩ = some (.slice D2 m2 d2) ∧ X.cell? ⟨V3.heap.size, 4, none⟩ = some (.slice D3 m3 d3) ∧ X.cell? ⟨V3.heap.size, 5, none⟩ = some (.int .i64 P.geese) ∧ X.cell? ⟨b0, o0 + k * 6, none⟩ = some (.int .i64 q.a)))
          have hmnk : k < mn := by rw [HMN.out, HNL.out]; exact hkl
          obtain ⟨b9, o9, e9, -, -, hc9⟩ := ints_at HIAk.out hmnk
          obtain ⟨nk, hnk⟩ : ∃ n, nu.getD k 0 = n := ⟨_, rfl⟩
          rw [hnk] at hc2 hc3 hc9
          have HC9 := Lib.hid hc9
          subst e9
          have hk1 : (k : Int) < (m1 : Int) := by omega
          have hk2 : (k : Int) < (mn : Int) := by omega
          clear hc hc1 hq TQ hx hnk hc9
          go_upto_region 21 with fail
          clear p2
          obtain ⟨p0, p1, p2, p3, p4, p5, p6⟩ := HKP.out V (Below.refl _ _)
          go_cut [21, 22] from 173 to 182 (fun s21 s22 wx => ∃ b21, s21 = .pointer (some ⟨b21, 0, none⟩) ∧ s22 = .int .i64 0 ∧ Below V.heap.size V wx ∧ Blk wx b21 33 #[.int .i64 x0, .int .i64 x1])
          case first =>
            go_region_held3 (fun X => X.cell? ⟨V3.heap.size, 0, none⟩ = some (.int .i64 P.lo) ∧ X.cell? ⟨V3.heap.size, 1, none⟩ = some (.int .i64 P.hi) ∧ X.cell? ⟨V3.heap.size, 2, none⟩ = some (.slice (some ⟨b0, o0, none⟩) m1 d1) ∧ X.cell? ⟨V3.heap.size, 3, none⟩ = some (.slice D2 m2 d2) ∧ X.cell? ⟨V3.heap.size, 4, none⟩ = some (.slice D3 m3 d3) ∧ X.cell? ⟨V3.heap.size, 5, none⟩ = some (.int .i64 P.geese) ∧ X.cell? ⟨b0, o0 + k * 6, none⟩ = some (.int .i64 q.a))
              (first | exact HKP.out _ (by exact (Below.refl _ _).drew) | exact HKP.out _ (by exact (one_more _ _).drew) | exact HKP.out _ (by exact G9.out) | exact HKP.out _ (by exact G9.out.trans ((one_more _ _).mono G9.out.size)) | exact HKP.out _ (by exact (G9.out.setCell (p := ⟨V.heap.size, 0, none⟩) (Nat.le_refl _) _).setCell (p := ⟨V.heap.size, 1, none⟩) (Nat.le_refl _) _))
              (first
                | (go_at_call 55; (with_reducible refine (HTQ.out _ (Below.refl _ _).drew).mono ?_); rintro e V9 ⟨rfl, hg⟩; have G9 := Lib.hid (show Below V.heap.size V V9 from (Below.refl _ _).drew.trans hg); clear hg)
                | (go_at_call 55; (with_reducible refine (HTQ.out _ (one_more _ (.cells #[.int .i64 0, .int .i64 0] 33)).drew).mono ?_); rintro e V9 ⟨rfl, hg⟩; have KN := Lib.hid ((Blk.new V 33 #[.int .i64 0, .int .i64 0]).drew_.ext hg); have y0 := KN.out.cell 0; have y1 := KN.out.cell 1; have y2 := KN.out.frozen 0; have y3 := KN.out.frozen 1; have G9 := Lib.hid (show Below V.heap.size V V9 from (one_more V (.cells #[.int .i64 0, .int .i64 0] 33)).drew.trans (hg.mono (by simp))); clear hg))
            all_goals (try go_wp2_with fail)
            all_goals go_meet
            all_goals first
              | exact ⟨_, rfl, rfl, G9.out.trans ((one_more _ _).mono G9.out.size), Blk.new _ _ _⟩
              | exact ⟨_, rfl, rfl, (G9.out.setCell (p := ⟨V.heap.size, 0, none⟩) (Nat.le_refl _) _).setCell (p := ⟨V.heap.size, 1, none⟩) (Nat.le_refl _) _, (KN.out.set_ 0 (.int .i64 x0)).set_ 1 (.int .i64 x1)⟩
          case rest =>
            obtain ⟨b21, rfl, rfl, hgd, hb21⟩ := hcut
            have v1 := cellW ((BCk.out.ext hgd).cell 1)
            have v2 := cellW (HC9.out _ hgd)
            have v3 := cellW (hb21.cell 0)
            have v4 := cellW (hb21.cell 1)
            have HGD := Lib.hid hgd
            have dz1 : decide (nk < x0) = false := decide_eq_false (by omega)
            have dz2 : decide (x1 < nk) = false := decide_eq_false (by omega)
            clear hgd hb21 p0 p1 p2 p3 p4 p5 p6
            go_upto_region 22 with fail
            refine wp_region_calm wc (by kernel_rfl) (by kernel_rfl) (Below.refl _ _) ?_
            repeat (go_big_quiet_step (fail))
            refine wpQuiet_nil ?_
            rintro _ ⟨z, rfl⟩
            have GZ := Lib.hid (HGK.out.trans ((HGD.out.trans (z.ok.mono HGD.out.size)).mono hvs))
            clear v1 v2 v3 v4
            go_wp2_with fail
            go_roundw
            case rel => exact ⟨k + 1, by omega, by go_num, GZ.out⟩
            case measure => simp [intOf]; omega
        · obtain rfl : m1 = k := by omega
          go_wp2_with fail
          go_ret
          exact ⟨rfl, G10.out.trans (HGK.out.mono G10.out.size)⟩
end Go.Proofs.YtkoejeghihcmlaaGreat
