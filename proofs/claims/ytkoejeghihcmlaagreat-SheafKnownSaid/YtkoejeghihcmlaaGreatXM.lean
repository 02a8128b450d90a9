/- The law SheafKnown. -/
import Derived.Test.YtkoejeghihcmlaaGreatXB
import Derived.Test.YtkoejeghihcmlaaGreatWD
import Derived.Test.YtkoejeghihcmlaaGreatWS
import Derived.Test.YtkoejeghihcmlaaGreatWK
import Derived.Test.YtkoejeghihcmlaaGreatXG
namespace Go.Proofs.YtkoejeghihcmlaaGreat
open Go.RowKit Go.Shelf

set_option maxRecDepth 100000 in
set_option maxHeartbeats 16000000 in
theorem law7_any (r : Raw) (A1 A2 A3 : Option Addr) (n1 c1 n2 c2 n3 c3 : Nat) (x y z : Int) (w : World) (h1 : Arr q4cells 4 w A1 n1 r.loads) (h2 : Arr q4cells 4 w A2 n2 r.stands) (h3 : Arr q4cells 4 w A3 n3 r.spells)
    (hn : n1 ≤ 9223372036854775807 ∧ n2 ≤ 9223372036854775807 ∧ n3 ≤ 9223372036854775807) (hr : RawOk r) (_ix : I64 x) (_iy : I64 y) (_iz : I64 z) :
    Calls Tryz.prog 7 #[.agg (rawv r A1 A2 A3 n1 c1 n2 c2 n3 c3), .agg #[.int .i64 x, .int .i64 y, .int .i64 z]] w fun e w' => e = .returned (.bool true) ∧ Below w.heap.size w w' := by
  have H1 := Lib.hid h1
  have H2 := Lib.hid h2
  have H3 := Lib.hid h3
  have HN := Lib.hid hn
  have HR := Lib.hid hr
  clear h1 h2 h3 hn hr
  obtain ⟨W1, hW1⟩ : ∃ W1, (w.alloc (.cells (rawv r A1 A2 A3 n1 c1 n2 c2 n3 c3) 24)).alloc (.cells #[.int .i64 x, .int .i64 y, .int .i64 z] 93) = W1 := ⟨_, rfl⟩
  have G1 := Lib.hid (show Below w.heap.size w W1 by rw [← hW1]; exact two_more _ _ _)
  have B2 := Lib.hid (show Blk W1 w.heap.size 24 (rawv r A1 A2 A3 n1 c1 n2 c2 n3 c3) by rw [← hW1]; exact (Blk.new _ _ _).alloc _)
  have B3 := Lib.hid (show Blk W1 (w.heap.size + 1) 93 #[.int .i64 x, .int .i64 y, .int .i64 z] by rw [← hW1]; have := Blk.new (w.alloc (.cells (rawv r A1 A2 A3 n1 c1 n2 c2 n3 c3) 24)) 93 #[.int .i64 x, .int .i64 y, .int .i64 z]; rwa [World.size_alloc] at this)
  have HW1 := Lib.hid hW1
  clear hW1
  obtain ⟨P, hP⟩ : ∃ P, madeP r false = P := ⟨_, rfl⟩
  have H19 := Lib.hid (show P.loads.length ≤ 19 by rw [← hP]; exact made_19 r false)
  have hok : okPl P = true := by rw [← hP]; exact made_ok r false
  have hpl : Plain0 P := by rw [← hP]; exact made_plain r false
  obtain ⟨hh, hhh⟩ : ∃ h, 15 + x % 130 = h := ⟨_, rfl⟩
  have hh0 : 15 ≤ hh := by omega
  have hh1 : hh ≤ 144 := by omega
  obtain ⟨kn, hkn⟩ : ∃ h, y % 24 = h := ⟨_, rfl⟩
  have hk0 : 0 ≤ kn := by omega
  have hk1 : kn ≤ 23 := by omega
  obtain ⟨so, hso⟩ : ∃ h, 1 + z % 30 = h := ⟨_, rfl⟩
  have hs0 : 1 ≤ so := by omega
  have hs1 : so ≤ 30 := by omega
  have HOK := Lib.hid hok
  have HPLN := Lib.hid hpl
  have HP := Lib.hid hP
  have HHH := Lib.hid hhh
  have HKN := Lib.hid hkn
  have HSO := Lib.hid hso
  clear hok hpl hP hhh hkn hso
  have TM := Lib.hid (fun n m V h0 h1 => mod_any n m V h0 h1)
  go_enter Tryz.func7, Tryz.ntmps7
  go_upto_region 1 with fail
  rw [HW1.out]
  have kb3_0 := B3.out.cell 0
  have kb3_1 := B3.out.cell 1
  have kb3_2 := B3.out.cell 2
  have kb2_0 := B2.out.cell 0
  have kb2_1 := B2.out.cell 1
  have kb2_2 := B2.out.cell 2
  have kb2_3 := B2.out.cell 3
  have kb2_4 := B2.out.cell 4
  go_upto_region 2 with (go_at_call 34; (with_reducible refine (sane_any _).mono ?_); rintro e V2 ⟨rfl, hg⟩)
  clear kb3_0 kb3_1 kb3_2 kb2_0 kb2_1 kb2_2 kb2_3 kb2_4
  have G2 := Lib.hid (G1.out.trans (hg.mono G1.out.size))
  have B3 := Lib.hid (B3.out.ext hg)
  have B2 := Lib.hid (B2.out.ext hg)
  clear hg
  have HMD := Lib.hid (made_call r false A1 A2 A3 n1 c1 n2 c2 n3 c3 V2 (H1.out.below G2.out) (H2.out.below G2.out) (H3.out.below G2.out) HN.out HR.out)
  have kb3_0 := B3.out.cell 0
  have kb3_1 := B3.out.cell 1
  have kb3_2 := B3.out.cell 2
  have kb2_0 := B2.out.cell 0
  have kb2_1 := B2.out.cell 1
  have kb2_2 := B2.out.cell 2
  have kb2_3 := B2.out.cell 3
  have kb2_4 := B2.out.cell 4
  go_upto_region 3 with (go_at_call 15; (with_reducible refine (HMD.out).mono ?_); rintro e V3 ⟨⟨D1, d1, D2, d2, D3, d3, Dn, dn, m1, m2, m3, mn, hm1, hm2, hm3, hmn, rfl, hpa, hia⟩, hg⟩; have HPA := Lib.hid hpa; have HIA := Lib.hid hia; have HM1 := Lib.hid hm1; have HM2 := Lib.hid hm2; have HM3 := Lib.hid hm3; have HMN := Lib.hid hmn; clear hpa hia hm1 hm2 hm3 hmn)
  clear kb3_0 kb3_1 kb3_2 kb2_0 kb2_1 kb2_2 kb2_3 kb2_4
  rw [HP.out] at HPA HM1 HM2 HM3 ⊢
  obtain ⟨W3, hW3⟩ : ∃ W, ((V3.alloc (.cells (plb P D1 D2 D3 m1 d1 m2 d2 m3 d3) 38)).alloc (.cells (#[.int .i64 (r.sown % 200), .slice Dn mn dn]) 41)) = W := ⟨_, rfl⟩
  have ga : Below V3.heap.size V3 W3 := by rw [← hW3]; exact two_more _ _ _
  have gb := hg.trans (ga.mono hg.size)
  have G3 := Lib.hid (G2.out.trans (gb.mono G2.out.size))
  have B3 := Lib.hid (B3.out.ext gb)
  have B2 := Lib.hid (B2.out.ext gb)
  have HPA := Lib.hid (HPA.out.below ga)
  have HIA := Lib.hid (HIA.out.below ga)
  have BP := Lib.hid (show Blk W3 (V3.heap.size) 38 (plb P D1 D2 D3 m1 d1 m2 d2 m3 d3) by rw [← hW3]; exact (Blk.new _ _ _).alloc _)
  have BC := Lib.hid (show Blk W3 (V3.heap.size + 1) 41 (#[.int .i64 (r.sown % 200), .slice Dn mn dn]) by rw [← hW3]; have := Blk.new (V3.alloc (.cells (plb P D1 D2 D3 m1 d1 m2 d2 m3 d3) 38)) 41 (#[.int .i64 (r.sown % 200), .slice Dn mn dn]); rwa [World.size_alloc] at this)
  rw [hW3]
  clear hg ga gb hW3
  have kb3_0 := B3.out.cell 0
  have kb3_1 := B3.out.cell 1
  have kb3_2 := B3.out.cell 2
  have kbp_0 := BP.out.cell 0
  have kbp_1 := BP.out.cell 1
  have kbp_2 := BP.out.cell 2
  have kbp_3 := BP.out.cell 3
  have kbp_4 := BP.out.cell 4
  have kbp_5 := BP.out.cell 5
  go_upto_region 4 with (first | (go_at_call 17; (with_reducible refine (TM.out _ _ _ (by omega) (by omega)).mono ?_); rintro e w' ⟨rfl, rfl⟩))
  clear kb3_0 kb3_1 kb3_2 kbp_0 kbp_1 kbp_2 kbp_3 kbp_4 kbp_5
  rw [HHH.out]
  have kb3_0 := B3.out.cell 0
  have kb3_1 := B3.out.cell 1
  have kb3_2 := B3.out.cell 2
  have kbp_0 := BP.out.cell 0
  have kbp_1 := BP.out.cell 1
  have kbp_2 := BP.out.cell 2
  have kbp_3 := BP.out.cell 3
  have kbp_4 := BP.out.cell 4
  have kbp_5 := BP.out.cell 5
  go_upto_region 5 with (first | (go_at_call 17; (with_reducible refine (TM.out _ _ _ (by omega) (by omega)).mono ?_); rintro e w' ⟨rfl, rfl⟩))
  clear kb3_0 kb3_1 kb3_2 kbp_0 kbp_1 kbp_2 kbp_3 kbp_4 kbp_5
  rw [HKN.out]
  have kb3_0 := B3.out.cell 0
  have kb3_1 := B3.out.cell 1
  have kb3_2 := B3.out.cell 2
  have kbp_0 := BP.out.cell 0
  have kbp_1 := BP.out.cell 1
  have kbp_2 := BP.out.cell 2
  have kbp_3 := BP.out.cell 3
  have kbp_4 := BP.out.cell 4
  have kbp_5 := BP.out.cell 5
  go_upto_region 6 with fail
  clear kb3_0 kb3_1 kb3_2 kbp_0 kbp_1 kbp_2 kbp_3 kbp_4 kbp_5
  clear BC HIA HMN
  have HPO := Lib.hid (ok_parts HOK.out)
  have HN60 := Lib.hid (show m1 ≤ 1000 ∧ m2 ≤ 1000 ∧ m3 ≤ 1000 by
    have h1 := HPO.out.2.2.2.2.2.1
    have h2 := HPO.out.2.2.2.2.2.2.1
    have h3 := HPO.out.2.2.2.2.2.2.2.1
    have k1 := HPA.out.l1.1
    have k2 := HPA.out.l2.1
    have k3 := HPA.out.l3.1
    omega)
  have NW0 := Lib.hid (Nw.new W3 P.lo P.hi P.geese)
  have hbl := BP.out.lt
  have qz := ((BP.out.ext NW0.out.g)).cell 2
  go_wp2_with fail
  clear qz
  go_loopw [11] (fun i wr => ∃ (k : Nat) (v : Value), i = .int .i64 k ∧ k ≤ m1 ∧ Nw W3 W3.heap.size P.lo P.hi P.geese wr v (.slice none 0 0) (.slice none 0 0) (nwL kn (P.loads.take k)) [] []) (fun i _ => m1 - (intOf i).toNat)
  case atStart => exact ⟨0, _, rfl, Nat.zero_le _, NW0.out⟩
  case round =>
    obtain ⟨k, v, rfl, hk, hn⟩ := hrel
    have HNW := Lib.hid hn
    clear hn
    have HG := Lib.hid HNW.out.g
    have hnb := HN60.out
    by_cases hkm : k < m1
    · obtain ⟨b0, o0, e0, -, -, hc⟩ := six_at HPA.out.l1 hkm
      obtain ⟨x0, x1, x2, x3, x4, x5⟩ := hc _ HG.out
      have HLN := Lib.hid (show k < P.loads.length by rw [HPA.out.l1.1]; exact hkm)
      obtain ⟨x, hxg⟩ : ∃ x, P.loads.getD k z6 = x := ⟨_, rfl⟩
      rw [hxg] at x0 x1 x2 x3 x4 x5 hc
      have HXG := Lib.hid hxg
      subst e0
      have HC := Lib.hid hc
      clear hc hxg
      have q1 := (BP.out.ext HG.out).cell 2
      have hbw := HNW.out.p.lt
      by_cases hx : x.e ≤ kn
      · have HNY := Lib.hid (nw_yes (known := kn) HLN.out (by rw [HXG.out]; exact hx))
        rw [HXG.out] at HNY
        have hd : decide (x.e ≤ kn) = true := decide_eq_true hx
        have HPL := Lib.hid (show (nwL kn (P.loads.take k)).length + 1 ≤ 1000000 by have h1 := nw_len kn (P.loads.take k); rw [List.length_take] at h1; omega)
        obtain ⟨Av, cv, hv, -⟩ := OwnL.arr kdL HNW.out.o1
        obtain ⟨nv, hnv⟩ : ∃ q, (nwL kn (P.loads.take k)).length = q := ⟨_, rfl⟩
        rw [hnv] at hv
        subst hv
        have q2 := HNW.out.p.cell 2
        have HOX := Lib.hid (HNW.out.ext (one_more wr (.cells #[.int .i64 x.a, .int .i64 x.b, .int .i64 x.c, .int .i64 x.d, .int .i64 x.e, .int .i64 x.f] 103)))
        have HI1 := Lib.hid (six_one wr 103 x)
        clear hnv
        go_upto_region 10 with fail
        refine wp_region_uptoQ (S := fun V => V.cell? ⟨W3.heap.size, 2, none⟩ = some (.slice Av nv cv) ∧ V.cell? ⟨V3.heap.size, 2, none⟩ = some (.slice (some ⟨b0, o0, none⟩) m1 d1) ∧ V.cell? ⟨b0, o0 + k * 6, none⟩ = some (.int .i64 x.a) ∧ V.cell? ⟨b0, o0 + k * 6 + 1, none⟩ = some (.int .i64 x.b) ∧ V.cell? ⟨b0, o0 + k * 6 + 2, none⟩ = some (.int .i64 x.c) ∧ V.cell? ⟨b0, o0 + k * 6 + 3, none⟩ = some (.int .i64 x.d) ∧ V.cell? ⟨b0, o0 + k * 6 + 4, none⟩ = some (.int .i64 x.e) ∧ V.cell? ⟨b0, o0 + k * 6 + 5, none⟩ = some (.int .i64 x.f)) 10 (by kernel_rfl) (⟨q2, q1, x0, x1, x2, x3, x4, x5⟩) (fun hHeld => ?_)
        (refine upto_take [1, 8, 10] (i := 0) (oi := ⟨_, _, _, _, _, _⟩) (d := some 67) (v := ?_) rfl rfl (by kernel_rfl) (by kernel_rfl) (fun _ _ _ h => h) (by rfl) ?_ (by assumption) ?_; rotate_left; (focus (intro w hSw; (try dsimp only at hSw); go_simp; try with_reducible rfl)); (try simp only [Act.put, List.setIfInBounds_toArray, List.set_cons_zero, List.set_cons_succ]))
        (refine upto_take [8, 10] (i := 1) (oi := ⟨_, _, _, _, _, _⟩) (d := some 68) (v := ?_) rfl rfl (by kernel_rfl) (by kernel_rfl) (fun _ _ _ h => h) (by rfl) ?_ (by assumption) ?_; rotate_left; (focus (intro w hSw; (try dsimp only at hSw); go_simp; try with_reducible rfl)); (try simp only [Act.put, List.setIfInBounds_toArray, List.set_cons_zero, List.set_cons_succ]))
        (refine upto_take [3, 5, 6, 7, 8, 10] (i := 2) (oi := ⟨_, _, _, _, _, _⟩) (d := some 69) (v := ?_) rfl rfl (by kernel_rfl) (by kernel_rfl) (fun _ _ _ h => h) (by rfl) ?_ (by assumption) ?_; rotate_left; (focus (intro w hSw; (try dsimp only at hSw); go_simp; try with_reducible rfl)); (try simp only [Act.put, List.setIfInBounds_toArray, List.set_cons_zero, List.set_cons_succ]))
        (refine upto_take [5, 6, 7, 8, 10] (i := 3) (oi := ⟨_, _, _, _, _, _⟩) (d := some 70) (v := ?_) rfl rfl (by kernel_rfl) (by kernel_rfl) (fun _ _ _ h => h) (by rfl) ?_ (by assumption) ?_; rotate_left; (focus (intro w hSw; (try dsimp only at hSw); go_simp; try with_reducible rfl)); (try simp only [Act.put, List.setIfInBounds_toArray, List.set_cons_zero, List.set_cons_succ]))
        (refine upto_take [5, 6, 7, 8, 10] (i := 4) (oi := ⟨_, _, _, _, _, _⟩) (d := some 71) (v := ?_) rfl rfl (by kernel_rfl) (by kernel_rfl) (fun _ _ _ h => h) (by rfl) ?_ (by assumption) ?_; rotate_left; (focus (intro w hSw; (try dsimp only at hSw); go_simp; try with_reducible rfl)); (try simp only [Act.put, List.setIfInBounds_toArray, List.set_cons_zero, List.set_cons_succ]))
        (refine upto_take [6, 7, 8, 10] (i := 5) (oi := ⟨_, _, _, _, _, _⟩) (d := some 72) (v := ?_) rfl rfl (by kernel_rfl) (by kernel_rfl) (fun _ _ _ h => h) (by rfl) ?_ (by assumption) ?_; rotate_left; (focus (intro w hSw; (try dsimp only at hSw); go_simp; try with_reducible rfl)); (try simp only [Act.put, List.setIfInBounds_toArray, List.set_cons_zero, List.set_cons_succ]))
        (refine upto_take [7, 8, 10] (i := 6) (oi := ⟨_, _, _, _, _, _⟩) (d := some 73) (v := ?_) rfl rfl (by kernel_rfl) (by kernel_rfl) (fun _ _ _ h => h) (by rfl) ?_ (by assumption) ?_; rotate_left; (focus (intro w hSw; (try dsimp only at hSw); go_simp; try with_reducible rfl)); (try simp only [Act.put, List.setIfInBounds_toArray, List.set_cons_zero, List.set_cons_succ]))
        refine upto_one 7 (o := ⟨_, _, _, _, _, _⟩) rfl (by kernel_rfl) (by decide) (fun K hK => ?_)
        go_simp
        refine hK.out _ _ ?_ (fun hHeld => ?_)
        · exact ⟨keepAlloc q2 _, keepAlloc q1 _, keepAlloc x0 _, keepAlloc x1 _, keepAlloc x2 _, keepAlloc x3 _, keepAlloc x4 _, keepAlloc x5 _⟩
        clear hK K
        (try simp only [Act.put, List.setIfInBounds_toArray, List.set_cons_zero, List.set_cons_succ])
        refine upto_one 8 (o := ⟨_, _, _, _, _, _⟩) rfl (by kernel_rfl) (by decide) (fun K hK => ?_)
        (go_loud (refine step_app kdL (by rfl) _ _ (by rfl) (W3.heap.size + 1) (.slice Av nv cv) (nwL kn (P.loads.take k)) (by rfl) HOX.out.o1 _ 1 1 [x] (by rfl) HI1.out HPL.out (by simp; omega) ?_); intro v' w2 ho2 hg2 hz2; have hg2 : (wr.alloc (.cells #[.int .i64 x.a, .int .i64 x.b, .int .i64 x.c, .int .i64 x.d, .int .i64 x.e, .int .i64 x.f] 103)).grownBy w2 (Value.slice Av nv cv).ownBlock := ⟨hg2.os, hg2.tape, hg2.output, hg2.size, hg2.block⟩; obtain ⟨Av2, cv2, hve, -⟩ := OwnL.arr kdL ho2; obtain ⟨nv2, hnv2⟩ : ∃ q, ((nwL kn (P.loads.take k)) ++ [x]).length = q := ⟨_, rfl⟩; rw [hnv2] at hve; subst hve; clear hnv2; have NP := Lib.hid (HOX.out.put1 hg2 ho2); have b9' := HOX.out.p.grown hg2 (fun e => by have := (own_lt HOX.out.o1 e).1; omega); have n0 := b9'.cell 2; have n1 := b9'.frozen 2; have hg3 := HOX.out.g.grown hg2 (Nat.le_of_lt HOX.out.p.lt) (fun k e => by have := (own_lt HOX.out.o1 e).1; omega); have n2 := (BP.out.ext hg3).cell 2; obtain ⟨y0, y1, y2, y3, y4, y5⟩ := HC.out _ hg3; clear hg3 ho2 hg2 hz2 b9')
        refine hK.out _ _ ?_ (fun hHeld => ?_)
        · exact ⟨n0, n2, y0, y1, y2, y3, y4, y5⟩
        clear hK K
        (try simp only [Act.put, List.setIfInBounds_toArray, List.set_cons_zero, List.set_cons_succ])
        (refine upto_take [10] (i := 9) (oi := ⟨_, _, _, _, _, _⟩) (d := some 76) (v := ?_) rfl rfl (by kernel_rfl) (by kernel_rfl) (fun _ _ _ h => h) (by rfl) ?_ (by assumption) ?_; rotate_left; (focus (intro w hSw; (try dsimp only at hSw); go_simp; try with_reducible rfl)); (try simp only [Act.put, List.setIfInBounds_toArray, List.set_cons_zero, List.set_cons_succ]))
        refine upto_last (o := ⟨_, _, _, _, _, _⟩) rfl (by kernel_rfl) (fun K hK => ?_)
        go_simp
        refine hK.out _ _ ?_
        clear hK K
        (try simp only [Act.put, List.setIfInBounds_toArray, List.set_cons_zero, List.set_cons_succ])
        refine any_done (by kernel_rfl) ?_
        simp only [onlyQ]
        go_wp2_with fail
        go_roundw
        case rel => exact ⟨k + 1, _, by go_num, by omega, by rw [HNY.out]; exact NP.out⟩
        case measure => simp [intOf]; omega
      · have HNY := Lib.hid (nw_no (known := kn) HLN.out (by rw [HXG.out]; exact hx))
        have hd : decide (x.e ≤ kn) = false := decide_eq_false hx
        go_wp2_with fail
        go_roundw
        case rel => exact ⟨k + 1, _, by go_num, by omega, by rw [HNY.out]; exact HNW.out⟩
        case measure => simp [intOf]; omega
    · obtain rfl : m1 = k := by omega
      have HNE := Lib.hid (show Nw W3 W3.heap.size P.lo P.hi P.geese wr v (.slice none 0 0) (.slice none 0 0) (nwL kn P.loads) [] [] by have := HNW.out; rwa [List.take_of_length_le (by rw [HPA.out.l1.1]; exact Nat.le_refl _)] at this)
      obtain ⟨U1, hU⟩ : ∃ V, wr = V := ⟨_, rfl⟩
      obtain ⟨v1, hv⟩ : ∃ V, v = V := ⟨_, rfl⟩
      rw [hU] at HNE ⊢
      rw [hv] at HNE
      have NE1 := HNE
      have HGE1 := Lib.hid HNE.out.g
      clear HNE HNW HG hnb hkm hk hU hv
      have qy := (BP.out.ext HGE1.out).cell 2
      have qz := (BP.out.ext HGE1.out).cell 3
      go_wp2_with fail
      clear qz qy
      go_loopw [12] (fun i wr => ∃ (k : Nat) (v : Value), i = .int .i64 k ∧ k ≤ m2 ∧ Nw W3 W3.heap.size P.lo P.hi P.geese wr v1 v (.slice none 0 0) (nwL kn P.loads) (nwL kn (P.stands.take k)) []) (fun i _ => m2 - (intOf i).toNat)
      case atStart => exact ⟨0, _, rfl, Nat.zero_le _, NE1.out⟩
      case round =>
        obtain ⟨k, v, rfl, hk, hn⟩ := hrel
        have HNW := Lib.hid hn
        clear hn
        have HG := Lib.hid HNW.out.g
        have hnb := HN60.out
        by_cases hkm : k < m2
        · obtain ⟨b0, o0, e0, -, -, hc⟩ := six_at HPA.out.l2 hkm
          obtain ⟨x0, x1, x2, x3, x4, x5⟩ := hc _ HG.out
          have HLN := Lib.hid (show k < P.stands.length by rw [HPA.out.l2.1]; exact hkm)
          obtain ⟨x, hxg⟩ : ∃ x, P.stands.getD k z6 = x := ⟨_, rfl⟩
          rw [hxg] at x0 x1 x2 x3 x4 x5 hc
          have HXG := Lib.hid hxg
          subst e0
          have HC := Lib.hid hc
          clear hc hxg
          have q1 := (BP.out.ext HG.out).cell 3
          have hbw := HNW.out.p.lt
          by_cases hx : x.e ≤ kn
          · have HNY := Lib.hid (nw_yes (known := kn) HLN.out (by rw [HXG.out]; exact hx))
            rw [HXG.out] at HNY
            have hd : decide (x.e ≤ kn) = true := decide_eq_true hx
            have HPL := Lib.hid (show (nwL kn (P.stands.take k)).length + 1 ≤ 1000000 by have h1 := nw_len kn (P.stands.take k); rw [List.length_take] at h1; omega)
            obtain ⟨Av, cv, hv, -⟩ := OwnL.arr kdS HNW.out.o2
            obtain ⟨nv, hnv⟩ : ∃ q, (nwL kn (P.stands.take k)).length = q := ⟨_, rfl⟩
            rw [hnv] at hv
            subst hv
            have q2 := HNW.out.p.cell 3
            have HOX := Lib.hid (HNW.out.ext (one_more wr (.cells #[.int .i64 x.a, .int .i64 x.b, .int .i64 x.c, .int .i64 x.d, .int .i64 x.e, .int .i64 x.f] 105)))
            have HI1 := Lib.hid (six_one wr 105 x)
            clear hnv
            go_upto_region 15 with fail
            refine wp_region_uptoQ (S := fun V => V.cell? ⟨W3.heap.size, 3, none⟩ = some (.slice Av nv cv) ∧ V.cell? ⟨V3.heap.size, 3, none⟩ = some (.slice (some ⟨b0, o0, none⟩) m2 d2) ∧ V.cell? ⟨b0, o0 + k * 6, none⟩ = some (.int .i64 x.a) ∧ V.cell? ⟨b0, o0 + k * 6 + 1, none⟩ = some (.int .i64 x.b) ∧ V.cell? ⟨b0, o0 + k * 6 + 2, none⟩ = some (.int .i64 x.c) ∧ V.cell? ⟨b0, o0 + k * 6 + 3, none⟩ = some (.int .i64 x.d) ∧ V.cell? ⟨b0, o0 + k * 6 + 4, none⟩ = some (.int .i64 x.e) ∧ V.cell? ⟨b0, o0 + k * 6 + 5, none⟩ = some (.int .i64 x.f)) 10 (by kernel_rfl) (⟨q2, q1, x0, x1, x2, x3, x4, x5⟩) (fun hHeld => ?_)
            (refine upto_take [1, 8, 10] (i := 0) (oi := ⟨_, _, _, _, _, _⟩) (d := some 92) (v := ?_) rfl rfl (by kernel_rfl) (by kernel_rfl) (fun _ _ _ h => h) (by rfl) ?_ (by assumption) ?_; rotate_left; (focus (intro w hSw; (try dsimp only at hSw); go_simp; try with_reducible rfl)); (try simp only [Act.put, List.setIfInBounds_toArray, List.set_cons_zero, List.set_cons_succ]))
            (refine upto_take [8, 10] (i := 1) (oi := ⟨_, _, _, _, _, _⟩) (d := some 93) (v := ?_) rfl rfl (by kernel_rfl) (by kernel_rfl) (fun _ _ _ h => h) (by rfl) ?_ (by assumption) ?_; rotate_left; (focus (intro w hSw; (try dsimp only at hSw); go_simp; try with_reducible rfl)); (try simp only [Act.put, List.setIfInBounds_toArray, List.set_cons_zero, List.set_cons_succ]))
            (refine upto_take [3, 5, 6, 7, 8, 10] (i := 2) (oi := ⟨_, _, _, _, _, _⟩) (d := some 94) (v := ?_) rfl rfl (by kernel_rfl) (by kernel_rfl) (fun _ _ _ h => h) (by rfl) ?_ (by assumption) ?_; rotate_left; (focus (intro w hSw; (try dsimp only at hSw); go_simp; try with_reducible rfl)); (try simp only [Act.put, List.setIfInBounds_toArray, List.set_cons_zero, List.set_cons_succ]))
            (refine upto_take [5, 6, 7, 8, 10] (i := 3) (oi := ⟨_, _, _, _, _, _⟩) (d := some 95) (v := ?_) rfl rfl (by kernel_rfl) (by kernel_rfl) (fun _ _ _ h => h) (by rfl) ?_ (by assumption) ?_; rotate_left; (focus (intro w hSw; (try dsimp only at hSw); go_simp; try with_reducible rfl)); (try simp only [Act.put, List.setIfInBounds_toArray, List.set_cons_zero, List.set_cons_succ]))
            (refine upto_take [5, 6, 7, 8, 10] (i := 4) (oi := ⟨_, _, _, _, _, _⟩) (d := some 96) (v := ?_) rfl rfl (by kernel_rfl) (by kernel_rfl) (fun _ _ _ h => h) (by rfl) ?_ (by assumption) ?_; rotate_left; (focus (intro w hSw; (try dsimp only at hSw); go_simp; try with_reducible rfl)); (try simp only [Act.put, List.setIfInBounds_toArray, List.set_cons_zero, List.set_cons_succ]))
            (refine upto_take [6, 7, 8, 10] (i := 5) (oi := ⟨_, _, _, _, _, _⟩) (d := some 97) (v := ?_) rfl rfl (by kernel_rfl) (by kernel_rfl) (fun _ _ _ h => h) (by rfl) ?_ (by assumption) ?_; rotate_left; (focus (intro w hSw; (try dsimp only at hSw); go_simp; try with_reducible rfl)); (try simp only [Act.put, List.setIfInBounds_toArray, List.set_cons_zero, List.set_cons_succ]))
            (refine upto_take [7, 8, 10] (i := 6) (oi := ⟨_, _, _, _, _, _⟩) (d := some 98) (v := ?_) rfl rfl (by kernel_rfl) (by kernel_rfl) (fun _ _ _ h => h) (by rfl) ?_ (by assumption) ?_; rotate_left; (focus (intro w hSw; (try dsimp only at hSw); go_simp; try with_reducible rfl)); (try simp only [Act.put, List.setIfInBounds_toArray, List.set_cons_zero, List.set_cons_succ]))
            refine upto_one 7 (o := ⟨_, _, _, _, _, _⟩) rfl (by kernel_rfl) (by decide) (fun K hK => ?_)
            go_simp
            refine hK.out _ _ ?_ (fun hHeld => ?_)
            · exact ⟨keepAlloc q2 _, keepAlloc q1 _, keepAlloc x0 _, keepAlloc x1 _, keepAlloc x2 _, keepAlloc x3 _, keepAlloc x4 _, keepAlloc x5 _⟩
            clear hK K
            (try simp only [Act.put, List.setIfInBounds_toArray, List.set_cons_zero, List.set_cons_succ])
            refine upto_one 8 (o := ⟨_, _, _, _, _, _⟩) rfl (by kernel_rfl) (by decide) (fun K hK => ?_)
            (go_loud (refine step_app kdS (by rfl) _ _ (by rfl) (W3.heap.size + 1) (.slice Av nv cv) (nwL kn (P.stands.take k)) (by rfl) HOX.out.o2 _ 1 1 [x] (by rfl) HI1.out HPL.out (by simp; omega) ?_); intro v' w2 ho2 hg2 hz2; have hg2 : (wr.alloc (.cells #[.int .i64 x.a, .int .i64 x.b, .int .i64 x.c, .int .i64 x.d, .int .i64 x.e, .int .i64 x.f] 105)).grownBy w2 (Value.slice Av nv cv).ownBlock := ⟨hg2.os, hg2.tape, hg2.output, hg2.size, hg2.block⟩; obtain ⟨Av2, cv2, hve, -⟩ := OwnL.arr kdS ho2; obtain ⟨nv2, hnv2⟩ : ∃ q, ((nwL kn (P.stands.take k)) ++ [x]).length = q := ⟨_, rfl⟩; rw [hnv2] at hve; subst hve; clear hnv2; have NP := Lib.hid (HOX.out.put2 hg2 ho2); have b9' := HOX.out.p.grown hg2 (fun e => by have := (own_lt HOX.out.o2 e).1; omega); have n0 := b9'.cell 3; have n1 := b9'.frozen 3; have hg3 := HOX.out.g.grown hg2 (Nat.le_of_lt HOX.out.p.lt) (fun k e => by have := (own_lt HOX.out.o2 e).1; omega); have n2 := (BP.out.ext hg3).cell 3; obtain ⟨y0, y1, y2, y3, y4, y5⟩ := HC.out _ hg3; clear hg3 ho2 hg2 hz2 b9')
            refine hK.out _ _ ?_ (fun hHeld => ?_)
            · exact ⟨n0, n2, y0, y1, y2, y3, y4, y5⟩
            clear hK K
            (try simp only [Act.put, List.setIfInBounds_toArray, List.set_cons_zero, List.set_cons_succ])
            (refine upto_take [10] (i := 9) (oi := ⟨_, _, _, _, _, _⟩) (d := some 101) (v := ?_) rfl rfl (by kernel_rfl) (by kernel_rfl) (fun _ _ _ h => h) (by rfl) ?_ (by assumption) ?_; rotate_left; (focus (intro w hSw; (try dsimp only at hSw); go_simp; try with_reducible rfl)); (try simp only [Act.put, List.setIfInBounds_toArray, List.set_cons_zero, List.set_cons_succ]))
            refine upto_last (o := ⟨_, _, _, _, _, _⟩) rfl (by kernel_rfl) (fun K hK => ?_)
            go_simp
            refine hK.out _ _ ?_
            clear hK K
            (try simp only [Act.put, List.setIfInBounds_toArray, List.set_cons_zero, List.set_cons_succ])
            refine any_done (by kernel_rfl) ?_
            simp only [onlyQ]
            go_wp2_with fail
            go_roundw
            case rel => exact ⟨k + 1, _, by go_num, by omega, by rw [HNY.out]; exact NP.out⟩
            case measure => simp [intOf]; omega
          · have HNY := Lib.hid (nw_no (known := kn) HLN.out (by rw [HXG.out]; exact hx))
            have hd : decide (x.e ≤ kn) = false := decide_eq_false hx
            go_wp2_with fail
            go_roundw
            case rel => exact ⟨k + 1, _, by go_num, by omega, by rw [HNY.out]; exact HNW.out⟩
            case measure => simp [intOf]; omega
        · obtain rfl : m2 = k := by omega
          have HNE := Lib.hid (show Nw W3 W3.heap.size P.lo P.hi P.geese wr v1 v (.slice none 0 0) (nwL kn P.loads) (nwL kn P.stands) [] by have := HNW.out; rwa [List.take_of_length_le (by rw [HPA.out.l2.1]; exact Nat.le_refl _)] at this)
          obtain ⟨U2, hU⟩ : ∃ V, wr = V := ⟨_, rfl⟩
          obtain ⟨v2, hv⟩ : ∃ V, v = V := ⟨_, rfl⟩
          rw [hU] at HNE ⊢
          rw [hv] at HNE
          have NE2 := HNE
          have HGE2 := Lib.hid HNE.out.g
          clear HNE HNW HG hnb hkm hk hU hv
          have qy := (BP.out.ext HGE2.out).cell 3
          have qz := (BP.out.ext HGE2.out).cell 4
          go_wp2_with fail
          clear qz qy
          go_loopw [13] (fun i wr => ∃ (k : Nat) (v : Value), i = .int .i64 k ∧ k ≤ m3 ∧ Nw W3 W3.heap.size P.lo P.hi P.geese wr v1 v2 v (nwL kn P.loads) (nwL kn P.stands) (nwL kn (P.spells.take k))) (fun i _ => m3 - (intOf i).toNat)
          case atStart => exact ⟨0, _, rfl, Nat.zero_le _, NE2.out⟩
          case round =>
            obtain ⟨k, v, rfl, hk, hn⟩ := hrel
            have HNW := Lib.hid hn
            clear hn
            have HG := Lib.hid HNW.out.g
            have hnb := HN60.out
            by_cases hkm : k < m3
            · obtain ⟨b0, o0, e0, -, -, hc⟩ := six_at HPA.out.l3 hkm
              obtain ⟨x0, x1, x2, x3, x4, x5⟩ := hc _ HG.out
              have HLN := Lib.hid (show k < P.spells.length by rw [HPA.out.l3.1]; exact hkm)
              obtain ⟨x, hxg⟩ : ∃ x, P.spells.getD k z6 = x := ⟨_, rfl⟩
              rw [hxg] at x0 x1 x2 x3 x4 x5 hc
              have HXG := Lib.hid hxg
              subst e0
              have HC := Lib.hid hc
              clear hc hxg
              have q1 := (BP.out.ext HG.out).cell 4
              have hbw := HNW.out.p.lt
              by_cases hx : x.e ≤ kn
              · have HNY := Lib.hid (nw_yes (known := kn) HLN.out (by rw [HXG.out]; exact hx))
                rw [HXG.out] at HNY
                have hd : decide (x.e ≤ kn) = true := decide_eq_true hx
                have HPL := Lib.hid (show (nwL kn (P.spells.take k)).length + 1 ≤ 1000000 by have h1 := nw_len kn (P.spells.take k); rw [List.length_take] at h1; omega)
                obtain ⟨Av, cv, hv, -⟩ := OwnL.arr kdP HNW.out.o3
                obtain ⟨nv, hnv⟩ : ∃ q, (nwL kn (P.spells.take k)).length = q := ⟨_, rfl⟩
                rw [hnv] at hv
                subst hv
                have q2 := HNW.out.p.cell 4
                have HOX := Lib.hid (HNW.out.ext (one_more wr (.cells #[.int .i64 x.a, .int .i64 x.b, .int .i64 x.c, .int .i64 x.d, .int .i64 x.e, .int .i64 x.f] 107)))
                have HI1 := Lib.hid (six_one wr 107 x)
                clear hnv
                go_upto_region 20 with fail
                refine wp_region_uptoQ (S := fun V => V.cell? ⟨W3.heap.size, 4, none⟩ = some (.slice Av nv cv) ∧ V.cell? ⟨V3.heap.size, 4, none⟩ = some (.slice (some ⟨b0, o0, none⟩) m3 d3) ∧ V.cell? ⟨b0, o0 + k * 6, none⟩ = some (.int .i64 x.a) ∧ V.cell? ⟨b0, o0 + k * 6 + 1, none⟩ = some (.int .i64 x.b) ∧ V.cell? ⟨b0, o0 + k * 6 + 2, none⟩ = some (.int .i64 x.c) ∧ V.cell? ⟨b0, o0 + k * 6 + 3, none⟩ = some (.int .i64 x.d) ∧ V.cell? ⟨b0, o0 + k * 6 + 4, none⟩ = some (.int .i64 x.e) ∧ V.cell? ⟨b0, o0 + k * 6 + 5, none⟩ = some (.int .i64 x.f)) 10 (by kernel_rfl) (⟨q2, q1, x0, x1, x2, x3, x4, x5⟩) (fun hHeld => ?_)
                (refine upto_take [1, 8, 10] (i := 0) (oi := ⟨_, _, _, _, _, _⟩) (d := some 117) (v := ?_) rfl rfl (by kernel_rfl) (by kernel_rfl) (fun _ _ _ h => h) (by rfl) ?_ (by assumption) ?_; rotate_left; (focus (intro w hSw; (try dsimp only at hSw); go_simp; try with_reducible rfl)); (try simp only [Act.put, List.setIfInBounds_toArray, List.set_cons_zero, List.set_cons_succ]))
                (refine upto_take [8, 10] (i := 1) (oi := ⟨_, _, _, _, _, _⟩) (d := some 118) (v := ?_) rfl rfl (by kernel_rfl) (by kernel_rfl) (fun _ _ _ h => h) (by rfl) ?_ (by assumption) ?_; rotate_left; (focus (intro w hSw; (try dsimp only at hSw); go_simp; try with_reducible rfl)); (try simp only [Act.put, List.setIfInBounds_toArray, List.set_cons_zero, List.set_cons_succ]))
                (refine upto_take [3, 5, 6, 7, 8, 10] (i := 2) (oi := ⟨_, _, _, _, _, _⟩) (d := some 119) (v := ?_) rfl rfl (by kernel_rfl) (by kernel_rfl) (fun _ _ _ h => h) (by rfl) ?_ (by assumption) ?_; rotate_left; (focus (intro w hSw; (try dsimp only at hSw); go_simp; try with_reducible rfl)); (try simp only [Act.put, List.setIfInBounds_toArray, List.set_cons_zero, List.set_cons_succ]))
                (refine upto_take [5, 6, 7, 8, 10] (i := 3) (oi := ⟨_, _, _, _, _, _⟩) (d := some 120) (v := ?_) rfl rfl (by kernel_rfl) (by kernel_rfl) (fun _ _ _ h => h) (by rfl) ?_ (by assumption) ?_; rotate_left; (focus (intro w hSw; (try dsimp only at hSw); go_simp; try with_reducible rfl)); (try simp only [Act.put, List.setIfInBounds_toArray, List.set_cons_zero, List.set_cons_succ]))
                (refine upto_take [5, 6, 7, 8, 10] (i := 4) (oi := ⟨_, _, _, _, _, _⟩) (d := some 121) (v := ?_) rfl rfl (by kernel_rfl) (by kernel_rfl) (fun _ _ _ h => h) (by rfl) ?_ (by assumption) ?_; rotate_left; (focus (intro w hSw; (try dsimp only at hSw); go_simp; try with_reducible rfl)); (try simp only [Act.put, List.setIfInBounds_toArray, List.set_cons_zero, List.set_cons_succ]))
                (refine upto_take [6, 7, 8, 10] (i := 5) (oi := ⟨_, _, _, _, _, _⟩) (d := some 122) (v := ?_) rfl rfl (by kernel_rfl) (by kernel_rfl) (fun _ _ _ h => h) (by rfl) ?_ (by assumption) ?_; rotate_left; (focus (intro w hSw; (try dsimp only at hSw); go_simp; try with_reducible rfl)); (try simp only [Act.put, List.setIfInBounds_toArray, List.set_cons_zero, List.set_cons_succ]))
                (refine upto_take [7, 8, 10] (i := 6) (oi := ⟨_, _, _, _, _, _⟩) (d := some 123) (v := ?_) rfl rfl (by kernel_rfl) (by kernel_rfl) (fun _ _ _ h => h) (by rfl) ?_ (by assumption) ?_; rotate_left; (focus (intro w hSw; (try dsimp only at hSw); go_simp; try with_reducible rfl)); (try simp only [Act.put, List.setIfInBounds_toArray, List.set_cons_zero, List.set_cons_succ]))
                refine upto_one 7 (o := ⟨_, _, _, _, _, _⟩) rfl (by kernel_rfl) (by decide) (fun K hK => ?_)
                go_simp
                refine hK.out _ _ ?_ (fun hHeld => ?_)
                · exact ⟨keepAlloc q2 _, keepAlloc q1 _, keepAlloc x0 _, keepAlloc x1 _, keepAlloc x2 _, keepAlloc x3 _, keepAlloc x4 _, keepAlloc x5 _⟩
                clear hK K
                (try simp only [Act.put, List.setIfInBounds_toArray, List.set_cons_zero, List.set_cons_succ])
                refine upto_one 8 (o := ⟨_, _, _, _, _, _⟩) rfl (by kernel_rfl) (by decide) (fun K hK => ?_)
                (go_loud (refine step_app kdP (by rfl) _ _ (by rfl) (W3.heap.size + 1) (.slice Av nv cv) (nwL kn (P.spells.take k)) (by rfl) HOX.out.o3 _ 1 1 [x] (by rfl) HI1.out HPL.out (by simp; omega) ?_); intro v' w2 ho2 hg2 hz2; have hg2 : (wr.alloc (.cells #[.int .i64 x.a, .int .i64 x.b, .int .i64 x.c, .int .i64 x.d, .int .i64 x.e, .int .i64 x.f] 107)).grownBy w2 (Value.slice Av nv cv).ownBlock := ⟨hg2.os, hg2.tape, hg2.output, hg2.size, hg2.block⟩; obtain ⟨Av2, cv2, hve, -⟩ := OwnL.arr kdP ho2; obtain ⟨nv2, hnv2⟩ : ∃ q, ((nwL kn (P.spells.take k)) ++ [x]).length = q := ⟨_, rfl⟩; rw [hnv2] at hve; subst hve; clear hnv2; have NP := Lib.hid (HOX.out.put3 hg2 ho2); have b9' := HOX.out.p.grown hg2 (fun e => by have := (own_lt HOX.out.o3 e).1; omega); have n0 := b9'.cell 4; have n1 := b9'.frozen 4; have hg3 := HOX.out.g.grown hg2 (Nat.le_of_lt HOX.out.p.lt) (fun k e => by have := (own_lt HOX.out.o3 e).1; omega); have n2 := (BP.out.ext hg3).cell 4; obtain ⟨y0, y1, y2, y3, y4, y5⟩ := HC.out _ hg3; clear hg3 ho2 hg2 hz2 b9')
                refine hK.out _ _ ?_ (fun hHeld => ?_)
                · exact ⟨n0, n2, y0, y1, y2, y3, y4, y5⟩
                clear hK K
                (try simp only [Act.put, List.setIfInBounds_toArray, List.set_cons_zero, List.set_cons_succ])
                (refine upto_take [10] (i := 9) (oi := ⟨_, _, _, _, _, _⟩) (d := some 126) (v := ?_) rfl rfl (by kernel_rfl) (by kernel_rfl) (fun _ _ _ h => h) (by rfl) ?_ (by assumption) ?_; rotate_left; (focus (intro w hSw; (try dsimp only at hSw); go_simp; try with_reducible rfl)); (try simp only [Act.put, List.setIfInBounds_toArray, List.set_cons_zero, List.set_cons_succ]))
                refine upto_last (o := ⟨_, _, _, _, _, _⟩) rfl (by kernel_rfl) (fun K hK => ?_)
                go_simp
                refine hK.out _ _ ?_
                clear hK K
                (try simp only [Act.put, List.setIfInBounds_toArray, List.set_cons_zero, List.set_cons_succ])
                refine any_done (by kernel_rfl) ?_
                simp only [onlyQ]
                go_wp2_with fail
                go_roundw
                case rel => exact ⟨k + 1, _, by go_num, by omega, by rw [HNY.out]; exact NP.out⟩
                case measure => simp [intOf]; omega
              · have HNY := Lib.hid (nw_no (known := kn) HLN.out (by rw [HXG.out]; exact hx))
                have hd : decide (x.e ≤ kn) = false := decide_eq_false hx
                go_wp2_with fail
                go_roundw
                case rel => exact ⟨k + 1, _, by go_num, by omega, by rw [HNY.out]; exact HNW.out⟩
                case measure => simp [intOf]; omega
            · obtain rfl : m3 = k := by omega
              have HNE := Lib.hid (show Nw W3 W3.heap.size P.lo P.hi P.geese wr v1 v2 v (nwL kn P.loads) (nwL kn P.stands) (nwL kn P.spells) by have := HNW.out; rwa [List.take_of_length_le (by rw [HPA.out.l3.1]; exact Nat.le_refl _)] at this)
              obtain ⟨U3, hU⟩ : ∃ V, wr = V := ⟨_, rfl⟩
              obtain ⟨v3, hv⟩ : ∃ V, v = V := ⟨_, rfl⟩
              rw [hU] at HNE ⊢
              rw [hv] at HNE
              have NE3 := HNE
              have HGE3 := Lib.hid HNE.out.g
              clear HNE HNW HG hnb hkm hk hU hv
              obtain ⟨Q, hQ⟩ : ∃ Q, nowP P kn = Q := ⟨_, rfl⟩
              have H19Q := Lib.hid (show Q.loads.length ≤ 19 by rw [← hQ]; exact Nat.le_trans (List.length_filter_le _ _) H19.out)
              have hsame := (now_alike P kn).same (hour := hh) HOK.out (part_ok HOK.out _) (by omega) (by omega) (by omega)
              obtain ⟨F1, a1, f1, F2, a2, f2, F3, a3, f3, hbq, hpq⟩ := Nw.plot (p := nowP P kn) NE3.out
              rw [hQ] at hbq hpq hsame
              have G9 := Lib.hid (G3.out.trans (HGE3.out.mono G3.out.size))
              have BP := Lib.hid (BP.out.ext HGE3.out)
              have B3 := Lib.hid (B3.out.ext HGE3.out)
              have HPA := Lib.hid (HPA.out.below HGE3.out)
              have BQ := Lib.hid hbq
              have HPQ := Lib.hid hpq
              clear hbq hpq hQ NE1 NE2 NE3 HGE1 HGE2 HGE3 NW0
              obtain ⟨dl, hdl⟩ : ∃ l, datesL P = l := ⟨_, rfl⟩
              have T44 := Lib.hid (fun W (hp : Pa W P D1 D2 D3 m1 d1 m2 d2 m3 d3) => dates_any P D1 D2 D3 m1 d1 m2 d2 m3 d3 W hp)
              rw [HOK.out, show err true 13 = 0 from rfl, if_pos rfl, hdl] at T44
              obtain ⟨oa, hoa⟩ : ∃ a, openA P hh kn = a := ⟨_, rfl⟩
              obtain ⟨ea, hea⟩ : ∃ a, askE P [hh] kn = a := ⟨_, rfl⟩
              rw [hoa, hea] at hsame
              have T18 := Lib.hid (fun W (hp : Pa W P D1 D2 D3 m1 d1 m2 d2 m3 d3) => openP_any P D1 D2 D3 m1 d1 m2 d2 m3 d3 hh kn W hp H19.out)
              have T18q := Lib.hid (fun W (hp : Pa W Q F1 F2 F3 a1 f1 a2 f2 a3 f3) => openP_any Q F1 F2 F3 a1 f1 a2 f2 a3 f3 hh kn W hp H19Q.out)
              rw [hoa, hea] at T18
              rw [hsame.1, hsame.2] at T18q
              have HOA := Lib.hid hoa
              have HEA := Lib.hid hea
              have HDL := Lib.hid hdl
              have HDN := Lib.hid (show dl.length ≤ 1000 by
                rw [← hdl]
                have h0 := (compact_sub (srt (datesAll P))).length_le
                have h1 := dates_len P.loads
                have h2 := dates_len P.stands
                have h3 := dates_len P.spells
                have l1 := HPA.out.l1.1
                have l2 := HPA.out.l2.1
                have l3 := HPA.out.l3.1
                have k1 := HPO.out.2.2.2.2.2.1
                have k2 := HPO.out.2.2.2.2.2.2.1
                have k3 := HPO.out.2.2.2.2.2.2.2.1
                unfold datesL
                rw [show (srt (datesAll P)).length = (datesAll P).length from List.length_mergeSort _] at h0
                unfold datesAll at h0 ⊢
                rw [List.length_append, List.length_append] at h0
                omega)
              clear hoa hea hsame hdl
              have kb3_0 := B3.out.cell 0
              have kb3_1 := B3.out.cell 1
              have kb3_2 := B3.out.cell 2
              have kbp_0 := BP.out.cell 0
              have kbp_1 := BP.out.cell 1
              have kbp_2 := BP.out.cell 2
              have kbp_3 := BP.out.cell 3
              have kbp_4 := BP.out.cell 4
              have kbp_5 := BP.out.cell 5
              have kbq_0 := BQ.out.cell 0
              have kbq_1 := BQ.out.cell 1
              have kbq_2 := BQ.out.cell 2
              have kbq_3 := BQ.out.cell 3
              have kbq_4 := BQ.out.cell 4
              have kbq_5 := BQ.out.cell 5
              go_upto_region 22 with (go_at_call 44; (with_reducible refine (T44.out _ HPA.out).mono ?_); rintro e V10 ⟨⟨Dd, dm, dc, rfl, hdi⟩, hg⟩; have HDI := Lib.hid hdi; clear hdi)
              clear kb3_0 kb3_1 kb3_2 kbp_0 kbp_1 kbp_2 kbp_3 kbp_4 kbp_5 kbq_0 kbq_1 kbq_2 kbq_3 kbq_4 kbq_5
              have G10 := Lib.hid (G9.out.trans (hg.mono G9.out.size))
              have B3 := Lib.hid (B3.out.ext hg)
              have BP := Lib.hid (BP.out.ext hg)
              have BQ := Lib.hid (BQ.out.ext hg)
              have HPA := Lib.hid (HPA.out.below hg)
              have HPQ := Lib.hid (HPQ.out.below hg)
              clear hg
              go_wp2_with fail
              go_loopw [16, 17] (fun l i wr => ∃ k : Nat, i = .int .i64 k ∧ k ≤ dm ∧ l = .int .i64 (lastD kn (dl.take k)) ∧ V10 = wr) (fun _ i _ => dm - (intOf i).toNat)
              case atStart => exact ⟨0, rfl, Nat.zero_le _, rfl, rfl⟩
              case round =>
                obtain ⟨k, rfl, hk, rfl, rfl⟩ := hrel
                have hdm : dm ≤ 1000 := by have := HDN.out; have := HDI.out.1; omega
                by_cases hkm : k < dm
                · obtain ⟨b0, o0, e0, -, -, hc⟩ := ints_at HDI.out hkm
                  have y0 := hc _ (Below.refl _ _)
                  have HLT := Lib.hid (last_take (known := kn) (l := dl) (k := k) (by rw [HDI.out.1]; exact hkm))
                  obtain ⟨d, hd⟩ : ∃ d, dl.getD k 0 = d := ⟨_, rfl⟩
                  rw [hd] at y0 HLT
                  subst e0
                  clear hc hd
                  by_cases hx : d ≤ kn
                  · have hz : decide (d ≤ kn) = true := decide_eq_true hx
                    go_wp2_with fail
                    go_roundw
                    case rel => exact ⟨k + 1, by go_num, by omega, by rw [HLT.out, if_pos hx], by first | rfl | trivial⟩
                    case measure => simp [intOf]; omega
                  · have hz : decide (d ≤ kn) = false := decide_eq_false hx
                    go_wp2_with fail
                    go_roundw
                    case rel => exact ⟨k + 1, by go_num, by omega, by rw [HLT.out, if_neg hx], by first | rfl | trivial⟩
                    case measure => simp [intOf]; omega
                · obtain rfl : dm = k := by omega
                  obtain ⟨la, hla⟩ : ∃ l, lastD kn dl = l := ⟨_, rfl⟩
                  have e : lastD kn (dl.take dm) = la := by rw [List.take_of_length_le (by rw [HDI.out.1]; exact Nat.le_refl _), hla]
                  rw [e]
                  have HLA := Lib.hid (show lastD kn (datesL P) = la by rw [HDL.out, hla])
                  clear e hla hkm hk
                  have kb3_0 := B3.out.cell 0
                  have kb3_1 := B3.out.cell 1
                  have kb3_2 := B3.out.cell 2
                  have kbp_0 := BP.out.cell 0
                  have kbp_1 := BP.out.cell 1
                  have kbp_2 := BP.out.cell 2
                  have kbp_3 := BP.out.cell 3
                  have kbp_4 := BP.out.cell 4
                  have kbp_5 := BP.out.cell 5
                  have kbq_0 := BQ.out.cell 0
                  have kbq_1 := BQ.out.cell 1
                  have kbq_2 := BQ.out.cell 2
                  have kbq_3 := BQ.out.cell 3
                  have kbq_4 := BQ.out.cell 4
                  have kbq_5 := BQ.out.cell 5
                  go_upto_region 29 with (go_at_call 18; (with_reducible refine (T18.out _ HPA.out).mono ?_); rintro e V11 ⟨rfl, hg⟩)
                  clear kb3_0 kb3_1 kb3_2 kbp_0 kbp_1 kbp_2 kbp_3 kbp_4 kbp_5 kbq_0 kbq_1 kbq_2 kbq_3 kbq_4 kbq_5
                  have G11 := Lib.hid (G10.out.trans (hg.mono G10.out.size))
                  have B3 := Lib.hid (B3.out.ext hg)
                  have BP := Lib.hid (BP.out.ext hg)
                  have BQ := Lib.hid (BQ.out.ext hg)
                  have HPA := Lib.hid (HPA.out.below hg)
                  have HPQ := Lib.hid (HPQ.out.below hg)
                  clear hg
                  have kb3_0 := B3.out.cell 0
                  have kb3_1 := B3.out.cell 1
                  have kb3_2 := B3.out.cell 2
                  have kbp_0 := BP.out.cell 0
                  have kbp_1 := BP.out.cell 1
                  have kbp_2 := BP.out.cell 2
                  have kbp_3 := BP.out.cell 3
                  have kbp_4 := BP.out.cell 4
                  have kbp_5 := BP.out.cell 5
                  have kbq_0 := BQ.out.cell 0
                  have kbq_1 := BQ.out.cell 1
                  have kbq_2 := BQ.out.cell 2
                  have kbq_3 := BQ.out.cell 3
                  have kbq_4 := BQ.out.cell 4
                  have kbq_5 := BQ.out.cell 5
                  go_upto_region 30 with (go_at_call 18; (with_reducible refine (T18q.out _ HPQ.out).mono ?_); rintro e V12 ⟨rfl, hg⟩)
                  clear kb3_0 kb3_1 kb3_2 kbp_0 kbp_1 kbp_2 kbp_3 kbp_4 kbp_5 kbq_0 kbq_1 kbq_2 kbq_3 kbq_4 kbq_5
                  have G12 := Lib.hid (G11.out.trans (hg.mono G11.out.size))
                  have B3 := Lib.hid (B3.out.ext hg)
                  have BP := Lib.hid (BP.out.ext hg)
                  have BQ := Lib.hid (BQ.out.ext hg)
                  have HPA := Lib.hid (HPA.out.below hg)
                  have HPQ := Lib.hid (HPQ.out.below hg)
                  clear hg
                  have HSP := Lib.hid (show la = -1 ∨ 0 ≤ la ∧ la ≤ kn by
                    rw [← HLA.out]
                    by_cases h : lastD kn (datesL P) = -1
                    · exact .inl h
                    · exact .inr (last_bd HPLN.out h))
                  obtain ⟨me, hme⟩ : ∃ e, movedE P so kn = e := ⟨_, rfl⟩
                  have hwm := wio_moved (source := so) (known := kn) HOK.out (by omega)
                  rw [hme] at hwm
                  have HWM := Lib.hid hwm
                  have HME := Lib.hid hme
                  have T45 := Lib.hid (fun W (hp : Pa W P D1 D2 D3 m1 d1 m2 d2 m3 d3) => moved_any P D1 D2 D3 m1 d1 m2 d2 m3 d3 so kn W hp H19.out)
                  have T46 := Lib.hid (fun W (hp : Pa W P D1 D2 D3 m1 d1 m2 d2 m3 d3) => wio_any P D1 D2 D3 m1 d1 m2 d2 m3 d3 so W hp)
                  unfold WioEnd at T46
                  rw [hme] at T45
                  rw [hwm.1] at T46
                  obtain ⟨ml, hml⟩ : ∃ l, movedL P so kn = l := ⟨_, rfl⟩
                  rw [hml] at T45
                  obtain ⟨WP, hWP⟩ : ∃ p, wioP P so = p := ⟨_, rfl⟩
                  rw [hWP] at T46
                  have HML := Lib.hid hml
                  have HMLN := Lib.hid (show (movedL P so kn).length ≤ 1000 by
                    have h0 := (compact_sub (srt (colL (fun _ => true) Six.b P.loads))).length_le
                    rw [show (srt (colL (fun _ => true) Six.b P.loads)).length = (colL (fun _ => true) Six.b P.loads).length from List.length_mergeSort _] at h0
                    have h1 : (colL (fun _ => true) Six.b P.loads).length ≤ P.loads.length := by unfold colL; rw [List.length_map]; exact List.length_filter_le _ _
                    have h2 := H19.out
                    unfold movedL
                    split
                    · refine Nat.le_trans (List.length_filter_le _ _) ?_
                      unfold hoursL
                      omega
                    · exact Nat.zero_le _)
                  have HWP := Lib.hid hWP
                  have HTZ := Lib.hid (fun V => show Calls Tryz.prog 17 #[.int .i64 z, .int .i64 30] V fun e w' => e = .returned (.int .i64 (z % 30)) ∧ V = w' from TM.out z 30 V (by omega) (by omega))
                  clear hwm hme hml hWP
                  rcases HSP.out with hl | hl
                  · have hz : decide (0 ≤ la) = false := decide_eq_false (by omega)
                    have kb3_0 := B3.out.cell 0
                    have kb3_1 := B3.out.cell 1
                    have kb3_2 := B3.out.cell 2
                    have kbp_0 := BP.out.cell 0
                    have kbp_1 := BP.out.cell 1
                    have kbp_2 := BP.out.cell 2
                    have kbp_3 := BP.out.cell 3
                    have kbp_4 := BP.out.cell 4
                    have kbp_5 := BP.out.cell 5
                    have kbq_0 := BQ.out.cell 0
                    have kbq_1 := BQ.out.cell 1
                    have kbq_2 := BQ.out.cell 2
                    have kbq_3 := BQ.out.cell 3
                    have kbq_4 := BQ.out.cell 4
                    have kbq_5 := BQ.out.cell 5
                    go_upto_region 37 with (first | (go_at_call 17; (with_reducible refine (HTZ.out _).mono ?_); rintro e w' ⟨rfl, rfl⟩))
                    clear kb3_0 kb3_1 kb3_2 kbp_0 kbp_1 kbp_2 kbp_3 kbp_4 kbp_5 kbq_0 kbq_1 kbq_2 kbq_3 kbq_4 kbq_5
                    rw [HSO.out]
                    have kb3_0 := B3.out.cell 0
                    have kb3_1 := B3.out.cell 1
                    have kb3_2 := B3.out.cell 2
                    have kbp_0 := BP.out.cell 0
                    have kbp_1 := BP.out.cell 1
                    have kbp_2 := BP.out.cell 2
                    have kbp_3 := BP.out.cell 3
                    have kbp_4 := BP.out.cell 4
                    have kbp_5 := BP.out.cell 5
                    have kbq_0 := BQ.out.cell 0
                    have kbq_1 := BQ.out.cell 1
                    have kbq_2 := BQ.out.cell 2
                    have kbq_3 := BQ.out.cell 3
                    have kbq_4 := BQ.out.cell 4
                    have kbq_5 := BQ.out.cell 5
                    go_upto_region 38 with (go_at_call 45; (with_reducible refine (T45.out _ HPA.out).mono ?_); rintro e V13 ⟨⟨Dm, mm, mc, rfl, hdi⟩, hg⟩; have HMI := Lib.hid hdi; clear hdi)
                    clear kb3_0 kb3_1 kb3_2 kbp_0 kbp_1 kbp_2 kbp_3 kbp_4 kbp_5 kbq_0 kbq_1 kbq_2 kbq_3 kbq_4 kbq_5
                    have G13 := Lib.hid (G12.out.trans (hg.mono G12.out.size))
                    have B3 := Lib.hid (B3.out.ext hg)
                    have BP := Lib.hid (BP.out.ext hg)
                    have BQ := Lib.hid (BQ.out.ext hg)
                    have HPA := Lib.hid (HPA.out.below hg)
                    have HPQ := Lib.hid (HPQ.out.below hg)
                    clear hg
                    have kb3_0 := B3.out.cell 0
                    have kb3_1 := B3.out.cell 1
                    have kb3_2 := B3.out.cell 2
                    have kbp_0 := BP.out.cell 0
                    have kbp_1 := BP.out.cell 1
                    have kbp_2 := BP.out.cell 2
                    have kbp_3 := BP.out.cell 3
                    have kbp_4 := BP.out.cell 4
                    have kbp_5 := BP.out.cell 5
                    have kbq_0 := BQ.out.cell 0
                    have kbq_1 := BQ.out.cell 1
                    have kbq_2 := BQ.out.cell 2
                    have kbq_3 := BQ.out.cell 3
                    have kbq_4 := BQ.out.cell 4
                    have kbq_5 := BQ.out.cell 5
                    go_upto_region 39 with (go_at_call 46; (with_reducible refine (T46.out _ HPA.out).mono ?_); rintro e V14 ⟨⟨u1, u2, u3, rfl, hcp⟩, hg⟩; obtain ⟨J1, c1, j1, J2, c2, j2, J3, c3, j3, rfl, rfl, rfl, hpw⟩ := hcp.slices; rw [plw_plb]; have HPW := Lib.hid hpw; clear hcp hpw)
                    clear kb3_0 kb3_1 kb3_2 kbp_0 kbp_1 kbp_2 kbp_3 kbp_4 kbp_5 kbq_0 kbq_1 kbq_2 kbq_3 kbq_4 kbq_5
                    obtain ⟨W14, hW14⟩ : ∃ W, (V14.alloc (.cells (plb WP J1 J2 J3 c1 j1 c2 j2 c3 j3) 38)) = W := ⟨_, rfl⟩
                    have ga : Below V14.heap.size V14 W14 := by rw [← hW14]; exact one_more _ _
                    have gb := hg.trans (ga.mono hg.size)
                    have G14 := Lib.hid (G13.out.trans (gb.mono G13.out.size))
                    have B3 := Lib.hid (B3.out.ext gb)
                    have BP := Lib.hid (BP.out.ext gb)
                    have BQ := Lib.hid (BQ.out.ext gb)
                    have HPA := Lib.hid (HPA.out.below gb)
                    have HPQ := Lib.hid (HPQ.out.below gb)
                    have HMI := Lib.hid (HMI.out.below gb)
                    have HPW := Lib.hid (HPW.out.below ga)
                    have BW := Lib.hid (show Blk W14 (V14.heap.size) 38 (plb WP J1 J2 J3 c1 j1 c2 j2 c3 j3) by rw [← hW14]; exact Blk.new _ _ _)
                    rw [hW14]
                    clear hg ga gb hW14
                    rcases HWM.out.2 with he | he
                    · subst he
                      have HWE := Lib.hid (show WP = withoutP P so by rw [← HWP.out]; unfold wioP; rw [HWM.out.1, if_pos rfl])
                      have H19W := Lib.hid (show WP.loads.length ≤ 19 by rw [HWE.out]; exact Nat.le_trans (List.length_filter_le _ _) H19.out)
                      have hmb : m1 ≤ 1000 := HN60.out.1
                      have HMB := Lib.hid hmb
                      have HMM := Lib.hid (show mm ≤ 1000000 by
                        have h1 := HMI.out.1
                        rw [← HML.out] at h1
                        have h2 := HMLN.out
                        omega)
                      go_wp2_with fail
                      go_loopw [29] (fun i wr => ∃ k : Nat, k ≤ m1 ∧ i = .int .i64 k ∧ Below W14.heap.size W14 wr) (fun i _ => m1 - (intOf i).toNat)
                      case atStart => exact ⟨0, Nat.zero_le _, rfl, Below.refl _ _⟩
                      case round =>
                        obtain ⟨k, hk, rfl, hgk⟩ := hrel
                        obtain ⟨V, rfl⟩ : ∃ V : World, V = wr := ⟨_, rfl⟩
                        have HGK := Lib.hid hgk
                        have hvs := hgk.size
                        have BPk := Lib.hid (BP.out.ext hgk)
                        have BWk := Lib.hid (BW.out.ext hgk)
                        have HPAk := Lib.hid (HPA.out.below hgk)
                        have HPWk := Lib.hid (HPW.out.below hgk)
                        have HMIk := Lib.hid (HMI.out.below hgk)
                        have p2 := BPk.out.cell 2
                        clear hgk
                        by_cases hkm : k < m1
                        · obtain ⟨b0, o0, e0, -, -, hc⟩ := six_at HPAk.out.l1 hkm
                          have hmh := moved_has HME.out (i := k) (by rw [HPA.out.l1.1]; exact hkm)
                          obtain ⟨q, hq⟩ : ∃ q, P.loads.getD k z6 = q := ⟨_, rfl⟩
                          rw [hq, HML.out, ← HWE.out] at hmh
                          rw [hq] at hc
                          unfold sameAt at hmh
                          have TQ := fun X (g : Below V.heap.size V X) => stood_any P D1 D2 D3 m1 d1 m2 d2 m3 d3 q.b kn X (HPAk.out.below g) H19.out
                          have TR := fun V8 (g8 : Below V.heap.size V V8) X (g : Below V8.heap.size V8 X) => stood_any WP J1 J2 J3 c1 j1 c2 j2 c3 j3 q.b kn X ((HPWk.out.below g8).below g) H19W.out
                          have TH := fun X (g : Below V.heap.size V X) => refHas_any Dm mm mc ml q.b X (HMIk.out.below g) HMM.out
                          obtain ⟨⟨s0, s1⟩, hs⟩ : ∃ s, stoodR P q.b kn = s := ⟨_, rfl⟩
                          obtain ⟨⟨t0, t1⟩, ht⟩ : ∃ s, stoodR WP q.b kn = s := ⟨_, rfl⟩
                          obtain ⟨e1, he1⟩ : ∃ s, askE P [q.b] kn = s := ⟨_, rfl⟩
                          obtain ⟨e2, he2⟩ : ∃ s, askE WP [q.b] kn = s := ⟨_, rfl⟩
                          obtain ⟨hb, hhb⟩ : ∃ b, hasI ml q.b = b := ⟨_, rfl⟩
                          rw [hs, he1] at TQ
                          rw [ht, he2] at TR
                          rw [hhb] at TH
                          rw [hs, ht, he1, he2, hhb] at hmh
                          have HMH := Lib.hid hmh
                          have HTQ := Lib.hid TQ
                          have HTR := Lib.hid TR
                          have HTH := Lib.hid TH
                          subst e0
                          have HC := Lib.hid hc
                          have HKP := Lib.hid (fun X (g : Below V.heap.size V X) => (⟨(BPk.out.ext g).cell 0, (BPk.out.ext g).cell 1, (BPk.out.ext g).cell 2, (BPk.out.ext g).cell 3, (BPk.out.ext g).cell 4, (BPk.out.ext g).cell 5, (hc _ g).2.1⟩ : X.cell? ⟨V3.heap.size, 0, none⟩ = some (.int .i64 P.lo) ∧ X.cell? ⟨V3.heap.size, 1, none⟩ = some (.int .i64 P.hi) ∧ X.cell? ⟨V3.heap.size, 2, none⟩ = some (.slice (some ⟨b0, o0, none⟩) m1 d1) ∧ X.cell? ⟨V3.heap.size, 3, none⟩ = some (.slice D2 m2 d2) ∧ X.cell? ⟨V3.heap.size, 4, none⟩ = some (.slice D3 m3 d3) ∧ X.cell? ⟨V3.heap.size, 5, none⟩ = some (.int .i64 P.geese) ∧ X.cell? ⟨b0, o0 + k * 6 + 1, none⟩ = some (.int .i64 q.b)))
                          have hk1 : (k : Int) < (m1 : Int) := by omega
                          clear hc hq TQ TR TH hs ht he1 he2 hhb hmh
                          go_upto_region 44 with fail
                          clear p2
                          obtain ⟨p0, p1, p2, p3, p4, p5, p6⟩ := HKP.out V (Below.refl _ _)
                          go_cut [30, 31] from 228 to 239 (fun s21 s22 wx => ∃ b21, s21 = .pointer (some ⟨b21, 0, none⟩) ∧ s22 = .int .i64 e1 ∧ Below V.heap.size V wx ∧ Blk wx b21 33 #[.int .i64 s0, .int .i64 s1])
                          case first =>
                            go_region_held3 (fun X => X.cell? ⟨V3.heap.size, 0, none⟩ = some (.int .i64 P.lo) ∧ X.cell? ⟨V3.heap.size, 1, none⟩ = some (.int .i64 P.hi) ∧ X.cell? ⟨V3.heap.size, 2, none⟩ = some (.slice (some ⟨b0, o0, none⟩) m1 d1) ∧ X.cell? ⟨V3.heap.size, 3, none⟩ = some (.slice D2 m2 d2) ∧ X.cell? ⟨V3.heap.size, 4, none⟩ = some (.slice D3 m3 d3) ∧ X.cell? ⟨V3.heap.size, 5, none⟩ = some (.int .i64 P.geese) ∧ X.cell? ⟨b0, o0 + k * 6 + 1, none⟩ = some (.int .i64 q.b))
                              (with_reducible refine HKP.out _ ?_; repeat' first | (with_reducible exact Below.refl _ _) | (with_reducible exact G9.out) | (with_reducible refine Below.drew ?_) | (with_reducible refine Below.allo_ ?_ (by first | (simp; done) | (simp; omega) | omega) _) | (with_reducible refine Below.setCell ?_ (by dsimp only; omega) _))
                              (first
                                | (go_at_call 35; (with_reducible refine (HTQ.out _ (Below.refl _ _).drew).mono ?_); rintro e V9 ⟨rfl, hg⟩; have G9 := Lib.hid (show Below V.heap.size V V9 from (Below.refl _ _).drew.trans hg); have hv9 : V.heap.size ≤ V9.heap.size := G9.out.size; clear hg)
                                | (go_at_call 35; (with_reducible refine (HTQ.out _ (one_more V (.cells #[.int .i64 0, .int .i64 0] 33)).drew).mono ?_); rintro e V9 ⟨rfl, hg⟩; have KN := Lib.hid ((Blk.new V 33 #[.int .i64 0, .int .i64 0]).drew_.ext hg); have y0 := KN.out.cell 0; have y1 := KN.out.cell 1; have y2 := KN.out.frozen 0; have y3 := KN.out.frozen 1; have G9 := Lib.hid (show Below V.heap.size V V9 from (one_more V (.cells #[.int .i64 0, .int .i64 0] 33)).drew.trans (hg.mono (by simp))); have hv9 : V.heap.size ≤ V9.heap.size := G9.out.size; clear hg))
                            all_goals (try go_wp2_with fail)
                            all_goals go_meet
                            all_goals first
                              | exact ⟨_, rfl, rfl, G9.out.trans ((one_more _ _).mono G9.out.size), Blk.new _ _ _⟩
                              | exact ⟨_, rfl, rfl, (G9.out.setCell (p := ⟨V.heap.size, 0, none⟩) (Nat.le_refl _) _).setCell (p := ⟨V.heap.size, 1, none⟩) (Nat.le_refl _) _, (KN.out.set_ 0 (.int .i64 s0)).set_ 1 (.int .i64 s1)⟩
                          case rest =>
                            obtain ⟨b30, rfl, rfl, hgd, hb30⟩ := hcut
                            obtain ⟨U, rfl⟩ : ∃ U : World, U = wc := ⟨_, rfl⟩
                            have HGD := Lib.hid hgd
                            have B30 := Lib.hid hb30
                            have HKW := Lib.hid (fun X (g : Below U.heap.size U X) => (⟨((BWk.out.ext hgd).ext g).cell 0, ((BWk.out.ext hgd).ext g).cell 1, ((BWk.out.ext hgd).ext g).cell 2, ((BWk.out.ext hgd).ext g).cell 3, ((BWk.out.ext hgd).ext g).cell 4, ((BWk.out.ext hgd).ext g).cell 5, ((BPk.out.ext hgd).ext g).cell 2, (HC.out _ (hgd.trans (g.mono hgd.size))).2.1⟩ : X.cell? ⟨V14.heap.size, 0, none⟩ = some (.int .i64 WP.lo) ∧ X.cell? ⟨V14.heap.size, 1, none⟩ = some (.int .i64 WP.hi) ∧ X.cell? ⟨V14.heap.size, 2, none⟩ = some (.slice J1 c1 j1) ∧ X.cell? ⟨V14.heap.size, 3, none⟩ = some (.slice J2 c2 j2) ∧ X.cell? ⟨V14.heap.size, 4, none⟩ = some (.slice J3 c3 j3) ∧ X.cell? ⟨V14.heap.size, 5, none⟩ = some (.int .i64 WP.geese) ∧ X.cell? ⟨V3.heap.size, 2, none⟩ = some (.slice (some ⟨b0, o0, none⟩) m1 d1) ∧ X.cell? ⟨b0, o0 + k * 6 + 1, none⟩ = some (.int .i64 q.b)))
                            have HTR2 := Lib.hid (HTR.out U hgd)
                            have hvu := hgd.size
                            clear hgd hb30 p0 p1 p2 p3 p4 p5 p6
                            go_upto_region 45 with fail
                            obtain ⟨p0, p1, p2, p3, p4, p5, p6, p7⟩ := HKW.out U (Below.refl _ _)
                            go_cut [32, 33] from 240 to 251 (fun s21 s22 wx => ∃ b21, s21 = .pointer (some ⟨b21, 0, none⟩) ∧ s22 = .int .i64 e2 ∧ Below U.heap.size U wx ∧ Blk wx b21 33 #[.int .i64 t0, .int .i64 t1])
                            case first =>
                              go_region_held3 (fun X => X.cell? ⟨V14.heap.size, 0, none⟩ = some (.int .i64 WP.lo) ∧ X.cell? ⟨V14.heap.size, 1, none⟩ = some (.int .i64 WP.hi) ∧ X.cell? ⟨V14.heap.size, 2, none⟩ = some (.slice J1 c1 j1) ∧ X.cell? ⟨V14.heap.size, 3, none⟩ = some (.slice J2 c2 j2) ∧ X.cell? ⟨V14.heap.size, 4, none⟩ = some (.slice J3 c3 j3) ∧ X.cell? ⟨V14.heap.size, 5, none⟩ = some (.int .i64 WP.geese) ∧ X.cell? ⟨V3.heap.size, 2, none⟩ = some (.slice (some ⟨b0, o0, none⟩) m1 d1) ∧ X.cell? ⟨b0, o0 + k * 6 + 1, none⟩ = some (.int .i64 q.b))
                                (with_reducible refine HKW.out _ ?_; repeat' first | (with_reducible exact Below.refl _ _) | (with_reducible exact G9.out) | (with_reducible refine Below.drew ?_) | (with_reducible refine Below.allo_ ?_ (by first | (simp; done) | (simp; omega) | omega) _) | (with_reducible refine Below.setCell ?_ (by dsimp only; omega) _))
                                (first
                                  | (go_at_call 35; (with_reducible refine (HTR2.out _ (Below.refl _ _).drew).mono ?_); rintro e V9 ⟨rfl, hg⟩; have G9 := Lib.hid (show Below U.heap.size U V9 from (Below.refl _ _).drew.trans hg); have hv9 : U.heap.size ≤ V9.heap.size := G9.out.size; clear hg)
                                  | (go_at_call 35; (with_reducible refine (HTR2.out _ (one_more U (.cells #[.int .i64 0, .int .i64 0] 33)).drew).mono ?_); rintro e V9 ⟨rfl, hg⟩; have KN := Lib.hid ((Blk.new U 33 #[.int .i64 0, .int .i64 0]).drew_.ext hg); have y0 := KN.out.cell 0; have y1 := KN.out.cell 1; have y2 := KN.out.frozen 0; have y3 := KN.out.frozen 1; have G9 := Lib.hid (show Below U.heap.size U V9 from (one_more U (.cells #[.int .i64 0, .int .i64 0] 33)).drew.trans (hg.mono (by simp))); have hv9 : U.heap.size ≤ V9.heap.size := G9.out.size; clear hg))
                              all_goals (try go_wp2_with fail)
                              all_goals go_meet
                              all_goals first
                                | exact ⟨_, rfl, rfl, G9.out.trans ((one_more _ _).mono G9.out.size), Blk.new _ _ _⟩
                                | exact ⟨_, rfl, rfl, (G9.out.setCell (p := ⟨U.heap.size, 0, none⟩) (Nat.le_refl _) _).setCell (p := ⟨U.heap.size, 1, none⟩) (Nat.le_refl _) _, (KN.out.set_ 0 (.int .i64 t0)).set_ 1 (.int .i64 t1)⟩
                            case rest =>
                              obtain ⟨b32, rfl, rfl, hgd, hb32⟩ := hcut
                              obtain ⟨X8, rfl⟩ : ∃ U : World, U = wc := ⟨_, rfl⟩
                              have HG8 := Lib.hid (HGD.out.trans (hgd.mono HGD.out.size))
                              have w1 := cellW ((BPk.out.ext HG8.out).cell 2)
                              have w2 := cellW (HC.out _ HG8.out).2.1
                              have w3 := cellW ((B30.out.ext hgd).cell 0)
                              have w4 := cellW ((B30.out.ext hgd).cell 1)
                              have w5 := cellW (hb32.cell 0)
                              have w6 := cellW (hb32.cell 1)
                              have hnr := neqRg ⟨s0, s1⟩ ⟨t0, t1⟩
                              dsimp only at hnr
                              have hmh := HMH.out
                              obtain ⟨sb, hsb⟩ : ∃ b, decide ((⟨s0, s1⟩ : Rg) = ⟨t0, t1⟩) = b := ⟨_, rfl⟩
                              rw [hsb] at hnr hmh
                              clear hgd hb32 p0 p1 p2 p3 p4 p5 p6 p7 hsb HMH
                              have HT8 := Lib.hid (fun X (g : Below X8.heap.size X8 X) => HTH.out X (HG8.out.trans (g.mono HG8.out.size)))
                              cases sb with
                              | false =>
                                obtain rfl : hb = true := hmh
                                go_upto_region 46 with fail
                                refine wp_region_calm X8 (by kernel_rfl) (by kernel_rfl) (Below.refl _ _) ?_
                                repeat (go_big_quiet_step (first | (go_at_call 47; exact callsCalmSame (HT8.out _ (Wd.ok _)))))
                                refine wpQuiet_nil ?_
                                rintro _ ⟨zz, rfl⟩
                                have GZ := Lib.hid (HGK.out.trans ((HG8.out.trans (zz.ok.mono HG8.out.size)).mono hvs))
                                clear w1 w2 w3 w4 w5 w6 hnr
                                go_wp2_with fail
                                go_roundw
                                case rel => exact ⟨k + 1, by omega, by go_num, GZ.out⟩
                                case measure => simp [intOf]; omega
                              | true =>
                                by_cases hee : e1 = e2
                                · subst hee
                                  obtain rfl : hb = false := by simpa using hmh
                                  clear hmh
                                  have hz9 : (e1 != e1) = false := by simp
                                  go_upto_region 46 with fail
                                  refine wp_region_calm X8 (by kernel_rfl) (by kernel_rfl) (Below.refl _ _) ?_
                                  repeat (go_big_quiet_step (first | (go_at_call 47; exact callsCalmSame (HT8.out _ (Wd.ok _)))))
                                  refine wpQuiet_nil ?_
                                  rintro _ ⟨zz, rfl⟩
                                  have GZ := Lib.hid (HGK.out.trans ((HG8.out.trans (zz.ok.mono HG8.out.size)).mono hvs))
                                  clear w1 w2 w3 w4 w5 w6 hnr
                                  go_wp2_with fail
                                  go_roundw
                                  case rel => exact ⟨k + 1, by omega, by go_num, GZ.out⟩
                                  case measure => simp [intOf]; omega
                                · obtain rfl : hb = true := by simpa [hee] using hmh
                                  clear hmh
                                  have hz9 : (e1 != e2) = true := by simpa using hee
                                  go_upto_region 46 with fail
                                  refine wp_region_calm X8 (by kernel_rfl) (by kernel_rfl) (Below.refl _ _) ?_
                                  repeat (go_big_quiet_step (first | (go_at_call 47; exact callsCalmSame (HT8.out _ (Wd.ok _)))))
                                  refine wpQuiet_nil ?_
                                  rintro _ ⟨zz, rfl⟩
                                  have GZ := Lib.hid (HGK.out.trans ((HG8.out.trans (zz.ok.mono HG8.out.size)).mono hvs))
                                  clear w1 w2 w3 w4 w5 w6 hnr
                                  go_wp2_with fail
                                  go_roundw
                                  case rel => exact ⟨k + 1, by omega, by go_num, GZ.out⟩
                                  case measure => simp [intOf]; omega
                        · obtain rfl : m1 = k := by omega
                          go_wp2_with fail
                          go_ret
                          exact ⟨rfl, G14.out.trans (HGK.out.mono G14.out.size)⟩
                    · subst he
                      go_wp2_with fail
                      go_ret
                      exact ⟨rfl, G14.out⟩
                  · have hne : lastD kn (datesL P) ≠ -1 := by rw [HLA.out]; omega
                    have hq := (last_alike HPLN.out hne).same (hour := hh) HOK.out HOK.out (by omega) (by omega) (by rw [HLA.out]; omega)
                    rw [HLA.out, HOA.out, HEA.out] at hq
                    have T18l := Lib.hid (fun W (hp : Pa W P D1 D2 D3 m1 d1 m2 d2 m3 d3) => openP_any P D1 D2 D3 m1 d1 m2 d2 m3 d3 hh la W hp H19.out)
                    rw [hq.1, hq.2] at T18l
                    have hz : decide (0 ≤ la) = true := decide_eq_true hl.1
                    clear hne hq
                    have kb3_0 := B3.out.cell 0
                    have kb3_1 := B3.out.cell 1
                    have kb3_2 := B3.out.cell 2
                    have kbp_0 := BP.out.cell 0
                    have kbp_1 := BP.out.cell 1
                    have kbp_2 := BP.out.cell 2
                    have kbp_3 := BP.out.cell 3
                    have kbp_4 := BP.out.cell 4
                    have kbp_5 := BP.out.cell 5
                    have kbq_0 := BQ.out.cell 0
                    have kbq_1 := BQ.out.cell 1
                    have kbq_2 := BQ.out.cell 2
                    have kbq_3 := BQ.out.cell 3
                    have kbq_4 := BQ.out.cell 4
                    have kbq_5 := BQ.out.cell 5
                    go_upto_region 34 with (go_at_call 18; (with_reducible refine (T18l.out _ HPA.out).mono ?_); rintro e V13 ⟨rfl, hg⟩)
                    clear kb3_0 kb3_1 kb3_2 kbp_0 kbp_1 kbp_2 kbp_3 kbp_4 kbp_5 kbq_0 kbq_1 kbq_2 kbq_3 kbq_4 kbq_5
                    have G13 := Lib.hid (G12.out.trans (hg.mono G12.out.size))
                    have B3 := Lib.hid (B3.out.ext hg)
                    have BP := Lib.hid (BP.out.ext hg)
                    have BQ := Lib.hid (BQ.out.ext hg)
                    have HPA := Lib.hid (HPA.out.below hg)
                    have HPQ := Lib.hid (HPQ.out.below hg)
                    clear hg
                    have kb3_0 := B3.out.cell 0
                    have kb3_1 := B3.out.cell 1
                    have kb3_2 := B3.out.cell 2
                    have kbp_0 := BP.out.cell 0
                    have kbp_1 := BP.out.cell 1
                    have kbp_2 := BP.out.cell 2
                    have kbp_3 := BP.out.cell 3
                    have kbp_4 := BP.out.cell 4
                    have kbp_5 := BP.out.cell 5
                    have kbq_0 := BQ.out.cell 0
                    have kbq_1 := BQ.out.cell 1
                    have kbq_2 := BQ.out.cell 2
                    have kbq_3 := BQ.out.cell 3
                    have kbq_4 := BQ.out.cell 4
                    have kbq_5 := BQ.out.cell 5
                    go_upto_region 37 with (first | (go_at_call 17; (with_reducible refine (HTZ.out _).mono ?_); rintro e w' ⟨rfl, rfl⟩))
                    clear kb3_0 kb3_1 kb3_2 kbp_0 kbp_1 kbp_2 kbp_3 kbp_4 kbp_5 kbq_0 kbq_1 kbq_2 kbq_3 kbq_4 kbq_5
                    rw [HSO.out]
                    have kb3_0 := B3.out.cell 0
                    have kb3_1 := B3.out.cell 1
                    have kb3_2 := B3.out.cell 2
                    have kbp_0 := BP.out.cell 0
                    have kbp_1 := BP.out.cell 1
                    have kbp_2 := BP.out.cell 2
                    have kbp_3 := BP.out.cell 3
                    have kbp_4 := BP.out.cell 4
                    have kbp_5 := BP.out.cell 5
                    have kbq_0 := BQ.out.cell 0
                    have kbq_1 := BQ.out.cell 1
                    have kbq_2 := BQ.out.cell 2
                    have kbq_3 := BQ.out.cell 3
                    have kbq_4 := BQ.out.cell 4
                    have kbq_5 := BQ.out.cell 5
                    go_upto_region 38 with (go_at_call 45; (with_reducible refine (T45.out _ HPA.out).mono ?_); rintro e V14 ⟨⟨Dm, mm, mc, rfl, hdi⟩, hg⟩; have HMI := Lib.hid hdi; clear hdi)
                    clear kb3_0 kb3_1 kb3_2 kbp_0 kbp_1 kbp_2 kbp_3 kbp_4 kbp_5 kbq_0 kbq_1 kbq_2 kbq_3 kbq_4 kbq_5
                    have G14 := Lib.hid (G13.out.trans (hg.mono G13.out.size))
                    have B3 := Lib.hid (B3.out.ext hg)
                    have BP := Lib.hid (BP.out.ext hg)
                    have BQ := Lib.hid (BQ.out.ext hg)
                    have HPA := Lib.hid (HPA.out.below hg)
                    have HPQ := Lib.hid (HPQ.out.below hg)
                    clear hg
                    have kb3_0 := B3.out.cell 0
                    have kb3_1 := B3.out.cell 1
                    have kb3_2 := B3.out.cell 2
                    have kbp_0 := BP.out.cell 0
                    have kbp_1 := BP.out.cell 1
                    have kbp_2 := BP.out.cell 2
                    have kbp_3 := BP.out.cell 3
                    have kbp_4 := BP.out.cell 4
                    have kbp_5 := BP.out.cell 5
                    have kbq_0 := BQ.out.cell 0
                    have kbq_1 := BQ.out.cell 1
                    have kbq_2 := BQ.out.cell 2
                    have kbq_3 := BQ.out.cell 3
                    have kbq_4 := BQ.out.cell 4
                    have kbq_5 := BQ.out.cell 5
                    go_upto_region 39 with (go_at_call 46; (with_reducible refine (T46.out _ HPA.out).mono ?_); rintro e V15 ⟨⟨u1, u2, u3, rfl, hcp⟩, hg⟩; obtain ⟨J1, c1, j1, J2, c2, j2, J3, c3, j3, rfl, rfl, rfl, hpw⟩ := hcp.slices; rw [plw_plb]; have HPW := Lib.hid hpw; clear hcp hpw)
                    clear kb3_0 kb3_1 kb3_2 kbp_0 kbp_1 kbp_2 kbp_3 kbp_4 kbp_5 kbq_0 kbq_1 kbq_2 kbq_3 kbq_4 kbq_5
                    obtain ⟨W15, hW15⟩ : ∃ W, (V15.alloc (.cells (plb WP J1 J2 J3 c1 j1 c2 j2 c3 j3) 38)) = W := ⟨_, rfl⟩
                    have ga : Below V15.heap.size V15 W15 := by rw [← hW15]; exact one_more _ _
                    have gb := hg.trans (ga.mono hg.size)
                    have G15 := Lib.hid (G14.out.trans (gb.mono G14.out.size))
                    have B3 := Lib.hid (B3.out.ext gb)
                    have BP := Lib.hid (BP.out.ext gb)
                    have BQ := Lib.hid (BQ.out.ext gb)
                    have HPA := Lib.hid (HPA.out.below gb)
                    have HPQ := Lib.hid (HPQ.out.below gb)
                    have HMI := Lib.hid (HMI.out.below gb)
                    have HPW := Lib.hid (HPW.out.below ga)
                    have BW := Lib.hid (show Blk W15 (V15.heap.size) 38 (plb WP J1 J2 J3 c1 j1 c2 j2 c3 j3) by rw [← hW15]; exact Blk.new _ _ _)
                    rw [hW15]
                    clear hg ga gb hW15
                    rcases HWM.out.2 with he | he
                    · subst he
                      have HWE := Lib.hid (show WP = withoutP P so by rw [← HWP.out]; unfold wioP; rw [HWM.out.1, if_pos rfl])
                      have H19W := Lib.hid (show WP.loads.length ≤ 19 by rw [HWE.out]; exact Nat.le_trans (List.length_filter_le _ _) H19.out)
                      have hmb : m1 ≤ 1000 := HN60.out.1
                      have HMB := Lib.hid hmb
                      have HMM := Lib.hid (show mm ≤ 1000000 by
                        have h1 := HMI.out.1
                        rw [← HML.out] at h1
                        have h2 := HMLN.out
                        omega)
                      go_wp2_with fail
                      go_loopw [29] (fun i wr => ∃ k : Nat, k ≤ m1 ∧ i = .int .i64 k ∧ Below W15.heap.size W15 wr) (fun i _ => m1 - (intOf i).toNat)
                      case atStart => exact ⟨0, Nat.zero_le _, rfl, Below.refl _ _⟩
                      case round =>
                        obtain ⟨k, hk, rfl, hgk⟩ := hrel
                        obtain ⟨V, rfl⟩ : ∃ V : World, V = wr := ⟨_, rfl⟩
                        have HGK := Lib.hid hgk
                        have hvs := hgk.size
                        have BPk := Lib.hid (BP.out.ext hgk)
                        have BWk := Lib.hid (BW.out.ext hgk)
                        have HPAk := Lib.hid (HPA.out.below hgk)
                        have HPWk := Lib.hid (HPW.out.below hgk)
                        have HMIk := Lib.hid (HMI.out.below hgk)
                        have p2 := BPk.out.cell 2
                        clear hgk
                        by_cases hkm : k < m1
                        · obtain ⟨b0, o0, e0, -, -, hc⟩ := six_at HPAk.out.l1 hkm
                          have hmh := moved_has HME.out (i := k) (by rw [HPA.out.l1.1]; exact hkm)
                          obtain ⟨q, hq⟩ : ∃ q, P.loads.getD k z6 = q := ⟨_, rfl⟩
                          rw [hq, HML.out, ← HWE.out] at hmh
                          rw [hq] at hc
                          unfold sameAt at hmh
                          have TQ := fun X (g : Below V.heap.size V X) => stood_any P D1 D2 D3 m1 d1 m2 d2 m3 d3 q.b kn X (HPAk.out.below g) H19.out
                          have TR := fun V8 (g8 : Below V.heap.size V V8) X (g : Below V8.heap.size V8 X) => stood_any WP J1 J2 J3 c1 j1 c2 j2 c3 j3 q.b kn X ((HPWk.out.below g8).below g) H19W.out
                          have TH := fun X (g : Below V.heap.size V X) => refHas_any Dm mm mc ml q.b X (HMIk.out.below g) HMM.out
                          obtain ⟨⟨s0, s1⟩, hs⟩ : ∃ s, stoodR P q.b kn = s := ⟨_, rfl⟩
                          obtain ⟨⟨t0, t1⟩, ht⟩ : ∃ s, stoodR WP q.b kn = s := ⟨_, rfl⟩
                          obtain ⟨e1, he1⟩ : ∃ s, askE P [q.b] kn = s := ⟨_, rfl⟩
                          obtain ⟨e2, he2⟩ : ∃ s, askE WP [q.b] kn = s := ⟨_, rfl⟩
                          obtain ⟨hb, hhb⟩ : ∃ b, hasI ml q.b = b := ⟨_, rfl⟩
                          rw [hs, he1] at TQ
                          rw [ht, he2] at TR
                          rw [hhb] at TH
                          rw [hs, ht, he1, he2, hhb] at hmh
                          have HMH := Lib.hid hmh
                          have HTQ := Lib.hid TQ
                          have HTR := Lib.hid TR
                          have HTH := Lib.hid TH
                          subst e0
                          have HC := Lib.hid hc
                          have HKP := Lib.hid (fun X (g : Below V.heap.size V X) => (⟨(BPk.out.ext g).cell 0, (BPk.out.ext g).cell 1, (BPk.out.ext g).cell 2, (BPk.out.ext g).cell 3, (BPk.out.ext g).cell 4, (BPk.out.ext g).cell 5, (hc _ g).2.1⟩ : X.cell? ⟨V3.heap.size, 0, none⟩ = some (.int .i64 P.lo) ∧ X.cell? ⟨V3.heap.size, 1, none⟩ = some (.int .i64 P.hi) ∧ X.cell? ⟨V3.heap.size, 2, none⟩ = some (.slice (some ⟨b0, o0, none⟩) m1 d1) ∧ X.cell? ⟨V3.heap.size, 3, none⟩ = some (.slice D2 m2 d2) ∧ X.cell? ⟨V3.heap.size, 4, none⟩ = some (.slice D3 m3 d3) ∧ X.cell? ⟨V3.heap.size, 5, none⟩ = some (.int .i64 P.geese) ∧ X.cell? ⟨b0, o0 + k * 6 + 1, none⟩ = some (.int .i64 q.b)))
                          have hk1 : (k : Int) < (m1 : Int) := by omega
                          clear hc hq TQ TR TH hs ht he1 he2 hhb hmh
                          go_upto_region 44 with fail
                          clear p2
                          obtain ⟨p0, p1, p2, p3, p4, p5, p6⟩ := HKP.out V (Below.refl _ _)
                          go_cut [30, 31] from 228 to 239 (fun s21 s22 wx => ∃ b21, s21 = .pointer (some ⟨b21, 0, none⟩) ∧ s22 = .int .i64 e1 ∧ Below V.heap.size V wx ∧ Blk wx b21 33 #[.int .i64 s0, .int .i64 s1])
                          case first =>
                            go_region_held3 (fun X => X.cell? ⟨V3.heap.size, 0, none⟩ = some (.int .i64 P.lo) ∧ X.cell? ⟨V3.heap.size, 1, none⟩ = some (.int .i64 P.hi) ∧ X.cell? ⟨V3.heap.size, 2, none⟩ = some (.slice (some ⟨b0, o0, none⟩) m1 d1) ∧ X.cell? ⟨V3.heap.size, 3, none⟩ = some (.slice D2 m2 d2) ∧ X.cell? ⟨V3.heap.size, 4, none⟩ = some (.slice D3 m3 d3) ∧ X.cell? ⟨V3.heap.size, 5, none⟩ = some (.int .i64 P.geese) ∧ X.cell? ⟨b0, o0 + k * 6 + 1, none⟩ = some (.int .i64 q.b))
                              (with_reducible refine HKP.out _ ?_; repeat' first | (with_reducible exact Below.refl _ _) | (with_reducible exact G9.out) | (with_reducible refine Below.drew ?_) | (with_reducible refine Below.allo_ ?_ (by first | (simp; done) | (simp; omega) | omega) _) | (with_reducible refine Below.setCell ?_ (by dsimp only; omega) _))
                              (first
                                | (go_at_call 35; (with_reducible refine (HTQ.out _ (Below.refl _ _).drew).mono ?_); rintro e V9 ⟨rfl, hg⟩; have G9 := Lib.hid (show Below V.heap.size V V9 from (Below.refl _ _).drew.trans hg); have hv9 : V.heap.size ≤ V9.heap.size := G9.out.size; clear hg)
                                | (go_at_call 35; (with_reducible refine (HTQ.out _ (one_more V (.cells #[.int .i64 0, .int .i64 0] 33)).drew).mono ?_); rintro e V9 ⟨rfl, hg⟩; have KN := Lib.hid ((Blk.new V 33 #[.int .i64 0, .int .i64 0]).drew_.ext hg); have y0 := KN.out.cell 0; have y1 := KN.out.cell 1; have y2 := KN.out.frozen 0; have y3 := KN.out.frozen 1; have G9 := Lib.hid (show Below V.heap.size V V9 from (one_more V (.cells #[.int .i64 0, .int .i64 0] 33)).drew.trans (hg.mono (by simp))); have hv9 : V.heap.size ≤ V9.heap.size := G9.out.size; clear hg))
                            all_goals (try go_wp2_with fail)
                            all_goals go_meet
                            all_goals first
                              | exact ⟨_, rfl, rfl, G9.out.trans ((one_more _ _).mono G9.out.size), Blk.new _ _ _⟩
                              | exact ⟨_, rfl, rfl, (G9.out.setCell (p := ⟨V.heap.size, 0, none⟩) (Nat.le_refl _) _).setCell (p := ⟨V.heap.size, 1, none⟩) (Nat.le_refl _) _, (KN.out.set_ 0 (.int .i64 s0)).set_ 1 (.int .i64 s1)⟩
                          case rest =>
                            obtain ⟨b30, rfl, rfl, hgd, hb30⟩ := hcut
                            obtain ⟨U, rfl⟩ : ∃ U : World, U = wc := ⟨_, rfl⟩
                            have HGD := Lib.hid hgd
                            have B30 := Lib.hid hb30
                            have HKW := Lib.hid (fun X (g : Below U.heap.size U X) => (⟨((BWk.out.ext hgd).ext g).cell 0, ((BWk.out.ext hgd).ext g).cell 1, ((BWk.out.ext hgd).ext g).cell 2, ((BWk.out.ext hgd).ext g).cell 3, ((BWk.out.ext hgd).ext g).cell 4, ((BWk.out.ext hgd).ext g).cell 5, ((BPk.out.ext hgd).ext g).cell 2, (HC.out _ (hgd.trans (g.mono hgd.size))).2.1⟩ : X.cell? ⟨V15.heap.size, 0, none⟩ = some (.int .i64 WP.lo) ∧ X.cell? ⟨V15.heap.size, 1, none⟩ = some (.int .i64 WP.hi) ∧ X.cell? ⟨V15.heap.size, 2, none⟩ = some (.slice J1 c1 j1) ∧ X.cell? ⟨V15.heap.size, 3, none⟩ = some (.slice J2 c2 j2) ∧ X.cell? ⟨V15.heap.size, 4, none⟩ = some (.slice J3 c3 j3) ∧ X.cell? ⟨V15.heap.size, 5, none⟩ = some (.int .i64 WP.geese) ∧ X.cell? ⟨V3.heap.size, 2, none⟩ = some (.slice (some ⟨b0, o0, none⟩) m1 d1) ∧ X.cell? ⟨b0, o0 + k * 6 + 1, none⟩ = some (.int .i64 q.b)))
                            have HTR2 := Lib.hid (HTR.out U hgd)
                            have hvu := hgd.size
                            clear hgd hb30 p0 p1 p2 p3 p4 p5 p6
                            go_upto_region 45 with fail
                            obtain ⟨p0, p1, p2, p3, p4, p5, p6, p7⟩ := HKW.out U (Below.refl _ _)
                            go_cut [32, 33] from 240 to 251 (fun s21 s22 wx => ∃ b21, s21 = .pointer (some ⟨b21, 0, none⟩) ∧ s22 = .int .i64 e2 ∧ Below U.heap.size U wx ∧ Blk wx b21 33 #[.int .i64 t0, .int .i64 t1])
                            case first =>
                              go_region_held3 (fun X => X.cell? ⟨V15.heap.size, 0, none⟩ = some (.int .i64 WP.lo) ∧ X.cell? ⟨V15.heap.size, 1, none⟩ = some (.int .i64 WP.hi) ∧ X.cell? ⟨V15.heap.size, 2, none⟩ = some (.slice J1 c1 j1) ∧ X.cell? ⟨V15.heap.size, 3, none⟩ = some (.slice J2 c2 j2) ∧ X.cell? ⟨V15.heap.size, 4, none⟩ = some (.slice J3 c3 j3) ∧ X.cell? ⟨V15.heap.size, 5, none⟩ = some (.int .i64 WP.geese) ∧ X.cell? ⟨V3.heap.size, 2, none⟩ = some (.slice (some ⟨b0, o0, none⟩) m1 d1) ∧ X.cell? ⟨b0, o0 + k * 6 + 1, none⟩ = some (.int .i64 q.b))
                                (with_reducible refine HKW.out _ ?_; repeat' first | (with_reducible exact Below.refl _ _) | (with_reducible exact G9.out) | (with_reducible refine Below.drew ?_) | (with_reducible refine Below.allo_ ?_ (by first | (simp; done) | (simp; omega) | omega) _) | (with_reducible refine Below.setCell ?_ (by dsimp only; omega) _))
                                (first
                                  | (go_at_call 35; (with_reducible refine (HTR2.out _ (Below.refl _ _).drew).mono ?_); rintro e V9 ⟨rfl, hg⟩; have G9 := Lib.hid (show Below U.heap.size U V9 from (Below.refl _ _).drew.trans hg); have hv9 : U.heap.size ≤ V9.heap.size := G9.out.size; clear hg)
                                  | (go_at_call 35; (with_reducible refine (HTR2.out _ (one_more U (.cells #[.int .i64 0, .int .i64 0] 33)).drew).mono ?_); rintro e V9 ⟨rfl, hg⟩; have KN := Lib.hid ((Blk.new U 33 #[.int .i64 0, .int .i64 0]).drew_.ext hg); have y0 := KN.out.cell 0; have y1 := KN.out.cell 1; have y2 := KN.out.frozen 0; have y3 := KN.out.frozen 1; have G9 := Lib.hid (show Below U.heap.size U V9 from (one_more U (.cells #[.int .i64 0, .int .i64 0] 33)).drew.trans (hg.mono (by simp))); have hv9 : U.heap.size ≤ V9.heap.size := G9.out.size; clear hg))
                              all_goals (try go_wp2_with fail)
                              all_goals go_meet
                              all_goals first
                                | exact ⟨_, rfl, rfl, G9.out.trans ((one_more _ _).mono G9.out.size), Blk.new _ _ _⟩
                                | exact ⟨_, rfl, rfl, (G9.out.setCell (p := ⟨U.heap.size, 0, none⟩) (Nat.le_refl _) _).setCell (p := ⟨U.heap.size, 1, none⟩) (Nat.le_refl _) _, (KN.out.set_ 0 (.int .i64 t0)).set_ 1 (.int .i64 t1)⟩
                            case rest =>
                              obtain ⟨b32, rfl, rfl, hgd, hb32⟩ := hcut
                              obtain ⟨X8, rfl⟩ : ∃ U : World, U = wc := ⟨_, rfl⟩
                              have HG8 := Lib.hid (HGD.out.trans (hgd.mono HGD.out.size))
                              have w1 := cellW ((BPk.out.ext HG8.out).cell 2)
                              have w2 := cellW (HC.out _ HG8.out).2.1
                              have w3 := cellW ((B30.out.ext hgd).cell 0)
                              have w4 := cellW ((B30.out.ext hgd).cell 1)
                              have w5 := cellW (hb32.cell 0)
                              have w6 := cellW (hb32.cell 1)
                              have hnr := neqRg ⟨s0, s1⟩ ⟨t0, t1⟩
                              dsimp only at hnr
                              have hmh := HMH.out
                              obtain ⟨sb, hsb⟩ : ∃ b, decide ((⟨s0, s1⟩ : Rg) = ⟨t0, t1⟩) = b := ⟨_, rfl⟩
                              rw [hsb] at hnr hmh
                              clear hgd hb32 p0 p1 p2 p3 p4 p5 p6 p7 hsb HMH
                              have HT8 := Lib.hid (fun X (g : Below X8.heap.size X8 X) => HTH.out X (HG8.out.trans (g.mono HG8.out.size)))
                              cases sb with
                              | false =>
                                obtain rfl : hb = true := hmh
                                go_upto_region 46 with fail
                                refine wp_region_calm X8 (by kernel_rfl) (by kernel_rfl) (Below.refl _ _) ?_
                                repeat (go_big_quiet_step (first | (go_at_call 47; exact callsCalmSame (HT8.out _ (Wd.ok _)))))
                                refine wpQuiet_nil ?_
                                rintro _ ⟨zz, rfl⟩
                                have GZ := Lib.hid (HGK.out.trans ((HG8.out.trans (zz.ok.mono HG8.out.size)).mono hvs))
                                clear w1 w2 w3 w4 w5 w6 hnr
                                go_wp2_with fail
                                go_roundw
                                case rel => exact ⟨k + 1, by omega, by go_num, GZ.out⟩
                                case measure => simp [intOf]; omega
                              | true =>
                                by_cases hee : e1 = e2
                                · subst hee
                                  obtain rfl : hb = false := by simpa using hmh
                                  clear hmh
                                  have hz9 : (e1 != e1) = false := by simp
                                  go_upto_region 46 with fail
                                  refine wp_region_calm X8 (by kernel_rfl) (by kernel_rfl) (Below.refl _ _) ?_
                                  repeat (go_big_quiet_step (first | (go_at_call 47; exact callsCalmSame (HT8.out _ (Wd.ok _)))))
                                  refine wpQuiet_nil ?_
                                  rintro _ ⟨zz, rfl⟩
                                  have GZ := Lib.hid (HGK.out.trans ((HG8.out.trans (zz.ok.mono HG8.out.size)).mono hvs))
                                  clear w1 w2 w3 w4 w5 w6 hnr
                                  go_wp2_with fail
                                  go_roundw
                                  case rel => exact ⟨k + 1, by omega, by go_num, GZ.out⟩
                                  case measure => simp [intOf]; omega
                                · obtain rfl : hb = true := by simpa [hee] using hmh
                                  clear hmh
                                  have hz9 : (e1 != e2) = true := by simpa using hee
                                  go_upto_region 46 with fail
                                  refine wp_region_calm X8 (by kernel_rfl) (by kernel_rfl) (Below.refl _ _) ?_
                                  repeat (go_big_quiet_step (first | (go_at_call 47; exact callsCalmSame (HT8.out _ (Wd.ok _)))))
                                  refine wpQuiet_nil ?_
                                  rintro _ ⟨zz, rfl⟩
                                  have GZ := Lib.hid (HGK.out.trans ((HG8.out.trans (zz.ok.mono HG8.out.size)).mono hvs))
                                  clear w1 w2 w3 w4 w5 w6 hnr
                                  go_wp2_with fail
                                  go_roundw
                                  case rel => exact ⟨k + 1, by omega, by go_num, GZ.out⟩
                                  case measure => simp [intOf]; omega
                        · obtain rfl : m1 = k := by omega
                          go_wp2_with fail
                          go_ret
                          exact ⟨rfl, G15.out.trans (HGK.out.mono G15.out.size)⟩
                    · subst he
                      go_wp2_with fail
                      go_ret
                      exact ⟨rfl, G15.out⟩
end Go.Proofs.YtkoejeghihcmlaaGreat
