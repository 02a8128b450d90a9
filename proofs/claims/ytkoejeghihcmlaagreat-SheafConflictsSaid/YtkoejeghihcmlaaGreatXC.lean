/- The law SheafConflicts. -/
import Derived.Test.YtkoejeghihcmlaaGreatXB
import Derived.Test.YtkoejeghihcmlaaGreatWB
namespace Go.Proofs.YtkoejeghihcmlaaGreat
open Go.RowKit Go.Shelf

theorem cnt_zero {x : Six} {known : Int} (h : x.f = 0) : cnt x known = decide (x.e ≤ known) := by unfold cnt; rw [decide_eq_true h]; simp
theorem made_f (r : Raw) (right : Bool) {i : Nat} (hi : i < (madeP r right).loads.length) : ((madeP r right).loads.getD i z6).f = 0 := (made_each (r := r) (j := i) (by have := made_len r; have : i < (madeLoads r).length := hi; omega)).2.2.2.2.2.2.2.2.2.1

set_option maxRecDepth 100000 in
set_option maxHeartbeats 16000000 in
theorem law6_any (r : Raw) (A1 A2 A3 : Option Addr) (n1 c1 n2 c2 n3 c3 : Nat) (x y : Int) (w : World) (h1 : Arr q4cells 4 w A1 n1 r.loads) (h2 : Arr q4cells 4 w A2 n2 r.stands) (h3 : Arr q4cells 4 w A3 n3 r.spells)
    (hn : n1 ≤ 9223372036854775807 ∧ n2 ≤ 9223372036854775807 ∧ n3 ≤ 9223372036854775807) (hr : RawOk r) (_ix : I64 x) (_iy : I64 y) :
    Calls Tryz.prog 6 #[.agg (rawv r A1 A2 A3 n1 c1 n2 c2 n3 c3), .agg #[.int .i64 x, .int .i64 y]] w fun e w' => e = .returned (.bool true) ∧ Below w.heap.size w w' := by
  have H1 := Lib.hid h1
  have H2 := Lib.hid h2
  have H3 := Lib.hid h3
  have HN := Lib.hid hn
  have HR := Lib.hid hr
  clear h1 h2 h3 hn hr
  obtain ⟨W1, hW1⟩ : ∃ W1, (w.alloc (.cells (rawv r A1 A2 A3 n1 c1 n2 c2 n3 c3) 24)).alloc (.cells #[.int .i64 x, .int .i64 y] 85) = W1 := ⟨_, rfl⟩
  have G1 := Lib.hid (show Below w.heap.size w W1 by rw [← hW1]; exact two_more _ _ _)
  have B2 := Lib.hid (show Blk W1 w.heap.size 24 (rawv r A1 A2 A3 n1 c1 n2 c2 n3 c3) by rw [← hW1]; exact (Blk.new _ _ _).alloc _)
  have B3 := Lib.hid (show Blk W1 (w.heap.size + 1) 85 #[.int .i64 x, .int .i64 y] by rw [← hW1]; have := Blk.new (w.alloc (.cells (rawv r A1 A2 A3 n1 c1 n2 c2 n3 c3) 24)) 85 #[.int .i64 x, .int .i64 y]; rwa [World.size_alloc] at this)
  have HW1 := Lib.hid hW1
  clear hW1
  obtain ⟨P, hP⟩ : ∃ P, madeP r false = P := ⟨_, rfl⟩
  have hok : okPl P = true := by rw [← hP]; exact made_ok r false
  have H19 := Lib.hid (show P.loads.length ≤ 19 by rw [← hP]; exact made_19 r false)
  obtain ⟨kn, hkn⟩ : ∃ h, x % 24 = h := ⟨_, rfl⟩
  have hk0 : 0 ≤ kn := by omega
  have hk1 : kn ≤ 23 := by omega
  have hf : firstE P [] [kn] = 0 := first_of hok (fun h hh => (by cases hh)) hk0 (by omega)
  have T1 := fun D1 d1 D2 d2 D3 d3 m1 m2 m3 W (hp : Pa W P D1 D2 D3 m1 d1 m2 d2 m3 d3) => soundP_any P D1 D2 D3 m1 d1 m2 d2 m3 d3 kn W hp H19.out
  have T2 := fun D1 d1 D2 d2 D3 d3 m1 m2 m3 W (hp : Pa W P D1 D2 D3 m1 d1 m2 d2 m3 d3) => clash_any P D1 D2 D3 m1 d1 m2 d2 m3 d3 kn W hp H19.out
  have T3 := Lib.hid (fun D1 d1 D2 d2 D3 d3 m1 m2 m3 B nb cb by_ W (hp : Pa W P D1 D2 D3 m1 d1 m2 d2 m3 d3) (hb : Ints W B nb by_) (hnb : nb ≤ 9223372036854775807) => chk_any P D1 D2 D3 m1 d1 m2 d2 m3 d3 kn B nb cb by_ W hp H19.out hb hnb)
  rw [hf] at T1
  have hsb : soundB P kn = sound (lookS P kn every) := by unfold soundB; rw [if_pos hf]
  obtain ⟨is, his⟩ : ∃ s, sound (lookS P kn every) = s := ⟨_, rfl⟩
  rw [hsb, his] at T1
  obtain ⟨ce, hce⟩ : ∃ s, clashE P kn = s := ⟨_, rfl⟩
  obtain ⟨cl, hcl⟩ : ∃ s, clashL P kn = s := ⟨_, rfl⟩
  rw [hce, hcl] at T2
  have HSND := Lib.hid (show is = true → ce = 15 from fun e => by rw [← hce]; exact clash_sound hf (by rw [his, e]))
  have HCH := Lib.hid (show is = false → ce = 0 ∧ cl ≠ [] ∧ cl.length ≤ 120 ∧ chkE P kn cl = 0 from fun e => by rw [← hce, ← hcl]; exact clash_chk hf (by rw [his, e]))
  have HAL := Lib.hid (show ∀ i, i < P.loads.length → (chkE P kn [(P.loads.getD i z6).a] = 0 ↔ (P.loads.getD i z6).e ≤ kn ∧ P.hi < (P.loads.getD i z6).c) from fun i hi => by
    rw [alone_chk hf (getD_mem hi), cnt_zero (by rw [← hP] at hi ⊢; exact made_f r false hi), decide_eq_true_eq])
  have H4 := Lib.hid T1
  have H5 := Lib.hid T2
  have HP := Lib.hid hP
  have HKN := Lib.hid hkn
  clear T1 T2 his hce hcl hP hf hsb hok hkn
  have TM := Lib.hid (fun n m V h0 h1 => mod_any n m V h0 h1)
  go_enter Tryz.func6, Tryz.ntmps6
  go_upto_region 1 with fail
  rw [HW1.out]
  have kb3_0 := B3.out.cell 0
  have kb3_1 := B3.out.cell 1
  have kb2_0 := B2.out.cell 0
  have kb2_1 := B2.out.cell 1
  have kb2_2 := B2.out.cell 2
  have kb2_3 := B2.out.cell 3
  have kb2_4 := B2.out.cell 4
  go_upto_region 2 with (go_at_call 34; (with_reducible refine (sane_any _).mono ?_); rintro e V2 ⟨rfl, hg⟩)
  clear kb3_0 kb3_1 kb2_0 kb2_1 kb2_2 kb2_3 kb2_4
  have G2 := Lib.hid (G1.out.trans (hg.mono G1.out.size))
  have B3 := Lib.hid (B3.out.ext hg)
  have B2 := Lib.hid (B2.out.ext hg)
  clear hg
  have HMD := Lib.hid (made_call r false A1 A2 A3 n1 c1 n2 c2 n3 c3 V2 (H1.out.below G2.out) (H2.out.below G2.out) (H3.out.below G2.out) HN.out HR.out)
  have kb3_0 := B3.out.cell 0
  have kb3_1 := B3.out.cell 1
  have kb2_0 := B2.out.cell 0
  have kb2_1 := B2.out.cell 1
  have kb2_2 := B2.out.cell 2
  have kb2_3 := B2.out.cell 3
  have kb2_4 := B2.out.cell 4
  go_upto_region 3 with (go_at_call 15; (with_reducible refine (HMD.out).mono ?_); rintro e V3 ⟨⟨D1, d1, D2, d2, D3, d3, Dn, dn, m1, m2, m3, mn, hm1, hm2, hm3, hmn, rfl, hpa, hia⟩, hg⟩; have HPA := Lib.hid hpa; have HIA := Lib.hid hia; have HM1 := Lib.hid hm1; have HM2 := Lib.hid hm2; have HM3 := Lib.hid hm3; have HMN := Lib.hid hmn; clear hpa hia hm1 hm2 hm3 hmn)
  clear kb3_0 kb3_1 kb2_0 kb2_1 kb2_2 kb2_3 kb2_4
  rw [HP.out] at HPA HM1 HM2 HM3 ⊢
  obtain ⟨W3, hW3⟩ : ∃ W, ((V3.alloc (.cells (plb P D1 D2 D3 m1 d1 m2 d2 m3 d3) 38)).alloc (.cells (#[.int .i64 (r.sown % 200), .slice Dn mn dn]) 41)) = W := ⟨_, rfl⟩
  have ga : Below V3.heap.size V3 W3 := by rw [← hW3]; exact two_more _ _ _
  have gb := hg.trans (ga.mono hg.size)
  have G3 := Lib.hid (G2.out.trans (gb.mono G2.out.size))
  have B3 := Lib.hid (B3.out.ext gb)
  have B2 := Lib.hid (B2.out.ext gb)
  have HPA := Lib.hid (HPA.out.below ga)
  have HIA := Lib.hid (HIA.out.below ga)
  have BP := Lib.hid (show Blk W3 (V3.heap.size) 38 (plb P D1 D2 D3 m1 d1 m2 d2 m3 d3) by rw [← hW3]; exact (Blk.new _ _ _).alloc _)
  have BC := Lib.hid (show Blk W3 (V3.heap.size + 1) 41 (#[.int .i64 (r.sown % 200), .slice Dn mn dn]) by rw [← hW3]; have := Blk.new (V3.alloc (.cells (plb P D1 D2 D3 m1 d1 m2 d2 m3 d3) 38)) 41 (#[.int .i64 (r.sown % 200), .slice Dn mn dn]); rwa [World.size_alloc] at this)
  rw [hW3]
  clear hg ga gb hW3
  have kb3_0 := B3.out.cell 0
  have kb3_1 := B3.out.cell 1
  have kbp_0 := BP.out.cell 0
  have kbp_1 := BP.out.cell 1
  have kbp_2 := BP.out.cell 2
  have kbp_3 := BP.out.cell 3
  have kbp_4 := BP.out.cell 4
  have kbp_5 := BP.out.cell 5
  have kbc_0 := BC.out.cell 0
  have kbc_1 := BC.out.cell 1
  go_upto_region 4 with (first | (go_at_call 17; (with_reducible refine (TM.out _ _ _ (by omega) (by omega)).mono ?_); rintro e w' ⟨rfl, rfl⟩))
  clear kb3_0 kb3_1 kbp_0 kbp_1 kbp_2 kbp_3 kbp_4 kbp_5 kbc_0 kbc_1
  rw [HKN.out]
  have kb3_0 := B3.out.cell 0
  have kb3_1 := B3.out.cell 1
  have kbp_0 := BP.out.cell 0
  have kbp_1 := BP.out.cell 1
  have kbp_2 := BP.out.cell 2
  have kbp_3 := BP.out.cell 3
  have kbp_4 := BP.out.cell 4
  have kbp_5 := BP.out.cell 5
  have kbc_0 := BC.out.cell 0
  have kbc_1 := BC.out.cell 1
  go_upto_region 5 with (go_at_call 37; (with_reducible refine (H4.out _ _ _ _ _ _ _ _ _ _ HPA.out).mono ?_); rintro e V4 ⟨rfl, hg⟩)
  clear kb3_0 kb3_1 kbp_0 kbp_1 kbp_2 kbp_3 kbp_4 kbp_5 kbc_0 kbc_1
  have G4 := Lib.hid (G3.out.trans (hg.mono G3.out.size))
  have B3 := Lib.hid (B3.out.ext hg)
  have B2 := Lib.hid (B2.out.ext hg)
  have BP := Lib.hid (BP.out.ext hg)
  have BC := Lib.hid (BC.out.ext hg)
  have HPA := Lib.hid (HPA.out.below hg)
  have HIA := Lib.hid (HIA.out.below hg)
  clear hg
  have kb3_0 := B3.out.cell 0
  have kb3_1 := B3.out.cell 1
  have kbp_0 := BP.out.cell 0
  have kbp_1 := BP.out.cell 1
  have kbp_2 := BP.out.cell 2
  have kbp_3 := BP.out.cell 3
  have kbp_4 := BP.out.cell 4
  have kbp_5 := BP.out.cell 5
  have kbc_0 := BC.out.cell 0
  have kbc_1 := BC.out.cell 1
  go_upto_region 6 with (go_at_call 39; (with_reducible refine (H5.out _ _ _ _ _ _ _ _ _ _ HPA.out).mono ?_); rintro e V5 ⟨⟨D9, m9, c9, rfl, hi9⟩, hg⟩; have HI9 := Lib.hid hi9; clear hi9)
  clear kb3_0 kb3_1 kbp_0 kbp_1 kbp_2 kbp_3 kbp_4 kbp_5 kbc_0 kbc_1
  have G5 := Lib.hid (G4.out.trans (hg.mono G4.out.size))
  have B3 := Lib.hid (B3.out.ext hg)
  have B2 := Lib.hid (B2.out.ext hg)
  have BP := Lib.hid (BP.out.ext hg)
  have BC := Lib.hid (BC.out.ext hg)
  have HPA := Lib.hid (HPA.out.below hg)
  have HIA := Lib.hid (HIA.out.below hg)
  clear hg
  have kb3_0 := B3.out.cell 0
  have kb3_1 := B3.out.cell 1
  have kbp_0 := BP.out.cell 0
  have kbp_1 := BP.out.cell 1
  have kbp_2 := BP.out.cell 2
  have kbp_3 := BP.out.cell 3
  have kbp_4 := BP.out.cell 4
  have kbp_5 := BP.out.cell 5
  have kbc_0 := BC.out.cell 0
  have kbc_1 := BC.out.cell 1
  go_cut [68] from 36 to 68 (fun cc wx => cc = .bool false ∧ Below V5.heap.size V5 wx)
  case first =>
    cases is with
    | true =>
      have e1 := HSND.out rfl
      subst e1
      go_wp2_with fail
      go_meet
      exact ⟨rfl, Below.refl _ _⟩
    | false =>
      obtain ⟨e1, e2, e3, e4⟩ := HCH.out rfl
      subst e1
      have hm9 : m9 = cl.length := HI9.out.1.symm
      have hm0 : 0 < m9 := by rw [hm9]; exact List.length_pos_iff.2 e2
      have hm1 : m9 ≤ 120 := by omega
      have hz9 : ((m9 : Int) == 0) = false := by simp; omega
      have T6 := T3.out _ _ _ _ _ _ _ _ _ _ _ c9 _ _ HPA.out HI9.out (by omega)
      rw [e4] at T6
      have T7 := Lib.hid T6
      clear e2 e3 e4 hm9 T6
      go_wp2_with (go_at_call 42; (with_reducible refine (T7.out).mono ?_); rintro e V9 ⟨rfl, hg⟩)
      go_meet
      exact ⟨rfl, hg⟩
  case rest =>
    obtain ⟨rfl, hgc⟩ := hcut
    clear kb3_0 kb3_1 kbp_0 kbp_1 kbp_2 kbp_3 kbp_4 kbp_5 kbc_0 kbc_1
    have G6 := Lib.hid (G5.out.trans (hgc.mono G5.out.size))
    have B3 := Lib.hid (B3.out.ext hgc)
    have B2 := Lib.hid (B2.out.ext hgc)
    have BP := Lib.hid (BP.out.ext hgc)
    have BC := Lib.hid (BC.out.ext hgc)
    have HPA := Lib.hid (HPA.out.below hgc)
    have HIA := Lib.hid (HIA.out.below hgc)
    have HI9 := Lib.hid (HI9.out.below hgc)
    clear hgc
    have kb3_0 := B3.out.cell 0
    have kb3_1 := B3.out.cell 1
    have kbp_0 := BP.out.cell 0
    have kbp_1 := BP.out.cell 1
    have kbp_2 := BP.out.cell 2
    have kbp_3 := BP.out.cell 3
    have kbp_4 := BP.out.cell 4
    have kbp_5 := BP.out.cell 5
    have kbc_0 := BC.out.cell 0
    have kbc_1 := BC.out.cell 1
    by_cases hm0 : m1 = 0
    · subst hm0
      go_wp2_with fail
      go_ret
      exact ⟨rfl, G6.out⟩
    · have hz : ((m1 : Int) == 0) = false := by simp; omega
      have hm6 : m1 ≤ 19 := by rw [HM1.out]; exact H19.out
      obtain ⟨ix, hix⟩ : ∃ i : Nat, y % (m1 : Int) = i := ⟨(y % (m1 : Int)).toNat, by have := Int.emod_nonneg y (show (m1 : Int) ≠ 0 by omega); omega⟩
      have hixm : ix < m1 := by have := Int.emod_lt_of_pos y (show (0 : Int) < m1 by omega); omega
      have TY := Lib.hid (fun V => show Calls Tryz.prog 17 #[.int .i64 y, .int .i64 m1] V fun e w' => e = .returned (.int .i64 (ix : Int)) ∧ V = w' from by rw [← hix]; exact TM.out y m1 V (by omega) (by omega))
      obtain ⟨b0, o0, e0, -, -, hc⟩ := six_at HPA.out.l1 hixm
      subst e0
      have HAQ := HAL.out ix (by rw [← HM1.out]; exact hixm)
      obtain ⟨q, hq⟩ : ∃ q, P.loads.getD ix z6 = q := ⟨_, rfl⟩
      rw [hq] at hc HAQ
      have HAX := Lib.hid HAQ
      have HKP := Lib.hid (fun W (g : Below wc.heap.size wc W) => (⟨(BP.out.ext g).cell 2, (B3.out.ext g).cell 1, (hc _ g).1, (hc _ g).2.1, (hc _ g).2.2.1, (hc _ g).2.2.2.1, (hc _ g).2.2.2.2.1, (hc _ g).2.2.2.2.2⟩ : W.cell? ⟨V3.heap.size, 2, none⟩ = some (.slice (some ⟨b0, o0, none⟩) m1 d1) ∧ W.cell? ⟨w.heap.size + 1, 1, none⟩ = some (.int .i64 y) ∧ W.cell? ⟨b0, o0 + ix * 6, none⟩ = some (.int .i64 q.a) ∧ W.cell? ⟨b0, o0 + ix * 6 + 1, none⟩ = some (.int .i64 q.b) ∧ W.cell? ⟨b0, o0 + ix * 6 + 2, none⟩ = some (.int .i64 q.c) ∧ W.cell? ⟨b0, o0 + ix * 6 + 3, none⟩ = some (.int .i64 q.d) ∧ W.cell? ⟨b0, o0 + ix * 6 + 4, none⟩ = some (.int .i64 q.e) ∧ W.cell? ⟨b0, o0 + ix * 6 + 5, none⟩ = some (.int .i64 q.f)))
      clear hc HAQ hq hix
      go_upto_region 10 with fail
      go_cut [13] from 73 to 82 (fun s13 wx => ∃ b13, s13 = .pointer (some ⟨b13, 0, none⟩) ∧ Below wc.heap.size wc wx ∧ Blk wx b13 103 #[.int .i64 q.a, .int .i64 q.b, .int .i64 q.c, .int .i64 q.d, .int .i64 q.e, .int .i64 q.f])
      case first =>
        go_region_held3 (fun W => W.cell? ⟨V3.heap.size, 2, none⟩ = some (.slice (some ⟨b0, o0, none⟩) m1 d1) ∧ W.cell? ⟨w.heap.size + 1, 1, none⟩ = some (.int .i64 y) ∧ W.cell? ⟨b0, o0 + ix * 6, none⟩ = some (.int .i64 q.a) ∧ W.cell? ⟨b0, o0 + ix * 6 + 1, none⟩ = some (.int .i64 q.b) ∧ W.cell? ⟨b0, o0 + ix * 6 + 2, none⟩ = some (.int .i64 q.c) ∧ W.cell? ⟨b0, o0 + ix * 6 + 3, none⟩ = some (.int .i64 q.d) ∧ W.cell? ⟨b0, o0 + ix * 6 + 4, none⟩ = some (.int .i64 q.e) ∧ W.cell? ⟨b0, o0 + ix * 6 + 5, none⟩ = some (.int .i64 q.f))
          (first | exact HKP.out _ (by exact (Below.refl _ _).drew) | exact HKP.out _ (by exact (one_more _ _).drew))
          ((go_at_call 17; (with_reducible refine (TY.out _).mono ?_); rintro e w' ⟨rfl, rfl⟩))
        all_goals (try go_wp2_with fail)
        all_goals go_meet
        all_goals exact ⟨_, rfl, (one_more _ _).drew, (Blk.new _ _ _).ext ((Below.refl _ _).drew)⟩
      case rest =>
        obtain ⟨b13, rfl, hgd, hb13⟩ := hcut
        have HBPd := Lib.hid (BP.out.ext hgd)
        have HPAd := Lib.hid (HPA.out.below hgd)
        have GD := Lib.hid (G6.out.trans (hgd.mono G6.out.size))
        have HB13 := Lib.hid hb13
        clear hgd hb13 kb3_0 kb3_1 kbp_0 kbp_1 kbp_2 kbp_3 kbp_4 kbp_5 kbc_0 kbc_1
        have p0 := HBPd.out.cell 0
        have p1 := HBPd.out.cell 1
        have p2 := HBPd.out.cell 2
        have p3 := HBPd.out.cell 3
        have p4 := HBPd.out.cell 4
        have p5 := HBPd.out.cell 5
        have u0 := HB13.out.cell 0
        have IY := Lib.hid (one_int (Blk.new wc 3 #[.int .i64 q.a]))
        have GY := Lib.hid (one_more wc (.cells #[.int .i64 q.a] 3))
        have T8 := T3.out _ _ _ _ _ _ _ _ _ (some ⟨wc.heap.size, 0, none⟩) 1 1 [q.a] _ (HPAd.out.below GY.out) IY.out (by decide)
        obtain ⟨ae, hae⟩ : ∃ a, chkE P kn [q.a] = a := ⟨_, rfl⟩
        rw [hae] at T8 HAX
        have T9 := Lib.hid T8
        clear T8 hae
        go_upto_region 12 with (go_at_call 42; (with_reducible refine (T9.out).mono ?_); rintro e V9 ⟨rfl, hg⟩; have GW := Lib.hid (GY.out.trans (hg.mono GY.out.size)); clear hg)
        have r1 := (HBPd.out.ext GW.out).cell 1
        have s2 := (HB13.out.ext GW.out).cell 2
        have s4 := (HB13.out.ext GW.out).cell 4
        have GE := Lib.hid (GD.out.trans (GW.out.mono GD.out.size))
        clear p0 p1 p2 p3 p4 p5 u0
        by_cases ha : ae = 0
        · obtain ⟨h1, h2⟩ := HAX.out.1 ha
          subst ha
          go_wp2_with fail
          go_ret
          exact ⟨rfl, GE.out⟩
        · have hb : (ae == 0) = false := by simpa using ha
          by_cases h1 : q.e ≤ kn
          · have h2 : ¬ P.hi < q.c := fun h => ha (HAX.out.2 ⟨h1, h⟩)
            go_wp2_with fail
            go_ret
            exact ⟨rfl, GE.out⟩
          · go_wp2_with fail
            go_ret
            exact ⟨rfl, GE.out⟩
end Go.Proofs.YtkoejeghihcmlaaGreat
