/- Part of the proof: VD, VH. -/
import Derived.Test.YtkoejeghihcmlaaGreatZB1
import Derived.Test.YtkoejeghihcmlaaGreatZB2
import Derived.Test.YtkoejeghihcmlaaGreatZB4
namespace Go.Proofs.YtkoejeghihcmlaaGreat
open Go.RowKit Go.Shelf
theorem ro_bd {p : Pl} (hok : okPl p = true) (hour known : Int) : Bd (roSt p hour known) 10000000 := by
 have h1 : Bd (roAt p hour known) 10000000 :=
  bd_nar (look_st hok known every) (i := after (lookL p known every) hour) (by rw [← roRow, roRow_len]; have := after_len (lookL p known every) hour; omega) (x := ⟨1, 0, 0, 0, 0, 0⟩) (by unfold Num; decide)
 unfold roSt
 split
 ·exact h1
 ·exact bd_nar h1 (by unfold roAt; rw [nar_len, roRow_len]; have := after_len (lookL p known every) (hour - 24 * p.geese); omega) (x := ⟨1, 0, 1, 10000, 0, 0⟩) (by unfold Num; decide)
theorem roSt_len (p : Pl) (hour known : Int) : (roSt p hour known).length = (lookL p known every).length + 1 := by
 unfold roSt; split <;> (unfold roAt; simp only [nar_len]; exact roRow_len p known)
set_option maxRecDepth 100000 in
set_option maxHeartbeats 16000000 in
theorem refOpen_any (p : Pl) (A1 A2 A3 : Option Addr) (n1 c1 n2 c2 n3 c3 : Nat) (hour known : Int) (w : World) (hp : Pa w p A1 A2 A3 n1 c1 n2 c2 n3 c3) :
  Calls Tryz.prog 51 #[plv p A1 A2 A3 n1 c1 n2 c2 n3 c3, .int .i64 hour, .int .i64 known] w fun e w' => e = .returned (.tuple #[.int .i64 (openA p hour known), .int .i64 (askE p [hour] known)]) ∧ Below w.heap.size w w' := by
 obtain ⟨W0, hW0⟩ : ∃ W0, w.alloc (.cells (plb p A1 A2 A3 n1 c1 n2 c2 n3 c3) 38) = W0 := ⟨_, rfl⟩
 have g0 : Below w.heap.size w W0 := by rw [← hW0]; exact one_more _ _
 have b0 : Blk W0 w.heap.size 38 (plb p A1 A2 A3 n1 c1 n2 c2 n3 c3) := by rw [← hW0]; exact Blk.new _ _ _
 have T1 := refSettle_any p A1 A2 A3 n1 c1 n2 c2 n3 c3 hour known W0 (hp.below g0)
 have HOP := Lib.hid (fun (h : askE p [hour] known = 0) => ro_open h)
 have HOZ := Lib.hid (show askE p [hour] known ≠ 0 → openA p hour known = 0 from fun h => by unfold openA; rw [if_neg h])
 have HHO := Lib.hid (fun (h : askE p [hour] known = 0) => hour_of h)
 have HUPL := Lib.hid (fun (h : askE p [hour] known = 0) => (look_rw (ask_parts h).1 (ask_parts h).2.1).up)
 have HPA := Lib.hid (hp.below g0)
 have HSL := Lib.hid (lookS_len p known every)
 obtain ⟨rr, hrr⟩ : ∃ rr, openA p hour known = rr := ⟨_, rfl⟩
 obtain ⟨ae, hae⟩ : ∃ ae, askE p [hour] known = ae := ⟨_, rfl⟩
 rw [hae] at T1 HOP HOZ HHO HUPL
 rw [hrr] at HOP HOZ
 rw [hrr, hae]
 have HT1 := Lib.hid T1
 have HB0 := Lib.hid b0
 have GA := Lib.hid g0
 have HW0 := Lib.hid hW0
 have r0 := b0.cell 0
 have r1 := b0.cell 1
 have r2 := b0.cell 2
 have r3 := b0.cell 3
 have r4 := b0.cell 4
 have r5 := b0.cell 5
 clear T1 hp g0 b0 hW0 hrr hae
 by_cases hz : ae = 0
 ·subst hz
  have HOP2 := Lib.hid (HOP.out rfl)
  obtain ⟨hh0, hh1⟩ := HHO.out rfl
  have HUP := Lib.hid (HUPL.out rfl)
  have HSHT := Lib.hid (fun (X : World) (g : Below W0.heap.size W0 X) => refShutB_any p A1 A2 A3 n1 c1 n2 c2 n3 c3 hour known X (HPA.out.below g) hh0 hh1)
  have HRO := Lib.hid (show rr = (if shutB p known hour = true then 0 else if roMay p hour known = true then (if (decide (((lookS p known every).getD (after (lookL p known every) hour) zR).hi = 0) && roEarly p hour known) = true then 1 else 2) else 0) from HOP2.out.symm)
  clear HOP HOZ HHO HUPL HOP2
  obtain ⟨sb, hsb⟩ : ∃ s, shutB p known hour = s := ⟨_, rfl⟩
  rw [hsb] at HSHT HRO
  clear hsb
  go_enter Tryz.func51, Tryz.ntmps51
  go_upto_region 1 with fail
  rw [HW0.out]
  go_upto_region 4 with (go_at_call 117; (with_reducible refine (HT1.out).mono ?_); rintro e V ⟨⟨A, n, c, B, q, d, rfl, hq⟩, hg⟩; have HG1 := Lib.hid hg; have HQ := Lib.hid (hq rfl); clear hg hq)
  obtain ⟨V5, hV5⟩ : ∃ X, V.alloc (.cells #[.slice A n c, .slice B q d] 191) = X := ⟨_, rfl⟩
  have g5 : Below V.heap.size V V5 := by rw [← hV5]; exact one_more _ _
  have BN := Lib.hid (show Blk V5 V.heap.size 191 #[.slice A n c, .slice B q d] by rw [← hV5]; exact Blk.new _ _ _)
  have G5 := Lib.hid (HG1.out.trans (g5.mono HG1.out.size))
  have HA5 := Lib.hid (HQ.out.2.1.below g5)
  have HS5 := Lib.hid (HQ.out.2.2.below g5)
  have HN := Lib.hid (show (lookL p known every).length = n from HA5.out.1)
  have HNQ := Lib.hid (show (lookS p known every).length = q from HS5.out.1)
  have HOK := Lib.hid HQ.out.1
  have hn60 : n ≤ 60 := by rw [← HN.out]; exact look60 HOK.out known
  have hqn : q = n + 1 := by have h1 := HN.out; have h2 := HNQ.out; have h3 := HSL.out; omega
  have HQN := Lib.hid hqn
  have HT9 := Lib.hid (HSHT.out V5 G5.out)
  have m0 := (HB0.out.ext G5.out).cell 0
  have m1 := (HB0.out.ext G5.out).cell 1
  have m2 := (HB0.out.ext G5.out).cell 2
  have m3 := (HB0.out.ext G5.out).cell 3
  have m4 := (HB0.out.ext G5.out).cell 4
  have m5 := (HB0.out.ext G5.out).cell 5
  rw [hV5]
  clear hV5 g5 hqn r0 r1 r2 r3 r4 r5
  cases sb with
  | true =>
   have HR2 := Lib.hid (show rr = 0 from HRO.out)
   go_wp2_with (go_at_call 119; (with_reducible refine (HT9.out).mono ?_); rintro e V6 ⟨rfl, hg⟩)
   go_ret2
   exact ⟨by rw [HR2.out]; rfl, GA.out.trans ((G5.out.trans (hg.mono G5.out.size)).mono GA.out.size)⟩
  | false =>
   have HR3 := Lib.hid (show rr = (if roMay p hour known = true then (if (decide (((lookS p known every).getD (after (lookL p known every) hour) zR).hi = 0) && roEarly p hour known) = true then 1 else 2) else 0) from HRO.out)
   clear HRO
   have hgee := (ok_parts HOK.out).2.2.2.2.2.2.2.2
   have HGE := Lib.hid hgee
   have HFR := Lib.hid (show roFree p hour = (decide (p.geese = 0) || decide (hour - 24 * p.geese < 0)) from rfl)
   have HNB := Lib.hid (show n1 ≤ 1000 ∧ n2 ≤ 1000 by
    have h1 := ok_parts HOK.out
    have h2 := HPA.out.l1.1
    have h3 := HPA.out.l2.1
    omega)
   have HST := Lib.hid (show roSt p hour known = if roFree p hour = true then roAt p hour known else nar (roAt p hour known) (after (lookL p known every) (hour - 24 * p.geese)) ⟨1, 10000⟩ from rfl)
   have HEA := Lib.hid (show roEarly p hour known = (roFree p hour || decide (0 < ((lookS p known every).getD (after (lookL p known every) (hour - 24 * p.geese)) zR).lo)) from rfl)
   have HAT := Lib.hid (show roAt p hour known = nar (roRow p known) (after (lookL p known every) hour) ⟨0, 0⟩ from rfl)
   have HMY := Lib.hid (show roMay p hour known = sound (settle (lookL p known every) (roSt p hour known)) from rfl)
   have HBD := Lib.hid (ro_bd HOK.out hour known)
   have HWB := Lib.hid (wb_of (look_num HOK.out known every))
   have HRL := Lib.hid (roSt_len p hour known)
   have HAL := Lib.hid (show (roAt p hour known).length = n + 1 by unfold roAt; rw [nar_len, roRow_len, HN.out])
   have HRWL := Lib.hid (show (roRow p known).length = n + 1 by rw [roRow_len, HN.out])
   go_upto_region 6 with (go_at_call 119; (with_reducible refine (HT9.out).mono ?_); rintro e V6 ⟨rfl, hg⟩; have HG6 := Lib.hid hg; clear hg)
   have G6 := Lib.hid (G5.out.trans (HG6.out.mono G5.out.size))
   have BN6 := Lib.hid (BN.out.ext HG6.out)
   have HA6 := Lib.hid (HA5.out.below HG6.out)
   have HS6 := Lib.hid (HS5.out.below HG6.out)
   have m0 := (HB0.out.ext G6.out).cell 0
   have m1 := (HB0.out.ext G6.out).cell 1
   have m2 := (HB0.out.ext G6.out).cell 2
   have m3 := (HB0.out.ext G6.out).cell 3
   have m4 := (HB0.out.ext G6.out).cell 4
   have m5 := (HB0.out.ext G6.out).cell 5
   have HTR := Lib.hid (show Calls Tryz.prog 120 #[plv p A1 A2 A3 n1 c1 n2 c2 n3 c3, .int .i64 known, .agg #[.bool true, .slice none 0 0]] V6 (RowEnd p known every V6) by
    have h := refRow_any p A1 A2 A3 n1 c1 n2 c2 n3 c3 known true none 0 0 [] V6 (HPA.out.below G6.out) HNB.out (noNums _) (by omega)
    rwa [mB_all] at h)
   obtain ⟨h24, h60⟩ := hgee
   have hw24 : IntKind.i64.wrap (24 * p.geese) = 24 * p.geese := by rw [IntKind.wrap_i64]; omega
   go_upto_region 7 with fail
   obtain ⟨bef, hbef⟩ : ∃ b, hour - 24 * p.geese = b := ⟨_, rfl⟩
   rw [hbef] at HFR HST HEA
   have HBE := Lib.hid (show bef ≤ 99999 by omega)
   have HBEF := Lib.hid hbef
   (try rw [hbef])
   clear hbef hw24
   obtain ⟨fr, hfr⟩ : ∃ f, roFree p hour = f := ⟨_, rfl⟩
   rw [hfr] at HFR HST HEA
   clear hfr
   go_cut [11] from 36 to 42 (fun s wx => s = .bool fr ∧ V6 = wx)
   case first =>
    by_cases hg0 : p.geese = 0
    ·have hgd : (p.geese == 0) = true := by simp [hg0]
     have HX := Lib.hid (show fr = true by rw [HFR.out, decide_eq_true hg0]; rfl)
     clear hg0
     go_wp2_with fail
     go_meet
     exact ⟨by rw [HX.out], rfl⟩
    ·have hgd : (p.geese == 0) = false := by simpa using hg0
     by_cases hb0 : bef < 0
     ·have hbd : decide (bef < 0) = true := decide_eq_true hb0
      have HX := Lib.hid (show fr = true by rw [HFR.out, decide_eq_true hb0]; simp)
      clear hg0 hb0
      go_wp2_with fail
      go_meet
      exact ⟨by rw [HX.out], rfl⟩
     ·have hbd : decide (bef < 0) = false := decide_eq_false hb0
      have HX := Lib.hid (show fr = false by rw [HFR.out, decide_eq_false hb0, decide_eq_false hg0]; rfl)
      clear hg0 hb0
      go_wp2_with fail
      go_meet
      exact ⟨by rw [HX.out], rfl⟩
   case rest =>
    obtain ⟨rfl, rfl⟩ := hcut
    go_upto_region 9 with (go_at_call 120; (with_reducible refine (HTR.out).mono ?_); rintro e V7 ⟨⟨A', n', c', B', q', d', rfl, ho1, ho2, hap⟩, hg⟩; have HO1 := Lib.hid ho1; have HO2 := Lib.hid ho2; have HAP := Lib.hid hap; have HG7 := Lib.hid hg; clear hg ho1 ho2 hap)
    have HO2 := Lib.hid (show OwnL rcells 2 33 V7 V6.heap.size (.slice B' q' d') (roRow p known) from HO2.out)
    obtain ⟨V8, hV8⟩ : ∃ X, V7.alloc (.cells #[.slice A' n' c', .slice B' q' d'] 191) = X := ⟨_, rfl⟩
    have g8 : Below V7.heap.size V7 V8 := by rw [← hV8]; exact one_more _ _
    have BY := Lib.hid (show Blk V8 V7.heap.size 191 #[.slice A' n' c', .slice B' q' d'] by rw [← hV8]; exact Blk.new _ _ _)
    have HG8 := Lib.hid (HG7.out.trans (g8.mono HG7.out.size))
    have HN' := Lib.hid (show n = n' by have h1 := (own_arr HO1.out).1; have h2 := HN.out; omega)
    have hq' : q' = n + 1 := by have h1 := (own_arrR HO2.out).1; have h2 := HRWL.out; omega
    have HQ' := Lib.hid hq'
    obtain ⟨gB, rfl⟩ := own_someR HO2.out (by omega)
    clear hq'
    have HO1 := Lib.hid (HO1.out.ext g8)
    have HO2 := Lib.hid (HO2.out.ext g8)
    have HBY := Lib.hid (show V6.heap.size ≤ V7.heap.size from HG7.out.size)
    have HGBL := Lib.hid (own_lt (by have h := HO2.out; exact h) (k := gB) rfl)
    rw [hV8]
    clear hV8 g8 m0 m1 m2 m3 m4 m5
    have HIX := Lib.hid (fun (X : World) (hr : Int) (g : Below V5.heap.size V5 X) => refIndex_any A n c (lookL p known every) B q d hr X (HA5.out.below g) (by omega) HUP.out)
    have hav := after_le (lookL p known every) hour
    rw [HN.out] at hav
    have HIX1 := Lib.hid (HIX.out V8 hour (HG6.out.trans (HG8.out.mono HG6.out.size)))
    obtain ⟨av, hav2⟩ : ∃ av, after (lookL p known every) hour = av := ⟨_, rfl⟩
    rw [hav2] at HIX1 HAT HR3 hav
    have HAV := Lib.hid hav2
    obtain ⟨sv1, hsv1⟩ : ∃ r, (lookS p known every).getD av zR = r := ⟨_, rfl⟩
    rw [hsv1] at HR3
    have hx0 := (BN6.out.ext HG8.out).cell 0
    have hx1 := (BN6.out.ext HG8.out).cell 1
    clear hav2
    go_upto_region 10 with (go_at_call 118; (with_reducible refine (HIX1.out).mono ?_); rintro e V9 ⟨rfl, hg⟩; have HG9 := Lib.hid hg; clear hg)
    have G9 := Lib.hid (HG8.out.trans (HG9.out.mono HG8.out.size))
    have BY9 := Lib.hid (BY.out.ext HG9.out)
    have HO19 := Lib.hid (HO1.out.ext HG9.out)
    have HO29 := Lib.hid (HO2.out.ext HG9.out)
    clear hx0 hx1
    obtain ⟨b8, o8, e8, hx8, hc8⟩ := rg_at9 (own_arrR HO29.out) (k := av) (by have := HQ'.out; omega)
    cases e8
    simp only [Nat.zero_add] at hc8
    obtain ⟨st9, hst9⟩ : ∃ l, roRow p known = l := ⟨_, rfl⟩
    rw [hst9] at hx8 hc8
    have HO29 := Lib.hid (show OwnL rcells 2 33 V9 V6.heap.size (.slice (some ⟨gB, 0, none⟩) q' d') st9 by rw [← hst9]; exact HO29.out)
    obtain ⟨r9, hr9⟩ : ∃ r, st9.getD av zR = r := ⟨_, rfl⟩
    rw [hr9] at hx8 hc8
    have HX8 := Lib.hid hx8
    have HR9 := Lib.hid hr9
    have HST9 := Lib.hid hst9
    have HKP := Lib.hid (fun X (g : Below V9.heap.size V9 X) => (⟨(BY9.out.ext g).cell 1, (hc8 X g).1, (hc8 X g).2⟩ : X.cell? ⟨V7.heap.size, 1, none⟩ = some (.slice (some ⟨gB, 0, none⟩) q' d') ∧ X.cell? ⟨gB, av * 2, none⟩ = some (.int .i64 r9.lo) ∧ X.cell? ⟨gB, av * 2 + 1, none⟩ = some (.int .i64 r9.hi)))
    have htq : (av : Int) < (q' : Int) := by have := HQ'.out; omega
    clear hx8 hc8 hr9 hst9
    obtain ⟨k0, k1, k2⟩ := HKP.out V9 (Below.refl _ _)
    have u0 := cellW k0
    have u1 := cellW k1
    have u2 := cellW k2
    refine wp_region_calm_tail V9 11 (by kernel_rfl) (by kernel_rfl) (Below.refl _ _) ?_
    simp only [List.take_succ_cons, List.take_zero, List.drop_succ_cons, List.drop_zero]
    repeat (go_big_quiet_step ((go_at_call 121; exact callsCalm (cut_any r9.lo r9.hi 0 0 _))))
    refine wpQuiet_nil ?_
    rintro _ ⟨z, rfl⟩
    obtain ⟨X9, hX9⟩ : ∃ X9, z.val = X9 := ⟨_, rfl⟩
    have g9 := z.ok
    rw [hX9] at g9 ⊢
    have GX9 := Lib.hid g9
    clear g9 hX9 u0 u1 u2 k0 k1 k2 z
    obtain ⟨i0, i1, i2⟩ := HKP.out X9 GX9.out
    have f0 := own_freeR (HO29.out.ext GX9.out) (av * 2)
    have f1 := own_freeR (HO29.out.ext GX9.out) (av * 2 + 1)
    go_upto_region 11 with fail
    have hO := (HO29.out.ext GX9.out)
    have hp1 := hO.put1 rcells_len (x := r9) (x' := ⟨max r9.lo 0, r9.hi⟩) (u := .int .i64 (max r9.lo 0)) (j := 0) HX8.out (by decide) rfl
    have hlt : av < st9.length := (List.getElem?_eq_some_iff.1 HX8.out).1
    have hp2 := hp1.put1 rcells_len (x := ⟨max r9.lo 0, r9.hi⟩) (x' := ⟨max r9.lo 0, min r9.hi 0⟩) (u := .int .i64 (min r9.hi 0)) (j := 1) (i := av) (by rw [List.getElem?_set_self hlt]) (by decide) rfl
    rw [List.set_set] at hp2
    have hgb := (own_lt hO (k := gB) rfl)
    have hne7 : V7.heap.size ≠ gB := fun e => own_ne_blk hO (BY9.out.ext GX9.out) (by decide) (by rw [← e]; rfl)
    have HHP := Lib.hid hp2
    obtain ⟨W10, hW10⟩ : ∃ X, (X9.setCell ⟨gB, av * 2, none⟩ (.int .i64 (max r9.lo 0))).setCell ⟨gB, av * 2 + 1, none⟩ (.int .i64 (min r9.hi 0)) = X := ⟨_, rfl⟩
    have GW := Lib.hid (show Below V6.heap.size V6 W10 by
     rw [← hW10]
     exact ((G9.out.trans (GX9.out.mono G9.out.size)).setCell (p := ⟨gB, av * 2, none⟩) hgb.1 _).setCell (p := ⟨gB, av * 2 + 1, none⟩) hgb.1 _)
    have BYW := Lib.hid (show Blk W10 V7.heap.size 191 #[.slice A' n' c', .slice (some ⟨gB, 0, none⟩) q' d'] by
     rw [← hW10]
     exact ((BY9.out.ext GX9.out).far (p := ⟨gB, av * 2, none⟩) hne7 _).far (p := ⟨gB, av * 2 + 1, none⟩) hne7 _)
    have HOL := Lib.hid (show OwnL scells 6 103 W10 V6.heap.size (.slice A' n' c') (lookL p known every) by
     rw [← hW10]
     exact ((HO19.out.ext GX9.out).apart (p := ⟨gB, av * 2, none⟩) (fun e => HAP.out gB e rfl) _).apart (p := ⟨gB, av * 2 + 1, none⟩) (fun e => HAP.out gB e rfl) _)
    have HOW := Lib.hid (show OwnL rcells 2 33 W10 V6.heap.size (.slice (some ⟨gB, 0, none⟩) q' d') (nar (roRow p known) av ⟨0, 0⟩) by
     rw [← hW10, HST9.out]; unfold nar; rw [HR9.out]; exact HHP.out)
    rw [hW10]
    clear hO hp1 hp2 hlt hgb hne7 hW10 i0 i1 i2 f0 f1
    have HOAT := Lib.hid (show OwnL rcells 2 33 W10 V6.heap.size (.slice (some ⟨gB, 0, none⟩) q' d') (roAt p hour known) by rw [HAT.out]; exact HOW.out)
    clear HOW
    obtain ⟨ea, hea⟩ : ∃ e, roEarly p hour known = e := ⟨_, rfl⟩
    rw [hea] at HEA HR3
    clear hea
    go_upto_region 11 with fail
    go_cut [62] from 61 to 62 (fun s wx => s = .bool (!fr) ∧ W10 = wx)
    case first =>
     go_wp2_with fail
     go_meet
     exact ⟨by simp, rfl⟩
    case rest =>
    obtain ⟨rfl, rfl⟩ := hcut
    rename_i hK9
    refine hK9 _ _ ?_
    clear hK9
    go_cut [11, 14] from 61 to 83 (fun s11 s14 wx => s11 = .bool ea ∧ Below V6.heap.size V6 wx ∧ Blk wx V7.heap.size 191 #[.slice A' n' c', .slice (some ⟨gB, 0, none⟩) q' d'] ∧ OwnL scells 6 103 wx V6.heap.size (.slice A' n' c') (lookL p known every) ∧ OwnL rcells 2 33 wx V6.heap.size (.slice (some ⟨gB, 0, none⟩) q' d') (roSt p hour known))
    case first =>
     cases fr with
     | true =>
      have HX := Lib.hid (show ea = true by rw [HEA.out]; rfl)
      have HX2 := Lib.hid (show roSt p hour known = roAt p hour known by rw [HST.out]; rfl)
      go_wp2_with fail
      go_meet
      exact ⟨by rw [HX.out], GW.out, BYW.out, HOL.out, by rw [HX2.out]; exact HOAT.out⟩
     | false =>
      have HX := Lib.hid (show ea = decide (0 < ((lookS p known every).getD (after (lookL p known every) bef) zR).lo) by rw [HEA.out]; rfl)
      have HX2 := Lib.hid (show roSt p hour known = nar (roAt p hour known) (after (lookL p known every) bef) ⟨1, 10000⟩ by rw [HST.out]; rfl)
      have HIX2 := Lib.hid (HIX.out W10 bef (HG6.out.trans (GW.out.mono HG6.out.size)))
      have hav3 := after_le (lookL p known every) bef
      rw [HN.out] at hav3
      obtain ⟨ev, hev⟩ : ∃ av, after (lookL p known every) bef = av := ⟨_, rfl⟩
      rw [hev] at HIX2 HX HX2 hav3
      obtain ⟨sv2, hsv2⟩ : ∃ r, (lookS p known every).getD ev zR = r := ⟨_, rfl⟩
      rw [hsv2] at HX
      have hx0 := (BN6.out.ext GW.out).cell 0
      have hx1 := (BN6.out.ext GW.out).cell 1
      clear hev
      go_upto_region 13 with (go_at_call 118; (with_reducible refine (HIX2.out).mono ?_); rintro e W11 ⟨rfl, hg⟩; have HG11 := Lib.hid hg; clear hg)
      have G11 := Lib.hid (GW.out.trans (HG11.out.mono GW.out.size))
      have BY11 := Lib.hid (BYW.out.ext HG11.out)
      have HO111 := Lib.hid (HOL.out.ext HG11.out)
      have HO211 := Lib.hid (HOAT.out.ext HG11.out)
      clear hx0 hx1 GW BYW HOL HOAT
      obtain ⟨b8, o8, e8, hx8, hc8⟩ := rg_at9 (own_arrR HO211.out) (k := ev) (by have := HQ'.out; omega)
      cases e8
      simp only [Nat.zero_add] at hc8
      obtain ⟨st9, hst9⟩ : ∃ l, roAt p hour known = l := ⟨_, rfl⟩
      rw [hst9] at hx8 hc8
      have HO211 := Lib.hid (show OwnL rcells 2 33 W11 V6.heap.size (.slice (some ⟨gB, 0, none⟩) q' d') st9 by rw [← hst9]; exact HO211.out)
      obtain ⟨r9, hr9⟩ : ∃ r, st9.getD ev zR = r := ⟨_, rfl⟩
      rw [hr9] at hx8 hc8
      have HX8 := Lib.hid hx8
      have HR9 := Lib.hid hr9
      have HST9 := Lib.hid hst9
      have HKP := Lib.hid (fun X (g : Below W11.heap.size W11 X) => (⟨(BY11.out.ext g).cell 1, (hc8 X g).1, (hc8 X g).2⟩ : X.cell? ⟨V7.heap.size, 1, none⟩ = some (.slice (some ⟨gB, 0, none⟩) q' d') ∧ X.cell? ⟨gB, ev * 2, none⟩ = some (.int .i64 r9.lo) ∧ X.cell? ⟨gB, ev * 2 + 1, none⟩ = some (.int .i64 r9.hi)))
      have htq : (ev : Int) < (q' : Int) := by have := HQ'.out; omega
      clear hx8 hc8 hr9 hst9
      obtain ⟨k0, k1, k2⟩ := HKP.out W11 (Below.refl _ _)
      have u0 := cellW k0
      have u1 := cellW k1
      have u2 := cellW k2
      refine wp_region_calm_tail W11 11 (by kernel_rfl) (by kernel_rfl) (Below.refl _ _) ?_
      simp only [List.take_succ_cons, List.take_zero, List.drop_succ_cons, List.drop_zero]
      repeat (go_big_quiet_step ((go_at_call 121; exact callsCalm (cut_any r9.lo r9.hi 1 10000 _))))
      refine wpQuiet_nil ?_
      rintro _ ⟨z, rfl⟩
      obtain ⟨X9, hX9⟩ : ∃ X9, z.val = X9 := ⟨_, rfl⟩
      have g9 := z.ok
      rw [hX9] at g9 ⊢
      have GX9 := Lib.hid g9
      clear g9 hX9 u0 u1 u2 k0 k1 k2 z
      obtain ⟨i0, i1, i2⟩ := HKP.out X9 GX9.out
      have f0 := own_freeR (HO211.out.ext GX9.out) (ev * 2)
      have f1 := own_freeR (HO211.out.ext GX9.out) (ev * 2 + 1)
      go_upto_region 14 with fail
      have hO := (HO211.out.ext GX9.out)
      have hp1 := hO.put1 rcells_len (x := r9) (x' := ⟨max r9.lo 1, r9.hi⟩) (u := .int .i64 (max r9.lo 1)) (j := 0) HX8.out (by decide) rfl
      have hlt : ev < st9.length := (List.getElem?_eq_some_iff.1 HX8.out).1
      have hp2 := hp1.put1 rcells_len (x := ⟨max r9.lo 1, r9.hi⟩) (x' := ⟨max r9.lo 1, min r9.hi 10000⟩) (u := .int .i64 (min r9.hi 10000)) (j := 1) (i := ev) (by rw [List.getElem?_set_self hlt]) (by decide) rfl
      rw [List.set_set] at hp2
      have hgb := (own_lt hO (k := gB) rfl)
      have hne7 : V7.heap.size ≠ gB := fun e => own_ne_blk hO (BY11.out.ext GX9.out) (by decide) (by rw [← e]; rfl)
      have HHP := Lib.hid hp2
      obtain ⟨W13, hW13⟩ : ∃ X, (X9.setCell ⟨gB, ev * 2, none⟩ (.int .i64 (max r9.lo 1))).setCell ⟨gB, ev * 2 + 1, none⟩ (.int .i64 (min r9.hi 10000)) = X := ⟨_, rfl⟩
      have GW := Lib.hid (show Below V6.heap.size V6 W13 by
       rw [← hW13]
       exact ((G11.out.trans (GX9.out.mono G11.out.size)).setCell (p := ⟨gB, ev * 2, none⟩) hgb.1 _).setCell (p := ⟨gB, ev * 2 + 1, none⟩) hgb.1 _)
      have BYW := Lib.hid (show Blk W13 V7.heap.size 191 #[.slice A' n' c', .slice (some ⟨gB, 0, none⟩) q' d'] by
       rw [← hW13]
       exact ((BY11.out.ext GX9.out).far (p := ⟨gB, ev * 2, none⟩) hne7 _).far (p := ⟨gB, ev * 2 + 1, none⟩) hne7 _)
      have HOL := Lib.hid (show OwnL scells 6 103 W13 V6.heap.size (.slice A' n' c') (lookL p known every) by
       rw [← hW13]
       exact ((HO111.out.ext GX9.out).apart (p := ⟨gB, ev * 2, none⟩) (fun e => HAP.out gB e rfl) _).apart (p := ⟨gB, ev * 2 + 1, none⟩) (fun e => HAP.out gB e rfl) _)
      have HOW := Lib.hid (show OwnL rcells 2 33 W13 V6.heap.size (.slice (some ⟨gB, 0, none⟩) q' d') (nar (roAt p hour known) ev ⟨1, 10000⟩) by
       rw [← hW13, HST9.out]; unfold nar; rw [HR9.out]; exact HHP.out)
      rw [hW13]
      clear hO hp1 hp2 hlt hgb hne7 hW13 i0 i1 i2 f0 f1
      obtain ⟨b9, o9, rfl, -, hc9⟩ := rg_at9 HS6.out (k := ev) (by have := HQN.out; omega)
      have hx1 := (BN6.out.ext GW.out).cell 1
      have hx2 := (hc9 W13 GW.out).1
      rw [hsv2] at hx2
      have hevq : (ev : Int) < (q : Int) := by have := HQN.out; omega
      clear hc9 hsv2
      go_wp2_with fail
      go_meet
      exact ⟨by rw [HX.out], GW.out, BYW.out, HOL.out, by rw [HX2.out]; exact HOW.out⟩
    case rest =>
     clear HOAT GW BYW HOL
     obtain ⟨rfl, hg, hby, hol, how⟩ := hcut
     first | (rename_i hK9; refine hK9 _ _ ?_; clear hK9) | (rename_i hK9 _; refine hK9 _ _ ?_; clear hK9) | (rename_i hK9 _ _; refine hK9 _ _ ?_; clear hK9) | (rename_i hK9 _ _ _; refine hK9 _ _ ?_; clear hK9) | (rename_i hK9 _ _ _ _; refine hK9 _ _ ?_; clear hK9) | (rename_i hK9 _ _ _ _ _; refine hK9 _ _ ?_; clear hK9) | (rename_i hK9 _ _ _ _ _ _; refine hK9 _ _ ?_; clear hK9)
     rename World => W14
     have GW := Lib.hid hg
     have BYW := Lib.hid hby
     have HOL := Lib.hid hol
     have HOW := Lib.hid how
     have z0 := hby.cell 0
     have z1 := hby.cell 1
     have HTS := Lib.hid (refSettled_any A' n' c' (lookL p known every) (some ⟨gB, 0, none⟩) q' d' (roSt p hour known) W14 (own_arr hol) (own_arrR how) (by have := HN'.out; omega) (by have h1 := HQ'.out; have h2 := HN'.out; omega) HWB.out HBD.out)
     have HMY1 := Lib.hid (HMY.out)
     rw [← HMY1.out] at HTS
     obtain ⟨my, hmy⟩ : ∃ m, roMay p hour known = m := ⟨_, rfl⟩
     rw [hmy] at HTS HR3
     clear hg hby hol how hmy
     go_upto_region 16 with (go_at_call 122; (with_reducible refine (HTS.out).mono ?_); rintro e W15 ⟨⟨B9, d9, rfl, -⟩, hg⟩; have HG15 := Lib.hid hg; clear hg)
     obtain ⟨W16, hW16⟩ : ∃ X, W15.alloc (.cells #[.slice A' n' c', .slice B9 q' d9] 191) = X := ⟨_, rfl⟩
     have g16 : Below W15.heap.size W15 W16 := by rw [← hW16]; exact one_more _ _
     have G16 := Lib.hid (GW.out.trans ((HG15.out.trans (g16.mono HG15.out.size)).mono GW.out.size))
     rw [hW16]
     clear hW16 g16 z0 z1
     have HGE2 := Lib.hid (GA.out.trans ((G6.out.trans (G16.out.mono G6.out.size)).mono GA.out.size))
     cases my with
     | false =>
      have HR4 := Lib.hid (show rr = 0 from HR3.out)
      go_wp2_with fail
      go_ret2
      exact ⟨by rw [HR4.out]; rfl, HGE2.out⟩
     | true =>
      have HR4 := Lib.hid (show rr = (if (decide (sv1.hi = 0) && ea) = true then 1 else 2) by rw [HR3.out]; rfl)
      obtain ⟨b9, o9, rfl, -, hc9⟩ := rg_at9 HS6.out (k := av) (by have := HQN.out; omega)
      have hx1 := (BN6.out.ext G16.out).cell 1
      have hx2 := (hc9 W16 G16.out).2
      rw [hsv1] at hx2
      have havq : (av : Int) < (q : Int) := by have := HQN.out; omega
      clear hc9
      by_cases hs0 : sv1.hi = 0
      ·have e1 : (sv1.hi == 0) = true := by simp [hs0]
       cases ea with
       | true =>
        have HR5 := Lib.hid (show rr = 1 by rw [HR4.out, decide_eq_true hs0]; rfl)
        clear hs0
        go_wp2_with fail
        go_ret2
        exact ⟨by rw [HR5.out]; rfl, HGE2.out⟩
       | false =>
        have HR5 := Lib.hid (show rr = 2 by rw [HR4.out, decide_eq_true hs0]; rfl)
        clear hs0
        go_wp2_with fail
        go_ret2
        exact ⟨by rw [HR5.out]; rfl, HGE2.out⟩
      ·have e1 : (sv1.hi == 0) = false := by simpa using hs0
       have HR5 := Lib.hid (show rr = 2 by rw [HR4.out, decide_eq_false hs0]; rfl)
       clear hs0
       go_wp2_with fail
       go_ret2
       exact ⟨by rw [HR5.out]; rfl, HGE2.out⟩
 ·have HR2 := Lib.hid (show rr = 0 from HOZ.out hz)
  have hz2 : (ae != 0) = true := by simpa using hz
  clear hz HOP
  go_enter Tryz.func51, Tryz.ntmps51
  go_upto_region 1 with fail
  rw [HW0.out]
  go_upto_region 2 with (go_at_call 117; (with_reducible refine (HT1.out).mono ?_); rintro e V ⟨⟨A, n, c, B, q, d, rfl, -⟩, hg⟩; have HG1 := Lib.hid hg; clear hg)
  have HG5 := Lib.hid (GA.out.trans ((HG1.out.trans ((one_more V (.cells #[.slice A n c, .slice B q d] 191)).mono HG1.out.size)).mono GA.out.size))
  go_wp2_with fail
  go_ret2
  exact ⟨by rw [HR2.out]; rfl, HG5.out⟩
end Go.Proofs.YtkoejeghihcmlaaGreat

namespace Go.Proofs.YtkoejeghihcmlaaGreat
open Go.RowKit Go.Shelf
def rtEarly (p : Pl) (hour known sown : Int) (ns : List Int) : Bool :=
 decide (p.geese = 0) || decide (hour - 24 * p.geese < 0) || decide (0 < runK sown (numsL p known ns) (after (lookL p known every) (hour - 24 * p.geese)))
theorem left_parts {p : Pl} {hour known sown : Int} {ns : List Int} (h : leftE p [hour] known sown ns = 0) : firstE p [hour] [known] = 0 ∧ truthB p known sown ns = true := by
 unfold leftE at h
 by_cases e : firstE p [hour] [known] = 0
 ·rw [if_pos e] at h
  refine ⟨e, ?_⟩
  cases e2 : truthB p known sown ns with
  | true => rfl
  | false => rw [e2] at h; cases h
 ·rw [if_neg e] at h; exact absurd h e
theorem truth_tru {p : Pl} (hok : okPl p = true) {known sown : Int} {ns : List Int} (h : truthB p known sown ns = true) : Rw (lookL p known every) (lookS p known every) ∧ Tru (lookL p known every) (lookS p known every) (truS p known sown ns) := by
 have h1 := truBy_iff.1 ((truth_iff hok).1 h).2
 have hl := roRow_len p known
 have hw : ∀ i, i < (lookL p known every).length → Ls (lookL p known every) i ≤ Gr (lookL p known every) i := fun i hi => (look_wid hok known every i hi).2
 exact ⟨look_rw hok ((sound_tru hl hw).2 ⟨_, h1⟩), tru_settle hl h1⟩
theorem truly_ref {p : Pl} {hour known sown : Int} {ns : List Int} (h : leftE p [hour] known sown ns = 0) :
  trulyR p hour known sown ns = (decide (leftV p hour known sown ns = 0) && rtEarly p hour known sown ns && !shutB p known hour) := by
 obtain ⟨h1, h2⟩ := left_parts h
 have hok := first_ok h1
 obtain ⟨hr, ht⟩ := truth_tru hok h2
 have hh := hour_pos h1
 have hg := (ok_parts hok).2.2.2.2.2.2.2.2
 have hc := clr_bd hr.hrs (truS p known sown ns)
 have e1 := hr.clear_iff ht hh.1 hh.2
 unfold trulyR leftV
 rw [if_pos h, if_pos h]
 unfold trulyV openB rtEarly
 rw [← truS_at (p := p) (known := known) (sown := sown) (ns := ns) (after_len _ (hour - 24 * p.geese))]
 rw [Bool.eq_iff_iff]
 simp only [Bool.and_eq_true, Bool.or_eq_true, decide_eq_true_eq, Bool.not_eq_true']
 rw [e1]
 have e2 : (p.geese = 0 ∨ hour < clrFrom (lookL p known every) (truS p known sown ns) + 24 * p.geese) ↔ ((p.geese = 0 ∨ hour - 24 * p.geese < 0) ∨ 0 < (truS p known sown ns).getD (after (lookL p known every) (hour - 24 * p.geese)) 0) := by
  by_cases hf : p.geese = 0 ∨ hour - 24 * p.geese < 0
  ·constructor
   ·intro _; exact .inl hf
   ·intro _; omega
  ·have e3 := hr.clear_iff ht (hour := hour - 24 * p.geese) (by omega) (by omega)
   have e4 := hr.low ht (after_len (lookL p known every) (hour - 24 * p.geese))
   constructor
   ·intro c
    right
    by_cases e5 : (truS p known sown ns).getD (after (lookL p known every) (hour - 24 * p.geese)) 0 = 0
    ·have := e3.1 e5; omega
    ·omega
   ·rintro (c | c)
    ·exact absurd c hf
    ·right
     by_cases e5 : clrFrom (lookL p known every) (truS p known sown ns) ≤ hour - 24 * p.geese
     ·have := e3.2 e5; omega
     ·omega
 rw [e2]
 constructor
 ·rintro ⟨⟨a, b⟩, c⟩; exact ⟨⟨a, c⟩, b⟩
 ·rintro ⟨⟨a, c⟩, b⟩; exact ⟨⟨a, b⟩, c⟩
set_option maxRecDepth 100000 in
set_option maxHeartbeats 8000000 in
theorem refTruly_any (p : Pl) (A1 A2 A3 : Option Addr) (n1 c1 n2 c2 n3 c3 : Nat) (hour known : Int) (N : Option Addr) (nn cn : Nat) (ns : List Int) (sown : Int) (w : World) (hp : Pa w p A1 A2 A3 n1 c1 n2 c2 n3 c3) (hns : Ints w N nn ns) (hI : ∀ x ∈ ns, -9223372036854775808 ≤ x ∧ x ≤ 9223372036854775807) (hnn : nn ≤ 9223372036854775807) :
  Calls Tryz.prog 53 #[plv p A1 A2 A3 n1 c1 n2 c2 n3 c3, .agg #[.int .i64 sown, .slice N nn cn], .agg #[.int .i64 hour, .int .i64 known]] w fun e w' => e = .returned (.tuple #[.bool (trulyR p hour known sown ns), .int .i64 (leftE p [hour] known sown ns)]) ∧ Below w.heap.size w w' := by
 obtain ⟨W1, hW1⟩ : ∃ W1, ((w.alloc (.cells (plb p A1 A2 A3 n1 c1 n2 c2 n3 c3) 38)).alloc (.cells #[.int .i64 sown, .slice N nn cn] 41)).alloc (.cells #[.int .i64 hour, .int .i64 known] 85) = W1 := ⟨_, rfl⟩
 have g0 : Below w.heap.size w W1 := by rw [← hW1]; exact hundred _ _ _ _
 have b0 : Blk W1 w.heap.size 38 (plb p A1 A2 A3 n1 c1 n2 c2 n3 c3) := by rw [← hW1]; exact ((Blk.new _ _ _).alloc _).alloc _
 have b1 : Blk W1 (w.heap.size + 1) 41 #[.int .i64 sown, .slice N nn cn] := by
  rw [← hW1]
  have := (Blk.new (w.alloc (.cells (plb p A1 A2 A3 n1 c1 n2 c2 n3 c3) 38)) 41 #[.int .i64 sown, .slice N nn cn]).alloc (.cells #[.int .i64 hour, .int .i64 known] 85)
  rwa [World.size_alloc] at this
 have b2 : Blk W1 (w.heap.size + 1 + 1) 85 #[.int .i64 hour, .int .i64 known] := by
  rw [← hW1]
  have := Blk.new ((w.alloc (.cells (plb p A1 A2 A3 n1 c1 n2 c2 n3 c3) 38)).alloc (.cells #[.int .i64 sown, .slice N nn cn] 41)) 85 #[.int .i64 hour, .int .i64 known]
  rwa [World.size_alloc, World.size_alloc] at this
 have T1 := refLeft_any p A1 A2 A3 n1 c1 n2 c2 n3 c3 hour known N nn cn ns sown W1 (hp.below g0) (hns.below g0) hI hnn
 have HTR := Lib.hid (fun (h : leftE p [hour] known sown ns = 0) => truly_ref h)
 have HTZ := Lib.hid (show leftE p [hour] known sown ns ≠ 0 → trulyR p hour known sown ns = false from fun h => by unfold trulyR; rw [if_neg h])
 have HPRT := Lib.hid (fun (h : leftE p [hour] known sown ns = 0) => (⟨hour_pos (left_parts h).1, first_ok (left_parts h).1, (left_parts h).2⟩ : (0 ≤ hour ∧ hour ≤ 99999) ∧ okPl p = true ∧ truthB p known sown ns = true))
 have HEA := Lib.hid (show rtEarly p hour known sown ns = (decide (p.geese = 0) || decide (hour - 24 * p.geese < 0) || decide (0 < runK sown (numsL p known ns) (after (lookL p known every) (hour - 24 * p.geese)))) from rfl)
 have HT2 := Lib.hid (fun (V : World) (g : Below W1.heap.size W1 V) (hok : okPl p = true) (ht : truthB p known sown ns = true) => refLeftN_any p A1 A2 A3 n1 c1 n2 c2 n3 c3 (hour - 24 * p.geese) known N nn cn ns sown V ((hp.below g0).below g) hok ((hns.below g0).below g) ht)
 have HT3 := Lib.hid (fun (V : World) (g : Below W1.heap.size W1 V) (h0 : 0 ≤ hour) (h1 : hour ≤ 99999) => refShutB_any p A1 A2 A3 n1 c1 n2 c2 n3 c3 hour known V ((hp.below g0).below g) h0 h1)
 obtain ⟨le, hle⟩ : ∃ x, leftE p [hour] known sown ns = x := ⟨_, rfl⟩
 obtain ⟨lv, hlv⟩ : ∃ x, leftV p hour known sown ns = x := ⟨_, rfl⟩
 obtain ⟨tr, htr⟩ : ∃ x, trulyR p hour known sown ns = x := ⟨_, rfl⟩
 obtain ⟨ea, hea⟩ : ∃ x, rtEarly p hour known sown ns = x := ⟨_, rfl⟩
 obtain ⟨sb, hsb⟩ : ∃ x, shutB p known hour = x := ⟨_, rfl⟩
 obtain ⟨rk, hrk⟩ : ∃ x, runK sown (numsL p known ns) (after (lookL p known every) (hour - 24 * p.geese)) = x := ⟨_, rfl⟩
 rw [hrk] at HEA HT2
 rw [hle, hlv] at T1
 rw [hle, hlv, htr, hea, hsb] at HTR
 rw [hle, htr] at HTZ
 rw [hle] at HPRT
 rw [hea] at HEA
 rw [hsb] at HT3
 rw [htr, hle]
 have HT1 := Lib.hid T1
 have HB0 := Lib.hid b0
 have HB1 := Lib.hid b1
 have HB2 := Lib.hid b2
 have GA := Lib.hid g0
 have HW1 := Lib.hid hW1
 have r0 := b0.cell 0
 have r1 := b0.cell 1
 have r2 := b0.cell 2
 have r3 := b0.cell 3
 have r4 := b0.cell 4
 have r5 := b0.cell 5
 have s0 := b1.cell 0
 have s1 := b1.cell 1
 have t0 := b2.cell 0
 have t1 := b2.cell 1
 clear hp g0 b0 b1 b2 hW1 hns hI T1 hle hlv htr hea hsb hrk
 by_cases hz : le = 0
 ·subst hz
  have HTR2 := Lib.hid (HTR.out rfl)
  obtain ⟨hhour, hok, htru⟩ := HPRT.out rfl
  have HOK := Lib.hid hok
  have HTRU := Lib.hid htru
  obtain ⟨hh0, hh1⟩ := hhour
  obtain ⟨hg0, hg1⟩ := (ok_parts hok).2.2.2.2.2.2.2.2
  have HHH := Lib.hid (show 0 ≤ hour ∧ hour ≤ 99999 from ⟨hh0, hh1⟩)
  clear HTR HTZ HPRT hok htru
  go_enter Tryz.func53, Tryz.ntmps53
  go_upto_region 1 with fail
  rw [HW1.out]
  go_upto_region 4 with (go_at_call 58; (with_reducible refine (HT1.out).mono ?_); rintro e V ⟨rfl, hg⟩; have HG1 := Lib.hid hg; clear hg)
  have x0 := (HB2.out.ext HG1.out).cell 0
  have x1 := (HB0.out.ext HG1.out).cell 5
  have hw24 : IntKind.i64.wrap (24 * p.geese) = 24 * p.geese := by rw [IntKind.wrap_i64]; omega
  clear r0 r1 r2 r3 r4 r5 s0 s1 t0 t1
  go_upto_region 5 with fail
  have HT4 := Lib.hid (HT2.out V HG1.out HOK.out HTRU.out)
  obtain ⟨bef, hbef⟩ : ∃ b, hour - 24 * p.geese = b := ⟨_, rfl⟩
  rw [hbef] at HEA HT4
  (try rw [hbef])
  have m0 := (HB0.out.ext HG1.out).cell 0
  have m1 := (HB0.out.ext HG1.out).cell 1
  have m2 := (HB0.out.ext HG1.out).cell 2
  have m3 := (HB0.out.ext HG1.out).cell 3
  have m4 := (HB0.out.ext HG1.out).cell 4
  have c0 := (HB1.out.ext HG1.out).cell 0
  have c1' := (HB1.out.ext HG1.out).cell 1
  have y1 := (HB2.out.ext HG1.out).cell 1
  clear hbef hw24
  go_cut [11] from 28 to 44 (fun s wx => s = .bool ea ∧ Below V.heap.size V wx)
  case first =>
   by_cases hgz : p.geese = 0
   ·have hgd : (p.geese == 0) = true := by simp [hgz]
    have HX := Lib.hid (show ea = true by rw [HEA.out, decide_eq_true hgz]; rfl)
    clear hgz
    go_wp2_with fail
    go_meet
    exact ⟨by rw [HX.out], Below.refl _ _⟩
   ·have hgd : (p.geese == 0) = false := by simpa using hgz
    by_cases hb0 : bef < 0
    ·have hbd : decide (bef < 0) = true := decide_eq_true hb0
     have HX := Lib.hid (show ea = true by rw [HEA.out, decide_eq_true hb0]; simp)
     clear hgz hb0
     go_wp2_with fail
     go_meet
     exact ⟨by rw [HX.out], Below.refl _ _⟩
    ·have hbd : decide (bef < 0) = false := decide_eq_false hb0
     have HX := Lib.hid (show ea = decide (0 < rk) by rw [HEA.out, decide_eq_false hb0, decide_eq_false hgz]; rfl)
     clear hgz hb0
     go_wp2_with (go_at_call 124; (with_reducible refine (HT4.out).mono ?_); rintro e V3 ⟨rfl, hg⟩; have HG3 := Lib.hid hg; clear hg)
     go_meet
     exact ⟨by rw [HX.out], HG3.out⟩
  case rest =>
   obtain ⟨rfl, hg⟩ := hcut
   rename World => V5
   have HG5 := Lib.hid hg
   have G5 := Lib.hid (HG1.out.trans (hg.mono HG1.out.size))
   clear hg m0 m1 m2 m3 m4 c0 c1' y1 x0 x1
   have m0 := (HB0.out.ext G5.out).cell 0
   have m1 := (HB0.out.ext G5.out).cell 1
   have m2 := (HB0.out.ext G5.out).cell 2
   have m3 := (HB0.out.ext G5.out).cell 3
   have m4 := (HB0.out.ext G5.out).cell 4
   have m5 := (HB0.out.ext G5.out).cell 5
   have y0 := (HB2.out.ext G5.out).cell 0
   have y1 := (HB2.out.ext G5.out).cell 1
   have HT6 := Lib.hid (HT3.out V5 G5.out HHH.out.1 HHH.out.2)
   have GE := Lib.hid (GA.out.trans (G5.out.mono GA.out.size))
   by_cases hlz : lv = 0
   ·have hld : (lv == 0) = true := by simp [hlz]
    have HTR3 := Lib.hid (show tr = (ea && !sb) by rw [HTR2.out, decide_eq_true hlz]; rfl)
    clear hlz
    cases ea with
    | true =>
     have HTR4 := Lib.hid (show tr = !sb from HTR3.out)
     go_wp2_with (go_at_call 119; (with_reducible refine (HT6.out).mono ?_); rintro e V6 ⟨rfl, hg⟩; have HG6 := Lib.hid hg; clear hg)
     go_ret2
     exact ⟨by rw [HTR4.out]; rfl, GE.out.trans (HG6.out.mono GE.out.size)⟩
    | false =>
     have HTR4 := Lib.hid (show tr = false from HTR3.out)
     go_wp2_with fail
     go_ret2
     exact ⟨by rw [HTR4.out]; rfl, GE.out⟩
   ·have hld : (lv == 0) = false := by simpa using hlz
    have HTR3 := Lib.hid (show tr = false by rw [HTR2.out, decide_eq_false hlz]; rfl)
    clear hlz
    go_wp2_with fail
    go_ret2
    exact ⟨by rw [HTR3.out]; rfl, GE.out⟩
 ·have HR2 := Lib.hid (show tr = false from HTZ.out hz)
  have hz2 : (le != 0) = true := by simpa using hz
  clear hz HTR HTZ HPRT
  go_enter Tryz.func53, Tryz.ntmps53
  go_upto_region 1 with fail
  rw [HW1.out]
  go_wp2_with (go_at_call 58; (with_reducible refine (HT1.out).mono ?_); rintro e V ⟨rfl, hg⟩)
  go_ret2
  exact ⟨by rw [HR2.out]; rfl, GA.out.trans (hg.mono GA.out.size)⟩
end Go.Proofs.YtkoejeghihcmlaaGreat
