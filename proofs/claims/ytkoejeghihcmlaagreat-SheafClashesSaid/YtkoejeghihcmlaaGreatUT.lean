/- The reference: CheckClash. -/
import Derived.Test.YtkoejeghihcmlaaGreatUR
import Derived.Test.YtkoejeghihcmlaaGreatWB
namespace Go.Proofs.YtkoejeghihcmlaaGreat
open Go.RowKit Go.Shelf

theorem first_below {w w' : World} (h : Below w.drew.heap.size w.drew w') : Below w.heap.size w w' := ((Below.refl w.heap.size w).drew).trans (h.mono (Nat.le_refl _))
set_option maxRecDepth 100000 in
set_option maxHeartbeats 8000000 in
theorem refChk_any (p : Pl) (A1 A2 A3 : Option Addr) (n1 c1 n2 c2 n3 c3 : Nat) (known : Int) (B : Option Addr) (nb cb : Nat) (by_ : List Int) (w : World) (hp : Pa w p A1 A2 A3 n1 c1 n2 c2 n3 c3)
    (hb : Ints w B nb by_) (hnc : nb ≤ cb) (hcm : cb ≤ 9223372036854775807) :
    Calls Tryz.prog 43 #[plv p A1 A2 A3 n1 c1 n2 c2 n3 c3, .int .i64 known, .slice B nb cb] w fun e w' => e = .returned (.int .i64 (chkE p known by_)) ∧ Below w.heap.size w w' := by
  obtain ⟨W1, hW1⟩ : ∃ W1, w.alloc (.cells (plb p A1 A2 A3 n1 c1 n2 c2 n3 c3) 38) = W1 := ⟨_, rfl⟩
  have g1 : Below w.heap.size w W1 := by rw [← hW1]; exact one_more _ _
  have b1 : Blk W1 w.heap.size 38 (plb p A1 A2 A3 n1 c1 n2 c2 n3 c3) := by rw [← hW1]; exact Blk.new _ _ _
  have p0 := b1.cell 0
  have p1 := b1.cell 1
  have p2 := b1.cell 2
  have p3 := b1.cell 3
  have p4 := b1.cell 4
  have p5 := b1.cell 5
  have HPA := Lib.hid (hp.below g1)
  have HB := Lib.hid b1
  have G1 := Lib.hid g1
  have HBY := Lib.hid (hb.below g1)
  have T0 := refAsked_any p A1 A2 A3 n1 c1 n2 c2 n3 c3 0 known W1 HPA.out
  rw [first_zero] at T0
  have T := Lib.hid T0
  clear T0
  have HE := Lib.hid (show chkE p known by_ = if firstE p [] [known] = 0 then (if byAll (tellL p known) by_ = true then (if contraB p known by_ = true then (if byLean p known by_ = true then 0 else 15) else 15) else 15) else firstE p [] [known] from rfl)
  have HN := Lib.hid (fun (h : firstE p [] [known] = 0) => first_ok (p := p) (hours := []) (days := [known]) h)
  obtain ⟨ce, hce⟩ : ∃ ce, chkE p known by_ = ce := ⟨_, rfl⟩
  rw [hce] at HE ⊢
  obtain ⟨fe, hfe⟩ : ∃ fe, firstE p [] [known] = fe := ⟨_, rfl⟩
  rw [hfe] at HE HN T
  have HW1 := Lib.hid hW1
  clear hfe hce hp g1 b1 hW1 hb
  by_cases he : fe = 0
  · subst he
    have HOK := Lib.hid (HN.out rfl)
    have HTL := Lib.hid (tell_len HOK.out known)
    have HNB := Lib.hid (show n1 ≤ 100 ∧ n2 ≤ 100 by
      have h1 := ok_parts HOK.out
      have h2 := HPA.out.l1.1
      have h3 := HPA.out.l2.1
      omega)
    have T2 := Lib.hid (fun W (g : Below W1.heap.size W1 W) => refCounting_any p A1 A2 A3 n1 c1 n2 c2 n3 c3 known W (HPA.out.below g) HNB.out)
    rw [counting_tell HOK.out known] at T2
    have T3 := Lib.hid (fun W (g : Below W1.heap.size W1 W) A n c l (ha : Ints W A n l) (hn : n ≤ 1000000) => refSound_any p A1 A2 A3 n1 c1 n2 c2 n3 c3 known false A n c l W (HPA.out.below g) HOK.out ha hn)
    have HE1 := Lib.hid (show ce = (if byAll (tellL p known) by_ = true then (if contraB p known by_ = true then (if byLean p known by_ = true then 0 else 15) else 15) else 15) from HE.out)
    obtain ⟨tl, htl⟩ : ∃ tl, tellL p known = tl := ⟨_, rfl⟩
    rw [htl] at HE1 HTL T2
    clear htl HE
    go_enter Tryz.func43, Tryz.ntmps43
    go_upto_region 1 with fail
    rw [HW1.out]
    go_upto_region 5 with (first
      | (go_at_call 101; (with_reducible refine (T.out).mono ?_); rintro e W3 ⟨rfl, hg⟩; have G3 := Lib.hid hg; have y0 := (HB.out.ext G3.out).cell 0; have y1 := (HB.out.ext G3.out).cell 1; have y2 := (HB.out.ext G3.out).cell 2; have y3 := (HB.out.ext G3.out).cell 3; have y4 := (HB.out.ext G3.out).cell 4; have y5 := (HB.out.ext G3.out).cell 5; clear hg)
      | (go_at_call 107; (with_reducible refine (T2.out _ G3.out).mono ?_); rintro e W4 ⟨⟨v, rfl, ho⟩, hg⟩; obtain ⟨D, c, hv, -, -, hia, -⟩ := OwnL.arr kdI ho; subst hv; have HO := Lib.hid hia; have G4 := Lib.hid (G3.out.trans (hg.mono G3.out.size)); clear hg ho hia))
    obtain ⟨m, hm⟩ : ∃ m, tl.length = m := ⟨_, rfl⟩
    rw [hm] at HO HTL ⊢
    have hm120 := HTL.out
    clear y0 y1 y2 y3 y4 y5 p0 p1 p2 p3 p4 p5
    have HM := Lib.hid hm
    have HBY4 := Lib.hid (HBY.out.below G4.out)
    have hbl := Lib.hid HBY.out.1
    clear hm
    go_wp2_with fail
    go_loopw [9] (fun i wr => ∃ k : Nat, i = .int .i64 k ∧ k ≤ nb ∧ Below W4.heap.size W4 wr ∧ ∀ j, j < k → byOk tl by_ j = true) (fun i _ => nb - (intOf i).toNat)
    case atStart => exact ⟨0, rfl, Nat.zero_le _, Below.refl _ _, fun j hj => absurd hj (by omega)⟩
    case round =>
      obtain ⟨k, rfl, hk, hgr, hall⟩ := hrel
      have HALL := Lib.hid hall
      have HGW := Lib.hid (G4.out.trans (hgr.mono G4.out.size))
      have HBYR := Lib.hid (HBY4.out.below hgr)
      have TH := Lib.hid (fun x (X : Wd wr) => refHas_any D m c tl x X.val ((HO.out.below hgr).below X.ok) (by omega))
      have HRW := Lib.hid hgr
      clear hall hgr
      by_cases hkn : k < nb
      · obtain ⟨b0, o0, rfl, -, -, hc⟩ := ints_at HBYR.out hkn
        have d0 := cellW (hc _ (Below.refl _ _))
        obtain ⟨x, hx⟩ : ∃ x, by_.getD k 0 = x := ⟨_, rfl⟩
        rw [hx] at d0
        have HX := Lib.hid hx
        obtain ⟨ok, hok⟩ : ∃ ok, byOk tl by_ k = ok := ⟨_, rfl⟩
        have HOKK := Lib.hid hok
        clear hc hx hok
        go_upto_region 8 with fail
        go_cut [48] from 26 to 48 (fun cc wx => cc = .bool (!ok) ∧ Below wr.heap.size wr wx)
        case first =>
          obtain ⟨hs, hhs⟩ : ∃ hs, hasI tl x = hs := ⟨_, rfl⟩
          have TX := Lib.hid (show ∀ X : Wd wr, Calls Tryz.prog 47 #[.slice D m c, .int .i64 x] X.val fun e w' => e = .returned (.bool hs) ∧ X.val = w' from by rw [← hhs]; exact TH.out x)
          have HHS := Lib.hid hhs
          clear hhs
          cases hs with
          | false =>
            obtain rfl : ok = false := by rw [← HOKK.out]; exact byOk_no_has (by rw [HX.out]; exact HHS.out)
            refine wp_region_calm wr (by kernel_rfl) (by kernel_rfl) (Below.refl _ _) ?_
            repeat (go_big_quiet_step ((go_at_call 47; exact callsCalmSame (TX.out _))))
            refine wpQuiet_nil ?_
            rintro _ ⟨z, rfl⟩
            go_wp2_with fail
            go_meet
            exact ⟨by first | rfl | simp, z.ok⟩
          | true =>
            by_cases hk0 : k = 0
            · subst hk0
              obtain rfl : ok = true := by rw [← HOKK.out]; exact byOk_first (by rw [HX.out]; exact HHS.out)
              rw [Nat.add_zero] at d0
              refine wp_region_calm wr (by kernel_rfl) (by kernel_rfl) (Below.refl _ _) ?_
              repeat (go_big_quiet_step ((go_at_call 47; exact callsCalmSame (TX.out _))))
              refine wpQuiet_nil ?_
              rintro _ ⟨z, rfl⟩
              go_wp2_with fail
              go_meet
              exact ⟨by first | rfl | simp, z.ok⟩
            · obtain ⟨i, hi⟩ : ∃ i, k - 1 = i := ⟨_, rfl⟩
              obtain ⟨b1, o1, hbo, -, -, hc⟩ := ints_at HBYR.out (show i < nb by omega)
              cases hbo
              have d1 := cellW (hc _ (Below.refl _ _))
              obtain ⟨y, hy⟩ : ∃ y, by_.getD i 0 = y := ⟨_, rfl⟩
              rw [hy] at d1
              obtain ⟨db, hdb⟩ : ∃ db, decide (x ≤ y) = db := ⟨_, rfl⟩
              obtain rfl : ok = !db := by rw [← HOKK.out]; exact byOk_later (by rw [HX.out]; exact HHS.out) (by omega) (by rw [hi, HX.out, hy, hdb])
              have hd : decide ((0 : Int) < (k : Int)) = true := decide_eq_true (by omega)
              have hd2 : decide (0 < k) = true := decide_eq_true (by omega)
              have hin : i < nb := by omega
              have e1 : (k : Int) - 1 = (i : Int) := by omega
              have hwe : IntKind.i64.wrap ((k : Int) - 1) = (i : Int) := by rw [IntKind.wrap_i64]; omega
              clear hc hy hi hk0
              refine wp_region_calm wr (by kernel_rfl) (by kernel_rfl) (Below.refl _ _) ?_
              repeat (go_big_quiet_step ((go_at_call 47; exact callsCalmSame (TX.out _))))
              refine wpQuiet_nil ?_
              rintro _ ⟨z, rfl⟩
              go_wp2_with fail
              go_meet
              exact ⟨by first | rfl | simp, z.ok⟩
        case rest =>
          obtain ⟨rfl, hgc⟩ := hcut
          have HGC := Lib.hid hgc
          have HG9 := Lib.hid (HGW.out.trans (hgc.mono HGW.out.size))
          clear hgc
          cases ok with
          | false =>
            have HZ := Lib.hid (show ce = 15 by rw [HE1.out, if_neg (by rw [Bool.not_eq_true]; exact all_range_no (by rw [hbl.out]; exact hkn) HOKK.out)])
            go_wp2_with fail
            go_ret
            exact ⟨by rw [HZ.out]; rfl, G1.out.trans (HG9.out.mono G1.out.size)⟩
          | true =>
            go_wp2_with fail
            go_roundw
            case rel => exact ⟨k + 1, by go_num, by omega, HRW.out.trans (HGC.out.mono HRW.out.size), fun j hj => by
              by_cases e : j = k
              · subst e; exact HOKK.out
              · exact HALL.out j (by omega)⟩
            case measure => simp [intOf]; omega
      · obtain rfl : nb = k := by omega
        have HBA := Lib.hid (show byAll tl by_ = true from all_range_yes (by rw [hbl.out]; exact HALL.out))
        have hn120 : nb ≤ 120 := by have h1 := byAll_len HBA.out; rw [hbl.out, HM.out] at h1; omega
        have T4 := T3.out wr HGW.out B nb cb by_ HBYR.out (by omega)
        rw [mB_some] at T4
        have HE2 := Lib.hid (show ce = (if contraB p known by_ = true then (if byLean p known by_ = true then 0 else 15) else 15) by rw [HE1.out, if_pos HBA.out])
        obtain ⟨sv, hsv⟩ : ∃ sv, sound (lookS p known (hasI by_)) = sv := ⟨_, rfl⟩
        have HCB := Lib.hid (show contraB p known by_ = !sv by rw [← hsv]; rfl)
        rw [hsv] at T4
        rw [HCB.out] at HE2
        have HT4 := Lib.hid T4
        have u0 := (HB.out.ext HGW.out).cell 0
        have u1 := (HB.out.ext HGW.out).cell 1
        have u2 := (HB.out.ext HGW.out).cell 2
        have u3 := (HB.out.ext HGW.out).cell 3
        have u4 := (HB.out.ext HGW.out).cell 4
        have u5 := (HB.out.ext HGW.out).cell 5
        clear hsv T4 HCB
        cases sv with
        | true =>
          have HZ := Lib.hid (show ce = 15 from HE2.out)
          go_wp2_with (go_at_call 102; (with_reducible refine (HT4.out).mono ?_); rintro e W5 ⟨rfl, hg⟩; have G5 := Lib.hid (HGW.out.trans (hg.mono HGW.out.size)); clear hg)
          go_ret
          exact ⟨by rw [HZ.out]; rfl, G1.out.trans (G5.out.mono G1.out.size)⟩
        | false =>
          have HE3 := Lib.hid (show ce = (if byLean p known by_ = true then 0 else 15) from HE2.out)
          go_wp2_with (go_at_call 102; (with_reducible refine (HT4.out).mono ?_); rintro e W5 ⟨rfl, hg⟩; have G5 := Lib.hid (HGW.out.trans (hg.mono HGW.out.size)); clear hg)
          clear u0 u1 u2 u3 u4 u5
          go_loopw [10] (fun i wr => ∃ k : Nat, i = .int .i64 k ∧ k ≤ nb ∧ Below W1.heap.size W1 wr ∧ ∀ j, j < k → contraB p known (by_.eraseIdx j) = false) (fun i _ => nb - (intOf i).toNat)
          case atStart => exact ⟨0, rfl, Nat.zero_le _, G5.out, fun j hj => absurd hj (by omega)⟩
          case round =>
            obtain ⟨k, rfl, hk, hgr, hall2⟩ := hrel
            have HGR := Lib.hid hgr
            have HAL2 := Lib.hid hall2
            have HI2 := Lib.hid (HBY.out.below hgr)
            have HKP := Lib.hid (fun X (g : Below W1.heap.size W1 X) => (⟨(HB.out.ext g).cell 0, (HB.out.ext g).cell 1, (HB.out.ext g).cell 2, (HB.out.ext g).cell 3, (HB.out.ext g).cell 4, (HB.out.ext g).cell 5⟩ : X.cell? ⟨w.heap.size, 0, none⟩ = some (.int .i64 p.lo) ∧ X.cell? ⟨w.heap.size, 1, none⟩ = some (.int .i64 p.hi) ∧ X.cell? ⟨w.heap.size, 2, none⟩ = some (.slice A1 n1 c1) ∧ X.cell? ⟨w.heap.size, 3, none⟩ = some (.slice A2 n2 c2) ∧ X.cell? ⟨w.heap.size, 4, none⟩ = some (.slice A3 n3 c3) ∧ X.cell? ⟨w.heap.size, 5, none⟩ = some (.int .i64 p.geese)))
            obtain ⟨u0, u1, u2, u3, u4, u5⟩ := HKP.out _ hgr
            clear hgr hall2
            by_cases hkn : k < nb
            · obtain ⟨bb, oo, rfl, -, -, -⟩ := ints_at HI2.out hkn
              have TC := Lib.hid (fun (X : World) (g : Below wr.heap.size wr X) => refLeave_any bb oo nb cb k by_ X (HI2.out.below g) hkn hnc hcm (by omega))
              have GD := Lib.hid (show Below wr.heap.size wr wr.drew from (Below.refl _ _).drew)
              have GO := Lib.hid (Below.refl wr.heap.size wr)
              have HLE := Lib.hid (show (by_.eraseIdx k).length = nb - 1 by rw [List.length_eraseIdx, if_pos (by rw [hbl.out]; exact hkn), hbl.out])
              obtain ⟨sx, hsx⟩ : ∃ sx, sound (lookS p known (hasI (by_.eraseIdx k))) = sx := ⟨_, rfl⟩
              have HSX := Lib.hid hsx
              have HCV := Lib.hid (show contraB p known (by_.eraseIdx k) = !sx by rw [← hsx]; rfl)
              obtain ⟨bx, hbx⟩ : ∃ bx, by_.eraseIdx k = bx := ⟨_, rfl⟩
              have HBX := Lib.hid hbx
              rw [hbx] at TC HLE HSX
              clear hsx hbx
              go_upto_region 15 with fail
              go_cut [67] from 60 to 67 (fun cc wx => cc = .bool (!sx) ∧ Below W1.heap.size W1 wx)
              case first =>
                go_region_held3 (fun X => X.cell? ⟨w.heap.size, 0, none⟩ = some (.int .i64 p.lo) ∧ X.cell? ⟨w.heap.size, 1, none⟩ = some (.int .i64 p.hi) ∧ X.cell? ⟨w.heap.size, 2, none⟩ = some (.slice A1 n1 c1) ∧ X.cell? ⟨w.heap.size, 3, none⟩ = some (.slice A2 n2 c2) ∧ X.cell? ⟨w.heap.size, 4, none⟩ = some (.slice A3 n3 c3) ∧ X.cell? ⟨w.heap.size, 5, none⟩ = some (.int .i64 p.geese))
                  (with_reducible refine HKP.out _ ?_; repeat' first | (with_reducible exact HGR.out) | (with_reducible exact G6.out) | (with_reducible exact G8.out) | (with_reducible refine Below.drew ?_))
                  (first
                    | (go_at_call 108; (first | (with_reducible refine (TC.out _ GD.out).mono ?_) | (with_reducible refine (TC.out _ GO.out).mono ?_)); rintro e W6 ⟨⟨v, rfl, ho⟩, hg⟩; replace hg : Below wr.heap.size wr W6 := (by first | exact first_below hg | exact hg); obtain ⟨D6, c6, hv, hq1, hq2, hia, -⟩ := OwnL.arr kdI ho; subst hv; have HO6 := Lib.hid hia; have G6 := Lib.hid (HGR.out.trans (hg.mono HGR.out.size)); rw [HLE.out] at HO6 ⊢; have T5 := (fun (X : World) (g : Below W6.heap.size W6 X) => T3.out X (G6.out.trans (g.mono G6.out.size)) D6 (nb - 1) c6 bx (HO6.out.below g) (by omega)); rw [mB_some, HSX.out] at T5; have HT5 := Lib.hid T5; have GD6 := Lib.hid (show Below W6.heap.size W6 W6.drew from (Below.refl _ _).drew); have GO6 := Lib.hid (Below.refl W6.heap.size W6); clear hg ho hia hq1 hq2 T5)
                    | (go_at_call 102; (first | (with_reducible refine (HT5.out _ GD6.out).mono ?_) | (with_reducible refine (HT5.out _ GO6.out).mono ?_)); rintro e W8 ⟨rfl, hg⟩; replace hg : Below W6.heap.size W6 W8 := (by first | exact first_below hg | exact hg); have G8 := Lib.hid (G6.out.trans (hg.mono G6.out.size)); clear hg))
                all_goals (try go_wp2_with fail)
                all_goals (
                  go_meet
                  exact ⟨rfl, G8.out⟩)
              case rest =>
                obtain ⟨rfl, hgc⟩ := hcut
                have G8 := Lib.hid hgc
                clear hgc
                cases sx with
                | true =>
                  have HCV2 := Lib.hid (show contraB p known (by_.eraseIdx k) = false from HCV.out)
                  go_wp2_with fail
                  go_roundw
                  case rel => exact ⟨k + 1, by go_num, by omega, G8.out, fun j hj => by
                    by_cases e : j = k
                    · subst e; exact HCV2.out
                    · exact HAL2.out j (by omega)⟩
                  case measure => simp [intOf]; omega
                | false =>
                  have HZ := Lib.hid (show ce = 15 by rw [HE3.out, if_neg (by rw [Bool.not_eq_true]; exact all_range_no (by rw [hbl.out]; exact hkn) (by rw [HCV.out]; rfl))])
                  go_wp2_with fail
                  go_ret
                  exact ⟨by rw [HZ.out]; rfl, G1.out.trans (G8.out.mono G1.out.size)⟩
            · obtain rfl : nb = k := by omega
              have HZ := Lib.hid (show ce = 0 by rw [HE3.out, if_pos (show byLean p known by_ = true from all_range_yes (by rw [hbl.out]; exact fun i hi => by rw [HAL2.out i hi]; rfl))])
              go_wp2_with fail
              go_ret
              exact ⟨by rw [HZ.out]; rfl, G1.out.trans (HGR.out.mono G1.out.size)⟩
  · have HE2 := Lib.hid (show ce = fe by rw [HE.out, if_neg he])
    have hne : (fe != 0) = true := by simpa using he
    go_enter Tryz.func43, Tryz.ntmps43
    go_upto_region 1 with fail
    rw [HW1.out]
    go_wp2_with (go_at_call 101; (with_reducible refine (T.out).mono ?_); rintro e W3 ⟨rfl, hg⟩; have G3 := Lib.hid hg; clear hg)
    go_ret
    exact ⟨by rw [HE2.out]; rfl, G1.out.trans (G3.out.mono G1.out.size)⟩
end Go.Proofs.YtkoejeghihcmlaaGreat
