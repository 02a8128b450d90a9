/- The reference: Clash. -/
import Derived.Test.YtkoejeghihcmlaaGreatUQ
namespace Go.Proofs.YtkoejeghihcmlaaGreat
open Go.RowKit Go.Shelf

set_option maxRecDepth 100000 in
set_option maxHeartbeats 4000000 in
theorem refClash_any (p : Pl) (A1 A2 A3 : Option Addr) (n1 c1 n2 c2 n3 c3 : Nat) (known : Int) (w : World) (hp : Pa w p A1 A2 A3 n1 c1 n2 c2 n3 c3) :
    Calls Tryz.prog 40 #[plv p A1 A2 A3 n1 c1 n2 c2 n3 c3, .int .i64 known] w fun e w' => (∃ D m c, e = .returned (.tuple #[.slice D m c, .int .i64 (clashE p known)]) ∧ Ints w' D m (clashL p known)) ∧ Below w.heap.size w w' := by
  obtain ⟨W1, hW1⟩ : ∃ W1, w.alloc (.cells (plb p A1 A2 A3 n1 c1 n2 c2 n3 c3) 38) = W1 := ⟨_, rfl⟩
  have g1 : Below w.heap.size w W1 := by rw [← hW1]; exact one_more _ _
  have b1 : Blk W1 w.heap.size 38 (plb p A1 A2 A3 n1 c1 n2 c2 n3 c3) := by rw [← hW1]; exact Blk.new _ _ _
  have p0 := b1.cell 0
  have p1 := b1.cell 1
  have p2 := b1.cell 2
  have p3 := b1.cell 3
  have p4 := b1.cell 4
  have p5 := b1.cell 5
  have HPA := Lib.hid (hp.below g1)
  have HB := Lib.hid b1
  have G1 := Lib.hid g1
  have T := Lib.hid (refSoundP_any p A1 A2 A3 n1 c1 n2 c2 n3 c3 known W1 (HPA.out))
  have HSB := Lib.hid (show soundB p known = if firstE p [] [known] = 0 then sound (lookS p known every) else false by rfl)
  have HR := Lib.hid (show clashL p known = if clashE p known = 0 then clashD p known (tellL p known).length (tellL p known) else [] from rfl)
  have HE := Lib.hid (show clashE p known = if firstE p [] [known] = 0 then err (contraB p known (tellL p known)) 15 else firstE p [] [known] from rfl)
  have HN := Lib.hid (fun (h : firstE p [] [known] = 0) => first_ok (p := p) (hours := []) (days := [known]) h)
  obtain ⟨rr, hrr⟩ : ∃ rr, clashL p known = rr := ⟨_, rfl⟩
  obtain ⟨ce, hce⟩ : ∃ ce, clashE p known = ce := ⟨_, rfl⟩
  rw [hrr, hce] at HR
  rw [hce] at HE
  rw [hrr, hce]
  obtain ⟨fe, hfe⟩ : ∃ fe, firstE p [] [known] = fe := ⟨_, rfl⟩
  rw [hfe] at HE HN T HSB
  obtain ⟨sb, hsb⟩ : ∃ sb, soundB p known = sb := ⟨_, rfl⟩
  rw [hsb] at HSB T
  have HW1 := Lib.hid hW1
  clear hrr hfe hce hp g1 b1 hW1 hsb
  by_cases he : fe = 0
  · subst he
    have HOK := Lib.hid (HN.out rfl)
    have HTL := Lib.hid (tell_len HOK.out known)
    have HNB := Lib.hid (show n1 ≤ 100 ∧ n2 ≤ 100 by
      have h1 := ok_parts HOK.out
      have h2 := HPA.out.l1.1
      have h3 := HPA.out.l2.1
      omega)
    have HCE := Lib.hid (show contraB p known (tellL p known) = !sb by rw [contra_all HOK.out, HSB.out]; rfl)
    have T2 := Lib.hid (fun W (g : Below W1.heap.size W1 W) => refCounting_any p A1 A2 A3 n1 c1 n2 c2 n3 c3 known W (HPA.out.below g) HNB.out)
    rw [counting_tell HOK.out known] at T2
    have T3 := Lib.hid (fun W (g : Below W1.heap.size W1 W) A n c l (ha : Ints W A n l) (hn : n ≤ 1000000) => refSound_any p A1 A2 A3 n1 c1 n2 c2 n3 c3 known false A n c l W (HPA.out.below g) HOK.out ha hn)
    have HE1 := Lib.hid (show ce = err (contraB p known (tellL p known)) 15 from HE.out)
    rw [HCE.out] at HE1
    obtain ⟨tl, htl⟩ : ∃ tl, tellL p known = tl := ⟨_, rfl⟩
    rw [htl] at HR HTL T2
    clear htl HCE HSB
    cases sb with
    | true =>
      have HR2 := Lib.hid (show rr = [] by rw [HR.out, HE1.out]; rfl)
      go_enter Tryz.func40, Tryz.ntmps40
      go_upto_region 1 with fail
      rw [HW1.out]
      go_wp2_with (go_at_call 38; (with_reducible refine (T.out).mono ?_); rintro e W5 ⟨rfl, hg⟩; have G5 := Lib.hid hg; clear hg)
      go_ret2
      exact ⟨⟨none, 0, 0, by rw [HE1.out]; rfl, by rw [HR2.out]; exact Arr.nil_⟩, G1.out.trans (G5.out.mono G1.out.size)⟩
    | false =>
      obtain ⟨m, hm⟩ : ∃ m, tl.length = m := ⟨_, rfl⟩
      rw [hm] at HTL HR
      have hm120 := HTL.out
      have HR2 := Lib.hid (show rr = clashD p known m tl by rw [HR.out, HE1.out]; rfl)
      have HM := Lib.hid hm
      clear hm
      go_enter Tryz.func40, Tryz.ntmps40
      go_upto_region 1 with fail
      rw [HW1.out]
      go_upto_region 7 with (first
        | (go_at_call 38; (with_reducible refine (T.out).mono ?_); rintro e W3 ⟨rfl, hg⟩; have G3 := Lib.hid hg; have y0 := (HB.out.ext G3.out).cell 0; have y1 := (HB.out.ext G3.out).cell 1; have y2 := (HB.out.ext G3.out).cell 2; have y3 := (HB.out.ext G3.out).cell 3; have y4 := (HB.out.ext G3.out).cell 4; have y5 := (HB.out.ext G3.out).cell 5; clear hg)
        | (go_at_call 107; (with_reducible refine (T2.out _ G3.out).mono ?_); rintro e W4 ⟨⟨v, rfl, ho⟩, hg⟩; obtain ⟨D, c, hv, hq1, hq2, hia, -⟩ := OwnL.arr kdI ho; subst hv; have HO := Lib.hid hia; have HQ1 := Lib.hid hq1; have HQ2 := Lib.hid hq2; have G4 := Lib.hid (G3.out.trans (hg.mono G3.out.size)); clear hg ho hia hq1 hq2))
      rw [HM.out] at HO HQ1 ⊢
      clear y0 y1 y2 y3 y4 y5 p0 p1 p2 p3 p4 p5
      go_wp2_with fail
      go_loopw [8, 9] (fun b i wr => ∃ (k mm cc : Nat) (DD : Option Addr) (bl : List Int), .slice DD mm cc = b ∧ i = .int .i64 ((k : Int) - 1) ∧ k ≤ mm ∧ mm ≤ 120 ∧ mm ≤ cc ∧ cc ≤ maxLen ∧ Ints wr DD mm bl ∧ Below W1.heap.size W1 wr ∧ clashD p known k bl = rr) (fun _ i _ => (intOf i + 1).toNat)
      case atStart => exact ⟨m, m, c, D, tl, rfl, by simp, Nat.le_refl _, hm120, HQ1.out, HQ2.out, HO.out, G4.out, HR2.out.symm⟩
      case round =>
        obtain ⟨k, mm, cc, DD, bl, rfl, rfl, hk, hmm, hcc, hcm, hi, hg, hcl⟩ := hrel
        have HI2 := Lib.hid hi
        have HGR := Lib.hid hg
        have HCL := Lib.hid hcl
        have hbl := Lib.hid hi.1
        have HCM := Lib.hid hcm
        have y0 := (HB.out.ext hg).cell 0
        have y1 := (HB.out.ext hg).cell 1
        have y2 := (HB.out.ext hg).cell 2
        have y3 := (HB.out.ext hg).cell 3
        have y4 := (HB.out.ext hg).cell 4
        have y5 := (HB.out.ext hg).cell 5
        clear hi hg hcl hcm
        by_cases hk0 : 0 < k
        · obtain ⟨ix, hix⟩ : ∃ ix, k - 1 = ix := ⟨_, rfl⟩
          have hixe : (k : Int) - 1 = (ix : Int) := by omega
          rw [hixe]
          have HKE := Lib.hid (show k = ix + 1 by omega)
          have hixm : ix < mm := by omega
          obtain ⟨bb, oo, rfl, -, -, -⟩ := ints_at HI2.out hixm
          have HCX := Lib.hid (show clashD p known ix (if contraB p known (bl.eraseIdx ix) = true then bl.eraseIdx ix else bl) = rr by have := HCL.out; rw [HKE.out] at this; exact this)
          have TC := Lib.hid (refLeave_any bb oo mm cc ix bl wr HI2.out hixm hcc (by have := HCM.out; unfold maxLen at this; omega) (by omega))
          have HLE := Lib.hid (show (bl.eraseIdx ix).length = mm - 1 by rw [List.length_eraseIdx, if_pos (by rw [hbl.out]; exact hixm), hbl.out])
          obtain ⟨bx, hbx⟩ : ∃ bx, bl.eraseIdx ix = bx := ⟨_, rfl⟩
          obtain ⟨sx, hsx⟩ : ∃ sx, sound (lookS p known (hasI bx)) = sx := ⟨_, rfl⟩
          have HSX := Lib.hid hsx
          rw [hbx] at TC HCX HLE
          have HCX1 := Lib.hid (show clashD p known ix (if (!sx) = true then bx else bl) = rr by rw [← hsx]; exact HCX.out)
          clear hixe hix hk0 hbx hsx HCX
          go_upto_region 11 with (go_at_call 108; (with_reducible refine (TC.out).mono ?_); rintro e W6 ⟨⟨v, rfl, ho⟩, hg⟩; obtain ⟨D6, c6, hv, hq1, hq2, hia, -⟩ := OwnL.arr kdI ho; subst hv; have HO6 := Lib.hid hia; have HQ1 := Lib.hid hq1; have HQ2 := Lib.hid hq2; have G6 := Lib.hid (HGR.out.trans (hg.mono HGR.out.size)); have HI6 := Lib.hid (HI2.out.below hg); have u0 := (HB.out.ext G6.out).cell 0; have u1 := (HB.out.ext G6.out).cell 1; have u2 := (HB.out.ext G6.out).cell 2; have u3 := (HB.out.ext G6.out).cell 3; have u4 := (HB.out.ext G6.out).cell 4; have u5 := (HB.out.ext G6.out).cell 5; clear hg ho hia hq1 hq2)
          rw [HLE.out] at HO6 HQ1 ⊢
          have T5 := T3.out W6 G6.out D6 (mm - 1) c6 bx HO6.out (by omega)
          rw [mB_some, HSX.out] at T5
          have HT5 := Lib.hid T5
          clear T5
          cases sx with
          | false =>
            have HCX2 := Lib.hid (show clashD p known ix bx = rr from HCX1.out)
            go_wp2_with (go_at_call 102; (with_reducible refine (HT5.out).mono ?_); rintro e W8 ⟨rfl, hg⟩; have G8 := Lib.hid (G6.out.trans (hg.mono G6.out.size)); have HI9 := Lib.hid (HO6.out.below hg); clear hg)
            go_roundw
            case rel => exact ⟨ix, mm - 1, c6, D6, bx, rfl, by simp, by omega, by omega, HQ1.out, HQ2.out, HI9.out, G8.out, HCX2.out⟩
            case measure => simp [intOf]
          | true =>
            have HCX2 := Lib.hid (show clashD p known ix bl = rr from HCX1.out)
            go_wp2_with (go_at_call 102; (with_reducible refine (HT5.out).mono ?_); rintro e W8 ⟨rfl, hg⟩; have G8 := Lib.hid (G6.out.trans (hg.mono G6.out.size)); have HI9 := Lib.hid (HI6.out.below hg); clear hg)
            go_roundw
            case rel => exact ⟨ix, mm, cc, some ⟨bb, oo, none⟩, bl, rfl, by simp, by omega, by omega, hcc, HCM.out, HI9.out, G8.out, HCX2.out⟩
            case measure => simp [intOf]
        · obtain rfl : k = 0 := by omega
          have HCX2 := Lib.hid (show rr = bl from HCL.out.symm)
          rw [show ((0 : Nat) : Int) - 1 = -1 from rfl]
          go_wp2_with fail
          go_ret2
          exact ⟨⟨DD, mm, cc, by rw [HE1.out]; rfl, by rw [HCX2.out]; exact HI2.out⟩, G1.out.trans (HGR.out.mono G1.out.size)⟩
  · have HE2 := Lib.hid (show ce = fe by rw [HE.out, if_neg he])
    have HR2 := Lib.hid (show rr = [] by rw [HR.out, HE2.out, if_neg he])
    have hne : (fe != 0) = true := by simpa using he
    go_enter Tryz.func40, Tryz.ntmps40
    go_upto_region 1 with fail
    rw [HW1.out]
    go_wp2_with (go_at_call 38; (with_reducible refine (T.out).mono ?_); rintro e W3 ⟨rfl, hg⟩; have G3 := Lib.hid hg; clear hg)
    go_ret2
    exact ⟨⟨none, 0, 0, by rw [HE2.out]; rfl, by rw [HR2.out]; exact Arr.nil_⟩, G1.out.trans (G3.out.mono G1.out.size)⟩
end Go.Proofs.YtkoejeghihcmlaaGreat
