/- Sound, Clash and CheckClash of any plot. -/
import Derived.Test.YtkoejeghihcmlaaGreatWB
namespace Go.Proofs.YtkoejeghihcmlaaGreat
open Go.RowKit Go.Shelf

set_option maxRecDepth 100000 in
set_option maxHeartbeats 8000000 in
theorem soundQ_any (p : Pl) (A1 A2 A3 : Option Addr) (n1 c1 n2 c2 n3 c3 : Nat) (known : Int) (w : World) (hp : Pa w p A1 A2 A3 n1 c1 n2 c2 n3 c3) :
    Calls Tryz.prog 37 #[plv p A1 A2 A3 n1 c1 n2 c2 n3 c3, .int .i64 known] w fun e w' => e = .returned (.tuple #[.bool (soundB p known), .int .i64 (firstE p [] [known])]) ∧ Below w.heap.size w w' := by
  obtain ⟨W1, hW1⟩ : ∃ W1, w.alloc (.cells (plb p A1 A2 A3 n1 c1 n2 c2 n3 c3) 38) = W1 := ⟨_, rfl⟩
  have g1 : Below w.heap.size w W1 := by rw [← hW1]; exact one_more _ _
  have b1 : Blk W1 w.heap.size 38 (plb p A1 A2 A3 n1 c1 n2 c2 n3 c3) := by rw [← hW1]; exact Blk.new _ _ _
  have p0 := b1.cell 0
  have p1 := b1.cell 1
  have p2 := b1.cell 2
  have p3 := b1.cell 3
  have p4 := b1.cell 4
  have p5 := b1.cell 5
  have HPA := Lib.hid (hp.below g1)
  have HB := Lib.hid b1
  have G1 := Lib.hid g1
  have T := Lib.hid (fun W (g : Below W1.heap.size W1 W) (i1 : Ints W (some ⟨W1.heap.size, 0, none⟩) 1 [known]) => first_any p A1 A2 A3 n1 c1 n2 c2 n3 c3 none (some ⟨W1.heap.size, 0, none⟩) 0 0 1 1 [] [known] W (HPA.out.below g) Arr.nil_ i1 (by decide) (by decide))
  have HI := Lib.hid (one_int (Blk.new W1 3 #[.int .i64 known]))
  have HG := Lib.hid (one_more W1 (.cells #[.int .i64 known] 3))
  have HR := Lib.hid (show soundB p known = if firstE p [] [known] = 0 then sound (lookS p known every) else false from rfl)
  have HN := Lib.hid (no_hours p known)
  obtain ⟨rr, hrr⟩ : ∃ rr, soundB p known = rr := ⟨_, rfl⟩
  rw [hrr] at HR ⊢
  obtain ⟨fe, hfe⟩ : ∃ fe, firstE p [] [known] = fe := ⟨_, rfl⟩
  rw [hfe] at HR HN T ⊢
  have HW1 := Lib.hid hW1
  clear hrr hfe hp g1 b1 hW1
  by_cases he : fe = 0
  · subst he
    have HR2 := Lib.hid (show rr = sound (lookS p known every) from HR.out)
    have HOK := Lib.hid (HN.out rfl).1
    have H19 := Lib.hid (ok_parts HOK.out).2.2.2.2.2.1
    have T2 := Lib.hid (fun W (g : Below W1.heap.size W1 W) => look_lk p A1 A2 A3 n1 c1 n2 c2 n3 c3 w.heap.size known every .nilFunc W (HB.out.ext g) (HPA.out.below g) HOK.out H19.out (sm_nil W))
    have HLL := Lib.hid (lookL_len H19.out known every)
    clear HR
    go_enter Tryz.func37, Tryz.ntmps37
    go_upto_region 1 with fail
    rw [HW1.out]
    go_wp2_with (first
      | (go_at_call 80; (with_reducible refine (T.out _ HG.out HI.out).mono ?_); rintro e W3 ⟨rfl, hg⟩; have G3 := Lib.hid (HG.out.trans (hg.mono HG.out.size)); clear hg)
      | (go_at_call 81; (with_reducible refine (T2.out _ G3.out).mono ?_); rintro e W4 ⟨bf, bs, A, n, c, rfl, hg, hl⟩; have G4 := Lib.hid (G3.out.trans (hg.mono G3.out.size)); have HL := Lib.hid hl; clear hg hl)
      | (go_at_call 100; (with_reducible refine (sound_any bf bs _ known A n c (n + 1) (lookS p known every) W4 HL.out.fd (by have := HL.out.num; have := HLL.out; omega)).mono ?_); rintro e W5 ⟨rfl, hg⟩; have G5 := Lib.hid hg; clear hg))
    go_ret2
    exact ⟨by rw [HR2.out]; rfl, G1.out.trans ((G4.out.trans (G5.out.mono G4.out.size)).mono G1.out.size)⟩
  · have HR2 := Lib.hid (show rr = false by rw [HR.out, if_neg he])
    have hne : (fe != 0) = true := by simpa using he
    clear HR
    go_enter Tryz.func37, Tryz.ntmps37
    go_upto_region 1 with fail
    rw [HW1.out]
    go_wp2_with (go_at_call 80; (with_reducible refine (T.out _ HG.out HI.out).mono ?_); rintro e W3 ⟨rfl, hg⟩; have G3 := Lib.hid (HG.out.trans (hg.mono HG.out.size)); clear hg)
    go_ret2
    exact ⟨by rw [HR2.out]; rfl, G1.out.trans (G3.out.mono G1.out.size)⟩
set_option maxRecDepth 100000 in
set_option maxHeartbeats 8000000 in
theorem clashQ_any (p : Pl) (A1 A2 A3 : Option Addr) (n1 c1 n2 c2 n3 c3 : Nat) (known : Int) (w : World) (hp : Pa w p A1 A2 A3 n1 c1 n2 c2 n3 c3) :
    Calls Tryz.prog 39 #[plv p A1 A2 A3 n1 c1 n2 c2 n3 c3, .int .i64 known] w fun e w' => (∃ D m c, e = .returned (.tuple #[.slice D m c, .int .i64 (clashE p known)]) ∧ Ints w' D m (clashL p known)) ∧ Below w.heap.size w w' := by
  obtain ⟨W1, hW1⟩ : ∃ W1, w.alloc (.cells (plb p A1 A2 A3 n1 c1 n2 c2 n3 c3) 38) = W1 := ⟨_, rfl⟩
  have g1 : Below w.heap.size w W1 := by rw [← hW1]; exact one_more _ _
  have b1 : Blk W1 w.heap.size 38 (plb p A1 A2 A3 n1 c1 n2 c2 n3 c3) := by rw [← hW1]; exact Blk.new _ _ _
  have p0 := b1.cell 0
  have p1 := b1.cell 1
  have p2 := b1.cell 2
  have p3 := b1.cell 3
  have p4 := b1.cell 4
  have p5 := b1.cell 5
  have HPA := Lib.hid (hp.below g1)
  have HB := Lib.hid b1
  have G1 := Lib.hid g1
  have T := Lib.hid (fun W (g : Below W1.heap.size W1 W) (i1 : Ints W (some ⟨W1.heap.size, 0, none⟩) 1 [known]) => first_any p A1 A2 A3 n1 c1 n2 c2 n3 c3 none (some ⟨W1.heap.size, 0, none⟩) 0 0 1 1 [] [known] W (HPA.out.below g) Arr.nil_ i1 (by decide) (by decide))
  have HI := Lib.hid (one_int (Blk.new W1 3 #[.int .i64 known]))
  have HG := Lib.hid (one_more W1 (.cells #[.int .i64 known] 3))
  have HR := Lib.hid (show clashL p known = if clashE p known = 0 then clashD p known (tellL p known).length (tellL p known) else [] from rfl)
  have HE := Lib.hid (show clashE p known = if firstE p [] [known] = 0 then err (contraB p known (tellL p known)) 15 else firstE p [] [known] from rfl)
  have HN := Lib.hid (no_hours p known)
  obtain ⟨rr, hrr⟩ : ∃ rr, clashL p known = rr := ⟨_, rfl⟩
  obtain ⟨ce, hce⟩ : ∃ ce, clashE p known = ce := ⟨_, rfl⟩
  rw [hrr, hce] at HR
  rw [hce] at HE
  rw [hrr, hce]
  obtain ⟨fe, hfe⟩ : ∃ fe, firstE p [] [known] = fe := ⟨_, rfl⟩
  rw [hfe] at HE HN T
  have HW1 := Lib.hid hW1
  clear hrr hfe hce hp g1 b1 hW1
  by_cases he : fe = 0
  · subst he
    have HOK := Lib.hid (HN.out rfl).1
    have H19 := Lib.hid (ok_parts HOK.out).2.2.2.2.2.1
    have HTL := Lib.hid (tell_len HOK.out known)
    have T2 := Lib.hid (fun W (g : Below W1.heap.size W1 W) => telling_any p A1 A2 A3 n1 c1 n2 c2 n3 c3 known W (HPA.out.below g) HOK.out)
    have T3 := Lib.hid (fun W (g : Below W1.heap.size W1 W) A n c l (ha : Ints W A n l) (hn : n ≤ 1000000) => contra_any p A1 A2 A3 n1 c1 n2 c2 n3 c3 w.heap.size known A n c l W (HB.out.ext g) (HPA.out.below g) HOK.out H19.out ha hn)
    have HE1 := Lib.hid (show ce = err (contraB p known (tellL p known)) 15 from HE.out)
    obtain ⟨tl, htl⟩ : ∃ tl, tellL p known = tl := ⟨_, rfl⟩
    rw [htl] at HE1 HR HTL T2
    clear htl
    go_enter Tryz.func39, Tryz.ntmps39
    go_upto_region 1 with fail
    rw [HW1.out]
    go_upto_region 5 with (first
      | (go_at_call 80; (with_reducible refine (T.out _ HG.out HI.out).mono ?_); rintro e W3 ⟨rfl, hg⟩; have G3 := Lib.hid (HG.out.trans (hg.mono HG.out.size)); have y0 := (HB.out.ext G3.out).cell 0; have y1 := (HB.out.ext G3.out).cell 1; have y2 := (HB.out.ext G3.out).cell 2; have y3 := (HB.out.ext G3.out).cell 3; have y4 := (HB.out.ext G3.out).cell 4; have y5 := (HB.out.ext G3.out).cell 5; clear hg)
      | (go_at_call 103; (with_reducible refine (T2.out _ G3.out).mono ?_); rintro e W4 ⟨⟨v, rfl, ho⟩, hg⟩; obtain ⟨D, c, hv, -, -, hia, -⟩ := OwnL.arr kdI ho; subst hv; have HO := Lib.hid hia; have G4 := Lib.hid (G3.out.trans (hg.mono G3.out.size)); clear hg ho hia))
    obtain ⟨m, hm⟩ : ∃ m, tl.length = m := ⟨_, rfl⟩
    rw [hm] at HO HTL HR ⊢
    have hm120 := HTL.out
    clear y0 y1 y2 y3 y4 y5 p0 p1 p2 p3 p4 p5
    have T4 := Lib.hid (T3.out W4 G4.out D m c tl HO.out (by omega))
    obtain ⟨cb, hcb⟩ : ∃ cb, contraB p known tl = cb := ⟨_, rfl⟩
    rw [hcb] at T4 HE1
    clear hcb
    cases cb with
    | false =>
      have HR2 := Lib.hid (show rr = [] by rw [HR.out, HE1.out]; rfl)
      have HM := Lib.hid hm
      clear hm
      go_wp2_with (go_at_call 104; (with_reducible refine (T4.out).mono ?_); rintro e W5 ⟨rfl, hg⟩; have G5 := Lib.hid hg; clear hg)
      go_ret2
      exact ⟨⟨none, 0, 0, by rw [HE1.out]; rfl, by rw [HR2.out]; exact Arr.nil_⟩, G1.out.trans ((G4.out.trans (G5.out.mono G4.out.size)).mono G1.out.size)⟩
    | true =>
      have HR2 := Lib.hid (show rr = clashD p known m tl by rw [HR.out, HE1.out]; rfl)
      have HM := Lib.hid hm
      clear hm
      go_upto_region 7 with (go_at_call 104; (with_reducible refine (T4.out).mono ?_); rintro e W5 ⟨rfl, hg⟩; have G5 := Lib.hid (G4.out.trans (hg.mono G4.out.size)); have HO5 := Lib.hid (HO.out.below hg); clear hg)
      go_wp2_with fail
      go_loopw [7, 8] (fun b i wr => ∃ (k mm cc : Nat) (DD : Option Addr) (bl : List Int), .slice DD mm cc = b ∧ i = .int .i64 ((k : Int) - 1) ∧ k ≤ mm ∧ mm ≤ 120 ∧ Ints wr DD mm bl ∧ Below W1.heap.size W1 wr ∧ clashD p known k bl = rr) (fun _ i _ => (intOf i + 1).toNat)
      case atStart => exact ⟨m, m, c, D, tl, rfl, by simp, Nat.le_refl _, hm120, HO5.out, G5.out, HR2.out.symm⟩
      case round =>
        obtain ⟨k, mm, cc, DD, bl, rfl, rfl, hk, hmm, hi, hg, hcl⟩ := hrel
        have HI2 := Lib.hid hi
        have HGR := Lib.hid hg
        have HCL := Lib.hid hcl
        have hbl := Lib.hid hi.1
        clear hi hg hcl
        by_cases hk0 : 0 < k
        · obtain ⟨ix, hix⟩ : ∃ ix, k - 1 = ix := ⟨_, rfl⟩
          have hixe : (k : Int) - 1 = (ix : Int) := by omega
          rw [hixe]
          have HKE := Lib.hid (show k = ix + 1 by omega)
          have hixm : ix < mm := by omega
          have hxw := wrap_succ ix (by omega)
          have HCX := Lib.hid (show clashD p known ix (if contraB p known (bl.eraseIdx ix) = true then bl.eraseIdx ix else bl) = rr by have := HCL.out; rw [HKE.out] at this; exact this)
          have TC := Lib.hid (cloneI_any DD mm cc bl wr HI2.out (by omega))
          clear hixe hix hk0
          go_upto_region 11 with (first
            | (go_at_call 106; (with_reducible refine (TC.out).mono ?_); rintro e W6 ⟨⟨v, rfl, ho⟩, hg⟩; obtain ⟨D6, c6, hv, -, -, hia, hgb⟩ := OwnL.arr kdI ho; subst hv; rw [hbl.out] at ho hia ⊢; obtain ⟨g6, o6, hD6, -, -⟩ := hia.2 (by omega); subst hD6; obtain ⟨-, hg6, rfl⟩ := hgb g6 o6 rfl; have G6 := Lib.hid (HGR.out.trans (hg.mono HGR.out.size)); have HO6 := Lib.hid ho; have HWR := Lib.hid hg; have HG6 := Lib.hid hg6; have HI6 := Lib.hid (HI2.out.below hg); clear hg ho hia hgb hg6)
            | (go_at_call 105; (with_reducible refine (delInt_any _ _ _ _ _ _ _ HO6.out hixm (by omega)).mono ?_); rintro e W7 ⟨rfl, ho, hf⟩; obtain ⟨D7, c7, hv7, -, -, hia, -⟩ := OwnL.arr kdI ho; have HO7 := Lib.hid hia; have HV7 := Lib.hid hv7; have HFX := Lib.hid hf; clear ho hf hia hv7))
          have HI7 := Lib.hid (show Ints W7 (some ⟨g6, 0, none⟩) (mm - 1) (bl.eraseIdx ix) by
            have h1 := HO7.out
            have h2 := HV7.out
            have hl : (bl.eraseIdx ix).length = mm - 1 := by rw [List.length_eraseIdx, if_pos (by rw [hbl.out]; exact hixm), hbl.out]
            rw [hl] at h1 h2
            cases h2
            exact h1)
          have G7 := Lib.hid (show Below W1.heap.size W1 W7 from G6.out.trans (HFX.out.below (by have := HG6.out; have := HGR.out.size; omega) G6.out.size))
          have HI8 := Lib.hid (show Ints W7 DD mm bl from (HI6.out.fix HFX.out (fun b o e h0 => by
            obtain ⟨b', o', e', hlt, -⟩ := HI2.out.2 h0
            rw [e] at e'; cases e'
            have := HG6.out
            exact ⟨by omega, by omega⟩)))
          have T5 := Lib.hid (T3.out W7 G7.out (some ⟨g6, 0, none⟩) (mm - 1) c6 (bl.eraseIdx ix) HI7.out (by omega))
          obtain ⟨cb, hcb⟩ : ∃ cb, contraB p known (bl.eraseIdx ix) = cb := ⟨_, rfl⟩
          rw [hcb] at T5 HCX
          clear hcb
          cases cb with
          | true =>
            have HCX2 := Lib.hid (show clashD p known ix (bl.eraseIdx ix) = rr from HCX.out)
            go_wp2_with (go_at_call 104; (with_reducible refine (T5.out).mono ?_); rintro e W8 ⟨rfl, hg⟩; have G8 := Lib.hid (G7.out.trans (hg.mono G7.out.size)); have HI9 := Lib.hid (HI7.out.below hg); clear hg)
            go_roundw
            case rel => exact ⟨ix, mm - 1, c6, some ⟨g6, 0, none⟩, bl.eraseIdx ix, rfl, by simp, by omega, by omega, HI9.out, G8.out, HCX2.out⟩
            case measure => simp [intOf]
          | false =>
            have HCX2 := Lib.hid (show clashD p known ix bl = rr from HCX.out)
            go_wp2_with (go_at_call 104; (with_reducible refine (T5.out).mono ?_); rintro e W8 ⟨rfl, hg⟩; have G8 := Lib.hid (G7.out.trans (hg.mono G7.out.size)); have HI9 := Lib.hid (HI8.out.below hg); clear hg)
            go_roundw
            case rel => exact ⟨ix, mm, cc, DD, bl, rfl, by simp, by omega, by omega, HI9.out, G8.out, HCX2.out⟩
            case measure => simp [intOf]
        · obtain rfl : k = 0 := by omega
          have HCX2 := Lib.hid (show rr = bl from HCL.out.symm)
          rw [show ((0 : Nat) : Int) - 1 = -1 from rfl]
          go_wp2_with fail
          go_ret2
          exact ⟨⟨DD, mm, cc, by rw [HE1.out]; rfl, by rw [HCX2.out]; exact HI2.out⟩, G1.out.trans (HGR.out.mono G1.out.size)⟩
  · have HE2 := Lib.hid (show ce = fe by rw [HE.out, if_neg he])
    have HR2 := Lib.hid (show rr = [] by rw [HR.out, HE2.out, if_neg he])
    have hne : (fe != 0) = true := by simpa using he
    go_enter Tryz.func39, Tryz.ntmps39
    go_upto_region 1 with fail
    rw [HW1.out]
    go_wp2_with (go_at_call 80; (with_reducible refine (T.out _ HG.out HI.out).mono ?_); rintro e W3 ⟨rfl, hg⟩; have G3 := Lib.hid (HG.out.trans (hg.mono HG.out.size)); clear hg)
    go_ret2
    exact ⟨⟨none, 0, 0, by rw [HE2.out]; rfl, by rw [HR2.out]; exact Arr.nil_⟩, G1.out.trans (G3.out.mono G1.out.size)⟩
set_option maxRecDepth 100000 in
set_option maxHeartbeats 8000000 in
theorem chkQ_any (p : Pl) (A1 A2 A3 : Option Addr) (n1 c1 n2 c2 n3 c3 : Nat) (known : Int) (B : Option Addr) (nb cb : Nat) (by_ : List Int) (w : World) (hp : Pa w p A1 A2 A3 n1 c1 n2 c2 n3 c3)
    (hb : Ints w B nb by_) (hnb : nb ≤ 9223372036854775807) :
    Calls Tryz.prog 42 #[plv p A1 A2 A3 n1 c1 n2 c2 n3 c3, .int .i64 known, .slice B nb cb] w fun e w' => e = .returned (.int .i64 (chkE p known by_)) ∧ Below w.heap.size w w' := by
  obtain ⟨W1, hW1⟩ : ∃ W1, w.alloc (.cells (plb p A1 A2 A3 n1 c1 n2 c2 n3 c3) 38) = W1 := ⟨_, rfl⟩
  have g1 : Below w.heap.size w W1 := by rw [← hW1]; exact one_more _ _
  have b1 : Blk W1 w.heap.size 38 (plb p A1 A2 A3 n1 c1 n2 c2 n3 c3) := by rw [← hW1]; exact Blk.new _ _ _
  have p0 := b1.cell 0
  have p1 := b1.cell 1
  have p2 := b1.cell 2
  have p3 := b1.cell 3
  have p4 := b1.cell 4
  have p5 := b1.cell 5
  have HPA := Lib.hid (hp.below g1)
  have HB := Lib.hid b1
  have G1 := Lib.hid g1
  have HBY := Lib.hid (hb.below g1)
  have T := Lib.hid (fun W (g : Below W1.heap.size W1 W) (i1 : Ints W (some ⟨W1.heap.size, 0, none⟩) 1 [known]) => first_any p A1 A2 A3 n1 c1 n2 c2 n3 c3 none (some ⟨W1.heap.size, 0, none⟩) 0 0 1 1 [] [known] W (HPA.out.below g) Arr.nil_ i1 (by decide) (by decide))
  have HI := Lib.hid (one_int (Blk.new W1 3 #[.int .i64 known]))
  have HG := Lib.hid (one_more W1 (.cells #[.int .i64 known] 3))
  have HE := Lib.hid (show chkE p known by_ = if firstE p [] [known] = 0 then (if byAll (tellL p known) by_ = true then (if contraB p known by_ = true then (if byLean p known by_ = true then 0 else 15) else 15) else 15) else firstE p [] [known] from rfl)
  have HN := Lib.hid (no_hours p known)
  obtain ⟨ce, hce⟩ : ∃ ce, chkE p known by_ = ce := ⟨_, rfl⟩
  rw [hce] at HE ⊢
  obtain ⟨fe, hfe⟩ : ∃ fe, firstE p [] [known] = fe := ⟨_, rfl⟩
  rw [hfe] at HE HN T
  have HW1 := Lib.hid hW1
  clear hfe hce hp g1 b1 hW1 hb
  by_cases he : fe = 0
  · subst he
    have HOK := Lib.hid (HN.out rfl).1
    have H19 := Lib.hid (ok_parts HOK.out).2.2.2.2.2.1
    have HTL := Lib.hid (tell_len HOK.out known)
    have T2 := Lib.hid (fun W (g : Below W1.heap.size W1 W) => telling_any p A1 A2 A3 n1 c1 n2 c2 n3 c3 known W (HPA.out.below g) HOK.out)
    have T3 := Lib.hid (fun W (g : Below W1.heap.size W1 W) A n c l (ha : Ints W A n l) (hn : n ≤ 1000000) => contra_any p A1 A2 A3 n1 c1 n2 c2 n3 c3 w.heap.size known A n c l W (HB.out.ext g) (HPA.out.below g) HOK.out H19.out ha hn)
    have HE1 := Lib.hid (show ce = (if byAll (tellL p known) by_ = true then (if contraB p known by_ = true then (if byLean p known by_ = true then 0 else 15) else 15) else 15) from HE.out)
    obtain ⟨tl, htl⟩ : ∃ tl, tellL p known = tl := ⟨_, rfl⟩
    rw [htl] at HE1 HTL T2
    clear htl HE
    go_enter Tryz.func42, Tryz.ntmps42
    go_upto_region 1 with fail
    rw [HW1.out]
    go_upto_region 5 with (first
      | (go_at_call 80; (with_reducible refine (T.out _ HG.out HI.out).mono ?_); rintro e W3 ⟨rfl, hg⟩; have G3 := Lib.hid (HG.out.trans (hg.mono HG.out.size)); have y0 := (HB.out.ext G3.out).cell 0; have y1 := (HB.out.ext G3.out).cell 1; have y2 := (HB.out.ext G3.out).cell 2; have y3 := (HB.out.ext G3.out).cell 3; have y4 := (HB.out.ext G3.out).cell 4; have y5 := (HB.out.ext G3.out).cell 5; clear hg)
      | (go_at_call 103; (with_reducible refine (T2.out _ G3.out).mono ?_); rintro e W4 ⟨⟨v, rfl, ho⟩, hg⟩; obtain ⟨D, c, hv, -, -, hia, -⟩ := OwnL.arr kdI ho; subst hv; have HO := Lib.hid hia; have G4 := Lib.hid (G3.out.trans (hg.mono G3.out.size)); clear hg ho hia))
    obtain ⟨m, hm⟩ : ∃ m, tl.length = m := ⟨_, rfl⟩
    rw [hm] at HO HTL ⊢
    have hm120 := HTL.out
    clear y0 y1 y2 y3 y4 y5 p0 p1 p2 p3 p4 p5
    have HM := Lib.hid hm
    have TH := Lib.hid (fun x => has_any D m c tl x W4 HO.out (by omega))
    have HBY4 := Lib.hid (HBY.out.below G4.out)
    have hbl := Lib.hid HBY.out.1
    clear hm
    go_wp2_with fail
    go_loop [24] (fun i => ∃ k : Nat, i = .int .i64 k ∧ k ≤ nb ∧ ∀ j, j < k → byOk tl by_ j = true) (fun i => nb - (intOf i).toNat)
    case atStart => exact ⟨0, rfl, Nat.zero_le _, fun j hj => absurd hj (by omega)⟩
    case round =>
      obtain ⟨k, rfl, hk, hall⟩ := hrel
      have HALL := Lib.hid hall
      clear hall
      by_cases hkn : k < nb
      · obtain ⟨b0, o0, rfl, -, -, hc⟩ := ints_at HBY4.out hkn
        have d0 := hc _ (Below.refl _ _)
        obtain ⟨x, hx⟩ : ∃ x, by_.getD k 0 = x := ⟨_, rfl⟩
        rw [hx] at d0
        have HX := Lib.hid hx
        obtain ⟨ok, hok⟩ : ∃ ok, byOk tl by_ k = ok := ⟨_, rfl⟩
        have HOKK := Lib.hid hok
        clear hc hx hok
        go_upto_region 8 with fail
        go_cut [45] from 29 to 45 (fun cc wx => cc = .bool (!ok) ∧ wx = W4)
        case first =>
          obtain ⟨hs, hhs⟩ : ∃ hs, hasI tl x = hs := ⟨_, rfl⟩
          have TX := Lib.hid (show Calls Tryz.prog 109 #[.slice D m c, .int .i64 x] W4 fun e w' => e = .returned (.bool hs) ∧ W4 = w' from by rw [← hhs]; exact TH.out x)
          have HHS := Lib.hid hhs
          clear hhs
          cases hs with
          | false =>
            obtain rfl : ok = false := by rw [← HOKK.out]; exact byOk_no_has (by rw [HX.out]; exact HHS.out)
            go_wp2_with (go_at_call 109; (with_reducible refine TX.out.mono ?_); rintro e w' ⟨rfl, rfl⟩)
            go_meet
            exact ⟨rfl, rfl⟩
          | true =>
            by_cases hk0 : k = 0
            · subst hk0
              obtain rfl : ok = true := by rw [← HOKK.out]; exact byOk_first (by rw [HX.out]; exact HHS.out)
              have hd : decide ((0 : Int) < ((0 : Nat) : Int)) = false := by decide
              go_wp2_with (go_at_call 109; (with_reducible refine TX.out.mono ?_); rintro e w' ⟨rfl, rfl⟩)
              go_meet
              exact ⟨rfl, rfl⟩
            · obtain ⟨i, hi⟩ : ∃ i, k - 1 = i := ⟨_, rfl⟩
              obtain rfl : k = i + 1 := by omega
              obtain ⟨b1, o1, hbo, -, -, hc⟩ := ints_at HBY4.out (show i < nb by omega)
              cases hbo
              have d1 := hc _ (Below.refl _ _)
              obtain ⟨y, hy⟩ : ∃ y, by_.getD i 0 = y := ⟨_, rfl⟩
              rw [hy] at d1
              obtain ⟨db, hdb⟩ : ∃ db, decide (x ≤ y) = db := ⟨_, rfl⟩
              obtain rfl : ok = !db := by rw [← HOKK.out]; exact byOk_later (by rw [HX.out]; exact HHS.out) (by omega) (by rw [Nat.add_sub_cancel, HX.out, hy, hdb])
              have hd : decide ((0 : Int) < ((i + 1 : Nat) : Int)) = true := decide_eq_true (by omega)
              have hd2 : decide ((0 : Int) < (i : Int) + 1) = true := decide_eq_true (by omega)
              have e1 : ((i + 1 : Nat) : Int) - 1 = (i : Int) := by omega
              clear hc hy hi hk0
              go_wp2_with (go_at_call 109; (with_reducible refine TX.out.mono ?_); rintro e w' ⟨rfl, rfl⟩)
              go_meet
              exact ⟨by simp, rfl⟩
        case rest =>
          obtain ⟨rfl, rfl⟩ := hcut
          cases ok with
          | false =>
            have HZ := Lib.hid (show ce = 15 by rw [HE1.out, if_neg (by rw [Bool.not_eq_true]; exact all_range_no (by rw [hbl.out]; exact hkn) HOKK.out)])
            go_wp2_with fail
            go_ret
            exact ⟨by rw [HZ.out]; rfl, G1.out.trans (G4.out.mono G1.out.size)⟩
          | true =>
            go_wp2_with fail
            go_round
            case rel => exact ⟨k + 1, by go_num, by omega, fun j hj => by
              by_cases e : j = k
              · subst e; exact HOKK.out
              · exact HALL.out j (by omega)⟩
            case measure => simp [intOf]; omega
      · obtain rfl : nb = k := by omega
        have HBA := Lib.hid (show byAll tl by_ = true from all_range_yes (by rw [hbl.out]; exact HALL.out))
        have hn120 : nb ≤ 120 := by have h1 := byAll_len HBA.out; rw [hbl.out, HM.out] at h1; omega
        have T4 := Lib.hid (T3.out W4 G4.out B nb cb by_ HBY4.out (by omega))
        have HE2 := Lib.hid (show ce = (if contraB p known by_ = true then (if byLean p known by_ = true then 0 else 15) else 15) by rw [HE1.out, if_pos HBA.out])
        obtain ⟨cv, hcv⟩ : ∃ cv, contraB p known by_ = cv := ⟨_, rfl⟩
        rw [hcv] at T4 HE2
        clear hcv
        cases cv with
        | false =>
          have HZ := Lib.hid (show ce = 15 from HE2.out)
          go_wp2_with (go_at_call 104; (with_reducible refine (T4.out).mono ?_); rintro e W5 ⟨rfl, hg⟩; have G5 := Lib.hid (G4.out.trans (hg.mono G4.out.size)); clear hg)
          go_ret
          exact ⟨by rw [HZ.out]; rfl, G1.out.trans (G5.out.mono G1.out.size)⟩
        | true =>
          have HE3 := Lib.hid (show ce = (if byLean p known by_ = true then 0 else 15) from HE2.out)
          go_wp2_with (go_at_call 104; (with_reducible refine (T4.out).mono ?_); rintro e W5 ⟨rfl, hg⟩; have G5 := Lib.hid (G4.out.trans (hg.mono G4.out.size)); clear hg)
          go_loopw [53] (fun i wr => ∃ k : Nat, i = .int .i64 k ∧ k ≤ nb ∧ Below W1.heap.size W1 wr ∧ ∀ j, j < k → contraB p known (by_.eraseIdx j) = false) (fun i _ => nb - (intOf i).toNat)
          case atStart => exact ⟨0, rfl, Nat.zero_le _, G5.out, fun j hj => absurd hj (by omega)⟩
          case round =>
            obtain ⟨k, rfl, hk, hgr, hall2⟩ := hrel
            have HGR := Lib.hid hgr
            have HAL2 := Lib.hid hall2
            have HI2 := Lib.hid (HBY.out.below hgr)
            clear hgr hall2
            by_cases hkn : k < nb
            · have hxw := wrap_succ k (by omega)
              have TC := Lib.hid (cloneI_any B nb cb by_ wr HI2.out (by omega))
              go_upto_region 16 with fail
              obtain ⟨cv, hcv⟩ : ∃ cv, contraB p known (by_.eraseIdx k) = cv := ⟨_, rfl⟩
              have HCV := Lib.hid hcv
              clear hcv
              go_wp2_with (first
                | (go_at_call 106; (with_reducible refine (TC.out).mono ?_); rintro e W6 ⟨⟨v, rfl, ho⟩, hg⟩; obtain ⟨D6, c6, hv, -, -, hia, hgb⟩ := OwnL.arr kdI ho; subst hv; rw [hbl.out] at ho hia ⊢; obtain ⟨g6, o6, hD6, -, -⟩ := hia.2 (by omega); subst hD6; obtain ⟨-, hg6, rfl⟩ := hgb g6 o6 rfl; have G6 := Lib.hid (HGR.out.trans (hg.mono HGR.out.size)); have HO6 := Lib.hid ho; have HG6 := Lib.hid hg6; clear hg ho hia hgb hg6)
                | (go_at_call 105; (with_reducible refine (delInt_any _ _ _ _ _ _ _ HO6.out hkn (by omega)).mono ?_); rintro e W7 ⟨rfl, ho, hf⟩; obtain ⟨D7, c7, hv7, -, -, hia, -⟩ := OwnL.arr kdI ho; have HO7 := Lib.hid hia; have HV7 := Lib.hid hv7; have HFX := Lib.hid hf; clear ho hf hia hv7; have HI7 := Lib.hid (show Ints W7 (some ⟨g6, 0, none⟩) (nb - 1) (by_.eraseIdx k) by (have h1 := HO7.out; have h2 := HV7.out; have hl : (by_.eraseIdx k).length = nb - 1 := (by rw [List.length_eraseIdx, if_pos (by rw [hbl.out]; exact hkn), hbl.out]); rw [hl] at h1 h2; cases h2; exact h1)); have G7 := Lib.hid (show Below W1.heap.size W1 W7 from G6.out.trans (HFX.out.below (by have := HG6.out; have := HGR.out.size; omega) G6.out.size)); have T5 := Lib.hid (T3.out W7 G7.out (some ⟨g6, 0, none⟩) (nb - 1) c6 (by_.eraseIdx k) HI7.out (by omega)); rw [HCV.out] at T5)
                | (go_at_call 104; (with_reducible refine (T5.out).mono ?_); rintro e W8 ⟨rfl, hg⟩; have G8 := Lib.hid (G7.out.trans (hg.mono G7.out.size)); clear hg; cases cv))
              · have HCV2 := Lib.hid (show contraB p known (by_.eraseIdx k) = false from HCV.out)
                go_wp2_with fail
                go_roundw
                case rel => exact ⟨k + 1, by go_num, by omega, G8.out, fun j hj => by
                  by_cases e : j = k
                  · subst e; exact HCV2.out
                  · exact HAL2.out j (by omega)⟩
                case measure => simp [intOf]; omega
              · have HZ := Lib.hid (show ce = 15 by rw [HE3.out, if_neg (by rw [Bool.not_eq_true]; exact all_range_no (by rw [hbl.out]; exact hkn) (by rw [HCV.out]; rfl))])
                go_wp2_with fail
                go_ret
                exact ⟨by rw [HZ.out]; rfl, G1.out.trans (G8.out.mono G1.out.size)⟩
            · obtain rfl : nb = k := by omega
              have HZ := Lib.hid (show ce = 0 by rw [HE3.out, if_pos (show byLean p known by_ = true from all_range_yes (by rw [hbl.out]; exact fun i hi => by rw [HAL2.out i hi]; rfl))])
              go_wp2_with fail
              go_ret
              exact ⟨by rw [HZ.out]; rfl, G1.out.trans (HGR.out.mono G1.out.size)⟩
  · have HE2 := Lib.hid (show ce = fe by rw [HE.out, if_neg he])
    have hne : (fe != 0) = true := by simpa using he
    go_enter Tryz.func42, Tryz.ntmps42
    go_upto_region 1 with fail
    rw [HW1.out]
    go_wp2_with (go_at_call 80; (with_reducible refine (T.out _ HG.out HI.out).mono ?_); rintro e W3 ⟨rfl, hg⟩; have G3 := Lib.hid (HG.out.trans (hg.mono HG.out.size)); clear hg)
    go_ret
    exact ⟨by rw [HE2.out]; rfl, G1.out.trans (G3.out.mono G1.out.size)⟩
end Go.Proofs.YtkoejeghihcmlaaGreat
