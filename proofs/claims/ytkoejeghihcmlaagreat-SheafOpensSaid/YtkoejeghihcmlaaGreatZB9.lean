/- Part of the proof: VL, VQ. -/
import Derived.Test.YtkoejeghihcmlaaGreatZB0
import Derived.Test.YtkoejeghihcmlaaGreatZB1
import Derived.Test.YtkoejeghihcmlaaGreatZB2
import Derived.Test.YtkoejeghihcmlaaGreatZB7
import Derived.Test.YtkoejeghihcmlaaGreatZB8
namespace Go.Proofs.YtkoejeghihcmlaaGreat
open Go.RowKit Go.Shelf
set_option maxRecDepth 100000 in
set_option maxHeartbeats 16000000 in
theorem refMoved_any (p : Pl) (A1 A2 A3 : Option Addr) (n1 c1 n2 c2 n3 c3 : Nat) (source known : Int) (w : World) (hp : Pa w p A1 A2 A3 n1 c1 n2 c2 n3 c3) :
  Calls Tryz.prog 54 #[plv p A1 A2 A3 n1 c1 n2 c2 n3 c3, .int .i64 source, .int .i64 known] w fun e w' => (∃ D m c, e = .returned (.tuple #[.slice D m c, .int .i64 (movedE p source known)]) ∧ Ints w' D m (movedL p source known)) ∧ Below w.heap.size w w' := by
 obtain ⟨W1, hW1⟩ : ∃ W1, w.alloc (.cells (plb p A1 A2 A3 n1 c1 n2 c2 n3 c3) 38) = W1 := ⟨_, rfl⟩
 have g0 : Below w.heap.size w W1 := by rw [← hW1]; exact one_more _ _
 have b0 : Blk W1 w.heap.size 38 (plb p A1 A2 A3 n1 c1 n2 c2 n3 c3) := by rw [← hW1]; exact Blk.new _ _ _
 have T1 := refAsked_any p A1 A2 A3 n1 c1 n2 c2 n3 c3 0 known W1 (hp.below g0)
 rw [first_zero] at T1
 have HME := Lib.hid (show movedE p source known = if firstE p [] [known] = 0 then err (hasI (srcsAll p) source) 3 else firstE p [] [known] from rfl)
 have HMZ := Lib.hid (show movedE p source known ≠ 0 → movedL p source known = [] from fun h => by unfold movedL; rw [if_neg h])
 have HRM := Lib.hid (fun (h : movedE p source known = 0) => rm_moved h)
 have HFO := Lib.hid (fun h => first_ok (p := p) (hours := []) (days := [known]) h)
 obtain ⟨fe, hfe⟩ : ∃ fe, firstE p [] [known] = fe := ⟨_, rfl⟩
 obtain ⟨me, hme⟩ : ∃ x, movedE p source known = x := ⟨_, rfl⟩
 obtain ⟨ml, hml⟩ : ∃ x, movedL p source known = x := ⟨_, rfl⟩
 rw [hfe] at T1 HME HFO
 rw [hme] at HME HMZ HRM
 rw [hml] at HMZ HRM
 rw [hme, hml]
 have HT1 := Lib.hid T1
 have HPA := Lib.hid (hp.below g0)
 have HB0 := Lib.hid b0
 have GA := Lib.hid g0
 have HW1 := Lib.hid hW1
 have r0 := b0.cell 0
 have r1 := b0.cell 1
 have r2 := b0.cell 2
 have r3 := b0.cell 3
 have r4 := b0.cell 4
 have r5 := b0.cell 5
 clear T1 hp g0 b0 hW1 hfe hme hml
 by_cases hz : fe = 0
 ·subst hz
  have HOK := Lib.hid (HFO.out rfl)
  have HME2 := Lib.hid (show me = err (hasI (srcsAll p) source) 3 from HME.out)
  have HNB := Lib.hid (show n1 ≤ 1000 ∧ n2 ≤ 1000 ∧ n3 ≤ 1000 by
   have h1 := ok_parts HOK.out
   have h2 := HPA.out.l1.1
   have h3 := HPA.out.l2.1
   have h4 := HPA.out.l3.1
   omega)
  have HSA := Lib.hid (src_all p source)
  clear HME HFO
  go_enter Tryz.func54, Tryz.ntmps54
  go_upto_region 1 with fail
  rw [HW1.out]
  go_upto_region 4 with (go_at_call 101; (with_reducible refine (HT1.out).mono ?_); rintro e V ⟨rfl, hg⟩; have HG1 := Lib.hid hg; clear hg)
  have T2 := refWithoutP_any p A1 A2 A3 n1 c1 n2 c2 n3 c3 source V (HPA.out.below HG1.out) HNB.out
  rw [HSA.out] at T2
  obtain ⟨fo, hfo⟩ : ∃ b, hasI (srcsAll p) source = b := ⟨_, rfl⟩
  rw [hfo] at T2 HME2
  have HSM := Lib.hid (show ∀ h, sameAt p (withoutP p source) known h = (decide (stoodR p h known = stoodR (withoutP p source) h known) && decide (askE p [h] known = askE (withoutP p source) [h] known)) from fun _ => rfl)
  have HRK := Lib.hid (show ∀ k, rmK p source known (k + 1) = if sameAt p (withoutP p source) known (p.loads.getD k z6).b = true then rmK p source known k else putL (rmK p source known k) (p.loads.getD k z6).b from fun _ => rfl)
  have HRL := Lib.hid (rmK_len p source known)
  obtain ⟨q, hq⟩ : ∃ q, withoutP p source = q := ⟨_, rfl⟩
  rw [hq] at T2 HSM HRK
  have HT2 := Lib.hid T2
  have m0 := (HB0.out.ext HG1.out).cell 0
  have m1 := (HB0.out.ext HG1.out).cell 1
  have m2 := (HB0.out.ext HG1.out).cell 2
  have m3 := (HB0.out.ext HG1.out).cell 3
  have m4 := (HB0.out.ext HG1.out).cell 4
  have m5 := (HB0.out.ext HG1.out).cell 5
  clear T2 hfo hq r0 r1 r2 r3 r4 r5
  go_upto_region 5 with (go_at_call 125; (with_reducible refine (HT2.out).mono ?_); rintro e V3 ⟨⟨F1, a1, f1, F2, a2, f2, F3, a3, f3, rfl, hpq⟩, hg⟩; have HG3 := Lib.hid hg; have HPQ := Lib.hid hpq; clear hg hpq)
  obtain ⟨V5, hV5⟩ : ∃ X, V3.alloc (.cells (plb q F1 F2 F3 a1 f1 a2 f2 a3 f3) 38) = X := ⟨_, rfl⟩
  have g5 : Below V3.heap.size V3 V5 := by rw [← hV5]; exact one_more _ _
  have BQ := Lib.hid (show Blk V5 V3.heap.size 38 (plb q F1 F2 F3 a1 f1 a2 f2 a3 f3) by rw [← hV5]; exact Blk.new _ _ _)
  have G5 := Lib.hid (HG1.out.trans ((HG3.out.trans (g5.mono HG3.out.size)).mono HG1.out.size))
  have HPQ5 := Lib.hid (HPQ.out.below g5)
  rw [hV5]
  clear hV5 g5 m0 m1 m2 m3 m4 m5
  cases fo with
  | false =>
   have HM3 := Lib.hid (show me = 3 from HME2.out)
   have HM4 := Lib.hid (HMZ.out (by rw [HM3.out]; decide))
   go_wp2_with fail
   go_ret2
   exact ⟨⟨none, 0, 0, by rw [HM3.out]; rfl, by rw [HM4.out]; exact noNums _⟩, GA.out.trans (G5.out.mono GA.out.size)⟩
  | true =>
   have HM3 := Lib.hid (show me = 0 from HME2.out)
   have HM4 := Lib.hid (HRM.out HM3.out)
   have OS0 := Lib.hid (OwnL.nil (f := icells) (size := 1) (e := 3) V5 V5.heap.size)
   have HPA5 := Lib.hid (HPA.out.below G5.out)
   have BP5 := Lib.hid (HB0.out.ext G5.out)
   have TP := Lib.hid (fun (X : World) (h : Int) (g : Below V5.heap.size V5 X) => refStood_any p A1 A2 A3 n1 c1 n2 c2 n3 c3 h known X (HPA5.out.below g))
   have TQ := Lib.hid (fun (X : World) (h : Int) (g : Below V5.heap.size V5 X) => refStood_any q F1 F2 F3 a1 f1 a2 f2 a3 f3 h known X (HPQ5.out.below g))
   go_wp2_with fail
   go_loopw [11, 12] (fun v i wr => ∃ (k : Nat) (u : Value), u = v ∧ i = .int .i64 k ∧ k ≤ n1 ∧ Below V5.heap.size V5 wr ∧ OwnL icells 1 3 wr V5.heap.size v (rmK p source known k)) (fun _ i _ => n1 - (intOf i).toNat)
   case atStart => exact ⟨0, _, rfl, rfl, Nat.zero_le _, Below.refl _ _, OS0.out⟩
   case round =>
    obtain ⟨k, u, rfl, rfl, hk, hg, hown⟩ := hrel
    obtain ⟨wo, rfl⟩ : ∃ wo : World, wo = wr := ⟨_, rfl⟩
    have HG := Lib.hid hg
    have HO := Lib.hid hown
    have y2 := (BP5.out.ext hg).cell 2
    clear hg hown
    obtain ⟨A, c, rfl, -, -, hal, -⟩ := OwnL.arr kdI HO.out
    have HAL := Lib.hid hal
    have HRLK := Lib.hid (HRL.out k)
    obtain ⟨rl, hrl⟩ : ∃ l, (rmK p source known k).length = l := ⟨_, rfl⟩
    rw [hrl] at HAL HRLK HO ⊢
    clear hal hrl
    by_cases hkn : k < n1
    ·have hki : (k : Int) < (n1 : Int) := by omega
     obtain ⟨b0, o0, e0, -, -, hc⟩ := six_at (HPA5.out.l1) hkn
     have HC := Lib.hid (fun X g => (hc X g).2.1)
     have HRK1 := Lib.hid (HRK.out k)
     have HSM1 := Lib.hid (HSM.out (p.loads.getD k z6).b)
     obtain ⟨x, hxg⟩ : ∃ x, p.loads.getD k z6 = x := ⟨_, rfl⟩
     rw [hxg] at HC HRK1 HSM1
     subst e0
     clear hc hxg
     have hk1000 : k ≤ 1000 := by have := HNB.out; omega
     obtain ⟨ra, hra⟩ : ∃ r, stoodR p x.b known = r := ⟨_, rfl⟩
     obtain ⟨rb, hrb⟩ : ∃ r, stoodR q x.b known = r := ⟨_, rfl⟩
     obtain ⟨ea, hea⟩ : ∃ r, askE p [x.b] known = r := ⟨_, rfl⟩
     obtain ⟨eb, heb⟩ : ∃ r, askE q [x.b] known = r := ⟨_, rfl⟩
     rw [hra, hrb, hea, heb] at HSM1
     have HTP := Lib.hid (fun (X : World) (g : Below wo.heap.size wo X) => show Calls Tryz.prog 56 #[plv p (some ⟨b0, o0, none⟩) A2 A3 n1 c1 n2 c2 n3 c3, .int .i64 x.b, .int .i64 known] X fun e w' => e = .returned (.tuple #[rv ra, .int .i64 ea]) ∧ Below X.heap.size X w' from by
      have h := TP.out X x.b (HG.out.trans (g.mono HG.out.size))
      rwa [hra, hea] at h)
     have HTQ := Lib.hid (fun (X : World) (g : Below V5.heap.size V5 X) => show Calls Tryz.prog 56 #[plv q F1 F2 F3 a1 f1 a2 f2 a3 f3, .int .i64 x.b, .int .i64 known] X fun e w' => e = .returned (.tuple #[rv rb, .int .i64 eb]) ∧ Below X.heap.size X w' from by
      have h := TQ.out X x.b g
      rwa [hrb, heb] at h)
     clear hra hrb hea heb
     go_upto_region 11 with fail
     clear y2
     have HKK := Lib.hid (fun X (g : Below wo.heap.size wo X) => (⟨(BP5.out.ext (HG.out.trans (g.mono HG.out.size))).cell 0, (BP5.out.ext (HG.out.trans (g.mono HG.out.size))).cell 1, (BP5.out.ext (HG.out.trans (g.mono HG.out.size))).cell 2, (BP5.out.ext (HG.out.trans (g.mono HG.out.size))).cell 3, (BP5.out.ext (HG.out.trans (g.mono HG.out.size))).cell 4, (BP5.out.ext (HG.out.trans (g.mono HG.out.size))).cell 5, (BP5.out.ext (HG.out.trans (g.mono HG.out.size))).cell 2, HC.out X (HG.out.trans (g.mono HG.out.size))⟩ : X.cell? ⟨w.heap.size, 0, none⟩ = some (.int .i64 p.lo) ∧ X.cell? ⟨w.heap.size, 1, none⟩ = some (.int .i64 p.hi) ∧ X.cell? ⟨w.heap.size, 2, none⟩ = some (.slice (some ⟨b0, o0, none⟩) n1 c1) ∧ X.cell? ⟨w.heap.size, 3, none⟩ = some (.slice A2 n2 c2) ∧ X.cell? ⟨w.heap.size, 4, none⟩ = some (.slice A3 n3 c3) ∧ X.cell? ⟨w.heap.size, 5, none⟩ = some (.int .i64 p.geese) ∧ X.cell? ⟨w.heap.size, 2, none⟩ = some (.slice (some ⟨b0, o0, none⟩) n1 c1) ∧ X.cell? ⟨b0, o0 + k * 6 + 1, none⟩ = some (.int .i64 x.b)))
     obtain ⟨k0, k1, k2, k3, k4, k5, k6, k7⟩ := HKK.out wo (Below.refl _ _)
     go_cut [13, 14] from 38 to 49 (fun s13 s14 wx => ∃ b13, s13 = .pointer (some ⟨b13, 0, none⟩) ∧ s14 = .int .i64 ea ∧ Below wo.heap.size wo wx ∧ Blk wx b13 33 #[.int .i64 ra.lo, .int .i64 ra.hi])
     case first =>
      go_region_held3 (fun X => X.cell? ⟨w.heap.size, 0, none⟩ = some (.int .i64 p.lo) ∧ X.cell? ⟨w.heap.size, 1, none⟩ = some (.int .i64 p.hi) ∧ X.cell? ⟨w.heap.size, 2, none⟩ = some (.slice (some ⟨b0, o0, none⟩) n1 c1) ∧ X.cell? ⟨w.heap.size, 3, none⟩ = some (.slice A2 n2 c2) ∧ X.cell? ⟨w.heap.size, 4, none⟩ = some (.slice A3 n3 c3) ∧ X.cell? ⟨w.heap.size, 5, none⟩ = some (.int .i64 p.geese) ∧ X.cell? ⟨w.heap.size, 2, none⟩ = some (.slice (some ⟨b0, o0, none⟩) n1 c1) ∧ X.cell? ⟨b0, o0 + k * 6 + 1, none⟩ = some (.int .i64 x.b))
       (first | (with_reducible exact HKK.out _ (Below.refl _ _)) | exact HKK.out _ (by exact (Below.refl _ _).drew) | exact HKK.out _ (by exact (one_more wo _).drew) | (with_reducible exact HKK.out _ G79.out) | exact HKK.out _ (G79.out.alloc G79.out.size _) | exact HKK.out _ ((G79.out.setCell (p := ⟨wo.heap.size, 0, none⟩) (Nat.le_refl _) _).setCell (p := ⟨wo.heap.size, 1, none⟩) (Nat.le_refl _) _))
       (first
       | (go_at_call 56; (with_reducible refine ((HTP).out _ (Below.refl _ _).drew).mono ?_); rintro e W8 ⟨rfl, g79⟩; have G79 := Lib.hid (show Below wo.heap.size wo W8 from ((Below.refl _ _).drew).trans (g79.mono (Nat.le_refl _))); clear g79)
       | (go_at_call 56; (with_reducible refine ((HTP).out _ ((one_more wo (.cells #[.int .i64 0, .int .i64 0] 33)).drew)).mono ?_); rintro e W8 ⟨rfl, g79⟩; have G79 := Lib.hid (show Below wo.heap.size wo W8 from ((one_more wo (.cells #[.int .i64 0, .int .i64 0] 33)).drew).trans (g79.mono (by simp))); have B79 := Lib.hid (show Blk W8 wo.heap.size 33 #[.int .i64 0, .int .i64 0] from Blk.ext (w := (wo.alloc (.cells #[.int .i64 0, .int .i64 0] 33)).drew) (Blk.new wo 33 #[.int .i64 0, .int .i64 0]) g79); clear g79; have j3 := B79.out.cell 0; have j4 := B79.out.cell 1; have j5 := B79.out.frozen 0; have j6 := B79.out.frozen 1))
      all_goals (try go_wp2_with fail)
      all_goals go_meet
      all_goals first
       | exact ⟨_, rfl, rfl, G79.out.alloc G79.out.size _, Blk.new _ _ _⟩
       | exact ⟨_, rfl, rfl, ((G79.out.setCell (p := ⟨wo.heap.size, 0, none⟩) (Nat.le_refl _) _).setCell (p := ⟨wo.heap.size, 1, none⟩) (Nat.le_refl _) _), (B79.out.set_ 0 _).set_ 1 _⟩
     case rest =>
      obtain ⟨b13, rfl, rfl, hg, hb⟩ := hcut
      rename World => W9
      have GG := Lib.hid (HG.out.trans (hg.mono HG.out.size))
      have HBA := Lib.hid hb
      have HO9 := Lib.hid (HO.out.ext hg)
      clear hg hb HKK k0 k1 k2 k3 k4 k5 k6 k7
      obtain ⟨wo, hwo⟩ : ∃ V : World, W9 = V := ⟨_, rfl⟩
      rw [hwo] at GG HBA HO9 ⊢
      clear hwo
      have HTQ2 := Lib.hid (fun (X : World) (g : Below wo.heap.size wo X) => HTQ.out X (GG.out.trans (g.mono GG.out.size)))
      go_upto_region 12 with fail
      have HKK := Lib.hid (fun X (g : Below wo.heap.size wo X) => (⟨(BQ.out.ext (GG.out.trans (g.mono GG.out.size))).cell 0, (BQ.out.ext (GG.out.trans (g.mono GG.out.size))).cell 1, (BQ.out.ext (GG.out.trans (g.mono GG.out.size))).cell 2, (BQ.out.ext (GG.out.trans (g.mono GG.out.size))).cell 3, (BQ.out.ext (GG.out.trans (g.mono GG.out.size))).cell 4, (BQ.out.ext (GG.out.trans (g.mono GG.out.size))).cell 5, (BP5.out.ext (GG.out.trans (g.mono GG.out.size))).cell 2, HC.out X (GG.out.trans (g.mono GG.out.size))⟩ : X.cell? ⟨V3.heap.size, 0, none⟩ = some (.int .i64 q.lo) ∧ X.cell? ⟨V3.heap.size, 1, none⟩ = some (.int .i64 q.hi) ∧ X.cell? ⟨V3.heap.size, 2, none⟩ = some (.slice F1 a1 f1) ∧ X.cell? ⟨V3.heap.size, 3, none⟩ = some (.slice F2 a2 f2) ∧ X.cell? ⟨V3.heap.size, 4, none⟩ = some (.slice F3 a3 f3) ∧ X.cell? ⟨V3.heap.size, 5, none⟩ = some (.int .i64 q.geese) ∧ X.cell? ⟨w.heap.size, 2, none⟩ = some (.slice (some ⟨b0, o0, none⟩) n1 c1) ∧ X.cell? ⟨b0, o0 + k * 6 + 1, none⟩ = some (.int .i64 x.b)))
      obtain ⟨k0, k1, k2, k3, k4, k5, k6, k7⟩ := HKK.out wo (Below.refl _ _)
      go_cut [15, 16] from 50 to 61 (fun s13 s14 wx => ∃ b13, s13 = .pointer (some ⟨b13, 0, none⟩) ∧ s14 = .int .i64 eb ∧ Below wo.heap.size wo wx ∧ Blk wx b13 33 #[.int .i64 rb.lo, .int .i64 rb.hi])
      case first =>
       go_region_held3 (fun X => X.cell? ⟨V3.heap.size, 0, none⟩ = some (.int .i64 q.lo) ∧ X.cell? ⟨V3.heap.size, 1, none⟩ = some (.int .i64 q.hi) ∧ X.cell? ⟨V3.heap.size, 2, none⟩ = some (.slice F1 a1 f1) ∧ X.cell? ⟨V3.heap.size, 3, none⟩ = some (.slice F2 a2 f2) ∧ X.cell? ⟨V3.heap.size, 4, none⟩ = some (.slice F3 a3 f3) ∧ X.cell? ⟨V3.heap.size, 5, none⟩ = some (.int .i64 q.geese) ∧ X.cell? ⟨w.heap.size, 2, none⟩ = some (.slice (some ⟨b0, o0, none⟩) n1 c1) ∧ X.cell? ⟨b0, o0 + k * 6 + 1, none⟩ = some (.int .i64 x.b))
        (first | (with_reducible exact HKK.out _ (Below.refl _ _)) | exact HKK.out _ (by exact (Below.refl _ _).drew) | exact HKK.out _ (by exact (one_more wo _).drew) | (with_reducible exact HKK.out _ G79.out) | exact HKK.out _ (G79.out.alloc G79.out.size _) | exact HKK.out _ ((G79.out.setCell (p := ⟨wo.heap.size, 0, none⟩) (Nat.le_refl _) _).setCell (p := ⟨wo.heap.size, 1, none⟩) (Nat.le_refl _) _))
        (first
        | (go_at_call 56; (with_reducible refine ((HTQ2).out _ (Below.refl _ _).drew).mono ?_); rintro e W8 ⟨rfl, g79⟩; have G79 := Lib.hid (show Below wo.heap.size wo W8 from ((Below.refl _ _).drew).trans (g79.mono (Nat.le_refl _))); clear g79)
        | (go_at_call 56; (with_reducible refine ((HTQ2).out _ ((one_more wo (.cells #[.int .i64 0, .int .i64 0] 33)).drew)).mono ?_); rintro e W8 ⟨rfl, g79⟩; have G79 := Lib.hid (show Below wo.heap.size wo W8 from ((one_more wo (.cells #[.int .i64 0, .int .i64 0] 33)).drew).trans (g79.mono (by simp))); have B79 := Lib.hid (show Blk W8 wo.heap.size 33 #[.int .i64 0, .int .i64 0] from Blk.ext (w := (wo.alloc (.cells #[.int .i64 0, .int .i64 0] 33)).drew) (Blk.new wo 33 #[.int .i64 0, .int .i64 0]) g79); clear g79; have j3 := B79.out.cell 0; have j4 := B79.out.cell 1; have j5 := B79.out.frozen 0; have j6 := B79.out.frozen 1))
       all_goals (try go_wp2_with fail)
       all_goals go_meet
       all_goals first
        | exact ⟨_, rfl, rfl, G79.out.alloc G79.out.size _, Blk.new _ _ _⟩
        | exact ⟨_, rfl, rfl, ((G79.out.setCell (p := ⟨wo.heap.size, 0, none⟩) (Nat.le_refl _) _).setCell (p := ⟨wo.heap.size, 1, none⟩) (Nat.le_refl _) _), (B79.out.set_ 0 _).set_ 1 _⟩
      case rest =>
       obtain ⟨b15, rfl, rfl, hg, hb⟩ := hcut
       rename World => W9
       have G9 := Lib.hid (GG.out.trans (hg.mono GG.out.size))
       have hba := HBA.out.ext hg
       have v0 := hba.cell 0
       have v1 := hba.cell 1
       have u0 := hb.cell 0
       have u1 := hb.cell 1
       have HO10 := Lib.hid (HO9.out.ext hg)
       have HAL10 := Lib.hid ((HO9.out.ext hg))
       have z2 := (BP5.out.ext G9.out).cell 2
       have zb := HC.out _ G9.out
       clear hg hb hba k0 k1 k2 k3 k4 k5 k6 k7 HKK
       obtain ⟨A', c', hve', -, -, hal', -⟩ := OwnL.arr kdI HO10.out
       have HTPUT := Lib.hid (refPut_any A rl c (rmK p source known k) x.b W9 (by
        cases hve'
        exact hal') (by have := HRLK.out; omega))
       clear hal' hve'
       by_cases hr : ra = rb
       ·have hnr : ∀ W, (binOp .neq 33 (.agg #[.int .i64 ra.lo, .int .i64 ra.hi]) (.agg #[.int .i64 rb.lo, .int .i64 rb.hi])).run Tryz.prog W = .ok (.bool false) W := fun W => by rw [neqRg, decide_eq_true hr]; rfl
        by_cases he : ea = eb
        ·have hed : (ea != eb) = false := by simp [he]
         have HNX := Lib.hid (show rmK p source known (k + 1) = rmK p source known k by rw [HRK1.out, HSM1.out, decide_eq_true hr, decide_eq_true he]; rfl)
         clear hr he
         go_wp2_with fail
         go_roundw
         case rel => exact ⟨k + 1, _, rfl, by go_num, by omega, G9.out, by rw [HNX.out]; exact HO10.out⟩
         case measure => simp [intOf]; omega
        ·have hed : (ea != eb) = true := by simpa using he
         have HNX := Lib.hid (show rmK p source known (k + 1) = putL (rmK p source known k) x.b by rw [HRK1.out, HSM1.out, decide_eq_true hr, decide_eq_false he]; rfl)
         clear hr he
         go_wp2_with (go_at_call 126; (with_reducible refine (HTPUT.out).mono ?_); rintro e W10 ⟨⟨vv, rfl, hoo⟩, hg⟩; have HG10 := Lib.hid hg; have HOO := Lib.hid hoo; clear hg hoo)
         go_roundw
         case rel => exact ⟨k + 1, _, rfl, by go_num, by omega, G9.out.trans (HG10.out.mono G9.out.size), by rw [HNX.out]; exact HOO.out.mono G9.out.size⟩
         case measure => simp [intOf]; omega
       ·have hnr : ∀ W, (binOp .neq 33 (.agg #[.int .i64 ra.lo, .int .i64 ra.hi]) (.agg #[.int .i64 rb.lo, .int .i64 rb.hi])).run Tryz.prog W = .ok (.bool true) W := fun W => by rw [neqRg, decide_eq_false hr]; rfl
        have HNX := Lib.hid (show rmK p source known (k + 1) = putL (rmK p source known k) x.b by rw [HRK1.out, HSM1.out, decide_eq_false hr]; rfl)
        clear hr
        go_wp2_with (go_at_call 126; (with_reducible refine (HTPUT.out).mono ?_); rintro e W10 ⟨⟨vv, rfl, hoo⟩, hg⟩; have HG10 := Lib.hid hg; have HOO := Lib.hid hoo; clear hg hoo)
        go_roundw
        case rel => exact ⟨k + 1, _, rfl, by go_num, by omega, G9.out.trans (HG10.out.mono G9.out.size), by rw [HNX.out]; exact HOO.out.mono G9.out.size⟩
        case measure => simp [intOf]; omega
    ·obtain rfl : n1 = k := by omega
     have HLP := Lib.hid (show p.loads.length = n1 from HPA.out.l1.1)
     have HEND := Lib.hid (show ml = rmK p source known n1 by rw [← HM4.out, HLP.out])
     go_wp2_with fail
     go_ret2
     exact ⟨⟨A, rl, c, by rw [HM3.out]; rfl, by rw [HEND.out]; exact HAL.out⟩, GA.out.trans ((G5.out.trans (HG.out.mono G5.out.size)).mono GA.out.size)⟩
 ·have HME2 := Lib.hid (show me = fe by rw [HME.out, if_neg hz])
  have HM4 := Lib.hid (HMZ.out (by rw [HME2.out]; exact hz))
  have hz2 : (fe != 0) = true := by simpa using hz
  clear hz HME HFO HMZ HRM
  go_enter Tryz.func54, Tryz.ntmps54
  go_upto_region 1 with fail
  rw [HW1.out]
  go_wp2_with (go_at_call 101; (with_reducible refine (HT1.out).mono ?_); rintro e V ⟨rfl, hg⟩; have HG1 := Lib.hid hg; clear hg)
  go_ret2
  exact ⟨⟨none, 0, 0, by rw [HME2.out]; rfl, by rw [HM4.out]; exact noNums _⟩, GA.out.trans (HG1.out.mono GA.out.size)⟩
end Go.Proofs.YtkoejeghihcmlaaGreat

namespace Go.Proofs.YtkoejeghihcmlaaGreat
open Go.RowKit Go.Shelf
theorem moved_short (p : Pl) (source known : Int) : (movedL p source known).length ≤ 60 := by
 unfold movedL
 split
 ·rename_i h
  have h1 : firstE p [] [known] = 0 := by
   unfold movedE at h
   by_cases e : firstE p [] [known] = 0
   ·exact e
   ·rw [if_neg e] at h; exact absurd h e
  have h2 := (ok_parts (first_ok h1)).2.2.2.2.2.1
  refine Nat.le_trans (List.length_filter_le _ _) ?_
  unfold hoursL
  refine Nat.le_trans (compact_sub _).length_le ?_
  rw [show ∀ l : List Int, (srt l).length = l.length from fun l => by unfold srt; exact List.length_mergeSort l]
  unfold colL
  rw [List.length_map]
  exact Nat.le_trans (List.length_filter_le _ _) h2
 ·simp
theorem eqlRg_same (r : Rg) (w : World) : (binOp .eql 33 (.agg #[.int .i64 r.lo, .int .i64 r.hi]) (.agg #[.int .i64 r.lo, .int .i64 r.hi])).run Tryz.prog w = .ok (.bool true) w := by rw [eqlRg, decide_eq_true rfl]
set_option maxRecDepth 100000 in
set_option maxHeartbeats 16000000 in
theorem law8_any (p : Pl) (A1 A2 A3 : Option Addr) (n1 c1 n2 c2 n3 c3 : Nat) (sown : Int) (N : Option Addr) (nn cn : Nat) (ns : List Int) (hour source known : Int) (w : World) (hp : Pa w p A1 A2 A3 n1 c1 n2 c2 n3 c3) (hns : Ints w N nn ns) (hI : ∀ x ∈ ns, I64 x) (hnn : nn ≤ cn) (hcn : cn ≤ 9223372036854775807) :
  Calls Tryz.prog 8 #[plv p A1 A2 A3 n1 c1 n2 c2 n3 c3, .agg #[.int .i64 sown, .slice N nn cn, .int .i64 hour, .int .i64 source, .int .i64 known]] w fun e w' => e = .returned (.bool true) ∧ Below w.heap.size w w' := by
 obtain ⟨W1, hW1⟩ : ∃ W1, (w.alloc (.cells (plb p A1 A2 A3 n1 c1 n2 c2 n3 c3) 38)).alloc (.cells #[.int .i64 sown, .slice N nn cn, .int .i64 hour, .int .i64 source, .int .i64 known] 114) = W1 := ⟨_, rfl⟩
 have G1 := Lib.hid (show Below w.heap.size w W1 by rw [← hW1]; exact two_more _ _ _)
 have BP := Lib.hid (show Blk W1 w.heap.size 38 (plb p A1 A2 A3 n1 c1 n2 c2 n3 c3) by rw [← hW1]; exact (Blk.new _ _ _).alloc _)
 have BQ := Lib.hid (show Blk W1 (w.heap.size + 1) 114 #[.int .i64 sown, .slice N nn cn, .int .i64 hour, .int .i64 source, .int .i64 known] by
  rw [← hW1]
  have := Blk.new (w.alloc (.cells (plb p A1 A2 A3 n1 c1 n2 c2 n3 c3) 38)) 114 #[.int .i64 sown, .slice N nn cn, .int .i64 hour, .int .i64 source, .int .i64 known]
  rwa [World.size_alloc] at this)
 have HPA := Lib.hid (hp.below G1.out)
 have HNS := Lib.hid (hns.below G1.out)
 have HW1 := Lib.hid hW1
 have hnn2 : nn ≤ 9223372036854775807 := by omega
 have S0 := fun W (h : Pa W p A1 A2 A3 n1 c1 n2 c2 n3 c3) => clearQ_any p A1 A2 A3 n1 c1 n2 c2 n3 c3 hour known W h
 have S1 := fun W (h : Pa W p A1 A2 A3 n1 c1 n2 c2 n3 c3) => refClear_any p A1 A2 A3 n1 c1 n2 c2 n3 c3 hour known W h
 have S2 := fun W (h : Pa W p A1 A2 A3 n1 c1 n2 c2 n3 c3) => first'Q_any p A1 A2 A3 n1 c1 n2 c2 n3 c3 known W h
 have S3 := fun W (h : Pa W p A1 A2 A3 n1 c1 n2 c2 n3 c3) => refFirst_any p A1 A2 A3 n1 c1 n2 c2 n3 c3 known W h
 have S4 := fun W (h : Pa W p A1 A2 A3 n1 c1 n2 c2 n3 c3) => shutQ_any p A1 A2 A3 n1 c1 n2 c2 n3 c3 hour known W h
 have S5 := fun W (h : Pa W p A1 A2 A3 n1 c1 n2 c2 n3 c3) => refShut_any p A1 A2 A3 n1 c1 n2 c2 n3 c3 hour known W h
 have S6 := fun W (h : Pa W p A1 A2 A3 n1 c1 n2 c2 n3 c3) => openQ_any p A1 A2 A3 n1 c1 n2 c2 n3 c3 hour known W h
 have S7 := fun W (h : Pa W p A1 A2 A3 n1 c1 n2 c2 n3 c3) => refOpen_any p A1 A2 A3 n1 c1 n2 c2 n3 c3 hour known W h
 have S8 := fun W (h : Pa W p A1 A2 A3 n1 c1 n2 c2 n3 c3) (h2 : Ints W N nn ns) => trulyQ_any p A1 A2 A3 n1 c1 n2 c2 n3 c3 hour known N nn cn ns sown W h h2 hI hnn2
 have S9 := fun W (h : Pa W p A1 A2 A3 n1 c1 n2 c2 n3 c3) (h2 : Ints W N nn ns) => refTruly_any p A1 A2 A3 n1 c1 n2 c2 n3 c3 hour known N nn cn ns sown W h h2 hI hnn2
 have S10 := fun W (h : Pa W p A1 A2 A3 n1 c1 n2 c2 n3 c3) => movedQ_any p A1 A2 A3 n1 c1 n2 c2 n3 c3 source known W h
 have S11 := fun W (h : Pa W p A1 A2 A3 n1 c1 n2 c2 n3 c3) => refMoved_any p A1 A2 A3 n1 c1 n2 c2 n3 c3 source known W h
 have HTE := Lib.hid (show ∀ (W : World) (e : Ending) (W' : World), TEnd p hour known sown ns W e W' ↔ (e = .returned (.tuple #[.bool (trulyR p hour known sown ns), .int .i64 (leftE p [hour] known sown ns)]) ∧ Below W.heap.size W W') from fun _ _ _ => Iff.rfl)
 have hsh := moved_short p source known
 obtain ⟨cl, ecl⟩ : ∃ s, clearA p hour known = s := ⟨_, rfl⟩
 obtain ⟨ah, eah⟩ : ∃ s, askE p [hour] known = s := ⟨_, rfl⟩
 obtain ⟨fr, efr⟩ : ∃ s, firstR p known = s := ⟨_, rfl⟩
 obtain ⟨a0, ea0⟩ : ∃ s, askE p [0] known = s := ⟨_, rfl⟩
 obtain ⟨sh, esh⟩ : ∃ s, shutV p hour known = s := ⟨_, rfl⟩
 obtain ⟨fh, efh⟩ : ∃ s, firstE p [hour] [known] = s := ⟨_, rfl⟩
 obtain ⟨op, eop⟩ : ∃ s, openA p hour known = s := ⟨_, rfl⟩
 obtain ⟨tr, etr⟩ : ∃ s, trulyR p hour known sown ns = s := ⟨_, rfl⟩
 obtain ⟨le, ele⟩ : ∃ s, leftE p [hour] known sown ns = s := ⟨_, rfl⟩
 obtain ⟨ml, eml⟩ : ∃ s, movedL p source known = s := ⟨_, rfl⟩
 obtain ⟨me, eme⟩ : ∃ s, movedE p source known = s := ⟨_, rfl⟩
 rw [ecl, eah] at S0
 rw [ecl, eah] at S1
 rw [efr, ea0] at S2
 rw [efr, ea0] at S3
 rw [esh, efh] at S4
 rw [esh, efh] at S5
 rw [eop, eah] at S6
 rw [eop, eah] at S7
 rw [etr, ele] at S9
 rw [eml, eme] at S10
 rw [eml, eme] at S11
 rw [etr, ele] at HTE
 rw [eml] at hsh
 have T0 := Lib.hid S0
 have T1 := Lib.hid S1
 have T2 := Lib.hid S2
 have T3 := Lib.hid S3
 have T4 := Lib.hid S4
 have T5 := Lib.hid S5
 have T6 := Lib.hid S6
 have T7 := Lib.hid S7
 have T8 := Lib.hid S8
 have T9 := Lib.hid S9
 have T10 := Lib.hid S10
 have T11 := Lib.hid S11
 have HSH := Lib.hid hsh
 clear S0 S1 S2 S3 S4 S5 S6 S7 S8 S9 S10 S11 ecl eah efr ea0 esh efh eop etr ele eml eme hp hns hW1 hI hsh
 go_enter Tryz.func8, Tryz.ntmps8
 go_upto_region 1 with fail
 rw [HW1.out]
 go_upto_region 2 with (go_at_call 34; (with_reducible refine (sane_any _).mono ?_); rintro e V1 ⟨rfl, hg⟩)
 have G2 := Lib.hid (G1.out.trans (hg.mono G1.out.size))
 have BP := Lib.hid (BP.out.ext hg)
 have BQ := Lib.hid (BQ.out.ext hg)
 have HPA := Lib.hid (HPA.out.below hg)
 have HNS := Lib.hid (HNS.out.below hg)
 clear hg
 have k0 := BP.out.cell 0
 have k1 := BP.out.cell 1
 have k2 := BP.out.cell 2
 have k3 := BP.out.cell 3
 have k4 := BP.out.cell 4
 have k5 := BP.out.cell 5
 have h0 := BQ.out.cell 0
 have h1 := BQ.out.cell 1
 have h2 := BQ.out.cell 2
 have h3 := BQ.out.cell 3
 have h4 := BQ.out.cell 4
 go_upto_region 3 with (go_at_call 36; (with_reducible refine (T0.out _ HPA.out).mono ?_); rintro e U0 ⟨rfl, hg⟩)
 clear k0 k1 k2 k3 k4 k5 h0 h1 h2 h3 h4
 have G3 := Lib.hid (G2.out.trans (hg.mono G2.out.size))
 have BP := Lib.hid (BP.out.ext hg)
 have BQ := Lib.hid (BQ.out.ext hg)
 have HPA := Lib.hid (HPA.out.below hg)
 have HNS := Lib.hid (HNS.out.below hg)
 clear hg
 have k0 := BP.out.cell 0
 have k1 := BP.out.cell 1
 have k2 := BP.out.cell 2
 have k3 := BP.out.cell 3
 have k4 := BP.out.cell 4
 have k5 := BP.out.cell 5
 have h0 := BQ.out.cell 0
 have h1 := BQ.out.cell 1
 have h2 := BQ.out.cell 2
 have h3 := BQ.out.cell 3
 have h4 := BQ.out.cell 4
 go_upto_region 4 with (go_at_call 48; (with_reducible refine (T1.out _ HPA.out).mono ?_); rintro e U1 ⟨rfl, hg⟩)
 clear k0 k1 k2 k3 k4 k5 h0 h1 h2 h3 h4
 have G4 := Lib.hid (G3.out.trans (hg.mono G3.out.size))
 have BP := Lib.hid (BP.out.ext hg)
 have BQ := Lib.hid (BQ.out.ext hg)
 have HPA := Lib.hid (HPA.out.below hg)
 have HNS := Lib.hid (HNS.out.below hg)
 clear hg
 have k0 := BP.out.cell 0
 have k1 := BP.out.cell 1
 have k2 := BP.out.cell 2
 have k3 := BP.out.cell 3
 have k4 := BP.out.cell 4
 have k5 := BP.out.cell 5
 have h0 := BQ.out.cell 0
 have h1 := BQ.out.cell 1
 have h2 := BQ.out.cell 2
 have h3 := BQ.out.cell 3
 have h4 := BQ.out.cell 4
 go_upto_region 5 with (go_at_call 23; (with_reducible refine (T2.out _ HPA.out).mono ?_); rintro e U2 ⟨rfl, hg⟩)
 clear k0 k1 k2 k3 k4 k5 h0 h1 h2 h3 h4
 have G5 := Lib.hid (G4.out.trans (hg.mono G4.out.size))
 have BP := Lib.hid (BP.out.ext hg)
 have BQ := Lib.hid (BQ.out.ext hg)
 have HPA := Lib.hid (HPA.out.below hg)
 have HNS := Lib.hid (HNS.out.below hg)
 clear hg
 obtain ⟨X6, hX6⟩ : ∃ X, U2.alloc (.cells #[.int .i64 fr.lo, .int .i64 fr.hi] 33) = X := ⟨_, rfl⟩
 have hg : Below U2.heap.size U2 X6 := by rw [← hX6]; exact one_more _ _
 have BA := Lib.hid (show Blk X6 U2.heap.size 33 #[.int .i64 fr.lo, .int .i64 fr.hi] by rw [← hX6]; exact Blk.new _ _ _)
 rw [hX6]
 clear hX6
 have G6 := Lib.hid (G5.out.trans (hg.mono G5.out.size))
 have BP := Lib.hid (BP.out.ext hg)
 have BQ := Lib.hid (BQ.out.ext hg)
 have HPA := Lib.hid (HPA.out.below hg)
 have HNS := Lib.hid (HNS.out.below hg)
 clear hg
 have k0 := BP.out.cell 0
 have k1 := BP.out.cell 1
 have k2 := BP.out.cell 2
 have k3 := BP.out.cell 3
 have k4 := BP.out.cell 4
 have k5 := BP.out.cell 5
 have h0 := BQ.out.cell 0
 have h1 := BQ.out.cell 1
 have h2 := BQ.out.cell 2
 have h3 := BQ.out.cell 3
 have h4 := BQ.out.cell 4
 go_upto_region 6 with (go_at_call 49; (with_reducible refine (T3.out _ HPA.out).mono ?_); rintro e U3 ⟨rfl, hg⟩)
 clear k0 k1 k2 k3 k4 k5 h0 h1 h2 h3 h4
 have G7 := Lib.hid (G6.out.trans (hg.mono G6.out.size))
 have BP := Lib.hid (BP.out.ext hg)
 have BQ := Lib.hid (BQ.out.ext hg)
 have BA := Lib.hid (BA.out.ext hg)
 have HPA := Lib.hid (HPA.out.below hg)
 have HNS := Lib.hid (HNS.out.below hg)
 clear hg
 obtain ⟨X8, hX8⟩ : ∃ X, U3.alloc (.cells #[.int .i64 fr.lo, .int .i64 fr.hi] 33) = X := ⟨_, rfl⟩
 have hg : Below U3.heap.size U3 X8 := by rw [← hX8]; exact one_more _ _
 have BB := Lib.hid (show Blk X8 U3.heap.size 33 #[.int .i64 fr.lo, .int .i64 fr.hi] by rw [← hX8]; exact Blk.new _ _ _)
 rw [hX8]
 clear hX8
 have G8 := Lib.hid (G7.out.trans (hg.mono G7.out.size))
 have BP := Lib.hid (BP.out.ext hg)
 have BQ := Lib.hid (BQ.out.ext hg)
 have BA := Lib.hid (BA.out.ext hg)
 have HPA := Lib.hid (HPA.out.below hg)
 have HNS := Lib.hid (HNS.out.below hg)
 clear hg
 have k0 := BP.out.cell 0
 have k1 := BP.out.cell 1
 have k2 := BP.out.cell 2
 have k3 := BP.out.cell 3
 have k4 := BP.out.cell 4
 have k5 := BP.out.cell 5
 have h0 := BQ.out.cell 0
 have h1 := BQ.out.cell 1
 have h2 := BQ.out.cell 2
 have h3 := BQ.out.cell 3
 have h4 := BQ.out.cell 4
 go_upto_region 7 with (go_at_call 20; (with_reducible refine (T4.out _ HPA.out).mono ?_); rintro e U4 ⟨rfl, hg⟩)
 clear k0 k1 k2 k3 k4 k5 h0 h1 h2 h3 h4
 have G9 := Lib.hid (G8.out.trans (hg.mono G8.out.size))
 have BP := Lib.hid (BP.out.ext hg)
 have BQ := Lib.hid (BQ.out.ext hg)
 have BA := Lib.hid (BA.out.ext hg)
 have BB := Lib.hid (BB.out.ext hg)
 have HPA := Lib.hid (HPA.out.below hg)
 have HNS := Lib.hid (HNS.out.below hg)
 clear hg
 have k0 := BP.out.cell 0
 have k1 := BP.out.cell 1
 have k2 := BP.out.cell 2
 have k3 := BP.out.cell 3
 have k4 := BP.out.cell 4
 have k5 := BP.out.cell 5
 have h0 := BQ.out.cell 0
 have h1 := BQ.out.cell 1
 have h2 := BQ.out.cell 2
 have h3 := BQ.out.cell 3
 have h4 := BQ.out.cell 4
 go_upto_region 8 with (go_at_call 50; (with_reducible refine (T5.out _ HPA.out).mono ?_); rintro e U5 ⟨rfl, hg⟩)
 clear k0 k1 k2 k3 k4 k5 h0 h1 h2 h3 h4
 have G10 := Lib.hid (G9.out.trans (hg.mono G9.out.size))
 have BP := Lib.hid (BP.out.ext hg)
 have BQ := Lib.hid (BQ.out.ext hg)
 have BA := Lib.hid (BA.out.ext hg)
 have BB := Lib.hid (BB.out.ext hg)
 have HPA := Lib.hid (HPA.out.below hg)
 have HNS := Lib.hid (HNS.out.below hg)
 clear hg
 have k0 := BP.out.cell 0
 have k1 := BP.out.cell 1
 have k2 := BP.out.cell 2
 have k3 := BP.out.cell 3
 have k4 := BP.out.cell 4
 have k5 := BP.out.cell 5
 have h0 := BQ.out.cell 0
 have h1 := BQ.out.cell 1
 have h2 := BQ.out.cell 2
 have h3 := BQ.out.cell 3
 have h4 := BQ.out.cell 4
 go_upto_region 9 with (go_at_call 18; (with_reducible refine (T6.out _ HPA.out).mono ?_); rintro e U6 ⟨rfl, hg⟩)
 clear k0 k1 k2 k3 k4 k5 h0 h1 h2 h3 h4
 have G11 := Lib.hid (G10.out.trans (hg.mono G10.out.size))
 have BP := Lib.hid (BP.out.ext hg)
 have BQ := Lib.hid (BQ.out.ext hg)
 have BA := Lib.hid (BA.out.ext hg)
 have BB := Lib.hid (BB.out.ext hg)
 have HPA := Lib.hid (HPA.out.below hg)
 have HNS := Lib.hid (HNS.out.below hg)
 clear hg
 have k0 := BP.out.cell 0
 have k1 := BP.out.cell 1
 have k2 := BP.out.cell 2
 have k3 := BP.out.cell 3
 have k4 := BP.out.cell 4
 have k5 := BP.out.cell 5
 have h0 := BQ.out.cell 0
 have h1 := BQ.out.cell 1
 have h2 := BQ.out.cell 2
 have h3 := BQ.out.cell 3
 have h4 := BQ.out.cell 4
 go_upto_region 10 with (go_at_call 51; (with_reducible refine (T7.out _ HPA.out).mono ?_); rintro e U7 ⟨rfl, hg⟩)
 clear k0 k1 k2 k3 k4 k5 h0 h1 h2 h3 h4
 have G12 := Lib.hid (G11.out.trans (hg.mono G11.out.size))
 have BP := Lib.hid (BP.out.ext hg)
 have BQ := Lib.hid (BQ.out.ext hg)
 have BA := Lib.hid (BA.out.ext hg)
 have BB := Lib.hid (BB.out.ext hg)
 have HPA := Lib.hid (HPA.out.below hg)
 have HNS := Lib.hid (HNS.out.below hg)
 clear hg
 have k0 := BP.out.cell 0
 have k1 := BP.out.cell 1
 have k2 := BP.out.cell 2
 have k3 := BP.out.cell 3
 have k4 := BP.out.cell 4
 have k5 := BP.out.cell 5
 have h0 := BQ.out.cell 0
 have h1 := BQ.out.cell 1
 have h2 := BQ.out.cell 2
 have h3 := BQ.out.cell 3
 have h4 := BQ.out.cell 4
 go_upto_region 11 with (go_at_call 52; (with_reducible refine (T8.out _ HPA.out HNS.out).mono ?_); rintro e U8 hend; obtain ⟨rfl, hg⟩ := (HTE.out _ _ _).1 hend; clear hend)
 clear k0 k1 k2 k3 k4 k5 h0 h1 h2 h3 h4
 have G13 := Lib.hid (G12.out.trans (hg.mono G12.out.size))
 have BP := Lib.hid (BP.out.ext hg)
 have BQ := Lib.hid (BQ.out.ext hg)
 have BA := Lib.hid (BA.out.ext hg)
 have BB := Lib.hid (BB.out.ext hg)
 have HPA := Lib.hid (HPA.out.below hg)
 have HNS := Lib.hid (HNS.out.below hg)
 clear hg
 have k0 := BP.out.cell 0
 have k1 := BP.out.cell 1
 have k2 := BP.out.cell 2
 have k3 := BP.out.cell 3
 have k4 := BP.out.cell 4
 have k5 := BP.out.cell 5
 have h0 := BQ.out.cell 0
 have h1 := BQ.out.cell 1
 have h2 := BQ.out.cell 2
 have h3 := BQ.out.cell 3
 have h4 := BQ.out.cell 4
 go_upto_region 12 with (go_at_call 53; (with_reducible refine (T9.out _ HPA.out HNS.out).mono ?_); rintro e U9 ⟨rfl, hg⟩)
 clear k0 k1 k2 k3 k4 k5 h0 h1 h2 h3 h4
 have G14 := Lib.hid (G13.out.trans (hg.mono G13.out.size))
 have BP := Lib.hid (BP.out.ext hg)
 have BQ := Lib.hid (BQ.out.ext hg)
 have BA := Lib.hid (BA.out.ext hg)
 have BB := Lib.hid (BB.out.ext hg)
 have HPA := Lib.hid (HPA.out.below hg)
 have HNS := Lib.hid (HNS.out.below hg)
 clear hg
 have k0 := BP.out.cell 0
 have k1 := BP.out.cell 1
 have k2 := BP.out.cell 2
 have k3 := BP.out.cell 3
 have k4 := BP.out.cell 4
 have k5 := BP.out.cell 5
 have h0 := BQ.out.cell 0
 have h1 := BQ.out.cell 1
 have h2 := BQ.out.cell 2
 have h3 := BQ.out.cell 3
 have h4 := BQ.out.cell 4
 go_upto_region 13 with (go_at_call 45; (with_reducible refine (T10.out _ HPA.out).mono ?_); rintro e U10 ⟨⟨D45, m45, d45, rfl, hi⟩, hg⟩; have HI45 := Lib.hid hi; clear hi)
 clear k0 k1 k2 k3 k4 k5 h0 h1 h2 h3 h4
 have G15 := Lib.hid (G14.out.trans (hg.mono G14.out.size))
 have BP := Lib.hid (BP.out.ext hg)
 have BQ := Lib.hid (BQ.out.ext hg)
 have BA := Lib.hid (BA.out.ext hg)
 have BB := Lib.hid (BB.out.ext hg)
 have HPA := Lib.hid (HPA.out.below hg)
 have HNS := Lib.hid (HNS.out.below hg)
 clear hg
 have k0 := BP.out.cell 0
 have k1 := BP.out.cell 1
 have k2 := BP.out.cell 2
 have k3 := BP.out.cell 3
 have k4 := BP.out.cell 4
 have k5 := BP.out.cell 5
 have h0 := BQ.out.cell 0
 have h1 := BQ.out.cell 1
 have h2 := BQ.out.cell 2
 have h3 := BQ.out.cell 3
 have h4 := BQ.out.cell 4
 go_upto_region 14 with (go_at_call 54; (with_reducible refine (T11.out _ HPA.out).mono ?_); rintro e U11 ⟨⟨D54, m54, d54, rfl, hi⟩, hg⟩; have HI54 := Lib.hid hi; clear hi)
 clear k0 k1 k2 k3 k4 k5 h0 h1 h2 h3 h4
 have HI45 := Lib.hid (HI45.out.below hg)
 have G16 := Lib.hid (G15.out.trans (hg.mono G15.out.size))
 have BP := Lib.hid (BP.out.ext hg)
 have BQ := Lib.hid (BQ.out.ext hg)
 have BA := Lib.hid (BA.out.ext hg)
 have BB := Lib.hid (BB.out.ext hg)
 have HPA := Lib.hid (HPA.out.below hg)
 have HNS := Lib.hid (HNS.out.below hg)
 clear hg
 have SM := same_any D45 D54 m45 d45 m54 d54 ml ml U11 HI45.out HI54.out (by have h1 := HI45.out.1; have h2 := HSH.out; omega) (by have h1 := HI54.out.1; have h2 := HSH.out; omega)
 rw [same_self] at SM
 have HSM := Lib.hid SM
 clear SM
 go_upto_region 15 with (go_at_call 41; (with_reducible refine (HSM.out).mono ?_); rintro e VZ ⟨rfl, hg⟩)
 have G17 := Lib.hid (G16.out.trans (hg.mono G16.out.size))
 have BP := Lib.hid (BP.out.ext hg)
 have BQ := Lib.hid (BQ.out.ext hg)
 have BA := Lib.hid (BA.out.ext hg)
 have BB := Lib.hid (BB.out.ext hg)
 have HPA := Lib.hid (HPA.out.below hg)
 have HNS := Lib.hid (HNS.out.below hg)
 clear hg
 have a0 := BA.out.cell 0
 have a1 := BA.out.cell 1
 have b0 := BB.out.cell 0
 have b1 := BB.out.cell 1
 have hq := eqlRg_same fr
 go_wp2_with fail
 go_ret
 exact ⟨by first | rfl | simp, G17.out⟩
end Go.Proofs.YtkoejeghihcmlaaGreat
