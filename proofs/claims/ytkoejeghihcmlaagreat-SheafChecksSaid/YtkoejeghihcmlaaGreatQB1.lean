/- Part of the proof: YI, YK. -/
import Derived.Test.YtkoejeghihcmlaaGreatQA9
import Derived.Test.YtkoejeghihcmlaaGreatQB0
namespace Go.Proofs.YtkoejeghihcmlaaGreat
open Go.RowKit Go.Shelf
theorem rm_none {is : Six → Bool} {ks : List Int} {l : List Six} (h : okL is ks l = true) (hi : ∀ x, is x = true → 1 ≤ x.a) : l.filter (fun x => !isSrc 0 x) = l := by
 refine List.filter_eq_self.2 fun y hy => ?_
 obtain ⟨j, hj, rfl⟩ := List.mem_iff_getElem.1 hy
 have h1 := (okL_iff.1 h).1 j hj
 unfold okAt at h1
 simp only [Bool.and_eq_true] at h1
 have h2 := hi _ h1.1.1
 rw [List.getD_eq_getElem?_getD, List.getElem?_eq_getElem hj] at h2
 have h3 : 1 ≤ (l[j]).a := h2
 have h4 : isSrc 0 l[j] = false := decide_eq_false (by omega)
 rw [h4]; rfl
theorem wo_zero {p : Pl} (h : okPl p = true) : withoutP p 0 = p := by
 unfold okPl at h
 simp only [Bool.and_eq_true] at h
 obtain ⟨⟨⟨⟨h1, h2⟩, h3⟩, -⟩, -⟩ := h
 have e1 : ∀ x, isLoad x = true → 1 ≤ x.a := fun x hx => by
  unfold isLoad rng at hx
  simp only [Bool.and_eq_true, decide_eq_true_eq] at hx
  omega
 have e2 : ∀ x, isSpell x = true → 1 ≤ x.a := fun x hx => by
  unfold isSpell rng at hx
  simp only [Bool.and_eq_true, decide_eq_true_eq] at hx
  omega
 unfold withoutP
 rw [rm_none h1 e1, rm_none h2 e1, rm_none h3 e2]
set_option maxRecDepth 100000 in
set_option maxHeartbeats 8000000 in
theorem refStOk_any (p : Pl) (A1 A2 A3 : Option Addr) (n1 c1 n2 c2 n3 c3 : Nat) (x : Six) (w : World) (hp : Pa w p A1 A2 A3 n1 c1 n2 c2 n3 c3) (hok : okPl p = true) (hx : isLoad x = true) (hh : hasI (srcsAll p) x.a = false) (hl : p.stands.length < 60) :
  Calls Tryz.prog 61 #[plv p A1 A2 A3 n1 c1 n2 c2 n3 c3, sv x] w (RStEnd (plusAt p x) 0 w) := by
 unfold RStEnd
 obtain ⟨W1, hW1⟩ : ∃ W1, ((w.alloc (.cells (plb p A1 A2 A3 n1 c1 n2 c2 n3 c3) 38)).alloc (.cells #[.int .i64 x.a, .int .i64 x.b, .int .i64 x.c, .int .i64 x.d, .int .i64 x.e, .int .i64 x.f] 105)).alloc (.cells #[.int .i64 0, .int .i64 0, .slice none 0 0, .slice none 0 0, .slice none 0 0, .int .i64 0] 38) = W1 := ⟨_, rfl⟩
 have g1 : Below w.heap.size w W1 := by rw [← hW1]; exact three_more _ _ _ _
 have b1 : Blk W1 w.heap.size 38 (plb p A1 A2 A3 n1 c1 n2 c2 n3 c3) := by rw [← hW1]; exact ((Blk.new _ _ _).alloc _).alloc _
 have b2 : Blk W1 (w.heap.size + 1) 105 #[.int .i64 x.a, .int .i64 x.b, .int .i64 x.c, .int .i64 x.d, .int .i64 x.e, .int .i64 x.f] := by rw [← hW1]; exact blk3_2 _ _ _ _ _
 have b3 : Blk W1 (w.heap.size + 1 + 1) 38 #[.int .i64 0, .int .i64 0, .slice none 0 0, .slice none 0 0, .slice none 0 0, .int .i64 0] := by rw [← hW1]; exact blk3_3 _ _ _ _ _
 have p0 := b1.cell 0
 have p1 := b1.cell 1
 have p2 := b1.cell 2
 have p3 := b1.cell 3
 have p4 := b1.cell 4
 have p5 := b1.cell 5
 have HPA := Lib.hid (hp.below g1)
 have HB1 := Lib.hid b1
 have HB2 := Lib.hid b2
 have HB3 := Lib.hid b3
 have G1 := Lib.hid g1
 have HW1 := Lib.hid hW1
 have hb3l := HB3.out.lt
 have T := refCheck_any p A1 A2 A3 n1 c1 n2 c2 n3 c3 W1 HPA.out
 rw [hok, show err true 13 = 0 from rfl] at T
 have HT := Lib.hid T
 have HPO := Lib.hid (ok_parts hok)
 have HN := Lib.hid (show n1 ≤ 1000 ∧ n2 ≤ 1000 ∧ n3 ≤ 1000 by
  have h1 := HPO.out.2.2.2.2.2.1
  have h2 := HPO.out.2.2.2.2.2.2.1
  have h3 := HPO.out.2.2.2.2.2.2.2.1
  have k1 := HPA.out.l1.1
  have k2 := HPA.out.l2.1
  have k3 := HPA.out.l3.1
  omega)
 have HSL := Lib.hid (show (srcs3 p).length ≤ 1000000 by
  have h1 := HPO.out.2.2.2.2.2.1
  have h2 := HPO.out.2.2.2.2.2.2.1
  have h3 := HPO.out.2.2.2.2.2.2.2.1
  unfold srcs3 srcs
  rw [List.length_append, List.length_append, List.length_map, List.length_map, List.length_map]
  omega)
 have HSX := Lib.hid (fun W => by have := refStand_any x W; rwa [hx, show err true 11 = 0 from rfl] at this)
 have HSR := Lib.hid (fun W (g : Below W1.heap.size W1 W) => refSources_any p A1 A2 A3 n1 c1 n2 c2 n3 c3 W (HPA.out.below g) HN.out)
 have HHH := Lib.hid (show hasI (srcs3 p) x.a = _ from (src_all p x.a).trans hh)
 have hn2 := Lib.hid (show n2 < 60 by rw [← HPA.out.l2.1]; exact hl)
 have HW0 := Lib.hid (wo_zero hok)
 have HLN := Lib.hid (show p.stands.length = n2 from HPA.out.l2.1)
 have HST := Lib.hid (show ∀ i j, i < j → j < p.stands.length → (p.stands.getD i z6).a < (p.stands.getD j z6).a from fun i j h1 h2 => by
  have := rise_at (steps_stands hok) (j - i) i (by omega) (by omega)
  rwa [show i + (j - i) = j by omega] at this)
 obtain ⟨Q, hQ⟩ : ∃ q, plusAt p x = q := ⟨_, rfl⟩
 rw [hQ]
 have HQ := Lib.hid hQ
 clear hQ
 clear T hp g1 b1 b2 b3 hW1 hok hx hh hl
 go_enter Tryz.func61, Tryz.ntmps61
 go_upto_region 1 with fail
 rw [HW1.out]
 go_upto_region 3 with (go_at_call 66; (with_reducible refine (HT.out).mono ?_); rintro e V2 ⟨rfl, hg⟩; have G2 := Lib.hid hg; clear hg)
 clear p0 p1 p2 p3 p4 p5
 have HKP := Lib.hid (fun X (g : Below V2.heap.size V2 X) => (⟨((HB1.out.ext G2.out).ext g).cell 0, ((HB1.out.ext G2.out).ext g).cell 1, ((HB1.out.ext G2.out).ext g).cell 2, ((HB1.out.ext G2.out).ext g).cell 3, ((HB1.out.ext G2.out).ext g).cell 4, ((HB1.out.ext G2.out).ext g).cell 5, ((HB2.out.ext G2.out).ext g).cell 0, ((HB2.out.ext G2.out).ext g).cell 1, ((HB2.out.ext G2.out).ext g).cell 2, ((HB2.out.ext G2.out).ext g).cell 3, ((HB2.out.ext G2.out).ext g).cell 4, ((HB2.out.ext G2.out).ext g).cell 5⟩ : X.cell? ⟨w.heap.size, 0, none⟩ = some (.int .i64 p.lo) ∧ X.cell? ⟨w.heap.size, 1, none⟩ = some (.int .i64 p.hi) ∧ X.cell? ⟨w.heap.size, 2, none⟩ = some (.slice A1 n1 c1) ∧ X.cell? ⟨w.heap.size, 3, none⟩ = some (.slice A2 n2 c2) ∧ X.cell? ⟨w.heap.size, 4, none⟩ = some (.slice A3 n3 c3) ∧ X.cell? ⟨w.heap.size, 5, none⟩ = some (.int .i64 p.geese) ∧ X.cell? ⟨w.heap.size + 1, 0, none⟩ = some (.int .i64 x.a) ∧ X.cell? ⟨w.heap.size + 1, 1, none⟩ = some (.int .i64 x.b) ∧ X.cell? ⟨w.heap.size + 1, 2, none⟩ = some (.int .i64 x.c) ∧ X.cell? ⟨w.heap.size + 1, 3, none⟩ = some (.int .i64 x.d) ∧ X.cell? ⟨w.heap.size + 1, 4, none⟩ = some (.int .i64 x.e) ∧ X.cell? ⟨w.heap.size + 1, 5, none⟩ = some (.int .i64 x.f)))
 obtain ⟨y0, y1, y2, y3, y4, y5, y6, y7, y8, y9, ya, yb⟩ := HKP.out V2 (Below.refl _ _)
 go_cut [22] from 13 to 22 (fun s22 wx => s22 = .bool false ∧ Below W1.heap.size W1 wx)
 case first =>
  go_region_held3 (fun X => X.cell? ⟨w.heap.size, 0, none⟩ = some (.int .i64 p.lo) ∧ X.cell? ⟨w.heap.size, 1, none⟩ = some (.int .i64 p.hi) ∧ X.cell? ⟨w.heap.size, 2, none⟩ = some (.slice A1 n1 c1) ∧ X.cell? ⟨w.heap.size, 3, none⟩ = some (.slice A2 n2 c2) ∧ X.cell? ⟨w.heap.size, 4, none⟩ = some (.slice A3 n3 c3) ∧ X.cell? ⟨w.heap.size, 5, none⟩ = some (.int .i64 p.geese) ∧ X.cell? ⟨w.heap.size + 1, 0, none⟩ = some (.int .i64 x.a) ∧ X.cell? ⟨w.heap.size + 1, 1, none⟩ = some (.int .i64 x.b) ∧ X.cell? ⟨w.heap.size + 1, 2, none⟩ = some (.int .i64 x.c) ∧ X.cell? ⟨w.heap.size + 1, 3, none⟩ = some (.int .i64 x.d) ∧ X.cell? ⟨w.heap.size + 1, 4, none⟩ = some (.int .i64 x.e) ∧ X.cell? ⟨w.heap.size + 1, 5, none⟩ = some (.int .i64 x.f))
   (with_reducible refine HKP.out _ ?_; repeat' first | (with_reducible exact Below.refl _ _) | (with_reducible exact GB.out) | (with_reducible exact GA.out) | (with_reducible refine Below.drew ?_))
   (first
    | (go_at_call 70; (with_reducible refine (HSX.out _).mono ?_); rintro e VA ⟨rfl, hg⟩; have GA := Lib.hid (show Below V2.heap.size V2 VA from (Below.refl _ _).drew.trans hg); clear hg)
    | (go_at_call 137; (with_reducible refine (HSR.out _ (G2.out.trans (GA.out.mono G2.out.size))).mono ?_); rintro e VB ⟨⟨v, rfl, ho⟩, hg⟩; obtain ⟨D, c, hv, -, -, hi, -⟩ := OwnL.arr kdI ho; subst hv; have HI := Lib.hid hi; have GB := Lib.hid (show Below V2.heap.size V2 VB from GA.out.trans (hg.mono GA.out.size)); clear ho hg hi)
    | (go_at_call 47; (with_reducible refine (refHas_any _ _ _ _ x.a _ HI.out (by have := HSL.out; omega)).mono ?_); rintro e V4 ⟨rfl, rfl⟩; rw [HHH.out]))
  all_goals (try go_wp2_with fail)
  all_goals go_meet
  all_goals exact ⟨rfl, G2.out.trans (GB.out.mono G2.out.size)⟩
 case rest =>
  obtain ⟨rfl, hg⟩ := hcut
  have HB9 := Lib.hid (HB3.out.ext hg)
  have GALL := Lib.hid (G1.out.trans (hg.mono G1.out.size))
  have hz : ((n2 : Int) == 60) = false := by have := hn2.out; simp; omega
  have q2 := (HB1.out.ext hg).cell 0
  have q3 := (HB1.out.ext hg).cell 1
  have q4 := (HB1.out.ext hg).cell 2
  have q5 := (HB1.out.ext hg).cell 3
  have q6 := (HB1.out.ext hg).cell 4
  have q7 := (HB1.out.ext hg).cell 5
  have T := refWithoutP_any p A1 A2 A3 n1 c1 n2 c2 n3 c3 0 wc (HPA.out.below hg) HN.out
  rw [HW0.out] at T
  obtain ⟨fo, hfo⟩ : ∃ b, hasI (srcs3 p) 0 = b := ⟨_, rfl⟩
  rw [hfo] at T
  have HTW := Lib.hid T
  have HGW := Lib.hid hg
  clear T hfo hg y0 y1 y2 y3 y4 y5 y6 y7 y8 y9 ya yb
  go_upto_region 8 with (go_at_call 125; (with_reducible refine (HTW.out).mono ?_); rintro e V3 ⟨⟨F1, a1, f1, F2, a2, f2, F3, a3, f3, rfl, hpq⟩, hg⟩; have HG3 := Lib.hid hg; have HPQ := Lib.hid hpq; clear hg hpq)
  obtain ⟨V5, hV5⟩ : ∃ X, V3.alloc (.cells (plb p F1 F2 F3 a1 f1 a2 f2 a3 f3) 38) = X := ⟨_, rfl⟩
  have g5 : Below V3.heap.size V3 V5 := by rw [← hV5]; exact one_more _ _
  have BQ := Lib.hid (show Blk V5 V3.heap.size 38 (plb p F1 F2 F3 a1 f1 a2 f2 a3 f3) by rw [← hV5]; exact Blk.new _ _ _)
  have G5 := Lib.hid (GALL.out.trans ((HG3.out.trans (g5.mono HG3.out.size)).mono GALL.out.size))
  have G9 := Lib.hid (show Below wc.heap.size wc V5 from HG3.out.trans (g5.mono HG3.out.size))
  have HPQ5 := Lib.hid (HPQ.out.ext g5)
  have HB15 := Lib.hid ((HB1.out.ext (show Below W1.heap.size W1 wc by exact HGW.out)).ext G9.out)
  have HB25 := Lib.hid ((HB2.out.ext (show Below W1.heap.size W1 wc by exact HGW.out)).ext G9.out)
  have HB35 := Lib.hid (HB9.out.ext G9.out)
  have HPA5 := Lib.hid ((HPA.out.below HGW.out).below G9.out)
  rw [hV5]
  clear hV5 g5 q2 q3 q4 q5 q6 q7
  have HI5 := Lib.hid HPA5.out.l2
  have HM2 := Lib.hid HPA5.out.m2
  have hn9 : n2 ≤ 1000 := by have := hn2.out; omega
  go_cut [8] from 34 to 49 (fun s wx => s = .int .i64 0 ∧ V5 = wx)
  case first =>
   go_wp2_with fail
   go_meet
   exact ⟨rfl, rfl⟩
  case rest =>
  obtain ⟨rfl, rfl⟩ := hcut
  rename_i hK9
  refine hK9 _ _ ?_
  clear hK9
  go_step
  go_cut [8] from 34 to 51 (fun s wx => ∃ t : Nat, s = .int .i64 t ∧ t ≤ n2 ∧ Hid (insAt p.stands x.a = t) ∧ Below V5.heap.size V5 wx)
  case first =>
   go_step
   go_loopw [8] (fun i wr => ∃ t : Nat, t ≤ n2 ∧ i = .int .i64 t ∧ Below V5.heap.size V5 wr ∧ ∀ j, j < t → (p.stands.getD j z6).a < x.a) (fun i _ => n2 - (intOf i).toNat)
   case atStart => exact ⟨0, Nat.zero_le _, rfl, Below.refl _ _, fun j hj => absurd hj (by omega)⟩
   case round =>
    obtain ⟨t, ht, rfl, hg2, hall⟩ := hrel
    have HG2 := Lib.hid hg2
    have HALL := Lib.hid hall
    have z3 := cellW ((HB15.out.ext hg2).cell 3)
    have z0 := cellW ((HB25.out.ext hg2).cell 0)
    clear hall
    by_cases htn : t < n2
    ·obtain ⟨b8, o8, e8, -, -, hc8⟩ := six_at (HI5.out.below hg2) htn
     have HSTR := Lib.hid (fun j (h1 : t < j) (h2 : j < p.stands.length) => HST.out t j h1 h2)
     obtain ⟨y, hyg⟩ : ∃ y, p.stands.getD t z6 = y := ⟨_, rfl⟩
     rw [hyg] at hc8 HSTR
     have u1 := cellW (hc8 _ (Below.refl _ _)).1
     have hti : (t : Int) < (n2 : Int) := by omega
     have htd : decide (t < n2) = true := decide_eq_true htn
     subst e8
     have HY := Lib.hid hyg
     clear hc8 hyg hg2
     by_cases hle : y.a < x.a
     ·have hled := decide_eq_true hle
      have HLE2 := Lib.hid hle
      go_upto_region 9 with fail
      refine wp_region_calm wr (by kernel_rfl) (by kernel_rfl) (Below.refl _ _) ?_
      repeat (go_big_quiet_step (fail))
      refine wpQuiet_nil ?_
      rintro _ ⟨z, rfl⟩
      have GZ := Lib.hid (HG2.out.trans (z.ok.mono HG2.out.size))
      go_wp2_with fail
      go_roundw
      case rel => exact ⟨t + 1, by omega, by go_num, GZ.out, fun j hj => by
       by_cases e : j = t
       ·subst e; rw [HY.out]; exact HLE2.out
       ·exact HALL.out j (by omega)⟩
      case measure => simp [intOf]; omega
     ·have hled := decide_eq_false hle
      have HIN := Lib.hid (insAt_eq (l := p.stands) (s := x.a) (t := t) (by rw [HLN.out]; omega) HALL.out (fun j h1 h2 => by
       rcases Nat.lt_or_ge t j with h3 | h3
       ·have := HSTR.out j h3 h2; omega
       ·obtain rfl : j = t := by omega
        rw [HY.out]; exact hle))
      go_upto_region 9 with fail
      refine wp_region_calm wr (by kernel_rfl) (by kernel_rfl) (Below.refl _ _) ?_
      repeat (go_big_quiet_step (fail))
      refine wpQuiet_nil ?_
      rintro _ ⟨z, rfl⟩
      have GZ := Lib.hid (HG2.out.trans (z.ok.mono HG2.out.size))
      go_wp2_with fail
      go_meet
      exact ⟨t, rfl, ht, HIN, GZ.out⟩
    ·obtain rfl : n2 = t := by omega
     have htd : decide (n2 < n2) = false := decide_eq_false (by omega)
     have HIN := Lib.hid (insAt_eq (l := p.stands) (s := x.a) (t := n2) (by rw [HLN.out]; exact Nat.le_refl _) HALL.out (fun j h1 h2 => by rw [HLN.out] at h2; omega))
     go_upto_region 9 with fail
     refine wp_region_calm wr (by kernel_rfl) (by kernel_rfl) (Below.refl _ _) ?_
     repeat (go_big_quiet_step (fail))
     refine wpQuiet_nil ?_
     rintro _ ⟨z, rfl⟩
     have GZ := Lib.hid (HG2.out.trans (z.ok.mono HG2.out.size))
     go_wp2_with fail
     go_meet
     exact ⟨n2, rfl, Nat.le_refl _, HIN, GZ.out⟩
  case rest =>
   obtain ⟨t, rfl, ht, HIN, hg2⟩ := hcut
   rename_i hK9
   refine hK9 _ _ ?_
   clear hK9
   obtain ⟨V, rfl⟩ : ∃ V : World, V = wc := ⟨_, rfl⟩
   have HG2 := Lib.hid hg2
   go_upto_region 11 with fail
   have HBPV := Lib.hid (HB15.out.ext hg2)
   have HBXV := Lib.hid (HB25.out.ext hg2)
   have HBQV := Lib.hid (BQ.out.ext hg2)
   have HB3V := Lib.hid (HB35.out.ext hg2)
   have HPQV := Lib.hid (HPQ5.out.ext hg2)
   have HAV := Lib.hid (HI5.out.below hg2)
   have HNE1 := Lib.hid (show w.heap.size ≠ V3.heap.size by have h1 := HB1.out.lt; have h2 := HGW.out.size; have h3 := HG3.out.size; omega)
   have HNE2 := Lib.hid (show w.heap.size + 1 ≠ V3.heap.size by have h1 := HB2.out.lt; have h2 := HGW.out.size; have h3 := HG3.out.size; omega)
   have HNE3 := Lib.hid (show w.heap.size + 1 + 1 < V3.heap.size by have h1 := HB3.out.lt; have h2 := HGW.out.size; have h3 := HG3.out.size; omega)
   have HSTV := Lib.hid (show V3.heap.size < V.heap.size from HBQV.out.lt)
   have hti : (t : Int) ≤ (n2 : Int) := by omega
   have htc : (t : Int) ≤ (c2 : Int) := by have := HM2.out.1; omega
   have hnc : (n2 : Int) ≤ (c2 : Int) := by have := HM2.out.1; omega
   clear hg2
   have HQS := Lib.hid (show Q.stands = p.stands.take t ++ x :: p.stands.drop t by rw [← HQ.out, ← HIN.out]; rfl)
   obtain ⟨base, hbase⟩ : ∃ base, V.heap.size = base := ⟨_, rfl⟩
   have GE1 := Lib.hid (show Below V.heap.size V (V.alloc (.cells #[] 105)).drew from (one_more _ _).drew)
   have GE2 := Lib.hid (show Below V.heap.size V ((V.alloc (.cells #[] 105)).alloc (.cells #[.int .i64 x.a, .int .i64 x.b, .int .i64 x.c, .int .i64 x.d, .int .i64 x.e, .int .i64 x.f] 105)).drew from (two_more _ _ _).drew)
   have GE3 := Lib.hid (show Below V.heap.size V ((V.alloc (.cells #[.int .i64 x.a, .int .i64 x.b, .int .i64 x.c, .int .i64 x.d, .int .i64 x.e, .int .i64 x.f] 105)).alloc (.cells #[] 105)).drew from (two_more _ _ _).drew)
   have OE1 := Lib.hid (show OwnL scells 6 105 (V.alloc (.cells #[] 105)).drew V.heap.size (.slice (some ⟨V.heap.size, 0, none⟩) 0 0) [] from World.ownsRow_made (e := 105) (size := 6) V #[] 0 (Nat.le_refl _) (by decide) rfl)
   have OE2 := Lib.hid (OwnL.ext (w := V.alloc (.cells #[] 105)) OE1.out ((one_more (V.alloc (.cells #[] 105)) (.cells #[.int .i64 x.a, .int .i64 x.b, .int .i64 x.c, .int .i64 x.d, .int .i64 x.e, .int .i64 x.f] 105)).drew))
   have OE3 := Lib.hid (show OwnL scells 6 105 ((V.alloc (.cells #[.int .i64 x.a, .int .i64 x.b, .int .i64 x.c, .int .i64 x.d, .int .i64 x.e, .int .i64 x.f] 105)).alloc (.cells #[] 105)).drew V.heap.size (.slice (some ⟨V.heap.size + 1, 0, none⟩) 0 0) [] by
    have := World.ownsRow_made (e := 105) (size := 6) (base := V.heap.size) (V.alloc (.cells #[.int .i64 x.a, .int .i64 x.b, .int .i64 x.c, .int .i64 x.d, .int .i64 x.e, .int .i64 x.f] 105)) #[] 0 (by simp) (by decide) rfl
    rw [World.size_alloc] at this
    exact this)
   have BX2 := Lib.hid (show Blk ((V.alloc (.cells #[] 105)).alloc (.cells #[.int .i64 x.a, .int .i64 x.b, .int .i64 x.c, .int .i64 x.d, .int .i64 x.e, .int .i64 x.f] 105)).drew (V.heap.size + 1) 105 #[.int .i64 x.a, .int .i64 x.b, .int .i64 x.c, .int .i64 x.d, .int .i64 x.e, .int .i64 x.f] by
    have := Blk.new (V.alloc (.cells #[] 105)) 105 #[.int .i64 x.a, .int .i64 x.b, .int .i64 x.c, .int .i64 x.d, .int .i64 x.e, .int .i64 x.f]
    rw [World.size_alloc] at this
    exact this)
   have BX3 := Lib.hid (show Blk ((V.alloc (.cells #[.int .i64 x.a, .int .i64 x.b, .int .i64 x.c, .int .i64 x.d, .int .i64 x.e, .int .i64 x.f] 105)).alloc (.cells #[] 105)).drew V.heap.size 105 #[.int .i64 x.a, .int .i64 x.b, .int .i64 x.c, .int .i64 x.d, .int .i64 x.e, .int .i64 x.f] from (Blk.new V 105 #[.int .i64 x.a, .int .i64 x.b, .int .i64 x.c, .int .i64 x.d, .int .i64 x.e, .int .i64 x.f]).alloc _)
   rw [hbase] at OE1 OE2 OE3 BX2 BX3
   have HBS := Lib.hid hbase

   rcases Nat.eq_zero_or_pos n2 with hn0 | hn0
   ·subst hn0
    obtain rfl : t = 0 := by omega
    have hps : p.stands = [] := List.eq_nil_of_length_eq_zero HLN.out
    rw [hps] at HQS
    clear hn9 hti htc hnc hps
    have HKP := Lib.hid (fun X (g : Below V.heap.size V X) => (⟨(HBPV.out.ext g).cell 3, (HBXV.out.ext g).cell 0, (HBXV.out.ext g).cell 1, (HBXV.out.ext g).cell 2, (HBXV.out.ext g).cell 3, (HBXV.out.ext g).cell 4, (HBXV.out.ext g).cell 5⟩ : X.cell? ⟨w.heap.size, 3, none⟩ = some (.slice A2 0 c2) ∧ X.cell? ⟨w.heap.size + 1, 0, none⟩ = some (.int .i64 x.a) ∧ X.cell? ⟨w.heap.size + 1, 1, none⟩ = some (.int .i64 x.b) ∧ X.cell? ⟨w.heap.size + 1, 2, none⟩ = some (.int .i64 x.c) ∧ X.cell? ⟨w.heap.size + 1, 3, none⟩ = some (.int .i64 x.d) ∧ X.cell? ⟨w.heap.size + 1, 4, none⟩ = some (.int .i64 x.e) ∧ X.cell? ⟨w.heap.size + 1, 5, none⟩ = some (.int .i64 x.f)))
    have HKS := Lib.hid (fun X (u : Value) (g : Below V.heap.size V X) => (⟨((HBPV.out.ext g).far (p := ⟨V3.heap.size, 3, none⟩) HNE1.out u).cell 3, ((HBXV.out.ext g).far (p := ⟨V3.heap.size, 3, none⟩) HNE2.out u).cell 0, ((HBXV.out.ext g).far (p := ⟨V3.heap.size, 3, none⟩) HNE2.out u).cell 1, ((HBXV.out.ext g).far (p := ⟨V3.heap.size, 3, none⟩) HNE2.out u).cell 2, ((HBXV.out.ext g).far (p := ⟨V3.heap.size, 3, none⟩) HNE2.out u).cell 3, ((HBXV.out.ext g).far (p := ⟨V3.heap.size, 3, none⟩) HNE2.out u).cell 4, ((HBXV.out.ext g).far (p := ⟨V3.heap.size, 3, none⟩) HNE2.out u).cell 5⟩ : (X.setCell ⟨V3.heap.size, 3, none⟩ u).cell? ⟨w.heap.size, 3, none⟩ = some (.slice A2 0 c2) ∧ (X.setCell ⟨V3.heap.size, 3, none⟩ u).cell? ⟨w.heap.size + 1, 0, none⟩ = some (.int .i64 x.a) ∧ (X.setCell ⟨V3.heap.size, 3, none⟩ u).cell? ⟨w.heap.size + 1, 1, none⟩ = some (.int .i64 x.b) ∧ (X.setCell ⟨V3.heap.size, 3, none⟩ u).cell? ⟨w.heap.size + 1, 2, none⟩ = some (.int .i64 x.c) ∧ (X.setCell ⟨V3.heap.size, 3, none⟩ u).cell? ⟨w.heap.size + 1, 3, none⟩ = some (.int .i64 x.d) ∧ (X.setCell ⟨V3.heap.size, 3, none⟩ u).cell? ⟨w.heap.size + 1, 4, none⟩ = some (.int .i64 x.e) ∧ (X.setCell ⟨V3.heap.size, 3, none⟩ u).cell? ⟨w.heap.size + 1, 5, none⟩ = some (.int .i64 x.f)))
    obtain ⟨w9, w0, w1, w2, w3, w4, w5⟩ := HKP.out V (Below.refl _ _)
    go_region_held3 (fun X => X.cell? ⟨w.heap.size, 3, none⟩ = some (.slice A2 0 c2) ∧ X.cell? ⟨w.heap.size + 1, 0, none⟩ = some (.int .i64 x.a) ∧ X.cell? ⟨w.heap.size + 1, 1, none⟩ = some (.int .i64 x.b) ∧ X.cell? ⟨w.heap.size + 1, 2, none⟩ = some (.int .i64 x.c) ∧ X.cell? ⟨w.heap.size + 1, 3, none⟩ = some (.int .i64 x.d) ∧ X.cell? ⟨w.heap.size + 1, 4, none⟩ = some (.int .i64 x.e) ∧ X.cell? ⟨w.heap.size + 1, 5, none⟩ = some (.int .i64 x.f))
     (first | (with_reducible exact HKS.out _ _ HGC.out) | (with_reducible refine HKP.out _ ?_; repeat' first | (with_reducible exact Below.refl _ _) | (with_reducible exact HGA.out) | (with_reducible exact HGB.out) | (with_reducible exact HGC.out) | (with_reducible refine Below.drew ?_) | (with_reducible refine Below.allo9 ?_ (by first | (simp; done) | (simp; omega) | omega) _)))
     (first
     | (refine step_app kdS (by rfl) _ _ (by rfl) base _ [] (by rfl) OE1.out _ 0 _ [] (by rfl) Arr.nil_ (by first | (simp; done) | (simp; omega)) (by have := GE1.out.size; have := HBS.out; omega) ?_; intro v1 w1 ho1 hg1 hat1; have hbw := OE1.out.below hg1 (Nat.le_refl base) (by have := GE1.out.size; have := HBS.out; omega); have HGA := Lib.hid (show Below V.heap.size V w1 from GE1.out.trans (hbw.mono (by have := HBS.out; omega))); have HO1 := Lib.hid (show OwnL scells 6 105 w1 base v1 [] by simpa using ho1); have hsa : base ≤ w1.heap.size := (by have := HGA.out.size; have := HBS.out; omega); have HSA := Lib.hid hsa; clear hbw ho1 hg1 hat1)
     | (refine step_app kdS (by rfl) _ _ (by rfl) base _ [] (by rfl) OE2.out _ 0 _ [] (by rfl) Arr.nil_ (by first | (simp; done) | (simp; omega)) (by have := GE2.out.size; have := HBS.out; omega) ?_; intro v1 w1 ho1 hg1 hat1; have hbw := OE2.out.below hg1 (Nat.le_refl base) (by have := GE2.out.size; have := HBS.out; omega); have HGA := Lib.hid (show Below V.heap.size V w1 from GE2.out.trans (hbw.mono (by have := HBS.out; omega))); have HO1 := Lib.hid (show OwnL scells 6 105 w1 base v1 [] by simpa using ho1); have hsa : base ≤ w1.heap.size := (by have := HGA.out.size; have := HBS.out; omega); have HSA := Lib.hid hsa; have HBX := Lib.hid (show Blk w1 (base + 1) 105 _ from (hg1.block (base + 1) BX2.out.lt (by simp [Value.ownBlock])).trans BX2.out); clear hbw ho1 hg1 hat1)
     | (refine step_app kdS (by rfl) _ _ (by rfl) base _ [] (by rfl) OE3.out _ 0 _ [] (by rfl) Arr.nil_ (by first | (simp; done) | (simp; omega)) (by have := GE3.out.size; have := HBS.out; omega) ?_; intro v1 w1 ho1 hg1 hat1; have hbw := OE3.out.below hg1 (Nat.le_refl base) (by have := GE3.out.size; have := HBS.out; omega); have HGA := Lib.hid (show Below V.heap.size V w1 from GE3.out.trans (hbw.mono (by have := HBS.out; omega))); have HO1 := Lib.hid (show OwnL scells 6 105 w1 base v1 [] by simpa using ho1); have hsa : base ≤ w1.heap.size := (by have := HGA.out.size; have := HBS.out; omega); have HSA := Lib.hid hsa; have HBX := Lib.hid (show Blk w1 base 105 _ from (hg1.block base BX3.out.lt (by simp [Value.ownBlock])).trans BX3.out); clear hbw ho1 hg1 hat1)
     | (refine step_app kdS (by rfl) _ _ (by rfl) base v1 [] (by rfl) (HO1.out.ext (one_more w1 (.cells #[.int .i64 x.a, .int .i64 x.b, .int .i64 x.c, .int .i64 x.d, .int .i64 x.e, .int .i64 x.f] 105))) _ _ _ [x] (by rfl) (Blk.arr1 (f := scells) (size := 6) (x := x) (Blk.new w1 105 _)) (by simp) (by have := HSA.out; rw [World.size_alloc]; omega) ?_; intro v2 w2 ho2 hg2 hat2; have hbw := (HO1.out.ext (one_more w1 (.cells #[.int .i64 x.a, .int .i64 x.b, .int .i64 x.c, .int .i64 x.d, .int .i64 x.e, .int .i64 x.f] 105))).below hg2 (Nat.le_refl base) (by have := HSA.out; rw [World.size_alloc]; omega); have HGB := Lib.hid (show Below V.heap.size V w2 from (HGA.out.trans ((one_more w1 _).mono (by have := HSA.out; have := HBS.out; omega))).trans (hbw.mono (by have := HBS.out; omega))); have HO2 := Lib.hid ho2; have hsb : base ≤ w2.heap.size := (by have := HGB.out.size; have := HBS.out; omega); have HSB := Lib.hid hsb; clear hbw ho2 hg2 hat2)
     | (refine step_app kdS (by rfl) _ _ (by rfl) base v1 [] (by rfl) HO1.out _ _ _ [x] (by rfl) (Blk.arr1 (f := scells) (size := 6) (x := x) HBX.out) (by simp) (by have := HSA.out; omega) ?_; intro v2 w2 ho2 hg2 hat2; have hbw := HO1.out.below hg2 (Nat.le_refl base) (by have := HSA.out; omega); have HGB := Lib.hid (show Below V.heap.size V w2 from HGA.out.trans (hbw.mono (by have := HBS.out; omega))); have HO2 := Lib.hid ho2; have hsb : base ≤ w2.heap.size := (by have := HGB.out.size; have := HBS.out; omega); have HSB := Lib.hid hsb; clear hbw ho2 hg2 hat2)
     | (go_loud (refine step_app kdS (by rfl) _ _ (by rfl) base v2 ([] ++ [x]) (by rfl) HO2.out _ 0 _ [] (by rfl) Arr.nil_ (by simp) (by have := HSB.out; omega) ?_); intro v3 w3 ho3 hg3 hat3; have hbw := HO2.out.below hg3 (Nat.le_refl base) (by have := HSB.out; omega); have HGC := Lib.hid (show Below V.heap.size V w3 from HGB.out.trans (hbw.mono (by have := HBS.out; omega))); obtain ⟨M2, g2, e2, -, -, -, -⟩ := OwnL.arr kdS ho3; obtain ⟨k2, hk2⟩ : ∃ q, ([] ++ [x] ++ []).length = q := ⟨_, rfl⟩; rw [hk2] at e2; subst e2; have HO3 := Lib.hid ho3; have tt := (HBQV.out.ext HGC.out).cell 3; have tf := (HBQV.out.ext HGC.out).frozen 3; clear hbw ho3 hg3 hat3 hk2))
    all_goals (
     have HBQF := Lib.hid (show Blk (w3.setCell ⟨V3.heap.size, 3, none⟩ (.slice M2 k2 g2)) V3.heap.size 38 #[.int .i64 p.lo, .int .i64 p.hi, .slice F1 a1 f1, .slice M2 k2 g2, .slice F3 a3 f3, .int .i64 p.geese] from (HBQV.out.ext HGC.out).set_ 3 (.slice M2 k2 g2))
     have HB3F := Lib.hid ((HB3V.out.ext HGC.out).far (p := ⟨V3.heap.size, 3, none⟩) (Nat.ne_of_lt HNE3.out) (.slice M2 k2 g2))
     have HBB := Lib.hid (HB9.out.lt)
     have N1 := Lib.hid (own_lt HPQ.out.1 (k := V3.heap.size))
     have N3 := Lib.hid (own_lt HPQ.out.2.2 (k := V3.heap.size))
     have N2 := Lib.hid (own_lt HO3.out (k := V3.heap.size))
     have HOE := Lib.hid (show OwnP (w3.setCell ⟨V3.heap.size, 3, none⟩ (.slice M2 k2 g2)) (w.heap.size + 1 + 1 + 1) Q F1 M2 F3 a1 f1 k2 g2 a3 f3 from ⟨
      by
       have h := ((HPQV.out.1.ext HGC.out).apart (p := ⟨V3.heap.size, 3, none⟩) (fun e => by have := N1.out e; omega) (.slice M2 k2 g2)).mono (show w.heap.size + 1 + 1 + 1 ≤ _ from HBB.out)
       rw [← HQ.out]; exact h,
      by
       have h := (HO3.out.apart (p := ⟨V3.heap.size, 3, none⟩) (fun e => by have h1 := N2.out e; have h2 := HSTV.out; have h3 := HBS.out; omega) (.slice M2 k2 g2)).mono (show w.heap.size + 1 + 1 + 1 ≤ _ by have h1 := HNE3.out; have h2 := HSTV.out; have h3 := HBS.out; omega)
       rw [HQS.out]; simpa using h,
      by
       have h := ((HPQV.out.2.2.ext HGC.out).apart (p := ⟨V3.heap.size, 3, none⟩) (fun e => by have := N3.out e; omega) (.slice M2 k2 g2)).mono (show w.heap.size + 1 + 1 + 1 ≤ _ from HBB.out)
       rw [← HQ.out]; exact h⟩)
     have GBIG := Lib.hid ((G5.out.trans ((HG2.out.trans (HGC.out.mono HG2.out.size)).mono G5.out.size)).setCell (p := ⟨V3.heap.size, 3, none⟩) (by have := HNE3.out; show w.heap.size ≤ V3.heap.size; omega) (.slice M2 k2 g2))
     have HQB := Lib.hid (show Q.lo = p.lo ∧ Q.hi = p.hi ∧ Q.geese = p.geese by rw [← HQ.out]; exact ⟨rfl, rfl, rfl⟩)
     obtain ⟨W9, hW9⟩ : ∃ W, w3.setCell ⟨V3.heap.size, 3, none⟩ (.slice M2 k2 g2) = W := ⟨_, rfl⟩
     rw [hW9] at HBQF HB3F HOE GBIG
     rw [hW9]
     have l0 := HBQF.out.cell 0
     have l1 := HBQF.out.cell 1
     have l2 := HBQF.out.cell 2
     have l3 := HBQF.out.cell 3
     have l4 := HBQF.out.cell 4
     have l5 := HBQF.out.cell 5
     have m0 := HB3F.out.cell 0
     have z0 := HB3F.out.frozen 0
     have m1 := HB3F.out.cell 1
     have z1 := HB3F.out.frozen 1
     have m2 := HB3F.out.cell 2
     have z2 := HB3F.out.frozen 2
     have m3 := HB3F.out.cell 3
     have z3 := HB3F.out.frozen 3
     have m4 := HB3F.out.cell 4
     have z4 := HB3F.out.frozen 4
     have m5 := HB3F.out.cell 5
     have z5 := HB3F.out.frozen 5
     clear hW9 hbase)
    all_goals (try go_wp2_with fail)
    all_goals (
     have hb9 := HB3F.out.setAll6 (.int .i64 p.lo) (.int .i64 p.hi) (.slice F1 a1 f1) (.slice M2 k2 g2) (.slice F3 a3 f3) (.int .i64 p.geese)
     have HOF := Lib.hid (HOE.out.setAll6 (b := w.heap.size + 1 + 1) (by omega) (.int .i64 p.lo) (.int .i64 p.hi) (.slice F1 a1 f1) (.slice M2 k2 g2) (.slice F3 a3 f3) (.int .i64 p.geese))
     have HG9 := Lib.hid (below_setAll6 (b := w.heap.size + 1 + 1) GBIG.out (by omega) (.int .i64 p.lo) (.int .i64 p.hi) (.slice F1 a1 f1) (.slice M2 k2 g2) (.slice F3 a3 f3) (.int .i64 p.geese))
     have t0 := hb9.cell 0
     have t1 := hb9.cell 1
     have t2 := hb9.cell 2
     have t3 := hb9.cell 3
     have t4 := hb9.cell 4
     have t5 := hb9.cell 5
     clear hb9
     refine bodyPost_ret (v := .tuple #[plv Q F1 M2 F3 a1 f1 k2 g2 a3 f3, .int .i64 0]) ?_ rfl ⟨⟨_, _, _, _, _, _, _, _, _, rfl, HOF.out.mono (by omega)⟩, HG9.out⟩
     obtain ⟨h1, h2, h3⟩ := HQB.out
     simp [results, Tryz.results61, go_sem, t0, t1, t2, t3, t4, t5, h1, h2, h3])
   ·obtain ⟨b7, o7, hA, -, -⟩ := HAV.out.2 hn0
    subst hA
    have HKP := Lib.hid (fun X (g : Below V.heap.size V X) => (⟨(HBPV.out.ext g).cell 3, (HBXV.out.ext g).cell 0, (HBXV.out.ext g).cell 1, (HBXV.out.ext g).cell 2, (HBXV.out.ext g).cell 3, (HBXV.out.ext g).cell 4, (HBXV.out.ext g).cell 5⟩ : X.cell? ⟨w.heap.size, 3, none⟩ = some (.slice (some ⟨b7, o7, none⟩) n2 c2) ∧ X.cell? ⟨w.heap.size + 1, 0, none⟩ = some (.int .i64 x.a) ∧ X.cell? ⟨w.heap.size + 1, 1, none⟩ = some (.int .i64 x.b) ∧ X.cell? ⟨w.heap.size + 1, 2, none⟩ = some (.int .i64 x.c) ∧ X.cell? ⟨w.heap.size + 1, 3, none⟩ = some (.int .i64 x.d) ∧ X.cell? ⟨w.heap.size + 1, 4, none⟩ = some (.int .i64 x.e) ∧ X.cell? ⟨w.heap.size + 1, 5, none⟩ = some (.int .i64 x.f)))
    have HKS := Lib.hid (fun X (u : Value) (g : Below V.heap.size V X) => (⟨((HBPV.out.ext g).far (p := ⟨V3.heap.size, 3, none⟩) HNE1.out u).cell 3, ((HBXV.out.ext g).far (p := ⟨V3.heap.size, 3, none⟩) HNE2.out u).cell 0, ((HBXV.out.ext g).far (p := ⟨V3.heap.size, 3, none⟩) HNE2.out u).cell 1, ((HBXV.out.ext g).far (p := ⟨V3.heap.size, 3, none⟩) HNE2.out u).cell 2, ((HBXV.out.ext g).far (p := ⟨V3.heap.size, 3, none⟩) HNE2.out u).cell 3, ((HBXV.out.ext g).far (p := ⟨V3.heap.size, 3, none⟩) HNE2.out u).cell 4, ((HBXV.out.ext g).far (p := ⟨V3.heap.size, 3, none⟩) HNE2.out u).cell 5⟩ : (X.setCell ⟨V3.heap.size, 3, none⟩ u).cell? ⟨w.heap.size, 3, none⟩ = some (.slice (some ⟨b7, o7, none⟩) n2 c2) ∧ (X.setCell ⟨V3.heap.size, 3, none⟩ u).cell? ⟨w.heap.size + 1, 0, none⟩ = some (.int .i64 x.a) ∧ (X.setCell ⟨V3.heap.size, 3, none⟩ u).cell? ⟨w.heap.size + 1, 1, none⟩ = some (.int .i64 x.b) ∧ (X.setCell ⟨V3.heap.size, 3, none⟩ u).cell? ⟨w.heap.size + 1, 2, none⟩ = some (.int .i64 x.c) ∧ (X.setCell ⟨V3.heap.size, 3, none⟩ u).cell? ⟨w.heap.size + 1, 3, none⟩ = some (.int .i64 x.d) ∧ (X.setCell ⟨V3.heap.size, 3, none⟩ u).cell? ⟨w.heap.size + 1, 4, none⟩ = some (.int .i64 x.e) ∧ (X.setCell ⟨V3.heap.size, 3, none⟩ u).cell? ⟨w.heap.size + 1, 5, none⟩ = some (.int .i64 x.f)))
    obtain ⟨w9, w0, w1, w2, w3, w4, w5⟩ := HKP.out V (Below.refl _ _)
    have HA1 := Lib.hid (HAV.out.take ht)
    have HA2 := Lib.hid (show Arr scells 6 V (if c2 = t then some ⟨b7, o7, none⟩ else some ⟨b7, o7 + t * 6, none⟩) (n2 - t) (p.stands.drop t) by
     have h2 := Arr.drop HAV.out t
     split
     ·exact ⟨h2.1, fun h => by have := HM2.out.1; omega⟩
     ·exact h2)
    obtain ⟨L1, hL1⟩ : ∃ l, p.stands.take t = l := ⟨_, rfl⟩
    obtain ⟨L2, hL2⟩ : ∃ l, p.stands.drop t = l := ⟨_, rfl⟩
    rw [hL1] at HA1 HQS
    rw [hL2] at HA2 HQS
    have HLL := Lib.hid (show L1.length ≤ 1000 by rw [HA1.out.1]; omega)
    clear hL1 hL2
    go_region_held3 (fun X => X.cell? ⟨w.heap.size, 3, none⟩ = some (.slice (some ⟨b7, o7, none⟩) n2 c2) ∧ X.cell? ⟨w.heap.size + 1, 0, none⟩ = some (.int .i64 x.a) ∧ X.cell? ⟨w.heap.size + 1, 1, none⟩ = some (.int .i64 x.b) ∧ X.cell? ⟨w.heap.size + 1, 2, none⟩ = some (.int .i64 x.c) ∧ X.cell? ⟨w.heap.size + 1, 3, none⟩ = some (.int .i64 x.d) ∧ X.cell? ⟨w.heap.size + 1, 4, none⟩ = some (.int .i64 x.e) ∧ X.cell? ⟨w.heap.size + 1, 5, none⟩ = some (.int .i64 x.f))
     (first | (with_reducible exact HKS.out _ _ HGC.out) | (with_reducible refine HKP.out _ ?_; repeat' first | (with_reducible exact Below.refl _ _) | (with_reducible exact HGA.out) | (with_reducible exact HGB.out) | (with_reducible exact HGC.out) | (with_reducible refine Below.drew ?_) | (with_reducible refine Below.allo9 ?_ (by first | (simp; done) | (simp; omega) | omega) _)))
     (first
     | (refine step_app kdS (by rfl) _ _ (by rfl) base _ [] (by rfl) OE1.out (some ⟨b7, o7, none⟩) t c2 L1 (by rfl) (HA1.out.below GE1.out) (by simp; omega) (by have := GE1.out.size; have := HBS.out; omega) ?_; intro v1 w1 ho1 hg1 hat1; have hbw := OE1.out.below hg1 (Nat.le_refl base) (by have := GE1.out.size; have := HBS.out; omega); have HGA := Lib.hid (show Below V.heap.size V w1 from GE1.out.trans (hbw.mono (by have := HBS.out; omega))); have HO1 := Lib.hid (show OwnL scells 6 105 w1 base v1 L1 by simpa using ho1); have hsa : base ≤ w1.heap.size := (by have := HGA.out.size; have := HBS.out; omega); have HSA := Lib.hid hsa; clear hbw ho1 hg1 hat1)
     | (refine step_app kdS (by rfl) _ _ (by rfl) base _ [] (by rfl) OE2.out (some ⟨b7, o7, none⟩) t c2 L1 (by rfl) (HA1.out.below GE2.out) (by simp; omega) (by have := GE2.out.size; have := HBS.out; omega) ?_; intro v1 w1 ho1 hg1 hat1; have hbw := OE2.out.below hg1 (Nat.le_refl base) (by have := GE2.out.size; have := HBS.out; omega); have HGA := Lib.hid (show Below V.heap.size V w1 from GE2.out.trans (hbw.mono (by have := HBS.out; omega))); have HO1 := Lib.hid (show OwnL scells 6 105 w1 base v1 L1 by simpa using ho1); have hsa : base ≤ w1.heap.size := (by have := HGA.out.size; have := HBS.out; omega); have HSA := Lib.hid hsa; have HBX := Lib.hid (show Blk w1 (base + 1) 105 _ from (hg1.block (base + 1) BX2.out.lt (by simp [Value.ownBlock])).trans BX2.out); clear hbw ho1 hg1 hat1)
     | (refine step_app kdS (by rfl) _ _ (by rfl) base _ [] (by rfl) OE3.out (some ⟨b7, o7, none⟩) t c2 L1 (by rfl) (HA1.out.below GE3.out) (by simp; omega) (by have := GE3.out.size; have := HBS.out; omega) ?_; intro v1 w1 ho1 hg1 hat1; have hbw := OE3.out.below hg1 (Nat.le_refl base) (by have := GE3.out.size; have := HBS.out; omega); have HGA := Lib.hid (show Below V.heap.size V w1 from GE3.out.trans (hbw.mono (by have := HBS.out; omega))); have HO1 := Lib.hid (show OwnL scells 6 105 w1 base v1 L1 by simpa using ho1); have hsa : base ≤ w1.heap.size := (by have := HGA.out.size; have := HBS.out; omega); have HSA := Lib.hid hsa; have HBX := Lib.hid (show Blk w1 base 105 _ from (hg1.block base BX3.out.lt (by simp [Value.ownBlock])).trans BX3.out); clear hbw ho1 hg1 hat1)
     | (refine step_app kdS (by rfl) _ _ (by rfl) base v1 L1 (by rfl) (HO1.out.ext (one_more w1 (.cells #[.int .i64 x.a, .int .i64 x.b, .int .i64 x.c, .int .i64 x.d, .int .i64 x.e, .int .i64 x.f] 105))) _ _ _ [x] (by rfl) (Blk.arr1 (f := scells) (size := 6) (x := x) (Blk.new w1 105 _)) (by have := HLL.out; omega) (by have := HSA.out; rw [World.size_alloc]; omega) ?_; intro v2 w2 ho2 hg2 hat2; have hbw := (HO1.out.ext (one_more w1 (.cells #[.int .i64 x.a, .int .i64 x.b, .int .i64 x.c, .int .i64 x.d, .int .i64 x.e, .int .i64 x.f] 105))).below hg2 (Nat.le_refl base) (by have := HSA.out; rw [World.size_alloc]; omega); have HGB := Lib.hid (show Below V.heap.size V w2 from (HGA.out.trans ((one_more w1 _).mono (by have := HSA.out; have := HBS.out; omega))).trans (hbw.mono (by have := HBS.out; omega))); have HO2 := Lib.hid ho2; have hsb : base ≤ w2.heap.size := (by have := HGB.out.size; have := HBS.out; omega); have HSB := Lib.hid hsb; clear hbw ho2 hg2 hat2)
     | (refine step_app kdS (by rfl) _ _ (by rfl) base v1 L1 (by rfl) HO1.out _ _ _ [x] (by rfl) (Blk.arr1 (f := scells) (size := 6) (x := x) HBX.out) (by have := HLL.out; omega) (by have := HSA.out; omega) ?_; intro v2 w2 ho2 hg2 hat2; have hbw := HO1.out.below hg2 (Nat.le_refl base) (by have := HSA.out; omega); have HGB := Lib.hid (show Below V.heap.size V w2 from HGA.out.trans (hbw.mono (by have := HBS.out; omega))); have HO2 := Lib.hid ho2; have hsb : base ≤ w2.heap.size := (by have := HGB.out.size; have := HBS.out; omega); have HSB := Lib.hid hsb; clear hbw ho2 hg2 hat2)
     | (go_loud (refine step_app kdS (by rfl) _ _ (by rfl) base v2 (L1 ++ [x]) (by rfl) HO2.out (if c2 = t then some ⟨b7, o7, none⟩ else some ⟨b7, o7 + t * 6, none⟩) (n2 - t) (c2 - t) L2 (by rfl) (HA2.out.below HGB.out) (by have := HLL.out; simp; omega) (by have := HSB.out; omega) ?_); intro v3 w3 ho3 hg3 hat3; have hbw := HO2.out.below hg3 (Nat.le_refl base) (by have := HSB.out; omega); have HGC := Lib.hid (show Below V.heap.size V w3 from HGB.out.trans (hbw.mono (by have := HBS.out; omega))); obtain ⟨M2, g2, e2, -, -, -, -⟩ := OwnL.arr kdS ho3; obtain ⟨k2, hk2⟩ : ∃ q, (L1 ++ [x] ++ L2).length = q := ⟨_, rfl⟩; rw [hk2] at e2; subst e2; have HO3 := Lib.hid ho3; have tt := (HBQV.out.ext HGC.out).cell 3; have tf := (HBQV.out.ext HGC.out).frozen 3; clear hbw ho3 hg3 hat3 hk2))
    all_goals (
     have HBQF := Lib.hid (show Blk (w3.setCell ⟨V3.heap.size, 3, none⟩ (.slice M2 k2 g2)) V3.heap.size 38 #[.int .i64 p.lo, .int .i64 p.hi, .slice F1 a1 f1, .slice M2 k2 g2, .slice F3 a3 f3, .int .i64 p.geese] from (HBQV.out.ext HGC.out).set_ 3 (.slice M2 k2 g2))
     have HB3F := Lib.hid ((HB3V.out.ext HGC.out).far (p := ⟨V3.heap.size, 3, none⟩) (Nat.ne_of_lt HNE3.out) (.slice M2 k2 g2))
     have HBB := Lib.hid (HB9.out.lt)
     have N1 := Lib.hid (own_lt HPQ.out.1 (k := V3.heap.size))
     have N3 := Lib.hid (own_lt HPQ.out.2.2 (k := V3.heap.size))
     have N2 := Lib.hid (own_lt HO3.out (k := V3.heap.size))
     have HOE := Lib.hid (show OwnP (w3.setCell ⟨V3.heap.size, 3, none⟩ (.slice M2 k2 g2)) (w.heap.size + 1 + 1 + 1) Q F1 M2 F3 a1 f1 k2 g2 a3 f3 from ⟨
      by
       have h := ((HPQV.out.1.ext HGC.out).apart (p := ⟨V3.heap.size, 3, none⟩) (fun e => by have := N1.out e; omega) (.slice M2 k2 g2)).mono (show w.heap.size + 1 + 1 + 1 ≤ _ from HBB.out)
       rw [← HQ.out]; exact h,
      by
       have h := (HO3.out.apart (p := ⟨V3.heap.size, 3, none⟩) (fun e => by have h1 := N2.out e; have h2 := HSTV.out; have h3 := HBS.out; omega) (.slice M2 k2 g2)).mono (show w.heap.size + 1 + 1 + 1 ≤ _ by have h1 := HNE3.out; have h2 := HSTV.out; have h3 := HBS.out; omega)
       rw [HQS.out]; simpa using h,
      by
       have h := ((HPQV.out.2.2.ext HGC.out).apart (p := ⟨V3.heap.size, 3, none⟩) (fun e => by have := N3.out e; omega) (.slice M2 k2 g2)).mono (show w.heap.size + 1 + 1 + 1 ≤ _ from HBB.out)
       rw [← HQ.out]; exact h⟩)
     have GBIG := Lib.hid ((G5.out.trans ((HG2.out.trans (HGC.out.mono HG2.out.size)).mono G5.out.size)).setCell (p := ⟨V3.heap.size, 3, none⟩) (by have := HNE3.out; show w.heap.size ≤ V3.heap.size; omega) (.slice M2 k2 g2))
     have HQB := Lib.hid (show Q.lo = p.lo ∧ Q.hi = p.hi ∧ Q.geese = p.geese by rw [← HQ.out]; exact ⟨rfl, rfl, rfl⟩)
     obtain ⟨W9, hW9⟩ : ∃ W, w3.setCell ⟨V3.heap.size, 3, none⟩ (.slice M2 k2 g2) = W := ⟨_, rfl⟩
     rw [hW9] at HBQF HB3F HOE GBIG
     rw [hW9]
     have l0 := HBQF.out.cell 0
     have l1 := HBQF.out.cell 1
     have l2 := HBQF.out.cell 2
     have l3 := HBQF.out.cell 3
     have l4 := HBQF.out.cell 4
     have l5 := HBQF.out.cell 5
     have m0 := HB3F.out.cell 0
     have z0 := HB3F.out.frozen 0
     have m1 := HB3F.out.cell 1
     have z1 := HB3F.out.frozen 1
     have m2 := HB3F.out.cell 2
     have z2 := HB3F.out.frozen 2
     have m3 := HB3F.out.cell 3
     have z3 := HB3F.out.frozen 3
     have m4 := HB3F.out.cell 4
     have z4 := HB3F.out.frozen 4
     have m5 := HB3F.out.cell 5
     have z5 := HB3F.out.frozen 5
     clear hW9 hbase)
    all_goals (try go_wp2_with fail)
    all_goals (
     have hb9 := HB3F.out.setAll6 (.int .i64 p.lo) (.int .i64 p.hi) (.slice F1 a1 f1) (.slice M2 k2 g2) (.slice F3 a3 f3) (.int .i64 p.geese)
     have HOF := Lib.hid (HOE.out.setAll6 (b := w.heap.size + 1 + 1) (by omega) (.int .i64 p.lo) (.int .i64 p.hi) (.slice F1 a1 f1) (.slice M2 k2 g2) (.slice F3 a3 f3) (.int .i64 p.geese))
     have HG9 := Lib.hid (below_setAll6 (b := w.heap.size + 1 + 1) GBIG.out (by omega) (.int .i64 p.lo) (.int .i64 p.hi) (.slice F1 a1 f1) (.slice M2 k2 g2) (.slice F3 a3 f3) (.int .i64 p.geese))
     have t0 := hb9.cell 0
     have t1 := hb9.cell 1
     have t2 := hb9.cell 2
     have t3 := hb9.cell 3
     have t4 := hb9.cell 4
     have t5 := hb9.cell 5
     clear hb9
     refine bodyPost_ret (v := .tuple #[plv Q F1 M2 F3 a1 f1 k2 g2 a3 f3, .int .i64 0]) ?_ rfl ⟨⟨_, _, _, _, _, _, _, _, _, rfl, HOF.out.mono (by omega)⟩, HG9.out⟩
     obtain ⟨h1, h2, h3⟩ := HQB.out
     simp [results, Tryz.results61, go_sem, t0, t1, t2, t3, t4, t5, h1, h2, h3])
end Go.Proofs.YtkoejeghihcmlaaGreat

namespace Go.Proofs.YtkoejeghihcmlaaGreat
open Go.RowKit Go.Shelf
/-- The error of Stands, and its plot. -/
def stE (p : Pl) (x : Six) : Int := if okPl p = true then (if isLoad x = true then (if hasI (srcsAll p) x.a = true then 11 else if p.stands.length < 60 then 0 else 2) else 11) else 13
def stP (p : Pl) (x : Six) : Pl := if stE p x = 0 then plusAt p x else zeroPl
def StEnd (q : Pl) (code : Int) (w : World) (e : Ending) (w' : World) : Prop :=
 (∃ D1 m1 d1 D2 m2 d2 D3 m3 d3, e = .returned (.tuple #[plv q D1 D2 D3 m1 d1 m2 d2 m3 d3, .int .i64 code]) ∧ Pa w' q D1 D2 D3 m1 d1 m2 d2 m3 d3) ∧ Below w.heap.size w w'
theorem stEnd_zero {code : Int} {w : World} {e : Ending} {w' : World} (h : StandsEnd0 code w e w') : StEnd zeroPl code w e w' := by
 obtain ⟨⟨v1, v2, v3, rfl, hc⟩, hg⟩ := h
 obtain ⟨D1, m1, d1, D2, m2, d2, D3, m3, d3, rfl, rfl, rfl, hp⟩ := hc.slices
 exact ⟨⟨D1, m1, d1, D2, m2, d2, D3, m3, d3, rfl, hp⟩, hg⟩
theorem stEnd_r {q : Pl} {code : Int} {w : World} {e : Ending} {w' : World} (h : RStEnd q code w e w') : StEnd q code w e w' := by
 obtain ⟨⟨F1, a1, f1, F2, a2, f2, F3, a3, f3, rfl, hc⟩, hg⟩ := h
 exact ⟨⟨F1, a1, f1, F2, a2, f2, F3, a3, f3, rfl, hc.pa⟩, hg⟩
theorem stands_60 {p : Pl} (h : okPl p = true) : p.stands.length ≤ 60 := by
 unfold okPl at h
 simp only [Bool.and_eq_true] at h
 exact okL_len h.1.1.1.2
theorem standsAll_any (p : Pl) (A1 A2 A3 : Option Addr) (n1 c1 n2 c2 n3 c3 : Nat) (x : Six) (w : World) (hp : Pa w p A1 A2 A3 n1 c1 n2 c2 n3 c3) :
  Calls Tryz.prog 60 #[plv p A1 A2 A3 n1 c1 n2 c2 n3 c3, sv x] w (StEnd (stP p x) (stE p x) w) := by
 by_cases hok : okPl p = true
 ·by_cases hx : isLoad x = true
  ·by_cases hh : hasI (srcsAll p) x.a = true
   ·have e : stE p x = 11 := by unfold stE; rw [if_pos hok, if_pos hx, if_pos hh]
    rw [show stP p x = zeroPl by unfold stP; rw [e, if_neg (by decide)], e]
    exact (standsHas_any p A1 A2 A3 n1 c1 n2 c2 n3 c3 x w hp hok hx hh).mono fun e w' hh => stEnd_zero hh
   ·by_cases hl : p.stands.length < 60
    ·have e : stE p x = 0 := by unfold stE; rw [if_pos hok, if_pos hx, if_neg hh, if_pos hl]
     rw [show stP p x = plusAt p x by unfold stP; rw [e, if_pos rfl], e]
     refine (standsOk_any p A1 A2 A3 n1 c1 n2 c2 n3 c3 x w hp hok hx (by simpa using hh) hl).mono ?_
     exact fun e w' hh => by
      obtain ⟨⟨D1, m1, d1, D2, m2, d2, D3, m3, d3, rfl, hc⟩, hg⟩ := hh
      obtain ⟨E1, y1, g1, E2, y2, g2, E3, y3, g3, i1, i2, i3, hp⟩ := hc.slices
      cases i1; cases i2; cases i3
      exact ⟨⟨_, _, _, _, _, _, _, _, _, rfl, hp⟩, hg⟩
    ·have e : stE p x = 2 := by unfold stE; rw [if_pos hok, if_pos hx, if_neg hh, if_neg hl]
     rw [show stP p x = zeroPl by unfold stP; rw [e, if_neg (by decide)], e]
     exact (standsFull_any p A1 A2 A3 n1 c1 n2 c2 n3 c3 x w hp hok hx (by simpa using hh) (by have := stands_60 hok; omega)).mono fun e w' hh => stEnd_zero hh
  ·have e : stE p x = 11 := by unfold stE; rw [if_pos hok, if_neg hx]
   rw [show stP p x = zeroPl by unfold stP; rw [e, if_neg (by decide)], e]
   exact (standsInv_any p A1 A2 A3 n1 c1 n2 c2 n3 c3 x w hp hok (by simpa using hx)).mono fun e w' hh => stEnd_zero hh
 ·have e : stE p x = 13 := by unfold stE; rw [if_neg hok]
  rw [show stP p x = zeroPl by unfold stP; rw [e, if_neg (by decide)], e]
  exact (standsBad_any p A1 A2 A3 n1 c1 n2 c2 n3 c3 x w hp (by simpa using hok)).mono fun e w' hh => stEnd_zero hh
theorem refStAll_any (p : Pl) (A1 A2 A3 : Option Addr) (n1 c1 n2 c2 n3 c3 : Nat) (x : Six) (w : World) (hp : Pa w p A1 A2 A3 n1 c1 n2 c2 n3 c3) :
  Calls Tryz.prog 61 #[plv p A1 A2 A3 n1 c1 n2 c2 n3 c3, sv x] w (StEnd (stP p x) (stE p x) w) := by
 by_cases hok : okPl p = true
 ·by_cases hx : isLoad x = true
  ·by_cases hh : hasI (srcsAll p) x.a = true
   ·have e : stE p x = 11 := by unfold stE; rw [if_pos hok, if_pos hx, if_pos hh]
    rw [show stP p x = zeroPl by unfold stP; rw [e, if_neg (by decide)], e]
    exact (refStHas_any p A1 A2 A3 n1 c1 n2 c2 n3 c3 x w hp hok hx hh).mono fun e w' hh => stEnd_r hh
   ·by_cases hl : p.stands.length < 60
    ·have e : stE p x = 0 := by unfold stE; rw [if_pos hok, if_pos hx, if_neg hh, if_pos hl]
     rw [show stP p x = plusAt p x by unfold stP; rw [e, if_pos rfl], e]
     refine (refStOk_any p A1 A2 A3 n1 c1 n2 c2 n3 c3 x w hp hok hx (by simpa using hh) hl).mono ?_
     exact fun e w' hh => stEnd_r hh
    ·have e : stE p x = 2 := by unfold stE; rw [if_pos hok, if_pos hx, if_neg hh, if_neg hl]
     rw [show stP p x = zeroPl by unfold stP; rw [e, if_neg (by decide)], e]
     exact (refStFull_any p A1 A2 A3 n1 c1 n2 c2 n3 c3 x w hp hok hx (by simpa using hh) (by have := stands_60 hok; omega)).mono fun e w' hh => stEnd_r hh
  ·have e : stE p x = 11 := by unfold stE; rw [if_pos hok, if_neg hx]
   rw [show stP p x = zeroPl by unfold stP; rw [e, if_neg (by decide)], e]
   exact (refStInv_any p A1 A2 A3 n1 c1 n2 c2 n3 c3 x w hp hok (by simpa using hx)).mono fun e w' hh => stEnd_r hh
 ·have e : stE p x = 13 := by unfold stE; rw [if_neg hok]
  rw [show stP p x = zeroPl by unfold stP; rw [e, if_neg (by decide)], e]
  exact (refStBad_any p A1 A2 A3 n1 c1 n2 c2 n3 c3 x w hp (by simpa using hok)).mono fun e w' hh => stEnd_r hh
theorem dates_short (p : Pl) : (if okPl p = true then datesL p else []).length ≤ 1000000 := by
 split
 ·rename_i h
  rw [← dates_ref h]
  unfold rdL
  have a1 := rdF_len p.loads []
  have a2 := rdF_len p.stands (rdF p.loads [])
  have a3 := rdF_len p.spells (rdF p.stands (rdF p.loads []))
  have h2 := ok_parts h
  have h3 := h2.2.2.2.2.2.1
  have h4 := h2.2.2.2.2.2.2.1
  have h5 := h2.2.2.2.2.2.2.2.1
  simp only [List.length_nil] at a1
  omega
 ·simp
set_option maxRecDepth 100000 in
set_option maxHeartbeats 16000000 in
theorem law12_any (p : Pl) (A1 A2 A3 : Option Addr) (n1 c1 n2 c2 n3 c3 : Nat) (x1 x2 x3 : Six) (source : Int) (w : World) (hp : Pa w p A1 A2 A3 n1 c1 n2 c2 n3 c3) :
  Calls Tryz.prog 12 #[plv p A1 A2 A3 n1 c1 n2 c2 n3 c3, .agg #[.int .i64 x1.a, .int .i64 x1.b, .int .i64 x1.c, .int .i64 x1.d, .int .i64 x1.e, .int .i64 x1.f, .int .i64 x2.a, .int .i64 x2.b, .int .i64 x2.c, .int .i64 x2.d, .int .i64 x2.e, .int .i64 x2.f, .int .i64 x3.a, .int .i64 x3.b, .int .i64 x3.c, .int .i64 x3.d, .int .i64 x3.e, .int .i64 x3.f], .int .i64 source] w fun e w' => e = .returned (.bool true) ∧ Below w.heap.size w w' := by
 obtain ⟨W1, hW1⟩ : ∃ W1, (w.alloc (.cells (plb p A1 A2 A3 n1 c1 n2 c2 n3 c3) 38)).alloc (.cells #[.int .i64 x1.a, .int .i64 x1.b, .int .i64 x1.c, .int .i64 x1.d, .int .i64 x1.e, .int .i64 x1.f, .int .i64 x2.a, .int .i64 x2.b, .int .i64 x2.c, .int .i64 x2.d, .int .i64 x2.e, .int .i64 x2.f, .int .i64 x3.a, .int .i64 x3.b, .int .i64 x3.c, .int .i64 x3.d, .int .i64 x3.e, .int .i64 x3.f] 121) = W1 := ⟨_, rfl⟩
 have G1 := Lib.hid (show Below w.heap.size w W1 by rw [← hW1]; exact two_more _ _ _)
 have BP := Lib.hid (show Blk W1 w.heap.size 38 (plb p A1 A2 A3 n1 c1 n2 c2 n3 c3) by rw [← hW1]; exact (Blk.new _ _ _).alloc _)
 have BQ := Lib.hid (show Blk W1 (w.heap.size + 1) 121 #[.int .i64 x1.a, .int .i64 x1.b, .int .i64 x1.c, .int .i64 x1.d, .int .i64 x1.e, .int .i64 x1.f, .int .i64 x2.a, .int .i64 x2.b, .int .i64 x2.c, .int .i64 x2.d, .int .i64 x2.e, .int .i64 x2.f, .int .i64 x3.a, .int .i64 x3.b, .int .i64 x3.c, .int .i64 x3.d, .int .i64 x3.e, .int .i64 x3.f] by
  rw [← hW1]
  have := Blk.new (w.alloc (.cells (plb p A1 A2 A3 n1 c1 n2 c2 n3 c3) 38)) 121 #[.int .i64 x1.a, .int .i64 x1.b, .int .i64 x1.c, .int .i64 x1.d, .int .i64 x1.e, .int .i64 x1.f, .int .i64 x2.a, .int .i64 x2.b, .int .i64 x2.c, .int .i64 x2.d, .int .i64 x2.e, .int .i64 x2.f, .int .i64 x3.a, .int .i64 x3.b, .int .i64 x3.c, .int .i64 x3.d, .int .i64 x3.e, .int .i64 x3.f]
  rwa [World.size_alloc] at this)
 have HPA := Lib.hid (hp.below G1.out)
 have HW1 := Lib.hid hW1
 have S0 := fun W (h : Pa W p A1 A2 A3 n1 c1 n2 c2 n3 c3) => standsAll_any p A1 A2 A3 n1 c1 n2 c2 n3 c3 x2 W h
 have S1 := fun W (h : Pa W p A1 A2 A3 n1 c1 n2 c2 n3 c3) => refStAll_any p A1 A2 A3 n1 c1 n2 c2 n3 c3 x2 W h
 have S2 := fun W (h : Pa W p A1 A2 A3 n1 c1 n2 c2 n3 c3) => wio_any p A1 A2 A3 n1 c1 n2 c2 n3 c3 source W h
 have S3 := fun W (h : Pa W p A1 A2 A3 n1 c1 n2 c2 n3 c3) => refWio_any p A1 A2 A3 n1 c1 n2 c2 n3 c3 source W h
 have S4 := fun W (h : Pa W p A1 A2 A3 n1 c1 n2 c2 n3 c3) => dates_any p A1 A2 A3 n1 c1 n2 c2 n3 c3 W h
 have S5 := fun W (h : Pa W p A1 A2 A3 n1 c1 n2 c2 n3 c3) => refDates_any p A1 A2 A3 n1 c1 n2 c2 n3 c3 W h
 have S6 := fun W (h : Pa W p A1 A2 A3 n1 c1 n2 c2 n3 c3) => check_any p A1 A2 A3 n1 c1 n2 c2 n3 c3 W h
 have S7 := fun W (h : Pa W p A1 A2 A3 n1 c1 n2 c2 n3 c3) => refCheck_any p A1 A2 A3 n1 c1 n2 c2 n3 c3 W h
 have hsh := dates_short p
 obtain ⟨sq, esq⟩ : ∃ s, stP p x2 = s := ⟨_, rfl⟩
 obtain ⟨se, ese⟩ : ∃ s, stE p x2 = s := ⟨_, rfl⟩
 obtain ⟨wq, ewq⟩ : ∃ s, wioP p source = s := ⟨_, rfl⟩
 obtain ⟨we, ewe⟩ : ∃ s, wioE p source = s := ⟨_, rfl⟩
 obtain ⟨dl, edl⟩ : ∃ s, (if okPl p = true then datesL p else []) = s := ⟨_, rfl⟩
 obtain ⟨ce, ece⟩ : ∃ s, err (okPl p) 13 = s := ⟨_, rfl⟩
 unfold DatesEnd at S5
 unfold WioEnd at S2
 unfold StEnd at S0 S1
 rw [esq, ese] at S0 S1
 rw [ewq, ewe] at S2 S3
 rw [edl, ece] at S4 S5
 rw [ece] at S6 S7
 rw [edl] at hsh
 have T0 := Lib.hid S0
 have T1 := Lib.hid S1
 have T2 := Lib.hid S2
 have T3 := Lib.hid S3
 have T4 := Lib.hid S4
 have T5 := Lib.hid S5
 have T6 := Lib.hid S6
 have T7 := Lib.hid S7
 have HSH := Lib.hid hsh
 clear S0 S1 S2 S3 S4 S5 S6 S7 hsh esq ese ewq ewe edl ece hp hW1
 go_enter Tryz.func12, Tryz.ntmps12
 go_upto_region 1 with fail
 rw [HW1.out]
 go_upto_region 2 with (go_at_call 34; (with_reducible refine (sane_any _).mono ?_); rintro e V1 ⟨rfl, hg⟩)
 have G2 := Lib.hid (G1.out.trans (hg.mono G1.out.size))
 have BP := Lib.hid (BP.out.ext hg)
 have BQ := Lib.hid (BQ.out.ext hg)
 have HPA := Lib.hid (HPA.out.below hg)
 clear hg
 have k0 := BP.out.cell 0
 have k1 := BP.out.cell 1
 have k2 := BP.out.cell 2
 have k3 := BP.out.cell 3
 have k4 := BP.out.cell 4
 have k5 := BP.out.cell 5
 have h6 := BQ.out.cell 6
 have h7 := BQ.out.cell 7
 have h8 := BQ.out.cell 8
 have h9 := BQ.out.cell 9
 have h10 := BQ.out.cell 10
 have h11 := BQ.out.cell 11
 go_upto_region 3 with (go_at_call 60; (with_reducible refine (T0.out _ HPA.out).mono ?_); rintro e U0 ⟨⟨D10, m10, d10, D20, m20, d20, D30, m30, d30, rfl, hpq⟩, hg⟩; have HQ0 := Lib.hid hpq; clear hpq)
 clear k0 k1 k2 k3 k4 k5 h6 h7 h8 h9 h10 h11
 have G3 := Lib.hid (G2.out.trans (hg.mono G2.out.size))
 have BP := Lib.hid (BP.out.ext hg)
 have BQ := Lib.hid (BQ.out.ext hg)
 have HPA := Lib.hid (HPA.out.below hg)
 clear hg
 obtain ⟨X4, hX4⟩ : ∃ X, U0.alloc (.cells (plb sq D10 D20 D30 m10 d10 m20 d20 m30 d30) 38) = X := ⟨_, rfl⟩
 have hg : Below U0.heap.size U0 X4 := by rw [← hX4]; exact one_more _ _
 have BX0 := Lib.hid (show Blk X4 U0.heap.size 38 (plb sq D10 D20 D30 m10 d10 m20 d20 m30 d30) by rw [← hX4]; exact Blk.new _ _ _)
 rw [hX4]
 clear hX4
 have G4 := Lib.hid (G3.out.trans (hg.mono G3.out.size))
 have BP := Lib.hid (BP.out.ext hg)
 have BQ := Lib.hid (BQ.out.ext hg)
 have HPA := Lib.hid (HPA.out.below hg)
 have HQ0 := Lib.hid (HQ0.out.below hg)
 clear hg
 have k0 := BP.out.cell 0
 have k1 := BP.out.cell 1
 have k2 := BP.out.cell 2
 have k3 := BP.out.cell 3
 have k4 := BP.out.cell 4
 have k5 := BP.out.cell 5
 have h6 := BQ.out.cell 6
 have h7 := BQ.out.cell 7
 have h8 := BQ.out.cell 8
 have h9 := BQ.out.cell 9
 have h10 := BQ.out.cell 10
 have h11 := BQ.out.cell 11
 go_upto_region 4 with (go_at_call 61; (with_reducible refine (T1.out _ HPA.out).mono ?_); rintro e U1 ⟨⟨D11, m11, d11, D21, m21, d21, D31, m31, d31, rfl, hpq⟩, hg⟩; have HQ1 := Lib.hid hpq; clear hpq)
 clear k0 k1 k2 k3 k4 k5 h6 h7 h8 h9 h10 h11
 have G5 := Lib.hid (G4.out.trans (hg.mono G4.out.size))
 have BP := Lib.hid (BP.out.ext hg)
 have BQ := Lib.hid (BQ.out.ext hg)
 have BX0 := Lib.hid (BX0.out.ext hg)
 have HPA := Lib.hid (HPA.out.below hg)
 have HQ0 := Lib.hid (HQ0.out.below hg)
 clear hg
 obtain ⟨X6, hX6⟩ : ∃ X, U1.alloc (.cells (plb sq D11 D21 D31 m11 d11 m21 d21 m31 d31) 38) = X := ⟨_, rfl⟩
 have hg : Below U1.heap.size U1 X6 := by rw [← hX6]; exact one_more _ _
 have BX1 := Lib.hid (show Blk X6 U1.heap.size 38 (plb sq D11 D21 D31 m11 d11 m21 d21 m31 d31) by rw [← hX6]; exact Blk.new _ _ _)
 rw [hX6]
 clear hX6
 have G6 := Lib.hid (G5.out.trans (hg.mono G5.out.size))
 have BP := Lib.hid (BP.out.ext hg)
 have BQ := Lib.hid (BQ.out.ext hg)
 have BX0 := Lib.hid (BX0.out.ext hg)
 have HPA := Lib.hid (HPA.out.below hg)
 have HQ0 := Lib.hid (HQ0.out.below hg)
 have HQ1 := Lib.hid (HQ1.out.below hg)
 clear hg
 have k0 := BP.out.cell 0
 have k1 := BP.out.cell 1
 have k2 := BP.out.cell 2
 have k3 := BP.out.cell 3
 have k4 := BP.out.cell 4
 have k5 := BP.out.cell 5
 have h6 := BQ.out.cell 6
 have h7 := BQ.out.cell 7
 have h8 := BQ.out.cell 8
 have h9 := BQ.out.cell 9
 have h10 := BQ.out.cell 10
 have h11 := BQ.out.cell 11
 go_upto_region 5 with (go_at_call 46; (with_reducible refine (T2.out _ HPA.out).mono ?_); rintro e U2 ⟨⟨v1, v2, v3, rfl, hpo⟩, hg⟩; obtain ⟨D12, m12, d12, D22, m22, d22, D32, m32, d32, rfl, rfl, rfl, hpq⟩ := hpo.slices; clear hpo; have HQ2 := Lib.hid hpq; clear hpq)
 clear k0 k1 k2 k3 k4 k5 h6 h7 h8 h9 h10 h11
 have G7 := Lib.hid (G6.out.trans (hg.mono G6.out.size))
 have BP := Lib.hid (BP.out.ext hg)
 have BQ := Lib.hid (BQ.out.ext hg)
 have BX0 := Lib.hid (BX0.out.ext hg)
 have BX1 := Lib.hid (BX1.out.ext hg)
 have HPA := Lib.hid (HPA.out.below hg)
 have HQ0 := Lib.hid (HQ0.out.below hg)
 have HQ1 := Lib.hid (HQ1.out.below hg)
 clear hg
 obtain ⟨X8, hX8⟩ : ∃ X, U2.alloc (.cells (plb wq D12 D22 D32 m12 d12 m22 d22 m32 d32) 38) = X := ⟨_, rfl⟩
 have hg : Below U2.heap.size U2 X8 := by rw [← hX8]; exact one_more _ _
 have BX2 := Lib.hid (show Blk X8 U2.heap.size 38 (plb wq D12 D22 D32 m12 d12 m22 d22 m32 d32) by rw [← hX8]; exact Blk.new _ _ _)
 rw [hX8]
 clear hX8
 have G8 := Lib.hid (G7.out.trans (hg.mono G7.out.size))
 have BP := Lib.hid (BP.out.ext hg)
 have BQ := Lib.hid (BQ.out.ext hg)
 have BX0 := Lib.hid (BX0.out.ext hg)
 have BX1 := Lib.hid (BX1.out.ext hg)
 have HPA := Lib.hid (HPA.out.below hg)
 have HQ0 := Lib.hid (HQ0.out.below hg)
 have HQ1 := Lib.hid (HQ1.out.below hg)
 have HQ2 := Lib.hid (HQ2.out.below hg)
 clear hg
 have k0 := BP.out.cell 0
 have k1 := BP.out.cell 1
 have k2 := BP.out.cell 2
 have k3 := BP.out.cell 3
 have k4 := BP.out.cell 4
 have k5 := BP.out.cell 5
 have h6 := BQ.out.cell 6
 have h7 := BQ.out.cell 7
 have h8 := BQ.out.cell 8
 have h9 := BQ.out.cell 9
 have h10 := BQ.out.cell 10
 have h11 := BQ.out.cell 11
 go_upto_region 6 with (go_at_call 62; (with_reducible refine (T3.out _ HPA.out).mono ?_); rintro e U3 ⟨⟨D13, m13, d13, D23, m23, d23, D33, m33, d33, rfl, hpo⟩, hg⟩; have hpq := hpo.pa; clear hpo; have HQ3 := Lib.hid hpq; clear hpq)
 clear k0 k1 k2 k3 k4 k5 h6 h7 h8 h9 h10 h11
 have G9 := Lib.hid (G8.out.trans (hg.mono G8.out.size))
 have BP := Lib.hid (BP.out.ext hg)
 have BQ := Lib.hid (BQ.out.ext hg)
 have BX0 := Lib.hid (BX0.out.ext hg)
 have BX1 := Lib.hid (BX1.out.ext hg)
 have BX2 := Lib.hid (BX2.out.ext hg)
 have HPA := Lib.hid (HPA.out.below hg)
 have HQ0 := Lib.hid (HQ0.out.below hg)
 have HQ1 := Lib.hid (HQ1.out.below hg)
 have HQ2 := Lib.hid (HQ2.out.below hg)
 clear hg
 obtain ⟨X10, hX10⟩ : ∃ X, U3.alloc (.cells (plb wq D13 D23 D33 m13 d13 m23 d23 m33 d33) 38) = X := ⟨_, rfl⟩
 have hg : Below U3.heap.size U3 X10 := by rw [← hX10]; exact one_more _ _
 have BX3 := Lib.hid (show Blk X10 U3.heap.size 38 (plb wq D13 D23 D33 m13 d13 m23 d23 m33 d33) by rw [← hX10]; exact Blk.new _ _ _)
 rw [hX10]
 clear hX10
 have G10 := Lib.hid (G9.out.trans (hg.mono G9.out.size))
 have BP := Lib.hid (BP.out.ext hg)
 have BQ := Lib.hid (BQ.out.ext hg)
 have BX0 := Lib.hid (BX0.out.ext hg)
 have BX1 := Lib.hid (BX1.out.ext hg)
 have BX2 := Lib.hid (BX2.out.ext hg)
 have HPA := Lib.hid (HPA.out.below hg)
 have HQ0 := Lib.hid (HQ0.out.below hg)
 have HQ1 := Lib.hid (HQ1.out.below hg)
 have HQ2 := Lib.hid (HQ2.out.below hg)
 have HQ3 := Lib.hid (HQ3.out.below hg)
 clear hg
 have k0 := BP.out.cell 0
 have k1 := BP.out.cell 1
 have k2 := BP.out.cell 2
 have k3 := BP.out.cell 3
 have k4 := BP.out.cell 4
 have k5 := BP.out.cell 5
 have h6 := BQ.out.cell 6
 have h7 := BQ.out.cell 7
 have h8 := BQ.out.cell 8
 have h9 := BQ.out.cell 9
 have h10 := BQ.out.cell 10
 have h11 := BQ.out.cell 11
 go_upto_region 7 with (go_at_call 44; (with_reducible refine (T4.out _ HPA.out).mono ?_); rintro e Y0 ⟨⟨E0, r0, s0, rfl, hi⟩, hg⟩; have HI0 := Lib.hid hi; clear hi)
 clear k0 k1 k2 k3 k4 k5 h6 h7 h8 h9 h10 h11
 have G11 := Lib.hid (G10.out.trans (hg.mono G10.out.size))
 have BP := Lib.hid (BP.out.ext hg)
 have BQ := Lib.hid (BQ.out.ext hg)
 have BX0 := Lib.hid (BX0.out.ext hg)
 have BX1 := Lib.hid (BX1.out.ext hg)
 have BX2 := Lib.hid (BX2.out.ext hg)
 have BX3 := Lib.hid (BX3.out.ext hg)
 have HPA := Lib.hid (HPA.out.below hg)
 have HQ0 := Lib.hid (HQ0.out.below hg)
 have HQ1 := Lib.hid (HQ1.out.below hg)
 have HQ2 := Lib.hid (HQ2.out.below hg)
 have HQ3 := Lib.hid (HQ3.out.below hg)
 clear hg
 have k0 := BP.out.cell 0
 have k1 := BP.out.cell 1
 have k2 := BP.out.cell 2
 have k3 := BP.out.cell 3
 have k4 := BP.out.cell 4
 have k5 := BP.out.cell 5
 have h6 := BQ.out.cell 6
 have h7 := BQ.out.cell 7
 have h8 := BQ.out.cell 8
 have h9 := BQ.out.cell 9
 have h10 := BQ.out.cell 10
 have h11 := BQ.out.cell 11
 go_upto_region 8 with (go_at_call 63; (with_reducible refine (T5.out _ HPA.out).mono ?_); rintro e Y1 ⟨⟨E1, r1, s1, rfl, hi⟩, hg⟩; have HI1 := Lib.hid hi; clear hi)
 clear k0 k1 k2 k3 k4 k5 h6 h7 h8 h9 h10 h11
 have G12 := Lib.hid (G11.out.trans (hg.mono G11.out.size))
 have BP := Lib.hid (BP.out.ext hg)
 have BQ := Lib.hid (BQ.out.ext hg)
 have BX0 := Lib.hid (BX0.out.ext hg)
 have BX1 := Lib.hid (BX1.out.ext hg)
 have BX2 := Lib.hid (BX2.out.ext hg)
 have BX3 := Lib.hid (BX3.out.ext hg)
 have HPA := Lib.hid (HPA.out.below hg)
 have HQ0 := Lib.hid (HQ0.out.below hg)
 have HQ1 := Lib.hid (HQ1.out.below hg)
 have HQ2 := Lib.hid (HQ2.out.below hg)
 have HQ3 := Lib.hid (HQ3.out.below hg)
 have HI0 := Lib.hid (HI0.out.below hg)
 clear hg
 have k0 := BX0.out.cell 0
 have h0 := BX1.out.cell 0
 have k1 := BX0.out.cell 1
 have h1 := BX1.out.cell 1
 have k2 := BX0.out.cell 2
 have h2 := BX1.out.cell 2
 have k3 := BX0.out.cell 3
 have h3 := BX1.out.cell 3
 have k4 := BX0.out.cell 4
 have h4 := BX1.out.cell 4
 have k5 := BX0.out.cell 5
 have h5 := BX1.out.cell 5
 have HSP := Lib.hid (samePlot_any sq D10 D20 D30 D11 D21 D31 m10 d10 m20 d20 m30 d30 m11 d11 m21 d21 m31 d31 _ HQ0.out HQ1.out)
 go_upto_region 9 with (go_at_call 64; (with_reducible refine (HSP.out).mono ?_); rintro e Z0 ⟨rfl, hg⟩)
 clear HSP k0 h0 k1 h1 k2 h2 k3 h3 k4 h4 k5 h5
 have G13 := Lib.hid (G12.out.trans (hg.mono G12.out.size))
 have BP := Lib.hid (BP.out.ext hg)
 have BQ := Lib.hid (BQ.out.ext hg)
 have BX0 := Lib.hid (BX0.out.ext hg)
 have BX1 := Lib.hid (BX1.out.ext hg)
 have BX2 := Lib.hid (BX2.out.ext hg)
 have BX3 := Lib.hid (BX3.out.ext hg)
 have HPA := Lib.hid (HPA.out.below hg)
 have HQ0 := Lib.hid (HQ0.out.below hg)
 have HQ1 := Lib.hid (HQ1.out.below hg)
 have HQ2 := Lib.hid (HQ2.out.below hg)
 have HQ3 := Lib.hid (HQ3.out.below hg)
 have HI0 := Lib.hid (HI0.out.below hg)
 have HI1 := Lib.hid (HI1.out.below hg)
 clear hg
 have k0 := BX2.out.cell 0
 have h0 := BX3.out.cell 0
 have k1 := BX2.out.cell 1
 have h1 := BX3.out.cell 1
 have k2 := BX2.out.cell 2
 have h2 := BX3.out.cell 2
 have k3 := BX2.out.cell 3
 have h3 := BX3.out.cell 3
 have k4 := BX2.out.cell 4
 have h4 := BX3.out.cell 4
 have k5 := BX2.out.cell 5
 have h5 := BX3.out.cell 5
 have HSP := Lib.hid (samePlot_any wq D12 D22 D32 D13 D23 D33 m12 d12 m22 d22 m32 d32 m13 d13 m23 d23 m33 d33 _ HQ2.out HQ3.out)
 go_upto_region 10 with (go_at_call 64; (with_reducible refine (HSP.out).mono ?_); rintro e Z1 ⟨rfl, hg⟩)
 clear HSP k0 h0 k1 h1 k2 h2 k3 h3 k4 h4 k5 h5
 have G14 := Lib.hid (G13.out.trans (hg.mono G13.out.size))
 have BP := Lib.hid (BP.out.ext hg)
 have BQ := Lib.hid (BQ.out.ext hg)
 have BX0 := Lib.hid (BX0.out.ext hg)
 have BX1 := Lib.hid (BX1.out.ext hg)
 have BX2 := Lib.hid (BX2.out.ext hg)
 have BX3 := Lib.hid (BX3.out.ext hg)
 have HPA := Lib.hid (HPA.out.below hg)
 have HQ0 := Lib.hid (HQ0.out.below hg)
 have HQ1 := Lib.hid (HQ1.out.below hg)
 have HQ2 := Lib.hid (HQ2.out.below hg)
 have HQ3 := Lib.hid (HQ3.out.below hg)
 have HI0 := Lib.hid (HI0.out.below hg)
 have HI1 := Lib.hid (HI1.out.below hg)
 clear hg
 have SM := same_any E0 E1 r0 s0 r1 s1 dl dl Z1 HI0.out HI1.out (by have h1 := HI0.out.1; have h2 := HSH.out; omega) (by have h1 := HI1.out.1; have h2 := HSH.out; omega)
 rw [same_self] at SM
 have HSM := Lib.hid SM
 clear SM
 go_upto_region 11 with (go_at_call 41; (with_reducible refine (HSM.out).mono ?_); rintro e V8 ⟨rfl, hg⟩)
 have G15 := Lib.hid (G14.out.trans (hg.mono G14.out.size))
 have BP := Lib.hid (BP.out.ext hg)
 have BQ := Lib.hid (BQ.out.ext hg)
 have BX0 := Lib.hid (BX0.out.ext hg)
 have BX1 := Lib.hid (BX1.out.ext hg)
 have BX2 := Lib.hid (BX2.out.ext hg)
 have BX3 := Lib.hid (BX3.out.ext hg)
 have HPA := Lib.hid (HPA.out.below hg)
 have HQ0 := Lib.hid (HQ0.out.below hg)
 have HQ1 := Lib.hid (HQ1.out.below hg)
 have HQ2 := Lib.hid (HQ2.out.below hg)
 have HQ3 := Lib.hid (HQ3.out.below hg)
 have HI0 := Lib.hid (HI0.out.below hg)
 have HI1 := Lib.hid (HI1.out.below hg)
 clear hg
 have k0 := cellW (BP.out.cell 0)
 have k1 := cellW (BP.out.cell 1)
 have k2 := cellW (BP.out.cell 2)
 have k3 := cellW (BP.out.cell 3)
 have k4 := cellW (BP.out.cell 4)
 have k5 := cellW (BP.out.cell 5)
 have C6 := Lib.hid (fun (X : Wd V8) => T6.out X.val (HPA.out.below X.ok))
 have C7 := Lib.hid (fun (X : Wd V8) => T7.out X.val (HPA.out.below X.ok))
 refine wp_region_calm V8 (by kernel_rfl) (by kernel_rfl) (Below.refl _ _) ?_
 repeat (go_big_quiet_step (first | (go_at_call 65; exact callsCalm (C6.out _)) | (go_at_call 66; exact callsCalm (C7.out _))))
 refine wpQuiet_nil ?_
 rintro _ ⟨z, rfl⟩
 obtain ⟨V9, hV9⟩ : ∃ V9, z.val = V9 := ⟨_, rfl⟩
 have hg := z.ok
 rw [hV9] at hg ⊢
 clear hV9 z k0 k1 k2 k3 k4 k5 C6 C7
 have G16 := Lib.hid (G15.out.trans (hg.mono G15.out.size))
 have BP := Lib.hid (BP.out.ext hg)
 have BQ := Lib.hid (BQ.out.ext hg)
 have BX0 := Lib.hid (BX0.out.ext hg)
 have BX1 := Lib.hid (BX1.out.ext hg)
 have BX2 := Lib.hid (BX2.out.ext hg)
 have BX3 := Lib.hid (BX3.out.ext hg)
 have HPA := Lib.hid (HPA.out.below hg)
 have HQ0 := Lib.hid (HQ0.out.below hg)
 have HQ1 := Lib.hid (HQ1.out.below hg)
 have HQ2 := Lib.hid (HQ2.out.below hg)
 have HQ3 := Lib.hid (HQ3.out.below hg)
 have HI0 := Lib.hid (HI0.out.below hg)
 have HI1 := Lib.hid (HI1.out.below hg)
 clear hg
 have h0 := cellW (BQ.out.cell 0)
 have h1 := cellW (BQ.out.cell 1)
 have h2 := cellW (BQ.out.cell 2)
 have h3 := cellW (BQ.out.cell 3)
 have h4 := cellW (BQ.out.cell 4)
 have h5 := cellW (BQ.out.cell 5)
 have h6 := cellW (BQ.out.cell 6)
 have h7 := cellW (BQ.out.cell 7)
 have h8 := cellW (BQ.out.cell 8)
 have h9 := cellW (BQ.out.cell 9)
 have h10 := cellW (BQ.out.cell 10)
 have h11 := cellW (BQ.out.cell 11)
 have h12 := cellW (BQ.out.cell 12)
 have h13 := cellW (BQ.out.cell 13)
 have h14 := cellW (BQ.out.cell 14)
 have h15 := cellW (BQ.out.cell 15)
 have h16 := cellW (BQ.out.cell 16)
 have h17 := cellW (BQ.out.cell 17)
 go_upto_region 13 with fail
 obtain ⟨b1, hb1⟩ : ∃ s, err (isLoad x1) 10 = s := ⟨_, rfl⟩
 obtain ⟨b2, hb2⟩ : ∃ s, err (isLoad x2) 11 = s := ⟨_, rfl⟩
 obtain ⟨b3, hb3⟩ : ∃ s, err (isSpell x3) 12 = s := ⟨_, rfl⟩
 have R67 := fun (X : Wd V9) => checkLoad_any x1 X.val
 rw [hb1] at R67
 have C67 := Lib.hid R67
 clear R67
 have R68 := fun (X : Wd V9) => refLoad_any x1 X.val
 rw [hb1] at R68
 have C68 := Lib.hid R68
 clear R68
 have R69 := fun (X : Wd V9) => checkStand_any x2 X.val
 rw [hb2] at R69
 have C69 := Lib.hid R69
 clear R69
 have R70 := fun (X : Wd V9) => refStand_any x2 X.val
 rw [hb2] at R70
 have C70 := Lib.hid R70
 clear R70
 have R71 := fun (X : Wd V9) => checkSpell_any x3 X.val
 rw [hb3] at R71
 have C71 := Lib.hid R71
 clear R71
 have R72 := fun (X : Wd V9) => refSpell_any x3 X.val
 rw [hb3] at R72
 have C72 := Lib.hid R72
 clear R72
 clear hb1 hb2 hb3
 refine wp_region_calm V9 (by kernel_rfl) (by kernel_rfl) (Below.refl _ _) ?_
 repeat (go_big_quiet_step (first | (go_at_call 67; exact callsCalm (C67.out _)) | (go_at_call 68; exact callsCalm (C68.out _)) | (go_at_call 69; exact callsCalm (C69.out _)) | (go_at_call 70; exact callsCalm (C70.out _)) | (go_at_call 71; exact callsCalm (C71.out _)) | (go_at_call 72; exact callsCalm (C72.out _))))
 refine wpQuiet_nil ?_
 rintro _ ⟨z, rfl⟩
 have HZ := Lib.hid (G16.out.trans (z.ok.mono G16.out.size))
 go_wp2_with fail
 go_ret
 exact ⟨by first | rfl | simp, HZ.out⟩
end Go.Proofs.YtkoejeghihcmlaaGreat
