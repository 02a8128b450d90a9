/- Part of the proof: YG, UI, UJ, UK, UN, UO, UP, VK, XQ. -/
import Derived.Test.YtkoejeghihcmlaaGreatQA5
import Derived.Test.YtkoejeghihcmlaaGreatQA6
import Derived.Test.YtkoejeghihcmlaaGreatQA7
import Derived.Test.YtkoejeghihcmlaaGreatQA8
namespace Go.Proofs.YtkoejeghihcmlaaGreat
open Go.RowKit Go.Shelf
/-- A plot with a stand more, at its place. -/
def plusAt (p : Pl) (x : Six) : Pl := { p with stands := p.stands.take (insAt p.stands x.a) ++ x :: p.stands.drop (insAt p.stands x.a) }
theorem steps_stands {p : Pl} (h : okPl p = true) : ∀ j, j < p.stands.length → j = 0 ∨ (p.stands.getD (j - 1) z6).a < (p.stands.getD j z6).a := fun j hj => by
 unfold okPl at h
 simp only [Bool.and_eq_true] at h
 obtain ⟨⟨⟨⟨-, h1⟩, -⟩, -⟩, -⟩ := h
 have h2 := (okL_iff.1 h1).1 j hj
 unfold okAt at h2
 simp only [Bool.and_eq_true, Bool.or_eq_true, decide_eq_true_eq] at h2
 exact h2.1.2
set_option maxRecDepth 100000 in
set_option maxHeartbeats 8000000 in
theorem standsOk_any (p : Pl) (A1 A2 A3 : Option Addr) (n1 c1 n2 c2 n3 c3 : Nat) (x : Six) (w : World) (hp : Pa w p A1 A2 A3 n1 c1 n2 c2 n3 c3) (hok : okPl p = true) (hx : isLoad x = true) (hh : hasI (srcsAll p) x.a = false)
  (hl : p.stands.length < 60) :
  Calls Tryz.prog 60 #[plv p A1 A2 A3 n1 c1 n2 c2 n3 c3, sv x] w fun e w' => (∃ D1 m1 d1 D2 m2 d2 D3 m3 d3, e = .returned (.tuple #[plv (plusAt p x) D1 D2 D3 m1 d1 m2 d2 m3 d3, .int .i64 0]) ∧ Cp w' w.heap.size (plusAt p x) (.slice D1 m1 d1) (.slice D2 m2 d2) (.slice D3 m3 d3)) ∧ Below w.heap.size w w' := by
 obtain ⟨W1, hW1⟩ : ∃ W1, ((w.alloc (.cells (plb p A1 A2 A3 n1 c1 n2 c2 n3 c3) 38)).alloc (.cells #[.int .i64 x.a, .int .i64 x.b, .int .i64 x.c, .int .i64 x.d, .int .i64 x.e, .int .i64 x.f] 105)).alloc (.cells #[.int .i64 0, .int .i64 0, .slice none 0 0, .slice none 0 0, .slice none 0 0, .int .i64 0] 38) = W1 := ⟨_, rfl⟩
 have g1 : Below w.heap.size w W1 := by rw [← hW1]; exact three_more _ _ _ _
 have b1 : Blk W1 w.heap.size 38 (plb p A1 A2 A3 n1 c1 n2 c2 n3 c3) := by rw [← hW1]; exact ((Blk.new _ _ _).alloc _).alloc _
 have b2 : Blk W1 (w.heap.size + 1) 105 #[.int .i64 x.a, .int .i64 x.b, .int .i64 x.c, .int .i64 x.d, .int .i64 x.e, .int .i64 x.f] := by rw [← hW1]; exact blk3_2 _ _ _ _ _
 have b3 : Blk W1 (w.heap.size + 1 + 1) 38 #[.int .i64 0, .int .i64 0, .slice none 0 0, .slice none 0 0, .slice none 0 0, .int .i64 0] := by rw [← hW1]; exact blk3_3 _ _ _ _ _
 have p0 := b1.cell 0
 have p1 := b1.cell 1
 have p2 := b1.cell 2
 have p3 := b1.cell 3
 have p4 := b1.cell 4
 have p5 := b1.cell 5
 have T := check_any p A1 A2 A3 n1 c1 n2 c2 n3 c3 W1 (hp.below g1)
 rw [hok, show err true 13 = 0 from rfl] at T
 have HT := Lib.hid T
 have HPO := Lib.hid (ok_parts hok)
 have HPA := Lib.hid (hp.below g1)
 have HB1 := Lib.hid b1
 have HB2 := Lib.hid b2
 have HB3 := Lib.hid b3
 have G1 := Lib.hid g1
 have HN := Lib.hid (show n1 ≤ 1000 ∧ n2 ≤ 1000 ∧ n3 ≤ 1000 by
  have h1 := HPO.out.2.2.2.2.2.1
  have h2 := HPO.out.2.2.2.2.2.2.1
  have h3 := HPO.out.2.2.2.2.2.2.2.1
  have k1 := HPA.out.l1.1
  have k2 := HPA.out.l2.1
  have k3 := HPA.out.l3.1
  omega)
 have HSL := Lib.hid (show (srcsAll p).length ≤ 1000 by
  have h1 := HPO.out.2.2.2.2.2.1
  have h2 := HPO.out.2.2.2.2.2.2.1
  have h3 := HPO.out.2.2.2.2.2.2.2.1
  unfold srcsAll srt srcs
  rw [List.length_mergeSort, List.length_append, List.length_append, List.length_map, List.length_map, List.length_map]
  omega)
 have hn2 : n2 < 60 := by rw [← HPA.out.l2.1]; exact hl
 have HSX := Lib.hid (fun W => by have := checkStand_any x W; rwa [hx, show err true 11 = 0 from rfl] at this)
 have HSR := Lib.hid (fun W (g : Below W1.heap.size W1 W) => sources_any p A1 A2 A3 n1 c1 n2 c2 n3 c3 W (HPA.out.below g) hok)
 have HHH := Lib.hid hh
 have HM := Lib.hid (show ∀ i j, i < j → j < p.stands.length → (p.stands.getD i z6).a < (p.stands.getD j z6).a from fun i j h1 h2 => by
  have := rise_at (steps_stands hok) (j - i) i (by omega) (by omega)
  rwa [show i + (j - i) = j by omega] at this)
 obtain ⟨ax, hax⟩ : ∃ n, insAt p.stands x.a = n := ⟨_, rfl⟩
 obtain ⟨Q, hQ⟩ : ∃ q, plusAt p x = q := ⟨_, rfl⟩
 have HQS := Lib.hid (show Q.stands = p.stands.take ax ++ x :: p.stands.drop ax by rw [← hQ, ← hax]; rfl)
 have HQL := Lib.hid (show Q.loads = p.loads by rw [← hQ]; rfl)
 have HQP := Lib.hid (show Q.spells = p.spells by rw [← hQ]; rfl)
 have HQB := Lib.hid (show Q.lo = p.lo ∧ Q.hi = p.hi ∧ Q.geese = p.geese by rw [← hQ]; exact ⟨rfl, rfl, rfl⟩)
 have HAX := Lib.hid (show ax ≤ p.stands.length by rw [← hax]; exact insAt_le _ _)
 have HAE := Lib.hid hax
 rw [hQ]
 clear hQ hax
 have HW1 := Lib.hid hW1
 have hb3l := HB3.out.lt
 clear T hp g1 b1 b2 b3 hW1 hh hl hx hok
 go_enter Tryz.func60, Tryz.ntmps60
 go_upto_region 1 with fail
 rw [HW1.out]
 go_upto_region 4 with (go_at_call 65; (with_reducible refine (HT.out).mono ?_); rintro e V2 ⟨rfl, hg⟩; have G2 := Lib.hid hg; clear hg)
 clear p0 p1 p2 p3 p4 p5
 have HKP := Lib.hid (fun X (g : Below V2.heap.size V2 X) => (⟨((HB1.out.ext G2.out).ext g).cell 0, ((HB1.out.ext G2.out).ext g).cell 1, ((HB1.out.ext G2.out).ext g).cell 2, ((HB1.out.ext G2.out).ext g).cell 3, ((HB1.out.ext G2.out).ext g).cell 4, ((HB1.out.ext G2.out).ext g).cell 5, ((HB2.out.ext G2.out).ext g).cell 0, ((HB2.out.ext G2.out).ext g).cell 1, ((HB2.out.ext G2.out).ext g).cell 2, ((HB2.out.ext G2.out).ext g).cell 3, ((HB2.out.ext G2.out).ext g).cell 4, ((HB2.out.ext G2.out).ext g).cell 5⟩ : X.cell? ⟨w.heap.size, 0, none⟩ = some (.int .i64 p.lo) ∧ X.cell? ⟨w.heap.size, 1, none⟩ = some (.int .i64 p.hi) ∧ X.cell? ⟨w.heap.size, 2, none⟩ = some (.slice A1 n1 c1) ∧ X.cell? ⟨w.heap.size, 3, none⟩ = some (.slice A2 n2 c2) ∧ X.cell? ⟨w.heap.size, 4, none⟩ = some (.slice A3 n3 c3) ∧ X.cell? ⟨w.heap.size, 5, none⟩ = some (.int .i64 p.geese) ∧ X.cell? ⟨w.heap.size + 1, 0, none⟩ = some (.int .i64 x.a) ∧ X.cell? ⟨w.heap.size + 1, 1, none⟩ = some (.int .i64 x.b) ∧ X.cell? ⟨w.heap.size + 1, 2, none⟩ = some (.int .i64 x.c) ∧ X.cell? ⟨w.heap.size + 1, 3, none⟩ = some (.int .i64 x.d) ∧ X.cell? ⟨w.heap.size + 1, 4, none⟩ = some (.int .i64 x.e) ∧ X.cell? ⟨w.heap.size + 1, 5, none⟩ = some (.int .i64 x.f)))
 obtain ⟨y0, y1, y2, y3, y4, y5, y6, y7, y8, y9, ya, yb⟩ := HKP.out V2 (Below.refl _ _)
 go_cut [16] from 16 to 26 (fun s16 wx => s16 = .bool false ∧ Below W1.heap.size W1 wx)
 case first =>
  go_region_held3 (fun X => X.cell? ⟨w.heap.size, 0, none⟩ = some (.int .i64 p.lo) ∧ X.cell? ⟨w.heap.size, 1, none⟩ = some (.int .i64 p.hi) ∧ X.cell? ⟨w.heap.size, 2, none⟩ = some (.slice A1 n1 c1) ∧ X.cell? ⟨w.heap.size, 3, none⟩ = some (.slice A2 n2 c2) ∧ X.cell? ⟨w.heap.size, 4, none⟩ = some (.slice A3 n3 c3) ∧ X.cell? ⟨w.heap.size, 5, none⟩ = some (.int .i64 p.geese) ∧ X.cell? ⟨w.heap.size + 1, 0, none⟩ = some (.int .i64 x.a) ∧ X.cell? ⟨w.heap.size + 1, 1, none⟩ = some (.int .i64 x.b) ∧ X.cell? ⟨w.heap.size + 1, 2, none⟩ = some (.int .i64 x.c) ∧ X.cell? ⟨w.heap.size + 1, 3, none⟩ = some (.int .i64 x.d) ∧ X.cell? ⟨w.heap.size + 1, 4, none⟩ = some (.int .i64 x.e) ∧ X.cell? ⟨w.heap.size + 1, 5, none⟩ = some (.int .i64 x.f))
   (with_reducible refine HKP.out _ ?_; repeat' first | (with_reducible exact Below.refl _ _) | (with_reducible exact GB.out) | (with_reducible exact GA.out) | (with_reducible refine Below.drew ?_))
   (first
    | (go_at_call 69; (with_reducible refine (HSX.out _).mono ?_); rintro e VA ⟨rfl, hg⟩; have GA := Lib.hid (show Below V2.heap.size V2 VA from (Below.refl _ _).drew.trans hg); clear hg)
    | (go_at_call 113; (with_reducible refine (HSR.out _ (G2.out.trans (GA.out.mono G2.out.size))).mono ?_); rintro e VB ⟨⟨v, rfl, ho⟩, hg⟩; obtain ⟨D, c, hv, -, -, hi, -⟩ := OwnL.arr kdI ho; subst hv; have HI := Lib.hid hi; have GB := Lib.hid (show Below V2.heap.size V2 VB from GA.out.trans (hg.mono GA.out.size)); clear ho hg hi)
    | (go_at_call 109; (with_reducible refine (has_any _ _ _ _ x.a _ HI.out (by have := HSL.out; omega)).mono ?_); rintro e V4 ⟨rfl, rfl⟩; rw [HHH.out]))
  all_goals (try go_wp2_with fail)
  all_goals go_meet
  all_goals exact ⟨rfl, G2.out.trans (GB.out.mono G2.out.size)⟩
 case rest =>
  obtain ⟨rfl, hg⟩ := hcut
  have G3 := Lib.hid hg
  have HPA3 := Lib.hid (HPA.out.below hg)
  have q3 := (HB1.out.ext hg).cell 0
  have q4 := (HB1.out.ext hg).cell 1
  have q5 := (HB1.out.ext hg).cell 2
  have q6 := (HB1.out.ext hg).cell 3
  have q7 := (HB1.out.ext hg).cell 4
  have q8 := (HB1.out.ext hg).cell 5
  have hz : ((n2 : Int) == 60) = false := by simp; omega
  have HC := Lib.hid (copied_any p A1 A2 A3 n1 c1 n2 c2 n3 c3 wc HPA3.out HN.out)
  clear hg
  go_upto_region 9 with (go_at_call 132; (with_reducible refine (HC.out).mono ?_); rintro e V5 ⟨⟨v1, v2, v3, rfl, hc⟩, hg⟩; obtain ⟨R1, f1, R2, f2, R3, f3, e1, e2, e3, -, -, -, -⟩ := Cp.parts hc; obtain ⟨r1, hr1⟩ : ∃ n, p.loads.length = n := ⟨_, rfl⟩; obtain ⟨r2, hr2⟩ : ∃ n, p.stands.length = n := ⟨_, rfl⟩; obtain ⟨r3, hr3⟩ : ∃ n, p.spells.length = n := ⟨_, rfl⟩; rw [hr1] at e1; rw [hr2] at e2; rw [hr3] at e3; subst e1 e2 e3; have HC5 := Lib.hid hc; have HR2 := Lib.hid hr2; have G5 := Lib.hid (G3.out.trans (hg.mono G3.out.size)); have HWC := Lib.hid hg.size; clear hc hg hr1 hr2 hr3)
  clear q3 q4 q5 q6 q7 q8 y0 y1 y2 y3 y4 y5 y6 y7 y8 y9 ya yb
  obtain ⟨W5, hW5⟩ : ∃ W, V5.alloc (.cells (plw p (.slice R1 r1 f1) (.slice R2 r2 f2) (.slice R3 r3 f3)) 38) = W := ⟨_, rfl⟩
  have g5 : Below V5.heap.size V5 W5 := by rw [← hW5]; exact one_more _ _
  have BK := Lib.hid (show Blk W5 V5.heap.size 38 (plw p (.slice R1 r1 f1) (.slice R2 r2 f2) (.slice R3 r3 f3)) by rw [← hW5]; exact Blk.new _ _ _)
  have O1 := Lib.hid (HC5.out.l1.ext g5)
  have O2 := Lib.hid (HC5.out.l2.ext g5)
  have O3 := Lib.hid (HC5.out.l3.ext g5)
  have N1 := Lib.hid (own_lt HC5.out.l1 (k := V5.heap.size))
  have N3 := Lib.hid (own_lt HC5.out.l3 (k := V5.heap.size))
  have N2 := Lib.hid (own_lt HC5.out.l2 (k := V5.heap.size))
  have G6 := Lib.hid (G5.out.trans (g5.mono G5.out.size))
  have HR5 := Lib.hid (show Arr scells 6 W5 R2 r2 p.stands by
   obtain ⟨D, c, e, -, -, hi, -⟩ := OwnL.arr kdS O2.out
   rw [HR2.out] at e hi
   cases e
   exact hi)
  have hr2 : r2 ≤ 60 := by rw [← HR2.out]; exact HPO.out.2.2.2.2.2.2.1
  have T3 := Lib.hid (bsearchG_any R2 r2 f2 p.stands x W5 HR5.out (by omega) HM.out)
  have z3 := BK.out.cell 3
  have s2 := HB2.out.ext G6.out
  have s20 := s2.cell 0
  have s21 := s2.cell 1
  have s22 := s2.cell 2
  have s23 := s2.cell 3
  have s24 := s2.cell 4
  have s25 := s2.cell 5
  rw [hW5]
  clear g5 hW5 s2
  go_upto_region 10 with (go_at_call 133; (with_reducible refine (T3.out).mono ?_); rintro e V6 ⟨⟨bf, rfl⟩, hg⟩; rw [HAE.out]; have G7 := Lib.hid hg; clear hg)
  clear z3 s20 s21 s22 s23 s24 s25
  have BK6 := Lib.hid (BK.out.ext G7.out)
  have P1 := Lib.hid (O1.out.ext G7.out)
  have P2 := Lib.hid (O2.out.ext G7.out)
  have P3 := Lib.hid (O3.out.ext G7.out)
  have G8 := Lib.hid (G6.out.trans (G7.out.mono G6.out.size))
  have z3 := BK6.out.cell 3
  have s2 := HB2.out.ext G8.out
  have s20 := s2.cell 0
  have s21 := s2.cell 1
  have s22 := s2.cell 2
  have s23 := s2.cell 3
  have s24 := s2.cell 4
  have s25 := s2.cell 5
  have Q2 := Lib.hid (P2.out.ext (one_more V6 (.cells #[.int .i64 x.a, .int .i64 x.b, .int .i64 x.c, .int .i64 x.d, .int .i64 x.e, .int .i64 x.f] 105)))
  have T4 := insert_any x ax _ Q2.out (by rw [HR2.out]; omega) (Blk.new V6 105 _) (six_one V6 105 x) (fun e => by have := own_lt P2.out e; omega) HAX.out (by have := HWC.out; have := BK6.out.lt; simp; omega)
  rw [← HQS.out] at T4
  have HT4 := Lib.hid T4
  have hb7 := BK6.out.lt
  clear s2 T4
  go_upto_region 11 with (go_at_call 136; (with_reducible refine (HT4.out).mono ?_); rintro e V7 ⟨v', rfl, ho, hgr⟩; obtain ⟨M2, g2, e2, -, -, -, -⟩ := OwnL.arr kdS ho; obtain ⟨k2, hk2⟩ : ∃ n, Q.stands.length = n := ⟨_, rfl⟩; rw [hk2] at e2; subst e2; have HO7 := Lib.hid ho; have HG7 := Lib.hid hgr; have hb9 := ((BK6.out.alloc (.cells #[.int .i64 x.a, .int .i64 x.b, .int .i64 x.c, .int .i64 x.d, .int .i64 x.e, .int .i64 x.f] 105)).grown hgr (fun e => by have := N2.out e; omega)); have l3 := hb9.cell 3; have f3' := hb9.frozen 3; clear ho hgr hk2 hb9)
  have BK8 := Lib.hid (((BK6.out.alloc (.cells #[.int .i64 x.a, .int .i64 x.b, .int .i64 x.c, .int .i64 x.d, .int .i64 x.e, .int .i64 x.f] 105)).grown HG7.out (fun e => by have := N2.out e; omega)).set_ 3 (.slice M2 k2 g2))
  have GA7 := Lib.hid (show Below W1.heap.size W1 (V7.setCell ⟨V5.heap.size, 3, none⟩ (.slice M2 k2 g2)) from ((G8.out.trans ((one_more V6 _).mono G8.out.size)).grown HG7.out (by have := G8.out.size; simp; omega) (fun k e => by have := (own_lt P2.out e).1; have := HWC.out; have := G3.out.size; omega)).setCell (p := ⟨V5.heap.size, 3, none⟩) (by have := HWC.out; have := G3.out.size; show W1.heap.size ≤ V5.heap.size; omega) _)
  have R1' := Lib.hid (((P1.out.ext (one_more V6 (.cells #[.int .i64 x.a, .int .i64 x.b, .int .i64 x.c, .int .i64 x.d, .int .i64 x.e, .int .i64 x.f] 105))).grown HG7.out (fun k e e2 => HC5.out.d12 k e e2)).apart (p := ⟨V5.heap.size, 3, none⟩) (fun e => by have := N1.out e; omega) (.slice M2 k2 g2))
  have R3' := Lib.hid (((P3.out.ext (one_more V6 (.cells #[.int .i64 x.a, .int .i64 x.b, .int .i64 x.c, .int .i64 x.d, .int .i64 x.e, .int .i64 x.f] 105))).grown HG7.out (fun k e e2 => HC5.out.d23 k e2 e)).apart (p := ⟨V5.heap.size, 3, none⟩) (fun e => by have := N3.out e; omega) (.slice M2 k2 g2))
  have R2' := Lib.hid (HO7.out.apart (p := ⟨V5.heap.size, 3, none⟩) (fun e => by
   obtain ⟨-, -, cur, hcur⟩ := own_cells HO7.out e
   have hb9 := ((BK6.out.alloc (.cells #[.int .i64 x.a, .int .i64 x.b, .int .i64 x.c, .int .i64 x.d, .int .i64 x.e, .int .i64 x.f] 105)).grown HG7.out (fun e => by have := N2.out e; omega))
   unfold Blk at hb9
   rw [hb9] at hcur
   simp at hcur) (.slice M2 k2 g2))
  have BK9 := Lib.hid (show Blk (V7.setCell ⟨V5.heap.size, 3, none⟩ (.slice M2 k2 g2)) V5.heap.size 38 #[.int .i64 p.lo, .int .i64 p.hi, .slice R1 r1 f1, .slice M2 k2 g2, .slice R3 r3 f3, .int .i64 p.geese] from BK8.out)
  obtain ⟨W9, hW9⟩ : ∃ W, V7.setCell ⟨V5.heap.size, 3, none⟩ (.slice M2 k2 g2) = W := ⟨_, rfl⟩
  rw [hW9] at BK9 GA7 R1' R2' R3'
  rw [hW9]
  have HB9 := Lib.hid (HB3.out.ext GA7.out)
  clear l3 f3' z3 s20 s21 s22 s23 s24 s25 BK8 hW9
  have l0 := BK9.out.cell 0
  have l1 := BK9.out.cell 1
  have l2 := BK9.out.cell 2
  have l3 := BK9.out.cell 3
  have l4 := BK9.out.cell 4
  have l5 := BK9.out.cell 5
  have m0 := HB9.out.cell 0
  have z0 := HB9.out.frozen 0
  have m1 := HB9.out.cell 1
  have z1 := HB9.out.frozen 1
  have m2 := HB9.out.cell 2
  have z2 := HB9.out.frozen 2
  have m3 := HB9.out.cell 3
  have z3 := HB9.out.frozen 3
  have m4 := HB9.out.cell 4
  have z4 := HB9.out.frozen 4
  have m5 := HB9.out.cell 5
  have z5 := HB9.out.frozen 5
  have HZ3 := Lib.hid (show w.heap.size + 1 + 1 < wc.heap.size by have := HB3.out.lt; have := G3.out.size; omega)
  go_wp2_with fail
  have hc9 : Cp W9 wc.heap.size Q (.slice R1 r1 f1) (.slice M2 k2 g2) (.slice R3 r3 f3) := ⟨by rw [HQL.out]; exact R1'.out, R2'.out, by rw [HQP.out]; exact R3'.out, own_far1 R1'.out R2'.out, own_far2 R1'.out R3'.out, own_far3 R2'.out R3'.out⟩
  have hb9 := HB9.out.setAll6 (.int .i64 p.lo) (.int .i64 p.hi) (.slice R1 r1 f1) (.slice M2 k2 g2) (.slice R3 r3 f3) (.int .i64 p.geese)
  have HC9 := Lib.hid (hc9.setAll6 HZ3.out (.int .i64 p.lo) (.int .i64 p.hi) (.slice R1 r1 f1) (.slice M2 k2 g2) (.slice R3 r3 f3) (.int .i64 p.geese))
  have HG9 := Lib.hid (below_setAll6 (b := w.heap.size + 1 + 1) (G1.out.trans (GA7.out.mono G1.out.size)) (by omega) (.int .i64 p.lo) (.int .i64 p.hi) (.slice R1 r1 f1) (.slice M2 k2 g2) (.slice R3 r3 f3) (.int .i64 p.geese))
  have t0 := hb9.cell 0
  have t1 := hb9.cell 1
  have t2 := hb9.cell 2
  have t3 := hb9.cell 3
  have t4 := hb9.cell 4
  have t5 := hb9.cell 5
  clear hb9 hc9
  refine bodyPost_ret (v := .tuple #[plv Q R1 M2 R3 r1 f1 k2 g2 r3 f3, .int .i64 0]) ?_ rfl ⟨⟨_, _, _, _, _, _, _, _, _, rfl, HC9.out.mono (by have := HZ3.out; omega)⟩, HG9.out⟩
  obtain ⟨h1, h2, h3⟩ := HQB.out
  simp [results, Tryz.results60, go_sem, t0, t1, t2, t3, t4, t5, h1, h2, h3]
def StandsEnd0 (code : Int) (w : World) (e : Ending) (w' : World) : Prop :=
 (∃ v1 v2 v3, e = .returned (.tuple #[.agg (plw zeroPl v1 v2 v3), .int .i64 code]) ∧ Cp w' w.heap.size zeroPl v1 v2 v3) ∧ Below w.heap.size w w'
set_option maxRecDepth 100000 in
set_option maxHeartbeats 8000000 in
theorem standsBad_any (p : Pl) (A1 A2 A3 : Option Addr) (n1 c1 n2 c2 n3 c3 : Nat) (x : Six) (w : World) (hp : Pa w p A1 A2 A3 n1 c1 n2 c2 n3 c3) (hok : okPl p = false) :
  Calls Tryz.prog 60 #[plv p A1 A2 A3 n1 c1 n2 c2 n3 c3, sv x] w (StandsEnd0 13 w) := by
 unfold StandsEnd0
 obtain ⟨W1, hW1⟩ : ∃ W1, ((w.alloc (.cells (plb p A1 A2 A3 n1 c1 n2 c2 n3 c3) 38)).alloc (.cells #[.int .i64 x.a, .int .i64 x.b, .int .i64 x.c, .int .i64 x.d, .int .i64 x.e, .int .i64 x.f] 105)).alloc (.cells #[.int .i64 0, .int .i64 0, .slice none 0 0, .slice none 0 0, .slice none 0 0, .int .i64 0] 38) = W1 := ⟨_, rfl⟩
 have g1 : Below w.heap.size w W1 := by rw [← hW1]; exact three_more _ _ _ _
 have b1 : Blk W1 w.heap.size 38 (plb p A1 A2 A3 n1 c1 n2 c2 n3 c3) := by rw [← hW1]; exact ((Blk.new _ _ _).alloc _).alloc _
 have b2 : Blk W1 (w.heap.size + 1) 105 #[.int .i64 x.a, .int .i64 x.b, .int .i64 x.c, .int .i64 x.d, .int .i64 x.e, .int .i64 x.f] := by rw [← hW1]; exact blk3_2 _ _ _ _ _
 have b3 : Blk W1 (w.heap.size + 1 + 1) 38 #[.int .i64 0, .int .i64 0, .slice none 0 0, .slice none 0 0, .slice none 0 0, .int .i64 0] := by rw [← hW1]; exact blk3_3 _ _ _ _ _
 have p0 := b1.cell 0
 have p1 := b1.cell 1
 have p2 := b1.cell 2
 have p3 := b1.cell 3
 have p4 := b1.cell 4
 have p5 := b1.cell 5
 have HPA := Lib.hid (hp.below g1)
 have HB1 := Lib.hid b1
 have HB2 := Lib.hid b2
 have HB3 := Lib.hid b3
 have G1 := Lib.hid g1
 have HW1 := Lib.hid hW1
 have hb3l := HB3.out.lt
 have T := check_any p A1 A2 A3 n1 c1 n2 c2 n3 c3 W1 HPA.out
 rw [hok, show err false 13 = 13 from rfl] at T
 have HT := Lib.hid T
 clear T hp g1 b1 b2 b3 hW1 hok
 go_enter Tryz.func60, Tryz.ntmps60
 go_upto_region 1 with fail
 rw [HW1.out]
 go_upto_region 3 with (go_at_call 65; (with_reducible refine (HT.out).mono ?_); rintro e V2 ⟨rfl, hg⟩; have G2 := Lib.hid hg; clear hg)
 have HB9 := Lib.hid (HB3.out.ext G2.out)
 have GALL := Lib.hid (G1.out.trans (G2.out.mono G1.out.size))
 clear p0 p1 p2 p3 p4 p5
 have m0 := HB9.out.cell 0
 have z0 := HB9.out.frozen 0
 have m1 := HB9.out.cell 1
 have z1 := HB9.out.frozen 1
 have m2 := HB9.out.cell 2
 have z2 := HB9.out.frozen 2
 have m3 := HB9.out.cell 3
 have z3 := HB9.out.frozen 3
 have m4 := HB9.out.cell 4
 have z4 := HB9.out.frozen 4
 have m5 := HB9.out.cell 5
 have z5 := HB9.out.frozen 5
 go_wp2_with fail
 have hb9 := HB9.out.setAll6 (.int .i64 0) (.int .i64 0) (.slice none 0 0) (.slice none 0 0) (.slice none 0 0) (.int .i64 0)
 have HG9 := Lib.hid (below_setAll6 (b := w.heap.size + 1 + 1) GALL.out (by omega) (.int .i64 0) (.int .i64 0) (.slice none 0 0) (.slice none 0 0) (.slice none 0 0) (.int .i64 0))
 have t0 := hb9.cell 0
 have t1 := hb9.cell 1
 have t2 := hb9.cell 2
 have t3 := hb9.cell 3
 have t4 := hb9.cell 4
 have t5 := hb9.cell 5
 clear hb9
 refine bodyPost_ret (v := .tuple #[.agg (plw zeroPl (.slice none 0 0) (.slice none 0 0) (.slice none 0 0)), .int .i64 13]) ?_ rfl ⟨⟨_, _, _, rfl, Cp.nil _ _⟩, HG9.out⟩
 simp [results, Tryz.results60, go_sem, t0, t1, t2, t3, t4, t5, zeroPl]
set_option maxRecDepth 100000 in
set_option maxHeartbeats 8000000 in
theorem standsInv_any (p : Pl) (A1 A2 A3 : Option Addr) (n1 c1 n2 c2 n3 c3 : Nat) (x : Six) (w : World) (hp : Pa w p A1 A2 A3 n1 c1 n2 c2 n3 c3) (hok : okPl p = true) (hx : isLoad x = false) :
  Calls Tryz.prog 60 #[plv p A1 A2 A3 n1 c1 n2 c2 n3 c3, sv x] w (StandsEnd0 11 w) := by
 unfold StandsEnd0
 obtain ⟨W1, hW1⟩ : ∃ W1, ((w.alloc (.cells (plb p A1 A2 A3 n1 c1 n2 c2 n3 c3) 38)).alloc (.cells #[.int .i64 x.a, .int .i64 x.b, .int .i64 x.c, .int .i64 x.d, .int .i64 x.e, .int .i64 x.f] 105)).alloc (.cells #[.int .i64 0, .int .i64 0, .slice none 0 0, .slice none 0 0, .slice none 0 0, .int .i64 0] 38) = W1 := ⟨_, rfl⟩
 have g1 : Below w.heap.size w W1 := by rw [← hW1]; exact three_more _ _ _ _
 have b1 : Blk W1 w.heap.size 38 (plb p A1 A2 A3 n1 c1 n2 c2 n3 c3) := by rw [← hW1]; exact ((Blk.new _ _ _).alloc _).alloc _
 have b2 : Blk W1 (w.heap.size + 1) 105 #[.int .i64 x.a, .int .i64 x.b, .int .i64 x.c, .int .i64 x.d, .int .i64 x.e, .int .i64 x.f] := by rw [← hW1]; exact blk3_2 _ _ _ _ _
 have b3 : Blk W1 (w.heap.size + 1 + 1) 38 #[.int .i64 0, .int .i64 0, .slice none 0 0, .slice none 0 0, .slice none 0 0, .int .i64 0] := by rw [← hW1]; exact blk3_3 _ _ _ _ _
 have p0 := b1.cell 0
 have p1 := b1.cell 1
 have p2 := b1.cell 2
 have p3 := b1.cell 3
 have p4 := b1.cell 4
 have p5 := b1.cell 5
 have HPA := Lib.hid (hp.below g1)
 have HB1 := Lib.hid b1
 have HB2 := Lib.hid b2
 have HB3 := Lib.hid b3
 have G1 := Lib.hid g1
 have HW1 := Lib.hid hW1
 have hb3l := HB3.out.lt
 have T := check_any p A1 A2 A3 n1 c1 n2 c2 n3 c3 W1 HPA.out
 rw [hok, show err true 13 = 0 from rfl] at T
 have HT := Lib.hid T
 have HSX := Lib.hid (fun W => by have := checkStand_any x W; rwa [hx, show err false 11 = 11 from rfl] at this)
 clear T hp g1 b1 b2 b3 hW1 hok hx
 go_enter Tryz.func60, Tryz.ntmps60
 go_upto_region 1 with fail
 rw [HW1.out]
 go_upto_region 4 with (go_at_call 65; (with_reducible refine (HT.out).mono ?_); rintro e V2 ⟨rfl, hg⟩; have G2 := Lib.hid hg; clear hg)
 clear p0 p1 p2 p3 p4 p5
 have y2 := HB2.out.ext G2.out
 have y6 := cellW (y2.cell 0)
 have y7 := cellW (y2.cell 1)
 have y8 := cellW (y2.cell 2)
 have y9 := cellW (y2.cell 3)
 have ya := cellW (y2.cell 4)
 have yb := cellW (y2.cell 5)
 clear y2
 go_cut [16] from 16 to 26 (fun s16 wx => s16 = .bool true ∧ Below W1.heap.size W1 wx)
 case first =>
  refine wp_region_calm V2 (by kernel_rfl) (by kernel_rfl) (Below.refl _ _) ?_
  repeat (go_big_quiet_step (first | (go_at_call 69; exact callsCalm (HSX.out _))))
  refine wpQuiet_nil ?_
  rintro _ ⟨z, rfl⟩
  have GZ := Lib.hid (G2.out.trans (z.ok.mono G2.out.size))
  all_goals (try go_wp2_with fail)
  all_goals go_meet
  all_goals exact ⟨rfl, GZ.out⟩
 case rest =>
  obtain ⟨rfl, hg⟩ := hcut
  have HB9 := Lib.hid (HB3.out.ext hg)
  have GALL := Lib.hid (G1.out.trans (hg.mono G1.out.size))
  clear hg
  have m0 := HB9.out.cell 0
  have z0 := HB9.out.frozen 0
  have m1 := HB9.out.cell 1
  have z1 := HB9.out.frozen 1
  have m2 := HB9.out.cell 2
  have z2 := HB9.out.frozen 2
  have m3 := HB9.out.cell 3
  have z3 := HB9.out.frozen 3
  have m4 := HB9.out.cell 4
  have z4 := HB9.out.frozen 4
  have m5 := HB9.out.cell 5
  have z5 := HB9.out.frozen 5
  go_wp2_with fail
  have hb9 := HB9.out.setAll6 (.int .i64 0) (.int .i64 0) (.slice none 0 0) (.slice none 0 0) (.slice none 0 0) (.int .i64 0)
  have HG9 := Lib.hid (below_setAll6 (b := w.heap.size + 1 + 1) GALL.out (by omega) (.int .i64 0) (.int .i64 0) (.slice none 0 0) (.slice none 0 0) (.slice none 0 0) (.int .i64 0))
  have t0 := hb9.cell 0
  have t1 := hb9.cell 1
  have t2 := hb9.cell 2
  have t3 := hb9.cell 3
  have t4 := hb9.cell 4
  have t5 := hb9.cell 5
  clear hb9
  refine bodyPost_ret (v := .tuple #[.agg (plw zeroPl (.slice none 0 0) (.slice none 0 0) (.slice none 0 0)), .int .i64 11]) ?_ rfl ⟨⟨_, _, _, rfl, Cp.nil _ _⟩, HG9.out⟩
  simp [results, Tryz.results60, go_sem, t0, t1, t2, t3, t4, t5, zeroPl]
set_option maxRecDepth 100000 in
set_option maxHeartbeats 8000000 in
theorem standsHas_any (p : Pl) (A1 A2 A3 : Option Addr) (n1 c1 n2 c2 n3 c3 : Nat) (x : Six) (w : World) (hp : Pa w p A1 A2 A3 n1 c1 n2 c2 n3 c3) (hok : okPl p = true) (hx : isLoad x = true) (hh : hasI (srcsAll p) x.a = true) :
  Calls Tryz.prog 60 #[plv p A1 A2 A3 n1 c1 n2 c2 n3 c3, sv x] w (StandsEnd0 11 w) := by
 unfold StandsEnd0
 obtain ⟨W1, hW1⟩ : ∃ W1, ((w.alloc (.cells (plb p A1 A2 A3 n1 c1 n2 c2 n3 c3) 38)).alloc (.cells #[.int .i64 x.a, .int .i64 x.b, .int .i64 x.c, .int .i64 x.d, .int .i64 x.e, .int .i64 x.f] 105)).alloc (.cells #[.int .i64 0, .int .i64 0, .slice none 0 0, .slice none 0 0, .slice none 0 0, .int .i64 0] 38) = W1 := ⟨_, rfl⟩
 have g1 : Below w.heap.size w W1 := by rw [← hW1]; exact three_more _ _ _ _
 have b1 : Blk W1 w.heap.size 38 (plb p A1 A2 A3 n1 c1 n2 c2 n3 c3) := by rw [← hW1]; exact ((Blk.new _ _ _).alloc _).alloc _
 have b2 : Blk W1 (w.heap.size + 1) 105 #[.int .i64 x.a, .int .i64 x.b, .int .i64 x.c, .int .i64 x.d, .int .i64 x.e, .int .i64 x.f] := by rw [← hW1]; exact blk3_2 _ _ _ _ _
 have b3 : Blk W1 (w.heap.size + 1 + 1) 38 #[.int .i64 0, .int .i64 0, .slice none 0 0, .slice none 0 0, .slice none 0 0, .int .i64 0] := by rw [← hW1]; exact blk3_3 _ _ _ _ _
 have p0 := b1.cell 0
 have p1 := b1.cell 1
 have p2 := b1.cell 2
 have p3 := b1.cell 3
 have p4 := b1.cell 4
 have p5 := b1.cell 5
 have HPA := Lib.hid (hp.below g1)
 have HB1 := Lib.hid b1
 have HB2 := Lib.hid b2
 have HB3 := Lib.hid b3
 have G1 := Lib.hid g1
 have HW1 := Lib.hid hW1
 have hb3l := HB3.out.lt
 have T := check_any p A1 A2 A3 n1 c1 n2 c2 n3 c3 W1 HPA.out
 rw [hok, show err true 13 = 0 from rfl] at T
 have HT := Lib.hid T
 have HPO := Lib.hid (ok_parts hok)
 have HSL := Lib.hid (show (srcsAll p).length ≤ 1000 by
  have h1 := HPO.out.2.2.2.2.2.1
  have h2 := HPO.out.2.2.2.2.2.2.1
  have h3 := HPO.out.2.2.2.2.2.2.2.1
  unfold srcsAll srt srcs
  rw [List.length_mergeSort, List.length_append, List.length_append, List.length_map, List.length_map, List.length_map]
  omega)
 have HSX := Lib.hid (fun W => by have := checkStand_any x W; rwa [hx, show err true 11 = 0 from rfl] at this)
 have HSR := Lib.hid (fun W (g : Below W1.heap.size W1 W) => sources_any p A1 A2 A3 n1 c1 n2 c2 n3 c3 W (HPA.out.below g) hok)
 have HHH := Lib.hid hh
 clear T hp g1 b1 b2 b3 hW1 hok hx hh
 go_enter Tryz.func60, Tryz.ntmps60
 go_upto_region 1 with fail
 rw [HW1.out]
 go_upto_region 4 with (go_at_call 65; (with_reducible refine (HT.out).mono ?_); rintro e V2 ⟨rfl, hg⟩; have G2 := Lib.hid hg; clear hg)
 clear p0 p1 p2 p3 p4 p5
 have HKP := Lib.hid (fun X (g : Below V2.heap.size V2 X) => (⟨((HB1.out.ext G2.out).ext g).cell 0, ((HB1.out.ext G2.out).ext g).cell 1, ((HB1.out.ext G2.out).ext g).cell 2, ((HB1.out.ext G2.out).ext g).cell 3, ((HB1.out.ext G2.out).ext g).cell 4, ((HB1.out.ext G2.out).ext g).cell 5, ((HB2.out.ext G2.out).ext g).cell 0, ((HB2.out.ext G2.out).ext g).cell 1, ((HB2.out.ext G2.out).ext g).cell 2, ((HB2.out.ext G2.out).ext g).cell 3, ((HB2.out.ext G2.out).ext g).cell 4, ((HB2.out.ext G2.out).ext g).cell 5⟩ : X.cell? ⟨w.heap.size, 0, none⟩ = some (.int .i64 p.lo) ∧ X.cell? ⟨w.heap.size, 1, none⟩ = some (.int .i64 p.hi) ∧ X.cell? ⟨w.heap.size, 2, none⟩ = some (.slice A1 n1 c1) ∧ X.cell? ⟨w.heap.size, 3, none⟩ = some (.slice A2 n2 c2) ∧ X.cell? ⟨w.heap.size, 4, none⟩ = some (.slice A3 n3 c3) ∧ X.cell? ⟨w.heap.size, 5, none⟩ = some (.int .i64 p.geese) ∧ X.cell? ⟨w.heap.size + 1, 0, none⟩ = some (.int .i64 x.a) ∧ X.cell? ⟨w.heap.size + 1, 1, none⟩ = some (.int .i64 x.b) ∧ X.cell? ⟨w.heap.size + 1, 2, none⟩ = some (.int .i64 x.c) ∧ X.cell? ⟨w.heap.size + 1, 3, none⟩ = some (.int .i64 x.d) ∧ X.cell? ⟨w.heap.size + 1, 4, none⟩ = some (.int .i64 x.e) ∧ X.cell? ⟨w.heap.size + 1, 5, none⟩ = some (.int .i64 x.f)))
 obtain ⟨y0, y1, y2, y3, y4, y5, y6, y7, y8, y9, ya, yb⟩ := HKP.out V2 (Below.refl _ _)
 go_cut [16] from 16 to 26 (fun s16 wx => s16 = .bool true ∧ Below W1.heap.size W1 wx)
 case first =>
  go_region_held3 (fun X => X.cell? ⟨w.heap.size, 0, none⟩ = some (.int .i64 p.lo) ∧ X.cell? ⟨w.heap.size, 1, none⟩ = some (.int .i64 p.hi) ∧ X.cell? ⟨w.heap.size, 2, none⟩ = some (.slice A1 n1 c1) ∧ X.cell? ⟨w.heap.size, 3, none⟩ = some (.slice A2 n2 c2) ∧ X.cell? ⟨w.heap.size, 4, none⟩ = some (.slice A3 n3 c3) ∧ X.cell? ⟨w.heap.size, 5, none⟩ = some (.int .i64 p.geese) ∧ X.cell? ⟨w.heap.size + 1, 0, none⟩ = some (.int .i64 x.a) ∧ X.cell? ⟨w.heap.size + 1, 1, none⟩ = some (.int .i64 x.b) ∧ X.cell? ⟨w.heap.size + 1, 2, none⟩ = some (.int .i64 x.c) ∧ X.cell? ⟨w.heap.size + 1, 3, none⟩ = some (.int .i64 x.d) ∧ X.cell? ⟨w.heap.size + 1, 4, none⟩ = some (.int .i64 x.e) ∧ X.cell? ⟨w.heap.size + 1, 5, none⟩ = some (.int .i64 x.f))
   (with_reducible refine HKP.out _ ?_; repeat' first | (with_reducible exact Below.refl _ _) | (with_reducible exact GB.out) | (with_reducible exact GA.out) | (with_reducible refine Below.drew ?_))
   (first
    | (go_at_call 69; (with_reducible refine (HSX.out _).mono ?_); rintro e VA ⟨rfl, hg⟩; have GA := Lib.hid (show Below V2.heap.size V2 VA from (Below.refl _ _).drew.trans hg); clear hg)
    | (go_at_call 113; (with_reducible refine (HSR.out _ (G2.out.trans (GA.out.mono G2.out.size))).mono ?_); rintro e VB ⟨⟨v, rfl, ho⟩, hg⟩; obtain ⟨D, c, hv, -, -, hi, -⟩ := OwnL.arr kdI ho; subst hv; have HI := Lib.hid hi; have GB := Lib.hid (show Below V2.heap.size V2 VB from GA.out.trans (hg.mono GA.out.size)); clear ho hg hi)
    | (go_at_call 109; (with_reducible refine (has_any _ _ _ _ x.a _ HI.out (by have := HSL.out; omega)).mono ?_); rintro e V4 ⟨rfl, rfl⟩; rw [HHH.out]))
  all_goals (try go_wp2_with fail)
  all_goals go_meet
  all_goals exact ⟨rfl, G2.out.trans (GB.out.mono G2.out.size)⟩
 case rest =>
  obtain ⟨rfl, hg⟩ := hcut
  have HB9 := Lib.hid (HB3.out.ext hg)
  have GALL := Lib.hid (G1.out.trans (hg.mono G1.out.size))
  clear hg y0 y1 y2 y3 y4 y5 y6 y7 y8 y9 ya yb
  have m0 := HB9.out.cell 0
  have z0 := HB9.out.frozen 0
  have m1 := HB9.out.cell 1
  have z1 := HB9.out.frozen 1
  have m2 := HB9.out.cell 2
  have z2 := HB9.out.frozen 2
  have m3 := HB9.out.cell 3
  have z3 := HB9.out.frozen 3
  have m4 := HB9.out.cell 4
  have z4 := HB9.out.frozen 4
  have m5 := HB9.out.cell 5
  have z5 := HB9.out.frozen 5
  go_wp2_with fail
  have hb9 := HB9.out.setAll6 (.int .i64 0) (.int .i64 0) (.slice none 0 0) (.slice none 0 0) (.slice none 0 0) (.int .i64 0)
  have HG9 := Lib.hid (below_setAll6 (b := w.heap.size + 1 + 1) GALL.out (by omega) (.int .i64 0) (.int .i64 0) (.slice none 0 0) (.slice none 0 0) (.slice none 0 0) (.int .i64 0))
  have t0 := hb9.cell 0
  have t1 := hb9.cell 1
  have t2 := hb9.cell 2
  have t3 := hb9.cell 3
  have t4 := hb9.cell 4
  have t5 := hb9.cell 5
  clear hb9
  refine bodyPost_ret (v := .tuple #[.agg (plw zeroPl (.slice none 0 0) (.slice none 0 0) (.slice none 0 0)), .int .i64 11]) ?_ rfl ⟨⟨_, _, _, rfl, Cp.nil _ _⟩, HG9.out⟩
  simp [results, Tryz.results60, go_sem, t0, t1, t2, t3, t4, t5, zeroPl]
set_option maxRecDepth 100000 in
set_option maxHeartbeats 8000000 in
theorem standsFull_any (p : Pl) (A1 A2 A3 : Option Addr) (n1 c1 n2 c2 n3 c3 : Nat) (x : Six) (w : World) (hp : Pa w p A1 A2 A3 n1 c1 n2 c2 n3 c3) (hok : okPl p = true) (hx : isLoad x = true) (hh : hasI (srcsAll p) x.a = false) (hl : p.stands.length = 60) :
  Calls Tryz.prog 60 #[plv p A1 A2 A3 n1 c1 n2 c2 n3 c3, sv x] w (StandsEnd0 2 w) := by
 unfold StandsEnd0
 obtain ⟨W1, hW1⟩ : ∃ W1, ((w.alloc (.cells (plb p A1 A2 A3 n1 c1 n2 c2 n3 c3) 38)).alloc (.cells #[.int .i64 x.a, .int .i64 x.b, .int .i64 x.c, .int .i64 x.d, .int .i64 x.e, .int .i64 x.f] 105)).alloc (.cells #[.int .i64 0, .int .i64 0, .slice none 0 0, .slice none 0 0, .slice none 0 0, .int .i64 0] 38) = W1 := ⟨_, rfl⟩
 have g1 : Below w.heap.size w W1 := by rw [← hW1]; exact three_more _ _ _ _
 have b1 : Blk W1 w.heap.size 38 (plb p A1 A2 A3 n1 c1 n2 c2 n3 c3) := by rw [← hW1]; exact ((Blk.new _ _ _).alloc _).alloc _
 have b2 : Blk W1 (w.heap.size + 1) 105 #[.int .i64 x.a, .int .i64 x.b, .int .i64 x.c, .int .i64 x.d, .int .i64 x.e, .int .i64 x.f] := by rw [← hW1]; exact blk3_2 _ _ _ _ _
 have b3 : Blk W1 (w.heap.size + 1 + 1) 38 #[.int .i64 0, .int .i64 0, .slice none 0 0, .slice none 0 0, .slice none 0 0, .int .i64 0] := by rw [← hW1]; exact blk3_3 _ _ _ _ _
 have p0 := b1.cell 0
 have p1 := b1.cell 1
 have p2 := b1.cell 2
 have p3 := b1.cell 3
 have p4 := b1.cell 4
 have p5 := b1.cell 5
 have HPA := Lib.hid (hp.below g1)
 have HB1 := Lib.hid b1
 have HB2 := Lib.hid b2
 have HB3 := Lib.hid b3
 have G1 := Lib.hid g1
 have HW1 := Lib.hid hW1
 have hb3l := HB3.out.lt
 have T := check_any p A1 A2 A3 n1 c1 n2 c2 n3 c3 W1 HPA.out
 rw [hok, show err true 13 = 0 from rfl] at T
 have HT := Lib.hid T
 have HPO := Lib.hid (ok_parts hok)
 have HSL := Lib.hid (show (srcsAll p).length ≤ 1000 by
  have h1 := HPO.out.2.2.2.2.2.1
  have h2 := HPO.out.2.2.2.2.2.2.1
  have h3 := HPO.out.2.2.2.2.2.2.2.1
  unfold srcsAll srt srcs
  rw [List.length_mergeSort, List.length_append, List.length_append, List.length_map, List.length_map, List.length_map]
  omega)
 have HSX := Lib.hid (fun W => by have := checkStand_any x W; rwa [hx, show err true 11 = 0 from rfl] at this)
 have HSR := Lib.hid (fun W (g : Below W1.heap.size W1 W) => sources_any p A1 A2 A3 n1 c1 n2 c2 n3 c3 W (HPA.out.below g) hok)
 have HHH := Lib.hid hh
 have hn2 := Lib.hid (show n2 = 60 by rw [← HPA.out.l2.1]; exact hl)
 clear T hp g1 b1 b2 b3 hW1 hok hx hh hl
 go_enter Tryz.func60, Tryz.ntmps60
 go_upto_region 1 with fail
 rw [HW1.out]
 go_upto_region 4 with (go_at_call 65; (with_reducible refine (HT.out).mono ?_); rintro e V2 ⟨rfl, hg⟩; have G2 := Lib.hid hg; clear hg)
 clear p0 p1 p2 p3 p4 p5
 have HKP := Lib.hid (fun X (g : Below V2.heap.size V2 X) => (⟨((HB1.out.ext G2.out).ext g).cell 0, ((HB1.out.ext G2.out).ext g).cell 1, ((HB1.out.ext G2.out).ext g).cell 2, ((HB1.out.ext G2.out).ext g).cell 3, ((HB1.out.ext G2.out).ext g).cell 4, ((HB1.out.ext G2.out).ext g).cell 5, ((HB2.out.ext G2.out).ext g).cell 0, ((HB2.out.ext G2.out).ext g).cell 1, ((HB2.out.ext G2.out).ext g).cell 2, ((HB2.out.ext G2.out).ext g).cell 3, ((HB2.out.ext G2.out).ext g).cell 4, ((HB2.out.ext G2.out).ext g).cell 5⟩ : X.cell? ⟨w.heap.size, 0, none⟩ = some (.int .i64 p.lo) ∧ X.cell? ⟨w.heap.size, 1, none⟩ = some (.int .i64 p.hi) ∧ X.cell? ⟨w.heap.size, 2, none⟩ = some (.slice A1 n1 c1) ∧ X.cell? ⟨w.heap.size, 3, none⟩ = some (.slice A2 n2 c2) ∧ X.cell? ⟨w.heap.size, 4, none⟩ = some (.slice A3 n3 c3) ∧ X.cell? ⟨w.heap.size, 5, none⟩ = some (.int .i64 p.geese) ∧ X.cell? ⟨w.heap.size + 1, 0, none⟩ = some (.int .i64 x.a) ∧ X.cell? ⟨w.heap.size + 1, 1, none⟩ = some (.int .i64 x.b) ∧ X.cell? ⟨w.heap.size + 1, 2, none⟩ = some (.int .i64 x.c) ∧ X.cell? ⟨w.heap.size + 1, 3, none⟩ = some (.int .i64 x.d) ∧ X.cell? ⟨w.heap.size + 1, 4, none⟩ = some (.int .i64 x.e) ∧ X.cell? ⟨w.heap.size + 1, 5, none⟩ = some (.int .i64 x.f)))
 obtain ⟨y0, y1, y2, y3, y4, y5, y6, y7, y8, y9, ya, yb⟩ := HKP.out V2 (Below.refl _ _)
 go_cut [16] from 16 to 26 (fun s16 wx => s16 = .bool false ∧ Below W1.heap.size W1 wx)
 case first =>
  go_region_held3 (fun X => X.cell? ⟨w.heap.size, 0, none⟩ = some (.int .i64 p.lo) ∧ X.cell? ⟨w.heap.size, 1, none⟩ = some (.int .i64 p.hi) ∧ X.cell? ⟨w.heap.size, 2, none⟩ = some (.slice A1 n1 c1) ∧ X.cell? ⟨w.heap.size, 3, none⟩ = some (.slice A2 n2 c2) ∧ X.cell? ⟨w.heap.size, 4, none⟩ = some (.slice A3 n3 c3) ∧ X.cell? ⟨w.heap.size, 5, none⟩ = some (.int .i64 p.geese) ∧ X.cell? ⟨w.heap.size + 1, 0, none⟩ = some (.int .i64 x.a) ∧ X.cell? ⟨w.heap.size + 1, 1, none⟩ = some (.int .i64 x.b) ∧ X.cell? ⟨w.heap.size + 1, 2, none⟩ = some (.int .i64 x.c) ∧ X.cell? ⟨w.heap.size + 1, 3, none⟩ = some (.int .i64 x.d) ∧ X.cell? ⟨w.heap.size + 1, 4, none⟩ = some (.int .i64 x.e) ∧ X.cell? ⟨w.heap.size + 1, 5, none⟩ = some (.int .i64 x.f))
   (with_reducible refine HKP.out _ ?_; repeat' first | (with_reducible exact Below.refl _ _) | (with_reducible exact GB.out) | (with_reducible exact GA.out) | (with_reducible refine Below.drew ?_))
   (first
    | (go_at_call 69; (with_reducible refine (HSX.out _).mono ?_); rintro e VA ⟨rfl, hg⟩; have GA := Lib.hid (show Below V2.heap.size V2 VA from (Below.refl _ _).drew.trans hg); clear hg)
    | (go_at_call 113; (with_reducible refine (HSR.out _ (G2.out.trans (GA.out.mono G2.out.size))).mono ?_); rintro e VB ⟨⟨v, rfl, ho⟩, hg⟩; obtain ⟨D, c, hv, -, -, hi, -⟩ := OwnL.arr kdI ho; subst hv; have HI := Lib.hid hi; have GB := Lib.hid (show Below V2.heap.size V2 VB from GA.out.trans (hg.mono GA.out.size)); clear ho hg hi)
    | (go_at_call 109; (with_reducible refine (has_any _ _ _ _ x.a _ HI.out (by have := HSL.out; omega)).mono ?_); rintro e V4 ⟨rfl, rfl⟩; rw [HHH.out]))
  all_goals (try go_wp2_with fail)
  all_goals go_meet
  all_goals exact ⟨rfl, G2.out.trans (GB.out.mono G2.out.size)⟩
 case rest =>
  obtain ⟨rfl, hg⟩ := hcut
  have HB9 := Lib.hid (HB3.out.ext hg)
  have GALL := Lib.hid (G1.out.trans (hg.mono G1.out.size))
  have hz : ((n2 : Int) == 60) = true := by rw [hn2.out]; rfl
  have q6 := (HB1.out.ext hg).cell 3
  clear hg y0 y1 y2 y3 y4 y5 y6 y7 y8 y9 ya yb
  have m0 := HB9.out.cell 0
  have z0 := HB9.out.frozen 0
  have m1 := HB9.out.cell 1
  have z1 := HB9.out.frozen 1
  have m2 := HB9.out.cell 2
  have z2 := HB9.out.frozen 2
  have m3 := HB9.out.cell 3
  have z3 := HB9.out.frozen 3
  have m4 := HB9.out.cell 4
  have z4 := HB9.out.frozen 4
  have m5 := HB9.out.cell 5
  have z5 := HB9.out.frozen 5
  go_wp2_with fail
  have hb9 := HB9.out.setAll6 (.int .i64 0) (.int .i64 0) (.slice none 0 0) (.slice none 0 0) (.slice none 0 0) (.int .i64 0)
  have HG9 := Lib.hid (below_setAll6 (b := w.heap.size + 1 + 1) GALL.out (by omega) (.int .i64 0) (.int .i64 0) (.slice none 0 0) (.slice none 0 0) (.slice none 0 0) (.int .i64 0))
  have t0 := hb9.cell 0
  have t1 := hb9.cell 1
  have t2 := hb9.cell 2
  have t3 := hb9.cell 3
  have t4 := hb9.cell 4
  have t5 := hb9.cell 5
  clear hb9
  refine bodyPost_ret (v := .tuple #[.agg (plw zeroPl (.slice none 0 0) (.slice none 0 0) (.slice none 0 0)), .int .i64 2]) ?_ rfl ⟨⟨_, _, _, rfl, Cp.nil _ _⟩, HG9.out⟩
  simp [results, Tryz.results60, go_sem, t0, t1, t2, t3, t4, t5, zeroPl]
end Go.Proofs.YtkoejeghihcmlaaGreat

namespace Go.Proofs.YtkoejeghihcmlaaGreat
open Go.RowKit Go.Shelf
def okR (is : Six → Bool) (l : List Six) (j : Nat) : Bool := is (l.getD j z6) && (decide (j = 0) || decide ((l.getD (j - 1) z6).a < (l.getD j z6).a))
/-- No number twice. -/
def Once (l : List Int) : Prop := ∀ j, j < l.length → l.getD j 0 ∉ l.take j
theorem getD_src {l : List Six} {j : Nat} (h : j < l.length) : (srcs l).getD j 0 = (l.getD j z6).a := by
 unfold srcs
 rw [List.getD_eq_getElem?_getD, List.getD_eq_getElem?_getD, List.getElem?_map, List.getElem?_eq_getElem h]; rfl
theorem take_src (l : List Six) (j : Nat) : srcs (l.take j) = (srcs l).take j := by unfold srcs; rw [List.map_take]
theorem once_app {a b : List Int} : Once (a ++ b) ↔ Once a ∧ ∀ j, j < b.length → b.getD j 0 ∉ a ++ b.take j := by
 unfold Once
 constructor
 ·intro h
  refine ⟨fun j hj => ?_, fun j hj => ?_⟩
  ·have := h j (by rw [List.length_append]; omega)
   rw [List.take_append_of_le_length (by omega), List.getD_eq_getElem?_getD, List.getElem?_append_left hj, ← List.getD_eq_getElem?_getD] at this
   exact this
  ·have := h (a.length + j) (by rw [List.length_append]; omega)
   rw [List.take_append, List.take_of_length_le (by omega), show a.length + j - a.length = j by omega, List.getD_eq_getElem?_getD, List.getElem?_append_right (by omega), show a.length + j - a.length = j by omega, ← List.getD_eq_getElem?_getD] at this
   exact this
 ·rintro ⟨h1, h2⟩ j hj
  rw [List.length_append] at hj
  by_cases hc : j < a.length
  ·rw [List.take_append_of_le_length (by omega), List.getD_eq_getElem?_getD, List.getElem?_append_left hc, ← List.getD_eq_getElem?_getD]
   exact h1 j hc
  ·have := h2 (j - a.length) (by omega)
   rw [List.take_append, List.take_of_length_le (by omega), List.getD_eq_getElem?_getD, List.getElem?_append_right (by omega), ← List.getD_eq_getElem?_getD]
   exact this
theorem okL_parts {is : Six → Bool} {ks : List Int} {l : List Six} : okL is ks l = true ↔ l.length ≤ 60 ∧ (∀ j, j < l.length → okR is l j = true) ∧ ∀ j, j < (srcs l).length → (srcs l).getD j 0 ∉ ks ++ (srcs l).take j := by
 unfold okL
 rw [Bool.and_eq_true, List.all_eq_true, decide_eq_true_eq]
 have e : ∀ j, j < l.length → (okAt is ks l j = true ↔ okR is l j = true ∧ (srcs l).getD j 0 ∉ ks ++ (srcs l).take j) := fun j hj => by
  unfold okAt okR
  rw [Bool.and_eq_true, Bool.not_eq_true', getD_src hj, take_src, ← Bool.not_eq_true, List.contains_iff_mem]
 constructor
 ·rintro ⟨h1, h2⟩
  refine ⟨h2, fun j hj => ((e j hj).1 (h1 j (List.mem_range.2 hj))).1, fun j hj => ?_⟩
  rw [srcs_len] at hj
  exact ((e j hj).1 (h1 j (List.mem_range.2 hj))).2
 ·rintro ⟨h2, h1, h3⟩
  exact ⟨fun j hj => (e j (List.mem_range.1 hj)).2 ⟨h1 j (List.mem_range.1 hj), h3 j (by rw [srcs_len]; exact List.mem_range.1 hj)⟩, h2⟩
theorem okPl_ref {p : Pl} : okPl p = true ↔ (okSh p.lo p.hi = true ∧ rng p.geese 0 60 = true ∧ p.loads.length ≤ 60 ∧ p.stands.length ≤ 60 ∧ p.spells.length ≤ 60) ∧ (∀ j, j < p.loads.length → okR isLoad p.loads j = true) ∧ (∀ j, j < p.stands.length → okR isLoad p.stands j = true) ∧ (∀ j, j < p.spells.length → okR isSpell p.spells j = true) ∧ Once (srcs3 p) := by
 unfold okPl srcs3
 rw [Bool.and_eq_true, Bool.and_eq_true, Bool.and_eq_true, Bool.and_eq_true, okL_parts, okL_parts, okL_parts, once_app, once_app]
 constructor
 ·rintro ⟨⟨⟨⟨⟨a1, a2, a3⟩, b1, b2, b3⟩, c1, c2, c3⟩, d⟩, e⟩
  exact ⟨⟨d, e, a1, b1, c1⟩, a2, b2, c2, ⟨fun j hj => by have := a3 j hj; rwa [List.nil_append] at this, b3⟩, c3⟩
 ·rintro ⟨⟨d, e, a1, b1, c1⟩, a2, b2, c2, ⟨a3, b3⟩, c3⟩
  exact ⟨⟨⟨⟨⟨a1, a2, fun j hj => by rw [List.nil_append]; exact a3 j hj⟩, b1, b2, b3⟩, c1, c2, c3⟩, d⟩, e⟩
theorem okPl_no {p : Pl} (h : ¬ okPl p = true) : okPl p = false := by rwa [Bool.not_eq_true] at h
set_option maxRecDepth 100000 in
set_option maxHeartbeats 16000000 in
theorem refCheck_any (p : Pl) (A1 A2 A3 : Option Addr) (n1 c1 n2 c2 n3 c3 : Nat) (w : World) (hp : Pa w p A1 A2 A3 n1 c1 n2 c2 n3 c3) :
  Calls Tryz.prog 66 #[plv p A1 A2 A3 n1 c1 n2 c2 n3 c3] w fun e w' => e = .returned (.int .i64 (err (okPl p) 13)) ∧ Below w.heap.size w w' := by
 obtain ⟨W0, hW0⟩ : ∃ W0, w.alloc (.cells (plb p A1 A2 A3 n1 c1 n2 c2 n3 c3) 38) = W0 := ⟨_, rfl⟩
 have g0 : Below w.heap.size w W0 := by rw [← hW0]; exact one_more _ _
 have b0 : Blk W0 w.heap.size 38 (plb p A1 A2 A3 n1 c1 n2 c2 n3 c3) := by rw [← hW0]; exact Blk.new _ _ _
 have HL1 := Lib.hid (hp.l1.below g0)
 have HL2 := Lib.hid (hp.l2.below g0)
 have HL3 := Lib.hid (hp.l3.below g0)
 have HPA := Lib.hid (hp.below g0)
 have GA := Lib.hid g0
 have HB0 := Lib.hid b0
 have HW0 := Lib.hid hW0
 have r0 := b0.cell 0
 have r1 := b0.cell 1
 have r2 := b0.cell 2
 have r3 := b0.cell 3
 have r4 := b0.cell 4
 have r5 := b0.cell 5
 have TS := refSheaves_any p.lo p.hi W0
 have TG := fun V => in_any p.geese 0 60 V
 obtain ⟨s1, hs1⟩ : ∃ b, okSh p.lo p.hi = b := ⟨_, rfl⟩
 obtain ⟨s2, hs2⟩ : ∃ b, rng p.geese 0 60 = b := ⟨_, rfl⟩
 rw [hs1] at TS
 rw [hs2] at TG
 have HTS := Lib.hid TS
 have HTG := Lib.hid TG
 have hno : ∀ (V : World), Below W0.heap.size W0 V → ¬ (s1 = true ∧ s2 = true ∧ n1 ≤ 60 ∧ n2 ≤ 60 ∧ n3 ≤ 60) → Ending.returned (.int .i64 13) = .returned (.int .i64 (err (okPl p) 13)) ∧ Below w.heap.size w V := fun V g h => by
  have e : okPl p = false := okPl_no (fun h2 => h (by have := (okPl_ref.1 h2).1; rw [hs1, hs2, HL1.out.1, HL2.out.1, HL3.out.1] at this; exact this))
  rw [e]
  exact ⟨rfl, GA.out.trans (g.mono GA.out.size)⟩
 have HNO := Lib.hid hno
 have hyes : (s1 = true ∧ s2 = true ∧ n1 ≤ 60 ∧ n2 ≤ 60 ∧ n3 ≤ 60) → (okSh p.lo p.hi = true ∧ rng p.geese 0 60 = true ∧ p.loads.length ≤ 60 ∧ p.stands.length ≤ 60 ∧ p.spells.length ≤ 60) := fun h => by
  rw [hs1, hs2, HL1.out.1, HL2.out.1, HL3.out.1]; exact h
 have HYES := Lib.hid hyes
 clear TS TG hno hyes hs1 hs2 hp g0 b0 hW0
 go_enter Tryz.func66, Tryz.ntmps66
 go_upto_region 1 with fail
 rw [HW0.out]
 cases s1 with
 | false =>
  go_wp2_with (first
   | (go_at_call 146; (with_reducible refine (HTS.out).mono ?_); rintro e V ⟨rfl, hg⟩; have HG1 := Lib.hid hg; have m2 := (HB0.out.ext hg).cell 2; have m3 := (HB0.out.ext hg).cell 3; have m4 := (HB0.out.ext hg).cell 4; have m5 := (HB0.out.ext hg).cell 5; clear hg)
   | (go_at_call 131; (with_reducible refine (HTG.out _).mono ?_); rintro e w' ⟨rfl, rfl⟩))
  go_ret
  exact HNO.out _ HG1.out (by simp; try omega)
 | true =>
  cases s2 with
  | false =>
   go_wp2_with (first
    | (go_at_call 146; (with_reducible refine (HTS.out).mono ?_); rintro e V ⟨rfl, hg⟩; have HG1 := Lib.hid hg; have m2 := (HB0.out.ext hg).cell 2; have m3 := (HB0.out.ext hg).cell 3; have m4 := (HB0.out.ext hg).cell 4; have m5 := (HB0.out.ext hg).cell 5; clear hg)
    | (go_at_call 131; (with_reducible refine (HTG.out _).mono ?_); rintro e w' ⟨rfl, rfl⟩))
   go_ret
   exact HNO.out _ HG1.out (by simp; try omega)
  | true =>
   by_cases k1 : n1 ≤ 60
   ·have k1z : decide ((60 : Int) < (n1 : Int)) = false := decide_eq_false (by omega)
    by_cases k2 : n2 ≤ 60
    ·have k2z : decide ((60 : Int) < (n2 : Int)) = false := decide_eq_false (by omega)
     by_cases k3 : n3 ≤ 60
     ·have k3z : decide ((60 : Int) < (n3 : Int)) = false := decide_eq_false (by omega)
      have HNB := Lib.hid (show n1 ≤ 60 ∧ n2 ≤ 60 ∧ n3 ≤ 60 from ⟨k1, k2, k3⟩)
      have HALL := Lib.hid (HYES.out ⟨rfl, rfl, k1, k2, k3⟩)
      go_upto_region 4 with (first
       | (go_at_call 146; (with_reducible refine (HTS.out).mono ?_); rintro e V ⟨rfl, hg⟩; have HG1 := Lib.hid hg; have m2 := (HB0.out.ext hg).cell 2; have m3 := (HB0.out.ext hg).cell 3; have m4 := (HB0.out.ext hg).cell 4; have m5 := (HB0.out.ext hg).cell 5; clear hg)
       | (go_at_call 131; (with_reducible refine (HTG.out _).mono ?_); rintro e w' ⟨rfl, rfl⟩))
      clear m2 m3 m4 m5 r0 r1 r2 r3 r4 r5 HNO HYES
      go_loopw [3] (fun i wr => ∃ k : Nat, k ≤ n1 ∧ i = .int .i64 k ∧ Below W0.heap.size W0 wr ∧ ∀ j, j < k → okR isLoad p.loads j = true) (fun i _ => n1 - (intOf i).toNat)
      case atStart => exact ⟨0, Nat.zero_le _, rfl, HG1.out, fun j hj => absurd hj (by omega)⟩
      case round =>
       obtain ⟨k, hk, rfl, hg, hok⟩ := hrel
       have HG := Lib.hid hg
       have HOK := Lib.hid hok
       have q1 := cellW ((HB0.out.ext hg).cell 2)
       have q2 := (HB0.out.ext hg).cell 2
       clear hok
       by_cases hkn : k < n1
       ·obtain ⟨b0, o0, e0, -, -, hc⟩ := six_at (HL1.out.below hg) hkn
        obtain ⟨x, hxg⟩ : ∃ x, p.loads.getD k z6 = x := ⟨_, rfl⟩
        rw [hxg] at hc
        obtain ⟨x0, x1, x2, x3, x4, x5⟩ := hc wr (Below.refl _ _)
        have u0 := cellW x0
        have u1 := cellW x1
        have u2 := cellW x2
        have u3 := cellW x3
        have u4 := cellW x4
        have u5 := cellW x5
        have HXG := Lib.hid hxg
        have hkl : k < p.loads.length := by rw [HL1.out.1]; exact hkn
        obtain ⟨y, hy⟩ : ∃ y, p.loads.getD (k - 1) z6 = y := ⟨_, rfl⟩
        have HY := Lib.hid (fun (h0 : 0 < k) (z : Wd wr) => (show z.val.cell? ⟨b0, o0 + (k - 1) * 6, none⟩ = some (.int .i64 y.a) from by
         obtain ⟨b2, o2, e2, -, -, hc2⟩ := six_at (HL1.out.below hg) (show k - 1 < n1 by omega)
         rw [e0] at e2
         cases e2
         rw [hy] at hc2
         exact (hc2 z.val z.ok).1))
        subst e0
        have hki : (k : Int) < (n1 : Int) := by omega
        have hk9 : k < 1000 := by have := HNB.out; omega
        clear hc hxg x0 x1 x2 x3 x4 x5 hg
        obtain ⟨iv, hiv⟩ : ∃ iv, isLoad x = iv := ⟨_, rfl⟩
        have TCK := fun W => refLoad_any x W
        rw [hiv] at TCK
        cases iv with
        | false =>
         rw [show err false 10 = 10 from rfl] at TCK
         have HCK := Lib.hid TCK
         have HNO := Lib.hid (okPl_no (p := p) (fun h => by have h2 := (okPl_ref.1 h).2.1 k hkl; unfold okR at h2; rw [HXG.out, hiv] at h2; cases h2))
         clear TCK hiv hy
         go_wp2_with fail
         refine wp_region_calm wr (by kernel_rfl) (by kernel_rfl) (Below.refl _ _) ?_
         repeat (go_big_quiet_step ((go_at_call 68; exact callsCalm (HCK.out _))))
         refine wpQuiet_nil ?_
         rintro _ ⟨z, rfl⟩
         have GZ := Lib.hid (GA.out.trans ((HG.out.trans (z.ok.mono HG.out.size)).mono GA.out.size))
         go_wp2_with fail
         go_ret
         exact ⟨by rw [HNO.out]; rfl, GZ.out⟩
        | true =>
         rw [show err true 10 = 0 from rfl] at TCK
         have HCK := Lib.hid TCK
         by_cases hk0 : k = 0
         ·have e1 : decide ((0 : Int) < (k : Int)) = false := decide_eq_false (by omega)
          have e1' : ¬ (0 : Int) < (k : Int) := by omega
          have e2 : decide (0 < k) = false := decide_eq_false (by omega)
          have HAT := Lib.hid (show okR isLoad p.loads k = true by unfold okR; rw [HXG.out, hiv, decide_eq_true hk0]; rfl)
          clear hk0
          clear TCK hiv hy
          go_wp2_with fail
          refine wp_region_calm wr (by kernel_rfl) (by kernel_rfl) (Below.refl _ _) ?_
          repeat (go_big_quiet_step ((go_at_call 68; exact callsCalm (HCK.out _))))
          refine wpQuiet_nil ?_
          rintro _ ⟨z, rfl⟩
          have GZ := Lib.hid (HG.out.trans (z.ok.mono HG.out.size))
          go_wp2_with fail
          go_roundw
          case rel => exact ⟨k + 1, by omega, by go_num, GZ.out, fun j hj => by
           by_cases e : j = k
           ·subst e; exact HAT.out
           ·exact HOK.out j (by omega)⟩
          case measure => simp [intOf]; omega
         ·obtain ⟨k', rfl⟩ : ∃ k', k = k' + 1 := ⟨k - 1, by omega⟩
          have e1 : decide ((0 : Int) < ((k' + 1 : Nat) : Int)) = true := decide_eq_true (by omega)
          have e2 : decide (0 < k' + 1) = true := decide_eq_true (by omega)
          have y0 := HY.out (by omega)
          have hk1 : (k' : Int) < (n1 : Int) := by omega
          have hk2 : IntKind.i64.wrap (((k' + 1 : Nat) : Int) - 1) = (k' : Int) := by rw [IntKind.wrap_i64]; have := HNB.out; omega
          have hk3 : (((k' + 1 : Nat) : Int) - 1) = (k' : Int) := by omega
          rw [Nat.add_sub_cancel] at y0 hy
          by_cases hr : y.a < x.a
          ·have e3 : decide (x.a ≤ y.a) = false := decide_eq_false (by omega)
           have HAT := Lib.hid (show okR isLoad p.loads (k' + 1) = true by unfold okR; rw [HXG.out, hiv, Nat.add_sub_cancel, hy, decide_eq_true hr]; simp)
           clear hk0 hr HY
           clear TCK hiv hy
           go_wp2_with fail
           refine wp_region_calm wr (by kernel_rfl) (by kernel_rfl) (Below.refl _ _) ?_
           repeat (go_big_quiet_step ((go_at_call 68; exact callsCalm (HCK.out _))))
           refine wpQuiet_nil ?_
           rintro _ ⟨z, rfl⟩
           have GZ := Lib.hid (HG.out.trans (z.ok.mono HG.out.size))
           go_wp2_with fail
           go_roundw
           case rel => exact ⟨k' + 1 + 1, by omega, by go_num, GZ.out, fun j hj => by
            by_cases e : j = k' + 1
            ·subst e; exact HAT.out
            ·exact HOK.out j (by omega)⟩
           case measure => simp [intOf]; omega
          ·have e3 : decide (x.a ≤ y.a) = true := decide_eq_true (by omega)
           have hr2 := decide_eq_false hr
           clear hk0 HY
           have HNO := Lib.hid (okPl_no (p := p) (fun h => by have h2 := (okPl_ref.1 h).2.1 (k' + 1) hkl; unfold okR at h2; rw [HXG.out, hiv, Nat.add_sub_cancel, hy, hr2] at h2; simp at h2))
           clear TCK hiv hy
           go_wp2_with fail
           refine wp_region_calm wr (by kernel_rfl) (by kernel_rfl) (Below.refl _ _) ?_
           repeat (go_big_quiet_step ((go_at_call 68; exact callsCalm (HCK.out _))))
           refine wpQuiet_nil ?_
           rintro _ ⟨z, rfl⟩
           have GZ := Lib.hid (GA.out.trans ((HG.out.trans (z.ok.mono HG.out.size)).mono GA.out.size))
           go_wp2_with fail
           go_ret
           exact ⟨by rw [HNO.out]; rfl, GZ.out⟩
       ·obtain rfl : n1 = k := by omega
        have HEND1 := Lib.hid (show ∀ j, j < p.loads.length → okR isLoad p.loads j = true by rw [HL1.out.1]; exact HOK.out)
        have HGE1 := Lib.hid (show Below W0.heap.size W0 wr from HG.out)
        clear HG HOK hg q1
        obtain ⟨V1, hV1⟩ : ∃ V, wr = V := ⟨_, rfl⟩
        rw [hV1] at HGE1 q2 ⊢
        clear hV1 hkn hk
        go_wp2_with fail
        clear q2
        go_loopw [4] (fun i wr => ∃ k : Nat, k ≤ n2 ∧ i = .int .i64 k ∧ Below W0.heap.size W0 wr ∧ ∀ j, j < k → okR isLoad p.stands j = true) (fun i _ => n2 - (intOf i).toNat)
        case atStart => exact ⟨0, Nat.zero_le _, rfl, HGE1.out, fun j hj => absurd hj (by omega)⟩
        case round =>
         obtain ⟨k, hk, rfl, hg, hok⟩ := hrel
         have HG := Lib.hid hg
         have HOK := Lib.hid hok
         have q1 := cellW ((HB0.out.ext hg).cell 3)
         have q2 := (HB0.out.ext hg).cell 3
         clear hok
         by_cases hkn : k < n2
         ·obtain ⟨b0, o0, e0, -, -, hc⟩ := six_at (HL2.out.below hg) hkn
          obtain ⟨x, hxg⟩ : ∃ x, p.stands.getD k z6 = x := ⟨_, rfl⟩
          rw [hxg] at hc
          obtain ⟨x0, x1, x2, x3, x4, x5⟩ := hc wr (Below.refl _ _)
          have u0 := cellW x0
          have u1 := cellW x1
          have u2 := cellW x2
          have u3 := cellW x3
          have u4 := cellW x4
          have u5 := cellW x5
          have HXG := Lib.hid hxg
          have hkl : k < p.stands.length := by rw [HL2.out.1]; exact hkn
          obtain ⟨y, hy⟩ : ∃ y, p.stands.getD (k - 1) z6 = y := ⟨_, rfl⟩
          have HY := Lib.hid (fun (h0 : 0 < k) (z : Wd wr) => (show z.val.cell? ⟨b0, o0 + (k - 1) * 6, none⟩ = some (.int .i64 y.a) from by
           obtain ⟨b2, o2, e2, -, -, hc2⟩ := six_at (HL2.out.below hg) (show k - 1 < n2 by omega)
           rw [e0] at e2
           cases e2
           rw [hy] at hc2
           exact (hc2 z.val z.ok).1))
          subst e0
          have hki : (k : Int) < (n2 : Int) := by omega
          have hk9 : k < 1000 := by have := HNB.out; omega
          clear hc hxg x0 x1 x2 x3 x4 x5 hg
          obtain ⟨iv, hiv⟩ : ∃ iv, isLoad x = iv := ⟨_, rfl⟩
          have TCK := fun W => refStand_any x W
          rw [hiv] at TCK
          cases iv with
          | false =>
           rw [show err false 11 = 11 from rfl] at TCK
           have HCK := Lib.hid TCK
           have HNO := Lib.hid (okPl_no (p := p) (fun h => by have h2 := (okPl_ref.1 h).2.2.1 k hkl; unfold okR at h2; rw [HXG.out, hiv] at h2; cases h2))
           clear TCK hiv hy
           go_wp2_with fail
           refine wp_region_calm wr (by kernel_rfl) (by kernel_rfl) (Below.refl _ _) ?_
           repeat (go_big_quiet_step ((go_at_call 70; exact callsCalm (HCK.out _))))
           refine wpQuiet_nil ?_
           rintro _ ⟨z, rfl⟩
           have GZ := Lib.hid (GA.out.trans ((HG.out.trans (z.ok.mono HG.out.size)).mono GA.out.size))
           go_wp2_with fail
           go_ret
           exact ⟨by rw [HNO.out]; rfl, GZ.out⟩
          | true =>
           rw [show err true 11 = 0 from rfl] at TCK
           have HCK := Lib.hid TCK
           by_cases hk0 : k = 0
           ·have e1 : decide ((0 : Int) < (k : Int)) = false := decide_eq_false (by omega)
            have e1' : ¬ (0 : Int) < (k : Int) := by omega
            have e2 : decide (0 < k) = false := decide_eq_false (by omega)
            have HAT := Lib.hid (show okR isLoad p.stands k = true by unfold okR; rw [HXG.out, hiv, decide_eq_true hk0]; rfl)
            clear hk0
            clear TCK hiv hy
            go_wp2_with fail
            refine wp_region_calm wr (by kernel_rfl) (by kernel_rfl) (Below.refl _ _) ?_
            repeat (go_big_quiet_step ((go_at_call 70; exact callsCalm (HCK.out _))))
            refine wpQuiet_nil ?_
            rintro _ ⟨z, rfl⟩
            have GZ := Lib.hid (HG.out.trans (z.ok.mono HG.out.size))
            go_wp2_with fail
            go_roundw
            case rel => exact ⟨k + 1, by omega, by go_num, GZ.out, fun j hj => by
             by_cases e : j = k
             ·subst e; exact HAT.out
             ·exact HOK.out j (by omega)⟩
            case measure => simp [intOf]; omega
           ·obtain ⟨k', rfl⟩ : ∃ k', k = k' + 1 := ⟨k - 1, by omega⟩
            have e1 : decide ((0 : Int) < ((k' + 1 : Nat) : Int)) = true := decide_eq_true (by omega)
            have e2 : decide (0 < k' + 1) = true := decide_eq_true (by omega)
            have y0 := HY.out (by omega)
            have hk1 : (k' : Int) < (n2 : Int) := by omega
            have hk2 : IntKind.i64.wrap (((k' + 1 : Nat) : Int) - 1) = (k' : Int) := by rw [IntKind.wrap_i64]; have := HNB.out; omega
            have hk3 : (((k' + 1 : Nat) : Int) - 1) = (k' : Int) := by omega
            rw [Nat.add_sub_cancel] at y0 hy
            by_cases hr : y.a < x.a
            ·have e3 : decide (x.a ≤ y.a) = false := decide_eq_false (by omega)
             have HAT := Lib.hid (show okR isLoad p.stands (k' + 1) = true by unfold okR; rw [HXG.out, hiv, Nat.add_sub_cancel, hy, decide_eq_true hr]; simp)
             clear hk0 hr HY
             clear TCK hiv hy
             go_wp2_with fail
             refine wp_region_calm wr (by kernel_rfl) (by kernel_rfl) (Below.refl _ _) ?_
             repeat (go_big_quiet_step ((go_at_call 70; exact callsCalm (HCK.out _))))
             refine wpQuiet_nil ?_
             rintro _ ⟨z, rfl⟩
             have GZ := Lib.hid (HG.out.trans (z.ok.mono HG.out.size))
             go_wp2_with fail
             go_roundw
             case rel => exact ⟨k' + 1 + 1, by omega, by go_num, GZ.out, fun j hj => by
              by_cases e : j = k' + 1
              ·subst e; exact HAT.out
              ·exact HOK.out j (by omega)⟩
             case measure => simp [intOf]; omega
            ·have e3 : decide (x.a ≤ y.a) = true := decide_eq_true (by omega)
             have hr2 := decide_eq_false hr
             clear hk0 HY
             have HNO := Lib.hid (okPl_no (p := p) (fun h => by have h2 := (okPl_ref.1 h).2.2.1 (k' + 1) hkl; unfold okR at h2; rw [HXG.out, hiv, Nat.add_sub_cancel, hy, hr2] at h2; simp at h2))
             clear TCK hiv hy
             go_wp2_with fail
             refine wp_region_calm wr (by kernel_rfl) (by kernel_rfl) (Below.refl _ _) ?_
             repeat (go_big_quiet_step ((go_at_call 70; exact callsCalm (HCK.out _))))
             refine wpQuiet_nil ?_
             rintro _ ⟨z, rfl⟩
             have GZ := Lib.hid (GA.out.trans ((HG.out.trans (z.ok.mono HG.out.size)).mono GA.out.size))
             go_wp2_with fail
             go_ret
             exact ⟨by rw [HNO.out]; rfl, GZ.out⟩
         ·obtain rfl : n2 = k := by omega
          have HEND2 := Lib.hid (show ∀ j, j < p.stands.length → okR isLoad p.stands j = true by rw [HL2.out.1]; exact HOK.out)
          have HGE2 := Lib.hid (show Below W0.heap.size W0 wr from HG.out)
          clear HG HOK hg q1
          obtain ⟨V2, hV2⟩ : ∃ V, wr = V := ⟨_, rfl⟩
          rw [hV2] at HGE2 q2 ⊢
          clear hV2 hkn hk
          go_wp2_with fail
          clear q2
          go_loopw [5] (fun i wr => ∃ k : Nat, k ≤ n3 ∧ i = .int .i64 k ∧ Below W0.heap.size W0 wr ∧ ∀ j, j < k → okR isSpell p.spells j = true) (fun i _ => n3 - (intOf i).toNat)
          case atStart => exact ⟨0, Nat.zero_le _, rfl, HGE2.out, fun j hj => absurd hj (by omega)⟩
          case round =>
           obtain ⟨k, hk, rfl, hg, hok⟩ := hrel
           have HG := Lib.hid hg
           have HOK := Lib.hid hok
           have q1 := cellW ((HB0.out.ext hg).cell 4)
           have q2 := (HB0.out.ext hg).cell 4
           clear hok
           by_cases hkn : k < n3
           ·obtain ⟨b0, o0, e0, -, -, hc⟩ := six_at (HL3.out.below hg) hkn
            obtain ⟨x, hxg⟩ : ∃ x, p.spells.getD k z6 = x := ⟨_, rfl⟩
            rw [hxg] at hc
            obtain ⟨x0, x1, x2, x3, x4, x5⟩ := hc wr (Below.refl _ _)
            have u0 := cellW x0
            have u1 := cellW x1
            have u2 := cellW x2
            have u3 := cellW x3
            have u4 := cellW x4
            have u5 := cellW x5
            have HXG := Lib.hid hxg
            have hkl : k < p.spells.length := by rw [HL3.out.1]; exact hkn
            obtain ⟨y, hy⟩ : ∃ y, p.spells.getD (k - 1) z6 = y := ⟨_, rfl⟩
            have HY := Lib.hid (fun (h0 : 0 < k) (z : Wd wr) => (show z.val.cell? ⟨b0, o0 + (k - 1) * 6, none⟩ = some (.int .i64 y.a) from by
             obtain ⟨b2, o2, e2, -, -, hc2⟩ := six_at (HL3.out.below hg) (show k - 1 < n3 by omega)
             rw [e0] at e2
             cases e2
             rw [hy] at hc2
             exact (hc2 z.val z.ok).1))
            subst e0
            have hki : (k : Int) < (n3 : Int) := by omega
            have hk9 : k < 1000 := by have := HNB.out; omega
            clear hc hxg x0 x1 x2 x3 x4 x5 hg
            obtain ⟨iv, hiv⟩ : ∃ iv, isSpell x = iv := ⟨_, rfl⟩
            have TCK := fun W => refSpell_any x W
            rw [hiv] at TCK
            cases iv with
            | false =>
             rw [show err false 12 = 12 from rfl] at TCK
             have HCK := Lib.hid TCK
             have HNO := Lib.hid (okPl_no (p := p) (fun h => by have h2 := (okPl_ref.1 h).2.2.2.1 k hkl; unfold okR at h2; rw [HXG.out, hiv] at h2; cases h2))
             clear TCK hiv hy
             go_wp2_with fail
             refine wp_region_calm wr (by kernel_rfl) (by kernel_rfl) (Below.refl _ _) ?_
             repeat (go_big_quiet_step ((go_at_call 72; exact callsCalm (HCK.out _))))
             refine wpQuiet_nil ?_
             rintro _ ⟨z, rfl⟩
             have GZ := Lib.hid (GA.out.trans ((HG.out.trans (z.ok.mono HG.out.size)).mono GA.out.size))
             go_wp2_with fail
             go_ret
             exact ⟨by rw [HNO.out]; rfl, GZ.out⟩
            | true =>
             rw [show err true 12 = 0 from rfl] at TCK
             have HCK := Lib.hid TCK
             by_cases hk0 : k = 0
             ·have e1 : decide ((0 : Int) < (k : Int)) = false := decide_eq_false (by omega)
              have e1' : ¬ (0 : Int) < (k : Int) := by omega
              have e2 : decide (0 < k) = false := decide_eq_false (by omega)
              have HAT := Lib.hid (show okR isSpell p.spells k = true by unfold okR; rw [HXG.out, hiv, decide_eq_true hk0]; rfl)
              clear hk0
              clear TCK hiv hy
              go_wp2_with fail
              refine wp_region_calm wr (by kernel_rfl) (by kernel_rfl) (Below.refl _ _) ?_
              repeat (go_big_quiet_step ((go_at_call 72; exact callsCalm (HCK.out _))))
              refine wpQuiet_nil ?_
              rintro _ ⟨z, rfl⟩
              have GZ := Lib.hid (HG.out.trans (z.ok.mono HG.out.size))
              go_wp2_with fail
              go_roundw
              case rel => exact ⟨k + 1, by omega, by go_num, GZ.out, fun j hj => by
               by_cases e : j = k
               ·subst e; exact HAT.out
               ·exact HOK.out j (by omega)⟩
              case measure => simp [intOf]; omega
             ·obtain ⟨k', rfl⟩ : ∃ k', k = k' + 1 := ⟨k - 1, by omega⟩
              have e1 : decide ((0 : Int) < ((k' + 1 : Nat) : Int)) = true := decide_eq_true (by omega)
              have e2 : decide (0 < k' + 1) = true := decide_eq_true (by omega)
              have y0 := HY.out (by omega)
              have hk1 : (k' : Int) < (n3 : Int) := by omega
              have hk2 : IntKind.i64.wrap (((k' + 1 : Nat) : Int) - 1) = (k' : Int) := by rw [IntKind.wrap_i64]; have := HNB.out; omega
              have hk3 : (((k' + 1 : Nat) : Int) - 1) = (k' : Int) := by omega
              rw [Nat.add_sub_cancel] at y0 hy
              by_cases hr : y.a < x.a
              ·have e3 : decide (x.a ≤ y.a) = false := decide_eq_false (by omega)
               have HAT := Lib.hid (show okR isSpell p.spells (k' + 1) = true by unfold okR; rw [HXG.out, hiv, Nat.add_sub_cancel, hy, decide_eq_true hr]; simp)
               clear hk0 hr HY
               clear TCK hiv hy
               go_wp2_with fail
               refine wp_region_calm wr (by kernel_rfl) (by kernel_rfl) (Below.refl _ _) ?_
               repeat (go_big_quiet_step ((go_at_call 72; exact callsCalm (HCK.out _))))
               refine wpQuiet_nil ?_
               rintro _ ⟨z, rfl⟩
               have GZ := Lib.hid (HG.out.trans (z.ok.mono HG.out.size))
               go_wp2_with fail
               go_roundw
               case rel => exact ⟨k' + 1 + 1, by omega, by go_num, GZ.out, fun j hj => by
                by_cases e : j = k' + 1
                ·subst e; exact HAT.out
                ·exact HOK.out j (by omega)⟩
               case measure => simp [intOf]; omega
              ·have e3 : decide (x.a ≤ y.a) = true := decide_eq_true (by omega)
               have hr2 := decide_eq_false hr
               clear hk0 HY
               have HNO := Lib.hid (okPl_no (p := p) (fun h => by have h2 := (okPl_ref.1 h).2.2.2.1 (k' + 1) hkl; unfold okR at h2; rw [HXG.out, hiv, Nat.add_sub_cancel, hy, hr2] at h2; simp at h2))
               clear TCK hiv hy
               go_wp2_with fail
               refine wp_region_calm wr (by kernel_rfl) (by kernel_rfl) (Below.refl _ _) ?_
               repeat (go_big_quiet_step ((go_at_call 72; exact callsCalm (HCK.out _))))
               refine wpQuiet_nil ?_
               rintro _ ⟨z, rfl⟩
               have GZ := Lib.hid (GA.out.trans ((HG.out.trans (z.ok.mono HG.out.size)).mono GA.out.size))
               go_wp2_with fail
               go_ret
               exact ⟨by rw [HNO.out]; rfl, GZ.out⟩
           ·obtain rfl : n3 = k := by omega
            have HEND3 := Lib.hid (show ∀ j, j < p.spells.length → okR isSpell p.spells j = true by rw [HL3.out.1]; exact HOK.out)
            have HGE3 := Lib.hid (show Below W0.heap.size W0 wr from HG.out)
            clear HG HOK hg q1
            obtain ⟨V3, hV3⟩ : ∃ V, wr = V := ⟨_, rfl⟩
            rw [hV3] at HGE3 q2 ⊢
            clear hV3 hkn hk
            have HSR := Lib.hid (refSources_any p A1 A2 A3 n1 c1 n2 c2 n3 c3 V3 (HPA.out.below HGE3.out) ⟨by have := HNB.out; omega, by have := HNB.out; omega, by have := HNB.out; omega⟩)
            have t0 := (HB0.out.ext HGE3.out).cell 0
            have t1 := (HB0.out.ext HGE3.out).cell 1
            have t2 := (HB0.out.ext HGE3.out).cell 2
            have t3 := (HB0.out.ext HGE3.out).cell 3
            have t4 := (HB0.out.ext HGE3.out).cell 4
            have t5 := (HB0.out.ext HGE3.out).cell 5
            go_upto_region 19 with (go_at_call 137; (with_reducible refine (HSR.out).mono ?_); rintro e V4 ⟨⟨v4, rfl, ho⟩, hg⟩; obtain ⟨A4, c4, hv4, hc4, hm4, hi4, -⟩ := OwnL.arr kdI ho; obtain ⟨n4, hn4⟩ : ∃ n, (srcs3 p).length = n := ⟨_, rfl⟩; rw [hn4] at hv4 hc4 hi4; subst hv4; have HI4 := Lib.hid hi4; have HN4 := Lib.hid hn4; have HC4 := Lib.hid hc4; have HM4 := Lib.hid hm4; have HG4 := Lib.hid (HGE3.out.trans (hg.mono HGE3.out.size)); clear ho hg hi4 hn4 hc4 hm4)
            clear t0 t1 t2 t3 t4 t5 q2
            have hn4b : n4 ≤ 1000 := by
             have h1 := HN4.out
             have h2 := HNB.out
             have e1 := HL1.out.1
             have e2 := HL2.out.1
             have e3 := HL3.out.1
             unfold srcs3 at h1
             simp only [List.length_append, srcs_len] at h1
             omega
            have hc4 : n4 ≤ c4 := HC4.out
            have hm4 : c4 ≤ 9223372036854775807 := by have := HM4.out; unfold maxLen at this; omega
            go_wp2_with fail
            go_loopw [7] (fun i wr => ∃ k : Nat, k ≤ n4 ∧ i = .int .i64 k ∧ Below V4.heap.size V4 wr ∧ ∀ j, j < k → (srcs3 p).getD j 0 ∉ (srcs3 p).take j) (fun i _ => n4 - (intOf i).toNat)
            case atStart => exact ⟨0, Nat.zero_le _, rfl, Below.refl _ _, fun j hj => absurd hj (by omega)⟩
            case round =>
             obtain ⟨k, hk, rfl, hg, hok⟩ := hrel
             have HG := Lib.hid hg
             have HOK := Lib.hid hok
             clear hok
             by_cases hkn : k < n4
             ·obtain ⟨b9, o9, e9, -, -, hc9⟩ := ints_at (HI4.out.below hg) hkn
              obtain ⟨s, hs⟩ : ∃ s, (srcs3 p).getD k 0 = s := ⟨_, rfl⟩
              rw [hs] at hc9
              have u1 := cellW (hc9 _ (Below.refl _ _))
              have TH := fun (z : Wd wr) => refHas_any A4 k c4 ((srcs3 p).take k) s z.val (((HI4.out.below hg).below z.ok).take (by omega)) (by omega)
              obtain ⟨hb, hhb⟩ : ∃ b, hasI ((srcs3 p).take k) s = b := ⟨_, rfl⟩
              rw [hhb] at TH
              subst e9
              have HTH := Lib.hid TH
              have hki : (k : Int) < (n4 : Int) := by omega
              have hk9 : k < 1000 := by omega
              have hkc : (k : Int) ≤ (c4 : Int) := by omega
              have HS := Lib.hid hs
              have HHB := Lib.hid hhb
              clear TH hc9 hg hs hhb
              cases hb with
              | true =>
               have HNX := Lib.hid (okPl_no (p := p) (fun h => by
                have h2 := (okPl_ref.1 h).2.2.2.2 k (by rw [HN4.out]; exact hkn)
                rw [HS.out] at h2
                exact h2 (hasI_iff.1 HHB.out)))
               go_wp2_with fail
               refine wp_region_calm wr (by kernel_rfl) (by kernel_rfl) (Below.refl _ _) ?_
               repeat (go_big_quiet_step ((go_at_call 47; exact callsCalmSame (HTH.out _))))
               refine wpQuiet_nil ?_
               rintro _ ⟨z, rfl⟩
               have GZ := Lib.hid (GA.out.trans ((HG4.out.trans ((HG.out.trans (z.ok.mono HG.out.size)).mono HG4.out.size)).mono GA.out.size))
               go_wp2_with fail
               go_ret
               exact ⟨by rw [HNX.out]; rfl, GZ.out⟩
              | false =>
               have HAT := Lib.hid (show (srcs3 p).getD k 0 ∉ (srcs3 p).take k by
                rw [HS.out]
                intro h
                have := hasI_true h
                rw [HHB.out] at this
                cases this)
               go_wp2_with fail
               refine wp_region_calm wr (by kernel_rfl) (by kernel_rfl) (Below.refl _ _) ?_
               repeat (go_big_quiet_step ((go_at_call 47; exact callsCalmSame (HTH.out _))))
               refine wpQuiet_nil ?_
               rintro _ ⟨z, rfl⟩
               have GZ := Lib.hid (HG.out.trans (z.ok.mono HG.out.size))
               go_wp2_with fail
               go_roundw
               case rel => exact ⟨k + 1, by omega, by go_num, GZ.out, fun j hj => by
                by_cases e : j = k
                ·subst e; exact HAT.out
                ·exact HOK.out j (by omega)⟩
               case measure => simp [intOf]; omega
             ·obtain rfl : n4 = k := by omega
              have HYS := Lib.hid (show okPl p = true from okPl_ref.2 ⟨HALL.out, HEND1.out, HEND2.out, HEND3.out, fun j hj => HOK.out j (by rw [← HN4.out]; exact hj)⟩)
              have GZ := Lib.hid (GA.out.trans ((HG4.out.trans (HG.out.mono HG4.out.size)).mono GA.out.size))
              go_wp2_with fail
              go_ret
              exact ⟨by rw [HYS.out]; rfl, GZ.out⟩
     ·have k3z : decide ((60 : Int) < (n3 : Int)) = true := decide_eq_true (by omega)
      go_wp2_with (first
       | (go_at_call 146; (with_reducible refine (HTS.out).mono ?_); rintro e V ⟨rfl, hg⟩; have HG1 := Lib.hid hg; have m2 := (HB0.out.ext hg).cell 2; have m3 := (HB0.out.ext hg).cell 3; have m4 := (HB0.out.ext hg).cell 4; have m5 := (HB0.out.ext hg).cell 5; clear hg)
       | (go_at_call 131; (with_reducible refine (HTG.out _).mono ?_); rintro e w' ⟨rfl, rfl⟩))
      go_ret
      exact HNO.out _ HG1.out (by simp; try omega)
    ·have k2z : decide ((60 : Int) < (n2 : Int)) = true := decide_eq_true (by omega)
     go_wp2_with (first
      | (go_at_call 146; (with_reducible refine (HTS.out).mono ?_); rintro e V ⟨rfl, hg⟩; have HG1 := Lib.hid hg; have m2 := (HB0.out.ext hg).cell 2; have m3 := (HB0.out.ext hg).cell 3; have m4 := (HB0.out.ext hg).cell 4; have m5 := (HB0.out.ext hg).cell 5; clear hg)
      | (go_at_call 131; (with_reducible refine (HTG.out _).mono ?_); rintro e w' ⟨rfl, rfl⟩))
     go_ret
     exact HNO.out _ HG1.out (by simp; try omega)
   ·have k1z : decide ((60 : Int) < (n1 : Int)) = true := decide_eq_true (by omega)
    go_wp2_with (first
     | (go_at_call 146; (with_reducible refine (HTS.out).mono ?_); rintro e V ⟨rfl, hg⟩; have HG1 := Lib.hid hg; have m2 := (HB0.out.ext hg).cell 2; have m3 := (HB0.out.ext hg).cell 3; have m4 := (HB0.out.ext hg).cell 4; have m5 := (HB0.out.ext hg).cell 5; clear hg)
     | (go_at_call 131; (with_reducible refine (HTG.out _).mono ?_); rintro e w' ⟨rfl, rfl⟩))
    go_ret
    exact HNO.out _ HG1.out (by simp; try omega)
end Go.Proofs.YtkoejeghihcmlaaGreat

namespace Go.Proofs.YtkoejeghihcmlaaGreat
open Go.RowKit Go.Shelf
theorem Below.allo9 {B : Nat} {V X : World} (h : Below B V X) (hB : B ≤ X.heap.size) (o : Obj) : Below B V (X.alloc o) := h.trans ((one_more X o).mono hB)
theorem Arr.drop {α : Type} {f : α → List Value} {size : Nat} {w : World} {b o n : Nat} {xs : List α} (h : Arr f size w (some ⟨b, o, none⟩) n xs) (k : Nat) : Arr f size w (some ⟨b, o + k * size, none⟩) (n - k) (xs.drop k) := by
 refine ⟨by rw [List.length_drop, h.1], fun hn => ?_⟩
 obtain ⟨b', o', e, hb, hc⟩ := h.2 (by omega)
 cases e
 refine ⟨b, o + k * size, rfl, hb, fun i x hx j u hu => ?_⟩
 rw [List.getElem?_drop] at hx
 have := hc (k + i) x hx j u hu
 rw [Nat.add_mul] at this
 rw [show o + k * size + i * size + j = o + (k * size + i * size) + j by omega]
 exact this
end Go.Proofs.YtkoejeghihcmlaaGreat

namespace Go.Proofs.YtkoejeghihcmlaaGreat
open Go.RowKit Go.Shelf
section
variable {α : Type} {f : α → List Value} {size : Nat} {e : TypeId}
theorem flat_set (hf : ∀ x, (f x).length = size) {ys : List α} {i j : Nat} {x x' : α} {u : Value} (hx : ys[i]? = some x) (hj : j < size) (hx' : f x' = (f x).set j u) : (ys.flatMap f).set (i * size + j) u = (ys.set i x').flatMap f := by
 have hi : i < ys.length := (List.getElem?_eq_some_iff.1 hx).1
 have hlen : i * size + j < (ys.flatMap f).length := by
  rw [flat_len hf]
  have : (i + 1) * size ≤ ys.length * size := Nat.mul_le_mul_right _ hi
  rw [Nat.succ_mul] at this
  omega
 apply List.ext_getElem?
 intro q
 have hq : q = q / size * size + q % size := (Nat.div_add_mod' q size).symm
 have hr : q % size < size := Nat.mod_lt _ (by omega)
 generalize q / size = k at hq
 generalize q % size = r at hq hr
 subst hq
 rw [flat_get hf _ k r hr, List.getElem?_set, List.getElem?_set]
 by_cases e1 : i = k
 ·subst e1
  rw [if_pos rfl, if_pos hi]
  show _ = (f x')[r]?
  rw [hx', List.getElem?_set]
  by_cases e2 : j = r
  ·subst e2
   rw [if_pos rfl, if_pos hlen, if_pos rfl, if_pos (by rw [hf]; exact hj)]
  ·rw [if_neg (by omega), if_neg e2, flat_get hf _ i r hr, hx]
   rfl
 ·rw [if_neg e1]
  have hne : ¬ i * size + j = k * size + r := by
   intro h
   rcases Nat.lt_or_gt_of_ne e1 with c | c
   ·have := Nat.mul_le_mul_right size c
    rw [Nat.succ_mul] at this
    omega
   ·have := Nat.mul_le_mul_right size c
    rw [Nat.succ_mul] at this
    omega
  rw [if_neg hne, flat_get hf _ k r hr]
/-- A store of one cell of an element. -/
theorem OwnL.put1 (hf : ∀ x, (f x).length = size) {w : World} {base g n cap i j : Nat} {ys : List α} {x x' : α} {u : Value} (h : OwnL f size e w base (.slice (some ⟨g, 0, none⟩) n cap) ys) (hx : ys[i]? = some x) (hj : j < size) (hx' : f x' = (f x).set j u) :
  OwnL f size e (w.setCell ⟨g, i * size + j, none⟩ u) base (.slice (some ⟨g, 0, none⟩) n cap) (ys.set i x') := by
 obtain ⟨hn0, hb, cur, hg, hn, hm, hs, ht⟩ := own_inv h
 refine own_mk hf (by rw [List.length_set]; exact hn0) hb (hg.set_ _ _) hn hm (by rw [Array.size_setIfInBounds]; exact hs) ?_
 rw [Array.toList_setIfInBounds, List.take_set, ht]
 exact flat_set hf hx hj hx'
end
end Go.Proofs.YtkoejeghihcmlaaGreat

namespace Go.Proofs.YtkoejeghihcmlaaGreat
open Go.RowKit Go.Shelf
theorem noNums (w : World) : Ints w none 0 [] := Arr.nil_
end Go.Proofs.YtkoejeghihcmlaaGreat

namespace Go.Proofs.YtkoejeghihcmlaaGreat
open Go.RowKit Go.Shelf
/-- What one element does to the list and to the mark. -/
def putS (n : Int) (s : List Int × Bool) (x : Int) : List Int × Bool :=
 let t := if decide (n ≤ x) && !s.2 then (s.1 ++ [n], true) else s
 if x = n then t else (t.1 ++ [x], t.2)
def putL (l : List Int) (n : Int) : List Int :=
 let s := l.foldl (putS n) ([], false)
 if s.2 then s.1 else s.1 ++ [n]
theorem putS1 {n x : Int} {acc : List Int} (_ : n ≤ x) (e : x = n) : putS n (acc, false) x = (acc ++ [n], true) := by unfold putS; simp [e]
theorem putS2 {n x : Int} {acc : List Int} (h : n ≤ x) (e : ¬ x = n) : putS n (acc, false) x = (acc ++ [n] ++ [x], true) := by unfold putS; simp [h, e]
theorem putS3 {n x : Int} {acc : List Int} {b : Bool} (h : b = true ∨ ¬ n ≤ x) (e : x = n) : putS n (acc, b) x = (acc, b) := by
 subst e
 have hb : b = true := by rcases h with h | h; exact h; exact absurd (Int.le_refl _) h
 unfold putS; simp [hb]
theorem putS4 {n x : Int} {acc : List Int} {b : Bool} (h : b = true ∨ ¬ n ≤ x) (e : ¬ x = n) : putS n (acc, b) x = (acc ++ [x], b) := by
 unfold putS
 rcases h with h | h
 ·simp [h, e]
 ·have : decide (n ≤ x) = false := by simpa using h
  simp [this, e]
theorem putS_len (n x : Int) (s : List Int × Bool) : (putS n s x).1.length ≤ s.1.length + 2 := by
 unfold putS
 dsimp only
 split <;> split <;> simp
theorem putF_len (n : Int) : ∀ (l : List Int) (s : List Int × Bool), (l.foldl (putS n) s).1.length ≤ s.1.length + 2 * l.length
 | [], _ => by simp
 | x :: l, s => by
  have h1 := putF_len n l (putS n s x)
  have h2 := putS_len n x s
  simp only [List.foldl_cons, List.length_cons]
  omega
theorem putF_snoc {n : Int} {l : List Int} {k : Nat} (hk : k < l.length) (s : List Int × Bool) : (l.take (k + 1)).foldl (putS n) s = putS n ((l.take k).foldl (putS n) s) (l.getD k 0) := by
 rw [List.take_succ_eq_append_getElem hk, List.foldl_append]
 simp [List.getD_eq_getElem?_getD, List.getElem?_eq_getElem hk]
set_option maxRecDepth 100000 in
set_option maxHeartbeats 4000000 in
theorem refPut_any (A : Option Addr) (n0 c0 : Nat) (l : List Int) (n : Int) (w : World) (hl : Ints w A n0 l) (hn : n0 ≤ 1000) :
  Calls Tryz.prog 126 #[.slice A n0 c0, .int .i64 n] w fun e w' => (∃ v, e = .returned v ∧ OwnL icells 1 3 w' w.heap.size v (putL l n)) ∧ Below w.heap.size w w' := by
 have HL := Lib.hid hl
 have HLEN0 := Lib.hid hl.1
 have HPL := Lib.hid (show putL l n = if (l.foldl (putS n) ([], false)).2 then (l.foldl (putS n) ([], false)).1 else (l.foldl (putS n) ([], false)).1 ++ [n] from rfl)
 have HGZ := Lib.hid (Below.refl w.heap.size w)
 have OS0 := Lib.hid (OwnL.nil (f := icells) (size := 1) (e := 3) w w.heap.size)
 obtain ⟨res, hres⟩ : ∃ r, putL l n = r := ⟨_, rfl⟩
 rw [hres] at HPL ⊢
 clear hl hres
 go_enter Tryz.func126, Tryz.ntmps126
 go_wp2_with fail
 go_loopw [5, 6, 7] (fun v d i wr => ∃ (k : Nat) (u : Value) (b : Bool) (acc : List Int), u = v ∧ d = .bool b ∧ i = .int .i64 k ∧ k ≤ n0 ∧ Below w.heap.size w wr ∧ OwnL icells 1 3 wr w.heap.size v acc ∧ (l.take k).foldl (putS n) ([], false) = (acc, b)) (fun _ _ i _ => n0 - (intOf i).toNat)
 case atStart => exact ⟨0, _, false, [], rfl, rfl, rfl, Nat.zero_le _, HGZ.out, OS0.out, by simp⟩
 case round =>
  obtain ⟨k, u, b, acc, rfl, rfl, rfl, hk, hg, hown, hst⟩ := hrel
  have HG := Lib.hid hg
  have HO := Lib.hid hown
  have HST := Lib.hid hst
  clear hst
  by_cases hkn : k < n0
  ·obtain ⟨b0, o0, rfl, -, -, hc⟩ := ints_at (HL.out.below hg) hkn
   have HC := Lib.hid hc
   have x0 := hc _ (Below.refl _ _)
   have HLB := Lib.hid (show acc.length + 2 ≤ 1000000 by
    have h1 := putF_len n (l.take k) ([], false)
    rw [HST.out] at h1
    simp only [List.length_nil, List.length_take] at h1
    omega)
   have HN := Lib.hid (show (l.take (k + 1)).foldl (putS n) ([], false) = putS n (acc, b) (l.getD k 0) by rw [putF_snoc (by rw [HLEN0.out]; exact hkn), HST.out])
   obtain ⟨x, hxg⟩ : ∃ x, l.getD k 0 = x := ⟨_, rfl⟩
   have HXG := Lib.hid hxg
   rw [hxg] at x0 HN
   have hki : (k : Int) < (n0 : Int) := by omega
   have hws := HG.out.size
   have hk9 : k < 1000 := by omega
   have HKN := Lib.hid hkn
   clear hc hxg hg hown hkn
   have HXV := Lib.hid (fun (V : World) (g : Below w.heap.size w V) => (show V.cell? ⟨b0, o0 + k, none⟩ = some (.int .i64 x) by
    obtain ⟨b9, o9, e9, -, -, h9⟩ := ints_at (HL.out.below g) HKN.out
    cases e9
    have := h9 _ (Below.refl _ _)
    rwa [HXG.out] at this))
   by_cases hle : n ≤ x
   ·have E1 := Lib.hid hle
    have e1 : n ≤ x := hle
    clear hle
    cases b
    case false =>
     have E2 := Lib.hid (show (true = true) from rfl)
     by_cases hx : x = n
     ·have E3 := Lib.hid hx
      have e3 : (x != n) = false := by simp [hx]
      clear hx
      have OX1 := Lib.hid (HO.out.ext (one_more wr (.cells #[.int .i64 n] 3)))
      have IX1 := Lib.hid (one_int (Blk.new wr 3 #[.int .i64 n]))
      go_wp2_with (at_builtin; go_loud (refine wpList_app kdI (by rfl) _ _ (by rfl) w.heap.size _ acc (by rfl) OX1.out _ 1 1 [n] (by rfl) IX1.out (by have := HLB.out; omega) (by simp; omega) ?_); intro v1 w1 ho hbw hz; have HO1 := Lib.hid ho; have HB1 := Lib.hid (((HG.out.trans ((one_more wr _).mono HG.out.size)).trans ((OX1.out).below hbw (B := w.heap.size) (Nat.le_refl _) (by simp; omega)))); have x1 := HXV.out w1 HB1.out; clear ho hbw hz)
      go_roundw
      case rel => exact ⟨k + 1, _, true, _, rfl, rfl, by go_num, by omega, HB1.out, HO1.out, by rw [HN.out]; first | exact putS1 E1.out E3.out | exact putS2 E1.out E3.out | exact putS3 (.inl rfl) E3.out | exact putS4 (.inl rfl) E3.out | exact putS3 (.inr E1.out) E3.out | exact putS4 (.inr E1.out) E3.out⟩
      case measure => simp [intOf]; omega
     ·have E3 := Lib.hid hx
      have e3 : (x != n) = true := by simpa using hx
      clear hx
      have OX1 := Lib.hid (HO.out.ext (one_more wr (.cells #[.int .i64 n] 3)))
      have IX1 := Lib.hid (one_int (Blk.new wr 3 #[.int .i64 n]))
      go_wp2_with (first
       | (at_builtin; go_loud (refine wpList_app kdI (by rfl) _ _ (by rfl) w.heap.size _ acc (by rfl) OX1.out _ 1 1 [n] (by rfl) IX1.out (by have := HLB.out; omega) (by simp; omega) ?_); intro v1 w1 ho hbw hz; have HO1 := Lib.hid ho; have HB1 := Lib.hid ((HG.out.trans ((one_more wr _).mono HG.out.size)).trans ((OX1.out).below hbw (B := w.heap.size) (Nat.le_refl _) (by simp; omega))); have HS1 := HB1.out.size; have x1 := HXV.out w1 HB1.out; have OX2 := Lib.hid (HO1.out.ext (one_more w1 (.cells #[.int .i64 x] 3))); have IX2 := Lib.hid (one_int (Blk.new w1 3 #[.int .i64 x])); clear ho hbw hz)
       | (at_builtin; go_loud (refine wpList_app kdI (by rfl) _ _ (by rfl) w.heap.size _ (acc ++ [n]) (by rfl) OX2.out _ 1 1 [x] (by rfl) IX2.out (by have := HLB.out; first | omega | (simp only [List.length_append, List.length_cons, List.length_nil]; omega)) (by have := HB1.out.size; simp; omega) ?_); intro v2 w2 ho hbw hz; have HO2 := Lib.hid ho; have HB2 := Lib.hid ((HB1.out.trans ((one_more w1 _).mono HB1.out.size)).trans ((OX2.out).below hbw (B := w.heap.size) (Nat.le_refl _) (by have := HB1.out.size; simp; omega))); clear ho hbw hz))
      go_roundw
      case rel => exact ⟨k + 1, _, true, _, rfl, rfl, by go_num, by omega, HB2.out, HO2.out, by rw [HN.out]; first | exact putS1 E1.out E3.out | exact putS2 E1.out E3.out | exact putS3 (.inl rfl) E3.out | exact putS4 (.inl rfl) E3.out | exact putS3 (.inr E1.out) E3.out | exact putS4 (.inr E1.out) E3.out⟩
      case measure => simp [intOf]; omega
    case true =>
     have E2 := Lib.hid (show (true = true) from rfl)
     by_cases hx : x = n
     ·have E3 := Lib.hid hx
      have e3 : (x != n) = false := by simp [hx]
      clear hx
      go_wp2_with fail
      go_roundw
      case rel => exact ⟨k + 1, _, _, _, rfl, rfl, by go_num, by omega, HG.out, HO.out, by rw [HN.out]; first | exact putS1 E1.out E3.out | exact putS2 E1.out E3.out | exact putS3 (.inl rfl) E3.out | exact putS4 (.inl rfl) E3.out | exact putS3 (.inr E1.out) E3.out | exact putS4 (.inr E1.out) E3.out⟩
      case measure => simp [intOf]; omega
     ·have E3 := Lib.hid hx
      have e3 : (x != n) = true := by simpa using hx
      clear hx
      have OX2 := Lib.hid (HO.out.ext (one_more wr (.cells #[.int .i64 x] 3)))
      have IX2 := Lib.hid (one_int (Blk.new wr 3 #[.int .i64 x]))
      go_wp2_with (at_builtin; go_loud (refine wpList_app kdI (by rfl) _ _ (by rfl) w.heap.size _ acc (by rfl) OX2.out _ 1 1 [x] (by rfl) IX2.out (by have := HLB.out; first | omega | (simp only [List.length_append, List.length_cons, List.length_nil]; omega)) (by have := HG.out.size; simp; omega) ?_); intro v2 w2 ho hbw hz; have HO2 := Lib.hid ho; have HB2 := Lib.hid ((HG.out.trans ((one_more wr _).mono HG.out.size)).trans ((OX2.out).below hbw (B := w.heap.size) (Nat.le_refl _) (by have := HG.out.size; simp; omega))); clear ho hbw hz)
      go_roundw
      case rel => exact ⟨k + 1, _, _, _, rfl, rfl, by go_num, by omega, HB2.out, HO2.out, by rw [HN.out]; first | exact putS1 E1.out E3.out | exact putS2 E1.out E3.out | exact putS3 (.inl rfl) E3.out | exact putS4 (.inl rfl) E3.out | exact putS3 (.inr E1.out) E3.out | exact putS4 (.inr E1.out) E3.out⟩
      case measure => simp [intOf]; omega
   ·have E1 := Lib.hid hle
    have e1 : decide (n ≤ x) = false := by simpa using hle
    have E2 := Lib.hid (show (true = true) from rfl)
    clear hle
    by_cases hx : x = n
    ·have E3 := Lib.hid hx
     have e3 : (x != n) = false := by simp [hx]
     clear hx
     go_wp2_with fail
     go_roundw
     case rel => exact ⟨k + 1, _, _, _, rfl, rfl, by go_num, by omega, HG.out, HO.out, by rw [HN.out]; first | exact putS1 E1.out E3.out | exact putS2 E1.out E3.out | exact putS3 (.inl rfl) E3.out | exact putS4 (.inl rfl) E3.out | exact putS3 (.inr E1.out) E3.out | exact putS4 (.inr E1.out) E3.out⟩
     case measure => simp [intOf]; omega
    ·have E3 := Lib.hid hx
     have e3 : (x != n) = true := by simpa using hx
     clear hx
     have OX2 := Lib.hid (HO.out.ext (one_more wr (.cells #[.int .i64 x] 3)))
     have IX2 := Lib.hid (one_int (Blk.new wr 3 #[.int .i64 x]))
     go_wp2_with (at_builtin; go_loud (refine wpList_app kdI (by rfl) _ _ (by rfl) w.heap.size _ acc (by rfl) OX2.out _ 1 1 [x] (by rfl) IX2.out (by have := HLB.out; first | omega | (simp only [List.length_append, List.length_cons, List.length_nil]; omega)) (by have := HG.out.size; simp; omega) ?_); intro v2 w2 ho hbw hz; have HO2 := Lib.hid ho; have HB2 := Lib.hid ((HG.out.trans ((one_more wr _).mono HG.out.size)).trans ((OX2.out).below hbw (B := w.heap.size) (Nat.le_refl _) (by have := HG.out.size; simp; omega))); clear ho hbw hz)
     go_roundw
     case rel => exact ⟨k + 1, _, _, _, rfl, rfl, by go_num, by omega, HB2.out, HO2.out, by rw [HN.out]; first | exact putS1 E1.out E3.out | exact putS2 E1.out E3.out | exact putS3 (.inl rfl) E3.out | exact putS4 (.inl rfl) E3.out | exact putS3 (.inr E1.out) E3.out | exact putS4 (.inr E1.out) E3.out⟩
     case measure => simp [intOf]; omega
  ·obtain rfl : n0 = k := by omega
   have HEND := Lib.hid (show l.foldl (putS n) ([], false) = (acc, b) by have := HST.out; rwa [List.take_of_length_le (by rw [HLEN0.out]; exact Nat.le_refl _)] at this)
   have HRE := Lib.hid (show res = if b = true then acc else acc ++ [n] by rw [HPL.out, HEND.out])
   have hws := HG.out.size
   have HLB := Lib.hid (show acc.length + 2 ≤ 1000000 by
    have h1 := putF_len n l ([], false)
    rw [HEND.out] at h1
    simp only [List.length_nil] at h1
    have := HLEN0.out
    omega)
   clear hkn hk hg hown
   cases b
   case false =>
    have OX1 := Lib.hid (HO.out.ext (one_more wr (.cells #[.int .i64 n] 3)))
    have IX1 := Lib.hid (one_int (Blk.new wr 3 #[.int .i64 n]))
    go_wp2_with (at_builtin; go_loud (refine wpList_app kdI (by rfl) _ _ (by rfl) w.heap.size _ acc (by rfl) OX1.out _ 1 1 [n] (by rfl) IX1.out (by have := HLB.out; omega) (by simp; omega) ?_); intro v1 w1 ho hbw hz; have HO1 := Lib.hid ho; have HB1 := Lib.hid ((HG.out.trans ((one_more wr _).mono HG.out.size)).trans ((OX1.out).below hbw (B := w.heap.size) (Nat.le_refl _) (by simp; omega))); clear ho hbw hz)
    go_ret
    exact ⟨⟨_, rfl, by rw [HRE.out]; exact HO1.out⟩, HB1.out⟩
   case true =>
    go_wp2_with fail
    go_ret
    exact ⟨⟨_, rfl, by rw [HRE.out]; exact HO.out⟩, HG.out⟩
end Go.Proofs.YtkoejeghihcmlaaGreat

namespace Go.Proofs.YtkoejeghihcmlaaGreat
open Go.RowKit Go.Shelf
theorem putS_room (n x : Int) (s : List Int × Bool) : (putS n s x).1.length + (!(putS n s x).2).toNat ≤ s.1.length + (!s.2).toNat + 1 := by
 obtain ⟨a, b⟩ := s
 unfold putS
 dsimp only
 by_cases h1 : n ≤ x <;> by_cases h2 : x = n <;> cases b <;> simp [h1, h2]
theorem putF_room (n : Int) : ∀ (l : List Int) (s : List Int × Bool), (l.foldl (putS n) s).1.length + (!(l.foldl (putS n) s).2).toNat ≤ s.1.length + (!s.2).toNat + l.length
 | [], _ => Nat.le_refl _
 | x :: l, s => by
  have h1 := putF_room n l (putS n s x)
  have h2 := putS_room n x s
  simp only [List.foldl_cons, List.length_cons]
  omega
theorem putL_len (l : List Int) (n : Int) : (putL l n).length ≤ l.length + 1 := by
 have h := putF_room n l ([], false)
 unfold putL
 dsimp only at h ⊢
 obtain ⟨r, hr⟩ : ∃ r, l.foldl (putS n) ([], false) = r := ⟨_, rfl⟩
 rw [hr] at h ⊢
 obtain ⟨a, b⟩ := r
 cases b <;> simp at h ⊢ <;> omega
/-- The number put where it belongs. -/
def insI (n : Int) : List Int → List Int
 | [] => [n]
 | x :: l => if n ≤ x then n :: x :: l else x :: insI n l
theorem putF_done (n : Int) : ∀ (l acc : List Int), n ∉ l → l.foldl (putS n) (acc, true) = (acc ++ l, true)
 | [], acc, _ => by simp
 | x :: l, acc, h => by
  have h1 : ¬ x = n := fun e => h (by simp [e])
  rw [List.foldl_cons, putS4 (.inl rfl) h1, putF_done n l _ (fun e => h (List.mem_cons_of_mem _ e))]
  simp
theorem putF_ins (n : Int) : ∀ (l acc : List Int), n ∉ l → (if (l.foldl (putS n) (acc, false)).2 = true then (l.foldl (putS n) (acc, false)).1 else (l.foldl (putS n) (acc, false)).1 ++ [n]) = acc ++ insI n l
 | [], acc, _ => by simp [insI]
 | x :: l, acc, h => by
  have h1 : ¬ x = n := fun e => h (by simp [e])
  have h2 : n ∉ l := fun e => h (List.mem_cons_of_mem _ e)
  rw [List.foldl_cons]
  unfold insI
  by_cases hn : n ≤ x
  ·rw [putS2 hn h1, putF_done n l _ h2, if_pos hn]
   simp
  ·rw [putS4 (.inr hn) h1, putF_ins n l _ h2, if_neg hn]
   simp
theorem putL_ins {n : Int} {l : List Int} (h : n ∉ l) : putL l n = insI n l := by
 have := putF_ins n l [] h
 rwa [List.nil_append] at this
theorem insI_perm (n : Int) : ∀ l : List Int, List.Perm (insI n l) (n :: l)
 | [] => List.Perm.refl _
 | x :: l => by
  unfold insI
  split
  ·exact List.Perm.refl _
  ·exact ((insI_perm n l).cons x).trans (List.Perm.swap n x l)
theorem insI_up {n : Int} : ∀ {l : List Int}, n ∉ l → l.Pairwise (· < ·) → (insI n l).Pairwise (· < ·)
 | [], _, _ => by simp [insI]
 | x :: l, h, hp => by
  have h1 : ¬ x = n := fun e => h (by simp [e])
  have h2 : n ∉ l := fun e => h (List.mem_cons_of_mem _ e)
  obtain ⟨hx, hl⟩ := List.pairwise_cons.1 hp
  unfold insI
  split
  ·rename_i hn
   refine List.pairwise_cons.2 ⟨fun y hy => ?_, hp⟩
   rcases List.mem_cons.1 hy with rfl | hy
   ·omega
   ·have := hx y hy; omega
  ·rename_i hn
   refine List.pairwise_cons.2 ⟨fun y hy => ?_, insI_up h2 hl⟩
   rcases List.mem_cons.1 ((insI_perm n l).mem_iff.1 hy) with rfl | hy
   ·omega
   ·exact hx y hy
end Go.Proofs.YtkoejeghihcmlaaGreat

namespace Go.Proofs.YtkoejeghihcmlaaGreat
open Go.RowKit Go.Shelf
theorem putF_low (n : Int) : ∀ (l acc : List Int), (∀ x ∈ l, x < n) → l.foldl (putS n) (acc, false) = (acc ++ l, false)
 | [], acc, _ => by simp
 | x :: l, acc, h => by
  have h1 : ¬ n ≤ x := by have := h x (by simp); omega
  rw [List.foldl_cons, putS4 (.inr h1) (fun e => by omega), putF_low n l _ (fun y hy => h y (List.mem_cons_of_mem _ hy))]
  simp
/-- A rising list that has the number stays. -/
theorem putL_same {n : Int} {l : List Int} (hp : l.Pairwise (· < ·)) (h : n ∈ l) : putL l n = l := by
 obtain ⟨a, b, rfl⟩ := List.append_of_mem h
 obtain ⟨-, h2, h3⟩ := List.pairwise_append.1 hp
 have h4 := (List.pairwise_cons.1 h2).1
 have e : (a ++ n :: b).foldl (putS n) ([], false) = (a ++ n :: b, true) := by
  rw [List.foldl_append, putF_low n a [] (fun x hx => h3 x hx n (by simp)), List.foldl_cons, putS1 (Int.le_refl _) rfl, putF_done n b _ (fun e => by have := h4 n e; omega)]
  simp
 unfold putL
 rw [e]
 rfl
theorem putL_mem {n x : Int} {l : List Int} (hp : l.Pairwise (· < ·)) : x ∈ putL l n ↔ x = n ∨ x ∈ l := by
 by_cases h : n ∈ l
 ·rw [putL_same hp h]
  constructor
  ·exact .inr
  ·rintro (rfl | h1)
   ·exact h
   ·exact h1
 ·rw [putL_ins h, (insI_perm n l).mem_iff, List.mem_cons]
theorem putL_up {n : Int} {l : List Int} (hp : l.Pairwise (· < ·)) : (putL l n).Pairwise (· < ·) := by
 by_cases h : n ∈ l
 ·rw [putL_same hp h]; exact hp
 ·rw [putL_ins h]; exact insI_up h hp
/-- Strictly rising lists with the same members are equal. -/
theorem rise_ext : ∀ {l m : List Int}, l.Pairwise (· < ·) → m.Pairwise (· < ·) → (∀ x, x ∈ l ↔ x ∈ m) → l = m
 | [], [], _, _, _ => rfl
 | [], y :: m, _, _, h => by have := (h y).2 (by simp); cases this
 | x :: l, [], _, _, h => by have := (h x).1 (by simp); cases this
 | x :: l, y :: m, hl, hm, h => by
  obtain ⟨h1, h2⟩ := List.pairwise_cons.1 hl
  obtain ⟨h3, h4⟩ := List.pairwise_cons.1 hm
  have e : x = y := by
   rcases List.mem_cons.1 ((h x).1 (by simp)) with e | e
   ·exact e
   ·rcases List.mem_cons.1 ((h y).2 (by simp)) with e2 | e2
    ·exact e2.symm
    ·have a := h3 x e
     have b := h1 y e2
     omega
  subst e
  congr 1
  refine rise_ext h2 h4 (fun z => ?_)
  constructor
  ·intro hz
   rcases List.mem_cons.1 ((h z).1 (List.mem_cons_of_mem _ hz)) with e | e
   ·have := h1 z hz; omega
   ·exact e
  ·intro hz
   rcases List.mem_cons.1 ((h z).2 (List.mem_cons_of_mem _ hz)) with e | e
   ·have := h3 z hz; omega
   ·exact e
theorem compact_up {l : List Int} (h : l.Pairwise (· ≤ ·)) : (Lib.compact l).Pairwise (· < ·) := by
 unfold Lib.compact Lib.compactUpTo
 rw [List.pairwise_map]
 refine List.Pairwise.imp_of_mem ?_ (List.Pairwise.filter _ List.pairwise_lt_range)
 intro i j hi hj hij
 have hj1 := (List.mem_filter.1 hj)
 have hjl := List.mem_range.1 hj1.1
 have hk := hj1.2
 unfold Lib.keeps at hk
 rw [decide_eq_true_eq] at hk
 have h1 : l.toArray[j]! ≠ l.toArray[j - 1]! := by
  rcases hk with e | e
  ·omega
  ·exact e
 have g : ∀ t, t < l.length → l.toArray[t]! = l.getD t 0 := fun t ht => by simp [ht, List.getD_eq_getElem?_getD]
 rw [g j hjl, g (j - 1) (by omega)] at h1
 show l.toArray[i]! < l.toArray[j]!
 rw [g i (by omega), g j hjl]
 have mono : ∀ a b, a ≤ b → b < l.length → l.getD a 0 ≤ l.getD b 0 := fun a b hab hb => by
  by_cases e : a = b
  ·subst e; exact Int.le_refl _
  ·have := List.pairwise_iff_getElem.1 h a b (by omega) hb (by omega)
   rw [List.getD_eq_getElem?_getD, List.getD_eq_getElem?_getD, List.getElem?_eq_getElem (by omega), List.getElem?_eq_getElem hb]
   exact this
 have a1 := mono i (j - 1) (by omega) (by omega)
 have a2 := mono (j - 1) j (by omega) hjl
 omega
theorem hasI_perm {l m : List Int} (h : ∀ x, x ∈ l ↔ x ∈ m) (s : Int) : hasI l s = hasI m s := by
 rw [Bool.eq_iff_iff, hasI_iff, hasI_iff, h]
theorem src_all (p : Pl) (s : Int) : hasI (srcs3 p) s = hasI (srcsAll p) s :=
 hasI_perm (fun x => by unfold srcsAll; rw [mem_srt]; rfl) s
end Go.Proofs.YtkoejeghihcmlaaGreat

namespace Go.Proofs.YtkoejeghihcmlaaGreat
open Go.RowKit Go.Shelf
theorem same_self (l : List Int) : sameL l l = true := by unfold sameL; simp
end Go.Proofs.YtkoejeghihcmlaaGreat
