/- Stands, where the new stand lies behind all others. -/
import Derived.Test.YtkoejeghihcmlaaGreatWT
import Derived.Test.YtkoejeghihcmlaaGreatWS
namespace Go.Proofs.YtkoejeghihcmlaaGreat
open Go.RowKit Go.Shelf

theorem own_far1 {W : World} {B : Nat} {v v' : Value} {xs ys : List Six} (h : OwnL scells 6 103 W B v xs) (h' : OwnL scells 6 105 W B v' ys) : ∀ k, v.ownBlock = some k → v'.ownBlock ≠ some k := own_apart (by decide) h h'
theorem own_far2 {W : World} {B : Nat} {v v' : Value} {xs ys : List Six} (h : OwnL scells 6 103 W B v xs) (h' : OwnL scells 6 107 W B v' ys) : ∀ k, v.ownBlock = some k → v'.ownBlock ≠ some k := own_apart (by decide) h h'
theorem own_far3 {W : World} {B : Nat} {v v' : Value} {xs ys : List Six} (h : OwnL scells 6 105 W B v xs) (h' : OwnL scells 6 107 W B v' ys) : ∀ k, v.ownBlock = some k → v'.ownBlock ≠ some k := own_apart (by decide) h h'
set_option maxRecDepth 100000 in
set_option maxHeartbeats 8000000 in
theorem stands_any (p : Pl) (A1 A2 A3 : Option Addr) (n1 c1 n2 c2 n3 c3 : Nat) (x : Six) (w : World) (hp : Pa w p A1 A2 A3 n1 c1 n2 c2 n3 c3) (hok : okPl p = true) (hx : isLoad x = true) (hh : hasI (srcsAll p) x.a = false)
    (hl : p.stands.length < 60) (hm : ∀ y ∈ p.stands, y.a < x.a) :
    Calls Tryz.prog 60 #[plv p A1 A2 A3 n1 c1 n2 c2 n3 c3, sv x] w fun e w' => (∃ D1 m1 d1 D2 m2 d2 D3 m3 d3, e = .returned (.tuple #[plv (plusStand p x) D1 D2 D3 m1 d1 m2 d2 m3 d3, .int .i64 0]) ∧ Cp w' w.heap.size (plusStand p x) (.slice D1 m1 d1) (.slice D2 m2 d2) (.slice D3 m3 d3)) ∧ Below w.heap.size w w' := by
  obtain ⟨W1, hW1⟩ : ∃ W1, ((w.alloc (.cells (plb p A1 A2 A3 n1 c1 n2 c2 n3 c3) 38)).alloc (.cells #[.int .i64 x.a, .int .i64 x.b, .int .i64 x.c, .int .i64 x.d, .int .i64 x.e, .int .i64 x.f] 105)).alloc (.cells #[.int .i64 0, .int .i64 0, .slice none 0 0, .slice none 0 0, .slice none 0 0, .int .i64 0] 38) = W1 := ⟨_, rfl⟩
  have g1 : Below w.heap.size w W1 := by rw [← hW1]; exact three_more _ _ _ _
  have b1 : Blk W1 w.heap.size 38 (plb p A1 A2 A3 n1 c1 n2 c2 n3 c3) := by rw [← hW1]; exact ((Blk.new _ _ _).alloc _).alloc _
  have b2 : Blk W1 (w.heap.size + 1) 105 #[.int .i64 x.a, .int .i64 x.b, .int .i64 x.c, .int .i64 x.d, .int .i64 x.e, .int .i64 x.f] := by rw [← hW1]; exact blk3_2 _ _ _ _ _
  have b3 : Blk W1 (w.heap.size + 1 + 1) 38 #[.int .i64 0, .int .i64 0, .slice none 0 0, .slice none 0 0, .slice none 0 0, .int .i64 0] := by rw [← hW1]; exact blk3_3 _ _ _ _ _
  have p0 := b1.cell 0
  have p1 := b1.cell 1
  have p2 := b1.cell 2
  have p3 := b1.cell 3
  have p4 := b1.cell 4
  have p5 := b1.cell 5
  have T := check_any p A1 A2 A3 n1 c1 n2 c2 n3 c3 W1 (hp.below g1)
  rw [hok, show err true 13 = 0 from rfl] at T
  have HT := Lib.hid T
  have HPO := Lib.hid (ok_parts hok)
  have HPA := Lib.hid (hp.below g1)
  have HB1 := Lib.hid b1
  have HB2 := Lib.hid b2
  have HB3 := Lib.hid b3
  have G1 := Lib.hid g1
  have HN := Lib.hid (show n1 ≤ 1000 ∧ n2 ≤ 1000 ∧ n3 ≤ 1000 by
    have h1 := HPO.out.2.2.2.2.2.1
    have h2 := HPO.out.2.2.2.2.2.2.1
    have h3 := HPO.out.2.2.2.2.2.2.2.1
    have k1 := HPA.out.l1.1
    have k2 := HPA.out.l2.1
    have k3 := HPA.out.l3.1
    omega)
  have HSL := Lib.hid (show (srcsAll p).length ≤ 1000 by
    have h1 := HPO.out.2.2.2.2.2.1
    have h2 := HPO.out.2.2.2.2.2.2.1
    have h3 := HPO.out.2.2.2.2.2.2.2.1
    unfold srcsAll srt srcs
    rw [List.length_mergeSort, List.length_append, List.length_append, List.length_map, List.length_map, List.length_map]
    omega)
  have hn2 : n2 < 60 := by rw [← HPA.out.l2.1]; exact hl
  have HSX := Lib.hid (fun W => by have := checkStand_any x W; rwa [hx, show err true 11 = 0 from rfl] at this)
  have HSR := Lib.hid (fun W (g : Below W1.heap.size W1 W) => sources_any p A1 A2 A3 n1 c1 n2 c2 n3 c3 W (HPA.out.below g) hok)
  have HHH := Lib.hid hh
  have HM := Lib.hid hm
  have HW1 := Lib.hid hW1
  have hb3l := HB3.out.lt
  clear T hp g1 b1 b2 b3 hW1 hh hm hl hx hok
  go_enter Tryz.func60, Tryz.ntmps60
  go_upto_region 1 with fail
  rw [HW1.out]
  go_upto_region 4 with (go_at_call 65; (with_reducible refine (HT.out).mono ?_); rintro e V2 ⟨rfl, hg⟩; have G2 := Lib.hid hg; clear hg)
  clear p0 p1 p2 p3 p4 p5
  have HKP := Lib.hid (fun X (g : Below V2.heap.size V2 X) => (⟨((HB1.out.ext G2.out).ext g).cell 0, ((HB1.out.ext G2.out).ext g).cell 1, ((HB1.out.ext G2.out).ext g).cell 2, ((HB1.out.ext G2.out).ext g).cell 3, ((HB1.out.ext G2.out).ext g).cell 4, ((HB1.out.ext G2.out).ext g).cell 5, ((HB2.out.ext G2.out).ext g).cell 0, ((HB2.out.ext G2.out).ext g).cell 1, ((HB2.out.ext G2.out).ext g).cell 2, ((HB2.out.ext G2.out).ext g).cell 3, ((HB2.out.ext G2.out).ext g).cell 4, ((HB2.out.ext G2.out).ext g).cell 5⟩ : X.cell? ⟨w.heap.size, 0, none⟩ = some (.int .i64 p.lo) ∧ X.cell? ⟨w.heap.size, 1, none⟩ = some (.int .i64 p.hi) ∧ X.cell? ⟨w.heap.size, 2, none⟩ = some (.slice A1 n1 c1) ∧ X.cell? ⟨w.heap.size, 3, none⟩ = some (.slice A2 n2 c2) ∧ X.cell? ⟨w.heap.size, 4, none⟩ = some (.slice A3 n3 c3) ∧ X.cell? ⟨w.heap.size, 5, none⟩ = some (.int .i64 p.geese) ∧ X.cell? ⟨w.heap.size + 1, 0, none⟩ = some (.int .i64 x.a) ∧ X.cell? ⟨w.heap.size + 1, 1, none⟩ = some (.int .i64 x.b) ∧ X.cell? ⟨w.heap.size + 1, 2, none⟩ = some (.int .i64 x.c) ∧ X.cell? ⟨w.heap.size + 1, 3, none⟩ = some (.int .i64 x.d) ∧ X.cell? ⟨w.heap.size + 1, 4, none⟩ = some (.int .i64 x.e) ∧ X.cell? ⟨w.heap.size + 1, 5, none⟩ = some (.int .i64 x.f)))
  obtain ⟨y0, y1, y2, y3, y4, y5, y6, y7, y8, y9, ya, yb⟩ := HKP.out V2 (Below.refl _ _)
  go_cut [16] from 16 to 26 (fun s16 wx => s16 = .bool false ∧ Below W1.heap.size W1 wx)
  case first =>
    go_region_held3 (fun X => X.cell? ⟨w.heap.size, 0, none⟩ = some (.int .i64 p.lo) ∧ X.cell? ⟨w.heap.size, 1, none⟩ = some (.int .i64 p.hi) ∧ X.cell? ⟨w.heap.size, 2, none⟩ = some (.slice A1 n1 c1) ∧ X.cell? ⟨w.heap.size, 3, none⟩ = some (.slice A2 n2 c2) ∧ X.cell? ⟨w.heap.size, 4, none⟩ = some (.slice A3 n3 c3) ∧ X.cell? ⟨w.heap.size, 5, none⟩ = some (.int .i64 p.geese) ∧ X.cell? ⟨w.heap.size + 1, 0, none⟩ = some (.int .i64 x.a) ∧ X.cell? ⟨w.heap.size + 1, 1, none⟩ = some (.int .i64 x.b) ∧ X.cell? ⟨w.heap.size + 1, 2, none⟩ = some (.int .i64 x.c) ∧ X.cell? ⟨w.heap.size + 1, 3, none⟩ = some (.int .i64 x.d) ∧ X.cell? ⟨w.heap.size + 1, 4, none⟩ = some (.int .i64 x.e) ∧ X.cell? ⟨w.heap.size + 1, 5, none⟩ = some (.int .i64 x.f))
      (with_reducible refine HKP.out _ ?_; repeat' first | (with_reducible exact Below.refl _ _) | (with_reducible exact GB.out) | (with_reducible exact GA.out) | (with_reducible refine Below.drew ?_))
      (first
        | (go_at_call 69; (with_reducible refine (HSX.out _).mono ?_); rintro e VA ⟨rfl, hg⟩; have GA := Lib.hid (show Below V2.heap.size V2 VA from (Below.refl _ _).drew.trans hg); clear hg)
        | (go_at_call 113; (with_reducible refine (HSR.out _ (G2.out.trans (GA.out.mono G2.out.size))).mono ?_); rintro e VB ⟨⟨v, rfl, ho⟩, hg⟩; obtain ⟨D, c, hv, -, -, hi, -⟩ := OwnL.arr kdI ho; subst hv; have HI := Lib.hid hi; have GB := Lib.hid (show Below V2.heap.size V2 VB from GA.out.trans (hg.mono GA.out.size)); clear ho hg hi)
        | (go_at_call 109; (with_reducible refine (has_any _ _ _ _ x.a _ HI.out (by have := HSL.out; omega)).mono ?_); rintro e V4 ⟨rfl, rfl⟩; rw [HHH.out]))
    all_goals (try go_wp2_with fail)
    all_goals go_meet
    all_goals exact ⟨rfl, G2.out.trans (GB.out.mono G2.out.size)⟩
  case rest =>
    obtain ⟨rfl, hg⟩ := hcut
    have G3 := Lib.hid hg
    have HPA3 := Lib.hid (HPA.out.below hg)
    have q3 := (HB1.out.ext hg).cell 0
    have q4 := (HB1.out.ext hg).cell 1
    have q5 := (HB1.out.ext hg).cell 2
    have q6 := (HB1.out.ext hg).cell 3
    have q7 := (HB1.out.ext hg).cell 4
    have q8 := (HB1.out.ext hg).cell 5
    have hz : ((n2 : Int) == 60) = false := by simp; omega
    have HC := Lib.hid (copied_any p A1 A2 A3 n1 c1 n2 c2 n3 c3 wc HPA3.out HN.out)
    clear hg
    go_upto_region 9 with (go_at_call 132; (with_reducible refine (HC.out).mono ?_); rintro e V5 ⟨⟨v1, v2, v3, rfl, hc⟩, hg⟩; obtain ⟨R1, f1, R2, f2, R3, f3, e1, e2, e3, -, -, -, -⟩ := Cp.parts hc; obtain ⟨r1, hr1⟩ : ∃ n, p.loads.length = n := ⟨_, rfl⟩; obtain ⟨r2, hr2⟩ : ∃ n, p.stands.length = n := ⟨_, rfl⟩; obtain ⟨r3, hr3⟩ : ∃ n, p.spells.length = n := ⟨_, rfl⟩; rw [hr1] at e1; rw [hr2] at e2; rw [hr3] at e3; subst e1 e2 e3; have HC5 := Lib.hid hc; have HR2 := Lib.hid hr2; have G5 := Lib.hid (G3.out.trans (hg.mono G3.out.size)); have HWC := Lib.hid hg.size; clear hc hg hr1 hr2 hr3)
    clear q3 q4 q5 q6 q7 q8 y0 y1 y2 y3 y4 y5 y6 y7 y8 y9 ya yb
    obtain ⟨W5, hW5⟩ : ∃ W, V5.alloc (.cells (plw p (.slice R1 r1 f1) (.slice R2 r2 f2) (.slice R3 r3 f3)) 38) = W := ⟨_, rfl⟩
    have g5 : Below V5.heap.size V5 W5 := by rw [← hW5]; exact one_more _ _
    have BK := Lib.hid (show Blk W5 V5.heap.size 38 (plw p (.slice R1 r1 f1) (.slice R2 r2 f2) (.slice R3 r3 f3)) by rw [← hW5]; exact Blk.new _ _ _)
    have O1 := Lib.hid (HC5.out.l1.ext g5)
    have O2 := Lib.hid (HC5.out.l2.ext g5)
    have O3 := Lib.hid (HC5.out.l3.ext g5)
    have N1 := Lib.hid (own_lt HC5.out.l1 (k := V5.heap.size))
    have N3 := Lib.hid (own_lt HC5.out.l3 (k := V5.heap.size))
    have N2 := Lib.hid (own_lt HC5.out.l2 (k := V5.heap.size))
    have G6 := Lib.hid (G5.out.trans (g5.mono G5.out.size))
    have HR5 := Lib.hid (show Arr scells 6 W5 R2 r2 p.stands by
      obtain ⟨D, c, e, -, -, hi, -⟩ := OwnL.arr kdS O2.out
      rw [HR2.out] at e hi
      cases e
      exact hi)
    have hr2 : r2 ≤ 60 := by rw [← HR2.out]; exact HPO.out.2.2.2.2.2.2.1
    have T3 := Lib.hid (bsearch_any R2 r2 f2 p.stands x W5 HR5.out (by omega) HM.out)
    have z3 := BK.out.cell 3
    have s2 := HB2.out.ext G6.out
    have s20 := s2.cell 0
    have s21 := s2.cell 1
    have s22 := s2.cell 2
    have s23 := s2.cell 3
    have s24 := s2.cell 4
    have s25 := s2.cell 5
    rw [hW5]
    clear g5 hW5 s2
    go_upto_region 10 with (go_at_call 133; (with_reducible refine (T3.out).mono ?_); rintro e V6 ⟨rfl, hg⟩; have G7 := Lib.hid hg; clear hg)
    clear z3 s20 s21 s22 s23 s24 s25
    have BK6 := Lib.hid (BK.out.ext G7.out)
    have P1 := Lib.hid (O1.out.ext G7.out)
    have P2 := Lib.hid (O2.out.ext G7.out)
    have P3 := Lib.hid (O3.out.ext G7.out)
    have G8 := Lib.hid (G6.out.trans (G7.out.mono G6.out.size))
    have z3 := BK6.out.cell 3
    have s2 := HB2.out.ext G8.out
    have s20 := s2.cell 0
    have s21 := s2.cell 1
    have s22 := s2.cell 2
    have s23 := s2.cell 3
    have s24 := s2.cell 4
    have s25 := s2.cell 5
    have Q2 := Lib.hid (P2.out.ext (one_more V6 (.cells #[.int .i64 x.a, .int .i64 x.b, .int .i64 x.c, .int .i64 x.d, .int .i64 x.e, .int .i64 x.f] 105)))
    have T4 := insert_last x _ Q2.out (by rw [HR2.out]; omega) (six_one V6 105 x) (by have := HWC.out; have := BK6.out.lt; simp; omega)
    rw [HR2.out] at T4
    have HT4 := Lib.hid T4
    have hb7 := BK6.out.lt
    clear s2 T4
    go_upto_region 11 with (go_at_call 136; (with_reducible refine (HT4.out).mono ?_); rintro e V7 ⟨v', rfl, ho, hgr⟩; obtain ⟨M2, g2, e2, -, -, -, -⟩ := OwnL.arr kdS ho; obtain ⟨k2, hk2⟩ : ∃ n, (p.stands ++ [x]).length = n := ⟨_, rfl⟩; rw [hk2] at e2; subst e2; have HO7 := Lib.hid ho; have HG7 := Lib.hid hgr; have hb9 := ((BK6.out.alloc (.cells #[.int .i64 x.a, .int .i64 x.b, .int .i64 x.c, .int .i64 x.d, .int .i64 x.e, .int .i64 x.f] 105)).grown hgr (fun e => by have := N2.out e; omega)); have l3 := hb9.cell 3; have f3' := hb9.frozen 3; clear ho hgr hk2 hb9)
    have BK8 := Lib.hid (((BK6.out.alloc (.cells #[.int .i64 x.a, .int .i64 x.b, .int .i64 x.c, .int .i64 x.d, .int .i64 x.e, .int .i64 x.f] 105)).grown HG7.out (fun e => by have := N2.out e; omega)).set_ 3 (.slice M2 k2 g2))
    have GA7 := Lib.hid (show Below W1.heap.size W1 (V7.setCell ⟨V5.heap.size, 3, none⟩ (.slice M2 k2 g2)) from ((G8.out.trans ((one_more V6 _).mono G8.out.size)).grown HG7.out (by have := G8.out.size; simp; omega) (fun k e => by have := (own_lt P2.out e).1; have := HWC.out; have := G3.out.size; omega)).setCell (p := ⟨V5.heap.size, 3, none⟩) (by have := HWC.out; have := G3.out.size; show W1.heap.size ≤ V5.heap.size; omega) _)
    have R1' := Lib.hid (((P1.out.ext (one_more V6 (.cells #[.int .i64 x.a, .int .i64 x.b, .int .i64 x.c, .int .i64 x.d, .int .i64 x.e, .int .i64 x.f] 105))).grown HG7.out (fun k e e2 => HC5.out.d12 k e e2)).apart (p := ⟨V5.heap.size, 3, none⟩) (fun e => by have := N1.out e; omega) (.slice M2 k2 g2))
    have R3' := Lib.hid (((P3.out.ext (one_more V6 (.cells #[.int .i64 x.a, .int .i64 x.b, .int .i64 x.c, .int .i64 x.d, .int .i64 x.e, .int .i64 x.f] 105))).grown HG7.out (fun k e e2 => HC5.out.d23 k e2 e)).apart (p := ⟨V5.heap.size, 3, none⟩) (fun e => by have := N3.out e; omega) (.slice M2 k2 g2))
    have R2' := Lib.hid (HO7.out.apart (p := ⟨V5.heap.size, 3, none⟩) (fun e => by
      obtain ⟨-, -, cur, hcur⟩ := own_cells HO7.out e
      have hb9 := ((BK6.out.alloc (.cells #[.int .i64 x.a, .int .i64 x.b, .int .i64 x.c, .int .i64 x.d, .int .i64 x.e, .int .i64 x.f] 105)).grown HG7.out (fun e => by have := N2.out e; omega))
      unfold Blk at hb9
      rw [hb9] at hcur
      simp at hcur) (.slice M2 k2 g2))
    have BK9 := Lib.hid (show Blk (V7.setCell ⟨V5.heap.size, 3, none⟩ (.slice M2 k2 g2)) V5.heap.size 38 #[.int .i64 p.lo, .int .i64 p.hi, .slice R1 r1 f1, .slice M2 k2 g2, .slice R3 r3 f3, .int .i64 p.geese] from BK8.out)
    obtain ⟨W9, hW9⟩ : ∃ W, V7.setCell ⟨V5.heap.size, 3, none⟩ (.slice M2 k2 g2) = W := ⟨_, rfl⟩
    rw [hW9] at BK9 GA7 R1' R2' R3'
    rw [hW9]
    have HB9 := Lib.hid (HB3.out.ext GA7.out)
    clear l3 f3' z3 s20 s21 s22 s23 s24 s25 BK8 hW9
    have l0 := BK9.out.cell 0
    have l1 := BK9.out.cell 1
    have l2 := BK9.out.cell 2
    have l3 := BK9.out.cell 3
    have l4 := BK9.out.cell 4
    have l5 := BK9.out.cell 5
    have m0 := HB9.out.cell 0
    have z0 := HB9.out.frozen 0
    have m1 := HB9.out.cell 1
    have z1 := HB9.out.frozen 1
    have m2 := HB9.out.cell 2
    have z2 := HB9.out.frozen 2
    have m3 := HB9.out.cell 3
    have z3 := HB9.out.frozen 3
    have m4 := HB9.out.cell 4
    have z4 := HB9.out.frozen 4
    have m5 := HB9.out.cell 5
    have z5 := HB9.out.frozen 5
    have HZ3 := Lib.hid (show w.heap.size + 1 + 1 < wc.heap.size by have := HB3.out.lt; have := G3.out.size; omega)
    go_wp2_with fail
    have hc9 : Cp W9 wc.heap.size (plusStand p x) (.slice R1 r1 f1) (.slice M2 k2 g2) (.slice R3 r3 f3) := ⟨R1'.out, R2'.out, R3'.out, own_far1 R1'.out R2'.out, own_far2 R1'.out R3'.out, own_far3 R2'.out R3'.out⟩
    have hb9 := HB9.out.setAll6 (.int .i64 p.lo) (.int .i64 p.hi) (.slice R1 r1 f1) (.slice M2 k2 g2) (.slice R3 r3 f3) (.int .i64 p.geese)
    have HC9 := Lib.hid (hc9.setAll6 HZ3.out (.int .i64 p.lo) (.int .i64 p.hi) (.slice R1 r1 f1) (.slice M2 k2 g2) (.slice R3 r3 f3) (.int .i64 p.geese))
    have HG9 := Lib.hid (below_setAll6 (b := w.heap.size + 1 + 1) (G1.out.trans (GA7.out.mono G1.out.size)) (by omega) (.int .i64 p.lo) (.int .i64 p.hi) (.slice R1 r1 f1) (.slice M2 k2 g2) (.slice R3 r3 f3) (.int .i64 p.geese))
    have t0 := hb9.cell 0
    have t1 := hb9.cell 1
    have t2 := hb9.cell 2
    have t3 := hb9.cell 3
    have t4 := hb9.cell 4
    have t5 := hb9.cell 5
    clear hb9 hc9
    refine bodyPost_ret (v := .tuple #[plv (plusStand p x) R1 M2 R3 r1 f1 k2 g2 r3 f3, .int .i64 0]) ?_ rfl ⟨⟨_, _, _, _, _, _, _, _, _, rfl, HC9.out.mono (by have := HZ3.out; omega)⟩, HG9.out⟩
    simp [results, Tryz.results60, go_sem, t0, t1, t2, t3, t4, t5, plusStand]
end Go.Proofs.YtkoejeghihcmlaaGreat
