/- Part of the proof: RB, RC, DD. -/
import Derived.Test.YtehhlgdkhecacaaGreatYA1
import Derived.Test.YtehhlgdkhecacaaGreatYA9
namespace Go.Proofs.YtehhlgdkhecacaaGreat
open Go.RowKit Go.Shelf
def servK (k : Int) : Bool := decide (k = 3) || decide (k = 5)
theorem kind4 (k : Int) : ((k == 1) = true ∧ servK k = false ∧ (k == 8) = false) ∨ ((k == 1) = false ∧ servK k = true ∧ (k == 8) = false) ∨ ((k == 1) = false ∧ servK k = false ∧ (k == 8) = true) ∨ ((k == 1) = false ∧ servK k = false ∧ (k == 8) = false) := by
 by_cases h1 : k = 1
 ·subst h1; exact .inl ⟨rfl, rfl, rfl⟩
 ·have e1 : (k == 1) = false := beq_eq_false_iff_ne.2 h1
  by_cases h8 : k = 8
  ·subst h8; exact .inr (.inr (.inl ⟨rfl, rfl, rfl⟩))
  ·have e8 : (k == 8) = false := beq_eq_false_iff_ne.2 h8
   cases h : servK k
   ·exact .inr (.inr (.inr ⟨e1, rfl, e8⟩))
   ·exact .inr (.inl ⟨e1, rfl, e8⟩)
def oddR (a1 b1 a8 b8 wa wb lba lab t1 t2 pn ia ib : Bool) : Bool :=
 if (a1 && b1 || a1 && lba || b1 && lab) = true then true else if (wa && wb && t1 && t2) = true then true else if (a8 && wb) = true then pn && ia else if (b8 && wa) = true then pn && ib else false
theorem odds_R (x y : Qf) : oddsB x y = oddR (x.kind == 1) (y.kind == 1) (x.kind == 8) (y.kind == 8) (servK x.kind) (servK y.kind) (decide (y.day < x.day)) (decide (x.day < y.day)) (decide (x.day ≤ y.thr)) (decide (y.day ≤ x.thr)) (x.par != y.par) (rng x.day y.day y.thr) (rng y.day x.day x.thr) := by
 have e1 : ∀ k : Int, (k == 1) = decide (k = 1) := fun k => by by_cases h : k = 1 <;> simp [h]
 have e8 : ∀ k : Int, (k == 8) = decide (k = 8) := fun k => by by_cases h : k = 8 <;> simp [h]
 have hk : ∀ q : Qf, servB q = servK q.kind := fun q => rfl
 unfold oddsB ruleB birthB servicB examB
 have hx := kind4 x.kind
 have hy := kind4 y.kind
 rw [hk x, hk y]
 have hp : decide (y.par ≠ x.par) = (x.par != y.par) := by
  by_cases h : x.par = y.par
  ·rw [h]; simp
  ·have h2 : y.par ≠ x.par := fun e => h e.symm
   simp [h, h2]
 have hp2 : decide (x.par ≠ y.par) = (x.par != y.par) := by
  by_cases h : x.par = y.par
  ·rw [h]; simp
  ·simp [h]
 rw [hp, hp2]
 generalize decide (y.day < x.day) = lba
 generalize decide (x.day < y.day) = lab
 generalize decide (x.day ≤ y.thr) = t1
 generalize decide (y.day ≤ x.thr) = t2
 generalize rng x.day y.day y.thr = ia
 generalize rng y.day x.day x.thr = ib
 generalize (x.par != y.par) = pn
 simp only [e1, e8, decide_eq_true_eq, decide_eq_false_iff_not] at hx hy
 simp only [e1, e8]
 rcases hx with ⟨h1, h2, h3⟩ | ⟨h1, h2, h3⟩ | ⟨h1, h2, h3⟩ | ⟨h1, h2, h3⟩ <;> rcases hy with ⟨g1, g2, g3⟩ | ⟨g1, g2, g3⟩ | ⟨g1, g2, g3⟩ | ⟨g1, g2, g3⟩ <;> simp only [h1, h2, h3, g1, g2, g3, oddR] <;> (try rfl) <;> cases lba <;> cases lab <;> cases t1 <;> cases t2 <;> cases pn <;> cases ia <;> cases ib <;> rfl
set_option maxRecDepth 100000 in
set_option maxHeartbeats 16000000 in
theorem refOdds_any (x y : Pf) (w : World) : Calls Tryz.prog 140 #[pv x, pv y] w fun e w' => e = .returned (.bool (oddsB x.q y.q)) ∧ Below w.heap.size w w' := by
 obtain ⟨W1, hW1⟩ : ∃ X, (w.alloc (.cells #[.int .i64 x.q.src, .int .i64 x.q.kind, .slice x.A x.n x.c, .int .i64 x.q.oth, .int .i64 x.q.par, .int .i64 x.q.day, .int .i64 x.q.thr, .int .i64 x.q.kno, .int .i64 x.q.unt] 56)).alloc (.cells #[.int .i64 y.q.src, .int .i64 y.q.kind, .slice y.A y.n y.c, .int .i64 y.q.oth, .int .i64 y.q.par, .int .i64 y.q.day, .int .i64 y.q.thr, .int .i64 y.q.kno, .int .i64 y.q.unt] 56) = X := ⟨_, rfl⟩
 have G1 := Lib.hid (show Below w.heap.size w W1 by rw [← hW1]; exact two_more _ _ _)
 have BX := Lib.hid (show Blk W1 w.heap.size 56 #[.int .i64 x.q.src, .int .i64 x.q.kind, .slice x.A x.n x.c, .int .i64 x.q.oth, .int .i64 x.q.par, .int .i64 x.q.day, .int .i64 x.q.thr, .int .i64 x.q.kno, .int .i64 x.q.unt] by rw [← hW1]; exact (Blk.new _ _ _).alloc _)
 have BY := Lib.hid (show Blk W1 (w.heap.size + 1) 56 #[.int .i64 y.q.src, .int .i64 y.q.kind, .slice y.A y.n y.c, .int .i64 y.q.oth, .int .i64 y.q.par, .int .i64 y.q.day, .int .i64 y.q.thr, .int .i64 y.q.kno, .int .i64 y.q.unt] by
  rw [← hW1]
  have := Blk.new (w.alloc (.cells #[.int .i64 x.q.src, .int .i64 x.q.kind, .slice x.A x.n x.c, .int .i64 x.q.oth, .int .i64 x.q.par, .int .i64 x.q.day, .int .i64 x.q.thr, .int .i64 x.q.kno, .int .i64 x.q.unt] 56)) 56 #[.int .i64 y.q.src, .int .i64 y.q.kind, .slice y.A y.n y.c, .int .i64 y.q.oth, .int .i64 y.q.par, .int .i64 y.q.day, .int .i64 y.q.thr, .int .i64 y.q.kno, .int .i64 y.q.unt]
  rwa [World.size_alloc] at this)
 have HW1 := Lib.hid hW1
 clear hW1
 rw [odds_R]
 have hx := kind4 x.q.kind
 have hy := kind4 y.q.kind
 have TX := fun W => works_any x.q.kind W
 have TY := fun W => works_any y.q.kind W
 have TA := fun W => in_any x.q.day y.q.day y.q.thr W
 have TB := fun W => in_any y.q.day x.q.day x.q.thr W
 rw [show (decide (x.q.kind = 3) || decide (x.q.kind = 5)) = servK x.q.kind from rfl] at TX
 rw [show (decide (y.q.kind = 3) || decide (y.q.kind = 5)) = servK y.q.kind from rfl] at TY
 obtain ⟨a1, ha1⟩ : ∃ b, (x.q.kind == 1) = b := ⟨_, rfl⟩
 obtain ⟨b1, hb1⟩ : ∃ b, (y.q.kind == 1) = b := ⟨_, rfl⟩
 obtain ⟨a8, ha8⟩ : ∃ b, (x.q.kind == 8) = b := ⟨_, rfl⟩
 obtain ⟨b8, hb8⟩ : ∃ b, (y.q.kind == 8) = b := ⟨_, rfl⟩
 obtain ⟨lba, hlba⟩ : ∃ b, decide (y.q.day < x.q.day) = b := ⟨_, rfl⟩
 obtain ⟨lab, hlab⟩ : ∃ b, decide (x.q.day < y.q.day) = b := ⟨_, rfl⟩
 obtain ⟨t1, ht1⟩ : ∃ b, decide (x.q.day ≤ y.q.thr) = b := ⟨_, rfl⟩
 obtain ⟨t2, ht2⟩ : ∃ b, decide (y.q.day ≤ x.q.thr) = b := ⟨_, rfl⟩
 obtain ⟨pn, hpn⟩ : ∃ b, (x.q.par != y.q.par) = b := ⟨_, rfl⟩
 rw [ha1, hb1, ha8, hb8, hlba, hlab, ht1, ht2, hpn]
 rw [ha1, ha8] at hx
 rw [hb1, hb8] at hy
 generalize servK x.q.kind = wa at TX hx ⊢
 generalize servK y.q.kind = wb at TY hy ⊢
 generalize rng x.q.day y.q.day y.q.thr = ia at TA ⊢
 generalize rng y.q.day x.q.day x.q.thr = ib at TB ⊢
 have HX := Lib.hid TX
 have HY := Lib.hid TY
 have HA := Lib.hid TA
 have HB := Lib.hid TB
 clear TX TY TA TB
 go_enter Tryz.func140, Tryz.ntmps140
 go_upto_region 1 with fail
 rw [HW1.out]
 have d1 := BX.out.cell 1
 have f1 := BY.out.cell 1
 have d4 := BX.out.cell 4
 have f4 := BY.out.cell 4
 have d5 := BX.out.cell 5
 have f5 := BY.out.cell 5
 have d6 := BX.out.cell 6
 have f6 := BY.out.cell 6
 clear d5 f5 d6 f6
 have d5 := BX.out.cell 5
 have f5 := BY.out.cell 5
 have d6 := BX.out.cell 6
 have f6 := BY.out.cell 6
 rcases hx with ⟨rfl, rfl, rfl⟩ | ⟨rfl, rfl, rfl⟩ | ⟨rfl, rfl, rfl⟩ | ⟨rfl, rfl, rfl⟩
 ·rcases hy with ⟨rfl, rfl, rfl⟩ | ⟨rfl, rfl, rfl⟩ | ⟨rfl, rfl, rfl⟩ | ⟨rfl, rfl, rfl⟩
  ·go_wp2_with (first | (go_at_call 157; (with_reducible refine (HX.out _).mono ?_); rintro e w' ⟨rfl, rfl⟩) | (go_at_call 157; (with_reducible refine (HY.out _).mono ?_); rintro e w' ⟨rfl, rfl⟩) | (go_at_call 108; (with_reducible refine (HA.out _).mono ?_); rintro e w' ⟨rfl, rfl⟩) | (go_at_call 108; (with_reducible refine (HB.out _).mono ?_); rintro e w' ⟨rfl, rfl⟩))
   go_ret
   exact ⟨rfl, G1.out⟩
  ·cases lba with
   | true =>
    go_wp2_with (first | (go_at_call 157; (with_reducible refine (HX.out _).mono ?_); rintro e w' ⟨rfl, rfl⟩) | (go_at_call 157; (with_reducible refine (HY.out _).mono ?_); rintro e w' ⟨rfl, rfl⟩) | (go_at_call 108; (with_reducible refine (HA.out _).mono ?_); rintro e w' ⟨rfl, rfl⟩) | (go_at_call 108; (with_reducible refine (HB.out _).mono ?_); rintro e w' ⟨rfl, rfl⟩))
    go_ret
    exact ⟨rfl, G1.out⟩
   | false =>
    go_wp2_with (first | (go_at_call 157; (with_reducible refine (HX.out _).mono ?_); rintro e w' ⟨rfl, rfl⟩) | (go_at_call 157; (with_reducible refine (HY.out _).mono ?_); rintro e w' ⟨rfl, rfl⟩) | (go_at_call 108; (with_reducible refine (HA.out _).mono ?_); rintro e w' ⟨rfl, rfl⟩) | (go_at_call 108; (with_reducible refine (HB.out _).mono ?_); rintro e w' ⟨rfl, rfl⟩))
    go_ret
    exact ⟨rfl, G1.out⟩
  ·cases lba with
   | true =>
    go_wp2_with (first | (go_at_call 157; (with_reducible refine (HX.out _).mono ?_); rintro e w' ⟨rfl, rfl⟩) | (go_at_call 157; (with_reducible refine (HY.out _).mono ?_); rintro e w' ⟨rfl, rfl⟩) | (go_at_call 108; (with_reducible refine (HA.out _).mono ?_); rintro e w' ⟨rfl, rfl⟩) | (go_at_call 108; (with_reducible refine (HB.out _).mono ?_); rintro e w' ⟨rfl, rfl⟩))
    go_ret
    exact ⟨rfl, G1.out⟩
   | false =>
    go_wp2_with (first | (go_at_call 157; (with_reducible refine (HX.out _).mono ?_); rintro e w' ⟨rfl, rfl⟩) | (go_at_call 157; (with_reducible refine (HY.out _).mono ?_); rintro e w' ⟨rfl, rfl⟩) | (go_at_call 108; (with_reducible refine (HA.out _).mono ?_); rintro e w' ⟨rfl, rfl⟩) | (go_at_call 108; (with_reducible refine (HB.out _).mono ?_); rintro e w' ⟨rfl, rfl⟩))
    go_ret
    exact ⟨rfl, G1.out⟩
  ·cases lba with
   | true =>
    go_wp2_with (first | (go_at_call 157; (with_reducible refine (HX.out _).mono ?_); rintro e w' ⟨rfl, rfl⟩) | (go_at_call 157; (with_reducible refine (HY.out _).mono ?_); rintro e w' ⟨rfl, rfl⟩) | (go_at_call 108; (with_reducible refine (HA.out _).mono ?_); rintro e w' ⟨rfl, rfl⟩) | (go_at_call 108; (with_reducible refine (HB.out _).mono ?_); rintro e w' ⟨rfl, rfl⟩))
    go_ret
    exact ⟨rfl, G1.out⟩
   | false =>
    go_wp2_with (first | (go_at_call 157; (with_reducible refine (HX.out _).mono ?_); rintro e w' ⟨rfl, rfl⟩) | (go_at_call 157; (with_reducible refine (HY.out _).mono ?_); rintro e w' ⟨rfl, rfl⟩) | (go_at_call 108; (with_reducible refine (HA.out _).mono ?_); rintro e w' ⟨rfl, rfl⟩) | (go_at_call 108; (with_reducible refine (HB.out _).mono ?_); rintro e w' ⟨rfl, rfl⟩))
    go_ret
    exact ⟨rfl, G1.out⟩
 ·rcases hy with ⟨rfl, rfl, rfl⟩ | ⟨rfl, rfl, rfl⟩ | ⟨rfl, rfl, rfl⟩ | ⟨rfl, rfl, rfl⟩
  ·cases lab with
   | true =>
    go_wp2_with (first | (go_at_call 157; (with_reducible refine (HX.out _).mono ?_); rintro e w' ⟨rfl, rfl⟩) | (go_at_call 157; (with_reducible refine (HY.out _).mono ?_); rintro e w' ⟨rfl, rfl⟩) | (go_at_call 108; (with_reducible refine (HA.out _).mono ?_); rintro e w' ⟨rfl, rfl⟩) | (go_at_call 108; (with_reducible refine (HB.out _).mono ?_); rintro e w' ⟨rfl, rfl⟩))
    go_ret
    exact ⟨rfl, G1.out⟩
   | false =>
    go_wp2_with (first | (go_at_call 157; (with_reducible refine (HX.out _).mono ?_); rintro e w' ⟨rfl, rfl⟩) | (go_at_call 157; (with_reducible refine (HY.out _).mono ?_); rintro e w' ⟨rfl, rfl⟩) | (go_at_call 108; (with_reducible refine (HA.out _).mono ?_); rintro e w' ⟨rfl, rfl⟩) | (go_at_call 108; (with_reducible refine (HB.out _).mono ?_); rintro e w' ⟨rfl, rfl⟩))
    go_ret
    exact ⟨rfl, G1.out⟩
  ·cases t1 with
   | true =>
    cases t2 with
    | true =>
     go_wp2_with (first | (go_at_call 157; (with_reducible refine (HX.out _).mono ?_); rintro e w' ⟨rfl, rfl⟩) | (go_at_call 157; (with_reducible refine (HY.out _).mono ?_); rintro e w' ⟨rfl, rfl⟩) | (go_at_call 108; (with_reducible refine (HA.out _).mono ?_); rintro e w' ⟨rfl, rfl⟩) | (go_at_call 108; (with_reducible refine (HB.out _).mono ?_); rintro e w' ⟨rfl, rfl⟩))
     go_ret
     exact ⟨rfl, G1.out⟩
    | false =>
     go_wp2_with (first | (go_at_call 157; (with_reducible refine (HX.out _).mono ?_); rintro e w' ⟨rfl, rfl⟩) | (go_at_call 157; (with_reducible refine (HY.out _).mono ?_); rintro e w' ⟨rfl, rfl⟩) | (go_at_call 108; (with_reducible refine (HA.out _).mono ?_); rintro e w' ⟨rfl, rfl⟩) | (go_at_call 108; (with_reducible refine (HB.out _).mono ?_); rintro e w' ⟨rfl, rfl⟩))
     go_ret
     exact ⟨rfl, G1.out⟩
   | false =>
    go_wp2_with (first | (go_at_call 157; (with_reducible refine (HX.out _).mono ?_); rintro e w' ⟨rfl, rfl⟩) | (go_at_call 157; (with_reducible refine (HY.out _).mono ?_); rintro e w' ⟨rfl, rfl⟩) | (go_at_call 108; (with_reducible refine (HA.out _).mono ?_); rintro e w' ⟨rfl, rfl⟩) | (go_at_call 108; (with_reducible refine (HB.out _).mono ?_); rintro e w' ⟨rfl, rfl⟩))
    go_ret
    exact ⟨rfl, G1.out⟩
  ·cases pn with
   | true =>
    go_wp2_with (first | (go_at_call 157; (with_reducible refine (HX.out _).mono ?_); rintro e w' ⟨rfl, rfl⟩) | (go_at_call 157; (with_reducible refine (HY.out _).mono ?_); rintro e w' ⟨rfl, rfl⟩) | (go_at_call 108; (with_reducible refine (HA.out _).mono ?_); rintro e w' ⟨rfl, rfl⟩) | (go_at_call 108; (with_reducible refine (HB.out _).mono ?_); rintro e w' ⟨rfl, rfl⟩))
    go_ret
    exact ⟨rfl, G1.out⟩
   | false =>
    go_wp2_with (first | (go_at_call 157; (with_reducible refine (HX.out _).mono ?_); rintro e w' ⟨rfl, rfl⟩) | (go_at_call 157; (with_reducible refine (HY.out _).mono ?_); rintro e w' ⟨rfl, rfl⟩) | (go_at_call 108; (with_reducible refine (HA.out _).mono ?_); rintro e w' ⟨rfl, rfl⟩) | (go_at_call 108; (with_reducible refine (HB.out _).mono ?_); rintro e w' ⟨rfl, rfl⟩))
    go_ret
    exact ⟨rfl, G1.out⟩
  ·go_wp2_with (first | (go_at_call 157; (with_reducible refine (HX.out _).mono ?_); rintro e w' ⟨rfl, rfl⟩) | (go_at_call 157; (with_reducible refine (HY.out _).mono ?_); rintro e w' ⟨rfl, rfl⟩) | (go_at_call 108; (with_reducible refine (HA.out _).mono ?_); rintro e w' ⟨rfl, rfl⟩) | (go_at_call 108; (with_reducible refine (HB.out _).mono ?_); rintro e w' ⟨rfl, rfl⟩))
   go_ret
   exact ⟨rfl, G1.out⟩
 ·rcases hy with ⟨rfl, rfl, rfl⟩ | ⟨rfl, rfl, rfl⟩ | ⟨rfl, rfl, rfl⟩ | ⟨rfl, rfl, rfl⟩
  ·cases lab with
   | true =>
    go_wp2_with (first | (go_at_call 157; (with_reducible refine (HX.out _).mono ?_); rintro e w' ⟨rfl, rfl⟩) | (go_at_call 157; (with_reducible refine (HY.out _).mono ?_); rintro e w' ⟨rfl, rfl⟩) | (go_at_call 108; (with_reducible refine (HA.out _).mono ?_); rintro e w' ⟨rfl, rfl⟩) | (go_at_call 108; (with_reducible refine (HB.out _).mono ?_); rintro e w' ⟨rfl, rfl⟩))
    go_ret
    exact ⟨rfl, G1.out⟩
   | false =>
    go_wp2_with (first | (go_at_call 157; (with_reducible refine (HX.out _).mono ?_); rintro e w' ⟨rfl, rfl⟩) | (go_at_call 157; (with_reducible refine (HY.out _).mono ?_); rintro e w' ⟨rfl, rfl⟩) | (go_at_call 108; (with_reducible refine (HA.out _).mono ?_); rintro e w' ⟨rfl, rfl⟩) | (go_at_call 108; (with_reducible refine (HB.out _).mono ?_); rintro e w' ⟨rfl, rfl⟩))
    go_ret
    exact ⟨rfl, G1.out⟩
  ·cases pn with
   | true =>
    go_wp2_with (first | (go_at_call 157; (with_reducible refine (HX.out _).mono ?_); rintro e w' ⟨rfl, rfl⟩) | (go_at_call 157; (with_reducible refine (HY.out _).mono ?_); rintro e w' ⟨rfl, rfl⟩) | (go_at_call 108; (with_reducible refine (HA.out _).mono ?_); rintro e w' ⟨rfl, rfl⟩) | (go_at_call 108; (with_reducible refine (HB.out _).mono ?_); rintro e w' ⟨rfl, rfl⟩))
    go_ret
    exact ⟨rfl, G1.out⟩
   | false =>
    go_wp2_with (first | (go_at_call 157; (with_reducible refine (HX.out _).mono ?_); rintro e w' ⟨rfl, rfl⟩) | (go_at_call 157; (with_reducible refine (HY.out _).mono ?_); rintro e w' ⟨rfl, rfl⟩) | (go_at_call 108; (with_reducible refine (HA.out _).mono ?_); rintro e w' ⟨rfl, rfl⟩) | (go_at_call 108; (with_reducible refine (HB.out _).mono ?_); rintro e w' ⟨rfl, rfl⟩))
    go_ret
    exact ⟨rfl, G1.out⟩
  ·go_wp2_with (first | (go_at_call 157; (with_reducible refine (HX.out _).mono ?_); rintro e w' ⟨rfl, rfl⟩) | (go_at_call 157; (with_reducible refine (HY.out _).mono ?_); rintro e w' ⟨rfl, rfl⟩) | (go_at_call 108; (with_reducible refine (HA.out _).mono ?_); rintro e w' ⟨rfl, rfl⟩) | (go_at_call 108; (with_reducible refine (HB.out _).mono ?_); rintro e w' ⟨rfl, rfl⟩))
   go_ret
   exact ⟨rfl, G1.out⟩
  ·go_wp2_with (first | (go_at_call 157; (with_reducible refine (HX.out _).mono ?_); rintro e w' ⟨rfl, rfl⟩) | (go_at_call 157; (with_reducible refine (HY.out _).mono ?_); rintro e w' ⟨rfl, rfl⟩) | (go_at_call 108; (with_reducible refine (HA.out _).mono ?_); rintro e w' ⟨rfl, rfl⟩) | (go_at_call 108; (with_reducible refine (HB.out _).mono ?_); rintro e w' ⟨rfl, rfl⟩))
   go_ret
   exact ⟨rfl, G1.out⟩
 ·rcases hy with ⟨rfl, rfl, rfl⟩ | ⟨rfl, rfl, rfl⟩ | ⟨rfl, rfl, rfl⟩ | ⟨rfl, rfl, rfl⟩
  ·cases lab with
   | true =>
    go_wp2_with (first | (go_at_call 157; (with_reducible refine (HX.out _).mono ?_); rintro e w' ⟨rfl, rfl⟩) | (go_at_call 157; (with_reducible refine (HY.out _).mono ?_); rintro e w' ⟨rfl, rfl⟩) | (go_at_call 108; (with_reducible refine (HA.out _).mono ?_); rintro e w' ⟨rfl, rfl⟩) | (go_at_call 108; (with_reducible refine (HB.out _).mono ?_); rintro e w' ⟨rfl, rfl⟩))
    go_ret
    exact ⟨rfl, G1.out⟩
   | false =>
    go_wp2_with (first | (go_at_call 157; (with_reducible refine (HX.out _).mono ?_); rintro e w' ⟨rfl, rfl⟩) | (go_at_call 157; (with_reducible refine (HY.out _).mono ?_); rintro e w' ⟨rfl, rfl⟩) | (go_at_call 108; (with_reducible refine (HA.out _).mono ?_); rintro e w' ⟨rfl, rfl⟩) | (go_at_call 108; (with_reducible refine (HB.out _).mono ?_); rintro e w' ⟨rfl, rfl⟩))
    go_ret
    exact ⟨rfl, G1.out⟩
  ·go_wp2_with (first | (go_at_call 157; (with_reducible refine (HX.out _).mono ?_); rintro e w' ⟨rfl, rfl⟩) | (go_at_call 157; (with_reducible refine (HY.out _).mono ?_); rintro e w' ⟨rfl, rfl⟩) | (go_at_call 108; (with_reducible refine (HA.out _).mono ?_); rintro e w' ⟨rfl, rfl⟩) | (go_at_call 108; (with_reducible refine (HB.out _).mono ?_); rintro e w' ⟨rfl, rfl⟩))
   go_ret
   exact ⟨rfl, G1.out⟩
  ·go_wp2_with (first | (go_at_call 157; (with_reducible refine (HX.out _).mono ?_); rintro e w' ⟨rfl, rfl⟩) | (go_at_call 157; (with_reducible refine (HY.out _).mono ?_); rintro e w' ⟨rfl, rfl⟩) | (go_at_call 108; (with_reducible refine (HA.out _).mono ?_); rintro e w' ⟨rfl, rfl⟩) | (go_at_call 108; (with_reducible refine (HB.out _).mono ?_); rintro e w' ⟨rfl, rfl⟩))
   go_ret
   exact ⟨rfl, G1.out⟩
  ·go_wp2_with (first | (go_at_call 157; (with_reducible refine (HX.out _).mono ?_); rintro e w' ⟨rfl, rfl⟩) | (go_at_call 157; (with_reducible refine (HY.out _).mono ?_); rintro e w' ⟨rfl, rfl⟩) | (go_at_call 108; (with_reducible refine (HA.out _).mono ?_); rintro e w' ⟨rfl, rfl⟩) | (go_at_call 108; (with_reducible refine (HB.out _).mono ?_); rintro e w' ⟨rfl, rfl⟩))
   go_ret
   exact ⟨rfl, G1.out⟩
end Go.Proofs.YtehhlgdkhecacaaGreat

namespace Go.Proofs.YtehhlgdkhecacaaGreat
open Go.RowKit Go.Shelf
set_option maxRecDepth 100000 in
set_option maxHeartbeats 8000000 in
theorem refFits_any (A : Option Addr) (n c : Nat) (l : List Pf) (B : Option Addr) (m d : Nat) (rd : List Int) (person : Int) (w : World) (ha : Prf w A n l) (hn : n ≤ 1000) (hb : Ints w B m rd) (hmn : m < n) :
  Calls Tryz.prog 101 #[.slice A n c, .slice B m d, .int .i64 person] w fun e w' => e = .returned (.bool (fitB (l.map Pf.q) rd person)) ∧ Below w.heap.size w w' := by
 have HA := Lib.hid ha
 have HB := Lib.hid hb
 have hrl := hb.1
 have HRL := Lib.hid hrl
 have HLM := Lib.hid (show l.length = n from ha.len)
 have hkn := hmn
 obtain ⟨b, o, rfl, -, hyi, hym, hyc⟩ := (HA.out.below (Below.refl _ _)).at hkn
 obtain ⟨y, hy⟩ : ∃ y, l.getD m p0 = y := ⟨_, rfl⟩
 rw [hy] at hyi hym hyc
 obtain ⟨e0, e1, e2, e3, e4, e5, e6, e7, e8⟩ := hyc _ (Below.refl _ _)
 have HyE := Lib.hid hy
 have HyI := Lib.hid hyi
 have HyM := Lib.hid hym
 clear hy hyi hym hyc
 obtain ⟨W2, hW2⟩ : ∃ X, w.alloc (.cells #[.int .i64 y.q.src, .int .i64 y.q.kind, .slice y.A y.n y.c, .int .i64 y.q.oth, .int .i64 y.q.par, .int .i64 y.q.day, .int .i64 y.q.thr, .int .i64 y.q.kno, .int .i64 y.q.unt] 56) = X := ⟨_, rfl⟩
 have GW2 := Lib.hid (show Below w.heap.size w W2 by rw [← hW2]; exact one_more _ _)
 have BW2 := Lib.hid (show Blk W2 w.heap.size 56 #[.int .i64 y.q.src, .int .i64 y.q.kind, .slice y.A y.n y.c, .int .i64 y.q.oth, .int .i64 y.q.par, .int .i64 y.q.day, .int .i64 y.q.thr, .int .i64 y.q.kno, .int .i64 y.q.unt] by rw [← hW2]; exact Blk.new _ _ _)
 have HW2 := Lib.hid hW2
 clear hW2
 have HYQ := Lib.hid (show (l.map Pf.q).getD rd.length q0 = y.q by rw [HRL.out, map_pf (by rw [HLM.out]; exact hmn), HyE.out])
 obtain ⟨fb, hfb⟩ : ∃ s, fitB (l.map Pf.q) rd person = s := ⟨_, rfl⟩
 rw [hfb]
 have HFB := Lib.hid hfb
 have hmi : (m : Int) < (n : Int) := by omega
 clear hfb ha hb hrl
 go_enter Tryz.func101, Tryz.ntmps101
 go_upto_region 2 with fail
 rw [HW2.out]
 clear e0 e1 e2 e3 e4 e5 e6 e7 e8
 have d0 := BW2.out.cell 0
 have d1 := BW2.out.cell 1
 have d2 := BW2.out.cell 2
 have d3 := BW2.out.cell 3
 have d4 := BW2.out.cell 4
 have d5 := BW2.out.cell 5
 have d6 := BW2.out.cell 6
 have d7 := BW2.out.cell 7
 have d8 := BW2.out.cell 8
 have hcase : (y.q.kind = 2 ∧ y.q.oth = person) ∨ ¬ (y.q.kind = 2 ∧ y.q.oth = person) := Classical.em _
 rcases hcase with ⟨h1, h2⟩ | hno
 ·have e1 : (y.q.kind == 2) = true := by simpa using h1
  have e2 : (y.q.oth == person) = true := by simpa using h2
  have hf : fb = false := HFB.out.symm.trans (fit_no1 (by rw [HYQ.out]; exact h1) (by rw [HYQ.out]; exact h2))
  subst hf
  clear h1 h2
  go_wp2_with fail
  go_ret
  exact ⟨rfl, GW2.out⟩
 ·have HNO := Lib.hid hno
  go_cut [6, 22] from 14 to 22 (fun s t wx => s = .bool false ∧ t = .bool false ∧ W2 = wx)
  case first =>
   by_cases h1 : y.q.kind = 2
   ·have e1 : (y.q.kind == 2) = true := by simpa using h1
    have e2 : (y.q.oth == person) = false := by simpa using fun e => HNO.out ⟨h1, e⟩
    clear h1 hno
    go_wp2_with fail
    go_meet
    exact ⟨rfl, rfl, rfl⟩
   ·have e1 : (y.q.kind == 2) = false := by simpa using h1
    clear h1 hno
    go_wp2_with fail
    go_meet
    exact ⟨rfl, rfl, rfl⟩
  case rest =>
  obtain ⟨rfl, rfl, rfl⟩ := hcut
  rename_i hK9
  refine hK9 _ _ ?_
  clear hK9 hno
  have HZ := Lib.hid (Below.refl W2.heap.size W2)
  clear d0 d1 d2 d3 d4 d5 d6 d7 d8
  go_wp2_with fail
  go_loopw [8] (fun i wr => ∃ k : Nat, k ≤ m ∧ i = .int .i64 k ∧ Below W2.heap.size W2 wr ∧ ∀ j, j < k → ¬ (rd.getD j 0 = person ∧ oddsB ((l.map Pf.q).getD j q0) y.q = true)) (fun i _ => m - (intOf i).toNat)
  case atStart => exact ⟨0, Nat.zero_le _, rfl, HZ.out, fun j hj => absurd hj (by omega)⟩
  case round =>
   obtain ⟨k, hk, rfl, hg, hall⟩ := hrel
   have HG := Lib.hid hg
   have HALL := Lib.hid hall
   have HGW := Lib.hid (GW2.out.trans (hg.mono GW2.out.size))
   clear hall
   by_cases hkm : k < m
   ·have hkn : k < n := by omega
    obtain ⟨b2, o2, rfl, -, -, hc2⟩ := ints_at (HB.out.below HGW.out) hkm
    have r0 := hc2 wr (Below.refl _ _)
    obtain ⟨x, hx⟩ : ∃ x, rd.getD k 0 = x := ⟨_, rfl⟩
    rw [hx] at r0
    have HX := Lib.hid hx
    have HPK := Lib.hid (map_pf (l := l) (k := k) (by rw [HLM.out]; exact hkn))
    obtain ⟨b3, o3, e3, -, hzi, hzm, hzc⟩ := (HA.out.below HGW.out).at hkn
    cases e3
    obtain ⟨z, hz⟩ : ∃ z, l.getD k p0 = z := ⟨_, rfl⟩
    rw [hz] at hzc HPK
    obtain ⟨e0, e1, e2, e3, e4, e5, e6, e7, e8⟩ := hzc _ (Below.refl _ _)
    clear hzi hzm hzc hz hx hc2
    have hwr2 : wrap64 ((k : Int) + 1) = (k : Int) + 1 := wrap_in (by omega)
    have hki : (k : Int) < (n : Int) := by omega
    have BYR := Lib.hid (BW2.out.ext hg)
    have TO := fun (X : Wd wr) => refOdds_any z y X.val
    obtain ⟨ob, hob⟩ : ∃ s, oddsB z.q y.q = s := ⟨_, rfl⟩
    rw [hob] at TO
    have HOB := Lib.hid hob
    have HTO := Lib.hid TO
    clear TO hob hg
    go_upto_region 7 with fail
    replace r0 := cellW r0
    replace e0 := cellW e0
    replace e1 := cellW e1
    replace e2 := cellW e2
    replace e3 := cellW e3
    replace e4 := cellW e4
    replace e5 := cellW e5
    replace e6 := cellW e6
    replace e7 := cellW e7
    replace e8 := cellW e8
    have d0 := cellW (BYR.out.cell 0)
    have d1 := cellW (BYR.out.cell 1)
    have d2 := cellW (BYR.out.cell 2)
    have d3 := cellW (BYR.out.cell 3)
    have d4 := cellW (BYR.out.cell 4)
    have d5 := cellW (BYR.out.cell 5)
    have d6 := cellW (BYR.out.cell 6)
    have d7 := cellW (BYR.out.cell 7)
    have d8 := cellW (BYR.out.cell 8)
    by_cases hxp : x = person
    ·have hxb : (x == person) = true := by simpa using hxp
     have HXP := Lib.hid hxp
     clear hxp
     refine wp_region_calm wr (by kernel_rfl) (by kernel_rfl) (Below.refl _ _) ?_
     repeat (go_big_quiet_step ((go_at_call 140; exact callsCalm (HTO.out _))))
     refine wpQuiet_nil ?_
     rintro _ ⟨zz, rfl⟩
     have GZ := Lib.hid (HG.out.trans (zz.ok.mono HG.out.size))
     cases ob with
     | true =>
      have hf : fb = false := HFB.out.symm.trans (fit_no2 (j := k) (by rw [HRL.out]; exact hkm) (HX.out.trans HXP.out) (by rw [HYQ.out, HPK.out]; exact HOB.out))
      subst hf
      go_wp2_with fail
      go_ret
      exact ⟨rfl, GW2.out.trans (GZ.out.mono GW2.out.size)⟩
     | false =>
      go_wp2_with fail
      go_roundw
      case rel => exact ⟨k + 1, by omega, by go_num, GZ.out, fun j hj => by
       by_cases e : j = k
       ·subst e; rintro ⟨-, h2⟩; rw [HPK.out, HOB.out] at h2; exact absurd h2 (by decide)
       ·exact HALL.out j (by omega)⟩
      case measure => simp [intOf]; omega
    ·have hxb : (x == person) = false := by simpa using hxp
     have HXP := Lib.hid hxp
     clear hxp
     refine wp_region_calm wr (by kernel_rfl) (by kernel_rfl) (Below.refl _ _) ?_
     repeat (go_big_quiet_step ((go_at_call 140; exact callsCalm (HTO.out _))))
     refine wpQuiet_nil ?_
     rintro _ ⟨zz, rfl⟩
     have GZ := Lib.hid (HG.out.trans (zz.ok.mono HG.out.size))
     go_wp2_with fail
     go_roundw
     case rel => exact ⟨k + 1, by omega, by go_num, GZ.out, fun j hj => by
      by_cases e : j = k
      ·subst e; rintro ⟨h1, -⟩; exact HXP.out (HX.out.symm.trans h1)
      ·exact HALL.out j (by omega)⟩
     case measure => simp [intOf]; omega
   ·obtain rfl : k = m := by omega
    have hf : fb = true := HFB.out.symm.trans (fit_yes (by rw [HYQ.out]; exact HNO.out) (fun j hj => by rw [HYQ.out]; exact HALL.out j (by rw [← HRL.out]; exact hj)))
    subst hf
    clear hg
    go_wp2_with fail
    go_ret
    exact ⟨rfl, HGW.out⟩
end Go.Proofs.YtehhlgdkhecacaaGreat

namespace Go.Proofs.YtehhlgdkhecacaaGreat
open Go.RowKit Go.Shelf
theorem Below.allo9 {B : Nat} {V X : World} (h : Below B V X) (hB : B ≤ X.heap.size) (o : Obj) : Below B V (X.alloc o) := h.trans ((one_more X o).mono hB)
theorem one_pfc {w : World} {g : Nat} {y : Pf} (h : Blk w g 56 #[.int .i64 y.q.src, .int .i64 y.q.kind, .slice y.A y.n y.c, .int .i64 y.q.oth, .int .i64 y.q.par, .int .i64 y.q.day, .int .i64 y.q.thr, .int .i64 0, .int .i64 0]) : Arr pcells 9 w (some ⟨g, 0, none⟩) 1 [⟨clr y.q, y.A, y.n, y.c⟩] := one_pf (x := ⟨clr y.q, y.A, y.n, y.c⟩) h
theorem hon_len2 (x : List Ra) (m : Nat) (h : m ≤ madeN x) : (honP x m).1.length = (honP x m).2.length ∧ (honP x m).1.length ≤ m := by
 obtain ⟨h1, -, -, -, h5⟩ := hon_spec x m h
 have := h5.length_le
 rw [List.length_map, List.length_map, List.length_take] at this
 exact ⟨h1, by omega⟩
set_option maxRecDepth 100000 in
set_option maxHeartbeats 40000000 in
theorem honest_any (A : Option Addr) (n c : Nat) (x : List Ra) (w : World) (ha : Arr rcells 9 w A n x) (hn : n ≤ 9223372036854775807) (hx : ∀ r ∈ x, RaOk r) :
  Calls Tryz.prog 43 #[.slice A n c] w fun e w' => ∃ A1 n1 c1 A2 n2 c2 ls, e = .returned (.tuple #[.slice A1 n1 c1, .slice A2 n2 c2]) ∧ Prf w' A1 n1 ls ∧ ls.map Pf.q = honL x ∧ Ints w' A2 n2 (honW x) ∧ n1 ≤ 10 ∧ n2 ≤ c2 ∧ c2 ≤ maxLen ∧ Below w.heap.size w w' := by
 have TM := Lib.hid (made_any A n c x w ha hn hx)
 have HMN := Lib.hid (And.intro (madeN_le x) (And.intro (madeL_len x) (whoP_len x (madeN x))))
 have HHL := Lib.hid (fun m h => hon_len2 x m h)
 have HND := Lib.hid (And.intro (show honL x = (honP x (madeN x)).1 from rfl) (show honW x = (honP x (madeN x)).2 from rfl))
 have HS := Lib.hid (fun m => (show honP x (m + 1) = if fitB ((honP x m).1 ++ [clr ((madeL x).getD m q0)]) (honP x m).2 ((whoL x).getD m 0) = true then ((honP x m).1 ++ [clr ((madeL x).getD m q0)], (honP x m).2 ++ [(whoL x).getD m 0]) else honP x m from rfl))
 have HWL := Lib.hid (show whoL x = whoP x (madeN x) from rfl)
 obtain ⟨mn, hmn⟩ : ∃ k, madeN x = k := ⟨_, rfl⟩
 rw [hmn] at HMN HND HHL HWL
 obtain ⟨ml, hml⟩ : ∃ k, madeL x = k := ⟨_, rfl⟩
 obtain ⟨wl, hwl⟩ : ∃ k, whoL x = k := ⟨_, rfl⟩
 rw [hml, hwl] at TM HS
 rw [hml] at HMN
 rw [hwl] at HWL
 obtain ⟨rl, hrl⟩ : ∃ k, honL x = k := ⟨_, rfl⟩
 obtain ⟨rw_, hrw⟩ : ∃ k, honW x = k := ⟨_, rfl⟩
 rw [hrl, hrw] at HND ⊢
 clear hmn hml hwl hrl hrw ha hx
 go_enter Tryz.func43, Tryz.ntmps43
 go_upto_region 5 with (go_at_call 37; go_loud ((with_reducible refine (TM.out).mono ?_); rintro e V ⟨v, u, ls, rfl, hmd, hlq⟩; obtain ⟨A4, c4, rfl, h41, h42, hp4⟩ := hmd.prf; obtain ⟨A5, c5, rfl, h51, h52, hi5, -⟩ := OwnL.arr kdI hmd.o2; have HP4 := Lib.hid hp4; have HI5 := Lib.hid hi5; have HGV := Lib.hid hmd.g; have HLQ := Lib.hid hlq; clear hmd hlq h41 h42 hp4 h51 h52 hi5))
 obtain ⟨n4, hn4⟩ : ∃ k, ls.length = k := ⟨_, rfl⟩
 have HN4 := Lib.hid (show n4 = mn by rw [← hn4, ← HMN.out.2.1, ← HLQ.out, List.length_map])
 have HL4 := Lib.hid hn4
 obtain ⟨n5, hn5⟩ : ∃ k, wl.length = k := ⟨_, rfl⟩
 have HN5 := Lib.hid (show n5 = mn by rw [← hn5, HWL.out]; exact HMN.out.2.2)
 rw [hn4] at HP4 ⊢
 rw [hn5] at HI5 ⊢
 clear hn4 hn5
 have HM10 := Lib.hid (show mn ≤ 10 from HMN.out.1.1)
 have HP0 := Lib.hid (Prf.none V)
 have HI0 := Lib.hid (show Ints V none 0 [] from Arr.nil_)
 have HZ := Lib.hid (Below.refl V.heap.size V)
 go_loopw [6, 7, 8] (fun v u i wr => ∃ (m : Nat) (A6 : Option Addr) (n6 c6 : Nat) (A7 : Option Addr) (n7 c7 : Nat) (os : List Pf), m ≤ mn ∧ i = .int .i64 m ∧ v = .slice A6 n6 c6 ∧ u = .slice A7 n7 c7 ∧ Prf wr A6 n6 os ∧ os.map Pf.q = (honP x m).1 ∧ Ints wr A7 n7 (honP x m).2 ∧ n7 ≤ c7 ∧ c7 ≤ maxLen ∧ Below V.heap.size V wr) (fun _ _ i _ => 10 - (intOf i).toNat)
 case atStart => exact ⟨0, none, 0, 0, none, 0, 0, [], Nat.zero_le _, rfl, rfl, rfl, HP0.out, rfl, HI0.out, Nat.le_refl _, Nat.zero_le _, HZ.out⟩
 case round =>
  obtain ⟨m, A6, n6, c6, A7, n7, c7, os, hm, rfl, rfl, rfl, hp6, hq6, hi7, h71, h72, hg⟩ := hrel
  have HG := Lib.hid hg
  have HP6 := Lib.hid hp6
  have HQ6 := Lib.hid hq6
  have HI7 := Lib.hid hi7
  have H7 := Lib.hid (And.intro h71 h72)
  have HLM := Lib.hid (HHL.out m hm)
  have HSM := Lib.hid (HS.out m)
  have hm10 : m ≤ 10 := by have := HM10.out; omega
  have hwm : wrap64 ((m : Int) + 1) = (m : Int) + 1 := wrap_in (by omega)
  have HL6 := Lib.hid (show os.length = n6 from hp6.len)
  have HL7 := Lib.hid (show (honP x m).2.length = n7 from hi7.1)
  have HN6 := Lib.hid (show n6 = n7 ∧ n6 ≤ 10 by
   have h1 := congrArg List.length hq6
   rw [List.length_map] at h1
   have h2 := HLM.out; have h3 := HL6.out; have h4 := HL7.out; have h5 := HM10.out
   omega)
  obtain ⟨hw, hhw⟩ : ∃ l, (honP x m).2 = l := ⟨_, rfl⟩
  have HHW := Lib.hid hhw
  rw [hhw] at HI7 HSM HL7
  clear hp6 hq6 hi7 hg hhw h71 h72
  by_cases hk : m < mn
  ·have hk4 : (m : Int) < (n4 : Int) := by have := HN4.out; omega
   have hkn : m < n4 := by have := HN4.out; omega
   obtain ⟨b0, o0, rfl, -, hyi, -, hyc⟩ := (HP4.out.below HG.out).at hkn
   obtain ⟨y, hy⟩ : ∃ y, ls.getD m p0 = y := ⟨_, rfl⟩
   rw [hy] at hyi hyc
   obtain ⟨e0, e1, e2, e3, e4, e5, e6, e7, e8⟩ := hyc _ (Below.refl _ _)
   have HYQ := Lib.hid (show ml.getD m q0 = y.q by rw [← HLQ.out, map_pf (by rw [HL4.out]; exact hkn), hy])
   have HYI := Lib.hid hyi
   rw [HYQ.out] at HSM
   have hkn5 : m < n5 := by have := HN5.out; omega
   obtain ⟨b5, o5, rfl, -, -, hc5⟩ := ints_at (HI5.out.below HG.out) hkn5
   obtain ⟨t, ht⟩ : ∃ t, wl.getD m 0 = t := ⟨_, rfl⟩
   rw [ht] at hc5 HSM
   have HT5 := Lib.hid hc5
   have hk5 : (m : Int) < (n5 : Int) := by have := HN5.out; omega
   clear hyi hyc hy hc5 ht hkn hkn5
   obtain ⟨W1, hW1⟩ : ∃ X, wr.alloc (.cells #[.int .i64 y.q.src, .int .i64 y.q.kind, .slice y.A y.n y.c, .int .i64 y.q.oth, .int .i64 y.q.par, .int .i64 y.q.day, .int .i64 y.q.thr, .int .i64 y.q.kno, .int .i64 y.q.unt] 56) = X := ⟨_, rfl⟩
   have GW1 := Lib.hid (show Below wr.heap.size wr W1 by rw [← hW1]; exact one_more _ _)
   have BX := Lib.hid (show Blk W1 wr.heap.size 56 #[.int .i64 y.q.src, .int .i64 y.q.kind, .slice y.A y.n y.c, .int .i64 y.q.oth, .int .i64 y.q.par, .int .i64 y.q.day, .int .i64 y.q.thr, .int .i64 y.q.kno, .int .i64 y.q.unt] by rw [← hW1]; exact Blk.new _ _ _)
   have HW1 := Lib.hid hW1
   clear hW1
   go_upto_region 8 with fail
   rw [HW1.out]
   obtain ⟨bX, hbX⟩ : ∃ b, wr.heap.size = b := ⟨_, rfl⟩
   have HBXL := Lib.hid (show wr.heap.size ≤ bX by omega)
   rw [hbX] at BX ⊢
   clear hbX e0 e1 e2 e3 e4 e5 e6 e7 e8
   have d8 := BX.out.cell 8
   have f8 := BX.out.frozen 8
   have d7 := BX.out.cell 7
   have f7 := BX.out.frozen 7
   go_upto_region 10 with fail
   have BY_ := Lib.hid (show Blk ((W1.setCell ⟨bX, 8, none⟩ (.int .i64 0)).setCell ⟨bX, 7, none⟩ (.int .i64 0)) bX 56 #[.int .i64 y.q.src, .int .i64 y.q.kind, .slice y.A y.n y.c, .int .i64 y.q.oth, .int .i64 y.q.par, .int .i64 y.q.day, .int .i64 y.q.thr, .int .i64 0, .int .i64 0] from (BX.out.set_ 8 (.int .i64 0)).set_ 7 (.int .i64 0))
   have GY := Lib.hid (show Below wr.heap.size wr ((W1.setCell ⟨bX, 8, none⟩ (.int .i64 0)).setCell ⟨bX, 7, none⟩ (.int .i64 0)) from (GW1.out.setCell (p := ⟨bX, 8, none⟩) HBXL.out _).setCell (p := ⟨bX, 7, none⟩) HBXL.out _)
   obtain ⟨V2, hV2⟩ : ∃ X, (W1.setCell ⟨bX, 8, none⟩ (.int .i64 0)).setCell ⟨bX, 7, none⟩ (.int .i64 0) = X := ⟨_, rfl⟩
   rw [hV2] at BY_ GY ⊢
   clear hV2 d8 f8 d7 f7
   have d0 : World.cell? V2 ⟨bX, 0, none⟩ = some (.int .i64 y.q.src) := BY_.out.cell 0
   have d1 : World.cell? V2 ⟨bX, 1, none⟩ = some (.int .i64 y.q.kind) := BY_.out.cell 1
   have d2 : World.cell? V2 ⟨bX, 2, none⟩ = some (.slice y.A y.n y.c) := BY_.out.cell 2
   have d3 : World.cell? V2 ⟨bX, 3, none⟩ = some (.int .i64 y.q.oth) := BY_.out.cell 3
   have d4 : World.cell? V2 ⟨bX, 4, none⟩ = some (.int .i64 y.q.par) := BY_.out.cell 4
   have d5 : World.cell? V2 ⟨bX, 5, none⟩ = some (.int .i64 y.q.day) := BY_.out.cell 5
   have d6 : World.cell? V2 ⟨bX, 6, none⟩ = some (.int .i64 y.q.thr) := BY_.out.cell 6
   have d7 : World.cell? V2 ⟨bX, 7, none⟩ = some (.int .i64 0) := BY_.out.cell 7
   have d8 : World.cell? V2 ⟨bX, 8, none⟩ = some (.int .i64 0) := BY_.out.cell 8
   have HA6 := Lib.hid (HP6.out.below GY.out).a
   have HLL := Lib.hid (show os.length + 2 ≤ 1000000 ∧ os.length = n6 by have := HL6.out; have := HN6.out; omega)
   go_cut [10] from 28 to 33 (fun s wx => ∃ A8 c8, s = .slice A8 (n6 + 1) c8 ∧ Arr pcells 9 wx A8 (n6 + 1) (os ++ [⟨clr y.q, y.A, y.n, y.c⟩]) ∧ Below V2.heap.size V2 wx)
   case first =>
    have HKPn := Lib.hid (fun X (g : Below V2.heap.size V2 X) => (⟨(BY_.out.ext g).cell 0, (BY_.out.ext g).cell 1, (BY_.out.ext g).cell 2, (BY_.out.ext g).cell 3, (BY_.out.ext g).cell 4, (BY_.out.ext g).cell 5, (BY_.out.ext g).cell 6, (BY_.out.ext g).cell 7, (BY_.out.ext g).cell 8⟩ : X.cell? ⟨bX, 0, none⟩ = some (.int .i64 y.q.src) ∧ X.cell? ⟨bX, 1, none⟩ = some (.int .i64 y.q.kind) ∧ X.cell? ⟨bX, 2, none⟩ = some (.slice y.A y.n y.c) ∧ X.cell? ⟨bX, 3, none⟩ = some (.int .i64 y.q.oth) ∧ X.cell? ⟨bX, 4, none⟩ = some (.int .i64 y.q.par) ∧ X.cell? ⟨bX, 5, none⟩ = some (.int .i64 y.q.day) ∧ X.cell? ⟨bX, 6, none⟩ = some (.int .i64 y.q.thr) ∧ X.cell? ⟨bX, 7, none⟩ = some (.int .i64 0) ∧ X.cell? ⟨bX, 8, none⟩ = some (.int .i64 0)))
    have GE1 := Lib.hid (show Below V2.heap.size V2 (V2.alloc (.cells #[] 56)).drew from (one_more _ _).drew)
    have GE2 := Lib.hid (show Below V2.heap.size V2 ((V2.alloc (.cells #[] 56)).alloc (.cells #[.int .i64 y.q.src, .int .i64 y.q.kind, .slice y.A y.n y.c, .int .i64 y.q.oth, .int .i64 y.q.par, .int .i64 y.q.day, .int .i64 y.q.thr, .int .i64 0, .int .i64 0] 56)).drew from (two_more _ _ _).drew)
    have GE3 := Lib.hid (show Below V2.heap.size V2 ((V2.alloc (.cells #[.int .i64 y.q.src, .int .i64 y.q.kind, .slice y.A y.n y.c, .int .i64 y.q.oth, .int .i64 y.q.par, .int .i64 y.q.day, .int .i64 y.q.thr, .int .i64 0, .int .i64 0] 56)).alloc (.cells #[] 56)).drew from (two_more _ _ _).drew)
    have OE1 := Lib.hid (show OwnL pcells 9 56 (V2.alloc (.cells #[] 56)).drew V2.heap.size (.slice (some ⟨V2.heap.size, 0, none⟩) 0 0) [] from own_empty pcells_len V2 (Nat.le_refl _))
    have OE2 := Lib.hid (show OwnL pcells 9 56 ((V2.alloc (.cells #[] 56)).alloc (.cells #[.int .i64 y.q.src, .int .i64 y.q.kind, .slice y.A y.n y.c, .int .i64 y.q.oth, .int .i64 y.q.par, .int .i64 y.q.day, .int .i64 y.q.thr, .int .i64 0, .int .i64 0] 56)).drew V2.heap.size (.slice (some ⟨V2.heap.size, 0, none⟩) 0 0) [] from OwnL.ext (w := V2.alloc (.cells #[] 56)) (own_empty pcells_len V2 (Nat.le_refl _)) ((one_more (V2.alloc (.cells #[] 56)) (.cells #[.int .i64 y.q.src, .int .i64 y.q.kind, .slice y.A y.n y.c, .int .i64 y.q.oth, .int .i64 y.q.par, .int .i64 y.q.day, .int .i64 y.q.thr, .int .i64 0, .int .i64 0] 56)).drew))
    have OE3 := Lib.hid (show OwnL pcells 9 56 ((V2.alloc (.cells #[.int .i64 y.q.src, .int .i64 y.q.kind, .slice y.A y.n y.c, .int .i64 y.q.oth, .int .i64 y.q.par, .int .i64 y.q.day, .int .i64 y.q.thr, .int .i64 0, .int .i64 0] 56)).alloc (.cells #[] 56)).drew V2.heap.size (.slice (some ⟨V2.heap.size + 1, 0, none⟩) 0 0) [] by
     have := own_empty (f := pcells) (size := 9) (e := 56) pcells_len (V2.alloc (.cells #[.int .i64 y.q.src, .int .i64 y.q.kind, .slice y.A y.n y.c, .int .i64 y.q.oth, .int .i64 y.q.par, .int .i64 y.q.day, .int .i64 y.q.thr, .int .i64 0, .int .i64 0] 56)) (base := V2.heap.size) (by rw [World.size_alloc]; omega)
     rw [World.size_alloc] at this
     exact this)
    have BX2 := Lib.hid (show Blk ((V2.alloc (.cells #[] 56)).alloc (.cells #[.int .i64 y.q.src, .int .i64 y.q.kind, .slice y.A y.n y.c, .int .i64 y.q.oth, .int .i64 y.q.par, .int .i64 y.q.day, .int .i64 y.q.thr, .int .i64 0, .int .i64 0] 56)).drew (V2.heap.size + 1) 56 #[.int .i64 y.q.src, .int .i64 y.q.kind, .slice y.A y.n y.c, .int .i64 y.q.oth, .int .i64 y.q.par, .int .i64 y.q.day, .int .i64 y.q.thr, .int .i64 0, .int .i64 0] from blk_second _ _ _ _)
    have BX3 := Lib.hid (show Blk ((V2.alloc (.cells #[.int .i64 y.q.src, .int .i64 y.q.kind, .slice y.A y.n y.c, .int .i64 y.q.oth, .int .i64 y.q.par, .int .i64 y.q.day, .int .i64 y.q.thr, .int .i64 0, .int .i64 0] 56)).alloc (.cells #[] 56)).drew V2.heap.size 56 #[.int .i64 y.q.src, .int .i64 y.q.kind, .slice y.A y.n y.c, .int .i64 y.q.oth, .int .i64 y.q.par, .int .i64 y.q.day, .int .i64 y.q.thr, .int .i64 0, .int .i64 0] from (Blk.new V2 56 #[.int .i64 y.q.src, .int .i64 y.q.kind, .slice y.A y.n y.c, .int .i64 y.q.oth, .int .i64 y.q.par, .int .i64 y.q.day, .int .i64 y.q.thr, .int .i64 0, .int .i64 0]).alloc _)
    obtain ⟨base, hbase⟩ : ∃ base, V2.heap.size = base := ⟨_, rfl⟩
    rw [hbase] at OE1 OE2 OE3 BX2 BX3
    have HBS := Lib.hid hbase
    go_region_held3 (fun X => X.cell? ⟨bX, 0, none⟩ = some (.int .i64 y.q.src) ∧ X.cell? ⟨bX, 1, none⟩ = some (.int .i64 y.q.kind) ∧ X.cell? ⟨bX, 2, none⟩ = some (.slice y.A y.n y.c) ∧ X.cell? ⟨bX, 3, none⟩ = some (.int .i64 y.q.oth) ∧ X.cell? ⟨bX, 4, none⟩ = some (.int .i64 y.q.par) ∧ X.cell? ⟨bX, 5, none⟩ = some (.int .i64 y.q.day) ∧ X.cell? ⟨bX, 6, none⟩ = some (.int .i64 y.q.thr) ∧ X.cell? ⟨bX, 7, none⟩ = some (.int .i64 0) ∧ X.cell? ⟨bX, 8, none⟩ = some (.int .i64 0))
     (with_reducible refine HKPn.out _ ?_; repeat' first | (with_reducible exact Below.refl _ _) | (with_reducible exact HGA.out) | (with_reducible exact HGB.out) | (with_reducible refine Below.drew ?_) | (with_reducible refine Below.allo9 ?_ (by first | (simp; done) | (simp; omega) | omega) _))
     (first
      | (refine step_app kdQ (by rfl) _ _ (by rfl) base _ [] (by rfl) OE1.out A6 n6 c6 os (by rfl) (HA6.out.below GE1.out) (by have := HLL.out; simp; omega) (by have := GE1.out.size; have := HBS.out; omega) ?_; intro v1 w1 ho1 hg1 hat1; have hbw := OE1.out.below hg1 (Nat.le_refl base) (by have := GE1.out.size; have := HBS.out; omega); have HGA := Lib.hid (show Below V2.heap.size V2 w1 from GE1.out.trans (hbw.mono (by have := HBS.out; omega))); have HO1 := Lib.hid (show OwnL pcells 9 56 w1 base v1 os by simpa using ho1); have hsa : base ≤ w1.heap.size := (by have := HGA.out.size; have := HBS.out; omega); have HSA := Lib.hid hsa; clear hbw ho1 hg1 hat1)
      | (refine step_app kdQ (by rfl) _ _ (by rfl) base _ [] (by rfl) OE2.out A6 n6 c6 os (by rfl) (HA6.out.below GE2.out) (by have := HLL.out; simp; omega) (by have := GE2.out.size; have := HBS.out; omega) ?_; intro v1 w1 ho1 hg1 hat1; have hbw := OE2.out.below hg1 (Nat.le_refl base) (by have := GE2.out.size; have := HBS.out; omega); have HGA := Lib.hid (show Below V2.heap.size V2 w1 from GE2.out.trans (hbw.mono (by have := HBS.out; omega))); have HO1 := Lib.hid (show OwnL pcells 9 56 w1 base v1 os by simpa using ho1); have hsa : base ≤ w1.heap.size := (by have := HGA.out.size; have := HBS.out; omega); have HSA := Lib.hid hsa; have HBX := Lib.hid (show Blk w1 (base + 1) 56 _ from (hg1.block (base + 1) BX2.out.lt (by simp [Value.ownBlock])).trans BX2.out); clear hbw ho1 hg1 hat1)
      | (refine step_app kdQ (by rfl) _ _ (by rfl) base _ [] (by rfl) OE3.out A6 n6 c6 os (by rfl) (HA6.out.below GE3.out) (by have := HLL.out; simp; omega) (by have := GE3.out.size; have := HBS.out; omega) ?_; intro v1 w1 ho1 hg1 hat1; have hbw := OE3.out.below hg1 (Nat.le_refl base) (by have := GE3.out.size; have := HBS.out; omega); have HGA := Lib.hid (show Below V2.heap.size V2 w1 from GE3.out.trans (hbw.mono (by have := HBS.out; omega))); have HO1 := Lib.hid (show OwnL pcells 9 56 w1 base v1 os by simpa using ho1); have hsa : base ≤ w1.heap.size := (by have := HGA.out.size; have := HBS.out; omega); have HSA := Lib.hid hsa; have HBX := Lib.hid (show Blk w1 base 56 _ from (hg1.block base BX3.out.lt (by simp [Value.ownBlock])).trans BX3.out); clear hbw ho1 hg1 hat1)
      | (refine step_app kdQ (by rfl) _ _ (by rfl) base v1 os (by rfl) (HO1.out.ext (one_more w1 (.cells #[.int .i64 y.q.src, .int .i64 y.q.kind, .slice y.A y.n y.c, .int .i64 y.q.oth, .int .i64 y.q.par, .int .i64 y.q.day, .int .i64 y.q.thr, .int .i64 0, .int .i64 0] 56))) _ _ _ [⟨clr y.q, y.A, y.n, y.c⟩] (by rfl) (one_pfc (Blk.new w1 56 _)) (by have := HLL.out; omega) (by have := HSA.out; rw [World.size_alloc]; omega) ?_; intro v2 w2 ho2 hg2 hat2; have hbw := (HO1.out.ext (one_more w1 (.cells #[.int .i64 y.q.src, .int .i64 y.q.kind, .slice y.A y.n y.c, .int .i64 y.q.oth, .int .i64 y.q.par, .int .i64 y.q.day, .int .i64 y.q.thr, .int .i64 0, .int .i64 0] 56))).below hg2 (Nat.le_refl base) (by have := HSA.out; rw [World.size_alloc]; omega); have HGB := Lib.hid (show Below V2.heap.size V2 w2 from (HGA.out.trans ((one_more w1 _).mono (by have := HSA.out; have := HBS.out; omega))).trans (hbw.mono (by have := HBS.out; omega))); have HO2 := Lib.hid ho2; have hsb : base ≤ w2.heap.size := (by have := HGB.out.size; have := HBS.out; omega); have HSB := Lib.hid hsb; clear hbw ho2 hg2 hat2)
      | (refine step_app kdQ (by rfl) _ _ (by rfl) base v1 os (by rfl) HO1.out _ _ _ [⟨clr y.q, y.A, y.n, y.c⟩] (by rfl) (one_pfc HBX.out) (by have := HLL.out; omega) (by have := HSA.out; omega) ?_; intro v2 w2 ho2 hg2 hat2; have hbw := HO1.out.below hg2 (Nat.le_refl base) (by have := HSA.out; omega); have HGB := Lib.hid (show Below V2.heap.size V2 w2 from HGA.out.trans (hbw.mono (by have := HBS.out; omega))); have HO2 := Lib.hid ho2; have hsb : base ≤ w2.heap.size := (by have := HGB.out.size; have := HBS.out; omega); have HSB := Lib.hid hsb; clear hbw ho2 hg2 hat2))
    all_goals (try go_wp2_with fail)
    all_goals go_meet
    all_goals (obtain ⟨A8, c8, rfl, -, -, har, -⟩ := OwnL.arr kdQ HO2.out; rw [List.length_append, List.length_singleton, HLL.out.2] at har; exact ⟨A8, c8, by rw [List.length_append, List.length_singleton, HLL.out.2], har, HGB.out⟩)
   case rest =>
    obtain ⟨A8, c8, rfl, ha8, hg8⟩ := hcut
    obtain ⟨V3, rfl⟩ : ∃ V : World, V = wc := ⟨_, rfl⟩
    have HG8 := Lib.hid (GY.out.trans (hg8.mono GY.out.size))
    have HG9 := Lib.hid (HG.out.trans (HG8.out.mono HG.out.size))
    have HP8 := Lib.hid (show Prf V3 A8 (n6 + 1) (os ++ [⟨clr y.q, y.A, y.n, y.c⟩]) from ⟨ha8, fun p hp => by
     rw [List.mem_append, List.mem_singleton] at hp
     rcases hp with hp | rfl
     ·exact (HP6.out.p p hp).below HG8.out
     ·exact ⟨(HYI.out.below HG8.out).i, (HYI.out.below HG8.out).m⟩⟩)
    have HQ8 := Lib.hid (show (os ++ [(⟨clr y.q, y.A, y.n, y.c⟩ : Pf)]).map Pf.q = (honP x m).1 ++ [clr y.q] by rw [List.map_append, HQ6.out]; rfl)
    have TF := Lib.hid (refFits_any A8 (n6 + 1) c8 (os ++ [⟨clr y.q, y.A, y.n, y.c⟩]) A7 n7 c7 hw t V3 HP8.out (by have := HN6.out; omega) (HI7.out.below HG8.out) (by have := HN6.out; omega))
    rw [HQ8.out] at TF
    obtain ⟨fb, hfb⟩ : ∃ b, fitB ((honP x m).1 ++ [clr y.q]) hw t = b := ⟨_, rfl⟩
    rw [hfb] at TF HSM
    have t0 := HT5.out V3 HG8.out
    clear hfb ha8 hg8 d0 d1 d2 d3 d4 d5 d6 d7 d8 HLL
    rename_i hK9
    refine hK9 _ _ ?_
    clear hK9
    cases fb with
    | false =>
     have HS2 := Lib.hid (show honP x (m + 1) = honP x m by rw [HSM.out, if_neg (by decide)])
     go_wp2_with (go_at_call 101; (with_reducible refine (TF.out).mono ?_); rintro e V4 ⟨rfl, hg4⟩; have HG4 := Lib.hid (HG8.out.trans (hg4.mono HG8.out.size)); clear hg4)
     go_roundw
     case rel => exact ⟨m + 1, A6, n6, c6, A7, n7, c7, os, by omega, rfl, rfl, rfl, HP6.out.below HG4.out, by rw [HS2.out]; exact HQ6.out, by rw [HS2.out, HHW.out]; exact HI7.out.below HG4.out, H7.out.1, H7.out.2, HG.out.trans (HG4.out.mono HG.out.size)⟩
     case measure => simp only [intOf]; have := HM10.out; omega
    | true =>
     have HS2 := Lib.hid (show honP x (m + 1) = ((honP x m).1 ++ [clr y.q], hw ++ [t]) by rw [HSM.out, if_pos rfl])
     go_upto_region 13 with (go_at_call 101; (with_reducible refine (TF.out).mono ?_); rintro e V4 ⟨rfl, hg4⟩; have HG4 := Lib.hid (HG8.out.trans (hg4.mono HG8.out.size)); have HG34 := Lib.hid hg4; clear hg4)
     clear t0
     have t0 := HT5.out V4 HG4.out
     have HA7 := Lib.hid (HI7.out.below HG4.out)
     have HLL := Lib.hid (show hw.length + 2 ≤ 1000000 ∧ hw.length = n7 by have := HL7.out; have := HN6.out; omega)
     have HKPn := Lib.hid (fun X (g : Below V4.heap.size V4 X) => (HT5.out X (HG4.out.trans (g.mono HG4.out.size)) : X.cell? ⟨b5, o5 + m, none⟩ = some (.int .i64 t)))
     have GE1 := Lib.hid (show Below V4.heap.size V4 (V4.alloc (.cells #[] 3)).drew from (one_more _ _).drew)
     have GE2 := Lib.hid (show Below V4.heap.size V4 ((V4.alloc (.cells #[] 3)).alloc (.cells #[.int .i64 t] 3)).drew from (two_more _ _ _).drew)
     have GE3 := Lib.hid (show Below V4.heap.size V4 ((V4.alloc (.cells #[.int .i64 t] 3)).alloc (.cells #[] 3)).drew from (two_more _ _ _).drew)
     have OE1 := Lib.hid (show OwnL icells 1 3 (V4.alloc (.cells #[] 3)).drew V4.heap.size (.slice (some ⟨V4.heap.size, 0, none⟩) 0 0) [] from own_empty icells_len V4 (Nat.le_refl _))
     have OE2 := Lib.hid (show OwnL icells 1 3 ((V4.alloc (.cells #[] 3)).alloc (.cells #[.int .i64 t] 3)).drew V4.heap.size (.slice (some ⟨V4.heap.size, 0, none⟩) 0 0) [] from OwnL.ext (w := V4.alloc (.cells #[] 3)) (own_empty icells_len V4 (Nat.le_refl _)) ((one_more (V4.alloc (.cells #[] 3)) (.cells #[.int .i64 t] 3)).drew))
     have OE3 := Lib.hid (show OwnL icells 1 3 ((V4.alloc (.cells #[.int .i64 t] 3)).alloc (.cells #[] 3)).drew V4.heap.size (.slice (some ⟨V4.heap.size + 1, 0, none⟩) 0 0) [] by
      have := own_empty (f := icells) (size := 1) (e := 3) icells_len (V4.alloc (.cells #[.int .i64 t] 3)) (base := V4.heap.size) (by rw [World.size_alloc]; omega)
      rw [World.size_alloc] at this
      exact this)
     have BX2 := Lib.hid (show Blk ((V4.alloc (.cells #[] 3)).alloc (.cells #[.int .i64 t] 3)).drew (V4.heap.size + 1) 3 #[.int .i64 t] from blk_second _ _ _ _)
     have BX3 := Lib.hid (show Blk ((V4.alloc (.cells #[.int .i64 t] 3)).alloc (.cells #[] 3)).drew V4.heap.size 3 #[.int .i64 t] from (Blk.new V4 3 #[.int .i64 t]).alloc _)
     obtain ⟨base, hbase⟩ : ∃ base, V4.heap.size = base := ⟨_, rfl⟩
     rw [hbase] at OE1 OE2 OE3 BX2 BX3
     have HBS := Lib.hid hbase
     go_region_held3 (fun X => X.cell? ⟨b5, o5 + m, none⟩ = some (.int .i64 t))
      (with_reducible refine HKPn.out _ ?_; repeat' first | (with_reducible exact Below.refl _ _) | (with_reducible exact HGA.out) | (with_reducible exact HGB.out) | (with_reducible refine Below.drew ?_) | (with_reducible refine Below.allo9 ?_ (by first | (simp; done) | (simp; omega) | omega) _))
      (first
       | (refine step_app kdI (by rfl) _ _ (by rfl) base _ [] (by rfl) OE1.out A7 n7 c7 hw (by rfl) (HA7.out.below GE1.out) (by have := HLL.out; simp; omega) (by have := GE1.out.size; have := HBS.out; omega) ?_; intro v1 w1 ho1 hg1 hat1; have hbw := OE1.out.below hg1 (Nat.le_refl base) (by have := GE1.out.size; have := HBS.out; omega); have HGA := Lib.hid (show Below V4.heap.size V4 w1 from GE1.out.trans (hbw.mono (by have := HBS.out; omega))); have HO1 := Lib.hid (show OwnL icells 1 3 w1 base v1 hw by simpa using ho1); have hsa : base ≤ w1.heap.size := (by have := HGA.out.size; have := HBS.out; omega); have HSA := Lib.hid hsa; clear hbw ho1 hg1 hat1)
       | (refine step_app kdI (by rfl) _ _ (by rfl) base _ [] (by rfl) OE2.out A7 n7 c7 hw (by rfl) (HA7.out.below GE2.out) (by have := HLL.out; simp; omega) (by have := GE2.out.size; have := HBS.out; omega) ?_; intro v1 w1 ho1 hg1 hat1; have hbw := OE2.out.below hg1 (Nat.le_refl base) (by have := GE2.out.size; have := HBS.out; omega); have HGA := Lib.hid (show Below V4.heap.size V4 w1 from GE2.out.trans (hbw.mono (by have := HBS.out; omega))); have HO1 := Lib.hid (show OwnL icells 1 3 w1 base v1 hw by simpa using ho1); have hsa : base ≤ w1.heap.size := (by have := HGA.out.size; have := HBS.out; omega); have HSA := Lib.hid hsa; have HBX := Lib.hid (show Blk w1 (base + 1) 3 _ from (hg1.block (base + 1) BX2.out.lt (by simp [Value.ownBlock])).trans BX2.out); clear hbw ho1 hg1 hat1)
       | (refine step_app kdI (by rfl) _ _ (by rfl) base _ [] (by rfl) OE3.out A7 n7 c7 hw (by rfl) (HA7.out.below GE3.out) (by have := HLL.out; simp; omega) (by have := GE3.out.size; have := HBS.out; omega) ?_; intro v1 w1 ho1 hg1 hat1; have hbw := OE3.out.below hg1 (Nat.le_refl base) (by have := GE3.out.size; have := HBS.out; omega); have HGA := Lib.hid (show Below V4.heap.size V4 w1 from GE3.out.trans (hbw.mono (by have := HBS.out; omega))); have HO1 := Lib.hid (show OwnL icells 1 3 w1 base v1 hw by simpa using ho1); have hsa : base ≤ w1.heap.size := (by have := HGA.out.size; have := HBS.out; omega); have HSA := Lib.hid hsa; have HBX := Lib.hid (show Blk w1 base 3 _ from (hg1.block base BX3.out.lt (by simp [Value.ownBlock])).trans BX3.out); clear hbw ho1 hg1 hat1)
       | (refine step_app kdI (by rfl) _ _ (by rfl) base v1 hw (by rfl) (HO1.out.ext (one_more w1 (.cells #[.int .i64 t] 3))) _ _ _ [t] (by rfl) (one_int (Blk.new w1 3 _)) (by have := HLL.out; omega) (by have := HSA.out; rw [World.size_alloc]; omega) ?_; intro v2 w2 ho2 hg2 hat2; have hbw := (HO1.out.ext (one_more w1 (.cells #[.int .i64 t] 3))).below hg2 (Nat.le_refl base) (by have := HSA.out; rw [World.size_alloc]; omega); have HGB := Lib.hid (show Below V4.heap.size V4 w2 from (HGA.out.trans ((one_more w1 _).mono (by have := HSA.out; have := HBS.out; omega))).trans (hbw.mono (by have := HBS.out; omega))); have HO2 := Lib.hid ho2; have hsb : base ≤ w2.heap.size := (by have := HGB.out.size; have := HBS.out; omega); have HSB := Lib.hid hsb; clear hbw ho2 hg2 hat2)
       | (refine step_app kdI (by rfl) _ _ (by rfl) base v1 hw (by rfl) HO1.out _ _ _ [t] (by rfl) (one_int HBX.out) (by have := HLL.out; omega) (by have := HSA.out; omega) ?_; intro v2 w2 ho2 hg2 hat2; have hbw := HO1.out.below hg2 (Nat.le_refl base) (by have := HSA.out; omega); have HGB := Lib.hid (show Below V4.heap.size V4 w2 from HGA.out.trans (hbw.mono (by have := HBS.out; omega))); have HO2 := Lib.hid ho2; have hsb : base ≤ w2.heap.size := (by have := HGB.out.size; have := HBS.out; omega); have HSB := Lib.hid hsb; clear hbw ho2 hg2 hat2))
     all_goals (try go_wp2_with fail)
     all_goals (
      obtain ⟨A9, c9, rfl, k1, k2, har, -⟩ := OwnL.arr kdI HO2.out
      rw [List.length_append, List.length_singleton, HLL.out.2] at har k1
      go_roundw
      case rel => exact ⟨m + 1, A8, n6 + 1, c8, A9, n7 + 1, c9, _, by omega, rfl, rfl, by rw [List.length_append, List.length_singleton, HLL.out.2], (HP8.out.below HG34.out).below HGB.out, by rw [HS2.out]; exact HQ8.out, by rw [HS2.out]; exact har, k1, k2, HG.out.trans ((HG4.out.trans (HGB.out.mono HG4.out.size)).mono HG.out.size)⟩
      case measure => simp only [intOf]; have := HM10.out; omega)
  ·obtain rfl : m = mn := by omega
   have HE := Lib.hid (show os.map Pf.q = rl by rw [HQ6.out, HND.out.1])
   have HE2 := Lib.hid (show hw = rw_ by rw [HND.out.2, HHW.out])
   have hk4 : ¬ (m : Int) < (n4 : Int) := by have := HN4.out; omega
   go_wp2_with fail
   go_ret2
   rw [HE2.out] at HI7
   exact ⟨_, _, _, _, _, _, rfl, os, HP6.out, HE.out, HI7.out, HN6.out.2, H7.out.1, H7.out.2, HGV.out.trans (HG.out.mono HGV.out.size)⟩
end Go.Proofs.YtehhlgdkhecacaaGreat
