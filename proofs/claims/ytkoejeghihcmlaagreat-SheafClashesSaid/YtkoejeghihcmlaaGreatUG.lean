/- The reference's small functions. -/
import Derived.Test.YtkoejeghihcmlaaGreatMC
namespace Go.Proofs.YtkoejeghihcmlaaGreat
open Go.RowKit Go.Shelf

theorem in_any (n lo hi : Int) (w : World) : Calls Tryz.prog 131 #[.int .i64 n, .int .i64 lo, .int .i64 hi] w fun e w' => e = .returned (.bool (rng n lo hi)) ∧ w = w' := by
  unfold rng
  by_cases h1 : lo ≤ n
  · go_enter Tryz.func131, Tryz.ntmps131
    go_wp2
    go_ret
    exact ⟨by simp [h1], rfl⟩
  · go_enter Tryz.func131, Tryz.ntmps131
    go_wp2
    go_ret
    exact ⟨by simp; omega, rfl⟩
theorem refDay_any (n : Int) (w : World) : Calls Tryz.prog 181 #[.int .i64 n] w fun e w' => e = .returned (.bool (rng n 0 4166)) ∧ w = w' := by
  go_enter Tryz.func181, Tryz.ntmps181
  go_wp2_with (go_at_call 131; refine (in_any _ _ _ _).mono ?_; rintro e w' ⟨rfl, rfl⟩)
  go_ret
  exact ⟨rfl, rfl⟩
theorem lasts_any (k u : Int) (w : World) : Calls Tryz.prog 151 #[.int .i64 k, .int .i64 u] w fun e w' => e = .returned (.bool (okTimes k u)) ∧ w = w' := by
  unfold okTimes
  cases h1 : rng k 0 4166 with
  | false =>
    go_enter Tryz.func151, Tryz.ntmps151
    go_wp2_with (go_at_call 181; refine (refDay_any _ _).mono ?_; rintro e w' ⟨rfl, rfl⟩)
    go_ret
    exact ⟨rfl, rfl⟩
  | true =>
    have hk := h1
    unfold rng at hk
    simp only [Bool.and_eq_true, decide_eq_true_eq] at hk
    by_cases h2 : u = 0
    · subst h2
      go_enter Tryz.func151, Tryz.ntmps151
      go_wp2_with (go_at_call 181; refine (refDay_any _ _).mono ?_; rintro e w' ⟨rfl, rfl⟩)
      go_ret
      exact ⟨rfl, rfl⟩
    · have e2 : (u == 0) = false := beq_eq_false_iff_ne.2 h2
      have e3 : decide (u = 0) = false := decide_eq_false h2
      rw [e3]
      go_enter Tryz.func151, Tryz.ntmps151
      go_wp2_with (first
        | (go_at_call 181; refine (refDay_any _ _).mono ?_; rintro e w' ⟨rfl, rfl⟩)
        | (go_at_call 131; refine (in_any _ _ _ _).mono ?_; rintro e w' ⟨rfl, rfl⟩))
      go_ret
      exact ⟨rfl, rfl⟩
theorem refSheaves_any (lo hi : Int) (w : World) : Calls Tryz.prog 146 #[.agg #[.int .i64 lo, .int .i64 hi]] w fun e w' => e = .returned (.bool (okSh lo hi)) ∧ Below w.heap.size w w' := by
  unfold okSh rng
  by_cases h1 : 0 ≤ lo
  · by_cases h2 : lo ≤ hi
    · go_enter Tryz.func146, Tryz.ntmps146
      go_wp2
      go_ret
      exact ⟨by simp [h1, h2], one_more _ _⟩
    · go_enter Tryz.func146, Tryz.ntmps146
      go_wp2
      go_ret
      exact ⟨by simp; intros; omega, one_more _ _⟩
  · go_enter Tryz.func146, Tryz.ntmps146
    go_wp2
    go_ret
    exact ⟨by simp; intros; omega, one_more _ _⟩
theorem isAt_any (a b : Int) (w : World) : Calls Tryz.prog 150 #[.int .i64 a, .int .i64 b] w fun e w' => e = .returned (.bool (rng a 1 99999 && rng b 0 99999)) ∧ w = w' := by
  cases h1 : rng a 1 99999
  all_goals
    have H1 := Lib.hid h1
    have HT := Lib.hid (fun V => show Calls Tryz.prog 131 #[.int .i64 a, .int .i64 1, .int .i64 99999] V fun e w' => e = .returned (.bool _) ∧ V = w' from by have := in_any a 1 99999 V; rw [H1.out] at this; exact this)
    clear h1
    go_enter Tryz.func150, Tryz.ntmps150
    go_wp2_with (first
      | (go_at_call 131; (with_reducible refine (HT.out _).mono ?_); rintro e w' ⟨rfl, rfl⟩)
      | (go_at_call 131; (with_reducible refine (in_any b 0 99999 _).mono ?_); rintro e w' ⟨rfl, rfl⟩))
    go_ret
    exact ⟨by simp, rfl⟩
theorem refCounts_any (k u on : Int) (w : World) : Calls Tryz.prog 183 #[.int .i64 k, .int .i64 u, .int .i64 on] w fun e w' => e = .returned (.bool (decide (k ≤ on) && (decide (u = 0) || decide (on < u)))) ∧ w = w' := by
  by_cases h1 : k ≤ on
  · by_cases h2 : u = 0
    · subst h2
      go_enter Tryz.func183, Tryz.ntmps183
      go_wp2
      go_ret
      exact ⟨by simp [h1], rfl⟩
    · have e2 : (u == 0) = false := beq_eq_false_iff_ne.2 h2
      go_enter Tryz.func183, Tryz.ntmps183
      go_wp2
      go_ret
      exact ⟨by simp [h1, h2], rfl⟩
  · go_enter Tryz.func183, Tryz.ntmps183
    go_wp2
    go_ret
    exact ⟨by simp; intro h; exact absurd h (by omega), rfl⟩
theorem refCnt_any (x : Six) (on : Int) (w : World) : Calls Tryz.prog 183 #[.int .i64 x.e, .int .i64 x.f, .int .i64 on] w fun e w' => e = .returned (.bool (cnt x on)) ∧ w = w' := refCounts_any x.e x.f on w
theorem cut_any (a b c d : Int) (w : World) : Calls Tryz.prog 121 #[.agg #[.int .i64 a, .int .i64 b], .agg #[.int .i64 c, .int .i64 d]] w fun e w' => e = .returned (.agg #[.int .i64 (max a c), .int .i64 (min b d)]) ∧ Below w.heap.size w w' := by
  obtain ⟨W1, hW1⟩ : ∃ W1, ((w.alloc (.cells #[.int .i64 a, .int .i64 b] 33)).alloc (.cells #[.int .i64 c, .int .i64 d] 33)).alloc (.cells #[.int .i64 0, .int .i64 0] 33) = W1 := ⟨_, rfl⟩
  have g1 : Below w.heap.size w W1 := by rw [← hW1]; exact (two_more _ _ _).alloc (by simp; omega) _
  have b1 : Blk W1 w.heap.size 33 #[.int .i64 a, .int .i64 b] := by rw [← hW1]; exact ((Blk.new _ _ _).alloc _).alloc _
  have b2 : Blk W1 (w.heap.size + 1) 33 #[.int .i64 c, .int .i64 d] := by rw [← hW1]; have := (Blk.new (w.alloc (.cells #[.int .i64 a, .int .i64 b] 33)) 33 #[.int .i64 c, .int .i64 d]).alloc (.cells #[.int .i64 0, .int .i64 0] 33); rwa [World.size_alloc] at this
  have b3 : Blk W1 (w.heap.size + 1 + 1) 33 #[.int .i64 0, .int .i64 0] := by rw [← hW1]; have := Blk.new ((w.alloc (.cells #[.int .i64 a, .int .i64 b] 33)).alloc (.cells #[.int .i64 c, .int .i64 d] 33)) 33 #[.int .i64 0, .int .i64 0]; rwa [World.size_alloc, World.size_alloc] at this
  have c0 := b1.cell 0
  have c1 := b1.cell 1
  have c2 := b2.cell 0
  have c3 := b2.cell 1
  have c4 := b3.cell 0
  have c5 := b3.cell 1
  have c6 := b3.frozen 0
  have c7 := b3.frozen 1
  have HW := Lib.hid hW1
  have G1 := Lib.hid g1
  have B3 := Lib.hid b3
  clear hW1 g1 b1 b2 b3
  go_enter Tryz.func121, Tryz.ntmps121
  go_upto_region 1 with fail
  rw [HW.out]
  go_wp2
  have hb := (B3.out.set_ 0 (.int .i64 (max a c))).set_ 1 (.int .i64 (min b d))
  have t0 := hb.cell 0
  have t1 := hb.cell 1
  have HG := Lib.hid ((G1.out.setCell (p := ⟨w.heap.size + 1 + 1, 0, none⟩) (by dsimp only; omega) (.int .i64 (max a c))).setCell (p := ⟨w.heap.size + 1 + 1, 1, none⟩) (by dsimp only; omega) (.int .i64 (min b d)))
  clear hb
  refine bodyPost_ret (v := .agg #[.int .i64 (max a c), .int .i64 (min b d)]) ?_ rfl ⟨rfl, HG.out⟩
  simp [results, Tryz.results121, go_sem, t0, t1]
set_option maxRecDepth 100000 in
set_option maxHeartbeats 4000000 in
theorem refLoad_any (x : Six) (w : World) : Calls Tryz.prog 68 #[sv x] w fun e w' => e = .returned (.int .i64 (err (isLoad x) 10)) ∧ Below w.heap.size w w' := by
  unfold err isLoad
  have T1 := isAt_any x.a x.b
  have T3 := refSheaves_any x.c x.d
  have T4 := lasts_any x.e x.f
  generalize (rng x.a 1 99999 && rng x.b 0 99999) = b1 at T1 ⊢
  generalize okSh x.c x.d = b3 at T3 ⊢
  generalize okTimes x.e x.f = b4 at T4 ⊢
  cases b1 <;> cases b3 <;> cases b4
  all_goals
    have H1 := Lib.hid T1
    have H3 := Lib.hid T3
    have H4 := Lib.hid T4
    clear T1 T3 T4
    go_enter Tryz.func68, Tryz.ntmps68
    go_upto_region 1 with fail
    obtain ⟨W1, hW1⟩ : ∃ W1, w.alloc (.cells #[.int .i64 x.a, .int .i64 x.b, .int .i64 x.c, .int .i64 x.d, .int .i64 x.e, .int .i64 x.f] 103) = W1 := ⟨_, rfl⟩
    have g0 : Below w.heap.size w W1 := by rw [← hW1]; exact one_more _ _
    have b1 : Blk W1 w.heap.size 103 #[.int .i64 x.a, .int .i64 x.b, .int .i64 x.c, .int .i64 x.d, .int .i64 x.e, .int .i64 x.f] := by rw [← hW1]; exact Blk.new _ _ _
    rw [hW1]
    have G0 := Lib.hid g0
    have B1 := Lib.hid b1
    have c0 := b1.cell 0
    have c1 := b1.cell 1
    have c2 := b1.cell 2
    have c3 := b1.cell 3
    have c4 := b1.cell 4
    have c5 := b1.cell 5
    clear hW1 g0 b1
    go_wp2_with (first
      | (go_at_call 150; (with_reducible refine (H1.out _).mono ?_); rintro e w' ⟨rfl, rfl⟩)
      | (go_at_call 146; (with_reducible refine (H3.out _).mono ?_); rintro e w1 ⟨rfl, g1⟩; have m0 := (B1.out.ext g1).cell 4; have m1 := (B1.out.ext g1).cell 5; have G1 := Lib.hid (G0.out.trans (g1.mono G0.out.size)); clear g1)
      | (go_at_call 151; (with_reducible refine (H4.out _).mono ?_); rintro e w' ⟨rfl, rfl⟩))
    go_ret
    first
      | exact ⟨rfl, G1.out⟩
      | exact ⟨rfl, G0.out⟩
set_option maxRecDepth 100000 in
set_option maxHeartbeats 4000000 in
theorem refStand_any (x : Six) (w : World) : Calls Tryz.prog 70 #[sv x] w fun e w' => e = .returned (.int .i64 (err (isLoad x) 11)) ∧ Below w.heap.size w w' := by
  unfold err isLoad
  have T1 := isAt_any x.a x.b
  have T3 := refSheaves_any x.c x.d
  have T4 := lasts_any x.e x.f
  generalize (rng x.a 1 99999 && rng x.b 0 99999) = b1 at T1 ⊢
  generalize okSh x.c x.d = b3 at T3 ⊢
  generalize okTimes x.e x.f = b4 at T4 ⊢
  cases b1 <;> cases b3 <;> cases b4
  all_goals
    have H1 := Lib.hid T1
    have H3 := Lib.hid T3
    have H4 := Lib.hid T4
    clear T1 T3 T4
    go_enter Tryz.func70, Tryz.ntmps70
    go_upto_region 1 with fail
    obtain ⟨W1, hW1⟩ : ∃ W1, w.alloc (.cells #[.int .i64 x.a, .int .i64 x.b, .int .i64 x.c, .int .i64 x.d, .int .i64 x.e, .int .i64 x.f] 105) = W1 := ⟨_, rfl⟩
    have g0 : Below w.heap.size w W1 := by rw [← hW1]; exact one_more _ _
    have b1 : Blk W1 w.heap.size 105 #[.int .i64 x.a, .int .i64 x.b, .int .i64 x.c, .int .i64 x.d, .int .i64 x.e, .int .i64 x.f] := by rw [← hW1]; exact Blk.new _ _ _
    rw [hW1]
    have G0 := Lib.hid g0
    have B1 := Lib.hid b1
    have c0 := b1.cell 0
    have c1 := b1.cell 1
    have c2 := b1.cell 2
    have c3 := b1.cell 3
    have c4 := b1.cell 4
    have c5 := b1.cell 5
    clear hW1 g0 b1
    go_wp2_with (first
      | (go_at_call 150; (with_reducible refine (H1.out _).mono ?_); rintro e w' ⟨rfl, rfl⟩)
      | (go_at_call 146; (with_reducible refine (H3.out _).mono ?_); rintro e w1 ⟨rfl, g1⟩; have m0 := (B1.out.ext g1).cell 4; have m1 := (B1.out.ext g1).cell 5; have G1 := Lib.hid (G0.out.trans (g1.mono G0.out.size)); clear g1)
      | (go_at_call 151; (with_reducible refine (H4.out _).mono ?_); rintro e w' ⟨rfl, rfl⟩))
    go_ret
    first
      | exact ⟨rfl, G1.out⟩
      | exact ⟨rfl, G0.out⟩
theorem spell_eq (x : Six) : isSpell x = ((rng x.a 1 99999 && rng x.c 0 99999) && rng x.b 1 2 && rng x.d x.c 99999 && okTimes x.e x.f) := by
  rw [Bool.eq_iff_iff]
  unfold isSpell rng
  simp only [Bool.and_eq_true, Bool.or_eq_true, decide_eq_true_eq]
  constructor
  · rintro ⟨⟨⟨⟨⟨h1, h2⟩, h3⟩, h4⟩, h5⟩, h6⟩
    refine ⟨⟨⟨⟨h1, h3⟩, ?_⟩, ?_⟩, h6⟩ <;> omega
  · rintro ⟨⟨⟨⟨h1, h3⟩, h2⟩, h4⟩, h6⟩
    refine ⟨⟨⟨⟨⟨h1, ?_⟩, h3⟩, ?_⟩, ?_⟩, h6⟩ <;> omega
set_option maxRecDepth 100000 in
set_option maxHeartbeats 4000000 in
theorem refSpell_any (x : Six) (w : World) : Calls Tryz.prog 72 #[sv x] w fun e w' => e = .returned (.int .i64 (err (isSpell x) 12)) ∧ Below w.heap.size w w' := by
  rw [spell_eq]
  unfold err
  have T1 := isAt_any x.a x.c
  have T2 := in_any x.b 1 2
  have T3 := in_any x.d x.c 99999
  have T4 := lasts_any x.e x.f
  generalize (rng x.a 1 99999 && rng x.c 0 99999) = b1 at T1 ⊢
  generalize rng x.b 1 2 = b2 at T2 ⊢
  generalize rng x.d x.c 99999 = b3 at T3 ⊢
  generalize okTimes x.e x.f = b4 at T4 ⊢
  cases b1 <;> cases b2 <;> cases b3 <;> cases b4
  all_goals
    have H1 := Lib.hid T1
    have H2 := Lib.hid T2
    have H3 := Lib.hid T3
    have H4 := Lib.hid T4
    clear T1 T2 T3 T4
    go_enter Tryz.func72, Tryz.ntmps72
    go_upto_region 1 with fail
    obtain ⟨W1, hW1⟩ : ∃ W1, w.alloc (.cells #[.int .i64 x.a, .int .i64 x.b, .int .i64 x.c, .int .i64 x.d, .int .i64 x.e, .int .i64 x.f] 107) = W1 := ⟨_, rfl⟩
    have g0 : Below w.heap.size w W1 := by rw [← hW1]; exact one_more _ _
    have b1 : Blk W1 w.heap.size 107 #[.int .i64 x.a, .int .i64 x.b, .int .i64 x.c, .int .i64 x.d, .int .i64 x.e, .int .i64 x.f] := by rw [← hW1]; exact Blk.new _ _ _
    rw [hW1]
    have G0 := Lib.hid g0
    have c0 := b1.cell 0
    have c1 := b1.cell 1
    have c2 := b1.cell 2
    have c3 := b1.cell 3
    have c4 := b1.cell 4
    have c5 := b1.cell 5
    clear hW1 g0 b1
    go_wp2_with (first
      | (go_at_call 150; (with_reducible refine (H1.out _).mono ?_); rintro e w' ⟨rfl, rfl⟩)
      | (go_at_call 131; (with_reducible refine (H2.out _).mono ?_); rintro e w' ⟨rfl, rfl⟩)
      | (go_at_call 131; (with_reducible refine (H3.out _).mono ?_); rintro e w' ⟨rfl, rfl⟩)
      | (go_at_call 151; (with_reducible refine (H4.out _).mono ?_); rintro e w' ⟨rfl, rfl⟩))
    go_ret
    exact ⟨rfl, G0.out⟩
end Go.Proofs.YtkoejeghihcmlaaGreat
