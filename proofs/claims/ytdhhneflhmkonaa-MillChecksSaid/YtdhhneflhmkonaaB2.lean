/- The law MillBounds. -/
import Derived.Test.YtdhhneflhmkonaaB1
import Derived.Test.YtdhhneflhmkonaaL4
namespace Go.Proofs.Ytdhhneflhmkonaa
open Go.RowKit

def arr6 (a b c d e f : Int) : Value := .agg #[.int .i64 a, .int .i64 b, .int .i64 c, .int .i64 d, .int .i64 e, .int .i64 f]

/-- A remainder, its bounds, and its call. -/
theorem modF (n m : Int) (h1 : 1 ≤ m) (h2 : m ≤ 1000000000) : ∃ q, 0 ≤ q ∧ q < m ∧ ∀ w, Calls Try.prog 32 #[.int .i64 n, .int .i64 m] w fun e w' => e = .returned (.int .i64 q) ∧ w = w' :=
  ⟨n % m, Int.emod_nonneg _ (by omega), Int.emod_lt_of_pos _ (by omega), fun w => mod_any n m w h1 h2⟩

/-- What stands while the law is reckoned. -/
structure BL (W : World) (by0 bb bx : Nat) (a h t bl bh n : Int) : Prop where
  y0 : W.cell? ⟨by0, 0, none⟩ = some (.int .i64 a)
  y1 : W.cell? ⟨by0, 1, none⟩ = some (.int .i64 h)
  y2 : W.cell? ⟨by0, 2, none⟩ = some (.int .i64 t)
  b0 : W.cell? ⟨bb, 0, none⟩ = some (.int .i64 bl)
  b1 : W.cell? ⟨bb, 1, none⟩ = some (.int .i64 bh)
  x0 : W.cell? ⟨bx, 0, none⟩ = some (.int .i64 n)
  x1 : W.cell? ⟨bx, 1, none⟩ = some (.int .i64 n)
  x2 : W.cell? ⟨bx, 2, none⟩ = some (.int .i64 t)
theorem BL.ext {W W' : World} {by0 bb bx : Nat} {a h t bl bh n : Int} (k : BL W by0 bb bx a h t bl bh n) (g : Below W.heap.size W W') : BL W' by0 bb bx a h t bl bh n :=
  ⟨keep g k.y0, keep g k.y1, keep g k.y2, keep g k.b0, keep g k.b1, keep g k.x0, keep g k.x1, keep g k.x2⟩

set_option maxRecDepth 100000 in
set_option maxHeartbeats 8000000 in
theorem law5_any (n0 n1 n2 n3 n4 n5 : Int) (w : World) :
    Calls Try.prog 5 #[arr6 n0 n1 n2 n3 n4 n5] w fun e w' => e = .returned (.bool true) ∧ Below w.heap.size w w' := by
  obtain ⟨q0, a0, b0, m0⟩ := modF n0 600 (by decide) (by decide)
  obtain ⟨q1, a1, b1, m1⟩ := modF n1 99 (by decide) (by decide)
  obtain ⟨q2, a2, b2, m2⟩ := modF n2 400 (by decide) (by decide)
  obtain ⟨q3, a3, b3, m3⟩ := modF n3 1500 (by decide) (by decide)
  obtain ⟨q4, a4, b4, m4⟩ := modF n4 500 (by decide) (by decide)
  have M0 := Lib.hid m0
  have M1 := Lib.hid m1
  have M2 := Lib.hid m2
  have M3 := Lib.hid m3
  have M4 := Lib.hid m4
  clear m0 m1 m2 m3 m4
  unfold arr6
  go_enter Try.func5, Try.ntmps5
  go_wp2_with fail
  generalize hWa : w.alloc (.cells #[.int .i64 n0, .int .i64 n1, .int .i64 n2, .int .i64 n3, .int .i64 n4, .int .i64 n5] 46) = Wa
  have ga : Below w.heap.size w Wa := by rw [← hWa]; exact one_more _ _
  have hb : Blk Wa w.heap.size 46 #[.int .i64 n0, .int .i64 n1, .int .i64 n2, .int .i64 n3, .int .i64 n4, .int .i64 n5] := by rw [← hWa]; exact Blk.new _ _ _
  have HB := Lib.hid hb
  have GA := Lib.hid ga
  have c0 : Wa.cell? ⟨w.heap.size, 0, none⟩ = some (.int .i64 n0) := hb.cell 0
  have c1 : Wa.cell? ⟨w.heap.size, 1, none⟩ = some (.int .i64 n1) := hb.cell 1
  have l0 := hb.lt
  clear hb ga hWa
  go_cut [3] from 26 to 34 (fun s3 wx => s3 = .pointer (some ⟨Wa.heap.size, 0, none⟩) ∧ wx = (Wa.alloc (.cells #[.int .i64 q0, .int .i64 0, .int .i64 (2 + q1)] 38)).drew)
  case first =>
    have hne := World.new_ne Wa _ c0
    have hw : IntKind.i64.wrap (2 + q1) = 2 + q1 := IntWalk.i64_in _ (by omega)
    go_region_held3 (fun w' => w'.cell? ⟨w.heap.size, 0, none⟩ = some (.int .i64 n0) ∧ w'.cell? ⟨w.heap.size, 1, none⟩ = some (.int .i64 n1)) (go_keep)
      (first | (go_at_call 32; (with_reducible refine (M0.out _).mono ?_); rintro e w' ⟨rfl, rfl⟩) | (go_at_call 32; (with_reducible refine (M1.out _).mono ?_); rintro e w' ⟨rfl, rfl⟩))
    all_goals (try go_wp2_with fail)
    all_goals go_meet
    all_goals exact ⟨rfl, rfl⟩
  case rest =>
    obtain ⟨rfl, hwx⟩ := hcut
    rename World => W1
    have gb : Below Wa.heap.size Wa W1 := by rw [hwx]; exact (one_more _ _).drew
    have hy : Blk W1 Wa.heap.size 38 #[.int .i64 q0, .int .i64 0, .int .i64 (2 + q1)] := by rw [hwx]; exact Blk.new _ _ _
    have hb := HB.out.ext gb
    have GB := Lib.hid (GA.out.trans (gb.mono GA.out.size))
    have hge : w.heap.size < Wa.heap.size := HB.out.lt
    obtain ⟨bn, hbn⟩ : ∃ bn, w.heap.size = bn := ⟨_, rfl⟩
    have HBN := Lib.hid hbn
    obtain ⟨by0, hby0⟩ : ∃ by0, Wa.heap.size = by0 := ⟨_, rfl⟩
    rw [hby0] at hy hge ⊢
    rw [hbn] at hb hge ⊢
    have HB1 := Lib.hid hb
    have HY1 := Lib.hid hy
    have F : ∀ x : Wd W1, x.val.cell? ⟨by0, 0, none⟩ = some (.int .i64 q0) ∧ x.val.cell? ⟨bn, 2, none⟩ = some (.int .i64 n2) := fun x => ⟨cellW (hy.cell 0) x, cellW (hb.cell 2) x⟩
    have G : ∀ x : Wd W1, by0 < x.val.heap.size ∧ bn < x.val.heap.size := fun x => by have := x.size; have := hb.lt; have := hy.lt; omega
    clear hb hy gb hwx c0 c1 l0 hbn hby0
    go_wp2_with fail
    refine wp_region_calm_tail W1 7 (by kernel_rfl) (by kernel_rfl) (Below.refl _ _) ?_
    simp only [List.take_succ_cons, List.take_zero, List.drop_succ_cons, List.drop_zero]
    repeat (go_big_quiet_step (first | (go_at_call 32; exact callsCalmSame (M2.out _))))
    refine wpQuiet_nil ?_
    rintro _ ⟨x1, rfl⟩
    have hy := HY1.out.ext x1.ok
    have hf := hy.frozen 1
    have hc := hy.cell 1
    have hb := HB1.out.ext x1.ok
    have e3 := hb.cell 3
    have HB2 := Lib.hid hb
    have HY2 := Lib.hid hy
    have GC := Lib.hid (GB.out.trans (x1.ok.mono GB.out.size))
    have hsz := x1.size
    have hl1 := hy.lt
    clear hb hy F G
    go_wp2_with (first | (go_at_call 32; (with_reducible refine (M3.out _).mono ?_); rintro e w' ⟨rfl, rfl⟩))
    have F1 := (Fix.refl by0 by0 x1.val).setCell (p := ⟨by0, 1, none⟩) (.inl rfl) (.int .i64 (q0 + q2))
    obtain ⟨W2, hW2⟩ : ∃ W2, x1.val.setCell ⟨by0, 1, none⟩ (.int .i64 (q0 + q2)) = W2 := ⟨_, rfl⟩
    have hs2 : W2.heap.size = x1.val.heap.size := by rw [← hW2]; simp [World.setCell]
    have hy2 : Blk W2 by0 38 #[.int .i64 q0, .int .i64 (q0 + q2), .int .i64 (2 + q1)] := by rw [← hW2]; exact HY2.out.set_ 1 _
    have hb2 : Blk W2 bn 46 #[.int .i64 n0, .int .i64 n1, .int .i64 n2, .int .i64 n3, .int .i64 n4, .int .i64 n5] := by rw [← hW2]; exact HB2.out.far (p := ⟨by0, 1, none⟩) (by dsimp only; omega) _
    have g2 : Below w.heap.size w W2 := by rw [← hW2]; exact GC.out.setCell (p := ⟨by0, 1, none⟩) (by have := HBN.out; dsimp only; omega) _
    rw [hW2]
    rw [← hs2]
    obtain ⟨W3, hW3⟩ : ∃ W3, W2.alloc (.cells #[.int .i64 q3, .int .i64 0] 36) = W3 := ⟨_, rfl⟩
    have g3 : Below W2.heap.size W2 W3 := by rw [← hW3]; exact one_more _ _
    have hbb : Blk W3 W2.heap.size 36 #[.int .i64 q3, .int .i64 0] := by rw [← hW3]; exact Blk.new _ _ _
    have hy3 := hy2.ext g3
    have hb3 := hb2.ext g3
    have G3 := Lib.hid (g2.trans (g3.mono g2.size))
    have hlt2 := hb2.lt
    have hlt3 := hy2.lt
    obtain ⟨bb, hbbe⟩ : ∃ bb, W2.heap.size = bb := ⟨_, rfl⟩
    rw [hW3]
    rw [hbbe] at hbb hlt2 hlt3 ⊢
    have hwb : w.heap.size ≤ bb := by have := g2.size; omega
    have HY3 := Lib.hid hy3
    have HB3 := Lib.hid hb3
    have HBB3 := Lib.hid hbb
    have F : ∀ x : Wd W3, x.val.cell? ⟨bb, 0, none⟩ = some (.int .i64 q3) ∧ x.val.cell? ⟨bn, 4, none⟩ = some (.int .i64 n4) := fun x => ⟨cellW (hbb.cell 0) x, cellW (hb3.cell 4) x⟩
    have G : ∀ x : Wd W3, bb < x.val.heap.size ∧ bn < x.val.heap.size := fun x => by have := x.size; have := hbb.lt; have := hb3.lt; omega
    clear hW2 hW3 hs2 hy2 hb2 g2 g3 hbb hy3 hb3 hbbe F1 hf hc e3 hsz hl1
    refine wp_region_calm_tail W3 6 (by kernel_rfl) (by kernel_rfl) (Below.refl _ _) ?_
    simp only [List.take_succ_cons, List.take_zero, List.drop_succ_cons, List.drop_zero]
    repeat (go_big_quiet_step (first | (go_at_call 32; exact callsCalmSame (M4.out _))))
    refine wpQuiet_nil ?_
    rintro _ ⟨x2, rfl⟩
    have hf := (HBB3.out.ext x2.ok).frozen 1
    have hc := (HBB3.out.ext x2.ok).cell 1
    clear F G
    go_wp2_with fail
    obtain ⟨W4, hW4⟩ : ∃ W4, x2.val.setCell ⟨bb, 1, none⟩ (.int .i64 (q3 + q4)) = W4 := ⟨_, rfl⟩
    have hbb4 : Blk W4 bb 36 #[.int .i64 q3, .int .i64 (q3 + q4)] := by rw [← hW4]; exact (HBB3.out.ext x2.ok).set_ 1 _
    have hy4 : Blk W4 by0 38 #[.int .i64 q0, .int .i64 (q0 + q2), .int .i64 (2 + q1)] := by rw [← hW4]; exact (HY3.out.ext x2.ok).far (p := ⟨bb, 1, none⟩) (by dsimp only; omega) _
    have hb4 : Blk W4 bn 46 #[.int .i64 n0, .int .i64 n1, .int .i64 n2, .int .i64 n3, .int .i64 n4, .int .i64 n5] := by rw [← hW4]; exact (HB3.out.ext x2.ok).far (p := ⟨bb, 1, none⟩) (by dsimp only; omega) _
    have g4 : Below w.heap.size w W4 := by rw [← hW4]; exact (G3.out.trans (x2.ok.mono G3.out.size)).setCell (p := ⟨bb, 1, none⟩) hwb _
    rw [hW4]
    obtain ⟨h, hh⟩ : ∃ h, q0 + q2 = h := ⟨_, rfl⟩
    obtain ⟨bh, hbh⟩ : ∃ bh, q3 + q4 = bh := ⟨_, rfl⟩
    obtain ⟨t, ht⟩ : ∃ t, 2 + q1 = t := ⟨_, rfl⟩
    rw [hh, ht] at hy4
    rw [hbh] at hbb4
    have i1 : q0 ≤ h := by omega
    have i2 : h ≤ 1000 := by omega
    have i3 : q3 ≤ bh := by omega
    have i4 : bh ≤ 2000 := by omega
    have i5 : 2 ≤ t := by omega
    have i6 : t ≤ 100 := by omega
    simp only [hh, hbh]
    obtain ⟨q5, a5, b5, m5⟩ := modF n5 (h - q0 + 1) (by omega) (by omega)
    obtain ⟨n7, hn7⟩ : ∃ n7, IntKind.i64.wrap (n5.tdiv 7) = n7 := ⟨_, rfl⟩
    obtain ⟨q6, a6, b6, m6⟩ := modF n7 (bh - q3 + 1) (by omega) (by omega)
    have M5 := Lib.hid m5
    have M6 := Lib.hid m6
    have HY4 := Lib.hid hy4
    have HB4 := Lib.hid hbb4
    have G4 := Lib.hid g4
    have F : ∀ x : Wd W4, x.val.cell? ⟨by0, 0, none⟩ = some (.int .i64 q0) ∧ x.val.cell? ⟨by0, 1, none⟩ = some (.int .i64 h) ∧ x.val.cell? ⟨bb, 0, none⟩ = some (.int .i64 q3) ∧ x.val.cell? ⟨bb, 1, none⟩ = some (.int .i64 bh) ∧ x.val.cell? ⟨bn, 5, none⟩ = some (.int .i64 n5) :=
      fun x => ⟨cellW (hy4.cell 0) x, cellW (hy4.cell 1) x, cellW (hbb4.cell 0) x, cellW (hbb4.cell 1) x, cellW (hb4.cell 5) x⟩
    have G : ∀ x : Wd W4, bb < x.val.heap.size ∧ bn < x.val.heap.size ∧ by0 < x.val.heap.size := fun x => by have := x.size; have := hbb4.lt; have := hb4.lt; have := hy4.lt; omega
    clear hW4 hbb4 hy4 hb4 g4 hf hc m5 m6 hh hbh ht a2 b2 a4 b4 a1 b1
    have s1 : IntKind.i64.wrap (h - q0) = h - q0 := IntWalk.i64_in _ (by omega)
    have s2 : IntKind.i64.wrap (h - q0 + 1) = h - q0 + 1 := IntWalk.i64_in _ (by omega)
    have s3 : IntKind.i64.wrap (bh - q3) = bh - q3 := IntWalk.i64_in _ (by omega)
    have s4 : IntKind.i64.wrap (bh - q3 + 1) = bh - q3 + 1 := IntWalk.i64_in _ (by omega)
    have s5 : IntKind.i64.wrap (q0 + q5) = q0 + q5 := IntWalk.i64_in _ (by omega)
    have s6 : IntKind.i64.wrap (q3 + q6) = q3 + q6 := IntWalk.i64_in _ (by omega)
    refine wp_region_calm W4 (by kernel_rfl) (by kernel_rfl) (Below.refl _ _) ?_
    repeat (go_big_quiet_step (first | (go_at_call 32; exact callsCalmSame (M5.out _))))
    refine wpQuiet_nil ?_
    rintro _ ⟨x3, rfl⟩
    go_wp2_with fail
    refine wp_region_calm W4 (by kernel_rfl) (by kernel_rfl) x3.ok ?_
    repeat (go_big_quiet_step (first | (go_at_call 32; with_reducible exact callsCalmSame (M6.out _))))
    refine wpQuiet_nil ?_
    rintro _ ⟨x4, rfl⟩
    have e2 := cellW (HY4.out.cell 2) x4
    clear s1 s2 s3 s4 s5 s6 hn7
    obtain ⟨tr, htr⟩ : ∃ tr, q0 + q5 = tr := ⟨_, rfl⟩
    obtain ⟨qq, hqq⟩ : ∃ qq, q3 + q6 = qq := ⟨_, rfl⟩
    have i7 : q0 ≤ tr := by omega
    have i8 : tr ≤ h := by omega
    have i9 : q3 ≤ qq := by omega
    have i10 : qq ≤ bh := by omega
    obtain ⟨GG, D, L, R, HF⟩ := boundsF a0 i7 i8 i2 i5 i6 a3 i9 i10 i4
    simp only [htr, hqq]
    have G5 := Lib.hid (G4.out.trans (x4.ok.mono G4.out.size))
    have hY5 := HY4.out.ext x4.ok
    have hB5 := HB4.out.ext x4.ok
    obtain ⟨W5, hW5⟩ : ∃ W5, x4.val.alloc (.cells #[.int .i64 tr, .int .i64 tr, .int .i64 t] 38) = W5 := ⟨_, rfl⟩
    have g5 : Below x4.val.heap.size x4.val W5 := by rw [← hW5]; exact one_more _ _
    have hx5 : Blk W5 x4.val.heap.size 38 #[.int .i64 tr, .int .i64 tr, .int .i64 t] := by rw [← hW5]; exact Blk.new _ _ _
    obtain ⟨bx, hbx⟩ : ∃ bx, x4.val.heap.size = bx := ⟨_, rfl⟩
    rw [hbx] at hx5
    have hy5 := hY5.ext g5
    have hb5 := hB5.ext g5
    have HL0 := Lib.hid (⟨hy5.cell 0, hy5.cell 1, hy5.cell 2, hb5.cell 0, hb5.cell 1, hx5.cell 0, hx5.cell 1, hx5.cell 2⟩ : BL W5 by0 bb bx q0 h t q3 bh tr)
    have HG0 := Lib.hid (G5.out.trans (g5.mono G5.out.size))
    clear hY5 hB5 hx5 hy5 hb5 g5 htr hqq F G
    have HFF := Lib.hid HF
    have T1 := fun W => callsRet (Threshed_any ⟨q0, h, t⟩ ⟨q3, bh⟩ W) (by rw [HF.v1, HF.e1])
    have T2 := fun W => callsRet (Flour_any ⟨q0, h, t⟩ ⟨q3, bh⟩ W) (by rw [HF.v2, HF.e1])
    have T3 := fun W => callsRet (Threshed_any ⟨tr, tr, t⟩ ⟨qq, qq⟩ W) (by rw [HF.v3, HF.e2])
    have T4 := fun W => callsRet (Flour_any ⟨tr, tr, t⟩ ⟨qq, qq⟩ W) (by rw [HF.v4, HF.e2])
    have T5 := fun W => callsRet (Toll_any ⟨q0, h, t⟩ GG W) (by rw [HF.v5, HF.e3])
    have T6 := fun W => callsRet (Bundles_any ⟨q0, h, t⟩ ⟨D, D⟩ W) (by rw [HF.v6, HF.e4])
    have T7 := fun W => callsRet (Flour_any ⟨q0, q0, t⟩ ⟨q3, q3⟩ W) (by rw [HF.v7, HF.e5])
    have T8 := fun W => callsRet (Flour_any ⟨h, h, t⟩ ⟨bh, bh⟩ W) (by rw [HF.v8, HF.e6])
    obtain ⟨A1, hA1⟩ : ∃ A1, thr q0 q3 = A1 := ⟨_, rfl⟩
    obtain ⟨A2, hA2⟩ : ∃ A2, thr h bh = A2 := ⟨_, rfl⟩
    obtain ⟨C1, hC1⟩ : ∃ C1, grd t A1 = C1 := ⟨_, rfl⟩
    obtain ⟨C2, hC2⟩ : ∃ C2, grd t A2 = C2 := ⟨_, rfl⟩
    rw [hA1, hA2] at T1
    rw [hA1, hA2, hC1, hC2] at T2
    rw [hA1, hC1] at T7
    rw [hA2, hC2] at T8
    have f1 := HF.g1
    have f2 := HF.g2
    have f3 := HF.d1
    have f4 := HF.d2
    have f5 := HF.l1
    have f6 := HF.r1
    have f7 := HF.g0
    have f8 := HF.d0
    rw [hA1] at f1
    rw [hA2] at f2
    rw [hA1, hC1] at f3
    rw [hA2, hC2] at f4
    obtain ⟨f7, f7'⟩ := f7
    obtain ⟨f8, f8'⟩ := f8
    have T1 := Lib.hid T1
    have T2 := Lib.hid T2
    have T3 := Lib.hid T3
    have T4 := Lib.hid T4
    have T5 := Lib.hid T5
    have T6 := Lib.hid T6
    have T7 := Lib.hid T7
    have T8 := Lib.hid T8
    clear HF hA1 hA2 hC1 hC2
    obtain ⟨k0, k1, k2, k3, k4, k5, k6, k7⟩ := HL0.out
    go_wp2_with fail
    clear k0 k1 k2 k3 k4 k5 k6 k7 hW5
    -- T1
    refine (T1.out W5).mono ?_
    rintro e U1 ⟨rfl, gu⟩
    obtain ⟨X1, hX1⟩ : ∃ X, U1.alloc (.cells #[.int .i64 A1, .int .i64 A2] 36) = X := ⟨_, rfl⟩
    have gx : Below U1.heap.size U1 X1 := by rw [← hX1]; exact one_more _ _
    have gz := extTrans gu gx
    have R1 := Lib.hid (show RF X1 U1.heap.size ⟨A1, A2⟩ by rw [← hX1]; exact RF.box _ ⟨A1, A2⟩)
    have HL1 := Lib.hid (HL0.out.ext gz)
    have HG1 := Lib.hid (HG0.out.trans (gz.mono HG0.out.size))
    obtain ⟨k0, k1, k2, k3, k4, k5, k6, k7⟩ := HL1.out
    obtain ⟨t0, t1⟩ := R1.out
    obtain ⟨B1, hB1⟩ : ∃ B, U1.heap.size = B := ⟨_, rfl⟩
    rw [hB1] at R1 t0 t1
    clear gx gu gz
    go_wp2_with fail
    clear k0 k1 k2 k3 k4 k5 k6 k7 t0 t1 hX1 hB1
    -- T2
    refine (T2.out X1).mono ?_
    rintro e U2 ⟨rfl, gu⟩
    obtain ⟨X2, hX2⟩ : ∃ X, U2.alloc (.cells #[.int .i64 C1, .int .i64 C2] 36) = X := ⟨_, rfl⟩
    have gx : Below U2.heap.size U2 X2 := by rw [← hX2]; exact one_more _ _
    have gz := extTrans gu gx
    have R2 := Lib.hid (show RF X2 U2.heap.size ⟨C1, C2⟩ by rw [← hX2]; exact RF.box _ ⟨C1, C2⟩)
    have HL2 := Lib.hid (HL1.out.ext gz)
    have HG2 := Lib.hid (HG1.out.trans (gz.mono HG1.out.size))
    have R1 := Lib.hid (R1.out.ext gz)
    obtain ⟨k0, k1, k2, k3, k4, k5, k6, k7⟩ := HL2.out
    obtain ⟨s10, s11⟩ := R1.out
    obtain ⟨t0, t1⟩ := R2.out
    obtain ⟨B2, hB2⟩ : ∃ B, U2.heap.size = B := ⟨_, rfl⟩
    rw [hB2] at R2 t0 t1
    clear gx gu gz
    go_wp2_with fail
    clear k0 k1 k2 k3 k4 k5 k6 k7 t0 t1 hX2 hB2 s10 s11
    -- T3
    refine (T3.out X2).mono ?_
    rintro e U3 ⟨rfl, gu⟩
    obtain ⟨X3, hX3⟩ : ∃ X, U3.alloc (.cells #[.int .i64 GG, .int .i64 GG] 36) = X := ⟨_, rfl⟩
    have gx : Below U3.heap.size U3 X3 := by rw [← hX3]; exact one_more _ _
    have gz := extTrans gu gx
    have R3 := Lib.hid (show RF X3 U3.heap.size ⟨GG, GG⟩ by rw [← hX3]; exact RF.box _ ⟨GG, GG⟩)
    have HL3 := Lib.hid (HL2.out.ext gz)
    have HG3 := Lib.hid (HG2.out.trans (gz.mono HG2.out.size))
    have R1 := Lib.hid (R1.out.ext gz)
    have R2 := Lib.hid (R2.out.ext gz)
    obtain ⟨k0, k1, k2, k3, k4, k5, k6, k7⟩ := HL3.out
    obtain ⟨s10, s11⟩ := R1.out
    obtain ⟨s20, s21⟩ := R2.out
    obtain ⟨t0, t1⟩ := R3.out
    obtain ⟨B3, hB3⟩ : ∃ B, U3.heap.size = B := ⟨_, rfl⟩
    rw [hB3] at R3 t0 t1
    clear gx gu gz
    go_wp2_with fail
    clear k0 k1 k2 k3 k4 k5 k6 k7 t0 t1 hX3 hB3 s10 s11 s20 s21
    -- T4
    refine (T4.out X3).mono ?_
    rintro e U4 ⟨rfl, gu⟩
    obtain ⟨X4, hX4⟩ : ∃ X, U4.alloc (.cells #[.int .i64 D, .int .i64 D] 36) = X := ⟨_, rfl⟩
    have gx : Below U4.heap.size U4 X4 := by rw [← hX4]; exact one_more _ _
    have gz := extTrans gu gx
    have R4 := Lib.hid (show RF X4 U4.heap.size ⟨D, D⟩ by rw [← hX4]; exact RF.box _ ⟨D, D⟩)
    have HL4 := Lib.hid (HL3.out.ext gz)
    have HG4 := Lib.hid (HG3.out.trans (gz.mono HG3.out.size))
    have R1 := Lib.hid (R1.out.ext gz)
    have R2 := Lib.hid (R2.out.ext gz)
    have R3 := Lib.hid (R3.out.ext gz)
    obtain ⟨k0, k1, k2, k3, k4, k5, k6, k7⟩ := HL4.out
    obtain ⟨s10, s11⟩ := R1.out
    obtain ⟨s20, s21⟩ := R2.out
    obtain ⟨s30, s31⟩ := R3.out
    obtain ⟨t0, t1⟩ := R4.out
    obtain ⟨B4, hB4⟩ : ∃ B, U4.heap.size = B := ⟨_, rfl⟩
    rw [hB4] at R4 t0 t1
    clear gx gu gz
    go_wp2_with fail
    clear k0 k1 k2 k3 k4 k5 k6 k7 t0 t1 hX4 hB4 s10 s11 s20 s21 s30 s31
    -- T5
    refine (T5.out X4).mono ?_
    rintro e U5 ⟨rfl, gu⟩
    have gz := gu
    have HL5 := Lib.hid (HL4.out.ext gz)
    have HG5 := Lib.hid (HG4.out.trans (gz.mono HG4.out.size))
    have R1 := Lib.hid (R1.out.ext gz)
    have R2 := Lib.hid (R2.out.ext gz)
    have R3 := Lib.hid (R3.out.ext gz)
    have R4 := Lib.hid (R4.out.ext gz)
    obtain ⟨k0, k1, k2, k3, k4, k5, k6, k7⟩ := HL5.out
    obtain ⟨s10, s11⟩ := R1.out
    obtain ⟨s20, s21⟩ := R2.out
    obtain ⟨s30, s31⟩ := R3.out
    obtain ⟨s40, s41⟩ := R4.out
    clear gz gu
    go_wp2_with fail
    clear k0 k1 k2 k3 k4 k5 k6 k7 s10 s11 s20 s21 s30 s31 s40 s41
    -- T6
    refine (T6.out U5).mono ?_
    rintro e U6 ⟨rfl, gu⟩
    obtain ⟨X6, hX6⟩ : ∃ X, U6.alloc (.cells #[.int .i64 L, .int .i64 R] 36) = X := ⟨_, rfl⟩
    obtain ⟨X7, hX7⟩ : ∃ X, X6.alloc (.cells #[.int .i64 q0, .int .i64 q0, .int .i64 t] 38) = X := ⟨_, rfl⟩
    obtain ⟨X8, hX8⟩ : ∃ X, X7.alloc (.cells #[.int .i64 h, .int .i64 h, .int .i64 t] 38) = X := ⟨_, rfl⟩
    have gx : Below U6.heap.size U6 X6 := by rw [← hX6]; exact one_more _ _
    have gy : Below X6.heap.size X6 X7 := by rw [← hX7]; exact one_more _ _
    have gw : Below X7.heap.size X7 X8 := by rw [← hX8]; exact one_more _ _
    have R6 := Lib.hid (show RF X6 U6.heap.size ⟨L, R⟩ by rw [← hX6]; exact RF.box _ ⟨L, R⟩)
    have hlo : Blk X7 X6.heap.size 38 #[.int .i64 q0, .int .i64 q0, .int .i64 t] := by rw [← hX7]; exact Blk.new _ _ _
    have hhi : Blk X8 X7.heap.size 38 #[.int .i64 h, .int .i64 h, .int .i64 t] := by rw [← hX8]; exact Blk.new _ _ _
    have hlo8 := hlo.ext gw
    have gz6 := extTrans gu gx
    have gz7 := extTrans gz6 gy
    have gz := extTrans gz7 gw
    have HL6 := HL5.out.ext gz6
    have HL7 := HL5.out.ext gz7
    have HL8 := Lib.hid (HL5.out.ext gz)
    have HG8 := Lib.hid (HG5.out.trans (gz.mono HG5.out.size))
    obtain ⟨s60, s61⟩ := R6.out
    obtain ⟨s10, s11⟩ := R1.out.ext gz6
    obtain ⟨s20, s21⟩ := R2.out.ext gz6
    obtain ⟨s30, s31⟩ := R3.out.ext gz6
    obtain ⟨s40, s41⟩ := R4.out.ext gz6
    have R1 := Lib.hid (R1.out.ext gz)
    have R2 := Lib.hid (R2.out.ext gz)
    have R3 := Lib.hid (R3.out.ext gz)
    have R4 := Lib.hid (R4.out.ext gz)
    have R6 := Lib.hid (R6.out.ext (extTrans gy gw))
    obtain ⟨k0, k1, k2, k3, k4, k5, k6, k7⟩ := HL6
    obtain ⟨l0, l1, l2, l3, l4, l5, l6, l7⟩ := HL7
    obtain ⟨p0, p1, p2, p3, p4, p5, p6, p7⟩ := HL8.out
    obtain ⟨B6, hB6⟩ : ∃ B, U6.heap.size = B := ⟨_, rfl⟩
    obtain ⟨B7, hB7⟩ : ∃ B, X6.heap.size = B := ⟨_, rfl⟩
    obtain ⟨B8, hB8⟩ : ∃ B, X7.heap.size = B := ⟨_, rfl⟩
    rw [hB6] at R6 s60 s61
    rw [hB7] at hlo hlo8
    rw [hB8] at hhi
    have o0 := hlo8.cell 0
    have o1 := hlo8.cell 1
    have o2 := hlo8.cell 2
    have HHI := Lib.hid hhi
    clear gx gy gw gu gz gz6 gz7 hlo hhi hlo8
    go_wp2_with fail
    clear k0 k1 k2 k3 k4 k5 k6 k7 l0 l1 l2 l3 l4 l5 l6 l7 p0 p1 p2 p3 p4 p5 p6 p7 o0 o1 o2 s60 s61 hX6 hX7 hX8 hB6 hB7 hB8 s10 s11 s20 s21 s30 s31 s40 s41
    -- T7
    refine (T7.out X8).mono ?_
    rintro e U9 ⟨rfl, gu⟩
    obtain ⟨X9, hX9⟩ : ∃ X, U9.alloc (.cells #[.int .i64 C1, .int .i64 C1] 36) = X := ⟨_, rfl⟩
    have gx : Below U9.heap.size U9 X9 := by rw [← hX9]; exact one_more _ _
    have gz := extTrans gu gx
    have R9 := Lib.hid (show RF X9 U9.heap.size ⟨C1, C1⟩ by rw [← hX9]; exact RF.box _ ⟨C1, C1⟩)
    have HL9 := Lib.hid (HL8.out.ext gz)
    have HG9 := Lib.hid (HG8.out.trans (gz.mono HG8.out.size))
    have R2 := Lib.hid (R2.out.ext gz)
    have hhi := HHI.out.ext gz
    obtain ⟨k0, k1, k2, k3, k4, k5, k6, k7⟩ := HL9.out
    have o0 := hhi.cell 0
    have o1 := hhi.cell 1
    have o2 := hhi.cell 2
    obtain ⟨B9, hB9⟩ : ∃ B, U9.heap.size = B := ⟨_, rfl⟩
    rw [hB9] at R9
    clear gx gu gz hhi
    go_wp2_with fail
    clear k0 k1 k2 k3 k4 k5 k6 k7 o0 o1 o2 hX9 hB9
    -- T8
    refine (T8.out X9).mono ?_
    rintro e U10 ⟨rfl, gu⟩
    obtain ⟨X10, hX10⟩ : ∃ X, U10.alloc (.cells #[.int .i64 C2, .int .i64 C2] 36) = X := ⟨_, rfl⟩
    have gx : Below U10.heap.size U10 X10 := by rw [← hX10]; exact one_more _ _
    have gz := extTrans gu gx
    have R10 := Lib.hid (show RF X10 U10.heap.size ⟨C2, C2⟩ by rw [← hX10]; exact RF.box _ ⟨C2, C2⟩)
    have HG10 := Lib.hid (HG9.out.trans (gz.mono HG9.out.size))
    obtain ⟨s20, s21⟩ := R2.out.ext gz
    obtain ⟨s90, s91⟩ := R9.out.ext gz
    obtain ⟨B10, hB10⟩ : ∃ B, U10.heap.size = B := ⟨_, rfl⟩
    rw [hB10] at R10
    obtain ⟨s100, s101⟩ := R10.out
    clear gx gu gz
    go_wp2_with (first | (go_at_call 21; refine (sane_any _).mono ?_; rintro e UZ ⟨rfl, gz⟩; have GZ := Lib.hid (HG10.out.trans (gz.mono HG10.out.size)); clear gz))
    go_ret
    exact ⟨rfl, GZ.out⟩
end Go.Proofs.Ytdhhneflhmkonaa
