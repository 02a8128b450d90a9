/- The law MillYields. -/
import Derived.Test.YtdhhneflhmkonaaR4
import Derived.Test.YtdhhneflhmkonaaS2
namespace Go.Proofs.Ytdhhneflhmkonaa
open Go.RowKit

/-- The yield, and the corn. -/
structure LF (W : World) (b0 b1 : Nat) (y : Yield) (p q : Rng) (m n : Int) : Prop where
  y0 : W.cell? ⟨b0, 0, none⟩ = some (.int .i64 y.lo)
  y1 : W.cell? ⟨b0, 1, none⟩ = some (.int .i64 y.hi)
  y2 : W.cell? ⟨b0, 2, none⟩ = some (.int .i64 y.toll)
  p0 : W.cell? ⟨b1, 0, none⟩ = some (.int .i64 p.lo)
  p1 : W.cell? ⟨b1, 1, none⟩ = some (.int .i64 p.hi)
  q0 : W.cell? ⟨b1, 2, none⟩ = some (.int .i64 q.lo)
  q1 : W.cell? ⟨b1, 3, none⟩ = some (.int .i64 q.hi)
  m0 : W.cell? ⟨b1, 4, none⟩ = some (.int .i64 m)
  n0 : W.cell? ⟨b1, 5, none⟩ = some (.int .i64 n)
theorem LF.ext {W W' : World} {b0 b1 : Nat} {y : Yield} {p q : Rng} {m n : Int} (h : LF W b0 b1 y p q m n) (g : Below W.heap.size W W') : LF W' b0 b1 y p q m n :=
  ⟨keep g h.y0, keep g h.y1, keep g h.y2, keep g h.p0, keep g h.p1, keep g h.q0, keep g h.q1, keep g h.m0, keep g h.n0⟩
/-- A range that was kept. -/
def RF (W : World) (b : Nat) (r : Rng) : Prop := W.cell? ⟨b, 0, none⟩ = some (.int .i64 r.lo) ∧ W.cell? ⟨b, 1, none⟩ = some (.int .i64 r.hi)
theorem RF.ext {W W' : World} {b : Nat} {r : Rng} (h : RF W b r) (g : Below W.heap.size W W') : RF W' b r := ⟨keep g h.1, keep g h.2⟩
theorem RF.box (W : World) (r : Rng) : RF (W.alloc (.cells #[.int .i64 r.lo, .int .i64 r.hi] 36)) W.heap.size r := by constructor <;> simp [go_sem]

def cornv (p q : Rng) (m n : Int) : Value := .agg #[.int .i64 p.lo, .int .i64 p.hi, .int .i64 q.lo, .int .i64 q.hi, .int .i64 m, .int .i64 n]

set_option maxRecDepth 100000 in
set_option maxHeartbeats 4000000 in
theorem law4_any (y : Yield) (p q : Rng) (m n : Int) (w : World) :
    Calls Try.prog 4 #[yv y, cornv p q m n] w fun e w' => e = .returned (.bool true) ∧ Below w.heap.size w w' := by
  unfold cornv
  go_enter Try.func4, Try.ntmps4
  go_wp2_with fail
  generalize hWa : w.alloc (.cells #[.int .i64 y.lo, .int .i64 y.hi, .int .i64 y.toll] 38) = Wa
  obtain ⟨ga, a0, a1, a2⟩ := box3 hWa
  rw [← boxSize hWa]
  generalize hW0 : Wa.alloc (.cells #[.int .i64 p.lo, .int .i64 p.hi, .int .i64 q.lo, .int .i64 q.hi, .int .i64 m, .int .i64 n] 40) = W0
  have gb : Below Wa.heap.size Wa W0 := by rw [← hW0]; exact one_more _ _
  have hb : Blk W0 Wa.heap.size 40 #[.int .i64 p.lo, .int .i64 p.hi, .int .i64 q.lo, .int .i64 q.hi, .int .i64 m, .int .i64 n] := by rw [← hW0]; exact Blk.new _ _ _
  have HL0 := Lib.hid (⟨keep gb a0, keep gb a1, keep gb a2, hb.cell 0, hb.cell 1, hb.cell 2, hb.cell 3, hb.cell 4, hb.cell 5⟩ : LF W0 w.heap.size Wa.heap.size y p q m n)
  have HG0 := Lib.hid (extTrans ga gb)
  obtain ⟨bx, hbx⟩ : ∃ bx, Wa.heap.size = bx := ⟨_, rfl⟩
  obtain ⟨by0, hby0⟩ : ∃ by0, w.heap.size = by0 := ⟨_, rfl⟩
  rw [hbx] at HL0 ⊢
  have HBY := Lib.hid hby0
  rw [hby0] at HL0 ⊢
  clear hWa hW0 ga gb a0 a1 a2 hb hbx hby0
  -- Threshed_any y p
  refine (Threshed_any y p W0).mono ?_
  rintro e U1 ⟨rfl, gu⟩
  obtain ⟨X1, hX1⟩ : ∃ X, U1.alloc (.cells #[.int .i64 (ThreshedV y p).lo, .int .i64 (ThreshedV y p).hi] 36) = X := ⟨_, rfl⟩
  have gx : Below U1.heap.size U1 X1 := by rw [← hX1]; exact one_more _ _
  have gz := extTrans gu gx
  have R1 := Lib.hid (show RF X1 U1.heap.size (ThreshedV y p) by rw [← hX1]; exact RF.box _ _)
  have HL1 := Lib.hid (HL0.out.ext gz)
  have HG1 := Lib.hid (HG0.out.trans (gz.mono HG0.out.size))
  obtain ⟨f0, f1, f2, f3, f4, f5, f6, f7, f8⟩ := HL1.out
  rw [← hX1] at f0 f1 f2 f3 f4 f5 f6 f7 f8
  have HX1 := Lib.hid hX1
  clear hX1 gx gu gz
  obtain ⟨B1, hB1⟩ : ∃ B, U1.heap.size = B := ⟨_, rfl⟩
  go_wp2_with fail
  rw [HX1.out]
  rw [hB1] at R1
  clear hB1
  clear f0 f1 f2 f3 f4 f5 f6 f7 f8
  -- refThreshed_any y p
  refine (refThreshed_any y p X1).mono ?_
  rintro e U2 ⟨rfl, gu⟩
  obtain ⟨X2, hX2⟩ : ∃ X, U2.alloc (.cells #[.int .i64 (ThreshedV y p).lo, .int .i64 (ThreshedV y p).hi] 36) = X := ⟨_, rfl⟩
  have gx : Below U2.heap.size U2 X2 := by rw [← hX2]; exact one_more _ _
  have gz := extTrans gu gx
  have R2 := Lib.hid (show RF X2 U2.heap.size (ThreshedV y p) by rw [← hX2]; exact RF.box _ _)
  have HL2 := Lib.hid (HL1.out.ext gz)
  have HG2 := Lib.hid (HG1.out.trans (gz.mono HG1.out.size))
  have R1 := Lib.hid (R1.out.ext gz)
  obtain ⟨f0, f1, f2, f3, f4, f5, f6, f7, f8⟩ := HL2.out
  rw [← hX2] at f0 f1 f2 f3 f4 f5 f6 f7 f8
  have HX2 := Lib.hid hX2
  clear hX2 gx gu gz
  obtain ⟨B2, hB2⟩ : ∃ B, U2.heap.size = B := ⟨_, rfl⟩
  go_wp2_with fail
  rw [HX2.out]
  rw [hB2] at R2
  clear hB2
  clear f0 f1 f2 f3 f4 f5 f6 f7 f8
  -- Toll_any y m
  refine (Toll_any y m X2).mono ?_
  rintro e U3 ⟨rfl, gu⟩
  have gz := gu
  have HL3 := Lib.hid (HL2.out.ext gz)
  have HG3 := Lib.hid (HG2.out.trans (gz.mono HG2.out.size))
  have R1 := Lib.hid (R1.out.ext gz)
  have R2 := Lib.hid (R2.out.ext gz)
  obtain ⟨f0, f1, f2, f3, f4, f5, f6, f7, f8⟩ := HL3.out
  clear gu gz
  go_wp2_with fail
  clear f0 f1 f2 f3 f4 f5 f6 f7 f8
  -- refToll_any y m
  refine (refToll_any y m U3).mono ?_
  rintro e U4 ⟨rfl, gu⟩
  have gz := gu
  have HL4 := Lib.hid (HL3.out.ext gz)
  have HG4 := Lib.hid (HG3.out.trans (gz.mono HG3.out.size))
  have R1 := Lib.hid (R1.out.ext gz)
  have R2 := Lib.hid (R2.out.ext gz)
  obtain ⟨f0, f1, f2, f3, f4, f5, f6, f7, f8⟩ := HL4.out
  clear gu gz
  go_wp2_with fail
  clear f0 f1 f2 f3 f4 f5 f6 f7 f8
  -- Flour_any y p
  refine (Flour_any y p U4).mono ?_
  rintro e U5 ⟨rfl, gu⟩
  obtain ⟨X5, hX5⟩ : ∃ X, U5.alloc (.cells #[.int .i64 (FlourV y p).lo, .int .i64 (FlourV y p).hi] 36) = X := ⟨_, rfl⟩
  have gx : Below U5.heap.size U5 X5 := by rw [← hX5]; exact one_more _ _
  have gz := extTrans gu gx
  have R5 := Lib.hid (show RF X5 U5.heap.size (FlourV y p) by rw [← hX5]; exact RF.box _ _)
  have HL5 := Lib.hid (HL4.out.ext gz)
  have HG5 := Lib.hid (HG4.out.trans (gz.mono HG4.out.size))
  have R1 := Lib.hid (R1.out.ext gz)
  have R2 := Lib.hid (R2.out.ext gz)
  obtain ⟨f0, f1, f2, f3, f4, f5, f6, f7, f8⟩ := HL5.out
  rw [← hX5] at f0 f1 f2 f3 f4 f5 f6 f7 f8
  have HX5 := Lib.hid hX5
  clear hX5 gx gu gz
  obtain ⟨B5, hB5⟩ : ∃ B, U5.heap.size = B := ⟨_, rfl⟩
  go_wp2_with fail
  rw [HX5.out]
  rw [hB5] at R5
  clear hB5
  clear f0 f1 f2 f3 f4 f5 f6 f7 f8
  -- refFlour_any y p
  refine (refFlour_any y p X5).mono ?_
  rintro e U6 ⟨rfl, gu⟩
  obtain ⟨X6, hX6⟩ : ∃ X, U6.alloc (.cells #[.int .i64 (FlourV y p).lo, .int .i64 (FlourV y p).hi] 36) = X := ⟨_, rfl⟩
  have gx : Below U6.heap.size U6 X6 := by rw [← hX6]; exact one_more _ _
  have gz := extTrans gu gx
  have R6 := Lib.hid (show RF X6 U6.heap.size (FlourV y p) by rw [← hX6]; exact RF.box _ _)
  have HL6 := Lib.hid (HL5.out.ext gz)
  have HG6 := Lib.hid (HG5.out.trans (gz.mono HG5.out.size))
  have R1 := Lib.hid (R1.out.ext gz)
  have R2 := Lib.hid (R2.out.ext gz)
  have R5 := Lib.hid (R5.out.ext gz)
  obtain ⟨f0, f1, f2, f3, f4, f5, f6, f7, f8⟩ := HL6.out
  rw [← hX6] at f0 f1 f2 f3 f4 f5 f6 f7 f8
  have HX6 := Lib.hid hX6
  clear hX6 gx gu gz
  obtain ⟨B6, hB6⟩ : ∃ B, U6.heap.size = B := ⟨_, rfl⟩
  go_wp2_with fail
  rw [HX6.out]
  rw [hB6] at R6
  clear hB6
  clear f0 f1 f2 f3 f4 f5 f6 f7 f8
  -- Bundles_any y q
  refine (Bundles_any y q X6).mono ?_
  rintro e U7 ⟨rfl, gu⟩
  obtain ⟨X7, hX7⟩ : ∃ X, U7.alloc (.cells #[.int .i64 (bunV y q).lo, .int .i64 (bunV y q).hi] 36) = X := ⟨_, rfl⟩
  have gx : Below U7.heap.size U7 X7 := by rw [← hX7]; exact one_more _ _
  have gz := extTrans gu gx
  have R7 := Lib.hid (show RF X7 U7.heap.size (bunV y q) by rw [← hX7]; exact RF.box _ _)
  have HL7 := Lib.hid (HL6.out.ext gz)
  have HG7 := Lib.hid (HG6.out.trans (gz.mono HG6.out.size))
  have R1 := Lib.hid (R1.out.ext gz)
  have R2 := Lib.hid (R2.out.ext gz)
  have R5 := Lib.hid (R5.out.ext gz)
  have R6 := Lib.hid (R6.out.ext gz)
  obtain ⟨f0, f1, f2, f3, f4, f5, f6, f7, f8⟩ := HL7.out
  rw [← hX7] at f0 f1 f2 f3 f4 f5 f6 f7 f8
  have HX7 := Lib.hid hX7
  clear hX7 gx gu gz
  obtain ⟨B7, hB7⟩ : ∃ B, U7.heap.size = B := ⟨_, rfl⟩
  go_wp2_with fail
  rw [HX7.out]
  rw [hB7] at R7
  clear hB7
  clear f0 f1 f2 f3 f4 f5 f6 f7 f8
  -- refBundles_any y q
  refine (refBundles_any y q X7).mono ?_
  rintro e U8 ⟨rfl, gu⟩
  obtain ⟨X8, hX8⟩ : ∃ X, U8.alloc (.cells #[.int .i64 (bunV y q).lo, .int .i64 (bunV y q).hi] 36) = X := ⟨_, rfl⟩
  have gx : Below U8.heap.size U8 X8 := by rw [← hX8]; exact one_more _ _
  have gz := extTrans gu gx
  have R8 := Lib.hid (show RF X8 U8.heap.size (bunV y q) by rw [← hX8]; exact RF.box _ _)
  have HL8 := Lib.hid (HL7.out.ext gz)
  have HG8 := Lib.hid (HG7.out.trans (gz.mono HG7.out.size))
  have R1 := Lib.hid (R1.out.ext gz)
  have R2 := Lib.hid (R2.out.ext gz)
  have R5 := Lib.hid (R5.out.ext gz)
  have R6 := Lib.hid (R6.out.ext gz)
  have R7 := Lib.hid (R7.out.ext gz)
  obtain ⟨f0, f1, f2, f3, f4, f5, f6, f7, f8⟩ := HL8.out
  rw [← hX8] at f0 f1 f2 f3 f4 f5 f6 f7 f8
  have HX8 := Lib.hid hX8
  clear hX8 gx gu gz
  obtain ⟨B8, hB8⟩ : ∃ B, U8.heap.size = B := ⟨_, rfl⟩
  go_wp2_with fail
  rw [HX8.out]
  rw [hB8] at R8
  clear hB8
  clear f0 f1 f2 f3 f4 f5 f6 f7 f8
  -- Wants_any m n
  refine (Wants_any m n X8).mono ?_
  rintro e U9 ⟨rfl, gu⟩
  have gz := gu
  have HL9 := Lib.hid (HL8.out.ext gz)
  have HG9 := Lib.hid (HG8.out.trans (gz.mono HG8.out.size))
  have R1 := Lib.hid (R1.out.ext gz)
  have R2 := Lib.hid (R2.out.ext gz)
  have R5 := Lib.hid (R5.out.ext gz)
  have R6 := Lib.hid (R6.out.ext gz)
  have R7 := Lib.hid (R7.out.ext gz)
  have R8 := Lib.hid (R8.out.ext gz)
  obtain ⟨f0, f1, f2, f3, f4, f5, f6, f7, f8⟩ := HL9.out
  clear gu gz
  go_wp2_with fail
  clear f0 f1 f2 f3 f4 f5 f6 f7 f8
  -- refWants_any m n
  refine (refWants_any m n U9).mono ?_
  rintro e U10 ⟨rfl, gu⟩
  have gz := gu
  have HL10 := Lib.hid (HL9.out.ext gz)
  have HG10 := Lib.hid (HG9.out.trans (gz.mono HG9.out.size))
  have R1 := Lib.hid (R1.out.ext gz)
  have R2 := Lib.hid (R2.out.ext gz)
  have R5 := Lib.hid (R5.out.ext gz)
  have R6 := Lib.hid (R6.out.ext gz)
  have R7 := Lib.hid (R7.out.ext gz)
  have R8 := Lib.hid (R8.out.ext gz)
  obtain ⟨f0, f1, f2, f3, f4, f5, f6, f7, f8⟩ := HL10.out
  obtain ⟨s10, s11⟩ := R1.out
  obtain ⟨s20, s21⟩ := R2.out
  obtain ⟨s50, s51⟩ := R5.out
  obtain ⟨s60, s61⟩ := R6.out
  obtain ⟨s70, s71⟩ := R7.out
  obtain ⟨s80, s81⟩ := R8.out
  clear gu gz
  clear f0 f1 f2 f3 f4 f5 f6 f7 f8
  go_wp2_with (first | (go_at_call 21; refine (sane_any _).mono ?_; rintro e UZ ⟨rfl, gz⟩; have GZ := Lib.hid (HG10.out.trans (gz.mono HG10.out.size)); clear gz))
  go_ret
  rw [HBY.out] at *
  exact ⟨rfl, GZ.out⟩
end Go.Proofs.Ytdhhneflhmkonaa
