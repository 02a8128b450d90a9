/- The chapter's examples: sane returns true. -/
import Derived.Test.YtdhhneflhmkonaaKD
import Derived.Test.YtdhhneflhmkonaaKA

/- The examples of 'sane', reckoned. -/
namespace Go.Proofs.Ytdhhneflhmkonaa
open Go.RowKit Go.Shelf

def ex : List Comer := [⟨7, 7, 4⟩, ⟨4, 6, 1⟩, ⟨9, 28, 3⟩, ⟨2, 24, 2⟩]
theorem ex_ok : okMill 6 ex = true := by decide +kernel
theorem ex_lev : levS ex 6 = 1 := by decide +kernel
theorem ex_hours : hoursS ex 6 = [2, 1, 1, 1] := by decide +kernel
theorem ex_demE : demE ex 6 [2, 1, 2, 1] = 0 := by decide +kernel
theorem ex_serves : servesS ex 6 [2, 1, 2, 1] = false := by decide +kernel
theorem ex_comesE : comesE ex 6 9 3 = 0 := by decide +kernel
theorem ex_comes : comesS ex 6 9 3 = 2 := by decide +kernel
theorem ex_idle : idleS ex 6 = [5] := by decide +kernel
theorem ex_movedE : movedE ex 6 2 = 0 := by decide +kernel
theorem ex_movedL : movedL ex 6 2 = [9] := by decide +kernel
theorem ex_moved : movedS ex 6 2 = [9] := by
  unfold movedS; rw [ex_movedE, ex_movedL]; simp [srt]
theorem ex_share : shareE ex 6 [7, 4, 9, 2, 2, 0] = 53 := by decide +kernel
theorem ex_bunE : bunE ⟨40, 60, 16⟩ ⟨4, 4⟩ = 0 := by decide +kernel
theorem ex_bunV : bunV ⟨40, 60, 16⟩ ⟨4, 4⟩ = ⟨7, 12⟩ := by decide +kernel
end Go.Proofs.Ytdhhneflhmkonaa

/- The law's 'sane': the chapter's examples are so. -/
namespace Go.Proofs.Ytdhhneflhmkonaa
open Go.RowKit Go.Shelf

theorem ex_arr {w : World} {b : Nat} (h : Blk w b 53 #[.int .i64 7, .int .i64 7, .int .i64 4, .int .i64 4, .int .i64 6, .int .i64 1, .int .i64 9, .int .i64 28, .int .i64 3, .int .i64 2, .int .i64 24, .int .i64 2]) :
    Arr ccells 3 w (some ⟨b, 0, none⟩) 4 ex := by
  refine ⟨rfl, fun _ => ⟨b, 0, rfl, h.lt, fun k x hx j u hu => ?_⟩⟩
  have hj : j < 3 := by
    rcases Nat.lt_or_ge j 3 with h | h
    · exact h
    · rw [List.getElem?_eq_none (by rw [ccells_len]; exact h)] at hu; cases hu
  rw [h.cell]
  have e : (ex.flatMap ccells)[k * 3 + j]? = some u := by rw [flat_get ccells_len _ _ _ hj, hx]; exact hu
  rw [show 0 + k * 3 + j = k * 3 + j by omega, ← e]
  simp [ex, ccells]

set_option maxRecDepth 100000 in
theorem example_any (w : World) :
    Calls Try.prog 80 #[] w fun e w' => (∃ b, e = .returned (mv (some ⟨b, 0, none⟩) 4 4 6) ∧ Arr ccells 3 w' (some ⟨b, 0, none⟩) 4 ex) ∧ Below w.heap.size w w' := by
  go_enter Try.func80, Try.ntmps80
  go_wp2_with fail
  have hb : Blk ((w.alloc (.cells #[.int .i64 6, .slice (some ⟨w.heap.size + 1, 0, none⟩) 4 4] 24)).alloc (.cells #[.int .i64 7, .int .i64 7, .int .i64 4, .int .i64 4, .int .i64 6, .int .i64 1, .int .i64 9, .int .i64 28, .int .i64 3, .int .i64 2, .int .i64 24, .int .i64 2] 53)) (w.heap.size + 1) 53 #[.int .i64 7, .int .i64 7, .int .i64 4, .int .i64 4, .int .i64 6, .int .i64 1, .int .i64 9, .int .i64 28, .int .i64 3, .int .i64 2, .int .i64 24, .int .i64 2] := by
    have := Blk.new (w.alloc (.cells #[.int .i64 6, .slice (some ⟨w.heap.size + 1, 0, none⟩) 4 4] 24)) 53 #[.int .i64 7, .int .i64 7, .int .i64 4, .int .i64 4, .int .i64 6, .int .i64 1, .int .i64 9, .int .i64 28, .int .i64 3, .int .i64 2, .int .i64 24, .int .i64 2]
    rwa [World.size_alloc] at this
  have hr : Blk ((w.alloc (.cells #[.int .i64 6, .slice (some ⟨w.heap.size + 1, 0, none⟩) 4 4] 24)).alloc (.cells #[.int .i64 7, .int .i64 7, .int .i64 4, .int .i64 4, .int .i64 6, .int .i64 1, .int .i64 9, .int .i64 28, .int .i64 3, .int .i64 2, .int .i64 24, .int .i64 2] 53)) w.heap.size 24 #[.int .i64 6, .slice (some ⟨w.heap.size + 1, 0, none⟩) 4 4] := (Blk.new w 24 #[.int .i64 6, .slice (some ⟨w.heap.size + 1, 0, none⟩) 4 4]).alloc _
  have r0 := hr.cell 0
  have r1 := hr.cell 1
  refine bodyPost_ret (v := mv (some ⟨w.heap.size + 1, 0, none⟩) 4 4 6) ?_ rfl ⟨⟨w.heap.size + 1, rfl, ex_arr hb⟩, two_more _ _ _⟩
  unfold mv
  simp [results, Try.results80, go_sem]

theorem keep {W W' : World} (g : Below W.heap.size W W') {p : Addr} {v : Value} (h : W.cell? p = some v) : W'.cell? p = some v := (g.cell (World.block_lt_of_cell? W p h)).trans h

/-- What stands while the examples are reckoned. -/
structure SF (W : World) (bm b : Nat) : Prop where
  m0 : W.cell? ⟨bm, 0, none⟩ = some (.int .i64 6)
  m1 : W.cell? ⟨bm, 1, none⟩ = some (.slice (some ⟨b, 0, none⟩) 4 4)
  y0 : W.cell? ⟨bm + 1, 0, none⟩ = some (.int .i64 40)
  y1 : W.cell? ⟨bm + 1, 1, none⟩ = some (.int .i64 60)
  y2 : W.cell? ⟨bm + 1, 2, none⟩ = some (.int .i64 16)
  arr : Arr ccells 3 W (some ⟨b, 0, none⟩) 4 ex
theorem SF.ext {W W' : World} {bm b : Nat} (h : SF W bm b) (g : Below W.heap.size W W') : SF W' bm b := ⟨keep g h.m0, keep g h.m1, keep g h.y0, keep g h.y1, keep g h.y2, h.arr.below g⟩
theorem one_more (w : World) (o : Obj) : Below w.heap.size w (w.alloc o) := (Below.refl _ _).alloc (Nat.le_refl _) o
theorem mv_eq (A : Option Addr) (n cc : Nat) (H : Int) : Value.agg #[.int .i64 H, .slice A n cc] = mv A n cc H := rfl

set_option maxRecDepth 100000 in
set_option maxHeartbeats 4000000 in
theorem sane_any (w : World) : Calls Try.prog 21 #[] w fun e w' => e = .returned (.bool true) ∧ Below w.heap.size w w' := by
  go_enter Try.func21, Try.ntmps21
  go_wp2_with fail
  refine (example_any w).mono ?_
  rintro e W0 ⟨⟨b, rfl, ha⟩, g0⟩
  have HA0 := Lib.hid ha
  have HG0 := Lib.hid g0
  clear ha g0
  unfold mv
  go_wp2_with fail
  generalize hWa : W0.alloc (.cells #[.int .i64 6, .slice (some ⟨b, 0, none⟩) 4 4] 24) = Wa
  obtain ⟨ga, a0, a1⟩ := box2 hWa
  have sa := boxSize hWa
  generalize hW1 : Wa.alloc (.cells #[.int .i64 40, .int .i64 60, .int .i64 16] 38) = W1
  obtain ⟨gb, b0, b1, b2⟩ := box3 hW1
  rw [sa] at b0 b1 b2
  have S1 : SF W1 W0.heap.size b := ⟨keep gb a0, keep gb a1, b0, b1, b2, HA0.out.below (extTrans ga gb)⟩
  have HG1 := Lib.hid (HG0.out.trans ((extTrans ga gb).mono HG0.out.size))
  obtain ⟨bm, hbm⟩ : ∃ bm, W0.heap.size = bm := ⟨_, rfl⟩
  rw [hbm] at S1 ⊢
  clear hWa ga a0 a1 sa hW1 gb b0 b1 b2 hbm
  have HS1 := Lib.hid S1
  clear S1
  -- Threshed
  refine (Threshed_any ⟨40, 60, 16⟩ ⟨10, 35⟩ W1).mono ?_
  rw [show ThreshedV ⟨40, 60, 16⟩ ⟨10, 35⟩ = ⟨4, 21⟩ by decide +kernel, show askedE ⟨40, 60, 16⟩ ⟨10, 35⟩ 2000 = 0 by decide +kernel]
  rintro e W2 ⟨rfl, g2⟩
  obtain ⟨W3, hW3⟩ : ∃ W3, W2.alloc (.cells #[.int .i64 4, .int .i64 21] 36) = W3 := ⟨_, rfl⟩
  obtain ⟨g3, x30, x31⟩ := box2 hW3
  have HS3 := Lib.hid (HS1.out.ext (extTrans g2 g3))
  have HG3 := Lib.hid (HG1.out.trans ((extTrans g2 g3).mono HG1.out.size))
  have X30 := Lib.hid x30
  have X31 := Lib.hid x31
  obtain ⟨ba, hba⟩ : ∃ ba, W2.heap.size = ba := ⟨_, rfl⟩
  have y0 := HS3.out.y0
  have y1 := HS3.out.y1
  have y2 := HS3.out.y2
  rw [← hW3] at y0 y1 y2
  have HW3 := Lib.hid hW3
  clear g2 g3 x30 x31 hW3
  go_wp2_with fail
  rw [HW3.out]
  rw [hba] at X30 X31
  clear y0 y1 y2 HW3 hba
  -- Flour
  refine (Flour_any ⟨40, 60, 16⟩ ⟨40, 40⟩ W3).mono ?_
  rw [show FlourV ⟨40, 60, 16⟩ ⟨40, 40⟩ = ⟨15, 23⟩ by decide +kernel, show askedE ⟨40, 60, 16⟩ ⟨40, 40⟩ 2000 = 0 by decide +kernel]
  rintro e W4 ⟨rfl, g4⟩
  obtain ⟨W5, hW5⟩ : ∃ W5, W4.alloc (.cells #[.int .i64 15, .int .i64 23] 36) = W5 := ⟨_, rfl⟩
  obtain ⟨g5, x50, x51⟩ := box2 hW5
  have HS5 := Lib.hid (HS3.out.ext (extTrans g4 g5))
  have HG5 := Lib.hid (HG3.out.trans ((extTrans g4 g5).mono HG3.out.size))
  have X30 := Lib.hid (keep (extTrans g4 g5) X30.out)
  have X31 := Lib.hid (keep (extTrans g4 g5) X31.out)
  have X50 := Lib.hid x50
  have X51 := Lib.hid x51
  obtain ⟨bb, hbb⟩ : ∃ bb, W4.heap.size = bb := ⟨_, rfl⟩
  have y0 := HS5.out.y0
  have y1 := HS5.out.y1
  have y2 := HS5.out.y2
  rw [← hW5] at y0 y1 y2
  have HW5 := Lib.hid hW5
  clear g4 g5 x50 x51 hW5
  go_wp2_with fail
  rw [HW5.out]
  rw [hbb] at X50 X51
  clear y0 y1 y2 HW5 hbb
  -- Bundles
  refine (Bundles_any ⟨40, 60, 16⟩ ⟨4, 4⟩ W5).mono ?_
  rw [ex_bunV, ex_bunE]
  rintro e W6 ⟨rfl, g6⟩
  obtain ⟨W7, hW7⟩ : ∃ W7, W6.alloc (.cells #[.int .i64 7, .int .i64 12] 36) = W7 := ⟨_, rfl⟩
  obtain ⟨g7, x70, x71⟩ := box2 hW7
  have HS7 := Lib.hid (HS5.out.ext (extTrans g6 g7))
  have HG7 := Lib.hid (HG5.out.trans ((extTrans g6 g7).mono HG5.out.size))
  have X30 := Lib.hid (keep (extTrans g6 g7) X30.out)
  have X31 := Lib.hid (keep (extTrans g6 g7) X31.out)
  have X50 := Lib.hid (keep (extTrans g6 g7) X50.out)
  have X51 := Lib.hid (keep (extTrans g6 g7) X51.out)
  have X70 := Lib.hid x70
  have X71 := Lib.hid x71
  obtain ⟨bc, hbc⟩ : ∃ bc, W6.heap.size = bc := ⟨_, rfl⟩
  have HW7 := Lib.hid hW7
  clear g6 g7 x70 x71 hW7
  go_wp2_with fail
  rw [HW7.out]
  rw [hbc] at X70 X71
  clear HW7 hbc
  -- Wants
  refine (Wants_any 25 8 W7).mono ?_
  rw [show WantsV 25 8 = 4 by decide +kernel, show err (wantsOk 25 8) 58 = 0 by decide +kernel]
  rintro e W8 ⟨rfl, g8⟩
  have HS8 := Lib.hid (HS7.out.ext g8)
  have HG8 := Lib.hid (HG7.out.trans (g8.mono HG7.out.size))
  have X30 := Lib.hid (keep g8 X30.out)
  have X31 := Lib.hid (keep g8 X31.out)
  have X50 := Lib.hid (keep g8 X50.out)
  have X51 := Lib.hid (keep g8 X51.out)
  have X70 := Lib.hid (keep g8 X70.out)
  have X71 := Lib.hid (keep g8 X71.out)
  have m0 := HS8.out.m0
  have m1 := HS8.out.m1
  clear g8
  go_wp2_with fail
  clear m0 m1
  -- Level
  refine (Level_any (some ⟨b, 0, none⟩) 4 4 6 ex W8 HS8.out.arr (by omega) (by omega)).mono ?_
  rw [ex_lev, ex_ok]
  rintro e W9 ⟨rfl, g9⟩
  have HS9 := Lib.hid (HS8.out.ext g9)
  have HG9 := Lib.hid (HG8.out.trans (g9.mono HG8.out.size))
  have X30 := Lib.hid (keep g9 X30.out)
  have X31 := Lib.hid (keep g9 X31.out)
  have X50 := Lib.hid (keep g9 X50.out)
  have X51 := Lib.hid (keep g9 X51.out)
  have X70 := Lib.hid (keep g9 X70.out)
  have X71 := Lib.hid (keep g9 X71.out)
  have m0 := HS9.out.m0
  have m1 := HS9.out.m1
  clear g9
  rw [show err true 52 = 0 from rfl]
  go_wp2_with fail
  clear m0 m1
  -- Hours
  refine (Hours_any (some ⟨b, 0, none⟩) 4 4 6 ex W9 HS9.out.arr (by omega) (by omega)).mono ?_
  rw [show (hoursS ex 6).length = 4 by rw [ex_hours]; rfl, ex_hours, ex_ok, show err true 52 = 0 from rfl]
  rintro e W10 ⟨⟨DH, cH, rfl, hiH⟩, g10⟩
  have HH := Lib.hid hiH
  have HS10 := Lib.hid (HS9.out.ext g10)
  have HG10 := Lib.hid (HG9.out.trans (g10.mono HG9.out.size))
  have X30 := Lib.hid (keep g10 X30.out)
  have X31 := Lib.hid (keep g10 X31.out)
  have X50 := Lib.hid (keep g10 X50.out)
  have X51 := Lib.hid (keep g10 X51.out)
  have X70 := Lib.hid (keep g10 X70.out)
  have X71 := Lib.hid (keep g10 X71.out)
  have m0 := HS10.out.m0
  have m1 := HS10.out.m1
  clear g10 hiH
  go_wp2_with fail
  clear m0 m1
  -- Serves
  obtain ⟨W11, hW11⟩ : ∃ W11, W10.alloc (.cells #[.int .i64 2, .int .i64 1, .int .i64 2, .int .i64 1] 3) = W11 := ⟨_, rfl⟩
  have hb11 : Blk W11 W10.heap.size 3 (vals [2, 1, 2, 1]) := by rw [← hW11]; exact Blk.new _ _ _
  have g11 : Below W10.heap.size W10 W11 := by rw [← hW11]; exact one_more _ _
  have HS11 := Lib.hid (HS10.out.ext g11)
  rw [hW11]
  refine (Serves_any (some ⟨b, 0, none⟩) (some ⟨W10.heap.size, 0, none⟩) 4 4 4 4 6 ex [2, 1, 2, 1] W11 HS11.out.arr (by omega) hb11.ints (by omega) (by omega)).mono ?_
  rw [ex_serves, ex_demE]
  rintro e W12 ⟨rfl, g12a⟩
  have g12 := extTrans g11 g12a
  have HS12 := Lib.hid (HS10.out.ext g12)
  have HG12 := Lib.hid (HG10.out.trans (g12.mono HG10.out.size))
  have X30 := Lib.hid (keep g12 X30.out)
  have X31 := Lib.hid (keep g12 X31.out)
  have X50 := Lib.hid (keep g12 X50.out)
  have X51 := Lib.hid (keep g12 X51.out)
  have X70 := Lib.hid (keep g12 X70.out)
  have X71 := Lib.hid (keep g12 X71.out)
  have HH := Lib.hid (HH.out.below g12)
  have m0 := HS12.out.m0
  have m1 := HS12.out.m1
  clear g12 g12a g11 hb11 hW11
  go_wp2_with fail
  clear m0 m1
  -- Comes
  refine (Comes_any (some ⟨b, 0, none⟩) 4 4 6 9 3 ex W12 HS12.out.arr (by omega) (by omega) (by omega)).mono ?_
  rw [ex_comes, ex_comesE]
  rintro e W13 ⟨rfl, g13⟩
  have HS13 := Lib.hid (HS12.out.ext g13)
  have HG13 := Lib.hid (HG12.out.trans (g13.mono HG12.out.size))
  have X30 := Lib.hid (keep g13 X30.out)
  have X31 := Lib.hid (keep g13 X31.out)
  have X50 := Lib.hid (keep g13 X50.out)
  have X51 := Lib.hid (keep g13 X51.out)
  have X70 := Lib.hid (keep g13 X70.out)
  have X71 := Lib.hid (keep g13 X71.out)
  have HH := Lib.hid (HH.out.below g13)
  have m0 := HS13.out.m0
  have m1 := HS13.out.m1
  clear g13
  go_wp2_with fail
  clear m0 m1
  -- Idle
  refine (Idle_any (some ⟨b, 0, none⟩) 4 4 6 ex W13 HS13.out.arr (by omega) (by omega)).mono ?_
  rw [show (idleS ex 6).length = 1 by rw [ex_idle]; rfl, ex_idle, ex_ok, show err true 52 = 0 from rfl]
  rintro e W14 ⟨⟨DI, cI, rfl, hiI⟩, g14⟩
  have HI := Lib.hid hiI
  have HS14 := Lib.hid (HS13.out.ext g14)
  have HG14 := Lib.hid (HG13.out.trans (g14.mono HG13.out.size))
  have X30 := Lib.hid (keep g14 X30.out)
  have X31 := Lib.hid (keep g14 X31.out)
  have X50 := Lib.hid (keep g14 X50.out)
  have X51 := Lib.hid (keep g14 X51.out)
  have X70 := Lib.hid (keep g14 X70.out)
  have X71 := Lib.hid (keep g14 X71.out)
  have HH := Lib.hid (HH.out.below g14)
  have m0 := HS14.out.m0
  have m1 := HS14.out.m1
  clear g14 hiI
  go_wp2_with fail
  clear m0 m1
  -- Moved
  refine (Moved_any (some ⟨b, 0, none⟩) 4 4 6 2 ex W14 HS14.out.arr (by omega) (by omega)).mono ?_
  rw [show (movedS ex 6 2).length = 1 by rw [ex_moved]; rfl, ex_moved, ex_movedE]
  rintro e W15 ⟨⟨DM, cM, rfl, hiM⟩, g15⟩
  have HM := Lib.hid hiM
  have HS15 := Lib.hid (HS14.out.ext g15)
  have HG15 := Lib.hid (HG14.out.trans (g15.mono HG14.out.size))
  have X30 := Lib.hid (keep g15 X30.out)
  have X31 := Lib.hid (keep g15 X31.out)
  have X50 := Lib.hid (keep g15 X50.out)
  have X51 := Lib.hid (keep g15 X51.out)
  have X70 := Lib.hid (keep g15 X70.out)
  have X71 := Lib.hid (keep g15 X71.out)
  have HH := Lib.hid (HH.out.below g15)
  have HI := Lib.hid (HI.out.below g15)
  have x30 := X30.out
  have x31 := X31.out
  have x50 := X50.out
  have x51 := X51.out
  have x70 := X70.out
  have x71 := X71.out
  clear g15 hiM
  go_wp2_with fail
  clear x30 x31 x50 x51 x70 x71 X30 X31 X50 X51 X70 X71
  obtain ⟨V1, hV1⟩ : ∃ V1, W15.alloc (.cells #[.int .i64 2, .int .i64 1, .int .i64 1, .int .i64 1] 3) = V1 := ⟨_, rfl⟩
  have hbV : Blk V1 W15.heap.size 3 (vals [2, 1, 1, 1]) := by rw [← hV1]; exact Blk.new _ _ _
  have gV : Below W15.heap.size W15 V1 := by rw [← hV1]; exact one_more _ _
  rw [hV1]
  refine (sameInts_any DH (some ⟨W15.heap.size, 0, none⟩) 4 cH 4 4 [2, 1, 1, 1] [2, 1, 1, 1] V1 (HH.out.below gV) hbV.ints (by omega) (by omega)).mono ?_
  rw [show decide (([2, 1, 1, 1] : List Int) = [2, 1, 1, 1]) = true from decide_eq_true rfl]
  rintro e W16 ⟨rfl, gW⟩
  have gZ := extTrans gV gW
  have HS16 := Lib.hid (HS15.out.ext gZ)
  have HG16 := Lib.hid (HG15.out.trans (gZ.mono HG15.out.size))
  have HI := Lib.hid (HI.out.below gZ)
  have HM := Lib.hid (HM.out.below gZ)
  clear gZ gV gW hbV hV1
  go_wp2_with fail
  obtain ⟨V2, hV2⟩ : ∃ V2, W16.alloc (.cells #[.int .i64 5] 3) = V2 := ⟨_, rfl⟩
  have hbV : Blk V2 W16.heap.size 3 (vals [5]) := by rw [← hV2]; exact Blk.new _ _ _
  have gV : Below W16.heap.size W16 V2 := by rw [← hV2]; exact one_more _ _
  rw [hV2]
  refine (sameInts_any DI (some ⟨W16.heap.size, 0, none⟩) 1 cI 1 1 [5] [5] V2 (HI.out.below gV) hbV.ints (by omega) (by omega)).mono ?_
  rw [show decide (([5] : List Int) = [5]) = true from decide_eq_true rfl]
  rintro e W17 ⟨rfl, gW⟩
  have gZ := extTrans gV gW
  have HS17 := Lib.hid (HS16.out.ext gZ)
  have HG17 := Lib.hid (HG16.out.trans (gZ.mono HG16.out.size))
  have HM := Lib.hid (HM.out.below gZ)
  clear gZ gV gW hbV hV2
  go_wp2_with fail
  obtain ⟨V3, hV3⟩ : ∃ V3, W17.alloc (.cells #[.int .i64 9] 3) = V3 := ⟨_, rfl⟩
  have hbV : Blk V3 W17.heap.size 3 (vals [9]) := by rw [← hV3]; exact Blk.new _ _ _
  have gV : Below W17.heap.size W17 V3 := by rw [← hV3]; exact one_more _ _
  rw [hV3]
  refine (sameInts_any DM (some ⟨W17.heap.size, 0, none⟩) 1 cM 1 1 [9] [9] V3 (HM.out.below gV) hbV.ints (by omega) (by omega)).mono ?_
  rw [show decide (([9] : List Int) = [9]) = true from decide_eq_true rfl]
  rintro e W18 ⟨rfl, gW⟩
  have gZ := extTrans gV gW
  have HS18 := Lib.hid (HS17.out.ext gZ)
  have HG18 := Lib.hid (HG17.out.trans (gZ.mono HG17.out.size))
  have m0 := HS18.out.m0
  have m1 := HS18.out.m1
  clear gZ gV gW hbV hV3
  go_wp2_with fail
  clear m0 m1
  obtain ⟨V4, hV4⟩ : ∃ V4, W18.alloc (.cells #[.int .i64 7, .int .i64 4, .int .i64 9, .int .i64 2, .int .i64 2, .int .i64 0] 3) = V4 := ⟨_, rfl⟩
  have hbV : Blk V4 W18.heap.size 3 (vals [7, 4, 9, 2, 2, 0]) := by rw [← hV4]; exact Blk.new _ _ _
  have gV : Below W18.heap.size W18 V4 := by rw [← hV4]; exact one_more _ _
  rw [hV4]
  refine (CheckShare_any (some ⟨b, 0, none⟩) (some ⟨W18.heap.size, 0, none⟩) 4 4 6 6 6 ex [7, 4, 9, 2, 2, 0] V4 (HS18.out.ext gV).arr (by omega) hbV.ints (by omega) (by omega)).mono ?_
  rw [ex_share]
  rintro e W19 ⟨rfl, gW⟩
  have HG19 := Lib.hid (HG18.out.trans ((extTrans gV gW).mono HG18.out.size))
  clear gV gW hbV hV4
  go_wp2_with fail
  go_ret
  exact ⟨rfl, HG19.out⟩
end Go.Proofs.Ytdhhneflhmkonaa
