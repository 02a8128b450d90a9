/- The reference's yields: Threshed, Flour. -/
import Derived.Test.YtdhhneflhmkonaaR1
namespace Go.Proofs.Ytdhhneflhmkonaa
open Go.RowKit

theorem refThreshed_any (y : Yield) (r : Rng) (w : World) :
    Calls Try.prog 23 #[yv y, rv r] w fun e w' => e = .returned (.tuple #[rv (ThreshedV y r), .int .i64 (askedE y r 2000)]) ∧ Below w.heap.size w w' := by
  obtain ⟨v, hv⟩ : ∃ v, askedE y r 2000 = v := ⟨_, rfl⟩
  have hok : v = 0 → _ := fun e => askedE_ok (y := y) (r := r) (m := 2000) (hv.trans e)
  have hV : ThreshedV y r = if v = 0 then ⟨thr y.lo r.lo, thr y.hi r.hi⟩ else ⟨0, 0⟩ := by rw [← hv]; rfl
  have hvv : v = if isYield y = true then (if isRng r 2000 = true then 0 else 58) else 50 := by rw [← hv]; rfl
  have HV := Lib.hid hV
  have Hv := Lib.hid hv
  have Hok := Lib.hid hok
  have HVV := Lib.hid hvv
  clear hv hok hV hvv
  obtain ⟨iy, hiy⟩ : ∃ iy, isYield y = iy := ⟨_, rfl⟩
  obtain ⟨ir, hir⟩ : ∃ ir, isRng r 2000 = ir := ⟨_, rfl⟩
  rw [hiy, hir] at HVV
  go_enter Try.func23, Try.ntmps23
  go_wp2_with fail
  generalize hW1 : w.alloc (.cells #[.int .i64 y.lo, .int .i64 y.hi, .int .i64 y.toll] 38) = W1
  obtain ⟨g1, c0, c1, c2⟩ := box3 hW1
  rw [← boxSize hW1]
  generalize hW2 : W1.alloc (.cells #[.int .i64 r.lo, .int .i64 r.hi] 36) = W2
  obtain ⟨g2, d0, d1⟩ := box2 hW2
  rw [← boxSize hW2]
  generalize hW3 : W2.alloc (.cells #[.int .i64 0, .int .i64 0] 36) = W3
  obtain ⟨g3, r0, r1⟩ := box2 hW3
  have F : ∀ x : Wd W3, x.val.cell? ⟨w.heap.size, 0, none⟩ = some (.int .i64 y.lo) ∧ x.val.cell? ⟨w.heap.size, 1, none⟩ = some (.int .i64 y.hi) ∧ x.val.cell? ⟨w.heap.size, 2, none⟩ = some (.int .i64 y.toll) ∧
      x.val.cell? ⟨W1.heap.size, 0, none⟩ = some (.int .i64 r.lo) ∧ x.val.cell? ⟨W1.heap.size, 1, none⟩ = some (.int .i64 r.hi) ∧
      x.val.cell? ⟨W2.heap.size, 0, none⟩ = some (.int .i64 0) ∧ x.val.cell? ⟨W2.heap.size, 1, none⟩ = some (.int .i64 0) ∧ x.val.frozen? ⟨W2.heap.size, 0, none⟩ = false ∧ x.val.frozen? ⟨W2.heap.size, 1, none⟩ = false :=
    fun x => ⟨cellL (extTrans g2 g3) c0 x, cellL (extTrans g2 g3) c1 x, cellL (extTrans g2 g3) c2 x, cellL g3 d0 x, cellL g3 d1 x, cellW r0 x, cellW r1 x, frozenW r0 (boxFree hW3 0) x, frozenW r1 (boxFree hW3 1) x⟩
  have g := extTrans g1 (extTrans g2 g3)
  have Hs := Lib.hid (show w.heap.size ≤ W2.heap.size by have := g1.size; have := g2.size; omega)
  clear hW1 hW2 hW3 c0 c1 c2 d0 d1 r0 r1 g1 g2 g3
  refine (callsAt (R := fun e _ => e = .returned (.int .i64 (err iy 50))) (x := ⟨W3, Below.refl _ _⟩) (callsRet (refYield_any y W3) (by rw [hiy]))).mono ?_
  rintro e w' ⟨x, rfl, rfl⟩
  cases iy with
  | false =>
    rw [show err false 50 = 50 from rfl]
    have e : v = 50 := HVV.out
    subst e
    go_wp2_with fail
    refine bodyPost_ret (v := .tuple #[rv (ThreshedV y r), .int .i64 (askedE y r 2000)]) ?_ rfl ⟨rfl, ?_⟩
    · rw [HV.out, Hv.out]; simp [results, Try.results23, go_sem, F]
    · exact ((extTrans g x.ok).setCell (p := ⟨W2.heap.size, 0, none⟩) Hs.out _).setCell (p := ⟨W2.heap.size, 1, none⟩) Hs.out _
  | true =>
    rw [show err true 50 = 0 from rfl]
    cases ir with
    | false =>
      have e : v = 58 := HVV.out
      subst e
      go_wp2_with (first | (go_at_call 83; refine (callsAt (R := fun e _ => e = .returned (.bool false)) (callsRet (isRange_any r 2000 _) (by rw [hir]))).mono ?_; rintro e w' ⟨z, rfl, rfl⟩))
      refine bodyPost_ret (v := .tuple #[rv (ThreshedV y r), .int .i64 (askedE y r 2000)]) ?_ rfl ⟨rfl, ?_⟩
      · rw [HV.out, Hv.out]; simp [results, Try.results23, go_sem, F]
      · exact ((extTrans g z.ok).setCell (p := ⟨W2.heap.size, 0, none⟩) Hs.out _).setCell (p := ⟨W2.heap.size, 1, none⟩) Hs.out _
    | true =>
      have e : v = 0 := HVV.out
      obtain ⟨-, k1, k2, k3, k4, k5, k6, k7, k8⟩ := Hok.out e
      subst e
      obtain ⟨a1, a2, a3, a4⟩ := thr_bd (g := y.lo) (b := r.lo) k1 (by omega) k6 (by omega)
      obtain ⟨b1, b2, b3, b4⟩ := thr_bd (g := y.hi) (b := r.hi) (by omega) k3 (by omega) k8
      have hc1 : r.lo * y.lo = y.lo * r.lo := Int.mul_comm _ _
      have hc2 : r.hi * y.hi = y.hi * r.hi := Int.mul_comm _ _
      go_wp2_with (first | (go_at_call 83; refine (callsAt (R := fun e _ => e = .returned (.bool true)) (callsRet (isRange_any r 2000 _) (by rw [hir]))).mono ?_; rintro e w' ⟨z, rfl, rfl⟩))
      refine bodyPost_ret (v := .tuple #[rv (ThreshedV y r), .int .i64 (askedE y r 2000)]) ?_ rfl ⟨rfl, ?_⟩
      · rw [HV.out, Hv.out]; simp [results, Try.results23, go_sem, F, thr]
      · exact ((extTrans g z.ok).setCell (p := ⟨W2.heap.size, 0, none⟩) Hs.out _).setCell (p := ⟨W2.heap.size, 1, none⟩) Hs.out _
set_option maxRecDepth 100000 in
theorem refFlour_any (y : Yield) (r : Rng) (w : World) :
    Calls Try.prog 27 #[yv y, rv r] w fun e w' => e = .returned (.tuple #[rv (FlourV y r), .int .i64 (askedE y r 2000)]) ∧ Below w.heap.size w w' := by
  obtain ⟨v, hv⟩ : ∃ v, askedE y r 2000 = v := ⟨_, rfl⟩
  have hok : v = 0 → _ := fun e => askedE_ok (y := y) (r := r) (m := 2000) (hv.trans e)
  have hV : FlourV y r = if v = 0 then ⟨grd y.toll (thr y.lo r.lo), grd y.toll (thr y.hi r.hi)⟩ else ⟨0, 0⟩ := by rw [← hv]; rfl
  have hT : ThreshedV y r = if v = 0 then ⟨thr y.lo r.lo, thr y.hi r.hi⟩ else ⟨0, 0⟩ := by rw [← hv]; rfl
  have HV := Lib.hid hV
  have Hv := Lib.hid hv
  have Hok := Lib.hid hok
  have HT := Lib.hid hT
  clear hv hok hV hT
  go_enter Try.func27, Try.ntmps27
  go_wp2_with fail
  generalize hW1 : w.alloc (.cells #[.int .i64 y.lo, .int .i64 y.hi, .int .i64 y.toll] 38) = W1
  obtain ⟨g1, c0, c1, c2⟩ := box3 hW1
  rw [← boxSize hW1]
  generalize hW2 : W1.alloc (.cells #[.int .i64 r.lo, .int .i64 r.hi] 36) = W2
  obtain ⟨g2, d0, d1⟩ := box2 hW2
  rw [← boxSize hW2]
  generalize hW3 : W2.alloc (.cells #[.int .i64 0, .int .i64 0] 36) = W3
  obtain ⟨g3, r0, r1⟩ := box2 hW3
  have F : ∀ x : Wd W3, x.val.cell? ⟨w.heap.size, 0, none⟩ = some (.int .i64 y.lo) ∧ x.val.cell? ⟨w.heap.size, 1, none⟩ = some (.int .i64 y.hi) ∧ x.val.cell? ⟨w.heap.size, 2, none⟩ = some (.int .i64 y.toll) ∧
      x.val.cell? ⟨W1.heap.size, 0, none⟩ = some (.int .i64 r.lo) ∧ x.val.cell? ⟨W1.heap.size, 1, none⟩ = some (.int .i64 r.hi) ∧
      x.val.cell? ⟨W2.heap.size, 0, none⟩ = some (.int .i64 0) ∧ x.val.cell? ⟨W2.heap.size, 1, none⟩ = some (.int .i64 0) ∧ x.val.frozen? ⟨W2.heap.size, 0, none⟩ = false ∧ x.val.frozen? ⟨W2.heap.size, 1, none⟩ = false :=
    fun x => ⟨cellL (extTrans g2 g3) c0 x, cellL (extTrans g2 g3) c1 x, cellL (extTrans g2 g3) c2 x, cellL g3 d0 x, cellL g3 d1 x, cellW r0 x, cellW r1 x, frozenW r0 (boxFree hW3 0) x, frozenW r1 (boxFree hW3 1) x⟩
  have g := extTrans g1 (extTrans g2 g3)
  have Hs := Lib.hid (show w.heap.size ≤ W2.heap.size by have := g1.size; have := g2.size; omega)
  clear hW1 hW2 hW3 c0 c1 c2 d0 d1 r0 r1 g1 g2 g3
  refine (callsAt (R := fun e _ => e = .returned (.tuple #[rv (ThreshedV y r), .int .i64 v])) (x := ⟨W3, Below.refl _ _⟩) (callsRet (refThreshed_any y r W3) (by rw [Hv.out]))).mono ?_
  rintro e w' ⟨x, rfl, rfl⟩
  obtain ⟨th, hth⟩ : ∃ th, ThreshedV y r = th := ⟨_, rfl⟩
  rw [hth]
  have FA := fun o => F ⟨x.val.alloc o, x.ok.alloc x.size o⟩
  dsimp only at FA
  by_cases h0 : v = 0
  · obtain ⟨-, k1, k2, k3, k4, k5, k6, k7, k8⟩ := Hok.out h0
    subst h0
    have C1 := fun W => refGround_any y r.lo y.lo W k1 (by omega) k6 (by omega) k4
    have C2 := fun W => refGround_any y r.hi y.hi W (by omega) k3 (by omega) k8 k4
    have HC1 := Lib.hid C1
    have HC2 := Lib.hid C2
    clear C1 C2
    go_wp2_with fail
    obtain ⟨z, hz⟩ := x.alloc (.cells #[.int .i64 th.lo, .int .i64 th.hi] 36)
    rw [hz]
    clear FA hz
    have F2 : ∀ u : Wd z.val, _ := fun u => F ⟨u.val, extTrans z.ok u.ok⟩
    dsimp only at F2
    refine wp_region_calm_tail z.val 15 (by kernel_rfl) (by kernel_rfl) (Below.refl _ _) ?_
    simp only [List.take_succ_cons, List.take_zero, List.drop_succ_cons, List.drop_zero]
    repeat (go_big_quiet_step (first | (go_at_call 85; with_reducible exact callsCalm (HC1.out _)) | (go_at_call 85; with_reducible exact callsCalm (HC2.out _))))
    refine wpQuiet_nil ?_
    rintro _ ⟨u, rfl⟩
    have F3 := F2 u
    have HG := Lib.hid (extTrans g (extTrans z.ok u.ok))
    go_wp2_with fail
    refine bodyPost_ret (v := .tuple #[rv (FlourV y r), .int .i64 (askedE y r 2000)]) ?_ rfl ⟨rfl, ?_⟩
    · rw [HV.out, Hv.out]; simp [results, Try.results27, go_sem, F3]
    · exact (HG.out.setCell (p := ⟨W2.heap.size, 0, none⟩) Hs.out _).setCell (p := ⟨W2.heap.size, 1, none⟩) Hs.out _
  · have h0' : (v != 0) = true := by simpa using h0
    have Hne := Lib.hid h0
    clear h0
    go_wp2_with fail
    refine bodyPost_ret (v := .tuple #[rv (FlourV y r), .int .i64 (askedE y r 2000)]) ?_ rfl ⟨rfl, ?_⟩
    · rw [HV.out, Hv.out, if_neg Hne.out]; simp [results, Try.results27, go_sem, FA]
    · exact ((extTrans g (x.ok.alloc x.size _)).setCell (p := ⟨W2.heap.size, 0, none⟩) Hs.out _).setCell (p := ⟨W2.heap.size, 1, none⟩) Hs.out _
end Go.Proofs.Ytdhhneflhmkonaa
