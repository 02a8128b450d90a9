/- The mill's yields, asked for from outside: Threshed, Flour, Toll, Wants, Bundles. -/
import Derived.Test.YtdhhneflhmkonaaW3
namespace Go.Proofs.Ytdhhneflhmkonaa
open Go.RowKit

theorem askedE_ok {y : Yield} {r : Rng} {m : Int} (h : askedE y r m = 0) : isYield y = true ∧ 0 ≤ y.lo ∧ y.lo ≤ y.hi ∧ y.hi ≤ 1000 ∧ 2 ≤ y.toll ∧ y.toll ≤ 100 ∧ 0 ≤ r.lo ∧ r.lo ≤ r.hi ∧ r.hi ≤ m := by
  unfold askedE at h
  split at h
  · rename_i hy
    split at h
    · rename_i hr
      simp [isYield, rng] at hy
      simp at hr
      refine ⟨by simp [isYield, rng]; omega, ?_⟩
      omega
    · cases h
  · cases h


def ThreshedV (y : Yield) (r : Rng) : Rng := if askedE y r 2000 = 0 then ⟨thr y.lo r.lo, thr y.hi r.hi⟩ else ⟨0, 0⟩
theorem Threshed_any (y : Yield) (r : Rng) (w : World) :
    Calls Try.prog 22 #[yv y, rv r] w fun e w' => e = .returned (.tuple #[rv (ThreshedV y r), .int .i64 (askedE y r 2000)]) ∧ Below w.heap.size w w' := by
  obtain ⟨v, hv⟩ : ∃ v, askedE y r 2000 = v := ⟨_, rfl⟩
  have hok : v = 0 → _ := fun e => askedE_ok (y := y) (r := r) (m := 2000) (hv.trans e)
  have hV : ThreshedV y r = if v = 0 then ⟨thr y.lo r.lo, thr y.hi r.hi⟩ else ⟨0, 0⟩ := by rw [← hv]; rfl
  have HV := Lib.hid hV
  have Hv := Lib.hid hv
  have Hok := Lib.hid hok
  clear hv hok hV
  go_enter Try.func22, Try.ntmps22
  go_wp2_with fail
  generalize hW1 : w.alloc (.cells #[.int .i64 y.lo, .int .i64 y.hi, .int .i64 y.toll] 38) = W1
  obtain ⟨g1, c0, c1, c2⟩ := box3 hW1
  rw [← boxSize hW1]
  generalize hW2 : W1.alloc (.cells #[.int .i64 r.lo, .int .i64 r.hi] 36) = W2
  obtain ⟨g2, d0, d1⟩ := box2 hW2
  rw [← boxSize hW2]
  generalize hW3 : W2.alloc (.cells #[.int .i64 0, .int .i64 0] 36) = W3
  obtain ⟨g3, r0, r1⟩ := box2 hW3
  have F : ∀ x : Wd W3, x.val.cell? ⟨w.heap.size, 0, none⟩ = some (.int .i64 y.lo) ∧ x.val.cell? ⟨w.heap.size, 1, none⟩ = some (.int .i64 y.hi) ∧ x.val.cell? ⟨w.heap.size, 2, none⟩ = some (.int .i64 y.toll) ∧
      x.val.cell? ⟨W1.heap.size, 0, none⟩ = some (.int .i64 r.lo) ∧ x.val.cell? ⟨W1.heap.size, 1, none⟩ = some (.int .i64 r.hi) ∧
      x.val.cell? ⟨W2.heap.size, 0, none⟩ = some (.int .i64 0) ∧ x.val.cell? ⟨W2.heap.size, 1, none⟩ = some (.int .i64 0) ∧ x.val.frozen? ⟨W2.heap.size, 0, none⟩ = false ∧ x.val.frozen? ⟨W2.heap.size, 1, none⟩ = false :=
    fun x => ⟨cellL (extTrans g2 g3) c0 x, cellL (extTrans g2 g3) c1 x, cellL (extTrans g2 g3) c2 x, cellL g3 d0 x, cellL g3 d1 x, cellW r0 x, cellW r1 x, frozenW r0 (boxFree hW3 0) x, frozenW r1 (boxFree hW3 1) x⟩
  have g := extTrans g1 (extTrans g2 g3)
  have Hs := Lib.hid (show w.heap.size ≤ W2.heap.size by have := g1.size; have := g2.size; omega)
  clear hW1 hW2 hW3 c0 c1 c2 d0 d1 r0 r1 g1 g2 g3
  refine (callsAt (R := fun e _ => e = .returned (.int .i64 v)) (x := ⟨W3, Below.refl _ _⟩) (callsRet (asked_any y r 2000 W3) (by rw [Hv.out]))).mono ?_
  rintro e w' ⟨x, rfl, rfl⟩
  by_cases h0 : v = 0
  · obtain ⟨-, k1, k2, k3, k4, k5, k6, k7, k8⟩ := Hok.out h0
    subst h0
    go_wp2_with (go_at_call 82; refine (callsAt (threshed_any y r _ (by omega) (by omega) (by omega) (by omega) (by omega) (by omega) (by omega) (by omega))).mono ?_; rintro e w' ⟨z, rfl, rfl⟩)
    refine bodyPost_ret (v := .tuple #[rv (ThreshedV y r), .int .i64 (askedE y r 2000)]) ?_ rfl ⟨rfl, ?_⟩
    · rw [HV.out, Hv.out]; simp [results, Try.results22, go_sem, F]
    · exact ((extTrans g z.ok).setCell (p := ⟨W2.heap.size, 0, none⟩) Hs.out _).setCell (p := ⟨W2.heap.size, 1, none⟩) Hs.out _
  · have h0' : (v != 0) = true := by simpa using h0
    have Hne := Lib.hid h0
    clear h0
    go_wp2_with fail
    refine bodyPost_ret (v := .tuple #[rv (ThreshedV y r), .int .i64 (askedE y r 2000)]) ?_ rfl ⟨rfl, ?_⟩
    · rw [HV.out, Hv.out, if_neg Hne.out]; simp [results, Try.results22, go_sem, F]
    · exact ((extTrans g x.ok).setCell (p := ⟨W2.heap.size, 0, none⟩) Hs.out _).setCell (p := ⟨W2.heap.size, 1, none⟩) Hs.out _

def FlourV (y : Yield) (r : Rng) : Rng := if askedE y r 2000 = 0 then ⟨grd y.toll (thr y.lo r.lo), grd y.toll (thr y.hi r.hi)⟩ else ⟨0, 0⟩
theorem Flour_any (y : Yield) (r : Rng) (w : World) :
    Calls Try.prog 26 #[yv y, rv r] w fun e w' => e = .returned (.tuple #[rv (FlourV y r), .int .i64 (askedE y r 2000)]) ∧ Below w.heap.size w w' := by
  obtain ⟨v, hv⟩ : ∃ v, askedE y r 2000 = v := ⟨_, rfl⟩
  have hok : v = 0 → _ := fun e => askedE_ok (y := y) (r := r) (m := 2000) (hv.trans e)
  have hV : FlourV y r = if v = 0 then ⟨grd y.toll (thr y.lo r.lo), grd y.toll (thr y.hi r.hi)⟩ else ⟨0, 0⟩ := by rw [← hv]; rfl
  have HV := Lib.hid hV
  have Hv := Lib.hid hv
  have Hok := Lib.hid hok
  clear hv hok hV
  go_enter Try.func26, Try.ntmps26
  go_wp2_with fail
  generalize hW1 : w.alloc (.cells #[.int .i64 y.lo, .int .i64 y.hi, .int .i64 y.toll] 38) = W1
  obtain ⟨g1, c0, c1, c2⟩ := box3 hW1
  rw [← boxSize hW1]
  generalize hW2 : W1.alloc (.cells #[.int .i64 r.lo, .int .i64 r.hi] 36) = W2
  obtain ⟨g2, d0, d1⟩ := box2 hW2
  rw [← boxSize hW2]
  generalize hW3 : W2.alloc (.cells #[.int .i64 0, .int .i64 0] 36) = W3
  obtain ⟨g3, r0, r1⟩ := box2 hW3
  have F : ∀ x : Wd W3, x.val.cell? ⟨w.heap.size, 0, none⟩ = some (.int .i64 y.lo) ∧ x.val.cell? ⟨w.heap.size, 1, none⟩ = some (.int .i64 y.hi) ∧ x.val.cell? ⟨w.heap.size, 2, none⟩ = some (.int .i64 y.toll) ∧
      x.val.cell? ⟨W1.heap.size, 0, none⟩ = some (.int .i64 r.lo) ∧ x.val.cell? ⟨W1.heap.size, 1, none⟩ = some (.int .i64 r.hi) ∧
      x.val.cell? ⟨W2.heap.size, 0, none⟩ = some (.int .i64 0) ∧ x.val.cell? ⟨W2.heap.size, 1, none⟩ = some (.int .i64 0) ∧ x.val.frozen? ⟨W2.heap.size, 0, none⟩ = false ∧ x.val.frozen? ⟨W2.heap.size, 1, none⟩ = false :=
    fun x => ⟨cellL (extTrans g2 g3) c0 x, cellL (extTrans g2 g3) c1 x, cellL (extTrans g2 g3) c2 x, cellL g3 d0 x, cellL g3 d1 x, cellW r0 x, cellW r1 x, frozenW r0 (boxFree hW3 0) x, frozenW r1 (boxFree hW3 1) x⟩
  have g := extTrans g1 (extTrans g2 g3)
  have Hs := Lib.hid (show w.heap.size ≤ W2.heap.size by have := g1.size; have := g2.size; omega)
  clear hW1 hW2 hW3 c0 c1 c2 d0 d1 r0 r1 g1 g2 g3
  refine (callsAt (R := fun e _ => e = .returned (.int .i64 v)) (x := ⟨W3, Below.refl _ _⟩) (callsRet (asked_any y r 2000 W3) (by rw [Hv.out]))).mono ?_
  rintro e w' ⟨x, rfl, rfl⟩
  by_cases h0 : v = 0
  · obtain ⟨-, k1, k2, k3, k4, k5, k6, k7, k8⟩ := Hok.out h0
    subst h0
    go_wp2_with (go_at_call 84; refine (callsAt (flour_any y r _ (by omega) (by omega) (by omega) (by omega) (by omega) (by omega) (by omega) (by omega) (by omega))).mono ?_; rintro e w' ⟨z, rfl, rfl⟩)
    refine bodyPost_ret (v := .tuple #[rv (FlourV y r), .int .i64 (askedE y r 2000)]) ?_ rfl ⟨rfl, ?_⟩
    · rw [HV.out, Hv.out]; simp [results, Try.results26, go_sem, F]
    · exact ((extTrans g z.ok).setCell (p := ⟨W2.heap.size, 0, none⟩) Hs.out _).setCell (p := ⟨W2.heap.size, 1, none⟩) Hs.out _
  · have h0' : (v != 0) = true := by simpa using h0
    have Hne := Lib.hid h0
    clear h0
    go_wp2_with fail
    refine bodyPost_ret (v := .tuple #[rv (FlourV y r), .int .i64 (askedE y r 2000)]) ?_ rfl ⟨rfl, ?_⟩
    · rw [HV.out, Hv.out, if_neg Hne.out]; simp [results, Try.results26, go_sem, F]
    · exact ((extTrans g x.ok).setCell (p := ⟨W2.heap.size, 0, none⟩) Hs.out _).setCell (p := ⟨W2.heap.size, 1, none⟩) Hs.out _

def TollV (y : Yield) (g : Int) : Int := if askedE y ⟨g, g⟩ 20000 = 0 then g / y.toll else 0
theorem Toll_any (y : Yield) (q : Int) (w : World) :
    Calls Try.prog 24 #[yv y, .int .i64 q] w fun e w' => e = .returned (.tuple #[.int .i64 (TollV y q), .int .i64 (askedE y ⟨q, q⟩ 20000)]) ∧ Below w.heap.size w w' := by
  obtain ⟨v, hv⟩ : ∃ v, askedE y ⟨q, q⟩ 20000 = v := ⟨_, rfl⟩
  have hok : v = 0 → _ := fun e => askedE_ok (y := y) (r := ⟨q, q⟩) (m := 20000) (hv.trans e)
  have hV : TollV y q = if v = 0 then q / y.toll else 0 := by rw [← hv]; rfl
  have HV := Lib.hid hV
  have Hv := Lib.hid hv
  have Hok := Lib.hid hok
  clear hv hok hV
  go_enter Try.func24, Try.ntmps24
  go_wp2_with fail
  generalize hW1 : w.alloc (.cells #[.int .i64 y.lo, .int .i64 y.hi, .int .i64 y.toll] 38) = W1
  obtain ⟨g1, c0, c1, c2⟩ := box3 hW1
  have F : ∀ x : Wd W1, x.val.cell? ⟨w.heap.size, 0, none⟩ = some (.int .i64 y.lo) ∧ x.val.cell? ⟨w.heap.size, 1, none⟩ = some (.int .i64 y.hi) ∧ x.val.cell? ⟨w.heap.size, 2, none⟩ = some (.int .i64 y.toll) :=
    fun x => ⟨cellW c0 x, cellW c1 x, cellW c2 x⟩
  clear hW1 c0 c1 c2
  refine (callsAt (R := fun e _ => e = .returned (.int .i64 v)) (x := ⟨W1, Below.refl _ _⟩) (callsRet (asked_any y ⟨q, q⟩ 20000 W1) (by rw [Hv.out]))).mono ?_
  rintro e w' ⟨x, rfl, rfl⟩
  by_cases h0 : v = 0
  · obtain ⟨-, k1, k2, k3, k4, k5, k6, k7, k8⟩ := Hok.out h0
    subst h0
    have hd : 0 ≤ q / y.toll ∧ q / y.toll ≤ q := IntWalk.tdiv_le q y.toll k6 (by omega)
    go_wp2
    go_ret2
    exact ⟨by rw [HV.out, Hv.out]; rfl, extTrans g1 x.ok⟩
  · have h0' : (v != 0) = true := by simpa using h0
    have Hne := Lib.hid h0
    clear h0
    go_wp2
    go_ret2
    exact ⟨by rw [HV.out, Hv.out, if_neg Hne.out]; rfl, extTrans g1 x.ok⟩

def wantsOk (a b : Int) : Bool := rng a 0 20000 && rng b 1 20000
def WantsV (a b : Int) : Int := if wantsOk a b then (a + b - 1) / b else 0
theorem Wants_any (a b : Int) (w : World) :
    Calls Try.prog 30 #[.int .i64 a, .int .i64 b] w fun e w' => e = .returned (.tuple #[.int .i64 (WantsV a b), .int .i64 (err (wantsOk a b) 58)]) ∧ Below w.heap.size w w' := by
  cases h1 : rng a 0 20000 <;> cases h2 : rng b 1 20000
  case true.true =>
    have HV := Lib.hid (show WantsV a b = (a + b - 1) / b by simp [WantsV, wantsOk, h1, h2])
    have HE := Lib.hid (show err (wantsOk a b) 58 = 0 by simp [err, wantsOk, h1, h2])
    have k1 : 0 ≤ a ∧ a ≤ 20000 := by simpa [rng] using h1
    have k2 : 1 ≤ b ∧ b ≤ 20000 := by simpa [rng] using h2
    obtain ⟨k1, k1'⟩ := k1
    obtain ⟨k2, k2'⟩ := k2
    have hd : 0 ≤ (a + b - 1) / b ∧ (a + b - 1) / b ≤ a + b - 1 := IntWalk.tdiv_le (a + b - 1) b (by omega) (by omega)
    go_enter Try.func30, Try.ntmps30
    go_wp2_with (go_at_call 64; refine (within_any _ _ _ _).mono ?_; rintro e w' ⟨rfl, rfl⟩)
    go_ret2
    exact ⟨by rw [HV.out, HE.out]; rfl, Below.refl _ _⟩
  all_goals
    have HV := Lib.hid (show WantsV a b = 0 by simp [WantsV, wantsOk, h1, h2])
    have HE := Lib.hid (show err (wantsOk a b) 58 = 58 by simp [err, wantsOk, h1, h2])
    go_enter Try.func30, Try.ntmps30
    go_wp2_with (go_at_call 64; refine (within_any _ _ _ _).mono ?_; rintro e w' ⟨rfl, rfl⟩)
    go_ret2
    exact ⟨by rw [HV.out, HE.out]; rfl, Below.refl _ _⟩
end Go.Proofs.Ytdhhneflhmkonaa
