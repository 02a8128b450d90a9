/- The reference's yields: In, CheckYield, isRange, Ground, Toll, Wants. -/
import Derived.Test.YtdhhneflhmkonaaKA
namespace Go.Proofs.Ytdhhneflhmkonaa
open Go.RowKit

theorem in_any (n lo hi : Int) (w : World) :
    Calls Try.prog 72 #[.int .i64 n, .int .i64 lo, .int .i64 hi] w fun e w' => e = .returned (.bool (rng n lo hi)) ∧ w = w' := by
  unfold rng
  by_cases h1 : lo ≤ n
  · go_enter Try.func72, Try.ntmps72
    go_wp2
    go_ret
    exact ⟨by simp [h1], rfl⟩
  · go_enter Try.func72, Try.ntmps72
    go_wp2
    go_ret
    exact ⟨by simp; omega, rfl⟩

theorem refYield_any (y : Yield) (w : World) :
    Calls Try.prog 50 #[yv y] w fun e w' => e = .returned (.int .i64 (err (isYield y) 50)) ∧ Below w.heap.size w w' := by
  have HG := Lib.hid (show Below w.heap.size w (w.alloc (.cells #[.int .i64 y.lo, .int .i64 y.hi, .int .i64 y.toll] 38)) from (Below.refl _ _).alloc (Nat.le_refl _) _)
  by_cases h1 : y.lo < 0
  · have HH := Lib.hid (show err (isYield y) 50 = 50 from (by have : ¬ 0 ≤ y.lo := by { omega }; simp [err, isYield, this]))
    have n1 : decide (y.lo < 0) = true := by simpa using h1
    go_enter Try.func50, Try.ntmps50
    go_wp2
    go_ret
    exact ⟨ret_int HH.out.symm, HG.out⟩
  · have n1 : decide (y.lo < 0) = false := by simpa using h1
    by_cases h2 : y.hi < y.lo
    · have HH := Lib.hid (show err (isYield y) 50 = 50 from (by have : ¬ y.lo ≤ y.hi := by { omega }; simp [err, isYield, this]))
      have n2 : decide (y.hi < y.lo) = true := by simpa using h2
      go_enter Try.func50, Try.ntmps50
      go_wp2
      go_ret
      exact ⟨ret_int HH.out.symm, HG.out⟩
    · have n2 : decide (y.hi < y.lo) = false := by simpa using h2
      by_cases h3 : 1000 < y.hi
      · have HH := Lib.hid (show err (isYield y) 50 = 50 from (by have : ¬ y.hi ≤ 1000 := by { omega }; simp [err, isYield, this]))
        have n3 : decide (1000 < y.hi) = true := by simpa using h3
        go_enter Try.func50, Try.ntmps50
        go_wp2
        go_ret
        exact ⟨ret_int HH.out.symm, HG.out⟩
      · have n3 : decide (1000 < y.hi) = false := by simpa using h3
        cases ht : rng y.toll 2 100
        · have HH := Lib.hid (show err (isYield y) 50 = 50 by simp [err, isYield, ht])
          go_enter Try.func50, Try.ntmps50
          go_wp2_with (first | (go_at_call 72; refine (in_any _ _ _ _).mono ?_; rw [ht]; rintro e w' ⟨rfl, rfl⟩))
          go_ret
          exact ⟨ret_int HH.out.symm, HG.out⟩
        · have HH := Lib.hid (show err (isYield y) 50 = 0 by
            have a1 : 0 ≤ y.lo := by omega
            have a2 : y.lo ≤ y.hi := by omega
            have a3 : y.hi ≤ 1000 := by omega
            simp [err, isYield, ht, a1, a2, a3])
          go_enter Try.func50, Try.ntmps50
          go_wp2_with (first | (go_at_call 72; refine (in_any _ _ _ _).mono ?_; rw [ht]; rintro e w' ⟨rfl, rfl⟩))
          go_ret
          exact ⟨ret_int HH.out.symm, HG.out⟩

def isRng (r : Rng) (most : Int) : Bool := decide (0 ≤ r.lo) && decide (r.lo ≤ r.hi) && decide (r.hi ≤ most)
theorem isRange_any (r : Rng) (most : Int) (w : World) :
    Calls Try.prog 83 #[rv r, .int .i64 most] w fun e w' => e = .returned (.bool (isRng r most)) ∧ Below w.heap.size w w' := by
  have HG := Lib.hid (show Below w.heap.size w (w.alloc (.cells #[.int .i64 r.lo, .int .i64 r.hi] 36)) from (Below.refl _ _).alloc (Nat.le_refl _) _)
  by_cases h1 : 0 ≤ r.lo
  · by_cases h2 : r.lo ≤ r.hi
    · have HH := Lib.hid (show isRng r most = decide (r.hi ≤ most) by simp [isRng, h1, h2])
      go_enter Try.func83, Try.ntmps83
      go_wp2
      go_ret
      exact ⟨ret_bool HH.out.symm, HG.out⟩
    · have HH := Lib.hid (show isRng r most = false by simp [isRng, h2])
      go_enter Try.func83, Try.ntmps83
      go_wp2
      go_ret
      exact ⟨ret_bool HH.out.symm, HG.out⟩
  · have HH := Lib.hid (show isRng r most = false by simp [isRng, h1])
    go_enter Try.func83, Try.ntmps83
    go_wp2
    go_ret
    exact ⟨ret_bool HH.out.symm, HG.out⟩

theorem askedE_eq (y : Yield) (r : Rng) (m : Int) : askedE y r m = if isYield y = true then (if isRng r m = true then 0 else 58) else 50 := rfl

theorem refGround_any (y : Yield) (b g : Int) (w : World) (h0 : 0 ≤ g) (h1 : g ≤ 1000) (h2 : 0 ≤ b) (h3 : b ≤ 2000) (h4 : 2 ≤ y.toll) :
    Calls Try.prog 85 #[yv y, .int .i64 b, .int .i64 g] w fun e w' => e = .returned (.int .i64 (grd y.toll (thr g b))) ∧ Below w.heap.size w w' := by
  obtain ⟨a1, a2, a3, a4⟩ := thr_bd h0 h1 h2 h3
  have hc : b * g = g * b := Int.mul_comm b g
  have hd : 0 ≤ (g * b / 100) / y.toll ∧ (g * b / 100) / y.toll ≤ g * b / 100 := IntWalk.tdiv_le (g * b / 100) y.toll a3 (by omega)
  have HF := Lib.hid (show grd y.toll (thr g b) = g * b / 100 - g * b / 100 / y.toll from rfl)
  go_enter Try.func85, Try.ntmps85
  go_wp2
  go_ret
  exact ⟨ret_int HF.out.symm, (Below.refl _ _).alloc (Nat.le_refl _) _⟩

theorem refWants_any (a b : Int) (w : World) :
    Calls Try.prog 31 #[.int .i64 a, .int .i64 b] w fun e w' => e = .returned (.tuple #[.int .i64 (WantsV a b), .int .i64 (err (wantsOk a b) 58)]) ∧ Below w.heap.size w w' := by
  cases h1 : rng a 0 20000 <;> cases h2 : rng b 1 20000
  case true.true =>
    have HV := Lib.hid (show WantsV a b = (a + b - 1) / b by simp [WantsV, wantsOk, h1, h2])
    have HE := Lib.hid (show err (wantsOk a b) 58 = 0 by simp [err, wantsOk, h1, h2])
    have k1 : 0 ≤ a ∧ a ≤ 20000 := by simpa [rng] using h1
    have k2 : 1 ≤ b ∧ b ≤ 20000 := by simpa [rng] using h2
    obtain ⟨k1, k1'⟩ := k1
    obtain ⟨k2, k2'⟩ := k2
    have hd : 0 ≤ (a + b - 1) / b ∧ (a + b - 1) / b ≤ a + b - 1 := IntWalk.tdiv_le (a + b - 1) b (by omega) (by omega)
    go_enter Try.func31, Try.ntmps31
    go_wp2_with (go_at_call 72; refine (in_any _ _ _ _).mono ?_; rintro e w' ⟨rfl, rfl⟩)
    go_ret2
    exact ⟨by rw [HV.out, HE.out]; rfl, Below.refl _ _⟩
  all_goals
    have HV := Lib.hid (show WantsV a b = 0 by simp [WantsV, wantsOk, h1, h2])
    have HE := Lib.hid (show err (wantsOk a b) 58 = 58 by simp [err, wantsOk, h1, h2])
    go_enter Try.func31, Try.ntmps31
    go_wp2_with (go_at_call 72; refine (in_any _ _ _ _).mono ?_; rintro e w' ⟨rfl, rfl⟩)
    go_ret2
    exact ⟨by rw [HV.out, HE.out]; rfl, Below.refl _ _⟩

theorem refToll_any (y : Yield) (q : Int) (w : World) :
    Calls Try.prog 25 #[yv y, .int .i64 q] w fun e w' => e = .returned (.tuple #[.int .i64 (TollV y q), .int .i64 (askedE y ⟨q, q⟩ 20000)]) ∧ Below w.heap.size w w' := by
  obtain ⟨v, hv⟩ : ∃ v, askedE y ⟨q, q⟩ 20000 = v := ⟨_, rfl⟩
  have hok : v = 0 → _ := fun e => askedE_ok (y := y) (r := ⟨q, q⟩) (m := 20000) (hv.trans e)
  have hV : TollV y q = if v = 0 then q / y.toll else 0 := by rw [← hv]; rfl
  have hvv : v = if isYield y = true then (if rng q 0 20000 = true then 0 else 58) else 50 := by
    rw [← hv, askedE_eq]
    have : isRng ⟨q, q⟩ 20000 = rng q 0 20000 := by simp [isRng, rng]
    rw [this]
  have HV := Lib.hid hV
  have Hv := Lib.hid hv
  have Hok := Lib.hid hok
  have HVV := Lib.hid hvv
  clear hv hok hV hvv
  obtain ⟨iy, hiy⟩ : ∃ iy, isYield y = iy := ⟨_, rfl⟩
  obtain ⟨ir, hir⟩ : ∃ ir, rng q 0 20000 = ir := ⟨_, rfl⟩
  rw [hiy, hir] at HVV
  go_enter Try.func25, Try.ntmps25
  go_wp2_with fail
  generalize hW1 : w.alloc (.cells #[.int .i64 y.lo, .int .i64 y.hi, .int .i64 y.toll] 38) = W1
  obtain ⟨g1, c0, c1, c2⟩ := box3 hW1
  have F : ∀ x : Wd W1, x.val.cell? ⟨w.heap.size, 0, none⟩ = some (.int .i64 y.lo) ∧ x.val.cell? ⟨w.heap.size, 1, none⟩ = some (.int .i64 y.hi) ∧ x.val.cell? ⟨w.heap.size, 2, none⟩ = some (.int .i64 y.toll) :=
    fun x => ⟨cellW c0 x, cellW c1 x, cellW c2 x⟩
  clear hW1 c0 c1 c2
  refine (callsAt (R := fun e _ => e = .returned (.int .i64 (err iy 50))) (x := ⟨W1, Below.refl _ _⟩) (callsRet (refYield_any y W1) (by rw [hiy]))).mono ?_
  rintro e w' ⟨x, rfl, rfl⟩
  cases iy with
  | false =>
    rw [show err false 50 = 50 from rfl]
    have e : v = 50 := HVV.out
    subst e
    go_wp2_with fail
    go_ret2
    exact ⟨by rw [HV.out, Hv.out]; rfl, extTrans g1 x.ok⟩
  | true =>
    rw [show err true 50 = 0 from rfl]
    cases ir with
    | false =>
      have e : v = 58 := HVV.out
      subst e
      go_wp2_with (first | (go_at_call 72; refine (in_any _ _ _ _).mono ?_; rw [hir]; rintro e w' ⟨rfl, rfl⟩))
      go_ret2
      exact ⟨by rw [HV.out, Hv.out]; rfl, extTrans g1 x.ok⟩
    | true =>
      have e : v = 0 := HVV.out
      obtain ⟨-, k1, k2, k3, k4, k5, k6, k7, k8⟩ := Hok.out e
      subst e
      have hd : 0 ≤ q / y.toll ∧ q / y.toll ≤ q := IntWalk.tdiv_le q y.toll k6 (by omega)
      go_wp2_with (first | (go_at_call 72; refine (in_any _ _ _ _).mono ?_; rw [hir]; rintro e w' ⟨rfl, rfl⟩))
      go_ret2
      exact ⟨by rw [HV.out, Hv.out]; rfl, extTrans g1 x.ok⟩
end Go.Proofs.Ytdhhneflhmkonaa
