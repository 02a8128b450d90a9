/- The mill's yields: isYield, CheckYield, asked, threshed, flour, gives, Bundles, Wants, Toll. -/
import Derived.Test.YtdhhneflhmkonaaW1
namespace Go.Proofs.Ytdhhneflhmkonaa
open Go.RowKit

structure Yield where
  lo : Int
  hi : Int
  toll : Int
structure Rng where
  lo : Int
  hi : Int
deriving DecidableEq
abbrev yv (y : Yield) : Value := .agg #[.int .i64 y.lo, .int .i64 y.hi, .int .i64 y.toll]
abbrev rv (r : Rng) : Value := .agg #[.int .i64 r.lo, .int .i64 r.hi]

def isYield (y : Yield) : Bool := decide (0 ≤ y.lo) && decide (y.lo ≤ y.hi) && decide (y.hi ≤ 1000) && rng y.toll 2 100

theorem isYield_any (y : Yield) (w : World) :
    Calls Try.prog 93 #[yv y] w fun e w' => e = .returned (.bool (isYield y)) ∧ Below w.heap.size w w' := by
  by_cases h1 : 0 ≤ y.lo
  · by_cases h2 : y.lo ≤ y.hi
    · by_cases h3 : y.hi ≤ 1000
      · have HH := Lib.hid (show isYield y = rng y.toll 2 100 by simp [isYield, h1, h2, h3])
        go_enter Try.func93, Try.ntmps93
        go_wp2_with (go_at_call 64; refine (within_any _ _ _ _).mono ?_; rintro e w' ⟨rfl, rfl⟩)
        go_ret
        exact ⟨ret_bool HH.out.symm, (Below.refl _ _).alloc (Nat.le_refl _) _⟩
      · have HH := Lib.hid (show isYield y = false by simp [isYield, h3])
        go_enter Try.func93, Try.ntmps93
        go_wp2
        go_ret
        exact ⟨ret_bool HH.out.symm, (Below.refl _ _).alloc (Nat.le_refl _) _⟩
    · have HH := Lib.hid (show isYield y = false by simp [isYield, h2])
      go_enter Try.func93, Try.ntmps93
      go_wp2
      go_ret
      exact ⟨ret_bool HH.out.symm, (Below.refl _ _).alloc (Nat.le_refl _) _⟩
  · have HH := Lib.hid (show isYield y = false by simp [isYield, h1])
    go_enter Try.func93, Try.ntmps93
    go_wp2
    go_ret
    exact ⟨ret_bool HH.out.symm, (Below.refl _ _).alloc (Nat.le_refl _) _⟩

theorem checkYield_any (y : Yield) (w : World) :
    Calls Try.prog 49 #[yv y] w fun e w' => e = .returned (.int .i64 (err (isYield y) 50)) ∧ Below w.heap.size w w' := by
  unfold err
  cases hy : isYield y
  all_goals
    go_enter Try.func49, Try.ntmps49
    go_wp2_with (go_at_call 93; refine (callsRet (isYield_any y _) (by rw [hy])).mono ?_; rintro e w' ⟨rfl, hb⟩)
    go_ret
    exact ⟨rfl, extTrans ((Below.refl _ _).alloc (Nat.le_refl _) _) hb⟩

/-- The error of a yield and of a range of numbers. -/
def askedE (y : Yield) (r : Rng) (most : Int) : Int := if isYield y then (if decide (0 ≤ r.lo) && decide (r.lo ≤ r.hi) && decide (r.hi ≤ most) then 0 else 58) else 50

theorem asked_any (y : Yield) (r : Rng) (most : Int) (w : World) :
    Calls Try.prog 81 #[yv y, rv r, .int .i64 most] w fun e w' => e = .returned (.int .i64 (askedE y r most)) ∧ Below w.heap.size w w' := by
  cases hy : isYield y
  · have HH := Lib.hid (show askedE y r most = 50 by simp [askedE, hy])
    go_enter Try.func81, Try.ntmps81
    go_wp2_with (go_at_call 93; refine (callsRet (isYield_any y _) (by rw [hy])).mono ?_; rintro e w' ⟨rfl, hb⟩)
    go_ret
    exact ⟨ret_int HH.out.symm, extTrans (((Below.refl _ _).alloc (Nat.le_refl _) _).alloc (by simp) _) hb⟩
  · have fin : ∀ v, askedE y r most = v → ((0 ≤ r.lo ∧ r.lo ≤ r.hi ∧ r.hi ≤ most ∧ v = 0) ∨ (r.lo < 0 ∧ v = 58) ∨ (0 ≤ r.lo ∧ r.hi < r.lo ∧ v = 58) ∨ (0 ≤ r.lo ∧ r.lo ≤ r.hi ∧ most < r.hi ∧ v = 58)) := by
      intro v hv
      simp only [askedE, hy, if_true] at hv
      by_cases h1 : 0 ≤ r.lo <;> by_cases h2 : r.lo ≤ r.hi <;> by_cases h3 : r.hi ≤ most <;> simp [h1, h2, h3] at hv <;> subst hv <;> omega
    obtain ⟨v, hv⟩ : ∃ v, askedE y r most = v := ⟨_, rfl⟩
    have HH := Lib.hid hv
    have fin := fin v hv
    clear hv
    rcases fin with ⟨h1, h2, h3, rfl⟩ | ⟨h1, rfl⟩ | ⟨h1, h2, rfl⟩ | ⟨h1, h2, h3, rfl⟩
    all_goals
      go_enter Try.func81, Try.ntmps81
      go_wp2_with fail
      generalize hW1 : w.alloc (.cells #[.int .i64 y.lo, .int .i64 y.hi, .int .i64 y.toll] 38) = W1
      obtain ⟨g1, -, -, -⟩ := box3 hW1
      rw [← boxSize hW1]
      generalize hW2 : W1.alloc (.cells #[.int .i64 r.lo, .int .i64 r.hi] 36) = W2
      obtain ⟨g2, c0, c1⟩ := box2 hW2
      have e0 := cellW c0
      have e1 := cellW c1
      clear hW1 hW2 c0 c1
      refine (callsRet (isYield_any y W2) (by rw [hy])).mono ?_
      rintro e w' ⟨rfl, hb⟩
      obtain ⟨x, rfl⟩ := Wd.of hb
      go_wp2
      all_goals first
        | (exfalso; omega)
        | (go_ret; exact ⟨ret_int HH.out.symm, extTrans g1 (extTrans g2 x.ok)⟩)

def thr (g b : Int) : Int := g * b / 100
def grd (t g : Int) : Int := g - g / t

theorem thr_bd {g b : Int} (h0 : 0 ≤ g) (h1 : g ≤ 1000) (h2 : 0 ≤ b) (h3 : b ≤ 2000) : 0 ≤ g * b ∧ g * b ≤ 2000000 ∧ 0 ≤ g * b / 100 ∧ g * b / 100 ≤ 20000 := by
  have := Int.mul_nonneg h0 h2
  have h4 : g * b ≤ 1000 * 2000 := Int.mul_le_mul h1 h3 h2 (by decide)
  omega

theorem ground_any (y : Yield) (g : Int) (w : World) (h0 : 0 ≤ g) (h1 : g ≤ 100000) (h2 : 2 ≤ y.toll) :
    Calls Try.prog 105 #[yv y, .int .i64 g] w fun e w' => e = .returned (.int .i64 (grd y.toll g)) ∧ Below w.heap.size w w' := by
  have hd : 0 ≤ g / y.toll ∧ g / y.toll ≤ g := IntWalk.tdiv_le g y.toll h0 (by omega)
  go_enter Try.func105, Try.ntmps105
  go_wp2
  go_ret
  exact ⟨rfl, (Below.refl _ _).alloc (Nat.le_refl _) _⟩

theorem threshed_any (y : Yield) (r : Rng) (w : World) (h0 : 0 ≤ y.lo) (h1 : y.lo ≤ 1000) (h2 : 0 ≤ y.hi) (h3 : y.hi ≤ 1000) (h4 : 0 ≤ r.lo) (h5 : r.lo ≤ 2000) (h6 : 0 ≤ r.hi) (h7 : r.hi ≤ 2000) :
    Calls Try.prog 82 #[yv y, rv r] w fun e w' => e = .returned (rv ⟨thr y.lo r.lo, thr y.hi r.hi⟩) ∧ Below w.heap.size w w' := by
  obtain ⟨a1, a2, a3, a4⟩ := thr_bd h0 h1 h4 h5
  obtain ⟨b1, b2, b3, b4⟩ := thr_bd h2 h3 h6 h7
  go_enter Try.func82, Try.ntmps82
  go_wp2
  refine bodyPost_ret (v := rv ⟨thr y.lo r.lo, thr y.hi r.hi⟩) ?_ rfl ⟨rfl, ?_⟩
  · simp [results, Try.results82, go_sem, thr]
  · exact ((((Below.refl _ _).alloc (Nat.le_refl _) _).alloc (by simp) _).alloc (by simp; omega) _)
end Go.Proofs.Ytdhhneflhmkonaa
