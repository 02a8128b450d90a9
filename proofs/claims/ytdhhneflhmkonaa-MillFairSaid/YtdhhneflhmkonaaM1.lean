/- The mill that numbers describe: Made. -/
import Derived.Test.YtdhhneflhmkonaaKF
import Derived.Test.YtdhhneflhmkonaaR5
namespace Go.Proofs.Ytdhhneflhmkonaa
open Go.RowKit Go.Shelf

abbrev Pr := Int × Int
def pcells (p : Pr) : List Value := [.int .i64 p.1, .int .i64 p.2]
/-- The comer at i. -/
def madeC (H : Nat) (l : List Pr) (i : Nat) : Comer := ⟨1 + (7 * (i : Int) + 5) % 9, (l.getD i (0, 0)).1 % ((2 ^ H : Nat) : Int), (l.getD i (0, 0)).2 % 7⟩
def madeH (n : Int) : Nat := (n % 11).toNat
/-- The first k comers. -/
def madeL (H : Nat) (l : List Pr) : Nat → List Comer
  | 0 => []
  | k + 1 => madeL H l k ++ [madeC H l k]
def madeX (n : Int) (l : List Pr) : List Comer := madeL (madeH n) l (min l.length 6)
theorem madeL_len (H : Nat) (l : List Pr) : ∀ k, (madeL H l k).length = k
  | 0 => rfl
  | k + 1 => by rw [madeL, List.length_append, madeL_len H l k]; rfl
theorem madeL_get (H : Nat) (l : List Pr) : ∀ k i, i < k → (madeL H l k)[i]? = some (madeC H l i)
  | 0, i, h => absurd h (by omega)
  | k + 1, i, h => by
    unfold madeL
    by_cases hk : i < k
    · rw [List.getElem?_append_left (by rw [madeL_len]; exact hk)]; exact madeL_get H l k i hk
    · obtain rfl : i = k := by omega
      rw [List.getElem?_append_right (by rw [madeL_len]; exact Nat.le_refl _), madeL_len]; simp
theorem madeH_le (n : Int) : madeH n ≤ 10 := by
  unfold madeH
  have := Int.emod_lt_of_pos n (show (0 : Int) < 11 by decide)
  omega
theorem made_ok (n : Int) (l : List Pr) : Ok (madeH n : Nat) (madeX n l) := by
  have hH := madeH_le n
  unfold madeX
  generalize madeH n = H at hH ⊢
  have hm : min l.length 6 ≤ 6 := Nat.min_le_right _ _
  generalize min l.length 6 = m at hm ⊢
  refine ⟨by omega, by omega, by rw [madeL_len]; omega, fun i x hx => ?_⟩
  have hi : i < m := by have := (List.getElem?_eq_some_iff.1 hx).1; rwa [madeL_len] at this
  rw [madeL_get H l m i hi] at hx
  cases hx
  have hp : 2 ^ H ≤ 2 ^ 10 := Nat.pow_le_pow_right (by decide) hH
  have h0 := Nat.two_pow_pos H
  have a1 := Int.emod_nonneg (l.getD i (0, 0)).1 (show ((2 ^ H : Nat) : Int) ≠ 0 by omega)
  have a2 := Int.emod_lt_of_pos (l.getD i (0, 0)).1 (show (0 : Int) < ((2 ^ H : Nat) : Int) by omega)
  have a3 := Int.emod_nonneg (l.getD i (0, 0)).2 (show (7 : Int) ≠ 0 by decide)
  have a4 := Int.emod_lt_of_pos (l.getD i (0, 0)).2 (show (0 : Int) < 7 by decide)
  refine ⟨?_, ?_, ?_⟩
  · have hf : 1 ≤ 1 + (7 * (i : Int) + 5) % 9 ∧ 1 + (7 * (i : Int) + 5) % 9 ≤ 99 := by omega
    unfold isComer rng madeC
    dsimp only
    generalize (l.getD i (0, 0)).1 % ((2 ^ H : Nat) : Int) = u at a1 a2 ⊢
    generalize (l.getD i (0, 0)).2 % 7 = v at a3 a4 ⊢
    generalize 1 + (7 * (i : Int) + 5) % 9 = t at hf ⊢
    have hp' : 2 ^ H ≤ 1024 := hp
    generalize 2 ^ H = q at a2 hp' ⊢
    simp; omega
  · rw [Int.toNat_natCast]
    have e : (2 : Int) ^ H = ((2 ^ H : Nat) : Int) := by simp
    rw [e]; exact a2
  · have hn : idx ((madeL H l m).take i) (madeC H l i).family = -1 := by
      refine idx_none fun j hj y hy => ?_
      rw [List.length_take, madeL_len] at hj
      rw [List.getElem?_take, if_pos (by omega), madeL_get H l m j (by omega)] at hy
      cases hy
      simp only [madeC]
      omega
    omega
end Go.Proofs.Ytdhhneflhmkonaa
