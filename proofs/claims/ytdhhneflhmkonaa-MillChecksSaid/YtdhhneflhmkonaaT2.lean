/- The mill: Check, of any mill. -/
import Derived.Test.YtdhhneflhmkonaaT1
namespace Go.Proofs.Ytdhhneflhmkonaa
open Go.RowKit

/-- A valid mill. -/
def okMill (h : Int) (xs : List Comer) : Bool := rng h 0 24 && decide (xs.length ≤ 12) && okComers h xs

theorem check_any (h : Int) (A : Option Addr) (n c : Nat) (xs : List Comer) (w : World) (ha : Arr ccells 3 w A n xs) (hnc : n ≤ c) (hn : n ≤ 9223372036854775807) :
    Calls Try.prog 53 #[.agg #[.int .i64 h, .slice A n c]] w fun e w' => e = .returned (.int .i64 (err (okMill h xs) 52)) ∧ Below w.heap.size w w' := by
  have hlen := ha.1
  cases hr : rng h 0 24 with
  | true =>
    by_cases h12 : n ≤ 12
    · have : okMill h xs = okComers h xs := by simp [okMill, hr, hlen, h12]
      rw [this]
      exact check_in h A n c xs w ha hr h12 hnc
    · have : err (okMill h xs) 52 = 52 := by simp [okMill, err, hlen, h12]
      have HO := Lib.hid this
      have hgt : decide ((12 : Int) < n) = true := by simp; omega
      clear this hlen ha
      have hb0 : Below w.heap.size w (w.alloc (.cells #[.int .i64 h, .slice A n c] 24)) := (Below.refl _ _).alloc (Nat.le_refl _) _
      go_enter Try.func53, Try.ntmps53
      go_wp2_with (first | (go_at_call 64; refine (within_any _ _ _ _).mono ?_; rw [hr]; rintro e w' ⟨rfl, rfl⟩))
      go_ret
      exact ⟨ret_int HO.out.symm, hb0⟩
  | false =>
    have : err (okMill h xs) 52 = 52 := by simp [okMill, err, hr]
    have HO := Lib.hid this
    clear this hlen ha
    have hb0 : Below w.heap.size w (w.alloc (.cells #[.int .i64 h, .slice A n c] 24)) := (Below.refl _ _).alloc (Nat.le_refl _) _
    go_enter Try.func53, Try.ntmps53
    go_wp2_with (first | (go_at_call 64; refine (within_any _ _ _ _).mono ?_; rw [hr]; rintro e w' ⟨rfl, rfl⟩))
    go_ret
    exact ⟨ret_int HO.out.symm, hb0⟩
end Go.Proofs.Ytdhhneflhmkonaa
