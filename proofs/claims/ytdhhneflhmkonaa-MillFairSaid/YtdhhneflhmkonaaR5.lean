/- The reference's Mod. -/
import Derived.Test.YtdhhneflhmkonaaKA
namespace Go.Proofs.Ytdhhneflhmkonaa
open Go.RowKit

theorem mod_any (n m : Int) (w : World) (hm : 1 ≤ m) (hm2 : m ≤ 1000000000) :
    Calls Try.prog 32 #[.int .i64 n, .int .i64 m] w fun e w' => e = .returned (.int .i64 (n % m)) ∧ w = w' := by
  have hne : ¬ m = 0 := by omega
  go_enter Try.func32, Try.ntmps32
  go_wp2_with fail
  go_ret
  have h1 := Int.tmod_lt_of_pos n (show 0 < m by omega)
  have h2 : -m < n.tmod m := by
    have := Int.lt_tmod_of_pos n (show 0 < m by omega)
    omega
  have h3 : wrap64 (n.tmod m + m) = n.tmod m + m := IntWalk.wrap64_in _ ⟨by omega, by omega⟩
  have h4 : (n.tmod m + m).tmod m = n % m := by
    rw [Int.tmod_eq_emod_of_nonneg (by omega), Int.add_emod_right]
    have e := Int.mul_tdiv_add_tmod n m
    conv => rhs; rw [← e]
    rw [Int.mul_add_emod_self_left]
  exact ⟨ret_int (by rw [h3, h4]), rfl⟩
end Go.Proofs.Ytdhhneflhmkonaa
