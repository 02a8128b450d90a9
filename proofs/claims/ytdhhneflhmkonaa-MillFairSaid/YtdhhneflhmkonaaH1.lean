/- The law's own had (func 43). -/
import Derived.Test.YtdhhneflhmkonaaN2
namespace Go.Proofs.Ytdhhneflhmkonaa
open Go.RowKit Go.Shelf

set_option maxRecDepth 100000 in
set_option maxHeartbeats 2000000 in
theorem lawHad_any (D : Option Addr) (m cd : Nat) (l : List Int) (f : Int) (w : World) (hd : Ints w D m l) (hm : m ≤ 9223372036854775807) :
    Calls Try.prog 43 #[.slice D m cd, .int .i64 f] w fun e w' => e = .returned (.int .i64 (l.count f : Nat)) ∧ w = w' := by
  have HD := Lib.hid hd
  have hlm := Lib.hid hd.1
  clear hd
  go_enter Try.func43, Try.ntmps43
  go_wp2_with fail
  go_loop [5, 6] (fun c i => ∃ k : Nat, k ≤ m ∧ i = .int .i64 k ∧ c = .int .i64 ((l.take k).count f : Nat)) (fun _ i => m - (intOf i).toNat)
  case atStart => exact ⟨0, Nat.zero_le _, rfl, by simp⟩
  case round =>
    obtain ⟨k, hk, rfl, rfl⟩ := hrel
    have hle : (l.take k).count f ≤ k := Nat.le_trans List.count_le_length (by rw [List.length_take]; omega)
    by_cases hkm : k < m
    · obtain ⟨b, o, rfl, -, hmem, hc⟩ := ints_at HD.out hkm
      have d0 := hc _ (Below.refl _ _)
      obtain ⟨y, hy⟩ : ∃ y, l.getD k 0 = y := ⟨_, rfl⟩
      rw [hy] at d0 hmem
      have HN := Lib.hid (show (l.take (k + 1)).count f = (l.take k).count f + if y = f then 1 else 0 by
        rw [List.take_add_one, hmem, Option.toList_some, count_snoc])
      clear hc hmem hy
      by_cases hyf : y = f
      · subst hyf
        have HN2 := Lib.hid (show (l.take (k + 1)).count y = (l.take k).count y + 1 by rw [HN.out, if_pos rfl])
        generalize (l.take k).count y = c at hle HN2 ⊢
        go_wp2_with fail
        go_round
        case rel => exact ⟨k + 1, by omega, by go_num, by rw [HN2.out]; go_num⟩
        case measure => simp [intOf]; omega
      · have hyb : (y == f) = false := beq_eq_false_iff_ne.2 hyf
        have HN2 := Lib.hid (show (l.take (k + 1)).count f = (l.take k).count f by rw [HN.out, if_neg hyf]; rfl)
        clear hyf
        generalize (l.take k).count f = c at hle HN2 ⊢
        go_wp2_with fail
        go_round
        case rel => exact ⟨k + 1, by omega, by go_num, by rw [HN2.out]⟩
        case measure => simp [intOf]; omega
    · obtain rfl : m = k := by omega
      have HT := Lib.hid (show l.take m = l from List.take_of_length_le (by rw [hlm.out]; exact Nat.le_refl _))
      generalize hc : (l.take m).count f = c at hle ⊢
      have HC := Lib.hid hc
      clear hc
      go_wp2_with fail
      go_ret
      exact ⟨ret_int (by rw [← HC.out, HT.out]), rfl⟩
end Go.Proofs.Ytdhhneflhmkonaa
