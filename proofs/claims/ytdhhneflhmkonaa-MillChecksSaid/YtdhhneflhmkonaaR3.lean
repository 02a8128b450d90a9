/- The reference's gives: a search by halves. -/
import Derived.Test.YtdhhneflhmkonaaR2
namespace Go.Proofs.Ytdhhneflhmkonaa
open Go.RowKit

theorem grd_mono {t a b : Int} (ht : 1 ≤ t) (hab : a ≤ b) : grd t a ≤ grd t b := by
  unfold grd
  have h1 : a < (a / t + 1) * t := Int.lt_ediv_add_one_mul_self a (by omega)
  have h2 : b - a ≤ (b - a) * t := by
    have := Int.mul_le_mul_of_nonneg_left ht (show 0 ≤ b - a by omega)
    omega
  have h3 : b < (a / t + (b - a) + 1) * t := by
    have e : (a / t + (b - a) + 1) * t = (a / t + 1) * t + (b - a) * t := by rw [← Int.add_mul]; congr 1; omega
    omega
  have := Int.ediv_lt_of_lt_mul (show 0 < t by omega) h3
  omega
theorem thr_mono {a b q : Int} (hab : a ≤ b) (hq : 0 ≤ q) : thr a q ≤ thr b q := Int.ediv_le_ediv (by decide) (Int.mul_le_mul_of_nonneg_right hab hq)
theorem flo_mono {t a b q : Int} (ht : 1 ≤ t) (hab : a ≤ b) (hq : 0 ≤ q) : grd t (thr a q) ≤ grd t (thr b q) := grd_mono ht (thr_mono hab hq)

theorem givesB_iff (y : Yield) (b : Int) (r : Rng) : givesB y b r = true ↔ ∃ n : Int, y.lo ≤ n ∧ n ≤ y.hi ∧ r.lo ≤ grd y.toll (thr n b) ∧ grd y.toll (thr n b) ≤ r.hi := by
  unfold givesB
  rw [List.any_eq_true]
  constructor
  · rintro ⟨k, hk, h⟩
    have := List.mem_range.1 hk
    simp [rng] at h
    exact ⟨y.lo + k, by omega, by omega, h.1, h.2⟩
  · rintro ⟨n, h1, h2, h3, h4⟩
    refine ⟨(n - y.lo).toNat, List.mem_range.2 (by omega), ?_⟩
    rw [show y.lo + ((n - y.lo).toNat : Int) = n by omega]
    simp only [rng, Bool.and_eq_true, decide_eq_true_eq]
    exact ⟨h3, h4⟩

set_option maxRecDepth 100000 in
set_option maxHeartbeats 1000000 in
theorem refGives_any (y : Yield) (b : Int) (r : Rng) (w : World) (h0 : 0 ≤ y.lo) (h1 : y.lo ≤ y.hi) (h3 : y.hi ≤ 1000) (h4 : 0 ≤ b) (h5 : b ≤ 2000) (h8 : 2 ≤ y.toll) :
    Calls Try.prog 87 #[yv y, .int .i64 b, rv r] w fun e w' => e = .returned (.bool (givesB y b r)) ∧ Below w.heap.size w w' := by
  obtain ⟨G, hG⟩ : ∃ G : Int → Int, (fun n => grd y.toll (thr n b)) = G := ⟨_, rfl⟩
  have hGn : ∀ n, grd y.toll (thr n b) = G n := fun n => by rw [← hG]
  have hmono : ∀ a c, a ≤ c → G a ≤ G c := fun a c h => by rw [← hGn, ← hGn]; exact flo_mono (by omega) h h4
  have hB := givesB_iff y b r
  simp only [hGn] at hB
  obtain ⟨gb, hgb⟩ : ∃ gb, givesB y b r = gb := ⟨_, rfl⟩
  rw [hgb] at hB ⊢
  have HB := Lib.hid hB
  have HM := Lib.hid hmono
  have HC := Lib.hid (fun W n (a : 0 ≤ n) (c : n ≤ 1000) => refGround_any y b n W a c h4 h5 h8)
  simp only [hGn] at HC
  clear hG hGn hmono hB hgb
  go_enter Try.func87, Try.ntmps87
  go_wp2_with fail
  generalize hW1 : w.alloc (.cells #[.int .i64 y.lo, .int .i64 y.hi, .int .i64 y.toll] 38) = W1
  obtain ⟨g1, c0, c1, c2⟩ := box3 hW1
  rw [← boxSize hW1]
  generalize hW2 : W1.alloc (.cells #[.int .i64 r.lo, .int .i64 r.hi] 36) = W2
  obtain ⟨g2, d0, d1⟩ := box2 hW2
  have F : ∀ x : Wd W2, x.val.cell? ⟨w.heap.size, 0, none⟩ = some (.int .i64 y.lo) ∧ x.val.cell? ⟨w.heap.size, 1, none⟩ = some (.int .i64 y.hi) ∧ x.val.cell? ⟨w.heap.size, 2, none⟩ = some (.int .i64 y.toll) ∧
      x.val.cell? ⟨W1.heap.size, 0, none⟩ = some (.int .i64 r.lo) ∧ x.val.cell? ⟨W1.heap.size, 1, none⟩ = some (.int .i64 r.hi) :=
    fun x => ⟨cellL g2 c0 x, cellL g2 c1 x, cellL g2 c2 x, cellW d0 x, cellW d1 x⟩
  have g := extTrans g1 g2
  clear hW1 hW2 c0 c1 c2 d0 d1 g1 g2
  by_cases hend : G y.hi < r.lo
  · have hf : gb = false := by
      cases gb with
      | false => rfl
      | true => obtain ⟨n, a1, a2, a3, a4⟩ := HB.out.1 rfl; have := HM.out n y.hi a2; omega
    subst hf
    have hd : decide (G y.hi < r.lo) = true := by simpa using hend
    refine wp_region_calm W2 (by kernel_rfl) (by kernel_rfl) (Below.refl _ _) ?_
    repeat (go_big_quiet_step (first | (go_at_call 85; exact callsCalm (HC.out _ _ (by omega) (by omega)))))
    refine wpQuiet_nil ?_
    rintro _ ⟨x, rfl⟩
    go_wp2_with fail
    go_ret
    exact ⟨rfl, extTrans g x.ok⟩
  · have hd : decide (G y.hi < r.lo) = false := by simpa using hend
    refine wp_region_calm W2 (by kernel_rfl) (by kernel_rfl) (Below.refl _ _) ?_
    repeat (go_big_quiet_step (first | (go_at_call 85; exact callsCalm (HC.out _ _ (by omega) (by omega)))))
    refine wpQuiet_nil ?_
    rintro _ ⟨x, rfl⟩
    go_wp2_with fail
    go_loopw [7, 8] (fun l u wr => ∃ lo hi : Int, l = .int .i64 lo ∧ u = .int .i64 hi ∧ y.lo ≤ lo ∧ lo ≤ hi ∧ hi ≤ y.hi ∧ r.lo ≤ G hi ∧ (∀ n, y.lo ≤ n → n < lo → G n < r.lo) ∧ ∃ z : Wd W2, wr = z.val) (fun l u _ => (intOf u - intOf l).toNat)
    case atStart => exact ⟨y.lo, y.hi, rfl, rfl, by omega, by omega, by omega, by omega, fun n a c => absurd c (by omega), x, rfl⟩
    case round =>
      obtain ⟨lo, hi, rfl, rfl, b1, b2, b3, b4, hless, z, rfl⟩ := hrel
      have HLS := Lib.hid hless
      have HB4 := Lib.hid b4
      clear hless
      by_cases hlt : lo < hi
      · have hm1 : lo ≤ (lo + hi) / 2 ∧ (lo + hi) / 2 < hi := by omega
        have q1 : 0 ≤ lo + hi := by omega
        go_wp2_with fail
        obtain ⟨m, hm⟩ : ∃ m, (lo + hi) / 2 = m := ⟨_, rfl⟩
        rw [hm] at hm1 ⊢
        have HMM := Lib.hid hm
        clear hm
        have F2 : ∀ u : Wd z.val, _ := fun u => F ⟨u.val, extTrans z.ok u.ok⟩
        dsimp only at F2
        by_cases hge : r.lo ≤ G m
        · have hd2 : decide (r.lo ≤ G m) = true := by simpa using hge
          refine wp_region_calm z.val (by kernel_rfl) (by kernel_rfl) (Below.refl _ _) ?_
          repeat (go_big_quiet_step (first | (go_at_call 85; exact callsCalm (HC.out _ _ (by omega) (by omega)))))
          refine wpQuiet_nil ?_
          rintro _ ⟨u, rfl⟩
          go_wp2_with fail
          go_roundw
          case rel => exact ⟨lo, m, rfl, rfl, b1, by omega, by omega, hge, HLS.out, Wd.of (extTrans z.ok u.ok)⟩
          case measure => simp [intOf]; omega
        · have hd2 : decide (r.lo ≤ G m) = false := by simpa using hge
          refine wp_region_calm z.val (by kernel_rfl) (by kernel_rfl) (Below.refl _ _) ?_
          repeat (go_big_quiet_step (first | (go_at_call 85; exact callsCalm (HC.out _ _ (by omega) (by omega)))))
          refine wpQuiet_nil ?_
          rintro _ ⟨u, rfl⟩
          go_wp2_with fail
          go_roundw
          case rel =>
            refine ⟨m + 1, hi, by go_num, rfl, by omega, by omega, b3, HB4.out, fun n a c => ?_, Wd.of (extTrans z.ok u.ok)⟩
            have := HM.out n m (by omega)
            omega
          case measure => simp [intOf]; omega
      · obtain rfl : lo = hi := by omega
        go_wp2_with fail
        have hd2 : decide (G lo ≤ r.hi) = gb := by
          cases hq : decide (G lo ≤ r.hi) with
          | true =>
            have : G lo ≤ r.hi := by simpa using hq
            exact (HB.out.2 ⟨lo, b1, b3, HB4.out, this⟩).symm
          | false =>
            have hq' : ¬ G lo ≤ r.hi := by simpa using hq
            cases gb with
            | false => rfl
            | true =>
              obtain ⟨n, a1, a2, a3, a4⟩ := HB.out.1 rfl
              exfalso
              rcases Int.lt_or_le n lo with h | h
              · have := HLS.out n a1 h; omega
              · have := HM.out lo n h; omega
        have HD2 := Lib.hid hd2
        clear hd2
        refine wp_region_calm z.val (by kernel_rfl) (by kernel_rfl) (Below.refl _ _) ?_
        have F2 : ∀ u : Wd z.val, _ := fun u => F ⟨u.val, extTrans z.ok u.ok⟩
        dsimp only at F2
        repeat (go_big_quiet_step (first | (go_at_call 85; exact callsCalm (HC.out _ _ (by omega) (by omega)))))
        refine wpQuiet_nil ?_
        rintro _ ⟨u, rfl⟩
        go_wp2_with fail
        go_ret
        exact ⟨ret_bool HD2.out, extTrans g (extTrans z.ok u.ok)⟩
end Go.Proofs.Ytdhhneflhmkonaa
