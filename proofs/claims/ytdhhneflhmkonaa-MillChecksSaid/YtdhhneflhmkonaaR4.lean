/- The reference's Bundles. -/
import Derived.Test.YtdhhneflhmkonaaR3
namespace Go.Proofs.Ytdhhneflhmkonaa
open Go.RowKit

theorem bTest_eq (y : Yield) (r : Rng) (b : Int) (_h1 : y.lo ≤ y.hi) (h4 : 0 ≤ b) (h8 : 2 ≤ y.toll) : bTest y r b = givesB y b r := by
  unfold bTest
  cases hg : givesB y b r with
  | false => simp
  | true =>
    obtain ⟨n, a1, a2, a3, a4⟩ := (givesB_iff y b r).1 hg
    have m1 := flo_mono (t := y.toll) (q := b) (by omega) a2 h4
    have m2 := flo_mono (t := y.toll) (q := b) (by omega) a1 h4
    simp; omega
theorem bScan_nonneg (y : Yield) (r : Rng) : ∀ k, 0 ≤ (bScan y r k).2.1
  | 0 => by simp [bScan]
  | k + 1 => by
    have := bScan_nonneg y r k
    unfold bScan
    split
    · dsimp only; split
      · exact this
      · omega
    · exact this

set_option maxRecDepth 100000 in
set_option maxHeartbeats 2000000 in
theorem refBundles_any (y : Yield) (r : Rng) (w : World) :
    Calls Try.prog 29 #[yv y, rv r] w fun e w' => e = .returned (.tuple #[rv (bunV y r), .int .i64 (bunE y r)]) ∧ Below w.heap.size w w' := by
  obtain ⟨v, hv⟩ : ∃ v, askedE y r 20000 = v := ⟨_, rfl⟩
  have hok : v = 0 → _ := fun e => askedE_ok (y := y) (r := r) (m := 20000) (hv.trans e)
  have hE : bunE y r = if v = 0 then (if (bScan y r 2001).1 then 0 else 3) else v := by rw [← hv]; rfl
  have hV : bunV y r = if v = 0 then ⟨(bScan y r 2001).2.1, (bScan y r 2001).2.2⟩ else ⟨0, 0⟩ := by rw [← hv]; rfl
  have hvv : v = if isYield y = true then (if isRng r 20000 = true then 0 else 58) else 50 := by rw [← hv]; rfl
  have HE := Lib.hid hE
  have HV := Lib.hid hV
  have Hok := Lib.hid hok
  have HVV := Lib.hid hvv
  clear hv hok hV hE hvv
  obtain ⟨iy, hiy⟩ : ∃ iy, isYield y = iy := ⟨_, rfl⟩
  obtain ⟨ir, hir⟩ : ∃ ir, isRng r 20000 = ir := ⟨_, rfl⟩
  rw [hiy, hir] at HVV
  go_enter Try.func29, Try.ntmps29
  go_wp2_with fail
  generalize hW1 : w.alloc (.cells #[.int .i64 y.lo, .int .i64 y.hi, .int .i64 y.toll] 38) = W1
  obtain ⟨g1, c0, c1, c2⟩ := box3 hW1
  rw [← boxSize hW1]
  generalize hW2 : W1.alloc (.cells #[.int .i64 r.lo, .int .i64 r.hi] 36) = W2
  obtain ⟨g2, d0, d1⟩ := box2 hW2
  rw [← boxSize hW2]
  generalize hW3 : W2.alloc (.cells #[.int .i64 0, .int .i64 0] 36) = W3
  obtain ⟨g3, r0, r1⟩ := box2 hW3
  have F : ∀ x : Wd W3, x.val.cell? ⟨w.heap.size, 0, none⟩ = some (.int .i64 y.lo) ∧ x.val.cell? ⟨w.heap.size, 1, none⟩ = some (.int .i64 y.hi) ∧ x.val.cell? ⟨w.heap.size, 2, none⟩ = some (.int .i64 y.toll) ∧
      x.val.cell? ⟨W1.heap.size, 0, none⟩ = some (.int .i64 r.lo) ∧ x.val.cell? ⟨W1.heap.size, 1, none⟩ = some (.int .i64 r.hi) ∧
      x.val.cell? ⟨W2.heap.size, 0, none⟩ = some (.int .i64 0) ∧ x.val.cell? ⟨W2.heap.size, 1, none⟩ = some (.int .i64 0) ∧ x.val.frozen? ⟨W2.heap.size, 0, none⟩ = false ∧ x.val.frozen? ⟨W2.heap.size, 1, none⟩ = false :=
    fun x => ⟨cellL (extTrans g2 g3) c0 x, cellL (extTrans g2 g3) c1 x, cellL (extTrans g2 g3) c2 x, cellL g3 d0 x, cellL g3 d1 x, cellW r0 x, cellW r1 x, frozenW r0 (boxFree hW3 0) x, frozenW r1 (boxFree hW3 1) x⟩
  have g := extTrans g1 (extTrans g2 g3)
  have Hs := Lib.hid (show w.heap.size ≤ W2.heap.size by have := g1.size; have := g2.size; omega)
  clear hW1 hW2 hW3 c0 c1 c2 d0 d1 r0 r1 g1 g2 g3
  refine (callsAt (R := fun e _ => e = .returned (.int .i64 (err iy 50))) (x := ⟨W3, Below.refl _ _⟩) (callsRet (refYield_any y W3) (by rw [hiy]))).mono ?_
  rintro e w' ⟨x, rfl, rfl⟩
  cases iy with
  | false =>
    rw [show err false 50 = 50 from rfl]
    have e : v = 50 := HVV.out
    subst e
    go_wp2_with fail
    refine bodyPost_ret (v := .tuple #[rv (bunV y r), .int .i64 (bunE y r)]) ?_ rfl ⟨rfl, ?_⟩
    · rw [HV.out, HE.out]; simp [results, Try.results29, go_sem, F]
    · exact ((extTrans g x.ok).setCell (p := ⟨W2.heap.size, 0, none⟩) Hs.out _).setCell (p := ⟨W2.heap.size, 1, none⟩) Hs.out _
  | true =>
    rw [show err true 50 = 0 from rfl]
    cases ir with
    | false =>
      have e : v = 58 := HVV.out
      subst e
      go_wp2_with (first | (go_at_call 83; refine (callsAt (R := fun e _ => e = .returned (.bool false)) (callsRet (isRange_any r 20000 _) (by rw [hir]))).mono ?_; rintro e w' ⟨z, rfl, rfl⟩))
      refine bodyPost_ret (v := .tuple #[rv (bunV y r), .int .i64 (bunE y r)]) ?_ rfl ⟨rfl, ?_⟩
      · rw [HV.out, HE.out]; simp [results, Try.results29, go_sem, F]
      · exact ((extTrans g z.ok).setCell (p := ⟨W2.heap.size, 0, none⟩) Hs.out _).setCell (p := ⟨W2.heap.size, 1, none⟩) Hs.out _
    | true =>
      have e : v = 0 := HVV.out
      obtain ⟨-, k1, k2, k3, k4, k5, k6, k7, k8⟩ := Hok.out e
      subst e
      go_wp2_with (first | (go_at_call 83; refine (callsAt (R := fun e _ => e = .returned (.bool true)) (callsRet (isRange_any r 20000 _) (by rw [hir]))).mono ?_; rintro e w' ⟨z, rfl, rfl⟩))
      generalize hW4 : z.val.alloc (.cells #[.int .i64 (-1), .int .i64 0] 36) = W4
      have hB : Blk W4 z.val.heap.size 36 #[.int .i64 (-1), .int .i64 0] := by rw [← hW4]; exact Blk.new _ _ _
      have g4 : Below W3.heap.size W3 W4 := by rw [← hW4]; exact z.ok.alloc z.size _
      clear hW4
      go_loopw [7] (fun i wr => ∃ k : Nat, k ≤ 2001 ∧ i = .int .i64 k ∧ (∃ u : Wd W3, wr = u.val) ∧ Blk wr z.val.heap.size 36 #[.int .i64 (if (bScan y r k).1 then (bScan y r k).2.1 else -1), .int .i64 (bScan y r k).2.2]) (fun i _ => 2001 - (intOf i).toNat)
      case atStart => exact ⟨0, by omega, rfl, Wd.of g4, hB⟩
      case round =>
        obtain ⟨k, hk, rfl, ⟨u, rfl⟩, hb⟩ := hrel
        by_cases hlt : k < 2001
        · obtain ⟨lo, hlo⟩ : ∃ lo, (bScan y r k).2.1 = lo := ⟨_, rfl⟩
          obtain ⟨hi, hhi⟩ : ∃ hi, (bScan y r k).2.2 = hi := ⟨_, rfl⟩
          obtain ⟨fd, hfd⟩ : ∃ fd, (bScan y r k).1 = fd := ⟨_, rfl⟩
          have hnn : 0 ≤ lo := by rw [← hlo]; exact bScan_nonneg y r k
          obtain ⟨gb, hgb⟩ : ∃ gb, givesB y k r = gb := ⟨_, rfl⟩
          have Hgives := Lib.hid (fun w => refGives_any y k r w k1 k2 k3 (by omega) (by omega) k4)
          rw [hgb] at Hgives
          have HS := Lib.hid (show bScan y r (k + 1) = if gb = true then (true, if fd then lo else (k : Int), (k : Int)) else (fd, lo, hi) by
            rw [← hfd, ← hlo, ← hhi, ← hgb, ← bTest_eq y r k k2 (by omega) k4]; rfl)
          rw [hlo, hhi, hfd] at hb
          have HBB := Lib.hid hb
          clear hlo hhi hfd hgb hb k1 k2 k3 k4 k5 k6 k7 k8
          cases gb with
          | false =>
            go_wp2_with (first | (go_at_call 87; refine (callsAt2 (Hgives.out _)).mono ?_; rintro e w' ⟨z2, rfl, rfl, hbb⟩; have hB2 := Lib.hid (HBB.out.ext hbb); clear hbb))
            go_roundw
            case rel => exact ⟨k + 1, by omega, by go_num, ⟨z2, rfl⟩, by rw [HS.out]; exact hB2.out⟩
            case measure => simp [intOf]; omega
          | true =>
            cases fd with
            | true =>
              go_wp2_with (first | (go_at_call 87; refine (callsAt2 (Hgives.out _)).mono ?_; rintro e w' ⟨z2, rfl, rfl, hbb⟩; have hB2 := Lib.hid (HBB.out.ext hbb); clear hbb; have m0 : z2.val.cell? ⟨z.val.heap.size, 0, none⟩ = some (.int .i64 lo) := hB2.out.cell 0; have m1 : z2.val.cell? ⟨z.val.heap.size, 1, none⟩ = some (.int .i64 hi) := hB2.out.cell 1; have n1 := hB2.out.frozen 1))
              go_roundw
              case rel => exact ⟨k + 1, by omega, by go_num, Wd.of (z2.ok.setCell (p := ⟨z.val.heap.size, 1, none⟩) z.size _), by rw [HS.out]; exact hB2.out.set_ 1 _⟩
              case measure => simp [intOf]; omega
            | false =>
              go_wp2_with (first | (go_at_call 87; refine (callsAt2 (Hgives.out _)).mono ?_; rintro e w' ⟨z2, rfl, rfl, hbb⟩; have hB2 := Lib.hid (HBB.out.ext hbb); clear hbb; have m0 : z2.val.cell? ⟨z.val.heap.size, 0, none⟩ = some (.int .i64 (-1)) := hB2.out.cell 0; have m1 : z2.val.cell? ⟨z.val.heap.size, 1, none⟩ = some (.int .i64 hi) := hB2.out.cell 1; have n1 := hB2.out.frozen 1; have n0 := hB2.out.frozen 0))
              go_roundw
              case rel => exact ⟨k + 1, by omega, by go_num, Wd.of ((z2.ok.setCell (p := ⟨z.val.heap.size, 0, none⟩) z.size _).setCell (p := ⟨z.val.heap.size, 1, none⟩) z.size _), by rw [HS.out]; exact (hB2.out.set_ 0 _).set_ 1 _⟩
              case measure => simp [intOf]; omega
        · obtain rfl : k = 2001 := by omega
          have hnn := bScan_nonneg y r 2001
          cases hfd : (bScan y r 2001).1
          · have hbs := bScan_none y r 2001 hfd
            rw [hbs] at hb
            have HBS := Lib.hid hbs
            have b0 : u.val.cell? ⟨z.val.heap.size, 0, none⟩ = some (.int .i64 (-1)) := hb.cell 0
            clear hbs hfd hnn k1 k2 k3 k4 k5 k6 k7 k8 hb
            go_wp2_with fail
            refine bodyPost_ret (v := .tuple #[rv (bunV y r), .int .i64 (bunE y r)]) ?_ rfl ⟨rfl, ?_⟩
            · rw [HV.out, HE.out, if_pos trivial, if_pos trivial, HBS.out]; simp [results, Try.results29, go_sem, F]
            · exact ((extTrans g u.ok).setCell (p := ⟨W2.heap.size, 0, none⟩) Hs.out _).setCell (p := ⟨W2.heap.size, 1, none⟩) Hs.out _
          · have HBF := Lib.hid hfd
            obtain ⟨lo, hlo⟩ : ∃ lo, (bScan y r 2001).2.1 = lo := ⟨_, rfl⟩
            obtain ⟨hi, hhi⟩ : ∃ hi, (bScan y r 2001).2.2 = hi := ⟨_, rfl⟩
            rw [hlo, hhi, hfd] at hb
            rw [hlo] at hnn
            have HLO := Lib.hid hlo
            have HHI := Lib.hid hhi
            clear hlo hhi hfd k1 k2 k3 k4 k5 k6 k7 k8
            have b0 : u.val.cell? ⟨z.val.heap.size, 0, none⟩ = some (.int .i64 lo) := hb.cell 0
            have b1 : u.val.cell? ⟨z.val.heap.size, 1, none⟩ = some (.int .i64 hi) := hb.cell 1
            go_wp2_with fail
            refine bodyPost_ret (v := .tuple #[rv (bunV y r), .int .i64 (bunE y r)]) ?_ rfl ⟨rfl, ?_⟩
            · rw [HV.out, HE.out, if_pos trivial, if_pos trivial, HBF.out, HLO.out, HHI.out]; simp [results, Try.results29, go_sem, F]
            · exact ((extTrans g u.ok).setCell (p := ⟨W2.heap.size, 0, none⟩) Hs.out _).setCell (p := ⟨W2.heap.size, 1, none⟩) Hs.out _
end Go.Proofs.Ytdhhneflhmkonaa
