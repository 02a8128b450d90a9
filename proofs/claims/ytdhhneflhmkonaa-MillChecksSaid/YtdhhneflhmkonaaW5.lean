/- Bundles: the numbers of bundles that may give some flour. -/
import Derived.Test.YtdhhneflhmkonaaW4
namespace Go.Proofs.Ytdhhneflhmkonaa
open Go.RowKit

/-- Whether so many bundles may give some flour. -/
def bTest (y : Yield) (r : Rng) (b : Int) : Bool := !(decide (grd y.toll (thr y.hi b) < r.lo) || decide (r.hi < grd y.toll (thr y.lo b)) || !givesB y b r)
/-- The least and the greatest number below k that may, if there are any. -/
def bScan (y : Yield) (r : Rng) : Nat → Bool × Int × Int
  | 0 => (false, 0, 0)
  | k + 1 => if bTest y r k then (true, if (bScan y r k).1 then (bScan y r k).2.1 else k, k) else bScan y r k
def bunE (y : Yield) (r : Rng) : Int := if askedE y r 20000 = 0 then (if (bScan y r 2001).1 then 0 else 3) else askedE y r 20000
def bunV (y : Yield) (r : Rng) : Rng := if askedE y r 20000 = 0 then ⟨(bScan y r 2001).2.1, (bScan y r 2001).2.2⟩ else ⟨0, 0⟩

theorem bScan_none (y : Yield) (r : Rng) : ∀ k, (bScan y r k).1 = false → bScan y r k = (false, 0, 0)
  | 0, _ => rfl
  | k + 1, h => by
    unfold bScan at h ⊢
    split
    · rename_i ht; rw [if_pos ht] at h; cases h
    · rename_i ht; rw [if_neg ht] at h; exact bScan_none y r k h

set_option maxRecDepth 100000 in
set_option maxHeartbeats 2000000 in
theorem Bundles_any (y : Yield) (r : Rng) (w : World) :
    Calls Try.prog 28 #[yv y, rv r] w fun e w' => e = .returned (.tuple #[rv (bunV y r), .int .i64 (bunE y r)]) ∧ Below w.heap.size w w' := by
  obtain ⟨v, hv⟩ : ∃ v, askedE y r 20000 = v := ⟨_, rfl⟩
  have hok : v = 0 → _ := fun e => askedE_ok (y := y) (r := r) (m := 20000) (hv.trans e)
  have hE : bunE y r = if v = 0 then (if (bScan y r 2001).1 then 0 else 3) else v := by rw [← hv]; rfl
  have hV : bunV y r = if v = 0 then ⟨(bScan y r 2001).2.1, (bScan y r 2001).2.2⟩ else ⟨0, 0⟩ := by rw [← hv]; rfl
  have HE := Lib.hid hE
  have HV := Lib.hid hV
  have Hv := Lib.hid hv
  have Hok := Lib.hid hok
  clear hv hok hV hE
  go_enter Try.func28, Try.ntmps28
  go_wp2_with fail
  generalize hW1 : w.alloc (.cells #[.int .i64 y.lo, .int .i64 y.hi, .int .i64 y.toll] 38) = W1
  obtain ⟨g1, c0, c1, c2⟩ := box3 hW1
  rw [← boxSize hW1]
  generalize hW2 : W1.alloc (.cells #[.int .i64 r.lo, .int .i64 r.hi] 36) = W2
  obtain ⟨g2, d0, d1⟩ := box2 hW2
  rw [← boxSize hW2]
  generalize hW3 : W2.alloc (.cells #[.int .i64 0, .int .i64 0] 36) = W3
  obtain ⟨g3, r0, r1⟩ := box2 hW3
  have F : ∀ x : Wd W3, x.val.cell? ⟨w.heap.size, 0, none⟩ = some (.int .i64 y.lo) ∧ x.val.cell? ⟨w.heap.size, 1, none⟩ = some (.int .i64 y.hi) ∧ x.val.cell? ⟨w.heap.size, 2, none⟩ = some (.int .i64 y.toll) ∧
      x.val.cell? ⟨W1.heap.size, 0, none⟩ = some (.int .i64 r.lo) ∧ x.val.cell? ⟨W1.heap.size, 1, none⟩ = some (.int .i64 r.hi) ∧
      x.val.cell? ⟨W2.heap.size, 0, none⟩ = some (.int .i64 0) ∧ x.val.cell? ⟨W2.heap.size, 1, none⟩ = some (.int .i64 0) ∧ x.val.frozen? ⟨W2.heap.size, 0, none⟩ = false ∧ x.val.frozen? ⟨W2.heap.size, 1, none⟩ = false :=
    fun x => ⟨cellL (extTrans g2 g3) c0 x, cellL (extTrans g2 g3) c1 x, cellL (extTrans g2 g3) c2 x, cellL g3 d0 x, cellL g3 d1 x, cellW r0 x, cellW r1 x, frozenW r0 (boxFree hW3 0) x, frozenW r1 (boxFree hW3 1) x⟩
  have g := extTrans g1 (extTrans g2 g3)
  have Hs := Lib.hid (show w.heap.size ≤ W2.heap.size by have := g1.size; have := g2.size; omega)
  have s2 : W2.heap.size < W3.heap.size := by rw [boxSize hW3]; omega
  have s1 : W1.heap.size < W3.heap.size := by have := boxSize hW2; omega
  have s0 : w.heap.size < W3.heap.size := by have := boxSize hW1; omega
  have G : ∀ x : Wd W3, w.heap.size < x.val.heap.size ∧ W1.heap.size < x.val.heap.size ∧ W2.heap.size < x.val.heap.size := fun x => by have := x.size; omega
  clear s0 s1 s2
  clear hW1 hW2 hW3 c0 c1 c2 d0 d1 r0 r1 g1 g2 g3
  refine (callsAt (R := fun e _ => e = .returned (.int .i64 v)) (x := ⟨W3, Below.refl _ _⟩) (callsRet (asked_any y r 20000 W3) (by rw [Hv.out]))).mono ?_
  rintro e w' ⟨x, rfl, rfl⟩
  by_cases h0 : v = 0
  · obtain ⟨-, k1, k2, k3, k4, k5, k6, k7, k8⟩ := Hok.out h0
    have Hy := Lib.hid h0
    subst h0
    go_wp2_with fail
    generalize hW4 : x.val.alloc (.cells #[.int .i64 0, .int .i64 0] 36) = W4
    have hB : Blk W4 x.val.heap.size 36 #[.int .i64 0, .int .i64 0] := by rw [← hW4]; exact Blk.new _ _ _
    have g4 : Below W3.heap.size W3 W4 := by rw [← hW4]; exact x.ok.alloc x.size _
    clear hW4
    go_loopw [8, 19] (fun f i wr => ∃ k : Nat, k ≤ 2001 ∧ i = .int .i64 k ∧ f = .bool (bScan y r k).1 ∧ (∃ z : Wd W3, wr = z.val) ∧ Blk wr x.val.heap.size 36 #[.int .i64 (bScan y r k).2.1, .int .i64 (bScan y r k).2.2]) (fun _ i _ => 2001 - (intOf i).toNat)
    case atStart => exact ⟨0, by omega, rfl, rfl, Wd.of g4, hB⟩
    case round =>
      obtain ⟨k, hk, rfl, rfl, ⟨z, rfl⟩, hb⟩ := hrel
      by_cases hlt : k < 2001
      · obtain ⟨lo, hlo⟩ : ∃ lo, (bScan y r k).2.1 = lo := ⟨_, rfl⟩
        obtain ⟨hi, hhi⟩ : ∃ hi, (bScan y r k).2.2 = hi := ⟨_, rfl⟩
        obtain ⟨fd, hfd⟩ : ∃ fd, (bScan y r k).1 = fd := ⟨_, rfl⟩
        obtain ⟨p, hp⟩ : ∃ p, grd y.toll (thr y.hi k) = p := ⟨_, rfl⟩
        obtain ⟨q, hq⟩ : ∃ q, grd y.toll (thr y.lo k) = q := ⟨_, rfl⟩
        have Hflour := Lib.hid (fun w => flour_any y ⟨k, k⟩ w k1 (by omega) (by omega) k3 (by simp) (by simp; omega) (by simp) (by simp; omega) k4)
        have Hgives := Lib.hid (fun w => gives_any y k r w k1 k2 k3 (by omega) (by omega) k4)
        rw [hp, hq] at Hflour
        rw [hlo, hhi] at hb
        rw [hfd]
        have hT : bTest y r k = !(decide (p < r.lo) || decide (r.hi < q) || !givesB y k r) := by rw [← hp, ← hq]; rfl
        have hS : bScan y r (k + 1) = if bTest y r k then (true, if fd then lo else (k : Int), (k : Int)) else (fd, lo, hi) := by
          rw [← hfd, ← hlo, ← hhi]; rfl
        have HT := Lib.hid hT
        have HS := Lib.hid hS
        clear hlo hhi hfd hp hq hT hS k1 k2 k3 k4 k5 k6 k7 k8
        have hb0 : z.val.cell? ⟨x.val.heap.size, 0, none⟩ = some (.int .i64 lo) := hb.cell 0
        have hb1 : z.val.cell? ⟨x.val.heap.size, 1, none⟩ = some (.int .i64 hi) := hb.cell 1
        have hf0 := hb.frozen 0
        have hf1 := hb.frozen 1
        have no : bTest y r k = false → bScan y r (k + 1) = (fd, lo, hi) := fun h => by rw [HS.out, h]; rfl
        have No := Lib.hid no
        clear no
        rcases (show p < r.lo ∨ (r.lo ≤ p ∧ r.hi < q) ∨ (r.lo ≤ p ∧ q ≤ r.hi ∧ givesB y k r = false) ∨ (r.lo ≤ p ∧ q ≤ r.hi ∧ givesB y k r = true) from by
          cases givesB y k r <;> simp <;> omega) with hA | ⟨hA, hC⟩ | ⟨hA, hC, hG⟩ | ⟨hA, hC, hG⟩
        · have HN := Lib.hid (No.out (by rw [HT.out]; simp [hA]))
          go_wp2_with (first | (go_at_call 84; refine (callsAt2 (Hflour.out _)).mono ?_; rintro e w' ⟨z2, rfl, rfl, hbb⟩; have hB2 := hb.ext hbb; have hlt2 := hB2.lt; have Hbb := Lib.hid hbb; clear hbb))
          go_roundw
          case rel => exact ⟨k + 1, by omega, by go_num, by rw [HN.out], z2.alloc _, by rw [HN.out]; exact hB2.alloc _⟩
          case measure => simp [intOf]; omega
        · have HN := Lib.hid (No.out (by rw [HT.out]; simp [hC]))
          go_wp2_with (first | (go_at_call 84; refine (callsAt2 (Hflour.out _)).mono ?_; rintro e w' ⟨z2, rfl, rfl, hbb⟩; have hB2 := hb.ext hbb; have hlt2 := hB2.lt; have Hbb := Lib.hid hbb; clear hbb))
          go_roundw
          case rel => exact ⟨k + 1, by omega, by go_num, by rw [HN.out], z2.alloc _, by rw [HN.out]; exact hB2.alloc _⟩
          case measure => simp [intOf]; omega
        · have HN := Lib.hid (No.out (by rw [HT.out, hG]; simp))
          have Hg := Lib.hid hG
          have hA' : decide (p < r.lo) = false := by simpa using hA
          have hC' : decide (r.hi < q) = false := by simpa using hC
          clear hG
          go_wp2_with (first
            | (go_at_call 84; refine (callsAt2 (Hflour.out _)).mono ?_; rintro e w' ⟨z2, rfl, rfl, hbb⟩; have hB2 := hb.ext hbb; have hlt2 := hB2.lt; obtain ⟨z3, hz3⟩ := z2.alloc (.cells #[.int .i64 q, .int .i64 p] 36); have HZ3 := Lib.hid hz3; clear hz3; have Hbb := Lib.hid hbb; clear hbb)
            | (go_at_call 86; rw [HZ3.out]; refine (callsAt2 (callsRet (Hgives.out _) (by rw [Hg.out]))).mono ?_; rintro e w' ⟨z4, rfl, rfl, hbb⟩))
          have hB4 := ((HZ3.out ▸ hB2.alloc (.cells #[.int .i64 q, .int .i64 p] 36) : Blk z3.val _ _ _)).ext hbb
          go_roundw
          case rel => exact ⟨k + 1, by omega, by go_num, by rw [HN.out], ⟨z4, rfl⟩, by rw [HN.out]; exact hB4⟩
          case measure => simp [intOf]; omega
        · have HN := Lib.hid (show bScan y r (k + 1) = (true, if fd then lo else (k : Int), (k : Int)) by rw [HS.out, HT.out, hG, if_pos]; simp; omega)
          have Hg := Lib.hid hG
          have hA' : decide (p < r.lo) = false := by simpa using hA
          have hC' : decide (r.hi < q) = false := by simpa using hC
          clear hG
          cases fd
          all_goals
            go_wp2_with (first
              | (go_at_call 84; refine (callsAt2 (Hflour.out _)).mono ?_; rintro e w' ⟨z2, rfl, rfl, hbb⟩; have hB2 := hb.ext hbb; have hlt2 := hB2.lt; obtain ⟨z3, hz3⟩ := z2.alloc (.cells #[.int .i64 q, .int .i64 p] 36); have HZ3 := Lib.hid hz3; clear hz3; have Hbb := Lib.hid hbb; clear hbb)
              | (go_at_call 86; rw [HZ3.out]; refine (callsAt2 (callsRet (Hgives.out _) (by rw [Hg.out]))).mono ?_; rintro e w' ⟨z4, rfl, rfl, hbb⟩; have hB4 := ((HZ3.out ▸ hB2.alloc (.cells #[.int .i64 q, .int .i64 p] 36) : Blk z3.val _ _ _)).ext hbb; have m0 : z4.val.cell? ⟨x.val.heap.size, 0, none⟩ = some (.int .i64 lo) := hB4.cell 0; have m1 : z4.val.cell? ⟨x.val.heap.size, 1, none⟩ = some (.int .i64 hi) := hB4.cell 1; have n0 := hB4.frozen 0; have n1 := hB4.frozen 1))
            go_roundw
            case rel =>
              refine ⟨k + 1, by omega, by go_num, by rw [HN.out], ?_, ?_⟩
              · first
                  | exact Wd.of ((z4.ok.setCell (p := ⟨x.val.heap.size, 0, none⟩) x.size _).setCell (p := ⟨x.val.heap.size, 1, none⟩) x.size _)
                  | exact Wd.of (z4.ok.setCell (p := ⟨x.val.heap.size, 1, none⟩) x.size _)
              · rw [HN.out]
                first
                  | exact (hB4.set_ 0 _).set_ 1 _
                  | exact hB4.set_ 1 _
            case measure => simp [intOf]; omega
      · obtain rfl : k = 2001 := by omega
        cases hfd : (bScan y r 2001).1
        · have hbs := bScan_none y r 2001 hfd
          rw [hbs] at hb
          have HB := Lib.hid hbs
          clear hbs hfd k1 k2 k3 k4 k5 k6 k7 k8
          go_wp2
          refine bodyPost_ret (v := .tuple #[rv (bunV y r), .int .i64 (bunE y r)]) ?_ rfl ⟨rfl, ?_⟩
          · rw [HV.out, HE.out, if_pos trivial, if_pos trivial, HB.out]; simp [results, Try.results28, go_sem, F]
          · exact ((extTrans g z.ok).setCell (p := ⟨W2.heap.size, 0, none⟩) Hs.out _).setCell (p := ⟨W2.heap.size, 1, none⟩) Hs.out _
        · have HB := Lib.hid hfd
          obtain ⟨lo, hlo⟩ : ∃ lo, (bScan y r 2001).2.1 = lo := ⟨_, rfl⟩
          obtain ⟨hi, hhi⟩ : ∃ hi, (bScan y r 2001).2.2 = hi := ⟨_, rfl⟩
          rw [hlo, hhi] at hb
          have HLO := Lib.hid hlo
          have HHI := Lib.hid hhi
          clear hlo hhi hfd k1 k2 k3 k4 k5 k6 k7 k8
          have hb0 : z.val.cell? ⟨x.val.heap.size, 0, none⟩ = some (.int .i64 lo) := hb.cell 0
          have hb1 : z.val.cell? ⟨x.val.heap.size, 1, none⟩ = some (.int .i64 hi) := hb.cell 1
          go_wp2
          refine bodyPost_ret (v := .tuple #[rv (bunV y r), .int .i64 (bunE y r)]) ?_ rfl ⟨rfl, ?_⟩
          · rw [HV.out, HE.out, if_pos trivial, if_pos trivial, HB.out, HLO.out, HHI.out]; simp [results, Try.results28, go_sem, F]
          · exact ((extTrans g z.ok).setCell (p := ⟨W2.heap.size, 0, none⟩) Hs.out _).setCell (p := ⟨W2.heap.size, 1, none⟩) Hs.out _
  · have h0' : (v != 0) = true := by simpa using h0
    have Hne := Lib.hid h0
    clear h0
    go_wp2_with fail
    refine bodyPost_ret (v := .tuple #[rv (bunV y r), .int .i64 (bunE y r)]) ?_ rfl ⟨rfl, ?_⟩
    · rw [HV.out, HE.out, if_neg Hne.out, if_neg Hne.out]; simp [results, Try.results28, go_sem, F]
    · exact ((extTrans g x.ok).setCell (p := ⟨W2.heap.size, 0, none⟩) Hs.out _).setCell (p := ⟨W2.heap.size, 1, none⟩) Hs.out _
end Go.Proofs.Ytdhhneflhmkonaa
