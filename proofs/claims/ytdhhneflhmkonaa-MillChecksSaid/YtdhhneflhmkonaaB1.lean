/- Plain: the bounds of what is threshed and ground. -/
import Derived.Test.YtdhhneflhmkonaaR4
import Derived.Test.YtdhhneflhmkonaaR5
namespace Go.Proofs.Ytdhhneflhmkonaa
open Go.RowKit

theorem bScan_lo (y : Yield) (r : Rng) : ∀ k : Nat, (bScan y r k).1 = true → (bScan y r k).2.1 < k
  | 0 => by simp [bScan]
  | k + 1 => by
    have ih := bScan_lo y r k
    intro h
    unfold bScan at h ⊢
    split
    · cases hf : (bScan y r k).1
      · simp; omega
      · have := ih hf; simp [hf] at *; omega
    · rename_i hb
      rw [if_neg hb] at h
      have := ih h; omega
/-- A number of bundles that gives the flour lies within the scan. -/
theorem bScan_in (y : Yield) (r : Rng) {q : Nat} (hq : bTest y r q = true) : ∀ k : Nat, q < k → (bScan y r k).1 = true ∧ (bScan y r k).2.1 ≤ q ∧ (q : Int) ≤ (bScan y r k).2.2
  | 0 => fun h => absurd h (by omega)
  | k + 1 => fun h => by
    by_cases hk : q < k
    · obtain ⟨h1, h2, h3⟩ := bScan_in y r hq k hk
      unfold bScan
      split
      · refine ⟨rfl, ?_, ?_⟩
        · simp; exact h2
        · simp; omega
      · exact ⟨h1, h2, h3⟩
    · obtain rfl : q = k := by omega
      unfold bScan
      rw [if_pos hq]
      refine ⟨rfl, ?_, ?_⟩
      · dsimp only
        split
        · rename_i hf
          have := bScan_lo y r q hf; omega
        · omega
      · simp
theorem thr_mono2 {a p q : Int} (ha : 0 ≤ a) (hpq : p ≤ q) : thr a p ≤ thr a q := Int.ediv_le_ediv (by decide) (Int.mul_le_mul_of_nonneg_left hpq ha)
theorem grd_bd {t g : Int} (ht : 2 ≤ t) (h0 : 0 ≤ g) : 0 ≤ grd t g ∧ grd t g ≤ g ∧ 0 ≤ g / t ∧ g / t ≤ g := by
  have h1 : 0 ≤ g / t := Int.ediv_nonneg h0 (by omega)
  have h2 : g / t ≤ g := Int.ediv_le_self _ h0
  unfold grd; omega

structure BoundsF (a h t bl bh n q G D L R : Int) : Prop where
  e1 : askedE ⟨a, h, t⟩ ⟨bl, bh⟩ 2000 = 0
  e2 : askedE ⟨n, n, t⟩ ⟨q, q⟩ 2000 = 0
  e3 : askedE ⟨a, h, t⟩ ⟨G, G⟩ 20000 = 0
  e4 : bunE ⟨a, h, t⟩ ⟨D, D⟩ = 0
  e5 : askedE ⟨a, a, t⟩ ⟨bl, bl⟩ 2000 = 0
  e6 : askedE ⟨h, h, t⟩ ⟨bh, bh⟩ 2000 = 0
  v1 : ThreshedV ⟨a, h, t⟩ ⟨bl, bh⟩ = ⟨thr a bl, thr h bh⟩
  v2 : FlourV ⟨a, h, t⟩ ⟨bl, bh⟩ = ⟨grd t (thr a bl), grd t (thr h bh)⟩
  v3 : ThreshedV ⟨n, n, t⟩ ⟨q, q⟩ = ⟨G, G⟩
  v4 : FlourV ⟨n, n, t⟩ ⟨q, q⟩ = ⟨D, D⟩
  v5 : TollV ⟨a, h, t⟩ G = G - D
  v6 : bunV ⟨a, h, t⟩ ⟨D, D⟩ = ⟨L, R⟩
  v7 : FlourV ⟨a, a, t⟩ ⟨bl, bl⟩ = ⟨grd t (thr a bl), grd t (thr a bl)⟩
  v8 : FlourV ⟨h, h, t⟩ ⟨bh, bh⟩ = ⟨grd t (thr h bh), grd t (thr h bh)⟩
  g1 : thr a bl ≤ G
  g2 : G ≤ thr h bh
  d1 : grd t (thr a bl) ≤ D
  d2 : D ≤ grd t (thr h bh)
  l1 : L ≤ q
  r1 : q ≤ R
  g0 : 0 ≤ G ∧ G ≤ 20000
  d0 : 0 ≤ D ∧ D ≤ 20000

theorem asked0 {y : Yield} {r : Rng} {m : Int} (h0 : 0 ≤ y.lo) (h1 : y.lo ≤ y.hi) (h2 : y.hi ≤ 1000) (h3 : 2 ≤ y.toll) (h4 : y.toll ≤ 100) (h5 : 0 ≤ r.lo) (h6 : r.lo ≤ r.hi) (h7 : r.hi ≤ m) : askedE y r m = 0 := by
  have e : isYield y = true := by simp [isYield, rng]; omega
  have e2 : (decide (0 ≤ r.lo) && decide (r.lo ≤ r.hi) && decide (r.hi ≤ m)) = true := by simp; omega
  unfold askedE; rw [e, e2]; rfl

theorem boundsF {a h t bl bh n q : Int} (h1 : 0 ≤ a) (h2 : a ≤ n) (h3 : n ≤ h) (h4 : h ≤ 1000) (h5 : 2 ≤ t) (h6 : t ≤ 100) (h7 : 0 ≤ bl) (h8 : bl ≤ q) (h9 : q ≤ bh) (h10 : bh ≤ 2000) :
    ∃ G D L R, BoundsF a h t bl bh n q G D L R := by
  obtain ⟨p1, p2, p3, p4⟩ := thr_bd (g := n) (b := q) (by omega) (by omega) (by omega) (by omega)
  have G0 : 0 ≤ thr n q ∧ thr n q ≤ 20000 := ⟨p3, p4⟩
  obtain ⟨q1, q2, q3, q4⟩ := grd_bd h5 G0.1
  have e1 : askedE ⟨a, h, t⟩ ⟨bl, bh⟩ 2000 = 0 := asked0 h1 (by dsimp only; omega) h4 h5 h6 h7 (by dsimp only; omega) h10
  have e2 : askedE ⟨n, n, t⟩ ⟨q, q⟩ 2000 = 0 := asked0 (by dsimp only; omega) (by dsimp only; omega) (by dsimp only; omega) h5 h6 (by dsimp only; omega) (by dsimp only; omega) (by dsimp only; omega)
  have e3 : askedE ⟨a, h, t⟩ ⟨thr n q, thr n q⟩ 20000 = 0 := asked0 h1 (by dsimp only; omega) h4 h5 h6 G0.1 (Int.le_refl _) G0.2
  have e4 : askedE ⟨a, h, t⟩ ⟨grd t (thr n q), grd t (thr n q)⟩ 20000 = 0 := asked0 h1 (by dsimp only; omega) h4 h5 h6 q1 (Int.le_refl _) (by dsimp only; omega)
  have e5 : askedE ⟨a, a, t⟩ ⟨bl, bl⟩ 2000 = 0 := asked0 h1 (Int.le_refl _) (by dsimp only; omega) h5 h6 h7 (Int.le_refl _) (by dsimp only; omega)
  have e6 : askedE ⟨h, h, t⟩ ⟨bh, bh⟩ 2000 = 0 := asked0 (by dsimp only; omega) (Int.le_refl _) h4 h5 h6 (by dsimp only; omega) (Int.le_refl _) h10
  have m1 : thr a bl ≤ thr n q := Int.le_trans (thr_mono h2 h7) (thr_mono2 (by omega) h8)
  have m2 : thr n q ≤ thr h bh := Int.le_trans (thr_mono h3 (by omega)) (thr_mono2 (by omega) h9)
  obtain ⟨k, rfl⟩ : ∃ k : Nat, q = k := ⟨q.toNat, by omega⟩
  have hb : bTest ⟨a, h, t⟩ ⟨grd t (thr n k), grd t (thr n k)⟩ k = true := by
    rw [bTest_eq _ _ _ (by dsimp only; omega) (by omega) h5, givesB_iff]
    exact ⟨n, h2, h3, Int.le_refl _, Int.le_refl _⟩
  obtain ⟨b1, b2, b3⟩ := bScan_in _ _ hb 2001 (by omega)
  exact ⟨thr n k, grd t (thr n k), _, _,
    { e1 := e1, e2 := e2, e3 := e3, e5 := e5, e6 := e6
      e4 := by unfold bunE; rw [if_pos e4, if_pos b1]
      v1 := by unfold ThreshedV; rw [if_pos e1]
      v2 := by unfold FlourV; rw [if_pos e1]
      v3 := by unfold ThreshedV; rw [if_pos e2]
      v4 := by unfold FlourV; rw [if_pos e2]
      v5 := by unfold TollV; rw [if_pos e3]; unfold grd; dsimp only; omega
      v6 := by unfold bunV; rw [if_pos e4]
      v7 := by unfold FlourV; rw [if_pos e5]
      v8 := by unfold FlourV; rw [if_pos e6]
      g1 := m1, g2 := m2, d1 := grd_mono (by omega) m1, d2 := grd_mono (by omega) m2
      l1 := b2, r1 := b3, g0 := G0, d0 := ⟨q1, by omega⟩ }⟩
end Go.Proofs.Ytdhhneflhmkonaa
