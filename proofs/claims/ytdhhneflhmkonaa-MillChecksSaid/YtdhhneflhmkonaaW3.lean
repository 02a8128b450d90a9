import Derived.Test.YtdhhneflhmkonaaW2
namespace Go.Proofs.Ytdhhneflhmkonaa
open Go.RowKit

theorem flour_any (y : Yield) (r : Rng) (w : World) (h0 : 0 ≤ y.lo) (h1 : y.lo ≤ 1000) (h2 : 0 ≤ y.hi) (h3 : y.hi ≤ 1000) (h4 : 0 ≤ r.lo) (h5 : r.lo ≤ 2000) (h6 : 0 ≤ r.hi) (h7 : r.hi ≤ 2000) (h8 : 2 ≤ y.toll) :
    Calls Try.prog 84 #[yv y, rv r] w fun e w' => e = .returned (rv ⟨grd y.toll (thr y.lo r.lo), grd y.toll (thr y.hi r.hi)⟩) ∧ Below w.heap.size w w' := by
  obtain ⟨a1, a2, a3, a4⟩ := thr_bd h0 h1 h4 h5
  obtain ⟨b1, b2, b3, b4⟩ := thr_bd h2 h3 h6 h7
  obtain ⟨u, hu⟩ : ∃ u, thr y.lo r.lo = u := ⟨_, rfl⟩
  obtain ⟨v, hv⟩ : ∃ v, thr y.hi r.hi = v := ⟨_, rfl⟩
  have k1 : 0 ≤ u ∧ u ≤ 20000 := by rw [← hu]; exact ⟨a3, a4⟩
  have k2 : 0 ≤ v ∧ v ≤ 20000 := by rw [← hv]; exact ⟨b3, b4⟩
  have Hc := Lib.hid (fun w => threshed_any y r w h0 h1 h2 h3 h4 h5 h6 h7)
  rw [hu, hv] at Hc ⊢
  clear a1 a2 a3 a4 b1 b2 b3 b4 hu hv h0 h1 h2 h3 h4 h5 h6 h7
  obtain ⟨k1, k1'⟩ := k1
  obtain ⟨k2, k2'⟩ := k2
  go_enter Try.func84, Try.ntmps84
  go_wp2_with fail
  generalize hW1 : w.alloc (.cells #[.int .i64 y.lo, .int .i64 y.hi, .int .i64 y.toll] 38) = W1
  obtain ⟨g1, c0, c1, c2⟩ := box3 hW1
  rw [← boxSize hW1]
  generalize hW2 : W1.alloc (.cells #[.int .i64 r.lo, .int .i64 r.hi] 36) = W2
  obtain ⟨g2, d0, d1⟩ := box2 hW2
  rw [← boxSize hW2]
  generalize hW3 : W2.alloc (.cells #[.int .i64 0, .int .i64 0] 36) = W3
  obtain ⟨g3, r0, r1⟩ := box2 hW3
  have z0 := boxFree hW3 0
  have z1 := boxFree hW3 1
  have c0 := cellW c0 ⟨_, extTrans g2 g3⟩
  have c1 := cellW c1 ⟨_, extTrans g2 g3⟩
  have c2 := cellW c2 ⟨_, extTrans g2 g3⟩
  dsimp only at c0 c1 c2
  refine (Hc.out W3).mono ?_
  rintro e w' ⟨rfl, hb⟩
  obtain ⟨x, rfl⟩ := Wd.of hb
  have c0 := cellW c0 x
  have c1 := cellW c1 x
  have c2 := cellW c2 x
  have hfz0 := frozenW r0 z0 x
  have hfz1 := frozenW r1 z1 x
  have r0 := cellW r0 x
  have r1 := cellW r1 x
  have Hs := Lib.hid (show w.heap.size ≤ W2.heap.size by have := g1.size; have := g2.size; omega)
  have hsz := x.size
  clear hW1 hW2 hW3
  go_wp2_with fail
  generalize hW4 : x.val.alloc (.cells #[.int .i64 u, .int .i64 v] 36) = W4
  obtain ⟨g4, s0, s1⟩ := box2 hW4
  have h4 : ∀ {a : Addr} {v : Value}, x.val.cell? a = some v → ∀ y : Wd W4, y.val.cell? a = some v := fun h => cellW (cellW h ⟨_, g4⟩)
  have f4 : ∀ {a : Addr} {v : Value} {b : Bool}, x.val.cell? a = some v → x.val.frozen? a = b → ∀ y : Wd W4, y.val.frozen? a = b := fun h hf => frozenW (cellW h ⟨_, g4⟩) (frozenW h hf ⟨_, g4⟩)
  have c0 := h4 c0
  have c1 := h4 c1
  have c2 := h4 c2
  have hfz0 := f4 r0 hfz0
  have hfz1 := f4 r1 hfz1
  have r0 := h4 r0
  have r1 := h4 r1
  have s0 := cellW s0
  have s1 := cellW s1
  clear h4 f4
  clear hW4
  refine wp_region_calm_tail W4 8 (by kernel_rfl) (by kernel_rfl) (Below.refl _ _) ?_
  simp only [List.take_succ_cons, List.take_zero, List.drop_succ_cons, List.drop_zero]
  repeat (go_big_quiet_step ((go_at_call 105; exact callsCalm (ground_any y _ _ (by omega) (by omega) h8))))
  refine wpQuiet_nil ?_
  rintro _ ⟨z, rfl⟩
  go_wp2
  refine bodyPost_ret (v := rv ⟨grd y.toll u, grd y.toll v⟩) ?_ rfl ⟨rfl, ?_⟩
  · simp [results, Try.results84, go_sem, r0, r1]
  · have hz := extTrans g1 (extTrans g2 (extTrans g3 (extTrans x.ok (extTrans g4 z.ok))))
    exact (hz.setCell (p := ⟨W2.heap.size, 0, none⟩) Hs.out _).setCell (p := ⟨W2.heap.size, 1, none⟩) Hs.out _

def givesB (y : Yield) (b : Int) (want : Rng) : Bool := (List.range (y.hi - y.lo + 1).toNat).any fun k => rng (grd y.toll ((y.lo + k) * b / 100)) want.lo want.hi

theorem gives_yes {y : Yield} {b : Int} {r : Rng} {k : Nat} (hk : k ≤ (y.hi - y.lo + 1).toNat) (hlt : y.lo + k ≤ y.hi) (h : rng (grd y.toll ((y.lo + k) * b / 100)) r.lo r.hi = true) : givesB y b r = true := by
  unfold givesB
  rw [List.any_eq_true]
  exact ⟨k, List.mem_range.2 (by omega), h⟩
theorem gives_next {y : Yield} {b : Int} {r : Rng} {k : Nat} (h : ∀ j : Nat, j < k → rng (grd y.toll ((y.lo + j) * b / 100)) r.lo r.hi = false) (hk : rng (grd y.toll ((y.lo + k) * b / 100)) r.lo r.hi = false) :
    ∀ j : Nat, j < k + 1 → rng (grd y.toll ((y.lo + j) * b / 100)) r.lo r.hi = false := by
  intro j hj
  by_cases hjk : j < k
  · exact h j hjk
  · obtain rfl : j = k := by omega
    exact hk
theorem gives_no {y : Yield} {b : Int} {r : Rng} {k : Nat} (hk : (y.hi - y.lo + 1).toNat ≤ k) (h : ∀ j : Nat, j < k → rng (grd y.toll ((y.lo + j) * b / 100)) r.lo r.hi = false) : givesB y b r = false := by
  unfold givesB
  rw [List.any_eq_false]
  intro j hj
  rw [h j (by have := List.mem_range.1 hj; omega)]
  decide

theorem gives_any (y : Yield) (b : Int) (r : Rng) (w : World) (h0 : 0 ≤ y.lo) (h1 : y.lo ≤ y.hi) (h3 : y.hi ≤ 1000) (h4 : 0 ≤ b) (h5 : b ≤ 2000) (h8 : 2 ≤ y.toll) :
    Calls Try.prog 86 #[yv y, .int .i64 b, rv r] w fun e w' => e = .returned (.bool (givesB y b r)) ∧ Below w.heap.size w w' := by
  go_enter Try.func86, Try.ntmps86
  go_wp2_with fail
  generalize hW1 : w.alloc (.cells #[.int .i64 y.lo, .int .i64 y.hi, .int .i64 y.toll] 38) = W1
  obtain ⟨g1, c0, c1, c2⟩ := box3 hW1
  rw [← boxSize hW1]
  generalize hW2 : W1.alloc (.cells #[.int .i64 r.lo, .int .i64 r.hi] 36) = W2
  obtain ⟨g2, d0, d1⟩ := box2 hW2
  have F : ∀ x : Wd W2, x.val.cell? ⟨w.heap.size, 0, none⟩ = some (.int .i64 y.lo) ∧ x.val.cell? ⟨w.heap.size, 1, none⟩ = some (.int .i64 y.hi) ∧ x.val.cell? ⟨w.heap.size, 2, none⟩ = some (.int .i64 y.toll) ∧
      x.val.cell? ⟨W1.heap.size, 0, none⟩ = some (.int .i64 r.lo) ∧ x.val.cell? ⟨W1.heap.size, 1, none⟩ = some (.int .i64 r.hi) :=
    fun x => ⟨cellL g2 c0 x, cellL g2 c1 x, cellL g2 c2 x, cellW d0 x, cellW d1 x⟩
  have g := extTrans g1 g2
  clear hW1 hW2 c0 c1 c2 d0 d1 g1 g2
  go_loopw [7] (fun i wr => ∃ k : Nat, k ≤ (y.hi - y.lo + 1).toNat ∧ i = .int .i64 (y.lo + k) ∧ (∃ x : Wd W2, wr = x.val) ∧ (∀ j : Nat, j < k → rng (grd y.toll ((y.lo + j) * b / 100)) r.lo r.hi = false)) (fun i _ => (y.hi - y.lo + 1).toNat - (intOf i - y.lo).toNat)
  case atStart => exact ⟨0, Nat.zero_le _, by simp, Wd.self _, fun j hj => absurd hj (by omega)⟩
  case round =>
    obtain ⟨k, hk, rfl, ⟨x, rfl⟩, hno⟩ := hrel
    have Hno := Lib.hid hno
    clear hno
    by_cases hlt : y.lo + k ≤ y.hi
    · obtain ⟨m1, m2, m3, m4⟩ := thr_bd (g := y.lo + k) (b := b) (by omega) (by omega) h4 h5
      cases hr : rng (grd y.toll ((y.lo + k) * b / 100)) r.lo r.hi
      all_goals
        have Hr := Lib.hid hr
        clear hr
        go_wp2_with fail
        refine wp_region_calm W2 (by kernel_rfl) (by kernel_rfl) x.ok ?_
        repeat (go_big_quiet_step (first | (go_at_call 105; exact callsCalm (ground_any y _ _ (by omega) (by omega) h8)) | (go_at_call 64; exact callsCalmSame (callsRet (within_any _ _ _ _) (by rw [Hr.out])))))
        refine wpQuiet_nil ?_
        rintro _ ⟨z, rfl⟩
        go_wp2
        first
          | (go_ret
             exact ⟨ret_bool (gives_yes hk hlt Hr.out).symm, extTrans g z.ok⟩)
          | (go_roundw
             case rel => exact ⟨k + 1, by omega, by go_num, ⟨z, rfl⟩, gives_next Hno.out Hr.out⟩
             case measure => simp [intOf]; omega)
    · go_wp2
      go_ret
      exact ⟨ret_bool (gives_no (by omega) Hno.out).symm, extTrans g x.ok⟩
end Go.Proofs.Ytdhhneflhmkonaa
