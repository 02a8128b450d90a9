/- Stands: BinarySearchFunc where all lies below the target. -/
import Derived.Test.YtkoejeghihcmlaaGreatWD
import Derived.Test.YtkoejeghihcmlaaGreatWG
namespace Go.Proofs.YtkoejeghihcmlaaGreat
open Go.RowKit Go.Shelf

theorem bySrc_any (x y : Six) (w : World) : Calls Tryz.prog 134 #[sv x, sv y] w fun e w' => e = .returned (.int .i64 (cmpI x.a y.a)) ∧ Below w.heap.size w w' := by
  have T := fun W => cmp_any x.a y.a W
  generalize cmpI x.a y.a = r at T ⊢
  have HT := Lib.hid T
  clear T
  go_enter Tryz.func134, Tryz.ntmps134
  go_wp2_with (go_at_call 135; (with_reducible refine (HT.out _).mono ?_); rintro e w' ⟨rfl, rfl⟩)
  go_ret
  exact ⟨rfl, two_more _ _ _⟩
set_option maxRecDepth 100000 in
set_option maxHeartbeats 4000000 in
theorem bsearch_any (A : Option Addr) (n c : Nat) (l : List Six) (s : Six) (w : World) (ha : Arr scells 6 w A n l) (hn : n ≤ 1000) (hl : ∀ y ∈ l, y.a < s.a) :
    Calls Tryz.prog 133 #[.slice A n c, sv s, .func (.func 134) #[] #[]] w fun e w' => e = .returned (.tuple #[.int .i64 n, .bool false]) ∧ Below w.heap.size w w' := by
  obtain ⟨W1, hW1⟩ : ∃ W1, w.alloc (.cells #[.int .i64 s.a, .int .i64 s.b, .int .i64 s.c, .int .i64 s.d, .int .i64 s.e, .int .i64 s.f] 105) = W1 := ⟨_, rfl⟩
  have G1 := Lib.hid (show Below w.heap.size w W1 by rw [← hW1]; exact one_more _ _)
  have B1 := Lib.hid (show Blk W1 w.heap.size 105 #[.int .i64 s.a, .int .i64 s.b, .int .i64 s.c, .int .i64 s.d, .int .i64 s.e, .int .i64 s.f] by rw [← hW1]; exact Blk.new _ _ _)
  have HA := Lib.hid (ha.below G1.out)
  have HL := Lib.hid hl
  have HW1 := Lib.hid hW1
  clear ha hl hW1
  go_enter Tryz.func133, Tryz.ntmps133
  go_upto_region 1 with fail
  rw [HW1.out]
  go_wp2_with fail
  go_loopw [9, 10] (fun i j wr => ∃ k : Nat, k ≤ n ∧ i = .int .i64 k ∧ j = .int .i64 n ∧ Below W1.heap.size W1 wr) (fun i _ _ => n - (intOf i).toNat)
  case atStart => exact ⟨0, Nat.zero_le _, rfl, rfl, Below.refl _ _⟩
  case round =>
    obtain ⟨k, hk, rfl, rfl, hg⟩ := hrel
    have HG := Lib.hid hg
    clear hg
    by_cases hkn : k < n
    · obtain ⟨h, hh⟩ : ∃ h, (k + n) / 2 = h := ⟨_, rfl⟩
      have h1 : k ≤ h := by omega
      have h2 : h < n := by omega
      have hhi : ((k : Int) + (n : Int)) / 2 = (h : Int) := by omega
      obtain ⟨b0, o0, e0, -, hxq, hc⟩ := six_at (HA.out.below HG.out) h2
      obtain ⟨x, hxg⟩ : ∃ x, l.getD h z6 = x := ⟨_, rfl⟩
      rw [hxg] at hc hxq
      have hxs : x.a < s.a := HL.out x (List.mem_of_getElem? hxq)
      have hcm : cmpI x.a s.a = -1 := by unfold cmpI; rw [if_pos hxs]
      have T := fun W => bySrc_any x s W
      rw [hcm] at T
      have HT := Lib.hid T
      obtain ⟨x0, x1, x2, x3, x4, x5⟩ := hc _ (Below.refl _ _)
      subst e0
      have v0 := cellW x0
      have v1 := cellW x1
      have v2 := cellW x2
      have v3 := cellW x3
      have v4 := cellW x4
      have v5 := cellW x5
      have b1 := B1.out.ext HG.out
      have u0 := cellW (b1.cell 0)
      have u1 := cellW (b1.cell 1)
      have u2 := cellW (b1.cell 2)
      have u3 := cellW (b1.cell 3)
      have u4 := cellW (b1.cell 4)
      have u5 := cellW (b1.cell 5)
      have hk2 : (h : Int) < (n : Int) := by omega
      clear hc hxq hxg T x0 x1 x2 x3 x4 x5 b1 hcm hxs
      go_upto_region 5 with fail
      clear hhi
      refine wp_region_calm wr (by kernel_rfl) (by kernel_rfl) (Below.refl _ _) ?_
      repeat (go_big_quiet_step (first | (go_at_call 134; exact callsCalm (HT.out _))))
      refine wpQuiet_nil ?_
      rintro _ ⟨z, rfl⟩
      have GZ := Lib.hid (HG.out.trans (z.ok.mono HG.out.size))
      clear v0 v1 v2 v3 v4 v5 u0 u1 u2 u3 u4 u5
      go_wp2_with fail
      go_roundw
      case rel => exact ⟨h + 1, by omega, by go_num, rfl, GZ.out⟩
      case measure => simp [intOf]; omega
    · obtain rfl : n = k := by omega
      go_upto_region 8 with fail
      refine wp_region_calm wr (by kernel_rfl) (by kernel_rfl) (Below.refl _ _) ?_
      repeat (go_big_quiet_step (fail))
      refine wpQuiet_nil ?_
      rintro _ ⟨z, rfl⟩
      have GZ := Lib.hid (G1.out.trans ((HG.out.trans (z.ok.mono HG.out.size)).mono G1.out.size))
      go_wp2_with fail
      go_ret2
      exact ⟨rfl, GZ.out⟩
set_option maxRecDepth 100000 in
set_option maxHeartbeats 4000000 in
theorem insert_last {base bx : Nat} {v : Value} {l : List Six} (x : Six) (w : World) (h : OwnL scells 6 105 w base v l) (hl : l.length ≤ 1000) (hx : Arr scells 6 w (some ⟨bx, 0, none⟩) 1 [x]) (hb : base ≤ w.heap.size) :
    Calls Tryz.prog 136 #[v, .int .i64 l.length, .slice (some ⟨bx, 0, none⟩) 1 1] w fun e w' => ∃ v', e = .returned v' ∧ OwnL scells 6 105 w' base v' (l ++ [x]) ∧ w.grownBy w' v.ownBlock := by
  obtain ⟨A, c, hv, hk, hq, -, -⟩ := OwnL.arr kdS h
  obtain ⟨n, hn⟩ : ∃ n, l.length = n := ⟨_, rfl⟩
  unfold maxLen at hq
  have HLL := Lib.hid (show l.length + 1 ≤ 1000000 by omega)
  rw [hn] at hv hk hl ⊢
  subst hv
  have H := Lib.hid h
  have HX := Lib.hid hx
  have HB := Lib.hid hb
  clear h hx hb hn
  go_enter Tryz.func136, Tryz.ntmps136
  go_upto_region 7 with fail
  go_wp2_with (at_builtin; go_loud (refine wpList_app kdS (by rfl) _ _ (by rfl) base _ l (by rfl) H.out _ 1 1 [x] (by rfl) HX.out HLL.out HB.out ?_); intro v' w' ho hgr hz; have HO := Lib.hid ho; have HGR := Lib.hid hgr; clear ho hgr hz)
  all_goals (go_ret)
  all_goals first | exact ⟨_, rfl, HO.out, HGR.out⟩ | (cases ‹c = n›; exact ⟨_, rfl, HO.out, HGR.out⟩)
end Go.Proofs.YtkoejeghihcmlaaGreat
