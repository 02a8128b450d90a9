/- The mill's plan: 'open': a plan with all hours free. -/
import Derived.Test.YtdhhneflhmkonaaG3
import Derived.Deep.OwnRows
namespace Go.Proofs.Ytdhhneflhmkonaa
open Go.RowKit Go.Shelf

/-- A plan that stands in memory. -/
structure Mp (W : World) (bp bw : Nat) (A : Option Addr) (n cc H left : Nat) (xs : List Comer) : Prop where
  h0 : W.cell? ⟨bp, 0, none⟩ = some (.int .i64 H)
  h1 : W.cell? ⟨bp, 1, none⟩ = some (.slice A n cc)
  h2 : W.cell? ⟨bp, 2, none⟩ = some (.slice (some ⟨bw, 0, none⟩) H H)
  h3 : W.cell? ⟨bp, 3, none⟩ = some (.int .i64 left)
  arr : Arr ccells 3 W A n xs
  n1 : bp ≠ bw
  n2 : ∀ b o, A = some ⟨b, o, none⟩ → 0 < n → b ≠ bw

def mv (A : Option Addr) (n cc : Nat) (H : Int) : Value := .agg #[.int .i64 H, .slice A n cc]

theorem made_vals (k : Nat) : madeCells #[.int .i64 0] k = vals (List.replicate k 0) := by
  apply Array.ext
  · simp [madeCells, vals]
  · intro i h1 h2; simp [madeCells, vals, Nat.mod_one]
theorem lv (H : Nat) (h : H ≤ 24) : wrap64 (wrap64 (2 ^ H) - 1) = ((2 ^ H - 1 : Nat) : Int) := by
  have h1 : 2 ^ H ≤ 2 ^ 24 := Nat.pow_le_pow_right (by decide) h
  have h0 : 0 < 2 ^ H := Nat.two_pow_pos H
  have e : (2 : Int) ^ H = ((2 ^ H : Nat) : Int) := by simp
  rw [e]; generalize 2 ^ H = q at h0 h1 ⊢
  rw [IntWalk.wrap64_in (q : Int) ⟨by omega, by omega⟩, IntWalk.wrap64_in _ ⟨by omega, by omega⟩]; omega
theorem andNot64 (a b : Nat) (ha : a < 9223372036854775808) (hb : b < 9223372036854775808) : bits .andNot .i64 (a : Int) (b : Int) = ((a ^^^ (a &&& b) : Nat) : Int) := by
  have hx : a ^^^ (a &&& b) < 2 ^ 63 := Nat.xor_lt_two_pow (by omega) (Nat.and_lt_two_pow _ (by omega))
  have e : (BitVec.ofInt 64 (a : Int) &&& ~~~ BitVec.ofInt 64 (b : Int)).toNat = a ^^^ (a &&& b) := by
    apply Nat.eq_of_testBit_eq
    intro i
    rw [BitVec.testBit_toNat, BitVec.getLsbD_and, BitVec.getLsbD_not, ← BitVec.testBit_toNat, ← BitVec.testBit_toNat, ofInt64 a ha, ofInt64 b hb, Nat.testBit_xor, Nat.testBit_and]
    by_cases hi : i < 64
    · cases a.testBit i <;> cases b.testBit i <;> simp [hi]
    · have : a.testBit i = false := Nat.testBit_lt_two_pow (Nat.lt_of_lt_of_le (show a < 2 ^ 64 by omega) (Nat.pow_le_pow_right (by decide) (by omega)))
      simp [this]
  show IntKind.i64.wrap ((BitVec.ofInt 64 (a : Int) &&& ~~~ BitVec.ofInt 64 (b : Int)).toNat : Int) = _
  rw [e, IntKind.wrap_i64]
  omega
theorem ones_bit (H h : Nat) : (2 ^ H - 1).testBit h = decide (h < H) := Nat.testBit_two_pow_sub_one H h

set_option maxRecDepth 100000 in
set_option maxHeartbeats 2000000 in
theorem open_any (A : Option Addr) (n cc H : Nat) (xs : List Comer) (barred : Int) (w : World) (ha : Arr ccells 3 w A n xs) (hH : H ≤ 24) (hb : -1 ≤ barred) (hb2 : barred < 24) :
    Calls Try.prog 67 #[mv A n cc H, .int .i64 barred] w fun e w' => ∃ bp bw left : Nat, e = .returned (.pointer (some ⟨bp, 0, none⟩)) ∧ Mp w' bp bw A n cc H left xs ∧ Blk w' bw 3 (vals (List.replicate H (-1))) ∧
      left < 16777216 ∧ (∀ h, left.testBit h = (decide (h < H) && decide ((h : Int) ≠ barred))) ∧ w.heap.size ≤ bw ∧ Below w.heap.size w w' := by
  unfold mv
  go_enter Try.func67, Try.ntmps67
  go_wp2_with fail
  generalize hW1 : w.alloc (.cells #[.int .i64 H, .slice A n cc] 24) = W1
  obtain ⟨g1, c0, c1⟩ := box2 hW1
  have hlt : w.heap.size < W1.heap.size := by rw [boxSize hW1]; omega
  have d0 : ∀ o, (W1.alloc o).cell? ⟨w.heap.size, 0, none⟩ = some (.int .i64 H) := fun o => (World.cell?_alloc_lt W1 o _ hlt).trans c0
  have d1 : ∀ o, (W1.alloc o).cell? ⟨w.heap.size, 1, none⟩ = some (.slice A n cc) := fun o => (World.cell?_alloc_lt W1 o _ hlt).trans c1
  clear hW1
  have hmk := fun w => run_make_row' (P := Try.prog) 28 3 (.int .i64 0) 8 (by kernel_rfl) (by kernel_rfl) (by simp [Value.cells]) .i64 .i64 H (by omega) (by omega) w
  go_region
  rw [lv H hH, made_vals]
  generalize hW2 : (W1.alloc (.cells (vals (List.replicate H 0)) 3)) = W2
  have hb2 : Blk W2 W1.heap.size 3 (vals (List.replicate H 0)) := by rw [← hW2]; exact Blk.new _ _ _
  have g2 : Below W1.heap.size W1 W2 := by rw [← hW2]; exact (Below.refl _ _).alloc (Nat.le_refl _) _
  have s2 := boxSize hW2
  rw [← s2]
  generalize hW3 : (W2.alloc (.cells #[.int .i64 H, .slice A n cc, .slice (some ⟨W1.heap.size, 0, none⟩) H H, .int .i64 ((2 ^ H - 1 : Nat) : Int)] 109)) = W3
  have hb3 : Blk W3 W2.heap.size 109 #[.int .i64 H, .slice A n cc, .slice (some ⟨W1.heap.size, 0, none⟩) H H, .int .i64 ((2 ^ H - 1 : Nat) : Int)] := by rw [← hW3]; exact Blk.new _ _ _
  have g3 : Below W2.heap.size W2 W3 := by rw [← hW3]; exact (Below.refl _ _).alloc (Nat.le_refl _) _
  have hbw := hb2.ext g3
  have hG := Lib.hid (extTrans g1 (extTrans g2 g3))
  have hG1 := Lib.hid (extTrans g2 g3)
  have hne : W1.heap.size ≠ W2.heap.size := by omega
  have hge : w.heap.size ≤ W1.heap.size ∧ w.heap.size ≤ W2.heap.size := by omega
  clear hW2 hW3 s2 g1 g2 g3 c0 c1 d0 d1 hb2 hlt hmk
  generalize W1.heap.size = bw at hbw hb3 hne hge ⊢
  generalize W2.heap.size = bp at hb3 hne hge ⊢
  have hbd : Blk W3.drew bp 109 #[.int .i64 H, .slice A n cc, .slice (some ⟨bw, 0, none⟩) H H, .int .i64 ((2 ^ H - 1 : Nat) : Int)] := hb3
  have e0 : W3.drew.cell? ⟨bp, 2, none⟩ = some (.slice (some ⟨bw, 0, none⟩) H H) := hbd.cell 2
  have hbw' : Blk W3.drew bw 3 (vals (List.replicate H 0)) := hbw
  have hG' := Lib.hid (show Below w.heap.size w W3.drew from hG.out.drew)
  have hB := Lib.hid hbd
  have hBw := Lib.hid hbw'
  clear hbd hbw' hbw hb3
  generalize W3.drew = W4 at e0 hG' hB hBw ⊢
  go_wp2_with fail
  go_loopw [22] (fun i wr => ∃ k : Nat, i = .int .i64 k ∧ k ≤ H ∧ Below w.heap.size w wr ∧ Blk wr bp 109 #[.int .i64 H, .slice A n cc, .slice (some ⟨bw, 0, none⟩) H H, .int .i64 ((2 ^ H - 1 : Nat) : Int)] ∧ Blk wr bw 3 (vals (List.replicate k (-1) ++ List.replicate (H - k) 0))) (fun i _ => H - (intOf i).toNat)
  case atStart => exact ⟨0, rfl, Nat.zero_le _, hG'.out, hB.out, hBw.out⟩
  case round =>
    obtain ⟨k, rfl, hk, hg, hb, hbw⟩ := hrel
    have Hg := Lib.hid hg
    have Hb := Lib.hid hb
    have Hbw := Lib.hid hbw
    by_cases hkH : k < H
    · have e0 : wr.cell? ⟨bp, 2, none⟩ = some (.slice (some ⟨bw, 0, none⟩) H H) := hb.cell 2
      have e1 : wr.cell? ⟨bw, k, none⟩ = some (.int .i64 0) := by
        rw [hbw.cell k, vals_get, List.getElem?_append_right (by simp), List.getElem?_replicate, if_pos (by simp; omega)]; rfl
      have e2 := hbw.frozen k
      clear hg hb hbw
      go_wp2_with fail
      go_roundw
      case rel =>
        refine ⟨k + 1, by go_num, by omega, Hg.out.setCell (p := ⟨bw, k, none⟩) hge.1 _, Hb.out.far hne.symm _, ?_⟩
        have := Hbw.out.set_ k (.int .i64 (-1))
        rw [vals_set] at this
        have e : (List.replicate k (-1 : Int) ++ List.replicate (H - k) 0).set k (-1) = List.replicate (k + 1) (-1) ++ List.replicate (H - (k + 1)) 0 := by
          rw [List.set_append_right _ _ (by simp), show H - k = (H - (k + 1)) + 1 by omega, List.replicate_succ, List.replicate_succ']
          simp
        rw [e] at this
        exact this
      case measure => simp [intOf]; omega
    · obtain rfl : k = H := by omega
      have e3 : wr.cell? ⟨bp, 3, none⟩ = some (.int .i64 ((2 ^ k - 1 : Nat) : Int)) := hb.cell 3
      have e4 := hb.frozen 3
      have hbw : Blk wr bw 3 (vals (List.replicate k (-1))) := by have := hbw; rwa [Nat.sub_self, List.replicate_zero, List.append_nil] at this
      clear Hbw
      have Hbw := Lib.hid hbw
      have ha' := Lib.hid (ha.below hg)
      have hA := Lib.hid (show ∀ b o, A = some ⟨b, o, none⟩ → 0 < n → b ≠ bw from fun b o e hn => by
        obtain ⟨b', o', e', hlt, _⟩ := ha.2 hn; rw [e] at e'; cases e'; omega)
      clear hg hb hbw
      have Hbd : barred < 0 ∨ 0 ≤ barred := by omega
      rcases Hbd with hneg | hpos
      · go_wp2_with fail
        go_ret
        refine ⟨bp, bw, 2 ^ k - 1, rfl, ⟨Hb.out.cell 0, Hb.out.cell 1, Hb.out.cell 2, Hb.out.cell 3, ha'.out, hne.symm, hA.out⟩, Hbw.out, ?_, fun h => ?_, hge.1, Hg.out⟩
        · have : 2 ^ k ≤ 2 ^ 24 := Nat.pow_le_pow_right (by decide) hH
          omega
        · rw [ones_bit]
          have : decide ((h : Int) ≠ barred) = true := by simp; omega
          rw [this, Bool.and_true]
      · obtain ⟨q, rfl⟩ : ∃ q : Nat, barred = q := ⟨barred.toNat, by omega⟩
        have hq24 : q < 24 := by omega
        have hpq : 2 ^ q < 2 ^ 24 := Nat.pow_lt_pow_right (by decide) hq24
        have hpk : 2 ^ k ≤ 2 ^ 24 := Nat.pow_le_pow_right (by decide) hH
        have hwq : wrap64 ((2 : Int) ^ q) = ((2 ^ q : Nat) : Int) := by
          rw [show (2 : Int) ^ q = ((2 ^ q : Nat) : Int) by simp]; generalize 2 ^ q = y at hpq ⊢; exact IntWalk.wrap64_in _ ⟨by omega, by omega⟩
        have han := andNot64 (2 ^ k - 1) (2 ^ q) (by omega) (by omega)
        have HW := Lib.hid hwq
        have HAN := Lib.hid han
        have Hlt := Lib.hid (show (2 ^ k - 1) ^^^ ((2 ^ k - 1) &&& 2 ^ q) < 16777216 from Nat.xor_lt_two_pow (n := 24) (by omega) (Nat.and_lt_two_pow _ (by omega)))
        clear hwq han hpq hpk
        go_wp2_with fail
        have F : ∀ x : Wd wr, x.val.cell? ⟨bp, 3, none⟩ = some (.int .i64 ((2 ^ k - 1 : Nat) : Int)) ∧ x.val.frozen? ⟨bp, 3, none⟩ = false := fun x => ⟨cellW e3 x, frozenW e3 e4 x⟩
        refine wp_region_calm_tail wr 9 (by kernel_rfl) (by kernel_rfl) (Below.refl _ _) ?_
        simp only [List.take_succ_cons, List.take_zero, List.drop_succ_cons, List.drop_zero]
        repeat (go_big_quiet_step (fail))
        refine wpQuiet_nil ?_
        rintro _ ⟨z, rfl⟩
        have Z3 := Hb.out.ext z.ok
        have Zw := Hbw.out.ext z.ok
        have Za := ha'.out.below z.ok
        have Zg := extTrans Hg.out z.ok
        simp only [HW.out, HAN.out]
        have HZ3 := Lib.hid Z3
        have HZw := Lib.hid Zw
        have HZa := Lib.hid Za
        have HZg := Lib.hid Zg
        clear Z3 Zw Za Zg
        go_wp2_with fail
        go_ret
        have P3 := HZ3.out.set_ 3 (.int .i64 (((2 ^ k - 1) ^^^ ((2 ^ k - 1) &&& 2 ^ q) : Nat) : Int))
        have Pg := HZg.out.setCell (p := ⟨bp, 3, none⟩) hge.2 (.int .i64 (((2 ^ k - 1) ^^^ ((2 ^ k - 1) &&& 2 ^ q) : Nat) : Int))
        refine ⟨bp, bw, _, rfl, ⟨P3.cell 0, P3.cell 1, P3.cell 2, P3.cell 3, ha.below Pg, hne.symm, hA.out⟩, HZw.out.far hne _, Hlt.out, fun h => ?_, hge.1, Pg⟩
        rw [Nat.testBit_xor, Nat.testBit_and, ones_bit, Nat.testBit_two_pow]
        by_cases h1 : h < k <;> by_cases h2 : q = h <;> simp [h1, h2]
        omega
end Go.Proofs.Ytdhhneflhmkonaa
