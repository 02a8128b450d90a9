/- The reference: leave. -/
import Derived.Test.YtkoejeghihcmlaaGreatUP
namespace Go.Proofs.YtkoejeghihcmlaaGreat
open Go.RowKit Go.Shelf

theorem empty_ownI (V : World) : OwnL icells 1 3 (V.alloc (.cells #[] 3)).drew V.heap.size (.slice (some ⟨V.heap.size, 0, none⟩) 0 0) [] := World.ownsRow_made (e := 3) (size := 1) V #[] 0 (Nat.le_refl _) (by decide) rfl
set_option maxRecDepth 100000 in
set_option maxHeartbeats 4000000 in
theorem refLeave_any (b o n c i : Nat) (l : List Int) (w : World) (hl : Ints w (some ⟨b, o, none⟩) n l) (hi : i < n) (hnc : n ≤ c) (hcm : c ≤ 9223372036854775807) (hn : n ≤ 1000) :
    Calls Tryz.prog 108 #[.slice (some ⟨b, o, none⟩) n c, .int .i64 i] w fun e w' => (∃ v, e = .returned v ∧ OwnL icells 1 3 w' w.heap.size v (l.eraseIdx i)) ∧ Below w.heap.size w w' := by
  obtain ⟨j, hj⟩ : ∃ j, i + 1 = j := ⟨_, rfl⟩
  have hw : IntKind.i64.wrap ((i : Int) + 1) = (j : Int) := by
    rw [← hj, IntKind.wrap_i64]
    omega
  have HA1 := Lib.hid (hl.take (Nat.le_of_lt hi))
  have HA2 := Lib.hid (show Arr icells 1 w (if c = j then some ⟨b, o, none⟩ else some ⟨b, o + j, none⟩) (n - j) (l.drop j) by
    have h2 := Arr.drop hl j
    rw [Nat.mul_one] at h2
    split
    · exact ⟨h2.1, fun h => by omega⟩
    · exact h2)
  have HR := Lib.hid (show l.eraseIdx i = l.take i ++ l.drop j by rw [← hj]; exact List.eraseIdx_eq_take_drop_succ l i)
  have HLEN := Lib.hid (show l.length = n from hl.1)
  obtain ⟨L1, hL1⟩ : ∃ t, l.take i = t := ⟨_, rfl⟩
  obtain ⟨L2, hL2⟩ : ∃ t, l.drop j = t := ⟨_, rfl⟩
  rw [hL1] at HA1 HR
  rw [hL2] at HA2 HR
  obtain ⟨res, hres⟩ : ∃ r, l.eraseIdx i = r := ⟨_, rfl⟩
  rw [hres] at HR ⊢
  have HLL := Lib.hid (show L1.length ≤ 1000 by rw [HA1.out.1]; omega)
  clear hL1 hL2 hres hl
  have GE1 := Lib.hid (show Below w.heap.size w (w.alloc (.cells #[] 3)).drew from (one_more _ _).drew)
  have OE1 := Lib.hid (empty_ownI w)
  have hi1 : (i : Int) ≤ (c : Int) := by omega
  have hi2 : (j : Int) ≤ (n : Int) := by omega
  have hi4 : (j : Int) ≤ (c : Int) := by omega
  have hi5 : (0 : Int) ≤ (j : Int) := by omega
  have HJ := Lib.hid hj
  clear hj
  have hi3 : (n : Int) ≤ (c : Int) := by omega
  go_enter Tryz.func108, Tryz.ntmps108
  go_wp2_with fail
  go_region_held3 (fun _ => True)
    (exact trivial)
    (first
      | (refine step_app kdI (by rfl) _ _ (by rfl) w.heap.size _ [] (by rfl) OE1.out (some ⟨b, o, none⟩) i c L1 (by rfl) (HA1.out.below GE1.out) (by simp; omega) (by have := GE1.out.size; omega) ?_; intro v1 w1 ho1 hg1 hat1; have hbw := OE1.out.below hg1 (Nat.le_refl w.heap.size) (by have := GE1.out.size; omega); have HGA := Lib.hid (show Below w.heap.size w w1 from GE1.out.trans hbw); have HO1 := Lib.hid (show OwnL icells 1 3 w1 w.heap.size v1 L1 by simpa using ho1); have hsa : w.heap.size ≤ w1.heap.size := (by have := HGA.out.size; omega); have HSA := Lib.hid hsa; clear hbw ho1 hg1 hat1)
      | (go_loud (refine step_app kdI (by rfl) _ _ (by rfl) w.heap.size v1 L1 (by rfl) HO1.out (if c = j then some ⟨b, o, none⟩ else some ⟨b, o + j, none⟩) (n - j) (c - j) L2 (by rfl) (HA2.out.below HGA.out) (by have := HLL.out; omega) (by have := HSA.out; omega) ?_); intro v3 w3 ho3 hg3 hat3; have hbw := HO1.out.below hg3 (Nat.le_refl w.heap.size) (by have := HSA.out; omega); have HGC := Lib.hid (show Below w.heap.size w w3 from HGA.out.trans hbw); have HO3 := Lib.hid ho3; clear hbw ho3 hg3 hat3))
  all_goals (try go_wp2_with fail)
  all_goals (
    go_ret
    exact ⟨⟨_, rfl, by rw [HR.out]; exact HO3.out⟩, HGC.out⟩)
end Go.Proofs.YtkoejeghihcmlaaGreat
