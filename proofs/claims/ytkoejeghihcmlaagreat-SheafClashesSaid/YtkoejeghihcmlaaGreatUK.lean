/- The reference: Index of a row; stores of single cells into an own slice. -/
import Derived.Test.YtkoejeghihcmlaaGreatUJ
namespace Go.Proofs.YtkoejeghihcmlaaGreat
open Go.RowKit Go.Shelf

section
variable {α : Type} {f : α → List Value} {size : Nat} {e : TypeId}
theorem flat_set (hf : ∀ x, (f x).length = size) {ys : List α} {i j : Nat} {x x' : α} {u : Value} (hx : ys[i]? = some x) (hj : j < size) (hx' : f x' = (f x).set j u) : (ys.flatMap f).set (i * size + j) u = (ys.set i x').flatMap f := by
  have hi : i < ys.length := (List.getElem?_eq_some_iff.1 hx).1
  have hlen : i * size + j < (ys.flatMap f).length := by
    rw [flat_len hf]
    have : (i + 1) * size ≤ ys.length * size := Nat.mul_le_mul_right _ hi
    rw [Nat.succ_mul] at this
    omega
  apply List.ext_getElem?
  intro q
  have hq : q = q / size * size + q % size := (Nat.div_add_mod' q size).symm
  have hr : q % size < size := Nat.mod_lt _ (by omega)
  generalize q / size = k at hq
  generalize q % size = r at hq hr
  subst hq
  rw [flat_get hf _ k r hr, List.getElem?_set, List.getElem?_set]
  by_cases e1 : i = k
  · subst e1
    rw [if_pos rfl, if_pos hi]
    show _ = (f x')[r]?
    rw [hx', List.getElem?_set]
    by_cases e2 : j = r
    · subst e2
      rw [if_pos rfl, if_pos hlen, if_pos rfl, if_pos (by rw [hf]; exact hj)]
    · rw [if_neg (by omega), if_neg e2, flat_get hf _ i r hr, hx]
      rfl
  · rw [if_neg e1]
    have hne : ¬ i * size + j = k * size + r := by
      intro h
      rcases Nat.lt_or_gt_of_ne e1 with c | c
      · have := Nat.mul_le_mul_right size c
        rw [Nat.succ_mul] at this
        omega
      · have := Nat.mul_le_mul_right size c
        rw [Nat.succ_mul] at this
        omega
    rw [if_neg hne, flat_get hf _ k r hr]
/-- A store of one cell of an element. -/
theorem OwnL.put1 (hf : ∀ x, (f x).length = size) {w : World} {base g n cap i j : Nat} {ys : List α} {x x' : α} {u : Value} (h : OwnL f size e w base (.slice (some ⟨g, 0, none⟩) n cap) ys) (hx : ys[i]? = some x) (hj : j < size) (hx' : f x' = (f x).set j u) :
    OwnL f size e (w.setCell ⟨g, i * size + j, none⟩ u) base (.slice (some ⟨g, 0, none⟩) n cap) (ys.set i x') := by
  obtain ⟨hn0, hb, cur, hg, hn, hm, hs, ht⟩ := own_inv h
  refine own_mk hf (by rw [List.length_set]; exact hn0) hb (hg.set_ _ _) hn hm (by rw [Array.size_setIfInBounds]; exact hs) ?_
  rw [Array.toList_setIfInBounds, List.take_set, ht]
  exact flat_set hf hx hj hx'
theorem OwnL.far1 {w : World} {base g n cap : Nat} {ys : List α} (h : OwnL f size e w base (.slice (some ⟨g, 0, none⟩) n cap) ys) {p : Addr} (hp : p.block ≠ g) (u : Value) : OwnL f size e (w.setCell p u) base (.slice (some ⟨g, 0, none⟩) n cap) ys := by
  obtain ⟨h1, ⟨e0, _⟩ | ⟨g', cap', cur, e1, hb, hg, h4⟩⟩ := h
  · cases e0
  · cases e1
    exact ⟨h1, .inr ⟨g, cap, cur, rfl, hb, (Below.heap_setCell w p u g (fun e => hp e.symm)).trans hg, h4⟩⟩
end
theorem after_at {h : Int} {ls : List Six} {t : Nat} (hu : Up ls) (ht : t ≤ ls.length) (h1 : ∀ j, j < t → (ls.getD j z6).b ≤ h) (h2 : t < ls.length → h < (ls.getD t z6).b) : after ls h = t := by
  rcases Nat.lt_trichotomy (after ls h) t with c | c | c
  · have := (after_spec hu (after ls h) (h := h) (by omega)).1 (h1 _ c)
    omega
  · exact c
  · have hl := after_len ls h
    have := (after_spec hu t (h := h) (by omega)).2 c
    have := h2 (by omega)
    omega
set_option maxRecDepth 100000 in
set_option maxHeartbeats 4000000 in
theorem refIndex_any (A : Option Addr) (n c : Nat) (L : List Six) (B : Option Addr) (m d : Nat) (hour : Int) (w : World) (ha : Arr scells 6 w A n L) (hn : n ≤ 1000) (hu : Up L) :
    Calls Tryz.prog 118 #[.agg #[.slice A n c, .slice B m d], .int .i64 hour] w fun e w' => e = .returned (.int .i64 (after L hour)) ∧ Below w.heap.size w w' := by
  obtain ⟨W0, hW0⟩ : ∃ W0, w.alloc (.cells #[.slice A n c, .slice B m d] 191) = W0 := ⟨_, rfl⟩
  have g0 : Below w.heap.size w W0 := by rw [← hW0]; exact one_more _ _
  have b0 : Blk W0 w.heap.size 191 #[.slice A n c, .slice B m d] := by rw [← hW0]; exact Blk.new _ _ _
  have HA := Lib.hid (ha.below g0)
  have hlen := Lib.hid ha.1
  have HU := Lib.hid hu
  have GA := Lib.hid g0
  have HW0 := Lib.hid hW0
  have q0 := b0.cell 0
  clear ha hu g0 b0 hW0
  go_enter Tryz.func118, Tryz.ntmps118
  go_upto_region 1 with fail
  rw [HW0.out]
  go_wp2_with fail
  go_loopw [5] (fun i wr => ∃ k : Nat, k ≤ n ∧ i = .int .i64 k ∧ W0 = wr ∧ ∀ j, j < k → (L.getD j z6).b ≤ hour) (fun i _ => n - (intOf i).toNat)
  case atStart => exact ⟨0, Nat.zero_le _, rfl, rfl, fun j hj => absurd hj (by omega)⟩
  case round =>
    obtain ⟨k, hk, rfl, rfl, hall⟩ := hrel
    have HALL := Lib.hid hall
    clear hall
    by_cases hkn : k < n
    · obtain ⟨b8, o8, e8, -, -, hc8⟩ := six_at HA.out hkn
      obtain ⟨y, hyg⟩ : ∃ y, L.getD k z6 = y := ⟨_, rfl⟩
      rw [hyg] at hc8
      have u1 := (hc8 _ (Below.refl _ _)).2.1
      have hti : (k : Int) < (n : Int) := by omega
      have htd : decide (k < n) = true := decide_eq_true hkn
      subst e8
      have HY := Lib.hid hyg
      clear hc8 hyg
      by_cases hle : y.b ≤ hour
      · have hled := decide_eq_true hle
        have HLE := Lib.hid hle
        go_wp2_with fail
        go_roundw
        case rel => exact ⟨k + 1, by omega, by go_num, by first | rfl | trivial, fun j hj => by
          by_cases e : j = k
          · subst e; rw [HY.out]; exact HLE.out
          · exact HALL.out j (by omega)⟩
        case measure => simp [intOf]; omega
      · have hled := decide_eq_false hle
        have HR := Lib.hid (after_at (h := hour) (t := k) HU.out (by rw [hlen.out]; omega) HALL.out (fun _ => by rw [HY.out]; omega))
        go_wp2_with fail
        go_ret
        exact ⟨by rw [HR.out]; rfl, GA.out⟩
    · obtain rfl : n = k := by omega
      have htd : decide (n < n) = false := decide_eq_false (by omega)
      have HR := Lib.hid (after_at (h := hour) (t := n) HU.out (by rw [hlen.out]; exact Nat.le_refl _) HALL.out (fun h => by rw [hlen.out] at h; omega))
      go_wp2_with fail
      go_ret
      exact ⟨by rw [HR.out]; rfl, GA.out⟩
end Go.Proofs.YtkoejeghihcmlaaGreat
