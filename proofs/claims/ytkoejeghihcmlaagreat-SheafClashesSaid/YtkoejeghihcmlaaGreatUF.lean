/- Plain: the sources of what is looked at rise. -/
import Derived.Test.YtkoejeghihcmlaaGreatUE
namespace Go.Proofs.YtkoejeghihcmlaaGreat
open Go.RowKit Go.Shelf

theorem rise_at {l : List Six} (h : ∀ j, j < l.length → j = 0 ∨ (l.getD (j - 1) z6).a < (l.getD j z6).a) : ∀ k i, i + k < l.length → 0 < k → (l.getD i z6).a < (l.getD (i + k) z6).a
  | 0, _, _, h0 => absurd h0 (Nat.lt_irrefl _)
  | 1, i, hi, _ => by
    rcases h (i + 1) hi with e | e
    · omega
    · exact e
  | k + 2, i, hi, _ => by
    have h1 := rise_at h (k + 1) i (by omega) (by omega)
    rcases h (i + (k + 2)) hi with e | e
    · omega
    · rw [show i + (k + 2) - 1 = i + (k + 1) by omega] at e
      omega
theorem rise_steps {l : List Six} (h : ∀ j, j < l.length → j = 0 ∨ (l.getD (j - 1) z6).a < (l.getD j z6).a) : Rise l := by
  refine List.pairwise_iff_getElem.2 fun i j hi hj hij => ?_
  have := rise_at h (j - i) i (by omega) (by omega)
  rw [show i + (j - i) = j by omega, List.getD_eq_getElem?_getD, List.getD_eq_getElem?_getD, List.getElem?_eq_getElem hi, List.getElem?_eq_getElem hj] at this
  exact this
theorem rise_loads {p : Pl} (h : okPl p = true) : Rise p.loads := by
  unfold okPl at h
  simp only [Bool.and_eq_true] at h
  have h1 := h.1.1.1.1
  unfold okL at h1
  rw [Bool.and_eq_true, List.all_eq_true] at h1
  exact rise_steps fun j hj => (okAt_parts (h1.1 j (List.mem_range.2 hj))).2.1
theorem veil_a (m : Int → Bool) (x : Six) : (veil m x).a = x.a := by unfold veil; split <;> rfl
theorem rise_pick {p : Pl} (h : okPl p = true) (known : Int) (meant : Int → Bool) : Rise (pickL p known meant) := by
  rw [pickL_eq]
  unfold pickX
  refine List.pairwise_map.2 ?_
  refine List.Pairwise.imp (R := fun x y => x.a < y.a) (fun {x y} hxy => by rw [veil_a, veil_a]; exact hxy) ((rise_loads h).sublist List.filter_sublist)
end Go.Proofs.YtkoejeghihcmlaaGreat
