/- Plain: the families that a source moves, by comers and then in order, or family by family. -/
import Derived.Test.YtdhhneflhmkonaaN2
namespace Go.Proofs.Ytdhhneflhmkonaa

def mvTest (xs ys : List Comer) (was now : List Int) (f : Int) : Bool :=
  decide (0 ≤ idx xs f) && decide (0 ≤ idx ys f) && decide (was.getD (idx xs f).toNat 0 ≠ now.getD (idx ys f).toNat 0)
/-- The families from 1 to q that are moved. -/
def refMov (xs ys : List Comer) (was now : List Int) : Nat → List Int
  | 0 => []
  | q + 1 => refMov xs ys was now q ++ if mvTest xs ys was now ((q : Int) + 1) = true then [(q : Int) + 1] else []
theorem refMov_len (xs ys : List Comer) (was now : List Int) : ∀ q, (refMov xs ys was now q).length ≤ q
  | 0 => Nat.le_refl _
  | q + 1 => by
    have := refMov_len xs ys was now q
    unfold refMov
    rw [List.length_append]
    split <;> simp <;> omega
theorem refMov_mem (xs ys : List Comer) (was now : List Int) (f : Int) : ∀ q : Nat, f ∈ refMov xs ys was now q ↔ 1 ≤ f ∧ f ≤ q ∧ mvTest xs ys was now f = true
  | 0 => by simp [refMov]; intro h1 h2; omega
  | q + 1 => by
    unfold refMov
    rw [List.mem_append, refMov_mem xs ys was now f q]
    constructor
    · rintro (⟨h1, h2, h3⟩ | h)
      · exact ⟨h1, by omega, h3⟩
      · split at h
        · rename_i ht
          rw [List.mem_singleton.1 h]
          exact ⟨by omega, by omega, ht⟩
        · cases h
    · rintro ⟨h1, h2, h3⟩
      by_cases e : f = (q : Int) + 1
      · right; subst e; rw [if_pos h3]; exact List.mem_singleton_self _
      · left; exact ⟨h1, by omega, h3⟩
theorem refMov_sorted (xs ys : List Comer) (was now : List Int) : ∀ q, (refMov xs ys was now q).Pairwise (fun a b => a < b)
  | 0 => List.Pairwise.nil
  | q + 1 => by
    unfold refMov
    rw [List.pairwise_append]
    refine ⟨refMov_sorted xs ys was now q, ?_, fun a ha b hb => ?_⟩
    · split
      · exact List.pairwise_singleton _ _
      · exact List.Pairwise.nil
    · have h1 := (refMov_mem xs ys was now a q).1 ha
      split at hb
      · rw [List.mem_singleton.1 hb]; omega
      · cases hb
theorem movK_mem {h : Int} {xs : List Comer} (ok : Ok h xs) (ys : List Comer) (was now : List Int) (f : Int) : ∀ k, k ≤ xs.length → (f ∈ movK xs ys was now k ↔ ∃ q, q < k ∧ (xs.getD q ⟨0, 0, 0⟩).family = f ∧ mvTest xs ys was now f = true)
  | 0, _ => by simp [movK]
  | k + 1, hk => by
    unfold movK
    rw [List.mem_append, movK_mem ok ys was now f k (by omega)]
    have hself := idx_self ok (show k < xs.length by omega)
    have key : (0 ≤ idx ys (xs.getD k ⟨0, 0, 0⟩).family ∧ was.getD k 0 ≠ now.getD (idx ys (xs.getD k ⟨0, 0, 0⟩).family).toNat 0) ↔ mvTest xs ys was now (xs.getD k ⟨0, 0, 0⟩).family = true := by
      unfold mvTest
      rw [hself]
      simp
    constructor
    · rintro (⟨q, h1, h2, h3⟩ | h)
      · exact ⟨q, by omega, h2, h3⟩
      · split at h
        · rename_i ht
          rw [List.mem_singleton.1 h]
          exact ⟨k, by omega, rfl, key.1 ht⟩
        · cases h
    · rintro ⟨q, h1, h2, h3⟩
      by_cases e : q = k
      · right
        subst e
        rw [h2] at key ⊢
        rw [if_pos (key.2 h3)]
        exact List.mem_singleton_self _
      · left; exact ⟨q, by omega, h2, h3⟩
theorem movK_nodup {h : Int} {xs : List Comer} (ok : Ok h xs) (ys : List Comer) (was now : List Int) : ∀ k, k ≤ xs.length → (movK xs ys was now k).Nodup
  | 0, _ => by simp [movK]
  | k + 1, hk => by
    unfold movK
    rw [List.nodup_append]
    refine ⟨movK_nodup ok ys was now k (by omega), ?_, fun a ha b hb => ?_⟩
    · split
      · simp
      · simp
    · obtain ⟨q, h1, h2, -⟩ := (movK_mem ok ys was now a k (by omega)).1 ha
      split at hb
      · rw [List.mem_singleton.1 hb, ← h2]
        intro e
        have e1 := idx_self ok (show q < xs.length by omega)
        have e2 := idx_self ok (show k < xs.length by omega)
        rw [e, e2] at e1
        omega
      · cases hb
theorem refMov_srt {h : Int} {xs : List Comer} (ok : Ok h xs) (ys : List Comer) (was now : List Int) : refMov xs ys was now 99 = srt (movK xs ys was now xs.length) := by
  have hmem : ∀ f, f ∈ refMov xs ys was now 99 ↔ f ∈ movK xs ys was now xs.length := by
    intro f
    rw [refMov_mem, movK_mem ok ys was now f xs.length (Nat.le_refl _)]
    constructor
    · rintro ⟨h1, h2, h3⟩
      rcases idx_cases' xs f with e | ⟨i, -, hi, hf⟩
      · exfalso
        unfold mvTest at h3
        rw [e] at h3
        simp at h3
      · exact ⟨i, hi, hf, h3⟩
    · rintro ⟨q, hq, hf, h3⟩
      have e2 : xs[q]? = some (xs.getD q ⟨0, 0, 0⟩) := by rw [List.getD_eq_getElem?_getD, List.getElem?_eq_getElem hq]; rfl
      have h1 := (ok.com q _ e2).1
      rw [← hf]
      rw [← hf] at h3
      generalize xs.getD q ⟨0, 0, 0⟩ = z at h1 h3 ⊢
      simp [isComer, rng] at h1
      exact ⟨by omega, by omega, h3⟩
  have hs := refMov_sorted xs ys was now 99
  have hnd : (refMov xs ys was now 99).Nodup := by
    rw [List.Nodup]
    exact hs.imp (fun {a b} h => by omega)
  refine List.Perm.eq_of_pairwise (le := fun a b : Int => a ≤ b) (fun a b _ _ h1 h2 => by omega) (hs.imp (fun {a b} h => by omega)) (srt_sorted _) ?_
  refine List.Perm.trans ?_ (srt_perm _).symm
  rw [List.perm_iff_count]
  intro a
  rw [hnd.count, (movK_nodup ok ys was now xs.length (Nat.le_refl _)).count]
  by_cases ha : a ∈ refMov xs ys was now 99
  · rw [if_pos ha, if_pos ((hmem a).1 ha)]
  · rw [if_neg ha, if_neg (fun h => ha ((hmem a).2 h))]
end Go.Proofs.Ytdhhneflhmkonaa
