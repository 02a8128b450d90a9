/- Plain: the turns of the comers. -/
import Derived.Test.YtdhhneflhmkonaaG7
namespace Go.Proofs.Ytdhhneflhmkonaa

/-- One comer's turn. -/
def stepI (xs : List Comer) (H : Nat) (r : Int) (out : List Int) (i : Nat) : List Int :=
  if (xs.getD i ⟨0, 0, 0⟩).wants < r ∨ out.getD i 0 ≠ r - 1 then out
  else if fea xs H (-1) (out.set i (out.getD i 0 + 1)) = true then out.set i (out.getD i 0 + 1) else out
/-- The turns of the first k comers. -/
def rowT (xs : List Comer) (H : Nat) (r : Int) : Nat → List Int → List Int
  | 0, out => out
  | k + 1, out => stepI xs H r (rowT xs H r k out) k
/-- The first r rounds. -/
def turnsT (xs : List Comer) (H : Nat) : Nat → List Int
  | 0 => List.replicate xs.length 0
  | r + 1 => rowT xs H (r + 1) xs.length (turnsT xs H r)
def turnsS (xs : List Comer) (H : Nat) : List Int := turnsT xs H 24

theorem stepI_len (xs : List Comer) (H : Nat) (r : Int) (out : List Int) (i : Nat) : (stepI xs H r out i).length = out.length := by
  unfold stepI; split
  · rfl
  · split <;> simp
theorem rowT_len (xs : List Comer) (H : Nat) (r : Int) : ∀ k out, (rowT xs H r k out).length = out.length
  | 0, _ => rfl
  | k + 1, out => (stepI_len _ _ _ _ _).trans (rowT_len xs H r k out)
theorem turnsT_len (xs : List Comer) (H : Nat) : ∀ r, (turnsT xs H r).length = xs.length
  | 0 => by simp [turnsT]
  | r + 1 => (rowT_len _ _ _ _ _).trans (turnsT_len xs H r)

theorem stepI_bd {xs : List Comer} {H : Nat} {r : Int} {out : List Int} {i : Nat} (hr : 1 ≤ r) (h : ∀ x ∈ out, 0 ≤ x ∧ x ≤ r) : ∀ x ∈ stepI xs H r out i, 0 ≤ x ∧ x ≤ r := by
  unfold stepI; split
  · exact h
  · rename_i hn
    split
    · intro x hx
      rcases List.mem_or_eq_of_mem_set hx with h1 | h1
      · exact h x h1
      · omega
    · exact h
theorem rowT_bd {xs : List Comer} {H : Nat} {r : Int} (hr : 1 ≤ r) : ∀ k out, (∀ x ∈ out, 0 ≤ x ∧ x ≤ r) → ∀ x ∈ rowT xs H r k out, 0 ≤ x ∧ x ≤ r
  | 0, _, h => h
  | k + 1, out, h => stepI_bd hr (rowT_bd hr k out h)
theorem turnsT_bd (xs : List Comer) (H : Nat) : ∀ r : Nat, ∀ x ∈ turnsT xs H r, 0 ≤ x ∧ x ≤ (r : Int)
  | 0 => by intro x hx; simp [turnsT] at hx; omega
  | r + 1 => by
    have := rowT_bd (xs := xs) (H := H) (r := (r : Int) + 1) (by omega) xs.length (turnsT xs H r) (fun x hx => by have := turnsT_bd xs H r x hx; omega)
    intro x hx
    have := this x hx
    simpa using this

theorem sum_le_of {l : List Int} {f : Nat → Nat} (h : ∀ i, i < l.length → l.getD i 0 ≤ f i) : l.sum ≤ (sumS l.length (fun _ => true) f : Nat) := by
  have : ∀ k, k ≤ l.length → (l.take k).sum ≤ (sumS k (fun _ => true) f : Nat) := by
    intro k
    induction k with
    | zero => intro _; simp [sumS]
    | succ k ih =>
      intro hk
      rw [sum_take l k (by omega), sumS_succ]
      have := ih (by omega)
      have := h k (by omega)
      rw [if_pos rfl]; omega
  have := this l.length (Nat.le_refl _)
  rwa [List.take_length] at this
theorem fea_sum {xs : List Comer} {H : Nat} {b : Int} {d : List Int} (hd : d.length = xs.length) (h : fea xs H b d = true) : d.sum ≤ H := by
  obtain ⟨wh, h1, h2⟩ := (fea_iff hd).1 h
  have := sum_le_of (l := d) (f := fun j => wh.count (j : Int)) (fun i hi => h2 i (by omega))
  rw [sum_count] at this
  have h3 := List.countP_le_length (p := inS d.length (fun _ => true)) (l := wh)
  rw [h1.len] at h3
  omega
end Go.Proofs.Ytdhhneflhmkonaa
