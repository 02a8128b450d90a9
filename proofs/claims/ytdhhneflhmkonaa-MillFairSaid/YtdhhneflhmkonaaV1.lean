/- Plain: the reference's search, which passes over the hours that one has. -/
import Derived.Test.YtdhhneflhmkonaaKB
namespace Go.Proofs.Ytdhhneflhmkonaa

/-- What the reference's search that found none shows: as StepF, but the hours that one has need not be tried. -/
structure RefF (nc H : Nat) (adj : Nat → Nat → Bool) (c s : Nat) (wh : List Int) (s' : Nat) : Prop where
  sub : Sub s s'
  lt : s' < 2 ^ H
  all : ∀ h : Nat, h < H → adj c h = true → s'.testBit h = true ∨ wh[h]? = some (c : Int)
  shut : ∀ h : Nat, s'.testBit h = true → s.testBit h = false → ∃ i : Nat, wh[h]? = some (i : Int) ∧ i < nc ∧ ∀ h', h' < H → adj i h' = true → s'.testBit h' = true ∨ wh[h']? = some (i : Int)

/-- Where the reference's search stands behind the first k hours. -/
structure RefI (nc H : Nat) (adj : Nat → Nat → Bool) (c s : Nat) (wh : List Int) (k : Nat) (s' : Nat) : Prop where
  sub : Sub s s'
  lt : s' < 2 ^ H
  all : ∀ h : Nat, h < k → adj c h = true → s'.testBit h = true ∨ wh[h]? = some (c : Int)
  shut : ∀ h : Nat, s'.testBit h = true → s.testBit h = false → ∃ i : Nat, wh[h]? = some (i : Int) ∧ i < nc ∧ ∀ h', h' < H → adj i h' = true → s'.testBit h' = true ∨ wh[h']? = some (i : Int)

section
variable {nc H c s : Nat} {adj : Nat → Nat → Bool} {wh : List Int}
theorem RefI.start (h : s < 2 ^ H) : RefI nc H adj c s wh 0 s := ⟨Sub.refl s, h, fun h hh _ => by omega, fun h h1 h2 => (by rw [h1] at h2; cases h2)⟩
theorem RefI.skip {k s' : Nat} (r : RefI nc H adj c s wh k s') (h : adj c k = true → s'.testBit k = true ∨ wh[k]? = some (c : Int)) : RefI nc H adj c s wh (k + 1) s' :=
  ⟨r.sub, r.lt, fun x hx ha => by
    rcases Nat.lt_or_ge x k with h1 | h1
    · exact r.all x h1 ha
    · obtain rfl : x = k := by omega
      exact h ha, r.shut⟩
theorem RefI.done {s' : Nat} (r : RefI nc H adj c s wh H s') : RefF nc H adj c s wh s' := ⟨r.sub, r.lt, r.all, r.shut⟩
theorem set_other {x k : Nat} {v y : Int} (h : x ≠ k) : (wh.set k v)[x]? = some y ↔ wh[x]? = some y := by
  rw [List.getElem?_set_ne (fun e => h e.symm)]
theorem RefI.more {k s' s2 i : Nat} (r : RefI nc H adj c s wh k s') (hwh : wh[k]? = some (i : Int)) (hi : i < nc) (f : RefF nc H adj i (s' ||| 2 ^ k) (wh.set k (c : Int)) s2) : RefI nc H adj c s wh (k + 1) s2 := by
  have hb : s2.testBit k = true := f.sub k put_bit
  have hsub : Sub s' s2 := (Sub.or s' _).trans f.sub
  have key : ∀ (j h' : Nat), (s2.testBit h' = true ∨ (wh.set k (c : Int))[h']? = some (j : Int)) → (s2.testBit h' = true ∨ wh[h']? = some (j : Int)) := by
    intro j h' hh
    rcases hh with hh | hh
    · exact .inl hh
    · by_cases e : h' = k
      · subst e; exact .inl hb
      · exact .inr ((set_other e).1 hh)
  refine ⟨r.sub.trans hsub, f.lt, fun x hx ha => ?_, fun x h1 h2 => ?_⟩
  · rcases Nat.lt_or_ge x k with h1 | h1
    · exact (r.all x h1 ha).imp (hsub x) id
    · obtain rfl : x = k := by omega
      exact .inl hb
  · cases h3 : s'.testBit x
    · by_cases hxk : x = k
      · subst hxk
        exact ⟨i, hwh, hi, fun h' hh' ha => key i h' (f.all h' hh' ha)⟩
      · obtain ⟨j, e1, e2, e3⟩ := f.shut x h1 (by rw [Nat.testBit_or, h3, pow_bit]; simp; omega)
        exact ⟨j, (set_other hxk).1 e1, e2, fun h' hh' ha => key j h' (e3 h' hh' ha)⟩
    · obtain ⟨j, e1, e2, e3⟩ := r.shut x h3 h2
      exact ⟨j, e1, e2, fun h' hh' ha => (e3 h' hh' ha).imp (hsub h') id⟩

/-- The hours below H of which p is so. -/
def setOf (p : Nat → Bool) : Nat → Nat
  | 0 => 0
  | k + 1 => setOf p k ||| (if p k then 2 ^ k else 0)
theorem setOf_bit (p : Nat → Bool) (h : Nat) : ∀ k, (setOf p k).testBit h = (decide (h < k) && p h)
  | 0 => by simp [setOf]
  | k + 1 => by
    rw [setOf, Nat.testBit_or, setOf_bit p h k]
    by_cases e : h = k
    · subst e
      cases hp : p h
      · simp
      · simp
    · have e2 : decide (h < k + 1) = decide (h < k) := decide_eq_decide.2 (by omega)
      rw [e2]
      cases hp : p k
      · simp
      · simp [pow_bit]; intro e3; omega
theorem setOf_lt (p : Nat → Bool) : ∀ k, setOf p k < 2 ^ k
  | 0 => by simp [setOf]
  | k + 1 => by
    have h := setOf_lt p k
    rw [setOf]
    refine Nat.or_lt_two_pow (Nat.lt_of_lt_of_le h (Nat.pow_le_pow_right (by decide) (by omega))) ?_
    split
    · exact Nat.pow_lt_pow_right (by decide) (by omega)
    · exact Nat.two_pow_pos _

/-- With the hours that those have who are met, it is a search that failed. -/
theorem RefF.step {s' : Nat} (f : RefF nc H adj c 0 wh s') (hc : c < nc) : ∃ s2, StepF nc H adj c 0 wh s2 := by
  obtain ⟨met, hmet⟩ : ∃ met : Int → Bool, ∀ x, met x = true ↔ x = (c : Int) ∨ ∃ k, s'.testBit k = true ∧ wh[k]? = some x := by
    classical
    exact ⟨fun x => decide (x = (c : Int) ∨ ∃ k, s'.testBit k = true ∧ wh[k]? = some x), fun x => by simp⟩
  obtain ⟨p, hp⟩ : ∃ p : Nat → Bool, ∀ h, p h = true ↔ s'.testBit h = true ∨ ∃ x, wh[h]? = some x ∧ met x = true := by
    classical
    exact ⟨fun h => decide (s'.testBit h = true ∨ ∃ x, wh[h]? = some x ∧ met x = true), fun x => by simp⟩
  have hbit : ∀ h, (setOf p H).testBit h = true ↔ h < H ∧ p h = true := fun h => by rw [setOf_bit]; simp
  have hcl : ∀ (i : Nat), met (i : Int) = true → i < nc ∧ ∀ h', h' < H → adj i h' = true → (setOf p H).testBit h' = true := by
    intro i hm
    have h1 : i < nc ∧ ∀ h', h' < H → adj i h' = true → s'.testBit h' = true ∨ wh[h']? = some (i : Int) := by
      rcases (hmet _).1 hm with e | ⟨k, hk, e⟩
      · have : i = c := by omega
        subst this
        exact ⟨hc, f.all⟩
      · obtain ⟨j, e1, e2, e3⟩ := f.shut k hk (by simp)
        rw [e] at e1
        have : i = j := by have := Option.some.inj e1; omega
        subst this
        exact ⟨e2, e3⟩
    refine ⟨h1.1, fun h' hh' ha => (hbit h').2 ⟨hh', (hp h').2 ?_⟩⟩
    rcases h1.2 h' hh' ha with e | e
    · exact .inl e
    · exact .inr ⟨_, e, hm⟩
  refine ⟨setOf p H, fun h hh => by simp at hh, setOf_lt p H, fun h hh ha => (hcl c ((hmet _).2 (.inl rfl))).2 h hh ha, fun h h1 _ => ?_⟩
  obtain ⟨hh, h2⟩ := (hbit h).1 h1
  rcases (hp h).1 h2 with e | ⟨x, e, hm⟩
  · obtain ⟨i, e1, e2, -⟩ := f.shut h e (by simp)
    exact ⟨i, e1, e2, (hcl i ((hmet _).2 (.inr ⟨h, e, e1⟩))).2⟩
  · rcases (hmet _).1 hm with rfl | ⟨k, hk, e3⟩
    · exact ⟨c, e, hc, (hcl c hm).2⟩
    · obtain ⟨i, e1, e2, -⟩ := f.shut k hk (by simp)
      rw [e3] at e1
      obtain rfl := Option.some.inj e1
      exact ⟨i, e, e2, (hcl i hm).2⟩
end
end Go.Proofs.Ytdhhneflhmkonaa
