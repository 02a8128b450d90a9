/- Plain: whose each hour is; which demands can be met; a search that fails shows that they cannot. -/
import Derived.Test.YtdhhneflhmkonaaP1
namespace Go.Proofs.Ytdhhneflhmkonaa

/-- Each hour is nobody's, or that of one who can come then. -/
structure Asg (n H : Nat) (adj : Nat → Nat → Bool) (wh : List Int) : Prop where
  len : wh.length = H
  ok : ∀ (h : Nat) (x : Int), wh[h]? = some x → x = -1 ∨ ∃ i : Nat, x = i ∧ i < n ∧ adj i h = true

/-- The demands can be met. -/
def Feas (n H : Nat) (adj : Nat → Nat → Bool) (d : Nat → Int) : Prop := ∃ wh, Asg n H adj wh ∧ ∀ i, i < n → d i ≤ wh.count (i : Int)

theorem Asg.free (n H : Nat) (adj : Nat → Nat → Bool) : Asg n H adj (List.replicate H (-1)) := by
  refine ⟨by simp, fun h x hx => .inl ?_⟩
  rw [List.getElem?_replicate] at hx
  split at hx <;> simp at hx
  exact hx.symm
theorem count_free (H i : Nat) : (List.replicate H (-1 : Int)).count (i : Int) = 0 := by
  rw [List.count_replicate]; simp

section
variable {n H : Nat} {adj : Nat → Nat → Bool} {wh wh' : List Int} {c s s' : Nat}
theorem Asg.weak (h : Asg n H adj wh) (k : Nat) (x : Int) (hx : wh[k]? = some x) : x = -1 ∨ ∃ i : Nat, x = i ∧ i < n := (h.ok k x hx).imp id (fun ⟨i, e, l, _⟩ => ⟨i, e, l⟩)
theorem Asg.step (h : Asg n H adj wh) (t : StepT n H adj c s wh wh') : Asg n H adj wh' :=
  ⟨t.len.trans h.len, fun k x hx => by
    rcases t.right k x hx with h1 | ⟨i, e, l, a⟩
    · exact h.ok k x h1
    · exact .inr ⟨i, e, l, a⟩⟩

/-! ### Counting -/
def inS (n : Nat) (S : Nat → Bool) (x : Int) : Bool := decide (0 ≤ x) && decide (x < n) && S x.toNat
def sumS (n : Nat) (S : Nat → Bool) (f : Nat → Nat) : Nat := (((List.range n).filter S).map f).sum

theorem sumS_succ (n : Nat) (S : Nat → Bool) (f : Nat → Nat) : sumS (n + 1) S f = sumS n S f + if S n then f n else 0 := by
  unfold sumS
  rw [List.range_succ, List.filter_append, List.map_append, List.sum_append]
  cases h : S n <;> simp [h]
theorem sumS_zero (n : Nat) (S : Nat → Bool) : sumS n S (fun _ => 0) = 0 := by
  induction n with
  | zero => rfl
  | succ n ih => rw [sumS_succ, ih]; split <;> rfl
theorem sumS_add (n : Nat) (S : Nat → Bool) (f g : Nat → Nat) : sumS n S (fun i => f i + g i) = sumS n S f + sumS n S g := by
  induction n with
  | zero => rfl
  | succ n ih => rw [sumS_succ, sumS_succ, sumS_succ, ih]; split <;> omega
theorem sumS_le {n : Nat} {S : Nat → Bool} {f g : Nat → Nat} (h : ∀ i, i < n → S i = true → f i ≤ g i) : sumS n S f ≤ sumS n S g := by
  induction n with
  | zero => exact Nat.le_refl _
  | succ n ih =>
    rw [sumS_succ, sumS_succ]
    have := ih (fun i hi => h i (by omega))
    split
    · rename_i hS; have := h n (by omega) hS; omega
    · omega
theorem sumS_lt {n : Nat} {S : Nat → Bool} {f g : Nat → Nat} (h : ∀ i, i < n → S i = true → f i ≤ g i) {c : Nat} (hc : c < n) (hS : S c = true) (hl : f c < g c) : sumS n S f < sumS n S g := by
  induction n with
  | zero => omega
  | succ n ih =>
    rw [sumS_succ, sumS_succ]
    by_cases e : c = n
    · subst e
      have := sumS_le (n := c) (S := S) (f := f) (g := g) (fun i hi => h i (by omega))
      rw [if_pos hS, if_pos hS]; omega
    · have := ih (fun i hi => h i (by omega)) (by omega)
      split
      · rename_i hS'; have := h n (by omega) hS'; omega
      · omega
theorem sumS_one (n : Nat) (S : Nat → Bool) (x : Int) : sumS n S (fun j => if x = (j : Int) then 1 else 0) = if inS n S x then 1 else 0 := by
  induction n with
  | zero => simp [sumS, inS]; omega
  | succ n ih =>
    rw [sumS_succ, ih]
    by_cases e : x = n
    · subst e
      have e1 : inS n S (n : Int) = false := by simp [inS]
      rw [e1]
      cases hS : S n
      · simp [inS, hS]
      · simp [inS, hS]; omega
    · have e2 : inS (n + 1) S x = inS n S x := by
        unfold inS
        congr 2
        simp; omega
      rw [e2, if_neg e]
      simp
theorem sum_count (n : Nat) (S : Nat → Bool) (wh : List Int) : sumS n S (fun j => wh.count (j : Int)) = wh.countP (inS n S) := by
  induction wh with
  | nil => simpa using sumS_zero n S
  | cons x wh ih =>
    have : (fun j : Nat => (x :: wh).count (j : Int)) = fun j : Nat => wh.count (j : Int) + if x = (j : Int) then 1 else 0 := by
      funext j; rw [List.count_cons]; simp
    rw [this, sumS_add, ih, sumS_one, List.countP_cons]
theorem countP_range (p : Int → Bool) (wh : List Int) (x0 : Int) : wh.countP p = ((List.range wh.length).filter (fun h => p (wh.getD h x0))).length := by
  have e : wh = (List.range wh.length).map (fun h => wh.getD h x0) := by
    apply List.ext_getElem?
    intro i
    rw [List.getElem?_map]
    by_cases hi : i < wh.length
    · rw [List.getElem?_range hi]; simp [hi]
    · rw [List.getElem?_eq_none (by omega), List.getElem?_eq_none (by simp; omega)]; rfl
  conv => lhs; rw [e]
  rw [List.countP_map, List.countP_eq_length_filter]
  rfl
theorem filter_le_on {α : Type} {p q : α → Bool} {l : List α} (h : ∀ x, x ∈ l → p x = true → q x = true) : (l.filter p).length ≤ (l.filter q).length := by
  induction l with
  | nil => simp
  | cons z l ih =>
    have := ih (fun x hx => h x (List.mem_cons_of_mem _ hx))
    simp only [List.filter_cons]
    cases hpz : p z
    · cases hqz : q z <;> simp <;> omega
    · rw [h z List.mem_cons_self hpz]; simp; omega

/-- How many hours below H a set has. -/
def nbits (H s : Nat) : Nat := ((List.range H).filter (fun h => s.testBit h)).length

/-- The comers all of whose hours are in a set. -/
def inside (H : Nat) (adj : Nat → Nat → Bool) (s j : Nat) : Bool := (List.range H).all fun h => !adj j h || s.testBit h
theorem inside_iff {j : Nat} : inside H adj s j = true ↔ ∀ h, h < H → adj j h = true → s.testBit h = true := by
  unfold inside
  rw [List.all_eq_true]
  constructor
  · intro h k hk ha; have := h k (List.mem_range.2 hk); rw [ha] at this; simpa using this
  · intro h k hk
    cases ha : adj j k
    · rfl
    · rw [h k (List.mem_range.1 hk) ha]; rfl

/-- Those who have all their hours in a set have no more of them than the set has. -/
theorem held_le (h : Asg n H adj wh) (s : Nat) : sumS n (inside H adj s) (fun j => wh.count (j : Int)) ≤ nbits H s := by
  rw [sum_count, countP_range _ _ (-1), h.len]
  refine filter_le_on fun k hk hx => ?_
  have hk' : k < wh.length := by rw [h.len]; exact List.mem_range.1 hk
  have e : wh[k]? = some (wh.getD k (-1)) := by rw [List.getD_eq_getElem?_getD, List.getElem?_eq_getElem hk']; rfl
  rcases h.ok k _ e with e1 | ⟨i, e1, hi, ha⟩
  · rw [e1] at hx; simp [inS] at hx
  · rw [e1] at hx
    simp [inS] at hx
    exact inside_iff.1 hx.2 k (by rw [← h.len]; exact hk') ha
/-- A search that failed: all the hours that it tried are held by those who can come at no others. -/
theorem tried_le (h : Asg n H adj wh) (f : StepF n H adj c 0 wh s) : nbits H s ≤ sumS n (inside H adj s) (fun j => wh.count (j : Int)) := by
  rw [sum_count, countP_range _ _ (-1), h.len]
  refine filter_le_on fun k hk hx => ?_
  obtain ⟨i, e, hi, ha⟩ := f.shut k hx (by simp)
  rw [List.getD_eq_getElem?_getD, e]
  simp [inS, hi]
  exact inside_iff.2 ha

theorem StepF.no {d : Nat → Int} (h : Asg n H adj wh) (f : StepF n H adj c 0 wh s) (hd : ∀ i, i < n → (wh.count (i : Int) : Int) ≤ max (d i) 0) (hc : c < n) (hl : (wh.count (c : Int) : Int) < d c) : ¬ Feas n H adj d := by
  rintro ⟨wh2, h2, hc2⟩
  have a1 := held_le h2 s
  have a2 := tried_le h f
  have a3 : sumS n (inside H adj s) (fun j => wh.count (j : Int)) < sumS n (inside H adj s) (fun j => wh2.count (j : Int)) :=
    sumS_lt (fun i hi _ => by have := hd i hi; have := hc2 i hi; omega) hc (inside_iff.2 f.all) (by have := hc2 c hc; omega)
  omega
end

/-! ### A way to reckon it -/
def feasB (n : Nat) (adj : Nat → Nat → Bool) : Nat → List Int → Bool
  | 0, d => (List.range n).all fun i => decide (d.getD i 0 ≤ 0)
  | h + 1, d => feasB n adj h d || (List.range n).any fun i => adj i h && decide (0 < d.getD i 0) && feasB n adj h (d.set i (d.getD i 0 - 1))

theorem Feas.mono {n H : Nat} {adj : Nat → Nat → Bool} {d d' : Nat → Int} (h : Feas n H adj d) (hd : ∀ i, i < n → d' i ≤ d i) : Feas n H adj d' := by
  obtain ⟨wh, h1, h2⟩ := h
  exact ⟨wh, h1, fun i hi => Int.le_trans (hd i hi) (h2 i hi)⟩

theorem getD_set {l : List Int} {i j : Nat} {v : Int} (hi : i < l.length) : (l.set i v).getD j 0 = if j = i then v else l.getD j 0 := by
  rw [List.getD_eq_getElem?_getD, List.getD_eq_getElem?_getD, List.getElem?_set]
  by_cases e : i = j
  · subst e; simp [hi]
  · rw [if_neg e, if_neg (by omega)]

theorem Asg.snoc {n H : Nat} {adj : Nat → Nat → Bool} {wh : List Int} {x : Int} (h : Asg n H adj wh) (hx : x = -1 ∨ ∃ i : Nat, x = i ∧ i < n ∧ adj i H = true) : Asg n (H + 1) adj (wh ++ [x]) := by
  refine ⟨by simp [h.len], fun k y hy => ?_⟩
  by_cases hk : k < H
  · rw [List.getElem?_append_left (by rw [h.len]; exact hk)] at hy; exact h.ok k y hy
  · rw [List.getElem?_append_right (by rw [h.len]; omega), h.len] at hy
    have : k = H := by
      rcases Nat.lt_or_ge (k - H) 1 with h1 | h1
      · omega
      · rw [List.getElem?_eq_none (by simp; omega)] at hy; cases hy
    subst this
    simp at hy; subst hy; exact hx
theorem Asg.init {n H : Nat} {adj : Nat → Nat → Bool} {wh : List Int} (h : Asg n (H + 1) adj wh) : ∃ (wh' : List Int) (x : Int), wh = wh' ++ [x] ∧ Asg n H adj wh' ∧ (x = -1 ∨ ∃ i : Nat, x = i ∧ i < n ∧ adj i H = true) := by
  have hne : wh ≠ [] := by intro e; have := h.len; rw [e] at this; simp at this
  obtain ⟨wh', x, rfl⟩ : ∃ (wh' : List Int) (x : Int), wh = wh' ++ [x] := ⟨wh.dropLast, wh.getLast hne, (List.dropLast_concat_getLast hne).symm⟩
  have hl : wh'.length = H := by have := h.len; simp at this; exact this
  refine ⟨wh', x, rfl, ⟨hl, fun k y hy => h.ok k y ?_⟩, h.ok H x ?_⟩
  · have : k < wh'.length := (List.getElem?_eq_some_iff.1 hy).1
    rw [List.getElem?_append_left this]; exact hy
  · rw [List.getElem?_append_right (by omega), hl]; simp

theorem feasB_iff (n : Nat) (adj : Nat → Nat → Bool) : ∀ (H : Nat) (d : List Int), d.length = n → (feasB n adj H d = true ↔ Feas n H adj (fun i => d.getD i 0))
  | 0, d, hd => by
    unfold feasB
    rw [List.all_eq_true]
    constructor
    · intro h; exact ⟨[], ⟨rfl, fun _ _ h => by simp at h⟩, fun i hi => by have := h i (List.mem_range.2 hi); simpa using this⟩
    · rintro ⟨wh, h1, h2⟩ i hi
      have : wh = [] := List.eq_nil_of_length_eq_zero h1.len
      subst this
      have := h2 i (List.mem_range.1 hi)
      simpa using this
  | H + 1, d, hd => by
    unfold feasB
    rw [Bool.or_eq_true, List.any_eq_true]
    constructor
    · rintro (h | ⟨i, hi, h⟩)
      · obtain ⟨wh, h1, h2⟩ := (feasB_iff n adj H d hd).1 h
        exact ⟨wh ++ [-1], h1.snoc (.inl rfl), fun j hj => by have := h2 j hj; rw [List.count_append]; omega⟩
      · simp only [Bool.and_eq_true, decide_eq_true_eq] at h
        obtain ⟨⟨ha, hp⟩, h⟩ := h
        have hi' := List.mem_range.1 hi
        obtain ⟨wh, h1, h2⟩ := (feasB_iff n adj H _ (by simpa using hd)).1 h
        refine ⟨wh ++ [(i : Int)], h1.snoc (.inr ⟨i, rfl, hi', ha⟩), fun j hj => ?_⟩
        have := h2 j hj
        dsimp only at this ⊢
        rw [getD_set (by omega)] at this
        rw [List.count_append, List.count_singleton]
        by_cases e : j = i
        · subst e; simp at this ⊢; omega
        · rw [if_neg e] at this; omega
    · rintro ⟨wh, h1, h2⟩
      obtain ⟨wh', x, rfl, h3, hx⟩ := h1.init
      rcases hx with rfl | ⟨i, rfl, hi, ha⟩
      · left
        refine (feasB_iff n adj H d hd).2 ⟨wh', h3, fun j hj => ?_⟩
        have := h2 j hj
        rw [List.count_append, List.count_singleton] at this
        simpa using this
      · by_cases hp : 0 < d.getD i 0
        · right
          refine ⟨i, List.mem_range.2 hi, ?_⟩
          simp only [Bool.and_eq_true, decide_eq_true_eq]
          refine ⟨⟨ha, hp⟩, (feasB_iff n adj H _ (by simpa using hd)).2 ⟨wh', h3, fun j hj => ?_⟩⟩
          have := h2 j hj
          dsimp only
          rw [getD_set (by omega)]
          rw [List.count_append, List.count_singleton] at this
          by_cases e : j = i
          · subst e; simp at this ⊢; omega
          · rw [if_neg e]
            have e2 : ((i : Int) == (j : Int)) = false := by simp; omega
            rw [e2] at this; simpa using this
        · left
          refine (feasB_iff n adj H d hd).2 ⟨wh', h3, fun j hj => ?_⟩
          have := h2 j hj
          rw [List.count_append, List.count_singleton] at this
          by_cases e : j = i
          · subst e; dsimp only; omega
          · have e2 : ((i : Int) == (j : Int)) = false := by simp; omega
            rw [e2] at this; simpa using this
end Go.Proofs.Ytdhhneflhmkonaa
