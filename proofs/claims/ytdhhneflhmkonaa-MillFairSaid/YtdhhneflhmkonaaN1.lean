/- Plain: what the turns give: nobody could have one hour more; the level; moves from one comer to another. -/
import Derived.Test.YtdhhneflhmkonaaKC
namespace Go.Proofs.Ytdhhneflhmkonaa

theorem fea_mono {xs : List Comer} {H : Nat} {b : Int} {d d' : List Int} (hl : d.length = xs.length) (hl' : d'.length = xs.length) (h : fea xs H b d = true) (hd : ∀ i, i < xs.length → d'.getD i 0 ≤ d.getD i 0) : fea xs H b d' = true :=
  (fea_iff hl').2 (((fea_iff hl).1 h).mono hd)
theorem fea_not {xs : List Comer} {H : Nat} {b : Int} {d d' : List Int} (hl : d.length = xs.length) (hl' : d'.length = xs.length) (h : fea xs H b d' = false) (hd : ∀ i, i < xs.length → d'.getD i 0 ≤ d.getD i 0) : fea xs H b d = false := by
  cases hq : fea xs H b d with
  | false => rfl
  | true => rw [fea_mono hl hl' hq hd] at h; cases h

/-- What the i-th comer's step does: it gets its hour, or nothing. -/
def gets (xs : List Comer) (H : Nat) (r : Nat) (out : List Int) (i : Nat) : Bool :=
  decide (out.getD i 0 = r) && decide ((r : Int) + 1 ≤ (xs.getD i ⟨0, 0, 0⟩).wants) && fea xs H (-1) (out.set i ((r : Int) + 1))

theorem stepI_at {xs : List Comer} {H r : Nat} {out : List Int} {i : Nat} (hi : i < out.length) (j : Nat) :
    (stepI xs H ((r : Int) + 1) out i).getD j 0 = if j = i ∧ gets xs H r out i = true then (r : Int) + 1 else out.getD j 0 := by
  unfold stepI gets
  by_cases h1 : (xs.getD i ⟨0, 0, 0⟩).wants < (r : Int) + 1 ∨ out.getD i 0 ≠ (r : Int) + 1 - 1
  · rw [if_pos h1, if_neg]
    rintro ⟨-, h2⟩
    simp only [Bool.and_eq_true, decide_eq_true_eq] at h2
    omega
  · rw [if_neg h1]
    have h2 : out.getD i 0 = r := by omega
    have h3 : (r : Int) + 1 ≤ (xs.getD i ⟨0, 0, 0⟩).wants := by omega
    rw [h2, decide_eq_true rfl, decide_eq_true h3, Bool.true_and, Bool.true_and]
    by_cases h4 : fea xs H (-1) (out.set i ((r : Int) + 1)) = true
    · rw [if_pos h4, getD_set hi]
      by_cases h5 : j = i
      · rw [if_pos h5, if_pos ⟨h5, h4⟩]
      · rw [if_neg h5, if_neg (fun h => h5 h.1)]
    · rw [if_neg h4, if_neg (fun h => h4 h.2)]

/-- The state ahead of the k-th comer's step in the round r + 1. -/
abbrev St (xs : List Comer) (H r k : Nat) : List Int := rowT xs H ((r : Int) + 1) k (turnsT xs H r)
theorem St_len (xs : List Comer) (H r k : Nat) : (St xs H r k).length = xs.length := (rowT_len _ _ _ _ _).trans (turnsT_len xs H r)
theorem St_zero (xs : List Comer) (H r : Nat) : St xs H r 0 = turnsT xs H r := rfl
theorem St_end (xs : List Comer) (H r : Nat) : St xs H r xs.length = turnsT xs H (r + 1) := rfl
abbrev got (xs : List Comer) (H r j : Nat) : Int := (turnsT xs H r).getD j 0
abbrev Gt (xs : List Comer) (H r j : Nat) : Bool := gets xs H r (St xs H r j) j

theorem St_at (xs : List Comer) (H r : Nat) : ∀ k, k ≤ xs.length → ∀ j, (St xs H r k).getD j 0 = if j < k ∧ Gt xs H r j = true then (r : Int) + 1 else got xs H r j
  | 0, _, j => by rw [if_neg (by omega)]; rfl
  | k + 1, hk, j => by
    show (stepI xs H ((r : Int) + 1) (St xs H r k) k).getD j 0 = _
    have h0 := St_at xs H r k (by omega) j
    rw [stepI_at (by rw [St_len]; omega), h0]
    clear h0
    by_cases e : j = k
    · subst e
      rw [if_neg (c := j < j ∧ _) (fun h => absurd h.1 (Nat.lt_irrefl _))]
      by_cases hg : Gt xs H r j = true
      · rw [if_pos ⟨rfl, hg⟩, if_pos ⟨by omega, hg⟩]
      · rw [if_neg (fun h => hg h.2), if_neg (fun h => hg h.2)]
    · rw [if_neg (fun h => e h.1)]
      by_cases hj : j < k
      · by_cases hg : Gt xs H r j = true
        · rw [if_pos ⟨hj, hg⟩, if_pos ⟨by omega, hg⟩]
        · rw [if_neg (fun h => hg h.2), if_neg (fun h => hg h.2)]
      · rw [if_neg (fun h => hj h.1), if_neg (fun h => absurd h.1 (by omega))]
theorem got_succ (xs : List Comer) (H r : Nat) {j : Nat} (hj : j < xs.length) : got xs H (r + 1) j = if Gt xs H r j = true then (r : Int) + 1 else got xs H r j := by
  have := St_at xs H r xs.length (Nat.le_refl _) j
  rw [St_end] at this
  show (turnsT xs H (r + 1)).getD j 0 = _
  rw [this]
  by_cases hg : Gt xs H r j = true
  · rw [if_pos ⟨hj, hg⟩, if_pos hg]
  · rw [if_neg (fun h => hg h.2), if_neg hg]
theorem Gt_parts {xs : List Comer} {H r j : Nat} (hj : j < xs.length) (h : Gt xs H r j = true) : got xs H r j = r ∧ (r : Int) + 1 ≤ (xs.getD j ⟨0, 0, 0⟩).wants ∧ fea xs H (-1) ((St xs H r j).set j ((r : Int) + 1)) = true := by
  unfold Gt gets at h
  simp only [Bool.and_eq_true, decide_eq_true_eq] at h
  obtain ⟨⟨h1, h2⟩, h3⟩ := h
  rw [St_at xs H r j (by omega), if_neg (fun h => absurd h.1 (Nat.lt_irrefl _))] at h1
  exact ⟨h1, h2, h3⟩
theorem Gt_no {xs : List Comer} {H r j : Nat} (hj : j < xs.length) (h0 : got xs H r j = r) (h1 : (r : Int) + 1 ≤ (xs.getD j ⟨0, 0, 0⟩).wants) (h : Gt xs H r j = false) : fea xs H (-1) ((St xs H r j).set j ((r : Int) + 1)) = false := by
  unfold Gt gets at h
  rw [St_at xs H r j (by omega), if_neg (fun h => absurd h.1 (Nat.lt_irrefl _)), decide_eq_true h0, decide_eq_true h1] at h
  simpa using h
theorem got_zero (xs : List Comer) (H j : Nat) : got xs H 0 j = 0 := by
  unfold got turnsT
  rw [List.getD_eq_getElem?_getD, List.getElem?_replicate]
  split <;> rfl
theorem got_bd (xs : List Comer) (H : Nat) {j : Nat} (hj : j < xs.length) : ∀ r : Nat, 0 ≤ got xs H r j ∧ got xs H r j ≤ r
  | 0 => by rw [got_zero]; omega
  | r + 1 => by
    have := got_bd xs H hj r
    rw [got_succ xs H r hj]
    split
    · omega
    · omega
theorem got_wants (xs : List Comer) (H : Nat) {j : Nat} (hj : j < xs.length) (hw : 0 ≤ (xs.getD j ⟨0, 0, 0⟩).wants) : ∀ r : Nat, got xs H r j ≤ (xs.getD j ⟨0, 0, 0⟩).wants
  | 0 => by rw [got_zero]; exact hw
  | r + 1 => by
    have := got_wants xs H hj hw r
    rw [got_succ xs H r hj]
    split
    · rename_i h; exact (Gt_parts hj h).2.1
    · exact this
theorem got_mono1 (xs : List Comer) (H : Nat) {j : Nat} (hj : j < xs.length) (r : Nat) : got xs H r j ≤ got xs H (r + 1) j := by
  have := got_bd xs H hj r
  rw [got_succ xs H r hj]
  split
  · omega
  · omega
theorem got_mono (xs : List Comer) (H : Nat) {j : Nat} (hj : j < xs.length) {r s : Nat} (h : r ≤ s) : got xs H r j ≤ got xs H s j := by
  induction s with
  | zero => obtain rfl : r = 0 := by omega
            exact Int.le_refl _
  | succ s ih =>
    by_cases e : r = s + 1
    · subst e; exact Int.le_refl _
    · exact Int.le_trans (ih (by omega)) (got_mono1 xs H hj s)
/-- Who is behind stays behind. -/
theorem got_stuck (xs : List Comer) (H : Nat) {j : Nat} (hj : j < xs.length) {r s : Nat} (h : r ≤ s) (hl : got xs H r j < r) : got xs H s j = got xs H r j := by
  induction s with
  | zero => obtain rfl : r = 0 := by omega
            rfl
  | succ s ih =>
    by_cases e : r = s + 1
    · subst e; rfl
    · have h1 := ih (by omega)
      rw [got_succ xs H s hj]
      split
      · rename_i hg
        have := (Gt_parts hj hg).1
        omega
      · exact h1
/-- Who has q in the end had q after q rounds. -/
theorem got_at (xs : List Comer) (H : Nat) {j : Nat} (hj : j < xs.length) {q s : Nat} (h : q ≤ s) (hq : got xs H s j = q) : got xs H q j = q := by
  have h1 := got_bd xs H hj q
  have h2 := got_mono xs H hj h
  by_cases e : got xs H q j = q
  · exact e
  · have := got_stuck xs H hj h (by omega)
    omega
/-- Who has more than q in the end got it in the round q + 1. -/
theorem got_more (xs : List Comer) (H : Nat) {j : Nat} (hj : j < xs.length) {q s : Nat} (hq : (q : Int) < got xs H s j) : q < s ∧ Gt xs H q j = true ∧ got xs H (q + 1) j = (q : Int) + 1 := by
  have hb := got_bd xs H hj s
  have hqs : q < s := by omega
  refine ⟨hqs, ?_⟩
  cases hg : Gt xs H q j with
  | true => exact ⟨rfl, by rw [got_succ xs H q hj, if_pos hg]⟩
  | false =>
    exfalso
    have h1 : got xs H (q + 1) j = got xs H q j := by rw [got_succ xs H q hj, if_neg (by rw [hg]; simp)]
    have h2 := got_bd xs H hj q
    have h3 := got_stuck xs H hj (show q + 1 ≤ s from hqs) (by rw [h1]; omega)
    omega
theorem St_le (xs : List Comer) (H r k : Nat) (hk : k ≤ xs.length) {j : Nat} (hj : j < xs.length) : (St xs H r k).getD j 0 ≤ got xs H (r + 1) j := by
  rw [St_at xs H r k hk, got_succ xs H r hj]
  have := got_bd xs H hj r
  split
  · rename_i h; rw [if_pos h.2]; omega
  · split
    · omega
    · omega
theorem turnsT_fea (xs : List Comer) (H : Nat) : ∀ r, fea xs H (-1) (turnsT xs H r) = true := by
  have hstep : ∀ (r : Int) (out : List Int) (i : Nat), fea xs H (-1) out = true → fea xs H (-1) (stepI xs H r out i) = true := by
    intro r out i h
    unfold stepI
    split
    · exact h
    · split
      · rename_i h2; exact h2
      · exact h
  have hrow : ∀ (r : Int) (k : Nat) (out : List Int), fea xs H (-1) out = true → fea xs H (-1) (rowT xs H r k out) = true := by
    intro r k
    induction k with
    | zero => intro out h; exact h
    | succ k ih => intro out h; exact hstep _ _ _ (ih out h)
  intro r
  induction r with
  | zero =>
    refine (fea_iff (by simp [turnsT])).2 ⟨List.replicate H (-1), Asg.free _ _ _, fun i _ => ?_⟩
    have := got_zero xs H i
    show got xs H 0 i ≤ _
    rw [this]; omega
  | succ r ih => exact hrow _ _ _ ih

section
variable {xs : List Comer} {H : Nat}
theorem turns_len (xs : List Comer) (H : Nat) : (turnsS xs H).length = xs.length := turnsT_len xs H 24
theorem turns_fea (xs : List Comer) (H : Nat) : fea xs H (-1) (turnsS xs H) = true := turnsT_fea xs H 24
theorem turns_bd (xs : List Comer) (H : Nat) {j : Nat} (hj : j < xs.length) : 0 ≤ (turnsS xs H).getD j 0 ∧ (turnsS xs H).getD j 0 ≤ 24 := by
  have := got_bd xs H hj 24
  exact ⟨this.1, by have := this.2; unfold turnsS; omega⟩
/-- Nobody who wants more could have one hour more. -/
theorem turns_most {j : Nat} (hj : j < xs.length) (hw : (turnsS xs H).getD j 0 < (xs.getD j ⟨0, 0, 0⟩).wants) (h24 : (turnsS xs H).getD j 0 < 24) :
    fea xs H (-1) ((turnsS xs H).set j ((turnsS xs H).getD j 0 + 1)) = false := by
  have hb := turns_bd xs H hj
  obtain ⟨q, hq⟩ : ∃ q : Nat, (turnsS xs H).getD j 0 = q := ⟨_, (Int.toNat_of_nonneg hb.1).symm⟩
  rw [hq] at hw h24 ⊢
  have h1 : got xs H q j = q := got_at xs H hj (s := 24) (by omega) hq
  have hG : Gt xs H q j = false := by
    cases hg : Gt xs H q j with
    | false => rfl
    | true =>
      have e := got_succ xs H q hj
      rw [if_pos hg] at e
      have := got_mono xs H hj (show q + 1 ≤ 24 by omega)
      unfold turnsS at hq
      change got xs H 24 j = q at hq
      omega
  refine fea_not (by rw [List.length_set, turns_len]) (by rw [List.length_set, St_len]) (Gt_no hj h1 (by omega) hG) fun i hi => ?_
  rw [getD_set (by rw [St_len]; exact hj), getD_set (by rw [turns_len]; exact hj)]
  split
  · exact Int.le_refl _
  · exact Int.le_trans (St_le xs H q j (by omega) hi) (got_mono xs H hi (show q + 1 ≤ 24 by omega))

theorem capped_at (xs : List Comer) (m : Int) {i : Nat} (hi : i < xs.length) : (capped xs m).getD i 0 = min m (xs.getD i ⟨0, 0, 0⟩).wants := by
  unfold capped
  rw [List.getD_eq_getElem?_getD, List.getElem?_map, List.getD_eq_getElem?_getD, List.getElem?_eq_getElem hi]
  rfl
theorem capped_len (xs : List Comer) (m : Int) : (capped xs m).length = xs.length := by unfold capped; rw [List.length_map]
theorem capped_mono {k m : Int} (h : k ≤ m) (hf : fea xs H (-1) (capped xs m) = true) : fea xs H (-1) (capped xs k) = true :=
  fea_mono (capped_len _ _) (capped_len _ _) hf fun i hi => by rw [capped_at _ _ hi, capped_at _ _ hi]; omega
theorem capped_zero (xs : List Comer) (H : Nat) : fea xs H (-1) (capped xs 0) = true :=
  (fea_iff (capped_len _ _)).2 ⟨_, Asg.free _ _ _, fun i hi => by
    show (capped xs 0).getD i 0 ≤ _
    rw [capped_at _ _ hi]; omega⟩

theorem lev_spec (xs : List Comer) (H : Nat) : ∀ (f k : Nat), fea xs H (-1) (capped xs k) = true →
    k ≤ lev xs H f k ∧ lev xs H f k ≤ k + f ∧ fea xs H (-1) (capped xs (lev xs H f k : Nat)) = true ∧ (lev xs H f k < k + f → fea xs H (-1) (capped xs ((lev xs H f k : Nat) + 1)) = false)
  | 0, k, h => ⟨Nat.le_refl _, Nat.le_refl _, h, fun h => absurd h (Nat.lt_irrefl _)⟩
  | f + 1, k, h => by
    unfold lev
    split
    · rename_i h1
      obtain ⟨a, b, c, d⟩ := lev_spec xs H f (k + 1) (by rw [Int.natCast_succ]; exact h1)
      exact ⟨by omega, by omega, c, fun e => d (by omega)⟩
    · rename_i h1
      exact ⟨Nat.le_refl _, by omega, h, fun _ => by simpa using h1⟩
theorem level_spec (xs : List Comer) (H : Nat) : lev xs H 24 0 ≤ 24 ∧ fea xs H (-1) (capped xs (lev xs H 24 0 : Nat)) = true ∧ (lev xs H 24 0 < 24 → fea xs H (-1) (capped xs ((lev xs H 24 0 : Nat) + 1)) = false) := by
  obtain ⟨-, b, c, d⟩ := lev_spec xs H 24 0 (capped_zero xs H)
  exact ⟨by omega, c, fun e => d (by omega)⟩
theorem level_le {k : Nat} (h : fea xs H (-1) (capped xs k) = true) (hk : k ≤ 24) : k ≤ lev xs H 24 0 := by
  obtain ⟨a, b, c⟩ := level_spec xs H
  rcases Nat.lt_or_ge (lev xs H 24 0) k with h1 | h1
  · have := capped_mono (k := ((lev xs H 24 0 : Nat) : Int) + 1) (by omega) h
    rw [c (by omega)] at this; cases this
  · exact h1

/-- Up to the level every round gives to all who want. -/
theorem got_level (hw : ∀ j, j < xs.length → 0 ≤ (xs.getD j ⟨0, 0, 0⟩).wants) {L : Nat} (hL : fea xs H (-1) (capped xs (L : Nat)) = true) : ∀ r : Nat, r ≤ L → ∀ j, j < xs.length → got xs H r j = min (r : Int) (xs.getD j ⟨0, 0, 0⟩).wants
  | 0, _, j, hj => by have := hw j hj; rw [got_zero]; omega
  | r + 1, hr, j, hj => by
    have ih := got_level hw hL r (by omega)
    have hwj := hw j hj
    rw [got_succ xs H r hj, ih j hj]
    by_cases h1 : (r : Int) + 1 ≤ (xs.getD j ⟨0, 0, 0⟩).wants
    · have hG : Gt xs H r j = true := by
        cases hg : Gt xs H r j with
        | true => rfl
        | false =>
          have := Gt_no hj (by rw [ih j hj]; omega) h1 hg
          have h2 := fea_mono (d' := (St xs H r j).set j ((r : Int) + 1)) (capped_len xs L) (by rw [List.length_set, St_len]) hL fun i hi => by
            rw [getD_set (by rw [St_len]; exact hj), capped_at _ _ hi]
            split
            · rename_i e; subst e; omega
            · rw [St_at xs H r j (by omega)]
              split
              · rename_i h; have := (Gt_parts hi h.2).2.1; omega
              · rw [ih i hi]; omega
          rw [this] at h2; cases h2
      rw [if_pos hG]; omega
    · rw [if_neg]
      · omega
      · intro hg
        have := (Gt_parts hj hg).2.1
        omega
theorem turns_level (hw : ∀ j, j < xs.length → 0 ≤ (xs.getD j ⟨0, 0, 0⟩).wants) {j : Nat} (hj : j < xs.length) : min ((lev xs H 24 0 : Nat) : Int) (xs.getD j ⟨0, 0, 0⟩).wants ≤ (turnsS xs H).getD j 0 := by
  obtain ⟨a, b, -⟩ := level_spec xs H
  rw [← got_level hw b _ (Nat.le_refl _) j hj]
  exact got_mono xs H hj a
theorem turns_wants (hw : ∀ j, j < xs.length → 0 ≤ (xs.getD j ⟨0, 0, 0⟩).wants) {j : Nat} (hj : j < xs.length) : (turnsS xs H).getD j 0 ≤ (xs.getD j ⟨0, 0, 0⟩).wants := got_wants xs H hj (hw j hj) 24
end

/-- One hour of one comer may as well be another one's who can come at the same hours. -/
theorem Feas.move {n H : Nat} {adj : Nat → Nat → Bool} {d d' : Nat → Int} {a b : Nat} (h : Feas n H adj d) (ha : a < n) (hb : b < n) (hab : a ≠ b) (he : ∀ k, k < H → adj a k = true → adj b k = true) (hpos : 1 ≤ d a)
    (hda : d' a ≤ d a - 1) (hdb : d' b ≤ d b + 1) (hd : ∀ i, i < n → i ≠ a → i ≠ b → d' i ≤ d i) : Feas n H adj d' := by
  obtain ⟨wh, h1, h2⟩ := h
  have hca : 0 < wh.count (a : Int) := by have := h2 a ha; omega
  obtain ⟨k, hk⟩ := List.getElem?_of_mem (List.count_pos_iff.1 hca)
  have hkH : k < H := by rw [← h1.len]; exact (List.getElem?_eq_some_iff.1 hk).1
  have hak : adj a k = true := by
    rcases h1.ok k _ hk with e | ⟨i, e, -, ha⟩
    · omega
    · obtain rfl : a = i := by omega
      exact ha
  refine ⟨wh.set k (b : Int), ⟨by rw [List.length_set]; exact h1.len, fun q x hx => ?_⟩, fun i hi => ?_⟩
  · rw [List.getElem?_set] at hx
    split at hx
    · rename_i e
      subst e
      split at hx
      · exact .inr ⟨b, by simpa using hx.symm, hb, he k hkH hak⟩
      · cases hx
    · exact h1.ok q x hx
  · have hc := count_set hk (b : Int) (i : Int)
    have hi2 := h2 i hi
    by_cases e1 : i = a
    · subst e1
      rw [if_pos rfl, if_neg (by omega)] at hc
      omega
    · by_cases e2 : i = b
      · subst e2
        rw [if_neg (by omega), if_pos rfl] at hc
        omega
      · rw [if_neg (by omega), if_neg (by omega)] at hc
        have := hd i hi e1 e2
        omega
end Go.Proofs.Ytdhhneflhmkonaa
