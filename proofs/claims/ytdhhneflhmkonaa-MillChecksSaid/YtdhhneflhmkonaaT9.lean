/- slices.Clone, of numbers and of comers. -/
import Derived.Test.YtdhhneflhmkonaaT8
namespace Go.Proofs.Ytdhhneflhmkonaa
open Go.RowKit Go.Shelf

theorem add_at (b o j : Nat) : (⟨b, o, none⟩ : Addr).add j = ⟨b, o + j, none⟩ := by unfold Addr.add; split <;> simp_all

set_option maxRecDepth 100000 in
theorem eqNil (t : TypeId) (ht : t = 28 ∨ t = 22) (a : Option Addr) (n c : Nat) (w : World) : (binOp .eql t (.slice a n c) (.slice none 0 0)).run Try.prog w = .ok (.bool a.isNone) w := by
  rcases ht with rfl | rfl <;> cases a <;> rfl

set_option maxRecDepth 100000 in
theorem cloneInts_any (A : Option Addr) (n c : Nat) (l : List Int) (w : World) (ha : Ints w A n l) (hn : n ≤ 1000000) :
    Calls Try.prog 66 #[.slice A n c] w fun e w' => (∃ v, e = .returned v ∧ Own w' w.heap.size v l) ∧ Below w.heap.size w w' := by
  have HA := Lib.hid ha
  have hl := Lib.hid ha.1
  clear ha
  cases A with
  | none =>
    have h0 : n = 0 := by
      rcases Nat.eq_zero_or_pos n with h | h
      · exact h
      · obtain ⟨b, o, e, _⟩ := HA.out.2 h; cases e
    subst h0
    have : l = [] := List.eq_nil_of_length_eq_zero hl.out
    subst this
    have heq := fun w => eqNil 28 (.inl rfl) none 0 c w
    go_enter Try.func66, Try.ntmps66
    go_wp2_with fail
    go_ret
    exact ⟨⟨_, rfl, Own.nil _ _⟩, Below.refl _ _⟩
  | some a =>
    have heq := fun w => eqNil 28 (.inl rfl) (some a) n c w
    have hnews : ∀ (j : Nat) (u : Value), (l.map (Value.int .i64))[j]? = some u → w.cell? (a.add j) = some u := by
      intro j u hu
      rw [List.getElem?_map] at hu
      have hj : j < n := by
        rw [← hl.out]
        rcases Nat.lt_or_ge j l.length with h | h
        · exact h
        · rw [List.getElem?_eq_none h] at hu; cases hu
      obtain ⟨b, o, e, -, hx, hc⟩ := ints_at HA.out hj
      cases e
      have h0 := hc w (Below.refl _ _)
      rw [hx] at hu; cases hu
      rw [add_at]; exact h0
    have HN := Lib.hid hnews
    clear hnews
    obtain ⟨i, hi, hz0, hz1, hz2⟩ := info_parts info3
    have hown := World.ownsRow_made (e := 3) (size := 1) w #[] 0 (Nat.le_refl w.heap.size) (by decide) rfl
    have HOW := Lib.hid hown
    clear hown
    go_enter Try.func66, Try.ntmps66
    go_wp2_with (first | (at_builtin; go_loud (refine wpList_append_own _ rfl _ _ 28 rfl w.heap.size 3 i (.int .i64 0) 1 8 under28 hi hz0 hz1 hz2 (by simp [Value.cells]) (by decide) _ 0 [] rfl HOW.out a n c (l.map (Value.int .i64)) rfl (by simp [hl.out]) (fun j u hu => (World.cell?_alloc_lt _ _ _ (World.block_lt_of_cell? _ _ (HN.out j u hu))).trans (HN.out j u hu)) (by simp [Value.oneCell']) (by unfold maxLen; omega) (by omega) (by simp) ?_); intro v' w' ho hbw hz))
    go_ret
    refine ⟨⟨_, rfl, ?_⟩, ((Below.refl _ _).alloc (Nat.le_refl _) _).grown hbw (by simp) (fun k hk => Nat.le_of_eq (Option.some.inj hk))⟩
    unfold Own
    rw [hl.out]
    simpa using ho

/-! ### Comers -/
theorem ccells_len (x : Comer) : (ccells x).length = 3 := rfl
theorem flat_get {α : Type} {f : α → List Value} {s : Nat} (hf : ∀ x, (f x).length = s) : ∀ (xs : List α) (k j : Nat), j < s → (xs.flatMap f)[k * s + j]? = xs[k]?.bind fun x => (f x)[j]?
  | [], k, j, _ => by simp
  | x :: xs, 0, j, hj => by
    rw [List.flatMap_cons, List.getElem?_append_left (by rw [hf]; omega)]; simp
  | x :: xs, k + 1, j, hj => by
    have e : (k + 1) * s + j = s + (k * s + j) := by rw [Nat.succ_mul]; omega
    rw [List.flatMap_cons, List.getElem?_append_right (by rw [hf, e]; omega), hf, e, Nat.add_sub_cancel_left, flat_get hf xs k j hj]
    rfl
theorem flat_len {α : Type} {f : α → List Value} {s : Nat} (hf : ∀ x, (f x).length = s) : ∀ xs : List α, (xs.flatMap f).length = xs.length * s
  | [] => by simp
  | x :: xs => by rw [List.flatMap_cons, List.length_append, hf, flat_len hf xs, List.length_cons, Nat.succ_mul]; omega

/-- A slice of comers that the call itself makes. -/
def OwnC (w : World) (base : Nat) (v : Value) (xs : List Comer) : Prop := w.ownsRow base 53 3 v xs.length (xs.flatMap ccells)
section
variable {w w' : World} {base : Nat} {v : Value} {xs : List Comer}
theorem OwnC.nil (w : World) (base : Nat) : OwnC w base (.slice none 0 0) [] := World.ownsRow_nil w base 53 3
theorem OwnC.ext (h : OwnC w base v xs) (g : Below w.heap.size w w') : OwnC w' base v xs :=
  World.ownsRow.kept h (row := none) ⟨g.os, g.tape, g.output, g.size, fun k hk _ => g.block k hk⟩ (by
    cases hq : v.ownBlock with
    | none => exact .inl rfl
    | some k => exact .inr (by simp))
/-- As a slice; where it lies. -/
theorem OwnC.arr (h : OwnC w base v xs) : ∃ A c, v = .slice A xs.length c ∧ xs.length ≤ c ∧ Arr ccells 3 w A xs.length xs ∧
    (∀ b o, A = some ⟨b, o, none⟩ → base ≤ b ∧ o = 0) ∧ ∀ b o, A = some ⟨b, o, none⟩ → ∀ j, w.frozen? ⟨b, j, none⟩ = false := by
  obtain ⟨h1, h2 | ⟨g, cap, cur, rfl, hb, hg, h4, h5, h6, h7⟩⟩ := h
  · obtain ⟨rfl, h3⟩ := h2
    have : xs = [] := List.eq_nil_of_length_eq_zero h3
    subst this
    exact ⟨none, 0, rfl, Nat.le_refl _, Arr.nil_, (by simp), (by simp)⟩
  · have hg' : Blk w g 53 cur := hg
    refine ⟨_, _, rfl, h4, ⟨rfl, fun _ => ⟨g, 0, rfl, hg'.lt, fun k x hx j u hu => ?_⟩⟩, fun b o e => by cases e; exact ⟨hb, rfl⟩, fun b o e j => by cases e; exact hg'.frozen j⟩
    have hk : k < xs.length := (List.getElem?_eq_some_iff.1 hx).1
    have hj : j < 3 := by
      rcases Nat.lt_or_ge j 3 with h | h
      · exact h
      · rw [List.getElem?_eq_none (by simp [ccells]; omega)] at hu; cases hu
    have e1 : (xs.flatMap ccells)[k * 3 + j]? = some u := by rw [flat_get ccells_len xs k j hj, hx]; exact hu
    rw [← h7, List.getElem?_take, if_pos (by omega)] at e1
    rw [show 0 + k * 3 + j = k * 3 + j by omega, hg'.cell]
    simpa using e1
end
theorem info53 : (Try.prog.info? 53).map (fun i => (i.zero, i.size, i.bytes)) = some (some (.agg #[.int .i64 0, .int .i64 0, .int .i64 0]), 3, 24) := by kernel_rfl
theorem under22 : Try.prog.underlying 22 = some (.slice 53) := by kernel_rfl

set_option maxRecDepth 100000 in
theorem cloneComers_any (A : Option Addr) (n c : Nat) (xs : List Comer) (w : World) (ha : Arr ccells 3 w A n xs) (hn : n ≤ 1000000) :
    Calls Try.prog 69 #[.slice A n c] w fun e w' => (∃ v, e = .returned v ∧ OwnC w' w.heap.size v xs) ∧ Below w.heap.size w w' := by
  have HA := Lib.hid ha
  have hl := Lib.hid ha.1
  clear ha
  cases A with
  | none =>
    have h0 : n = 0 := by
      rcases Nat.eq_zero_or_pos n with h | h
      · exact h
      · obtain ⟨b, o, e, _⟩ := HA.out.2 h; cases e
    subst h0
    have : xs = [] := List.eq_nil_of_length_eq_zero hl.out
    subst this
    have heq := fun w => eqNil 22 (.inr rfl) none 0 c w
    go_enter Try.func69, Try.ntmps69
    go_wp2_with fail
    go_ret
    exact ⟨⟨_, rfl, OwnC.nil _ _⟩, Below.refl _ _⟩
  | some a =>
    have heq := fun w => eqNil 22 (.inr rfl) (some a) n c w
    have hnews : ∀ (j : Nat) (u : Value), (xs.flatMap ccells)[j]? = some u → w.cell? (a.add j) = some u := by
      intro j u hu
      have hj : j < n * 3 := by
        rw [← hl.out, ← flat_len ccells_len xs]
        exact (List.getElem?_eq_some_iff.1 hu).1
      obtain ⟨b, o, x, e, -, hx, hc⟩ := HA.out.at (k := j / 3) (by omega)
      cases e
      rw [show j = j / 3 * 3 + j % 3 by omega, flat_get ccells_len xs _ _ (Nat.mod_lt _ (by decide)), hx] at hu
      have := hc w (Below.refl _ _) (j % 3) u hu
      rw [add_at, show o + j = o + j / 3 * 3 + j % 3 by omega]
      exact this
    have HN := Lib.hid hnews
    clear hnews
    obtain ⟨i, hi, hz0, hz1, hz2⟩ := info_parts info53
    have hown := World.ownsRow_made (e := 53) (size := 3) w #[] 0 (Nat.le_refl w.heap.size) (by decide) rfl
    have HOW := Lib.hid hown
    have h1c : ∀ u ∈ xs.flatMap ccells, u.oneCell' = true := by
      intro u hu
      obtain ⟨x, -, hx⟩ := List.mem_flatMap.1 hu
      simp [ccells] at hx
      rcases hx with rfl | rfl | rfl <;> rfl
    have hfl : (xs.flatMap ccells).length = n * 3 := by rw [flat_len ccells_len xs, hl.out]
    have HFL := Lib.hid hfl
    have H1 := Lib.hid h1c
    clear hown h1c hfl
    go_enter Try.func69, Try.ntmps69
    go_wp2_with (first | (at_builtin; go_loud (refine wpList_append_own _ rfl _ _ 22 rfl w.heap.size 53 i (.agg #[.int .i64 0, .int .i64 0, .int .i64 0]) 3 24 under22 hi hz0 hz1 hz2 (by simp [Value.cells]) (by decide) _ 0 [] rfl HOW.out a n c (xs.flatMap ccells) rfl HFL.out (fun j u hu => (World.cell?_alloc_lt _ _ _ (World.block_lt_of_cell? _ _ (HN.out j u hu))).trans (HN.out j u hu)) H1.out (by unfold maxLen; omega) (by omega) (by simp) ?_); intro v' w' ho hbw hz))
    go_ret
    refine ⟨⟨_, rfl, ?_⟩, ((Below.refl _ _).alloc (Nat.le_refl _) _).grown hbw (by simp) (fun k hk => Nat.le_of_eq (Option.some.inj hk))⟩
    unfold OwnC
    rw [hl.out]
    simpa using ho
end Go.Proofs.Ytdhhneflhmkonaa
