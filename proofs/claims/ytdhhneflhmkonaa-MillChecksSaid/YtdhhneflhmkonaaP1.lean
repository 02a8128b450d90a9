/- Plain: one step of the search for an hour: what it may do to whose each hour is, and to the hours that were tried. -/
namespace Go.Proofs.Ytdhhneflhmkonaa

/-- The hours below H that are not in a set. -/
def unseen (H s : Nat) : Nat := ((List.range H).filter (fun h => !s.testBit h)).length

/-- A set grows. -/
def Sub (s s' : Nat) : Prop := ∀ h, s.testBit h = true → s'.testBit h = true
theorem Sub.refl (s : Nat) : Sub s s := fun _ h => h
theorem Sub.trans {a b c : Nat} (h : Sub a b) (k : Sub b c) : Sub a c := fun x hx => k x (h x hx)
theorem Sub.or (s t : Nat) : Sub s (s ||| t) := fun h hh => by rw [Nat.testBit_or, hh]; rfl

theorem filter_lt {α : Type} {p q : α → Bool} {l : List α} (h : ∀ x, p x = true → q x = true) {a : α} (ha : a ∈ l) (hq : q a = true) (hp : p a = false) : (l.filter p).length < (l.filter q).length := by
  induction l with
  | nil => cases ha
  | cons y l ih =>
    have hle : (l.filter p).length ≤ (l.filter q).length := by
      clear ih ha
      induction l with
      | nil => simp
      | cons z l ih =>
        simp only [List.filter_cons]
        cases hpz : p z
        · cases hqz : q z <;> simp <;> omega
        · rw [h z hpz]; simp; omega
    simp only [List.filter_cons]
    rcases List.mem_cons.1 ha with rfl | ha
    · rw [hp, hq]; simp; omega
    · have := ih ha
      cases hpy : p y
      · cases hqy : q y <;> simp <;> omega
      · rw [h y hpy]; simp; omega

theorem unseen_lt {H s s' h : Nat} (hs : Sub s s') (hh : h < H) (h0 : s.testBit h = false) (h1 : s'.testBit h = true) : unseen H s' < unseen H s := by
  refine filter_lt (a := h) (fun x hx => ?_) (List.mem_range.2 hh) (by simp [h0]) (by simp [h1])
  cases hb : s.testBit x
  · rfl
  · rw [hs x hb] at hx; cases hx

theorem filter_le {α : Type} {p q : α → Bool} (l : List α) (h : ∀ x, p x = true → q x = true) : (l.filter p).length ≤ (l.filter q).length := by
  induction l with
  | nil => simp
  | cons z l ih =>
    simp only [List.filter_cons]
    cases hpz : p z
    · cases hqz : q z <;> simp <;> omega
    · rw [h z hpz]; simp; omega
theorem unseen_le {H s s' : Nat} (hs : Sub s s') : unseen H s' ≤ unseen H s := by
  refine filter_le _ (fun x hx => ?_)
  cases hb : s.testBit x
  · rfl
  · rw [hs x hb] at hx; cases hx

/-- What a step that found an hour for c may have done. 'adj i h': whether i can come at h. -/
structure StepT (nc H : Nat) (adj : Nat → Nat → Bool) (c s : Nat) (wh wh' : List Int) : Prop where
  len : wh'.length = wh.length
  kept : ∀ h : Nat, s.testBit h = true → wh'[h]? = wh[h]?
  count : ∀ x : Nat, wh'.count (x : Int) = wh.count (x : Int) + if x = c then 1 else 0
  right : ∀ (h : Nat) (x : Int), wh'[h]? = some x → wh[h]? = some x ∨ ∃ i : Nat, x = i ∧ i < nc ∧ adj i h = true

/-- What a step that found none shows. -/
structure StepF (nc H : Nat) (adj : Nat → Nat → Bool) (c s : Nat) (wh : List Int) (s' : Nat) : Prop where
  sub : Sub s s'
  lt : s' < 2 ^ H
  all : ∀ h : Nat, h < H → adj c h = true → s'.testBit h = true
  shut : ∀ h : Nat, s'.testBit h = true → s.testBit h = false → ∃ i : Nat, wh[h]? = some (i : Int) ∧ i < nc ∧ ∀ h', h' < H → adj i h' = true → s'.testBit h' = true

/-- Where the search stands when the hours of 'pre' were tried. -/
structure StepI (nc H : Nat) (adj : Nat → Nat → Bool) (s : Nat) (wh : List Int) (pre : List Nat) (s' : Nat) : Prop where
  sub : Sub s s'
  lt : s' < 2 ^ H
  all : ∀ h : Nat, h ∈ pre → s'.testBit h = true
  shut : ∀ h : Nat, s'.testBit h = true → s.testBit h = false → ∃ i : Nat, wh[h]? = some (i : Int) ∧ i < nc ∧ ∀ h', h' < H → adj i h' = true → s'.testBit h' = true

section
variable {nc H c s : Nat} {adj : Nat → Nat → Bool} {wh : List Int}
theorem StepI.start (h : s < 2 ^ H) : StepI nc H adj s wh [] s := ⟨Sub.refl s, h, fun _ h => (by cases h), fun h h1 h2 => (by rw [h1] at h2; cases h2)⟩
theorem StepI.again {pre : List Nat} {s' h : Nat} (k : StepI nc H adj s wh pre s') (hh : s'.testBit h = true) : StepI nc H adj s wh (pre ++ [h]) s' :=
  ⟨k.sub, k.lt, fun x hx => (List.mem_append.1 hx).elim (k.all x) (fun hx => by rw [List.mem_singleton.1 hx]; exact hh), k.shut⟩
theorem StepI.done {pre : List Nat} {s' : Nat} (k : StepI nc H adj s wh pre s') (hp : ∀ h, h < H → adj c h = true → h ∈ pre) : StepF nc H adj c s wh s' :=
  ⟨k.sub, k.lt, fun h hh ha => k.all h (hp h hh ha), k.shut⟩

theorem pow_bit (h x : Nat) : (2 ^ h).testBit x = decide (h = x) := Nat.testBit_two_pow

theorem put_lt {s' h : Nat} (hs : s' < 2 ^ H) (hh : h < H) : s' ||| 2 ^ h < 2 ^ H := Nat.or_lt_two_pow hs (Nat.pow_lt_pow_right (by decide) hh)
theorem put_bit {s' h : Nat} : (s' ||| 2 ^ h).testBit h = true := by rw [Nat.testBit_or, pow_bit]; simp

/-- The step on behalf of the one who has the hour found none either. -/
theorem StepI.more {pre : List Nat} {s' s2 h i : Nat} (k : StepI nc H adj s wh pre s') (hwh : wh[h]? = some (i : Int)) (hi : i < nc) (f : StepF nc H adj i (s' ||| 2 ^ h) wh s2) : StepI nc H adj s wh (pre ++ [h]) s2 := by
  have hb : s2.testBit h = true := f.sub h put_bit
  refine ⟨(k.sub.trans (Sub.or s' _)).trans f.sub, f.lt, fun x hx => ?_, fun x h1 h2 => ?_⟩
  · rcases List.mem_append.1 hx with hx | hx
    · exact f.sub x (Sub.or s' _ x (k.all x hx))
    · rw [List.mem_singleton.1 hx]; exact hb
  · cases h3 : s'.testBit x
    · by_cases hxh : x = h
      · subst hxh; exact ⟨i, hwh, hi, f.all⟩
      · refine f.shut x h1 ?_
        rw [Nat.testBit_or, h3, pow_bit]; simp; omega
    · obtain ⟨j, e1, e2, e3⟩ := k.shut x h3 h2
      exact ⟨j, e1, e2, fun h' hh' ha => f.sub h' (Sub.or s' _ h' (e3 h' hh' ha))⟩

theorem count_set {l : List Int} {h : Nat} {a : Int} (ha : l[h]? = some a) (v x : Int) : (l.set h v).count x + (if a = x then 1 else 0) = l.count x + if v = x then 1 else 0 := by
  induction l generalizing h with
  | nil => simp at ha
  | cons y l ih =>
    cases h with
    | zero =>
      simp at ha; subst ha
      simp only [List.set_cons_zero, List.count_cons, beq_iff_eq]
      omega
    | succ h =>
      simp at ha
      have := ih ha
      simp only [List.set_cons_succ, List.count_cons]
      omega

/-- The hour was nobody's. -/
theorem StepT.free {s' h : Nat} (hs : Sub s s') (hb : s'.testBit h = false) (hwh : wh[h]? = some (-1)) (hc : c < nc) (ha : adj c h = true) : StepT nc H adj c s wh (wh.set h c) := by
  refine ⟨by simp, fun x hx => ?_, fun x => ?_, fun x y hy => ?_⟩
  · rw [List.getElem?_set_ne]
    rintro rfl
    rw [hs _ hx] at hb; cases hb
  · have := count_set hwh (c : Int) (x : Int)
    rw [if_neg (by omega)] at this
    by_cases hxc : x = c
    · subst hxc; simpa using this
    · rw [if_neg (by omega)] at this
      rw [if_neg hxc]; simpa using this
  · by_cases hxh : x = h
    · subst hxh
      rw [List.getElem?_set] at hy
      simp at hy
      exact .inr ⟨c, by omega, hc, ha⟩
    · rw [List.getElem?_set_ne (by omega)] at hy
      exact .inl hy

/-- The one who had the hour got another one. -/
theorem StepT.moved {s' h i : Nat} {wh1 : List Int} (hs : Sub s s') (hb : s'.testBit h = false) (hwh : wh[h]? = some (i : Int)) (hc : c < nc) (ha : adj c h = true) (t : StepT nc H adj i (s' ||| 2 ^ h) wh wh1) :
    StepT nc H adj c s wh (wh1.set h c) := by
  have h1 : wh1[h]? = some (i : Int) := (t.kept h put_bit).trans hwh
  refine ⟨by rw [List.length_set, t.len], fun x hx => ?_, fun x => ?_, fun x y hy => ?_⟩
  · rw [List.getElem?_set_ne, t.kept x (Sub.or s' _ x (hs x hx))]
    rintro rfl
    rw [hs _ hx] at hb; cases hb
  · have e := count_set h1 (c : Int) (x : Int)
    have e2 := t.count x
    by_cases hxc : x = c <;> by_cases hxi : x = i
    · rw [if_pos (by omega), if_pos (by omega)] at e; rw [if_pos hxi] at e2; rw [if_pos hxc]; omega
    · rw [if_neg (by omega), if_pos (by omega)] at e; rw [if_neg hxi] at e2; rw [if_pos hxc]; omega
    · rw [if_pos (by omega), if_neg (by omega)] at e; rw [if_pos hxi] at e2; rw [if_neg hxc]; omega
    · rw [if_neg (by omega), if_neg (by omega)] at e; rw [if_neg hxi] at e2; rw [if_neg hxc]; omega
  · by_cases hxh : x = h
    · subst hxh
      rw [List.getElem?_set] at hy
      simp at hy
      exact .inr ⟨c, by omega, hc, ha⟩
    · rw [List.getElem?_set_ne (by omega)] at hy
      exact t.right x y hy
end
end Go.Proofs.Ytdhhneflhmkonaa
