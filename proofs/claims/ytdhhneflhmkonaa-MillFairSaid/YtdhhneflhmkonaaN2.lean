/- Plain: sharings and what they show; a mill without an hour, with an hour more, without a family. -/
import Derived.Test.YtdhhneflhmkonaaN1
import Derived.Test.YtdhhneflhmkonaaD1
namespace Go.Proofs.Ytdhhneflhmkonaa

theorem idxD (l : List Comer) (f : Int) : (idx l f = -1) ∨ ∃ i : Nat, idx l f = i ∧ i < l.length ∧ (l.getD i ⟨0, 0, 0⟩).family = f := idx_cases' l f

/-- Whose each hour is by a sharing. -/
def whoL (xs : List Comer) (share : List Int) (h : Nat) : Int := if share.getD h 0 = 0 then -1 else idx xs (share.getD h 0)
theorem count_snoc (l : List Int) (x y : Int) : (l ++ [y]).count x = l.count x + if y = x then 1 else 0 := by
  rw [List.count_append, List.count_singleton]
  congr 1
  by_cases e : y = x
  · subst e; simp
  · rw [if_neg e, if_neg (by simpa using e)]
theorem gotK_asg {xs : List Comer} {share : List Int} : ∀ (k : Nat) (g : List Int), gotK xs share k = some g →
    Asg xs.length k (can xs (-1)) ((List.range k).map (whoL xs share)) ∧ g.length = xs.length ∧ ∀ i, i < xs.length → g.getD i 0 = ((List.range k).map (whoL xs share)).count (i : Int)
  | 0, g, h => by
    cases h
    refine ⟨⟨rfl, fun h x hx => by simp at hx⟩, by simp, fun i hi => ?_⟩
    rw [List.getD_eq_getElem?_getD, List.getElem?_replicate, if_pos hi]; rfl
  | k + 1, g, h => by
    unfold gotK at h
    cases hg : gotK xs share k with
    | none => rw [hg] at h; cases h
    | some g' =>
      rw [hg] at h
      obtain ⟨a, b, c⟩ := gotK_asg k g' hg
      rw [List.range_succ, List.map_append, List.map_singleton]
      simp only [Option.bind_some] at h
      by_cases h0 : share.getD k 0 = 0
      · rw [if_pos h0] at h
        obtain rfl := Option.some.inj h
        have hw : whoL xs share k = -1 := by unfold whoL; rw [if_pos h0]
        rw [hw]
        refine ⟨a.snoc (.inl rfl), b, fun i hi => ?_⟩
        rw [count_snoc, if_neg (by omega), Nat.add_zero]; exact c i hi
      · rw [if_neg h0] at h
        have hw : whoL xs share k = idx xs (share.getD k 0) := by unfold whoL; rw [if_neg h0]
        split at h
        · cases h
        · rename_i h1
          obtain rfl := Option.some.inj h
          rcases idxD xs (share.getD k 0) with e | ⟨i, e, hi, -⟩
          · exact absurd (.inl (by omega)) h1
          · rw [hw, e]
            have hb : (hrs xs i).testBit k = true := by
              cases hq : (hrs xs i).testBit k with
              | true => rfl
              | false => exact absurd (.inr (by rw [e]; exact hq)) h1
            refine ⟨a.snoc (.inr ⟨i, rfl, hi, by unfold can; rw [hb]; simp⟩), by rw [List.length_set]; exact b, fun j hj => ?_⟩
            rw [count_snoc, show ((i : Int)).toNat = i from rfl, getD_set (by omega)]
            have := c j hj
            by_cases ej : j = i
            · subst ej; rw [if_pos rfl, if_pos rfl]; omega
            · rw [if_neg ej, if_neg (by omega)]; omega
theorem who_get {xs : List Comer} {share : List Int} {H h : Nat} (hh : h < H) : ((List.range H).map (whoL xs share))[h]? = some (whoL xs share h) := by
  rw [List.getElem?_map, List.getElem?_range hh]; rfl

/-- A sharing by a plan is one that the mill's own check takes. -/
theorem gotK_of {xs : List Comer} {hh : Int} (ok : Ok hh xs) {H : Nat} {wh : List Int} (ha : Asg xs.length H (can xs (-1)) wh) {share : List Int}
    (hs : ∀ h, h < H → share.getD h 0 = if wh.getD h (-1) = -1 then 0 else (xs.getD (wh.getD h (-1)).toNat ⟨0, 0, 0⟩).family) :
    ∀ k, k ≤ H → gotK xs share k = some ((List.range xs.length).map fun (i : Nat) => (((wh.take k).count (i : Int) : Nat) : Int))
  | 0, _ => by
    unfold gotK
    congr 1
    apply List.ext_getElem?
    intro i
    rw [List.getElem?_replicate, List.getElem?_map]
    by_cases hi : i < xs.length
    · rw [if_pos hi, List.getElem?_range hi]; rfl
    · rw [if_neg hi, List.getElem?_eq_none (by simpa using hi)]; rfl
  | k + 1, hk => by
    have ih := gotK_of ok ha hs k (by omega)
    unfold gotK
    rw [ih]
    simp only [Option.bind_some]
    have hkl : k < wh.length := by rw [ha.len]; omega
    have hx : wh[k]? = some (wh.getD k (-1)) := by rw [List.getD_eq_getElem?_getD, List.getElem?_eq_getElem hkl]; rfl
    have ht : wh.take (k + 1) = wh.take k ++ [wh.getD k (-1)] := by
      rw [List.take_add_one, hx]; rfl
    have hsk := hs k (by omega)
    rw [ht]
    rcases ha.ok k _ hx with e | ⟨i, e, hi, hc⟩
    · rw [if_pos e] at hsk
      rw [hsk, if_pos rfl]
      congr 1
      apply List.map_congr_left
      intro j _
      rw [count_snoc, e, if_neg (by omega)]; rfl
    · rw [e, if_neg (by omega), show ((i : Int)).toNat = i from rfl] at hsk
      rw [hsk, e]
      have hf : (xs.getD i ⟨0, 0, 0⟩).family ≠ 0 := by
        have e2 : xs[i]? = some (xs.getD i ⟨0, 0, 0⟩) := by rw [List.getD_eq_getElem?_getD, List.getElem?_eq_getElem hi]; rfl
        have h1 := (ok.com i _ e2).1
        generalize xs.getD i ⟨0, 0, 0⟩ = z at h1 ⊢
        simp [isComer, rng] at h1
        omega
      rw [if_neg hf, idx_self ok hi, show ((i : Int)).toNat = i from rfl]
      have hb : (hrs xs i).testBit k = true := by
        unfold can at hc
        exact (Bool.and_eq_true _ _ ▸ hc).1
      have hno : ¬ ((i : Int) < 0 ∨ (hrs xs i).testBit k = false) := by
        rw [hb]
        intro h
        rcases h with h | h
        · omega
        · cases h
      rw [if_neg hno]
      congr 1
      apply List.ext_getElem?
      intro j
      rw [List.getElem?_set, List.getElem?_map, List.getElem?_map, List.length_map, List.length_range]
      by_cases hj : j < xs.length
      · rw [List.getElem?_range hj]
        by_cases ej : i = j
        · subst ej
          rw [if_pos rfl, if_pos hj, List.getD_eq_getElem?_getD, List.getElem?_map, List.getElem?_range hj]
          simp
        · rw [if_neg ej]
          simp only [Option.map_some, count_snoc]
          rw [if_neg (by omega)]; rfl
      · rw [if_neg (by omega), List.getElem?_eq_none (by simpa using hj)]; rfl

theorem cnt_eq {l : List Int} {n : Nat} (hl : l.length = n) {wh : List Int} (h : ∀ i, i < n → (wh.count (i : Int) : Int) = l.getD i 0) : ((List.range n).map fun (i : Nat) => ((wh.count (i : Int) : Nat) : Int)) = l := by
  apply List.ext_getElem?
  intro i
  rw [List.getElem?_map]
  by_cases hi : i < n
  · rw [List.getElem?_range hi, List.getElem?_eq_getElem (by omega)]
    have := h i hi
    rw [List.getD_eq_getElem?_getD, List.getElem?_eq_getElem (by omega)] at this
    simpa using this
  · rw [List.getElem?_eq_none (by simpa using hi), List.getElem?_eq_none (by omega)]; rfl

theorem Asg.adj_mono {n H : Nat} {adj adj' : Nat → Nat → Bool} {wh : List Int} (h : Asg n H adj wh) (e : ∀ i k, i < n → k < H → wh[k]? = some (i : Int) → adj i k = true → adj' i k = true) : Asg n H adj' wh := by
  refine ⟨h.len, fun k x hx => ?_⟩
  have hk : k < H := by rw [← h.len]; exact (List.getElem?_eq_some_iff.1 hx).1
  rcases h.ok k x hx with h1 | ⟨i, e1, e2, e3⟩
  · exact .inl h1
  · exact .inr ⟨i, e1, e2, e i k e2 hk (by rw [hx, e1]) e3⟩
theorem Asg.put {n H : Nat} {adj : Nat → Nat → Bool} {wh : List Int} (h : Asg n H adj wh) {b : Nat} {y : Int} (hy : y = -1 ∨ ∃ i : Nat, y = i ∧ i < n ∧ adj i b = true) : Asg n H adj (wh.set b y) := by
  refine ⟨by rw [List.length_set]; exact h.len, fun q x hx => ?_⟩
  rw [List.getElem?_set] at hx
  split at hx
  · rename_i e
    subst e
    split at hx
    · obtain rfl := Option.some.inj hx
      exact hy
    · cases hx
  · exact h.ok q x hx
theorem can_iff {xs : List Comer} {b : Int} {i h : Nat} : can xs b i h = true ↔ (hrs xs i).testBit h = true ∧ (h : Int) ≠ b := by
  unfold can; simp

/-- An hour that nobody has by a plan may be barred. -/
theorem fea_bar {xs : List Comer} {H b : Nat} {d wh : List Int} (hd : d.length = xs.length) (ha : Asg xs.length H (can xs (-1)) wh) (hc : ∀ i, i < xs.length → d.getD i 0 ≤ wh.count (i : Int)) (hb : ∀ i : Nat, wh[b]? ≠ some (i : Int)) : fea xs H b d = true := by
  refine (fea_iff hd).2 ⟨wh, ha.adj_mono fun i k _ _ hk h => ?_, hc⟩
  refine can_iff.2 ⟨(can_iff.1 h).1, fun e => ?_⟩
  have : k = b := by omega
  subst this
  exact hb i hk
/-- Without an hour that one has, the plan serves one hour less of that one. -/
theorem fea_less {xs : List Comer} {H b i : Nat} {d wh : List Int} (hd : d.length = xs.length) (ha : Asg xs.length H (can xs (-1)) wh) (hc : ∀ j, j < xs.length → d.getD j 0 ≤ wh.count (j : Int)) (hb : wh[b]? = some (i : Int)) (hi : i < xs.length) : fea xs H b (d.set i (d.getD i 0 - 1)) = true := by
  have hset : Asg xs.length H (can xs (-1)) (wh.set b (-1)) := ha.put (.inl rfl)
  have hbl : b < wh.length := (List.getElem?_eq_some_iff.1 hb).1
  refine fea_bar (by rw [List.length_set]; exact hd) hset (fun j hj => ?_) (fun j => ?_)
  · have h1 := count_set hb (-1) (j : Int)
    have h2 := hc j hj
    rw [if_neg (show ¬ (-1 : Int) = (j : Int) by omega)] at h1
    rw [getD_set (by omega)]
    by_cases e : j = i
    · subst e; rw [if_pos rfl] at h1 ⊢; omega
    · rw [if_neg (by omega)] at h1; rw [if_neg e]; omega
  · rw [List.getElem?_set, if_pos rfl, if_pos hbl]
    intro e
    have := Option.some.inj e
    omega
theorem bit_andNot (a b h : Nat) : (a ^^^ (a &&& 2 ^ b)).testBit h = (a.testBit h && !decide (b = h)) := by
  rw [Nat.testBit_xor, Nat.testBit_and, pow_bit]
  cases a.testBit h <;> cases decide (b = h) <;> rfl
theorem hrs_clr (xs : List Comer) (i b j : Nat) (hi : i < xs.length) : hrs (clr xs i b) j = if j = i then hrs xs i ^^^ (hrs xs i &&& 2 ^ b) else hrs xs j := by
  unfold clr
  by_cases e : j = i
  · subst e
    rw [if_pos rfl]
    unfold hrs
    rw [List.getD_eq_getElem?_getD, List.getElem?_set, if_pos rfl, if_pos hi]; rfl
  · rw [if_neg e]
    unfold hrs
    rw [List.getD_eq_getElem?_getD, List.getElem?_set, if_neg (fun h => e h.symm), ← List.getD_eq_getElem?_getD]
theorem can_clr {xs : List Comer} {i b j h : Nat} (hi : i < xs.length) : can (clr xs i b) (-1) j h = true ↔ (hrs xs j).testBit h = true ∧ ¬ (j = i ∧ h = b) := by
  rw [can_iff, hrs_clr _ _ _ _ hi]
  by_cases e : j = i
  · subst e
    rw [if_pos rfl, bit_andNot]
    simp only [Bool.and_eq_true, Bool.not_eq_true', decide_eq_false_iff_not]
    constructor
    · rintro ⟨⟨h1, h2⟩, -⟩; exact ⟨h1, fun h3 => h2 h3.2.symm⟩
    · rintro ⟨h1, h2⟩; exact ⟨⟨h1, fun h3 => h2 ⟨trivial, h3.symm⟩⟩, by omega⟩
  · rw [if_neg e]
    constructor
    · rintro ⟨h1, -⟩; exact ⟨h1, fun h3 => e h3.1⟩
    · rintro ⟨h1, -⟩; exact ⟨h1, by omega⟩
/-- A comer need not have an hour: nobody has it, or another one. -/
theorem fea_clr {xs : List Comer} {H i b : Nat} {l : List Int} (hi : i < xs.length) (hl : l.length = xs.length) :
    fea (clr xs i b) H (-1) l = true ↔ fea xs H b l = true ∨ ∃ k, k < xs.length ∧ k ≠ i ∧ (hrs xs k).testBit b = true ∧ 0 < l.getD k 0 ∧ b < H ∧ fea xs H b (l.set k (l.getD k 0 - 1)) = true := by
  have hll : l.length = (clr xs i b).length := by rw [clr_len]; exact hl
  rw [fea_iff hll, clr_len]
  constructor
  · rintro ⟨wh, ha, hc⟩
    have ha1 : Asg xs.length H (can xs (-1)) wh := ha.adj_mono fun j h _ _ _ hh => can_iff.2 ⟨((can_clr hi).1 hh).1, by omega⟩
    by_cases hb : ∃ k : Nat, wh[b]? = some (k : Int)
    · obtain ⟨k, hk⟩ := hb
      have hbH : b < H := by rw [← ha.len]; exact (List.getElem?_eq_some_iff.1 hk).1
      rcases ha.ok b _ hk with e | ⟨k', e, hkn, hkc⟩
      · omega
      · obtain rfl : k = k' := by omega
        have h1 := (can_clr hi).1 hkc
        have hf := fea_less hl ha1 (fun j hj => hc j hj) hk hkn
        by_cases h0 : 0 < l.getD k 0
        · exact .inr ⟨k, hkn, fun e => h1.2 ⟨e, rfl⟩, h1.1, h0, hbH, hf⟩
        · refine .inl ?_
          have hset : Asg xs.length H (can xs (-1)) (wh.set b (-1)) := ha1.put (.inl rfl)
          have hbl : b < wh.length := (List.getElem?_eq_some_iff.1 hk).1
          refine fea_bar hl hset (fun j hj => ?_) (fun j => ?_)
          · have h1 := count_set hk (-1) (j : Int)
            have h2 := hc j hj
            dsimp only at h2
            rw [if_neg (show ¬ (-1 : Int) = (j : Int) by omega)] at h1
            by_cases e : j = k
            · subst e; omega
            · rw [if_neg (by omega)] at h1; omega
          · rw [List.getElem?_set, if_pos rfl, if_pos hbl]
            intro e
            have := Option.some.inj e
            omega
    · exact .inl (fea_bar hl ha1 (fun j hj => hc j hj) (fun k hk => hb ⟨k, hk⟩))
  · rintro (h | ⟨k, hkn, hki, hkb, h0, hbH, h⟩)
    · obtain ⟨wh, ha, hc⟩ := (fea_iff hl).1 h
      exact ⟨wh, ha.adj_mono fun j q _ _ _ hh => (can_clr hi).2 ⟨(can_iff.1 hh).1, fun e => (can_iff.1 hh).2 (by rw [e.2])⟩, hc⟩
    · obtain ⟨wh, ha, hc⟩ := (fea_iff (by rw [List.length_set]; exact hl)).1 h
      have hbl : b < wh.length := by rw [ha.len]; exact hbH
      have hx : wh[b]? = some (-1) := by
        have e : wh[b]? = some wh[b] := List.getElem?_eq_getElem hbl
        rcases ha.ok b _ e with h1 | ⟨j, -, -, h1⟩
        · rw [e, h1]
        · exact absurd rfl (can_iff.1 h1).2
      refine ⟨wh.set b (k : Int), ?_, fun j hj => ?_⟩
      · refine Asg.put (ha.adj_mono fun j q _ _ _ hh => (can_clr hi).2 ⟨(can_iff.1 hh).1, fun e => (can_iff.1 hh).2 (by rw [e.2])⟩) (.inr ⟨k, rfl, hkn, (can_clr hi).2 ⟨hkb, fun e => hki e.1⟩⟩)
      · have h1 := count_set hx (k : Int) (j : Int)
        have h2 := hc j hj
        show l.getD j 0 ≤ _
        dsimp only at h2
        rw [getD_set (by omega)] at h2
        rw [if_neg (show ¬ (-1 : Int) = (j : Int) by omega)] at h1
        by_cases e : j = k
        · subst e; rw [if_pos rfl] at h1 h2; omega
        · rw [if_neg (by omega)] at h1; rw [if_neg e] at h2; omega

/-- The mill in which nobody can come at an hour. -/
def barL (xs : List Comer) (b : Nat) : List Comer := xs.map fun c => { c with hours := ((c.hours.toNat ^^^ (c.hours.toNat &&& 2 ^ b) : Nat) : Int) }
theorem barL_len (xs : List Comer) (b : Nat) : (barL xs b).length = xs.length := by unfold barL; rw [List.length_map]
theorem hrs_bar (xs : List Comer) (b j : Nat) (hj : j < xs.length) : hrs (barL xs b) j = hrs xs j ^^^ (hrs xs j &&& 2 ^ b) := by
  unfold hrs barL
  rw [List.getD_eq_getElem?_getD, List.getElem?_map, List.getD_eq_getElem?_getD, List.getElem?_eq_getElem hj]
  rfl
theorem fea_barL {xs : List Comer} {H b : Nat} {d : List Int} (hd : d.length = xs.length) : fea (barL xs b) H (-1) d = fea xs H b d := by
  have key : ∀ i k, i < xs.length → can (barL xs b) (-1) i k = can xs b i k := by
    intro i k hi
    rw [Bool.eq_iff_iff, can_iff, can_iff, hrs_bar _ _ _ hi, bit_andNot]
    simp only [Bool.and_eq_true, Bool.not_eq_true', decide_eq_false_iff_not]
    constructor
    · rintro ⟨⟨h1, h2⟩, -⟩; exact ⟨h1, by omega⟩
    · rintro ⟨h1, h2⟩; exact ⟨⟨h1, by omega⟩, by omega⟩
  have hdl : d.length = (barL xs b).length := by rw [barL_len]; exact hd
  rw [Bool.eq_iff_iff, fea_iff hdl, fea_iff hd, barL_len]
  constructor
  · intro h; exact h.congr fun i k hi _ => key i k hi
  · intro h; exact h.congr fun i k hi _ => (key i k hi).symm

/-- With more hours to come at nothing is served less. -/
theorem fea_wider {xs ys : List Comer} {H : Nat} {d : List Int} (hl : xs.length = ys.length) (hd : d.length = xs.length) (h : ∀ i k, i < xs.length → (hrs xs i).testBit k = true → (hrs ys i).testBit k = true) (hf : fea xs H (-1) d = true) : fea ys H (-1) d = true := by
  obtain ⟨wh, ha, hc⟩ := (fea_iff hd).1 hf
  refine (fea_iff (by omega)).2 ⟨wh, ?_, fun i hi => hc i (by omega)⟩
  rw [← hl]
  exact ha.adj_mono fun i k hi _ _ hh => can_iff.2 ⟨h i k hi (can_iff.1 hh).1, by omega⟩

/-- Nobody has more hours than there are to come at. -/
theorem fea_hours {xs : List Comer} {H : Nat} {d : List Int} (hd : d.length = xs.length) (hf : fea xs H (-1) d = true) {i : Nat} (hi : i < xs.length) : d.getD i 0 ≤ nbits H (hrs xs i) := by
  obtain ⟨wh, ha, hc⟩ := (fea_iff hd).1 hf
  have h1 := hc i hi
  have h2 : wh.count (i : Int) ≤ nbits H (hrs xs i) := by
    rw [List.count_eq_countP, countP_range _ _ (-1), ha.len]
    refine filter_le_on fun k hk hx => ?_
    have hk' : k < wh.length := by rw [ha.len]; exact List.mem_range.1 hk
    have e : wh[k]? = some (wh.getD k (-1)) := by rw [List.getD_eq_getElem?_getD, List.getElem?_eq_getElem hk']; rfl
    have hx' : wh.getD k (-1) = (i : Int) := by simpa using hx
    rcases ha.ok k _ e with e1 | ⟨j, e1, hj, hh⟩
    · omega
    · obtain rfl : i = j := by omega
      exact (can_iff.1 hh).1
  dsimp only at h1
  omega

/-- The index in the longer list. -/
def skip (i j : Nat) : Nat := if j < i then j else j + 1
theorem erase_getD {α : Type} (l : List α) (i j : Nat) (z : α) : (l.eraseIdx i).getD j z = l.getD (skip i j) z := by
  rw [List.getD_eq_getElem?_getD, List.getD_eq_getElem?_getD, List.getElem?_eraseIdx]
  unfold skip
  split <;> rfl
theorem skip_ne (i j : Nat) : skip i j ≠ i := by unfold skip; split <;> omega
theorem skip_lt {i j n : Nat} (hi : i < n) (hj : j < n - 1) : skip i j < n := by unfold skip; split <;> omega
theorem skip_inj {i j k : Nat} (h : skip i j = skip i k) : j = k := by unfold skip at h; split at h <;> split at h <;> omega
/-- Whose an hour is when the i-th one is gone. -/
def gone (i : Nat) (x : Int) : Int := if x = (i : Int) then -1 else if x < (i : Int) then x else x - 1
theorem gone_iff {i j : Nat} {x : Int} (_hx : -1 ≤ x) : gone i x = (j : Int) ↔ x = ((skip i j : Nat) : Int) := by
  unfold gone skip
  by_cases h1 : x = (i : Int)
  · rw [if_pos h1]
    split <;> omega
  · rw [if_neg h1]
    by_cases h2 : x < (i : Int)
    · rw [if_pos h2]; split <;> omega
    · rw [if_neg h2]; split <;> omega
theorem count_gone {i j : Nat} : ∀ {wh : List Int}, (∀ x ∈ wh, -1 ≤ x) → (wh.map (gone i)).count (j : Int) = wh.count ((skip i j : Nat) : Int)
  | [], _ => rfl
  | x :: wh, h => by
    rw [List.map_cons, List.count_cons, List.count_cons, count_gone (fun y hy => h y (List.mem_cons_of_mem _ hy))]
    congr 1
    have := gone_iff (i := i) (j := j) (h x List.mem_cons_self)
    by_cases e : x = ((skip i j : Nat) : Int)
    · rw [if_pos (by rw [this.2 e]; simp), if_pos (by rw [e]; simp)]
    · rw [if_neg (by simpa using fun q => e (this.1 q)), if_neg (by simpa using e)]
theorem fea_erase {xs : List Comer} {H i : Nat} {d d' : List Int} (hi : i < xs.length) (hd : d.length = xs.length) (hd' : d'.length = xs.length - 1) (h : ∀ j, j < xs.length - 1 → d'.getD j 0 ≤ d.getD (skip i j) 0) (hf : fea xs H (-1) d = true) : fea (xs.eraseIdx i) H (-1) d' = true := by
  obtain ⟨wh, ha, hc⟩ := (fea_iff hd).1 hf
  have hel : (xs.eraseIdx i).length = xs.length - 1 := List.length_eraseIdx_of_lt hi
  have hlo : ∀ x ∈ wh, -1 ≤ x := by
    intro x hx
    obtain ⟨k, hk⟩ := List.getElem?_of_mem hx
    rcases ha.ok k x hk with e | ⟨j, e, -⟩ <;> omega
  refine (fea_iff (by omega)).2 ⟨wh.map (gone i), ⟨by rw [List.length_map]; exact ha.len, fun k x hx => ?_⟩, fun j hj => ?_⟩
  · rw [List.getElem?_map] at hx
    cases hk : wh[k]? with
    | none => rw [hk] at hx; cases hx
    | some y =>
      rw [hk] at hx
      obtain rfl := Option.some.inj hx
      rcases ha.ok k y hk with e | ⟨q, e, hq, hh⟩
      · left; subst e; unfold gone; split
        · rfl
        · split <;> omega
      · subst e
        by_cases e : q = i
        · left; subst e; unfold gone; rw [if_pos rfl]
        · right
          obtain ⟨j, hj⟩ : ∃ j, skip i j = q := by
            by_cases hqi : q < i
            · exact ⟨q, by unfold skip; rw [if_pos hqi]⟩
            · exact ⟨q - 1, by unfold skip; rw [if_neg (by omega)]; omega⟩
          refine ⟨j, (gone_iff (by omega)).2 (by rw [hj]), ?_, ?_⟩
          · rw [hel]; unfold skip at hj; split at hj <;> omega
          · refine can_iff.2 ⟨?_, by omega⟩
            have := (can_iff.1 hh).1
            unfold hrs at this ⊢
            rw [erase_getD, hj]; exact this
  · rw [count_gone hlo]
    have := hc (skip i j) (skip_lt hi (by omega))
    have := h j (by omega)
    dsimp only at *
    omega
/-- Without a family the level is no less. -/
theorem level_erase {xs : List Comer} {H i : Nat} (hi : i < xs.length) : lev xs H 24 0 ≤ lev (xs.eraseIdx i) H 24 0 := by
  obtain ⟨a, b, -⟩ := level_spec xs H
  have hel : (xs.eraseIdx i).length = xs.length - 1 := List.length_eraseIdx_of_lt hi
  refine level_le (fea_erase hi (capped_len _ _) (by rw [capped_len]; exact hel) (fun j hj => ?_) b) a
  rw [capped_at _ _ (by omega), capped_at _ _ (skip_lt hi hj), erase_getD]
  exact Int.le_refl _
theorem level_wider {xs ys : List Comer} {H : Nat} (hl : xs.length = ys.length) (hw : ∀ i, i < xs.length → (xs.getD i ⟨0, 0, 0⟩).wants = (ys.getD i ⟨0, 0, 0⟩).wants) (h : ∀ i k, i < xs.length → (hrs xs i).testBit k = true → (hrs ys i).testBit k = true) : lev xs H 24 0 ≤ lev ys H 24 0 := by
  obtain ⟨a, b, -⟩ := level_spec xs H
  have hc : capped xs (lev xs H 24 0 : Nat) = capped ys (lev xs H 24 0 : Nat) := by
    apply List.ext_getElem?
    intro i
    by_cases hi : i < xs.length
    · have e1 := capped_at xs (lev xs H 24 0 : Nat) hi
      have e2 := capped_at ys (lev xs H 24 0 : Nat) (i := i) (by omega)
      rw [List.getD_eq_getElem?_getD, List.getElem?_eq_getElem (by rw [capped_len]; exact hi)] at e1
      rw [List.getD_eq_getElem?_getD, List.getElem?_eq_getElem (by rw [capped_len]; omega)] at e2
      rw [List.getElem?_eq_getElem (by rw [capped_len]; exact hi), List.getElem?_eq_getElem (by rw [capped_len]; omega)]
      simp only [Option.getD_some] at e1 e2
      rw [e1, e2, hw i hi]
    · rw [List.getElem?_eq_none (by rw [capped_len]; omega), List.getElem?_eq_none (by rw [capped_len]; omega)]
  refine level_le ?_ a
  rw [← hc]
  exact fea_wider hl (capped_len _ _) h b

/-- The reference's level: the greatest one of all. -/
def bestK (xs : List Comer) (H : Nat) : Nat → Nat
  | 0 => 0
  | k + 1 => if fea xs H (-1) (capped xs ((k : Int) + 1)) = true then k + 1 else bestK xs H k
theorem bestK_le (xs : List Comer) (H : Nat) : ∀ k, k ≤ 24 → bestK xs H k ≤ lev xs H 24 0
  | 0, _ => Nat.zero_le _
  | k + 1, hk => by
    unfold bestK
    split
    · rename_i h; exact level_le (k := k + 1) (by rw [Int.natCast_succ]; exact h) hk
    · exact bestK_le xs H k (by omega)
theorem bestK_ge (xs : List Comer) (H : Nat) : ∀ k j, j ≤ k → fea xs H (-1) (capped xs (j : Nat)) = true → j ≤ bestK xs H k
  | 0, j, hj, _ => by omega
  | k + 1, j, hj, h => by
    unfold bestK
    split
    · exact hj
    · rename_i h1
      by_cases e : j = k + 1
      · subst e; rw [Int.natCast_succ] at h; exact absurd h h1
      · exact bestK_ge xs H k j (by omega) h
theorem bestK_lev (xs : List Comer) (H : Nat) : bestK xs H 24 = lev xs H 24 0 := by
  obtain ⟨a, b, -⟩ := level_spec xs H
  exact Nat.le_antisymm (bestK_le xs H 24 (Nat.le_refl _)) (bestK_ge xs H 24 _ a b)
end Go.Proofs.Ytdhhneflhmkonaa
