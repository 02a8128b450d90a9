/- Plain: families that are crowded: the search's witness is one, and there is none where the demands can be met. -/
import Derived.Test.YtdhhneflhmkonaaKF
namespace Go.Proofs.Ytdhhneflhmkonaa
open Go.RowKit Go.Shelf

theorem nbits_succ (H s : Nat) : nbits (H + 1) s = nbits H s + if s.testBit H = true then 1 else 0 := by
  unfold nbits
  rw [filter_snoc, List.length_append]
  cases s.testBit H <;> simp
theorem nbits_mono {H s s' : Nat} (h : ∀ b, b < H → s.testBit b = true → s'.testBit b = true) : nbits H s ≤ nbits H s' :=
  filter_le_on fun x hx => h x (List.mem_range.1 hx)
theorem nbits_more {H s : Nat} (hs : s < 2 ^ H) (k : Nat) : nbits (H + k) s = nbits H s := by
  induction k with
  | zero => rfl
  | succ k ih =>
    rw [← Nat.add_assoc, nbits_succ, ih, Nat.testBit_lt_two_pow (Nat.lt_of_lt_of_le hs (Nat.pow_le_pow_right (by decide) (by omega)))]
    simp

theorem nbits_grow (H s k : Nat) : nbits H s ≤ nbits (H + k) s := by
  induction k with
  | zero => exact Nat.le_refl _
  | succ k ih => rw [← Nat.add_assoc, nbits_succ]; omega

def idxN (xs : List Comer) (f : Int) : Nat := (idx xs f).toNat
/-- The hours at which one of the first k families can come. -/
def unionK (xs : List Comer) (F : List Int) : Nat → Nat
  | 0 => 0
  | k + 1 => unionK xs F k ||| hrs xs (idxN xs (F.getD k 0))
/-- What the first k families demand. -/
def sumK (xs : List Comer) (d F : List Int) : Nat → Int
  | 0 => 0
  | k + 1 => sumK xs d F k + d.getD (idxN xs (F.getD k 0)) 0
/-- The family at k is one of a comer, and greater than the one before. -/
def famOk (xs : List Comer) (F : List Int) (k : Nat) : Bool := decide (0 ≤ idx xs (F.getD k 0)) && (decide (k = 0) || decide (F.getD (k - 1) 0 < F.getD k 0))
def famsB (xs : List Comer) (F : List Int) : Bool := (List.range F.length).all (famOk xs F)
/-- Families are crowded. -/
def crowdB (xs : List Comer) (d F : List Int) : Bool := famsB xs F && decide ((nbits 24 (unionK xs F F.length) : Int) < sumK xs d F F.length)

theorem famsB_no {xs : List Comer} {F : List Int} {k : Nat} (hk : k < F.length) (h : famOk xs F k = false) : famsB xs F = false := by
  unfold famsB
  rw [List.all_eq_false]
  exact ⟨k, List.mem_range.2 hk, by simp [h]⟩
theorem famsB_yes {xs : List Comer} {F : List Int} (h : ∀ k, k < F.length → famOk xs F k = true) : famsB xs F = true := by
  unfold famsB
  rw [List.all_eq_true]
  exact fun k hk => h k (List.mem_range.1 hk)
theorem famsB_at {xs : List Comer} {F : List Int} (h : famsB xs F = true) {k : Nat} (hk : k < F.length) : 0 ≤ idx xs (F.getD k 0) ∧ (0 < k → F.getD (k - 1) 0 < F.getD k 0) := by
  unfold famsB at h
  have := List.all_eq_true.1 h k (List.mem_range.2 hk)
  simp [famOk] at this
  exact ⟨this.1, fun h0 => by rcases this.2 with h1 | h1; · omega
                              · simpa using h1⟩
theorem famsB_lt {xs : List Comer} {F : List Int} (h : famsB xs F = true) : ∀ k, k < F.length → ∀ j, j < k → F.getD j 0 < F.getD k 0
  | 0, _, j, hj => absurd hj (by omega)
  | k + 1, hk, j, hj => by
    have h1 := (famsB_at h hk).2 (by omega)
    rw [Nat.add_sub_cancel] at h1
    by_cases e : j = k
    · subst e; exact h1
    · have := famsB_lt h k (by omega) j (by omega)
      omega
theorem idx_get {xs : List Comer} {f : Int} (h : 0 ≤ idx xs f) : idxN xs f < xs.length ∧ (xs.getD (idxN xs f) ⟨0, 0, 0⟩).family = f := by
  rcases idx_cases' xs f with h1 | ⟨i, h1, h2, h3⟩
  · omega
  · have : idxN xs f = i := by unfold idxN; omega
    rw [this]; exact ⟨h2, h3⟩
theorem getD_getElem {F : List Int} {k : Nat} (hk : k < F.length) : F.getD k 0 = F[k] := by rw [List.getD_eq_getElem?_getD, List.getElem?_eq_getElem hk]; rfl
theorem famsB_nodup {xs : List Comer} {F : List Int} (h : famsB xs F = true) : (F.map (idxN xs)).Nodup ∧ ∀ i, i ∈ F.map (idxN xs) → i < xs.length := by
  constructor
  · unfold List.Nodup
    rw [List.pairwise_map, List.pairwise_iff_getElem]
    intro i j hi hj hij e
    have h1 := famsB_lt h j hj i hij
    have h2 := idx_get (famsB_at h hi).1
    have h3 := idx_get (famsB_at h hj).1
    rw [getD_getElem hi] at h1 h2
    rw [getD_getElem hj] at h1 h3
    rw [e] at h2
    have := h2.2.symm.trans h3.2
    omega
  · intro i hi
    obtain ⟨f, hf, rfl⟩ := List.mem_map.1 hi
    obtain ⟨k, hk, rfl⟩ := List.getElem_of_mem hf
    have := (idx_get (famsB_at h hk).1).1
    rwa [getD_getElem hk] at this

theorem sumS_congr {n : Nat} {S S' : Nat → Bool} {f f' : Nat → Nat} (h : ∀ i, i < n → S i = S' i) (hf : ∀ i, i < n → S i = true → f i = f' i) : sumS n S f = sumS n S' f' := by
  induction n with
  | zero => rfl
  | succ n ih =>
    rw [sumS_succ, sumS_succ, ih (fun i hi => h i (by omega)) (fun i hi => hf i (by omega)), ← h n (by omega)]
    split
    · rename_i hS; rw [hf n (by omega) hS]
    · rfl
theorem sumS_insert {n : Nat} {S : Nat → Bool} {f : Nat → Nat} {a : Nat} (ha : a < n) (hS : S a = false) : sumS n (fun i => i == a || S i) f = f a + sumS n S f := by
  induction n with
  | zero => omega
  | succ n ih =>
    rw [sumS_succ, sumS_succ]
    by_cases e : a = n
    · subst e
      have hc : sumS a (fun i => i == a || S i) f = sumS a S f := sumS_congr (fun i hi => by
        have h1 : (i == a) = false := by simp; omega
        simp only [h1, Bool.false_or]) (fun _ _ _ => rfl)
      rw [hS, hc]
      simp; omega
    · rw [ih (by omega)]
      have : (n == a) = false := by simp; omega
      rw [this, Bool.false_or]; omega
theorem sum_list {n : Nat} {f : Nat → Nat} : ∀ {J : List Nat}, J.Nodup → (∀ i, i ∈ J → i < n) → (J.map f).sum = sumS n (fun i => J.contains i) f
  | [], _, _ => by
    have : (List.range n).filter (fun i => ([] : List Nat).contains i) = [] := by rw [List.filter_eq_nil_iff]; simp
    unfold sumS
    rw [this]
  | a :: J, hJ, hn => by
    have hn0 := List.nodup_cons.1 hJ
    rw [List.map_cons, List.sum_cons, sum_list hn0.2 (fun i hi => hn i (List.mem_cons_of_mem _ hi))]
    have hS : J.contains a = false := by
      cases hq : J.contains a
      · rfl
      · exact absurd (List.contains_iff_mem.1 hq) hn0.1
    rw [← sumS_insert (hn a List.mem_cons_self) hS]
    exact sumS_congr (fun i _ => by rw [List.contains_cons]) (fun _ _ _ => rfl)

theorem sumK_eq {xs : List Comer} {d F : List Int} (hd : ∀ x ∈ d, 0 ≤ x) : ∀ k, k ≤ F.length → sumK xs d F k = (((F.take k).map (idxN xs)).map (fun i => (d.getD i 0).toNat)).sum
  | 0, _ => rfl
  | k + 1, hk => by
    have h0 : ∀ i, 0 ≤ d.getD i 0 := fun i => by
      rw [List.getD_eq_getElem?_getD]
      cases hq : d[i]? with
      | none => exact Int.le_refl _
      | some v => exact hd v (List.mem_of_getElem? hq)
    have h0 := h0 (idxN xs (F.getD k 0))
    rw [List.take_add_one, List.getElem?_eq_getElem (by omega), sumK, sumK_eq hd k (by omega), List.map_append, List.map_append, List.sum_append]
    rw [getD_getElem (show k < F.length by omega)] at h0 ⊢
    simp only [Option.toList_some, List.map_cons, List.map_nil, List.sum_cons, List.sum_nil]
    omega
theorem unionK_bit {xs : List Comer} {F : List Int} {b : Nat} : ∀ k, (unionK xs F k).testBit b = true ↔ ∃ j, j < k ∧ (hrs xs (idxN xs (F.getD j 0))).testBit b = true
  | 0 => by simp [unionK]
  | k + 1 => by
    unfold unionK
    rw [Nat.testBit_or, Bool.or_eq_true, unionK_bit k]
    constructor
    · rintro (⟨j, hj, h⟩ | h)
      · exact ⟨j, by omega, h⟩
      · exact ⟨k, by omega, h⟩
    · rintro ⟨j, hj, h⟩
      by_cases e : j = k
      · subst e; exact .inr h
      · exact .inl ⟨j, by omega, h⟩

theorem sumK_nat {xs : List Comer} {d F : List Int} (hd : ∀ x ∈ d, 0 ≤ x) (h : famsB xs F = true) : sumK xs d F F.length = (sumS xs.length (fun i => (F.map (idxN xs)).contains i) (fun i => (d.getD i 0).toNat) : Nat) := by
  rw [sumK_eq hd F.length (Nat.le_refl _), List.take_length, sum_list (famsB_nodup h).1 (famsB_nodup h).2]

/-- Where the demands can be met nobody is crowded. -/
theorem crowd_no {xs : List Comer} {H : Nat} {d F : List Int} (hl : d.length = xs.length) (hd : ∀ x ∈ d, 0 ≤ x) (hH : H ≤ 24) (h : fea xs H (-1) d = true) : crowdB xs d F = false := by
  cases hq : crowdB xs d F with
  | false => rfl
  | true =>
    exfalso
    unfold crowdB at hq
    rw [Bool.and_eq_true, decide_eq_true_eq] at hq
    obtain ⟨hf, hlt⟩ := hq
    rw [sumK_nat hd hf] at hlt
    obtain ⟨wh, hw, hc⟩ := (fea_iff hl).1 h
    have h1 : sumS xs.length (fun i => (F.map (idxN xs)).contains i) (fun i => (d.getD i 0).toNat) ≤ sumS xs.length (fun i => (F.map (idxN xs)).contains i) (fun i => wh.count (i : Int)) :=
      sumS_le (fun i hi _ => by have := hc i hi; dsimp only at this; omega)
    have h2 : sumS xs.length (fun i => (F.map (idxN xs)).contains i) (fun i => wh.count (i : Int)) ≤ nbits H (unionK xs F F.length) := by
      rw [sum_count, countP_range _ _ (-1), hw.len]
      refine filter_le_on fun k hk hx => ?_
      have hk' : k < wh.length := by rw [hw.len]; exact List.mem_range.1 hk
      have e : wh[k]? = some (wh.getD k (-1)) := by rw [List.getD_eq_getElem?_getD, List.getElem?_eq_getElem hk']; rfl
      rcases hw.ok k _ e with e1 | ⟨i, e1, hi, ha⟩
      · rw [e1] at hx; simp [inS] at hx
      · rw [e1] at hx
        simp [inS] at hx
        obtain ⟨-, f, hf1, hf2⟩ := hx
        obtain ⟨j, hj, rfl⟩ := List.getElem_of_mem hf1
        rw [unionK_bit]
        refine ⟨j, hj, ?_⟩
        rw [getD_getElem hj, hf2]
        unfold can at ha
        rw [Bool.and_eq_true] at ha
        exact ha.1
    have h3 : nbits H (unionK xs F F.length) ≤ nbits 24 (unionK xs F F.length) := by
      obtain ⟨k, hk⟩ := Nat.exists_eq_add_of_le hH
      rw [hk]; exact nbits_grow _ _ k
    omega

/-! ### The search's witness -/
/-- Comer i is named: all its hours are in a set, and it demands some. -/
def named (xs : List Comer) (S : Nat) (d : List Int) (i : Nat) : Bool := (bits .andNot .i64 (hrs xs i : Nat) (S : Nat) == 0) && decide (0 < d.getD i 0)
/-- The families of those named among the first k comers. -/
def crowdK (xs : List Comer) (S : Nat) (d : List Int) : Nat → List Int
  | 0 => []
  | k + 1 => crowdK xs S d k ++ if named xs S d k = true then [(xs.getD k ⟨0, 0, 0⟩).family] else []
theorem crowdK_len (xs : List Comer) (S : Nat) (d : List Int) : ∀ k, (crowdK xs S d k).length ≤ k
  | 0 => Nat.le_refl _
  | k + 1 => by
    have := crowdK_len xs S d k
    unfold crowdK
    split <;> simp <;> omega
theorem crowdK_eq (xs : List Comer) (S : Nat) (d : List Int) : ∀ k, crowdK xs S d k = ((List.range k).filter (named xs S d)).map fun i => (xs.getD i ⟨0, 0, 0⟩).family
  | 0 => rfl
  | k + 1 => by
    rw [filter_snoc, List.map_append, crowdK, crowdK_eq xs S d k]
    cases named xs S d k <;> rfl

theorem andNot_zero {a b : Nat} (ha : a < 16777216) (hb : b < 16777216) : (bits .andNot .i64 (a : Int) (b : Int) == 0) = true ↔ ∀ h, a.testBit h = true → b.testBit h = true := by
  rw [andNot64 a b (by omega) (by omega)]
  constructor
  · intro h k hk
    have h0 : a ^^^ (a &&& b) = 0 := by
      have : ((a ^^^ (a &&& b) : Nat) : Int) = 0 := by simpa using h
      omega
    have := congrArg (fun x => x.testBit k) h0
    simp only [Nat.testBit_xor, Nat.testBit_and, Nat.zero_testBit, hk, Bool.true_and] at this
    cases hb : b.testBit k
    · rw [hb] at this; simp at this
    · rfl
  · intro h
    have : a ^^^ (a &&& b) = 0 := by
      apply Nat.eq_of_testBit_eq
      intro k
      rw [Nat.testBit_xor, Nat.testBit_and, Nat.zero_testBit]
      cases hk : a.testBit k
      · rfl
      · rw [h k hk]; rfl
    rw [this]; rfl

theorem idx_self {h : Int} {xs : List Comer} (k : Ok h xs) {i : Nat} (hi : i < xs.length) : idx xs (xs.getD i ⟨0, 0, 0⟩).family = i := by
  have e : xs[i]? = some (xs.getD i ⟨0, 0, 0⟩) := by rw [List.getD_eq_getElem?_getD, List.getElem?_eq_getElem hi]; rfl
  exact (idx_first e).2 (k.com i _ e).2.2
theorem hrs_pow {h : Int} {xs : List Comer} (k : Ok h xs) (i : Nat) : hrs xs i < 2 ^ h.toNat := by
  unfold hrs
  rw [List.getD_eq_getElem?_getD]
  cases hx : xs[i]? with
  | none => simp; exact Nat.two_pow_pos _
  | some x =>
    obtain ⟨h1, h2, -⟩ := k.com i x hx
    simp [isComer, rng] at h1
    have e : (2 : Int) ^ h.toNat = ((2 ^ h.toNat : Nat) : Int) := by simp
    rw [e] at h2
    dsimp only [Option.getD]
    omega

theorem srt_perm (l : List Int) : (srt l).Perm l := List.mergeSort_perm l _
theorem srt_sorted (l : List Int) : (srt l).Pairwise (fun a b => a ≤ b) := by
  have := List.pairwise_mergeSort (le := fun x y : Int => decide (x ≤ y)) (fun a b c h1 h2 => by simp at h1 h2 ⊢; omega) (fun a b => by simp; omega) l
  exact this.imp (fun h => by simpa using h)

theorem crowd_yes {h : Int} {xs : List Comer} {d wh : List Int} {left c s : Nat} (k : Ok h xs) (hd : ∀ x ∈ d, 0 ≤ x) (hleft : ∀ b, left.testBit b = (decide (b < h.toNat) && decide ((b : Int) ≠ -1)))
    (hw : Asg xs.length h.toNat (adj xs left) wh) (hc : c < xs.length) (f : StepF xs.length h.toNat (adj xs left) c 0 wh s) (hle : ∀ j, j < xs.length → wh.count (j : Int) ≤ (d.getD j 0).toNat) (hlt : wh.count (c : Int) < (d.getD c 0).toNat) :
    crowdB xs d (srt (crowdK xs (s ||| hrs xs c) d xs.length)) = true := by
  have hadj : ∀ i b, b < h.toNat → adj xs left i b = (hrs xs i).testBit b := by
    intro i b hb
    unfold adj
    rw [Nat.testBit_and, hleft]
    simp [hb]
  have hH24 : 2 ^ h.toNat ≤ 2 ^ 24 := Nat.pow_le_pow_right (by decide) (by have := k.h24; omega)
  have hS : s ||| hrs xs c < 16777216 := Nat.or_lt_two_pow (n := 24) (Nat.lt_of_lt_of_le f.lt hH24) (Nat.lt_of_lt_of_le (hrs_pow k c) hH24)
  obtain ⟨S, hSe⟩ : ∃ S, s ||| hrs xs c = S := ⟨_, rfl⟩
  have hbit : ∀ i b, (hrs xs i).testBit b = true → b < h.toNat := by
    intro i b hb
    rcases Nat.lt_or_ge b h.toNat with h1 | h1
    · exact h1
    · rw [Nat.testBit_lt_two_pow (Nat.lt_of_lt_of_le (hrs_pow k i) (Nat.pow_le_pow_right (by decide) h1))] at hb; cases hb
  have hSs : ∀ b, S.testBit b = s.testBit b := by
    intro b
    rw [← hSe, Nat.testBit_or]
    cases h1 : (hrs xs c).testBit b
    · simp
    · rw [f.all b (hbit c b h1) (by rw [hadj c b (hbit c b h1)]; exact h1)]; rfl
  rw [hSe] at hS ⊢
  -- who is named
  have hin : ∀ i, (bits .andNot .i64 (hrs xs i : Nat) (S : Nat) == 0) = inside h.toNat (adj xs left) s i := by
    intro i
    have h1 := andNot_zero (Nat.lt_of_lt_of_le (hrs_pow k i) hH24) hS
    rw [Bool.eq_iff_iff, h1, inside_iff]
    constructor
    · intro h2 b hb hab; rw [hadj i b hb] at hab; rw [← hSs]; exact h2 b hab
    · intro h2 b hb; rw [hSs]; exact h2 b (hbit i b hb) (by rw [hadj i b (hbit i b hb)]; exact hb)
  obtain ⟨F, hF⟩ : ∃ F, srt (crowdK xs S d xs.length) = F := ⟨_, rfl⟩
  rw [hF]
  have hmem : ∀ x, x ∈ F ↔ ∃ i, i < xs.length ∧ named xs S d i = true ∧ (xs.getD i ⟨0, 0, 0⟩).family = x := by
    intro x
    rw [← hF, (srt_perm _).mem_iff, crowdK_eq, List.mem_map]
    constructor
    · rintro ⟨i, hi, rfl⟩
      rw [List.mem_filter, List.mem_range] at hi
      exact ⟨i, hi.1, hi.2, rfl⟩
    · rintro ⟨i, h1, h2, rfl⟩
      exact ⟨i, by rw [List.mem_filter, List.mem_range]; exact ⟨h1, h2⟩, rfl⟩
  have hnd : F.Nodup := by
    rw [← hF, (srt_perm _).nodup_iff, crowdK_eq]
    unfold List.Nodup
    rw [List.pairwise_map]
    refine List.Pairwise.imp_of_mem ?_ (List.Pairwise.filter _ List.nodup_range)
    intro a b ha hb hab e
    have ha' := List.mem_range.1 (List.mem_filter.1 ha).1
    have hb' := List.mem_range.1 (List.mem_filter.1 hb).1
    have h1 := idx_self k ha'
    have h2 := idx_self k hb'
    rw [e] at h1
    omega
  have hso : F.Pairwise (fun a b => a ≤ b) := by rw [← hF]; exact srt_sorted _
  have hfb : famsB xs F = true := by
    refine famsB_yes fun j hj => ?_
    unfold famOk
    rw [Bool.and_eq_true]
    constructor
    · obtain ⟨i, h1, -, h3⟩ := (hmem (F.getD j 0)).1 (by rw [getD_getElem hj]; exact List.getElem_mem hj)
      rw [← h3, idx_self k h1]; simp
    · by_cases h0 : j = 0
      · simp [h0]
      · have h1 := List.pairwise_iff_getElem.1 hso (j - 1) j (by omega) hj (by omega)
        have h2 := List.pairwise_iff_getElem.1 hnd (j - 1) j (by omega) hj (by omega)
        rw [getD_getElem hj, getD_getElem (by omega : j - 1 < F.length)]
        simp [h0]; omega
  unfold crowdB
  rw [hfb, Bool.true_and, decide_eq_true_eq, sumK_nat hd hfb]
  have hcont : ∀ i, i < xs.length → (F.map (idxN xs)).contains i = named xs S d i := by
    intro i hi
    rw [Bool.eq_iff_iff, List.contains_iff_mem, List.mem_map]
    constructor
    · rintro ⟨x, hx, rfl⟩
      obtain ⟨j, h1, h2, rfl⟩ := (hmem x).1 hx
      have := idx_self k h1
      have e : idxN xs (xs.getD j ⟨0, 0, 0⟩).family = j := by unfold idxN; omega
      rw [e]; exact h2
    · intro hn
      refine ⟨(xs.getD i ⟨0, 0, 0⟩).family, (hmem _).2 ⟨i, hi, hn, rfl⟩, ?_⟩
      have := idx_self k hi
      unfold idxN; omega
  have a1 : nbits 24 (unionK xs F F.length) ≤ nbits h.toNat s := by
    obtain ⟨q, hq⟩ := Nat.exists_eq_add_of_le (show h.toNat ≤ 24 by have := k.h24; omega)
    rw [← nbits_more f.lt q, ← hq]
    refine nbits_mono fun b _ hb => ?_
    obtain ⟨j, hj, hb⟩ := (unionK_bit _).1 hb
    obtain ⟨i, h1, h2, h3⟩ := (hmem (F.getD j 0)).1 (by rw [getD_getElem hj]; exact List.getElem_mem hj)
    have e : idxN xs (F.getD j 0) = i := by have := idx_self k h1; rw [← h3]; unfold idxN; omega
    rw [e] at hb
    unfold named at h2
    rw [Bool.and_eq_true, hin i] at h2
    exact inside_iff.1 h2.1 b (hbit i b hb) (by rw [hadj i b (hbit i b hb)]; exact hb)
  have a2 := tried_le hw f
  have a3 : sumS xs.length (inside h.toNat (adj xs left) s) (fun j => wh.count (j : Int)) < sumS xs.length (inside h.toNat (adj xs left) s) (fun i => (d.getD i 0).toNat) :=
    sumS_lt (fun i hi _ => hle i hi) hc (inside_iff.2 f.all) hlt
  have a4 : sumS xs.length (inside h.toNat (adj xs left) s) (fun i => (d.getD i 0).toNat) = sumS xs.length (fun i => (F.map (idxN xs)).contains i) (fun i => (d.getD i 0).toNat) := by
    have hz : ∀ (n : Nat) (P : Nat → Bool), sumS n P (fun i => (d.getD i 0).toNat) = sumS n (fun i => P i && decide (0 < d.getD i 0)) (fun i => (d.getD i 0).toNat) := by
      intro n P
      induction n with
      | zero => rfl
      | succ n ih =>
        rw [sumS_succ, sumS_succ, ih]
        cases P n
        · simp
        · by_cases h0 : 0 < d.getD n 0
          · have e : decide (0 < d.getD n 0) = true := by simpa using h0
            rw [e, Bool.and_true]
          · have : (d.getD n 0).toNat = 0 := by omega
            simp only [this]; simp
    rw [hz]
    exact sumS_congr (fun i hi => by rw [hcont i hi]; unfold named; rw [hin i]) (fun _ _ _ => rfl)
  omega
end Go.Proofs.Ytdhhneflhmkonaa
