/- Plain facts for MillMore, MillSure and MillFair. -/
import Derived.Test.YtdhhneflhmkonaaN3
import Derived.Test.YtdhhneflhmkonaaN5
import Derived.Test.YtdhhneflhmkonaaV6
namespace Go.Proofs.Ytdhhneflhmkonaa
open Go.RowKit Go.Shelf

abbrev fam (xs : List Comer) (i : Nat) : Int := (xs.getD i ⟨0, 0, 0⟩).family
theorem getD_some {xs : List Comer} {i : Nat} (hi : i < xs.length) : xs[i]? = some (xs.getD i ⟨0, 0, 0⟩) := by rw [List.getD_eq_getElem?_getD, List.getElem?_eq_getElem hi]; rfl
theorem getD_of {xs : List Comer} {i : Nat} {x : Comer} (h : xs[i]? = some x) : xs.getD i ⟨0, 0, 0⟩ = x := by rw [List.getD_eq_getElem?_getD, h]; rfl
theorem Ok.fam_ge {h : Int} {xs : List Comer} (ok : Ok h xs) {i : Nat} (hi : i < xs.length) : 1 ≤ fam xs i ∧ fam xs i ≤ 99 := by
  have h1 := (ok.com i _ (getD_some hi)).1
  unfold fam
  generalize xs.getD i ⟨0, 0, 0⟩ = z at h1 ⊢
  simp [isComer, rng] at h1
  omega
theorem Ok.wants_ge {h : Int} {xs : List Comer} (ok : Ok h xs) {i : Nat} (hi : i < xs.length) : 0 ≤ (xs.getD i ⟨0, 0, 0⟩).wants ∧ (xs.getD i ⟨0, 0, 0⟩).wants ≤ 24 := by
  have h1 := (ok.com i _ (getD_some hi)).1
  generalize xs.getD i ⟨0, 0, 0⟩ = z at h1 ⊢
  simp [isComer, rng] at h1
  omega
theorem Ok.fam_inj {h : Int} {xs : List Comer} (ok : Ok h xs) {i j : Nat} (hi : i < xs.length) (hj : j < xs.length) (e : fam xs i = fam xs j) : i = j := by
  have h1 := idx_self ok hi
  have h2 := idx_self ok hj
  unfold fam at e
  rw [e, h2] at h1
  omega
theorem idx_map (xs : List Comer) (f : Int) : idx xs f = match (xs.map Comer.family).findIdx? (fun c => c == f) with | some i => (i : Int) | none => -1 := by
  unfold idx
  rw [List.findIdx?_map]
  rfl
theorem idx_fams {xs ys : List Comer} (h : xs.map Comer.family = ys.map Comer.family) (f : Int) : idx xs f = idx ys f := by rw [idx_map, idx_map, h]
/-- Other hours. -/
theorem Ok.hours {h : Int} {xs ys : List Comer} (ok : Ok h xs) (hl : ys.length = xs.length) (hh : ∀ (i : Nat) (x : Comer), xs[i]? = some x → ∃ y : Int, ys[i]? = some ({ x with hours := y } : Comer) ∧ 0 ≤ y ∧ y < 2 ^ h.toNat) : Ok h ys := by
  have hf : ys.map Comer.family = xs.map Comer.family := by
    apply List.ext_getElem?
    intro i
    rw [List.getElem?_map, List.getElem?_map]
    cases hx : xs[i]? with
    | none => rw [List.getElem?_eq_none_iff] at hx; rw [List.getElem?_eq_none (by omega)]
    | some x =>
      obtain ⟨y, h1, -⟩ := hh i x hx
      rw [h1]; rfl
  have h24 : (2 : Int) ^ h.toNat ≤ 16777216 := by
    have e : (2 : Int) ^ h.toNat = ((2 ^ h.toNat : Nat) : Int) := by simp
    have := Nat.pow_le_pow_right (show 0 < 2 by decide) (show h.toNat ≤ 24 by have := ok.h24; omega)
    rw [e]; omega
  refine ⟨ok.h0, ok.h24, by rw [hl]; exact ok.n12, fun i z hz => ?_⟩
  have hi : i < xs.length := by rw [← hl]; exact (List.getElem?_eq_some_iff.1 hz).1
  obtain ⟨y, h1, h2, h3⟩ := hh i _ (getD_some hi)
  rw [h1] at hz
  cases hz
  obtain ⟨o1, o2, o3⟩ := ok.com i _ (getD_some hi)
  refine ⟨?_, h3, ?_⟩
  · generalize xs.getD i ⟨0, 0, 0⟩ = z at o1 ⊢
    simp [isComer, rng] at o1 ⊢
    omega
  · rw [idx_fams (ys := xs.take i) (by rw [List.map_take, List.map_take, hf])]
    exact o3

/- One hour more. -/
def moreL (xs : List Comer) (k b : Nat) : List Comer := xs.set k { (xs.getD k ⟨0, 0, 0⟩) with hours := ((hrs xs k ||| 2 ^ b : Nat) : Int) }
theorem moreL_len (xs : List Comer) (k b : Nat) : (moreL xs k b).length = xs.length := by simp [moreL]
theorem moreL_get {xs : List Comer} {k b i : Nat} (hk : k < xs.length) : (moreL xs k b).getD i ⟨0, 0, 0⟩ = if i = k then { (xs.getD k ⟨0, 0, 0⟩) with hours := ((hrs xs k ||| 2 ^ b : Nat) : Int) } else xs.getD i ⟨0, 0, 0⟩ := by
  unfold moreL
  rw [List.getD_eq_getElem?_getD, List.getElem?_set]
  by_cases e : k = i
  · rw [if_pos e, if_pos e.symm]
    subst e
    rw [if_pos hk]; rfl
  · rw [if_neg e, if_neg (fun h => e h.symm), ← List.getD_eq_getElem?_getD]
theorem more_ok {H : Nat} {xs : List Comer} (ok : Ok (H : Int) xs) {k b : Nat} (hk : k < xs.length) (hb : b < H) : Ok (H : Int) (moreL xs k b) := by
  refine ok.hours (moreL_len xs k b) fun i x hx => ?_
  have hxi := (List.getElem?_eq_some_iff.1 hx).1
  have hh : hrs xs i < 2 ^ H := hrs_pow ok i
  have hp : ((2 ^ H : Nat) : Int) = (2 : Int) ^ H := by simp
  have hxh : x.hours = (hrs xs i : Nat) := ok.hrs.nat hx
  rw [getD_some (show i < (moreL xs k b).length by rw [moreL_len]; exact hxi), moreL_get hk]
  simp only [Int.toNat_natCast]
  rw [← hp]
  by_cases e : i = k
  · subst e
    rw [if_pos rfl, getD_of hx]
    refine ⟨_, rfl, Int.natCast_nonneg _, ?_⟩
    have : hrs xs i ||| 2 ^ b < 2 ^ H := Nat.or_lt_two_pow hh (Nat.pow_lt_pow_right (by decide) hb)
    omega
  · rw [if_neg e, getD_of hx]
    exact ⟨x.hours, rfl, by omega, by omega⟩
theorem more_lev {xs : List Comer} {H k b : Nat} (hk : k < xs.length) : lev xs H 24 0 ≤ lev (moreL xs k b) H 24 0 := by
  refine level_wider (moreL_len xs k b).symm (fun i hi => ?_) (fun i h hi hh => ?_)
  · rw [moreL_get hk]
    by_cases e : i = k
    · subst e; rw [if_pos rfl]
    · rw [if_neg e]
  · unfold hrs at hh ⊢
    rw [moreL_get hk]
    by_cases e : i = k
    · subst e
      rw [if_pos rfl]
      simp only [Int.toNat_natCast]
      rw [Nat.testBit_or]
      unfold hrs
      rw [hh]; rfl
    · rw [if_neg e]; exact hh

/- One comer less. -/
theorem idx_neg2 {l : List Comer} {f : Int} (h : idx l f < 0) {j : Nat} (hj : j < l.length) : fam l j ≠ f := by
  intro e
  unfold idx at h
  cases hf : l.findIdx? (fun c => c.family == f) with
  | some i => rw [hf] at h; dsimp only at h; omega
  | none =>
    rw [List.findIdx?_eq_none_iff] at hf
    have := hf (l.getD j ⟨0, 0, 0⟩) (List.mem_of_getElem? (getD_some hj))
    unfold fam at e
    rw [e] at this
    simp at this
theorem erase_ok {h : Int} {xs : List Comer} (ok : Ok h xs) {k : Nat} (hk : k < xs.length) : Ok h (xs.eraseIdx k) := by
  have hel : (xs.eraseIdx k).length = xs.length - 1 := List.length_eraseIdx_of_lt hk
  refine ⟨ok.h0, ok.h24, by have := ok.n12; omega, fun i z hz => ?_⟩
  have hi : i < xs.length - 1 := by rw [← hel]; exact (List.getElem?_eq_some_iff.1 hz).1
  have hzi : xs.getD (skip k i) ⟨0, 0, 0⟩ = z := by rw [← erase_getD, getD_of hz]
  have hs := skip_lt hk hi
  obtain ⟨o1, o2, o3⟩ := ok.com (skip k i) _ (getD_some hs)
  rw [hzi] at o1 o2 o3
  refine ⟨o1, o2, ?_⟩
  rw [idx_none (l := (xs.eraseIdx k).take i) (f := z.family)]
  · omega
  · intro j hj x hx e
    rw [List.length_take] at hj
    rw [List.getElem?_take_of_lt (by omega)] at hx
    have hxj : xs.getD (skip k j) ⟨0, 0, 0⟩ = x := by rw [← erase_getD, getD_of hx]
    have h1 := ok.fam_inj (skip_lt hk (show j < xs.length - 1 by omega)) hs (by unfold fam; rw [hxj, hzi]; exact e)
    have := skip_inj h1
    omega
def posK (k q : Nat) : Nat := if q < k then q else q - 1
theorem skip_pos {k q : Nat} (h : q ≠ k) : skip k (posK k q) = q := by
  unfold skip posK
  by_cases h1 : q < k
  · rw [if_pos h1, if_pos h1]
  · rw [if_neg h1, if_neg (by omega)]; omega
theorem less_moved {H : Nat} {xs : List Comer} (ok : Ok (H : Int) xs) {k q : Nat} (hk : k < xs.length) (hq : q < xs.length) (hne : q ≠ k) :
    fam xs q ∈ movedS xs H (fam xs k) ↔ (turnsS xs H).getD q 0 ≠ (turnsS (xs.eraseIdx k) H).getD (posK k q) 0 := by
  have hik : idx xs (fam xs k) = k := idx_self ok hk
  have hiq : idx xs (fam xs q) = q := idx_self ok hq
  have hpl : posK k q < (xs.eraseIdx k).length := by rw [List.length_eraseIdx_of_lt hk]; unfold posK; split <;> omega
  have hie : idx (xs.eraseIdx k) (fam xs q) = posK k q := by
    have := idx_self (erase_ok ok hk) hpl
    rw [erase_getD, skip_pos hne] at this
    exact this
  have he : movedE xs H (fam xs k) = 0 := by
    unfold movedE
    rw [if_pos ((okMill_iff _ _).2 ok), hik, if_neg (by omega)]
  unfold movedS
  rw [if_pos he, (srt_perm _).mem_iff]
  unfold movedL
  rw [hik]
  simp only [Int.toNat_natCast]
  rw [movK_mem ok _ _ _ _ _ (Nat.le_refl _)]
  unfold mvTest
  simp only [hiq, hie]
  constructor
  · rintro ⟨q', -, -, h⟩
    simpa using h
  · intro h
    exact ⟨q, hq, rfl, by simpa using h⟩

/- By any sharing that is accepted. -/
theorem idle_mem {xs : List Comer} {H : Nat} {due : List Int} {x : Int} : ∀ k, x ∈ idleK xs H due k ↔ ∃ b, b < k ∧ x = (b : Nat) ∧ fea xs H b due = true
  | 0 => by simp [idleK]
  | k + 1 => by
    unfold idleK
    rw [List.mem_append, idle_mem k]
    constructor
    · rintro (⟨b, h1, h2, h3⟩ | h)
      · exact ⟨b, by omega, h2, h3⟩
      · split at h
        · rename_i ht
          exact ⟨k, by omega, List.mem_singleton.1 h, ht⟩
        · cases h
    · rintro ⟨b, h1, h2, h3⟩
      by_cases e : b = k
      · subst e
        right
        rw [if_pos h3]; exact List.mem_singleton.2 h2
      · left; exact ⟨b, by omega, h2, h3⟩
/-- A sharing that is accepted, as an assignment. -/
def Took (xs : List Comer) (H : Nat) (other : List Int) : Prop := other.length = H ∧ gotK xs other H = some (turnsS xs H)
theorem whoL_iff {H : Nat} {xs : List Comer} (ok : Ok (H : Int) xs) {s : List Int} {i b : Nat} (hi : i < xs.length) : whoL xs s b = (i : Int) ↔ s.getD b 0 = fam xs i := by
  unfold whoL
  have hge := ok.fam_ge hi
  constructor
  · intro h
    split at h
    · omega
    · rcases idxD xs (s.getD b 0) with e | ⟨j, e, hj, hf⟩
      · omega
      · have : j = i := by omega
        subst this
        exact hf.symm
  · intro h
    rw [h, if_neg (by omega)]
    exact idx_self ok hi
theorem took_yes {H : Nat} {xs : List Comer} (ok : Ok (H : Int) xs) {other : List Int} (t : Took xs H other) {i b : Nat} (hi : i < xs.length) (hc : comesV xs H i b (turnsS xs H) = 1) : other.getD b 0 = fam xs i := by
  obtain ⟨a1, a2, a3⟩ := gotK_asg H _ t.2
  rw [← whoL_iff ok hi]
  false_or_by_contra
  rename_i hne
  have hf : fea (clr xs i b) H (-1) (turnsS xs H) = true := by
    have hl : (turnsS xs H).length = (clr xs i b).length := by rw [clr_len]; exact turns_len xs H
    rw [fea_iff hl, clr_len]
    refine ⟨_, a1.adj_mono fun j h hj hh hw hc => ?_, fun j hj => by show (turnsS xs H).getD j 0 ≤ _; rw [a3 j hj]; exact Int.le_refl _⟩
    rw [can_clr hi]
    refine ⟨(can_iff.1 hc).1, ?_⟩
    rintro ⟨rfl, rfl⟩
    rw [who_get hh] at hw
    exact hne (Option.some.inj hw)
  unfold comesV at hc
  rw [hf] at hc
  split at hc
  · omega
  · split at hc
    · simp at hc
    · omega
theorem took_no {H : Nat} {xs : List Comer} (ok : Ok (H : Int) xs) {other : List Int} (t : Took xs H other) {i b : Nat} (hi : i < xs.length) (hb : b < H) (hc : comesV xs H i b (turnsS xs H) = 0) : other.getD b 0 ≠ fam xs i := by
  obtain ⟨a1, a2, a3⟩ := gotK_asg H _ t.2
  intro hw0
  have hw := (whoL_iff ok hi (s := other) (b := b)).2 hw0
  have hg : ((List.range H).map (whoL xs other))[b]? = some (i : Int) := by rw [who_get hb, hw]
  have hbit : (hrs xs i).testBit b = true := by
    rcases a1.ok b _ hg with e | ⟨j, e, -, hj⟩
    · omega
    · have : j = i := by omega
      subst this
      exact (can_iff.1 hj).1
  have hpos : (turnsS xs H).getD i 0 ≠ 0 := by
    rw [a3 i hi]
    have : 0 < ((List.range H).map (whoL xs other)).count (i : Int) := List.count_pos_iff.2 (List.mem_of_getElem? hg)
    omega
  have hf := fea_less (turns_len xs H) a1 (fun j hj => by rw [a3 j hj]; exact Int.le_refl _) hg hi
  unfold comesV at hc
  rw [if_neg (by rintro (h | h) <;> simp_all)] at hc
  rw [if_pos hf] at hc
  split at hc <;> omega
theorem took_idle {H : Nat} {xs : List Comer} {other : List Int} (t : Took xs H other) {b : Nat} (hb : b < H) (h0 : other.getD b 0 = 0) : (b : Int) ∈ idleK xs H (turnsS xs H) H := by
  obtain ⟨a1, a2, a3⟩ := gotK_asg H _ t.2
  refine (idle_mem H).2 ⟨b, hb, rfl, ?_⟩
  refine fea_bar (turns_len xs H) a1 (fun j hj => by rw [a3 j hj]; exact Int.le_refl _) (fun i => ?_)
  rw [who_get hb]
  unfold whoL
  rw [if_pos h0]
  intro h
  cases h
theorem barL_ok {H : Nat} {xs : List Comer} (ok : Ok (H : Int) xs) (b : Nat) : Ok (H : Int) (barL xs b) := by
  refine ok.hours (barL_len xs b) fun i x hx => ?_
  have hh : hrs xs i < 2 ^ H := hrs_pow ok i
  have hp : ((2 ^ H : Nat) : Int) = (2 : Int) ^ H := by simp
  have hxh : x.hours.toNat = hrs xs i := by have := ok.hrs.nat hx; omega
  refine ⟨((x.hours.toNat ^^^ (x.hours.toNat &&& 2 ^ b) : Nat) : Int), ?_, Int.natCast_nonneg _, ?_⟩
  · unfold barL; rw [List.getElem?_map, hx]; rfl
  · simp only [Int.toNat_natCast]
    rw [← hp, hxh]
    have : hrs xs i ^^^ (hrs xs i &&& 2 ^ b) < 2 ^ H := Nat.xor_lt_two_pow hh (Nat.lt_of_le_of_lt Nat.and_le_left hh)
    omega
theorem isDem_turns {xs ys : List Comer} {H : Nat} (hl : ys.length = xs.length) : isDem ys (turnsS xs H) = true := by
  unfold isDem
  have hn : badD (turnsS xs H) = false := by
    rw [← Bool.not_eq_true, badD_at]
    rintro ⟨j, hj, h⟩
    rw [turns_len] at hj
    have := turns_bd xs H hj
    generalize (turnsS xs H).getD j 0 = z at this h
    simp [rng] at h
    omega
  rw [hn, turns_len, hl]
  simp
theorem bar_serves {H : Nat} {xs : List Comer} (ok : Ok (H : Int) xs) {b : Nat} (hf : fea xs H b (turnsS xs H) = true) : servesS (barL xs b) H (turnsS xs H) = true ∧ demE (barL xs b) H (turnsS xs H) = 0 := by
  have he : demE (barL xs b) H (turnsS xs H) = 0 := by
    unfold demE
    rw [if_pos ((okMill_iff _ _).2 (barL_ok ok b)), if_pos (isDem_turns (barL_len xs b))]
  refine ⟨?_, he⟩
  unfold servesS
  rw [he]
  simp only [Int.toNat_natCast]
  rw [fea_barL (turns_len xs H), hf]
  rfl

/- Fair. -/
theorem count_fam {H : Nat} {xs : List Comer} (ok : Ok (H : Int) xs) {s : List Int} {i : Nat} (hi : i < xs.length) : ((List.range s.length).map (whoL xs s)).count (i : Int) = s.count (fam xs i) := by
  have e : s = (List.range s.length).map fun b => s.getD b 0 := by
    apply List.ext_getElem?
    intro b
    rw [List.getElem?_map]
    by_cases hb : b < s.length
    · rw [List.getElem?_range hb, List.getElem?_eq_getElem hb, Option.map_some, List.getD_eq_getElem?_getD, List.getElem?_eq_getElem hb]; rfl
    · rw [List.getElem?_eq_none (by omega), List.getElem?_eq_none (by rw [List.length_range]; omega)]; rfl
  have e2 : s.count (fam xs i) = ((List.range s.length).map fun b => s.getD b 0).count (fam xs i) := by rw [← e]
  rw [e2]
  unfold List.count
  rw [List.countP_map, List.countP_map]
  congr 1
  funext b
  have := whoL_iff ok hi (s := s) (b := b)
  simp only [Function.comp]
  by_cases h : whoL xs s b = (i : Int)
  · rw [h, this.1 h]; simp
  · have h2 : ¬ s.getD b 0 = fam xs i := fun e => h (this.2 e)
    rw [beq_eq_false_iff_ne.2 h, beq_eq_false_iff_ne.2 h2]
theorem got_count {H : Nat} {xs : List Comer} (ok : Ok (H : Int) xs) {s g : List Int} (hg : gotK xs s s.length = some g) {i : Nat} (hi : i < xs.length) : g.getD i 0 = (s.count (fam xs i) : Nat) := by
  obtain ⟨-, -, a3⟩ := gotK_asg _ _ hg
  rw [a3 i hi, count_fam ok hi]
theorem isDem_capped {H : Int} {xs : List Comer} (ok : Ok H xs) {m : Int} (hm : 0 ≤ m) : isDem xs (capped xs m) = true := by
  unfold isDem
  have hn : badD (capped xs m) = false := by
    rw [← Bool.not_eq_true, badD_at]
    rintro ⟨j, hj, h⟩
    rw [capped_len] at hj
    rw [capped_at xs m hj] at h
    have := ok.wants_ge hj
    generalize (xs.getD j ⟨0, 0, 0⟩).wants = z at this h
    simp [rng] at h
    omega
  rw [hn, capped_len]
  simp
theorem fair_next {H : Nat} {xs : List Comer} (ok : Ok (H : Int) xs) (hl : lev xs H 24 0 < 24) : servesS xs H (capped xs ((lev xs H 24 0 : Nat) + 1)) = false ∧ demE xs H (capped xs ((lev xs H 24 0 : Nat) + 1)) = 0 := by
  have he : demE xs H (capped xs ((lev xs H 24 0 : Nat) + 1)) = 0 := by
    unfold demE
    rw [if_pos ((okMill_iff _ _).2 ok), if_pos (isDem_capped ok (by omega))]
  refine ⟨?_, he⟩
  unfold servesS
  simp only [Int.toNat_natCast]
  rw [(level_spec xs H).2.2 hl]
  simp
theorem fair_right {H : Nat} {xs : List Comer} (ok : Ok (H : Int) xs) {s g : List Int} (hs : (s.length : Int) = H) (hg : gotK xs s s.length = some g) (hl : lev xs H 24 0 < 24)
    (hm : ∀ i, i < xs.length → min (((lev xs H 24 0 : Nat) : Int) + 1) (xs.getD i ⟨0, 0, 0⟩).wants ≤ (s.count (fam xs i) : Nat)) : False := by
  obtain ⟨a1, -, -⟩ := gotK_asg _ _ hg
  have : s.length = H := by omega
  rw [this] at a1
  have hf : fea xs H (-1) (capped xs ((lev xs H 24 0 : Nat) + 1)) = true := by
    rw [fea_iff (capped_len _ _)]
    refine ⟨_, a1, fun i hi => ?_⟩
    show (capped xs ((lev xs H 24 0 : Nat) + 1)).getD i 0 ≤ _
    have e := hm i hi
    rw [capped_at _ _ hi]
    rw [← count_fam ok hi, this] at e
    exact e
  rw [(level_spec xs H).2.2 hl] at hf
  cases hf
theorem fair_one {H : Nat} {xs : List Comer} (ok : Ok (H : Int) xs) {i : Nat} (hi : i < xs.length) (hw : (turnsS xs H).getD i 0 < (xs.getD i ⟨0, 0, 0⟩).wants) :
    servesS xs H ((turnsS xs H).set i ((turnsS xs H).getD i 0 + 1)) = false ∧ demE xs H ((turnsS xs H).set i ((turnsS xs H).getD i 0 + 1)) = 0 := by
  have h24 : (turnsS xs H).getD i 0 < 24 := by have := ok.wants_ge hi; omega
  have he : demE xs H ((turnsS xs H).set i ((turnsS xs H).getD i 0 + 1)) = 0 := by
    unfold demE
    rw [if_pos ((okMill_iff _ _).2 ok), if_pos]
    unfold isDem
    have hn : badD ((turnsS xs H).set i ((turnsS xs H).getD i 0 + 1)) = false := by
      rw [← Bool.not_eq_true, badD_at]
      rintro ⟨j, hj, h⟩
      rw [List.length_set, turns_len] at hj
      have h1 := turns_bd xs H hj
      have h2 := turns_bd xs H hi
      rw [List.getD_eq_getElem?_getD, List.getElem?_set] at h
      by_cases e : i = j
      · rw [if_pos e, if_pos (by rw [turns_len]; exact hi), Option.getD_some] at h
        generalize (turnsS xs H).getD i 0 = z at h2 h24 h
        simp [rng] at h
        omega
      · rw [if_neg e, ← List.getD_eq_getElem?_getD] at h
        generalize (turnsS xs H).getD j 0 = z at h1 h
        simp [rng] at h
        omega
    rw [hn, List.length_set, turns_len]
    simp
  refine ⟨?_, he⟩
  unfold servesS
  simp only [Int.toNat_natCast]
  rw [turns_most hi hw h24]
  simp
end Go.Proofs.Ytdhhneflhmkonaa
