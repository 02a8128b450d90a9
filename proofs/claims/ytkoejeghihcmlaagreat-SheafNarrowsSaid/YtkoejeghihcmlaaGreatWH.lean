/- Plain: what becomes known later; the dates; what a source moves. -/
import Derived.Test.YtkoejeghihcmlaaGreatWG
import Derived.Test.YtkoejeghihcmlaaGreatWD
namespace Go.Proofs.YtkoejeghihcmlaaGreat
open Go.RowKit Go.Shelf

theorem compact_sub (l : List Int) : (Lib.compact l).Sublist l := by
  unfold Lib.compact Lib.compactUpTo
  have h : ((List.range l.length).filter (Lib.keeps l.toArray)).Sublist (List.range l.length) := List.filter_sublist
  have h2 := h.map (fun i => l.toArray[i]!)
  have e : (List.range l.length).map (fun i => l.toArray[i]!) = l := by
    have := Lib.range_map_get l.toArray
    simpa using this
  rw [e] at h2
  exact h2
theorem toArray_get {l : List Int} {i : Nat} (hi : i < l.length) : l.toArray[i]! = l[i] := by
  rw [getElem!_pos l.toArray i (by simpa using hi)]
  simp
theorem mem_compactUp {l : List Int} {x : Int} : ∀ m, m ≤ l.length → x ∈ l.take m → x ∈ Lib.compactUpTo l.toArray m
  | 0, _, h => by rw [List.take_zero] at h; cases h
  | m + 1, hm, h => by
    rw [Lib.compactUpTo_succ]
    rw [List.take_succ_eq_append_getElem (show m < l.length by omega), List.mem_append] at h
    rcases h with h | h
    · exact List.mem_append_left _ (mem_compactUp m (by omega) h)
    · rw [List.mem_singleton] at h
      cases hk : Lib.keeps l.toArray m with
      | true =>
        rw [if_pos rfl, toArray_get (show m < l.length by omega), ← h]
        exact List.mem_append_right _ (List.mem_singleton.2 rfl)
      | false =>
        have hk' : ¬ (m = 0 ∨ l.toArray[m]! ≠ l.toArray[m - 1]!) := by
          unfold Lib.keeps at hk
          exact of_decide_eq_false hk
        have hm0 : m ≠ 0 := fun e => hk' (.inl e)
        have he : l.toArray[m]! = l.toArray[m - 1]! := Classical.not_not.1 fun e => hk' (.inr e)
        rw [toArray_get (show m < l.length by omega), toArray_get (show m - 1 < l.length by omega)] at he
        refine List.mem_append_left _ (mem_compactUp m (by omega) ?_)
        rw [h, he]
        rw [List.mem_take_iff_getElem]
        exact ⟨m - 1, by omega, rfl⟩
theorem mem_compact {l : List Int} {x : Int} : x ∈ Lib.compact l ↔ x ∈ l :=
  ⟨fun h => (compact_sub l).subset h, fun h => mem_compactUp l.length (Nat.le_refl _) (by rw [List.take_of_length_le (Nat.le_refl _)]; exact h)⟩
theorem compact_le {l : List Int} (h : l.Pairwise (· ≤ ·)) : (Lib.compact l).Pairwise (· ≤ ·) := List.Pairwise.sublist (compact_sub l) h
theorem mem_datesL {p : Pl} {d : Int} : d ∈ datesL p ↔ d ∈ datesAll p := by unfold datesL; rw [mem_compact, mem_srt]
theorem datesL_up (p : Pl) : (datesL p).Pairwise (· ≤ ·) := compact_le (srt_up _)
/-- The last date that is not greater. -/
def lastD (known : Int) (l : List Int) : Int := l.foldl (fun a d => if d ≤ known then d else a) (-1)
theorem lastD_snoc (known : Int) (l : List Int) (d : Int) : lastD known (l ++ [d]) = if d ≤ known then d else lastD known l := by unfold lastD; rw [List.foldl_append]; rfl
theorem lastD_spec {known : Int} : ∀ l : List Int, (lastD known l = -1 ∨ lastD known l ∈ l ∧ lastD known l ≤ known) ∧ (l.Pairwise (· ≤ ·) → (∀ d ∈ l, 0 ≤ d) → ∀ d ∈ l, d ≤ known → d ≤ lastD known l) := by
  intro l
  induction hn : l.length generalizing l with
  | zero =>
    have : l = [] := List.eq_nil_of_length_eq_zero hn
    subst this
    exact ⟨.inl rfl, fun _ _ d hd => (by cases hd)⟩
  | succ n ih =>
    obtain ⟨q, y, rfl⟩ : ∃ q y, l = q ++ [y] := ⟨l.dropLast, l.getLast (by intro h; rw [h] at hn; simp at hn), (List.dropLast_concat_getLast _).symm⟩
    have hq : q.length = n := by rw [List.length_append, List.length_singleton] at hn; omega
    obtain ⟨h1, h2⟩ := ih q hq
    rw [lastD_snoc]
    by_cases hy : y ≤ known
    · rw [if_pos hy]
      refine ⟨.inr ⟨by simp, hy⟩, fun hp _ d hd _ => ?_⟩
      rcases List.mem_append.1 hd with hd | hd
      · exact (List.pairwise_append.1 hp).2.2 d hd y (by simp)
      · rw [List.mem_singleton.1 hd]; exact Int.le_refl _
    · rw [if_neg hy]
      refine ⟨?_, fun hp h0 d hd hk => ?_⟩
      · rcases h1 with e | ⟨e1, e2⟩
        · exact .inl e
        · exact .inr ⟨List.mem_append_left _ e1, e2⟩
      · rcases List.mem_append.1 hd with hd | hd
        · exact h2 (List.pairwise_append.1 hp).1 (fun d hd => h0 d (List.mem_append_left _ hd)) d hd hk
        · rw [List.mem_singleton.1 hd] at hk; exact absurd hk hy
/-- Two plots, on two days, of which the same loads and stands count, and spells alike. -/
structure Alike (p q : Pl) (k k' : Int) : Prop where
  lo : q.lo = p.lo
  hi : q.hi = p.hi
  geese : q.geese = p.geese
  loads : q.loads.filter (fun x => cnt x k') = p.loads.filter (fun x => cnt x k)
  stands : q.stands.filter (fun x => cnt x k') = p.stands.filter (fun x => cnt x k)
  spells : q.spells.filter (fun x => cnt x k') = p.spells.filter (fun x => cnt x k)
theorem standsF_filter (known : Int) (m : Int → Bool) (ls : List Six) : ∀ (l : List Six) (st : List Rg), standsF known m ls l st = (l.filter fun x => cnt x known).foldl (fun st s => if m s.a then nar st (after ls s.b) ⟨s.c, s.d⟩ else st) st
  | [], st => rfl
  | x :: l, st => by
    have e : standsF known m ls (x :: l) st = standsF known m ls l (if (cnt x known && m x.a) = true then nar st (after ls x.b) ⟨x.c, x.d⟩ else st) := rfl
    rw [e, standsF_filter known m ls l, List.filter_cons]
    cases hc : cnt x known with
    | false => simp
    | true => simp
theorem any_filter_cnt (known hour : Int) (l : List Six) : l.any (inSpell known hour) = (l.filter fun x => cnt x known).any fun s => rng hour s.c s.d := by
  rw [List.any_filter]
  rfl
theorem Alike.look {p q : Pl} {k k' : Int} (h : Alike p q k k') : lookL q k' every = lookL p k every ∧ lookS q k' every = lookS p k every := by
  have e1 : lookL q k' every = lookL p k every := by
    rw [cart_every, cart_every]
    unfold cartL
    rw [h.loads]
  refine ⟨e1, ?_⟩
  unfold lookS
  rw [e1, standsF_filter, standsF_filter, h.stands]
  unfold stood0
  rw [h.lo, h.hi]
theorem Alike.openB_ {p q : Pl} {k k' : Int} (h : Alike p q k k') (hour f : Int) : openB q k' hour f = openB p k hour f := by
  have : shutB q k' hour = shutB p k hour := by unfold shutB; rw [any_filter_cnt, any_filter_cnt, h.spells]
  unfold Go.Proofs.YtkoejeghihcmlaaGreat.openB
  rw [this, h.geese]
theorem Alike.same {p q : Pl} {k k' hour : Int} (h : Alike p q k k') (hp : okPl p = true) (hq : okPl q = true) (h0 : 0 ≤ hour ∧ hour ≤ 99999) (hk : 0 ≤ k ∧ k ≤ 4166) (hk' : 0 ≤ k' ∧ k' ≤ 4166) : askE q [hour] k' = askE p [hour] k ∧ openA q hour k' = openA p hour k := by
  have l := h.look
  have f1 : firstE p [hour] [k] = 0 := first_of hp (fun x hx => by rw [List.mem_singleton.1 hx]; exact h0) hk.1 hk.2
  have f2 : firstE q [hour] [k'] = 0 := first_of hq (fun x hx => by rw [List.mem_singleton.1 hx]; exact h0) hk'.1 hk'.2
  have e : askE q [hour] k' = askE p [hour] k := by
    unfold askE
    rw [if_pos f1, if_pos f2, l.2]
  refine ⟨e, ?_⟩
  have hf : fromsP q k' = fromsP p k := by unfold fromsP; rw [l.1, l.2]
  have ho : openB q k' hour = openB p k hour := funext fun f => h.openB_ hour f
  unfold openA
  rw [e, hf, ho]
theorem rise_of {l : List Six} (h : ∀ j, j < l.length → j = 0 ∨ (l.getD (j - 1) z6).a < (l.getD j z6).a) : l.Pairwise fun x y => x.a < y.a := by
  have := rise_pw (l := srcs l) (fun i h0 hi => by
    unfold srcs at hi ⊢
    rw [List.length_map] at hi
    rw [List.getD_eq_getElem?_getD, List.getD_eq_getElem?_getD, List.getElem?_map, List.getElem?_map, getD_six (show i < l.length from hi), getD_six (show i - 1 < l.length by omega)]
    rcases h i hi with e | e
    · omega
    · exact e)
  unfold srcs at this
  exact List.pairwise_map.1 this
theorem okL_pw {is : Six → Bool} {ks : List Int} {l : List Six} : okL is ks l = true ↔ (∀ x ∈ l, is x = true) ∧ l.Pairwise (fun x y => x.a < y.a) ∧ (∀ x ∈ l, x.a ∉ ks) ∧ l.length ≤ 60 := by
  rw [okL_iff]
  constructor
  · rintro ⟨h1, h2⟩
    have hp := fun j hj => okAt_iff.1 (h1 j hj)
    refine ⟨fun x hx => ?_, rise_of fun j hj => (hp j hj).2.1, fun x hx hc => ?_, h2⟩
    · obtain ⟨i, hi, rfl⟩ := List.getElem_of_mem hx
      rw [← six_get hi]; exact (hp i hi).1
    · obtain ⟨i, hi, rfl⟩ := List.getElem_of_mem hx
      rw [← six_get hi] at hc
      exact (hp i hi).2.2 (List.mem_append_left _ hc)
  · rintro ⟨h1, h2, h3, h4⟩
    refine ⟨fun j hj => okAt_iff.2 ⟨h1 _ (getD_mem hj), ?_, fun hc => ?_⟩, h4⟩
    · rcases Nat.eq_zero_or_pos j with e | e
      · exact .inl e
      · right
        rw [six_get hj, six_get (show j - 1 < l.length by omega)]
        exact (List.pairwise_iff_getElem.1 h2) _ _ _ _ (by omega)
    · rcases List.mem_append.1 hc with hc | hc
      · exact h3 _ (getD_mem hj) hc
      · obtain ⟨y, hy, e⟩ := List.mem_map.1 hc
        obtain ⟨i, hi, rfl⟩ := List.mem_take_iff_getElem.1 hy
        have := (List.pairwise_iff_getElem.1 h2) i j (by omega) hj (by omega)
        rw [six_get hj] at e
        omega
theorem okL_filter {is : Six → Bool} {ks ks' : List Int} {l : List Six} (h : okL is ks l = true) (hk : ∀ s ∈ ks', s ∈ ks) (q : Six → Bool) : okL is ks' (l.filter q) = true := by
  rw [okL_pw] at h ⊢
  obtain ⟨h1, h2, h3, h4⟩ := h
  refine ⟨fun x hx => h1 x (List.mem_filter.1 hx).1, List.Pairwise.sublist List.filter_sublist h2, fun x hx hc => h3 x (List.mem_filter.1 hx).1 (hk _ hc), Nat.le_trans (List.length_filter_le _ _) h4⟩
theorem srcs_filter {l : List Six} {q : Six → Bool} : ∀ s ∈ srcs (l.filter q), s ∈ srcs l := fun s hs => by
  obtain ⟨x, hx, e⟩ := List.mem_map.1 hs
  exact List.mem_map.2 ⟨x, (List.mem_filter.1 hx).1, e⟩
/-- A plot of which only what fits is left. -/
def partPl (q : Six → Bool) (p : Pl) : Pl := { p with loads := p.loads.filter q, stands := p.stands.filter q, spells := p.spells.filter q }
theorem part_ok {p : Pl} (h : okPl p = true) (q : Six → Bool) : okPl (partPl q p) = true := by
  obtain ⟨a, b, c, d, e⟩ := ok_pl_parts h
  refine ok_pl_of ⟨okL_filter a (fun _ h => h) q, okL_filter b srcs_filter q, okL_filter c (fun s hs => ?_) q, d, e⟩
  rcases List.mem_append.1 hs with hs | hs
  · exact List.mem_append_left _ (srcs_filter s hs)
  · exact List.mem_append_right _ (srcs_filter s hs)
theorem without_part (p : Pl) (s : Int) : withoutP p s = partPl (fun x => !isSrc s x) p := rfl
def nowP (p : Pl) (known : Int) : Pl := partPl (fun x => decide (x.e ≤ known)) p
theorem filter_cnt (known : Int) (l : List Six) : (l.filter fun x => decide (x.e ≤ known)).filter (fun x => cnt x known) = l.filter fun x => cnt x known := by
  rw [List.filter_filter]
  refine List.filter_congr fun x _ => ?_
  unfold cnt
  cases h : decide (x.e ≤ known) <;> simp
theorem now_alike (p : Pl) (known : Int) : Alike p (nowP p known) known known := ⟨rfl, rfl, rfl, filter_cnt _ _, filter_cnt _ _, filter_cnt _ _⟩
/-- All times of a plot: since a day, without an end. -/
def Plain0 (p : Pl) : Prop := (∀ x ∈ p.loads, 0 ≤ x.e ∧ x.f = 0) ∧ (∀ x ∈ p.stands, 0 ≤ x.e ∧ x.f = 0) ∧ ∀ x ∈ p.spells, 0 ≤ x.e ∧ x.f = 0
theorem mem_dates {l : List Six} {d : Int} (h : ∀ x ∈ l, 0 ≤ x.e ∧ x.f = 0) : d ∈ dates l ↔ ∃ x ∈ l, x.e = d := by
  unfold dates
  rw [List.mem_flatMap]
  constructor
  · rintro ⟨x, hx, hd⟩
    unfold datL at hd
    rw [if_pos (h x hx).2, List.mem_singleton] at hd
    exact ⟨x, hx, hd.symm⟩
  · rintro ⟨x, hx, rfl⟩
    refine ⟨x, hx, ?_⟩
    unfold datL
    rw [if_pos (h x hx).2]
    exact List.mem_singleton.2 rfl
theorem cnt_last {p : Pl} (hp : Plain0 p) {known : Int} {x : Six} (hx : x ∈ p.loads ∨ x ∈ p.stands ∨ x ∈ p.spells) (hl : lastD known (datesL p) ≠ -1) : cnt x (lastD known (datesL p)) = cnt x known := by
  obtain ⟨s1, s2⟩ := lastD_spec (known := known) (datesL p)
  have hdm : ∀ d, d ∈ datesL p ↔ (∃ y ∈ p.loads, y.e = d) ∨ (∃ y ∈ p.stands, y.e = d) ∨ ∃ y ∈ p.spells, y.e = d := fun d => by
    rw [mem_datesL]
    unfold datesAll
    rw [List.mem_append, List.mem_append, mem_dates hp.1, mem_dates hp.2.1, mem_dates hp.2.2, or_assoc]
  have h0 : ∀ d ∈ datesL p, 0 ≤ d := fun d hd => by
    rcases (hdm d).1 hd with ⟨y, hy, rfl⟩ | ⟨y, hy, rfl⟩ | ⟨y, hy, rfl⟩
    · exact (hp.1 y hy).1
    · exact (hp.2.1 y hy).1
    · exact (hp.2.2 y hy).1
  have hxf : x.f = 0 := by
    rcases hx with h | h | h
    · exact (hp.1 x h).2
    · exact (hp.2.1 x h).2
    · exact (hp.2.2 x h).2
  have hxe : x.e ∈ datesL p := by
    rw [hdm]
    rcases hx with h | h | h
    · exact .inl ⟨x, h, rfl⟩
    · exact .inr (.inl ⟨x, h, rfl⟩)
    · exact .inr (.inr ⟨x, h, rfl⟩)
  have s3 := s2 (datesL_up p) h0 x.e hxe
  unfold cnt
  rw [decide_eq_true hxf]
  simp only [Bool.true_or, Bool.and_true]
  rcases s1 with e | ⟨-, e⟩
  · exact absurd e hl
  · by_cases hk : x.e ≤ known
    · rw [decide_eq_true hk, decide_eq_true (s3 hk)]
    · rw [decide_eq_false hk, decide_eq_false (by omega)]
theorem last_alike {p : Pl} (hp : Plain0 p) {known : Int} (hl : lastD known (datesL p) ≠ -1) : Alike p p known (lastD known (datesL p)) :=
  ⟨rfl, rfl, rfl, List.filter_congr fun _ hx => cnt_last hp (.inl hx) hl, List.filter_congr fun _ hx => cnt_last hp (.inr (.inl hx)) hl, List.filter_congr fun _ hx => cnt_last hp (.inr (.inr hx)) hl⟩
theorem last_bd {p : Pl} (hp : Plain0 p) {known : Int} (hl : lastD known (datesL p) ≠ -1) : 0 ≤ lastD known (datesL p) ∧ lastD known (datesL p) ≤ known := by
  rcases (lastD_spec (known := known) (datesL p)).1 with e | ⟨e1, e2⟩
  · exact absurd e hl
  · refine ⟨?_, e2⟩
    rw [mem_datesL] at e1
    unfold datesAll at e1
    rw [List.mem_append, List.mem_append, mem_dates hp.1, mem_dates hp.2.1, mem_dates hp.2.2] at e1
    rcases e1 with (⟨y, hy, e⟩ | ⟨y, hy, e⟩) | ⟨y, hy, e⟩
    · rw [← e]; exact (hp.1 y hy).1
    · rw [← e]; exact (hp.2.1 y hy).1
    · rw [← e]; exact (hp.2.2 y hy).1
theorem made_plain (r : Raw) (right : Bool) : Plain0 (madeP r right) := by
  refine ⟨fun y hy => ?_, fun y hy => ?_, fun y hy => ?_⟩
  · obtain ⟨i, hi, rfl⟩ := List.getElem_of_mem hy
    have h := made_each (r := r) (j := i) (by have := made_len r; have : i < (madeLoads r).length := hi; omega)
    rw [← six_get hi]
    exact ⟨h.2.2.2.2.2.2.2.1, h.2.2.2.2.2.2.2.2.2.1⟩
  · obtain ⟨i, hi, rfl⟩ := List.getElem_of_mem hy
    rw [← six_get hi]
    have hl : i < min r.stands.length 6 := by have := stands_len r right (min r.stands.length 6); have hi' : i < (madeStandsK r right (min r.stands.length 6)).length := hi; omega
    have e : (madeP r right).stands.getD i z6 = mkStand r right i (r.stands.getD i z4) := stands_at hl
    rw [e]
    exact ⟨(stand_parts r right i (r.stands.getD i z4)).2.2.2.2.2.1, rfl⟩
  · obtain ⟨i, hi, rfl⟩ := List.getElem_of_mem hy
    rw [← six_get hi]
    have hl : i < min r.spells.length 4 := by have := spells_len r (min r.spells.length 4); have hi' : i < (madeSpellsK r (min r.spells.length 4)).length := hi; omega
    have e : (madeP r right).spells.getD i z6 = mkSpell i (r.spells.getD i z4) := spells_at hl
    rw [e]
    refine ⟨?_, rfl⟩
    unfold mkSpell
    dsimp only
    omega
theorem hour_in {p : Pl} {i : Nat} (hi : i < p.loads.length) : (p.loads.getD i z6).b ∈ hoursL p := by
  unfold hoursL
  rw [mem_compact, mem_srt]
  unfold colL
  exact List.mem_map.2 ⟨_, List.mem_filter.2 ⟨getD_mem hi, rfl⟩, rfl⟩
theorem moved_has {p : Pl} {source known : Int} (h : movedE p source known = 0) {i : Nat} (hi : i < p.loads.length) : hasI (movedL p source known) (p.loads.getD i z6).b = !sameAt p (withoutP p source) known (p.loads.getD i z6).b := by
  unfold movedL
  rw [if_pos h]
  cases hs : sameAt p (withoutP p source) known (p.loads.getD i z6).b with
  | false =>
    exact hasI_true (List.mem_filter.2 ⟨hour_in hi, by rw [hs]; rfl⟩)
  | true =>
    cases hh : hasI ((hoursL p).filter fun h => !sameAt p (withoutP p source) known h) (p.loads.getD i z6).b with
    | false => rfl
    | true =>
      have := (List.mem_filter.1 (hasI_iff.1 hh)).2
      rw [hs] at this
      cases this
theorem wio_moved {p : Pl} {source known : Int} (hok : okPl p = true) (h0 : 0 ≤ known ∧ known ≤ 4166) : wioE p source = movedE p source known ∧ (movedE p source known = 0 ∨ movedE p source known = 3) := by
  have f := first_of (p := p) (hours := []) hok (fun h hh => (by cases hh)) h0.1 h0.2
  unfold wioE movedE
  rw [if_pos hok, if_pos f]
  refine ⟨rfl, ?_⟩
  cases hasI (srcsAll p) source
  · exact .inr rfl
  · exact .inl rfl
end Go.Proofs.YtkoejeghihcmlaaGreat
