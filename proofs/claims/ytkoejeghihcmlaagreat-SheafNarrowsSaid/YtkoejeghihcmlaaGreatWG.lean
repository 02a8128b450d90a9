/- Plain: a plot with a stand more. -/
import Derived.Test.YtkoejeghihcmlaaGreatWF
namespace Go.Proofs.YtkoejeghihcmlaaGreat
open Go.RowKit Go.Shelf

def plusStand (p : Pl) (x : Six) : Pl := { p with stands := p.stands ++ [x] }
theorem okL_iff {is : Six → Bool} {ks : List Int} {l : List Six} : okL is ks l = true ↔ (∀ j, j < l.length → okAt is ks l j = true) ∧ l.length ≤ 60 := by
  unfold okL
  rw [Bool.and_eq_true, List.all_eq_true, decide_eq_true_eq]
  constructor
  · rintro ⟨h1, h2⟩; exact ⟨fun j hj => h1 j (List.mem_range.2 hj), h2⟩
  · rintro ⟨h1, h2⟩; exact ⟨fun j hj => h1 j (List.mem_range.1 hj), h2⟩
theorem okAt_iff {is : Six → Bool} {ks : List Int} {l : List Six} {j : Nat} : okAt is ks l j = true ↔ is (l.getD j z6) = true ∧ (j = 0 ∨ (l.getD (j - 1) z6).a < (l.getD j z6).a) ∧ (l.getD j z6).a ∉ ks ++ srcs (l.take j) := by
  constructor
  · exact okAt_parts
  · rintro ⟨h1, h2, h3⟩
    unfold okAt
    rw [Bool.and_eq_true, Bool.and_eq_true, Bool.or_eq_true, decide_eq_true_eq, decide_eq_true_eq, Bool.not_eq_true']
    refine ⟨⟨h1, h2⟩, ?_⟩
    cases h : (ks ++ srcs (l.take j)).contains (l.getD j z6).a with
    | false => rfl
    | true => exact absurd (List.contains_iff_mem.1 h) h3
theorem okL_snoc {is : Six → Bool} {ks : List Int} {l : List Six} {x : Six} (h : okL is ks l = true) (hx : is x = true) (hl : l.length < 60) (hm : ∀ y ∈ l, y.a < x.a) (hk : x.a ∉ ks) : okL is ks (l ++ [x]) = true := by
  rw [okL_iff] at h ⊢
  refine ⟨fun j hj => ?_, by rw [List.length_append]; simp; omega⟩
  rw [List.length_append, List.length_singleton] at hj
  rcases Nat.lt_or_ge j l.length with c | c
  · have h1 := okAt_iff.1 (h.1 j c)
    rw [okAt_iff, getD_snoc_lt c, List.take_append_of_le_length (by omega)]
    refine ⟨h1.1, ?_, h1.2.2⟩
    rcases h1.2.1 with e | e
    · exact .inl e
    · right
      rw [getD_snoc_lt (by omega)]
      exact e
  · have e : j = l.length := by omega
    subst e
    rw [okAt_iff, getD_snoc_eq rfl, List.take_append_of_le_length (by omega), List.take_of_length_le (Nat.le_refl _)]
    refine ⟨hx, ?_, ?_⟩
    · by_cases hz : l.length = 0
      · exact .inl hz
      · right
        rw [getD_snoc_lt (by omega)]
        exact hm _ (getD_mem (by omega))
    · rw [List.mem_append]
      rintro (c | c)
      · exact hk c
      · unfold srcs at c
        obtain ⟨y, hy, e⟩ := List.mem_map.1 c
        have := hm y hy
        omega
theorem okL_more {is : Six → Bool} {ks : List Int} {l : List Six} {s : Int} (h : okL is ks l = true) (hs : s ∉ srcs l) : okL is (ks ++ [s]) l = true := by
  rw [okL_iff] at h ⊢
  refine ⟨fun j hj => ?_, h.2⟩
  have h1 := okAt_iff.1 (h.1 j hj)
  rw [okAt_iff]
  refine ⟨h1.1, h1.2.1, fun c => ?_⟩
  rw [List.mem_append, List.mem_append] at c
  rcases c with (c | c) | c
  · exact h1.2.2 (List.mem_append_left _ c)
  · apply hs
    rw [← List.mem_singleton.1 c]
    exact List.mem_map.2 ⟨_, getD_mem hj, rfl⟩
  · exact h1.2.2 (List.mem_append_right _ c)
theorem ok_pl_parts {p : Pl} (h : okPl p = true) : okL isLoad [] p.loads = true ∧ okL isLoad (srcs p.loads) p.stands = true ∧ okL isSpell (srcs p.loads ++ srcs p.stands) p.spells = true ∧ okSh p.lo p.hi = true ∧ rng p.geese 0 60 = true := by
  unfold okPl at h
  rw [Bool.and_eq_true, Bool.and_eq_true, Bool.and_eq_true, Bool.and_eq_true] at h
  exact ⟨h.1.1.1.1, h.1.1.1.2, h.1.1.2, h.1.2, h.2⟩
theorem ok_pl_of {p : Pl} (h : okL isLoad [] p.loads = true ∧ okL isLoad (srcs p.loads) p.stands = true ∧ okL isSpell (srcs p.loads ++ srcs p.stands) p.spells = true ∧ okSh p.lo p.hi = true ∧ rng p.geese 0 60 = true) : okPl p = true := by
  unfold okPl
  rw [h.1, h.2.1, h.2.2.1, h.2.2.2.1, h.2.2.2.2]; rfl
theorem plus_ok {p : Pl} {x : Six} (h : okPl p = true) (hx : isLoad x = true) (hl : p.stands.length < 60) (hm : ∀ y ∈ p.stands, y.a < x.a) (h1 : x.a ∉ srcs p.loads) (h3 : x.a ∉ srcs p.spells) : okPl (plusStand p x) = true := by
  obtain ⟨a, b, c, d, e⟩ := ok_pl_parts h
  refine ok_pl_of ⟨a, okL_snoc b hx hl hm h1, ?_, d, e⟩
  show okL isSpell (srcs p.loads ++ srcs (p.stands ++ [x])) p.spells = true
  have : srcs p.loads ++ srcs (p.stands ++ [x]) = (srcs p.loads ++ srcs p.stands) ++ [x.a] := by unfold srcs; rw [List.map_append, List.append_assoc]; rfl
  rw [this]
  exact okL_more c h3
theorem plus_look (p : Pl) (x : Six) (known : Int) (m : Int → Bool) : lookL (plusStand p x) known m = lookL p known m := rfl
theorem plus_tru {p : Pl} {x : Six} {known : Int} {s : List Int} : Tru (lookL (plusStand p x) known every) (lookS (plusStand p x) known every) s ↔
    Tru (lookL p known every) (lookS p known every) s ∧ (cnt x known = true → x.c ≤ s.getD (after (lookL p known every) x.b) 0 ∧ s.getD (after (lookL p known every) x.b) 0 ≤ x.d) := by
  rw [look_tru, look_tru]
  have e : stood0 (plusStand p x) (lookL (plusStand p x) known every).length = stood0 p (lookL p known every).length := rfl
  rw [e, plus_look]
  constructor
  · rintro ⟨h1, h2⟩
    refine ⟨⟨h1, fun y hy hc => h2 y (List.mem_append_left _ hy) hc⟩, fun hc => h2 x (List.mem_append_right _ (List.mem_singleton.2 rfl)) (by rw [hc]; rfl)⟩
  · rintro ⟨⟨h1, h2⟩, h3⟩
    refine ⟨h1, fun y hy hc => ?_⟩
    rcases List.mem_append.1 hy with hy | hy
    · exact h2 y hy hc
    · rw [List.mem_singleton.1 hy] at hc ⊢
      exact h3 (by rw [Bool.and_eq_true] at hc; exact hc.1)
theorem sound_of_tru {p : Pl} (h : okPl p = true) {known : Int} {s : List Int} (ht : Tru (lookL p known every) (lookS p known every) s) : sound (lookS p known every) = true := by
  have := settle_tru (row_len p known every _ _ _) ht
  exact (sound_by h known every).2 ⟨s, truBy_iff.2 this⟩
/-- A plot that is narrower: the same loads, no more true numbers. -/
structure Nrw (p q : Pl) (known : Int) : Prop where
  ls : lookL q known every = lookL p known every
  okp : okPl p = true
  okq : okPl q = true
  sp : sound (lookS p known every) = true
  sq : sound (lookS q known every) = true
  le : ∀ s, Tru (lookL q known every) (lookS q known every) s → Tru (lookL p known every) (lookS p known every) s
theorem Nrw.bd {p q : Pl} {known : Int} (h : Nrw p q known) {i : Nat} (hi : i ≤ (lookL p known every).length) : Lo (lookS p known every) i ≤ Lo (lookS q known every) i ∧ Hi (lookS q known every) i ≤ Hi (lookS p known every) i := by
  have rq := look_rw h.okq h.sq
  have hs := rq.snd i (by rw [h.ls]; exact hi)
  obtain ⟨s, t1, e1⟩ := rq.attain (i := i) (v := Lo (lookS q known every) i) (by rw [h.ls]; exact hi) (Int.le_refl _) hs
  obtain ⟨s', t2, e2⟩ := rq.attain (i := i) (v := Hi (lookS q known every) i) (by rw [h.ls]; exact hi) hs (Int.le_refl _)
  have a := (h.le s t1).2.2 i hi
  have b := (h.le s' t2).2.2 i hi
  omega
theorem Nrw.stood {p q : Pl} {known hour : Int} (h : Nrw p q known) (hp : askE p [hour] known = 0) (hq : askE q [hour] known = 0) : (stoodR p hour known).lo ≤ (stoodR q hour known).lo ∧ (stoodR q hour known).hi ≤ (stoodR p hour known).hi := by
  rw [stoodR_of hp, stoodR_of hq, h.ls]
  exact h.bd (after_len _ _)
theorem Nrw.cart {p q : Pl} {known : Int} (h : Nrw p q known) {i : Nat} (hi : i < (lookL p known every).length) :
    (cartV (lookL p known every) (lookS p known every) i).lo ≤ (cartV (lookL q known every) (lookS q known every) i).lo ∧ (cartV (lookL q known every) (lookS q known every) i).hi ≤ (cartV (lookL p known every) (lookS p known every) i).hi := by
  have a := h.bd (i := i) (by omega)
  have b := h.bd (i := i + 1) (by omega)
  rw [h.ls]
  unfold cartV
  dsimp only
  omega
theorem Nrw.froms {p q : Pl} {known : Int} (h : Nrw p q known) : ∀ f ∈ fromsP q known, f ∈ fromsP p known := fun f hf => by
  obtain ⟨s, t, e⟩ := (look_rw h.okq h.sq).mem_froms.1 hf
  refine (look_rw h.okp h.sp).mem_froms.2 ⟨s, h.le s t, ?_⟩
  rw [← e, h.ls]
theorem Nrw.open_ {p q : Pl} {known hour : Int} (h : Nrw p q known) (hp : askE p [hour] known = 0) (hq : askE q [hour] known = 0) (hs : q.spells = p.spells) (hg : q.geese = p.geese) (hm : openA p hour known ≠ 2) : openA p hour known = openA q hour known := by
  have ho : ∀ f, openB q known hour f = openB p known hour f := fun f => by unfold openB shutB; rw [hs, hg]
  have hne := fromsP_ne hq
  obtain ⟨f, hf⟩ := List.exists_mem_of_ne_nil _ hne
  have hfp := h.froms f hf
  unfold openA at hm ⊢
  rw [if_pos hp] at hm ⊢
  rw [if_pos hq]
  have ev : ans ((fromsP p known).any (openB p known hour)) ((fromsP p known).any fun f => !openB p known hour f) = 0 ∨ ans ((fromsP p known).any (openB p known hour)) ((fromsP p known).any fun f => !openB p known hour f) = 1 := by
    generalize (fromsP p known).any (openB p known hour) = a at hm ⊢
    generalize ((fromsP p known).any fun f => !openB p known hour f) = b at hm ⊢
    revert hm
    cases a <;> cases b <;> decide
  rcases ev with e | e
  · rw [e]
    obtain ⟨-, e2⟩ := ans_no.1 e
    rw [List.any_eq_false] at e2
    symm
    refine ans_no.2 ⟨?_, ?_⟩
    · rw [List.any_eq_true]
      refine ⟨f, hf, ?_⟩
      have := e2 f hfp
      rw [ho]
      simpa using this
    · rw [List.any_eq_false]
      intro g hg'
      rw [ho]
      exact e2 g (h.froms g hg')
  · rw [e]
    have e2 := ans_yes.1 e
    rw [List.any_eq_false] at e2
    symm
    refine ans_yes.2 ?_
    rw [List.any_eq_false]
    intro g hg'
    rw [ho]
    exact e2 g (h.froms g hg')
/-- The stand of the law. -/
def newStand (at_ lo hi : Int) : Six := ⟨99, at_, lo, hi, 0, 0⟩
def newQ (r : Raw) (at_ lo hi : Int) : Pl := plusStand (madeP r true) (newStand at_ lo hi)
theorem made_src {r : Raw} {right : Bool} : (∀ y ∈ (madeP r right).loads, 1 ≤ y.a ∧ y.a ≤ 6) ∧ (∀ y ∈ (madeP r right).stands, 21 ≤ y.a ∧ y.a ≤ 26) ∧ (∀ y ∈ (madeP r right).spells, 41 ≤ y.a ∧ y.a ≤ 44) := by
  refine ⟨fun y hy => ?_, fun y hy => ?_, fun y hy => ?_⟩
  · obtain ⟨i, hi, rfl⟩ := List.getElem_of_mem hy
    have h := made_each (r := r) (j := i) (by have := made_len r; have : i < (madeLoads r).length := hi; omega)
    rw [← six_get hi]
    have h6 := manyL_le r
    have hl := made_len r
    have hi' : i < (madeLoads r).length := hi
    have e : (madeP r right).loads = madeLoads r := rfl
    rw [e]
    omega
  · obtain ⟨i, hi, rfl⟩ := List.getElem_of_mem hy
    rw [← six_get hi]
    have hl : i < min r.stands.length 6 := by have := stands_len r right (min r.stands.length 6); have hi' : i < (madeStandsK r right (min r.stands.length 6)).length := hi; omega
    have e : (madeP r right).stands.getD i z6 = mkStand r right i (r.stands.getD i z4) := stands_at hl
    rw [e]
    unfold mkStand
    dsimp only
    omega
  · obtain ⟨i, hi, rfl⟩ := List.getElem_of_mem hy
    rw [← six_get hi]
    have hl : i < min r.spells.length 4 := by have := spells_len r (min r.spells.length 4); have hi' : i < (madeSpellsK r (min r.spells.length 4)).length := hi; omega
    have e : (madeP r right).spells.getD i z6 = mkSpell i (r.spells.getD i z4) := spells_at hl
    rw [e]
    unfold mkSpell
    dsimp only
    omega
theorem made_slen (r : Raw) (right : Bool) : (madeP r right).stands.length ≤ 6 := by
  have := stands_len r right (min r.stands.length 6)
  show (madeStandsK r right (min r.stands.length 6)).length ≤ 6
  omega
theorem newQ_ok {r : Raw} {at_ lo hi : Int} (h1 : 0 ≤ at_ ∧ at_ ≤ 99999) (h2 : 0 ≤ lo ∧ lo ≤ hi ∧ hi ≤ 10000) : okPl (newQ r at_ lo hi) = true := by
  obtain ⟨a, b, c⟩ := made_src (r := r) (right := true)
  have hx : isLoad (newStand at_ lo hi) = true := isLoad_of (x := newStand at_ lo hi) (by show 1 ≤ (99 : Int) ∧ (99 : Int) ≤ 99999; omega) h1 h2 (by show 0 ≤ (0 : Int) ∧ (0 : Int) ≤ 4166; omega) rfl
  refine plus_ok (made_ok r true) hx (by have := made_slen r true; omega) (fun y hy => ?_) (fun hm => ?_) (fun hm => ?_)
  · have := b y hy
    show y.a < 99
    omega
  · obtain ⟨y, hy, e⟩ := List.mem_map.1 hm
    have := a y hy
    have e' : y.a = 99 := e
    omega
  · obtain ⟨y, hy, e⟩ := List.mem_map.1 hm
    have := c y hy
    have e' : y.a = 99 := e
    omega
theorem newQ_tru {r : Raw} {at_ lo hi : Int} (h : lo ≤ (leftS r).getD (after (madeLoads r) at_) 0 ∧ (leftS r).getD (after (madeLoads r) at_) 0 ≤ hi) : Tru (lookL (newQ r at_ lo hi) 20 every) (lookS (newQ r at_ lo hi) 20 every) (leftS r) := by
  refine plus_tru.2 ⟨made_tru r, fun _ => ?_⟩
  rw [made_look20 r true (by omega)]
  exact h
theorem newQ_nrw {r : Raw} {at_ lo hi : Int} (h1 : 0 ≤ at_ ∧ at_ ≤ 99999) (h2 : 0 ≤ lo ∧ lo ≤ hi ∧ hi ≤ 10000) (h : lo ≤ (leftS r).getD (after (madeLoads r) at_) 0 ∧ (leftS r).getD (after (madeLoads r) at_) 0 ≤ hi) : Nrw (madeP r true) (newQ r at_ lo hi) 20 :=
  ⟨rfl, made_ok r true, newQ_ok h1 h2, made_sound r, sound_of_tru (newQ_ok h1 h2) (newQ_tru h), fun _ hs => (plus_tru.1 hs).1⟩
theorem newQ_truth {r : Raw} {at_ lo hi : Int} (h1 : 0 ≤ at_ ∧ at_ ≤ 99999) (h2 : 0 ≤ lo ∧ lo ≤ hi ∧ hi ≤ 10000) (h : lo ≤ (leftS r).getD (after (madeLoads r) at_) 0 ∧ (leftS r).getD (after (madeLoads r) at_) 0 ≤ hi) : truthB (newQ r at_ lo hi) 20 (r.sown % 200) (madeNums r) = true := by
  have e := made_look20 r true (known := 20) (by omega)
  refine (truth_iff (newQ_ok h1 h2)).2 ⟨by rw [made_nlen]; show _ = (lookL (madeP r true) 20 every).length; rw [e, made_len], ?_⟩
  have : truS (newQ r at_ lo hi) 20 (r.sown % 200) (madeNums r) = leftS r := made_truS r true
  rw [this]
  exact truBy_iff.2 (settle_tru (row_len _ _ _ _ _ _) (newQ_tru h))
end Go.Proofs.YtkoejeghihcmlaaGreat
