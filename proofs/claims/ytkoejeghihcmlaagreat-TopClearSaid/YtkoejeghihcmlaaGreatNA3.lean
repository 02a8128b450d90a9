/- Part of the proof: ME, MF, WJ, WI, TH, MG, TY. -/
import Derived.Shelf.SlSortFuncK.RowK2
import Derived.Ground.NamesProg
import Derived.Shelf.Lay
import Derived.Shelf.Slices.In.SortNone
import Derived.Shelf.Sort.Plain
import Derived.Sort.OwnSortedInts
import Derived.Lib.OwnBridge
import Derived.Ground.Names2Prog
import Derived.Shelf.Slices.Delete
import Derived.Shelf.Slices.CompactI
import Derived.Test.YtkoejeghihcmlaaGreatNA1
import Derived.Test.YtkoejeghihcmlaaGreatNA2
namespace Go.Proofs.YtkoejeghihcmlaaGreat
open Go.RowKit Go.Shelf
/-- Whether something may have stood after some loads, when nothing stood after more of them. -/
def sbS (ls : List Six) (st : List Rg) (before many : Nat) : Bool := decide (0 < Hi (settle ls (nar st many zR)) before)
def frOk (ls : List Six) (st : List Rg) (before : Option Nat) (many : Nat) : Bool :=
 decide (Lo st many = 0) && (match before with | none => true | some b => sbS ls st b many)
def fromsG (ls : List Six) (st : List Rg) : Option Nat → List (Nat × Int) → List Int
 | _, [] => []
 | before, x :: l => (if frOk ls st before x.1 = true then [x.2] else []) ++ fromsG ls st (some x.1) l
/-- The hours from which a field may be clear, rising. -/
def fromsL (ls : List Six) (st : List Rg) : List Int := fromsG ls st none (endsL ls) ++ (if 0 < Hi st ls.length then [100000] else [])
/-- The last count. -/
def lastM (l : List (Nat × Int)) : Option Nat := l.getLast?.map (·.1)
theorem lastM_snoc (l : List (Nat × Int)) (x : Nat × Int) : lastM (l ++ [x]) = some x.1 := by unfold lastM; rw [List.getLast?_concat]; rfl
theorem fromsG_append (ls : List Six) (st : List Rg) : ∀ (l l2 : List (Nat × Int)) (b : Option Nat), fromsG ls st b (l ++ l2) = fromsG ls st b l ++ fromsG ls st ((lastM l).or b) l2
 | [], l2, b => by cases b <;> rfl
 | x :: l, l2, b => by
  have e : (lastM (x :: l)).or b = (lastM l).or (some x.1) := by
   cases l with
   | nil => rfl
   | cons y l =>
    unfold lastM
    rw [List.getLast?_cons_cons]
    cases h : (y :: l).getLast? with
    | none => rw [List.getLast?_eq_none_iff] at h; cases h
    | some z => rfl
  rw [List.cons_append]
  show (if frOk ls st b x.1 = true then [x.2] else []) ++ fromsG ls st (some x.1) (l ++ l2) = _
  rw [fromsG_append ls st l l2 (some x.1), e, ← List.append_assoc]
  rfl
theorem fromsG_snoc (ls : List Six) (st : List Rg) (l : List (Nat × Int)) (x : Nat × Int) : fromsG ls st none (l ++ [x]) = fromsG ls st none l ++ (if frOk ls st (lastM l) x.1 = true then [x.2] else []) := by
 rw [fromsG_append]
 show _ ++ ((if frOk ls st ((lastM l).or none) x.1 = true then [x.2] else []) ++ []) = _
 rw [List.append_nil, Option.or_none]
theorem mem_fromsG {ls : List Six} {st : List Rg} {f : Int} : ∀ {l : List (Nat × Int)} {b : Option Nat}, f ∈ fromsG ls st b l ↔ ∃ l1 x l2, l = l1 ++ x :: l2 ∧ frOk ls st ((lastM l1).or b) x.1 = true ∧ x.2 = f
 | [], b => by
  constructor
  ·intro h; cases h
  ·rintro ⟨l1, x, l2, h, -⟩
   cases l1 <;> cases h
 | y :: l, b => by
  show f ∈ (if frOk ls st b y.1 = true then [y.2] else []) ++ fromsG ls st (some y.1) l ↔ _
  rw [List.mem_append, mem_fromsG (l := l)]
  have e : ∀ l1 : List (Nat × Int), (lastM (y :: l1)).or b = (lastM l1).or (some y.1) := fun l1 => by
   cases l1 with
   | nil => rfl
   | cons z l1 =>
    unfold lastM
    rw [List.getLast?_cons_cons]
    cases h : (z :: l1).getLast? with
    | none => rw [List.getLast?_eq_none_iff] at h; cases h
    | some z => rfl
  constructor
  ·rintro (h | ⟨l1, x, l2, rfl, h2, h3⟩)
   ·by_cases hf : frOk ls st b y.1 = true
    ·rw [if_pos hf] at h
     exact ⟨[], y, l, rfl, by rw [show lastM ([] : List (Nat × Int)) = none from rfl, Option.none_or]; exact hf, (List.mem_singleton.1 h).symm⟩
    ·rw [if_neg hf] at h; cases h
   ·exact ⟨y :: l1, x, l2, rfl, by rw [e]; exact h2, h3⟩
  ·rintro ⟨l1, x, l2, h1, h2, h3⟩
   cases l1 with
   | nil =>
    rw [List.nil_append] at h1
    cases h1
    rw [show lastM ([] : List (Nat × Int)) = none from rfl, Option.none_or] at h2
    exact .inl (by rw [if_pos h2, h3]; exact List.mem_singleton.2 rfl)
   | cons z l1 =>
    rw [List.cons_append] at h1
    injection h1 with h4 h5
    subst h4
    rw [e] at h2
    exact .inr ⟨l1, x, l2, h5, h2, h3⟩
/-- What stood never grows. -/
theorem tru_anti {ls : List Six} {st : List Rg} {s : List Int} (hw : ∀ i, i < ls.length → 0 ≤ Ls ls i) (h : Tru ls st s) : ∀ {i j : Nat}, i ≤ j → j ≤ ls.length → s.getD j 0 ≤ s.getD i 0
 | i, 0, h1, _ => by
  have : i = 0 := by omega
  subst this; exact Int.le_refl _
 | i, j + 1, h1, h2 => by
  rcases Nat.lt_or_ge j i with h3 | h3
  ·have : i = j + 1 := by omega
   subst this; exact Int.le_refl _
  ·have h4 := tru_anti hw h h3 (by omega)
   have h5 := h.2.1 j (by omega)
   have h6 := hw j (by omega)
   omega
/-- A row by which there are true numbers, its ranges passed on. -/
structure Rw (ls : List Six) (st : List Rg) : Prop where
 len : st.length = ls.length + 1
 wid : ∀ i, i < ls.length → 0 ≤ Ls ls i ∧ Ls ls i ≤ Gr ls i
 arc : ∀ i, i < ls.length → Arc ls st i
 snd : ∀ i, i ≤ ls.length → Lo st i ≤ Hi st i
 pos : ∀ i, i ≤ ls.length → 0 ≤ Lo st i
 hrs : ∀ x ∈ ls, 0 ≤ x.b ∧ x.b ≤ 99999
 up : Up ls
theorem Rw.attain {ls : List Six} {st : List Rg} (h : Rw ls st) {i : Nat} {v : Int} (hi : i ≤ ls.length) (h1 : Lo st i ≤ v) (h2 : v ≤ Hi st i) : ∃ s, Tru ls st s ∧ s.getD i 0 = v :=
 ⟨_, pick_tru h.arc (fun i hi => (h.wid i hi).2) h.snd hi h1 h2⟩
theorem Rw.some {ls : List Six} {st : List Rg} (h : Rw ls st) : ∃ s, Tru ls st s := by
 obtain ⟨s, hs, -⟩ := h.attain (i := 0) (Nat.zero_le _) (Int.le_refl _) (h.snd 0 (Nat.zero_le _))
 exact ⟨s, hs⟩
theorem Rw.low {ls : List Six} {st : List Rg} {s : List Int} (h : Rw ls st) (ht : Tru ls st s) {i : Nat} (hi : i ≤ ls.length) : 0 ≤ s.getD i 0 := Int.le_trans (h.pos i hi) (ht.2.2 i hi).1
/-- The hour from which a field is clear by true numbers. -/
def clrFrom (ls : List Six) (s : List Int) : Int := match (endsL ls).find? (fun x => decide (s.getD x.1 0 = 0)) with | some x => x.2 | none => 100000
theorem mem_ends {ls : List Six} {x : Nat × Int} : x ∈ endsL ls ↔ x = (0, 0) ∨ ∃ i, i < ls.length ∧ lastB ls i = true ∧ x = (i + 1, (ls.getD i z6).b) := by
 unfold endsL endsOf
 rw [List.mem_cons, List.mem_map]
 constructor
 ·rintro (h | ⟨i, h1, rfl⟩)
  ·exact .inl h
  ·rw [List.mem_filter, List.mem_range] at h1
   exact .inr ⟨i, h1.1, h1.2, rfl⟩
 ·rintro (h | ⟨i, h1, h2, rfl⟩)
  ·exact .inl h
  ·exact .inr ⟨i, List.mem_filter.2 ⟨List.mem_range.2 h1, h2⟩, rfl⟩
theorem up_get {ls : List Six} (h : Up ls) {i j : Nat} (hij : i ≤ j) (hj : j < ls.length) : (ls.getD i z6).b ≤ (ls.getD j z6).b := by
 rcases Nat.lt_or_ge i j with h1 | h1
 ·have := List.pairwise_iff_getElem.1 h i j (by omega) hj h1
  rw [List.getD_eq_getElem?_getD, List.getD_eq_getElem?_getD, List.getElem?_eq_getElem (by omega), List.getElem?_eq_getElem hj]
  exact this
 ·have : i = j := by omega
  subst this; exact Int.le_refl _
theorem getD_mem' {ls : List Six} {i : Nat} (hi : i < ls.length) : ls.getD i z6 ∈ ls := by
 rw [List.getD_eq_getElem?_getD, List.getElem?_eq_getElem hi]; exact List.getElem_mem hi
theorem ends_sorted {ls : List Six} (h : Up ls) (h0 : ∀ x ∈ ls, 0 ≤ x.b) : (endsL ls).Pairwise fun x y => x.1 < y.1 ∧ x.2 ≤ y.2 := by
 unfold endsL endsOf
 refine List.pairwise_cons.2 ⟨fun y hy => ?_, ?_⟩
 ·obtain ⟨i, hi, rfl⟩ := List.mem_map.1 hy
  have := List.mem_range.1 (List.mem_filter.1 hi).1
  exact ⟨Nat.succ_pos _, h0 _ (getD_mem' this)⟩
 ·rw [List.pairwise_map]
  refine List.Pairwise.filter _ ?_
  rw [List.pairwise_iff_getElem]
  intro i j hi hj hij
  rw [List.length_range] at hi hj
  rw [List.getElem_range, List.getElem_range]
  exact ⟨by omega, up_get h (by omega) hj⟩
theorem ends_le {ls : List Six} {x : Nat × Int} (h : x ∈ endsL ls) : x.1 ≤ ls.length := by
 rcases mem_ends.1 h with rfl | ⟨i, hi, -, rfl⟩
 ·exact Nat.zero_le _
 ·exact hi
theorem ends_hour {ls : List Six} (h0 : ∀ x ∈ ls, 0 ≤ x.b ∧ x.b ≤ 99999) {x : Nat × Int} (h : x ∈ endsL ls) : 0 ≤ x.2 ∧ x.2 ≤ 99999 := by
 rcases mem_ends.1 h with rfl | ⟨i, hi, -, rfl⟩
 ·exact ⟨Int.le_refl _, by decide⟩
 ·exact h0 _ (getD_mem' hi)
theorem ends_last (ls : List Six) : ∃ x ∈ endsL ls, x.1 = ls.length := by
 rcases Nat.eq_zero_or_pos ls.length with h | h
 ·exact ⟨(0, 0), mem_ends.2 (.inl rfl), h.symm⟩
 ·refine ⟨(ls.length - 1 + 1, (ls.getD (ls.length - 1) z6).b), mem_ends.2 (.inr ⟨_, by omega, ?_, rfl⟩), by show ls.length - 1 + 1 = _; omega⟩
  unfold lastB
  rw [decide_eq_true (by omega : ls.length - 1 + 1 = ls.length)]; rfl
theorem after_spec {h : Int} : ∀ {ls : List Six}, Up ls → ∀ i, i < ls.length → ((ls.getD i z6).b ≤ h ↔ i < after ls h)
 | [], _, i, hi => absurd hi (by simp)
 | x :: l, hu, i, hi => by
  have h1 := List.pairwise_cons.1 hu
  have hl := after_spec (h := h) h1.2
  have ea : after (x :: l) h = after l h + if x.b ≤ h then 1 else 0 := by
   unfold after
   rw [List.countP_cons]
   by_cases hx : x.b ≤ h <;> simp [hx]
  have hno : ¬ x.b ≤ h → after l h = 0 := fun hx => by
   unfold after
   rw [List.countP_eq_zero]
   intro y hy hd
   have := h1.1 y hy
   have := of_decide_eq_true hd
   omega
  rw [ea]
  cases i with
  | zero =>
   show x.b ≤ h ↔ _
   by_cases hx : x.b ≤ h
   ·rw [if_pos hx]; exact ⟨fun _ => Nat.succ_pos _, fun _ => hx⟩
   ·rw [if_neg hx, hno hx]; exact ⟨fun h => absurd h hx, fun h => absurd h (by omega)⟩
  | succ i =>
   show (l.getD i z6).b ≤ h ↔ _
   have hi' : i < l.length := by simpa using hi
   rw [hl i hi']
   by_cases hx : x.b ≤ h
   ·rw [if_pos hx]; omega
   ·rw [if_neg hx, hno hx]; omega
theorem after_len (ls : List Six) (h : Int) : after ls h ≤ ls.length := List.countP_le_length
theorem after_mono (ls : List Six) {h h' : Int} (hh : h ≤ h') : after ls h ≤ after ls h' := by
 unfold after
 refine List.countP_mono_left fun x _ hx => ?_
 have := of_decide_eq_true hx
 exact decide_eq_true (by omega)
/-- An end is after its hour, or at the start. -/
theorem ends_after {ls : List Six} (hu : Up ls) {x : Nat × Int} (h : x ∈ endsL ls) : x.1 ≤ after ls x.2 := by
 rcases mem_ends.1 h with rfl | ⟨i, hi, -, rfl⟩
 ·exact Nat.zero_le _
 ·exact (after_spec hu i hi).1 (Int.le_refl _)
theorem after_end {ls : List Six} (hu : Up ls) {h : Int} (hh : 0 ≤ h) : ∃ x ∈ endsL ls, x.1 = after ls h ∧ x.2 ≤ h := by
 rcases Nat.eq_zero_or_pos (after ls h) with h0 | h0
 ·exact ⟨(0, 0), mem_ends.2 (.inl rfl), h0.symm, hh⟩
 ·have hl := after_len ls h
  obtain ⟨i, hi⟩ : ∃ i, after ls h = i + 1 := ⟨after ls h - 1, by omega⟩
  refine ⟨(i + 1, (ls.getD i z6).b), mem_ends.2 (.inr ⟨i, by omega, ?_, rfl⟩), hi.symm, (after_spec hu i (by omega)).2 (by omega)⟩
  unfold lastB
  by_cases hn : i + 1 = ls.length
  ·rw [decide_eq_true hn]; rfl
  ·have h1 := (after_spec (h := h) hu i (by omega)).2 (by omega)
   have h2 : ¬ (ls.getD (i + 1) z6).b ≤ h := fun hc => by have := (after_spec hu (i + 1) (by omega)).1 hc; omega
   rw [decide_eq_true (by omega : (ls.getD i z6).b < (ls.getD (i + 1) z6).b), Bool.or_true]
theorem clr_some {ls : List Six} {s : List Int} {x : Nat × Int} {l1 l2 : List (Nat × Int)} (h : endsL ls = l1 ++ x :: l2) (hx : s.getD x.1 0 = 0) (h1 : ∀ y ∈ l1, s.getD y.1 0 ≠ 0) : clrFrom ls s = x.2 := by
 unfold clrFrom
 have : (endsL ls).find? (fun x => decide (s.getD x.1 0 = 0)) = Option.some x := by
  rw [List.find?_eq_some_iff_append]
  exact ⟨decide_eq_true hx, l1, l2, h, fun y hy => by rw [decide_eq_false (h1 y hy)]; rfl⟩
 rw [this]
theorem clr_cases (ls : List Six) (s : List Int) : (∃ l1 x l2, endsL ls = l1 ++ x :: l2 ∧ s.getD x.1 0 = 0 ∧ (∀ y ∈ l1, s.getD y.1 0 ≠ 0) ∧ clrFrom ls s = x.2) ∨ ((∀ y ∈ endsL ls, s.getD y.1 0 ≠ 0) ∧ clrFrom ls s = 100000) := by
 cases h : (endsL ls).find? (fun x => decide (s.getD x.1 0 = 0)) with
 | none =>
  refine .inr ⟨fun y hy => ?_, by unfold clrFrom; rw [h]⟩
  rw [List.find?_eq_none] at h
  exact fun e => h y hy (decide_eq_true e)
 | some x =>
  have hc : clrFrom ls s = x.2 := by unfold clrFrom; rw [h]
  rw [List.find?_eq_some_iff_append] at h
  obtain ⟨h1, l1, l2, h2, h3⟩ := h
  refine .inl ⟨l1, x, l2, h2, of_decide_eq_true h1, fun y hy e => ?_, hc⟩
  have := h3 y hy
  rw [decide_eq_true e] at this; cases this
/-- A field is clear at an hour by true numbers just from the hour on from which it is. -/
theorem Rw.clear_iff {ls : List Six} {st : List Rg} {s : List Int} (h : Rw ls st) (ht : Tru ls st s) {hour : Int} (h0 : 0 ≤ hour) (h1 : hour ≤ 99999) : s.getD (after ls hour) 0 = 0 ↔ clrFrom ls s ≤ hour := by
 have hanti : ∀ {i j : Nat}, i ≤ j → j ≤ ls.length → s.getD j 0 ≤ s.getD i 0 := fun hij hj => tru_anti (fun i hi => (h.wid i hi).1) ht hij hj
 constructor
 ·intro hz
  obtain ⟨x, hx, e1, e2⟩ := after_end h.up h0 (ls := ls)
  rcases clr_cases ls s with ⟨l1, y, l2, e, hy, hl, hc⟩ | ⟨hn, -⟩
  ·rw [hc]
   have hs := ends_sorted h.up (fun x hx => (h.hrs x hx).1)
   rw [e] at hs hx
   rcases List.mem_append.1 hx with hx | hx
   ·exact absurd (by rw [e1]; exact hz) (hl x hx)
   ·rcases List.mem_cons.1 hx with rfl | hx
    ·exact e2
    ·have := (List.pairwise_cons.1 (List.pairwise_append.1 hs).2.1).1 x hx
     omega
  ·exact absurd (by rw [e1]; exact hz) (hn x hx)
 ·intro hc
  rcases clr_cases ls s with ⟨l1, y, l2, e, hy, hl, hc2⟩ | ⟨hn, hc2⟩
  ·rw [hc2] at hc
   have hm : y ∈ endsL ls := by rw [e]; simp
   have h2 := ends_after h.up hm
   have h3 := after_mono ls hc
   have h4 := hanti (Nat.le_trans h2 h3) (after_len ls hour)
   have h5 := h.low ht (after_len ls hour)
   omega
  ·omega
theorem Rw.mem_froms {ls : List Six} {st : List Rg} (h : Rw ls st) {f : Int} : f ∈ fromsL ls st ↔ ∃ s, Tru ls st s ∧ clrFrom ls s = f := by
 have hw0 : ∀ i, i < ls.length → 0 ≤ Ls ls i := fun i hi => (h.wid i hi).1
 have hw1 : ∀ i, i < ls.length → Ls ls i ≤ Gr ls i := fun i hi => (h.wid i hi).2
 have hsort := ends_sorted h.up (fun x hx => (h.hrs x hx).1)
 unfold fromsL
 rw [List.mem_append, mem_fromsG]
 constructor
 ·rintro (⟨l1, x, l2, e, hok, rfl⟩ | hf)
  ·rw [Option.or_none] at hok
   unfold frOk at hok
   rw [Bool.and_eq_true, decide_eq_true_eq] at hok
   obtain ⟨hz, hb⟩ := hok
   have hxm : x ∈ endsL ls := by rw [e]; simp
   have hxl := ends_le hxm
   rcases List.eq_nil_or_concat l1 with rfl | ⟨l0, y, rfl⟩
   ·obtain ⟨s, hs, hv⟩ := h.attain hxl (Int.le_refl _) (h.snd _ hxl)
    exact ⟨s, hs, clr_some e (by rw [hv, hz]) (fun y hy => (by cases hy))⟩
   ·rw [List.concat_eq_append, lastM_snoc] at hb
    have hb : sbS ls st y.1 x.1 = true := hb
    unfold sbS at hb
    have hb := of_decide_eq_true hb
    have hym : y ∈ endsL ls := by rw [e]; simp
    have hyl := ends_le hym
    have hlt : x.1 < st.length := by rw [h.len]; omega
    obtain ⟨s0, hs0, hv0⟩ := h.attain hxl (Int.le_refl _) (h.snd _ hxl)
    have hn : Tru ls (nar st x.1 zR) s0 := tru_nar h.len hxl hs0 (by rw [hv0, hz]; exact ⟨Int.le_refl _, Int.le_refl _⟩)
    have hlen : (nar st x.1 zR).length = ls.length + 1 := by rw [nar_len, h.len]
    have hsnd := sound_iff.1 ((sound_tru hlen hw1).2 ⟨s0, hn⟩)
    have hsnd' : ∀ i, i ≤ ls.length → Lo (settle ls (nar st x.1 zR)) i ≤ Hi (settle ls (nar st x.1 zR)) i := fun i hi => hsnd i (by rw [settle_len, hlen]; omega)
    obtain ⟨hp1, hp2⟩ := pick_tru (settle_arc hlen hw1) hw1 hsnd' hyl (hsnd' _ hyl) (Int.le_refl _)
    obtain ⟨hp3, hp4⟩ := tru_nar_back h.len hxl (settle_tru hlen hp1)
    refine ⟨_, hp3, clr_some e ?_ ?_⟩
    ·have := hp4.1
     have := hp4.2
     have e1 : zR.lo = 0 := rfl
     have e2 : zR.hi = 0 := rfl
     omega
    ·intro z hz hzero
     have hzy : z.1 ≤ y.1 := by
      rw [e, List.concat_eq_append, List.append_assoc] at hsort
      rw [List.concat_eq_append] at hz
      rcases List.mem_append.1 hz with hz | hz
      ·exact Nat.le_of_lt ((List.pairwise_append.1 hsort).2.2 z hz y (by simp)).1
      ·rw [List.mem_singleton.1 hz]; exact Nat.le_refl _
     have := tru_anti hw0 hp3 hzy hyl
     omega
  ·by_cases hh : 0 < Hi st ls.length
   ·rw [if_pos hh] at hf
    obtain ⟨s, hs, hv⟩ := h.attain (Nat.le_refl _) (h.snd _ (Nat.le_refl _)) (Int.le_refl _)
    refine ⟨s, hs, ?_⟩
    rw [List.mem_singleton.1 hf]
    rcases clr_cases ls s with ⟨l1, x, l2, e, hz, -, -⟩ | ⟨-, hc⟩
    ·have hxm : x ∈ endsL ls := by rw [e]; simp
     have := tru_anti hw0 hs (ends_le hxm) (Nat.le_refl _)
     omega
    ·exact hc
   ·rw [if_neg hh] at hf; cases hf
 ·rintro ⟨s, hs, hc⟩
  rcases clr_cases ls s with ⟨l1, x, l2, e, hz, hl, hx⟩ | ⟨hn, hx⟩
  ·refine .inl ⟨l1, x, l2, e, ?_, hx.symm.trans hc⟩
   have hxm : x ∈ endsL ls := by rw [e]; simp
   have hxl := ends_le hxm
   rw [Option.or_none]
   unfold frOk
   rw [Bool.and_eq_true, decide_eq_true_eq]
   constructor
   ·have := h.pos _ hxl
    have := (hs.2.2 _ hxl).1
    omega
   ·rcases List.eq_nil_or_concat l1 with rfl | ⟨l0, y, rfl⟩
    ·rfl
    ·rw [List.concat_eq_append, lastM_snoc]
     show sbS ls st y.1 x.1 = true
     have hym : y ∈ endsL ls := by rw [e]; simp
     have hyl := ends_le hym
     have hn : Tru ls (nar st x.1 zR) s := tru_nar h.len hxl hs (by rw [hz]; exact ⟨Int.le_refl _, Int.le_refl _⟩)
     have hlen : (nar st x.1 zR).length = ls.length + 1 := by rw [nar_len, h.len]
     have h1 := ((tru_settle hlen hn).2.2 _ hyl).2
     have h2 := h.low hs hyl
     have h3 := hl y (by simp)
     exact decide_eq_true (by omega)
  ·refine .inr ?_
   obtain ⟨x, hxm, hxl⟩ := ends_last ls
   have h1 := hn x hxm
   rw [hxl] at h1
   have h2 := h.low hs (Nat.le_refl _)
   have h3 := (hs.2.2 _ (Nat.le_refl _)).2
   rw [if_pos (by omega), ← hc, hx]
   exact List.mem_singleton.2 rfl
theorem Rw.froms_ne {ls : List Six} {st : List Rg} (h : Rw ls st) : fromsL ls st ≠ [] := by
 obtain ⟨s, hs⟩ := h.some
 exact List.ne_nil_of_mem (h.mem_froms.2 ⟨s, hs, rfl⟩)
theorem mem_fromsL_bd {ls : List Six} {st : List Rg} (h0 : ∀ x ∈ ls, 0 ≤ x.b ∧ x.b ≤ 99999) {f : Int} (h : f ∈ fromsL ls st) : 0 ≤ f ∧ f ≤ 100000 := by
 unfold fromsL at h
 rw [List.mem_append, mem_fromsG] at h
 rcases h with ⟨l1, x, l2, e, -, rfl⟩ | h
 ·have := ends_hour h0 (x := x) (by rw [e]; simp)
  omega
 ·split at h
  ·rw [List.mem_singleton.1 h]; omega
  ·cases h
/-- Surely clear; surely not. -/
theorem Rw.yes_iff {ls : List Six} {st : List Rg} (h : Rw ls st) {hour : Int} (h0 : 0 ≤ hour) (h1 : hour ≤ 99999) : Hi st (after ls hour) = 0 ↔ ∀ f ∈ fromsL ls st, f ≤ hour := by
 have hal := after_len ls hour
 constructor
 ·intro hz f hf
  obtain ⟨s, hs, rfl⟩ := h.mem_froms.1 hf
  refine (h.clear_iff hs h0 h1).1 ?_
  have := (hs.2.2 _ hal).2
  have := h.low hs hal
  omega
 ·intro hall
  obtain ⟨s, hs, hv⟩ := h.attain hal (h.snd _ hal) (Int.le_refl _)
  have := (h.clear_iff hs h0 h1).2 (hall _ (h.mem_froms.2 ⟨s, hs, rfl⟩))
  omega
end Go.Proofs.YtkoejeghihcmlaaGreat
namespace Go.Proofs.YtkoejeghihcmlaaGreat
open Go.RowKit Go.Shelf
theorem info33' : (Tryz.prog.info? 33).map (fun i => (i.zero, i.size, i.bytes)) = some (some (.agg #[.int .i64 0, .int .i64 0]), 2, 16) := by kernel_rfl
theorem kdR : Kd rcells 2 33 150 16 (.agg #[.int .i64 0, .int .i64 0]) := ⟨by kernel_rfl, info33', by simp [Value.cells], by decide, rcells_len, fun _ u hu => by simp [rcells] at hu; rcases hu with rfl | rfl <;> rfl, by decide⟩
set_option maxRecDepth 100000 in
theorem eqNil150 (a : Option Addr) (n c : Nat) (w : World) : (binOp .eql 150 (.slice a n c) (.slice none 0 0)).run Tryz.prog w = .ok (.bool a.isNone) w := by
 cases a <;> rfl
set_option maxRecDepth 100000 in
set_option maxHeartbeats 1000000 in
theorem cloneR_any (A : Option Addr) (n c : Nat) (xs : List Rg) (w : World) (ha : Arr rcells 2 w A n xs) (hn : n ≤ 1000000) :
  Calls Tryz.prog 201 #[.slice A n c] w fun e w' => (∃ v, e = .returned v ∧ OwnL rcells 2 33 w' w.heap.size v xs) ∧ Below w.heap.size w w' := by
 cases A with
 | none =>
  have h0 : n = 0 := by
   rcases Nat.eq_zero_or_pos n with h | h
   ·exact h
   ·obtain ⟨b, o, e, _⟩ := ha.2 h; cases e
  subst h0
  have : xs = [] := List.eq_nil_of_length_eq_zero ha.1
  subst this
  have heq := fun w => eqNil150 none 0 c w
  clear ha
  go_enter Tryz.func201, Tryz.ntmps201
  go_wp2_with fail
  go_ret
  exact ⟨⟨_, rfl, OwnL.nil _ _⟩, Below.refl _ _⟩
 | some a =>
  have heq := fun w => eqNil150 (some a) n c w
  have HOW := Lib.hid (show OwnL rcells 2 33 (w.alloc (.cells #[] 33)) w.heap.size (.slice (some ⟨w.heap.size, 0, none⟩) 0 0) [] from World.ownsRow_made (e := 33) (size := 2) w #[] 0 (Nat.le_refl w.heap.size) (by decide) rfl)
  have HAA := Lib.hid (ha.below (one_more w (.cells #[] 33)))
  clear ha
  go_enter Tryz.func201, Tryz.ntmps201
  go_wp2_with (first | (at_builtin; go_loud (refine wpList_app kdR (by rfl) _ _ (by rfl) w.heap.size _ [] (by rfl) HOW.out (some a) n c xs (by rfl) HAA.out (by simpa using hn) (by simp) ?_); intro v' w' ho hbw hz; have HO := Lib.hid ho; have HB := Lib.hid (HOW.out.below hbw (Nat.le_refl _) (by simp)); clear ho hbw hz))
  go_ret
  exact ⟨⟨_, rfl, by have := HO.out; rwa [List.nil_append] at this⟩, (one_more w _).trans HB.out⟩
end Go.Proofs.YtkoejeghihcmlaaGreat
namespace Go.Proofs.YtkoejeghihcmlaaGreat
open Go.RowKit Go.Shelf
attribute [local go_sem] Oper.semAt_some
/-- What stood, and what lies behind it in the block. -/
def rvalt (tl : Array Value) (st : List Rg) : Array Value := rvals st ++ tl
theorem rvals_size (st : List Rg) : (rvals st).size = st.length * 2 := by unfold rvals; rw [List.size_toArray, flat_len rcells_len]
theorem rvalt_at (tl : Array Value) {st : List Rg} {i : Nat} (hi : i < st.length) : (rvalt tl st)[i * 2]? = some (.int .i64 (Lo st i)) ∧ (rvalt tl st)[i * 2 + 1]? = some (.int .i64 (Hi st i)) := by
 obtain ⟨h0, h1⟩ := rvals_at hi
 unfold rvalt
 rw [Array.getElem?_append_left (by rw [rvals_size]; omega), Array.getElem?_append_left (by rw [rvals_size]; omega)]
 exact ⟨h0, h1⟩
theorem set_left (a b : Array Value) (i : Nat) (v : Value) (h : i < a.size) : (a ++ b).setIfInBounds i v = a.setIfInBounds i v ++ b := by
 apply Array.ext_getElem?
 intro j
 rw [Array.getElem?_setIfInBounds, Array.getElem?_append, Array.getElem?_append, Array.size_setIfInBounds, Array.getElem?_setIfInBounds, Array.size_append]
 by_cases e : i = j
 ·subst e
  rw [if_pos rfl, if_pos h, if_pos rfl, if_pos h, if_pos (by omega)]
 ·rw [if_neg e, if_neg e]
theorem rvalt_set (tl : Array Value) {st : List Rg} {i : Nat} (h : i < st.length) (r : Rg) : ((rvalt tl st).setIfInBounds (i * 2) (.int .i64 r.lo)).setIfInBounds (i * 2 + 1) (.int .i64 r.hi) = rvalt tl (st.set i r) := by
 unfold rvalt
 rw [set_left _ _ _ _ (by rw [rvals_size]; omega), set_left _ _ _ _ (by rw [Array.size_setIfInBounds, rvals_size]; omega), rvals_set h]
/-- A field. -/
structure Fk (kc : Nat) (tl : Array Value) (w : World) (bf bs : Nat) (pp : Value) (known : Int) (A : Option Addr) (n c m : Nat) (st : List Rg) : Prop where
 f : Blk w bf 152 #[pp, .int .i64 known, .slice A n c, .slice (some ⟨bs, 0, none⟩) m kc]
 s : Blk w bs 33 (rvalt tl st)
 len : st.length = m
 ne : bf ≠ bs
theorem narrowk_end {kc : Nat} {tl : Array Value} {bf bs : Nat} {pp : Value} {known : Int} {A : Option Addr} {n c m i : Nat} {st : List Rg} {r : Rg} {w W : World} (hf : Fk kc tl w bf bs pp known A n c m st) (hi : i < m)
  (F9 : Blk W bf 152 #[pp, .int .i64 known, .slice A n c, .slice (some ⟨bs, 0, none⟩) m kc]) (S9 : Blk W bs 33 (rvalt tl st)) (GZ : Below w.heap.size w W) {a b : Int} (ha : a = max (Lo st i) r.lo) (hb : b = min (Hi st i) r.hi) :
  Fix bs bs w ((W.setCell ⟨bs, i * 2, none⟩ (.int .i64 a)).setCell ⟨bs, i * 2 + 1, none⟩ (.int .i64 b)) ∧ Fk kc tl ((W.setCell ⟨bs, i * 2, none⟩ (.int .i64 a)).setCell ⟨bs, i * 2 + 1, none⟩ (.int .i64 b)) bf bs pp known A n c m (nar st i r) := by
 have hse := (S9.set_ (i * 2) (.int .i64 a)).set_ (i * 2 + 1) (.int .i64 b)
 have HST := rvalt_set tl (st := st) (i := i) (by rw [hf.len]; exact hi) ⟨a, b⟩
 rw [HST, show st.set i ⟨a, b⟩ = nar st i r by rw [ha, hb]; rfl] at hse
 refine ⟨(((Fix.of_below (bw := bs) (bs := bs) GZ).setCell (p := ⟨bs, i * 2, none⟩) (.inl rfl) _).setCell (p := ⟨bs, i * 2 + 1, none⟩) (.inl rfl) _), ?_, hse, by rw [nar_len]; exact hf.len, hf.ne⟩
 exact (F9.far (p := ⟨bs, i * 2, none⟩) hf.ne _).far (p := ⟨bs, i * 2 + 1, none⟩) hf.ne _
set_option maxRecDepth 100000 in
set_option maxHeartbeats 4000000 in
theorem narrowk_any (kc : Nat) (tl : Array Value) (bf bs : Nat) (pp : Value) (known : Int) (A : Option Addr) (n c m i : Nat) (st : List Rg) (r : Rg) (w : World) (hf : Fk kc tl w bf bs pp known A n c m st) (hi : i < m) :
  Calls Tryz.prog 162 #[.pointer (some ⟨bf, 0, none⟩), .int .i64 i, rv r] w fun e w' => e = .returned (.tuple #[]) ∧ Fix bs bs w w' ∧ Fk kc tl w' bf bs pp known A n c m (nar st i r) := by
 have HF := Lib.hid hf
 have hbl := hf.f.lt
 have hsl := hf.s.lt
 clear hf
 go_enter Tryz.func162, Tryz.ntmps162
 go_upto_region 1 with fail
 obtain ⟨W1, hW1⟩ : ∃ W1, w.alloc (.cells #[.int .i64 r.lo, .int .i64 r.hi] 33) = W1 := ⟨_, rfl⟩
 have g1 : Below w.heap.size w W1 := by rw [← hW1]; exact one_more _ _
 have b1 : Blk W1 w.heap.size 33 #[.int .i64 r.lo, .int .i64 r.hi] := by rw [← hW1]; exact Blk.new _ _ _
 rw [hW1]
 obtain ⟨bx, hbx⟩ : ∃ bx, w.heap.size = bx := ⟨_, rfl⟩
 have G1 := Lib.hid g1
 rw [hbx] at b1 hbl hsl ⊢
 have F1 := Lib.hid (HF.out.f.ext g1)
 have S1 := Lib.hid (HF.out.s.ext g1)
 obtain ⟨v0, v1⟩ := rvalt_at tl (st := st) (i := i) (by rw [HF.out.len]; exact hi)
 have c0 := cellW (b1.cell 0)
 have c1 := cellW (b1.cell 1)
 have f3 := cellW (F1.out.cell 3)
 have s0 : ∀ x : Wd W1, x.val.cell? ⟨bs, i * 2, none⟩ = some (.int .i64 (Lo st i)) := cellW (by rw [S1.out.cell, v0])
 have s1 : ∀ x : Wd W1, x.val.cell? ⟨bs, i * 2 + 1, none⟩ = some (.int .i64 (Hi st i)) := cellW (by rw [S1.out.cell, v1])
 have z0 : ∀ x : Wd W1, x.val.frozen? ⟨bs, i * 2, none⟩ = false := frozenW (s0 ⟨W1, Below.refl _ _⟩) (S1.out.frozen _)
 have z1 : ∀ x : Wd W1, x.val.frozen? ⟨bs, i * 2 + 1, none⟩ = false := frozenW (s1 ⟨W1, Below.refl _ _⟩) (S1.out.frozen _)
 clear hW1 g1 b1 v0 v1
 refine wp_region_calm_tail W1 29 (by kernel_rfl) (by kernel_rfl) (Below.refl _ _) ?_
 simp only [List.take_succ_cons, List.take_zero, List.drop_succ_cons, List.drop_zero]
 repeat (go_big_quiet_step (fail))
 refine wpQuiet_nil ?_
 rintro _ ⟨z, rfl⟩
 have S9 := Lib.hid (S1.out.ext z.ok)
 have F9 := Lib.hid (F1.out.ext z.ok)
 have GZ := Lib.hid (G1.out.trans (z.ok.mono G1.out.size))
 go_wp2_with fail
 all_goals
  go_end0
  exact ⟨rfl, narrowk_end HF.out hi F9.out S9.out GZ.out (by omega) (by omega)⟩
set_option maxRecDepth 100000 in
set_option maxHeartbeats 8000000 in
theorem settlek_any (kc : Nat) (tl : Array Value) (bf bs : Nat) (pp : Value) (known : Int) (A : Option Addr) (n c : Nat) (ls : List Six) (st : List Rg) (w : World) (hf : Fk kc tl w bf bs pp known A n c (n + 1) st) (ha : Arr scells 6 w A n ls) (hn : n ≤ 1000)
  (hAd : ∀ b o, A = some ⟨b, o, none⟩ → 0 < n → b ≠ bs) (hw : Wb ls) (hb : Bd st 10000000) :
  Calls Tryz.prog 163 #[.pointer (some ⟨bf, 0, none⟩)] w fun e w' => e = .returned (.tuple #[]) ∧ Fix bs bs w w' ∧ Fk kc tl w' bf bs pp known A n c (n + 1) (settle ls st) := by
 have HA := Lib.hid ha
 have HF := Lib.hid hf
 have hlen := Lib.hid ha.1
 have HW := Lib.hid hw
 have HB := Lib.hid hb
 have hfl := hf.f.lt
 have hsl := hf.s.lt
 clear ha hf hw hb
 refine (callsIn_wide (n := 4)).1 (callsIn_of_wp_marks Tryz.func163 rfl trivial ?_ rfl)
 simp only [Tryz.ntmps163, List.size_toArray, List.length_cons, List.length_nil, Nat.reduceAdd, Nat.reduceSub, Array.replicate_succ, Array.replicate_zero, List.push_toArray, List.append_toArray, List.nil_append, List.cons_append]
 refine wpIn_wide.2 ?_
 go_wp2_with fail
 refine (carted_any _ _).mono ?_
 rintro e w' ⟨rfl, hw'⟩
 have hb0 : Blk w' w.heap.size 134 #[.pointer (some ⟨bf, 0, none⟩)] := by rw [← hw']; exact ((Blk.new _ _ _).alloc _).alloc _
 have hb1 : Blk w' (w.heap.size + 1) 227 #[.func (.func 162) #[.pointer (some ⟨bf, 0, none⟩)] #[]] := by
  rw [← hw']; have := Blk.new (w.alloc (.cells #[.pointer (some ⟨bf, 0, none⟩)] 134)) 227 #[.func (.func 162) #[.pointer (some ⟨bf, 0, none⟩)] #[]]; rw [World.size_alloc] at this; exact this.alloc _
 have hbQ : Blk w' (w.heap.size + 1 + 1) 134 #[.pointer (some ⟨bf, 0, none⟩)] := by
  rw [← hw']; have := Blk.new ((w.alloc (.cells #[.pointer (some ⟨bf, 0, none⟩)] 134)).alloc (.cells #[.func (.func 162) #[.pointer (some ⟨bf, 0, none⟩)] #[]] 227)) 134 #[.pointer (some ⟨bf, 0, none⟩)]; simp only [World.size_alloc] at this; exact this
 have hsz : w'.heap.size = w.heap.size + 3 := by rw [← hw']; simp
 have hbel : Below w.heap.size w w' := by rw [← hw']; exact (((Below.refl _ _).alloc (Nat.le_refl _) _).alloc (by simp) _).alloc (by simp; omega) _
 clear hw'
 rename World => W0
 obtain ⟨b1, hb1e⟩ : ∃ b1, w.heap.size + 1 = b1 := ⟨_, rfl⟩
 rw [hb1e] at hb1 hbQ ⊢
 go_wp2_with fail
 have HA0 := Lib.hid (HA.out.below hbel)
 have hf0 : Fk kc tl W0 bf bs pp known A n c (n + 1) st := ⟨HF.out.f.ext hbel, HF.out.s.ext hbel, HF.out.len, HF.out.ne⟩
 have hd0 : ∀ b o, A = some ⟨b, o, none⟩ → 0 < n → b < W0.heap.size ∧ b ≠ bs ∧ b ≠ bs := fun b o e h0 => by
  obtain ⟨b', o', e', hlt, -⟩ := HA.out.2 h0
  have := hAd b o e h0
  rw [e] at e'; cases e'
  have := hbel.size
  omega
 have HSQ := Lib.hid (carted_stops 3 W0 (b1 + 1) bf bs bs A n c ls (hbQ.cell 0) (hf0.f.cell 2) HA0.out (by omega) hd0)
 have HBE := Lib.hid hbel
 have HSZ := Lib.hid hsz
 have HF0 := Lib.hid hf0
 have HDD := Lib.hid hd0
 have hne := HF.out.ne
 clear hbel hd0 hf0 hbQ hAd
 refine (wpIn_wide (n := 4)).1 ?_
 refine wpIn_rangeFunc_ownH (α := Cx n) (F := Fence.wide) (n := 4) rfl (by omega) (gf := 202) (lb := #[.pointer (some ⟨b1 + 1, 0, none⟩)]) rfl trivial
  (enters_of Tryz.func202 (by kernel_rfl) rfl) HSQ.out (fun h k => FixTo.trans h k) ?hKb (Below.refl _ _) (fun _ => rfl)
  (fun pre W' => Fix bs bs W0 W' ∧ Fk kc tl W' bf bs pp known A n c (n + 1) ((pre.map (·.1)).foldl (fwdS ls) st) ∧ Bd ((pre.map (·.1)).foldl (fwdS ls) st) (10000000 + 10000 * (pre.length : Int))) (fun _ _ _ => False) ?hI ?hIx ?h0
  (fun x a' W => ∃ Bx, W0.heap.size ≤ Bx ∧ Blk W Bx 103 #[.int .i64 (ls.getD x.1 z6).a, .int .i64 (ls.getD x.1 z6).b, .int .i64 (ls.getD x.1 z6).c, .int .i64 (ls.getD x.1 z6).d, .int .i64 (ls.getD x.1 z6).e, .int .i64 (ls.getD x.1 z6).f] ∧
   a' = { tmps := #[.pointer (some ⟨bf, 0, none⟩), .pointer (some ⟨w.heap.size, 0, none⟩), .pointer (some ⟨b1, 0, none⟩), .int .i64 x.1, .pointer (some ⟨Bx, 0, none⟩), undef, undef, undef, undef, .pointer (some ⟨bf, 0, none⟩), .func (.func 162) #[.pointer (some ⟨bf, 0, none⟩)] #[], .pointer (some ⟨bf, 0, none⟩), .func (.func 202) #[] #[.pointer (some ⟨b1 + 1, 0, none⟩)], .int .i64 x.1, sv (ls.getD x.1 z6), undef, undef, undef, undef, undef, undef, undef, undef, undef, undef, undef, undef, undef, undef, undef, undef, undef, undef, undef, undef, undef, undef, undef, undef, undef, undef, undef, undef, undef, undef, undef, undef, undef, undef, undef, undef, undef, undef, undef, undef, undef, undef, undef, undef, undef, undef, undef, undef, undef, undef, undef, undef, undef, undef, undef, undef, undef, undef, undef, undef, undef, undef, undef, undef], defers := [] }) ?hAx ?assign ?body ?done ?stop
 case hKb =>
  intro Wb l o o' hl ho _ _
  exact FixTo.putObj _ _ _ _ (by omega) _
 case hI =>
  rintro pre A' B row ⟨hfx, hfd, hbd⟩ hg hr
  have hr1 : ∀ r, row = some r → ∃ o : Obj, A'.heap[r]? = some o ∧ o.isCells = false := fun r e => (hr r e).2
  exact ⟨hfx.own hg (fun r e => (hr r e).1), ⟨hfd.f.own hg hr1, hfd.s.own hg hr1, hfd.len, hfd.ne⟩, hbd⟩
 case hIx => exact fun _ _ _ _ _ hs _ _ => hs
 case h0 => exact ⟨Fix.refl _ _ _, HF0.out, by simpa using HB.out⟩
 case hAx =>
  rintro x a' _ X Y row ⟨Bx, h1, h2, h3⟩ hg hr
  exact ⟨Bx, h1, h2.own hg (fun r e => (hr r e).2), h3⟩
 case assign =>
  rintro l pre x W K ⟨hfx, hfd, hbd⟩ hK
  unfold encC
  gi_wp2
  refine hK _ _ ((KeepsOthers.alloc _ _).from _) (FixTo.alloc _ _ _ _ _) ⟨hfx.trans (Fix.of_below (one_more _ _)), ⟨hfd.f.alloc _, hfd.s.alloc _, hfd.len, hfd.ne⟩, hbd⟩ ⟨W.heap.size, hfx.size, Blk.new _ _ _, rfl⟩
 case body =>
  rintro l pre x a' W hl - ⟨hfx, hfd, hbd⟩ ⟨Bx, hBx, hB, rfl⟩ hpl
  have q0 := (hfx.blk hb0 (by omega) (by omega)).cell 0
  have q1 := (hfx.blk hb1 (by omega) (by omega)).cell 0
  have f3 := hfd.f.cell 3
  obtain ⟨xi, hxi⟩ : ∃ xi, x.1 = xi := ⟨_, rfl⟩
  have hxn : xi < n := by rw [← hxi]; exact x.2
  obtain ⟨sp, hsp⟩ : ∃ sp, (pre.map (·.1)).foldl (fwdS ls) st = sp := ⟨_, rfl⟩
  have HN := Lib.hid (show ((pre ++ [x]).map (·.1)).foldl (fwdS ls) st = fwdS ls sp xi by rw [List.map_append, List.foldl_append, hsp, ← hxi]; rfl)
  rw [hsp] at hfd hbd
  have hsl2 := hfd.len
  obtain ⟨v0, v1⟩ := rvalt_at tl (st := sp) (i := xi) (by omega)
  have s0 : W.cell? ⟨bs, xi * 2, none⟩ = some (.int .i64 (Lo sp xi)) := by rw [hfd.s.cell, v0]
  have s1 : W.cell? ⟨bs, xi * 2 + 1, none⟩ = some (.int .i64 (Hi sp xi)) := by rw [hfd.s.cell, v1]
  have hbx := hbd xi (by omega)
  have hwx := HW.out xi (by rw [hlen.out]; exact hxn)
  have HBN := Lib.hid (hbd.fwd HW.out (by rw [hlen.out]; exact hsl2) (i := xi) (by rw [hlen.out]; exact hxn))
  rw [hxi] at hB ⊢
  have l2 := hB.cell 2
  have l3 := hB.cell 3
  have HFD := Lib.hid hfd
  have HFX := Lib.hid hfx
  have hpl2 : (pre.length : Int) ≤ 1000 := by omega
  have HST := Lib.hid (show fwdS ls sp xi = nar sp (xi + 1) ⟨Lo sp xi - Gr ls xi, Hi sp xi - Ls ls xi⟩ from rfl)
  unfold Gr Ls at HST hwx
  obtain ⟨lo, hlo⟩ : ∃ lo, Lo sp xi = lo := ⟨_, rfl⟩
  obtain ⟨hi, hhi⟩ : ∃ hi, Hi sp xi = hi := ⟨_, rfl⟩
  obtain ⟨y, hy⟩ : ∃ y, ls.getD xi z6 = y := ⟨_, rfl⟩
  rw [hy] at hwx HST l2 l3
  rw [hlo] at s0 hbx HST
  rw [hhi] at s1 hbx HST
  rw [hy]
  have HT := Lib.hid (fun W1 (g : Below W.heap.size W W1) => (show Calls Tryz.prog 162 #[.pointer (some ⟨bf, 0, none⟩), .int .i64 ((xi : Int) + 1), .agg #[.int .i64 (lo - y.d), .int .i64 (hi - y.c)]] W1 fun e w' => e = .returned (.tuple #[]) ∧ Fix bs bs W1 w' ∧ Fk kc tl w' bf bs pp known A n c (n + 1) (fwdS ls sp xi) by
   have := narrowk_any kc tl bf bs pp known A n c (n + 1) (xi + 1) sp ⟨lo - y.d, hi - y.c⟩ W1 ⟨HFD.out.f.ext g, HFD.out.s.ext g, HFD.out.len, HFD.out.ne⟩ (by omega)
   rw [← HST.out] at this
   exact this))
  clear hB hfd hfx v0 v1 hsp hxi hlo hhi hy hbd
  have q2 := keepAlloc q1 (.cells #[.int .i64 lo, .int .i64 hi] 33)
  have l4 := keepAlloc l2 (.cells #[.int .i64 lo, .int .i64 hi] 33)
  have l5 := keepAlloc l3 (.cells #[.int .i64 lo, .int .i64 hi] 33)
  gi_wp2_with (refine ⟨trivial, ?_⟩; gi_at_call 162; refine (CallsIn.inRound l (callsIn_wide.2 (HT.out _ (one_more W _)))).mono ?_; rintro e W7 ⟨rfl, f7, hf7⟩; have F7 := Lib.hid ((Fix.of_below (one_more W _) : Fix bs bs W _).trans f7); have HF7 := Lib.hid hf7; clear f7 hf7)
  refine ⟨keepsFrom_of_fix _ F7.out HFD.out.s HFD.out.s, F7.out.to _, HFX.out.trans F7.out, ?_, ?_⟩
  ·rw [HN.out]; exact HF7.out
  ·rw [HN.out, List.length_append, List.length_singleton]
   have := HBN.out
   rw [show (10000000 : Int) + 10000 * (pre.length : Int) + 10000 = 10000000 + 10000 * ((pre.length + 1 : Nat) : Int) by omega] at this
   exact this
 case done =>
  rintro D xs W hD hS ⟨hfx, hfd, hbd⟩ hK
  have hxl : xs.length = n := by
   have := congrArg List.length hS
   rw [List.length_map, List.length_range] at this
   exact this
  rw [hS, fwdS_range, hxl] at hbd
  rw [hS, fwdS_range] at hfd
  obtain ⟨fw, hfw⟩ : ∃ fw, fwdK ls st n = fw := ⟨_, rfl⟩
  have HFW := Lib.hid (show settle ls st = bwdK ls fw n by unfold settle; rw [hlen.out, hfw])
  rw [hfw] at hfd hbd
  have HFD := Lib.hid hfd
  have HFX := Lib.hid hfx
  have HBD := Lib.hid hbd
  have HK := Lib.hid hK
  have q0 := (hfx.blk hb0 (by omega) (by omega)).cell 0
  have f2 := hfd.f.cell 2
  clear hS hfx hfd hbd hfw hK hxl HSQ
  go_upto_region 8 with fail
  have HWR := Lib.hid wrap_succ
  have HB2 := Lib.hid (HBD.out.mono (K' := 20000000) (by omega))
  clear q0 f2
  go_loopw [6] (fun i wr => ∃ k : Nat, k ≤ n ∧ i = .int .i64 ((n : Int) - 1 - (k : Int)) ∧ Fix bs bs W0 wr ∧ wr.heap[D]? = some (.deferred (some [])) ∧ Fk kc tl wr bf bs pp known A n c (n + 1) (bwdK ls fw k) ∧ Bd (bwdK ls fw k) (20000000 + 10000 * (k : Int))) (fun i _ => (intOf i + 1).toNat)
  case atStart => exact ⟨0, Nat.zero_le _, by simp, HFX.out, HK.out, HFD.out, by simpa [bwdK] using HB2.out⟩
  case round =>
   obtain ⟨k, hk, rfl, hfx, hK, hfd, hbd⟩ := hrel
   obtain ⟨V, rfl⟩ : ∃ V : World, V = wr := ⟨_, rfl⟩
   obtain ⟨sp, hsp⟩ : ∃ sp, bwdK ls fw k = sp := ⟨_, rfl⟩
   have HSP := Lib.hid hsp
   rw [hsp] at hfd hbd
   by_cases hkn : k < n
   ·obtain ⟨ix, hix⟩ : ∃ ix, n - 1 - k = ix := ⟨_, rfl⟩
    have hixe : (n : Int) - 1 - (k : Int) = (ix : Nat) := by omega
    rw [hixe]
    have hxn : ix < n := by omega
    have hsl2 := hfd.len
    obtain ⟨v0, v1⟩ := rvalt_at tl (st := sp) (i := ix + 1) (by omega)
    have q0 := (hfx.blk hb0 (by omega) (by omega)).cell 0
    have q1 := (hfx.blk hb1 (by omega) (by omega)).cell 0
    have f2 := hfd.f.cell 2
    have f3 := hfd.f.cell 3
    have s0 : V.cell? ⟨bs, (ix + 1) * 2, none⟩ = some (.int .i64 (Lo sp (ix + 1))) := by rw [hfd.s.cell, v0]
    have s1 : V.cell? ⟨bs, (ix + 1) * 2 + 1, none⟩ = some (.int .i64 (Hi sp (ix + 1))) := by rw [hfd.s.cell, v1]
    obtain ⟨ba, oa, e0, -, -, hc⟩ := six_at (HA0.out.fix hfx (fun b o e h0 => ⟨(HDD.out b o e h0).2.1, (HDD.out b o e h0).2.1⟩)) hxn
    obtain ⟨-, -, l2, l3, -, -⟩ := hc V (Below.refl _ _)
    have hbx := hbd (ix + 1) (by omega)
    have hwx := HW.out ix (by rw [hlen.out]; exact hxn)
    have HST := Lib.hid (show bwdK ls fw (k + 1) = nar sp ix ⟨Lo sp (ix + 1) + Ls ls ix, Hi sp (ix + 1) + Gr ls ix⟩ by
     rw [← hsp]
     show nar (bwdK ls fw k) (ls.length - 1 - k) _ = _
     rw [hlen.out, hix, show n - k = ix + 1 by omega])
    have HBN := Lib.hid (hbd.nar (i := ix) (r := ⟨Lo sp (ix + 1) + Ls ls ix, Hi sp (ix + 1) + Gr ls ix⟩) (D := 10000) (by decide) (by dsimp only; omega) (by omega))
    rw [← HST.out] at HBN
    have HFDk := Lib.hid hfd
    have HFXk := Lib.hid hfx
    have HKk := Lib.hid hK
    unfold Gr Ls at HST hwx
    obtain ⟨lo, hlo⟩ : ∃ lo, Lo sp (ix + 1) = lo := ⟨_, rfl⟩
    obtain ⟨hi, hhi⟩ : ∃ hi, Hi sp (ix + 1) = hi := ⟨_, rfl⟩
    obtain ⟨y, hy⟩ : ∃ y, ls.getD ix z6 = y := ⟨_, rfl⟩
    rw [hy] at hwx HST l2 l3
    rw [hlo] at s0 hbx HST
    rw [hhi] at s1 hbx HST
    have HT := Lib.hid (fun W1 (g : Below V.heap.size V W1) => (show Calls Tryz.prog 162 #[.pointer (some ⟨bf, 0, none⟩), .int .i64 (ix : Nat), .agg #[.int .i64 (lo + y.c), .int .i64 (hi + y.d)]] W1 fun e w' => e = .returned (.tuple #[]) ∧ Fix bs bs W1 w' ∧ Fk kc tl w' bf bs pp known A n c (n + 1) (bwdK ls fw (k + 1)) by
     have := narrowk_any kc tl bf bs pp known A n c (n + 1) ix sp ⟨lo + y.c, hi + y.d⟩ W1 ⟨HFDk.out.f.ext g, HFDk.out.s.ext g, HFDk.out.len, HFDk.out.ne⟩ (by omega)
     rw [← HST.out] at this
     exact this))
    have HD' := Lib.hid (show D ≠ bs from by omega)
    subst e0
    clear hc hfd hfx v0 v1 hsp hlo hhi hy hbd hK hixe
    obtain ⟨m, hm⟩ : ∃ m, n + 1 = m := ⟨_, rfl⟩
    rw [hm] at f3
    have hxm : ix + 1 < m := by omega
    have hxi0 : (0 : Int) ≤ (ix : Int) := by omega
    have hxi1 : (0 : Int) ≤ (ix : Int) + 1 := by omega
    have hxi2 : (ix : Int) + 1 < (m : Int) := by omega
    have hxi6 : (ix : Int) < (n : Int) := by omega
    have hxi4 := HWR.out ix (by omega)
    clear hm
    go_upto_region 10 with fail
    go_cut [7, 8] from 49 to 65 (fun s7 s8 wx => ∃ b7 b8, s7 = .pointer (some ⟨b7, 0, none⟩) ∧ s8 = .pointer (some ⟨b8, 0, none⟩) ∧ Below V.heap.size V wx ∧ Blk wx b7 33 #[.int .i64 lo, .int .i64 hi] ∧ Blk wx b8 33 #[.int .i64 y.c, .int .i64 y.d])
    case first =>
     go_region_held3 (fun w' => w'.cell? ⟨w.heap.size, 0, none⟩ = some (.pointer (some ⟨bf, 0, none⟩)) ∧ w'.cell? ⟨bf, 2, none⟩ = some (.slice (some ⟨ba, oa, none⟩) n c) ∧ w'.cell? ⟨bf, 3, none⟩ = some (.slice (some ⟨bs, 0, none⟩) m kc) ∧ w'.cell? ⟨bs, (ix + 1) * 2, none⟩ = some (.int .i64 lo) ∧ w'.cell? ⟨bs, (ix + 1) * 2 + 1, none⟩ = some (.int .i64 hi) ∧ w'.cell? ⟨ba, oa + ix * 6 + 2, none⟩ = some (.int .i64 y.c) ∧ w'.cell? ⟨ba, oa + ix * 6 + 3, none⟩ = some (.int .i64 y.d))
      (first | go_keep | exact ⟨keepAlloc q0 _, keepAlloc f2 _, keepAlloc f3 _, keepAlloc s0 _, keepAlloc s1 _, keepAlloc l2 _, keepAlloc l3 _⟩ | exact ⟨keepAlloc (keepAlloc q0 _) _, keepAlloc (keepAlloc f2 _) _, keepAlloc (keepAlloc f3 _) _, keepAlloc (keepAlloc s0 _) _, keepAlloc (keepAlloc s1 _) _, keepAlloc (keepAlloc l2 _) _, keepAlloc (keepAlloc l3 _) _⟩)
      (fail)
     all_goals (try go_wp2_with fail)
     all_goals go_meet
     all_goals first
      | exact ⟨_, _, rfl, rfl, (two_more _ _ _).drew, (Blk.new _ _ _).alloc _, blk_second _ _ _ _⟩
      | exact ⟨_, _, rfl, rfl, (two_more _ _ _).drew, blk_second _ _ _ _, (Blk.new _ _ _).alloc _⟩
    case rest =>
     obtain ⟨b7, b8, rfl, rfl, hg, hb7, hb8⟩ := hcut
     rename World => V2
     have r1 := (hg.cell (p := ⟨b1, 0, none⟩) (World.block_lt_of_cell? V _ q1)).trans q1
     have r2 := hb7.cell 0
     have r3 := hb7.cell 1
     have r4 := hb8.cell 0
     have r5 := hb8.cell 1
     have HG := Lib.hid hg
     have HDV := Lib.hid ((hg.block D (Array.getElem?_eq_some_iff.1 HKk.out).1).trans HKk.out)
     clear hg hb7 hb8 q0 q1 f2 f3 s0 s1 l2 l3
     go_wp2_with (go_at_call 162; (refine (HT.out V2 HG.out).mono ?_); rintro e V3 ⟨rfl, f3, hf3⟩; have F3 := Lib.hid f3; have HF3 := Lib.hid hf3; clear f3 hf3)
     go_roundw
     case rel =>
      refine ⟨k + 1, by omega, by go_num, HFXk.out.trans ((Fix.of_below HG.out).trans F3.out), (F3.out.block D (Array.getElem?_eq_some_iff.1 HDV.out).1 HD'.out HD'.out).trans HDV.out, HF3.out, ?_⟩
      have := HBN.out
      rw [show (20000000 : Int) + 10000 * (k : Int) + 10000 = 20000000 + 10000 * ((k + 1 : Nat) : Int) by omega] at this
      exact this
     case measure => simp [intOf]
   ·obtain rfl : n = k := by omega
    have he : (n : Int) - 1 - (n : Int) = -1 := by omega
    rw [he]
    have HFDn := Lib.hid hfd
    have HFXn := Lib.hid hfx
    clear hfd hfx hbd hsp
    go_wp2_with fail
    refine ⟨by simp, .inl ⟨_, _, rfl, run_takeDeferred hK, ?_⟩⟩
    refine ⟨_, results_none rfl _ _ _, rfl, (Fix.of_below HBE.out).trans (HFXn.out.putObj hD _), ?_⟩
    rw [HFW.out, HSP.out]
    exact ⟨HFDn.out.f.putObj (by omega) _, HFDn.out.s.putObj (by omega) _, HFDn.out.len, HFDn.out.ne⟩
 case stop =>
  rintro D c pre W _ _ h _
  exact h.elim
end Go.Proofs.YtkoejeghihcmlaaGreat
namespace Go.Proofs.YtkoejeghihcmlaaGreat
open Go.RowKit Go.Shelf
theorem Fd.arr {w : World} {bf bs : Nat} {pp : Value} {known : Int} {A : Option Addr} {n c m : Nat} {st : List Rg} (h : Fd w bf bs pp known A n c m st) : Arr rcells 2 w (some ⟨bs, 0, none⟩) m st := by
 refine ⟨h.len, fun _ => ⟨bs, 0, rfl, h.s.lt, fun k x hx j u hu => ?_⟩⟩
 have hj : j < 2 := by rw [← rcells_len x]; exact (List.getElem?_eq_some_iff.1 hu).1
 have e1 : (st.flatMap rcells)[k * 2 + j]? = some u := by rw [flat_get rcells_len st k j hj, hx]; exact hu
 rw [show 0 + k * 2 + j = k * 2 + j by omega, h.s.cell]
 unfold rvals
 rw [List.getElem?_toArray]
 exact e1
/-- A clone of ranges, as a block with room to spare. -/
theorem own_rg {w : World} {base : Nat} {v : Value} {xs : List Rg} (h : OwnL rcells 2 33 w base v xs) (hx : 0 < xs.length) :
  ∃ g kc tl, v = .slice (some ⟨g, 0, none⟩) xs.length kc ∧ base ≤ g ∧ Blk w g 33 (rvalt tl xs) ∧ v.ownBlock = some g := by
 obtain ⟨h1, ⟨e0, h3⟩ | ⟨g, cap, cur, rfl, hb, hg, hn, hm, hs, ht⟩⟩ := h
 ·omega
 ·refine ⟨g, cap, (cur.toList.drop (xs.length * 2)).toArray, rfl, hb, ?_, rfl⟩
  have e : cur = rvalt (cur.toList.drop (xs.length * 2)).toArray xs := by
   unfold rvalt rvals
   rw [← ht]
   apply Array.ext'
   simp
  unfold Blk
  rw [← e]
  exact hg
/-- A clone of ranges. -/
theorem cloneR_blk (bs m : Nat) (st : List Rg) (w : World) (ha : Arr rcells 2 w (some ⟨bs, 0, none⟩) m st) (h0 : 0 < m) (hm : m ≤ 1000000) (B : Nat) (hB : B ≤ w.heap.size) :
  Calls Tryz.prog 201 #[.slice (some ⟨bs, 0, none⟩) m m] w fun e w' => ∃ g kc tl, e = .returned (.slice (some ⟨g, 0, none⟩) m kc) ∧ B ≤ g ∧ Blk w' g 33 (rvalt tl st) ∧ Below w.heap.size w w' := by
 refine (cloneR_any _ m m st w ha hm).mono ?_
 rintro e w' ⟨⟨v, rfl, ho⟩, hg⟩
 obtain ⟨g, kc, tl, rfl, h1, h2, -⟩ := own_rg ho (by rw [ha.1]; exact h0)
 rw [ha.1]
 exact ⟨g, kc, tl, rfl, Nat.le_trans hB h1, h2, hg⟩
set_option maxRecDepth 100000 in
set_option maxHeartbeats 4000000 in
theorem stoodBefore_any (bf bs pb : Nat) (known : Int) (A : Option Addr) (n c : Nat) (ls : List Six) (st : List Rg) (before many : Nat) (w : World) (hf : Fd w bf bs (.pointer (some ⟨pb, 0, none⟩)) known A n c (n + 1) st) (ha : Arr scells 6 w A n ls) (hn : n ≤ 100)
  (hw : Wb ls) (hb : Bd st 10000000) (h1 : before ≤ n) (h2 : many ≤ n) :
  Calls Tryz.prog 153 #[.pointer (some ⟨bf, 0, none⟩), .int .i64 before, .int .i64 many] w fun e w' => e = .returned (.bool (sbS ls st before many)) ∧ Below w.heap.size w w' := by
 have hsl := hf.len
 have T := Lib.hid (fun W (g : Below w.heap.size w W) => cloneR_blk bs (n + 1) st W (hf.arr.below g) (by omega) (by omega) w.heap.size g.size)
 have f0 := hf.f.cell 0
 have f1 := hf.f.cell 1
 have f2 := hf.f.cell 2
 have f3 := hf.f.cell 3
 have HF := Lib.hid hf
 have HA := Lib.hid ha
 have HW := Lib.hid hw
 have HB := Lib.hid hb
 have HSB := Lib.hid (show sbS ls st before many = decide (0 < Hi (settle ls (nar st many zR)) before) from rfl)
 obtain ⟨rb, hrb⟩ : ∃ rb, sbS ls st before many = rb := ⟨_, rfl⟩
 rw [hrb] at HSB ⊢
 have HSL := Lib.hid hsl
 clear hf ha hw hb hrb hsl
 obtain ⟨m, hm⟩ : ∃ m, n + 1 = m := ⟨_, rfl⟩
 rw [hm] at f3 T
 have HM := Lib.hid hm
 clear hm
 go_enter Tryz.func153, Tryz.ntmps153
 go_upto_region 1 with fail
 go_cut [7] from 8 to 26 (fun s7 wx => ∃ b7 g kc tl, s7 = .pointer (some ⟨b7, 0, none⟩) ∧ Below w.heap.size w wx ∧ Blk wx b7 152 #[.pointer (some ⟨pb, 0, none⟩), .int .i64 known, .slice A n c, .slice (some ⟨g, 0, none⟩) m kc] ∧ w.heap.size ≤ g ∧ Blk wx g 33 (rvalt tl st) ∧ w.heap.size ≤ b7 ∧ b7 ≠ g)
 case first =>
  go_region_held3 (fun W => W.cell? ⟨bf, 0, none⟩ = some (.pointer (some ⟨pb, 0, none⟩)) ∧ W.cell? ⟨bf, 1, none⟩ = some (.int .i64 known) ∧ W.cell? ⟨bf, 2, none⟩ = some (.slice A n c) ∧ W.cell? ⟨bf, 3, none⟩ = some (.slice (some ⟨bs, 0, none⟩) m m))
   (first | go_keep | exact ⟨(HF.out.f.ext G79.out).cell 0, (HF.out.f.ext G79.out).cell 1, (HF.out.f.ext G79.out).cell 2, HM.out ▸ (HF.out.f.ext G79.out).cell 3⟩)
   (first
   | (go_at_call 201; (with_reducible refine (T.out _ (Below.refl _ _).drew).mono ?_); rintro e W8 ⟨g, kc, tl, rfl, hgl, hgb, g79⟩; have G79 := Lib.hid (show Below w.heap.size w W8 from ((Below.refl _ _).drew).trans (g79.mono (Nat.le_refl _))); have HGL := Lib.hid hgl; have HGB := Lib.hid hgb; clear g79 hgl hgb))
  all_goals (try go_wp2_with fail)
  all_goals go_meet
  all_goals exact ⟨_, g, kc, tl, rfl, G79.out.alloc G79.out.size _, Blk.new _ _ _, HGL.out, HGB.out.alloc _, G79.out.size, Nat.ne_of_gt HGB.out.lt⟩
 case rest =>
  obtain ⟨b7, g, kc, tl, rfl, hg, hb7, hgl, hgb, hb7l, hne⟩ := hcut
  rename World => W9
  have hfk : Fk kc tl W9 b7 g (.pointer (some ⟨pb, 0, none⟩)) known A n c (n + 1) st := ⟨by rw [HM.out]; exact hb7, hgb, HSL.out, hne⟩
  have T1 := Lib.hid (narrowk_any kc tl b7 g (.pointer (some ⟨pb, 0, none⟩)) known A n c (n + 1) many st zR W9 hfk (by omega))
  have HG := Lib.hid hg
  have HAP := Lib.hid (show ∀ b o, A = some ⟨b, o, none⟩ → 0 < n → b ≠ g from fun b o e h0 => by
   obtain ⟨b', o', e', hlt, -⟩ := HA.out.2 h0
   rw [e] at e'; cases e'
   omega)
  have HMN := Lib.hid (show nar st many zR = st.set many ⟨max (Lo st many) 0, min (Hi st many) 0⟩ from rfl)
  have HBD := Lib.hid (show Bd (nar st many zR) 10000000 from HB.out.nar (D := 0) (by decide) ⟨by decide, by decide, by decide, by decide⟩ (by rw [HSL.out]; omega))
  clear hg hb7 hgb hfk
  go_wp2_with (go_at_call 162; (refine (T1.out).mono ?_); rintro e W10 ⟨rfl, f10, hf10⟩; have F10 := Lib.hid f10; have HF10 := Lib.hid hf10; clear f10 hf10)
  have T2 := Lib.hid (settlek_any kc tl b7 g (.pointer (some ⟨pb, 0, none⟩)) known A n c ls (nar st many zR) W10 HF10.out ((HA.out.below HG.out).fix F10.out (fun b o e h0 => ⟨HAP.out b o e h0, HAP.out b o e h0⟩)) (by omega) HAP.out HW.out HBD.out)
  obtain ⟨hv, hhv⟩ : ∃ hv, Hi (settle ls (nar st many zR)) before = hv := ⟨_, rfl⟩
  have HHV := Lib.hid hhv
  clear hhv
  have hbi : (before : Int) < (n : Int) + 1 := by omega
  go_wp2_with (go_at_call 163; (refine (T2.out).mono ?_); rintro e W11 ⟨rfl, f11, hf11⟩; have F11 := Lib.hid f11; have k3 := hf11.f.cell 3; have k4 : W11.cell? ⟨g, before * 2 + 1, none⟩ = some (.int .i64 hv) := (by rw [hf11.s.cell, (rvalt_at tl (by rw [hf11.len]; omega)).2, HHV.out]); clear f11 hf11)
  go_ret
  refine ⟨by rw [HSB.out, HHV.out]; rfl, HG.out.trans ?_⟩
  exact ((F10.out.trans F11.out).below hgl HG.out.size)
end Go.Proofs.YtkoejeghihcmlaaGreat
namespace Go.Proofs.YtkoejeghihcmlaaGreat
open Go.RowKit Go.Shelf
attribute [local go_sem] Oper.semAt_some
section
variable {α : Type} {f : α → List Value} {size : Nat} {e : TypeId} {t : TypeId} {bytes : Nat} {z : Value}
/-- An append onto one's own slice, inside a fence. -/
theorem wpListIn_app (K : Kd f size e t bytes z) {F : Fence} {n : Nat} {w : World} {ops : Array Oper} {rest : List Oper} {o : Oper} {a : Act} {Q : Exit → Act → World → Prop} (hgd : o.guard = none) (s x : Operand)
  (ho : o.op = .call { callee := .builtin .append, args := #[s, x], argTypes := #[t, t] }) (base : Nat) (v : Value) (xs : List α) (hs : a.eval s = v) (hown : OwnL f size e w base v xs)
  (A : Option Addr) (m c : Nat) (ys : List α) (hx : a.eval x = .slice A m c) (hr : Arr f size w A m ys) (hn : xs.length + m ≤ 1000000) (hbase : base ≤ w.heap.size)
  (h : ∀ v' w', OwnL f size e w' base v' (xs ++ ys) → w.grownBy w' v.ownBlock → wpListIn F n Tryz.prog ops Q rest (a.put o.dst v') w') : wpListIn F n Tryz.prog ops Q (o :: rest) a w := by
 refine wpListIn_plain hgd fun K1 hK => ?_
 obtain ⟨v', w', hrun, h2, h3, -⟩ := run_app K w o.type base v xs hown A m c ys hr hn hbase
 unfold Oper.wpIn
 refine ⟨?_, ?_⟩
 ·simp [Oper.about, ho, resolve, Target.leads, Sem.run_pure]
 ·rw [Oper.semAt_plain F _ _ (by rw [ho]; intro c hc'; cases hc')]
  simp [execOp, ho, resolve, invoke, builtin, hs, hx, hrun, Result.andThen]
  exact hK _ _ (h v' w' h2 h3)
/-- What is one's own stays, whatever turns that is no cells. -/
theorem OwnL.held {w w' : World} {base : Nat} {v : Value} {xs : List α} {row : Option Nat} (h : OwnL f size e w base v xs) (hg : w.grownBy w' row) (hr : ∀ r, row = some r → ∃ o : Obj, w.heap[r]? = some o ∧ o.isCells = false) : OwnL f size e w' base v xs := by
 refine World.ownsRow.kept h hg ?_
 obtain ⟨h1, ⟨rfl, -⟩ | ⟨g, cap, cur, rfl, hb, hgc, -⟩⟩ := h
 ·exact .inl rfl
 ·refine .inr fun e => ?_
  obtain ⟨o, ho, hc⟩ := hr g e.symm
  rw [hgc] at ho
  cases ho
  cases hc
end
theorem Blk.grown {W W' : World} {g : Nat} {t : TypeId} {cs : Array Value} {row : Option Nat} (h : Blk W g t cs) (hg : W.grownBy W' row) (hne : row ≠ some g) : Blk W' g t cs :=
 (hg.block g h.lt (fun e => hne e.symm)).trans h
theorem own_cells {α : Type} {f : α → List Value} {size : Nat} {e : TypeId} {w : World} {base : Nat} {v : Value} {xs : List α} (h : OwnL f size e w base v xs) {g : Nat} (hg : v.ownBlock = some g) : base ≤ g ∧ g < w.heap.size ∧ ∃ cur, w.heap[g]? = some (.cells cur e (0, 0)) := by
 obtain ⟨h1, ⟨rfl, -⟩ | ⟨g', cap, cur, rfl, hb, hgc, -⟩⟩ := h
 ·cases hg
 ·cases hg
  exact ⟨hb, (Array.getElem?_eq_some_iff.1 hgc).1, cur, hgc⟩
/-- The outer things stay. -/
structure Oto (W W' : World) : Prop where
 os : W'.os = W.os
 tape : W'.tape = W.tape
 output : W'.output = W.output
theorem Oto.refl (W : World) : Oto W W := ⟨rfl, rfl, rfl⟩
theorem Oto.trans {W W' W'' : World} (h : Oto W W') (k : Oto W' W'') : Oto W W'' := ⟨k.os.trans h.os, k.tape.trans h.tape, k.output.trans h.output⟩
theorem Oto.grown {W W' W'' : World} {row : Option Nat} (h : Oto W W') (k : W'.grownBy W'' row) : Oto W W'' := ⟨k.os.trans h.os, k.tape.trans h.tape, k.output.trans h.output⟩
theorem Oto.below {W W' W'' : World} {B : Nat} (h : Oto W W') (k : Below B W' W'') : Oto W W'' := ⟨k.os.trans h.os, k.tape.trans h.tape, k.output.trans h.output⟩
theorem Oto.set {W W' : World} (h : Oto W W') (p : Addr) (u : Value) : Oto W (W'.setCell p u) := ⟨h.os, h.tape, h.output⟩
theorem FixU.below {B bw bs : Nat} {W W' : World} {D : Nat} (h : FixU B bw bs W W') (o : Oto W W') (h1 : D ≤ bw) (h2 : D ≤ bs) (h3 : D ≤ B) (h4 : D ≤ W.heap.size) : Below D W W' :=
 ⟨o.os, o.tape, o.output, h.size, fun k hk => h.block k (by omega) (by omega) (by omega) (.inl (by omega))⟩
theorem Fix.oto {bw bs : Nat} {W W' : World} (h : Fix bw bs W W') : Oto W W' := ⟨h.os, h.tape, h.output⟩
/-- One integer behind one's own, the slice stored in its box: what the step keeps. -/
structure Stp (B bw b3 : Nat) (W W3 : World) (v' : Value) (ys : List Int) : Prop where
 fx : FixU B bw b3 W W3
 kf : ∀ D, KeepsFrom D W W3
 bx : Blk W3 b3 39 #[v']
 own : OwnL icells 1 3 W3 B v' ys
 oto : Oto W W3
theorem app_step {B b3 : Nat} {W w2 : World} {v v' : Value} {xs : List Int} {x : Int} (bw : Nat) (hb : Blk W b3 39 #[v]) (ho : OwnL icells 1 3 W B v xs) (h3 : b3 < B)
  (h2 : OwnL icells 1 3 w2 B v' (xs ++ [x])) (hg : (W.alloc (.cells #[.int .i64 x] 3)).grownBy w2 v.ownBlock) : Stp B bw b3 W (w2.setCell ⟨b3, 0, none⟩ v') v' (xs ++ [x]) := by
 have hob : ∀ g, v.ownBlock = some g → B ≤ g ∧ g < W.heap.size ∧ ∃ cur, W.heap[g]? = some (.cells cur 3 (0, 0)) := fun g e => own_cells ho e
 have hne : v.ownBlock ≠ some b3 := fun e => by have := (hob b3 e).1; omega
 have hb2 : Blk w2 b3 39 #[v] := (hb.alloc _).grown hg hne
 refine ⟨⟨?_, fun k hk h1 h2' h3' => ?_⟩, fun D => ⟨?_, fun k o hD hk ho' => ?_⟩, by simpa using hb2.set_ 0 v', ?_, (((Oto.refl W).below (one_more W _)).grown hg).set _ _⟩
 ·have := hg.size; simp at this ⊢; omega
 ·refine (Below.heap_setCell _ _ _ _ (fun e => h2' (by rw [e]))).trans ?_
  refine (hg.block k (by simp; omega) (fun e => ?_)).trans (Below.heap_alloc _ _ _ hk)
  obtain ⟨e1, -, cur, e2⟩ := hob k e.symm
  rcases h3' with h3' | h3'
  ·omega
  ·exact h3' _ _ e2
 ·have := hg.size; simp at this ⊢; omega
 ·have hkl := (Array.getElem?_eq_some_iff.1 hk).1
  have hkb : k ≠ b3 := fun e => by
   subst e
   have : W.heap[k]? = some (.cells #[v] 39 (0, 0)) := hb
   rw [this] at hk; cases hk; cases ho'
  refine (Below.heap_setCell _ _ _ _ (fun e => hkb (by rw [e]))).trans ?_
  refine ((hg.block k (by simp; omega) (fun e => ?_)).trans (Below.heap_alloc _ _ _ hkl)).trans hk
  obtain ⟨-, -, cur, e2⟩ := hob k e.symm
  rw [e2] at hk; cases hk; cases ho'
 ·exact h2.far (p := ⟨b3, 0, none⟩) h3 _
theorem FixU.setCell {B bw bs : Nat} {W W' : World} (h : FixU B bw bs W W') {p : Addr} (hp : p.block = bw ∨ p.block = bs) (u : Value) : FixU B bw bs W (W'.setCell p u) :=
 ⟨by simpa using h.size, fun k hk h1 h2 h3 => (Below.heap_setCell _ _ _ _ (fun e => by rcases hp with hp | hp <;> omega)).trans (h.block k hk h1 h2 h3)⟩
theorem fromsG_len (ls : List Six) (st : List Rg) : ∀ (l : List (Nat × Int)) (b : Option Nat), (fromsG ls st b l).length ≤ l.length
 | [], _ => Nat.le_refl _
 | x :: l, b => by
  show ((if frOk ls st b x.1 = true then [x.2] else []) ++ fromsG ls st (some x.1) l).length ≤ _
  have := fromsG_len ls st l (some x.1)
  rw [List.length_append, List.length_cons]
  split
  ·rw [List.length_singleton]; omega
  ·rw [List.length_nil]; omega
/-- What 'before' holds. -/
def bvV (pre : List (Nat × Int)) : Int := match lastM pre with | none => -1 | some m => m
theorem bvV_snoc (pre : List (Nat × Int)) (x : Nat × Int) : bvV (pre ++ [x]) = x.1 := by unfold bvV; rw [lastM_snoc]
theorem lastM_mem {pre : List (Nat × Int)} {m : Nat} (h : lastM pre = some m) : ∃ y ∈ pre, y.1 = m := by
 unfold lastM at h
 obtain ⟨y, hy, rfl⟩ := Option.map_eq_some_iff.1 h
 exact ⟨y, List.mem_of_getLast? hy, rfl⟩
set_option maxRecDepth 100000 in
set_option maxHeartbeats 4000000 in
theorem froms_any (bf bs pb : Nat) (known : Int) (A : Option Addr) (n c : Nat) (ls : List Six) (st : List Rg) (w : World) (hf : Fd w bf bs (.pointer (some ⟨pb, 0, none⟩)) known A n c (n + 1) st) (ha : Arr scells 6 w A n ls) (hn : n ≤ 100)
  (hw : Wb ls) (hb : Bd st 10000000) :
  Calls Tryz.prog 75 #[.pointer (some ⟨bf, 0, none⟩)] w fun e w' => (∃ v, e = .returned v ∧ OwnL icells 1 3 w' w.heap.size v (fromsL ls st)) ∧ Below w.heap.size w w' := by
 have HF := Lib.hid hf
 have HA := Lib.hid ha
 have hlen := Lib.hid ha.1
 have HW := Lib.hid hw
 have HB := Lib.hid hb
 have hbf := hf.f.lt
 have hbs := hf.s.lt
 clear hf ha hw hb
 refine (callsIn_wide (n := 4)).1 (callsIn_of_wp_marks Tryz.func75 rfl trivial ?_ rfl)
 simp only [Tryz.ntmps75, List.size_toArray, List.length_cons, List.length_nil, Nat.reduceAdd, Nat.reduceSub, Array.replicate_succ, Array.replicate_zero, List.push_toArray, List.append_toArray, List.nil_append, List.cons_append]
 gi_wp2_with fail
 refine ⟨trivial, (callsIn_wide.2 (ends_any _ _)).mono ?_⟩
 rintro e w' ⟨rfl, hw'⟩
 have hb1 : Blk w' w.heap.size 134 #[.pointer (some ⟨bf, 0, none⟩)] := by rw [← hw']; exact (((Blk.new _ _ _).alloc _).alloc _).alloc _
 have hb3 : Blk w' (w.heap.size + 1) 39 #[.slice none 0 0] := by
  rw [← hw']; have := Blk.new (w.alloc (.cells #[.pointer (some ⟨bf, 0, none⟩)] 134)) 39 #[.slice none 0 0]; rw [World.size_alloc] at this; exact (this.alloc _).alloc _
 have hb4 : Blk w' (w.heap.size + 1 + 1) 3 #[.int .i64 (-1)] := by
  rw [← hw']; have := Blk.new ((w.alloc (.cells #[.pointer (some ⟨bf, 0, none⟩)] 134)).alloc (.cells #[.slice none 0 0] 39)) 3 #[.int .i64 (-1)]; simp only [World.size_alloc] at this; exact this.alloc _
 have hbQ : Blk w' (w.heap.size + 1 + 1 + 1) 134 #[.pointer (some ⟨bf, 0, none⟩)] := by
  rw [← hw']; have := Blk.new (((w.alloc (.cells #[.pointer (some ⟨bf, 0, none⟩)] 134)).alloc (.cells #[.slice none 0 0] 39)).alloc (.cells #[.int .i64 (-1)] 3)) 134 #[.pointer (some ⟨bf, 0, none⟩)]; simp only [World.size_alloc] at this; exact this
 have hsz : w'.heap.size = w.heap.size + 4 := by rw [← hw']; simp
 have hbel : Below w.heap.size w w' := by rw [← hw']; exact ((((Below.refl _ _).alloc (Nat.le_refl _) _).alloc (by simp) _).alloc (by simp; omega) _).alloc (by simp; omega) _
 rw [show (((w.alloc (.cells #[.pointer (some ⟨bf, 0, none⟩)] 134)).alloc (.cells #[.slice none 0 0] 39)).alloc (.cells #[.int .i64 (-1)] 3)).heap.size = w.heap.size + 1 + 1 + 1 by simp]
 clear hw'
 rename World => W0
 obtain ⟨b3, hb3e⟩ : ∃ b3, w.heap.size + 1 = b3 := ⟨_, rfl⟩
 rw [hb3e] at hb3 hb4 hbQ ⊢
 obtain ⟨b4, hb4e⟩ : ∃ b4, b3 + 1 = b4 := ⟨_, rfl⟩
 rw [hb4e] at hb4 hbQ ⊢
 gi_wp2_with fail
 have HA0 := HA.out.below hbel
 have hf0 := HF.out.ext hbel
 have hAd : ∀ b o, A = some ⟨b, o, none⟩ → 0 < n → b ≠ b4 ∧ b ≠ b3 ∧ b < W0.heap.size := fun b o e h0 => by
  obtain ⟨b', o', e', hlt, -⟩ := HA.out.2 h0
  rw [e] at e'; cases e'
  omega
 have HSQ := Lib.hid (ends_seq 3 (by omega) W0 W0.heap.size (b4 + 1) bf b4 b3 A n c ls (hbQ.cell 0) (hf0.f.cell 2) HA0 (by omega) ⟨by omega, by omega, by omega⟩ ⟨by omega, by omega, by omega⟩ (by omega) (by omega) hAd)
 have HBE := Lib.hid hbel
 have HF0 := Lib.hid hf0
 have HAD := Lib.hid hAd
 have HA1 := Lib.hid HA0
 clear hbel hf0 HA0 hbQ hAd
 refine wp_rangeO (α := Nat × Int) (n := 4) (by omega) (gf := 194) (lb := #[.pointer (some ⟨b4 + 1, 0, none⟩)]) rfl (enters_of Tryz.func194 (by kernel_rfl) rfl) HSQ.out (Below.refl _ _) (fun _ => rfl)
  (fun pre W => FixU W0.heap.size b4 b3 W0 W ∧ Blk W b4 3 #[.int .i64 (bvV pre)] ∧ (∃ v, Blk W b3 39 #[v] ∧ OwnL icells 1 3 W W0.heap.size v (fromsG ls st none pre)) ∧ (∀ y ∈ pre, y.1 ≤ n) ∧ Oto W0 W) (fun _ _ _ => False) ?hI ?hIx ?h0
  (fun x a' W => a' = { tmps := #[.pointer (some ⟨bf, 0, none⟩), .pointer (some ⟨w.heap.size, 0, none⟩), .slice none 0 0, .pointer (some ⟨b3, 0, none⟩), .pointer (some ⟨b4, 0, none⟩), .int .i64 x.1, .int .i64 x.2, .pointer (some ⟨bf, 0, none⟩), .func (.func 194) #[] #[.pointer (some ⟨b4 + 1, 0, none⟩)], .int .i64 x.1, .int .i64 x.2, undef, undef, undef, undef, undef, undef, undef, undef, undef, undef, undef, undef, undef, undef, undef, undef, undef, undef, undef, undef, undef, undef, undef, undef, undef, undef, undef, undef, undef, undef, undef, undef, undef, undef, undef, undef, undef, undef, undef, undef, undef], defers := [] }) ?hAx ?assign ?body ?done ?stop
 case hI =>
  rintro pre X Y row ⟨hfx, hbv, ⟨v, hbo, ho⟩, hpl, hto⟩ hg hr
  have hr1 : ∀ r, row = some r → ∃ o : Obj, X.heap[r]? = some o ∧ o.isCells = false := fun r e => (hr r e).2
  exact ⟨(FixU.own (α := Nat) (Nat.le_refl _)) [] _ _ _ hfx hg hr, hbv.own hg hr1, ⟨v, hbo.own hg hr1, ho.held hg hr1⟩, hpl, hto.grown hg⟩
 case hIx => exact fun _ _ _ _ _ hs _ _ => hs
 case h0 => exact ⟨FixU.refl _ _ _ _, hb4, ⟨_, hb3, OwnL.nil _ _⟩, fun y hy => (by cases hy), Oto.refl _⟩
 case hAx => exact fun _ _ _ _ _ _ h _ _ => h
 case assign =>
  rintro l pre x X K hI hK
  unfold encE
  gi_wp2
  exact hK _ _ (KeepsFrom.refl _ _) (FixU.refl _ _ _ _) hI rfl
 case body =>
  rintro l pre ⟨xm, xh⟩ a' X hl - ⟨hfx, hbv, ⟨v, hbo, ho⟩, hpl, hto⟩ rfl hlt hG
  have hXs := hfx.size
  have hxm : xm ≤ n := by
   rcases hG with e | ⟨i, hi, e⟩
   ·cases e; exact Nat.zero_le _
   ·cases e; have := hlen.out; omega
  have hpl' : ∀ y ∈ pre ++ [(xm, xh)], y.1 ≤ n := fun y hy => by
   rcases List.mem_append.1 hy with hy | hy
   ·exact hpl y hy
   ·rw [List.mem_singleton.1 hy]; exact hxm
  have hfX : Fd X bf bs (.pointer (some ⟨pb, 0, none⟩)) known A n c (n + 1) st := ⟨hfx.blk HF0.out.f (by omega) (by omega) (.inl (by omega)), hfx.blk HF0.out.s (by omega) (by omega) (.inl (by omega)), HF0.out.len, HF0.out.ne⟩
  have hAX : Arr scells 6 X A n ls := hfx.arr HA1.out HAD.out
  have q1 := hfx.cell (hb1.cell 0) (by omega) (by omega) (by omega)
  have f3 := hfX.f.cell 3
  have s0 : X.cell? ⟨bs, xm * 2, none⟩ = some (.int .i64 (Lo st xm)) := by rw [hfX.s.cell, (rvals_at (by rw [hfX.len]; omega)).1]
  have n0 := hbv.cell 0
  have n1 := hbv.frozen 0
  have o0 := hbo.cell 0
  have o1 := hbo.frozen 0
  have HV := Lib.hid (bvV_snoc pre (xm, xh))
  have HG2 := Lib.hid (fromsG_snoc ls st pre (xm, xh))
  have HFR := Lib.hid (show frOk ls st (lastM pre) xm = (decide (Lo st xm = 0) && (match lastM pre with | none => true | some b => sbS ls st b xm)) from rfl)
  obtain ⟨lo, hlo⟩ : ∃ lo, Lo st xm = lo := ⟨_, rfl⟩
  rw [hlo] at s0 HFR
  have hxi : (xm : Int) < (n : Int) + 1 := by omega
  have HTO := Lib.hid hto
  have HFX := Lib.hid hfx
  have HBV := Lib.hid hbv
  have HBO := Lib.hid hbo
  have HO := Lib.hid ho
  have HPL := Lib.hid hpl'
  have HPL0 := Lib.hid hpl
  have HFd := Lib.hid hfX
  have HAX := Lib.hid hAX
  have HAR := Lib.hid (fun b o e h0 => HAD.out b o e h0)
  have hlt2 := Lib.hid hlt
  clear hlo hto hfx hbv hbo ho hpl hpl' hfX hAX hG hlt
  by_cases hz : lo = 0
  case neg =>
   have e1 : (lo == 0) = false := by simpa using hz
   have HFR2 := Lib.hid (show frOk ls st (lastM pre) xm = false by rw [HFR.out, decide_eq_false hz]; rfl)
   gi_wp2
   case h_1.isFalse h5 h6 => cases h5
   case h_1.isTrue h5 h6 => cases h5
   case h_2 h5 =>
    clear h5
    refine ⟨trivial, ?_⟩
    gi_wp2
    refine ⟨(KeepsOthers.setCell _ _ _).from _, (FixU.refl _ _ _ _).setCell (p := ⟨b4, 0, none⟩) (.inl rfl) _, HFX.out.setCell (p := ⟨b4, 0, none⟩) (.inl rfl) _, ?_, ⟨v, HBO.out.far (by show b3 ≠ b4; omega) _, ?_⟩, HPL.out, HTO.out.set _ _⟩
    ·rw [HV.out]; exact HBV.out.set_ 0 _
    ·rw [HG2.out, HFR2.out]
     simp only [Bool.false_eq_true, if_false, List.append_nil]
     exact HO.out.far (p := ⟨b4, 0, none⟩) (by show b4 < _; omega) _
  case pos =>
   subst hz
   have hn43 : ¬ b4 = b3 := by omega
   have hn34 : ¬ b3 = b4 := by omega
   have HFL := Lib.hid (show (fromsG ls st none pre).length + 1 ≤ 1000000 by have := fromsG_len ls st pre none; have := hlt2.out; omega)
   have HOX := Lib.hid (HO.out.ext (one_more X (.cells #[.int .i64 xh] 3)))
   have HI1 := Lib.hid (one_int (Blk.new X 3 #[.int .i64 xh]))
   have FixTA := Lib.hid (fun (D : Nat) (V : World) (g : Below X.heap.size X V) => (⟨g.size, fun k o _ hk _ => (g.block k (Array.getElem?_eq_some_iff.1 hk).1).trans hk⟩ : KeepsFrom D X V))
   have HOB := Lib.hid (fun (k : Nat) (e : v.ownBlock = some k) => (own_cells HO.out e).1)
   cases hlm : lastM pre with
   | none =>
    have HFR2 := Lib.hid (show frOk ls st (lastM pre) xm = true by rw [HFR.out, hlm]; rfl)
    have hbe : bvV pre = -1 := by unfold bvV; rw [hlm]
    rw [hbe] at n0
    clear hlm hbe
    gi_wp2_with fail
    refine ⟨trivial, ?_⟩
    gi_wp2_with (first | (gi_at_builtin; go_loud (refine wpListIn_app kdI (by rfl) _ _ (by rfl) W0.heap.size v (fromsG ls st none pre) (by rfl) HOX.out _ 1 1 [xh] (by rfl) HI1.out HFL.out (by simp; omega) ?_); intro v' w2 ho2 hg2; obtain ⟨Av, cv, hve, -⟩ := OwnL.arr kdI ho2; obtain ⟨nv, hnv⟩ : ∃ nv, (fromsG ls st none pre ++ [xh]).length = nv := ⟨_, rfl⟩; rw [hnv] at hve; subst hve; clear hnv; have b9 := ((HBO.out.alloc (.cells #[.int .i64 xh] 3)).grown hg2 (fun e => by have := HOB.out _ e; omega)); have m0 := b9.cell 0; have m1 := b9.frozen 0; have b8 := ((HBV.out.alloc (.cells #[.int .i64 xh] 3)).grown hg2 (fun e => by have := HOB.out _ e; omega)); have m2 := b8.cell 0; have m3 := b8.frozen 0; have HB8 := Lib.hid b8; have HS := Lib.hid (app_step b4 HBO.out HO.out (by omega) ho2 hg2); clear ho2 hg2 b9 b8))
    refine ⟨(HS.out.kf _).trans ((KeepsOthers.setCell _ _ _).from _), (HS.out.fx).setCell (p := ⟨b4, 0, none⟩) (.inl rfl) _, (HFX.out.trans (HS.out.fx)).setCell (p := ⟨b4, 0, none⟩) (.inl rfl) _, ?_, ⟨_, HS.out.bx.far (by show b3 ≠ b4; omega) _, ?_⟩, HPL.out, (HTO.out.trans HS.out.oto).set _ _⟩
    ·rw [HV.out]; exact (HB8.out.far (by show b4 ≠ b3; omega) _).set_ 0 _
    ·rw [HG2.out, HFR2.out]
     exact HS.out.own.far (p := ⟨b4, 0, none⟩) (by show b4 < _; omega) _
   | some bm =>
    have hbe : bvV pre = (bm : Int) := by unfold bvV; rw [hlm]
    have hbm : bm ≤ n := by
     obtain ⟨y, hy, e⟩ := lastM_mem hlm
     have := HPL0.out y hy
     omega
    have HT := Lib.hid (stoodBefore_any bf bs pb known A n c ls st bm xm X HFd.out HAX.out hn HW.out HB.out hbm hxm)
    have HFR2 := Lib.hid (show frOk ls st (lastM pre) xm = sbS ls st bm xm by rw [HFR.out, hlm]; rfl)
    rw [hbe] at n0
    obtain ⟨sb, hsb⟩ : ∃ sb, sbS ls st bm xm = sb := ⟨_, rfl⟩
    rw [hsb] at HT HFR2
    clear hlm hbe hsb
    have hbm0 : ¬ (bm : Int) < 0 := by omega
    have hbmd : decide ((bm : Int) < 0) = false := decide_eq_false hbm0
    cases sb with
    | false =>
     gi_wp2_with (refine ⟨trivial, ?_⟩; gi_at_call 153; refine (CallsIn.inRound l (callsIn_wide.2 HT.out)).mono ?_; rintro e W7 ⟨rfl, g7⟩; have G7 := Lib.hid g7; have HBO7 := Lib.hid (HBO.out.ext g7); have HBV7 := Lib.hid (HBV.out.ext g7); have HO7 := Lib.hid (HO.out.ext g7); have HOX7 := Lib.hid ((HO.out.ext g7).ext (one_more W7 (.cells #[.int .i64 xh] 3))); have HI17 := Lib.hid (one_int (Blk.new W7 3 #[.int .i64 xh])); have c0 := HBO7.out.cell 0; have c1 := HBO7.out.frozen 0; have c2 := HBV7.out.cell 0; have c3 := HBV7.out.frozen 0; have c4 := g7.size; clear g7)
     refine ⟨(FixTA.out W0.heap.size W7 G7.out).trans ((KeepsOthers.setCell _ _ _).from _), (FixU.of_below G7.out).setCell (p := ⟨b4, 0, none⟩) (.inl rfl) _, (HFX.out.trans (FixU.of_below G7.out)).setCell (p := ⟨b4, 0, none⟩) (.inl rfl) _, ?_, ⟨_, HBO7.out.far (by show b3 ≠ b4; omega) _, ?_⟩, HPL.out, (HTO.out.below G7.out).set _ _⟩
     ·rw [HV.out]; exact HBV7.out.set_ 0 _
     ·rw [HG2.out, HFR2.out]
      simp only [Bool.false_eq_true, if_false, List.append_nil]
      exact HO7.out.far (p := ⟨b4, 0, none⟩) (by show b4 < _; omega) _
    | true =>
     gi_wp2_with (first | (refine ⟨trivial, ?_⟩; gi_at_call 153; refine (CallsIn.inRound l (callsIn_wide.2 HT.out)).mono ?_; rintro e W7 ⟨rfl, g7⟩; have G7 := Lib.hid g7; have HBO7 := Lib.hid (HBO.out.ext g7); have HBV7 := Lib.hid (HBV.out.ext g7); have HO7 := Lib.hid (HO.out.ext g7); have HOX7 := Lib.hid ((HO.out.ext g7).ext (one_more W7 (.cells #[.int .i64 xh] 3))); have HI17 := Lib.hid (one_int (Blk.new W7 3 #[.int .i64 xh])); have c0 := HBO7.out.cell 0; have c1 := HBO7.out.frozen 0; have c2 := HBV7.out.cell 0; have c3 := HBV7.out.frozen 0; have c4 := g7.size; clear g7) | (gi_at_builtin; go_loud (refine wpListIn_app kdI (by rfl) _ _ (by rfl) W0.heap.size v (fromsG ls st none pre) (by rfl) HOX7.out _ 1 1 [xh] (by rfl) HI17.out HFL.out (by simp; omega) ?_); intro v' w2 ho2 hg2; obtain ⟨Av, cv, hve, -⟩ := OwnL.arr kdI ho2; obtain ⟨nv, hnv⟩ : ∃ nv, (fromsG ls st none pre ++ [xh]).length = nv := ⟨_, rfl⟩; rw [hnv] at hve; subst hve; clear hnv; have b9 := ((HBO7.out.alloc (.cells #[.int .i64 xh] 3)).grown hg2 (fun e => by have := HOB.out _ e; omega)); have m0 := b9.cell 0; have m1 := b9.frozen 0; have b8 := ((HBV7.out.alloc (.cells #[.int .i64 xh] 3)).grown hg2 (fun e => by have := HOB.out _ e; omega)); have m2 := b8.cell 0; have m3 := b8.frozen 0; have HB8 := Lib.hid b8; have HS := Lib.hid (app_step b4 HBO7.out HO7.out (by omega) ho2 hg2); clear ho2 hg2 b9 b8))
     refine ⟨(FixTA.out W0.heap.size W7 G7.out).trans ((HS.out.kf _).trans ((KeepsOthers.setCell _ _ _).from _)), ((FixU.of_below G7.out).trans HS.out.fx).setCell (p := ⟨b4, 0, none⟩) (.inl rfl) _, (HFX.out.trans ((FixU.of_below G7.out).trans HS.out.fx)).setCell (p := ⟨b4, 0, none⟩) (.inl rfl) _, ?_, ⟨_, HS.out.bx.far (by show b3 ≠ b4; omega) _, ?_⟩, HPL.out, ((HTO.out.below G7.out).trans HS.out.oto).set _ _⟩
     ·rw [HV.out]; exact (HB8.out.far (by show b4 ≠ b3; omega) _).set_ 0 _
     ·rw [HG2.out, HFR2.out]
      exact HS.out.own.far (p := ⟨b4, 0, none⟩) (by show b4 < _; omega) _
 case done =>
  rintro D xs X hD hS ⟨hfx, hbv, ⟨v, hbo, ho⟩, hpl, hto⟩ hK
  have hXs := hfx.size
  have hfX : Fd X bf bs (.pointer (some ⟨pb, 0, none⟩)) known A n c (n + 1) st := ⟨hfx.blk HF0.out.f (by omega) (by omega) (.inl (by omega)), hfx.blk HF0.out.s (by omega) (by omega) (.inl (by omega)), HF0.out.len, HF0.out.ne⟩
  have q1 := hfx.cell (hb1.cell 0) (by omega) (by omega) (by omega)
  have f2 := hfX.f.cell 2
  have f3 := hfX.f.cell 3
  have s0 : X.cell? ⟨bs, n * 2 + 1, none⟩ = some (.int .i64 (Hi st n)) := by rw [hfX.s.cell, (rvals_at (by rw [hfX.len]; omega)).2]
  have o0 := hbo.cell 0
  have HFR := Lib.hid (show fromsL ls st = fromsG ls st none xs ++ (if 0 < Hi st n then [100000] else []) by rw [hS]; unfold fromsL; rw [hlen.out])
  obtain ⟨hi, hhi⟩ : ∃ hi, Hi st n = hi := ⟨_, rfl⟩
  rw [hhi] at s0 HFR
  have HFL := Lib.hid (show (fromsG ls st none xs).length + 1 ≤ 1000000 by
   have h1 := fromsG_len ls st xs none
   have h2 := endsOf_len ls (List.range ls.length)
   have h3 : xs.length ≤ ls.length + 1 := by rw [hS]; rw [List.length_range] at h2; exact h2
   have := hlen.out
   omega)
  have HBO := Lib.hid hbo
  have HO := Lib.hid ho
  have HK := Lib.hid hK
  have HFX := Lib.hid hfx
  have HTO := Lib.hid hto
  clear hbv hbo ho hfx hto hK hfX hhi hS hpl
  have hnn : (n : Int) < (n : Int) + 1 := by omega
  gi_wp2_with fail
  refine wpIn_region_quiet Open.wide (C := fun w' => ∃ n, w' = X.drewN n) (by kernel_rfl) (by kernel_rfl) (by kernel_rfl) ⟨1, rfl⟩ ?_
  repeat (go_big_quiet_step (fail))
  refine wpQuiet_nil ?_
  rintro _ ⟨d, rfl⟩
  have gd : Below X.heap.size X (X.drewN d) := ⟨rfl, rfl, rfl, Nat.le_refl _, fun _ _ => rfl⟩
  have HBO2 := Lib.hid (HBO.out.drewN d)
  have HO2 := Lib.hid (HO.out.ext gd)
  have HK2 := Lib.hid (show (X.drewN d).heap[D]? = some (.deferred (some [])) from HK.out)
  have HFX2 := Lib.hid (HFX.out.trans (FixU.of_below gd))
  have HTO2 := Lib.hid (HTO.out.below gd)
  have hVs : W0.heap.size ≤ (X.drewN d).heap.size := hXs
  clear q1 f2 f3 s0 o0 gd hXs
  generalize X.drewN d = V at HBO2 HO2 HK2 HFX2 HTO2 hVs ⊢
  have HOB := Lib.hid (fun (k : Nat) (e : v.ownBlock = some k) => (own_cells HO2.out e).1)
  have v0 := HBO2.out.cell 0
  have v1 := HBO2.out.frozen 0
  by_cases hp : 0 < hi
  ·have HFR2 := Lib.hid (show fromsL ls st = fromsG ls st none xs ++ [100000] by rw [HFR.out, if_pos hp])
   have HOX := Lib.hid (HO2.out.ext (one_more V (.cells #[.int .i64 100000] 3)))
   have HI1 := Lib.hid (one_int (Blk.new V 3 #[.int .i64 100000]))
   gi_wp2_with (first | (gi_at_builtin; go_loud (refine wpListIn_app kdI (by rfl) _ _ (by rfl) W0.heap.size v (fromsG ls st none xs) (by rfl) HOX.out _ 1 1 [100000] (by rfl) HI1.out HFL.out (by simp; omega) ?_); intro v' w2 ho2 hg2; obtain ⟨Av, cv, hve, -⟩ := OwnL.arr kdI ho2; obtain ⟨nv, hnv⟩ : ∃ nv, (fromsG ls st none xs ++ [100000]).length = nv := ⟨_, rfl⟩; rw [hnv] at hve; subst hve; clear hnv; have b9 := ((HBO2.out.alloc (.cells #[.int .i64 100000] 3)).grown hg2 (fun e => by have := HOB.out _ e; omega)); have m0 := b9.cell 0; have m1 := b9.frozen 0; have HS := Lib.hid (app_step b4 HBO2.out HO2.out (by omega) ho2 hg2); have HKK := Lib.hid ((HS.out.kf 0).same D _ (Nat.zero_le _) HK2.out rfl); clear ho2 hg2 b9))
   refine ⟨by simp, .inl ⟨_, _, rfl, run_takeDeferred HKK.out, ?_⟩⟩
   refine ⟨_, results_tmp rfl _ _ _, ⟨_, rfl, ?_⟩, HBE.out.trans ?_⟩
   ·rw [HFR2.out]
    exact (HS.out.own.held (grownBy_putObj' _ D _) (fun r e => by cases e; exact ⟨_, HKK.out, rfl⟩)).mono HBE.out.size
   ·refine ((HFX2.out.trans HS.out.fx).below (D := w.heap.size) (HTO2.out.trans HS.out.oto) (by omega) (by omega) (by omega) (by omega)).grown (grownBy_putObj' _ D _) ?_ (fun k hk => by cases hk; omega)
    have := (HFX2.out.trans HS.out.fx).size
    omega
  ·have HFR2 := Lib.hid (show fromsL ls st = fromsG ls st none xs by rw [HFR.out, if_neg hp, List.append_nil])
   gi_wp2_with fail
   refine ⟨by simp, .inl ⟨_, _, rfl, run_takeDeferred HK2.out, ?_⟩⟩
   refine ⟨_, results_tmp rfl _ _ _, ⟨_, rfl, ?_⟩, HBE.out.trans ?_⟩
   ·rw [HFR2.out]
    exact (HO2.out.held (grownBy_putObj' _ D _) (fun r e => by cases e; exact ⟨_, HK2.out, rfl⟩)).mono HBE.out.size
   ·exact (HFX2.out.below (D := w.heap.size) HTO2.out (by omega) (by omega) (by omega) (by omega)).grown (grownBy_putObj' _ D _) (by omega) (fun k hk => by cases hk; omega)
 case stop =>
  rintro D cd pre X _ _ h _
  exact h.elim
end Go.Proofs.YtkoejeghihcmlaaGreat
namespace Go.Proofs.YtkoejeghihcmlaaGreat
open Go.RowKit Go.Shelf
def minI (l : List Int) : Int := l.tail.foldl min (l.headD 0)
def maxI (l : List Int) : Int := l.tail.foldl max (l.headD 0)
theorem getD_int {l : List Int} {k : Nat} (hk : k < l.length) : l.getD k 0 = l[k] := by rw [List.getD_eq_getElem?_getD, List.getElem?_eq_getElem hk]; rfl
theorem minI_succ {l : List Int} {k : Nat} (h0 : 0 < k) (hk : k < l.length) : minI (l.take (k + 1)) = min (minI (l.take k)) (l.getD k 0) := by
 cases l with
 | nil => cases hk
 | cons x l =>
  obtain ⟨k, rfl⟩ : ∃ j, k = j + 1 := ⟨k - 1, by omega⟩
  have hk' : k < l.length := by simpa using hk
  unfold minI
  simp only [List.take_succ_cons, List.tail_cons, List.headD_cons]
  rw [List.take_succ_eq_append_getElem hk', List.foldl_append]
  rw [getD_int hk]
  rfl
theorem maxI_succ {l : List Int} {k : Nat} (h0 : 0 < k) (hk : k < l.length) : maxI (l.take (k + 1)) = max (maxI (l.take k)) (l.getD k 0) := by
 cases l with
 | nil => cases hk
 | cons x l =>
  obtain ⟨k, rfl⟩ : ∃ j, k = j + 1 := ⟨k - 1, by omega⟩
  have hk' : k < l.length := by simpa using hk
  unfold maxI
  simp only [List.take_succ_cons, List.tail_cons, List.headD_cons]
  rw [List.take_succ_eq_append_getElem hk', List.foldl_append]
  rw [getD_int hk]
  rfl
theorem minI_one {l : List Int} (h : 0 < l.length) : minI (l.take 1) = l.getD 0 0 := by
 cases l with
 | nil => cases h
 | cons x l => rfl
theorem maxI_one {l : List Int} (h : 0 < l.length) : maxI (l.take 1) = l.getD 0 0 := by
 cases l with
 | nil => cases h
 | cons x l => rfl
theorem foldl_min_le : ∀ (l : List Int) (a : Int), l.foldl min a ≤ a ∧ (∀ x ∈ l, l.foldl min a ≤ x) ∧ (l.foldl min a = a ∨ l.foldl min a ∈ l)
 | [], a => ⟨Int.le_refl _, fun _ h => (by cases h), .inl rfl⟩
 | y :: l, a => by
  rw [List.foldl_cons]
  obtain ⟨h1, h2, h3⟩ := foldl_min_le l (min a y)
  refine ⟨by omega, fun x hx => ?_, ?_⟩
  ·rcases List.mem_cons.1 hx with rfl | hx
   ·omega
   ·exact h2 x hx
  ·rcases h3 with h3 | h3
   ·rw [h3]
    by_cases h : a ≤ y
    ·exact .inl (by omega)
    ·exact .inr (List.mem_cons.2 (.inl (by omega)))
   ·exact .inr (List.mem_cons_of_mem _ h3)
theorem minI_spec {l : List Int} (h : l ≠ []) : minI l ∈ l ∧ ∀ x ∈ l, minI l ≤ x := by
 cases l with
 | nil => exact absurd rfl h
 | cons y l =>
  obtain ⟨h1, h2, h3⟩ := foldl_min_le l y
  refine ⟨?_, fun x hx => ?_⟩
  ·show l.foldl min y ∈ _
   rcases h3 with h3 | h3
   ·rw [h3]; exact List.mem_cons_self
   ·exact List.mem_cons_of_mem _ h3
  ·rcases List.mem_cons.1 hx with rfl | hx
   ·exact h1
   ·exact h2 x hx
theorem min_any (A : Option Addr) (n c : Nat) (l : List Int) (w : World) (ha : Ints w A n l) (h0 : 0 < n) (hn : n ≤ 1000000) :
  Calls Tryz.prog 85 #[.slice A n c] w fun e w' => e = .returned (.int .i64 (minI l)) ∧ w = w' := by
 have HA := Lib.hid ha
 have hlen := Lib.hid ha.1
 clear ha
 obtain ⟨b, o, rfl, -, -, hc⟩ := ints_at HA.out h0
 have d0 := hc _ (Below.refl _ _)
 have H1 := Lib.hid (minI_one (l := l) (by rw [hlen.out]; exact h0))
 obtain ⟨y, hy⟩ : ∃ y, l.getD 0 0 = y := ⟨_, rfl⟩
 rw [hy] at d0 H1
 clear hc hy
 have hn1 : (1 : Int) ≤ (n : Int) := by omega
 have hn2 : decide ((n : Int) < 1) = false := decide_eq_false (by omega)
 rw [Nat.add_zero] at d0
 go_enter Tryz.func85, Tryz.ntmps85
 go_wp2_with fail
 go_loop [3, 4] (fun m i => ∃ k : Nat, 0 < k ∧ k ≤ n ∧ i = .int .i64 k ∧ m = .int .i64 (minI (l.take k))) (fun _ i => n - (intOf i).toNat)
 case atStart => exact ⟨1, by omega, by omega, rfl, by rw [H1.out]⟩
 case round =>
  obtain ⟨k, hk0, hk, rfl, rfl⟩ := hrel
  by_cases hkn : k < n
  ·obtain ⟨b', o', e', -, -, hc⟩ := ints_at HA.out hkn
   cases e'
   have d1 := hc _ (Below.refl _ _)
   have HS := Lib.hid (minI_succ hk0 (l := l) (by rw [hlen.out]; exact hkn))
   obtain ⟨y, hy⟩ : ∃ y, l.getD k 0 = y := ⟨_, rfl⟩
   obtain ⟨m, hm⟩ : ∃ m, minI (l.take k) = m := ⟨_, rfl⟩
   rw [hy] at d1 HS
   rw [hm] at HS ⊢
   clear hc hy hm
   go_wp2_with fail
   go_round
   case rel => exact ⟨k + 1, by omega, by omega, by go_num, by first | rw [HS.out, show (if y < m then y else m) = min m y by split <;> omega] | rw [HS.out]⟩
   case measure => simp [intOf]; omega
  ·obtain rfl : n = k := by omega
   have HT := Lib.hid (show l.take n = l from List.take_of_length_le (by rw [hlen.out]; exact Nat.le_refl _))
   rw [HT.out]
   go_wp2_with fail
   go_ret
   exact ⟨rfl, rfl⟩
theorem max_any (A : Option Addr) (n c : Nat) (l : List Int) (w : World) (ha : Ints w A n l) (h0 : 0 < n) (hn : n ≤ 1000000) :
  Calls Tryz.prog 86 #[.slice A n c] w fun e w' => e = .returned (.int .i64 (maxI l)) ∧ w = w' := by
 have HA := Lib.hid ha
 have hlen := Lib.hid ha.1
 clear ha
 obtain ⟨b, o, rfl, -, -, hc⟩ := ints_at HA.out h0
 have d0 := hc _ (Below.refl _ _)
 have H1 := Lib.hid (maxI_one (l := l) (by rw [hlen.out]; exact h0))
 obtain ⟨y, hy⟩ : ∃ y, l.getD 0 0 = y := ⟨_, rfl⟩
 rw [hy] at d0 H1
 clear hc hy
 have hn1 : (1 : Int) ≤ (n : Int) := by omega
 have hn2 : decide ((n : Int) < 1) = false := decide_eq_false (by omega)
 rw [Nat.add_zero] at d0
 go_enter Tryz.func86, Tryz.ntmps86
 go_wp2_with fail
 go_loop [3, 4] (fun m i => ∃ k : Nat, 0 < k ∧ k ≤ n ∧ i = .int .i64 k ∧ m = .int .i64 (maxI (l.take k))) (fun _ i => n - (intOf i).toNat)
 case atStart => exact ⟨1, by omega, by omega, rfl, by rw [H1.out]⟩
 case round =>
  obtain ⟨k, hk0, hk, rfl, rfl⟩ := hrel
  by_cases hkn : k < n
  ·obtain ⟨b', o', e', -, -, hc⟩ := ints_at HA.out hkn
   cases e'
   have d1 := hc _ (Below.refl _ _)
   have HS := Lib.hid (maxI_succ hk0 (l := l) (by rw [hlen.out]; exact hkn))
   obtain ⟨y, hy⟩ : ∃ y, l.getD k 0 = y := ⟨_, rfl⟩
   obtain ⟨m, hm⟩ : ∃ m, maxI (l.take k) = m := ⟨_, rfl⟩
   rw [hy] at d1 HS
   rw [hm] at HS ⊢
   clear hc hy hm
   go_wp2_with fail
   go_round
   case rel => exact ⟨k + 1, by omega, by omega, by go_num, by first | rw [HS.out, show (if m < y then y else m) = max m y by split <;> omega] | rw [HS.out]⟩
   case measure => simp [intOf]; omega
  ·obtain rfl : n = k := by omega
   have HT := Lib.hid (show l.take n = l from List.take_of_length_le (by rw [hlen.out]; exact Nat.le_refl _))
   rw [HT.out]
   go_wp2_with fail
   go_ret
   exact ⟨rfl, rfl⟩
theorem tmod_mod (n m : Int) : (n.tmod m + m) % m = n % m := by
 rw [Int.add_emod_right]
 rw [← Int.emod_emod_of_dvd (n.tmod m) (Int.dvd_refl m)]
 have h2 : n.tmod m = n - m * n.tdiv m := Int.tmod_def n m
 rw [h2, Int.emod_emod_of_dvd _ (Int.dvd_refl m), Int.sub_mul_emod_self_left]
theorem mod_any (n m : Int) (w : World) (h0 : 0 < m) (h1 : m ≤ 1000000) :
  Calls Tryz.prog 17 #[.int .i64 n, .int .i64 m] w fun e w' => e = .returned (.int .i64 (n % m)) ∧ w = w' := by
 have HM := Lib.hid (tmod_mod n m)
 have b1 : -m < n.tmod m := by have := Int.lt_tmod_of_pos n h0; omega
 have b2 : n.tmod m < m := Int.tmod_lt_of_pos n h0
 have hne : (m == 0) = false := by simp; omega
 have hne2 : ¬ m = 0 := by omega
 go_enter Tryz.func17, Tryz.ntmps17
 go_wp2_with fail
 go_ret
 exact ⟨by rw [HM.out]; rfl, rfl⟩
end Go.Proofs.YtkoejeghihcmlaaGreat
namespace Go.Proofs.YtkoejeghihcmlaaGreat
open Go.RowKit Go.Shelf
/-- All ends are those of numbers of sheaves. -/
def Ps (st : List Rg) : Prop := ∀ i, i < st.length → 0 ≤ Lo st i ∧ Hi st i ≤ 10000
theorem ps_nar {st : List Rg} (h : Ps st) (i : Nat) (r : Rg) : Ps (nar st i r) := by
 intro j hj
 rw [nar_len] at hj
 by_cases hi : i < st.length
 ·have := nar_le hi r j
  have := h j hj
  omega
 ·have : nar st i r = st := by unfold nar; exact List.set_eq_of_length_le (by omega)
  rw [this]; exact h j hj
theorem Ps.stands {known : Int} {meant : Int → Bool} {ls : List Six} : ∀ {l : List Six} {st : List Rg}, Ps st → Ps (standsF known meant ls l st)
 | [], _, h => h
 | x :: l, st, h => by
  unfold standsF
  rw [List.foldl_cons]
  refine Ps.stands (l := l) ?_
  split
  ·exact ps_nar h _ _
  ·exact h
theorem stood0_ps {p : Pl} (h : okPl p = true) (n : Nat) : Ps (stood0 p n) := by
 have h1 := ok_parts h
 intro i hi
 unfold stood0 at hi ⊢
 cases i with
 | zero => exact ⟨h1.2.2.1, h1.2.2.2.2.1⟩
 | succ i =>
  have hi' : i < n := by simpa using hi
  unfold Lo Hi
  rw [List.getD_cons_succ, List.getD_eq_getElem?_getD, List.getElem?_replicate, if_pos hi']
  exact ⟨Int.le_refl _, Int.le_refl _⟩
theorem look_len (p : Pl) (known : Int) (meant : Int → Bool) : (lookS p known meant).length = (lookL p known meant).length + 1 := by
 unfold lookS
 rw [settle_len, standsF_len, stood0_len]
theorem row_len (p : Pl) (known : Int) (meant : Int → Bool) (n : Nat) (ls l : List Six) : (standsF known meant ls l (stood0 p n)).length = n + 1 := by rw [standsF_len, stood0_len]
theorem look_wid {p : Pl} (h : okPl p = true) (known : Int) (meant : Int → Bool) : ∀ i, i < (lookL p known meant).length → 0 ≤ Ls (lookL p known meant) i ∧ Ls (lookL p known meant) i ≤ Gr (lookL p known meant) i := fun i hi => by
 have := lookL_num h known meant _ (getD_mem hi)
 unfold Num at this
 exact ⟨this.2.2.1, this.2.2.2.1⟩
theorem look_rw {p : Pl} (h : okPl p = true) {known : Int} {meant : Int → Bool} (hs : sound (lookS p known meant) = true) : Rw (lookL p known meant) (lookS p known meant) := by
 have hlen := look_len p known meant
 have hl0 := row_len p known meant (lookL p known meant).length (lookL p known meant) p.stands
 have hw := look_wid h known meant
 refine ⟨hlen, hw, ?_, ?_, ?_, ?_, srtH_up _⟩
 ·exact settle_arc hl0 (fun i hi => (hw i hi).2)
 ·exact fun i hi => sound_iff.1 hs i (by omega)
 ·intro i hi
  have h1 := (settle_le hl0 i).1
  have h2 := (Ps.stands (known := known) (meant := meant) (ls := lookL p known meant) (l := p.stands) (stood0_ps h (lookL p known meant).length)) i (by rw [hl0]; omega)
  exact Int.le_trans h2.1 h1
 ·intro x hx
  have := lookL_num h known meant _ hx
  exact ⟨this.1, this.2.1⟩
theorem look_hi {p : Pl} (h : okPl p = true) (known : Int) (meant : Int → Bool) {i : Nat} (hi : i ≤ (lookL p known meant).length) : Hi (lookS p known meant) i ≤ 10000 := by
 have hl0 := row_len p known meant (lookL p known meant).length (lookL p known meant) p.stands
 have h1 := (settle_le hl0 i).2
 have h2 := (Ps.stands (known := known) (meant := meant) (ls := lookL p known meant) (l := p.stands) (stood0_ps h (lookL p known meant).length)) i (by rw [hl0]; omega)
 exact Int.le_trans h1 h2.2
theorem look_bd {p : Pl} (h : okPl p = true) {known : Int} {meant : Int → Bool} (hs : sound (lookS p known meant) = true) : Bd (lookS p known meant) 10000000 := fun i hi => by
 have hr := look_rw h hs
 have hi' : i ≤ (lookL p known meant).length := by have := look_len p known meant; omega
 have h1 := hr.pos i hi'
 have h2 := hr.snd i hi'
 have h3 := look_hi h known meant hi'
 omega
theorem ask_parts {p : Pl} {hours : List Int} {known : Int} (h : askE p hours known = 0) : okPl p = true ∧ sound (lookS p known every) = true ∧ hours.any noHour = false ∧ noDay known = false := by
 unfold askE at h
 by_cases hf : firstE p hours [known] = 0
 ·rw [if_pos hf] at h
  have hok := first_ok hf
  have hs : sound (lookS p known every) = true := by
   cases hs : sound (lookS p known every) with
   | true => rfl
   | false => rw [hs] at h; cases h
  unfold firstE at hf
  rw [if_pos hok] at hf
  by_cases h1 : hours.any noHour = true
  ·rw [if_pos h1] at hf; cases hf
  ·rw [if_neg h1] at hf
   by_cases h2 : [known].any noDay = true
   ·rw [if_pos h2] at hf; cases hf
   ·refine ⟨hok, hs, by simpa using h1, ?_⟩
    simpa using h2
 ·rw [if_neg hf] at h; exact absurd h hf
end Go.Proofs.YtkoejeghihcmlaaGreat
namespace Go.Proofs.YtkoejeghihcmlaaGreat
open Go.RowKit Go.Shelf
/-- The hours from which a plot's field may be clear. -/
def fromsP (p : Pl) (known : Int) : List Int := fromsL (lookL p known every) (lookS p known every)
theorem fromsL_len (ls : List Six) (st : List Rg) : (fromsL ls st).length ≤ ls.length + 2 := by
 have h1 := fromsG_len ls st (endsL ls) none
 have h2 := endsOf_len ls (List.range ls.length)
 rw [List.length_range] at h2
 have h3 : (endsL ls).length ≤ ls.length + 1 := h2
 unfold fromsL
 rw [List.length_append]
 split
 ·rw [List.length_singleton]; omega
 ·rw [List.length_nil]; omega
/-- The contract of froms, of a sound plot. -/
theorem fromsP_any {p : Pl} {B : Nat} {W : World} {pb : Nat} {known : Int} {bf bs : Nat} {A : Option Addr} {n c : Nat} (h : askE p [0] known = 0 ∨ ∃ h, askE p [h] known = 0) (h19 : p.loads.length ≤ 60)
  (hl : Lk B W pb known (lookL p known every) (lookS p known every) bf bs A n c) :
  Calls Tryz.prog 75 #[.pointer (some ⟨bf, 0, none⟩)] W fun e w' => ∃ D c', e = .returned (.slice D (fromsP p known).length c') ∧ Ints w' D (fromsP p known).length (fromsP p known) ∧ Below W.heap.size W w' := by
 have hh : okPl p = true ∧ sound (lookS p known every) = true := by
  rcases h with h | ⟨_, h⟩
  ·exact ⟨(ask_parts h).1, (ask_parts h).2.1⟩
  ·exact ⟨(ask_parts h).1, (ask_parts h).2.1⟩
 have h1 := lookL_len h19 known every
 have h2 := hl.num
 refine (froms_any bf bs pb known A n c (lookL p known every) (lookS p known every) W hl.fd hl.ar (by omega) (wb_of (lookL_num hh.1 known every)) (look_bd hh.1 hh.2)).mono ?_
 rintro e w' ⟨⟨v, rfl, ho⟩, hg⟩
 obtain ⟨D, c', rfl, -, -, ha, -⟩ := OwnL.arr kdI ho
 exact ⟨D, c', rfl, ha, hg⟩
def firstR (p : Pl) (known : Int) : Rg := if askE p [0] known = 0 then ⟨minI (fromsP p known), maxI (fromsP p known)⟩ else zR
theorem fromsP_ne {p : Pl} {known h : Int} (ha : askE p [h] known = 0) : fromsP p known ≠ [] := (look_rw (ask_parts ha).1 (ask_parts ha).2.1).froms_ne
set_option maxRecDepth 100000 in
set_option maxHeartbeats 4000000 in
theorem first'_any (p : Pl) (A1 A2 A3 : Option Addr) (n1 c1 n2 c2 n3 c3 : Nat) (known : Int) (w : World) (hp : Pa w p A1 A2 A3 n1 c1 n2 c2 n3 c3) (h19 : p.loads.length ≤ 60) :
  Calls Tryz.prog 23 #[plv p A1 A2 A3 n1 c1 n2 c2 n3 c3, .int .i64 known] w fun e w' => e = .returned (.tuple #[rv (firstR p known), .int .i64 (askE p [0] known)]) ∧ Below w.heap.size w w' := by
 obtain ⟨W2, hW2⟩ : ∃ W2, (w.alloc (.cells (plb p A1 A2 A3 n1 c1 n2 c2 n3 c3) 38)).alloc (.cells #[.int .i64 0, .int .i64 0] 33) = W2 := ⟨_, rfl⟩
 have g2 : Below w.heap.size w W2 := by rw [← hW2]; exact two_more _ _ _
 have b1 : Blk W2 w.heap.size 38 (plb p A1 A2 A3 n1 c1 n2 c2 n3 c3) := by rw [← hW2]; exact (Blk.new _ _ _).alloc _
 have b2 : Blk W2 (w.heap.size + 1) 33 #[.int .i64 0, .int .i64 0] := by
  rw [← hW2]
  have := Blk.new (w.alloc (.cells (plb p A1 A2 A3 n1 c1 n2 c2 n3 c3) 38)) 33 #[.int .i64 0, .int .i64 0]
  rw [World.size_alloc] at this
  exact this
 have T := Lib.hid (asked_any p A1 A2 A3 n1 c1 n2 c2 n3 c3 w.heap.size 0 known W2 b1 (hp.below g2) h19)
 have H19 := Lib.hid h19
 have G2 := Lib.hid g2
 have B2 := Lib.hid b2
 have hz2 := g2.size
 have HR := Lib.hid (show firstR p known = if askE p [0] known = 0 then ⟨minI (fromsP p known), maxI (fromsP p known)⟩ else zR from rfl)
 obtain ⟨rr, hrr⟩ : ∃ rr, firstR p known = rr := ⟨_, rfl⟩
 rw [hrr] at HR ⊢
 clear hrr hp g2 b1 h19
 by_cases he : askE p [0] known = 0
 ·have HA := Lib.hid he
  have HNE := Lib.hid (List.length_pos_iff.2 (fromsP_ne he))
  have HLE := Lib.hid (show (fromsP p known).length ≤ 1000 by have := fromsL_len (lookL p known every) (lookS p known every); have := lookL_len H19.out known every; unfold fromsP; omega)
  have HR2 := Lib.hid (show rr = ⟨minI (fromsP p known), maxI (fromsP p known)⟩ by rw [HR.out, if_pos he])
  rw [he] at T ⊢
  clear he b2
  go_enter Tryz.func23, Tryz.ntmps23
  go_upto_region 1 with fail
  go_wp2_with (first
   | (go_at_call 74; (with_reducible refine (T.out).mono ?_); rintro e W3 ⟨r, rfl, hg, hl⟩; obtain ⟨bf, bs, A, n, c, rfl, hl2⟩ := hl (by trivial); have G3 := Lib.hid hg; have HL := Lib.hid hl2; clear hg hl hl2)
   | (go_at_call 75; (with_reducible refine (fromsP_any (.inl HA.out) H19.out HL.out).mono ?_); rintro e W4 ⟨D, c', rfl, hi, hg⟩; have G4 := Lib.hid hg; have HI := Lib.hid hi; clear hg hi)
   | (go_at_call 85; (with_reducible refine (min_any _ _ _ _ _ HI.out HNE.out (Nat.le_trans HLE.out (by decide))).mono ?_); rintro e W5 ⟨rfl, rfl⟩)
   | (go_at_call 86; (with_reducible refine (max_any _ _ _ _ _ HI.out HNE.out (Nat.le_trans HLE.out (by decide))).mono ?_); rintro e W5 ⟨rfl, rfl⟩; have hb4 := (B2.out.ext G3.out).ext G4.out; have q0 := hb4.cell 0; have q1 := hb4.cell 1; have q2 := hb4.frozen 0; have q3 := hb4.frozen 1; clear hb4))
  have hb9 := (((B2.out.ext G3.out).ext G4.out).set_ 0 (.int .i64 (minI (fromsP p known)))).set_ 1 (.int .i64 (maxI (fromsP p known)))
  have r0 := hb9.cell 0
  have r1 := hb9.cell 1
  have GG := Lib.hid (((G2.out.trans ((G3.out.trans (G4.out.mono G3.out.size)).mono G2.out.size)).setCell (p := ⟨w.heap.size + 1, 0, none⟩) (Nat.le_succ _) (.int .i64 (minI (fromsP p known)))).setCell (p := ⟨w.heap.size + 1, 1, none⟩) (Nat.le_succ _) (.int .i64 (maxI (fromsP p known))))
  clear hb9
  refine bodyPost_ret (v := .tuple #[rv rr, .int .i64 0]) ?_ rfl ⟨rfl, GG.out⟩
  rw [HR2.out]
  simp [results, Tryz.results23, go_sem, r0, r1]
 ·have HR2 := Lib.hid (show rr = zR by rw [HR.out, if_neg he])
  obtain ⟨ae, hae⟩ : ∃ ae, askE p [0] known = ae := ⟨_, rfl⟩
  rw [hae] at T he ⊢
  clear hae b2
  have hne : (ae != 0) = true := by simpa using he
  go_enter Tryz.func23, Tryz.ntmps23
  go_upto_region 3 with (go_at_call 74; (with_reducible refine (T.out).mono ?_); rintro e W3 ⟨r, rfl, hg, hl⟩; have G3 := Lib.hid hg; clear hg hl)
  have hb3 := B2.out.ext G3.out
  have q0 := hb3.cell 0
  have q1 := hb3.cell 1
  have q2 := hb3.frozen 0
  have q3 := hb3.frozen 1
  have hb9 := (hb3.set_ 0 (.int .i64 0)).set_ 1 (.int .i64 0)
  have r0 := hb9.cell 0
  have r1 := hb9.cell 1
  have GG := Lib.hid (((G2.out.trans (G3.out.mono G2.out.size)).setCell (p := ⟨w.heap.size + 1, 0, none⟩) (Nat.le_succ _) (.int .i64 0)).setCell (p := ⟨w.heap.size + 1, 1, none⟩) (Nat.le_succ _) (.int .i64 0))
  clear hb3 hb9
  go_wp2_with fail
  refine bodyPost_ret (v := .tuple #[rv rr, .int .i64 ae]) ?_ rfl ⟨rfl, GG.out⟩
  rw [HR2.out]
  simp [results, Tryz.results23, go_sem, r0, r1]
  exact ⟨rfl, rfl⟩
/-- Whether a field is open, as an answer. -/
def openA (p : Pl) (hour known : Int) : Int := if askE p [hour] known = 0 then ans ((fromsP p known).any (openB p known hour)) ((fromsP p known).any fun f => !openB p known hour f) else 0
theorem any_take_succ {l : List Int} {k : Nat} (q : Int → Bool) (hk : k < l.length) : (l.take (k + 1)).any q = ((l.take k).any q || q (l.getD k 0)) := by
 rw [List.take_succ_eq_append_getElem hk, List.any_append, getD_int hk]
 simp
set_option maxRecDepth 100000 in
set_option maxHeartbeats 4000000 in
theorem openP_any (p : Pl) (A1 A2 A3 : Option Addr) (n1 c1 n2 c2 n3 c3 : Nat) (hour known : Int) (w : World) (hp : Pa w p A1 A2 A3 n1 c1 n2 c2 n3 c3) (h19 : p.loads.length ≤ 60) :
  Calls Tryz.prog 18 #[plv p A1 A2 A3 n1 c1 n2 c2 n3 c3, .int .i64 hour, .int .i64 known] w fun e w' => e = .returned (.tuple #[.int .i64 (openA p hour known), .int .i64 (askE p [hour] known)]) ∧ Below w.heap.size w w' := by
 obtain ⟨W2, hW2⟩ : ∃ W2, w.alloc (.cells (plb p A1 A2 A3 n1 c1 n2 c2 n3 c3) 38) = W2 := ⟨_, rfl⟩
 have g2 : Below w.heap.size w W2 := by rw [← hW2]; exact one_more _ _
 have b1 : Blk W2 w.heap.size 38 (plb p A1 A2 A3 n1 c1 n2 c2 n3 c3) := by rw [← hW2]; exact Blk.new _ _ _
 have T := Lib.hid (asked_any p A1 A2 A3 n1 c1 n2 c2 n3 c3 w.heap.size hour known W2 b1 (hp.below g2) h19)
 have H19 := Lib.hid h19
 have G2 := Lib.hid g2
 have HB1 := Lib.hid b1
 have HPA := Lib.hid (hp.below g2)
 have HR := Lib.hid (show openA p hour known = if askE p [hour] known = 0 then ans ((fromsP p known).any (openB p known hour)) ((fromsP p known).any fun f => !openB p known hour f) else 0 from rfl)
 obtain ⟨rr, hrr⟩ : ∃ rr, openA p hour known = rr := ⟨_, rfl⟩
 rw [hrr] at HR ⊢
 clear hrr hp g2 b1 h19
 by_cases he : askE p [hour] known = 0
 ·have HA := Lib.hid he
  have hpart := ask_parts he
  have HOK := Lib.hid hpart.1
  have hh0 : 0 ≤ hour := by
   have h := hpart.2.2.1
   unfold noHour rng at h
   simp at h
   omega
  have HFB := Lib.hid (fun f (hf : f ∈ fromsP p known) => mem_fromsL_bd (fun x hx => (look_rw hpart.1 hpart.2.1).hrs x hx) hf)
  have HLE := Lib.hid (show (fromsP p known).length ≤ 1000 by have := fromsL_len (lookL p known every) (lookS p known every); have := lookL_len H19.out known every; unfold fromsP; omega)
  have HR2 := Lib.hid (show rr = ans ((fromsP p known).any (openB p known hour)) ((fromsP p known).any fun f => !openB p known hour f) by rw [HR.out, if_pos he])
  rw [he] at T ⊢
  clear he hpart
  go_enter Tryz.func18, Tryz.ntmps18
  go_upto_region 1 with fail
  go_upto_region 5 with (go_at_call 74; (with_reducible refine (T.out).mono ?_); rintro e W3 ⟨r, rfl, hg, hl⟩; obtain ⟨bf, bs, A, n, c, rfl, hl2⟩ := hl (by trivial); have G3 := Lib.hid hg; have HL := Lib.hid hl2; clear hg hl hl2)
  go_wp2_with (go_at_call 75; (with_reducible refine (fromsP_any (.inr ⟨hour, HA.out⟩) H19.out HL.out).mono ?_); rintro e W4 ⟨D, c', rfl, hi, hg⟩; have G4 := Lib.hid hg; have HI := Lib.hid hi; clear hg hi)
  have HP4 := Lib.hid ((HB1.out.ext G3.out).ext G4.out)
  have HPA4 := Lib.hid ((HPA.out.below G3.out).below G4.out)
  have F0 := Lib.hid ((HL.out.fd.f.ext G4.out).cell 0)
  have F1 := Lib.hid ((HL.out.fd.f.ext G4.out).cell 1)
  obtain ⟨l, hl⟩ : ∃ l, fromsP p known = l := ⟨_, rfl⟩
  rw [hl] at HFB HLE HR2 HI ⊢
  obtain ⟨m, hm⟩ : ∃ m, l.length = m := ⟨_, rfl⟩
  rw [hm] at HI HLE ⊢
  have HM := Lib.hid hm
  have hmle : m ≤ 1000 := HLE.out
  clear hl hm
  go_loopw [10, 11, 27] (fun may no i wr => ∃ k : Nat, k ≤ m ∧ i = .int .i64 k ∧ may = .bool ((l.take k).any (openB p known hour)) ∧ no = .bool ((l.take k).any fun f => !openB p known hour f) ∧ Below W4.heap.size W4 wr) (fun _ _ i _ => m - (intOf i).toNat)
  case atStart => exact ⟨0, Nat.zero_le _, rfl, rfl, rfl, Below.refl _ _⟩
  case round =>
   obtain ⟨k, hk, rfl, rfl, rfl, hg⟩ := hrel
   have HG := Lib.hid hg
   by_cases hkm : k < m
   ·obtain ⟨b', o', e', -, hmem, hc⟩ := ints_at (HI.out.below hg) hkm
    subst e'
    have d1 := hc _ (Below.refl _ _)
    have hS1 := any_take_succ (openB p known hour) (l := l) (k := k) (by rw [HM.out]; exact hkm)
    have hS2 := any_take_succ (fun f => !openB p known hour f) (l := l) (k := k) (by rw [HM.out]; exact hkm)
    have hfb := HFB.out _ (List.mem_of_getElem? hmem)
    obtain ⟨y, hy⟩ : ∃ y, l.getD k 0 = y := ⟨_, rfl⟩
    rw [hy] at d1 hS1 hS2 hfb
    have T76 := Lib.hid (fun W (g : Below W4.heap.size W4 W) => open_any p A1 A2 A3 n1 c1 n2 c2 n3 c3 w.heap.size bf known hour y W (HP4.out.ext g) (HPA4.out.below g) HOK.out ((g.cell (p := ⟨bf, 0, none⟩) (World.block_lt_of_cell? W4 _ F0.out)).trans F0.out) ((g.cell (p := ⟨bf, 1, none⟩) (World.block_lt_of_cell? W4 _ F1.out)).trans F1.out) hh0 hfb.1 hfb.2)
    obtain ⟨a, ha⟩ : ∃ a, (l.take k).any (openB p known hour) = a := ⟨_, rfl⟩
    obtain ⟨b, hb⟩ : ∃ b, ((l.take k).any fun f => !openB p known hour f) = b := ⟨_, rfl⟩
    obtain ⟨q, hq⟩ : ∃ q, openB p known hour y = q := ⟨_, rfl⟩
    rw [hq] at T76 hS1 hS2
    rw [ha] at hS1 ⊢
    rw [hb] at hS2 ⊢
    have HS1 := Lib.hid hS1
    have HS2 := Lib.hid hS2
    clear hc hy ha hb hq hS1 hS2 hg hmem hfb
    cases a <;> cases b <;> cases q
    all_goals
     go_wp2_with (go_at_call 76; (with_reducible refine (T76.out _ HG.out).mono ?_); rintro e W5 ⟨rfl, hg⟩; have G5 := Lib.hid hg; clear hg)
     go_roundw
     case rel => exact ⟨k + 1, by omega, by go_num, by rw [HS1.out]; rfl, by rw [HS2.out]; rfl, HG.out.trans (G5.out.mono HG.out.size)⟩
     case measure => simp [intOf]; omega
   ·obtain rfl : m = k := by omega
    have HT := Lib.hid (show l.take m = l from List.take_of_length_le (by rw [HM.out]; exact Nat.le_refl _))
    rw [HT.out]
    have HAN := Lib.hid (fun W => answer_any (l.any (openB p known hour)) (l.any fun f => !openB p known hour f) W)
    obtain ⟨a, ha⟩ : ∃ a, l.any (openB p known hour) = a := ⟨_, rfl⟩
    obtain ⟨b, hb⟩ : ∃ b, (l.any fun f => !openB p known hour f) = b := ⟨_, rfl⟩
    rw [ha, hb] at HAN HR2 ⊢
    clear ha hb hg
    go_wp2_with (go_at_call 77; (refine (HAN.out _).mono ?_); rintro e W10 ⟨rfl, rfl⟩)
    go_ret2
    exact ⟨by rw [HR2.out]; rfl, G2.out.trans ((G3.out.trans ((G4.out.trans (HG.out.mono G4.out.size)).mono G3.out.size)).mono G2.out.size)⟩
 ·have HR2 := Lib.hid (show rr = 0 by rw [HR.out, if_neg he])
  obtain ⟨ae, hae⟩ : ∃ ae, askE p [hour] known = ae := ⟨_, rfl⟩
  rw [hae] at T he ⊢
  clear hae
  have hne : (ae != 0) = true := by simpa using he
  go_enter Tryz.func18, Tryz.ntmps18
  go_wp2_with (go_at_call 74; (with_reducible refine (T.out).mono ?_); rintro e W3 ⟨r, rfl, hg, hl⟩; have G3 := Lib.hid hg; clear hg hl)
  go_ret2
  exact ⟨by rw [HR2.out]; rfl, G2.out.trans (G3.out.mono G2.out.size)⟩
end Go.Proofs.YtkoejeghihcmlaaGreat
namespace Go.Proofs.YtkoejeghihcmlaaGreat
open Go.RowKit Go.Shelf
def shutV (p : Pl) (hour known : Int) : Bool := if firstE p [hour] [known] = 0 then shutB p known hour else false
theorem hour_pos {p : Pl} {hour : Int} {days : List Int} (h : firstE p [hour] days = 0) : 0 ≤ hour ∧ hour ≤ 99999 := by
 have hok := first_ok h
 unfold firstE at h
 rw [if_pos hok] at h
 by_cases h1 : [hour].any noHour = true
 ·rw [if_pos h1] at h; cases h
 ·unfold noHour rng at h1
  simp at h1
  omega
set_option maxRecDepth 100000 in
set_option maxHeartbeats 4000000 in
theorem shutP_any (p : Pl) (A1 A2 A3 : Option Addr) (n1 c1 n2 c2 n3 c3 : Nat) (hour known : Int) (w : World) (hp : Pa w p A1 A2 A3 n1 c1 n2 c2 n3 c3) (h19 : p.loads.length ≤ 60) :
  Calls Tryz.prog 20 #[plv p A1 A2 A3 n1 c1 n2 c2 n3 c3, .int .i64 hour, .int .i64 known] w fun e w' => e = .returned (.tuple #[.bool (shutV p hour known), .int .i64 (firstE p [hour] [known])]) ∧ Below w.heap.size w w' := by
 obtain ⟨W1, hW1⟩ : ∃ W1, w.alloc (.cells (plb p A1 A2 A3 n1 c1 n2 c2 n3 c3) 38) = W1 := ⟨_, rfl⟩
 have g1 : Below w.heap.size w W1 := by rw [← hW1]; exact one_more _ _
 have b1 : Blk W1 w.heap.size 38 (plb p A1 A2 A3 n1 c1 n2 c2 n3 c3) := by rw [← hW1]; exact Blk.new _ _ _
 have p0 := b1.cell 0
 have p1 := b1.cell 1
 have p2 := b1.cell 2
 have p3 := b1.cell 3
 have p4 := b1.cell 4
 have p5 := b1.cell 5
 have HPA := Lib.hid (hp.below g1)
 have HB := Lib.hid b1
 have G1 := Lib.hid g1
 have H19 := Lib.hid h19
 obtain ⟨W2, hW2⟩ : ∃ W2, (W1.alloc (.cells #[.int .i64 hour] 3)).alloc (.cells #[.int .i64 known] 3) = W2 := ⟨_, rfl⟩
 have g2 : Below W1.heap.size W1 W2 := by rw [← hW2]; exact two_more _ _ _
 have i1 : Ints W2 (some ⟨W1.heap.size, 0, none⟩) 1 [hour] := by rw [← hW2]; exact one_int ((Blk.new _ _ _).alloc _)
 have i2 : Ints W2 (some ⟨W1.heap.size + 1, 0, none⟩) 1 [known] := by
  rw [← hW2]
  have := Blk.new (W1.alloc (.cells #[.int .i64 hour] 3)) 3 #[.int .i64 known]
  rw [World.size_alloc] at this
  exact one_int this
 have T := Lib.hid (first_any p A1 A2 A3 n1 c1 n2 c2 n3 c3 _ _ 1 1 1 1 [hour] [known] W2 (HPA.out.below g2) i1 i2 (by decide) (by decide))
 have HG := Lib.hid g2
 have HR := Lib.hid (show shutV p hour known = if firstE p [hour] [known] = 0 then shutB p known hour else false from rfl)
 have HN := Lib.hid (fun h => first_ok (p := p) (hours := [hour]) (days := [known]) h)
 have HH := Lib.hid (fun h => hour_pos (p := p) (hour := hour) (days := [known]) h)
 obtain ⟨rr, hrr⟩ : ∃ rr, shutV p hour known = rr := ⟨_, rfl⟩
 rw [hrr] at HR ⊢
 obtain ⟨fe, hfe⟩ : ∃ fe, firstE p [hour] [known] = fe := ⟨_, rfl⟩
 rw [hfe] at HR HN HH T ⊢
 have HW1 := Lib.hid hW1
 have HW2 := Lib.hid hW2
 clear hrr hfe hp g1 b1 h19 hW1 hW2 g2 i1 i2
 by_cases he : fe = 0
 ·subst he
  have HR2 := Lib.hid (show rr = shutB p known hour from HR.out)
  have HOK := Lib.hid (HN.out rfl)
  have T2 := Lib.hid (fun W (g : Below W1.heap.size W1 W) => look_lk p A1 A2 A3 n1 c1 n2 c2 n3 c3 w.heap.size known every .nilFunc W (HB.out.ext g) (HPA.out.below g) HOK.out H19.out (sm_nil W))
  have T3 := Lib.hid (fun W bf f0 f1 (g : Below W1.heap.size W1 W) => shut_any p A1 A2 A3 n1 c1 n2 c2 n3 c3 w.heap.size bf known hour W (HB.out.ext g) (HPA.out.below g) HOK.out f0 f1 (HH.out rfl).1)
  clear HR
  go_enter Tryz.func20, Tryz.ntmps20
  go_upto_region 1 with fail
  rw [HW1.out]
  go_wp2_with (first
   | (go_at_call 80; (try rw [HW2.out]); (with_reducible refine (T.out).mono ?_); rintro e W3 ⟨rfl, hg⟩; have G3 := Lib.hid (HG.out.trans (hg.mono HG.out.size)); clear hg)
   | (go_at_call 81; (with_reducible refine (T2.out _ G3.out).mono ?_); rintro e W4 ⟨bf, bs, A, n, c, rfl, hg, hl⟩; have G4 := Lib.hid (G3.out.trans (hg.mono G3.out.size)); have HL := Lib.hid hl; clear hg hl)
   | (go_at_call 82; (with_reducible refine (T3.out _ _ (HL.out.fd.f.cell 0) (HL.out.fd.f.cell 1) G4.out).mono ?_); rintro e W5 ⟨rfl, hg⟩; have G5 := Lib.hid hg; clear hg))
  go_ret2
  exact ⟨by rw [HR2.out]; rfl, G1.out.trans ((G4.out.trans (G5.out.mono G4.out.size)).mono G1.out.size)⟩
 ·have HR2 := Lib.hid (show rr = false by rw [HR.out, if_neg he])
  have hne : (fe != 0) = true := by simpa using he
  clear HR
  go_enter Tryz.func20, Tryz.ntmps20
  go_upto_region 1 with fail
  rw [HW1.out]
  go_wp2_with (go_at_call 80; (try rw [HW2.out]); (with_reducible refine (T.out).mono ?_); rintro e W3 ⟨rfl, hg⟩; have G3 := Lib.hid (HG.out.trans (hg.mono HG.out.size)); clear hg)
  go_ret2
  exact ⟨by rw [HR2.out]; rfl, G1.out.trans (G3.out.mono G1.out.size)⟩
end Go.Proofs.YtkoejeghihcmlaaGreat

namespace Go.Proofs.YtkoejeghihcmlaaGreat
open Go.RowKit Go.Shelf
def isSrc (s : Int) (x : Six) : Bool := decide (x.a = s)
theorem six_get {l : List Six} {k : Nat} (hk : k < l.length) : l.getD k z6 = l[k] := by rw [List.getD_eq_getElem?_getD, List.getElem?_eq_getElem hk]; rfl
theorem findIdx_at {q : Six → Bool} {l : List Six} {k : Nat} (hk : k < l.length) (hq : q (l.getD k z6) = true) (hn : ∀ j, j < k → q (l.getD j z6) = false) : l.findIdx q = k := by
 rw [List.findIdx_eq hk]
 refine ⟨by rw [← six_get hk]; exact hq, fun j hj => ?_⟩
 have := hn j hj
 rwa [six_get (by omega)] at this
theorem findIdx_no {q : Six → Bool} {l : List Six} (hn : ∀ j, j < l.length → q (l.getD j z6) = false) : l.findIdx q = l.length := by
 rw [List.findIdx_eq_length]
 intro x hx
 obtain ⟨j, hj, rfl⟩ := List.getElem_of_mem hx
 have := hn j hj
 rwa [six_get hj] at this
theorem three_more (w : World) (o o' o'' : Obj) : Below w.heap.size w (((w.alloc o).alloc o').alloc o'') := (two_more w o o').alloc (by simp; omega) _
theorem blk3_1 (V : World) (t : TypeId) (cs : Array Value) (o o' : Obj) : Blk (((V.alloc (.cells cs t)).alloc o).alloc o').drew V.heap.size t cs := ((Blk.new V t cs).alloc o).alloc o'
theorem blk3_2 (V : World) (t : TypeId) (cs : Array Value) (o o' : Obj) : Blk (((V.alloc o).alloc (.cells cs t)).alloc o').drew (V.heap.size + 1) t cs := by
 have := Blk.new (V.alloc o) t cs
 rw [World.size_alloc] at this
 exact this.alloc o'
theorem blk3_3 (V : World) (t : TypeId) (cs : Array Value) (o o' : Obj) : Blk (((V.alloc o).alloc o').alloc (.cells cs t)).drew (V.heap.size + 1 + 1) t cs := by
 have := Blk.new ((V.alloc o).alloc o') t cs
 simp only [World.size_alloc] at this
 exact this
end Go.Proofs.YtkoejeghihcmlaaGreat
namespace Go.Proofs.YtkoejeghihcmlaaGreat
open Go.RowKit Go.Shelf
/-- Values laid into a list from a place on. -/
def lput (l : List Value) (o : Nat) (vs : List Value) : List Value := l.take o ++ vs ++ l.drop (o + vs.length)
theorem lput_len {l vs : List Value} {o : Nat} (h : o + vs.length ≤ l.length) : (lput l o vs).length = l.length := by
 unfold lput
 simp only [List.length_append, List.length_take, List.length_drop]
 omega
theorem lput_cons {l vs : List Value} {o : Nat} {v : Value} (h : o + (v :: vs).length ≤ l.length) : lput (l.set o v) (o + 1) vs = lput l o (v :: vs) := by
 rw [List.length_cons] at h
 unfold lput
 rw [List.length_cons, show o + (vs.length + 1) = o + 1 + vs.length by omega, List.drop_set_of_lt (by omega), List.take_add_one, List.take_set_of_le (by omega), List.getElem?_set_self (by omega)]
 simp
theorem blk_setCells {g : Nat} {t : TypeId} : ∀ {vs : List Value} {o : Nat} {w : World} {cur : Array Value}, Blk w g t cur → o + vs.length ≤ cur.size → Blk (w.setCells g o vs) g t (lput cur.toList o vs).toArray
 | [], o, w, cur, h, _ => by
  unfold lput
  simp only [World.setCells, List.append_nil, List.length_nil, Nat.add_zero, List.take_append_drop, Array.toArray_toList]
  exact h
 | v :: vs, o, w, cur, h, hl => by
  have hl' : o + 1 + vs.length ≤ (cur.setIfInBounds o v).size := by rw [Array.size_setIfInBounds, List.length_cons] at *; omega
  have := blk_setCells (vs := vs) (o := o + 1) (h.set_ o v) hl'
  rw [Array.toList_setIfInBounds, lput_cons (by rw [Array.length_toList]; exact hl)] at this
  exact this
section
variable {α : Type} {f : α → List Value} {size : Nat} {e : TypeId}
theorem own_inv {w : World} {base g n cap : Nat} {ys : List α} (h : OwnL f size e w base (.slice (some ⟨g, 0, none⟩) n cap) ys) :
  n = ys.length ∧ base ≤ g ∧ ∃ cur, Blk w g e cur ∧ n ≤ cap ∧ cap ≤ maxLen ∧ cur.size = cap * size ∧ cur.toList.take (n * size) = ys.flatMap f := by
 obtain ⟨h1, ⟨e0, _⟩ | ⟨g', cap', cur, e1, hb, hg, hn, hm, hs, ht⟩⟩ := h
 ·cases e0
 ·cases e1
  exact ⟨rfl, hb, cur, hg, hn, hm, hs, ht⟩
theorem own_mk (hf : ∀ x, (f x).length = size) {w : World} {base g n cap : Nat} {ys : List α} {cur : Array Value} (hn0 : n = ys.length) (hb : base ≤ g) (hg : Blk w g e cur) (hn : n ≤ cap) (hm : cap ≤ maxLen) (hs : cur.size = cap * size) (ht : cur.toList.take (n * size) = ys.flatMap f) :
  OwnL f size e w base (.slice (some ⟨g, 0, none⟩) n cap) ys := by
 subst hn0
 exact ⟨flat_len hf ys, .inr ⟨g, cap, cur, rfl, hb, hg, hn, hm, hs, ht⟩⟩
theorem flat_take (hf : ∀ x, (f x).length = size) : ∀ (ys : List α) (k : Nat), (ys.flatMap f).take (k * size) = (ys.take k).flatMap f
 | [], k => by simp
 | y :: ys, 0 => by simp
 | y :: ys, k + 1 => by
  rw [List.flatMap_cons, List.take_succ_cons, List.flatMap_cons, ← flat_take hf ys k, List.take_append, hf, Nat.succ_mul, Nat.add_sub_cancel, List.take_of_length_le (by rw [hf]; omega)]
theorem flat_drop (hf : ∀ x, (f x).length = size) : ∀ (ys : List α) (k : Nat), (ys.flatMap f).drop (k * size) = (ys.drop k).flatMap f
 | [], k => by simp
 | y :: ys, 0 => by simp
 | y :: ys, k + 1 => by
  rw [List.flatMap_cons, List.drop_succ_cons, ← flat_drop hf ys k, List.drop_append, hf, Nat.succ_mul, Nat.add_sub_cancel, List.drop_of_length_le (by rw [hf]; omega)]
  rfl
theorem flat_lput (hf : ∀ x, (f x).length = size) {ys : List α} {i : Nat} (hi : i < ys.length) (x : α) : lput (ys.flatMap f) (i * size) (f x) = (ys.set i x).flatMap f := by
 unfold lput
 rw [hf, flat_take hf, show i * size + size = (i + 1) * size by rw [Nat.succ_mul], flat_drop hf, List.set_eq_take_append_cons_drop, if_pos hi, List.flatMap_append, List.flatMap_cons, List.append_assoc]
theorem take_lput {l vs : List Value} {o m : Nat} (h : o + vs.length ≤ m) : (lput l o vs).take m = lput (l.take m) o vs := by
 unfold lput
 rw [List.append_assoc, List.append_assoc, List.take_append, List.take_append, List.take_take, List.take_take, Nat.min_eq_right (by omega), Nat.min_eq_left (by omega)]
 by_cases hl : o ≤ l.length
 ·rw [List.length_take, Nat.min_eq_left hl, List.take_of_length_le (l := vs) (by omega), List.drop_take, show m - o - vs.length = m - (o + vs.length) by omega]
 ·rw [List.drop_of_length_le (by omega), List.drop_of_length_le (by rw [List.length_take]; omega)]
  rw [List.length_take, Nat.min_eq_right (by omega), List.take_of_length_le (l := vs) (by omega), List.take_nil]
/-- A store of one element. -/
theorem OwnL.put (hf : ∀ x, (f x).length = size) {w : World} {base g n cap i : Nat} {ys : List α} (h : OwnL f size e w base (.slice (some ⟨g, 0, none⟩) n cap) ys) (hi : i < n) (x : α) :
  OwnL f size e (w.setCells g (i * size) (f x)) base (.slice (some ⟨g, 0, none⟩) n cap) (ys.set i x) := by
 obtain ⟨hn0, hb, cur, hg, hn, hm, hs, ht⟩ := own_inv h
 have hle : (i + 1) * size ≤ n * size := Nat.mul_le_mul_right _ hi
 have hle2 : n * size ≤ cap * size := Nat.mul_le_mul_right _ hn
 rw [Nat.succ_mul] at hle
 have hbd : i * size + (f x).length ≤ cur.size := by rw [hf, hs]; omega
 refine own_mk hf (by rw [List.length_set]; exact hn0) hb (blk_setCells hg hbd) hn hm ?_ ?_
 ·rw [List.size_toArray, lput_len (by rw [Array.length_toList]; exact hbd), Array.length_toList, hs]
 ·rw [take_lput (by rw [hf]; omega), ht, flat_lput hf (by omega)]
/-- Stores behind its beginning. -/
theorem OwnL.behind (hf : ∀ x, (f x).length = size) {w : World} {base g i cap o : Nat} {ys : List α} {vs : List Value} (h : OwnL f size e w base (.slice (some ⟨g, 0, none⟩) i cap) ys) (ho : i * size ≤ o) (hv : o + vs.length ≤ cap * size) :
  OwnL f size e (w.setCells g o vs) base (.slice (some ⟨g, 0, none⟩) i cap) ys := by
 obtain ⟨hn0, hb, cur, hg, hn, hm, hs, ht⟩ := own_inv h
 refine own_mk hf hn0 hb (blk_setCells hg (by rw [hs]; exact hv)) hn hm ?_ ?_
 ·rw [List.size_toArray, lput_len (by rw [Array.length_toList (xs := cur), hs]; exact hv), Array.length_toList, hs]
 ·show (lput cur.toList o vs).take (i * size) = _
  unfold lput
  rw [← ht, List.append_assoc, List.take_append_of_le_length (by rw [List.length_take, Array.length_toList, hs]; have : i * size ≤ cap * size := Nat.mul_le_mul_right _ hn; omega), List.take_take, Nat.min_eq_left ho]
end
end Go.Proofs.YtkoejeghihcmlaaGreat
namespace Go.Proofs.YtkoejeghihcmlaaGreat
open Go.RowKit Go.Shelf
theorem icells_len (x : Int) : (icells x).length = 1 := rfl
theorem getD_int1 {l : List Int} {i : Nat} (hi : i < l.length) : l[i]? = some (l.getD i 0) := by rw [List.getD_eq_getElem?_getD, List.getElem?_eq_getElem hi]; rfl
end Go.Proofs.YtkoejeghihcmlaaGreat
namespace Go.Proofs.YtkoejeghihcmlaaGreat
open Go.RowKit Go.Shelf Go.Sort
shelf_lay Lays.n189 Nm 189 at Tryz as laysSort
end Go.Proofs.YtkoejeghihcmlaaGreat
namespace Go.Proofs.YtkoejeghihcmlaaGreat
open Go.RowKit Go.Shelf Go.Sort
shelf_lay Lays2.n23 Nm2 23 at Tryz as laysDelete
shelf_lay Lays2.n20 Nm2 20 at Tryz as laysCompact
end Go.Proofs.YtkoejeghihcmlaaGreat

namespace Go.Proofs.YtkoejeghihcmlaaGreat
open Go.RowKit Go.Shelf
def countL (p : Pl) (known : Int) : List Six := p.loads.filter fun x => cnt x known
def srcIx (l : List Six) (s : Int) : Nat := l.findIdx (isSrc s)
def numBy (p : Pl) (known : Int) (ns : List Int) (s : Int) : Int := ns.getD (srcIx (countL p known) s) 0
def numsL (p : Pl) (known : Int) (ns : List Int) : List Int := (lookL p known every).map fun x => numBy p known ns x.a
def numsB (p : Pl) (known sown : Int) (ns : List Int) : Bool := decide (ns.length = (lookL p known every).length) && rng sown p.lo p.hi
/-- What stood after so many loads. -/
def runK (sown : Int) (ns : List Int) : Nat → Int
 | 0 => sown
 | k + 1 => runK sown ns k - ns.getD k 0
def runS (sown : Int) (ns : List Int) : List Int := (List.range (ns.length + 1)).map (runK sown ns)
def truS (p : Pl) (known sown : Int) (ns : List Int) : List Int := runS sown (numsL p known ns)
def tookB (ls : List Six) (ns : List Int) (i : Nat) : Bool := rng (ns.getD i 0) (ls.getD i z6).c (ls.getD i z6).d
def standB (known : Int) (ls : List Six) (s : List Int) (x : Six) : Bool := !cnt x known || rng (s.getD (after ls x.b) 0) x.c x.d
def truthB (p : Pl) (known sown : Int) (ns : List Int) : Bool :=
 numsB p known sown ns && (List.range (lookL p known every).length).all (tookB (lookL p known every) (numsL p known ns)) &&
  p.stands.all (standB known (lookL p known every) (truS p known sown ns)) && decide (0 ≤ runK sown (numsL p known ns) (lookL p known every).length)
theorem numsL_len (p : Pl) (known : Int) (ns : List Int) : (numsL p known ns).length = (lookL p known every).length := by unfold numsL; rw [List.length_map]
theorem runS_len (sown : Int) (ns : List Int) : (runS sown ns).length = ns.length + 1 := by unfold runS; rw [List.length_map, List.length_range]
theorem runS_at {sown : Int} {ns : List Int} {i : Nat} (hi : i ≤ ns.length) : (runS sown ns).getD i 0 = runK sown ns i := by
 unfold runS
 rw [List.getD_eq_getElem?_getD, List.getElem?_map, List.getElem?_range (by omega)]
 rfl
theorem truS_len (p : Pl) (known sown : Int) (ns : List Int) : (truS p known sown ns).length = (lookL p known every).length + 1 := by unfold truS; rw [runS_len, numsL_len]
theorem truS_at {p : Pl} {known sown : Int} {ns : List Int} {i : Nat} (hi : i ≤ (lookL p known every).length) : (truS p known sown ns).getD i 0 = runK sown (numsL p known ns) i := by
 unfold truS; exact runS_at (by rw [numsL_len]; exact hi)
theorem run_down {sown : Int} {ns : List Int} {n : Nat} (h : ∀ i, i < n → 0 ≤ ns.getD i 0) : ∀ k i, i + k = n → runK sown ns n ≤ runK sown ns i
 | 0, i, e => by
  have : i = n := by omega
  subst this; exact Int.le_refl _
 | k + 1, i, e => by
  have ih := run_down (sown := sown) h k (i + 1) (by omega)
  have h1 := h i (by omega)
  have e1 : runK sown ns (i + 1) = runK sown ns i - ns.getD i 0 := rfl
  omega
theorem run_le {sown : Int} {ns : List Int} {n : Nat} (h : ∀ i, i < n → 0 ≤ ns.getD i 0) : ∀ i, i ≤ n → runK sown ns i ≤ sown
 | 0, _ => Int.le_refl _
 | i + 1, hi => by
  have ih := run_le (sown := sown) h i (by omega)
  have h1 := h i (by omega)
  have e1 : runK sown ns (i + 1) = runK sown ns i - ns.getD i 0 := rfl
  omega
theorem rng_iff {n lo hi : Int} : rng n lo hi = true ↔ lo ≤ n ∧ n ≤ hi := by
 unfold rng
 rw [Bool.and_eq_true]
 exact ⟨fun h => ⟨of_decide_eq_true h.1, of_decide_eq_true h.2⟩, fun h => ⟨decide_eq_true h.1, decide_eq_true h.2⟩⟩
/-- The loads' numbers by sources, as far as the loads have been looked at. -/
def gK (l : List Six) (ns : List Int) (s : Int) : Int := if srcIx l s < l.length then ns.getD (srcIx l s) 0 else 0
theorem isSrc_iff {s : Int} {x : Six} : isSrc s x = true ↔ x.a = s := by unfold isSrc; exact ⟨fun h => of_decide_eq_true h, fun h => decide_eq_true h⟩
theorem srcIx_snoc {l : List Six} {x : Six} {s : Int} : srcIx (l ++ [x]) s = if srcIx l s < l.length then srcIx l s else (if x.a = s then l.length else l.length + 1) := by
 unfold srcIx
 rw [List.findIdx_append]
 by_cases h : l.findIdx (isSrc s) < l.length
 ·rw [if_pos h, if_pos h]
 ·rw [if_neg h, if_neg h]
  by_cases hx : x.a = s
  ·have e : isSrc s x = true := isSrc_iff.2 hx
   rw [if_pos hx, List.findIdx_cons, e]
   show (0 : Nat) + l.length = l.length
   omega
  ·have e : isSrc s x = false := by
    cases h : isSrc s x with
    | false => rfl
    | true => exact absurd (isSrc_iff.1 h) hx
   rw [if_neg hx, List.findIdx_cons, e]
   show (0 + 1 : Nat) + l.length = l.length + 1
   omega
theorem srcIx_no {l : List Six} {s : Int} (h : s ∉ srcs l) : srcIx l s = l.length := by
 unfold srcIx
 refine findIdx_no fun j hj => ?_
 cases hs : isSrc s (l.getD j z6) with
 | false => rfl
 | true => exact absurd (List.mem_map.2 ⟨_, getD_mem hj, isSrc_iff.1 hs⟩) h
theorem gK_snoc {l : List Six} {x : Six} {ns : List Int} {s : Int} (h : x.a ∉ srcs l) : gK (l ++ [x]) ns s = if s = x.a then ns.getD l.length 0 else gK l ns s := by
 unfold gK
 rw [srcIx_snoc, List.length_append, List.length_singleton]
 by_cases e : s = x.a
 ·have e1 : ¬ srcIx l s < l.length := by rw [e, srcIx_no h]; omega
  rw [if_neg e1, if_pos e.symm, if_pos e, if_pos (by omega)]
 ·have e2 : ¬ x.a = s := fun c => e c.symm
  rw [if_neg e]
  by_cases hl : srcIx l s < l.length
  ·rw [if_pos hl, if_pos (by omega), if_pos hl]
  ·rw [if_neg hl, if_neg e2, if_neg (by omega), if_neg hl]
theorem gK_all {p : Pl} {known : Int} {ns : List Int} (hl : ns.length = (countL p known).length) (s : Int) : gK (countL p known) ns s = numBy p known ns s := by
 unfold gK numBy
 by_cases h : srcIx (countL p known) s < (countL p known).length
 ·rw [if_pos h]
 ·rw [if_neg h, List.getD_eq_getElem?_getD, List.getElem?_eq_none (by omega)]; rfl
def cntK (p : Pl) (known : Int) (k : Nat) : List Six := (p.loads.take k).filter fun x => cnt x known
theorem cntK_succ {p : Pl} {known : Int} {k : Nat} (hk : k < p.loads.length) : cntK p known (k + 1) = cntK p known k ++ (if cnt (p.loads.getD k z6) known = true then [p.loads.getD k z6] else []) := by
 unfold cntK
 rw [List.take_succ_eq_append_getElem hk, List.filter_append, ← six_get hk]
 congr 1
 rw [List.filter_cons]
 split <;> rfl
theorem cntK_all {p : Pl} {known : Int} {k : Nat} (hk : p.loads.length ≤ k) : cntK p known k = countL p known := by unfold cntK countL; rw [List.take_of_length_le hk]
theorem cntK_len {p : Pl} {known : Int} {k : Nat} : (cntK p known k).length ≤ k := Nat.le_trans (List.length_filter_le _ _) (List.length_take_le _ _)
theorem cntK_sub (p : Pl) (known : Int) (k : Nat) : (cntK p known k).Sublist (countL p known) := (List.take_sublist _ _).filter _
theorem cntK_lt {p : Pl} {known : Int} {k : Nat} (hk : k < p.loads.length) (hc : cnt (p.loads.getD k z6) known = true) : (cntK p known k).length < (countL p known).length := by
 have h1 := (cntK_sub p known (k + 1)).length_le
 rw [cntK_succ hk, if_pos hc, List.length_append, List.length_singleton] at h1
 omega
theorem cntK_src {p : Pl} (hok : okPl p = true) {known : Int} {k : Nat} (hk : k < p.loads.length) : (p.loads.getD k z6).a ∉ srcs (cntK p known k) := by
 unfold okPl at hok
 rw [Bool.and_eq_true, Bool.and_eq_true, Bool.and_eq_true, Bool.and_eq_true] at hok
 have h1 := hok.1.1.1.1
 unfold okL at h1
 rw [Bool.and_eq_true, List.all_eq_true] at h1
 have h2 := (okAt_parts (h1.1 k (List.mem_range.2 hk))).2.2
 intro hc
 obtain ⟨y, hy, e⟩ := List.mem_map.1 hc
 unfold cntK at hy
 exact h2 (List.mem_append_right _ (List.mem_map.2 ⟨y, (List.mem_filter.1 hy).1, e⟩))
theorem load_num {p : Pl} (hok : okPl p = true) {x : Six} (hx : x ∈ p.loads) : 1 ≤ x.a ∧ x.a ≤ 99999 := by
 unfold okPl at hok
 rw [Bool.and_eq_true, Bool.and_eq_true, Bool.and_eq_true, Bool.and_eq_true] at hok
 exact load_src (okL_all hok.1.1.1.1 hx)
theorem count_len (p : Pl) (known : Int) : (countL p known).length = (lookL p known every).length := by
 unfold lookL countL pickL
 rw [srtH_len, List.length_map]
theorem look_src {p : Pl} (hok : okPl p = true) {known : Int} {x : Six} (hx : x ∈ lookL p known every) : 1 ≤ x.a ∧ x.a ≤ 99999 := by
 unfold lookL pickL at hx
 rw [(srtH_perm _).mem_iff] at hx
 obtain ⟨y, hy, e⟩ := List.mem_map.1 hx
 have := load_num hok (List.mem_filter.1 hy).1
 rw [← e]
 unfold every
 exact this
end Go.Proofs.YtkoejeghihcmlaaGreat

namespace Go.Proofs.YtkoejeghihcmlaaGreat
open Go.RowKit Go.Shelf Go.Maps
attribute [local go_sem] Oper.semAt_some
/-- A map from numbers to numbers. -/
def NumMap (w : World) (b m : Nat) (g : Int → Int) : Prop :=
 ∃ (n : Nat) (D : DataW Unit), n ≤ m ∧ w.ownsMap Tryz.prog 3 (plainElem Tryz.prog 3) b n D ∧ ∀ i : Int, 0 ≤ i → i ≤ 100000 → D.atKey (.int .i64 i) (.lit (.int .i64 0)) = .lit (.int .i64 (g i))
theorem NumMap.lt {w : World} {b m : Nat} {g : Int → Int} (h : NumMap w b m g) : b < w.heap.size := by
 obtain ⟨n, D, -, h2, -⟩ := h
 exact h2.lt
theorem NumMap.same {w w' : World} {b m : Nat} {g : Int → Int} (h : NumMap w b m g) (e : w'.heap[b]? = w.heap[b]?) : NumMap w' b m g := by
 obtain ⟨n, D, h1, ⟨es, clock, hb, F, hs, hD⟩, h3⟩ := h
 exact ⟨n, D, h1, ⟨es, clock, e.trans hb, F, hs, hD⟩, h3⟩
theorem NumMap.ext {w w' : World} {b m : Nat} {g : Int → Int} (h : NumMap w b m g) (k : Below w.heap.size w w') : NumMap w' b m g := h.same (k.block b h.lt)
theorem NumMap.new (w : World) : NumMap (w.alloc (.map #[] 0)) w.heap.size 0 (fun _ => 0) := ⟨0, .map [], Nat.le_refl _, World.ownsMap_made _ _ _ _, fun _ _ _ => rfl⟩
theorem NumMap.look {w : World} {b m : Nat} {g : Int → Int} (h : NumMap w b m g) {i : Int} (h0 : 0 ≤ i) (h1 : i ≤ 100000) :
  (Instr.lookup 230 (.map (some b)) (.int .i64 i) false).run Tryz.prog w = .ok (.int .i64 (g i)) w := by
 obtain ⟨n, D, -, h2, h3⟩ := h
 obtain ⟨c, hrun, hat, -⟩ := h2.lookup_int (int_keyed Tryz.underlying3) Tryz.underlying230 Tryz.underlying3 (Tryz.zeroValue3 _) (keyOf_int_mk Tryz.underlying3 (lit_wf h0 h1))
 rw [h3 i h0 h1] at hat
 cases hat
 exact hrun
theorem NumMap.put {w' : World} {b m n : Nat} {g : Int → Int} {D : DataW Unit} {i v : Int} (h0 : 0 ≤ i) (h1 : i ≤ 100000) (hn : n ≤ m) (hm : IsMap D) (h3 : ∀ i : Int, 0 ≤ i → i ≤ 100000 → D.atKey (.int .i64 i) (.lit (.int .i64 0)) = .lit (.int .i64 (g i)))
  (h : w'.ownsMap Tryz.prog 3 (plainElem Tryz.prog 3) b (n + 1) (D.put (.int .i64 i) (.lit (.int .i64 v)))) : NumMap w' b (m + 1) (fun j => if j = i then v else g j) := by
 refine ⟨n + 1, _, by omega, h, fun j hj0 hj1 => ?_⟩
 by_cases e : j = i
 ·subst e
  dsimp only
  rw [atKey_put_same hm (by unfold WideAt.IsKeyLit; trivial), if_pos rfl]
 ·dsimp only
  rw [atKey_put_other (by intro e2; cases e2; exact e rfl), h3 j hj0 hj1, if_neg e]
theorem NumMap.mono {w : World} {b m m' : Nat} {g : Int → Int} (h : NumMap w b m g) (hm : m ≤ m') : NumMap w b m' g := by
 obtain ⟨n, D, h1, h2, h3⟩ := h
 exact ⟨n, D, by omega, h2, h3⟩
theorem NumMap.congr {w : World} {b m : Nat} {g g' : Int → Int} (h : NumMap w b m g) (e : ∀ i, g i = g' i) : NumMap w b m g' := (funext e : g = g') ▸ h
theorem wf_i64 {v : Int} (h : -9223372036854775808 ≤ v ∧ v ≤ 9223372036854775807) : (Lit.int .i64 v).wf = true := by
 have e1 : IntKind.i64.min = -9223372036854775808 := by decide
 have e2 : IntKind.i64.max = 9223372036854775807 := by decide
 show (decide (IntKind.i64.min ≤ v) && decide (v ≤ IntKind.i64.max)) = true
 rw [e1, e2]
 simp only [Bool.and_eq_true, decide_eq_true_eq]
 exact h
def byAt (g : Int → Int) (ls : List Six) {n : Nat} (x : Cx n) : Int := g (ls.getD x.1 z6).a
/-- What numbers returns. -/
def NumEnd (p : Pl) (known sown : Int) (ns : List Int) (w : World) (e : Ending) (w' : World) : Prop :=
 (∃ v, e = .returned (.tuple #[v, .bool (numsB p known sown ns)]) ∧ (numsB p known sown ns = true → OwnL icells 1 3 w' w.heap.size v (numsL p known ns)) ∧ (numsB p known sown ns = false → v = .slice none 0 0)) ∧ Below w.heap.size w w'
set_option maxRecDepth 100000 in
set_option maxHeartbeats 16000000 in
theorem numbers_any (p : Pl) (A1 A2 A3 : Option Addr) (n1 c1 n2 c2 n3 c3 pb bf : Nat) (known : Int) (A : Option Addr) (n c : Nat) (v3 : Value) (N : Option Addr) (nn cn : Nat) (ns : List Int) (sown : Int) (w : World)
  (hP : Blk w pb 38 (plb p A1 A2 A3 n1 c1 n2 c2 n3 c3)) (hp : Pa w p A1 A2 A3 n1 c1 n2 c2 n3 c3) (hok : okPl p = true) (h60 : n ≤ 1000)
  (hF : Blk w bf 152 #[.pointer (some ⟨pb, 0, none⟩), .int .i64 known, .slice A n c, v3]) (ha : Arr scells 6 w A n (lookL p known every)) (hns : Ints w N nn ns)
  (hI : ∀ x ∈ ns, -9223372036854775808 ≤ x ∧ x ≤ 9223372036854775807) (hnn : nn ≤ 9223372036854775807) :
  Calls Tryz.prog 166 #[.pointer (some ⟨bf, 0, none⟩), .agg #[.int .i64 sown, .slice N nn cn]] w (NumEnd p known sown ns w) := by
 obtain ⟨W1, hW1⟩ : ∃ W1, w.alloc (.cells #[.int .i64 sown, .slice N nn cn] 41) = W1 := ⟨_, rfl⟩
 have g1 : Below w.heap.size w W1 := by rw [← hW1]; exact one_more _ _
 have b1 : Blk W1 w.heap.size 41 #[.int .i64 sown, .slice N nn cn] := by rw [← hW1]; exact Blk.new _ _ _
 have hln := hns.1
 have hla := ha.1
 have hl1 := hp.l1.1
 have hPs := hP.lt
 have hFs := hF.lt
 have G1 := Lib.hid g1
 have HB1 := Lib.hid b1
 have HP1 := Lib.hid (hP.ext g1)
 have HF1 := Lib.hid (hF.ext g1)
 have HPA := Lib.hid (hp.below g1)
 have HA1 := Lib.hid (ha.below g1)
 have HN1 := Lib.hid (hns.below g1)
 have HI := Lib.hid hI
 have HOK := Lib.hid hok
 have HLN := Lib.hid hln
 have HLA := Lib.hid hla
 have HL1 := Lib.hid hl1
 have hpar := ok_parts hok
 have h160 : n1 ≤ 60 := by have := hpar.2.2.2.2.2.1; omega
 have HNB := Lib.hid (show numsB p known sown ns = (decide (nn = n) && rng sown p.lo p.hi) by unfold numsB; rw [hln, hla])
 have u0 := cellW (b1.cell 0)
 have u1 := cellW (b1.cell 1)
 have u2 := cellW (HF1.out.cell 0)
 have u3 := cellW (HF1.out.cell 2)
 have u4 := cellW (HP1.out.cell 0)
 have u5 := cellW (HP1.out.cell 1)
 have HW1 := Lib.hid hW1
 clear hP hp hF ha hns hI hok hW1 g1 b1 hpar hln hla hl1
 obtain ⟨rv, hrv⟩ : ∃ b, rng sown p.lo p.hi = b := ⟨_, rfl⟩
 have TW := fun W => within_any sown p.lo p.hi W
 rw [hrv] at HNB TW
 have HTW := Lib.hid TW
 clear hrv TW
 refine (callsIn_wide (n := 4)).1 (callsIn_of_wp_marks Tryz.func166 rfl trivial ?_ rfl)
 simp only [Tryz.ntmps166, List.size_toArray, List.length_cons, List.length_nil, Nat.reduceAdd, Nat.reduceSub, Array.replicate_succ, Array.replicate_zero, List.push_toArray, List.append_toArray, List.nil_append, List.cons_append]
 refine wpIn_wide.2 ?_
 by_cases hnq : nn = n
 case neg =>
  have e1 : ((nn : Int) != (n : Int)) = true := by simp; omega
  have HNB2 := Lib.hid (show numsB p known sown ns = false by rw [HNB.out, decide_eq_false hnq]; rfl)
  go_upto_region 1 with fail
  rw [HW1.out]
  refine wp_region_calm W1 (by kernel_rfl) (by kernel_rfl) (Below.refl _ _) ?_
  repeat (go_big_quiet_step (first | (go_at_call 145; exact callsCalmSame (HTW.out _))))
  refine wpQuiet_nil ?_
  rintro _ ⟨z, rfl⟩
  go_wp2_with fail
  exact ⟨_, results_tmp2 rfl _ _ _, ⟨_, by rw [HNB2.out]; rfl, fun h => (by rw [HNB2.out] at h; cases h), fun _ => rfl⟩, G1.out.trans (z.ok.mono G1.out.size)⟩
 case pos =>
  subst hnq
  cases rv with
  | false =>
   have HNB2 := Lib.hid (show numsB p known sown ns = false by rw [HNB.out]; simp)
   go_upto_region 1 with fail
   rw [HW1.out]
   refine wp_region_calm W1 (by kernel_rfl) (by kernel_rfl) (Below.refl _ _) ?_
   repeat (go_big_quiet_step (first | (go_at_call 145; exact callsCalmSame (HTW.out _))))
   refine wpQuiet_nil ?_
   rintro _ ⟨z, rfl⟩
   go_wp2_with fail
   exact ⟨_, results_tmp2 rfl _ _ _, ⟨_, by rw [HNB2.out]; rfl, fun h => (by rw [HNB2.out] at h; cases h), fun _ => rfl⟩, G1.out.trans (z.ok.mono G1.out.size)⟩
  | true =>
   have HNB2 := Lib.hid (show numsB p known sown ns = true by rw [HNB.out]; simp)
   go_upto_region 1 with fail
   rw [HW1.out]
   refine wp_region_calm W1 (by kernel_rfl) (by kernel_rfl) (Below.refl _ _) ?_
   repeat (go_big_quiet_step (first | (go_at_call 145; exact callsCalmSame (HTW.out _))))
   refine wpQuiet_nil ?_
   rintro _ ⟨z, rfl⟩
   clear u0 u1 u2 u3 u4 u5
   have G2 := Lib.hid (G1.out.trans (z.ok.mono G1.out.size))
   have HB2 := Lib.hid (HB1.out.ext z.ok)
   have HP2 := Lib.hid (HP1.out.ext z.ok)
   have HF2 := Lib.hid (HF1.out.ext z.ok)
   have HPA2 := Lib.hid (HPA.out.below z.ok)
   have HA2 := Lib.hid (HA1.out.below z.ok)
   have HN2 := Lib.hid (HN1.out.below z.ok)
   obtain ⟨V, hV⟩ : ∃ V, z.val = V := ⟨_, rfl⟩
   rw [hV] at G2 HB2 HP2 HF2 HPA2 HA2 HN2 ⊢
   clear hV z
   have hGs := G2.out.size
   have hbV := HB2.out.lt
   have hmm := @run_makeMap Tryz.prog
   go_upto_region 5 with fail
   clear hmm
   obtain ⟨W2, hW2⟩ : ∃ W, (V.alloc (.map #[] 0)).alloc (.cells #[.map (some V.heap.size)] 230) = W := ⟨_, rfl⟩
   rw [hW2]
   have g2 : Below V.heap.size V W2 := by rw [← hW2]; exact two_more _ _ _
   have nm2 : NumMap W2 V.heap.size 0 (gK (cntK p known 0) ns) := by rw [← hW2]; exact ((NumMap.new V).ext (one_more _ _)).congr (fun i => by rfl)
   have bb2 : Blk W2 (V.heap.size + 1) 230 #[.map (some V.heap.size)] := by rw [← hW2]; have := Blk.new (V.alloc (.map #[] 0)) 230 #[.map (some V.heap.size)]; rwa [World.size_alloc] at this
   have G3 := Lib.hid (G2.out.trans (g2.mono G2.out.size))
   have HB3 := Lib.hid (HB2.out.ext g2)
   have HP3 := Lib.hid (HP2.out.ext g2)
   have HF3 := Lib.hid (HF2.out.ext g2)
   have HPA3 := Lib.hid (HPA2.out.below g2)
   have HA3 := Lib.hid (HA2.out.below g2)
   have HN3 := Lib.hid (HN2.out.below g2)
   have HBB := Lib.hid bb2
   have HNM := Lib.hid nm2
   have hbs2 := bb2.lt
   have hPs2 := HP2.out.lt
   have hFs2 := HF2.out.lt
   obtain ⟨bm, hbm⟩ : ∃ b, V.heap.size = b := ⟨_, rfl⟩
   rw [hbm] at HBB HNM hbs2 hPs2 hFs2 hbV hGs ⊢
   have f0 := HF3.out.cell 0
   have q1 := HP3.out.cell 2
   clear hW2 g2 nm2 bb2
   go_upto_region 6 with fail
   go_loopw [7, 53] (fun k7 i wr => ∃ k : Nat, k ≤ n1 ∧ i = .int .i64 k ∧ k7 = .int .i64 ((cntK p known k).length : Nat) ∧ Fix bm bm W2 wr ∧ NumMap wr bm k (gK (cntK p known k) ns)) (fun _ i _ => n1 - (intOf i).toNat)
   case atStart => exact ⟨0, Nat.zero_le _, rfl, rfl, Fix.refl _ _ _, HNM.out⟩
   case round =>
    obtain ⟨k, hk, rfl, rfl, hfx, hnm⟩ := hrel
    have HFX := Lib.hid hfx
    have HNK := Lib.hid hnm
    have hkl : (cntK p known k).length ≤ k := cntK_len
    have hbmw := hnm.lt
    by_cases hkn : k < n1
    ·have HPW := Lib.hid (HPA3.out.l1.fix hfx (fun b o e h0 => by
      obtain ⟨b', o', e', hlt, -⟩ := HPA2.out.l1.2 h0
      rw [e] at e'; cases e'
      omega))
     obtain ⟨b0, o0, e0, -, -, hc⟩ := six_at HPW.out hkn
     obtain ⟨x0, x1, x2, x3, x4, x5⟩ := hc wr (Below.refl _ _)
     have hkl1 : k < p.loads.length := by rw [HL1.out]; exact hkn
     have HSR := Lib.hid (cntK_src HOK.out (k := k) (known := known) hkl1)
     have HSU := Lib.hid (cntK_succ (p := p) (known := known) (k := k) hkl1)
     have HLT := Lib.hid (fun h => cntK_lt (p := p) (known := known) (k := k) hkl1 h)
     have hnx := load_num HOK.out (getD_mem hkl1)
     obtain ⟨x, hxg⟩ : ∃ x, p.loads.getD k z6 = x := ⟨_, rfl⟩
     rw [hxg] at x0 x1 x2 x3 x4 x5 HSR HSU HLT hnx
     subst e0
     obtain ⟨cb, hcb⟩ : ∃ cb, cnt x known = cb := ⟨_, rfl⟩
     have TC := fun W => cnt_any x known W
     rw [hcb] at TC HSU HLT
     have HTC := Lib.hid TC
     have ff1 := HFX.out.blk HF3.out (by omega) (by omega)
     have HFW := Lib.hid ff1
     have HBBW := Lib.hid (HFX.out.blk HBB.out (by omega) (by omega))
     have HB1W := Lib.hid (HFX.out.blk HB3.out (by omega) (by omega))
     have HNW := Lib.hid (HN3.out.fix hfx (fun b o e h0 => by
      obtain ⟨b', o', e', hlt, -⟩ := HN2.out.2 h0
      rw [e] at e'; cases e'
      omega))
     clear hc hxg hcb TC hfx hnm ff1
     go_upto_region 8 with fail
     obtain ⟨W3, hW3⟩ : ∃ W, wr.alloc (.cells #[.int .i64 x.a, .int .i64 x.b, .int .i64 x.c, .int .i64 x.d, .int .i64 x.e, .int .i64 x.f] 103) = W := ⟨_, rfl⟩
     rw [hW3]
     have g3 : Below wr.heap.size wr W3 := by rw [← hW3]; exact one_more _ _
     have HX3 := Lib.hid (show Blk W3 wr.heap.size 103 #[.int .i64 x.a, .int .i64 x.b, .int .i64 x.c, .int .i64 x.d, .int .i64 x.e, .int .i64 x.f] by rw [← hW3]; exact Blk.new _ _ _)
     have GG3 := Lib.hid g3
     have v0 := cellW (HX3.out.cell 3)
     have v1 := cellW (HX3.out.cell 4)
     have v4 := cellW (HX3.out.cell 5)
     have v2 := cellW ((HFW.out.ext g3).cell 1)
     clear hW3 g3 x0 x1 x2 x3 x4 x5
     refine wp_region_calm W3 (by kernel_rfl) (by kernel_rfl) (Below.refl _ _) ?_
     repeat (go_big_quiet_step (first | (go_at_call 159; exact callsCalmSame (HTC.out _))))
     refine wpQuiet_nil ?_
     rintro _ ⟨z, rfl⟩
     clear v0 v1 v2 v4
     have GZ := Lib.hid (GG3.out.trans (z.ok.mono GG3.out.size))
     have HXZ := Lib.hid (HX3.out.ext z.ok)
     obtain ⟨Z, hZ⟩ : ∃ Z, z.val = Z := ⟨_, rfl⟩
     rw [hZ] at GZ HXZ ⊢
     clear hZ z
     have hrz := GZ.out.size
     cases cb with
     | false =>
      have HS2 := Lib.hid (show cntK p known (k + 1) = cntK p known k by rw [HSU.out]; simp)
      go_wp2_with fail
      go_roundw
      case rel => exact ⟨k + 1, by omega, by go_num, by rw [HS2.out], HFX.out.trans (Fix.of_below GZ.out), by rw [HS2.out]; exact (HNK.out.ext GZ.out).mono (by omega)⟩
      case measure => simp [intOf]; omega
     | true =>
      have HS2 := Lib.hid (show cntK p known (k + 1) = cntK p known k ++ [x] by rw [HSU.out]; rfl)
      have HLJ := Lib.hid (show (cntK p known k).length < nn by have := HLT.out rfl; rw [count_len, HLA.out] at this; exact this)
      obtain ⟨j, hj⟩ : ∃ j, (cntK p known k).length = j := ⟨_, rfl⟩
      have hjn : j < nn := by rw [← hj]; exact HLJ.out
      rw [hj]
      obtain ⟨b9, o9, e9, -, -, hc9⟩ := ints_at HNW.out hjn
      subst e9
      have HV := Lib.hid (HI.out (ns.getD j 0) (by rw [getD_int (show j < ns.length by rw [HLN.out]; exact hjn)]; exact List.getElem_mem _))
      obtain ⟨vj, hvj⟩ : ∃ v, ns.getD j 0 = v := ⟨_, rfl⟩
      rw [hvj] at hc9 HV
      have c9 := cellW (W := Z) (hc9 Z GZ.out)
      have v0 := cellW (HXZ.out.cell 0)
      have v1 := cellW ((HBBW.out.ext GZ.out).cell 0)
      have v2 := cellW ((HB1W.out.ext GZ.out).cell 1)
      have HJ := Lib.hid hj
      have HVJ := Lib.hid hvj
      clear hj hvj hc9
      go_wp2_with fail
      refine wp_region_calm_tail Z 8 (by kernel_rfl) (by kernel_rfl) (Below.refl _ _) ?_
      simp only [List.take_succ_cons, List.take_zero, List.drop_succ_cons, List.drop_zero]
      repeat (go_big_quiet_step (fail))
      refine wpQuiet_nil ?_
      rintro _ ⟨z, rfl⟩
      clear c9 v0 v1 v2
      have GY := Lib.hid (GZ.out.trans (z.ok.mono hrz))
      obtain ⟨Y, hY⟩ : ∃ Y, z.val = Y := ⟨_, rfl⟩
      rw [hY] at GY ⊢
      clear hY z
      obtain ⟨nD, D, hD1, hD2, hD3⟩ := HNK.out.ext GY.out
      have HD3 := Lib.hid hD3
      have HD2 := Lib.hid hD2
      clear hD2 hD3
      go_wp2_with (at_mapUpdate; refine wpList_mapUpdate_own _ rfl _ _ _ 230 rfl 3 3 (int_keyed Tryz.underlying3) Tryz.underlying230 _ bm nD D rfl HD2.out (by unfold maxLen; omega) _ _ (.int .i64 x.a) rfl rfl (keyOf_int_mk Tryz.underlying3 (lit_wf (by omega) (by omega))) (.lit (.int .i64 vj)) [] (plainElem_int Tryz.underlying3 (wf_i64 HV.out)) ?_; intro Vu hown1 hgrow1; have HNU := Lib.hid (NumMap.put (by omega) (by omega) hD1 HD2.out.isMap HD3.out hown1); have FU := Lib.hid ((HFX.out.trans (Fix.of_below GY.out)).trans (fix_turn hgrow1)); clear hown1 hgrow1)
      go_roundw
      case rel =>
       refine ⟨k + 1, by omega, by go_num, ?_, FU.out, ?_⟩
       ·rw [HS2.out, List.length_append, HJ.out, List.length_singleton]; go_num
       ·rw [HS2.out]
        refine HNU.out.congr fun s => ?_
        rw [gK_snoc HSR.out, HJ.out, HVJ.out]
      case measure => simp [intOf]; omega
    ·obtain rfl : n1 = k := by omega
     have HNA := Lib.hid (show NumMap wr bm n1 (numBy p known ns) from HNK.out.congr (fun s => by rw [cntK_all (by rw [HL1.out]; exact Nat.le_refl _)]; exact gK_all (by rw [HLN.out, count_len, HLA.out]) s))
     have HSRC := Lib.hid (fun x (hx : x ∈ lookL p known every) => look_src HOK.out hx)
     have HNL := Lib.hid (show numsL p known ns = (lookL p known every).map fun x => numBy p known ns x.a from rfl)
     have HFW := Lib.hid (HFX.out.blk HF3.out (by omega) (by omega))
     have HBBW := Lib.hid (HFX.out.blk HBB.out (by omega) (by omega))
     have HAW := Lib.hid (HA3.out.fix hfx (fun b o e h0 => by
      obtain ⟨b', o', e', hlt, -⟩ := HA2.out.2 h0
      rw [e] at e'; cases e'
      omega))
     have GW := Lib.hid (G3.out.trans (HFX.out.below (B := w.heap.size) (by omega) (by have := G3.out.size; omega)))
     have hws := HFX.out.size
     have hgw := GW.out.size
     clear hfx hnm f0 q1 hkn hk hkl
     have f0 := HFW.out.cell 0
     go_wp2_with fail
     refine (carted_any _ _).mono ?_
     rintro e w' ⟨rfl, hw'⟩
     have hbo : Blk w' wr.heap.size 39 #[.slice none 0 0] := by rw [← hw']; exact (Blk.new _ _ _).alloc _
     have hbQ : Blk w' (wr.heap.size + 1) 134 #[.pointer (some ⟨bf, 0, none⟩)] := by
      rw [← hw']; have := Blk.new (wr.alloc (.cells #[.slice none 0 0] 39)) 134 #[.pointer (some ⟨bf, 0, none⟩)]; rw [World.size_alloc] at this; exact this
     have hbel : Below wr.heap.size wr w' := by rw [← hw']; exact two_more _ _ _
     have hsz : w'.heap.size = wr.heap.size + 2 := by rw [← hw']; simp
     rw [show (wr.alloc (.cells #[.slice none 0 0] 39)).heap.size = wr.heap.size + 1 by simp]
     clear hw'
     rename World => W0
     have HF0 := Lib.hid (HFW.out.ext hbel)
     have HBB0 := Lib.hid (HBBW.out.ext hbel)
     have HA0 := Lib.hid (HAW.out.below hbel)
     have HNA0 := Lib.hid (HNA.out.ext hbel)
     have G0 := Lib.hid (GW.out.trans (hbel.mono hgw))
     have hbfl := HFW.out.lt
     have hbbl := HBBW.out.lt
     obtain ⟨bo, hboe⟩ : ∃ b, wr.heap.size = b := ⟨_, rfl⟩
     rw [hboe] at hbo hbQ hws hgw hbfl hbbl hsz ⊢
     have HAD := Lib.hid (show ∀ b o, A = some ⟨b, o, none⟩ → 0 < nn → b ≠ bo ∧ b < W0.heap.size from fun b o e h0 => by
      obtain ⟨b', o', e', hlt, -⟩ := HAW.out.2 h0
      rw [e] at e'; cases e'
      omega)
     go_wp2_with fail
     obtain ⟨ls, hls⟩ : ∃ l, lookL p known every = l := ⟨_, rfl⟩
     rw [hls] at HSRC HNL HA0 HLA
     obtain ⟨g, hg⟩ : ∃ g, numBy p known ns = g := ⟨_, rfl⟩
     have HNL2 := Lib.hid (show numsL p known ns = ls.map fun x => g x.a by rw [HNL.out, ← hg])
     rw [hg] at HNA0
     have HSQ := Lib.hid (carted_stopsA 3 W0 (bo + 1) bf A nn c ls (hbQ.cell 0) (HF0.out.cell 2) HA0.out (by omega))
     have HBO := Lib.hid hbo
     have HSZ := Lib.hid hsz
     have hbo2 : bo + 1 < W0.heap.size := by omega
     clear hls hg hbo hbQ hbel f0 hsz
     refine (wpIn_wide (n := 4)).1 ?_
     refine wpIn_rangeFunc_ownH (α := Cx nn) (F := Fence.wide) (n := 4) rfl (by omega) (gf := 202) (lb := #[.pointer (some ⟨bo + 1, 0, none⟩)]) rfl trivial
      (enters_of Tryz.func202 (by kernel_rfl) rfl) HSQ.out (fun h k => FixA.trans h k) ?hKb (Below.refl _ _) (fun _ => rfl)
      (fun pre W => FixU W0.heap.size bo bo W0 W ∧ (∃ v, Blk W bo 39 #[v] ∧ OwnL icells 1 3 W W0.heap.size v (pre.map (byAt g ls))) ∧ Oto W0 W) (fun _ _ _ => False) ?hI ?hIx ?h0
      (fun x a' W => ∃ Bx, W0.heap.size ≤ Bx ∧ Blk W Bx 103 #[.int .i64 (ls.getD x.1 z6).a, .int .i64 (ls.getD x.1 z6).b, .int .i64 (ls.getD x.1 z6).c, .int .i64 (ls.getD x.1 z6).d, .int .i64 (ls.getD x.1 z6).e, .int .i64 (ls.getD x.1 z6).f] ∧
       a' = (?F : Cx nn → Nat → Act) x Bx) ?hAx ?assign ?body ?done ?stop
     case assign =>
      rintro l pre x W K ⟨hfx, ⟨v, hbo, ho⟩, hto⟩ hK
      unfold encC
      gi_wp2
      refine hK _ _ ((KeepsOthers.alloc _ _).from _) (FixA.alloc _ _ _ _ _) ⟨hfx.trans (FixU.of_below (one_more _ _)), ⟨v, hbo.alloc _, ho.ext (one_more _ _)⟩, hto.below (one_more _ _)⟩ ⟨W.heap.size, hfx.size, Blk.new _ _ _, ?_⟩
      generalize W.heap.size = B
      rfl
     case hKb =>
      intro Wb l o o' hl ho hc _
      exact FixA.putObj ho hc _
     case hI =>
      rintro pre X Y row ⟨hfx, ⟨v, hbo, ho⟩, hto⟩ hg hr
      have hr1 : ∀ r, row = some r → ∃ o : Obj, X.heap[r]? = some o ∧ o.isCells = false := fun r e => (hr r e).2
      exact ⟨(FixU.own (α := Nat) (Nat.le_refl _)) [] _ _ _ hfx hg hr, ⟨v, hbo.own hg hr1, ho.held hg hr1⟩, hto.grown hg⟩
     case hIx => exact fun _ _ _ _ _ hs _ _ => hs
     case h0 => exact ⟨FixU.refl _ _ _ _, ⟨_, HBO.out, OwnL.nil _ _⟩, Oto.refl _⟩
     case hAx =>
      rintro x a' _ X Y row ⟨Bx, h1, h2, h3⟩ hg hr
      exact ⟨Bx, h1, h2.own hg (fun r e => (hr r e).2), h3⟩
     case body =>
      rintro l pre x a' W hl - ⟨hfx, ⟨v, hbo, ho⟩, hto⟩ ⟨Bx, hBx, hB, rfl⟩ hpl
      have hXs := hfx.size
      have o0 := hbo.cell 0
      have o1 := hbo.frozen 0
      have m0 := (hfx.blk HBB0.out (by omega) (by omega) (.inl (by omega))).cell 0
      have x0 := hB.cell 0
      obtain ⟨y, hy⟩ : ∃ y, ls.getD x.1 z6 = y := ⟨_, rfl⟩
      have hys := HSRC.out y (by rw [← hy]; exact getD_mem (by rw [HLA.out]; exact x.2))
      have hlk := (HNA0.out.same (hfx.block bm (by omega) (by omega) (by omega) (.inl (by omega)))).look (i := y.a) (by omega) (by omega)
      have HPR := Lib.hid (show (pre ++ [x]).map (byAt g ls) = pre.map (byAt g ls) ++ [g y.a] by rw [List.map_append, ← hy]; rfl)
      rw [hy] at x0
      obtain ⟨gv, hgv⟩ : ∃ v, g y.a = v := ⟨_, rfl⟩
      rw [hgv] at hlk HPR
      obtain ⟨pv, hpv⟩ : ∃ l, pre.map (byAt g ls) = l := ⟨_, rfl⟩
      have HPL := Lib.hid (show pv.length + 1 ≤ 1000000 by rw [← hpv, List.length_map]; omega)
      rw [hpv] at ho HPR
      have HFX := Lib.hid hfx
      have HBO2 := Lib.hid hbo
      have HO := Lib.hid ho
      have HTO := Lib.hid hto
      have HOX := Lib.hid (ho.ext (one_more W (.cells #[.int .i64 gv] 3)))
      have HI1 := Lib.hid (one_int (Blk.new W 3 #[.int .i64 gv]))
      have HOB := Lib.hid (fun (k : Nat) (e : v.ownBlock = some k) => (own_cells HO.out e).1)
      clear hy hgv hpv hfx hbo ho hto hB
      gi_wp2_with (gi_at_builtin; go_loud (refine wpListIn_app kdI (by rfl) _ _ (by rfl) W0.heap.size v pv (by rfl) HOX.out _ 1 1 [gv] (by rfl) HI1.out HPL.out (by simp; omega) ?_); intro v' w2 ho2 hg2; obtain ⟨Av, cv, hve, -⟩ := OwnL.arr kdI ho2; obtain ⟨nv, hnv⟩ : ∃ nv, (pv ++ [gv]).length = nv := ⟨_, rfl⟩; rw [hnv] at hve; subst hve; clear hnv; have b9 := ((HBO2.out.alloc (.cells #[.int .i64 gv] 3)).grown hg2 (fun e => by have := HOB.out _ e; omega)); have m0 := b9.cell 0; have m1 := b9.frozen 0; have HS := Lib.hid (app_step bo HBO2.out HO.out (by omega) ho2 hg2); clear ho2 hg2 b9)
      refine ⟨HS.out.kf _, HS.out.fx.fixA (fun b o e h0 => ⟨(HAD.out b o e h0).1, (HAD.out b o e h0).1, (HAD.out b o e h0).2⟩), HFX.out.trans HS.out.fx, ⟨_, HS.out.bx, ?_⟩, HTO.out.trans HS.out.oto⟩
      rw [HPR.out]
      exact HS.out.own
     case done =>
      rintro D xs W hD hS ⟨hfx, ⟨v, hbo, ho⟩, hto⟩ hK
      have o0 := hbo.cell 0
      have hXs := hfx.size
      have HE := Lib.hid (show xs.map (byAt g ls) = numsL p known ns by
       rw [HNL2.out]; exact (show xs.map (byAt g ls) = (xs.map fun x => ls.getD x.1 z6).map (fun x => g x.a) by rw [List.map_map]; rfl).trans (congrArg (List.map fun x => g x.a) (all_came HLA.out hS)))
      rw [HE.out] at ho
      have HO := Lib.hid ho
      have HK := Lib.hid hK
      have HFX := Lib.hid hfx
      have HTO := Lib.hid hto
      clear hbo ho hfx hto hS
      go_wp2_with fail
      refine ⟨by simp, .inl ⟨_, _, rfl, run_takeDeferred HK.out, ?_⟩⟩
      refine ⟨_, results_tmp2 rfl _ _ _, ⟨_, by rw [HNB2.out]; rfl, fun _ => ?_, fun h => (by rw [HNB2.out] at h; cases h)⟩, G0.out.trans ?_⟩
      ·exact (HO.out.held (grownBy_putObj' _ D _) (fun r e => by cases e; exact ⟨_, HK.out, rfl⟩)).mono G0.out.size
      ·exact (HFX.out.below (D := w.heap.size) HTO.out (by omega) (by omega) (by omega) (by omega)).grown (grownBy_putObj' _ D _) (by omega) (fun k hk => by cases hk; omega)
     case stop =>
      rintro D cd pre X _ _ h _
      exact h.elim
end Go.Proofs.YtkoejeghihcmlaaGreat

namespace Go.Proofs.YtkoejeghihcmlaaGreat
open Go.RowKit Go.Shelf
/-- A copy's lists are its own. -/
structure Cp (w : World) (B : Nat) (p : Pl) (v1 v2 v3 : Value) : Prop where
 l1 : OwnL scells 6 103 w B v1 p.loads
 l2 : OwnL scells 6 105 w B v2 p.stands
 l3 : OwnL scells 6 107 w B v3 p.spells
 d12 : ∀ k, v1.ownBlock = some k → v2.ownBlock ≠ some k
 d13 : ∀ k, v1.ownBlock = some k → v3.ownBlock ≠ some k
 d23 : ∀ k, v2.ownBlock = some k → v3.ownBlock ≠ some k
abbrev plw (p : Pl) (v1 v2 v3 : Value) : Array Value := #[.int .i64 p.lo, .int .i64 p.hi, v1, v2, v3, .int .i64 p.geese]
theorem Cp.far {w : World} {B : Nat} {p : Pl} {v1 v2 v3 : Value} (h : Cp w B p v1 v2 v3) {a : Addr} (ha : a.block < B) (u : Value) : Cp (w.setCell a u) B p v1 v2 v3 := ⟨h.l1.far ha u, h.l2.far ha u, h.l3.far ha u, h.d12, h.d13, h.d23⟩
theorem Cp.mono {w : World} {B B' : Nat} {p : Pl} {v1 v2 v3 : Value} (h : Cp w B p v1 v2 v3) (hb : B' ≤ B) : Cp w B' p v1 v2 v3 := ⟨h.l1.mono hb, h.l2.mono hb, h.l3.mono hb, h.d12, h.d13, h.d23⟩
end Go.Proofs.YtkoejeghihcmlaaGreat

namespace Go.Proofs.YtkoejeghihcmlaaGreat
open Go.RowKit Go.Shelf
theorem OwnL.grown {α : Type} {f : α → List Value} {size : Nat} {e : TypeId} {w w' : World} {base : Nat} {v : Value} {xs : List α} {row : Option Nat} (h : OwnL f size e w base v xs) (hg : w.grownBy w' row) (hne : ∀ k, v.ownBlock = some k → row ≠ some k) : OwnL f size e w' base v xs := by
 refine World.ownsRow.kept h hg ?_
 cases hq : v.ownBlock with
 | none => exact .inl rfl
 | some k => exact .inr (fun e => hne k hq e.symm)
end Go.Proofs.YtkoejeghihcmlaaGreat
namespace Go.Proofs.YtkoejeghihcmlaaGreat
open Go.RowKit Go.Shelf
theorem Arr.grown {α : Type} {f : α → List Value} {size n : Nat} {w w' : World} {A : Option Addr} {xs : List α} {row : Option Nat} (h : Arr f size w A n xs) (hg : w.grownBy w' row) (hd : ∀ b o, A = some ⟨b, o, none⟩ → 0 < n → row ≠ some b) : Arr f size w' A n xs :=
 ⟨h.1, fun hn => by
  obtain ⟨b, o, rfl, hlt, hc⟩ := h.2 hn
  exact ⟨b, o, rfl, Nat.lt_of_lt_of_le hlt hg.size, fun i x hx j u hu => (World.cell?_of_block (a := ⟨b, o + i * size + j, none⟩) (hg.block b hlt (fun e => hd b o rfl hn e.symm))).trans (hc i x hx j u hu)⟩⟩
theorem Pa.turned {w w' : World} {p : Pl} {A1 A2 A3 : Option Addr} {n1 c1 n2 c2 n3 c3 : Nat} {row : Option Nat} (h : Pa w p A1 A2 A3 n1 c1 n2 c2 n3 c3) (hg : w.grownBy w' row) (h1 : ∀ b o, A1 = some ⟨b, o, none⟩ → 0 < n1 → row ≠ some b) (h2 : ∀ b o, A2 = some ⟨b, o, none⟩ → 0 < n2 → row ≠ some b) (h3 : ∀ b o, A3 = some ⟨b, o, none⟩ → 0 < n3 → row ≠ some b) : Pa w' p A1 A2 A3 n1 c1 n2 c2 n3 c3 :=
 ⟨h.l1.grown hg h1, h.l2.grown hg h2, h.l3.grown hg h3, h.m1, h.m2, h.m3⟩
theorem Arr.lt_of {α : Type} {f : α → List Value} {size n b o : Nat} {w : World} {A : Option Addr} {xs : List α} (h : Arr f size w A n xs) (e : A = some ⟨b, o, none⟩) (hn : 0 < n) : b < w.heap.size := by
 obtain ⟨b', o', e', hlt, -⟩ := h.2 hn
 rw [e] at e'; cases e'; exact hlt
end Go.Proofs.YtkoejeghihcmlaaGreat
namespace Go.Proofs.YtkoejeghihcmlaaGreat
open Go.RowKit Go.Shelf
/-- Four numbers. -/
structure Q4 where
 a : Int
 b : Int
 c : Int
 d : Int
def z4 : Q4 := ⟨0, 0, 0, 0⟩
def q4cells (x : Q4) : List Value := [.int .i64 x.a, .int .i64 x.b, .int .i64 x.c, .int .i64 x.d]
/-- What numbers determine a plot. -/
structure Raw where
 sown : Int
 geese : Int
 loads : List Q4
 stands : List Q4
 spells : List Q4
def mkTook (left : Int) (x : Q4) : Int := if x.b % 5 = 0 then left else x.b % (left + 1)
def mkLoad (i : Nat) (hour took : Int) (x : Q4) : Six := ⟨1 + (i : Int), hour, max 0 (took - x.c % 12), took + x.c.tdiv 12 % 12, x.d % 20, 0⟩
/-- What stands while loads are made: what is left, the hour, the loads, what they took. -/
structure St where
 left : Int
 hour : Int
 loads : List Six
 nums : List Int
def stepL (s : St) (i : Nat) (x : Q4) : St := ⟨s.left - mkTook s.left x, s.hour + x.a % 9, s.loads ++ [mkLoad i (s.hour + x.a % 9) (mkTook s.left x) x], s.nums ++ [mkTook s.left x]⟩
def stL (r : Raw) : Nat → St
 | 0 => ⟨r.sown % 200, 20, [], []⟩
 | k + 1 => stepL (stL r k) k (r.loads.getD k z4)
def manyL (r : Raw) : Nat := min r.loads.length 6
def madeLoads (r : Raw) : List Six := (stL r (manyL r)).loads
def madeNums (r : Raw) : List Int := (stL r (manyL r)).nums
/-- What stood after the loads of an hour. -/
def stoodAt (ls : List Six) (ns : List Int) (sown hour : Int) : Nat → Int
 | 0 => sown
 | k + 1 => stoodAt ls ns sown hour k - (if (ls.getD k z6).b ≤ hour then ns.getD k 0 else 0)
def standV (r : Raw) (right : Bool) (x : Q4) : Int := if right = true then stoodAt (madeLoads r) (madeNums r) (r.sown % 200) (18 + x.a % 50) (madeLoads r).length else x.b % 200
def mkStand (r : Raw) (right : Bool) (i : Nat) (x : Q4) : Six := ⟨21 + (i : Int), 18 + x.a % 50, max 0 (standV r right x - x.c % 12), standV r right x + x.c.tdiv 12 % 12, x.d % 20, 0⟩
def madeStandsK (r : Raw) (right : Bool) : Nat → List Six
 | 0 => []
 | k + 1 => madeStandsK r right k ++ [mkStand r right k (r.stands.getD k z4)]
def mkSpell (i : Nat) (x : Q4) : Six := ⟨41 + (i : Int), 1 + x.a % 2, 20 + x.b % 90, 20 + x.b % 90 + x.c % 12, x.d % 20, 0⟩
def madeSpellsK (r : Raw) : Nat → List Six
 | 0 => []
 | k + 1 => madeSpellsK r k ++ [mkSpell k (r.spells.getD k z4)]
def madeP (r : Raw) (right : Bool) : Pl :=
 ⟨max 0 (r.sown % 200 - r.sown.tdiv 200 % 9), r.sown % 200 + r.sown.tdiv 1800 % 9, madeLoads r, madeStandsK r right (min r.stands.length 6), madeSpellsK r (min r.spells.length 4), r.geese % 4⟩
theorem took_bd {left : Int} (h : 0 ≤ left) (x : Q4) : 0 ≤ mkTook left x ∧ mkTook left x ≤ left := by
 unfold mkTook
 split
 ·omega
 ·have := Int.emod_nonneg x.b (by omega : left + 1 ≠ 0)
  have := Int.emod_lt_of_pos x.b (by omega : 0 < left + 1)
  omega
/-- What holds while loads are made. -/
structure StOk (r : Raw) (k : Nat) (s : St) : Prop where
 left : 0 ≤ s.left ∧ s.left ≤ 199
 hour : 20 ≤ s.hour ∧ s.hour ≤ 20 + 8 * (k : Int)
 len : s.loads.length = k
 nlen : s.nums.length = k
 each : ∀ j, j < k → (s.loads.getD j z6).a = 1 + (j : Int) ∧ 20 ≤ (s.loads.getD j z6).b ∧ (s.loads.getD j z6).b ≤ s.hour ∧ 0 ≤ (s.loads.getD j z6).c ∧ (s.loads.getD j z6).c ≤ s.nums.getD j 0 ∧ s.nums.getD j 0 ≤ (s.loads.getD j z6).d ∧ (s.loads.getD j z6).d ≤ 210 ∧ 0 ≤ (s.loads.getD j z6).e ∧ (s.loads.getD j z6).e ≤ 19 ∧ (s.loads.getD j z6).f = 0 ∧ 0 ≤ s.nums.getD j 0
 up : ∀ i j, i ≤ j → j < k → (s.loads.getD i z6).b ≤ (s.loads.getD j z6).b
theorem getD_snoc_lt {α : Type} {l : List α} {x d : α} {j : Nat} (h : j < l.length) : (l ++ [x]).getD j d = l.getD j d := by
 rw [List.getD_eq_getElem?_getD, List.getD_eq_getElem?_getD, List.getElem?_append_left h]
theorem getD_snoc_eq {α : Type} {l : List α} {x d : α} {j : Nat} (h : j = l.length) : (l ++ [x]).getD j d = x := by
 subst h
 rw [List.getD_eq_getElem?_getD, List.getElem?_append_right (Nat.le_refl _), Nat.sub_self]; rfl
theorem stL_ok (r : Raw) : ∀ k, StOk r k (stL r k)
 | 0 => by
  refine ⟨?_, ?_, rfl, rfl, fun j hj => absurd hj (by omega), fun i j _ hj => absurd hj (by omega)⟩
  ·show 0 ≤ r.sown % 200 ∧ r.sown % 200 ≤ 199
   omega
  ·show 20 ≤ (20 : Int) ∧ (20 : Int) ≤ 20 + 8 * ((0 : Nat) : Int)
   omega
 | k + 1 => by
  obtain ⟨h1, h2, h3, h4, h5, h6⟩ := stL_ok r k
  obtain ⟨x, hx⟩ : ∃ x, r.loads.getD k z4 = x := ⟨_, rfl⟩
  obtain ⟨s, hs⟩ : ∃ s, stL r k = s := ⟨_, rfl⟩
  have e : stL r (k + 1) = stepL s k x := by rw [← hs, ← hx]; rfl
  rw [hs] at h1 h2 h3 h4 h5 h6
  rw [e]
  have ht := took_bd h1.1 x
  have ha := Int.emod_nonneg x.a (by decide : (9 : Int) ≠ 0)
  have ha2 := Int.emod_lt_of_pos x.a (by decide : (0 : Int) < 9)
  obtain ⟨t, htk⟩ : ∃ t, mkTook s.left x = t := ⟨_, rfl⟩
  have hc := Int.emod_nonneg x.c (by decide : (12 : Int) ≠ 0)
  have hc2 := Int.emod_nonneg (x.c.tdiv 12) (by decide : (12 : Int) ≠ 0)
  have hc3 := Int.emod_lt_of_pos (x.c.tdiv 12) (by decide : (0 : Int) < 12)
  have hd := Int.emod_nonneg x.d (by decide : (20 : Int) ≠ 0)
  have hd2 := Int.emod_lt_of_pos x.d (by decide : (0 : Int) < 20)
  unfold stepL
  rw [htk] at ht ⊢
  refine ⟨?_, ?_, ?_, ?_, ?_, ?_⟩
  ·dsimp only; omega
  ·dsimp only; omega
  ·dsimp only; rw [List.length_append, h3]; rfl
  ·dsimp only; rw [List.length_append, h4]; rfl
  ·intro j hj
   dsimp only
   by_cases hjk : j < k
   ·rw [getD_snoc_lt (by omega), getD_snoc_lt (by omega)]
    have := h5 j hjk
    omega
   ·have : j = k := by omega
    subst this
    rw [getD_snoc_eq h3.symm, getD_snoc_eq h4.symm]
    unfold mkLoad
    dsimp only
    omega
  ·intro i j hij hj
   dsimp only
   by_cases hjk : j < k
   ·rw [getD_snoc_lt (by omega), getD_snoc_lt (by omega)]
    exact h6 i j hij hjk
   ·have : j = k := by omega
    subst this
    rw [getD_snoc_eq h3.symm]
    by_cases hik : i < j
    ·rw [getD_snoc_lt (by omega)]
     have := h5 i hik
     show _ ≤ s.hour + x.a % 9
     omega
    ·have : i = j := by omega
     subst this
     rw [getD_snoc_eq h3.symm]
     exact Int.le_refl _
end Go.Proofs.YtkoejeghihcmlaaGreat
namespace Go.Proofs.YtkoejeghihcmlaaGreat
open Go.RowKit Go.Shelf
theorem okL_seq {is : Six → Bool} {ks : List Int} {l : List Six} {base : Int} (h1 : ∀ j, j < l.length → is (l.getD j z6) = true ∧ (l.getD j z6).a = base + (j : Int)) (hks : ∀ s ∈ ks, s < base) (hlen : l.length ≤ 60) : okL is ks l = true := by
 refine (okL_yes fun j hj => ?_).trans (decide_eq_true hlen)
 obtain ⟨h2, h3⟩ := h1 j hj
 unfold okAt
 rw [h2, Bool.true_and, Bool.and_eq_true]
 constructor
 ·rw [Bool.or_eq_true, decide_eq_true_eq, decide_eq_true_eq]
  by_cases h0 : j = 0
  ·exact .inl h0
  ·refine .inr ?_
   have := (h1 (j - 1) (by omega)).2
   omega
 ·rw [Bool.not_eq_true', ← Bool.not_eq_true, List.contains_iff_mem]
  intro hm
  rcases List.mem_append.1 hm with hm | hm
  ·have := hks _ hm; omega
  ·unfold srcs at hm
   obtain ⟨y, hy, hya⟩ := List.mem_map.1 hm
   obtain ⟨i, hi, rfl⟩ := List.getElem_of_mem hy
   have hi' : i < j ∧ i < l.length := by rw [List.length_take] at hi; omega
   have := (h1 i hi'.2).2
   rw [List.getElem_take] at hya
   rw [List.getD_eq_getElem?_getD, List.getElem?_eq_getElem hi'.2] at this
   have h4 : l[i].a = base + (i : Int) := this
   omega
theorem stL_nums {r : Raw} {j : Nat} : ∀ {k m : Nat}, j < k → k ≤ m → (stL r m).nums.getD j 0 = (stL r k).nums.getD j 0 ∧ (stL r m).loads.getD j z6 = (stL r k).loads.getD j z6
 | k, 0, h1, h2 => absurd h1 (by omega)
 | k, m + 1, h1, h2 => by
  rcases Nat.lt_or_ge m k with h3 | h3
  ·have : k = m + 1 := by omega
   subst this; exact ⟨rfl, rfl⟩
  ·have ih := stL_nums (r := r) h1 h3
   have hk := stL_ok r m
   obtain ⟨x, hx⟩ : ∃ x, r.loads.getD m z4 = x := ⟨_, rfl⟩
   have e : stL r (m + 1) = stepL (stL r m) m x := by rw [← hx]; rfl
   rw [e]
   unfold stepL
   dsimp only
   rw [getD_snoc_lt (by rw [hk.nlen]; omega), getD_snoc_lt (by rw [hk.len]; omega)]
   exact ih
theorem stL_left (r : Raw) (k : Nat) : (stL r (k + 1)).left = (stL r k).left - (stL r (k + 1)).nums.getD k 0 := by
 obtain ⟨x, hx⟩ : ∃ x, r.loads.getD k z4 = x := ⟨_, rfl⟩
 have e : stL r (k + 1) = stepL (stL r k) k x := by rw [← hx]; rfl
 have hk := stL_ok r k
 rw [e]
 unfold stepL
 dsimp only
 rw [getD_snoc_eq hk.nlen.symm]
theorem manyL_le (r : Raw) : manyL r ≤ 6 := Nat.min_le_right _ _
theorem left_num {r : Raw} {k : Nat} (hk : k < manyL r) : (stL r (k + 1)).left = (stL r k).left - (madeNums r).getD k 0 := by
 rw [stL_left]
 unfold madeNums
 rw [(stL_nums (r := r) (j := k) (k := k + 1) (m := manyL r) (by omega) (by omega)).1]
theorem madeL_ok (r : Raw) : StOk r (manyL r) (stL r (manyL r)) := stL_ok r _
/-- What stood after an hour is what was left after so many loads. -/
theorem stoodAt_left {r : Raw} {h : Int} : ∀ {k : Nat}, k ≤ manyL r → (∀ j, j < manyL r → (((madeLoads r).getD j z6).b ≤ h ↔ j < after (madeLoads r) h)) → stoodAt (madeLoads r) (madeNums r) (r.sown % 200) h k = (stL r (min k (after (madeLoads r) h))).left
 | 0, _, _ => by rw [Nat.zero_min]; rfl
 | k + 1, hk, hu => by
  have ih := stoodAt_left (r := r) (h := h) (k := k) (by omega) hu
  show stoodAt (madeLoads r) (madeNums r) (r.sown % 200) h k - _ = _
  rw [ih]
  have h2 := hu k (by omega)
  by_cases hb : ((madeLoads r).getD k z6).b ≤ h
  ·have h3 := h2.1 hb
   rw [if_pos hb, Nat.min_eq_left (by omega), Nat.min_eq_left (by omega), left_num (by omega)]
  ·have h3 : ¬ k < after (madeLoads r) h := fun hc => hb (h2.2 hc)
   rw [if_neg hb, Nat.min_eq_right (by omega), Nat.min_eq_right (by omega)]
   omega
theorem made_len (r : Raw) : (madeLoads r).length = manyL r := (madeL_ok r).len
theorem made_up (r : Raw) : Up (madeLoads r) := by
 have h := madeL_ok r
 rw [Up, List.pairwise_iff_getElem]
 intro i j hi hj hij
 have := h.up i j (by omega) (by have := made_len r; omega)
 rw [List.getD_eq_getElem?_getD, List.getD_eq_getElem?_getD] at this
 have h2 : (stL r (manyL r)).loads = madeLoads r := rfl
 rw [h2, List.getElem?_eq_getElem hi, List.getElem?_eq_getElem hj] at this
 exact this
theorem made_each {r : Raw} {j : Nat} (hj : j < manyL r) : ((madeLoads r).getD j z6).a = 1 + (j : Int) ∧ 20 ≤ ((madeLoads r).getD j z6).b ∧ ((madeLoads r).getD j z6).b ≤ 68 ∧ 0 ≤ ((madeLoads r).getD j z6).c ∧ ((madeLoads r).getD j z6).c ≤ (madeNums r).getD j 0 ∧ (madeNums r).getD j 0 ≤ ((madeLoads r).getD j z6).d ∧ ((madeLoads r).getD j z6).d ≤ 210 ∧ 0 ≤ ((madeLoads r).getD j z6).e ∧ ((madeLoads r).getD j z6).e ≤ 19 ∧ ((madeLoads r).getD j z6).f = 0 ∧ 0 ≤ (madeNums r).getD j 0 := by
 have h := madeL_ok r
 have h2 := h.each j hj
 have h3 := h.hour
 have h4 := manyL_le r
 unfold madeLoads madeNums
 omega
theorem stoodAt_eq (r : Raw) (h : Int) : stoodAt (madeLoads r) (madeNums r) (r.sown % 200) h (madeLoads r).length = (stL r (after (madeLoads r) h)).left := by
 have hl := made_len r
 have := stoodAt_left (r := r) (h := h) (k := (madeLoads r).length) (by omega) (fun j hj => after_spec (made_up r) j (by omega))
 rw [this, Nat.min_eq_right (after_len _ _)]
theorem standV_bd (r : Raw) (right : Bool) (x : Q4) : 0 ≤ standV r right x ∧ standV r right x ≤ 199 := by
 unfold standV
 split
 ·rw [stoodAt_eq]
  exact (stL_ok r _).left
 ·omega
theorem stands_len (r : Raw) (right : Bool) : ∀ k, (madeStandsK r right k).length = k
 | 0 => rfl
 | k + 1 => by show (madeStandsK r right k ++ [_]).length = _; rw [List.length_append, stands_len r right k]; rfl
theorem stands_at {r : Raw} {right : Bool} {j : Nat} : ∀ {k : Nat}, j < k → (madeStandsK r right k).getD j z6 = mkStand r right j (r.stands.getD j z4)
 | 0, h => absurd h (by omega)
 | k + 1, h => by
  show (madeStandsK r right k ++ [_]).getD j z6 = _
  by_cases hk : j < k
  ·rw [getD_snoc_lt (by rw [stands_len]; exact hk), stands_at hk]
  ·have : j = k := by omega
   subst this
   rw [getD_snoc_eq (stands_len _ _ _).symm]
theorem spells_len (r : Raw) : ∀ k, (madeSpellsK r k).length = k
 | 0 => rfl
 | k + 1 => by show (madeSpellsK r k ++ [_]).length = _; rw [List.length_append, spells_len r k]; rfl
theorem spells_at {r : Raw} {j : Nat} : ∀ {k : Nat}, j < k → (madeSpellsK r k).getD j z6 = mkSpell j (r.spells.getD j z4)
 | 0, h => absurd h (by omega)
 | k + 1, h => by
  show (madeSpellsK r k ++ [_]).getD j z6 = _
  by_cases hk : j < k
  ·rw [getD_snoc_lt (by rw [spells_len]; exact hk), spells_at hk]
  ·have : j = k := by omega
   subst this
   rw [getD_snoc_eq (spells_len _ _).symm]
theorem rng_of {n lo hi : Int} (h1 : lo ≤ n) (h2 : n ≤ hi) : rng n lo hi = true := by unfold rng; rw [decide_eq_true h1, decide_eq_true h2]; rfl
theorem isLoad_of {x : Six} (h1 : 1 ≤ x.a ∧ x.a ≤ 99999) (h2 : 0 ≤ x.b ∧ x.b ≤ 99999) (h3 : 0 ≤ x.c ∧ x.c ≤ x.d ∧ x.d ≤ 10000) (h4 : 0 ≤ x.e ∧ x.e ≤ 4166) (h5 : x.f = 0) : isLoad x = true := by
 unfold isLoad okSh okTimes
 rw [rng_of h1.1 h1.2, rng_of h2.1 h2.2, rng_of h3.1 h3.2.1, rng_of h4.1 h4.2, decide_eq_true h3.2.2, decide_eq_true h5]
 rfl
theorem isSpell_of {x : Six} (h1 : 1 ≤ x.a ∧ x.a ≤ 99999) (h2 : x.b = 1 ∨ x.b = 2) (h3 : 0 ≤ x.c ∧ x.c ≤ x.d ∧ x.d ≤ 99999) (h4 : 0 ≤ x.e ∧ x.e ≤ 4166) (h5 : x.f = 0) : isSpell x = true := by
 unfold isSpell okTimes
 have e : (decide (x.b = 1) || decide (x.b = 2)) = true := by rw [Bool.or_eq_true, decide_eq_true_eq, decide_eq_true_eq]; exact h2
 rw [rng_of h1.1 h1.2, e, rng_of h3.1 (by omega), rng_of (by omega) h3.2.2, rng_of h4.1 h4.2, decide_eq_true h3.2.1, decide_eq_true h5]
 rfl
theorem stand_parts (r : Raw) (right : Bool) (j : Nat) (x : Q4) : 0 ≤ (mkStand r right j x).c ∧ (mkStand r right j x).c ≤ (mkStand r right j x).d ∧ (mkStand r right j x).d ≤ 210 ∧ 18 ≤ (mkStand r right j x).b ∧ (mkStand r right j x).b ≤ 67 ∧ 0 ≤ (mkStand r right j x).e ∧ (mkStand r right j x).e ≤ 19 := by
 have h1 := standV_bd r right x
 unfold mkStand
 dsimp only
 omega
theorem made_ok (r : Raw) (right : Bool) : okPl (madeP r right) = true := by
 have hm := manyL_le r
 have hll := made_len r
 have hs1 : ∀ s ∈ srcs (madeLoads r), s < 21 := fun s hs => by
  unfold srcs at hs
  obtain ⟨y, hy, rfl⟩ := List.mem_map.1 hs
  obtain ⟨i, hi, rfl⟩ := List.getElem_of_mem hy
  have := (made_each (r := r) (j := i) (by omega)).1
  rw [List.getD_eq_getElem?_getD, List.getElem?_eq_getElem hi] at this
  have h4 : (madeLoads r)[i].a = 1 + (i : Int) := this
  omega
 have hs2 : ∀ s ∈ srcs (madeStandsK r right (min r.stands.length 6)), s < 41 := fun s hs => by
  unfold srcs at hs
  obtain ⟨y, hy, rfl⟩ := List.mem_map.1 hs
  obtain ⟨i, hi, rfl⟩ := List.getElem_of_mem hy
  rw [stands_len] at hi
  have := stands_at (r := r) (right := right) hi
  rw [List.getD_eq_getElem?_getD, List.getElem?_eq_getElem (by rw [stands_len]; exact hi)] at this
  have h4 : (madeStandsK r right (min r.stands.length 6))[i]'(by rw [stands_len]; exact hi) = mkStand r right i (r.stands.getD i z4) := this
  rw [h4]
  show 21 + (i : Int) < 41
  omega
 unfold okPl madeP
 dsimp only
 have e1 : okL isLoad [] (madeLoads r) = true := okL_seq (base := 1) (fun j hj => by
  have h := made_each (r := r) (j := j) (by omega)
  exact ⟨isLoad_of (by omega) (by omega) (by omega) (by omega) h.2.2.2.2.2.2.2.2.2.1, h.1⟩) (fun s hs => (by cases hs)) (by omega)
 have e2 : okL isLoad (srcs (madeLoads r)) (madeStandsK r right (min r.stands.length 6)) = true := okL_seq (base := 21) (fun j hj => by
  rw [stands_len] at hj
  rw [stands_at hj]
  have h := stand_parts r right j (r.stands.getD j z4)
  have ha : (mkStand r right j (r.stands.getD j z4)).a = 21 + (j : Int) := rfl
  exact ⟨isLoad_of (by omega) (by omega) (by omega) (by omega) rfl, ha⟩) hs1 (by rw [stands_len]; omega)
 have e3 : okL isSpell (srcs (madeLoads r) ++ srcs (madeStandsK r right (min r.stands.length 6))) (madeSpellsK r (min r.spells.length 4)) = true := okL_seq (base := 41) (fun j hj => by
  rw [spells_len] at hj
  rw [spells_at hj]
  obtain ⟨x, hx⟩ : ∃ x, r.spells.getD j z4 = x := ⟨_, rfl⟩
  rw [hx]
  have ha : (mkSpell j x).a = 41 + (j : Int) := rfl
  have hb : (mkSpell j x).b = 1 + x.a % 2 := rfl
  have hc : (mkSpell j x).c = 20 + x.b % 90 := rfl
  have hd : (mkSpell j x).d = 20 + x.b % 90 + x.c % 12 := rfl
  have he : (mkSpell j x).e = x.d % 20 := rfl
  exact ⟨isSpell_of (by omega) (by omega) (by omega) (by omega) rfl, ha⟩) (fun s hs => by
   rcases List.mem_append.1 hs with hs | hs
   ·have := hs1 s hs; omega
   ·exact hs2 s hs) (by rw [spells_len]; omega)
 rw [e1, e2, e3]
 have e4 : okSh (max 0 (r.sown % 200 - r.sown.tdiv 200 % 9)) (r.sown % 200 + r.sown.tdiv 1800 % 9) = true := by
  unfold okSh
  rw [rng_of (by omega) (by omega), decide_eq_true (by omega)]; rfl
 have e5 : rng (r.geese % 4) 0 60 = true := rng_of (by omega) (by omega)
 rw [e4, e5]
 rfl
theorem made_19 (r : Raw) (right : Bool) : (madeP r right).loads.length ≤ 60 := by
 have := made_len r
 have := manyL_le r
 show (madeLoads r).length ≤ 60
 omega
end Go.Proofs.YtkoejeghihcmlaaGreat
namespace Go.Proofs.YtkoejeghihcmlaaGreat
open Go.RowKit Go.Shelf
/-- True numbers by a row narrowed by stands. -/
theorem tru_stands {known : Int} {meant : Int → Bool} {ls : List Six} {s : List Int} : ∀ {l : List Six} {st : List Rg}, st.length = ls.length + 1 →
  (Tru ls (standsF known meant ls l st) s ↔ Tru ls st s ∧ ∀ x ∈ l, (cnt x known && meant x.a) = true → x.c ≤ s.getD (after ls x.b) 0 ∧ s.getD (after ls x.b) 0 ≤ x.d)
 | [], st, _ => ⟨fun h => ⟨h, fun x hx => (by cases hx)⟩, fun h => h.1⟩
 | x :: l, st, hl => by
  have ha := after_len ls x.b
  have e : standsF known meant ls (x :: l) st = standsF known meant ls l (if (cnt x known && meant x.a) = true then nar st (after ls x.b) ⟨x.c, x.d⟩ else st) := rfl
  rw [e]
  by_cases hc : (cnt x known && meant x.a) = true
  ·rw [if_pos hc, tru_stands (l := l) (by rw [nar_len]; exact hl)]
   constructor
   ·rintro ⟨h1, h2⟩
    obtain ⟨h3, h4⟩ := tru_nar_back hl ha h1
    refine ⟨h3, fun y hy hcy => ?_⟩
    rcases List.mem_cons.1 hy with rfl | hy
    ·exact h4
    ·exact h2 y hy hcy
   ·rintro ⟨h1, h2⟩
    exact ⟨tru_nar hl ha h1 (h2 x (List.mem_cons_self) hc), fun y hy hcy => h2 y (List.mem_cons_of_mem _ hy) hcy⟩
  ·rw [if_neg hc, tru_stands (l := l) hl]
   constructor
   ·rintro ⟨h1, h2⟩
    refine ⟨h1, fun y hy hcy => ?_⟩
    rcases List.mem_cons.1 hy with rfl | hy
    ·exact absurd hcy hc
    ·exact h2 y hy hcy
   ·rintro ⟨h1, h2⟩
    exact ⟨h1, fun y hy hcy => h2 y (List.mem_cons_of_mem _ hy) hcy⟩
theorem look_tru {p : Pl} {known : Int} {meant : Int → Bool} {s : List Int} : Tru (lookL p known meant) (lookS p known meant) s ↔
  Tru (lookL p known meant) (stood0 p (lookL p known meant).length) s ∧ ∀ x ∈ p.stands, (cnt x known && meant x.a) = true → x.c ≤ s.getD (after (lookL p known meant) x.b) 0 ∧ s.getD (after (lookL p known meant) x.b) 0 ≤ x.d := by
 have hl := row_len p known meant (lookL p known meant).length (lookL p known meant) p.stands
 rw [← tru_stands (known := known) (meant := meant) (l := p.stands) (stood0_len p _)]
 exact ⟨fun h => settle_tru hl h, fun h => tru_settle hl h⟩
/-- Sorted by their hours already. -/
theorem insH_last {x : Six} : ∀ {l : List Six}, (∀ y ∈ l, y.b ≤ x.b) → insH x l = l ++ [x]
 | [], _ => rfl
 | y :: l, h => by
  unfold insH
  have := h y List.mem_cons_self
  rw [if_neg (by omega), insH_last (fun z hz => h z (List.mem_cons_of_mem _ hz))]
  rfl
theorem srtH_id {l : List Six} (h : Up l) : srtH l = l := by
 have key : ∀ (l out : List Six), Up (out ++ l) → l.foldl (fun out x => insH x out) out = out ++ l := by
  intro l
  induction l with
  | nil => intro out _; rw [List.append_nil]; rfl
  | cons x l ih =>
   intro out hu
   rw [List.foldl_cons, insH_last (fun y hy => (List.pairwise_append.1 hu).2.2 y hy x List.mem_cons_self), ih _ (by rw [List.append_assoc]; exact hu), List.append_assoc]
   rfl
 exact key l [] h
theorem veil_every (x : Six) : veil every x = x := by unfold veil every; rfl
theorem pick_every (p : Pl) (known : Int) : pickL p known every = p.loads.filter fun x => cnt x known := by
 unfold pickL
 have : (fun x : Six => if every x.a = true then x else { x with c := 0, d := 10000 }) = id := by funext x; rfl
 rw [this, List.map_id]
theorem made_look (r : Raw) (right : Bool) (known : Int) : lookL (madeP r right) known every = (madeLoads r).filter fun x => cnt x known := by
 unfold lookL
 rw [pick_every]
 exact srtH_id (made_up r |>.filter _)
theorem made_cnt (r : Raw) {known : Int} (hk : 19 ≤ known) : ∀ x ∈ madeLoads r, cnt x known = true := fun x hx => by
 obtain ⟨i, hi, rfl⟩ := List.getElem_of_mem hx
 have h := made_each (r := r) (j := i) (by have := made_len r; omega)
 rw [List.getD_eq_getElem?_getD, List.getElem?_eq_getElem hi] at h
 have h1 : (madeLoads r)[i].e ≤ 19 := h.2.2.2.2.2.2.2.2.1
 have h2 : (madeLoads r)[i].f = 0 := h.2.2.2.2.2.2.2.2.2.1
 unfold cnt
 rw [decide_eq_true (by omega), decide_eq_true h2]; rfl
theorem made_look20 (r : Raw) (right : Bool) {known : Int} (hk : 19 ≤ known) : lookL (madeP r right) known every = madeLoads r := by
 rw [made_look, List.filter_eq_self.2 (made_cnt r hk)]
/-- What was left, load by load. -/
def leftS (r : Raw) : List Int := (List.range (manyL r + 1)).map fun i => (stL r i).left
theorem leftS_at {r : Raw} {i : Nat} (hi : i ≤ manyL r) : (leftS r).getD i 0 = (stL r i).left := by
 unfold leftS
 rw [List.getD_eq_getElem?_getD, List.getElem?_map, List.getElem?_range (by omega)]; rfl
theorem stood0_at (p : Pl) (n : Nat) {i : Nat} (hi : i ≤ n) : Lo (stood0 p n) i = (if i = 0 then p.lo else 0) ∧ Hi (stood0 p n) i = (if i = 0 then p.hi else 10000) := by
 unfold stood0 Lo Hi
 cases i with
 | zero => exact ⟨rfl, rfl⟩
 | succ i => rw [List.getD_cons_succ, List.getD_eq_getElem?_getD, List.getElem?_replicate, if_pos (by omega)]; exact ⟨rfl, rfl⟩
theorem made_tru (r : Raw) : Tru (lookL (madeP r true) 20 every) (lookS (madeP r true) 20 every) (leftS r) := by
 rw [look_tru, made_look20 r true (by decide)]
 have hml := made_len r
 refine ⟨⟨?_, fun i hi => ?_, fun i hi => ?_⟩, fun x hx _ => ?_⟩
 ·unfold leftS; rw [List.length_map, List.length_range, hml]
 ·rw [leftS_at (by omega), leftS_at (by omega), left_num (by omega)]
  have h := made_each (r := r) (j := i) (by omega)
  unfold Ls Gr
  omega
 ·obtain ⟨h1, h2⟩ := stood0_at (madeP r true) (madeLoads r).length hi
  rw [h1, h2, leftS_at (by omega)]
  have h3 := (stL_ok r i).left
  by_cases h0 : i = 0
  ·subst h0
   rw [if_pos rfl, if_pos rfl]
   have e : (stL r 0).left = r.sown % 200 := rfl
   rw [e]
   show max 0 (r.sown % 200 - r.sown.tdiv 200 % 9) ≤ _ ∧ _ ≤ r.sown % 200 + r.sown.tdiv 1800 % 9
   omega
  ·rw [if_neg h0, if_neg h0]
   omega
 ·have hx' : x ∈ madeStandsK r true (min r.stands.length 6) := hx
  obtain ⟨i, hi, rfl⟩ := List.getElem_of_mem hx'
  have hi2 : i < min r.stands.length 6 := by rwa [stands_len] at hi
  have := stands_at (r := r) (right := true) hi2
  rw [List.getD_eq_getElem?_getD, List.getElem?_eq_getElem hi] at this
  have h4 : (madeStandsK r true (min r.stands.length 6))[i] = mkStand r true i (r.stands.getD i z4) := this
  rw [h4]
  obtain ⟨q, hq⟩ : ∃ q, r.stands.getD i z4 = q := ⟨_, rfl⟩
  rw [hq]
  have hal := after_len (madeLoads r) (18 + q.a % 50)
  have hsv : standV r true q = (leftS r).getD (after (madeLoads r) (18 + q.a % 50)) 0 := by
   rw [leftS_at (by omega)]
   unfold standV
   rw [if_pos rfl, stoodAt_eq]
  show max 0 (standV r true q - q.c % 12) ≤ (leftS r).getD (after (madeLoads r) (18 + q.a % 50)) 0 ∧ (leftS r).getD (after (madeLoads r) (18 + q.a % 50)) 0 ≤ standV r true q + q.c.tdiv 12 % 12
  rw [← hsv]
  have := standV_bd r true q
  omega
theorem made_sound (r : Raw) : sound (lookS (madeP r true) 20 every) = true := by
 have h := look_wid (made_ok r true) 20 every
 have hl := row_len (madeP r true) 20 every (lookL (madeP r true) 20 every).length (lookL (madeP r true) 20 every) (madeP r true).stands
 exact (sound_tru hl (fun i hi => (h i hi).2)).2 ⟨_, settle_tru hl (made_tru r)⟩
end Go.Proofs.YtkoejeghihcmlaaGreat
namespace Go.Proofs.YtkoejeghihcmlaaGreat
open Go.RowKit Go.Shelf
abbrev rawv (r : Raw) (A1 A2 A3 : Option Addr) (n1 c1 n2 c2 n3 c3 : Nat) : Array Value := #[.int .i64 r.sown, .int .i64 r.geese, .slice A1 n1 c1, .slice A2 n2 c2, .slice A3 n3 c3]
/-- What stands while a plot is made. -/
structure Mk (w0 : World) (B b2 b4 b5 b6 b8 : Nat) (raw : Array Value) (lo hi geese left0 : Int) (W : World) (v1 v2 v3 vn : Value) (ls ss ps : List Six) (ns : List Int) : Prop where
 ord : b2 < b4 ∧ b4 < b5 ∧ b5 < b6 ∧ b6 < b8 ∧ b8 < B
 g : Below b2 w0 W
 r : Blk W b2 24 raw
 q4 : Blk W b4 38 #[.int .i64 0, .int .i64 0, .slice none 0 0, .slice none 0 0, .slice none 0 0, .int .i64 0]
 q5 : Blk W b5 41 #[.int .i64 0, .slice none 0 0]
 p : Blk W b6 38 #[.int .i64 lo, .int .i64 hi, v1, v2, v3, .int .i64 geese]
 c : Blk W b8 41 #[.int .i64 left0, vn]
 o1 : OwnL scells 6 103 W B v1 ls
 o2 : OwnL scells 6 105 W B v2 ss
 o3 : OwnL scells 6 107 W B v3 ps
 on : OwnL icells 1 3 W B vn ns
 d12 : ∀ k, v1.ownBlock = some k → v2.ownBlock ≠ some k
 d13 : ∀ k, v1.ownBlock = some k → v3.ownBlock ≠ some k
 d1n : ∀ k, v1.ownBlock = some k → vn.ownBlock ≠ some k
 d23 : ∀ k, v2.ownBlock = some k → v3.ownBlock ≠ some k
 d2n : ∀ k, v2.ownBlock = some k → vn.ownBlock ≠ some k
 d3n : ∀ k, v3.ownBlock = some k → vn.ownBlock ≠ some k
section
variable {w0 : World} {B b2 b4 b5 b6 b8 : Nat} {raw : Array Value} {lo hi geese left0 : Int} {W W2 : World} {v1 v2 v3 vn v' : Value} {ls ss ps : List Six} {ns : List Int}
theorem Mk.ext (h : Mk w0 B b2 b4 b5 b6 b8 raw lo hi geese left0 W v1 v2 v3 vn ls ss ps ns) (k : Below W.heap.size W W2) : Mk w0 B b2 b4 b5 b6 b8 raw lo hi geese left0 W2 v1 v2 v3 vn ls ss ps ns :=
 ⟨h.ord, h.g.trans (k.mono (Nat.le_of_lt h.r.lt)), h.r.ext k, h.q4.ext k, h.q5.ext k, h.p.ext k, h.c.ext k, h.o1.ext k, h.o2.ext k, h.o3.ext k, h.on.ext k, h.d12, h.d13, h.d1n, h.d23, h.d2n, h.d3n⟩
theorem own_lt {α : Type} {f : α → List Value} {size : Nat} {e : TypeId} {w : World} {base : Nat} {v : Value} {xs : List α} (h : OwnL f size e w base v xs) {k : Nat} (hk : v.ownBlock = some k) : base ≤ k ∧ k < w.heap.size := ⟨(own_cells h hk).1, (own_cells h hk).2.1⟩
theorem Mk.turn1 (h : Mk w0 B b2 b4 b5 b6 b8 raw lo hi geese left0 W v1 v2 v3 vn ls ss ps ns) {xs' : List Six} (hg : W.grownBy W2 v1.ownBlock) (ho : OwnL scells 6 103 W2 B v' xs') (hz : v'.ownBlock = v1.ownBlock ∨ v'.ownBlock = some W.heap.size) :
  Mk w0 B b2 b4 b5 b6 b8 raw lo hi geese left0 (W2.setCell ⟨b6, 2, none⟩ v') v' v2 v3 vn xs' ss ps ns := by
 have hord := h.ord
 have nlt : ∀ k, k < B → v1.ownBlock ≠ some k := fun k hk e => by have := (own_lt h.o1 e).1; omega
 have hnew : ∀ k, v'.ownBlock = some k → v1.ownBlock = some k ∨ k = W.heap.size := fun k e => by
  rcases hz with hz | hz
  ·exact .inl (hz ▸ e)
  ·rw [hz] at e; cases e; exact .inr rfl
 have l2 : ∀ k, v2.ownBlock = some k → B ≤ k ∧ k < W.heap.size := fun k e => own_lt h.o2 e
 have O2 : OwnL scells 6 105 (W2.setCell ⟨b6, 2, none⟩ v') B v2 ss := (h.o2.grown hg (fun k e e2 => (fun k e e2 => h.d12 k e2 e) k e e2)).far (p := ⟨b6, 2, none⟩) (by show b6 < B; omega) _
 have N2 : ∀ k, v'.ownBlock = some k → v2.ownBlock ≠ some k := fun k e e2 => by
  rcases hnew k e with e3 | e3
  ·exact h.d12 k e3 e2
  ·have := (l2 k e2).2; omega
 have l3 : ∀ k, v3.ownBlock = some k → B ≤ k ∧ k < W.heap.size := fun k e => own_lt h.o3 e
 have O3 : OwnL scells 6 107 (W2.setCell ⟨b6, 2, none⟩ v') B v3 ps := (h.o3.grown hg (fun k e e2 => (fun k e e2 => h.d13 k e2 e) k e e2)).far (p := ⟨b6, 2, none⟩) (by show b6 < B; omega) _
 have N3 : ∀ k, v'.ownBlock = some k → v3.ownBlock ≠ some k := fun k e e2 => by
  rcases hnew k e with e3 | e3
  ·exact h.d13 k e3 e2
  ·have := (l3 k e2).2; omega
 have ln : ∀ k, vn.ownBlock = some k → B ≤ k ∧ k < W.heap.size := fun k e => own_lt h.on e
 have On : OwnL icells 1 3 (W2.setCell ⟨b6, 2, none⟩ v') B vn ns := (h.on.grown hg (fun k e e2 => (fun k e e2 => h.d1n k e2 e) k e e2)).far (p := ⟨b6, 2, none⟩) (by show b6 < B; omega) _
 have Nn : ∀ k, v'.ownBlock = some k → vn.ownBlock ≠ some k := fun k e e2 => by
  rcases hnew k e with e3 | e3
  ·exact h.d1n k e3 e2
  ·have := (ln k e2).2; omega
 exact ⟨h.ord, (h.g.grown hg (by have := h.r.lt; omega) (fun k e => by have := own_lt h.o1 e; omega)).setCell (p := ⟨b6, 2, none⟩) (by show b2 ≤ b6; omega) _, ((h.r.grown hg (nlt b2 (by omega))).far (p := ⟨b6, 2, none⟩) (by show b2 ≠ b6; omega) _), ((h.q4.grown hg (nlt b4 (by omega))).far (p := ⟨b6, 2, none⟩) (by show b4 ≠ b6; omega) _), ((h.q5.grown hg (nlt b5 (by omega))).far (p := ⟨b6, 2, none⟩) (by show b5 ≠ b6; omega) _), ((h.p.grown hg (nlt b6 (by omega))).set_ 2 v'), ((h.c.grown hg (nlt b8 (by omega))).far (p := ⟨b6, 2, none⟩) (by show b8 ≠ b6; omega) _), (ho.far (p := ⟨b6, 2, none⟩) (by show b6 < B; omega) _), O2, O3, On, N2, N3, Nn, h.d23, h.d2n, h.d3n⟩
theorem Mk.turn2 (h : Mk w0 B b2 b4 b5 b6 b8 raw lo hi geese left0 W v1 v2 v3 vn ls ss ps ns) {xs' : List Six} (hg : W.grownBy W2 v2.ownBlock) (ho : OwnL scells 6 105 W2 B v' xs') (hz : v'.ownBlock = v2.ownBlock ∨ v'.ownBlock = some W.heap.size) :
  Mk w0 B b2 b4 b5 b6 b8 raw lo hi geese left0 (W2.setCell ⟨b6, 3, none⟩ v') v1 v' v3 vn ls xs' ps ns := by
 have hord := h.ord
 have nlt : ∀ k, k < B → v2.ownBlock ≠ some k := fun k hk e => by have := (own_lt h.o2 e).1; omega
 have hnew : ∀ k, v'.ownBlock = some k → v2.ownBlock = some k ∨ k = W.heap.size := fun k e => by
  rcases hz with hz | hz
  ·exact .inl (hz ▸ e)
  ·rw [hz] at e; cases e; exact .inr rfl
 have l1 : ∀ k, v1.ownBlock = some k → B ≤ k ∧ k < W.heap.size := fun k e => own_lt h.o1 e
 have O1 : OwnL scells 6 103 (W2.setCell ⟨b6, 3, none⟩ v') B v1 ls := (h.o1.grown hg (fun k e e2 => h.d12 k e e2)).far (p := ⟨b6, 3, none⟩) (by show b6 < B; omega) _
 have N1 : ∀ k, v'.ownBlock = some k → v1.ownBlock ≠ some k := fun k e e2 => by
  rcases hnew k e with e3 | e3
  ·exact (fun k e e2 => h.d12 k e2 e) k e3 e2
  ·have := (l1 k e2).2; omega
 have l3 : ∀ k, v3.ownBlock = some k → B ≤ k ∧ k < W.heap.size := fun k e => own_lt h.o3 e
 have O3 : OwnL scells 6 107 (W2.setCell ⟨b6, 3, none⟩ v') B v3 ps := (h.o3.grown hg (fun k e e2 => (fun k e e2 => h.d23 k e2 e) k e e2)).far (p := ⟨b6, 3, none⟩) (by show b6 < B; omega) _
 have N3 : ∀ k, v'.ownBlock = some k → v3.ownBlock ≠ some k := fun k e e2 => by
  rcases hnew k e with e3 | e3
  ·exact h.d23 k e3 e2
  ·have := (l3 k e2).2; omega
 have ln : ∀ k, vn.ownBlock = some k → B ≤ k ∧ k < W.heap.size := fun k e => own_lt h.on e
 have On : OwnL icells 1 3 (W2.setCell ⟨b6, 3, none⟩ v') B vn ns := (h.on.grown hg (fun k e e2 => (fun k e e2 => h.d2n k e2 e) k e e2)).far (p := ⟨b6, 3, none⟩) (by show b6 < B; omega) _
 have Nn : ∀ k, v'.ownBlock = some k → vn.ownBlock ≠ some k := fun k e e2 => by
  rcases hnew k e with e3 | e3
  ·exact h.d2n k e3 e2
  ·have := (ln k e2).2; omega
 exact ⟨h.ord, (h.g.grown hg (by have := h.r.lt; omega) (fun k e => by have := own_lt h.o2 e; omega)).setCell (p := ⟨b6, 3, none⟩) (by show b2 ≤ b6; omega) _, ((h.r.grown hg (nlt b2 (by omega))).far (p := ⟨b6, 3, none⟩) (by show b2 ≠ b6; omega) _), ((h.q4.grown hg (nlt b4 (by omega))).far (p := ⟨b6, 3, none⟩) (by show b4 ≠ b6; omega) _), ((h.q5.grown hg (nlt b5 (by omega))).far (p := ⟨b6, 3, none⟩) (by show b5 ≠ b6; omega) _), ((h.p.grown hg (nlt b6 (by omega))).set_ 3 v'), ((h.c.grown hg (nlt b8 (by omega))).far (p := ⟨b6, 3, none⟩) (by show b8 ≠ b6; omega) _), O1, (ho.far (p := ⟨b6, 3, none⟩) (by show b6 < B; omega) _), O3, On, (fun k e e2 => N1 k e2 e), h.d13, h.d1n, N3, Nn, h.d3n⟩
theorem Mk.turn3 (h : Mk w0 B b2 b4 b5 b6 b8 raw lo hi geese left0 W v1 v2 v3 vn ls ss ps ns) {xs' : List Six} (hg : W.grownBy W2 v3.ownBlock) (ho : OwnL scells 6 107 W2 B v' xs') (hz : v'.ownBlock = v3.ownBlock ∨ v'.ownBlock = some W.heap.size) :
  Mk w0 B b2 b4 b5 b6 b8 raw lo hi geese left0 (W2.setCell ⟨b6, 4, none⟩ v') v1 v2 v' vn ls ss xs' ns := by
 have hord := h.ord
 have nlt : ∀ k, k < B → v3.ownBlock ≠ some k := fun k hk e => by have := (own_lt h.o3 e).1; omega
 have hnew : ∀ k, v'.ownBlock = some k → v3.ownBlock = some k ∨ k = W.heap.size := fun k e => by
  rcases hz with hz | hz
  ·exact .inl (hz ▸ e)
  ·rw [hz] at e; cases e; exact .inr rfl
 have l1 : ∀ k, v1.ownBlock = some k → B ≤ k ∧ k < W.heap.size := fun k e => own_lt h.o1 e
 have O1 : OwnL scells 6 103 (W2.setCell ⟨b6, 4, none⟩ v') B v1 ls := (h.o1.grown hg (fun k e e2 => h.d13 k e e2)).far (p := ⟨b6, 4, none⟩) (by show b6 < B; omega) _
 have N1 : ∀ k, v'.ownBlock = some k → v1.ownBlock ≠ some k := fun k e e2 => by
  rcases hnew k e with e3 | e3
  ·exact (fun k e e2 => h.d13 k e2 e) k e3 e2
  ·have := (l1 k e2).2; omega
 have l2 : ∀ k, v2.ownBlock = some k → B ≤ k ∧ k < W.heap.size := fun k e => own_lt h.o2 e
 have O2 : OwnL scells 6 105 (W2.setCell ⟨b6, 4, none⟩ v') B v2 ss := (h.o2.grown hg (fun k e e2 => h.d23 k e e2)).far (p := ⟨b6, 4, none⟩) (by show b6 < B; omega) _
 have N2 : ∀ k, v'.ownBlock = some k → v2.ownBlock ≠ some k := fun k e e2 => by
  rcases hnew k e with e3 | e3
  ·exact (fun k e e2 => h.d23 k e2 e) k e3 e2
  ·have := (l2 k e2).2; omega
 have ln : ∀ k, vn.ownBlock = some k → B ≤ k ∧ k < W.heap.size := fun k e => own_lt h.on e
 have On : OwnL icells 1 3 (W2.setCell ⟨b6, 4, none⟩ v') B vn ns := (h.on.grown hg (fun k e e2 => (fun k e e2 => h.d3n k e2 e) k e e2)).far (p := ⟨b6, 4, none⟩) (by show b6 < B; omega) _
 have Nn : ∀ k, v'.ownBlock = some k → vn.ownBlock ≠ some k := fun k e e2 => by
  rcases hnew k e with e3 | e3
  ·exact h.d3n k e3 e2
  ·have := (ln k e2).2; omega
 exact ⟨h.ord, (h.g.grown hg (by have := h.r.lt; omega) (fun k e => by have := own_lt h.o3 e; omega)).setCell (p := ⟨b6, 4, none⟩) (by show b2 ≤ b6; omega) _, ((h.r.grown hg (nlt b2 (by omega))).far (p := ⟨b6, 4, none⟩) (by show b2 ≠ b6; omega) _), ((h.q4.grown hg (nlt b4 (by omega))).far (p := ⟨b6, 4, none⟩) (by show b4 ≠ b6; omega) _), ((h.q5.grown hg (nlt b5 (by omega))).far (p := ⟨b6, 4, none⟩) (by show b5 ≠ b6; omega) _), ((h.p.grown hg (nlt b6 (by omega))).set_ 4 v'), ((h.c.grown hg (nlt b8 (by omega))).far (p := ⟨b6, 4, none⟩) (by show b8 ≠ b6; omega) _), O1, O2, (ho.far (p := ⟨b6, 4, none⟩) (by show b6 < B; omega) _), On, h.d12, (fun k e e2 => N1 k e2 e), h.d1n, (fun k e e2 => N2 k e2 e), h.d2n, Nn⟩
theorem Mk.turnn (h : Mk w0 B b2 b4 b5 b6 b8 raw lo hi geese left0 W v1 v2 v3 vn ls ss ps ns) {xs' : List Int} (hg : W.grownBy W2 vn.ownBlock) (ho : OwnL icells 1 3 W2 B v' xs') (hz : v'.ownBlock = vn.ownBlock ∨ v'.ownBlock = some W.heap.size) :
  Mk w0 B b2 b4 b5 b6 b8 raw lo hi geese left0 (W2.setCell ⟨b8, 1, none⟩ v') v1 v2 v3 v' ls ss ps xs' := by
 have hord := h.ord
 have nlt : ∀ k, k < B → vn.ownBlock ≠ some k := fun k hk e => by have := (own_lt h.on e).1; omega
 have hnew : ∀ k, v'.ownBlock = some k → vn.ownBlock = some k ∨ k = W.heap.size := fun k e => by
  rcases hz with hz | hz
  ·exact .inl (hz ▸ e)
  ·rw [hz] at e; cases e; exact .inr rfl
 have l1 : ∀ k, v1.ownBlock = some k → B ≤ k ∧ k < W.heap.size := fun k e => own_lt h.o1 e
 have O1 : OwnL scells 6 103 (W2.setCell ⟨b8, 1, none⟩ v') B v1 ls := (h.o1.grown hg (fun k e e2 => h.d1n k e e2)).far (p := ⟨b8, 1, none⟩) (by show b8 < B; omega) _
 have N1 : ∀ k, v'.ownBlock = some k → v1.ownBlock ≠ some k := fun k e e2 => by
  rcases hnew k e with e3 | e3
  ·exact (fun k e e2 => h.d1n k e2 e) k e3 e2
  ·have := (l1 k e2).2; omega
 have l2 : ∀ k, v2.ownBlock = some k → B ≤ k ∧ k < W.heap.size := fun k e => own_lt h.o2 e
 have O2 : OwnL scells 6 105 (W2.setCell ⟨b8, 1, none⟩ v') B v2 ss := (h.o2.grown hg (fun k e e2 => h.d2n k e e2)).far (p := ⟨b8, 1, none⟩) (by show b8 < B; omega) _
 have N2 : ∀ k, v'.ownBlock = some k → v2.ownBlock ≠ some k := fun k e e2 => by
  rcases hnew k e with e3 | e3
  ·exact (fun k e e2 => h.d2n k e2 e) k e3 e2
  ·have := (l2 k e2).2; omega
 have l3 : ∀ k, v3.ownBlock = some k → B ≤ k ∧ k < W.heap.size := fun k e => own_lt h.o3 e
 have O3 : OwnL scells 6 107 (W2.setCell ⟨b8, 1, none⟩ v') B v3 ps := (h.o3.grown hg (fun k e e2 => h.d3n k e e2)).far (p := ⟨b8, 1, none⟩) (by show b8 < B; omega) _
 have N3 : ∀ k, v'.ownBlock = some k → v3.ownBlock ≠ some k := fun k e e2 => by
  rcases hnew k e with e3 | e3
  ·exact (fun k e e2 => h.d3n k e2 e) k e3 e2
  ·have := (l3 k e2).2; omega
 exact ⟨h.ord, (h.g.grown hg (by have := h.r.lt; omega) (fun k e => by have := own_lt h.on e; omega)).setCell (p := ⟨b8, 1, none⟩) (by show b2 ≤ b8; omega) _, ((h.r.grown hg (nlt b2 (by omega))).far (p := ⟨b8, 1, none⟩) (by show b2 ≠ b8; omega) _), ((h.q4.grown hg (nlt b4 (by omega))).far (p := ⟨b8, 1, none⟩) (by show b4 ≠ b8; omega) _), ((h.q5.grown hg (nlt b5 (by omega))).far (p := ⟨b8, 1, none⟩) (by show b5 ≠ b8; omega) _), ((h.p.grown hg (nlt b6 (by omega))).far (p := ⟨b8, 1, none⟩) (by show b6 ≠ b8; omega) _), ((h.c.grown hg (nlt b8 (by omega))).set_ 1 v'), O1, O2, O3, (ho.far (p := ⟨b8, 1, none⟩) (by show b8 < B; omega) _), h.d12, h.d13, (fun k e e2 => N1 k e2 e), h.d23, (fun k e e2 => N2 k e2 e), (fun k e e2 => N3 k e2 e)⟩
end
end Go.Proofs.YtkoejeghihcmlaaGreat

namespace Go.Proofs.YtkoejeghihcmlaaGreat
open Go.RowKit Go.Shelf
theorem first_of {p : Pl} {hours : List Int} {known : Int} (hok : okPl p = true) (hh : ∀ h ∈ hours, 0 ≤ h ∧ h ≤ 99999) (k0 : 0 ≤ known) (k1 : known ≤ 4166) : firstE p hours [known] = 0 := by
 have e1 : hours.any noHour = false := by
  rw [← Bool.not_eq_true, List.any_eq_true]
  rintro ⟨x, hx, hn⟩
  have := hh x hx
  unfold noHour at hn
  rw [rng_of this.1 this.2] at hn
  cases hn
 have e2 : [known].any noDay = false := by
  show (noDay known || false) = false
  unfold noDay
  rw [rng_of k0 k1]; rfl
 unfold firstE
 rw [if_pos hok, e1, e2]
 rfl
theorem ask_of {p : Pl} {hours : List Int} {known : Int} (hok : okPl p = true) (hs : sound (lookS p known every) = true) (hh : ∀ h ∈ hours, 0 ≤ h ∧ h ≤ 99999) (k0 : 0 ≤ known) (k1 : known ≤ 4166) : askE p hours known = 0 := by
 unfold askE
 rw [if_pos (first_of hok hh k0 k1), hs]
 rfl
theorem made_ask (r : Raw) {hour : Int} (h0 : 0 ≤ hour) (h1 : hour ≤ 99999) : askE (madeP r true) [hour] 20 = 0 :=
 ask_of (made_ok r true) (made_sound r) (fun h hh => by rw [List.mem_singleton.1 hh]; exact ⟨h0, h1⟩) (by decide) (by decide)
theorem stoodR_of {p : Pl} {hour known : Int} (h : askE p [hour] known = 0) : stoodR p hour known = (lookS p known every).getD (after (lookL p known every) hour) zR := by unfold stoodR; rw [if_pos h]
theorem firstR_of {p : Pl} {known : Int} (h : askE p [0] known = 0) : firstR p known = ⟨minI (fromsP p known), maxI (fromsP p known)⟩ := by unfold firstR; rw [if_pos h]
theorem stoodR_bd {p : Pl} {hour known : Int} (h : askE p [hour] known = 0) : 0 ≤ (stoodR p hour known).lo ∧ (stoodR p hour known).lo ≤ (stoodR p hour known).hi ∧ (stoodR p hour known).hi ≤ 10000 := by
 have hp := ask_parts h
 have hr := look_rw hp.1 hp.2.1
 have ha := after_len (lookL p known every) hour
 rw [stoodR_of h]
 exact ⟨hr.pos _ ha, hr.snd _ ha, look_hi hp.1 known every ha⟩
end Go.Proofs.YtkoejeghihcmlaaGreat
