/- Part of the proof: ME. -/
import Derived.Test.YtkoejeghihcmlaaGreatQA1
import Derived.Test.YtkoejeghihcmlaaGreatQA4
namespace Go.Proofs.YtkoejeghihcmlaaGreat
open Go.RowKit Go.Shelf
/-- Whether something may have stood after some loads, when nothing stood after more of them. -/
def sbS (ls : List Six) (st : List Rg) (before many : Nat) : Bool := decide (0 < Hi (settle ls (nar st many zR)) before)
def frOk (ls : List Six) (st : List Rg) (before : Option Nat) (many : Nat) : Bool :=
 decide (Lo st many = 0) && (match before with | none => true | some b => sbS ls st b many)
def fromsG (ls : List Six) (st : List Rg) : Option Nat → List (Nat × Int) → List Int
 | _, [] => []
 | before, x :: l => (if frOk ls st before x.1 = true then [x.2] else []) ++ fromsG ls st (some x.1) l
/-- The hours from which a field may be clear, rising. -/
def fromsL (ls : List Six) (st : List Rg) : List Int := fromsG ls st none (endsL ls) ++ (if 0 < Hi st ls.length then [100000] else [])
/-- The last count. -/
def lastM (l : List (Nat × Int)) : Option Nat := l.getLast?.map (·.1)
theorem lastM_snoc (l : List (Nat × Int)) (x : Nat × Int) : lastM (l ++ [x]) = some x.1 := by unfold lastM; rw [List.getLast?_concat]; rfl
theorem fromsG_append (ls : List Six) (st : List Rg) : ∀ (l l2 : List (Nat × Int)) (b : Option Nat), fromsG ls st b (l ++ l2) = fromsG ls st b l ++ fromsG ls st ((lastM l).or b) l2
 | [], l2, b => by cases b <;> rfl
 | x :: l, l2, b => by
  have e : (lastM (x :: l)).or b = (lastM l).or (some x.1) := by
   cases l with
   | nil => rfl
   | cons y l =>
    unfold lastM
    rw [List.getLast?_cons_cons]
    cases h : (y :: l).getLast? with
    | none => rw [List.getLast?_eq_none_iff] at h; cases h
    | some z => rfl
  rw [List.cons_append]
  show (if frOk ls st b x.1 = true then [x.2] else []) ++ fromsG ls st (some x.1) (l ++ l2) = _
  rw [fromsG_append ls st l l2 (some x.1), e, ← List.append_assoc]
  rfl
theorem fromsG_snoc (ls : List Six) (st : List Rg) (l : List (Nat × Int)) (x : Nat × Int) : fromsG ls st none (l ++ [x]) = fromsG ls st none l ++ (if frOk ls st (lastM l) x.1 = true then [x.2] else []) := by
 rw [fromsG_append]
 show _ ++ ((if frOk ls st ((lastM l).or none) x.1 = true then [x.2] else []) ++ []) = _
 rw [List.append_nil, Option.or_none]
theorem mem_fromsG {ls : List Six} {st : List Rg} {f : Int} : ∀ {l : List (Nat × Int)} {b : Option Nat}, f ∈ fromsG ls st b l ↔ ∃ l1 x l2, l = l1 ++ x :: l2 ∧ frOk ls st ((lastM l1).or b) x.1 = true ∧ x.2 = f
 | [], b => by
  constructor
  ·intro h; cases h
  ·rintro ⟨l1, x, l2, h, -⟩
   cases l1 <;> cases h
 | y :: l, b => by
  show f ∈ (if frOk ls st b y.1 = true then [y.2] else []) ++ fromsG ls st (some y.1) l ↔ _
  rw [List.mem_append, mem_fromsG (l := l)]
  have e : ∀ l1 : List (Nat × Int), (lastM (y :: l1)).or b = (lastM l1).or (some y.1) := fun l1 => by
   cases l1 with
   | nil => rfl
   | cons z l1 =>
    unfold lastM
    rw [List.getLast?_cons_cons]
    cases h : (z :: l1).getLast? with
    | none => rw [List.getLast?_eq_none_iff] at h; cases h
    | some z => rfl
  constructor
  ·rintro (h | ⟨l1, x, l2, rfl, h2, h3⟩)
   ·by_cases hf : frOk ls st b y.1 = true
    ·rw [if_pos hf] at h
     exact ⟨[], y, l, rfl, by rw [show lastM ([] : List (Nat × Int)) = none from rfl, Option.none_or]; exact hf, (List.mem_singleton.1 h).symm⟩
    ·rw [if_neg hf] at h; cases h
   ·exact ⟨y :: l1, x, l2, rfl, by rw [e]; exact h2, h3⟩
  ·rintro ⟨l1, x, l2, h1, h2, h3⟩
   cases l1 with
   | nil =>
    rw [List.nil_append] at h1
    cases h1
    rw [show lastM ([] : List (Nat × Int)) = none from rfl, Option.none_or] at h2
    exact .inl (by rw [if_pos h2, h3]; exact List.mem_singleton.2 rfl)
   | cons z l1 =>
    rw [List.cons_append] at h1
    injection h1 with h4 h5
    subst h4
    rw [e] at h2
    exact .inr ⟨l1, x, l2, h5, h2, h3⟩
/-- What stood never grows. -/
theorem tru_anti {ls : List Six} {st : List Rg} {s : List Int} (hw : ∀ i, i < ls.length → 0 ≤ Ls ls i) (h : Tru ls st s) : ∀ {i j : Nat}, i ≤ j → j ≤ ls.length → s.getD j 0 ≤ s.getD i 0
 | i, 0, h1, _ => by
  have : i = 0 := by omega
  subst this; exact Int.le_refl _
 | i, j + 1, h1, h2 => by
  rcases Nat.lt_or_ge j i with h3 | h3
  ·have : i = j + 1 := by omega
   subst this; exact Int.le_refl _
  ·have h4 := tru_anti hw h h3 (by omega)
   have h5 := h.2.1 j (by omega)
   have h6 := hw j (by omega)
   omega
/-- A row by which there are true numbers, its ranges passed on. -/
structure Rw (ls : List Six) (st : List Rg) : Prop where
 len : st.length = ls.length + 1
 wid : ∀ i, i < ls.length → 0 ≤ Ls ls i ∧ Ls ls i ≤ Gr ls i
 arc : ∀ i, i < ls.length → Arc ls st i
 snd : ∀ i, i ≤ ls.length → Lo st i ≤ Hi st i
 pos : ∀ i, i ≤ ls.length → 0 ≤ Lo st i
 hrs : ∀ x ∈ ls, 0 ≤ x.b ∧ x.b ≤ 99999
 up : Up ls
theorem Rw.attain {ls : List Six} {st : List Rg} (h : Rw ls st) {i : Nat} {v : Int} (hi : i ≤ ls.length) (h1 : Lo st i ≤ v) (h2 : v ≤ Hi st i) : ∃ s, Tru ls st s ∧ s.getD i 0 = v :=
 ⟨_, pick_tru h.arc (fun i hi => (h.wid i hi).2) h.snd hi h1 h2⟩
theorem Rw.some {ls : List Six} {st : List Rg} (h : Rw ls st) : ∃ s, Tru ls st s := by
 obtain ⟨s, hs, -⟩ := h.attain (i := 0) (Nat.zero_le _) (Int.le_refl _) (h.snd 0 (Nat.zero_le _))
 exact ⟨s, hs⟩
theorem Rw.low {ls : List Six} {st : List Rg} {s : List Int} (h : Rw ls st) (ht : Tru ls st s) {i : Nat} (hi : i ≤ ls.length) : 0 ≤ s.getD i 0 := Int.le_trans (h.pos i hi) (ht.2.2 i hi).1
/-- The hour from which a field is clear by true numbers. -/
def clrFrom (ls : List Six) (s : List Int) : Int := match (endsL ls).find? (fun x => decide (s.getD x.1 0 = 0)) with | some x => x.2 | none => 100000
theorem mem_ends {ls : List Six} {x : Nat × Int} : x ∈ endsL ls ↔ x = (0, 0) ∨ ∃ i, i < ls.length ∧ lastB ls i = true ∧ x = (i + 1, (ls.getD i z6).b) := by
 unfold endsL endsOf
 rw [List.mem_cons, List.mem_map]
 constructor
 ·rintro (h | ⟨i, h1, rfl⟩)
  ·exact .inl h
  ·rw [List.mem_filter, List.mem_range] at h1
   exact .inr ⟨i, h1.1, h1.2, rfl⟩
 ·rintro (h | ⟨i, h1, h2, rfl⟩)
  ·exact .inl h
  ·exact .inr ⟨i, List.mem_filter.2 ⟨List.mem_range.2 h1, h2⟩, rfl⟩
theorem up_get {ls : List Six} (h : Up ls) {i j : Nat} (hij : i ≤ j) (hj : j < ls.length) : (ls.getD i z6).b ≤ (ls.getD j z6).b := by
 rcases Nat.lt_or_ge i j with h1 | h1
 ·have := List.pairwise_iff_getElem.1 h i j (by omega) hj h1
  rw [List.getD_eq_getElem?_getD, List.getD_eq_getElem?_getD, List.getElem?_eq_getElem (by omega), List.getElem?_eq_getElem hj]
  exact this
 ·have : i = j := by omega
  subst this; exact Int.le_refl _
theorem getD_mem' {ls : List Six} {i : Nat} (hi : i < ls.length) : ls.getD i z6 ∈ ls := by
 rw [List.getD_eq_getElem?_getD, List.getElem?_eq_getElem hi]; exact List.getElem_mem hi
theorem ends_sorted {ls : List Six} (h : Up ls) (h0 : ∀ x ∈ ls, 0 ≤ x.b) : (endsL ls).Pairwise fun x y => x.1 < y.1 ∧ x.2 ≤ y.2 := by
 unfold endsL endsOf
 refine List.pairwise_cons.2 ⟨fun y hy => ?_, ?_⟩
 ·obtain ⟨i, hi, rfl⟩ := List.mem_map.1 hy
  have := List.mem_range.1 (List.mem_filter.1 hi).1
  exact ⟨Nat.succ_pos _, h0 _ (getD_mem' this)⟩
 ·rw [List.pairwise_map]
  refine List.Pairwise.filter _ ?_
  rw [List.pairwise_iff_getElem]
  intro i j hi hj hij
  rw [List.length_range] at hi hj
  rw [List.getElem_range, List.getElem_range]
  exact ⟨by omega, up_get h (by omega) hj⟩
theorem ends_le {ls : List Six} {x : Nat × Int} (h : x ∈ endsL ls) : x.1 ≤ ls.length := by
 rcases mem_ends.1 h with rfl | ⟨i, hi, -, rfl⟩
 ·exact Nat.zero_le _
 ·exact hi
theorem ends_hour {ls : List Six} (h0 : ∀ x ∈ ls, 0 ≤ x.b ∧ x.b ≤ 99999) {x : Nat × Int} (h : x ∈ endsL ls) : 0 ≤ x.2 ∧ x.2 ≤ 99999 := by
 rcases mem_ends.1 h with rfl | ⟨i, hi, -, rfl⟩
 ·exact ⟨Int.le_refl _, by decide⟩
 ·exact h0 _ (getD_mem' hi)
theorem ends_last (ls : List Six) : ∃ x ∈ endsL ls, x.1 = ls.length := by
 rcases Nat.eq_zero_or_pos ls.length with h | h
 ·exact ⟨(0, 0), mem_ends.2 (.inl rfl), h.symm⟩
 ·refine ⟨(ls.length - 1 + 1, (ls.getD (ls.length - 1) z6).b), mem_ends.2 (.inr ⟨_, by omega, ?_, rfl⟩), by show ls.length - 1 + 1 = _; omega⟩
  unfold lastB
  rw [decide_eq_true (by omega : ls.length - 1 + 1 = ls.length)]; rfl
theorem after_len (ls : List Six) (h : Int) : after ls h ≤ ls.length := List.countP_le_length
theorem clr_some {ls : List Six} {s : List Int} {x : Nat × Int} {l1 l2 : List (Nat × Int)} (h : endsL ls = l1 ++ x :: l2) (hx : s.getD x.1 0 = 0) (h1 : ∀ y ∈ l1, s.getD y.1 0 ≠ 0) : clrFrom ls s = x.2 := by
 unfold clrFrom
 have : (endsL ls).find? (fun x => decide (s.getD x.1 0 = 0)) = Option.some x := by
  rw [List.find?_eq_some_iff_append]
  exact ⟨decide_eq_true hx, l1, l2, h, fun y hy => by rw [decide_eq_false (h1 y hy)]; rfl⟩
 rw [this]
theorem clr_cases (ls : List Six) (s : List Int) : (∃ l1 x l2, endsL ls = l1 ++ x :: l2 ∧ s.getD x.1 0 = 0 ∧ (∀ y ∈ l1, s.getD y.1 0 ≠ 0) ∧ clrFrom ls s = x.2) ∨ ((∀ y ∈ endsL ls, s.getD y.1 0 ≠ 0) ∧ clrFrom ls s = 100000) := by
 cases h : (endsL ls).find? (fun x => decide (s.getD x.1 0 = 0)) with
 | none =>
  refine .inr ⟨fun y hy => ?_, by unfold clrFrom; rw [h]⟩
  rw [List.find?_eq_none] at h
  exact fun e => h y hy (decide_eq_true e)
 | some x =>
  have hc : clrFrom ls s = x.2 := by unfold clrFrom; rw [h]
  rw [List.find?_eq_some_iff_append] at h
  obtain ⟨h1, l1, l2, h2, h3⟩ := h
  refine .inl ⟨l1, x, l2, h2, of_decide_eq_true h1, fun y hy e => ?_, hc⟩
  have := h3 y hy
  rw [decide_eq_true e] at this; cases this
theorem Rw.mem_froms {ls : List Six} {st : List Rg} (h : Rw ls st) {f : Int} : f ∈ fromsL ls st ↔ ∃ s, Tru ls st s ∧ clrFrom ls s = f := by
 have hw0 : ∀ i, i < ls.length → 0 ≤ Ls ls i := fun i hi => (h.wid i hi).1
 have hw1 : ∀ i, i < ls.length → Ls ls i ≤ Gr ls i := fun i hi => (h.wid i hi).2
 have hsort := ends_sorted h.up (fun x hx => (h.hrs x hx).1)
 unfold fromsL
 rw [List.mem_append, mem_fromsG]
 constructor
 ·rintro (⟨l1, x, l2, e, hok, rfl⟩ | hf)
  ·rw [Option.or_none] at hok
   unfold frOk at hok
   rw [Bool.and_eq_true, decide_eq_true_eq] at hok
   obtain ⟨hz, hb⟩ := hok
   have hxm : x ∈ endsL ls := by rw [e]; simp
   have hxl := ends_le hxm
   rcases List.eq_nil_or_concat l1 with rfl | ⟨l0, y, rfl⟩
   ·obtain ⟨s, hs, hv⟩ := h.attain hxl (Int.le_refl _) (h.snd _ hxl)
    exact ⟨s, hs, clr_some e (by rw [hv, hz]) (fun y hy => (by cases hy))⟩
   ·rw [List.concat_eq_append, lastM_snoc] at hb
    have hb : sbS ls st y.1 x.1 = true := hb
    unfold sbS at hb
    have hb := of_decide_eq_true hb
    have hym : y ∈ endsL ls := by rw [e]; simp
    have hyl := ends_le hym
    have hlt : x.1 < st.length := by rw [h.len]; omega
    obtain ⟨s0, hs0, hv0⟩ := h.attain hxl (Int.le_refl _) (h.snd _ hxl)
    have hn : Tru ls (nar st x.1 zR) s0 := tru_nar h.len hxl hs0 (by rw [hv0, hz]; exact ⟨Int.le_refl _, Int.le_refl _⟩)
    have hlen : (nar st x.1 zR).length = ls.length + 1 := by rw [nar_len, h.len]
    have hsnd := sound_iff.1 ((sound_tru hlen hw1).2 ⟨s0, hn⟩)
    have hsnd' : ∀ i, i ≤ ls.length → Lo (settle ls (nar st x.1 zR)) i ≤ Hi (settle ls (nar st x.1 zR)) i := fun i hi => hsnd i (by rw [settle_len, hlen]; omega)
    obtain ⟨hp1, hp2⟩ := pick_tru (settle_arc hlen hw1) hw1 hsnd' hyl (hsnd' _ hyl) (Int.le_refl _)
    obtain ⟨hp3, hp4⟩ := tru_nar_back h.len hxl (settle_tru hlen hp1)
    refine ⟨_, hp3, clr_some e ?_ ?_⟩
    ·have := hp4.1
     have := hp4.2
     have e1 : zR.lo = 0 := rfl
     have e2 : zR.hi = 0 := rfl
     omega
    ·intro z hz hzero
     have hzy : z.1 ≤ y.1 := by
      rw [e, List.concat_eq_append, List.append_assoc] at hsort
      rw [List.concat_eq_append] at hz
      rcases List.mem_append.1 hz with hz | hz
      ·exact Nat.le_of_lt ((List.pairwise_append.1 hsort).2.2 z hz y (by simp)).1
      ·rw [List.mem_singleton.1 hz]; exact Nat.le_refl _
     have := tru_anti hw0 hp3 hzy hyl
     omega
  ·by_cases hh : 0 < Hi st ls.length
   ·rw [if_pos hh] at hf
    obtain ⟨s, hs, hv⟩ := h.attain (Nat.le_refl _) (h.snd _ (Nat.le_refl _)) (Int.le_refl _)
    refine ⟨s, hs, ?_⟩
    rw [List.mem_singleton.1 hf]
    rcases clr_cases ls s with ⟨l1, x, l2, e, hz, -, -⟩ | ⟨-, hc⟩
    ·have hxm : x ∈ endsL ls := by rw [e]; simp
     have := tru_anti hw0 hs (ends_le hxm) (Nat.le_refl _)
     omega
    ·exact hc
   ·rw [if_neg hh] at hf; cases hf
 ·rintro ⟨s, hs, hc⟩
  rcases clr_cases ls s with ⟨l1, x, l2, e, hz, hl, hx⟩ | ⟨hn, hx⟩
  ·refine .inl ⟨l1, x, l2, e, ?_, hx.symm.trans hc⟩
   have hxm : x ∈ endsL ls := by rw [e]; simp
   have hxl := ends_le hxm
   rw [Option.or_none]
   unfold frOk
   rw [Bool.and_eq_true, decide_eq_true_eq]
   constructor
   ·have := h.pos _ hxl
    have := (hs.2.2 _ hxl).1
    omega
   ·rcases List.eq_nil_or_concat l1 with rfl | ⟨l0, y, rfl⟩
    ·rfl
    ·rw [List.concat_eq_append, lastM_snoc]
     show sbS ls st y.1 x.1 = true
     have hym : y ∈ endsL ls := by rw [e]; simp
     have hyl := ends_le hym
     have hn : Tru ls (nar st x.1 zR) s := tru_nar h.len hxl hs (by rw [hz]; exact ⟨Int.le_refl _, Int.le_refl _⟩)
     have hlen : (nar st x.1 zR).length = ls.length + 1 := by rw [nar_len, h.len]
     have h1 := ((tru_settle hlen hn).2.2 _ hyl).2
     have h2 := h.low hs hyl
     have h3 := hl y (by simp)
     exact decide_eq_true (by omega)
  ·refine .inr ?_
   obtain ⟨x, hxm, hxl⟩ := ends_last ls
   have h1 := hn x hxm
   rw [hxl] at h1
   have h2 := h.low hs (Nat.le_refl _)
   have h3 := (hs.2.2 _ (Nat.le_refl _)).2
   rw [if_pos (by omega), ← hc, hx]
   exact List.mem_singleton.2 rfl
theorem Rw.froms_ne {ls : List Six} {st : List Rg} (h : Rw ls st) : fromsL ls st ≠ [] := by
 obtain ⟨s, hs⟩ := h.some
 exact List.ne_nil_of_mem (h.mem_froms.2 ⟨s, hs, rfl⟩)
theorem mem_fromsL_bd {ls : List Six} {st : List Rg} (h0 : ∀ x ∈ ls, 0 ≤ x.b ∧ x.b ≤ 99999) {f : Int} (h : f ∈ fromsL ls st) : 0 ≤ f ∧ f ≤ 100000 := by
 unfold fromsL at h
 rw [List.mem_append, mem_fromsG] at h
 rcases h with ⟨l1, x, l2, e, -, rfl⟩ | h
 ·have := ends_hour h0 (x := x) (by rw [e]; simp)
  omega
 ·split at h
  ·rw [List.mem_singleton.1 h]; omega
  ·cases h
end Go.Proofs.YtkoejeghihcmlaaGreat
namespace Go.Proofs.YtkoejeghihcmlaaGreat
open Go.RowKit Go.Shelf
theorem info33' : (Tryz.prog.info? 33).map (fun i => (i.zero, i.size, i.bytes)) = some (some (.agg #[.int .i64 0, .int .i64 0]), 2, 16) := by kernel_rfl
theorem kdR : Kd rcells 2 33 150 16 (.agg #[.int .i64 0, .int .i64 0]) := ⟨by kernel_rfl, info33', by simp [Value.cells], by decide, rcells_len, fun _ u hu => by simp [rcells] at hu; rcases hu with rfl | rfl <;> rfl, by decide⟩
set_option maxRecDepth 100000 in
theorem eqNil150 (a : Option Addr) (n c : Nat) (w : World) : (binOp .eql 150 (.slice a n c) (.slice none 0 0)).run Tryz.prog w = .ok (.bool a.isNone) w := by
 cases a <;> rfl
set_option maxRecDepth 100000 in
theorem eqNil34 (a : Option Addr) (n c : Nat) (w : World) : (binOp .eql 34 (.slice a n c) (.slice none 0 0)).run Tryz.prog w = .ok (.bool a.isNone) w := by
 cases a <;> rfl
set_option maxRecDepth 100000 in
theorem eqNil35 (a : Option Addr) (n c : Nat) (w : World) : (binOp .eql 35 (.slice a n c) (.slice none 0 0)).run Tryz.prog w = .ok (.bool a.isNone) w := by
 cases a <;> rfl
set_option maxRecDepth 100000 in
theorem eqNil36 (a : Option Addr) (n c : Nat) (w : World) : (binOp .eql 36 (.slice a n c) (.slice none 0 0)).run Tryz.prog w = .ok (.bool a.isNone) w := by
 cases a <;> rfl
set_option maxRecDepth 100000 in
theorem eqNil39 (a : Option Addr) (n c : Nat) (w : World) : (binOp .eql 39 (.slice a n c) (.slice none 0 0)).run Tryz.prog w = .ok (.bool a.isNone) w := by
 cases a <;> rfl
set_option maxRecDepth 100000 in
set_option maxHeartbeats 1000000 in
theorem cloneR_any (A : Option Addr) (n c : Nat) (xs : List Rg) (w : World) (ha : Arr rcells 2 w A n xs) (hn : n ≤ 1000000) :
  Calls Tryz.prog 201 #[.slice A n c] w fun e w' => (∃ v, e = .returned v ∧ OwnL rcells 2 33 w' w.heap.size v xs) ∧ Below w.heap.size w w' := by
 cases A with
 | none =>
  have h0 : n = 0 := by
   rcases Nat.eq_zero_or_pos n with h | h
   ·exact h
   ·obtain ⟨b, o, e, _⟩ := ha.2 h; cases e
  subst h0
  have : xs = [] := List.eq_nil_of_length_eq_zero ha.1
  subst this
  have heq := fun w => eqNil150 none 0 c w
  clear ha
  go_enter Tryz.func201, Tryz.ntmps201
  go_wp2_with fail
  go_ret
  exact ⟨⟨_, rfl, OwnL.nil _ _⟩, Below.refl _ _⟩
 | some a =>
  have heq := fun w => eqNil150 (some a) n c w
  have HOW := Lib.hid (show OwnL rcells 2 33 (w.alloc (.cells #[] 33)) w.heap.size (.slice (some ⟨w.heap.size, 0, none⟩) 0 0) [] from World.ownsRow_made (e := 33) (size := 2) w #[] 0 (Nat.le_refl w.heap.size) (by decide) rfl)
  have HAA := Lib.hid (ha.below (one_more w (.cells #[] 33)))
  clear ha
  go_enter Tryz.func201, Tryz.ntmps201
  go_wp2_with (first | (at_builtin; go_loud (refine wpList_app kdR (by rfl) _ _ (by rfl) w.heap.size _ [] (by rfl) HOW.out (some a) n c xs (by rfl) HAA.out (by simpa using hn) (by simp) ?_); intro v' w' ho hbw hz; have HO := Lib.hid ho; have HB := Lib.hid (HOW.out.below hbw (Nat.le_refl _) (by simp)); clear ho hbw hz))
  go_ret
  exact ⟨⟨_, rfl, by have := HO.out; rwa [List.nil_append] at this⟩, (one_more w _).trans HB.out⟩
set_option maxRecDepth 100000 in
set_option maxHeartbeats 1000000 in
theorem cloneL_any (A : Option Addr) (n c : Nat) (xs : List Six) (w : World) (ha : Arr scells 6 w A n xs) (hn : n ≤ 1000000) :
  Calls Tryz.prog 195 #[.slice A n c] w fun e w' => (∃ v, e = .returned v ∧ OwnL scells 6 103 w' w.heap.size v xs) ∧ Below w.heap.size w w' := by
 cases A with
 | none =>
  have h0 : n = 0 := by
   rcases Nat.eq_zero_or_pos n with h | h
   ·exact h
   ·obtain ⟨b, o, e, _⟩ := ha.2 h; cases e
  subst h0
  have : xs = [] := List.eq_nil_of_length_eq_zero ha.1
  subst this
  have heq := fun w => eqNil34 none 0 c w
  clear ha
  go_enter Tryz.func195, Tryz.ntmps195
  go_wp2_with fail
  go_ret
  exact ⟨⟨_, rfl, OwnL.nil _ _⟩, Below.refl _ _⟩
 | some a =>
  have heq := fun w => eqNil34 (some a) n c w
  have HOW := Lib.hid (show OwnL scells 6 103 (w.alloc (.cells #[] 103)) w.heap.size (.slice (some ⟨w.heap.size, 0, none⟩) 0 0) [] from World.ownsRow_made (e := 103) (size := 6) w #[] 0 (Nat.le_refl w.heap.size) (by decide) rfl)
  have HAA := Lib.hid (ha.below (one_more w (.cells #[] 103)))
  clear ha
  go_enter Tryz.func195, Tryz.ntmps195
  go_wp2_with (first | (at_builtin; go_loud (refine wpList_app kdL (by rfl) _ _ (by rfl) w.heap.size _ [] (by rfl) HOW.out (some a) n c xs (by rfl) HAA.out (by simpa using hn) (by simp) ?_); intro v' w' ho hbw hz; have HO := Lib.hid ho; have HB := Lib.hid (HOW.out.below hbw (Nat.le_refl _) (by simp)); clear ho hbw hz))
  go_ret
  exact ⟨⟨_, rfl, by have := HO.out; rwa [List.nil_append] at this⟩, (one_more w _).trans HB.out⟩
set_option maxRecDepth 100000 in
set_option maxHeartbeats 1000000 in
theorem cloneS_any (A : Option Addr) (n c : Nat) (xs : List Six) (w : World) (ha : Arr scells 6 w A n xs) (hn : n ≤ 1000000) :
  Calls Tryz.prog 196 #[.slice A n c] w fun e w' => (∃ v, e = .returned v ∧ OwnL scells 6 105 w' w.heap.size v xs) ∧ Below w.heap.size w w' := by
 cases A with
 | none =>
  have h0 : n = 0 := by
   rcases Nat.eq_zero_or_pos n with h | h
   ·exact h
   ·obtain ⟨b, o, e, _⟩ := ha.2 h; cases e
  subst h0
  have : xs = [] := List.eq_nil_of_length_eq_zero ha.1
  subst this
  have heq := fun w => eqNil35 none 0 c w
  clear ha
  go_enter Tryz.func196, Tryz.ntmps196
  go_wp2_with fail
  go_ret
  exact ⟨⟨_, rfl, OwnL.nil _ _⟩, Below.refl _ _⟩
 | some a =>
  have heq := fun w => eqNil35 (some a) n c w
  have HOW := Lib.hid (show OwnL scells 6 105 (w.alloc (.cells #[] 105)) w.heap.size (.slice (some ⟨w.heap.size, 0, none⟩) 0 0) [] from World.ownsRow_made (e := 105) (size := 6) w #[] 0 (Nat.le_refl w.heap.size) (by decide) rfl)
  have HAA := Lib.hid (ha.below (one_more w (.cells #[] 105)))
  clear ha
  go_enter Tryz.func196, Tryz.ntmps196
  go_wp2_with (first | (at_builtin; go_loud (refine wpList_app kdS (by rfl) _ _ (by rfl) w.heap.size _ [] (by rfl) HOW.out (some a) n c xs (by rfl) HAA.out (by simpa using hn) (by simp) ?_); intro v' w' ho hbw hz; have HO := Lib.hid ho; have HB := Lib.hid (HOW.out.below hbw (Nat.le_refl _) (by simp)); clear ho hbw hz))
  go_ret
  exact ⟨⟨_, rfl, by have := HO.out; rwa [List.nil_append] at this⟩, (one_more w _).trans HB.out⟩
set_option maxRecDepth 100000 in
set_option maxHeartbeats 1000000 in
theorem cloneP_any (A : Option Addr) (n c : Nat) (xs : List Six) (w : World) (ha : Arr scells 6 w A n xs) (hn : n ≤ 1000000) :
  Calls Tryz.prog 197 #[.slice A n c] w fun e w' => (∃ v, e = .returned v ∧ OwnL scells 6 107 w' w.heap.size v xs) ∧ Below w.heap.size w w' := by
 cases A with
 | none =>
  have h0 : n = 0 := by
   rcases Nat.eq_zero_or_pos n with h | h
   ·exact h
   ·obtain ⟨b, o, e, _⟩ := ha.2 h; cases e
  subst h0
  have : xs = [] := List.eq_nil_of_length_eq_zero ha.1
  subst this
  have heq := fun w => eqNil36 none 0 c w
  clear ha
  go_enter Tryz.func197, Tryz.ntmps197
  go_wp2_with fail
  go_ret
  exact ⟨⟨_, rfl, OwnL.nil _ _⟩, Below.refl _ _⟩
 | some a =>
  have heq := fun w => eqNil36 (some a) n c w
  have HOW := Lib.hid (show OwnL scells 6 107 (w.alloc (.cells #[] 107)) w.heap.size (.slice (some ⟨w.heap.size, 0, none⟩) 0 0) [] from World.ownsRow_made (e := 107) (size := 6) w #[] 0 (Nat.le_refl w.heap.size) (by decide) rfl)
  have HAA := Lib.hid (ha.below (one_more w (.cells #[] 107)))
  clear ha
  go_enter Tryz.func197, Tryz.ntmps197
  go_wp2_with (first | (at_builtin; go_loud (refine wpList_app kdP (by rfl) _ _ (by rfl) w.heap.size _ [] (by rfl) HOW.out (some a) n c xs (by rfl) HAA.out (by simpa using hn) (by simp) ?_); intro v' w' ho hbw hz; have HO := Lib.hid ho; have HB := Lib.hid (HOW.out.below hbw (Nat.le_refl _) (by simp)); clear ho hbw hz))
  go_ret
  exact ⟨⟨_, rfl, by have := HO.out; rwa [List.nil_append] at this⟩, (one_more w _).trans HB.out⟩
set_option maxRecDepth 100000 in
set_option maxHeartbeats 1000000 in
theorem cloneI_any (A : Option Addr) (n c : Nat) (xs : List Int) (w : World) (ha : Arr icells 1 w A n xs) (hn : n ≤ 1000000) :
  Calls Tryz.prog 106 #[.slice A n c] w fun e w' => (∃ v, e = .returned v ∧ OwnL icells 1 3 w' w.heap.size v xs) ∧ Below w.heap.size w w' := by
 cases A with
 | none =>
  have h0 : n = 0 := by
   rcases Nat.eq_zero_or_pos n with h | h
   ·exact h
   ·obtain ⟨b, o, e, _⟩ := ha.2 h; cases e
  subst h0
  have : xs = [] := List.eq_nil_of_length_eq_zero ha.1
  subst this
  have heq := fun w => eqNil39 none 0 c w
  clear ha
  go_enter Tryz.func106, Tryz.ntmps106
  go_wp2_with fail
  go_ret
  exact ⟨⟨_, rfl, OwnL.nil _ _⟩, Below.refl _ _⟩
 | some a =>
  have heq := fun w => eqNil39 (some a) n c w
  have HOW := Lib.hid (show OwnL icells 1 3 (w.alloc (.cells #[] 3)) w.heap.size (.slice (some ⟨w.heap.size, 0, none⟩) 0 0) [] from World.ownsRow_made (e := 3) (size := 1) w #[] 0 (Nat.le_refl w.heap.size) (by decide) rfl)
  have HAA := Lib.hid (ha.below (one_more w (.cells #[] 3)))
  clear ha
  go_enter Tryz.func106, Tryz.ntmps106
  go_wp2_with (first | (at_builtin; go_loud (refine wpList_app kdI (by rfl) _ _ (by rfl) w.heap.size _ [] (by rfl) HOW.out (some a) n c xs (by rfl) HAA.out (by simpa using hn) (by simp) ?_); intro v' w' ho hbw hz; have HO := Lib.hid ho; have HB := Lib.hid (HOW.out.below hbw (Nat.le_refl _) (by simp)); clear ho hbw hz))
  go_ret
  exact ⟨⟨_, rfl, by have := HO.out; rwa [List.nil_append] at this⟩, (one_more w _).trans HB.out⟩
end Go.Proofs.YtkoejeghihcmlaaGreat
namespace Go.Proofs.YtkoejeghihcmlaaGreat
open Go.RowKit Go.Shelf
attribute [local go_sem] Oper.semAt_some
/-- What stood, and what lies behind it in the block. -/
def rvalt (tl : Array Value) (st : List Rg) : Array Value := rvals st ++ tl
theorem rvals_size (st : List Rg) : (rvals st).size = st.length * 2 := by unfold rvals; rw [List.size_toArray, flat_len rcells_len]
theorem rvalt_at (tl : Array Value) {st : List Rg} {i : Nat} (hi : i < st.length) : (rvalt tl st)[i * 2]? = some (.int .i64 (Lo st i)) ∧ (rvalt tl st)[i * 2 + 1]? = some (.int .i64 (Hi st i)) := by
 obtain ⟨h0, h1⟩ := rvals_at hi
 unfold rvalt
 rw [Array.getElem?_append_left (by rw [rvals_size]; omega), Array.getElem?_append_left (by rw [rvals_size]; omega)]
 exact ⟨h0, h1⟩
theorem set_left (a b : Array Value) (i : Nat) (v : Value) (h : i < a.size) : (a ++ b).setIfInBounds i v = a.setIfInBounds i v ++ b := by
 apply Array.ext_getElem?
 intro j
 rw [Array.getElem?_setIfInBounds, Array.getElem?_append, Array.getElem?_append, Array.size_setIfInBounds, Array.getElem?_setIfInBounds, Array.size_append]
 by_cases e : i = j
 ·subst e
  rw [if_pos rfl, if_pos h, if_pos rfl, if_pos h, if_pos (by omega)]
 ·rw [if_neg e, if_neg e]
theorem rvalt_set (tl : Array Value) {st : List Rg} {i : Nat} (h : i < st.length) (r : Rg) : ((rvalt tl st).setIfInBounds (i * 2) (.int .i64 r.lo)).setIfInBounds (i * 2 + 1) (.int .i64 r.hi) = rvalt tl (st.set i r) := by
 unfold rvalt
 rw [set_left _ _ _ _ (by rw [rvals_size]; omega), set_left _ _ _ _ (by rw [Array.size_setIfInBounds, rvals_size]; omega), rvals_set h]
/-- A field. -/
structure Fk (kc : Nat) (tl : Array Value) (w : World) (bf bs : Nat) (pp : Value) (known : Int) (A : Option Addr) (n c m : Nat) (st : List Rg) : Prop where
 f : Blk w bf 152 #[pp, .int .i64 known, .slice A n c, .slice (some ⟨bs, 0, none⟩) m kc]
 s : Blk w bs 33 (rvalt tl st)
 len : st.length = m
 ne : bf ≠ bs
theorem narrowk_end {kc : Nat} {tl : Array Value} {bf bs : Nat} {pp : Value} {known : Int} {A : Option Addr} {n c m i : Nat} {st : List Rg} {r : Rg} {w W : World} (hf : Fk kc tl w bf bs pp known A n c m st) (hi : i < m)
  (F9 : Blk W bf 152 #[pp, .int .i64 known, .slice A n c, .slice (some ⟨bs, 0, none⟩) m kc]) (S9 : Blk W bs 33 (rvalt tl st)) (GZ : Below w.heap.size w W) {a b : Int} (ha : a = max (Lo st i) r.lo) (hb : b = min (Hi st i) r.hi) :
  Fix bs bs w ((W.setCell ⟨bs, i * 2, none⟩ (.int .i64 a)).setCell ⟨bs, i * 2 + 1, none⟩ (.int .i64 b)) ∧ Fk kc tl ((W.setCell ⟨bs, i * 2, none⟩ (.int .i64 a)).setCell ⟨bs, i * 2 + 1, none⟩ (.int .i64 b)) bf bs pp known A n c m (nar st i r) := by
 have hse := (S9.set_ (i * 2) (.int .i64 a)).set_ (i * 2 + 1) (.int .i64 b)
 have HST := rvalt_set tl (st := st) (i := i) (by rw [hf.len]; exact hi) ⟨a, b⟩
 rw [HST, show st.set i ⟨a, b⟩ = nar st i r by rw [ha, hb]; rfl] at hse
 refine ⟨(((Fix.of_below (bw := bs) (bs := bs) GZ).setCell (p := ⟨bs, i * 2, none⟩) (.inl rfl) _).setCell (p := ⟨bs, i * 2 + 1, none⟩) (.inl rfl) _), ?_, hse, by rw [nar_len]; exact hf.len, hf.ne⟩
 exact (F9.far (p := ⟨bs, i * 2, none⟩) hf.ne _).far (p := ⟨bs, i * 2 + 1, none⟩) hf.ne _
set_option maxRecDepth 100000 in
set_option maxHeartbeats 4000000 in
theorem narrowk_any (kc : Nat) (tl : Array Value) (bf bs : Nat) (pp : Value) (known : Int) (A : Option Addr) (n c m i : Nat) (st : List Rg) (r : Rg) (w : World) (hf : Fk kc tl w bf bs pp known A n c m st) (hi : i < m) :
  Calls Tryz.prog 162 #[.pointer (some ⟨bf, 0, none⟩), .int .i64 i, rv r] w fun e w' => e = .returned (.tuple #[]) ∧ Fix bs bs w w' ∧ Fk kc tl w' bf bs pp known A n c m (nar st i r) := by
 have HF := Lib.hid hf
 have hbl := hf.f.lt
 have hsl := hf.s.lt
 clear hf
 go_enter Tryz.func162, Tryz.ntmps162
 go_upto_region 1 with fail
 obtain ⟨W1, hW1⟩ : ∃ W1, w.alloc (.cells #[.int .i64 r.lo, .int .i64 r.hi] 33) = W1 := ⟨_, rfl⟩
 have g1 : Below w.heap.size w W1 := by rw [← hW1]; exact one_more _ _
 have b1 : Blk W1 w.heap.size 33 #[.int .i64 r.lo, .int .i64 r.hi] := by rw [← hW1]; exact Blk.new _ _ _
 rw [hW1]
 obtain ⟨bx, hbx⟩ : ∃ bx, w.heap.size = bx := ⟨_, rfl⟩
 have G1 := Lib.hid g1
 rw [hbx] at b1 hbl hsl ⊢
 have F1 := Lib.hid (HF.out.f.ext g1)
 have S1 := Lib.hid (HF.out.s.ext g1)
 obtain ⟨v0, v1⟩ := rvalt_at tl (st := st) (i := i) (by rw [HF.out.len]; exact hi)
 have c0 := cellW (b1.cell 0)
 have c1 := cellW (b1.cell 1)
 have f3 := cellW (F1.out.cell 3)
 have s0 : ∀ x : Wd W1, x.val.cell? ⟨bs, i * 2, none⟩ = some (.int .i64 (Lo st i)) := cellW (by rw [S1.out.cell, v0])
 have s1 : ∀ x : Wd W1, x.val.cell? ⟨bs, i * 2 + 1, none⟩ = some (.int .i64 (Hi st i)) := cellW (by rw [S1.out.cell, v1])
 have z0 : ∀ x : Wd W1, x.val.frozen? ⟨bs, i * 2, none⟩ = false := frozenW (s0 ⟨W1, Below.refl _ _⟩) (S1.out.frozen _)
 have z1 : ∀ x : Wd W1, x.val.frozen? ⟨bs, i * 2 + 1, none⟩ = false := frozenW (s1 ⟨W1, Below.refl _ _⟩) (S1.out.frozen _)
 clear hW1 g1 b1 v0 v1
 refine wp_region_calm_tail W1 29 (by kernel_rfl) (by kernel_rfl) (Below.refl _ _) ?_
 simp only [List.take_succ_cons, List.take_zero, List.drop_succ_cons, List.drop_zero]
 repeat (go_big_quiet_step (fail))
 refine wpQuiet_nil ?_
 rintro _ ⟨z, rfl⟩
 have S9 := Lib.hid (S1.out.ext z.ok)
 have F9 := Lib.hid (F1.out.ext z.ok)
 have GZ := Lib.hid (G1.out.trans (z.ok.mono G1.out.size))
 go_wp2_with fail
 all_goals
  go_end0
  exact ⟨rfl, narrowk_end HF.out hi F9.out S9.out GZ.out (by omega) (by omega)⟩
set_option maxRecDepth 100000 in
set_option maxHeartbeats 8000000 in
theorem settlek_any (kc : Nat) (tl : Array Value) (bf bs : Nat) (pp : Value) (known : Int) (A : Option Addr) (n c : Nat) (ls : List Six) (st : List Rg) (w : World) (hf : Fk kc tl w bf bs pp known A n c (n + 1) st) (ha : Arr scells 6 w A n ls) (hn : n ≤ 1000)
  (hAd : ∀ b o, A = some ⟨b, o, none⟩ → 0 < n → b ≠ bs) (hw : Wb ls) (hb : Bd st 10000000) :
  Calls Tryz.prog 163 #[.pointer (some ⟨bf, 0, none⟩)] w fun e w' => e = .returned (.tuple #[]) ∧ Fix bs bs w w' ∧ Fk kc tl w' bf bs pp known A n c (n + 1) (settle ls st) := by
 have HA := Lib.hid ha
 have HF := Lib.hid hf
 have hlen := Lib.hid ha.1
 have HW := Lib.hid hw
 have HB := Lib.hid hb
 have hfl := hf.f.lt
 have hsl := hf.s.lt
 clear ha hf hw hb
 refine (callsIn_wide (n := 4)).1 (callsIn_of_wp_marks Tryz.func163 rfl trivial ?_ rfl)
 simp only [Tryz.ntmps163, List.size_toArray, List.length_cons, List.length_nil, Nat.reduceAdd, Nat.reduceSub, Array.replicate_succ, Array.replicate_zero, List.push_toArray, List.append_toArray, List.nil_append, List.cons_append]
 refine wpIn_wide.2 ?_
 go_wp2_with fail
 refine (carted_any _ _).mono ?_
 rintro e w' ⟨rfl, hw'⟩
 have hb0 : Blk w' w.heap.size 134 #[.pointer (some ⟨bf, 0, none⟩)] := by rw [← hw']; exact ((Blk.new _ _ _).alloc _).alloc _
 have hb1 : Blk w' (w.heap.size + 1) 227 #[.func (.func 162) #[.pointer (some ⟨bf, 0, none⟩)] #[]] := by
  rw [← hw']; have := Blk.new (w.alloc (.cells #[.pointer (some ⟨bf, 0, none⟩)] 134)) 227 #[.func (.func 162) #[.pointer (some ⟨bf, 0, none⟩)] #[]]; rw [World.size_alloc] at this; exact this.alloc _
 have hbQ : Blk w' (w.heap.size + 1 + 1) 134 #[.pointer (some ⟨bf, 0, none⟩)] := by
  rw [← hw']; have := Blk.new ((w.alloc (.cells #[.pointer (some ⟨bf, 0, none⟩)] 134)).alloc (.cells #[.func (.func 162) #[.pointer (some ⟨bf, 0, none⟩)] #[]] 227)) 134 #[.pointer (some ⟨bf, 0, none⟩)]; simp only [World.size_alloc] at this; exact this
 have hsz : w'.heap.size = w.heap.size + 3 := by rw [← hw']; simp
 have hbel : Below w.heap.size w w' := by rw [← hw']; exact (((Below.refl _ _).alloc (Nat.le_refl _) _).alloc (by simp) _).alloc (by simp; omega) _
 clear hw'
 rename World => W0
 obtain ⟨b1, hb1e⟩ : ∃ b1, w.heap.size + 1 = b1 := ⟨_, rfl⟩
 rw [hb1e] at hb1 hbQ ⊢
 go_wp2_with fail
 have HA0 := Lib.hid (HA.out.below hbel)
 have hf0 : Fk kc tl W0 bf bs pp known A n c (n + 1) st := ⟨HF.out.f.ext hbel, HF.out.s.ext hbel, HF.out.len, HF.out.ne⟩
 have hd0 : ∀ b o, A = some ⟨b, o, none⟩ → 0 < n → b < W0.heap.size ∧ b ≠ bs ∧ b ≠ bs := fun b o e h0 => by
  obtain ⟨b', o', e', hlt, -⟩ := HA.out.2 h0
  have := hAd b o e h0
  rw [e] at e'; cases e'
  have := hbel.size
  omega
 have HSQ := Lib.hid (carted_stops 3 W0 (b1 + 1) bf bs bs A n c ls (hbQ.cell 0) (hf0.f.cell 2) HA0.out (by omega) hd0)
 have HBE := Lib.hid hbel
 have HSZ := Lib.hid hsz
 have HF0 := Lib.hid hf0
 have HDD := Lib.hid hd0
 have hne := HF.out.ne
 clear hbel hd0 hf0 hbQ hAd
 refine (wpIn_wide (n := 4)).1 ?_
 refine wpIn_rangeFunc_ownH (α := Cx n) (F := Fence.wide) (n := 4) rfl (by omega) (gf := 202) (lb := #[.pointer (some ⟨b1 + 1, 0, none⟩)]) rfl trivial
  (enters_of Tryz.func202 (by kernel_rfl) rfl) HSQ.out (fun h k => FixTo.trans h k) ?hKb (Below.refl _ _) (fun _ => rfl)
  (fun pre W' => Fix bs bs W0 W' ∧ Fk kc tl W' bf bs pp known A n c (n + 1) ((pre.map (·.1)).foldl (fwdS ls) st) ∧ Bd ((pre.map (·.1)).foldl (fwdS ls) st) (10000000 + 10000 * (pre.length : Int))) (fun _ _ _ => False) ?hI ?hIx ?h0
  (fun x a' W => ∃ Bx, W0.heap.size ≤ Bx ∧ Blk W Bx 103 #[.int .i64 (ls.getD x.1 z6).a, .int .i64 (ls.getD x.1 z6).b, .int .i64 (ls.getD x.1 z6).c, .int .i64 (ls.getD x.1 z6).d, .int .i64 (ls.getD x.1 z6).e, .int .i64 (ls.getD x.1 z6).f] ∧
   a' = { tmps := #[.pointer (some ⟨bf, 0, none⟩), .pointer (some ⟨w.heap.size, 0, none⟩), .pointer (some ⟨b1, 0, none⟩), .int .i64 x.1, .pointer (some ⟨Bx, 0, none⟩), undef, undef, undef, undef, .pointer (some ⟨bf, 0, none⟩), .func (.func 162) #[.pointer (some ⟨bf, 0, none⟩)] #[], .pointer (some ⟨bf, 0, none⟩), .func (.func 202) #[] #[.pointer (some ⟨b1 + 1, 0, none⟩)], .int .i64 x.1, sv (ls.getD x.1 z6), undef, undef, undef, undef, undef, undef, undef, undef, undef, undef, undef, undef, undef, undef, undef, undef, undef, undef, undef, undef, undef, undef, undef, undef, undef, undef, undef, undef, undef, undef, undef, undef, undef, undef, undef, undef, undef, undef, undef, undef, undef, undef, undef, undef, undef, undef, undef, undef, undef, undef, undef, undef, undef, undef, undef, undef, undef, undef, undef, undef, undef, undef, undef, undef], defers := [] }) ?hAx ?assign ?body ?done ?stop
 case hKb =>
  intro Wb l o o' hl ho _ _
  exact FixTo.putObj _ _ _ _ (by omega) _
 case hI =>
  rintro pre A' B row ⟨hfx, hfd, hbd⟩ hg hr
  have hr1 : ∀ r, row = some r → ∃ o : Obj, A'.heap[r]? = some o ∧ o.isCells = false := fun r e => (hr r e).2
  exact ⟨hfx.own hg (fun r e => (hr r e).1), ⟨hfd.f.own hg hr1, hfd.s.own hg hr1, hfd.len, hfd.ne⟩, hbd⟩
 case hIx => exact fun _ _ _ _ _ hs _ _ => hs
 case h0 => exact ⟨Fix.refl _ _ _, HF0.out, by simpa using HB.out⟩
 case hAx =>
  rintro x a' _ X Y row ⟨Bx, h1, h2, h3⟩ hg hr
  exact ⟨Bx, h1, h2.own hg (fun r e => (hr r e).2), h3⟩
 case assign =>
  rintro l pre x W K ⟨hfx, hfd, hbd⟩ hK
  unfold encC
  gi_wp2
  refine hK _ _ ((KeepsOthers.alloc _ _).from _) (FixTo.alloc _ _ _ _ _) ⟨hfx.trans (Fix.of_below (one_more _ _)), ⟨hfd.f.alloc _, hfd.s.alloc _, hfd.len, hfd.ne⟩, hbd⟩ ⟨W.heap.size, hfx.size, Blk.new _ _ _, rfl⟩
 case body =>
  rintro l pre x a' W hl - ⟨hfx, hfd, hbd⟩ ⟨Bx, hBx, hB, rfl⟩ hpl
  have q0 := (hfx.blk hb0 (by omega) (by omega)).cell 0
  have q1 := (hfx.blk hb1 (by omega) (by omega)).cell 0
  have f3 := hfd.f.cell 3
  obtain ⟨xi, hxi⟩ : ∃ xi, x.1 = xi := ⟨_, rfl⟩
  have hxn : xi < n := by rw [← hxi]; exact x.2
  obtain ⟨sp, hsp⟩ : ∃ sp, (pre.map (·.1)).foldl (fwdS ls) st = sp := ⟨_, rfl⟩
  have HN := Lib.hid (show ((pre ++ [x]).map (·.1)).foldl (fwdS ls) st = fwdS ls sp xi by rw [List.map_append, List.foldl_append, hsp, ← hxi]; rfl)
  rw [hsp] at hfd hbd
  have hsl2 := hfd.len
  obtain ⟨v0, v1⟩ := rvalt_at tl (st := sp) (i := xi) (by omega)
  have s0 : W.cell? ⟨bs, xi * 2, none⟩ = some (.int .i64 (Lo sp xi)) := by rw [hfd.s.cell, v0]
  have s1 : W.cell? ⟨bs, xi * 2 + 1, none⟩ = some (.int .i64 (Hi sp xi)) := by rw [hfd.s.cell, v1]
  have hbx := hbd xi (by omega)
  have hwx := HW.out xi (by rw [hlen.out]; exact hxn)
  have HBN := Lib.hid (hbd.fwd HW.out (by rw [hlen.out]; exact hsl2) (i := xi) (by rw [hlen.out]; exact hxn))
  rw [hxi] at hB ⊢
  have l2 := hB.cell 2
  have l3 := hB.cell 3
  have HFD := Lib.hid hfd
  have HFX := Lib.hid hfx
  have hpl2 : (pre.length : Int) ≤ 1000 := by omega
  have HST := Lib.hid (show fwdS ls sp xi = nar sp (xi + 1) ⟨Lo sp xi - Gr ls xi, Hi sp xi - Ls ls xi⟩ from rfl)
  unfold Gr Ls at HST hwx
  obtain ⟨lo, hlo⟩ : ∃ lo, Lo sp xi = lo := ⟨_, rfl⟩
  obtain ⟨hi, hhi⟩ : ∃ hi, Hi sp xi = hi := ⟨_, rfl⟩
  obtain ⟨y, hy⟩ : ∃ y, ls.getD xi z6 = y := ⟨_, rfl⟩
  rw [hy] at hwx HST l2 l3
  rw [hlo] at s0 hbx HST
  rw [hhi] at s1 hbx HST
  rw [hy]
  have HT := Lib.hid (fun W1 (g : Below W.heap.size W W1) => (show Calls Tryz.prog 162 #[.pointer (some ⟨bf, 0, none⟩), .int .i64 ((xi : Int) + 1), .agg #[.int .i64 (lo - y.d), .int .i64 (hi - y.c)]] W1 fun e w' => e = .returned (.tuple #[]) ∧ Fix bs bs W1 w' ∧ Fk kc tl w' bf bs pp known A n c (n + 1) (fwdS ls sp xi) by
   have := narrowk_any kc tl bf bs pp known A n c (n + 1) (xi + 1) sp ⟨lo - y.d, hi - y.c⟩ W1 ⟨HFD.out.f.ext g, HFD.out.s.ext g, HFD.out.len, HFD.out.ne⟩ (by omega)
   rw [← HST.out] at this
   exact this))
  clear hB hfd hfx v0 v1 hsp hxi hlo hhi hy hbd
  have q2 := keepAlloc q1 (.cells #[.int .i64 lo, .int .i64 hi] 33)
  have l4 := keepAlloc l2 (.cells #[.int .i64 lo, .int .i64 hi] 33)
  have l5 := keepAlloc l3 (.cells #[.int .i64 lo, .int .i64 hi] 33)
  gi_wp2_with (refine ⟨trivial, ?_⟩; gi_at_call 162; refine (CallsIn.inRound l (callsIn_wide.2 (HT.out _ (one_more W _)))).mono ?_; rintro e W7 ⟨rfl, f7, hf7⟩; have F7 := Lib.hid ((Fix.of_below (one_more W _) : Fix bs bs W _).trans f7); have HF7 := Lib.hid hf7; clear f7 hf7)
  refine ⟨keepsFrom_of_fix _ F7.out HFD.out.s HFD.out.s, F7.out.to _, HFX.out.trans F7.out, ?_, ?_⟩
  ·rw [HN.out]; exact HF7.out
  ·rw [HN.out, List.length_append, List.length_singleton]
   have := HBN.out
   rw [show (10000000 : Int) + 10000 * (pre.length : Int) + 10000 = 10000000 + 10000 * ((pre.length + 1 : Nat) : Int) by omega] at this
   exact this
 case done =>
  rintro D xs W hD hS ⟨hfx, hfd, hbd⟩ hK
  have hxl : xs.length = n := by
   have := congrArg List.length hS
   rw [List.length_map, List.length_range] at this
   exact this
  rw [hS, fwdS_range, hxl] at hbd
  rw [hS, fwdS_range] at hfd
  obtain ⟨fw, hfw⟩ : ∃ fw, fwdK ls st n = fw := ⟨_, rfl⟩
  have HFW := Lib.hid (show settle ls st = bwdK ls fw n by unfold settle; rw [hlen.out, hfw])
  rw [hfw] at hfd hbd
  have HFD := Lib.hid hfd
  have HFX := Lib.hid hfx
  have HBD := Lib.hid hbd
  have HK := Lib.hid hK
  have q0 := (hfx.blk hb0 (by omega) (by omega)).cell 0
  have f2 := hfd.f.cell 2
  clear hS hfx hfd hbd hfw hK hxl HSQ
  go_upto_region 8 with fail
  have HWR := Lib.hid wrap_succ
  have HB2 := Lib.hid (HBD.out.mono (K' := 20000000) (by omega))
  clear q0 f2
  go_loopw [6] (fun i wr => ∃ k : Nat, k ≤ n ∧ i = .int .i64 ((n : Int) - 1 - (k : Int)) ∧ Fix bs bs W0 wr ∧ wr.heap[D]? = some (.deferred (some [])) ∧ Fk kc tl wr bf bs pp known A n c (n + 1) (bwdK ls fw k) ∧ Bd (bwdK ls fw k) (20000000 + 10000 * (k : Int))) (fun i _ => (intOf i + 1).toNat)
  case atStart => exact ⟨0, Nat.zero_le _, by simp, HFX.out, HK.out, HFD.out, by simpa [bwdK] using HB2.out⟩
  case round =>
   obtain ⟨k, hk, rfl, hfx, hK, hfd, hbd⟩ := hrel
   obtain ⟨V, rfl⟩ : ∃ V : World, V = wr := ⟨_, rfl⟩
   obtain ⟨sp, hsp⟩ : ∃ sp, bwdK ls fw k = sp := ⟨_, rfl⟩
   have HSP := Lib.hid hsp
   rw [hsp] at hfd hbd
   by_cases hkn : k < n
   ·obtain ⟨ix, hix⟩ : ∃ ix, n - 1 - k = ix := ⟨_, rfl⟩
    have hixe : (n : Int) - 1 - (k : Int) = (ix : Nat) := by omega
    rw [hixe]
    have hxn : ix < n := by omega
    have hsl2 := hfd.len
    obtain ⟨v0, v1⟩ := rvalt_at tl (st := sp) (i := ix + 1) (by omega)
    have q0 := (hfx.blk hb0 (by omega) (by omega)).cell 0
    have q1 := (hfx.blk hb1 (by omega) (by omega)).cell 0
    have f2 := hfd.f.cell 2
    have f3 := hfd.f.cell 3
    have s0 : V.cell? ⟨bs, (ix + 1) * 2, none⟩ = some (.int .i64 (Lo sp (ix + 1))) := by rw [hfd.s.cell, v0]
    have s1 : V.cell? ⟨bs, (ix + 1) * 2 + 1, none⟩ = some (.int .i64 (Hi sp (ix + 1))) := by rw [hfd.s.cell, v1]
    obtain ⟨ba, oa, e0, -, -, hc⟩ := six_at (HA0.out.fix hfx (fun b o e h0 => ⟨(HDD.out b o e h0).2.1, (HDD.out b o e h0).2.1⟩)) hxn
    obtain ⟨-, -, l2, l3, -, -⟩ := hc V (Below.refl _ _)
    have hbx := hbd (ix + 1) (by omega)
    have hwx := HW.out ix (by rw [hlen.out]; exact hxn)
    have HST := Lib.hid (show bwdK ls fw (k + 1) = nar sp ix ⟨Lo sp (ix + 1) + Ls ls ix, Hi sp (ix + 1) + Gr ls ix⟩ by
     rw [← hsp]
     show nar (bwdK ls fw k) (ls.length - 1 - k) _ = _
     rw [hlen.out, hix, show n - k = ix + 1 by omega])
    have HBN := Lib.hid (hbd.nar (i := ix) (r := ⟨Lo sp (ix + 1) + Ls ls ix, Hi sp (ix + 1) + Gr ls ix⟩) (D := 10000) (by decide) (by dsimp only; omega) (by omega))
    rw [← HST.out] at HBN
    have HFDk := Lib.hid hfd
    have HFXk := Lib.hid hfx
    have HKk := Lib.hid hK
    unfold Gr Ls at HST hwx
    obtain ⟨lo, hlo⟩ : ∃ lo, Lo sp (ix + 1) = lo := ⟨_, rfl⟩
    obtain ⟨hi, hhi⟩ : ∃ hi, Hi sp (ix + 1) = hi := ⟨_, rfl⟩
    obtain ⟨y, hy⟩ : ∃ y, ls.getD ix z6 = y := ⟨_, rfl⟩
    rw [hy] at hwx HST l2 l3
    rw [hlo] at s0 hbx HST
    rw [hhi] at s1 hbx HST
    have HT := Lib.hid (fun W1 (g : Below V.heap.size V W1) => (show Calls Tryz.prog 162 #[.pointer (some ⟨bf, 0, none⟩), .int .i64 (ix : Nat), .agg #[.int .i64 (lo + y.c), .int .i64 (hi + y.d)]] W1 fun e w' => e = .returned (.tuple #[]) ∧ Fix bs bs W1 w' ∧ Fk kc tl w' bf bs pp known A n c (n + 1) (bwdK ls fw (k + 1)) by
     have := narrowk_any kc tl bf bs pp known A n c (n + 1) ix sp ⟨lo + y.c, hi + y.d⟩ W1 ⟨HFDk.out.f.ext g, HFDk.out.s.ext g, HFDk.out.len, HFDk.out.ne⟩ (by omega)
     rw [← HST.out] at this
     exact this))
    have HD' := Lib.hid (show D ≠ bs from by omega)
    subst e0
    clear hc hfd hfx v0 v1 hsp hlo hhi hy hbd hK hixe
    obtain ⟨m, hm⟩ : ∃ m, n + 1 = m := ⟨_, rfl⟩
    rw [hm] at f3
    have hxm : ix + 1 < m := by omega
    have hxi0 : (0 : Int) ≤ (ix : Int) := by omega
    have hxi1 : (0 : Int) ≤ (ix : Int) + 1 := by omega
    have hxi2 : (ix : Int) + 1 < (m : Int) := by omega
    have hxi6 : (ix : Int) < (n : Int) := by omega
    have hxi4 := HWR.out ix (by omega)
    clear hm
    go_upto_region 10 with fail
    go_cut [7, 8] from 49 to 65 (fun s7 s8 wx => ∃ b7 b8, s7 = .pointer (some ⟨b7, 0, none⟩) ∧ s8 = .pointer (some ⟨b8, 0, none⟩) ∧ Below V.heap.size V wx ∧ Blk wx b7 33 #[.int .i64 lo, .int .i64 hi] ∧ Blk wx b8 33 #[.int .i64 y.c, .int .i64 y.d])
    case first =>
     go_region_held3 (fun w' => w'.cell? ⟨w.heap.size, 0, none⟩ = some (.pointer (some ⟨bf, 0, none⟩)) ∧ w'.cell? ⟨bf, 2, none⟩ = some (.slice (some ⟨ba, oa, none⟩) n c) ∧ w'.cell? ⟨bf, 3, none⟩ = some (.slice (some ⟨bs, 0, none⟩) m kc) ∧ w'.cell? ⟨bs, (ix + 1) * 2, none⟩ = some (.int .i64 lo) ∧ w'.cell? ⟨bs, (ix + 1) * 2 + 1, none⟩ = some (.int .i64 hi) ∧ w'.cell? ⟨ba, oa + ix * 6 + 2, none⟩ = some (.int .i64 y.c) ∧ w'.cell? ⟨ba, oa + ix * 6 + 3, none⟩ = some (.int .i64 y.d))
      (first | go_keep | exact ⟨keepAlloc q0 _, keepAlloc f2 _, keepAlloc f3 _, keepAlloc s0 _, keepAlloc s1 _, keepAlloc l2 _, keepAlloc l3 _⟩ | exact ⟨keepAlloc (keepAlloc q0 _) _, keepAlloc (keepAlloc f2 _) _, keepAlloc (keepAlloc f3 _) _, keepAlloc (keepAlloc s0 _) _, keepAlloc (keepAlloc s1 _) _, keepAlloc (keepAlloc l2 _) _, keepAlloc (keepAlloc l3 _) _⟩)
      (fail)
     all_goals (try go_wp2_with fail)
     all_goals go_meet
     all_goals first
      | exact ⟨_, _, rfl, rfl, (two_more _ _ _).drew, (Blk.new _ _ _).alloc _, blk_second _ _ _ _⟩
      | exact ⟨_, _, rfl, rfl, (two_more _ _ _).drew, blk_second _ _ _ _, (Blk.new _ _ _).alloc _⟩
    case rest =>
     obtain ⟨b7, b8, rfl, rfl, hg, hb7, hb8⟩ := hcut
     rename World => V2
     have r1 := (hg.cell (p := ⟨b1, 0, none⟩) (World.block_lt_of_cell? V _ q1)).trans q1
     have r2 := hb7.cell 0
     have r3 := hb7.cell 1
     have r4 := hb8.cell 0
     have r5 := hb8.cell 1
     have HG := Lib.hid hg
     have HDV := Lib.hid ((hg.block D (Array.getElem?_eq_some_iff.1 HKk.out).1).trans HKk.out)
     clear hg hb7 hb8 q0 q1 f2 f3 s0 s1 l2 l3
     go_wp2_with (go_at_call 162; (refine (HT.out V2 HG.out).mono ?_); rintro e V3 ⟨rfl, f3, hf3⟩; have F3 := Lib.hid f3; have HF3 := Lib.hid hf3; clear f3 hf3)
     go_roundw
     case rel =>
      refine ⟨k + 1, by omega, by go_num, HFXk.out.trans ((Fix.of_below HG.out).trans F3.out), (F3.out.block D (Array.getElem?_eq_some_iff.1 HDV.out).1 HD'.out HD'.out).trans HDV.out, HF3.out, ?_⟩
      have := HBN.out
      rw [show (20000000 : Int) + 10000 * (k : Int) + 10000 = 20000000 + 10000 * ((k + 1 : Nat) : Int) by omega] at this
      exact this
     case measure => simp [intOf]
   ·obtain rfl : n = k := by omega
    have he : (n : Int) - 1 - (n : Int) = -1 := by omega
    rw [he]
    have HFDn := Lib.hid hfd
    have HFXn := Lib.hid hfx
    clear hfd hfx hbd hsp
    go_wp2_with fail
    refine ⟨by simp, .inl ⟨_, _, rfl, run_takeDeferred hK, ?_⟩⟩
    refine ⟨_, results_none rfl _ _ _, rfl, (Fix.of_below HBE.out).trans (HFXn.out.putObj hD _), ?_⟩
    rw [HFW.out, HSP.out]
    exact ⟨HFDn.out.f.putObj (by omega) _, HFDn.out.s.putObj (by omega) _, HFDn.out.len, HFDn.out.ne⟩
 case stop =>
  rintro D c pre W _ _ h _
  exact h.elim
end Go.Proofs.YtkoejeghihcmlaaGreat
namespace Go.Proofs.YtkoejeghihcmlaaGreat
open Go.RowKit Go.Shelf
theorem Fd.arr {w : World} {bf bs : Nat} {pp : Value} {known : Int} {A : Option Addr} {n c m : Nat} {st : List Rg} (h : Fd w bf bs pp known A n c m st) : Arr rcells 2 w (some ⟨bs, 0, none⟩) m st := by
 refine ⟨h.len, fun _ => ⟨bs, 0, rfl, h.s.lt, fun k x hx j u hu => ?_⟩⟩
 have hj : j < 2 := by rw [← rcells_len x]; exact (List.getElem?_eq_some_iff.1 hu).1
 have e1 : (st.flatMap rcells)[k * 2 + j]? = some u := by rw [flat_get rcells_len st k j hj, hx]; exact hu
 rw [show 0 + k * 2 + j = k * 2 + j by omega, h.s.cell]
 unfold rvals
 rw [List.getElem?_toArray]
 exact e1
/-- A clone of ranges, as a block with room to spare. -/
theorem own_rg {w : World} {base : Nat} {v : Value} {xs : List Rg} (h : OwnL rcells 2 33 w base v xs) (hx : 0 < xs.length) :
  ∃ g kc tl, v = .slice (some ⟨g, 0, none⟩) xs.length kc ∧ base ≤ g ∧ Blk w g 33 (rvalt tl xs) ∧ v.ownBlock = some g := by
 obtain ⟨h1, ⟨e0, h3⟩ | ⟨g, cap, cur, rfl, hb, hg, hn, hm, hs, ht⟩⟩ := h
 ·omega
 ·refine ⟨g, cap, (cur.toList.drop (xs.length * 2)).toArray, rfl, hb, ?_, rfl⟩
  have e : cur = rvalt (cur.toList.drop (xs.length * 2)).toArray xs := by
   unfold rvalt rvals
   rw [← ht]
   apply Array.ext'
   simp
  unfold Blk
  rw [← e]
  exact hg
/-- A clone of ranges. -/
theorem cloneR_blk (bs m : Nat) (st : List Rg) (w : World) (ha : Arr rcells 2 w (some ⟨bs, 0, none⟩) m st) (h0 : 0 < m) (hm : m ≤ 1000000) (B : Nat) (hB : B ≤ w.heap.size) :
  Calls Tryz.prog 201 #[.slice (some ⟨bs, 0, none⟩) m m] w fun e w' => ∃ g kc tl, e = .returned (.slice (some ⟨g, 0, none⟩) m kc) ∧ B ≤ g ∧ Blk w' g 33 (rvalt tl st) ∧ Below w.heap.size w w' := by
 refine (cloneR_any _ m m st w ha hm).mono ?_
 rintro e w' ⟨⟨v, rfl, ho⟩, hg⟩
 obtain ⟨g, kc, tl, rfl, h1, h2, -⟩ := own_rg ho (by rw [ha.1]; exact h0)
 rw [ha.1]
 exact ⟨g, kc, tl, rfl, Nat.le_trans hB h1, h2, hg⟩
set_option maxRecDepth 100000 in
set_option maxHeartbeats 4000000 in
theorem stoodBefore_any (bf bs pb : Nat) (known : Int) (A : Option Addr) (n c : Nat) (ls : List Six) (st : List Rg) (before many : Nat) (w : World) (hf : Fd w bf bs (.pointer (some ⟨pb, 0, none⟩)) known A n c (n + 1) st) (ha : Arr scells 6 w A n ls) (hn : n ≤ 100)
  (hw : Wb ls) (hb : Bd st 10000000) (h1 : before ≤ n) (h2 : many ≤ n) :
  Calls Tryz.prog 153 #[.pointer (some ⟨bf, 0, none⟩), .int .i64 before, .int .i64 many] w fun e w' => e = .returned (.bool (sbS ls st before many)) ∧ Below w.heap.size w w' := by
 have hsl := hf.len
 have T := Lib.hid (fun W (g : Below w.heap.size w W) => cloneR_blk bs (n + 1) st W (hf.arr.below g) (by omega) (by omega) w.heap.size g.size)
 have f0 := hf.f.cell 0
 have f1 := hf.f.cell 1
 have f2 := hf.f.cell 2
 have f3 := hf.f.cell 3
 have HF := Lib.hid hf
 have HA := Lib.hid ha
 have HW := Lib.hid hw
 have HB := Lib.hid hb
 have HSB := Lib.hid (show sbS ls st before many = decide (0 < Hi (settle ls (nar st many zR)) before) from rfl)
 obtain ⟨rb, hrb⟩ : ∃ rb, sbS ls st before many = rb := ⟨_, rfl⟩
 rw [hrb] at HSB ⊢
 have HSL := Lib.hid hsl
 clear hf ha hw hb hrb hsl
 obtain ⟨m, hm⟩ : ∃ m, n + 1 = m := ⟨_, rfl⟩
 rw [hm] at f3 T
 have HM := Lib.hid hm
 clear hm
 go_enter Tryz.func153, Tryz.ntmps153
 go_upto_region 1 with fail
 go_cut [7] from 8 to 26 (fun s7 wx => ∃ b7 g kc tl, s7 = .pointer (some ⟨b7, 0, none⟩) ∧ Below w.heap.size w wx ∧ Blk wx b7 152 #[.pointer (some ⟨pb, 0, none⟩), .int .i64 known, .slice A n c, .slice (some ⟨g, 0, none⟩) m kc] ∧ w.heap.size ≤ g ∧ Blk wx g 33 (rvalt tl st) ∧ w.heap.size ≤ b7 ∧ b7 ≠ g)
 case first =>
  go_region_held3 (fun W => W.cell? ⟨bf, 0, none⟩ = some (.pointer (some ⟨pb, 0, none⟩)) ∧ W.cell? ⟨bf, 1, none⟩ = some (.int .i64 known) ∧ W.cell? ⟨bf, 2, none⟩ = some (.slice A n c) ∧ W.cell? ⟨bf, 3, none⟩ = some (.slice (some ⟨bs, 0, none⟩) m m))
   (first | go_keep | exact ⟨(HF.out.f.ext G79.out).cell 0, (HF.out.f.ext G79.out).cell 1, (HF.out.f.ext G79.out).cell 2, HM.out ▸ (HF.out.f.ext G79.out).cell 3⟩)
   (first
   | (go_at_call 201; (with_reducible refine (T.out _ (Below.refl _ _).drew).mono ?_); rintro e W8 ⟨g, kc, tl, rfl, hgl, hgb, g79⟩; have G79 := Lib.hid (show Below w.heap.size w W8 from ((Below.refl _ _).drew).trans (g79.mono (Nat.le_refl _))); have HGL := Lib.hid hgl; have HGB := Lib.hid hgb; clear g79 hgl hgb))
  all_goals (try go_wp2_with fail)
  all_goals go_meet
  all_goals exact ⟨_, g, kc, tl, rfl, G79.out.alloc G79.out.size _, Blk.new _ _ _, HGL.out, HGB.out.alloc _, G79.out.size, Nat.ne_of_gt HGB.out.lt⟩
 case rest =>
  obtain ⟨b7, g, kc, tl, rfl, hg, hb7, hgl, hgb, hb7l, hne⟩ := hcut
  rename World => W9
  have hfk : Fk kc tl W9 b7 g (.pointer (some ⟨pb, 0, none⟩)) known A n c (n + 1) st := ⟨by rw [HM.out]; exact hb7, hgb, HSL.out, hne⟩
  have T1 := Lib.hid (narrowk_any kc tl b7 g (.pointer (some ⟨pb, 0, none⟩)) known A n c (n + 1) many st zR W9 hfk (by omega))
  have HG := Lib.hid hg
  have HAP := Lib.hid (show ∀ b o, A = some ⟨b, o, none⟩ → 0 < n → b ≠ g from fun b o e h0 => by
   obtain ⟨b', o', e', hlt, -⟩ := HA.out.2 h0
   rw [e] at e'; cases e'
   omega)
  have HMN := Lib.hid (show nar st many zR = st.set many ⟨max (Lo st many) 0, min (Hi st many) 0⟩ from rfl)
  have HBD := Lib.hid (show Bd (nar st many zR) 10000000 from HB.out.nar (D := 0) (by decide) ⟨by decide, by decide, by decide, by decide⟩ (by rw [HSL.out]; omega))
  clear hg hb7 hgb hfk
  go_wp2_with (go_at_call 162; (refine (T1.out).mono ?_); rintro e W10 ⟨rfl, f10, hf10⟩; have F10 := Lib.hid f10; have HF10 := Lib.hid hf10; clear f10 hf10)
  have T2 := Lib.hid (settlek_any kc tl b7 g (.pointer (some ⟨pb, 0, none⟩)) known A n c ls (nar st many zR) W10 HF10.out ((HA.out.below HG.out).fix F10.out (fun b o e h0 => ⟨HAP.out b o e h0, HAP.out b o e h0⟩)) (by omega) HAP.out HW.out HBD.out)
  obtain ⟨hv, hhv⟩ : ∃ hv, Hi (settle ls (nar st many zR)) before = hv := ⟨_, rfl⟩
  have HHV := Lib.hid hhv
  clear hhv
  have hbi : (before : Int) < (n : Int) + 1 := by omega
  go_wp2_with (go_at_call 163; (refine (T2.out).mono ?_); rintro e W11 ⟨rfl, f11, hf11⟩; have F11 := Lib.hid f11; have k3 := hf11.f.cell 3; have k4 : W11.cell? ⟨g, before * 2 + 1, none⟩ = some (.int .i64 hv) := (by rw [hf11.s.cell, (rvalt_at tl (by rw [hf11.len]; omega)).2, HHV.out]); clear f11 hf11)
  go_ret
  refine ⟨by rw [HSB.out, HHV.out]; rfl, HG.out.trans ?_⟩
  exact ((F10.out.trans F11.out).below hgl HG.out.size)
end Go.Proofs.YtkoejeghihcmlaaGreat
namespace Go.Proofs.YtkoejeghihcmlaaGreat
open Go.RowKit Go.Shelf
attribute [local go_sem] Oper.semAt_some
section
variable {α : Type} {f : α → List Value} {size : Nat} {e : TypeId} {t : TypeId} {bytes : Nat} {z : Value}
/-- An append onto one's own slice, inside a fence. -/
theorem wpListIn_app (K : Kd f size e t bytes z) {F : Fence} {n : Nat} {w : World} {ops : Array Oper} {rest : List Oper} {o : Oper} {a : Act} {Q : Exit → Act → World → Prop} (hgd : o.guard = none) (s x : Operand)
  (ho : o.op = .call { callee := .builtin .append, args := #[s, x], argTypes := #[t, t] }) (base : Nat) (v : Value) (xs : List α) (hs : a.eval s = v) (hown : OwnL f size e w base v xs)
  (A : Option Addr) (m c : Nat) (ys : List α) (hx : a.eval x = .slice A m c) (hr : Arr f size w A m ys) (hn : xs.length + m ≤ 1000000) (hbase : base ≤ w.heap.size)
  (h : ∀ v' w', OwnL f size e w' base v' (xs ++ ys) → w.grownBy w' v.ownBlock → wpListIn F n Tryz.prog ops Q rest (a.put o.dst v') w') : wpListIn F n Tryz.prog ops Q (o :: rest) a w := by
 refine wpListIn_plain hgd fun K1 hK => ?_
 obtain ⟨v', w', hrun, h2, h3, -⟩ := run_app K w o.type base v xs hown A m c ys hr hn hbase
 unfold Oper.wpIn
 refine ⟨?_, ?_⟩
 ·simp [Oper.about, ho, resolve, Target.leads, Sem.run_pure]
 ·rw [Oper.semAt_plain F _ _ (by rw [ho]; intro c hc'; cases hc')]
  simp [execOp, ho, resolve, invoke, builtin, hs, hx, hrun, Result.andThen]
  exact hK _ _ (h v' w' h2 h3)
/-- What is one's own stays, whatever turns that is no cells. -/
theorem OwnL.held {w w' : World} {base : Nat} {v : Value} {xs : List α} {row : Option Nat} (h : OwnL f size e w base v xs) (hg : w.grownBy w' row) (hr : ∀ r, row = some r → ∃ o : Obj, w.heap[r]? = some o ∧ o.isCells = false) : OwnL f size e w' base v xs := by
 refine World.ownsRow.kept h hg ?_
 obtain ⟨h1, ⟨rfl, -⟩ | ⟨g, cap, cur, rfl, hb, hgc, -⟩⟩ := h
 ·exact .inl rfl
 ·refine .inr fun e => ?_
  obtain ⟨o, ho, hc⟩ := hr g e.symm
  rw [hgc] at ho
  cases ho
  cases hc
end
theorem Blk.grown {W W' : World} {g : Nat} {t : TypeId} {cs : Array Value} {row : Option Nat} (h : Blk W g t cs) (hg : W.grownBy W' row) (hne : row ≠ some g) : Blk W' g t cs :=
 (hg.block g h.lt (fun e => hne e.symm)).trans h
theorem own_cells {α : Type} {f : α → List Value} {size : Nat} {e : TypeId} {w : World} {base : Nat} {v : Value} {xs : List α} (h : OwnL f size e w base v xs) {g : Nat} (hg : v.ownBlock = some g) : base ≤ g ∧ g < w.heap.size ∧ ∃ cur, w.heap[g]? = some (.cells cur e (0, 0)) := by
 obtain ⟨h1, ⟨rfl, -⟩ | ⟨g', cap, cur, rfl, hb, hgc, -⟩⟩ := h
 ·cases hg
 ·cases hg
  exact ⟨hb, (Array.getElem?_eq_some_iff.1 hgc).1, cur, hgc⟩
/-- The outer things stay. -/
structure Oto (W W' : World) : Prop where
 os : W'.os = W.os
 tape : W'.tape = W.tape
 output : W'.output = W.output
theorem Oto.refl (W : World) : Oto W W := ⟨rfl, rfl, rfl⟩
theorem Oto.trans {W W' W'' : World} (h : Oto W W') (k : Oto W' W'') : Oto W W'' := ⟨k.os.trans h.os, k.tape.trans h.tape, k.output.trans h.output⟩
theorem Oto.grown {W W' W'' : World} {row : Option Nat} (h : Oto W W') (k : W'.grownBy W'' row) : Oto W W'' := ⟨k.os.trans h.os, k.tape.trans h.tape, k.output.trans h.output⟩
theorem Oto.below {W W' W'' : World} {B : Nat} (h : Oto W W') (k : Below B W' W'') : Oto W W'' := ⟨k.os.trans h.os, k.tape.trans h.tape, k.output.trans h.output⟩
theorem Oto.set {W W' : World} (h : Oto W W') (p : Addr) (u : Value) : Oto W (W'.setCell p u) := ⟨h.os, h.tape, h.output⟩
theorem FixU.below {B bw bs : Nat} {W W' : World} {D : Nat} (h : FixU B bw bs W W') (o : Oto W W') (h1 : D ≤ bw) (h2 : D ≤ bs) (h3 : D ≤ B) (h4 : D ≤ W.heap.size) : Below D W W' :=
 ⟨o.os, o.tape, o.output, h.size, fun k hk => h.block k (by omega) (by omega) (by omega) (.inl (by omega))⟩
theorem Fix.oto {bw bs : Nat} {W W' : World} (h : Fix bw bs W W') : Oto W W' := ⟨h.os, h.tape, h.output⟩
/-- One integer behind one's own, the slice stored in its box: what the step keeps. -/
structure Stp (B bw b3 : Nat) (W W3 : World) (v' : Value) (ys : List Int) : Prop where
 fx : FixU B bw b3 W W3
 kf : ∀ D, KeepsFrom D W W3
 bx : Blk W3 b3 39 #[v']
 own : OwnL icells 1 3 W3 B v' ys
 oto : Oto W W3
theorem app_step {B b3 : Nat} {W w2 : World} {v v' : Value} {xs : List Int} {x : Int} (bw : Nat) (hb : Blk W b3 39 #[v]) (ho : OwnL icells 1 3 W B v xs) (h3 : b3 < B)
  (h2 : OwnL icells 1 3 w2 B v' (xs ++ [x])) (hg : (W.alloc (.cells #[.int .i64 x] 3)).grownBy w2 v.ownBlock) : Stp B bw b3 W (w2.setCell ⟨b3, 0, none⟩ v') v' (xs ++ [x]) := by
 have hob : ∀ g, v.ownBlock = some g → B ≤ g ∧ g < W.heap.size ∧ ∃ cur, W.heap[g]? = some (.cells cur 3 (0, 0)) := fun g e => own_cells ho e
 have hne : v.ownBlock ≠ some b3 := fun e => by have := (hob b3 e).1; omega
 have hb2 : Blk w2 b3 39 #[v] := (hb.alloc _).grown hg hne
 refine ⟨⟨?_, fun k hk h1 h2' h3' => ?_⟩, fun D => ⟨?_, fun k o hD hk ho' => ?_⟩, by simpa using hb2.set_ 0 v', ?_, (((Oto.refl W).below (one_more W _)).grown hg).set _ _⟩
 ·have := hg.size; simp at this ⊢; omega
 ·refine (Below.heap_setCell _ _ _ _ (fun e => h2' (by rw [e]))).trans ?_
  refine (hg.block k (by simp; omega) (fun e => ?_)).trans (Below.heap_alloc _ _ _ hk)
  obtain ⟨e1, -, cur, e2⟩ := hob k e.symm
  rcases h3' with h3' | h3'
  ·omega
  ·exact h3' _ _ e2
 ·have := hg.size; simp at this ⊢; omega
 ·have hkl := (Array.getElem?_eq_some_iff.1 hk).1
  have hkb : k ≠ b3 := fun e => by
   subst e
   have : W.heap[k]? = some (.cells #[v] 39 (0, 0)) := hb
   rw [this] at hk; cases hk; cases ho'
  refine (Below.heap_setCell _ _ _ _ (fun e => hkb (by rw [e]))).trans ?_
  refine ((hg.block k (by simp; omega) (fun e => ?_)).trans (Below.heap_alloc _ _ _ hkl)).trans hk
  obtain ⟨-, -, cur, e2⟩ := hob k e.symm
  rw [e2] at hk; cases hk; cases ho'
 ·exact h2.far (p := ⟨b3, 0, none⟩) h3 _
theorem FixU.setCell {B bw bs : Nat} {W W' : World} (h : FixU B bw bs W W') {p : Addr} (hp : p.block = bw ∨ p.block = bs) (u : Value) : FixU B bw bs W (W'.setCell p u) :=
 ⟨by simpa using h.size, fun k hk h1 h2 h3 => (Below.heap_setCell _ _ _ _ (fun e => by rcases hp with hp | hp <;> omega)).trans (h.block k hk h1 h2 h3)⟩
theorem fromsG_len (ls : List Six) (st : List Rg) : ∀ (l : List (Nat × Int)) (b : Option Nat), (fromsG ls st b l).length ≤ l.length
 | [], _ => Nat.le_refl _
 | x :: l, b => by
  show ((if frOk ls st b x.1 = true then [x.2] else []) ++ fromsG ls st (some x.1) l).length ≤ _
  have := fromsG_len ls st l (some x.1)
  rw [List.length_append, List.length_cons]
  split
  ·rw [List.length_singleton]; omega
  ·rw [List.length_nil]; omega
/-- What 'before' holds. -/
def bvV (pre : List (Nat × Int)) : Int := match lastM pre with | none => -1 | some m => m
theorem bvV_snoc (pre : List (Nat × Int)) (x : Nat × Int) : bvV (pre ++ [x]) = x.1 := by unfold bvV; rw [lastM_snoc]
theorem lastM_mem {pre : List (Nat × Int)} {m : Nat} (h : lastM pre = some m) : ∃ y ∈ pre, y.1 = m := by
 unfold lastM at h
 obtain ⟨y, hy, rfl⟩ := Option.map_eq_some_iff.1 h
 exact ⟨y, List.mem_of_getLast? hy, rfl⟩
set_option maxRecDepth 100000 in
set_option maxHeartbeats 4000000 in
theorem froms_any (bf bs pb : Nat) (known : Int) (A : Option Addr) (n c : Nat) (ls : List Six) (st : List Rg) (w : World) (hf : Fd w bf bs (.pointer (some ⟨pb, 0, none⟩)) known A n c (n + 1) st) (ha : Arr scells 6 w A n ls) (hn : n ≤ 100)
  (hw : Wb ls) (hb : Bd st 10000000) :
  Calls Tryz.prog 75 #[.pointer (some ⟨bf, 0, none⟩)] w fun e w' => (∃ v, e = .returned v ∧ OwnL icells 1 3 w' w.heap.size v (fromsL ls st)) ∧ Below w.heap.size w w' := by
 have HF := Lib.hid hf
 have HA := Lib.hid ha
 have hlen := Lib.hid ha.1
 have HW := Lib.hid hw
 have HB := Lib.hid hb
 have hbf := hf.f.lt
 have hbs := hf.s.lt
 clear hf ha hw hb
 refine (callsIn_wide (n := 4)).1 (callsIn_of_wp_marks Tryz.func75 rfl trivial ?_ rfl)
 simp only [Tryz.ntmps75, List.size_toArray, List.length_cons, List.length_nil, Nat.reduceAdd, Nat.reduceSub, Array.replicate_succ, Array.replicate_zero, List.push_toArray, List.append_toArray, List.nil_append, List.cons_append]
 gi_wp2_with fail
 refine ⟨trivial, (callsIn_wide.2 (ends_any _ _)).mono ?_⟩
 rintro e w' ⟨rfl, hw'⟩
 have hb1 : Blk w' w.heap.size 134 #[.pointer (some ⟨bf, 0, none⟩)] := by rw [← hw']; exact (((Blk.new _ _ _).alloc _).alloc _).alloc _
 have hb3 : Blk w' (w.heap.size + 1) 39 #[.slice none 0 0] := by
  rw [← hw']; have := Blk.new (w.alloc (.cells #[.pointer (some ⟨bf, 0, none⟩)] 134)) 39 #[.slice none 0 0]; rw [World.size_alloc] at this; exact (this.alloc _).alloc _
 have hb4 : Blk w' (w.heap.size + 1 + 1) 3 #[.int .i64 (-1)] := by
  rw [← hw']; have := Blk.new ((w.alloc (.cells #[.pointer (some ⟨bf, 0, none⟩)] 134)).alloc (.cells #[.slice none 0 0] 39)) 3 #[.int .i64 (-1)]; simp only [World.size_alloc] at this; exact this.alloc _
 have hbQ : Blk w' (w.heap.size + 1 + 1 + 1) 134 #[.pointer (some ⟨bf, 0, none⟩)] := by
  rw [← hw']; have := Blk.new (((w.alloc (.cells #[.pointer (some ⟨bf, 0, none⟩)] 134)).alloc (.cells #[.slice none 0 0] 39)).alloc (.cells #[.int .i64 (-1)] 3)) 134 #[.pointer (some ⟨bf, 0, none⟩)]; simp only [World.size_alloc] at this; exact this
 have hsz : w'.heap.size = w.heap.size + 4 := by rw [← hw']; simp
 have hbel : Below w.heap.size w w' := by rw [← hw']; exact ((((Below.refl _ _).alloc (Nat.le_refl _) _).alloc (by simp) _).alloc (by simp; omega) _).alloc (by simp; omega) _
 rw [show (((w.alloc (.cells #[.pointer (some ⟨bf, 0, none⟩)] 134)).alloc (.cells #[.slice none 0 0] 39)).alloc (.cells #[.int .i64 (-1)] 3)).heap.size = w.heap.size + 1 + 1 + 1 by simp]
 clear hw'
 rename World => W0
 obtain ⟨b3, hb3e⟩ : ∃ b3, w.heap.size + 1 = b3 := ⟨_, rfl⟩
 rw [hb3e] at hb3 hb4 hbQ ⊢
 obtain ⟨b4, hb4e⟩ : ∃ b4, b3 + 1 = b4 := ⟨_, rfl⟩
 rw [hb4e] at hb4 hbQ ⊢
 gi_wp2_with fail
 have HA0 := HA.out.below hbel
 have hf0 := HF.out.ext hbel
 have hAd : ∀ b o, A = some ⟨b, o, none⟩ → 0 < n → b ≠ b4 ∧ b ≠ b3 ∧ b < W0.heap.size := fun b o e h0 => by
  obtain ⟨b', o', e', hlt, -⟩ := HA.out.2 h0
  rw [e] at e'; cases e'
  omega
 have HSQ := Lib.hid (ends_seq 3 (by omega) W0 W0.heap.size (b4 + 1) bf b4 b3 A n c ls (hbQ.cell 0) (hf0.f.cell 2) HA0 (by omega) ⟨by omega, by omega, by omega⟩ ⟨by omega, by omega, by omega⟩ (by omega) (by omega) hAd)
 have HBE := Lib.hid hbel
 have HF0 := Lib.hid hf0
 have HAD := Lib.hid hAd
 have HA1 := Lib.hid HA0
 clear hbel hf0 HA0 hbQ hAd
 refine wp_rangeO (α := Nat × Int) (n := 4) (by omega) (gf := 194) (lb := #[.pointer (some ⟨b4 + 1, 0, none⟩)]) rfl (enters_of Tryz.func194 (by kernel_rfl) rfl) HSQ.out (Below.refl _ _) (fun _ => rfl)
  (fun pre W => FixU W0.heap.size b4 b3 W0 W ∧ Blk W b4 3 #[.int .i64 (bvV pre)] ∧ (∃ v, Blk W b3 39 #[v] ∧ OwnL icells 1 3 W W0.heap.size v (fromsG ls st none pre)) ∧ (∀ y ∈ pre, y.1 ≤ n) ∧ Oto W0 W) (fun _ _ _ => False) ?hI ?hIx ?h0
  (fun x a' W => a' = { tmps := #[.pointer (some ⟨bf, 0, none⟩), .pointer (some ⟨w.heap.size, 0, none⟩), .slice none 0 0, .pointer (some ⟨b3, 0, none⟩), .pointer (some ⟨b4, 0, none⟩), .int .i64 x.1, .int .i64 x.2, .pointer (some ⟨bf, 0, none⟩), .func (.func 194) #[] #[.pointer (some ⟨b4 + 1, 0, none⟩)], .int .i64 x.1, .int .i64 x.2, undef, undef, undef, undef, undef, undef, undef, undef, undef, undef, undef, undef, undef, undef, undef, undef, undef, undef, undef, undef, undef, undef, undef, undef, undef, undef, undef, undef, undef, undef, undef, undef, undef, undef, undef, undef, undef, undef, undef, undef, undef], defers := [] }) ?hAx ?assign ?body ?done ?stop
 case hI =>
  rintro pre X Y row ⟨hfx, hbv, ⟨v, hbo, ho⟩, hpl, hto⟩ hg hr
  have hr1 : ∀ r, row = some r → ∃ o : Obj, X.heap[r]? = some o ∧ o.isCells = false := fun r e => (hr r e).2
  exact ⟨(FixU.own (α := Nat) (Nat.le_refl _)) [] _ _ _ hfx hg hr, hbv.own hg hr1, ⟨v, hbo.own hg hr1, ho.held hg hr1⟩, hpl, hto.grown hg⟩
 case hIx => exact fun _ _ _ _ _ hs _ _ => hs
 case h0 => exact ⟨FixU.refl _ _ _ _, hb4, ⟨_, hb3, OwnL.nil _ _⟩, fun y hy => (by cases hy), Oto.refl _⟩
 case hAx => exact fun _ _ _ _ _ _ h _ _ => h
 case assign =>
  rintro l pre x X K hI hK
  unfold encE
  gi_wp2
  exact hK _ _ (KeepsFrom.refl _ _) (FixU.refl _ _ _ _) hI rfl
 case body =>
  rintro l pre ⟨xm, xh⟩ a' X hl - ⟨hfx, hbv, ⟨v, hbo, ho⟩, hpl, hto⟩ rfl hlt hG
  have hXs := hfx.size
  have hxm : xm ≤ n := by
   rcases hG with e | ⟨i, hi, e⟩
   ·cases e; exact Nat.zero_le _
   ·cases e; have := hlen.out; omega
  have hpl' : ∀ y ∈ pre ++ [(xm, xh)], y.1 ≤ n := fun y hy => by
   rcases List.mem_append.1 hy with hy | hy
   ·exact hpl y hy
   ·rw [List.mem_singleton.1 hy]; exact hxm
  have hfX : Fd X bf bs (.pointer (some ⟨pb, 0, none⟩)) known A n c (n + 1) st := ⟨hfx.blk HF0.out.f (by omega) (by omega) (.inl (by omega)), hfx.blk HF0.out.s (by omega) (by omega) (.inl (by omega)), HF0.out.len, HF0.out.ne⟩
  have hAX : Arr scells 6 X A n ls := hfx.arr HA1.out HAD.out
  have q1 := hfx.cell (hb1.cell 0) (by omega) (by omega) (by omega)
  have f3 := hfX.f.cell 3
  have s0 : X.cell? ⟨bs, xm * 2, none⟩ = some (.int .i64 (Lo st xm)) := by rw [hfX.s.cell, (rvals_at (by rw [hfX.len]; omega)).1]
  have n0 := hbv.cell 0
  have n1 := hbv.frozen 0
  have o0 := hbo.cell 0
  have o1 := hbo.frozen 0
  have HV := Lib.hid (bvV_snoc pre (xm, xh))
  have HG2 := Lib.hid (fromsG_snoc ls st pre (xm, xh))
  have HFR := Lib.hid (show frOk ls st (lastM pre) xm = (decide (Lo st xm = 0) && (match lastM pre with | none => true | some b => sbS ls st b xm)) from rfl)
  obtain ⟨lo, hlo⟩ : ∃ lo, Lo st xm = lo := ⟨_, rfl⟩
  rw [hlo] at s0 HFR
  have hxi : (xm : Int) < (n : Int) + 1 := by omega
  have HTO := Lib.hid hto
  have HFX := Lib.hid hfx
  have HBV := Lib.hid hbv
  have HBO := Lib.hid hbo
  have HO := Lib.hid ho
  have HPL := Lib.hid hpl'
  have HPL0 := Lib.hid hpl
  have HFd := Lib.hid hfX
  have HAX := Lib.hid hAX
  have HAR := Lib.hid (fun b o e h0 => HAD.out b o e h0)
  have hlt2 := Lib.hid hlt
  clear hlo hto hfx hbv hbo ho hpl hpl' hfX hAX hG hlt
  by_cases hz : lo = 0
  case neg =>
   have e1 : (lo == 0) = false := by simpa using hz
   have HFR2 := Lib.hid (show frOk ls st (lastM pre) xm = false by rw [HFR.out, decide_eq_false hz]; rfl)
   gi_wp2
   case h_1.isFalse h5 h6 => cases h5
   case h_1.isTrue h5 h6 => cases h5
   case h_2 h5 =>
    clear h5
    refine ⟨trivial, ?_⟩
    gi_wp2
    refine ⟨(KeepsOthers.setCell _ _ _).from _, (FixU.refl _ _ _ _).setCell (p := ⟨b4, 0, none⟩) (.inl rfl) _, HFX.out.setCell (p := ⟨b4, 0, none⟩) (.inl rfl) _, ?_, ⟨v, HBO.out.far (by show b3 ≠ b4; omega) _, ?_⟩, HPL.out, HTO.out.set _ _⟩
    ·rw [HV.out]; exact HBV.out.set_ 0 _
    ·rw [HG2.out, HFR2.out]
     simp only [Bool.false_eq_true, if_false, List.append_nil]
     exact HO.out.far (p := ⟨b4, 0, none⟩) (by show b4 < _; omega) _
  case pos =>
   subst hz
   have hn43 : ¬ b4 = b3 := by omega
   have hn34 : ¬ b3 = b4 := by omega
   have HFL := Lib.hid (show (fromsG ls st none pre).length + 1 ≤ 1000000 by have := fromsG_len ls st pre none; have := hlt2.out; omega)
   have HOX := Lib.hid (HO.out.ext (one_more X (.cells #[.int .i64 xh] 3)))
   have HI1 := Lib.hid (one_int (Blk.new X 3 #[.int .i64 xh]))
   have FixTA := Lib.hid (fun (D : Nat) (V : World) (g : Below X.heap.size X V) => (⟨g.size, fun k o _ hk _ => (g.block k (Array.getElem?_eq_some_iff.1 hk).1).trans hk⟩ : KeepsFrom D X V))
   have HOB := Lib.hid (fun (k : Nat) (e : v.ownBlock = some k) => (own_cells HO.out e).1)
   cases hlm : lastM pre with
   | none =>
    have HFR2 := Lib.hid (show frOk ls st (lastM pre) xm = true by rw [HFR.out, hlm]; rfl)
    have hbe : bvV pre = -1 := by unfold bvV; rw [hlm]
    rw [hbe] at n0
    clear hlm hbe
    gi_wp2_with fail
    refine ⟨trivial, ?_⟩
    gi_wp2_with (first | (gi_at_builtin; go_loud (refine wpListIn_app kdI (by rfl) _ _ (by rfl) W0.heap.size v (fromsG ls st none pre) (by rfl) HOX.out _ 1 1 [xh] (by rfl) HI1.out HFL.out (by simp; omega) ?_); intro v' w2 ho2 hg2; obtain ⟨Av, cv, hve, -⟩ := OwnL.arr kdI ho2; obtain ⟨nv, hnv⟩ : ∃ nv, (fromsG ls st none pre ++ [xh]).length = nv := ⟨_, rfl⟩; rw [hnv] at hve; subst hve; clear hnv; have b9 := ((HBO.out.alloc (.cells #[.int .i64 xh] 3)).grown hg2 (fun e => by have := HOB.out _ e; omega)); have m0 := b9.cell 0; have m1 := b9.frozen 0; have b8 := ((HBV.out.alloc (.cells #[.int .i64 xh] 3)).grown hg2 (fun e => by have := HOB.out _ e; omega)); have m2 := b8.cell 0; have m3 := b8.frozen 0; have HB8 := Lib.hid b8; have HS := Lib.hid (app_step b4 HBO.out HO.out (by omega) ho2 hg2); clear ho2 hg2 b9 b8))
    refine ⟨(HS.out.kf _).trans ((KeepsOthers.setCell _ _ _).from _), (HS.out.fx).setCell (p := ⟨b4, 0, none⟩) (.inl rfl) _, (HFX.out.trans (HS.out.fx)).setCell (p := ⟨b4, 0, none⟩) (.inl rfl) _, ?_, ⟨_, HS.out.bx.far (by show b3 ≠ b4; omega) _, ?_⟩, HPL.out, (HTO.out.trans HS.out.oto).set _ _⟩
    ·rw [HV.out]; exact (HB8.out.far (by show b4 ≠ b3; omega) _).set_ 0 _
    ·rw [HG2.out, HFR2.out]
     exact HS.out.own.far (p := ⟨b4, 0, none⟩) (by show b4 < _; omega) _
   | some bm =>
    have hbe : bvV pre = (bm : Int) := by unfold bvV; rw [hlm]
    have hbm : bm ≤ n := by
     obtain ⟨y, hy, e⟩ := lastM_mem hlm
     have := HPL0.out y hy
     omega
    have HT := Lib.hid (stoodBefore_any bf bs pb known A n c ls st bm xm X HFd.out HAX.out hn HW.out HB.out hbm hxm)
    have HFR2 := Lib.hid (show frOk ls st (lastM pre) xm = sbS ls st bm xm by rw [HFR.out, hlm]; rfl)
    rw [hbe] at n0
    obtain ⟨sb, hsb⟩ : ∃ sb, sbS ls st bm xm = sb := ⟨_, rfl⟩
    rw [hsb] at HT HFR2
    clear hlm hbe hsb
    have hbm0 : ¬ (bm : Int) < 0 := by omega
    have hbmd : decide ((bm : Int) < 0) = false := decide_eq_false hbm0
    cases sb with
    | false =>
     gi_wp2_with (refine ⟨trivial, ?_⟩; gi_at_call 153; refine (CallsIn.inRound l (callsIn_wide.2 HT.out)).mono ?_; rintro e W7 ⟨rfl, g7⟩; have G7 := Lib.hid g7; have HBO7 := Lib.hid (HBO.out.ext g7); have HBV7 := Lib.hid (HBV.out.ext g7); have HO7 := Lib.hid (HO.out.ext g7); have HOX7 := Lib.hid ((HO.out.ext g7).ext (one_more W7 (.cells #[.int .i64 xh] 3))); have HI17 := Lib.hid (one_int (Blk.new W7 3 #[.int .i64 xh])); have c0 := HBO7.out.cell 0; have c1 := HBO7.out.frozen 0; have c2 := HBV7.out.cell 0; have c3 := HBV7.out.frozen 0; have c4 := g7.size; clear g7)
     refine ⟨(FixTA.out W0.heap.size W7 G7.out).trans ((KeepsOthers.setCell _ _ _).from _), (FixU.of_below G7.out).setCell (p := ⟨b4, 0, none⟩) (.inl rfl) _, (HFX.out.trans (FixU.of_below G7.out)).setCell (p := ⟨b4, 0, none⟩) (.inl rfl) _, ?_, ⟨_, HBO7.out.far (by show b3 ≠ b4; omega) _, ?_⟩, HPL.out, (HTO.out.below G7.out).set _ _⟩
     ·rw [HV.out]; exact HBV7.out.set_ 0 _
     ·rw [HG2.out, HFR2.out]
      simp only [Bool.false_eq_true, if_false, List.append_nil]
      exact HO7.out.far (p := ⟨b4, 0, none⟩) (by show b4 < _; omega) _
    | true =>
     gi_wp2_with (first | (refine ⟨trivial, ?_⟩; gi_at_call 153; refine (CallsIn.inRound l (callsIn_wide.2 HT.out)).mono ?_; rintro e W7 ⟨rfl, g7⟩; have G7 := Lib.hid g7; have HBO7 := Lib.hid (HBO.out.ext g7); have HBV7 := Lib.hid (HBV.out.ext g7); have HO7 := Lib.hid (HO.out.ext g7); have HOX7 := Lib.hid ((HO.out.ext g7).ext (one_more W7 (.cells #[.int .i64 xh] 3))); have HI17 := Lib.hid (one_int (Blk.new W7 3 #[.int .i64 xh])); have c0 := HBO7.out.cell 0; have c1 := HBO7.out.frozen 0; have c2 := HBV7.out.cell 0; have c3 := HBV7.out.frozen 0; have c4 := g7.size; clear g7) | (gi_at_builtin; go_loud (refine wpListIn_app kdI (by rfl) _ _ (by rfl) W0.heap.size v (fromsG ls st none pre) (by rfl) HOX7.out _ 1 1 [xh] (by rfl) HI17.out HFL.out (by simp; omega) ?_); intro v' w2 ho2 hg2; obtain ⟨Av, cv, hve, -⟩ := OwnL.arr kdI ho2; obtain ⟨nv, hnv⟩ : ∃ nv, (fromsG ls st none pre ++ [xh]).length = nv := ⟨_, rfl⟩; rw [hnv] at hve; subst hve; clear hnv; have b9 := ((HBO7.out.alloc (.cells #[.int .i64 xh] 3)).grown hg2 (fun e => by have := HOB.out _ e; omega)); have m0 := b9.cell 0; have m1 := b9.frozen 0; have b8 := ((HBV7.out.alloc (.cells #[.int .i64 xh] 3)).grown hg2 (fun e => by have := HOB.out _ e; omega)); have m2 := b8.cell 0; have m3 := b8.frozen 0; have HB8 := Lib.hid b8; have HS := Lib.hid (app_step b4 HBO7.out HO7.out (by omega) ho2 hg2); clear ho2 hg2 b9 b8))
     refine ⟨(FixTA.out W0.heap.size W7 G7.out).trans ((HS.out.kf _).trans ((KeepsOthers.setCell _ _ _).from _)), ((FixU.of_below G7.out).trans HS.out.fx).setCell (p := ⟨b4, 0, none⟩) (.inl rfl) _, (HFX.out.trans ((FixU.of_below G7.out).trans HS.out.fx)).setCell (p := ⟨b4, 0, none⟩) (.inl rfl) _, ?_, ⟨_, HS.out.bx.far (by show b3 ≠ b4; omega) _, ?_⟩, HPL.out, ((HTO.out.below G7.out).trans HS.out.oto).set _ _⟩
     ·rw [HV.out]; exact (HB8.out.far (by show b4 ≠ b3; omega) _).set_ 0 _
     ·rw [HG2.out, HFR2.out]
      exact HS.out.own.far (p := ⟨b4, 0, none⟩) (by show b4 < _; omega) _
 case done =>
  rintro D xs X hD hS ⟨hfx, hbv, ⟨v, hbo, ho⟩, hpl, hto⟩ hK
  have hXs := hfx.size
  have hfX : Fd X bf bs (.pointer (some ⟨pb, 0, none⟩)) known A n c (n + 1) st := ⟨hfx.blk HF0.out.f (by omega) (by omega) (.inl (by omega)), hfx.blk HF0.out.s (by omega) (by omega) (.inl (by omega)), HF0.out.len, HF0.out.ne⟩
  have q1 := hfx.cell (hb1.cell 0) (by omega) (by omega) (by omega)
  have f2 := hfX.f.cell 2
  have f3 := hfX.f.cell 3
  have s0 : X.cell? ⟨bs, n * 2 + 1, none⟩ = some (.int .i64 (Hi st n)) := by rw [hfX.s.cell, (rvals_at (by rw [hfX.len]; omega)).2]
  have o0 := hbo.cell 0
  have HFR := Lib.hid (show fromsL ls st = fromsG ls st none xs ++ (if 0 < Hi st n then [100000] else []) by rw [hS]; unfold fromsL; rw [hlen.out])
  obtain ⟨hi, hhi⟩ : ∃ hi, Hi st n = hi := ⟨_, rfl⟩
  rw [hhi] at s0 HFR
  have HFL := Lib.hid (show (fromsG ls st none xs).length + 1 ≤ 1000000 by
   have h1 := fromsG_len ls st xs none
   have h2 := endsOf_len ls (List.range ls.length)
   have h3 : xs.length ≤ ls.length + 1 := by rw [hS]; rw [List.length_range] at h2; exact h2
   have := hlen.out
   omega)
  have HBO := Lib.hid hbo
  have HO := Lib.hid ho
  have HK := Lib.hid hK
  have HFX := Lib.hid hfx
  have HTO := Lib.hid hto
  clear hbv hbo ho hfx hto hK hfX hhi hS hpl
  have hnn : (n : Int) < (n : Int) + 1 := by omega
  gi_wp2_with fail
  refine wpIn_region_quiet Open.wide (C := fun w' => ∃ n, w' = X.drewN n) (by kernel_rfl) (by kernel_rfl) (by kernel_rfl) ⟨1, rfl⟩ ?_
  repeat (go_big_quiet_step (fail))
  refine wpQuiet_nil ?_
  rintro _ ⟨d, rfl⟩
  have gd : Below X.heap.size X (X.drewN d) := ⟨rfl, rfl, rfl, Nat.le_refl _, fun _ _ => rfl⟩
  have HBO2 := Lib.hid (HBO.out.drewN d)
  have HO2 := Lib.hid (HO.out.ext gd)
  have HK2 := Lib.hid (show (X.drewN d).heap[D]? = some (.deferred (some [])) from HK.out)
  have HFX2 := Lib.hid (HFX.out.trans (FixU.of_below gd))
  have HTO2 := Lib.hid (HTO.out.below gd)
  have hVs : W0.heap.size ≤ (X.drewN d).heap.size := hXs
  clear q1 f2 f3 s0 o0 gd hXs
  generalize X.drewN d = V at HBO2 HO2 HK2 HFX2 HTO2 hVs ⊢
  have HOB := Lib.hid (fun (k : Nat) (e : v.ownBlock = some k) => (own_cells HO2.out e).1)
  have v0 := HBO2.out.cell 0
  have v1 := HBO2.out.frozen 0
  by_cases hp : 0 < hi
  ·have HFR2 := Lib.hid (show fromsL ls st = fromsG ls st none xs ++ [100000] by rw [HFR.out, if_pos hp])
   have HOX := Lib.hid (HO2.out.ext (one_more V (.cells #[.int .i64 100000] 3)))
   have HI1 := Lib.hid (one_int (Blk.new V 3 #[.int .i64 100000]))
   gi_wp2_with (first | (gi_at_builtin; go_loud (refine wpListIn_app kdI (by rfl) _ _ (by rfl) W0.heap.size v (fromsG ls st none xs) (by rfl) HOX.out _ 1 1 [100000] (by rfl) HI1.out HFL.out (by simp; omega) ?_); intro v' w2 ho2 hg2; obtain ⟨Av, cv, hve, -⟩ := OwnL.arr kdI ho2; obtain ⟨nv, hnv⟩ : ∃ nv, (fromsG ls st none xs ++ [100000]).length = nv := ⟨_, rfl⟩; rw [hnv] at hve; subst hve; clear hnv; have b9 := ((HBO2.out.alloc (.cells #[.int .i64 100000] 3)).grown hg2 (fun e => by have := HOB.out _ e; omega)); have m0 := b9.cell 0; have m1 := b9.frozen 0; have HS := Lib.hid (app_step b4 HBO2.out HO2.out (by omega) ho2 hg2); have HKK := Lib.hid ((HS.out.kf 0).same D _ (Nat.zero_le _) HK2.out rfl); clear ho2 hg2 b9))
   refine ⟨by simp, .inl ⟨_, _, rfl, run_takeDeferred HKK.out, ?_⟩⟩
   refine ⟨_, results_tmp rfl _ _ _, ⟨_, rfl, ?_⟩, HBE.out.trans ?_⟩
   ·rw [HFR2.out]
    exact (HS.out.own.held (grownBy_putObj' _ D _) (fun r e => by cases e; exact ⟨_, HKK.out, rfl⟩)).mono HBE.out.size
   ·refine ((HFX2.out.trans HS.out.fx).below (D := w.heap.size) (HTO2.out.trans HS.out.oto) (by omega) (by omega) (by omega) (by omega)).grown (grownBy_putObj' _ D _) ?_ (fun k hk => by cases hk; omega)
    have := (HFX2.out.trans HS.out.fx).size
    omega
  ·have HFR2 := Lib.hid (show fromsL ls st = fromsG ls st none xs by rw [HFR.out, if_neg hp, List.append_nil])
   gi_wp2_with fail
   refine ⟨by simp, .inl ⟨_, _, rfl, run_takeDeferred HK2.out, ?_⟩⟩
   refine ⟨_, results_tmp rfl _ _ _, ⟨_, rfl, ?_⟩, HBE.out.trans ?_⟩
   ·rw [HFR2.out]
    exact (HO2.out.held (grownBy_putObj' _ D _) (fun r e => by cases e; exact ⟨_, HK2.out, rfl⟩)).mono HBE.out.size
   ·exact (HFX2.out.below (D := w.heap.size) HTO2.out (by omega) (by omega) (by omega) (by omega)).grown (grownBy_putObj' _ D _) (by omega) (fun k hk => by cases hk; omega)
 case stop =>
  rintro D cd pre X _ _ h _
  exact h.elim
end Go.Proofs.YtkoejeghihcmlaaGreat
namespace Go.Proofs.YtkoejeghihcmlaaGreat
open Go.RowKit Go.Shelf
def minI (l : List Int) : Int := l.tail.foldl min (l.headD 0)
def maxI (l : List Int) : Int := l.tail.foldl max (l.headD 0)
theorem getD_int {l : List Int} {k : Nat} (hk : k < l.length) : l.getD k 0 = l[k] := by rw [List.getD_eq_getElem?_getD, List.getElem?_eq_getElem hk]; rfl
theorem minI_succ {l : List Int} {k : Nat} (h0 : 0 < k) (hk : k < l.length) : minI (l.take (k + 1)) = min (minI (l.take k)) (l.getD k 0) := by
 cases l with
 | nil => cases hk
 | cons x l =>
  obtain ⟨k, rfl⟩ : ∃ j, k = j + 1 := ⟨k - 1, by omega⟩
  have hk' : k < l.length := by simpa using hk
  unfold minI
  simp only [List.take_succ_cons, List.tail_cons, List.headD_cons]
  rw [List.take_succ_eq_append_getElem hk', List.foldl_append]
  rw [getD_int hk]
  rfl
theorem maxI_succ {l : List Int} {k : Nat} (h0 : 0 < k) (hk : k < l.length) : maxI (l.take (k + 1)) = max (maxI (l.take k)) (l.getD k 0) := by
 cases l with
 | nil => cases hk
 | cons x l =>
  obtain ⟨k, rfl⟩ : ∃ j, k = j + 1 := ⟨k - 1, by omega⟩
  have hk' : k < l.length := by simpa using hk
  unfold maxI
  simp only [List.take_succ_cons, List.tail_cons, List.headD_cons]
  rw [List.take_succ_eq_append_getElem hk', List.foldl_append]
  rw [getD_int hk]
  rfl
theorem minI_one {l : List Int} (h : 0 < l.length) : minI (l.take 1) = l.getD 0 0 := by
 cases l with
 | nil => cases h
 | cons x l => rfl
theorem maxI_one {l : List Int} (h : 0 < l.length) : maxI (l.take 1) = l.getD 0 0 := by
 cases l with
 | nil => cases h
 | cons x l => rfl
theorem min_any (A : Option Addr) (n c : Nat) (l : List Int) (w : World) (ha : Ints w A n l) (h0 : 0 < n) (hn : n ≤ 1000000) :
  Calls Tryz.prog 85 #[.slice A n c] w fun e w' => e = .returned (.int .i64 (minI l)) ∧ w = w' := by
 have HA := Lib.hid ha
 have hlen := Lib.hid ha.1
 clear ha
 obtain ⟨b, o, rfl, -, -, hc⟩ := ints_at HA.out h0
 have d0 := hc _ (Below.refl _ _)
 have H1 := Lib.hid (minI_one (l := l) (by rw [hlen.out]; exact h0))
 obtain ⟨y, hy⟩ : ∃ y, l.getD 0 0 = y := ⟨_, rfl⟩
 rw [hy] at d0 H1
 clear hc hy
 have hn1 : (1 : Int) ≤ (n : Int) := by omega
 have hn2 : decide ((n : Int) < 1) = false := decide_eq_false (by omega)
 rw [Nat.add_zero] at d0
 go_enter Tryz.func85, Tryz.ntmps85
 go_wp2_with fail
 go_loop [3, 4] (fun m i => ∃ k : Nat, 0 < k ∧ k ≤ n ∧ i = .int .i64 k ∧ m = .int .i64 (minI (l.take k))) (fun _ i => n - (intOf i).toNat)
 case atStart => exact ⟨1, by omega, by omega, rfl, by rw [H1.out]⟩
 case round =>
  obtain ⟨k, hk0, hk, rfl, rfl⟩ := hrel
  by_cases hkn : k < n
  ·obtain ⟨b', o', e', -, -, hc⟩ := ints_at HA.out hkn
   cases e'
   have d1 := hc _ (Below.refl _ _)
   have HS := Lib.hid (minI_succ hk0 (l := l) (by rw [hlen.out]; exact hkn))
   obtain ⟨y, hy⟩ : ∃ y, l.getD k 0 = y := ⟨_, rfl⟩
   obtain ⟨m, hm⟩ : ∃ m, minI (l.take k) = m := ⟨_, rfl⟩
   rw [hy] at d1 HS
   rw [hm] at HS ⊢
   clear hc hy hm
   go_wp2_with fail
   go_round
   case rel => exact ⟨k + 1, by omega, by omega, by go_num, by first | rw [HS.out, show (if y < m then y else m) = min m y by split <;> omega] | rw [HS.out]⟩
   case measure => simp [intOf]; omega
  ·obtain rfl : n = k := by omega
   have HT := Lib.hid (show l.take n = l from List.take_of_length_le (by rw [hlen.out]; exact Nat.le_refl _))
   rw [HT.out]
   go_wp2_with fail
   go_ret
   exact ⟨rfl, rfl⟩
theorem max_any (A : Option Addr) (n c : Nat) (l : List Int) (w : World) (ha : Ints w A n l) (h0 : 0 < n) (hn : n ≤ 1000000) :
  Calls Tryz.prog 86 #[.slice A n c] w fun e w' => e = .returned (.int .i64 (maxI l)) ∧ w = w' := by
 have HA := Lib.hid ha
 have hlen := Lib.hid ha.1
 clear ha
 obtain ⟨b, o, rfl, -, -, hc⟩ := ints_at HA.out h0
 have d0 := hc _ (Below.refl _ _)
 have H1 := Lib.hid (maxI_one (l := l) (by rw [hlen.out]; exact h0))
 obtain ⟨y, hy⟩ : ∃ y, l.getD 0 0 = y := ⟨_, rfl⟩
 rw [hy] at d0 H1
 clear hc hy
 have hn1 : (1 : Int) ≤ (n : Int) := by omega
 have hn2 : decide ((n : Int) < 1) = false := decide_eq_false (by omega)
 rw [Nat.add_zero] at d0
 go_enter Tryz.func86, Tryz.ntmps86
 go_wp2_with fail
 go_loop [3, 4] (fun m i => ∃ k : Nat, 0 < k ∧ k ≤ n ∧ i = .int .i64 k ∧ m = .int .i64 (maxI (l.take k))) (fun _ i => n - (intOf i).toNat)
 case atStart => exact ⟨1, by omega, by omega, rfl, by rw [H1.out]⟩
 case round =>
  obtain ⟨k, hk0, hk, rfl, rfl⟩ := hrel
  by_cases hkn : k < n
  ·obtain ⟨b', o', e', -, -, hc⟩ := ints_at HA.out hkn
   cases e'
   have d1 := hc _ (Below.refl _ _)
   have HS := Lib.hid (maxI_succ hk0 (l := l) (by rw [hlen.out]; exact hkn))
   obtain ⟨y, hy⟩ : ∃ y, l.getD k 0 = y := ⟨_, rfl⟩
   obtain ⟨m, hm⟩ : ∃ m, maxI (l.take k) = m := ⟨_, rfl⟩
   rw [hy] at d1 HS
   rw [hm] at HS ⊢
   clear hc hy hm
   go_wp2_with fail
   go_round
   case rel => exact ⟨k + 1, by omega, by omega, by go_num, by first | rw [HS.out, show (if m < y then y else m) = max m y by split <;> omega] | rw [HS.out]⟩
   case measure => simp [intOf]; omega
  ·obtain rfl : n = k := by omega
   have HT := Lib.hid (show l.take n = l from List.take_of_length_le (by rw [hlen.out]; exact Nat.le_refl _))
   rw [HT.out]
   go_wp2_with fail
   go_ret
   exact ⟨rfl, rfl⟩
/-- Whether one is among integers. -/
def hasI (l : List Int) (x : Int) : Bool := l.contains x
theorem hasI_true {l : List Int} {x : Int} (h : x ∈ l) : hasI l x = true := List.contains_iff_mem.2 h
theorem hasI_iff {l : List Int} {x : Int} : hasI l x = true ↔ x ∈ l := List.contains_iff_mem
theorem hasI_false {l : List Int} {x : Int} (h : ∀ j, j < l.length → l.getD j 0 ≠ x) : hasI l x = false := by
 rw [← Bool.not_eq_true, hasI_iff]
 intro hy
 obtain ⟨j, hj, hjx⟩ := List.getElem_of_mem hy
 have := h j hj
 rw [getD_int hj] at this
 exact this hjx
theorem index_any (A : Option Addr) (n c : Nat) (l : List Int) (x : Int) (w : World) (ha : Ints w A n l) (hn : n ≤ 1000000) :
  Calls Tryz.prog 184 #[.slice A n c, .int .i64 x] w fun e w' => (∃ i : Int, e = .returned (.int .i64 i) ∧ decide (0 ≤ i) = hasI l x) ∧ w = w' := by
 have HA := Lib.hid ha
 have hlen := Lib.hid ha.1
 clear ha
 go_enter Tryz.func184, Tryz.ntmps184
 go_wp2_with fail
 go_loop [8] (fun i => ∃ k : Nat, k ≤ n ∧ i = .int .i64 k ∧ ∀ j, j < k → l.getD j 0 ≠ x) (fun i => n - (intOf i).toNat)
 case atStart => exact ⟨0, Nat.zero_le _, rfl, fun j hj => absurd hj (by omega)⟩
 case round =>
  obtain ⟨k, hk, rfl, hno⟩ := hrel
  have HNO := Lib.hid hno
  clear hno
  by_cases hkn : k < n
  ·obtain ⟨b, o, rfl, -, hmem, hc⟩ := ints_at HA.out hkn
   have d0 := hc _ (Below.refl _ _)
   obtain ⟨y, hy⟩ : ∃ y, l.getD k 0 = y := ⟨_, rfl⟩
   rw [hy] at d0 hmem
   have HY := Lib.hid hy
   have HM := Lib.hid hmem
   clear hc hmem hy
   by_cases e : x = y
   ·subst e
    go_wp2_with fail
    go_ret
    exact ⟨⟨k, rfl, by rw [decide_eq_true (show (0 : Int) ≤ k by omega)]; exact (hasI_true (List.mem_of_getElem? HM.out)).symm⟩, rfl⟩
   ·have e1 : (x == y) = false := by simpa using e
    have E := Lib.hid e
    clear e
    go_wp2_with fail
    go_round
    case rel => exact ⟨k + 1, by omega, by go_num, fun j hj => by
     by_cases e : j = k
     ·subst e; rw [HY.out]; exact fun h => E.out h.symm
     ·exact HNO.out j (by omega)⟩
    case measure => simp [intOf]; omega
  ·obtain rfl : n = k := by omega
   go_wp2_with fail
   go_ret
   refine ⟨⟨-1, rfl, ?_⟩, rfl⟩
   rw [decide_eq_false (by omega)]
   exact (hasI_false fun j hj => HNO.out j (by rw [← hlen.out]; exact hj)).symm
theorem has_any (A : Option Addr) (n c : Nat) (l : List Int) (x : Int) (w : World) (ha : Ints w A n l) (hn : n ≤ 1000000) :
  Calls Tryz.prog 109 #[.slice A n c, .int .i64 x] w fun e w' => e = .returned (.bool (hasI l x)) ∧ w = w' := by
 have T := index_any A n c l x w ha hn
 generalize hasI l x = r at T ⊢
 go_enter Tryz.func109, Tryz.ntmps109
 go_wp2_with (go_at_call 184; (with_reducible refine T.mono ?_); rintro e w' ⟨⟨i, rfl, hi⟩, rfl⟩)
 go_ret
 exact ⟨rfl, rfl⟩
theorem refHas_any (A : Option Addr) (n c : Nat) (l : List Int) (x : Int) (w : World) (ha : Ints w A n l) (hn : n ≤ 1000000) :
  Calls Tryz.prog 47 #[.slice A n c, .int .i64 x] w fun e w' => e = .returned (.bool (hasI l x)) ∧ w = w' := by
 have HA := Lib.hid ha
 have hlen := Lib.hid ha.1
 clear ha
 go_enter Tryz.func47, Tryz.ntmps47
 go_wp2_with fail
 go_loop [5] (fun i => ∃ k : Nat, k ≤ n ∧ i = .int .i64 k ∧ ∀ j, j < k → l.getD j 0 ≠ x) (fun i => n - (intOf i).toNat)
 case atStart => exact ⟨0, Nat.zero_le _, rfl, fun j hj => absurd hj (by omega)⟩
 case round =>
  obtain ⟨k, hk, rfl, hno⟩ := hrel
  have HNO := Lib.hid hno
  clear hno
  by_cases hkn : k < n
  ·obtain ⟨b, o, rfl, -, hmem, hc⟩ := ints_at HA.out hkn
   have d0 := hc _ (Below.refl _ _)
   obtain ⟨y, hy⟩ : ∃ y, l.getD k 0 = y := ⟨_, rfl⟩
   rw [hy] at d0 hmem
   have HY := Lib.hid hy
   have HM := Lib.hid hmem
   clear hc hmem hy
   by_cases e : y = x
   ·subst e
    go_wp2_with fail
    go_ret
    exact ⟨by rw [hasI_true (List.mem_of_getElem? HM.out)]; rfl, rfl⟩
   ·have e1 : (y == x) = false := by simpa using e
    have E := Lib.hid e
    clear e
    go_wp2_with fail
    go_round
    case rel => exact ⟨k + 1, by omega, by go_num, fun j hj => by
     by_cases e : j = k
     ·subst e; rw [HY.out]; exact E.out
     ·exact HNO.out j (by omega)⟩
    case measure => simp [intOf]; omega
  ·obtain rfl : n = k := by omega
   have HC := Lib.hid (hasI_false (x := x) fun j hj => HNO.out j (by rw [← hlen.out]; exact hj))
   go_wp2_with fail
   go_ret
   exact ⟨by rw [HC.out]; rfl, rfl⟩
end Go.Proofs.YtkoejeghihcmlaaGreat
namespace Go.Proofs.YtkoejeghihcmlaaGreat
open Go.RowKit Go.Shelf
/-- All ends are those of numbers of sheaves. -/
def Ps (st : List Rg) : Prop := ∀ i, i < st.length → 0 ≤ Lo st i ∧ Hi st i ≤ 10000
theorem ps_nar {st : List Rg} (h : Ps st) (i : Nat) (r : Rg) : Ps (nar st i r) := by
 intro j hj
 rw [nar_len] at hj
 by_cases hi : i < st.length
 ·have := nar_le hi r j
  have := h j hj
  omega
 ·have : nar st i r = st := by unfold nar; exact List.set_eq_of_length_le (by omega)
  rw [this]; exact h j hj
theorem Ps.stands {known : Int} {meant : Int → Bool} {ls : List Six} : ∀ {l : List Six} {st : List Rg}, Ps st → Ps (standsF known meant ls l st)
 | [], _, h => h
 | x :: l, st, h => by
  unfold standsF
  rw [List.foldl_cons]
  refine Ps.stands (l := l) ?_
  split
  ·exact ps_nar h _ _
  ·exact h
theorem stood0_ps {p : Pl} (h : okPl p = true) (n : Nat) : Ps (stood0 p n) := by
 have h1 := ok_parts h
 intro i hi
 unfold stood0 at hi ⊢
 cases i with
 | zero => exact ⟨h1.2.2.1, h1.2.2.2.2.1⟩
 | succ i =>
  have hi' : i < n := by simpa using hi
  unfold Lo Hi
  rw [List.getD_cons_succ, List.getD_eq_getElem?_getD, List.getElem?_replicate, if_pos hi']
  exact ⟨Int.le_refl _, Int.le_refl _⟩
theorem look_len (p : Pl) (known : Int) (meant : Int → Bool) : (lookS p known meant).length = (lookL p known meant).length + 1 := by
 unfold lookS
 rw [settle_len, standsF_len, stood0_len]
theorem row_len (p : Pl) (known : Int) (meant : Int → Bool) (n : Nat) (ls l : List Six) : (standsF known meant ls l (stood0 p n)).length = n + 1 := by rw [standsF_len, stood0_len]
theorem look_wid {p : Pl} (h : okPl p = true) (known : Int) (meant : Int → Bool) : ∀ i, i < (lookL p known meant).length → 0 ≤ Ls (lookL p known meant) i ∧ Ls (lookL p known meant) i ≤ Gr (lookL p known meant) i := fun i hi => by
 have := lookL_num h known meant _ (getD_mem hi)
 unfold Num at this
 exact ⟨this.2.2.1, this.2.2.2.1⟩
theorem look_rw {p : Pl} (h : okPl p = true) {known : Int} {meant : Int → Bool} (hs : sound (lookS p known meant) = true) : Rw (lookL p known meant) (lookS p known meant) := by
 have hlen := look_len p known meant
 have hl0 := row_len p known meant (lookL p known meant).length (lookL p known meant) p.stands
 have hw := look_wid h known meant
 refine ⟨hlen, hw, ?_, ?_, ?_, ?_, srtH_up _⟩
 ·exact settle_arc hl0 (fun i hi => (hw i hi).2)
 ·exact fun i hi => sound_iff.1 hs i (by omega)
 ·intro i hi
  have h1 := (settle_le hl0 i).1
  have h2 := (Ps.stands (known := known) (meant := meant) (ls := lookL p known meant) (l := p.stands) (stood0_ps h (lookL p known meant).length)) i (by rw [hl0]; omega)
  exact Int.le_trans h2.1 h1
 ·intro x hx
  have := lookL_num h known meant _ hx
  exact ⟨this.1, this.2.1⟩
theorem look_hi {p : Pl} (h : okPl p = true) (known : Int) (meant : Int → Bool) {i : Nat} (hi : i ≤ (lookL p known meant).length) : Hi (lookS p known meant) i ≤ 10000 := by
 have hl0 := row_len p known meant (lookL p known meant).length (lookL p known meant) p.stands
 have h1 := (settle_le hl0 i).2
 have h2 := (Ps.stands (known := known) (meant := meant) (ls := lookL p known meant) (l := p.stands) (stood0_ps h (lookL p known meant).length)) i (by rw [hl0]; omega)
 exact Int.le_trans h1 h2.2
theorem look_bd {p : Pl} (h : okPl p = true) {known : Int} {meant : Int → Bool} (hs : sound (lookS p known meant) = true) : Bd (lookS p known meant) 10000000 := fun i hi => by
 have hr := look_rw h hs
 have hi' : i ≤ (lookL p known meant).length := by have := look_len p known meant; omega
 have h1 := hr.pos i hi'
 have h2 := hr.snd i hi'
 have h3 := look_hi h known meant hi'
 omega
theorem ask_parts {p : Pl} {hours : List Int} {known : Int} (h : askE p hours known = 0) : okPl p = true ∧ sound (lookS p known every) = true ∧ hours.any noHour = false ∧ noDay known = false := by
 unfold askE at h
 by_cases hf : firstE p hours [known] = 0
 ·rw [if_pos hf] at h
  have hok := first_ok hf
  have hs : sound (lookS p known every) = true := by
   cases hs : sound (lookS p known every) with
   | true => rfl
   | false => rw [hs] at h; cases h
  unfold firstE at hf
  rw [if_pos hok] at hf
  by_cases h1 : hours.any noHour = true
  ·rw [if_pos h1] at hf; cases hf
  ·rw [if_neg h1] at hf
   by_cases h2 : [known].any noDay = true
   ·rw [if_pos h2] at hf; cases hf
   ·refine ⟨hok, hs, by simpa using h1, ?_⟩
    simpa using h2
 ·rw [if_neg hf] at h; exact absurd h hf
end Go.Proofs.YtkoejeghihcmlaaGreat
namespace Go.Proofs.YtkoejeghihcmlaaGreat
open Go.RowKit Go.Shelf
/-- The hours from which a plot's field may be clear. -/
def fromsP (p : Pl) (known : Int) : List Int := fromsL (lookL p known every) (lookS p known every)
theorem fromsL_len (ls : List Six) (st : List Rg) : (fromsL ls st).length ≤ ls.length + 2 := by
 have h1 := fromsG_len ls st (endsL ls) none
 have h2 := endsOf_len ls (List.range ls.length)
 rw [List.length_range] at h2
 have h3 : (endsL ls).length ≤ ls.length + 1 := h2
 unfold fromsL
 rw [List.length_append]
 split
 ·rw [List.length_singleton]; omega
 ·rw [List.length_nil]; omega
/-- The contract of froms, of a sound plot. -/
theorem fromsP_any {p : Pl} {B : Nat} {W : World} {pb : Nat} {known : Int} {bf bs : Nat} {A : Option Addr} {n c : Nat} (h : askE p [0] known = 0 ∨ ∃ h, askE p [h] known = 0) (h19 : p.loads.length ≤ 60)
  (hl : Lk B W pb known (lookL p known every) (lookS p known every) bf bs A n c) :
  Calls Tryz.prog 75 #[.pointer (some ⟨bf, 0, none⟩)] W fun e w' => ∃ D c', e = .returned (.slice D (fromsP p known).length c') ∧ Ints w' D (fromsP p known).length (fromsP p known) ∧ Below W.heap.size W w' := by
 have hh : okPl p = true ∧ sound (lookS p known every) = true := by
  rcases h with h | ⟨_, h⟩
  ·exact ⟨(ask_parts h).1, (ask_parts h).2.1⟩
  ·exact ⟨(ask_parts h).1, (ask_parts h).2.1⟩
 have h1 := lookL_len h19 known every
 have h2 := hl.num
 refine (froms_any bf bs pb known A n c (lookL p known every) (lookS p known every) W hl.fd hl.ar (by omega) (wb_of (lookL_num hh.1 known every)) (look_bd hh.1 hh.2)).mono ?_
 rintro e w' ⟨⟨v, rfl, ho⟩, hg⟩
 obtain ⟨D, c', rfl, -, -, ha, -⟩ := OwnL.arr kdI ho
 exact ⟨D, c', rfl, ha, hg⟩
def firstR (p : Pl) (known : Int) : Rg := if askE p [0] known = 0 then ⟨minI (fromsP p known), maxI (fromsP p known)⟩ else zR
theorem fromsP_ne {p : Pl} {known h : Int} (ha : askE p [h] known = 0) : fromsP p known ≠ [] := (look_rw (ask_parts ha).1 (ask_parts ha).2.1).froms_ne
set_option maxRecDepth 100000 in
set_option maxHeartbeats 4000000 in
theorem first'_any (p : Pl) (A1 A2 A3 : Option Addr) (n1 c1 n2 c2 n3 c3 : Nat) (known : Int) (w : World) (hp : Pa w p A1 A2 A3 n1 c1 n2 c2 n3 c3) (h19 : p.loads.length ≤ 60) :
  Calls Tryz.prog 23 #[plv p A1 A2 A3 n1 c1 n2 c2 n3 c3, .int .i64 known] w fun e w' => e = .returned (.tuple #[rv (firstR p known), .int .i64 (askE p [0] known)]) ∧ Below w.heap.size w w' := by
 obtain ⟨W2, hW2⟩ : ∃ W2, (w.alloc (.cells (plb p A1 A2 A3 n1 c1 n2 c2 n3 c3) 38)).alloc (.cells #[.int .i64 0, .int .i64 0] 33) = W2 := ⟨_, rfl⟩
 have g2 : Below w.heap.size w W2 := by rw [← hW2]; exact two_more _ _ _
 have b1 : Blk W2 w.heap.size 38 (plb p A1 A2 A3 n1 c1 n2 c2 n3 c3) := by rw [← hW2]; exact (Blk.new _ _ _).alloc _
 have b2 : Blk W2 (w.heap.size + 1) 33 #[.int .i64 0, .int .i64 0] := by
  rw [← hW2]
  have := Blk.new (w.alloc (.cells (plb p A1 A2 A3 n1 c1 n2 c2 n3 c3) 38)) 33 #[.int .i64 0, .int .i64 0]
  rw [World.size_alloc] at this
  exact this
 have T := Lib.hid (asked_any p A1 A2 A3 n1 c1 n2 c2 n3 c3 w.heap.size 0 known W2 b1 (hp.below g2) h19)
 have H19 := Lib.hid h19
 have G2 := Lib.hid g2
 have B2 := Lib.hid b2
 have hz2 := g2.size
 have HR := Lib.hid (show firstR p known = if askE p [0] known = 0 then ⟨minI (fromsP p known), maxI (fromsP p known)⟩ else zR from rfl)
 obtain ⟨rr, hrr⟩ : ∃ rr, firstR p known = rr := ⟨_, rfl⟩
 rw [hrr] at HR ⊢
 clear hrr hp g2 b1 h19
 by_cases he : askE p [0] known = 0
 ·have HA := Lib.hid he
  have HNE := Lib.hid (List.length_pos_iff.2 (fromsP_ne he))
  have HLE := Lib.hid (show (fromsP p known).length ≤ 1000 by have := fromsL_len (lookL p known every) (lookS p known every); have := lookL_len H19.out known every; unfold fromsP; omega)
  have HR2 := Lib.hid (show rr = ⟨minI (fromsP p known), maxI (fromsP p known)⟩ by rw [HR.out, if_pos he])
  rw [he] at T ⊢
  clear he b2
  go_enter Tryz.func23, Tryz.ntmps23
  go_upto_region 1 with fail
  go_wp2_with (first
   | (go_at_call 74; (with_reducible refine (T.out).mono ?_); rintro e W3 ⟨r, rfl, hg, hl⟩; obtain ⟨bf, bs, A, n, c, rfl, hl2⟩ := hl (by trivial); have G3 := Lib.hid hg; have HL := Lib.hid hl2; clear hg hl hl2)
   | (go_at_call 75; (with_reducible refine (fromsP_any (.inl HA.out) H19.out HL.out).mono ?_); rintro e W4 ⟨D, c', rfl, hi, hg⟩; have G4 := Lib.hid hg; have HI := Lib.hid hi; clear hg hi)
   | (go_at_call 85; (with_reducible refine (min_any _ _ _ _ _ HI.out HNE.out (Nat.le_trans HLE.out (by decide))).mono ?_); rintro e W5 ⟨rfl, rfl⟩)
   | (go_at_call 86; (with_reducible refine (max_any _ _ _ _ _ HI.out HNE.out (Nat.le_trans HLE.out (by decide))).mono ?_); rintro e W5 ⟨rfl, rfl⟩; have hb4 := (B2.out.ext G3.out).ext G4.out; have q0 := hb4.cell 0; have q1 := hb4.cell 1; have q2 := hb4.frozen 0; have q3 := hb4.frozen 1; clear hb4))
  have hb9 := (((B2.out.ext G3.out).ext G4.out).set_ 0 (.int .i64 (minI (fromsP p known)))).set_ 1 (.int .i64 (maxI (fromsP p known)))
  have r0 := hb9.cell 0
  have r1 := hb9.cell 1
  have GG := Lib.hid (((G2.out.trans ((G3.out.trans (G4.out.mono G3.out.size)).mono G2.out.size)).setCell (p := ⟨w.heap.size + 1, 0, none⟩) (Nat.le_succ _) (.int .i64 (minI (fromsP p known)))).setCell (p := ⟨w.heap.size + 1, 1, none⟩) (Nat.le_succ _) (.int .i64 (maxI (fromsP p known))))
  clear hb9
  refine bodyPost_ret (v := .tuple #[rv rr, .int .i64 0]) ?_ rfl ⟨rfl, GG.out⟩
  rw [HR2.out]
  simp [results, Tryz.results23, go_sem, r0, r1]
 ·have HR2 := Lib.hid (show rr = zR by rw [HR.out, if_neg he])
  obtain ⟨ae, hae⟩ : ∃ ae, askE p [0] known = ae := ⟨_, rfl⟩
  rw [hae] at T he ⊢
  clear hae b2
  have hne : (ae != 0) = true := by simpa using he
  go_enter Tryz.func23, Tryz.ntmps23
  go_upto_region 3 with (go_at_call 74; (with_reducible refine (T.out).mono ?_); rintro e W3 ⟨r, rfl, hg, hl⟩; have G3 := Lib.hid hg; clear hg hl)
  have hb3 := B2.out.ext G3.out
  have q0 := hb3.cell 0
  have q1 := hb3.cell 1
  have q2 := hb3.frozen 0
  have q3 := hb3.frozen 1
  have hb9 := (hb3.set_ 0 (.int .i64 0)).set_ 1 (.int .i64 0)
  have r0 := hb9.cell 0
  have r1 := hb9.cell 1
  have GG := Lib.hid (((G2.out.trans (G3.out.mono G2.out.size)).setCell (p := ⟨w.heap.size + 1, 0, none⟩) (Nat.le_succ _) (.int .i64 0)).setCell (p := ⟨w.heap.size + 1, 1, none⟩) (Nat.le_succ _) (.int .i64 0))
  clear hb3 hb9
  go_wp2_with fail
  refine bodyPost_ret (v := .tuple #[rv rr, .int .i64 ae]) ?_ rfl ⟨rfl, GG.out⟩
  rw [HR2.out]
  simp [results, Tryz.results23, go_sem, r0, r1]
  exact ⟨rfl, rfl⟩
/-- Whether a field is open, as an answer. -/
def openA (p : Pl) (hour known : Int) : Int := if askE p [hour] known = 0 then ans ((fromsP p known).any (openB p known hour)) ((fromsP p known).any fun f => !openB p known hour f) else 0
theorem any_take_succ {l : List Int} {k : Nat} (q : Int → Bool) (hk : k < l.length) : (l.take (k + 1)).any q = ((l.take k).any q || q (l.getD k 0)) := by
 rw [List.take_succ_eq_append_getElem hk, List.any_append, getD_int hk]
 simp
set_option maxRecDepth 100000 in
set_option maxHeartbeats 4000000 in
theorem openP_any (p : Pl) (A1 A2 A3 : Option Addr) (n1 c1 n2 c2 n3 c3 : Nat) (hour known : Int) (w : World) (hp : Pa w p A1 A2 A3 n1 c1 n2 c2 n3 c3) (h19 : p.loads.length ≤ 60) :
  Calls Tryz.prog 18 #[plv p A1 A2 A3 n1 c1 n2 c2 n3 c3, .int .i64 hour, .int .i64 known] w fun e w' => e = .returned (.tuple #[.int .i64 (openA p hour known), .int .i64 (askE p [hour] known)]) ∧ Below w.heap.size w w' := by
 obtain ⟨W2, hW2⟩ : ∃ W2, w.alloc (.cells (plb p A1 A2 A3 n1 c1 n2 c2 n3 c3) 38) = W2 := ⟨_, rfl⟩
 have g2 : Below w.heap.size w W2 := by rw [← hW2]; exact one_more _ _
 have b1 : Blk W2 w.heap.size 38 (plb p A1 A2 A3 n1 c1 n2 c2 n3 c3) := by rw [← hW2]; exact Blk.new _ _ _
 have T := Lib.hid (asked_any p A1 A2 A3 n1 c1 n2 c2 n3 c3 w.heap.size hour known W2 b1 (hp.below g2) h19)
 have H19 := Lib.hid h19
 have G2 := Lib.hid g2
 have HB1 := Lib.hid b1
 have HPA := Lib.hid (hp.below g2)
 have HR := Lib.hid (show openA p hour known = if askE p [hour] known = 0 then ans ((fromsP p known).any (openB p known hour)) ((fromsP p known).any fun f => !openB p known hour f) else 0 from rfl)
 obtain ⟨rr, hrr⟩ : ∃ rr, openA p hour known = rr := ⟨_, rfl⟩
 rw [hrr] at HR ⊢
 clear hrr hp g2 b1 h19
 by_cases he : askE p [hour] known = 0
 ·have HA := Lib.hid he
  have hpart := ask_parts he
  have HOK := Lib.hid hpart.1
  have hh0 : 0 ≤ hour := by
   have h := hpart.2.2.1
   unfold noHour rng at h
   simp at h
   omega
  have HFB := Lib.hid (fun f (hf : f ∈ fromsP p known) => mem_fromsL_bd (fun x hx => (look_rw hpart.1 hpart.2.1).hrs x hx) hf)
  have HLE := Lib.hid (show (fromsP p known).length ≤ 1000 by have := fromsL_len (lookL p known every) (lookS p known every); have := lookL_len H19.out known every; unfold fromsP; omega)
  have HR2 := Lib.hid (show rr = ans ((fromsP p known).any (openB p known hour)) ((fromsP p known).any fun f => !openB p known hour f) by rw [HR.out, if_pos he])
  rw [he] at T ⊢
  clear he hpart
  go_enter Tryz.func18, Tryz.ntmps18
  go_upto_region 1 with fail
  go_upto_region 5 with (go_at_call 74; (with_reducible refine (T.out).mono ?_); rintro e W3 ⟨r, rfl, hg, hl⟩; obtain ⟨bf, bs, A, n, c, rfl, hl2⟩ := hl (by trivial); have G3 := Lib.hid hg; have HL := Lib.hid hl2; clear hg hl hl2)
  go_wp2_with (go_at_call 75; (with_reducible refine (fromsP_any (.inr ⟨hour, HA.out⟩) H19.out HL.out).mono ?_); rintro e W4 ⟨D, c', rfl, hi, hg⟩; have G4 := Lib.hid hg; have HI := Lib.hid hi; clear hg hi)
  have HP4 := Lib.hid ((HB1.out.ext G3.out).ext G4.out)
  have HPA4 := Lib.hid ((HPA.out.below G3.out).below G4.out)
  have F0 := Lib.hid ((HL.out.fd.f.ext G4.out).cell 0)
  have F1 := Lib.hid ((HL.out.fd.f.ext G4.out).cell 1)
  obtain ⟨l, hl⟩ : ∃ l, fromsP p known = l := ⟨_, rfl⟩
  rw [hl] at HFB HLE HR2 HI ⊢
  obtain ⟨m, hm⟩ : ∃ m, l.length = m := ⟨_, rfl⟩
  rw [hm] at HI HLE ⊢
  have HM := Lib.hid hm
  have hmle : m ≤ 1000 := HLE.out
  clear hl hm
  go_loopw [10, 11, 27] (fun may no i wr => ∃ k : Nat, k ≤ m ∧ i = .int .i64 k ∧ may = .bool ((l.take k).any (openB p known hour)) ∧ no = .bool ((l.take k).any fun f => !openB p known hour f) ∧ Below W4.heap.size W4 wr) (fun _ _ i _ => m - (intOf i).toNat)
  case atStart => exact ⟨0, Nat.zero_le _, rfl, rfl, rfl, Below.refl _ _⟩
  case round =>
   obtain ⟨k, hk, rfl, rfl, rfl, hg⟩ := hrel
   have HG := Lib.hid hg
   by_cases hkm : k < m
   ·obtain ⟨b', o', e', -, hmem, hc⟩ := ints_at (HI.out.below hg) hkm
    subst e'
    have d1 := hc _ (Below.refl _ _)
    have hS1 := any_take_succ (openB p known hour) (l := l) (k := k) (by rw [HM.out]; exact hkm)
    have hS2 := any_take_succ (fun f => !openB p known hour f) (l := l) (k := k) (by rw [HM.out]; exact hkm)
    have hfb := HFB.out _ (List.mem_of_getElem? hmem)
    obtain ⟨y, hy⟩ : ∃ y, l.getD k 0 = y := ⟨_, rfl⟩
    rw [hy] at d1 hS1 hS2 hfb
    have T76 := Lib.hid (fun W (g : Below W4.heap.size W4 W) => open_any p A1 A2 A3 n1 c1 n2 c2 n3 c3 w.heap.size bf known hour y W (HP4.out.ext g) (HPA4.out.below g) HOK.out ((g.cell (p := ⟨bf, 0, none⟩) (World.block_lt_of_cell? W4 _ F0.out)).trans F0.out) ((g.cell (p := ⟨bf, 1, none⟩) (World.block_lt_of_cell? W4 _ F1.out)).trans F1.out) hh0 hfb.1 hfb.2)
    obtain ⟨a, ha⟩ : ∃ a, (l.take k).any (openB p known hour) = a := ⟨_, rfl⟩
    obtain ⟨b, hb⟩ : ∃ b, ((l.take k).any fun f => !openB p known hour f) = b := ⟨_, rfl⟩
    obtain ⟨q, hq⟩ : ∃ q, openB p known hour y = q := ⟨_, rfl⟩
    rw [hq] at T76 hS1 hS2
    rw [ha] at hS1 ⊢
    rw [hb] at hS2 ⊢
    have HS1 := Lib.hid hS1
    have HS2 := Lib.hid hS2
    clear hc hy ha hb hq hS1 hS2 hg hmem hfb
    cases a <;> cases b <;> cases q
    all_goals
     go_wp2_with (go_at_call 76; (with_reducible refine (T76.out _ HG.out).mono ?_); rintro e W5 ⟨rfl, hg⟩; have G5 := Lib.hid hg; clear hg)
     go_roundw
     case rel => exact ⟨k + 1, by omega, by go_num, by rw [HS1.out]; rfl, by rw [HS2.out]; rfl, HG.out.trans (G5.out.mono HG.out.size)⟩
     case measure => simp [intOf]; omega
   ·obtain rfl : m = k := by omega
    have HT := Lib.hid (show l.take m = l from List.take_of_length_le (by rw [HM.out]; exact Nat.le_refl _))
    rw [HT.out]
    have HAN := Lib.hid (fun W => answer_any (l.any (openB p known hour)) (l.any fun f => !openB p known hour f) W)
    obtain ⟨a, ha⟩ : ∃ a, l.any (openB p known hour) = a := ⟨_, rfl⟩
    obtain ⟨b, hb⟩ : ∃ b, (l.any fun f => !openB p known hour f) = b := ⟨_, rfl⟩
    rw [ha, hb] at HAN HR2 ⊢
    clear ha hb hg
    go_wp2_with (go_at_call 77; (refine (HAN.out _).mono ?_); rintro e W10 ⟨rfl, rfl⟩)
    go_ret2
    exact ⟨by rw [HR2.out]; rfl, G2.out.trans ((G3.out.trans ((G4.out.trans (HG.out.mono G4.out.size)).mono G3.out.size)).mono G2.out.size)⟩
 ·have HR2 := Lib.hid (show rr = 0 by rw [HR.out, if_neg he])
  obtain ⟨ae, hae⟩ : ∃ ae, askE p [hour] known = ae := ⟨_, rfl⟩
  rw [hae] at T he ⊢
  clear hae
  have hne : (ae != 0) = true := by simpa using he
  go_enter Tryz.func18, Tryz.ntmps18
  go_wp2_with (go_at_call 74; (with_reducible refine (T.out).mono ?_); rintro e W3 ⟨r, rfl, hg, hl⟩; have G3 := Lib.hid hg; clear hg hl)
  go_ret2
  exact ⟨by rw [HR2.out]; rfl, G2.out.trans (G3.out.mono G2.out.size)⟩
end Go.Proofs.YtkoejeghihcmlaaGreat
namespace Go.Proofs.YtkoejeghihcmlaaGreat
open Go.RowKit Go.Shelf
theorem no_hours (p : Pl) (known : Int) : firstE p [] [known] = 0 → okPl p = true ∧ noDay known = false := by
 intro h
 refine ⟨first_ok h, ?_⟩
 unfold firstE at h
 rw [if_pos (first_ok h)] at h
 simp at h
 simpa using h
def shutV (p : Pl) (hour known : Int) : Bool := if firstE p [hour] [known] = 0 then shutB p known hour else false
theorem hour_pos {p : Pl} {hour : Int} {days : List Int} (h : firstE p [hour] days = 0) : 0 ≤ hour ∧ hour ≤ 99999 := by
 have hok := first_ok h
 unfold firstE at h
 rw [if_pos hok] at h
 by_cases h1 : [hour].any noHour = true
 ·rw [if_pos h1] at h; cases h
 ·unfold noHour rng at h1
  simp at h1
  omega
set_option maxRecDepth 100000 in
set_option maxHeartbeats 4000000 in
theorem shutP_any (p : Pl) (A1 A2 A3 : Option Addr) (n1 c1 n2 c2 n3 c3 : Nat) (hour known : Int) (w : World) (hp : Pa w p A1 A2 A3 n1 c1 n2 c2 n3 c3) (h19 : p.loads.length ≤ 60) :
  Calls Tryz.prog 20 #[plv p A1 A2 A3 n1 c1 n2 c2 n3 c3, .int .i64 hour, .int .i64 known] w fun e w' => e = .returned (.tuple #[.bool (shutV p hour known), .int .i64 (firstE p [hour] [known])]) ∧ Below w.heap.size w w' := by
 obtain ⟨W1, hW1⟩ : ∃ W1, w.alloc (.cells (plb p A1 A2 A3 n1 c1 n2 c2 n3 c3) 38) = W1 := ⟨_, rfl⟩
 have g1 : Below w.heap.size w W1 := by rw [← hW1]; exact one_more _ _
 have b1 : Blk W1 w.heap.size 38 (plb p A1 A2 A3 n1 c1 n2 c2 n3 c3) := by rw [← hW1]; exact Blk.new _ _ _
 have p0 := b1.cell 0
 have p1 := b1.cell 1
 have p2 := b1.cell 2
 have p3 := b1.cell 3
 have p4 := b1.cell 4
 have p5 := b1.cell 5
 have HPA := Lib.hid (hp.below g1)
 have HB := Lib.hid b1
 have G1 := Lib.hid g1
 have H19 := Lib.hid h19
 obtain ⟨W2, hW2⟩ : ∃ W2, (W1.alloc (.cells #[.int .i64 hour] 3)).alloc (.cells #[.int .i64 known] 3) = W2 := ⟨_, rfl⟩
 have g2 : Below W1.heap.size W1 W2 := by rw [← hW2]; exact two_more _ _ _
 have i1 : Ints W2 (some ⟨W1.heap.size, 0, none⟩) 1 [hour] := by rw [← hW2]; exact one_int ((Blk.new _ _ _).alloc _)
 have i2 : Ints W2 (some ⟨W1.heap.size + 1, 0, none⟩) 1 [known] := by
  rw [← hW2]
  have := Blk.new (W1.alloc (.cells #[.int .i64 hour] 3)) 3 #[.int .i64 known]
  rw [World.size_alloc] at this
  exact one_int this
 have T := Lib.hid (first_any p A1 A2 A3 n1 c1 n2 c2 n3 c3 _ _ 1 1 1 1 [hour] [known] W2 (HPA.out.below g2) i1 i2 (by decide) (by decide))
 have HG := Lib.hid g2
 have HR := Lib.hid (show shutV p hour known = if firstE p [hour] [known] = 0 then shutB p known hour else false from rfl)
 have HN := Lib.hid (fun h => first_ok (p := p) (hours := [hour]) (days := [known]) h)
 have HH := Lib.hid (fun h => hour_pos (p := p) (hour := hour) (days := [known]) h)
 obtain ⟨rr, hrr⟩ : ∃ rr, shutV p hour known = rr := ⟨_, rfl⟩
 rw [hrr] at HR ⊢
 obtain ⟨fe, hfe⟩ : ∃ fe, firstE p [hour] [known] = fe := ⟨_, rfl⟩
 rw [hfe] at HR HN HH T ⊢
 have HW1 := Lib.hid hW1
 have HW2 := Lib.hid hW2
 clear hrr hfe hp g1 b1 h19 hW1 hW2 g2 i1 i2
 by_cases he : fe = 0
 ·subst he
  have HR2 := Lib.hid (show rr = shutB p known hour from HR.out)
  have HOK := Lib.hid (HN.out rfl)
  have T2 := Lib.hid (fun W (g : Below W1.heap.size W1 W) => look_lk p A1 A2 A3 n1 c1 n2 c2 n3 c3 w.heap.size known every .nilFunc W (HB.out.ext g) (HPA.out.below g) HOK.out H19.out (sm_nil W))
  have T3 := Lib.hid (fun W bf f0 f1 (g : Below W1.heap.size W1 W) => shut_any p A1 A2 A3 n1 c1 n2 c2 n3 c3 w.heap.size bf known hour W (HB.out.ext g) (HPA.out.below g) HOK.out f0 f1 (HH.out rfl).1)
  clear HR
  go_enter Tryz.func20, Tryz.ntmps20
  go_upto_region 1 with fail
  rw [HW1.out]
  go_wp2_with (first
   | (go_at_call 80; (try rw [HW2.out]); (with_reducible refine (T.out).mono ?_); rintro e W3 ⟨rfl, hg⟩; have G3 := Lib.hid (HG.out.trans (hg.mono HG.out.size)); clear hg)
   | (go_at_call 81; (with_reducible refine (T2.out _ G3.out).mono ?_); rintro e W4 ⟨bf, bs, A, n, c, rfl, hg, hl⟩; have G4 := Lib.hid (G3.out.trans (hg.mono G3.out.size)); have HL := Lib.hid hl; clear hg hl)
   | (go_at_call 82; (with_reducible refine (T3.out _ _ (HL.out.fd.f.cell 0) (HL.out.fd.f.cell 1) G4.out).mono ?_); rintro e W5 ⟨rfl, hg⟩; have G5 := Lib.hid hg; clear hg))
  go_ret2
  exact ⟨by rw [HR2.out]; rfl, G1.out.trans ((G4.out.trans (G5.out.mono G4.out.size)).mono G1.out.size)⟩
 ·have HR2 := Lib.hid (show rr = false by rw [HR.out, if_neg he])
  have hne : (fe != 0) = true := by simpa using he
  clear HR
  go_enter Tryz.func20, Tryz.ntmps20
  go_upto_region 1 with fail
  rw [HW1.out]
  go_wp2_with (go_at_call 80; (try rw [HW2.out]); (with_reducible refine (T.out).mono ?_); rintro e W3 ⟨rfl, hg⟩; have G3 := Lib.hid (HG.out.trans (hg.mono HG.out.size)); clear hg)
  go_ret2
  exact ⟨by rw [HR2.out]; rfl, G1.out.trans (G3.out.mono G1.out.size)⟩
end Go.Proofs.YtkoejeghihcmlaaGreat
