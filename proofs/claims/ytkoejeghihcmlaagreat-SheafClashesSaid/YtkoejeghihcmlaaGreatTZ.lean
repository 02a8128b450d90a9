/- Plain: which loads and stands contradict each other. -/
import Derived.Test.YtkoejeghihcmlaaGreatTY
import Derived.Test.YtkoejeghihcmlaaGreatMF
namespace Go.Proofs.YtkoejeghihcmlaaGreat
open Go.RowKit Go.Shelf

theorem insH_map {f : Six → Six} (hf : ∀ x, (f x).b = x.b) (x : Six) : ∀ l : List Six, insH (f x) (l.map f) = (insH x l).map f
  | [] => rfl
  | y :: l => by
    rw [List.map_cons]
    unfold insH
    rw [hf, hf]
    split
    · rfl
    · rw [insH_map hf x l]; rfl
theorem srtH_map {f : Six → Six} (hf : ∀ x, (f x).b = x.b) (l : List Six) : srtH (l.map f) = (srtH l).map f := by
  have key : ∀ (l out : List Six), (l.map f).foldl (fun out x => insH x out) (out.map f) = (l.foldl (fun out x => insH x out) out).map f := by
    intro l
    induction l with
    | nil => intro out; rfl
    | cons x l ih => intro out; rw [List.map_cons, List.foldl_cons, List.foldl_cons, insH_map hf]; exact ih _
  exact key l []
/-- The loads that count, as they are carted. -/
def cartL (p : Pl) (known : Int) : List Six := srtH (p.loads.filter fun x => cnt x known)
theorem veil_b (m : Int → Bool) (x : Six) : (veil m x).b = x.b := by unfold veil; split <;> rfl
theorem lookL_cart (p : Pl) (known : Int) (m : Int → Bool) : lookL p known m = (cartL p known).map (veil m) := srtH_map (veil_b m) _
theorem after_veil (m : Int → Bool) (l : List Six) (h : Int) : after (l.map (veil m)) h = after l h := by
  unfold after
  rw [List.countP_map]
  congr 1
  funext x
  show decide ((veil m x).b ≤ h) = _
  rw [veil_b]
theorem cart_every (p : Pl) (known : Int) : lookL p known every = cartL p known := by
  rw [lookL_cart]
  have : veil every = id := by funext x; exact veil_every x
  rw [this, List.map_id]
theorem getD_map6 {f : Six → Six} {l : List Six} {i : Nat} (hi : i < l.length) : (l.map f).getD i z6 = f (l.getD i z6) := by
  rw [List.getD_eq_getElem?_getD, List.getElem?_map, List.getElem?_eq_getElem hi, List.getD_eq_getElem?_getD, List.getElem?_eq_getElem hi]; rfl
/-- True numbers by some loads and stands. -/
structure TruBy (p : Pl) (known : Int) (m : Int → Bool) (s : List Int) : Prop where
  len : s.length = (cartL p known).length + 1
  took : ∀ i, i < (cartL p known).length → (veil m ((cartL p known).getD i z6)).c ≤ s.getD i 0 - s.getD (i + 1) 0 ∧ s.getD i 0 - s.getD (i + 1) 0 ≤ (veil m ((cartL p known).getD i z6)).d
  bds : ∀ i, i ≤ (cartL p known).length → (if i = 0 then p.lo else 0) ≤ s.getD i 0 ∧ s.getD i 0 ≤ (if i = 0 then p.hi else 10000)
  stands : ∀ x ∈ p.stands, (cnt x known && m x.a) = true → x.c ≤ s.getD (after (cartL p known) x.b) 0 ∧ s.getD (after (cartL p known) x.b) 0 ≤ x.d
theorem truBy_iff {p : Pl} {known : Int} {m : Int → Bool} {s : List Int} : TruBy p known m s ↔ Tru (lookL p known m) (standsF known m (lookL p known m) p.stands (stood0 p (lookL p known m).length)) s := by
  rw [tru_stands (stood0_len p _)]
  have hlen : (lookL p known m).length = (cartL p known).length := by rw [lookL_cart, List.length_map]
  have hel : ∀ i, i < (cartL p known).length → (lookL p known m).getD i z6 = veil m ((cartL p known).getD i z6) := fun i hi => by rw [lookL_cart, getD_map6 hi]
  have haf : ∀ h, after (lookL p known m) h = after (cartL p known) h := fun h => by rw [lookL_cart, after_veil]
  constructor
  · rintro ⟨h1, h2, h3, h4⟩
    refine ⟨⟨by rw [hlen]; exact h1, fun i hi => ?_, fun i hi => ?_⟩, fun x hx hc => ?_⟩
    · unfold Ls Gr
      rw [hel i (by omega)]
      exact h2 i (by omega)
    · rw [hlen] at hi
      obtain ⟨e1, e2⟩ := stood0_at p (lookL p known m).length (i := i) (by omega)
      rw [e1, e2]
      exact h3 i hi
    · rw [haf]; exact h4 x hx hc
  · rintro ⟨⟨h1, h2, h3⟩, h4⟩
    refine ⟨by rw [← hlen]; exact h1, fun i hi => ?_, fun i hi => ?_, fun x hx hc => ?_⟩
    · have := h2 i (by omega)
      unfold Ls Gr at this
      rw [hel i hi] at this
      exact this
    · obtain ⟨e1, e2⟩ := stood0_at p (lookL p known m).length (i := i) (by omega)
      have := h3 i (by omega)
      rw [e1, e2] at this
      exact this
    · rw [← haf]; exact h4 x hx hc
theorem sound_by {p : Pl} (hok : okPl p = true) (known : Int) (m : Int → Bool) : sound (lookS p known m) = true ↔ ∃ s, TruBy p known m s := by
  have h := look_wid hok known m
  have hl := row_len p known m (lookL p known m).length (lookL p known m) p.stands
  have := sound_tru hl (fun i hi => (h i hi).2)
  unfold lookS
  rw [this]
  exact ⟨fun ⟨s, hs⟩ => ⟨s, truBy_iff.2 hs⟩, fun ⟨s, hs⟩ => ⟨s, truBy_iff.1 hs⟩⟩
theorem contra_no {p : Pl} (hok : okPl p = true) (known : Int) (by_ : List Int) : contraB p known by_ = false ↔ ∃ s, TruBy p known (hasI by_) s := by
  unfold contraB
  rw [Bool.not_eq_false', sound_by hok]
theorem cart_num {p : Pl} (hok : okPl p = true) (known : Int) : ∀ x ∈ cartL p known, Num x := fun x hx => by rw [← cart_every] at hx; exact lookL_num hok known every x hx
theorem TruBy.bd {p : Pl} {known : Int} {m : Int → Bool} {s : List Int} (h : TruBy p known m s) (hok : okPl p = true) {i : Nat} (hi : i ≤ (cartL p known).length) : 0 ≤ s.getD i 0 ∧ s.getD i 0 ≤ 10000 := by
  have h1 := ok_parts hok
  have h2 := h.bds i hi
  by_cases h0 : i = 0
  · rw [if_pos h0, if_pos h0] at h2; omega
  · rw [if_neg h0, if_neg h0] at h2; exact h2
theorem veil_yes {m : Int → Bool} {x : Six} (h : m x.a = true) : veil m x = x := by unfold veil; rw [if_pos h]
theorem veil_no {m : Int → Bool} {x : Six} (h : m x.a = false) : (veil m x).c = 0 ∧ (veil m x).d = 10000 := by unfold veil; rw [if_neg (by rw [h]; decide)]; exact ⟨rfl, rfl⟩
theorem veil_wid {m : Int → Bool} {x : Six} (h : Num x) : 0 ≤ (veil m x).c ∧ (veil m x).c ≤ (veil m x).d := by
  have := veil_num (meant := m) h
  unfold Num at this
  exact ⟨this.2.2.1, this.2.2.2.1⟩
/-- Fewer of them contradict less. -/
theorem TruBy.less {p : Pl} {known : Int} {m m' : Int → Bool} {s : List Int} (h : TruBy p known m' s) (hok : okPl p = true) (hm : ∀ x, m x = true → m' x = true) : TruBy p known m s := by
  refine ⟨h.len, fun i hi => ?_, h.bds, fun x hx hc => ?_⟩
  · have h1 := h.took i hi
    have h2 := h.bd hok (Nat.le_of_lt hi)
    have h3 := h.bd hok (show i + 1 ≤ _ from hi)
    obtain ⟨x, hx⟩ : ∃ x, (cartL p known).getD i z6 = x := ⟨_, rfl⟩
    have hn : Num x := by rw [← hx]; exact cart_num hok known _ (getD_mem hi)
    rw [hx] at h1 ⊢
    cases hc : m x.a with
    | true => rw [veil_yes hc]; rw [veil_yes (hm _ hc)] at h1; exact h1
    | false =>
      obtain ⟨e1, e2⟩ := veil_no (m := m) hc
      have := veil_wid (m := m') hn
      rw [e1, e2]
      omega
  · rw [Bool.and_eq_true] at hc
    exact h.stands x hx (by rw [hc.1, hm _ hc.2]; rfl)
theorem contra_mono {p : Pl} (hok : okPl p = true) {known : Int} {l l' : List Int} (hs : ∀ x ∈ l, x ∈ l') (h : contraB p known l' = false) : contraB p known l = false := by
  rw [contra_no hok] at h ⊢
  obtain ⟨s, hs2⟩ := h
  exact ⟨s, hs2.less hok fun x hx => hasI_true (hs x (hasI_iff.1 hx))⟩
theorem hasI_nil (x : Int) : hasI [] x = false := by rw [← Bool.not_eq_true, hasI_iff]; exact List.not_mem_nil
theorem getD_const {n i : Nat} {v : Int} (hi : i ≤ n) : (List.replicate (n + 1) v).getD i 0 = v := by rw [List.getD_eq_getElem?_getD, List.getElem?_replicate, if_pos (by omega)]; rfl
theorem contra_nil {p : Pl} (hok : okPl p = true) (known : Int) : contraB p known [] = false := by
  have h1 := ok_parts hok
  rw [contra_no hok]
  refine ⟨List.replicate ((cartL p known).length + 1) p.hi, by rw [List.length_replicate], fun i hi => ?_, fun i hi => ?_, fun x hx hc => ?_⟩
  · rw [getD_const (by omega), getD_const (by omega)]
    obtain ⟨e1, e2⟩ := veil_no (m := hasI []) (x := (cartL p known).getD i z6) (hasI_nil _)
    rw [e1, e2]
    omega
  · rw [getD_const hi]
    split <;> omega
  · rw [hasI_nil, Bool.and_false] at hc; cases hc
theorem mem_srt {l : List Int} {x : Int} : x ∈ srt l ↔ x ∈ l := by unfold srt; exact List.mem_mergeSort
theorem mem_colL {c : Six → Bool} {l : List Six} {s : Int} : s ∈ colL c Six.a l ↔ ∃ x ∈ l, c x = true ∧ x.a = s := by
  unfold colL
  rw [List.mem_map]
  constructor
  · rintro ⟨x, hx, rfl⟩; obtain ⟨h1, h2⟩ := List.mem_filter.1 hx; exact ⟨x, h1, h2, rfl⟩
  · rintro ⟨x, h1, h2, rfl⟩; exact ⟨x, List.mem_filter.2 ⟨h1, h2⟩, rfl⟩
theorem mem_tell {p : Pl} {known s : Int} : s ∈ tellL p known ↔ (∃ x ∈ p.loads, cnt x known = true ∧ x.a = s) ∨ ∃ x ∈ p.stands, cnt x known = true ∧ x.a = s := by
  unfold tellL
  rw [mem_srt, List.mem_append, mem_colL, mem_colL]
theorem mem_srtH {y : Six} (l : List Six) : y ∈ srtH l ↔ y ∈ l := (srtH_perm l).mem_iff
theorem mem_cart {p : Pl} {known : Int} {x : Six} : x ∈ cartL p known ↔ x ∈ p.loads ∧ cnt x known = true := by
  unfold cartL
  rw [mem_srtH, List.mem_filter]
/-- All that count contradict each other just if the plot is not sound. -/
theorem contra_all {p : Pl} (hok : okPl p = true) (known : Int) : contraB p known (tellL p known) = !sound (lookS p known every) := by
  unfold contraB
  congr 1
  rw [Bool.eq_iff_iff, sound_by hok, sound_by hok]
  constructor
  · rintro ⟨s, h⟩
    refine ⟨s, h.len, fun i hi => ?_, h.bds, fun x hx hc => ?_⟩
    · have h1 := h.took i hi
      have hm := mem_cart.1 (getD_mem (l := cartL p known) hi)
      rw [veil_yes (hasI_true (mem_tell.2 (.inl ⟨_, hm.1, hm.2, rfl⟩)))] at h1
      rw [veil_every]
      exact h1
    · rw [Bool.and_eq_true] at hc
      exact h.stands x hx (by rw [hc.1, hasI_true (mem_tell.2 (.inr ⟨x, hx, hc.1, rfl⟩))]; rfl)
  · rintro ⟨s, h⟩
    exact ⟨s, h.less hok fun _ _ => rfl⟩

/- What Clash returns. -/
theorem clashD_sub (p : Pl) (known : Int) : ∀ (k : Nat) (l : List Int), (clashD p known k l).Sublist l
  | 0, l => List.Sublist.refl l
  | k + 1, l => by
    unfold clashD
    refine (clashD_sub p known k _).trans ?_
    split
    · exact List.eraseIdx_sublist l k
    · exact List.Sublist.refl l
theorem mem_eraseIdx_sub {l : List Int} {i j : Nat} (hij : i ≤ j) : ∀ x ∈ (l.eraseIdx i).eraseIdx j, x ∈ l.eraseIdx (j + 1) := by
  intro x hx
  rw [List.mem_eraseIdx_iff_getElem?] at hx ⊢
  obtain ⟨k, hk, hx⟩ := hx
  rw [List.getElem?_eraseIdx] at hx
  by_cases h : k < i
  · rw [if_pos h] at hx; exact ⟨k, by omega, hx⟩
  · rw [if_neg h] at hx; exact ⟨k + 1, by omega, hx⟩
theorem clashD_spec {p : Pl} (hok : okPl p = true) (known : Int) : ∀ (k : Nat) (l : List Int), k ≤ l.length → contraB p known l = true → (∀ j, k ≤ j → j < l.length → contraB p known (l.eraseIdx j) = false) →
    contraB p known (clashD p known k l) = true ∧ ∀ j, j < (clashD p known k l).length → contraB p known ((clashD p known k l).eraseIdx j) = false
  | 0, l, _, hc, hj => ⟨hc, fun j h => hj j (Nat.zero_le _) h⟩
  | k + 1, l, hk, hc, hj => by
    unfold clashD
    by_cases he : contraB p known (l.eraseIdx k) = true
    · rw [if_pos he]
      have hl : (l.eraseIdx k).length = l.length - 1 := by rw [List.length_eraseIdx, if_pos (by omega)]
      refine clashD_spec hok known k _ (by omega) he fun j h1 h2 => ?_
      exact contra_mono hok (mem_eraseIdx_sub h1) (hj (j + 1) (by omega) (by omega))
    · rw [if_neg he]
      refine clashD_spec hok known k l (by omega) hc fun j h1 h2 => ?_
      by_cases e : j = k
      · subst e; exact Bool.not_eq_true _ ▸ he
      · exact hj j (by omega) h2
/-- Sources are those of one thing alone. -/
theorem nodup_take {ks : List Int} {l : List Six} (h : ∀ j, j < l.length → (l.getD j z6).a ∉ ks ++ srcs (l.take j)) (hk : ks.Nodup) : ∀ k, k ≤ l.length → (ks ++ srcs (l.take k)).Nodup
  | 0, _ => by simpa [srcs] using hk
  | k + 1, hl => by
    have ih := nodup_take h hk k (by omega)
    have hlt : k < l.length := by omega
    have e : srcs (l.take (k + 1)) = srcs (l.take k) ++ [(l.getD k z6).a] := by
      unfold srcs
      rw [List.take_succ_eq_append_getElem hlt, List.map_append, List.getD_eq_getElem?_getD, List.getElem?_eq_getElem hlt]; rfl
    rw [e, ← List.append_assoc, List.nodup_append]
    refine ⟨ih, by simp, fun a ha b hb hab => ?_⟩
    rw [List.mem_singleton] at hb
    subst hab hb
    exact h k hlt ha
theorem okL_nodup {is : Six → Bool} {ks : List Int} {l : List Six} (h : okL is ks l = true) (hk : ks.Nodup) : (ks ++ srcs l).Nodup := by
  have := nodup_take (ks := ks) (l := l) (fun j hj => by
    unfold okL at h
    rw [Bool.and_eq_true, List.all_eq_true] at h
    have h1 := h.1 j (List.mem_range.2 hj)
    unfold okAt at h1
    rw [Bool.and_eq_true, Bool.not_eq_true', ← Bool.not_eq_true, List.contains_iff_mem] at h1
    exact h1.2) hk l.length (Nat.le_refl _)
  rwa [List.take_length] at this
theorem ok_nodup {p : Pl} (h : okPl p = true) : (srcs p.loads ++ srcs p.stands ++ srcs p.spells).Nodup := by
  unfold okPl at h
  simp only [Bool.and_eq_true] at h
  obtain ⟨⟨⟨⟨h1, h2⟩, h3⟩, -⟩, -⟩ := h
  have n1 := okL_nodup h1 List.nodup_nil
  rw [List.nil_append] at n1
  exact okL_nodup h3 (okL_nodup h2 n1)
theorem tell_nodup {p : Pl} (h : okPl p = true) (known : Int) : (tellL p known).Nodup := by
  have h1 := (List.nodup_append.1 (ok_nodup h)).1
  have hs : (colL (fun x => cnt x known) Six.a p.loads ++ colL (fun x => cnt x known) Six.a p.stands).Sublist (srcs p.loads ++ srcs p.stands) :=
    List.Sublist.append (List.filter_sublist.map _) (List.filter_sublist.map _)
  unfold tellL srt
  exact (List.mergeSort_perm _ _).nodup_iff.2 (h1.sublist hs)
theorem srt_up (l : List Int) : (srt l).Pairwise (· ≤ ·) := by
  have := List.pairwise_mergeSort (le := fun x y : Int => decide (x ≤ y)) (fun a b c h1 h2 => by simp at *; omega) (fun a b => by simp; omega) l
  unfold srt
  exact this.imp fun h => of_decide_eq_true h
theorem tell_up {p : Pl} (h : okPl p = true) (known : Int) : (tellL p known).Pairwise (· < ·) := by
  have h1 : (tellL p known).Pairwise (· ≤ ·) := srt_up _
  have h2 := tell_nodup h known
  exact (h1.and h2).imp fun h => by have := h.1; have := h.2; omega

/- CheckClash. -/
def byOk (all by_ : List Int) (i : Nat) : Bool := hasI all (by_.getD i 0) && (decide (i = 0) || decide (by_.getD (i - 1) 0 < by_.getD i 0))
def byAll (all by_ : List Int) : Bool := (List.range by_.length).all (byOk all by_)
def byLean (p : Pl) (known : Int) (by_ : List Int) : Bool := (List.range by_.length).all fun i => !contraB p known (by_.eraseIdx i)
def chkE (p : Pl) (known : Int) (by_ : List Int) : Int :=
  if firstE p [] [known] = 0 then (if byAll (tellL p known) by_ = true then (if contraB p known by_ = true then (if byLean p known by_ = true then 0 else 15) else 15) else 15) else firstE p [] [known]
theorem byAll_of {all by_ : List Int} (h1 : ∀ x ∈ by_, x ∈ all) (h2 : by_.Pairwise (· < ·)) : byAll all by_ = true := by
  unfold byAll
  rw [List.all_eq_true]
  intro i hi
  have hi := List.mem_range.1 hi
  have e : ∀ k, (hk : k < by_.length) → by_.getD k 0 = by_[k] := fun k hk => getD_int hk
  unfold byOk
  rw [hasI_true (by rw [e i hi]; exact h1 _ (List.getElem_mem _)), Bool.true_and, Bool.or_eq_true, decide_eq_true_eq, decide_eq_true_eq]
  by_cases h0 : i = 0
  · exact .inl h0
  · refine .inr ?_
    rw [e i hi, e (i - 1) (by omega)]
    exact List.pairwise_iff_getElem.1 h2 (i - 1) i (by omega) hi (by omega)
theorem byAll_iff {all by_ : List Int} : byAll all by_ = true ↔ (∀ i, i < by_.length → by_.getD i 0 ∈ all) ∧ ∀ i, 0 < i → i < by_.length → by_.getD (i - 1) 0 < by_.getD i 0 := by
  unfold byAll
  rw [List.all_eq_true]
  constructor
  · intro h
    have h' : ∀ i, i < by_.length → by_.getD i 0 ∈ all ∧ (i = 0 ∨ by_.getD (i - 1) 0 < by_.getD i 0) := fun i hi => by
      have := h i (List.mem_range.2 hi)
      unfold byOk at this
      rw [Bool.and_eq_true, hasI_iff, Bool.or_eq_true, decide_eq_true_eq, decide_eq_true_eq] at this
      exact this
    exact ⟨fun i hi => (h' i hi).1, fun i h0 hi => ((h' i hi).2).resolve_left (by omega)⟩
  · rintro ⟨h1, h2⟩ i hi
    have hi := List.mem_range.1 hi
    unfold byOk
    rw [Bool.and_eq_true, hasI_iff, Bool.or_eq_true, decide_eq_true_eq, decide_eq_true_eq]
    refine ⟨h1 i hi, ?_⟩
    by_cases h0 : i = 0
    · exact .inl h0
    · exact .inr (h2 i (by omega) hi)
theorem rise_pw {l : List Int} (h : ∀ i, 0 < i → i < l.length → l.getD (i - 1) 0 < l.getD i 0) : l.Pairwise (· < ·) := by
  have key : ∀ j i, i < j → j < l.length → l.getD i 0 < l.getD j 0 := by
    intro j
    induction j with
    | zero => intro i h1; omega
    | succ j ih =>
      intro i h1 h2
      have h3 := h (j + 1) (by omega) h2
      rw [Nat.add_sub_cancel] at h3
      by_cases e : i = j
      · subst e; exact h3
      · exact Int.lt_trans (ih i (by omega) (by omega)) h3
  rw [List.pairwise_iff_getElem]
  intro i j hi hj hij
  have := key j i hij hj
  rwa [getD_int hi, getD_int hj] at this
theorem byAll_len {all by_ : List Int} (h : byAll all by_ = true) : by_.length ≤ all.length := by
  obtain ⟨h1, h2⟩ := byAll_iff.1 h
  have hp := rise_pw h2
  have hn : by_.Nodup := hp.imp fun h => by omega
  refine List.Nodup.length_le_of_subset hn fun x hx => ?_
  obtain ⟨i, hi, rfl⟩ := List.getElem_of_mem hx
  rw [← getD_int hi]
  exact h1 i hi
/-- What Clash returns is accepted. -/
theorem clash_chk {p : Pl} {known : Int} (hf : firstE p [] [known] = 0) (hs : sound (lookS p known every) = false) :
    clashE p known = 0 ∧ clashL p known ≠ [] ∧ (clashL p known).length ≤ 120 ∧ chkE p known (clashL p known) = 0 := by
  have hok := first_ok hf
  have hc : contraB p known (tellL p known) = true := by rw [contra_all hok, hs]; rfl
  have he : clashE p known = 0 := by unfold clashE; rw [if_pos hf, hc]; rfl
  have hl : clashL p known = clashD p known (tellL p known).length (tellL p known) := by unfold clashL; rw [if_pos he]
  obtain ⟨h1, h2⟩ := clashD_spec hok known (tellL p known).length (tellL p known) (Nat.le_refl _) hc (fun j a b => absurd b (by omega))
  have hsub := clashD_sub p known (tellL p known).length (tellL p known)
  rw [← hl] at h1 h2 hsub
  have hba : byAll (tellL p known) (clashL p known) = true := byAll_of (fun x hx => hsub.subset hx) ((tell_up hok known).sublist hsub)
  have hle : byLean p known (clashL p known) = true := by
    unfold byLean
    rw [List.all_eq_true]
    intro i hi
    rw [h2 i (List.mem_range.1 hi)]; rfl
  refine ⟨he, fun e => ?_, Nat.le_trans hsub.length_le (tell_len hok known), ?_⟩
  · rw [e, contra_nil hok] at h1; cases h1
  · unfold chkE
    rw [if_pos hf, if_pos hba, if_pos h1, if_pos hle]
theorem clash_sound {p : Pl} {known : Int} (hf : firstE p [] [known] = 0) (hs : sound (lookS p known every) = true) : clashE p known = 15 := by
  unfold clashE
  rw [if_pos hf, contra_all (first_ok hf), hs]; rfl

/- One load alone. -/
theorem src_one {p : Pl} (hok : okPl p = true) {x y : Six} (hx : x ∈ p.loads) (hy : y ∈ p.loads) (h : x.a = y.a) : x = y := by
  have h1 := (List.nodup_append.1 (List.nodup_append.1 (ok_nodup hok)).1).1
  obtain ⟨i, hi, rfl⟩ := List.getElem_of_mem hx
  obtain ⟨j, hj, rfl⟩ := List.getElem_of_mem hy
  have : i = j := by
    refine (List.getElem_inj (xs := srcs p.loads) (h₀ := by unfold srcs; rwa [List.length_map]) (h₁ := by unfold srcs; rwa [List.length_map]) h1).1 ?_
    unfold srcs
    rw [List.getElem_map, List.getElem_map]
    exact h
  subst this; rfl
theorem src_apart {p : Pl} (hok : okPl p = true) {x y : Six} (hx : x ∈ p.loads) (hy : y ∈ p.stands) : x.a ≠ y.a := by
  have h1 := (List.nodup_append.1 (List.nodup_append.1 (ok_nodup hok)).1).2.2
  exact h1 _ (List.mem_map.2 ⟨x, hx, rfl⟩) _ (List.mem_map.2 ⟨y, hy, rfl⟩)
theorem cart_nodup {p : Pl} (hok : okPl p = true) (known : Int) : (cartL p known).Nodup := by
  have h1 := (List.nodup_append.1 (List.nodup_append.1 (ok_nodup hok)).1).1
  have h2 : p.loads.Nodup := (List.pairwise_map.1 h1).imp fun h e => h (by rw [e])
  exact (srtH_perm _).nodup_iff.2 (h2.sublist List.filter_sublist)
theorem hasI_one {s x : Int} : hasI [s] x = decide (x = s) := by
  rw [Bool.eq_iff_iff, hasI_iff, List.mem_singleton, decide_eq_true_eq]
theorem TruBy.anti {p : Pl} {known : Int} {m : Int → Bool} {s : List Int} (h : TruBy p known m s) (hok : okPl p = true) : ∀ i, i ≤ (cartL p known).length → s.getD i 0 ≤ s.getD 0 0
  | 0, _ => Int.le_refl _
  | i + 1, hi => by
    have ih := h.anti hok i (by omega)
    have h1 := h.took i (by omega)
    have h2 := veil_wid (m := m) (cart_num hok known _ (getD_mem (show i < (cartL p known).length by omega)))
    omega
theorem alone_iff {p : Pl} (hok : okPl p = true) (known : Int) {x : Six} (hx : x ∈ p.loads) : contraB p known [x.a] = true ↔ cnt x known = true ∧ p.hi < x.c := by
  have hop := ok_parts hok
  have hxn := hop.1 x hx
  unfold Num at hxn
  constructor
  · intro hc
    refine Classical.byContradiction fun hn => ?_
    have : contraB p known [x.a] = false := by
      rw [contra_no hok]
      by_cases hcn : cnt x known = true
      · have hch : x.c ≤ p.hi := Int.not_lt.1 fun h => hn ⟨hcn, h⟩
        obtain ⟨j, hj, hjx⟩ := List.getElem_of_mem (mem_cart.2 ⟨hx, hcn⟩)
        have hat : ∀ i, i ≤ (cartL p known).length → ((List.range ((cartL p known).length + 1)).map fun i => p.hi - if j < i then x.c else 0).getD i 0 = p.hi - if j < i then x.c else 0 := fun i hi => by
          rw [List.getD_eq_getElem?_getD, List.getElem?_map, List.getElem?_range (by omega)]; rfl
        refine ⟨(List.range ((cartL p known).length + 1)).map fun i => p.hi - if j < i then x.c else 0, by rw [List.length_map, List.length_range], fun i hi => ?_, fun i hi => ?_, fun y hy hc => ?_⟩
        · rw [hat i (by omega), hat (i + 1) (by omega)]
          have hmi := getD_mem (l := cartL p known) hi
          have hme := mem_cart.1 hmi
          by_cases hij : i = j
          · subst hij
            have e : (cartL p known).getD i z6 = x := by rw [List.getD_eq_getElem?_getD, List.getElem?_eq_getElem hj, hjx]; rfl
            rw [e, veil_yes (hasI_true (by simp)), if_neg (by omega), if_pos (by omega)]
            omega
          · have e : ((j < i) = (j < i + 1)) := by apply propext; omega
            have hd : p.hi - (if j < i then x.c else 0) - (p.hi - if j < i + 1 then x.c else 0) = 0 := by
              by_cases h : j < i
              · rw [if_pos h, if_pos (by omega)]; omega
              · rw [if_neg h, if_neg (by omega)]; omega
            rw [hd]
            by_cases hs : ((cartL p known).getD i z6).a = x.a
            · have e2 := src_one hok hme.1 hx hs
              rw [veil_yes (by rw [hasI_one]; exact decide_eq_true hs), e2]
              have hw := hxn
              by_cases h0 : x.c = 0
              · omega
              · exfalso
                have hdup : ∀ a b : Nat, a < (cartL p known).length → b < (cartL p known).length → (cartL p known).getD a z6 = x → (cartL p known).getD b z6 = x → a = b := by
                  have hnd : (cartL p known).Nodup := cart_nodup hok known
                  intro a b ha hb e1 e3
                  rw [List.getD_eq_getElem?_getD, List.getElem?_eq_getElem ha] at e1
                  rw [List.getD_eq_getElem?_getD, List.getElem?_eq_getElem hb] at e3
                  have e1 : (cartL p known)[a] = x := e1
                  have e3 : (cartL p known)[b] = x := e3
                  exact (List.getElem_inj hnd).1 (e1.trans e3.symm)
                exact hij (hdup i j hi hj e2 (by rw [List.getD_eq_getElem?_getD, List.getElem?_eq_getElem hj, hjx]; rfl))
            · obtain ⟨e1, e2⟩ := veil_no (m := hasI [x.a]) (x := (cartL p known).getD i z6) (by rw [hasI_one]; exact decide_eq_false hs)
              rw [e1, e2]; omega
        · rw [hat i hi]
          by_cases h0 : i = 0
          · subst h0; rw [if_pos rfl, if_pos rfl, if_neg (by omega)]; omega
          · rw [if_neg h0, if_neg h0]
            split <;> omega
        · rw [Bool.and_eq_true, hasI_one, decide_eq_true_eq] at hc
          exact absurd hc.2.symm (src_apart hok hx hy)
      · refine ⟨List.replicate ((cartL p known).length + 1) p.hi, by rw [List.length_replicate], fun i hi => ?_, fun i hi => ?_, fun y hy hc => ?_⟩
        · rw [getD_const (by omega), getD_const (by omega)]
          have hme := mem_cart.1 (getD_mem (l := cartL p known) hi)
          obtain ⟨e1, e2⟩ := veil_no (m := hasI [x.a]) (x := (cartL p known).getD i z6) (by
            rw [hasI_one]
            exact decide_eq_false fun hs => hcn (by rw [← src_one hok hme.1 hx hs]; exact hme.2))
          rw [e1, e2]
          omega
        · rw [getD_const hi]
          split <;> omega
        · rw [Bool.and_eq_true, hasI_one, decide_eq_true_eq] at hc
          exact absurd hc.2.symm (src_apart hok hx hy)
    rw [this] at hc; cases hc
  · rintro ⟨hcn, hlt⟩
    cases hc : contraB p known [x.a] with
    | true => rfl
    | false =>
      rw [contra_no hok] at hc
      obtain ⟨s, hs⟩ := hc
      obtain ⟨j, hj, hjx⟩ := List.getElem_of_mem (mem_cart.2 ⟨hx, hcn⟩)
      have e : (cartL p known).getD j z6 = x := by rw [List.getD_eq_getElem?_getD, List.getElem?_eq_getElem hj, hjx]; rfl
      have h1 := hs.took j hj
      rw [e, veil_yes (hasI_true (by simp))] at h1
      have h2 := hs.anti hok j (by omega)
      have h3 := (hs.bds 0 (Nat.zero_le _)).2
      rw [if_pos rfl] at h3
      have h4 := (hs.bd hok (show j + 1 ≤ _ from hj)).1
      omega
theorem alone_chk {p : Pl} {known : Int} (hf : firstE p [] [known] = 0) {x : Six} (hx : x ∈ p.loads) : chkE p known [x.a] = 0 ↔ cnt x known = true ∧ p.hi < x.c := by
  have hok := first_ok hf
  have ha := alone_iff hok known hx
  have hl : byLean p known [x.a] = true := by
    unfold byLean
    show ((!contraB p known []) && true) = true
    rw [contra_nil hok]; rfl
  unfold chkE
  rw [if_pos hf]
  constructor
  · intro h
    by_cases hb : byAll (tellL p known) [x.a] = true
    · rw [if_pos hb] at h
      by_cases hc : contraB p known [x.a] = true
      · exact ha.1 hc
      · rw [if_neg hc] at h; cases h
    · rw [if_neg hb] at h; cases h
  · intro h
    have hb : byAll (tellL p known) [x.a] = true := byAll_of (fun y hy => by rw [List.mem_singleton.1 hy]; exact mem_tell.2 (.inl ⟨x, hx, h.1, rfl⟩)) (List.pairwise_singleton _ _)
    rw [if_pos hb, if_pos (ha.2 h), if_pos hl]
end Go.Proofs.YtkoejeghihcmlaaGreat
