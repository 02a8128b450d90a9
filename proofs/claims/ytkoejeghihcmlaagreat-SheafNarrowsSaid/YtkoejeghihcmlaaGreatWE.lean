/- Plain: true numbers as they are handed in, load by load, and as Attain hands them out. -/
import Derived.Test.YtkoejeghihcmlaaGreatTZ
import Derived.Test.YtkoejeghihcmlaaGreatWJ
namespace Go.Proofs.YtkoejeghihcmlaaGreat
open Go.RowKit Go.Shelf

theorem truth_iff {p : Pl} (hok : okPl p = true) {known sown : Int} {ns : List Int} : truthB p known sown ns = true ↔ ns.length = (lookL p known every).length ∧ TruBy p known every (truS p known sown ns) := by
  have hpp := ok_parts hok
  have hnum := cart_num hok known
  rw [← cart_every] at hnum
  constructor
  · intro h
    unfold truthB numsB at h
    rw [Bool.and_eq_true, Bool.and_eq_true, Bool.and_eq_true, Bool.and_eq_true, decide_eq_true_eq, rng_iff, List.all_eq_true, List.all_eq_true, decide_eq_true_eq] at h
    obtain ⟨⟨⟨⟨h1, h2⟩, h3⟩, h4⟩, h5⟩ := h
    have h3' : ∀ i, i < (lookL p known every).length → ((lookL p known every).getD i z6).c ≤ (numsL p known ns).getD i 0 ∧ (numsL p known ns).getD i 0 ≤ ((lookL p known every).getD i z6).d := fun i hi => by
      have := h3 i (List.mem_range.2 hi)
      unfold tookB at this
      exact rng_iff.1 this
    have hpos : ∀ i, i < (lookL p known every).length → 0 ≤ (numsL p known ns).getD i 0 := fun i hi => by
      have a := h3' i hi
      have b := hnum _ (getD_mem hi)
      unfold Num at b
      omega
    refine ⟨h1, ⟨by rw [truS_len, cart_every], fun i hi => ?_, fun i hi => ?_, fun x hx hc => ?_⟩⟩
    · rw [← cart_every] at hi ⊢
      rw [truS_at (by omega), truS_at (by omega), veil_every]
      have e1 : runK sown (numsL p known ns) (i + 1) = runK sown (numsL p known ns) i - (numsL p known ns).getD i 0 := rfl
      have := h3' i hi
      omega
    · rw [← cart_every] at hi
      rw [truS_at hi]
      have d1 := run_down (sown := sown) hpos ((lookL p known every).length - i) i (by omega)
      have d2 := run_le (sown := sown) hpos i hi
      by_cases hz : i = 0
      · subst hz
        rw [if_pos rfl, if_pos rfl]
        exact h2
      · rw [if_neg hz, if_neg hz]
        omega
    · have := h4 x hx
      unfold standB at this
      have hcx : cnt x known = true := by rw [Bool.and_eq_true] at hc; exact hc.1
      rw [hcx] at this
      rw [← cart_every]
      exact rng_iff.1 (by simpa using this)
  · rintro ⟨h1, ht⟩
    have t2 := ht.took
    have t3 := ht.bds
    have t4 := ht.stands
    rw [← cart_every] at t2 t3 t4
    have h3' : ∀ i, i < (lookL p known every).length → ((lookL p known every).getD i z6).c ≤ (numsL p known ns).getD i 0 ∧ (numsL p known ns).getD i 0 ≤ ((lookL p known every).getD i z6).d := fun i hi => by
      have := t2 i hi
      rw [truS_at (by omega), truS_at (by omega), veil_every] at this
      have e1 : runK sown (numsL p known ns) (i + 1) = runK sown (numsL p known ns) i - (numsL p known ns).getD i 0 := rfl
      omega
    unfold truthB numsB
    rw [Bool.and_eq_true, Bool.and_eq_true, Bool.and_eq_true, Bool.and_eq_true, decide_eq_true_eq, rng_iff, List.all_eq_true, List.all_eq_true, decide_eq_true_eq]
    refine ⟨⟨⟨⟨h1, ?_⟩, fun i hi => ?_⟩, fun x hx => ?_⟩, ?_⟩
    · have := t3 0 (Nat.zero_le _)
      rw [truS_at (Nat.zero_le _), if_pos rfl, if_pos rfl] at this
      exact this
    · unfold tookB
      exact rng_iff.2 (h3' i (List.mem_range.1 hi))
    · unfold standB
      cases hc : cnt x known with
      | false => rfl
      | true =>
        have := t4 x hx (by rw [hc]; rfl)
        rw [rng_iff.2 this]; rfl
    · have := ht.bd hok (i := (lookL p known every).length) (by rw [cart_every]; exact Nat.le_refl _)
      rw [truS_at (Nat.le_refl _)] at this
      exact this.1
theorem cart_src {p : Pl} (hok : okPl p = true) {known : Int} {i j : Nat} (hi : i < (lookL p known every).length) (hj : j < (lookL p known every).length) (h : ((lookL p known every).getD i z6).a = ((lookL p known every).getD j z6).a) : i = j := by
  have hn := cart_nodup hok known
  rw [← cart_every] at hn
  have mi : (lookL p known every).getD i z6 ∈ p.loads := (mem_cart.1 (by rw [← cart_every]; exact getD_mem hi)).1
  have mj : (lookL p known every).getD j z6 ∈ p.loads := (mem_cart.1 (by rw [← cart_every]; exact getD_mem hj)).1
  have e := src_one hok mi mj h
  rw [six_get hi, six_get hj] at e
  exact (List.getElem_inj hn).1 e
theorem srcIx_cart {p : Pl} (hok : okPl p = true) {known : Int} {i : Nat} (hi : i < (lookL p known every).length) : srcIx (lookL p known every) ((lookL p known every).getD i z6).a = i := by
  unfold srcIx
  refine findIdx_at hi (isSrc_iff.2 rfl) (fun j hj => ?_)
  cases h : isSrc ((lookL p known every).getD i z6).a ((lookL p known every).getD j z6) with
  | false => rfl
  | true =>
    have := cart_src hok (by omega) hi (isSrc_iff.1 h)
    omega
theorem srcIx_spec {l : List Six} {x : Six} (hx : x ∈ l) : srcIx l x.a < l.length ∧ (l.getD (srcIx l x.a) z6).a = x.a := by
  have hlt : srcIx l x.a < l.length := by
    unfold srcIx
    exact List.findIdx_lt_length_of_exists ⟨x, hx, isSrc_iff.2 rfl⟩
  refine ⟨hlt, ?_⟩
  rw [six_get hlt]
  exact isSrc_iff.1 (List.findIdx_getElem (w := hlt))
/-- True numbers, as they are handed out by the loads' sources. -/
def pickC (p : Pl) (known : Int) (s : List Int) : List Int := (countL p known).map fun x => s.getD (srcIx (lookL p known every) x.a) 0 - s.getD (srcIx (lookL p known every) x.a + 1) 0
theorem mem_count {p : Pl} {known : Int} {x : Six} : x ∈ countL p known ↔ x ∈ lookL p known every := by
  rw [cart_every, mem_cart]
  unfold countL
  rw [List.mem_filter]
theorem pickC_len (p : Pl) (known : Int) (s : List Int) : (pickC p known s).length = (lookL p known every).length := by unfold pickC; rw [List.length_map, count_len]
theorem numsL_at {p : Pl} {known : Int} {ns : List Int} {i : Nat} (hi : i < (lookL p known every).length) : (numsL p known ns).getD i 0 = numBy p known ns ((lookL p known every).getD i z6).a := by
  unfold numsL
  rw [List.getD_eq_getElem?_getD, List.getElem?_map, getD_six hi]
  rfl
theorem pick_at {p : Pl} (hok : okPl p = true) {known : Int} {s : List Int} {i : Nat} (hi : i < (lookL p known every).length) : (numsL p known (pickC p known s)).getD i 0 = s.getD i 0 - s.getD (i + 1) 0 := by
  rw [numsL_at hi]
  obtain ⟨h1, h2⟩ := srcIx_spec (mem_count.2 (getD_mem hi))
  unfold numBy pickC
  rw [List.getD_eq_getElem?_getD, List.getElem?_map, getD_six h1]
  show s.getD (srcIx (lookL p known every) ((countL p known).getD (srcIx (countL p known) ((lookL p known every).getD i z6).a) z6).a) 0 - _ = _
  rw [h2, srcIx_cart hok hi]
theorem list_getD_ext {l m : List Int} (h : l.length = m.length) (hg : ∀ i, i < l.length → l.getD i 0 = m.getD i 0) : l = m := by
  refine List.ext_getElem h fun i h1 h2 => ?_
  have := hg i h1
  rw [List.getD_eq_getElem?_getD, List.getD_eq_getElem?_getD, List.getElem?_eq_getElem h1, List.getElem?_eq_getElem h2] at this
  exact this
theorem pick_truS {p : Pl} (hok : okPl p = true) {known : Int} {s : List Int} (hs : s.length = (lookL p known every).length + 1) : truS p known (s.getD 0 0) (pickC p known s) = s := by
  refine list_getD_ext (by rw [truS_len, hs]) fun i hi => ?_
  rw [truS_len] at hi
  rw [truS_at (by omega)]
  have : ∀ k, k ≤ (lookL p known every).length → runK (s.getD 0 0) (numsL p known (pickC p known s)) k = s.getD k 0 := fun k => by
    induction k with
    | zero => intro _; rfl
    | succ k ih =>
      intro hk
      show runK (s.getD 0 0) (numsL p known (pickC p known s)) k - (numsL p known (pickC p known s)).getD k 0 = _
      rw [ih (by omega), pick_at hok (by omega)]
      omega
  exact this i (by omega)
theorem pick_truth {p : Pl} (hok : okPl p = true) {known : Int} {s : List Int} (ht : Tru (lookL p known every) (lookS p known every) s) : truthB p known (s.getD 0 0) (pickC p known s) = true := by
  have hs := ht.1
  refine (truth_iff hok).2 ⟨pickC_len _ _ _, ?_⟩
  rw [pick_truS hok hs]
  have := settle_tru (row_len p known every _ _ _) ht
  exact truBy_iff.2 this
end Go.Proofs.YtkoejeghihcmlaaGreat
