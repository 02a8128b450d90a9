/- Plain: what true numbers say of what Stood, Clear, Open, First and Carted answer. -/
import Derived.Test.YtkoejeghihcmlaaGreatWE
namespace Go.Proofs.YtkoejeghihcmlaaGreat
open Go.RowKit Go.Shelf

theorem made_count (r : Raw) (right : Bool) {known : Int} (hk : 19 ≤ known) : countL (madeP r right) known = madeLoads r := by
  rw [← made_look20 r right hk, made_look]; rfl
theorem made_nlen (r : Raw) : (madeNums r).length = manyL r := (madeL_ok r).nlen
theorem made_nums (r : Raw) (right : Bool) : numsL (madeP r right) 20 (madeNums r) = madeNums r := by
  have e := made_look20 r right (known := 20) (by omega)
  refine list_getD_ext (by rw [numsL_len, e, made_len, made_nlen]) fun i hi => ?_
  rw [numsL_len] at hi
  rw [numsL_at hi]
  unfold numBy
  rw [made_count r right (by omega), ← e, srcIx_cart (made_ok r right) hi]
theorem made_truS (r : Raw) (right : Bool) : truS (madeP r right) 20 (r.sown % 200) (madeNums r) = leftS r := by
  have e := made_look20 r right (known := 20) (by omega)
  have hl : (leftS r).length = manyL r + 1 := by unfold leftS; rw [List.length_map, List.length_range]
  refine list_getD_ext (by rw [truS_len, e, made_len, hl]) fun i hi => ?_
  rw [truS_len, e, made_len] at hi
  rw [truS_at (by rw [e, made_len]; omega), made_nums, leftS_at (by omega)]
  have : ∀ k, k ≤ manyL r → runK (r.sown % 200) (madeNums r) k = (stL r k).left := fun k => by
    induction k with
    | zero => intro _; rfl
    | succ k ih =>
      intro hk
      show runK (r.sown % 200) (madeNums r) k - (madeNums r).getD k 0 = _
      rw [ih (by omega), left_num (by omega)]
  exact this i (by omega)
theorem made_truth (r : Raw) : truthB (madeP r true) 20 (r.sown % 200) (madeNums r) = true := by
  have e := made_look20 r true (known := 20) (by omega)
  refine (truth_iff (made_ok r true)).2 ⟨by rw [made_nlen, e, made_len], ?_⟩
  rw [made_truS]
  exact truBy_iff.2 (settle_tru (row_len _ _ _ _ _ _) (made_tru r))

theorem stood_in {p : Pl} {hour known : Int} {s : List Int} (h : askE p [hour] known = 0) (ht : Tru (lookL p known every) (lookS p known every) s) :
    (stoodR p hour known).lo ≤ s.getD (after (lookL p known every) hour) 0 ∧ s.getD (after (lookL p known every) hour) 0 ≤ (stoodR p hour known).hi := by
  rw [stoodR_of h]
  exact ht.2.2 _ (after_len _ _)
theorem true_pos {p : Pl} {h known : Int} {s : List Int} (ha : askE p [h] known = 0) (ht : Tru (lookL p known every) (lookS p known every) s) {i : Nat} (hi : i ≤ (lookL p known every).length) : 0 ≤ s.getD i 0 :=
  (look_rw (ask_parts ha).1 (ask_parts ha).2.1).low ht hi
theorem clear_true {p : Pl} {hour known : Int} {s : List Int} (h : askE p [hour] known = 0) (ht : Tru (lookL p known every) (lookS p known every) s) :
    (clearA p hour known = 1 → s.getD (after (lookL p known every) hour) 0 = 0) ∧ (clearA p hour known = 0 → 0 < s.getD (after (lookL p known every) hour) 0) := by
  have hb := stoodR_bd h
  have hi := stood_in h ht
  have hp := true_pos h ht (after_len (lookL p known every) hour)
  rw [clearA_of h, clearS_yes hb.1 hb.2.1, clearS_no hb.1 hb.2.1]
  exact ⟨fun e => by omega, fun e => by omega⟩
def trulyV (p : Pl) (known hour : Int) (s : List Int) : Bool := openB p known hour (clrFrom (lookL p known every) s)
theorem ans_yes {a b : Bool} : ans a b = 1 ↔ b = false := by cases a <;> cases b <;> decide
theorem ans_no {a b : Bool} : ans a b = 0 ↔ b = true ∧ a = false := by cases a <;> cases b <;> decide
theorem ans_maybe {a b : Bool} : ans a b = 2 ↔ b = true ∧ a = true := by cases a <;> cases b <;> decide
theorem from_mem {p : Pl} {h known : Int} {s : List Int} (ha : askE p [h] known = 0) (ht : Tru (lookL p known every) (lookS p known every) s) : clrFrom (lookL p known every) s ∈ fromsP p known :=
  (look_rw (ask_parts ha).1 (ask_parts ha).2.1).mem_froms.2 ⟨s, ht, rfl⟩
theorem open_true {p : Pl} {hour known : Int} {s : List Int} (h : askE p [hour] known = 0) (ht : Tru (lookL p known every) (lookS p known every) s) :
    (openA p hour known = 1 → trulyV p known hour s = true) ∧ (openA p hour known = 0 → trulyV p known hour s = false) := by
  have hm := from_mem h ht
  unfold openA
  rw [if_pos h, ans_yes, ans_no]
  constructor
  · intro e
    rw [List.any_eq_false] at e
    have := e _ hm
    unfold trulyV
    simpa using this
  · rintro ⟨-, e⟩
    rw [List.any_eq_false] at e
    have := e _ hm
    unfold trulyV
    simpa using this
theorem hour_of {p : Pl} {hour known : Int} (h : askE p [hour] known = 0) : 0 ≤ hour ∧ hour ≤ 99999 := by
  have := (ask_parts h).2.2.1
  simp only [List.any_cons, List.any_nil, Bool.or_false] at this
  unfold noHour at this
  rw [Bool.not_eq_false'] at this
  exact rng_iff.1 this
theorem open_from {p : Pl} {known hour f : Int} (h : openB p known hour f = true) : f ≤ hour := by
  unfold openB at h
  rw [Bool.and_eq_true, Bool.and_eq_true, decide_eq_true_eq] at h
  exact h.1.1
theorem truly_clear {p : Pl} {hour known : Int} {s : List Int} (h : askE p [hour] known = 0) (ht : Tru (lookL p known every) (lookS p known every) s) (hv : trulyV p known hour s = true) :
    s.getD (after (lookL p known every) hour) 0 = 0 :=
  ((look_rw (ask_parts h).1 (ask_parts h).2.1).clear_iff ht (hour_of h).1 (hour_of h).2).2 (open_from hv)
theorem first_true {p : Pl} {hour known : Int} {s : List Int} (h : askE p [hour] known = 0) (h0 : askE p [0] known = 0) (ht : Tru (lookL p known every) (lookS p known every) s) :
    (s.getD (after (lookL p known every) hour) 0 = 0 → (firstR p known).lo ≤ hour) ∧ (0 < s.getD (after (lookL p known every) hour) 0 → hour < (firstR p known).hi) := by
  have hr := look_rw (ask_parts h).1 (ask_parts h).2.1
  have hm := from_mem h ht
  have hi := hr.clear_iff ht (hour_of h).1 (hour_of h).2
  have hne : fromsP p known ≠ [] := fromsP_ne h
  rw [firstR_of h0]
  have m1 := (minI_spec hne).2 _ hm
  have m2 := (maxI_spec hne).2 _ hm
  constructor
  · intro e
    have := hi.1 e
    show minI _ ≤ _
    omega
  · intro e
    show _ < maxI _
    rcases Int.lt_or_le hour (clrFrom (lookL p known every) s) with c | c
    · omega
    · have := hi.2 c
      omega
theorem cartIx_at {p : Pl} (hok : okPl p = true) {known : Int} {i : Nat} (hi : i < (lookL p known every).length) : cartIx p ((lookL p known every).getD i z6).a known = i := srcIx_cart hok hi
theorem cartR_at {p : Pl} {h known : Int} (ha : askE p [h] known = 0) (h1 : firstE p [] [known] = 0) {i : Nat} (hi : i < (lookL p known every).length) :
    cartE p ((lookL p known every).getD i z6).a known = 0 ∧ cartR p ((lookL p known every).getD i z6).a known = cartV (lookL p known every) (lookS p known every) i := by
  have e : cartE p ((lookL p known every).getD i z6).a known = 0 := by
    unfold cartE
    rw [if_pos h1, cartIx_at (ask_parts ha).1 hi, if_neg (by omega), (ask_parts ha).2.1]; rfl
  refine ⟨e, ?_⟩
  unfold cartR
  rw [if_pos e, cartIx_at (ask_parts ha).1 hi]
theorem carted_true {p : Pl} {known : Int} {s : List Int} (ht : Tru (lookL p known every) (lookS p known every) s) {i : Nat} (hi : i < (lookL p known every).length) :
    (cartV (lookL p known every) (lookS p known every) i).lo ≤ s.getD i 0 - s.getD (i + 1) 0 ∧ s.getD i 0 - s.getD (i + 1) 0 ≤ (cartV (lookL p known every) (lookS p known every) i).hi := by
  have t1 := ht.2.1 i hi
  have t2 := ht.2.2 i (by omega)
  have t3 := ht.2.2 (i + 1) (by omega)
  unfold cartV
  dsimp only
  omega
theorem leftS_step {r : Raw} {i : Nat} (hi : i < manyL r) : (leftS r).getD i 0 - (leftS r).getD (i + 1) 0 = (madeNums r).getD i 0 := by
  rw [leftS_at (by omega), leftS_at (by omega), left_num hi]
  omega
theorem made_carted (r : Raw) {i : Nat} (hi : i < (madeP r true).loads.length) :
    cartE (madeP r true) ((madeP r true).loads.getD i z6).a 20 = 0 ∧ (cartR (madeP r true) ((madeP r true).loads.getD i z6).a 20).lo ≤ (madeNums r).getD i 0 ∧ (madeNums r).getD i 0 ≤ (cartR (madeP r true) ((madeP r true).loads.getD i z6).a 20).hi := by
  have e := made_look20 r true (known := 20) (by omega)
  have hi' : i < (lookL (madeP r true) 20 every).length := by rw [e]; exact hi
  have ha := made_ask r (hour := 0) (by omega) (by omega)
  have h1 := first_of (p := madeP r true) (hours := []) (known := 20) (made_ok r true) (fun h hh => (by cases hh)) (by omega) (by omega)
  have c := cartR_at ha h1 hi'
  have t := carted_true (made_tru r) hi'
  have hl : (madeP r true).loads = lookL (madeP r true) 20 every := by rw [e]; rfl
  have hm : i < manyL r := by have := made_len r; rw [e] at hi'; omega
  rw [leftS_step hm] at t
  rw [hl, c.1, c.2]
  exact ⟨rfl, t⟩
end Go.Proofs.YtkoejeghihcmlaaGreat
