/- Plain: what the row SheafGrows says of the plot that numbers determine. -/
import Derived.Test.YtkoejeghihcmlaaGreatMG
import Derived.Test.YtkoejeghihcmlaaGreatME
import Derived.Test.YtkoejeghihcmlaaGreatMD
namespace Go.Proofs.YtkoejeghihcmlaaGreat
open Go.RowKit Go.Shelf

theorem first_of {p : Pl} {hours : List Int} {known : Int} (hok : okPl p = true) (hh : ∀ h ∈ hours, 0 ≤ h ∧ h ≤ 99999) (k0 : 0 ≤ known) (k1 : known ≤ 4166) : firstE p hours [known] = 0 := by
  have e1 : hours.any noHour = false := by
    rw [← Bool.not_eq_true, List.any_eq_true]
    rintro ⟨x, hx, hn⟩
    have := hh x hx
    unfold noHour at hn
    rw [rng_of this.1 this.2] at hn
    cases hn
  have e2 : [known].any noDay = false := by
    show (noDay known || false) = false
    unfold noDay
    rw [rng_of k0 k1]; rfl
  unfold firstE
  rw [if_pos hok, e1, e2]
  rfl
theorem ask_of {p : Pl} {hours : List Int} {known : Int} (hok : okPl p = true) (hs : sound (lookS p known every) = true) (hh : ∀ h ∈ hours, 0 ≤ h ∧ h ≤ 99999) (k0 : 0 ≤ known) (k1 : known ≤ 4166) : askE p hours known = 0 := by
  unfold askE
  rw [if_pos (first_of hok hh k0 k1), hs]
  rfl
theorem made_ask (r : Raw) {hour : Int} (h0 : 0 ≤ hour) (h1 : hour ≤ 99999) : askE (madeP r true) [hour] 20 = 0 :=
  ask_of (made_ok r true) (made_sound r) (fun h hh => by rw [List.mem_singleton.1 hh]; exact ⟨h0, h1⟩) (by decide) (by decide)
theorem stoodR_of {p : Pl} {hour known : Int} (h : askE p [hour] known = 0) : stoodR p hour known = (lookS p known every).getD (after (lookL p known every) hour) zR := by unfold stoodR; rw [if_pos h]
theorem clearA_of {p : Pl} {hour known : Int} (h : askE p [hour] known = 0) : clearA p hour known = clearS (stoodR p hour known) := by unfold clearA; rw [if_pos h, stoodR_of h]
theorem firstR_of {p : Pl} {known : Int} (h : askE p [0] known = 0) : firstR p known = ⟨minI (fromsP p known), maxI (fromsP p known)⟩ := by unfold firstR; rw [if_pos h]
theorem clearS_yes {r : Rg} (h0 : 0 ≤ r.lo) (h1 : r.lo ≤ r.hi) : clearS r = 1 ↔ r.hi = 0 := by
  unfold clearS ans
  by_cases h : 0 < r.hi
  · rw [decide_eq_true h, if_neg (by decide)]
    constructor
    · intro hc; split at hc <;> cases hc
    · intro hc; omega
  · rw [decide_eq_false h, if_pos rfl]
    exact ⟨fun _ => by omega, fun _ => rfl⟩
theorem clearS_no {r : Rg} (h0 : 0 ≤ r.lo) (h1 : r.lo ≤ r.hi) : clearS r = 0 ↔ r.lo ≠ 0 := by
  unfold clearS ans
  by_cases h : 0 < r.hi
  · rw [decide_eq_true h, if_neg (by decide)]
    by_cases hl : r.lo = 0
    · rw [decide_eq_true hl, if_neg (by decide)]
      exact ⟨fun hc => (by cases hc), fun hc => absurd hl hc⟩
    · rw [decide_eq_false hl, if_pos rfl]
      exact ⟨fun _ => hl, fun _ => rfl⟩
  · rw [decide_eq_false h, if_pos rfl]
    exact ⟨fun hc => (by cases hc), fun hc => by omega⟩
theorem stoodR_bd {p : Pl} {hour known : Int} (h : askE p [hour] known = 0) : 0 ≤ (stoodR p hour known).lo ∧ (stoodR p hour known).lo ≤ (stoodR p hour known).hi ∧ (stoodR p hour known).hi ≤ 10000 := by
  have hp := ask_parts h
  have hr := look_rw hp.1 hp.2.1
  have ha := after_len (lookL p known every) hour
  rw [stoodR_of h]
  exact ⟨hr.pos _ ha, hr.snd _ ha, look_hi hp.1 known every ha⟩
theorem le_maxI {l : List Int} (h : l ≠ []) {x : Int} : maxI l ≤ x ↔ ∀ y ∈ l, y ≤ x := by
  have hm := maxI_spec h
  exact ⟨fun hc y hy => Int.le_trans (hm.2 y hy) hc, fun hc => hc _ hm.1⟩
theorem lt_minI {l : List Int} (h : l ≠ []) {x : Int} : x < minI l ↔ ∀ y ∈ l, x < y := by
  have hm := minI_spec h
  exact ⟨fun hc y hy => Int.lt_of_lt_of_le hc (hm.2 y hy), fun hc => hc _ hm.1⟩
/-- Whether a field is surely clear, or surely not, by the hours from which it may be. -/
theorem clear_first {p : Pl} {hour known : Int} (h : askE p [hour] known = 0) (h' : askE p [0] known = 0) (h0 : 0 ≤ hour) (h1 : hour ≤ 99999) :
    (clearA p hour known = 1 ↔ (firstR p known).hi ≤ hour) ∧ (clearA p hour known = 0 ↔ hour < (firstR p known).lo) := by
  have hp := ask_parts h
  have hr := look_rw hp.1 hp.2.1
  have hb := stoodR_bd h
  rw [clearA_of h, clearS_yes hb.1 hb.2.1, clearS_no hb.1 hb.2.1, firstR_of h', stoodR_of h]
  dsimp only
  rw [le_maxI (fromsP_ne h), lt_minI (fromsP_ne h)]
  exact ⟨hr.yes_iff h0 h1, hr.no_iff h0 h1⟩
theorem stood_anti {p : Pl} {h l known : Int} (hh : askE p [h] known = 0) (hl : askE p [l] known = 0) (hle : h ≤ l) : (stoodR p l known).lo ≤ (stoodR p h known).lo ∧ (stoodR p l known).hi ≤ (stoodR p h known).hi := by
  have hp := ask_parts hh
  have hr := look_rw hp.1 hp.2.1
  rw [stoodR_of hh, stoodR_of hl]
  exact arc_anti (fun i hi => (hr.wid i hi).1) hr.arc (after_mono _ hle) (after_len _ _)
end Go.Proofs.YtkoejeghihcmlaaGreat
