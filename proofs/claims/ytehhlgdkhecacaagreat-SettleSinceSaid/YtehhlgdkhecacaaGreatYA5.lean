/- Part of the proof: BT, PC. -/
import Derived.Test.YtehhlgdkhecacaaGreatYA0
import Derived.Test.YtehhlgdkhecacaaGreatYA4
namespace Go.Proofs.YtehhlgdkhecacaaGreat
open Go.RowKit Go.Shelf
theorem refIdx_any (A : Option Addr) (n c : Nat) (l : List Int) (x : Int) (w : World) (ha : Ints w A n l) (hn : n ≤ 1000000) :
  Calls Tryz.prog 100 #[.slice A n c, .int .i64 x] w fun e w' => (∃ i : Int, e = .returned (.int .i64 i) ∧ decide (0 ≤ i) = hasI l x) ∧ w = w' := by
 have HA := Lib.hid ha
 have hlen := Lib.hid ha.1
 clear ha
 go_enter Tryz.func100, Tryz.ntmps100
 go_wp2_with fail
 go_loop [5] (fun i => ∃ k : Nat, k ≤ n ∧ i = .int .i64 k ∧ ∀ j, j < k → l.getD j 0 ≠ x) (fun i => n - (intOf i).toNat)
 case atStart => exact ⟨0, Nat.zero_le _, rfl, fun j hj => absurd hj (by omega)⟩
 case round =>
  obtain ⟨k, hk, rfl, hno⟩ := hrel
  have HNO := Lib.hid hno
  clear hno
  by_cases hkn : k < n
  ·obtain ⟨b, o, rfl, -, hmem, hc⟩ := ints_at HA.out hkn
   have d0 := hc _ (Below.refl _ _)
   obtain ⟨y, hy⟩ : ∃ y, l.getD k 0 = y := ⟨_, rfl⟩
   rw [hy] at d0 hmem
   have HY := Lib.hid hy
   have HM := Lib.hid hmem
   have hki : (k : Int) < (n : Int) := by omega
   have hwr : wrap64 ((k : Int) + 1) = (k : Int) + 1 := wrap_in (by omega)
   clear hc hmem hy
   by_cases e : y = x
   ·subst e
    go_wp2_with fail
    go_ret
    exact ⟨⟨k, rfl, by rw [decide_eq_true (show (0 : Int) ≤ k by omega)]; exact (hasI_true (List.mem_of_getElem? HM.out)).symm⟩, rfl⟩
   ·have e1 : (y == x) = false := by simpa using e
    have E := Lib.hid e
    clear e
    go_wp2_with fail
    go_round
    case rel => exact ⟨k + 1, by omega, by go_num, fun j hj => by
     by_cases e : j = k
     ·subst e; rw [HY.out]; exact E.out
     ·exact HNO.out j (by omega)⟩
    case measure => simp only [intOf]; omega
  ·obtain rfl : n = k := by omega
   have hki : ¬ (n : Int) < (n : Int) := by omega
   go_wp2_with fail
   go_ret
   refine ⟨⟨-1, rfl, ?_⟩, rfl⟩
   rw [decide_eq_false (by omega)]
   exact (hasI_false fun j hj => HNO.out j (by rw [← hlen.out]; exact hj)).symm
theorem refHas_any (A : Option Addr) (n c : Nat) (l : List Int) (x : Int) (w : World) (ha : Ints w A n l) (hn : n ≤ 1000000) :
  Calls Tryz.prog 40 #[.slice A n c, .int .i64 x] w fun e w' => e = .returned (.bool (hasI l x)) ∧ w = w' := by
 have T := refIdx_any A n c l x w ha hn
 generalize hasI l x = r at T ⊢
 clear ha
 go_enter Tryz.func40, Tryz.ntmps40
 go_wp2_with (go_at_call 100; (with_reducible refine T.mono ?_); rintro e w' ⟨⟨i, rfl, hi⟩, rfl⟩)
 go_ret
 exact ⟨rfl, rfl⟩
end Go.Proofs.YtehhlgdkhecacaaGreat

namespace Go.Proofs.YtehhlgdkhecacaaGreat
theorem wherS_mem {c : List Qf} {person day x : Int} : x ∈ wherS c person day ↔ ∃ r, isRd c r = true ∧ setS c r person day = x := by
 unfold wherS
 rw [setL_mem, List.mem_map]
 exact ⟨fun ⟨r, h, e⟩ => ⟨r, mem_reads.1 h, e⟩, fun ⟨r, h, e⟩ => ⟨r, mem_reads.2 h, e⟩⟩
theorem wherS_up (c : List Qf) (person day : Int) : (wherS c person day).Pairwise (· < ·) := setL_up _
theorem righN_no {l : List Int} {p : Int} : righN l p = 0 ↔ p ∉ l := by
 unfold righN
 split
 ·next h => split <;> simp [h]
 ·next h => simp [h]
theorem righN_yes {l : List Int} {p : Int} : righN l p = 1 ↔ l = [p] := by
 unfold righN
 split
 ·next h =>
  split
  ·next h1 =>
   obtain ⟨a, rfl⟩ := List.length_eq_one_iff.1 h1
   rw [List.mem_singleton] at h
   simp [h]
  ·next h1 =>
   constructor
   ·intro e; cases e
   ·intro e; rw [e] at h1; exact absurd rfl h1
 ·next h =>
  constructor
  ·intro e; cases e
  ·intro e; rw [e] at h; simp at h
theorem righN_cases (l : List Int) (p : Int) : righN l p = 0 ∨ righN l p = 1 ∨ righN l p = 2 := by
 unfold righN
 split
 ·split
  ·exact .inr (.inl rfl)
  ·exact .inr (.inr rfl)
 ·exact .inl rfl
theorem right_yes {c : List Qf} {person day p : Int} (h : righN (wherS c person day) p = 1) {r : List Int} (hr : isRd c r = true) : setS c r person day = p := by
 have : setS c r person day ∈ wherS c person day := wherS_mem.2 ⟨r, hr, rfl⟩
 rw [righN_yes.1 h, List.mem_singleton] at this
 exact this
theorem right_no {c : List Qf} {person day p : Int} (h : righN (wherS c person day) p = 0) {r : List Int} (hr : isRd c r = true) : setS c r person day ≠ p := by
 intro e
 exact righN_no.1 h (wherS_mem.2 ⟨r, hr, e⟩)
theorem right_may {c : List Qf} {person day p : Int} (h : righN (wherS c person day) p = 2) : (∃ r, isRd c r = true ∧ setS c r person day = p) ∧ ∃ r, isRd c r = true ∧ setS c r person day ≠ p := by
 have hm : p ∈ wherS c person day := by
  refine Classical.byContradiction fun hn => ?_
  rw [righN_no.2 hn] at h
  cases h
 refine ⟨wherS_mem.1 hm, Classical.byContradiction fun hn => ?_⟩
 have hall : ∀ x ∈ wherS c person day, x = p := fun x hx => by
  obtain ⟨r, hr, e⟩ := wherS_mem.1 hx
  refine Classical.byContradiction fun hne => hn ⟨r, hr, fun e2 => hne (e.symm.trans e2)⟩
 have hl : wherS c person day = [p] := rise_ext (wherS_up _ _ _) (List.pairwise_singleton _ _) fun x => by
  rw [List.mem_singleton]
  exact ⟨hall x, fun e => e ▸ hm⟩
 rw [hl] at h
 rw [righN_yes.2 rfl] at h
 cases h
/-- Does Show find a reading? -/
def dueB (a : Int) (iv : Bool) : Bool := decide (a = 2) || (decide (a = 1) == iv)
theorem shB_iff {c : List Qf} {person parish day : Int} {iv : Bool} {r : List Int} : shB c person parish day iv r = true ↔ (setS c r person day = parish ↔ iv = true) := by
 unfold shB
 by_cases h : setS c r person day = parish
 ·rw [beq_iff_eq.2 h]
  cases iv <;> simp [h]
 ·rw [beq_eq_false_iff_ne.2 h]
  cases iv <;> simp [h]
theorem show_due {c : List Qf} {person parish day : Int} {iv : Bool} (hc : isRead c = true) : ((reads c).find? (shB c person parish day iv)).isSome = dueB (righN (wherS c person day) parish) iv := by
 rw [Bool.eq_iff_iff, List.find?_isSome]
 obtain ⟨r1, hr1⟩ := isRead_iff.1 hc
 have g : (∃ x, x ∈ reads c ∧ shB c person parish day iv x = true) ↔ ∃ r, isRd c r = true ∧ (setS c r person day = parish ↔ iv = true) := by
  constructor
  ·rintro ⟨x, h1, h2⟩; exact ⟨x, mem_reads.1 h1, shB_iff.1 h2⟩
  ·rintro ⟨x, h1, h2⟩; exact ⟨x, mem_reads.2 h1, shB_iff.2 h2⟩
 rw [g]
 rcases righN_cases (wherS c person day) parish with h | h | h
 ·rw [h]
  cases iv
  ·exact ⟨fun _ => rfl, fun _ => ⟨r1, hr1, ⟨fun e => absurd e (right_no h hr1), fun e => by cases e⟩⟩⟩
  ·refine ⟨fun ⟨r, hr, e⟩ => absurd (e.2 rfl) (right_no h hr), fun e => by cases e⟩
 ·rw [h]
  cases iv
  ·refine ⟨fun ⟨r, hr, e⟩ => ?_, fun e => by cases e⟩
   have := e.1 (right_yes h hr)
   cases this
  ·exact ⟨fun _ => rfl, fun _ => ⟨r1, hr1, ⟨fun _ => rfl, fun _ => right_yes h hr1⟩⟩⟩
 ·rw [h]
  obtain ⟨⟨ra, ha, ea⟩, ⟨rb, hb, eb⟩⟩ := right_may h
  cases iv
  ·exact ⟨fun _ => rfl, fun _ => ⟨rb, hb, ⟨fun e => absurd e eb, fun e => by cases e⟩⟩⟩
  ·exact ⟨fun _ => rfl, fun _ => ⟨ra, ha, ⟨fun _ => rfl, fun _ => ea⟩⟩⟩
theorem show_is {c : List Qf} {person parish day : Int} {iv : Bool} (h : ((reads c).find? (shB c person parish day iv)).isSome = true) : isRd c (shL c person parish day iv) = true ∧ shB c person parish day iv (shL c person parish day iv) = true := by
 obtain ⟨r, hr⟩ := Option.isSome_iff_exists.1 h
 unfold shL
 rw [hr]
 exact ⟨mem_reads.1 (List.mem_of_find?_eq_some hr), List.find?_some hr⟩
/-- Somebody who is settled anywhere is named. -/
theorem set_named {c : List Qf} {r : List Int} {person day : Int} (hc : Days c) (hr : isRd c r = true) (h : setS c r person day ≠ -1) : person ∈ persS c := by
 rw [setS_eq hc] at h
 have hne : titL (setS c r) c r person day ≠ [] := by
  intro e
  rw [e] at h
  exact h rfl
 obtain ⟨t, ht⟩ := List.exists_mem_of_ne_nil _ hne
 unfold titL at ht
 obtain ⟨i, hi, -⟩ := List.mem_map.1 ht
 obtain ⟨h1, h2⟩ := List.mem_filter.1 hi
 rw [List.mem_range] at h1
 unfold hasT at h2
 simp only [Bool.and_eq_true, decide_eq_true_eq] at h2
 unfold isRd at hr
 rw [Bool.and_eq_true, List.all_eq_true] at hr
 have := hr.2 i (List.mem_range.2 h1)
 rw [Bool.and_eq_true, decide_eq_true_eq] at this
 unfold persS
 rw [setL_mem]
 unfold namL
 refine List.mem_flatMap.2 ⟨c.getD i q0, ?_, ?_⟩
 ·rw [List.getD_eq_getElem?_getD, List.getElem?_eq_getElem h1]
  exact List.getElem_mem h1
 ·unfold namQ
  rw [List.mem_append]
  left
  rw [← h2.1.1]
  exact this.1
theorem bel_is {c : List Qf} {parish day person : Int} (h : person ∈ belS c parish day) {r : List Int} (hr : isRd c r = true) : setS c r person day = parish := by
 unfold belS memS at h
 obtain ⟨-, h2⟩ := List.mem_filter.1 h
 exact right_yes (of_decide_eq_true h2) hr
theorem may_is {c : List Qf} {parish day person : Int} (hc : Days c) {r : List Int} (hr : isRd c r = true) (hp : parish ≠ -1) (h : setS c r person day = parish) : person ∈ mayS c parish day := by
 unfold mayS memS
 refine List.mem_filter.2 ⟨set_named hc hr (by rw [h]; exact hp), decide_eq_true fun e => right_no e hr h⟩
end Go.Proofs.YtehhlgdkhecacaaGreat
