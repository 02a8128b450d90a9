/- A region that draws its order and whose last operation may break what holds ahead of it: what holds is asked behind every operation but that one. -/
import Derived.Test.YtkoejeghihcmlaaGreatMA
import Derived.Deep.RegionHeld3
namespace Go.Proofs.YtkoejeghihcmlaaGreat
open Go.RowKit Go.Shelf

section
variable {P : Program} {ops : Array Oper} {Q : Exit → Act → World → Prop} {md : Region.Mode} {S : World → Prop} {last : Nat}

/-- Whatever order is picked from here on; 'S' holds behind every operation but 'last'. -/
def wpAnyT (P : Program) (md : Region.Mode) (ops : Array Oper) (Q : Exit → Act → World → Prop) (S : World → Prop) (last : Nat) : Nat → Array Bool → Act → World → Prop
  | 0, listed, a, w => Region.ready md ops listed = [] ∧ Q .normal a w
  | fuel + 1, listed, a, w =>
    (Region.ready md ops listed = [] → Q .normal a w) ∧
    ∀ i ∈ Region.ready md ops listed, wpOp P ops Q i (fun a' w' => (i ≠ last → S w') ∧ wpAnyT P md ops Q S last fuel (listed.setIfInBounds i true) a' w') a w
theorem wpAny_of_till : ∀ (fuel : Nat) (listed : Array Bool) (a : Act) (w : World), wpAnyT P md ops Q S last fuel listed a w → wpAny P md ops Q fuel listed a w
  | 0, _, _, _, h => h
  | fuel + 1, _, _, _, h => ⟨h.1, fun i hi => wpOp_mono (fun a' w' h' => wpAny_of_till fuel _ a' w' h'.2) (h.2 i hi)⟩

theorem waits_not {m i : Nat} {listed : Array Bool} (hw : Region.waitsFor md ops m i = true) (hun : listed.getD i true = false) : m ∉ Region.ready md ops listed := fun hm => by
  obtain ⟨oj, hoj, e, he, hb, hon⟩ := Region.waitsFor_spec hw
  obtain ⟨-, o2, ho2, hall⟩ := mem_ready.1 hm
  cases hoj.symm.trans ho2
  have := hall e he hb
  rw [hon, getD_both hun] at this
  cases this

/-- A way from 'i' to the last operation: each waits for the one ahead, none has come up. -/
def pathB (md : Region.Mode) (ops : Array Oper) (last : Nat) (listed : Array Bool) : Nat → List Nat → Bool
  | i, [] => decide (i = last)
  | i, m :: ms => Region.waitsFor md ops m i && (!(listed.getD m true) && pathB md ops last listed m ms)
theorem path_not {listed : Array Bool} : ∀ (ms : List Nat) (i : Nat), pathB md ops last listed i ms = true → listed.getD i true = false → i ≠ last → last ∉ Region.ready md ops listed
  | [], i, h, _, hil => absurd (of_decide_eq_true h) hil
  | m :: ms, i, h, hun, _ => by
    simp only [pathB, Bool.and_eq_true, Bool.not_eq_true'] at h
    by_cases e : m = last
    · subst e; exact waits_not h.1 hun
    · exact path_not ms m h.2.2 h.2.1 e
theorem path_step {listed : Array Bool} {j : Nat} (hj : j ∈ Region.ready md ops listed) : ∀ (ms : List Nat) (i : Nat), pathB md ops last listed i ms = true → listed.getD i true = false → pathB md ops last (listed.setIfInBounds j true) i ms = true
  | [], _, h, _ => h
  | m :: ms, i, h, hun => by
    simp only [pathB, Bool.and_eq_true, Bool.not_eq_true'] at h ⊢
    have : j ≠ m := fun e => by subst e; exact waits_not h.1 hun hj
    exact ⟨h.1, by rw [getD_set_ne true this]; exact h.2.1, path_step hj ms m h.2.2 h.2.1⟩

theorem wpAnyT_first {i : Nat} (ms : List Nat) {oi : Oper} {v : Value} (hi : ops[i]? = some oi) (hsel : ∀ (j : Nat) (o : Oper) cs b, ops[j]? = some o → o.op ≠ .select cs b)
    (hQ : ∀ c a w, Q (.panic c) (a.put oi.dst v) w → Q (.panic c) a w) :
    ∀ (fuel : Nat) (listed : Array Bool) (a : Act) (w : World),
      (∀ j oj, ops[j]? = some oj → j ≠ i → listed.getD j true = false → (∀ e ∈ oj.after, Region.binds md e = true → e.on ≠ i) → oi.apart ops oj = true) →
      i ∈ Region.ready md ops listed → i ≠ last → pathB md ops last listed i ms = true → YieldsIf P ops S oi v a → S w →
      wpAnyT P md ops Q S last fuel (listed.setIfInBounds i true) (a.put oi.dst v) w → wpAnyT P md ops Q S last (fuel + 1) listed a w := by
  intro fuel
  induction fuel with
  | zero =>
    intro listed a w _ hr hil hla hy hS H
    refine ⟨fun h => (by rw [h] at hr; cases hr), fun j hj => ?_⟩
    by_cases hji : j = i
    · subst hji; exact hy.wpOp hi hS ⟨fun _ => hS, H⟩
    · have := ready_mono hj hji
      rw [H.1] at this
      cases this
  | succ fuel ih =>
    intro listed a w hfree hr hil hla hy hS H
    refine ⟨fun h => (by rw [h] at hr; cases hr), fun j hj => ?_⟩
    by_cases hji : j = i
    · subst hji; exact hy.wpOp hi hS ⟨fun _ => hS, H⟩
    · have h1 := H.2 j (ready_mono hj hji)
      obtain ⟨hjun, oj, hoj, hall⟩ := mem_ready.1 hj
      have h0 := (mem_ready.1 hr).1
      have hnot : ∀ e ∈ oj.after, Region.binds md e = true → e.on ≠ i := fun e he hb heq => by
        have h1 := hall e he hb
        rw [heq, getD_both h0] at h1; cases h1
      have hjl : j ≠ last := fun e => path_not ms i hla h0 hil (e ▸ hj)
      have h2 := wpOp_putIf hoj (hfree j oj hoj hji hjun hnot) (fun cs b => hsel i oi cs b hi) (fun cs b => hsel j oj cs b hoj) hQ hy h1
      have hfree' : ∀ k ok, ops[k]? = some ok → k ≠ i → (listed.setIfInBounds j true).getD k true = false →
          (∀ e ∈ ok.after, Region.binds md e = true → e.on ≠ i) → oi.apart ops ok = true := fun k ok hk hki hun hno => by
        refine hfree k ok hk hki ?_ hno
        by_cases hjk : j = k
        · subst hjk; exact hjun
        · rw [getD_set_ne true hjk] at hun; exact hun
      refine wpOp_mono (fun a' w' h3 => ⟨h3.2.1, ih (listed.setIfInBounds j true) a' w' hfree' (ready_mono hr (Ne.symm hji)) hil (path_step hj ms i hla h0) h3.1 (h3.2.1 hjl) ?_⟩) h2
      rw [Array.setIfInBounds_comm _ _ hji]
      exact h3.2.2

/-- A load, or what yields anyhow, may be taken first: 'ms' leads from it to the last operation. -/
theorem till_take (ms : List Nat) {i : Nat} {oi : Oper} {d : Option Tmp} {v : Value} {fuel : Nat} {listed : Array Bool} {a : Act} {w : World} (hi : ops[i]? = some oi) (hd : oi.dst = d)
    (hs : Region.noSelect ops = true) (hf : (Region.free md ops listed i && ((Region.ready md ops listed).contains i && (decide (i ≠ last) && pathB md ops last listed i ms))) = true)
    (hQ : ∀ c a w, Q (.panic c) (a.put oi.dst v) w → Q (.panic c) a w) (hg : Region.wanted oi (yielded ops a.tmps) = true) (hy : ∀ w, S w → (execOp a.eval oi).run P w = .ok (.value v) w) (hS : S w)
    (h : wpAnyT P md ops Q S last fuel (listed.setIfInBounds i true) (a.put d v) w) : wpAnyT P md ops Q S last (fuel + 1) listed a w := by
  subst hd
  simp only [Bool.and_eq_true, decide_eq_true_eq] at hf
  obtain ⟨hf, hr, hil, hw⟩ := hf
  exact wpAnyT_first ms hi (Region.noSelect_spec hs) hQ fuel listed a w (Region.free_spec hi hf) (by simpa using hr) hil hw (.inl ⟨hg, hy⟩) hS h

/-- One operation alone may come up. -/
theorem till_one (i : Nat) {o : Oper} {fuel : Nat} {listed : Array Bool} {a : Act} {w : World} (ho : ops[i]? = some o) (hr : Region.ready md ops listed = [i]) (hil : i ≠ last)
    (h : ∀ K' : Act → World → Prop, Shut (∀ a w, S w → (S w → wpAnyT P md ops Q S last fuel (listed.setIfInBounds i true) a w) → K' a w) → if Region.wanted o (yielded ops a.tmps) = true then Oper.wp P o a w K' Q else K' (a.put o.dst undef) w) :
    wpAnyT P md ops Q S last (fuel + 1) listed a w :=
  ⟨fun h0 => (by rw [hr] at h0; cases h0), fun j hj => by
    rw [hr] at hj
    obtain rfl : j = i := by simpa using hj
    exact wpOp_step ho (fun K' hK => h K' (fun a w hS hW => hK a w ⟨fun _ => hS, hW hS⟩))⟩
/-- The last. -/
theorem till_last {o : Oper} {fuel : Nat} {listed : Array Bool} {a : Act} {w : World} (ho : ops[last]? = some o) (hr : Region.ready md ops listed = [last]) (hr2 : Region.ready md ops (listed.setIfInBounds last true) = [])
    (h : ∀ K' : Act → World → Prop, Shut (∀ a w, Q .normal a w → K' a w) → if Region.wanted o (yielded ops a.tmps) = true then Oper.wp P o a w K' Q else K' (a.put o.dst undef) w) :
    wpAnyT P md ops Q S last (fuel + 1) listed a w :=
  ⟨fun h0 => (by rw [hr] at h0; cases h0), fun j hj => by
    rw [hr] at hj
    obtain rfl : j = last := by simpa using hj
    refine wpOp_step ho (fun K' hK => h K' (fun a w hW => hK a w ⟨fun h => absurd rfl h, ?_⟩))
    cases fuel with
    | zero => exact ⟨hr2, hW⟩
    | succ f => exact ⟨fun _ => hW, by rw [hr2]; simp⟩⟩
theorem wp_region_till {id : Nat} {a : Act} {w : World} (last : Nat) (hm : P.follows .mixedOrders = true) (hS : S w.drew)
    (h : S w.drew → wpAnyT P .any ops Q S last ops.size (Array.replicate ops.size false) a w.drew) : (Code.region id ops true).wp P Q a w :=
  wp_region_any hm (wpAny_of_till _ _ _ _ (h hS))
end
end Go.Proofs.YtkoejeghihcmlaaGreat
