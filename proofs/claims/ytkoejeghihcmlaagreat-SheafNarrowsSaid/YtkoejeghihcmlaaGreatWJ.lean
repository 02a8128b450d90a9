/- Plain: what true numbers are, as the program looks at them. -/
import Derived.Test.YtkoejeghihcmlaaGreatMF
namespace Go.Proofs.YtkoejeghihcmlaaGreat
open Go.RowKit Go.Shelf

def countL (p : Pl) (known : Int) : List Six := p.loads.filter fun x => cnt x known
def srcIx (l : List Six) (s : Int) : Nat := l.findIdx (isSrc s)
def numBy (p : Pl) (known : Int) (ns : List Int) (s : Int) : Int := ns.getD (srcIx (countL p known) s) 0
def numsL (p : Pl) (known : Int) (ns : List Int) : List Int := (lookL p known every).map fun x => numBy p known ns x.a
def numsB (p : Pl) (known sown : Int) (ns : List Int) : Bool := decide (ns.length = (lookL p known every).length) && rng sown p.lo p.hi
/-- What stood after so many loads. -/
def runK (sown : Int) (ns : List Int) : Nat → Int
  | 0 => sown
  | k + 1 => runK sown ns k - ns.getD k 0
def runS (sown : Int) (ns : List Int) : List Int := (List.range (ns.length + 1)).map (runK sown ns)
def truS (p : Pl) (known sown : Int) (ns : List Int) : List Int := runS sown (numsL p known ns)
def tookB (ls : List Six) (ns : List Int) (i : Nat) : Bool := rng (ns.getD i 0) (ls.getD i z6).c (ls.getD i z6).d
def standB (known : Int) (ls : List Six) (s : List Int) (x : Six) : Bool := !cnt x known || rng (s.getD (after ls x.b) 0) x.c x.d
def truthB (p : Pl) (known sown : Int) (ns : List Int) : Bool :=
  numsB p known sown ns && (List.range (lookL p known every).length).all (tookB (lookL p known every) (numsL p known ns)) &&
    p.stands.all (standB known (lookL p known every) (truS p known sown ns)) && decide (0 ≤ runK sown (numsL p known ns) (lookL p known every).length)
theorem numsL_len (p : Pl) (known : Int) (ns : List Int) : (numsL p known ns).length = (lookL p known every).length := by unfold numsL; rw [List.length_map]
theorem runS_len (sown : Int) (ns : List Int) : (runS sown ns).length = ns.length + 1 := by unfold runS; rw [List.length_map, List.length_range]
theorem runS_at {sown : Int} {ns : List Int} {i : Nat} (hi : i ≤ ns.length) : (runS sown ns).getD i 0 = runK sown ns i := by
  unfold runS
  rw [List.getD_eq_getElem?_getD, List.getElem?_map, List.getElem?_range (by omega)]
  rfl
theorem truS_len (p : Pl) (known sown : Int) (ns : List Int) : (truS p known sown ns).length = (lookL p known every).length + 1 := by unfold truS; rw [runS_len, numsL_len]
theorem truS_at {p : Pl} {known sown : Int} {ns : List Int} {i : Nat} (hi : i ≤ (lookL p known every).length) : (truS p known sown ns).getD i 0 = runK sown (numsL p known ns) i := by
  unfold truS; exact runS_at (by rw [numsL_len]; exact hi)
theorem run_down {sown : Int} {ns : List Int} {n : Nat} (h : ∀ i, i < n → 0 ≤ ns.getD i 0) : ∀ k i, i + k = n → runK sown ns n ≤ runK sown ns i
  | 0, i, e => by have : i = n := by omega
                  subst this; exact Int.le_refl _
  | k + 1, i, e => by
    have ih := run_down (sown := sown) h k (i + 1) (by omega)
    have h1 := h i (by omega)
    have e1 : runK sown ns (i + 1) = runK sown ns i - ns.getD i 0 := rfl
    omega
theorem run_le {sown : Int} {ns : List Int} {n : Nat} (h : ∀ i, i < n → 0 ≤ ns.getD i 0) : ∀ i, i ≤ n → runK sown ns i ≤ sown
  | 0, _ => Int.le_refl _
  | i + 1, hi => by
    have ih := run_le (sown := sown) h i (by omega)
    have h1 := h i (by omega)
    have e1 : runK sown ns (i + 1) = runK sown ns i - ns.getD i 0 := rfl
    omega
theorem rng_iff {n lo hi : Int} : rng n lo hi = true ↔ lo ≤ n ∧ n ≤ hi := by
  unfold rng
  rw [Bool.and_eq_true]
  exact ⟨fun h => ⟨of_decide_eq_true h.1, of_decide_eq_true h.2⟩, fun h => ⟨decide_eq_true h.1, decide_eq_true h.2⟩⟩
/-- The loads' numbers by sources, as far as the loads have been looked at. -/
def gK (l : List Six) (ns : List Int) (s : Int) : Int := if srcIx l s < l.length then ns.getD (srcIx l s) 0 else 0
theorem isSrc_iff {s : Int} {x : Six} : isSrc s x = true ↔ x.a = s := by unfold isSrc; exact ⟨fun h => of_decide_eq_true h, fun h => decide_eq_true h⟩
theorem srcIx_snoc {l : List Six} {x : Six} {s : Int} : srcIx (l ++ [x]) s = if srcIx l s < l.length then srcIx l s else (if x.a = s then l.length else l.length + 1) := by
  unfold srcIx
  rw [List.findIdx_append]
  by_cases h : l.findIdx (isSrc s) < l.length
  · rw [if_pos h, if_pos h]
  · rw [if_neg h, if_neg h]
    by_cases hx : x.a = s
    · have e : isSrc s x = true := isSrc_iff.2 hx
      rw [if_pos hx, List.findIdx_cons, e]
      show (0 : Nat) + l.length = l.length
      omega
    · have e : isSrc s x = false := by
        cases h : isSrc s x with
        | false => rfl
        | true => exact absurd (isSrc_iff.1 h) hx
      rw [if_neg hx, List.findIdx_cons, e]
      show (0 + 1 : Nat) + l.length = l.length + 1
      omega
theorem srcIx_le (l : List Six) (s : Int) : srcIx l s ≤ l.length := List.findIdx_le_length
theorem srcIx_no {l : List Six} {s : Int} (h : s ∉ srcs l) : srcIx l s = l.length := by
  unfold srcIx
  refine findIdx_no fun j hj => ?_
  cases hs : isSrc s (l.getD j z6) with
  | false => rfl
  | true => exact absurd (List.mem_map.2 ⟨_, getD_mem hj, isSrc_iff.1 hs⟩) h
theorem gK_snoc {l : List Six} {x : Six} {ns : List Int} {s : Int} (h : x.a ∉ srcs l) : gK (l ++ [x]) ns s = if s = x.a then ns.getD l.length 0 else gK l ns s := by
  unfold gK
  rw [srcIx_snoc, List.length_append, List.length_singleton]
  by_cases e : s = x.a
  · have e1 : ¬ srcIx l s < l.length := by rw [e, srcIx_no h]; omega
    rw [if_neg e1, if_pos e.symm, if_pos e, if_pos (by omega)]
  · have e2 : ¬ x.a = s := fun c => e c.symm
    rw [if_neg e]
    by_cases hl : srcIx l s < l.length
    · rw [if_pos hl, if_pos (by omega), if_pos hl]
    · rw [if_neg hl, if_neg e2, if_neg (by omega), if_neg hl]
theorem gK_all {p : Pl} {known : Int} {ns : List Int} (hl : ns.length = (countL p known).length) (s : Int) : gK (countL p known) ns s = numBy p known ns s := by
  unfold gK numBy
  by_cases h : srcIx (countL p known) s < (countL p known).length
  · rw [if_pos h]
  · rw [if_neg h, List.getD_eq_getElem?_getD, List.getElem?_eq_none (by omega)]; rfl
def cntK (p : Pl) (known : Int) (k : Nat) : List Six := (p.loads.take k).filter fun x => cnt x known
theorem cntK_succ {p : Pl} {known : Int} {k : Nat} (hk : k < p.loads.length) : cntK p known (k + 1) = cntK p known k ++ (if cnt (p.loads.getD k z6) known = true then [p.loads.getD k z6] else []) := by
  unfold cntK
  rw [List.take_succ_eq_append_getElem hk, List.filter_append, ← six_get hk]
  congr 1
  rw [List.filter_cons]
  split <;> rfl
theorem cntK_zero (p : Pl) (known : Int) : cntK p known 0 = [] := rfl
theorem cntK_all {p : Pl} {known : Int} {k : Nat} (hk : p.loads.length ≤ k) : cntK p known k = countL p known := by unfold cntK countL; rw [List.take_of_length_le hk]
theorem cntK_len {p : Pl} {known : Int} {k : Nat} : (cntK p known k).length ≤ k := Nat.le_trans (List.length_filter_le _ _) (List.length_take_le _ _)
theorem cntK_sub (p : Pl) (known : Int) (k : Nat) : (cntK p known k).Sublist (countL p known) := (List.take_sublist _ _).filter _
theorem cntK_lt {p : Pl} {known : Int} {k : Nat} (hk : k < p.loads.length) (hc : cnt (p.loads.getD k z6) known = true) : (cntK p known k).length < (countL p known).length := by
  have h1 := (cntK_sub p known (k + 1)).length_le
  rw [cntK_succ hk, if_pos hc, List.length_append, List.length_singleton] at h1
  omega
theorem cntK_src {p : Pl} (hok : okPl p = true) {known : Int} {k : Nat} (hk : k < p.loads.length) : (p.loads.getD k z6).a ∉ srcs (cntK p known k) := by
  unfold okPl at hok
  rw [Bool.and_eq_true, Bool.and_eq_true, Bool.and_eq_true, Bool.and_eq_true] at hok
  have h1 := hok.1.1.1.1
  unfold okL at h1
  rw [Bool.and_eq_true, List.all_eq_true] at h1
  have h2 := (okAt_parts (h1.1 k (List.mem_range.2 hk))).2.2
  intro hc
  obtain ⟨y, hy, e⟩ := List.mem_map.1 hc
  unfold cntK at hy
  exact h2 (List.mem_append_right _ (List.mem_map.2 ⟨y, (List.mem_filter.1 hy).1, e⟩))
theorem load_num {p : Pl} (hok : okPl p = true) {x : Six} (hx : x ∈ p.loads) : 1 ≤ x.a ∧ x.a ≤ 99999 := by
  unfold okPl at hok
  rw [Bool.and_eq_true, Bool.and_eq_true, Bool.and_eq_true, Bool.and_eq_true] at hok
  exact load_src (okL_all hok.1.1.1.1 hx)
theorem count_len (p : Pl) (known : Int) : (countL p known).length = (lookL p known every).length := by
  unfold lookL countL pickL
  rw [srtH_len, List.length_map]
theorem look_src {p : Pl} (hok : okPl p = true) {known : Int} {x : Six} (hx : x ∈ lookL p known every) : 1 ≤ x.a ∧ x.a ≤ 99999 := by
  unfold lookL pickL at hx
  rw [(srtH_perm _).mem_iff] at hx
  obtain ⟨y, hy, e⟩ := List.mem_map.1 hx
  have := load_num hok (List.mem_filter.1 hy).1
  rw [← e]
  unfold every
  exact this
end Go.Proofs.YtkoejeghihcmlaaGreat
