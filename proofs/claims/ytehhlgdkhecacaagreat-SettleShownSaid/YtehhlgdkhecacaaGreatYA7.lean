/- Part of the proof: PD. -/
import Derived.Test.YtehhlgdkhecacaaGreatYA5
namespace Go.Proofs.YtehhlgdkhecacaaGreat
def datQ (q : Qf) : List Int := q.kno :: (if q.unt ≠ 0 then [q.unt] else [])
def datL (l : List Qf) : List Int := l.flatMap datQ
/-- The dates of proofs, rising. -/
def datS (l : List Qf) : List Int := setL (datL l)
/-- The last one that is not greater; -1 if there is none. -/
def lasD (l : List Int) (known : Int) : Int := l.foldl (fun o d => if d ≤ known then d else o) (-1)
theorem lasD_snoc (l : List Int) (d known : Int) : lasD (l ++ [d]) known = if d ≤ known then d else lasD l known := by
 unfold lasD
 rw [List.foldl_append]
 rfl
theorem lasD_spec {known : Int} : ∀ (l : List Int) (o : Int), (l.Pairwise (· < ·)) → (∀ d ∈ l, o < d) →
  (l.foldl (fun o d => if d ≤ known then d else o) o = o ∧ ∀ d ∈ l, known < d) ∨ (l.foldl (fun o d => if d ≤ known then d else o) o ∈ l ∧ l.foldl (fun o d => if d ≤ known then d else o) o ≤ known ∧ ∀ d ∈ l, d ≤ known → d ≤ l.foldl (fun o d => if d ≤ known then d else o) o)
 | [], o, _, _ => .inl ⟨rfl, fun d hd => by cases hd⟩
 | x :: l, o, hp, h0 => by
  obtain ⟨h1, h2⟩ := List.pairwise_cons.1 hp
  rw [List.foldl_cons]
  by_cases hx : x ≤ known
  ·rw [if_pos hx]
   rcases lasD_spec l x h2 h1 (known := known) with ⟨g1, g2⟩ | ⟨g1, g2, g3⟩
   ·right
    rw [g1]
    refine ⟨by simp, hx, fun d hd hk => ?_⟩
    rcases List.mem_cons.1 hd with rfl | hd
    ·exact Int.le_refl _
    ·exact absurd hk (by have := g2 d hd; omega)
   ·right
    refine ⟨List.mem_cons_of_mem _ g1, g2, fun d hd hk => ?_⟩
    rcases List.mem_cons.1 hd with rfl | hd
    ·have := h1 _ g1; omega
    ·exact g3 d hd hk
  ·rw [if_neg hx]
   rcases lasD_spec l o h2 (fun d hd => h0 d (List.mem_cons_of_mem _ hd)) (known := known) with ⟨g1, g2⟩ | ⟨g1, g2, g3⟩
   ·left
    refine ⟨g1, fun d hd => ?_⟩
    rcases List.mem_cons.1 hd with rfl | hd
    ·omega
    ·exact g2 d hd
   ·right
    refine ⟨List.mem_cons_of_mem _ g1, g2, fun d hd hk => ?_⟩
    rcases List.mem_cons.1 hd with rfl | hd
    ·omega
    ·exact g3 d hd hk
theorem dat_kno {l : List Qf} {q : Qf} (h : q ∈ l) : q.kno ∈ datS l := by
 unfold datS
 rw [setL_mem]
 exact List.mem_flatMap.2 ⟨q, h, by unfold datQ; simp⟩
theorem dat_unt {l : List Qf} {q : Qf} (h : q ∈ l) (h0 : q.unt ≠ 0) : q.unt ∈ datS l := by
 unfold datS
 rw [setL_mem]
 exact List.mem_flatMap.2 ⟨q, h, by unfold datQ; rw [if_pos h0]; simp⟩
theorem dat_pos {l : List Qf} (h : ∀ q ∈ l, 0 ≤ q.kno ∧ 0 ≤ q.unt) : ∀ d ∈ datS l, 0 ≤ d := by
 intro d hd
 unfold datS at hd
 rw [setL_mem] at hd
 obtain ⟨q, hq, hd⟩ := List.mem_flatMap.1 hd
 unfold datQ at hd
 rcases List.mem_cons.1 hd with rfl | hd
 ·exact (h q hq).1
 ·split at hd
  ·rw [List.mem_singleton] at hd; rw [hd]; exact (h q hq).2
  ·cases hd
theorem las_none {l : List Qf} {known : Int} (h : ∀ q ∈ l, 0 ≤ q.kno ∧ 0 ≤ q.unt) (h0 : lasD (datS l) known < 0) : cntL l known = [] := by
 have hp := dat_pos h
 rcases lasD_spec (known := known) (datS l) (-1) (setL_up _) (fun d hd => by have := hp d hd; omega) with ⟨-, g2⟩ | ⟨g1, -, -⟩
 ·unfold cntL
  rw [List.filter_eq_nil_iff]
  intro q hq
  have := g2 _ (dat_kno hq)
  unfold cnt
  simp
  intro; omega
 ·have := hp _ g1
  unfold lasD at h0
  omega
theorem las_same {l : List Qf} {known : Int} (h : ∀ q ∈ l, 0 ≤ q.kno ∧ 0 ≤ q.unt) (h0 : ¬ lasD (datS l) known < 0) : cntL l (lasD (datS l) known) = cntL l known ∧ 0 ≤ lasD (datS l) known ∧ lasD (datS l) known ≤ known := by
 have hp := dat_pos h
 rcases lasD_spec (known := known) (datS l) (-1) (setL_up _) (fun d hd => by have := hp d hd; omega) with ⟨g1, -⟩ | ⟨g1, g2, g3⟩
 ·exact absurd (by unfold lasD; rw [g1]; omega) h0
 ·refine ⟨?_, by omega, g2⟩
  unfold cntL
  refine List.filter_congr fun q hq => ?_
  have hk := g3 _ (dat_kno hq)
  have hu : q.unt ≠ 0 → q.unt ≤ known → q.unt ≤ lasD (datS l) known := fun h0 hle => g3 _ (dat_unt hq h0) hle
  have g2' : lasD (datS l) known ≤ known := g2
  have hk' : q.kno ≤ known → q.kno ≤ lasD (datS l) known := hk
  generalize lasD (datS l) known = d at *
  unfold cnt
  rw [Bool.eq_iff_iff]
  simp only [Bool.and_eq_true, Bool.or_eq_true, decide_eq_true_eq]
  constructor
  ·rintro ⟨h1, h2⟩
   refine ⟨by omega, ?_⟩
   rcases h2 with h2 | h2
   ·exact .inl h2
   ·by_cases hz : q.unt = 0
    ·exact .inl hz
    ·right
     have := hu hz
     omega
  ·rintro ⟨h1, h2⟩
   refine ⟨hk' h1, ?_⟩
   rcases h2 with h2 | h2
   ·exact .inl h2
   ·right; omega
/-- Those that are known. -/
def fewL (l : List Qf) (known : Int) : List Qf := l.filter fun q => decide (q.kno ≤ known)
theorem few_cnt (l : List Qf) (known : Int) : cntL (fewL l known) known = cntL l known := by
 unfold cntL fewL
 rw [List.filter_filter]
 refine List.filter_congr fun q _ => ?_
 unfold cnt
 cases decide (q.kno ≤ known) <;> simp
theorem manyF (l : List Qf) : manyL l = (l.map fun q => q.per.length).foldr (· * ·) 1 := by
 have g : ∀ (l : List Nat) (m : Nat), l.foldl (· * ·) m = m * l.foldr (· * ·) 1 := fun l => by
  induction l with
  | nil => intro m; simp
  | cons x l ih => intro m; rw [List.foldl_cons, List.foldr_cons, ih, Nat.mul_assoc]
 unfold manyL
 rw [g, Nat.one_mul]
theorem manyS : ∀ {c l : List Qf}, c.Sublist l → (∀ q ∈ l, 1 ≤ q.per.length) → manyL c ≤ manyL l
 | _, _, .slnil, _ => Nat.le_refl _
 | c, _, .cons (l₂ := l) q h, hq => by
  refine Nat.le_trans (manyS h fun x hx => hq x (List.mem_cons_of_mem _ hx)) ?_
  rw [manyF (q :: l), manyF l, List.map_cons, List.foldr_cons]
  exact Nat.le_mul_of_pos_left _ (hq q (by simp))
 | _, _, .cons_cons (l₁ := c) (l₂ := l) q h, hq => by
  have := manyS h fun x hx => hq x (List.mem_cons_of_mem _ hx)
  rw [manyF c, manyF l] at this
  rw [manyF (q :: c), manyF (q :: l), List.map_cons, List.map_cons, List.foldr_cons, List.foldr_cons]
  exact Nat.mul_le_mul_left _ this
theorem isQf_per1 {q : Qf} (h : isQf q = true) : 1 ≤ q.per.length := by
 unfold isQf at h
 simp only [Bool.and_eq_true] at h
 have := h.1.1.1.1.1.1.1.2
 unfold rng at this
 simp at this
 omega
theorem okL_subl {c l : List Qf} (h : okL l = true) (hs : c.Sublist l) : okL c = true := by
 unfold okL at h ⊢
 simp only [Bool.and_eq_true, decide_eq_true_eq] at h ⊢
 obtain ⟨⟨⟨h1, h2⟩, h3⟩, h4⟩ := h
 have ha : ∀ q ∈ l, isQf q = true := List.all_eq_true.1 h1
 exact ⟨⟨⟨List.all_eq_true.2 fun q hq => ha q (hs.subset hq), Nat.le_trans hs.length_le h2⟩, Nat.le_trans (manyS hs fun q hq => isQf_per1 (ha q hq)) h3⟩, upB_iff.2 ((upB_iff.1 h4).sublist (hs.map _))⟩
theorem few_ok {l : List Qf} (h : okL l = true) (known : Int) : okL (fewL l known) = true := okL_subl h List.filter_sublist
theorem isQf_known {q : Qf} (h : isQf q = true) : 0 ≤ q.kno ∧ 0 ≤ q.unt ∧ q.kno ≤ 4166 ∧ q.unt ≤ 4166 := by
 unfold isQf at h
 simp only [Bool.and_eq_true] at h
 have h1 := h.1.1.1.2
 have h2 := h.1.1.2
 unfold rng at h1 h2
 simp at h1 h2
 omega
end Go.Proofs.YtehhlgdkhecacaaGreat
