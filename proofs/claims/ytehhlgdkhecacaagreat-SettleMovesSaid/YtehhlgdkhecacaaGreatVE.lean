import Derived.Test.YtehhlgdkhecacaaGreatVA4
import Derived.Laws.MakeOwn
namespace Go.Proofs.YtehhlgdkhecacaaGreat
open Go.RowKit
section
variable {P : Program} {ops : Array Oper} {md : Region.Mode} {C : World → Prop}
def wpAnyLQ (P : Program) (md : Region.Mode) (ops : Array Oper) (C : World → Prop) (n : Nat) (L : Array Bool → Act → Prop) : Nat → Array Bool → Act → Prop
  | 0, listed, a => L listed a
  | f + 1, listed, a =>
    Region.ready md ops listed ≠ [] ∧ ∀ i ∈ Region.ready md ops listed, i < n ∧ qOp P ops C i (wpAnyLQ P md ops C n L f (listed.setIfInBounds i true)) a
theorem wpAnyQ_of_head {n g : Nat} {L : Array Bool → Act → Prop} {Q' : Exit → Act → World → Prop} (hL : ∀ listed a w, C w → L listed a → wpAny P md ops Q' g listed a w) :
    ∀ (f : Nat) (listed : Array Bool) (a : Act) (w : World), C w → wpAnyLQ P md ops C n L f listed a → wpAny P md ops Q' (f + g) listed a w
  | 0, listed, a, w, hw, h => by rw [Nat.zero_add]; exact hL _ _ _ hw h
  | f + 1, listed, a, w, hw, h => by
    rw [show f + 1 + g = (f + g) + 1 by omega]
    exact ⟨fun h0 => absurd h0 h.1, fun i hi => wpOp_of_qOp hw (fun a' w' hw' h' => wpAnyQ_of_head hL f _ a' w' hw' h') (h.2 i hi).2⟩
theorem wpAnyLQ_first {n i : Nat} {oi : Oper} {v : Value} {L : Array Bool → Act → Prop} (hi : ops[i]? = some oi) (hsel : ∀ (j : Nat) (o : Oper) cs b, ops[j]? = some o → o.op ≠ .select cs b)
    (hs : Region.sinkB md ops n = true) (hc : Region.chainB md ops n = true) (hn : n < ops.size) (hin : i < n)
    (hdone : ∀ listed a, L listed a → ∀ j ∈ Region.ready md ops listed, n ≤ j) :
    ∀ (f : Nat) (listed : Array Bool) (a : Act), HeadInv md ops n listed →
      (∀ j oj, ops[j]? = some oj → j ≠ i → listed.getD j true = false → (∀ e ∈ oj.after, Region.binds md e = true → e.on ≠ i) → oi.apart ops oj = true) →
      i ∈ Region.ready md ops listed → YieldsIn P ops C oi v a →
      wpAnyLQ P md ops C n L f (listed.setIfInBounds i true) (a.put oi.dst v) → wpAnyLQ P md ops C n L (f + 1) listed a := by
  intro f
  induction f with
  | zero =>
    intro listed a inv _ hr hy H
    have hun := (mem_ready.1 hr).1
    refine ⟨fun h => (by rw [h] at hr; cases hr), fun j hj => ?_⟩
    have hjn : j < n := by
      rcases Nat.lt_or_ge j n with h | h
      · exact h
      · exact absurd hj (tail_waits hs hc hn inv _ i rfl hin hun j h)
    refine ⟨hjn, ?_⟩
    by_cases hji : j = i
    · subst hji; exact hy.qOp hi H
    · have := hdone _ _ H j (ready_mono hj hji)
      omega
  | succ f ih =>
    intro listed a inv hfree hr hy H
    have hun := (mem_ready.1 hr).1
    refine ⟨fun h => (by rw [h] at hr; cases hr), fun j hj => ?_⟩
    have hjn : j < n := by
      rcases Nat.lt_or_ge j n with h | h
      · exact h
      · exact absurd hj (tail_waits hs hc hn inv _ i rfl hin hun j h)
    refine ⟨hjn, ?_⟩
    by_cases hji : j = i
    · subst hji; exact hy.qOp hi H
    · have h1 := (H.2 j (ready_mono hj hji)).2
      obtain ⟨hjun, oj, hoj, hall⟩ := mem_ready.1 hj
      have hnot : ∀ e ∈ oj.after, Region.binds md e = true → e.on ≠ i := fun e he hb heq => by
        have h1 := hall e he hb
        rw [heq, getD_both hun] at h1
        cases h1
      have h2 := qOp_put hoj (hfree j oj hoj hji hjun hnot) (fun cs b => hsel i oi cs b hi) (fun cs b => hsel j oj cs b hoj) hy h1
      have hfree' : ∀ k ok, ops[k]? = some ok → k ≠ i → (listed.setIfInBounds j true).getD k true = false →
          (∀ e ∈ ok.after, Region.binds md e = true → e.on ≠ i) → oi.apart ops ok = true := fun k ok hk hki hun hno => by
        refine hfree k ok hk hki ?_ hno
        by_cases hjk : j = k
        · subst hjk; exact hjun
        · rw [getD_set_ne true hjk] at hun; exact hun
      refine qOp_mono (fun a' h3 => ih (listed.setIfInBounds j true) a' (inv.set hj hjn) hfree' (ready_mono hr (Ne.symm hji)) h3.1 ?_) h2
      rw [Array.setIfInBounds_comm _ _ hji]
      exact h3.2
theorem wpAnyLQ_lex {n g : Nat} {Lq : Act → Prop} (hsel : Region.noSelect ops = true) (hs : Region.sinkB md ops n = true) (hc : Region.chainB md ops n = true) (hn : n < ops.size) :
    ∀ (l : List Oper) (k : Nat) (listed : Array Bool) (a : Act), (∀ j, j < l.length → l[j]? = ops[k + j]?) → k + l.length = n → HeadInv md ops n listed →
    Region.lexHead md ops g l.length k listed = true → wpQuiet P ops C Lq l a →
    wpAnyLQ P md ops C n (fun listed' a' => Region.seqB md ops g n listed' = true ∧ Lq a') l.length listed a
  | [], k, listed, a, _, hk, _, hB, h => by
    have : k = n := by simpa using hk
    subst this
    exact ⟨by simpa [Region.lexHead] using hB, h⟩
  | o :: l, k, listed, a, hl, hk, inv, hB, h => by
    have h0 : ops[k]? = some o := by simpa using (hl 0 (by simp)).symm
    simp only [List.length_cons, Region.lexHead, Bool.and_eq_true] at hB
    obtain ⟨⟨hr, hf⟩, hB'⟩ := hB
    have hkn : k < n := by simp only [List.length_cons] at hk; omega
    have hr' : k ∈ Region.ready md ops listed := by simpa using hr
    have hst : qOp P ops C k (wpQuiet P ops C Lq l) a := by unfold qOp; simp only [h0]; exact h
    obtain ⟨v, hy, hK⟩ := yieldsIn_of_qOp h0 hst
    exact wpAnyLQ_first h0 (Region.noSelect_spec hsel) hs hc hn hkn (fun listed' a' hL => seqB_ready hL.1) l.length listed a inv (Region.free_spec h0 hf) hr' hy
      (wpAnyLQ_lex hsel hs hc hn l (k + 1) _ _ (fun j hj => by have := hl (j + 1) (by simp; omega); simpa [Nat.add_assoc, Nat.add_comm 1 j] using this) (by simp only [List.length_cons] at hk; omega) (inv.set hr' hkn) hB' hK)
/-- A region that draws its order: its first n operations only read (their callees at most make memory); the others come up behind them, in the order of the text. -/
theorem wp_region_calm_tail {id : Nat} {Q : Exit → Act → World → Prop} {a : Act} {w : World} {l : List Oper} (W : World) (n : Nat) (hm : P.follows .mixedOrders = true) (hB : Region.lexTailB .any l.toArray n = true)
    (hw : Below W.heap.size W w)
    (h : wpQuiet P l.toArray (fun w' => ∃ x : Wd W, w' = x.val) (fun a' => ∀ w', (∃ x : Wd W, w' = x.val) → wpList P l.toArray Q (l.drop n) a' w') (l.take n) a) : (Code.region id l.toArray true).wp P Q a w := by
  simp only [Region.lexTailB, Bool.and_eq_true, decide_eq_true_eq] at hB
  obtain ⟨⟨⟨⟨hsel, hn⟩, hs⟩, hc⟩, hlex⟩ := hB
  have hn' : n < l.length := by simpa using hn
  have htl : (l.take n).length = n := by simp; omega
  have hdl : (l.drop n).length = l.toArray.size - n := by simp
  have inv0 : HeadInv .any l.toArray n (Array.replicate l.toArray.size false) :=
    ⟨by simp, fun j oj _ hl => (by rw [getD_replicate_false] at hl; cases hl), fun t _ ht => getD_in (by simpa using ht) (getD_replicate_false _ _)⟩
  have H := wpAnyLQ_lex (md := .any) (g := l.toArray.size - n) hsel hs hc hn (l.take n) 0 _ a (fun j hj => by
    have hj' : j < n := by rw [htl] at hj; exact hj
    simp [hj']) (by simpa using htl) inv0 (by rw [htl]; exact hlex) h
  refine wp_region_any hm ?_
  have := wpAnyQ_of_head (Q' := Q) (g := l.toArray.size - n) (fun listed a' w' hw' hL => by
    have := wpAny_of_seq (md := .any) (Q' := Q) (l.drop n) n listed a' w' (fun j => by simp [List.getElem?_drop]) (by rw [hdl]; exact hL.1) (hL.2 _ hw')
    rwa [hdl] at this) _ _ _ { w with drawn := w.drawn + 1 } (Wd.of (show Below W.heap.size W w.drew from hw.drew)) H
  rw [htl, show n + (l.toArray.size - n) = l.toArray.size by omega] at this
  exact this
end
end Go.Proofs.YtehhlgdkhecacaaGreat
namespace Go.Proofs.YtehhlgdkhecacaaGreat
def lastF (day : Int) (l : List Tt) (out : Int) : Int := l.foldl (fun out t => if t.day ≤ day then t.par else out) out
theorem lastT_F (l : List Tt) (day : Int) : lastT l day = lastF day l (-1) := rfl
theorem last_spec {day : Int} : ∀ {m : List Tt} (out : Int), UpT m → ((∀ t ∈ m, day < t.day) ∧ lastF day m out = out) ∨ ∃ t ∈ m, t.day ≤ day ∧ lastF day m out = t.par ∧ ∀ u ∈ m, u.day ≤ day → u = t ∨ ltT u t = true
  | [], out, _ => .inl ⟨fun t ht => absurd ht (by simp), rfl⟩
  | x :: m, out, h => by
    obtain ⟨h1, h2⟩ := List.pairwise_cons.1 h
    show ((∀ t ∈ x :: m, day < t.day) ∧ lastF day m (if x.day ≤ day then x.par else out) = out) ∨ ∃ t ∈ x :: m, t.day ≤ day ∧ lastF day m (if x.day ≤ day then x.par else out) = t.par ∧ _
    rcases last_spec (if x.day ≤ day then x.par else out) h2 with ⟨h3, h4⟩ | ⟨t, ht, h3, h4, h5⟩
    · rw [h4]
      by_cases hx : x.day ≤ day
      · refine .inr ⟨x, by simp, hx, if_pos hx, fun u hu hd => ?_⟩
        rcases List.mem_cons.1 hu with e | e
        · exact .inl e
        · have := h3 u e; omega
      · refine .inl ⟨fun t ht => ?_, if_neg hx⟩
        rcases List.mem_cons.1 ht with rfl | e
        · omega
        · exact h3 t e
    · refine .inr ⟨t, List.mem_cons_of_mem _ ht, h3, h4, fun u hu hd => ?_⟩
      rcases List.mem_cons.1 hu with rfl | e
      · exact .inr (h1 t ht)
      · exact h5 u e hd
def betT (day : Int) (b t : Tt) : Bool := decide (t.day ≤ day) && ltT b t
def bestT (l : List Tt) (day : Int) : Tt := l.foldl (fun b t => if betT day b t = true then t else b) ⟨-1, -1, 0⟩
theorem ltT_irr (a : Tt) : ltT a a = false := by
  rw [Bool.eq_false_iff]
  intro h
  rw [ltT_iff] at h
  omega
theorem best_spec {day : Int} : ∀ {l : List Tt} {b : Tt}, (l.foldl (fun b t => if betT day b t = true then t else b) b = b ∨ (l.foldl (fun b t => if betT day b t = true then t else b) b ∈ l ∧ (l.foldl (fun b t => if betT day b t = true then t else b) b).day ≤ day ∧ ltT b (l.foldl (fun b t => if betT day b t = true then t else b) b) = true)) ∧
    ∀ t ∈ l, t.day ≤ day → ltT (l.foldl (fun b t => if betT day b t = true then t else b) b) t = false
  | [], b => ⟨.inl rfl, fun t ht => absurd ht (by simp)⟩
  | x :: l, b => by
    rw [List.foldl_cons]
    obtain ⟨h1, h2⟩ := best_spec (day := day) (l := l) (b := if betT day b x = true then x else b)
    generalize l.foldl (fun b t => if betT day b t = true then t else b) (if betT day b x = true then x else b) = g at h1 h2
    by_cases hx : betT day b x = true
    · rw [if_pos hx] at h1
      unfold betT at hx
      rw [Bool.and_eq_true, decide_eq_true_eq] at hx
      refine ⟨?_, fun t ht hd => ?_⟩
      · rcases h1 with rfl | ⟨h3, h4, h5⟩
        · exact .inr ⟨by simp, hx.1, hx.2⟩
        · exact .inr ⟨List.mem_cons_of_mem _ h3, h4, ltT_trans hx.2 h5⟩
      · rcases List.mem_cons.1 ht with rfl | e
        · rcases h1 with rfl | ⟨-, -, h5⟩
          · exact ltT_irr _
          · rw [Bool.eq_false_iff]
            intro h
            have := ltT_trans h5 h
            rw [ltT_irr] at this
            exact absurd this (by decide)
        · exact h2 t e hd
    · rw [if_neg hx] at h1
      refine ⟨?_, fun t ht hd => ?_⟩
      · rcases h1 with rfl | ⟨h3, h4, h5⟩
        · exact .inl rfl
        · exact .inr ⟨List.mem_cons_of_mem _ h3, h4, h5⟩
      · rcases List.mem_cons.1 ht with rfl | e
        · have hx2 : ltT b t = false := by
            unfold betT at hx
            rw [decide_eq_true hd, Bool.true_and] at hx
            simpa using hx
          rcases h1 with rfl | ⟨-, -, h5⟩
          · exact hx2
          · rw [Bool.eq_false_iff]
            intro h
            have := ltT_trans h5 h
            rw [hx2] at this
            exact absurd this (by decide)
        · exact h2 t e hd
theorem best_last {l : List Tt} {day : Int} (ha : Apart l) (h0 : ∀ t ∈ l, 0 ≤ t.day) : lastT (srtT l) day = (bestT l day).par := by
  have hp := srtT_perm l
  obtain ⟨h1, h2⟩ := best_spec (day := day) (l := l) (b := ⟨-1, -1, 0⟩)
  change (bestT l day = _ ∨ (bestT l day ∈ l ∧ (bestT l day).day ≤ day ∧ _)) at h1
  change ∀ t ∈ l, t.day ≤ day → ltT (bestT l day) t = false at h2
  rw [lastT_F]
  rcases last_spec (day := day) (-1) (srtT_up ha) with ⟨h3, h4⟩ | ⟨t, ht, h3, h4, h5⟩
  · rw [h4]
    rcases h1 with h1 | ⟨h6, h7, -⟩
    · rw [h1]
    · have := h3 _ (hp.mem_iff.2 h6); omega
  · rw [h4]
    have htl := hp.mem_iff.1 ht
    have hb := h2 t htl h3
    rcases h1 with h1 | ⟨h6, h7, -⟩
    · rw [h1] at hb
      have := h0 t htl
      have h8 : ltT ⟨-1, -1, 0⟩ t = true := ltT_iff.2 (.inl (show (-1 : Int) < t.day by omega))
      rw [h8] at hb
      exact absurd hb (by decide)
    · rcases h5 _ (hp.mem_iff.2 h6) h7 with e | e
      · rw [e]
      · rw [e] at hb
        exact absurd hb (by decide)
/-- Fewer proofs have a reading if more have one. -/
theorem reads_sub {c c' : List Qf} (hs : c'.Sublist c) {r : List Int} (h : isRd c r = true) : ∃ r', isRd c' r' = true := by
  obtain ⟨h1, h2, h3⟩ := isRd_zip.1 h
  have key : ∀ {c c' : List Qf} {r : List Int}, c'.Sublist c → r.length = c.length → ∃ r', r'.length = c'.length ∧ (c'.zip r').Sublist (c.zip r) := by
    intro c c' r hs
    induction hs generalizing r with
    | slnil => intro _; exact ⟨[], rfl, by simp⟩
    | cons a _ ih =>
      intro hl
      cases r with
      | nil => simp at hl
      | cons n r =>
        obtain ⟨r', e1, e2⟩ := ih (r := r) (by simpa using hl)
        exact ⟨r', e1, e2.cons _⟩
    | cons_cons a _ ih =>
      intro hl
      cases r with
      | nil => simp at hl
      | cons n r =>
        obtain ⟨r', e1, e2⟩ := ih (r := r) (by simpa using hl)
        exact ⟨n :: r', by simp [e1], e2.cons_cons _⟩
  obtain ⟨r', e1, e2⟩ := key hs h1
  exact ⟨r', isRd_zip.2 ⟨e1, fun z hz => h2 z (e2.subset hz), h3.sublist e2⟩⟩
theorem isRead_iff {c : List Qf} : isRead c = true ↔ ∃ r, isRd c r = true := by
  unfold isRead
  cases h : reads c with
  | nil =>
    refine ⟨fun h => absurd h (by decide), fun ⟨r, hr⟩ => ?_⟩
    have := mem_reads.2 hr
    rw [h] at this
    simp at this
  | cons r l => exact ⟨fun _ => ⟨r, mem_reads.1 (by rw [h]; simp)⟩, fun _ => rfl⟩
theorem isRead_sub {c c' : List Qf} (hs : c'.Sublist c) (h : isRead c = true) : isRead c' = true := by
  obtain ⟨r, hr⟩ := isRead_iff.1 h
  exact isRead_iff.2 (reads_sub hs hr)
end Go.Proofs.YtehhlgdkhecacaaGreat
namespace Go.Proofs.YtehhlgdkhecacaaGreat
theorem needs_pos (k : Int) : 0 ≤ needs k := by
  unfold needs
  split
  · omega
  · split <;> omega
theorem titS_day (s : Int → Int → Int) (c : List Qf) (r : List Int) (i : Nat) : (c.getD i q0).day ≤ (titS s c r i).1.day := by
  have := needs_pos (c.getD i q0).kind
  unfold titS
  split
  · exact Int.le_refl _
  · split
    · exact Int.le_refl _
    · split
      · show (c.getD i q0).day ≤ (c.getD i q0).day + needs (c.getD i q0).kind
        omega
      · exact Int.le_refl _
theorem titL_day0 {s : Int → Int → Int} {c : List Qf} {r : List Int} {person day : Int} (hc : Days c) : ∀ t ∈ titL s c r person day, 0 ≤ t.day := by
  intro t ht
  unfold titL at ht
  obtain ⟨i, hi, rfl⟩ := List.mem_map.1 ht
  have hi2 := List.mem_range.1 (List.mem_filter.1 hi).1
  have := titS_day s c r i
  have := hc i hi2
  omega
theorem titS_src2 (s : Int → Int → Int) (c : List Qf) (r : List Int) (i : Nat) : (titS s c r i).1.src = (c.getD i q0).src := by
  unfold titS
  split
  · rfl
  · split
    · rfl
    · split <;> rfl
theorem titL_apart2 {s : Int → Int → Int} {c : List Qf} {r : List Int} {person day : Int} (h : (c.map Qf.src).Nodup) : Apart (titL s c r person day) := by
  unfold Apart titL
  rw [List.map_map]
  have e : ((List.range c.length).map fun i => (c.getD i q0).src) = c.map Qf.src := by
    refine List.ext_getElem (by simp) fun i h1 h2 => ?_
    have hi : i < c.length := by simpa using h1
    simp [List.getD_eq_getElem?_getD, List.getElem?_eq_getElem hi]
  have hs : (((List.range c.length).filter fun i => hasT s c r person day i).map (Tt.src ∘ fun i => (titS s c r i).1)).Sublist (c.map Qf.src) := by
    rw [← e]
    have : (Tt.src ∘ fun i => (titS s c r i).1) = fun i => (c.getD i q0).src := funext fun i => titS_src2 s c r i
    rw [this]
    exact List.Sublist.map _ List.filter_sublist
  exact h.sublist hs
end Go.Proofs.YtehhlgdkhecacaaGreat
namespace Go.Proofs.YtehhlgdkhecacaaGreat
open Go.RowKit Go.Shelf Go.Sort
theorem blk_second (V : World) (o : Obj) (t : TypeId) (cs : Array Value) : Blk ((V.alloc o).alloc (.cells cs t)).drew (V.heap.size + 1) t cs := by
  have := Blk.new (V.alloc o) t cs
  rw [World.size_alloc] at this
  exact this
end Go.Proofs.YtehhlgdkhecacaaGreat
namespace Go.Proofs.YtehhlgdkhecacaaGreat
open Go.RowKit Go.Shelf
theorem works_any (k : Int) (w : World) : Calls Tryz.prog 157 #[.int .i64 k] w fun e w' => e = .returned (.bool (decide (k = 3) || decide (k = 5))) ∧ w = w' := by
  by_cases h3 : k = 3
  · subst h3
    go_enter Tryz.func157, Tryz.ntmps157
    go_wp2
    go_ret
    exact ⟨rfl, rfl⟩
  · have e3 : (k == 3) = false := beq_eq_false_iff_ne.2 h3
    go_enter Tryz.func157, Tryz.ntmps157
    go_wp2
    go_ret
    refine ⟨?_, rfl⟩
    simp [h3]
    rfl
end Go.Proofs.YtehhlgdkhecacaaGreat
namespace Go.Proofs.YtehhlgdkhecacaaGreat
open Go.RowKit Go.Shelf
def servK (k : Int) : Bool := decide (k = 3) || decide (k = 5)
theorem kind4 (k : Int) : ((k == 1) = true ∧ servK k = false ∧ (k == 8) = false) ∨ ((k == 1) = false ∧ servK k = true ∧ (k == 8) = false) ∨ ((k == 1) = false ∧ servK k = false ∧ (k == 8) = true) ∨ ((k == 1) = false ∧ servK k = false ∧ (k == 8) = false) := by
  by_cases h1 : k = 1
  · subst h1; exact .inl ⟨rfl, rfl, rfl⟩
  · have e1 : (k == 1) = false := beq_eq_false_iff_ne.2 h1
    by_cases h8 : k = 8
    · subst h8; exact .inr (.inr (.inl ⟨rfl, rfl, rfl⟩))
    · have e8 : (k == 8) = false := beq_eq_false_iff_ne.2 h8
      cases h : servK k
      · exact .inr (.inr (.inr ⟨e1, rfl, e8⟩))
      · exact .inr (.inl ⟨e1, rfl, e8⟩)
def oddR (a1 b1 a8 b8 wa wb lba lab t1 t2 pn ia ib : Bool) : Bool :=
  if (a1 && b1 || a1 && lba || b1 && lab) = true then true else if (wa && wb && t1 && t2) = true then true else if (a8 && wb) = true then pn && ia else if (b8 && wa) = true then pn && ib else false
theorem odds_R (x y : Qf) : oddsB x y = oddR (x.kind == 1) (y.kind == 1) (x.kind == 8) (y.kind == 8) (servK x.kind) (servK y.kind) (decide (y.day < x.day)) (decide (x.day < y.day)) (decide (x.day ≤ y.thr)) (decide (y.day ≤ x.thr)) (x.par != y.par) (rng x.day y.day y.thr) (rng y.day x.day x.thr) := by
  have e1 : ∀ k : Int, (k == 1) = decide (k = 1) := fun k => by by_cases h : k = 1 <;> simp [h]
  have e8 : ∀ k : Int, (k == 8) = decide (k = 8) := fun k => by by_cases h : k = 8 <;> simp [h]
  have hk : ∀ q : Qf, servB q = servK q.kind := fun q => rfl
  unfold oddsB ruleB birthB servicB examB
  have hx := kind4 x.kind
  have hy := kind4 y.kind
  rw [hk x, hk y]
  have hp : decide (y.par ≠ x.par) = (x.par != y.par) := by
    by_cases h : x.par = y.par
    · rw [h]; simp
    · have h2 : y.par ≠ x.par := fun e => h e.symm
      simp [h, h2]
  have hp2 : decide (x.par ≠ y.par) = (x.par != y.par) := by
    by_cases h : x.par = y.par
    · rw [h]; simp
    · simp [h]
  rw [hp, hp2]
  generalize decide (y.day < x.day) = lba
  generalize decide (x.day < y.day) = lab
  generalize decide (x.day ≤ y.thr) = t1
  generalize decide (y.day ≤ x.thr) = t2
  generalize rng x.day y.day y.thr = ia
  generalize rng y.day x.day x.thr = ib
  generalize (x.par != y.par) = pn
  simp only [e1, e8, decide_eq_true_eq, decide_eq_false_iff_not] at hx hy
  simp only [e1, e8]
  rcases hx with ⟨h1, h2, h3⟩ | ⟨h1, h2, h3⟩ | ⟨h1, h2, h3⟩ | ⟨h1, h2, h3⟩ <;> rcases hy with ⟨g1, g2, g3⟩ | ⟨g1, g2, g3⟩ | ⟨g1, g2, g3⟩ | ⟨g1, g2, g3⟩ <;> simp only [h1, h2, h3, g1, g2, g3, oddR] <;> (try rfl) <;> cases lba <;> cases lab <;> cases t1 <;> cases t2 <;> cases pn <;> cases ia <;> cases ib <;> rfl
set_option maxRecDepth 100000 in
set_option maxHeartbeats 16000000 in
theorem refOdds_any (x y : Pf) (w : World) : Calls Tryz.prog 140 #[pv x, pv y] w fun e w' => e = .returned (.bool (oddsB x.q y.q)) ∧ Below w.heap.size w w' := by
  obtain ⟨W1, hW1⟩ : ∃ X, (w.alloc (.cells #[.int .i64 x.q.src, .int .i64 x.q.kind, .slice x.A x.n x.c, .int .i64 x.q.oth, .int .i64 x.q.par, .int .i64 x.q.day, .int .i64 x.q.thr, .int .i64 x.q.kno, .int .i64 x.q.unt] 56)).alloc (.cells #[.int .i64 y.q.src, .int .i64 y.q.kind, .slice y.A y.n y.c, .int .i64 y.q.oth, .int .i64 y.q.par, .int .i64 y.q.day, .int .i64 y.q.thr, .int .i64 y.q.kno, .int .i64 y.q.unt] 56) = X := ⟨_, rfl⟩
  have G1 := Lib.hid (show Below w.heap.size w W1 by rw [← hW1]; exact two_more _ _ _)
  have BX := Lib.hid (show Blk W1 w.heap.size 56 #[.int .i64 x.q.src, .int .i64 x.q.kind, .slice x.A x.n x.c, .int .i64 x.q.oth, .int .i64 x.q.par, .int .i64 x.q.day, .int .i64 x.q.thr, .int .i64 x.q.kno, .int .i64 x.q.unt] by rw [← hW1]; exact (Blk.new _ _ _).alloc _)
  have BY := Lib.hid (show Blk W1 (w.heap.size + 1) 56 #[.int .i64 y.q.src, .int .i64 y.q.kind, .slice y.A y.n y.c, .int .i64 y.q.oth, .int .i64 y.q.par, .int .i64 y.q.day, .int .i64 y.q.thr, .int .i64 y.q.kno, .int .i64 y.q.unt] by
    rw [← hW1]
    have := Blk.new (w.alloc (.cells #[.int .i64 x.q.src, .int .i64 x.q.kind, .slice x.A x.n x.c, .int .i64 x.q.oth, .int .i64 x.q.par, .int .i64 x.q.day, .int .i64 x.q.thr, .int .i64 x.q.kno, .int .i64 x.q.unt] 56)) 56 #[.int .i64 y.q.src, .int .i64 y.q.kind, .slice y.A y.n y.c, .int .i64 y.q.oth, .int .i64 y.q.par, .int .i64 y.q.day, .int .i64 y.q.thr, .int .i64 y.q.kno, .int .i64 y.q.unt]
    rwa [World.size_alloc] at this)
  have HW1 := Lib.hid hW1
  clear hW1
  rw [odds_R]
  have hx := kind4 x.q.kind
  have hy := kind4 y.q.kind
  have TX := fun W => works_any x.q.kind W
  have TY := fun W => works_any y.q.kind W
  have TA := fun W => in_any x.q.day y.q.day y.q.thr W
  have TB := fun W => in_any y.q.day x.q.day x.q.thr W
  rw [show (decide (x.q.kind = 3) || decide (x.q.kind = 5)) = servK x.q.kind from rfl] at TX
  rw [show (decide (y.q.kind = 3) || decide (y.q.kind = 5)) = servK y.q.kind from rfl] at TY
  obtain ⟨a1, ha1⟩ : ∃ b, (x.q.kind == 1) = b := ⟨_, rfl⟩
  obtain ⟨b1, hb1⟩ : ∃ b, (y.q.kind == 1) = b := ⟨_, rfl⟩
  obtain ⟨a8, ha8⟩ : ∃ b, (x.q.kind == 8) = b := ⟨_, rfl⟩
  obtain ⟨b8, hb8⟩ : ∃ b, (y.q.kind == 8) = b := ⟨_, rfl⟩
  obtain ⟨lba, hlba⟩ : ∃ b, decide (y.q.day < x.q.day) = b := ⟨_, rfl⟩
  obtain ⟨lab, hlab⟩ : ∃ b, decide (x.q.day < y.q.day) = b := ⟨_, rfl⟩
  obtain ⟨t1, ht1⟩ : ∃ b, decide (x.q.day ≤ y.q.thr) = b := ⟨_, rfl⟩
  obtain ⟨t2, ht2⟩ : ∃ b, decide (y.q.day ≤ x.q.thr) = b := ⟨_, rfl⟩
  obtain ⟨pn, hpn⟩ : ∃ b, (x.q.par != y.q.par) = b := ⟨_, rfl⟩
  rw [ha1, hb1, ha8, hb8, hlba, hlab, ht1, ht2, hpn]
  rw [ha1, ha8] at hx
  rw [hb1, hb8] at hy
  generalize servK x.q.kind = wa at TX hx ⊢
  generalize servK y.q.kind = wb at TY hy ⊢
  generalize rng x.q.day y.q.day y.q.thr = ia at TA ⊢
  generalize rng y.q.day x.q.day x.q.thr = ib at TB ⊢
  have HX := Lib.hid TX
  have HY := Lib.hid TY
  have HA := Lib.hid TA
  have HB := Lib.hid TB
  clear TX TY TA TB
  go_enter Tryz.func140, Tryz.ntmps140
  go_upto_region 1 with fail
  rw [HW1.out]
  have d1 := BX.out.cell 1
  have f1 := BY.out.cell 1
  have d4 := BX.out.cell 4
  have f4 := BY.out.cell 4
  have d5 := BX.out.cell 5
  have f5 := BY.out.cell 5
  have d6 := BX.out.cell 6
  have f6 := BY.out.cell 6
  clear d5 f5 d6 f6
  have d5 := BX.out.cell 5
  have f5 := BY.out.cell 5
  have d6 := BX.out.cell 6
  have f6 := BY.out.cell 6
  rcases hx with ⟨rfl, rfl, rfl⟩ | ⟨rfl, rfl, rfl⟩ | ⟨rfl, rfl, rfl⟩ | ⟨rfl, rfl, rfl⟩
  · rcases hy with ⟨rfl, rfl, rfl⟩ | ⟨rfl, rfl, rfl⟩ | ⟨rfl, rfl, rfl⟩ | ⟨rfl, rfl, rfl⟩
    · go_wp2_with (first | (go_at_call 157; (with_reducible refine (HX.out _).mono ?_); rintro e w' ⟨rfl, rfl⟩) | (go_at_call 157; (with_reducible refine (HY.out _).mono ?_); rintro e w' ⟨rfl, rfl⟩) | (go_at_call 108; (with_reducible refine (HA.out _).mono ?_); rintro e w' ⟨rfl, rfl⟩) | (go_at_call 108; (with_reducible refine (HB.out _).mono ?_); rintro e w' ⟨rfl, rfl⟩))
      go_ret
      exact ⟨rfl, G1.out⟩
    · cases lba with
      | true =>
        go_wp2_with (first | (go_at_call 157; (with_reducible refine (HX.out _).mono ?_); rintro e w' ⟨rfl, rfl⟩) | (go_at_call 157; (with_reducible refine (HY.out _).mono ?_); rintro e w' ⟨rfl, rfl⟩) | (go_at_call 108; (with_reducible refine (HA.out _).mono ?_); rintro e w' ⟨rfl, rfl⟩) | (go_at_call 108; (with_reducible refine (HB.out _).mono ?_); rintro e w' ⟨rfl, rfl⟩))
        go_ret
        exact ⟨rfl, G1.out⟩
      | false =>
        go_wp2_with (first | (go_at_call 157; (with_reducible refine (HX.out _).mono ?_); rintro e w' ⟨rfl, rfl⟩) | (go_at_call 157; (with_reducible refine (HY.out _).mono ?_); rintro e w' ⟨rfl, rfl⟩) | (go_at_call 108; (with_reducible refine (HA.out _).mono ?_); rintro e w' ⟨rfl, rfl⟩) | (go_at_call 108; (with_reducible refine (HB.out _).mono ?_); rintro e w' ⟨rfl, rfl⟩))
        go_ret
        exact ⟨rfl, G1.out⟩
    · cases lba with
      | true =>
        go_wp2_with (first | (go_at_call 157; (with_reducible refine (HX.out _).mono ?_); rintro e w' ⟨rfl, rfl⟩) | (go_at_call 157; (with_reducible refine (HY.out _).mono ?_); rintro e w' ⟨rfl, rfl⟩) | (go_at_call 108; (with_reducible refine (HA.out _).mono ?_); rintro e w' ⟨rfl, rfl⟩) | (go_at_call 108; (with_reducible refine (HB.out _).mono ?_); rintro e w' ⟨rfl, rfl⟩))
        go_ret
        exact ⟨rfl, G1.out⟩
      | false =>
        go_wp2_with (first | (go_at_call 157; (with_reducible refine (HX.out _).mono ?_); rintro e w' ⟨rfl, rfl⟩) | (go_at_call 157; (with_reducible refine (HY.out _).mono ?_); rintro e w' ⟨rfl, rfl⟩) | (go_at_call 108; (with_reducible refine (HA.out _).mono ?_); rintro e w' ⟨rfl, rfl⟩) | (go_at_call 108; (with_reducible refine (HB.out _).mono ?_); rintro e w' ⟨rfl, rfl⟩))
        go_ret
        exact ⟨rfl, G1.out⟩
    · cases lba with
      | true =>
        go_wp2_with (first | (go_at_call 157; (with_reducible refine (HX.out _).mono ?_); rintro e w' ⟨rfl, rfl⟩) | (go_at_call 157; (with_reducible refine (HY.out _).mono ?_); rintro e w' ⟨rfl, rfl⟩) | (go_at_call 108; (with_reducible refine (HA.out _).mono ?_); rintro e w' ⟨rfl, rfl⟩) | (go_at_call 108; (with_reducible refine (HB.out _).mono ?_); rintro e w' ⟨rfl, rfl⟩))
        go_ret
        exact ⟨rfl, G1.out⟩
      | false =>
        go_wp2_with (first | (go_at_call 157; (with_reducible refine (HX.out _).mono ?_); rintro e w' ⟨rfl, rfl⟩) | (go_at_call 157; (with_reducible refine (HY.out _).mono ?_); rintro e w' ⟨rfl, rfl⟩) | (go_at_call 108; (with_reducible refine (HA.out _).mono ?_); rintro e w' ⟨rfl, rfl⟩) | (go_at_call 108; (with_reducible refine (HB.out _).mono ?_); rintro e w' ⟨rfl, rfl⟩))
        go_ret
        exact ⟨rfl, G1.out⟩
  · rcases hy with ⟨rfl, rfl, rfl⟩ | ⟨rfl, rfl, rfl⟩ | ⟨rfl, rfl, rfl⟩ | ⟨rfl, rfl, rfl⟩
    · cases lab with
      | true =>
        go_wp2_with (first | (go_at_call 157; (with_reducible refine (HX.out _).mono ?_); rintro e w' ⟨rfl, rfl⟩) | (go_at_call 157; (with_reducible refine (HY.out _).mono ?_); rintro e w' ⟨rfl, rfl⟩) | (go_at_call 108; (with_reducible refine (HA.out _).mono ?_); rintro e w' ⟨rfl, rfl⟩) | (go_at_call 108; (with_reducible refine (HB.out _).mono ?_); rintro e w' ⟨rfl, rfl⟩))
        go_ret
        exact ⟨rfl, G1.out⟩
      | false =>
        go_wp2_with (first | (go_at_call 157; (with_reducible refine (HX.out _).mono ?_); rintro e w' ⟨rfl, rfl⟩) | (go_at_call 157; (with_reducible refine (HY.out _).mono ?_); rintro e w' ⟨rfl, rfl⟩) | (go_at_call 108; (with_reducible refine (HA.out _).mono ?_); rintro e w' ⟨rfl, rfl⟩) | (go_at_call 108; (with_reducible refine (HB.out _).mono ?_); rintro e w' ⟨rfl, rfl⟩))
        go_ret
        exact ⟨rfl, G1.out⟩
    · cases t1 with
      | true =>
        cases t2 with
        | true =>
          go_wp2_with (first | (go_at_call 157; (with_reducible refine (HX.out _).mono ?_); rintro e w' ⟨rfl, rfl⟩) | (go_at_call 157; (with_reducible refine (HY.out _).mono ?_); rintro e w' ⟨rfl, rfl⟩) | (go_at_call 108; (with_reducible refine (HA.out _).mono ?_); rintro e w' ⟨rfl, rfl⟩) | (go_at_call 108; (with_reducible refine (HB.out _).mono ?_); rintro e w' ⟨rfl, rfl⟩))
          go_ret
          exact ⟨rfl, G1.out⟩
        | false =>
          go_wp2_with (first | (go_at_call 157; (with_reducible refine (HX.out _).mono ?_); rintro e w' ⟨rfl, rfl⟩) | (go_at_call 157; (with_reducible refine (HY.out _).mono ?_); rintro e w' ⟨rfl, rfl⟩) | (go_at_call 108; (with_reducible refine (HA.out _).mono ?_); rintro e w' ⟨rfl, rfl⟩) | (go_at_call 108; (with_reducible refine (HB.out _).mono ?_); rintro e w' ⟨rfl, rfl⟩))
          go_ret
          exact ⟨rfl, G1.out⟩
      | false =>
        go_wp2_with (first | (go_at_call 157; (with_reducible refine (HX.out _).mono ?_); rintro e w' ⟨rfl, rfl⟩) | (go_at_call 157; (with_reducible refine (HY.out _).mono ?_); rintro e w' ⟨rfl, rfl⟩) | (go_at_call 108; (with_reducible refine (HA.out _).mono ?_); rintro e w' ⟨rfl, rfl⟩) | (go_at_call 108; (with_reducible refine (HB.out _).mono ?_); rintro e w' ⟨rfl, rfl⟩))
        go_ret
        exact ⟨rfl, G1.out⟩
    · cases pn with
      | true =>
        go_wp2_with (first | (go_at_call 157; (with_reducible refine (HX.out _).mono ?_); rintro e w' ⟨rfl, rfl⟩) | (go_at_call 157; (with_reducible refine (HY.out _).mono ?_); rintro e w' ⟨rfl, rfl⟩) | (go_at_call 108; (with_reducible refine (HA.out _).mono ?_); rintro e w' ⟨rfl, rfl⟩) | (go_at_call 108; (with_reducible refine (HB.out _).mono ?_); rintro e w' ⟨rfl, rfl⟩))
        go_ret
        exact ⟨rfl, G1.out⟩
      | false =>
        go_wp2_with (first | (go_at_call 157; (with_reducible refine (HX.out _).mono ?_); rintro e w' ⟨rfl, rfl⟩) | (go_at_call 157; (with_reducible refine (HY.out _).mono ?_); rintro e w' ⟨rfl, rfl⟩) | (go_at_call 108; (with_reducible refine (HA.out _).mono ?_); rintro e w' ⟨rfl, rfl⟩) | (go_at_call 108; (with_reducible refine (HB.out _).mono ?_); rintro e w' ⟨rfl, rfl⟩))
        go_ret
        exact ⟨rfl, G1.out⟩
    · go_wp2_with (first | (go_at_call 157; (with_reducible refine (HX.out _).mono ?_); rintro e w' ⟨rfl, rfl⟩) | (go_at_call 157; (with_reducible refine (HY.out _).mono ?_); rintro e w' ⟨rfl, rfl⟩) | (go_at_call 108; (with_reducible refine (HA.out _).mono ?_); rintro e w' ⟨rfl, rfl⟩) | (go_at_call 108; (with_reducible refine (HB.out _).mono ?_); rintro e w' ⟨rfl, rfl⟩))
      go_ret
      exact ⟨rfl, G1.out⟩
  · rcases hy with ⟨rfl, rfl, rfl⟩ | ⟨rfl, rfl, rfl⟩ | ⟨rfl, rfl, rfl⟩ | ⟨rfl, rfl, rfl⟩
    · cases lab with
      | true =>
        go_wp2_with (first | (go_at_call 157; (with_reducible refine (HX.out _).mono ?_); rintro e w' ⟨rfl, rfl⟩) | (go_at_call 157; (with_reducible refine (HY.out _).mono ?_); rintro e w' ⟨rfl, rfl⟩) | (go_at_call 108; (with_reducible refine (HA.out _).mono ?_); rintro e w' ⟨rfl, rfl⟩) | (go_at_call 108; (with_reducible refine (HB.out _).mono ?_); rintro e w' ⟨rfl, rfl⟩))
        go_ret
        exact ⟨rfl, G1.out⟩
      | false =>
        go_wp2_with (first | (go_at_call 157; (with_reducible refine (HX.out _).mono ?_); rintro e w' ⟨rfl, rfl⟩) | (go_at_call 157; (with_reducible refine (HY.out _).mono ?_); rintro e w' ⟨rfl, rfl⟩) | (go_at_call 108; (with_reducible refine (HA.out _).mono ?_); rintro e w' ⟨rfl, rfl⟩) | (go_at_call 108; (with_reducible refine (HB.out _).mono ?_); rintro e w' ⟨rfl, rfl⟩))
        go_ret
        exact ⟨rfl, G1.out⟩
    · cases pn with
      | true =>
        go_wp2_with (first | (go_at_call 157; (with_reducible refine (HX.out _).mono ?_); rintro e w' ⟨rfl, rfl⟩) | (go_at_call 157; (with_reducible refine (HY.out _).mono ?_); rintro e w' ⟨rfl, rfl⟩) | (go_at_call 108; (with_reducible refine (HA.out _).mono ?_); rintro e w' ⟨rfl, rfl⟩) | (go_at_call 108; (with_reducible refine (HB.out _).mono ?_); rintro e w' ⟨rfl, rfl⟩))
        go_ret
        exact ⟨rfl, G1.out⟩
      | false =>
        go_wp2_with (first | (go_at_call 157; (with_reducible refine (HX.out _).mono ?_); rintro e w' ⟨rfl, rfl⟩) | (go_at_call 157; (with_reducible refine (HY.out _).mono ?_); rintro e w' ⟨rfl, rfl⟩) | (go_at_call 108; (with_reducible refine (HA.out _).mono ?_); rintro e w' ⟨rfl, rfl⟩) | (go_at_call 108; (with_reducible refine (HB.out _).mono ?_); rintro e w' ⟨rfl, rfl⟩))
        go_ret
        exact ⟨rfl, G1.out⟩
    · go_wp2_with (first | (go_at_call 157; (with_reducible refine (HX.out _).mono ?_); rintro e w' ⟨rfl, rfl⟩) | (go_at_call 157; (with_reducible refine (HY.out _).mono ?_); rintro e w' ⟨rfl, rfl⟩) | (go_at_call 108; (with_reducible refine (HA.out _).mono ?_); rintro e w' ⟨rfl, rfl⟩) | (go_at_call 108; (with_reducible refine (HB.out _).mono ?_); rintro e w' ⟨rfl, rfl⟩))
      go_ret
      exact ⟨rfl, G1.out⟩
    · go_wp2_with (first | (go_at_call 157; (with_reducible refine (HX.out _).mono ?_); rintro e w' ⟨rfl, rfl⟩) | (go_at_call 157; (with_reducible refine (HY.out _).mono ?_); rintro e w' ⟨rfl, rfl⟩) | (go_at_call 108; (with_reducible refine (HA.out _).mono ?_); rintro e w' ⟨rfl, rfl⟩) | (go_at_call 108; (with_reducible refine (HB.out _).mono ?_); rintro e w' ⟨rfl, rfl⟩))
      go_ret
      exact ⟨rfl, G1.out⟩
  · rcases hy with ⟨rfl, rfl, rfl⟩ | ⟨rfl, rfl, rfl⟩ | ⟨rfl, rfl, rfl⟩ | ⟨rfl, rfl, rfl⟩
    · cases lab with
      | true =>
        go_wp2_with (first | (go_at_call 157; (with_reducible refine (HX.out _).mono ?_); rintro e w' ⟨rfl, rfl⟩) | (go_at_call 157; (with_reducible refine (HY.out _).mono ?_); rintro e w' ⟨rfl, rfl⟩) | (go_at_call 108; (with_reducible refine (HA.out _).mono ?_); rintro e w' ⟨rfl, rfl⟩) | (go_at_call 108; (with_reducible refine (HB.out _).mono ?_); rintro e w' ⟨rfl, rfl⟩))
        go_ret
        exact ⟨rfl, G1.out⟩
      | false =>
        go_wp2_with (first | (go_at_call 157; (with_reducible refine (HX.out _).mono ?_); rintro e w' ⟨rfl, rfl⟩) | (go_at_call 157; (with_reducible refine (HY.out _).mono ?_); rintro e w' ⟨rfl, rfl⟩) | (go_at_call 108; (with_reducible refine (HA.out _).mono ?_); rintro e w' ⟨rfl, rfl⟩) | (go_at_call 108; (with_reducible refine (HB.out _).mono ?_); rintro e w' ⟨rfl, rfl⟩))
        go_ret
        exact ⟨rfl, G1.out⟩
    · go_wp2_with (first | (go_at_call 157; (with_reducible refine (HX.out _).mono ?_); rintro e w' ⟨rfl, rfl⟩) | (go_at_call 157; (with_reducible refine (HY.out _).mono ?_); rintro e w' ⟨rfl, rfl⟩) | (go_at_call 108; (with_reducible refine (HA.out _).mono ?_); rintro e w' ⟨rfl, rfl⟩) | (go_at_call 108; (with_reducible refine (HB.out _).mono ?_); rintro e w' ⟨rfl, rfl⟩))
      go_ret
      exact ⟨rfl, G1.out⟩
    · go_wp2_with (first | (go_at_call 157; (with_reducible refine (HX.out _).mono ?_); rintro e w' ⟨rfl, rfl⟩) | (go_at_call 157; (with_reducible refine (HY.out _).mono ?_); rintro e w' ⟨rfl, rfl⟩) | (go_at_call 108; (with_reducible refine (HA.out _).mono ?_); rintro e w' ⟨rfl, rfl⟩) | (go_at_call 108; (with_reducible refine (HB.out _).mono ?_); rintro e w' ⟨rfl, rfl⟩))
      go_ret
      exact ⟨rfl, G1.out⟩
    · go_wp2_with (first | (go_at_call 157; (with_reducible refine (HX.out _).mono ?_); rintro e w' ⟨rfl, rfl⟩) | (go_at_call 157; (with_reducible refine (HY.out _).mono ?_); rintro e w' ⟨rfl, rfl⟩) | (go_at_call 108; (with_reducible refine (HA.out _).mono ?_); rintro e w' ⟨rfl, rfl⟩) | (go_at_call 108; (with_reducible refine (HB.out _).mono ?_); rintro e w' ⟨rfl, rfl⟩))
      go_ret
      exact ⟨rfl, G1.out⟩
end Go.Proofs.YtehhlgdkhecacaaGreat
namespace Go.Proofs.YtehhlgdkhecacaaGreat
open Go.RowKit Go.Shelf
set_option maxRecDepth 100000 in
set_option maxHeartbeats 8000000 in
theorem refFits_any (A : Option Addr) (n c : Nat) (l : List Pf) (B : Option Addr) (m d : Nat) (rd : List Int) (person : Int) (w : World) (ha : Prf w A n l) (hn : n ≤ 1000) (hb : Ints w B m rd) (hmn : m < n) :
    Calls Tryz.prog 101 #[.slice A n c, .slice B m d, .int .i64 person] w fun e w' => e = .returned (.bool (fitB (l.map Pf.q) rd person)) ∧ Below w.heap.size w w' := by
  have HA := Lib.hid ha
  have HB := Lib.hid hb
  have hrl := hb.1
  have HRL := Lib.hid hrl
  have HLM := Lib.hid (show l.length = n from ha.len)
  have hkn := hmn
  obtain ⟨b, o, rfl, -, hyi, hym, hyc⟩ := (HA.out.below (Below.refl _ _)).at hkn
  obtain ⟨y, hy⟩ : ∃ y, l.getD m p0 = y := ⟨_, rfl⟩
  rw [hy] at hyi hym hyc
  obtain ⟨e0, e1, e2, e3, e4, e5, e6, e7, e8⟩ := hyc _ (Below.refl _ _)
  have HyE := Lib.hid hy
  have HyI := Lib.hid hyi
  have HyM := Lib.hid hym
  clear hy hyi hym hyc
  obtain ⟨W2, hW2⟩ : ∃ X, w.alloc (.cells #[.int .i64 y.q.src, .int .i64 y.q.kind, .slice y.A y.n y.c, .int .i64 y.q.oth, .int .i64 y.q.par, .int .i64 y.q.day, .int .i64 y.q.thr, .int .i64 y.q.kno, .int .i64 y.q.unt] 56) = X := ⟨_, rfl⟩
  have GW2 := Lib.hid (show Below w.heap.size w W2 by rw [← hW2]; exact one_more _ _)
  have BW2 := Lib.hid (show Blk W2 w.heap.size 56 #[.int .i64 y.q.src, .int .i64 y.q.kind, .slice y.A y.n y.c, .int .i64 y.q.oth, .int .i64 y.q.par, .int .i64 y.q.day, .int .i64 y.q.thr, .int .i64 y.q.kno, .int .i64 y.q.unt] by rw [← hW2]; exact Blk.new _ _ _)
  have HW2 := Lib.hid hW2
  clear hW2
  have HYQ := Lib.hid (show (l.map Pf.q).getD rd.length q0 = y.q by rw [HRL.out, map_pf (by rw [HLM.out]; exact hmn), HyE.out])
  obtain ⟨fb, hfb⟩ : ∃ s, fitB (l.map Pf.q) rd person = s := ⟨_, rfl⟩
  rw [hfb]
  have HFB := Lib.hid hfb
  have hmi : (m : Int) < (n : Int) := by omega
  clear hfb ha hb hrl
  go_enter Tryz.func101, Tryz.ntmps101
  go_upto_region 2 with fail
  rw [HW2.out]
  clear e0 e1 e2 e3 e4 e5 e6 e7 e8
  have d0 := BW2.out.cell 0
  have d1 := BW2.out.cell 1
  have d2 := BW2.out.cell 2
  have d3 := BW2.out.cell 3
  have d4 := BW2.out.cell 4
  have d5 := BW2.out.cell 5
  have d6 := BW2.out.cell 6
  have d7 := BW2.out.cell 7
  have d8 := BW2.out.cell 8
  have hcase : (y.q.kind = 2 ∧ y.q.oth = person) ∨ ¬ (y.q.kind = 2 ∧ y.q.oth = person) := Classical.em _
  rcases hcase with ⟨h1, h2⟩ | hno
  · have e1 : (y.q.kind == 2) = true := by simpa using h1
    have e2 : (y.q.oth == person) = true := by simpa using h2
    have hf : fb = false := HFB.out.symm.trans (fit_no1 (by rw [HYQ.out]; exact h1) (by rw [HYQ.out]; exact h2))
    subst hf
    clear h1 h2
    go_wp2_with fail
    go_ret
    exact ⟨rfl, GW2.out⟩
  · have HNO := Lib.hid hno
    go_cut [6, 22] from 14 to 22 (fun s t wx => s = .bool false ∧ t = .bool false ∧ W2 = wx)
    case first =>
      by_cases h1 : y.q.kind = 2
      · have e1 : (y.q.kind == 2) = true := by simpa using h1
        have e2 : (y.q.oth == person) = false := by simpa using fun e => HNO.out ⟨h1, e⟩
        clear h1 hno
        go_wp2_with fail
        go_meet
        exact ⟨rfl, rfl, rfl⟩
      · have e1 : (y.q.kind == 2) = false := by simpa using h1
        clear h1 hno
        go_wp2_with fail
        go_meet
        exact ⟨rfl, rfl, rfl⟩
    case rest =>
    obtain ⟨rfl, rfl, rfl⟩ := hcut
    rename_i hK9
    refine hK9 _ _ ?_
    clear hK9 hno
    have HZ := Lib.hid (Below.refl W2.heap.size W2)
    clear d0 d1 d2 d3 d4 d5 d6 d7 d8
    go_wp2_with fail
    go_loopw [8] (fun i wr => ∃ k : Nat, k ≤ m ∧ i = .int .i64 k ∧ Below W2.heap.size W2 wr ∧ ∀ j, j < k → ¬ (rd.getD j 0 = person ∧ oddsB ((l.map Pf.q).getD j q0) y.q = true)) (fun i _ => m - (intOf i).toNat)
    case atStart => exact ⟨0, Nat.zero_le _, rfl, HZ.out, fun j hj => absurd hj (by omega)⟩
    case round =>
      obtain ⟨k, hk, rfl, hg, hall⟩ := hrel
      have HG := Lib.hid hg
      have HALL := Lib.hid hall
      have HGW := Lib.hid (GW2.out.trans (hg.mono GW2.out.size))
      clear hall
      by_cases hkm : k < m
      · have hkn : k < n := by omega
        obtain ⟨b2, o2, rfl, -, -, hc2⟩ := ints_at (HB.out.below HGW.out) hkm
        have r0 := hc2 wr (Below.refl _ _)
        obtain ⟨x, hx⟩ : ∃ x, rd.getD k 0 = x := ⟨_, rfl⟩
        rw [hx] at r0
        have HX := Lib.hid hx
        have HPK := Lib.hid (map_pf (l := l) (k := k) (by rw [HLM.out]; exact hkn))
        obtain ⟨b3, o3, e3, -, hzi, hzm, hzc⟩ := (HA.out.below HGW.out).at hkn
        cases e3
        obtain ⟨z, hz⟩ : ∃ z, l.getD k p0 = z := ⟨_, rfl⟩
        rw [hz] at hzc HPK
        obtain ⟨e0, e1, e2, e3, e4, e5, e6, e7, e8⟩ := hzc _ (Below.refl _ _)
        clear hzi hzm hzc hz hx hc2
        have hwr2 : wrap64 ((k : Int) + 1) = (k : Int) + 1 := wrap_in (by omega)
        have hki : (k : Int) < (n : Int) := by omega
        have BYR := Lib.hid (BW2.out.ext hg)
        have TO := fun (X : Wd wr) => refOdds_any z y X.val
        obtain ⟨ob, hob⟩ : ∃ s, oddsB z.q y.q = s := ⟨_, rfl⟩
        rw [hob] at TO
        have HOB := Lib.hid hob
        have HTO := Lib.hid TO
        clear TO hob hg
        go_upto_region 7 with fail
        replace r0 := cellW r0
        replace e0 := cellW e0
        replace e1 := cellW e1
        replace e2 := cellW e2
        replace e3 := cellW e3
        replace e4 := cellW e4
        replace e5 := cellW e5
        replace e6 := cellW e6
        replace e7 := cellW e7
        replace e8 := cellW e8
        have d0 := cellW (BYR.out.cell 0)
        have d1 := cellW (BYR.out.cell 1)
        have d2 := cellW (BYR.out.cell 2)
        have d3 := cellW (BYR.out.cell 3)
        have d4 := cellW (BYR.out.cell 4)
        have d5 := cellW (BYR.out.cell 5)
        have d6 := cellW (BYR.out.cell 6)
        have d7 := cellW (BYR.out.cell 7)
        have d8 := cellW (BYR.out.cell 8)
        by_cases hxp : x = person
        · have hxb : (x == person) = true := by simpa using hxp
          have HXP := Lib.hid hxp
          clear hxp
          refine wp_region_calm wr (by kernel_rfl) (by kernel_rfl) (Below.refl _ _) ?_
          repeat (go_big_quiet_step ((go_at_call 140; exact callsCalm (HTO.out _))))
          refine wpQuiet_nil ?_
          rintro _ ⟨zz, rfl⟩
          have GZ := Lib.hid (HG.out.trans (zz.ok.mono HG.out.size))
          cases ob with
          | true =>
            have hf : fb = false := HFB.out.symm.trans (fit_no2 (j := k) (by rw [HRL.out]; exact hkm) (HX.out.trans HXP.out) (by rw [HYQ.out, HPK.out]; exact HOB.out))
            subst hf
            go_wp2_with fail
            go_ret
            exact ⟨rfl, GW2.out.trans (GZ.out.mono GW2.out.size)⟩
          | false =>
            go_wp2_with fail
            go_roundw
            case rel => exact ⟨k + 1, by omega, by go_num, GZ.out, fun j hj => by
              by_cases e : j = k
              · subst e; rintro ⟨-, h2⟩; rw [HPK.out, HOB.out] at h2; exact absurd h2 (by decide)
              · exact HALL.out j (by omega)⟩
            case measure => simp [intOf]; omega
        · have hxb : (x == person) = false := by simpa using hxp
          have HXP := Lib.hid hxp
          clear hxp
          refine wp_region_calm wr (by kernel_rfl) (by kernel_rfl) (Below.refl _ _) ?_
          repeat (go_big_quiet_step ((go_at_call 140; exact callsCalm (HTO.out _))))
          refine wpQuiet_nil ?_
          rintro _ ⟨zz, rfl⟩
          have GZ := Lib.hid (HG.out.trans (zz.ok.mono HG.out.size))
          go_wp2_with fail
          go_roundw
          case rel => exact ⟨k + 1, by omega, by go_num, GZ.out, fun j hj => by
            by_cases e : j = k
            · subst e; rintro ⟨h1, -⟩; exact HXP.out (HX.out.symm.trans h1)
            · exact HALL.out j (by omega)⟩
          case measure => simp [intOf]; omega
      · obtain rfl : k = m := by omega
        have hf : fb = true := HFB.out.symm.trans (fit_yes (by rw [HYQ.out]; exact HNO.out) (fun j hj => by rw [HYQ.out]; exact HALL.out j (by rw [← HRL.out]; exact hj)))
        subst hf
        clear hg
        go_wp2_with fail
        go_ret
        exact ⟨rfl, HGW.out⟩
end Go.Proofs.YtehhlgdkhecacaaGreat
namespace Go.Proofs.YtehhlgdkhecacaaGreat
open Go.RowKit Go.Shelf
theorem refIdx_any (A : Option Addr) (n c : Nat) (l : List Int) (x : Int) (w : World) (ha : Ints w A n l) (hn : n ≤ 1000000) :
    Calls Tryz.prog 100 #[.slice A n c, .int .i64 x] w fun e w' => (∃ i : Int, e = .returned (.int .i64 i) ∧ decide (0 ≤ i) = hasI l x) ∧ w = w' := by
  have HA := Lib.hid ha
  have hlen := Lib.hid ha.1
  clear ha
  go_enter Tryz.func100, Tryz.ntmps100
  go_wp2_with fail
  go_loop [5] (fun i => ∃ k : Nat, k ≤ n ∧ i = .int .i64 k ∧ ∀ j, j < k → l.getD j 0 ≠ x) (fun i => n - (intOf i).toNat)
  case atStart => exact ⟨0, Nat.zero_le _, rfl, fun j hj => absurd hj (by omega)⟩
  case round =>
    obtain ⟨k, hk, rfl, hno⟩ := hrel
    have HNO := Lib.hid hno
    clear hno
    by_cases hkn : k < n
    · obtain ⟨b, o, rfl, -, hmem, hc⟩ := ints_at HA.out hkn
      have d0 := hc _ (Below.refl _ _)
      obtain ⟨y, hy⟩ : ∃ y, l.getD k 0 = y := ⟨_, rfl⟩
      rw [hy] at d0 hmem
      have HY := Lib.hid hy
      have HM := Lib.hid hmem
      have hki : (k : Int) < (n : Int) := by omega
      have hwr : wrap64 ((k : Int) + 1) = (k : Int) + 1 := wrap_in (by omega)
      clear hc hmem hy
      by_cases e : y = x
      · subst e
        go_wp2_with fail
        go_ret
        exact ⟨⟨k, rfl, by rw [decide_eq_true (show (0 : Int) ≤ k by omega)]; exact (hasI_true (List.mem_of_getElem? HM.out)).symm⟩, rfl⟩
      · have e1 : (y == x) = false := by simpa using e
        have E := Lib.hid e
        clear e
        go_wp2_with fail
        go_round
        case rel => exact ⟨k + 1, by omega, by go_num, fun j hj => by
          by_cases e : j = k
          · subst e; rw [HY.out]; exact E.out
          · exact HNO.out j (by omega)⟩
        case measure => simp only [intOf]; omega
    · obtain rfl : n = k := by omega
      have hki : ¬ (n : Int) < (n : Int) := by omega
      go_wp2_with fail
      go_ret
      refine ⟨⟨-1, rfl, ?_⟩, rfl⟩
      rw [decide_eq_false (by omega)]
      exact (hasI_false fun j hj => HNO.out j (by rw [← hlen.out]; exact hj)).symm
theorem refHas_any (A : Option Addr) (n c : Nat) (l : List Int) (x : Int) (w : World) (ha : Ints w A n l) (hn : n ≤ 1000000) :
    Calls Tryz.prog 40 #[.slice A n c, .int .i64 x] w fun e w' => e = .returned (.bool (hasI l x)) ∧ w = w' := by
  have T := refIdx_any A n c l x w ha hn
  generalize hasI l x = r at T ⊢
  clear ha
  go_enter Tryz.func40, Tryz.ntmps40
  go_wp2_with (go_at_call 100; (with_reducible refine T.mono ?_); rintro e w' ⟨⟨i, rfl, hi⟩, rfl⟩)
  go_ret
  exact ⟨rfl, rfl⟩
end Go.Proofs.YtehhlgdkhecacaaGreat
namespace Go.Proofs.YtehhlgdkhecacaaGreat
open Go.RowKit Go.Shelf
/-- What a valid list gives. -/
theorem look_ok {l : List Qf} {days : List Int} (h : lookE l days = 0) : okL l = true := by
  unfold lookE at h
  by_cases e : okL l = true
  · exact e
  · rw [if_neg e] at h; exact absurd h (by decide)
theorem ok_mem {w : World} {A : Option Addr} {n : Nat} {l : List Pf} (ha : Prf w A n l) (h : okL (l.map Pf.q) = true) : n ≤ 60 ∧ ∀ p ∈ l, 1 ≤ p.n ∧ p.n ≤ 4 := by
  have h1 := okL_len h
  rw [List.length_map, ha.len] at h1
  refine ⟨h1, fun p hp => ?_⟩
  have h2 := isQf_per (okL_all h _ (List.mem_map.2 ⟨p, hp, rfl⟩))
  have h3 := (ha.p p hp).len
  omega
theorem cntP_q (l : List Pf) (d : Int) : (l.filter fun p => cnt p.q d).map Pf.q = cntL (l.map Pf.q) d := by unfold cntL; rw [← filt_map]
end Go.Proofs.YtehhlgdkhecacaaGreat
namespace Go.Proofs.YtehhlgdkhecacaaGreat
theorem manyF (l : List Qf) : manyL l = (l.map fun q => q.per.length).foldr (· * ·) 1 := by
  have g : ∀ (l : List Nat) (m : Nat), l.foldl (· * ·) m = m * l.foldr (· * ·) 1 := fun l => by
    induction l with
    | nil => intro m; simp
    | cons x l ih => intro m; rw [List.foldl_cons, List.foldr_cons, ih, Nat.mul_assoc]
  unfold manyL
  rw [g, Nat.one_mul]
theorem manyS : ∀ {c l : List Qf}, c.Sublist l → (∀ q ∈ l, 1 ≤ q.per.length) → manyL c ≤ manyL l
  | _, _, .slnil, _ => Nat.le_refl _
  | c, _, .cons (l₂ := l) q h, hq => by
    refine Nat.le_trans (manyS h fun x hx => hq x (List.mem_cons_of_mem _ hx)) ?_
    rw [manyF (q :: l), manyF l, List.map_cons, List.foldr_cons]
    exact Nat.le_mul_of_pos_left _ (hq q (by simp))
  | _, _, .cons_cons (l₁ := c) (l₂ := l) q h, hq => by
    have := manyS h fun x hx => hq x (List.mem_cons_of_mem _ hx)
    rw [manyF c, manyF l] at this
    rw [manyF (q :: c), manyF (q :: l), List.map_cons, List.map_cons, List.foldr_cons, List.foldr_cons]
    exact Nat.mul_le_mul_left _ this
theorem isQf_per1 {q : Qf} (h : isQf q = true) : 1 ≤ q.per.length := by
  unfold isQf at h
  simp only [Bool.and_eq_true] at h
  have := h.1.1.1.1.1.1.1.2
  unfold rng at this
  simp at this
  omega
theorem okL_subl {c l : List Qf} (h : okL l = true) (hs : c.Sublist l) : okL c = true := by
  unfold okL at h ⊢
  simp only [Bool.and_eq_true, decide_eq_true_eq] at h ⊢
  obtain ⟨⟨⟨h1, h2⟩, h3⟩, h4⟩ := h
  have ha : ∀ q ∈ l, isQf q = true := List.all_eq_true.1 h1
  exact ⟨⟨⟨List.all_eq_true.2 fun q hq => ha q (hs.subset hq), Nat.le_trans hs.length_le h2⟩, Nat.le_trans (manyS hs fun q hq => isQf_per1 (ha q hq)) h3⟩, upB_iff.2 ((upB_iff.1 h4).sublist (hs.map _))⟩
end Go.Proofs.YtehhlgdkhecacaaGreat
namespace Go.Proofs.YtehhlgdkhecacaaGreat
theorem lss_cnt (l : List Qf) (s known : Int) : cntL (lssL l s) known = lssL (cntL l known) s := by
  unfold cntL lssL
  rw [List.filter_filter, List.filter_filter]
  exact List.filter_congr fun q _ => Bool.and_comm _ _
end Go.Proofs.YtehhlgdkhecacaaGreat
namespace Go.Proofs.YtehhlgdkhecacaaGreat
theorem ofL_self : ∀ {s c : List Qf}, s.Sublist c → (srcL c).Pairwise (· < ·) → ofL c (srcL s) = s := by
  intro s c h
  induction h with
  | slnil => intro _; rfl
  | cons a hs ih =>
    intro hc
    unfold srcL at hc
    rw [List.map_cons, List.pairwise_cons] at hc
    have e := ih hc.2
    unfold ofL at e ⊢
    rw [List.filter_cons_of_neg, e]
    intro hm
    obtain ⟨p, hp, he⟩ := List.mem_map.1 (of_decide_eq_true hm)
    have := hc.1 p.src (List.mem_map.2 ⟨p, hs.subset hp, rfl⟩)
    omega
  | cons_cons a hs ih =>
    intro hc
    unfold srcL at hc
    rw [List.map_cons, List.pairwise_cons] at hc
    have e := ih hc.2
    unfold ofL srcL at e ⊢
    rw [List.map_cons, List.filter_cons_of_pos (by simp)]
    refine congrArg (a :: ·) (Eq.trans (List.filter_congr fun p hp => ?_) e)
    have := hc.1 p.src (List.mem_map.2 ⟨p, hp, rfl⟩)
    have h2 : p.src ≠ a.src := by omega
    simp [h2]
theorem isRead_len (c : List Qf) : isRead c = !decide ((reads c).length = 0) := by
  unfold isRead
  cases reads c <;> simp
/-- What holds before the proof with index i is tried. -/
def ClI (c : List Qf) (i : Nat) (l : List Qf) : Prop := l.Sublist c ∧ l.take i = c.take i ∧ clF c i (srcL l) = clashL c
theorem ClI.stop {c l : List Qf} (h : ClI c 0 l) : srcL l = clashL c := h.2.2
theorem ClI.lss {c l : List Qf} {i : Nat} (hc : (srcL c).Pairwise (· < ·)) (hi : i < c.length) (h : ClI c (i + 1) l) : lssL l ((srcL c).getD i 0) = l.eraseIdx i ∧ i < l.length := by
  obtain ⟨h1, h2, -⟩ := h
  have hl : i < l.length := by
    have := congrArg List.length h2
    rw [List.length_take, List.length_take] at this
    omega
  have e : l.getD i q0 = c.getD i q0 := by
    rw [← getD_take (a := l) (k := i + 1) (by omega), h2, getD_take (by omega)]
  have e2 : (srcL c).getD i 0 = (l.getD i q0).src := by
    rw [e]
    unfold srcL
    rw [List.getD_eq_getElem?_getD, List.getElem?_map, List.getElem?_eq_getElem hi, List.getD_eq_getElem?_getD, List.getElem?_eq_getElem hi]; rfl
  rw [e2]
  exact ⟨lss_at hl (hc.sublist (h1.map Qf.src)), hl⟩
theorem ClI.step {c l : List Qf} {i : Nat} (hc : (srcL c).Pairwise (· < ·)) (hi : i < c.length) (h : ClI c (i + 1) l) :
    (lssL l ((srcL c).getD i 0)).Sublist c ∧ (isRead (lssL l ((srcL c).getD i 0)) = true → ClI c i l) ∧ (isRead (lssL l ((srcL c).getD i 0)) = false → ClI c i (lssL l ((srcL c).getD i 0))) := by
  obtain ⟨he, hl⟩ := h.lss hc hi
  obtain ⟨h1, h2, h3⟩ := h
  rw [he]
  have hsub : (l.eraseIdx i).Sublist c := (List.eraseIdx_sublist l i).trans h1
  have hsrc : (srcL l).eraseIdx i = srcL (l.eraseIdx i) := by
    unfold srcL
    rw [List.eraseIdx_eq_take_drop_succ, List.eraseIdx_eq_take_drop_succ, List.map_append, List.map_take, List.map_drop]
  have hof : ofL c ((srcL l).eraseIdx i) = l.eraseIdx i := by rw [hsrc]; exact ofL_self hsub hc
  have ht : l.take i = c.take i := by
    have := congrArg (List.take i) h2
    rwa [List.take_take, List.take_take, Nat.min_eq_left (by omega)] at this
  unfold clF at h3
  rw [hof] at h3
  refine ⟨hsub, fun hr => ⟨h1, ht, ?_⟩, fun hr => ⟨hsub, ?_, ?_⟩⟩
  · rw [if_pos hr] at h3; exact h3
  · rw [List.eraseIdx_eq_take_drop_succ, List.take_append_of_le_length (by rw [List.length_take]; omega), List.take_take, Nat.min_self]
    exact ht
  · rw [if_neg (by rw [hr]; decide), hsrc] at h3; exact h3
end Go.Proofs.YtehhlgdkhecacaaGreat
namespace Go.Proofs.YtehhlgdkhecacaaGreat
/-- A title, as long as the marriages wait. -/
def titW (c : List Qf) (r : List Int) (i : Nat) : Tt × Bool :=
  if (c.getD i q0).kind = 8 ∨ (c.getD i q0).kind = 2 then (⟨(c.getD i q0).day, (c.getD i q0).par, (c.getD i q0).src⟩, false)
  else if 0 < needs (c.getD i q0).kind then
    (⟨(c.getD i q0).day + needs (c.getD i q0).kind, (c.getD i q0).par, (c.getD i q0).src⟩, decide (needs (c.getD i q0).kind ≤ (c.getD i q0).thr - (c.getD i q0).day + 1) && !certB c r (r.getD i 0) (c.getD i q0).day)
  else (⟨(c.getD i q0).day, (c.getD i q0).par, (c.getD i q0).src⟩, true)
theorem titW_not {c : List Qf} {r : List Int} {i : Nat} (h : (c.getD i q0).kind ≠ 2) (s : Int → Int → Int) : titW c r i = titS s c r i := by
  unfold titW titS
  by_cases h8 : (c.getD i q0).kind = 8
  · rw [if_pos (.inl h8), if_pos h8]
  · rw [if_neg (by rintro (e | e); exact h8 e; exact h e), if_neg h8, if_neg h]
theorem titW_mar {c : List Qf} {r : List Int} {i : Nat} (h : (c.getD i q0).kind = 2) : titW c r i = (⟨(c.getD i q0).day, (c.getD i q0).par, (c.getD i q0).src⟩, false) := by
  unfold titW
  rw [if_pos (.inr h)]
theorem titS_mar {s : Int → Int → Int} {c : List Qf} {r : List Int} {i : Nat} (h : (c.getD i q0).kind = 2) : titS s c r i = (⟨(c.getD i q0).day, s (c.getD i q0).oth ((c.getD i q0).day - 1), (c.getD i q0).src⟩, decide (s (c.getD i q0).oth ((c.getD i q0).day - 1) ≠ -1)) := by
  unfold titS
  rw [if_neg (by omega), if_pos h]
/-- Where a person is settled on a day, by titles that are known. -/
def bet2 (b t : Tt) : Bool := decide (b.day < t.day) || (decide (t.day = b.day) && decide (b.src < t.src))
def atS (x : Nat → Tt × Bool) (r : List Int) (person day : Int) (b : Tt) (i : Nat) : Tt :=
  if (x i).2 = true ∧ r.getD i 0 = person ∧ (x i).1.day ≤ day ∧ bet2 b (x i).1 = true then (x i).1 else b
def atK (x : Nat → Tt × Bool) (r : List Int) (person day : Int) : Nat → Tt
  | 0 => ⟨-1, -1, 0⟩
  | k + 1 => atS x r person day (atK x r person day k) k
/-- Titles that differ only where they do not count. -/
theorem atK_congr {x y : Nat → Tt × Bool} {r : List Int} {person day : Int} : ∀ {n : Nat}, (∀ i, i < n → x i = y i ∨ (((x i).2 = false ∨ day < (x i).1.day) ∧ ((y i).2 = false ∨ day < (y i).1.day))) → atK x r person day n = atK y r person day n
  | 0, _ => rfl
  | n + 1, h => by
    unfold atK
    rw [atK_congr fun i hi => h i (by omega)]
    unfold atS
    rcases h n (by omega) with e | ⟨h1, h2⟩
    · rw [e]
    · rw [if_neg, if_neg]
      · rintro ⟨k1, -, k2, -⟩
        rcases h2 with e | e
        · rw [e] at k1; cases k1
        · omega
      · rintro ⟨k1, -, k2, -⟩
        rcases h1 with e | e
        · rw [e] at k1; cases k1
        · omega
theorem bet2_lt (b t : Tt) : bet2 b t = ltT b t := by
  unfold bet2 ltT
  by_cases h : t.day = b.day
  · simp [h]
  · simp [h, Ne.symm h]
theorem atK_best (s : Int → Int → Int) (c : List Qf) (r : List Int) (person day : Int) : ∀ n, atK (titS s c r) r person day n = (((List.range n).filter fun i => hasT s c r person day i).map fun i => (titS s c r i).1).foldl (fun b t => if betT day b t = true then t else b) ⟨-1, -1, 0⟩
  | 0 => rfl
  | n + 1 => by
    unfold atK
    rw [atK_best s c r person day n, List.range_succ, List.filter_append, List.map_append, List.foldl_append]
    generalize (((List.range n).filter fun i => hasT s c r person day i).map fun i => (titS s c r i).1).foldl (fun b t => if betT day b t = true then t else b) ⟨-1, -1, 0⟩ = b
    unfold atS
    have hd := titS_day s c r n
    by_cases h : hasT s c r person day n = true
    · rw [List.filter_cons_of_pos h, List.filter_nil, List.map_singleton, List.foldl_cons, List.foldl_nil]
      unfold hasT at h
      simp only [Bool.and_eq_true, decide_eq_true_eq] at h
      unfold betT
      rw [bet2_lt]
      by_cases k1 : (titS s c r n).1.day ≤ day
      · by_cases k2 : ltT b (titS s c r n).1 = true
        · rw [if_pos ⟨h.2, h.1.1, k1, k2⟩, decide_eq_true k1, k2]; rfl
        · rw [if_neg (fun e => k2 e.2.2.2), if_neg (by rw [decide_eq_true k1, Bool.true_and]; exact k2)]
      · rw [if_neg (fun e => k1 e.2.2.1), if_neg (by rw [decide_eq_false k1]; simp)]
    · rw [List.filter_cons_of_neg h, List.filter_nil, List.map_nil, List.foldl_nil, if_neg]
      rintro ⟨k1, k2, k3, -⟩
      refine h ?_
      unfold hasT
      simp only [Bool.and_eq_true, decide_eq_true_eq]
      exact ⟨⟨k2, by omega⟩, k1⟩
/-- By the true titles that is where the person is settled. -/
theorem atK_set {c : List Qf} {r : List Int} (hc : Days c) (hs : (c.map Qf.src).Nodup) (person day : Int) : (atK (titS (setS c r) c r) r person day c.length).par = setS c r person day := by
  rw [setS_eq hc, best_last (titL_apart2 hs) (titL_day0 hc), atK_best]
  rfl
/-- What is known while some marriages wait: those whose place d is true are done. -/
def titD (c : List Qf) (r : List Int) (d : Nat → Bool) (i : Nat) : Tt × Bool := if d i = true then titS (setS c r) c r i else titW c r i
/-- The next marriage: the first of those that wait whose day is least. -/
def nxS (c : List Qf) (d : Nat → Bool) (b : Int) (i : Nat) : Int :=
  if (c.getD i q0).kind = 2 ∧ d i = false ∧ (b < 0 ∨ (c.getD i q0).day < (c.getD b.toNat q0).day) then (i : Int) else b
def nxK (c : List Qf) (d : Nat → Bool) : Nat → Int
  | 0 => -1
  | k + 1 => nxS c d (nxK c d k) k
theorem nxK_spec (c : List Qf) (d : Nat → Bool) : ∀ k, (nxK c d k = -1 ∧ ∀ i, i < k → ¬ ((c.getD i q0).kind = 2 ∧ d i = false)) ∨ (∃ j : Nat, nxK c d k = j ∧ j < k ∧ (c.getD j q0).kind = 2 ∧ d j = false ∧ ∀ i, i < k → (c.getD i q0).kind = 2 → d i = false → (c.getD j q0).day ≤ (c.getD i q0).day)
  | 0 => .inl ⟨rfl, fun i hi => absurd hi (by omega)⟩
  | k + 1 => by
    unfold nxK nxS
    by_cases hw : (c.getD k q0).kind = 2 ∧ d k = false
    · rcases nxK_spec c d k with ⟨h1, h2⟩ | ⟨j, h1, h2, h3, h4, h5⟩
      · rw [h1, if_pos ⟨hw.1, hw.2, .inl (by omega)⟩]
        refine .inr ⟨k, rfl, by omega, hw.1, hw.2, fun i hi e1 e2 => ?_⟩
        by_cases e : i = k
        · subst e; exact Int.le_refl _
        · exact absurd ⟨e1, e2⟩ (h2 i (by omega))
      · rw [h1, Int.toNat_natCast]
        by_cases hlt : (c.getD k q0).day < (c.getD j q0).day
        · rw [if_pos ⟨hw.1, hw.2, .inr hlt⟩]
          refine .inr ⟨k, rfl, by omega, hw.1, hw.2, fun i hi e1 e2 => ?_⟩
          by_cases e : i = k
          · subst e; exact Int.le_refl _
          · have := h5 i (by omega) e1 e2; omega
        · rw [if_neg (by rintro ⟨-, -, h | h⟩ <;> omega)]
          refine .inr ⟨j, rfl, by omega, h3, h4, fun i hi e1 e2 => ?_⟩
          by_cases e : i = k
          · subst e; omega
          · exact h5 i (by omega) e1 e2
    · rw [if_neg (fun e => hw ⟨e.1, e.2.1⟩)]
      rcases nxK_spec c d k with ⟨h1, h2⟩ | ⟨j, h1, h2, h3, h4, h5⟩
      · exact .inl ⟨h1, fun i hi => by
          by_cases e : i = k
          · subst e; exact hw
          · exact h2 i (by omega)⟩
      · exact .inr ⟨j, h1, by omega, h3, h4, fun i hi e1 e2 => by
          by_cases e : i = k
          · subst e; exact absurd ⟨e1, e2⟩ hw
          · exact h5 i (by omega) e1 e2⟩
/-- Before the day of the next one, nothing that waits counts. -/
theorem atK_next {c : List Qf} {r : List Int} (hc : Days c) (hs : (c.map Qf.src).Nodup) {d : Nat → Bool} {D : Int} (hD : ∀ i, i < c.length → (c.getD i q0).kind = 2 → d i = false → D ≤ (c.getD i q0).day) (person : Int) :
    (atK (titD c r d) r person (D - 1) c.length).par = setS c r person (D - 1) := by
  rw [← atK_set hc hs]
  congr 1
  refine atK_congr fun i hi => ?_
  unfold titD
  by_cases hd : d i = true
  · rw [if_pos hd]; exact .inl rfl
  · rw [if_neg hd]
    by_cases hk : (c.getD i q0).kind = 2
    · have h1 := hD i hi hk (by simpa using hd)
      refine .inr ⟨.inl (by rw [titW_mar hk]), .inr ?_⟩
      rw [titS_mar hk]
      show D - 1 < (c.getD i q0).day
      omega
    · exact .inl (titW_not hk _)
/-- When none waits any more, the titles are the true ones. -/
theorem titD_done {c : List Qf} {r : List Int} {d : Nat → Bool} (h : ∀ i, i < c.length → ¬ ((c.getD i q0).kind = 2 ∧ d i = false)) {i : Nat} (hi : i < c.length) : titD c r d i = titS (setS c r) c r i := by
  unfold titD
  by_cases hd : d i = true
  · rw [if_pos hd]
  · rw [if_neg hd]
    exact titW_not (fun e => h i hi ⟨e, by simpa using hd⟩) _
end Go.Proofs.YtehhlgdkhecacaaGreat
namespace Go.Proofs.YtehhlgdkhecacaaGreat
open Go.RowKit Go.Shelf
set_option maxRecDepth 100000 in
set_option maxHeartbeats 4000000 in
theorem refRight_any (A : Option Addr) (n c : Nat) (l : List Int) (p : Int) (w : World) (ha : Ints w A n l) (hn : n ≤ 1000000) :
    Calls Tryz.prog 93 #[.slice A n c, .int .i64 p] w fun e w' => e = .returned (.int .i64 (righN l p)) ∧ w = w' := by
  have T := Lib.hid (refHas_any A n c l p w ha hn)
  have hl : l.length = n := ha.1
  unfold righN
  by_cases hp : p ∈ l
  · rw [hasI_true hp] at T
    rw [if_pos hp, hl]
    by_cases h1 : n = 1
    · have h1b : ((n : Int) == 1) = true := beq_iff_eq.2 (by omega)
      rw [if_pos h1]
      clear ha hl hp h1
      go_enter Tryz.func93, Tryz.ntmps93
      go_wp2_with (go_at_call 40; (with_reducible refine (T.out).mono ?_); rintro e w' ⟨rfl, rfl⟩)
      go_ret
      exact ⟨rfl, rfl⟩
    · have h1b : ((n : Int) == 1) = false := beq_eq_false_iff_ne.2 (by omega)
      rw [if_neg h1]
      clear ha hl hp
      go_enter Tryz.func93, Tryz.ntmps93
      go_wp2_with (go_at_call 40; (with_reducible refine (T.out).mono ?_); rintro e w' ⟨rfl, rfl⟩)
      go_ret
      exact ⟨rfl, rfl⟩
  · rw [show hasI l p = false from Bool.not_eq_true _ ▸ fun h => hp (hasI_iff.1 h)] at T
    rw [if_neg hp]
    clear ha hl hp
    go_enter Tryz.func93, Tryz.ntmps93
    go_wp2_with (go_at_call 40; (with_reducible refine (T.out).mono ?_); rintro e w' ⟨rfl, rfl⟩)
    go_ret
    exact ⟨rfl, rfl⟩
end Go.Proofs.YtehhlgdkhecacaaGreat
namespace Go.Proofs.YtehhlgdkhecacaaGreat
open Go.RowKit Go.Shelf
set_option maxRecDepth 100000 in
set_option maxHeartbeats 4000000 in
theorem refCertified_any (A : Option Addr) (n c : Nat) (l : List Pf) (B : Option Addr) (d : Nat) (r : List Int) (person day : Int) (w : World) (ha : Prf w A n l) (hb : Ints w B n r) (hn : n ≤ 1000) :
    Calls Tryz.prog 155 #[.slice A n c, .slice B n d, .agg #[.int .i64 person, .int .i64 day]] w fun e w' => e = .returned (.bool (certB (l.map Pf.q) r person day)) ∧ Below w.heap.size w w' := by
  obtain ⟨cb, hcb⟩ : ∃ s, certB (l.map Pf.q) r person day = s := ⟨_, rfl⟩
  rw [hcb]
  have HCB := Lib.hid hcb
  have HLM := Lib.hid (show l.length = n from ha.len)
  have HN := Lib.hid hn
  obtain ⟨V, hV⟩ : ∃ X, w.alloc (.cells #[.int .i64 person, .int .i64 day] 65) = X := ⟨_, rfl⟩
  have GV := Lib.hid (show Below w.heap.size w V by rw [← hV]; exact one_more _ _)
  have BV := Lib.hid (show Blk V w.heap.size 65 #[.int .i64 person, .int .i64 day] by rw [← hV]; exact Blk.new _ _ _)
  have HV := Lib.hid hV
  have HA := Lib.hid (ha.below GV.out)
  have HR := Lib.hid (hb.below GV.out)
  clear ha hb hcb hV
  go_enter Tryz.func155, Tryz.ntmps155
  go_upto_region 1 with fail
  rw [HV.out]
  obtain ⟨bw, hbw⟩ : ∃ b, w.heap.size = b := ⟨_, rfl⟩
  have HBW := Lib.hid hbw
  rw [hbw] at BV ⊢
  clear hbw
  go_wp2_with fail
  go_loopw [7] (fun i wr => ∃ k : Nat, k ≤ n ∧ i = .int .i64 k ∧ Below V.heap.size V wr ∧ ∀ j, j < k → ¬ (((l.map Pf.q).getD j q0).kind = 6 ∧ r.getD j 0 = person ∧ ((l.map Pf.q).getD j q0).day ≤ day)) (fun i _ => n - (intOf i).toNat)
  case atStart => exact ⟨0, Nat.zero_le _, rfl, Below.refl _ _, fun j hj => absurd hj (by omega)⟩
  case round =>
    obtain ⟨k, hk, rfl, hg, hall⟩ := hrel
    have HG := Lib.hid hg
    have HALL := Lib.hid hall
    clear hall
    have GZ := Lib.hid (show Below bw w wr by rw [← HBW.out]; exact GV.out.trans (hg.mono GV.out.size))
    by_cases hkn : k < n
    · obtain ⟨b2, o2, rfl, -, -, hc2⟩ := ints_at (HR.out.below hg) hkn
      obtain ⟨rr, hrr⟩ : ∃ s, r.getD k 0 = s := ⟨_, rfl⟩
      rw [hrr] at hc2
      have HRR := Lib.hid hrr
      have HPK := Lib.hid (map_pf (l := l) (k := k) (by rw [HLM.out]; exact hkn))
      obtain ⟨b, o, rfl, -, -, -, hyc⟩ := (HA.out.below hg).at hkn
      obtain ⟨y, hy⟩ : ∃ y, l.getD k p0 = y := ⟨_, rfl⟩
      rw [hy] at hyc HPK
      obtain ⟨e0, e1, e2, e3, e4, e5, e6, e7, e8⟩ := hyc _ (Below.refl _ _)
      have r0 := hc2 _ (Below.refl _ _)
      have b0 : World.cell? wr ⟨bw, 0, none⟩ = some (.int .i64 person) := (BV.out.ext hg).cell 0
      have b1 : World.cell? wr ⟨bw, 1, none⟩ = some (.int .i64 day) := (BV.out.ext hg).cell 1
      have hwr2 : wrap64 ((k : Int) + 1) = (k : Int) + 1 := wrap_in (by have := HN.out; omega)
      have hki : (k : Int) < (n : Int) := by omega
      clear hrr hy hyc hc2 hg e0 e2 e3 e4 e6 e7 e8
      have HQK := Lib.hid (show (l.map Pf.q).getD k q0 = y.q from HPK.out)
      have x1 := cellW e1
      have x5 := cellW e5
      have xr := cellW r0
      have xb0 := cellW b0
      have xb1 := cellW b1
      clear e1 e5 r0 b0 b1
      by_cases h1 : y.q.kind = 6
      · have h1b : (y.q.kind == 6) = true := by simpa using h1
        by_cases h2 : rr = person
        · have h2b : (rr == person) = true := by simpa using h2
          by_cases h3 : y.q.day ≤ day
          · have h3b := decide_eq_true h3
            have hf : cb = true := HCB.out.symm.trans (cert_true (k := k) (by rw [List.length_map, HLM.out]; exact hkn) (by rw [HQK.out]; exact h1) (HRR.out.trans h2) (by rw [HQK.out]; exact h3))
            subst hf
            clear h1 h2 h3
            go_upto_region 4 with fail
            refine wp_region_calm wr (by kernel_rfl) (by kernel_rfl) (Below.refl _ _) ?_
            repeat (go_big_quiet_step (fail))
            refine wpQuiet_nil ?_
            rintro _ ⟨z, rfl⟩
            have GQ := Lib.hid z.ok
            go_wp2
            go_ret
            exact ⟨rfl, by rw [HBW.out]; exact GZ.out.trans (GQ.out.mono (by have := HBW.out; have := GZ.out.size; omega))⟩
          · have h3b := decide_eq_false h3
            have HNO := Lib.hid h3
            clear h1 h2 h3
            go_upto_region 4 with fail
            refine wp_region_calm wr (by kernel_rfl) (by kernel_rfl) (Below.refl _ _) ?_
            repeat (go_big_quiet_step (fail))
            refine wpQuiet_nil ?_
            rintro _ ⟨z, rfl⟩
            have GQ := Lib.hid z.ok
            go_wp2
            go_roundw
            case rel => exact ⟨k + 1, by omega, rfl, HG.out.trans (GQ.out.mono HG.out.size), fun j hj => by
              by_cases e : j = k
              · subst e; rintro ⟨-, -, h⟩; rw [HQK.out] at h; exact HNO.out h
              · exact HALL.out j (by omega)⟩
            case measure => simp only [intOf]; omega
        · have h2b : (rr == person) = false := by simpa using h2
          have HNO := Lib.hid h2
          clear h1 h2
          go_upto_region 4 with fail
          refine wp_region_calm wr (by kernel_rfl) (by kernel_rfl) (Below.refl _ _) ?_
          repeat (go_big_quiet_step (fail))
          refine wpQuiet_nil ?_
          rintro _ ⟨z, rfl⟩
          have GQ := Lib.hid z.ok
          go_wp2
          go_roundw
          case rel => exact ⟨k + 1, by omega, rfl, HG.out.trans (GQ.out.mono HG.out.size), fun j hj => by
            by_cases e : j = k
            · subst e; rintro ⟨-, h, -⟩; exact HNO.out (HRR.out.symm.trans h)
            · exact HALL.out j (by omega)⟩
          case measure => simp only [intOf]; omega
      · have h1b : (y.q.kind == 6) = false := by simpa using h1
        have HNO := Lib.hid h1
        clear h1
        go_upto_region 4 with fail
        refine wp_region_calm wr (by kernel_rfl) (by kernel_rfl) (Below.refl _ _) ?_
        repeat (go_big_quiet_step (fail))
        refine wpQuiet_nil ?_
        rintro _ ⟨z, rfl⟩
        have GQ := Lib.hid z.ok
        go_wp2
        go_roundw
        case rel => exact ⟨k + 1, by omega, rfl, HG.out.trans (GQ.out.mono HG.out.size), fun j hj => by
          by_cases e : j = k
          · subst e; rintro ⟨h, -, -⟩; rw [HQK.out] at h; exact HNO.out h
          · exact HALL.out j (by omega)⟩
        case measure => simp only [intOf]; omega
    · obtain rfl : k = n := by omega
      have hf : cb = false := HCB.out.symm.trans (cert_false fun j hj => HALL.out j (by rw [List.length_map, HLM.out] at hj; exact hj))
      subst hf
      clear hg
      go_wp2
      go_ret
      exact ⟨rfl, by rw [HBW.out]; exact GZ.out⟩
end Go.Proofs.YtehhlgdkhecacaaGreat
namespace Go.Proofs.YtehhlgdkhecacaaGreat
open Go.RowKit Go.Shelf
theorem titW_kind {c : List Qf} {r : List Int} {i : Nat} {y : Qf} (hy : c.getD i q0 = y) : titW c r i = if y.kind = 8 ∨ y.kind = 2 then (⟨y.day, y.par, y.src⟩, false) else if 0 < needs y.kind then (⟨y.day + needs y.kind, y.par, y.src⟩, decide (needs y.kind ≤ y.thr - y.day + 1) && !certB c r (r.getD i 0) y.day) else (⟨y.day, y.par, y.src⟩, true) := by
  unfold titW
  rw [hy]
/-- What title returns. -/
def TtEnd (x : Tt × Bool) (w : World) (e : Ending) (w' : World) : Prop := e = .returned (.tuple #[tv x.1, .bool x.2]) ∧ Below w.heap.size w w'
theorem below_s3 {W V : World} {B R : Nat} (h : Below B W V) (hR : B ≤ R) (t : Tt) : Below B W (S3 V R t) :=
  ((h.setCell (p := ⟨R, 0, none⟩) hR _).setCell (p := ⟨R, 1, none⟩) hR _).setCell (p := ⟨R, 2, none⟩) hR _
set_option maxRecDepth 100000 in
set_option maxHeartbeats 8000000 in
theorem refTitle_any (A : Option Addr) (n c : Nat) (l : List Pf) (B : Option Addr) (d : Nat) (rd : List Int) (i : Nat) (w : World) (ha : Prf w A n l) (hn : n ≤ 1000) (hb : Ints w B n rd) (hin : i < n) (hq : ∀ p ∈ l, isQf p.q = true) :
    Calls Tryz.prog 133 #[.slice A n c, .slice B n d, .int .i64 i] w (TtEnd (titW (l.map Pf.q) rd i) w) := by
  obtain ⟨b0, o0, eA, -, -, hym, hyc⟩ := ha.at hin
  obtain ⟨b1, o1, eB, hbr, -, hcr⟩ := ints_at hb hin
  have HBR := Lib.hid (show b1 < w.heap.size from hbr)
  have HTW := Lib.hid (titW_kind (c := l.map Pf.q) (r := rd) (map_pf (l := l) (k := i) (by rw [ha.len]; exact hin)))
  have hqy := hq _ hym
  have HA := Lib.hid ha
  have HBI := Lib.hid hb
  obtain ⟨y, hy⟩ : ∃ y, l.getD i p0 = y := ⟨_, rfl⟩
  rw [hy] at hyc hqy HTW
  have HDB := Lib.hid (day_bd hqy)
  have HCR := Lib.hid (fun W (g : Below w.heap.size w W) => hcr W g)
  obtain ⟨rr, hrr⟩ : ∃ s, rd.getD i 0 = s := ⟨_, rfl⟩
  rw [hrr] at HTW HCR
  have TCE := Lib.hid (fun W (g : Below w.heap.size w W) => refCertified_any A n c l B d rd rr y.q.day W (ha.below g) (hb.below g) hn)
  obtain ⟨cb, hcb⟩ : ∃ s, certB (l.map Pf.q) rd rr y.q.day = s := ⟨_, rfl⟩
  rw [hcb] at HTW TCE
  obtain ⟨tw, htw⟩ : ∃ t, titW (l.map Pf.q) rd i = t := ⟨_, rfl⟩
  rw [htw] at HTW ⊢
  obtain ⟨R, hR⟩ : ∃ R, w.heap.size = R := ⟨_, rfl⟩
  obtain ⟨W1, hW1⟩ : ∃ X, w.alloc (.cells #[.int .i64 0, .int .i64 0, .int .i64 0] 67) = X := ⟨_, rfl⟩
  have g1 : Below w.heap.size w W1 := by rw [← hW1]; exact one_more _ _
  have s1 : W1.heap.size = R + 1 := by rw [← hW1, ← hR]; simp
  have bb1 : Blk W1 R 67 #[.int .i64 0, .int .i64 0, .int .i64 0] := by rw [← hW1, ← hR]; exact Blk.new _ _ _
  obtain ⟨W2, hW2⟩ : ∃ X, W1.alloc (.cells #[.int .i64 y.q.src, .int .i64 y.q.kind, .slice y.A y.n y.c, .int .i64 y.q.oth, .int .i64 y.q.par, .int .i64 y.q.day, .int .i64 y.q.thr, .int .i64 y.q.kno, .int .i64 y.q.unt] 56) = X := ⟨_, rfl⟩
  have g2 : Below W1.heap.size W1 W2 := by rw [← hW2]; exact one_more _ _
  have s2 : W2.heap.size = R + 2 := by rw [← hW2]; simp [s1]
  have bb2 : Blk W2 (R + 1) 56 #[.int .i64 y.q.src, .int .i64 y.q.kind, .slice y.A y.n y.c, .int .i64 y.q.oth, .int .i64 y.q.par, .int .i64 y.q.day, .int .i64 y.q.thr, .int .i64 y.q.kno, .int .i64 y.q.unt] := by rw [← hW2, ← s1]; exact Blk.new _ _ _
  obtain ⟨W3, hW3⟩ : ∃ X, W2.alloc (.cells #[.int .i64 y.q.day, .int .i64 y.q.par, .int .i64 y.q.src] 67) = X := ⟨_, rfl⟩
  have g3 : Below W2.heap.size W2 W3 := by rw [← hW3]; exact one_more _ _
  have bb3 : Blk W3 (R + 2) 67 #[.int .i64 y.q.day, .int .i64 y.q.par, .int .i64 y.q.src] := by rw [← hW3, ← s2]; exact Blk.new _ _ _
  have G3 := Lib.hid ((extTrans (extTrans g1 g2) g3))
  have BR := Lib.hid ((bb1.ext g2).ext g3)
  have BP := Lib.hid (bb2.ext g3)
  have BT := Lib.hid bb3
  obtain ⟨e0, e1, e2, e3, e4, e5, e6, e7, e8⟩ := hyc _ g1
  have d0 := bb2.cell 0
  have d4 := bb2.cell 4
  have d5 := bb2.cell 5
  have HW1 := Lib.hid hW1
  have HW2 := Lib.hid hW2
  have HW3 := Lib.hid hW3
  have HRR := Lib.hid hR
  rw [hR] at HBR
  have HS1 := Lib.hid s1
  have HS2 := Lib.hid s2
  have hii : (i : Int) < (n : Int) := by omega
  subst eA
  subst eB
  clear ha hb hyc hcr hbr hqy hy hrr hcb htw hR hW1 hW2 hW3 g1 g2 g3 s1 s2 bb1 bb2 bb3 hq hym hin
  go_enter Tryz.func133, Tryz.ntmps133
  go_upto_region 1 with fail
  rw [HW1.out, HRR.out]
  go_upto_region 2 with fail
  rw [HW2.out, HS1.out]
  clear e0 e1 e2 e3 e4 e5 e6 e7 e8
  go_upto_region 3 with fail
  rw [HW3.out, HS2.out]
  clear d0 d4 d5
  have p1 := BP.out.cell 1
  have p5 := BP.out.cell 5
  have r0 := BR.out.cell 0
  have r1 := BR.out.cell 1
  have r2 := BR.out.cell 2
  have q0' := BR.out.frozen 0
  have q1' := BR.out.frozen 1
  have q2' := BR.out.frozen 2
  have t0' := BT.out.cell 0
  have t1' := BT.out.cell 1
  have t2' := BT.out.cell 2
  have tf0 := BT.out.frozen 0
  obtain ⟨kd, hkd⟩ : ∃ k, y.q.kind = k := ⟨_, rfl⟩
  rw [hkd] at p1 HTW
  clear hkd
  by_cases k8 : kd = 8
  · subst k8
    obtain rfl : tw = (⟨y.q.day, y.q.par, y.q.src⟩, false) := HTW.out.trans (if_pos (by decide))
    go_wp2_with fail
    have y0 := (BR.out.s3 rfl ⟨y.q.day, y.q.par, y.q.src⟩).cell 0
    have y1 := (BR.out.s3 rfl ⟨y.q.day, y.q.par, y.q.src⟩).cell 1
    have y2 := (BR.out.s3 rfl ⟨y.q.day, y.q.par, y.q.src⟩).cell 2
    refine bodyPost_ret (v := .tuple #[tv ⟨y.q.day, y.q.par, y.q.src⟩, .bool false]) ?_ rfl ⟨rfl, below_s3 (R := R) G3.out (by have := HRR.out; omega) ⟨y.q.day, y.q.par, y.q.src⟩⟩
    simp [results, Tryz.results133, go_sem, y0, y1, y2]
  by_cases k2 : kd = 2
  · subst k2
    obtain rfl : tw = (⟨y.q.day, y.q.par, y.q.src⟩, false) := HTW.out.trans (if_pos (by decide))
    go_wp2_with fail
    have y0 := (BR.out.s3 rfl ⟨y.q.day, y.q.par, y.q.src⟩).cell 0
    have y1 := (BR.out.s3 rfl ⟨y.q.day, y.q.par, y.q.src⟩).cell 1
    have y2 := (BR.out.s3 rfl ⟨y.q.day, y.q.par, y.q.src⟩).cell 2
    refine bodyPost_ret (v := .tuple #[tv ⟨y.q.day, y.q.par, y.q.src⟩, .bool false]) ?_ rfl ⟨rfl, below_s3 (R := R) G3.out (by have := HRR.out; omega) ⟨y.q.day, y.q.par, y.q.src⟩⟩
    simp [results, Tryz.results133, go_sem, y0, y1, y2]
  by_cases k3 : kd = 3
  · subst k3
    have HTN := Lib.hid (HTW.out.trans (if_neg (by decide)))
    rw [show needs 3 = 365 by decide, if_pos (by decide)] at HTN
    have hwd : wrap64 (y.q.day + 365) = y.q.day + 365 := wrap_in (by have := HDB.out; omega)
    go_upto_region 14 with fail
    obtain ⟨V1, hV1⟩ : ∃ X, W3.setCell ⟨R + 2, 0, none⟩ (.int .i64 (y.q.day + 365)) = X := ⟨_, rfl⟩
    have BT1 := Lib.hid (show Blk V1 (R + 2) 67 #[.int .i64 (y.q.day + 365), .int .i64 y.q.par, .int .i64 y.q.src] by rw [← hV1]; exact BT.out.set_ 0 _)
    have BR1 := Lib.hid (show Blk V1 R 67 #[.int .i64 0, .int .i64 0, .int .i64 0] by rw [← hV1]; exact BR.out.far (by show R ≠ R + 2; omega) _)
    have BP1 := Lib.hid (show Blk V1 (R + 1) 56 #[.int .i64 y.q.src, .int .i64 y.q.kind, .slice y.A y.n y.c, .int .i64 y.q.oth, .int .i64 y.q.par, .int .i64 y.q.day, .int .i64 y.q.thr, .int .i64 y.q.kno, .int .i64 y.q.unt] by rw [← hV1]; exact BP.out.far (by show R + 1 ≠ R + 2; omega) _)
    have GV1 := Lib.hid (show Below w.heap.size w V1 by rw [← hV1]; exact G3.out.setCell (by have h2 := HRR.out; show _ ≤ R + 2; omega) _)
    rw [hV1]
    clear hV1 p1 p5 r0 r1 r2 q0' q1' q2' t0' t1' t2' tf0 hwd
    have TC := Lib.hid (fun W (g : Below V1.heap.size V1 W) => TCE.out W (GV1.out.trans (g.mono GV1.out.size)))
    have hw3 : IntKind.i64.wrap (y.q.thr - y.q.day) = y.q.thr - y.q.day := IntWalk.i64_in _ (by have := HDB.out; omega)
    have hw4 : IntKind.i64.wrap (y.q.thr - y.q.day + 1) = y.q.thr - y.q.day + 1 := IntWalk.i64_in _ (by have := HDB.out; omega)
    have hw5 : wrap64 (y.q.thr - y.q.day) = y.q.thr - y.q.day := wrap_in (by have := HDB.out; omega)
    have hw6 : wrap64 (y.q.thr - y.q.day + 1) = y.q.thr - y.q.day + 1 := wrap_in (by have := HDB.out; omega)
    have HKS := Lib.hid (fun W (g : Below V1.heap.size V1 W) => (⟨(BT1.out.ext g).cell 0, (BT1.out.ext g).cell 1, (BT1.out.ext g).cell 2, (BP1.out.ext g).cell 5, (BP1.out.ext g).cell 6, HCR.out W (GV1.out.trans (g.mono GV1.out.size))⟩ : W.cell? ⟨R + 2, 0, none⟩ = some (.int .i64 (y.q.day + 365)) ∧ W.cell? ⟨R + 2, 1, none⟩ = some (.int .i64 y.q.par) ∧ W.cell? ⟨R + 2, 2, none⟩ = some (.int .i64 y.q.src) ∧ W.cell? ⟨R + 1, 5, none⟩ = some (.int .i64 y.q.day) ∧ W.cell? ⟨R + 1, 6, none⟩ = some (.int .i64 y.q.thr) ∧ W.cell? ⟨b1, o1 + i, none⟩ = some (.int .i64 rr)))
    obtain ⟨c0, c1, c2, c3, c4, c5⟩ := HKS.out V1 (Below.refl _ _)
    have hne1 : R ≠ b1 := by have := HBR.out; omega
    have hne2 : b1 ≠ R := fun e => hne1 e.symm
    by_cases hg : (365 : Int) ≤ y.q.thr - y.q.day + 1
    · have hgb := decide_eq_true hg
      rw [hgb, Bool.true_and] at HTN
      obtain rfl := HTN.out
      clear hg
      go_region_held3 (fun W => W.cell? ⟨R + 2, 0, none⟩ = some (.int .i64 (y.q.day + 365)) ∧ W.cell? ⟨R + 2, 1, none⟩ = some (.int .i64 y.q.par) ∧ W.cell? ⟨R + 2, 2, none⟩ = some (.int .i64 y.q.src) ∧ W.cell? ⟨R + 1, 5, none⟩ = some (.int .i64 y.q.day) ∧ W.cell? ⟨R + 1, 6, none⟩ = some (.int .i64 y.q.thr) ∧ W.cell? ⟨b1, o1 + i, none⟩ = some (.int .i64 rr))
        (first | exact HKS.out _ (Below.refl _ _) | exact HKS.out _ (Below.refl _ _).drew | exact HKS.out _ GV.out | go_keep)
        (first
          | (go_at_call 155; (with_reducible refine (TC.out _ (Below.refl _ _).drew).mono ?_); rintro e V ⟨rfl, hgv⟩; have GV := Lib.hid (show Below V1.heap.size V1 V from (Below.refl _ V1).drew.trans hgv); have y0 := (BR1.out.ext GV.out).cell 0; have y1 := (BR1.out.ext GV.out).cell 1; have y2 := (BR1.out.ext GV.out).cell 2; have z0 := (BR1.out.ext GV.out).frozen 0; have z1 := (BR1.out.ext GV.out).frozen 1; have z2 := (BR1.out.ext GV.out).frozen 2; clear hgv)
          | (go_at_call 155; (with_reducible refine (TC.out _ (Below.refl _ _)).mono ?_); rintro e V ⟨rfl, hgv⟩; have GV := Lib.hid hgv; have y0 := (BR1.out.ext GV.out).cell 0; have y1 := (BR1.out.ext GV.out).cell 1; have y2 := (BR1.out.ext GV.out).cell 2; have z0 := (BR1.out.ext GV.out).frozen 0; have z1 := (BR1.out.ext GV.out).frozen 1; have z2 := (BR1.out.ext GV.out).frozen 2; clear hgv))
      all_goals go_wp2_with fail
      all_goals
        have Y0 := ((BR1.out.ext GV.out).s3 rfl ⟨y.q.day + 365, y.q.par, y.q.src⟩).cell 0
        have Y1 := ((BR1.out.ext GV.out).s3 rfl ⟨y.q.day + 365, y.q.par, y.q.src⟩).cell 1
        have Y2 := ((BR1.out.ext GV.out).s3 rfl ⟨y.q.day + 365, y.q.par, y.q.src⟩).cell 2
        refine bodyPost_ret (v := .tuple #[tv ⟨y.q.day + 365, y.q.par, y.q.src⟩, .bool (!cb)]) ?_ rfl ⟨rfl, below_s3 (R := R) (GV1.out.trans (GV.out.mono GV1.out.size)) (by have := HRR.out; omega) ⟨y.q.day + 365, y.q.par, y.q.src⟩⟩
        simp [results, Tryz.results133, go_sem, Y0, Y1, Y2]
    · have hgb := decide_eq_false hg
      rw [hgb, Bool.false_and] at HTN
      obtain rfl := HTN.out
      clear hg c5
      have r0 := BR1.out.cell 0
      have q0' := BR1.out.frozen 0
      have r1 := BR1.out.cell 1
      have q1' := BR1.out.frozen 1
      have r2 := BR1.out.cell 2
      have q2' := BR1.out.frozen 2
      refine wp_region_held_drew (S := fun W => W.cell? ⟨R + 2, 0, none⟩ = some (.int .i64 (y.q.day + 365)) ∧ W.cell? ⟨R + 2, 1, none⟩ = some (.int .i64 y.q.par) ∧ W.cell? ⟨R + 2, 2, none⟩ = some (.int .i64 y.q.src) ∧ W.cell? ⟨R + 1, 5, none⟩ = some (.int .i64 y.q.day) ∧ W.cell? ⟨R + 1, 6, none⟩ = some (.int .i64 y.q.thr)) (by kernel_rfl) (⟨c0, c1, c2, c3, c4⟩) (fun hHeld => ?_)
      (refine held_take (i := 0) (oi := ⟨_, _, _, _, _, _⟩) (d := some 40) (v := ?_) rfl rfl (by kernel_rfl) (by kernel_rfl) (by kernel_rfl) (fun _ _ _ h => h) (by rfl) ?_ (by assumption) ?_; rotate_left; (focus (intro w hSw; (try dsimp only at hSw); go_simp; try with_reducible rfl)); (try simp only [Act.put, List.setIfInBounds_toArray, List.set_cons_zero, List.set_cons_succ]))
      (refine held_take (i := 1) (oi := ⟨_, _, _, _, _, _⟩) (d := some 41) (v := ?_) rfl rfl (by kernel_rfl) (by kernel_rfl) (by kernel_rfl) (fun _ _ _ h => h) (by rfl) ?_ (by assumption) ?_; rotate_left; (focus (intro w hSw; (try dsimp only at hSw); go_simp; try with_reducible rfl)); (try simp only [Act.put, List.setIfInBounds_toArray, List.set_cons_zero, List.set_cons_succ]))
      (refine held_take (i := 2) (oi := ⟨_, _, _, _, _, _⟩) (d := some 42) (v := ?_) rfl rfl (by kernel_rfl) (by kernel_rfl) (by kernel_rfl) (fun _ _ _ h => h) (by rfl) ?_ (by assumption) ?_; rotate_left; (focus (intro w hSw; (try dsimp only at hSw); go_simp; try with_reducible rfl)); (try simp only [Act.put, List.setIfInBounds_toArray, List.set_cons_zero, List.set_cons_succ]))
      (refine held_take (i := 3) (oi := ⟨_, _, _, _, _, _⟩) (d := some 43) (v := ?_) rfl rfl (by kernel_rfl) (by kernel_rfl) (by kernel_rfl) (fun _ _ _ h => h) (by rfl) ?_ (by assumption) ?_; rotate_left; (focus (intro w hSw; (try dsimp only at hSw); go_simp; try with_reducible rfl)); (try simp only [Act.put, List.setIfInBounds_toArray, List.set_cons_zero, List.set_cons_succ]))
      (refine held_take (i := 4) (oi := ⟨_, _, _, _, _, _⟩) (d := some 44) (v := ?_) rfl rfl (by kernel_rfl) (by kernel_rfl) (by kernel_rfl) (fun _ _ _ h => h) (by rfl) ?_ (by assumption) ?_; rotate_left; (focus (intro w hSw; (try dsimp only at hSw); go_simp; try with_reducible rfl)); (try simp only [Act.put, List.setIfInBounds_toArray, List.set_cons_zero, List.set_cons_succ]))
      (refine held_take (i := 5) (oi := ⟨_, _, _, _, _, _⟩) (d := some 45) (v := ?_) rfl rfl (by kernel_rfl) (by kernel_rfl) (by kernel_rfl) (fun _ _ _ h => h) (by rfl) ?_ (by assumption) ?_; rotate_left; (focus (intro w hSw; (try dsimp only at hSw); go_simp; try with_reducible rfl)); (try simp only [Act.put, List.setIfInBounds_toArray, List.set_cons_zero, List.set_cons_succ]))
      (refine held_take (i := 6) (oi := ⟨_, _, _, _, _, _⟩) (d := some 46) (v := ?_) rfl rfl (by kernel_rfl) (by kernel_rfl) (by kernel_rfl) (fun _ _ _ h => h) (by rfl) ?_ (by assumption) ?_; rotate_left; (focus (intro w hSw; (try dsimp only at hSw); go_simp; try with_reducible rfl)); (try simp only [Act.put, List.setIfInBounds_toArray, List.set_cons_zero, List.set_cons_succ]))
      (refine held_take (i := 7) (oi := ⟨_, _, _, _, _, _⟩) (d := some 47) (v := ?_) rfl rfl (by kernel_rfl) (by kernel_rfl) (by kernel_rfl) (fun _ _ _ h => h) (by rfl) ?_ (by assumption) ?_; rotate_left; (focus (intro w hSw; (try dsimp only at hSw); go_simp; try with_reducible rfl)); (try simp only [Act.put, List.setIfInBounds_toArray, List.set_cons_zero, List.set_cons_succ]))
      (refine held_take (i := 8) (oi := ⟨_, _, _, _, _, _⟩) (d := some 48) (v := ?_) rfl rfl (by kernel_rfl) (by kernel_rfl) (by kernel_rfl) (fun _ _ _ h => h) (by rfl) ?_ (by assumption) ?_; rotate_left; (focus (intro w hSw; (try dsimp only at hSw); go_simp; try with_reducible rfl)); (try simp only [Act.put, List.setIfInBounds_toArray, List.set_cons_zero, List.set_cons_succ]))
      (refine held_take (i := 9) (oi := ⟨_, _, _, _, _, _⟩) (d := some 49) (v := ?_) rfl rfl (by kernel_rfl) (by kernel_rfl) (by kernel_rfl) (fun _ _ _ h => h) (by rfl) ?_ (by assumption) ?_; rotate_left; (focus (intro w hSw; (try dsimp only at hSw); go_simp; try with_reducible rfl)); (try simp only [Act.put, List.setIfInBounds_toArray, List.set_cons_zero, List.set_cons_succ]))
      (refine held_skip (i := 10) (oi := ⟨_, _, _, _, _, _⟩) (d := some 50) rfl rfl (by kernel_rfl) (by kernel_rfl) (by kernel_rfl) (fun _ _ _ h => h) (by rfl) (by assumption) ?_; (try simp only [Act.put, List.setIfInBounds_toArray, List.set_cons_zero, List.set_cons_succ]))
      (refine held_skip (i := 11) (oi := ⟨_, _, _, _, _, _⟩) (d := some 51) rfl rfl (by kernel_rfl) (by kernel_rfl) (by kernel_rfl) (fun _ _ _ h => h) (by rfl) (by assumption) ?_; (try simp only [Act.put, List.setIfInBounds_toArray, List.set_cons_zero, List.set_cons_succ]))
      (refine held_skip (i := 12) (oi := ⟨_, _, _, _, _, _⟩) (d := some 52) rfl rfl (by kernel_rfl) (by kernel_rfl) (by kernel_rfl) (fun _ _ _ h => h) (by rfl) (by assumption) ?_; (try simp only [Act.put, List.setIfInBounds_toArray, List.set_cons_zero, List.set_cons_succ]))
      (refine held_skip (i := 13) (oi := ⟨_, _, _, _, _, _⟩) (d := some 53) rfl rfl (by kernel_rfl) (by kernel_rfl) (by kernel_rfl) (fun _ _ _ h => h) (by rfl) (by assumption) ?_; (try simp only [Act.put, List.setIfInBounds_toArray, List.set_cons_zero, List.set_cons_succ]))
      (refine held_skip (i := 14) (oi := ⟨_, _, _, _, _, _⟩) (d := some 54) rfl rfl (by kernel_rfl) (by kernel_rfl) (by kernel_rfl) (fun _ _ _ h => h) (by rfl) (by assumption) ?_; (try simp only [Act.put, List.setIfInBounds_toArray, List.set_cons_zero, List.set_cons_succ]))
      (refine held_skip (i := 15) (oi := ⟨_, _, _, _, _, _⟩) (d := some 55) rfl rfl (by kernel_rfl) (by kernel_rfl) (by kernel_rfl) (fun _ _ _ h => h) (by rfl) (by assumption) ?_; (try simp only [Act.put, List.setIfInBounds_toArray, List.set_cons_zero, List.set_cons_succ]))
      (refine held_skip (i := 16) (oi := ⟨_, _, _, _, _, _⟩) (d := some 56) rfl rfl (by kernel_rfl) (by kernel_rfl) (by kernel_rfl) (fun _ _ _ h => h) (by rfl) (by assumption) ?_; (try simp only [Act.put, List.setIfInBounds_toArray, List.set_cons_zero, List.set_cons_succ]))
      (refine held_skip (i := 17) (oi := ⟨_, _, _, _, _, _⟩) (d := some 57) rfl rfl (by kernel_rfl) (by kernel_rfl) (by kernel_rfl) (fun _ _ _ h => h) (by rfl) (by assumption) ?_; (try simp only [Act.put, List.setIfInBounds_toArray, List.set_cons_zero, List.set_cons_succ]))
      (refine held_skip (i := 18) (oi := ⟨_, _, _, _, _, _⟩) (d := some 58) rfl rfl (by kernel_rfl) (by kernel_rfl) (by kernel_rfl) (fun _ _ _ h => h) (by rfl) (by assumption) ?_; (try simp only [Act.put, List.setIfInBounds_toArray, List.set_cons_zero, List.set_cons_succ]))
      (refine held_skip (i := 19) (oi := ⟨_, _, _, _, _, _⟩) (d := some 59) rfl rfl (by kernel_rfl) (by kernel_rfl) (by kernel_rfl) (fun _ _ _ h => h) (by rfl) (by assumption) ?_; (try simp only [Act.put, List.setIfInBounds_toArray, List.set_cons_zero, List.set_cons_succ]))
      (refine held_skip (i := 20) (oi := ⟨_, _, _, _, _, _⟩) (d := some 60) rfl rfl (by kernel_rfl) (by kernel_rfl) (by kernel_rfl) (fun _ _ _ h => h) (by rfl) (by assumption) ?_; (try simp only [Act.put, List.setIfInBounds_toArray, List.set_cons_zero, List.set_cons_succ]))
      (refine held_take (i := 21) (oi := ⟨_, _, _, _, _, _⟩) (d := some 61) (v := ?_) rfl rfl (by kernel_rfl) (by kernel_rfl) (by kernel_rfl) (fun _ _ _ h => h) (by rfl) ?_ (by assumption) ?_; rotate_left; (focus (intro w hSw; (try dsimp only at hSw); go_simp; try with_reducible rfl)); (try simp only [Act.put, List.setIfInBounds_toArray, List.set_cons_zero, List.set_cons_succ]))
      refine wpAnyH_ready (rs := [22]) (by kernel_rfl) (by simp) ?_
      refine AllReadyH.cons (o := ⟨_, _, _, _, _, _⟩) rfl (fun K hK => ?_) AllReadyH.nil
      go_simp
      refine hK.out _ _ (by refine ⟨?_, ?_, ?_, ?_, ?_⟩ <;> go_keep) (fun hHeld => ?_)
      clear hK K
      (try simp only [Act.put, List.setIfInBounds_toArray, List.set_cons_zero, List.set_cons_succ])
      (refine held_take (i := 23) (oi := ⟨_, _, _, _, _, _⟩) (d := some 7) (v := ?_) rfl rfl (by kernel_rfl) (by kernel_rfl) (by kernel_rfl) (fun _ _ _ h => h) (by rfl) ?_ (by assumption) ?_; rotate_left; (focus (intro w hSw; (try dsimp only at hSw); go_simp; try with_reducible rfl)); (try simp only [Act.put, List.setIfInBounds_toArray, List.set_cons_zero, List.set_cons_succ]))
      refine wpAnyH_done (by kernel_rfl) ?_ _
      go_wp2_with fail
      have Y0 := (BR1.out.s3 rfl ⟨y.q.day + 365, y.q.par, y.q.src⟩).cell 0
      have Y1 := (BR1.out.s3 rfl ⟨y.q.day + 365, y.q.par, y.q.src⟩).cell 1
      have Y2 := (BR1.out.s3 rfl ⟨y.q.day + 365, y.q.par, y.q.src⟩).cell 2
      refine bodyPost_ret (v := .tuple #[tv ⟨y.q.day + 365, y.q.par, y.q.src⟩, .bool false]) ?_ rfl ⟨rfl, (below_s3 (R := R) GV1.out (by have := HRR.out; omega) ⟨y.q.day + 365, y.q.par, y.q.src⟩).drew⟩
      simp [results, Tryz.results133, go_sem, Y0, Y1, Y2]
  by_cases k4 : kd = 4
  · subst k4
    have HTN := Lib.hid (HTW.out.trans (if_neg (by decide)))
    rw [show needs 4 = 365 by decide, if_pos (by decide)] at HTN
    have hwd : wrap64 (y.q.day + 365) = y.q.day + 365 := wrap_in (by have := HDB.out; omega)
    go_upto_region 14 with fail
    obtain ⟨V1, hV1⟩ : ∃ X, W3.setCell ⟨R + 2, 0, none⟩ (.int .i64 (y.q.day + 365)) = X := ⟨_, rfl⟩
    have BT1 := Lib.hid (show Blk V1 (R + 2) 67 #[.int .i64 (y.q.day + 365), .int .i64 y.q.par, .int .i64 y.q.src] by rw [← hV1]; exact BT.out.set_ 0 _)
    have BR1 := Lib.hid (show Blk V1 R 67 #[.int .i64 0, .int .i64 0, .int .i64 0] by rw [← hV1]; exact BR.out.far (by show R ≠ R + 2; omega) _)
    have BP1 := Lib.hid (show Blk V1 (R + 1) 56 #[.int .i64 y.q.src, .int .i64 y.q.kind, .slice y.A y.n y.c, .int .i64 y.q.oth, .int .i64 y.q.par, .int .i64 y.q.day, .int .i64 y.q.thr, .int .i64 y.q.kno, .int .i64 y.q.unt] by rw [← hV1]; exact BP.out.far (by show R + 1 ≠ R + 2; omega) _)
    have GV1 := Lib.hid (show Below w.heap.size w V1 by rw [← hV1]; exact G3.out.setCell (by have h2 := HRR.out; show _ ≤ R + 2; omega) _)
    rw [hV1]
    clear hV1 p1 p5 r0 r1 r2 q0' q1' q2' t0' t1' t2' tf0 hwd
    have TC := Lib.hid (fun W (g : Below V1.heap.size V1 W) => TCE.out W (GV1.out.trans (g.mono GV1.out.size)))
    have hw3 : IntKind.i64.wrap (y.q.thr - y.q.day) = y.q.thr - y.q.day := IntWalk.i64_in _ (by have := HDB.out; omega)
    have hw4 : IntKind.i64.wrap (y.q.thr - y.q.day + 1) = y.q.thr - y.q.day + 1 := IntWalk.i64_in _ (by have := HDB.out; omega)
    have hw5 : wrap64 (y.q.thr - y.q.day) = y.q.thr - y.q.day := wrap_in (by have := HDB.out; omega)
    have hw6 : wrap64 (y.q.thr - y.q.day + 1) = y.q.thr - y.q.day + 1 := wrap_in (by have := HDB.out; omega)
    have HKS := Lib.hid (fun W (g : Below V1.heap.size V1 W) => (⟨(BT1.out.ext g).cell 0, (BT1.out.ext g).cell 1, (BT1.out.ext g).cell 2, (BP1.out.ext g).cell 5, (BP1.out.ext g).cell 6, HCR.out W (GV1.out.trans (g.mono GV1.out.size))⟩ : W.cell? ⟨R + 2, 0, none⟩ = some (.int .i64 (y.q.day + 365)) ∧ W.cell? ⟨R + 2, 1, none⟩ = some (.int .i64 y.q.par) ∧ W.cell? ⟨R + 2, 2, none⟩ = some (.int .i64 y.q.src) ∧ W.cell? ⟨R + 1, 5, none⟩ = some (.int .i64 y.q.day) ∧ W.cell? ⟨R + 1, 6, none⟩ = some (.int .i64 y.q.thr) ∧ W.cell? ⟨b1, o1 + i, none⟩ = some (.int .i64 rr)))
    obtain ⟨c0, c1, c2, c3, c4, c5⟩ := HKS.out V1 (Below.refl _ _)
    have hne1 : R ≠ b1 := by have := HBR.out; omega
    have hne2 : b1 ≠ R := fun e => hne1 e.symm
    by_cases hg : (365 : Int) ≤ y.q.thr - y.q.day + 1
    · have hgb := decide_eq_true hg
      rw [hgb, Bool.true_and] at HTN
      obtain rfl := HTN.out
      clear hg
      go_region_held3 (fun W => W.cell? ⟨R + 2, 0, none⟩ = some (.int .i64 (y.q.day + 365)) ∧ W.cell? ⟨R + 2, 1, none⟩ = some (.int .i64 y.q.par) ∧ W.cell? ⟨R + 2, 2, none⟩ = some (.int .i64 y.q.src) ∧ W.cell? ⟨R + 1, 5, none⟩ = some (.int .i64 y.q.day) ∧ W.cell? ⟨R + 1, 6, none⟩ = some (.int .i64 y.q.thr) ∧ W.cell? ⟨b1, o1 + i, none⟩ = some (.int .i64 rr))
        (first | exact HKS.out _ (Below.refl _ _) | exact HKS.out _ (Below.refl _ _).drew | exact HKS.out _ GV.out | go_keep)
        (first
          | (go_at_call 155; (with_reducible refine (TC.out _ (Below.refl _ _).drew).mono ?_); rintro e V ⟨rfl, hgv⟩; have GV := Lib.hid (show Below V1.heap.size V1 V from (Below.refl _ V1).drew.trans hgv); have y0 := (BR1.out.ext GV.out).cell 0; have y1 := (BR1.out.ext GV.out).cell 1; have y2 := (BR1.out.ext GV.out).cell 2; have z0 := (BR1.out.ext GV.out).frozen 0; have z1 := (BR1.out.ext GV.out).frozen 1; have z2 := (BR1.out.ext GV.out).frozen 2; clear hgv)
          | (go_at_call 155; (with_reducible refine (TC.out _ (Below.refl _ _)).mono ?_); rintro e V ⟨rfl, hgv⟩; have GV := Lib.hid hgv; have y0 := (BR1.out.ext GV.out).cell 0; have y1 := (BR1.out.ext GV.out).cell 1; have y2 := (BR1.out.ext GV.out).cell 2; have z0 := (BR1.out.ext GV.out).frozen 0; have z1 := (BR1.out.ext GV.out).frozen 1; have z2 := (BR1.out.ext GV.out).frozen 2; clear hgv))
      all_goals go_wp2_with fail
      all_goals
        have Y0 := ((BR1.out.ext GV.out).s3 rfl ⟨y.q.day + 365, y.q.par, y.q.src⟩).cell 0
        have Y1 := ((BR1.out.ext GV.out).s3 rfl ⟨y.q.day + 365, y.q.par, y.q.src⟩).cell 1
        have Y2 := ((BR1.out.ext GV.out).s3 rfl ⟨y.q.day + 365, y.q.par, y.q.src⟩).cell 2
        refine bodyPost_ret (v := .tuple #[tv ⟨y.q.day + 365, y.q.par, y.q.src⟩, .bool (!cb)]) ?_ rfl ⟨rfl, below_s3 (R := R) (GV1.out.trans (GV.out.mono GV1.out.size)) (by have := HRR.out; omega) ⟨y.q.day + 365, y.q.par, y.q.src⟩⟩
        simp [results, Tryz.results133, go_sem, Y0, Y1, Y2]
    · have hgb := decide_eq_false hg
      rw [hgb, Bool.false_and] at HTN
      obtain rfl := HTN.out
      clear hg c5
      have r0 := BR1.out.cell 0
      have q0' := BR1.out.frozen 0
      have r1 := BR1.out.cell 1
      have q1' := BR1.out.frozen 1
      have r2 := BR1.out.cell 2
      have q2' := BR1.out.frozen 2
      refine wp_region_held_drew (S := fun W => W.cell? ⟨R + 2, 0, none⟩ = some (.int .i64 (y.q.day + 365)) ∧ W.cell? ⟨R + 2, 1, none⟩ = some (.int .i64 y.q.par) ∧ W.cell? ⟨R + 2, 2, none⟩ = some (.int .i64 y.q.src) ∧ W.cell? ⟨R + 1, 5, none⟩ = some (.int .i64 y.q.day) ∧ W.cell? ⟨R + 1, 6, none⟩ = some (.int .i64 y.q.thr)) (by kernel_rfl) (⟨c0, c1, c2, c3, c4⟩) (fun hHeld => ?_)
      (refine held_take (i := 0) (oi := ⟨_, _, _, _, _, _⟩) (d := some 40) (v := ?_) rfl rfl (by kernel_rfl) (by kernel_rfl) (by kernel_rfl) (fun _ _ _ h => h) (by rfl) ?_ (by assumption) ?_; rotate_left; (focus (intro w hSw; (try dsimp only at hSw); go_simp; try with_reducible rfl)); (try simp only [Act.put, List.setIfInBounds_toArray, List.set_cons_zero, List.set_cons_succ]))
      (refine held_take (i := 1) (oi := ⟨_, _, _, _, _, _⟩) (d := some 41) (v := ?_) rfl rfl (by kernel_rfl) (by kernel_rfl) (by kernel_rfl) (fun _ _ _ h => h) (by rfl) ?_ (by assumption) ?_; rotate_left; (focus (intro w hSw; (try dsimp only at hSw); go_simp; try with_reducible rfl)); (try simp only [Act.put, List.setIfInBounds_toArray, List.set_cons_zero, List.set_cons_succ]))
      (refine held_take (i := 2) (oi := ⟨_, _, _, _, _, _⟩) (d := some 42) (v := ?_) rfl rfl (by kernel_rfl) (by kernel_rfl) (by kernel_rfl) (fun _ _ _ h => h) (by rfl) ?_ (by assumption) ?_; rotate_left; (focus (intro w hSw; (try dsimp only at hSw); go_simp; try with_reducible rfl)); (try simp only [Act.put, List.setIfInBounds_toArray, List.set_cons_zero, List.set_cons_succ]))
      (refine held_take (i := 3) (oi := ⟨_, _, _, _, _, _⟩) (d := some 43) (v := ?_) rfl rfl (by kernel_rfl) (by kernel_rfl) (by kernel_rfl) (fun _ _ _ h => h) (by rfl) ?_ (by assumption) ?_; rotate_left; (focus (intro w hSw; (try dsimp only at hSw); go_simp; try with_reducible rfl)); (try simp only [Act.put, List.setIfInBounds_toArray, List.set_cons_zero, List.set_cons_succ]))
      (refine held_take (i := 4) (oi := ⟨_, _, _, _, _, _⟩) (d := some 44) (v := ?_) rfl rfl (by kernel_rfl) (by kernel_rfl) (by kernel_rfl) (fun _ _ _ h => h) (by rfl) ?_ (by assumption) ?_; rotate_left; (focus (intro w hSw; (try dsimp only at hSw); go_simp; try with_reducible rfl)); (try simp only [Act.put, List.setIfInBounds_toArray, List.set_cons_zero, List.set_cons_succ]))
      (refine held_take (i := 5) (oi := ⟨_, _, _, _, _, _⟩) (d := some 45) (v := ?_) rfl rfl (by kernel_rfl) (by kernel_rfl) (by kernel_rfl) (fun _ _ _ h => h) (by rfl) ?_ (by assumption) ?_; rotate_left; (focus (intro w hSw; (try dsimp only at hSw); go_simp; try with_reducible rfl)); (try simp only [Act.put, List.setIfInBounds_toArray, List.set_cons_zero, List.set_cons_succ]))
      (refine held_take (i := 6) (oi := ⟨_, _, _, _, _, _⟩) (d := some 46) (v := ?_) rfl rfl (by kernel_rfl) (by kernel_rfl) (by kernel_rfl) (fun _ _ _ h => h) (by rfl) ?_ (by assumption) ?_; rotate_left; (focus (intro w hSw; (try dsimp only at hSw); go_simp; try with_reducible rfl)); (try simp only [Act.put, List.setIfInBounds_toArray, List.set_cons_zero, List.set_cons_succ]))
      (refine held_take (i := 7) (oi := ⟨_, _, _, _, _, _⟩) (d := some 47) (v := ?_) rfl rfl (by kernel_rfl) (by kernel_rfl) (by kernel_rfl) (fun _ _ _ h => h) (by rfl) ?_ (by assumption) ?_; rotate_left; (focus (intro w hSw; (try dsimp only at hSw); go_simp; try with_reducible rfl)); (try simp only [Act.put, List.setIfInBounds_toArray, List.set_cons_zero, List.set_cons_succ]))
      (refine held_take (i := 8) (oi := ⟨_, _, _, _, _, _⟩) (d := some 48) (v := ?_) rfl rfl (by kernel_rfl) (by kernel_rfl) (by kernel_rfl) (fun _ _ _ h => h) (by rfl) ?_ (by assumption) ?_; rotate_left; (focus (intro w hSw; (try dsimp only at hSw); go_simp; try with_reducible rfl)); (try simp only [Act.put, List.setIfInBounds_toArray, List.set_cons_zero, List.set_cons_succ]))
      (refine held_take (i := 9) (oi := ⟨_, _, _, _, _, _⟩) (d := some 49) (v := ?_) rfl rfl (by kernel_rfl) (by kernel_rfl) (by kernel_rfl) (fun _ _ _ h => h) (by rfl) ?_ (by assumption) ?_; rotate_left; (focus (intro w hSw; (try dsimp only at hSw); go_simp; try with_reducible rfl)); (try simp only [Act.put, List.setIfInBounds_toArray, List.set_cons_zero, List.set_cons_succ]))
      (refine held_skip (i := 10) (oi := ⟨_, _, _, _, _, _⟩) (d := some 50) rfl rfl (by kernel_rfl) (by kernel_rfl) (by kernel_rfl) (fun _ _ _ h => h) (by rfl) (by assumption) ?_; (try simp only [Act.put, List.setIfInBounds_toArray, List.set_cons_zero, List.set_cons_succ]))
      (refine held_skip (i := 11) (oi := ⟨_, _, _, _, _, _⟩) (d := some 51) rfl rfl (by kernel_rfl) (by kernel_rfl) (by kernel_rfl) (fun _ _ _ h => h) (by rfl) (by assumption) ?_; (try simp only [Act.put, List.setIfInBounds_toArray, List.set_cons_zero, List.set_cons_succ]))
      (refine held_skip (i := 12) (oi := ⟨_, _, _, _, _, _⟩) (d := some 52) rfl rfl (by kernel_rfl) (by kernel_rfl) (by kernel_rfl) (fun _ _ _ h => h) (by rfl) (by assumption) ?_; (try simp only [Act.put, List.setIfInBounds_toArray, List.set_cons_zero, List.set_cons_succ]))
      (refine held_skip (i := 13) (oi := ⟨_, _, _, _, _, _⟩) (d := some 53) rfl rfl (by kernel_rfl) (by kernel_rfl) (by kernel_rfl) (fun _ _ _ h => h) (by rfl) (by assumption) ?_; (try simp only [Act.put, List.setIfInBounds_toArray, List.set_cons_zero, List.set_cons_succ]))
      (refine held_skip (i := 14) (oi := ⟨_, _, _, _, _, _⟩) (d := some 54) rfl rfl (by kernel_rfl) (by kernel_rfl) (by kernel_rfl) (fun _ _ _ h => h) (by rfl) (by assumption) ?_; (try simp only [Act.put, List.setIfInBounds_toArray, List.set_cons_zero, List.set_cons_succ]))
      (refine held_skip (i := 15) (oi := ⟨_, _, _, _, _, _⟩) (d := some 55) rfl rfl (by kernel_rfl) (by kernel_rfl) (by kernel_rfl) (fun _ _ _ h => h) (by rfl) (by assumption) ?_; (try simp only [Act.put, List.setIfInBounds_toArray, List.set_cons_zero, List.set_cons_succ]))
      (refine held_skip (i := 16) (oi := ⟨_, _, _, _, _, _⟩) (d := some 56) rfl rfl (by kernel_rfl) (by kernel_rfl) (by kernel_rfl) (fun _ _ _ h => h) (by rfl) (by assumption) ?_; (try simp only [Act.put, List.setIfInBounds_toArray, List.set_cons_zero, List.set_cons_succ]))
      (refine held_skip (i := 17) (oi := ⟨_, _, _, _, _, _⟩) (d := some 57) rfl rfl (by kernel_rfl) (by kernel_rfl) (by kernel_rfl) (fun _ _ _ h => h) (by rfl) (by assumption) ?_; (try simp only [Act.put, List.setIfInBounds_toArray, List.set_cons_zero, List.set_cons_succ]))
      (refine held_skip (i := 18) (oi := ⟨_, _, _, _, _, _⟩) (d := some 58) rfl rfl (by kernel_rfl) (by kernel_rfl) (by kernel_rfl) (fun _ _ _ h => h) (by rfl) (by assumption) ?_; (try simp only [Act.put, List.setIfInBounds_toArray, List.set_cons_zero, List.set_cons_succ]))
      (refine held_skip (i := 19) (oi := ⟨_, _, _, _, _, _⟩) (d := some 59) rfl rfl (by kernel_rfl) (by kernel_rfl) (by kernel_rfl) (fun _ _ _ h => h) (by rfl) (by assumption) ?_; (try simp only [Act.put, List.setIfInBounds_toArray, List.set_cons_zero, List.set_cons_succ]))
      (refine held_skip (i := 20) (oi := ⟨_, _, _, _, _, _⟩) (d := some 60) rfl rfl (by kernel_rfl) (by kernel_rfl) (by kernel_rfl) (fun _ _ _ h => h) (by rfl) (by assumption) ?_; (try simp only [Act.put, List.setIfInBounds_toArray, List.set_cons_zero, List.set_cons_succ]))
      (refine held_take (i := 21) (oi := ⟨_, _, _, _, _, _⟩) (d := some 61) (v := ?_) rfl rfl (by kernel_rfl) (by kernel_rfl) (by kernel_rfl) (fun _ _ _ h => h) (by rfl) ?_ (by assumption) ?_; rotate_left; (focus (intro w hSw; (try dsimp only at hSw); go_simp; try with_reducible rfl)); (try simp only [Act.put, List.setIfInBounds_toArray, List.set_cons_zero, List.set_cons_succ]))
      refine wpAnyH_ready (rs := [22]) (by kernel_rfl) (by simp) ?_
      refine AllReadyH.cons (o := ⟨_, _, _, _, _, _⟩) rfl (fun K hK => ?_) AllReadyH.nil
      go_simp
      refine hK.out _ _ (by refine ⟨?_, ?_, ?_, ?_, ?_⟩ <;> go_keep) (fun hHeld => ?_)
      clear hK K
      (try simp only [Act.put, List.setIfInBounds_toArray, List.set_cons_zero, List.set_cons_succ])
      (refine held_take (i := 23) (oi := ⟨_, _, _, _, _, _⟩) (d := some 7) (v := ?_) rfl rfl (by kernel_rfl) (by kernel_rfl) (by kernel_rfl) (fun _ _ _ h => h) (by rfl) ?_ (by assumption) ?_; rotate_left; (focus (intro w hSw; (try dsimp only at hSw); go_simp; try with_reducible rfl)); (try simp only [Act.put, List.setIfInBounds_toArray, List.set_cons_zero, List.set_cons_succ]))
      refine wpAnyH_done (by kernel_rfl) ?_ _
      go_wp2_with fail
      have Y0 := (BR1.out.s3 rfl ⟨y.q.day + 365, y.q.par, y.q.src⟩).cell 0
      have Y1 := (BR1.out.s3 rfl ⟨y.q.day + 365, y.q.par, y.q.src⟩).cell 1
      have Y2 := (BR1.out.s3 rfl ⟨y.q.day + 365, y.q.par, y.q.src⟩).cell 2
      refine bodyPost_ret (v := .tuple #[tv ⟨y.q.day + 365, y.q.par, y.q.src⟩, .bool false]) ?_ rfl ⟨rfl, (below_s3 (R := R) GV1.out (by have := HRR.out; omega) ⟨y.q.day + 365, y.q.par, y.q.src⟩).drew⟩
      simp [results, Tryz.results133, go_sem, Y0, Y1, Y2]
  by_cases k5 : kd = 5
  · subst k5
    have HTN := Lib.hid (HTW.out.trans (if_neg (by decide)))
    rw [show needs 5 = 40 by decide, if_pos (by decide)] at HTN
    have hwd : wrap64 (y.q.day + 40) = y.q.day + 40 := wrap_in (by have := HDB.out; omega)
    go_upto_region 14 with fail
    obtain ⟨V1, hV1⟩ : ∃ X, W3.setCell ⟨R + 2, 0, none⟩ (.int .i64 (y.q.day + 40)) = X := ⟨_, rfl⟩
    have BT1 := Lib.hid (show Blk V1 (R + 2) 67 #[.int .i64 (y.q.day + 40), .int .i64 y.q.par, .int .i64 y.q.src] by rw [← hV1]; exact BT.out.set_ 0 _)
    have BR1 := Lib.hid (show Blk V1 R 67 #[.int .i64 0, .int .i64 0, .int .i64 0] by rw [← hV1]; exact BR.out.far (by show R ≠ R + 2; omega) _)
    have BP1 := Lib.hid (show Blk V1 (R + 1) 56 #[.int .i64 y.q.src, .int .i64 y.q.kind, .slice y.A y.n y.c, .int .i64 y.q.oth, .int .i64 y.q.par, .int .i64 y.q.day, .int .i64 y.q.thr, .int .i64 y.q.kno, .int .i64 y.q.unt] by rw [← hV1]; exact BP.out.far (by show R + 1 ≠ R + 2; omega) _)
    have GV1 := Lib.hid (show Below w.heap.size w V1 by rw [← hV1]; exact G3.out.setCell (by have h2 := HRR.out; show _ ≤ R + 2; omega) _)
    rw [hV1]
    clear hV1 p1 p5 r0 r1 r2 q0' q1' q2' t0' t1' t2' tf0 hwd
    have TC := Lib.hid (fun W (g : Below V1.heap.size V1 W) => TCE.out W (GV1.out.trans (g.mono GV1.out.size)))
    have hw3 : IntKind.i64.wrap (y.q.thr - y.q.day) = y.q.thr - y.q.day := IntWalk.i64_in _ (by have := HDB.out; omega)
    have hw4 : IntKind.i64.wrap (y.q.thr - y.q.day + 1) = y.q.thr - y.q.day + 1 := IntWalk.i64_in _ (by have := HDB.out; omega)
    have hw5 : wrap64 (y.q.thr - y.q.day) = y.q.thr - y.q.day := wrap_in (by have := HDB.out; omega)
    have hw6 : wrap64 (y.q.thr - y.q.day + 1) = y.q.thr - y.q.day + 1 := wrap_in (by have := HDB.out; omega)
    have HKS := Lib.hid (fun W (g : Below V1.heap.size V1 W) => (⟨(BT1.out.ext g).cell 0, (BT1.out.ext g).cell 1, (BT1.out.ext g).cell 2, (BP1.out.ext g).cell 5, (BP1.out.ext g).cell 6, HCR.out W (GV1.out.trans (g.mono GV1.out.size))⟩ : W.cell? ⟨R + 2, 0, none⟩ = some (.int .i64 (y.q.day + 40)) ∧ W.cell? ⟨R + 2, 1, none⟩ = some (.int .i64 y.q.par) ∧ W.cell? ⟨R + 2, 2, none⟩ = some (.int .i64 y.q.src) ∧ W.cell? ⟨R + 1, 5, none⟩ = some (.int .i64 y.q.day) ∧ W.cell? ⟨R + 1, 6, none⟩ = some (.int .i64 y.q.thr) ∧ W.cell? ⟨b1, o1 + i, none⟩ = some (.int .i64 rr)))
    obtain ⟨c0, c1, c2, c3, c4, c5⟩ := HKS.out V1 (Below.refl _ _)
    have hne1 : R ≠ b1 := by have := HBR.out; omega
    have hne2 : b1 ≠ R := fun e => hne1 e.symm
    by_cases hg : (40 : Int) ≤ y.q.thr - y.q.day + 1
    · have hgb := decide_eq_true hg
      rw [hgb, Bool.true_and] at HTN
      obtain rfl := HTN.out
      clear hg
      go_region_held3 (fun W => W.cell? ⟨R + 2, 0, none⟩ = some (.int .i64 (y.q.day + 40)) ∧ W.cell? ⟨R + 2, 1, none⟩ = some (.int .i64 y.q.par) ∧ W.cell? ⟨R + 2, 2, none⟩ = some (.int .i64 y.q.src) ∧ W.cell? ⟨R + 1, 5, none⟩ = some (.int .i64 y.q.day) ∧ W.cell? ⟨R + 1, 6, none⟩ = some (.int .i64 y.q.thr) ∧ W.cell? ⟨b1, o1 + i, none⟩ = some (.int .i64 rr))
        (first | exact HKS.out _ (Below.refl _ _) | exact HKS.out _ (Below.refl _ _).drew | exact HKS.out _ GV.out | go_keep)
        (first
          | (go_at_call 155; (with_reducible refine (TC.out _ (Below.refl _ _).drew).mono ?_); rintro e V ⟨rfl, hgv⟩; have GV := Lib.hid (show Below V1.heap.size V1 V from (Below.refl _ V1).drew.trans hgv); have y0 := (BR1.out.ext GV.out).cell 0; have y1 := (BR1.out.ext GV.out).cell 1; have y2 := (BR1.out.ext GV.out).cell 2; have z0 := (BR1.out.ext GV.out).frozen 0; have z1 := (BR1.out.ext GV.out).frozen 1; have z2 := (BR1.out.ext GV.out).frozen 2; clear hgv)
          | (go_at_call 155; (with_reducible refine (TC.out _ (Below.refl _ _)).mono ?_); rintro e V ⟨rfl, hgv⟩; have GV := Lib.hid hgv; have y0 := (BR1.out.ext GV.out).cell 0; have y1 := (BR1.out.ext GV.out).cell 1; have y2 := (BR1.out.ext GV.out).cell 2; have z0 := (BR1.out.ext GV.out).frozen 0; have z1 := (BR1.out.ext GV.out).frozen 1; have z2 := (BR1.out.ext GV.out).frozen 2; clear hgv))
      all_goals go_wp2_with fail
      all_goals
        have Y0 := ((BR1.out.ext GV.out).s3 rfl ⟨y.q.day + 40, y.q.par, y.q.src⟩).cell 0
        have Y1 := ((BR1.out.ext GV.out).s3 rfl ⟨y.q.day + 40, y.q.par, y.q.src⟩).cell 1
        have Y2 := ((BR1.out.ext GV.out).s3 rfl ⟨y.q.day + 40, y.q.par, y.q.src⟩).cell 2
        refine bodyPost_ret (v := .tuple #[tv ⟨y.q.day + 40, y.q.par, y.q.src⟩, .bool (!cb)]) ?_ rfl ⟨rfl, below_s3 (R := R) (GV1.out.trans (GV.out.mono GV1.out.size)) (by have := HRR.out; omega) ⟨y.q.day + 40, y.q.par, y.q.src⟩⟩
        simp [results, Tryz.results133, go_sem, Y0, Y1, Y2]
    · have hgb := decide_eq_false hg
      rw [hgb, Bool.false_and] at HTN
      obtain rfl := HTN.out
      clear hg c5
      have r0 := BR1.out.cell 0
      have q0' := BR1.out.frozen 0
      have r1 := BR1.out.cell 1
      have q1' := BR1.out.frozen 1
      have r2 := BR1.out.cell 2
      have q2' := BR1.out.frozen 2
      refine wp_region_held_drew (S := fun W => W.cell? ⟨R + 2, 0, none⟩ = some (.int .i64 (y.q.day + 40)) ∧ W.cell? ⟨R + 2, 1, none⟩ = some (.int .i64 y.q.par) ∧ W.cell? ⟨R + 2, 2, none⟩ = some (.int .i64 y.q.src) ∧ W.cell? ⟨R + 1, 5, none⟩ = some (.int .i64 y.q.day) ∧ W.cell? ⟨R + 1, 6, none⟩ = some (.int .i64 y.q.thr)) (by kernel_rfl) (⟨c0, c1, c2, c3, c4⟩) (fun hHeld => ?_)
      (refine held_take (i := 0) (oi := ⟨_, _, _, _, _, _⟩) (d := some 40) (v := ?_) rfl rfl (by kernel_rfl) (by kernel_rfl) (by kernel_rfl) (fun _ _ _ h => h) (by rfl) ?_ (by assumption) ?_; rotate_left; (focus (intro w hSw; (try dsimp only at hSw); go_simp; try with_reducible rfl)); (try simp only [Act.put, List.setIfInBounds_toArray, List.set_cons_zero, List.set_cons_succ]))
      (refine held_take (i := 1) (oi := ⟨_, _, _, _, _, _⟩) (d := some 41) (v := ?_) rfl rfl (by kernel_rfl) (by kernel_rfl) (by kernel_rfl) (fun _ _ _ h => h) (by rfl) ?_ (by assumption) ?_; rotate_left; (focus (intro w hSw; (try dsimp only at hSw); go_simp; try with_reducible rfl)); (try simp only [Act.put, List.setIfInBounds_toArray, List.set_cons_zero, List.set_cons_succ]))
      (refine held_take (i := 2) (oi := ⟨_, _, _, _, _, _⟩) (d := some 42) (v := ?_) rfl rfl (by kernel_rfl) (by kernel_rfl) (by kernel_rfl) (fun _ _ _ h => h) (by rfl) ?_ (by assumption) ?_; rotate_left; (focus (intro w hSw; (try dsimp only at hSw); go_simp; try with_reducible rfl)); (try simp only [Act.put, List.setIfInBounds_toArray, List.set_cons_zero, List.set_cons_succ]))
      (refine held_take (i := 3) (oi := ⟨_, _, _, _, _, _⟩) (d := some 43) (v := ?_) rfl rfl (by kernel_rfl) (by kernel_rfl) (by kernel_rfl) (fun _ _ _ h => h) (by rfl) ?_ (by assumption) ?_; rotate_left; (focus (intro w hSw; (try dsimp only at hSw); go_simp; try with_reducible rfl)); (try simp only [Act.put, List.setIfInBounds_toArray, List.set_cons_zero, List.set_cons_succ]))
      (refine held_take (i := 4) (oi := ⟨_, _, _, _, _, _⟩) (d := some 44) (v := ?_) rfl rfl (by kernel_rfl) (by kernel_rfl) (by kernel_rfl) (fun _ _ _ h => h) (by rfl) ?_ (by assumption) ?_; rotate_left; (focus (intro w hSw; (try dsimp only at hSw); go_simp; try with_reducible rfl)); (try simp only [Act.put, List.setIfInBounds_toArray, List.set_cons_zero, List.set_cons_succ]))
      (refine held_take (i := 5) (oi := ⟨_, _, _, _, _, _⟩) (d := some 45) (v := ?_) rfl rfl (by kernel_rfl) (by kernel_rfl) (by kernel_rfl) (fun _ _ _ h => h) (by rfl) ?_ (by assumption) ?_; rotate_left; (focus (intro w hSw; (try dsimp only at hSw); go_simp; try with_reducible rfl)); (try simp only [Act.put, List.setIfInBounds_toArray, List.set_cons_zero, List.set_cons_succ]))
      (refine held_take (i := 6) (oi := ⟨_, _, _, _, _, _⟩) (d := some 46) (v := ?_) rfl rfl (by kernel_rfl) (by kernel_rfl) (by kernel_rfl) (fun _ _ _ h => h) (by rfl) ?_ (by assumption) ?_; rotate_left; (focus (intro w hSw; (try dsimp only at hSw); go_simp; try with_reducible rfl)); (try simp only [Act.put, List.setIfInBounds_toArray, List.set_cons_zero, List.set_cons_succ]))
      (refine held_take (i := 7) (oi := ⟨_, _, _, _, _, _⟩) (d := some 47) (v := ?_) rfl rfl (by kernel_rfl) (by kernel_rfl) (by kernel_rfl) (fun _ _ _ h => h) (by rfl) ?_ (by assumption) ?_; rotate_left; (focus (intro w hSw; (try dsimp only at hSw); go_simp; try with_reducible rfl)); (try simp only [Act.put, List.setIfInBounds_toArray, List.set_cons_zero, List.set_cons_succ]))
      (refine held_take (i := 8) (oi := ⟨_, _, _, _, _, _⟩) (d := some 48) (v := ?_) rfl rfl (by kernel_rfl) (by kernel_rfl) (by kernel_rfl) (fun _ _ _ h => h) (by rfl) ?_ (by assumption) ?_; rotate_left; (focus (intro w hSw; (try dsimp only at hSw); go_simp; try with_reducible rfl)); (try simp only [Act.put, List.setIfInBounds_toArray, List.set_cons_zero, List.set_cons_succ]))
      (refine held_take (i := 9) (oi := ⟨_, _, _, _, _, _⟩) (d := some 49) (v := ?_) rfl rfl (by kernel_rfl) (by kernel_rfl) (by kernel_rfl) (fun _ _ _ h => h) (by rfl) ?_ (by assumption) ?_; rotate_left; (focus (intro w hSw; (try dsimp only at hSw); go_simp; try with_reducible rfl)); (try simp only [Act.put, List.setIfInBounds_toArray, List.set_cons_zero, List.set_cons_succ]))
      (refine held_skip (i := 10) (oi := ⟨_, _, _, _, _, _⟩) (d := some 50) rfl rfl (by kernel_rfl) (by kernel_rfl) (by kernel_rfl) (fun _ _ _ h => h) (by rfl) (by assumption) ?_; (try simp only [Act.put, List.setIfInBounds_toArray, List.set_cons_zero, List.set_cons_succ]))
      (refine held_skip (i := 11) (oi := ⟨_, _, _, _, _, _⟩) (d := some 51) rfl rfl (by kernel_rfl) (by kernel_rfl) (by kernel_rfl) (fun _ _ _ h => h) (by rfl) (by assumption) ?_; (try simp only [Act.put, List.setIfInBounds_toArray, List.set_cons_zero, List.set_cons_succ]))
      (refine held_skip (i := 12) (oi := ⟨_, _, _, _, _, _⟩) (d := some 52) rfl rfl (by kernel_rfl) (by kernel_rfl) (by kernel_rfl) (fun _ _ _ h => h) (by rfl) (by assumption) ?_; (try simp only [Act.put, List.setIfInBounds_toArray, List.set_cons_zero, List.set_cons_succ]))
      (refine held_skip (i := 13) (oi := ⟨_, _, _, _, _, _⟩) (d := some 53) rfl rfl (by kernel_rfl) (by kernel_rfl) (by kernel_rfl) (fun _ _ _ h => h) (by rfl) (by assumption) ?_; (try simp only [Act.put, List.setIfInBounds_toArray, List.set_cons_zero, List.set_cons_succ]))
      (refine held_skip (i := 14) (oi := ⟨_, _, _, _, _, _⟩) (d := some 54) rfl rfl (by kernel_rfl) (by kernel_rfl) (by kernel_rfl) (fun _ _ _ h => h) (by rfl) (by assumption) ?_; (try simp only [Act.put, List.setIfInBounds_toArray, List.set_cons_zero, List.set_cons_succ]))
      (refine held_skip (i := 15) (oi := ⟨_, _, _, _, _, _⟩) (d := some 55) rfl rfl (by kernel_rfl) (by kernel_rfl) (by kernel_rfl) (fun _ _ _ h => h) (by rfl) (by assumption) ?_; (try simp only [Act.put, List.setIfInBounds_toArray, List.set_cons_zero, List.set_cons_succ]))
      (refine held_skip (i := 16) (oi := ⟨_, _, _, _, _, _⟩) (d := some 56) rfl rfl (by kernel_rfl) (by kernel_rfl) (by kernel_rfl) (fun _ _ _ h => h) (by rfl) (by assumption) ?_; (try simp only [Act.put, List.setIfInBounds_toArray, List.set_cons_zero, List.set_cons_succ]))
      (refine held_skip (i := 17) (oi := ⟨_, _, _, _, _, _⟩) (d := some 57) rfl rfl (by kernel_rfl) (by kernel_rfl) (by kernel_rfl) (fun _ _ _ h => h) (by rfl) (by assumption) ?_; (try simp only [Act.put, List.setIfInBounds_toArray, List.set_cons_zero, List.set_cons_succ]))
      (refine held_skip (i := 18) (oi := ⟨_, _, _, _, _, _⟩) (d := some 58) rfl rfl (by kernel_rfl) (by kernel_rfl) (by kernel_rfl) (fun _ _ _ h => h) (by rfl) (by assumption) ?_; (try simp only [Act.put, List.setIfInBounds_toArray, List.set_cons_zero, List.set_cons_succ]))
      (refine held_skip (i := 19) (oi := ⟨_, _, _, _, _, _⟩) (d := some 59) rfl rfl (by kernel_rfl) (by kernel_rfl) (by kernel_rfl) (fun _ _ _ h => h) (by rfl) (by assumption) ?_; (try simp only [Act.put, List.setIfInBounds_toArray, List.set_cons_zero, List.set_cons_succ]))
      (refine held_skip (i := 20) (oi := ⟨_, _, _, _, _, _⟩) (d := some 60) rfl rfl (by kernel_rfl) (by kernel_rfl) (by kernel_rfl) (fun _ _ _ h => h) (by rfl) (by assumption) ?_; (try simp only [Act.put, List.setIfInBounds_toArray, List.set_cons_zero, List.set_cons_succ]))
      (refine held_take (i := 21) (oi := ⟨_, _, _, _, _, _⟩) (d := some 61) (v := ?_) rfl rfl (by kernel_rfl) (by kernel_rfl) (by kernel_rfl) (fun _ _ _ h => h) (by rfl) ?_ (by assumption) ?_; rotate_left; (focus (intro w hSw; (try dsimp only at hSw); go_simp; try with_reducible rfl)); (try simp only [Act.put, List.setIfInBounds_toArray, List.set_cons_zero, List.set_cons_succ]))
      refine wpAnyH_ready (rs := [22]) (by kernel_rfl) (by simp) ?_
      refine AllReadyH.cons (o := ⟨_, _, _, _, _, _⟩) rfl (fun K hK => ?_) AllReadyH.nil
      go_simp
      refine hK.out _ _ (by refine ⟨?_, ?_, ?_, ?_, ?_⟩ <;> go_keep) (fun hHeld => ?_)
      clear hK K
      (try simp only [Act.put, List.setIfInBounds_toArray, List.set_cons_zero, List.set_cons_succ])
      (refine held_take (i := 23) (oi := ⟨_, _, _, _, _, _⟩) (d := some 7) (v := ?_) rfl rfl (by kernel_rfl) (by kernel_rfl) (by kernel_rfl) (fun _ _ _ h => h) (by rfl) ?_ (by assumption) ?_; rotate_left; (focus (intro w hSw; (try dsimp only at hSw); go_simp; try with_reducible rfl)); (try simp only [Act.put, List.setIfInBounds_toArray, List.set_cons_zero, List.set_cons_succ]))
      refine wpAnyH_done (by kernel_rfl) ?_ _
      go_wp2_with fail
      have Y0 := (BR1.out.s3 rfl ⟨y.q.day + 40, y.q.par, y.q.src⟩).cell 0
      have Y1 := (BR1.out.s3 rfl ⟨y.q.day + 40, y.q.par, y.q.src⟩).cell 1
      have Y2 := (BR1.out.s3 rfl ⟨y.q.day + 40, y.q.par, y.q.src⟩).cell 2
      refine bodyPost_ret (v := .tuple #[tv ⟨y.q.day + 40, y.q.par, y.q.src⟩, .bool false]) ?_ rfl ⟨rfl, (below_s3 (R := R) GV1.out (by have := HRR.out; omega) ⟨y.q.day + 40, y.q.par, y.q.src⟩).drew⟩
      simp [results, Tryz.results133, go_sem, Y0, Y1, Y2]
  have b8 : (kd == 8) = false := by simpa using k8
  have b2 : (kd == 2) = false := by simpa using k2
  have b3 : (kd == 3) = false := by simpa using k3
  have b4 : (kd == 4) = false := by simpa using k4
  have b5 : (kd == 5) = false := by simpa using k5
  have hnn : needs kd = 0 := by unfold needs; rw [if_neg (by omega), if_neg k5]
  have HTZ := Lib.hid (show tw = (⟨y.q.day, y.q.par, y.q.src⟩, true) by rw [HTW.out, if_neg (by omega), hnn, if_neg (by decide)])
  clear k8 k2 k3 k4 k5 hnn
  obtain rfl : tw = (⟨y.q.day, y.q.par, y.q.src⟩, true) := HTZ.out
  go_wp2_with fail
  have y0 := (BR.out.s3 rfl ⟨y.q.day, y.q.par, y.q.src⟩).cell 0
  have y1 := (BR.out.s3 rfl ⟨y.q.day, y.q.par, y.q.src⟩).cell 1
  have y2 := (BR.out.s3 rfl ⟨y.q.day, y.q.par, y.q.src⟩).cell 2
  refine bodyPost_ret (v := .tuple #[tv ⟨y.q.day, y.q.par, y.q.src⟩, .bool true]) ?_ rfl ⟨rfl, below_s3 (R := R) G3.out (by have := HRR.out; omega) ⟨y.q.day, y.q.par, y.q.src⟩⟩
  simp [results, Tryz.results133, go_sem, y0, y1, y2]
end Go.Proofs.YtehhlgdkhecacaaGreat
namespace Go.Proofs.YtehhlgdkhecacaaGreat
open Go.RowKit Go.Shelf
def bcells (b : Bool) : List Value := [.bool b]
theorem bcells_len (b : Bool) : (bcells b).length = 1 := rfl
theorem info4 : (Tryz.prog.info? 4).map (fun i => (i.zero, i.size, i.bytes)) = some (some (.bool false), 1, 1) := by kernel_rfl
theorem bcells_one (x : Bool) : ∀ v ∈ bcells x, v.oneCell' = true := fun v hv => by
  unfold bcells at hv
  rw [List.mem_singleton] at hv
  subst hv; rfl
theorem kdBo : Kd bcells 1 4 104 1 (.bool false) := ⟨by kernel_rfl, info4, by simp [Value.cells], by decide, bcells_len, bcells_one, by decide⟩
theorem bool_at {w : World} {A : Option Addr} {n : Nat} {l : List Bool} (h : Arr bcells 1 w A n l) {k : Nat} (hk : k < n) : ∃ b o, A = some ⟨b, o, none⟩ ∧ ∀ w', Below w.heap.size w w' → w'.cell? ⟨b, o + k, none⟩ = some (.bool (l.getD k false)) := by
  obtain ⟨b, o, x, rfl, -, hx, hc⟩ := h.at hk
  have e : l.getD k false = x := by rw [List.getD_eq_getElem?_getD, hx]; rfl
  rw [e]
  exact ⟨b, o, rfl, fun w' hw => by have := hc w' hw 0 _ rfl; rwa [Nat.mul_one, Nat.add_zero] at this⟩
/-- Titles and whether there are any, as the reference keeps them. -/
def lifeX (ts : List Tt) (bs : List Bool) (i : Nat) : Tt × Bool := (ts.getD i t0, bs.getD i false)
set_option maxRecDepth 100000 in
set_option maxHeartbeats 8000000 in
theorem refAt_any (TA HB B : Option Addr) (n tc hc d : Nat) (ts : List Tt) (bs : List Bool) (rd : List Int) (person day : Int) (w : World) (ht : Arr tcells 3 w TA n ts) (hh : Arr bcells 1 w HB n bs) (hb : Ints w B n rd) (hn : n ≤ 1000) :
    Calls Tryz.prog 134 #[.agg #[.slice TA n tc, .slice HB n hc], .slice B n d, .agg #[.int .i64 person, .int .i64 day]] w fun e w' => e = .returned (.int .i64 (atK (lifeX ts bs) rd person day n).par) ∧ Below w.heap.size w w' := by
  obtain ⟨R, hR⟩ : ∃ R, w.heap.size = R := ⟨_, rfl⟩
  obtain ⟨W1, hW1⟩ : ∃ X, w.alloc (.cells #[.slice TA n tc, .slice HB n hc] 106) = X := ⟨_, rfl⟩
  have g1 : Below w.heap.size w W1 := by rw [← hW1]; exact one_more _ _
  have s1 : W1.heap.size = R + 1 := by rw [← hW1, ← hR]; simp
  have bb1 : Blk W1 R 106 #[.slice TA n tc, .slice HB n hc] := by rw [← hW1, ← hR]; exact Blk.new _ _ _
  obtain ⟨W2, hW2⟩ : ∃ X, W1.alloc (.cells #[.int .i64 person, .int .i64 day] 65) = X := ⟨_, rfl⟩
  have g2 : Below W1.heap.size W1 W2 := by rw [← hW2]; exact one_more _ _
  have s2 : W2.heap.size = R + 2 := by rw [← hW2]; simp [s1]
  have bb2 : Blk W2 (R + 1) 65 #[.int .i64 person, .int .i64 day] := by rw [← hW2, ← s1]; exact Blk.new _ _ _
  obtain ⟨W3, hW3⟩ : ∃ X, W2.alloc (.cells #[.int .i64 (-1), .int .i64 (-1), .int .i64 0] 67) = X := ⟨_, rfl⟩
  have g3 : Below W2.heap.size W2 W3 := by rw [← hW3]; exact one_more _ _
  have bb3 : Blk W3 (R + 2) 67 #[.int .i64 (-1), .int .i64 (-1), .int .i64 0] := by rw [← hW3, ← s2]; exact Blk.new _ _ _
  have G2 := Lib.hid (extTrans g1 g2)
  have G3 := Lib.hid g3
  have BL := Lib.hid (bb1.ext g2)
  have BW := Lib.hid bb2
  have BT := Lib.hid bb3
  have HT := Lib.hid (ht.below G2.out)
  have HH := Lib.hid (hh.below G2.out)
  have HB := Lib.hid (hb.below G2.out)
  have HW1 := Lib.hid hW1
  have HW2 := Lib.hid hW2
  have HW3 := Lib.hid hW3
  have HRR := Lib.hid hR
  have HS1 := Lib.hid s1
  have HS2 := Lib.hid s2
  have HST := Lib.hid (fun k => (show atK (lifeX ts bs) rd person day (k + 1) = if bs.getD k false = true ∧ rd.getD k 0 = person ∧ (ts.getD k t0).day ≤ day ∧ bet2 (atK (lifeX ts bs) rd person day k) (ts.getD k t0) = true then ts.getD k t0 else atK (lifeX ts bs) rd person day k from rfl))
  have HK0 := Lib.hid (show atK (lifeX ts bs) rd person day 0 = ⟨-1, -1, 0⟩ from rfl)
  obtain ⟨AK, hAK⟩ : ∃ f : Nat → Tt, atK (lifeX ts bs) rd person day = f := ⟨_, rfl⟩
  rw [hAK] at HST HK0 ⊢
  clear ht hh hb hR hW1 hW2 hW3 g1 g2 g3 s1 s2 bb1 bb2 bb3 hAK
  go_enter Tryz.func134, Tryz.ntmps134
  go_upto_region 1 with fail
  rw [HW1.out, HRR.out]
  rw [HW2.out]
  go_upto_region 2 with fail
  rw [HW3.out, HS2.out]
  go_wp2_with fail
  go_loopw [8] (fun i wr => ∃ k : Nat, k ≤ n ∧ i = .int .i64 k ∧ Blk wr (R + 2) 67 (tb (AK k)) ∧ Below W2.heap.size W2 wr) (fun i _ => n - (intOf i).toNat)
  case atStart => exact ⟨0, Nat.zero_le _, rfl, by rw [HK0.out]; exact BT.out, G3.out⟩
  case round =>
    obtain ⟨k, hk, rfl, hbt, hg⟩ := hrel
    have HBT := Lib.hid hbt
    have HG := Lib.hid hg
    clear hbt hg
    have hl0 := (BL.out.ext HG.out).cell 0
    by_cases hkn : k < n
    · have HS := Lib.hid (HST.out k)
      obtain ⟨b3, o3, eT, hct⟩ := tit_at (HT.out.below HG.out) hkn
      obtain ⟨b4, o4, eH, hch⟩ := bool_at (HH.out.below HG.out) hkn
      obtain ⟨b5, o5, eB, -, -, hcb⟩ := ints_at (HB.out.below HG.out) hkn
      have etk : t1 ts k = ts.getD k t0 := rfl
      rw [etk] at hct
      obtain ⟨t, ht⟩ : ∃ t, ts.getD k t0 = t := ⟨_, rfl⟩
      obtain ⟨h, hh⟩ : ∃ h, bs.getD k false = h := ⟨_, rfl⟩
      obtain ⟨x, hx⟩ : ∃ h, rd.getD k 0 = h := ⟨_, rfl⟩
      obtain ⟨bt, hbt⟩ : ∃ h, AK k = h := ⟨_, rfl⟩
      rw [ht] at hct HS
      rw [hh] at hch HS
      rw [hx] at hcb HS
      rw [hbt] at HS HBT
      have hki : (k : Int) < (n : Int) := by omega
      have hwr2 : wrap64 ((k : Int) + 1) = (k : Int) + 1 := wrap_in (by omega)
      subst eT
      subst eH
      subst eB
      obtain ⟨e0, e1, e2⟩ := hct _ (Below.refl _ _)
      obtain ⟨X, hX⟩ : ∃ X, wr.alloc (.cells #[.int .i64 t.day, .int .i64 t.par, .int .i64 t.src] 67) = X := ⟨_, rfl⟩
      have GX := Lib.hid (show Below wr.heap.size wr X by rw [← hX]; exact one_more _ _)
      obtain ⟨g, hgg⟩ : ∃ g, wr.heap.size = g := ⟨_, rfl⟩
      have BX := Lib.hid (show Blk X g 67 (tb t) by rw [← hX, ← hgg]; exact Blk.new _ _ _)
      have HX := Lib.hid hX
      have HGG := Lib.hid hgg
      have HGX := Lib.hid (HG.out.trans (GX.out.mono HG.out.size))
      have HBTX := Lib.hid (HBT.out.ext GX.out)
      have y0 := cellW ((BL.out.ext HGX.out).cell 1)
      have y1 := cellW (hch _ GX.out)
      have y2 := cellW (hcb _ GX.out)
      have y3 := cellW ((BW.out.ext HGX.out).cell 0)
      have y4 := cellW ((BW.out.ext HGX.out).cell 1)
      have y5 := cellW (BX.out.cell 0)
      have y6 := cellW (BX.out.cell 2)
      have y7 := cellW (HBTX.out.cell 0)
      have y8 := cellW (HBTX.out.cell 2)
      clear hct hch hcb ht hh hx hbt etk hX hgg
      go_upto_region 6 with fail
      rw [HX.out, HGG.out]
      clear hl0 e0 e1 e2
      have HS2s := Lib.hid HS2.out
      cases h with
      | false =>
        have HS2 := Lib.hid (show AK (k + 1) = bt from HS.out.trans (if_neg (by rintro ⟨e, -⟩; cases e)))
        refine wp_region_calm X (by kernel_rfl) (by kernel_rfl) (Below.refl _ _) ?_
        repeat (go_big_quiet_step (fail))
        refine wpQuiet_nil ?_
        rintro _ ⟨z, rfl⟩
        have GQ := Lib.hid z.ok
        clear y0 y1 y2 y3 y4 y5 y6 y7 y8
        go_wp2
        go_roundw
        case rel => exact ⟨k + 1, by omega, rfl, by rw [HS2.out]; exact HBTX.out.ext GQ.out, HGX.out.trans (GQ.out.mono HGX.out.size)⟩
        case measure => simp only [intOf]; omega
      | true =>
        by_cases c1 : x = person
        rotate_left
        · have d1 : (x == person) = false := by simpa using c1
          have HS2 := Lib.hid (show AK (k + 1) = bt from HS.out.trans (if_neg (fun e => c1 e.2.1)))
          clear c1
          refine wp_region_calm X (by kernel_rfl) (by kernel_rfl) (Below.refl _ _) ?_
          repeat (go_big_quiet_step (fail))
          refine wpQuiet_nil ?_
          rintro _ ⟨z, rfl⟩
          have GQ := Lib.hid z.ok
          clear y0 y1 y2 y3 y4 y5 y6 y7 y8
          go_wp2
          go_roundw
          case rel => exact ⟨k + 1, by omega, rfl, by rw [HS2.out]; exact HBTX.out.ext GQ.out, HGX.out.trans (GQ.out.mono HGX.out.size)⟩
          case measure => simp only [intOf]; omega
        · have d1 : (x == person) = true := by simpa using c1
          by_cases c2 : t.day ≤ day
          rotate_left
          · have d2 : decide (t.day ≤ day) = false := decide_eq_false c2
            have HS2 := Lib.hid (show AK (k + 1) = bt from HS.out.trans (if_neg (fun e => c2 e.2.2.1)))
            clear c1 c2
            refine wp_region_calm X (by kernel_rfl) (by kernel_rfl) (Below.refl _ _) ?_
            repeat (go_big_quiet_step (fail))
            refine wpQuiet_nil ?_
            rintro _ ⟨z, rfl⟩
            have GQ := Lib.hid z.ok
            clear y0 y1 y2 y3 y4 y5 y6 y7 y8
            go_wp2
            go_roundw
            case rel => exact ⟨k + 1, by omega, rfl, by rw [HS2.out]; exact HBTX.out.ext GQ.out, HGX.out.trans (GQ.out.mono HGX.out.size)⟩
            case measure => simp only [intOf]; omega
          · have d2 : decide (t.day ≤ day) = true := decide_eq_true c2
            by_cases c3 : bt.day < t.day
            · have d3 : decide (bt.day < t.day) = true := decide_eq_true c3
              have HS2 := Lib.hid (show AK (k + 1) = t from HS.out.trans (if_pos ⟨rfl, c1, c2, by unfold bet2; rw [d3]; rfl⟩))
              clear c1 c2 c3
              refine wp_region_calm X (by kernel_rfl) (by kernel_rfl) (Below.refl _ _) ?_
              repeat (go_big_quiet_step (fail))
              refine wpQuiet_nil ?_
              rintro _ ⟨z, rfl⟩
              have GQ := Lib.hid z.ok
              clear y0 y1 y2 y3 y4 y5 y6 y7 y8
              have BXZ := Lib.hid (BX.out.ext GQ.out)
              have BTZ := Lib.hid (HBTX.out.ext GQ.out)
              have GZ := Lib.hid (HGX.out.trans (GQ.out.mono HGX.out.size))
              have x0 := BXZ.out.cell 0
              have u0 := BTZ.out.cell 0
              have f0 := BTZ.out.frozen 0
              have x1 := BXZ.out.cell 1
              have u1 := BTZ.out.cell 1
              have f1 := BTZ.out.frozen 1
              have x2 := BXZ.out.cell 2
              have u2 := BTZ.out.cell 2
              have f2 := BTZ.out.frozen 2
              go_wp2
              go_roundw
              case rel => exact ⟨k + 1, by omega, rfl, by rw [HS2.out]; exact BTZ.out.s3 rfl t, below_s3 GZ.out (by have := HS2s.out; omega) t⟩
              case measure => simp only [intOf]; omega
            · have d3 : decide (bt.day < t.day) = false := decide_eq_false c3
              by_cases c4 : t.day = bt.day
              rotate_left
              · have d4 : (t.day == bt.day) = false := by simpa using c4
                have HS2 := Lib.hid (show AK (k + 1) = bt from HS.out.trans (if_neg (fun e => by have h2 := e.2.2.2; unfold bet2 at h2; rw [d3, decide_eq_false c4] at h2; simp at h2)))
                clear c1 c2 c3 c4
                refine wp_region_calm X (by kernel_rfl) (by kernel_rfl) (Below.refl _ _) ?_
                repeat (go_big_quiet_step (fail))
                refine wpQuiet_nil ?_
                rintro _ ⟨z, rfl⟩
                have GQ := Lib.hid z.ok
                clear y0 y1 y2 y3 y4 y5 y6 y7 y8
                go_wp2
                go_roundw
                case rel => exact ⟨k + 1, by omega, rfl, by rw [HS2.out]; exact HBTX.out.ext GQ.out, HGX.out.trans (GQ.out.mono HGX.out.size)⟩
                case measure => simp only [intOf]; omega
              · have d4 : (t.day == bt.day) = true := by simpa using c4
                by_cases c5 : bt.src < t.src
                · have d5 : decide (bt.src < t.src) = true := decide_eq_true c5
                  have HS2 := Lib.hid (show AK (k + 1) = t from HS.out.trans (if_pos ⟨rfl, c1, c2, by unfold bet2; rw [decide_eq_true c4, d5]; simp⟩))
                  clear c1 c2 c3 c4 c5
                  refine wp_region_calm X (by kernel_rfl) (by kernel_rfl) (Below.refl _ _) ?_
                  repeat (go_big_quiet_step (fail))
                  refine wpQuiet_nil ?_
                  rintro _ ⟨z, rfl⟩
                  have GQ := Lib.hid z.ok
                  clear y0 y1 y2 y3 y4 y5 y6 y7 y8
                  have BXZ := Lib.hid (BX.out.ext GQ.out)
                  have BTZ := Lib.hid (HBTX.out.ext GQ.out)
                  have GZ := Lib.hid (HGX.out.trans (GQ.out.mono HGX.out.size))
                  have x0 := BXZ.out.cell 0
                  have u0 := BTZ.out.cell 0
                  have f0 := BTZ.out.frozen 0
                  have x1 := BXZ.out.cell 1
                  have u1 := BTZ.out.cell 1
                  have f1 := BTZ.out.frozen 1
                  have x2 := BXZ.out.cell 2
                  have u2 := BTZ.out.cell 2
                  have f2 := BTZ.out.frozen 2
                  go_wp2
                  go_roundw
                  case rel => exact ⟨k + 1, by omega, rfl, by rw [HS2.out]; exact BTZ.out.s3 rfl t, below_s3 GZ.out (by have := HS2s.out; omega) t⟩
                  case measure => simp only [intOf]; omega
                · have d5 : decide (bt.src < t.src) = false := decide_eq_false c5
                  have HS2 := Lib.hid (show AK (k + 1) = bt from HS.out.trans (if_neg (fun e => by have h2 := e.2.2.2; unfold bet2 at h2; rw [d3, d5] at h2; simp at h2)))
                  clear c1 c2 c3 c4 c5
                  refine wp_region_calm X (by kernel_rfl) (by kernel_rfl) (Below.refl _ _) ?_
                  repeat (go_big_quiet_step (fail))
                  refine wpQuiet_nil ?_
                  rintro _ ⟨z, rfl⟩
                  have GQ := Lib.hid z.ok
                  clear y0 y1 y2 y3 y4 y5 y6 y7 y8
                  go_wp2
                  go_roundw
                  case rel => exact ⟨k + 1, by omega, rfl, by rw [HS2.out]; exact HBTX.out.ext GQ.out, HGX.out.trans (GQ.out.mono HGX.out.size)⟩
                  case measure => simp only [intOf]; omega
    · obtain rfl : k = n := by omega
      have k1 := HBT.out.cell 1
      go_wp2_with fail
      go_ret
      exact ⟨rfl, G2.out.trans (HG.out.mono G2.out.size)⟩
end Go.Proofs.YtehhlgdkhecacaaGreat
namespace Go.Proofs.YtehhlgdkhecacaaGreat
open Go.RowKit Go.Shelf
theorem lastF_cases {day : Int} : ∀ (l : List Tt) (out : Int), lastF day l out = out ∨ ∃ t ∈ l, lastF day l out = t.par
  | [], out => .inl rfl
  | t :: l, out => by
    unfold lastF
    rw [List.foldl_cons]
    rcases lastF_cases (day := day) l (if t.day ≤ day then t.par else out) with h | ⟨u, hu, h⟩
    · unfold lastF at h
      rw [h]
      by_cases e : t.day ≤ day
      · rw [if_pos e]; exact .inr ⟨t, by simp, rfl⟩
      · rw [if_neg e]; exact .inl rfl
    · exact .inr ⟨u, List.mem_cons_of_mem _ hu, h⟩
theorem setK_ge {c : List Qf} {r : List Int} (hp : ∀ i, i < c.length → 0 ≤ (c.getD i q0).par) : ∀ (k : Nat) (person day : Int), setK c r k person day = -1 ∨ 0 ≤ setK c r k person day
  | 0, _, _ => .inl rfl
  | k + 1, person, day => by
    unfold setK
    rw [lastT_F]
    rcases lastF_cases (day := day) (srtT (titL (setK c r k) c r person day)) (-1) with h | ⟨t, ht, h⟩
    · exact .inl h
    · rw [h]
      have hm := (srtT_perm _).subset ht
      unfold titL at hm
      obtain ⟨i, hi, rfl⟩ := List.mem_map.1 hm
      obtain ⟨h1, h2⟩ := List.mem_filter.1 hi
      have hil : i < c.length := List.mem_range.1 h1
      unfold hasT at h2
      simp only [Bool.and_eq_true, decide_eq_true_eq] at h2
      have h3 := h2.2
      unfold titS at h3 ⊢
      split at h3
      · cases h3
      · next k8 =>
        rw [if_neg k8]
        split at h3
        · next k2 =>
          rw [if_pos k2]
          have h4 : setK c r k (c.getD i q0).oth ((c.getD i q0).day - 1) ≠ -1 := of_decide_eq_true h3
          rcases setK_ge hp k (c.getD i q0).oth ((c.getD i q0).day - 1) with e | e
          · exact absurd e h4
          · exact .inr e
        · next k2 =>
          rw [if_neg k2]
          split
          · exact .inr (hp i hil)
          · exact .inr (hp i hil)
theorem setS_ge {c : List Qf} {r : List Int} (hp : ∀ i, i < c.length → 0 ≤ (c.getD i q0).par) (person day : Int) : setS c r person day = -1 ∨ 0 ≤ setS c r person day := setK_ge hp _ _ _
/-- Titles while some marriages wait, as lists. -/
def tsD (c : List Qf) (r : List Int) (ds : List Bool) : List Tt := (List.range c.length).map fun i => (titD c r (fun j => ds.getD j false) i).1
def bsD (c : List Qf) (r : List Int) (ds : List Bool) : List Bool := (List.range c.length).map fun i => (titD c r (fun j => ds.getD j false) i).2
theorem range_get {α : Type} (f : Nat → α) {n i : Nat} (h : i < n) (d : α) : ((List.range n).map f).getD i d = f i := by
  rw [List.getD_eq_getElem?_getD, List.getElem?_map, List.getElem?_range h]; rfl
theorem range_set {α : Type} (f g : Nat → α) {n j : Nat} (h : ∀ i, i < n → i ≠ j → f i = g i) (hj : j < n) : ((List.range n).map f).set j (g j) = (List.range n).map g := by
  refine List.ext_getElem? fun i => ?_
  rw [List.getElem?_set]
  by_cases e : j = i
  · subst e
    rw [if_pos rfl, if_pos (by simpa using hj), List.getElem?_map, List.getElem?_range hj]; rfl
  · rw [if_neg e, List.getElem?_map, List.getElem?_map]
    by_cases hi : i < n
    · rw [List.getElem?_range hi]
      exact congrArg some (h i hi (fun x => e x.symm))
    · rw [List.getElem?_eq_none (by simpa using hi)]; rfl
theorem ds_set {ds : List Bool} {j i : Nat} (h : j < ds.length) : (ds.set j true).getD i false = if i = j then true else ds.getD i false := by
  rw [List.getD_eq_getElem?_getD, List.getElem?_set]
  by_cases e : j = i
  · subst e; rw [if_pos rfl, if_pos h, if_pos rfl]; rfl
  · rw [if_neg e, if_neg (fun x => e x.symm), List.getD_eq_getElem?_getD]
theorem titD_set {c : List Qf} {r : List Int} {ds : List Bool} {j i : Nat} (h : j < ds.length) (e : i ≠ j) : titD c r (fun k => (ds.set j true).getD k false) i = titD c r (fun k => ds.getD k false) i := by
  unfold titD
  simp only [ds_set h, if_neg e]
theorem titD_at {c : List Qf} {r : List Int} {ds : List Bool} {j : Nat} (h : j < ds.length) : titD c r (fun k => (ds.set j true).getD k false) j = titS (setS c r) c r j := by
  unfold titD
  simp only [ds_set h, if_true]
theorem tsD_set {c : List Qf} {r : List Int} {ds : List Bool} {j : Nat} (hl : ds.length = c.length) (hj : j < c.length) : tsD c r (ds.set j true) = (tsD c r ds).set j (titS (setS c r) c r j).1 := by
  unfold tsD
  rw [← titD_at (c := c) (r := r) (ds := ds) (j := j) (by omega)]
  exact (range_set _ (fun i => (titD c r (fun k => (ds.set j true).getD k false) i).1) (fun i _ e => by rw [titD_set (by omega) e]) hj).symm
theorem bsD_set {c : List Qf} {r : List Int} {ds : List Bool} {j : Nat} (hl : ds.length = c.length) (hj : j < c.length) : bsD c r (ds.set j true) = (bsD c r ds).set j (titS (setS c r) c r j).2 := by
  unfold bsD
  rw [← titD_at (c := c) (r := r) (ds := ds) (j := j) (by omega)]
  exact (range_set _ (fun i => (titD c r (fun k => (ds.set j true).getD k false) i).2) (fun i _ e => by rw [titD_set (by omega) e]) hj).symm
theorem lifeX_D {c : List Qf} {r : List Int} {ds : List Bool} {i : Nat} (hi : i < c.length) : lifeX (tsD c r ds) (bsD c r ds) i = titD c r (fun j => ds.getD j false) i := by
  unfold lifeX tsD bsD
  rw [range_get _ hi, range_get _ hi]
theorem atK_D {c : List Qf} {r : List Int} {ds : List Bool} (person day : Int) : atK (lifeX (tsD c r ds) (bsD c r ds)) r person day c.length = atK (titD c r (fun j => ds.getD j false)) r person day c.length :=
  atK_congr fun _ hi => .inl (lifeX_D hi)
/-- The titles of all proofs. -/
def tsL (c : List Qf) (r : List Int) : List Tt := (List.range c.length).map fun i => (titS (setS c r) c r i).1
def bsL (c : List Qf) (r : List Int) : List Bool := (List.range c.length).map fun i => (titS (setS c r) c r i).2
theorem tsD_done {c : List Qf} {r : List Int} {ds : List Bool} (h : ∀ i, i < c.length → ¬ ((c.getD i q0).kind = 2 ∧ ds.getD i false = false)) : tsD c r ds = tsL c r ∧ bsD c r ds = bsL c r := by
  unfold tsD bsD tsL bsL
  exact ⟨List.map_congr_left fun i hi => by rw [titD_done h (List.mem_range.1 hi)], List.map_congr_left fun i hi => by rw [titD_done h (List.mem_range.1 hi)]⟩
theorem lifeX_L {c : List Qf} {r : List Int} {i : Nat} (hi : i < c.length) : lifeX (tsL c r) (bsL c r) i = titS (setS c r) c r i := by
  unfold lifeX tsL bsL
  rw [range_get _ hi, range_get _ hi]
theorem atK_L {c : List Qf} {r : List Int} (hc : Days c) (hs : (c.map Qf.src).Nodup) (person day : Int) : (atK (lifeX (tsL c r) (bsL c r)) r person day c.length).par = setS c r person day := by
  rw [← atK_set hc hs]
  congr 1
  exact atK_congr fun _ hi => .inl (lifeX_L hi)
theorem titD_none (c : List Qf) (r : List Int) (n i : Nat) : titD c r (fun j => (List.replicate n false).getD j false) i = titW c r i := by
  unfold titD
  rw [if_neg]
  show ¬ ((List.replicate n false).getD i false = true)
  rw [List.getD_eq_getElem?_getD, List.getElem?_replicate]
  split <;> decide
/-- After k rounds of the first loop. -/
def tsK (c : List Qf) (r : List Int) (k : Nat) : List Tt := (List.range k).map fun i => (titW c r i).1
def bsK (c : List Qf) (r : List Int) (k : Nat) : List Bool := (List.range k).map fun i => (titW c r i).2
theorem tsK_succ (c : List Qf) (r : List Int) (k : Nat) : tsK c r (k + 1) = tsK c r k ++ [(titW c r k).1] := by unfold tsK; rw [List.range_succ, List.map_append]; rfl
theorem bsK_succ (c : List Qf) (r : List Int) (k : Nat) : bsK c r (k + 1) = bsK c r k ++ [(titW c r k).2] := by unfold bsK; rw [List.range_succ, List.map_append]; rfl
theorem tsK_all (c : List Qf) (r : List Int) : tsK c r c.length = tsD c r (List.replicate c.length false) ∧ bsK c r c.length = bsD c r (List.replicate c.length false) := by
  unfold tsK bsK tsD bsD
  exact ⟨List.map_congr_left fun i _ => by rw [titD_none], List.map_congr_left fun i _ => by rw [titD_none]⟩
/-- How many are done. -/
theorem cnt_set {ds : List Bool} {j : Nat} (hj : j < ds.length) (h : ds.getD j false = false) : (ds.set j true).countP (fun b => b) = ds.countP (fun b => b) + 1 := by
  induction ds generalizing j with
  | nil => exact absurd hj (by simp)
  | cons a ds ih =>
    cases j with
    | zero =>
      have e : a = false := h
      subst e
      rw [List.set_cons_zero, List.countP_cons, List.countP_cons]; simp
    | succ j =>
      rw [List.set_cons_succ, List.countP_cons, List.countP_cons, ih (by simpa using hj) (by simpa using h)]; omega
theorem cnt_all {ds : List Bool} (h : ds.countP (fun b => b) = ds.length) {j : Nat} (hj : j < ds.length) : ds.getD j false = true := by
  have := List.countP_eq_length.1 h ds[j] (List.getElem_mem hj)
  rw [List.getD_eq_getElem?_getD, List.getElem?_eq_getElem hj]
  exact this
theorem made_false (n : Nat) : madeCells (Value.bool false).cells (n * 1) = ((List.replicate n false).map Value.bool).toArray := by
  refine Array.ext (by rw [size_madeCells]; simp) fun i h1 h2 => ?_
  unfold madeCells
  simp [Value.cells, Nat.mod_one]
/-- A life while it is made: a box (X) with two lists of one's own. -/
structure Lf (W2 W : World) (X : Nat) (v u : Value) (ts : List Tt) (bs : List Bool) : Prop where
  g : Below X W2 W
  bx : Blk W X 106 #[v, u]
  o1 : OwnL tcells 3 67 W (X + 1) v ts
  o2 : OwnL bcells 1 4 W (X + 1) u bs
section
variable {W2 W W' : World} {X : Nat} {v u v' : Value} {ts : List Tt} {bs : List Bool}
theorem Lf.ext (h : Lf W2 W X v u ts bs) (k : Below W.heap.size W W') : Lf W2 W' X v u ts bs :=
  ⟨h.g.trans (k.mono (Nat.le_of_lt h.bx.lt)), h.bx.ext k, h.o1.ext k, h.o2.ext k⟩
theorem Lf.ne (h : Lf W2 W X v u ts bs) : v.ownBlock ≠ some X ∧ u.ownBlock ≠ some X := ⟨own_ne h.o1 h.bx (by decide), own_ne h.o2 h.bx (by decide)⟩
theorem own_diff {α β : Type} {f : α → List Value} {g : β → List Value} {s1 s2 : Nat} {e1 e2 : TypeId} {base b2 : Nat} {W : World} {v u : Value} {xs : List α} {ys : List β} (h : OwnL f s1 e1 W base v xs) (k : OwnL g s2 e2 W b2 u ys) (hne : e1 ≠ e2) : ∀ j, v.ownBlock = some j → u.ownBlock ≠ some j := fun j h1 h2 => by
  obtain ⟨-, c1, b1⟩ := own_block h h1
  obtain ⟨-, c2, b2⟩ := own_block k h2
  exact hne (blk_type b1 b2)
theorem own_kept {α β : Type} {f : α → List Value} {g : β → List Value} {s1 s2 : Nat} {e1 e2 : TypeId} {base b2 : Nat} {W W' : World} {v u : Value} {xs : List α} {ys : List β} (h : OwnL f s1 e1 W base v xs) (k : OwnL g s2 e2 W b2 u ys) (hne : e1 ≠ e2) (hg : W.grownBy W' v.ownBlock) : OwnL g s2 e2 W' b2 u ys := by
  refine World.ownsRow.kept k hg ?_
  cases e : u.ownBlock with
  | none => exact .inl rfl
  | some j => exact .inr fun e3 => own_diff h k hne j e3.symm e
theorem Lf.app1 (h : Lf W2 W X v u ts bs) {t : Tt} (ho : OwnL tcells 3 67 W' (X + 1) v' (ts ++ [t])) (hg : W.grownBy W' v.ownBlock) : Lf W2 (W'.setCell ⟨X, 0, none⟩ v') X v' u (ts ++ [t]) bs := by
  have hb : Blk W' X 106 #[v, u] := (hg.block X h.bx.lt (fun e => h.ne.1 e.symm)).trans h.bx
  refine ⟨(h.g.trans (h.o1.below hg (by omega) (Nat.le_of_lt h.bx.lt))).setCell (p := ⟨X, 0, none⟩) (Nat.le_refl _) _, hb.set_ 0 _, ho.off (own_ne ho hb (by decide)) _, ?_⟩
  have h2 := own_kept h.o1 h.o2 (by decide) hg
  exact h2.off (own_ne h2 hb (by decide)) _
theorem Lf.app2 (h : Lf W2 W X v u ts bs) {t : Bool} (ho : OwnL bcells 1 4 W' (X + 1) v' (bs ++ [t])) (hg : W.grownBy W' u.ownBlock) : Lf W2 (W'.setCell ⟨X, 1, none⟩ v') X v v' ts (bs ++ [t]) := by
  have hb : Blk W' X 106 #[v, u] := (hg.block X h.bx.lt (fun e => h.ne.2 e.symm)).trans h.bx
  refine ⟨(h.g.trans (h.o2.below hg (by omega) (Nat.le_of_lt h.bx.lt))).setCell (p := ⟨X, 1, none⟩) (Nat.le_refl _) _, hb.set_ 1 _, ?_, ho.off (own_ne ho hb (by decide)) _⟩
  have h2 := own_kept h.o2 h.o1 (by decide) hg
  exact h2.off (own_ne h2 hb (by decide)) _
end
end Go.Proofs.YtehhlgdkhecacaaGreat
namespace Go.Proofs.YtehhlgdkhecacaaGreat
open Go.RowKit Go.Shelf
/-- A list of numbers with its header. -/
structure Hr where
  r : List Int
  A : Option Addr
  n : Nat
  c : Nat
def h0 : Hr := ⟨[], none, 0, 0⟩
def hcells (h : Hr) : List Value := [.slice h.A h.n h.c]
theorem hcells_len (h : Hr) : (hcells h).length = 1 := rfl
theorem info25 : (Tryz.prog.info? 25).map (fun i => (i.zero, i.size, i.bytes)) = some (some (.slice none 0 0), 1, 24) := by kernel_rfl
theorem hcells_one (x : Hr) : ∀ v ∈ hcells x, v.oneCell' = true := fun v hv => by
  unfold hcells at hv
  rw [List.mem_singleton] at hv
  subst hv; rfl
theorem kdH : Kd hcells 1 25 96 24 (.slice none 0 0) := ⟨by kernel_rfl, info25, by simp [Value.cells], by decide, hcells_len, hcells_one, by decide⟩
/-- A list of one's own of lists of one's own. -/
structure Lr (w W : World) (v : Value) (hs : List Hr) : Prop where
  g : Below w.heap.size w W
  o : OwnL hcells 1 25 W w.heap.size v hs
  per : ∀ h ∈ hs, (Ints W h.A h.n h.r ∧ h.n ≤ h.c ∧ h.c ≤ maxLen) ∧ ∀ a, h.A = some a → v.ownBlock ≠ some a.block ∧ w.heap.size ≤ a.block ∧ a.block < W.heap.size
section
variable {w W W0 W1 W2 : World} {v v' v2 : Value} {hs hs2 : List Hr}
theorem Below.allo7 {B : Nat} {V X : World} (h : Below B V X) (hB : B ≤ X.heap.size) (o : Obj) : Below B V (X.alloc o) := h.trans ((one_more X o).mono hB)
theorem Lr.nil (w : World) : Lr w w (.slice none 0 0) [] := ⟨Below.refl _ _, OwnL.nil _ _, fun h hh => by cases hh⟩
theorem Lr.ext (h : Lr w W v hs) (k : Below W.heap.size W W2) : Lr w W2 v hs :=
  ⟨h.g.trans (k.mono h.g.size), h.o.ext k, fun x hx => by
    obtain ⟨⟨h1, h2, h3⟩, h4⟩ := h.per x hx
    exact ⟨⟨h1.below k, h2, h3⟩, fun a e => ⟨(h4 a e).1, (h4 a e).2.1, Nat.lt_of_lt_of_le (h4 a e).2.2 k.size⟩⟩⟩
theorem Lr.low (h : Lr W1 W v hs) (g : Below w.heap.size w W1) : Lr w W v hs :=
  ⟨g.trans (h.g.mono g.size), h.o.mono g.size, fun x hx => by
    obtain ⟨h1, h4⟩ := h.per x hx
    exact ⟨h1, fun a e => ⟨(h4 a e).1, Nat.le_trans g.size (h4 a e).2.1, (h4 a e).2.2⟩⟩⟩
theorem Lr.arr (h : Lr w W v hs) : ∃ A c, v = .slice A hs.length c ∧ hs.length ≤ c ∧ c ≤ maxLen ∧ Arr hcells 1 W A hs.length hs := by
  obtain ⟨A, c, e, h1, h2, h3, -⟩ := OwnL.arr kdH h.o
  exact ⟨A, c, e, h1, h2, h3⟩
theorem Lr.app (h : Lr w W0 v hs) (g01 : Below W0.heap.size W0 W1) (h2 : Lr W1 W v2 hs2) (ho : OwnL hcells 1 25 W2 w.heap.size v' (hs ++ hs2)) (hg : W.grownBy W2 v.ownBlock) (hz : v'.ownBlock = v.ownBlock ∨ v'.ownBlock = some W.heap.size) : Lr w W2 v' (hs ++ hs2) := by
  have h0 := (h.ext g01).ext h2.g
  have hlt : ∀ k, v.ownBlock = some k → k < W1.heap.size := fun k hk => Nat.lt_of_lt_of_le (own_lt2 h.o hk) g01.size
  have hall : ∀ x ∈ hs ++ hs2, (Ints W x.A x.n x.r ∧ x.n ≤ x.c ∧ x.c ≤ maxLen) ∧ ∀ a, x.A = some a → v.ownBlock ≠ some a.block ∧ w.heap.size ≤ a.block ∧ a.block < W.heap.size := fun x hx => by
    rw [List.mem_append] at hx
    rcases hx with hx | hx
    · exact h0.per x hx
    · obtain ⟨h1, h4⟩ := h2.per x hx
      refine ⟨h1, fun a e => ⟨fun e2 => ?_, ?_, (h4 a e).2.2⟩⟩
      · have := hlt _ e2
        have := (h4 a e).2.1
        omega
      · have h5 := (h4 a e).2.1
        have h6 := (h.ext g01).g.size
        omega
  refine ⟨h0.g.trans (h0.o.below hg (Nat.le_refl _) h0.g.size), ho, fun x hx => ?_⟩
  obtain ⟨⟨h1, h3, h4⟩, h5⟩ := hall x hx
  refine ⟨⟨ints_grown h1 (fun a e => (h5 a e).1) hg, h3, h4⟩, fun a e => ?_⟩
  obtain ⟨k1, k2, k3⟩ := h5 a e
  refine ⟨?_, k2, Nat.lt_of_lt_of_le k3 hg.size⟩
  rcases hz with hz | hz
  · rw [hz]; exact k1
  · rw [hz]; intro e2; have := Option.some.inj e2; omega
end
/-- One list alone. -/
theorem Lr.one {w W : World} {A : Option Addr} {n c : Nat} {l : List Int} (g : Below w.heap.size w W) (o : OwnL icells 1 3 W w.heap.size (.slice A n c) l) : Lr w (W.alloc (.cells #[.slice A n c] 25)) (.slice (some ⟨W.heap.size, 0, none⟩) 1 1) [⟨l, A, n, c⟩] := by
  have g2 : Below W.heap.size W (W.alloc (.cells #[.slice A n c] 25)) := one_more _ _
  have o2 := o.ext g2
  obtain ⟨A', c', e, h1, h2, h3, -⟩ := OwnL.arr kdI o2
  simp only [Value.slice.injEq] at e
  obtain ⟨e1, e2, e3⟩ := e
  rw [← e1, ← e2] at h3
  refine ⟨g.trans (g2.mono g.size), own_mk (cur := #[.slice A n c]) hcells_len rfl g.size (Blk.new _ _ _) (Nat.le_refl _) (by unfold maxLen; omega) rfl rfl, fun x hx => ?_⟩
  rw [List.mem_singleton] at hx
  subst hx
  refine ⟨⟨h3, show n ≤ c by omega, show c ≤ maxLen by omega⟩, fun a e => ?_⟩
  have hob : (Value.slice A n c).ownBlock = some a.block := by
    have e' : A = some a := e
    rw [e']; rfl
  have h5 := own_lt2 o hob
  refine ⟨fun e2 => ?_, (own_block o hob).1, Nat.lt_of_lt_of_le h5 g2.size⟩
  have : W.heap.size = a.block := Option.some.inj e2
  omega
def morS (c : List Qf) (k : Nat) (b per : List Int) (i : Nat) : List (List Int) := ((per.take i).filter fun n => fitB c b n).flatMap fun n => moreK c k (b ++ [n])
theorem morS_succ (c : List Qf) (k : Nat) (b per : List Int) {i : Nat} (hi : i < per.length) : morS c k b per (i + 1) = morS c k b per i ++ (if fitB c b (per.getD i 0) = true then moreK c k (b ++ [per.getD i 0]) else []) := by
  unfold morS
  rw [filt_succ per (fun n => fitB c b n) hi, List.flatMap_append]
  congr 1
  split <;> simp
theorem morS_all (c : List Qf) (k : Nat) (b : List Int) : morS c k b (c.getD b.length q0).per (c.getD b.length q0).per.length = moreK c (k + 1) b := by
  unfold morS
  rw [List.take_length]; rfl
theorem morS_le (c : List Qf) (k : Nat) (b per : List Int) (i : Nat) : (morS c k b per i).length ≤ (morS c k b per per.length).length := by
  unfold morS
  rw [List.take_length]
  have e : (per.filter fun n => fitB c b n) = ((per.take i).filter fun n => fitB c b n) ++ ((per.drop i).filter fun n => fitB c b n) := by rw [← List.filter_append, List.take_append_drop]
  rw [e, List.flatMap_append, List.length_append]
  exact Nat.le_add_right _ _
/-- What more returns. -/
def MorEnd (L : List (List Int)) (w : World) (e : Ending) (w' : World) : Prop := ∃ v hs, e = .returned v ∧ Lr w w' v hs ∧ hs.map Hr.r = L
set_option maxRecDepth 100000 in
set_option maxHeartbeats 16000000 in
theorem refMore_any (A : Option Addr) (n c : Nat) (l : List Pf) (hn : n ≤ 60) (hp4 : ∀ p ∈ l, p.n ≤ 4) : ∀ (k : Nat) (B : Option Addr) (m d : Nat) (bg : List Int) (w : World) (_ : Prf w A n l) (_ : Ints w B m bg) (_ : m + k = n) (_ : (moreK (l.map Pf.q) k bg).length ≤ 2000),
    Calls Tryz.prog 79 #[.slice A n c, .slice B m d] w (MorEnd (moreK (l.map Pf.q) k bg) w)
  | 0, B, m, d, bg, w, ha, hb, hk, hL => by
    obtain rfl : m = n := by omega
    have hmm : ((m : Int) == (m : Int)) = true := by simp
    have HB := Lib.hid hb
    have OE := Lib.hid (show OwnL icells 1 3 (w.alloc (.cells #[] 3)) w.heap.size (.slice (some ⟨w.heap.size, 0, none⟩) 0 0) [] from own_empty icells_len w (Nat.le_refl _))
    have G3 := Lib.hid (show Below w.heap.size w (w.alloc (.cells #[] 3)) from one_more _ _)
    have HBX := Lib.hid (hb.below G3.out)
    have HBL := Lib.hid hb.1
    clear ha hb hL hp4
    go_enter Tryz.func79, Tryz.ntmps79
    go_wp2_with (first
      | (at_builtin; go_loud (refine wpList_app kdI (by rfl) _ _ (by rfl) w.heap.size _ [] (by rfl) OE.out _ m d bg (by rfl) HBX.out (by rw [List.length_nil]; omega) G3.out.size ?_); intro v' w' ho hgr hz; rw [List.nil_append] at ho; obtain ⟨A5, c5, e5, -, -, -, -⟩ := OwnL.arr kdI ho; rw [HBL.out] at e5; subst e5; have GX := Lib.hid (G3.out.trans (OE.out.below hgr (Nat.le_refl _) G3.out.size)); have HO := Lib.hid ho; clear ho hgr hz))
    go_ret
    exact ⟨_, _, rfl, Lr.one GX.out HO.out, rfl⟩
  | k + 1, B, m, d, bg, w, ha, hb, hk, hL => by
    have hmn : m < n := by omega
    have HMB := Lib.hid hb.1
    have hmne : ((m : Int) == (n : Int)) = false := beq_eq_false_iff_ne.2 (by omega)
    have HA := Lib.hid ha
    have HBI := Lib.hid hb
    have HIH := Lib.hid (fun B m d bg w ha hb hk hL => refMore_any A n c l hn hp4 k B m d bg w ha hb hk hL)
    have HFT := Lib.hid (fun (person : Int) (W : World) (g : Below w.heap.size w W) => refFits_any A n c l B m d bg person W (ha.below g) (by omega) (hb.below g) hmn)
    have HQY := Lib.hid (show (l.map Pf.q).getD m q0 = (l.getD m p0).q from map_pf (by rw [ha.len]; exact hmn))
    have HAL := morS_all (l.map Pf.q) k bg
    rw [hb.1, HQY.out] at HAL
    obtain ⟨b0, o0, eA, -, hyi, hym, hyc⟩ := ha.at hmn
    have hy4 := hp4 _ hym
    obtain ⟨y, hy⟩ : ∃ y, l.getD m p0 = y := ⟨_, rfl⟩
    rw [hy] at hyi hyc hy4 HAL
    have HYL := Lib.hid hyi.len
    have HST := Lib.hid (fun i (hi : i < y.n) => morS_succ (l.map Pf.q) k bg y.q.per (i := i) (by rw [hyi.len]; exact hi))
    have HLE := Lib.hid (fun i => (show (morS (l.map Pf.q) k bg y.q.per i).length ≤ 2000 from Nat.le_trans (morS_le _ _ _ _ i) (by rw [HAL]; exact hL)))
    rw [hyi.len] at HAL
    have HS0 := Lib.hid (show morS (l.map Pf.q) k bg y.q.per 0 = [] from rfl)
    obtain ⟨LQ, hLQ⟩ : ∃ x, l.map Pf.q = x := ⟨_, rfl⟩
    rw [hLQ] at HIH HFT HAL HST HLE HS0 ⊢
    obtain ⟨FIN, hFIN⟩ : ∃ x, moreK LQ (k + 1) bg = x := ⟨_, rfl⟩
    rw [hFIN] at HAL ⊢
    have HFIN := Lib.hid HAL
    obtain ⟨MS, hMS⟩ : ∃ f : Nat → List (List Int), morS LQ k bg y.q.per = f := ⟨_, rfl⟩
    rw [hMS] at HFIN HST HLE HS0
    obtain ⟨W1, hW1⟩ : ∃ X, w.alloc (.cells #[.int .i64 y.q.src, .int .i64 y.q.kind, .slice y.A y.n y.c, .int .i64 y.q.oth, .int .i64 y.q.par, .int .i64 y.q.day, .int .i64 y.q.thr, .int .i64 y.q.kno, .int .i64 y.q.unt] 56) = X := ⟨_, rfl⟩
    have G1 := Lib.hid (show Below w.heap.size w W1 by rw [← hW1]; exact one_more _ _)
    obtain ⟨bx, hbx⟩ : ∃ x, w.heap.size = x := ⟨_, rfl⟩
    have B1 := Lib.hid (show Blk W1 bx 56 #[.int .i64 y.q.src, .int .i64 y.q.kind, .slice y.A y.n y.c, .int .i64 y.q.oth, .int .i64 y.q.par, .int .i64 y.q.day, .int .i64 y.q.thr, .int .i64 y.q.kno, .int .i64 y.q.unt] by rw [← hW1, ← hbx]; exact Blk.new _ _ _)
    have HW1 := Lib.hid hW1
    have HBW := Lib.hid hbx
    have HYI := Lib.hid (hyi.below G1.out)
    subst eA
    obtain ⟨e0, e1, e2, e3, e4, e5, e6, e7, e8⟩ := hyc _ (Below.refl _ _)
    have hmi : (m : Int) < (n : Int) := by omega
    clear ha hb hyi hym hyc hy hLQ hFIN hMS hW1 hbx HAL hL hp4
    go_enter Tryz.func79, Tryz.ntmps79
    go_upto_region 5 with fail
    rw [HW1.out, HBW.out]
    clear e0 e1 e2 e3 e4 e5 e6 e7 e8 hmne hmi
    go_wp2_with fail
    go_loopw [5, 7] (fun v i wr => ∃ (j : Nat) (hs : List Hr), j ≤ y.n ∧ i = .int .i64 j ∧ Lr W1 wr v hs ∧ hs.map Hr.r = MS j) (fun _ i _ => y.n - (intOf i).toNat)
    case atStart => exact ⟨0, [], Nat.zero_le _, rfl, Lr.nil _, by rw [HS0.out]; rfl⟩
    case round =>
      obtain ⟨j, hs, hj, rfl, hlr, hhs⟩ := hrel
      have HLR := Lib.hid hlr
      have HHS := Lib.hid hhs
      have GZ := Lib.hid (G1.out.trans (hlr.g.mono G1.out.size))
      have HKB := Lib.hid (fun X (g : Below W1.heap.size W1 X) => (show X.cell? ⟨bx, 2, none⟩ = some (.slice y.A y.n y.c) from (B1.out.ext g).cell 2))
      clear hlr hhs
      by_cases hjn : j < y.n
      · have HS := Lib.hid (HST.out j hjn)
        have HLB := Lib.hid (show hs.length ≤ 2000 by have := HLE.out j; rw [← HHS.out, List.length_map] at this; exact this)
        have HLB2 := Lib.hid (HLE.out (j + 1))
        obtain ⟨b5, o5, eyA, -, -, hcp⟩ := ints_at HYI.out.i hjn
        obtain ⟨x, hx⟩ : ∃ x, y.q.per.getD j 0 = x := ⟨_, rfl⟩
        rw [hx] at HS hcp
        have HCP := Lib.hid hcp
        have TF := HFT.out x wr GZ.out
        have hki : (j : Int) < (y.n : Int) := by omega
        have hkd : decide ((j : Int) < (y.n : Int)) = true := decide_eq_true hki
        have hkd2 : decide (j < y.n) = true := decide_eq_true hjn
        have hwr2 : wrap64 ((j : Int) + 1) = (j : Int) + 1 := wrap_in (by omega)
        rw [eyA] at HKB
        have x2 := HKB.out wr HLR.out.g
        have xp := HCP.out wr HLR.out.g
        obtain ⟨fb, hfb⟩ : ∃ f, fitB LQ bg x = f := ⟨_, rfl⟩
        rw [hfb] at HS TF
        have HTF := Lib.hid TF
        clear hcp hx TF hfb eyA
        cases fb with
        | false =>
          have HS2 := Lib.hid (show MS (j + 1) = MS j by rw [HS.out, if_neg (by decide), List.append_nil])
          go_wp2_with (go_at_call 101; (with_reducible refine (HTF.out).mono ?_); rintro e V4 ⟨rfl, hg⟩; have G4 := Lib.hid hg; clear hg)
          go_roundw
          case rel => exact ⟨j + 1, hs, by omega, rfl, HLR.out.ext G4.out, by rw [HS2.out]; exact HHS.out⟩
          case measure => simp only [intOf]; omega
        | true =>
          have HS2 := Lib.hid (show MS (j + 1) = MS j ++ moreK LQ k (bg ++ [x]) by rw [HS.out, if_pos rfl])
          go_upto_region 9 with (go_at_call 101; (with_reducible refine (HTF.out).mono ?_); rintro e V4 ⟨rfl, hg⟩; have G4 := Lib.hid hg; clear hg)
          have HLR4 := Lib.hid (HLR.out.ext G4.out)
          have GZ4 := Lib.hid (GZ.out.trans (G4.out.mono GZ.out.size))
          clear x2 xp
          have x2 := HKB.out V4 HLR4.out.g
          have xp := HCP.out V4 HLR4.out.g
          have HA7 := Lib.hid (HBI.out.below GZ4.out)
          have HLL := Lib.hid (show bg.length + 2 ≤ 1000000 ∧ bg.length = m by have := HMB.out; omega)
          have HKPn := Lib.hid (fun X (g : Below V4.heap.size V4 X) => (⟨HKB.out X (HLR4.out.g.trans (g.mono HLR4.out.g.size)), HCP.out X (HLR4.out.g.trans (g.mono HLR4.out.g.size))⟩ : X.cell? ⟨bx, 2, none⟩ = some (.slice (some ⟨b5, o5, none⟩) y.n y.c) ∧ X.cell? ⟨b5, o5 + j, none⟩ = some (.int .i64 x)))
          go_cut [8] from 38 to 47 (fun s wx => ∃ A9 c9, s = .slice A9 (m + 1) c9 ∧ Ints wx A9 (m + 1) (bg ++ [x]) ∧ Below V4.heap.size V4 wx)
          case first =>
            have GE1 := Lib.hid (show Below V4.heap.size V4 (V4.alloc (.cells #[] 3)).drew from (one_more _ _).drew)
            have GE2 := Lib.hid (show Below V4.heap.size V4 ((V4.alloc (.cells #[] 3)).alloc (.cells #[.int .i64 x] 3)).drew from (two_more _ _ _).drew)
            have GE3 := Lib.hid (show Below V4.heap.size V4 ((V4.alloc (.cells #[.int .i64 x] 3)).alloc (.cells #[] 3)).drew from (two_more _ _ _).drew)
            have OE1 := Lib.hid (show OwnL icells 1 3 (V4.alloc (.cells #[] 3)).drew V4.heap.size (.slice (some ⟨V4.heap.size, 0, none⟩) 0 0) [] from own_empty icells_len V4 (Nat.le_refl _))
            have OE2 := Lib.hid (show OwnL icells 1 3 ((V4.alloc (.cells #[] 3)).alloc (.cells #[.int .i64 x] 3)).drew V4.heap.size (.slice (some ⟨V4.heap.size, 0, none⟩) 0 0) [] from OwnL.ext (w := V4.alloc (.cells #[] 3)) (own_empty icells_len V4 (Nat.le_refl _)) ((one_more (V4.alloc (.cells #[] 3)) (.cells #[.int .i64 x] 3)).drew))
            have OE3 := Lib.hid (show OwnL icells 1 3 ((V4.alloc (.cells #[.int .i64 x] 3)).alloc (.cells #[] 3)).drew V4.heap.size (.slice (some ⟨V4.heap.size + 1, 0, none⟩) 0 0) [] by
              have := own_empty (f := icells) (size := 1) (e := 3) icells_len (V4.alloc (.cells #[.int .i64 x] 3)) (base := V4.heap.size) (by rw [World.size_alloc]; omega)
              rw [World.size_alloc] at this
              exact this)
            have BX2 := Lib.hid (show Blk ((V4.alloc (.cells #[] 3)).alloc (.cells #[.int .i64 x] 3)).drew (V4.heap.size + 1) 3 #[.int .i64 x] from blk_second _ _ _ _)
            have BX3 := Lib.hid (show Blk ((V4.alloc (.cells #[.int .i64 x] 3)).alloc (.cells #[] 3)).drew V4.heap.size 3 #[.int .i64 x] from (Blk.new V4 3 #[.int .i64 x]).alloc _)
            obtain ⟨base, hbase⟩ : ∃ base, V4.heap.size = base := ⟨_, rfl⟩
            rw [hbase] at OE1 OE2 OE3 BX2 BX3
            have HBS := Lib.hid hbase
            go_region_held3 (fun X => X.cell? ⟨bx, 2, none⟩ = some (.slice (some ⟨b5, o5, none⟩) y.n y.c) ∧ X.cell? ⟨b5, o5 + j, none⟩ = some (.int .i64 x))
              (with_reducible refine HKPn.out _ ?_; repeat' first | (with_reducible exact Below.refl _ _) | (with_reducible exact HGA.out) | (with_reducible exact HGB.out) | (with_reducible refine Below.drew ?_) | (with_reducible refine Below.allo7 ?_ (by first | (simp; done) | (simp; omega) | omega) _))
              (first
                | (refine step_app kdI (by rfl) _ _ (by rfl) base _ [] (by rfl) OE1.out B m d bg (by rfl) (HA7.out.below GE1.out) (by have := HLL.out; simp; omega) (by have := GE1.out.size; have := HBS.out; omega) ?_; intro v1 w1 ho1 hg1 hat1; have hbw := OE1.out.below hg1 (Nat.le_refl base) (by have := GE1.out.size; have := HBS.out; omega); have HGA := Lib.hid (show Below V4.heap.size V4 w1 from GE1.out.trans (hbw.mono (by have := HBS.out; omega))); have HO1 := Lib.hid (show OwnL icells 1 3 w1 base v1 bg by simpa using ho1); have hsa : base ≤ w1.heap.size := (by have := HGA.out.size; have := HBS.out; omega); have HSA := Lib.hid hsa; clear hbw ho1 hg1 hat1)
                | (refine step_app kdI (by rfl) _ _ (by rfl) base _ [] (by rfl) OE2.out B m d bg (by rfl) (HA7.out.below GE2.out) (by have := HLL.out; simp; omega) (by have := GE2.out.size; have := HBS.out; omega) ?_; intro v1 w1 ho1 hg1 hat1; have hbw := OE2.out.below hg1 (Nat.le_refl base) (by have := GE2.out.size; have := HBS.out; omega); have HGA := Lib.hid (show Below V4.heap.size V4 w1 from GE2.out.trans (hbw.mono (by have := HBS.out; omega))); have HO1 := Lib.hid (show OwnL icells 1 3 w1 base v1 bg by simpa using ho1); have hsa : base ≤ w1.heap.size := (by have := HGA.out.size; have := HBS.out; omega); have HSA := Lib.hid hsa; have HBX := Lib.hid (show Blk w1 (base + 1) 3 _ from (hg1.block (base + 1) BX2.out.lt (by simp [Value.ownBlock])).trans BX2.out); clear hbw ho1 hg1 hat1)
                | (refine step_app kdI (by rfl) _ _ (by rfl) base _ [] (by rfl) OE3.out B m d bg (by rfl) (HA7.out.below GE3.out) (by have := HLL.out; simp; omega) (by have := GE3.out.size; have := HBS.out; omega) ?_; intro v1 w1 ho1 hg1 hat1; have hbw := OE3.out.below hg1 (Nat.le_refl base) (by have := GE3.out.size; have := HBS.out; omega); have HGA := Lib.hid (show Below V4.heap.size V4 w1 from GE3.out.trans (hbw.mono (by have := HBS.out; omega))); have HO1 := Lib.hid (show OwnL icells 1 3 w1 base v1 bg by simpa using ho1); have hsa : base ≤ w1.heap.size := (by have := HGA.out.size; have := HBS.out; omega); have HSA := Lib.hid hsa; have HBX := Lib.hid (show Blk w1 base 3 _ from (hg1.block base BX3.out.lt (by simp [Value.ownBlock])).trans BX3.out); clear hbw ho1 hg1 hat1)
                | (refine step_app kdI (by rfl) _ _ (by rfl) base v1 bg (by rfl) (HO1.out.ext (one_more w1 (.cells #[.int .i64 x] 3))) _ _ _ [x] (by rfl) (one_int (Blk.new w1 3 _)) (by have := HLL.out; omega) (by have := HSA.out; rw [World.size_alloc]; omega) ?_; intro v2 w2 ho2 hg2 hat2; have hbw := (HO1.out.ext (one_more w1 (.cells #[.int .i64 x] 3))).below hg2 (Nat.le_refl base) (by have := HSA.out; rw [World.size_alloc]; omega); have HGB := Lib.hid (show Below V4.heap.size V4 w2 from (HGA.out.trans ((one_more w1 _).mono (by have := HSA.out; have := HBS.out; omega))).trans (hbw.mono (by have := HBS.out; omega))); have HO2 := Lib.hid ho2; have hsb : base ≤ w2.heap.size := (by have := HGB.out.size; have := HBS.out; omega); have HSB := Lib.hid hsb; clear hbw ho2 hg2 hat2)
                | (refine step_app kdI (by rfl) _ _ (by rfl) base v1 bg (by rfl) HO1.out _ _ _ [x] (by rfl) (one_int HBX.out) (by have := HLL.out; omega) (by have := HSA.out; omega) ?_; intro v2 w2 ho2 hg2 hat2; have hbw := HO1.out.below hg2 (Nat.le_refl base) (by have := HSA.out; omega); have HGB := Lib.hid (show Below V4.heap.size V4 w2 from HGA.out.trans (hbw.mono (by have := HBS.out; omega))); have HO2 := Lib.hid ho2; have hsb : base ≤ w2.heap.size := (by have := HGB.out.size; have := HBS.out; omega); have HSB := Lib.hid hsb; clear hbw ho2 hg2 hat2))
            all_goals (try go_wp2_with fail)
            all_goals (
              obtain ⟨A9, c9, e9, k1, k2, har, -⟩ := OwnL.arr kdI HO2.out
              rw [List.length_append, List.length_singleton, HLL.out.2] at har e9
              subst e9
              go_meet
              exact ⟨A9, c9, rfl, har, HGB.out⟩)
          case rest =>
            obtain ⟨A9, c9, rfl, har, hg9⟩ := hcut
            rename_i hK9
            refine hK9 _ _ ?_
            clear hK9 x2 xp
            have HG9 := Lib.hid hg9
            have HLR9 := Lib.hid (HLR4.out.ext hg9)
            have GZ9 := Lib.hid (GZ4.out.trans (hg9.mono GZ4.out.size))
            have HSB2 := Lib.hid (show (moreK LQ k (bg ++ [x])).length ≤ 2000 ∧ hs.length + (moreK LQ k (bg ++ [x])).length ≤ 2000 by
              have h1 := HLB2.out
              rw [HS2.out, List.length_append, ← HHS.out, List.length_map] at h1
              omega)
            have TM := Lib.hid (HIH.out A9 (m + 1) c9 (bg ++ [x]) wc (HA.out.below GZ9.out) har (by omega) HSB2.out.1)
            obtain ⟨ML, hML⟩ : ∃ L, moreK LQ k (bg ++ [x]) = L := ⟨_, rfl⟩
            rw [hML] at TM HSB2 HS2
            clear har hg9 hML
            go_wp2_with (first
              | (go_at_call 79; (with_reducible refine (TM.out).mono ?_); rintro e W5 ⟨v5, hs5, rfl, hl5, hm5⟩; obtain ⟨A6, c6, e6, -, -, ha6⟩ := hl5.arr; subst e6; have HL5 := Lib.hid hl5; have HM5 := Lib.hid hm5; have HA6 := Lib.hid ha6; have HLX := Lib.hid (HLR9.out.ext hl5.g); clear hl5 hm5 ha6)
              | (at_builtin; go_loud ((refine wpList_app kdH (by rfl) _ _ (by rfl) W1.heap.size _ hs (by rfl) HLX.out.o A6 hs5.length c6 hs5 (by rfl) HA6.out (by have h1 := HSB2.out.2; rw [← HM5.out, List.length_map] at h1; omega) HLX.out.g.size ?_); intro v6 w6 ho hgr hz; have HL6 := Lib.hid (HLR4.out.app HG9.out HL5.out ho hgr hz); clear ho hgr hz)))
            go_roundw
            case rel => exact ⟨j + 1, _, by omega, by go_num, HL6.out, by rw [List.map_append, HHS.out, HM5.out, HS2.out]⟩
            case measure => simp [intOf]; omega
      · obtain rfl : j = y.n := by omega
        have x2 := HKB.out wr HLR.out.g
        go_wp2_with fail
        go_ret
        exact ⟨_, hs, rfl, HLR.out.low G1.out, by rw [HHS.out, HFIN.out]⟩
end Go.Proofs.YtehhlgdkhecacaaGreat
namespace Go.Proofs.YtehhlgdkhecacaaGreat
open Go.RowKit Go.Shelf
theorem refReads_any (A : Option Addr) (n c : Nat) (l : List Pf) (w : World) (ha : Prf w A n l) (hn : n ≤ 60) (h4 : ∀ p ∈ l, p.n ≤ 4) (hL : (reads (l.map Pf.q)).length ≤ 2000) :
    Calls Tryz.prog 79 #[.slice A n c, .slice none 0 0] w (MorEnd (reads (l.map Pf.q)) w) := by
  have e : reads (l.map Pf.q) = moreK (l.map Pf.q) n [] := by unfold reads; rw [List.length_map, ha.len]
  rw [e] at hL ⊢
  exact refMore_any A n c l hn h4 n none 0 0 [] w ha Arr.nil_ (by omega) hL
end Go.Proofs.YtehhlgdkhecacaaGreat
namespace Go.Proofs.YtehhlgdkhecacaaGreat
open Go.RowKit Go.Shelf
theorem map_pf2 (l : List Pf) (i : Nat) : (l.map Pf.q).getD i q0 = (l.getD i p0).q := by
  by_cases h : i < l.length
  · exact map_pf h
  · rw [List.getD_eq_getElem?_getD, List.getElem?_eq_none (by rw [List.length_map]; omega), List.getD_eq_getElem?_getD, List.getElem?_eq_none (by omega)]; rfl
end Go.Proofs.YtehhlgdkhecacaaGreat
namespace Go.Proofs.YtehhlgdkhecacaaGreat
open Go.RowKit Go.Shelf
theorem Blk.exb {w w' : World} {g B : Nat} {t : TypeId} {cs : Array Value} (h : Blk w g t cs) (k : Below B w w') (hg : g < B) : Blk w' g t cs := (k.block g hg).trans h
theorem Lf.nil {W : World} {X : Nat} (hb : Blk W X 106 #[.slice none 0 0, .slice none 0 0]) (hs : X ≤ W.heap.size) : Lf W W X (.slice none 0 0) (.slice none 0 0) [] [] :=
  ⟨(Below.refl W.heap.size W).mono hs, hb, OwnL.nil _ _, OwnL.nil _ _⟩
theorem Lf.bx1 {W2 W W' : World} {X : Nat} {v u : Value} {ts : List Tt} {bs : List Bool} (h : Lf W2 W X v u ts bs) (hg : W.grownBy W' v.ownBlock) : Blk W' X 106 #[v, u] := (hg.block X h.bx.lt (fun e => h.ne.1 e.symm)).trans h.bx
theorem Lf.bx2 {W2 W W' : World} {X : Nat} {v u : Value} {ts : List Tt} {bs : List Bool} (h : Lf W2 W X v u ts bs) (hg : W.grownBy W' u.ownBlock) : Blk W' X 106 #[v, u] := (hg.block X h.bx.lt (fun e => h.ne.2 e.symm)).trans h.bx
theorem one_t {w : World} {g : Nat} {x : Tt} (h : Blk w g 67 (tb x)) : Arr tcells 3 w (some ⟨g, 0, none⟩) 1 [x] := Blk.arr1 (f := tcells) (size := 3) (x := x) h
theorem one_b {w : World} {g : Nat} {x : Bool} (h : Blk w g 4 #[.bool x]) : Arr bcells 1 w (some ⟨g, 0, none⟩) 1 [x] := Blk.arr1 (f := bcells) (size := 1) (x := x) h
theorem par_ge {q : Qf} (h : isQf q = true) : 0 ≤ q.par := by
  rw [isQf_ref] at h
  simp only [Bool.and_eq_true] at h
  have h1 := h.2.2.1
  unfold wherB at h1
  split at h1
  · simp only [Bool.and_eq_true, decide_eq_true_eq] at h1; omega
  · unfold rng at h1; simp only [Bool.and_eq_true, decide_eq_true_eq] at h1; omega
/-- What titlesOf returns. -/
def LifEnd (c : List Qf) (r : List Int) (n : Nat) (w : World) (e : Ending) (w' : World) : Prop :=
  ∃ TA tc HB hc, e = .returned (.agg #[.slice TA n tc, .slice HB n hc]) ∧ Arr tcells 3 w' TA n (tsL c r) ∧ Arr bcells 1 w' HB n (bsL c r) ∧ Below w.heap.size w w'
abbrev S2 (V : World) (R : Nat) (v u : Value) : World := (V.setCell ⟨R, 0, none⟩ v).setCell ⟨R, 1, none⟩ u
theorem lif_end {c : List Qf} {r : List Int} {n X R : Nat} {w W2 V : World} {v u : Value} {ts : List Tt} {bs : List Bool} (h : Lf W2 V X v u ts bs) (g2 : Below w.heap.size w W2) (hR : w.heap.size ≤ R) (hRX : R < X) (hwX : w.heap.size ≤ X) (ht : ts = tsL c r) (hb : bs = bsL c r) (hn : c.length = n) :
    ∃ TA tc HB hc, v = .slice TA n tc ∧ u = .slice HB n hc ∧ LifEnd c r n w (.returned (.agg #[.slice TA n tc, .slice HB n hc])) (S2 V R v u) := by
  obtain ⟨TA, tc, e1, -, -, -, -⟩ := OwnL.arr kdT h.o1
  obtain ⟨HB, hc, e2, -, -, -, -⟩ := OwnL.arr kdBo h.o2
  have l1 : ts.length = n := by rw [ht]; unfold tsL; simpa using hn
  have l2 : bs.length = n := by rw [hb]; unfold bsL; simpa using hn
  rw [l1] at e1
  rw [l2] at e2
  have hne : ∀ (v : Value) (k : Nat), (v.ownBlock = some k → X + 1 ≤ k) → k = R → v.ownBlock ≠ some R := fun v k hk e e2 => by subst e; have := hk e2; omega
  have n1 : v.ownBlock ≠ some R := fun e => by have := (own_block h.o1 e).1; omega
  have n2 : u.ownBlock ≠ some R := fun e => by have := (own_block h.o2 e).1; omega
  have o1 := (h.o1.off n1 (o := 0) v).off n1 (o := 1) u
  have o2 := (h.o2.off n2 (o := 0) v).off n2 (o := 1) u
  obtain ⟨TA', tc', e3, -, -, a1, -⟩ := OwnL.arr kdT o1
  obtain ⟨HB', hc', e4, -, -, a2, -⟩ := OwnL.arr kdBo o2
  rw [l1] at e3 a1
  rw [l2] at e4 a2
  obtain ⟨rfl, -⟩ : TA' = TA ∧ True := by rw [e1] at e3; simp only [Value.slice.injEq] at e3; exact ⟨e3.1.symm, trivial⟩
  obtain ⟨rfl, -⟩ : HB' = HB ∧ True := by rw [e2] at e4; simp only [Value.slice.injEq] at e4; exact ⟨e4.1.symm, trivial⟩
  refine ⟨_, tc, _, hc, e1, e2, _, tc, _, hc, rfl, by rw [← ht]; exact a1, by rw [← hb]; exact a2, ?_⟩
  exact ((g2.trans (h.g.mono hwX)).setCell (p := ⟨R, 0, none⟩) hR _).setCell (p := ⟨R, 1, none⟩) hR _
theorem lif_end2 {c : List Qf} {r : List Int} {n tc hc X R : Nat} {TA HB : Option Addr} {w W2 V : World} {ts : List Tt} {bs : List Bool} (h : Lf W2 V X (.slice TA n tc) (.slice HB n hc) ts bs) (g2 : Below w.heap.size w W2) (hR : w.heap.size ≤ R) (hRX : R < X) (hwX : w.heap.size ≤ X) (ht : ts = tsL c r) (hb : bs = bsL c r) (hn : c.length = n) :
    LifEnd c r n w (.returned (.agg #[.slice TA n tc, .slice HB n hc])) (S2 V R (.slice TA n tc) (.slice HB n hc)) := by
  obtain ⟨TA', tc', HB', hc', e1, e2, h⟩ := lif_end h g2 hR hRX hwX ht hb hn
  cases e1
  cases e2
  exact h
theorem Lf.arrs {n tc hc X : Nat} {TA HB : Option Addr} {W2 V : World} {ts : List Tt} {bs : List Bool} (h : Lf W2 V X (.slice TA n tc) (.slice HB n hc) ts bs) (l1 : ts.length = n) (l2 : bs.length = n) : Arr tcells 3 V TA n ts ∧ Arr bcells 1 V HB n bs := by
  obtain ⟨A1, c1, e1, -, -, a1, -⟩ := OwnL.arr kdT h.o1
  obtain ⟨A2, c2, e2, -, -, a2, -⟩ := OwnL.arr kdBo h.o2
  rw [l1] at e1 a1
  rw [l2] at e2 a2
  cases e1
  cases e2
  exact ⟨a1, a2⟩
theorem Lf.adr {n tc hc X : Nat} {TA HB : Option Addr} {W2 V : World} {ts : List Tt} {bs : List Bool} (h : Lf W2 V X (.slice TA n tc) (.slice HB n hc) ts bs) (l1 : ts.length = n) (l2 : bs.length = n) (h0 : 0 < n) : ∃ gT gH, TA = some ⟨gT, 0, none⟩ ∧ HB = some ⟨gH, 0, none⟩ ∧ X < gT ∧ X < gH ∧ gT ≠ gH := by
  obtain ⟨A1, c1, e1, -, -, a1, k1⟩ := OwnL.arr kdT h.o1
  obtain ⟨A2, c2, e2, -, -, a2, k2⟩ := OwnL.arr kdBo h.o2
  rw [l1] at e1 a1
  rw [l2] at e2 a2
  have hd := own_diff h.o1 h.o2 (by decide)
  cases e1
  cases e2
  obtain ⟨b, o, rfl, -⟩ := a1.2 h0
  obtain ⟨b2, o2, rfl, -⟩ := a2.2 h0
  obtain ⟨p1, p2, rfl⟩ := k1 b o rfl
  obtain ⟨q1, q2, rfl⟩ := k2 b2 o2 rfl
  exact ⟨b, b2, rfl, rfl, by omega, by omega, fun e => hd b p1 (by rw [e]; exact q1)⟩
theorem make_bools (W : World) (n : Nat) (hn : n ≤ 1000) : (Instr.makeSlice 104 (.int .i64 (n : Int)) (.int .i64 (n : Int))).run Tryz.prog W = .ok (.slice (some ⟨W.heap.size, 0, none⟩) n n) (W.alloc (.cells (Array.replicate n (Value.bool false)) 4)) := by
  obtain ⟨i0, hi0, hz0, hz1, hz2⟩ := info_parts info4
  have hmk := run_make (P := Tryz.prog) W 104 4 i0 (.bool false) kdBo.ht hi0 hz0 .i64 .i64 n n (by omega) (Int.le_refl _) (by rw [hz2]; omega) (by omega)
  simp only [Int.toNat_natCast, hz1] at hmk
  rw [made_false, show ((List.replicate n false).map Value.bool).toArray = Array.replicate n (Value.bool false) by simp] at hmk
  exact hmk
section
variable {W2 W : World} {X g n c : Nat} {v u : Value} {ts : List Tt} {bs : List Bool}
theorem Lf.setT (h : Lf W2 W X (.slice (some ⟨g, 0, none⟩) n c) u ts bs) {j : Nat} {t : Tt} (ht : ts[j]? = some t) (p : Int) : Lf W2 (W.setCell ⟨g, j * 3 + 1, none⟩ (.int .i64 p)) X (.slice (some ⟨g, 0, none⟩) n c) u (ts.set j ⟨t.day, p, t.src⟩) bs := by
  have hg : X + 1 ≤ g := (own_block h.o1 (show (Value.slice (some ⟨g, 0, none⟩) n c).ownBlock = some g from rfl)).1
  exact ⟨h.g.setCell (p := ⟨g, j * 3 + 1, none⟩) (show X ≤ g by omega) _, h.bx.far (p := ⟨g, j * 3 + 1, none⟩) (show X ≠ g by omega) _, h.o1.set1 tcells_len ht (x := ⟨t.day, p, t.src⟩) rfl (by decide), h.o2.off (own_diff h.o1 h.o2 (by decide) g rfl) _⟩
theorem Lf.setB (h : Lf W2 W X v (.slice (some ⟨g, 0, none⟩) n c) ts bs) {j : Nat} {b0 : Bool} (hb : bs[j]? = some b0) (b : Bool) : Lf W2 (W.setCell ⟨g, j, none⟩ (.bool b)) X v (.slice (some ⟨g, 0, none⟩) n c) ts (bs.set j b) := by
  have hg : X + 1 ≤ g := (own_block h.o2 (show (Value.slice (some ⟨g, 0, none⟩) n c).ownBlock = some g from rfl)).1
  have h2 := h.o2.set1 bcells_len hb (x := b) (j := 0) (u := .bool b) rfl (by decide)
  rw [Nat.mul_one, Nat.add_zero] at h2
  exact ⟨h.g.setCell (p := ⟨g, j, none⟩) (show X ≤ g by omega) _, h.bx.far (p := ⟨g, j, none⟩) (show X ≠ g by omega) _, h.o1.off (fun e => own_diff h.o1 h.o2 (by decide) g e rfl) _, h2⟩
theorem Lf.offD (h : Lf W2 W X v u ts bs) {D o : Nat} (hX : X < D) (h1 : v.ownBlock ≠ some D) (h2 : u.ownBlock ≠ some D) (x : Value) : Lf W2 (W.setCell ⟨D, o, none⟩ x) X v u ts bs :=
  ⟨h.g.setCell (p := ⟨D, o, none⟩) (show X ≤ D by omega) _, h.bx.far (p := ⟨D, o, none⟩) (show X ≠ D by omega) _, h.o1.off h1 _, h.o2.off h2 _⟩
end
/-- Some bools in a block of their own. -/
def Bls (W : World) (D : Nat) (ds : List Bool) : Prop := Blk W D 4 (ds.map Value.bool).toArray
theorem Bls.cell {W : World} {D : Nat} {ds : List Bool} (h : Bls W D ds) {j : Nat} (hj : j < ds.length) : W.cell? ⟨D, j, none⟩ = some (.bool (ds.getD j false)) := by
  unfold Bls at h
  rw [Blk.cell h j, List.getElem?_toArray, List.getElem?_map, List.getD_eq_getElem?_getD, List.getElem?_eq_getElem hj]; rfl
theorem Bls.set {W : World} {D : Nat} {ds : List Bool} (h : Bls W D ds) (j : Nat) (b : Bool) : Bls (W.setCell ⟨D, j, none⟩ (.bool b)) D (ds.set j b) := by
  unfold Bls at h ⊢
  have := h.set_ j (.bool b)
  rwa [List.setIfInBounds_toArray, ← List.map_set] at this
set_option maxRecDepth 100000 in
set_option maxHeartbeats 16000000 in
theorem refTitlesOf_any (A : Option Addr) (n c : Nat) (l : List Pf) (B : Option Addr) (d : Nat) (rd : List Int) (w : World) (ha : Prf w A n l) (hn : n ≤ 60) (hb : Ints w B n rd) (hq : ∀ p ∈ l, isQf p.q = true) (hs : ((l.map Pf.q).map Qf.src).Nodup) :
    Calls Tryz.prog 88 #[.slice A n c, .slice B n d] w (LifEnd (l.map Pf.q) rd n w) := by
  obtain ⟨R, hR⟩ : ∃ R, w.heap.size = R := ⟨_, rfl⟩
  obtain ⟨W1, hW1⟩ : ∃ X, w.alloc (.cells #[.slice none 0 0, .slice none 0 0] 106) = X := ⟨_, rfl⟩
  have g1 : Below w.heap.size w W1 := by rw [← hW1]; exact one_more _ _
  have s1 : W1.heap.size = R + 1 := by rw [← hW1, ← hR]; simp
  have bb1 : Blk W1 R 106 #[.slice none 0 0, .slice none 0 0] := by rw [← hW1, ← hR]; exact Blk.new _ _ _
  obtain ⟨X, hX⟩ : ∃ X, R + 1 = X := ⟨_, rfl⟩
  obtain ⟨W2, hW2⟩ : ∃ X, W1.alloc (.cells #[.slice none 0 0, .slice none 0 0] 106) = X := ⟨_, rfl⟩
  have g2 : Below W1.heap.size W1 W2 := by rw [← hW2]; exact one_more _ _
  have s2 : W2.heap.size = X + 1 := by rw [← hW2, ← hX]; simp [s1]
  have bb2 : Blk W2 X 106 #[.slice none 0 0, .slice none 0 0] := by rw [← hW2, ← hX, ← s1]; exact Blk.new _ _ _
  have G2 := Lib.hid (extTrans g1 g2)
  have BR := Lib.hid (bb1.ext g2)
  have HL0 := Lib.hid (Lf.nil bb2 (by omega))
  have HW1 := Lib.hid hW1
  have HW2 := Lib.hid hW2
  have HRR := Lib.hid hR
  have HS1 := Lib.hid (s1.trans hX)
  have HX := Lib.hid hX
  have HS2 := Lib.hid s2
  have HA := Lib.hid ha
  have HBI := Lib.hid hb
  have HWX := Lib.hid (show w.heap.size ≤ X by omega)
  have HQ := Lib.hid hq
  have HLN := Lib.hid ha.len
  have HLQL := Lib.hid (show (l.map Pf.q).length = n by rw [List.length_map]; exact ha.len)
  have HT := Lib.hid (fun (i : Nat) (hi : i < n) (W : World) (g : Below w.heap.size w W) => refTitle_any A n c l B d rd i W (HA.out.below g) (by omega) (HBI.out.below g) hi hq)
  have HNX := Lib.hid hs
  have HMP := Lib.hid (fun k => map_pf2 l k)
  obtain ⟨LQ, hLQ⟩ : ∃ x, l.map Pf.q = x := ⟨_, rfl⟩
  rw [hLQ] at HLQL HT HNX HMP ⊢
  have HDAYS := Lib.hid (show Days LQ from fun i hi => by
    rw [HMP.out]
    exact (day_bd (hq _ (mem_pf (by rw [ha.len]; rw [HLQL.out] at hi; exact hi)))).1)
  have HPAR := Lib.hid (show ∀ i, i < LQ.length → 0 ≤ (LQ.getD i q0).par from fun i hi => by
    rw [HMP.out]
    exact par_ge (hq _ (mem_pf (by rw [ha.len]; rw [HLQL.out] at hi; exact hi))))
  clear ha hb hq hs hR hX hW1 hW2 g1 g2 s1 s2 bb1 bb2 hLQ
  go_enter Tryz.func88, Tryz.ntmps88
  go_upto_region 1 with fail
  rw [HW1.out, HRR.out]
  go_upto_region 2 with fail
  rw [HW2.out, HS1.out]
  go_wp2_with fail
  go_loopw [6] (fun i wr => ∃ (k : Nat) (v u : Value), k ≤ n ∧ i = .int .i64 k ∧ Lf W2 wr X v u (tsK LQ rd k) (bsK LQ rd k)) (fun i _ => n - (intOf i).toNat)
  case atStart => exact ⟨0, _, _, Nat.zero_le _, rfl, HL0.out⟩
  case round =>
    obtain ⟨k, v, u, hk, rfl, hlf⟩ := hrel
    have HLF := Lib.hid hlf
    clear hlf
    by_cases hkn : k < n
    · have TT := HT.out k hkn wr
      have HTS := Lib.hid (tsK_succ LQ rd k)
      have HBS := Lib.hid (bsK_succ LQ rd k)
      obtain ⟨tw, htw⟩ : ∃ t, titW LQ rd k = t := ⟨_, rfl⟩
      rw [htw] at TT HTS HBS
      obtain ⟨t, h⟩ := tw
      have HLL := Lib.hid (show (tsK LQ rd k).length ≤ 60 ∧ (bsK LQ rd k).length ≤ 60 by unfold tsK bsK; rw [List.length_map, List.length_map, List.length_range]; omega)
      obtain ⟨ts, hts⟩ : ∃ x, tsK LQ rd k = x := ⟨_, rfl⟩
      obtain ⟨bs, hbs⟩ : ∃ x, bsK LQ rd k = x := ⟨_, rfl⟩
      rw [hts] at HTS HLF HLL
      rw [hbs] at HBS HLF HLL
      have GW := Lib.hid (G2.out.trans (HLF.out.g.mono HWX.out))
      have TT := Lib.hid (show Calls Tryz.prog 133 #[.slice A n c, .slice B n d, .int .i64 k] wr fun e w' => e = .returned (.tuple #[.agg #[.int .i64 t.day, .int .i64 t.par, .int .i64 t.src], .bool h]) ∧ Below wr.heap.size wr w' from TT GW.out)
      have hwr2 : wrap64 ((k : Int) + 1) = (k : Int) + 1 := wrap_in (by omega)
      have hki : (k : Int) < (n : Int) := by omega
      clear htw hts hbs
      go_upto_region 6 with (go_at_call 133; (with_reducible refine (TT.out).mono ?_); rintro e V1 ⟨rfl, hg⟩; have G1 := Lib.hid hg; clear hg)
      obtain ⟨gt, hgt⟩ : ∃ x, V1.heap.size = x := ⟨_, rfl⟩
      obtain ⟨V2, hV2⟩ : ∃ x, V1.alloc (.cells #[.int .i64 t.day, .int .i64 t.par, .int .i64 t.src] 67) = x := ⟨_, rfl⟩
      have GV2 := Lib.hid (show Below V1.heap.size V1 V2 by rw [← hV2]; exact one_more _ _)
      have BT := Lib.hid (show Blk V2 gt 67 #[.int .i64 t.day, .int .i64 t.par, .int .i64 t.src] by rw [← hV2, ← hgt]; exact Blk.new _ _ _)
      have HL2 := Lib.hid ((HLF.out.ext G1.out).ext GV2.out)
      rw [hV2, hgt]
      clear hV2 hgt
      have x0 := BT.out.cell 0
      have x1 := BT.out.cell 1
      have x2 := BT.out.cell 2
      have k0 := HL2.out.bx.cell 0
      have GX := Lib.hid (one_more V2 (.cells #[.int .i64 t.day, .int .i64 t.par, .int .i64 t.src] 67))
      have IX := Lib.hid (one_t (x := t) (Blk.new V2 67 #[.int .i64 t.day, .int .i64 t.par, .int .i64 t.src]))
      have HLX := Lib.hid (HL2.out.ext GX.out)
      go_upto_region 7 with (at_builtin; go_loud ((refine wpList_app kdT (by rfl) _ _ (by rfl) (X + 1) _ ts (by rfl) HLX.out.o1 _ 1 1 [t] (by rfl) IX.out (by have := HLL.out; omega) (Nat.succ_le_of_lt HLX.out.bx.lt) ?_); intro v6 w6 ho hgr hz; obtain ⟨A6, c6, e6, -, -, -, -⟩ := OwnL.arr kdT ho; obtain ⟨m6, hm6⟩ : ∃ q, (ts ++ [t]).length = q := ⟨_, rfl⟩; rw [hm6] at e6; subst e6; have HL6 := Lib.hid (HLX.out.app1 ho hgr); have BY := Lib.hid (HLX.out.bx1 hgr); clear ho hgr hz hm6; have s0 := BY.out.cell 0; have sf := BY.out.frozen 0))
      obtain ⟨Y6, hY6⟩ : ∃ x, w6.setCell ⟨X, 0, none⟩ (.slice A6 m6 c6) = x := ⟨_, rfl⟩
      rw [hY6] at HL6 ⊢
      clear hY6 x0 x1 x2 k0 s0 sf
      have k1 := HL6.out.bx.cell 1
      have GX2 := Lib.hid (one_more Y6 (.cells #[.bool h] 4))
      have IX2 := Lib.hid (one_b (x := h) (Blk.new Y6 4 #[.bool h]))
      have HLX2 := Lib.hid (HL6.out.ext GX2.out)
      go_wp2_with (at_builtin; go_loud ((refine wpList_app kdBo (by rfl) _ _ (by rfl) (X + 1) _ bs (by rfl) HLX2.out.o2 _ 1 1 [h] (by rfl) IX2.out (by have := HLL.out; omega) (Nat.succ_le_of_lt HLX2.out.bx.lt) ?_); intro v7 w7 ho hgr hz; obtain ⟨A7, c7, e7, -, -, -, -⟩ := OwnL.arr kdBo ho; obtain ⟨m7, hm7⟩ : ∃ q, (bs ++ [h]).length = q := ⟨_, rfl⟩; rw [hm7] at e7; subst e7; have HL7 := Lib.hid (HLX2.out.app2 ho hgr); have BY := Lib.hid (HLX2.out.bx2 hgr); clear ho hgr hz hm7; have s0 := BY.out.cell 1; have sf := BY.out.frozen 1))
      go_roundw
      case rel => exact ⟨k + 1, _, _, by omega, by go_num, by rw [HTS.out, HBS.out]; exact HL7.out⟩
      case measure => simp [intOf]; omega
    · obtain rfl : k = n := by omega
      rw [← HLQL.out, (tsK_all LQ rd).1, (tsK_all LQ rd).2, HLQL.out] at HLF
      have hmk := make_bools wr k (by omega)
      go_upto_region 9 with fail
      obtain ⟨D, hD⟩ : ∃ x, wr.heap.size = x := ⟨_, rfl⟩
      obtain ⟨W8, hW8⟩ : ∃ x, wr.alloc (.cells (Array.replicate k (Value.bool false)) 4) = x := ⟨_, rfl⟩
      have G8 := Lib.hid (show Below wr.heap.size wr W8 by rw [← hW8]; exact one_more _ _)
      have HD8 := Lib.hid (show Bls W8 D (List.replicate k false) by unfold Bls; rw [show ((List.replicate k false).map Value.bool).toArray = Array.replicate k (Value.bool false) by simp, ← hW8, ← hD]; exact Blk.new _ _ _)
      have HL8 := Lib.hid (HLF.out.ext G8.out)
      have HVD := Lib.hid (show X < D ∧ v.ownBlock ≠ some D ∧ u.ownBlock ≠ some D from ⟨by rw [← hD]; exact HLF.out.bx.lt, fun e => by have := own_lt2 HLF.out.o1 e; omega, fun e => by have := own_lt2 HLF.out.o2 e; omega⟩)
      rw [hW8, hD]
      clear hmk hW8 hD HLF HT
      obtain ⟨TA, tc, e1, -, -, -, -⟩ := OwnL.arr kdT HL8.out.o1
      obtain ⟨HB, hc, e2, -, -, -, -⟩ := OwnL.arr kdBo HL8.out.o2
      rw [show (tsD LQ rd (List.replicate k false)).length = k by unfold tsD; rw [List.length_map, List.length_range, HLQL.out]] at e1
      rw [show (bsD LQ rd (List.replicate k false)).length = k by unfold bsD; rw [List.length_map, List.length_range, HLQL.out]] at e2
      subst e1
      subst e2
      go_wp2_with fail
      go_loopw [10] (fun i wr => ∃ (m : Nat) (ds : List Bool), m ≤ k ∧ i = .int .i64 m ∧ ds.length = k ∧ ds.countP (fun b => b) = m ∧ Bls wr D ds ∧ Lf W2 wr X (.slice TA k tc) (.slice HB k hc) (tsD LQ rd ds) (bsD LQ rd ds)) (fun i _ => k - (intOf i).toNat)
      case atStart => exact ⟨0, List.replicate k false, Nat.zero_le _, rfl, by simp, by simp, HD8.out, HL8.out⟩
      case round =>
        rename World => Wo
        obtain ⟨m, ds, hm, rfl, hdl, hdc, hbl, hlf⟩ := hrel
        have HDL := Lib.hid hdl
        have HDC := Lib.hid hdc
        have HBL := Lib.hid hbl
        have HLF := Lib.hid hlf
        clear hdl hdc hbl hlf
        by_cases hmk : m < k
        · have GWo := Lib.hid (G2.out.trans (HLF.out.g.mono HWX.out))
          have HNS := Lib.hid (fun q => (show nxK LQ (fun j => ds.getD j false) (q + 1) = if (LQ.getD q q0).kind = 2 ∧ ds.getD q false = false ∧ (nxK LQ (fun j => ds.getD j false) q < 0 ∨ (LQ.getD q q0).day < (LQ.getD (nxK LQ (fun j => ds.getD j false) q).toNat q0).day) then (q : Int) else nxK LQ (fun j => ds.getD j false) q from rfl))
          have HNP := Lib.hid (fun q => nxK_spec LQ (fun j => ds.getD j false) q)
          have HN0 := Lib.hid (show nxK LQ (fun j => ds.getD j false) 0 = -1 from rfl)
          obtain ⟨NX, hNX⟩ : ∃ f, nxK LQ (fun j => ds.getD j false) = f := ⟨_, rfl⟩
          rw [hNX] at HNS HNP HN0
          have hwm : wrap64 ((m : Int) + 1) = (m : Int) + 1 := wrap_in (by omega)
          have hmi : (m : Int) < (k : Int) := by omega
          clear hNX
          go_wp2_with fail
          go_loopw [11, 12] (fun nx i wq => ∃ q : Nat, q ≤ k ∧ i = .int .i64 q ∧ nx = .int .i64 (NX q) ∧ Below Wo.heap.size Wo wq) (fun _ i _ => k - (intOf i).toNat)
          case atStart => exact ⟨0, Nat.zero_le _, rfl, by rw [HN0.out], Below.refl _ _⟩
          case round =>
            obtain ⟨q, hq, rfl, rfl, hg⟩ := hrel
            have HG := Lib.hid hg
            clear hg
            by_cases hqk : q < k
            · have GWq := Lib.hid (GWo.out.trans (HG.out.mono GWo.out.size))
              have HSQ := Lib.hid (HNS.out q)
              rw [HMP.out q] at HSQ
              obtain ⟨b0, o0, rfl, -, -, -, hyc⟩ := (HA.out.below GWq.out).at hqk
              have HYD := Lib.hid (fun (j : Nat) (hj : j < k) => (show World.cell? wr ⟨b0, o0 + j * 9 + 5, none⟩ = some (.int .i64 (l.getD j p0).q.day) by
                obtain ⟨b9, o9, e9, -, -, -, hc9⟩ := (HA.out.below GWq.out).at hj
                cases e9
                obtain ⟨-, -, -, -, -, f5, -⟩ := hc9 _ (Below.refl _ _)
                exact f5))
              obtain ⟨y, hy⟩ : ∃ y, l.getD q p0 = y := ⟨_, rfl⟩
              rw [hy] at hyc HSQ
              obtain ⟨-, e1, -, -, -, e5, -⟩ := hyc _ (Below.refl _ _)
              have ed := (show Bls wr D ds from (show Blk Wo D 4 _ from HBL.out).ext HG.out).cell (j := q) (by rw [HDL.out]; exact hqk)
              obtain ⟨dn, hdn⟩ : ∃ b, ds.getD q false = b := ⟨_, rfl⟩
              rw [hdn] at ed HSQ
              have x1 := cellW e1
              have x5 := cellW e5
              have xd := cellW ed
              have hqi : (q : Int) < (k : Int) := by omega
              have hwq : wrap64 ((q : Int) + 1) = (q : Int) + 1 := wrap_in (by omega)
              clear hyc hy hdn e1 e5 ed
              by_cases c1 : y.q.kind = 2
              rotate_left
              · have c1b : (y.q.kind == 2) = false := by simpa using c1
                have HS2 := Lib.hid (show NX (q + 1) = NX q by rw [HSQ.out, if_neg (fun e => c1 e.1)])
                clear c1
                go_upto_region 16 with fail
                refine wp_region_calm wr (by kernel_rfl) (by kernel_rfl) (Below.refl _ _) ?_
                repeat (go_big_quiet_step (fail))
                refine wpQuiet_nil ?_
                rintro _ ⟨z, rfl⟩
                have GQ := Lib.hid z.ok
                go_wp2
                go_roundw
                case rel => exact ⟨q + 1, by omega, rfl, by rw [HS2.out], HG.out.trans (GQ.out.mono HG.out.size)⟩
                case measure => simp only [intOf]; omega
              · have c1b : (y.q.kind == 2) = true := by simpa using c1
                cases dn with
                | true =>
                  have HS2 := Lib.hid (show NX (q + 1) = NX q by rw [HSQ.out, if_neg (fun e => by cases e.2.1)])
                  clear c1
                  go_upto_region 16 with fail
                  refine wp_region_calm wr (by kernel_rfl) (by kernel_rfl) (Below.refl _ _) ?_
                  repeat (go_big_quiet_step (fail))
                  refine wpQuiet_nil ?_
                  rintro _ ⟨z, rfl⟩
                  have GQ := Lib.hid z.ok
                  go_wp2
                  go_roundw
                  case rel => exact ⟨q + 1, by omega, rfl, by rw [HS2.out], HG.out.trans (GQ.out.mono HG.out.size)⟩
                  case measure => simp only [intOf]; omega
                | false =>
                  rcases HNP.out q with ⟨h1, -⟩ | ⟨j, h1, hjq, -⟩
                  · have HS2 := Lib.hid (show NX (q + 1) = (q : Int) by rw [HSQ.out, if_pos ⟨c1, rfl, .inl (by rw [h1]; decide)⟩])
                    have hdd : decide ((-1 : Int) < 0) = true := by decide
                    rw [h1]
                    clear c1 h1
                    go_upto_region 16 with fail
                    refine wp_region_calm wr (by kernel_rfl) (by kernel_rfl) (Below.refl _ _) ?_
                    repeat (go_big_quiet_step (fail))
                    refine wpQuiet_nil ?_
                    rintro _ ⟨z, rfl⟩
                    have GQ := Lib.hid z.ok
                    go_wp2
                    go_roundw
                    case rel => exact ⟨q + 1, by omega, rfl, by rw [HS2.out], HG.out.trans (GQ.out.mono HG.out.size)⟩
                    case measure => simp only [intOf]; omega
                  · have hjk : (j : Int) < (k : Int) := by omega
                    have hj0 : decide ((j : Int) < 0) = false := decide_eq_false (by omega)
                    have xj0 := HYD.out j (by omega)
                    rw [h1, Int.toNat_natCast, HMP.out j] at HSQ
                    obtain ⟨dj, hdj⟩ : ∃ x, (l.getD j p0).q.day = x := ⟨_, rfl⟩
                    rw [hdj] at xj0 HSQ
                    have xj := cellW xj0
                    have H1 := Lib.hid h1
                    rw [h1]
                    clear xj0 hdj h1
                    by_cases hlt : y.q.day < dj
                    · have hd5 : decide (y.q.day < dj) = true := decide_eq_true hlt
                      have HS2 := Lib.hid (show NX (q + 1) = (q : Int) by rw [HSQ.out, if_pos ⟨c1, rfl, .inr hlt⟩])
                      clear c1 hlt
                      go_upto_region 16 with fail
                      refine wp_region_calm wr (by kernel_rfl) (by kernel_rfl) (Below.refl _ _) ?_
                      repeat (go_big_quiet_step (fail))
                      refine wpQuiet_nil ?_
                      rintro _ ⟨z, rfl⟩
                      have GQ := Lib.hid z.ok
                      go_wp2
                      go_roundw
                      case rel => exact ⟨q + 1, by omega, rfl, by rw [HS2.out], HG.out.trans (GQ.out.mono HG.out.size)⟩
                      case measure => simp only [intOf]; omega
                    · have hd5 : decide (y.q.day < dj) = false := decide_eq_false hlt
                      have HS2 := Lib.hid (show NX (q + 1) = (j : Int) by rw [HSQ.out, if_neg (fun e => by rcases e.2.2 with h | h <;> omega)])
                      clear c1 hlt
                      go_upto_region 16 with fail
                      refine wp_region_calm wr (by kernel_rfl) (by kernel_rfl) (Below.refl _ _) ?_
                      repeat (go_big_quiet_step (fail))
                      refine wpQuiet_nil ?_
                      rintro _ ⟨z, rfl⟩
                      have GQ := Lib.hid z.ok
                      go_wp2
                      go_roundw
                      case rel => exact ⟨q + 1, by omega, rfl, by rw [HS2.out], HG.out.trans (GQ.out.mono HG.out.size)⟩
                      case measure => simp only [intOf]; omega
            · obtain rfl : q = k := by omega
              rcases HNP.out q with ⟨h1, hno⟩ | ⟨j, h1, hjq, hj2, hjd, hjm⟩
              · have HNO := Lib.hid hno
                have hdd : decide ((-1 : Int) < 0) = true := by decide
                have HL9 := Lib.hid (HLF.out.ext HG.out)
                have BR9 := Lib.hid (show Blk wr R 106 #[.slice none 0 0, .slice none 0 0] from BR.out.exb HL9.out.g (by have := HX.out; omega))
                have HTS := Lib.hid (tsD_done (c := LQ) (r := rd) (ds := ds) (fun i hi => hno i (by rw [HLQL.out] at hi; exact hi)))
                rw [h1]
                clear hno h1
                have v0 := HL9.out.bx.cell 0
                have v1 := HL9.out.bx.cell 1
                have r0 := BR9.out.cell 0
                have r1 := BR9.out.cell 1
                have f0 := BR9.out.frozen 0
                have f1 := BR9.out.frozen 1
                go_wp2_with fail
                have y0 := ((BR9.out.set_ 0 (.slice TA q tc)).set_ 1 (.slice HB q hc)).cell 0
                have y1 := ((BR9.out.set_ 0 (.slice TA q tc)).set_ 1 (.slice HB q hc)).cell 1
                refine bodyPost_ret (v := .agg #[.slice TA q tc, .slice HB q hc]) ?_ rfl (lif_end2 HL9.out G2.out (by have := HRR.out; omega) (by have := HX.out; omega) HWX.out HTS.out.1 HTS.out.2 HLQL.out)
                simp [results, Tryz.results88, go_sem, y0, y1]
              · have HJK := Lib.hid hj2
                have HJD := Lib.hid hjd
                have HJM := Lib.hid hjm
                have HJQ := Lib.hid hjq
                have hd0 : decide ((j : Int) < 0) = false := decide_eq_false (by omega)
                have hjk : (j : Int) < (q : Int) := by omega
                have hj0 : (0 : Int) ≤ (j : Int) := by omega
                have HL9 := Lib.hid (HLF.out.ext HG.out)
                have BD9 := Lib.hid (show Bls wr D ds from (show Blk Wo D 4 _ from HBL.out).ext HG.out)
                have bd := BD9.out.cell (j := j) (by rw [HDL.out]; exact hjq)
                have bf : World.frozen? wr ⟨D, j, none⟩ = false := (show Blk wr D 4 _ from BD9.out).frozen j
                rw [h1]
                clear h1 hj2 hjd hjm hjq
                go_upto_region 21 with fail
                have BD20 := Lib.hid (BD9.out.set j true)
                have HL20 := Lib.hid (HL9.out.offD HVD.out.1 HVD.out.2.1 HVD.out.2.2 (o := j) (.bool true))
                obtain ⟨W20, hW20⟩ : ∃ x, wr.setCell ⟨D, j, none⟩ (.bool true) = x := ⟨_, rfl⟩
                rw [hW20] at BD20 HL20 ⊢
                clear hW20 bd bf
                have HTL := Lib.hid (show (tsD LQ rd ds).length = q ∧ (bsD LQ rd ds).length = q by unfold tsD bsD; rw [List.length_map, List.length_map, List.length_range, HLQL.out]; exact ⟨rfl, rfl⟩)
                obtain ⟨gT, gH, eT, eH, hgT, hgH, hTH⟩ := HL20.out.adr HTL.out.1 HTL.out.2 (by have := HJQ.out; omega)
                subst eT
                subst eH
                have HGT := Lib.hid (show X < gT ∧ X < gH ∧ gT ≠ gH ∧ gT ≠ D ∧ gH ≠ D from ⟨hgT, hgH, hTH, fun e => HVD.out.2.1 (by rw [e]; rfl), fun e => HVD.out.2.2 (by rw [e]; rfl)⟩)
                have GW20 := Lib.hid (G2.out.trans (HL20.out.g.mono HWX.out))
                obtain ⟨b0, o0, eA, hb0, -, hym, hyc⟩ := (HA.out.below GW20.out).at HJQ.out
                have HDB := Lib.hid (day_bd (HQ.out _ hym))
                have HYQ := Lib.hid (HMP.out j)
                obtain ⟨y, hy⟩ : ∃ y, l.getD j p0 = y := ⟨_, rfl⟩
                rw [hy] at hyc HDB HYQ
                subst eA
                obtain ⟨-, -, -, e3, -, e5, -⟩ := hyc _ (Below.refl _ _)
                have HAX := Lib.hid (fun (Z : World) (g : Below W20.heap.size W20 Z) => (show Calls Tryz.prog 134 #[.agg #[.slice (some ⟨gT, 0, none⟩) q tc, .slice (some ⟨gH, 0, none⟩) q hc], .slice B q d, .agg #[.int .i64 y.q.oth, .int .i64 (y.q.day - 1)]] Z fun e w' => e = .returned (.int .i64 (setS LQ rd y.q.oth (y.q.day - 1))) ∧ Below Z.heap.size Z w' by
                  obtain ⟨a1, a2⟩ := (HL20.out.ext g).arrs HTL.out.1 HTL.out.2
                  have := refAt_any (some ⟨gT, 0, none⟩) (some ⟨gH, 0, none⟩) B q tc hc d (tsD LQ rd ds) (bsD LQ rd ds) rd y.q.oth (y.q.day - 1) Z a1 a2 ((HBI.out.below GW20.out).below g) (by omega)
                  rw [show atK (lifeX (tsD LQ rd ds) (bsD LQ rd ds)) rd y.q.oth (y.q.day - 1) q = atK (lifeX (tsD LQ rd ds) (bsD LQ rd ds)) rd y.q.oth (y.q.day - 1) LQ.length by rw [HLQL.out], atK_D, atK_next HDAYS.out HNX.out (fun i hi k1 k2 => by
                    have := HJM.out i (by rw [HLQL.out] at hi; exact hi) k1 k2
                    rwa [HYQ.out] at this)] at this
                  exact this))
                have HSG := Lib.hid (setS_ge (r := rd) HPAR.out y.q.oth (y.q.day - 1))
                have HTJ := Lib.hid (show titS (setS LQ rd) LQ rd j = (⟨y.q.day, setS LQ rd y.q.oth (y.q.day - 1), y.q.src⟩, decide (setS LQ rd y.q.oth (y.q.day - 1) ≠ -1)) by rw [titS_mar HJK.out, HYQ.out])
                obtain ⟨sv, hsv⟩ : ∃ s, setS LQ rd y.q.oth (y.q.day - 1) = s := ⟨_, rfl⟩
                rw [hsv] at HAX HSG HTJ
                have HTW := Lib.hid (show titD LQ rd (fun i => ds.getD i false) j = (⟨y.q.day, y.q.par, y.q.src⟩, false) by
                  unfold titD
                  rw [if_neg (show ¬ (ds.getD j false = true) from fun e => by have h9 := HJD.out; rw [show ds.getD j false = true from e] at h9; cases h9), titW_mar HJK.out, HYQ.out])
                have HT1 := Lib.hid (show (tsD LQ rd ds)[j]? = some (⟨y.q.day, y.q.par, y.q.src⟩ : Tt) by unfold tsD; rw [List.getElem?_map, List.getElem?_range (by rw [HLQL.out]; exact HJQ.out), Option.map_some, HTW.out])
                have HB1 := Lib.hid (show (bsD LQ rd ds)[j]? = some false by unfold bsD; rw [List.getElem?_map, List.getElem?_range (by rw [HLQL.out]; exact HJQ.out), Option.map_some, HTW.out])
                have HTN := Lib.hid (tsD_set (c := LQ) (r := rd) (ds := ds) (j := j) (by rw [HLQL.out]; exact HDL.out) (by rw [HLQL.out]; exact HJQ.out))
                have HBN := Lib.hid (bsD_set (c := LQ) (r := rd) (ds := ds) (j := j) (by rw [HLQL.out]; exact HDL.out) (by rw [HLQL.out]; exact HJQ.out))
                rw [HTJ.out] at HTN HBN
                have hwd : wrap64 (y.q.day - 1) = y.q.day - 1 := wrap_in (by have := HDB.out; omega)
                have hwd2 : IntKind.i64.wrap (y.q.day - 1) = y.q.day - 1 := IntWalk.i64_in _ (by have := HDB.out; omega)
                have x3 := cellW e3
                have x5 := cellW e5
                have v0 := cellW (HL20.out.bx.cell 0)
                have v1 := cellW (HL20.out.bx.cell 1)
                clear hyc hym hy e3 e5 hsv hgT hgH hTH hb0
                refine wp_region_calm_tail W20 20 (by kernel_rfl) (by kernel_rfl) (Below.refl _ _) ?_
                simp only [List.take_succ_cons, List.take_zero, List.drop_succ_cons, List.drop_zero]
                repeat (go_big_quiet_step ((go_at_call 134; with_reducible exact callsCalm (HAX.out _ (Wd.ok _)))))
                refine wpQuiet_nil ?_
                rintro _ ⟨z, rfl⟩
                have HLZ := Lib.hid (HL20.out.ext z.ok)
                have BDZ := Lib.hid (show Bls z.val D (ds.set j true) from (show Blk W20 D 4 _ from BD20.out).ext z.ok)
                clear x3 x5 v0 v1 hwd hwd2
                obtain ⟨b9, o9, e9, hc9⟩ := tit_at (HLZ.out.arrs HTL.out.1 HTL.out.2).1 HJQ.out
                cases e9
                obtain ⟨-, ct, -⟩ := hc9 _ (Below.refl _ _)
                rw [Nat.zero_add] at ct
                have cf : World.frozen? z.val ⟨gT, j * 3 + 1, none⟩ = false := by
                  obtain ⟨-, -, cur, hcu, -⟩ := own_inv HLZ.out.o1
                  exact hcu.frozen _
                clear hc9
                go_upto_region 22 with fail
                have HL21 := Lib.hid (HLZ.out.setT HT1.out sv)
                have BD21 := Lib.hid (show Bls (z.val.setCell ⟨gT, j * 3 + 1, none⟩ (.int .i64 sv)) D (ds.set j true) from (show Blk z.val D 4 _ from BDZ.out).far (p := ⟨gT, j * 3 + 1, none⟩) (fun e => HGT.out.2.2.2.1 e.symm) _)
                obtain ⟨V21, hV21⟩ : ∃ x, z.val.setCell ⟨gT, j * 3 + 1, none⟩ (.int .i64 sv) = x := ⟨_, rfl⟩
                rw [hV21] at HL21 BD21 ⊢
                clear hV21 ct cf
                have HTL2 := Lib.hid (show ((tsD LQ rd ds).set j (⟨y.q.day, sv, y.q.src⟩ : Tt)).length = q by rw [List.length_set]; exact HTL.out.1)
                obtain ⟨b9, o9, e9, hc9⟩ := tit_at (HL21.out.arrs HTL2.out HTL.out.2).1 HJQ.out
                cases e9
                have et : t1 ((tsD LQ rd ds).set j (⟨y.q.day, sv, y.q.src⟩ : Tt)) j = ⟨y.q.day, sv, y.q.src⟩ := by
                  unfold t1
                  rw [List.getD_eq_getElem?_getD, List.getElem?_set_self (by rw [HTL.out.1]; exact HJQ.out)]; rfl
                rw [et] at hc9
                obtain ⟨-, ct, -⟩ := hc9 _ (Below.refl _ _)
                rw [Nat.zero_add] at ct
                have x1 := cellW ct
                have v0 := cellW (HL21.out.bx.cell 0)
                have v1 := cellW (HL21.out.bx.cell 1)
                clear hc9 ct et
                refine wp_region_calm_tail V21 11 (by kernel_rfl) (by kernel_rfl) (Below.refl _ _) ?_
                simp only [List.take_succ_cons, List.take_zero, List.drop_succ_cons, List.drop_zero]
                repeat (go_big_quiet_step (fail))
                refine wpQuiet_nil ?_
                rintro _ ⟨z2, rfl⟩
                have HL22 := Lib.hid (HL21.out.ext z2.ok)
                have BD22 := Lib.hid (show Bls z2.val D (ds.set j true) from (show Blk V21 D 4 _ from BD21.out).ext z2.ok)
                obtain ⟨b9, o9, e9, hc9⟩ := bool_at (HL22.out.arrs HTL2.out HTL.out.2).2 HJQ.out
                cases e9
                have ct := hc9 _ (Below.refl _ _)
                rw [Nat.zero_add] at ct
                have cf : World.frozen? z2.val ⟨gH, j, none⟩ = false := by
                  obtain ⟨-, -, cur, hcu, -⟩ := own_inv HL22.out.o2
                  exact hcu.frozen _
                clear hc9 x1 v0 v1
                have HDS := Lib.hid (show decide (0 ≤ sv) = decide (sv ≠ -1) by
                  rcases HSG.out with e | e
                  · rw [e]; decide
                  · rw [decide_eq_true e, decide_eq_true (show sv ≠ -1 by omega)])
                go_wp2_with fail
                go_roundw
                case rel => exact ⟨m + 1, ds.set j true, by omega, by go_num, by rw [List.length_set]; exact HDL.out, by rw [cnt_set (by rw [HDL.out]; exact HJQ.out) HJD.out, HDC.out], (show Blk z2.val D 4 _ from BD22.out).far (p := ⟨gH, j, none⟩) (fun e => HGT.out.2.2.2.2 e.symm) _, by rw [HTN.out, HBN.out, ← HDS.out]; exact HL22.out.setB HB1.out _⟩
                case measure => simp [intOf]; omega
        · obtain rfl : m = k := by omega
          have BR9 := Lib.hid (show Blk Wo R 106 #[.slice none 0 0, .slice none 0 0] from BR.out.exb HLF.out.g (by have := HX.out; omega))
          have HTS := Lib.hid (tsD_done (c := LQ) (r := rd) (ds := ds) (fun i hi e => by
            have h9 := cnt_all (ds := ds) (by rw [HDC.out, HDL.out]) (j := i) (by rw [HDL.out]; rw [HLQL.out] at hi; exact hi)
            rw [h9] at e
            cases e.2))
          have v0 := HLF.out.bx.cell 0
          have v1 := HLF.out.bx.cell 1
          have r0 := BR9.out.cell 0
          have r1 := BR9.out.cell 1
          have f0 := BR9.out.frozen 0
          have f1 := BR9.out.frozen 1
          go_wp2_with fail
          have y0 := ((BR9.out.set_ 0 (.slice TA m tc)).set_ 1 (.slice HB m hc)).cell 0
          have y1 := ((BR9.out.set_ 0 (.slice TA m tc)).set_ 1 (.slice HB m hc)).cell 1
          refine bodyPost_ret (v := .agg #[.slice TA m tc, .slice HB m hc]) ?_ rfl (lif_end2 HLF.out G2.out (by have := HRR.out; omega) (by have := HX.out; omega) HWX.out HTS.out.1 HTS.out.2 HLQL.out)
          simp [results, Tryz.results88, go_sem, y0, y1]
end Go.Proofs.YtehhlgdkhecacaaGreat
namespace Go.Proofs.YtehhlgdkhecacaaGreat
open Go.RowKit Go.Shelf
set_option maxRecDepth 100000 in
set_option maxHeartbeats 8000000 in
theorem refSettled_any (A : Option Addr) (n c : Nat) (l : List Pf) (B : Option Addr) (d : Nat) (rd : List Int) (person day : Int) (w : World) (ha : Prf w A n l) (hn : n ≤ 60) (hb : Ints w B n rd) (hq : ∀ p ∈ l, isQf p.q = true) (hs : ((l.map Pf.q).map Qf.src).Nodup) :
    Calls Tryz.prog 90 #[.slice A n c, .slice B n d, .agg #[.int .i64 person, .int .i64 day]] w fun e w' => e = .returned (.int .i64 (setS (l.map Pf.q) rd person day)) ∧ Below w.heap.size w w' := by
  obtain ⟨R, hR⟩ : ∃ R, w.heap.size = R := ⟨_, rfl⟩
  obtain ⟨W1, hW1⟩ : ∃ X, w.alloc (.cells #[.int .i64 person, .int .i64 day] 65) = X := ⟨_, rfl⟩
  have G1 := Lib.hid (show Below w.heap.size w W1 by rw [← hW1]; exact one_more _ _)
  have B1 := Lib.hid (show Blk W1 R 65 #[.int .i64 person, .int .i64 day] by rw [← hW1, ← hR]; exact Blk.new _ _ _)
  have HW1 := Lib.hid hW1
  have HRR := Lib.hid hR
  have T88 := Lib.hid (refTitlesOf_any A n c l B d rd W1.drew (ha.below G1.out.drew) hn (hb.below G1.out.drew) hq hs)
  have HDAYS : Days (l.map Pf.q) := fun i hi => by
    rw [map_pf2]
    exact (day_bd (hq _ (mem_pf (by rw [List.length_map] at hi; exact hi)))).1
  have HT := Lib.hid (fun TA tc HB hc W (g : Below w.heap.size w W) (ht : Arr tcells 3 W TA n (tsL (l.map Pf.q) rd)) (hh : Arr bcells 1 W HB n (bsL (l.map Pf.q) rd)) => (show Calls Tryz.prog 134 #[.agg #[.slice TA n tc, .slice HB n hc], .slice B n d, .agg #[.int .i64 person, .int .i64 day]] W fun e w' => e = .returned (.int .i64 (setS (l.map Pf.q) rd person day)) ∧ Below W.heap.size W w' by
    have := refAt_any TA HB B n tc hc d _ _ rd person day W ht hh (hb.below g) (by omega)
    rwa [show atK (lifeX (tsL (l.map Pf.q) rd) (bsL (l.map Pf.q) rd)) rd person day n = atK (lifeX (tsL (l.map Pf.q) rd) (bsL (l.map Pf.q) rd)) rd person day (l.map Pf.q).length by rw [List.length_map, ha.len], atK_L HDAYS hs] at this))
  obtain ⟨sv, hsv⟩ : ∃ s, setS (l.map Pf.q) rd person day = s := ⟨_, rfl⟩
  rw [hsv] at HT ⊢
  have HKP := Lib.hid (fun Z (g : Below W1.heap.size W1 Z) => (⟨(B1.out.ext g).cell 0, (B1.out.ext g).cell 1⟩ : Z.cell? ⟨R, 0, none⟩ = some (.int .i64 person) ∧ Z.cell? ⟨R, 1, none⟩ = some (.int .i64 day)))
  clear ha hb hq hs hR hW1 hsv HDAYS
  go_enter Tryz.func90, Tryz.ntmps90
  go_upto_region 1 with fail
  rw [HW1.out, HRR.out]
  obtain ⟨k0, k1⟩ := HKP.out _ (Below.refl _ _)
  go_region_held3 (fun Z => Z.cell? ⟨R, 0, none⟩ = some (.int .i64 person) ∧ Z.cell? ⟨R, 1, none⟩ = some (.int .i64 day))
    (with_reducible refine HKP.out _ ?_; repeat' first | (with_reducible exact Below.refl _ _) | (with_reducible exact GA.out) | (with_reducible exact GB.out) | (with_reducible refine Below.drew ?_))
    (first
      | (go_at_call 88; (with_reducible refine (T88.out).mono ?_); rintro e V1 ⟨TA, tc, HB, hc, rfl, h1, h2, hg⟩; have GA := Lib.hid (show Below W1.heap.size W1 V1 from (Below.refl _ W1).drew.trans hg); have H1 := Lib.hid h1; have H2 := Lib.hid h2; clear h1 h2 hg)
      | (go_at_call 134; (with_reducible refine (HT.out _ _ _ _ _ (G1.out.trans (GA.out.mono G1.out.size)) H1.out H2.out).mono ?_); rintro e V2 ⟨rfl, hg⟩; have GB := Lib.hid (GA.out.trans (hg.mono GA.out.size)); clear hg))
  all_goals (try go_wp2_with fail)
  all_goals go_ret
  all_goals exact ⟨rfl, G1.out.trans (GB.out.mono G1.out.size)⟩
end Go.Proofs.YtehhlgdkhecacaaGreat
namespace Go.Proofs.YtehhlgdkhecacaaGreat
open Go.RowKit Go.Shelf
section
variable {W : World} {A : Option Addr} {n c : Nat} {ls : List Pf} {ml : List Qf} {known day person parish : Int}
theorem rd_at {l : List Qf} {k : Nat} (hk : k < (reads l).length) : isRd l ((reads l).getD k []) = true := by
  rw [List.getD_eq_getElem?_getD, List.getElem?_eq_getElem hk]
  exact mem_reads.1 (List.getElem_mem hk)
end
end Go.Proofs.YtehhlgdkhecacaaGreat
namespace Go.Proofs.YtehhlgdkhecacaaGreat
open Go.RowKit Go.Shelf
theorem setK_in {c : List Qf} {r : List Int} (hp : ∀ i, i < c.length → 0 ≤ (c.getD i q0).par ∧ (c.getD i q0).par ≤ 5) : ∀ (k : Nat) (person day : Int), -1 ≤ setK c r k person day ∧ setK c r k person day ≤ 5
  | 0, _, _ => by unfold setK; exact ⟨by omega, by omega⟩
  | k + 1, person, day => by
    unfold setK
    rw [lastT_F]
    rcases lastF_cases (day := day) (srtT (titL (setK c r k) c r person day)) (-1) with h | ⟨t, ht, h⟩
    · rw [h]; exact ⟨by omega, by omega⟩
    · rw [h]
      have hm := (srtT_perm _).subset ht
      unfold titL at hm
      obtain ⟨i, hi, rfl⟩ := List.mem_map.1 hm
      obtain ⟨h1, -⟩ := List.mem_filter.1 hi
      have hil : i < c.length := List.mem_range.1 h1
      have hpi := hp i hil
      unfold titS
      split
      · exact ⟨by show -1 ≤ (c.getD i q0).par; omega, hpi.2⟩
      · split
        · exact setK_in hp k _ _
        · split
          · exact ⟨by show -1 ≤ (c.getD i q0).par; omega, hpi.2⟩
          · exact ⟨by show -1 ≤ (c.getD i q0).par; omega, hpi.2⟩
theorem par_in {q : Qf} (h : isQf q = true) : 0 ≤ q.par ∧ q.par ≤ 5 := by
  rw [isQf_ref] at h
  simp only [Bool.and_eq_true] at h
  have h1 := h.2.2.1
  unfold wherB at h1
  split at h1
  · simp only [Bool.and_eq_true, decide_eq_true_eq] at h1; omega
  · unfold rng at h1; simp only [Bool.and_eq_true, decide_eq_true_eq] at h1; omega
theorem setS_in {c : List Qf} (hq : ∀ i, i < c.length → isQf (c.getD i q0) = true) (r : List Int) (person day : Int) : -1 ≤ setS c r person day ∧ setS c r person day ≤ 5 := setK_in (fun i hi => par_in (hq i hi)) _ _ _
theorem up_bound : ∀ {l : List Int} {lo hi : Int}, l.Pairwise (· < ·) → (∀ x ∈ l, lo ≤ x ∧ x ≤ hi) → (l.length : Int) ≤ max 0 (hi - lo + 1)
  | [], _, _, _, _ => by simp; omega
  | x :: xs, lo, hi, h, hb => by
    obtain ⟨h1, h2⟩ := List.pairwise_cons.1 h
    have hx := hb x (by simp)
    have := up_bound (lo := x + 1) (hi := hi) h2 fun y hy => by
      have := h1 y hy
      have := hb y (List.mem_cons_of_mem _ hy)
      omega
    rw [List.length_cons]
    omega
/-- Where a person is settled by the first k readings. -/
def wheK (c : List Qf) (person day : Int) (k : Nat) : List Int := setL (((reads c).take k).map fun r => setS c r person day)
theorem wheK_succ (c : List Qf) (person day : Int) {k : Nat} (hk : k < (reads c).length) : wheK c person day (k + 1) = putI (wheK c person day k) (setS c ((reads c).getD k []) person day) := by
  unfold wheK
  rw [take_snoc (d := []) hk, List.map_append, List.map_singleton, setL_snoc]
theorem wheK_all (c : List Qf) (person day : Int) : wheK c person day (reads c).length = wherS c person day := by
  unfold wheK wherS
  rw [List.take_length]
theorem wheK_len {c : List Qf} (hq : ∀ i, i < c.length → isQf (c.getD i q0) = true) (person day : Int) (k : Nat) : (wheK c person day k).length ≤ 7 := by
  have := up_bound (lo := -1) (hi := 5) (setL_up (((reads c).take k).map fun r => setS c r person day)) fun x hx => by
    obtain ⟨r, -, rfl⟩ := List.mem_map.1 (setL_mem.1 hx)
    exact setS_in hq r person day
  unfold wheK
  omega
/-- Readings in memory. -/
structure Rs (w : World) (A : Option Addr) (n : Nat) (L : List (List Int)) (hs : List Hr) : Prop where
  a : Arr hcells 1 w A n hs
  p : ∀ h ∈ hs, Ints w h.A h.n h.r ∧ h.n ≤ h.c ∧ h.c ≤ maxLen
  e : hs.map Hr.r = L
section
variable {w w' : World} {A : Option Addr} {n : Nat} {L : List (List Int)} {hs : List Hr}
theorem Rs.below (h : Rs w A n L hs) (g : Below w.heap.size w w') : Rs w' A n L hs := ⟨h.a.below g, fun x hx => ⟨(h.p x hx).1.below g, (h.p x hx).2⟩, h.e⟩
theorem Rs.len (h : Rs w A n L hs) : L.length = n := by rw [← h.e, List.length_map]; exact h.a.1
theorem Rs.at (h : Rs w A n L hs) {k : Nat} (hk : k < n) : ∃ (b o : Nat) (x : Hr), A = some ⟨b, o, none⟩ ∧ L.getD k [] = x.r ∧ (Ints w x.A x.n x.r ∧ x.n ≤ x.c ∧ x.c ≤ maxLen) ∧ ∀ w', Below w.heap.size w w' → w'.cell? ⟨b, o + k, none⟩ = some (.slice x.A x.n x.c) := by
  obtain ⟨b, o, x, rfl, -, hx, hc⟩ := h.a.at hk
  refine ⟨b, o, x, rfl, ?_, h.p x (List.mem_of_getElem? hx), fun w' g => ?_⟩
  · rw [← h.e, List.getD_eq_getElem?_getD, List.getElem?_map, hx]; rfl
  · have := hc w' g 0 _ rfl
    rwa [Nat.mul_one, Nat.add_zero] at this
end
theorem MorEnd.rs {L : List (List Int)} {w w' : World} {e : Ending} (h : MorEnd L w e w') : ∃ A n c hs, e = .returned (.slice A n c) ∧ Rs w' A n L hs ∧ Below w.heap.size w w' := by
  obtain ⟨v, hs, rfl, hl, hm⟩ := h
  obtain ⟨A, c, rfl, -, -, ha⟩ := hl.arr
  exact ⟨A, _, c, hs, rfl, ⟨ha, fun x hx => (hl.per x hx).1, hm⟩, hl.g⟩
set_option maxRecDepth 100000 in
set_option maxHeartbeats 8000000 in
theorem refWhere_any (A : Option Addr) (n c : Nat) (l : List Pf) (RA : Option Addr) (rn rc : Nat) (hs : List Hr) (person day : Int) (w : World) (ha : Cn w A n l) (hr : Rs w RA rn (reads (l.map Pf.q)) hs) :
    Calls Tryz.prog 81 #[.slice A n c, .slice RA rn rc, .agg #[.int .i64 person, .int .i64 day]] w fun e w' => (∃ v, e = .returned v ∧ OwnL icells 1 3 w' w.heap.size v (wherS (l.map Pf.q) person day)) ∧ Below w.heap.size w w' := by
  obtain ⟨R, hR⟩ : ∃ R, w.heap.size = R := ⟨_, rfl⟩
  obtain ⟨W1, hW1⟩ : ∃ X, w.alloc (.cells #[.int .i64 person, .int .i64 day] 65) = X := ⟨_, rfl⟩
  have G1 := Lib.hid (show Below w.heap.size w W1 by rw [← hW1]; exact one_more _ _)
  have B1 := Lib.hid (show Blk W1 R 65 #[.int .i64 person, .int .i64 day] by rw [← hW1, ← hR]; exact Blk.new _ _ _)
  have HW1 := Lib.hid hW1
  have HRR := Lib.hid hR
  have HA := Lib.hid (ha.below G1.out)
  have HRS := Lib.hid (hr.below G1.out)
  have hrn : rn ≤ 2000 := by rw [← hr.len]; exact ha.many
  have HRL := Lib.hid (show (reads (l.map Pf.q)).length = rn from hr.len)
  have HQI := Lib.hid (show ∀ i, i < (l.map Pf.q).length → isQf ((l.map Pf.q).getD i q0) = true from fun i hi => by rw [map_pf2]; exact ha.q _ (mem_pf (by rw [List.length_map] at hi; exact hi)))
  have HLN := Lib.hid (fun k => wheK_len HQI.out person day k)
  have HST := Lib.hid (fun k (hk : k < rn) => wheK_succ (l.map Pf.q) person day (k := k) (by rw [HRL.out]; exact hk))
  have HUP := Lib.hid (fun k => (show (wheK (l.map Pf.q) person day k).Pairwise (· < ·) from setL_up _))
  have HAL := Lib.hid (show wheK (l.map Pf.q) person day rn = wherS (l.map Pf.q) person day by rw [← HRL.out]; exact wheK_all _ _ _)
  have HK0 := Lib.hid (show wheK (l.map Pf.q) person day 0 = [] from rfl)
  have HSET := Lib.hid (fun k (hk : k < rn) (x : Hr) (he : (reads (l.map Pf.q)).getD k [] = x.r) (W : World) (g : Below W1.heap.size W1 W) (hi : Ints W x.A x.n x.r) => (show Calls Tryz.prog 90 #[.slice A n c, .slice x.A x.n x.c, .agg #[.int .i64 person, .int .i64 day]] W fun e w' => e = .returned (.int .i64 (setS (l.map Pf.q) ((reads (l.map Pf.q)).getD k []) person day)) ∧ Below W.heap.size W w' by
    have hin : isRd (l.map Pf.q) x.r = true := by rw [← he]; exact rd_at (by rw [HRL.out]; exact hk)
    have hl : x.n = n := by rw [← hi.1, (isRd_zip.1 hin).1, List.length_map, ha.prf.len]
    rw [he]
    rw [hl] at hi ⊢
    exact refSettled_any A n c l x.A x.c x.r person day W ((HA.out.below g).prf) ha.n hi ha.q ha.src))
  obtain ⟨WK, hWK⟩ : ∃ f, wheK (l.map Pf.q) person day = f := ⟨_, rfl⟩
  rw [hWK] at HLN HST HUP HAL HK0
  obtain ⟨WF, hWF⟩ : ∃ f, wherS (l.map Pf.q) person day = f := ⟨_, rfl⟩
  rw [hWF] at HAL ⊢
  obtain ⟨ST, hST⟩ : ∃ f : Nat → Int, (fun k => setS (l.map Pf.q) ((reads (l.map Pf.q)).getD k []) person day) = f := ⟨_, rfl⟩
  have hsk : ∀ k, setS (l.map Pf.q) ((reads (l.map Pf.q)).getD k []) person day = ST k := fun k => by rw [← hST]
  simp only [hsk] at HST HSET
  clear ha hr hR hW1 hWK hWF hST hsk
  go_enter Tryz.func81, Tryz.ntmps81
  go_upto_region 1 with fail
  rw [HW1.out, HRR.out]
  have HO0 := Lib.hid (OwnL.nil (f := icells) (size := 1) (e := 3) W1 W1.heap.size)
  go_wp2_with fail
  go_loopw [7, 8] (fun v i wr => ∃ k : Nat, k ≤ rn ∧ i = .int .i64 k ∧ OwnL icells 1 3 wr W1.heap.size v (WK k) ∧ Below W1.heap.size W1 wr) (fun _ i _ => rn - (intOf i).toNat)
  case atStart => exact ⟨0, Nat.zero_le _, rfl, by rw [HK0.out]; exact HO0.out, Below.refl _ _⟩
  case round =>
    obtain ⟨k, hk, rfl, ho, hg⟩ := hrel
    have HG := Lib.hid hg
    have HL := Lib.hid (HLN.out k)
    have HU := Lib.hid (HUP.out k)
    have HO := Lib.hid ho
    clear ho hg
    by_cases hkn : k < rn
    · have HS := Lib.hid (HST.out k hkn)
      obtain ⟨xs, hxs⟩ : ∃ s, WK k = s := ⟨_, rfl⟩
      rw [hxs] at HO HS HL HU
      obtain ⟨A1, c1, e1, -, -, har, -⟩ := OwnL.arr kdI HO.out
      subst e1
      have HI1 := Lib.hid har
      obtain ⟨b, o, x, rfl, hxr, hxp, hxc⟩ := (HRS.out.below HG.out).at hkn
      have TS := Lib.hid (fun W (g : Below wr.heap.size wr W) => HSET.out k hkn x hxr W (HG.out.trans (g.mono HG.out.size)) (hxp.1.below g))
      have HXC := Lib.hid hxc
      obtain ⟨sv, hsv⟩ : ∃ s, ST k = s := ⟨_, rfl⟩
      rw [hsv] at HS TS
      have k0 := hxc _ (Below.refl _ _)
      have hwr2 : wrap64 ((k : Int) + 1) = (k : Int) + 1 := wrap_in (by omega)
      have hki : (k : Int) < (rn : Int) := by omega
      have T42 := Lib.hid (fun W (g : Below wr.heap.size wr W) => refPut_any A1 xs.length c1 xs sv W (HI1.out.below g) (by have := HL.out; omega) HU.out)
      have HKP := Lib.hid (fun Z (g : Below wr.heap.size wr Z) => (⟨(B1.out.ext (HG.out.trans (g.mono HG.out.size))).cell 0, (B1.out.ext (HG.out.trans (g.mono HG.out.size))).cell 1, HXC.out Z g⟩ : Z.cell? ⟨R, 0, none⟩ = some (.int .i64 person) ∧ Z.cell? ⟨R, 1, none⟩ = some (.int .i64 day) ∧ Z.cell? ⟨b, o + k, none⟩ = some (.slice x.A x.n x.c)))
      obtain ⟨p0, p1, p2⟩ := HKP.out wr (Below.refl _ _)
      have TS1 := Lib.hid (TS.out wr.drew (Below.refl _ _).drew)
      obtain ⟨ln, hln⟩ : ∃ k, xs.length = k := ⟨_, rfl⟩
      rw [hln] at T42 ⊢
      clear hxc hxr hxp hxs hsv har k0 hln
      go_upto_region 5 with fail
      go_region_held3 (fun Z => Z.cell? ⟨R, 0, none⟩ = some (.int .i64 person) ∧ Z.cell? ⟨R, 1, none⟩ = some (.int .i64 day) ∧ Z.cell? ⟨b, o + k, none⟩ = some (.slice x.A x.n x.c))
        (with_reducible refine HKP.out _ ?_; repeat' first | (with_reducible exact Below.refl _ _) | (with_reducible exact GA.out) | (with_reducible exact GB.out) | (with_reducible refine Below.drew ?_))
        (first
          | (go_at_call 90; (with_reducible refine (TS1.out).mono ?_); rintro e V1 ⟨rfl, hg⟩; have GA := Lib.hid (show Below wr.heap.size wr V1 from (Below.refl _ wr).drew.trans hg); clear hg)
          | (go_at_call 42; (with_reducible refine (T42.out _ GA.out).mono ?_); rintro e V2 ⟨⟨v2, rfl, ho2⟩, hg⟩; have GB := Lib.hid (GA.out.trans (hg.mono GA.out.size)); have HO2 := Lib.hid (ho2.mono (HG.out.trans (GA.out.mono HG.out.size)).size); clear ho2 hg))
      all_goals (try go_wp2_with fail)
      all_goals (
        go_roundw
        case rel => exact ⟨k + 1, by omega, by go_num, by rw [HS.out]; exact HO2.out, HG.out.trans (GB.out.mono HG.out.size)⟩
        case measure => simp [intOf]; omega)
    · obtain rfl : k = rn := by omega
      go_wp2_with fail
      go_ret
      exact ⟨⟨_, rfl, by rw [← HAL.out]; exact HO.out.mono G1.out.size⟩, G1.out.trans (HG.out.mono G1.out.size)⟩
end Go.Proofs.YtehhlgdkhecacaaGreat
namespace Go.Proofs.YtehhlgdkhecacaaGreat
open Go.RowKit Go.Shelf
theorem refCnt_any (A : Option Addr) (n c : Nat) (l : List Pf) (known : Int) (w : World) (ha : Prf w A n l) (hok : okL (l.map Pf.q) = true) :
    Calls Tryz.prog 71 #[.slice A n c, .int .i64 known] w fun e w' => ∃ A2 n2 c2, e = .returned (.slice A2 n2 c2) ∧ Cn w' A2 n2 (l.filter fun p => cnt p.q known) ∧ Below w.heap.size w w' := by
  obtain ⟨h60, h4⟩ := ok_mem ha hok
  refine (refCounting_any A n c l known w ha (by omega)).mono ?_
  rintro e w' ⟨⟨v, rfl, ho⟩, hg⟩
  obtain ⟨A2, c2, rfl, -, -, hp2⟩ := own_prf ho (fun p hp => (ha.p p (List.mem_filter.1 hp).1).below hg)
  refine ⟨A2, _, c2, rfl, ⟨hp2, ?_, fun p hp => okL_all hok _ (List.mem_map.2 ⟨p, (List.mem_filter.1 hp).1, rfl⟩), ((okL_src hok).sublist (((List.filter_sublist).map Pf.q).map Qf.src)).imp fun h => by omega, by rw [cntP_q]; exact reads_len hok known⟩, hg⟩
  have h1 := List.length_filter_le (fun p : Pf => cnt p.q known) l
  have h2 := ha.len
  omega
theorem rAsk_ok {l : List Qf} {a b d k : Int} {p q : Bool} (h : rAskE l a b d k p q = 0) : okL l = true := by
  unfold rAskE at h
  by_cases e : okL l = true
  · exact e
  · rw [if_neg e] at h; exact absurd h (by decide)
def rReadE (l : List Qf) (a b d k : Int) (p q : Bool) : Int := if rAskE l a b d k p q = 0 then (if isRead (cntL l k) = true then 0 else 24) else rAskE l a b d k p q
/-- What read returns. -/
def RdAll (l : List Qf) (known E : Int) (w : World) (e : Ending) (w' : World) : Prop :=
  ∃ A n c, e = .returned (.tuple #[.slice A n c, .int .i64 E]) ∧ (E = 0 → ∃ hs, Rs w' A n (reads (cntL l known)) hs) ∧ Below w.heap.size w w'
theorem rdAll_ok {l : List Qf} {known : Int} {w V : World} {A5 : Option Addr} {n5 c5 : Nat} {hs : List Hr} (h : Rs V A5 n5 (reads (cntL l known)) hs) (g : Below w.heap.size w V) : RdAll l known 0 w (.returned (.tuple #[.slice A5 n5 c5, .int .i64 0])) V := ⟨A5, n5, c5, rfl, fun _ => ⟨hs, h⟩, g⟩
theorem rdAll_no {l : List Qf} {known E : Int} {w V : World} (h : E ≠ 0) (g : Below w.heap.size w V) : RdAll l known E w (.returned (.tuple #[.slice none 0 0, .int .i64 E])) V := ⟨none, 0, 0, rfl, fun e => absurd e h, g⟩
theorem rAsk_tt (l : List Qf) (a b d k : Int) : rAskE l a b d k true true = askE l a b [d, k] := by
  unfold rAskE askE lookE
  by_cases h : okL l = true
  · rw [if_pos h, if_pos h, if_pos h, Bool.true_and, Bool.true_and]
    cases rng a 1 999
    · rfl
    · cases rng b 0 5
      · rfl
      · rw [List.any_cons, List.any_cons, List.any_nil]
        unfold badDay
        cases rng d 0 4166 <;> cases rng k 0 4166 <;> rfl
  · rw [if_neg h, if_neg h]
theorem rRead_tt (l : List Qf) (a b d k : Int) : rReadE l a b d k true true = readE l a b [d, k] k := by unfold rReadE readE; rw [rAsk_tt]
theorem readE_okL {l : List Qf} {p b k : Int} {ds : List Int} (h : readE l p b ds k = 0) : okL l = true := by
  unfold readE at h
  by_cases e : askE l p b ds = 0
  · exact (askE_ok e).1
  · rw [if_neg e] at h; exact absurd h e
set_option maxRecDepth 100000 in
set_option maxHeartbeats 8000000 in
theorem refRead_any (A : Option Addr) (n c : Nat) (l : List Pf) (a b day known : Int) (p1 p2 : Bool) (w : World) (ha : Prf w A n l) (hn : n ≤ 9223372036854775807) :
    Calls Tryz.prog 92 #[.slice A n c, .agg #[.int .i64 a, .int .i64 b, .int .i64 day, .int .i64 known], .agg #[.bool p1, .bool p2]] w (RdAll (l.map Pf.q) known (rReadE (l.map Pf.q) a b day known p1 p2) w) := by
  obtain ⟨R, hR⟩ : ∃ R, w.heap.size = R := ⟨_, rfl⟩
  obtain ⟨W1, hW1⟩ : ∃ X, w.alloc (.cells #[.int .i64 a, .int .i64 b, .int .i64 day, .int .i64 known] 24) = X := ⟨_, rfl⟩
  have g1 : Below w.heap.size w W1 := by rw [← hW1]; exact one_more _ _
  have s1 : W1.heap.size = R + 1 := by rw [← hW1, ← hR]; simp
  have b1 : Blk W1 R 24 #[.int .i64 a, .int .i64 b, .int .i64 day, .int .i64 known] := by rw [← hW1, ← hR]; exact Blk.new _ _ _
  obtain ⟨W2, hW2⟩ : ∃ X, W1.alloc (.cells #[.bool p1, .bool p2] 113) = X := ⟨_, rfl⟩
  have g2 : Below W1.heap.size W1 W2 := by rw [← hW2]; exact one_more _ _
  have b2 : Blk W2 (R + 1) 113 #[.bool p1, .bool p2] := by rw [← hW2, ← s1]; exact Blk.new _ _ _
  have G2 := Lib.hid (extTrans g1 g2)
  have B1 := Lib.hid (b1.ext g2)
  have B2 := Lib.hid b2
  have HW1 := Lib.hid hW1
  have HW2 := Lib.hid hW2
  have HS1 := Lib.hid s1
  have HRR := Lib.hid hR
  have TA := Lib.hid (refAsked_any A n c l a b day known p1 p2 W2 (ha.below G2.out) hn)
  have HOK := Lib.hid (fun (h : rAskE (l.map Pf.q) a b day known p1 p2 = 0) => rAsk_ok h)
  have TC := Lib.hid (fun (h : okL (l.map Pf.q) = true) W (g : Below W2.heap.size W2 W) => refCnt_any A n c l known W ((ha.below G2.out).below g) h)
  have HFQ := Lib.hid (cntP_q l known)
  have HRE := Lib.hid (show rReadE (l.map Pf.q) a b day known p1 p2 = if rAskE (l.map Pf.q) a b day known p1 p2 = 0 then (if isRead (cntL (l.map Pf.q) known) = true then 0 else 24) else rAskE (l.map Pf.q) a b day known p1 p2 from rfl)
  obtain ⟨le, hle⟩ : ∃ e, rAskE (l.map Pf.q) a b day known p1 p2 = e := ⟨_, rfl⟩
  rw [hle] at TA HOK HRE
  obtain ⟨fl, hfl⟩ : ∃ s, (l.filter fun p => cnt p.q known) = s := ⟨_, rfl⟩
  rw [hfl] at TC HFQ
  obtain ⟨LQ, hLQ⟩ : ∃ x, cntL (l.map Pf.q) known = x := ⟨_, rfl⟩
  have HLQ := Lib.hid hLQ
  rw [hLQ] at HFQ HRE
  obtain ⟨re, hre⟩ : ∃ x, rReadE (l.map Pf.q) a b day known p1 p2 = x := ⟨_, rfl⟩
  rw [hre] at HRE ⊢
  clear ha hle hfl hLQ hre hR hW1 hW2 g1 g2 s1 b1 b2
  by_cases h0 : le = 0
  rotate_left
  · have hne : (le != 0) = true := by simpa using h0
    have HN0 := Lib.hid h0
    have h1 := HRE.out
    rw [if_neg h0] at h1
    subst h1
    clear h0
    go_enter Tryz.func92, Tryz.ntmps92
    go_upto_region 1 with fail
    rw [HW1.out, HRR.out]
    rw [HW2.out]
    have k0 := B1.out.cell 0
    have k1 := B1.out.cell 1
    have k2 := B1.out.cell 2
    have k3 := B1.out.cell 3
    have l0 := B2.out.cell 0
    have l1 := B2.out.cell 1
    go_wp2_with (go_at_call 77; (with_reducible refine (TA.out).mono ?_); rintro e V ⟨rfl, hg⟩; have GV := Lib.hid hg; clear hg)
    go_ret2
    exact rdAll_no HN0.out (G2.out.trans (GV.out.mono G2.out.size))
  · have HOKL := Lib.hid (HOK.out h0)
    have HRE2 := Lib.hid (show re = if isRead LQ = true then 0 else 24 by rw [HRE.out, if_pos h0])
    subst h0
    obtain ⟨RN, hRN⟩ : ∃ x, (reads LQ).length = x := ⟨_, rfl⟩
    have HRN := Lib.hid hRN
    have HIR := Lib.hid (show isRead LQ = !decide (RN = 0) by rw [isRead_len, hRN])
    clear hRN
    go_enter Tryz.func92, Tryz.ntmps92
    go_upto_region 1 with fail
    rw [HW1.out, HRR.out]
    rw [HW2.out]
    have k0 := B1.out.cell 0
    have k1 := B1.out.cell 1
    have k2 := B1.out.cell 2
    have k3 := B1.out.cell 3
    have l0 := B2.out.cell 0
    have l1 := B2.out.cell 1
    go_upto_region 4 with (go_at_call 77; (with_reducible refine (TA.out).mono ?_); rintro e V ⟨rfl, hg⟩; have GV := Lib.hid hg; have BV := Lib.hid (B1.out.ext hg); clear hg)
    clear k0 k1 k2 k3 l0 l1
    have k3 := BV.out.cell 3
    go_upto_region 5 with (first
      | (go_at_call 71; (with_reducible refine (TC.out HOKL.out _ GV.out).mono ?_); rintro e V2 ⟨A2, n2, c2, rfl, hcn, hg⟩; have HCN := Lib.hid hcn; have GV2 := Lib.hid (GV.out.trans (hg.mono GV.out.size)); have TR := Lib.hid (by have := refReads_any A2 n2 c2 fl V2 hcn.prf hcn.n (fun p hp => by have h1 := isQf_per (hcn.q p hp); have h2 := (hcn.prf.p p hp).len; omega) hcn.many; rwa [HFQ.out] at this); clear hcn hg)
      | (go_at_call 79; (with_reducible refine (TR.out).mono ?_); rintro e V3 hme; obtain ⟨A3, n3, c3, hs3, rfl, hrs, hg⟩ := hme.rs; obtain rfl : n3 = RN := hrs.len.symm.trans HRN.out; have HRS := Lib.hid hrs; have GV3 := Lib.hid (GV2.out.trans (hg.mono GV2.out.size)); clear hrs hg hme))
    clear k3
    by_cases hz : n3 = 0
    · have hzb : ((n3 : Int) == 0) = true := by simp; omega
      obtain rfl : re = 24 := by rw [HRE2.out, HIR.out, decide_eq_true hz]; rfl
      clear hz
      go_wp2_with fail
      go_ret2
      exact rdAll_no (by decide) (G2.out.trans (GV3.out.mono G2.out.size))
    · have hzb : ((n3 : Int) == 0) = false := by simp; omega
      obtain rfl : re = 0 := by rw [HRE2.out, HIR.out, decide_eq_false hz]; rfl
      clear hz
      go_wp2_with fail
      go_ret2
      exact rdAll_ok (by rw [HLQ.out]; exact HRS.out) (G2.out.trans (GV3.out.mono G2.out.size))
set_option maxRecDepth 100000 in
set_option maxHeartbeats 8000000 in
theorem refRightF_any (A : Option Addr) (n c : Nat) (l : List Pf) (a b day known : Int) (w : World) (ha : Prf w A n l) (hn : n ≤ 9223372036854775807) :
    Calls Tryz.prog 29 #[.slice A n c, .agg #[.int .i64 a, .int .i64 b, .int .i64 day, .int .i64 known]] w (NumEnd (righN (wherS (cntL (l.map Pf.q) known) a day) b) (readE (l.map Pf.q) a b [day, known] known) w) := by
  obtain ⟨R, hR⟩ : ∃ R, w.heap.size = R := ⟨_, rfl⟩
  obtain ⟨W1, hW1⟩ : ∃ X, w.alloc (.cells #[.int .i64 a, .int .i64 b, .int .i64 day, .int .i64 known] 24) = X := ⟨_, rfl⟩
  have G1 := Lib.hid (show Below w.heap.size w W1 by rw [← hW1]; exact one_more _ _)
  have B1 := Lib.hid (show Blk W1 R 24 #[.int .i64 a, .int .i64 b, .int .i64 day, .int .i64 known] by rw [← hW1, ← hR]; exact Blk.new _ _ _)
  have HW1 := Lib.hid hW1
  have HRR := Lib.hid hR
  have TR := Lib.hid (by have := refRead_any A n c l a b day known true true W1 (ha.below G1.out) hn; rwa [rRead_tt] at this)
  have HOK := Lib.hid (fun (h : readE (l.map Pf.q) a b [day, known] known = 0) => (show okL (l.map Pf.q) = true from readE_okL h))
  have TC := Lib.hid (fun (h : okL (l.map Pf.q) = true) W (g : Below w.heap.size w W) => refCnt_any A n c l known W (ha.below g) h)
  have HFQ := Lib.hid (cntP_q l known)
  have HQI := Lib.hid (fun (h : okL (l.map Pf.q) = true) => (show ∀ i, i < (cntL (l.map Pf.q) known).length → isQf ((cntL (l.map Pf.q) known).getD i q0) = true from fun i hi => okL_all h _ ((List.filter_sublist).subset (getD_mem hi))))
  obtain ⟨fl, hfl⟩ : ∃ s, (l.filter fun p => cnt p.q known) = s := ⟨_, rfl⟩
  rw [hfl] at TC HFQ
  obtain ⟨LQ, hLQ⟩ : ∃ x, cntL (l.map Pf.q) known = x := ⟨_, rfl⟩
  unfold RdAll at TR
  rw [hLQ] at HFQ TR HQI ⊢
  obtain ⟨re, hre⟩ : ∃ x, readE (l.map Pf.q) a b [day, known] known = x := ⟨_, rfl⟩
  rw [hre] at TR HOK ⊢
  clear ha hR hW1 hfl hLQ hre
  by_cases h0 : re = 0
  rotate_left
  · have hne : (re != 0) = true := by simpa using h0
    have HN0 := Lib.hid h0
    clear h0
    go_enter Tryz.func29, Tryz.ntmps29
    go_upto_region 1 with fail
    rw [HW1.out, HRR.out]
    have k0 := B1.out.cell 0
    have k1 := B1.out.cell 1
    have k2 := B1.out.cell 2
    have k3 := B1.out.cell 3
    go_wp2_with (go_at_call 92; (with_reducible refine (TR.out).mono ?_); rintro e V2 ⟨RA, rn, rc, rfl, hrs, hg⟩; have GV2 := Lib.hid hg; have HRS0 := Lib.hid hrs; have BV2 := Lib.hid (B1.out.ext hg); clear hrs hg)
    go_ret2
    exact numEnd_no HN0.out (G1.out.trans (GV2.out.mono G1.out.size))
  · have hok := HOK.out h0
    subst h0
    go_enter Tryz.func29, Tryz.ntmps29
    go_upto_region 1 with fail
    rw [HW1.out, HRR.out]
    have k0 := B1.out.cell 0
    have k1 := B1.out.cell 1
    have k2 := B1.out.cell 2
    have k3 := B1.out.cell 3
    go_upto_region 4 with (go_at_call 92; (with_reducible refine (TR.out).mono ?_); rintro e V2 ⟨RA, rn, rc, rfl, hrs, hg⟩; have GV2 := Lib.hid hg; have HRS0 := Lib.hid hrs; have BV2 := Lib.hid (B1.out.ext hg); clear hrs hg)
    clear k0 k1 k2 k3
    obtain ⟨hs, hrs⟩ := HRS0.out (by trivial)
    have HRS := Lib.hid hrs
    have TC1 := Lib.hid (TC.out hok V2.drew (G1.out.trans (GV2.out.mono G1.out.size)).drew)
    have HKP := Lib.hid (fun Z (g : Below V2.heap.size V2 Z) => (⟨(BV2.out.ext g).cell 0, (BV2.out.ext g).cell 1, (BV2.out.ext g).cell 2, (BV2.out.ext g).cell 3⟩ : Z.cell? ⟨R, 0, none⟩ = some (.int .i64 a) ∧ Z.cell? ⟨R, 1, none⟩ = some (.int .i64 b) ∧ Z.cell? ⟨R, 2, none⟩ = some (.int .i64 day) ∧ Z.cell? ⟨R, 3, none⟩ = some (.int .i64 known)))
    obtain ⟨k0, k1, k2, k3⟩ := HKP.out V2 (Below.refl _ _)
    have HQL := Lib.hid (show (wherS LQ a day).length ≤ 7 by
      rw [← wheK_all]
      exact wheK_len (HQI.out hok) a day _)
    clear hrs hok
    go_cut [8] from 19 to 29 (fun s wx => OwnL icells 1 3 wx V2.heap.size s (wherS LQ a day) ∧ Below V2.heap.size V2 wx)
    case first =>
      go_region_held3 (fun Z => Z.cell? ⟨R, 0, none⟩ = some (.int .i64 a) ∧ Z.cell? ⟨R, 1, none⟩ = some (.int .i64 b) ∧ Z.cell? ⟨R, 2, none⟩ = some (.int .i64 day) ∧ Z.cell? ⟨R, 3, none⟩ = some (.int .i64 known))
        (with_reducible refine HKP.out _ ?_; repeat' first | (with_reducible exact Below.refl _ _) | (with_reducible exact GA.out) | (with_reducible exact GB.out) | (with_reducible refine Below.drew ?_))
        (first
          | (go_at_call 71; (with_reducible refine (TC1.out).mono ?_); rintro e V5 ⟨A5, n5, c5, rfl, hcn, hg⟩; have GA := Lib.hid (show Below V2.heap.size V2 V5 from (Below.refl _ V2).drew.trans hg); have HCN := Lib.hid hcn; have HRS5 := Lib.hid (HRS.out.below GA.out); clear hcn hg)
          | (go_at_call 81; (with_reducible refine (refWhere_any A5 n5 c5 fl RA rn rc hs a day V5 HCN.out (by rw [HFQ.out]; exact HRS5.out)).mono ?_); rintro e V6 ⟨⟨v6, rfl, ho6⟩, hg⟩; rw [HFQ.out] at ho6; have GB := Lib.hid (GA.out.trans (hg.mono GA.out.size)); have HO6 := Lib.hid (ho6.mono GA.out.size); clear ho6 hg))
      all_goals (try go_wp2_with fail)
      all_goals go_meet
      all_goals exact ⟨HO6.out, GB.out⟩
    case rest =>
      obtain ⟨ho9, hg9⟩ := hcut
      rename_i hK9
      refine hK9 _ _ ?_
      clear hK9 k0 k1 k2 k3
      obtain ⟨A9, c9, e9, -, -, ha9, -⟩ := OwnL.arr kdI ho9
      subst e9
      have HG9 := Lib.hid hg9
      have T93 := Lib.hid (refRight_any A9 _ c9 (wherS LQ a day) b wc ha9 (by have := HQL.out; omega))
      have k1 := (BV2.out.ext hg9).cell 1
      obtain ⟨wl, hwl⟩ : ∃ x, wherS LQ a day = x := ⟨_, rfl⟩
      rw [hwl] at T93 ⊢
      clear ho9 hg9 ha9 hwl
      go_wp2_with (go_at_call 93; (with_reducible refine (T93.out).mono ?_); rintro e w' ⟨rfl, rfl⟩)
      go_ret2
      exact numEnd_ok (G1.out.trans ((GV2.out.trans (HG9.out.mono GV2.out.size)).mono G1.out.size))
end Go.Proofs.YtehhlgdkhecacaaGreat
namespace Go.Proofs.YtehhlgdkhecacaaGreat
open Go.RowKit Go.Shelf
theorem read_less {l : List Qf} {a b day known : Int} {i : Nat} (h : readE l a b [day, known] known = 0) (hi : i < (cntL l known).length) (hr : isRead ((cntL l known).eraseIdx i) = true) :
    cntL (lssL l ((cntL l known).getD i q0).src) known = (cntL l known).eraseIdx i ∧ readE (lssL l ((cntL l known).getD i q0).src) a b [day, known] known = 0 := by
  have hok := readE_okL h
  have h1 : cntL (lssL l ((cntL l known).getD i q0).src) known = (cntL l known).eraseIdx i := by
    rw [lss_cnt]
    exact lss_at hi ((okL_src hok).sublist ((List.filter_sublist).map Qf.src))
  refine ⟨h1, ?_⟩
  unfold readE at h ⊢
  have ha : askE l a b [day, known] = 0 := by
    by_cases e : askE l a b [day, known] = 0
    · exact e
    · rw [if_neg e] at h; exact h
  obtain ⟨-, k1, k2, k3⟩ := askE_ok ha
  have ha2 : askE (lssL l ((cntL l known).getD i q0).src) a b [day, known] = 0 := by
    unfold askE lookE
    rw [if_pos (okL_subl hok (lss_sub _ _)), if_pos k1, if_pos k2, if_pos (okL_subl hok (lss_sub _ _)), if_neg]
    intro e
    obtain ⟨d, hd, hb⟩ := List.any_eq_true.1 e
    unfold badDay at hb
    rw [k3 d hd] at hb
    cases hb
  rw [if_pos ha2, h1, if_pos hr]
theorem rstP_row (c : List Qf) (a b day : Int) (m : Nat) : (rstP c a b day m).length ≤ m := by
  unfold rstP
  rw [List.length_map]
  have := List.length_filter_le (fun i => rstB c a b day i) (List.range m)
  rwa [List.length_range] at this
set_option maxRecDepth 100000 in
set_option maxHeartbeats 16000000 in
theorem refRests_any (A : Option Addr) (n c : Nat) (l : List Pf) (a b day known : Int) (w : World) (ha : Prf w A n l) (hn : n ≤ 9223372036854775807) :
    Calls Tryz.prog 16 #[.slice A n c, .agg #[.int .i64 a, .int .i64 b, .int .i64 day, .int .i64 known]] w (ListEnd (rstS (cntL (l.map Pf.q) known) a b day) (readE (l.map Pf.q) a b [day, known] known) w) := by
  obtain ⟨R, hR⟩ : ∃ R, w.heap.size = R := ⟨_, rfl⟩
  obtain ⟨W1, hW1⟩ : ∃ X, w.alloc (.cells #[.int .i64 a, .int .i64 b, .int .i64 day, .int .i64 known] 24) = X := ⟨_, rfl⟩
  have G1 := Lib.hid (show Below w.heap.size w W1 by rw [← hW1]; exact one_more _ _)
  have B1 := Lib.hid (show Blk W1 R 24 #[.int .i64 a, .int .i64 b, .int .i64 day, .int .i64 known] by rw [← hW1, ← hR]; exact Blk.new _ _ _)
  have HW1 := Lib.hid hW1
  have HRR := Lib.hid hR
  have HA := Lib.hid (ha.below G1.out)
  have TR := Lib.hid (refRightF_any A n c l a b day known W1 HA.out hn)
  have HOK := Lib.hid (fun (h : readE (l.map Pf.q) a b [day, known] known = 0) => readE_okL h)
  have HOM := Lib.hid (fun (h : okL (l.map Pf.q) = true) => ok_mem ha h)
  have TC := Lib.hid (fun (h : okL (l.map Pf.q) = true) W (g : Below W1.heap.size W1 W) => refCnt_any A n c l known W (HA.out.below g) h)
  have TL := Lib.hid (fun (h1 : n ≤ 60) (h2 : ∀ p ∈ l, p.n ≤ 4) s W (g : Below W1.heap.size W1 W) => refLess_any A n c l s W (HA.out.below g) (by omega) (fun p hp => by have := h2 p hp; omega))
  have HRL := Lib.hid (fun (h : readE (l.map Pf.q) a b [day, known] known = 0) i hi hr => read_less (i := i) h hi hr)
  have HIR := Lib.hid (fun (h : readE (l.map Pf.q) a b [day, known] known = 0) => (show isRead (cntL (l.map Pf.q) known) = true by
    unfold readE at h
    by_cases e : askE (l.map Pf.q) a b [day, known] = 0
    · rw [if_pos e] at h
      by_cases k : isRead (cntL (l.map Pf.q) known) = true
      · exact k
      · rw [if_neg k] at h; exact absurd h (by decide)
    · rw [if_neg e] at h; exact absurd h e))
  have HFQ := Lib.hid (cntP_q l known)
  obtain ⟨fl, hfl⟩ : ∃ s, (l.filter fun p => cnt p.q known) = s := ⟨_, rfl⟩
  rw [hfl] at TC HFQ
  unfold NumEnd at TR
  obtain ⟨lq, hlq⟩ : ∃ x, l.map Pf.q = x := ⟨_, rfl⟩
  rw [hlq] at TR HOK HOM TC TL HRL HIR HFQ ⊢
  obtain ⟨LQ, hLQ⟩ : ∃ x, cntL lq known = x := ⟨_, rfl⟩
  have HLQ := Lib.hid hLQ
  rw [hLQ] at HFQ TR HRL HIR ⊢
  obtain ⟨re, hre⟩ : ∃ x, readE lq a b [day, known] known = x := ⟨_, rfl⟩
  rw [hre] at TR HOK HRL HIR ⊢
  clear ha hR hW1 hfl hLQ hre hlq
  by_cases h0 : re = 0
  rotate_left
  · have hne : (re != 0) = true := by simpa using h0
    have HN0 := Lib.hid h0
    clear h0
    go_enter Tryz.func16, Tryz.ntmps16
    go_upto_region 1 with fail
    rw [HW1.out, HRR.out]
    have k0 := B1.out.cell 0
    have k1 := B1.out.cell 1
    have k2 := B1.out.cell 2
    have k3 := B1.out.cell 3
    go_wp2_with (go_at_call 29; (with_reducible refine (TR.out).mono ?_); rintro e V2 ⟨rfl, hg⟩; have GV2 := Lib.hid hg; clear hg)
    go_ret2
    exact listEnd_no HN0.out (G1.out.trans (GV2.out.mono G1.out.size))
  · have hok := HOK.out h0
    have HKL := Lib.hid hok
    have HREAD := Lib.hid (HIR.out h0)
    have HRL2 := Lib.hid (HRL.out h0)
    have TLX := Lib.hid (TL.out (HOM.out hok).1 (fun p hp => ((HOM.out hok).2 p hp).2))
    subst h0
    rw [if_pos rfl] at TR
    obtain ⟨nn, hnn⟩ : ∃ x, righN (wherS LQ a day) b = x := ⟨_, rfl⟩
    have HNN := Lib.hid hnn
    rw [hnn] at TR
    clear hnn
    go_enter Tryz.func16, Tryz.ntmps16
    go_upto_region 1 with fail
    rw [HW1.out, HRR.out]
    have k0 := B1.out.cell 0
    have k1 := B1.out.cell 1
    have k2 := B1.out.cell 2
    have k3 := B1.out.cell 3
    go_upto_region 4 with (go_at_call 29; (with_reducible refine (TR.out).mono ?_); rintro e V2 ⟨rfl, hg⟩; have GV2 := Lib.hid hg; have BV2 := Lib.hid (B1.out.ext hg); clear hg)
    clear k0 k1 k2 k3
    have k3 := BV2.out.cell 3
    have HSR := Lib.hid (show (fl.map fun p => p.q.src) = srcL LQ by rw [← srcL_map, HFQ.out])
    go_upto_region 5 with (first
      | (go_at_call 71; (with_reducible refine (TC.out hok _ GV2.out).mono ?_); rintro e V5 ⟨A5, n5, c5, rfl, hcn, hg⟩; have G5 := Lib.hid (GV2.out.trans (hg.mono GV2.out.size)); have TS := Lib.hid (by have := refSources_any A5 n5 c5 fl V5 hcn.prf (by have := hcn.n; omega); rwa [HSR.out] at this); clear hcn hg)
      | (go_at_call 70; (with_reducible refine (TS.out).mono ?_); rintro e V6 ⟨⟨v6, rfl, ho⟩, hg⟩; obtain ⟨A6, c6, e6, -, -, ha6, -⟩ := OwnL.arr kdI ho; subst e6; have HA6 := Lib.hid ha6; have G6 := Lib.hid (G5.out.trans (hg.mono G5.out.size)); clear ho hg ha6))
    clear k3 hok
    have BV6 := Lib.hid (B1.out.ext G6.out)
    have HN6 := Lib.hid (show (srcL LQ).length ≤ 60 by
      have h1 := okL_len HKL.out
      have h2 := List.length_filter_le (fun q => cnt q known) lq
      unfold srcL
      rw [List.length_map, ← HLQ.out]
      unfold cntL
      omega)
    have HSU := Lib.hid (fun m => rstP_succ LQ a b day m)
    have HSB := Lib.hid (fun i => (show rstB LQ a b day i = decide (righN (wherS (LQ.eraseIdx i) a day) b ≠ nn) by rw [← HNN.out]; rfl))
    have HSG := Lib.hid (fun i (hi : i < (srcL LQ).length) => (show (srcL LQ).getD i 0 = (LQ.getD i q0).src ∧ i < LQ.length by
      unfold srcL at hi ⊢
      rw [List.length_map] at hi
      exact ⟨by rw [List.getD_eq_getElem?_getD, List.getElem?_map, List.getElem?_eq_getElem hi, List.getD_eq_getElem?_getD, List.getElem?_eq_getElem hi]; rfl, hi⟩))
    have HPL := Lib.hid (fun m => rstP_row LQ a b day m)
    have HP0 := Lib.hid (show rstP LQ a b day 0 = [] from rfl)
    have HPA := Lib.hid (show rstP LQ a b day (srcL LQ).length = rstS LQ a b day by unfold srcL; rw [List.length_map]; rfl)
    obtain ⟨RP, hRP⟩ : ∃ f, rstP LQ a b day = f := ⟨_, rfl⟩
    rw [hRP] at HSU HPL HP0 HPA
    obtain ⟨pn, hpn⟩ : ∃ k, (srcL LQ).length = k := ⟨_, rfl⟩
    rw [hpn] at HN6 HSG HPA HA6 ⊢
    have hpn6 := HN6.out
    clear hRP hpn
    have HO0 := Lib.hid (OwnL.nil (f := icells) (size := 1) (e := 3) V6 V6.heap.size)
    go_wp2_with fail
    go_loopw [9, 10] (fun v i wr => ∃ k : Nat, k ≤ pn ∧ i = .int .i64 k ∧ OwnL icells 1 3 wr V6.heap.size v (RP k) ∧ Below V6.heap.size V6 wr) (fun _ i _ => pn - (intOf i).toNat)
    case atStart => exact ⟨0, Nat.zero_le _, rfl, by rw [HP0.out]; exact HO0.out, Below.refl _ _⟩
    case round =>
      obtain ⟨k, hk, rfl, ho, hg⟩ := hrel
      have HO := Lib.hid ho
      have HG := Lib.hid hg
      clear ho hg
      by_cases hkn : k < pn
      · have HS := Lib.hid (HSU.out k)
        have HL := Lib.hid (show (RP k).length ≤ 60 by have := HPL.out k; omega)
        obtain ⟨hs1, hs2⟩ := HSG.out k hkn
        have HB := Lib.hid (HSB.out k)
        have HRK := Lib.hid (HRL2.out k hs2 (isRead_sub (List.eraseIdx_sublist LQ k) HREAD.out))
        obtain ⟨b7, o7, rfl, -, -, hc7⟩ := ints_at (HA6.out.below HG.out) hkn
        rw [hs1] at hc7
        obtain ⟨s, hss⟩ : ∃ s, (LQ.getD k q0).src = s := ⟨_, rfl⟩
        rw [hss] at hc7 HS HRK
        have HC7 := Lib.hid hc7
        obtain ⟨er, her⟩ : ∃ x, LQ.eraseIdx k = x := ⟨_, rfl⟩
        rw [her] at HB HRK
        obtain ⟨mm, hmm⟩ : ∃ x, righN (wherS er a day) b = x := ⟨_, rfl⟩
        have HMM := Lib.hid hmm
        rw [hmm] at HB
        rw [HB.out] at HS
        obtain ⟨xs, hxs⟩ : ∃ l, RP k = l := ⟨_, rfl⟩
        rw [hxs] at HO HS HL
        have hki : (k : Int) < (pn : Int) := by omega
        have hwr2 : wrap64 ((k : Int) + 1) = (k : Int) + 1 := wrap_in (by omega)
        have GWr := Lib.hid (G6.out.trans (HG.out.mono G6.out.size))
        have TL1 := Lib.hid (TLX.out s wr.drew GWr.out.drew)
        have HKP := Lib.hid (fun Z (g : Below wr.heap.size wr Z) => (⟨(BV6.out.ext (HG.out.trans (g.mono HG.out.size))).cell 0, (BV6.out.ext (HG.out.trans (g.mono HG.out.size))).cell 1, (BV6.out.ext (HG.out.trans (g.mono HG.out.size))).cell 2, (BV6.out.ext (HG.out.trans (g.mono HG.out.size))).cell 3, HC7.out Z g⟩ : Z.cell? ⟨R, 0, none⟩ = some (.int .i64 a) ∧ Z.cell? ⟨R, 1, none⟩ = some (.int .i64 b) ∧ Z.cell? ⟨R, 2, none⟩ = some (.int .i64 day) ∧ Z.cell? ⟨R, 3, none⟩ = some (.int .i64 known) ∧ Z.cell? ⟨b7, o7 + k, none⟩ = some (.int .i64 s)))
        obtain ⟨p0, p1, p2, p3, p4⟩ := HKP.out wr (Below.refl _ _)
        clear hc7 hs1 hs2 hss her hmm hxs
        go_upto_region 9 with fail
        go_cut [11, 12] from 33 to 43 (fun s11 s12 wx => s11 = .int .i64 mm ∧ s12 = .int .i64 0 ∧ Below wr.heap.size wr wx)
        case first =>
          go_region_held3 (fun Z => Z.cell? ⟨R, 0, none⟩ = some (.int .i64 a) ∧ Z.cell? ⟨R, 1, none⟩ = some (.int .i64 b) ∧ Z.cell? ⟨R, 2, none⟩ = some (.int .i64 day) ∧ Z.cell? ⟨R, 3, none⟩ = some (.int .i64 known) ∧ Z.cell? ⟨b7, o7 + k, none⟩ = some (.int .i64 s))
            (with_reducible refine HKP.out _ ?_; repeat' first | (with_reducible exact Below.refl _ _) | (with_reducible exact GA.out) | (with_reducible exact GB.out) | (with_reducible refine Below.drew ?_))
            (first
              | (go_at_call 72; (with_reducible refine (TL1.out).mono ?_); rintro e V8 ⟨v8, ls8, rfl, hmd, hl8⟩; obtain ⟨A8, c8, e8, -, -, hp8⟩ := hmd.prf; subst e8; have GA := Lib.hid (show Below wr.heap.size wr V8 from (Below.refl _ wr).drew.trans hmd.g); have T29 := Lib.hid (by have := refRightF_any A8 ls8.length c8 ls8 a b day known V8 hp8 (by have h1 := (lss_sub lq s).length_le; have h2 := okL_len HKL.out; rw [← hl8, List.length_map] at h1; omega); unfold NumEnd at this; rwa [hl8, HRK.out.1, HRK.out.2, if_pos rfl, HMM.out] at this); clear hmd hl8 hp8)
              | (go_at_call 29; (with_reducible refine (T29.out).mono ?_); rintro e V9 ⟨rfl, hg⟩; have GB := Lib.hid (GA.out.trans (hg.mono GA.out.size)); clear hg))
          all_goals (try go_wp2_with fail)
          all_goals go_meet
          all_goals exact ⟨rfl, rfl, GB.out⟩
        case rest =>
          obtain ⟨rfl, rfl, hg9⟩ := hcut
          have HG9 := Lib.hid (HG.out.trans (hg9.mono HG.out.size))
          have HO9 := Lib.hid (HO.out.ext hg9)
          obtain ⟨-, -, -, -, p4'⟩ := HKP.out wc hg9
          clear hg9 p0 p1 p2 p3 p4
          by_cases hmn : mm = nn
          · have hnb : (mm != nn) = false := by simpa using hmn
            have HS2 := Lib.hid (show RP (k + 1) = xs by rw [HS.out, if_neg (by simpa using hmn), List.append_nil])
            clear hmn
            go_wp2_with fail
            go_roundw
            case rel => exact ⟨k + 1, by omega, rfl, by rw [HS2.out]; exact HO9.out, HG9.out⟩
            case measure => simp only [intOf]; omega
          · have hnb : (mm != nn) = true := by simpa using hmn
            have HS2 := Lib.hid (show RP (k + 1) = xs ++ [s] by rw [HS.out, if_pos (by simpa using hmn)])
            have GX := Lib.hid (one_more wc (.cells #[.int .i64 s] 3))
            have IX := Lib.hid (one_int (Blk.new wc 3 #[.int .i64 s]))
            have OX := Lib.hid (HO9.out.ext GX.out)
            have HBB := Lib.hid (Nat.le_trans HG9.out.size GX.out.size)
            clear hmn
            go_wp2_with (at_builtin; go_loud (refine wpList_app kdI (by rfl) _ _ (by rfl) V6.heap.size _ xs (by rfl) OX.out _ 1 1 [s] (by rfl) IX.out (by have := HL.out; omega) HBB.out ?_); intro v1 w1 ho hgr hz; have HO1 := Lib.hid ho; have GV1 := Lib.hid ((HG9.out.trans (GX.out.mono HG9.out.size)).trans (OX.out.below hgr (Nat.le_refl _) HBB.out)); clear ho hgr hz)
            go_roundw
            case rel => exact ⟨k + 1, by omega, by go_num, by rw [HS2.out]; exact HO1.out, GV1.out⟩
            case measure => simp [intOf]; omega
      · obtain rfl : k = pn := by omega
        go_wp2_with fail
        go_ret2
        rw [HPA.out] at HO
        exact listEnd_ok HO.out (G1.out.trans ((G6.out.trans (HG.out.mono G6.out.size)).mono G1.out.size))
end Go.Proofs.YtehhlgdkhecacaaGreat
namespace Go.Proofs.YtehhlgdkhecacaaGreat
open Go.RowKit Go.Shelf
theorem kind_oth {q : Qf} (h : isQf q = true) : q.kind = 2 ↔ q.oth ≠ 0 := by
  rw [isQf_ref] at h
  simp only [Bool.and_eq_true] at h
  have h1 := h.2.2.1
  unfold wherB at h1
  split at h1
  · next k =>
    simp only [Bool.and_eq_true, decide_eq_true_eq] at h1
    have h2 := h1.1
    unfold rng at h2
    simp only [Bool.and_eq_true, decide_eq_true_eq] at h2
    exact ⟨fun _ => by omega, fun _ => k⟩
  · next k =>
    simp only [Bool.and_eq_true, decide_eq_true_eq] at h1
    exact ⟨fun e => absurd e k, fun e => absurd h1.1 e⟩
/-- The persons of the first k proofs, and of the next one's first j. -/
def pesK (c : List Qf) (k j : Nat) : List Int := setL (namL (c.take k) ++ (c.getD k q0).per.take j)
theorem pesK_succ (c : List Qf) (k : Nat) {j : Nat} (hj : j < (c.getD k q0).per.length) : pesK c k (j + 1) = putI (pesK c k j) ((c.getD k q0).per.getD j 0) := by
  unfold pesK
  rw [take_snoc (d := 0) hj, ← List.append_assoc, setL_snoc]
theorem pesK_next {c : List Qf} {k : Nat} (hk : k < c.length) (hq : isQf (c.getD k q0) = true) : pesK c (k + 1) 0 = if (c.getD k q0).oth = 0 then pesK c k (c.getD k q0).per.length else putI (pesK c k (c.getD k q0).per.length) (c.getD k q0).oth := by
  have hn : namL (c.take (k + 1)) = namL (c.take k) ++ namQ (c.getD k q0) := by
    rw [take_snoc (d := q0) hk]
    unfold namL
    rw [List.flatMap_append]
    simp
  unfold pesK
  rw [List.take_zero, List.append_nil, List.take_length, hn]
  unfold namQ
  by_cases h : (c.getD k q0).oth = 0
  · rw [if_pos h, if_neg (fun e => (kind_oth hq).1 e h), List.append_nil]
  · rw [if_neg h, if_pos ((kind_oth hq).2 h), ← List.append_assoc, setL_snoc]
theorem pesK_len {c : List Qf} (hq : ∀ q ∈ c, q.per.length ≤ 4) (hc : c.length ≤ 60) (k j : Nat) : (pesK c k j).length ≤ 400 := by
  unfold pesK
  have h1 := setL_len (namL (c.take k) ++ (c.getD k q0).per.take j)
  have h2 := namL_len (c.take k) (fun q h => hq q (List.mem_of_mem_take h))
  rw [List.length_append, List.length_take] at h1
  rw [List.length_take] at h2
  by_cases hk : k < c.length
  · have h3 := hq _ (getD_mem hk)
    omega
  · have e : (c.getD k q0).per.length = 0 := by rw [List.getD_eq_getElem?_getD, List.getElem?_eq_none (by omega)]; rfl
    omega
theorem pesK_all (c : List Qf) : pesK c c.length 0 = persS c := by
  unfold pesK persS
  rw [List.take_length, List.take_zero, List.append_nil]
set_option maxRecDepth 100000 in
set_option maxHeartbeats 16000000 in
theorem refPersons_any (A : Option Addr) (n c : Nat) (l : List Pf) (w : World) (ha : Cn w A n l) :
    Calls Tryz.prog 80 #[.slice A n c] w fun e w' => (∃ v, e = .returned v ∧ OwnL icells 1 3 w' w.heap.size v (persS (l.map Pf.q))) ∧ Below w.heap.size w w' := by
  have HA := Lib.hid ha.prf
  have hn60 := ha.n
  have HQ := Lib.hid ha.q
  have HLN := Lib.hid ha.prf.len
  have HST := Lib.hid (fun k j (hj : j < (l.getD k p0).q.per.length) => (show pesK (l.map Pf.q) k (j + 1) = putI (pesK (l.map Pf.q) k j) ((l.getD k p0).q.per.getD j 0) by
    have := pesK_succ (l.map Pf.q) k (j := j) (by rw [map_pf2]; exact hj)
    rwa [map_pf2] at this))
  have HNX := Lib.hid (fun k (hk : k < n) => (show pesK (l.map Pf.q) (k + 1) 0 = if (l.getD k p0).q.oth = 0 then pesK (l.map Pf.q) k (l.getD k p0).q.per.length else putI (pesK (l.map Pf.q) k (l.getD k p0).q.per.length) (l.getD k p0).q.oth by
    have := pesK_next (c := l.map Pf.q) (k := k) (by rw [List.length_map, ha.prf.len]; exact hk) (by rw [map_pf2]; exact ha.q _ (mem_pf (by rw [ha.prf.len]; exact hk)))
    rwa [map_pf2] at this))
  have HLE := Lib.hid (fun k j => pesK_len (c := l.map Pf.q) (fun q hq => by
    obtain ⟨p, hp, rfl⟩ := List.mem_map.1 hq
    exact (isQf_per (ha.q p hp)).2) (by rw [List.length_map, ha.prf.len]; exact ha.n) k j)
  have HUP := Lib.hid (fun k j => (show (pesK (l.map Pf.q) k j).Pairwise (· < ·) from setL_up _))
  have HAL := Lib.hid (show pesK (l.map Pf.q) n 0 = persS (l.map Pf.q) by rw [← pesK_all, List.length_map, ha.prf.len])
  have HK0 := Lib.hid (show pesK (l.map Pf.q) 0 0 = [] from by unfold pesK; rw [List.take_zero, List.take_zero]; rfl)
  obtain ⟨PK, hPK⟩ : ∃ f, pesK (l.map Pf.q) = f := ⟨_, rfl⟩
  rw [hPK] at HST HNX HLE HUP HAL HK0
  obtain ⟨PF, hPF⟩ : ∃ f, persS (l.map Pf.q) = f := ⟨_, rfl⟩
  rw [hPF] at HAL ⊢
  clear ha hPK hPF
  have HO0 := Lib.hid (OwnL.nil (f := icells) (size := 1) (e := 3) w w.heap.size)
  go_enter Tryz.func80, Tryz.ntmps80
  go_wp2_with fail
  go_loopw [3, 4] (fun v i wr => ∃ k : Nat, k ≤ n ∧ i = .int .i64 k ∧ OwnL icells 1 3 wr w.heap.size v (PK k 0) ∧ Below w.heap.size w wr) (fun _ i _ => n - (intOf i).toNat)
  case atStart => exact ⟨0, Nat.zero_le _, rfl, by rw [HK0.out]; exact HO0.out, Below.refl _ _⟩
  case round =>
    rename World => Wo
    obtain ⟨k, hk, rfl, ho, hg⟩ := hrel
    have HO := Lib.hid ho
    have HG := Lib.hid hg
    clear ho hg
    by_cases hkn : k < n
    · have HNK := Lib.hid (HNX.out k hkn)
      obtain ⟨b0, o0, rfl, -, hyi, hym, -⟩ := (HA.out.below HG.out).at hkn
      have HY4 := Lib.hid (show (l.getD k p0).n ≤ 4 by have h1 := isQf_per (HQ.out _ hym); have h2 := hyi.len; omega)
      have HAT := Lib.hid (fun W (g : Below w.heap.size w W) => (show PI W (l.getD k p0) ∧ Nine W b0 (o0 + k * 9) (l.getD k p0) by
        obtain ⟨b9, o9, e9, -, hi9, -, hc9⟩ := (HA.out.below g).at hkn
        cases e9
        exact ⟨hi9, hc9 _ (Below.refl _ _)⟩))
      have HSK := Lib.hid (fun j h => HST.out k j h)
      have HYL := Lib.hid hyi.len
      obtain ⟨y, hy⟩ : ∃ y, l.getD k p0 = y := ⟨_, rfl⟩
      rw [hy] at HNK HAT HSK HYL HY4
      have hki : (k : Int) < (n : Int) := by omega
      have hwk : wrap64 ((k : Int) + 1) = (k : Int) + 1 := wrap_in (by omega)
      clear hyi hy hym
      go_wp2_with fail
      go_loopw [3, 5] (fun v i wr => ∃ j : Nat, j ≤ y.n ∧ i = .int .i64 j ∧ OwnL icells 1 3 wr w.heap.size v (PK k j) ∧ Below w.heap.size w wr) (fun _ i _ => y.n - (intOf i).toNat)
      case atStart => exact ⟨0, Nat.zero_le _, rfl, HO.out, HG.out⟩
      case round =>
        obtain ⟨j, hj, rfl, ho, hg⟩ := hrel
        have HOj := Lib.hid ho
        have HGj := Lib.hid hg
        clear ho hg
        obtain ⟨hyi, -, -, e2, e3, -⟩ := HAT.out wr HGj.out
        by_cases hjn : j < y.n
        · obtain ⟨b5, o5, eyA, -, -, hcp⟩ := ints_at hyi.i hjn
          have HS1 := Lib.hid (HSK.out j (by rw [HYL.out]; exact hjn))
          obtain ⟨x, hx⟩ : ∃ x, y.q.per.getD j 0 = x := ⟨_, rfl⟩
          rw [hx] at hcp HS1
          have HL := Lib.hid (HLE.out k j)
          have HU := Lib.hid (HUP.out k j)
          obtain ⟨xs, hxs⟩ : ∃ s, PK k j = s := ⟨_, rfl⟩
          rw [hxs] at HOj HS1 HL HU
          obtain ⟨A1, c1, e1, -, -, har, -⟩ := OwnL.arr kdI HOj.out
          subst e1
          have T42 := Lib.hid (refPut_any A1 xs.length c1 xs x wr har (by have := HL.out; omega) HU.out)
          have kp := hcp _ (Below.refl _ _)
          rw [eyA] at e2
          have hji : (j : Int) < (y.n : Int) := by omega
          have hwj : wrap64 ((j : Int) + 1) = (j : Int) + 1 := wrap_in (by have := HY4.out; omega)
          have HWJ := Lib.hid hwj
          obtain ⟨ln, hln⟩ : ∃ k, xs.length = k := ⟨_, rfl⟩
          rw [hln] at T42 ⊢
          clear hyi hcp hx hxs har e3 eyA hln
          go_wp2_with (go_at_call 42; (with_reducible refine (T42.out).mono ?_); rintro e W2 ⟨⟨v2, rfl, ho2⟩, hg2⟩; have HO2 := Lib.hid (ho2.mono HGj.out.size); have HG2 := Lib.hid (HGj.out.trans (hg2.mono HGj.out.size)); clear ho2 hg2)
          go_roundw
          case rel => exact ⟨j + 1, by omega, by rw [HWJ.out]; rfl, by rw [HS1.out]; exact HO2.out, HG2.out⟩
          case measure => rw [HWJ.out]; simp only [intOf]; omega
        · obtain rfl : j = y.n := by omega
          rw [HYL.out] at HNK
          have HL := Lib.hid (HLE.out k y.n)
          have HU := Lib.hid (HUP.out k y.n)
          obtain ⟨xs, hxs⟩ : ∃ s, PK k y.n = s := ⟨_, rfl⟩
          rw [hxs] at HOj HNK HL HU
          clear hyi hxs
          by_cases hoth : y.q.oth = 0
          · have hob : (y.q.oth != 0) = false := by simpa using hoth
            have HN2 := Lib.hid (show PK (k + 1) 0 = xs by rw [HNK.out, if_pos hoth])
            clear hoth
            go_wp2_with fail
            go_roundw
            case rel => exact ⟨k + 1, by omega, by go_num, by rw [HN2.out]; exact HOj.out, HGj.out⟩
            case measure => simp [intOf]; omega
          · have hob : (y.q.oth != 0) = true := by simpa using hoth
            have HN2 := Lib.hid (show PK (k + 1) 0 = putI xs y.q.oth by rw [HNK.out, if_neg hoth])
            obtain ⟨A1, c1, e1, -, -, har, -⟩ := OwnL.arr kdI HOj.out
            subst e1
            have T42 := Lib.hid (refPut_any A1 xs.length c1 xs y.q.oth wr har (by have := HL.out; omega) HU.out)
            obtain ⟨ln, hln⟩ : ∃ k, xs.length = k := ⟨_, rfl⟩
            rw [hln] at T42 ⊢
            clear hoth har hln
            go_wp2_with (go_at_call 42; (with_reducible refine (T42.out).mono ?_); rintro e W2 ⟨⟨v2, rfl, ho2⟩, hg2⟩; have HO2 := Lib.hid (ho2.mono HGj.out.size); have HG2 := Lib.hid (HGj.out.trans (hg2.mono HGj.out.size)); clear ho2 hg2)
            go_roundw
            case rel => exact ⟨k + 1, by omega, by go_num, by rw [HN2.out]; exact HO2.out, HG2.out⟩
            case measure => simp [intOf]; omega
    · obtain rfl : k = n := by omega
      go_wp2_with fail
      go_ret
      exact ⟨⟨_, rfl, by rw [← HAL.out]; exact HO.out⟩, HG.out⟩
end Go.Proofs.YtehhlgdkhecacaaGreat
namespace Go.Proofs.YtehhlgdkhecacaaGreat
open Go.RowKit Go.Shelf
theorem rAsk_ff (l : List Qf) (a b d k : Int) : rAskE l a b d k false false = lookE l [d, k] := by
  unfold rAskE lookE
  by_cases h : okL l = true
  · rw [if_pos h, if_pos h, Bool.false_and, Bool.false_and, if_neg (by decide), if_neg (by decide), List.any_cons, List.any_cons, List.any_nil]
    unfold badDay
    cases rng d 0 4166 <;> cases rng k 0 4166 <;> rfl
  · rw [if_neg h, if_neg h]
theorem nam_rng {c : List Qf} (hq : ∀ q ∈ c, isQf q = true) {x : Int} (hx : x ∈ persS c) : rng x 1 999 = true := by
  unfold persS at hx
  have hm := setL_mem.1 hx
  unfold namL at hm
  obtain ⟨q, hqc, hxq⟩ := List.mem_flatMap.1 hm
  have h := hq q hqc
  rw [isQf_ref] at h
  simp only [Bool.and_eq_true] at h
  unfold namQ at hxq
  rw [List.mem_append] at hxq
  rcases hxq with h1 | h1
  · have h2 := h.2.1
    unfold perB at h2
    simp only [Bool.and_eq_true] at h2
    exact List.all_eq_true.1 h2.2 x h1
  · by_cases k : q.kind = 2
    · rw [if_pos k, List.mem_singleton] at h1
      have h2 := h.2.2.1
      unfold wherB at h2
      rw [if_pos k] at h2
      simp only [Bool.and_eq_true] at h2
      rw [h1]; exact h2.1
    · rw [if_neg k] at h1; cases h1
theorem wher_unread {c : List Qf} (h : isRead c = false) (x day : Int) : wherS c x day = [] := by
  have e : reads c = [] := by
    unfold isRead at h
    cases hr : reads c with
    | nil => rfl
    | cons a b => rw [hr] at h; simp at h
  unfold wherS
  rw [e]; rfl
theorem whE_of {l : List Qf} {day known x : Int} (h : lookE l [day, known] = 0) (hx : rng x 1 999 = true) : whE l day known x = if isRead (cntL l known) = true then 0 else 24 := by
  have hok := look_ok h
  unfold whE readE
  have ha : askE l x 0 [day, known] = 0 := by
    unfold askE
    rw [if_pos hok, if_pos hx, if_pos (by decide)]
    exact h
  rw [if_pos ha]
theorem look_sub {l : List Qf} {day known s : Int} (h : lookE l [day, known] = 0) : lookE (lssL l s) [day, known] = 0 := by
  have hok := look_ok h
  unfold lookE at h ⊢
  rw [if_pos hok] at h
  rw [if_pos (okL_subl hok (lss_sub _ _))]
  exact h
theorem mov_eq {l : List Qf} {day known s x : Int} (h : lookE l [day, known] = 0) (hx : rng x 1 999 = true) :
    movB l (lssL l s) day known x = (decide (isRead (cntL l known) ≠ isRead (cntL (lssL l s) known)) || decide (wherS (cntL l known) x day ≠ wherS (cntL (lssL l s) known) x day)) := by
  unfold movB whA
  rw [whE_of h hx, whE_of (look_sub h) hx]
  cases h1 : isRead (cntL l known) <;> cases h2 : isRead (cntL (lssL l s) known)
  · rw [wher_unread h1, wher_unread h2]; simp
  · simp
  · simp
  · simp
set_option maxRecDepth 100000 in
set_option maxHeartbeats 16000000 in
theorem refMoved_any (A : Option Addr) (n c : Nat) (l : List Pf) (s : Int) (a b day known : Int) (w : World) (ha : Prf w A n l) (hn : n ≤ 9223372036854775807) :
    Calls Tryz.prog 18 #[.slice A n c, .int .i64 s, .agg #[.int .i64 a, .int .i64 b, .int .i64 day, .int .i64 known]] w (ListEnd (movS (l.map Pf.q) s day known) (movE (l.map Pf.q) s day known) w) := by
  obtain ⟨R, hR⟩ : ∃ R, w.heap.size = R := ⟨_, rfl⟩
  obtain ⟨W1, hW1⟩ : ∃ X, w.alloc (.cells #[.int .i64 a, .int .i64 b, .int .i64 day, .int .i64 known] 24) = X := ⟨_, rfl⟩
  have G1 := Lib.hid (show Below w.heap.size w W1 by rw [← hW1]; exact one_more _ _)
  have B1 := Lib.hid (show Blk W1 R 24 #[.int .i64 a, .int .i64 b, .int .i64 day, .int .i64 known] by rw [← hW1, ← hR]; exact Blk.new _ _ _)
  have HW1 := Lib.hid hW1
  have HRR := Lib.hid hR
  have HA := Lib.hid (ha.below G1.out)
  have TA := Lib.hid (by have := refAsked_any A n c l a b day known false false W1 HA.out hn; rwa [rAsk_ff] at this)
  have HOK := Lib.hid (fun (h : lookE (l.map Pf.q) [day, known] = 0) => look_ok h)
  have HOM := Lib.hid (fun (h : okL (l.map Pf.q) = true) => ok_mem ha h)
  have TAT := Lib.hid (fun (h : n ≤ 60) W (g : Below W1.heap.size W1 W) => at_any A n c l s W (HA.out.below g) (by omega))
  have TC := Lib.hid (fun (h : okL (l.map Pf.q) = true) W (g : Below W1.heap.size W1 W) => refCnt_any A n c l known W (HA.out.below g) h)
  have TL := Lib.hid (fun (h1 : n ≤ 60) (h2 : ∀ p ∈ l, 1 ≤ p.n ∧ p.n ≤ 4) W (g : Below W1.heap.size W1 W) => refLess_any A n c l s W (HA.out.below g) (by omega) (fun p hp => by have := (h2 p hp).2; omega))
  have HFQ := Lib.hid (cntP_q l known)
  have HATN := Lib.hid (show atN (l.map Pf.q) s < 0 ↔ s ∉ srcL (l.map Pf.q) from atN_neg)
  have HME := Lib.hid (show movE (l.map Pf.q) s day known = if lookE (l.map Pf.q) [day, known] = 0 then (if s ∈ srcL (l.map Pf.q) then 0 else 3) else lookE (l.map Pf.q) [day, known] from rfl)
  have HMV := Lib.hid (fun (h : lookE (l.map Pf.q) [day, known] = 0) x hx => mov_eq (s := s) (x := x) h hx)
  obtain ⟨fl, hfl⟩ : ∃ s, (l.filter fun p => cnt p.q known) = s := ⟨_, rfl⟩
  rw [hfl] at TC HFQ
  obtain ⟨lq, hlq⟩ : ∃ x, l.map Pf.q = x := ⟨_, rfl⟩
  rw [hlq] at TA HOK HOM TC TL TAT HFQ HATN HME HMV ⊢
  obtain ⟨LQ, hLQ⟩ : ∃ x, cntL lq known = x := ⟨_, rfl⟩
  rw [hLQ] at HFQ HMV
  have HMS := Lib.hid (show movS lq s day known = (persS LQ).filter (movB lq (lssL lq s) day known) by unfold movS; rw [hLQ])
  obtain ⟨le, hle⟩ : ∃ x, lookE lq [day, known] = x := ⟨_, rfl⟩
  rw [hle] at TA HOK HME HMV
  obtain ⟨me, hme⟩ : ∃ x, movE lq s day known = x := ⟨_, rfl⟩
  rw [hme] at HME ⊢
  obtain ⟨MS, hMS⟩ : ∃ x, movS lq s day known = x := ⟨_, rfl⟩
  rw [hMS] at HMS ⊢
  obtain ⟨ix, hix⟩ : ∃ x, atN lq s = x := ⟨_, rfl⟩
  rw [hix] at TAT HATN
  clear ha hR hW1 hfl hLQ hle hme hlq hMS hix
  by_cases h0 : le = 0
  rotate_left
  · have hne : (le != 0) = true := by simpa using h0
    have HN0 := Lib.hid h0
    have h1 := HME.out
    rw [if_neg h0] at h1
    subst h1
    clear h0
    go_enter Tryz.func18, Tryz.ntmps18
    go_upto_region 1 with fail
    rw [HW1.out, HRR.out]
    have k0 := B1.out.cell 0
    have k1 := B1.out.cell 1
    have k2 := B1.out.cell 2
    have k3 := B1.out.cell 3
    go_wp2_with (go_at_call 77; (with_reducible refine (TA.out).mono ?_); rintro e V2 ⟨rfl, hg⟩; have GV2 := Lib.hid hg; clear hg)
    go_ret2
    exact listEnd_no HN0.out (G1.out.trans (GV2.out.mono G1.out.size))
  · have hok := HOK.out h0
    have HKL := Lib.hid hok
    obtain ⟨hn6, hp4⟩ := HOM.out hok
    have HP4 := Lib.hid hp4
    have HMV2 := Lib.hid (HMV.out h0)
    have HME2 := Lib.hid (show me = if s ∈ srcL lq then 0 else 3 by rw [HME.out, if_pos h0])
    subst h0
    clear hp4
    go_enter Tryz.func18, Tryz.ntmps18
    go_upto_region 1 with fail
    rw [HW1.out, HRR.out]
    have k0 := B1.out.cell 0
    have k1 := B1.out.cell 1
    have k2 := B1.out.cell 2
    have k3 := B1.out.cell 3
    by_cases hs : s ∈ srcL lq
    rotate_left
    · obtain rfl : me = 3 := by rw [HME2.out, if_neg hs]
      have hd : decide (ix < 0) = true := decide_eq_true (HATN.out.2 hs)
      clear hs hok
      go_wp2_with (first
        | (go_at_call 77; (with_reducible refine (TA.out).mono ?_); rintro e V2 ⟨rfl, hg⟩; have GV2 := Lib.hid hg; clear hg)
        | (go_at_call 78; (with_reducible refine (TAT.out hn6 _ GV2.out).mono ?_); rintro e V3 ⟨rfl, hg⟩; have GV3 := Lib.hid (GV2.out.trans (hg.mono GV2.out.size)); clear hg))
      go_ret2
      exact listEnd_no (by decide) (G1.out.trans (GV3.out.mono G1.out.size))
    · obtain rfl : me = 0 := by rw [HME2.out, if_pos hs]
      have hd : decide (ix < 0) = false := decide_eq_false (fun h => HATN.out.1 h hs)
      clear hs
      go_upto_region 7 with (first
        | (go_at_call 77; (with_reducible refine (TA.out).mono ?_); rintro e V2 ⟨rfl, hg⟩; have GV2 := Lib.hid hg; clear hg)
        | (go_at_call 78; (with_reducible refine (TAT.out hn6 _ GV2.out).mono ?_); rintro e V3 ⟨rfl, hg⟩; have GV3 := Lib.hid (GV2.out.trans (hg.mono GV2.out.size)); clear hg)
        | (go_at_call 72; (with_reducible refine (TL.out hn6 HP4.out _ GV3.out).mono ?_); rintro e V4 ⟨v4, ls, rfl, hmd, hls⟩; obtain ⟨AL0, c4, e4, -, -, hp4'⟩ := hmd.prf; subst e4; have HLS := Lib.hid hls; have HPL := Lib.hid hp4'; have GV4 := Lib.hid (GV3.out.trans (hmd.g.mono GV3.out.size)); clear hmd hls hp4'))
      clear k0 k1 k2 k3 hd
      have HOKS := Lib.hid (show okL (ls.map Pf.q) = true by rw [HLS.out]; exact okL_subl HKL.out (lss_sub _ _))
      obtain ⟨nl, hnl⟩ : ∃ k, ls.length = k := ⟨_, rfl⟩
      rw [hnl] at HPL ⊢
      clear hnl
      have BV4 := Lib.hid (B1.out.ext GV4.out)
      have k3 := BV4.out.cell 3
      go_upto_region 8 with (go_at_call 71; (with_reducible refine (TC.out hok _ GV4.out).mono ?_); rintro e V5 ⟨A5, n5, c5, rfl, hcn, hg⟩; have HCN := Lib.hid hcn; have GS5 := Lib.hid hg; have GV5 := Lib.hid (GV4.out.trans (hg.mono GV4.out.size)); clear hcn hg)
      clear k3 hok
      have BV5 := Lib.hid (B1.out.ext GV5.out)
      have k3 := BV5.out.cell 3
      have TC2 := Lib.hid (refCnt_any AL0 nl c4 ls known V5 (HPL.out.below GS5.out) HOKS.out)
      go_upto_region 9 with (go_at_call 71; (with_reducible refine (TC2.out).mono ?_); rintro e V6 ⟨A6, n6, c6, rfl, hcn, hg⟩; have HCN2 := Lib.hid hcn; have GS6 := Lib.hid hg; have GV6 := Lib.hid (GV5.out.trans (hg.mono GV5.out.size)); clear hcn hg)
      clear k3
      have HFQ2 := Lib.hid (show (ls.filter fun p => cnt p.q known).map Pf.q = cntL (lssL lq s) known by rw [cntP_q, HLS.out])
      obtain ⟨fs, hfs⟩ : ∃ x, (ls.filter fun p => cnt p.q known) = x := ⟨_, rfl⟩
      rw [hfs] at HCN2 HFQ2
      obtain ⟨SQ, hSQ⟩ : ∃ x, cntL (lssL lq s) known = x := ⟨_, rfl⟩
      rw [hSQ] at HFQ2 HMV2
      clear hfs hSQ
      have HC1 := Lib.hid (HCN.out.below GS6.out)
      have T79 := Lib.hid (by have := refReads_any A5 n5 c5 fl V6 HC1.out.prf HC1.out.n (fun p hp => by have h1 := isQf_per (HC1.out.q p hp); have h2 := (HC1.out.prf.p p hp).len; omega) HC1.out.many; rwa [HFQ.out] at this)
      have T79b := Lib.hid (fun W (g : Below V6.heap.size V6 W) => by have := refReads_any A6 n6 c6 fs W (HCN2.out.below g).prf HCN2.out.n (fun p hp => by have h1 := isQf_per (HCN2.out.q p hp); have h2 := (HCN2.out.prf.p p hp).len; omega) HCN2.out.many; rwa [HFQ2.out] at this)
      have T80 := Lib.hid (fun W (g : Below V6.heap.size V6 W) => by have := refPersons_any A5 n5 c5 fl W (HC1.out.below g); rwa [HFQ.out] at this)
      go_upto_region 10 with (go_at_call 79; (with_reducible refine (T79.out).mono ?_); rintro e V7 hme; obtain ⟨RA, xn, rc, hx, rfl, hrs, hg⟩ := hme.rs; have HRX := Lib.hid hrs; have GS7 := Lib.hid hg; clear hrs hg hme)
      go_upto_region 11 with (go_at_call 79; (with_reducible refine (T79b.out _ GS7.out).mono ?_); rintro e V8 hme; obtain ⟨RB, yn, rd, hy, rfl, hrs, hg⟩ := hme.rs; have HRY := Lib.hid hrs; have HRX8 := Lib.hid (HRX.out.below hg); have GS8 := Lib.hid (GS7.out.trans (hg.mono GS7.out.size)); clear hrs hg hme)
      go_upto_region 12 with (go_at_call 80; (with_reducible refine (T80.out _ GS8.out).mono ?_); rintro e V9 ⟨⟨v9, rfl, ho⟩, hg⟩; obtain ⟨A9, c9, e9, -, -, ha9, -⟩ := OwnL.arr kdI ho; subst e9; have HA9 := Lib.hid ha9; have HRX9 := Lib.hid (HRX8.out.below hg); have HRY9 := Lib.hid (HRY.out.below hg); have GS9 := Lib.hid (GS8.out.trans (hg.mono GS8.out.size)); clear ho hg ha9)
      have GV9 := Lib.hid (GV6.out.trans (GS9.out.mono GV6.out.size))
      have BV9 := Lib.hid (B1.out.ext GV9.out)
      have HCX := Lib.hid (HC1.out.below GS9.out)
      have HCY := Lib.hid (HCN2.out.below GS9.out)
      have TWX := Lib.hid (fun x W (g : Below V9.heap.size V9 W) => (show Calls Tryz.prog 81 #[.slice A5 n5 c5, .slice RA xn rc, .agg #[.int .i64 x, .int .i64 day]] W fun e w' => (∃ v, e = .returned v ∧ OwnL icells 1 3 w' W.heap.size v (wherS LQ x day)) ∧ Below W.heap.size W w' by
        have := refWhere_any A5 n5 c5 fl RA xn rc hx x day W (HCX.out.below g) (by rw [HFQ.out]; exact HRX9.out.below g)
        rwa [HFQ.out] at this))
      have TWY := Lib.hid (fun x W (g : Below V9.heap.size V9 W) => (show Calls Tryz.prog 81 #[.slice A6 n6 c6, .slice RB yn rd, .agg #[.int .i64 x, .int .i64 day]] W fun e w' => (∃ v, e = .returned v ∧ OwnL icells 1 3 w' W.heap.size v (wherS SQ x day)) ∧ Below W.heap.size W w' by
        have := refWhere_any A6 n6 c6 fs RB yn rd hy x day W (HCY.out.below g) (by rw [HFQ2.out]; exact HRY9.out.below g)
        rwa [HFQ2.out] at this))
      have HIX := Lib.hid (show isRead LQ = !decide (xn = 0) by rw [isRead_len, HRX9.out.len])
      have HIY := Lib.hid (show isRead SQ = !decide (yn = 0) by rw [isRead_len, HRY9.out.len])
      have HWL := Lib.hid (show ∀ x, (wherS LQ x day).length ≤ 7 ∧ (wherS SQ x day).length ≤ 7 from fun x => by
        rw [← wheK_all, ← wheK_all]
        exact ⟨wheK_len (fun i hi => by rw [← HFQ.out, map_pf2]; exact HCN.out.q _ (mem_pf (by rw [← HFQ.out, List.length_map] at hi; exact hi))) _ _ _, wheK_len (fun i hi => by rw [← HFQ2.out, map_pf2]; exact HCN2.out.q _ (mem_pf (by rw [← HFQ2.out, List.length_map] at hi; exact hi))) _ _ _⟩)
      have HQQ := Lib.hid (show ∀ q ∈ LQ, isQf q = true from fun q hq => by
        rw [← HFQ.out] at hq
        obtain ⟨p, hp, rfl⟩ := List.mem_map.1 hq
        exact HCN.out.q p hp)
      have HPLN := Lib.hid (show (persS LQ).length ≤ 400 by
        rw [← pesK_all]
        exact pesK_len (fun q hq => (isQf_per (HQQ.out q hq)).2) (by rw [← HFQ.out, List.length_map, HCN.out.prf.len]; exact HCN.out.n) _ _)
      have HRNG := Lib.hid (fun k (hk : k < (persS LQ).length) => nam_rng HQQ.out (x := (persS LQ).getD k 0) (List.mem_of_getElem? (getD_int1 hk)))
      have HFS := Lib.hid (fun k (hk : k < (persS LQ).length) => filt_succ (persS LQ) (movB lq (lssL lq s) day known) hk)
      have HFA := Lib.hid (show ((persS LQ).take (persS LQ).length).filter (movB lq (lssL lq s) day known) = MS by rw [List.take_length, HMS.out])
      have HFL := Lib.hid (fun k => (show (((persS LQ).take k).filter (movB lq (lssL lq s) day known)).length ≤ (persS LQ).length by
        have h1 := List.length_filter_le (movB lq (lssL lq s) day known) ((persS LQ).take k)
        rw [List.length_take] at h1
        omega))
      obtain ⟨MK, hMK⟩ : ∃ f : Nat → List Int, (fun k => ((persS LQ).take k).filter (movB lq (lssL lq s) day known)) = f := ⟨_, rfl⟩
      have hmk : ∀ k, ((persS LQ).take k).filter (movB lq (lssL lq s) day known) = MK k := fun k => by rw [← hMK]
      have HM0 := Lib.hid (show MK 0 = [] by rw [← hmk, List.take_zero]; rfl)
      rw [hmk] at HFA
      simp only [hmk] at HFS HFL
      obtain ⟨ps, hps⟩ : ∃ f, persS LQ = f := ⟨_, rfl⟩
      rw [hps] at HA9 HPLN HRNG HFS HFA HFL ⊢
      obtain ⟨pn, hpn⟩ : ∃ k, ps.length = k := ⟨_, rfl⟩
      rw [hpn] at HA9 HPLN HRNG HFS HFA HFL ⊢
      have hpn4 := HPLN.out
      clear hMK hmk hps hpn
      have HO0 := Lib.hid (OwnL.nil (f := icells) (size := 1) (e := 3) V9 V9.heap.size)
      go_wp2_with fail
      go_loopw [15, 16] (fun v i wr => ∃ k : Nat, k ≤ pn ∧ i = .int .i64 k ∧ OwnL icells 1 3 wr V9.heap.size v (MK k) ∧ Below V9.heap.size V9 wr) (fun _ i _ => pn - (intOf i).toNat)
      case atStart => exact ⟨0, Nat.zero_le _, rfl, by rw [HM0.out]; exact HO0.out, Below.refl _ _⟩
      case round =>
        obtain ⟨k, hk, rfl, ho, hg⟩ := hrel
        have HO := Lib.hid ho
        have HG := Lib.hid hg
        clear ho hg
        by_cases hkn : k < pn
        · have HS := Lib.hid (HFS.out k hkn)
          have HL := Lib.hid (show (MK k).length ≤ 400 by have := HFL.out k; omega)
          have hrn := HRNG.out k hkn
          obtain ⟨b7, o7, rfl, -, -, hc7⟩ := ints_at (HA9.out.below HG.out) hkn
          have HC7 := Lib.hid hc7
          obtain ⟨x, hx9⟩ : ∃ x, ps.getD k 0 = x := ⟨_, rfl⟩
          rw [hx9] at HC7 HS hrn
          have HMX := Lib.hid (HMV2.out x hrn)
          rw [HMX.out] at HS
          obtain ⟨xs, hxs⟩ : ∃ l, MK k = l := ⟨_, rfl⟩
          rw [hxs] at HO HS HL
          have hki : (k : Int) < (pn : Int) := by omega
          have hwr2 : wrap64 ((k : Int) + 1) = (k : Int) + 1 := wrap_in (by omega)
          clear hc7 hx9 hxs hrn
          go_upto_region 16 with fail
          have HKP := Lib.hid (fun Z (g : Below wr.heap.size wr Z) => (⟨(BV9.out.ext (HG.out.trans (g.mono HG.out.size))).cell 2, HC7.out Z g⟩ : Z.cell? ⟨R, 2, none⟩ = some (.int .i64 day) ∧ Z.cell? ⟨b7, o7 + k, none⟩ = some (.int .i64 x)))
          obtain ⟨p1, p0⟩ := HKP.out wr (Below.refl _ _)
          go_cut [17] from 51 to 57 (fun s17 wx => ∃ g, s17 = .pointer (some ⟨g, 0, none⟩) ∧ wr.heap.size ≤ g ∧ Blk wx g 65 #[.int .i64 x, .int .i64 day] ∧ Below wr.heap.size wr wx)
          case first =>
            go_region_held3 (fun Z => Z.cell? ⟨R, 2, none⟩ = some (.int .i64 day) ∧ Z.cell? ⟨b7, o7 + k, none⟩ = some (.int .i64 x))
              (with_reducible refine HKP.out _ ?_; repeat' first | (with_reducible exact Below.refl _ _) | (with_reducible refine Below.drew ?_) | (with_reducible exact one_more _ _))
              (fail)
            all_goals (try go_wp2_with fail)
            all_goals go_meet
            all_goals exact ⟨_, rfl, Nat.le_refl _, Blk.new _ _ _, (one_more _ _).drew⟩
          case rest =>
            obtain ⟨wd, rfl⟩ : ∃ W, W = wc := ⟨_, rfl⟩
            obtain ⟨g, rfl, hg8, hbk, hg9⟩ := hcut
            have HG9 := Lib.hid (HG.out.trans (hg9.mono HG.out.size))
            have HO9 := Lib.hid (HO.out.ext hg9)
            have HGR := Lib.hid hg9
            have HKG := Lib.hid (fun Z (q : Below wd.heap.size wd Z) => (⟨(hbk.ext q).cell 0, (hbk.ext q).cell 1⟩ : Z.cell? ⟨g, 0, none⟩ = some (.int .i64 x) ∧ Z.cell? ⟨g, 1, none⟩ = some (.int .i64 day)))
            have TX0 := Lib.hid (TWX.out x wd.drew HG9.out.drew)
            obtain ⟨bx, hbx⟩ : ∃ b, ((xn : Int) == 0) = b := ⟨_, rfl⟩
            obtain ⟨bz, hbz⟩ : ∃ b, ((yn : Int) == 0) = b := ⟨_, rfl⟩
            obtain ⟨q0, q1⟩ := HKG.out wd (Below.refl _ _)
            clear hg8 hbk hg9 p0 p1
            have HIB := Lib.hid (show isRead LQ = !bx ∧ isRead SQ = !bz by
              rw [HIX.out, HIY.out, ← hbx, ← hbz]
              constructor
              · by_cases h : xn = 0
                · subst h; rfl
                · have : ((xn : Int) == 0) = false := by simpa using h
                  rw [this, decide_eq_false h]
              · by_cases h : yn = 0
                · subst h; rfl
                · have : ((yn : Int) == 0) = false := by simpa using h
                  rw [this, decide_eq_false h])
            obtain ⟨mb, hmb⟩ : ∃ b, (decide (isRead LQ ≠ isRead SQ) || decide (wherS LQ x day ≠ wherS SQ x day)) = b := ⟨_, rfl⟩
            rw [hmb] at HS
            rw [HIB.out.1, HIB.out.2] at hmb
            have HMB := Lib.hid hmb
            obtain ⟨WX, hWX⟩ : ∃ l, wherS LQ x day = l := ⟨_, rfl⟩
            obtain ⟨WZ, hWZ⟩ : ∃ l, wherS SQ x day = l := ⟨_, rfl⟩
            have hwl := HWL.out x
            have TY0 := Lib.hid (fun W q => TWY.out x W q)
            rw [hWX] at HMB TX0 hwl
            rw [hWZ] at HMB TY0 hwl
            have HWL2 := Lib.hid hwl
            clear hmb hWX hWZ hwl
            go_upto_region 17 with fail
            go_cut [76] from 58 to 75 (fun s wx => s = .bool mb ∧ Below wd.heap.size wd wx)
            case first =>
              cases bx with
              | true =>
                cases bz with
                | true =>
                  go_region_held3 (fun Z => Z.cell? ⟨g, 0, none⟩ = some (.int .i64 x) ∧ Z.cell? ⟨g, 1, none⟩ = some (.int .i64 day))
                    (with_reducible refine HKG.out _ ?_; repeat' first | (with_reducible exact Below.refl _ _) | (with_reducible exact GA.out) | (with_reducible exact GB.out) | (with_reducible exact GC.out) | (with_reducible refine Below.drew ?_))
                    (first
                      | (go_at_call 81; (with_reducible refine (TX0.out).mono ?_); rintro e VX ⟨⟨vx, rfl, ho8⟩, hg⟩; have GA := Lib.hid (show Below wd.heap.size wd VX from (Below.refl _ wd).drew.trans hg); obtain ⟨A8, c8, e8, -, -, ha8, -⟩ := OwnL.arr kdI ho8; subst e8; have HA8 := Lib.hid ha8; have TY1 := Lib.hid (TY0.out VX (HG9.out.trans (GA.out.mono HG9.out.size))); clear ho8 hg ha8)
                      | (go_at_call 81; (with_reducible refine (TY1.out).mono ?_); rintro e VY ⟨⟨vy, rfl, ho8⟩, hg⟩; have GB := Lib.hid (GA.out.trans (hg.mono GA.out.size)); obtain ⟨A9', c9', e9, -, -, ha9, -⟩ := OwnL.arr kdI ho8; subst e9; have T19 := Lib.hid (sameInts_any A8 A9' WX.length c8 WZ.length c9' WX WZ VY (HA8.out.below hg) ha9 (by have := HWL2.out; omega) (by have := HWL2.out; omega)); clear ho8 hg ha9)
                      | (go_at_call 19; (with_reducible refine (T19.out).mono ?_); rintro e VZ ⟨rfl, hg⟩; have GC := Lib.hid (GB.out.trans (hg.mono GB.out.size)); clear hg))
                  all_goals (try go_wp2_with fail)
                  all_goals go_meet
                  all_goals exact ⟨by rw [← HMB.out]; simp, GC.out⟩
                | false =>
                  refine wp_region_calm wd (by kernel_rfl) (by kernel_rfl) (Below.refl _ _) ?_
                  repeat (go_big_quiet_step (fail))
                  refine wpQuiet_nil ?_
                  rintro _ ⟨z, rfl⟩
                  obtain rfl : mb = true := by rw [← HMB.out]; rfl
                  try go_wp2_with fail
                  go_meet
                  exact ⟨rfl, z.ok⟩
              | false =>
                cases bz with
                | true =>
                  refine wp_region_calm wd (by kernel_rfl) (by kernel_rfl) (Below.refl _ _) ?_
                  repeat (go_big_quiet_step (fail))
                  refine wpQuiet_nil ?_
                  rintro _ ⟨z, rfl⟩
                  obtain rfl : mb = true := by rw [← HMB.out]; rfl
                  try go_wp2_with fail
                  go_meet
                  exact ⟨rfl, z.ok⟩
                | false =>
                  go_region_held3 (fun Z => Z.cell? ⟨g, 0, none⟩ = some (.int .i64 x) ∧ Z.cell? ⟨g, 1, none⟩ = some (.int .i64 day))
                    (with_reducible refine HKG.out _ ?_; repeat' first | (with_reducible exact Below.refl _ _) | (with_reducible exact GA.out) | (with_reducible exact GB.out) | (with_reducible exact GC.out) | (with_reducible refine Below.drew ?_))
                    (first
                      | (go_at_call 81; (with_reducible refine (TX0.out).mono ?_); rintro e VX ⟨⟨vx, rfl, ho8⟩, hg⟩; have GA := Lib.hid (show Below wd.heap.size wd VX from (Below.refl _ wd).drew.trans hg); obtain ⟨A8, c8, e8, -, -, ha8, -⟩ := OwnL.arr kdI ho8; subst e8; have HA8 := Lib.hid ha8; have TY1 := Lib.hid (TY0.out VX (HG9.out.trans (GA.out.mono HG9.out.size))); clear ho8 hg ha8)
                      | (go_at_call 81; (with_reducible refine (TY1.out).mono ?_); rintro e VY ⟨⟨vy, rfl, ho8⟩, hg⟩; have GB := Lib.hid (GA.out.trans (hg.mono GA.out.size)); obtain ⟨A9', c9', e9, -, -, ha9, -⟩ := OwnL.arr kdI ho8; subst e9; have T19 := Lib.hid (sameInts_any A8 A9' WX.length c8 WZ.length c9' WX WZ VY (HA8.out.below hg) ha9 (by have := HWL2.out; omega) (by have := HWL2.out; omega)); clear ho8 hg ha9)
                      | (go_at_call 19; (with_reducible refine (T19.out).mono ?_); rintro e VZ ⟨rfl, hg⟩; have GC := Lib.hid (GB.out.trans (hg.mono GB.out.size)); clear hg))
                  all_goals (try go_wp2_with fail)
                  all_goals go_meet
                  all_goals exact ⟨by rw [← HMB.out]; simp, GC.out⟩
            case rest =>
              obtain ⟨rfl, hg9⟩ := hcut
              have HGA := Lib.hid (HG9.out.trans (hg9.mono HG9.out.size))
              have HOA := Lib.hid (HO9.out.ext hg9)
              have p0 := HC7.out wc (HGR.out.trans (hg9.mono HGR.out.size))
              clear q0 q1 hg9
              cases mb with
              | false =>
                have HSN := Lib.hid (show MK (k + 1) = xs by rw [HS.out, if_neg (by decide), List.append_nil])
                go_wp2_with fail
                go_roundw
                case rel => exact ⟨k + 1, by omega, rfl, by rw [HSN.out]; exact HOA.out, HGA.out⟩
                case measure => simp only [intOf]; omega
              | true =>
                have HSN := Lib.hid (show MK (k + 1) = xs ++ [x] by rw [HS.out, if_pos rfl])
                have GX := Lib.hid (one_more wc (.cells #[.int .i64 x] 3))
                have IX := Lib.hid (one_int (Blk.new wc 3 #[.int .i64 x]))
                have OX := Lib.hid (HOA.out.ext GX.out)
                have HBB := Lib.hid (Nat.le_trans HGA.out.size GX.out.size)
                go_wp2_with (at_builtin; go_loud (refine wpList_app kdI (by rfl) _ _ (by rfl) V9.heap.size _ xs (by rfl) OX.out _ 1 1 [x] (by rfl) IX.out (by have := HL.out; omega) HBB.out ?_); intro v1 w1 ho hgr hz; have HO1 := Lib.hid ho; have GV1 := Lib.hid ((HGA.out.trans (GX.out.mono HGA.out.size)).trans (OX.out.below hgr (Nat.le_refl _) HBB.out)); clear ho hgr hz)
                go_roundw
                case rel => exact ⟨k + 1, by omega, by go_num, by rw [HSN.out]; exact HO1.out, GV1.out⟩
                case measure => simp [intOf]; omega
        · obtain rfl : k = pn := by omega
          go_wp2_with fail
          go_ret2
          rw [HFA.out] at HO
          exact listEnd_ok HO.out (G1.out.trans ((GV9.out.trans (HG.out.mono GV9.out.size)).mono G1.out.size))
end Go.Proofs.YtehhlgdkhecacaaGreat
namespace Go.Proofs.YtehhlgdkhecacaaGreat
open Go.RowKit Go.Shelf
set_option maxRecDepth 100000 in
set_option maxHeartbeats 16000000 in
theorem law3_any (A : Option Addr) (n c : Nat) (l : List Pf) (a b day known s : Int) (w : World) (ha : Prf w A n l) (hn : n ≤ 9223372036854775807) :
    Calls Tryz.prog 3 #[.slice A n c, .agg #[.int .i64 a, .int .i64 b, .int .i64 day, .int .i64 known], .int .i64 s] w fun e w' => e = .returned (.bool true) ∧ Below w.heap.size w w' := by
  obtain ⟨R, hR⟩ : ∃ b, w.heap.size = b := ⟨_, rfl⟩
  obtain ⟨W1, hW1⟩ : ∃ X, w.alloc (.cells #[.int .i64 a, .int .i64 b, .int .i64 day, .int .i64 known] 24) = X := ⟨_, rfl⟩
  have G1 := Lib.hid (show Below w.heap.size w W1 by rw [← hW1]; exact one_more _ _)
  have B1 := Lib.hid (show Blk W1 R 24 #[.int .i64 a, .int .i64 b, .int .i64 day, .int .i64 known] by rw [← hW1, ← hR]; exact Blk.new _ _ _)
  have HW1 := Lib.hid hW1
  have HRR := Lib.hid hR
  have HA := Lib.hid (ha.below G1.out)
  have T15 := Lib.hid (fun W (g : Below W1.heap.size W1 W) => rests_any A n c l a b day known W (HA.out.below g) hn)
  have T16 := Lib.hid (fun W (g : Below W1.heap.size W1 W) => refRests_any A n c l a b day known W (HA.out.below g) hn)
  have T17 := Lib.hid (fun W (g : Below W1.heap.size W1 W) => moved_any A n c l s day known W (HA.out.below g) hn)
  have T18 := Lib.hid (fun W (g : Below W1.heap.size W1 W) => refMoved_any A n c l s a b day known W (HA.out.below g) hn)
  have T20 := Lib.hid sane_any
  unfold ListEnd at T15 T16 T17 T18
  obtain ⟨ER, hER⟩ : ∃ x, readE (l.map Pf.q) a b [day, known] known = x := ⟨_, rfl⟩
  obtain ⟨EM, hEM⟩ : ∃ x, movE (l.map Pf.q) s day known = x := ⟨_, rfl⟩
  rw [hER] at T15 T16
  rw [hEM] at T17 T18
  obtain ⟨LR, hLR⟩ : ∃ x, (if ER = 0 then rstS (cntL (l.map Pf.q) known) a b day else []) = x := ⟨_, rfl⟩
  obtain ⟨LM, hLM⟩ : ∃ x, (if EM = 0 then movS (l.map Pf.q) s day known else []) = x := ⟨_, rfl⟩
  rw [hLR] at T15 T16
  rw [hLM] at T17 T18
  clear ha hR hW1 hER hEM hLR hLM
  go_enter Tryz.func3, Tryz.ntmps3
  go_upto_region 1 with fail
  rw [HW1.out, HRR.out]
  have k0 := B1.out.cell 0
  have k1 := B1.out.cell 1
  have k2 := B1.out.cell 2
  have k3 := B1.out.cell 3
  go_upto_region 2 with (go_at_call 15; (with_reducible refine (T15.out _ (Below.refl _ _)).mono ?_); rintro e V1 ⟨A1, n1, c1, rfl, hi, hnc, hcm, hg⟩; have I1 := Lib.hid hi; have N1 := Lib.hid (show n1 ≤ 9223372036854775807 by unfold maxLen at hcm; omega); have GV1 := Lib.hid hg; have BV1 := Lib.hid (B1.out.ext hg); have HS1 := Lib.hid hg; clear hi hg hnc hcm)
  clear k0 k1 k2 k3
  have k0 := BV1.out.cell 0
  have k1 := BV1.out.cell 1
  have k2 := BV1.out.cell 2
  have k3 := BV1.out.cell 3
  go_upto_region 3 with (go_at_call 16; (with_reducible refine (T16.out _ GV1.out).mono ?_); rintro e V2 ⟨A2, n2, c2, rfl, hi, hnc, hcm, hg⟩; have I2 := Lib.hid hi; have N2 := Lib.hid (show n2 ≤ 9223372036854775807 by unfold maxLen at hcm; omega); have GV2 := Lib.hid (GV1.out.trans (hg.mono GV1.out.size)); have BV2 := Lib.hid (B1.out.ext (GV1.out.trans (hg.mono GV1.out.size))); have HS2 := Lib.hid hg; clear hi hg hnc hcm)
  clear k0 k1 k2 k3
  have k2 := BV2.out.cell 2
  have k3 := BV2.out.cell 3
  go_upto_region 4 with (go_at_call 17; (with_reducible refine (T17.out _ GV2.out).mono ?_); rintro e V3 ⟨A3, n3, c3, rfl, hi, hnc, hcm, hg⟩; have I3 := Lib.hid hi; have N3 := Lib.hid (show n3 ≤ 9223372036854775807 by unfold maxLen at hcm; omega); have GV3 := Lib.hid (GV2.out.trans (hg.mono GV2.out.size)); have BV3 := Lib.hid (B1.out.ext (GV2.out.trans (hg.mono GV2.out.size))); have HS3 := Lib.hid hg; clear hi hg hnc hcm)
  clear k2 k3
  have k0 := BV3.out.cell 0
  have k1 := BV3.out.cell 1
  have k2 := BV3.out.cell 2
  have k3 := BV3.out.cell 3
  go_upto_region 5 with (go_at_call 18; (with_reducible refine (T18.out _ GV3.out).mono ?_); rintro e V4 ⟨A4, n4, c4, rfl, hi, hnc, hcm, hg⟩; have I4 := Lib.hid hi; have N4 := Lib.hid (show n4 ≤ 9223372036854775807 by unfold maxLen at hcm; omega); have GV4 := Lib.hid (GV3.out.trans (hg.mono GV3.out.size)); have BV4 := Lib.hid (B1.out.ext (GV3.out.trans (hg.mono GV3.out.size))); have HS4 := Lib.hid hg; clear hi hg hnc hcm)
  clear k0 k1 k2 k3
  have X4 := Lib.hid (Below.refl V4.heap.size V4)
  have X3 := Lib.hid (show Below V3.heap.size V3 V4 from HS4.out.trans (X4.out.mono HS4.out.size))
  have X2 := Lib.hid (show Below V2.heap.size V2 V4 from HS3.out.trans (X3.out.mono HS3.out.size))
  have X1 := Lib.hid (show Below V1.heap.size V1 V4 from HS2.out.trans (X2.out.mono HS2.out.size))
  have Sa := Lib.hid (fun X (g : Below V4.heap.size V4 X) => (show Calls Tryz.prog 19 #[.slice A1 n1 c1, .slice A2 n2 c2] X fun e w' => e = .returned (.bool true) ∧ Below X.heap.size X w' by have := sameInts_any A1 A2 n1 c1 n2 c2 LR LR X ((I1.out.below X1.out).below g) ((I2.out.below X2.out).below g) N1.out N2.out; rwa [decide_eq_true rfl] at this))
  have Sb := Lib.hid (fun X (g : Below V4.heap.size V4 X) => (show Calls Tryz.prog 19 #[.slice A3 n3 c3, .slice A4 n4 c4] X fun e w' => e = .returned (.bool true) ∧ Below X.heap.size X w' by have := sameInts_any A3 A4 n3 c3 n4 c4 LM LM X ((I3.out.below X3.out).below g) ((I4.out.below X4.out).below g) N3.out N4.out; rwa [decide_eq_true rfl] at this))
  have hER : (ER == ER) = true := by simp
  have hEM : (EM == EM) = true := by simp
  go_wp2_with (first | (go_at_call 19; (with_reducible refine (Sa.out _ (Below.refl _ _)).mono ?_); rintro e Y1 ⟨rfl, hg⟩; have GY1 := Lib.hid hg; clear hg) | (go_at_call 19; (with_reducible refine (Sb.out _ GY1.out).mono ?_); rintro e Y2 ⟨rfl, hg⟩; have GY2 := Lib.hid (GY1.out.trans (hg.mono GY1.out.size)); clear hg) | (go_at_call 20; (with_reducible refine (T20.out _).mono ?_); rintro e Y6 ⟨rfl, hg⟩; have GY6 := Lib.hid (GY2.out.trans (hg.mono GY2.out.size)); clear hg))
  go_ret
  exact ⟨rfl, G1.out.trans ((GV4.out.trans (GY6.out.mono GV4.out.size)).mono G1.out.size)⟩
end Go.Proofs.YtehhlgdkhecacaaGreat
namespace Go.Proofs.YtehhlgdkhecacaaGreat
open Go.ChangeShapes Go.WideShapes Go.ChangeAt Go.RowKit
theorem cells24 : Tryz.prog.cellsOf 24 = 4 := by kernel_rfl
section
variable {H : Type} {enc : TypeId × Value → H} {w : World} {base : Nat} {sp : Nat → Bool} {held : Bool} {fuel : Nat} {cs : List Value} {x : DataW H × List MemPlace}
variable {r : Reach} {b0 : Nat} {v : Value} {d : DataW H} {p : List MemPlace}
set_option maxRecDepth 100000 in
theorem openAskV (hv : Value.okWide Tryz.prog w r b0 24 v) (h : DataW.Trod enc Tryz.prog w base sp held 24 v d p) : ∃ z0 z1 z2 z3 : Int, v = .agg #[.int .i64 z0, .int .i64 z1, .int .i64 z2, .int .i64 z3] := by
  obtain ⟨cs, rfl, hsz⟩ := okWide_struct Tryz.underlying24 hv
  obtain ⟨fuel, hf⟩ := h
  rw [cells24] at hsz
  obtain ⟨u0, u1, u2, u3, rfl⟩ : ∃ u0 u1 u2 u3, cs = #[u0, u1, u2, u3] := by
    obtain ⟨l⟩ := cs
    match l, hsz with
    | [u0, u1, u2, u3], _ => exact ⟨u0, u1, u2, u3, rfl⟩
  obtain ⟨xs, n, -, -, hl, hxl, hf⟩ := DataW.trod_struct Tryz.underlying24 hf
  have hxl' : xs.length = 4 := hxl
  have h0 : DataW.trod enc Tryz.prog w base sp held n 3 (((Value.agg #[u0, u1, u2, u3]).cells.toList.drop 0).take (Tryz.prog.cellsOf 3)) = xs[0]? := hf 0 _ rfl
  have h1 : DataW.trod enc Tryz.prog w base sp held n 3 (((Value.agg #[u0, u1, u2, u3]).cells.toList.drop 1).take (Tryz.prog.cellsOf 3)) = xs[1]? := hf 1 _ rfl
  have h2 : DataW.trod enc Tryz.prog w base sp held n 3 (((Value.agg #[u0, u1, u2, u3]).cells.toList.drop 2).take (Tryz.prog.cellsOf 3)) = xs[2]? := hf 2 _ rfl
  have h3 : DataW.trod enc Tryz.prog w base sp held n 3 (((Value.agg #[u0, u1, u2, u3]).cells.toList.drop 3).take (Tryz.prog.cellsOf 3)) = xs[3]? := hf 3 _ rfl
  rw [cells3] at h0 h1 h2 h3
  obtain ⟨a0, e0, -⟩ := openInt (h0.trans (List.getElem?_eq_getElem (by omega)))
  obtain ⟨a1, e1, -⟩ := openInt (h1.trans (List.getElem?_eq_getElem (by omega)))
  obtain ⟨a2, e2, -⟩ := openInt (h2.trans (List.getElem?_eq_getElem (by omega)))
  obtain ⟨a3, e3, -⟩ := openInt (h3.trans (List.getElem?_eq_getElem (by omega)))
  simp [Value.cells] at e0 e1 e2 e3
  subst e0 e1 e2 e3
  exact ⟨_, _, _, _, rfl⟩
end
end Go.Proofs.YtehhlgdkhecacaaGreat
