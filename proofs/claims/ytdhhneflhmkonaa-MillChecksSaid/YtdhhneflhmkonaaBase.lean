/- General words for memory: a slice that reads as a list, worlds that extend a world, drawn regions whose operations only read and whose callees only make memory. No program. -/
import Derived.WalkKit
import Derived.WalkSpells
import Derived.WalkLawsBesides
import Derived.Below
import Derived.BigGuardPart
import Derived.Lib.Hide
import Derived.BigQuiet
import Derived.Deep.RegionHeld3
import Derived.StillTail
namespace Go.Proofs.Ytdhhneflhmkonaa
open Go.RowKit

/-- A header (A, n) of a slice reads as the elements 'xs', each of 'size' cells given by 'f'. -/
def Arr {α : Type} (f : α → List Value) (size : Nat) (w : World) (A : Option Addr) (n : Nat) (xs : List α) : Prop :=
  xs.length = n ∧ (0 < n → ∃ b o, A = some ⟨b, o, none⟩ ∧ b < w.heap.size ∧ ∀ k x, xs[k]? = some x → ∀ j u, (f x)[j]? = some u → w.cell? ⟨b, o + k * size + j, none⟩ = some u)

section
variable {α : Type} {f : α → List Value} {size : Nat} {w w' : World} {A : Option Addr} {n : Nat} {xs : List α}
theorem Arr.at (h : Arr f size w A n xs) {k : Nat} (hk : k < n) :
    ∃ b o x, A = some ⟨b, o, none⟩ ∧ b < w.heap.size ∧ xs[k]? = some x ∧ ∀ w', Below w.heap.size w w' → ∀ j u, (f x)[j]? = some u → w'.cell? ⟨b, o + k * size + j, none⟩ = some u := by
  obtain ⟨hl, h⟩ := h
  obtain ⟨b, o, rfl, hb, hc⟩ := h (by omega)
  have hk' : k < xs.length := by omega
  refine ⟨b, o, xs[k], rfl, hb, List.getElem?_eq_getElem hk', fun w' hw j u hu => ?_⟩
  rw [hw.cell (by exact hb)]
  exact hc k _ (List.getElem?_eq_getElem hk') j u hu
theorem Arr.below (h : Arr f size w A n xs) (hb : Below w.heap.size w w') : Arr f size w' A n xs :=
  ⟨h.1, fun hn => by
    obtain ⟨b, o, rfl, hlt, hc⟩ := h.2 hn
    exact ⟨b, o, rfl, Nat.lt_of_lt_of_le hlt hb.size, fun k x hx j u hu => (hb.cell (p := ⟨b, _, none⟩) hlt).trans (hc k x hx j u hu)⟩⟩
/-- The first k elements. -/
theorem Arr.take (h : Arr f size w A n xs) {k : Nat} (hk : k ≤ n) : Arr f size w A k (xs.take k) :=
  ⟨by have := h.1; simp; omega, fun hk0 => by
    obtain ⟨b, o, rfl, hlt, hc⟩ := h.2 (by omega)
    refine ⟨b, o, rfl, hlt, fun i x hx j u hu => hc i x ?_ j u hu⟩
    rw [List.getElem?_take] at hx
    split at hx
    · exact hx
    · cases hx⟩
theorem Arr.nil_ : Arr f size w A 0 [] := ⟨rfl, fun h => absurd h (by omega)⟩
end

theorem ret_int {k : IntKind} {a b : Int} (h : a = b) : Ending.returned (.int k a) = .returned (.int k b) := by rw [h]
theorem ret_bool {a b : Bool} (h : a = b) : Ending.returned (.bool a) = .returned (.bool b) := by rw [h]

theorem extTrans {a b c : World} (h : Below a.heap.size a b) (k : Below b.heap.size b c) : Below a.heap.size a c := h.trans (k.mono h.size)

/-- A world that extends W. -/
structure Wd (W : World) where
  val : World
  ok : Below W.heap.size W val

instance Wd.some_ (W : World) : Nonempty (Wd W) := ⟨⟨W, Below.refl _ _⟩⟩
theorem Wd.of {W w : World} (h : Below W.heap.size W w) : ∃ x : Wd W, w = x.val := ⟨⟨w, h⟩, rfl⟩
theorem Wd.self (W : World) : ∃ x : Wd W, W = x.val := ⟨⟨W, Below.refl _ _⟩, rfl⟩
theorem Wd.more {W w : World} (x : Wd W) (h : Below x.val.heap.size x.val w) : ∃ y : Wd W, w = y.val := ⟨⟨w, x.ok.trans (h.mono x.ok.size)⟩, rfl⟩
theorem Wd.size {W : World} (x : Wd W) : W.heap.size ≤ x.val.heap.size := x.ok.size
theorem Wd.alloc {W : World} (x : Wd W) (o : Obj) : ∃ y : Wd W, x.val.alloc o = y.val := ⟨⟨_, x.ok.alloc x.ok.size o⟩, rfl⟩

/-- A cell of W is there in each world that extends it. -/
theorem cellW {W : World} {a : Addr} {v : Value} (h : W.cell? a = some v) : ∀ x : Wd W, x.val.cell? a = some v :=
  fun x => (x.ok.cell (World.block_lt_of_cell? W a h)).trans h
theorem frozenW {W : World} {a : Addr} {v : Value} (h : W.cell? a = some v) {b : Bool} (hf : W.frozen? a = b) : ∀ x : Wd W, x.val.frozen? a = b :=
  fun x => (x.ok.frozen (World.block_lt_of_cell? W a h)).trans hf

/-- What holds in all worlds that extend W holds in all that extend a later one. -/
theorem lift {W W' : World} (g : Below W.heap.size W W') {p : World → Prop} (h : ∀ x : Wd W, p x.val) : ∀ y : Wd W', p y.val := fun y => h ⟨y.val, extTrans g y.ok⟩

theorem cellL {W W' : World} (g : Below W.heap.size W W') {a : Addr} {v : Value} (h : W.cell? a = some v) : ∀ y : Wd W', y.val.cell? a = some v := fun y => cellW h ⟨y.val, extTrans g y.ok⟩

theorem box1 {w W0 : World} {a : Value} {t : TypeId} (h : w.alloc (.cells #[a] t) = W0) : Below w.heap.size w W0 ∧ W0.cell? ⟨w.heap.size, 0, none⟩ = some a := by
  rw [← h]; exact ⟨(Below.refl _ _).alloc (Nat.le_refl _) _, by simp [go_sem]⟩
theorem box2 {w W0 : World} {a b : Value} {t : TypeId} (h : w.alloc (.cells #[a, b] t) = W0) : Below w.heap.size w W0 ∧ W0.cell? ⟨w.heap.size, 0, none⟩ = some a ∧ W0.cell? ⟨w.heap.size, 1, none⟩ = some b := by
  rw [← h]; exact ⟨(Below.refl _ _).alloc (Nat.le_refl _) _, by simp [go_sem], by simp [go_sem]⟩
theorem box3 {w W0 : World} {a b c : Value} {t : TypeId} (h : w.alloc (.cells #[a, b, c] t) = W0) : Below w.heap.size w W0 ∧ W0.cell? ⟨w.heap.size, 0, none⟩ = some a ∧ W0.cell? ⟨w.heap.size, 1, none⟩ = some b ∧
    W0.cell? ⟨w.heap.size, 2, none⟩ = some c := by
  rw [← h]; exact ⟨(Below.refl _ _).alloc (Nat.le_refl _) _, by simp [go_sem], by simp [go_sem], by simp [go_sem]⟩
theorem box4 {w W0 : World} {a b c d : Value} {t : TypeId} (h : w.alloc (.cells #[a, b, c, d] t) = W0) : Below w.heap.size w W0 ∧ W0.cell? ⟨w.heap.size, 0, none⟩ = some a ∧ W0.cell? ⟨w.heap.size, 1, none⟩ = some b ∧
    W0.cell? ⟨w.heap.size, 2, none⟩ = some c ∧ W0.cell? ⟨w.heap.size, 3, none⟩ = some d := by
  rw [← h]; exact ⟨(Below.refl _ _).alloc (Nat.le_refl _) _, by simp [go_sem], by simp [go_sem], by simp [go_sem], by simp [go_sem]⟩
theorem boxSize {w W0 : World} {o : Obj} (h : w.alloc o = W0) : W0.heap.size = w.heap.size + 1 := by rw [← h]; simp
theorem boxFree {w W0 : World} {cs : Array Value} {t : TypeId} (h : w.alloc (.cells cs t) = W0) (i : Nat) : W0.frozen? ⟨w.heap.size, i, none⟩ = false := by
  rw [← h]; simp [go_sem]

/-- A contract at a world that extends W. -/
theorem callsAt {P : Program} {f : FuncId} {args : Array Value} {W : World} {R : Ending → World → Prop} {x : Wd W}
    (h : Calls P f args x.val fun e w' => R e w' ∧ Below x.val.heap.size x.val w') : Calls P f args x.val fun e w' => ∃ y : Wd W, w' = y.val ∧ R e y.val :=
  h.mono fun _ _ ⟨hr, hb⟩ => ⟨⟨_, x.ok.trans (hb.mono x.ok.size)⟩, rfl, hr⟩
theorem callsAt2 {P : Program} {f : FuncId} {args : Array Value} {W : World} {R : Ending → World → Prop} {x : Wd W}
    (h : Calls P f args x.val fun e w' => R e w' ∧ Below x.val.heap.size x.val w') : Calls P f args x.val fun e w' => ∃ y : Wd W, w' = y.val ∧ R e y.val ∧ Below x.val.heap.size x.val y.val :=
  h.mono fun _ _ ⟨hr, hb⟩ => ⟨⟨_, x.ok.trans (hb.mono x.ok.size)⟩, rfl, hr, hb⟩
/-- .. of one value, as a quiet region asks it. -/
theorem callsCalm {P : Program} {f : FuncId} {args : Array Value} {W : World} {v : Value} {x : Wd W}
    (h : Calls P f args x.val fun e w' => e = .returned v ∧ Below x.val.heap.size x.val w') : Calls P f args x.val fun e w' => e = .returned v ∧ ∃ y : Wd W, w' = y.val :=
  h.mono fun _ _ ⟨hr, hb⟩ => ⟨hr, ⟨_, x.ok.trans (hb.mono x.ok.size)⟩, rfl⟩
theorem callsCalmSame {P : Program} {f : FuncId} {args : Array Value} {W : World} {v : Value} {x : Wd W}
    (h : Calls P f args x.val fun e w' => e = .returned v ∧ x.val = w') : Calls P f args x.val fun e w' => e = .returned v ∧ ∃ y : Wd W, w' = y.val :=
  h.mono fun _ _ ⟨hr, hb⟩ => ⟨hr, x, hb.symm⟩

/-- The value, said otherwise. -/
theorem callsRet {P : Program} {f : FuncId} {args : Array Value} {w : World} {v v' : Value} {R : World → Prop}
    (h : Calls P f args w fun e w' => e = .returned v ∧ R w') (hv : v = v') : Calls P f args w fun e w' => e = .returned v' ∧ R w' := hv ▸ h

/-- A region that draws its order, whose operations only read and whose callees at most make memory: one walk in the order of the text. -/
theorem wp_region_calm {P : Program} {id : Nat} {Q : Exit → Act → World → Prop} {a : Act} {w : World} {l : List Oper} (W : World) (hm : P.follows .mixedOrders = true) (hB : Region.lexB .any l.toArray = true)
    (hw : Below W.heap.size W w)
    (h : wpQuiet P l.toArray (fun w' => ∃ x : Wd W, w' = x.val) (fun a' => ∀ w', (∃ x : Wd W, w' = x.val) → Q .normal a' w') l a) : (Code.region id l.toArray true).wp P Q a w :=
  wp_region_quiet (C := fun w' => ∃ x : Wd W, w' = x.val) hm hB (Wd.of (show Below W.heap.size W w.drew from hw.drew)) (by simpa using h)


/-- A block that is known whole, none of its cells frozen. -/
def Blk (w : World) (g : Nat) (t : TypeId) (cs : Array Value) : Prop := w.heap[g]? = some (.cells cs t (0, 0))
section
variable {w w' : World} {g : Nat} {t : TypeId} {cs : Array Value}
theorem Blk.lt (h : Blk w g t cs) : g < w.heap.size := by
  rcases Nat.lt_or_ge g w.heap.size with hlt | hge
  · exact hlt
  · unfold Blk at h; rw [Array.getElem?_eq_none hge] at h; cases h
theorem Blk.cell (h : Blk w g t cs) (i : Nat) : w.cell? ⟨g, i, none⟩ = cs[i]? := cell_of_row w g i cs t (0, 0) h
theorem Blk.frozen (h : Blk w g t cs) (i : Nat) : w.frozen? ⟨g, i, none⟩ = false := by
  unfold Blk at h
  simp [World.frozen?, h]
theorem Blk.new (w : World) (t : TypeId) (cs : Array Value) : Blk (w.alloc (.cells cs t)) w.heap.size t cs := heap_alloc_new w _
theorem Blk.alloc (h : Blk w g t cs) (o : Obj) : Blk (w.alloc o) g t cs := (Below.heap_alloc w o g h.lt).trans h
theorem Blk.set_ (h : Blk w g t cs) (i : Nat) (u : Value) : Blk (w.setCell ⟨g, i, none⟩ u) g t (cs.setIfInBounds i u) := by
  unfold Blk at h ⊢
  simp [World.setCell, Array.getElem?_modify, h]
theorem Blk.far (h : Blk w g t cs) {p : Addr} (hp : g ≠ p.block) (u : Value) : Blk (w.setCell p u) g t cs := (Below.heap_setCell w p u g hp).trans h
theorem Blk.ext (h : Blk w g t cs) (hb : Below w.heap.size w w') : Blk w' g t cs := (hb.block g h.lt).trans h
end

/-! ### A drawn region: quiet operations, then operations that come up in the order of the text -/
section
variable {P : Program} {ops : Array Oper} {md : Region.Mode} {C : World → Prop}

def wpAnyLQ (P : Program) (md : Region.Mode) (ops : Array Oper) (C : World → Prop) (n : Nat) (L : Array Bool → Act → Prop) : Nat → Array Bool → Act → Prop
  | 0, listed, a => L listed a
  | f + 1, listed, a =>
    Region.ready md ops listed ≠ [] ∧ ∀ i ∈ Region.ready md ops listed, i < n ∧ qOp P ops C i (wpAnyLQ P md ops C n L f (listed.setIfInBounds i true)) a

theorem wpAnyQ_of_head {n g : Nat} {L : Array Bool → Act → Prop} {Q' : Exit → Act → World → Prop} (hL : ∀ listed a w, C w → L listed a → wpAny P md ops Q' g listed a w) :
    ∀ (f : Nat) (listed : Array Bool) (a : Act) (w : World), C w → wpAnyLQ P md ops C n L f listed a → wpAny P md ops Q' (f + g) listed a w
  | 0, listed, a, w, hw, h => by rw [Nat.zero_add]; exact hL _ _ _ hw h
  | f + 1, listed, a, w, hw, h => by
    rw [show f + 1 + g = (f + g) + 1 by omega]
    exact ⟨fun h0 => absurd h0 h.1, fun i hi => wpOp_of_qOp hw (fun a' w' hw' h' => wpAnyQ_of_head hL f _ a' w' hw' h') (h.2 i hi).2⟩

theorem wpAnyLQ_first {n i : Nat} {oi : Oper} {v : Value} {L : Array Bool → Act → Prop} (hi : ops[i]? = some oi) (hsel : ∀ (j : Nat) (o : Oper) cs b, ops[j]? = some o → o.op ≠ .select cs b)
    (hs : Region.sinkB md ops n = true) (hc : Region.chainB md ops n = true) (hn : n < ops.size) (hin : i < n)
    (hdone : ∀ listed a, L listed a → ∀ j ∈ Region.ready md ops listed, n ≤ j) :
    ∀ (f : Nat) (listed : Array Bool) (a : Act), HeadInv md ops n listed →
      (∀ j oj, ops[j]? = some oj → j ≠ i → listed.getD j true = false → (∀ e ∈ oj.after, Region.binds md e = true → e.on ≠ i) → oi.apart ops oj = true) →
      i ∈ Region.ready md ops listed → YieldsIn P ops C oi v a →
      wpAnyLQ P md ops C n L f (listed.setIfInBounds i true) (a.put oi.dst v) → wpAnyLQ P md ops C n L (f + 1) listed a := by
  intro f
  induction f with
  | zero =>
    intro listed a inv _ hr hy H
    have hun := (mem_ready.1 hr).1
    refine ⟨fun h => (by rw [h] at hr; cases hr), fun j hj => ?_⟩
    have hjn : j < n := by
      rcases Nat.lt_or_ge j n with h | h
      · exact h
      · exact absurd hj (tail_waits hs hc hn inv _ i rfl hin hun j h)
    refine ⟨hjn, ?_⟩
    by_cases hji : j = i
    · subst hji; exact hy.qOp hi H
    · have := hdone _ _ H j (ready_mono hj hji)
      omega
  | succ f ih =>
    intro listed a inv hfree hr hy H
    have hun := (mem_ready.1 hr).1
    refine ⟨fun h => (by rw [h] at hr; cases hr), fun j hj => ?_⟩
    have hjn : j < n := by
      rcases Nat.lt_or_ge j n with h | h
      · exact h
      · exact absurd hj (tail_waits hs hc hn inv _ i rfl hin hun j h)
    refine ⟨hjn, ?_⟩
    by_cases hji : j = i
    · subst hji; exact hy.qOp hi H
    · have h1 := (H.2 j (ready_mono hj hji)).2
      obtain ⟨hjun, oj, hoj, hall⟩ := mem_ready.1 hj
      have hnot : ∀ e ∈ oj.after, Region.binds md e = true → e.on ≠ i := fun e he hb heq => by
        have h1 := hall e he hb
        rw [heq, getD_both hun] at h1
        cases h1
      have h2 := qOp_put hoj (hfree j oj hoj hji hjun hnot) (fun cs b => hsel i oi cs b hi) (fun cs b => hsel j oj cs b hoj) hy h1
      have hfree' : ∀ k ok, ops[k]? = some ok → k ≠ i → (listed.setIfInBounds j true).getD k true = false →
          (∀ e ∈ ok.after, Region.binds md e = true → e.on ≠ i) → oi.apart ops ok = true := fun k ok hk hki hun hno => by
        refine hfree k ok hk hki ?_ hno
        by_cases hjk : j = k
        · subst hjk; exact hjun
        · rw [getD_set_ne true hjk] at hun; exact hun
      refine qOp_mono (fun a' h3 => ih (listed.setIfInBounds j true) a' (inv.set hj hjn) hfree' (ready_mono hr (Ne.symm hji)) h3.1 ?_) h2
      rw [Array.setIfInBounds_comm _ _ hji]
      exact h3.2

theorem wpAnyLQ_lex {n g : Nat} {Lq : Act → Prop} (hsel : Region.noSelect ops = true) (hs : Region.sinkB md ops n = true) (hc : Region.chainB md ops n = true) (hn : n < ops.size) :
    ∀ (l : List Oper) (k : Nat) (listed : Array Bool) (a : Act), (∀ j, j < l.length → l[j]? = ops[k + j]?) → k + l.length = n → HeadInv md ops n listed →
    Region.lexHead md ops g l.length k listed = true → wpQuiet P ops C Lq l a →
    wpAnyLQ P md ops C n (fun listed' a' => Region.seqB md ops g n listed' = true ∧ Lq a') l.length listed a
  | [], k, listed, a, _, hk, _, hB, h => by
    have : k = n := by simpa using hk
    subst this
    exact ⟨by simpa [Region.lexHead] using hB, h⟩
  | o :: l, k, listed, a, hl, hk, inv, hB, h => by
    have h0 : ops[k]? = some o := by simpa using (hl 0 (by simp)).symm
    simp only [List.length_cons, Region.lexHead, Bool.and_eq_true] at hB
    obtain ⟨⟨hr, hf⟩, hB'⟩ := hB
    have hkn : k < n := by simp only [List.length_cons] at hk; omega
    have hr' : k ∈ Region.ready md ops listed := by simpa using hr
    have hst : qOp P ops C k (wpQuiet P ops C Lq l) a := by unfold qOp; simp only [h0]; exact h
    obtain ⟨v, hy, hK⟩ := yieldsIn_of_qOp h0 hst
    exact wpAnyLQ_first h0 (Region.noSelect_spec hsel) hs hc hn hkn (fun listed' a' hL => seqB_ready hL.1) l.length listed a inv (Region.free_spec h0 hf) hr' hy
      (wpAnyLQ_lex hsel hs hc hn l (k + 1) _ _ (fun j hj => by have := hl (j + 1) (by simp; omega); simpa [Nat.add_assoc, Nat.add_comm 1 j] using this) (by simp only [List.length_cons] at hk; omega) (inv.set hr' hkn) hB' hK)

/-- A region that draws its order: its first n operations only read (their callees at most make memory); the others come up behind them, in the order of the text. -/
theorem wp_region_calm_tail {id : Nat} {Q : Exit → Act → World → Prop} {a : Act} {w : World} {l : List Oper} (W : World) (n : Nat) (hm : P.follows .mixedOrders = true) (hB : Region.lexTailB .any l.toArray n = true)
    (hw : Below W.heap.size W w)
    (h : wpQuiet P l.toArray (fun w' => ∃ x : Wd W, w' = x.val) (fun a' => ∀ w', (∃ x : Wd W, w' = x.val) → wpList P l.toArray Q (l.drop n) a' w') (l.take n) a) : (Code.region id l.toArray true).wp P Q a w := by
  simp only [Region.lexTailB, Bool.and_eq_true, decide_eq_true_eq] at hB
  obtain ⟨⟨⟨⟨hsel, hn⟩, hs⟩, hc⟩, hlex⟩ := hB
  have hn' : n < l.length := by simpa using hn
  have htl : (l.take n).length = n := by simp; omega
  have hdl : (l.drop n).length = l.toArray.size - n := by simp
  have inv0 : HeadInv .any l.toArray n (Array.replicate l.toArray.size false) :=
    ⟨by simp, fun j oj _ hl => (by rw [getD_replicate_false] at hl; cases hl), fun t _ ht => getD_in (by simpa using ht) (getD_replicate_false _ _)⟩
  have H := wpAnyLQ_lex (md := .any) (g := l.toArray.size - n) hsel hs hc hn (l.take n) 0 _ a (fun j hj => by
    have hj' : j < n := by rw [htl] at hj; exact hj
    simp [hj']) (by simpa using htl) inv0 (by rw [htl]; exact hlex) h
  refine wp_region_any hm ?_
  have := wpAnyQ_of_head (Q' := Q) (g := l.toArray.size - n) (fun listed a' w' hw' hL => by
    have := wpAny_of_seq (md := .any) (Q' := Q) (l.drop n) n listed a' w' (fun j => by simp [List.getElem?_drop]) (by rw [hdl]; exact hL.1) (hL.2 _ hw')
    rwa [hdl] at this) _ _ _ { w with drawn := w.drawn + 1 } (Wd.of (show Below W.heap.size W w.drew from hw.drew)) H
  rw [htl, show n + (l.toArray.size - n) = l.toArray.size by omega] at this
  exact this
end

end Go.Proofs.Ytdhhneflhmkonaa
