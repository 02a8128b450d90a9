/- General words for memory; the mill's yields. -/
import Derived.WalkKit
import Derived.WalkSpells
import Derived.WalkLawsBesides
import Derived.Below
import Derived.BigGuardPart
import Derived.Lib.Hide
import Derived.BigQuiet
import Derived.Deep.RegionHeld3
import Derived.StillTail
import Derived.OrdersIn
import Derived.RangeFuncNested
import Derived.RangeFuncBound
import Derived.RangeFuncCalls
import Derived.RangeFuncLeaves
import Derived.Shelf.RegionOpen
import Derived.OwnWalkIn
import Derived.TacticsInMore
import Derived.LoopNIn
import Derived.LoopIn
import Derived.Test.YtdhhneflhmkonaaProg

/- General words for memory: a slice that reads as a list, worlds that extend a world, drawn regions whose operations only read and whose callees only make memory. No program. -/
namespace Go.Proofs.Ytdhhneflhmkonaa
open Go.RowKit

/-- A header (A, n) of a slice reads as the elements 'xs', each of 'size' cells given by 'f'. -/
def Arr {α : Type} (f : α → List Value) (size : Nat) (w : World) (A : Option Addr) (n : Nat) (xs : List α) : Prop :=
  xs.length = n ∧ (0 < n → ∃ b o, A = some ⟨b, o, none⟩ ∧ b < w.heap.size ∧ ∀ k x, xs[k]? = some x → ∀ j u, (f x)[j]? = some u → w.cell? ⟨b, o + k * size + j, none⟩ = some u)

section
variable {α : Type} {f : α → List Value} {size : Nat} {w w' : World} {A : Option Addr} {n : Nat} {xs : List α}
theorem Arr.at (h : Arr f size w A n xs) {k : Nat} (hk : k < n) :
    ∃ b o x, A = some ⟨b, o, none⟩ ∧ b < w.heap.size ∧ xs[k]? = some x ∧ ∀ w', Below w.heap.size w w' → ∀ j u, (f x)[j]? = some u → w'.cell? ⟨b, o + k * size + j, none⟩ = some u := by
  obtain ⟨hl, h⟩ := h
  obtain ⟨b, o, rfl, hb, hc⟩ := h (by omega)
  have hk' : k < xs.length := by omega
  refine ⟨b, o, xs[k], rfl, hb, List.getElem?_eq_getElem hk', fun w' hw j u hu => ?_⟩
  rw [hw.cell (by exact hb)]
  exact hc k _ (List.getElem?_eq_getElem hk') j u hu
theorem Arr.below (h : Arr f size w A n xs) (hb : Below w.heap.size w w') : Arr f size w' A n xs :=
  ⟨h.1, fun hn => by
    obtain ⟨b, o, rfl, hlt, hc⟩ := h.2 hn
    exact ⟨b, o, rfl, Nat.lt_of_lt_of_le hlt hb.size, fun k x hx j u hu => (hb.cell (p := ⟨b, _, none⟩) hlt).trans (hc k x hx j u hu)⟩⟩
/-- The first k elements. -/
theorem Arr.take (h : Arr f size w A n xs) {k : Nat} (hk : k ≤ n) : Arr f size w A k (xs.take k) :=
  ⟨by have := h.1; simp; omega, fun hk0 => by
    obtain ⟨b, o, rfl, hlt, hc⟩ := h.2 (by omega)
    refine ⟨b, o, rfl, hlt, fun i x hx j u hu => hc i x ?_ j u hu⟩
    rw [List.getElem?_take] at hx
    split at hx
    · exact hx
    · cases hx⟩
theorem Arr.nil_ : Arr f size w A 0 [] := ⟨rfl, fun h => absurd h (by omega)⟩
end

theorem ret_int {k : IntKind} {a b : Int} (h : a = b) : Ending.returned (.int k a) = .returned (.int k b) := by rw [h]
theorem ret_bool {a b : Bool} (h : a = b) : Ending.returned (.bool a) = .returned (.bool b) := by rw [h]

theorem extTrans {a b c : World} (h : Below a.heap.size a b) (k : Below b.heap.size b c) : Below a.heap.size a c := h.trans (k.mono h.size)

/-- A world that extends W. -/
structure Wd (W : World) where
  val : World
  ok : Below W.heap.size W val

instance Wd.some_ (W : World) : Nonempty (Wd W) := ⟨⟨W, Below.refl _ _⟩⟩
theorem Wd.of {W w : World} (h : Below W.heap.size W w) : ∃ x : Wd W, w = x.val := ⟨⟨w, h⟩, rfl⟩
theorem Wd.self (W : World) : ∃ x : Wd W, W = x.val := ⟨⟨W, Below.refl _ _⟩, rfl⟩
theorem Wd.more {W w : World} (x : Wd W) (h : Below x.val.heap.size x.val w) : ∃ y : Wd W, w = y.val := ⟨⟨w, x.ok.trans (h.mono x.ok.size)⟩, rfl⟩
theorem Wd.size {W : World} (x : Wd W) : W.heap.size ≤ x.val.heap.size := x.ok.size
theorem Wd.alloc {W : World} (x : Wd W) (o : Obj) : ∃ y : Wd W, x.val.alloc o = y.val := ⟨⟨_, x.ok.alloc x.ok.size o⟩, rfl⟩

/-- A cell of W is there in each world that extends it. -/
theorem cellW {W : World} {a : Addr} {v : Value} (h : W.cell? a = some v) : ∀ x : Wd W, x.val.cell? a = some v :=
  fun x => (x.ok.cell (World.block_lt_of_cell? W a h)).trans h
theorem frozenW {W : World} {a : Addr} {v : Value} (h : W.cell? a = some v) {b : Bool} (hf : W.frozen? a = b) : ∀ x : Wd W, x.val.frozen? a = b :=
  fun x => (x.ok.frozen (World.block_lt_of_cell? W a h)).trans hf

/-- What holds in all worlds that extend W holds in all that extend a later one. -/
theorem lift {W W' : World} (g : Below W.heap.size W W') {p : World → Prop} (h : ∀ x : Wd W, p x.val) : ∀ y : Wd W', p y.val := fun y => h ⟨y.val, extTrans g y.ok⟩

theorem cellL {W W' : World} (g : Below W.heap.size W W') {a : Addr} {v : Value} (h : W.cell? a = some v) : ∀ y : Wd W', y.val.cell? a = some v := fun y => cellW h ⟨y.val, extTrans g y.ok⟩

theorem box1 {w W0 : World} {a : Value} {t : TypeId} (h : w.alloc (.cells #[a] t) = W0) : Below w.heap.size w W0 ∧ W0.cell? ⟨w.heap.size, 0, none⟩ = some a := by
  rw [← h]; exact ⟨(Below.refl _ _).alloc (Nat.le_refl _) _, by simp [go_sem]⟩
theorem box2 {w W0 : World} {a b : Value} {t : TypeId} (h : w.alloc (.cells #[a, b] t) = W0) : Below w.heap.size w W0 ∧ W0.cell? ⟨w.heap.size, 0, none⟩ = some a ∧ W0.cell? ⟨w.heap.size, 1, none⟩ = some b := by
  rw [← h]; exact ⟨(Below.refl _ _).alloc (Nat.le_refl _) _, by simp [go_sem], by simp [go_sem]⟩
theorem box3 {w W0 : World} {a b c : Value} {t : TypeId} (h : w.alloc (.cells #[a, b, c] t) = W0) : Below w.heap.size w W0 ∧ W0.cell? ⟨w.heap.size, 0, none⟩ = some a ∧ W0.cell? ⟨w.heap.size, 1, none⟩ = some b ∧
    W0.cell? ⟨w.heap.size, 2, none⟩ = some c := by
  rw [← h]; exact ⟨(Below.refl _ _).alloc (Nat.le_refl _) _, by simp [go_sem], by simp [go_sem], by simp [go_sem]⟩
theorem box4 {w W0 : World} {a b c d : Value} {t : TypeId} (h : w.alloc (.cells #[a, b, c, d] t) = W0) : Below w.heap.size w W0 ∧ W0.cell? ⟨w.heap.size, 0, none⟩ = some a ∧ W0.cell? ⟨w.heap.size, 1, none⟩ = some b ∧
    W0.cell? ⟨w.heap.size, 2, none⟩ = some c ∧ W0.cell? ⟨w.heap.size, 3, none⟩ = some d := by
  rw [← h]; exact ⟨(Below.refl _ _).alloc (Nat.le_refl _) _, by simp [go_sem], by simp [go_sem], by simp [go_sem], by simp [go_sem]⟩
theorem boxSize {w W0 : World} {o : Obj} (h : w.alloc o = W0) : W0.heap.size = w.heap.size + 1 := by rw [← h]; simp
theorem boxFree {w W0 : World} {cs : Array Value} {t : TypeId} (h : w.alloc (.cells cs t) = W0) (i : Nat) : W0.frozen? ⟨w.heap.size, i, none⟩ = false := by
  rw [← h]; simp [go_sem]

/-- A contract at a world that extends W. -/
theorem callsAt {P : Program} {f : FuncId} {args : Array Value} {W : World} {R : Ending → World → Prop} {x : Wd W}
    (h : Calls P f args x.val fun e w' => R e w' ∧ Below x.val.heap.size x.val w') : Calls P f args x.val fun e w' => ∃ y : Wd W, w' = y.val ∧ R e y.val :=
  h.mono fun _ _ ⟨hr, hb⟩ => ⟨⟨_, x.ok.trans (hb.mono x.ok.size)⟩, rfl, hr⟩
theorem callsAt2 {P : Program} {f : FuncId} {args : Array Value} {W : World} {R : Ending → World → Prop} {x : Wd W}
    (h : Calls P f args x.val fun e w' => R e w' ∧ Below x.val.heap.size x.val w') : Calls P f args x.val fun e w' => ∃ y : Wd W, w' = y.val ∧ R e y.val ∧ Below x.val.heap.size x.val y.val :=
  h.mono fun _ _ ⟨hr, hb⟩ => ⟨⟨_, x.ok.trans (hb.mono x.ok.size)⟩, rfl, hr, hb⟩
/-- .. of one value, as a quiet region asks it. -/
theorem callsCalm {P : Program} {f : FuncId} {args : Array Value} {W : World} {v : Value} {x : Wd W}
    (h : Calls P f args x.val fun e w' => e = .returned v ∧ Below x.val.heap.size x.val w') : Calls P f args x.val fun e w' => e = .returned v ∧ ∃ y : Wd W, w' = y.val :=
  h.mono fun _ _ ⟨hr, hb⟩ => ⟨hr, ⟨_, x.ok.trans (hb.mono x.ok.size)⟩, rfl⟩
theorem callsCalmSame {P : Program} {f : FuncId} {args : Array Value} {W : World} {v : Value} {x : Wd W}
    (h : Calls P f args x.val fun e w' => e = .returned v ∧ x.val = w') : Calls P f args x.val fun e w' => e = .returned v ∧ ∃ y : Wd W, w' = y.val :=
  h.mono fun _ _ ⟨hr, hb⟩ => ⟨hr, x, hb.symm⟩

/-- The value, said otherwise. -/
theorem callsRet {P : Program} {f : FuncId} {args : Array Value} {w : World} {v v' : Value} {R : World → Prop}
    (h : Calls P f args w fun e w' => e = .returned v ∧ R w') (hv : v = v') : Calls P f args w fun e w' => e = .returned v' ∧ R w' := hv ▸ h

/-- A region that draws its order, whose operations only read and whose callees at most make memory: one walk in the order of the text. -/
theorem wp_region_calm {P : Program} {id : Nat} {Q : Exit → Act → World → Prop} {a : Act} {w : World} {l : List Oper} (W : World) (hm : P.follows .mixedOrders = true) (hB : Region.lexB .any l.toArray = true)
    (hw : Below W.heap.size W w)
    (h : wpQuiet P l.toArray (fun w' => ∃ x : Wd W, w' = x.val) (fun a' => ∀ w', (∃ x : Wd W, w' = x.val) → Q .normal a' w') l a) : (Code.region id l.toArray true).wp P Q a w :=
  wp_region_quiet (C := fun w' => ∃ x : Wd W, w' = x.val) hm hB (Wd.of (show Below W.heap.size W w.drew from hw.drew)) (by simpa using h)


/-- A block that is known whole, none of its cells frozen. -/
def Blk (w : World) (g : Nat) (t : TypeId) (cs : Array Value) : Prop := w.heap[g]? = some (.cells cs t (0, 0))
section
variable {w w' : World} {g : Nat} {t : TypeId} {cs : Array Value}
theorem Blk.lt (h : Blk w g t cs) : g < w.heap.size := by
  rcases Nat.lt_or_ge g w.heap.size with hlt | hge
  · exact hlt
  · unfold Blk at h; rw [Array.getElem?_eq_none hge] at h; cases h
theorem Blk.cell (h : Blk w g t cs) (i : Nat) : w.cell? ⟨g, i, none⟩ = cs[i]? := cell_of_row w g i cs t (0, 0) h
theorem Blk.frozen (h : Blk w g t cs) (i : Nat) : w.frozen? ⟨g, i, none⟩ = false := by
  unfold Blk at h
  simp [World.frozen?, h]
theorem Blk.new (w : World) (t : TypeId) (cs : Array Value) : Blk (w.alloc (.cells cs t)) w.heap.size t cs := heap_alloc_new w _
theorem Blk.alloc (h : Blk w g t cs) (o : Obj) : Blk (w.alloc o) g t cs := (Below.heap_alloc w o g h.lt).trans h
theorem Blk.set_ (h : Blk w g t cs) (i : Nat) (u : Value) : Blk (w.setCell ⟨g, i, none⟩ u) g t (cs.setIfInBounds i u) := by
  unfold Blk at h ⊢
  simp [World.setCell, Array.getElem?_modify, h]
theorem Blk.far (h : Blk w g t cs) {p : Addr} (hp : g ≠ p.block) (u : Value) : Blk (w.setCell p u) g t cs := (Below.heap_setCell w p u g hp).trans h
theorem Blk.ext (h : Blk w g t cs) (hb : Below w.heap.size w w') : Blk w' g t cs := (hb.block g h.lt).trans h
end

/-! ### A drawn region: quiet operations, then operations that come up in the order of the text -/
section
variable {P : Program} {ops : Array Oper} {md : Region.Mode} {C : World → Prop}

def wpAnyLQ (P : Program) (md : Region.Mode) (ops : Array Oper) (C : World → Prop) (n : Nat) (L : Array Bool → Act → Prop) : Nat → Array Bool → Act → Prop
  | 0, listed, a => L listed a
  | f + 1, listed, a =>
    Region.ready md ops listed ≠ [] ∧ ∀ i ∈ Region.ready md ops listed, i < n ∧ qOp P ops C i (wpAnyLQ P md ops C n L f (listed.setIfInBounds i true)) a

theorem wpAnyQ_of_head {n g : Nat} {L : Array Bool → Act → Prop} {Q' : Exit → Act → World → Prop} (hL : ∀ listed a w, C w → L listed a → wpAny P md ops Q' g listed a w) :
    ∀ (f : Nat) (listed : Array Bool) (a : Act) (w : World), C w → wpAnyLQ P md ops C n L f listed a → wpAny P md ops Q' (f + g) listed a w
  | 0, listed, a, w, hw, h => by rw [Nat.zero_add]; exact hL _ _ _ hw h
  | f + 1, listed, a, w, hw, h => by
    rw [show f + 1 + g = (f + g) + 1 by omega]
    exact ⟨fun h0 => absurd h0 h.1, fun i hi => wpOp_of_qOp hw (fun a' w' hw' h' => wpAnyQ_of_head hL f _ a' w' hw' h') (h.2 i hi).2⟩

theorem wpAnyLQ_first {n i : Nat} {oi : Oper} {v : Value} {L : Array Bool → Act → Prop} (hi : ops[i]? = some oi) (hsel : ∀ (j : Nat) (o : Oper) cs b, ops[j]? = some o → o.op ≠ .select cs b)
    (hs : Region.sinkB md ops n = true) (hc : Region.chainB md ops n = true) (hn : n < ops.size) (hin : i < n)
    (hdone : ∀ listed a, L listed a → ∀ j ∈ Region.ready md ops listed, n ≤ j) :
    ∀ (f : Nat) (listed : Array Bool) (a : Act), HeadInv md ops n listed →
      (∀ j oj, ops[j]? = some oj → j ≠ i → listed.getD j true = false → (∀ e ∈ oj.after, Region.binds md e = true → e.on ≠ i) → oi.apart ops oj = true) →
      i ∈ Region.ready md ops listed → YieldsIn P ops C oi v a →
      wpAnyLQ P md ops C n L f (listed.setIfInBounds i true) (a.put oi.dst v) → wpAnyLQ P md ops C n L (f + 1) listed a := by
  intro f
  induction f with
  | zero =>
    intro listed a inv _ hr hy H
    have hun := (mem_ready.1 hr).1
    refine ⟨fun h => (by rw [h] at hr; cases hr), fun j hj => ?_⟩
    have hjn : j < n := by
      rcases Nat.lt_or_ge j n with h | h
      · exact h
      · exact absurd hj (tail_waits hs hc hn inv _ i rfl hin hun j h)
    refine ⟨hjn, ?_⟩
    by_cases hji : j = i
    · subst hji; exact hy.qOp hi H
    · have := hdone _ _ H j (ready_mono hj hji)
      omega
  | succ f ih =>
    intro listed a inv hfree hr hy H
    have hun := (mem_ready.1 hr).1
    refine ⟨fun h => (by rw [h] at hr; cases hr), fun j hj => ?_⟩
    have hjn : j < n := by
      rcases Nat.lt_or_ge j n with h | h
      · exact h
      · exact absurd hj (tail_waits hs hc hn inv _ i rfl hin hun j h)
    refine ⟨hjn, ?_⟩
    by_cases hji : j = i
    · subst hji; exact hy.qOp hi H
    · have h1 := (H.2 j (ready_mono hj hji)).2
      obtain ⟨hjun, oj, hoj, hall⟩ := mem_ready.1 hj
      have hnot : ∀ e ∈ oj.after, Region.binds md e = true → e.on ≠ i := fun e he hb heq => by
        have h1 := hall e he hb
        rw [heq, getD_both hun] at h1
        cases h1
      have h2 := qOp_put hoj (hfree j oj hoj hji hjun hnot) (fun cs b => hsel i oi cs b hi) (fun cs b => hsel j oj cs b hoj) hy h1
      have hfree' : ∀ k ok, ops[k]? = some ok → k ≠ i → (listed.setIfInBounds j true).getD k true = false →
          (∀ e ∈ ok.after, Region.binds md e = true → e.on ≠ i) → oi.apart ops ok = true := fun k ok hk hki hun hno => by
        refine hfree k ok hk hki ?_ hno
        by_cases hjk : j = k
        · subst hjk; exact hjun
        · rw [getD_set_ne true hjk] at hun; exact hun
      refine qOp_mono (fun a' h3 => ih (listed.setIfInBounds j true) a' (inv.set hj hjn) hfree' (ready_mono hr (Ne.symm hji)) h3.1 ?_) h2
      rw [Array.setIfInBounds_comm _ _ hji]
      exact h3.2

theorem wpAnyLQ_lex {n g : Nat} {Lq : Act → Prop} (hsel : Region.noSelect ops = true) (hs : Region.sinkB md ops n = true) (hc : Region.chainB md ops n = true) (hn : n < ops.size) :
    ∀ (l : List Oper) (k : Nat) (listed : Array Bool) (a : Act), (∀ j, j < l.length → l[j]? = ops[k + j]?) → k + l.length = n → HeadInv md ops n listed →
    Region.lexHead md ops g l.length k listed = true → wpQuiet P ops C Lq l a →
    wpAnyLQ P md ops C n (fun listed' a' => Region.seqB md ops g n listed' = true ∧ Lq a') l.length listed a
  | [], k, listed, a, _, hk, _, hB, h => by
    have : k = n := by simpa using hk
    subst this
    exact ⟨by simpa [Region.lexHead] using hB, h⟩
  | o :: l, k, listed, a, hl, hk, inv, hB, h => by
    have h0 : ops[k]? = some o := by simpa using (hl 0 (by simp)).symm
    simp only [List.length_cons, Region.lexHead, Bool.and_eq_true] at hB
    obtain ⟨⟨hr, hf⟩, hB'⟩ := hB
    have hkn : k < n := by simp only [List.length_cons] at hk; omega
    have hr' : k ∈ Region.ready md ops listed := by simpa using hr
    have hst : qOp P ops C k (wpQuiet P ops C Lq l) a := by unfold qOp; simp only [h0]; exact h
    obtain ⟨v, hy, hK⟩ := yieldsIn_of_qOp h0 hst
    exact wpAnyLQ_first h0 (Region.noSelect_spec hsel) hs hc hn hkn (fun listed' a' hL => seqB_ready hL.1) l.length listed a inv (Region.free_spec h0 hf) hr' hy
      (wpAnyLQ_lex hsel hs hc hn l (k + 1) _ _ (fun j hj => by have := hl (j + 1) (by simp; omega); simpa [Nat.add_assoc, Nat.add_comm 1 j] using this) (by simp only [List.length_cons] at hk; omega) (inv.set hr' hkn) hB' hK)

/-- A region that draws its order: its first n operations only read (their callees at most make memory); the others come up behind them, in the order of the text. -/
theorem wp_region_calm_tail {id : Nat} {Q : Exit → Act → World → Prop} {a : Act} {w : World} {l : List Oper} (W : World) (n : Nat) (hm : P.follows .mixedOrders = true) (hB : Region.lexTailB .any l.toArray n = true)
    (hw : Below W.heap.size W w)
    (h : wpQuiet P l.toArray (fun w' => ∃ x : Wd W, w' = x.val) (fun a' => ∀ w', (∃ x : Wd W, w' = x.val) → wpList P l.toArray Q (l.drop n) a' w') (l.take n) a) : (Code.region id l.toArray true).wp P Q a w := by
  simp only [Region.lexTailB, Bool.and_eq_true, decide_eq_true_eq] at hB
  obtain ⟨⟨⟨⟨hsel, hn⟩, hs⟩, hc⟩, hlex⟩ := hB
  have hn' : n < l.length := by simpa using hn
  have htl : (l.take n).length = n := by simp; omega
  have hdl : (l.drop n).length = l.toArray.size - n := by simp
  have inv0 : HeadInv .any l.toArray n (Array.replicate l.toArray.size false) :=
    ⟨by simp, fun j oj _ hl => (by rw [getD_replicate_false] at hl; cases hl), fun t _ ht => getD_in (by simpa using ht) (getD_replicate_false _ _)⟩
  have H := wpAnyLQ_lex (md := .any) (g := l.toArray.size - n) hsel hs hc hn (l.take n) 0 _ a (fun j hj => by
    have hj' : j < n := by rw [htl] at hj; exact hj
    simp [hj']) (by simpa using htl) inv0 (by rw [htl]; exact hlex) h
  refine wp_region_any hm ?_
  have := wpAnyQ_of_head (Q' := Q) (g := l.toArray.size - n) (fun listed a' w' hw' hL => by
    have := wpAny_of_seq (md := .any) (Q' := Q) (l.drop n) n listed a' w' (fun j => by simp [List.getElem?_drop]) (by rw [hdl]; exact hL.1) (hL.2 _ hw')
    rwa [hdl] at this) _ _ _ { w with drawn := w.drawn + 1 } (Wd.of (show Below W.heap.size W w.drew from hw.drew)) H
  rw [htl, show n + (l.toArray.size - n) = l.toArray.size by omega] at this
  exact this
end

end Go.Proofs.Ytdhhneflhmkonaa

/- Drawn regions within a round of a range over a function (at the wide fence): the same two laws. No program. -/
namespace Go.Proofs.Ytdhhneflhmkonaa
open Go.RowKit

section
variable {P : Program} {ops : Array Oper} {md : Region.Mode} {C : World → Prop} {F : Fence} {n : Nat}

/-- A fence that lets everything in. -/
structure Open (F : Fence) : Prop where
  fn : ∀ f, F.fn f
  depth : F.depth = none
  calls : ∀ {n : Nat} {P : Program} {f : FuncId} {args : Array Value} {w : World} {R : Ending → World → Prop}, Calls P f args w R → CallsIn F n P f args w R

theorem Open.wide : Open Fence.wide := ⟨fun _ => trivial, rfl, fun h => callsIn_wide.2 h⟩
theorem Open.round (l : Nat) : Open (Fence.wide.inRound l) := ⟨fun _ => trivial, rfl, fun h => CallsIn.inRound l (callsIn_wide.2 h)⟩

theorem operWpIn_of_quiet (hF : Open F) {o : Oper} (hnd : ∀ c, o.op ≠ .defer c) {a : Act} {K : Act → Prop} {K' : Act → World → Prop} {Q' : Exit → Act → World → Prop} {w : World} (hw : C w) (h : ∀ a w', C w' → K a → K' a w') (hh : o.quiet P a C K) : o.wpIn F n P a w K' Q' := by
  obtain ⟨v, h1, h2⟩ := hh
  have h3 := h1 w hw
  unfold Oper.quietAt at h3
  unfold Oper.wpIn
  rw [Oper.semAt_eq _ _ _ hnd]
  refine ⟨fun f _ => hF.fn f, ?_⟩
  generalize (execOp a.eval o).run P w = r at *
  cases r with
  | ok x w' =>
    cases x <;> simp only [Oper.quietUpon] at h3 <;> simp only [Oper.uponIn]
    case value u =>
      obtain ⟨e1, e2⟩ := h3
      rw [e1, e2]
      exact h _ _ hw h2
    case skip =>
      obtain ⟨e1, e2⟩ := h3
      rw [e1, ← e2]
      exact h _ _ hw h2
    case enter f args =>
      obtain ⟨e1, hc⟩ := h3
      rw [e1]
      exact ⟨fun hd => (by rw [hF.depth] at hd; cases hd), hF.calls (hc.mono fun e w'' ⟨he, hw''⟩ => by subst he; exact h _ _ hw'' h2)⟩
  | halt x w' => simp only [Oper.quietUpon] at h3

def noDefer (ops : Array Oper) : Bool := ops.all fun o => match o.op with | .defer _ => false | _ => true
theorem noDefer_spec (h : noDefer ops = true) {i : Nat} {o : Oper} (ho : ops[i]? = some o) : ∀ c, o.op ≠ .defer c := by
  intro c he
  have := Array.all_eq_true_iff_forall_mem.1 h o (Array.mem_of_getElem? ho)
  simp [he] at this

theorem wpOpIn_of_qOp (hF : Open F) (hnd : noDefer ops = true) {i : Nat} {a : Act} {K : Act → Prop} {K' : Act → World → Prop} {Q' : Exit → Act → World → Prop} {w : World} (hC : C w) (h : ∀ a w', C w' → K a → K' a w') (hh : qOp P ops C i K a) : wpOpIn F n P ops Q' i K' a w := by
  unfold qOp at hh
  unfold wpOpIn
  split
  · rename_i ho; simp only [ho] at hh; exact h _ _ hC hh
  · rename_i o ho
    simp only [ho] at hh
    split
    · rename_i hw; simp only [hw, if_true] at hh; exact operWpIn_of_quiet hF (noDefer_spec hnd ho) hC h hh
    · rename_i hw; simp only [hw] at hh; exact ⟨fun f _ => hF.fn f, h _ _ hC hh⟩

theorem wpAnyIn_of_quiet (hF : Open F) (hnd : noDefer ops = true) {Q : Act → Prop} {Q' : Exit → Act → World → Prop} (hQ : ∀ a w, C w → Q a → Q' .normal a w) : ∀ (fuel : Nat) (listed : Array Bool) (a : Act) (w : World), C w →
    wpAnyQ P md ops C Q fuel listed a → wpAnyIn F n P md ops Q' fuel listed a w
  | 0, _, _, _, hw, h => ⟨h.1, hQ _ _ hw h.2⟩
  | fuel + 1, _, _, _, hw, h => ⟨fun h0 => hQ _ _ hw (h.1 h0), fun i hi => wpOpIn_of_qOp hF hnd hw (fun a' w' hw' => wpAnyIn_of_quiet hF hnd hQ fuel _ a' w' hw') (h.2 i hi)⟩

/-- A class of worlds that a draw does not leave. -/
theorem wpIn_region_quiet (hF : Open F) {id : Nat} {Q : Exit → Act → World → Prop} {a : Act} {w : World} {l : List Oper} (hm : P.follows .mixedOrders = true) (hB : Region.lexB .any l.toArray = true) (hnd : noDefer l.toArray = true) (hC : C w.drew)
    (h : wpQuiet P l.toArray C (fun a' => ∀ w', C w' → Q .normal a' w') l a) : (Code.region id l.toArray true).wpIn F n P Q a w := by
  simp only [Region.lexB, Bool.and_eq_true] at hB
  refine wpIn_region_any hm (wpAnyIn_of_quiet hF hnd (Q := fun a' => ∀ w', C w' → Q .normal a' w') (fun _ w' hw' h => h w' hw') _ _ _ { w with drawn := w.drawn + 1 } hC ?_)
  have := wpAnyQ_lex (C := C) (md := .any) hB.1 l 0 (Array.replicate l.toArray.size false) a (by simp) (by simpa using hB.2) h
  simpa using this

theorem wpAnyIn_of_head (hF : Open F) (hnd : noDefer ops = true) {m g : Nat} {L : Array Bool → Act → Prop} {Q' : Exit → Act → World → Prop} (hL : ∀ listed a w, C w → L listed a → wpAnyIn F n P md ops Q' g listed a w) :
    ∀ (f : Nat) (listed : Array Bool) (a : Act) (w : World), C w → wpAnyLQ P md ops C m L f listed a → wpAnyIn F n P md ops Q' (f + g) listed a w
  | 0, listed, a, w, hw, h => by rw [Nat.zero_add]; exact hL _ _ _ hw h
  | f + 1, listed, a, w, hw, h => by
    rw [show f + 1 + g = (f + g) + 1 by omega]
    exact ⟨fun h0 => absurd h0 h.1, fun i hi => wpOpIn_of_qOp hF hnd hw (fun a' w' hw' h' => wpAnyIn_of_head hF hnd hL f _ a' w' hw' h') (h.2 i hi).2⟩

theorem wpAnyIn_of_seq {Q' : Exit → Act → World → Prop} : ∀ (l : List Oper) (k : Nat) (listed : Array Bool) (a : Act) (w : World), (∀ j, l[j]? = ops[k + j]?) →
    Region.seqB md ops l.length k listed = true → wpListIn F n P ops Q' l a w → wpAnyIn F n P md ops Q' l.length listed a w
  | [], _, _, _, _, _, hB, h => ⟨by simpa [Region.seqB] using hB, h⟩
  | o :: l, k, listed, a, w, hl, hB, h => by
    have h0 : ops[k]? = some o := by simpa using (hl 0).symm
    simp only [List.length_cons, Region.seqB, Bool.and_eq_true, decide_eq_true_eq] at hB
    refine ⟨fun h1 => (by rw [hB.1] at h1; cases h1), fun i hi => ?_⟩
    rw [hB.1] at hi
    have hik : i = k := by simpa using hi
    subst hik
    have hw : wpOpIn F n P ops Q' i (wpListIn F n P ops Q' l) a w := by unfold wpOpIn; simp only [h0]; exact h
    exact wpOpIn_mono (fun a' w' h' => wpAnyIn_of_seq l (i + 1) _ a' w' (fun j => by have := hl (j + 1); simpa [Nat.add_assoc, Nat.add_comm 1 j] using this) hB.2 h') hw

theorem wpIn_region_quiet_tail (hF : Open F) {id : Nat} {Q : Exit → Act → World → Prop} {a : Act} {w : World} {l : List Oper} (m : Nat) (hm : P.follows .mixedOrders = true) (hB : Region.lexTailB .any l.toArray m = true) (hnd : noDefer l.toArray = true) (hC : C w.drew)
    (h : wpQuiet P l.toArray C (fun a' => ∀ w', C w' → wpListIn F n P l.toArray Q (l.drop m) a' w') (l.take m) a) : (Code.region id l.toArray true).wpIn F n P Q a w := by
  simp only [Region.lexTailB, Bool.and_eq_true, decide_eq_true_eq] at hB
  obtain ⟨⟨⟨⟨hsel, hn⟩, hs⟩, hc⟩, hlex⟩ := hB
  have hn' : m < l.length := by simpa using hn
  have htl : (l.take m).length = m := by simp; omega
  have hdl : (l.drop m).length = l.toArray.size - m := by simp
  have inv0 : HeadInv .any l.toArray m (Array.replicate l.toArray.size false) :=
    ⟨by simp, fun j oj _ hl => (by rw [getD_replicate_false] at hl; cases hl), fun t _ ht => getD_in (by simpa using ht) (getD_replicate_false _ _)⟩
  have H := wpAnyLQ_lex (md := .any) (g := l.toArray.size - m) hsel hs hc hn (l.take m) 0 _ a (fun j hj => by
    have hj' : j < m := by rw [htl] at hj; exact hj
    simp [hj']) (by simpa using htl) inv0 (by rw [htl]; exact hlex) h
  refine wpIn_region_any hm ?_
  have := wpAnyIn_of_head hF hnd (Q' := Q) (g := l.toArray.size - m) (fun listed a' w' hw' hL => by
    have := wpAnyIn_of_seq (md := .any) (Q' := Q) (l.drop m) m listed a' w' (fun j => by simp [List.getElem?_drop]) (by rw [hdl]; exact hL.1) (hL.2 _ hw')
    rwa [hdl] at this) _ _ _ { w with drawn := w.drawn + 1 } hC H
  rw [htl, show m + (l.toArray.size - m) = l.toArray.size by omega] at this
  exact this
end
end Go.Proofs.Ytdhhneflhmkonaa

/- The mill's checks: index, CheckComer, Check. -/
namespace Go.Proofs.Ytdhhneflhmkonaa
open Go.RowKit

structure Comer where
  family : Int
  hours : Int
  wants : Int
deriving DecidableEq, Repr

def ccells (c : Comer) : List Value := [.int .i64 c.family, .int .i64 c.hours, .int .i64 c.wants]

theorem index1_any (c : Comer) (p : Addr) (fam : Int) (w : World) (hp : w.cell? p = some (.int .i64 fam)) (hb : p.block < w.heap.size) :
    Calls Try.prog 98 #[.agg #[.int .i64 c.family, .int .i64 c.hours, .int .i64 c.wants], .pointer (some p)] w fun e w' => e = .returned (.bool (c.family == fam)) ∧ Below w.heap.size w w' := by
  have hp' : (w.alloc (.cells #[.int .i64 c.family, .int .i64 c.hours, .int .i64 c.wants] 53)).cell? p = some (.int .i64 fam) := by
    rw [← hp]; exact World.cell?_alloc_lt w _ p hb
  go_enter Try.func98, Try.ntmps98
  go_wp2
  go_ret
  exact ⟨rfl, (Below.refl _ _).alloc (Nat.le_refl _) _⟩

def idx (l : List Comer) (f : Int) : Int := match l.findIdx? (fun c => c.family == f) with
  | some i => i
  | none => -1

theorem comer_at {w : World} {A : Option Addr} {n : Nat} {xs : List Comer} (h : Arr ccells 3 w A n xs) {k : Nat} (hk : k < n) :
    ∃ b o x, A = some ⟨b, o, none⟩ ∧ b < w.heap.size ∧ xs[k]? = some x ∧ ∀ w', Below w.heap.size w w' → w'.cell? ⟨b, o + k * 3, none⟩ = some (.int .i64 x.family) ∧
      w'.cell? ⟨b, o + k * 3 + 1, none⟩ = some (.int .i64 x.hours) ∧ w'.cell? ⟨b, o + k * 3 + 2, none⟩ = some (.int .i64 x.wants) := by
  obtain ⟨b, o, x, rfl, hb, hx, hc⟩ := h.at hk
  exact ⟨b, o, x, rfl, hb, hx, fun w' hw => ⟨hc w' hw 0 _ rfl, hc w' hw 1 _ rfl, hc w' hw 2 _ rfl⟩⟩

theorem idx_none {l : List Comer} {f : Int} (h : ∀ j, j < l.length → ∀ x, l[j]? = some x → x.family ≠ f) : idx l f = -1 := by
  unfold idx
  have : l.findIdx? (fun c => c.family == f) = none := by
    rw [List.findIdx?_eq_none_iff]
    intro x hx
    obtain ⟨j, hj, rfl⟩ := List.getElem_of_mem hx
    simpa using h j hj _ (List.getElem?_eq_getElem hj)
  rw [this]

theorem idx_some {l : List Comer} {f : Int} {k : Nat} {x : Comer} (h : ∀ j, j < k → ∀ x, l[j]? = some x → x.family ≠ f) (hx : l[k]? = some x) (hf : x.family = f) : idx l f = k := by
  unfold idx
  have hk : k < l.length := (List.getElem?_eq_some_iff.1 hx).1
  have : l.findIdx? (fun c => c.family == f) = some k := by
    rw [List.findIdx?_eq_some_iff_getElem]
    refine ⟨hk, ?_, fun j hj => ?_⟩
    · rw [List.getElem?_eq_getElem hk] at hx; simp at hx; simp [hx, hf]
    · have := h j hj _ (List.getElem?_eq_getElem (by omega)); simpa using this
  rw [this]

theorem indexFunc_any (A : Option Addr) (n c : Nat) (xs : List Comer) (p : Addr) (fam : Int) (w : World) (ha : Arr ccells 3 w A n xs) (hn : n ≤ 9223372036854775807)
    (hp : w.cell? p = some (.int .i64 fam)) (hb : p.block < w.heap.size) :
    Calls Try.prog 97 #[.slice A n c, .func (.func 98) #[] #[.pointer (some p)]] w fun e w' => e = .returned (.int .i64 (idx xs fam)) ∧ Below w.heap.size w w' := by
  have hlen := Lib.hid ha.1
  go_enter Try.func97, Try.ntmps97
  go_wp2
  go_loopw [8] (fun i wr => ∃ k : Nat, k ≤ n ∧ i = .int .i64 k ∧ (∀ j, j < k → ∀ x, xs[j]? = some x → x.family ≠ fam) ∧ Below w.heap.size w wr) (fun i _ => n - (intOf i).toNat)
  case atStart => exact ⟨0, Nat.zero_le _, rfl, by omega, Below.refl _ _⟩
  case round =>
    obtain ⟨k, hk, rfl, hno, hbel⟩ := hrel
    by_cases hlt : k < n
    · obtain ⟨b, o, x, rfl, hab, hx, hcell⟩ := comer_at ha hlt
      obtain ⟨h0, h1, h2⟩ := hcell wr hbel
      have hpr : wr.cell? p = some (.int .i64 fam) := (hbel.cell hb).trans hp
      have hbr : p.block < wr.heap.size := Nat.lt_of_lt_of_le hb hbel.size
      have Hp := Lib.hid hp
      have Hx := Lib.hid hx
      clear hp hcell hx
      by_cases hf : (x.family == fam) = true
      · go_wp2_with (go_at_call 98; refine (index1_any x p fam _ hpr hbr).mono ?_; rw [hf]; rintro e w' ⟨rfl, hb'⟩)
        go_ret
        exact ⟨ret_int (idx_some hno Hx.out (by simpa using hf)).symm, hbel.trans (hb'.mono hbel.size)⟩
      · have hf' : (x.family == fam) = false := by simpa using hf
        go_wp2_with (go_at_call 98; refine (index1_any x p fam _ hpr hbr).mono ?_; rw [hf']; rintro e w' ⟨rfl, hb'⟩)
        go_roundw
        case rel => 
          refine ⟨k + 1, by omega, by go_num, ?_, hbel.trans (hb'.mono hbel.size)⟩
          intro j hj y hy
          by_cases hjk : j < k
          · exact hno j hjk y hy
          · obtain rfl : j = k := by omega
            have := Hx.out
            rw [this] at hy; simp at hy; subst hy; simpa using hf
        case measure => simp [intOf]; omega
    · go_wp2
      go_ret
      exact ⟨ret_int (idx_none (fun j hj => hno j (by have := hlen.out; omega))).symm, hbel⟩
def rng (n lo hi : Int) : Bool := decide (lo ≤ n) && decide (n ≤ hi)

theorem within_any (n lo hi : Int) (w : World) :
    Calls Try.prog 64 #[.int .i64 n, .int .i64 lo, .int .i64 hi] w fun e w' => e = .returned (.bool (rng n lo hi)) ∧ w = w' := by
  unfold rng
  by_cases h1 : lo ≤ n
  · go_enter Try.func64, Try.ntmps64
    go_wp2
    go_ret
    exact ⟨by simp [h1], rfl⟩
  · go_enter Try.func64, Try.ntmps64
    go_wp2
    go_ret
    exact ⟨by simp; omega, rfl⟩

def isComer (c : Comer) : Bool := rng c.family 1 99 && rng c.hours 0 16777215 && rng c.wants 0 24
abbrev cv (c : Comer) : Value := .agg #[.int .i64 c.family, .int .i64 c.hours, .int .i64 c.wants]
def err (b : Bool) (e : Int) : Int := if b then 0 else e

theorem checkComer_any (c : Comer) (w : World) :
    Calls Try.prog 51 #[cv c] w fun e w' => e = .returned (.int .i64 (err (isComer c) 51)) ∧ Below w.heap.size w w' := by
  unfold err isComer
  cases hA : rng c.family 1 99 <;> cases hB : rng c.hours 0 16777215 <;> cases hC : rng c.wants 0 24
  all_goals
    go_enter Try.func51, Try.ntmps51
    go_wp2_with (go_at_call 64; refine (within_any _ _ _ _).mono ?_; rintro e w' ⟨rfl, rfl⟩)
    go_ret
    exact ⟨rfl, (Below.refl _ _).alloc (Nat.le_refl _) _⟩


theorem index_any (A : Option Addr) (n c : Nat) (xs : List Comer) (fam : Int) (w : World) (ha : Arr ccells 3 w A n xs) (hn : n ≤ 9223372036854775807) :
    Calls Try.prog 63 #[.slice A n c, .int .i64 fam] w fun e w' => e = .returned (.int .i64 (idx xs fam)) ∧ Below w.heap.size w w' := by
  have hb0 : Below w.heap.size w (w.alloc (.cells #[.int .i64 fam] 3)) := (Below.refl _ _).alloc (Nat.le_refl _) _
  have hp : (w.alloc (.cells #[.int .i64 fam] 3)).cell? ⟨w.heap.size, 0, none⟩ = some (.int .i64 fam) := by simp [go_sem]
  have hcall := indexFunc_any A n c xs ⟨w.heap.size, 0, none⟩ fam _ (ha.below hb0) hn hp (by simp)
  have Hc := Lib.hid hcall
  clear hcall hp
  go_enter Try.func63, Try.ntmps63
  go_wp2_with (go_at_call 97; refine (Hc.out).mono ?_; rintro e w' ⟨rfl, hb⟩)
  go_ret
  exact ⟨rfl, hb0.trans (hb.mono (by simp))⟩

end Go.Proofs.Ytdhhneflhmkonaa

/- The mill's yields: isYield, CheckYield, asked, threshed, flour, gives, Bundles, Wants, Toll. -/
namespace Go.Proofs.Ytdhhneflhmkonaa
open Go.RowKit

structure Yield where
  lo : Int
  hi : Int
  toll : Int
structure Rng where
  lo : Int
  hi : Int
deriving DecidableEq
abbrev yv (y : Yield) : Value := .agg #[.int .i64 y.lo, .int .i64 y.hi, .int .i64 y.toll]
abbrev rv (r : Rng) : Value := .agg #[.int .i64 r.lo, .int .i64 r.hi]

def isYield (y : Yield) : Bool := decide (0 ≤ y.lo) && decide (y.lo ≤ y.hi) && decide (y.hi ≤ 1000) && rng y.toll 2 100

theorem isYield_any (y : Yield) (w : World) :
    Calls Try.prog 93 #[yv y] w fun e w' => e = .returned (.bool (isYield y)) ∧ Below w.heap.size w w' := by
  by_cases h1 : 0 ≤ y.lo
  · by_cases h2 : y.lo ≤ y.hi
    · by_cases h3 : y.hi ≤ 1000
      · have HH := Lib.hid (show isYield y = rng y.toll 2 100 by simp [isYield, h1, h2, h3])
        go_enter Try.func93, Try.ntmps93
        go_wp2_with (go_at_call 64; refine (within_any _ _ _ _).mono ?_; rintro e w' ⟨rfl, rfl⟩)
        go_ret
        exact ⟨ret_bool HH.out.symm, (Below.refl _ _).alloc (Nat.le_refl _) _⟩
      · have HH := Lib.hid (show isYield y = false by simp [isYield, h3])
        go_enter Try.func93, Try.ntmps93
        go_wp2
        go_ret
        exact ⟨ret_bool HH.out.symm, (Below.refl _ _).alloc (Nat.le_refl _) _⟩
    · have HH := Lib.hid (show isYield y = false by simp [isYield, h2])
      go_enter Try.func93, Try.ntmps93
      go_wp2
      go_ret
      exact ⟨ret_bool HH.out.symm, (Below.refl _ _).alloc (Nat.le_refl _) _⟩
  · have HH := Lib.hid (show isYield y = false by simp [isYield, h1])
    go_enter Try.func93, Try.ntmps93
    go_wp2
    go_ret
    exact ⟨ret_bool HH.out.symm, (Below.refl _ _).alloc (Nat.le_refl _) _⟩

theorem checkYield_any (y : Yield) (w : World) :
    Calls Try.prog 49 #[yv y] w fun e w' => e = .returned (.int .i64 (err (isYield y) 50)) ∧ Below w.heap.size w w' := by
  unfold err
  cases hy : isYield y
  all_goals
    go_enter Try.func49, Try.ntmps49
    go_wp2_with (go_at_call 93; refine (callsRet (isYield_any y _) (by rw [hy])).mono ?_; rintro e w' ⟨rfl, hb⟩)
    go_ret
    exact ⟨rfl, extTrans ((Below.refl _ _).alloc (Nat.le_refl _) _) hb⟩

/-- The error of a yield and of a range of numbers. -/
def askedE (y : Yield) (r : Rng) (most : Int) : Int := if isYield y then (if decide (0 ≤ r.lo) && decide (r.lo ≤ r.hi) && decide (r.hi ≤ most) then 0 else 58) else 50

theorem asked_any (y : Yield) (r : Rng) (most : Int) (w : World) :
    Calls Try.prog 81 #[yv y, rv r, .int .i64 most] w fun e w' => e = .returned (.int .i64 (askedE y r most)) ∧ Below w.heap.size w w' := by
  cases hy : isYield y
  · have HH := Lib.hid (show askedE y r most = 50 by simp [askedE, hy])
    go_enter Try.func81, Try.ntmps81
    go_wp2_with (go_at_call 93; refine (callsRet (isYield_any y _) (by rw [hy])).mono ?_; rintro e w' ⟨rfl, hb⟩)
    go_ret
    exact ⟨ret_int HH.out.symm, extTrans (((Below.refl _ _).alloc (Nat.le_refl _) _).alloc (by simp) _) hb⟩
  · have fin : ∀ v, askedE y r most = v → ((0 ≤ r.lo ∧ r.lo ≤ r.hi ∧ r.hi ≤ most ∧ v = 0) ∨ (r.lo < 0 ∧ v = 58) ∨ (0 ≤ r.lo ∧ r.hi < r.lo ∧ v = 58) ∨ (0 ≤ r.lo ∧ r.lo ≤ r.hi ∧ most < r.hi ∧ v = 58)) := by
      intro v hv
      simp only [askedE, hy, if_true] at hv
      by_cases h1 : 0 ≤ r.lo <;> by_cases h2 : r.lo ≤ r.hi <;> by_cases h3 : r.hi ≤ most <;> simp [h1, h2, h3] at hv <;> subst hv <;> omega
    obtain ⟨v, hv⟩ : ∃ v, askedE y r most = v := ⟨_, rfl⟩
    have HH := Lib.hid hv
    have fin := fin v hv
    clear hv
    rcases fin with ⟨h1, h2, h3, rfl⟩ | ⟨h1, rfl⟩ | ⟨h1, h2, rfl⟩ | ⟨h1, h2, h3, rfl⟩
    all_goals
      go_enter Try.func81, Try.ntmps81
      go_wp2_with fail
      generalize hW1 : w.alloc (.cells #[.int .i64 y.lo, .int .i64 y.hi, .int .i64 y.toll] 38) = W1
      obtain ⟨g1, -, -, -⟩ := box3 hW1
      rw [← boxSize hW1]
      generalize hW2 : W1.alloc (.cells #[.int .i64 r.lo, .int .i64 r.hi] 36) = W2
      obtain ⟨g2, c0, c1⟩ := box2 hW2
      have e0 := cellW c0
      have e1 := cellW c1
      clear hW1 hW2 c0 c1
      refine (callsRet (isYield_any y W2) (by rw [hy])).mono ?_
      rintro e w' ⟨rfl, hb⟩
      obtain ⟨x, rfl⟩ := Wd.of hb
      go_wp2
      all_goals first
        | (exfalso; omega)
        | (go_ret; exact ⟨ret_int HH.out.symm, extTrans g1 (extTrans g2 x.ok)⟩)

def thr (g b : Int) : Int := g * b / 100
def grd (t g : Int) : Int := g - g / t

theorem thr_bd {g b : Int} (h0 : 0 ≤ g) (h1 : g ≤ 1000) (h2 : 0 ≤ b) (h3 : b ≤ 2000) : 0 ≤ g * b ∧ g * b ≤ 2000000 ∧ 0 ≤ g * b / 100 ∧ g * b / 100 ≤ 20000 := by
  have := Int.mul_nonneg h0 h2
  have h4 : g * b ≤ 1000 * 2000 := Int.mul_le_mul h1 h3 h2 (by decide)
  omega

theorem ground_any (y : Yield) (g : Int) (w : World) (h0 : 0 ≤ g) (h1 : g ≤ 100000) (h2 : 2 ≤ y.toll) :
    Calls Try.prog 105 #[yv y, .int .i64 g] w fun e w' => e = .returned (.int .i64 (grd y.toll g)) ∧ Below w.heap.size w w' := by
  have hd : 0 ≤ g / y.toll ∧ g / y.toll ≤ g := IntWalk.tdiv_le g y.toll h0 (by omega)
  go_enter Try.func105, Try.ntmps105
  go_wp2
  go_ret
  exact ⟨rfl, (Below.refl _ _).alloc (Nat.le_refl _) _⟩

theorem threshed_any (y : Yield) (r : Rng) (w : World) (h0 : 0 ≤ y.lo) (h1 : y.lo ≤ 1000) (h2 : 0 ≤ y.hi) (h3 : y.hi ≤ 1000) (h4 : 0 ≤ r.lo) (h5 : r.lo ≤ 2000) (h6 : 0 ≤ r.hi) (h7 : r.hi ≤ 2000) :
    Calls Try.prog 82 #[yv y, rv r] w fun e w' => e = .returned (rv ⟨thr y.lo r.lo, thr y.hi r.hi⟩) ∧ Below w.heap.size w w' := by
  obtain ⟨a1, a2, a3, a4⟩ := thr_bd h0 h1 h4 h5
  obtain ⟨b1, b2, b3, b4⟩ := thr_bd h2 h3 h6 h7
  go_enter Try.func82, Try.ntmps82
  go_wp2
  refine bodyPost_ret (v := rv ⟨thr y.lo r.lo, thr y.hi r.hi⟩) ?_ rfl ⟨rfl, ?_⟩
  · simp [results, Try.results82, go_sem, thr]
  · exact ((((Below.refl _ _).alloc (Nat.le_refl _) _).alloc (by simp) _).alloc (by simp; omega) _)
end Go.Proofs.Ytdhhneflhmkonaa

namespace Go.Proofs.Ytdhhneflhmkonaa
open Go.RowKit

theorem flour_any (y : Yield) (r : Rng) (w : World) (h0 : 0 ≤ y.lo) (h1 : y.lo ≤ 1000) (h2 : 0 ≤ y.hi) (h3 : y.hi ≤ 1000) (h4 : 0 ≤ r.lo) (h5 : r.lo ≤ 2000) (h6 : 0 ≤ r.hi) (h7 : r.hi ≤ 2000) (h8 : 2 ≤ y.toll) :
    Calls Try.prog 84 #[yv y, rv r] w fun e w' => e = .returned (rv ⟨grd y.toll (thr y.lo r.lo), grd y.toll (thr y.hi r.hi)⟩) ∧ Below w.heap.size w w' := by
  obtain ⟨a1, a2, a3, a4⟩ := thr_bd h0 h1 h4 h5
  obtain ⟨b1, b2, b3, b4⟩ := thr_bd h2 h3 h6 h7
  obtain ⟨u, hu⟩ : ∃ u, thr y.lo r.lo = u := ⟨_, rfl⟩
  obtain ⟨v, hv⟩ : ∃ v, thr y.hi r.hi = v := ⟨_, rfl⟩
  have k1 : 0 ≤ u ∧ u ≤ 20000 := by rw [← hu]; exact ⟨a3, a4⟩
  have k2 : 0 ≤ v ∧ v ≤ 20000 := by rw [← hv]; exact ⟨b3, b4⟩
  have Hc := Lib.hid (fun w => threshed_any y r w h0 h1 h2 h3 h4 h5 h6 h7)
  rw [hu, hv] at Hc ⊢
  clear a1 a2 a3 a4 b1 b2 b3 b4 hu hv h0 h1 h2 h3 h4 h5 h6 h7
  obtain ⟨k1, k1'⟩ := k1
  obtain ⟨k2, k2'⟩ := k2
  go_enter Try.func84, Try.ntmps84
  go_wp2_with fail
  generalize hW1 : w.alloc (.cells #[.int .i64 y.lo, .int .i64 y.hi, .int .i64 y.toll] 38) = W1
  obtain ⟨g1, c0, c1, c2⟩ := box3 hW1
  rw [← boxSize hW1]
  generalize hW2 : W1.alloc (.cells #[.int .i64 r.lo, .int .i64 r.hi] 36) = W2
  obtain ⟨g2, d0, d1⟩ := box2 hW2
  rw [← boxSize hW2]
  generalize hW3 : W2.alloc (.cells #[.int .i64 0, .int .i64 0] 36) = W3
  obtain ⟨g3, r0, r1⟩ := box2 hW3
  have z0 := boxFree hW3 0
  have z1 := boxFree hW3 1
  have c0 := cellW c0 ⟨_, extTrans g2 g3⟩
  have c1 := cellW c1 ⟨_, extTrans g2 g3⟩
  have c2 := cellW c2 ⟨_, extTrans g2 g3⟩
  dsimp only at c0 c1 c2
  refine (Hc.out W3).mono ?_
  rintro e w' ⟨rfl, hb⟩
  obtain ⟨x, rfl⟩ := Wd.of hb
  have c0 := cellW c0 x
  have c1 := cellW c1 x
  have c2 := cellW c2 x
  have hfz0 := frozenW r0 z0 x
  have hfz1 := frozenW r1 z1 x
  have r0 := cellW r0 x
  have r1 := cellW r1 x
  have Hs := Lib.hid (show w.heap.size ≤ W2.heap.size by have := g1.size; have := g2.size; omega)
  have hsz := x.size
  clear hW1 hW2 hW3
  go_wp2_with fail
  generalize hW4 : x.val.alloc (.cells #[.int .i64 u, .int .i64 v] 36) = W4
  obtain ⟨g4, s0, s1⟩ := box2 hW4
  have h4 : ∀ {a : Addr} {v : Value}, x.val.cell? a = some v → ∀ y : Wd W4, y.val.cell? a = some v := fun h => cellW (cellW h ⟨_, g4⟩)
  have f4 : ∀ {a : Addr} {v : Value} {b : Bool}, x.val.cell? a = some v → x.val.frozen? a = b → ∀ y : Wd W4, y.val.frozen? a = b := fun h hf => frozenW (cellW h ⟨_, g4⟩) (frozenW h hf ⟨_, g4⟩)
  have c0 := h4 c0
  have c1 := h4 c1
  have c2 := h4 c2
  have hfz0 := f4 r0 hfz0
  have hfz1 := f4 r1 hfz1
  have r0 := h4 r0
  have r1 := h4 r1
  have s0 := cellW s0
  have s1 := cellW s1
  clear h4 f4
  clear hW4
  refine wp_region_calm_tail W4 8 (by kernel_rfl) (by kernel_rfl) (Below.refl _ _) ?_
  simp only [List.take_succ_cons, List.take_zero, List.drop_succ_cons, List.drop_zero]
  repeat (go_big_quiet_step ((go_at_call 105; exact callsCalm (ground_any y _ _ (by omega) (by omega) h8))))
  refine wpQuiet_nil ?_
  rintro _ ⟨z, rfl⟩
  go_wp2
  refine bodyPost_ret (v := rv ⟨grd y.toll u, grd y.toll v⟩) ?_ rfl ⟨rfl, ?_⟩
  · simp [results, Try.results84, go_sem, r0, r1]
  · have hz := extTrans g1 (extTrans g2 (extTrans g3 (extTrans x.ok (extTrans g4 z.ok))))
    exact (hz.setCell (p := ⟨W2.heap.size, 0, none⟩) Hs.out _).setCell (p := ⟨W2.heap.size, 1, none⟩) Hs.out _

def givesB (y : Yield) (b : Int) (want : Rng) : Bool := (List.range (y.hi - y.lo + 1).toNat).any fun k => rng (grd y.toll ((y.lo + k) * b / 100)) want.lo want.hi

theorem gives_yes {y : Yield} {b : Int} {r : Rng} {k : Nat} (hk : k ≤ (y.hi - y.lo + 1).toNat) (hlt : y.lo + k ≤ y.hi) (h : rng (grd y.toll ((y.lo + k) * b / 100)) r.lo r.hi = true) : givesB y b r = true := by
  unfold givesB
  rw [List.any_eq_true]
  exact ⟨k, List.mem_range.2 (by omega), h⟩
theorem gives_next {y : Yield} {b : Int} {r : Rng} {k : Nat} (h : ∀ j : Nat, j < k → rng (grd y.toll ((y.lo + j) * b / 100)) r.lo r.hi = false) (hk : rng (grd y.toll ((y.lo + k) * b / 100)) r.lo r.hi = false) :
    ∀ j : Nat, j < k + 1 → rng (grd y.toll ((y.lo + j) * b / 100)) r.lo r.hi = false := by
  intro j hj
  by_cases hjk : j < k
  · exact h j hjk
  · obtain rfl : j = k := by omega
    exact hk
theorem gives_no {y : Yield} {b : Int} {r : Rng} {k : Nat} (hk : (y.hi - y.lo + 1).toNat ≤ k) (h : ∀ j : Nat, j < k → rng (grd y.toll ((y.lo + j) * b / 100)) r.lo r.hi = false) : givesB y b r = false := by
  unfold givesB
  rw [List.any_eq_false]
  intro j hj
  rw [h j (by have := List.mem_range.1 hj; omega)]
  decide

theorem gives_any (y : Yield) (b : Int) (r : Rng) (w : World) (h0 : 0 ≤ y.lo) (h1 : y.lo ≤ y.hi) (h3 : y.hi ≤ 1000) (h4 : 0 ≤ b) (h5 : b ≤ 2000) (h8 : 2 ≤ y.toll) :
    Calls Try.prog 86 #[yv y, .int .i64 b, rv r] w fun e w' => e = .returned (.bool (givesB y b r)) ∧ Below w.heap.size w w' := by
  go_enter Try.func86, Try.ntmps86
  go_wp2_with fail
  generalize hW1 : w.alloc (.cells #[.int .i64 y.lo, .int .i64 y.hi, .int .i64 y.toll] 38) = W1
  obtain ⟨g1, c0, c1, c2⟩ := box3 hW1
  rw [← boxSize hW1]
  generalize hW2 : W1.alloc (.cells #[.int .i64 r.lo, .int .i64 r.hi] 36) = W2
  obtain ⟨g2, d0, d1⟩ := box2 hW2
  have F : ∀ x : Wd W2, x.val.cell? ⟨w.heap.size, 0, none⟩ = some (.int .i64 y.lo) ∧ x.val.cell? ⟨w.heap.size, 1, none⟩ = some (.int .i64 y.hi) ∧ x.val.cell? ⟨w.heap.size, 2, none⟩ = some (.int .i64 y.toll) ∧
      x.val.cell? ⟨W1.heap.size, 0, none⟩ = some (.int .i64 r.lo) ∧ x.val.cell? ⟨W1.heap.size, 1, none⟩ = some (.int .i64 r.hi) :=
    fun x => ⟨cellL g2 c0 x, cellL g2 c1 x, cellL g2 c2 x, cellW d0 x, cellW d1 x⟩
  have g := extTrans g1 g2
  clear hW1 hW2 c0 c1 c2 d0 d1 g1 g2
  go_loopw [7] (fun i wr => ∃ k : Nat, k ≤ (y.hi - y.lo + 1).toNat ∧ i = .int .i64 (y.lo + k) ∧ (∃ x : Wd W2, wr = x.val) ∧ (∀ j : Nat, j < k → rng (grd y.toll ((y.lo + j) * b / 100)) r.lo r.hi = false)) (fun i _ => (y.hi - y.lo + 1).toNat - (intOf i - y.lo).toNat)
  case atStart => exact ⟨0, Nat.zero_le _, by simp, Wd.self _, fun j hj => absurd hj (by omega)⟩
  case round =>
    obtain ⟨k, hk, rfl, ⟨x, rfl⟩, hno⟩ := hrel
    have Hno := Lib.hid hno
    clear hno
    by_cases hlt : y.lo + k ≤ y.hi
    · obtain ⟨m1, m2, m3, m4⟩ := thr_bd (g := y.lo + k) (b := b) (by omega) (by omega) h4 h5
      cases hr : rng (grd y.toll ((y.lo + k) * b / 100)) r.lo r.hi
      all_goals
        have Hr := Lib.hid hr
        clear hr
        go_wp2_with fail
        refine wp_region_calm W2 (by kernel_rfl) (by kernel_rfl) x.ok ?_
        repeat (go_big_quiet_step (first | (go_at_call 105; exact callsCalm (ground_any y _ _ (by omega) (by omega) h8)) | (go_at_call 64; exact callsCalmSame (callsRet (within_any _ _ _ _) (by rw [Hr.out])))))
        refine wpQuiet_nil ?_
        rintro _ ⟨z, rfl⟩
        go_wp2
        first
          | (go_ret
             exact ⟨ret_bool (gives_yes hk hlt Hr.out).symm, extTrans g z.ok⟩)
          | (go_roundw
             case rel => exact ⟨k + 1, by omega, by go_num, ⟨z, rfl⟩, gives_next Hno.out Hr.out⟩
             case measure => simp [intOf]; omega)
    · go_wp2
      go_ret
      exact ⟨ret_bool (gives_no (by omega) Hno.out).symm, extTrans g x.ok⟩
end Go.Proofs.Ytdhhneflhmkonaa

/- The mill's yields, asked for from outside: Threshed, Flour, Toll, Wants, Bundles. -/
namespace Go.Proofs.Ytdhhneflhmkonaa
open Go.RowKit

theorem askedE_ok {y : Yield} {r : Rng} {m : Int} (h : askedE y r m = 0) : isYield y = true ∧ 0 ≤ y.lo ∧ y.lo ≤ y.hi ∧ y.hi ≤ 1000 ∧ 2 ≤ y.toll ∧ y.toll ≤ 100 ∧ 0 ≤ r.lo ∧ r.lo ≤ r.hi ∧ r.hi ≤ m := by
  unfold askedE at h
  split at h
  · rename_i hy
    split at h
    · rename_i hr
      simp [isYield, rng] at hy
      simp at hr
      refine ⟨by simp [isYield, rng]; omega, ?_⟩
      omega
    · cases h
  · cases h


def ThreshedV (y : Yield) (r : Rng) : Rng := if askedE y r 2000 = 0 then ⟨thr y.lo r.lo, thr y.hi r.hi⟩ else ⟨0, 0⟩
theorem Threshed_any (y : Yield) (r : Rng) (w : World) :
    Calls Try.prog 22 #[yv y, rv r] w fun e w' => e = .returned (.tuple #[rv (ThreshedV y r), .int .i64 (askedE y r 2000)]) ∧ Below w.heap.size w w' := by
  obtain ⟨v, hv⟩ : ∃ v, askedE y r 2000 = v := ⟨_, rfl⟩
  have hok : v = 0 → _ := fun e => askedE_ok (y := y) (r := r) (m := 2000) (hv.trans e)
  have hV : ThreshedV y r = if v = 0 then ⟨thr y.lo r.lo, thr y.hi r.hi⟩ else ⟨0, 0⟩ := by rw [← hv]; rfl
  have HV := Lib.hid hV
  have Hv := Lib.hid hv
  have Hok := Lib.hid hok
  clear hv hok hV
  go_enter Try.func22, Try.ntmps22
  go_wp2_with fail
  generalize hW1 : w.alloc (.cells #[.int .i64 y.lo, .int .i64 y.hi, .int .i64 y.toll] 38) = W1
  obtain ⟨g1, c0, c1, c2⟩ := box3 hW1
  rw [← boxSize hW1]
  generalize hW2 : W1.alloc (.cells #[.int .i64 r.lo, .int .i64 r.hi] 36) = W2
  obtain ⟨g2, d0, d1⟩ := box2 hW2
  rw [← boxSize hW2]
  generalize hW3 : W2.alloc (.cells #[.int .i64 0, .int .i64 0] 36) = W3
  obtain ⟨g3, r0, r1⟩ := box2 hW3
  have F : ∀ x : Wd W3, x.val.cell? ⟨w.heap.size, 0, none⟩ = some (.int .i64 y.lo) ∧ x.val.cell? ⟨w.heap.size, 1, none⟩ = some (.int .i64 y.hi) ∧ x.val.cell? ⟨w.heap.size, 2, none⟩ = some (.int .i64 y.toll) ∧
      x.val.cell? ⟨W1.heap.size, 0, none⟩ = some (.int .i64 r.lo) ∧ x.val.cell? ⟨W1.heap.size, 1, none⟩ = some (.int .i64 r.hi) ∧
      x.val.cell? ⟨W2.heap.size, 0, none⟩ = some (.int .i64 0) ∧ x.val.cell? ⟨W2.heap.size, 1, none⟩ = some (.int .i64 0) ∧ x.val.frozen? ⟨W2.heap.size, 0, none⟩ = false ∧ x.val.frozen? ⟨W2.heap.size, 1, none⟩ = false :=
    fun x => ⟨cellL (extTrans g2 g3) c0 x, cellL (extTrans g2 g3) c1 x, cellL (extTrans g2 g3) c2 x, cellL g3 d0 x, cellL g3 d1 x, cellW r0 x, cellW r1 x, frozenW r0 (boxFree hW3 0) x, frozenW r1 (boxFree hW3 1) x⟩
  have g := extTrans g1 (extTrans g2 g3)
  have Hs := Lib.hid (show w.heap.size ≤ W2.heap.size by have := g1.size; have := g2.size; omega)
  clear hW1 hW2 hW3 c0 c1 c2 d0 d1 r0 r1 g1 g2 g3
  refine (callsAt (R := fun e _ => e = .returned (.int .i64 v)) (x := ⟨W3, Below.refl _ _⟩) (callsRet (asked_any y r 2000 W3) (by rw [Hv.out]))).mono ?_
  rintro e w' ⟨x, rfl, rfl⟩
  by_cases h0 : v = 0
  · obtain ⟨-, k1, k2, k3, k4, k5, k6, k7, k8⟩ := Hok.out h0
    subst h0
    go_wp2_with (go_at_call 82; refine (callsAt (threshed_any y r _ (by omega) (by omega) (by omega) (by omega) (by omega) (by omega) (by omega) (by omega))).mono ?_; rintro e w' ⟨z, rfl, rfl⟩)
    refine bodyPost_ret (v := .tuple #[rv (ThreshedV y r), .int .i64 (askedE y r 2000)]) ?_ rfl ⟨rfl, ?_⟩
    · rw [HV.out, Hv.out]; simp [results, Try.results22, go_sem, F]
    · exact ((extTrans g z.ok).setCell (p := ⟨W2.heap.size, 0, none⟩) Hs.out _).setCell (p := ⟨W2.heap.size, 1, none⟩) Hs.out _
  · have h0' : (v != 0) = true := by simpa using h0
    have Hne := Lib.hid h0
    clear h0
    go_wp2_with fail
    refine bodyPost_ret (v := .tuple #[rv (ThreshedV y r), .int .i64 (askedE y r 2000)]) ?_ rfl ⟨rfl, ?_⟩
    · rw [HV.out, Hv.out, if_neg Hne.out]; simp [results, Try.results22, go_sem, F]
    · exact ((extTrans g x.ok).setCell (p := ⟨W2.heap.size, 0, none⟩) Hs.out _).setCell (p := ⟨W2.heap.size, 1, none⟩) Hs.out _

def FlourV (y : Yield) (r : Rng) : Rng := if askedE y r 2000 = 0 then ⟨grd y.toll (thr y.lo r.lo), grd y.toll (thr y.hi r.hi)⟩ else ⟨0, 0⟩
theorem Flour_any (y : Yield) (r : Rng) (w : World) :
    Calls Try.prog 26 #[yv y, rv r] w fun e w' => e = .returned (.tuple #[rv (FlourV y r), .int .i64 (askedE y r 2000)]) ∧ Below w.heap.size w w' := by
  obtain ⟨v, hv⟩ : ∃ v, askedE y r 2000 = v := ⟨_, rfl⟩
  have hok : v = 0 → _ := fun e => askedE_ok (y := y) (r := r) (m := 2000) (hv.trans e)
  have hV : FlourV y r = if v = 0 then ⟨grd y.toll (thr y.lo r.lo), grd y.toll (thr y.hi r.hi)⟩ else ⟨0, 0⟩ := by rw [← hv]; rfl
  have HV := Lib.hid hV
  have Hv := Lib.hid hv
  have Hok := Lib.hid hok
  clear hv hok hV
  go_enter Try.func26, Try.ntmps26
  go_wp2_with fail
  generalize hW1 : w.alloc (.cells #[.int .i64 y.lo, .int .i64 y.hi, .int .i64 y.toll] 38) = W1
  obtain ⟨g1, c0, c1, c2⟩ := box3 hW1
  rw [← boxSize hW1]
  generalize hW2 : W1.alloc (.cells #[.int .i64 r.lo, .int .i64 r.hi] 36) = W2
  obtain ⟨g2, d0, d1⟩ := box2 hW2
  rw [← boxSize hW2]
  generalize hW3 : W2.alloc (.cells #[.int .i64 0, .int .i64 0] 36) = W3
  obtain ⟨g3, r0, r1⟩ := box2 hW3
  have F : ∀ x : Wd W3, x.val.cell? ⟨w.heap.size, 0, none⟩ = some (.int .i64 y.lo) ∧ x.val.cell? ⟨w.heap.size, 1, none⟩ = some (.int .i64 y.hi) ∧ x.val.cell? ⟨w.heap.size, 2, none⟩ = some (.int .i64 y.toll) ∧
      x.val.cell? ⟨W1.heap.size, 0, none⟩ = some (.int .i64 r.lo) ∧ x.val.cell? ⟨W1.heap.size, 1, none⟩ = some (.int .i64 r.hi) ∧
      x.val.cell? ⟨W2.heap.size, 0, none⟩ = some (.int .i64 0) ∧ x.val.cell? ⟨W2.heap.size, 1, none⟩ = some (.int .i64 0) ∧ x.val.frozen? ⟨W2.heap.size, 0, none⟩ = false ∧ x.val.frozen? ⟨W2.heap.size, 1, none⟩ = false :=
    fun x => ⟨cellL (extTrans g2 g3) c0 x, cellL (extTrans g2 g3) c1 x, cellL (extTrans g2 g3) c2 x, cellL g3 d0 x, cellL g3 d1 x, cellW r0 x, cellW r1 x, frozenW r0 (boxFree hW3 0) x, frozenW r1 (boxFree hW3 1) x⟩
  have g := extTrans g1 (extTrans g2 g3)
  have Hs := Lib.hid (show w.heap.size ≤ W2.heap.size by have := g1.size; have := g2.size; omega)
  clear hW1 hW2 hW3 c0 c1 c2 d0 d1 r0 r1 g1 g2 g3
  refine (callsAt (R := fun e _ => e = .returned (.int .i64 v)) (x := ⟨W3, Below.refl _ _⟩) (callsRet (asked_any y r 2000 W3) (by rw [Hv.out]))).mono ?_
  rintro e w' ⟨x, rfl, rfl⟩
  by_cases h0 : v = 0
  · obtain ⟨-, k1, k2, k3, k4, k5, k6, k7, k8⟩ := Hok.out h0
    subst h0
    go_wp2_with (go_at_call 84; refine (callsAt (flour_any y r _ (by omega) (by omega) (by omega) (by omega) (by omega) (by omega) (by omega) (by omega) (by omega))).mono ?_; rintro e w' ⟨z, rfl, rfl⟩)
    refine bodyPost_ret (v := .tuple #[rv (FlourV y r), .int .i64 (askedE y r 2000)]) ?_ rfl ⟨rfl, ?_⟩
    · rw [HV.out, Hv.out]; simp [results, Try.results26, go_sem, F]
    · exact ((extTrans g z.ok).setCell (p := ⟨W2.heap.size, 0, none⟩) Hs.out _).setCell (p := ⟨W2.heap.size, 1, none⟩) Hs.out _
  · have h0' : (v != 0) = true := by simpa using h0
    have Hne := Lib.hid h0
    clear h0
    go_wp2_with fail
    refine bodyPost_ret (v := .tuple #[rv (FlourV y r), .int .i64 (askedE y r 2000)]) ?_ rfl ⟨rfl, ?_⟩
    · rw [HV.out, Hv.out, if_neg Hne.out]; simp [results, Try.results26, go_sem, F]
    · exact ((extTrans g x.ok).setCell (p := ⟨W2.heap.size, 0, none⟩) Hs.out _).setCell (p := ⟨W2.heap.size, 1, none⟩) Hs.out _

def TollV (y : Yield) (g : Int) : Int := if askedE y ⟨g, g⟩ 20000 = 0 then g / y.toll else 0
theorem Toll_any (y : Yield) (q : Int) (w : World) :
    Calls Try.prog 24 #[yv y, .int .i64 q] w fun e w' => e = .returned (.tuple #[.int .i64 (TollV y q), .int .i64 (askedE y ⟨q, q⟩ 20000)]) ∧ Below w.heap.size w w' := by
  obtain ⟨v, hv⟩ : ∃ v, askedE y ⟨q, q⟩ 20000 = v := ⟨_, rfl⟩
  have hok : v = 0 → _ := fun e => askedE_ok (y := y) (r := ⟨q, q⟩) (m := 20000) (hv.trans e)
  have hV : TollV y q = if v = 0 then q / y.toll else 0 := by rw [← hv]; rfl
  have HV := Lib.hid hV
  have Hv := Lib.hid hv
  have Hok := Lib.hid hok
  clear hv hok hV
  go_enter Try.func24, Try.ntmps24
  go_wp2_with fail
  generalize hW1 : w.alloc (.cells #[.int .i64 y.lo, .int .i64 y.hi, .int .i64 y.toll] 38) = W1
  obtain ⟨g1, c0, c1, c2⟩ := box3 hW1
  have F : ∀ x : Wd W1, x.val.cell? ⟨w.heap.size, 0, none⟩ = some (.int .i64 y.lo) ∧ x.val.cell? ⟨w.heap.size, 1, none⟩ = some (.int .i64 y.hi) ∧ x.val.cell? ⟨w.heap.size, 2, none⟩ = some (.int .i64 y.toll) :=
    fun x => ⟨cellW c0 x, cellW c1 x, cellW c2 x⟩
  clear hW1 c0 c1 c2
  refine (callsAt (R := fun e _ => e = .returned (.int .i64 v)) (x := ⟨W1, Below.refl _ _⟩) (callsRet (asked_any y ⟨q, q⟩ 20000 W1) (by rw [Hv.out]))).mono ?_
  rintro e w' ⟨x, rfl, rfl⟩
  by_cases h0 : v = 0
  · obtain ⟨-, k1, k2, k3, k4, k5, k6, k7, k8⟩ := Hok.out h0
    subst h0
    have hd : 0 ≤ q / y.toll ∧ q / y.toll ≤ q := IntWalk.tdiv_le q y.toll k6 (by omega)
    go_wp2
    go_ret2
    exact ⟨by rw [HV.out, Hv.out]; rfl, extTrans g1 x.ok⟩
  · have h0' : (v != 0) = true := by simpa using h0
    have Hne := Lib.hid h0
    clear h0
    go_wp2
    go_ret2
    exact ⟨by rw [HV.out, Hv.out, if_neg Hne.out]; rfl, extTrans g1 x.ok⟩

def wantsOk (a b : Int) : Bool := rng a 0 20000 && rng b 1 20000
def WantsV (a b : Int) : Int := if wantsOk a b then (a + b - 1) / b else 0
theorem Wants_any (a b : Int) (w : World) :
    Calls Try.prog 30 #[.int .i64 a, .int .i64 b] w fun e w' => e = .returned (.tuple #[.int .i64 (WantsV a b), .int .i64 (err (wantsOk a b) 58)]) ∧ Below w.heap.size w w' := by
  cases h1 : rng a 0 20000 <;> cases h2 : rng b 1 20000
  case true.true =>
    have HV := Lib.hid (show WantsV a b = (a + b - 1) / b by simp [WantsV, wantsOk, h1, h2])
    have HE := Lib.hid (show err (wantsOk a b) 58 = 0 by simp [err, wantsOk, h1, h2])
    have k1 : 0 ≤ a ∧ a ≤ 20000 := by simpa [rng] using h1
    have k2 : 1 ≤ b ∧ b ≤ 20000 := by simpa [rng] using h2
    obtain ⟨k1, k1'⟩ := k1
    obtain ⟨k2, k2'⟩ := k2
    have hd : 0 ≤ (a + b - 1) / b ∧ (a + b - 1) / b ≤ a + b - 1 := IntWalk.tdiv_le (a + b - 1) b (by omega) (by omega)
    go_enter Try.func30, Try.ntmps30
    go_wp2_with (go_at_call 64; refine (within_any _ _ _ _).mono ?_; rintro e w' ⟨rfl, rfl⟩)
    go_ret2
    exact ⟨by rw [HV.out, HE.out]; rfl, Below.refl _ _⟩
  all_goals
    have HV := Lib.hid (show WantsV a b = 0 by simp [WantsV, wantsOk, h1, h2])
    have HE := Lib.hid (show err (wantsOk a b) 58 = 58 by simp [err, wantsOk, h1, h2])
    go_enter Try.func30, Try.ntmps30
    go_wp2_with (go_at_call 64; refine (within_any _ _ _ _).mono ?_; rintro e w' ⟨rfl, rfl⟩)
    go_ret2
    exact ⟨by rw [HV.out, HE.out]; rfl, Below.refl _ _⟩
end Go.Proofs.Ytdhhneflhmkonaa

/- Bundles: the numbers of bundles that may give some flour. -/
namespace Go.Proofs.Ytdhhneflhmkonaa
open Go.RowKit

/-- Whether so many bundles may give some flour. -/
def bTest (y : Yield) (r : Rng) (b : Int) : Bool := !(decide (grd y.toll (thr y.hi b) < r.lo) || decide (r.hi < grd y.toll (thr y.lo b)) || !givesB y b r)
/-- The least and the greatest number below k that may, if there are any. -/
def bScan (y : Yield) (r : Rng) : Nat → Bool × Int × Int
  | 0 => (false, 0, 0)
  | k + 1 => if bTest y r k then (true, if (bScan y r k).1 then (bScan y r k).2.1 else k, k) else bScan y r k
def bunE (y : Yield) (r : Rng) : Int := if askedE y r 20000 = 0 then (if (bScan y r 2001).1 then 0 else 3) else askedE y r 20000
def bunV (y : Yield) (r : Rng) : Rng := if askedE y r 20000 = 0 then ⟨(bScan y r 2001).2.1, (bScan y r 2001).2.2⟩ else ⟨0, 0⟩

theorem bScan_none (y : Yield) (r : Rng) : ∀ k, (bScan y r k).1 = false → bScan y r k = (false, 0, 0)
  | 0, _ => rfl
  | k + 1, h => by
    unfold bScan at h ⊢
    split
    · rename_i ht; rw [if_pos ht] at h; cases h
    · rename_i ht; rw [if_neg ht] at h; exact bScan_none y r k h

set_option maxRecDepth 100000 in
set_option maxHeartbeats 2000000 in
theorem Bundles_any (y : Yield) (r : Rng) (w : World) :
    Calls Try.prog 28 #[yv y, rv r] w fun e w' => e = .returned (.tuple #[rv (bunV y r), .int .i64 (bunE y r)]) ∧ Below w.heap.size w w' := by
  obtain ⟨v, hv⟩ : ∃ v, askedE y r 20000 = v := ⟨_, rfl⟩
  have hok : v = 0 → _ := fun e => askedE_ok (y := y) (r := r) (m := 20000) (hv.trans e)
  have hE : bunE y r = if v = 0 then (if (bScan y r 2001).1 then 0 else 3) else v := by rw [← hv]; rfl
  have hV : bunV y r = if v = 0 then ⟨(bScan y r 2001).2.1, (bScan y r 2001).2.2⟩ else ⟨0, 0⟩ := by rw [← hv]; rfl
  have HE := Lib.hid hE
  have HV := Lib.hid hV
  have Hv := Lib.hid hv
  have Hok := Lib.hid hok
  clear hv hok hV hE
  go_enter Try.func28, Try.ntmps28
  go_wp2_with fail
  generalize hW1 : w.alloc (.cells #[.int .i64 y.lo, .int .i64 y.hi, .int .i64 y.toll] 38) = W1
  obtain ⟨g1, c0, c1, c2⟩ := box3 hW1
  rw [← boxSize hW1]
  generalize hW2 : W1.alloc (.cells #[.int .i64 r.lo, .int .i64 r.hi] 36) = W2
  obtain ⟨g2, d0, d1⟩ := box2 hW2
  rw [← boxSize hW2]
  generalize hW3 : W2.alloc (.cells #[.int .i64 0, .int .i64 0] 36) = W3
  obtain ⟨g3, r0, r1⟩ := box2 hW3
  have F : ∀ x : Wd W3, x.val.cell? ⟨w.heap.size, 0, none⟩ = some (.int .i64 y.lo) ∧ x.val.cell? ⟨w.heap.size, 1, none⟩ = some (.int .i64 y.hi) ∧ x.val.cell? ⟨w.heap.size, 2, none⟩ = some (.int .i64 y.toll) ∧
      x.val.cell? ⟨W1.heap.size, 0, none⟩ = some (.int .i64 r.lo) ∧ x.val.cell? ⟨W1.heap.size, 1, none⟩ = some (.int .i64 r.hi) ∧
      x.val.cell? ⟨W2.heap.size, 0, none⟩ = some (.int .i64 0) ∧ x.val.cell? ⟨W2.heap.size, 1, none⟩ = some (.int .i64 0) ∧ x.val.frozen? ⟨W2.heap.size, 0, none⟩ = false ∧ x.val.frozen? ⟨W2.heap.size, 1, none⟩ = false :=
    fun x => ⟨cellL (extTrans g2 g3) c0 x, cellL (extTrans g2 g3) c1 x, cellL (extTrans g2 g3) c2 x, cellL g3 d0 x, cellL g3 d1 x, cellW r0 x, cellW r1 x, frozenW r0 (boxFree hW3 0) x, frozenW r1 (boxFree hW3 1) x⟩
  have g := extTrans g1 (extTrans g2 g3)
  have Hs := Lib.hid (show w.heap.size ≤ W2.heap.size by have := g1.size; have := g2.size; omega)
  have s2 : W2.heap.size < W3.heap.size := by rw [boxSize hW3]; omega
  have s1 : W1.heap.size < W3.heap.size := by have := boxSize hW2; omega
  have s0 : w.heap.size < W3.heap.size := by have := boxSize hW1; omega
  have G : ∀ x : Wd W3, w.heap.size < x.val.heap.size ∧ W1.heap.size < x.val.heap.size ∧ W2.heap.size < x.val.heap.size := fun x => by have := x.size; omega
  clear s0 s1 s2
  clear hW1 hW2 hW3 c0 c1 c2 d0 d1 r0 r1 g1 g2 g3
  refine (callsAt (R := fun e _ => e = .returned (.int .i64 v)) (x := ⟨W3, Below.refl _ _⟩) (callsRet (asked_any y r 20000 W3) (by rw [Hv.out]))).mono ?_
  rintro e w' ⟨x, rfl, rfl⟩
  by_cases h0 : v = 0
  · obtain ⟨-, k1, k2, k3, k4, k5, k6, k7, k8⟩ := Hok.out h0
    have Hy := Lib.hid h0
    subst h0
    go_wp2_with fail
    generalize hW4 : x.val.alloc (.cells #[.int .i64 0, .int .i64 0] 36) = W4
    have hB : Blk W4 x.val.heap.size 36 #[.int .i64 0, .int .i64 0] := by rw [← hW4]; exact Blk.new _ _ _
    have g4 : Below W3.heap.size W3 W4 := by rw [← hW4]; exact x.ok.alloc x.size _
    clear hW4
    go_loopw [8, 19] (fun f i wr => ∃ k : Nat, k ≤ 2001 ∧ i = .int .i64 k ∧ f = .bool (bScan y r k).1 ∧ (∃ z : Wd W3, wr = z.val) ∧ Blk wr x.val.heap.size 36 #[.int .i64 (bScan y r k).2.1, .int .i64 (bScan y r k).2.2]) (fun _ i _ => 2001 - (intOf i).toNat)
    case atStart => exact ⟨0, by omega, rfl, rfl, Wd.of g4, hB⟩
    case round =>
      obtain ⟨k, hk, rfl, rfl, ⟨z, rfl⟩, hb⟩ := hrel
      by_cases hlt : k < 2001
      · obtain ⟨lo, hlo⟩ : ∃ lo, (bScan y r k).2.1 = lo := ⟨_, rfl⟩
        obtain ⟨hi, hhi⟩ : ∃ hi, (bScan y r k).2.2 = hi := ⟨_, rfl⟩
        obtain ⟨fd, hfd⟩ : ∃ fd, (bScan y r k).1 = fd := ⟨_, rfl⟩
        obtain ⟨p, hp⟩ : ∃ p, grd y.toll (thr y.hi k) = p := ⟨_, rfl⟩
        obtain ⟨q, hq⟩ : ∃ q, grd y.toll (thr y.lo k) = q := ⟨_, rfl⟩
        have Hflour := Lib.hid (fun w => flour_any y ⟨k, k⟩ w k1 (by omega) (by omega) k3 (by simp) (by simp; omega) (by simp) (by simp; omega) k4)
        have Hgives := Lib.hid (fun w => gives_any y k r w k1 k2 k3 (by omega) (by omega) k4)
        rw [hp, hq] at Hflour
        rw [hlo, hhi] at hb
        rw [hfd]
        have hT : bTest y r k = !(decide (p < r.lo) || decide (r.hi < q) || !givesB y k r) := by rw [← hp, ← hq]; rfl
        have hS : bScan y r (k + 1) = if bTest y r k then (true, if fd then lo else (k : Int), (k : Int)) else (fd, lo, hi) := by
          rw [← hfd, ← hlo, ← hhi]; rfl
        have HT := Lib.hid hT
        have HS := Lib.hid hS
        clear hlo hhi hfd hp hq hT hS k1 k2 k3 k4 k5 k6 k7 k8
        have hb0 : z.val.cell? ⟨x.val.heap.size, 0, none⟩ = some (.int .i64 lo) := hb.cell 0
        have hb1 : z.val.cell? ⟨x.val.heap.size, 1, none⟩ = some (.int .i64 hi) := hb.cell 1
        have hf0 := hb.frozen 0
        have hf1 := hb.frozen 1
        have no : bTest y r k = false → bScan y r (k + 1) = (fd, lo, hi) := fun h => by rw [HS.out, h]; rfl
        have No := Lib.hid no
        clear no
        rcases (show p < r.lo ∨ (r.lo ≤ p ∧ r.hi < q) ∨ (r.lo ≤ p ∧ q ≤ r.hi ∧ givesB y k r = false) ∨ (r.lo ≤ p ∧ q ≤ r.hi ∧ givesB y k r = true) from by
          cases givesB y k r <;> simp <;> omega) with hA | ⟨hA, hC⟩ | ⟨hA, hC, hG⟩ | ⟨hA, hC, hG⟩
        · have HN := Lib.hid (No.out (by rw [HT.out]; simp [hA]))
          go_wp2_with (first | (go_at_call 84; refine (callsAt2 (Hflour.out _)).mono ?_; rintro e w' ⟨z2, rfl, rfl, hbb⟩; have hB2 := hb.ext hbb; have hlt2 := hB2.lt; have Hbb := Lib.hid hbb; clear hbb))
          go_roundw
          case rel => exact ⟨k + 1, by omega, by go_num, by rw [HN.out], z2.alloc _, by rw [HN.out]; exact hB2.alloc _⟩
          case measure => simp [intOf]; omega
        · have HN := Lib.hid (No.out (by rw [HT.out]; simp [hC]))
          go_wp2_with (first | (go_at_call 84; refine (callsAt2 (Hflour.out _)).mono ?_; rintro e w' ⟨z2, rfl, rfl, hbb⟩; have hB2 := hb.ext hbb; have hlt2 := hB2.lt; have Hbb := Lib.hid hbb; clear hbb))
          go_roundw
          case rel => exact ⟨k + 1, by omega, by go_num, by rw [HN.out], z2.alloc _, by rw [HN.out]; exact hB2.alloc _⟩
          case measure => simp [intOf]; omega
        · have HN := Lib.hid (No.out (by rw [HT.out, hG]; simp))
          have Hg := Lib.hid hG
          have hA' : decide (p < r.lo) = false := by simpa using hA
          have hC' : decide (r.hi < q) = false := by simpa using hC
          clear hG
          go_wp2_with (first
            | (go_at_call 84; refine (callsAt2 (Hflour.out _)).mono ?_; rintro e w' ⟨z2, rfl, rfl, hbb⟩; have hB2 := hb.ext hbb; have hlt2 := hB2.lt; obtain ⟨z3, hz3⟩ := z2.alloc (.cells #[.int .i64 q, .int .i64 p] 36); have HZ3 := Lib.hid hz3; clear hz3; have Hbb := Lib.hid hbb; clear hbb)
            | (go_at_call 86; rw [HZ3.out]; refine (callsAt2 (callsRet (Hgives.out _) (by rw [Hg.out]))).mono ?_; rintro e w' ⟨z4, rfl, rfl, hbb⟩))
          have hB4 := ((HZ3.out ▸ hB2.alloc (.cells #[.int .i64 q, .int .i64 p] 36) : Blk z3.val _ _ _)).ext hbb
          go_roundw
          case rel => exact ⟨k + 1, by omega, by go_num, by rw [HN.out], ⟨z4, rfl⟩, by rw [HN.out]; exact hB4⟩
          case measure => simp [intOf]; omega
        · have HN := Lib.hid (show bScan y r (k + 1) = (true, if fd then lo else (k : Int), (k : Int)) by rw [HS.out, HT.out, hG, if_pos]; simp; omega)
          have Hg := Lib.hid hG
          have hA' : decide (p < r.lo) = false := by simpa using hA
          have hC' : decide (r.hi < q) = false := by simpa using hC
          clear hG
          cases fd
          all_goals
            go_wp2_with (first
              | (go_at_call 84; refine (callsAt2 (Hflour.out _)).mono ?_; rintro e w' ⟨z2, rfl, rfl, hbb⟩; have hB2 := hb.ext hbb; have hlt2 := hB2.lt; obtain ⟨z3, hz3⟩ := z2.alloc (.cells #[.int .i64 q, .int .i64 p] 36); have HZ3 := Lib.hid hz3; clear hz3; have Hbb := Lib.hid hbb; clear hbb)
              | (go_at_call 86; rw [HZ3.out]; refine (callsAt2 (callsRet (Hgives.out _) (by rw [Hg.out]))).mono ?_; rintro e w' ⟨z4, rfl, rfl, hbb⟩; have hB4 := ((HZ3.out ▸ hB2.alloc (.cells #[.int .i64 q, .int .i64 p] 36) : Blk z3.val _ _ _)).ext hbb; have m0 : z4.val.cell? ⟨x.val.heap.size, 0, none⟩ = some (.int .i64 lo) := hB4.cell 0; have m1 : z4.val.cell? ⟨x.val.heap.size, 1, none⟩ = some (.int .i64 hi) := hB4.cell 1; have n0 := hB4.frozen 0; have n1 := hB4.frozen 1))
            go_roundw
            case rel =>
              refine ⟨k + 1, by omega, by go_num, by rw [HN.out], ?_, ?_⟩
              · first
                  | exact Wd.of ((z4.ok.setCell (p := ⟨x.val.heap.size, 0, none⟩) x.size _).setCell (p := ⟨x.val.heap.size, 1, none⟩) x.size _)
                  | exact Wd.of (z4.ok.setCell (p := ⟨x.val.heap.size, 1, none⟩) x.size _)
              · rw [HN.out]
                first
                  | exact (hB4.set_ 0 _).set_ 1 _
                  | exact hB4.set_ 1 _
            case measure => simp [intOf]; omega
      · obtain rfl : k = 2001 := by omega
        cases hfd : (bScan y r 2001).1
        · have hbs := bScan_none y r 2001 hfd
          rw [hbs] at hb
          have HB := Lib.hid hbs
          clear hbs hfd k1 k2 k3 k4 k5 k6 k7 k8
          go_wp2
          refine bodyPost_ret (v := .tuple #[rv (bunV y r), .int .i64 (bunE y r)]) ?_ rfl ⟨rfl, ?_⟩
          · rw [HV.out, HE.out, if_pos trivial, if_pos trivial, HB.out]; simp [results, Try.results28, go_sem, F]
          · exact ((extTrans g z.ok).setCell (p := ⟨W2.heap.size, 0, none⟩) Hs.out _).setCell (p := ⟨W2.heap.size, 1, none⟩) Hs.out _
        · have HB := Lib.hid hfd
          obtain ⟨lo, hlo⟩ : ∃ lo, (bScan y r 2001).2.1 = lo := ⟨_, rfl⟩
          obtain ⟨hi, hhi⟩ : ∃ hi, (bScan y r 2001).2.2 = hi := ⟨_, rfl⟩
          rw [hlo, hhi] at hb
          have HLO := Lib.hid hlo
          have HHI := Lib.hid hhi
          clear hlo hhi hfd k1 k2 k3 k4 k5 k6 k7 k8
          have hb0 : z.val.cell? ⟨x.val.heap.size, 0, none⟩ = some (.int .i64 lo) := hb.cell 0
          have hb1 : z.val.cell? ⟨x.val.heap.size, 1, none⟩ = some (.int .i64 hi) := hb.cell 1
          go_wp2
          refine bodyPost_ret (v := .tuple #[rv (bunV y r), .int .i64 (bunE y r)]) ?_ rfl ⟨rfl, ?_⟩
          · rw [HV.out, HE.out, if_pos trivial, if_pos trivial, HB.out, HLO.out, HHI.out]; simp [results, Try.results28, go_sem, F]
          · exact ((extTrans g z.ok).setCell (p := ⟨W2.heap.size, 0, none⟩) Hs.out _).setCell (p := ⟨W2.heap.size, 1, none⟩) Hs.out _
  · have h0' : (v != 0) = true := by simpa using h0
    have Hne := Lib.hid h0
    clear h0
    go_wp2_with fail
    refine bodyPost_ret (v := .tuple #[rv (bunV y r), .int .i64 (bunE y r)]) ?_ rfl ⟨rfl, ?_⟩
    · rw [HV.out, HE.out, if_neg Hne.out, if_neg Hne.out]; simp [results, Try.results28, go_sem, F]
    · exact ((extTrans g x.ok).setCell (p := ⟨W2.heap.size, 0, none⟩) Hs.out _).setCell (p := ⟨W2.heap.size, 1, none⟩) Hs.out _
end Go.Proofs.Ytdhhneflhmkonaa
