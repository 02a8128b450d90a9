/- Part of the proof: MA, MB, WA, WM, DA, DB, DC. -/
import Derived.WalkKit
import Derived.WalkSpells
import Derived.WalkLawsBesides
import Derived.Below
import Derived.BigGuardPart
import Derived.Lib.Hide
import Derived.BigQuiet
import Derived.Deep.RegionHeld3
import Derived.StillTail
import Derived.OrdersIn
import Derived.RangeFuncNested
import Derived.RangeFuncBound
import Derived.RangeFuncCalls
import Derived.RangeFuncLeaves
import Derived.Shelf.RegionOpen
import Derived.OwnWalkIn
import Derived.TacticsInMore
import Derived.LoopNIn
import Derived.LoopIn
import Derived.Laws.EntriesVeiled
import Derived.Deep.OwnRows
import Derived.WalkMore
import Derived.Laws.AppendOwn
import Derived.OwnWalk
import Derived.Maps.AppendAt
import Derived.Deep.AppendLies
import Derived.Deep.Onto
import Derived.RegionTactic
import Derived.Deep.RegionLaw
import Derived.Deep.RegionWith
import Derived.Laws.OwnMore
import Derived.Deep.CutRange
import Derived.Maps.OwnOps
import Derived.Maps.OwnSet
import Derived.Maps.OwnIn
import Derived.Test.YtkoejeghihcmlaaGreatProg
namespace Go.Proofs.YtkoejeghihcmlaaGreat
open Go.RowKit
/-- A header (A, n) of a slice reads as the elements 'xs', each of 'size' cells given by 'f'. -/
def Arr {α : Type} (f : α → List Value) (size : Nat) (w : World) (A : Option Addr) (n : Nat) (xs : List α) : Prop :=
 xs.length = n ∧ (0 < n → ∃ b o, A = some ⟨b, o, none⟩ ∧ b < w.heap.size ∧ ∀ k x, xs[k]? = some x → ∀ j u, (f x)[j]? = some u → w.cell? ⟨b, o + k * size + j, none⟩ = some u)
section
variable {α : Type} {f : α → List Value} {size : Nat} {w w' : World} {A : Option Addr} {n : Nat} {xs : List α}
theorem Arr.at (h : Arr f size w A n xs) {k : Nat} (hk : k < n) :
  ∃ b o x, A = some ⟨b, o, none⟩ ∧ b < w.heap.size ∧ xs[k]? = some x ∧ ∀ w', Below w.heap.size w w' → ∀ j u, (f x)[j]? = some u → w'.cell? ⟨b, o + k * size + j, none⟩ = some u := by
 obtain ⟨hl, h⟩ := h
 obtain ⟨b, o, rfl, hb, hc⟩ := h (by omega)
 have hk' : k < xs.length := by omega
 refine ⟨b, o, xs[k], rfl, hb, List.getElem?_eq_getElem hk', fun w' hw j u hu => ?_⟩
 rw [hw.cell (by exact hb)]
 exact hc k _ (List.getElem?_eq_getElem hk') j u hu
theorem Arr.below (h : Arr f size w A n xs) (hb : Below w.heap.size w w') : Arr f size w' A n xs :=
 ⟨h.1, fun hn => by
  obtain ⟨b, o, rfl, hlt, hc⟩ := h.2 hn
  exact ⟨b, o, rfl, Nat.lt_of_lt_of_le hlt hb.size, fun k x hx j u hu => (hb.cell (p := ⟨b, _, none⟩) hlt).trans (hc k x hx j u hu)⟩⟩
/-- The first k elements. -/
theorem Arr.take (h : Arr f size w A n xs) {k : Nat} (hk : k ≤ n) : Arr f size w A k (xs.take k) :=
 ⟨by have := h.1; simp; omega, fun hk0 => by
  obtain ⟨b, o, rfl, hlt, hc⟩ := h.2 (by omega)
  refine ⟨b, o, rfl, hlt, fun i x hx j u hu => hc i x ?_ j u hu⟩
  rw [List.getElem?_take] at hx
  split at hx
  ·exact hx
  ·cases hx⟩
theorem Arr.nil_ : Arr f size w A 0 [] := ⟨rfl, fun h => absurd h (by omega)⟩
end
theorem ret_bool {a b : Bool} (h : a = b) : Ending.returned (.bool a) = .returned (.bool b) := by rw [h]
/-- A world that extends W. -/
structure Wd (W : World) where
 val : World
 ok : Below W.heap.size W val
instance Wd.some_ (W : World) : Nonempty (Wd W) := ⟨⟨W, Below.refl _ _⟩⟩
theorem Wd.of {W w : World} (h : Below W.heap.size W w) : ∃ x : Wd W, w = x.val := ⟨⟨w, h⟩, rfl⟩
theorem Wd.more {W w : World} (x : Wd W) (h : Below x.val.heap.size x.val w) : ∃ y : Wd W, w = y.val := ⟨⟨w, x.ok.trans (h.mono x.ok.size)⟩, rfl⟩
theorem Wd.size {W : World} (x : Wd W) : W.heap.size ≤ x.val.heap.size := x.ok.size
theorem Wd.alloc {W : World} (x : Wd W) (o : Obj) : ∃ y : Wd W, x.val.alloc o = y.val := ⟨⟨_, x.ok.alloc x.ok.size o⟩, rfl⟩
/-- A cell of W is there in each world that extends it. -/
theorem cellW {W : World} {a : Addr} {v : Value} (h : W.cell? a = some v) : ∀ x : Wd W, x.val.cell? a = some v :=
 fun x => (x.ok.cell (World.block_lt_of_cell? W a h)).trans h
theorem frozenW {W : World} {a : Addr} {v : Value} (h : W.cell? a = some v) {b : Bool} (hf : W.frozen? a = b) : ∀ x : Wd W, x.val.frozen? a = b :=
 fun x => (x.ok.frozen (World.block_lt_of_cell? W a h)).trans hf
/-- .. of one value, as a quiet region asks it. -/
theorem callsCalm {P : Program} {f : FuncId} {args : Array Value} {W : World} {v : Value} {x : Wd W}
  (h : Calls P f args x.val fun e w' => e = .returned v ∧ Below x.val.heap.size x.val w') : Calls P f args x.val fun e w' => e = .returned v ∧ ∃ y : Wd W, w' = y.val :=
 h.mono fun _ _ ⟨hr, hb⟩ => ⟨hr, ⟨_, x.ok.trans (hb.mono x.ok.size)⟩, rfl⟩
theorem callsCalmSame {P : Program} {f : FuncId} {args : Array Value} {W : World} {v : Value} {x : Wd W}
  (h : Calls P f args x.val fun e w' => e = .returned v ∧ x.val = w') : Calls P f args x.val fun e w' => e = .returned v ∧ ∃ y : Wd W, w' = y.val :=
 h.mono fun _ _ ⟨hr, hb⟩ => ⟨hr, x, hb.symm⟩
/-- A region that draws its order, whose operations only read and whose callees at most make memory: one walk in the order of the text. -/
theorem wp_region_calm {P : Program} {id : Nat} {Q : Exit → Act → World → Prop} {a : Act} {w : World} {l : List Oper} (W : World) (hm : P.follows .mixedOrders = true) (hB : Region.lexB .any l.toArray = true)
  (hw : Below W.heap.size W w)
  (h : wpQuiet P l.toArray (fun w' => ∃ x : Wd W, w' = x.val) (fun a' => ∀ w', (∃ x : Wd W, w' = x.val) → Q .normal a' w') l a) : (Code.region id l.toArray true).wp P Q a w :=
 wp_region_quiet (C := fun w' => ∃ x : Wd W, w' = x.val) hm hB (Wd.of (show Below W.heap.size W w.drew from hw.drew)) (by simpa using h)
/-- A block that is known whole, none of its cells frozen. -/
def Blk (w : World) (g : Nat) (t : TypeId) (cs : Array Value) : Prop := w.heap[g]? = some (.cells cs t (0, 0))
section
variable {w w' : World} {g : Nat} {t : TypeId} {cs : Array Value}
theorem Blk.lt (h : Blk w g t cs) : g < w.heap.size := by
 rcases Nat.lt_or_ge g w.heap.size with hlt | hge
 ·exact hlt
 ·unfold Blk at h; rw [Array.getElem?_eq_none hge] at h; cases h
theorem Blk.cell (h : Blk w g t cs) (i : Nat) : w.cell? ⟨g, i, none⟩ = cs[i]? := cell_of_row w g i cs t (0, 0) h
theorem Blk.frozen (h : Blk w g t cs) (i : Nat) : w.frozen? ⟨g, i, none⟩ = false := by
 unfold Blk at h
 simp [World.frozen?, h]
theorem Blk.new (w : World) (t : TypeId) (cs : Array Value) : Blk (w.alloc (.cells cs t)) w.heap.size t cs := heap_alloc_new w _
theorem Blk.alloc (h : Blk w g t cs) (o : Obj) : Blk (w.alloc o) g t cs := (Below.heap_alloc w o g h.lt).trans h
theorem Blk.set_ (h : Blk w g t cs) (i : Nat) (u : Value) : Blk (w.setCell ⟨g, i, none⟩ u) g t (cs.setIfInBounds i u) := by
 unfold Blk at h ⊢
 simp [World.setCell, Array.getElem?_modify, h]
theorem Blk.far (h : Blk w g t cs) {p : Addr} (hp : g ≠ p.block) (u : Value) : Blk (w.setCell p u) g t cs := (Below.heap_setCell w p u g hp).trans h
theorem Blk.ext (h : Blk w g t cs) (hb : Below w.heap.size w w') : Blk w' g t cs := (hb.block g h.lt).trans h
end
section
variable {P : Program} {ops : Array Oper} {md : Region.Mode} {C : World → Prop}
def wpAnyLQ (P : Program) (md : Region.Mode) (ops : Array Oper) (C : World → Prop) (n : Nat) (L : Array Bool → Act → Prop) : Nat → Array Bool → Act → Prop
 | 0, listed, a => L listed a
 | f + 1, listed, a =>
  Region.ready md ops listed ≠ [] ∧ ∀ i ∈ Region.ready md ops listed, i < n ∧ qOp P ops C i (wpAnyLQ P md ops C n L f (listed.setIfInBounds i true)) a
theorem wpAnyQ_of_head {n g : Nat} {L : Array Bool → Act → Prop} {Q' : Exit → Act → World → Prop} (hL : ∀ listed a w, C w → L listed a → wpAny P md ops Q' g listed a w) :
  ∀ (f : Nat) (listed : Array Bool) (a : Act) (w : World), C w → wpAnyLQ P md ops C n L f listed a → wpAny P md ops Q' (f + g) listed a w
 | 0, listed, a, w, hw, h => by rw [Nat.zero_add]; exact hL _ _ _ hw h
 | f + 1, listed, a, w, hw, h => by
  rw [show f + 1 + g = (f + g) + 1 by omega]
  exact ⟨fun h0 => absurd h0 h.1, fun i hi => wpOp_of_qOp hw (fun a' w' hw' h' => wpAnyQ_of_head hL f _ a' w' hw' h') (h.2 i hi).2⟩
theorem wpAnyLQ_first {n i : Nat} {oi : Oper} {v : Value} {L : Array Bool → Act → Prop} (hi : ops[i]? = some oi) (hsel : ∀ (j : Nat) (o : Oper) cs b, ops[j]? = some o → o.op ≠ .select cs b)
  (hs : Region.sinkB md ops n = true) (hc : Region.chainB md ops n = true) (hn : n < ops.size) (hin : i < n)
  (hdone : ∀ listed a, L listed a → ∀ j ∈ Region.ready md ops listed, n ≤ j) :
  ∀ (f : Nat) (listed : Array Bool) (a : Act), HeadInv md ops n listed →
   (∀ j oj, ops[j]? = some oj → j ≠ i → listed.getD j true = false → (∀ e ∈ oj.after, Region.binds md e = true → e.on ≠ i) → oi.apart ops oj = true) →
   i ∈ Region.ready md ops listed → YieldsIn P ops C oi v a →
   wpAnyLQ P md ops C n L f (listed.setIfInBounds i true) (a.put oi.dst v) → wpAnyLQ P md ops C n L (f + 1) listed a := by
 intro f
 induction f with
 | zero =>
  intro listed a inv _ hr hy H
  have hun := (mem_ready.1 hr).1
  refine ⟨fun h => (by rw [h] at hr; cases hr), fun j hj => ?_⟩
  have hjn : j < n := by
   rcases Nat.lt_or_ge j n with h | h
   ·exact h
   ·exact absurd hj (tail_waits hs hc hn inv _ i rfl hin hun j h)
  refine ⟨hjn, ?_⟩
  by_cases hji : j = i
  ·subst hji; exact hy.qOp hi H
  ·have := hdone _ _ H j (ready_mono hj hji)
   omega
 | succ f ih =>
  intro listed a inv hfree hr hy H
  have hun := (mem_ready.1 hr).1
  refine ⟨fun h => (by rw [h] at hr; cases hr), fun j hj => ?_⟩
  have hjn : j < n := by
   rcases Nat.lt_or_ge j n with h | h
   ·exact h
   ·exact absurd hj (tail_waits hs hc hn inv _ i rfl hin hun j h)
  refine ⟨hjn, ?_⟩
  by_cases hji : j = i
  ·subst hji; exact hy.qOp hi H
  ·have h1 := (H.2 j (ready_mono hj hji)).2
   obtain ⟨hjun, oj, hoj, hall⟩ := mem_ready.1 hj
   have hnot : ∀ e ∈ oj.after, Region.binds md e = true → e.on ≠ i := fun e he hb heq => by
    have h1 := hall e he hb
    rw [heq, getD_both hun] at h1
    cases h1
   have h2 := qOp_put hoj (hfree j oj hoj hji hjun hnot) (fun cs b => hsel i oi cs b hi) (fun cs b => hsel j oj cs b hoj) hy h1
   have hfree' : ∀ k ok, ops[k]? = some ok → k ≠ i → (listed.setIfInBounds j true).getD k true = false →
     (∀ e ∈ ok.after, Region.binds md e = true → e.on ≠ i) → oi.apart ops ok = true := fun k ok hk hki hun hno => by
    refine hfree k ok hk hki ?_ hno
    by_cases hjk : j = k
    ·subst hjk; exact hjun
    ·rw [getD_set_ne true hjk] at hun; exact hun
   refine qOp_mono (fun a' h3 => ih (listed.setIfInBounds j true) a' (inv.set hj hjn) hfree' (ready_mono hr (Ne.symm hji)) h3.1 ?_) h2
   rw [Array.setIfInBounds_comm _ _ hji]
   exact h3.2
theorem wpAnyLQ_lex {n g : Nat} {Lq : Act → Prop} (hsel : Region.noSelect ops = true) (hs : Region.sinkB md ops n = true) (hc : Region.chainB md ops n = true) (hn : n < ops.size) :
  ∀ (l : List Oper) (k : Nat) (listed : Array Bool) (a : Act), (∀ j, j < l.length → l[j]? = ops[k + j]?) → k + l.length = n → HeadInv md ops n listed →
  Region.lexHead md ops g l.length k listed = true → wpQuiet P ops C Lq l a →
  wpAnyLQ P md ops C n (fun listed' a' => Region.seqB md ops g n listed' = true ∧ Lq a') l.length listed a
 | [], k, listed, a, _, hk, _, hB, h => by
  have : k = n := by simpa using hk
  subst this
  exact ⟨by simpa [Region.lexHead] using hB, h⟩
 | o :: l, k, listed, a, hl, hk, inv, hB, h => by
  have h0 : ops[k]? = some o := by simpa using (hl 0 (by simp)).symm
  simp only [List.length_cons, Region.lexHead, Bool.and_eq_true] at hB
  obtain ⟨⟨hr, hf⟩, hB'⟩ := hB
  have hkn : k < n := by simp only [List.length_cons] at hk; omega
  have hr' : k ∈ Region.ready md ops listed := by simpa using hr
  have hst : qOp P ops C k (wpQuiet P ops C Lq l) a := by unfold qOp; simp only [h0]; exact h
  obtain ⟨v, hy, hK⟩ := yieldsIn_of_qOp h0 hst
  exact wpAnyLQ_first h0 (Region.noSelect_spec hsel) hs hc hn hkn (fun listed' a' hL => seqB_ready hL.1) l.length listed a inv (Region.free_spec h0 hf) hr' hy
   (wpAnyLQ_lex hsel hs hc hn l (k + 1) _ _ (fun j hj => by have := hl (j + 1) (by simp; omega); simpa [Nat.add_assoc, Nat.add_comm 1 j] using this) (by simp only [List.length_cons] at hk; omega) (inv.set hr' hkn) hB' hK)
/-- A region that draws its order: its first n operations only read (their callees at most make memory); the others come up behind them, in the order of the text. -/
theorem wp_region_calm_tail {id : Nat} {Q : Exit → Act → World → Prop} {a : Act} {w : World} {l : List Oper} (W : World) (n : Nat) (hm : P.follows .mixedOrders = true) (hB : Region.lexTailB .any l.toArray n = true)
  (hw : Below W.heap.size W w)
  (h : wpQuiet P l.toArray (fun w' => ∃ x : Wd W, w' = x.val) (fun a' => ∀ w', (∃ x : Wd W, w' = x.val) → wpList P l.toArray Q (l.drop n) a' w') (l.take n) a) : (Code.region id l.toArray true).wp P Q a w := by
 simp only [Region.lexTailB, Bool.and_eq_true, decide_eq_true_eq] at hB
 obtain ⟨⟨⟨⟨hsel, hn⟩, hs⟩, hc⟩, hlex⟩ := hB
 have hn' : n < l.length := by simpa using hn
 have htl : (l.take n).length = n := by simp; omega
 have hdl : (l.drop n).length = l.toArray.size - n := by simp
 have inv0 : HeadInv .any l.toArray n (Array.replicate l.toArray.size false) :=
  ⟨by simp, fun j oj _ hl => (by rw [getD_replicate_false] at hl; cases hl), fun t _ ht => getD_in (by simpa using ht) (getD_replicate_false _ _)⟩
 have H := wpAnyLQ_lex (md := .any) (g := l.toArray.size - n) hsel hs hc hn (l.take n) 0 _ a (fun j hj => by
  have hj' : j < n := by rw [htl] at hj; exact hj
  simp [hj']) (by simpa using htl) inv0 (by rw [htl]; exact hlex) h
 refine wp_region_any hm ?_
 have := wpAnyQ_of_head (Q' := Q) (g := l.toArray.size - n) (fun listed a' w' hw' hL => by
  have := wpAny_of_seq (md := .any) (Q' := Q) (l.drop n) n listed a' w' (fun j => by simp [List.getElem?_drop]) (by rw [hdl]; exact hL.1) (hL.2 _ hw')
  rwa [hdl] at this) _ _ _ { w with drawn := w.drawn + 1 } (Wd.of (show Below W.heap.size W w.drew from hw.drew)) H
 rw [htl, show n + (l.toArray.size - n) = l.toArray.size by omega] at this
 exact this
end
end Go.Proofs.YtkoejeghihcmlaaGreat
namespace Go.Proofs.YtkoejeghihcmlaaGreat
open Go.RowKit
section
variable {P : Program} {ops : Array Oper} {md : Region.Mode} {C : World → Prop} {F : Fence} {n : Nat}
/-- A fence that lets everything in. -/
structure Open (F : Fence) : Prop where
 fn : ∀ f, F.fn f
 depth : F.depth = none
 calls : ∀ {n : Nat} {P : Program} {f : FuncId} {args : Array Value} {w : World} {R : Ending → World → Prop}, Calls P f args w R → CallsIn F n P f args w R
theorem Open.wide : Open Fence.wide := ⟨fun _ => trivial, rfl, fun h => callsIn_wide.2 h⟩
theorem Open.round (l : Nat) : Open (Fence.wide.inRound l) := ⟨fun _ => trivial, rfl, fun h => CallsIn.inRound l (callsIn_wide.2 h)⟩
theorem operWpIn_of_quiet (hF : Open F) {o : Oper} (hnd : ∀ c, o.op ≠ .defer c) {a : Act} {K : Act → Prop} {K' : Act → World → Prop} {Q' : Exit → Act → World → Prop} {w : World} (hw : C w) (h : ∀ a w', C w' → K a → K' a w') (hh : o.quiet P a C K) : o.wpIn F n P a w K' Q' := by
 obtain ⟨v, h1, h2⟩ := hh
 have h3 := h1 w hw
 unfold Oper.quietAt at h3
 unfold Oper.wpIn
 rw [Oper.semAt_eq _ _ _ hnd]
 refine ⟨fun f _ => hF.fn f, ?_⟩
 generalize (execOp a.eval o).run P w = r at *
 cases r with
 | ok x w' =>
  cases x <;> simp only [Oper.quietUpon] at h3 <;> simp only [Oper.uponIn]
  case value u =>
   obtain ⟨e1, e2⟩ := h3
   rw [e1, e2]
   exact h _ _ hw h2
  case skip =>
   obtain ⟨e1, e2⟩ := h3
   rw [e1, ← e2]
   exact h _ _ hw h2
  case enter f args =>
   obtain ⟨e1, hc⟩ := h3
   rw [e1]
   exact ⟨fun hd => (by rw [hF.depth] at hd; cases hd), hF.calls (hc.mono fun e w'' ⟨he, hw''⟩ => by subst he; exact h _ _ hw'' h2)⟩
 | halt x w' => simp only [Oper.quietUpon] at h3
def noDefer (ops : Array Oper) : Bool := ops.all fun o => match o.op with | .defer _ => false | _ => true
theorem noDefer_spec (h : noDefer ops = true) {i : Nat} {o : Oper} (ho : ops[i]? = some o) : ∀ c, o.op ≠ .defer c := by
 intro c he
 have := Array.all_eq_true_iff_forall_mem.1 h o (Array.mem_of_getElem? ho)
 simp [he] at this
theorem wpOpIn_of_qOp (hF : Open F) (hnd : noDefer ops = true) {i : Nat} {a : Act} {K : Act → Prop} {K' : Act → World → Prop} {Q' : Exit → Act → World → Prop} {w : World} (hC : C w) (h : ∀ a w', C w' → K a → K' a w') (hh : qOp P ops C i K a) : wpOpIn F n P ops Q' i K' a w := by
 unfold qOp at hh
 unfold wpOpIn
 split
 ·rename_i ho; simp only [ho] at hh; exact h _ _ hC hh
 ·rename_i o ho
  simp only [ho] at hh
  split
  ·rename_i hw; simp only [hw, if_true] at hh; exact operWpIn_of_quiet hF (noDefer_spec hnd ho) hC h hh
  ·rename_i hw; simp only [hw] at hh; exact ⟨fun f _ => hF.fn f, h _ _ hC hh⟩
theorem wpAnyIn_of_quiet (hF : Open F) (hnd : noDefer ops = true) {Q : Act → Prop} {Q' : Exit → Act → World → Prop} (hQ : ∀ a w, C w → Q a → Q' .normal a w) : ∀ (fuel : Nat) (listed : Array Bool) (a : Act) (w : World), C w →
  wpAnyQ P md ops C Q fuel listed a → wpAnyIn F n P md ops Q' fuel listed a w
 | 0, _, _, _, hw, h => ⟨h.1, hQ _ _ hw h.2⟩
 | fuel + 1, _, _, _, hw, h => ⟨fun h0 => hQ _ _ hw (h.1 h0), fun i hi => wpOpIn_of_qOp hF hnd hw (fun a' w' hw' => wpAnyIn_of_quiet hF hnd hQ fuel _ a' w' hw') (h.2 i hi)⟩
/-- A class of worlds that a draw does not leave. -/
theorem wpIn_region_quiet (hF : Open F) {id : Nat} {Q : Exit → Act → World → Prop} {a : Act} {w : World} {l : List Oper} (hm : P.follows .mixedOrders = true) (hB : Region.lexB .any l.toArray = true) (hnd : noDefer l.toArray = true) (hC : C w.drew)
  (h : wpQuiet P l.toArray C (fun a' => ∀ w', C w' → Q .normal a' w') l a) : (Code.region id l.toArray true).wpIn F n P Q a w := by
 simp only [Region.lexB, Bool.and_eq_true] at hB
 refine wpIn_region_any hm (wpAnyIn_of_quiet hF hnd (Q := fun a' => ∀ w', C w' → Q .normal a' w') (fun _ w' hw' h => h w' hw') _ _ _ { w with drawn := w.drawn + 1 } hC ?_)
 have := wpAnyQ_lex (C := C) (md := .any) hB.1 l 0 (Array.replicate l.toArray.size false) a (by simp) (by simpa using hB.2) h
 simpa using this
theorem wpAnyIn_of_head (hF : Open F) (hnd : noDefer ops = true) {m g : Nat} {L : Array Bool → Act → Prop} {Q' : Exit → Act → World → Prop} (hL : ∀ listed a w, C w → L listed a → wpAnyIn F n P md ops Q' g listed a w) :
  ∀ (f : Nat) (listed : Array Bool) (a : Act) (w : World), C w → wpAnyLQ P md ops C m L f listed a → wpAnyIn F n P md ops Q' (f + g) listed a w
 | 0, listed, a, w, hw, h => by rw [Nat.zero_add]; exact hL _ _ _ hw h
 | f + 1, listed, a, w, hw, h => by
  rw [show f + 1 + g = (f + g) + 1 by omega]
  exact ⟨fun h0 => absurd h0 h.1, fun i hi => wpOpIn_of_qOp hF hnd hw (fun a' w' hw' h' => wpAnyIn_of_head hF hnd hL f _ a' w' hw' h') (h.2 i hi).2⟩
theorem wpAnyIn_of_seq {Q' : Exit → Act → World → Prop} : ∀ (l : List Oper) (k : Nat) (listed : Array Bool) (a : Act) (w : World), (∀ j, l[j]? = ops[k + j]?) →
  Region.seqB md ops l.length k listed = true → wpListIn F n P ops Q' l a w → wpAnyIn F n P md ops Q' l.length listed a w
 | [], _, _, _, _, _, hB, h => ⟨by simpa [Region.seqB] using hB, h⟩
 | o :: l, k, listed, a, w, hl, hB, h => by
  have h0 : ops[k]? = some o := by simpa using (hl 0).symm
  simp only [List.length_cons, Region.seqB, Bool.and_eq_true, decide_eq_true_eq] at hB
  refine ⟨fun h1 => (by rw [hB.1] at h1; cases h1), fun i hi => ?_⟩
  rw [hB.1] at hi
  have hik : i = k := by simpa using hi
  subst hik
  have hw : wpOpIn F n P ops Q' i (wpListIn F n P ops Q' l) a w := by unfold wpOpIn; simp only [h0]; exact h
  exact wpOpIn_mono (fun a' w' h' => wpAnyIn_of_seq l (i + 1) _ a' w' (fun j => by have := hl (j + 1); simpa [Nat.add_assoc, Nat.add_comm 1 j] using this) hB.2 h') hw
theorem wpIn_region_quiet_tail (hF : Open F) {id : Nat} {Q : Exit → Act → World → Prop} {a : Act} {w : World} {l : List Oper} (m : Nat) (hm : P.follows .mixedOrders = true) (hB : Region.lexTailB .any l.toArray m = true) (hnd : noDefer l.toArray = true) (hC : C w.drew)
  (h : wpQuiet P l.toArray C (fun a' => ∀ w', C w' → wpListIn F n P l.toArray Q (l.drop m) a' w') (l.take m) a) : (Code.region id l.toArray true).wpIn F n P Q a w := by
 simp only [Region.lexTailB, Bool.and_eq_true, decide_eq_true_eq] at hB
 obtain ⟨⟨⟨⟨hsel, hn⟩, hs⟩, hc⟩, hlex⟩ := hB
 have hn' : m < l.length := by simpa using hn
 have htl : (l.take m).length = m := by simp; omega
 have hdl : (l.drop m).length = l.toArray.size - m := by simp
 have inv0 : HeadInv .any l.toArray m (Array.replicate l.toArray.size false) :=
  ⟨by simp, fun j oj _ hl => (by rw [getD_replicate_false] at hl; cases hl), fun t _ ht => getD_in (by simpa using ht) (getD_replicate_false _ _)⟩
 have H := wpAnyLQ_lex (md := .any) (g := l.toArray.size - m) hsel hs hc hn (l.take m) 0 _ a (fun j hj => by
  have hj' : j < m := by rw [htl] at hj; exact hj
  simp [hj']) (by simpa using htl) inv0 (by rw [htl]; exact hlex) h
 refine wpIn_region_any hm ?_
 have := wpAnyIn_of_head hF hnd (Q' := Q) (g := l.toArray.size - m) (fun listed a' w' hw' hL => by
  have := wpAnyIn_of_seq (md := .any) (Q' := Q) (l.drop m) m listed a' w' (fun j => by simp [List.getElem?_drop]) (by rw [hdl]; exact hL.1) (hL.2 _ hw')
  rwa [hdl] at this) _ _ _ { w with drawn := w.drawn + 1 } hC H
 rw [htl, show m + (l.toArray.size - m) = l.toArray.size by omega] at this
 exact this
end
end Go.Proofs.YtkoejeghihcmlaaGreat
namespace Go.Proofs.YtkoejeghihcmlaaGreat
open Go.RowKit Go.Shelf
/-- What a world keeps while the plan's two blocks (whose each hour is; the hours that were tried) may turn. -/
structure Fix (bw bs : Nat) (W W' : World) : Prop where
 os : W'.os = W.os
 tape : W'.tape = W.tape
 output : W'.output = W.output
 size : W.heap.size ≤ W'.heap.size
 block : ∀ k, k < W.heap.size → k ≠ bw → k ≠ bs → W'.heap[k]? = W.heap[k]?
section
variable {bw bs : Nat} {W W' W'' : World}
theorem Fix.refl (bw bs : Nat) (W : World) : Fix bw bs W W := ⟨rfl, rfl, rfl, Nat.le_refl _, fun _ _ _ _ => rfl⟩
theorem Fix.trans (h : Fix bw bs W W') (k : Fix bw bs W' W'') : Fix bw bs W W'' :=
 ⟨k.os.trans h.os, k.tape.trans h.tape, k.output.trans h.output, Nat.le_trans h.size k.size, fun i hi h1 h2 => (k.block i (Nat.lt_of_lt_of_le hi h.size) h1 h2).trans (h.block i hi h1 h2)⟩
theorem Fix.of_below (h : Below W.heap.size W W') : Fix bw bs W W' := ⟨h.os, h.tape, h.output, h.size, fun k hk _ _ => h.block k hk⟩
theorem Fix.cell (h : Fix bw bs W W') {b o : Nat} {v : Value} (hc : W.cell? ⟨b, o, none⟩ = some v) (h1 : b ≠ bw) (h2 : b ≠ bs) : W'.cell? ⟨b, o, none⟩ = some v :=
 (World.cell?_of_block (a := ⟨b, o, none⟩) (h.block b (World.block_lt_of_cell? W _ hc) h1 h2)).trans hc
theorem Fix.blk (h : Fix bw bs W W') {g : Nat} {t : TypeId} {cs : Array Value} (hc : Blk W g t cs) (h1 : g ≠ bw) (h2 : g ≠ bs) : Blk W' g t cs := (h.block g hc.lt h1 h2).trans hc
theorem Fix.setCell (h : Fix bw bs W W') {p : Addr} (hp : p.block = bw ∨ p.block = bs ∨ W.heap.size ≤ p.block) (u : Value) : Fix bw bs W (W'.setCell p u) :=
 ⟨h.os, h.tape, h.output, by simpa [World.setCell] using h.size, fun k hk h1 h2 => (Below.heap_setCell _ _ _ _ (by
  rintro rfl
  rcases hp with hp | hp | hp
  ·exact h1 hp
  ·exact h2 hp
  ·omega)).trans (h.block k hk h1 h2)⟩
end
theorem Blk.own {W W' : World} {g : Nat} {t : TypeId} {cs : Array Value} {row : Option Nat} (h : Blk W g t cs) (hg : W.grownBy W' row) (hr : ∀ r, row = some r → ∃ o : Obj, W.heap[r]? = some o ∧ o.isCells = false) : Blk W' g t cs := by
 refine (hg.block g h.lt ?_).trans h
 intro e
 obtain ⟨o, ho, hc⟩ := hr g e.symm
 rw [show W.heap[g]? = _ from h] at ho
 cases ho; cases hc
theorem Fix.own {A W W' : World} {bw bs : Nat} {row : Option Nat} (h : Fix bw bs A W) (hg : W.grownBy W' row) (hr : ∀ r, row = some r → A.heap.size ≤ r) : Fix bw bs A W' :=
 ⟨hg.os.trans h.os, hg.tape.trans h.tape, hg.output.trans h.output, Nat.le_trans h.size hg.size, fun k hk h1 h2 =>
  (hg.block k (Nat.lt_of_lt_of_le hk h.size) (fun e => by have := hr k e.symm; omega)).trans (h.block k hk h1 h2)⟩
def vals (l : List Int) : Array Value := (l.map (Value.int .i64)).toArray
theorem vals_get (l : List Int) (i : Nat) : (vals l)[i]? = (l[i]?).map (Value.int .i64) := by simp [vals]
theorem vals_set (l : List Int) (i : Nat) (v : Int) : (vals l).setIfInBounds i (.int .i64 v) = vals (l.set i v) := by
 simp [vals, List.map_set]
theorem keepsFrom_of_fix {W W' : World} {bw bs : Nat} (B : Nat) {t t' : TypeId} {cs cs' : Array Value} (h : Fix bw bs W W') (hw : Blk W bw t cs) (hs : Blk W bs t' cs') : KeepsFrom B W W' :=
 ⟨h.size, fun k o _ hk ho => by
  refine (h.block k (Array.getElem?_eq_some_iff.1 hk).1 ?_ ?_).trans hk
  ·rintro rfl; rw [show W.heap[k]? = _ from hw] at hk; cases hk; cases ho
  ·rintro rfl; rw [show W.heap[k]? = _ from hs] at hk; cases hk; cases ho⟩
theorem Blk.drewN {w : World} {g : Nat} {t : TypeId} {cs : Array Value} (h : Blk w g t cs) (n : Nat) : Blk (w.drewN n) g t cs := h
theorem Fix.drewN {w W : World} {bw bs : Nat} (h : Fix bw bs W w) (n : Nat) : Fix bw bs W (w.drewN n) := ⟨h.os, h.tape, h.output, h.size, h.block⟩
theorem Fix.putObj {A W : World} {bw bs : Nat} (h : Fix bw bs A W) {D : Nat} (hD : A.heap.size ≤ D) (o : Obj) : Fix bw bs A (W.putObj D o) :=
 ⟨h.os, h.tape, h.output, by simpa using h.size, fun k hk h1 h2 => (World.putObj_heap_other (by omega)).trans (h.block k hk h1 h2)⟩
theorem Blk.putObj {W : World} {g : Nat} {t : TypeId} {cs : Array Value} (h : Blk W g t cs) {D : Nat} (hD : g ≠ D) (o : Obj) : Blk (W.putObj D o) g t cs := (World.putObj_heap_other hD).trans h
theorem made_vals (k : Nat) : madeCells #[.int .i64 0] k = vals (List.replicate k 0) := by
 apply Array.ext
 ·simp [madeCells, vals]
 ·intro i h1 h2; simp [madeCells, vals, Nat.mod_one]
def icells (x : Int) : List Value := [.int .i64 x]
abbrev Ints (w : World) (A : Option Addr) (n : Nat) (xs : List Int) : Prop := Arr icells 1 w A n xs
theorem Arr.fix {α : Type} {f : α → List Value} {size : Nat} {w w' : World} {A : Option Addr} {n : Nat} {xs : List α} {bw bs : Nat} (h : Arr f size w A n xs) (k : Fix bw bs w w')
  (hd : ∀ b o, A = some ⟨b, o, none⟩ → 0 < n → b ≠ bw ∧ b ≠ bs) : Arr f size w' A n xs :=
 ⟨h.1, fun hn => by
  obtain ⟨b, o, rfl, hlt, hc⟩ := h.2 hn
  obtain ⟨h1, h2⟩ := hd b o rfl hn
  exact ⟨b, o, rfl, Nat.lt_of_lt_of_le hlt k.size, fun i x hx j u hu => (World.cell?_of_block (a := ⟨b, _, none⟩) (k.block b hlt h1 h2)).trans (hc i x hx j u hu)⟩⟩
theorem ints_at {w : World} {A : Option Addr} {n : Nat} {xs : List Int} (h : Ints w A n xs) {k : Nat} (hk : k < n) :
  ∃ b o, A = some ⟨b, o, none⟩ ∧ b < w.heap.size ∧ xs[k]? = some (xs.getD k 0) ∧ ∀ w', Below w.heap.size w w' → w'.cell? ⟨b, o + k, none⟩ = some (.int .i64 (xs.getD k 0)) := by
 obtain ⟨b, o, x, rfl, hb, hx, hc⟩ := h.at hk
 have e : xs.getD k 0 = x := by rw [List.getD_eq_getElem?_getD, hx]; rfl
 rw [e]
 exact ⟨b, o, rfl, hb, hx, fun w' hw => by have := hc w' hw 0 _ rfl; simpa using this⟩
theorem Blk.ints {w : World} {g : Nat} {l : List Int} (h : Blk w g 3 (vals l)) : Ints w (some ⟨g, 0, none⟩) l.length l :=
 ⟨rfl, fun _ => ⟨g, 0, rfl, h.lt, fun k x hx j u hu => by
  have hj : j = 0 := by
   rcases Nat.lt_or_ge j 1 with h | h
   ·omega
   ·rw [List.getElem?_eq_none (by simp [icells]; omega)] at hu; cases hu
  subst hj
  have hu' : u = .int .i64 x := by simp [icells] at hu; exact hu.symm
  subst hu'
  rw [show 0 + k * 1 + 0 = k by omega, h.cell k, vals_get, hx]; rfl⟩⟩
theorem Blk.intsN {w : World} {g n : Nat} {l : List Int} (h : Blk w g 3 (vals l)) (hn : l.length = n) : Ints w (some ⟨g, 0, none⟩) n l := hn ▸ h.ints
theorem add_at (b o j : Nat) : (⟨b, o, none⟩ : Addr).add j = ⟨b, o + j, none⟩ := by unfold Addr.add; split <;> simp_all
theorem flat_get {α : Type} {f : α → List Value} {s : Nat} (hf : ∀ x, (f x).length = s) : ∀ (xs : List α) (k j : Nat), j < s → (xs.flatMap f)[k * s + j]? = xs[k]?.bind fun x => (f x)[j]?
 | [], k, j, _ => by simp
 | x :: xs, 0, j, hj => by
  rw [List.flatMap_cons, List.getElem?_append_left (by rw [hf]; omega)]; simp
 | x :: xs, k + 1, j, hj => by
  have e : (k + 1) * s + j = s + (k * s + j) := by rw [Nat.succ_mul]; omega
  rw [List.flatMap_cons, List.getElem?_append_right (by rw [hf, e]; omega), hf, e, Nat.add_sub_cancel_left, flat_get hf xs k j hj]
  rfl
theorem flat_len {α : Type} {f : α → List Value} {s : Nat} (hf : ∀ x, (f x).length = s) : ∀ xs : List α, (xs.flatMap f).length = xs.length * s
 | [] => by simp
 | x :: xs => by rw [List.flatMap_cons, List.length_append, hf, flat_len hf xs, List.length_cons, Nat.succ_mul]; omega
theorem two_more (w : World) (o o' : Obj) : Below w.heap.size w ((w.alloc o).alloc o') := ((Below.refl _ _).alloc (Nat.le_refl _) o).alloc (by simp) o'
theorem one_more (w : World) (o : Obj) : Below w.heap.size w (w.alloc o) := (Below.refl _ _).alloc (Nat.le_refl _) o
theorem keepAlloc {W : World} {a : Addr} {v : Value} (h : W.cell? a = some v) (o : Obj) : (W.alloc o).cell? a = some v := (World.cell?_alloc_lt W o a (World.block_lt_of_cell? W a h)).trans h
def Own (w : World) (base : Nat) (v : Value) (l : List Int) : Prop := w.ownsRow base 3 1 v l.length (l.map (Value.int .i64))
theorem Own.nil (w : World) (base : Nat) : Own w base (.slice none 0 0) [] := World.ownsRow_nil w base 3 1
theorem Own.ext {w w' : World} {base : Nat} {v : Value} {l : List Int} (h : Own w base v l) (g : Below w.heap.size w w') : Own w' base v l :=
 World.ownsRow.kept h (row := none) ⟨g.os, g.tape, g.output, g.size, fun k hk _ => g.block k hk⟩ (by
  cases hq : v.ownBlock with
  | none => exact .inl rfl
  | some k => exact .inr (by simp))
theorem Own.ints {w : World} {base : Nat} {v : Value} {l : List Int} (h : Own w base v l) : ∃ A c, v = .slice A l.length c ∧ Ints w A l.length l := by
 obtain ⟨h1, h2 | ⟨g, cap, cur, rfl, hb, hg, h4, h5, h6, h7⟩⟩ := h
 ·obtain ⟨rfl, h3⟩ := h2
  have : l = [] := List.eq_nil_of_length_eq_zero h3
  subst this
  exact ⟨none, 0, rfl, rfl, fun h => absurd h (by simp)⟩
 ·refine ⟨_, _, rfl, rfl, fun _ => ⟨g, 0, rfl, ?_, fun k x hx j u hu => ?_⟩⟩
  ·rcases Nat.lt_or_ge g w.heap.size with hlt | hge
   ·exact hlt
   ·rw [Array.getElem?_eq_none hge] at hg; cases hg
  ·have hk : k < l.length := (List.getElem?_eq_some_iff.1 hx).1
   have hj : j = 0 := by
    rcases Nat.lt_or_ge j 1 with h | h
    ·omega
    ·rw [List.getElem?_eq_none (by simp [icells]; omega)] at hu; cases hu
   subst hj
   have hu' : u = .int .i64 x := by simp [icells] at hu; exact hu.symm
   subst hu'
   rw [show 0 + k * 1 + 0 = k by omega, cell_of_row w g k cur 3 (0, 0) hg]
   have e1 : (l.map (Value.int .i64))[k]? = some (.int .i64 x) := by rw [List.getElem?_map, hx]; rfl
   rw [← h7, List.getElem?_take, if_pos (by omega)] at e1
   simpa using e1
def rng (n lo hi : Int) : Bool := decide (lo ≤ n) && decide (n ≤ hi)
def err (b : Bool) (e : Int) : Int := if b then 0 else e
/-- A kind of element: its cells, the types of it and of its slice. -/
structure Kd {α : Type} (f : α → List Value) (size : Nat) (e t : TypeId) (bytes : Nat) (z : Value) : Prop where
 ht : Tryz.prog.underlying t = some (.slice e)
 hi : (Tryz.prog.info? e).map (fun i => (i.zero, i.size, i.bytes)) = some (some z, size, bytes)
 hz : z.cells.size = size
 pos : 0 < size
 len : ∀ x, (f x).length = size
 one : ∀ x, ∀ u ∈ f x, u.oneCell' = true
 by64 : bytes ≤ 64
def OwnL {α : Type} (f : α → List Value) (size : Nat) (e : TypeId) (w : World) (base : Nat) (v : Value) (xs : List α) : Prop := w.ownsRow base e size v xs.length (xs.flatMap f)
theorem flat_icells (l : List Int) : l.flatMap icells = l.map (Value.int .i64) := by
 induction l with
 | nil => rfl
 | cons x l ih => rw [List.flatMap_cons, ih]; rfl
theorem Own.l {w : World} {base : Nat} {v : Value} {l : List Int} (h : Own w base v l) : OwnL icells 1 3 w base v l := by unfold OwnL; rw [flat_icells]; exact h
theorem OwnL.ints {w : World} {base : Nat} {v : Value} {l : List Int} (h : OwnL icells 1 3 w base v l) : Own w base v l := by unfold OwnL at h; rw [flat_icells] at h; exact h
section
variable {α : Type} {f : α → List Value} {size : Nat} {e t : TypeId} {bytes : Nat} {z : Value}
theorem run_app (K : Kd f size e t bytes z) (w : World) (ty : TypeId) (base : Nat) (v : Value) (xs : List α) (hown : OwnL f size e w base v xs) (A : Option Addr) (m c : Nat) (ys : List α) (hr : Arr f size w A m ys)
  (hn : xs.length + m ≤ 1000000) (hbase : base ≤ w.heap.size) :
  ∃ v' w', (Builtin.append_ #[t, t] ty #[v, .slice A m c]).run Tryz.prog w = .ok v' w' ∧ OwnL f size e w' base v' (xs ++ ys) ∧ w.grownBy w' v.ownBlock ∧ (v'.ownBlock = v.ownBlock ∨ v'.ownBlock = some w.heap.size) := by
 obtain ⟨i, hi, hz0, hz1, hz2⟩ := info_parts K.hi
 have hl := hr.1
 have hby : bytes ≤ 64 := K.by64
 have hmul : (xs.length + m) * bytes ≤ 1000000 * 64 := Nat.mul_le_mul hn hby
 have hfl : (ys.flatMap f).length = m * size := by rw [flat_len K.len, hl]
 have h1c : ∀ u ∈ ys.flatMap f, u.oneCell' = true := fun u hu => by obtain ⟨x, -, hx⟩ := List.mem_flatMap.1 hu; exact K.one x u hx
 have hfin : ∀ v' w', w'.ownsRow base e size v' (xs.length + m) (xs.flatMap f ++ ys.flatMap f) → OwnL f size e w' base v' (xs ++ ys) := fun v' w' h => by
  unfold OwnL; rw [List.length_append, List.flatMap_append, hl]; exact h
 rcases A with _ | ad
 ·have hm : m = 0 := by
   rcases Nat.eq_zero_or_pos m with h0 | h0
   ·exact h0
   ·obtain ⟨b, o, h, _⟩ := hr.2 h0; cases h
  subst hm
  have hn0 : ys = [] := List.eq_nil_of_length_eq_zero hl
  subst hn0
  refine ⟨v, w, ?_, by simpa using hown, World.grownBy.refl w _, .inl rfl⟩
  unfold OwnL at hown
  rcases hown.2 with ⟨rfl, h0⟩ | ⟨g, cap, cur, rfl, _, _, hnc, _⟩
  ·simp [Builtin.append_, run_underlying K.ht, sizeOf, typeInfo, hi, Builtin.lenOf, Builtin.firstCells]
  ·simp [Builtin.append_, run_underlying K.ht, sizeOf, typeInfo, hi, Builtin.lenOf, Builtin.firstCells, hnc, storeCells]
 ·have hcells : ∀ j u, (ys.flatMap f)[j]? = some u → w.cell? (ad.add j) = some u := by
   intro j u hu
   have hj : j < m * size := by rw [← hfl]; exact (List.getElem?_eq_some_iff.1 hu).1
   have hjm : j / size < m := Nat.div_lt_of_lt_mul (by rw [Nat.mul_comm]; exact hj)
   obtain ⟨b, o, x, e1, -, hx, hc⟩ := hr.at hjm
   cases e1
   have hd := Nat.div_add_mod j size
   rw [Nat.mul_comm] at hd
   rw [← hd, flat_get K.len ys _ _ (Nat.mod_lt _ K.pos), hx] at hu
   have := hc w (Below.refl _ _) (j % size) u hu
   rw [add_at, ← hd]
   rwa [Nat.add_assoc] at this
  obtain ⟨v', w', hrun, h2, h3, _, h5⟩ := run_append_own_at (P := Tryz.prog) w base t ty e i z size bytes K.ht hi hz0 hz1 hz2 K.hz K.pos v xs.length _ hown ad m c _ hfl hcells h1c (by unfold maxLen; omega) (by omega) hbase
  exact ⟨v', w', hrun, hfin _ _ h2, h3, h5⟩
theorem wp_app (K : Kd f size e t bytes z) {w : World} {o : Oper} {a : Act} {K1 : Act → World → Prop} {Q : Exit → Act → World → Prop} (s x : Operand)
  (ho : o.op = .call { callee := .builtin .append, args := #[s, x], argTypes := #[t, t] }) (base : Nat) (v : Value) (xs : List α) (hs : a.eval s = v) (hown : OwnL f size e w base v xs)
  (A : Option Addr) (m c : Nat) (ys : List α) (hx : a.eval x = .slice A m c) (hr : Arr f size w A m ys) (hn : xs.length + m ≤ 1000000) (hbase : base ≤ w.heap.size)
  (h : ∀ v' w', OwnL f size e w' base v' (xs ++ ys) → w.grownBy w' v.ownBlock → (v'.ownBlock = v.ownBlock ∨ v'.ownBlock = some w.heap.size) → K1 (a.put o.dst v') w') : o.wp Tryz.prog a w K1 Q := by
 obtain ⟨v', w', hrun, h2, h3, h4⟩ := run_app K w o.type base v xs hown A m c ys hr hn hbase
 unfold Oper.wp execOp
 simp only [ho, resolve, invoke, builtin, Sem.run_bind, Sem.run_pure, Result.andThen_ok, List.map_toArray, List.map_cons, List.map_nil, hs, hx, hrun]
 exact h v' w' h2 h3 h4
/-- In a plain region. -/
theorem wpList_app (K : Kd f size e t bytes z) {w : World} {ops : Array Oper} {rest : List Oper} {o : Oper} {a : Act} {Q : Exit → Act → World → Prop} (hgd : o.guard = none) (s x : Operand)
  (ho : o.op = .call { callee := .builtin .append, args := #[s, x], argTypes := #[t, t] }) (base : Nat) (v : Value) (xs : List α) (hs : a.eval s = v) (hown : OwnL f size e w base v xs)
  (A : Option Addr) (m c : Nat) (ys : List α) (hx : a.eval x = .slice A m c) (hr : Arr f size w A m ys) (hn : xs.length + m ≤ 1000000) (hbase : base ≤ w.heap.size)
  (h : ∀ v' w', OwnL f size e w' base v' (xs ++ ys) → w.grownBy w' v.ownBlock → (v'.ownBlock = v.ownBlock ∨ v'.ownBlock = some w.heap.size) → wpList Tryz.prog ops Q rest (a.put o.dst v') w') : wpList Tryz.prog ops Q (o :: rest) a w :=
 wpList_plain hgd fun _ hK => wp_app K s x ho base v xs hs hown A m c ys hx hr hn hbase fun v' w' h2 h3 h4 => hK _ _ (h v' w' h2 h3 h4)
/-- In a region that draws its order. -/
theorem step_app (K : Kd f size e t bytes z) {w : World} {ops : Array Oper} {o : Oper} {a : Act} {K1 : Act → World → Prop} {Q : Exit → Act → World → Prop} {E : Prop} (hgd : o.guard = none) (s x : Operand)
  (ho : o.op = .call { callee := .builtin .append, args := #[s, x], argTypes := #[t, t] }) (base : Nat) (v : Value) (xs : List α) (hs : a.eval s = v) (hown : OwnL f size e w base v xs)
  (A : Option Addr) (m c : Nat) (ys : List α) (hx : a.eval x = .slice A m c) (hr : Arr f size w A m ys) (hn : xs.length + m ≤ 1000000) (hbase : base ≤ w.heap.size)
  (h : ∀ v' w', OwnL f size e w' base v' (xs ++ ys) → w.grownBy w' v.ownBlock → (v'.ownBlock = v.ownBlock ∨ v'.ownBlock = some w.heap.size) → K1 (a.put o.dst v') w') :
  if Region.wanted o (yielded ops a.tmps) = true then Oper.wp Tryz.prog o a w K1 Q else E := by
 have hw : Region.wanted o (yielded ops a.tmps) = true := by simp [Region.wanted, hgd]
 rw [if_pos hw]
 exact wp_app K s x ho base v xs hs hown A m c ys hx hr hn hbase h
theorem OwnL.mono {w : World} {base base' : Nat} {v : Value} {xs : List α} (h : OwnL f size e w base v xs) (hb : base' ≤ base) : OwnL f size e w base' v xs := World.ownsRow.mono h hb
theorem OwnL.ext {w w' : World} {base : Nat} {v : Value} {xs : List α} (h : OwnL f size e w base v xs) (g : Below w.heap.size w w') : OwnL f size e w' base v xs :=
 World.ownsRow.kept h (row := none) ⟨g.os, g.tape, g.output, g.size, fun k hk _ => g.block k hk⟩ (by
  cases hq : v.ownBlock with
  | none => exact .inl rfl
  | some k => exact .inr (by simp))
theorem OwnL.nil (w : World) (base : Nat) : OwnL f size e w base (.slice none 0 0) [] := World.ownsRow_nil w base e size
/-- What the append leaves as it was. -/
theorem OwnL.below {w w' : World} {base B : Nat} {v : Value} {xs : List α} (h : OwnL f size e w base v xs) (hg : w.grownBy w' v.ownBlock) (hB : B ≤ base) (hb : B ≤ w.heap.size) : Below B w w' :=
 (Below.refl _ _).grown hg hb (fun k hk => by have := World.ownsRow.lt h k hk; omega)
/-- As a slice. -/
theorem OwnL.arr {w : World} {base : Nat} {v : Value} {xs : List α} (K : Kd f size e t bytes z) (h : OwnL f size e w base v xs) : ∃ A c, v = .slice A xs.length c ∧ xs.length ≤ c ∧ c ≤ maxLen ∧ Arr f size w A xs.length xs ∧
  (∀ b o, A = some ⟨b, o, none⟩ → v.ownBlock = some b ∧ base ≤ b ∧ o = 0) := by
 obtain ⟨h1, h2 | ⟨g, cap, cur, rfl, hb, hg, h4, h5, h6, h7⟩⟩ := h
 ·obtain ⟨rfl, h3⟩ := h2
  have : xs = [] := List.eq_nil_of_length_eq_zero h3
  subst this
  exact ⟨none, 0, rfl, Nat.le_refl _, Nat.zero_le _, Arr.nil_, (by simp)⟩
 ·have hg' : Blk w g e cur := hg
  refine ⟨_, _, rfl, h4, h5, ⟨rfl, fun _ => ⟨g, 0, rfl, hg'.lt, fun k x hx j u hu => ?_⟩⟩, fun b o e => by cases e; exact ⟨rfl, hb, rfl⟩⟩
  have hk : k < xs.length := (List.getElem?_eq_some_iff.1 hx).1
  have hj : j < size := by rw [← K.len x]; exact (List.getElem?_eq_some_iff.1 hu).1
  have e1 : (xs.flatMap f)[k * size + j]? = some u := by rw [flat_get K.len xs k j hj, hx]; exact hu
  have hlt : k * size + j < xs.length * size := by
   have : (k + 1) * size ≤ xs.length * size := Nat.mul_le_mul_right _ hk
   rw [Nat.succ_mul] at this; omega
  rw [← h7, List.getElem?_take, if_pos hlt] at e1
  rw [show 0 + k * size + j = k * size + j by omega, hg'.cell]
  simpa using e1
/-- One element in a block of its own. -/
theorem Blk.arr1 {w : World} {g : Nat} {x : α} (h : Blk w g e (f x).toArray) : Arr f size w (some ⟨g, 0, none⟩) 1 [x] :=
 ⟨rfl, fun _ => ⟨g, 0, rfl, h.lt, fun k y hy j u hu => by
  have hk : k = 0 := by have := (List.getElem?_eq_some_iff.1 hy).1; simpa using this
  subst hk
  simp at hy; subst hy
  rw [show 0 + 0 * size + j = j by omega, h.cell]
  simpa using hu⟩⟩
end
end Go.Proofs.YtkoejeghihcmlaaGreat
namespace Go.Proofs.YtkoejeghihcmlaaGreat
/-- A load or a stand (source, hour, least, greatest, known, until), or a spell (source, kind, from, to, known, until). -/
structure Six where
 a : Int
 b : Int
 c : Int
 d : Int
 e : Int
 f : Int
deriving DecidableEq
def z6 : Six := ⟨0, 0, 0, 0, 0, 0⟩
/-- A range. -/
structure Rg where
 lo : Int
 hi : Int
deriving DecidableEq
def zR : Rg := ⟨0, 0⟩
/-- A plot. -/
structure Pl where
 lo : Int
 hi : Int
 loads : List Six
 stands : List Six
 spells : List Six
 geese : Int
def okTimes (k u : Int) : Bool := rng k 0 4166 && (decide (u = 0) || rng u (k + 1) 4166)
def okSh (lo hi : Int) : Bool := rng lo 0 hi && decide (hi ≤ 10000)
def isLoad (x : Six) : Bool := rng x.a 1 99999 && rng x.b 0 99999 && okSh x.c x.d && okTimes x.e x.f
def isSpell (x : Six) : Bool := rng x.a 1 99999 && (decide (x.b = 1) || decide (x.b = 2)) && rng x.c 0 99999 && rng x.d 0 99999 && decide (x.c ≤ x.d) && okTimes x.e x.f
def srcs (l : List Six) : List Int := l.map Six.a
/-- The j-th element is valid, behind the one before it, and its source was not seen. -/
def okAt (is : Six → Bool) (ks : List Int) (l : List Six) (j : Nat) : Bool :=
 is (l.getD j z6) && (decide (j = 0) || decide ((l.getD (j - 1) z6).a < (l.getD j z6).a)) && !((ks ++ srcs (l.take j)).contains (l.getD j z6).a)
/-- Elements are valid, few enough, in the order of their sources, none of which was seen. -/
def okL (is : Six → Bool) (ks : List Int) (l : List Six) : Bool := (List.range l.length).all (okAt is ks l) && decide (l.length ≤ 60)
def okPl (p : Pl) : Bool := okL isLoad [] p.loads && okL isLoad (srcs p.loads) p.stands && okL isSpell (srcs p.loads ++ srcs p.stands) p.spells && okSh p.lo p.hi && rng p.geese 0 60
/-- Whether something counts, as known on a day. -/
def cnt (x : Six) (known : Int) : Bool := decide (x.e ≤ known) && (decide (x.f = 0) || decide (known < x.f))
/-- An element, behind those whose hours are not greater. -/
def insH (x : Six) : List Six → List Six
 | [] => [x]
 | y :: l => if x.b < y.b then x :: y :: l else y :: insH x l
/-- By their hours, those with one hour as they came. -/
def srtH (l : List Six) : List Six := l.foldl (fun out x => insH x out) []
/-- The loads that count, by their hours; some says which ones are meant. -/
def pickL (p : Pl) (known : Int) (some : Int → Bool) : List Six :=
 (p.loads.filter fun x => cnt x known).map fun x => if some x.a then x else { x with c := 0, d := 10000 }
def lookL (p : Pl) (known : Int) (some : Int → Bool) : List Six := srtH (pickL p known some)
/-- How many loads were carted up to an hour. -/
def after (ls : List Six) (h : Int) : Nat := ls.countP fun x => decide (x.b ≤ h)
/-- What stood after i loads is within a range. -/
def nar (st : List Rg) (i : Nat) (r : Rg) : List Rg := st.set i ⟨max (st.getD i zR).lo r.lo, min (st.getD i zR).hi r.hi⟩
def stood0 (p : Pl) (n : Nat) : List Rg := ⟨p.lo, p.hi⟩ :: List.replicate n ⟨0, 10000⟩
def standsF (known : Int) (some : Int → Bool) (ls : List Six) (l : List Six) (st : List Rg) : List Rg :=
 l.foldl (fun st s => if cnt s known && some s.a then nar st (after ls s.b) ⟨s.c, s.d⟩ else st) st
/-- The ranges passed on: the first k steps forwards. -/
def fwdK (ls : List Six) (st : List Rg) : Nat → List Rg
 | 0 => st
 | k + 1 => nar (fwdK ls st k) (k + 1) ⟨((fwdK ls st k).getD k zR).lo - (ls.getD k z6).d, ((fwdK ls st k).getD k zR).hi - (ls.getD k z6).c⟩
/-- .. back: the last k steps. -/
def bwdK (ls : List Six) (st : List Rg) : Nat → List Rg
 | 0 => st
 | k + 1 => nar (bwdK ls st k) (ls.length - 1 - k) ⟨((bwdK ls st k).getD (ls.length - k) zR).lo + (ls.getD (ls.length - 1 - k) z6).c, ((bwdK ls st k).getD (ls.length - k) zR).hi + (ls.getD (ls.length - 1 - k) z6).d⟩
def settle (ls : List Six) (st : List Rg) : List Rg := bwdK ls (fwdK ls st ls.length) ls.length
def lookS (p : Pl) (known : Int) (some : Int → Bool) : List Rg :=
 settle (lookL p known some) (standsF known some (lookL p known some) p.stands (stood0 p (lookL p known some).length))
def sound (st : List Rg) : Bool := st.all fun r => decide (r.lo ≤ r.hi)
end Go.Proofs.YtkoejeghihcmlaaGreat
namespace Go.Proofs.YtkoejeghihcmlaaGreat
abbrev Lo (st : List Rg) (i : Nat) : Int := (st.getD i zR).lo
abbrev Hi (st : List Rg) (i : Nat) : Int := (st.getD i zR).hi
abbrev Ls (ls : List Six) (i : Nat) : Int := (ls.getD i z6).c
abbrev Gr (ls : List Six) (i : Nat) : Int := (ls.getD i z6).d
theorem nar_len (st : List Rg) (i : Nat) (r : Rg) : (nar st i r).length = st.length := by unfold nar; rw [List.length_set]
theorem nar_at {st : List Rg} {i : Nat} (hi : i < st.length) (r : Rg) (j : Nat) : (nar st i r).getD j zR = if j = i then ⟨max (Lo st i) r.lo, min (Hi st i) r.hi⟩ else st.getD j zR := by
 unfold nar
 rw [List.getD_eq_getElem?_getD, List.getElem?_set]
 by_cases e : i = j
 ·subst e; rw [if_pos rfl, if_pos hi, if_pos rfl]; rfl
 ·rw [if_neg e, if_neg (fun h => e h.symm), ← List.getD_eq_getElem?_getD]
theorem nar_lo {st : List Rg} {i : Nat} (hi : i < st.length) (r : Rg) (j : Nat) : Lo (nar st i r) j = if j = i then max (Lo st i) r.lo else Lo st j := by
 unfold Lo
 rw [nar_at hi]
 by_cases e : j = i
 ·rw [if_pos e, if_pos e]
 ·rw [if_neg e, if_neg e]
theorem nar_hi {st : List Rg} {i : Nat} (hi : i < st.length) (r : Rg) (j : Nat) : Hi (nar st i r) j = if j = i then min (Hi st i) r.hi else Hi st j := by
 unfold Hi
 rw [nar_at hi]
 by_cases e : j = i
 ·rw [if_pos e, if_pos e]
 ·rw [if_neg e, if_neg e]
theorem fwd_len (ls : List Six) (st : List Rg) : ∀ k, (fwdK ls st k).length = st.length
 | 0 => rfl
 | k + 1 => by unfold fwdK; rw [nar_len, fwd_len ls st k]
theorem bwd_len (ls : List Six) (st : List Rg) : ∀ k, (bwdK ls st k).length = st.length
 | 0 => rfl
 | k + 1 => by unfold bwdK; rw [nar_len, bwd_len ls st k]
theorem settle_len (ls : List Six) (st : List Rg) : (settle ls st).length = st.length := (bwd_len _ _ _).trans (fwd_len _ _ _)
/-- The ranges fit: each value of one has a partner in the next one, and the other way round (as far as there are any). -/
def Arc (ls : List Six) (st : List Rg) (i : Nat) : Prop :=
 Lo st (i + 1) + Ls ls i ≤ Lo st i ∧ Hi st i ≤ Hi st (i + 1) + Gr ls i ∧ Lo st i - Gr ls i ≤ Lo st (i + 1) ∧ Hi st (i + 1) ≤ Hi st i - Ls ls i
def FwdOk (ls : List Six) (st : List Rg) (i : Nat) : Prop := Lo st i - Gr ls i ≤ Lo st (i + 1) ∧ Hi st (i + 1) ≤ Hi st i - Ls ls i
theorem fwd_ok {ls : List Six} {st : List Rg} (hl : st.length = ls.length + 1) : ∀ k, k ≤ ls.length → ∀ i, i < k → FwdOk ls (fwdK ls st k) i
 | 0, _, i, hi => absurd hi (by omega)
 | k + 1, hk, i, hi => by
  have hlen := fwd_len ls st k
  unfold fwdK FwdOk
  rw [nar_lo (by omega), nar_lo (by omega), nar_hi (by omega), nar_hi (by omega)]
  by_cases e : i = k
  ·subst e
   rw [if_neg (show ¬ i = i + 1 by omega), if_pos rfl, if_neg (show ¬ i = i + 1 by omega), if_pos rfl]
   dsimp only
   unfold Lo Hi Ls Gr
   omega
  ·have := fwd_ok hl k (by omega) i (by omega)
   unfold FwdOk at this
   rw [if_neg (by omega), if_neg (by omega), if_neg (by omega), if_neg (by omega)]
   exact this
theorem bwd_ok {ls : List Six} {st : List Rg} (hl : st.length = ls.length + 1) (hf : ∀ i, i < ls.length → FwdOk ls st i) (hw : ∀ i, i < ls.length → Ls ls i ≤ Gr ls i) :
  ∀ k, k ≤ ls.length → (∀ i, i < ls.length → FwdOk ls (bwdK ls st k) i) ∧ ∀ i, ls.length - k ≤ i → i < ls.length → Arc ls (bwdK ls st k) i
 | 0, _ => ⟨hf, fun i h1 h2 => absurd h1 (by omega)⟩
 | k + 1, hk => by
  obtain ⟨h1, h2⟩ := bwd_ok hl hf hw k (by omega)
  have hlen := bwd_len ls st k
  have hlt : ls.length - 1 - k < (bwdK ls st k).length := by omega
  have hone : ls.length - 1 - k + 1 = ls.length - k := by omega
  have hstep : ∀ i, i < ls.length → FwdOk ls (bwdK ls st (k + 1)) i := by
   intro i hi
   have a1 := h1 i hi
   unfold FwdOk at a1 ⊢
   unfold bwdK
   rw [nar_lo hlt, nar_lo hlt, nar_hi hlt, nar_hi hlt]
   dsimp only
   by_cases e : i = ls.length - 1 - k
   ·have w := hw i hi
    rw [if_pos e, if_neg (by omega), if_neg (by omega), if_pos e]
    have e2 : ls.length - k = i + 1 := by omega
    rw [e2, ← e]
    unfold Lo Hi Ls Gr at *
    omega
   ·by_cases e2 : i + 1 = ls.length - 1 - k
    ·rw [if_neg e, if_pos e2, if_pos e2, if_neg e, ← e2]
     unfold Lo Hi Ls Gr at *
     omega
    ·rw [if_neg e, if_neg e2, if_neg e2, if_neg e]
     exact a1
  refine ⟨hstep, fun i hi1 hi2 => ?_⟩
  have hs := hstep i hi2
  refine ⟨?_, ?_, hs.1, hs.2⟩
  ·unfold bwdK
   rw [nar_lo hlt, nar_lo hlt]
   dsimp only
   by_cases e : i = ls.length - 1 - k
   ·rw [if_neg (by omega), if_pos e]
    have e2 : ls.length - k = i + 1 := by omega
    rw [e2, ← e]
    unfold Lo Ls
    omega
   ·rw [if_neg (by omega), if_neg e]
    exact (h2 i (by omega) hi2).1
  ·unfold bwdK
   rw [nar_hi hlt, nar_hi hlt]
   dsimp only
   by_cases e : i = ls.length - 1 - k
   ·rw [if_pos e, if_neg (by omega)]
    have e2 : ls.length - k = i + 1 := by omega
    rw [e2, ← e]
    unfold Hi Gr
    omega
   ·rw [if_neg e, if_neg (by omega)]
    exact (h2 i (by omega) hi2).2.1
/-- What was settled fits. -/
theorem settle_arc {ls : List Six} {st : List Rg} (hl : st.length = ls.length + 1) (hw : ∀ i, i < ls.length → Ls ls i ≤ Gr ls i) : ∀ i, i < ls.length → Arc ls (settle ls st) i := by
 have h1 := fwd_ok hl ls.length (Nat.le_refl _)
 have h2 := (bwd_ok (st := fwdK ls st ls.length) (by rw [fwd_len]; exact hl) h1 hw ls.length (Nat.le_refl _)).2
 exact fun i hi => h2 i (by omega) hi
/-- True numbers: what stood after each load. -/
def Tru (ls : List Six) (st : List Rg) (s : List Int) : Prop :=
 s.length = ls.length + 1 ∧ (∀ i, i < ls.length → Ls ls i ≤ s.getD i 0 - s.getD (i + 1) 0 ∧ s.getD i 0 - s.getD (i + 1) 0 ≤ Gr ls i) ∧ ∀ i, i ≤ ls.length → Lo st i ≤ s.getD i 0 ∧ s.getD i 0 ≤ Hi st i
theorem tru_nar {ls : List Six} {st : List Rg} {s : List Int} {i : Nat} {r : Rg} (hl : st.length = ls.length + 1) (hi : i ≤ ls.length) (h : Tru ls st s) (hr : r.lo ≤ s.getD i 0 ∧ s.getD i 0 ≤ r.hi) : Tru ls (nar st i r) s := by
 refine ⟨h.1, h.2.1, fun j hj => ?_⟩
 have h3 := h.2.2 j hj
 rw [nar_lo (by omega), nar_hi (by omega)]
 by_cases e : j = i
 ·subst e
  rw [if_pos rfl, if_pos rfl]
  omega
 ·rw [if_neg e, if_neg e]; exact h3
theorem nar_le {st : List Rg} {i : Nat} (hi : i < st.length) (r : Rg) (j : Nat) : Lo st j ≤ Lo (nar st i r) j ∧ Hi (nar st i r) j ≤ Hi st j := by
 rw [nar_lo hi, nar_hi hi]
 by_cases e : j = i
 ·subst e; rw [if_pos rfl, if_pos rfl]; omega
 ·rw [if_neg e, if_neg e]; omega
theorem tru_nar_back {ls : List Six} {st : List Rg} {s : List Int} {i : Nat} {r : Rg} (hl : st.length = ls.length + 1) (hi : i ≤ ls.length) (h : Tru ls (nar st i r) s) : Tru ls st s ∧ r.lo ≤ s.getD i 0 ∧ s.getD i 0 ≤ r.hi := by
 refine ⟨⟨h.1, h.2.1, fun j hj => ?_⟩, ?_⟩
 ·have h3 := h.2.2 j hj
  have := nar_le (st := st) (show i < st.length by omega) r j
  omega
 ·have h3 := h.2.2 i hi
  rw [nar_lo (by omega), nar_hi (by omega), if_pos rfl, if_pos rfl] at h3
  omega
theorem tru_fwd {ls : List Six} {st : List Rg} {s : List Int} (hl : st.length = ls.length + 1) (h : Tru ls st s) : ∀ k, k ≤ ls.length → Tru ls (fwdK ls st k) s
 | 0, _ => h
 | k + 1, hk => by
  have ih := tru_fwd hl h k (by omega)
  unfold fwdK
  refine tru_nar (by rw [fwd_len]; exact hl) (by omega) ih ?_
  have h1 := ih.2.1 k (by omega)
  have h2 := ih.2.2 k (by omega)
  dsimp only
  unfold Lo Hi Ls Gr at *
  omega
theorem tru_bwd {ls : List Six} {st : List Rg} {s : List Int} (hl : st.length = ls.length + 1) (h : Tru ls st s) : ∀ k, k ≤ ls.length → Tru ls (bwdK ls st k) s
 | 0, _ => h
 | k + 1, hk => by
  have ih := tru_bwd hl h k (by omega)
  unfold bwdK
  refine tru_nar (by rw [bwd_len]; exact hl) (by omega) ih ?_
  have h1 := ih.2.1 (ls.length - 1 - k) (by omega)
  have h2 := ih.2.2 (ls.length - k) (by omega)
  rw [show ls.length - 1 - k + 1 = ls.length - k by omega] at h1
  dsimp only
  unfold Lo Hi Ls Gr at *
  omega
theorem tru_settle {ls : List Six} {st : List Rg} {s : List Int} (hl : st.length = ls.length + 1) (h : Tru ls st s) : Tru ls (settle ls st) s :=
 tru_bwd (by rw [fwd_len]; exact hl) (tru_fwd hl h _ (Nat.le_refl _)) _ (Nat.le_refl _)
theorem fwd_le {ls : List Six} {st : List Rg} (hl : st.length = ls.length + 1) : ∀ k, k ≤ ls.length → ∀ j, Lo st j ≤ Lo (fwdK ls st k) j ∧ Hi (fwdK ls st k) j ≤ Hi st j
 | 0, _, j => ⟨Int.le_refl _, Int.le_refl _⟩
 | k + 1, hk, j => by
  have ih := fwd_le hl k (by omega) j
  have := nar_le (st := fwdK ls st k) (i := k + 1) (by rw [fwd_len]; omega) ⟨((fwdK ls st k).getD k zR).lo - (ls.getD k z6).d, ((fwdK ls st k).getD k zR).hi - (ls.getD k z6).c⟩ j
  unfold fwdK
  omega
theorem bwd_le {ls : List Six} {st : List Rg} (hl : st.length = ls.length + 1) : ∀ k, k ≤ ls.length → ∀ j, Lo st j ≤ Lo (bwdK ls st k) j ∧ Hi (bwdK ls st k) j ≤ Hi st j
 | 0, _, j => ⟨Int.le_refl _, Int.le_refl _⟩
 | k + 1, hk, j => by
  have ih := bwd_le hl k (by omega) j
  have := nar_le (st := bwdK ls st k) (i := ls.length - 1 - k) (by rw [bwd_len]; omega) ⟨((bwdK ls st k).getD (ls.length - k) zR).lo + (ls.getD (ls.length - 1 - k) z6).c, ((bwdK ls st k).getD (ls.length - k) zR).hi + (ls.getD (ls.length - 1 - k) z6).d⟩ j
  unfold bwdK
  omega
theorem settle_le {ls : List Six} {st : List Rg} (hl : st.length = ls.length + 1) (j : Nat) : Lo st j ≤ Lo (settle ls st) j ∧ Hi (settle ls st) j ≤ Hi st j := by
 have h1 := fwd_le hl _ (Nat.le_refl _) j
 have h2 := bwd_le (st := fwdK ls st ls.length) (by rw [fwd_len]; exact hl) _ (Nat.le_refl _) j
 unfold settle
 omega
theorem settle_tru {ls : List Six} {st : List Rg} {s : List Int} (hl : st.length = ls.length + 1) (h : Tru ls (settle ls st) s) : Tru ls st s :=
 ⟨h.1, h.2.1, fun j hj => by have h1 := h.2.2 j hj; have h2 := settle_le (st := st) hl j; omega⟩
/-- Each value of a settled, sound chain is one of true numbers: the numbers that 'pick' takes. -/
def pickF (ls : List Six) (st : List Rg) (at_ : Nat) (v : Int) : Nat → Int
 | 0 => v
 | k + 1 => max (Lo st (at_ + k + 1)) (pickF ls st at_ v k - Gr ls (at_ + k))
def pickB (ls : List Six) (st : List Rg) (at_ : Nat) (v : Int) : Nat → Int
 | 0 => v
 | k + 1 => max (Lo st (at_ - 1 - k)) (pickB ls st at_ v k + Ls ls (at_ - 1 - k))
theorem pickF_succ (ls : List Six) (st : List Rg) (at_ : Nat) (v : Int) (k : Nat) : pickF ls st at_ v (k + 1) = max (Lo st (at_ + k + 1)) (pickF ls st at_ v k - Gr ls (at_ + k)) := rfl
theorem pickB_succ (ls : List Six) (st : List Rg) (at_ : Nat) (v : Int) (k : Nat) : pickB ls st at_ v (k + 1) = max (Lo st (at_ - 1 - k)) (pickB ls st at_ v k + Ls ls (at_ - 1 - k)) := rfl
def pickS (ls : List Six) (st : List Rg) (at_ : Nat) (v : Int) : List Int :=
 (List.range (ls.length + 1)).map fun i => if i < at_ then pickB ls st at_ v (at_ - i) else pickF ls st at_ v (i - at_)
theorem pickS_at {ls : List Six} {st : List Rg} {at_ : Nat} {v : Int} {i : Nat} (hi : i ≤ ls.length) : (pickS ls st at_ v).getD i 0 = if i < at_ then pickB ls st at_ v (at_ - i) else pickF ls st at_ v (i - at_) := by
 unfold pickS
 rw [List.getD_eq_getElem?_getD, List.getElem?_map, List.getElem?_range (by omega)]
 rfl
theorem pickF_in {ls : List Six} {st : List Rg} (ha : ∀ i, i < ls.length → Arc ls st i) (hs : ∀ i, i ≤ ls.length → Lo st i ≤ Hi st i) {at_ : Nat} {v : Int} (h1 : Lo st at_ ≤ v) (h2 : v ≤ Hi st at_) :
  ∀ k, at_ + k ≤ ls.length → Lo st (at_ + k) ≤ pickF ls st at_ v k ∧ pickF ls st at_ v k ≤ Hi st (at_ + k)
 | 0, _ => ⟨h1, h2⟩
 | k + 1, hk => by
  have ih := pickF_in ha hs h1 h2 k (by omega)
  have a := ha (at_ + k) (by omega)
  have s := hs (at_ + k + 1) (by omega)
  unfold Arc at a
  unfold pickF
  rw [show at_ + (k + 1) = at_ + k + 1 by omega]
  omega
theorem pickB_in {ls : List Six} {st : List Rg} (ha : ∀ i, i < ls.length → Arc ls st i) (hs : ∀ i, i ≤ ls.length → Lo st i ≤ Hi st i) {at_ : Nat} {v : Int} (hat : at_ ≤ ls.length) (h1 : Lo st at_ ≤ v) (h2 : v ≤ Hi st at_) :
  ∀ k, k ≤ at_ → Lo st (at_ - k) ≤ pickB ls st at_ v k ∧ pickB ls st at_ v k ≤ Hi st (at_ - k)
 | 0, _ => ⟨h1, h2⟩
 | k + 1, hk => by
  have ih := pickB_in ha hs hat h1 h2 k (by omega)
  have a := ha (at_ - 1 - k) (by omega)
  have s := hs (at_ - 1 - k) (by omega)
  unfold Arc at a
  rw [show at_ - 1 - k + 1 = at_ - k by omega] at a
  unfold pickB
  rw [show at_ - (k + 1) = at_ - 1 - k by omega]
  omega
theorem pick_tru {ls : List Six} {st : List Rg} (ha : ∀ i, i < ls.length → Arc ls st i) (hw : ∀ i, i < ls.length → Ls ls i ≤ Gr ls i) (hs : ∀ i, i ≤ ls.length → Lo st i ≤ Hi st i) {at_ : Nat} {v : Int} (hat : at_ ≤ ls.length) (h1 : Lo st at_ ≤ v) (h2 : v ≤ Hi st at_) :
  Tru ls st (pickS ls st at_ v) ∧ (pickS ls st at_ v).getD at_ 0 = v := by
 refine ⟨⟨by unfold pickS; simp, fun i hi => ?_, fun i hi => ?_⟩, by rw [pickS_at hat, if_neg (by omega), Nat.sub_self]; rfl⟩
 ·rw [pickS_at (by omega), pickS_at (by omega)]
  have a := ha i hi
  have w := hw i hi
  unfold Arc at a
  by_cases e : i < at_
  ·have b := pickB_in ha hs hat h1 h2 (at_ - (i + 1)) (by omega)
   rw [show at_ - (at_ - (i + 1)) = i + 1 by omega] at b
   have eB : pickB ls st at_ v (at_ - i) = max (Lo st i) (pickB ls st at_ v (at_ - (i + 1)) + Ls ls i) := by
    rw [show at_ - i = (at_ - (i + 1)) + 1 by omega, pickB_succ, show at_ - 1 - (at_ - (i + 1)) = i by omega]
   have eN : (if i + 1 < at_ then pickB ls st at_ v (at_ - (i + 1)) else pickF ls st at_ v (i + 1 - at_)) = pickB ls st at_ v (at_ - (i + 1)) := by
    by_cases e2 : i + 1 < at_
    ·rw [if_pos e2]
    ·rw [if_neg e2, show at_ - (i + 1) = 0 by omega, show i + 1 - at_ = 0 by omega]; rfl
   rw [if_pos e, eN, eB]
   omega
  ·have b := pickF_in ha hs h1 h2 (i - at_) (by omega)
   rw [show at_ + (i - at_) = i by omega] at b
   have eF : pickF ls st at_ v (i + 1 - at_) = max (Lo st (i + 1)) (pickF ls st at_ v (i - at_) - Gr ls i) := by
    rw [show i + 1 - at_ = (i - at_) + 1 by omega, pickF_succ, show at_ + (i - at_) = i by omega]
   rw [if_neg e, if_neg (by omega), eF]
   omega
 ·rw [pickS_at hi]
  by_cases e : i < at_
  ·have b := pickB_in ha hs hat h1 h2 (at_ - i) (by omega)
   rw [show at_ - (at_ - i) = i by omega] at b
   rw [if_pos e]; exact b
  ·have b := pickF_in ha hs h1 h2 (i - at_) (by omega)
   rw [show at_ + (i - at_) = i by omega] at b
   rw [if_neg e]; exact b
theorem sound_iff {st : List Rg} : sound st = true ↔ ∀ i, i < st.length → Lo st i ≤ Hi st i := by
 unfold sound
 rw [List.all_eq_true]
 constructor
 ·intro h i hi
  have := h (st.getD i zR) (List.mem_of_getElem? (by rw [List.getD_eq_getElem?_getD, List.getElem?_eq_getElem hi]; rfl))
  exact of_decide_eq_true this
 ·intro h r hr
  obtain ⟨i, hi, rfl⟩ := List.getElem_of_mem hr
  have := h i hi
  unfold Lo Hi at this
  rw [List.getD_eq_getElem?_getD, List.getElem?_eq_getElem hi] at this
  exact decide_eq_true this
/-- There are true numbers exactly if what was settled is sound. -/
theorem sound_tru {ls : List Six} {st : List Rg} (hl : st.length = ls.length + 1) (hw : ∀ i, i < ls.length → Ls ls i ≤ Gr ls i) : sound (settle ls st) = true ↔ ∃ s, Tru ls st s := by
 constructor
 ·intro h
  have hs := sound_iff.1 h
  have := pick_tru (settle_arc hl hw) hw (fun i hi => hs i (by rw [settle_len]; omega)) (at_ := 0) (v := Lo (settle ls st) 0) (Nat.zero_le _) (Int.le_refl _) (hs 0 (by rw [settle_len]; omega))
  exact ⟨_, settle_tru hl this.1⟩
 ·rintro ⟨s, hs⟩
  rw [sound_iff]
  intro i hi
  rw [settle_len] at hi
  have := (tru_settle hl hs).2.2 i (by omega)
  omega
end Go.Proofs.YtkoejeghihcmlaaGreat
namespace Go.Proofs.YtkoejeghihcmlaaGreat
open Go.RowKit Go.Shelf
def scells (x : Six) : List Value := [.int .i64 x.a, .int .i64 x.b, .int .i64 x.c, .int .i64 x.d, .int .i64 x.e, .int .i64 x.f]
theorem scells_len (x : Six) : (scells x).length = 6 := rfl
/-- A load, a stand or a spell (a struct's cells lie flat). -/
abbrev sv (x : Six) : Value := .agg #[.int .i64 x.a, .int .i64 x.b, .int .i64 x.c, .int .i64 x.d, .int .i64 x.e, .int .i64 x.f]
abbrev rv (r : Rg) : Value := .agg #[.int .i64 r.lo, .int .i64 r.hi]
def rcells (r : Rg) : List Value := [.int .i64 r.lo, .int .i64 r.hi]
theorem within_any (n lo hi : Int) (w : World) :
  Calls Tryz.prog 145 #[.int .i64 n, .int .i64 lo, .int .i64 hi] w fun e w' => e = .returned (.bool (rng n lo hi)) ∧ w = w' := by
 unfold rng
 by_cases h1 : lo ≤ n
 ·go_enter Tryz.func145, Tryz.ntmps145
  go_wp2
  go_ret
  exact ⟨by simp [h1], rfl⟩
 ·go_enter Tryz.func145, Tryz.ntmps145
  go_wp2
  go_ret
  exact ⟨by simp; omega, rfl⟩
theorem isSource_any (n : Int) (w : World) : Calls Tryz.prog 147 #[.int .i64 n] w fun e w' => e = .returned (.bool (rng n 1 99999)) ∧ w = w' := by
 go_enter Tryz.func147, Tryz.ntmps147
 go_wp2_with (go_at_call 145; refine (within_any _ _ _ _).mono ?_; rintro e w' ⟨rfl, rfl⟩)
 go_ret
 exact ⟨rfl, rfl⟩
theorem isHour_any (n : Int) (w : World) : Calls Tryz.prog 148 #[.int .i64 n] w fun e w' => e = .returned (.bool (rng n 0 99999)) ∧ w = w' := by
 go_enter Tryz.func148, Tryz.ntmps148
 go_wp2_with (go_at_call 145; refine (within_any _ _ _ _).mono ?_; rintro e w' ⟨rfl, rfl⟩)
 go_ret
 exact ⟨rfl, rfl⟩
theorem isDay_any (n : Int) (w : World) : Calls Tryz.prog 158 #[.int .i64 n] w fun e w' => e = .returned (.bool (rng n 0 4166)) ∧ w = w' := by
 go_enter Tryz.func158, Tryz.ntmps158
 go_wp2_with (go_at_call 145; refine (within_any _ _ _ _).mono ?_; rintro e w' ⟨rfl, rfl⟩)
 go_ret
 exact ⟨rfl, rfl⟩
theorem areTimes_any (k u : Int) (w : World) : Calls Tryz.prog 149 #[.int .i64 k, .int .i64 u] w fun e w' => e = .returned (.bool (okTimes k u)) ∧ w = w' := by
 unfold okTimes
 cases h1 : rng k 0 4166 with
 | false =>
  go_enter Tryz.func149, Tryz.ntmps149
  go_wp2_with (go_at_call 158; refine (isDay_any _ _).mono ?_; rintro e w' ⟨rfl, rfl⟩)
  go_ret
  exact ⟨rfl, rfl⟩
 | true =>
  have hk := h1
  unfold rng at hk
  simp only [Bool.and_eq_true, decide_eq_true_eq] at hk
  by_cases h2 : u = 0
  ·subst h2
   go_enter Tryz.func149, Tryz.ntmps149
   go_wp2_with (go_at_call 158; refine (isDay_any _ _).mono ?_; rintro e w' ⟨rfl, rfl⟩)
   go_ret
   exact ⟨rfl, rfl⟩
  ·have e2 : (u == 0) = false := beq_eq_false_iff_ne.2 h2
   have e3 : decide (u = 0) = false := decide_eq_false h2
   rw [e3]
   go_enter Tryz.func149, Tryz.ntmps149
   go_wp2_with (first
    | (go_at_call 158; refine (isDay_any _ _).mono ?_; rintro e w' ⟨rfl, rfl⟩)
    | (go_at_call 145; refine (within_any _ _ _ _).mono ?_; rintro e w' ⟨rfl, rfl⟩))
   go_ret
   exact ⟨rfl, rfl⟩
theorem areSheaves_any (lo hi : Int) (w : World) : Calls Tryz.prog 144 #[.agg #[.int .i64 lo, .int .i64 hi]] w fun e w' => e = .returned (.bool (okSh lo hi)) ∧ Below w.heap.size w w' := by
 unfold okSh
 cases h1 : rng lo 0 hi
 all_goals
  go_enter Tryz.func144, Tryz.ntmps144
  go_wp2_with (go_at_call 145; refine (within_any _ _ _ _).mono ?_; rintro e w' ⟨rfl, rfl⟩)
  go_ret
  exact ⟨by simp, (Below.refl _ _).alloc (Nat.le_refl _) _⟩
theorem counts_any (k u on : Int) (w : World) : Calls Tryz.prog 159 #[.int .i64 k, .int .i64 u, .int .i64 on] w fun e w' => e = .returned (.bool (decide (k ≤ on) && (decide (u = 0) || decide (on < u)))) ∧ w = w' := by
 by_cases h1 : k ≤ on
 ·by_cases h2 : u = 0
  ·subst h2
   go_enter Tryz.func159, Tryz.ntmps159
   go_wp2
   go_ret
   exact ⟨by simp [h1], rfl⟩
  ·have e2 : (u == 0) = false := beq_eq_false_iff_ne.2 h2
   go_enter Tryz.func159, Tryz.ntmps159
   go_wp2
   go_ret
   exact ⟨by simp [h1, h2], rfl⟩
 ·go_enter Tryz.func159, Tryz.ntmps159
  go_wp2
  go_ret
  exact ⟨by simp; intro h; exact absurd h (by omega), rfl⟩
theorem cnt_any (x : Six) (on : Int) (w : World) : Calls Tryz.prog 159 #[.int .i64 x.e, .int .i64 x.f, .int .i64 on] w fun e w' => e = .returned (.bool (cnt x on)) ∧ w = w' := counts_any x.e x.f on w
set_option maxRecDepth 100000 in
set_option maxHeartbeats 4000000 in
theorem checkLoad_any (x : Six) (w : World) : Calls Tryz.prog 67 #[sv x] w fun e w' => e = .returned (.int .i64 (err (isLoad x) 10)) ∧ Below w.heap.size w w' := by
 unfold err isLoad
 have T1 := isSource_any x.a
 have T2 := isHour_any x.b
 have T3 := areSheaves_any x.c x.d
 have T4 := areTimes_any x.e x.f
 generalize rng x.a 1 99999 = b1 at T1 ⊢
 generalize rng x.b 0 99999 = b2 at T2 ⊢
 generalize okSh x.c x.d = b3 at T3 ⊢
 generalize okTimes x.e x.f = b4 at T4 ⊢
 cases b1 <;> cases b2 <;> cases b3 <;> cases b4
 all_goals
  have H1 := Lib.hid T1
  have H2 := Lib.hid T2
  have H3 := Lib.hid T3
  have H4 := Lib.hid T4
  clear T1 T2 T3 T4
  go_enter Tryz.func67, Tryz.ntmps67
  go_upto_region 1 with fail
  obtain ⟨W1, hW1⟩ : ∃ W1, w.alloc (.cells #[.int .i64 x.a, .int .i64 x.b, .int .i64 x.c, .int .i64 x.d, .int .i64 x.e, .int .i64 x.f] 103) = W1 := ⟨_, rfl⟩
  have g0 : Below w.heap.size w W1 := by rw [← hW1]; exact one_more _ _
  have b1 : Blk W1 w.heap.size 103 #[.int .i64 x.a, .int .i64 x.b, .int .i64 x.c, .int .i64 x.d, .int .i64 x.e, .int .i64 x.f] := by rw [← hW1]; exact Blk.new _ _ _
  rw [hW1]
  have G0 := Lib.hid g0
  have B1 := Lib.hid b1
  have c0 := b1.cell 0
  have c1 := b1.cell 1
  have c2 := b1.cell 2
  have c3 := b1.cell 3
  have c4 := b1.cell 4
  have c5 := b1.cell 5
  clear hW1 g0 b1
  go_wp2_with (first
   | (go_at_call 147; (with_reducible refine (H1.out _).mono ?_); rintro e w' ⟨rfl, rfl⟩)
   | (go_at_call 148; (with_reducible refine (H2.out _).mono ?_); rintro e w' ⟨rfl, rfl⟩)
   | (go_at_call 144; (with_reducible refine (H3.out _).mono ?_); rintro e w1 ⟨rfl, g1⟩; have m0 := (B1.out.ext g1).cell 4; have m1 := (B1.out.ext g1).cell 5; have G1 := Lib.hid (G0.out.trans (g1.mono G0.out.size)); clear g1)
   | (go_at_call 149; (with_reducible refine (H4.out _).mono ?_); rintro e w' ⟨rfl, rfl⟩))
  go_ret
  first
   | exact ⟨rfl, G1.out⟩
   | exact ⟨rfl, G0.out⟩
set_option maxRecDepth 100000 in
set_option maxHeartbeats 4000000 in
theorem checkStand_any (x : Six) (w : World) : Calls Tryz.prog 69 #[sv x] w fun e w' => e = .returned (.int .i64 (err (isLoad x) 11)) ∧ Below w.heap.size w w' := by
 unfold err isLoad
 have T1 := isSource_any x.a
 have T2 := isHour_any x.b
 have T3 := areSheaves_any x.c x.d
 have T4 := areTimes_any x.e x.f
 generalize rng x.a 1 99999 = b1 at T1 ⊢
 generalize rng x.b 0 99999 = b2 at T2 ⊢
 generalize okSh x.c x.d = b3 at T3 ⊢
 generalize okTimes x.e x.f = b4 at T4 ⊢
 cases b1 <;> cases b2 <;> cases b3 <;> cases b4
 all_goals
  have H1 := Lib.hid T1
  have H2 := Lib.hid T2
  have H3 := Lib.hid T3
  have H4 := Lib.hid T4
  clear T1 T2 T3 T4
  go_enter Tryz.func69, Tryz.ntmps69
  go_upto_region 1 with fail
  obtain ⟨W1, hW1⟩ : ∃ W1, w.alloc (.cells #[.int .i64 x.a, .int .i64 x.b, .int .i64 x.c, .int .i64 x.d, .int .i64 x.e, .int .i64 x.f] 105) = W1 := ⟨_, rfl⟩
  have g0 : Below w.heap.size w W1 := by rw [← hW1]; exact one_more _ _
  have b1 : Blk W1 w.heap.size 105 #[.int .i64 x.a, .int .i64 x.b, .int .i64 x.c, .int .i64 x.d, .int .i64 x.e, .int .i64 x.f] := by rw [← hW1]; exact Blk.new _ _ _
  rw [hW1]
  have G0 := Lib.hid g0
  have B1 := Lib.hid b1
  have c0 := b1.cell 0
  have c1 := b1.cell 1
  have c2 := b1.cell 2
  have c3 := b1.cell 3
  have c4 := b1.cell 4
  have c5 := b1.cell 5
  clear hW1 g0 b1
  go_wp2_with (first
   | (go_at_call 147; (with_reducible refine (H1.out _).mono ?_); rintro e w' ⟨rfl, rfl⟩)
   | (go_at_call 148; (with_reducible refine (H2.out _).mono ?_); rintro e w' ⟨rfl, rfl⟩)
   | (go_at_call 144; (with_reducible refine (H3.out _).mono ?_); rintro e w1 ⟨rfl, g1⟩; have m0 := (B1.out.ext g1).cell 4; have m1 := (B1.out.ext g1).cell 5; have G1 := Lib.hid (G0.out.trans (g1.mono G0.out.size)); clear g1)
   | (go_at_call 149; (with_reducible refine (H4.out _).mono ?_); rintro e w' ⟨rfl, rfl⟩))
  go_ret
  first
   | exact ⟨rfl, G1.out⟩
   | exact ⟨rfl, G0.out⟩
set_option maxRecDepth 100000 in
set_option maxHeartbeats 8000000 in
theorem checkSpell_any (x : Six) (w : World) : Calls Tryz.prog 71 #[sv x] w fun e w' => e = .returned (.int .i64 (err (isSpell x) 12)) ∧ Below w.heap.size w w' := by
 unfold err isSpell
 have T1 := isSource_any x.a
 have T2 := isHour_any x.c
 have T3 := isHour_any x.d
 have T4 := areTimes_any x.e x.f
 generalize rng x.a 1 99999 = b1 at T1 ⊢
 generalize rng x.c 0 99999 = b2 at T2 ⊢
 generalize rng x.d 0 99999 = b3 at T3 ⊢
 generalize okTimes x.e x.f = b4 at T4 ⊢
 obtain ⟨k1, hk1⟩ : ∃ k1, decide (x.b = 1) = k1 := ⟨_, rfl⟩
 obtain ⟨k2, hk2⟩ : ∃ k2, decide (x.b = 2) = k2 := ⟨_, rfl⟩
 obtain ⟨k3, hk3⟩ : ∃ k3, decide (x.c ≤ x.d) = k3 := ⟨_, rfl⟩
 have e1 : (x.b == 1) = k1 := by rw [← hk1]; rfl
 have e2 : (x.b == 2) = k2 := by rw [← hk2]; rfl
 have e3 : decide (x.d < x.c) = !k3 := by rw [← hk3]; by_cases h : x.c ≤ x.d <;> simp [h] <;> omega
 rw [hk1, hk2, hk3]
 clear hk1 hk2 hk3
 have H1 := Lib.hid T1
 have H2 := Lib.hid T2
 have H3 := Lib.hid T3
 have H4 := Lib.hid T4
 clear T1 T2 T3 T4
 cases b1 <;> cases k1 <;> cases k2 <;> cases b2 <;> cases b3 <;> cases k3 <;> cases b4
 all_goals
  go_enter Tryz.func71, Tryz.ntmps71
  go_wp2_with (first
   | (go_at_call 147; (with_reducible refine (H1.out _).mono ?_); rintro e w' ⟨rfl, rfl⟩)
   | (go_at_call 148; (with_reducible refine (H2.out _).mono ?_); rintro e w' ⟨rfl, rfl⟩)
   | (go_at_call 148; (with_reducible refine (H3.out _).mono ?_); rintro e w' ⟨rfl, rfl⟩)
   | (go_at_call 149; (with_reducible refine (H4.out _).mono ?_); rintro e w' ⟨rfl, rfl⟩))
  go_ret
  exact ⟨rfl, one_more _ _⟩
theorem loadSource_any (x : Six) (w : World) : Calls Tryz.prog 139 #[sv x] w fun e w' => e = .returned (.int .i64 x.a) ∧ Below w.heap.size w w' := by
 go_enter Tryz.func139, Tryz.ntmps139
 go_wp2
 go_ret
 exact ⟨rfl, one_more _ _⟩
theorem standSource_any (x : Six) (w : World) : Calls Tryz.prog 141 #[sv x] w fun e w' => e = .returned (.int .i64 x.a) ∧ Below w.heap.size w w' := by
 go_enter Tryz.func141, Tryz.ntmps141
 go_wp2
 go_ret
 exact ⟨rfl, one_more _ _⟩
theorem spellSource_any (x : Six) (w : World) : Calls Tryz.prog 143 #[sv x] w fun e w' => e = .returned (.int .i64 x.a) ∧ Below w.heap.size w w' := by
 go_enter Tryz.func143, Tryz.ntmps143
 go_wp2
 go_ret
 exact ⟨rfl, one_more _ _⟩
def ans (may mayNot : Bool) : Int := if mayNot = false then 1 else if may = false then 0 else 2
theorem answer_any (may mayNot : Bool) (w : World) : Calls Tryz.prog 77 #[.bool may, .bool mayNot] w fun e w' => e = .returned (.int .i64 (ans may mayNot)) ∧ w = w' := by
 cases may <;> cases mayNot
 all_goals
  go_enter Tryz.func77, Tryz.ntmps77
  go_wp2
  go_ret
  exact ⟨rfl, rfl⟩
end Go.Proofs.YtkoejeghihcmlaaGreat

namespace Go.Proofs.YtkoejeghihcmlaaGreat
open Go.RowKit Go.Shelf Go.Maps
theorem getD_six {l : List Six} {i : Nat} (hi : i < l.length) : l[i]? = some (l.getD i z6) := by rw [List.getD_eq_getElem?_getD, List.getElem?_eq_getElem hi]; rfl
theorem getD_six_of {l : List Six} {i : Nat} {x : Six} (h : l[i]? = some x) : l.getD i z6 = x := by rw [List.getD_eq_getElem?_getD, h]; rfl
/-- A map of the call's own: the sources that were seen. -/
def Seen (w : World) (b m : Nat) (ks : List Int) : Prop :=
 ∃ (n : Nat) (D : DataW Unit), n ≤ m ∧ w.ownsMap Tryz.prog 3 (plainElem Tryz.prog 4) b n D ∧ ∀ i : Int, 0 ≤ i → i ≤ 100000 → D.atKey (.int .i64 i) (.lit (.bool false)) = .lit (.bool (ks.contains i))
theorem lit_wf {i : Int} (h0 : 0 ≤ i) (h1 : i ≤ 100000) : (Lit.int .i64 i).wf = true := by
 have e1 : IntKind.i64.min = -9223372036854775808 := by decide
 have e2 : IntKind.i64.max = 9223372036854775807 := by decide
 show (decide (IntKind.i64.min ≤ i) && decide (i ≤ IntKind.i64.max)) = true
 rw [e1, e2]
 simp only [Bool.and_eq_true, decide_eq_true_eq]
 omega
set_option maxRecDepth 100000 in
theorem plain_bool {v : Value} {b : Bool} {ps : List MemPlace} (h : plainElem (H := Unit) Tryz.prog 4 v = some (.lit (.bool b), ps)) : v = .bool b := by
 unfold plainElem at h
 rw [Tryz.underlying4] at h
 cases v <;> simp at h
 rw [h.1]
theorem six_at {w : World} {A : Option Addr} {n : Nat} {xs : List Six} (h : Arr scells 6 w A n xs) {k : Nat} (hk : k < n) :
  ∃ b o, A = some ⟨b, o, none⟩ ∧ b < w.heap.size ∧ xs[k]? = some (xs.getD k z6) ∧ ∀ w', Below w.heap.size w w' → w'.cell? ⟨b, o + k * 6, none⟩ = some (.int .i64 (xs.getD k z6).a) ∧ w'.cell? ⟨b, o + k * 6 + 1, none⟩ = some (.int .i64 (xs.getD k z6).b) ∧
   w'.cell? ⟨b, o + k * 6 + 2, none⟩ = some (.int .i64 (xs.getD k z6).c) ∧ w'.cell? ⟨b, o + k * 6 + 3, none⟩ = some (.int .i64 (xs.getD k z6).d) ∧ w'.cell? ⟨b, o + k * 6 + 4, none⟩ = some (.int .i64 (xs.getD k z6).e) ∧ w'.cell? ⟨b, o + k * 6 + 5, none⟩ = some (.int .i64 (xs.getD k z6).f) := by
 obtain ⟨b, o, x, rfl, hb, hx, hc⟩ := h.at hk
 have e := getD_six_of hx
 rw [e]
 exact ⟨b, o, rfl, hb, hx, fun w' hw => ⟨hc w' hw 0 _ rfl, hc w' hw 1 _ rfl, hc w' hw 2 _ rfl, hc w' hw 3 _ rfl, hc w' hw 4 _ rfl, hc w' hw 5 _ rfl⟩⟩
theorem Seen.lt {w : World} {b m : Nat} {ks : List Int} (h : Seen w b m ks) : b < w.heap.size := by
 obtain ⟨n, D, -, h2, -⟩ := h
 exact h2.lt
theorem Seen.ne {w : World} {b m : Nat} {ks : List Int} (h : Seen w b m ks) {p : Addr} {v : Value} (hc : w.cell? p = some v) : p.block ≠ b := by
 obtain ⟨n, D, -, ⟨es, clock, hb, -⟩, -⟩ := h
 rintro rfl
 unfold World.cell? at hc
 simp [hb] at hc
theorem okAt_succ {is : Six → Bool} {ks : List Int} {l : List Six} {k : Nat} (h : ∀ j, j < k → okAt is ks l j = true) (hk : okAt is ks l k = true) : ∀ j, j < k + 1 → okAt is ks l j = true := by
 intro j hj
 by_cases e : j = k
 ·subst e; exact hk
 ·exact h j (by omega)
theorem okL_no {is : Six → Bool} {ks : List Int} {l : List Six} {k : Nat} (hk : k < l.length) (h : okAt is ks l k = false) : okL is ks l = false := by
 unfold okL
 rw [Bool.and_eq_false_iff]
 left
 rw [List.all_eq_false]
 exact ⟨k, List.mem_range.2 hk, by rw [h]; decide⟩
theorem okL_yes {is : Six → Bool} {ks : List Int} {l : List Six} (h : ∀ j, j < l.length → okAt is ks l j = true) : okL is ks l = decide (l.length ≤ 60) := by
 unfold okL
 rw [List.all_eq_true.2 (fun j hj => h j (List.mem_range.1 hj)), Bool.true_and]
theorem srcs_take {l : List Six} {k : Nat} {x : Six} (hx : l[k]? = some x) : srcs (l.take (k + 1)) = srcs (l.take k) ++ [x.a] := by
 unfold srcs
 rw [List.take_add_one, hx]
 simp
theorem Seen.ext {w w' : World} {b m : Nat} {ks : List Int} (h : Seen w b m ks) (g : Below w.heap.size w w') : Seen w' b m ks := by
 obtain ⟨n, D, h1, h2, h3⟩ := h
 exact ⟨n, D, h1, h2.kept (row := none) ⟨g.os, g.tape, g.output, g.size, fun k hk _ => g.block k hk⟩ (by simp), h3⟩
theorem Seen.look {w : World} {b m : Nat} {ks : List Int} (h : Seen w b m ks) {i : Int} (h0 : 0 ≤ i) (h1 : i ≤ 100000) :
  (Instr.lookup 213 (.map (some b)) (.int .i64 i) false).run Tryz.prog w = .ok (.bool (ks.contains i)) w := by
 obtain ⟨n, D, -, h2, h3⟩ := h
 obtain ⟨v, ps, hrun, hv⟩ := h2.lookup (int_keyed Tryz.underlying3) Tryz.underlying213 (Tryz.zeroValue4 _) (plainElem_bool Tryz.underlying4 false) (keyOf_int_mk Tryz.underlying3 (lit_wf h0 h1))
 rw [h3 i h0 h1] at hv
 rw [plain_bool hv] at hrun
 exact hrun
theorem Seen.put {w' : World} {b m n : Nat} {ks : List Int} {D : DataW Unit} {i : Int} (h0 : 0 ≤ i) (h1 : i ≤ 100000) (hn : n ≤ m) (hm : IsMap D) (h3 : ∀ i : Int, 0 ≤ i → i ≤ 100000 → D.atKey (.int .i64 i) (.lit (.bool false)) = .lit (.bool (ks.contains i)))
  (h : w'.ownsMap Tryz.prog 3 (plainElem Tryz.prog 4) b (n + 1) (D.put (.int .i64 i) (.lit (.bool true)))) : Seen w' b (m + 1) (ks ++ [i]) := by
 refine ⟨n + 1, _, by omega, h, fun j hj0 hj1 => ?_⟩
 by_cases e : j = i
 ·subst e
  rw [atKey_put_same hm (by unfold WideAt.IsKeyLit; trivial)]
  simp
 ·rw [atKey_put_other (by intro e2; cases e2; exact e rfl), h3 j hj0 hj1]
  rw [show (ks ++ [i]).contains j = ks.contains j by rw [Bool.eq_iff_iff]; simp [e]]
theorem load_src {x : Six} (h : isLoad x = true) : 1 ≤ x.a ∧ x.a ≤ 99999 := by
 unfold isLoad rng at h
 simp only [Bool.and_eq_true, decide_eq_true_eq] at h
 omega
theorem spell_src {x : Six} (h : isSpell x = true) : 1 ≤ x.a ∧ x.a ≤ 99999 := by
 unfold isSpell rng at h
 simp only [Bool.and_eq_true, decide_eq_true_eq] at h
 omega
theorem okAt_parts {is : Six → Bool} {ks : List Int} {l : List Six} {j : Nat} (h : okAt is ks l j = true) : is (l.getD j z6) = true ∧ (j = 0 ∨ (l.getD (j - 1) z6).a < (l.getD j z6).a) ∧ (l.getD j z6).a ∉ ks ++ srcs (l.take j) := by
 unfold okAt at h
 simp only [Bool.and_eq_true, Bool.or_eq_true, decide_eq_true_eq, Bool.not_eq_true'] at h
 refine ⟨h.1.1, h.1.2, fun hm => ?_⟩
 have := List.contains_iff_mem.2 hm
 rw [this] at h
 simp at h
theorem okAt_ge {is : Six → Bool} (hs : ∀ x, is x = true → 1 ≤ x.a ∧ x.a ≤ 99999) {ks : List Int} {l : List Six} {k : Nat} (h : ∀ j, j < k → okAt is ks l j = true) : ∀ j, j < k → (j : Int) + 1 ≤ (l.getD j z6).a
 | 0, hj => by have := hs _ (okAt_parts (h 0 hj)).1; omega
 | j + 1, hj => by
  have ih := okAt_ge hs h j (by omega)
  rcases (okAt_parts (h (j + 1) hj)).2.1 with e | e
  ·omega
  ·rw [Nat.add_sub_cancel] at e
   omega
theorem okAt_bound {is : Six → Bool} (hs : ∀ x, is x = true → 1 ≤ x.a ∧ x.a ≤ 99999) {ks : List Int} {l : List Six} {k : Nat} (h : ∀ j, j < k → okAt is ks l j = true) : k ≤ 99999 := by
 rcases Nat.eq_zero_or_pos k with e | e
 ·omega
 ·have h1 := okAt_ge hs h (k - 1) (by omega)
  have h2 := hs _ (okAt_parts (h (k - 1) (by omega))).1
  omega
theorem fix_turn {w w' : World} {b : Nat} (h : w.grownBy w' (some b)) : Fix b b w w' := ⟨h.os, h.tape, h.output, h.size, fun k hk h1 _ => h.block k hk (by intro e; cases e; exact h1 rfl)⟩
set_option maxRecDepth 100000 in
set_option maxHeartbeats 8000000 in
theorem valid138_any (A : Option Addr) (n c b m : Nat) (ks : List Int) (l : List Six) (w : World) (ha : Arr scells 6 w A n l) (hn : n ≤ 9223372036854775807) (hm : m ≤ 1000000) (hs : Seen w b m ks) :
  Calls Tryz.prog 138 #[.slice A n c, .func (.func 67) #[] #[], .func (.func 139) #[] #[], .map (some b)] w fun e w' => e = .returned (.bool (okL isLoad ks l)) ∧ Fix b b w w' ∧ (okL isLoad ks l = true → Seen w' b (m + n) (ks ++ srcs l)) := by
 have HA := Lib.hid ha
 have hlen := Lib.hid ha.1
 have HS := Lib.hid hs
 have hbw := hs.lt
 have hdj : ∀ b' o', A = some ⟨b', o', none⟩ → 0 < n → b' ≠ b := fun b' o' e hn => by
  obtain ⟨b2, o2, e2, -, hc⟩ := ha.2 hn
  rw [e] at e2
  cases e2
  have hx : l[0]? = some (l.getD 0 z6) := getD_six (by rw [ha.1]; exact hn)
  have h := hc 0 _ hx 0 _ rfl
  exact hs.ne h
 have HDJ := Lib.hid hdj
 clear ha hs hdj
 go_enter Tryz.func138, Tryz.ntmps138
 go_wp2_with fail
 go_loopw [13] (fun i wr => ∃ k : Nat, k ≤ n ∧ i = .int .i64 k ∧ Fix b b w wr ∧ Seen wr b (m + k) (ks ++ srcs (l.take k)) ∧ ∀ j, j < k → okAt isLoad ks l j = true) (fun i _ => n - (intOf i).toNat)
 case atStart => exact ⟨0, Nat.zero_le _, rfl, Fix.refl _ _ _, by simpa [srcs] using HS.out, fun j hj => absurd hj (by omega)⟩
 case round =>
  obtain ⟨k, hk, rfl, hf, hse, hok⟩ := hrel
  obtain ⟨V, rfl⟩ : ∃ V : World, V = wr := ⟨_, rfl⟩
  have HF := Lib.hid hf
  have HSE := Lib.hid hse
  have HOK := Lib.hid hok
  have hkb := okAt_bound (fun x h => load_src h) hok
  have HAV := Lib.hid (HA.out.fix hf (fun b' o' e h0 => ⟨HDJ.out b' o' e h0, HDJ.out b' o' e h0⟩))
  clear hf hse hok
  by_cases hkn : k < n
  ·obtain ⟨b0, o0, e0, hb0, hx, hc⟩ := six_at HAV.out hkn
   obtain ⟨x, hxg⟩ : ∃ x, l.getD k z6 = x := ⟨_, rfl⟩
   rw [hxg] at hx hc
   obtain ⟨x0, x1, x2, x3, x4, x5⟩ := hc V (Below.refl _ _)
   have HX := Lib.hid hx
   have HXG := Lib.hid hxg
   have HE0 := Lib.hid e0
   have hsb := HDJ.out b0 o0 e0 (by omega)
   subst e0
   clear hc hx hxg
   go_upto_region 4 with fail
   obtain ⟨V1, hV1⟩ : ∃ V1, V.alloc (.cells #[.int .i64 x.a, .int .i64 x.b, .int .i64 x.c, .int .i64 x.d, .int .i64 x.e, .int .i64 x.f] 103) = V1 := ⟨_, rfl⟩
   have g1 : Below V.heap.size V V1 := by rw [← hV1]; exact one_more _ _
   have b1 : Blk V1 V.heap.size 103 #[.int .i64 x.a, .int .i64 x.b, .int .i64 x.c, .int .i64 x.d, .int .i64 x.e, .int .i64 x.f] := by rw [← hV1]; exact Blk.new _ _ _
   rw [hV1]
   have HS1 := Lib.hid (HSE.out.ext g1)
   have hVs := HF.out.size
   have F1 := Lib.hid (HF.out.trans (Fix.of_below g1))
   have HB1 := Lib.hid b1
   have w0 := cellW (b1.cell 0)
   have w1 := cellW (b1.cell 1)
   have w2 := cellW (b1.cell 2)
   have w3 := cellW (b1.cell 3)
   have w4 := cellW (b1.cell 4)
   have w5 := cellW (b1.cell 5)
   obtain ⟨y, hy⟩ : ∃ y, l.getD (k - 1) z6 = y := ⟨_, rfl⟩
   have HY := Lib.hid (fun (h0 : 0 < k) (z : Wd V1) => (show z.val.cell? ⟨b0, o0 + (k - 1) * 6, none⟩ = some (.int .i64 y.a) ∧ z.val.cell? ⟨b0, o0 + (k - 1) * 6 + 1, none⟩ = some (.int .i64 y.b) ∧ z.val.cell? ⟨b0, o0 + (k - 1) * 6 + 2, none⟩ = some (.int .i64 y.c) ∧ z.val.cell? ⟨b0, o0 + (k - 1) * 6 + 3, none⟩ = some (.int .i64 y.d) ∧ z.val.cell? ⟨b0, o0 + (k - 1) * 6 + 4, none⟩ = some (.int .i64 y.e) ∧ z.val.cell? ⟨b0, o0 + (k - 1) * 6 + 5, none⟩ = some (.int .i64 y.f) from by
    obtain ⟨b2, o2, e2, -, -, hc2⟩ := six_at HAV.out (show k - 1 < n by omega)
    cases e2
    rw [hy] at hc2
    exact hc2 z.val (g1.trans (z.ok.mono g1.size))))
   clear hV1 x0 x1 x2 x3 x4 x5 g1 b1
   obtain ⟨iv, hiv⟩ : ∃ iv, isLoad x = iv := ⟨_, rfl⟩
   have TCK := fun W => checkLoad_any x W
   rw [hiv] at TCK
   cases iv with
   | false =>
    rw [show err false 10 = 10 from rfl] at TCK
    have HCK := Lib.hid TCK
    have HNO := Lib.hid (okL_no (is := isLoad) (ks := ks) (l := l) (k := k) (by rw [hlen.out]; exact hkn) (by unfold okAt; rw [HXG.out, hiv]; rfl))
    clear TCK hiv hy
    go_wp2_with fail
    refine wp_region_calm V1 (by kernel_rfl) (by kernel_rfl) (Below.refl _ _) ?_
    repeat (go_big_quiet_step (first | (go_at_call 67; exact callsCalm (HCK.out _)) | (go_at_call 139; exact callsCalm (loadSource_any y _)) | (go_at_call 139; exact callsCalm (loadSource_any x _))))
    refine wpQuiet_nil ?_
    rintro _ ⟨z, rfl⟩
    go_wp2_with fail
    go_ret
    exact ⟨ret_bool HNO.out.symm, F1.out.trans (Fix.of_below z.ok), fun h => by rw [HNO.out] at h; cases h⟩
   | true =>
    rw [show err true 10 = 0 from rfl] at TCK
    have HCK := Lib.hid TCK
    have hxa : 1 ≤ x.a ∧ x.a ≤ 99999 := by
     unfold isLoad rng at hiv
     simp only [Bool.and_eq_true, decide_eq_true_eq] at hiv
     omega
    have hlk : ∀ z : Wd V1, (Instr.lookup 213 (.map (some b)) (.int .i64 x.a) false).run Tryz.prog z.val = .ok (.bool ((ks ++ srcs (l.take k)).contains x.a)) z.val := fun z => (HS1.out.ext z.ok).look (by omega) (by omega)
    obtain ⟨sn, hsn⟩ : ∃ sn, (ks ++ srcs (l.take k)).contains x.a = sn := ⟨_, rfl⟩
    rw [hsn] at hlk
    by_cases hk0 : k = 0
    ·have e1 : decide ((0 : Int) < (k : Int)) = false := decide_eq_false (by omega)
     have e2 : decide (0 < k) = false := decide_eq_false (by omega)
     cases sn with
     | true =>
      have HNO := Lib.hid (okL_no (is := isLoad) (ks := ks) (l := l) (k := k) (by rw [hlen.out]; exact hkn) (by unfold okAt; rw [HXG.out, hiv, hsn]; simp))
      clear TCK hiv hy hsn hk0
      go_wp2_with fail
      refine wp_region_calm V1 (by kernel_rfl) (by kernel_rfl) (Below.refl _ _) ?_
      repeat (go_big_quiet_step (first | (go_at_call 67; exact callsCalm (HCK.out _)) | (go_at_call 139; exact callsCalm (loadSource_any y _)) | (go_at_call 139; exact callsCalm (loadSource_any x _))))
      refine wpQuiet_nil ?_
      rintro _ ⟨z, rfl⟩
      go_wp2_with fail
      go_ret
      exact ⟨ret_bool HNO.out.symm, F1.out.trans (Fix.of_below z.ok), fun h => by rw [HNO.out] at h; cases h⟩
     | false =>
      have HAT := Lib.hid (show okAt isLoad ks l k = true by unfold okAt; rw [HXG.out, hiv, hsn, decide_eq_true hk0]; rfl)
      clear TCK hiv hy hsn hk0
      go_wp2_with fail
      refine wp_region_calm V1 (by kernel_rfl) (by kernel_rfl) (Below.refl _ _) ?_
      repeat (go_big_quiet_step (first | (go_at_call 67; exact callsCalm (HCK.out _)) | (go_at_call 139; exact callsCalm (loadSource_any y _)) | (go_at_call 139; exact callsCalm (loadSource_any x _))))
      refine wpQuiet_nil ?_
      rintro _ ⟨z, rfl⟩
      have HSZ := Lib.hid (HS1.out.ext z.ok)
      have FZ := Lib.hid (F1.out.trans (Fix.of_below z.ok))
      obtain ⟨Vz, hVz⟩ : ∃ Vz, z.val = Vz := ⟨_, rfl⟩
      have u0 := w0 z
      have u1 := w1 z
      have u2 := w2 z
      have u3 := w3 z
      have u4 := w4 z
      have u5 := w5 z
      rw [hVz] at HSZ FZ u0 u1 u2 u3 u4 u5 ⊢
      clear hVz z w0 w1 w2 w3 w4 w5 hlk
      go_wp2_with (first | (go_at_call 139; (with_reducible refine (loadSource_any x _).mono ?_); rintro e Vy ⟨rfl, gy⟩; have HSY := Lib.hid (HSZ.out.ext gy); have FY := Lib.hid (FZ.out.trans (Fix.of_below gy)); obtain ⟨nn, D, hD1, hD2, hD3⟩ := HSY.out; have HD3 := Lib.hid hD3; have HD2 := Lib.hid hD2; clear gy hD2 hD3) | (at_mapUpdate; refine wpList_mapUpdate_own _ rfl _ _ _ 213 rfl 3 4 (int_keyed Tryz.underlying3) Tryz.underlying213 _ b nn D rfl HD2.out (by unfold maxLen; omega) _ _ (.int .i64 x.a) rfl rfl (keyOf_int_mk Tryz.underlying3 (lit_wf (by omega) (by omega))) (.lit (.bool true)) [] (plainElem_bool Tryz.underlying4 true) ?_; intro Vu hown1 hgrow1; have HSU := Lib.hid (Seen.put (by omega) (by omega) hD1 HD2.out.isMap HD3.out hown1); have FU := Lib.hid (FY.out.trans (fix_turn hgrow1)); clear hown1 hgrow1))
      go_roundw
      case rel => exact ⟨k + 1, by omega, by go_num, FU.out, by rw [srcs_take HX.out, ← List.append_assoc]; exact HSU.out, okAt_succ HOK.out HAT.out⟩
      case measure => simp [intOf]; omega
    ·obtain ⟨k', rfl⟩ : ∃ k', k = k' + 1 := ⟨k - 1, by omega⟩
     have e1 : decide ((0 : Int) < ((k' + 1 : Nat) : Int)) = true := decide_eq_true (by omega)
     have e2 : decide (0 < k' + 1) = true := decide_eq_true (by omega)
     have y0 := fun z => (HY.out (by omega) z).1
     have y1 := fun z => (HY.out (by omega) z).2.1
     have y2 := fun z => (HY.out (by omega) z).2.2.1
     have y3 := fun z => (HY.out (by omega) z).2.2.2.1
     have y4 := fun z => (HY.out (by omega) z).2.2.2.2.1
     have y5 := fun z => (HY.out (by omega) z).2.2.2.2.2
     rw [Nat.add_sub_cancel] at y0 y1 y2 y3 y4 y5 hy
     by_cases hr : y.a < x.a
     ·have e3 : decide (x.a ≤ y.a) = false := decide_eq_false (by omega)
      cases sn with
      | true =>
       have HNO := Lib.hid (okL_no (is := isLoad) (ks := ks) (l := l) (k := k' + 1) (by rw [hlen.out]; exact hkn) (by unfold okAt; rw [HXG.out, hiv, hsn]; simp))
       clear TCK hiv hy hsn hk0 HY hr
       go_wp2_with fail
       refine wp_region_calm V1 (by kernel_rfl) (by kernel_rfl) (Below.refl _ _) ?_
       repeat (go_big_quiet_step (first | (go_at_call 67; exact callsCalm (HCK.out _)) | (go_at_call 139; exact callsCalm (loadSource_any y _)) | (go_at_call 139; exact callsCalm (loadSource_any x _))))
       refine wpQuiet_nil ?_
       rintro _ ⟨z, rfl⟩
       go_wp2_with fail
       go_ret
       exact ⟨ret_bool HNO.out.symm, F1.out.trans (Fix.of_below z.ok), fun h => by rw [HNO.out] at h; cases h⟩
      | false =>
       have HAT := Lib.hid (show okAt isLoad ks l (k' + 1) = true by unfold okAt; rw [HXG.out, hiv, hsn, Nat.add_sub_cancel, hy, decide_eq_true hr]; simp)
       clear TCK hiv hy hsn hk0 HY hr
       go_wp2_with fail
       refine wp_region_calm V1 (by kernel_rfl) (by kernel_rfl) (Below.refl _ _) ?_
       repeat (go_big_quiet_step (first | (go_at_call 67; exact callsCalm (HCK.out _)) | (go_at_call 139; exact callsCalm (loadSource_any y _)) | (go_at_call 139; exact callsCalm (loadSource_any x _))))
       refine wpQuiet_nil ?_
       rintro _ ⟨z, rfl⟩
       have HSZ := Lib.hid (HS1.out.ext z.ok)
       have FZ := Lib.hid (F1.out.trans (Fix.of_below z.ok))
       obtain ⟨Vz, hVz⟩ : ∃ Vz, z.val = Vz := ⟨_, rfl⟩
       have u0 := w0 z
       have u1 := w1 z
       have u2 := w2 z
       have u3 := w3 z
       have u4 := w4 z
       have u5 := w5 z
       rw [hVz] at HSZ FZ u0 u1 u2 u3 u4 u5 ⊢
       clear hVz z w0 w1 w2 w3 w4 w5 hlk
       go_wp2_with (first | (go_at_call 139; (with_reducible refine (loadSource_any x _).mono ?_); rintro e Vy ⟨rfl, gy⟩; have HSY := Lib.hid (HSZ.out.ext gy); have FY := Lib.hid (FZ.out.trans (Fix.of_below gy)); obtain ⟨nn, D, hD1, hD2, hD3⟩ := HSY.out; have HD3 := Lib.hid hD3; have HD2 := Lib.hid hD2; clear gy hD2 hD3) | (at_mapUpdate; refine wpList_mapUpdate_own _ rfl _ _ _ 213 rfl 3 4 (int_keyed Tryz.underlying3) Tryz.underlying213 _ b nn D rfl HD2.out (by unfold maxLen; omega) _ _ (.int .i64 x.a) rfl rfl (keyOf_int_mk Tryz.underlying3 (lit_wf (by omega) (by omega))) (.lit (.bool true)) [] (plainElem_bool Tryz.underlying4 true) ?_; intro Vu hown1 hgrow1; have HSU := Lib.hid (Seen.put (by omega) (by omega) hD1 HD2.out.isMap HD3.out hown1); have FU := Lib.hid (FY.out.trans (fix_turn hgrow1)); clear hown1 hgrow1))
       go_roundw
       case rel => exact ⟨k' + 1 + 1, by omega, by go_num, FU.out, by rw [srcs_take HX.out, ← List.append_assoc]; exact HSU.out, okAt_succ HOK.out HAT.out⟩
       case measure => simp [intOf]; omega
     ·have e3 : decide (x.a ≤ y.a) = true := decide_eq_true (by omega)
      have HNO := Lib.hid (okL_no (is := isLoad) (ks := ks) (l := l) (k := k' + 1) (by rw [hlen.out]; exact hkn) (by unfold okAt; rw [HXG.out, hiv, Nat.add_sub_cancel, hy, decide_eq_false hr]; simp))
      clear TCK hiv hy hsn hk0 HY hr
      go_wp2_with fail
      refine wp_region_calm V1 (by kernel_rfl) (by kernel_rfl) (Below.refl _ _) ?_
      repeat (go_big_quiet_step (first | (go_at_call 67; exact callsCalm (HCK.out _)) | (go_at_call 139; exact callsCalm (loadSource_any y _)) | (go_at_call 139; exact callsCalm (loadSource_any x _))))
      refine wpQuiet_nil ?_
      rintro _ ⟨z, rfl⟩
      go_wp2_with fail
      go_ret
      exact ⟨ret_bool HNO.out.symm, F1.out.trans (Fix.of_below z.ok), fun h => by rw [HNO.out] at h; cases h⟩
  ·obtain rfl : n = k := by omega
   have HE := Lib.hid (okL_yes (is := isLoad) (ks := ks) (l := l) (by rw [hlen.out]; exact HOK.out))
   rw [hlen.out] at HE
   have HTK := Lib.hid (show l.take n = l from List.take_of_length_le (by rw [hlen.out]; exact Nat.le_refl _))
   go_wp2_with fail
   go_ret
   refine ⟨ret_bool (by rw [HE.out]; exact decide_eq_decide.2 (by omega)), HF.out, fun _ => ?_⟩
   have := HSE.out
   rw [HTK.out] at this
   exact this
end Go.Proofs.YtkoejeghihcmlaaGreat
namespace Go.Proofs.YtkoejeghihcmlaaGreat
open Go.RowKit Go.Shelf Go.Maps
set_option maxRecDepth 100000 in
set_option maxHeartbeats 8000000 in
theorem valid140_any (A : Option Addr) (n c b m : Nat) (ks : List Int) (l : List Six) (w : World) (ha : Arr scells 6 w A n l) (hn : n ≤ 9223372036854775807) (hm : m ≤ 1000000) (hs : Seen w b m ks) :
  Calls Tryz.prog 140 #[.slice A n c, .func (.func 69) #[] #[], .func (.func 141) #[] #[], .map (some b)] w fun e w' => e = .returned (.bool (okL isLoad ks l)) ∧ Fix b b w w' ∧ (okL isLoad ks l = true → Seen w' b (m + n) (ks ++ srcs l)) := by
 have HA := Lib.hid ha
 have hlen := Lib.hid ha.1
 have HS := Lib.hid hs
 have hbw := hs.lt
 have hdj : ∀ b' o', A = some ⟨b', o', none⟩ → 0 < n → b' ≠ b := fun b' o' e hn => by
  obtain ⟨b2, o2, e2, -, hc⟩ := ha.2 hn
  rw [e] at e2
  cases e2
  have hx : l[0]? = some (l.getD 0 z6) := getD_six (by rw [ha.1]; exact hn)
  have h := hc 0 _ hx 0 _ rfl
  exact hs.ne h
 have HDJ := Lib.hid hdj
 clear ha hs hdj
 go_enter Tryz.func140, Tryz.ntmps140
 go_wp2_with fail
 go_loopw [13] (fun i wr => ∃ k : Nat, k ≤ n ∧ i = .int .i64 k ∧ Fix b b w wr ∧ Seen wr b (m + k) (ks ++ srcs (l.take k)) ∧ ∀ j, j < k → okAt isLoad ks l j = true) (fun i _ => n - (intOf i).toNat)
 case atStart => exact ⟨0, Nat.zero_le _, rfl, Fix.refl _ _ _, by simpa [srcs] using HS.out, fun j hj => absurd hj (by omega)⟩
 case round =>
  obtain ⟨k, hk, rfl, hf, hse, hok⟩ := hrel
  obtain ⟨V, rfl⟩ : ∃ V : World, V = wr := ⟨_, rfl⟩
  have HF := Lib.hid hf
  have HSE := Lib.hid hse
  have HOK := Lib.hid hok
  have hkb := okAt_bound (fun x h => load_src h) hok
  have HAV := Lib.hid (HA.out.fix hf (fun b' o' e h0 => ⟨HDJ.out b' o' e h0, HDJ.out b' o' e h0⟩))
  clear hf hse hok
  by_cases hkn : k < n
  ·obtain ⟨b0, o0, e0, hb0, hx, hc⟩ := six_at HAV.out hkn
   obtain ⟨x, hxg⟩ : ∃ x, l.getD k z6 = x := ⟨_, rfl⟩
   rw [hxg] at hx hc
   obtain ⟨x0, x1, x2, x3, x4, x5⟩ := hc V (Below.refl _ _)
   have HX := Lib.hid hx
   have HXG := Lib.hid hxg
   have HE0 := Lib.hid e0
   have hsb := HDJ.out b0 o0 e0 (by omega)
   subst e0
   clear hc hx hxg
   go_upto_region 4 with fail
   obtain ⟨V1, hV1⟩ : ∃ V1, V.alloc (.cells #[.int .i64 x.a, .int .i64 x.b, .int .i64 x.c, .int .i64 x.d, .int .i64 x.e, .int .i64 x.f] 105) = V1 := ⟨_, rfl⟩
   have g1 : Below V.heap.size V V1 := by rw [← hV1]; exact one_more _ _
   have b1 : Blk V1 V.heap.size 105 #[.int .i64 x.a, .int .i64 x.b, .int .i64 x.c, .int .i64 x.d, .int .i64 x.e, .int .i64 x.f] := by rw [← hV1]; exact Blk.new _ _ _
   rw [hV1]
   have HS1 := Lib.hid (HSE.out.ext g1)
   have hVs := HF.out.size
   have F1 := Lib.hid (HF.out.trans (Fix.of_below g1))
   have HB1 := Lib.hid b1
   have w0 := cellW (b1.cell 0)
   have w1 := cellW (b1.cell 1)
   have w2 := cellW (b1.cell 2)
   have w3 := cellW (b1.cell 3)
   have w4 := cellW (b1.cell 4)
   have w5 := cellW (b1.cell 5)
   obtain ⟨y, hy⟩ : ∃ y, l.getD (k - 1) z6 = y := ⟨_, rfl⟩
   have HY := Lib.hid (fun (h0 : 0 < k) (z : Wd V1) => (show z.val.cell? ⟨b0, o0 + (k - 1) * 6, none⟩ = some (.int .i64 y.a) ∧ z.val.cell? ⟨b0, o0 + (k - 1) * 6 + 1, none⟩ = some (.int .i64 y.b) ∧ z.val.cell? ⟨b0, o0 + (k - 1) * 6 + 2, none⟩ = some (.int .i64 y.c) ∧ z.val.cell? ⟨b0, o0 + (k - 1) * 6 + 3, none⟩ = some (.int .i64 y.d) ∧ z.val.cell? ⟨b0, o0 + (k - 1) * 6 + 4, none⟩ = some (.int .i64 y.e) ∧ z.val.cell? ⟨b0, o0 + (k - 1) * 6 + 5, none⟩ = some (.int .i64 y.f) from by
    obtain ⟨b2, o2, e2, -, -, hc2⟩ := six_at HAV.out (show k - 1 < n by omega)
    cases e2
    rw [hy] at hc2
    exact hc2 z.val (g1.trans (z.ok.mono g1.size))))
   clear hV1 x0 x1 x2 x3 x4 x5 g1 b1
   obtain ⟨iv, hiv⟩ : ∃ iv, isLoad x = iv := ⟨_, rfl⟩
   have TCK := fun W => checkStand_any x W
   rw [hiv] at TCK
   cases iv with
   | false =>
    rw [show err false 11 = 11 from rfl] at TCK
    have HCK := Lib.hid TCK
    have HNO := Lib.hid (okL_no (is := isLoad) (ks := ks) (l := l) (k := k) (by rw [hlen.out]; exact hkn) (by unfold okAt; rw [HXG.out, hiv]; rfl))
    clear TCK hiv hy
    go_wp2_with fail
    refine wp_region_calm V1 (by kernel_rfl) (by kernel_rfl) (Below.refl _ _) ?_
    repeat (go_big_quiet_step (first | (go_at_call 69; exact callsCalm (HCK.out _)) | (go_at_call 141; exact callsCalm (standSource_any y _)) | (go_at_call 141; exact callsCalm (standSource_any x _))))
    refine wpQuiet_nil ?_
    rintro _ ⟨z, rfl⟩
    go_wp2_with fail
    go_ret
    exact ⟨ret_bool HNO.out.symm, F1.out.trans (Fix.of_below z.ok), fun h => by rw [HNO.out] at h; cases h⟩
   | true =>
    rw [show err true 11 = 0 from rfl] at TCK
    have HCK := Lib.hid TCK
    have hxa : 1 ≤ x.a ∧ x.a ≤ 99999 := by
     unfold isLoad rng at hiv
     simp only [Bool.and_eq_true, decide_eq_true_eq] at hiv
     omega
    have hlk : ∀ z : Wd V1, (Instr.lookup 213 (.map (some b)) (.int .i64 x.a) false).run Tryz.prog z.val = .ok (.bool ((ks ++ srcs (l.take k)).contains x.a)) z.val := fun z => (HS1.out.ext z.ok).look (by omega) (by omega)
    obtain ⟨sn, hsn⟩ : ∃ sn, (ks ++ srcs (l.take k)).contains x.a = sn := ⟨_, rfl⟩
    rw [hsn] at hlk
    by_cases hk0 : k = 0
    ·have e1 : decide ((0 : Int) < (k : Int)) = false := decide_eq_false (by omega)
     have e2 : decide (0 < k) = false := decide_eq_false (by omega)
     cases sn with
     | true =>
      have HNO := Lib.hid (okL_no (is := isLoad) (ks := ks) (l := l) (k := k) (by rw [hlen.out]; exact hkn) (by unfold okAt; rw [HXG.out, hiv, hsn]; simp))
      clear TCK hiv hy hsn hk0
      go_wp2_with fail
      refine wp_region_calm V1 (by kernel_rfl) (by kernel_rfl) (Below.refl _ _) ?_
      repeat (go_big_quiet_step (first | (go_at_call 69; exact callsCalm (HCK.out _)) | (go_at_call 141; exact callsCalm (standSource_any y _)) | (go_at_call 141; exact callsCalm (standSource_any x _))))
      refine wpQuiet_nil ?_
      rintro _ ⟨z, rfl⟩
      go_wp2_with fail
      go_ret
      exact ⟨ret_bool HNO.out.symm, F1.out.trans (Fix.of_below z.ok), fun h => by rw [HNO.out] at h; cases h⟩
     | false =>
      have HAT := Lib.hid (show okAt isLoad ks l k = true by unfold okAt; rw [HXG.out, hiv, hsn, decide_eq_true hk0]; rfl)
      clear TCK hiv hy hsn hk0
      go_wp2_with fail
      refine wp_region_calm V1 (by kernel_rfl) (by kernel_rfl) (Below.refl _ _) ?_
      repeat (go_big_quiet_step (first | (go_at_call 69; exact callsCalm (HCK.out _)) | (go_at_call 141; exact callsCalm (standSource_any y _)) | (go_at_call 141; exact callsCalm (standSource_any x _))))
      refine wpQuiet_nil ?_
      rintro _ ⟨z, rfl⟩
      have HSZ := Lib.hid (HS1.out.ext z.ok)
      have FZ := Lib.hid (F1.out.trans (Fix.of_below z.ok))
      obtain ⟨Vz, hVz⟩ : ∃ Vz, z.val = Vz := ⟨_, rfl⟩
      have u0 := w0 z
      have u1 := w1 z
      have u2 := w2 z
      have u3 := w3 z
      have u4 := w4 z
      have u5 := w5 z
      rw [hVz] at HSZ FZ u0 u1 u2 u3 u4 u5 ⊢
      clear hVz z w0 w1 w2 w3 w4 w5 hlk
      go_wp2_with (first | (go_at_call 141; (with_reducible refine (standSource_any x _).mono ?_); rintro e Vy ⟨rfl, gy⟩; have HSY := Lib.hid (HSZ.out.ext gy); have FY := Lib.hid (FZ.out.trans (Fix.of_below gy)); obtain ⟨nn, D, hD1, hD2, hD3⟩ := HSY.out; have HD3 := Lib.hid hD3; have HD2 := Lib.hid hD2; clear gy hD2 hD3) | (at_mapUpdate; refine wpList_mapUpdate_own _ rfl _ _ _ 213 rfl 3 4 (int_keyed Tryz.underlying3) Tryz.underlying213 _ b nn D rfl HD2.out (by unfold maxLen; omega) _ _ (.int .i64 x.a) rfl rfl (keyOf_int_mk Tryz.underlying3 (lit_wf (by omega) (by omega))) (.lit (.bool true)) [] (plainElem_bool Tryz.underlying4 true) ?_; intro Vu hown1 hgrow1; have HSU := Lib.hid (Seen.put (by omega) (by omega) hD1 HD2.out.isMap HD3.out hown1); have FU := Lib.hid (FY.out.trans (fix_turn hgrow1)); clear hown1 hgrow1))
      go_roundw
      case rel => exact ⟨k + 1, by omega, by go_num, FU.out, by rw [srcs_take HX.out, ← List.append_assoc]; exact HSU.out, okAt_succ HOK.out HAT.out⟩
      case measure => simp [intOf]; omega
    ·obtain ⟨k', rfl⟩ : ∃ k', k = k' + 1 := ⟨k - 1, by omega⟩
     have e1 : decide ((0 : Int) < ((k' + 1 : Nat) : Int)) = true := decide_eq_true (by omega)
     have e2 : decide (0 < k' + 1) = true := decide_eq_true (by omega)
     have y0 := fun z => (HY.out (by omega) z).1
     have y1 := fun z => (HY.out (by omega) z).2.1
     have y2 := fun z => (HY.out (by omega) z).2.2.1
     have y3 := fun z => (HY.out (by omega) z).2.2.2.1
     have y4 := fun z => (HY.out (by omega) z).2.2.2.2.1
     have y5 := fun z => (HY.out (by omega) z).2.2.2.2.2
     rw [Nat.add_sub_cancel] at y0 y1 y2 y3 y4 y5 hy
     by_cases hr : y.a < x.a
     ·have e3 : decide (x.a ≤ y.a) = false := decide_eq_false (by omega)
      cases sn with
      | true =>
       have HNO := Lib.hid (okL_no (is := isLoad) (ks := ks) (l := l) (k := k' + 1) (by rw [hlen.out]; exact hkn) (by unfold okAt; rw [HXG.out, hiv, hsn]; simp))
       clear TCK hiv hy hsn hk0 HY hr
       go_wp2_with fail
       refine wp_region_calm V1 (by kernel_rfl) (by kernel_rfl) (Below.refl _ _) ?_
       repeat (go_big_quiet_step (first | (go_at_call 69; exact callsCalm (HCK.out _)) | (go_at_call 141; exact callsCalm (standSource_any y _)) | (go_at_call 141; exact callsCalm (standSource_any x _))))
       refine wpQuiet_nil ?_
       rintro _ ⟨z, rfl⟩
       go_wp2_with fail
       go_ret
       exact ⟨ret_bool HNO.out.symm, F1.out.trans (Fix.of_below z.ok), fun h => by rw [HNO.out] at h; cases h⟩
      | false =>
       have HAT := Lib.hid (show okAt isLoad ks l (k' + 1) = true by unfold okAt; rw [HXG.out, hiv, hsn, Nat.add_sub_cancel, hy, decide_eq_true hr]; simp)
       clear TCK hiv hy hsn hk0 HY hr
       go_wp2_with fail
       refine wp_region_calm V1 (by kernel_rfl) (by kernel_rfl) (Below.refl _ _) ?_
       repeat (go_big_quiet_step (first | (go_at_call 69; exact callsCalm (HCK.out _)) | (go_at_call 141; exact callsCalm (standSource_any y _)) | (go_at_call 141; exact callsCalm (standSource_any x _))))
       refine wpQuiet_nil ?_
       rintro _ ⟨z, rfl⟩
       have HSZ := Lib.hid (HS1.out.ext z.ok)
       have FZ := Lib.hid (F1.out.trans (Fix.of_below z.ok))
       obtain ⟨Vz, hVz⟩ : ∃ Vz, z.val = Vz := ⟨_, rfl⟩
       have u0 := w0 z
       have u1 := w1 z
       have u2 := w2 z
       have u3 := w3 z
       have u4 := w4 z
       have u5 := w5 z
       rw [hVz] at HSZ FZ u0 u1 u2 u3 u4 u5 ⊢
       clear hVz z w0 w1 w2 w3 w4 w5 hlk
       go_wp2_with (first | (go_at_call 141; (with_reducible refine (standSource_any x _).mono ?_); rintro e Vy ⟨rfl, gy⟩; have HSY := Lib.hid (HSZ.out.ext gy); have FY := Lib.hid (FZ.out.trans (Fix.of_below gy)); obtain ⟨nn, D, hD1, hD2, hD3⟩ := HSY.out; have HD3 := Lib.hid hD3; have HD2 := Lib.hid hD2; clear gy hD2 hD3) | (at_mapUpdate; refine wpList_mapUpdate_own _ rfl _ _ _ 213 rfl 3 4 (int_keyed Tryz.underlying3) Tryz.underlying213 _ b nn D rfl HD2.out (by unfold maxLen; omega) _ _ (.int .i64 x.a) rfl rfl (keyOf_int_mk Tryz.underlying3 (lit_wf (by omega) (by omega))) (.lit (.bool true)) [] (plainElem_bool Tryz.underlying4 true) ?_; intro Vu hown1 hgrow1; have HSU := Lib.hid (Seen.put (by omega) (by omega) hD1 HD2.out.isMap HD3.out hown1); have FU := Lib.hid (FY.out.trans (fix_turn hgrow1)); clear hown1 hgrow1))
       go_roundw
       case rel => exact ⟨k' + 1 + 1, by omega, by go_num, FU.out, by rw [srcs_take HX.out, ← List.append_assoc]; exact HSU.out, okAt_succ HOK.out HAT.out⟩
       case measure => simp [intOf]; omega
     ·have e3 : decide (x.a ≤ y.a) = true := decide_eq_true (by omega)
      have HNO := Lib.hid (okL_no (is := isLoad) (ks := ks) (l := l) (k := k' + 1) (by rw [hlen.out]; exact hkn) (by unfold okAt; rw [HXG.out, hiv, Nat.add_sub_cancel, hy, decide_eq_false hr]; simp))
      clear TCK hiv hy hsn hk0 HY hr
      go_wp2_with fail
      refine wp_region_calm V1 (by kernel_rfl) (by kernel_rfl) (Below.refl _ _) ?_
      repeat (go_big_quiet_step (first | (go_at_call 69; exact callsCalm (HCK.out _)) | (go_at_call 141; exact callsCalm (standSource_any y _)) | (go_at_call 141; exact callsCalm (standSource_any x _))))
      refine wpQuiet_nil ?_
      rintro _ ⟨z, rfl⟩
      go_wp2_with fail
      go_ret
      exact ⟨ret_bool HNO.out.symm, F1.out.trans (Fix.of_below z.ok), fun h => by rw [HNO.out] at h; cases h⟩
  ·obtain rfl : n = k := by omega
   have HE := Lib.hid (okL_yes (is := isLoad) (ks := ks) (l := l) (by rw [hlen.out]; exact HOK.out))
   rw [hlen.out] at HE
   have HTK := Lib.hid (show l.take n = l from List.take_of_length_le (by rw [hlen.out]; exact Nat.le_refl _))
   go_wp2_with fail
   go_ret
   refine ⟨ret_bool (by rw [HE.out]; exact decide_eq_decide.2 (by omega)), HF.out, fun _ => ?_⟩
   have := HSE.out
   rw [HTK.out] at this
   exact this
end Go.Proofs.YtkoejeghihcmlaaGreat

namespace Go.Proofs.YtkoejeghihcmlaaGreat
open Go.RowKit Go.Shelf
section
variable {P : Program} {ops : Array Oper} {Q : Exit → Act → World → Prop} {md : Region.Mode} {S : World → Prop} {last : Nat}
/-- Whatever order is picked from here on; 'S' holds behind every operation but 'last'. -/
def wpAnyT (P : Program) (md : Region.Mode) (ops : Array Oper) (Q : Exit → Act → World → Prop) (S : World → Prop) (last : Nat) : Nat → Array Bool → Act → World → Prop
 | 0, listed, a, w => Region.ready md ops listed = [] ∧ Q .normal a w
 | fuel + 1, listed, a, w =>
  (Region.ready md ops listed = [] → Q .normal a w) ∧
  ∀ i ∈ Region.ready md ops listed, wpOp P ops Q i (fun a' w' => (i ≠ last → S w') ∧ wpAnyT P md ops Q S last fuel (listed.setIfInBounds i true) a' w') a w
theorem wpAny_of_till : ∀ (fuel : Nat) (listed : Array Bool) (a : Act) (w : World), wpAnyT P md ops Q S last fuel listed a w → wpAny P md ops Q fuel listed a w
 | 0, _, _, _, h => h
 | fuel + 1, _, _, _, h => ⟨h.1, fun i hi => wpOp_mono (fun a' w' h' => wpAny_of_till fuel _ a' w' h'.2) (h.2 i hi)⟩
theorem waits_not {m i : Nat} {listed : Array Bool} (hw : Region.waitsFor md ops m i = true) (hun : listed.getD i true = false) : m ∉ Region.ready md ops listed := fun hm => by
 obtain ⟨oj, hoj, e, he, hb, hon⟩ := Region.waitsFor_spec hw
 obtain ⟨-, o2, ho2, hall⟩ := mem_ready.1 hm
 cases hoj.symm.trans ho2
 have := hall e he hb
 rw [hon, getD_both hun] at this
 cases this
/-- A way from 'i' to the last operation: each waits for the one ahead, none has come up. -/
def pathB (md : Region.Mode) (ops : Array Oper) (last : Nat) (listed : Array Bool) : Nat → List Nat → Bool
 | i, [] => decide (i = last)
 | i, m :: ms => Region.waitsFor md ops m i && (!(listed.getD m true) && pathB md ops last listed m ms)
theorem path_not {listed : Array Bool} : ∀ (ms : List Nat) (i : Nat), pathB md ops last listed i ms = true → listed.getD i true = false → i ≠ last → last ∉ Region.ready md ops listed
 | [], i, h, _, hil => absurd (of_decide_eq_true h) hil
 | m :: ms, i, h, hun, _ => by
  simp only [pathB, Bool.and_eq_true, Bool.not_eq_true'] at h
  by_cases e : m = last
  ·subst e; exact waits_not h.1 hun
  ·exact path_not ms m h.2.2 h.2.1 e
theorem path_step {listed : Array Bool} {j : Nat} (hj : j ∈ Region.ready md ops listed) : ∀ (ms : List Nat) (i : Nat), pathB md ops last listed i ms = true → listed.getD i true = false → pathB md ops last (listed.setIfInBounds j true) i ms = true
 | [], _, h, _ => h
 | m :: ms, i, h, hun => by
  simp only [pathB, Bool.and_eq_true, Bool.not_eq_true'] at h ⊢
  have : j ≠ m := fun e => by subst e; exact waits_not h.1 hun hj
  exact ⟨h.1, by rw [getD_set_ne true this]; exact h.2.1, path_step hj ms m h.2.2 h.2.1⟩
theorem wpAnyT_first {i : Nat} (ms : List Nat) {oi : Oper} {v : Value} (hi : ops[i]? = some oi) (hsel : ∀ (j : Nat) (o : Oper) cs b, ops[j]? = some o → o.op ≠ .select cs b)
  (hQ : ∀ c a w, Q (.panic c) (a.put oi.dst v) w → Q (.panic c) a w) :
  ∀ (fuel : Nat) (listed : Array Bool) (a : Act) (w : World),
   (∀ j oj, ops[j]? = some oj → j ≠ i → listed.getD j true = false → (∀ e ∈ oj.after, Region.binds md e = true → e.on ≠ i) → oi.apart ops oj = true) →
   i ∈ Region.ready md ops listed → i ≠ last → pathB md ops last listed i ms = true → YieldsIf P ops S oi v a → S w →
   wpAnyT P md ops Q S last fuel (listed.setIfInBounds i true) (a.put oi.dst v) w → wpAnyT P md ops Q S last (fuel + 1) listed a w := by
 intro fuel
 induction fuel with
 | zero =>
  intro listed a w _ hr hil hla hy hS H
  refine ⟨fun h => (by rw [h] at hr; cases hr), fun j hj => ?_⟩
  by_cases hji : j = i
  ·subst hji; exact hy.wpOp hi hS ⟨fun _ => hS, H⟩
  ·have := ready_mono hj hji
   rw [H.1] at this
   cases this
 | succ fuel ih =>
  intro listed a w hfree hr hil hla hy hS H
  refine ⟨fun h => (by rw [h] at hr; cases hr), fun j hj => ?_⟩
  by_cases hji : j = i
  ·subst hji; exact hy.wpOp hi hS ⟨fun _ => hS, H⟩
  ·have h1 := H.2 j (ready_mono hj hji)
   obtain ⟨hjun, oj, hoj, hall⟩ := mem_ready.1 hj
   have h0 := (mem_ready.1 hr).1
   have hnot : ∀ e ∈ oj.after, Region.binds md e = true → e.on ≠ i := fun e he hb heq => by
    have h1 := hall e he hb
    rw [heq, getD_both h0] at h1; cases h1
   have hjl : j ≠ last := fun e => path_not ms i hla h0 hil (e ▸ hj)
   have h2 := wpOp_putIf hoj (hfree j oj hoj hji hjun hnot) (fun cs b => hsel i oi cs b hi) (fun cs b => hsel j oj cs b hoj) hQ hy h1
   have hfree' : ∀ k ok, ops[k]? = some ok → k ≠ i → (listed.setIfInBounds j true).getD k true = false →
     (∀ e ∈ ok.after, Region.binds md e = true → e.on ≠ i) → oi.apart ops ok = true := fun k ok hk hki hun hno => by
    refine hfree k ok hk hki ?_ hno
    by_cases hjk : j = k
    ·subst hjk; exact hjun
    ·rw [getD_set_ne true hjk] at hun; exact hun
   refine wpOp_mono (fun a' w' h3 => ⟨h3.2.1, ih (listed.setIfInBounds j true) a' w' hfree' (ready_mono hr (Ne.symm hji)) hil (path_step hj ms i hla h0) h3.1 (h3.2.1 hjl) ?_⟩) h2
   rw [Array.setIfInBounds_comm _ _ hji]
   exact h3.2.2
/-- A load, or what yields anyhow, may be taken first: 'ms' leads from it to the last operation. -/
theorem till_take (ms : List Nat) {i : Nat} {oi : Oper} {d : Option Tmp} {v : Value} {fuel : Nat} {listed : Array Bool} {a : Act} {w : World} (hi : ops[i]? = some oi) (hd : oi.dst = d)
  (hs : Region.noSelect ops = true) (hf : (Region.free md ops listed i && ((Region.ready md ops listed).contains i && (decide (i ≠ last) && pathB md ops last listed i ms))) = true)
  (hQ : ∀ c a w, Q (.panic c) (a.put oi.dst v) w → Q (.panic c) a w) (hg : Region.wanted oi (yielded ops a.tmps) = true) (hy : ∀ w, S w → (execOp a.eval oi).run P w = .ok (.value v) w) (hS : S w)
  (h : wpAnyT P md ops Q S last fuel (listed.setIfInBounds i true) (a.put d v) w) : wpAnyT P md ops Q S last (fuel + 1) listed a w := by
 subst hd
 simp only [Bool.and_eq_true, decide_eq_true_eq] at hf
 obtain ⟨hf, hr, hil, hw⟩ := hf
 exact wpAnyT_first ms hi (Region.noSelect_spec hs) hQ fuel listed a w (Region.free_spec hi hf) (by simpa using hr) hil hw (.inl ⟨hg, hy⟩) hS h
/-- One operation alone may come up. -/
theorem till_one (i : Nat) {o : Oper} {fuel : Nat} {listed : Array Bool} {a : Act} {w : World} (ho : ops[i]? = some o) (hr : Region.ready md ops listed = [i]) (hil : i ≠ last)
  (h : ∀ K' : Act → World → Prop, Shut (∀ a w, S w → (S w → wpAnyT P md ops Q S last fuel (listed.setIfInBounds i true) a w) → K' a w) → if Region.wanted o (yielded ops a.tmps) = true then Oper.wp P o a w K' Q else K' (a.put o.dst undef) w) :
  wpAnyT P md ops Q S last (fuel + 1) listed a w :=
 ⟨fun h0 => (by rw [hr] at h0; cases h0), fun j hj => by
  rw [hr] at hj
  obtain rfl : j = i := by simpa using hj
  exact wpOp_step ho (fun K' hK => h K' (fun a w hS hW => hK a w ⟨fun _ => hS, hW hS⟩))⟩
/-- The last. -/
theorem till_last {o : Oper} {fuel : Nat} {listed : Array Bool} {a : Act} {w : World} (ho : ops[last]? = some o) (hr : Region.ready md ops listed = [last]) (hr2 : Region.ready md ops (listed.setIfInBounds last true) = [])
  (h : ∀ K' : Act → World → Prop, Shut (∀ a w, Q .normal a w → K' a w) → if Region.wanted o (yielded ops a.tmps) = true then Oper.wp P o a w K' Q else K' (a.put o.dst undef) w) :
  wpAnyT P md ops Q S last (fuel + 1) listed a w :=
 ⟨fun h0 => (by rw [hr] at h0; cases h0), fun j hj => by
  rw [hr] at hj
  obtain rfl : j = last := by simpa using hj
  refine wpOp_step ho (fun K' hK => h K' (fun a w hW => hK a w ⟨fun h => absurd rfl h, ?_⟩))
  cases fuel with
  | zero => exact ⟨hr2, hW⟩
  | succ f => exact ⟨fun _ => hW, by rw [hr2]; simp⟩⟩
theorem wp_region_till {id : Nat} {a : Act} {w : World} (last : Nat) (hm : P.follows .mixedOrders = true) (hS : S w.drew)
  (h : S w.drew → wpAnyT P .any ops Q S last ops.size (Array.replicate ops.size false) a w.drew) : (Code.region id ops true).wp P Q a w :=
 wp_region_any hm (wpAny_of_till _ _ _ _ (h hS))
end
end Go.Proofs.YtkoejeghihcmlaaGreat

namespace Go.Proofs.YtkoejeghihcmlaaGreat
section
variable {P : Program} {ops : Array Oper} {Q : Exit → Act → World → Prop} {md : Region.Mode} {S : World → Prop} {last : Nat}
def wpAnyU (P : Program) (md : Region.Mode) (ops : Array Oper) (Q : Exit → Act → World → Prop) (S : World → Prop) (last : Nat) : Nat → Array Bool → Act → World → Prop
 | 0, listed, a, w => Region.ready md ops listed = [] ∧ Q .normal a w
 | fuel + 1, listed, a, w =>
  (Region.ready md ops listed = [] → Q .normal a w) ∧
  ∀ i ∈ Region.ready md ops listed, wpOp P ops Q i (fun a' w' => if i = last then wpAny P md ops Q fuel (listed.setIfInBounds i true) a' w' else S w' ∧ wpAnyU P md ops Q S last fuel (listed.setIfInBounds i true) a' w') a w
theorem wpAny_of_upto : ∀ (fuel : Nat) (listed : Array Bool) (a : Act) (w : World), wpAnyU P md ops Q S last fuel listed a w → wpAny P md ops Q fuel listed a w
 | 0, _, _, _, h => h
 | fuel + 1, _, _, _, h => ⟨h.1, fun i hi => wpOp_mono (fun a' w' h' => by
   by_cases e : i = last
   ·rw [if_pos e] at h'; exact h'
   ·rw [if_neg e] at h'; exact wpAny_of_upto fuel _ a' w' h'.2) (h.2 i hi)⟩
theorem wpAnyU_first {i : Nat} (ms : List Nat) {oi : Oper} {v : Value} (hi : ops[i]? = some oi) (hsel : ∀ (j : Nat) (o : Oper) cs b, ops[j]? = some o → o.op ≠ .select cs b)
  (hQ : ∀ c a w, Q (.panic c) (a.put oi.dst v) w → Q (.panic c) a w) :
  ∀ (fuel : Nat) (listed : Array Bool) (a : Act) (w : World),
   (∀ j oj, ops[j]? = some oj → j ≠ i → listed.getD j true = false → (∀ e ∈ oj.after, Region.binds md e = true → e.on ≠ i) → oi.apart ops oj = true) →
   i ∈ Region.ready md ops listed → i ≠ last → pathB md ops last listed i ms = true → YieldsIf P ops S oi v a → S w →
   wpAnyU P md ops Q S last fuel (listed.setIfInBounds i true) (a.put oi.dst v) w → wpAnyU P md ops Q S last (fuel + 1) listed a w := by
 intro fuel
 induction fuel with
 | zero =>
  intro listed a w _ hr hil hla hy hS H
  refine ⟨fun h => (by rw [h] at hr; cases hr), fun j hj => ?_⟩
  by_cases hji : j = i
  ·subst hji; exact hy.wpOp hi hS (by rw [if_neg hil]; exact ⟨hS, H⟩)
  ·have := ready_mono hj hji
   rw [H.1] at this
   cases this
 | succ fuel ih =>
  intro listed a w hfree hr hil hla hy hS H
  refine ⟨fun h => (by rw [h] at hr; cases hr), fun j hj => ?_⟩
  by_cases hji : j = i
  ·subst hji; exact hy.wpOp hi hS (by rw [if_neg hil]; exact ⟨hS, H⟩)
  ·have h1 := H.2 j (ready_mono hj hji)
   obtain ⟨hjun, oj, hoj, hall⟩ := mem_ready.1 hj
   have h0 := (mem_ready.1 hr).1
   have hnot : ∀ e ∈ oj.after, Region.binds md e = true → e.on ≠ i := fun e he hb heq => by
    have h1 := hall e he hb
    rw [heq, getD_both h0] at h1; cases h1
   have hjl : j ≠ last := fun e => path_not ms i hla h0 hil (e ▸ hj)
   have h2 := wpOp_putIf hoj (hfree j oj hoj hji hjun hnot) (fun cs b => hsel i oi cs b hi) (fun cs b => hsel j oj cs b hoj) hQ hy h1
   have hfree' : ∀ k ok, ops[k]? = some ok → k ≠ i → (listed.setIfInBounds j true).getD k true = false →
     (∀ e ∈ ok.after, Region.binds md e = true → e.on ≠ i) → oi.apart ops ok = true := fun k ok hk hki hun hno => by
    refine hfree k ok hk hki ?_ hno
    by_cases hjk : j = k
    ·subst hjk; exact hjun
    ·rw [getD_set_ne true hjk] at hun; exact hun
   refine wpOp_mono (fun a' w' h3 => ?_) h2
   obtain ⟨h3a, h3b⟩ := h3
   rw [if_neg hjl] at h3b ⊢
   refine ⟨h3b.1, ih (listed.setIfInBounds j true) a' w' hfree' (ready_mono hr (Ne.symm hji)) hil (path_step hj ms i hla h0) h3a h3b.1 ?_⟩
   rw [Array.setIfInBounds_comm _ _ hji]
   exact h3b.2
/-- A load, or what yields anyhow, may be taken first: 'ms' leads from it to the last operation. -/
theorem upto_take (ms : List Nat) {i : Nat} {oi : Oper} {d : Option Tmp} {v : Value} {fuel : Nat} {listed : Array Bool} {a : Act} {w : World} (hi : ops[i]? = some oi) (hd : oi.dst = d)
  (hs : Region.noSelect ops = true) (hf : (Region.free md ops listed i && ((Region.ready md ops listed).contains i && (decide (i ≠ last) && pathB md ops last listed i ms))) = true)
  (hQ : ∀ c a w, Q (.panic c) (a.put oi.dst v) w → Q (.panic c) a w) (hg : Region.wanted oi (yielded ops a.tmps) = true) (hy : ∀ w, S w → (execOp a.eval oi).run P w = .ok (.value v) w) (hS : S w)
  (h : wpAnyU P md ops Q S last fuel (listed.setIfInBounds i true) (a.put d v) w) : wpAnyU P md ops Q S last (fuel + 1) listed a w := by
 subst hd
 simp only [Bool.and_eq_true, decide_eq_true_eq] at hf
 obtain ⟨hf, hr, hil, hw⟩ := hf
 exact wpAnyU_first ms hi (Region.noSelect_spec hs) hQ fuel listed a w (Region.free_spec hi hf) (by simpa using hr) hil hw (.inl ⟨hg, hy⟩) hS h
/-- One operation alone may come up. -/
theorem upto_one (i : Nat) {o : Oper} {fuel : Nat} {listed : Array Bool} {a : Act} {w : World} (ho : ops[i]? = some o) (hr : Region.ready md ops listed = [i]) (hil : i ≠ last)
  (h : ∀ K' : Act → World → Prop, Shut (∀ a w, S w → (S w → wpAnyU P md ops Q S last fuel (listed.setIfInBounds i true) a w) → K' a w) → if Region.wanted o (yielded ops a.tmps) = true then Oper.wp P o a w K' Q else K' (a.put o.dst undef) w) :
  wpAnyU P md ops Q S last (fuel + 1) listed a w :=
 ⟨fun h0 => (by rw [hr] at h0; cases h0), fun j hj => by
  rw [hr] at hj
  obtain rfl : j = i := by simpa using hj
  exact wpOp_step ho (fun K' hK => h K' (fun a w hS hW => hK a w (by rw [if_neg hil]; exact ⟨hS, hW hS⟩)))⟩
/-- The one up to which it holds. -/
theorem upto_last {o : Oper} {fuel : Nat} {listed : Array Bool} {a : Act} {w : World} (ho : ops[last]? = some o) (hr : Region.ready md ops listed = [last])
  (h : ∀ K' : Act → World → Prop, Shut (∀ a w, wpAny P md ops Q fuel (listed.setIfInBounds last true) a w → K' a w) → if Region.wanted o (yielded ops a.tmps) = true then Oper.wp P o a w K' Q else K' (a.put o.dst undef) w) :
  wpAnyU P md ops Q S last (fuel + 1) listed a w :=
 ⟨fun h0 => (by rw [hr] at h0; cases h0), fun j hj => by
  rw [hr] at hj
  obtain rfl : j = last := by simpa using hj
  exact wpOp_step ho (fun K' hK => h K' (fun a w hW => hK a w (by rw [if_pos rfl]; exact hW)))⟩
/-- Behind it: one operation alone may come up. -/
theorem any_one (i : Nat) {o : Oper} {fuel : Nat} {listed : Array Bool} {a : Act} {w : World} (ho : ops[i]? = some o) (hr : Region.ready md ops listed = [i])
  (h : ∀ K' : Act → World → Prop, Shut (∀ a w, wpAny P md ops Q fuel (listed.setIfInBounds i true) a w → K' a w) → if Region.wanted o (yielded ops a.tmps) = true then Oper.wp P o a w K' Q else K' (a.put o.dst undef) w) :
  wpAny P md ops Q (fuel + 1) listed a w :=
 ⟨fun h0 => (by rw [hr] at h0; cases h0), fun j hj => by
  rw [hr] at hj
  obtain rfl : j = i := by simpa using hj
  exact wpOp_step ho (fun K' hK => h K' (fun a w hW => hK a w hW))⟩
theorem any_done {fuel : Nat} {listed : Array Bool} {a : Act} {w : World} (hr : Region.ready md ops listed = []) (h : Q .normal a w) : wpAny P md ops Q fuel listed a w := by
 cases fuel with
 | zero => exact ⟨hr, h⟩
 | succ f => exact ⟨fun _ => h, by rw [hr]; simp⟩
/-- Nothing but the region's end. -/
def onlyQ (Q : Exit → Act → World → Prop) : Exit → Act → World → Prop
 | .normal, a, w => Q .normal a w
 | _, _, _ => False
theorem onlyQ_lets : ¬ LetsOut (onlyQ Q) := fun ⟨_, _, h⟩ => h
theorem rowsIn_round {l n : Nat} {row : String} {args : Array Value} {w : World} {R : Value → World → Prop} (h : Rows P row args w R) : RowsIn (Fence.wide.inRound l) n P row args w R :=
 fun c cs _ => let ⟨v, w', r, s⟩ := h c cs; ⟨v, w', r, stepsIn_wide.2 s⟩
theorem operWpIn_of_wp {l n : Nat} {o : Oper} (hnd : ∀ c, o.op ≠ .defer c) {a : Act} {K K' : Act → World → Prop} {Q' : Exit → Act → World → Prop} {w : World} (hK : ∀ a w, K a w → K' a w) (h : o.wp P a w K (onlyQ Q)) : o.wpIn (Fence.wide.inRound l) n P a w K' Q' := by
 unfold Oper.wp at h
 unfold Oper.wpIn
 rw [Oper.semAt_eq _ _ _ hnd]
 refine ⟨fun f _ => trivial, ?_⟩
 generalize (execOp a.eval o).run P w = r at *
 cases r with
 | ok x w' =>
  cases x <;> simp only [Oper.upon] at h <;> simp only [Oper.uponIn]
  case value u => exact hK _ _ h
  case skip => exact hK _ _ h
  case defer d => exact hK _ _ h
  case enter f args =>
   refine ⟨fun hd => (by cases hd), CallsIn.inRound l (callsIn_wide.2 (h.mono ?_))⟩
   intro e w'' he
   cases e with
   | returned v => exact hK _ _ he
   | panicked c => exact he.elim
   | outgrown => exact (onlyQ_lets he).elim
  case row rw_ args => exact ⟨fun hd => (by cases hd), rowsIn_round (h.mono fun v w'' hv => hK _ _ hv)⟩
 | halt x w' =>
  cases x <;> simp only [Oper.upon] at h
  exact h.elim
theorem wpAnyIn_of_wp {l n : Nat} (hnd : noDefer ops = true) : ∀ (fuel : Nat) (listed : Array Bool) (a : Act) (w : World), wpAny P md ops (onlyQ Q) fuel listed a w → wpAnyIn (Fence.wide.inRound l) n P md ops Q fuel listed a w
 | 0, _, _, _, h => h
 | fuel + 1, listed, a, w, h => ⟨h.1, fun i hi => by
   have h1 := h.2 i hi
   unfold wpOp at h1
   unfold wpOpIn
   split
   ·rename_i ho; simp only [ho] at h1; exact wpAnyIn_of_wp hnd fuel _ _ _ h1
   ·rename_i o ho
    simp only [ho] at h1
    split
    ·rename_i hw
     simp only [hw, if_true] at h1
     rcases h1 with h1 | ⟨-, h1⟩
     ·exact operWpIn_of_wp (noDefer_spec hnd ho) (fun a w hk => wpAnyIn_of_wp hnd fuel _ a w hk) h1
     ·exact (onlyQ_lets h1).elim
    ·rename_i hw
     simp only [hw] at h1
     exact ⟨fun f _ => trivial, wpAnyIn_of_wp hnd fuel _ _ _ h1⟩⟩
theorem operWp_of_only {o : Oper} {a : Act} {K K' : Act → World → Prop} {w : World} (hK : ∀ a w, K a w → K' a w) (h : o.wp P a w K (onlyQ Q)) : o.wp P a w K' Q := by
 unfold Oper.wp at h ⊢
 generalize (execOp a.eval o).run P w = r at *
 cases r with
 | ok x w' =>
  cases x <;> simp only [Oper.upon] at h <;> simp only [Oper.upon]
  case value u => exact hK _ _ h
  case skip => exact hK _ _ h
  case defer d => exact hK _ _ h
  case enter f args =>
   refine h.mono ?_
   intro e w'' he
   cases e with
   | returned v => exact hK _ _ he
   | panicked c => exact he.elim
   | outgrown => exact (onlyQ_lets he).elim
  case row rw_ args => exact h.mono fun v w'' hv => hK _ _ hv
 | halt x w' =>
  cases x <;> simp only [Oper.upon] at h
  exact h.elim
theorem wpAny_of_only : ∀ (fuel : Nat) (listed : Array Bool) (a : Act) (w : World), wpAny P md ops (onlyQ Q) fuel listed a w → wpAny P md ops Q fuel listed a w
 | 0, _, _, _, h => h
 | fuel + 1, listed, a, w, h => ⟨h.1, fun i hi => by
   have h1 := h.2 i hi
   unfold wpOp at h1 ⊢
   split
   ·rename_i ho; simp only [ho] at h1; exact wpAny_of_only fuel _ _ _ h1
   ·rename_i o ho
    simp only [ho] at h1
    split
    ·rename_i hw
     simp only [hw, if_true] at h1
     rcases h1 with h1 | ⟨-, h1⟩
     ·exact .inl (operWp_of_only (fun a w hk => wpAny_of_only fuel _ a w hk) h1)
     ·exact (onlyQ_lets h1).elim
    ·rename_i hw
     simp only [hw] at h1
     exact wpAny_of_only fuel _ _ _ h1⟩
theorem wp_region_uptoQ {id : Nat} {a : Act} {w : World} (last : Nat) (hm : P.follows .mixedOrders = true) (hS : S w.drew)
  (h : S w.drew → wpAnyU P .any ops (onlyQ Q) S last ops.size (Array.replicate ops.size false) a w.drew) : (Code.region id ops true).wp P Q a w :=
 wp_region_any hm (wpAny_of_only _ _ _ _ (wpAny_of_upto _ _ _ _ (h hS)))
theorem wpIn_region_upto {l n id : Nat} {a : Act} {w : World} (last : Nat) (hm : P.follows .mixedOrders = true) (hnd : noDefer ops = true) (hS : S w.drew)
  (h : S w.drew → wpAnyU P .any ops (onlyQ Q) S last ops.size (Array.replicate ops.size false) a w.drew) : (Code.region id ops true).wpIn (Fence.wide.inRound l) n P Q a w :=
 wpIn_region_any hm (wpAnyIn_of_wp hnd _ _ _ _ (wpAny_of_upto _ _ _ _ (h hS)))
end
end Go.Proofs.YtkoejeghihcmlaaGreat

namespace Go.Proofs.YtkoejeghihcmlaaGreat
structure Cm where
 fam : Int
 hd : Int
 lo : Int
 hi : Int
deriving DecidableEq, Inhabited
/-- what the cells from f to t are worth -/
def wor (ws : List Int) (f t : Int) : Int := ((ws.drop f.toNat).take (t + 1 - f).toNat).sum
def ft (at_ : Int) (c : Cm) : Int := max at_ c.lo
def tosL (c : Cm) (f : Int) : List Int := (List.range (c.hi + 1 - f).toNat).map fun (i : Nat) => f + (i : Int)
def nxt (con : Cm → Int → Bool) (ws : List Int) (c : Cm) (f : Int) : Option Int := (tosL c f).find? fun t => con c (wor ws f t)
structure Tr where
 ds : List (Int × Int)
 ss : List Int
 all : Bool
deriving DecidableEq, Inhabited
def gre (con : Cm → Int → Bool) (ws : List Int) : List Cm → Int → Tr
 | [], _ => ⟨[], [], true⟩
 | c :: l, a => match nxt con ws c (ft a c) with
  | none => ⟨[], [a], false⟩
  | some t => ⟨(ft a c, t) :: (gre con ws l (t + 1)).ds, a :: (gre con ws l (t + 1)).ss, (gre con ws l (t + 1)).all⟩
def shr : List Cm → List (Int × Int) → Int → Bool
 | [], [], _ => true
 | c :: l, d :: ds, last => decide (c.lo ≤ d.1 ∧ d.1 ≤ d.2 ∧ d.2 ≤ c.hi ∧ last < d.1) && shr l ds d.2
 | _, _, _ => false
def cons_ (con : Cm → Int → Bool) (ws : List Int) : List Cm → List (Int × Int) → Bool
 | c :: l, d :: ds => con c (wor ws d.1 d.2) && cons_ con ws l ds
 | _, _ => true
theorem nxt_spec {con : Cm → Int → Bool} {ws : List Int} {c : Cm} {f t : Int} (h : nxt con ws c f = some t) :
  f ≤ t ∧ t ≤ c.hi ∧ con c (wor ws f t) = true ∧ ∀ s, f ≤ s → s < t → con c (wor ws f s) = false := by
 unfold nxt tosL at h
 rw [List.find?_map] at h
 obtain ⟨i, hi, rfl⟩ := Option.map_eq_some_iff.1 h
 rw [List.find?_range_eq_some] at hi
 obtain ⟨h1, h2, h3⟩ := hi
 rw [List.mem_range] at h2
 refine ⟨by omega, by omega, h1, fun s hs1 hs2 => ?_⟩
 have := h3 (s - f).toNat (by omega)
 simp only [Function.comp] at this
 rw [show f + (((s - f).toNat : Nat) : Int) = s by omega] at this
 simpa using this
theorem nxt_none {con : Cm → Int → Bool} {ws : List Int} {c : Cm} {f : Int} (h : nxt con ws c f = none) :
  ∀ s, f ≤ s → s ≤ c.hi → con c (wor ws f s) = false := by
 intro s h1 h2
 unfold nxt tosL at h
 rw [List.find?_eq_none] at h
 have := h s (List.mem_map.2 ⟨(s - f).toNat, List.mem_range.2 (by omega), (by show f + (((s - f).toNat : Nat) : Int) = s; omega)⟩)
 simpa using this
theorem wor_take_le {ws : List Int} (h0 : ∀ x ∈ ws, 0 ≤ x) : 0 ≤ ws.sum := by
 induction ws with
 | nil => simp
 | cons x l ih =>
  have := ih fun y hy => h0 y (List.mem_cons_of_mem _ hy)
  have := h0 x List.mem_cons_self
  simp only [List.sum_cons]; omega
theorem take_sum_le {l : List Int} (h0 : ∀ x ∈ l, 0 ≤ x) {i j : Nat} (h : i ≤ j) : (l.take i).sum ≤ (l.take j).sum := by
 have e : l.take j = l.take i ++ (l.drop i).take (j - i) := by
  rw [← List.take_append_drop i (l.take j), List.take_take, List.drop_take, Nat.min_eq_left h]
 rw [e, List.sum_append]
 have := wor_take_le (ws := (l.drop i).take (j - i)) fun x hx => h0 x (List.mem_of_mem_drop (List.mem_of_mem_take hx))
 omega
theorem wor_mono {ws : List Int} (h0 : ∀ x ∈ ws, 0 ≤ x) {f t f' t' : Int} (hf : 0 ≤ f') (h1 : f' ≤ f) (h2 : t ≤ t') : wor ws f t ≤ wor ws f' t' := by
 unfold wor
 by_cases hft : t + 1 ≤ f
 ·rw [show (t + 1 - f).toNat = 0 by omega]
  simp only [List.take_zero, List.sum_nil]
  exact wor_take_le fun x hx => h0 x (List.mem_of_mem_drop (List.mem_of_mem_take hx))
 ·have e : (ws.drop f.toNat).take (t + 1 - f).toNat = ((ws.drop f'.toNat).take (t + 1 - f').toNat).drop (f - f').toNat := by
   rw [List.drop_take, List.drop_drop]
   congr 1
   ·omega
   ·congr 1; omega
  rw [e]
  have h3 := take_sum_le (l := ws.drop f'.toNat) (fun x hx => h0 x (List.mem_of_mem_drop hx)) (i := (t + 1 - f').toNat) (j := (t' + 1 - f').toNat) (by omega)
  have h4 := List.take_append_drop (f - f').toNat ((ws.drop f'.toNat).take (t + 1 - f').toNat)
  have h5 := congrArg List.sum h4
  rw [List.sum_append] at h5
  have := wor_take_le (ws := ((ws.drop f'.toNat).take (t + 1 - f').toNat).take (f - f').toNat) fun x hx => h0 x (List.mem_of_mem_drop (List.mem_of_mem_take (List.mem_of_mem_take hx)))
  omega
theorem wor_none {ws : List Int} {f t : Int} (h : t < f) : wor ws f t = 0 := by
 unfold wor
 rw [show (t + 1 - f).toNat = 0 by omega]; simp
theorem wor_nn {ws : List Int} (h0 : ∀ x ∈ ws, 0 ≤ x) (f t : Int) : 0 ≤ wor ws f t :=
 wor_take_le fun x hx => h0 x (List.mem_of_mem_drop (List.mem_of_mem_take hx))
/-- content with a worth, content with more -/
def Mono (con : Cm → Int → Bool) : Prop := ∀ (c : Cm) (n m : Int), n ≤ m → con c n = true → con c m = true
theorem gre_shr {con : Cm → Int → Bool} {ws : List Int} : ∀ (l : List Cm) (a : Int), (gre con ws l a).all = true → shr l (gre con ws l a).ds (a - 1) = true
 | [], _, _ => rfl
 | c :: l, a, h => by
  unfold gre at h ⊢
  split at h
  ·simp at h
  ·rename_i t ht
   have hs := nxt_spec ht
   simp only [shr, Bool.and_eq_true, decide_eq_true_eq]
   have := gre_shr l (t + 1) h
   rw [show t + 1 - 1 = t by omega] at this
   refine ⟨⟨?_, ?_, ?_, ?_⟩, this⟩ <;> unfold ft at * <;> omega
theorem gre_cons {con : Cm → Int → Bool} {ws : List Int} : ∀ (l : List Cm) (a : Int), cons_ con ws l (gre con ws l a).ds = true
 | [], _ => rfl
 | c :: l, a => by
  unfold gre
  split
  ·rfl
  ·rename_i t ht
   simp only [cons_, Bool.and_eq_true]
   exact ⟨(nxt_spec ht).2.2.1, gre_cons l (t + 1)⟩
/-- who is content with some sharing finds one by taking the shortest -/
theorem gre_best {con : Cm → Int → Bool} {ws : List Int} (hm : Mono con) (h0 : ∀ x ∈ ws, 0 ≤ x) :
  ∀ (l : List Cm) (ds : List (Int × Int)) (a last : Int), (∀ c ∈ l, 0 ≤ c.lo) → 0 ≤ a → a ≤ last + 1 → shr l ds last = true → cons_ con ws l ds = true → (gre con ws l a).all = true
 | [], _, _, _, _, _, _, _, _ => rfl
 | c :: l, [], _, _, _, _, _, h, _ => by simp [shr] at h
 | c :: l, d :: ds, a, last, hp, ha0, ha, h, hc => by
  simp only [shr, Bool.and_eq_true, decide_eq_true_eq] at h
  simp only [cons_, Bool.and_eq_true] at hc
  obtain ⟨⟨h1, h2, h3, h4⟩, h5⟩ := h
  have hlo := hp c List.mem_cons_self
  have hcon : ∀ t, d.2 ≤ t → con c (wor ws (ft a c) t) = true := fun t ht =>
   hm c _ _ (wor_mono h0 (f := d.1) (t := d.2) (by unfold ft; omega) (by unfold ft; omega) ht) hc.1
  unfold gre
  cases e : nxt con ws c (ft a c) with
  | none =>
   have := nxt_none e d.2 (by unfold ft; omega) h3
   rw [hcon d.2 (Int.le_refl _)] at this; cases this
  | some t =>
   simp only
   have hs := nxt_spec e
   have : t ≤ d.2 := by
    apply Classical.byContradiction; intro hlt
    have := hs.2.2.2 d.2 (by unfold ft; omega) (by omega)
    rw [hcon d.2 (Int.le_refl _)] at this; cases this
   exact gre_best hm h0 l ds (t + 1) d.2 (fun c hc => hp c (List.mem_cons_of_mem _ hc)) (by unfold ft at hs; omega) (by omega) h5 hc.2
/-- a gain in lowest terms -/
def low (n d : Int) : Int × Int := (n / (Int.gcd n d : Int), d / (Int.gcd n d : Int))
def agn (a b : Int × Int) : Int := if a.1 * b.2 < b.1 * a.2 then -1 else if a.1 * b.2 = b.1 * a.2 then 0 else 1
def abv (g : Int × Int) (c : Cm) (n : Int) : Bool := decide (0 < agn (n, c.hd) g)
def any_ (_ : Cm) (_ : Int) : Bool := true
def gai (ws : List Int) (c : Cm) (d : Int × Int) : Int × Int := low (wor ws d.1 d.2) c.hd
def gns (ws : List Int) : List Cm → List (Int × Int) → List (Int × Int)
 | c :: l, d :: ds => gai ws c d :: gns ws l ds
 | _, _ => []
def lea2 (a b : Int × Int) : Int × Int := if agn b a < 0 then b else a
def poo : List (Int × Int) → Int × Int
 | [] => (0, 0)
 | g :: l => l.foldl lea2 g
theorem agn_pos {a b : Int × Int} : 0 < agn a b ↔ b.1 * a.2 < a.1 * b.2 := by
 unfold agn; split <;> (try split) <;> omega
theorem agn_neg {a b : Int × Int} : agn a b < 0 ↔ a.1 * b.2 < b.1 * a.2 := by
 unfold agn; split <;> (try split) <;> omega
theorem agn_le {a b : Int × Int} : agn a b ≤ 0 ↔ a.1 * b.2 ≤ b.1 * a.2 := by
 unfold agn; split <;> (try split) <;> omega
theorem abv_iff {g : Int × Int} {c : Cm} {n : Int} : abv g c n = true ↔ g.1 * c.hd < n * g.2 := by
 unfold abv; rw [decide_eq_true_eq, agn_pos]
theorem abv_mono {g : Int × Int} (hg : 0 ≤ g.2) : Mono (abv g) := fun c n m h hn => by
 rw [abv_iff] at hn ⊢
 have := Int.mul_le_mul_of_nonneg_right h hg
 omega
/-- a gain that is one -/
def okGn (g : Int × Int) : Prop := 0 ≤ g.1 ∧ 1 ≤ g.2
theorem low_ok {n d : Int} (hn : 0 ≤ n) (hd : 1 ≤ d) : okGn (low n d) ∧ (low n d).1 ≤ n ∧ (low n d).2 ≤ d ∧ (low n d).1 * d = n * (low n d).2 ∧ (low n d).2 ∣ d := by
 have hg : 0 < (Int.gcd n d : Int) := by
  have := Int.gcd_pos_of_ne_zero_right n (show d ≠ 0 by omega)
  omega
 have d1 : (Int.gcd n d : Int) ∣ n := Int.gcd_dvd_left ..
 have d2 : (Int.gcd n d : Int) ∣ d := Int.gcd_dvd_right ..
 obtain ⟨x, hx⟩ := d1
 obtain ⟨y, hy⟩ := d2
 unfold low okGn
 simp only
 generalize (Int.gcd n d : Int) = q at *
 have e1 : n / q = x := by rw [hx]; exact Int.mul_ediv_cancel_left _ (by omega)
 have e2 : d / q = y := by rw [hy]; exact Int.mul_ediv_cancel_left _ (by omega)
 rw [e1, e2]
 have hx0 : 0 ≤ x := by
  apply Classical.byContradiction; intro h
  have := Int.mul_neg_of_pos_of_neg hg (show x < 0 by omega)
  omega
 have hy0 : 0 < y := by
  apply Classical.byContradiction; intro h
  have := Int.mul_nonpos_of_nonneg_of_nonpos (show 0 ≤ q by omega) (show y ≤ 0 by omega)
  omega
 have hx1 : x ≤ q * x := by
  have := Int.mul_le_mul_of_nonneg_right (show 1 ≤ q by omega) hx0
  omega
 have hy1 : y ≤ q * y := by
  have := Int.mul_le_mul_of_nonneg_right (show 1 ≤ q by omega) (show 0 ≤ y by omega)
  omega
 refine ⟨⟨hx0, hy0⟩, by omega, by omega, ?_, ⟨q, by rw [hy, Int.mul_comm]⟩⟩
 rw [hx, hy, ← Int.mul_assoc, Int.mul_comm x q]
theorem mul_pos_lt {a b c : Int} (hc : 0 < c) (h : a < b) : a * c < b * c := Int.mul_lt_mul_of_pos_right h hc
theorem frac_lt_of {a b c d x y : Int} (hy : 0 < y) (hd : 0 < d) (hb : 0 < b) (h1 : a * d < c * b) (h2 : c * y ≤ x * d) : a * y < x * b := by
 have e1 : a * d * y < c * b * y := mul_pos_lt hy h1
 have e2 : c * y * b ≤ x * d * b := Int.mul_le_mul_of_nonneg_right h2 (by omega)
 have e3 : c * b * y = c * y * b := by rw [Int.mul_assoc, Int.mul_comm b y, ← Int.mul_assoc]
 have e4 : a * d * y = a * y * d := by rw [Int.mul_assoc, Int.mul_comm d y, ← Int.mul_assoc]
 have e5 : x * d * b = x * b * d := by rw [Int.mul_assoc, Int.mul_comm d b, ← Int.mul_assoc]
 rw [e3, e4] at e1; rw [e5] at e2
 have : a * y * d < x * b * d := by omega
 exact Int.lt_of_mul_lt_mul_right this (by omega)
theorem frac_le_trans {a b c d x y : Int} (hd : 0 < d) (hb : 0 ≤ b) (hy : 0 ≤ y) (h1 : a * d ≤ c * b) (h2 : c * y ≤ x * d) : a * y ≤ x * b := by
 have e1 : a * d * y ≤ c * b * y := Int.mul_le_mul_of_nonneg_right h1 hy
 have e2 : c * y * b ≤ x * d * b := Int.mul_le_mul_of_nonneg_right h2 hb
 have e3 : c * b * y = c * y * b := by rw [Int.mul_assoc, Int.mul_comm b y, ← Int.mul_assoc]
 have e4 : a * d * y = a * y * d := by rw [Int.mul_assoc, Int.mul_comm d y, ← Int.mul_assoc]
 have e5 : x * d * b = x * b * d := by rw [Int.mul_assoc, Int.mul_comm d b, ← Int.mul_assoc]
 rw [e3, e4] at e1; rw [e5] at e2
 exact Int.le_of_mul_le_mul_right (show a * y * d ≤ x * b * d by omega) hd
theorem foldl_poo : ∀ (l : List (Int × Int)) (g : Int × Int), okGn g → (∀ x ∈ l, okGn x) →
  l.foldl lea2 g ∈ g :: l ∧ ∀ x ∈ g :: l, agn (l.foldl lea2 g) x ≤ 0
 | [], g, _, _ => ⟨List.mem_cons_self, fun x hx => by
   simp only [List.mem_singleton] at hx; subst hx
   rw [List.foldl_nil, agn_le]; omega⟩
 | y :: l, g, hg, hl => by
  have hy := hl y List.mem_cons_self
  have hk : okGn (lea2 g y) := by unfold lea2; split <;> assumption
  obtain ⟨h1, h2⟩ := foldl_poo l (lea2 g y) hk fun x hx => hl x (List.mem_cons_of_mem _ hx)
  rw [List.foldl_cons]
  have hok : okGn (l.foldl lea2 (lea2 g y)) := by
   rcases List.mem_cons.1 h1 with h | h
   ·rw [h]; exact hk
   ·exact hl _ (List.mem_cons_of_mem _ h)
  have h3 := h2 (lea2 g y) List.mem_cons_self
  refine ⟨?_, fun x hx => ?_⟩
  ·rcases List.mem_cons.1 h1 with h | h
   ·rw [h]; unfold lea2; split
    ·exact List.mem_cons_of_mem _ List.mem_cons_self
    ·exact List.mem_cons_self
   ·exact List.mem_cons_of_mem _ (List.mem_cons_of_mem _ h)
  ·have key : ∀ z, agn (lea2 g y) z ≤ 0 → 1 ≤ z.2 → agn (l.foldl lea2 (lea2 g y)) z ≤ 0 := fun z hz hz2 => by
    rw [agn_le] at hz h3 ⊢
    unfold okGn at hk hok
    exact frac_le_trans (d := (lea2 g y).2) (by omega) (by omega) (by omega) h3 hz
   rcases List.mem_cons.1 hx with h | h
   ·subst h
    refine key _ ?_ hg.2
    unfold lea2; split
    ·rename_i h; omega
    ·rw [agn_le]; omega
   ·rcases List.mem_cons.1 h with h | h
    ·subst h
     refine key _ ?_ hy.2
     unfold lea2; split
     ·rw [agn_le]; omega
     ·rename_i h; rw [agn_neg] at h; rw [agn_le]; omega
    ·exact h2 x (List.mem_cons_of_mem _ h)
theorem poo_spec {l : List (Int × Int)} (hne : l ≠ []) (hl : ∀ x ∈ l, okGn x) : poo l ∈ l ∧ ∀ x ∈ l, agn (poo l) x ≤ 0 := by
 cases l with
 | nil => exact absurd rfl hne
 | cons g l => exact foldl_poo l g (hl g List.mem_cons_self) fun x hx => hl x (List.mem_cons_of_mem _ hx)
def cat (l : List Cm) (i : Nat) : Cm := l.getD i default
def sat (l : List Int) (i : Nat) : Int := l.getD i 0
theorem cat_cons (c : Cm) (l : List Cm) (i : Nat) : cat (c :: l) (i + 1) = cat l i := rfl
theorem cat_zero (c : Cm) (l : List Cm) : cat (c :: l) 0 = c := rfl
theorem sat_cons (c : Int) (l : List Int) (i : Nat) : sat (c :: l) (i + 1) = sat l i := rfl
theorem sat_zero (c : Int) (l : List Int) : sat (c :: l) 0 = c := rfl
theorem cat_mem {l : List Cm} {i : Nat} (h : i < l.length) : cat l i ∈ l := by
 unfold cat; rw [List.getD_eq_getElem?_getD, List.getElem?_eq_getElem h]; exact List.getElem_mem h
theorem cat_get {l : List Cm} {i : Nat} (h : i < l.length) : l[i]? = some (cat l i) := by
 unfold cat; rw [List.getD_eq_getElem?_getD, List.getElem?_eq_getElem h]; rfl
theorem sat_mem {l : List Int} {i : Nat} (h : i < l.length) : sat l i ∈ l := by
 unfold sat; rw [List.getD_eq_getElem?_getD, List.getElem?_eq_getElem h]; exact List.getElem_mem h
theorem sat_get {l : List Int} {i : Nat} (h : i < l.length) : l[i]? = some (sat l i) := by
 unfold sat; rw [List.getD_eq_getElem?_getD, List.getElem?_eq_getElem h]; rfl
/-- claims as a ground of so many cells has them -/
def okC (n : Nat) (c : Cm) : Prop := 1 ≤ c.fam ∧ c.fam ≤ 99 ∧ 1 ≤ c.hd ∧ c.hd ≤ 20 ∧ 0 ≤ c.lo ∧ c.lo ≤ c.hi ∧ c.hi < n ∧ n ≤ 24
structure GreAt (con : Cm → Int → Bool) (ws : List Int) (l : List Cm) (a : Int) (r : Tr) : Prop where
 len : r.ss.length ≤ l.length
 zero : r.ss ≠ [] → sat r.ss 0 = a
 dlen : r.all = true → r.ds.length = l.length ∧ r.ss.length = l.length
 step : ∀ i, i + 1 < r.ss.length → nxt con ws (cat l i) (ft (sat r.ss i) (cat l i)) = some (sat r.ss (i + 1) - 1)
 no : r.all = false → r.ss ≠ [] ∧ nxt con ws (cat l (r.ss.length - 1)) (ft (sat r.ss (r.ss.length - 1)) (cat l (r.ss.length - 1))) = none
theorem gre_at {con : Cm → Int → Bool} {ws : List Int} : ∀ (l : List Cm) (a : Int), GreAt con ws l a (gre con ws l a)
 | [], _ => ⟨Nat.le_refl _, fun h => absurd rfl h, fun _ => ⟨rfl, rfl⟩, fun i h => by simp [gre] at h, fun h => by simp [gre] at h⟩
 | c :: l, a => by
  unfold gre
  cases e : nxt con ws c (ft a c) with
  | none =>
   refine ⟨by simp, fun _ => rfl, fun h => by simp at h, fun i h => by simp at h, fun _ => ⟨by simp, ?_⟩⟩
   exact e
  | some t =>
   have ih := gre_at (con := con) (ws := ws) l (t + 1)
   refine ⟨by simp only [List.length_cons]; have := ih.len; omega, fun _ => rfl, fun h => by
    have := ih.dlen h
    simp only [List.length_cons]; omega, fun i hi => ?_, fun h => ⟨by simp, ?_⟩⟩
   ·cases i with
    | zero =>
     simp only [List.length_cons] at hi
     have hz := ih.zero (fun hh => by rw [hh] at hi; simp at hi)
     rw [cat_zero, sat_zero, sat_cons, hz, e]; congr 1; omega
    | succ i =>
     simp only [List.length_cons] at hi
     rw [cat_cons, sat_cons, sat_cons]; exact ih.step i (by omega)
   ·have hn := ih.no h
    have hlen : 0 < (gre con ws l (t + 1)).ss.length := List.length_pos_iff.2 hn.1
    simp only [List.length_cons, Nat.add_sub_cancel]
    obtain ⟨m, hm⟩ : ∃ m, (gre con ws l (t + 1)).ss.length = m + 1 := ⟨_, (Nat.sub_add_cancel hlen).symm⟩
    have h2 := hn.2
    rw [hm] at h2 ⊢
    rw [cat_cons, sat_cons]
    exact h2
theorem gre_starts {con : Cm → Int → Bool} {ws : List Int} {l : List Cm} {n : Nat} (hl : ∀ c ∈ l, okC n c) : ∀ i, i < (gre con ws l 0).ss.length → 0 ≤ sat (gre con ws l 0).ss i ∧ sat (gre con ws l 0).ss i ≤ n := by
 have H := gre_at (con := con) (ws := ws) l 0
 intro i
 induction i with
 | zero =>
  intro h
  rw [H.zero (fun hh => by rw [hh] at h; simp at h)]; omega
 | succ i ih =>
  intro h
  have h1 := ih (by omega)
  have h2 := nxt_spec (H.step i h)
  have h3 := hl _ (cat_mem (i := i) (by have := H.len; omega))
  unfold okC at h3; unfold ft at h2
  omega
/-- what shows that nobody gives all more than a gain -/
structure WallOk (ws : List Int) (l : List Cm) (g : Int × Int) (st : List Int) : Prop where
 many : 2 ≤ st.length ∧ st.length ≤ l.length + 1
 hd : sat st 0 = (cat l 0).lo
 inn : ∀ x ∈ st, 0 ≤ x ∧ x ≤ 25
 step : ∀ i, i + 1 < st.length → max (sat st i) (cat l i).lo < sat st (i + 1) ∧ abv g (cat l i) (wor ws (max (sat st i) (cat l i).lo) (sat st (i + 1) - 2)) = false
 last : (cat l (st.length - 2)).hi < sat st (st.length - 1) - 1
def wallS (l : List Cm) (ss : List Int) : List Int :=
 ss.set 0 (cat l 0).lo ++ [max (max (sat (ss.set 0 (cat l 0).lo) (ss.length - 1)) (cat l (ss.length - 1)).lo + 1) ((cat l (ss.length - 1)).hi + 2)]
theorem sat_set_ne {ss : List Int} {i j : Nat} {v : Int} (h : i ≠ j) : sat (ss.set i v) j = sat ss j := by
 unfold sat; rw [List.getD_eq_getElem?_getD, List.getD_eq_getElem?_getD, List.getElem?_set_ne h]
theorem sat_set_eq {ss : List Int} {i : Nat} {v : Int} (h : i < ss.length) : sat (ss.set i v) i = v := by
 unfold sat; rw [List.getD_eq_getElem?_getD, List.getElem?_set_self h]; rfl
theorem sat_app {ss : List Int} {i : Nat} {v : Int} (h : i < ss.length) : sat (ss ++ [v]) i = sat ss i := by
 unfold sat; rw [List.getD_eq_getElem?_getD, List.getD_eq_getElem?_getD, List.getElem?_append_left h]
theorem sat_end {ss : List Int} {v : Int} : sat (ss ++ [v]) ss.length = v := by
 unfold sat; rw [List.getD_eq_getElem?_getD, List.getElem?_append_right (Nat.le_refl _)]; simp
theorem sat_all {P : Int → Prop} {ss : List Int} (h : ∀ i, i < ss.length → P (sat ss i)) : ∀ x ∈ ss, P x := fun x hx => by
 obtain ⟨i, hi, rfl⟩ := List.mem_iff_getElem.1 hx
 have := h i hi
 have e := sat_get hi
 rw [List.getElem?_eq_getElem hi] at e
 injection e with e; rw [e]; exact this
theorem abv_zero {g : Int × Int} (hg : okGn g) {c : Cm} (hc : 1 ≤ c.hd) : abv g c 0 = false := by
 rw [Bool.eq_false_iff]; intro h
 rw [abv_iff] at h
 have := Int.mul_nonneg hg.1 (show 0 ≤ c.hd by omega)
 omega
theorem wall_ok {ws : List Int} {l : List Cm} {n : Nat} {g : Int × Int} (hl : ∀ c ∈ l, okC n c) (hg : okGn g) (h : (gre (abv g) ws l 0).all = false) :
  WallOk ws l g (wallS l (gre (abv g) ws l 0).ss) := by
 have H := gre_at (con := abv g) (ws := ws) l 0
 have hs := gre_starts (con := abv g) (ws := ws) hl
 obtain ⟨hne, hno⟩ := H.no h
 have hll := H.len
 have hz := H.zero hne
 have hst := H.step
 clear H
 generalize (gre (abv g) ws l 0).ss = ss at *
 have hlen : 0 < ss.length := List.length_pos_iff.2 hne
 have h0 := hl _ (cat_mem (l := l) (i := 0) (by omega))
 -- the starts with the first one set
 have hft : ∀ i, i < ss.length → max (sat (ss.set 0 (cat l 0).lo) i) (cat l i).lo = ft (sat ss i) (cat l i) := fun i hi => by
  by_cases e : i = 0
  ·subst e; rw [sat_set_eq hlen, hz]; unfold ft; unfold okC at h0; omega
  ·rw [sat_set_ne (Ne.symm e)]; rfl
 have hnx : ∀ i, i ≠ 0 → sat (ss.set 0 (cat l 0).lo) i = sat ss i := fun i hi => sat_set_ne (Ne.symm hi)
 have hsl : (ss.set 0 (cat l 0).lo).length = ss.length := List.length_set
 have hk := hl _ (cat_mem (l := l) (i := ss.length - 1) (by omega))
 have hwl : (wallS l ss).length = ss.length + 1 := by unfold wallS; rw [List.length_append, hsl]; rfl
 have hwat : ∀ i, i < ss.length → sat (wallS l ss) i = sat (ss.set 0 (cat l 0).lo) i := fun i hi => by
  unfold wallS; exact sat_app (by rw [hsl]; exact hi)
 have hwend : sat (wallS l ss) ss.length = max (ft (sat ss (ss.length - 1)) (cat l (ss.length - 1)) + 1) ((cat l (ss.length - 1)).hi + 2) := by
  rw [← hft _ (by omega)]
  unfold wallS
  have := sat_end (ss := ss.set 0 (cat l 0).lo) (v := max (max (sat (ss.set 0 (cat l 0).lo) (ss.length - 1)) (cat l (ss.length - 1)).lo + 1) ((cat l (ss.length - 1)).hi + 2))
  rw [hsl] at this; exact this
 refine ⟨by omega, ?_, ?_, fun i hi => ?_, ?_⟩
 ·rw [hwat 0 hlen, sat_set_eq hlen]
 ·refine sat_all fun i hi => ?_
  rw [hwl] at hi
  by_cases e : i < ss.length
  ·rw [hwat i e]
   by_cases e0 : i = 0
   ·subst e0; rw [sat_set_eq hlen]; unfold okC at h0; omega
   ·rw [hnx i e0]; have := hs i e; unfold okC at h0; omega
  ·rw [show i = ss.length by omega, hwend]
   have := hs (ss.length - 1) (by omega)
   unfold okC at hk; unfold ft; omega
 ·rw [hwl] at hi
  rw [hwat i (by omega), hft i (by omega)]
  have hc := hl _ (cat_mem (l := l) (i := i) (by omega))
  by_cases e : i + 1 < ss.length
  ·rw [hwat _ e, hnx _ (by omega)]
   have hx := nxt_spec (hst i e)
   refine ⟨by omega, ?_⟩
   by_cases e2 : sat ss (i + 1) - 2 < ft (sat ss i) (cat l i)
   ·rw [wor_none e2]; exact abv_zero hg hc.2.2.1
   ·exact hx.2.2.2 _ (by omega) (by omega)
  ·have ei : i = ss.length - 1 := by omega
   rw [show i + 1 = ss.length by omega, hwend, ← ei]
   rw [← ei] at hno
   refine ⟨by omega, ?_⟩
   by_cases e2 : (cat l i).hi < ft (sat ss i) (cat l i)
   ·rw [wor_none (by omega)]; exact abv_zero hg hc.2.2.1
   ·exact nxt_none hno _ (by omega) (by omega)
 ·rw [hwl]
  rw [show ss.length + 1 - 2 = ss.length - 1 by omega, show ss.length + 1 - 1 = ss.length by omega, hwend]
  omega
/-- back to the claim that begins where it wants to -/
def crd (l : List Cm) (ss : List Int) : Nat → Nat
 | 0 => 0
 | k + 1 => if (cat l (k + 1)).lo < sat ss (k + 1) then crd l ss k else k + 1
theorem crd_le (l : List Cm) (ss : List Int) : ∀ k, crd l ss k ≤ k
 | 0 => Nat.le_refl _
 | k + 1 => by unfold crd; split; exact Nat.le_succ_of_le (crd_le l ss k); exact Nat.le_refl _
theorem nxt_any {ws : List Int} {c : Cm} {f : Int} : nxt any_ ws c f = if f ≤ c.hi then some f else none := by
 cases e : nxt any_ ws c f with
 | none =>
  split
  ·have := nxt_none e f (Int.le_refl _) (by assumption); cases this
  ·rfl
 | some t =>
  have h := nxt_spec e
  rw [if_pos (by omega)]
  by_cases e2 : f < t
  ·have := h.2.2.2 f (Int.le_refl _) e2; cases this
  ·congr 1; omega
theorem crowd_ok {ws : List Int} {l : List Cm} {n : Nat} (hl : ∀ c ∈ l, okC n c) (h : (gre any_ ws l 0).all = false) :
  ∀ k f, k = (gre any_ ws l 0).ss.length - 1 → f = crd l (gre any_ ws l 0).ss k →
   k < l.length ∧ f ≤ k ∧ (cat l k).hi - (cat l f).lo + 1 ≤ (k : Int) - f := by
 have H := gre_at (con := any_) (ws := ws) l 0
 obtain ⟨hne, hno⟩ := H.no h
 have hs := gre_starts (con := any_) (ws := ws) hl
 have hll := H.len
 have hz := H.zero hne
 have hst0 := H.step
 clear H
 generalize (gre any_ ws l 0).ss = ss at *
 rintro k f rfl rfl
 have hlen : 0 < ss.length := List.length_pos_iff.2 hne
 refine ⟨by omega, crd_le _ _ _, ?_⟩
 have hst : ∀ i, i + 1 < ss.length → sat ss (i + 1) = ft (sat ss i) (cat l i) + 1 := fun i hi => by
  have := hst0 i hi
  rw [nxt_any] at this
  split at this
  ·injection this with this; omega
  ·cases this
 -- what begins at the claim that wants so goes on cell by cell
 have key : ∀ k, k < ss.length → ft (sat ss k) (cat l k) = (cat l (crd l ss k)).lo + ((k : Int) - (crd l ss k : Nat)) := by
  intro k
  induction k with
  | zero =>
   intro hk
   have h0 := hl _ (cat_mem (l := l) (i := 0) (by omega))
   unfold okC at h0
   unfold ft crd; omega
  | succ k ih =>
   intro hk
   unfold crd
   split
   ·rename_i hlt
    rw [show ft (sat ss (k + 1)) (cat l (k + 1)) = sat ss (k + 1) by unfold ft; omega, hst k hk, ih (by omega)]
    omega
   ·rename_i hlt
    unfold ft; omega
 have h1 := key (ss.length - 1) (by omega)
 rw [nxt_any] at hno
 split at hno
 ·cases hno
 ·omega
theorem gns_mem {ws : List Int} (h0 : ∀ x ∈ ws, 0 ≤ x) : ∀ {l : List Cm} {ds : List (Int × Int)} {x : Int × Int}, x ∈ gns ws l ds → ∃ c ∈ l, ∃ d ∈ ds, x = low (wor ws d.1 d.2) c.hd
 | [], _, _, h => by simp [gns] at h
 | _ :: _, [], _, h => by simp [gns] at h
 | c :: l, d :: ds, x, h => by
  simp only [gns] at h
  rcases List.mem_cons.1 h with h | h
  ·exact ⟨c, List.mem_cons_self, d, List.mem_cons_self, h⟩
  ·obtain ⟨c', hc, d', hd, e⟩ := gns_mem h0 h
   exact ⟨c', List.mem_cons_of_mem _ hc, d', List.mem_cons_of_mem _ hd, e⟩
theorem gns_len {ws : List Int} : ∀ {l : List Cm} {ds : List (Int × Int)} {a : Int}, shr l ds a = true → (gns ws l ds).length = l.length ∧ ds.length = l.length
 | [], [], _, _ => ⟨rfl, rfl⟩
 | [], _ :: _, _, h => by simp [shr] at h
 | _ :: _, [], _, h => by simp [shr] at h
 | c :: l, d :: ds, a, h => by
  simp only [shr, Bool.and_eq_true] at h
  have := gns_len (ws := ws) h.2
  simp only [gns, List.length_cons]; omega
theorem wor_sum {ws : List Int} (h0 : ∀ x ∈ ws, 0 ≤ x) (f t : Int) : wor ws f t ≤ ws.sum := by
 unfold wor
 have h1 := take_sum_le (l := ws.drop f.toNat) (fun x hx => h0 x (List.mem_of_mem_drop hx)) (i := (t + 1 - f).toNat) (j := (t + 1 - f).toNat + (ws.drop f.toNat).length) (by omega)
 rw [List.take_of_length_le (i := (t + 1 - f).toNat + (ws.drop f.toNat).length) (by omega)] at h1
 have h2 := congrArg List.sum (List.take_append_drop f.toNat ws)
 rw [List.sum_append] at h2
 have := wor_take_le (ws := ws.take f.toNat) fun x hx => h0 x (List.mem_of_mem_take hx)
 omega
theorem cons_gns {ws : List Int} (h0 : ∀ x ∈ ws, 0 ≤ x) {g : Int × Int} (hg : okGn g) : ∀ {l : List Cm} {ds : List (Int × Int)}, (∀ c ∈ l, 1 ≤ c.hd) → cons_ (abv g) ws l ds = true → ∀ x ∈ gns ws l ds, 0 < agn x g
 | [], _, _, _, _, h => by simp [gns] at h
 | _ :: _, [], _, _, _, h => by simp [gns] at h
 | c :: l, d :: ds, hc, h, x, hx => by
  simp only [cons_, Bool.and_eq_true] at h
  simp only [gns] at hx
  rcases List.mem_cons.1 hx with e | hx
  ·have h1 := abv_iff.1 h.1
   obtain ⟨k1, _, _, k4, _⟩ := low_ok (wor_nn h0 d.1 d.2) (hc c List.mem_cons_self)
   subst e
   rw [agn_pos]
   unfold gai
   unfold okGn at k1 hg
   have hc1 := hc c List.mem_cons_self
   exact frac_lt_of (d := c.hd) (c := wor ws d.1 d.2) (by omega) (by omega) (by omega) h1 (by omega)
  ·exact cons_gns h0 hg (fun c hc' => hc c (List.mem_cons_of_mem _ hc')) h.2 x hx
theorem gns_cons {ws : List Int} (h0 : ∀ x ∈ ws, 0 ≤ x) {g : Int × Int} (hg : okGn g) : ∀ {l : List Cm} {ds : List (Int × Int)}, (∀ c ∈ l, 1 ≤ c.hd) → (∀ x ∈ gns ws l ds, 0 < agn x g) → cons_ (abv g) ws l ds = true
 | [], _, _, _ => rfl
 | _ :: _, [], _, _ => rfl
 | c :: l, d :: ds, hc, h => by
  simp only [cons_, Bool.and_eq_true]
  refine ⟨?_, gns_cons h0 hg (fun c hc' => hc c (List.mem_cons_of_mem _ hc')) fun x hx => h x (List.mem_cons_of_mem _ hx)⟩
  have h1 := h (gai ws c d) (by simp only [gns]; exact List.mem_cons_self)
  obtain ⟨k1, _, _, k4, _⟩ := low_ok (wor_nn h0 d.1 d.2) (hc c List.mem_cons_self)
  rw [agn_pos] at h1
  rw [abv_iff]
  unfold gai at h1
  unfold okGn at k1 hg
  have hc1 := hc c List.mem_cons_self
  exact frac_lt_of (d := (low (wor ws d.1 d.2) c.hd).2) (c := (low (wor ws d.1 d.2) c.hd).1) (by omega) (by omega) (by omega) h1 (by omega)
def mo (ws : List Int) (l : List Cm) : Nat → Tr
 | 0 => gre any_ ws l 0
 | k + 1 => gre (abv (poo (gns ws l (mo ws l k).ds))) ws l 0
def lea (ws : List Int) (l : List Cm) (k : Nat) : Int × Int := poo (gns ws l (mo ws l k).ds)
/-- what the k-th try asks for -/
def conK (ws : List Int) (l : List Cm) : Nat → Cm → Int → Bool
 | 0 => any_
 | k + 1 => abv (lea ws l k)
theorem mo_con (ws : List Int) (l : List Cm) (k : Nat) : mo ws l k = gre (conK ws l k) ws l 0 := by cases k <;> rfl
structure Valid (ws : List Int) (l : List Cm) : Prop where
 ws0 : ∀ x ∈ ws, 0 ≤ x ∧ x ≤ 10000
 wl : ws.length ≤ 24
 ne : l ≠ []
 cl : ∀ c ∈ l, okC ws.length c
theorem Valid.w0 {ws : List Int} {l : List Cm} (V : Valid ws l) : ∀ x ∈ ws, 0 ≤ x := fun x hx => (V.ws0 x hx).1
theorem sum_bd : ∀ {ws : List Int}, (∀ x ∈ ws, 0 ≤ x ∧ x ≤ 10000) → ws.sum ≤ 10000 * ws.length
 | [], _ => by simp
 | x :: l, h => by
  have := sum_bd (ws := l) fun y hy => h y (List.mem_cons_of_mem _ hy)
  have := h x List.mem_cons_self
  simp only [List.sum_cons, List.length_cons]; omega
theorem Valid.wor_bd {ws : List Int} {l : List Cm} (V : Valid ws l) (f t : Int) : 0 ≤ wor ws f t ∧ wor ws f t ≤ 240000 := by
 have h1 := wor_nn V.w0 f t
 have h2 := wor_sum V.w0 f t
 have h3 := sum_bd V.ws0
 have h4 := V.wl
 omega
theorem Valid.gn {ws : List Int} {l : List Cm} (V : Valid ws l) {ds : List (Int × Int)} : ∀ x ∈ gns ws l ds, okGn x ∧ x.1 ≤ 240000 ∧ x.2 ≤ 20 := fun x hx => by
 obtain ⟨c, hc, d, _, rfl⟩ := gns_mem V.w0 hx
 have hb := V.wor_bd d.1 d.2
 have hk := V.cl c hc
 unfold okC at hk
 obtain ⟨k1, k2, k3, _⟩ := low_ok hb.1 hk.2.2.1
 exact ⟨k1, by omega, by omega⟩
theorem Valid.gne {ws : List Int} {l : List Cm} (V : Valid ws l) {ds : List (Int × Int)} {a : Int} (h : shr l ds a = true) : gns ws l ds ≠ [] := fun e => by
 have := (gns_len (ws := ws) h).1
 rw [e] at this
 exact V.ne (List.length_eq_zero_iff.1 this.symm)
theorem mo_shr {ws : List Int} {l : List Cm} {k : Nat} (h : (mo ws l k).all = true) : shr l (mo ws l k).ds (-1) = true := by
 rw [mo_con] at h ⊢
 exact gre_shr l 0 h
theorem Valid.lea_mem {ws : List Int} {l : List Cm} (V : Valid ws l) {k : Nat} (h : (mo ws l k).all = true) :
  lea ws l k ∈ gns ws l (mo ws l k).ds ∧ okGn (lea ws l k) ∧ (lea ws l k).1 ≤ 240000 ∧ (lea ws l k).2 ≤ 20 := by
 have h1 := poo_spec (V.gne (mo_shr h)) fun x hx => (V.gn x hx).1
 exact ⟨h1.1, V.gn _ h1.1⟩
theorem Valid.hd1 {ws : List Int} {l : List Cm} (V : Valid ws l) : ∀ c ∈ l, 1 ≤ c.hd := fun c hc => (V.cl c hc).2.2.1
theorem Valid.lea_up {ws : List Int} {l : List Cm} (V : Valid ws l) {k : Nat} (h : (mo ws l k).all = true) (h2 : (mo ws l (k + 1)).all = true) : 0 < agn (lea ws l (k + 1)) (lea ws l k) := by
 have hc : cons_ (abv (lea ws l k)) ws l (mo ws l (k + 1)).ds = true := gre_cons l 0
 exact cons_gns V.w0 (V.lea_mem h).2.1 V.hd1 hc _ (V.lea_mem h2).1
/-- the product of the heads -/
def prd : List Cm → Int
 | [] => 1
 | c :: l => c.hd * prd l
theorem prd_pos : ∀ {l : List Cm}, (∀ c ∈ l, 1 ≤ c.hd) → 0 < prd l
 | [], _ => by unfold prd; omega
 | c :: l, h => Int.mul_pos (by have := h c List.mem_cons_self; omega) (prd_pos fun c hc => h c (List.mem_cons_of_mem _ hc))
theorem dvd_prd : ∀ {l : List Cm} {c : Cm}, c ∈ l → c.hd ∣ prd l
 | x :: l, c, h => by
  rcases List.mem_cons.1 h with e | h
  ·subst e; exact ⟨prd l, rfl⟩
  ·obtain ⟨q, hq⟩ := dvd_prd h
   exact ⟨x.hd * q, by unfold prd; rw [hq, ← Int.mul_assoc, ← Int.mul_assoc, Int.mul_comm x.hd]⟩
theorem Valid.lea_dvd {ws : List Int} {l : List Cm} (V : Valid ws l) {k : Nat} (h : (mo ws l k).all = true) : (lea ws l k).2 ∣ prd l := by
 obtain ⟨c, hc, d, _, e⟩ := gns_mem V.w0 (V.lea_mem h).1
 rw [e]
 exact Int.dvd_trans (low_ok (V.wor_bd d.1 d.2).1 (V.hd1 c hc)).2.2.2.2 (dvd_prd hc)
theorem scale_lt {a b c d P x y : Int} (hb : 0 < b) (hd : 0 < d) (hP : 0 < P) (h1 : P = b * x) (h2 : P = d * y) (h : a * d < c * b) : a * x < c * y := by
 have e1 : a * d * P < c * b * P := mul_pos_lt hP h
 have e2 : a * d * P = a * x * (b * d) := by rw [h1]; simp only [Int.mul_left_comm, Int.mul_comm]
 have e3 : c * b * P = c * y * (b * d) := by rw [h2]; simp only [Int.mul_left_comm, Int.mul_comm]
 rw [e2, e3] at e1
 exact Int.lt_of_mul_lt_mul_right e1 (by have := Int.mul_pos hb hd; omega)
theorem Valid.lea_count {ws : List Int} {l : List Cm} (V : Valid ws l) : ∀ k, (∀ j ≤ k, (mo ws l j).all = true) → (k : Int) ≤ (lea ws l k).1 * (prd l / (lea ws l k).2)
 | 0, h => by
  have h1 := (V.lea_mem (h 0 (Nat.le_refl _))).2.1
  have h2 := prd_pos V.hd1
  exact Int.mul_nonneg h1.1 (Int.ediv_nonneg (by omega) (by have := h1.2; omega))
 | k + 1, h => by
  have ih := V.lea_count k fun j hj => h j (by omega)
  have a1 := h k (by omega)
  have a2 := h (k + 1) (Nat.le_refl _)
  obtain ⟨x, hx⟩ := V.lea_dvd a1
  obtain ⟨y, hy⟩ := V.lea_dvd a2
  have u := V.lea_up a1 a2
  rw [agn_pos] at u
  have p1 := (V.lea_mem a1).2.1.2
  have p2 := (V.lea_mem a2).2.1.2
  have e1 : prd l / (lea ws l k).2 = x := by rw [hx]; exact Int.mul_ediv_cancel_left _ (by omega)
  have e2 : prd l / (lea ws l (k + 1)).2 = y := by rw [hy]; exact Int.mul_ediv_cancel_left _ (by omega)
  rw [e1] at ih
  rw [e2]
  have := scale_lt (by omega) (by omega) (prd_pos V.hd1) hx hy u
  omega
theorem Valid.not_all {ws : List Int} {l : List Cm} (V : Valid ws l) : ¬ ∀ j, (mo ws l j).all = true := fun h => by
 have hp := prd_pos V.hd1
 have hb : ∀ k, (lea ws l k).1 * (prd l / (lea ws l k).2) ≤ 240000 * prd l := fun k => by
  have h1 := (V.lea_mem (h k)).2
  have h2 : prd l / (lea ws l k).2 ≤ prd l := Int.ediv_le_self _ (by omega)
  have h3 : 0 ≤ prd l / (lea ws l k).2 := Int.ediv_nonneg (by omega) (by have := h1.1.2; omega)
  have h4 := Int.mul_le_mul_of_nonneg_left h2 h1.1.1
  have h5 := Int.mul_le_mul_of_nonneg_right h1.2.1 (show 0 ≤ prd l by omega)
  omega
 have := V.lea_count (240000 * prd l + 1).toNat fun j _ => h j
 have := hb (240000 * prd l + 1).toNat
 omega
theorem Valid.ends {ws : List Int} {l : List Cm} (V : Valid ws l) : ∃ K, (mo ws l K).all = false ∧ ∀ j < K, (mo ws l j).all = true := by
 apply Classical.byContradiction; intro hno
 apply V.not_all
 intro j
 induction j using Nat.strongRecOn with
 | _ j ih =>
  cases e : (mo ws l j).all with
  | true => rfl
  | false => exact absurd ⟨j, e, ih⟩ hno
/-- of any sharing, some gain is no more than the least gain of a fairest one -/
theorem Valid.most {ws : List Int} {l : List Cm} (V : Valid ws l) {k : Nat} (h : (mo ws l k).all = true) (h2 : (mo ws l (k + 1)).all = false) {ds : List (Int × Int)} (hs : shr l ds (-1) = true) :
  ∃ x ∈ gns ws l ds, agn x (lea ws l k) ≤ 0 := by
 apply Classical.byContradiction; intro hno
 have hc : cons_ (abv (lea ws l k)) ws l ds = true := gns_cons V.w0 (V.lea_mem h).2.1 V.hd1 fun x hx => by
  apply Classical.byContradiction; intro hle
  exact hno ⟨x, hx, by omega⟩
 have := gre_best (abv_mono (by have := (V.lea_mem h).2.1.2; omega)) V.w0 l ds 0 (-1) (fun c hc => (V.cl c hc).2.2.2.2.1) (by omega) (by omega) hs hc
 rw [mo_con] at h2
 change (gre (abv (lea ws l k)) ws l 0).all = false at h2
 rw [h2] at this; cases this
def exWs : List Int := [6, 2]
def exL : List Cm := [⟨3, 2, 0, 1⟩, ⟨5, 1, 0, 1⟩]
theorem ex_0 : (mo exWs exL 0).all = true := by decide +kernel
theorem ex_1 : (mo exWs exL 1).all = false := by decide +kernel
theorem ex_lea : lea exWs exL 0 = (2, 1) := by decide +kernel
end Go.Proofs.YtkoejeghihcmlaaGreat

namespace Go.Proofs.YtkoejeghihcmlaaGreat
open Go.RowKit Go.Shelf
structure Ch where
 id : Int
 lo : Int
 hi : Int
deriving Inhabited
structure Ce where
 chain : Int
 links : Int
 worth : Int
deriving Inhabited
structure Gd where
 chains : List Ch
 cells : List Ce
def hcells (c : Ch) : List Value := [.int .i64 c.id, .int .i64 c.lo, .int .i64 c.hi]
def ecells (c : Ce) : List Value := [.int .i64 c.chain, .int .i64 c.links, .int .i64 c.worth]
def ccells (c : Cm) : List Value := [.int .i64 c.fam, .int .i64 c.hd, .int .i64 c.lo, .int .i64 c.hi]
def dcells (d : Int × Int) : List Value := [.int .i64 d.1, .int .i64 d.2]
def wsG (g : Gd) : List Int := g.cells.map Ce.worth
def okH (c : Ch) : Prop := 1 ≤ c.id ∧ c.id ≤ 99 ∧ 1 ≤ c.lo ∧ c.lo ≤ c.hi ∧ c.hi ≤ 1000
def okE (c : Ce) : Prop := 1 ≤ c.chain ∧ c.chain ≤ 99 ∧ 1 ≤ c.links ∧ c.links ≤ 1000 ∧ 0 ≤ c.worth ∧ c.worth ≤ 10000
def hat (l : List Ch) (i : Nat) : Ch := l.getD i default
def eat (l : List Ce) (i : Nat) : Ce := l.getD i default
structure OkG (g : Gd) : Prop where
 hn : 1 ≤ g.chains.length ∧ g.chains.length ≤ 6
 en : 1 ≤ g.cells.length ∧ g.cells.length ≤ 24
 h : ∀ c ∈ g.chains, okH c
 up : ∀ i, i + 1 < g.chains.length → (hat g.chains i).id < (hat g.chains (i + 1)).id
 e : ∀ c ∈ g.cells, okE c
 kn : ∀ c ∈ g.cells, ∃ h ∈ g.chains, h.id = c.chain
structure OkL (g : Gd) (l : List Cm) : Prop where
 n : 1 ≤ l.length ∧ l.length ≤ 12
 c : ∀ c ∈ l, okC g.cells.length c
 nd : (l.map Cm.fam).Nodup
theorem OkG.valid {g : Gd} (hg : OkG g) {l : List Cm} (hl : OkL g l) : Valid (wsG g) l := by
 refine ⟨fun x hx => ?_, by unfold wsG; rw [List.length_map]; exact hg.en.2, fun e => by have := hl.n; rw [e] at this; simp at this, fun c hc => ?_⟩
 ·unfold wsG at hx
  obtain ⟨c, hc, rfl⟩ := List.mem_map.1 hx
  have := hg.e c hc
  unfold okE at this; omega
 ·unfold wsG; rw [List.length_map]; exact hl.c c hc
/-- a slice of a kind whose length and room are numbers -/
def Sl {α : Type} (f : α → List Value) (size : Nat) (w : World) (A : Option Addr) (n c : Nat) (xs : List α) : Prop := Arr f size w A n xs ∧ n ≤ c ∧ c ≤ 9223372036854775807
theorem Sl.below {α : Type} {f : α → List Value} {size : Nat} {w w' : World} {A : Option Addr} {n c : Nat} {xs : List α} (h : Sl f size w A n c xs) (g : Below w.heap.size w w') : Sl f size w' A n c xs := ⟨h.1.below g, h.2⟩
theorem Sl.len {α : Type} {f : α → List Value} {size : Nat} {w : World} {A : Option Addr} {n c : Nat} {xs : List α} (h : Sl f size w A n c xs) : n = xs.length := h.1.1.symm
theorem hat_of {l : List Ch} {k : Nat} {x : Ch} (h : l[k]? = some x) : hat l k = x := by unfold hat; rw [List.getD_eq_getElem?_getD, h]; rfl
theorem eat_of {l : List Ce} {k : Nat} {x : Ce} (h : l[k]? = some x) : eat l k = x := by unfold eat; rw [List.getD_eq_getElem?_getD, h]; rfl
theorem cat_of {l : List Cm} {k : Nat} {x : Cm} (h : l[k]? = some x) : cat l k = x := by unfold cat; rw [List.getD_eq_getElem?_getD, h]; rfl
def dat (l : List (Int × Int)) (i : Nat) : Int × Int := l.getD i default
theorem dat_of {l : List (Int × Int)} {k : Nat} {x : Int × Int} (h : l[k]? = some x) : dat l k = x := by unfold dat; rw [List.getD_eq_getElem?_getD, h]; rfl
theorem h_at {w : World} {A : Option Addr} {n : Nat} {xs : List Ch} (h : Arr hcells 3 w A n xs) {k : Nat} (hk : k < n) :
  ∃ b o, A = some ⟨b, o, none⟩ ∧ b < w.heap.size ∧ hat xs k ∈ xs ∧ ∀ w', Below w.heap.size w w' → w'.cell? ⟨b, o + k * 3, none⟩ = some (.int .i64 (hat xs k).id) ∧ w'.cell? ⟨b, o + k * 3 + 1, none⟩ = some (.int .i64 (hat xs k).lo) ∧ w'.cell? ⟨b, o + k * 3 + 2, none⟩ = some (.int .i64 (hat xs k).hi) := by
 obtain ⟨b, o, x, rfl, hb, hx, hc⟩ := h.at hk
 rw [hat_of hx]
 exact ⟨b, o, rfl, hb, List.mem_of_getElem? hx, fun w' hw => ⟨hc w' hw 0 _ rfl, hc w' hw 1 _ rfl, hc w' hw 2 _ rfl⟩⟩
theorem e_at {w : World} {A : Option Addr} {n : Nat} {xs : List Ce} (h : Arr ecells 3 w A n xs) {k : Nat} (hk : k < n) :
  ∃ b o, A = some ⟨b, o, none⟩ ∧ b < w.heap.size ∧ eat xs k ∈ xs ∧ ∀ w', Below w.heap.size w w' → w'.cell? ⟨b, o + k * 3, none⟩ = some (.int .i64 (eat xs k).chain) ∧ w'.cell? ⟨b, o + k * 3 + 1, none⟩ = some (.int .i64 (eat xs k).links) ∧ w'.cell? ⟨b, o + k * 3 + 2, none⟩ = some (.int .i64 (eat xs k).worth) := by
 obtain ⟨b, o, x, rfl, hb, hx, hc⟩ := h.at hk
 rw [eat_of hx]
 exact ⟨b, o, rfl, hb, List.mem_of_getElem? hx, fun w' hw => ⟨hc w' hw 0 _ rfl, hc w' hw 1 _ rfl, hc w' hw 2 _ rfl⟩⟩
theorem c_at {w : World} {A : Option Addr} {n : Nat} {xs : List Cm} (h : Arr ccells 4 w A n xs) {k : Nat} (hk : k < n) :
  ∃ b o, A = some ⟨b, o, none⟩ ∧ b < w.heap.size ∧ cat xs k ∈ xs ∧ ∀ w', Below w.heap.size w w' → w'.cell? ⟨b, o + k * 4, none⟩ = some (.int .i64 (cat xs k).fam) ∧ w'.cell? ⟨b, o + k * 4 + 1, none⟩ = some (.int .i64 (cat xs k).hd) ∧ w'.cell? ⟨b, o + k * 4 + 2, none⟩ = some (.int .i64 (cat xs k).lo) ∧ w'.cell? ⟨b, o + k * 4 + 3, none⟩ = some (.int .i64 (cat xs k).hi) := by
 obtain ⟨b, o, x, rfl, hb, hx, hc⟩ := h.at hk
 rw [cat_of hx]
 exact ⟨b, o, rfl, hb, List.mem_of_getElem? hx, fun w' hw => ⟨hc w' hw 0 _ rfl, hc w' hw 1 _ rfl, hc w' hw 2 _ rfl, hc w' hw 3 _ rfl⟩⟩
theorem d_at {w : World} {A : Option Addr} {n : Nat} {xs : List (Int × Int)} (h : Arr dcells 2 w A n xs) {k : Nat} (hk : k < n) :
  ∃ b o, A = some ⟨b, o, none⟩ ∧ b < w.heap.size ∧ dat xs k ∈ xs ∧ ∀ w', Below w.heap.size w w' → w'.cell? ⟨b, o + k * 2, none⟩ = some (.int .i64 (dat xs k).1) ∧ w'.cell? ⟨b, o + k * 2 + 1, none⟩ = some (.int .i64 (dat xs k).2) := by
 obtain ⟨b, o, x, rfl, hb, hx, hc⟩ := h.at hk
 rw [dat_of hx]
 exact ⟨b, o, rfl, hb, List.mem_of_getElem? hx, fun w' hw => ⟨hc w' hw 0 _ rfl, hc w' hw 1 _ rfl⟩⟩
structure Ga (w : World) (g : Gd) (A1 A2 : Option Addr) (n1 c1 n2 c2 : Nat) : Prop where
 h : Sl hcells 3 w A1 n1 c1 g.chains
 e : Sl ecells 3 w A2 n2 c2 g.cells
theorem Ga.below {w w' : World} {g : Gd} {A1 A2 : Option Addr} {n1 c1 n2 c2 : Nat} (h : Ga w g A1 A2 n1 c1 n2 c2) (hb : Below w.heap.size w w') : Ga w' g A1 A2 n1 c1 n2 c2 := ⟨h.h.below hb, h.e.below hb⟩
abbrev gv (A1 A2 : Option Addr) (n1 c1 n2 c2 : Nat) : Value := .agg #[.slice A1 n1 c1, .slice A2 n2 c2]
abbrev cv (c : Cm) : Value := .agg #[.int .i64 c.fam, .int .i64 c.hd, .int .i64 c.lo, .int .i64 c.hi]
abbrev prv (x : Int × Int) : Value := .agg #[.int .i64 x.1, .int .i64 x.2]
theorem infoN : (Tryz.prog.info? 3).map (fun i => (i.zero, i.size, i.bytes)) = some (some (.int .i64 0), 1, 8) := by kernel_rfl
theorem infoC : (Tryz.prog.info? 87).map (fun i => (i.zero, i.size, i.bytes)) = some (some (.agg #[.int .i64 0, .int .i64 0, .int .i64 0, .int .i64 0]), 4, 32) := by kernel_rfl
theorem infoD : (Tryz.prog.info? 84).map (fun i => (i.zero, i.size, i.bytes)) = some (some (.agg #[.int .i64 0, .int .i64 0]), 2, 16) := by kernel_rfl
theorem infoGn : (Tryz.prog.info? 66).map (fun i => (i.zero, i.size, i.bytes)) = some (some (.agg #[.int .i64 0, .int .i64 0]), 2, 16) := by kernel_rfl
theorem infoH : (Tryz.prog.info? 130).map (fun i => (i.zero, i.size, i.bytes)) = some (some (.agg #[.int .i64 0, .int .i64 0, .int .i64 0]), 3, 24) := by kernel_rfl
theorem infoE : (Tryz.prog.info? 132).map (fun i => (i.zero, i.size, i.bytes)) = some (some (.agg #[.int .i64 0, .int .i64 0, .int .i64 0]), 3, 24) := by kernel_rfl
theorem kdN : Kd icells 1 3 39 8 (.int .i64 0) := ⟨by kernel_rfl, infoN, by simp [Value.cells], by decide, fun _ => rfl, fun _ u hu => by simp [icells] at hu; subst hu; rfl, by decide⟩
theorem kdCm : Kd ccells 4 87 48 32 (.agg #[.int .i64 0, .int .i64 0, .int .i64 0, .int .i64 0]) := ⟨by kernel_rfl, infoC, by simp [Value.cells], by decide, fun _ => rfl, fun _ u hu => by simp [ccells] at hu; rcases hu with rfl | rfl | rfl | rfl <;> rfl, by decide⟩
theorem kdDr : Kd dcells 2 84 69 16 (.agg #[.int .i64 0, .int .i64 0]) := ⟨by kernel_rfl, infoD, by simp [Value.cells], by decide, fun _ => rfl, fun _ u hu => by simp [dcells] at hu; rcases hu with rfl | rfl <;> rfl, by decide⟩
theorem kdGn : Kd dcells 2 66 88 16 (.agg #[.int .i64 0, .int .i64 0]) := ⟨by kernel_rfl, infoGn, by simp [Value.cells], by decide, fun _ => rfl, fun _ u hu => by simp [dcells] at hu; rcases hu with rfl | rfl <;> rfl, by decide⟩
theorem kdCh : Kd hcells 3 130 44 24 (.agg #[.int .i64 0, .int .i64 0, .int .i64 0]) := ⟨by kernel_rfl, infoH, by simp [Value.cells], by decide, fun _ => rfl, fun _ u hu => by simp [hcells] at hu; rcases hu with rfl | rfl | rfl <;> rfl, by decide⟩
theorem kdCe : Kd ecells 3 132 45 24 (.agg #[.int .i64 0, .int .i64 0, .int .i64 0]) := ⟨by kernel_rfl, infoE, by simp [Value.cells], by decide, fun _ => rfl, fun _ u hu => by simp [ecells] at hu; rcases hu with rfl | rfl | rfl <;> rfl, by decide⟩
theorem withinD_any (n lo hi : Int) (w : World) : Calls Tryz.prog 88 #[.int .i64 n, .int .i64 lo, .int .i64 hi] w fun e w' => e = .returned (.bool (rng n lo hi)) ∧ w = w' := by
 unfold rng
 by_cases h1 : lo ≤ n
 ·go_enter Tryz.func88, Tryz.ntmps88
  go_wp2
  go_ret
  exact ⟨by simp [h1], rfl⟩
 ·go_enter Tryz.func88, Tryz.ntmps88
  go_wp2
  go_ret
  exact ⟨by simp; omega, rfl⟩
theorem rng_t {n lo hi : Int} (h1 : lo ≤ n) (h2 : n ≤ hi) : rng n lo hi = true := by unfold rng; rw [decide_eq_true h1, decide_eq_true h2]; rfl
theorem withinT {n lo hi : Int} (h1 : lo ≤ n) (h2 : n ≤ hi) (w : World) : Calls Tryz.prog 88 #[.int .i64 n, .int .i64 lo, .int .i64 hi] w fun e w' => e = .returned (.bool true) ∧ w = w' := by
 have := withinD_any n lo hi w
 rw [rng_t h1 h2] at this; exact this
set_option maxRecDepth 100000 in
theorem checkChain_any (c : Ch) (h : okH c) (w : World) : Calls Tryz.prog 205 #[.agg #[.int .i64 c.id, .int .i64 c.lo, .int .i64 c.hi]] w fun e w' => e = .returned (.int .i64 0) ∧ Below w.heap.size w w' := by
 obtain ⟨h1, h2, h3, h4, h5⟩ := h
 obtain ⟨W1, hW1⟩ : ∃ X, w.alloc (.cells #[.int .i64 c.id, .int .i64 c.lo, .int .i64 c.hi] 130) = X := ⟨_, rfl⟩
 have GW1 := Lib.hid (show Below w.heap.size w W1 by rw [← hW1]; exact one_more _ _)
 have BW1 := Lib.hid (show Blk W1 w.heap.size 130 #[.int .i64 c.id, .int .i64 c.lo, .int .i64 c.hi] by rw [← hW1]; exact Blk.new _ _ _)
 have HW1 := Lib.hid hW1
 clear hW1
 have d0 := BW1.out.cell 0
 have d1 := BW1.out.cell 1
 have d2 := BW1.out.cell 2
 go_enter Tryz.func205, Tryz.ntmps205
 go_upto_region 1 with fail
 rw [HW1.out]
 go_wp2_with (go_at_call 88; (with_reducible refine (withinT (by omega) (by omega) _).mono ?_); rintro e V ⟨rfl, rfl⟩)
 go_ret
 exact ⟨rfl, GW1.out⟩
set_option maxRecDepth 100000 in
theorem checkCell_any (c : Ce) (h : okE c) (w : World) : Calls Tryz.prog 207 #[.agg #[.int .i64 c.chain, .int .i64 c.links, .int .i64 c.worth]] w fun e w' => e = .returned (.int .i64 0) ∧ Below w.heap.size w w' := by
 obtain ⟨h1, h2, h3, h4, h5, h6⟩ := h
 obtain ⟨W1, hW1⟩ : ∃ X, w.alloc (.cells #[.int .i64 c.chain, .int .i64 c.links, .int .i64 c.worth] 132) = X := ⟨_, rfl⟩
 have GW1 := Lib.hid (show Below w.heap.size w W1 by rw [← hW1]; exact one_more _ _)
 have BW1 := Lib.hid (show Blk W1 w.heap.size 132 #[.int .i64 c.chain, .int .i64 c.links, .int .i64 c.worth] by rw [← hW1]; exact Blk.new _ _ _)
 have HW1 := Lib.hid hW1
 clear hW1
 have d0 := BW1.out.cell 0
 have d1 := BW1.out.cell 1
 have d2 := BW1.out.cell 2
 go_enter Tryz.func207, Tryz.ntmps207
 go_upto_region 1 with fail
 rw [HW1.out]
 go_wp2_with (go_at_call 88; (with_reducible refine (withinT (by omega) (by omega) _).mono ?_); rintro e V ⟨rfl, rfl⟩)
 go_ret
 exact ⟨rfl, GW1.out⟩
set_option maxRecDepth 100000 in
theorem checkClaim_any (n : Nat) (c : Cm) (h : okC n c) (w : World) : Calls Tryz.prog 170 #[.agg #[.int .i64 c.fam, .int .i64 c.hd, .int .i64 c.lo, .int .i64 c.hi]] w fun e w' => e = .returned (.int .i64 0) ∧ Below w.heap.size w w' := by
 obtain ⟨h1, h2, h3, h4, h5, h6, h7, h8⟩ := h
 obtain ⟨W1, hW1⟩ : ∃ X, w.alloc (.cells #[.int .i64 c.fam, .int .i64 c.hd, .int .i64 c.lo, .int .i64 c.hi] 87) = X := ⟨_, rfl⟩
 have GW1 := Lib.hid (show Below w.heap.size w W1 by rw [← hW1]; exact one_more _ _)
 have BW1 := Lib.hid (show Blk W1 w.heap.size 87 #[.int .i64 c.fam, .int .i64 c.hd, .int .i64 c.lo, .int .i64 c.hi] by rw [← hW1]; exact Blk.new _ _ _)
 have HW1 := Lib.hid hW1
 clear hW1
 have d0 := BW1.out.cell 0
 have d1 := BW1.out.cell 1
 have d2 := BW1.out.cell 2
 have d3 := BW1.out.cell 3
 go_enter Tryz.func170, Tryz.ntmps170
 go_upto_region 1 with fail
 rw [HW1.out]
 go_wp2_with (go_at_call 88; (with_reducible refine (withinT (by omega) (by omega) _).mono ?_); rintro e V ⟨rfl, rfl⟩)
 go_ret
 exact ⟨rfl, GW1.out⟩
set_option maxRecDepth 100000 in
theorem isGain_any (a : Int × Int) (h1 : 0 ≤ a.1) (h2 : a.1 ≤ 1000000) (h3 : 1 ≤ a.2) (h4 : a.2 ≤ 1000000) (w : World) : Calls Tryz.prog 94 #[prv a] w fun e w' => e = .returned (.bool true) ∧ Below w.heap.size w w' := by
 obtain ⟨W1, hW1⟩ : ∃ X, w.alloc (.cells #[.int .i64 a.1, .int .i64 a.2] 66) = X := ⟨_, rfl⟩
 have GW1 := Lib.hid (show Below w.heap.size w W1 by rw [← hW1]; exact one_more _ _)
 have BW1 := Lib.hid (show Blk W1 w.heap.size 66 #[.int .i64 a.1, .int .i64 a.2] by rw [← hW1]; exact Blk.new _ _ _)
 have HW1 := Lib.hid hW1
 clear hW1
 have d0 := BW1.out.cell 0
 have d1 := BW1.out.cell 1
 go_enter Tryz.func94, Tryz.ntmps94
 go_upto_region 1 with fail
 rw [HW1.out]
 go_wp2_with (go_at_call 88; (with_reducible refine (withinT (by omega) (by omega) _).mono ?_); rintro e V ⟨rfl, rfl⟩)
 go_ret
 exact ⟨rfl, GW1.out⟩
end Go.Proofs.YtkoejeghihcmlaaGreat

namespace Go.Proofs.YtkoejeghihcmlaaGreat
open Go.RowKit Go.Shelf
theorem sum_take_succ {l : List Int} {k : Nat} {x : Int} (h : l[k]? = some x) : (l.take (k + 1)).sum = (l.take k).sum + x := by
 rw [List.take_add_one, h, List.sum_append]; simp
theorem sum_take_bd {l : List Int} (hb : ∀ x ∈ l, 0 ≤ x ∧ x ≤ 10000) (k : Nat) : 0 ≤ (l.take k).sum ∧ (l.take k).sum ≤ 10000 * l.length := by
 have h1 := wor_take_le (ws := l.take k) fun x hx => (hb x (List.mem_of_mem_take hx)).1
 have h2 := sum_bd (ws := l.take k) fun x hx => hb x (List.mem_of_mem_take hx)
 have h3 : (l.take k).length ≤ l.length := by rw [List.length_take]; omega
 omega
set_option maxRecDepth 100000 in
theorem sumD_any (A : Option Addr) (n c : Nat) (l : List Int) (w : World) (h : Ints w A n l) (hb : ∀ x ∈ l, 0 ≤ x ∧ x ≤ 10000) (hn : n ≤ 1000) : Calls Tryz.prog 213 #[.slice A n c] w fun e w' => e = .returned (.int .i64 l.sum) ∧ w = w' := by
 have HL := Lib.hid h
 have HB := Lib.hid hb
 have hlen := h.1
 clear h hb
 go_enter Tryz.func213, Tryz.ntmps213
 go_wp2_with fail
 go_loop [3, 8] (fun s i => ∃ k : Nat, k ≤ n ∧ s = .int .i64 ((l.take k).sum) ∧ i = .int .i64 k) (fun _ i => n - (intOf i).toNat)
 case atStart => exact ⟨0, Nat.zero_le _, by simp, rfl⟩
 case round =>
  obtain ⟨k, hk, rfl, rfl⟩ := hrel
  by_cases hkn : k < n
  ·obtain ⟨b, o, rfl, -, hx, hc⟩ := ints_at HL.out hkn
   have c0 := hc _ (Below.refl _ _)
   obtain ⟨x, hxe⟩ : ∃ x, l.getD k 0 = x := ⟨_, rfl⟩
   rw [hxe] at c0 hx
   have hs := sum_take_succ hx
   have hxb := HB.out x (List.mem_of_getElem? hx)
   have hsb := sum_take_bd HB.out k
   rw [hlen] at hsb
   obtain ⟨s, hse⟩ : ∃ s, (l.take k).sum = s := ⟨_, rfl⟩
   rw [hse] at hsb hs ⊢
   have HS := Lib.hid hs
   clear hs hse hc hxe hx
   have hsb1 : s ≤ 10000000 := by omega
   have hsb0 : 0 ≤ s := hsb.1
   go_wp2_with fail
   go_round
   case rel => exact ⟨k + 1, by omega, by rw [HS.out], by go_num⟩
   case measure => simp [intOf]; omega
  ·obtain rfl : n = k := by omega
   go_wp2_with fail
   go_ret
   exact ⟨by rw [← hlen, List.take_length]; rfl, rfl⟩
set_option maxRecDepth 100000 in
set_option maxHeartbeats 2000000 in
theorem worth_any (g : Gd) (A1 A2 : Option Addr) (n1 c1 n2 c2 : Nat) (f t : Int) (w : World) (hg : Ga w g A1 A2 n1 c1 n2 c2) (ho : OkG g) (hf : 0 ≤ f) (hf2 : f ≤ 1000) (ht : -1000 ≤ t) (ht2 : t ≤ 1000) :
  Calls Tryz.prog 176 #[gv A1 A2 n1 c1 n2 c2, prv (f, t)] w fun e w' => e = .returned (.int .i64 (wor (wsG g) f t)) ∧ Below w.heap.size w w' := by
 obtain ⟨W1, hW1⟩ : ∃ X, (w.alloc (.cells #[.slice A1 n1 c1, .slice A2 n2 c2] 47)).alloc (.cells #[.int .i64 f, .int .i64 t] 84) = X := ⟨_, rfl⟩
 have GW1 := Lib.hid (show Below w.heap.size w W1 by rw [← hW1]; exact (one_more _ _).alloc (by simp <;> omega) _)
 have BW1_0 := Lib.hid (show Blk W1 (w.heap.size) 47 #[.slice A1 n1 c1, .slice A2 n2 c2] by
  rw [← hW1]
  have := Blk.new w 47 #[.slice A1 n1 c1, .slice A2 n2 c2]
  (try simp only [World.size_alloc] at this)
  exact (this).alloc _)
 have BW1_1 := Lib.hid (show Blk W1 (w.heap.size + 1) 84 #[.int .i64 f, .int .i64 t] by
  rw [← hW1]
  have := Blk.new (w.alloc (.cells #[.slice A1 n1 c1, .slice A2 n2 c2] 47)) 84 #[.int .i64 f, .int .i64 t]
  (try simp only [World.size_alloc] at this)
  exact this)
 have HW1 := Lib.hid hW1
 clear hW1
 have HE := Lib.hid (hg.e.1.below GW1.out)
 have hc2 := hg.e.2
 have hlen : g.cells.length = n2 := hg.e.1.1
 have h24 : n2 ≤ 24 := by have := ho.en.2; omega
 have HBD := Lib.hid (show ∀ x ∈ wsG g, 0 ≤ x ∧ x ≤ 10000 from fun x hx => by
  unfold wsG at hx
  obtain ⟨c, hc, rfl⟩ := List.mem_map.1 hx
  have := ho.e c hc
  unfold okE at this; omega)
 have HWL := Lib.hid (show (wsG g).length = n2 by unfold wsG; rw [List.length_map]; exact hlen)
 have HWX := Lib.hid (show ∀ k, k < n2 → (wsG g)[k]? = some (eat g.cells k).worth from fun k hk => by
  unfold wsG eat
  rw [List.getElem?_map, List.getD_eq_getElem?_getD, List.getElem?_eq_getElem (by omega)]; rfl)
 obtain ⟨fn, hfn⟩ : ∃ k : Nat, (k : Int) = f := ⟨f.toNat, by omega⟩
 subst hfn
 have d0 := BW1_0.out.cell 1
 have e0 := BW1_1.out.cell 0
 have e1 := BW1_1.out.cell 1
 have hmax : max (fn : Int) 0 = fn := by omega
 clear hg
 go_enter Tryz.func176, Tryz.ntmps176
 go_upto_region 1 with fail
 rw [HW1.out]
 go_wp2_with fail
 go_loopw [5, 6] (fun v i wr => ∃ (k : Nat) (u : Value), u = v ∧ i = .int .i64 ((fn : Int) + k) ∧ (k = 0 ∨ (fn + k ≤ n2 ∧ (fn : Int) + k ≤ t + 1)) ∧ Below W1.heap.size W1 wr ∧ OwnL icells 1 3 wr W1.heap.size v (((wsG g).drop fn).take k)) (fun _ i _ => n2 + 1000 - (intOf i).toNat)
 case atStart => exact ⟨0, _, rfl, by simp, .inl rfl, Below.refl _ _, by rw [List.take_zero]; exact OwnL.nil _ _⟩
 case round =>
  obtain ⟨k, u, rfl, rfl, hk, hg, hown⟩ := hrel
  have HG := Lib.hid hg
  have HO := Lib.hid hown
  have d0 := (BW1_0.out.ext hg).cell 1
  have e0 := (BW1_1.out.ext hg).cell 0
  have e1 := (BW1_1.out.ext hg).cell 1
  have hkb : k ≤ 1000 := by omega
  by_cases h1 : (fn : Int) + k ≤ t
  ·by_cases h2 : fn + k < n2
   ·obtain ⟨b0, o0, e0', -, -, hc⟩ := e_at (HE.out.below hg) h2
    obtain ⟨-, -, x2⟩ := hc _ (Below.refl _ _)
    have hx := HWX.out _ h2
    obtain ⟨x, hxe⟩ : ∃ x, (eat g.cells (fn + k)).worth = x := ⟨_, rfl⟩
    rw [hxe] at x2 hx
    subst e0'
    have HN := Lib.hid (show ((wsG g).drop fn).take (k + 1) = ((wsG g).drop fn).take k ++ [x] by
     rw [List.take_add_one, List.getElem?_drop, hx]; rfl)
    have OX := Lib.hid (hown.ext (one_more wr (.cells #[.int .i64 x] 3)))
    have IX := Lib.hid (show Ints (wr.alloc (.cells #[.int .i64 x] 3)) (some ⟨wr.heap.size, 0, none⟩) 1 [x] from (Blk.new wr 3 #[.int .i64 x] : Blk _ _ 3 (vals [x])).intsN rfl)
    have HLEN := Lib.hid (show (((wsG g).drop fn).take k).length + 1 ≤ 1000000 by rw [List.length_take]; omega)
    have hwz := HG.out.size
    have h2' : (fn : Int) + k < n2 := by omega
    clear hc hx hxe hg hown
    go_wp2_with (at_builtin; go_loud (refine wpList_app kdN (by rfl) _ _ (by rfl) W1.heap.size _ (((wsG g).drop fn).take k) (by rfl) OX.out _ 1 1 [x] (by rfl) IX.out HLEN.out (by simp; omega) ?_); intro v' w' ho hbw hz; have HO2 := Lib.hid ho; have HB2 := Lib.hid ((OX.out).below hbw (B := W1.heap.size) (Nat.le_refl _) (by simp; omega)); clear ho hbw hz)
    go_roundw
    case rel => exact ⟨k + 1, _, rfl, by go_num, .inr ⟨by omega, by omega⟩, (HG.out.trans ((one_more wr _).mono HG.out.size)).trans HB2.out, by rw [HN.out]; exact HO2.out⟩
    case measure => simp [intOf]; omega
   ·have h2' : ¬ ((fn : Int) + k < n2) := by omega
    have he : ((wsG g).drop fn).take k = ((wsG g).drop (fn : Int).toNat).take (t + 1 - (fn : Int)).toNat := by
     rw [show (fn : Int).toNat = fn by omega]
     rw [List.take_of_length_le (by rw [List.length_drop, HWL.out]; omega), List.take_of_length_le (by rw [List.length_drop, HWL.out]; omega)]
    rw [he] at hown HO
    obtain ⟨A9, c9, e9, -, -, hi, -⟩ := OwnL.arr kdN hown
    subst e9
    have HT := Lib.hid (sumD_any A9 _ c9 _ wr hi (fun x hx => HBD.out x (List.mem_of_mem_drop (List.mem_of_mem_take hx))) (by rw [List.length_take, List.length_drop, HWL.out]; omega))
    obtain ⟨sv, hsv⟩ : ∃ s, (((wsG g).drop (fn : Int).toNat).take (t + 1 - (fn : Int)).toNat).sum = s := ⟨_, rfl⟩
    have HSV := Lib.hid (show wor (wsG g) fn t = sv from hsv)
    rw [hsv] at HT
    generalize (((wsG g).drop (fn : Int).toNat).take (t + 1 - (fn : Int)).toNat).length = m9 at HT ⊢
    have GX := Lib.hid (GW1.out.trans (HG.out.mono GW1.out.size))
    clear hg hown HO hi he hsv
    go_wp2_with (go_at_call 213; (with_reducible refine (HT.out).mono ?_); rintro e V ⟨rfl, rfl⟩)
    go_ret
    exact ⟨by rw [HSV.out]; rfl, GX.out⟩
  ·have he : ((wsG g).drop fn).take k = ((wsG g).drop (fn : Int).toNat).take (t + 1 - (fn : Int)).toNat := by
    rw [show (fn : Int).toNat = fn by omega]
    congr 1; omega
   rw [he] at hown HO
   obtain ⟨A9, c9, e9, -, -, hi, -⟩ := OwnL.arr kdN hown
   subst e9
   have HT := Lib.hid (sumD_any A9 _ c9 _ wr hi (fun x hx => HBD.out x (List.mem_of_mem_drop (List.mem_of_mem_take hx))) (by rw [List.length_take, List.length_drop, HWL.out]; omega))
   obtain ⟨sv, hsv⟩ : ∃ s, (((wsG g).drop (fn : Int).toNat).take (t + 1 - (fn : Int)).toNat).sum = s := ⟨_, rfl⟩
   have HSV := Lib.hid (show wor (wsG g) fn t = sv from hsv)
   rw [hsv] at HT
   generalize (((wsG g).drop (fn : Int).toNat).take (t + 1 - (fn : Int)).toNat).length = m9 at HT ⊢
   have GX := Lib.hid (GW1.out.trans (HG.out.mono GW1.out.size))
   clear hg hown HO hi he hsv
   go_wp2_with (go_at_call 213; (with_reducible refine (HT.out).mono ?_); rintro e V ⟨rfl, rfl⟩)
   go_ret
   exact ⟨by rw [HSV.out]; rfl, GX.out⟩
theorem gcd_step (a b : Int) : Int.gcd b (a.tmod b) = Int.gcd a b := by
 unfold Int.gcd
 rw [Int.natAbs_tmod, Nat.gcd_comm b.natAbs, ← Nat.gcd_rec, Nat.gcd_comm]
set_option maxRecDepth 100000 in
set_option maxHeartbeats 2000000 in
theorem lowest_any (n d : Int) (w : World) (hn : 0 ≤ n) (hn2 : n ≤ 1000000000) (hd : 1 ≤ d) (hd2 : d ≤ 1000000000) :
  Calls Tryz.prog 178 #[.int .i64 n, .int .i64 d] w fun e w' => e = .returned (prv (low n d)) ∧ Below w.heap.size w w' := by
 obtain ⟨W1, hW1⟩ : ∃ X, w.alloc (.cells #[.int .i64 0, .int .i64 0] 66) = X := ⟨_, rfl⟩
 have GW1 := Lib.hid (show Below w.heap.size w W1 by rw [← hW1]; exact one_more _ _)
 have BW1_0 := Lib.hid (show Blk W1 (w.heap.size) 66 #[.int .i64 0, .int .i64 0] by
  rw [← hW1]
  have := Blk.new w 66 #[.int .i64 0, .int .i64 0]
  (try simp only [World.size_alloc] at this)
  exact this)
 have HW1 := Lib.hid hW1
 clear hW1
 go_enter Tryz.func178, Tryz.ntmps178
 go_upto_region 1 with fail
 rw [HW1.out]
 go_wp2_with fail
 go_loopw [5, 6] (fun x y wr => ∃ a b : Int, x = .int .i64 a ∧ y = .int .i64 b ∧ Blk wr w.heap.size 66 #[.int .i64 0, .int .i64 0] ∧ Below w.heap.size w wr ∧ 0 ≤ a ∧ a ≤ 1000000000 ∧ 0 ≤ b ∧ b ≤ 1000000000 ∧ (0 < a ∨ 0 < b) ∧ Int.gcd a b = Int.gcd n d) (fun _ y _ => (intOf y).toNat)
 case atStart => exact ⟨n, d, rfl, rfl, BW1_0.out, GW1.out, hn, hn2, by omega, hd2, .inr (by omega), rfl⟩
 case round =>
  obtain ⟨a, b, rfl, rfl, hbl, hbw, g0, g1, g2, g3, g4, g5⟩ := hrel
  have BR := Lib.hid hbl
  have GR := Lib.hid hbw
  clear hbl hbw
  have HG5 := Lib.hid g5
  clear g5
  by_cases hb : b = 0
  ·subst hb
   have ha : 0 < a := by omega
   have hane : (a == 0) = false := by simpa using (show a ≠ 0 by omega)
   have hga : a = (Int.gcd n d : Int) := by
    rw [← HG5.out, Int.gcd_zero_right]; omega
   have e1 : n.tdiv a = (low n d).1 := by unfold low; rw [← hga, Int.tdiv_eq_ediv_of_nonneg hn]
   have e2 : d.tdiv a = (low n d).2 := by unfold low; rw [← hga, Int.tdiv_eq_ediv_of_nonneg (by omega)]
   have hk := low_ok hn hd
   unfold okGn at hk
   obtain ⟨⟨q1, q2⟩, hq⟩ : ∃ q, low n d = q := ⟨_, rfl⟩
   have HQ := Lib.hid hq
   rw [hq] at e1 e2 hk
   dsimp only at e1 e2 hk
   clear hq hga
   have hz : ¬ (a = 0) := by omega
   have w1 : IntKind.i64.wrap q1 = q1 := by simp only [IntKind.wrap_i64]; omega
   have w2 : IntKind.i64.wrap q2 = q2 := by simp only [IntKind.wrap_i64]; omega
   have f1 := BR.out.frozen 0
   have f2 := BR.out.frozen 1
   have c1 := BR.out.cell 0
   have c2 := BR.out.cell 1
   go_wp2_with fail
   go_region_law (fail)
   have hb2 := (BR.out.set_ 0 (.int .i64 q1)).set_ 1 (.int .i64 q2)
   have t0 := hb2.cell 0
   have t1 := hb2.cell 1
   have hx := (GR.out.setCell (p := ⟨w.heap.size, 0, none⟩) (by dsimp only; omega) (.int .i64 q1)).setCell (p := ⟨w.heap.size, 1, none⟩) (by dsimp only; omega) (.int .i64 q2)
   have HG := Lib.hid hx
   clear hx hb2
   go_wp2_with fail
   refine bodyPost_ret (v := .agg #[.int .i64 q1, .int .i64 q2]) ?_ rfl ⟨by rw [HQ.out], ⟨HG.out.os, HG.out.tape, HG.out.output, HG.out.size, HG.out.block⟩⟩
   simp [results, Tryz.results178, go_sem, t0, t1]
  ·have hbz : ¬ (b = 0) := hb
   have hbp : 0 < b := by omega
   have w1 : IntKind.i64.wrap (a.tmod b) = a.tmod b := by
    have h1 := Int.tmod_lt_of_pos a hbp
    have h2 := Int.tmod_nonneg b g0
    simp only [IntKind.wrap_i64]; omega
   have hbne : (b != 0) = true := by simpa using hb
   go_wp2_with fail
   go_region_law (fail)
   all_goals (try go_simp)
   all_goals go_roundw
   case rel =>
    have h1 := Int.tmod_lt_of_pos a hbp
    have h2 := Int.tmod_nonneg b g0
    exact ⟨_, _, _, _, _, _, _, _, ⟨b, a.tmod b, rfl, rfl, BR.out.drewN 1, ⟨GR.out.os, GR.out.tape, GR.out.output, GR.out.size, GR.out.block⟩, g2, g3, h2, by omega, .inl hbp, by rw [gcd_step]; exact HG5.out⟩, rfl⟩
   case measure =>
    have h1 := Int.tmod_lt_of_pos a hbp
    show (a.tmod b).toNat < b.toNat
    omega
end Go.Proofs.YtkoejeghihcmlaaGreat
