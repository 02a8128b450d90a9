/- Part of the proof: AA, AF, AB, AC, AD, AG, AH, AI, AE, AJ, AK, AL, AM, PA. -/
import Derived.WalkKit
import Derived.WalkSpells
import Derived.WalkLawsBesides
import Derived.Below
import Derived.BigGuardPart
import Derived.Lib.Hide
import Derived.BigQuiet
import Derived.Deep.RegionHeld3
import Derived.StillTail
import Derived.OrdersIn
import Derived.RangeFuncNested
import Derived.RangeFuncBound
import Derived.RangeFuncCalls
import Derived.RangeFuncLeaves
import Derived.Shelf.RegionOpen
import Derived.OwnWalkIn
import Derived.TacticsInMore
import Derived.LoopNIn
import Derived.LoopIn
import Derived.Laws.EntriesVeiled
import Derived.Deep.OwnRows
import Derived.WalkMore
import Derived.Laws.AppendOwn
import Derived.OwnWalk
import Derived.Maps.AppendAt
import Derived.Deep.AppendLies
import Derived.Deep.Onto
import Derived.RegionTactic
import Derived.Deep.RegionLaw
import Derived.Deep.RegionWith
import Derived.Laws.OwnMore
import Derived.Deep.CutRange
import Derived.Maps.OwnOps
import Derived.Maps.OwnSet
import Derived.Maps.OwnIn
import Derived.Test.YtehhlgdkhecacaaGreatProg
import Derived.Shelf.Lay
import Derived.Ground.NamesProg
import Derived.Ground.Names2Prog
import Derived.Shelf.SlSortFuncK.RowK2
import Derived.Shelf.Sort.Plain
import Derived.Shelf.Slices.Delete
import Derived.Shelf.Slices.CompactI
import Derived.Sort.OwnSortedInts
import Derived.Lib.OwnBridge
import Derived.Shelf.Slices.In.SortNone
namespace Go.Proofs.YtehhlgdkhecacaaGreat
open Go.RowKit
/-- A header (A, n) of a slice reads as the elements 'xs', each of 'size' cells given by 'f'. -/
def Arr {α : Type} (f : α → List Value) (size : Nat) (w : World) (A : Option Addr) (n : Nat) (xs : List α) : Prop :=
 xs.length = n ∧ (0 < n → ∃ b o, A = some ⟨b, o, none⟩ ∧ b < w.heap.size ∧ ∀ k x, xs[k]? = some x → ∀ j u, (f x)[j]? = some u → w.cell? ⟨b, o + k * size + j, none⟩ = some u)
section
variable {α : Type} {f : α → List Value} {size : Nat} {w w' : World} {A : Option Addr} {n : Nat} {xs : List α}
theorem Arr.at (h : Arr f size w A n xs) {k : Nat} (hk : k < n) :
  ∃ b o x, A = some ⟨b, o, none⟩ ∧ b < w.heap.size ∧ xs[k]? = some x ∧ ∀ w', Below w.heap.size w w' → ∀ j u, (f x)[j]? = some u → w'.cell? ⟨b, o + k * size + j, none⟩ = some u := by
 obtain ⟨hl, h⟩ := h
 obtain ⟨b, o, rfl, hb, hc⟩ := h (by omega)
 have hk' : k < xs.length := by omega
 refine ⟨b, o, xs[k], rfl, hb, List.getElem?_eq_getElem hk', fun w' hw j u hu => ?_⟩
 rw [hw.cell (by exact hb)]
 exact hc k _ (List.getElem?_eq_getElem hk') j u hu
theorem Arr.below (h : Arr f size w A n xs) (hb : Below w.heap.size w w') : Arr f size w' A n xs :=
 ⟨h.1, fun hn => by
  obtain ⟨b, o, rfl, hlt, hc⟩ := h.2 hn
  exact ⟨b, o, rfl, Nat.lt_of_lt_of_le hlt hb.size, fun k x hx j u hu => (hb.cell (p := ⟨b, _, none⟩) hlt).trans (hc k x hx j u hu)⟩⟩
/-- The first k elements. -/
theorem Arr.take (h : Arr f size w A n xs) {k : Nat} (hk : k ≤ n) : Arr f size w A k (xs.take k) :=
 ⟨by have := h.1; simp; omega, fun hk0 => by
  obtain ⟨b, o, rfl, hlt, hc⟩ := h.2 (by omega)
  refine ⟨b, o, rfl, hlt, fun i x hx j u hu => hc i x ?_ j u hu⟩
  rw [List.getElem?_take] at hx
  split at hx
  ·exact hx
  ·cases hx⟩
theorem Arr.nil_ : Arr f size w A 0 [] := ⟨rfl, fun h => absurd h (by omega)⟩
end
theorem extTrans {a b c : World} (h : Below a.heap.size a b) (k : Below b.heap.size b c) : Below a.heap.size a c := h.trans (k.mono h.size)
/-- A world that extends W. -/
structure Wd (W : World) where
 val : World
 ok : Below W.heap.size W val
instance Wd.some_ (W : World) : Nonempty (Wd W) := ⟨⟨W, Below.refl _ _⟩⟩
theorem Wd.of {W w : World} (h : Below W.heap.size W w) : ∃ x : Wd W, w = x.val := ⟨⟨w, h⟩, rfl⟩
theorem Wd.more {W w : World} (x : Wd W) (h : Below x.val.heap.size x.val w) : ∃ y : Wd W, w = y.val := ⟨⟨w, x.ok.trans (h.mono x.ok.size)⟩, rfl⟩
theorem Wd.size {W : World} (x : Wd W) : W.heap.size ≤ x.val.heap.size := x.ok.size
theorem Wd.alloc {W : World} (x : Wd W) (o : Obj) : ∃ y : Wd W, x.val.alloc o = y.val := ⟨⟨_, x.ok.alloc x.ok.size o⟩, rfl⟩
/-- A cell of W is there in each world that extends it. -/
theorem cellW {W : World} {a : Addr} {v : Value} (h : W.cell? a = some v) : ∀ x : Wd W, x.val.cell? a = some v :=
 fun x => (x.ok.cell (World.block_lt_of_cell? W a h)).trans h
/-- .. of one value, as a quiet region asks it. -/
theorem callsCalm {P : Program} {f : FuncId} {args : Array Value} {W : World} {v : Value} {x : Wd W}
  (h : Calls P f args x.val fun e w' => e = .returned v ∧ Below x.val.heap.size x.val w') : Calls P f args x.val fun e w' => e = .returned v ∧ ∃ y : Wd W, w' = y.val :=
 h.mono fun _ _ ⟨hr, hb⟩ => ⟨hr, ⟨_, x.ok.trans (hb.mono x.ok.size)⟩, rfl⟩
theorem callsCalmSame {P : Program} {f : FuncId} {args : Array Value} {W : World} {v : Value} {x : Wd W}
  (h : Calls P f args x.val fun e w' => e = .returned v ∧ x.val = w') : Calls P f args x.val fun e w' => e = .returned v ∧ ∃ y : Wd W, w' = y.val :=
 h.mono fun _ _ ⟨hr, hb⟩ => ⟨hr, x, hb.symm⟩
/-- A region that draws its order, whose operations only read and whose callees at most make memory: one walk in the order of the text. -/
theorem wp_region_calm {P : Program} {id : Nat} {Q : Exit → Act → World → Prop} {a : Act} {w : World} {l : List Oper} (W : World) (hm : P.follows .mixedOrders = true) (hB : Region.lexB .any l.toArray = true)
  (hw : Below W.heap.size W w)
  (h : wpQuiet P l.toArray (fun w' => ∃ x : Wd W, w' = x.val) (fun a' => ∀ w', (∃ x : Wd W, w' = x.val) → Q .normal a' w') l a) : (Code.region id l.toArray true).wp P Q a w :=
 wp_region_quiet (C := fun w' => ∃ x : Wd W, w' = x.val) hm hB (Wd.of (show Below W.heap.size W w.drew from hw.drew)) (by simpa using h)
/-- A block that is known whole, none of its cells frozen. -/
def Blk (w : World) (g : Nat) (t : TypeId) (cs : Array Value) : Prop := w.heap[g]? = some (.cells cs t (0, 0))
section
variable {w w' : World} {g : Nat} {t : TypeId} {cs : Array Value}
theorem Blk.lt (h : Blk w g t cs) : g < w.heap.size := by
 rcases Nat.lt_or_ge g w.heap.size with hlt | hge
 ·exact hlt
 ·unfold Blk at h; rw [Array.getElem?_eq_none hge] at h; cases h
theorem Blk.cell (h : Blk w g t cs) (i : Nat) : w.cell? ⟨g, i, none⟩ = cs[i]? := cell_of_row w g i cs t (0, 0) h
theorem Blk.frozen (h : Blk w g t cs) (i : Nat) : w.frozen? ⟨g, i, none⟩ = false := by
 unfold Blk at h
 simp [World.frozen?, h]
theorem Blk.new (w : World) (t : TypeId) (cs : Array Value) : Blk (w.alloc (.cells cs t)) w.heap.size t cs := heap_alloc_new w _
theorem Blk.alloc (h : Blk w g t cs) (o : Obj) : Blk (w.alloc o) g t cs := (Below.heap_alloc w o g h.lt).trans h
theorem Blk.set_ (h : Blk w g t cs) (i : Nat) (u : Value) : Blk (w.setCell ⟨g, i, none⟩ u) g t (cs.setIfInBounds i u) := by
 unfold Blk at h ⊢
 simp [World.setCell, Array.getElem?_modify, h]
theorem Blk.far (h : Blk w g t cs) {p : Addr} (hp : g ≠ p.block) (u : Value) : Blk (w.setCell p u) g t cs := (Below.heap_setCell w p u g hp).trans h
theorem Blk.ext (h : Blk w g t cs) (hb : Below w.heap.size w w') : Blk w' g t cs := (hb.block g h.lt).trans h
end
end Go.Proofs.YtehhlgdkhecacaaGreat
namespace Go.Proofs.YtehhlgdkhecacaaGreat
open Go.RowKit
section
variable {P : Program} {ops : Array Oper} {md : Region.Mode} {C : World → Prop} {F : Fence} {n : Nat}
/-- A fence that lets everything in. -/
structure Open (F : Fence) : Prop where
 fn : ∀ f, F.fn f
 depth : F.depth = none
 calls : ∀ {n : Nat} {P : Program} {f : FuncId} {args : Array Value} {w : World} {R : Ending → World → Prop}, Calls P f args w R → CallsIn F n P f args w R
theorem Open.wide : Open Fence.wide := ⟨fun _ => trivial, rfl, fun h => callsIn_wide.2 h⟩
theorem Open.round (l : Nat) : Open (Fence.wide.inRound l) := ⟨fun _ => trivial, rfl, fun h => CallsIn.inRound l (callsIn_wide.2 h)⟩
theorem operWpIn_of_quiet (hF : Open F) {o : Oper} (hnd : ∀ c, o.op ≠ .defer c) {a : Act} {K : Act → Prop} {K' : Act → World → Prop} {Q' : Exit → Act → World → Prop} {w : World} (hw : C w) (h : ∀ a w', C w' → K a → K' a w') (hh : o.quiet P a C K) : o.wpIn F n P a w K' Q' := by
 obtain ⟨v, h1, h2⟩ := hh
 have h3 := h1 w hw
 unfold Oper.quietAt at h3
 unfold Oper.wpIn
 rw [Oper.semAt_eq _ _ _ hnd]
 refine ⟨fun f _ => hF.fn f, ?_⟩
 generalize (execOp a.eval o).run P w = r at *
 cases r with
 | ok x w' =>
  cases x <;> simp only [Oper.quietUpon] at h3 <;> simp only [Oper.uponIn]
  case value u =>
   obtain ⟨e1, e2⟩ := h3
   rw [e1, e2]
   exact h _ _ hw h2
  case skip =>
   obtain ⟨e1, e2⟩ := h3
   rw [e1, ← e2]
   exact h _ _ hw h2
  case enter f args =>
   obtain ⟨e1, hc⟩ := h3
   rw [e1]
   exact ⟨fun hd => (by rw [hF.depth] at hd; cases hd), hF.calls (hc.mono fun e w'' ⟨he, hw''⟩ => by subst he; exact h _ _ hw'' h2)⟩
 | halt x w' => simp only [Oper.quietUpon] at h3
def noDefer (ops : Array Oper) : Bool := ops.all fun o => match o.op with | .defer _ => false | _ => true
theorem noDefer_spec (h : noDefer ops = true) {i : Nat} {o : Oper} (ho : ops[i]? = some o) : ∀ c, o.op ≠ .defer c := by
 intro c he
 have := Array.all_eq_true_iff_forall_mem.1 h o (Array.mem_of_getElem? ho)
 simp [he] at this
theorem wpOpIn_of_qOp (hF : Open F) (hnd : noDefer ops = true) {i : Nat} {a : Act} {K : Act → Prop} {K' : Act → World → Prop} {Q' : Exit → Act → World → Prop} {w : World} (hC : C w) (h : ∀ a w', C w' → K a → K' a w') (hh : qOp P ops C i K a) : wpOpIn F n P ops Q' i K' a w := by
 unfold qOp at hh
 unfold wpOpIn
 split
 ·rename_i ho; simp only [ho] at hh; exact h _ _ hC hh
 ·rename_i o ho
  simp only [ho] at hh
  split
  ·rename_i hw; simp only [hw, if_true] at hh; exact operWpIn_of_quiet hF (noDefer_spec hnd ho) hC h hh
  ·rename_i hw; simp only [hw] at hh; exact ⟨fun f _ => hF.fn f, h _ _ hC hh⟩
theorem wpAnyIn_of_quiet (hF : Open F) (hnd : noDefer ops = true) {Q : Act → Prop} {Q' : Exit → Act → World → Prop} (hQ : ∀ a w, C w → Q a → Q' .normal a w) : ∀ (fuel : Nat) (listed : Array Bool) (a : Act) (w : World), C w →
  wpAnyQ P md ops C Q fuel listed a → wpAnyIn F n P md ops Q' fuel listed a w
 | 0, _, _, _, hw, h => ⟨h.1, hQ _ _ hw h.2⟩
 | fuel + 1, _, _, _, hw, h => ⟨fun h0 => hQ _ _ hw (h.1 h0), fun i hi => wpOpIn_of_qOp hF hnd hw (fun a' w' hw' => wpAnyIn_of_quiet hF hnd hQ fuel _ a' w' hw') (h.2 i hi)⟩
/-- A class of worlds that a draw does not leave. -/
theorem wpIn_region_quiet (hF : Open F) {id : Nat} {Q : Exit → Act → World → Prop} {a : Act} {w : World} {l : List Oper} (hm : P.follows .mixedOrders = true) (hB : Region.lexB .any l.toArray = true) (hnd : noDefer l.toArray = true) (hC : C w.drew)
  (h : wpQuiet P l.toArray C (fun a' => ∀ w', C w' → Q .normal a' w') l a) : (Code.region id l.toArray true).wpIn F n P Q a w := by
 simp only [Region.lexB, Bool.and_eq_true] at hB
 refine wpIn_region_any hm (wpAnyIn_of_quiet hF hnd (Q := fun a' => ∀ w', C w' → Q .normal a' w') (fun _ w' hw' h => h w' hw') _ _ _ { w with drawn := w.drawn + 1 } hC ?_)
 have := wpAnyQ_lex (C := C) (md := .any) hB.1 l 0 (Array.replicate l.toArray.size false) a (by simp) (by simpa using hB.2) h
 simpa using this
end
end Go.Proofs.YtehhlgdkhecacaaGreat
namespace Go.Proofs.YtehhlgdkhecacaaGreat
open Go.RowKit Go.Shelf
/-- What a world keeps while the plan's two blocks (whose each hour is; the hours that were tried) may turn. -/
structure Fix (bw bs : Nat) (W W' : World) : Prop where
 os : W'.os = W.os
 tape : W'.tape = W.tape
 output : W'.output = W.output
 size : W.heap.size ≤ W'.heap.size
 block : ∀ k, k < W.heap.size → k ≠ bw → k ≠ bs → W'.heap[k]? = W.heap[k]?
section
variable {bw bs : Nat} {W W' W'' : World}
theorem Fix.refl (bw bs : Nat) (W : World) : Fix bw bs W W := ⟨rfl, rfl, rfl, Nat.le_refl _, fun _ _ _ _ => rfl⟩
theorem Fix.trans (h : Fix bw bs W W') (k : Fix bw bs W' W'') : Fix bw bs W W'' :=
 ⟨k.os.trans h.os, k.tape.trans h.tape, k.output.trans h.output, Nat.le_trans h.size k.size, fun i hi h1 h2 => (k.block i (Nat.lt_of_lt_of_le hi h.size) h1 h2).trans (h.block i hi h1 h2)⟩
theorem Fix.of_below (h : Below W.heap.size W W') : Fix bw bs W W' := ⟨h.os, h.tape, h.output, h.size, fun k hk _ _ => h.block k hk⟩
theorem Fix.cell (h : Fix bw bs W W') {b o : Nat} {v : Value} (hc : W.cell? ⟨b, o, none⟩ = some v) (h1 : b ≠ bw) (h2 : b ≠ bs) : W'.cell? ⟨b, o, none⟩ = some v :=
 (World.cell?_of_block (a := ⟨b, o, none⟩) (h.block b (World.block_lt_of_cell? W _ hc) h1 h2)).trans hc
theorem Fix.blk (h : Fix bw bs W W') {g : Nat} {t : TypeId} {cs : Array Value} (hc : Blk W g t cs) (h1 : g ≠ bw) (h2 : g ≠ bs) : Blk W' g t cs := (h.block g hc.lt h1 h2).trans hc
theorem Fix.setCell (h : Fix bw bs W W') {p : Addr} (hp : p.block = bw ∨ p.block = bs ∨ W.heap.size ≤ p.block) (u : Value) : Fix bw bs W (W'.setCell p u) :=
 ⟨h.os, h.tape, h.output, by simpa [World.setCell] using h.size, fun k hk h1 h2 => (Below.heap_setCell _ _ _ _ (by
  rintro rfl
  rcases hp with hp | hp | hp
  ·exact h1 hp
  ·exact h2 hp
  ·omega)).trans (h.block k hk h1 h2)⟩
end
theorem Blk.own {W W' : World} {g : Nat} {t : TypeId} {cs : Array Value} {row : Option Nat} (h : Blk W g t cs) (hg : W.grownBy W' row) (hr : ∀ r, row = some r → ∃ o : Obj, W.heap[r]? = some o ∧ o.isCells = false) : Blk W' g t cs := by
 refine (hg.block g h.lt ?_).trans h
 intro e
 obtain ⟨o, ho, hc⟩ := hr g e.symm
 rw [show W.heap[g]? = _ from h] at ho
 cases ho; cases hc
theorem Fix.own {A W W' : World} {bw bs : Nat} {row : Option Nat} (h : Fix bw bs A W) (hg : W.grownBy W' row) (hr : ∀ r, row = some r → A.heap.size ≤ r) : Fix bw bs A W' :=
 ⟨hg.os.trans h.os, hg.tape.trans h.tape, hg.output.trans h.output, Nat.le_trans h.size hg.size, fun k hk h1 h2 =>
  (hg.block k (Nat.lt_of_lt_of_le hk h.size) (fun e => by have := hr k e.symm; omega)).trans (h.block k hk h1 h2)⟩
def vals (l : List Int) : Array Value := (l.map (Value.int .i64)).toArray
theorem vals_get (l : List Int) (i : Nat) : (vals l)[i]? = (l[i]?).map (Value.int .i64) := by simp [vals]
theorem Blk.drewN {w : World} {g : Nat} {t : TypeId} {cs : Array Value} (h : Blk w g t cs) (n : Nat) : Blk (w.drewN n) g t cs := h
theorem Fix.drewN {w W : World} {bw bs : Nat} (h : Fix bw bs W w) (n : Nat) : Fix bw bs W (w.drewN n) := ⟨h.os, h.tape, h.output, h.size, h.block⟩
theorem Fix.putObj {A W : World} {bw bs : Nat} (h : Fix bw bs A W) {D : Nat} (hD : A.heap.size ≤ D) (o : Obj) : Fix bw bs A (W.putObj D o) :=
 ⟨h.os, h.tape, h.output, by simpa using h.size, fun k hk h1 h2 => (World.putObj_heap_other (by omega)).trans (h.block k hk h1 h2)⟩
theorem Blk.putObj {W : World} {g : Nat} {t : TypeId} {cs : Array Value} (h : Blk W g t cs) {D : Nat} (hD : g ≠ D) (o : Obj) : Blk (W.putObj D o) g t cs := (World.putObj_heap_other hD).trans h
def icells (x : Int) : List Value := [.int .i64 x]
abbrev Ints (w : World) (A : Option Addr) (n : Nat) (xs : List Int) : Prop := Arr icells 1 w A n xs
theorem ints_at {w : World} {A : Option Addr} {n : Nat} {xs : List Int} (h : Ints w A n xs) {k : Nat} (hk : k < n) :
  ∃ b o, A = some ⟨b, o, none⟩ ∧ b < w.heap.size ∧ xs[k]? = some (xs.getD k 0) ∧ ∀ w', Below w.heap.size w w' → w'.cell? ⟨b, o + k, none⟩ = some (.int .i64 (xs.getD k 0)) := by
 obtain ⟨b, o, x, rfl, hb, hx, hc⟩ := h.at hk
 have e : xs.getD k 0 = x := by rw [List.getD_eq_getElem?_getD, hx]; rfl
 rw [e]
 exact ⟨b, o, rfl, hb, hx, fun w' hw => by have := hc w' hw 0 _ rfl; simpa using this⟩
theorem Blk.ints {w : World} {g : Nat} {l : List Int} (h : Blk w g 3 (vals l)) : Ints w (some ⟨g, 0, none⟩) l.length l :=
 ⟨rfl, fun _ => ⟨g, 0, rfl, h.lt, fun k x hx j u hu => by
  have hj : j = 0 := by
   rcases Nat.lt_or_ge j 1 with h | h
   ·omega
   ·rw [List.getElem?_eq_none (by simp [icells]; omega)] at hu; cases hu
  subst hj
  have hu' : u = .int .i64 x := by simp [icells] at hu; exact hu.symm
  subst hu'
  rw [show 0 + k * 1 + 0 = k by omega, h.cell k, vals_get, hx]; rfl⟩⟩
theorem Blk.intsN {w : World} {g n : Nat} {l : List Int} (h : Blk w g 3 (vals l)) (hn : l.length = n) : Ints w (some ⟨g, 0, none⟩) n l := hn ▸ h.ints
theorem add_at (b o j : Nat) : (⟨b, o, none⟩ : Addr).add j = ⟨b, o + j, none⟩ := by unfold Addr.add; split <;> simp_all
theorem flat_get {α : Type} {f : α → List Value} {s : Nat} (hf : ∀ x, (f x).length = s) : ∀ (xs : List α) (k j : Nat), j < s → (xs.flatMap f)[k * s + j]? = xs[k]?.bind fun x => (f x)[j]?
 | [], k, j, _ => by simp
 | x :: xs, 0, j, hj => by
  rw [List.flatMap_cons, List.getElem?_append_left (by rw [hf]; omega)]; simp
 | x :: xs, k + 1, j, hj => by
  have e : (k + 1) * s + j = s + (k * s + j) := by rw [Nat.succ_mul]; omega
  rw [List.flatMap_cons, List.getElem?_append_right (by rw [hf, e]; omega), hf, e, Nat.add_sub_cancel_left, flat_get hf xs k j hj]
  rfl
theorem flat_len {α : Type} {f : α → List Value} {s : Nat} (hf : ∀ x, (f x).length = s) : ∀ xs : List α, (xs.flatMap f).length = xs.length * s
 | [] => by simp
 | x :: xs => by rw [List.flatMap_cons, List.length_append, hf, flat_len hf xs, List.length_cons, Nat.succ_mul]; omega
theorem two_more (w : World) (o o' : Obj) : Below w.heap.size w ((w.alloc o).alloc o') := ((Below.refl _ _).alloc (Nat.le_refl _) o).alloc (by simp) o'
theorem one_more (w : World) (o : Obj) : Below w.heap.size w (w.alloc o) := (Below.refl _ _).alloc (Nat.le_refl _) o
theorem keepAlloc {W : World} {a : Addr} {v : Value} (h : W.cell? a = some v) (o : Obj) : (W.alloc o).cell? a = some v := (World.cell?_alloc_lt W o a (World.block_lt_of_cell? W a h)).trans h
def Own (w : World) (base : Nat) (v : Value) (l : List Int) : Prop := w.ownsRow base 3 1 v l.length (l.map (Value.int .i64))
theorem Own.nil (w : World) (base : Nat) : Own w base (.slice none 0 0) [] := World.ownsRow_nil w base 3 1
theorem Own.ext {w w' : World} {base : Nat} {v : Value} {l : List Int} (h : Own w base v l) (g : Below w.heap.size w w') : Own w' base v l :=
 World.ownsRow.kept h (row := none) ⟨g.os, g.tape, g.output, g.size, fun k hk _ => g.block k hk⟩ (by
  cases hq : v.ownBlock with
  | none => exact .inl rfl
  | some k => exact .inr (by simp))
theorem Own.ints {w : World} {base : Nat} {v : Value} {l : List Int} (h : Own w base v l) : ∃ A c, v = .slice A l.length c ∧ Ints w A l.length l := by
 obtain ⟨h1, h2 | ⟨g, cap, cur, rfl, hb, hg, h4, h5, h6, h7⟩⟩ := h
 ·obtain ⟨rfl, h3⟩ := h2
  have : l = [] := List.eq_nil_of_length_eq_zero h3
  subst this
  exact ⟨none, 0, rfl, rfl, fun h => absurd h (by simp)⟩
 ·refine ⟨_, _, rfl, rfl, fun _ => ⟨g, 0, rfl, ?_, fun k x hx j u hu => ?_⟩⟩
  ·rcases Nat.lt_or_ge g w.heap.size with hlt | hge
   ·exact hlt
   ·rw [Array.getElem?_eq_none hge] at hg; cases hg
  ·have hk : k < l.length := (List.getElem?_eq_some_iff.1 hx).1
   have hj : j = 0 := by
    rcases Nat.lt_or_ge j 1 with h | h
    ·omega
    ·rw [List.getElem?_eq_none (by simp [icells]; omega)] at hu; cases hu
   subst hj
   have hu' : u = .int .i64 x := by simp [icells] at hu; exact hu.symm
   subst hu'
   rw [show 0 + k * 1 + 0 = k by omega, cell_of_row w g k cur 3 (0, 0) hg]
   have e1 : (l.map (Value.int .i64))[k]? = some (.int .i64 x) := by rw [List.getElem?_map, hx]; rfl
   rw [← h7, List.getElem?_take, if_pos (by omega)] at e1
   simpa using e1
def rng (n lo hi : Int) : Bool := decide (lo ≤ n) && decide (n ≤ hi)
def err (b : Bool) (e : Int) : Int := if b then 0 else e
/-- A kind of element: its cells, the types of it and of its slice. -/
structure Kd {α : Type} (f : α → List Value) (size : Nat) (e t : TypeId) (bytes : Nat) (z : Value) : Prop where
 ht : Tryz.prog.underlying t = some (.slice e)
 hi : (Tryz.prog.info? e).map (fun i => (i.zero, i.size, i.bytes)) = some (some z, size, bytes)
 hz : z.cells.size = size
 pos : 0 < size
 len : ∀ x, (f x).length = size
 one : ∀ x, ∀ u ∈ f x, u.oneCell' = true
 by128 : bytes ≤ 128
def OwnL {α : Type} (f : α → List Value) (size : Nat) (e : TypeId) (w : World) (base : Nat) (v : Value) (xs : List α) : Prop := w.ownsRow base e size v xs.length (xs.flatMap f)
theorem flat_icells (l : List Int) : l.flatMap icells = l.map (Value.int .i64) := by
 induction l with
 | nil => rfl
 | cons x l ih => rw [List.flatMap_cons, ih]; rfl
theorem Own.l {w : World} {base : Nat} {v : Value} {l : List Int} (h : Own w base v l) : OwnL icells 1 3 w base v l := by unfold OwnL; rw [flat_icells]; exact h
theorem OwnL.ints {w : World} {base : Nat} {v : Value} {l : List Int} (h : OwnL icells 1 3 w base v l) : Own w base v l := by unfold OwnL at h; rw [flat_icells] at h; exact h
section
variable {α : Type} {f : α → List Value} {size : Nat} {e t : TypeId} {bytes : Nat} {z : Value}
theorem run_app (K : Kd f size e t bytes z) (w : World) (ty : TypeId) (base : Nat) (v : Value) (xs : List α) (hown : OwnL f size e w base v xs) (A : Option Addr) (m c : Nat) (ys : List α) (hr : Arr f size w A m ys)
  (hn : xs.length + m ≤ 1000000) (hbase : base ≤ w.heap.size) :
  ∃ v' w', (Builtin.append_ #[t, t] ty #[v, .slice A m c]).run Tryz.prog w = .ok v' w' ∧ OwnL f size e w' base v' (xs ++ ys) ∧ w.grownBy w' v.ownBlock ∧ (v'.ownBlock = v.ownBlock ∨ v'.ownBlock = some w.heap.size) := by
 obtain ⟨i, hi, hz0, hz1, hz2⟩ := info_parts K.hi
 have hl := hr.1
 have hby : bytes ≤ 128 := K.by128
 have hmul : (xs.length + m) * bytes ≤ 1000000 * 128 := Nat.mul_le_mul hn hby
 have hfl : (ys.flatMap f).length = m * size := by rw [flat_len K.len, hl]
 have h1c : ∀ u ∈ ys.flatMap f, u.oneCell' = true := fun u hu => by obtain ⟨x, -, hx⟩ := List.mem_flatMap.1 hu; exact K.one x u hx
 have hfin : ∀ v' w', w'.ownsRow base e size v' (xs.length + m) (xs.flatMap f ++ ys.flatMap f) → OwnL f size e w' base v' (xs ++ ys) := fun v' w' h => by
  unfold OwnL; rw [List.length_append, List.flatMap_append, hl]; exact h
 rcases A with _ | ad
 ·have hm : m = 0 := by
   rcases Nat.eq_zero_or_pos m with h0 | h0
   ·exact h0
   ·obtain ⟨b, o, h, _⟩ := hr.2 h0; cases h
  subst hm
  have hn0 : ys = [] := List.eq_nil_of_length_eq_zero hl
  subst hn0
  refine ⟨v, w, ?_, by simpa using hown, World.grownBy.refl w _, .inl rfl⟩
  unfold OwnL at hown
  rcases hown.2 with ⟨rfl, h0⟩ | ⟨g, cap, cur, rfl, _, _, hnc, _⟩
  ·simp [Builtin.append_, run_underlying K.ht, sizeOf, typeInfo, hi, Builtin.lenOf, Builtin.firstCells]
  ·simp [Builtin.append_, run_underlying K.ht, sizeOf, typeInfo, hi, Builtin.lenOf, Builtin.firstCells, hnc, storeCells]
 ·have hcells : ∀ j u, (ys.flatMap f)[j]? = some u → w.cell? (ad.add j) = some u := by
   intro j u hu
   have hj : j < m * size := by rw [← hfl]; exact (List.getElem?_eq_some_iff.1 hu).1
   have hjm : j / size < m := Nat.div_lt_of_lt_mul (by rw [Nat.mul_comm]; exact hj)
   obtain ⟨b, o, x, e1, -, hx, hc⟩ := hr.at hjm
   cases e1
   have hd := Nat.div_add_mod j size
   rw [Nat.mul_comm] at hd
   rw [← hd, flat_get K.len ys _ _ (Nat.mod_lt _ K.pos), hx] at hu
   have := hc w (Below.refl _ _) (j % size) u hu
   rw [add_at, ← hd]
   rwa [Nat.add_assoc] at this
  obtain ⟨v', w', hrun, h2, h3, _, h5⟩ := run_append_own_at (P := Tryz.prog) w base t ty e i z size bytes K.ht hi hz0 hz1 hz2 K.hz K.pos v xs.length _ hown ad m c _ hfl hcells h1c (by unfold maxLen; omega) (by omega) hbase
  exact ⟨v', w', hrun, hfin _ _ h2, h3, h5⟩
theorem wp_app (K : Kd f size e t bytes z) {w : World} {o : Oper} {a : Act} {K1 : Act → World → Prop} {Q : Exit → Act → World → Prop} (s x : Operand)
  (ho : o.op = .call { callee := .builtin .append, args := #[s, x], argTypes := #[t, t] }) (base : Nat) (v : Value) (xs : List α) (hs : a.eval s = v) (hown : OwnL f size e w base v xs)
  (A : Option Addr) (m c : Nat) (ys : List α) (hx : a.eval x = .slice A m c) (hr : Arr f size w A m ys) (hn : xs.length + m ≤ 1000000) (hbase : base ≤ w.heap.size)
  (h : ∀ v' w', OwnL f size e w' base v' (xs ++ ys) → w.grownBy w' v.ownBlock → (v'.ownBlock = v.ownBlock ∨ v'.ownBlock = some w.heap.size) → K1 (a.put o.dst v') w') : o.wp Tryz.prog a w K1 Q := by
 obtain ⟨v', w', hrun, h2, h3, h4⟩ := run_app K w o.type base v xs hown A m c ys hr hn hbase
 unfold Oper.wp execOp
 simp only [ho, resolve, invoke, builtin, Sem.run_bind, Sem.run_pure, Result.andThen_ok, List.map_toArray, List.map_cons, List.map_nil, hs, hx, hrun]
 exact h v' w' h2 h3 h4
/-- In a plain region. -/
theorem wpList_app (K : Kd f size e t bytes z) {w : World} {ops : Array Oper} {rest : List Oper} {o : Oper} {a : Act} {Q : Exit → Act → World → Prop} (hgd : o.guard = none) (s x : Operand)
  (ho : o.op = .call { callee := .builtin .append, args := #[s, x], argTypes := #[t, t] }) (base : Nat) (v : Value) (xs : List α) (hs : a.eval s = v) (hown : OwnL f size e w base v xs)
  (A : Option Addr) (m c : Nat) (ys : List α) (hx : a.eval x = .slice A m c) (hr : Arr f size w A m ys) (hn : xs.length + m ≤ 1000000) (hbase : base ≤ w.heap.size)
  (h : ∀ v' w', OwnL f size e w' base v' (xs ++ ys) → w.grownBy w' v.ownBlock → (v'.ownBlock = v.ownBlock ∨ v'.ownBlock = some w.heap.size) → wpList Tryz.prog ops Q rest (a.put o.dst v') w') : wpList Tryz.prog ops Q (o :: rest) a w :=
 wpList_plain hgd fun _ hK => wp_app K s x ho base v xs hs hown A m c ys hx hr hn hbase fun v' w' h2 h3 h4 => hK _ _ (h v' w' h2 h3 h4)
/-- In a region that draws its order. -/
theorem step_app (K : Kd f size e t bytes z) {w : World} {ops : Array Oper} {o : Oper} {a : Act} {K1 : Act → World → Prop} {Q : Exit → Act → World → Prop} {E : Prop} (hgd : o.guard = none) (s x : Operand)
  (ho : o.op = .call { callee := .builtin .append, args := #[s, x], argTypes := #[t, t] }) (base : Nat) (v : Value) (xs : List α) (hs : a.eval s = v) (hown : OwnL f size e w base v xs)
  (A : Option Addr) (m c : Nat) (ys : List α) (hx : a.eval x = .slice A m c) (hr : Arr f size w A m ys) (hn : xs.length + m ≤ 1000000) (hbase : base ≤ w.heap.size)
  (h : ∀ v' w', OwnL f size e w' base v' (xs ++ ys) → w.grownBy w' v.ownBlock → (v'.ownBlock = v.ownBlock ∨ v'.ownBlock = some w.heap.size) → K1 (a.put o.dst v') w') :
  if Region.wanted o (yielded ops a.tmps) = true then Oper.wp Tryz.prog o a w K1 Q else E := by
 have hw : Region.wanted o (yielded ops a.tmps) = true := by simp [Region.wanted, hgd]
 rw [if_pos hw]
 exact wp_app K s x ho base v xs hs hown A m c ys hx hr hn hbase h
theorem OwnL.mono {w : World} {base base' : Nat} {v : Value} {xs : List α} (h : OwnL f size e w base v xs) (hb : base' ≤ base) : OwnL f size e w base' v xs := World.ownsRow.mono h hb
theorem OwnL.ext {w w' : World} {base : Nat} {v : Value} {xs : List α} (h : OwnL f size e w base v xs) (g : Below w.heap.size w w') : OwnL f size e w' base v xs :=
 World.ownsRow.kept h (row := none) ⟨g.os, g.tape, g.output, g.size, fun k hk _ => g.block k hk⟩ (by
  cases hq : v.ownBlock with
  | none => exact .inl rfl
  | some k => exact .inr (by simp))
theorem OwnL.nil (w : World) (base : Nat) : OwnL f size e w base (.slice none 0 0) [] := World.ownsRow_nil w base e size
/-- What the append leaves as it was. -/
theorem OwnL.below {w w' : World} {base B : Nat} {v : Value} {xs : List α} (h : OwnL f size e w base v xs) (hg : w.grownBy w' v.ownBlock) (hB : B ≤ base) (hb : B ≤ w.heap.size) : Below B w w' :=
 (Below.refl _ _).grown hg hb (fun k hk => by have := World.ownsRow.lt h k hk; omega)
/-- As a slice. -/
theorem OwnL.arr {w : World} {base : Nat} {v : Value} {xs : List α} (K : Kd f size e t bytes z) (h : OwnL f size e w base v xs) : ∃ A c, v = .slice A xs.length c ∧ xs.length ≤ c ∧ c ≤ maxLen ∧ Arr f size w A xs.length xs ∧
  (∀ b o, A = some ⟨b, o, none⟩ → v.ownBlock = some b ∧ base ≤ b ∧ o = 0) := by
 obtain ⟨h1, h2 | ⟨g, cap, cur, rfl, hb, hg, h4, h5, h6, h7⟩⟩ := h
 ·obtain ⟨rfl, h3⟩ := h2
  have : xs = [] := List.eq_nil_of_length_eq_zero h3
  subst this
  exact ⟨none, 0, rfl, Nat.le_refl _, Nat.zero_le _, Arr.nil_, (by simp)⟩
 ·have hg' : Blk w g e cur := hg
  refine ⟨_, _, rfl, h4, h5, ⟨rfl, fun _ => ⟨g, 0, rfl, hg'.lt, fun k x hx j u hu => ?_⟩⟩, fun b o e => by cases e; exact ⟨rfl, hb, rfl⟩⟩
  have hk : k < xs.length := (List.getElem?_eq_some_iff.1 hx).1
  have hj : j < size := by rw [← K.len x]; exact (List.getElem?_eq_some_iff.1 hu).1
  have e1 : (xs.flatMap f)[k * size + j]? = some u := by rw [flat_get K.len xs k j hj, hx]; exact hu
  have hlt : k * size + j < xs.length * size := by
   have : (k + 1) * size ≤ xs.length * size := Nat.mul_le_mul_right _ hk
   rw [Nat.succ_mul] at this; omega
  rw [← h7, List.getElem?_take, if_pos hlt] at e1
  rw [show 0 + k * size + j = k * size + j by omega, hg'.cell]
  simpa using e1
/-- One element in a block of its own. -/
theorem Blk.arr1 {w : World} {g : Nat} {x : α} (h : Blk w g e (f x).toArray) : Arr f size w (some ⟨g, 0, none⟩) 1 [x] :=
 ⟨rfl, fun _ => ⟨g, 0, rfl, h.lt, fun k y hy j u hu => by
  have hk : k = 0 := by have := (List.getElem?_eq_some_iff.1 hy).1; simpa using this
  subst hk
  simp at hy; subst hy
  rw [show 0 + 0 * size + j = j by omega, h.cell]
  simpa using hu⟩⟩
end
end Go.Proofs.YtehhlgdkhecacaaGreat

namespace Go.Proofs.YtehhlgdkhecacaaGreat
open Go.RowKit Go.Shelf Go.Sort
theorem fix_turn {w w' : World} {b : Nat} (h : w.grownBy w' (some b)) : Fix b b w w' := ⟨h.os, h.tape, h.output, h.size, fun k hk h1 _ => h.block k hk (by intro e; cases e; exact h1 rfl)⟩
theorem info3 : (Tryz.prog.info? 3).map (fun i => (i.zero, i.size, i.bytes)) = some (some (.int .i64 0), 1, 8) := by kernel_rfl
theorem kdI : Kd icells 1 3 25 8 (.int .i64 0) := ⟨by kernel_rfl, info3, by simp [Value.cells], by decide, fun _ => rfl, fun _ u hu => by simp [icells] at hu; subst hu; rfl, by decide⟩
def cmpI (a b : Int) : Int := if a < b then -1 else if b < a then 1 else 0
theorem isNaN_any (x : Int) (w : World) : Calls Tryz.prog 154 #[.int .i64 x] w fun e w' => e = .returned (.bool false) ∧ w = w' := by
 go_enter Tryz.func154, Tryz.ntmps154
 go_wp2
 go_ret
 exact ⟨by simp, rfl⟩
theorem cmp_any (a b : Int) (w : World) : Calls Tryz.prog 132 #[.int .i64 a, .int .i64 b] w fun e w' => e = .returned (.int .i64 (cmpI a b)) ∧ w = w' := by
 unfold cmpI
 by_cases h1 : a < b
 ·go_enter Tryz.func132, Tryz.ntmps132
  go_wp2_with (go_at_call 154; (with_reducible refine (isNaN_any _ _).mono ?_); rintro e w' ⟨rfl, rfl⟩)
  go_ret
  exact ⟨rfl, rfl⟩
 ·by_cases h2 : b < a
  ·go_enter Tryz.func132, Tryz.ntmps132
   go_wp2_with (go_at_call 154; (with_reducible refine (isNaN_any _ _).mono ?_); rintro e w' ⟨rfl, rfl⟩)
   go_ret
   exact ⟨rfl, rfl⟩
  ·go_enter Tryz.func132, Tryz.ntmps132
   go_wp2_with (go_at_call 154; (with_reducible refine (isNaN_any _ _).mono ?_); rintro e w' ⟨rfl, rfl⟩)
   go_ret
   exact ⟨rfl, rfl⟩
theorem fix_grown {w w' : World} {g : Nat} (h : Fix g g w w') : w.grownBy w' (some g) := ⟨h.os, h.tape, h.output, h.size, fun k hk hne => h.block k hk (fun e => hne (by rw [e])) (fun e => hne (by rw [e]))⟩
/-- Values laid into a list from a place on. -/
def lput (l : List Value) (o : Nat) (vs : List Value) : List Value := l.take o ++ vs ++ l.drop (o + vs.length)
theorem lput_len {l vs : List Value} {o : Nat} (h : o + vs.length ≤ l.length) : (lput l o vs).length = l.length := by
 unfold lput
 simp only [List.length_append, List.length_take, List.length_drop]
 omega
theorem lput_cons {l vs : List Value} {o : Nat} {v : Value} (h : o + (v :: vs).length ≤ l.length) : lput (l.set o v) (o + 1) vs = lput l o (v :: vs) := by
 rw [List.length_cons] at h
 unfold lput
 rw [List.length_cons, show o + (vs.length + 1) = o + 1 + vs.length by omega, List.drop_set_of_lt (by omega), List.take_add_one, List.take_set_of_le (by omega), List.getElem?_set_self (by omega)]
 simp
theorem blk_setCells {g : Nat} {t : TypeId} : ∀ {vs : List Value} {o : Nat} {w : World} {cur : Array Value}, Blk w g t cur → o + vs.length ≤ cur.size → Blk (w.setCells g o vs) g t (lput cur.toList o vs).toArray
 | [], o, w, cur, h, _ => by
  unfold lput
  simp only [World.setCells, List.append_nil, List.length_nil, Nat.add_zero, List.take_append_drop, Array.toArray_toList]
  exact h
 | v :: vs, o, w, cur, h, hl => by
  have hl' : o + 1 + vs.length ≤ (cur.setIfInBounds o v).size := by rw [Array.size_setIfInBounds, List.length_cons] at *; omega
  have := blk_setCells (vs := vs) (o := o + 1) (h.set_ o v) hl'
  rw [Array.toList_setIfInBounds, lput_cons (by rw [Array.length_toList]; exact hl)] at this
  exact this
theorem fix_setCells {g : Nat} : ∀ (vs : List Value) (o : Nat) (w : World), Fix g g w (w.setCells g o vs)
 | [], _, _ => Fix.refl _ _ _
 | v :: vs, o, w => ((Fix.refl g g w).setCell (p := ⟨g, o, none⟩) (.inl rfl) v).trans (fix_setCells vs (o + 1) _)
section
variable {α : Type} {f : α → List Value} {size : Nat} {e : TypeId}
theorem own_inv {w : World} {base g n cap : Nat} {ys : List α} (h : OwnL f size e w base (.slice (some ⟨g, 0, none⟩) n cap) ys) :
  n = ys.length ∧ base ≤ g ∧ ∃ cur, Blk w g e cur ∧ n ≤ cap ∧ cap ≤ maxLen ∧ cur.size = cap * size ∧ cur.toList.take (n * size) = ys.flatMap f := by
 obtain ⟨h1, ⟨e0, _⟩ | ⟨g', cap', cur, e1, hb, hg, hn, hm, hs, ht⟩⟩ := h
 ·cases e0
 ·cases e1
  exact ⟨rfl, hb, cur, hg, hn, hm, hs, ht⟩
theorem own_mk (hf : ∀ x, (f x).length = size) {w : World} {base g n cap : Nat} {ys : List α} {cur : Array Value} (hn0 : n = ys.length) (hb : base ≤ g) (hg : Blk w g e cur) (hn : n ≤ cap) (hm : cap ≤ maxLen) (hs : cur.size = cap * size) (ht : cur.toList.take (n * size) = ys.flatMap f) :
  OwnL f size e w base (.slice (some ⟨g, 0, none⟩) n cap) ys := by
 subst hn0
 exact ⟨flat_len hf ys, .inr ⟨g, cap, cur, rfl, hb, hg, hn, hm, hs, ht⟩⟩
theorem flat_take (hf : ∀ x, (f x).length = size) : ∀ (ys : List α) (k : Nat), (ys.flatMap f).take (k * size) = (ys.take k).flatMap f
 | [], k => by simp
 | y :: ys, 0 => by simp
 | y :: ys, k + 1 => by
  rw [List.flatMap_cons, List.take_succ_cons, List.flatMap_cons, ← flat_take hf ys k, List.take_append, hf, Nat.succ_mul, Nat.add_sub_cancel, List.take_of_length_le (by rw [hf]; omega)]
theorem flat_drop (hf : ∀ x, (f x).length = size) : ∀ (ys : List α) (k : Nat), (ys.flatMap f).drop (k * size) = (ys.drop k).flatMap f
 | [], k => by simp
 | y :: ys, 0 => by simp
 | y :: ys, k + 1 => by
  rw [List.flatMap_cons, List.drop_succ_cons, ← flat_drop hf ys k, List.drop_append, hf, Nat.succ_mul, Nat.add_sub_cancel, List.drop_of_length_le (by rw [hf]; omega)]
  rfl
theorem flat_lput (hf : ∀ x, (f x).length = size) {ys : List α} {i : Nat} (hi : i < ys.length) (x : α) : lput (ys.flatMap f) (i * size) (f x) = (ys.set i x).flatMap f := by
 unfold lput
 rw [hf, flat_take hf, show i * size + size = (i + 1) * size by rw [Nat.succ_mul], flat_drop hf, List.set_eq_take_append_cons_drop, if_pos hi, List.flatMap_append, List.flatMap_cons, List.append_assoc]
theorem take_lput {l vs : List Value} {o m : Nat} (h : o + vs.length ≤ m) : (lput l o vs).take m = lput (l.take m) o vs := by
 unfold lput
 rw [List.append_assoc, List.append_assoc, List.take_append, List.take_append, List.take_take, List.take_take, Nat.min_eq_right (by omega), Nat.min_eq_left (by omega)]
 by_cases hl : o ≤ l.length
 ·rw [List.length_take, Nat.min_eq_left hl, List.take_of_length_le (l := vs) (by omega), List.drop_take, show m - o - vs.length = m - (o + vs.length) by omega]
 ·rw [List.drop_of_length_le (by omega), List.drop_of_length_le (by rw [List.length_take]; omega)]
  rw [List.length_take, Nat.min_eq_right (by omega), List.take_of_length_le (l := vs) (by omega), List.take_nil]
/-- A store of one element. -/
theorem OwnL.put (hf : ∀ x, (f x).length = size) {w : World} {base g n cap i : Nat} {ys : List α} (h : OwnL f size e w base (.slice (some ⟨g, 0, none⟩) n cap) ys) (hi : i < n) (x : α) :
  OwnL f size e (w.setCells g (i * size) (f x)) base (.slice (some ⟨g, 0, none⟩) n cap) (ys.set i x) := by
 obtain ⟨hn0, hb, cur, hg, hn, hm, hs, ht⟩ := own_inv h
 have hle : (i + 1) * size ≤ n * size := Nat.mul_le_mul_right _ hi
 have hle2 : n * size ≤ cap * size := Nat.mul_le_mul_right _ hn
 rw [Nat.succ_mul] at hle
 have hbd : i * size + (f x).length ≤ cur.size := by rw [hf, hs]; omega
 refine own_mk hf (by rw [List.length_set]; exact hn0) hb (blk_setCells hg hbd) hn hm ?_ ?_
 ·rw [List.size_toArray, lput_len (by rw [Array.length_toList]; exact hbd), Array.length_toList, hs]
 ·rw [take_lput (by rw [hf]; omega), ht, flat_lput hf (by omega)]
/-- Its beginning. -/
theorem OwnL.front (hf : ∀ x, (f x).length = size) {w : World} {base g n cap i : Nat} {ys : List α} (h : OwnL f size e w base (.slice (some ⟨g, 0, none⟩) n cap) ys) (hi : i ≤ n) :
  OwnL f size e w base (.slice (some ⟨g, 0, none⟩) i cap) (ys.take i) := by
 obtain ⟨hn0, hb, cur, hg, hn, hm, hs, ht⟩ := own_inv h
 have hle : i * size ≤ n * size := Nat.mul_le_mul_right _ hi
 refine own_mk hf (by rw [List.length_take]; omega) hb hg (by omega) hm hs ?_
 rw [← flat_take hf, ← ht, List.take_take, Nat.min_eq_left hle]
/-- Stores behind its beginning. -/
theorem OwnL.behind (hf : ∀ x, (f x).length = size) {w : World} {base g i cap o : Nat} {ys : List α} {vs : List Value} (h : OwnL f size e w base (.slice (some ⟨g, 0, none⟩) i cap) ys) (ho : i * size ≤ o) (hv : o + vs.length ≤ cap * size) :
  OwnL f size e (w.setCells g o vs) base (.slice (some ⟨g, 0, none⟩) i cap) ys := by
 obtain ⟨hn0, hb, cur, hg, hn, hm, hs, ht⟩ := own_inv h
 refine own_mk hf hn0 hb (blk_setCells hg (by rw [hs]; exact hv)) hn hm ?_ ?_
 ·rw [List.size_toArray, lput_len (by rw [Array.length_toList (xs := cur), hs]; exact hv), Array.length_toList, hs]
 ·show (lput cur.toList o vs).take (i * size) = _
  unfold lput
  rw [← ht, List.append_assoc, List.take_append_of_le_length (by rw [List.length_take, Array.length_toList, hs]; have : i * size ≤ cap * size := Nat.mul_le_mul_right _ hn; omega), List.take_take, Nat.min_eq_left ho]
end
theorem zeroCells_len (z : Array Value) (m : Nat) : (Builtin.zeroCells z m).toList.length = m * z.size := by simp [Builtin.zeroCells]
theorem zeroCells_one {z : Array Value} (hz : 0 < z.size) (h1 : ∀ v ∈ z, v.oneCell' = true) (m : Nat) : ∀ v ∈ (Builtin.zeroCells z m).toList, v.oneCell' = true := by
 intro v hv
 simp only [Builtin.zeroCells, Array.toList_map, List.mem_map] at hv
 obtain ⟨i, -, rfl⟩ := hv
 have hi : i % z.size < z.size := Nat.mod_lt _ hz
 rw [getElem!_pos z (i % z.size) hi]
 exact h1 _ (Array.getElem_mem hi)
theorem run_clear_gen (w : World) (t e ty : TypeId) (z : Value) (size b o m c : Nat) (ht : Tryz.prog.underlying t = some (.slice e)) (hv : ∀ w, (zeroValue e).run Tryz.prog w = .ok z w) (hm : 0 < m) (hsz : z.cells.size = size) (h0 : 0 < size) (h1 : ∀ v ∈ z.cells, v.oneCell' = true)
  (hc : ∀ j, j < m * size → (w.cell? ⟨b, o + j, none⟩).isSome = true) (hf : ∀ j, j < m * size → w.frozen? ⟨b, o + j, none⟩ = false) :
  (Builtin.clear_ #[t] ty #[.slice (some ⟨b, o, none⟩) m c]).run Tryz.prog w = .ok (.tuple #[]) (w.setCells b o (Builtin.zeroCells z.cells m).toList) := by
 have hl := zeroCells_len z.cells m
 rw [hsz] at hl
 have hst := run_storeCells_cells (P := Tryz.prog) b o (Builtin.zeroCells z.cells m).toList 0 w (by rw [hl]; simpa using hc) (by rw [hl]; simpa using hf) (zeroCells_one (by omega) h1 m)
 simp only [Nat.add_zero] at hst
 obtain ⟨k, rfl⟩ : ∃ k, m = k + 1 := ⟨m - 1, by omega⟩
 simp [Builtin.clear_, run_underlying ht, hv, hst]
theorem getD_int {l : List Int} {k : Nat} (hk : k < l.length) : l.getD k 0 = l[k] := by rw [List.getD_eq_getElem?_getD, List.getElem?_eq_getElem hk]; rfl
set_option maxRecDepth 100000 in
theorem eqNil25 (a : Option Addr) (n c : Nat) (w : World) : (binOp .eql 25 (.slice a n c) (.slice none 0 0)).run Tryz.prog w = .ok (.bool a.isNone) w := by
 cases a <;> rfl
set_option maxRecDepth 100000 in
set_option maxHeartbeats 1000000 in
theorem cloneI_any (A : Option Addr) (n c : Nat) (xs : List Int) (w : World) (ha : Arr icells 1 w A n xs) (hn : n ≤ 1000000) :
  Calls Tryz.prog 95 #[.slice A n c] w fun e w' => (∃ v, e = .returned v ∧ OwnL icells 1 3 w' w.heap.size v xs) ∧ Below w.heap.size w w' := by
 cases A with
 | none =>
  have h0 : n = 0 := by
   rcases Nat.eq_zero_or_pos n with h | h
   ·exact h
   ·obtain ⟨b, o, e, _⟩ := ha.2 h; cases e
  subst h0
  have : xs = [] := List.eq_nil_of_length_eq_zero ha.1
  subst this
  have heq := fun w => eqNil25 none 0 c w
  clear ha
  go_enter Tryz.func95, Tryz.ntmps95
  go_wp2_with fail
  go_ret
  exact ⟨⟨_, rfl, OwnL.nil _ _⟩, Below.refl _ _⟩
 | some a =>
  have heq := fun w => eqNil25 (some a) n c w
  have HOW := Lib.hid (show OwnL icells 1 3 (w.alloc (.cells #[] 3)) w.heap.size (.slice (some ⟨w.heap.size, 0, none⟩) 0 0) [] from World.ownsRow_made (e := 3) (size := 1) w #[] 0 (Nat.le_refl w.heap.size) (by decide) rfl)
  have HAA := Lib.hid (ha.below (one_more w (.cells #[] 3)))
  clear ha
  go_enter Tryz.func95, Tryz.ntmps95
  go_wp2_with (first | (at_builtin; go_loud (refine wpList_app kdI (by rfl) _ _ (by rfl) w.heap.size _ [] (by rfl) HOW.out (some a) n c xs (by rfl) HAA.out (by simpa using hn) (by simp) ?_); intro v' w' ho hbw hz; have HO := Lib.hid ho; have HB := Lib.hid (HOW.out.below hbw (Nat.le_refl _) (by simp)); clear ho hbw hz))
  go_ret
  exact ⟨⟨_, rfl, by have := HO.out; rwa [List.nil_append] at this⟩, (one_more w _).trans HB.out⟩
/-- Whether one is among integers. -/
def hasI (l : List Int) (x : Int) : Bool := l.contains x
theorem hasI_true {l : List Int} {x : Int} (h : x ∈ l) : hasI l x = true := List.contains_iff_mem.2 h
theorem hasI_iff {l : List Int} {x : Int} : hasI l x = true ↔ x ∈ l := List.contains_iff_mem
theorem hasI_false {l : List Int} {x : Int} (h : ∀ j, j < l.length → l.getD j 0 ≠ x) : hasI l x = false := by
 rw [← Bool.not_eq_true, hasI_iff]
 intro hy
 obtain ⟨j, hj, hjx⟩ := List.getElem_of_mem hy
 have := h j hj
 rw [getD_int hj] at this
 exact this hjx
theorem index_any (A : Option Addr) (n c : Nat) (l : List Int) (x : Int) (w : World) (ha : Ints w A n l) (hn : n ≤ 9223372036854775807) :
  Calls Tryz.prog 149 #[.slice A n c, .int .i64 x] w fun e w' => (∃ i : Int, e = .returned (.int .i64 i) ∧ decide (0 ≤ i) = hasI l x) ∧ w = w' := by
 have HA := Lib.hid ha
 have hlen := Lib.hid ha.1
 clear ha
 go_enter Tryz.func149, Tryz.ntmps149
 go_wp2_with fail
 go_loop [8] (fun i => ∃ k : Nat, k ≤ n ∧ i = .int .i64 k ∧ ∀ j, j < k → l.getD j 0 ≠ x) (fun i => n - (intOf i).toNat)
 case atStart => exact ⟨0, Nat.zero_le _, rfl, fun j hj => absurd hj (by omega)⟩
 case round =>
  obtain ⟨k, hk, rfl, hno⟩ := hrel
  have HNO := Lib.hid hno
  clear hno
  by_cases hkn : k < n
  ·obtain ⟨b, o, rfl, -, hmem, hc⟩ := ints_at HA.out hkn
   have d0 := hc _ (Below.refl _ _)
   obtain ⟨y, hy⟩ : ∃ y, l.getD k 0 = y := ⟨_, rfl⟩
   rw [hy] at d0 hmem
   have HY := Lib.hid hy
   have HM := Lib.hid hmem
   clear hc hmem hy
   by_cases e : x = y
   ·subst e
    go_wp2_with fail
    go_ret
    exact ⟨⟨k, rfl, by rw [decide_eq_true (show (0 : Int) ≤ k by omega)]; exact (hasI_true (List.mem_of_getElem? HM.out)).symm⟩, rfl⟩
   ·have e1 : (x == y) = false := by simpa using e
    have E := Lib.hid e
    clear e
    go_wp2_with fail
    go_round
    case rel => exact ⟨k + 1, by omega, by go_num, fun j hj => by
     by_cases e : j = k
     ·subst e; rw [HY.out]; exact fun h => E.out h.symm
     ·exact HNO.out j (by omega)⟩
    case measure => simp [intOf]; omega
  ·obtain rfl : n = k := by omega
   go_wp2_with fail
   go_ret
   refine ⟨⟨-1, rfl, ?_⟩, rfl⟩
   rw [decide_eq_false (by omega)]
   exact (hasI_false fun j hj => HNO.out j (by rw [← hlen.out]; exact hj)).symm
theorem has_any (A : Option Addr) (n c : Nat) (l : List Int) (x : Int) (w : World) (ha : Ints w A n l) (hn : n ≤ 9223372036854775807) :
  Calls Tryz.prog 121 #[.slice A n c, .int .i64 x] w fun e w' => e = .returned (.bool (hasI l x)) ∧ w = w' := by
 have T := index_any A n c l x w ha hn
 generalize hasI l x = r at T ⊢
 go_enter Tryz.func121, Tryz.ntmps121
 go_wp2_with (go_at_call 149; (with_reducible refine T.mono ?_); rintro e w' ⟨⟨i, rfl, hi⟩, rfl⟩)
 go_ret
 exact ⟨rfl, rfl⟩
theorem icells_len (x : Int) : (icells x).length = 1 := rfl
theorem getD_int1 {l : List Int} {i : Nat} (hi : i < l.length) : l[i]? = some (l.getD i 0) := by rw [List.getD_eq_getElem?_getD, List.getElem?_eq_getElem hi]; rfl
theorem grow_none (w : World) : grow w #[] = w := by
 cases w; simp [grow]
theorem own_ints {w : World} {base : Nat} {v : Value} {l : List Int} (h : OwnL icells 1 3 w base v l) : w.ownsRow base 3 1 v l.length (l.map (Value.int .i64)) := by
 unfold OwnL at h
 rwa [flat_icells] at h
theorem own_ints' {w : World} {base : Nat} {v : Value} {l : List Int} (h : w.ownsRow base 3 1 v l.length (l.map (Value.int .i64))) : OwnL icells 1 3 w base v l := by
 unfold OwnL
 rwa [flat_icells]
/-- One's own row laid anew. -/
theorem own_laid {w : World} {base g n c q : Nat} {l ts : List Int} (h : OwnL icells 1 3 w base (.slice (some ⟨g, 0, none⟩) n c) l) (ht : ts.length = l.length) :
  OwnL icells 1 3 (putRow (Value.int .i64) (Sort.ahead w q) g 0 ts.toArray) base (.slice (some ⟨g, 0, none⟩) n c) ts ∧ Fix g g w (putRow (Value.int .i64) (Sort.ahead w q) g 0 ts.toArray) := by
 obtain ⟨hn0, hb, cur, hg, hn, hm, hs, -⟩ := own_inv h
 have h1 := ownsRow_sortedI (w := w) (base := base) (g := g) (cap := c) (n := q) (e := 3) (os := #[]) (cur := cur) (ss := l) (ts := ts) ht hb hg (by omega) hm hs
 rw [grow_none, ← hn0] at h1
 refine ⟨own_ints' (by rw [ht, ← hn0]; exact h1), ?_⟩
 have h2 := grownBy_sortedI (w := w) (g := g) (n := q) (os := #[]) ts.toArray
 rw [grow_none] at h2
 exact fix_turn h2
shelf_lay Lays.n189 Nm 189 at Tryz as laysSort
shelf_lay Lays2.n23 Nm2 23 at Tryz as laysDelete
shelf_lay Lays2.n20 Nm2 20 at Tryz as laysCompact
/-- Sorted. -/
def srt (l : List Int) : List Int := l.mergeSort fun x y => decide (x ≤ y)
theorem delInt_any (base g n c i : Nat) (l : List Int) (w : World) (h : OwnL icells 1 3 w base (.slice (some ⟨g, 0, none⟩) n c) l) (hi : i < n) (hn : n ≤ 1000000) :
  Calls Tryz.prog 110 #[.slice (some ⟨g, 0, none⟩) n c, .int .i64 i, .int .i64 ((i : Int) + 1)] w fun e w' => e = .returned (.slice (some ⟨g, 0, none⟩) (n - 1) c) ∧ OwnL icells 1 3 w' base (.slice (some ⟨g, 0, none⟩) (n - 1) c) (l.eraseIdx i) ∧ Fix g g w w' := by
 have hx := own_inv h
 obtain ⟨hn0, hb, cur, hg, hnc, hm, hs, -⟩ := hx
 obtain ⟨g', cap, hv, -, -, -, -, -, hH⟩ := Lib.holds_of_ownsRow (own_ints h) (by simp)
 cases hv
 refine (Any.slices_Delete_int laysDelete g 0 c i (i + 1) l w hH hnc (by unfold maxLen at hm; omega) (by omega) (by omega)).mono ?_
 rintro e w' ⟨rfl, q, rfl⟩
 obtain ⟨h1, h2⟩ := own_laid (q := q) h (ts := l.take i ++ l.drop (i + 1) ++ List.replicate (i + 1 - i) 0) (by simp; omega)
 refine ⟨by rw [show i + 1 - i = 1 by omega], ?_, h2⟩
 have h3 := h1.front icells_len (i := l.length - 1) (by omega)
 have e : (l.take i ++ l.drop (i + 1) ++ List.replicate (i + 1 - i) 0).take (l.length - 1) = l.eraseIdx i := by
  rw [List.take_append_of_le_length (by rw [List.length_append, List.length_take, List.length_drop]; omega), List.take_of_length_le (by rw [List.length_append, List.length_take, List.length_drop]; omega), List.eraseIdx_eq_take_drop_succ]
 rw [e] at h3
 exact h3
theorem compactUpTo_le (d : Array Int) : ∀ m, (Lib.compactUpTo d m).length ≤ m
 | 0 => by simp [Lib.compactUpTo]
 | m + 1 => by
  have := compactUpTo_le d m
  rw [Lib.compactUpTo_succ, List.length_append]
  split
  ·rw [List.length_singleton]; omega
  ·rw [List.length_nil]; omega
theorem compact_any (base : Nat) (v : Value) (l : List Int) (w : World) (h : OwnL icells 1 3 w base v l) (hn : l.length ≤ 1000000) (hb0 : base ≤ w.heap.size) :
  Calls Tryz.prog 104 #[v] w fun e w' => (∃ v', e = .returned v' ∧ OwnL icells 1 3 w' base v' (Lib.compact l) ∧ (v'.ownBlock = v.ownBlock)) ∧ w.grownBy w' v.ownBlock := by
 by_cases hv : v = .slice none 0 0
 ·subst hv
  have e : l = [] := by
   obtain ⟨h1, h2 | ⟨g, cap, cur, h3, -⟩⟩ := h
   ·exact List.eq_nil_of_length_eq_zero (by
     have := h1; rw [flat_len icells_len] at this; omega)
   ·cases h3
  subst e
  refine (Any.slices_Compact_int_empty laysCompact none 0 w).mono ?_
  rintro e w' ⟨rfl, rfl⟩
  exact ⟨⟨_, rfl, OwnL.nil _ _, rfl⟩, ⟨rfl, rfl, rfl, Nat.le_refl _, fun _ _ _ => rfl⟩⟩
 ·obtain ⟨g, cap, rfl, -, -, hncap, hcm, -, hH⟩ := Lib.holds_of_ownsRow (own_ints h) hv
  have hle : (Lib.compact l).length ≤ l.length := compactUpTo_le l.toArray l.length
  refine (Any.slices_Compact_int laysCompact g 0 cap l w hH (by omega) hncap).mono ?_
  rintro e w' ⟨rfl, q, rfl⟩
  obtain ⟨h1, h2⟩ := own_laid (q := q) h (ts := Lib.compact l ++ List.replicate (l.length - (Lib.compact l).length) 0) (by simp; omega)
  have h3 := h1.front icells_len (i := (Lib.compact l).length) hle
  rw [List.take_append_of_le_length (Nat.le_refl _), List.take_length] at h3
  rw [show Lib.compact l ++ List.replicate (l.length - (Lib.compact l).length) 0 = Lib.compact l ++ List.replicate (l.length - (Lib.compact l).length) (0 : Int) from rfl] at h2 h3
  exact ⟨⟨_, rfl, h3, rfl⟩, fix_grown h2⟩
theorem srt_up (l : List Int) : (srt l).Pairwise (· ≤ ·) := by
 have := List.pairwise_mergeSort (le := fun x y : Int => decide (x ≤ y)) (fun a b c h1 h2 => by simp at *; omega) (fun a b => by simp; omega) l
 unfold srt
 exact this.imp fun h => of_decide_eq_true h
theorem compact_sub (l : List Int) : (Lib.compact l).Sublist l := by
 unfold Lib.compact Lib.compactUpTo
 have h : ((List.range l.length).filter (Lib.keeps l.toArray)).Sublist (List.range l.length) := List.filter_sublist
 have h2 := h.map (fun i => l.toArray[i]!)
 have e : (List.range l.length).map (fun i => l.toArray[i]!) = l := by
  have := Lib.range_map_get l.toArray
  simpa using this
 rw [e] at h2
 exact h2
theorem compact_up {l : List Int} (h : l.Pairwise (· ≤ ·)) : (Lib.compact l).Pairwise (· < ·) := by
 unfold Lib.compact Lib.compactUpTo
 rw [List.pairwise_map]
 refine List.Pairwise.imp_of_mem ?_ (List.Pairwise.filter _ List.pairwise_lt_range)
 intro i j hi hj hij
 have hj1 := (List.mem_filter.1 hj)
 have hjl := List.mem_range.1 hj1.1
 have hk := hj1.2
 unfold Lib.keeps at hk
 rw [decide_eq_true_eq] at hk
 have h1 : l.toArray[j]! ≠ l.toArray[j - 1]! := by
  rcases hk with e | e
  ·omega
  ·exact e
 have g : ∀ t, t < l.length → l.toArray[t]! = l.getD t 0 := fun t ht => by simp [ht, List.getD_eq_getElem?_getD]
 rw [g j hjl, g (j - 1) (by omega)] at h1
 show l.toArray[i]! < l.toArray[j]!
 rw [g i (by omega), g j hjl]
 have mono : ∀ a b, a ≤ b → b < l.length → l.getD a 0 ≤ l.getD b 0 := fun a b hab hb => by
  by_cases e : a = b
  ·subst e; exact Int.le_refl _
  ·have := List.pairwise_iff_getElem.1 h a b (by omega) hb (by omega)
   rw [List.getD_eq_getElem?_getD, List.getD_eq_getElem?_getD, List.getElem?_eq_getElem (by omega), List.getElem?_eq_getElem hb]
   exact this
 have a1 := mono i (j - 1) (by omega) (by omega)
 have a2 := mono (j - 1) j (by omega) hjl
 omega
theorem eq_of_getD {l l' : List Int} (hl : l.length = l'.length) (h : ∀ j, j < l.length → l.getD j 0 = l'.getD j 0) : l = l' := by
 apply List.ext_getElem hl
 intro j h1 h2
 have := h j h1
 rw [List.getD_eq_getElem?_getD, List.getD_eq_getElem?_getD, List.getElem?_eq_getElem h1, List.getElem?_eq_getElem h2] at this
 exact this
set_option maxRecDepth 100000 in
theorem sameInts_any (A B : Option Addr) (n c m c' : Nat) (l l' : List Int) (w : World) (ha : Ints w A n l) (hb : Ints w B m l') (hn : n ≤ 9223372036854775807) (hm : m ≤ 9223372036854775807) :
  Calls Tryz.prog 19 #[.slice A n c, .slice B m c'] w fun e w' => e = .returned (.bool (decide (l = l'))) ∧ Below w.heap.size w w' := by
 have HA := Lib.hid ha
 have HB := Lib.hid hb
 have hl := Lib.hid ha.1
 have hl' := Lib.hid hb.1
 clear ha hb
 by_cases hmn : n = m
 ·subst hmn
  go_enter Tryz.func19, Tryz.ntmps19
  go_wp2_with fail
  all_goals first
   | (exfalso; omega)
   | skip
  go_loopw [5] (fun i wr => ∃ k : Nat, k ≤ n ∧ i = .int .i64 k ∧ (∀ j, j < k → l.getD j 0 = l'.getD j 0) ∧ Below w.heap.size w wr) (fun i _ => n - (intOf i).toNat)
  case atStart => exact ⟨0, Nat.zero_le _, rfl, by omega, Below.refl _ _⟩
  case round =>
   obtain ⟨k, hk, rfl, hno, hg⟩ := hrel
   have HN := Lib.hid hno
   have HG := Lib.hid hg
   clear hno
   by_cases hlt : k < n
   ·obtain ⟨b, o, rfl, -, -, hc⟩ := ints_at HA.out hlt
    obtain ⟨b', o', rfl, -, -, hc'⟩ := ints_at HB.out hlt
    have c0 := hc wr hg
    have c1 := hc' wr hg
    obtain ⟨x, hx⟩ : ∃ x, l.getD k 0 = x := ⟨_, rfl⟩
    obtain ⟨y, hy⟩ : ∃ y, l'.getD k 0 = y := ⟨_, rfl⟩
    have HX := Lib.hid hx
    have HY := Lib.hid hy
    rw [hx] at c0
    rw [hy] at c1
    clear hc hc' hx hy hg
    go_wp2_with fail
    have F : ∀ z : Wd wr, z.val.cell? ⟨b, o + k, none⟩ = some (.int .i64 x) ∧ z.val.cell? ⟨b', o' + k, none⟩ = some (.int .i64 y) := fun z => ⟨cellW c0 z, cellW c1 z⟩
    refine wp_region_calm wr (by kernel_rfl) (by kernel_rfl) (Below.refl _ _) ?_
    repeat (go_big_quiet_step (fail))
    refine wpQuiet_nil ?_
    rintro _ ⟨z, rfl⟩
    by_cases hxy : x = y
    ·subst hxy
     have hb : (x != x) = false := by simp
     go_wp2_with fail
     all_goals first
      | (exfalso; simp at *; done)
      | skip
     go_roundw
     case rel =>
      refine ⟨k + 1, by omega, by go_num, fun j hj => ?_, HG.out.trans (z.ok.mono HG.out.size)⟩
      by_cases hjk : j < k
      ·exact HN.out j hjk
      ·obtain rfl : j = k := by omega
       rw [HX.out, HY.out]
     case measure => simp [intOf]; omega
    ·have hb : (x != y) = true := by simpa using hxy
     go_wp2_with fail
     all_goals first
      | (exfalso; omega)
      | skip
     go_ret
     have : decide (l = l') = false := by
      simp; rintro rfl; exact hxy (HX.out.symm.trans HY.out)
     rw [this]
     exact ⟨rfl, HG.out.trans (z.ok.mono HG.out.size)⟩
   ·obtain rfl : k = n := by omega
    clear hg
    go_wp2_with fail
    go_ret
    have : decide (l = l') = true := by
     simp; exact eq_of_getD (by rw [hl.out, hl'.out]) (fun j hj => HN.out j (by rw [← hl.out]; exact hj))
    rw [this]
    exact ⟨rfl, HG.out⟩
 ·go_enter Tryz.func19, Tryz.ntmps19
  have hne : ((n : Int) != (m : Int)) = true := by simp; omega
  go_wp2_with fail
  all_goals first
   | (exfalso; omega)
   | skip
  go_ret
  have : decide (l = l') = false := by
   simp; rintro rfl; exact hmn (by rw [← hl.out, ← hl'.out])
  rw [this]
  exact ⟨rfl, Below.refl _ _⟩
set_option maxRecDepth 100000 in
theorem equal_any (A B : Option Addr) (n c m c' : Nat) (l l' : List Int) (w : World) (ha : Ints w A n l) (hb : Ints w B m l') (hn : n ≤ 9223372036854775807) (hm : m ≤ 9223372036854775807) :
  Calls Tryz.prog 76 #[.slice A n c, .slice B m c'] w fun e w' => e = .returned (.bool (decide (l = l'))) ∧ Below w.heap.size w w' := by
 have HA := Lib.hid ha
 have HB := Lib.hid hb
 have hl := Lib.hid ha.1
 have hl' := Lib.hid hb.1
 clear ha hb
 by_cases hmn : n = m
 ·subst hmn
  go_enter Tryz.func76, Tryz.ntmps76
  go_wp2_with fail
  all_goals first
   | (exfalso; omega)
   | skip
  go_loopw [13] (fun i wr => ∃ k : Nat, k ≤ n ∧ i = .int .i64 k ∧ (∀ j, j < k → l.getD j 0 = l'.getD j 0) ∧ Below w.heap.size w wr) (fun i _ => n - (intOf i).toNat)
  case atStart => exact ⟨0, Nat.zero_le _, rfl, by omega, Below.refl _ _⟩
  case round =>
   obtain ⟨k, hk, rfl, hno, hg⟩ := hrel
   have HN := Lib.hid hno
   have HG := Lib.hid hg
   clear hno
   by_cases hlt : k < n
   ·obtain ⟨b, o, rfl, -, -, hc⟩ := ints_at HA.out hlt
    obtain ⟨b', o', rfl, -, -, hc'⟩ := ints_at HB.out hlt
    have c0 := hc wr hg
    have c1 := hc' wr hg
    obtain ⟨x, hx⟩ : ∃ x, l.getD k 0 = x := ⟨_, rfl⟩
    obtain ⟨y, hy⟩ : ∃ y, l'.getD k 0 = y := ⟨_, rfl⟩
    have HX := Lib.hid hx
    have HY := Lib.hid hy
    rw [hx] at c0
    rw [hy] at c1
    clear hc hc' hx hy hg
    go_wp2_with fail
    have F : ∀ z : Wd wr, z.val.cell? ⟨b, o + k, none⟩ = some (.int .i64 x) ∧ z.val.cell? ⟨b', o' + k, none⟩ = some (.int .i64 y) := fun z => ⟨cellW c0 z, cellW c1 z⟩
    refine wp_region_calm wr (by kernel_rfl) (by kernel_rfl) (Below.refl _ _) ?_
    repeat (go_big_quiet_step (fail))
    refine wpQuiet_nil ?_
    rintro _ ⟨z, rfl⟩
    by_cases hxy : x = y
    ·subst hxy
     have hb : (x != x) = false := by simp
     go_wp2_with fail
     all_goals first
      | (exfalso; simp at *; done)
      | skip
     go_roundw
     case rel =>
      refine ⟨k + 1, by omega, by go_num, fun j hj => ?_, HG.out.trans (z.ok.mono HG.out.size)⟩
      by_cases hjk : j < k
      ·exact HN.out j hjk
      ·obtain rfl : j = k := by omega
       rw [HX.out, HY.out]
     case measure => simp [intOf]; omega
    ·have hb : (x != y) = true := by simpa using hxy
     go_wp2_with fail
     all_goals first
      | (exfalso; omega)
      | skip
     go_ret
     have : decide (l = l') = false := by
      simp; rintro rfl; exact hxy (HX.out.symm.trans HY.out)
     rw [this]
     exact ⟨rfl, HG.out.trans (z.ok.mono HG.out.size)⟩
   ·obtain rfl : k = n := by omega
    clear hg
    go_wp2_with fail
    go_ret
    have : decide (l = l') = true := by
     simp; exact eq_of_getD (by rw [hl.out, hl'.out]) (fun j hj => HN.out j (by rw [← hl.out]; exact hj))
    rw [this]
    exact ⟨rfl, HG.out⟩
 ·go_enter Tryz.func76, Tryz.ntmps76
  have hne : ((n : Int) != (m : Int)) = true := by simp; omega
  go_wp2_with fail
  all_goals first
   | (exfalso; omega)
   | skip
  go_ret
  have : decide (l = l') = false := by
   simp; rintro rfl; exact hmn (by rw [← hl.out, ← hl'.out])
  rw [this]
  exact ⟨rfl, Below.refl _ _⟩
end Go.Proofs.YtehhlgdkhecacaaGreat

namespace Go.Proofs.YtehhlgdkhecacaaGreat
/-- A proof. -/
structure Qf where
 src : Int
 kind : Int
 per : List Int
 oth : Int
 par : Int
 day : Int
 thr : Int
 kno : Int
 unt : Int
deriving DecidableEq
def q0 : Qf := ⟨0, 0, [], 0, 0, 0, 0, 0, 0⟩
/-- A title. -/
structure Tt where
 day : Int
 par : Int
 src : Int
deriving DecidableEq
def t0 : Tt := ⟨0, 0, 0⟩
def lastsB (k : Int) : Bool := decide (k = 3) || decide (k = 4) || decide (k = 5)
/-- Strictly rising. -/
def upB (l : List Int) : Bool := (List.range l.length).all fun j => decide (j = 0) || decide (l.getD (j - 1) 0 < l.getD j 0)
def isQf (q : Qf) : Bool :=
 rng q.src 1 99999 && rng q.kind 1 8 && rng q.per.length 1 4 && upB q.per && q.per.all (fun n => rng n 1 999) && rng q.day 0 4166 && rng q.kno 0 4166 && (decide (q.unt = 0) || rng q.unt (q.kno + 1) 4166) &&
  (if lastsB q.kind = true then rng q.thr q.day 4166 else decide (q.thr = 0)) && (if q.kind = 2 then rng q.oth 1 999 && decide (q.par = 0) else decide (q.oth = 0) && rng q.par 0 5)
def manyL (l : List Qf) : Nat := (l.map fun q => q.per.length).foldl (· * ·) 1
def okL (l : List Qf) : Bool := l.all isQf && decide (l.length ≤ 60) && decide (manyL l ≤ 2000) && upB (l.map Qf.src)
def cnt (q : Qf) (k : Int) : Bool := decide (q.kno ≤ k) && (decide (q.unt = 0) || decide (k < q.unt))
def cntL (l : List Qf) (k : Int) : List Qf := l.filter fun q => cnt q k
def servB (p : Qf) : Bool := decide (p.kind = 3) || decide (p.kind = 5)
def birthB (p o : Qf) : Bool := decide (o.kind = 1) || decide (o.day < p.day)
def servicB (p o : Qf) : Bool := servB o && decide (p.day ≤ o.thr) && decide (o.day ≤ p.thr)
def examB (p o : Qf) : Bool := servB o && decide (o.par ≠ p.par) && rng p.day o.day o.thr
def ruleB (p o : Qf) : Bool := if p.kind = 1 then birthB p o else if servB p = true then servicB p o else if p.kind = 8 then examB p o else false
def oddsB (a b : Qf) : Bool := ruleB a b || ruleB b a
def fitB (c : List Qf) (b : List Int) (n : Int) : Bool :=
 !(decide ((c.getD b.length q0).kind = 2) && decide ((c.getD b.length q0).oth = n)) && (List.range b.length).all fun i => !(decide (b.getD i 0 = n) && oddsB (c.getD i q0) (c.getD b.length q0))
def moreK (c : List Qf) : Nat → List Int → List (List Int)
 | 0, b => [b]
 | k + 1, b => ((c.getD b.length q0).per.filter fun n => fitB c b n).flatMap fun n => moreK c k (b ++ [n])
/-- All readings, in order. -/
def reads (c : List Qf) : List (List Int) := moreK c c.length []
def isRd (c : List Qf) (r : List Int) : Bool :=
 decide (r.length = c.length) && (List.range c.length).all fun i => decide (r.getD i 0 ∈ (c.getD i q0).per) && fitB c (r.take i) (r.getD i 0)
theorem getD_take {α : Type} {a : List α} {i k : Nat} {d : α} (h : i < k) : (a.take k).getD i d = a.getD i d := by
 rw [List.getD_eq_getElem?_getD, List.getElem?_take, if_pos h, ← List.getD_eq_getElem?_getD]
theorem take_snoc {α : Type} {a : List α} {k : Nat} {d : α} (h : k < a.length) : a.take (k + 1) = a.take k ++ [a.getD k d] := by
 rw [List.take_add_one, List.getElem?_eq_getElem h, List.getD_eq_getElem?_getD, List.getElem?_eq_getElem h]; rfl
theorem mem_more {c : List Qf} : ∀ (k : Nat) (b : List Int) (r : List Int), b.length + k = c.length →
  (r ∈ moreK c k b ↔ r.length = c.length ∧ r.take b.length = b ∧ ∀ i, b.length ≤ i → i < c.length → r.getD i 0 ∈ (c.getD i q0).per ∧ fitB c (r.take i) (r.getD i 0) = true)
 | 0, b, r, h => by
  unfold moreK
  rw [List.mem_singleton]
  constructor
  ·rintro rfl
   exact ⟨by omega, List.take_of_length_le (Nat.le_refl _), fun i h1 h2 => absurd h1 (by omega)⟩
  ·rintro ⟨h1, h2, -⟩
   rw [← h2, List.take_of_length_le (by omega)]
 | k + 1, b, r, h => by
  unfold moreK
  rw [List.mem_flatMap]
  constructor
  ·rintro ⟨n, hn, hr⟩
   rw [List.mem_filter] at hn
   obtain ⟨h1, h2, h3⟩ := (mem_more k (b ++ [n]) r (by simp; omega)).1 hr
   rw [List.length_append, List.length_singleton] at h2 h3
   have hb : b.length < r.length := by omega
   rw [take_snoc (d := 0) hb] at h2
   obtain ⟨e1, e2⟩ := List.append_inj h2 (by simp; omega)
   have e3 : r.getD b.length 0 = n := by simpa using e2
   refine ⟨h1, e1, fun i i1 i2 => ?_⟩
   rcases Nat.eq_or_lt_of_le i1 with e | e
   ·subst e; rw [e1, e3]; exact hn
   ·exact h3 i e i2
  ·rintro ⟨h1, h2, h3⟩
   have hb : b.length < r.length := by omega
   obtain ⟨f1, f2⟩ := h3 b.length (Nat.le_refl _) (by omega)
   rw [h2] at f2
   refine ⟨r.getD b.length 0, List.mem_filter.2 ⟨f1, f2⟩, (mem_more k _ r (by simp; omega)).2 ⟨h1, ?_, fun i i1 i2 => h3 i (by simp at i1; omega) i2⟩⟩
   rw [List.length_append, List.length_singleton, take_snoc (d := 0) hb, h2]
theorem mem_reads {c : List Qf} {r : List Int} : r ∈ reads c ↔ isRd c r = true := by
 unfold reads
 rw [mem_more c.length [] r (by simp)]
 unfold isRd
 rw [Bool.and_eq_true, decide_eq_true_eq, List.all_eq_true]
 simp only [List.length_nil, Nat.zero_le, List.take_zero, true_and, forall_const, List.mem_range, Bool.and_eq_true, decide_eq_true_eq]
def needs (k : Int) : Int := if k = 3 ∨ k = 4 then 365 else if k = 5 then 40 else 0
def certB (c : List Qf) (r : List Int) (person day : Int) : Bool := (List.range c.length).any fun i => decide ((c.getD i q0).kind = 6) && decide (r.getD i 0 = person) && decide ((c.getD i q0).day ≤ day)
/-- The title of proof i, by where persons are settled before (s). -/
def titS (s : Int → Int → Int) (c : List Qf) (r : List Int) (i : Nat) : Tt × Bool :=
 if (c.getD i q0).kind = 8 then (⟨(c.getD i q0).day, (c.getD i q0).par, (c.getD i q0).src⟩, false)
 else if (c.getD i q0).kind = 2 then (⟨(c.getD i q0).day, s (c.getD i q0).oth ((c.getD i q0).day - 1), (c.getD i q0).src⟩, decide (s (c.getD i q0).oth ((c.getD i q0).day - 1) ≠ -1))
 else if 0 < needs (c.getD i q0).kind then
  (⟨(c.getD i q0).day + needs (c.getD i q0).kind, (c.getD i q0).par, (c.getD i q0).src⟩, decide (needs (c.getD i q0).kind ≤ (c.getD i q0).thr - (c.getD i q0).day + 1) && !certB c r (r.getD i 0) (c.getD i q0).day)
 else (⟨(c.getD i q0).day, (c.getD i q0).par, (c.getD i q0).src⟩, true)
/-- Has the person a title by proof i whose day is not greater than a day? -/
def hasT (s : Int → Int → Int) (c : List Qf) (r : List Int) (person day : Int) (i : Nat) : Bool := decide (r.getD i 0 = person) && decide ((c.getD i q0).day ≤ day) && (titS s c r i).2
def titL (s : Int → Int → Int) (c : List Qf) (r : List Int) (person day : Int) : List Tt := ((List.range c.length).filter fun i => hasT s c r person day i).map fun i => (titS s c r i).1
def ltT (a b : Tt) : Bool := decide (a.day < b.day) || (decide (a.day = b.day) && decide (a.src < b.src))
def insT (x : Tt) : List Tt → List Tt
 | [] => [x]
 | y :: ys => if ltT x y = true then x :: y :: ys else y :: insT x ys
/-- Sorted by day, then source. -/
def srtT (l : List Tt) : List Tt := l.foldl (fun out x => insT x out) []
def lastT (l : List Tt) (day : Int) : Int := l.foldl (fun out t => if t.day ≤ day then t.par else out) (-1)
def setK (c : List Qf) (r : List Int) : Nat → Int → Int → Int
 | 0, _, _ => -1
 | k + 1, person, day => lastT (srtT (titL (setK c r k) c r person day)) day
/-- Where a person is settled on a day by a reading; -1: nowhere. -/
def setS (c : List Qf) (r : List Int) (person day : Int) : Int := setK c r (day + 1).toNat person day
def putI (l : List Int) (n : Int) : List Int := if n ∈ l then l else l.filter (· < n) ++ n :: l.filter (n < ·)
/-- Rising, each number once. -/
def setL (l : List Int) : List Int := l.foldl putI []
def wherS (c : List Qf) (person day : Int) : List Int := setL ((reads c).map fun r => setS c r person day)
def righN (l : List Int) (parish : Int) : Int := if parish ∈ l then (if l.length = 1 then 1 else 2) else 0
end Go.Proofs.YtehhlgdkhecacaaGreat

namespace Go.Proofs.YtehhlgdkhecacaaGreat
theorem titS_congr {s s' : Int → Int → Int} {c : List Qf} {r : List Int} {i : Nat} (h : (c.getD i q0).kind = 2 → s (c.getD i q0).oth ((c.getD i q0).day - 1) = s' (c.getD i q0).oth ((c.getD i q0).day - 1)) : titS s c r i = titS s' c r i := by
 unfold titS
 by_cases h2 : (c.getD i q0).kind = 2
 ·rw [h h2]
 ·simp only [if_neg h2]
theorem titL_congr {s s' : Int → Int → Int} {c : List Qf} {r : List Int} {person day : Int} (h : ∀ i, i < c.length → (c.getD i q0).day ≤ day → (c.getD i q0).kind = 2 → s (c.getD i q0).oth ((c.getD i q0).day - 1) = s' (c.getD i q0).oth ((c.getD i q0).day - 1)) : titL s c r person day = titL s' c r person day := by
 have key : ∀ i, i < c.length → (c.getD i q0).day ≤ day → titS s c r i = titS s' c r i := fun i hi hd => titS_congr (h i hi hd)
 have e1 : ((List.range c.length).filter fun i => hasT s c r person day i) = (List.range c.length).filter fun i => hasT s' c r person day i := by
  refine List.filter_congr fun i hi => ?_
  unfold hasT
  by_cases hd : (c.getD i q0).day ≤ day
  ·rw [key i (List.mem_range.1 hi) hd]
  ·rw [decide_eq_false hd, Bool.and_false, Bool.false_and, Bool.false_and]
 unfold titL
 rw [e1]
 refine List.map_congr_left fun i hi => ?_
 rw [List.mem_filter, List.mem_range] at hi
 have hd : (c.getD i q0).day ≤ day := by
  have h1 := hi.2
  unfold hasT at h1
  simp only [Bool.and_eq_true, decide_eq_true_eq] at h1
  exact h1.1.2
 rw [key i hi.1 hd]
/-- No proof has a day before the first one. -/
def Days (c : List Qf) : Prop := ∀ i, i < c.length → 0 ≤ (c.getD i q0).day
theorem titL_neg {s : Int → Int → Int} {c : List Qf} {r : List Int} {person day : Int} (hc : Days c) (hd : day < 0) : titL s c r person day = [] := by
 unfold titL
 rw [List.map_eq_nil_iff, List.filter_eq_nil_iff]
 intro i hi h
 have h1 := hc i (List.mem_range.1 hi)
 unfold hasT at h
 simp only [Bool.and_eq_true, decide_eq_true_eq] at h
 omega
theorem setK_same {c : List Qf} {r : List Int} (hc : Days c) : ∀ (k k' : Nat) (person day : Int), (day + 1).toNat ≤ k → (day + 1).toNat ≤ k' → setK c r k person day = setK c r k' person day
 | 0, 0, _, _, _, _ => rfl
 | 0, k' + 1, person, day, h, _ => by
  have hd : day < 0 := by omega
  unfold setK
  rw [titL_neg hc hd]
  rfl
 | k + 1, 0, person, day, _, h => by
  have hd : day < 0 := by omega
  unfold setK
  rw [titL_neg hc hd]
  rfl
 | k + 1, k' + 1, person, day, h, h' => by
  unfold setK
  rw [titL_congr (fun i hi hd _ => setK_same hc k k' _ _ ?_ ?_)]
  ·have := hc i hi; omega
  ·have := hc i hi; omega
theorem setK_S {c : List Qf} {r : List Int} (hc : Days c) {k : Nat} {person day : Int} (h : (day + 1).toNat ≤ k) : setK c r k person day = setS c r person day := setK_same hc _ _ _ _ h (Nat.le_refl _)
theorem setS_eq {c : List Qf} {r : List Int} (hc : Days c) (person day : Int) : setS c r person day = lastT (srtT (titL (setS c r) c r person day)) day := by
 rw [← setK_S hc (k := (day + 1).toNat + 1) (Nat.le_succ _)]
 show lastT (srtT (titL (setK c r (day + 1).toNat) c r person day)) day = _
 rw [titL_congr (fun i hi hd _ => setK_S hc (by have := hc i hi; omega))]
theorem ltT_iff {a b : Tt} : ltT a b = true ↔ a.day < b.day ∨ a.day = b.day ∧ a.src < b.src := by
 unfold ltT
 simp only [Bool.or_eq_true, Bool.and_eq_true, decide_eq_true_eq]
abbrev UpT (l : List Tt) : Prop := l.Pairwise fun a b => ltT a b = true
theorem insT_perm (x : Tt) : ∀ l : List Tt, (insT x l).Perm (x :: l)
 | [] => List.Perm.refl _
 | y :: l => by
  unfold insT
  split
  ·exact List.Perm.refl _
  ·exact ((insT_perm x l).cons y).trans (List.Perm.swap x y l)
theorem foldT_perm : ∀ (l out : List Tt), (l.foldl (fun out x => insT x out) out).Perm (out ++ l)
 | [], out => by simp
 | x :: l, out => by
  rw [List.foldl_cons]
  exact (foldT_perm l _).trans (((insT_perm x out).append_right l).trans (List.perm_middle (a := x) (l₁ := out) (l₂ := l)).symm)
theorem srtT_perm (l : List Tt) : (srtT l).Perm l := by
 have := foldT_perm l []
 rwa [List.nil_append] at this
theorem ltT_trans {a b c : Tt} (h : ltT a b = true) (k : ltT b c = true) : ltT a c = true := by
 rw [ltT_iff] at *
 omega
/-- The sources differ. -/
abbrev Apart (l : List Tt) : Prop := (l.map Tt.src).Nodup
theorem insT_up {x : Tt} : ∀ {l : List Tt}, UpT l → (∀ y ∈ l, y.src ≠ x.src) → UpT (insT x l)
 | [], _, _ => List.pairwise_singleton _ _
 | y :: l, h, hx => by
  obtain ⟨h1, h2⟩ := List.pairwise_cons.1 h
  unfold insT
  split
  ·rename_i hlt
   refine List.pairwise_cons.2 ⟨fun z hz => ?_, h⟩
   rcases List.mem_cons.1 hz with rfl | hz
   ·exact hlt
   ·exact ltT_trans hlt (h1 z hz)
  ·rename_i hlt
   refine List.pairwise_cons.2 ⟨fun z hz => ?_, insT_up h2 (fun z hz => hx z (List.mem_cons_of_mem _ hz))⟩
   rcases List.mem_cons.1 ((insT_perm x l).mem_iff.1 hz) with rfl | hz
   ·have := hx y (by simp)
    rw [ltT_iff] at *
    omega
   ·exact h1 z hz
theorem foldT_up : ∀ (l out : List Tt), UpT out → Apart (out ++ l) → UpT (l.foldl (fun out x => insT x out) out)
 | [], _, h, _ => h
 | x :: l, out, h, ha => by
  rw [List.foldl_cons]
  have hp : (insT x out ++ l).Perm (out ++ x :: l) := ((insT_perm x out).append_right l).trans (List.perm_middle (a := x) (l₁ := out) (l₂ := l)).symm
  refine foldT_up l _ (insT_up h fun y hy e => ?_) ((hp.map Tt.src).nodup_iff.2 ha)
  unfold Apart at ha
  rw [List.map_append, List.map_cons] at ha
  exact (List.nodup_append.1 ha).2.2 _ (List.mem_map.2 ⟨y, hy, rfl⟩) _ (by simp) e
theorem srtT_up {l : List Tt} (h : Apart l) : UpT (srtT l) := foldT_up l [] List.Pairwise.nil (by simpa using h)
/-- Sorted lists of the same titles are equal. -/
theorem upT_ext : ∀ {l m : List Tt}, UpT l → UpT m → l.Perm m → l = m
 | [], m, _, _, h => (List.Perm.nil_eq h)
 | x :: l, [], _, _, h => absurd h.length_eq (by simp)
 | x :: l, y :: m, hl, hm, h => by
  obtain ⟨h1, h2⟩ := List.pairwise_cons.1 hl
  obtain ⟨h3, h4⟩ := List.pairwise_cons.1 hm
  have e : x = y := by
   rcases List.mem_cons.1 (h.mem_iff.1 (List.mem_cons_self (a := x) (l := l))) with e | e
   ·exact e
   ·rcases List.mem_cons.1 (h.mem_iff.2 (List.mem_cons_self (a := y) (l := m))) with e2 | e2
    ·exact e2.symm
    ·have a := h3 x e
     have b := h1 y e2
     rw [ltT_iff] at a b
     omega
  subst e
  rw [upT_ext h2 h4 (List.Perm.cons_inv h)]
theorem srtT_eq {l d : List Tt} (h : Apart l) (hp : d.Perm l) (hu : UpT d) : d = srtT l := upT_ext hu (srtT_up h) (hp.trans (srtT_perm l).symm)
theorem upB_iff {l : List Int} : upB l = true ↔ l.Pairwise (· < ·) := by
 unfold upB
 rw [List.all_eq_true]
 constructor
 ·intro h
  have step : ∀ d i, i + d < l.length → 0 < d → l.getD i 0 < l.getD (i + d) 0 := by
   intro d
   induction d with
   | zero => intro i _ h0; omega
   | succ d ih =>
    intro i hi _
    have h1 := h (i + d + 1) (List.mem_range.2 (by omega))
    simp only [Bool.or_eq_true, decide_eq_true_eq] at h1
    have h2 : l.getD (i + d) 0 < l.getD (i + d + 1) 0 := by
     rcases h1 with h1 | h1
     ·omega
     ·rwa [show i + d + 1 - 1 = i + d by omega] at h1
    rcases Nat.eq_zero_or_pos d with e | e
    ·subst e; exact h2
    ·have := ih i (by omega) e
     rw [show i + (d + 1) = i + d + 1 by omega]
     omega
  rw [List.pairwise_iff_getElem]
  intro i j hi hj hij
  have := step (j - i) i (by omega) (by omega)
  rw [show i + (j - i) = j by omega] at this
  rw [List.getD_eq_getElem?_getD, List.getD_eq_getElem?_getD, List.getElem?_eq_getElem hi, List.getElem?_eq_getElem hj] at this
  exact this
 ·intro h j hj
  rw [List.mem_range] at hj
  simp only [Bool.or_eq_true, decide_eq_true_eq]
  rcases Nat.eq_zero_or_pos j with e | e
  ·exact .inl e
  ·right
   have := List.pairwise_iff_getElem.1 h (j - 1) j (by omega) hj (by omega)
   rw [List.getD_eq_getElem?_getD, List.getD_eq_getElem?_getD, List.getElem?_eq_getElem (show j - 1 < l.length by omega), List.getElem?_eq_getElem hj]
   exact this
theorem rise_ext : ∀ {l m : List Int}, l.Pairwise (· < ·) → m.Pairwise (· < ·) → (∀ x, x ∈ l ↔ x ∈ m) → l = m
 | [], [], _, _, _ => rfl
 | [], y :: m, _, _, h => by have := (h y).2 (by simp); cases this
 | x :: l, [], _, _, h => by have := (h x).1 (by simp); cases this
 | x :: l, y :: m, hl, hm, h => by
  obtain ⟨h1, h2⟩ := List.pairwise_cons.1 hl
  obtain ⟨h3, h4⟩ := List.pairwise_cons.1 hm
  have e : x = y := by
   rcases List.mem_cons.1 ((h x).1 (by simp)) with e | e
   ·exact e
   ·rcases List.mem_cons.1 ((h y).2 (by simp)) with e2 | e2
    ·exact e2.symm
    ·have a := h3 x e
     have b := h1 y e2
     omega
  subst e
  congr 1
  refine rise_ext h2 h4 (fun z => ?_)
  constructor
  ·intro hz
   rcases List.mem_cons.1 ((h z).1 (List.mem_cons_of_mem _ hz)) with e | e
   ·have := h1 z hz; omega
   ·exact e
  ·intro hz
   rcases List.mem_cons.1 ((h z).2 (List.mem_cons_of_mem _ hz)) with e | e
   ·have := h3 z hz; omega
   ·exact e
theorem putI_mem {l : List Int} {n x : Int} : x ∈ putI l n ↔ x = n ∨ x ∈ l := by
 unfold putI
 split
 ·rename_i h
  constructor
  ·exact .inr
  ·rintro (rfl | h1)
   ·exact h
   ·exact h1
 ·rename_i h
  rw [List.mem_append, List.mem_cons, List.mem_filter, List.mem_filter]
  simp only [decide_eq_true_eq]
  constructor
  ·rintro (⟨h1, -⟩ | rfl | ⟨h1, -⟩)
   ·exact .inr h1
   ·exact .inl rfl
   ·exact .inr h1
  ·rintro (rfl | h1)
   ·exact .inr (.inl rfl)
   ·rcases Int.lt_or_gt_of_ne (show x ≠ n from fun e => h (e ▸ h1)) with h2 | h2
    ·exact .inl ⟨h1, h2⟩
    ·exact .inr (.inr ⟨h1, h2⟩)
theorem putI_up {l : List Int} {n : Int} (hl : l.Pairwise (· < ·)) : (putI l n).Pairwise (· < ·) := by
 unfold putI
 split
 ·exact hl
 ·refine List.pairwise_append.2 ⟨hl.filter _, List.pairwise_cons.2 ⟨fun x hx => ?_, hl.filter _⟩, fun x hx y hy => ?_⟩
  ·simpa using (List.mem_filter.1 hx).2
  ·have h1 : x < n := by simpa using (List.mem_filter.1 hx).2
   rcases List.mem_cons.1 hy with rfl | hy
   ·exact h1
   ·have h2 : n < y := by simpa using (List.mem_filter.1 hy).2
    omega
theorem putF_mem : ∀ (l out : List Int) (x : Int), x ∈ l.foldl putI out ↔ x ∈ out ∨ x ∈ l
 | [], out, x => by simp
 | n :: l, out, x => by
  rw [List.foldl_cons, putF_mem l, putI_mem, List.mem_cons]
  constructor
  ·rintro ((h | h) | h)
   ·exact .inr (.inl h)
   ·exact .inl h
   ·exact .inr (.inr h)
  ·rintro (h | h | h)
   ·exact .inl (.inr h)
   ·exact .inl (.inl h)
   ·exact .inr h
theorem putF_up : ∀ (l out : List Int), out.Pairwise (· < ·) → (l.foldl putI out).Pairwise (· < ·)
 | [], _, h => h
 | n :: l, out, h => by rw [List.foldl_cons]; exact putF_up l _ (putI_up h)
theorem setL_mem {l : List Int} {x : Int} : x ∈ setL l ↔ x ∈ l := by unfold setL; rw [putF_mem]; simp
theorem setL_up (l : List Int) : (setL l).Pairwise (· < ·) := putF_up l [] List.Pairwise.nil
theorem setL_eq {l m : List Int} (hm : m.Pairwise (· < ·)) (h : ∀ x, x ∈ m ↔ x ∈ l) : m = setL l := rise_ext hm (setL_up l) fun x => (h x).trans setL_mem.symm
theorem setL_snoc (l : List Int) (n : Int) : setL (l ++ [n]) = putI (setL l) n := by unfold setL; rw [List.foldl_append]; rfl
end Go.Proofs.YtehhlgdkhecacaaGreat

namespace Go.Proofs.YtehhlgdkhecacaaGreat
def okZ (z : Qf × Int) : Bool := decide (z.2 ∈ z.1.per) && !(decide (z.1.kind = 2) && decide (z.1.oth = z.2))
def coZ (y z : Qf × Int) : Bool := !(decide (y.2 = z.2) && oddsB y.1 z.1)
theorem fit_iff {c : List Qf} {r : List Int} {i : Nat} (hi : i < r.length) : fitB c (r.take i) (r.getD i 0) = true ↔ ¬ ((c.getD i q0).kind = 2 ∧ (c.getD i q0).oth = r.getD i 0) ∧ ∀ j, j < i → ¬ (r.getD j 0 = r.getD i 0 ∧ oddsB (c.getD j q0) (c.getD i q0) = true) := by
 unfold fitB
 rw [List.length_take, Nat.min_eq_left (by omega), Bool.and_eq_true, List.all_eq_true]
 constructor
 ·rintro ⟨h1, h2⟩
  refine ⟨fun h => ?_, fun j hj h => ?_⟩
  ·rw [decide_eq_true h.1, decide_eq_true h.2] at h1
   exact absurd h1 (by decide)
  ·have := h2 j (List.mem_range.2 hj)
   rw [getD_take hj, decide_eq_true h.1, h.2] at this
   exact absurd this (by decide)
 ·rintro ⟨h1, h2⟩
  refine ⟨?_, fun j hj => ?_⟩
  ·rw [Bool.not_eq_true', Bool.and_eq_false_iff]
   by_cases h : (c.getD i q0).kind = 2
   ·exact .inr (decide_eq_false fun e => h1 ⟨h, e⟩)
   ·exact .inl (decide_eq_false h)
  ·rw [List.mem_range] at hj
   rw [getD_take hj, Bool.not_eq_true', Bool.and_eq_false_iff]
   by_cases h : r.getD j 0 = r.getD i 0
   ·right
    rw [Bool.eq_false_iff]
    exact fun e => h2 j hj ⟨h, e⟩
   ·exact .inl (decide_eq_false h)
theorem zip_getD {c : List Qf} {r : List Int} (h : r.length = c.length) {i : Nat} (hi : i < (c.zip r).length) : (c.zip r)[i] = (c.getD i q0, r.getD i 0) := by
 have h1 : i < c.length := by rw [List.length_zip] at hi; omega
 have h2 : i < r.length := by omega
 rw [List.getElem_zip, List.getD_eq_getElem?_getD, List.getD_eq_getElem?_getD, List.getElem?_eq_getElem h1, List.getElem?_eq_getElem h2]
 rfl
theorem isRd_zip {c : List Qf} {r : List Int} : isRd c r = true ↔ r.length = c.length ∧ (∀ z ∈ c.zip r, okZ z = true) ∧ (c.zip r).Pairwise fun y z => coZ y z = true := by
 unfold isRd
 rw [Bool.and_eq_true, decide_eq_true_eq, List.all_eq_true]
 refine and_congr_right fun hl => ?_
 have hz : (c.zip r).length = c.length := by rw [List.length_zip]; omega
 constructor
 ·intro h
  have h' : ∀ i, i < c.length → r.getD i 0 ∈ (c.getD i q0).per ∧ fitB c (r.take i) (r.getD i 0) = true := fun i hi => by
   have := h i (List.mem_range.2 hi)
   simpa only [Bool.and_eq_true, decide_eq_true_eq] using this
  refine ⟨fun z hz' => ?_, List.pairwise_iff_getElem.2 fun i j hi hj hij => ?_⟩
  ·obtain ⟨i, hi, rfl⟩ := List.mem_iff_getElem.1 hz'
   rw [zip_getD hl hi]
   obtain ⟨h1, h2⟩ := h' i (by omega)
   have h3 := ((fit_iff (by omega)).1 h2).1
   unfold okZ
   rw [decide_eq_true h1, Bool.true_and, Bool.not_eq_true', Bool.and_eq_false_iff]
   by_cases e : (c.getD i q0).kind = 2
   ·exact .inr (decide_eq_false fun e2 => h3 ⟨e, e2⟩)
   ·exact .inl (decide_eq_false e)
  ·rw [zip_getD hl hi, zip_getD hl hj]
   have h3 := ((fit_iff (by omega)).1 (h' j (by omega)).2).2 i hij
   unfold coZ
   rw [Bool.not_eq_true', Bool.and_eq_false_iff]
   by_cases e : r.getD i 0 = r.getD j 0
   ·right
    rw [Bool.eq_false_iff]
    exact fun e2 => h3 ⟨e, e2⟩
   ·exact .inl (decide_eq_false e)
 ·rintro ⟨h1, h2⟩ i hi
  rw [List.mem_range] at hi
  have hi' : i < (c.zip r).length := by omega
  have h3 := h1 _ (List.getElem_mem hi')
  rw [zip_getD hl hi'] at h3
  unfold okZ at h3
  simp only [Bool.and_eq_true, decide_eq_true_eq, Bool.not_eq_true'] at h3
  rw [Bool.and_eq_true, decide_eq_true_eq]
  refine ⟨h3.1, (fit_iff (by omega)).2 ⟨fun e => ?_, fun j hj e => ?_⟩⟩
  ·rw [decide_eq_true e.1, decide_eq_true e.2] at h3
   exact absurd h3.2 (by decide)
  ·have h4 := List.pairwise_iff_getElem.1 h2 j i (by omega) hi' hj
   rw [zip_getD hl, zip_getD hl] at h4
   unfold coZ at h4
   rw [decide_eq_true e.1, e.2] at h4
   exact absurd h4 (by decide)
def isRead (c : List Qf) : Bool := !(reads c).isEmpty
end Go.Proofs.YtehhlgdkhecacaaGreat

namespace Go.Proofs.YtehhlgdkhecacaaGreat
open Go.RowKit Go.Shelf
/-- A proof with the header of its persons. -/
structure Pf where
 q : Qf
 A : Option Addr
 n : Nat
 c : Nat
def p0 : Pf := ⟨q0, none, 0, 0⟩
def pcells (p : Pf) : List Value := [.int .i64 p.q.src, .int .i64 p.q.kind, .slice p.A p.n p.c, .int .i64 p.q.oth, .int .i64 p.q.par, .int .i64 p.q.day, .int .i64 p.q.thr, .int .i64 p.q.kno, .int .i64 p.q.unt]
theorem pcells_len (p : Pf) : (pcells p).length = 9 := rfl
abbrev pb (p : Pf) : Array Value := #[.int .i64 p.q.src, .int .i64 p.q.kind, .slice p.A p.n p.c, .int .i64 p.q.oth, .int .i64 p.q.par, .int .i64 p.q.day, .int .i64 p.q.thr, .int .i64 p.q.kno, .int .i64 p.q.unt]
abbrev pv (p : Pf) : Value := .agg (pb p)
/-- Its persons read. -/
structure PI (w : World) (p : Pf) : Prop where
 i : Ints w p.A p.n p.q.per
 m : p.n ≤ p.c ∧ p.n ≤ 9223372036854775807
theorem PI.below {w w' : World} {p : Pf} (h : PI w p) (g : Below w.heap.size w w') : PI w' p := ⟨h.i.below g, h.m⟩
theorem PI.len {w : World} {p : Pf} (h : PI w p) : p.q.per.length = p.n := h.i.1
/-- A slice of proofs. -/
structure Prf (w : World) (A : Option Addr) (n : Nat) (l : List Pf) : Prop where
 a : Arr pcells 9 w A n l
 p : ∀ p ∈ l, PI w p
theorem Prf.below {w w' : World} {A : Option Addr} {n : Nat} {l : List Pf} (h : Prf w A n l) (g : Below w.heap.size w w') : Prf w' A n l := ⟨h.a.below g, fun p hp => (h.p p hp).below g⟩
theorem Prf.len {w : World} {A : Option Addr} {n : Nat} {l : List Pf} (h : Prf w A n l) : l.length = n := h.a.1
theorem getD_pf {l : List Pf} {k : Nat} (hk : k < l.length) : l[k]? = some (l.getD k p0) := by rw [List.getD_eq_getElem?_getD, List.getElem?_eq_getElem hk]; rfl
theorem getD_pf_of {l : List Pf} {k : Nat} {x : Pf} (h : l[k]? = some x) : l.getD k p0 = x := by rw [List.getD_eq_getElem?_getD, h]; rfl
theorem mem_pf {l : List Pf} {k : Nat} (hk : k < l.length) : l.getD k p0 ∈ l := List.mem_of_getElem? (getD_pf hk)
theorem map_pf {l : List Pf} {k : Nat} (hk : k < l.length) : (l.map Pf.q).getD k q0 = (l.getD k p0).q := by
 rw [List.getD_eq_getElem?_getD, List.getElem?_map, getD_pf hk]; rfl
/-- The nine cells of a proof at an address. -/
def Nine (w : World) (b o : Nat) (p : Pf) : Prop :=
 w.cell? ⟨b, o, none⟩ = some (.int .i64 p.q.src) ∧ w.cell? ⟨b, o + 1, none⟩ = some (.int .i64 p.q.kind) ∧ w.cell? ⟨b, o + 2, none⟩ = some (.slice p.A p.n p.c) ∧ w.cell? ⟨b, o + 3, none⟩ = some (.int .i64 p.q.oth) ∧ w.cell? ⟨b, o + 4, none⟩ = some (.int .i64 p.q.par) ∧
  w.cell? ⟨b, o + 5, none⟩ = some (.int .i64 p.q.day) ∧ w.cell? ⟨b, o + 6, none⟩ = some (.int .i64 p.q.thr) ∧ w.cell? ⟨b, o + 7, none⟩ = some (.int .i64 p.q.kno) ∧ w.cell? ⟨b, o + 8, none⟩ = some (.int .i64 p.q.unt)
theorem Prf.at {w : World} {A : Option Addr} {n : Nat} {l : List Pf} (h : Prf w A n l) {k : Nat} (hk : k < n) :
  ∃ b o, A = some ⟨b, o, none⟩ ∧ b < w.heap.size ∧ PI w (l.getD k p0) ∧ l.getD k p0 ∈ l ∧ ∀ w', Below w.heap.size w w' → Nine w' b (o + k * 9) (l.getD k p0) := by
 obtain ⟨b, o, x, rfl, hb, hx, hc⟩ := h.a.at hk
 have e := getD_pf_of hx
 have hm : l.getD k p0 ∈ l := mem_pf (by rw [h.len]; exact hk)
 refine ⟨b, o, rfl, hb, h.p _ hm, hm, fun w' hw => ?_⟩
 rw [e]
 exact ⟨hc w' hw 0 _ rfl, hc w' hw 1 _ rfl, hc w' hw 2 _ rfl, hc w' hw 3 _ rfl, hc w' hw 4 _ rfl, hc w' hw 5 _ rfl, hc w' hw 6 _ rfl, hc w' hw 7 _ rfl, hc w' hw 8 _ rfl⟩
theorem Blk.nine {w : World} {b : Nat} {p : Pf} (h : Blk w b 56 (pb p)) : Nine w b 0 p :=
 ⟨h.cell 0, h.cell 1, h.cell 2, h.cell 3, h.cell 4, h.cell 5, h.cell 6, h.cell 7, h.cell 8⟩
theorem within_any (n lo hi : Int) (w : World) :
  Calls Tryz.prog 143 #[.int .i64 n, .int .i64 lo, .int .i64 hi] w fun e w' => e = .returned (.bool (rng n lo hi)) ∧ w = w' := by
 unfold rng
 by_cases h1 : lo ≤ n
 ·go_enter Tryz.func143, Tryz.ntmps143
  go_wp2
  go_ret
  exact ⟨by simp [h1], rfl⟩
 ·go_enter Tryz.func143, Tryz.ntmps143
  go_wp2
  go_ret
  exact ⟨by simp; omega, rfl⟩
theorem isDay_any (n : Int) (w : World) : Calls Tryz.prog 123 #[.int .i64 n] w fun e w' => e = .returned (.bool (rng n 0 4166)) ∧ w = w' := by
 go_enter Tryz.func123, Tryz.ntmps123
 go_wp2_with (go_at_call 143; refine (within_any _ _ _ _).mono ?_; rintro e w' ⟨rfl, rfl⟩)
 go_ret
 exact ⟨rfl, rfl⟩
theorem isPerson_any (n : Int) (w : World) : Calls Tryz.prog 125 #[.int .i64 n] w fun e w' => e = .returned (.bool (rng n 1 999)) ∧ w = w' := by
 go_enter Tryz.func125, Tryz.ntmps125
 go_wp2_with (go_at_call 143; refine (within_any _ _ _ _).mono ?_; rintro e w' ⟨rfl, rfl⟩)
 go_ret
 exact ⟨rfl, rfl⟩
theorem isParish_any (n : Int) (w : World) : Calls Tryz.prog 126 #[.int .i64 n] w fun e w' => e = .returned (.bool (rng n 0 5)) ∧ w = w' := by
 go_enter Tryz.func126, Tryz.ntmps126
 go_wp2_with (go_at_call 143; refine (within_any _ _ _ _).mono ?_; rintro e w' ⟨rfl, rfl⟩)
 go_ret
 exact ⟨rfl, rfl⟩
theorem lasts_any (k : Int) (w : World) : Calls Tryz.prog 144 #[.int .i64 k] w fun e w' => e = .returned (.bool (lastsB k)) ∧ w = w' := by
 unfold lastsB
 by_cases h3 : k = 3
 ·subst h3
  go_enter Tryz.func144, Tryz.ntmps144
  go_wp2
  go_ret
  exact ⟨rfl, rfl⟩
 ·by_cases h4 : k = 4
  ·subst h4
   go_enter Tryz.func144, Tryz.ntmps144
   go_wp2
   go_ret
   exact ⟨rfl, rfl⟩
  ·have e3 : (k == 3) = false := beq_eq_false_iff_ne.2 h3
   have e4 : (k == 4) = false := beq_eq_false_iff_ne.2 h4
   go_enter Tryz.func144, Tryz.ntmps144
   go_wp2
   go_ret
   refine ⟨?_, rfl⟩
   simp [h3, h4]
   rfl
theorem same_any (n : Int) (w : World) : Calls Tryz.prog 113 #[.int .i64 n] w fun e w' => e = .returned (.int .i64 n) ∧ w = w' := by
 go_enter Tryz.func113, Tryz.ntmps113
 go_wp2
 go_ret
 exact ⟨rfl, rfl⟩
theorem sourceOf_any (p : Pf) (w : World) : Calls Tryz.prog 107 #[pv p] w fun e w' => e = .returned (.int .i64 p.q.src) ∧ Below w.heap.size w w' := by
 go_enter Tryz.func107, Tryz.ntmps107
 go_wp2
 go_ret
 exact ⟨rfl, one_more _ _⟩
end Go.Proofs.YtehhlgdkhecacaaGreat

namespace Go.Proofs.YtehhlgdkhecacaaGreat
open Go.RowKit Go.Shelf
theorem wrap_in {n : Int} (h : -9223372036854775808 ≤ n ∧ n ≤ 9223372036854775807) : wrap64 n = n := by unfold wrap64; omega
theorem up_no {l : List Int} {k : Nat} (h1 : 1 ≤ k) (hk : k < l.length) (h : ¬ l.getD (k - 1) 0 < l.getD k 0) : upB l = false := by
 rw [Bool.eq_false_iff]
 intro e
 unfold upB at e
 have := List.all_eq_true.1 e k (List.mem_range.2 hk)
 simp only [Bool.or_eq_true, decide_eq_true_eq] at this
 rcases this with e | e
 ·omega
 ·exact h e
theorem up_yes {l : List Int} (h : ∀ j, 1 ≤ j → j < l.length → l.getD (j - 1) 0 < l.getD j 0) : upB l = true := by
 unfold upB
 refine List.all_eq_true.2 fun j hj => ?_
 rw [List.mem_range] at hj
 simp only [Bool.or_eq_true, decide_eq_true_eq]
 rcases Nat.eq_zero_or_pos j with e | e
 ·exact .inl e
 ·exact .inr (h j e hj)
set_option maxRecDepth 100000 in
set_option maxHeartbeats 4000000 in
theorem risesI_any (A : Option Addr) (n c : Nat) (l : List Int) (w : World) (ha : Ints w A n l) (hn : n ≤ 9223372036854775807) :
  Calls Tryz.prog 112 #[.slice A n c, .func (.func 113) #[] #[]] w fun e w' => e = .returned (.bool (upB l)) ∧ Below w.heap.size w w' := by
 have HA := Lib.hid ha
 have hlen := Lib.hid ha.1
 clear ha
 go_enter Tryz.func112, Tryz.ntmps112
 go_wp2_with fail
 go_loopw [5] (fun i wr => ∃ k : Nat, 1 ≤ k ∧ (k ≤ n ∨ k = 1) ∧ i = .int .i64 k ∧ Below w.heap.size w wr ∧ ∀ j, 1 ≤ j → j < k → l.getD (j - 1) 0 < l.getD j 0) (fun i _ => n + 1 - (intOf i).toNat)
 case atStart => exact ⟨1, Nat.le_refl _, .inr rfl, rfl, Below.refl _ _, fun j h1 h2 => absurd h2 (by omega)⟩
 case round =>
  obtain ⟨k, h1k, hk, rfl, hg, hno⟩ := hrel
  have HNO := Lib.hid hno
  have HG := Lib.hid hg
  clear hno
  by_cases hkn : k < n
  ·obtain ⟨b, o, rfl, -, -, hc⟩ := ints_at (HA.out.below hg) hkn
   obtain ⟨b', o', e', -, -, hc'⟩ := ints_at (HA.out.below hg) (show k - 1 < n by omega)
   cases e'
   obtain ⟨x, hx⟩ : ∃ x, l.getD (k - 1) 0 = x := ⟨_, rfl⟩
   obtain ⟨y, hy⟩ : ∃ y, l.getD k 0 = y := ⟨_, rfl⟩
   have HX := Lib.hid hx
   have HY := Lib.hid hy
   have d0 := cellW (hc' wr (Below.refl _ _))
   have d1 := cellW (hc wr (Below.refl _ _))
   rw [hx] at d0
   rw [hy] at d1
   have hkm : ((k : Int) - 1) = ((k - 1 : Nat) : Int) := by omega
   have hwr : wrap64 ((k : Int) - 1) = ((k - 1 : Nat) : Int) := by rw [hkm]; exact wrap_in (by omega)
   have hwr2 : wrap64 ((k : Int) + 1) = (k : Int) + 1 := wrap_in (by omega)
   have hb1 : ((k - 1 : Nat) : Int) < (n : Int) := by omega
   have T := Lib.hid (fun (z : Wd wr) (x : Int) => same_any x z.val)
   clear hc hc' hx hy hg hkm
   go_wp2_with fail
   refine wp_region_calm wr (by kernel_rfl) (by kernel_rfl) (Below.refl _ _) ?_
   repeat (go_big_quiet_step ((go_at_call 113; exact callsCalmSame (T.out _ _))))
   refine wpQuiet_nil ?_
   rintro _ ⟨z, rfl⟩
   have GZ := Lib.hid (HG.out.trans (z.ok.mono HG.out.size))
   by_cases hxy : x < y
   ·have hxd : decide (y ≤ x) = false := decide_eq_false (by omega)
    have HXY := Lib.hid hxy
    go_wp2_with fail
    go_roundw
    case rel => exact ⟨k + 1, by omega, .inl (by omega), by go_num, GZ.out, fun j h1 h2 => by
     by_cases e : j = k
     ·subst e; rw [HX.out, HY.out]; exact HXY.out
     ·exact HNO.out j h1 (by omega)⟩
    case measure => simp [intOf]; omega
   ·have hxd : decide (y ≤ x) = true := decide_eq_true (by omega)
    have HXY := Lib.hid hxy
    go_wp2_with fail
    go_ret
    rw [up_no h1k (by rw [hlen.out]; exact hkn) (by rw [HX.out, HY.out]; have := HXY.out; omega)]
    exact ⟨rfl, GZ.out⟩
  ·go_wp2_with fail
   go_ret
   rw [up_yes fun j h1 h2 => HNO.out j h1 (by rw [hlen.out] at h2; omega)]
   exact ⟨rfl, HG.out⟩
set_option maxRecDepth 100000 in
set_option maxHeartbeats 4000000 in
theorem risesP_any (A : Option Addr) (n c : Nat) (l : List Pf) (w : World) (ha : Prf w A n l) (hn : n ≤ 9223372036854775807) :
  Calls Tryz.prog 106 #[.slice A n c, .func (.func 107) #[] #[]] w fun e w' => e = .returned (.bool (upB (l.map fun p => p.q.src))) ∧ Below w.heap.size w w' := by
 have HA := Lib.hid ha
 have hlen := Lib.hid (show (l.map fun p => p.q.src).length = n by rw [List.length_map]; exact ha.len)
 have hget := Lib.hid (show ∀ k, k < n → (l.map fun p => p.q.src).getD k 0 = (l.getD k p0).q.src from fun k hk => by
  rw [List.getD_eq_getElem?_getD, List.getElem?_map, getD_pf (by rw [ha.len]; exact hk)]; rfl)
 obtain ⟨ss, hss⟩ : ∃ ss, (l.map fun p => p.q.src) = ss := ⟨_, rfl⟩
 rw [hss] at hlen hget ⊢
 clear ha hss
 go_enter Tryz.func106, Tryz.ntmps106
 go_wp2_with fail
 go_loopw [5] (fun i wr => ∃ k : Nat, 1 ≤ k ∧ (k ≤ n ∨ k = 1) ∧ i = .int .i64 k ∧ Below w.heap.size w wr ∧ ∀ j, 1 ≤ j → j < k → ss.getD (j - 1) 0 < ss.getD j 0) (fun i _ => n + 1 - (intOf i).toNat)
 case atStart => exact ⟨1, Nat.le_refl _, .inr rfl, rfl, Below.refl _ _, fun j h1 h2 => absurd h2 (by omega)⟩
 case round =>
  obtain ⟨k, h1k, hk, rfl, hg, hno⟩ := hrel
  have HNO := Lib.hid hno
  have HG := Lib.hid hg
  clear hno
  by_cases hkn : k < n
  ·obtain ⟨b, o, rfl, -, -, -, hc⟩ := (HA.out.below hg).at hkn
   obtain ⟨b', o', e', -, -, -, hc'⟩ := (HA.out.below hg).at (show k - 1 < n by omega)
   cases e'
   have HX := Lib.hid (hget.out (k - 1) (by omega))
   have HY := Lib.hid (hget.out k hkn)
   obtain ⟨x, hx⟩ : ∃ x, l.getD (k - 1) p0 = x := ⟨_, rfl⟩
   obtain ⟨y, hy⟩ : ∃ y, l.getD k p0 = y := ⟨_, rfl⟩
   rw [hx] at hc' HX
   rw [hy] at hc HY
   obtain ⟨d0, d1, d2, d3, d4, d5, d6, d7, d8⟩ := hc' wr (Below.refl _ _)
   obtain ⟨e0, e1, e2, e3, e4, e5, e6, e7, e8⟩ := hc wr (Below.refl _ _)
   replace d0 := cellW d0
   replace d1 := cellW d1
   replace d2 := cellW d2
   replace d3 := cellW d3
   replace d4 := cellW d4
   replace d5 := cellW d5
   replace d6 := cellW d6
   replace d7 := cellW d7
   replace d8 := cellW d8
   replace e0 := cellW e0
   replace e1 := cellW e1
   replace e2 := cellW e2
   replace e3 := cellW e3
   replace e4 := cellW e4
   replace e5 := cellW e5
   replace e6 := cellW e6
   replace e7 := cellW e7
   replace e8 := cellW e8
   have hkm : ((k : Int) - 1) = ((k - 1 : Nat) : Int) := by omega
   have hwr : wrap64 ((k : Int) - 1) = ((k - 1 : Nat) : Int) := by rw [hkm]; exact wrap_in (by omega)
   have hwr2 : wrap64 ((k : Int) + 1) = (k : Int) + 1 := wrap_in (by omega)
   have hb1 : ((k - 1 : Nat) : Int) < (n : Int) := by omega
   have T := Lib.hid (fun (z : Wd wr) (x : Pf) => sourceOf_any x z.val)
   clear hc hc' hx hy hg hkm
   go_wp2_with fail
   refine wp_region_calm wr (by kernel_rfl) (by kernel_rfl) (Below.refl _ _) ?_
   repeat (go_big_quiet_step ((go_at_call 107; exact callsCalm (T.out _ _))))
   refine wpQuiet_nil ?_
   rintro _ ⟨z, rfl⟩
   have GZ := Lib.hid (HG.out.trans (z.ok.mono HG.out.size))
   by_cases hxy : x.q.src < y.q.src
   ·have hxd : decide (y.q.src ≤ x.q.src) = false := decide_eq_false (by omega)
    have HXY := Lib.hid hxy
    go_wp2_with fail
    go_roundw
    case rel => exact ⟨k + 1, by omega, .inl (by omega), by go_num, GZ.out, fun j h1 h2 => by
     by_cases e : j = k
     ·subst e; rw [HX.out, HY.out]; exact HXY.out
     ·exact HNO.out j h1 (by omega)⟩
    case measure => simp [intOf]; omega
   ·have hxd : decide (y.q.src ≤ x.q.src) = true := decide_eq_true (by omega)
    have HXY := Lib.hid hxy
    go_wp2_with fail
    go_ret
    rw [up_no h1k (by rw [hlen.out]; exact hkn) (by rw [HX.out, HY.out]; have := HXY.out; omega)]
    exact ⟨rfl, GZ.out⟩
  ·go_wp2_with fail
   go_ret
   rw [up_yes fun j h1 h2 => HNO.out j h1 (by rw [hlen.out] at h2; omega)]
   exact ⟨rfl, HG.out⟩
end Go.Proofs.YtehhlgdkhecacaaGreat

namespace Go.Proofs.YtehhlgdkhecacaaGreat
open Go.RowKit Go.Shelf
theorem up_all {l : List Int} {lo hi : Int} (hu : upB l = true) (h0 : l ≠ []) : l.all (fun n => rng n lo hi) = (rng (l.getD 0 0) lo hi && rng (l.getD (l.length - 1) 0) lo hi) := by
 have hp := upB_iff.1 hu
 have hl : 0 < l.length := List.length_pos_iff.2 h0
 have g0 : l.getD 0 0 ∈ l := List.mem_of_getElem? (getD_int1 hl)
 have g1 : l.getD (l.length - 1) 0 ∈ l := List.mem_of_getElem? (getD_int1 (by omega))
 rw [Bool.eq_iff_iff, List.all_eq_true, Bool.and_eq_true]
 constructor
 ·exact fun h => ⟨h _ g0, h _ g1⟩
 ·rintro ⟨h1, h2⟩ x hx
  obtain ⟨i, hi, rfl⟩ := List.mem_iff_getElem.1 hx
  have e : ∀ a b, (ha : a < l.length) → (hb : b < l.length) → a ≤ b → l.getD a 0 ≤ l.getD b 0 := fun a b ha hb hab => by
   rcases Nat.eq_or_lt_of_le hab with e | e
   ·subst e; exact Int.le_refl _
   ·have := List.pairwise_iff_getElem.1 hp a b ha hb e
    rw [getD_int ha, getD_int hb]; omega
  have a1 := e 0 i hl hi (Nat.zero_le _)
  have a2 := e i (l.length - 1) hi (by omega) (by omega)
  rw [getD_int hi] at a1 a2
  unfold rng at *
  simp only [Bool.and_eq_true, decide_eq_true_eq] at *
  omega
/-- As the program asks it. -/
def timesB (q : Qf) : Bool := decide (q.unt = 0) || rng q.unt (q.kno + 1) 4166
def thrB (q : Qf) : Bool := if lastsB q.kind = true then rng q.thr q.day 4166 else decide (q.thr = 0)
def wherB (q : Qf) : Bool := if q.kind = 2 then rng q.oth 1 999 && decide (q.par = 0) else decide (q.oth = 0) && rng q.par 0 5
theorem isQf_ends (q : Qf) : isQf q = (rng q.src 1 99999 && rng q.kind 1 8 && rng q.per.length 1 4 && upB q.per && rng (q.per.getD 0 0) 1 999 && rng (q.per.getD (q.per.length - 1) 0) 1 999 && rng q.day 0 4166 && rng q.kno 0 4166 && timesB q && thrB q && wherB q) := by
 unfold isQf timesB thrB wherB
 cases h3 : rng q.per.length 1 4 with
 | false => simp
 | true =>
  cases h4 : upB q.per with
  | false => simp
  | true =>
   rw [up_all h4 (by
    rintro e
    rw [e] at h3
    exact absurd h3 (by decide))]
   simp only [Bool.and_assoc, Bool.and_true]
set_option maxRecDepth 100000 in
set_option maxHeartbeats 16000000 in
theorem isProof_any (p : Pf) (w : World) (hp : PI w p) : Calls Tryz.prog 105 #[pv p] w fun e w' => e = .returned (.bool (isQf p.q)) ∧ Below w.heap.size w w' := by
 rw [isQf_ends]
 have hlen := hp.len
 have hpc := hp.m
 obtain ⟨W1, hW1⟩ : ∃ W1, w.alloc (.cells #[.int .i64 p.q.src, .int .i64 p.q.kind, .slice p.A p.n p.c, .int .i64 p.q.oth, .int .i64 p.q.par, .int .i64 p.q.day, .int .i64 p.q.thr, .int .i64 p.q.kno, .int .i64 p.q.unt] 56) = W1 := ⟨_, rfl⟩
 have g1 : Below w.heap.size w W1 := by rw [← hW1]; exact one_more _ _
 have B1 := Lib.hid (show Blk W1 w.heap.size 56 #[.int .i64 p.q.src, .int .i64 p.q.kind, .slice p.A p.n p.c, .int .i64 p.q.oth, .int .i64 p.q.par, .int .i64 p.q.day, .int .i64 p.q.thr, .int .i64 p.q.kno, .int .i64 p.q.unt] by rw [← hW1]; exact Blk.new _ _ _)
 have HP := Lib.hid (hp.below g1)
 have G1 := Lib.hid g1
 have T1 := within_any p.q.src 1 99999
 have T2 := within_any p.q.kind 1 8
 have T3 := within_any (p.n : Int) 1 4
 have T4 := risesI_any p.A p.n p.c p.q.per W1 HP.out.i hpc.2
 have T5 := isPerson_any (p.q.per.getD 0 0)
 have T6 := isPerson_any (p.q.per.getD (p.n - 1) 0)
 have T7 := isDay_any p.q.day
 have T8 := isDay_any p.q.kno
 have T9 := within_any p.q.unt (p.q.kno + 1) 4166
 have TA := lasts_any p.q.kind
 have TB := within_any p.q.thr p.q.day 4166
 have TC := isPerson_any p.q.oth
 have TD := isParish_any p.q.par
 have Hn : rng (p.n : Int) 1 4 = true → 1 ≤ p.n ∧ p.n ≤ 4 := fun h => by unfold rng at h; simp only [Bool.and_eq_true, decide_eq_true_eq] at h; omega
 have Hk : rng p.q.kno 0 4166 = true → 0 ≤ p.q.kno ∧ p.q.kno ≤ 4166 := fun h => by unfold rng at h; simpa only [Bool.and_eq_true, decide_eq_true_eq] using h
 have Ht : timesB p.q = (decide (p.q.unt = 0) || rng p.q.unt (p.q.kno + 1) 4166) := rfl
 have Hh : thrB p.q = if lastsB p.q.kind = true then rng p.q.thr p.q.day 4166 else decide (p.q.thr = 0) := rfl
 have Hw : wherB p.q = if p.q.kind = 2 then rng p.q.oth 1 999 && decide (p.q.par = 0) else decide (p.q.oth = 0) && rng p.q.par 0 5 := rfl
 rw [show (p.q.per.length : Int) = (p.n : Int) by rw [hlen], hlen]
 obtain ⟨y0, hy0⟩ : ∃ y, p.q.per.getD 0 0 = y := ⟨_, rfl⟩
 obtain ⟨y1, hy1⟩ : ∃ y, p.q.per.getD (p.n - 1) 0 = y := ⟨_, rfl⟩
 rw [hy0] at T5 ⊢
 rw [hy1] at T6 ⊢
 have HY0 := Lib.hid hy0
 have HY1 := Lib.hid hy1
 clear hy0 hy1
 generalize timesB p.q = bt at Ht ⊢
 generalize thrB p.q = bh at Hh ⊢
 generalize wherB p.q = bw at Hw ⊢
 generalize rng p.q.src 1 99999 = b1 at T1 ⊢
 generalize rng p.q.kind 1 8 = b2 at T2 ⊢
 generalize rng (p.n : Int) 1 4 = b3 at T3 Hn ⊢
 generalize upB p.q.per = b4 at T4 ⊢
 generalize rng y0 1 999 = b5 at T5 ⊢
 generalize rng y1 1 999 = b6 at T6 ⊢
 generalize rng p.q.day 0 4166 = b7 at T7 ⊢
 generalize rng p.q.kno 0 4166 = b8 at T8 Hk ⊢
 generalize rng p.q.unt (p.q.kno + 1) 4166 = b9 at T9 Ht
 generalize lastsB p.q.kind = ba at TA Hh
 generalize rng p.q.thr p.q.day 4166 = bb at TB Hh
 generalize rng p.q.oth 1 999 = bc at TC Hw
 generalize rng p.q.par 0 5 = bd at TD Hw
 have HW1 := Lib.hid hW1
 have HHN := Lib.hid Hn
 have HHK := Lib.hid Hk
 have HT := Lib.hid Ht
 have HHh := Lib.hid Hh
 have HHw := Lib.hid Hw
 have C1 := Lib.hid T1
 have C2 := Lib.hid T2
 have C3 := Lib.hid T3
 have C4 := Lib.hid T4
 have C5 := Lib.hid T5
 have C6 := Lib.hid T6
 have C7 := Lib.hid T7
 have C8 := Lib.hid T8
 have C9 := Lib.hid T9
 have CA := Lib.hid TA
 have CB := Lib.hid TB
 have CC := Lib.hid TC
 have CD := Lib.hid TD
 clear T1 T2 T3 T4 T5 T6 T7 T8 T9 TA TB TC TD Hn Hk Ht Hh Hw hW1 g1 hp
 have hcase : b1 = false ∨ (b1 = true ∧ b2 = false) ∨ (b1 = true ∧ b2 = true ∧ b3 = false) ∨ (b1 = true ∧ b2 = true ∧ b3 = true) := by
  cases b1 <;> cases b2 <;> cases b3 <;> simp
 go_enter Tryz.func105, Tryz.ntmps105
 go_upto_region 1 with fail
 rw [HW1.out]
 have k0 := B1.out.cell 0
 have k1 := B1.out.cell 1
 have k2 := B1.out.cell 2
 have k3 := B1.out.cell 3
 have k4 := B1.out.cell 4
 have k5 := B1.out.cell 5
 have k6 := B1.out.cell 6
 have k7 := B1.out.cell 7
 have k8 := B1.out.cell 8
 rcases hcase with rfl | ⟨rfl, rfl⟩ | ⟨rfl, rfl, rfl⟩ | ⟨rfl, rfl, rfl⟩
 iterate 3
  ·go_wp2_with (first
   | (go_at_call 143; (with_reducible refine (C1.out _).mono ?_); rintro e w' ⟨rfl, rfl⟩)
   | (go_at_call 143; (with_reducible refine (C2.out _).mono ?_); rintro e w' ⟨rfl, rfl⟩)
   | (go_at_call 143; (with_reducible refine (C3.out _).mono ?_); rintro e w' ⟨rfl, rfl⟩))
   go_ret
   exact ⟨rfl, G1.out⟩
 go_upto_region 3 with (first
   | (go_at_call 143; (with_reducible refine (C1.out _).mono ?_); rintro e w' ⟨rfl, rfl⟩)
   | (go_at_call 143; (with_reducible refine (C2.out _).mono ?_); rintro e w' ⟨rfl, rfl⟩)
   | (go_at_call 143; (with_reducible refine (C3.out _).mono ?_); rintro e w' ⟨rfl, rfl⟩))
 obtain ⟨hn1, hn4⟩ := HHN.out (by first | rfl | trivial)
 have hlt0 : (0 : Int) < (p.n : Int) := by omega
 have hlt0' : 0 < p.n := by omega
 have hltl : ((p.n - 1 : Nat) : Int) < (p.n : Int) := by omega
 have hwr : wrap64 ((p.n : Int) - 1) = ((p.n - 1 : Nat) : Int) := by rw [wrap_in (by omega)]; omega
 have hcase : b4 = false ∨ (b4 = true ∧ b5 = false) ∨ (b4 = true ∧ b5 = true ∧ b6 = false) ∨ (b4 = true ∧ b5 = true ∧ b6 = true ∧ b7 = false) ∨ (b4 = true ∧ b5 = true ∧ b6 = true ∧ b7 = true ∧ b8 = false) ∨ (b4 = true ∧ b5 = true ∧ b6 = true ∧ b7 = true ∧ b8 = true) := by
  cases b4 <;> cases b5 <;> cases b6 <;> cases b7 <;> cases b8 <;> simp
 rcases hcase with rfl | ⟨rfl, rfl⟩ | ⟨rfl, rfl, rfl⟩ | ⟨rfl, rfl, rfl, rfl⟩ | ⟨rfl, rfl, rfl, rfl, rfl⟩ | ⟨rfl, rfl, rfl, rfl, rfl⟩
 iterate 5
  ·go_wp2_with (first
    | (go_at_call 112; (with_reducible refine (C4.out).mono ?_); rintro e V ⟨rfl, hg⟩; have GV := Lib.hid (G1.out.trans (hg.mono G1.out.size)); have BV := Lib.hid (B1.out.ext hg); have HPV := Lib.hid (HP.out.below hg); obtain ⟨b7_, o7_, hA7, -, -, hc0⟩ := ints_at HPV.out.i (show 0 < p.n by omega); obtain ⟨b8_, o8_, hA8, -, -, hc1⟩ := ints_at HPV.out.i (show p.n - 1 < p.n by omega); have q0 := hc0 _ (Below.refl _ _); rw [Nat.add_zero, HY0.out] at q0; have q1 := hc1 _ (Below.refl _ _); rw [HY1.out] at q1; rw [hA7] at hA8; cases hA8; clear hc0 hc1 k0 k1 k2 k3 k4 k5 k6 k7 k8; have m0 := BV.out.cell 0; have m1 := BV.out.cell 1; have m2 := BV.out.cell 2; have m3 := BV.out.cell 3; have m4 := BV.out.cell 4; have m5 := BV.out.cell 5; have m6 := BV.out.cell 6; have m7 := BV.out.cell 7; have m8 := BV.out.cell 8; rw [hA7] at m2)
    | (go_at_call 125; (with_reducible refine (C5.out _).mono ?_); rintro e w' ⟨rfl, rfl⟩)
    | (go_at_call 125; (with_reducible refine (C6.out _).mono ?_); rintro e w' ⟨rfl, rfl⟩)
    | (go_at_call 123; (with_reducible refine (C7.out _).mono ?_); rintro e w' ⟨rfl, rfl⟩)
    | (go_at_call 123; (with_reducible refine (C8.out _).mono ?_); rintro e w' ⟨rfl, rfl⟩)
    | (go_at_call 143; (with_reducible refine (C9.out _).mono ?_); rintro e w' ⟨rfl, rfl⟩))
   go_ret
   exact ⟨by simp, GV.out⟩
 by_cases hu : p.q.unt = 0
 rotate_left
 ·have hub : (p.q.unt != 0) = true := by simpa using hu
  have hud : decide (p.q.unt = 0) = false := decide_eq_false hu
  obtain ⟨hk0, hk1⟩ := HHK.out (by first | rfl | trivial)
  have hwk : wrap64 (p.q.kno + 1) = p.q.kno + 1 := wrap_in (by omega)
  have hbt := HT.out
  rw [hud, Bool.false_or] at hbt
  subst hbt
  cases bt with
  | false =>
   go_wp2_with (first
    | (go_at_call 112; (with_reducible refine (C4.out).mono ?_); rintro e V ⟨rfl, hg⟩; have GV := Lib.hid (G1.out.trans (hg.mono G1.out.size)); have BV := Lib.hid (B1.out.ext hg); have HPV := Lib.hid (HP.out.below hg); obtain ⟨b7_, o7_, hA7, -, -, hc0⟩ := ints_at HPV.out.i (show 0 < p.n by omega); obtain ⟨b8_, o8_, hA8, -, -, hc1⟩ := ints_at HPV.out.i (show p.n - 1 < p.n by omega); have q0 := hc0 _ (Below.refl _ _); rw [Nat.add_zero, HY0.out] at q0; have q1 := hc1 _ (Below.refl _ _); rw [HY1.out] at q1; rw [hA7] at hA8; cases hA8; clear hc0 hc1 k0 k1 k2 k3 k4 k5 k6 k7 k8; have m0 := BV.out.cell 0; have m1 := BV.out.cell 1; have m2 := BV.out.cell 2; have m3 := BV.out.cell 3; have m4 := BV.out.cell 4; have m5 := BV.out.cell 5; have m6 := BV.out.cell 6; have m7 := BV.out.cell 7; have m8 := BV.out.cell 8; rw [hA7] at m2)
    | (go_at_call 125; (with_reducible refine (C5.out _).mono ?_); rintro e w' ⟨rfl, rfl⟩)
    | (go_at_call 125; (with_reducible refine (C6.out _).mono ?_); rintro e w' ⟨rfl, rfl⟩)
    | (go_at_call 123; (with_reducible refine (C7.out _).mono ?_); rintro e w' ⟨rfl, rfl⟩)
    | (go_at_call 123; (with_reducible refine (C8.out _).mono ?_); rintro e w' ⟨rfl, rfl⟩)
    | (go_at_call 143; (with_reducible refine (C9.out _).mono ?_); rintro e w' ⟨rfl, rfl⟩))
   go_ret
   exact ⟨by simp, GV.out⟩
  | true =>
   go_upto_region 5 with (first
    | (go_at_call 112; (with_reducible refine (C4.out).mono ?_); rintro e V ⟨rfl, hg⟩; have GV := Lib.hid (G1.out.trans (hg.mono G1.out.size)); have BV := Lib.hid (B1.out.ext hg); have HPV := Lib.hid (HP.out.below hg); obtain ⟨b7_, o7_, hA7, -, -, hc0⟩ := ints_at HPV.out.i (show 0 < p.n by omega); obtain ⟨b8_, o8_, hA8, -, -, hc1⟩ := ints_at HPV.out.i (show p.n - 1 < p.n by omega); have q0 := hc0 _ (Below.refl _ _); rw [Nat.add_zero, HY0.out] at q0; have q1 := hc1 _ (Below.refl _ _); rw [HY1.out] at q1; rw [hA7] at hA8; cases hA8; clear hc0 hc1 k0 k1 k2 k3 k4 k5 k6 k7 k8; have m0 := BV.out.cell 0; have m1 := BV.out.cell 1; have m2 := BV.out.cell 2; have m3 := BV.out.cell 3; have m4 := BV.out.cell 4; have m5 := BV.out.cell 5; have m6 := BV.out.cell 6; have m7 := BV.out.cell 7; have m8 := BV.out.cell 8; rw [hA7] at m2)
    | (go_at_call 125; (with_reducible refine (C5.out _).mono ?_); rintro e w' ⟨rfl, rfl⟩)
    | (go_at_call 125; (with_reducible refine (C6.out _).mono ?_); rintro e w' ⟨rfl, rfl⟩)
    | (go_at_call 123; (with_reducible refine (C7.out _).mono ?_); rintro e w' ⟨rfl, rfl⟩)
    | (go_at_call 123; (with_reducible refine (C8.out _).mono ?_); rintro e w' ⟨rfl, rfl⟩)
    | (go_at_call 143; (with_reducible refine (C9.out _).mono ?_); rintro e w' ⟨rfl, rfl⟩))
   have hbh := HHh.out
   cases ba with
   | true =>
    rw [if_pos rfl] at hbh
    subst hbh
    cases bh with
    | false =>
     go_wp2_with (first | (go_at_call 144; (with_reducible refine (CA.out _).mono ?_); rintro e w' ⟨rfl, rfl⟩) | (go_at_call 143; (with_reducible refine (CB.out _).mono ?_); rintro e w' ⟨rfl, rfl⟩) | (go_at_call 125; (with_reducible refine (CC.out _).mono ?_); rintro e w' ⟨rfl, rfl⟩) | (go_at_call 126; (with_reducible refine (CD.out _).mono ?_); rintro e w' ⟨rfl, rfl⟩))
     go_ret
     exact ⟨by simp, GV.out⟩
    | true =>
     go_upto_region 7 with (first | (go_at_call 144; (with_reducible refine (CA.out _).mono ?_); rintro e w' ⟨rfl, rfl⟩) | (go_at_call 143; (with_reducible refine (CB.out _).mono ?_); rintro e w' ⟨rfl, rfl⟩) | (go_at_call 125; (with_reducible refine (CC.out _).mono ?_); rintro e w' ⟨rfl, rfl⟩) | (go_at_call 126; (with_reducible refine (CD.out _).mono ?_); rintro e w' ⟨rfl, rfl⟩))
     have hbw := HHw.out
     by_cases hk2 : p.q.kind = 2
     ·have hkb : (p.q.kind == 2) = true := by simpa using hk2
      rw [if_pos hk2] at hbw
      clear hk2
      by_cases hpa : p.q.par = 0
      ·have hpb : (p.q.par == 0) = true := by simpa using hpa
       rw [decide_eq_true hpa] at hbw
       clear hpa
       subst hbw
       first | cases bc | cases bw
       ·go_wp2_with (first | (go_at_call 144; (with_reducible refine (CA.out _).mono ?_); rintro e w' ⟨rfl, rfl⟩) | (go_at_call 143; (with_reducible refine (CB.out _).mono ?_); rintro e w' ⟨rfl, rfl⟩) | (go_at_call 125; (with_reducible refine (CC.out _).mono ?_); rintro e w' ⟨rfl, rfl⟩) | (go_at_call 126; (with_reducible refine (CD.out _).mono ?_); rintro e w' ⟨rfl, rfl⟩))
        go_ret
        exact ⟨by simp, GV.out⟩
       ·go_wp2_with (first | (go_at_call 144; (with_reducible refine (CA.out _).mono ?_); rintro e w' ⟨rfl, rfl⟩) | (go_at_call 143; (with_reducible refine (CB.out _).mono ?_); rintro e w' ⟨rfl, rfl⟩) | (go_at_call 125; (with_reducible refine (CC.out _).mono ?_); rintro e w' ⟨rfl, rfl⟩) | (go_at_call 126; (with_reducible refine (CD.out _).mono ?_); rintro e w' ⟨rfl, rfl⟩))
        go_ret
        exact ⟨by simp, GV.out⟩
      ·have hpb : (p.q.par == 0) = false := by simpa using hpa
       rw [decide_eq_false hpa] at hbw
       clear hpa
       subst hbw
       first | cases bc | cases bw
       ·go_wp2_with (first | (go_at_call 144; (with_reducible refine (CA.out _).mono ?_); rintro e w' ⟨rfl, rfl⟩) | (go_at_call 143; (with_reducible refine (CB.out _).mono ?_); rintro e w' ⟨rfl, rfl⟩) | (go_at_call 125; (with_reducible refine (CC.out _).mono ?_); rintro e w' ⟨rfl, rfl⟩) | (go_at_call 126; (with_reducible refine (CD.out _).mono ?_); rintro e w' ⟨rfl, rfl⟩))
        go_ret
        exact ⟨by simp, GV.out⟩
       ·go_wp2_with (first | (go_at_call 144; (with_reducible refine (CA.out _).mono ?_); rintro e w' ⟨rfl, rfl⟩) | (go_at_call 143; (with_reducible refine (CB.out _).mono ?_); rintro e w' ⟨rfl, rfl⟩) | (go_at_call 125; (with_reducible refine (CC.out _).mono ?_); rintro e w' ⟨rfl, rfl⟩) | (go_at_call 126; (with_reducible refine (CD.out _).mono ?_); rintro e w' ⟨rfl, rfl⟩))
        go_ret
        exact ⟨by simp, GV.out⟩
     ·have hkb : (p.q.kind == 2) = false := by simpa using hk2
      rw [if_neg hk2] at hbw
      clear hk2
      by_cases hpa : p.q.oth = 0
      ·have hpb : (p.q.oth == 0) = true := by simpa using hpa
       rw [decide_eq_true hpa] at hbw
       clear hpa
       subst hbw
       first | cases bd | cases bw
       ·go_wp2_with (first | (go_at_call 144; (with_reducible refine (CA.out _).mono ?_); rintro e w' ⟨rfl, rfl⟩) | (go_at_call 143; (with_reducible refine (CB.out _).mono ?_); rintro e w' ⟨rfl, rfl⟩) | (go_at_call 125; (with_reducible refine (CC.out _).mono ?_); rintro e w' ⟨rfl, rfl⟩) | (go_at_call 126; (with_reducible refine (CD.out _).mono ?_); rintro e w' ⟨rfl, rfl⟩))
        go_ret
        exact ⟨by simp, GV.out⟩
       ·go_wp2_with (first | (go_at_call 144; (with_reducible refine (CA.out _).mono ?_); rintro e w' ⟨rfl, rfl⟩) | (go_at_call 143; (with_reducible refine (CB.out _).mono ?_); rintro e w' ⟨rfl, rfl⟩) | (go_at_call 125; (with_reducible refine (CC.out _).mono ?_); rintro e w' ⟨rfl, rfl⟩) | (go_at_call 126; (with_reducible refine (CD.out _).mono ?_); rintro e w' ⟨rfl, rfl⟩))
        go_ret
        exact ⟨by simp, GV.out⟩
      ·have hpb : (p.q.oth == 0) = false := by simpa using hpa
       rw [decide_eq_false hpa] at hbw
       clear hpa
       subst hbw
       first | cases bd | cases bw
       ·go_wp2_with (first | (go_at_call 144; (with_reducible refine (CA.out _).mono ?_); rintro e w' ⟨rfl, rfl⟩) | (go_at_call 143; (with_reducible refine (CB.out _).mono ?_); rintro e w' ⟨rfl, rfl⟩) | (go_at_call 125; (with_reducible refine (CC.out _).mono ?_); rintro e w' ⟨rfl, rfl⟩) | (go_at_call 126; (with_reducible refine (CD.out _).mono ?_); rintro e w' ⟨rfl, rfl⟩))
        go_ret
        exact ⟨by simp, GV.out⟩
       ·go_wp2_with (first | (go_at_call 144; (with_reducible refine (CA.out _).mono ?_); rintro e w' ⟨rfl, rfl⟩) | (go_at_call 143; (with_reducible refine (CB.out _).mono ?_); rintro e w' ⟨rfl, rfl⟩) | (go_at_call 125; (with_reducible refine (CC.out _).mono ?_); rintro e w' ⟨rfl, rfl⟩) | (go_at_call 126; (with_reducible refine (CD.out _).mono ?_); rintro e w' ⟨rfl, rfl⟩))
        go_ret
        exact ⟨by simp, GV.out⟩
   | false =>
    rw [if_neg (by decide)] at hbh
    by_cases hth : p.q.thr = 0
    ·have htb : (p.q.thr != 0) = false := by simpa using hth
     rw [decide_eq_true hth] at hbh
     clear hth
     subst hbh
     go_upto_region 7 with (first | (go_at_call 144; (with_reducible refine (CA.out _).mono ?_); rintro e w' ⟨rfl, rfl⟩) | (go_at_call 143; (with_reducible refine (CB.out _).mono ?_); rintro e w' ⟨rfl, rfl⟩) | (go_at_call 125; (with_reducible refine (CC.out _).mono ?_); rintro e w' ⟨rfl, rfl⟩) | (go_at_call 126; (with_reducible refine (CD.out _).mono ?_); rintro e w' ⟨rfl, rfl⟩))
     have hbw := HHw.out
     by_cases hk2 : p.q.kind = 2
     ·have hkb : (p.q.kind == 2) = true := by simpa using hk2
      rw [if_pos hk2] at hbw
      clear hk2
      by_cases hpa : p.q.par = 0
      ·have hpb : (p.q.par == 0) = true := by simpa using hpa
       rw [decide_eq_true hpa] at hbw
       clear hpa
       subst hbw
       first | cases bc | cases bw
       ·go_wp2_with (first | (go_at_call 144; (with_reducible refine (CA.out _).mono ?_); rintro e w' ⟨rfl, rfl⟩) | (go_at_call 143; (with_reducible refine (CB.out _).mono ?_); rintro e w' ⟨rfl, rfl⟩) | (go_at_call 125; (with_reducible refine (CC.out _).mono ?_); rintro e w' ⟨rfl, rfl⟩) | (go_at_call 126; (with_reducible refine (CD.out _).mono ?_); rintro e w' ⟨rfl, rfl⟩))
        go_ret
        exact ⟨by simp, GV.out⟩
       ·go_wp2_with (first | (go_at_call 144; (with_reducible refine (CA.out _).mono ?_); rintro e w' ⟨rfl, rfl⟩) | (go_at_call 143; (with_reducible refine (CB.out _).mono ?_); rintro e w' ⟨rfl, rfl⟩) | (go_at_call 125; (with_reducible refine (CC.out _).mono ?_); rintro e w' ⟨rfl, rfl⟩) | (go_at_call 126; (with_reducible refine (CD.out _).mono ?_); rintro e w' ⟨rfl, rfl⟩))
        go_ret
        exact ⟨by simp, GV.out⟩
      ·have hpb : (p.q.par == 0) = false := by simpa using hpa
       rw [decide_eq_false hpa] at hbw
       clear hpa
       subst hbw
       first | cases bc | cases bw
       ·go_wp2_with (first | (go_at_call 144; (with_reducible refine (CA.out _).mono ?_); rintro e w' ⟨rfl, rfl⟩) | (go_at_call 143; (with_reducible refine (CB.out _).mono ?_); rintro e w' ⟨rfl, rfl⟩) | (go_at_call 125; (with_reducible refine (CC.out _).mono ?_); rintro e w' ⟨rfl, rfl⟩) | (go_at_call 126; (with_reducible refine (CD.out _).mono ?_); rintro e w' ⟨rfl, rfl⟩))
        go_ret
        exact ⟨by simp, GV.out⟩
       ·go_wp2_with (first | (go_at_call 144; (with_reducible refine (CA.out _).mono ?_); rintro e w' ⟨rfl, rfl⟩) | (go_at_call 143; (with_reducible refine (CB.out _).mono ?_); rintro e w' ⟨rfl, rfl⟩) | (go_at_call 125; (with_reducible refine (CC.out _).mono ?_); rintro e w' ⟨rfl, rfl⟩) | (go_at_call 126; (with_reducible refine (CD.out _).mono ?_); rintro e w' ⟨rfl, rfl⟩))
        go_ret
        exact ⟨by simp, GV.out⟩
     ·have hkb : (p.q.kind == 2) = false := by simpa using hk2
      rw [if_neg hk2] at hbw
      clear hk2
      by_cases hpa : p.q.oth = 0
      ·have hpb : (p.q.oth == 0) = true := by simpa using hpa
       rw [decide_eq_true hpa] at hbw
       clear hpa
       subst hbw
       first | cases bd | cases bw
       ·go_wp2_with (first | (go_at_call 144; (with_reducible refine (CA.out _).mono ?_); rintro e w' ⟨rfl, rfl⟩) | (go_at_call 143; (with_reducible refine (CB.out _).mono ?_); rintro e w' ⟨rfl, rfl⟩) | (go_at_call 125; (with_reducible refine (CC.out _).mono ?_); rintro e w' ⟨rfl, rfl⟩) | (go_at_call 126; (with_reducible refine (CD.out _).mono ?_); rintro e w' ⟨rfl, rfl⟩))
        go_ret
        exact ⟨by simp, GV.out⟩
       ·go_wp2_with (first | (go_at_call 144; (with_reducible refine (CA.out _).mono ?_); rintro e w' ⟨rfl, rfl⟩) | (go_at_call 143; (with_reducible refine (CB.out _).mono ?_); rintro e w' ⟨rfl, rfl⟩) | (go_at_call 125; (with_reducible refine (CC.out _).mono ?_); rintro e w' ⟨rfl, rfl⟩) | (go_at_call 126; (with_reducible refine (CD.out _).mono ?_); rintro e w' ⟨rfl, rfl⟩))
        go_ret
        exact ⟨by simp, GV.out⟩
      ·have hpb : (p.q.oth == 0) = false := by simpa using hpa
       rw [decide_eq_false hpa] at hbw
       clear hpa
       subst hbw
       first | cases bd | cases bw
       ·go_wp2_with (first | (go_at_call 144; (with_reducible refine (CA.out _).mono ?_); rintro e w' ⟨rfl, rfl⟩) | (go_at_call 143; (with_reducible refine (CB.out _).mono ?_); rintro e w' ⟨rfl, rfl⟩) | (go_at_call 125; (with_reducible refine (CC.out _).mono ?_); rintro e w' ⟨rfl, rfl⟩) | (go_at_call 126; (with_reducible refine (CD.out _).mono ?_); rintro e w' ⟨rfl, rfl⟩))
        go_ret
        exact ⟨by simp, GV.out⟩
       ·go_wp2_with (first | (go_at_call 144; (with_reducible refine (CA.out _).mono ?_); rintro e w' ⟨rfl, rfl⟩) | (go_at_call 143; (with_reducible refine (CB.out _).mono ?_); rintro e w' ⟨rfl, rfl⟩) | (go_at_call 125; (with_reducible refine (CC.out _).mono ?_); rintro e w' ⟨rfl, rfl⟩) | (go_at_call 126; (with_reducible refine (CD.out _).mono ?_); rintro e w' ⟨rfl, rfl⟩))
        go_ret
        exact ⟨by simp, GV.out⟩
    ·have htb : (p.q.thr != 0) = true := by simpa using hth
     rw [decide_eq_false hth] at hbh
     clear hth
     subst hbh
     go_wp2_with (first | (go_at_call 144; (with_reducible refine (CA.out _).mono ?_); rintro e w' ⟨rfl, rfl⟩) | (go_at_call 143; (with_reducible refine (CB.out _).mono ?_); rintro e w' ⟨rfl, rfl⟩) | (go_at_call 125; (with_reducible refine (CC.out _).mono ?_); rintro e w' ⟨rfl, rfl⟩) | (go_at_call 126; (with_reducible refine (CD.out _).mono ?_); rintro e w' ⟨rfl, rfl⟩))
     go_ret
     exact ⟨by simp, GV.out⟩
 ·have hub : (p.q.unt != 0) = false := by simpa using hu
  have hud : decide (p.q.unt = 0) = true := decide_eq_true hu
  have hbt := HT.out
  rw [hud, Bool.true_or] at hbt
  subst hbt
  go_upto_region 5 with (first
    | (go_at_call 112; (with_reducible refine (C4.out).mono ?_); rintro e V ⟨rfl, hg⟩; have GV := Lib.hid (G1.out.trans (hg.mono G1.out.size)); have BV := Lib.hid (B1.out.ext hg); have HPV := Lib.hid (HP.out.below hg); obtain ⟨b7_, o7_, hA7, -, -, hc0⟩ := ints_at HPV.out.i (show 0 < p.n by omega); obtain ⟨b8_, o8_, hA8, -, -, hc1⟩ := ints_at HPV.out.i (show p.n - 1 < p.n by omega); have q0 := hc0 _ (Below.refl _ _); rw [Nat.add_zero, HY0.out] at q0; have q1 := hc1 _ (Below.refl _ _); rw [HY1.out] at q1; rw [hA7] at hA8; cases hA8; clear hc0 hc1 k0 k1 k2 k3 k4 k5 k6 k7 k8; have m0 := BV.out.cell 0; have m1 := BV.out.cell 1; have m2 := BV.out.cell 2; have m3 := BV.out.cell 3; have m4 := BV.out.cell 4; have m5 := BV.out.cell 5; have m6 := BV.out.cell 6; have m7 := BV.out.cell 7; have m8 := BV.out.cell 8; rw [hA7] at m2)
    | (go_at_call 125; (with_reducible refine (C5.out _).mono ?_); rintro e w' ⟨rfl, rfl⟩)
    | (go_at_call 125; (with_reducible refine (C6.out _).mono ?_); rintro e w' ⟨rfl, rfl⟩)
    | (go_at_call 123; (with_reducible refine (C7.out _).mono ?_); rintro e w' ⟨rfl, rfl⟩)
    | (go_at_call 123; (with_reducible refine (C8.out _).mono ?_); rintro e w' ⟨rfl, rfl⟩)
    | (go_at_call 143; (with_reducible refine (C9.out _).mono ?_); rintro e w' ⟨rfl, rfl⟩))
  have hbh := HHh.out
  cases ba with
  | true =>
   rw [if_pos rfl] at hbh
   subst hbh
   cases bh with
   | false =>
    go_wp2_with (first | (go_at_call 144; (with_reducible refine (CA.out _).mono ?_); rintro e w' ⟨rfl, rfl⟩) | (go_at_call 143; (with_reducible refine (CB.out _).mono ?_); rintro e w' ⟨rfl, rfl⟩) | (go_at_call 125; (with_reducible refine (CC.out _).mono ?_); rintro e w' ⟨rfl, rfl⟩) | (go_at_call 126; (with_reducible refine (CD.out _).mono ?_); rintro e w' ⟨rfl, rfl⟩))
    go_ret
    exact ⟨by simp, GV.out⟩
   | true =>
    go_upto_region 7 with (first | (go_at_call 144; (with_reducible refine (CA.out _).mono ?_); rintro e w' ⟨rfl, rfl⟩) | (go_at_call 143; (with_reducible refine (CB.out _).mono ?_); rintro e w' ⟨rfl, rfl⟩) | (go_at_call 125; (with_reducible refine (CC.out _).mono ?_); rintro e w' ⟨rfl, rfl⟩) | (go_at_call 126; (with_reducible refine (CD.out _).mono ?_); rintro e w' ⟨rfl, rfl⟩))
    have hbw := HHw.out
    by_cases hk2 : p.q.kind = 2
    ·have hkb : (p.q.kind == 2) = true := by simpa using hk2
     rw [if_pos hk2] at hbw
     clear hk2
     by_cases hpa : p.q.par = 0
     ·have hpb : (p.q.par == 0) = true := by simpa using hpa
      rw [decide_eq_true hpa] at hbw
      clear hpa
      subst hbw
      first | cases bc | cases bw
      ·go_wp2_with (first | (go_at_call 144; (with_reducible refine (CA.out _).mono ?_); rintro e w' ⟨rfl, rfl⟩) | (go_at_call 143; (with_reducible refine (CB.out _).mono ?_); rintro e w' ⟨rfl, rfl⟩) | (go_at_call 125; (with_reducible refine (CC.out _).mono ?_); rintro e w' ⟨rfl, rfl⟩) | (go_at_call 126; (with_reducible refine (CD.out _).mono ?_); rintro e w' ⟨rfl, rfl⟩))
       go_ret
       exact ⟨by simp, GV.out⟩
      ·go_wp2_with (first | (go_at_call 144; (with_reducible refine (CA.out _).mono ?_); rintro e w' ⟨rfl, rfl⟩) | (go_at_call 143; (with_reducible refine (CB.out _).mono ?_); rintro e w' ⟨rfl, rfl⟩) | (go_at_call 125; (with_reducible refine (CC.out _).mono ?_); rintro e w' ⟨rfl, rfl⟩) | (go_at_call 126; (with_reducible refine (CD.out _).mono ?_); rintro e w' ⟨rfl, rfl⟩))
       go_ret
       exact ⟨by simp, GV.out⟩
     ·have hpb : (p.q.par == 0) = false := by simpa using hpa
      rw [decide_eq_false hpa] at hbw
      clear hpa
      subst hbw
      first | cases bc | cases bw
      ·go_wp2_with (first | (go_at_call 144; (with_reducible refine (CA.out _).mono ?_); rintro e w' ⟨rfl, rfl⟩) | (go_at_call 143; (with_reducible refine (CB.out _).mono ?_); rintro e w' ⟨rfl, rfl⟩) | (go_at_call 125; (with_reducible refine (CC.out _).mono ?_); rintro e w' ⟨rfl, rfl⟩) | (go_at_call 126; (with_reducible refine (CD.out _).mono ?_); rintro e w' ⟨rfl, rfl⟩))
       go_ret
       exact ⟨by simp, GV.out⟩
      ·go_wp2_with (first | (go_at_call 144; (with_reducible refine (CA.out _).mono ?_); rintro e w' ⟨rfl, rfl⟩) | (go_at_call 143; (with_reducible refine (CB.out _).mono ?_); rintro e w' ⟨rfl, rfl⟩) | (go_at_call 125; (with_reducible refine (CC.out _).mono ?_); rintro e w' ⟨rfl, rfl⟩) | (go_at_call 126; (with_reducible refine (CD.out _).mono ?_); rintro e w' ⟨rfl, rfl⟩))
       go_ret
       exact ⟨by simp, GV.out⟩
    ·have hkb : (p.q.kind == 2) = false := by simpa using hk2
     rw [if_neg hk2] at hbw
     clear hk2
     by_cases hpa : p.q.oth = 0
     ·have hpb : (p.q.oth == 0) = true := by simpa using hpa
      rw [decide_eq_true hpa] at hbw
      clear hpa
      subst hbw
      first | cases bd | cases bw
      ·go_wp2_with (first | (go_at_call 144; (with_reducible refine (CA.out _).mono ?_); rintro e w' ⟨rfl, rfl⟩) | (go_at_call 143; (with_reducible refine (CB.out _).mono ?_); rintro e w' ⟨rfl, rfl⟩) | (go_at_call 125; (with_reducible refine (CC.out _).mono ?_); rintro e w' ⟨rfl, rfl⟩) | (go_at_call 126; (with_reducible refine (CD.out _).mono ?_); rintro e w' ⟨rfl, rfl⟩))
       go_ret
       exact ⟨by simp, GV.out⟩
      ·go_wp2_with (first | (go_at_call 144; (with_reducible refine (CA.out _).mono ?_); rintro e w' ⟨rfl, rfl⟩) | (go_at_call 143; (with_reducible refine (CB.out _).mono ?_); rintro e w' ⟨rfl, rfl⟩) | (go_at_call 125; (with_reducible refine (CC.out _).mono ?_); rintro e w' ⟨rfl, rfl⟩) | (go_at_call 126; (with_reducible refine (CD.out _).mono ?_); rintro e w' ⟨rfl, rfl⟩))
       go_ret
       exact ⟨by simp, GV.out⟩
     ·have hpb : (p.q.oth == 0) = false := by simpa using hpa
      rw [decide_eq_false hpa] at hbw
      clear hpa
      subst hbw
      first | cases bd | cases bw
      ·go_wp2_with (first | (go_at_call 144; (with_reducible refine (CA.out _).mono ?_); rintro e w' ⟨rfl, rfl⟩) | (go_at_call 143; (with_reducible refine (CB.out _).mono ?_); rintro e w' ⟨rfl, rfl⟩) | (go_at_call 125; (with_reducible refine (CC.out _).mono ?_); rintro e w' ⟨rfl, rfl⟩) | (go_at_call 126; (with_reducible refine (CD.out _).mono ?_); rintro e w' ⟨rfl, rfl⟩))
       go_ret
       exact ⟨by simp, GV.out⟩
      ·go_wp2_with (first | (go_at_call 144; (with_reducible refine (CA.out _).mono ?_); rintro e w' ⟨rfl, rfl⟩) | (go_at_call 143; (with_reducible refine (CB.out _).mono ?_); rintro e w' ⟨rfl, rfl⟩) | (go_at_call 125; (with_reducible refine (CC.out _).mono ?_); rintro e w' ⟨rfl, rfl⟩) | (go_at_call 126; (with_reducible refine (CD.out _).mono ?_); rintro e w' ⟨rfl, rfl⟩))
       go_ret
       exact ⟨by simp, GV.out⟩
  | false =>
   rw [if_neg (by decide)] at hbh
   by_cases hth : p.q.thr = 0
   ·have htb : (p.q.thr != 0) = false := by simpa using hth
    rw [decide_eq_true hth] at hbh
    clear hth
    subst hbh
    go_upto_region 7 with (first | (go_at_call 144; (with_reducible refine (CA.out _).mono ?_); rintro e w' ⟨rfl, rfl⟩) | (go_at_call 143; (with_reducible refine (CB.out _).mono ?_); rintro e w' ⟨rfl, rfl⟩) | (go_at_call 125; (with_reducible refine (CC.out _).mono ?_); rintro e w' ⟨rfl, rfl⟩) | (go_at_call 126; (with_reducible refine (CD.out _).mono ?_); rintro e w' ⟨rfl, rfl⟩))
    have hbw := HHw.out
    by_cases hk2 : p.q.kind = 2
    ·have hkb : (p.q.kind == 2) = true := by simpa using hk2
     rw [if_pos hk2] at hbw
     clear hk2
     by_cases hpa : p.q.par = 0
     ·have hpb : (p.q.par == 0) = true := by simpa using hpa
      rw [decide_eq_true hpa] at hbw
      clear hpa
      subst hbw
      first | cases bc | cases bw
      ·go_wp2_with (first | (go_at_call 144; (with_reducible refine (CA.out _).mono ?_); rintro e w' ⟨rfl, rfl⟩) | (go_at_call 143; (with_reducible refine (CB.out _).mono ?_); rintro e w' ⟨rfl, rfl⟩) | (go_at_call 125; (with_reducible refine (CC.out _).mono ?_); rintro e w' ⟨rfl, rfl⟩) | (go_at_call 126; (with_reducible refine (CD.out _).mono ?_); rintro e w' ⟨rfl, rfl⟩))
       go_ret
       exact ⟨by simp, GV.out⟩
      ·go_wp2_with (first | (go_at_call 144; (with_reducible refine (CA.out _).mono ?_); rintro e w' ⟨rfl, rfl⟩) | (go_at_call 143; (with_reducible refine (CB.out _).mono ?_); rintro e w' ⟨rfl, rfl⟩) | (go_at_call 125; (with_reducible refine (CC.out _).mono ?_); rintro e w' ⟨rfl, rfl⟩) | (go_at_call 126; (with_reducible refine (CD.out _).mono ?_); rintro e w' ⟨rfl, rfl⟩))
       go_ret
       exact ⟨by simp, GV.out⟩
     ·have hpb : (p.q.par == 0) = false := by simpa using hpa
      rw [decide_eq_false hpa] at hbw
      clear hpa
      subst hbw
      first | cases bc | cases bw
      ·go_wp2_with (first | (go_at_call 144; (with_reducible refine (CA.out _).mono ?_); rintro e w' ⟨rfl, rfl⟩) | (go_at_call 143; (with_reducible refine (CB.out _).mono ?_); rintro e w' ⟨rfl, rfl⟩) | (go_at_call 125; (with_reducible refine (CC.out _).mono ?_); rintro e w' ⟨rfl, rfl⟩) | (go_at_call 126; (with_reducible refine (CD.out _).mono ?_); rintro e w' ⟨rfl, rfl⟩))
       go_ret
       exact ⟨by simp, GV.out⟩
      ·go_wp2_with (first | (go_at_call 144; (with_reducible refine (CA.out _).mono ?_); rintro e w' ⟨rfl, rfl⟩) | (go_at_call 143; (with_reducible refine (CB.out _).mono ?_); rintro e w' ⟨rfl, rfl⟩) | (go_at_call 125; (with_reducible refine (CC.out _).mono ?_); rintro e w' ⟨rfl, rfl⟩) | (go_at_call 126; (with_reducible refine (CD.out _).mono ?_); rintro e w' ⟨rfl, rfl⟩))
       go_ret
       exact ⟨by simp, GV.out⟩
    ·have hkb : (p.q.kind == 2) = false := by simpa using hk2
     rw [if_neg hk2] at hbw
     clear hk2
     by_cases hpa : p.q.oth = 0
     ·have hpb : (p.q.oth == 0) = true := by simpa using hpa
      rw [decide_eq_true hpa] at hbw
      clear hpa
      subst hbw
      first | cases bd | cases bw
      ·go_wp2_with (first | (go_at_call 144; (with_reducible refine (CA.out _).mono ?_); rintro e w' ⟨rfl, rfl⟩) | (go_at_call 143; (with_reducible refine (CB.out _).mono ?_); rintro e w' ⟨rfl, rfl⟩) | (go_at_call 125; (with_reducible refine (CC.out _).mono ?_); rintro e w' ⟨rfl, rfl⟩) | (go_at_call 126; (with_reducible refine (CD.out _).mono ?_); rintro e w' ⟨rfl, rfl⟩))
       go_ret
       exact ⟨by simp, GV.out⟩
      ·go_wp2_with (first | (go_at_call 144; (with_reducible refine (CA.out _).mono ?_); rintro e w' ⟨rfl, rfl⟩) | (go_at_call 143; (with_reducible refine (CB.out _).mono ?_); rintro e w' ⟨rfl, rfl⟩) | (go_at_call 125; (with_reducible refine (CC.out _).mono ?_); rintro e w' ⟨rfl, rfl⟩) | (go_at_call 126; (with_reducible refine (CD.out _).mono ?_); rintro e w' ⟨rfl, rfl⟩))
       go_ret
       exact ⟨by simp, GV.out⟩
     ·have hpb : (p.q.oth == 0) = false := by simpa using hpa
      rw [decide_eq_false hpa] at hbw
      clear hpa
      subst hbw
      first | cases bd | cases bw
      ·go_wp2_with (first | (go_at_call 144; (with_reducible refine (CA.out _).mono ?_); rintro e w' ⟨rfl, rfl⟩) | (go_at_call 143; (with_reducible refine (CB.out _).mono ?_); rintro e w' ⟨rfl, rfl⟩) | (go_at_call 125; (with_reducible refine (CC.out _).mono ?_); rintro e w' ⟨rfl, rfl⟩) | (go_at_call 126; (with_reducible refine (CD.out _).mono ?_); rintro e w' ⟨rfl, rfl⟩))
       go_ret
       exact ⟨by simp, GV.out⟩
      ·go_wp2_with (first | (go_at_call 144; (with_reducible refine (CA.out _).mono ?_); rintro e w' ⟨rfl, rfl⟩) | (go_at_call 143; (with_reducible refine (CB.out _).mono ?_); rintro e w' ⟨rfl, rfl⟩) | (go_at_call 125; (with_reducible refine (CC.out _).mono ?_); rintro e w' ⟨rfl, rfl⟩) | (go_at_call 126; (with_reducible refine (CD.out _).mono ?_); rintro e w' ⟨rfl, rfl⟩))
       go_ret
       exact ⟨by simp, GV.out⟩
   ·have htb : (p.q.thr != 0) = true := by simpa using hth
    rw [decide_eq_false hth] at hbh
    clear hth
    subst hbh
    go_wp2_with (first | (go_at_call 144; (with_reducible refine (CA.out _).mono ?_); rintro e w' ⟨rfl, rfl⟩) | (go_at_call 143; (with_reducible refine (CB.out _).mono ?_); rintro e w' ⟨rfl, rfl⟩) | (go_at_call 125; (with_reducible refine (CC.out _).mono ?_); rintro e w' ⟨rfl, rfl⟩) | (go_at_call 126; (with_reducible refine (CD.out _).mono ?_); rintro e w' ⟨rfl, rfl⟩))
    go_ret
    exact ⟨by simp, GV.out⟩
theorem checkProof_any (p : Pf) (w : World) (hp : PI w p) : Calls Tryz.prog 63 #[pv p] w fun e w' => e = .returned (.int .i64 (err (isQf p.q) 20)) ∧ Below w.heap.size w w' := by
 obtain ⟨W1, hW1⟩ : ∃ W1, w.alloc (.cells #[.int .i64 p.q.src, .int .i64 p.q.kind, .slice p.A p.n p.c, .int .i64 p.q.oth, .int .i64 p.q.par, .int .i64 p.q.day, .int .i64 p.q.thr, .int .i64 p.q.kno, .int .i64 p.q.unt] 56) = W1 := ⟨_, rfl⟩
 have g1 : Below w.heap.size w W1 := by rw [← hW1]; exact one_more _ _
 have b1 : Blk W1 w.heap.size 56 #[.int .i64 p.q.src, .int .i64 p.q.kind, .slice p.A p.n p.c, .int .i64 p.q.oth, .int .i64 p.q.par, .int .i64 p.q.day, .int .i64 p.q.thr, .int .i64 p.q.kno, .int .i64 p.q.unt] := by rw [← hW1]; exact Blk.new _ _ _
 have T := isProof_any p W1 (hp.below g1)
 have G1 := Lib.hid g1
 have HW1 := Lib.hid hW1
 generalize isQf p.q = q at T ⊢
 have HT := Lib.hid T
 have k0 := b1.cell 0
 have k1 := b1.cell 1
 have k2 := b1.cell 2
 have k3 := b1.cell 3
 have k4 := b1.cell 4
 have k5 := b1.cell 5
 have k6 := b1.cell 6
 have k7 := b1.cell 7
 have k8 := b1.cell 8
 clear T g1 b1 hW1
 go_enter Tryz.func63, Tryz.ntmps63
 go_upto_region 1 with fail
 rw [HW1.out]
 cases q
 all_goals
  go_wp2_with (go_at_call 105; (with_reducible refine (HT.out).mono ?_); rintro e V ⟨rfl, hg⟩; have G2 := Lib.hid (G1.out.trans (hg.mono G1.out.size)); clear hg)
  go_ret
  exact ⟨rfl, G2.out⟩
end Go.Proofs.YtehhlgdkhecacaaGreat

namespace Go.Proofs.YtehhlgdkhecacaaGreat
/-- The proofs with some sources. -/
def ofL (c : List Qf) (by_ : List Int) : List Qf := c.filter fun p => decide (p.src ∈ by_)
def srcL (c : List Qf) : List Int := c.map Qf.src
/-- Take out, from the last one on, whatever leaves the rest without a reading. -/
def clF (c : List Qf) : Nat → List Int → List Int
 | 0, b => b
 | i + 1, b => clF c i (if isRead (ofL c (b.eraseIdx i)) = true then b else b.eraseIdx i)
def clashL (c : List Qf) : List Int := clF c c.length (srcL c)
end Go.Proofs.YtehhlgdkhecacaaGreat

namespace Go.Proofs.YtehhlgdkhecacaaGreat
open Go.RowKit Go.Shelf
theorem info56 : (Tryz.prog.info? 56).map (fun i => (i.zero, i.size, i.bytes)) = some (some (.agg #[.int .i64 0, .int .i64 0, .slice none 0 0, .int .i64 0, .int .i64 0, .int .i64 0, .int .i64 0, .int .i64 0, .int .i64 0]), 9, 88) := by kernel_rfl
theorem pcells_one (x : Pf) : ∀ v ∈ pcells x, v.oneCell' = true := fun v hv => by
 unfold pcells at hv
 simp only [List.mem_cons, List.not_mem_nil, or_false] at hv
 rcases hv with rfl | rfl | rfl | rfl | rfl | rfl | rfl | rfl | rfl <;> rfl
theorem kdQ : Kd pcells 9 56 22 88 (.agg #[.int .i64 0, .int .i64 0, .slice none 0 0, .int .i64 0, .int .i64 0, .int .i64 0, .int .i64 0, .int .i64 0, .int .i64 0]) := ⟨by kernel_rfl, info56, by simp [Value.cells], by decide, pcells_len, pcells_one, by decide⟩
def satL (l : List Qf) : Int := l.foldl (fun m q => min (m * q.per.length) 2001) 1
theorem satL_snoc (l : List Qf) (q : Qf) : satL (l ++ [q]) = min (satL l * q.per.length) 2001 := by unfold satL; rw [List.foldl_append]; rfl
theorem sat_min : ∀ (l : List Qf) (m : Nat), (∀ q ∈ l, 1 ≤ q.per.length) → l.foldl (fun m q => min (m * (q.per.length : Int)) 2001) (min (m : Int) 2001) = min (((l.map fun q => q.per.length).foldl (· * ·) m : Nat) : Int) 2001
 | [], m, _ => rfl
 | q :: l, m, h => by
  have hq := h q (by simp)
  rw [List.foldl_cons, List.map_cons, List.foldl_cons]
  have e : min (min (m : Int) 2001 * (q.per.length : Int)) 2001 = min ((m * q.per.length : Nat) : Int) 2001 := by
   rcases Int.le_total (m : Int) 2001 with h1 | h1
   ·rw [Int.min_eq_left h1, Int.natCast_mul]
   ·rw [Int.min_eq_right h1]
    have h2 : (2001 : Int) * 1 ≤ 2001 * (q.per.length : Int) := Int.mul_le_mul_of_nonneg_left (by omega) (by omega)
    have h3 : (2001 : Int) * (q.per.length : Int) ≤ (m : Int) * (q.per.length : Int) := Int.mul_le_mul_of_nonneg_right h1 (by omega)
    rw [Int.natCast_mul]
    omega
  rw [e]
  exact sat_min l _ fun x hx => h x (List.mem_cons_of_mem _ hx)
theorem isQf_per {q : Qf} (h : isQf q = true) : 1 ≤ q.per.length ∧ q.per.length ≤ 4 := by
 rw [isQf_ends] at h
 simp only [Bool.and_eq_true] at h
 have h3 := h.1.1.1.1.1.1.1.1.2
 unfold rng at h3
 simp only [Bool.and_eq_true, decide_eq_true_eq] at h3
 omega
theorem okL_sat {l : List Qf} : okL l = (l.all isQf && (decide (l.length ≤ 60) && decide (satL l ≤ 2000) && upB (l.map Qf.src))) := by
 unfold okL
 cases h : l.all isQf with
 | false => rfl
 | true =>
  have hq : ∀ q ∈ l, 1 ≤ q.per.length := fun q hq => (isQf_per (List.all_eq_true.1 h q hq)).1
  have h1 : satL l = min (manyL l : Int) 2001 := by
   have := sat_min l 1 hq
   rw [show min ((1 : Nat) : Int) 2001 = 1 by decide] at this
   exact this
  have h2 : decide (manyL l ≤ 2000) = decide (satL l ≤ 2000) := by
   rw [h1]
   by_cases e : manyL l ≤ 2000
   ·rw [decide_eq_true e, decide_eq_true (by omega)]
   ·rw [decide_eq_false e, decide_eq_false (by omega)]
  rw [h2]
  simp only [Bool.true_and]
theorem sat_bd : ∀ l : List Qf, 0 ≤ satL l ∧ satL l ≤ 2001 := fun l => by
 unfold satL
 have key : ∀ (l : List Qf) (m : Int), 0 ≤ m → m ≤ 2001 → 0 ≤ l.foldl (fun m q => min (m * (q.per.length : Int)) 2001) m ∧ l.foldl (fun m q => min (m * (q.per.length : Int)) 2001) m ≤ 2001 := by
  intro l
  induction l with
  | nil => intro m h1 h2; exact ⟨h1, h2⟩
  | cons q l ih =>
   intro m h1 h2
   have : 0 ≤ m * (q.per.length : Int) := Int.mul_nonneg h1 (by omega)
   rw [List.foldl_cons]
   exact ih (min (m * (q.per.length : Int)) 2001) (by omega) (by omega)
 exact key l 1 (by decide) (by decide)
theorem take_map {l : List Pf} {k : Nat} (hk : k < l.length) : (l.map Pf.q).take (k + 1) = (l.map Pf.q).take k ++ [(l.getD k p0).q] := by
 rw [take_snoc (d := q0) (by rw [List.length_map]; exact hk), map_pf hk]
set_option maxRecDepth 100000 in
set_option maxHeartbeats 8000000 in
theorem check_any (A : Option Addr) (n c : Nat) (l : List Pf) (w : World) (ha : Prf w A n l) (hn : n ≤ 9223372036854775807) :
  Calls Tryz.prog 48 #[.slice A n c] w fun e w' => e = .returned (.int .i64 (err (okL (l.map Pf.q)) 21)) ∧ Below w.heap.size w w' := by
 have HA := Lib.hid ha
 have hlen := Lib.hid ha.len
 clear ha
 go_enter Tryz.func48, Tryz.ntmps48
 go_wp2_with fail
 go_loopw [3, 8] (fun m i wr => ∃ k : Nat, k ≤ n ∧ m = .int .i64 (satL ((l.map Pf.q).take k)) ∧ i = .int .i64 k ∧ Below w.heap.size w wr ∧ ∀ j, j < k → isQf (l.getD j p0).q = true) (fun _ i _ => n - (intOf i).toNat)
 case atStart => exact ⟨0, Nat.zero_le _, rfl, rfl, Below.refl _ _, fun j hj => absurd hj (by omega)⟩
 case round =>
  obtain ⟨k, hk, rfl, rfl, hg, hall⟩ := hrel
  have HG := Lib.hid hg
  have HALL := Lib.hid hall
  obtain ⟨sm, hsm⟩ : ∃ s, satL ((l.map Pf.q).take k) = s := ⟨_, rfl⟩
  have hsb := sat_bd ((l.map Pf.q).take k)
  rw [hsm] at hsb ⊢
  have HSM := Lib.hid hsm
  clear hall hsm
  by_cases hkn : k < n
  ·have HSN := Lib.hid (show satL ((l.map Pf.q).take (k + 1)) = min (sm * ((l.getD k p0).q.per.length : Int)) 2001 by rw [take_map (by rw [hlen.out]; exact hkn), satL_snoc, HSM.out])
   obtain ⟨b, o, rfl, -, hyi, hym, hyc⟩ := (HA.out.below hg).at hkn
   obtain ⟨y, hy⟩ : ∃ y, l.getD k p0 = y := ⟨_, rfl⟩
   rw [hy] at hyi hym hyc
   obtain ⟨e0, e1, e2, e3, e4, e5, e6, e7, e8⟩ := hyc _ (Below.refl _ _)
   have HyE := Lib.hid hy
   have HyI := Lib.hid hyi
   have HyM := Lib.hid hym
   clear hy hyi hym hyc
   rw [HyE.out] at HSN
   have hyl := HyI.out.len
   have hym := HyI.out.m
   obtain ⟨W2, hW2⟩ : ∃ X, wr.alloc (.cells #[.int .i64 y.q.src, .int .i64 y.q.kind, .slice y.A y.n y.c, .int .i64 y.q.oth, .int .i64 y.q.par, .int .i64 y.q.day, .int .i64 y.q.thr, .int .i64 y.q.kno, .int .i64 y.q.unt] 56) = X := ⟨_, rfl⟩
   have GW2 := Lib.hid (show Below wr.heap.size wr W2 by rw [← hW2]; exact one_more _ _)
   have BW2 := Lib.hid (show Blk W2 wr.heap.size 56 #[.int .i64 y.q.src, .int .i64 y.q.kind, .slice y.A y.n y.c, .int .i64 y.q.oth, .int .i64 y.q.par, .int .i64 y.q.day, .int .i64 y.q.thr, .int .i64 y.q.kno, .int .i64 y.q.unt] by rw [← hW2]; exact Blk.new _ _ _)
   have HW2 := Lib.hid hW2
   clear hW2
   have T := Lib.hid (isProof_any y W2 (HyI.out.below GW2.out))
   obtain ⟨q, hq⟩ : ∃ q, isQf y.q = q := ⟨_, rfl⟩
   rw [hq] at T
   have HQ := Lib.hid hq
   have hwr2 : wrap64 ((k : Int) + 1) = (k : Int) + 1 := wrap_in (by omega)
   clear hq hg
   go_upto_region 5 with fail
   rw [HW2.out]
   have d0 := BW2.out.cell 0
   have d1 := BW2.out.cell 1
   have d2 := BW2.out.cell 2
   have d3 := BW2.out.cell 3
   have d4 := BW2.out.cell 4
   have d5 := BW2.out.cell 5
   have d6 := BW2.out.cell 6
   have d7 := BW2.out.cell 7
   have d8 := BW2.out.cell 8
   cases q with
   | false =>
    have HF := Lib.hid (show okL (l.map Pf.q) = false by
     unfold okL
     have e : (l.map Pf.q).all isQf = false := by
      rw [List.all_eq_false]
      exact ⟨y.q, List.mem_map.2 ⟨y, HyM.out, rfl⟩, by rw [HQ.out]; decide⟩
     rw [e]; rfl)
    clear hyl hym hsb
    go_wp2_with (go_at_call 105; (with_reducible refine (T.out).mono ?_); rintro e V ⟨rfl, hg⟩; have GV := Lib.hid (HG.out.trans ((GW2.out.trans (hg.mono GW2.out.size)).mono HG.out.size)); clear hg)
    go_ret
    rw [HF.out]
    exact ⟨rfl, GV.out⟩
   | true =>
    have hp4 := isQf_per HQ.out
    have hml : sm * (y.n : Int) ≤ 2001 * 4 := Int.le_trans (Int.mul_le_mul_of_nonneg_right hsb.2 (by omega)) (Int.mul_le_mul_of_nonneg_left (by omega) (by omega))
    have hm0 : 0 ≤ sm * (y.n : Int) := Int.mul_nonneg hsb.1 (by omega)
    have hwm : wrap64 (sm * (y.n : Int)) = sm * (y.n : Int) := wrap_in (by omega)
    have HML := Lib.hid hyl
    clear hp4 hml hm0 hsb hyl hym
    go_upto_region 7 with (go_at_call 105; (with_reducible refine (T.out).mono ?_); rintro e V ⟨rfl, hg⟩; have GV := Lib.hid (HG.out.trans ((GW2.out.trans (hg.mono GW2.out.size)).mono HG.out.size)); have BV := Lib.hid (BW2.out.ext hg); clear hg d0 d1 d2 d3 d4 d5 d6 d7 d8)
    have d2 := BV.out.cell 2
    go_wp2_with fail
    go_roundw
    case rel => exact ⟨k + 1, by omega, by rw [HSN.out, HML.out], by go_num, GV.out, fun j hj => by
     by_cases e : j = k
     ·subst e; rw [HyE.out]; exact HQ.out
     ·exact HALL.out j (by omega)⟩
    case measure => simp [intOf]; omega
  ·obtain rfl : k = n := by omega
   have HT := Lib.hid (show (l.map Pf.q).take k = l.map Pf.q from List.take_of_length_le (by rw [List.length_map, hlen.out]; exact Nat.le_refl _))
   rw [HT.out] at HSM
   have HAQ := Lib.hid (show (l.map Pf.q).all isQf = true from List.all_eq_true.2 fun q hq => by
    obtain ⟨p, hp, rfl⟩ := List.mem_map.1 hq
    obtain ⟨j, hj, rfl⟩ := List.mem_iff_getElem.1 hp
    have := HALL.out j (by rw [← hlen.out]; exact hj)
    rw [List.getD_eq_getElem?_getD, List.getElem?_eq_getElem hj] at this
    exact this)
   have HOK := Lib.hid (show okL (l.map Pf.q) = (decide (k ≤ 60) && decide (sm ≤ 2000) && upB (l.map fun p => p.q.src)) by
    rw [okL_sat, HAQ.out, HSM.out, List.length_map, hlen.out, List.map_map]; rfl)
   have TR := fun W (g : Below w.heap.size w W) => risesP_any A k c l W (HA.out.below g) hn
   obtain ⟨ub, hub⟩ : ∃ u, upB (l.map fun p => p.q.src) = u := ⟨_, rfl⟩
   rw [hub] at HOK TR
   have HTR := Lib.hid TR
   clear TR hub hg
   by_cases h60 : k ≤ 60
   ·have hd6 : decide ((60 : Int) < (k : Int)) = false := decide_eq_false (by omega)
    by_cases hm2 : sm ≤ 2000
    ·have hd7 : decide ((2000 : Int) < sm) = false := decide_eq_false (by omega)
     have HE := Lib.hid (show okL (l.map Pf.q) = ub by rw [HOK.out, decide_eq_true h60, decide_eq_true hm2]; rfl)
     clear h60 hm2
     cases ub
     all_goals
      go_wp2_with (go_at_call 106; (with_reducible refine (HTR.out _ HG.out).mono ?_); rintro e V ⟨rfl, hg⟩; have GV := Lib.hid (HG.out.trans (hg.mono HG.out.size)); clear hg)
      go_ret
      rw [HE.out]
      exact ⟨rfl, GV.out⟩
    ·have hd7 : decide ((2000 : Int) < sm) = true := decide_eq_true (by omega)
     have HE := Lib.hid (show okL (l.map Pf.q) = false by rw [HOK.out, decide_eq_false hm2]; simp)
     clear h60 hm2
     go_wp2_with fail
     go_ret
     rw [HE.out]
     exact ⟨rfl, HG.out⟩
   ·have hd6 : decide ((60 : Int) < (k : Int)) = true := decide_eq_true (by omega)
    have HE := Lib.hid (show okL (l.map Pf.q) = false by rw [HOK.out, decide_eq_false h60]; simp)
    clear h60
    go_wp2_with fail
    go_ret
    rw [HE.out]
    exact ⟨rfl, HG.out⟩
end Go.Proofs.YtehhlgdkhecacaaGreat

namespace Go.Proofs.YtehhlgdkhecacaaGreat
open Go.RowKit Go.Shelf
theorem one_int {w : World} {g : Nat} {x : Int} (h : Blk w g 3 #[.int .i64 x]) : Ints w (some ⟨g, 0, none⟩) 1 [x] := Blk.arr1 (f := icells) (size := 1) (x := x) h
theorem one_pf {w : World} {g : Nat} {x : Pf} (h : Blk w g 56 (pb x)) : Arr pcells 9 w (some ⟨g, 0, none⟩) 1 [x] := Blk.arr1 (f := pcells) (size := 9) (x := x) h
theorem srcL_map (l : List Pf) : srcL (l.map Pf.q) = l.map fun p => p.q.src := by unfold srcL; rw [List.map_map]; rfl
set_option maxRecDepth 100000 in
set_option maxHeartbeats 8000000 in
theorem sources_any (A : Option Addr) (n c : Nat) (l : List Pf) (w : World) (ha : Prf w A n l) (hn : n ≤ 1000) :
  Calls Tryz.prog 102 #[.slice A n c] w fun e w' => (∃ v, e = .returned v ∧ OwnL icells 1 3 w' w.heap.size v (srcL (l.map Pf.q))) ∧ Below w.heap.size w w' := by
 rw [srcL_map]
 have HA := Lib.hid ha
 have hlen := Lib.hid ha.len
 have HO0 := Lib.hid (OwnL.nil (f := icells) (size := 1) (e := 3) w w.heap.size)
 clear ha
 go_enter Tryz.func102, Tryz.ntmps102
 go_wp2_with fail
 go_loopw [3, 8] (fun v i wr => ∃ k : Nat, k ≤ n ∧ OwnL icells 1 3 wr w.heap.size v ((l.map fun p => p.q.src).take k) ∧ i = .int .i64 k ∧ Below w.heap.size w wr) (fun _ i _ => n - (intOf i).toNat)
 case atStart => exact ⟨0, Nat.zero_le _, HO0.out, rfl, Below.refl _ _⟩
 case round =>
  obtain ⟨k, hk, ho, rfl, hg⟩ := hrel
  have HG := Lib.hid hg
  have HO := Lib.hid ho
  clear ho
  by_cases hkn : k < n
  ·have HTK := Lib.hid (show (l.map fun p => p.q.src).take (k + 1) = (l.map fun p => p.q.src).take k ++ [(l.getD k p0).q.src] by
    rw [take_snoc (d := 0) (by rw [List.length_map, hlen.out]; exact hkn), List.getD_eq_getElem?_getD, List.getElem?_map, getD_pf (by rw [hlen.out]; exact hkn)]; rfl)
   have HTL := Lib.hid (show ((l.map fun p => p.q.src).take k).length + 1 ≤ 1000000 by rw [List.length_take]; omega)
   obtain ⟨xs, hxs⟩ : ∃ xs, (l.map fun p => p.q.src).take k = xs := ⟨_, rfl⟩
   rw [hxs] at HTK HTL HO
   obtain ⟨b, o, rfl, -, hyi, hym, hyc⟩ := (HA.out.below hg).at hkn
   obtain ⟨y, hy⟩ : ∃ y, l.getD k p0 = y := ⟨_, rfl⟩
   rw [hy] at hyi hym hyc
   obtain ⟨e0, e1, e2, e3, e4, e5, e6, e7, e8⟩ := hyc _ (Below.refl _ _)
   have HyE := Lib.hid hy
   have HyI := Lib.hid hyi
   have HyM := Lib.hid hym
   clear hy hyi hym hyc
   rw [HyE.out] at HTK
   obtain ⟨W2, hW2⟩ : ∃ X, wr.alloc (.cells #[.int .i64 y.q.src, .int .i64 y.q.kind, .slice y.A y.n y.c, .int .i64 y.q.oth, .int .i64 y.q.par, .int .i64 y.q.day, .int .i64 y.q.thr, .int .i64 y.q.kno, .int .i64 y.q.unt] 56) = X := ⟨_, rfl⟩
   have GW2 := Lib.hid (show Below wr.heap.size wr W2 by rw [← hW2]; exact one_more _ _)
   have BW2 := Lib.hid (show Blk W2 wr.heap.size 56 #[.int .i64 y.q.src, .int .i64 y.q.kind, .slice y.A y.n y.c, .int .i64 y.q.oth, .int .i64 y.q.par, .int .i64 y.q.day, .int .i64 y.q.thr, .int .i64 y.q.kno, .int .i64 y.q.unt] by rw [← hW2]; exact Blk.new _ _ _)
   have HW2 := Lib.hid hW2
   clear hW2
   have hwr2 : wrap64 ((k : Int) + 1) = (k : Int) + 1 := wrap_in (by omega)
   clear hxs hg
   have GX := Lib.hid (one_more W2 (.cells #[.int .i64 y.q.src] 3))
   have HI := Lib.hid (one_int (Blk.new W2 3 #[.int .i64 y.q.src]))
   have HOX := Lib.hid ((HO.out.ext GW2.out).ext GX.out)
   have HBB := Lib.hid (show w.heap.size ≤ (W2.alloc (.cells #[.int .i64 y.q.src] 3)).heap.size by have h1 := HG.out.size; have h2 := GW2.out.size; have h3 := GX.out.size; omega)
   go_upto_region 5 with fail
   rw [HW2.out]
   have d0 := BW2.out.cell 0
   go_wp2_with (at_builtin; go_loud (refine wpList_app kdI (by rfl) _ _ (by rfl) w.heap.size _ xs (by rfl) HOX.out _ 1 1 [y.q.src] (by rfl) HI.out HTL.out HBB.out ?_); intro v' w' ho hgr hz; have HO2 := Lib.hid ho; have GV := Lib.hid (HG.out.trans ((GW2.out.trans (GX.out.mono GW2.out.size)).mono HG.out.size) |>.trans (HOX.out.below hgr (Nat.le_refl _) HBB.out)); clear ho hgr hz)
   go_roundw
   case rel => exact ⟨k + 1, by omega, by rw [HTK.out]; exact HO2.out, by go_num, GV.out⟩
   case measure => simp [intOf]; omega
  ·obtain rfl : k = n := by omega
   have HT := Lib.hid (show (l.map fun p => p.q.src).take k = l.map fun p => p.q.src from List.take_of_length_le (by rw [List.length_map, hlen.out]; exact Nat.le_refl _))
   rw [HT.out] at HO
   go_wp2_with fail
   go_ret
   exact ⟨⟨_, rfl, HO.out⟩, HG.out⟩
/-- The proofs that are meant. -/
theorem filt_map (l : List Pf) (f : Qf → Bool) : (l.filter fun p => f p.q).map Pf.q = (l.map Pf.q).filter f := by
 rw [List.filter_map]; rfl
theorem filt_take {l : List Pf} {k : Nat} (f : Pf → Bool) (hk : k < l.length) : (l.take (k + 1)).filter f = (l.take k).filter f ++ (if f (l.getD k p0) = true then [l.getD k p0] else []) := by
 rw [take_snoc (d := p0) hk, List.filter_append]
 by_cases h : f (l.getD k p0) = true
 ·rw [if_pos h, List.filter_cons, if_pos h]; rfl
 ·rw [if_neg h, List.filter_cons, if_neg h]; rfl
/-- A slice of one's own whose elements' lists lie elsewhere. -/
theorem own_prf {W : World} {base : Nat} {v : Value} {l : List Pf} (h : OwnL pcells 9 56 W base v l) (hp : ∀ p ∈ l, PI W p) : ∃ A c, v = .slice A l.length c ∧ l.length ≤ c ∧ c ≤ maxLen ∧ Prf W A l.length l := by
 obtain ⟨A, c, h1, h2, h3, h4, -⟩ := OwnL.arr kdQ h
 exact ⟨A, c, h1, h2, h3, ⟨h4, hp⟩⟩
set_option maxRecDepth 100000 in
set_option maxHeartbeats 8000000 in
theorem counting_any (A : Option Addr) (n c : Nat) (l : List Pf) (d : Int) (w : World) (ha : Prf w A n l) (hn : n ≤ 1000) :
  Calls Tryz.prog 124 #[.slice A n c, .int .i64 d] w fun e w' => (∃ v, e = .returned v ∧ OwnL pcells 9 56 w' w.heap.size v (l.filter fun p => cnt p.q d)) ∧ Below w.heap.size w w' := by
 have HA := Lib.hid ha
 have hlen := Lib.hid ha.len
 have HO0 := Lib.hid (OwnL.nil (f := pcells) (size := 9) (e := 56) w w.heap.size)
 clear ha
 go_enter Tryz.func124, Tryz.ntmps124
 go_wp2_with fail
 go_loopw [5, 10] (fun v i wr => ∃ k : Nat, k ≤ n ∧ OwnL pcells 9 56 wr w.heap.size v ((l.take k).filter fun p => cnt p.q d) ∧ i = .int .i64 k ∧ Below w.heap.size w wr) (fun _ i _ => n - (intOf i).toNat)
 case atStart => exact ⟨0, Nat.zero_le _, HO0.out, rfl, Below.refl _ _⟩
 case round =>
  obtain ⟨k, hk, ho, rfl, hg⟩ := hrel
  have HG := Lib.hid hg
  have HO := Lib.hid ho
  clear ho
  by_cases hkn : k < n
  ·have HTK := Lib.hid (filt_take (fun p => cnt p.q d) (l := l) (k := k) (by rw [hlen.out]; exact hkn))
   have HTL := Lib.hid (show ((l.take k).filter fun p => cnt p.q d).length + 1 ≤ 1000000 by
    have := List.length_filter_le (fun p => cnt p.q d) (l.take k)
    rw [List.length_take] at this; omega)
   obtain ⟨xs, hxs⟩ : ∃ xs, ((l.take k).filter fun p => cnt p.q d) = xs := ⟨_, rfl⟩
   rw [hxs] at HTK HTL HO
   obtain ⟨b, o, rfl, -, hyi, hym, hyc⟩ := (HA.out.below hg).at hkn
   obtain ⟨y, hy⟩ : ∃ y, l.getD k p0 = y := ⟨_, rfl⟩
   rw [hy] at hyi hym hyc
   obtain ⟨e0, e1, e2, e3, e4, e5, e6, e7, e8⟩ := hyc _ (Below.refl _ _)
   have HyE := Lib.hid hy
   have HyI := Lib.hid hyi
   have HyM := Lib.hid hym
   clear hy hyi hym hyc
   rw [HyE.out] at HTK
   obtain ⟨W2, hW2⟩ : ∃ X, wr.alloc (.cells #[.int .i64 y.q.src, .int .i64 y.q.kind, .slice y.A y.n y.c, .int .i64 y.q.oth, .int .i64 y.q.par, .int .i64 y.q.day, .int .i64 y.q.thr, .int .i64 y.q.kno, .int .i64 y.q.unt] 56) = X := ⟨_, rfl⟩
   have GW2 := Lib.hid (show Below wr.heap.size wr W2 by rw [← hW2]; exact one_more _ _)
   have BW2 := Lib.hid (show Blk W2 wr.heap.size 56 #[.int .i64 y.q.src, .int .i64 y.q.kind, .slice y.A y.n y.c, .int .i64 y.q.oth, .int .i64 y.q.par, .int .i64 y.q.day, .int .i64 y.q.thr, .int .i64 y.q.kno, .int .i64 y.q.unt] by rw [← hW2]; exact Blk.new _ _ _)
   have HW2 := Lib.hid hW2
   clear hW2
   have hwr2 : wrap64 ((k : Int) + 1) = (k : Int) + 1 := wrap_in (by omega)
   clear hxs hg
   go_upto_region 5 with fail
   rw [HW2.out]
   have d0 := BW2.out.cell 0
   have d1 := BW2.out.cell 1
   have d2 := BW2.out.cell 2
   have d3 := BW2.out.cell 3
   have d4 := BW2.out.cell 4
   have d5 := BW2.out.cell 5
   have d6 := BW2.out.cell 6
   have d7 := BW2.out.cell 7
   have d8 := BW2.out.cell 8
   by_cases h1 : y.q.kno ≤ d
   ·have h1d := decide_eq_true h1
    by_cases h2 : y.q.unt = 0
    ·have h2b : (y.q.unt == 0) = true := by simpa using h2
     have HC := Lib.hid (show (fun p : Pf => cnt p.q d) y = true by show cnt y.q d = true; unfold cnt; rw [decide_eq_true h1, decide_eq_true h2]; rfl)
     clear h1 h2
     have GX := Lib.hid (one_more W2 (.cells #[.int .i64 y.q.src, .int .i64 y.q.kind, .slice y.A y.n y.c, .int .i64 y.q.oth, .int .i64 y.q.par, .int .i64 y.q.day, .int .i64 y.q.thr, .int .i64 y.q.kno, .int .i64 y.q.unt] 56))
     have HI := Lib.hid (one_pf (Blk.new W2 56 #[.int .i64 y.q.src, .int .i64 y.q.kind, .slice y.A y.n y.c, .int .i64 y.q.oth, .int .i64 y.q.par, .int .i64 y.q.day, .int .i64 y.q.thr, .int .i64 y.q.kno, .int .i64 y.q.unt]))
     have HOX := Lib.hid ((HO.out.ext GW2.out).ext GX.out)
     have HBB := Lib.hid (show w.heap.size ≤ (W2.alloc (.cells #[.int .i64 y.q.src, .int .i64 y.q.kind, .slice y.A y.n y.c, .int .i64 y.q.oth, .int .i64 y.q.par, .int .i64 y.q.day, .int .i64 y.q.thr, .int .i64 y.q.kno, .int .i64 y.q.unt] 56)).heap.size by have h1 := HG.out.size; have h2 := GW2.out.size; have h3 := GX.out.size; omega)
     go_wp2_with (first | (at_builtin; go_loud (refine wpList_app kdQ (by rfl) _ _ (by rfl) w.heap.size _ xs (by rfl) HOX.out _ 1 1 [y] (by rfl) HI.out HTL.out HBB.out ?_); intro v' w' ho hgr hz; have HO2 := Lib.hid ho; have GV := Lib.hid (HG.out.trans ((GW2.out.trans (GX.out.mono GW2.out.size)).mono HG.out.size) |>.trans (HOX.out.below hgr (Nat.le_refl _) HBB.out)); clear ho hgr hz))
     go_roundw
     case rel => exact ⟨k + 1, by omega, by rw [HTK.out, if_pos HC.out]; exact HO2.out, by go_num, GV.out⟩
     case measure => simp [intOf]; omega
    ·have h2b : (y.q.unt == 0) = false := by simpa using h2
     by_cases h3 : d < y.q.unt
     ·have h3d := decide_eq_true h3
      have HC := Lib.hid (show (fun p : Pf => cnt p.q d) y = true by show cnt y.q d = true; unfold cnt; rw [decide_eq_true h1, decide_eq_true h3, Bool.or_true]; rfl)
      clear h1 h2 h3
      have GX := Lib.hid (one_more W2 (.cells #[.int .i64 y.q.src, .int .i64 y.q.kind, .slice y.A y.n y.c, .int .i64 y.q.oth, .int .i64 y.q.par, .int .i64 y.q.day, .int .i64 y.q.thr, .int .i64 y.q.kno, .int .i64 y.q.unt] 56))
      have HI := Lib.hid (one_pf (Blk.new W2 56 #[.int .i64 y.q.src, .int .i64 y.q.kind, .slice y.A y.n y.c, .int .i64 y.q.oth, .int .i64 y.q.par, .int .i64 y.q.day, .int .i64 y.q.thr, .int .i64 y.q.kno, .int .i64 y.q.unt]))
      have HOX := Lib.hid ((HO.out.ext GW2.out).ext GX.out)
      have HBB := Lib.hid (show w.heap.size ≤ (W2.alloc (.cells #[.int .i64 y.q.src, .int .i64 y.q.kind, .slice y.A y.n y.c, .int .i64 y.q.oth, .int .i64 y.q.par, .int .i64 y.q.day, .int .i64 y.q.thr, .int .i64 y.q.kno, .int .i64 y.q.unt] 56)).heap.size by have h1 := HG.out.size; have h2 := GW2.out.size; have h3 := GX.out.size; omega)
      go_wp2_with (first | (at_builtin; go_loud (refine wpList_app kdQ (by rfl) _ _ (by rfl) w.heap.size _ xs (by rfl) HOX.out _ 1 1 [y] (by rfl) HI.out HTL.out HBB.out ?_); intro v' w' ho hgr hz; have HO2 := Lib.hid ho; have GV := Lib.hid (HG.out.trans ((GW2.out.trans (GX.out.mono GW2.out.size)).mono HG.out.size) |>.trans (HOX.out.below hgr (Nat.le_refl _) HBB.out)); clear ho hgr hz))
      go_roundw
      case rel => exact ⟨k + 1, by omega, by rw [HTK.out, if_pos HC.out]; exact HO2.out, by go_num, GV.out⟩
      case measure => simp [intOf]; omega
     ·have h3d := decide_eq_false h3
      have HC := Lib.hid (show ¬ (fun p : Pf => cnt p.q d) y = true by show ¬ cnt y.q d = true; unfold cnt; rw [decide_eq_true h1, decide_eq_false h2, decide_eq_false h3]; decide)
      clear h1 h2 h3
      go_wp2_with (first | fail)
      go_roundw
      case rel => exact ⟨k + 1, by omega, by rw [HTK.out, if_neg HC.out, List.append_nil]; exact HO.out.ext GW2.out, by go_num, HG.out.trans (GW2.out.mono HG.out.size)⟩
      case measure => simp [intOf]; omega
   ·have h1d := decide_eq_false h1
    have HC := Lib.hid (show ¬ (fun p : Pf => cnt p.q d) y = true by show ¬ cnt y.q d = true; unfold cnt; rw [decide_eq_false h1]; simp)
    clear h1
    go_wp2_with (first | fail)
    go_roundw
    case rel => exact ⟨k + 1, by omega, by rw [HTK.out, if_neg HC.out, List.append_nil]; exact HO.out.ext GW2.out, by go_num, HG.out.trans (GW2.out.mono HG.out.size)⟩
    case measure => simp [intOf]; omega
  ·obtain rfl : k = n := by omega
   have HT := Lib.hid (show l.take k = l from List.take_of_length_le (by rw [hlen.out]; exact Nat.le_refl _))
   rw [HT.out] at HO
   go_wp2_with fail
   go_ret
   exact ⟨⟨_, rfl, HO.out⟩, HG.out⟩
set_option maxRecDepth 100000 in
set_option maxHeartbeats 8000000 in
theorem of_any (A : Option Addr) (n c : Nat) (l : List Pf) (B : Option Addr) (m d : Nat) (by_ : List Int) (w : World) (ha : Prf w A n l) (hn : n ≤ 1000) (hb : Ints w B m by_) (hm : m ≤ 9223372036854775807) :
  Calls Tryz.prog 111 #[.slice A n c, .slice B m d] w fun e w' => (∃ v, e = .returned v ∧ OwnL pcells 9 56 w' w.heap.size v (l.filter fun p => hasI by_ p.q.src)) ∧ Below w.heap.size w w' := by
 have HA := Lib.hid ha
 have HB := Lib.hid hb
 have hlen := Lib.hid ha.len
 have HO0 := Lib.hid (OwnL.nil (f := pcells) (size := 9) (e := 56) w w.heap.size)
 clear ha hb
 go_enter Tryz.func111, Tryz.ntmps111
 go_wp2_with fail
 go_loopw [5, 10] (fun v i wr => ∃ k : Nat, k ≤ n ∧ OwnL pcells 9 56 wr w.heap.size v ((l.take k).filter fun p => hasI by_ p.q.src) ∧ i = .int .i64 k ∧ Below w.heap.size w wr) (fun _ i _ => n - (intOf i).toNat)
 case atStart => exact ⟨0, Nat.zero_le _, HO0.out, rfl, Below.refl _ _⟩
 case round =>
  obtain ⟨k, hk, ho, rfl, hg⟩ := hrel
  have HG := Lib.hid hg
  have HO := Lib.hid ho
  clear ho
  by_cases hkn : k < n
  ·have HTK := Lib.hid (filt_take (fun p => hasI by_ p.q.src) (l := l) (k := k) (by rw [hlen.out]; exact hkn))
   have HTL := Lib.hid (show ((l.take k).filter fun p => hasI by_ p.q.src).length + 1 ≤ 1000000 by
    have := List.length_filter_le (fun p => hasI by_ p.q.src) (l.take k)
    rw [List.length_take] at this; omega)
   obtain ⟨xs, hxs⟩ : ∃ xs, ((l.take k).filter fun p => hasI by_ p.q.src) = xs := ⟨_, rfl⟩
   rw [hxs] at HTK HTL HO
   obtain ⟨b, o, rfl, -, hyi, hym, hyc⟩ := (HA.out.below hg).at hkn
   obtain ⟨y, hy⟩ : ∃ y, l.getD k p0 = y := ⟨_, rfl⟩
   rw [hy] at hyi hym hyc
   obtain ⟨e0, e1, e2, e3, e4, e5, e6, e7, e8⟩ := hyc _ (Below.refl _ _)
   have HyE := Lib.hid hy
   have HyI := Lib.hid hyi
   have HyM := Lib.hid hym
   clear hy hyi hym hyc
   rw [HyE.out] at HTK
   obtain ⟨W2, hW2⟩ : ∃ X, wr.alloc (.cells #[.int .i64 y.q.src, .int .i64 y.q.kind, .slice y.A y.n y.c, .int .i64 y.q.oth, .int .i64 y.q.par, .int .i64 y.q.day, .int .i64 y.q.thr, .int .i64 y.q.kno, .int .i64 y.q.unt] 56) = X := ⟨_, rfl⟩
   have GW2 := Lib.hid (show Below wr.heap.size wr W2 by rw [← hW2]; exact one_more _ _)
   have BW2 := Lib.hid (show Blk W2 wr.heap.size 56 #[.int .i64 y.q.src, .int .i64 y.q.kind, .slice y.A y.n y.c, .int .i64 y.q.oth, .int .i64 y.q.par, .int .i64 y.q.day, .int .i64 y.q.thr, .int .i64 y.q.kno, .int .i64 y.q.unt] by rw [← hW2]; exact Blk.new _ _ _)
   have HW2 := Lib.hid hW2
   clear hW2
   have hwr2 : wrap64 ((k : Int) + 1) = (k : Int) + 1 := wrap_in (by omega)
   have T := has_any B m d by_ y.q.src W2 ((HB.out.below HG.out).below GW2.out) hm
   obtain ⟨hb, hhb⟩ : ∃ hb, hasI by_ y.q.src = hb := ⟨_, rfl⟩
   rw [hhb] at T
   have HT := Lib.hid T
   have HHB := Lib.hid hhb
   clear hxs hg T hhb
   go_upto_region 5 with fail
   rw [HW2.out]
   have d0 := BW2.out.cell 0
   have d1 := BW2.out.cell 1
   have d2 := BW2.out.cell 2
   have d3 := BW2.out.cell 3
   have d4 := BW2.out.cell 4
   have d5 := BW2.out.cell 5
   have d6 := BW2.out.cell 6
   have d7 := BW2.out.cell 7
   have d8 := BW2.out.cell 8
   cases hb with
   | true =>
    have HC := Lib.hid (show (fun p : Pf => hasI by_ p.q.src) y = true from HHB.out)
    have GX := Lib.hid (one_more W2 (.cells #[.int .i64 y.q.src, .int .i64 y.q.kind, .slice y.A y.n y.c, .int .i64 y.q.oth, .int .i64 y.q.par, .int .i64 y.q.day, .int .i64 y.q.thr, .int .i64 y.q.kno, .int .i64 y.q.unt] 56))
    have HI := Lib.hid (one_pf (Blk.new W2 56 #[.int .i64 y.q.src, .int .i64 y.q.kind, .slice y.A y.n y.c, .int .i64 y.q.oth, .int .i64 y.q.par, .int .i64 y.q.day, .int .i64 y.q.thr, .int .i64 y.q.kno, .int .i64 y.q.unt]))
    have HOX := Lib.hid ((HO.out.ext GW2.out).ext GX.out)
    have HBB := Lib.hid (show w.heap.size ≤ (W2.alloc (.cells #[.int .i64 y.q.src, .int .i64 y.q.kind, .slice y.A y.n y.c, .int .i64 y.q.oth, .int .i64 y.q.par, .int .i64 y.q.day, .int .i64 y.q.thr, .int .i64 y.q.kno, .int .i64 y.q.unt] 56)).heap.size by have h1 := HG.out.size; have h2 := GW2.out.size; have h3 := GX.out.size; omega)
    go_wp2_with (first | (go_at_call 121; (with_reducible refine (HT.out).mono ?_); rintro e w' ⟨rfl, rfl⟩) | (at_builtin; go_loud (refine wpList_app kdQ (by rfl) _ _ (by rfl) w.heap.size _ xs (by rfl) HOX.out _ 1 1 [y] (by rfl) HI.out HTL.out HBB.out ?_); intro v' w' ho hgr hz; have HO2 := Lib.hid ho; have GV := Lib.hid (HG.out.trans ((GW2.out.trans (GX.out.mono GW2.out.size)).mono HG.out.size) |>.trans (HOX.out.below hgr (Nat.le_refl _) HBB.out)); clear ho hgr hz))
    go_roundw
    case rel => exact ⟨k + 1, by omega, by rw [HTK.out, if_pos HC.out]; exact HO2.out, by go_num, GV.out⟩
    case measure => simp [intOf]; omega
   | false =>
    have HC := Lib.hid (show ¬ (fun p : Pf => hasI by_ p.q.src) y = true by show ¬ hasI by_ y.q.src = true; rw [HHB.out]; decide)
    go_wp2_with (first | (go_at_call 121; (with_reducible refine (HT.out).mono ?_); rintro e w' ⟨rfl, rfl⟩) | fail)
    go_roundw
    case rel => exact ⟨k + 1, by omega, by rw [HTK.out, if_neg HC.out, List.append_nil]; exact HO.out.ext GW2.out, by go_num, HG.out.trans (GW2.out.mono HG.out.size)⟩
    case measure => simp [intOf]; omega
  ·obtain rfl : k = n := by omega
   have HT := Lib.hid (show l.take k = l from List.take_of_length_le (by rw [hlen.out]; exact Nat.le_refl _))
   rw [HT.out] at HO
   go_wp2_with fail
   go_ret
   exact ⟨⟨_, rfl, HO.out⟩, HG.out⟩
end Go.Proofs.YtehhlgdkhecacaaGreat

namespace Go.Proofs.YtehhlgdkhecacaaGreat
open Go.RowKit Go.Shelf
def badDay (d : Int) : Bool := !rng d 0 4166
/-- The error of what is asked for on days. -/
def lookE (l : List Qf) (days : List Int) : Int := if okL l = true then (if days.any badDay = true then 6 else 0) else 21
/-- What look returns. -/
def LookEnd (l : List Pf) (days : List Int) (w : World) (e : Ending) (w' : World) : Prop :=
 (∃ v, e = .returned (.tuple #[v, .int .i64 (lookE (l.map Pf.q) days)]) ∧ (lookE (l.map Pf.q) days = 0 → OwnL pcells 9 56 w' w.heap.size v (l.filter fun p => cnt p.q (days.getD (days.length - 1) 0))) ∧ (lookE (l.map Pf.q) days ≠ 0 → v = .slice none 0 0)) ∧ Below w.heap.size w w'
theorem lookEnd_ok {l : List Pf} {days : List Int} {w V : World} {v : Value} {x : Int} (h : lookE (l.map Pf.q) days = 0) (hx : days.getD (days.length - 1) 0 = x) (ho : OwnL pcells 9 56 V w.heap.size v (l.filter fun p => cnt p.q x)) (hg : Below w.heap.size w V) : LookEnd l days w (.returned (.tuple #[v, .int .i64 0])) V :=
 ⟨⟨v, by rw [h], fun _ => by rw [hx]; exact ho, fun e => absurd h e⟩, hg⟩
theorem lookEnd_no {l : List Pf} {days : List Int} {w V : World} {x : Int} (h : lookE (l.map Pf.q) days = x) (hx : x ≠ 0) (hg : Below w.heap.size w V) : LookEnd l days w (.returned (.tuple #[.slice none 0 0, .int .i64 x])) V :=
 ⟨⟨_, by rw [h], fun e => absurd (h.symm.trans e) hx, fun _ => rfl⟩, hg⟩
/-- What Counting returns. -/
def CntEnd (l : List Qf) (d : Int) (w : World) (e : Ending) (w' : World) : Prop :=
 (∃ D m k, e = .returned (.tuple #[.slice D m k, .int .i64 (lookE l [d])]) ∧ Ints w' D m (if lookE l [d] = 0 then srcL (cntL l d) else [])) ∧ Below w.heap.size w w'
theorem cntEnd_ok {l : List Qf} {d : Int} {w V : World} {D : Option Addr} {m k : Nat} (h : lookE l [d] = 0) (hi : Ints V D m (srcL (cntL l d))) (hg : Below w.heap.size w V) : CntEnd l d w (.returned (.tuple #[.slice D m k, .int .i64 0])) V :=
 ⟨⟨_, _, _, by rw [h], by rw [if_pos h]; exact hi⟩, hg⟩
theorem cntEnd_no {l : List Qf} {d x : Int} {w V : World} (h : lookE l [d] = x) (hx : x ≠ 0) (hg : Below w.heap.size w V) : CntEnd l d w (.returned (.tuple #[.slice none 0 0, .int .i64 x])) V :=
 ⟨⟨_, _, _, by rw [h], by rw [if_neg (fun e => hx (h.symm.trans e))]; exact Arr.nil_⟩, hg⟩
theorem okL_len {l : List Qf} (h : okL l = true) : l.length ≤ 60 := by
 unfold okL at h
 simp only [Bool.and_eq_true, decide_eq_true_eq] at h
 exact h.1.1.2
theorem okL_src {l : List Qf} (h : okL l = true) : (srcL l).Pairwise (· < ·) := by
 unfold okL at h
 simp only [Bool.and_eq_true, decide_eq_true_eq] at h
 exact upB_iff.1 h.2
theorem okL_all {l : List Qf} (h : okL l = true) : ∀ q ∈ l, isQf q = true := by
 unfold okL at h
 simp only [Bool.and_eq_true, decide_eq_true_eq] at h
 exact fun q hq => List.all_eq_true.1 h.1.1.1 q hq
set_option maxRecDepth 100000 in
set_option maxHeartbeats 8000000 in
theorem look_any (A : Option Addr) (n c : Nat) (l : List Pf) (D : Option Addr) (m d : Nat) (days : List Int) (w : World) (ha : Prf w A n l) (hn : n ≤ 9223372036854775807) (hd : Ints w D m days) (hm : m ≤ 1000) (h1m : 1 ≤ m) :
  Calls Tryz.prog 73 #[.slice A n c, .slice D m d] w (LookEnd l days w) := by
 have HA := Lib.hid ha
 have HD := Lib.hid hd
 have hlen := Lib.hid ha.len
 have hdl := Lib.hid hd.1
 have T := check_any A n c l w ha hn
 have HLE := Lib.hid (show lookE (l.map Pf.q) days = if okL (l.map Pf.q) = true then (if days.any badDay = true then 6 else 0) else 21 from rfl)
 have HN6 := Lib.hid (show okL (l.map Pf.q) = true → n ≤ 60 from fun h => by have := okL_len h; rw [List.length_map, ha.len] at this; exact this)
 obtain ⟨le, hle⟩ : ∃ s, lookE (l.map Pf.q) days = s := ⟨_, rfl⟩
 rw [hle] at HLE
 have HLQ := Lib.hid hle
 obtain ⟨ok, hok⟩ : ∃ s, okL (l.map Pf.q) = s := ⟨_, rfl⟩
 rw [hok] at HLE HN6 T
 clear ha hd hle hok
 cases ok with
 | false =>
  rw [show err false 21 = 21 from rfl] at T
  have HT := Lib.hid T
  have hl : le = 21 := HLE.out
  subst hl
  clear T
  go_enter Tryz.func73, Tryz.ntmps73
  go_wp2_with (go_at_call 48; (with_reducible refine (HT.out).mono ?_); rintro e V ⟨rfl, hg⟩; have GV := Lib.hid hg; clear hg)
  go_ret2
  exact lookEnd_no HLQ.out (by decide) GV.out
 | true =>
  rw [show err true 21 = 0 from rfl] at T
  have HT := Lib.hid T
  have hn60 := HN6.out rfl
  clear T
  go_enter Tryz.func73, Tryz.ntmps73
  go_wp2_with (go_at_call 48; (with_reducible refine (HT.out).mono ?_); rintro e V ⟨rfl, hg⟩; have GV := Lib.hid hg; clear hg)
  go_loopw [16] (fun i wr => ∃ k : Nat, k ≤ m ∧ i = .int .i64 k ∧ Below w.heap.size w wr ∧ ∀ j, j < k → badDay (days.getD j 0) = false) (fun i _ => m - (intOf i).toNat)
  case atStart => exact ⟨0, Nat.zero_le _, rfl, GV.out, fun j hj => absurd hj (by omega)⟩
  case round =>
   obtain ⟨k, hk, rfl, hg, hall⟩ := hrel
   have HG := Lib.hid hg
   have HALL := Lib.hid hall
   clear hall
   have hwr2 : wrap64 ((k : Int) + 1) = (k : Int) + 1 := wrap_in (by omega)
   by_cases hkm : k < m
   ·obtain ⟨b, o, rfl, -, hmem, hc⟩ := ints_at (HD.out.below hg) hkm
    have d0 := hc wr (Below.refl _ _)
    obtain ⟨x, hx⟩ : ∃ x, days.getD k 0 = x := ⟨_, rfl⟩
    rw [hx] at d0 hmem
    have HX := Lib.hid hx
    have HM := Lib.hid hmem
    have TD := isDay_any x
    obtain ⟨dy, hdy⟩ : ∃ s, rng x 0 4166 = s := ⟨_, rfl⟩
    rw [hdy] at TD
    have HTD := Lib.hid TD
    have HDY := Lib.hid (show badDay x = !dy by unfold badDay; rw [hdy])
    clear hc hx hmem TD hdy hg
    cases dy with
    | false =>
     have hl : le = 6 := by
      have := HLE.out
      rw [if_pos (by trivial), if_pos (List.any_eq_true.2 ⟨x, List.mem_of_getElem? HM.out, HDY.out⟩)] at this
      exact this
     subst hl
     go_wp2_with (go_at_call 123; (with_reducible refine (HTD.out _).mono ?_); rintro e w' ⟨rfl, rfl⟩)
     go_ret2
     exact lookEnd_no HLQ.out (by decide) HG.out
    | true =>
     go_wp2_with (go_at_call 123; (with_reducible refine (HTD.out _).mono ?_); rintro e w' ⟨rfl, rfl⟩)
     go_roundw
     case rel => exact ⟨k + 1, by omega, by go_num, HG.out, fun j hj => by
      by_cases e : j = k
      ·subst e; rw [HX.out]; exact HDY.out
      ·exact HALL.out j (by omega)⟩
     case measure => simp [intOf]; omega
   ·obtain rfl : k = m := by omega
    have hl : le = 0 := by
     have := HLE.out
     rw [if_pos (by trivial), if_neg (by
      intro h
      obtain ⟨x, hx, hb⟩ := List.any_eq_true.1 h
      obtain ⟨j, hj, rfl⟩ := List.mem_iff_getElem.1 hx
      have h2 := HALL.out j (by rw [← hdl.out]; exact hj)
      rw [List.getD_eq_getElem?_getD, List.getElem?_eq_getElem hj] at h2
      have h3 : badDay days[j] = false := h2
      rw [h3] at hb
      exact absurd hb (by decide))] at this
     exact this
    subst hl
    obtain ⟨b, o, rfl, -, -, hc⟩ := ints_at (HD.out.below hg) (show k - 1 < k by omega)
    have d0 := hc wr (Below.refl _ _)
    have HDL := Lib.hid (show days.getD (days.length - 1) 0 = days.getD (k - 1) 0 by rw [hdl.out])
    obtain ⟨x, hx⟩ : ∃ x, days.getD (k - 1) 0 = x := ⟨_, rfl⟩
    rw [hx] at d0 HDL
    have hwm : wrap64 ((k : Int) - 1) = ((k - 1 : Nat) : Int) := by rw [wrap_in (by omega)]; omega
    have hlt : ((k - 1 : Nat) : Int) < (k : Int) := by omega
    have TC := Lib.hid (counting_any A n c l x wr (HA.out.below hg) (by omega))
    clear hc hx hg hwr2
    go_wp2_with (go_at_call 124; (with_reducible refine (TC.out).mono ?_); rintro e V2 ⟨⟨v, rfl, ho⟩, hg⟩; have HO := Lib.hid ho; have G2 := Lib.hid (HG.out.trans (hg.mono HG.out.size)); clear ho hg)
    go_ret2
    exact lookEnd_ok HLQ.out HDL.out (HO.out.mono HG.out.size) G2.out
set_option maxRecDepth 100000 in
set_option maxHeartbeats 8000000 in
theorem countingF_any (A : Option Addr) (n c : Nat) (l : List Pf) (d : Int) (w : World) (ha : Prf w A n l) (hn : n ≤ 9223372036854775807) :
  Calls Tryz.prog 46 #[.slice A n c, .int .i64 d] w (CntEnd (l.map Pf.q) d w) := by
 obtain ⟨W1, hW1⟩ : ∃ W1, w.alloc (.cells #[.int .i64 d] 3) = W1 := ⟨_, rfl⟩
 have g1 : Below w.heap.size w W1 := by rw [← hW1]; exact one_more _ _
 have b1 : Blk W1 w.heap.size 3 #[.int .i64 d] := by rw [← hW1]; exact Blk.new _ _ _
 have T := look_any A n c l (some ⟨w.heap.size, 0, none⟩) 1 1 [d] W1 (ha.below g1) hn (one_int b1) (by decide) (by decide)
 unfold LookEnd at T
 rw [show ([d] : List Int).getD (([d] : List Int).length - 1) 0 = d from rfl] at T
 have HN6 := Lib.hid (show lookE (l.map Pf.q) [d] = 0 → n ≤ 60 from fun h => by
  unfold lookE at h
  by_cases ho : okL (l.map Pf.q) = true
  ·have := okL_len ho; rw [List.length_map, ha.len] at this; exact this
  ·rw [if_neg ho] at h; exact absurd h (by decide))
 have HFL := Lib.hid (show (l.filter fun p => cnt p.q d).length ≤ n by rw [← ha.len]; exact List.length_filter_le _ _)
 have HPI := Lib.hid (fun (W : World) (g : Below w.heap.size w W) p (hp : p ∈ l.filter fun p => cnt p.q d) => (ha.p p (List.mem_filter.1 hp).1).below g)
 have HFM := Lib.hid (show (l.filter fun p => cnt p.q d).map Pf.q = cntL (l.map Pf.q) d from filt_map l (fun q => cnt q d))
 obtain ⟨le, hle⟩ : ∃ s, lookE (l.map Pf.q) [d] = s := ⟨_, rfl⟩
 rw [hle] at T HN6
 have HLQ := Lib.hid hle
 obtain ⟨fl, hfl⟩ : ∃ s, (l.filter fun p => cnt p.q d) = s := ⟨_, rfl⟩
 rw [hfl] at T HFL HPI HFM
 have HT := Lib.hid T
 have G1 := Lib.hid g1
 have HW1 := Lib.hid hW1
 clear T g1 b1 hW1 hle hfl ha
 by_cases hz : le = 0
 ·subst hz
  have hn60 := HN6.out rfl
  go_enter Tryz.func46, Tryz.ntmps46
  go_upto_region 2 with (go_at_call 73; rw [HW1.out]; (with_reducible refine (HT.out).mono ?_); rintro e V ⟨⟨v, rfl, ho, -⟩, hg⟩; have HO := Lib.hid (ho rfl); have GV := Lib.hid (G1.out.trans (hg.mono G1.out.size)); clear ho hg)
  obtain ⟨A2, c2, rfl, hc1, hc2, hpr⟩ := own_prf HO.out (HPI.out V GV.out)
  obtain ⟨fn, hfn⟩ : ∃ k, fl.length = k := ⟨_, rfl⟩
  rw [hfn] at hpr HFL ⊢
  have TS := Lib.hid (sources_any A2 fn c2 fl V hpr (by have := HFL.out; omega))
  clear hfn hpr hc1 hc2
  go_wp2_with (go_at_call 102; (with_reducible refine (TS.out).mono ?_); rintro e V2 ⟨⟨v2, rfl, ho⟩, hg⟩; obtain ⟨A3, c3, e3, -, -, hi3, -⟩ := OwnL.arr kdI ho; obtain ⟨k3, hk3⟩ : ∃ k, (srcL (fl.map Pf.q)).length = k := ⟨_, rfl⟩; rw [hk3] at e3 hi3; subst e3; have HI := Lib.hid hi3; have G2 := Lib.hid (GV.out.trans (hg.mono GV.out.size)); clear ho hg hi3 hk3)
  go_ret2
  exact cntEnd_ok HLQ.out (by rw [← HFM.out]; exact HI.out) G2.out
 ·have hzb : (le != 0) = true := by simpa using hz
  have HZ := Lib.hid hz
  clear hz
  go_enter Tryz.func46, Tryz.ntmps46
  go_wp2_with (go_at_call 73; rw [HW1.out]; (with_reducible refine (HT.out).mono ?_); rintro e V ⟨⟨v, rfl, -, ho⟩, hg⟩; have GV := Lib.hid (G1.out.trans (hg.mono G1.out.size)); clear ho hg)
  go_ret2
  exact cntEnd_no HLQ.out HZ.out GV.out
end Go.Proofs.YtehhlgdkhecacaaGreat

namespace Go.Proofs.YtehhlgdkhecacaaGreat
open Go.RowKit Go.Shelf Go.Maps
def MapAt (w : World) (b : Nat) (es : Array MapEntry) (clock : Nat) : Prop := w.heap[b]? = some (.map es clock)
theorem MapAt.lt {w : World} {b : Nat} {es : Array MapEntry} {clock : Nat} (h : MapAt w b es clock) : b < w.heap.size := (Array.getElem?_eq_some_iff.1 h).1
theorem MapAt.ext {w w' : World} {b : Nat} {es : Array MapEntry} {clock : Nat} (h : MapAt w b es clock) (g : Below w.heap.size w w') : MapAt w' b es clock := (g.block b h.lt).trans h
theorem findNow_new {k : Int} {d : TypeDesc} (hd : ∃ x, d = .int x) : ∀ (es : List MapEntry) (i : Nat), (∀ e ∈ es, ∃ j, e.key = .int .i64 j ∧ j ≠ k) → Instr.findNow d (.int .i64 k) es i = some none
 | [], _, _ => rfl
 | e :: es, i, h => by
  obtain ⟨x, rfl⟩ := hd
  obtain ⟨j, hj, hne⟩ := h e (by simp)
  have e2 : (k == j) = false := by simpa using fun e => hne e.symm
  unfold Instr.findNow
  rw [hj]
  simp only [Instr.sameNow, if_true, e2]
  exact findNow_new ⟨x, rfl⟩ es (i + 1) fun e' he' => h e' (List.mem_cons_of_mem _ he')
theorem run_upd {w : World} {b : Nat} {es : Array MapEntry} {clock : Nat} (hb : MapAt w b es clock) (k : Int) (v : Value) (hk : ∀ e ∈ es.toList, ∃ j, e.key = .int .i64 j ∧ j ≠ k) :
  (Instr.mapUpdate 172 (.map (some b)) (.int .i64 k) v).run Tryz.prog w = .ok () (w.putObj b (.map (es.push ⟨.int .i64 k, v, clock⟩) (clock + 1))) := by
 have hd := Tryz.underlying3
 have h1 := MapKept.run_checkKey (w := w) (k := .int .i64 k) hd rfl
 have h2 := MapKept.run_findKey (w := w) (k := .int .i64 k) hd (findNow_new ⟨_, rfl⟩ es.toList 0 hk)
 simp [Instr.mapUpdate, run_underlying Tryz.underlying172, MapKept.run_getObj_map hb, h1, h2, MapKept.run_setObj_map _ hb, Result.andThen, World.putObj]
/-- The rule of a kind. -/
def ruleV (k : Int) : Value × Bool := if k = 1 then (.func (.func 185) #[] #[], true) else if k = 3 then (.func (.func 186) #[] #[], true) else if k = 5 then (.func (.func 186) #[] #[], true) else if k = 8 then (.func (.func 187) #[] #[], true) else (.nilFunc, false)
def ruleEs : Array MapEntry := #[⟨.int .i64 1, .func (.func 185) #[] #[], 0⟩, ⟨.int .i64 3, .func (.func 186) #[] #[], 1⟩, ⟨.int .i64 5, .func (.func 186) #[] #[], 2⟩, ⟨.int .i64 8, .func (.func 187) #[] #[], 3⟩]
theorem run_rule {w : World} {b : Nat} {clock : Nat} (hb : MapAt w b ruleEs clock) (k : Int) :
  (Instr.lookup 172 (.map (some b)) (.int .i64 k) true).run Tryz.prog w = .ok (.tuple #[(ruleV k).1, .bool (ruleV k).2]) w := by
 have hd := Tryz.underlying3
 have h1 := MapKept.run_checkKey (w := w) (k := .int .i64 k) hd rfl
 have hf : ∀ d, (∃ x, d = TypeDesc.int x) → Instr.findNow d (.int .i64 k) ruleEs.toList 0 = some (if k = 1 then some (0, .func (.func 185) #[] #[]) else if k = 3 then some (1, .func (.func 186) #[] #[]) else if k = 5 then some (2, .func (.func 186) #[] #[]) else if k = 8 then some (3, .func (.func 187) #[] #[]) else none) := by
  rintro d ⟨x, rfl⟩
  unfold ruleEs
  by_cases e1 : k = 1
  ·subst e1; rfl
  ·by_cases e3 : k = 3
   ·subst e3; rfl
   ·by_cases e5 : k = 5
    ·subst e5; rfl
    ·by_cases e8 : k = 8
     ·subst e8; rfl
     ·rw [if_neg e1, if_neg e3, if_neg e5, if_neg e8]
      refine findNow_new ⟨x, rfl⟩ _ 0 fun e he => ?_
      simp only [List.mem_cons, List.not_mem_nil, or_false] at he
      rcases he with rfl | rfl | rfl | rfl
      ·exact ⟨1, rfl, fun e => e1 e.symm⟩
      ·exact ⟨3, rfl, fun e => e3 e.symm⟩
      ·exact ⟨5, rfl, fun e => e5 e.symm⟩
      ·exact ⟨8, rfl, fun e => e8 e.symm⟩
 have h2 := MapKept.run_findKey (w := w) (k := .int .i64 k) hd (hf _ ⟨_, rfl⟩)
 unfold ruleV
 by_cases e1 : k = 1
 ·subst e1
  simp [Instr.lookup, run_underlying Tryz.underlying172, MapKept.run_getObj_map hb, h1, h2, Result.andThen]
 ·by_cases e3 : k = 3
  ·subst e3
   simp [Instr.lookup, run_underlying Tryz.underlying172, MapKept.run_getObj_map hb, h1, h2, Result.andThen]
  ·by_cases e5 : k = 5
   ·subst e5
    simp [Instr.lookup, run_underlying Tryz.underlying172, MapKept.run_getObj_map hb, h1, h2, Result.andThen]
   ·by_cases e8 : k = 8
    ·subst e8
     simp [Instr.lookup, run_underlying Tryz.underlying172, MapKept.run_getObj_map hb, h1, h2, Result.andThen]
    ·simp [Instr.lookup, run_underlying Tryz.underlying172, MapKept.run_getObj_map hb, h1, h2, Result.andThen, e1, e3, e5, e8, Tryz.zeroValue174]
set_option maxRecDepth 100000 in
theorem serves_any (p : Pf) (w : World) : Calls Tryz.prog 192 #[pv p] w fun e w' => e = .returned (.bool (servB p.q)) ∧ Below w.heap.size w w' := by
 unfold servB
 obtain ⟨W1, hW1⟩ : ∃ X, w.alloc (.cells #[.int .i64 p.q.src, .int .i64 p.q.kind, .slice p.A p.n p.c, .int .i64 p.q.oth, .int .i64 p.q.par, .int .i64 p.q.day, .int .i64 p.q.thr, .int .i64 p.q.kno, .int .i64 p.q.unt] 176) = X := ⟨_, rfl⟩
 have GW1 := Lib.hid (show Below w.heap.size w W1 by rw [← hW1]; exact one_more _ _)
 have BW1 := Lib.hid (show Blk W1 w.heap.size 176 #[.int .i64 p.q.src, .int .i64 p.q.kind, .slice p.A p.n p.c, .int .i64 p.q.oth, .int .i64 p.q.par, .int .i64 p.q.day, .int .i64 p.q.thr, .int .i64 p.q.kno, .int .i64 p.q.unt] by rw [← hW1]; exact Blk.new _ _ _)
 have HW1 := Lib.hid hW1
 clear hW1
 have d1 := BW1.out.cell 1
 by_cases h3 : p.q.kind = 3
 ·have e3 : (p.q.kind == 3) = true := by simpa using h3
  rw [decide_eq_true h3]
  clear h3
  go_enter Tryz.func192, Tryz.ntmps192
  go_upto_region 1 with fail
  rw [HW1.out]
  go_wp2_with fail
  go_ret
  exact ⟨rfl, GW1.out⟩
 ·have e3 : (p.q.kind == 3) = false := by simpa using h3
  rw [decide_eq_false h3]
  clear h3
  go_enter Tryz.func192, Tryz.ntmps192
  go_upto_region 1 with fail
  rw [HW1.out]
  go_wp2_with fail
  go_ret
  refine ⟨?_, GW1.out⟩
  first | rfl | (simp; done)
set_option maxRecDepth 100000 in
theorem birth_any (x y : Pf) (w : World) : Calls Tryz.prog 185 #[pv x, pv y] w fun e w' => e = .returned (.bool (birthB x.q y.q)) ∧ Below w.heap.size w w' := by
 unfold birthB
 obtain ⟨W1, hW1⟩ : ∃ X, (w.alloc (.cells #[.int .i64 x.q.src, .int .i64 x.q.kind, .slice x.A x.n x.c, .int .i64 x.q.oth, .int .i64 x.q.par, .int .i64 x.q.day, .int .i64 x.q.thr, .int .i64 x.q.kno, .int .i64 x.q.unt] 176)).alloc (.cells #[.int .i64 y.q.src, .int .i64 y.q.kind, .slice y.A y.n y.c, .int .i64 y.q.oth, .int .i64 y.q.par, .int .i64 y.q.day, .int .i64 y.q.thr, .int .i64 y.q.kno, .int .i64 y.q.unt] 176) = X := ⟨_, rfl⟩
 have G1 := Lib.hid (show Below w.heap.size w W1 by rw [← hW1]; exact two_more _ _ _)
 have BX := Lib.hid (show Blk W1 w.heap.size 176 #[.int .i64 x.q.src, .int .i64 x.q.kind, .slice x.A x.n x.c, .int .i64 x.q.oth, .int .i64 x.q.par, .int .i64 x.q.day, .int .i64 x.q.thr, .int .i64 x.q.kno, .int .i64 x.q.unt] by rw [← hW1]; exact (Blk.new _ _ _).alloc _)
 have BY := Lib.hid (show Blk W1 (w.heap.size + 1) 176 #[.int .i64 y.q.src, .int .i64 y.q.kind, .slice y.A y.n y.c, .int .i64 y.q.oth, .int .i64 y.q.par, .int .i64 y.q.day, .int .i64 y.q.thr, .int .i64 y.q.kno, .int .i64 y.q.unt] by
  rw [← hW1]
  have := Blk.new (w.alloc (.cells #[.int .i64 x.q.src, .int .i64 x.q.kind, .slice x.A x.n x.c, .int .i64 x.q.oth, .int .i64 x.q.par, .int .i64 x.q.day, .int .i64 x.q.thr, .int .i64 x.q.kno, .int .i64 x.q.unt] 176)) 176 #[.int .i64 y.q.src, .int .i64 y.q.kind, .slice y.A y.n y.c, .int .i64 y.q.oth, .int .i64 y.q.par, .int .i64 y.q.day, .int .i64 y.q.thr, .int .i64 y.q.kno, .int .i64 y.q.unt]
  rwa [World.size_alloc] at this)
 have HW1 := Lib.hid hW1
 clear hW1
 have d5 := BX.out.cell 5
 have e1 := BY.out.cell 1
 have e5 := BY.out.cell 5
 by_cases h1 : y.q.kind = 1
 ·have e7 : (y.q.kind == 1) = true := by simpa using h1
  rw [decide_eq_true h1]
  clear h1
  go_enter Tryz.func185, Tryz.ntmps185
  go_upto_region 1 with fail
  rw [HW1.out]
  go_wp2_with fail
  go_ret
  exact ⟨rfl, G1.out⟩
 ·have e7 : (y.q.kind == 1) = false := by simpa using h1
  rw [decide_eq_false h1]
  clear h1
  go_enter Tryz.func185, Tryz.ntmps185
  go_upto_region 1 with fail
  rw [HW1.out]
  go_wp2_with fail
  go_ret
  refine ⟨?_, G1.out⟩
  first | rfl | (simp; done)
set_option maxRecDepth 100000 in
set_option maxHeartbeats 2000000 in
theorem service_any (x y : Pf) (w : World) : Calls Tryz.prog 186 #[pv x, pv y] w fun e w' => e = .returned (.bool (servicB x.q y.q)) ∧ Below w.heap.size w w' := by
 unfold servicB
 obtain ⟨W1, hW1⟩ : ∃ X, (w.alloc (.cells #[.int .i64 x.q.src, .int .i64 x.q.kind, .slice x.A x.n x.c, .int .i64 x.q.oth, .int .i64 x.q.par, .int .i64 x.q.day, .int .i64 x.q.thr, .int .i64 x.q.kno, .int .i64 x.q.unt] 176)).alloc (.cells #[.int .i64 y.q.src, .int .i64 y.q.kind, .slice y.A y.n y.c, .int .i64 y.q.oth, .int .i64 y.q.par, .int .i64 y.q.day, .int .i64 y.q.thr, .int .i64 y.q.kno, .int .i64 y.q.unt] 176) = X := ⟨_, rfl⟩
 have G1 := Lib.hid (show Below w.heap.size w W1 by rw [← hW1]; exact two_more _ _ _)
 have BX := Lib.hid (show Blk W1 w.heap.size 176 #[.int .i64 x.q.src, .int .i64 x.q.kind, .slice x.A x.n x.c, .int .i64 x.q.oth, .int .i64 x.q.par, .int .i64 x.q.day, .int .i64 x.q.thr, .int .i64 x.q.kno, .int .i64 x.q.unt] by rw [← hW1]; exact (Blk.new _ _ _).alloc _)
 have BY := Lib.hid (show Blk W1 (w.heap.size + 1) 176 #[.int .i64 y.q.src, .int .i64 y.q.kind, .slice y.A y.n y.c, .int .i64 y.q.oth, .int .i64 y.q.par, .int .i64 y.q.day, .int .i64 y.q.thr, .int .i64 y.q.kno, .int .i64 y.q.unt] by
  rw [← hW1]
  have := Blk.new (w.alloc (.cells #[.int .i64 x.q.src, .int .i64 x.q.kind, .slice x.A x.n x.c, .int .i64 x.q.oth, .int .i64 x.q.par, .int .i64 x.q.day, .int .i64 x.q.thr, .int .i64 x.q.kno, .int .i64 x.q.unt] 176)) 176 #[.int .i64 y.q.src, .int .i64 y.q.kind, .slice y.A y.n y.c, .int .i64 y.q.oth, .int .i64 y.q.par, .int .i64 y.q.day, .int .i64 y.q.thr, .int .i64 y.q.kno, .int .i64 y.q.unt]
  rwa [World.size_alloc] at this)
 have HW1 := Lib.hid hW1
 clear hW1
 have T := serves_any y W1
 generalize servB y.q = sb at T ⊢
 have HT := Lib.hid T
 clear T
 have d0 := BX.out.cell 0
 have d1 := BX.out.cell 1
 have d2 := BX.out.cell 2
 have d3 := BX.out.cell 3
 have d4 := BX.out.cell 4
 have d5 := BX.out.cell 5
 have d6 := BX.out.cell 6
 have d7 := BX.out.cell 7
 have d8 := BX.out.cell 8
 have e0 := BY.out.cell 0
 have e1 := BY.out.cell 1
 have e2 := BY.out.cell 2
 have e3 := BY.out.cell 3
 have e4 := BY.out.cell 4
 have e5 := BY.out.cell 5
 have e6 := BY.out.cell 6
 have e7 := BY.out.cell 7
 have e8 := BY.out.cell 8
 go_enter Tryz.func186, Tryz.ntmps186
 go_upto_region 1 with fail
 rw [HW1.out]
 cases sb with
 | false =>
  go_wp2_with (go_at_call 192; (with_reducible refine (HT.out).mono ?_); rintro e V ⟨rfl, hg⟩; have G2 := Lib.hid (G1.out.trans (hg.mono G1.out.size)); clear hg)
  go_ret
  exact ⟨by simp, G2.out⟩
 | true =>
  by_cases h1 : x.q.day ≤ y.q.thr
  ·have hd1 := decide_eq_true h1
   have H1 := Lib.hid h1
   clear h1
   go_wp2_with (go_at_call 192; (with_reducible refine (HT.out).mono ?_); rintro e V ⟨rfl, hg⟩; have G2 := Lib.hid (G1.out.trans (hg.mono G1.out.size)); have BXV := Lib.hid (BX.out.ext hg); have BYV := Lib.hid (BY.out.ext hg); clear hg d0 d1 d2 d3 d4 d5 d6 d7 d8 e0 e1 e2 e3 e4 e5 e6 e7 e8; have d5 := BXV.out.cell 5; have d6 := BXV.out.cell 6; have e5 := BYV.out.cell 5; have e6 := BYV.out.cell 6)
   go_ret
   refine ⟨?_, G2.out⟩
   rw [hd1]
   first | rfl | (simp; done)
  ·have hd1 := decide_eq_false h1
   have H1 := Lib.hid h1
   clear h1
   go_wp2_with (go_at_call 192; (with_reducible refine (HT.out).mono ?_); rintro e V ⟨rfl, hg⟩; have G2 := Lib.hid (G1.out.trans (hg.mono G1.out.size)); have BXV := Lib.hid (BX.out.ext hg); have BYV := Lib.hid (BY.out.ext hg); clear hg d0 d1 d2 d3 d4 d5 d6 d7 d8 e0 e1 e2 e3 e4 e5 e6 e7 e8; have d5 := BXV.out.cell 5; have d6 := BXV.out.cell 6; have e5 := BYV.out.cell 5; have e6 := BYV.out.cell 6)
   go_ret
   refine ⟨?_, G2.out⟩
   rw [hd1]
   first | rfl | (simp; done)
set_option maxRecDepth 100000 in
set_option maxHeartbeats 2000000 in
theorem examined_any (x y : Pf) (w : World) : Calls Tryz.prog 187 #[pv x, pv y] w fun e w' => e = .returned (.bool (examB x.q y.q)) ∧ Below w.heap.size w w' := by
 unfold examB
 obtain ⟨W1, hW1⟩ : ∃ X, (w.alloc (.cells #[.int .i64 x.q.src, .int .i64 x.q.kind, .slice x.A x.n x.c, .int .i64 x.q.oth, .int .i64 x.q.par, .int .i64 x.q.day, .int .i64 x.q.thr, .int .i64 x.q.kno, .int .i64 x.q.unt] 176)).alloc (.cells #[.int .i64 y.q.src, .int .i64 y.q.kind, .slice y.A y.n y.c, .int .i64 y.q.oth, .int .i64 y.q.par, .int .i64 y.q.day, .int .i64 y.q.thr, .int .i64 y.q.kno, .int .i64 y.q.unt] 176) = X := ⟨_, rfl⟩
 have G1 := Lib.hid (show Below w.heap.size w W1 by rw [← hW1]; exact two_more _ _ _)
 have BX := Lib.hid (show Blk W1 w.heap.size 176 #[.int .i64 x.q.src, .int .i64 x.q.kind, .slice x.A x.n x.c, .int .i64 x.q.oth, .int .i64 x.q.par, .int .i64 x.q.day, .int .i64 x.q.thr, .int .i64 x.q.kno, .int .i64 x.q.unt] by rw [← hW1]; exact (Blk.new _ _ _).alloc _)
 have BY := Lib.hid (show Blk W1 (w.heap.size + 1) 176 #[.int .i64 y.q.src, .int .i64 y.q.kind, .slice y.A y.n y.c, .int .i64 y.q.oth, .int .i64 y.q.par, .int .i64 y.q.day, .int .i64 y.q.thr, .int .i64 y.q.kno, .int .i64 y.q.unt] by
  rw [← hW1]
  have := Blk.new (w.alloc (.cells #[.int .i64 x.q.src, .int .i64 x.q.kind, .slice x.A x.n x.c, .int .i64 x.q.oth, .int .i64 x.q.par, .int .i64 x.q.day, .int .i64 x.q.thr, .int .i64 x.q.kno, .int .i64 x.q.unt] 176)) 176 #[.int .i64 y.q.src, .int .i64 y.q.kind, .slice y.A y.n y.c, .int .i64 y.q.oth, .int .i64 y.q.par, .int .i64 y.q.day, .int .i64 y.q.thr, .int .i64 y.q.kno, .int .i64 y.q.unt]
  rwa [World.size_alloc] at this)
 have HW1 := Lib.hid hW1
 clear hW1
 have T := serves_any y W1
 generalize servB y.q = sb at T ⊢
 have HT := Lib.hid T
 have TW := within_any x.q.day y.q.day y.q.thr
 generalize rng x.q.day y.q.day y.q.thr = rb at TW ⊢
 have HTW := Lib.hid TW
 clear T TW
 have d0 := BX.out.cell 0
 have d1 := BX.out.cell 1
 have d2 := BX.out.cell 2
 have d3 := BX.out.cell 3
 have d4 := BX.out.cell 4
 have d5 := BX.out.cell 5
 have d6 := BX.out.cell 6
 have d7 := BX.out.cell 7
 have d8 := BX.out.cell 8
 have e0 := BY.out.cell 0
 have e1 := BY.out.cell 1
 have e2 := BY.out.cell 2
 have e3 := BY.out.cell 3
 have e4 := BY.out.cell 4
 have e5 := BY.out.cell 5
 have e6 := BY.out.cell 6
 have e7 := BY.out.cell 7
 have e8 := BY.out.cell 8
 go_enter Tryz.func187, Tryz.ntmps187
 go_upto_region 1 with fail
 rw [HW1.out]
 cases sb with
 | false =>
  go_wp2_with (go_at_call 192; (with_reducible refine (HT.out).mono ?_); rintro e V ⟨rfl, hg⟩; have G2 := Lib.hid (G1.out.trans (hg.mono G1.out.size)); clear hg)
  go_ret
  exact ⟨by simp, G2.out⟩
 | true =>
  by_cases h1 : y.q.par = x.q.par
  ·have hn1 : (y.q.par != x.q.par) = false := by simpa using h1
   have hd1 := decide_eq_false (not_not_intro h1)
   have H1 := Lib.hid h1
   clear h1
   go_wp2_with (first | (go_at_call 192; (with_reducible refine (HT.out).mono ?_); rintro e V ⟨rfl, hg⟩; have G2 := Lib.hid (G1.out.trans (hg.mono G1.out.size)); have BXV := Lib.hid (BX.out.ext hg); have BYV := Lib.hid (BY.out.ext hg); clear hg d0 d1 d2 d3 d4 d5 d6 d7 d8 e0 e1 e2 e3 e4 e5 e6 e7 e8; have d4 := BXV.out.cell 4; have e4 := BYV.out.cell 4; have d5 := BXV.out.cell 5; have e5 := BYV.out.cell 5; have e6 := BYV.out.cell 6) | (go_at_call 143; (with_reducible refine (HTW.out _).mono ?_); rintro e w' ⟨rfl, rfl⟩))
   go_ret
   refine ⟨?_, G2.out⟩
   rw [hd1]
   first | rfl | (simp; done)
  ·have hn1 : (y.q.par != x.q.par) = true := by simpa using h1
   have hd1 := decide_eq_true h1
   have H1 := Lib.hid h1
   clear h1
   go_wp2_with (first | (go_at_call 192; (with_reducible refine (HT.out).mono ?_); rintro e V ⟨rfl, hg⟩; have G2 := Lib.hid (G1.out.trans (hg.mono G1.out.size)); have BXV := Lib.hid (BX.out.ext hg); have BYV := Lib.hid (BY.out.ext hg); clear hg d0 d1 d2 d3 d4 d5 d6 d7 d8 e0 e1 e2 e3 e4 e5 e6 e7 e8; have d4 := BXV.out.cell 4; have e4 := BYV.out.cell 4; have d5 := BXV.out.cell 5; have e5 := BYV.out.cell 5; have e6 := BYV.out.cell 6) | (go_at_call 143; (with_reducible refine (HTW.out _).mono ?_); rintro e w' ⟨rfl, rfl⟩))
   go_ret
   refine ⟨?_, G2.out⟩
   rw [show decide (y.q.par ≠ x.q.par) = true from hd1]
   first | rfl | (simp; done)
end Go.Proofs.YtehhlgdkhecacaaGreat

namespace Go.Proofs.YtehhlgdkhecacaaGreat
/-- What describes a proof. -/
structure Ra where
 kind : Int
 per : Int
 ots : Int
 oth : Int
 par : Int
 day : Int
 long : Int
 kno : Int
 unt : Int
def r0 : Ra := ⟨0, 0, 0, 0, 0, 0, 0, 0, 0⟩
theorem putI_len (l : List Int) (n : Int) : (putI l n).length ≤ l.length + 1 := by
 unfold putI
 split
 ·omega
 ·rw [List.length_append, List.length_cons]
  have h : ∀ l : List Int, (l.filter (· < n)).length + (l.filter (n < ·)).length ≤ l.length := fun l => by
   induction l with
   | nil => simp
   | cons y l ih =>
    rw [List.filter_cons, List.filter_cons]
    by_cases h1 : y < n
    ·have h2 : ¬ n < y := by omega
     simp only [h1, h2, decide_true, decide_false, if_true, List.length_cons, Bool.false_eq_true, if_false]
     omega
    ·by_cases h2 : n < y
     ·simp only [h1, h2, decide_true, decide_false, if_true, List.length_cons, Bool.false_eq_true, if_false]
      omega
     ·simp only [h1, h2, decide_false, List.length_cons, Bool.false_eq_true, if_false]
      omega
  have := h l
  omega
end Go.Proofs.YtehhlgdkhecacaaGreat
