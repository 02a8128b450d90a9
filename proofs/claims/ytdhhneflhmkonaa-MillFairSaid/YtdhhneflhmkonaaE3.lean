/- The laws' ends: what an argument reads as; a law that returns true, and of whose memory Below is known. -/
import Derived.Test.YtdhhneflhmkonaaRows
import Derived.Test.YtdhhneflhmkonaaKE
import Derived.ProofKit
import Derived.Carry
import Derived.WideKeyArgs
import Derived.Below
import Derived.OpenShut
import Derived.Deep.Slices
namespace Go.Proofs.Ytdhhneflhmkonaa
open Go.ChangeShapes Go.WideShapes Go.ChangeAt Go.RowKit

theorem Try.own : ownKnob Try.prog.godebug = none := by kernel_rfl
theorem Try.laidOut : laidOutB Try.prog = true := by kernel_rfl

section
variable {H : Type} {enc : TypeId × Value → H} {P : Program}
/-- The arguments read behind the call as they read before. -/
theorem args_stay (hl : laidOutB P = true) {W W' : World} (hb : Below W.heap.size W W') {sp : Nat → Bool} :
    ∀ {ts : List TypeId} {vs : List Value} {ds : List (DataW H)} {ps : List MemPlace}, (ts.all fun t => P.readableRec t && decide (t < P.types.size)) = true → (∀ x ∈ ps, x.block < W.heap.size) → (∀ x ∈ ps, sp x.block = true) →
      DataW.TrodAll enc P W 0 (fun _ => true) true ts vs ds ps → DataW.TrodAll enc P W' 0 sp true ts vs ds ps
  | [], [], [], ps, _, _, _, h => h
  | t :: ts, v :: vs, d :: ds, ps, ht, hlt, hs, h => by
    obtain ⟨p, q, h1, h2, rfl⟩ := h
    simp only [List.all_cons, Bool.and_eq_true, decide_eq_true_eq] at ht
    exact ⟨p, q, WideElems.Trod_stays hl ht.1.1 ht.1.2 h1 (fun x hx => hb.same (hlt x (List.mem_append_left _ hx))) (fun x hx => hs x (List.mem_append_left _ hx)),
      args_stay hl hb ht.2 (fun x hx => hlt x (List.mem_append_right _ hx)) (fun x hx => hs x (List.mem_append_right _ hx)) h2, rfl⟩
  | [], [], _ :: _, _, _, _, _, h => h.elim
  | [], _ :: _, [], _, _, _, _, h => h.elim
  | [], _ :: _, _ :: _, _, _, _, _, h => h.elim
  | _ :: _, [], [], _, _, _, _, h => h.elim
  | _ :: _, [], _ :: _, _, _, _, _, h => h.elim
  | _ :: _, _ :: _, [], _, _, _, _, h => h.elim

/-- The end of a row: true came back; nothing that was there has turned. -/
theorem law_post {f : Func} {s : ChangeSpec} {apart fresh handsOn again : Bool} {W W' : World} {args : Array Value} {ds : List (DataW H)} {before : List MemPlace} (hl : laidOutB P = true)
    (hW : DataW.Whole enc P f.params.toList s.vars apart W args.toList ds [] before) (hA : DataW.TrodAll enc P W 0 (fun _ => true) true f.params.toList args.toList ds before) (hv : s.vars = [])
    (hrt : f.resultTypes = #[4]) (h4 : P.underlying 4 = some .bool) (hres : (s.fn H (ds ++ [])).results = [.lit (.bool true)]) (hargs : (s.fn H (ds ++ [])).args = ds) (hvars : (s.fn H (ds ++ [])).vars = [])
    (hp : (f.params.toList.all fun t => P.readableRec t && decide (t < P.types.size)) = true) (hb : Below W.heap.size W W') : s.post enc P f apart fresh handsOn again W args (.bool true) W' := by
  have hlt : ∀ p ∈ before, p.block < W.heap.size := fun p hp => hW.lt p hp
  have hA' : ∀ sp : Nat → Bool, (∀ p ∈ before, sp p.block = true) → DataW.TrodAll enc P W' 0 sp true f.params.toList args.toList (s.fn H (ds ++ [])).args before :=
    fun sp hsp => by rw [hargs]; exact args_stay hl hb hp hlt hsp hA
  have hV' : ∀ sp : Nat → Bool, DataW.TrodVars enc P W' sp s.vars (s.fn H (ds ++ [])).vars [] := fun sp => by rw [hv, hvars]; rfl
  have hR : ∀ (b : Nat) (sp : Nat → Bool) (hd : Bool), DataW.TrodAll enc P W' b sp hd f.resultTypes.toList ((Value.bool true).resultList f.resultTypes.size) (s.fn H (ds ++ [])).results [] := fun b sp hd => by
    rw [hres, hrt]; exact trodAll_mk1 (shut_bool h4 _)
  have hold : ∀ p ∈ before, (fun b => decide (b < W.heap.size)) p.block = true := fun p hp => by simpa using hlt p hp
  refine ⟨ds, [], before, [], before, [], hW, hR _ _ _, hA' _ hold, hV' _, World.keptBut_mono (fun p hp => ⟨hp, .inr (.inl hp)⟩) (hb.frame (· ∈ before)), fun _ => ?_⟩
  obtain ⟨_, _, _, _, _, hz, hn⟩ := hW
  refine ⟨?_, _, _, ([] ++ before) ++ [], ⟨[] ++ before, [], trodAll_append (hA' _ (fun _ _ => rfl)) (hR _ _ _), hV' _, rfl, ?_, ?_⟩, ?_⟩
  · intro j t r hj hr
    exact ok_one hrt rfl (okWide_bool_mk h4 _) j t r hj hr
  · intro b off hp
    have hin : MemPlace.cell b off ∈ before := by simpa using hp
    rw [hb.frozen (hlt _ hin)]
    exact hz b off hin
  · intro ha
    have := hn ha
    simpa using this
  · intro p hp _
    simpa using hp
end
def cornv (p q : Rng) (m n : Int) : Value := .agg #[.int .i64 p.lo, .int .i64 p.hi, .int .i64 q.lo, .int .i64 q.hi, .int .i64 m, .int .i64 n]
def arr6 (a b c d e f : Int) : Value := .agg #[.int .i64 a, .int .i64 b, .int .i64 c, .int .i64 d, .int .i64 e, .int .i64 f]
/-- A range that was kept. -/
def RF (W : World) (b : Nat) (r : Rng) : Prop := W.cell? ⟨b, 0, none⟩ = some (.int .i64 r.lo) ∧ W.cell? ⟨b, 1, none⟩ = some (.int .i64 r.hi)
theorem RF.ext {W W' : World} {b : Nat} {r : Rng} (h : RF W b r) (g : Below W.heap.size W W') : RF W' b r := ⟨keep g h.1, keep g h.2⟩
theorem RF.box (W : World) (r : Rng) : RF (W.alloc (.cells #[.int .i64 r.lo, .int .i64 r.hi] 36)) W.heap.size r := by constructor <;> simp [go_sem]



theorem cells3 : Try.prog.cellsOf 3 = 1 := by kernel_rfl
theorem cells36 : Try.prog.cellsOf 36 = 2 := by kernel_rfl
theorem cells38 : Try.prog.cellsOf 38 = 3 := by kernel_rfl
theorem cells40 : Try.prog.cellsOf 40 = 6 := by kernel_rfl
section
variable {H : Type} {enc : TypeId × Value → H} {w : World} {base : Nat} {sp : Nat → Bool} {held : Bool}
set_option maxRecDepth 100000 in
theorem open36 {fuel : Nat} {cs : List Value} {x : DataW H × List MemPlace} (h : DataW.trod enc Try.prog w base sp held fuel 36 cs = some x) : ∃ a b : Int, cs = [.int .i64 a, .int .i64 b] := by
  obtain ⟨xs, n, -, -, hl, hxl, hf⟩ := DataW.trod_struct Try.underlying36 h
  have h0 : DataW.trod enc Try.prog w base sp held n 3 ((cs.drop 0).take (Try.prog.cellsOf 3)) = xs[0]? := hf 0 _ rfl
  have h1 : DataW.trod enc Try.prog w base sp held n 3 ((cs.drop 1).take (Try.prog.cellsOf 3)) = xs[1]? := hf 1 _ rfl
  rw [cells3] at h0 h1
  rw [cells36] at hl
  have hxl' : xs.length = 2 := hxl
  match cs, hl with
  | [c0, c1], _ =>
    obtain ⟨a, ha, -, -⟩ := DataW.trod_int Try.underlying3 (h0.trans (List.getElem?_eq_getElem (by omega)))
    obtain ⟨b, hb, -, -⟩ := DataW.trod_int Try.underlying3 (h1.trans (List.getElem?_eq_getElem (by omega)))
    simp at ha hb
    exact ⟨a, b, by rw [ha, hb]⟩
set_option maxRecDepth 100000 in
theorem openYield {r : Reach} {b0 : Nat} {v : Value} {d : DataW H} {p : List MemPlace} (hv : Value.okWide Try.prog w r b0 38 v) (h : DataW.Trod enc Try.prog w base sp held 38 v d p) : ∃ y : Yield, v = yv y := by
  obtain ⟨cs, rfl, hsz⟩ := okWide_struct Try.underlying38 hv
  obtain ⟨fuel, hf⟩ := h
  rw [cells38] at hsz
  obtain ⟨c0, c1, c2, rfl⟩ : ∃ c0 c1 c2, cs = #[c0, c1, c2] := by
    obtain ⟨l⟩ := cs
    match l, hsz with
    | [c0, c1, c2], _ => exact ⟨c0, c1, c2, rfl⟩
  obtain ⟨xs, n, -, -, hl, hxl, hf⟩ := DataW.trod_struct Try.underlying38 hf
  have hxl' : xs.length = 2 := hxl
  have h0 : DataW.trod enc Try.prog w base sp held n 36 (((Value.agg #[c0, c1, c2]).cells.toList.drop 0).take (Try.prog.cellsOf 36)) = xs[0]? := hf 0 _ rfl
  have h1 : DataW.trod enc Try.prog w base sp held n 3 (((Value.agg #[c0, c1, c2]).cells.toList.drop 2).take (Try.prog.cellsOf 3)) = xs[1]? := hf 1 _ rfl
  rw [cells36] at h0
  rw [cells3] at h1
  obtain ⟨a, b, hab⟩ := open36 (h0.trans (List.getElem?_eq_getElem (by omega)))
  obtain ⟨c, hc, -, -⟩ := DataW.trod_int Try.underlying3 (h1.trans (List.getElem?_eq_getElem (by omega)))
  simp [Value.cells] at hab hc
  obtain ⟨rfl, rfl⟩ := hab
  subst hc
  exact ⟨⟨a, b, c⟩, rfl⟩
set_option maxRecDepth 100000 in
theorem openCorn {r : Reach} {b0 : Nat} {v : Value} {d : DataW H} {p : List MemPlace} (hv : Value.okWide Try.prog w r b0 40 v) (h : DataW.Trod enc Try.prog w base sp held 40 v d p) : ∃ (p q : Rng) (m n : Int), v = cornv p q m n := by
  obtain ⟨cs, rfl, hsz⟩ := okWide_struct Try.underlying40 hv
  obtain ⟨fuel, hf⟩ := h
  rw [cells40] at hsz
  obtain ⟨c0, c1, c2, c3, c4, c5, rfl⟩ : ∃ c0 c1 c2 c3 c4 c5, cs = #[c0, c1, c2, c3, c4, c5] := by
    obtain ⟨l⟩ := cs
    match l, hsz with
    | [c0, c1, c2, c3, c4, c5], _ => exact ⟨c0, c1, c2, c3, c4, c5, rfl⟩
  obtain ⟨xs, n, -, -, hl, hxl, hf⟩ := DataW.trod_struct Try.underlying40 hf
  have hxl' : xs.length = 4 := hxl
  have h0 : DataW.trod enc Try.prog w base sp held n 36 (((Value.agg #[c0, c1, c2, c3, c4, c5]).cells.toList.drop 0).take (Try.prog.cellsOf 36)) = xs[0]? := hf 0 _ rfl
  have h1 : DataW.trod enc Try.prog w base sp held n 36 (((Value.agg #[c0, c1, c2, c3, c4, c5]).cells.toList.drop 2).take (Try.prog.cellsOf 36)) = xs[1]? := hf 1 _ rfl
  have h2 : DataW.trod enc Try.prog w base sp held n 3 (((Value.agg #[c0, c1, c2, c3, c4, c5]).cells.toList.drop 4).take (Try.prog.cellsOf 3)) = xs[2]? := hf 2 _ rfl
  have h3 : DataW.trod enc Try.prog w base sp held n 3 (((Value.agg #[c0, c1, c2, c3, c4, c5]).cells.toList.drop 5).take (Try.prog.cellsOf 3)) = xs[3]? := hf 3 _ rfl
  rw [cells36] at h0 h1
  rw [cells3] at h2 h3
  obtain ⟨a, b, hab⟩ := open36 (h0.trans (List.getElem?_eq_getElem (by omega)))
  obtain ⟨a', b', hab'⟩ := open36 (h1.trans (List.getElem?_eq_getElem (by omega)))
  obtain ⟨c, hc, -, -⟩ := DataW.trod_int Try.underlying3 (h2.trans (List.getElem?_eq_getElem (by omega)))
  obtain ⟨c', hc', -, -⟩ := DataW.trod_int Try.underlying3 (h3.trans (List.getElem?_eq_getElem (by omega)))
  simp [Value.cells] at hab hab' hc hc'
  obtain ⟨rfl, rfl⟩ := hab
  obtain ⟨rfl, rfl⟩ := hab'
  subst hc hc'
  exact ⟨⟨a, b⟩, ⟨a', b'⟩, c, c', rfl⟩
end

theorem cells24 : Try.prog.cellsOf 24 = 2 := by kernel_rfl
theorem cells22 : Try.prog.cellsOf 22 = 1 := by kernel_rfl
theorem cells28 : Try.prog.cellsOf 28 = 1 := by kernel_rfl
theorem cells46 : Try.prog.cellsOf 46 = 6 := by kernel_rfl
theorem cells50 : Try.prog.cellsOf 50 = 2 := by kernel_rfl
theorem cells53 : Try.prog.cellsOf 53 = 3 := by kernel_rfl
theorem cells77 : Try.prog.cellsOf 77 = 2 := by kernel_rfl

section
variable {H : Type} {enc : TypeId × Value → H} {w : World} {base : Nat} {sp : Nat → Bool} {held : Bool} {fuel : Nat} {cs : List Value} {x : DataW H × List MemPlace}

theorem openInt (h : DataW.trod enc Try.prog w base sp held fuel 3 cs = some x) : ∃ a : Int, cs = [.int .i64 a] ∧ -9223372036854775808 ≤ a ∧ a ≤ 9223372036854775807 := by
  obtain ⟨a, ha, -, hw⟩ := DataW.trod_int Try.underlying3 h
  refine ⟨a, ha, ?_⟩
  have := hw
  simp [Lit.wf, IntKind.min, IntKind.max, IntKind.signed, IntKind.bits] at this
  omega

/-- A slice whose elements are known reads as a list. -/
theorem openSlice {α : Type} [Inhabited α] {f : α → List Value} {size : Nat} {t e : TypeId} (ht : Try.prog.underlying t = some (.slice e)) (he : Try.prog.cellsOf e = size) (hs : 0 < size)
    (hel : ∀ fuel cs x, DataW.trod enc Try.prog w base sp held fuel e cs = some x → ∃ a, cs = f a) (h : DataW.trod enc Try.prog w base sp held fuel t cs = some x) :
    ∃ A n c xs, cs = [.slice A n c] ∧ n ≤ c ∧ c ≤ maxLen ∧ Arr f size w A n xs := by
  rcases DataW.trod_slice ht h with ⟨h0, -⟩ | ⟨a, len, cap, elems, rest, n, -, rfl, -, hb, hl, hm, hlen, hel1, -, -⟩
  · exact ⟨none, 0, 0, [], h0, Nat.le_refl _, Nat.zero_le _, Arr.nil_⟩
  · have each : ∀ i, i < len → ∃ y, w.cells? base (a.add (i * size)) size = some (f y) := by
      intro i hi
      have h1 := hel1 i hi
      rw [List.getElem?_eq_getElem (by omega), he] at h1
      obtain ⟨cs', h2, h3⟩ := Option.bind_eq_some_iff.1 h1
      obtain ⟨y, rfl⟩ := hel _ _ _ h3
      exact ⟨y, h2⟩
    obtain ⟨q, hq⟩ := Go.Deep.choose_lt each
    refine ⟨some a, len, cap, (List.range len).map q, rfl, hl, hm, by simp, fun hn => ?_⟩
    obtain ⟨b, o, spot⟩ := a
    have h0 := World.cells?_some (hq 0 hn)
    have hne : ∃ c0, (f (q 0))[0]? = some c0 := ⟨_, List.getElem?_eq_getElem (by rw [h0.2.1]; exact hs)⟩
    obtain ⟨c0, hc0⟩ := hne
    have g0 := h0.2.2 0 hs
    rw [hc0] at g0
    have hspot : spot = none := by simpa [Addr.add] using World.cell?_spot g0
    subst hspot
    have hbl := World.block_lt_of_cell? w _ g0
    simp only [Nat.zero_mul, add_at, Nat.add_zero] at hbl
    refine ⟨b, o, rfl, hbl, fun k y hy j u hu => ?_⟩
    have hk : k < len := by have := (List.getElem?_eq_some_iff.1 hy).1; simpa using this
    have ey : y = q k := by rw [List.getElem?_map, List.getElem?_range hk] at hy; simpa using hy.symm
    subst ey
    have hk2 := World.cells?_some (hq k hk)
    have hj : j < size := by rw [← hk2.2.1]; exact (List.getElem?_eq_some_iff.1 hu).1
    have := hk2.2.2 j hj
    rw [add_at, add_at, hu] at this
    exact this

set_option maxRecDepth 100000 in
theorem openComer {cs : List Value} (h : DataW.trod enc Try.prog w base sp held fuel 53 cs = some x) : ∃ c : Comer, cs = ccells c := by
  obtain ⟨xs, n, -, -, hl, hxl, hf⟩ := DataW.trod_struct Try.underlying53 h
  have h0 : DataW.trod enc Try.prog w base sp held n 3 ((cs.drop 0).take (Try.prog.cellsOf 3)) = xs[0]? := hf 0 _ rfl
  have h1 : DataW.trod enc Try.prog w base sp held n 3 ((cs.drop 1).take (Try.prog.cellsOf 3)) = xs[1]? := hf 1 _ rfl
  have h2 : DataW.trod enc Try.prog w base sp held n 3 ((cs.drop 2).take (Try.prog.cellsOf 3)) = xs[2]? := hf 2 _ rfl
  rw [cells3] at h0 h1 h2
  rw [cells53] at hl
  have hxl' : xs.length = 3 := hxl
  match cs, hl with
  | [c0, c1, c2], _ =>
    obtain ⟨a, ha, -⟩ := openInt (h0.trans (List.getElem?_eq_getElem (by omega)))
    obtain ⟨b, hb, -⟩ := openInt (h1.trans (List.getElem?_eq_getElem (by omega)))
    obtain ⟨c, hc, -⟩ := openInt (h2.trans (List.getElem?_eq_getElem (by omega)))
    simp at ha hb hc
    exact ⟨⟨a, b, c⟩, by rw [ha, hb, hc]; rfl⟩

instance : Inhabited Comer := ⟨⟨0, 0, 0⟩⟩

set_option maxRecDepth 100000 in
/-- A mill's two cells. -/
theorem openMillCells {cs : List Value} (h : DataW.trod enc Try.prog w base sp held fuel 24 cs = some x) :
    ∃ (hh : Int) (A : Option Addr) (n c : Nat) (xs : List Comer), cs = [.int .i64 hh, .slice A n c] ∧ -9223372036854775808 ≤ hh ∧ hh ≤ 9223372036854775807 ∧ n ≤ c ∧ c ≤ maxLen ∧ Arr ccells 3 w A n xs := by
  obtain ⟨xs, n, -, -, hl, hxl, hf⟩ := DataW.trod_struct Try.underlying24 h
  have h0 : DataW.trod enc Try.prog w base sp held n 3 ((cs.drop 0).take (Try.prog.cellsOf 3)) = xs[0]? := hf 0 _ rfl
  have h1 : DataW.trod enc Try.prog w base sp held n 22 ((cs.drop 1).take (Try.prog.cellsOf 22)) = xs[1]? := hf 1 _ rfl
  rw [cells3] at h0
  rw [cells22] at h1
  rw [cells24] at hl
  have hxl' : xs.length = 2 := hxl
  match cs, hl with
  | [c0, c1], _ =>
    obtain ⟨a, ha, k1, k2⟩ := openInt (h0.trans (List.getElem?_eq_getElem (by omega)))
    obtain ⟨A, m, c, ys, e, h3, h4, h5⟩ := openSlice Try.underlying22 cells53 (by decide) (fun _ _ _ => openComer) (h1.trans (List.getElem?_eq_getElem (by omega)))
    simp at ha e
    exact ⟨a, A, m, c, ys, by rw [ha, e], k1, k2, h3, h4, h5⟩

variable {r : Reach} {b0 : Nat} {v : Value} {d : DataW H} {p : List MemPlace}

theorem okWide_array {P : Program} {t e : TypeId} {n : Nat} (ht : P.underlying t = some (.array n e)) (h : Value.okWide P w r b0 t v) : ∃ cs, v = .agg cs ∧ cs.size = P.cellsOf t := by
  simp only [Value.okWide, ht] at h
  obtain ⟨cs, h1, h2, _⟩ := h
  exact ⟨cs, h1, h2⟩

set_option maxRecDepth 100000 in
theorem openMill (hv : Value.okWide Try.prog w r b0 24 v) (h : DataW.Trod enc Try.prog w base sp held 24 v d p) :
    ∃ (hh : Int) (A : Option Addr) (n c : Nat) (xs : List Comer), v = mv A n c hh ∧ -9223372036854775808 ≤ hh ∧ hh ≤ 9223372036854775807 ∧ n ≤ c ∧ c ≤ maxLen ∧ Arr ccells 3 w A n xs := by
  obtain ⟨cs, rfl, hsz⟩ := okWide_struct Try.underlying24 hv
  obtain ⟨fuel, hf⟩ := h
  obtain ⟨hh, A, n, c, xs, e, h1⟩ := openMillCells hf
  refine ⟨hh, A, n, c, xs, ?_, h1⟩
  have : cs = #[.int .i64 hh, .slice A n c] := by
    apply Array.ext'
    simpa [Value.cells] using e
  rw [this]; rfl
set_option maxRecDepth 100000 in
theorem openCv (hv : Value.okWide Try.prog w r b0 53 v) (h : DataW.Trod enc Try.prog w base sp held 53 v d p) : ∃ c : Comer, v = cv c := by
  obtain ⟨cs, rfl, hsz⟩ := okWide_struct Try.underlying53 hv
  obtain ⟨fuel, hf⟩ := h
  obtain ⟨c, e⟩ := openComer hf
  refine ⟨c, ?_⟩
  have : cs = #[.int .i64 c.family, .int .i64 c.hours, .int .i64 c.wants] := by
    apply Array.ext'
    simpa [Value.cells, ccells] using e
  rw [this]
set_option maxRecDepth 100000 in
theorem openIntV (hv : Value.okWide Try.prog w r b0 3 v) (h : DataW.Trod enc Try.prog w base sp held 3 v d p) : ∃ a : Int, v = .int .i64 a ∧ -9223372036854775808 ≤ a ∧ a ≤ 9223372036854775807 := by
  obtain ⟨n, rfl, -⟩ := okWide_int Try.underlying3 hv
  obtain ⟨fuel, hf⟩ := h
  obtain ⟨a, e, h1⟩ := openInt hf
  simp [Value.cells] at e
  subst e
  exact ⟨n, rfl, h1⟩
set_option maxRecDepth 100000 in
theorem openInts (hv : Value.okWide Try.prog w r b0 28 v) (h : DataW.Trod enc Try.prog w base sp held 28 v d p) :
    ∃ (A : Option Addr) (n c : Nat) (xs : List Int), v = .slice A n c ∧ n ≤ c ∧ c ≤ maxLen ∧ Ints w A n xs := by
  obtain ⟨a, n, c, rfl⟩ := okWide_slice Try.underlying28 hv
  obtain ⟨fuel, hf⟩ := h
  obtain ⟨A, n', c', xs, e, h1⟩ := openSlice (f := icells) Try.underlying28 cells3 (by decide) (fun _ _ _ hq => by obtain ⟨a, e, -⟩ := openInt hq; exact ⟨a, e⟩) hf
  simp [Value.cells] at e
  obtain ⟨rfl, rfl, rfl⟩ := e
  exact ⟨_, _, _, xs, rfl, h1⟩
set_option maxRecDepth 100000 in
theorem openArr6 (hv : Value.okWide Try.prog w r b0 46 v) (h : DataW.Trod enc Try.prog w base sp held 46 v d p) : ∃ a b c d e f : Int, v = arr6 a b c d e f := by
  obtain ⟨cs, rfl, hsz⟩ := okWide_array Try.underlying46 hv
  obtain ⟨fuel, hf⟩ := h
  rw [cells46] at hsz
  obtain ⟨c0, c1, c2, c3, c4, c5, rfl⟩ : ∃ c0 c1 c2 c3 c4 c5, cs = #[c0, c1, c2, c3, c4, c5] := by
    obtain ⟨l⟩ := cs
    match l, hsz with
    | [c0, c1, c2, c3, c4, c5], _ => exact ⟨c0, c1, c2, c3, c4, c5, rfl⟩
  obtain ⟨xs, n, -, -, hl, hxl, hf⟩ := DataW.trod_array Try.underlying46 hf
  rw [cells3] at hf
  obtain ⟨a0, e0, -⟩ := openInt ((hf 0 (by decide)).trans (List.getElem?_eq_getElem (by omega)))
  obtain ⟨a1, e1, -⟩ := openInt ((hf 1 (by decide)).trans (List.getElem?_eq_getElem (by omega)))
  obtain ⟨a2, e2, -⟩ := openInt ((hf 2 (by decide)).trans (List.getElem?_eq_getElem (by omega)))
  obtain ⟨a3, e3, -⟩ := openInt ((hf 3 (by decide)).trans (List.getElem?_eq_getElem (by omega)))
  obtain ⟨a4, e4, -⟩ := openInt ((hf 4 (by decide)).trans (List.getElem?_eq_getElem (by omega)))
  obtain ⟨a5, e5, -⟩ := openInt ((hf 5 (by decide)).trans (List.getElem?_eq_getElem (by omega)))
  simp [Value.cells] at e0 e1 e2 e3 e4 e5
  subst e0 e1 e2 e3 e4 e5
  exact ⟨_, _, _, _, _, _, rfl⟩
end
end Go.Proofs.Ytdhhneflhmkonaa
