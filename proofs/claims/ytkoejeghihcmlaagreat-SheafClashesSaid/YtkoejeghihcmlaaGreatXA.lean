/- The laws' ends: what an argument reads as; a law that returns true, and of whose memory Below is known. -/
import Derived.Test.YtkoejeghihcmlaaGreatRows
import Derived.Test.YtkoejeghihcmlaaGreatTX
import Derived.ProofKit
import Derived.Carry
import Derived.WideKeyArgs
import Derived.Below
import Derived.OpenShut
import Derived.Deep.Slices
namespace Go.Proofs.YtkoejeghihcmlaaGreat
open Go.ChangeShapes Go.WideShapes Go.ChangeAt Go.RowKit

theorem Tryz.own : ownKnob Tryz.prog.godebug = none := by kernel_rfl
theorem Tryz.laidOut : laidOutB Tryz.prog = true := by kernel_rfl

section
variable {H : Type} {enc : TypeId × Value → H} {P : Program}
/-- The arguments read behind the call as they read before. -/
theorem args_stay (hl : laidOutB P = true) {W W' : World} (hb : Below W.heap.size W W') {sp : Nat → Bool} :
    ∀ {ts : List TypeId} {vs : List Value} {ds : List (DataW H)} {ps : List MemPlace}, (ts.all fun t => P.readableRec t && decide (t < P.types.size)) = true → (∀ x ∈ ps, x.block < W.heap.size) → (∀ x ∈ ps, sp x.block = true) →
      DataW.TrodAll enc P W 0 (fun _ => true) true ts vs ds ps → DataW.TrodAll enc P W' 0 sp true ts vs ds ps
  | [], [], [], ps, _, _, _, h => h
  | t :: ts, v :: vs, d :: ds, ps, ht, hlt, hs, h => by
    obtain ⟨p, q, h1, h2, rfl⟩ := h
    simp only [List.all_cons, Bool.and_eq_true, decide_eq_true_eq] at ht
    exact ⟨p, q, WideElems.Trod_stays hl ht.1.1 ht.1.2 h1 (fun x hx => hb.same (hlt x (List.mem_append_left _ hx))) (fun x hx => hs x (List.mem_append_left _ hx)),
      args_stay hl hb ht.2 (fun x hx => hlt x (List.mem_append_right _ hx)) (fun x hx => hs x (List.mem_append_right _ hx)) h2, rfl⟩
  | [], [], _ :: _, _, _, _, _, h => h.elim
  | [], _ :: _, [], _, _, _, _, h => h.elim
  | [], _ :: _, _ :: _, _, _, _, _, h => h.elim
  | _ :: _, [], [], _, _, _, _, h => h.elim
  | _ :: _, [], _ :: _, _, _, _, _, h => h.elim
  | _ :: _, _ :: _, [], _, _, _, _, h => h.elim

/-- The end of a row: true came back; nothing that was there has turned. -/
theorem law_post {f : Func} {s : ChangeSpec} {apart fresh handsOn again : Bool} {W W' : World} {args : Array Value} {ds : List (DataW H)} {before : List MemPlace} (hl : laidOutB P = true)
    (hW : DataW.Whole enc P f.params.toList s.vars apart W args.toList ds [] before) (hA : DataW.TrodAll enc P W 0 (fun _ => true) true f.params.toList args.toList ds before) (hv : s.vars = [])
    (hrt : f.resultTypes = #[4]) (h4 : P.underlying 4 = some .bool) (hres : (s.fn H (ds ++ [])).results = [.lit (.bool true)]) (hargs : (s.fn H (ds ++ [])).args = ds) (hvars : (s.fn H (ds ++ [])).vars = [])
    (hp : (f.params.toList.all fun t => P.readableRec t && decide (t < P.types.size)) = true) (hb : Below W.heap.size W W') : s.post enc P f apart fresh handsOn again W args (.bool true) W' := by
  have hlt : ∀ p ∈ before, p.block < W.heap.size := fun p hp => hW.lt p hp
  have hA' : ∀ sp : Nat → Bool, (∀ p ∈ before, sp p.block = true) → DataW.TrodAll enc P W' 0 sp true f.params.toList args.toList (s.fn H (ds ++ [])).args before :=
    fun sp hsp => by rw [hargs]; exact args_stay hl hb hp hlt hsp hA
  have hV' : ∀ sp : Nat → Bool, DataW.TrodVars enc P W' sp s.vars (s.fn H (ds ++ [])).vars [] := fun sp => by rw [hv, hvars]; rfl
  have hR : ∀ (b : Nat) (sp : Nat → Bool) (hd : Bool), DataW.TrodAll enc P W' b sp hd f.resultTypes.toList ((Value.bool true).resultList f.resultTypes.size) (s.fn H (ds ++ [])).results [] := fun b sp hd => by
    rw [hres, hrt]; exact trodAll_mk1 (shut_bool h4 _)
  have hold : ∀ p ∈ before, (fun b => decide (b < W.heap.size)) p.block = true := fun p hp => by simpa using hlt p hp
  refine ⟨ds, [], before, [], before, [], hW, hR _ _ _, hA' _ hold, hV' _, World.keptBut_mono (fun p hp => ⟨hp, .inr (.inl hp)⟩) (hb.frame (· ∈ before)), fun _ => ?_⟩
  obtain ⟨_, _, _, _, _, hz, hn⟩ := hW
  refine ⟨?_, _, _, ([] ++ before) ++ [], ⟨[] ++ before, [], trodAll_append (hA' _ (fun _ _ => rfl)) (hR _ _ _), hV' _, rfl, ?_, ?_⟩, ?_⟩
  · intro j t r hj hr
    exact ok_one hrt rfl (okWide_bool_mk h4 _) j t r hj hr
  · intro b off hp
    have hin : MemPlace.cell b off ∈ before := by simpa using hp
    rw [hb.frozen (hlt _ hin)]
    exact hz b off hin
  · intro ha
    have := hn ha
    simpa using this
  · intro p hp _
    simpa using hp
end

theorem cells3 : Tryz.prog.cellsOf 3 = 1 := by kernel_rfl
theorem cells22 : Tryz.prog.cellsOf 22 = 1 := by kernel_rfl
theorem cells24 : Tryz.prog.cellsOf 24 = 5 := by kernel_rfl
theorem cells85 : Tryz.prog.cellsOf 85 = 2 := by kernel_rfl
theorem cells93 : Tryz.prog.cellsOf 93 = 3 := by kernel_rfl
theorem cells133 : Tryz.prog.cellsOf 133 = 4 := by kernel_rfl

section
variable {H : Type} {enc : TypeId × Value → H} {w : World} {base : Nat} {sp : Nat → Bool} {held : Bool} {fuel : Nat} {cs : List Value} {x : DataW H × List MemPlace}

theorem openInt (h : DataW.trod enc Tryz.prog w base sp held fuel 3 cs = some x) : ∃ a : Int, cs = [.int .i64 a] ∧ -9223372036854775808 ≤ a ∧ a ≤ 9223372036854775807 := by
  obtain ⟨a, ha, -, hw⟩ := DataW.trod_int Tryz.underlying3 h
  refine ⟨a, ha, ?_⟩
  have := hw
  simp [Lit.wf, IntKind.min, IntKind.max, IntKind.signed, IntKind.bits] at this
  omega

/-- A slice whose elements are known reads as a list. -/
theorem openSlice {α : Type} [Inhabited α] {f : α → List Value} {size : Nat} {t e : TypeId} (ht : Tryz.prog.underlying t = some (.slice e)) (he : Tryz.prog.cellsOf e = size) (hs : 0 < size)
    (hel : ∀ fuel cs x, DataW.trod enc Tryz.prog w base sp held fuel e cs = some x → ∃ a, cs = f a) (h : DataW.trod enc Tryz.prog w base sp held fuel t cs = some x) :
    ∃ A n c xs, cs = [.slice A n c] ∧ n ≤ c ∧ c ≤ maxLen ∧ Arr f size w A n xs := by
  rcases DataW.trod_slice ht h with ⟨h0, -⟩ | ⟨a, len, cap, elems, rest, n, -, rfl, -, hb, hl, hm, hlen, hel1, -, -⟩
  · exact ⟨none, 0, 0, [], h0, Nat.le_refl _, Nat.zero_le _, Arr.nil_⟩
  · have each : ∀ i, i < len → ∃ y, w.cells? base (a.add (i * size)) size = some (f y) := by
      intro i hi
      have h1 := hel1 i hi
      rw [List.getElem?_eq_getElem (by omega), he] at h1
      obtain ⟨cs', h2, h3⟩ := Option.bind_eq_some_iff.1 h1
      obtain ⟨y, rfl⟩ := hel _ _ _ h3
      exact ⟨y, h2⟩
    obtain ⟨q, hq⟩ := Go.Deep.choose_lt each
    refine ⟨some a, len, cap, (List.range len).map q, rfl, hl, hm, by simp, fun hn => ?_⟩
    obtain ⟨b, o, spot⟩ := a
    have h0 := World.cells?_some (hq 0 hn)
    have hne : ∃ c0, (f (q 0))[0]? = some c0 := ⟨_, List.getElem?_eq_getElem (by rw [h0.2.1]; exact hs)⟩
    obtain ⟨c0, hc0⟩ := hne
    have g0 := h0.2.2 0 hs
    rw [hc0] at g0
    have hspot : spot = none := by simpa [Addr.add] using World.cell?_spot g0
    subst hspot
    have hbl := World.block_lt_of_cell? w _ g0
    simp only [Nat.zero_mul, add_at, Nat.add_zero] at hbl
    refine ⟨b, o, rfl, hbl, fun k y hy j u hu => ?_⟩
    have hk : k < len := by have := (List.getElem?_eq_some_iff.1 hy).1; simpa using this
    have ey : y = q k := by rw [List.getElem?_map, List.getElem?_range hk] at hy; simpa using hy.symm
    subst ey
    have hk2 := World.cells?_some (hq k hk)
    have hj : j < size := by rw [← hk2.2.1]; exact (List.getElem?_eq_some_iff.1 hu).1
    have := hk2.2.2 j hj
    rw [add_at, add_at, hu] at this
    exact this

set_option maxRecDepth 100000 in
theorem openQ4 {cs : List Value} (h : DataW.trod enc Tryz.prog w base sp held fuel 133 cs = some x) : ∃ q : {q : Q4 // I64 q.a ∧ I64 q.b ∧ I64 q.c ∧ I64 q.d}, cs = q4cells q.val := by
  obtain ⟨xs, n, -, -, hl, hxl, hf⟩ := DataW.trod_array Tryz.underlying133 h
  rw [cells3] at hf
  rw [cells133] at hl
  match cs, hl with
  | [c0, c1, c2, c3], _ =>
    obtain ⟨a0, e0, b0⟩ := openInt ((hf 0 (by decide)).trans (List.getElem?_eq_getElem (by omega)))
    obtain ⟨a1, e1, b1⟩ := openInt ((hf 1 (by decide)).trans (List.getElem?_eq_getElem (by omega)))
    obtain ⟨a2, e2, b2⟩ := openInt ((hf 2 (by decide)).trans (List.getElem?_eq_getElem (by omega)))
    obtain ⟨a3, e3, b3⟩ := openInt ((hf 3 (by decide)).trans (List.getElem?_eq_getElem (by omega)))
    simp at e0 e1 e2 e3
    subst e0 e1 e2 e3
    exact ⟨⟨⟨a0, a1, a2, a3⟩, b0, b1, b2, b3⟩, rfl⟩
instance : Inhabited {q : Q4 // I64 q.a ∧ I64 q.b ∧ I64 q.c ∧ I64 q.d} := ⟨⟨z4, by unfold I64; decide⟩⟩
theorem Arr.vals_ {α β : Type} {f : α → List Value} {g : β → α} {size : Nat} {w : World} {A : Option Addr} {n : Nat} {xs : List β} (h : Arr (fun x => f (g x)) size w A n xs) : Arr f size w A n (xs.map g) := by
  refine ⟨by rw [List.length_map]; exact h.1, fun h0 => ?_⟩
  obtain ⟨b, o, e, hb, hc⟩ := h.2 h0
  refine ⟨b, o, e, hb, fun k y hy j u hu => ?_⟩
  rw [List.getElem?_map] at hy
  obtain ⟨z, hz, rfl⟩ := Option.map_eq_some_iff.1 hy
  exact hc k z hz j u hu
set_option maxRecDepth 100000 in
theorem openQs {cs : List Value} (h : DataW.trod enc Tryz.prog w base sp held fuel 22 cs = some x) : ∃ A n c xs, cs = [.slice A n c] ∧ n ≤ c ∧ c ≤ maxLen ∧ Arr q4cells 4 w A n xs ∧ ∀ q ∈ xs, I64 q.a ∧ I64 q.b ∧ I64 q.c ∧ I64 q.d := by
  obtain ⟨A, n, c, xs, e, h1, h2, h3⟩ := openSlice (f := fun q : {q : Q4 // I64 q.a ∧ I64 q.b ∧ I64 q.c ∧ I64 q.d} => q4cells q.val) Tryz.underlying22 cells133 (by decide) (fun _ _ _ hq => openQ4 hq) h
  refine ⟨A, n, c, xs.map Subtype.val, e, h1, h2, h3.vals_, fun q hq => ?_⟩
  obtain ⟨y, -, rfl⟩ := List.mem_map.1 hq
  exact y.property

variable {r : Reach} {b0 : Nat} {v : Value} {d : DataW H} {p : List MemPlace}

theorem okWide_array {P : Program} {t e : TypeId} {n : Nat} (ht : P.underlying t = some (.array n e)) (h : Value.okWide P w r b0 t v) : ∃ cs, v = .agg cs ∧ cs.size = P.cellsOf t := by
  simp only [Value.okWide, ht] at h
  obtain ⟨cs, h1, h2, _⟩ := h
  exact ⟨cs, h1, h2⟩

set_option maxRecDepth 100000 in
theorem openRaw (hv : Value.okWide Tryz.prog w r b0 24 v) (h : DataW.Trod enc Tryz.prog w base sp held 24 v d p) :
    ∃ (q : Raw) (A1 A2 A3 : Option Addr) (n1 c1 n2 c2 n3 c3 : Nat), v = .agg (rawv q A1 A2 A3 n1 c1 n2 c2 n3 c3) ∧ RawOk q ∧ Arr q4cells 4 w A1 n1 q.loads ∧ Arr q4cells 4 w A2 n2 q.stands ∧ Arr q4cells 4 w A3 n3 q.spells ∧
      n1 ≤ 9223372036854775807 ∧ n2 ≤ 9223372036854775807 ∧ n3 ≤ 9223372036854775807 := by
  obtain ⟨cs, rfl, hsz⟩ := okWide_struct Tryz.underlying24 hv
  obtain ⟨fuel, hf⟩ := h
  rw [cells24] at hsz
  obtain ⟨u0, u1, u2, u3, u4, rfl⟩ : ∃ u0 u1 u2 u3 u4, cs = #[u0, u1, u2, u3, u4] := by
    obtain ⟨l⟩ := cs
    match l, hsz with
    | [u0, u1, u2, u3, u4], _ => exact ⟨u0, u1, u2, u3, u4, rfl⟩
  obtain ⟨xs, n, -, -, hl, hxl, hf⟩ := DataW.trod_struct Tryz.underlying24 hf
  have hxl' : xs.length = 5 := hxl
  have h0 : DataW.trod enc Tryz.prog w base sp held n 3 (((Value.agg #[u0, u1, u2, u3, u4]).cells.toList.drop 0).take (Tryz.prog.cellsOf 3)) = xs[0]? := hf 0 _ rfl
  have h1 : DataW.trod enc Tryz.prog w base sp held n 3 (((Value.agg #[u0, u1, u2, u3, u4]).cells.toList.drop 1).take (Tryz.prog.cellsOf 3)) = xs[1]? := hf 1 _ rfl
  have h2 : DataW.trod enc Tryz.prog w base sp held n 22 (((Value.agg #[u0, u1, u2, u3, u4]).cells.toList.drop 2).take (Tryz.prog.cellsOf 22)) = xs[2]? := hf 2 _ rfl
  have h3 : DataW.trod enc Tryz.prog w base sp held n 22 (((Value.agg #[u0, u1, u2, u3, u4]).cells.toList.drop 3).take (Tryz.prog.cellsOf 22)) = xs[3]? := hf 3 _ rfl
  have h4 : DataW.trod enc Tryz.prog w base sp held n 22 (((Value.agg #[u0, u1, u2, u3, u4]).cells.toList.drop 4).take (Tryz.prog.cellsOf 22)) = xs[4]? := hf 4 _ rfl
  rw [cells3] at h0 h1
  rw [cells22] at h2 h3 h4
  obtain ⟨a, ha, i0⟩ := openInt (h0.trans (List.getElem?_eq_getElem (by omega)))
  obtain ⟨b, hb, i1⟩ := openInt (h1.trans (List.getElem?_eq_getElem (by omega)))
  obtain ⟨A1, n1, c1, x1, e1, l1, m1, r1, q1⟩ := openQs (h2.trans (List.getElem?_eq_getElem (by omega)))
  obtain ⟨A2, n2, c2, x2, e2, l2, m2, r2, q2⟩ := openQs (h3.trans (List.getElem?_eq_getElem (by omega)))
  obtain ⟨A3, n3, c3, x3, e3, l3, m3, r3, q3⟩ := openQs (h4.trans (List.getElem?_eq_getElem (by omega)))
  simp [Value.cells] at ha hb e1 e2 e3
  subst ha hb e1 e2 e3
  unfold maxLen at m1 m2 m3
  exact ⟨⟨a, b, x1, x2, x3⟩, A1, A2, A3, n1, c1, n2, c2, n3, c3, rfl, ⟨i0, fun x hx => (q1 x hx).2.2.1, fun x hx => (q2 x hx).2.2.1, fun x hx => (q3 x hx).2.2.1⟩, r1, r2, r3, by omega, by omega, by omega⟩
set_option maxRecDepth 100000 in
theorem openIntV (hv : Value.okWide Tryz.prog w r b0 3 v) (h : DataW.Trod enc Tryz.prog w base sp held 3 v d p) : ∃ a : Int, v = .int .i64 a ∧ -9223372036854775808 ≤ a ∧ a ≤ 9223372036854775807 := by
  obtain ⟨n, rfl, -⟩ := okWide_int Tryz.underlying3 hv
  obtain ⟨fuel, hf⟩ := h
  obtain ⟨a, e, h1⟩ := openInt hf
  simp [Value.cells] at e
  subst e
  exact ⟨n, rfl, h1⟩
set_option maxRecDepth 100000 in
theorem openArr3 (hv : Value.okWide Tryz.prog w r b0 93 v) (h : DataW.Trod enc Tryz.prog w base sp held 93 v d p) : ∃ a b c : Int, v = .agg #[.int .i64 a, .int .i64 b, .int .i64 c] ∧ I64 a ∧ I64 b ∧ I64 c := by
  obtain ⟨cs, rfl, hsz⟩ := okWide_array Tryz.underlying93 hv
  obtain ⟨fuel, hf⟩ := h
  rw [cells93] at hsz
  obtain ⟨c0, c1, c2, rfl⟩ : ∃ c0 c1 c2, cs = #[c0, c1, c2] := by
    obtain ⟨l⟩ := cs
    match l, hsz with
    | [c0, c1, c2], _ => exact ⟨c0, c1, c2, rfl⟩
  obtain ⟨xs, n, -, -, hl, hxl, hf⟩ := DataW.trod_array Tryz.underlying93 hf
  rw [cells3] at hf
  obtain ⟨a0, e0, i0⟩ := openInt ((hf 0 (by decide)).trans (List.getElem?_eq_getElem (by omega)))
  obtain ⟨a1, e1, i1⟩ := openInt ((hf 1 (by decide)).trans (List.getElem?_eq_getElem (by omega)))
  obtain ⟨a2, e2, i2⟩ := openInt ((hf 2 (by decide)).trans (List.getElem?_eq_getElem (by omega)))
  simp [Value.cells] at e0 e1 e2
  subst e0 e1 e2
  exact ⟨_, _, _, rfl, i0, i1, i2⟩
set_option maxRecDepth 100000 in
theorem openArr2 (hv : Value.okWide Tryz.prog w r b0 85 v) (h : DataW.Trod enc Tryz.prog w base sp held 85 v d p) : ∃ a b : Int, v = .agg #[.int .i64 a, .int .i64 b] ∧ I64 a ∧ I64 b := by
  obtain ⟨cs, rfl, hsz⟩ := okWide_array Tryz.underlying85 hv
  obtain ⟨fuel, hf⟩ := h
  rw [cells85] at hsz
  obtain ⟨c0, c1, rfl⟩ : ∃ c0 c1, cs = #[c0, c1] := by
    obtain ⟨l⟩ := cs
    match l, hsz with
    | [c0, c1], _ => exact ⟨c0, c1, rfl⟩
  obtain ⟨xs, n, -, -, hl, hxl, hf⟩ := DataW.trod_array Tryz.underlying85 hf
  rw [cells3] at hf
  obtain ⟨a0, e0, i0⟩ := openInt ((hf 0 (by decide)).trans (List.getElem?_eq_getElem (by omega)))
  obtain ⟨a1, e1, i1⟩ := openInt ((hf 1 (by decide)).trans (List.getElem?_eq_getElem (by omega)))
  simp [Value.cells] at e0 e1
  subst e0 e1
  exact ⟨_, _, rfl, i0, i1⟩
end
end Go.Proofs.YtkoejeghihcmlaaGreat
