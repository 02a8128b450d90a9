/- Part of the proof: DV. -/
import Derived.Test.YtkoejeghihcmlaaGreatNA4
import Derived.Test.YtkoejeghihcmlaaGreatNA7
namespace Go.Proofs.YtkoejeghihcmlaaGreat
open Go.ChangeShapes Go.WideShapes Go.ChangeAt Go.RowKit
theorem cells30 : Tryz.prog.cellsOf 30 = 8 := by kernel_rfl
theorem cells28 : Tryz.prog.cellsOf 28 = 3 := by kernel_rfl
theorem cells25 : Tryz.prog.cellsOf 25 = 1 := by kernel_rfl
theorem cells26 : Tryz.prog.cellsOf 26 = 1 := by kernel_rfl
section
variable {H : Type} {enc : TypeId × Value → H} {w : World} {base : Nat} {sp : Nat → Bool} {held : Bool} {fuel : Nat} {cs : List Value} {x : DataW H × List MemPlace}
set_option maxRecDepth 100000 in
theorem openC2 {cs : List Value} (h : DataW.trod enc Tryz.prog w base sp held fuel 85 cs = some x) : ∃ q : Int × Int, cs = dcells q := by
 obtain ⟨xs, n, -, -, hl, hxl, hf⟩ := DataW.trod_array Tryz.underlying85 h
 rw [cells3] at hf
 rw [cells85] at hl
 match cs, hl with
 | [c0, c1], _ =>
  obtain ⟨a0, e0, b0⟩ := openInt ((hf 0 (by decide)).trans (List.getElem?_eq_getElem (by omega)))
  obtain ⟨a1, e1, b1⟩ := openInt ((hf 1 (by decide)).trans (List.getElem?_eq_getElem (by omega)))
  simp at e0 e1
  subst e0 e1
  exact ⟨(a0, a1), rfl⟩
set_option maxRecDepth 100000 in
theorem openC3 {cs : List Value} (h : DataW.trod enc Tryz.prog w base sp held fuel 93 cs = some x) : ∃ q : T3, cs = t3cells q := by
 obtain ⟨xs, n, -, -, hl, hxl, hf⟩ := DataW.trod_array Tryz.underlying93 h
 rw [cells3] at hf
 rw [cells93] at hl
 match cs, hl with
 | [c0, c1, c2], _ =>
  obtain ⟨a0, e0, b0⟩ := openInt ((hf 0 (by decide)).trans (List.getElem?_eq_getElem (by omega)))
  obtain ⟨a1, e1, b1⟩ := openInt ((hf 1 (by decide)).trans (List.getElem?_eq_getElem (by omega)))
  obtain ⟨a2, e2, b2⟩ := openInt ((hf 2 (by decide)).trans (List.getElem?_eq_getElem (by omega)))
  simp at e0 e1 e2
  subst e0 e1 e2
  exact ⟨⟨a0, a1, a2⟩, rfl⟩
instance : Inhabited T3 := ⟨⟨0, 0, 0⟩⟩
set_option maxRecDepth 100000 in
theorem open25 {cs : List Value} (h : DataW.trod enc Tryz.prog w base sp held fuel 25 cs = some x) : ∃ A n c xs, cs = [.slice A n c] ∧ n ≤ c ∧ c ≤ maxLen ∧ Arr dcells 2 w A n xs :=
 openSlice (f := dcells) Tryz.underlying25 cells85 (by decide) (fun _ _ _ hq => openC2 hq) h
set_option maxRecDepth 100000 in
theorem open26 {cs : List Value} (h : DataW.trod enc Tryz.prog w base sp held fuel 26 cs = some x) : ∃ A n c xs, cs = [.slice A n c] ∧ n ≤ c ∧ c ≤ maxLen ∧ Arr t3cells 3 w A n xs :=
 openSlice (f := t3cells) Tryz.underlying26 cells93 (by decide) (fun _ _ _ hq => openC3 hq) h
set_option maxRecDepth 100000 in
theorem open28 {cs : List Value} (h : DataW.trod enc Tryz.prog w base sp held fuel 28 cs = some x) :
  ∃ (g : Gra) (R1 R2 R3 : Option Addr) (k1 q1 k2 q2 k3 q3 : Nat), cs = [.slice R1 k1 q1, .slice R2 k2 q2, .slice R3 k3 q3] ∧ Arr dcells 2 w R1 k1 g.ch ∧ Arr t3cells 3 w R2 k2 g.ce ∧ Arr t3cells 3 w R3 k3 g.cl ∧ k1 ≤ 9223372036854775807 ∧ k2 ≤ 9223372036854775807 ∧ k3 ≤ 9223372036854775807 := by
 obtain ⟨xs, n, -, -, hl, hxl, hf⟩ := DataW.trod_struct Tryz.underlying28 h
 have hxl' : xs.length = 3 := hxl
 have h0 : DataW.trod enc Tryz.prog w base sp held n 25 ((cs.drop 0).take (Tryz.prog.cellsOf 25)) = xs[0]? := hf 0 _ rfl
 have h1 : DataW.trod enc Tryz.prog w base sp held n 26 ((cs.drop 1).take (Tryz.prog.cellsOf 26)) = xs[1]? := hf 1 _ rfl
 have h2 : DataW.trod enc Tryz.prog w base sp held n 26 ((cs.drop 2).take (Tryz.prog.cellsOf 26)) = xs[2]? := hf 2 _ rfl
 rw [cells25] at h0
 rw [cells26] at h1 h2
 rw [cells28] at hl
 match cs, hl with
 | [c0, c1, c2], _ =>
  obtain ⟨A1, n1, d1, x1, e1, l1, m1, r1⟩ := open25 (h0.trans (List.getElem?_eq_getElem (by omega)))
  obtain ⟨A2, n2, d2, x2, e2, l2, m2, r2⟩ := open26 (h1.trans (List.getElem?_eq_getElem (by omega)))
  obtain ⟨A3, n3, d3, x3, e3, l3, m3, r3⟩ := open26 (h2.trans (List.getElem?_eq_getElem (by omega)))
  simp at e1 e2 e3
  subst e1 e2 e3
  unfold maxLen at m1 m2 m3
  exact ⟨⟨x1, x2, x3⟩, A1, A2, A3, n1, d1, n2, d2, n3, d3, rfl, r1, r2, r3, by omega, by omega, by omega⟩
set_option maxRecDepth 100000 in
theorem open24 {cs : List Value} (h : DataW.trod enc Tryz.prog w base sp held fuel 24 cs = some x) :
  ∃ (q : Raw) (A1 A2 A3 : Option Addr) (n1 c1 n2 c2 n3 c3 : Nat), cs = [.int .i64 q.sown, .int .i64 q.geese, .slice A1 n1 c1, .slice A2 n2 c2, .slice A3 n3 c3] ∧ RawOk q ∧ Arr q4cells 4 w A1 n1 q.loads ∧ Arr q4cells 4 w A2 n2 q.stands ∧ Arr q4cells 4 w A3 n3 q.spells ∧
   n1 ≤ 9223372036854775807 ∧ n2 ≤ 9223372036854775807 ∧ n3 ≤ 9223372036854775807 := by
 obtain ⟨xs, n, -, -, hl, hxl, hf⟩ := DataW.trod_struct Tryz.underlying24 h
 have hxl' : xs.length = 5 := hxl
 have h0 : DataW.trod enc Tryz.prog w base sp held n 3 ((cs.drop 0).take (Tryz.prog.cellsOf 3)) = xs[0]? := hf 0 _ rfl
 have h1 : DataW.trod enc Tryz.prog w base sp held n 3 ((cs.drop 1).take (Tryz.prog.cellsOf 3)) = xs[1]? := hf 1 _ rfl
 have h2 : DataW.trod enc Tryz.prog w base sp held n 22 ((cs.drop 2).take (Tryz.prog.cellsOf 22)) = xs[2]? := hf 2 _ rfl
 have h3 : DataW.trod enc Tryz.prog w base sp held n 22 ((cs.drop 3).take (Tryz.prog.cellsOf 22)) = xs[3]? := hf 3 _ rfl
 have h4 : DataW.trod enc Tryz.prog w base sp held n 22 ((cs.drop 4).take (Tryz.prog.cellsOf 22)) = xs[4]? := hf 4 _ rfl
 rw [cells3] at h0 h1
 rw [cells22] at h2 h3 h4
 rw [cells24] at hl
 match cs, hl with
 | [u0, u1, u2, u3, u4], _ =>
  obtain ⟨a, ha, i0⟩ := openInt (h0.trans (List.getElem?_eq_getElem (by omega)))
  obtain ⟨b, hb, i1⟩ := openInt (h1.trans (List.getElem?_eq_getElem (by omega)))
  obtain ⟨A1, n1, c1, x1, e1, l1, m1, r1, q1⟩ := openQs (h2.trans (List.getElem?_eq_getElem (by omega)))
  obtain ⟨A2, n2, c2, x2, e2, l2, m2, r2, q2⟩ := openQs (h3.trans (List.getElem?_eq_getElem (by omega)))
  obtain ⟨A3, n3, c3, x3, e3, l3, m3, r3, q3⟩ := openQs (h4.trans (List.getElem?_eq_getElem (by omega)))
  simp at ha hb e1 e2 e3
  subst ha hb e1 e2 e3
  unfold maxLen at m1 m2 m3
  exact ⟨⟨a, b, x1, x2, x3⟩, A1, A2, A3, n1, c1, n2, c2, n3, c3, rfl, ⟨i0, fun x hx => (q1 x hx).2.2.1, fun x hx => (q2 x hx).2.2.1, fun x hx => (q3 x hx).2.2.1⟩, r1, r2, r3, by omega, by omega, by omega⟩
variable {r : Reach} {b0 : Nat} {v : Value} {d : DataW H} {p : List MemPlace}
set_option maxRecDepth 100000 in
theorem openHarvest (hv : Value.okWide Tryz.prog w r b0 30 v) (h : DataW.Trod enc Tryz.prog w base sp held 30 v d p) :
  ∃ (q : Raw) (A1 A2 A3 : Option Addr) (n1 c1 n2 c2 n3 c3 : Nat) (g : Gra) (R1 R2 R3 : Option Addr) (k1 q1 k2 q2 k3 q3 : Nat), v = .agg #[.int .i64 q.sown, .int .i64 q.geese, .slice A1 n1 c1, .slice A2 n2 c2, .slice A3 n3 c3, .slice R1 k1 q1, .slice R2 k2 q2, .slice R3 k3 q3] ∧
   (RawOk q ∧ Arr q4cells 4 w A1 n1 q.loads ∧ Arr q4cells 4 w A2 n2 q.stands ∧ Arr q4cells 4 w A3 n3 q.spells ∧ n1 ≤ 9223372036854775807 ∧ n2 ≤ 9223372036854775807 ∧ n3 ≤ 9223372036854775807) ∧
   Arr dcells 2 w R1 k1 g.ch ∧ Arr t3cells 3 w R2 k2 g.ce ∧ Arr t3cells 3 w R3 k3 g.cl ∧ k1 ≤ 9223372036854775807 ∧ k2 ≤ 9223372036854775807 ∧ k3 ≤ 9223372036854775807 := by
 obtain ⟨cs, rfl, hsz⟩ := okWide_struct Tryz.underlying30 hv
 obtain ⟨fuel, hf⟩ := h
 rw [cells30] at hsz
 obtain ⟨u0, u1, u2, u3, u4, u5, u6, u7, rfl⟩ : ∃ u0 u1 u2 u3 u4 u5 u6 u7, cs = #[u0, u1, u2, u3, u4, u5, u6, u7] := by
  obtain ⟨l⟩ := cs
  match l, hsz with
  | [u0, u1, u2, u3, u4, u5, u6, u7], _ => exact ⟨u0, u1, u2, u3, u4, u5, u6, u7, rfl⟩
 obtain ⟨xs, n, -, -, hl, hxl, hf⟩ := DataW.trod_struct Tryz.underlying30 hf
 have hxl' : xs.length = 2 := hxl
 have h0 : DataW.trod enc Tryz.prog w base sp held n 24 (((Value.agg #[u0, u1, u2, u3, u4, u5, u6, u7]).cells.toList.drop 0).take (Tryz.prog.cellsOf 24)) = xs[0]? := hf 0 _ rfl
 have h1 : DataW.trod enc Tryz.prog w base sp held n 28 (((Value.agg #[u0, u1, u2, u3, u4, u5, u6, u7]).cells.toList.drop 5).take (Tryz.prog.cellsOf 28)) = xs[1]? := hf 1 _ rfl
 rw [cells24] at h0
 rw [cells28] at h1
 obtain ⟨q, A1, A2, A3, n1, c1, n2, c2, n3, c3, e1, hq⟩ := open24 (h0.trans (List.getElem?_eq_getElem (by omega)))
 obtain ⟨g, R1, R2, R3, k1, q1, k2, q2, k3, q3, e2, hg⟩ := open28 (h1.trans (List.getElem?_eq_getElem (by omega)))
 simp [Value.cells] at e1 e2
 obtain ⟨rfl, rfl, rfl, rfl, rfl⟩ := e1
 obtain ⟨rfl, rfl, rfl⟩ := e2
 exact ⟨q, A1, A2, A3, n1, c1, n2, c2, n3, c3, g, R1, R2, R3, k1, q1, k2, q2, k3, q3, rfl, hq, hg⟩
set_option maxRecDepth 100000 in
theorem openPairs (hv : Value.okWide Tryz.prog w r b0 25 v) (h : DataW.Trod enc Tryz.prog w base sp held 25 v d p) :
  ∃ (A : Option Addr) (n c : Nat) (xs : List (Int × Int)), v = .slice A n c ∧ n ≤ 9223372036854775807 ∧ Arr dcells 2 w A n xs := by
 obtain ⟨a, n, c, rfl⟩ := okWide_slice Tryz.underlying25 hv
 obtain ⟨fuel, hf⟩ := h
 obtain ⟨A, n', c', xs, e, h1, h2, h3⟩ := open25 hf
 simp [Value.cells] at e
 obtain ⟨rfl, rfl, rfl⟩ := e
 exact ⟨_, _, _, xs, rfl, by unfold maxLen at h2; omega, h3⟩
end
set_option maxRecDepth 100000 in
theorem topClear_lifted (os : Os) (started : os.Started) (H : Type) (enc : TypeId × Value → H) :
  ReturnsInHanded {} Tryz.checked os 3 .any (Rows.topClearSpec.pre6 enc Tryz.prog Tryz.f3 Rows.topClearRow.domain false) (Rows.topClearSpec.post enc Tryz.prog Tryz.f3 false true false false) := by
 refine returnsInHanded_of_change (C := Tryz.checked) Tryz.own started (by kernel_rfl) Tryz.func3
  (ChangeSpec.witness6 (enc := enc) (C := Tryz.checked) false ⟨#[], #[.agg #[.int .i64 0, .int .i64 0, .slice none 0 0, .slice none 0 0, .slice none 0 0, .slice none 0 0, .slice none 0 0, .slice none 0 0], .int .i64 0, .slice none 0 0], []⟩ 8 (by kernel_rfl) (by kernel_rfl) (by kernel_rfl) (by kernel_rfl)) ?_
 intro W base args ds gs before hval0 hW hcnd _
 have hval : ∀ (j : Nat) t v, Tryz.f3.params[j]? = some t → args[j]? = some v → Value.okWide Tryz.prog W .any base t v := hval0
 have hW' := hW
 obtain ⟨p, q, hA0, hV, rfl, hfz, hnd⟩ := hW
 have hA : DataW.TrodAll enc Tryz.prog W 0 (fun _ => true) true Tryz.f3.params.toList args.toList ds p := hA0
 obtain ⟨rfl, rfl⟩ := trodVars_none hV
 have hA2 := hA
 rw [Tryz.params3] at hA hval
 obtain ⟨v0, v1, v2, d0, d1, d2, p0, p1, p2, rfl, rfl, rfl, h0, h1, h2⟩ := trodAll_three hA
 obtain ⟨r, A1, A2, A3, n1, c1, n2, c2, n3, c3, g, R1, R2, R3, k1, q1, k2, q2, k3, q3, rfl, ⟨hr, r1, r2, r3, l1, l2, l3⟩, g1, g2, g3, l4, l5, l6⟩ := openHarvest (hval 0 30 v0 rfl rfl) h0
 obtain ⟨x, rfl, i0⟩ := openIntV (hval 1 3 v1 rfl rfl) h1
 obtain ⟨X0, nx, cx, xs, rfl, hnx, hxs⟩ := openPairs (hval 2 25 v2 rfl rfl) h2
 clear hA0 hval0
 simp only [List.append_nil] at hW'
 refine (law3_any r A1 A2 A3 n1 c1 n2 c2 n3 c3 g R1 R2 R3 k1 q1 k2 q2 k3 q3 x X0 nx cx xs W r1 r2 r3 ⟨l1, l2, l3⟩ hr g1 g2 g3 ⟨l4, l5, l6⟩ i0 hxs hnx).mono fun e W' ⟨he, hb⟩ => ?_
 subst he
 exact ⟨_, rfl, law_post Tryz.laidOut hW' hA2 rfl (by kernel_rfl) Tryz.underlying4 rfl rfl rfl (by kernel_rfl) hb⟩
theorem topClear_holds : Rows.TopClearSaid :=
 OpenClaim.holds_of_wide 3 Tryz.f3 rfl rfl rfl rfl rfl rfl rfl ⟨rfl, rfl, rfl, rfl, rfl⟩ rfl rfl rfl rfl rfl (by kernel_rfl) Tryz.func3 (by kernel_rfl)
  (of_decide_eq_true (by kernel_rfl)) (by unfold Func.isWrapper; first | (rw [if_pos (by decide +kernel)]; kernel_rfl) | (rw [if_neg (by decide +kernel)]; exact ⟨rfl, rfl⟩))
  (fun os started H enc _ => topClear_lifted os started H enc)
#print axioms topClear_holds
end Go.Proofs.YtkoejeghihcmlaaGreat
