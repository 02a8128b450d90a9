/- Openers of a plot and of integers. -/
import Derived.Test.YtkoejeghihcmlaaGreatXA
namespace Go.Proofs.YtkoejeghihcmlaaGreat
open Go.ChangeShapes Go.WideShapes Go.ChangeAt Go.RowKit

theorem cells33 : Tryz.prog.cellsOf 33 = 2 := by kernel_rfl
theorem cells103 : Tryz.prog.cellsOf 103 = 6 := by kernel_rfl
theorem cells105 : Tryz.prog.cellsOf 105 = 6 := by kernel_rfl
theorem cells107 : Tryz.prog.cellsOf 107 = 6 := by kernel_rfl
theorem cells34 : Tryz.prog.cellsOf 34 = 1 := by kernel_rfl
theorem cells35 : Tryz.prog.cellsOf 35 = 1 := by kernel_rfl
theorem cells36 : Tryz.prog.cellsOf 36 = 1 := by kernel_rfl
theorem cells38 : Tryz.prog.cellsOf 38 = 6 := by kernel_rfl

section
variable {H : Type} {enc : TypeId × Value → H} {w : World} {base : Nat} {sp : Nat → Bool} {held : Bool} {fuel : Nat} {x : DataW H × List MemPlace}
set_option maxRecDepth 100000 in
theorem openRg {cs : List Value} (h : DataW.trod enc Tryz.prog w base sp held fuel 33 cs = some x) : ∃ a b : Int, cs = [.int .i64 a, .int .i64 b] := by
  obtain ⟨xs, n, -, -, hl, hxl, hf⟩ := DataW.trod_struct Tryz.underlying33 h
  have hxl' : xs.length = 2 := hxl
  have h0 : DataW.trod enc Tryz.prog w base sp held n 3 ((cs.drop 0).take (Tryz.prog.cellsOf 3)) = xs[0]? := hf 0 _ rfl
  have h1 : DataW.trod enc Tryz.prog w base sp held n 3 ((cs.drop 1).take (Tryz.prog.cellsOf 3)) = xs[1]? := hf 1 _ rfl
  rw [cells3] at h0 h1
  rw [cells33] at hl
  match cs, hl with
  | [c0, c1], _ =>
    obtain ⟨a0, e0, -⟩ := openInt (h0.trans (List.getElem?_eq_getElem (by omega)))
    obtain ⟨a1, e1, -⟩ := openInt (h1.trans (List.getElem?_eq_getElem (by omega)))
    simp at e0 e1
    subst e0 e1
    exact ⟨a0, a1, rfl⟩
set_option maxRecDepth 100000 in
theorem openSix103 {cs : List Value} (h : DataW.trod enc Tryz.prog w base sp held fuel 103 cs = some x) : ∃ q : Six, cs = scells q := by
  obtain ⟨xs, n, -, -, hl, hxl, hf⟩ := DataW.trod_struct Tryz.underlying103 h
  have hxl' : xs.length = 5 := hxl
  have h0 : DataW.trod enc Tryz.prog w base sp held n 3 ((cs.drop 0).take (Tryz.prog.cellsOf 3)) = xs[0]? := hf 0 _ rfl
  have h1 : DataW.trod enc Tryz.prog w base sp held n 3 ((cs.drop 1).take (Tryz.prog.cellsOf 3)) = xs[1]? := hf 1 _ rfl
  have h2 : DataW.trod enc Tryz.prog w base sp held n 33 ((cs.drop 2).take (Tryz.prog.cellsOf 33)) = xs[2]? := hf 2 _ rfl
  have h3 : DataW.trod enc Tryz.prog w base sp held n 3 ((cs.drop 4).take (Tryz.prog.cellsOf 3)) = xs[3]? := hf 3 _ rfl
  have h4 : DataW.trod enc Tryz.prog w base sp held n 3 ((cs.drop 5).take (Tryz.prog.cellsOf 3)) = xs[4]? := hf 4 _ rfl
  rw [cells3] at h0 h1 h3 h4
  rw [cells33] at h2
  rw [cells103] at hl
  match cs, hl with
  | [c0, c1, c2, c3, c4, c5], _ =>
    obtain ⟨a0, e0, -⟩ := openInt (h0.trans (List.getElem?_eq_getElem (by omega)))
    obtain ⟨a1, e1, -⟩ := openInt (h1.trans (List.getElem?_eq_getElem (by omega)))
    obtain ⟨a2, a3, e2⟩ := openRg (h2.trans (List.getElem?_eq_getElem (by omega)))
    obtain ⟨a4, e4, -⟩ := openInt (h3.trans (List.getElem?_eq_getElem (by omega)))
    obtain ⟨a5, e5, -⟩ := openInt (h4.trans (List.getElem?_eq_getElem (by omega)))
    simp at e0 e1 e2 e4 e5
    obtain ⟨e2, e3⟩ := e2
    subst e0 e1 e2 e3 e4 e5
    exact ⟨⟨a0, a1, a2, a3, a4, a5⟩, rfl⟩
set_option maxRecDepth 100000 in
theorem openSix105 {cs : List Value} (h : DataW.trod enc Tryz.prog w base sp held fuel 105 cs = some x) : ∃ q : Six, cs = scells q := by
  obtain ⟨xs, n, -, -, hl, hxl, hf⟩ := DataW.trod_struct Tryz.underlying105 h
  have hxl' : xs.length = 5 := hxl
  have h0 : DataW.trod enc Tryz.prog w base sp held n 3 ((cs.drop 0).take (Tryz.prog.cellsOf 3)) = xs[0]? := hf 0 _ rfl
  have h1 : DataW.trod enc Tryz.prog w base sp held n 3 ((cs.drop 1).take (Tryz.prog.cellsOf 3)) = xs[1]? := hf 1 _ rfl
  have h2 : DataW.trod enc Tryz.prog w base sp held n 33 ((cs.drop 2).take (Tryz.prog.cellsOf 33)) = xs[2]? := hf 2 _ rfl
  have h3 : DataW.trod enc Tryz.prog w base sp held n 3 ((cs.drop 4).take (Tryz.prog.cellsOf 3)) = xs[3]? := hf 3 _ rfl
  have h4 : DataW.trod enc Tryz.prog w base sp held n 3 ((cs.drop 5).take (Tryz.prog.cellsOf 3)) = xs[4]? := hf 4 _ rfl
  rw [cells3] at h0 h1 h3 h4
  rw [cells33] at h2
  rw [cells105] at hl
  match cs, hl with
  | [c0, c1, c2, c3, c4, c5], _ =>
    obtain ⟨a0, e0, -⟩ := openInt (h0.trans (List.getElem?_eq_getElem (by omega)))
    obtain ⟨a1, e1, -⟩ := openInt (h1.trans (List.getElem?_eq_getElem (by omega)))
    obtain ⟨a2, a3, e2⟩ := openRg (h2.trans (List.getElem?_eq_getElem (by omega)))
    obtain ⟨a4, e4, -⟩ := openInt (h3.trans (List.getElem?_eq_getElem (by omega)))
    obtain ⟨a5, e5, -⟩ := openInt (h4.trans (List.getElem?_eq_getElem (by omega)))
    simp at e0 e1 e2 e4 e5
    obtain ⟨e2, e3⟩ := e2
    subst e0 e1 e2 e3 e4 e5
    exact ⟨⟨a0, a1, a2, a3, a4, a5⟩, rfl⟩
set_option maxRecDepth 100000 in
theorem openSix107 {cs : List Value} (h : DataW.trod enc Tryz.prog w base sp held fuel 107 cs = some x) : ∃ q : Six, cs = scells q := by
  obtain ⟨xs, n, -, -, hl, hxl, hf⟩ := DataW.trod_struct Tryz.underlying107 h
  have hxl' : xs.length = 6 := hxl
  have h0 : DataW.trod enc Tryz.prog w base sp held n 3 ((cs.drop 0).take (Tryz.prog.cellsOf 3)) = xs[0]? := hf 0 _ rfl
  have h1 : DataW.trod enc Tryz.prog w base sp held n 3 ((cs.drop 1).take (Tryz.prog.cellsOf 3)) = xs[1]? := hf 1 _ rfl
  have h2 : DataW.trod enc Tryz.prog w base sp held n 3 ((cs.drop 2).take (Tryz.prog.cellsOf 3)) = xs[2]? := hf 2 _ rfl
  have h3 : DataW.trod enc Tryz.prog w base sp held n 3 ((cs.drop 3).take (Tryz.prog.cellsOf 3)) = xs[3]? := hf 3 _ rfl
  have h4 : DataW.trod enc Tryz.prog w base sp held n 3 ((cs.drop 4).take (Tryz.prog.cellsOf 3)) = xs[4]? := hf 4 _ rfl
  have h5 : DataW.trod enc Tryz.prog w base sp held n 3 ((cs.drop 5).take (Tryz.prog.cellsOf 3)) = xs[5]? := hf 5 _ rfl
  rw [cells3] at h0 h1 h2 h3 h4 h5
  rw [cells107] at hl
  match cs, hl with
  | [c0, c1, c2, c3, c4, c5], _ =>
    obtain ⟨a0, e0, -⟩ := openInt (h0.trans (List.getElem?_eq_getElem (by omega)))
    obtain ⟨a1, e1, -⟩ := openInt (h1.trans (List.getElem?_eq_getElem (by omega)))
    obtain ⟨a2, e2, -⟩ := openInt (h2.trans (List.getElem?_eq_getElem (by omega)))
    obtain ⟨a3, e3, -⟩ := openInt (h3.trans (List.getElem?_eq_getElem (by omega)))
    obtain ⟨a4, e4, -⟩ := openInt (h4.trans (List.getElem?_eq_getElem (by omega)))
    obtain ⟨a5, e5, -⟩ := openInt (h5.trans (List.getElem?_eq_getElem (by omega)))
    simp at e0 e1 e2 e3 e4 e5
    subst e0 e1 e2 e3 e4 e5
    exact ⟨⟨a0, a1, a2, a3, a4, a5⟩, rfl⟩
variable {r : Reach} {b0 : Nat} {v : Value} {d : DataW H} {p : List MemPlace}
set_option maxRecDepth 100000 in
theorem openPlot (hv : Value.okWide Tryz.prog w r b0 38 v) (h : DataW.Trod enc Tryz.prog w base sp held 38 v d p) :
    ∃ (q : Pl) (A1 A2 A3 : Option Addr) (n1 c1 n2 c2 n3 c3 : Nat), v = plv q A1 A2 A3 n1 c1 n2 c2 n3 c3 ∧ Pa w q A1 A2 A3 n1 c1 n2 c2 n3 c3 := by
  obtain ⟨cs, rfl, hsz⟩ := okWide_struct Tryz.underlying38 hv
  obtain ⟨fuel, hf⟩ := h
  rw [cells38] at hsz
  obtain ⟨u0, u1, u2, u3, u4, u5, rfl⟩ : ∃ u0 u1 u2 u3 u4 u5, cs = #[u0, u1, u2, u3, u4, u5] := by
    obtain ⟨l⟩ := cs
    match l, hsz with
    | [u0, u1, u2, u3, u4, u5], _ => exact ⟨u0, u1, u2, u3, u4, u5, rfl⟩
  obtain ⟨xs, n, -, -, hl, hxl, hf⟩ := DataW.trod_struct Tryz.underlying38 hf
  have hxl' : xs.length = 5 := hxl
  have h0 : DataW.trod enc Tryz.prog w base sp held n 33 (((Value.agg #[u0, u1, u2, u3, u4, u5]).cells.toList.drop 0).take (Tryz.prog.cellsOf 33)) = xs[0]? := hf 0 _ rfl
  have h1 : DataW.trod enc Tryz.prog w base sp held n 34 (((Value.agg #[u0, u1, u2, u3, u4, u5]).cells.toList.drop 2).take (Tryz.prog.cellsOf 34)) = xs[1]? := hf 1 _ rfl
  have h2 : DataW.trod enc Tryz.prog w base sp held n 35 (((Value.agg #[u0, u1, u2, u3, u4, u5]).cells.toList.drop 3).take (Tryz.prog.cellsOf 35)) = xs[2]? := hf 2 _ rfl
  have h3 : DataW.trod enc Tryz.prog w base sp held n 36 (((Value.agg #[u0, u1, u2, u3, u4, u5]).cells.toList.drop 4).take (Tryz.prog.cellsOf 36)) = xs[3]? := hf 3 _ rfl
  have h4 : DataW.trod enc Tryz.prog w base sp held n 3 (((Value.agg #[u0, u1, u2, u3, u4, u5]).cells.toList.drop 5).take (Tryz.prog.cellsOf 3)) = xs[4]? := hf 4 _ rfl
  rw [cells33] at h0
  rw [cells34] at h1
  rw [cells35] at h2
  rw [cells36] at h3
  rw [cells3] at h4
  obtain ⟨a, b, ha⟩ := openRg (h0.trans (List.getElem?_eq_getElem (by omega)))
  obtain ⟨g, hg, -⟩ := openInt (h4.trans (List.getElem?_eq_getElem (by omega)))
  obtain ⟨A1, n1, c1, x1, e1, l1, m1, r1⟩ := openSlice (f := scells) Tryz.underlying34 cells103 (by decide) (fun _ _ _ hq => openSix103 hq) (h1.trans (List.getElem?_eq_getElem (by omega)))
  obtain ⟨A2, n2, c2, x2, e2, l2, m2, r2⟩ := openSlice (f := scells) Tryz.underlying35 cells105 (by decide) (fun _ _ _ hq => openSix105 hq) (h2.trans (List.getElem?_eq_getElem (by omega)))
  obtain ⟨A3, n3, c3, x3, e3, l3, m3, r3⟩ := openSlice (f := scells) Tryz.underlying36 cells107 (by decide) (fun _ _ _ hq => openSix107 hq) (h3.trans (List.getElem?_eq_getElem (by omega)))
  simp [Value.cells] at ha hg e1 e2 e3
  obtain ⟨ha, hb⟩ := ha
  subst ha hb hg e1 e2 e3
  unfold maxLen at m1 m2 m3
  exact ⟨⟨a, b, x1, x2, x3, g⟩, A1, A2, A3, n1, c1, n2, c2, n3, c3, rfl, ⟨r1, r2, r3, ⟨l1, by omega⟩, ⟨l2, by omega⟩, ⟨l3, by omega⟩⟩⟩
set_option maxRecDepth 100000 in
theorem openInts (hv : Value.okWide Tryz.prog w r b0 39 v) (h : DataW.Trod enc Tryz.prog w base sp held 39 v d p) :
    ∃ (A : Option Addr) (n c : Nat) (xs : List Int), v = .slice A n c ∧ n ≤ c ∧ c ≤ 9223372036854775807 ∧ Ints w A n xs := by
  obtain ⟨a, n, c, rfl⟩ := okWide_slice Tryz.underlying39 hv
  obtain ⟨fuel, hf⟩ := h
  obtain ⟨A, n', c', xs, e, h1, h2, h3⟩ := openSlice (f := icells) Tryz.underlying39 cells3 (by decide) (fun _ _ _ hq => by obtain ⟨a, e, -⟩ := openInt hq; exact ⟨a, e⟩) hf
  simp [Value.cells] at e
  obtain ⟨rfl, rfl, rfl⟩ := e
  exact ⟨_, _, _, xs, rfl, h1, by unfold maxLen at h2; omega, h3⟩
end
end Go.Proofs.YtkoejeghihcmlaaGreat
