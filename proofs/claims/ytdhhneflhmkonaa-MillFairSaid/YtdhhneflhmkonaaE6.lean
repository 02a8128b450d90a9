/- Rows' ends: a slice of pairs, a pair, two slices of numbers. -/
import Derived.Test.YtdhhneflhmkonaaE3
import Derived.Test.YtdhhneflhmkonaaM1
namespace Go.Proofs.Ytdhhneflhmkonaa
open Go.ChangeShapes Go.WideShapes Go.ChangeAt Go.RowKit
section
variable {H : Type} {enc : TypeId × Value → H} {w : World} {base : Nat} {sp : Nat → Bool} {held : Bool} {fuel : Nat} {cs : List Value} {x : DataW H × List MemPlace}
set_option maxRecDepth 100000 in
theorem openPairCells (h : DataW.trod enc Try.prog w base sp held fuel 50 cs = some x) : ∃ p : Pr, cs = pcells p ∧ (-9223372036854775808 ≤ p.1 ∧ p.1 ≤ 9223372036854775807) ∧ -9223372036854775808 ≤ p.2 ∧ p.2 ≤ 9223372036854775807 := by
  obtain ⟨xs, n, -, -, hl, hxl, hf⟩ := DataW.trod_array Try.underlying50 h
  rw [cells3] at hf
  rw [cells50] at hl
  match cs, hl with
  | [c0, c1], _ =>
    obtain ⟨a0, e0, b0⟩ := openInt ((hf 0 (by decide)).trans (List.getElem?_eq_getElem (by omega)))
    obtain ⟨a1, e1, b1⟩ := openInt ((hf 1 (by decide)).trans (List.getElem?_eq_getElem (by omega)))
    simp at e0 e1
    subst e0 e1
    exact ⟨(a0, a1), rfl, b0, b1⟩
variable {r : Reach} {b0 : Nat} {v : Value} {d : DataW H} {p : List MemPlace}
set_option maxRecDepth 100000 in
theorem openPairs (hv : Value.okWide Try.prog w r b0 49 v) (h : DataW.Trod enc Try.prog w base sp held 49 v d p) :
    ∃ (A : Option Addr) (n c : Nat) (xs : List Pr), v = .slice A n c ∧ n ≤ c ∧ c ≤ maxLen ∧ Arr pcells 2 w A n xs := by
  obtain ⟨a, n, c, rfl⟩ := okWide_slice Try.underlying49 hv
  obtain ⟨fuel, hf⟩ := h
  obtain ⟨A, n', c', xs, e, h1⟩ := openSlice (f := pcells) Try.underlying49 cells50 (by decide) (fun _ _ _ hq => by obtain ⟨a, e, -⟩ := openPairCells hq; exact ⟨a, e⟩) hf
  simp [Value.cells] at e
  obtain ⟨rfl, rfl, rfl⟩ := e
  exact ⟨_, _, _, xs, rfl, h1⟩
set_option maxRecDepth 100000 in
theorem openPair (hv : Value.okWide Try.prog w r b0 50 v) (h : DataW.Trod enc Try.prog w base sp held 50 v d p) :
    ∃ a b : Int, v = .agg #[.int .i64 a, .int .i64 b] ∧ -9223372036854775808 ≤ a ∧ a ≤ 9223372036854775807 ∧ -9223372036854775808 ≤ b ∧ b ≤ 9223372036854775807 := by
  obtain ⟨cs, rfl, hsz⟩ := okWide_array Try.underlying50 hv
  obtain ⟨fuel, hf⟩ := h
  obtain ⟨q, e, ⟨h1, h2⟩, h3⟩ := openPairCells hf
  refine ⟨q.1, q.2, ?_, h1, h2, h3⟩
  have : cs = #[.int .i64 q.1, .int .i64 q.2] := by
    apply Array.ext'
    simpa [Value.cells, pcells] using e
  rw [this]
set_option maxRecDepth 100000 in
theorem openIntsCells (h : DataW.trod enc Try.prog w base sp held fuel 28 cs = some x) : ∃ A n c xs, cs = [.slice A n c] ∧ n ≤ c ∧ c ≤ maxLen ∧ Ints w A n xs :=
  openSlice (f := icells) Try.underlying28 cells3 (by decide) (fun _ _ _ hq => by obtain ⟨a, e, -⟩ := openInt hq; exact ⟨a, e⟩) h
set_option maxRecDepth 100000 in
theorem openTwo (hv : Value.okWide Try.prog w r b0 77 v) (h : DataW.Trod enc Try.prog w base sp held 77 v d p) :
    ∃ (A : Option Addr) (n c : Nat) (xs : List Int) (B : Option Addr) (m e : Nat) (ys : List Int), v = .agg #[.slice A n c, .slice B m e] ∧ n ≤ c ∧ c ≤ maxLen ∧ Ints w A n xs ∧ m ≤ e ∧ e ≤ maxLen ∧ Ints w B m ys := by
  obtain ⟨cs, rfl, hsz⟩ := okWide_array Try.underlying77 hv
  obtain ⟨fuel, hf⟩ := h
  rw [cells77] at hsz
  obtain ⟨c0, c1, rfl⟩ : ∃ c0 c1, cs = #[c0, c1] := by
    obtain ⟨l⟩ := cs
    match l, hsz with
    | [c0, c1], _ => exact ⟨c0, c1, rfl⟩
  obtain ⟨xs, n, -, -, hl, hxl, hf⟩ := DataW.trod_array Try.underlying77 hf
  rw [cells28] at hf
  obtain ⟨A, n0, k0, x0, e0, h0⟩ := openIntsCells ((hf 0 (by decide)).trans (List.getElem?_eq_getElem (by omega)))
  obtain ⟨B, n1, k1, x1, e1, h1⟩ := openIntsCells ((hf 1 (by decide)).trans (List.getElem?_eq_getElem (by omega)))
  simp [Value.cells] at e0 e1
  subst e0 e1
  exact ⟨A, n0, k0, x0, B, n1, k1, x1, rfl, h0.1, h0.2.1, h0.2.2, h1⟩
end
end Go.Proofs.Ytdhhneflhmkonaa
