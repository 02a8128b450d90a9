/- The row MillYields. -/
import Derived.Test.YtdhhneflhmkonaaE1
namespace Go.Proofs.Ytdhhneflhmkonaa
open Go.ChangeShapes Go.WideShapes Go.ChangeAt Go.RowKit

theorem cells3 : Try.prog.cellsOf 3 = 1 := by kernel_rfl
theorem cells36 : Try.prog.cellsOf 36 = 2 := by kernel_rfl
theorem cells38 : Try.prog.cellsOf 38 = 3 := by kernel_rfl
theorem cells40 : Try.prog.cellsOf 40 = 6 := by kernel_rfl
section
variable {H : Type} {enc : TypeId × Value → H} {w : World} {base : Nat} {sp : Nat → Bool} {held : Bool}
set_option maxRecDepth 100000 in
theorem open36 {fuel : Nat} {cs : List Value} {x : DataW H × List MemPlace} (h : DataW.trod enc Try.prog w base sp held fuel 36 cs = some x) : ∃ a b : Int, cs = [.int .i64 a, .int .i64 b] := by
  obtain ⟨xs, n, -, -, hl, hxl, hf⟩ := DataW.trod_struct Try.underlying36 h
  have h0 : DataW.trod enc Try.prog w base sp held n 3 ((cs.drop 0).take (Try.prog.cellsOf 3)) = xs[0]? := hf 0 _ rfl
  have h1 : DataW.trod enc Try.prog w base sp held n 3 ((cs.drop 1).take (Try.prog.cellsOf 3)) = xs[1]? := hf 1 _ rfl
  rw [cells3] at h0 h1
  rw [cells36] at hl
  have hxl' : xs.length = 2 := hxl
  match cs, hl with
  | [c0, c1], _ =>
    obtain ⟨a, ha, -, -⟩ := DataW.trod_int Try.underlying3 (h0.trans (List.getElem?_eq_getElem (by omega)))
    obtain ⟨b, hb, -, -⟩ := DataW.trod_int Try.underlying3 (h1.trans (List.getElem?_eq_getElem (by omega)))
    simp at ha hb
    exact ⟨a, b, by rw [ha, hb]⟩
set_option maxRecDepth 100000 in
theorem openYield {r : Reach} {b0 : Nat} {v : Value} {d : DataW H} {p : List MemPlace} (hv : Value.okWide Try.prog w r b0 38 v) (h : DataW.Trod enc Try.prog w base sp held 38 v d p) : ∃ y : Yield, v = yv y := by
  obtain ⟨cs, rfl, hsz⟩ := okWide_struct Try.underlying38 hv
  obtain ⟨fuel, hf⟩ := h
  rw [cells38] at hsz
  obtain ⟨c0, c1, c2, rfl⟩ : ∃ c0 c1 c2, cs = #[c0, c1, c2] := by
    obtain ⟨l⟩ := cs
    match l, hsz with
    | [c0, c1, c2], _ => exact ⟨c0, c1, c2, rfl⟩
  obtain ⟨xs, n, -, -, hl, hxl, hf⟩ := DataW.trod_struct Try.underlying38 hf
  have hxl' : xs.length = 2 := hxl
  have h0 : DataW.trod enc Try.prog w base sp held n 36 (((Value.agg #[c0, c1, c2]).cells.toList.drop 0).take (Try.prog.cellsOf 36)) = xs[0]? := hf 0 _ rfl
  have h1 : DataW.trod enc Try.prog w base sp held n 3 (((Value.agg #[c0, c1, c2]).cells.toList.drop 2).take (Try.prog.cellsOf 3)) = xs[1]? := hf 1 _ rfl
  rw [cells36] at h0
  rw [cells3] at h1
  obtain ⟨a, b, hab⟩ := open36 (h0.trans (List.getElem?_eq_getElem (by omega)))
  obtain ⟨c, hc, -, -⟩ := DataW.trod_int Try.underlying3 (h1.trans (List.getElem?_eq_getElem (by omega)))
  simp [Value.cells] at hab hc
  obtain ⟨rfl, rfl⟩ := hab
  subst hc
  exact ⟨⟨a, b, c⟩, rfl⟩
set_option maxRecDepth 100000 in
theorem openCorn {r : Reach} {b0 : Nat} {v : Value} {d : DataW H} {p : List MemPlace} (hv : Value.okWide Try.prog w r b0 40 v) (h : DataW.Trod enc Try.prog w base sp held 40 v d p) : ∃ (p q : Rng) (m n : Int), v = cornv p q m n := by
  obtain ⟨cs, rfl, hsz⟩ := okWide_struct Try.underlying40 hv
  obtain ⟨fuel, hf⟩ := h
  rw [cells40] at hsz
  obtain ⟨c0, c1, c2, c3, c4, c5, rfl⟩ : ∃ c0 c1 c2 c3 c4 c5, cs = #[c0, c1, c2, c3, c4, c5] := by
    obtain ⟨l⟩ := cs
    match l, hsz with
    | [c0, c1, c2, c3, c4, c5], _ => exact ⟨c0, c1, c2, c3, c4, c5, rfl⟩
  obtain ⟨xs, n, -, -, hl, hxl, hf⟩ := DataW.trod_struct Try.underlying40 hf
  have hxl' : xs.length = 4 := hxl
  have h0 : DataW.trod enc Try.prog w base sp held n 36 (((Value.agg #[c0, c1, c2, c3, c4, c5]).cells.toList.drop 0).take (Try.prog.cellsOf 36)) = xs[0]? := hf 0 _ rfl
  have h1 : DataW.trod enc Try.prog w base sp held n 36 (((Value.agg #[c0, c1, c2, c3, c4, c5]).cells.toList.drop 2).take (Try.prog.cellsOf 36)) = xs[1]? := hf 1 _ rfl
  have h2 : DataW.trod enc Try.prog w base sp held n 3 (((Value.agg #[c0, c1, c2, c3, c4, c5]).cells.toList.drop 4).take (Try.prog.cellsOf 3)) = xs[2]? := hf 2 _ rfl
  have h3 : DataW.trod enc Try.prog w base sp held n 3 (((Value.agg #[c0, c1, c2, c3, c4, c5]).cells.toList.drop 5).take (Try.prog.cellsOf 3)) = xs[3]? := hf 3 _ rfl
  rw [cells36] at h0 h1
  rw [cells3] at h2 h3
  obtain ⟨a, b, hab⟩ := open36 (h0.trans (List.getElem?_eq_getElem (by omega)))
  obtain ⟨a', b', hab'⟩ := open36 (h1.trans (List.getElem?_eq_getElem (by omega)))
  obtain ⟨c, hc, -, -⟩ := DataW.trod_int Try.underlying3 (h2.trans (List.getElem?_eq_getElem (by omega)))
  obtain ⟨c', hc', -, -⟩ := DataW.trod_int Try.underlying3 (h3.trans (List.getElem?_eq_getElem (by omega)))
  simp [Value.cells] at hab hab' hc hc'
  obtain ⟨rfl, rfl⟩ := hab
  obtain ⟨rfl, rfl⟩ := hab'
  subst hc hc'
  exact ⟨⟨a, b⟩, ⟨a', b'⟩, c, c', rfl⟩
end

set_option maxRecDepth 100000 in
theorem millYields_lifted (os : Os) (started : os.Started) (H : Type) (enc : TypeId × Value → H) :
    ReturnsInHanded {} Try.checked os 4 .any (Rows.millYieldsSpec.pre6 enc Try.prog Try.f4 Rows.millYieldsRow.domain false) (Rows.millYieldsSpec.post enc Try.prog Try.f4 false true false false) := by
  refine returnsInHanded_of_change (C := Try.checked) Try.own started (by kernel_rfl) Try.func4
    (ChangeSpec.witness6 (enc := enc) (C := Try.checked) false ⟨#[], #[.agg #[.int .i64 0, .int .i64 0, .int .i64 0], .agg #[.int .i64 0, .int .i64 0, .int .i64 0, .int .i64 0, .int .i64 0, .int .i64 0]], []⟩ 8 (by kernel_rfl) (by kernel_rfl) (by kernel_rfl) (by kernel_rfl)) ?_
  intro W base args ds gs before hval0 hW hcnd _
  have hval : ∀ (j : Nat) t v, Try.f4.params[j]? = some t → args[j]? = some v → Value.okWide Try.prog W .any base t v := hval0
  have hW' := hW
  obtain ⟨p, q, hA0, hV, rfl, hfz, hnd⟩ := hW
  have hA : DataW.TrodAll enc Try.prog W 0 (fun _ => true) true Try.f4.params.toList args.toList ds p := hA0
  obtain ⟨rfl, rfl⟩ := trodVars_none hV
  have hA2 := hA
  rw [Try.params4] at hA hval
  obtain ⟨v0, v1, d0, d1, p0, p1, rfl, rfl, rfl, h0, h1⟩ := trodAll_two hA
  obtain ⟨y, rfl⟩ := openYield (hval 0 38 v0 rfl rfl) h0
  obtain ⟨r1, r2, m, n, rfl⟩ := openCorn (hval 1 40 v1 rfl rfl) h1
  clear hA0 hval0
  simp only [List.append_nil] at hW'
  refine (law4_any y r1 r2 m n W).mono fun e W' ⟨he, hb⟩ => ?_
  subst he
  exact ⟨_, rfl, law_post Try.laidOut hW' hA2 rfl (by kernel_rfl) Try.underlying4 rfl rfl rfl (by kernel_rfl) hb⟩

theorem millYields_holds : Rows.MillYieldsSaid :=
  OpenClaim.holds_of_wide 4 Try.f4 rfl rfl rfl rfl rfl rfl rfl ⟨rfl, rfl, rfl, rfl, rfl⟩ rfl rfl rfl rfl rfl (by kernel_rfl) Try.func4 (by kernel_rfl)
    (of_decide_eq_true (by kernel_rfl)) (by unfold Func.isWrapper; first | (rw [if_pos (by decide +kernel)]; kernel_rfl) | (rw [if_neg (by decide +kernel)]; exact ⟨rfl, rfl⟩))
    (fun os started H enc _ => millYields_lifted os started H enc)
#print axioms millYields_holds
end Go.Proofs.Ytdhhneflhmkonaa
