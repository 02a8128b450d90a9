/- The row MillComes: for every input the law returns true. -/
import Derived.Test.YtdhhneflhmkonaaL3
import Derived.Test.YtdhhneflhmkonaaE6
namespace Go.Proofs.Ytdhhneflhmkonaa
open Go.ChangeShapes Go.WideShapes Go.ChangeAt Go.RowKit

set_option maxRecDepth 100000 in
theorem millComes_lifted (os : Os) (started : os.Started) (H : Type) (enc : TypeId × Value → H) :
    ReturnsInHanded {} Try.checked os 3 .any (Rows.millComesSpec.pre6 enc Try.prog Try.f3 Rows.millComesRow.domain false) (Rows.millComesSpec.post enc Try.prog Try.f3 false true false false) := by
  refine returnsInHanded_of_change (C := Try.checked) Try.own started (by kernel_rfl) Try.func3
    (ChangeSpec.witness6 (enc := enc) (C := Try.checked) false ⟨#[], #[.agg #[.int .i64 0, .slice none 0 0], .int .i64 0, .int .i64 0], []⟩ 8 (by kernel_rfl) (by kernel_rfl) (by kernel_rfl) (by kernel_rfl)) ?_
  intro W base args ds gs before hval0 hW hcnd _
  have hval : ∀ (j : Nat) t v, Try.f3.params[j]? = some t → args[j]? = some v → Value.okWide Try.prog W .any base t v := hval0
  have hW' := hW
  obtain ⟨p, q, hA0, hV, rfl, hfz, hnd⟩ := hW
  have hA : DataW.TrodAll enc Try.prog W 0 (fun _ => true) true Try.f3.params.toList args.toList ds p := hA0
  obtain ⟨rfl, rfl⟩ := trodVars_none hV
  have hA2 := hA
  rw [Try.params3] at hA hval
  obtain ⟨v0, v1, v2, d0, d1, d2, p0, p1, p2, rfl, rfl, rfl, h0, h1, h2⟩ := trodAll_three hA
  obtain ⟨hh0, A0, n0, c0, xs0, rfl, hl0, hu0, hc0, hm0, ha0⟩ := openMill (hval 0 24 v0 rfl rfl) h0
  obtain ⟨a1, rfl, al1, au1⟩ := openIntV (hval 1 3 v1 rfl rfl) h1
  obtain ⟨a2, rfl, al2, au2⟩ := openIntV (hval 2 3 v2 rfl rfl) h2
  clear hA0 hval0
  simp only [List.append_nil] at hW'
  refine (law3_any A0 n0 c0 hh0 a1 a2 xs0 W ha0 hc0 (by unfold maxLen at hm0; omega) ⟨hl0, hu0⟩).mono fun e W' ⟨he, hb⟩ => ?_
  subst he
  exact ⟨_, rfl, law_post Try.laidOut hW' hA2 rfl (by kernel_rfl) Try.underlying4 rfl rfl rfl (by kernel_rfl) hb⟩

theorem millComes_holds : Rows.MillComesSaid :=
  OpenClaim.holds_of_wide 3 Try.f3 rfl rfl rfl rfl rfl rfl rfl ⟨rfl, rfl, rfl, rfl, rfl⟩ rfl rfl rfl rfl rfl (by kernel_rfl) Try.func3 (by kernel_rfl)
    (of_decide_eq_true (by kernel_rfl)) (by unfold Func.isWrapper; first | (rw [if_pos (by decide +kernel)]; kernel_rfl) | (rw [if_neg (by decide +kernel)]; exact ⟨rfl, rfl⟩))
    (fun os started H enc _ => millComes_lifted os started H enc)
#print axioms millComes_holds
end Go.Proofs.Ytdhhneflhmkonaa
