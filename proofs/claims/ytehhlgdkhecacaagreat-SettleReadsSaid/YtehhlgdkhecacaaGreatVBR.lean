import Derived.Test.YtehhlgdkhecacaaGreatVB
/- The row SettleReads: for every input the law returns true. -/
namespace Go.Proofs.YtehhlgdkhecacaaGreat
open Go.ChangeShapes Go.WideShapes Go.ChangeAt Go.RowKit

set_option maxRecDepth 100000 in
theorem settleReads_lifted (os : Os) (started : os.Started) (H : Type) (enc : TypeId × Value → H) :
    ReturnsInHanded {} Tryz.checked os 12 .any (Rows.settleReadsSpec.pre6 enc Tryz.prog Tryz.f12 Rows.settleReadsRow.domain false) (Rows.settleReadsSpec.post enc Tryz.prog Tryz.f12 false true false false) := by
  refine returnsInHanded_of_change (C := Tryz.checked) Tryz.own started (by kernel_rfl) Tryz.func12
    (ChangeSpec.witness6 (enc := enc) (C := Tryz.checked) false ⟨#[], #[.slice none 0 0, .agg #[.int .i64 0, .int .i64 0, .slice none 0 0], .slice none 0 0], []⟩ 8 (by kernel_rfl) (by kernel_rfl) (by kernel_rfl) (by kernel_rfl)) ?_
  intro W base args ds gs before hval0 hW hcnd _
  have hval : ∀ (j : Nat) t v, Tryz.f12.params[j]? = some t → args[j]? = some v → Value.okWide Tryz.prog W .any base t v := hval0
  have hW' := hW
  obtain ⟨p, q, hA0, hV, rfl, hfz, hnd⟩ := hW
  have hA : DataW.TrodAll enc Tryz.prog W 0 (fun _ => true) true Tryz.f12.params.toList args.toList ds p := hA0
  obtain ⟨rfl, rfl⟩ := trodVars_none hV
  have hA2 := hA
  rw [Tryz.params12] at hA hval
  obtain ⟨v0, v1, v2, d0, d1, d2, p0, p1, p2, rfl, rfl, rfl, h0, h1, h2⟩ := trodAll_three hA
  obtain ⟨B0, nb0, cb0, l0, rfl, hn0, ha0⟩ := openPrs (hval 0 22 v0 rfl rfl) h0
  obtain ⟨y0, y1, C1, nc1, cc1, k1, rfl, hc1, hm1, ha1⟩ := openSomeV (hval 1 76 v1 rfl rfl) h1
  obtain ⟨B2, nb2, cb2, l2, rfl, hc2, hm2, ha2⟩ := openIsV (hval 2 25 v2 rfl rfl) h2
  clear hA0 hval0
  simp only [List.append_nil] at hW'
  refine (law12_any B0 nb0 cb0 l0 y0 y1 C1 nc1 cc1 k1 B2 nb2 cb2 l2 W ha0 hn0 ha1 hc1 hm1 ha2 hc2 hm2).mono fun e W' ⟨he, hb⟩ => ?_
  subst he
  exact ⟨_, rfl, law_post Tryz.laidOut hW' hA2 rfl (by kernel_rfl) Tryz.underlying4 rfl rfl rfl (by kernel_rfl) hb⟩

theorem settleReads_holds : Rows.SettleReadsSaid :=
  OpenClaim.holds_of_wide 12 Tryz.f12 rfl rfl rfl rfl rfl rfl rfl ⟨rfl, rfl, rfl, rfl, rfl⟩ rfl rfl rfl rfl rfl (by kernel_rfl) Tryz.func12 (by kernel_rfl)
    (of_decide_eq_true (by kernel_rfl)) (by unfold Func.isWrapper; first | (rw [if_pos (by decide +kernel)]; kernel_rfl) | (rw [if_neg (by decide +kernel)]; exact ⟨rfl, rfl⟩))
    (fun os started H enc _ => settleReads_lifted os started H enc)
#print axioms settleReads_holds
end Go.Proofs.YtehhlgdkhecacaaGreat
