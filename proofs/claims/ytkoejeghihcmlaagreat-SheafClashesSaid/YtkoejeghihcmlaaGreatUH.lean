/- The reference: all sources; Check. -/
import Derived.Test.YtkoejeghihcmlaaGreatMD
import Derived.Test.YtkoejeghihcmlaaGreatUG
namespace Go.Proofs.YtkoejeghihcmlaaGreat
open Go.RowKit Go.Shelf

/-- All sources, list by list. -/
def srcs3 (p : Pl) : List Int := srcs p.loads ++ srcs p.stands ++ srcs p.spells
theorem srcs_zero (l : List Int) (xs : List Six) : l ++ srcs (xs.take 0) = l := by unfold srcs; simp
theorem srcs_len (l : List Six) : (srcs l).length = l.length := List.length_map _
theorem srcs_snoc {l : List Six} {k : Nat} (hk : k < l.length) : srcs (l.take (k + 1)) = srcs (l.take k) ++ [(l.getD k z6).a] := srcs_take (getD_six hk)
set_option maxRecDepth 100000 in
set_option maxHeartbeats 4000000 in
theorem refSources_any (p : Pl) (A1 A2 A3 : Option Addr) (n1 c1 n2 c2 n3 c3 : Nat) (w : World) (hp : Pa w p A1 A2 A3 n1 c1 n2 c2 n3 c3) (hnb : n1 ≤ 1000 ∧ n2 ≤ 1000 ∧ n3 ≤ 1000) :
    Calls Tryz.prog 137 #[plv p A1 A2 A3 n1 c1 n2 c2 n3 c3] w fun e w' => (∃ v, e = .returned v ∧ OwnL icells 1 3 w' w.heap.size v (srcs3 p)) ∧ Below w.heap.size w w' := by
  obtain ⟨W0, hW0⟩ : ∃ W0, w.alloc (.cells (plb p A1 A2 A3 n1 c1 n2 c2 n3 c3) 38) = W0 := ⟨_, rfl⟩
  have g0 : Below w.heap.size w W0 := by rw [← hW0]; exact one_more _ _
  have b0 : Blk W0 w.heap.size 38 (plb p A1 A2 A3 n1 c1 n2 c2 n3 c3) := by rw [← hW0]; exact Blk.new _ _ _
  have HNB := Lib.hid hnb
  have HL1 := Lib.hid (hp.l1.below g0)
  have HL2 := Lib.hid (hp.l2.below g0)
  have HL3 := Lib.hid (hp.l3.below g0)
  have GA := Lib.hid g0
  have HB0 := Lib.hid b0
  have HW0 := Lib.hid hW0
  have HGZ := Lib.hid (Below.refl W0.heap.size W0)
  have OS0 := Lib.hid (OwnL.nil (f := icells) (size := 1) (e := 3) W0 W0.heap.size)
  clear hp g0 b0 hW0 hnb
  go_enter Tryz.func137, Tryz.ntmps137
  go_upto_region 1 with fail
  rw [HW0.out]
  go_wp2_with fail
  go_loopw [3, 4] (fun v i wr => ∃ (k : Nat) (u : Value), u = v ∧ i = .int .i64 k ∧ k ≤ n1 ∧ Below W0.heap.size W0 wr ∧ OwnL icells 1 3 wr W0.heap.size v (([] : List Int) ++ srcs (p.loads.take k))) (fun _ i _ => n1 - (intOf i).toNat)
  case atStart => exact ⟨0, _, rfl, rfl, Nat.zero_le _, HGZ.out, by rw [srcs_zero]; exact OS0.out⟩
  case round =>
    obtain ⟨k, u, rfl, rfl, hk, hg, hown⟩ := hrel
    have HG := Lib.hid hg
    have HO := Lib.hid hown
    have q1 := (HB0.out.ext hg).cell 2
    by_cases hkn : k < n1
    · obtain ⟨b0, o0, e0, -, -, hc⟩ := six_at (HL1.out.below hg) hkn
      obtain ⟨x0, x1, x2, x3, x4, x5⟩ := hc _ (Below.refl _ _)
      have HN := Lib.hid (srcs_snoc (l := p.loads) (k := k) (by rw [HL1.out.1]; exact hkn))
      obtain ⟨x, hxg⟩ : ∃ x, p.loads.getD k z6 = x := ⟨_, rfl⟩
      rw [hxg] at x0 x1 x2 x3 x4 x5 HN
      subst e0
      have hki : (k : Int) < (n1 : Int) := by omega
      have HLEN := Lib.hid (show (([] : List Int) ++ srcs (p.loads.take k)).length + 1 ≤ 1000000 by
        have hb := HNB.out
        have h1 := HL1.out.1
        have e1 := HL1.out.1
        have e2 := HL2.out.1
        have e3 := HL3.out.1
        simp only [List.length_append, srcs_len, List.length_take, List.length_nil]
        omega)
      have OX := Lib.hid (HO.out.ext (one_more wr (.cells #[.int .i64 x.a] 3)))
      have IX := Lib.hid (one_int (Blk.new wr 3 #[.int .i64 x.a]))
      have hws := HG.out.size
      have hk9 : k < 1000 := by have := HNB.out; omega
      clear hc hxg hg hown
      go_wp2_with (at_builtin; go_loud (refine wpList_app kdI (by rfl) _ _ (by rfl) W0.heap.size _ (([] : List Int) ++ srcs (p.loads.take k)) (by rfl) OX.out _ 1 1 [x.a] (by rfl) IX.out HLEN.out (by simp; omega) ?_); intro v' w' ho hbw hz; have HO2 := Lib.hid ho; have HB2 := Lib.hid ((OX.out).below hbw (B := W0.heap.size) (Nat.le_refl _) (by simp; omega)); clear ho hbw hz)
      go_roundw
      case rel => exact ⟨k + 1, _, rfl, by go_num, by omega, (HG.out.trans ((one_more wr _).mono HG.out.size)).trans HB2.out, by rw [HN.out, ← List.append_assoc]; exact HO2.out⟩
      case measure => simp [intOf]; omega
    · obtain rfl : n1 = k := by omega
      have HEND1 := Lib.hid (show OwnL icells 1 3 wr W0.heap.size u (([] : List Int) ++ srcs p.loads) by have := HO.out; rwa [List.take_of_length_le (by rw [HL1.out.1]; exact Nat.le_refl _)] at this)
      have HGE1 := Lib.hid (show Below W0.heap.size W0 wr from HG.out)
      clear HG HO hg hown
      obtain ⟨V1, hV1⟩ : ∃ V, wr = V := ⟨_, rfl⟩
      obtain ⟨v1, hv1⟩ : ∃ v1, u = v1 := ⟨_, rfl⟩
      rw [hV1] at HEND1 HGE1 q1 ⊢
      rw [hv1] at HEND1 ⊢
      clear hV1 hv1 hkn hk
      go_wp2_with fail
      go_loopw [3, 5] (fun v i wr => ∃ (k : Nat) (u : Value), u = v ∧ i = .int .i64 k ∧ k ≤ n2 ∧ Below W0.heap.size W0 wr ∧ OwnL icells 1 3 wr W0.heap.size v (([] ++ srcs p.loads) ++ srcs (p.stands.take k))) (fun _ i _ => n2 - (intOf i).toNat)
      case atStart => exact ⟨0, _, rfl, rfl, Nat.zero_le _, HGE1.out, by rw [srcs_zero]; exact HEND1.out⟩
      case round =>
        obtain ⟨k, u, rfl, rfl, hk, hg, hown⟩ := hrel
        have HG := Lib.hid hg
        have HO := Lib.hid hown
        have q1 := (HB0.out.ext hg).cell 3
        by_cases hkn : k < n2
        · obtain ⟨b0, o0, e0, -, -, hc⟩ := six_at (HL2.out.below hg) hkn
          obtain ⟨x0, x1, x2, x3, x4, x5⟩ := hc _ (Below.refl _ _)
          have HN := Lib.hid (srcs_snoc (l := p.stands) (k := k) (by rw [HL2.out.1]; exact hkn))
          obtain ⟨x, hxg⟩ : ∃ x, p.stands.getD k z6 = x := ⟨_, rfl⟩
          rw [hxg] at x0 x1 x2 x3 x4 x5 HN
          subst e0
          have hki : (k : Int) < (n2 : Int) := by omega
          have HLEN := Lib.hid (show (([] ++ srcs p.loads) ++ srcs (p.stands.take k)).length + 1 ≤ 1000000 by
            have hb := HNB.out
            have h1 := HL2.out.1
            have e1 := HL1.out.1
            have e2 := HL2.out.1
            have e3 := HL3.out.1
            simp only [List.length_append, srcs_len, List.length_take, List.length_nil]
            omega)
          have OX := Lib.hid (HO.out.ext (one_more wr (.cells #[.int .i64 x.a] 3)))
          have IX := Lib.hid (one_int (Blk.new wr 3 #[.int .i64 x.a]))
          have hws := HG.out.size
          have hk9 : k < 1000 := by have := HNB.out; omega
          clear hc hxg hg hown
          go_wp2_with (at_builtin; go_loud (refine wpList_app kdI (by rfl) _ _ (by rfl) W0.heap.size _ (([] ++ srcs p.loads) ++ srcs (p.stands.take k)) (by rfl) OX.out _ 1 1 [x.a] (by rfl) IX.out HLEN.out (by simp; omega) ?_); intro v' w' ho hbw hz; have HO2 := Lib.hid ho; have HB2 := Lib.hid ((OX.out).below hbw (B := W0.heap.size) (Nat.le_refl _) (by simp; omega)); clear ho hbw hz)
          go_roundw
          case rel => exact ⟨k + 1, _, rfl, by go_num, by omega, (HG.out.trans ((one_more wr _).mono HG.out.size)).trans HB2.out, by rw [HN.out, ← List.append_assoc]; exact HO2.out⟩
          case measure => simp [intOf]; omega
        · obtain rfl : n2 = k := by omega
          have HEND2 := Lib.hid (show OwnL icells 1 3 wr W0.heap.size u (([] ++ srcs p.loads) ++ srcs p.stands) by have := HO.out; rwa [List.take_of_length_le (by rw [HL2.out.1]; exact Nat.le_refl _)] at this)
          have HGE2 := Lib.hid (show Below W0.heap.size W0 wr from HG.out)
          clear HG HO hg hown
          obtain ⟨V2, hV2⟩ : ∃ V, wr = V := ⟨_, rfl⟩
          obtain ⟨v2, hv2⟩ : ∃ v1, u = v1 := ⟨_, rfl⟩
          rw [hV2] at HEND2 HGE2 q1 ⊢
          rw [hv2] at HEND2 ⊢
          clear hV2 hv2 hkn hk
          go_wp2_with fail
          go_loopw [3, 6] (fun v i wr => ∃ (k : Nat) (u : Value), u = v ∧ i = .int .i64 k ∧ k ≤ n3 ∧ Below W0.heap.size W0 wr ∧ OwnL icells 1 3 wr W0.heap.size v (([] ++ srcs p.loads ++ srcs p.stands) ++ srcs (p.spells.take k))) (fun _ i _ => n3 - (intOf i).toNat)
          case atStart => exact ⟨0, _, rfl, rfl, Nat.zero_le _, HGE2.out, by rw [srcs_zero]; exact HEND2.out⟩
          case round =>
            obtain ⟨k, u, rfl, rfl, hk, hg, hown⟩ := hrel
            have HG := Lib.hid hg
            have HO := Lib.hid hown
            have q1 := (HB0.out.ext hg).cell 4
            by_cases hkn : k < n3
            · obtain ⟨b0, o0, e0, -, -, hc⟩ := six_at (HL3.out.below hg) hkn
              obtain ⟨x0, x1, x2, x3, x4, x5⟩ := hc _ (Below.refl _ _)
              have HN := Lib.hid (srcs_snoc (l := p.spells) (k := k) (by rw [HL3.out.1]; exact hkn))
              obtain ⟨x, hxg⟩ : ∃ x, p.spells.getD k z6 = x := ⟨_, rfl⟩
              rw [hxg] at x0 x1 x2 x3 x4 x5 HN
              subst e0
              have hki : (k : Int) < (n3 : Int) := by omega
              have HLEN := Lib.hid (show (([] ++ srcs p.loads ++ srcs p.stands) ++ srcs (p.spells.take k)).length + 1 ≤ 1000000 by
                have hb := HNB.out
                have h1 := HL3.out.1
                have e1 := HL1.out.1
                have e2 := HL2.out.1
                have e3 := HL3.out.1
                simp only [List.length_append, srcs_len, List.length_take, List.length_nil]
                omega)
              have OX := Lib.hid (HO.out.ext (one_more wr (.cells #[.int .i64 x.a] 3)))
              have IX := Lib.hid (one_int (Blk.new wr 3 #[.int .i64 x.a]))
              have hws := HG.out.size
              have hk9 : k < 1000 := by have := HNB.out; omega
              clear hc hxg hg hown
              go_wp2_with (at_builtin; go_loud (refine wpList_app kdI (by rfl) _ _ (by rfl) W0.heap.size _ (([] ++ srcs p.loads ++ srcs p.stands) ++ srcs (p.spells.take k)) (by rfl) OX.out _ 1 1 [x.a] (by rfl) IX.out HLEN.out (by simp; omega) ?_); intro v' w' ho hbw hz; have HO2 := Lib.hid ho; have HB2 := Lib.hid ((OX.out).below hbw (B := W0.heap.size) (Nat.le_refl _) (by simp; omega)); clear ho hbw hz)
              go_roundw
              case rel => exact ⟨k + 1, _, rfl, by go_num, by omega, (HG.out.trans ((one_more wr _).mono HG.out.size)).trans HB2.out, by rw [HN.out, ← List.append_assoc]; exact HO2.out⟩
              case measure => simp [intOf]; omega
            · obtain rfl : n3 = k := by omega
              have HEND3 := Lib.hid (show OwnL icells 1 3 wr W0.heap.size u (([] ++ srcs p.loads ++ srcs p.stands) ++ srcs p.spells) by have := HO.out; rwa [List.take_of_length_le (by rw [HL3.out.1]; exact Nat.le_refl _)] at this)
              have HGE3 := Lib.hid (show Below W0.heap.size W0 wr from HG.out)
              clear HG HO hg hown
              obtain ⟨V3, hV3⟩ : ∃ V, wr = V := ⟨_, rfl⟩
              obtain ⟨v3, hv3⟩ : ∃ v1, u = v1 := ⟨_, rfl⟩
              rw [hV3] at HEND3 HGE3 q1 ⊢
              rw [hv3] at HEND3 ⊢
              clear hV3 hv3 hkn hk
              go_wp2_with fail
              go_ret
              refine ⟨⟨_, rfl, ?_⟩, GA.out.trans (HGE3.out.mono GA.out.size)⟩
              have := HEND3.out
              rw [List.nil_append] at this
              exact this.mono GA.out.size
end Go.Proofs.YtkoejeghihcmlaaGreat
