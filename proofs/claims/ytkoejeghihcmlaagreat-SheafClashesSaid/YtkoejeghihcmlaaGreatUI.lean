/- The reference: Check, asked. -/
import Derived.Test.YtkoejeghihcmlaaGreatME
import Derived.Test.YtkoejeghihcmlaaGreatUH
namespace Go.Proofs.YtkoejeghihcmlaaGreat
open Go.RowKit Go.Shelf

def okR (is : Six → Bool) (l : List Six) (j : Nat) : Bool := is (l.getD j z6) && (decide (j = 0) || decide ((l.getD (j - 1) z6).a < (l.getD j z6).a))
/-- No number twice. -/
def Once (l : List Int) : Prop := ∀ j, j < l.length → l.getD j 0 ∉ l.take j
theorem getD_src {l : List Six} {j : Nat} (h : j < l.length) : (srcs l).getD j 0 = (l.getD j z6).a := by
  unfold srcs
  rw [List.getD_eq_getElem?_getD, List.getD_eq_getElem?_getD, List.getElem?_map, List.getElem?_eq_getElem h]; rfl
theorem take_src (l : List Six) (j : Nat) : srcs (l.take j) = (srcs l).take j := by unfold srcs; rw [List.map_take]
theorem once_app {a b : List Int} : Once (a ++ b) ↔ Once a ∧ ∀ j, j < b.length → b.getD j 0 ∉ a ++ b.take j := by
  unfold Once
  constructor
  · intro h
    refine ⟨fun j hj => ?_, fun j hj => ?_⟩
    · have := h j (by rw [List.length_append]; omega)
      rw [List.take_append_of_le_length (by omega), List.getD_eq_getElem?_getD, List.getElem?_append_left hj, ← List.getD_eq_getElem?_getD] at this
      exact this
    · have := h (a.length + j) (by rw [List.length_append]; omega)
      rw [List.take_append, List.take_of_length_le (by omega), show a.length + j - a.length = j by omega, List.getD_eq_getElem?_getD, List.getElem?_append_right (by omega), show a.length + j - a.length = j by omega, ← List.getD_eq_getElem?_getD] at this
      exact this
  · rintro ⟨h1, h2⟩ j hj
    rw [List.length_append] at hj
    by_cases hc : j < a.length
    · rw [List.take_append_of_le_length (by omega), List.getD_eq_getElem?_getD, List.getElem?_append_left hc, ← List.getD_eq_getElem?_getD]
      exact h1 j hc
    · have := h2 (j - a.length) (by omega)
      rw [List.take_append, List.take_of_length_le (by omega), List.getD_eq_getElem?_getD, List.getElem?_append_right (by omega), ← List.getD_eq_getElem?_getD]
      exact this
theorem okL_parts {is : Six → Bool} {ks : List Int} {l : List Six} : okL is ks l = true ↔ l.length ≤ 60 ∧ (∀ j, j < l.length → okR is l j = true) ∧ ∀ j, j < (srcs l).length → (srcs l).getD j 0 ∉ ks ++ (srcs l).take j := by
  unfold okL
  rw [Bool.and_eq_true, List.all_eq_true, decide_eq_true_eq]
  have e : ∀ j, j < l.length → (okAt is ks l j = true ↔ okR is l j = true ∧ (srcs l).getD j 0 ∉ ks ++ (srcs l).take j) := fun j hj => by
    unfold okAt okR
    rw [Bool.and_eq_true, Bool.not_eq_true', getD_src hj, take_src, ← Bool.not_eq_true, List.contains_iff_mem]
  constructor
  · rintro ⟨h1, h2⟩
    refine ⟨h2, fun j hj => ((e j hj).1 (h1 j (List.mem_range.2 hj))).1, fun j hj => ?_⟩
    rw [srcs_len] at hj
    exact ((e j hj).1 (h1 j (List.mem_range.2 hj))).2
  · rintro ⟨h2, h1, h3⟩
    exact ⟨fun j hj => (e j (List.mem_range.1 hj)).2 ⟨h1 j (List.mem_range.1 hj), h3 j (by rw [srcs_len]; exact List.mem_range.1 hj)⟩, h2⟩
theorem okPl_ref {p : Pl} : okPl p = true ↔ (okSh p.lo p.hi = true ∧ rng p.geese 0 60 = true ∧ p.loads.length ≤ 60 ∧ p.stands.length ≤ 60 ∧ p.spells.length ≤ 60) ∧ (∀ j, j < p.loads.length → okR isLoad p.loads j = true) ∧ (∀ j, j < p.stands.length → okR isLoad p.stands j = true) ∧ (∀ j, j < p.spells.length → okR isSpell p.spells j = true) ∧ Once (srcs3 p) := by
  unfold okPl srcs3
  rw [Bool.and_eq_true, Bool.and_eq_true, Bool.and_eq_true, Bool.and_eq_true, okL_parts, okL_parts, okL_parts, once_app, once_app]
  constructor
  · rintro ⟨⟨⟨⟨⟨a1, a2, a3⟩, b1, b2, b3⟩, c1, c2, c3⟩, d⟩, e⟩
    exact ⟨⟨d, e, a1, b1, c1⟩, a2, b2, c2, ⟨fun j hj => by have := a3 j hj; rwa [List.nil_append] at this, b3⟩, c3⟩
  · rintro ⟨⟨d, e, a1, b1, c1⟩, a2, b2, c2, ⟨a3, b3⟩, c3⟩
    exact ⟨⟨⟨⟨⟨a1, a2, fun j hj => by rw [List.nil_append]; exact a3 j hj⟩, b1, b2, b3⟩, c1, c2, c3⟩, d⟩, e⟩
theorem okPl_no {p : Pl} (h : ¬ okPl p = true) : okPl p = false := by rwa [Bool.not_eq_true] at h
set_option maxRecDepth 100000 in
set_option maxHeartbeats 16000000 in
theorem refCheck_any (p : Pl) (A1 A2 A3 : Option Addr) (n1 c1 n2 c2 n3 c3 : Nat) (w : World) (hp : Pa w p A1 A2 A3 n1 c1 n2 c2 n3 c3) :
    Calls Tryz.prog 66 #[plv p A1 A2 A3 n1 c1 n2 c2 n3 c3] w fun e w' => e = .returned (.int .i64 (err (okPl p) 13)) ∧ Below w.heap.size w w' := by
  obtain ⟨W0, hW0⟩ : ∃ W0, w.alloc (.cells (plb p A1 A2 A3 n1 c1 n2 c2 n3 c3) 38) = W0 := ⟨_, rfl⟩
  have g0 : Below w.heap.size w W0 := by rw [← hW0]; exact one_more _ _
  have b0 : Blk W0 w.heap.size 38 (plb p A1 A2 A3 n1 c1 n2 c2 n3 c3) := by rw [← hW0]; exact Blk.new _ _ _
  have HL1 := Lib.hid (hp.l1.below g0)
  have HL2 := Lib.hid (hp.l2.below g0)
  have HL3 := Lib.hid (hp.l3.below g0)
  have HPA := Lib.hid (hp.below g0)
  have GA := Lib.hid g0
  have HB0 := Lib.hid b0
  have HW0 := Lib.hid hW0
  have r0 := b0.cell 0
  have r1 := b0.cell 1
  have r2 := b0.cell 2
  have r3 := b0.cell 3
  have r4 := b0.cell 4
  have r5 := b0.cell 5
  have TS := refSheaves_any p.lo p.hi W0
  have TG := fun V => in_any p.geese 0 60 V
  obtain ⟨s1, hs1⟩ : ∃ b, okSh p.lo p.hi = b := ⟨_, rfl⟩
  obtain ⟨s2, hs2⟩ : ∃ b, rng p.geese 0 60 = b := ⟨_, rfl⟩
  rw [hs1] at TS
  rw [hs2] at TG
  have HTS := Lib.hid TS
  have HTG := Lib.hid TG
  have hno : ∀ (V : World), Below W0.heap.size W0 V → ¬ (s1 = true ∧ s2 = true ∧ n1 ≤ 60 ∧ n2 ≤ 60 ∧ n3 ≤ 60) → Ending.returned (.int .i64 13) = .returned (.int .i64 (err (okPl p) 13)) ∧ Below w.heap.size w V := fun V g h => by
    have e : okPl p = false := okPl_no (fun h2 => h (by have := (okPl_ref.1 h2).1; rw [hs1, hs2, HL1.out.1, HL2.out.1, HL3.out.1] at this; exact this))
    rw [e]
    exact ⟨rfl, GA.out.trans (g.mono GA.out.size)⟩
  have HNO := Lib.hid hno
  have hyes : (s1 = true ∧ s2 = true ∧ n1 ≤ 60 ∧ n2 ≤ 60 ∧ n3 ≤ 60) → (okSh p.lo p.hi = true ∧ rng p.geese 0 60 = true ∧ p.loads.length ≤ 60 ∧ p.stands.length ≤ 60 ∧ p.spells.length ≤ 60) := fun h => by
    rw [hs1, hs2, HL1.out.1, HL2.out.1, HL3.out.1]; exact h
  have HYES := Lib.hid hyes
  clear TS TG hno hyes hs1 hs2 hp g0 b0 hW0
  go_enter Tryz.func66, Tryz.ntmps66
  go_upto_region 1 with fail
  rw [HW0.out]
  cases s1 with
  | false =>
    go_wp2_with (first
      | (go_at_call 146; (with_reducible refine (HTS.out).mono ?_); rintro e V ⟨rfl, hg⟩; have HG1 := Lib.hid hg; have m2 := (HB0.out.ext hg).cell 2; have m3 := (HB0.out.ext hg).cell 3; have m4 := (HB0.out.ext hg).cell 4; have m5 := (HB0.out.ext hg).cell 5; clear hg)
      | (go_at_call 131; (with_reducible refine (HTG.out _).mono ?_); rintro e w' ⟨rfl, rfl⟩))
    go_ret
    exact HNO.out _ HG1.out (by simp; try omega)
  | true =>
    cases s2 with
    | false =>
      go_wp2_with (first
        | (go_at_call 146; (with_reducible refine (HTS.out).mono ?_); rintro e V ⟨rfl, hg⟩; have HG1 := Lib.hid hg; have m2 := (HB0.out.ext hg).cell 2; have m3 := (HB0.out.ext hg).cell 3; have m4 := (HB0.out.ext hg).cell 4; have m5 := (HB0.out.ext hg).cell 5; clear hg)
        | (go_at_call 131; (with_reducible refine (HTG.out _).mono ?_); rintro e w' ⟨rfl, rfl⟩))
      go_ret
      exact HNO.out _ HG1.out (by simp; try omega)
    | true =>
      by_cases k1 : n1 ≤ 60
      · have k1z : decide ((60 : Int) < (n1 : Int)) = false := decide_eq_false (by omega)
        by_cases k2 : n2 ≤ 60
        · have k2z : decide ((60 : Int) < (n2 : Int)) = false := decide_eq_false (by omega)
          by_cases k3 : n3 ≤ 60
          · have k3z : decide ((60 : Int) < (n3 : Int)) = false := decide_eq_false (by omega)
            have HNB := Lib.hid (show n1 ≤ 60 ∧ n2 ≤ 60 ∧ n3 ≤ 60 from ⟨k1, k2, k3⟩)
            have HALL := Lib.hid (HYES.out ⟨rfl, rfl, k1, k2, k3⟩)
            go_upto_region 4 with (first
              | (go_at_call 146; (with_reducible refine (HTS.out).mono ?_); rintro e V ⟨rfl, hg⟩; have HG1 := Lib.hid hg; have m2 := (HB0.out.ext hg).cell 2; have m3 := (HB0.out.ext hg).cell 3; have m4 := (HB0.out.ext hg).cell 4; have m5 := (HB0.out.ext hg).cell 5; clear hg)
              | (go_at_call 131; (with_reducible refine (HTG.out _).mono ?_); rintro e w' ⟨rfl, rfl⟩))
            clear m2 m3 m4 m5 r0 r1 r2 r3 r4 r5 HNO HYES
            go_loopw [3] (fun i wr => ∃ k : Nat, k ≤ n1 ∧ i = .int .i64 k ∧ Below W0.heap.size W0 wr ∧ ∀ j, j < k → okR isLoad p.loads j = true) (fun i _ => n1 - (intOf i).toNat)
            case atStart => exact ⟨0, Nat.zero_le _, rfl, HG1.out, fun j hj => absurd hj (by omega)⟩
            case round =>
              obtain ⟨k, hk, rfl, hg, hok⟩ := hrel
              have HG := Lib.hid hg
              have HOK := Lib.hid hok
              have q1 := cellW ((HB0.out.ext hg).cell 2)
              have q2 := (HB0.out.ext hg).cell 2
              clear hok
              by_cases hkn : k < n1
              · obtain ⟨b0, o0, e0, -, -, hc⟩ := six_at (HL1.out.below hg) hkn
                obtain ⟨x, hxg⟩ : ∃ x, p.loads.getD k z6 = x := ⟨_, rfl⟩
                rw [hxg] at hc
                obtain ⟨x0, x1, x2, x3, x4, x5⟩ := hc wr (Below.refl _ _)
                have u0 := cellW x0
                have u1 := cellW x1
                have u2 := cellW x2
                have u3 := cellW x3
                have u4 := cellW x4
                have u5 := cellW x5
                have HXG := Lib.hid hxg
                have hkl : k < p.loads.length := by rw [HL1.out.1]; exact hkn
                obtain ⟨y, hy⟩ : ∃ y, p.loads.getD (k - 1) z6 = y := ⟨_, rfl⟩
                have HY := Lib.hid (fun (h0 : 0 < k) (z : Wd wr) => (show z.val.cell? ⟨b0, o0 + (k - 1) * 6, none⟩ = some (.int .i64 y.a) from by
                  obtain ⟨b2, o2, e2, -, -, hc2⟩ := six_at (HL1.out.below hg) (show k - 1 < n1 by omega)
                  rw [e0] at e2
                  cases e2
                  rw [hy] at hc2
                  exact (hc2 z.val z.ok).1))
                subst e0
                have hki : (k : Int) < (n1 : Int) := by omega
                have hk9 : k < 1000 := by have := HNB.out; omega
                clear hc hxg x0 x1 x2 x3 x4 x5 hg
                obtain ⟨iv, hiv⟩ : ∃ iv, isLoad x = iv := ⟨_, rfl⟩
                have TCK := fun W => refLoad_any x W
                rw [hiv] at TCK
                cases iv with
                | false =>
                  rw [show err false 10 = 10 from rfl] at TCK
                  have HCK := Lib.hid TCK
                  have HNO := Lib.hid (okPl_no (p := p) (fun h => by have h2 := (okPl_ref.1 h).2.1 k hkl; unfold okR at h2; rw [HXG.out, hiv] at h2; cases h2))
                  clear TCK hiv hy
                  go_wp2_with fail
                  refine wp_region_calm wr (by kernel_rfl) (by kernel_rfl) (Below.refl _ _) ?_
                  repeat (go_big_quiet_step ((go_at_call 68; exact callsCalm (HCK.out _))))
                  refine wpQuiet_nil ?_
                  rintro _ ⟨z, rfl⟩
                  have GZ := Lib.hid (GA.out.trans ((HG.out.trans (z.ok.mono HG.out.size)).mono GA.out.size))
                  go_wp2_with fail
                  go_ret
                  exact ⟨by rw [HNO.out]; rfl, GZ.out⟩
                | true =>
                  rw [show err true 10 = 0 from rfl] at TCK
                  have HCK := Lib.hid TCK
                  by_cases hk0 : k = 0
                  · have e1 : decide ((0 : Int) < (k : Int)) = false := decide_eq_false (by omega)
                    have e1' : ¬ (0 : Int) < (k : Int) := by omega
                    have e2 : decide (0 < k) = false := decide_eq_false (by omega)
                    have HAT := Lib.hid (show okR isLoad p.loads k = true by unfold okR; rw [HXG.out, hiv, decide_eq_true hk0]; rfl)
                    clear hk0
                    clear TCK hiv hy
                    go_wp2_with fail
                    refine wp_region_calm wr (by kernel_rfl) (by kernel_rfl) (Below.refl _ _) ?_
                    repeat (go_big_quiet_step ((go_at_call 68; exact callsCalm (HCK.out _))))
                    refine wpQuiet_nil ?_
                    rintro _ ⟨z, rfl⟩
                    have GZ := Lib.hid (HG.out.trans (z.ok.mono HG.out.size))
                    go_wp2_with fail
                    go_roundw
                    case rel => exact ⟨k + 1, by omega, by go_num, GZ.out, fun j hj => by
                      by_cases e : j = k
                      · subst e; exact HAT.out
                      · exact HOK.out j (by omega)⟩
                    case measure => simp [intOf]; omega
                  · obtain ⟨k', rfl⟩ : ∃ k', k = k' + 1 := ⟨k - 1, by omega⟩
                    have e1 : decide ((0 : Int) < ((k' + 1 : Nat) : Int)) = true := decide_eq_true (by omega)
                    have e2 : decide (0 < k' + 1) = true := decide_eq_true (by omega)
                    have y0 := HY.out (by omega)
                    have hk1 : (k' : Int) < (n1 : Int) := by omega
                    have hk2 : IntKind.i64.wrap (((k' + 1 : Nat) : Int) - 1) = (k' : Int) := by rw [IntKind.wrap_i64]; have := HNB.out; omega
                    have hk3 : (((k' + 1 : Nat) : Int) - 1) = (k' : Int) := by omega
                    rw [Nat.add_sub_cancel] at y0 hy
                    by_cases hr : y.a < x.a
                    · have e3 : decide (x.a ≤ y.a) = false := decide_eq_false (by omega)
                      have HAT := Lib.hid (show okR isLoad p.loads (k' + 1) = true by unfold okR; rw [HXG.out, hiv, Nat.add_sub_cancel, hy, decide_eq_true hr]; simp)
                      clear hk0 hr HY
                      clear TCK hiv hy
                      go_wp2_with fail
                      refine wp_region_calm wr (by kernel_rfl) (by kernel_rfl) (Below.refl _ _) ?_
                      repeat (go_big_quiet_step ((go_at_call 68; exact callsCalm (HCK.out _))))
                      refine wpQuiet_nil ?_
                      rintro _ ⟨z, rfl⟩
                      have GZ := Lib.hid (HG.out.trans (z.ok.mono HG.out.size))
                      go_wp2_with fail
                      go_roundw
                      case rel => exact ⟨k' + 1 + 1, by omega, by go_num, GZ.out, fun j hj => by
                        by_cases e : j = k' + 1
                        · subst e; exact HAT.out
                        · exact HOK.out j (by omega)⟩
                      case measure => simp [intOf]; omega
                    · have e3 : decide (x.a ≤ y.a) = true := decide_eq_true (by omega)
                      have hr2 := decide_eq_false hr
                      clear hk0 HY
                      have HNO := Lib.hid (okPl_no (p := p) (fun h => by have h2 := (okPl_ref.1 h).2.1 (k' + 1) hkl; unfold okR at h2; rw [HXG.out, hiv, Nat.add_sub_cancel, hy, hr2] at h2; simp at h2))
                      clear TCK hiv hy
                      go_wp2_with fail
                      refine wp_region_calm wr (by kernel_rfl) (by kernel_rfl) (Below.refl _ _) ?_
                      repeat (go_big_quiet_step ((go_at_call 68; exact callsCalm (HCK.out _))))
                      refine wpQuiet_nil ?_
                      rintro _ ⟨z, rfl⟩
                      have GZ := Lib.hid (GA.out.trans ((HG.out.trans (z.ok.mono HG.out.size)).mono GA.out.size))
                      go_wp2_with fail
                      go_ret
                      exact ⟨by rw [HNO.out]; rfl, GZ.out⟩
              · obtain rfl : n1 = k := by omega
                have HEND1 := Lib.hid (show ∀ j, j < p.loads.length → okR isLoad p.loads j = true by rw [HL1.out.1]; exact HOK.out)
                have HGE1 := Lib.hid (show Below W0.heap.size W0 wr from HG.out)
                clear HG HOK hg q1
                obtain ⟨V1, hV1⟩ : ∃ V, wr = V := ⟨_, rfl⟩
                rw [hV1] at HGE1 q2 ⊢
                clear hV1 hkn hk
                go_wp2_with fail
                clear q2
                go_loopw [4] (fun i wr => ∃ k : Nat, k ≤ n2 ∧ i = .int .i64 k ∧ Below W0.heap.size W0 wr ∧ ∀ j, j < k → okR isLoad p.stands j = true) (fun i _ => n2 - (intOf i).toNat)
                case atStart => exact ⟨0, Nat.zero_le _, rfl, HGE1.out, fun j hj => absurd hj (by omega)⟩
                case round =>
                  obtain ⟨k, hk, rfl, hg, hok⟩ := hrel
                  have HG := Lib.hid hg
                  have HOK := Lib.hid hok
                  have q1 := cellW ((HB0.out.ext hg).cell 3)
                  have q2 := (HB0.out.ext hg).cell 3
                  clear hok
                  by_cases hkn : k < n2
                  · obtain ⟨b0, o0, e0, -, -, hc⟩ := six_at (HL2.out.below hg) hkn
                    obtain ⟨x, hxg⟩ : ∃ x, p.stands.getD k z6 = x := ⟨_, rfl⟩
                    rw [hxg] at hc
                    obtain ⟨x0, x1, x2, x3, x4, x5⟩ := hc wr (Below.refl _ _)
                    have u0 := cellW x0
                    have u1 := cellW x1
                    have u2 := cellW x2
                    have u3 := cellW x3
                    have u4 := cellW x4
                    have u5 := cellW x5
                    have HXG := Lib.hid hxg
                    have hkl : k < p.stands.length := by rw [HL2.out.1]; exact hkn
                    obtain ⟨y, hy⟩ : ∃ y, p.stands.getD (k - 1) z6 = y := ⟨_, rfl⟩
                    have HY := Lib.hid (fun (h0 : 0 < k) (z : Wd wr) => (show z.val.cell? ⟨b0, o0 + (k - 1) * 6, none⟩ = some (.int .i64 y.a) from by
                      obtain ⟨b2, o2, e2, -, -, hc2⟩ := six_at (HL2.out.below hg) (show k - 1 < n2 by omega)
                      rw [e0] at e2
                      cases e2
                      rw [hy] at hc2
                      exact (hc2 z.val z.ok).1))
                    subst e0
                    have hki : (k : Int) < (n2 : Int) := by omega
                    have hk9 : k < 1000 := by have := HNB.out; omega
                    clear hc hxg x0 x1 x2 x3 x4 x5 hg
                    obtain ⟨iv, hiv⟩ : ∃ iv, isLoad x = iv := ⟨_, rfl⟩
                    have TCK := fun W => refStand_any x W
                    rw [hiv] at TCK
                    cases iv with
                    | false =>
                      rw [show err false 11 = 11 from rfl] at TCK
                      have HCK := Lib.hid TCK
                      have HNO := Lib.hid (okPl_no (p := p) (fun h => by have h2 := (okPl_ref.1 h).2.2.1 k hkl; unfold okR at h2; rw [HXG.out, hiv] at h2; cases h2))
                      clear TCK hiv hy
                      go_wp2_with fail
                      refine wp_region_calm wr (by kernel_rfl) (by kernel_rfl) (Below.refl _ _) ?_
                      repeat (go_big_quiet_step ((go_at_call 70; exact callsCalm (HCK.out _))))
                      refine wpQuiet_nil ?_
                      rintro _ ⟨z, rfl⟩
                      have GZ := Lib.hid (GA.out.trans ((HG.out.trans (z.ok.mono HG.out.size)).mono GA.out.size))
                      go_wp2_with fail
                      go_ret
                      exact ⟨by rw [HNO.out]; rfl, GZ.out⟩
                    | true =>
                      rw [show err true 11 = 0 from rfl] at TCK
                      have HCK := Lib.hid TCK
                      by_cases hk0 : k = 0
                      · have e1 : decide ((0 : Int) < (k : Int)) = false := decide_eq_false (by omega)
                        have e1' : ¬ (0 : Int) < (k : Int) := by omega
                        have e2 : decide (0 < k) = false := decide_eq_false (by omega)
                        have HAT := Lib.hid (show okR isLoad p.stands k = true by unfold okR; rw [HXG.out, hiv, decide_eq_true hk0]; rfl)
                        clear hk0
                        clear TCK hiv hy
                        go_wp2_with fail
                        refine wp_region_calm wr (by kernel_rfl) (by kernel_rfl) (Below.refl _ _) ?_
                        repeat (go_big_quiet_step ((go_at_call 70; exact callsCalm (HCK.out _))))
                        refine wpQuiet_nil ?_
                        rintro _ ⟨z, rfl⟩
                        have GZ := Lib.hid (HG.out.trans (z.ok.mono HG.out.size))
                        go_wp2_with fail
                        go_roundw
                        case rel => exact ⟨k + 1, by omega, by go_num, GZ.out, fun j hj => by
                          by_cases e : j = k
                          · subst e; exact HAT.out
                          · exact HOK.out j (by omega)⟩
                        case measure => simp [intOf]; omega
                      · obtain ⟨k', rfl⟩ : ∃ k', k = k' + 1 := ⟨k - 1, by omega⟩
                        have e1 : decide ((0 : Int) < ((k' + 1 : Nat) : Int)) = true := decide_eq_true (by omega)
                        have e2 : decide (0 < k' + 1) = true := decide_eq_true (by omega)
                        have y0 := HY.out (by omega)
                        have hk1 : (k' : Int) < (n2 : Int) := by omega
                        have hk2 : IntKind.i64.wrap (((k' + 1 : Nat) : Int) - 1) = (k' : Int) := by rw [IntKind.wrap_i64]; have := HNB.out; omega
                        have hk3 : (((k' + 1 : Nat) : Int) - 1) = (k' : Int) := by omega
                        rw [Nat.add_sub_cancel] at y0 hy
                        by_cases hr : y.a < x.a
                        · have e3 : decide (x.a ≤ y.a) = false := decide_eq_false (by omega)
                          have HAT := Lib.hid (show okR isLoad p.stands (k' + 1) = true by unfold okR; rw [HXG.out, hiv, Nat.add_sub_cancel, hy, decide_eq_true hr]; simp)
                          clear hk0 hr HY
                          clear TCK hiv hy
                          go_wp2_with fail
                          refine wp_region_calm wr (by kernel_rfl) (by kernel_rfl) (Below.refl _ _) ?_
                          repeat (go_big_quiet_step ((go_at_call 70; exact callsCalm (HCK.out _))))
                          refine wpQuiet_nil ?_
                          rintro _ ⟨z, rfl⟩
                          have GZ := Lib.hid (HG.out.trans (z.ok.mono HG.out.size))
                          go_wp2_with fail
                          go_roundw
                          case rel => exact ⟨k' + 1 + 1, by omega, by go_num, GZ.out, fun j hj => by
                            by_cases e : j = k' + 1
                            · subst e; exact HAT.out
                            · exact HOK.out j (by omega)⟩
                          case measure => simp [intOf]; omega
                        · have e3 : decide (x.a ≤ y.a) = true := decide_eq_true (by omega)
                          have hr2 := decide_eq_false hr
                          clear hk0 HY
                          have HNO := Lib.hid (okPl_no (p := p) (fun h => by have h2 := (okPl_ref.1 h).2.2.1 (k' + 1) hkl; unfold okR at h2; rw [HXG.out, hiv, Nat.add_sub_cancel, hy, hr2] at h2; simp at h2))
                          clear TCK hiv hy
                          go_wp2_with fail
                          refine wp_region_calm wr (by kernel_rfl) (by kernel_rfl) (Below.refl _ _) ?_
                          repeat (go_big_quiet_step ((go_at_call 70; exact callsCalm (HCK.out _))))
                          refine wpQuiet_nil ?_
                          rintro _ ⟨z, rfl⟩
                          have GZ := Lib.hid (GA.out.trans ((HG.out.trans (z.ok.mono HG.out.size)).mono GA.out.size))
                          go_wp2_with fail
                          go_ret
                          exact ⟨by rw [HNO.out]; rfl, GZ.out⟩
                  · obtain rfl : n2 = k := by omega
                    have HEND2 := Lib.hid (show ∀ j, j < p.stands.length → okR isLoad p.stands j = true by rw [HL2.out.1]; exact HOK.out)
                    have HGE2 := Lib.hid (show Below W0.heap.size W0 wr from HG.out)
                    clear HG HOK hg q1
                    obtain ⟨V2, hV2⟩ : ∃ V, wr = V := ⟨_, rfl⟩
                    rw [hV2] at HGE2 q2 ⊢
                    clear hV2 hkn hk
                    go_wp2_with fail
                    clear q2
                    go_loopw [5] (fun i wr => ∃ k : Nat, k ≤ n3 ∧ i = .int .i64 k ∧ Below W0.heap.size W0 wr ∧ ∀ j, j < k → okR isSpell p.spells j = true) (fun i _ => n3 - (intOf i).toNat)
                    case atStart => exact ⟨0, Nat.zero_le _, rfl, HGE2.out, fun j hj => absurd hj (by omega)⟩
                    case round =>
                      obtain ⟨k, hk, rfl, hg, hok⟩ := hrel
                      have HG := Lib.hid hg
                      have HOK := Lib.hid hok
                      have q1 := cellW ((HB0.out.ext hg).cell 4)
                      have q2 := (HB0.out.ext hg).cell 4
                      clear hok
                      by_cases hkn : k < n3
                      · obtain ⟨b0, o0, e0, -, -, hc⟩ := six_at (HL3.out.below hg) hkn
                        obtain ⟨x, hxg⟩ : ∃ x, p.spells.getD k z6 = x := ⟨_, rfl⟩
                        rw [hxg] at hc
                        obtain ⟨x0, x1, x2, x3, x4, x5⟩ := hc wr (Below.refl _ _)
                        have u0 := cellW x0
                        have u1 := cellW x1
                        have u2 := cellW x2
                        have u3 := cellW x3
                        have u4 := cellW x4
                        have u5 := cellW x5
                        have HXG := Lib.hid hxg
                        have hkl : k < p.spells.length := by rw [HL3.out.1]; exact hkn
                        obtain ⟨y, hy⟩ : ∃ y, p.spells.getD (k - 1) z6 = y := ⟨_, rfl⟩
                        have HY := Lib.hid (fun (h0 : 0 < k) (z : Wd wr) => (show z.val.cell? ⟨b0, o0 + (k - 1) * 6, none⟩ = some (.int .i64 y.a) from by
                          obtain ⟨b2, o2, e2, -, -, hc2⟩ := six_at (HL3.out.below hg) (show k - 1 < n3 by omega)
                          rw [e0] at e2
                          cases e2
                          rw [hy] at hc2
                          exact (hc2 z.val z.ok).1))
                        subst e0
                        have hki : (k : Int) < (n3 : Int) := by omega
                        have hk9 : k < 1000 := by have := HNB.out; omega
                        clear hc hxg x0 x1 x2 x3 x4 x5 hg
                        obtain ⟨iv, hiv⟩ : ∃ iv, isSpell x = iv := ⟨_, rfl⟩
                        have TCK := fun W => refSpell_any x W
                        rw [hiv] at TCK
                        cases iv with
                        | false =>
                          rw [show err false 12 = 12 from rfl] at TCK
                          have HCK := Lib.hid TCK
                          have HNO := Lib.hid (okPl_no (p := p) (fun h => by have h2 := (okPl_ref.1 h).2.2.2.1 k hkl; unfold okR at h2; rw [HXG.out, hiv] at h2; cases h2))
                          clear TCK hiv hy
                          go_wp2_with fail
                          refine wp_region_calm wr (by kernel_rfl) (by kernel_rfl) (Below.refl _ _) ?_
                          repeat (go_big_quiet_step ((go_at_call 72; exact callsCalm (HCK.out _))))
                          refine wpQuiet_nil ?_
                          rintro _ ⟨z, rfl⟩
                          have GZ := Lib.hid (GA.out.trans ((HG.out.trans (z.ok.mono HG.out.size)).mono GA.out.size))
                          go_wp2_with fail
                          go_ret
                          exact ⟨by rw [HNO.out]; rfl, GZ.out⟩
                        | true =>
                          rw [show err true 12 = 0 from rfl] at TCK
                          have HCK := Lib.hid TCK
                          by_cases hk0 : k = 0
                          · have e1 : decide ((0 : Int) < (k : Int)) = false := decide_eq_false (by omega)
                            have e1' : ¬ (0 : Int) < (k : Int) := by omega
                            have e2 : decide (0 < k) = false := decide_eq_false (by omega)
                            have HAT := Lib.hid (show okR isSpell p.spells k = true by unfold okR; rw [HXG.out, hiv, decide_eq_true hk0]; rfl)
                            clear hk0
                            clear TCK hiv hy
                            go_wp2_with fail
                            refine wp_region_calm wr (by kernel_rfl) (by kernel_rfl) (Below.refl _ _) ?_
                            repeat (go_big_quiet_step ((go_at_call 72; exact callsCalm (HCK.out _))))
                            refine wpQuiet_nil ?_
                            rintro _ ⟨z, rfl⟩
                            have GZ := Lib.hid (HG.out.trans (z.ok.mono HG.out.size))
                            go_wp2_with fail
                            go_roundw
                            case rel => exact ⟨k + 1, by omega, by go_num, GZ.out, fun j hj => by
                              by_cases e : j = k
                              · subst e; exact HAT.out
                              · exact HOK.out j (by omega)⟩
                            case measure => simp [intOf]; omega
                          · obtain ⟨k', rfl⟩ : ∃ k', k = k' + 1 := ⟨k - 1, by omega⟩
                            have e1 : decide ((0 : Int) < ((k' + 1 : Nat) : Int)) = true := decide_eq_true (by omega)
                            have e2 : decide (0 < k' + 1) = true := decide_eq_true (by omega)
                            have y0 := HY.out (by omega)
                            have hk1 : (k' : Int) < (n3 : Int) := by omega
                            have hk2 : IntKind.i64.wrap (((k' + 1 : Nat) : Int) - 1) = (k' : Int) := by rw [IntKind.wrap_i64]; have := HNB.out; omega
                            have hk3 : (((k' + 1 : Nat) : Int) - 1) = (k' : Int) := by omega
                            rw [Nat.add_sub_cancel] at y0 hy
                            by_cases hr : y.a < x.a
                            · have e3 : decide (x.a ≤ y.a) = false := decide_eq_false (by omega)
                              have HAT := Lib.hid (show okR isSpell p.spells (k' + 1) = true by unfold okR; rw [HXG.out, hiv, Nat.add_sub_cancel, hy, decide_eq_true hr]; simp)
                              clear hk0 hr HY
                              clear TCK hiv hy
                              go_wp2_with fail
                              refine wp_region_calm wr (by kernel_rfl) (by kernel_rfl) (Below.refl _ _) ?_
                              repeat (go_big_quiet_step ((go_at_call 72; exact callsCalm (HCK.out _))))
                              refine wpQuiet_nil ?_
                              rintro _ ⟨z, rfl⟩
                              have GZ := Lib.hid (HG.out.trans (z.ok.mono HG.out.size))
                              go_wp2_with fail
                              go_roundw
                              case rel => exact ⟨k' + 1 + 1, by omega, by go_num, GZ.out, fun j hj => by
                                by_cases e : j = k' + 1
                                · subst e; exact HAT.out
                                · exact HOK.out j (by omega)⟩
                              case measure => simp [intOf]; omega
                            · have e3 : decide (x.a ≤ y.a) = true := decide_eq_true (by omega)
                              have hr2 := decide_eq_false hr
                              clear hk0 HY
                              have HNO := Lib.hid (okPl_no (p := p) (fun h => by have h2 := (okPl_ref.1 h).2.2.2.1 (k' + 1) hkl; unfold okR at h2; rw [HXG.out, hiv, Nat.add_sub_cancel, hy, hr2] at h2; simp at h2))
                              clear TCK hiv hy
                              go_wp2_with fail
                              refine wp_region_calm wr (by kernel_rfl) (by kernel_rfl) (Below.refl _ _) ?_
                              repeat (go_big_quiet_step ((go_at_call 72; exact callsCalm (HCK.out _))))
                              refine wpQuiet_nil ?_
                              rintro _ ⟨z, rfl⟩
                              have GZ := Lib.hid (GA.out.trans ((HG.out.trans (z.ok.mono HG.out.size)).mono GA.out.size))
                              go_wp2_with fail
                              go_ret
                              exact ⟨by rw [HNO.out]; rfl, GZ.out⟩
                      · obtain rfl : n3 = k := by omega
                        have HEND3 := Lib.hid (show ∀ j, j < p.spells.length → okR isSpell p.spells j = true by rw [HL3.out.1]; exact HOK.out)
                        have HGE3 := Lib.hid (show Below W0.heap.size W0 wr from HG.out)
                        clear HG HOK hg q1
                        obtain ⟨V3, hV3⟩ : ∃ V, wr = V := ⟨_, rfl⟩
                        rw [hV3] at HGE3 q2 ⊢
                        clear hV3 hkn hk
                        have HSR := Lib.hid (refSources_any p A1 A2 A3 n1 c1 n2 c2 n3 c3 V3 (HPA.out.below HGE3.out) ⟨by have := HNB.out; omega, by have := HNB.out; omega, by have := HNB.out; omega⟩)
                        have t0 := (HB0.out.ext HGE3.out).cell 0
                        have t1 := (HB0.out.ext HGE3.out).cell 1
                        have t2 := (HB0.out.ext HGE3.out).cell 2
                        have t3 := (HB0.out.ext HGE3.out).cell 3
                        have t4 := (HB0.out.ext HGE3.out).cell 4
                        have t5 := (HB0.out.ext HGE3.out).cell 5
                        go_upto_region 19 with (go_at_call 137; (with_reducible refine (HSR.out).mono ?_); rintro e V4 ⟨⟨v4, rfl, ho⟩, hg⟩; obtain ⟨A4, c4, hv4, hc4, hm4, hi4, -⟩ := OwnL.arr kdI ho; obtain ⟨n4, hn4⟩ : ∃ n, (srcs3 p).length = n := ⟨_, rfl⟩; rw [hn4] at hv4 hc4 hi4; subst hv4; have HI4 := Lib.hid hi4; have HN4 := Lib.hid hn4; have HC4 := Lib.hid hc4; have HM4 := Lib.hid hm4; have HG4 := Lib.hid (HGE3.out.trans (hg.mono HGE3.out.size)); clear ho hg hi4 hn4 hc4 hm4)
                        clear t0 t1 t2 t3 t4 t5 q2
                        have hn4b : n4 ≤ 1000 := by
                          have h1 := HN4.out
                          have h2 := HNB.out
                          have e1 := HL1.out.1
                          have e2 := HL2.out.1
                          have e3 := HL3.out.1
                          unfold srcs3 at h1
                          simp only [List.length_append, srcs_len] at h1
                          omega
                        have hc4 : n4 ≤ c4 := HC4.out
                        have hm4 : c4 ≤ 9223372036854775807 := by have := HM4.out; unfold maxLen at this; omega
                        go_wp2_with fail
                        go_loopw [7] (fun i wr => ∃ k : Nat, k ≤ n4 ∧ i = .int .i64 k ∧ Below V4.heap.size V4 wr ∧ ∀ j, j < k → (srcs3 p).getD j 0 ∉ (srcs3 p).take j) (fun i _ => n4 - (intOf i).toNat)
                        case atStart => exact ⟨0, Nat.zero_le _, rfl, Below.refl _ _, fun j hj => absurd hj (by omega)⟩
                        case round =>
                          obtain ⟨k, hk, rfl, hg, hok⟩ := hrel
                          have HG := Lib.hid hg
                          have HOK := Lib.hid hok
                          clear hok
                          by_cases hkn : k < n4
                          · obtain ⟨b9, o9, e9, -, -, hc9⟩ := ints_at (HI4.out.below hg) hkn
                            obtain ⟨s, hs⟩ : ∃ s, (srcs3 p).getD k 0 = s := ⟨_, rfl⟩
                            rw [hs] at hc9
                            have u1 := cellW (hc9 _ (Below.refl _ _))
                            have TH := fun (z : Wd wr) => refHas_any A4 k c4 ((srcs3 p).take k) s z.val (((HI4.out.below hg).below z.ok).take (by omega)) (by omega)
                            obtain ⟨hb, hhb⟩ : ∃ b, hasI ((srcs3 p).take k) s = b := ⟨_, rfl⟩
                            rw [hhb] at TH
                            subst e9
                            have HTH := Lib.hid TH
                            have hki : (k : Int) < (n4 : Int) := by omega
                            have hk9 : k < 1000 := by omega
                            have hkc : (k : Int) ≤ (c4 : Int) := by omega
                            have HS := Lib.hid hs
                            have HHB := Lib.hid hhb
                            clear TH hc9 hg hs hhb
                            cases hb with
                            | true =>
                              have HNX := Lib.hid (okPl_no (p := p) (fun h => by
                                have h2 := (okPl_ref.1 h).2.2.2.2 k (by rw [HN4.out]; exact hkn)
                                rw [HS.out] at h2
                                exact h2 (hasI_iff.1 HHB.out)))
                              go_wp2_with fail
                              refine wp_region_calm wr (by kernel_rfl) (by kernel_rfl) (Below.refl _ _) ?_
                              repeat (go_big_quiet_step ((go_at_call 47; exact callsCalmSame (HTH.out _))))
                              refine wpQuiet_nil ?_
                              rintro _ ⟨z, rfl⟩
                              have GZ := Lib.hid (GA.out.trans ((HG4.out.trans ((HG.out.trans (z.ok.mono HG.out.size)).mono HG4.out.size)).mono GA.out.size))
                              go_wp2_with fail
                              go_ret
                              exact ⟨by rw [HNX.out]; rfl, GZ.out⟩
                            | false =>
                              have HAT := Lib.hid (show (srcs3 p).getD k 0 ∉ (srcs3 p).take k by
                                rw [HS.out]
                                intro h
                                have := hasI_true h
                                rw [HHB.out] at this
                                cases this)
                              go_wp2_with fail
                              refine wp_region_calm wr (by kernel_rfl) (by kernel_rfl) (Below.refl _ _) ?_
                              repeat (go_big_quiet_step ((go_at_call 47; exact callsCalmSame (HTH.out _))))
                              refine wpQuiet_nil ?_
                              rintro _ ⟨z, rfl⟩
                              have GZ := Lib.hid (HG.out.trans (z.ok.mono HG.out.size))
                              go_wp2_with fail
                              go_roundw
                              case rel => exact ⟨k + 1, by omega, by go_num, GZ.out, fun j hj => by
                                by_cases e : j = k
                                · subst e; exact HAT.out
                                · exact HOK.out j (by omega)⟩
                              case measure => simp [intOf]; omega
                          · obtain rfl : n4 = k := by omega
                            have HYS := Lib.hid (show okPl p = true from okPl_ref.2 ⟨HALL.out, HEND1.out, HEND2.out, HEND3.out, fun j hj => HOK.out j (by rw [← HN4.out]; exact hj)⟩)
                            have GZ := Lib.hid (GA.out.trans ((HG4.out.trans (HG.out.mono HG4.out.size)).mono GA.out.size))
                            go_wp2_with fail
                            go_ret
                            exact ⟨by rw [HYS.out]; rfl, GZ.out⟩
          · have k3z : decide ((60 : Int) < (n3 : Int)) = true := decide_eq_true (by omega)
            go_wp2_with (first
              | (go_at_call 146; (with_reducible refine (HTS.out).mono ?_); rintro e V ⟨rfl, hg⟩; have HG1 := Lib.hid hg; have m2 := (HB0.out.ext hg).cell 2; have m3 := (HB0.out.ext hg).cell 3; have m4 := (HB0.out.ext hg).cell 4; have m5 := (HB0.out.ext hg).cell 5; clear hg)
              | (go_at_call 131; (with_reducible refine (HTG.out _).mono ?_); rintro e w' ⟨rfl, rfl⟩))
            go_ret
            exact HNO.out _ HG1.out (by simp; try omega)
        · have k2z : decide ((60 : Int) < (n2 : Int)) = true := decide_eq_true (by omega)
          go_wp2_with (first
            | (go_at_call 146; (with_reducible refine (HTS.out).mono ?_); rintro e V ⟨rfl, hg⟩; have HG1 := Lib.hid hg; have m2 := (HB0.out.ext hg).cell 2; have m3 := (HB0.out.ext hg).cell 3; have m4 := (HB0.out.ext hg).cell 4; have m5 := (HB0.out.ext hg).cell 5; clear hg)
            | (go_at_call 131; (with_reducible refine (HTG.out _).mono ?_); rintro e w' ⟨rfl, rfl⟩))
          go_ret
          exact HNO.out _ HG1.out (by simp; try omega)
      · have k1z : decide ((60 : Int) < (n1 : Int)) = true := decide_eq_true (by omega)
        go_wp2_with (first
          | (go_at_call 146; (with_reducible refine (HTS.out).mono ?_); rintro e V ⟨rfl, hg⟩; have HG1 := Lib.hid hg; have m2 := (HB0.out.ext hg).cell 2; have m3 := (HB0.out.ext hg).cell 3; have m4 := (HB0.out.ext hg).cell 4; have m5 := (HB0.out.ext hg).cell 5; clear hg)
          | (go_at_call 131; (with_reducible refine (HTG.out _).mono ?_); rintro e w' ⟨rfl, rfl⟩))
        go_ret
        exact HNO.out _ HG1.out (by simp; try omega)
theorem refAsked_any (p : Pl) (A1 A2 A3 : Option Addr) (n1 c1 n2 c2 n3 c3 : Nat) (hour known : Int) (w : World) (hp : Pa w p A1 A2 A3 n1 c1 n2 c2 n3 c3) :
    Calls Tryz.prog 101 #[plv p A1 A2 A3 n1 c1 n2 c2 n3 c3, .int .i64 hour, .int .i64 known] w fun e w' => e = .returned (.int .i64 (firstE p [hour] [known])) ∧ Below w.heap.size w w' := by
  obtain ⟨W0, hW0⟩ : ∃ W0, w.alloc (.cells (plb p A1 A2 A3 n1 c1 n2 c2 n3 c3) 38) = W0 := ⟨_, rfl⟩
  have g0 : Below w.heap.size w W0 := by rw [← hW0]; exact one_more _ _
  have b0 : Blk W0 w.heap.size 38 (plb p A1 A2 A3 n1 c1 n2 c2 n3 c3) := by rw [← hW0]; exact Blk.new _ _ _
  have TC := refCheck_any p A1 A2 A3 n1 c1 n2 c2 n3 c3 W0 (hp.below g0)
  have TH := fun V => in_any hour 0 99999 V
  have TD := fun V => refDay_any known V
  have hE : firstE p [hour] [known] = if okPl p = true then (if rng hour 0 99999 = false then 7 else if rng known 0 4166 = false then 6 else 0) else 13 := by
    unfold firstE noHour noDay
    cases okPl p <;> cases h1 : rng hour 0 99999 <;> cases h2 : rng known 0 4166 <;> simp [h1, h2]
  rw [hE]
  obtain ⟨s1, hs1⟩ : ∃ b, okPl p = b := ⟨_, rfl⟩
  obtain ⟨s2, hs2⟩ : ∃ b, rng hour 0 99999 = b := ⟨_, rfl⟩
  obtain ⟨s3, hs3⟩ : ∃ b, rng known 0 4166 = b := ⟨_, rfl⟩
  rw [hs1] at TC ⊢
  rw [hs2] at TH ⊢
  rw [hs3] at TD ⊢
  have GA := Lib.hid g0
  have HW0 := Lib.hid hW0
  have r0 := b0.cell 0
  have r1 := b0.cell 1
  have r2 := b0.cell 2
  have r3 := b0.cell 3
  have r4 := b0.cell 4
  have r5 := b0.cell 5
  clear hs1 hs2 hs3 hE hp g0 b0 hW0
  cases s1 <;> cases s2 <;> cases s3
  all_goals
    have HTC := Lib.hid TC
    have HTH := Lib.hid TH
    have HTD := Lib.hid TD
    clear TC TH TD
    go_enter Tryz.func101, Tryz.ntmps101
    go_upto_region 1 with fail
    rw [HW0.out]
    go_wp2_with (first
      | (go_at_call 66; (with_reducible refine (HTC.out).mono ?_); rintro e V ⟨rfl, hg⟩; have HG1 := Lib.hid hg; clear hg)
      | (go_at_call 131; (with_reducible refine (HTH.out _).mono ?_); rintro e w' ⟨rfl, rfl⟩)
      | (go_at_call 181; (with_reducible refine (HTD.out _).mono ?_); rintro e w' ⟨rfl, rfl⟩))
    go_ret
    exact ⟨rfl, GA.out.trans (HG1.out.mono GA.out.size)⟩
end Go.Proofs.YtkoejeghihcmlaaGreat
