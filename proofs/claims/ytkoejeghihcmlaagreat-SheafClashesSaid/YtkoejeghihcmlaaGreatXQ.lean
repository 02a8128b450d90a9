/- The law SheafClashes. -/
import Derived.Test.YtkoejeghihcmlaaGreatUT
import Derived.Test.YtkoejeghihcmlaaGreatUV
import Derived.Test.YtkoejeghihcmlaaGreatMG
namespace Go.Proofs.YtkoejeghihcmlaaGreat
open Go.RowKit Go.Shelf

theorem clashD_short (p : Pl) (known : Int) : ∀ (k : Nat) (l : List Int), (clashD p known k l).length ≤ l.length
  | 0, _ => Nat.le_refl _
  | k + 1, l => by
    unfold clashD
    refine Nat.le_trans (clashD_short p known k _) ?_
    split
    · rw [List.length_eraseIdx]; split <;> omega
    · exact Nat.le_refl _
theorem clash_short (p : Pl) (known : Int) : (clashL p known).length ≤ 120 := by
  unfold clashL
  split
  · rename_i h
    have h2 : firstE p [] [known] = 0 := by
      unfold clashE at h
      by_cases e : firstE p [] [known] = 0
      · exact e
      · rw [if_neg e] at h; exact absurd h e
    have hok := first_ok (p := p) (hours := []) (days := [known]) h2
    exact Nat.le_trans (clashD_short p known _ _) (tell_len hok known)
  · simp
theorem same_self (l : List Int) : sameL l l = true := by unfold sameL; simp

set_option maxRecDepth 100000 in
set_option maxHeartbeats 16000000 in
theorem law5_any (p : Pl) (A1 A2 A3 : Option Addr) (n1 c1 n2 c2 n3 c3 : Nat) (known : Int) (B : Option Addr) (nb cb : Nat) (by_ : List Int) (w : World) (hp : Pa w p A1 A2 A3 n1 c1 n2 c2 n3 c3) (hb : Ints w B nb by_) (hnc : nb ≤ cb) (hcm : cb ≤ 9223372036854775807) :
    Calls Tryz.prog 5 #[plv p A1 A2 A3 n1 c1 n2 c2 n3 c3, .int .i64 known, .slice B nb cb] w fun e w' => e = .returned (.bool true) ∧ Below w.heap.size w w' := by
  obtain ⟨W1, hW1⟩ : ∃ W1, w.alloc (.cells (plb p A1 A2 A3 n1 c1 n2 c2 n3 c3) 38) = W1 := ⟨_, rfl⟩
  have G1 := Lib.hid (show Below w.heap.size w W1 by rw [← hW1]; exact one_more _ _)
  have BP := Lib.hid (show Blk W1 w.heap.size 38 (plb p A1 A2 A3 n1 c1 n2 c2 n3 c3) by rw [← hW1]; exact Blk.new _ _ _)
  have HPA := Lib.hid (hp.below G1.out)
  have HBY := Lib.hid (hb.below G1.out)
  have HW1 := Lib.hid hW1
  have S1 := fun W (h : Pa W p A1 A2 A3 n1 c1 n2 c2 n3 c3) => soundQ_any p A1 A2 A3 n1 c1 n2 c2 n3 c3 known W h
  have S2 := fun W (h : Pa W p A1 A2 A3 n1 c1 n2 c2 n3 c3) => refSoundP_any p A1 A2 A3 n1 c1 n2 c2 n3 c3 known W h
  have S3 := fun W (h : Pa W p A1 A2 A3 n1 c1 n2 c2 n3 c3) => clashQ_any p A1 A2 A3 n1 c1 n2 c2 n3 c3 known W h
  have S4 := fun W (h : Pa W p A1 A2 A3 n1 c1 n2 c2 n3 c3) => refClash_any p A1 A2 A3 n1 c1 n2 c2 n3 c3 known W h
  have S5 := fun W (h : Pa W p A1 A2 A3 n1 c1 n2 c2 n3 c3) (h2 : Ints W B nb by_) => chkQ_any p A1 A2 A3 n1 c1 n2 c2 n3 c3 known B nb cb by_ W h h2 (by omega)
  have S6 := fun W (h : Pa W p A1 A2 A3 n1 c1 n2 c2 n3 c3) (h2 : Ints W B nb by_) => refChk_any p A1 A2 A3 n1 c1 n2 c2 n3 c3 known B nb cb by_ W h h2 hnc hcm
  have hsh := clash_short p known
  obtain ⟨sb, hsb⟩ : ∃ s, soundB p known = s := ⟨_, rfl⟩
  obtain ⟨fe, hfe⟩ : ∃ s, firstE p [] [known] = s := ⟨_, rfl⟩
  obtain ⟨ce, hce⟩ : ∃ s, clashE p known = s := ⟨_, rfl⟩
  obtain ⟨cl, hcl⟩ : ∃ s, clashL p known = s := ⟨_, rfl⟩
  obtain ⟨ck, hck⟩ : ∃ s, chkE p known by_ = s := ⟨_, rfl⟩
  rw [hsb, hfe] at S1 S2
  rw [hce, hcl] at S3 S4
  rw [hck] at S5 S6
  rw [hcl] at hsh
  have T1 := Lib.hid S1
  have T2 := Lib.hid S2
  have T3 := Lib.hid S3
  have T4 := Lib.hid S4
  have T5 := Lib.hid S5
  have T6 := Lib.hid S6
  have HSH := Lib.hid hsh
  clear S1 S2 S3 S4 S5 S6 hsb hfe hce hcl hck hsh hp hb hW1 hnc hcm
  go_enter Tryz.func5, Tryz.ntmps5
  go_upto_region 1 with fail
  rw [HW1.out]
  go_upto_region 2 with (go_at_call 34; (with_reducible refine (sane_any _).mono ?_); rintro e V1 ⟨rfl, hg⟩)
  have G2 := Lib.hid (G1.out.trans (hg.mono G1.out.size))
  have BP := Lib.hid (BP.out.ext hg)
  have HPA := Lib.hid (HPA.out.below hg)
  have HBY := Lib.hid (HBY.out.below hg)
  clear hg
  have k0 := BP.out.cell 0
  have k1 := BP.out.cell 1
  have k2 := BP.out.cell 2
  have k3 := BP.out.cell 3
  have k4 := BP.out.cell 4
  have k5 := BP.out.cell 5
  go_upto_region 3 with (go_at_call 37; (with_reducible refine (T1.out _ HPA.out).mono ?_); rintro e V2 ⟨rfl, hg⟩)
  clear k0 k1 k2 k3 k4 k5
  have G3 := Lib.hid (G2.out.trans (hg.mono G2.out.size))
  have BP := Lib.hid (BP.out.ext hg)
  have HPA := Lib.hid (HPA.out.below hg)
  have HBY := Lib.hid (HBY.out.below hg)
  clear hg
  have k0 := BP.out.cell 0
  have k1 := BP.out.cell 1
  have k2 := BP.out.cell 2
  have k3 := BP.out.cell 3
  have k4 := BP.out.cell 4
  have k5 := BP.out.cell 5
  go_upto_region 4 with (go_at_call 38; (with_reducible refine (T2.out _ HPA.out).mono ?_); rintro e V3 ⟨rfl, hg⟩)
  clear k0 k1 k2 k3 k4 k5
  have G4 := Lib.hid (G3.out.trans (hg.mono G3.out.size))
  have BP := Lib.hid (BP.out.ext hg)
  have HPA := Lib.hid (HPA.out.below hg)
  have HBY := Lib.hid (HBY.out.below hg)
  clear hg
  have k0 := BP.out.cell 0
  have k1 := BP.out.cell 1
  have k2 := BP.out.cell 2
  have k3 := BP.out.cell 3
  have k4 := BP.out.cell 4
  have k5 := BP.out.cell 5
  go_upto_region 5 with (go_at_call 39; (with_reducible refine (T3.out _ HPA.out).mono ?_); rintro e V4 ⟨⟨D1, m1, d1, rfl, hi1⟩, hg⟩; have HI1 := Lib.hid hi1; clear hi1)
  clear k0 k1 k2 k3 k4 k5
  have G5 := Lib.hid (G4.out.trans (hg.mono G4.out.size))
  have BP := Lib.hid (BP.out.ext hg)
  have HPA := Lib.hid (HPA.out.below hg)
  have HBY := Lib.hid (HBY.out.below hg)
  clear hg
  have k0 := BP.out.cell 0
  have k1 := BP.out.cell 1
  have k2 := BP.out.cell 2
  have k3 := BP.out.cell 3
  have k4 := BP.out.cell 4
  have k5 := BP.out.cell 5
  go_upto_region 6 with (go_at_call 40; (with_reducible refine (T4.out _ HPA.out).mono ?_); rintro e V5 ⟨⟨D2, m2, d2, rfl, hi2⟩, hg⟩; have HI2 := Lib.hid hi2; clear hi2)
  clear k0 k1 k2 k3 k4 k5
  have G6 := Lib.hid (G5.out.trans (hg.mono G5.out.size))
  have BP := Lib.hid (BP.out.ext hg)
  have HPA := Lib.hid (HPA.out.below hg)
  have HBY := Lib.hid (HBY.out.below hg)
  have HI1 := Lib.hid (HI1.out.below hg)
  clear hg
  have SM := same_any D1 D2 m1 d1 m2 d2 cl cl V5 HI1.out HI2.out (by have h1 := HI1.out.1; have h2 := HSH.out; omega) (by have h1 := HI2.out.1; have h2 := HSH.out; omega)
  rw [same_self] at SM
  have HSM := Lib.hid SM
  clear SM
  go_upto_region 7 with (go_at_call 41; (with_reducible refine (HSM.out).mono ?_); rintro e V6 ⟨rfl, hg⟩)
  have G7 := Lib.hid (G6.out.trans (hg.mono G6.out.size))
  have BP := Lib.hid (BP.out.ext hg)
  have HPA := Lib.hid (HPA.out.below hg)
  have HBY := Lib.hid (HBY.out.below hg)
  clear hg
  have k0 := cellW (BP.out.cell 0)
  have k1 := cellW (BP.out.cell 1)
  have k2 := cellW (BP.out.cell 2)
  have k3 := cellW (BP.out.cell 3)
  have k4 := cellW (BP.out.cell 4)
  have k5 := cellW (BP.out.cell 5)
  have C5 := Lib.hid (fun (X : Wd V6) => T5.out X.val (HPA.out.below X.ok) (HBY.out.below X.ok))
  have C6 := Lib.hid (fun (X : Wd V6) => T6.out X.val (HPA.out.below X.ok) (HBY.out.below X.ok))
  refine wp_region_calm V6 (by kernel_rfl) (by kernel_rfl) (Below.refl _ _) ?_
  repeat (go_big_quiet_step (first | (go_at_call 42; exact callsCalm (C5.out _)) | (go_at_call 43; exact callsCalm (C6.out _))))
  refine wpQuiet_nil ?_
  rintro _ ⟨z, rfl⟩
  have GZ := Lib.hid (G7.out.trans (z.ok.mono G7.out.size))
  go_wp2_with fail
  go_ret
  exact ⟨by first | rfl | simp, GZ.out⟩
end Go.Proofs.YtkoejeghihcmlaaGreat
