/- The reference: sound, Sound. -/
import Derived.Test.YtkoejeghihcmlaaGreatUM
namespace Go.Proofs.YtkoejeghihcmlaaGreat
open Go.RowKit Go.Shelf

theorem look_num {p : Pl} (h : okPl p = true) (known : Int) (m : Int → Bool) : ∀ x ∈ lookL p known m, Num x := fun x hx => by
  have hp := ok_parts h
  rw [lookL_cart] at hx
  obtain ⟨y, hy, rfl⟩ := List.mem_map.1 hx
  exact veil_num (hp.1 y (mem_cart.1 hy).1)
theorem standsF_bd {p : Pl} (known : Int) (m : Int → Bool) (ls : List Six) : ∀ (l : List Six) (st : List Rg), (∀ x ∈ l, Num x) → st.length = ls.length + 1 → Bd st 10000000 → Bd (standsF known m ls l st) 10000000
  | [], _, _, _, hb => hb
  | x :: l, st, hx, hl, hb => by
    unfold standsF
    rw [List.foldl_cons]
    have ih := fun st' => standsF_bd (p := p) known m ls l st' (fun y hy => hx y (List.mem_cons_of_mem _ hy))
    have ha := after_len ls x.b
    split
    · exact ih _ (by rw [nar_len]; exact hl) (bd_nar hb (by omega) (hx x List.mem_cons_self))
    · exact ih _ hl hb
theorem look_st {p : Pl} (h : okPl p = true) (known : Int) (m : Int → Bool) : Bd (standsF known m (lookL p known m) p.stands (stood0 p (lookL p known m).length)) 10000000 :=
  standsF_bd (p := p) known m _ _ _ (ok_parts h).2.1 (by unfold stood0; simp) (stood0_bd h _)
set_option maxRecDepth 100000 in
set_option maxHeartbeats 4000000 in
theorem refSound_any (p : Pl) (A1 A2 A3 : Option Addr) (n1 c1 n2 c2 n3 c3 : Nat) (known : Int) (all : Bool) (N : Option Addr) (nn cn : Nat) (by_ : List Int) (w : World) (hp : Pa w p A1 A2 A3 n1 c1 n2 c2 n3 c3) (hok : okPl p = true) (hby : Ints w N nn by_) (hnn : nn ≤ 1000000) :
    Calls Tryz.prog 102 #[plv p A1 A2 A3 n1 c1 n2 c2 n3 c3, .int .i64 known, .agg #[.bool all, .slice N nn cn]] w fun e w' => e = .returned (.bool (sound (lookS p known (mB all by_)))) ∧ Below w.heap.size w w' := by
  obtain ⟨W2, hW2⟩ : ∃ W2, (w.alloc (.cells (plb p A1 A2 A3 n1 c1 n2 c2 n3 c3) 38)).alloc (.cells #[.bool all, .slice N nn cn] 179) = W2 := ⟨_, rfl⟩
  have g0 : Below w.heap.size w W2 := by rw [← hW2]; exact two_more _ _ _
  have b0 : Blk W2 w.heap.size 38 (plb p A1 A2 A3 n1 c1 n2 c2 n3 c3) := by rw [← hW2]; exact (Blk.new _ _ _).alloc _
  have b1 : Blk W2 (w.heap.size + 1) 179 #[.bool all, .slice N nn cn] := by
    rw [← hW2]
    have := Blk.new (w.alloc (.cells (plb p A1 A2 A3 n1 c1 n2 c2 n3 c3) 38)) 179 #[.bool all, .slice N nn cn]
    rwa [World.size_alloc] at this
  have hpar := ok_parts hok
  have hn1 : n1 ≤ 60 := by rw [← hp.l1.1]; exact hpar.2.2.2.2.2.1
  have hn2 : n2 ≤ 60 := by rw [← hp.l2.1]; exact hpar.2.2.2.2.2.2.1
  obtain ⟨m, hm⟩ : ∃ m, mB all by_ = m := ⟨_, rfl⟩
  have T1 := refRow_any p A1 A2 A3 n1 c1 n2 c2 n3 c3 known all N nn cn by_ W2 (hp.below g0) ⟨by omega, by omega⟩ (hby.below g0) hnn
  rw [hm] at T1 ⊢
  have hll : (lookL p known m).length ≤ 60 := by
    rw [lookL_cart, List.length_map]
    unfold cartL
    rw [srtH_len]
    exact Nat.le_trans (List.length_filter_le _ _) hpar.2.2.2.2.2.1
  have HT1 := Lib.hid T1
  have HLL := Lib.hid hll
  have HNU := Lib.hid (wb_of (look_num hok known m))
  have HBD := Lib.hid (look_st hok known m)
  have HLS := Lib.hid (show lookS p known m = settle (lookL p known m) (standsF known m (lookL p known m) p.stands (stood0 p (lookL p known m).length)) from rfl)
  have HSN := Lib.hid (show (standsF known m (lookL p known m) p.stands (stood0 p (lookL p known m).length)).length = (lookL p known m).length + 1 by rw [standsF_len]; unfold stood0; simp)
  have GA := Lib.hid g0
  have HW2 := Lib.hid hW2
  have r0 := b0.cell 0
  have r1 := b0.cell 1
  have r2 := b0.cell 2
  have r3 := b0.cell 3
  have r4 := b0.cell 4
  have r5 := b0.cell 5
  have s0 := b1.cell 0
  have s1 := b1.cell 1
  clear T1 hp hok hby hnn hpar hn1 hn2 hm g0 b0 b1 hW2 hll
  obtain ⟨rs, hrs⟩ : ∃ r, sound (lookS p known m) = r := ⟨_, rfl⟩
  have HRS := Lib.hid hrs
  rw [hrs]
  clear hrs
  go_enter Tryz.func102, Tryz.ntmps102
  go_upto_region 1 with fail
  rw [HW2.out]
  go_wp2_with (first
    | (go_at_call 120; (with_reducible refine (HT1.out).mono ?_); rintro e V3 ⟨⟨A, n, c, B, q, d, rfl, hl, hs, -⟩, hg⟩; have HG3 := Lib.hid hg; have HT2 := Lib.hid (refSettled_any A n c _ B q d _ V3 (own_arr hl) (own_arrR hs) (by have h := (own_arr hl).1; have := HLL.out; omega) (by have h1 := (own_arr hl).1; have h2 := (own_arrR hs).1; have h3 := HSN.out; omega) HNU.out HBD.out); clear hl hs hg)
    | (go_at_call 122; (with_reducible refine (HT2.out).mono ?_); rintro e V4 ⟨⟨B', d', rfl, -⟩, hg⟩; have HG4 := Lib.hid hg; rw [← HLS.out, HRS.out]; clear hg))
  go_ret
  exact ⟨rfl, GA.out.trans ((HG3.out.trans ((HG4.out.trans ((one_more _ _).mono HG4.out.size)).mono HG3.out.size)).mono GA.out.size)⟩
theorem first_zero (p : Pl) (known : Int) : firstE p [0] [known] = firstE p [] [known] := by
  unfold firstE noHour
  simp [rng]
theorem noNums (w : World) : Ints w none 0 [] := Arr.nil_
set_option maxRecDepth 100000 in
set_option maxHeartbeats 4000000 in
theorem refSoundP_any (p : Pl) (A1 A2 A3 : Option Addr) (n1 c1 n2 c2 n3 c3 : Nat) (known : Int) (w : World) (hp : Pa w p A1 A2 A3 n1 c1 n2 c2 n3 c3) :
    Calls Tryz.prog 38 #[plv p A1 A2 A3 n1 c1 n2 c2 n3 c3, .int .i64 known] w fun e w' => e = .returned (.tuple #[.bool (soundB p known), .int .i64 (firstE p [] [known])]) ∧ Below w.heap.size w w' := by
  obtain ⟨W1, hW1⟩ : ∃ W1, w.alloc (.cells (plb p A1 A2 A3 n1 c1 n2 c2 n3 c3) 38) = W1 := ⟨_, rfl⟩
  have g0 : Below w.heap.size w W1 := by rw [← hW1]; exact one_more _ _
  have b0 : Blk W1 w.heap.size 38 (plb p A1 A2 A3 n1 c1 n2 c2 n3 c3) := by rw [← hW1]; exact Blk.new _ _ _
  have T1 := refAsked_any p A1 A2 A3 n1 c1 n2 c2 n3 c3 0 known W1 (hp.below g0)
  rw [first_zero] at T1
  obtain ⟨fe, hfe⟩ : ∃ e, firstE p [] [known] = e := ⟨_, rfl⟩
  have HSB := Lib.hid (show soundB p known = if fe = 0 then sound (lookS p known every) else false by unfold soundB; rw [hfe])
  have HOK := Lib.hid (fun (h : fe = 0) => first_ok (p := p) (hours := []) (days := [known]) (by rw [hfe]; exact h))
  rw [hfe] at T1 ⊢
  have HT1 := Lib.hid T1
  have HPA := Lib.hid (hp.below g0)
  have HB0 := Lib.hid b0
  have GA := Lib.hid g0
  have HW1 := Lib.hid hW1
  have r0 := b0.cell 0
  have r1 := b0.cell 1
  have r2 := b0.cell 2
  have r3 := b0.cell 3
  have r4 := b0.cell 4
  have r5 := b0.cell 5
  clear T1 hp g0 b0 hW1 hfe
  by_cases hz : fe = 0
  · have hok := HOK.out hz
    have T2 := fun (V : World) (g : Below W1.heap.size W1 V) => refSound_any p A1 A2 A3 n1 c1 n2 c2 n3 c3 known true none 0 0 [] V (HPA.out.below g) hok (noNums V) (by omega)
    rw [mB_all] at T2
    have e := HSB.out
    rw [if_pos hz] at e
    obtain ⟨rs, hrs⟩ : ∃ r, sound (lookS p known every) = r := ⟨_, rfl⟩
    rw [hrs] at T2 e
    rw [e]
    have HT2 := Lib.hid T2
    subst hz
    clear T2 e hrs hok HSB HOK
    go_enter Tryz.func38, Tryz.ntmps38
    go_upto_region 1 with fail
    rw [HW1.out]
    go_wp2_with (first
      | (go_at_call 101; (with_reducible refine (HT1.out).mono ?_); rintro e V ⟨rfl, hg⟩; have HG1 := Lib.hid hg; have m0 := (HB0.out.ext hg).cell 0; have m1 := (HB0.out.ext hg).cell 1; have m2 := (HB0.out.ext hg).cell 2; have m3 := (HB0.out.ext hg).cell 3; have m4 := (HB0.out.ext hg).cell 4; have m5 := (HB0.out.ext hg).cell 5; clear hg)
      | (go_at_call 102; (with_reducible refine (HT2.out _ HG1.out).mono ?_); rintro e V2 ⟨rfl, hg⟩; have HG2 := Lib.hid hg; clear hg))
    go_ret2
    exact ⟨rfl, GA.out.trans ((HG1.out.trans (HG2.out.mono HG1.out.size)).mono GA.out.size)⟩
  · have e := HSB.out
    rw [if_neg hz] at e
    rw [e]
    have hz2 : (fe != 0) = true := by simpa using hz
    clear e hz HSB HOK
    go_enter Tryz.func38, Tryz.ntmps38
    go_upto_region 1 with fail
    rw [HW1.out]
    go_wp2_with (go_at_call 101; (with_reducible refine (HT1.out).mono ?_); rintro e V ⟨rfl, hg⟩; have HG1 := Lib.hid hg; clear hg)
    go_ret2
    exact ⟨rfl, GA.out.trans (HG1.out.mono GA.out.size)⟩
end Go.Proofs.YtkoejeghihcmlaaGreat
