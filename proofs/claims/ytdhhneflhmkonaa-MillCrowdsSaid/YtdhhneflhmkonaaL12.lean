/- The law MillCrowds. -/
import Derived.Test.YtdhhneflhmkonaaV8
import Derived.Test.YtdhhneflhmkonaaKE
import Derived.Test.YtdhhneflhmkonaaM2
namespace Go.Proofs.Ytdhhneflhmkonaa
open Go.RowKit Go.Shelf

theorem unsE_zero {xs : List Comer} {h : Int} (k : unsE xs h = 0) : xs.length ≤ 12 := by
  unfold unsE at k
  split at k
  · rename_i hq; exact ((okMill_iff h xs).1 hq).n12
  · cases k

/-- A skipped operation may be taken first. -/
theorem held_skip {P : Program} {md : Region.Mode} {ops : Array Oper} {Q : Exit → Act → World → Prop} {S : World → Prop} {i : Nat} {oi : Oper} {d : Option Tmp} {fuel : Nat} {listed : Array Bool} {a : Act} {w : World} (hi : ops[i]? = some oi) (hd : oi.dst = d)
    (hs : Region.noSelect ops = true) (hf : Region.free md ops listed i = true) (hr : (Region.ready md ops listed).contains i = true)
    (hQ : ∀ c a w, Q (.panic c) (a.put oi.dst undef) w → Q (.panic c) a w) (hg : Region.wanted oi (yielded ops a.tmps) = false) (hS : S w)
    (h : wpAnyH P md ops Q S fuel (listed.setIfInBounds i true) (a.put d undef) w) : wpAnyH P md ops Q S (fuel + 1) listed a w := by
  subst hd
  exact wpAnyH_take hi hs hf hr hQ (.inr ⟨hg, rfl⟩) hS h

set_option maxRecDepth 100000 in
set_option maxHeartbeats 8000000 in
theorem law12_any (A D E : Option Addr) (n cc m cd q cf : Nat) (h : Int) (xs : List Comer) (l F : List Int) (w : World) (ha : Arr ccells 3 w A n xs) (hnc : n ≤ cc) (hd : Ints w D m l) (hF : Ints w E q F) (hm : m ≤ 9223372036854775807) (hn : n ≤ 9223372036854775807) (hq : q ≤ 9223372036854775807) :
    Calls Try.prog 12 #[mv A n cc h, .slice D m cd, .slice E q cf] w fun e w' => e = .returned (.bool true) ∧ Below w.heap.size w w' := by
  have HA := Lib.hid ha
  have HD := Lib.hid hd
  have HF := Lib.hid hF
  have hln := Lib.hid ha.1
  clear ha hd hF
  have T1 := fun W (g : Below w.heap.size w W) => Serves_any A D n cc m cd h xs l W (HA.out.below g) hnc (HD.out.below g) hm hn
  have T2 := fun W (g : Below w.heap.size w W) => refServes_any A D n cc m cd h xs l W (HA.out.below g) hnc (HD.out.below g) hm hn
  have T3 := fun W (g : Below w.heap.size w W) => Crowd_any A D n cc m cd h xs l W (HA.out.below g) hnc (HD.out.below g) hm hn
  have T4 := fun W (g : Below w.heap.size w W) => Unserved_any A n cc h xs W (HA.out.below g) hnc hn
  have T5 := fun W (g : Below w.heap.size w W) => crowdError_any A D n cc m cd h xs l W (HA.out.below g) hnc (HD.out.below g) hm hn
  have T6 := fun W (g : Below w.heap.size w W) => refUnserved_any A n cc h xs W (HA.out.below g) hnc hn
  have T7 := fun W (g : Below w.heap.size w W) => CheckCrowd_any A D E n cc m cd q cf h xs l F W (HA.out.below g) hnc (HD.out.below g) (HF.out.below g) hm hn hq
  have T8 := fun W (g : Below w.heap.size w W) => refCheckCrowd_any A D E n cc m cd q cf h xs l F W (HA.out.below g) hnc (HD.out.below g) (HF.out.below g) hm hn hq
  have T9 := fun W (g : Below w.heap.size w W) E2 q2 c2 (F2 : List Int) (h2 : Ints W E2 q2 F2) (hq2 : q2 ≤ 9223372036854775807) => refCheckCrowd_any A D E2 n cc m cd q2 c2 h xs l F2 W (HA.out.below g) hnc (HD.out.below g) h2 hm hn hq2
  have T10 := fun W (g : Below w.heap.size w W) D2 cd2 (hd2 : Ints W D2 n (capped xs 1)) E2 q2 c2 (F2 : List Int) (h2 : Ints W E2 q2 F2) (hq2 : q2 ≤ 9223372036854775807) => refCheckCrowd_any A D2 E2 n cc n cd2 q2 c2 h xs (capped xs 1) F2 W (HA.out.below g) hnc hd2 h2 hn hn hq2
  have T11 := fun W (g : Below w.heap.size w W) (h12 : n ≤ 12) => Capped_any A n cc h 1 xs W (HA.out.below g) h12
  have HUZ := Lib.hid (show unsE xs h = 0 → n ≤ 12 from fun k => by have := unsE_zero k; have := hln.out; omega)
  obtain ⟨e1, he1⟩ : ∃ e1, crowE xs h l = e1 := ⟨_, rfl⟩
  obtain ⟨e2, he2⟩ : ∃ e2, unsE xs h = e2 := ⟨_, rfl⟩
  obtain ⟨e3, he3⟩ : ∃ e3, crowdErr xs h l F = e3 := ⟨_, rfl⟩
  obtain ⟨sv, hsv⟩ : ∃ sv, servesS xs h l = sv := ⟨_, rfl⟩
  obtain ⟨de, hde⟩ : ∃ de, demE xs h l = de := ⟨_, rfl⟩
  simp only [he1] at T3 T5
  simp only [he2] at T4 T6 HUZ
  simp only [he3] at T7 T8
  simp only [hsv, hde] at T1 T2
  unfold mv at *
  have H1 := Lib.hid T1
  have H2 := Lib.hid T2
  have H3 := Lib.hid T3
  have H4 := Lib.hid T4
  have H5 := Lib.hid T5
  have H6 := Lib.hid T6
  have H7 := Lib.hid T7
  have H8 := Lib.hid T8
  have H9 := Lib.hid T9
  have H10 := Lib.hid T10
  have H11 := Lib.hid T11
  clear T1 T2 T3 T4 T5 T6 T7 T8 T9 T10 T11 he1 he2 he3 hsv hde
  go_enter Try.func12, Try.ntmps12
  go_wp2_with fail
  obtain ⟨W1, hW1, g1, -, b1⟩ := box24 w h A n cc
  rw [hW1]
  clear hW1
  refine (H1.out _ g1).mono ?_
  rintro e W2 ⟨rfl, g2⟩
  have b2 := b1.ext g2
  have g2 := g1.trans (g2.mono g1.size)
  have m0 := b2.cell 0
  have m1 := b2.cell 1
  clear g1 b1
  go_wp2_with fail
  refine (H2.out _ g2).mono ?_
  rintro e W3 ⟨rfl, g3⟩
  have b3 := b2.ext g3
  have g3 := g2.trans (g3.mono g2.size)
  clear g2 b2 m0 m1
  have m0 := b3.cell 0
  have m1 := b3.cell 1
  go_wp2_with fail
  refine (H3.out _ g3).mono ?_
  rintro e W4 ⟨g4, D4, c4, F4, rfl, hF4, hl4, hn4, hz4⟩
  have b4 := b3.ext g4
  have g4 := g3.trans (g4.mono g3.size)
  clear g3 b3 m0 m1
  have m0 := b4.cell 0
  have m1 := b4.cell 1
  have HF4 := Lib.hid hF4
  have HN4 := Lib.hid hn4
  have HZ4 := Lib.hid hz4
  clear hF4 hn4 hz4
  go_wp2_with fail
  refine (H4.out _ g4).mono ?_
  rintro e W5 ⟨g5, D5, c5, F5, rfl, hF5, hl5, hn5, hz5⟩
  have b5 := b4.ext g5
  have HF4' := Lib.hid (HF4.out.below g5)
  have g5 := g4.trans (g5.mono g4.size)
  clear g4 b4 m0 m1 HF4
  have m0 := cellW (b5.cell 0)
  have m1 := cellW (b5.cell 1)
  have HF5 := Lib.hid hF5
  have HN5 := Lib.hid hn5
  have HZ5 := Lib.hid hz5
  have G5 := Lib.hid g5
  have B5 := Lib.hid b5
  clear hF5 hn5 hz5 g5 b5
  have GW : ∀ x : Wd W5, Below w.heap.size w x.val := fun x => G5.out.trans (x.ok.mono G5.out.size)
  have HGW := Lib.hid GW
  clear GW
  have C5 := Lib.hid (fun x : Wd W5 => callsCalm (H5.out x.val (HGW.out x)))
  have C6 := Lib.hid (fun x : Wd W5 => callsCalm (H6.out x.val (HGW.out x)))
  have C7 := Lib.hid (fun x : Wd W5 => callsCalm (H7.out x.val (HGW.out x)))
  have C8 := Lib.hid (fun x : Wd W5 => callsCalm (H8.out x.val (HGW.out x)))
  go_wp2_with fail
  refine wp_region_calm W5 (by kernel_rfl) (by kernel_rfl) (Below.refl _ _) ?_
  repeat (go_big_quiet_step (first
    | (go_at_call 58; with_reducible exact C5.out _)
    | (go_at_call 59; with_reducible exact C6.out _)
    | (go_at_call 60; with_reducible exact C7.out _)
    | (go_at_call 61; with_reducible exact C8.out _)))
  refine wpQuiet_nil ?_
  rintro _ ⟨x6, rfl⟩
  have K4 : e1 = 0 → ∀ x : Wd W5, Calls Try.prog 61 #[.agg #[.int .i64 h, .slice A n cc], .slice D m cd, .slice D4 F4.length c4] x.val fun e w' => e = .returned (.int .i64 0) ∧ Below x.val.heap.size x.val w' := by
    intro e x
    have := H9.out x.val (HGW.out x) D4 F4.length c4 F4 (HF4'.out.below x.ok) (by omega)
    rwa [HZ4.out e] at this
  have HK4 := Lib.hid K4
  clear K4
  -- the last region and the end, wherever the one before has come to
  have TAIL : ∀ x : Wd W5, True := fun _ => trivial
  clear TAIL
  by_cases h1 : e1 = 0
  · subst h1
    have K4 := Lib.hid (HK4.out rfl)
    go_upto_region 9 with ((go_at_call 61; (with_reducible refine (K4.out x6).mono ?_); rintro e w7 ⟨rfl, g7⟩; obtain ⟨x7, rfl⟩ := x6.more g7; clear g7))
    by_cases h2 : e2 = 0
    · subst h2
      have hn12 := HUZ.out rfl
      have HZ50 := Lib.hid (HZ5.out rfl)
      have KX : ∀ Wx, Below x7.val.heap.size x7.val Wx → (Wx.cell? ⟨w.heap.size, 0, none⟩ = some (.int .i64 h) ∧ Wx.cell? ⟨w.heap.size, 1, none⟩ = some (.slice A n cc)) := fun Wx g => by
        obtain ⟨y, rfl⟩ := x7.more g
        exact ⟨m0 y, m1 y⟩
      have HKX := Lib.hid KX
      have GD := Lib.hid (show Below x7.val.heap.size x7.val x7.val.drew from (Below.refl _ _).drew)
      have KD := KX _ GD.out
      obtain ⟨kd0, kd1⟩ := KD
      clear KX
      refine wp_region_held_drew (S := fun w' => w'.cell? ⟨w.heap.size, 0, none⟩ = some (.int .i64 h) ∧ w'.cell? ⟨w.heap.size, 1, none⟩ = some (.slice A n cc)) (by kernel_rfl) (HKX.out _ GD.out) (fun hHeld => ?_)
      (refine held_take (i := 0) (oi := ⟨_, _, _, _, _, _⟩) (d := some 88) (v := ?_) rfl rfl (by kernel_rfl) (by kernel_rfl) (by kernel_rfl) (fun _ _ _ h => h) (by rfl) ?_ (by assumption) ?_; rotate_left; (focus (intro w hSw; (try dsimp only at hSw); go_simp; try with_reducible rfl)); (try simp only [Act.put, List.setIfInBounds_toArray, List.set_cons_zero, List.set_cons_succ]))
      (refine held_take (i := 1) (oi := ⟨_, _, _, _, _, _⟩) (d := some 89) (v := ?_) rfl rfl (by kernel_rfl) (by kernel_rfl) (by kernel_rfl) (fun _ _ _ h => h) (by rfl) ?_ (by assumption) ?_; rotate_left; (focus (intro w hSw; (try dsimp only at hSw); go_simp; try with_reducible rfl)); (try simp only [Act.put, List.setIfInBounds_toArray, List.set_cons_zero, List.set_cons_succ]))
      (refine held_take (i := 2) (oi := ⟨_, _, _, _, _, _⟩) (d := some 90) (v := ?_) rfl rfl (by kernel_rfl) (by kernel_rfl) (by kernel_rfl) (fun _ _ _ h => h) (by rfl) ?_ (by assumption) ?_; rotate_left; (focus (intro w hSw; (try dsimp only at hSw); go_simp; try with_reducible rfl)); (try simp only [Act.put, List.setIfInBounds_toArray, List.set_cons_zero, List.set_cons_succ]))
      (refine held_take (i := 3) (oi := ⟨_, _, _, _, _, _⟩) (d := some 91) (v := ?_) rfl rfl (by kernel_rfl) (by kernel_rfl) (by kernel_rfl) (fun _ _ _ h => h) (by rfl) ?_ (by assumption) ?_; rotate_left; (focus (intro w hSw; (try dsimp only at hSw); go_simp; try with_reducible rfl)); (try simp only [Act.put, List.setIfInBounds_toArray, List.set_cons_zero, List.set_cons_succ]))
      (refine held_take (i := 4) (oi := ⟨_, _, _, _, _, _⟩) (d := some 92) (v := ?_) rfl rfl (by kernel_rfl) (by kernel_rfl) (by kernel_rfl) (fun _ _ _ h => h) (by rfl) ?_ (by assumption) ?_; rotate_left; (focus (intro w hSw; (try dsimp only at hSw); go_simp; try with_reducible rfl)); (try simp only [Act.put, List.setIfInBounds_toArray, List.set_cons_zero, List.set_cons_succ]))
      (refine held_take (i := 6) (oi := ⟨_, _, _, _, _, _⟩) (d := some 94) (v := ?_) rfl rfl (by kernel_rfl) (by kernel_rfl) (by kernel_rfl) (fun _ _ _ h => h) (by rfl) ?_ (by assumption) ?_; rotate_left; (focus (intro w hSw; (try dsimp only at hSw); go_simp; try with_reducible rfl)); (try simp only [Act.put, List.setIfInBounds_toArray, List.set_cons_zero, List.set_cons_succ]))
      refine wpAnyH_ready (rs := [5]) (by kernel_rfl) (by simp) ?_
      refine AllReadyH.cons (o := ⟨_, _, _, _, _, _⟩) rfl (fun K hK => ?_) AllReadyH.nil
      (go_simp; go_at_call 62; (with_reducible refine (H11.out x7.val.drew (HGW.out x7).drew hn12).mono ?_); rintro e wa ⟨⟨Da, cda, rfl, hda⟩, ga⟩; have GA := Lib.hid (GD.out.trans ga); have KA := Lib.hid (HKX.out _ GA.out); have HDA := Lib.hid hda; clear ga hda)
      refine hK.out _ _ (KA.out) (fun hHeld => ?_)
      clear hK K
      (try simp only [Act.put, List.setIfInBounds_toArray, List.set_cons_zero, List.set_cons_succ])
      refine wpAnyH_ready (rs := [7]) (by kernel_rfl) (by simp) ?_
      refine AllReadyH.cons (o := ⟨_, _, _, _, _, _⟩) rfl (fun K hK => ?_) AllReadyH.nil
      (go_simp; go_at_call 61; (with_reducible refine (H10.out wa ((HGW.out x7).trans (GA.out.mono (HGW.out x7).size)) Da cda HDA.out D5 F5.length c5 F5 (HF5.out.below (x7.ok.trans (GA.out.mono x7.ok.size))) (by omega)).mono ?_); rw [HZ50.out]; rintro e wb ⟨rfl, gb⟩; have GB := Lib.hid (GA.out.trans (gb.mono GA.out.size)); have KB := Lib.hid (HKX.out _ GB.out); clear gb)
      refine hK.out _ _ (KB.out) (fun hHeld => ?_)
      clear hK K
      (try simp only [Act.put, List.setIfInBounds_toArray, List.set_cons_zero, List.set_cons_succ])
      (refine held_take (i := 8) (oi := ⟨_, _, _, _, _, _⟩) (d := some 96) (v := ?_) rfl rfl (by kernel_rfl) (by kernel_rfl) (by kernel_rfl) (fun _ _ _ h => h) (by rfl) ?_ (by assumption) ?_; rotate_left; (focus (intro w hSw; (try dsimp only at hSw); go_simp; try with_reducible rfl)); (try simp only [Act.put, List.setIfInBounds_toArray, List.set_cons_zero, List.set_cons_succ]))
      (refine held_take (i := 9) (oi := ⟨_, _, _, _, _, _⟩) (d := some 97) (v := ?_) rfl rfl (by kernel_rfl) (by kernel_rfl) (by kernel_rfl) (fun _ _ _ h => h) (by rfl) ?_ (by assumption) ?_; rotate_left; (focus (intro w hSw; (try dsimp only at hSw); go_simp; try with_reducible rfl)); (try simp only [Act.put, List.setIfInBounds_toArray, List.set_cons_zero, List.set_cons_succ]))
      (refine held_take (i := 10) (oi := ⟨_, _, _, _, _, _⟩) (d := some 98) (v := ?_) rfl rfl (by kernel_rfl) (by kernel_rfl) (by kernel_rfl) (fun _ _ _ h => h) (by rfl) ?_ (by assumption) ?_; rotate_left; (focus (intro w hSw; (try dsimp only at hSw); go_simp; try with_reducible rfl)); (try simp only [Act.put, List.setIfInBounds_toArray, List.set_cons_zero, List.set_cons_succ]))
      (refine held_take (i := 11) (oi := ⟨_, _, _, _, _, _⟩) (d := some 99) (v := ?_) rfl rfl (by kernel_rfl) (by kernel_rfl) (by kernel_rfl) (fun _ _ _ h => h) (by rfl) ?_ (by assumption) ?_; rotate_left; (focus (intro w hSw; (try dsimp only at hSw); go_simp; try with_reducible rfl)); (try simp only [Act.put, List.setIfInBounds_toArray, List.set_cons_zero, List.set_cons_succ]))
      (refine held_take (i := 12) (oi := ⟨_, _, _, _, _, _⟩) (d := some 100) (v := ?_) rfl rfl (by kernel_rfl) (by kernel_rfl) (by kernel_rfl) (fun _ _ _ h => h) (by rfl) ?_ (by assumption) ?_; rotate_left; (focus (intro w hSw; (try dsimp only at hSw); go_simp; try with_reducible rfl)); (try simp only [Act.put, List.setIfInBounds_toArray, List.set_cons_zero, List.set_cons_succ]))
      (refine held_take (i := 13) (oi := ⟨_, _, _, _, _, _⟩) (d := some 101) (v := ?_) rfl rfl (by kernel_rfl) (by kernel_rfl) (by kernel_rfl) (fun _ _ _ h => h) (by rfl) ?_ (by assumption) ?_; rotate_left; (focus (intro w hSw; (try dsimp only at hSw); go_simp; try with_reducible rfl)); (try simp only [Act.put, List.setIfInBounds_toArray, List.set_cons_zero, List.set_cons_succ]))
      (refine held_skip (i := 14) (oi := ⟨_, _, _, _, _, _⟩) (d := some 102) rfl rfl (by kernel_rfl) (by kernel_rfl) (by kernel_rfl) (fun _ _ _ h => h) (by rfl) (by assumption) ?_; (try simp only [Act.put, List.setIfInBounds_toArray, List.set_cons_zero, List.set_cons_succ]))
      (refine held_skip (i := 15) (oi := ⟨_, _, _, _, _, _⟩) (d := some 103) rfl rfl (by kernel_rfl) (by kernel_rfl) (by kernel_rfl) (fun _ _ _ h => h) (by rfl) (by assumption) ?_; (try simp only [Act.put, List.setIfInBounds_toArray, List.set_cons_zero, List.set_cons_succ]))
      (refine held_skip (i := 16) (oi := ⟨_, _, _, _, _, _⟩) (d := some 104) rfl rfl (by kernel_rfl) (by kernel_rfl) (by kernel_rfl) (fun _ _ _ h => h) (by rfl) (by assumption) ?_; (try simp only [Act.put, List.setIfInBounds_toArray, List.set_cons_zero, List.set_cons_succ]))
      (refine held_take (i := 17) (oi := ⟨_, _, _, _, _, _⟩) (d := some 105) (v := ?_) rfl rfl (by kernel_rfl) (by kernel_rfl) (by kernel_rfl) (fun _ _ _ h => h) (by rfl) ?_ (by assumption) ?_; rotate_left; (focus (intro w hSw; (try dsimp only at hSw); go_simp; try with_reducible rfl)); (try simp only [Act.put, List.setIfInBounds_toArray, List.set_cons_zero, List.set_cons_succ]))
      (refine held_take (i := 18) (oi := ⟨_, _, _, _, _, _⟩) (d := some 106) (v := ?_) rfl rfl (by kernel_rfl) (by kernel_rfl) (by kernel_rfl) (fun _ _ _ h => h) (by rfl) ?_ (by assumption) ?_; rotate_left; (focus (intro w hSw; (try dsimp only at hSw); go_simp; try with_reducible rfl)); (try simp only [Act.put, List.setIfInBounds_toArray, List.set_cons_zero, List.set_cons_succ]))
      refine wpAnyH_done (by kernel_rfl) ?_ _
      all_goals
        go_wp2_with (go_at_call 21; (with_reducible refine (sane_any _).mono ?_); rintro e w8 ⟨rfl, g8⟩; have G8 := Lib.hid (GB.out.trans (g8.mono GB.out.size)); clear g8)
        go_ret
        exact ⟨rfl, (HGW.out x7).trans (G8.out.mono (HGW.out x7).size)⟩
    · have hc1 : (e2 == 0) = false := beq_eq_false_iff_ne.2 h2
      have hc2 : (e2 != 0) = true := by rw [bne_iff_ne]; exact h2
      have e := HN5.out h2
      subst e
      have HH2 := Lib.hid h2
      clear h2
      refine wp_region_calm x7.val (by kernel_rfl) (by kernel_rfl) (Below.refl _ _) ?_
      repeat (go_big_quiet_step (fail))
      refine wpQuiet_nil ?_
      rintro _ ⟨y, rfl⟩
      go_wp2_with (go_at_call 21; (with_reducible refine (sane_any _).mono ?_); rintro e w8 ⟨rfl, g8⟩; have G8 := Lib.hid (y.ok.trans (g8.mono y.ok.size)); clear g8)
      go_ret
      exact ⟨rfl, (HGW.out x7).trans (G8.out.mono (HGW.out x7).size)⟩
  · have hb1 : (e1 == 0) = false := beq_eq_false_iff_ne.2 h1
    have hb2 : (e1 != 0) = true := by rw [bne_iff_ne]; exact h1
    have e := HN4.out h1
    subst e
    have HH1 := Lib.hid h1
    clear h1
    go_upto_region 9 with fail
    by_cases h2 : e2 = 0
    · subst h2
      have hn12 := HUZ.out rfl
      have HZ50 := Lib.hid (HZ5.out rfl)
      have KX : ∀ Wx, Below x6.val.heap.size x6.val Wx → (Wx.cell? ⟨w.heap.size, 0, none⟩ = some (.int .i64 h) ∧ Wx.cell? ⟨w.heap.size, 1, none⟩ = some (.slice A n cc)) := fun Wx g => by
        obtain ⟨y, rfl⟩ := x6.more g
        exact ⟨m0 y, m1 y⟩
      have HKX := Lib.hid KX
      have GD := Lib.hid (show Below x6.val.heap.size x6.val x6.val.drew from (Below.refl _ _).drew)
      have KD := KX _ GD.out
      obtain ⟨kd0, kd1⟩ := KD
      clear KX
      refine wp_region_held_drew (S := fun w' => w'.cell? ⟨w.heap.size, 0, none⟩ = some (.int .i64 h) ∧ w'.cell? ⟨w.heap.size, 1, none⟩ = some (.slice A n cc)) (by kernel_rfl) (HKX.out _ GD.out) (fun hHeld => ?_)
      (refine held_take (i := 0) (oi := ⟨_, _, _, _, _, _⟩) (d := some 88) (v := ?_) rfl rfl (by kernel_rfl) (by kernel_rfl) (by kernel_rfl) (fun _ _ _ h => h) (by rfl) ?_ (by assumption) ?_; rotate_left; (focus (intro w hSw; (try dsimp only at hSw); go_simp; try with_reducible rfl)); (try simp only [Act.put, List.setIfInBounds_toArray, List.set_cons_zero, List.set_cons_succ]))
      (refine held_take (i := 1) (oi := ⟨_, _, _, _, _, _⟩) (d := some 89) (v := ?_) rfl rfl (by kernel_rfl) (by kernel_rfl) (by kernel_rfl) (fun _ _ _ h => h) (by rfl) ?_ (by assumption) ?_; rotate_left; (focus (intro w hSw; (try dsimp only at hSw); go_simp; try with_reducible rfl)); (try simp only [Act.put, List.setIfInBounds_toArray, List.set_cons_zero, List.set_cons_succ]))
      (refine held_take (i := 2) (oi := ⟨_, _, _, _, _, _⟩) (d := some 90) (v := ?_) rfl rfl (by kernel_rfl) (by kernel_rfl) (by kernel_rfl) (fun _ _ _ h => h) (by rfl) ?_ (by assumption) ?_; rotate_left; (focus (intro w hSw; (try dsimp only at hSw); go_simp; try with_reducible rfl)); (try simp only [Act.put, List.setIfInBounds_toArray, List.set_cons_zero, List.set_cons_succ]))
      (refine held_take (i := 3) (oi := ⟨_, _, _, _, _, _⟩) (d := some 91) (v := ?_) rfl rfl (by kernel_rfl) (by kernel_rfl) (by kernel_rfl) (fun _ _ _ h => h) (by rfl) ?_ (by assumption) ?_; rotate_left; (focus (intro w hSw; (try dsimp only at hSw); go_simp; try with_reducible rfl)); (try simp only [Act.put, List.setIfInBounds_toArray, List.set_cons_zero, List.set_cons_succ]))
      (refine held_take (i := 4) (oi := ⟨_, _, _, _, _, _⟩) (d := some 92) (v := ?_) rfl rfl (by kernel_rfl) (by kernel_rfl) (by kernel_rfl) (fun _ _ _ h => h) (by rfl) ?_ (by assumption) ?_; rotate_left; (focus (intro w hSw; (try dsimp only at hSw); go_simp; try with_reducible rfl)); (try simp only [Act.put, List.setIfInBounds_toArray, List.set_cons_zero, List.set_cons_succ]))
      (refine held_take (i := 6) (oi := ⟨_, _, _, _, _, _⟩) (d := some 94) (v := ?_) rfl rfl (by kernel_rfl) (by kernel_rfl) (by kernel_rfl) (fun _ _ _ h => h) (by rfl) ?_ (by assumption) ?_; rotate_left; (focus (intro w hSw; (try dsimp only at hSw); go_simp; try with_reducible rfl)); (try simp only [Act.put, List.setIfInBounds_toArray, List.set_cons_zero, List.set_cons_succ]))
      refine wpAnyH_ready (rs := [5]) (by kernel_rfl) (by simp) ?_
      refine AllReadyH.cons (o := ⟨_, _, _, _, _, _⟩) rfl (fun K hK => ?_) AllReadyH.nil
      (go_simp; go_at_call 62; (with_reducible refine (H11.out x6.val.drew (HGW.out x6).drew hn12).mono ?_); rintro e wa ⟨⟨Da, cda, rfl, hda⟩, ga⟩; have GA := Lib.hid (GD.out.trans ga); have KA := Lib.hid (HKX.out _ GA.out); have HDA := Lib.hid hda; clear ga hda)
      refine hK.out _ _ (KA.out) (fun hHeld => ?_)
      clear hK K
      (try simp only [Act.put, List.setIfInBounds_toArray, List.set_cons_zero, List.set_cons_succ])
      refine wpAnyH_ready (rs := [7]) (by kernel_rfl) (by simp) ?_
      refine AllReadyH.cons (o := ⟨_, _, _, _, _, _⟩) rfl (fun K hK => ?_) AllReadyH.nil
      (go_simp; go_at_call 61; (with_reducible refine (H10.out wa ((HGW.out x6).trans (GA.out.mono (HGW.out x6).size)) Da cda HDA.out D5 F5.length c5 F5 (HF5.out.below (x6.ok.trans (GA.out.mono x6.ok.size))) (by omega)).mono ?_); rw [HZ50.out]; rintro e wb ⟨rfl, gb⟩; have GB := Lib.hid (GA.out.trans (gb.mono GA.out.size)); have KB := Lib.hid (HKX.out _ GB.out); clear gb)
      refine hK.out _ _ (KB.out) (fun hHeld => ?_)
      clear hK K
      (try simp only [Act.put, List.setIfInBounds_toArray, List.set_cons_zero, List.set_cons_succ])
      (refine held_take (i := 8) (oi := ⟨_, _, _, _, _, _⟩) (d := some 96) (v := ?_) rfl rfl (by kernel_rfl) (by kernel_rfl) (by kernel_rfl) (fun _ _ _ h => h) (by rfl) ?_ (by assumption) ?_; rotate_left; (focus (intro w hSw; (try dsimp only at hSw); go_simp; try with_reducible rfl)); (try simp only [Act.put, List.setIfInBounds_toArray, List.set_cons_zero, List.set_cons_succ]))
      (refine held_take (i := 9) (oi := ⟨_, _, _, _, _, _⟩) (d := some 97) (v := ?_) rfl rfl (by kernel_rfl) (by kernel_rfl) (by kernel_rfl) (fun _ _ _ h => h) (by rfl) ?_ (by assumption) ?_; rotate_left; (focus (intro w hSw; (try dsimp only at hSw); go_simp; try with_reducible rfl)); (try simp only [Act.put, List.setIfInBounds_toArray, List.set_cons_zero, List.set_cons_succ]))
      (refine held_take (i := 10) (oi := ⟨_, _, _, _, _, _⟩) (d := some 98) (v := ?_) rfl rfl (by kernel_rfl) (by kernel_rfl) (by kernel_rfl) (fun _ _ _ h => h) (by rfl) ?_ (by assumption) ?_; rotate_left; (focus (intro w hSw; (try dsimp only at hSw); go_simp; try with_reducible rfl)); (try simp only [Act.put, List.setIfInBounds_toArray, List.set_cons_zero, List.set_cons_succ]))
      (refine held_take (i := 11) (oi := ⟨_, _, _, _, _, _⟩) (d := some 99) (v := ?_) rfl rfl (by kernel_rfl) (by kernel_rfl) (by kernel_rfl) (fun _ _ _ h => h) (by rfl) ?_ (by assumption) ?_; rotate_left; (focus (intro w hSw; (try dsimp only at hSw); go_simp; try with_reducible rfl)); (try simp only [Act.put, List.setIfInBounds_toArray, List.set_cons_zero, List.set_cons_succ]))
      (refine held_take (i := 12) (oi := ⟨_, _, _, _, _, _⟩) (d := some 100) (v := ?_) rfl rfl (by kernel_rfl) (by kernel_rfl) (by kernel_rfl) (fun _ _ _ h => h) (by rfl) ?_ (by assumption) ?_; rotate_left; (focus (intro w hSw; (try dsimp only at hSw); go_simp; try with_reducible rfl)); (try simp only [Act.put, List.setIfInBounds_toArray, List.set_cons_zero, List.set_cons_succ]))
      (refine held_take (i := 13) (oi := ⟨_, _, _, _, _, _⟩) (d := some 101) (v := ?_) rfl rfl (by kernel_rfl) (by kernel_rfl) (by kernel_rfl) (fun _ _ _ h => h) (by rfl) ?_ (by assumption) ?_; rotate_left; (focus (intro w hSw; (try dsimp only at hSw); go_simp; try with_reducible rfl)); (try simp only [Act.put, List.setIfInBounds_toArray, List.set_cons_zero, List.set_cons_succ]))
      (refine held_skip (i := 14) (oi := ⟨_, _, _, _, _, _⟩) (d := some 102) rfl rfl (by kernel_rfl) (by kernel_rfl) (by kernel_rfl) (fun _ _ _ h => h) (by rfl) (by assumption) ?_; (try simp only [Act.put, List.setIfInBounds_toArray, List.set_cons_zero, List.set_cons_succ]))
      (refine held_skip (i := 15) (oi := ⟨_, _, _, _, _, _⟩) (d := some 103) rfl rfl (by kernel_rfl) (by kernel_rfl) (by kernel_rfl) (fun _ _ _ h => h) (by rfl) (by assumption) ?_; (try simp only [Act.put, List.setIfInBounds_toArray, List.set_cons_zero, List.set_cons_succ]))
      (refine held_skip (i := 16) (oi := ⟨_, _, _, _, _, _⟩) (d := some 104) rfl rfl (by kernel_rfl) (by kernel_rfl) (by kernel_rfl) (fun _ _ _ h => h) (by rfl) (by assumption) ?_; (try simp only [Act.put, List.setIfInBounds_toArray, List.set_cons_zero, List.set_cons_succ]))
      (refine held_take (i := 17) (oi := ⟨_, _, _, _, _, _⟩) (d := some 105) (v := ?_) rfl rfl (by kernel_rfl) (by kernel_rfl) (by kernel_rfl) (fun _ _ _ h => h) (by rfl) ?_ (by assumption) ?_; rotate_left; (focus (intro w hSw; (try dsimp only at hSw); go_simp; try with_reducible rfl)); (try simp only [Act.put, List.setIfInBounds_toArray, List.set_cons_zero, List.set_cons_succ]))
      (refine held_take (i := 18) (oi := ⟨_, _, _, _, _, _⟩) (d := some 106) (v := ?_) rfl rfl (by kernel_rfl) (by kernel_rfl) (by kernel_rfl) (fun _ _ _ h => h) (by rfl) ?_ (by assumption) ?_; rotate_left; (focus (intro w hSw; (try dsimp only at hSw); go_simp; try with_reducible rfl)); (try simp only [Act.put, List.setIfInBounds_toArray, List.set_cons_zero, List.set_cons_succ]))
      refine wpAnyH_done (by kernel_rfl) ?_ _
      all_goals
        go_wp2_with (go_at_call 21; (with_reducible refine (sane_any _).mono ?_); rintro e w8 ⟨rfl, g8⟩; have G8 := Lib.hid (GB.out.trans (g8.mono GB.out.size)); clear g8)
        go_ret
        exact ⟨rfl, (HGW.out x6).trans (G8.out.mono (HGW.out x6).size)⟩
    · have hc1 : (e2 == 0) = false := beq_eq_false_iff_ne.2 h2
      have hc2 : (e2 != 0) = true := by rw [bne_iff_ne]; exact h2
      have e := HN5.out h2
      subst e
      have HH2 := Lib.hid h2
      clear h2
      refine wp_region_calm x6.val (by kernel_rfl) (by kernel_rfl) (Below.refl _ _) ?_
      repeat (go_big_quiet_step (fail))
      refine wpQuiet_nil ?_
      rintro _ ⟨y, rfl⟩
      go_wp2_with (go_at_call 21; (with_reducible refine (sane_any _).mono ?_); rintro e w8 ⟨rfl, g8⟩; have G8 := Lib.hid (y.ok.trans (g8.mono y.ok.size)); clear g8)
      go_ret
      exact ⟨rfl, (HGW.out x6).trans (G8.out.mono (HGW.out x6).size)⟩
end Go.Proofs.Ytdhhneflhmkonaa
