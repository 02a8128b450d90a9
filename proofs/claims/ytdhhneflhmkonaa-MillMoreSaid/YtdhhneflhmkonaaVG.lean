/- The reference's Moved (func 19). -/
import Derived.Test.YtdhhneflhmkonaaV9
import Derived.Test.YtdhhneflhmkonaaN3
namespace Go.Proofs.Ytdhhneflhmkonaa
open Go.RowKit Go.Shelf

theorem less_hrs {xs : List Comer} (hX : Hrs xs) (f : Int) : Hrs (lessL xs f) := fun x hx => hX x (List.mem_filter.1 hx).1

set_option maxRecDepth 100000 in
set_option maxHeartbeats 8000000 in
theorem refMoved_any (A : Option Addr) (n cc : Nat) (h f : Int) (xs : List Comer) (w : World) (ha : Arr ccells 3 w A n xs) (hnc : n ≤ cc) (hn : n ≤ 9223372036854775807) :
    Calls Try.prog 19 #[mv A n cc h, .int .i64 f] w fun e w' => (∃ D c, e = .returned (.tuple #[.slice D (movedS xs h f).length c, .int .i64 (movedE xs h f)]) ∧ Ints w' D (movedS xs h f).length (movedS xs h f)) ∧ Below w.heap.size w w' := by
  have HA := Lib.hid ha
  have hlen := Lib.hid ha.1
  clear ha
  obtain ⟨ok, hok⟩ : ∃ ok, okMill h xs = ok := ⟨_, rfl⟩
  have HOK := Lib.hid hok
  obtain ⟨ix, hix⟩ : ∃ ix, idx xs f = ix := ⟨_, rfl⟩
  have HIX := Lib.hid hix
  obtain ⟨me, hme⟩ : ∃ me, movedE xs h f = me := ⟨_, rfl⟩
  have HE := Lib.hid (show me = if ok = true then (if ix < 0 then 57 else 0) else 52 by rw [← hme, ← hok, ← hix]; rfl)
  have HS := Lib.hid (show movedS xs h f = if me = 0 then srt (movedL xs h f) else [] by rw [← hme]; rfl)
  rw [hme]
  generalize movedS xs h f = ms at HS ⊢
  clear hok hix hme
  unfold mv
  go_enter Try.func19, Try.ntmps19
  go_wp2_with fail
  obtain ⟨W1, hW1, g1, -, b1⟩ := box24 w h A n cc
  rw [hW1]
  clear hW1
  refine (refCheck_any h A n cc xs W1 (HA.out.below g1) hnc hn).mono ?_
  rintro e W2 ⟨rfl, hg2⟩
  rw [HOK.out]
  have b2 := b1.ext hg2
  have g2 := g1.trans (hg2.mono g1.size)
  have m0 := b2.cell 0
  have m1 := b2.cell 1
  have B2 := Lib.hid b2
  have G2 := Lib.hid g2
  clear g1 b1 hg2 g2 b2
  cases ok with
  | false =>
    rw [show err false 52 = 52 from rfl]
    go_wp2_with fail
    go_ret2
    have e : me = 52 := HE.out
    subst e
    have e : ms = [] := HS.out
    subst e
    exact ⟨⟨none, 0, rfl, Arr.nil_⟩, G2.out⟩
  | true =>
    rw [show err true 52 = 0 from rfl]
    have ok := (okMill_iff h xs).1 HOK.out
    obtain ⟨H, rfl⟩ : ∃ H : Nat, h = H := ⟨h.toNat, by have := ok.h0; omega⟩
    have hH : H ≤ 24 := by have := ok.h24; omega
    have hn12 : n ≤ 12 := by have := ok.n12; have := hlen.out; omega
    have HX := Lib.hid ok.hrs
    have HOO := Lib.hid ok
    have T1 := refAt_any A n cc (H : Int) xs f W2 (HA.out.below G2.out) (by omega)
    rw [HIX.out] at T1
    have HT1 := Lib.hid T1
    clear T1 ok
    by_cases hneg : ix < 0
    · have hb : decide (ix < 0) = true := decide_eq_true hneg
      have e : me = 57 := by rw [HE.out, if_pos rfl, if_pos hneg]
      subst e
      have e : ms = [] := HS.out
      subst e
      clear hneg
      go_wp2_with (go_at_call 71; (with_reducible refine HT1.out.mono ?_); rintro e w' ⟨rfl, g3⟩; have G3 := Lib.hid g3; clear g3)
      go_ret2
      exact ⟨⟨none, 0, rfl, Arr.nil_⟩, G2.out.trans (G3.out.mono G2.out.size)⟩
    have hb : decide (ix < 0) = false := decide_eq_false hneg
    have e : me = 0 := by rw [HE.out, if_pos rfl, if_neg hneg]
    subst e
    obtain ⟨i, rfl⟩ : ∃ i : Nat, ix = i := ⟨ix.toNat, by omega⟩
    have hin : i < xs.length := by
      rcases idx_cases' xs f with e | ⟨j, e, hj, -⟩
      · have := HIX.out; omega
      · have := HIX.out; omega
    obtain ⟨ys, hys⟩ : ∃ ys, lessL xs f = ys := ⟨_, rfl⟩
    have HYS := Lib.hid hys
    have HMS := Lib.hid (show ms = refMov xs ys (turnsS xs H) (turnsS ys H) 99 by
      have e1 : xs.eraseIdx i = ys := (erase_less HOO.out HIX.out hin).trans hys
      have := HS.out
      rw [if_pos rfl, movedL, HIX.out, Int.toNat_natCast, Int.toNat_natCast, e1] at this
      rw [refMov_srt HOO.out]
      exact this)
    have hym : ys.length ≤ n := by rw [← hys, ← hlen.out]; exact lessL_len xs f
    have HXY := Lib.hid (show Hrs ys by rw [← hys]; exact less_hrs HX.out f)
    clear hneg hys hin
    go_wp2_with (go_at_call 71; (with_reducible refine HT1.out.mono ?_); rintro e W3 ⟨rfl, g3⟩; have c0 := (B2.out.ext g3).cell 0; have c1 := (B2.out.ext g3).cell 1; have G3 := Lib.hid (G2.out.trans (g3.mono G2.out.size)); have B3 := Lib.hid (B2.out.ext g3); clear g3)
    clear m0 m1
    have T2 := less_any A n cc (H : Int) f xs W3 (HA.out.below G3.out) (by omega)
    unfold mv LessPost at T2
    rw [HYS.out] at T2
    unfold mv at T2
    refine T2.mono ?_
    rintro e W4 ⟨g4, A', c', rfl, hc', -, hay, -⟩
    obtain ⟨m, hm⟩ : ∃ m, ys.length = m := ⟨_, rfl⟩
    rw [hm] at hay hc' hym ⊢
    have B4 := Lib.hid (B3.out.ext g4)
    have G4 := Lib.hid (G3.out.trans (g4.mono G3.out.size))
    have HY4 := Lib.hid hay
    have HML := Lib.hid hm
    clear T2 g4 hay c0 c1 hm
    go_upto_region 6 with fail
    obtain ⟨W5, hW5, g5, -, b5⟩ := box24 W4 (H : Int) A' m c'
    rw [hW5]
    obtain ⟨b6, hb6⟩ : ∃ b6, W4.heap.size = b6 := ⟨_, rfl⟩
    rw [hb6] at b5 ⊢
    have G5 := Lib.hid (G4.out.trans (g5.mono G4.out.size))
    have B5 := Lib.hid (B4.out.ext g5)
    have Y5 := Lib.hid b5
    have HY5 := Lib.hid (HY4.out.below g5)
    have m0 := B5.out.cell 0
    have m1 := B5.out.cell 1
    clear hW5 g5 b5 hb6
    have T3 := hoursRef_any A n cc H xs W5 (HA.out.below G5.out) HX.out hH hn12
    unfold mv at T3
    have HT3 := Lib.hid T3
    clear T3
    go_upto_region 7 with (go_at_call 73; (with_reducible refine HT3.out.mono ?_); rintro e W6 ⟨⟨b7, rfl, -, hb7⟩, g6⟩; have G6 := Lib.hid (G5.out.trans (g6.mono G5.out.size)); have B6 := Lib.hid (B5.out.ext g6); have Y6 := Lib.hid (Y5.out.ext g6); have HY6 := Lib.hid (HY5.out.below g6); have L6 := Lib.hid hb7; clear g6 hb7)
    have k0 := Y6.out.cell 0
    have k1 := Y6.out.cell 1
    clear m0 m1
    have T4 := hoursRef_any A' m c' H ys W6 HY6.out HXY.out hH (by omega)
    unfold mv at T4
    have HT4 := Lib.hid T4
    clear T4
    go_upto_region 8 with (go_at_call 73; (with_reducible refine HT4.out.mono ?_); rintro e W7 ⟨⟨b8, rfl, -, hb8⟩, g7⟩; have G7 := Lib.hid (G6.out.trans (g7.mono G6.out.size)); have B7 := Lib.hid (B6.out.ext g7); have Y7 := Lib.hid (Y6.out.ext g7); have HY7 := Lib.hid (HY6.out.below g7); have L7 := Lib.hid (L6.out.ext g7); have N7 := Lib.hid hb8; clear g7 hb8)
    clear k0 k1
    have hl7 : (turnsS xs H).length = n := (turns_len xs H).trans hlen.out
    have hl8 : (turnsS ys H).length = m := (turns_len ys H).trans HML.out
    generalize turnsS xs H = was at L7 HMS hl7
    generalize turnsS ys H = now at N7 HMS hl8
    have HL7 := Lib.hid hl7
    have HL8 := Lib.hid hl8
    clear hl7 hl8
    go_wp2_with fail
    go_loopw [9, 10] (fun v q wr => ∃ k : Nat, k ≤ 99 ∧ q = .int .i64 ((k : Int) + 1) ∧ Own wr W7.heap.size v (refMov xs ys was now k) ∧ Below W7.heap.size W7 wr) (fun _ q _ => 100 - (intOf q).toNat)
    case atStart => exact ⟨0, by omega, rfl, Own.nil _ _, Below.refl _ _⟩
    case round =>
      obtain ⟨k, hk, rfl, hown, hg⟩ := hrel
      rename World => wr
      have HG := Lib.hid hg
      have HGW := Lib.hid (G7.out.trans (hg.mono G7.out.size))
      have HO := Lib.hid hown
      have hsz := hg.size
      by_cases hk99 : k < 99
      · have hd99 : decide ((k : Int) + 1 ≤ 99) = true := decide_eq_true (by omega)
        obtain ⟨tb, htb⟩ : ∃ tb, mvTest xs ys was now ((k : Int) + 1) = tb := ⟨_, rfl⟩
        have HNX := Lib.hid (show refMov xs ys was now (k + 1) = refMov xs ys was now k ++ if tb = true then [(k : Int) + 1] else [] by rw [← htb]; rfl)
        obtain ⟨p, hp⟩ : ∃ p, idx xs ((k : Int) + 1) = p := ⟨_, rfl⟩
        obtain ⟨r, hr⟩ : ∃ r, idx ys ((k : Int) + 1) = r := ⟨_, rfl⟩
        have HP := Lib.hid hp
        have HR := Lib.hid hr
        have HTB := Lib.hid (show (decide (0 ≤ p) && decide (0 ≤ r) && decide (was.getD p.toNat 0 ≠ now.getD r.toNat 0)) = tb by rw [← htb, ← hp, ← hr]; rfl)
        have hpn : p < n := by
          rcases idx_cases' xs ((k : Int) + 1) with e | ⟨j, e, hj, -⟩
          · omega
          · have := hlen.out; omega
        have hrm : r < m := by
          rcases idx_cases' ys ((k : Int) + 1) with e | ⟨j, e, hj, -⟩
          · omega
          · have := HML.out; omega
        have B8 := B7.out.ext hg
        have Y8 := Lib.hid (Y7.out.ext hg)
        have d0 := B8.cell 0
        have d1 := B8.cell 1
        have P1 := fun W (g : Below wr.heap.size wr W) => refAt_any A n cc (H : Int) xs ((k : Int) + 1) W ((HA.out.below HGW.out).below g) (by omega)
        have P2 := fun W (g : Below wr.heap.size wr W) => refAt_any A' m c' (H : Int) ys ((k : Int) + 1) W ((HY7.out.below hg).below g) (by omega)
        simp only [hp] at P1
        simp only [hr] at P2
        have HP1 := Lib.hid P1
        have HP2 := Lib.hid P2
        have hL : (refMov xs ys was now k).length < 100000 := by have := refMov_len xs ys was now k; omega
        have LR := Lib.hid (L7.out.ext hg)
        have NR := Lib.hid (N7.out.ext hg)
        clear P1 P2 htb hp hr B8 hown hg
        by_cases hp0 : 0 ≤ p
        case neg =>
          have hpb : decide (0 ≤ p) = false := decide_eq_false hp0
          obtain rfl : tb = false := by rw [← HTB.out, hpb]; rfl
          clear hp0
          go_wp2_with (first
            | (go_at_call 71; (with_reducible refine (HP1.out wr (Below.refl _ _)).mono ?_); rintro e Wa ⟨rfl, ga⟩; have y0 := (Y8.out.ext ga).cell 0; have y1 := (Y8.out.ext ga).cell 1; have GA := Lib.hid ga; clear ga)
            | (go_at_call 71; (with_reducible refine (HP2.out Wa GA.out).mono ?_); rintro e Wb ⟨rfl, gb⟩; have GB := Lib.hid (GA.out.trans (gb.mono GA.out.size)); clear gb))
          refine wp_region_calm Wb (by kernel_rfl) (by kernel_rfl) (Below.refl _ _) ?_
          repeat (go_big_quiet_step (fail))
          refine wpQuiet_nil ?_
          rintro _ ⟨z, rfl⟩
          have GZ := Lib.hid (GB.out.trans (z.ok.mono GB.out.size))
          go_wp2_with fail
          go_roundw
          case rel => exact ⟨k + 1, by omega, by go_num, by rw [HNX.out, if_neg (by simp)]; simpa using HO.out.ext GZ.out, HG.out.trans (GZ.out.mono hsz)⟩
          case measure => simp [intOf]; omega
        obtain ⟨p', rfl⟩ : ∃ p' : Nat, p = p' := ⟨p.toNat, by omega⟩
        have hpb : decide (0 ≤ (p' : Int)) = true := by simp
        have hp'n : p' < n := by omega
        by_cases hr0 : 0 ≤ r
        case neg =>
          have hrb : decide (0 ≤ r) = false := decide_eq_false hr0
          obtain rfl : tb = false := by rw [← HTB.out, hrb, Bool.and_false]; rfl
          clear hr0
          go_wp2_with (first
            | (go_at_call 71; (with_reducible refine (HP1.out wr (Below.refl _ _)).mono ?_); rintro e Wa ⟨rfl, ga⟩; have y0 := (Y8.out.ext ga).cell 0; have y1 := (Y8.out.ext ga).cell 1; have GA := Lib.hid ga; clear ga)
            | (go_at_call 71; (with_reducible refine (HP2.out Wa GA.out).mono ?_); rintro e Wb ⟨rfl, gb⟩; have GB := Lib.hid (GA.out.trans (gb.mono GA.out.size)); clear gb))
          refine wp_region_calm Wb (by kernel_rfl) (by kernel_rfl) (Below.refl _ _) ?_
          repeat (go_big_quiet_step (fail))
          refine wpQuiet_nil ?_
          rintro _ ⟨z, rfl⟩
          have GZ := Lib.hid (GB.out.trans (z.ok.mono GB.out.size))
          go_wp2_with fail
          go_roundw
          case rel => exact ⟨k + 1, by omega, by go_num, by rw [HNX.out, if_neg (by simp)]; simpa using HO.out.ext GZ.out, HG.out.trans (GZ.out.mono hsz)⟩
          case measure => simp [intOf]; omega
        obtain ⟨r', rfl⟩ : ∃ r' : Nat, r = r' := ⟨r.toNat, by omega⟩
        have hrb : decide (0 ≤ (r' : Int)) = true := by simp
        have hr'm : r' < m := by omega
        obtain ⟨vp, hvp⟩ : ∃ vp, was.getD p' 0 = vp := ⟨_, rfl⟩
        obtain ⟨vr, hvr⟩ : ∃ vr, now.getD r' 0 = vr := ⟨_, rfl⟩
        have LC := Lib.hid (show wr.cell? ⟨b7, p', none⟩ = some (.int .i64 vp) by
          rw [LR.out.cell p', vals_get, ← hvp, List.getD_eq_getElem?_getD, List.getElem?_eq_getElem (by rw [HL7.out]; exact hp'n)]; rfl)
        have NC := Lib.hid (show wr.cell? ⟨b8, r', none⟩ = some (.int .i64 vr) by
          rw [NR.out.cell r', vals_get, ← hvr, List.getD_eq_getElem?_getD, List.getElem?_eq_getElem (by rw [HL8.out]; exact hr'm)]; rfl)
        have HT2 := Lib.hid (show decide (vp ≠ vr) = tb by
          have := HTB.out
          rw [hpb, hrb, Int.toNat_natCast, Int.toNat_natCast, hvp, hvr] at this
          simpa using this)
        clear hp0 hr0 hvp hvr
        by_cases hv : vp = vr
        case pos =>
          subst hv
          obtain rfl : tb = false := by rw [← HT2.out]; simp
          go_wp2_with (first
            | (go_at_call 71; (with_reducible refine (HP1.out wr (Below.refl _ _)).mono ?_); rintro e Wa ⟨rfl, ga⟩; have y0 := (Y8.out.ext ga).cell 0; have y1 := (Y8.out.ext ga).cell 1; have GA := Lib.hid ga; clear ga)
            | (go_at_call 71; (with_reducible refine (HP2.out Wa GA.out).mono ?_); rintro e Wb ⟨rfl, gb⟩; have GB := Lib.hid (GA.out.trans (gb.mono GA.out.size)); clear gb))
          have lc : ∀ x : Wd Wb, x.val.cell? ⟨b7, p', none⟩ = some (.int .i64 vp) := cellL GB.out LC.out
          have nc : ∀ x : Wd Wb, x.val.cell? ⟨b8, r', none⟩ = some (.int .i64 vp) := cellL GB.out NC.out
          refine wp_region_calm Wb (by kernel_rfl) (by kernel_rfl) (Below.refl _ _) ?_
          repeat (go_big_quiet_step (fail))
          refine wpQuiet_nil ?_
          rintro _ ⟨z, rfl⟩
          have GZ := Lib.hid (GB.out.trans (z.ok.mono GB.out.size))
          go_wp2_with fail
          go_roundw
          case rel => exact ⟨k + 1, by omega, by go_num, by rw [HNX.out, if_neg (by simp)]; simpa using HO.out.ext GZ.out, HG.out.trans (GZ.out.mono hsz)⟩
          case measure => simp [intOf]; omega
        have hvb : (vp != vr) = true := by rw [bne_iff_ne]; exact hv
        obtain rfl : tb = true := by rw [← HT2.out]; simpa using hv
        clear hv
        go_wp2_with (first
          | (go_at_call 71; (with_reducible refine (HP1.out wr (Below.refl _ _)).mono ?_); rintro e Wa ⟨rfl, ga⟩; have y0 := (Y8.out.ext ga).cell 0; have y1 := (Y8.out.ext ga).cell 1; have GA := Lib.hid ga; clear ga)
          | (go_at_call 71; (with_reducible refine (HP2.out Wa GA.out).mono ?_); rintro e Wb ⟨rfl, gb⟩; have GB := Lib.hid (GA.out.trans (gb.mono GA.out.size)); clear gb))
        have lc : ∀ x : Wd Wb, x.val.cell? ⟨b7, p', none⟩ = some (.int .i64 vp) := cellL GB.out LC.out
        have nc : ∀ x : Wd Wb, x.val.cell? ⟨b8, r', none⟩ = some (.int .i64 vr) := cellL GB.out NC.out
        refine wp_region_calm Wb (by kernel_rfl) (by kernel_rfl) (Below.refl _ _) ?_
        repeat (go_big_quiet_step (fail))
        refine wpQuiet_nil ?_
        rintro _ ⟨z, rfl⟩
        have GZ := Lib.hid (GB.out.trans (z.ok.mono GB.out.size))
        have hzz := GZ.out.size
        go_wp2_with (at_builtin; refine push_int rfl _ _ rfl W7.heap.size _ (refMov xs ys was now k) rfl ((HO.out.ext GZ.out).ext (one_more _ _)) _ _ _ _ rfl rfl (cell_new1 _ _ _ _ rfl) hL (by simp; omega) ?_; intro v' w' ho hbw)
        all_goals
          go_roundw
          case rel => exact ⟨k + 1, by omega, by go_num, by rw [HNX.out, if_pos True.intro]; exact ho, HG.out.trans ((GZ.out.mono hsz).trans (((one_more _ _).mono (by omega)).trans (hbw _ (Nat.le_refl _))))⟩
          case measure => simp [intOf]; omega
      · obtain rfl : k = 99 := by omega
        generalize refMov xs ys was now 99 = rm at hown HMS HO
        obtain ⟨D, c, rfl, hi⟩ := hown.ints
        have HI := Lib.hid hi
        clear hown hg hi
        go_wp2_with fail
        go_ret2
        have e := HMS.out
        subst e
        exact ⟨⟨D, c, rfl, HI.out⟩, HGW.out⟩
end Go.Proofs.Ytdhhneflhmkonaa
