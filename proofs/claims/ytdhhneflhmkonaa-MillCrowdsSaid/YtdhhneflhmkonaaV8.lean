/- The reference's CheckCrowd (func 61). -/
import Derived.Test.YtdhhneflhmkonaaV7
namespace Go.Proofs.Ytdhhneflhmkonaa
open Go.RowKit Go.Shelf

theorem unionK_pow {h : Int} {xs : List Comer} (k : Ok h xs) (F : List Int) : ∀ j, unionK xs F j < 2 ^ h.toNat
  | 0 => Nat.two_pow_pos _
  | j + 1 => Nat.or_lt_two_pow (unionK_pow k F j) (hrs_pow k _)

set_option maxRecDepth 100000 in
set_option maxHeartbeats 8000000 in
theorem refCheckCrowd_any (A D E : Option Addr) (n cc m cd q ce : Nat) (h : Int) (xs : List Comer) (l F : List Int) (w : World) (ha : Arr ccells 3 w A n xs) (hnc : n ≤ cc) (hd : Ints w D m l) (hF : Ints w E q F) (hm : m ≤ 9223372036854775807) (hn : n ≤ 9223372036854775807) (hq : q ≤ 9223372036854775807) :
    Calls Try.prog 61 #[mv A n cc h, .slice D m cd, .slice E q ce] w fun e w' => e = .returned (.int .i64 (crowdErr xs h l F)) ∧ Below w.heap.size w w' := by
  have HA := Lib.hid ha
  have HD := Lib.hid hd
  have HF := Lib.hid hF
  have hln := Lib.hid ha.1
  have hlm := Lib.hid hd.1
  have hlq := Lib.hid hF.1
  clear ha hd hF
  obtain ⟨de, hde⟩ : ∃ de, demE xs h l = de := ⟨_, rfl⟩
  have HDE := Lib.hid hde
  obtain ⟨res, hres⟩ : ∃ res, crowdErr xs h l F = res := ⟨_, rfl⟩
  have HR := Lib.hid (show res = if de = 0 then (if crowdB xs l F = true then 0 else 54) else de by rw [← hres, ← hde]; rfl)
  rw [hres]
  clear hde hres
  unfold mv
  go_enter Try.func61, Try.ntmps61
  go_wp2_with fail
  obtain ⟨W1, hW1, g1, -, b1⟩ := box24 w h A n cc
  rw [hW1]
  clear hW1
  have T1 := refDemands_any A D n cc m cd h xs l W1 (HA.out.below g1) hnc (HD.out.below g1) hm hn
  rw [HDE.out] at T1
  refine T1.mono ?_
  clear T1
  rintro e W2 ⟨rfl, hg2⟩
  have b2 := b1.ext hg2
  have g2 := g1.trans (hg2.mono g1.size)
  have hwl : w.heap.size < W2.heap.size := b2.lt
  have B2 := Lib.hid b2
  have G2 := Lib.hid g2
  clear g1 b1 hg2 g2 b2
  by_cases h0 : de ≠ 0
  · have hb1 : (de != 0) = true := by rw [bne_iff_ne]; exact h0
    have H0 := Lib.hid h0
    clear h0
    go_wp2_with fail
    go_ret
    exact ⟨ret_int (by rw [HR.out, if_neg H0.out]), G2.out⟩
  obtain rfl : de = 0 := by omega
  clear h0
  have hok := demE_zero HDE.out
  have ok := (okMill_iff h xs).1 hok.1
  obtain ⟨H, rfl⟩ : ∃ H : Nat, h = H := ⟨h.toNat, by have := ok.h0; omega⟩
  have hH : H ≤ 24 := by have := ok.h24; omega
  have hn12 : n ≤ 12 := by have := ok.n12; have := hln.out; omega
  have HDL := Lib.hid (isDem_len hok.2)
  have HDB := Lib.hid (isDem_bd hok.2)
  have HX := Lib.hid ok.hrs
  have HOO := Lib.hid ok
  clear hok ok
  go_wp2_with fail
  go_loopw [8, 9, 10] (fun a s i wr => ∃ k : Nat, k ≤ q ∧ i = .int .i64 k ∧ s = .int .i64 (unionK xs F k : Nat) ∧ a = .int .i64 (sumK xs l F k) ∧ (k ≤ 99 ∧ 0 ≤ sumK xs l F k ∧ sumK xs l F k ≤ 24 * (k : Int)) ∧ (0 < k → (k : Int) ≤ F.getD (k - 1) 0) ∧ (∀ j, j < k → famOk xs F j = true) ∧ Below W2.heap.size W2 wr) (fun _ _ i _ => q - (intOf i).toNat)
  case atStart => exact ⟨0, Nat.zero_le _, rfl, rfl, rfl, ⟨by omega, by simp [sumK], by simp [sumK]⟩, by omega, by omega, Below.refl _ _⟩
  case round =>
    obtain ⟨k, hk, rfl, rfl, rfl, ⟨hk99, hs0, hs1⟩, hge, hall, hg⟩ := hrel
    rename World => wr
    have HG := Lib.hid hg
    have HAL := Lib.hid hall
    have HGE := Lib.hid hge
    have GG := Lib.hid (G2.out.trans (hg.mono G2.out.size))
    have BB := B2.out.ext hg
    have d0 : ∀ x : Wd wr, x.val.cell? ⟨w.heap.size, 0, none⟩ = some (.int .i64 H) := cellW (BB.cell 0)
    have d1 : ∀ x : Wd wr, x.val.cell? ⟨w.heap.size, 1, none⟩ = some (.slice A n cc) := cellW (BB.cell 1)
    have hsz := hg.size
    clear hall hge hg BB
    by_cases hkq : k < q
    · obtain ⟨b, o, hEe, -, hmem, hc⟩ := ints_at (HF.out.below GG.out) hkq
      have e0 := cellW (hc wr (Below.refl _ _))
      obtain ⟨f, hf⟩ : ∃ f, F.getD k 0 = f := ⟨_, rfl⟩
      have HFK := Lib.hid hf
      rw [hf] at e0
      have HNU := Lib.hid (show unionK xs F (k + 1) = unionK xs F k ||| hrs xs (idxN xs f) by rw [← hf]; rfl)
      have HNS := Lib.hid (show sumK xs l F (k + 1) = sumK xs l F k + l.getD (idxN xs f) 0 by rw [← hf]; rfl)
      have hkF : k < F.length := by have := hlq.out; omega
      have hu := unionK_lt HX.out F k
      subst hEe
      obtain ⟨ix, hix⟩ : ∃ ix, idx xs f = ix := ⟨_, rfl⟩
      have HIX := Lib.hid hix
      rcases idx_cases xs f with hi | ⟨i, hi, hin, hfam⟩
      · have HNO := Lib.hid (show crowdB xs l F = false by
          unfold crowdB; rw [famsB_no hkF (by unfold famOk; rw [hf, hi]; rfl)]; rfl)
        obtain rfl : ix = -1 := hix.symm.trans hi
        clear hi hmem hc hf hix
        go_wp2_with fail
        refine wp_region_calm wr (by kernel_rfl) (by kernel_rfl) (Below.refl _ _) ?_
        repeat (go_big_quiet_step ((go_at_call 71; exact callsCalm (callsRet (refAt_any _ _ _ _ _ _ _ ((HA.out.below GG.out).below (Wd.ok _)) (by omega)) (by rw [HIX.out])))))
        refine wpQuiet_nil ?_
        rintro _ ⟨y, rfl⟩
        have hno : decide ((-1 : Int) < 0) = true := rfl
        go_wp2_with fail
        refine wp_region_calm wr (by kernel_rfl) (by kernel_rfl) y.ok ?_
        repeat (go_big_quiet_step (fail))
        refine wpQuiet_nil ?_
        rintro _ ⟨z, rfl⟩
        go_wp2_with fail
        go_ret
        exact ⟨ret_int (by rw [HR.out, HNO.out]; rfl), GG.out.trans (z.ok.mono GG.out.size)⟩
      · have hin' : i < n := by have := hln.out; omega
        have hfb : 1 ≤ f ∧ f ≤ 99 := by
          obtain ⟨h1, -, -⟩ := HOO.out.com i (xs.getD i ⟨0, 0, 0⟩) (by rw [List.getD_eq_getElem?_getD, List.getElem?_eq_getElem hin]; rfl)
          simp [isComer, rng] at h1
          have : (xs.getD i ⟨0, 0, 0⟩).family = f := hfam
          rw [List.getD_eq_getElem?_getD] at this
          omega
        obtain rfl : ix = (i : Int) := hix.symm.trans hi
        have HIN := Lib.hid (show idxN xs f = i by unfold idxN; omega)
        obtain ⟨pv, hpv⟩ : ∃ pv, F.getD (k - 1) 0 = pv := ⟨_, rfl⟩
        have HGE2 := Lib.hid (show 0 < k → (k : Int) ≤ pv by rw [← hpv]; exact HGE.out)
        have HPV := Lib.hid (show 0 < k → wr.cell? ⟨b, o + (k - 1), none⟩ = some (.int .i64 pv) by
          intro h0
          obtain ⟨b', o', e', -, -, hc'⟩ := ints_at (HF.out.below GG.out) (show k - 1 < q by omega)
          cases e'
          rw [← hpv]; exact hc' _ (Below.refl _ _))
        have HFO := Lib.hid (show famOk xs F k = (decide (k = 0) || decide (pv < f)) by
          unfold famOk; rw [hf, hi, hpv]; simp)
        obtain ⟨ba, oa, x, hAe, -, hx, hca⟩ := comer_at (HA.out.below GG.out) hin'
        subst hAe
        have HXH := HX.out.nat hx
        have q1 := cellW (hca wr (Below.refl _ _)).2.1
        rw [HXH] at q1
        have him : i < m := by have := hlm.out; have := HDL.out; have := hln.out; omega
        obtain ⟨bd, od, hDe, -, hdm, hcd⟩ := ints_at (HD.out.below GG.out) him
        subst hDe
        obtain ⟨v, hv⟩ : ∃ v, l.getD i 0 = v := ⟨_, rfl⟩
        have hvb := HDB.out (l.getD i 0) (List.mem_of_getElem? hdm)
        have q2 := cellW (hcd wr (Below.refl _ _))
        rw [hv] at hvb q2
        have HV := Lib.hid hv
        have HOR := Lib.hid (or64 (unionK xs F k) (hrs xs i) (by omega) (by have := HX.out.lt i; omega))
        have hi0 : decide ((i : Int) < 0) = false := by simp
        clear hi hmem hc hf hpv hx hca hdm hcd hv hfam hix HXH
        go_wp2_with fail
        refine wp_region_calm wr (by kernel_rfl) (by kernel_rfl) (Below.refl _ _) ?_
        repeat (go_big_quiet_step ((go_at_call 71; exact callsCalm (callsRet (refAt_any _ _ _ _ _ _ _ ((HA.out.below GG.out).below (Wd.ok _)) (by omega)) (by rw [HIX.out])))))
        refine wpQuiet_nil ?_
        rintro _ ⟨y, rfl⟩
        rcases Nat.eq_zero_or_pos k with h0 | h0
        · have hd0 : decide (0 < k) = false := by simp; omega
          have HFO0 := Lib.hid (show famOk xs F k = true by rw [HFO.out, h0]; rfl)
          have hk0 : k ≤ 0 := by omega
          clear h0
          have hd1 : decide (0 < (k : Int)) = false := by simpa using hd0
          go_wp2_with fail
          refine wp_region_calm wr (by kernel_rfl) (by kernel_rfl) y.ok ?_
          repeat (go_big_quiet_step (fail))
          refine wpQuiet_nil ?_
          rintro _ ⟨z, rfl⟩
          go_wp2_with fail
          go_roundw
          case rel =>
            refine ⟨k + 1, by omega, by go_num, by rw [HNU.out, HIN.out, HOR.out], by rw [HNS.out, HIN.out, HV.out], ⟨by omega, by rw [HNS.out, HIN.out, HV.out]; omega, by rw [HNS.out, HIN.out, HV.out]; omega⟩, fun _ => ?_, fun j hj => ?_, HG.out.trans (z.ok.mono HG.out.size)⟩
            · rw [Nat.add_sub_cancel, HFK.out]
              have : k = 0 := by simpa using hd0
              omega
            · by_cases hjk : j < k
              · exact HAL.out j hjk
              · obtain rfl : j = k := by omega
                exact HFO0.out
          case measure => simp [intOf]; omega
        · have hd0 : decide (0 < k) = true := by simpa using h0
          have hd01 : decide (0 < (k : Int)) = true := by simpa using h0
          have hpk := HGE2.out h0
          have q3 := cellW (HPV.out h0)
          have hkm : ((k : Int) - 1).toNat = k - 1 := by omega
          by_cases hpf : pv < f
          · have hd1 : decide (f ≤ pv) = false := by simp; omega
            go_wp2_with fail
            refine wp_region_calm wr (by kernel_rfl) (by kernel_rfl) y.ok ?_
            repeat (go_big_quiet_step (fail))
            refine wpQuiet_nil ?_
            rintro _ ⟨z, rfl⟩
            go_wp2_with fail
            go_roundw
            case rel =>
              refine ⟨k + 1, by omega, by go_num, by rw [HNU.out, HIN.out, HOR.out], by rw [HNS.out, HIN.out, HV.out], ⟨by omega, by rw [HNS.out, HIN.out, HV.out]; omega, by rw [HNS.out, HIN.out, HV.out]; omega⟩, fun _ => ?_, fun j hj => ?_, HG.out.trans (z.ok.mono HG.out.size)⟩
              · rw [Nat.add_sub_cancel, HFK.out]
                omega
              · by_cases hjk : j < k
                · exact HAL.out j hjk
                · obtain rfl : j = k := by omega
                  rw [HFO.out, decide_eq_true hpf, Bool.or_true]
            case measure => simp [intOf]; omega
          · have hd1 : decide (f ≤ pv) = true := by simp; omega
            have HNO := Lib.hid (show crowdB xs l F = false by
              unfold crowdB; rw [famsB_no hkF (by rw [HFO.out]; simp; omega)]; rfl)
            go_wp2_with fail
            refine wp_region_calm wr (by kernel_rfl) (by kernel_rfl) y.ok ?_
            repeat (go_big_quiet_step (fail))
            refine wpQuiet_nil ?_
            rintro _ ⟨z, rfl⟩
            go_wp2_with fail
            go_ret
            exact ⟨ret_int (by rw [HR.out, HNO.out]; rfl), GG.out.trans (z.ok.mono GG.out.size)⟩
    · obtain rfl : q = k := by omega
      have hu := unionK_pow HOO.out F q
      rw [Int.toNat_natCast] at hu
      have hu24 := unionK_lt HX.out F q
      have HRR := Lib.hid (show crowdB xs l F = decide ((nbits H (unionK xs F q) : Int) < sumK xs l F q) by
        unfold crowdB
        rw [famsB_yes (fun j hj => HAL.out j (by have := hlq.out; omega)), hlq.out]
        have := nbits_more hu (24 - H)
        rw [show H + (24 - H) = 24 by omega] at this
        rw [this]; rfl)
      generalize unionK xs F q = u at hu24 HRR ⊢
      generalize sumK xs l F q = s at hs0 hs1 HRR ⊢
      obtain ⟨wo, rfl⟩ : ∃ wo, wo = wr := ⟨_, rfl⟩
      have m0 := d0 ⟨wo, Below.refl _ _⟩
      dsimp only at m0
      clear hu d0 d1
      go_wp2_with fail
      go_loop [8, 12] (fun a i => ∃ k : Nat, k ≤ H ∧ i = .int .i64 k ∧ a = .int .i64 (s - (nbits k u : Int))) (fun _ i => H - (intOf i).toNat)
      case atStart => exact ⟨0, Nat.zero_le _, rfl, by simp [nbits]⟩
      case round =>
        obtain ⟨j, hj, rfl, rfl⟩ := hrel
        have hnb := nbits_le j u
        by_cases hjH : j < H
        · have HNB := Lib.hid (nbits_succ j u)
          have hab := andbit u j (by omega) (by omega)
          obtain ⟨tb, htb⟩ : ∃ tb, u.testBit j = tb := ⟨_, rfl⟩
          rw [htb] at hab
          have HTB := Lib.hid htb
          clear htb
          cases tb with
          | true =>
            go_wp2_with fail
            go_round
            case rel => exact ⟨j + 1, by omega, by go_num, by rw [HNB.out, HTB.out, if_pos rfl]; go_num⟩
            case measure => simp [intOf]; omega
          | false =>
            go_wp2_with fail
            go_round
            case rel => exact ⟨j + 1, by omega, by go_num, by rw [HNB.out, HTB.out]; simp⟩
            case measure => simp [intOf]; omega
        · obtain rfl : H = j := by omega
          by_cases hle : s - (nbits H u : Int) ≤ 0
          · have hd : decide (s - (nbits H u : Int) ≤ 0) = true := decide_eq_true hle
            go_wp2_with fail
            all_goals first
              | (exfalso; omega)
              | skip
            go_ret
            exact ⟨ret_int (by rw [HR.out, HRR.out, decide_eq_false (by omega)]; rfl), GG.out⟩
          · have hd : decide (s - (nbits H u : Int) ≤ 0) = false := decide_eq_false hle
            go_wp2_with fail
            all_goals first
              | (exfalso; omega)
              | skip
            go_ret
            exact ⟨ret_int (by rw [HR.out, HRR.out, decide_eq_true (by omega)]; rfl), GG.out⟩
end Go.Proofs.Ytdhhneflhmkonaa
