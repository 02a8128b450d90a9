/- The mill: many, crowded, CheckCrowd. -/
import Derived.Test.YtdhhneflhmkonaaD1
namespace Go.Proofs.Ytdhhneflhmkonaa
open Go.RowKit Go.Shelf

theorem bitVal (a k : Nat) (ha : a < 9223372036854775808) : bits .and .i64 ((a : Int) / 2 ^ k) 1 = if a.testBit k = true then 1 else 0 := by
  have e : (a : Int) / 2 ^ k = ((a >>> k : Nat) : Int) := by
    rw [Nat.shiftRight_eq_div_pow]; simp
  have hlt : a >>> k < 9223372036854775808 := by rw [Nat.shiftRight_eq_div_pow]; exact Nat.lt_of_le_of_lt (Nat.div_le_self _ _) ha
  rw [e, show (1 : Int) = ((1 : Nat) : Int) from rfl, and64 _ _ hlt (by decide), Nat.testBit, Nat.and_comm]
  have h2 := Nat.and_le_left (n := 1) (m := a >>> k)
  cases h : (1 &&& a >>> k) with
  | zero => rfl
  | succ m => have : m = 0 := by omega
              subst this; rfl
theorem nbits_le (H s : Nat) : nbits H s ≤ H := by
  unfold nbits
  have := List.length_filter_le (fun h => s.testBit h) (List.range H)
  rwa [List.length_range] at this

theorem many_any (s : Nat) (w : World) (hs : s < 16777216) :
    Calls Try.prog 107 #[.int .i64 s] w fun e w' => e = .returned (.int .i64 (nbits 24 s)) ∧ w = w' := by
  go_enter Try.func107, Try.ntmps107
  go_wp2
  go_loopw [3, 5] (fun n i wr => ∃ k : Nat, k ≤ 24 ∧ i = .int .i64 k ∧ n = .int .i64 (nbits k s : Nat) ∧ w = wr) (fun _ i _ => 24 - (intOf i).toNat)
  case atStart => exact ⟨0, by omega, rfl, rfl, rfl⟩
  case round =>
    obtain ⟨k, hk, rfl, rfl, rfl⟩ := hrel
    have hb := nbits_le k s
    by_cases hlt : k < 24
    · have hv := bitVal s k (by omega)
      have HS := Lib.hid (nbits_succ k s)
      have hd : decide ((k : Int) < 24) = true := by simp; omega
      cases ht : s.testBit k with
      | true =>
        have HT := Lib.hid ht
        rw [ht] at hv
        rw [if_pos rfl] at hv
        clear ht
        go_wp2
        go_roundw
        case rel => exact ⟨k + 1, by omega, by go_num, by rw [HS.out, HT.out]; simp, trivial⟩
        case measure => simp [intOf]; omega
      | false =>
        have HT := Lib.hid ht
        rw [ht] at hv
        rw [if_neg (by decide)] at hv
        clear ht
        go_wp2
        go_roundw
        case rel => exact ⟨k + 1, by omega, by go_num, by rw [HS.out, HT.out]; simp, trivial⟩
        case measure => simp [intOf]; omega
    · obtain rfl : k = 24 := by omega
      go_wp2
      go_ret
      exact ⟨rfl, rfl⟩

theorem unionK_lt {xs : List Comer} (hx : Hrs xs) (F : List Int) : ∀ k, unionK xs F k < 16777216
  | 0 => by simp [unionK]
  | k + 1 => Nat.or_lt_two_pow (n := 24) (unionK_lt hx F k) (hx.lt _)

set_option maxRecDepth 100000 in
set_option maxHeartbeats 4000000 in
theorem crowded_any (A D E : Option Addr) (n cc m cd q ce : Nat) (h : Int) (xs : List Comer) (d F : List Int) (w : World) (ha : Arr ccells 3 w A n xs) (hO : Ok h xs) (hd : Ints w D m d) (hdem : isDem xs d = true) (hF : Ints w E q F) (hq : q ≤ 9223372036854775807) :
    Calls Try.prog 96 #[mv A n cc h, .slice D m cd, .slice E q ce] w fun e w' => e = .returned (.bool (crowdB xs d F)) ∧ Below w.heap.size w w' := by
  have HA := Lib.hid ha
  have HD := Lib.hid hd
  have HF := Lib.hid hF
  have hln := Lib.hid ha.1
  have hlm := Lib.hid hd.1
  have hlq := Lib.hid hF.1
  have hn12 : n ≤ 12 := by have := hO.n12; have := hln.out; omega
  have HDL := Lib.hid (isDem_len hdem)
  have HDB := Lib.hid (isDem_bd hdem)
  have HX := Lib.hid hO.hrs
  have HOO := Lib.hid hO
  obtain ⟨res, hres⟩ : ∃ res, crowdB xs d F = res := ⟨_, rfl⟩
  have HR := Lib.hid hres
  rw [hres]
  clear ha hd hF hO hdem hres
  unfold mv
  go_enter Try.func96, Try.ntmps96
  go_wp2_with fail
  generalize hW1 : w.alloc (.cells #[.int .i64 h, .slice A n cc] 24) = W1
  obtain ⟨g1, -, c1⟩ := box2 hW1
  have HG1 := Lib.hid g1
  have C1 := Lib.hid c1
  have hwl : w.heap.size < W1.heap.size := by rw [boxSize hW1]; omega
  clear hW1 g1 c1
  go_loopw [7, 8, 14] (fun s a i wr => ∃ k : Nat, k ≤ q ∧ i = .int .i64 k ∧ s = .int .i64 (unionK xs F k : Nat) ∧ a = .int .i64 (sumK xs d F k) ∧ (k ≤ 99 ∧ 0 ≤ sumK xs d F k ∧ sumK xs d F k ≤ 24 * (k : Int)) ∧ (0 < k → (k : Int) ≤ F.getD (k - 1) 0) ∧ (∀ j, j < k → famOk xs F j = true) ∧ Below W1.heap.size W1 wr) (fun _ _ i _ => q - (intOf i).toNat)
  case atStart => exact ⟨0, Nat.zero_le _, rfl, rfl, rfl, ⟨by omega, by simp [sumK], by simp [sumK]⟩, by omega, by omega, Below.refl _ _⟩
  case round =>
    obtain ⟨k, hk, rfl, rfl, rfl, ⟨hk99, hs0, hs1⟩, hge, hall, hg⟩ := hrel
    rename World => wr
    have HG := Lib.hid hg
    have HAL := Lib.hid hall
    have HGE := Lib.hid hge
    have d1 : wr.cell? ⟨w.heap.size, 1, none⟩ = some (.slice A n cc) := (hg.cell (p := ⟨w.heap.size, 1, none⟩) hwl).trans C1.out
    have hsz := hg.size
    clear hall hge
    by_cases hkq : k < q
    · obtain ⟨b, o, hEe, -, hmem, hc⟩ := ints_at ((HF.out.below HG1.out).below hg) hkq
      have e0 := hc wr (Below.refl _ _)
      obtain ⟨f, hf⟩ : ∃ f, F.getD k 0 = f := ⟨_, rfl⟩
      have HFK := Lib.hid hf
      rw [hf] at e0
      have HIX := Lib.hid (index_any A n cc xs f wr ((HA.out.below HG1.out).below hg) (by omega))
      have HNU := Lib.hid (show unionK xs F (k + 1) = unionK xs F k ||| hrs xs (idxN xs f) by rw [← hf]; rfl)
      have HNS := Lib.hid (show sumK xs d F (k + 1) = sumK xs d F k + d.getD (idxN xs f) 0 by rw [← hf]; rfl)
      have hkF : k < F.length := by have := hlq.out; omega
      have hu := unionK_lt HX.out F k
      subst hEe
      rcases idx_cases xs f with hi | ⟨i, hi, hin, hfam⟩
      · have HNO := Lib.hid (show crowdB xs d F = false by
          unfold crowdB; rw [famsB_no hkF (by unfold famOk; rw [hf, hi]; rfl)]; rfl)
        rw [hi] at HIX
        clear hi hg hmem hc hf
        go_wp2_with (first | (go_at_call 63; refine HIX.out.mono ?_; rintro e w' ⟨rfl, hg4⟩; have HG4 := Lib.hid hg4; clear hg4))
        go_ret
        exact ⟨ret_bool (HNO.out.symm.trans HR.out), HG1.out.trans ((HG.out.trans (HG4.out.mono HG.out.size)).mono HG1.out.size)⟩
      · have hin' : i < n := by have := hln.out; omega
        have hfb : 1 ≤ f ∧ f ≤ 99 := by
          obtain ⟨h1, -, -⟩ := HOO.out.com i (xs.getD i ⟨0, 0, 0⟩) (by rw [List.getD_eq_getElem?_getD, List.getElem?_eq_getElem hin]; rfl)
          simp [isComer, rng] at h1
          have : (xs.getD i ⟨0, 0, 0⟩).family = f := hfam
          rw [List.getD_eq_getElem?_getD] at this
          omega
        rw [hi] at HIX
        have HI := Lib.hid hi
        have HIN := Lib.hid (show idxN xs f = i by unfold idxN; omega)
        -- the one before
        obtain ⟨pv, hpv⟩ : ∃ pv, F.getD (k - 1) 0 = pv := ⟨_, rfl⟩
        have HGE2 := Lib.hid (show 0 < k → (k : Int) ≤ pv by rw [← hpv]; exact HGE.out)
        have hprev : 0 < k → ∀ w', Below wr.heap.size wr w' → w'.cell? ⟨b, o + (k - 1), none⟩ = some (.int .i64 pv) := by
          intro h0 w' hw'
          obtain ⟨b', o', e', -, -, hc'⟩ := ints_at ((HF.out.below HG1.out).below hg) (show k - 1 < q by omega)
          cases e'
          rw [← hpv]; exact hc' w' hw'
        have HPV := Lib.hid hprev
        have HFO := Lib.hid (show famOk xs F k = (decide (k = 0) || decide (pv < f)) by
          unfold famOk; rw [hf, hi, hpv]; simp)
        obtain ⟨ba, oa, x, hAe, -, hx, hca⟩ := comer_at ((HA.out.below HG1.out).below hg) hin'
        subst hAe
        have Q1 := Lib.hid (fun w' (hw : Below wr.heap.size wr w') => (hca w' hw).2.1)
        have HXH := Lib.hid (HX.out.nat hx)
        have him : i < m := by have := hlm.out; have := HDL.out; have := hln.out; omega
        obtain ⟨bd, od, hDe, -, hdm, hcd⟩ := ints_at ((HD.out.below HG1.out).below hg) him
        subst hDe
        obtain ⟨v, hv⟩ : ∃ v, d.getD i 0 = v := ⟨_, rfl⟩
        have hvb := HDB.out (d.getD i 0) (List.mem_of_getElem? hdm)
        rw [hv] at hvb hcd
        have Q2 := Lib.hid hcd
        have HV := Lib.hid hv
        have hor := or64 (unionK xs F k) (hrs xs i) (by omega) (by have := HX.out.lt i; omega)
        have HOR := Lib.hid hor
        clear hi hg hmem hc hf hpv hprev hx hca hdm hcd hv hor hfam
        have hwr : w.heap.size < wr.heap.size := by omega
        rcases Nat.eq_zero_or_pos k with h0 | h0
        · have hd0 : decide (0 < k) = false := by simp; omega
          have hge0 : (k : Int) + 1 ≤ f := by omega
          have HFO0 := Lib.hid (show famOk xs F k = true by rw [HFO.out, h0]; rfl)
          clear h0
          go_wp2_with (first | (go_at_call 63; refine HIX.out.mono ?_; rintro e w4 ⟨rfl, hg4⟩; have q1 := Q1.out w4 hg4; rw [HXH.out] at q1; have q2 := Q2.out w4 hg4; have d4 := (hg4.cell (p := ⟨w.heap.size, 1, none⟩) hwr).trans d1; have HSU := Lib.hid (callsRet (sum_any (some ⟨w4.heap.size, 0, none⟩) 2 2 [sumK xs d F k, v] (w4.alloc (.cells #[.int .i64 (sumK xs d F k), .int .i64 v] 3)) (Blk.intsN (Blk.new w4 3 (vals [sumK xs d F k, v])) rfl) (by omega) (by intro y hy; simp at hy; omega)) (show Value.int .i64 ([sumK xs d F k, v].sum) = .int .i64 (sumK xs d F k + v) by simp)); have HG4 := Lib.hid hg4; clear hg4) | (go_at_call 99; refine HSU.out.mono ?_; rintro e w5 ⟨rfl, rfl⟩))
          go_roundw
          case rel =>
            refine ⟨k + 1, by omega, by go_num, by rw [HNU.out, HIN.out, HOR.out], by rw [HNS.out, HIN.out, HV.out], ⟨by omega, by rw [HNS.out, HIN.out, HV.out]; omega, by rw [HNS.out, HIN.out, HV.out]; omega⟩, fun _ => ?_, fun j hj => ?_, HG.out.trans ((HG4.out.mono (Nat.le_refl _)).mono HG.out.size |>.alloc (by have := HG4.out.size; omega) _)⟩
            · rw [Nat.add_sub_cancel, HFK.out]; omega
            · by_cases hjk : j < k
              · exact HAL.out j hjk
              · obtain rfl : j = k := by omega
                exact HFO0.out
          case measure => simp [intOf]; omega
        · obtain ⟨j0, rfl⟩ : ∃ j0, k = j0 + 1 := ⟨k - 1, by omega⟩
          have hpk := HGE2.out h0
          have HPV2 := Lib.hid (fun w' (hw : Below wr.heap.size wr w') => HPV.out h0 w' hw)
          rw [Nat.add_sub_cancel] at HPV2
          by_cases hpf : pv < f
          · have hd1 : decide (f ≤ pv) = false := by simp; omega
            have hge0 : ((j0 + 1 : Nat) : Int) + 1 ≤ f := by omega
            go_wp2_with (first | (go_at_call 63; refine HIX.out.mono ?_; rintro e w4 ⟨rfl, hg4⟩; have q1 := Q1.out w4 hg4; rw [HXH.out] at q1; have q2 := Q2.out w4 hg4; have q3 := HPV2.out w4 hg4; have d4 := (hg4.cell (p := ⟨w.heap.size, 1, none⟩) hwr).trans d1; have HSU := Lib.hid (callsRet (sum_any (some ⟨w4.heap.size, 0, none⟩) 2 2 [sumK xs d F (j0 + 1), v] (w4.alloc (.cells #[.int .i64 (sumK xs d F (j0 + 1)), .int .i64 v] 3)) (Blk.intsN (Blk.new w4 3 (vals [sumK xs d F (j0 + 1), v])) rfl) (by omega) (by intro y hy; simp at hy; omega)) (show Value.int .i64 ([sumK xs d F (j0 + 1), v].sum) = .int .i64 (sumK xs d F (j0 + 1) + v) by simp)); have HG4 := Lib.hid hg4; clear hg4) | (go_at_call 99; refine HSU.out.mono ?_; rintro e w5 ⟨rfl, rfl⟩))
            go_roundw
            case rel =>
              refine ⟨(j0 + 1) + 1, by omega, by go_num, by rw [HNU.out, HIN.out, HOR.out], by rw [HNS.out, HIN.out, HV.out], ⟨by omega, by rw [HNS.out, HIN.out, HV.out]; omega, by rw [HNS.out, HIN.out, HV.out]; omega⟩, fun _ => ?_, fun j hj => ?_, HG.out.trans ((HG4.out.mono (Nat.le_refl _)).mono HG.out.size |>.alloc (by have := HG4.out.size; omega) _)⟩
              · rw [Nat.add_sub_cancel, HFK.out]; omega
              · by_cases hjk : j < (j0 + 1)
                · exact HAL.out j hjk
                · obtain rfl : j = (j0 + 1) := by omega
                  rw [HFO.out]; simp; omega
            case measure => simp [intOf]; omega
          · have hd1 : decide (f ≤ pv) = true := by simp; omega
            have HNO := Lib.hid (show crowdB xs d F = false by
              unfold crowdB; rw [famsB_no hkF (by rw [HFO.out]; simp; omega)]; rfl)
            go_wp2_with (first | (go_at_call 63; refine HIX.out.mono ?_; rintro e w4 ⟨rfl, hg4⟩; have q1 := Q1.out w4 hg4; rw [HXH.out] at q1; have q2 := Q2.out w4 hg4; have q3 := HPV2.out w4 hg4; have d4 := (hg4.cell (p := ⟨w.heap.size, 1, none⟩) hwr).trans d1; have HSU := Lib.hid (callsRet (sum_any (some ⟨w4.heap.size, 0, none⟩) 2 2 [sumK xs d F (j0 + 1), v] (w4.alloc (.cells #[.int .i64 (sumK xs d F (j0 + 1)), .int .i64 v] 3)) (Blk.intsN (Blk.new w4 3 (vals [sumK xs d F (j0 + 1), v])) rfl) (by omega) (by intro y hy; simp at hy; omega)) (show Value.int .i64 ([sumK xs d F (j0 + 1), v].sum) = .int .i64 (sumK xs d F (j0 + 1) + v) by simp)); have HG4 := Lib.hid hg4; clear hg4))
            go_ret
            exact ⟨ret_bool (HNO.out.symm.trans HR.out), HG1.out.trans ((HG.out.trans (HG4.out.mono HG.out.size)).mono HG1.out.size)⟩
    · obtain rfl : k = q := by omega
      have hu := unionK_lt HX.out F k
      have HRR := Lib.hid (show crowdB xs d F = decide ((nbits 24 (unionK xs F k) : Int) < sumK xs d F k) by
        unfold crowdB; rw [famsB_yes (fun j hj => HAL.out j (by have := hlq.out; omega)), hlq.out]; rfl)
      clear hg d1
      go_wp2_with (first | (go_at_call 107; refine (many_any _ _ hu).mono ?_; rintro e w' ⟨rfl, rfl⟩))
      go_ret
      exact ⟨ret_bool (HRR.out.symm.trans HR.out), HG1.out.trans (HG.out.mono HG1.out.size)⟩
end Go.Proofs.Ytdhhneflhmkonaa
