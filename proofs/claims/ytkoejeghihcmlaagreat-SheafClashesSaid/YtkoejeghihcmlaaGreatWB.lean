/- CheckClash: whether some loads and stands contradict each other, and none too many. -/
import Derived.Test.YtkoejeghihcmlaaGreatTZ
namespace Go.Proofs.YtkoejeghihcmlaaGreat
open Go.RowKit Go.Shelf

theorem byOk_no_has {all by_ : List Int} {i : Nat} (h : hasI all (by_.getD i 0) = false) : byOk all by_ i = false := by unfold byOk; rw [h, Bool.false_and]
theorem byOk_first {all by_ : List Int} (h : hasI all (by_.getD 0 0) = true) : byOk all by_ 0 = true := by unfold byOk; rw [h]; rfl
theorem byOk_later {all by_ : List Int} {i : Nat} {b : Bool} (h : hasI all (by_.getD i 0) = true) (h0 : 0 < i) (hb : decide (by_.getD i 0 ≤ by_.getD (i - 1) 0) = b) : byOk all by_ i = !b := by
  unfold byOk
  rw [h, decide_eq_false (by omega : ¬ i = 0), ← hb, Bool.true_and, Bool.false_or]
  by_cases hc : by_.getD (i - 1) 0 < by_.getD i 0
  · rw [decide_eq_true hc, decide_eq_false (by omega)]; rfl
  · rw [decide_eq_false hc, decide_eq_true (by omega)]; rfl
theorem all_range_no {n i : Nat} {q : Nat → Bool} (hi : i < n) (h : q i = false) : (List.range n).all q = false := by
  rw [← Bool.not_eq_true, List.all_eq_true]
  intro hc
  rw [hc i (List.mem_range.2 hi)] at h
  cases h
theorem all_range_yes {n : Nat} {q : Nat → Bool} (h : ∀ i, i < n → q i = true) : (List.range n).all q = true := by
  rw [List.all_eq_true]
  exact fun i hi => h i (List.mem_range.1 hi)

set_option maxRecDepth 100000 in
set_option maxHeartbeats 8000000 in
theorem chk_any (p : Pl) (A1 A2 A3 : Option Addr) (n1 c1 n2 c2 n3 c3 : Nat) (known : Int) (B : Option Addr) (nb cb : Nat) (by_ : List Int) (w : World) (hp : Pa w p A1 A2 A3 n1 c1 n2 c2 n3 c3) (h19 : p.loads.length ≤ 60)
    (hb : Ints w B nb by_) (hnb : nb ≤ 9223372036854775807) :
    Calls Tryz.prog 42 #[plv p A1 A2 A3 n1 c1 n2 c2 n3 c3, .int .i64 known, .slice B nb cb] w fun e w' => e = .returned (.int .i64 (chkE p known by_)) ∧ Below w.heap.size w w' := by
  obtain ⟨W1, hW1⟩ : ∃ W1, w.alloc (.cells (plb p A1 A2 A3 n1 c1 n2 c2 n3 c3) 38) = W1 := ⟨_, rfl⟩
  have g1 : Below w.heap.size w W1 := by rw [← hW1]; exact one_more _ _
  have b1 : Blk W1 w.heap.size 38 (plb p A1 A2 A3 n1 c1 n2 c2 n3 c3) := by rw [← hW1]; exact Blk.new _ _ _
  have p0 := b1.cell 0
  have p1 := b1.cell 1
  have p2 := b1.cell 2
  have p3 := b1.cell 3
  have p4 := b1.cell 4
  have p5 := b1.cell 5
  have HPA := Lib.hid (hp.below g1)
  have HB := Lib.hid b1
  have G1 := Lib.hid g1
  have H19 := Lib.hid h19
  have HBY := Lib.hid (hb.below g1)
  have T := Lib.hid (fun W (g : Below W1.heap.size W1 W) (i1 : Ints W (some ⟨W1.heap.size, 0, none⟩) 1 [known]) => first_any p A1 A2 A3 n1 c1 n2 c2 n3 c3 none (some ⟨W1.heap.size, 0, none⟩) 0 0 1 1 [] [known] W (HPA.out.below g) Arr.nil_ i1 (by decide) (by decide))
  have HI := Lib.hid (one_int (Blk.new W1 3 #[.int .i64 known]))
  have HG := Lib.hid (one_more W1 (.cells #[.int .i64 known] 3))
  have HE := Lib.hid (show chkE p known by_ = if firstE p [] [known] = 0 then (if byAll (tellL p known) by_ = true then (if contraB p known by_ = true then (if byLean p known by_ = true then 0 else 15) else 15) else 15) else firstE p [] [known] from rfl)
  have HN := Lib.hid (no_hours p known)
  obtain ⟨ce, hce⟩ : ∃ ce, chkE p known by_ = ce := ⟨_, rfl⟩
  rw [hce] at HE ⊢
  obtain ⟨fe, hfe⟩ : ∃ fe, firstE p [] [known] = fe := ⟨_, rfl⟩
  rw [hfe] at HE HN T
  have HW1 := Lib.hid hW1
  clear hfe hce hp g1 b1 h19 hW1 hb
  by_cases he : fe = 0
  · subst he
    have HOK := Lib.hid (HN.out rfl).1
    have HTL := Lib.hid (tell_len HOK.out known)
    have T2 := Lib.hid (fun W (g : Below W1.heap.size W1 W) => telling_any p A1 A2 A3 n1 c1 n2 c2 n3 c3 known W (HPA.out.below g) HOK.out)
    have T3 := Lib.hid (fun W (g : Below W1.heap.size W1 W) A n c l (ha : Ints W A n l) (hn : n ≤ 1000000) => contra_any p A1 A2 A3 n1 c1 n2 c2 n3 c3 w.heap.size known A n c l W (HB.out.ext g) (HPA.out.below g) HOK.out H19.out ha hn)
    have HE1 := Lib.hid (show ce = (if byAll (tellL p known) by_ = true then (if contraB p known by_ = true then (if byLean p known by_ = true then 0 else 15) else 15) else 15) from HE.out)
    obtain ⟨tl, htl⟩ : ∃ tl, tellL p known = tl := ⟨_, rfl⟩
    rw [htl] at HE1 HTL T2
    clear htl HE
    go_enter Tryz.func42, Tryz.ntmps42
    go_upto_region 1 with fail
    rw [HW1.out]
    go_upto_region 5 with (first
      | (go_at_call 80; (with_reducible refine (T.out _ HG.out HI.out).mono ?_); rintro e W3 ⟨rfl, hg⟩; have G3 := Lib.hid (HG.out.trans (hg.mono HG.out.size)); have y0 := (HB.out.ext G3.out).cell 0; have y1 := (HB.out.ext G3.out).cell 1; have y2 := (HB.out.ext G3.out).cell 2; have y3 := (HB.out.ext G3.out).cell 3; have y4 := (HB.out.ext G3.out).cell 4; have y5 := (HB.out.ext G3.out).cell 5; clear hg)
      | (go_at_call 103; (with_reducible refine (T2.out _ G3.out).mono ?_); rintro e W4 ⟨⟨v, rfl, ho⟩, hg⟩; obtain ⟨D, c, hv, -, -, hia, -⟩ := OwnL.arr kdI ho; subst hv; have HO := Lib.hid hia; have G4 := Lib.hid (G3.out.trans (hg.mono G3.out.size)); clear hg ho hia))
    obtain ⟨m, hm⟩ : ∃ m, tl.length = m := ⟨_, rfl⟩
    rw [hm] at HO HTL ⊢
    have hm120 := HTL.out
    clear y0 y1 y2 y3 y4 y5 p0 p1 p2 p3 p4 p5
    have HM := Lib.hid hm
    have TH := Lib.hid (fun x => has_any D m c tl x W4 HO.out (by omega))
    have HBY4 := Lib.hid (HBY.out.below G4.out)
    have hbl := Lib.hid HBY.out.1
    clear hm
    go_wp2_with fail
    go_loop [24] (fun i => ∃ k : Nat, i = .int .i64 k ∧ k ≤ nb ∧ ∀ j, j < k → byOk tl by_ j = true) (fun i => nb - (intOf i).toNat)
    case atStart => exact ⟨0, rfl, Nat.zero_le _, fun j hj => absurd hj (by omega)⟩
    case round =>
      obtain ⟨k, rfl, hk, hall⟩ := hrel
      have HALL := Lib.hid hall
      clear hall
      by_cases hkn : k < nb
      · obtain ⟨b0, o0, rfl, -, -, hc⟩ := ints_at HBY4.out hkn
        have d0 := hc _ (Below.refl _ _)
        obtain ⟨x, hx⟩ : ∃ x, by_.getD k 0 = x := ⟨_, rfl⟩
        rw [hx] at d0
        have HX := Lib.hid hx
        obtain ⟨ok, hok⟩ : ∃ ok, byOk tl by_ k = ok := ⟨_, rfl⟩
        have HOKK := Lib.hid hok
        clear hc hx hok
        go_upto_region 8 with fail
        go_cut [45] from 29 to 45 (fun cc wx => cc = .bool (!ok) ∧ wx = W4)
        case first =>
          obtain ⟨hs, hhs⟩ : ∃ hs, hasI tl x = hs := ⟨_, rfl⟩
          have TX := Lib.hid (show Calls Tryz.prog 109 #[.slice D m c, .int .i64 x] W4 fun e w' => e = .returned (.bool hs) ∧ W4 = w' from by rw [← hhs]; exact TH.out x)
          have HHS := Lib.hid hhs
          clear hhs
          cases hs with
          | false =>
            obtain rfl : ok = false := by rw [← HOKK.out]; exact byOk_no_has (by rw [HX.out]; exact HHS.out)
            go_wp2_with (go_at_call 109; (with_reducible refine TX.out.mono ?_); rintro e w' ⟨rfl, rfl⟩)
            go_meet
            exact ⟨rfl, rfl⟩
          | true =>
            by_cases hk0 : k = 0
            · subst hk0
              obtain rfl : ok = true := by rw [← HOKK.out]; exact byOk_first (by rw [HX.out]; exact HHS.out)
              have hd : decide ((0 : Int) < ((0 : Nat) : Int)) = false := by decide
              go_wp2_with (go_at_call 109; (with_reducible refine TX.out.mono ?_); rintro e w' ⟨rfl, rfl⟩)
              go_meet
              exact ⟨rfl, rfl⟩
            · obtain ⟨i, hi⟩ : ∃ i, k - 1 = i := ⟨_, rfl⟩
              obtain rfl : k = i + 1 := by omega
              obtain ⟨b1, o1, hbo, -, -, hc⟩ := ints_at HBY4.out (show i < nb by omega)
              cases hbo
              have d1 := hc _ (Below.refl _ _)
              obtain ⟨y, hy⟩ : ∃ y, by_.getD i 0 = y := ⟨_, rfl⟩
              rw [hy] at d1
              obtain ⟨db, hdb⟩ : ∃ db, decide (x ≤ y) = db := ⟨_, rfl⟩
              obtain rfl : ok = !db := by rw [← HOKK.out]; exact byOk_later (by rw [HX.out]; exact HHS.out) (by omega) (by rw [Nat.add_sub_cancel, HX.out, hy, hdb])
              have hd : decide ((0 : Int) < ((i + 1 : Nat) : Int)) = true := decide_eq_true (by omega)
              have hd2 : decide ((0 : Int) < (i : Int) + 1) = true := decide_eq_true (by omega)
              have e1 : ((i + 1 : Nat) : Int) - 1 = (i : Int) := by omega
              clear hc hy hi hk0
              go_wp2_with (go_at_call 109; (with_reducible refine TX.out.mono ?_); rintro e w' ⟨rfl, rfl⟩)
              go_meet
              exact ⟨by simp, rfl⟩
        case rest =>
          obtain ⟨rfl, rfl⟩ := hcut
          cases ok with
          | false =>
            have HZ := Lib.hid (show ce = 15 by rw [HE1.out, if_neg (by rw [Bool.not_eq_true]; exact all_range_no (by rw [hbl.out]; exact hkn) HOKK.out)])
            go_wp2_with fail
            go_ret
            exact ⟨by rw [HZ.out]; rfl, G1.out.trans (G4.out.mono G1.out.size)⟩
          | true =>
            go_wp2_with fail
            go_round
            case rel => exact ⟨k + 1, by go_num, by omega, fun j hj => by
              by_cases e : j = k
              · subst e; exact HOKK.out
              · exact HALL.out j (by omega)⟩
            case measure => simp [intOf]; omega
      · obtain rfl : nb = k := by omega
        have HBA := Lib.hid (show byAll tl by_ = true from all_range_yes (by rw [hbl.out]; exact HALL.out))
        have hn120 : nb ≤ 120 := by have h1 := byAll_len HBA.out; rw [hbl.out, HM.out] at h1; omega
        have T4 := Lib.hid (T3.out W4 G4.out B nb cb by_ HBY4.out (by omega))
        have HE2 := Lib.hid (show ce = (if contraB p known by_ = true then (if byLean p known by_ = true then 0 else 15) else 15) by rw [HE1.out, if_pos HBA.out])
        obtain ⟨cv, hcv⟩ : ∃ cv, contraB p known by_ = cv := ⟨_, rfl⟩
        rw [hcv] at T4 HE2
        clear hcv
        cases cv with
        | false =>
          have HZ := Lib.hid (show ce = 15 from HE2.out)
          go_wp2_with (go_at_call 104; (with_reducible refine (T4.out).mono ?_); rintro e W5 ⟨rfl, hg⟩; have G5 := Lib.hid (G4.out.trans (hg.mono G4.out.size)); clear hg)
          go_ret
          exact ⟨by rw [HZ.out]; rfl, G1.out.trans (G5.out.mono G1.out.size)⟩
        | true =>
          have HE3 := Lib.hid (show ce = (if byLean p known by_ = true then 0 else 15) from HE2.out)
          go_wp2_with (go_at_call 104; (with_reducible refine (T4.out).mono ?_); rintro e W5 ⟨rfl, hg⟩; have G5 := Lib.hid (G4.out.trans (hg.mono G4.out.size)); clear hg)
          go_loopw [53] (fun i wr => ∃ k : Nat, i = .int .i64 k ∧ k ≤ nb ∧ Below W1.heap.size W1 wr ∧ ∀ j, j < k → contraB p known (by_.eraseIdx j) = false) (fun i _ => nb - (intOf i).toNat)
          case atStart => exact ⟨0, rfl, Nat.zero_le _, G5.out, fun j hj => absurd hj (by omega)⟩
          case round =>
            obtain ⟨k, rfl, hk, hgr, hall2⟩ := hrel
            have HGR := Lib.hid hgr
            have HAL2 := Lib.hid hall2
            have HI2 := Lib.hid (HBY.out.below hgr)
            clear hgr hall2
            by_cases hkn : k < nb
            · have hxw := wrap_succ k (by omega)
              have TC := Lib.hid (cloneI_any B nb cb by_ wr HI2.out (by omega))
              go_upto_region 16 with fail
              obtain ⟨cv, hcv⟩ : ∃ cv, contraB p known (by_.eraseIdx k) = cv := ⟨_, rfl⟩
              have HCV := Lib.hid hcv
              clear hcv
              go_wp2_with (first
                | (go_at_call 106; (with_reducible refine (TC.out).mono ?_); rintro e W6 ⟨⟨v, rfl, ho⟩, hg⟩; obtain ⟨D6, c6, hv, -, -, hia, hgb⟩ := OwnL.arr kdI ho; subst hv; rw [hbl.out] at ho hia ⊢; obtain ⟨g6, o6, hD6, -, -⟩ := hia.2 (by omega); subst hD6; obtain ⟨-, hg6, rfl⟩ := hgb g6 o6 rfl; have G6 := Lib.hid (HGR.out.trans (hg.mono HGR.out.size)); have HO6 := Lib.hid ho; have HG6 := Lib.hid hg6; clear hg ho hia hgb hg6)
                | (go_at_call 105; (with_reducible refine (delInt_any _ _ _ _ _ _ _ HO6.out hkn (by omega)).mono ?_); rintro e W7 ⟨rfl, ho, hf⟩; obtain ⟨D7, c7, hv7, -, -, hia, -⟩ := OwnL.arr kdI ho; have HO7 := Lib.hid hia; have HV7 := Lib.hid hv7; have HFX := Lib.hid hf; clear ho hf hia hv7; have HI7 := Lib.hid (show Ints W7 (some ⟨g6, 0, none⟩) (nb - 1) (by_.eraseIdx k) by (have h1 := HO7.out; have h2 := HV7.out; have hl : (by_.eraseIdx k).length = nb - 1 := (by rw [List.length_eraseIdx, if_pos (by rw [hbl.out]; exact hkn), hbl.out]); rw [hl] at h1 h2; cases h2; exact h1)); have G7 := Lib.hid (show Below W1.heap.size W1 W7 from G6.out.trans (HFX.out.below (by have := HG6.out; have := HGR.out.size; omega) G6.out.size)); have T5 := Lib.hid (T3.out W7 G7.out (some ⟨g6, 0, none⟩) (nb - 1) c6 (by_.eraseIdx k) HI7.out (by omega)); rw [HCV.out] at T5)
                | (go_at_call 104; (with_reducible refine (T5.out).mono ?_); rintro e W8 ⟨rfl, hg⟩; have G8 := Lib.hid (G7.out.trans (hg.mono G7.out.size)); clear hg; cases cv))
              · have HCV2 := Lib.hid (show contraB p known (by_.eraseIdx k) = false from HCV.out)
                go_wp2_with fail
                go_roundw
                case rel => exact ⟨k + 1, by go_num, by omega, G8.out, fun j hj => by
                  by_cases e : j = k
                  · subst e; exact HCV2.out
                  · exact HAL2.out j (by omega)⟩
                case measure => simp [intOf]; omega
              · have HZ := Lib.hid (show ce = 15 by rw [HE3.out, if_neg (by rw [Bool.not_eq_true]; exact all_range_no (by rw [hbl.out]; exact hkn) (by rw [HCV.out]; rfl))])
                go_wp2_with fail
                go_ret
                exact ⟨by rw [HZ.out]; rfl, G1.out.trans (G8.out.mono G1.out.size)⟩
            · obtain rfl : nb = k := by omega
              have HZ := Lib.hid (show ce = 0 by rw [HE3.out, if_pos (show byLean p known by_ = true from all_range_yes (by rw [hbl.out]; exact fun i hi => by rw [HAL2.out i hi]; rfl))])
              go_wp2_with fail
              go_ret
              exact ⟨by rw [HZ.out]; rfl, G1.out.trans (HGR.out.mono G1.out.size)⟩
  · have HE2 := Lib.hid (show ce = fe by rw [HE.out, if_neg he])
    have hne : (fe != 0) = true := by simpa using he
    go_enter Tryz.func42, Tryz.ntmps42
    go_upto_region 1 with fail
    rw [HW1.out]
    go_wp2_with (go_at_call 80; (with_reducible refine (T.out _ HG.out HI.out).mono ?_); rintro e W3 ⟨rfl, hg⟩; have G3 := Lib.hid (HG.out.trans (hg.mono HG.out.size)); clear hg)
    go_ret
    exact ⟨by rw [HE2.out]; rfl, G1.out.trans (G3.out.mono G1.out.size)⟩
end Go.Proofs.YtkoejeghihcmlaaGreat
