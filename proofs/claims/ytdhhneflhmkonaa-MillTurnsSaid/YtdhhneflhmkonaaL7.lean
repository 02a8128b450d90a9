/- The law MillTurns. -/
import Derived.Test.YtdhhneflhmkonaaN5
import Derived.Test.YtdhhneflhmkonaaM2
import Derived.Test.YtdhhneflhmkonaaV6
import Derived.Test.YtdhhneflhmkonaaKE
namespace Go.Proofs.Ytdhhneflhmkonaa
open Go.RowKit Go.Shelf

theorem snoc_ok {h : Int} {xs : List Comer} {c : Comer} (ok : Ok h xs) (hc : okComer h xs c = true) (hl : xs.length < 12) : Ok h (xs ++ [c]) := by
  refine ⟨ok.h0, ok.h24, by rw [List.length_append]; simp; omega, fun i y hy => ?_⟩
  by_cases hi : i < xs.length
  · rw [List.getElem?_append_left hi] at hy
    rw [List.take_append_of_le_length (by omega)]
    exact ok.com i y hy
  · have hil := (List.getElem?_eq_some_iff.1 hy).1
    rw [List.length_append] at hil
    simp at hil
    obtain rfl : i = xs.length := by omega
    rw [List.getElem?_append_right (Nat.le_refl _), Nat.sub_self] at hy
    simp at hy
    subst hy
    rw [List.take_append_of_le_length (Nat.le_refl _), List.take_length]
    unfold okComer at hc
    simp only [Bool.and_eq_true, decide_eq_true_eq] at hc
    exact ⟨hc.1.1, hc.1.2, hc.2⟩

set_option maxRecDepth 100000 in
set_option maxHeartbeats 8000000 in
theorem law7_any (n q : Int) (A : Option Addr) (m c : Nat) (l : List Pr) (w : World) (ha : Arr pcells 2 w A m l) (hm : m ≤ 9223372036854775807) :
    Calls Try.prog 7 #[.int .i64 n, .slice A m c, .int .i64 q] w fun e w' => e = .returned (.bool true) ∧ Below w.heap.size w w' := by
  have HOK := Lib.hid (made_ok n l)
  have hHle := madeH_le n
  have hx6 := made_len n l
  have HTW := Lib.hid (fun k x => @twin_ok n l k x)
  have T33 := made_any n A m c l w ha hm
  generalize madeX n l = xs at HOK T33 hx6 HTW
  generalize madeH n = H at HOK hHle T33 HTW
  unfold NewMill mv at T33
  have HT33 := Lib.hid T33
  clear ha T33
  obtain ⟨len, hlen⟩ : ∃ len, xs.length = len := ⟨_, rfl⟩
  rw [hlen] at HT33 hx6
  have HLEN := Lib.hid hlen
  clear hlen
  go_enter Try.func7, Try.ntmps7
  go_wp2_with fail
  refine HT33.out.mono ?_
  rintro e W2 ⟨g2, B, cb, rfl, hcb, hcm, hb2, -⟩
  have G2 := Lib.hid g2
  have HB2 := Lib.hid hb2
  clear g2 hb2
  go_upto_region 2 with fail
  obtain ⟨W3, hW3, g3, -, b3⟩ := box24 W2 (H : Int) B len cb
  rw [hW3]
  obtain ⟨bm, hbm⟩ : ∃ bm, W2.heap.size = bm := ⟨_, rfl⟩
  rw [hbm] at b3 ⊢
  have G3 := Lib.hid (G2.out.trans (g3.mono G2.out.size))
  have HB3 := Lib.hid (HB2.out.below g3)
  have M3 := Lib.hid b3
  have m0 := b3.cell 0
  have m1 := b3.cell 1
  clear hW3 g3 b3 hbm
  by_cases hl0 : len = 0
  · subst hl0
    go_wp2_with (go_at_call 21; (with_reducible refine (sane_any _).mono ?_); rintro e w8 ⟨rfl, g8⟩; have G8 := Lib.hid g8; clear g8)
    go_ret
    exact ⟨rfl, G3.out.trans (G8.out.mono G3.out.size)⟩
  have hlb : ((len : Int) == 0) = false := beq_eq_false_iff_ne.2 (by omega)
  have hlb2 : (len == 0) = false := beq_eq_false_iff_ne.2 hl0
  obtain ⟨k, hk⟩ : ∃ k : Nat, q % (len : Int) = k := ⟨(q % (len : Int)).toNat, (Int.toNat_of_nonneg (Int.emod_nonneg _ (by omega))).symm⟩
  have hkl : k < len := by have := Int.emod_lt_of_pos q (show (0 : Int) < len by omega); omega
  have T32 := fun W => mod_any q (len : Int) W (by omega) (by omega)
  rw [hk] at T32
  have HT32 := Lib.hid T32
  obtain ⟨ab, ao, x, rfl, -, hx, hxc⟩ := comer_at HB3.out hkl
  obtain ⟨x0, x1, x2⟩ := hxc _ (Below.refl _ _)
  have HXK := Lib.hid hx
  have HTK := Lib.hid (HTW.out k x hx)
  clear T32 hk hx hxc
  go_upto_region 7 with (go_at_call 32; (with_reducible refine (HT32.out _).mono ?_); rintro e w' ⟨rfl, rfl⟩)
  clear x0 x1 x2 m0 m1
  obtain ⟨W4, hW4⟩ : ∃ W4, W3.alloc (.cells #[.int .i64 50, .int .i64 x.hours, .int .i64 x.wants] 53) = W4 := ⟨_, rfl⟩
  have g4 : Below W3.heap.size W3 W4 := by rw [← hW4]; exact one_more _ _
  have b4 : Blk W4 W3.heap.size 53 #[.int .i64 50, .int .i64 x.hours, .int .i64 x.wants] := by rw [← hW4]; exact Blk.new _ _ _
  rw [hW4]
  obtain ⟨bc, hbc⟩ : ∃ bc, W3.heap.size = bc := ⟨_, rfl⟩
  rw [hbc] at b4 ⊢
  have G4 := Lib.hid (G3.out.trans (g4.mono G3.out.size))
  have HB4 := Lib.hid (HB3.out.below g4)
  have M4 := Lib.hid (M3.out.ext g4)
  have C4 := Lib.hid b4
  have m0 := M4.out.cell 0
  have m1 := M4.out.cell 1
  have c0 := b4.cell 0
  have c1 := b4.cell 1
  have c2 := b4.cell 2
  clear hW4 g4 b4 hbc
  have hwe : withE xs (H : Int) { x with family := 50 } = 0 := by
    unfold withE
    rw [if_pos ((okMill_iff _ _).2 HOK.out), if_pos HTK.out, if_neg (by rw [HLEN.out]; omega)]
  have T37 := With_any (some ⟨ab, ao, none⟩) len cb (H : Int) xs { x with family := 50 } W4 HB4.out hcb (by omega)
  unfold MillPost withH withL mv cv at T37
  simp only [hwe, if_true] at T37
  have hyl : (xs ++ [({ x with family := 50 } : Comer)]).length = len + 1 := by rw [List.length_append, HLEN.out]; rfl
  rw [hyl] at T37
  have HOY := Lib.hid (snoc_ok HOK.out HTK.out (by rw [HLEN.out]; omega))
  have HYK := Lib.hid (show (xs ++ [({ x with family := 50 } : Comer)])[k]? = some x by rw [List.getElem?_append_left (by rw [HLEN.out]; exact hkl)]; exact HXK.out)
  have HYN := Lib.hid (show (xs ++ [({ x with family := 50 } : Comer)])[len]? = some { x with family := 50 } by rw [List.getElem?_append_right (by rw [HLEN.out]; exact Nat.le_refl _), HLEN.out, Nat.sub_self]; rfl)
  generalize xs ++ [({ x with family := 50 } : Comer)] = ys at T37 hyl HOY HYK HYN
  have HYL := Lib.hid hyl
  have HT37 := Lib.hid T37
  clear T37 hwe hyl
  go_upto_region 8 with (go_at_call 37; (with_reducible refine HT37.out.mono ?_); rintro e W5 ⟨g5, A', c', rfl, hc', hcm', hy5⟩; have G5 := Lib.hid (G4.out.trans (g5.mono G4.out.size)); have HY5 := Lib.hid hy5; have M5 := Lib.hid (M4.out.ext g5); clear g5 hy5)
  clear m0 m1 c0 c1 c2
  obtain ⟨W6, hW6, g6, -, b6⟩ := box24 W5 (H : Int) A' (len + 1) c'
  rw [hW6]
  obtain ⟨bb, hbb⟩ : ∃ bb, W5.heap.size = bb := ⟨_, rfl⟩
  rw [hbb] at b6 ⊢
  have G6 := Lib.hid (G5.out.trans (g6.mono G5.out.size))
  have HY6 := Lib.hid (HY5.out.below g6)
  have M6 := Lib.hid (M5.out.ext g6)
  have Q6 := Lib.hid b6
  have q0 := b6.cell 0
  have q1 := b6.cell 1
  clear hW6 g6 b6 hbb
  have T36 := Hours_any A' (len + 1) c' (H : Int) ys W6 HY6.out hc' (by omega)
  unfold mv at T36
  rw [(okMill_iff _ _).2 HOY.out, show hoursS ys (H : Int) = turnsS ys H by unfold hoursS; rw [(okMill_iff _ _).2 HOY.out]; rfl] at T36
  have hdl : (turnsS ys H).length = len + 1 := (turns_len ys H).trans HYL.out
  rw [hdl] at T36
  have hwk : (ys.getD k ⟨0, 0, 0⟩) = x := by rw [List.getD_eq_getElem?_getD, HYK.out]; rfl
  have hwn : (ys.getD len ⟨0, 0, 0⟩) = { x with family := 50 } := by rw [List.getD_eq_getElem?_getD, HYN.out]; rfl
  have h0w : ∀ j, j < ys.length → 0 ≤ (ys.getD j ⟨0, 0, 0⟩).wants := fun j hj => by
    have e2 : ys[j]? = some (ys.getD j ⟨0, 0, 0⟩) := by rw [List.getD_eq_getElem?_getD, List.getElem?_eq_getElem hj]; rfl
    have h1 := (HOY.out.com j _ e2).1
    generalize ys.getD j ⟨0, 0, 0⟩ = z at h1 ⊢
    simp [isComer, rng] at h1
    omega
  have htw := twin (xs := ys) (H := H) (a := k) (b := len) (by rw [HYL.out]; omega) (by rw [HYL.out]; omega) hkl (by rw [hwk, hwn]) (by unfold hrs; rw [hwk, hwn]) h0w
  have HTU := Lib.hid (show ∀ j, j < len + 1 → (turnsS ys H).getD j 0 ≤ (ys.getD j ⟨0, 0, 0⟩).wants ∧ (turnsS ys H).getD j 0 ≤ nbits H (hrs ys j) ∧ 0 ≤ (turnsS ys H).getD j 0 ∧ (turnsS ys H).getD j 0 ≤ 24 from fun j hj =>
    ⟨turns_wants h0w (by rw [HYL.out]; exact hj), fea_hours (turns_len ys H) (turns_fea ys H) (by rw [HYL.out]; exact hj), (turns_bd ys H (by rw [HYL.out]; exact hj)).1, (turns_bd ys H (by rw [HYL.out]; exact hj)).2⟩)
  generalize turnsS ys H = due at T36 hdl htw HTU
  have HDL := Lib.hid hdl
  have HT36 := Lib.hid T36
  clear T36 hdl hwk hwn h0w
  obtain ⟨vk, hvk⟩ : ∃ vk, due.getD k 0 = vk := ⟨_, rfl⟩
  obtain ⟨vl, hvl⟩ : ∃ vl, due.getD len 0 = vl := ⟨_, rfl⟩
  have hbk := HTU.out k (by omega)
  have hbl := HTU.out len (by omega)
  rw [hvk, hvl] at htw
  rw [hvk] at hbk
  rw [hvl] at hbl
  have HVK := Lib.hid hvk
  have HVL := Lib.hid hvl
  have hbk2 : 0 ≤ vk ∧ vk ≤ 24 := hbk.2.2
  have hbl2 : 0 ≤ vl ∧ vl ≤ 24 := hbl.2.2
  have t1 : decide (vk < vl) = false := decide_eq_false (by omega)
  have t2 : decide (vl + 1 < vk) = false := decide_eq_false (by omega)
  clear hvk hvl hbk hbl
  go_upto_region 9 with (go_at_call 36; (with_reducible refine HT36.out.mono ?_); rintro e W7 ⟨⟨D, cd, rfl, hd7⟩, g7⟩; have G7 := Lib.hid (G6.out.trans (g7.mono G6.out.size)); have M7 := Lib.hid (M6.out.ext g7); have Q7 := Lib.hid (Q6.out.ext g7); have HY7 := Lib.hid (HY6.out.below g7); have D7 := Lib.hid hd7; clear g7 hd7)
  clear q0 q1
  obtain ⟨db, dof, rfl, -, -, hdk⟩ := ints_at D7.out (show k < len + 1 by omega)
  obtain ⟨db', dof', e', -, -, hdl⟩ := ints_at D7.out (show len < len + 1 by omega)
  cases e'
  have dk := hdk _ (Below.refl _ _)
  have dl := hdl _ (Below.refl _ _)
  rw [HVK.out] at dk
  rw [HVL.out] at dl
  have m1 := M7.out.cell 1
  clear hdk hdl
  go_upto_region 14 with fail
  clear dk dl m1 t1 t2
  have z0 := cellW (Q7.out.cell 0)
  have z1 := cellW (Q7.out.cell 1)
  go_wp2_with fail
  go_loopw [15] (fun i wr => ∃ i0 : Nat, i0 ≤ len + 1 ∧ i = .int .i64 i0 ∧ ∃ z : Wd W7, wr = z.val) (fun i _ => len + 1 - (intOf i).toNat)
  case atStart => exact ⟨0, Nat.zero_le _, rfl, Wd.self W7⟩
  case round =>
    obtain ⟨i, hi, rfl, z, rfl⟩ := hrel
    by_cases hil : i < len + 1
    · obtain ⟨pb, po, y, rfl, -, hy, hyc⟩ := comer_at HY7.out hil
      have hyd : ys.getD i ⟨0, 0, 0⟩ = y := by rw [List.getD_eq_getElem?_getD, hy]; rfl
      have y1 : ∀ x : Wd W7, x.val.cell? ⟨pb, po + i * 3 + 1, none⟩ = some (.int .i64 (hrs ys i : Nat)) := fun x => by rw [← HOY.out.hrs.nat hy]; exact (hyc x.val x.ok).2.1
      have y2 : ∀ x : Wd W7, x.val.cell? ⟨pb, po + i * 3 + 2, none⟩ = some (.int .i64 y.wants) := fun x => (hyc x.val x.ok).2.2
      have hs := HOY.out.hrs.lt i
      obtain ⟨t1, t2, t3, t4⟩ := HTU.out i hil
      rw [hyd] at t1
      obtain ⟨db2, dof2, e', -, -, hdi⟩ := ints_at D7.out hil
      cases e'
      obtain ⟨di, hdi2⟩ : ∃ di, due.getD i 0 = di := ⟨_, rfl⟩
      rw [hdi2] at t1 t2 t3 t4 hdi
      have d1 : ∀ x : Wd W7, x.val.cell? ⟨db, dof + i, none⟩ = some (.int .i64 di) := fun x => hdi x.val x.ok
      have u1 : decide (y.wants < di) = false := decide_eq_false (by omega)
      generalize hrs ys i = s at y1 hs t2
      have u2 : decide ((nbits H s : Int) < di) = false := decide_eq_false (by omega)
      have U2 := Lib.hid u2
      clear hy hyc hyd hdi hdi2 t1 t2 u2
      obtain ⟨zo, hzo⟩ : ∃ zo : Wd W7, zo = z := ⟨z, rfl⟩
      subst hzo
      go_wp2_with fail
      go_loopw [16, 17] (fun c h wr => ∃ j : Nat, j ≤ H ∧ h = .int .i64 j ∧ c = .int .i64 (nbits j s : Nat) ∧ ∃ z : Wd W7, wr = z.val) (fun _ h _ => H - (intOf h).toNat)
      case atStart => exact ⟨0, Nat.zero_le _, rfl, rfl, zo, rfl⟩
      case round =>
        obtain ⟨j, hj, rfl, rfl, z, rfl⟩ := hrel
        have hnb := nbits_le j s
        by_cases hjH : j < H
        · have HNB := Lib.hid (nbits_succ j s)
          have hab := andbit s j (by omega) (by omega)
          obtain ⟨tb, htb⟩ : ∃ tb, s.testBit j = tb := ⟨_, rfl⟩
          rw [htb] at hab
          have HTB := Lib.hid htb
          clear htb
          cases tb with
          | true =>
            go_wp2_with fail
            refine wp_region_calm W7 (by kernel_rfl) (by kernel_rfl) z.ok ?_
            repeat (go_big_quiet_step (fail))
            refine wpQuiet_nil ?_
            rintro _ ⟨v, rfl⟩
            go_wp2_with fail
            go_roundw
            case rel => exact ⟨j + 1, by omega, by go_num, by rw [HNB.out, HTB.out, if_pos rfl]; go_num, v, rfl⟩
            case measure => simp [intOf]; omega
          | false =>
            go_wp2_with fail
            refine wp_region_calm W7 (by kernel_rfl) (by kernel_rfl) z.ok ?_
            repeat (go_big_quiet_step (fail))
            refine wpQuiet_nil ?_
            rintro _ ⟨v, rfl⟩
            go_wp2_with fail
            go_roundw
            case rel => exact ⟨j + 1, by omega, by go_num, by rw [HNB.out, HTB.out]; simp, v, rfl⟩
            case measure => simp [intOf]; omega
        · obtain rfl : H = j := by omega
          have u2 := U2.out
          generalize nbits H s = nb at u2 hnb ⊢
          go_wp2_with fail
          refine wp_region_calm W7 (by kernel_rfl) (by kernel_rfl) z.ok ?_
          repeat (go_big_quiet_step (fail))
          refine wpQuiet_nil ?_
          rintro _ ⟨v, rfl⟩
          go_wp2_with fail
          go_roundw
          case rel => exact ⟨i + 1, by omega, by go_num, v, rfl⟩
          case measure => simp [intOf]; omega
    · obtain rfl : i = len + 1 := by omega
      go_wp2_with (go_at_call 21; (with_reducible refine (sane_any _).mono ?_); rintro e w8 ⟨rfl, g8⟩; have G8 := Lib.hid (z.ok.trans (g8.mono z.ok.size)); clear g8)
      go_ret
      exact ⟨rfl, G7.out.trans (G8.out.mono G7.out.size)⟩
end Go.Proofs.Ytdhhneflhmkonaa
