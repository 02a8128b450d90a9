/- The reference's demands, Serves, CrowdError, Unserved, CheckCrowd, Capped (func 94, 55, 58, 59, 61, 62, 89). -/
import Derived.Test.YtdhhneflhmkonaaV5
import Derived.Test.YtdhhneflhmkonaaD3
namespace Go.Proofs.Ytdhhneflhmkonaa
open Go.RowKit Go.Shelf

theorem box24 (w : World) (h : Int) (A : Option Addr) (n cc : Nat) : ∃ W1, w.alloc (.cells #[.int .i64 h, .slice A n cc] 24) = W1 ∧ Below w.heap.size w W1 ∧ W1.heap.size = w.heap.size + 1 ∧ Blk W1 w.heap.size 24 #[.int .i64 h, .slice A n cc] :=
  ⟨_, rfl, one_more _ _, World.size_alloc _ _, Blk.new _ _ _⟩
theorem badD_at {l : List Int} : badD l = true ↔ ∃ j, j < l.length ∧ rng (l.getD j 0) 0 24 = false := by
  unfold badD
  rw [List.any_eq_true]
  constructor
  · rintro ⟨x, hx, h⟩
    obtain ⟨j, hj, rfl⟩ := List.getElem_of_mem hx
    exact ⟨j, hj, by rw [List.getD_eq_getElem?_getD, List.getElem?_eq_getElem hj]; simpa using h⟩
  · rintro ⟨j, hj, h⟩
    rw [List.getD_eq_getElem?_getD, List.getElem?_eq_getElem hj] at h
    exact ⟨_, List.getElem_mem hj, by simpa using h⟩

set_option maxRecDepth 100000 in
set_option maxHeartbeats 2000000 in
theorem refDemands_any (A D : Option Addr) (n cc m cd : Nat) (h : Int) (xs : List Comer) (l : List Int) (w : World) (ha : Arr ccells 3 w A n xs) (hnc : n ≤ cc) (hd : Ints w D m l) (hm : m ≤ 9223372036854775807) (hn : n ≤ 9223372036854775807) :
    Calls Try.prog 94 #[mv A n cc h, .slice D m cd] w fun e w' => e = .returned (.int .i64 (demE xs h l)) ∧ Below w.heap.size w w' := by
  have HA := Lib.hid ha
  have HD := Lib.hid hd
  have hxl := Lib.hid ha.1
  have hll := Lib.hid hd.1
  clear ha hd
  obtain ⟨ok, hok⟩ : ∃ ok, okMill h xs = ok := ⟨_, rfl⟩
  have HOK := Lib.hid hok
  have HE := Lib.hid (show demE xs h l = if ok then (if isDem xs l then 0 else 56) else 52 by rw [← hok]; rfl)
  generalize demE xs h l = de at HE ⊢
  clear hok
  unfold mv
  go_enter Try.func94, Try.ntmps94
  go_wp2_with fail
  obtain ⟨W1, hW1, g1, -, b1⟩ := box24 w h A n cc
  rw [hW1]
  clear hW1
  refine (refCheck_any h A n cc xs W1 (HA.out.below g1) hnc hn).mono ?_
  rintro e W2 ⟨rfl, hg2⟩
  rw [HOK.out]
  have b2 := b1.ext hg2
  have g2 := g1.trans (hg2.mono g1.size)
  have m1 := b2.cell 1
  have G2 := Lib.hid g2
  clear g1 b1 hg2 g2 b2
  cases ok with
  | false =>
    rw [show err false 52 = 52 from rfl]
    go_wp2_with fail
    go_ret
    exact ⟨ret_int HE.out.symm, G2.out⟩
  | true =>
    rw [show err true 52 = 0 from rfl]
    go_wp2_with fail
    go_loop [5] (fun i => ∃ k : Nat, i = .int .i64 k ∧ k ≤ m ∧ ∀ j, j < k → rng (l.getD j 0) 0 24 = true) (fun i => m - (intOf i).toNat)
    case atStart => exact ⟨0, rfl, Nat.zero_le _, fun j hj => by omega⟩
    case round =>
      obtain ⟨k, rfl, hk, hall⟩ := hrel
      have HALL := Lib.hid hall
      clear hall
      by_cases hkm : k < m
      · obtain ⟨b, o, rfl, -, -, hc⟩ := ints_at HD.out hkm
        have d0 := hc _ G2.out
        obtain ⟨y, hy⟩ : ∃ y, l.getD k 0 = y := ⟨_, rfl⟩
        rw [hy] at d0
        have HY := Lib.hid hy
        clear hc hy
        obtain ⟨rb, hrb⟩ : ∃ rb, rng y 0 24 = rb := ⟨_, rfl⟩
        have HRB := Lib.hid hrb
        clear hrb
        cases rb with
        | true =>
          go_wp2_with (go_at_call 72; (with_reducible refine (in_any _ _ _ _).mono ?_); rw [HRB.out]; rintro e w' ⟨rfl, rfl⟩)
          go_round
          case rel => exact ⟨k + 1, by go_num, by omega, fun j hj => by
            by_cases e : j = k
            · subst e; rw [HY.out]; exact HRB.out
            · exact HALL.out j (by omega)⟩
          case measure => simp [intOf]; omega
        | false =>
          go_wp2_with (go_at_call 72; (with_reducible refine (in_any _ _ _ _).mono ?_); rw [HRB.out]; rintro e w' ⟨rfl, rfl⟩)
          go_ret
          refine ⟨ret_int ?_, G2.out⟩
          have hb : badD l = true := badD_at.2 ⟨k, by rw [hll.out]; exact hkm, by rw [HY.out]; exact HRB.out⟩
          rw [HE.out, if_pos True.intro, if_neg]
          unfold isDem
          rw [hb]; simp
      · obtain rfl : m = k := by omega
        have hb : badD l = false := by
          cases hq : badD l with
          | false => rfl
          | true =>
            obtain ⟨j, hj, h⟩ := badD_at.1 hq
            rw [HALL.out j (by rw [← hll.out]; exact hj)] at h; cases h
        have HB := Lib.hid hb
        clear hb
        by_cases hmn : m = n
        · subst hmn
          go_wp2_with fail
          go_ret
          refine ⟨ret_int ?_, G2.out⟩
          rw [HE.out, if_pos True.intro, if_pos]
          unfold isDem
          rw [HB.out, hll.out, hxl.out]; simp
        · have hb1 : (((m : Int)) != (n : Int)) = true := by rw [bne_iff_ne]; omega
          go_wp2_with fail
          go_ret
          refine ⟨ret_int ?_, G2.out⟩
          rw [HE.out, if_pos True.intro, if_neg]
          unfold isDem
          rw [HB.out, hll.out, hxl.out]; simpa using hmn

set_option maxRecDepth 100000 in
set_option maxHeartbeats 2000000 in
theorem refServes_any (A D : Option Addr) (n cc m cd : Nat) (h : Int) (xs : List Comer) (l : List Int) (w : World) (ha : Arr ccells 3 w A n xs) (hnc : n ≤ cc) (hd : Ints w D m l) (hm : m ≤ 9223372036854775807) (hn : n ≤ 9223372036854775807) :
    Calls Try.prog 55 #[mv A n cc h, .slice D m cd] w fun e w' => e = .returned (.tuple #[.bool (servesS xs h l), .int .i64 (demE xs h l)]) ∧ Below w.heap.size w w' := by
  have HA := Lib.hid ha
  have HD := Lib.hid hd
  have hxl := Lib.hid ha.1
  have hll := Lib.hid hd.1
  clear ha hd
  obtain ⟨de, hde⟩ : ∃ de, demE xs h l = de := ⟨_, rfl⟩
  have HDE := Lib.hid hde
  rw [hde]
  clear hde
  unfold mv
  go_enter Try.func55, Try.ntmps55
  go_wp2_with fail
  obtain ⟨W1, hW1, g1, -, b1⟩ := box24 w h A n cc
  rw [hW1]
  clear hW1
  have T1 := refDemands_any A D n cc m cd h xs l W1 (HA.out.below g1) hnc (HD.out.below g1) hm hn
  rw [HDE.out] at T1
  refine T1.mono ?_
  clear T1
  rintro e W2 ⟨rfl, hg2⟩
  have b2 := b1.ext hg2
  have g2 := g1.trans (hg2.mono g1.size)
  have m0 := b2.cell 0
  have m1 := b2.cell 1
  have G2 := Lib.hid g2
  clear g1 b1 hg2 g2 b2
  by_cases h0 : de = 0
  · subst h0
    have hok := demE_zero HDE.out
    have ok := (okMill_iff h xs).1 hok.1
    obtain ⟨H, rfl⟩ : ∃ H : Nat, h = H := ⟨h.toNat, by have := ok.h0; omega⟩
    have hH : H ≤ 24 := by have := ok.h24; omega
    have hn12 : n ≤ 12 := by have := ok.n12; have := hxl.out; omega
    obtain rfl : n = m := by
      have := isDem_len hok.2
      have := hxl.out
      have := hll.out
      omega
    have T20 := (serveRef_any A D n cc cd H xs l W2 (HA.out.below G2.out) ok.hrs hH hn12 (HD.out.below G2.out) (fun x hx => by have := isDem_bd hok.2 x hx; omega))
    unfold mv at T20
    have T2 := Lib.hid T20
    clear T20
    have HS := Lib.hid (show servesS xs (H : Int) l = fea xs H (-1) l by unfold servesS; rw [HDE.out]; rfl)
    clear hok ok hm hn
    go_wp2_with (go_at_call 75; (with_reducible refine T2.out.mono ?_); rintro e w' ⟨g3, P, pc, wh, rfl, -⟩; have G3 := Lib.hid g3; clear g3)
    go_ret2
    exact ⟨by rw [HS.out]; rfl, (G2.out.trans (G3.out.mono G2.out.size)).alloc (by have := G2.out.size; have := G3.out.size; omega) _⟩
  · have hb1 : (de != 0) = true := by rw [bne_iff_ne]; exact h0
    have HS := Lib.hid (show servesS xs h l = false by unfold servesS; rw [HDE.out, decide_eq_false h0]; rfl)
    clear h0
    go_wp2_with fail
    go_ret2
    exact ⟨by rw [HS.out]; rfl, G2.out⟩

set_option maxRecDepth 100000 in
set_option maxHeartbeats 2000000 in
theorem crowdError_any (A D : Option Addr) (n cc m cd : Nat) (h : Int) (xs : List Comer) (l : List Int) (w : World) (ha : Arr ccells 3 w A n xs) (hnc : n ≤ cc) (hd : Ints w D m l) (hm : m ≤ 9223372036854775807) (hn : n ≤ 9223372036854775807) :
    Calls Try.prog 58 #[mv A n cc h, .slice D m cd] w fun e w' => e = .returned (.int .i64 (crowE xs h l)) ∧ Below w.heap.size w w' := by
  have HA := Lib.hid ha
  have HD := Lib.hid hd
  clear ha hd
  obtain ⟨de, hde⟩ : ∃ de, demE xs h l = de := ⟨_, rfl⟩
  obtain ⟨sv, hsv⟩ : ∃ sv, servesS xs h l = sv := ⟨_, rfl⟩
  have HE := Lib.hid (show crowE xs h l = if de = 0 then (if sv = true then 55 else 0) else de by
    unfold crowE
    rw [hde]
    by_cases e : de = 0
    · rw [if_pos e, if_pos e, ← hsv]
      unfold servesS
      rw [hde, decide_eq_true e, Bool.true_and]
    · rw [if_neg e, if_neg e])
  have T1 := Lib.hid (fun W (g : Below w.heap.size w W) => hsv ▸ hde ▸ refServes_any A D n cc m cd h xs l W (HA.out.below g) hnc (HD.out.below g) hm hn)
  clear hde hsv
  generalize crowE xs h l = ce at HE ⊢
  unfold mv at T1 ⊢
  go_enter Try.func58, Try.ntmps58
  go_wp2_with fail
  obtain ⟨W1, hW1, g1, -, b1⟩ := box24 w h A n cc
  rw [hW1]
  clear hW1
  have G1 := Lib.hid g1
  clear b1 g1
  by_cases h0 : de = 0
  · subst h0
    cases sv with
    | true =>
      go_wp2_with (go_at_call 55; (with_reducible refine (T1.out _ G1.out).mono ?_); rintro e w' ⟨rfl, g3⟩; have G3 := Lib.hid g3; clear g3)
      go_ret
      exact ⟨ret_int HE.out.symm, G1.out.trans (G3.out.mono G1.out.size)⟩
    | false =>
      go_wp2_with (go_at_call 55; (with_reducible refine (T1.out _ G1.out).mono ?_); rintro e w' ⟨rfl, g3⟩; have G3 := Lib.hid g3; clear g3)
      go_ret
      exact ⟨ret_int HE.out.symm, G1.out.trans (G3.out.mono G1.out.size)⟩
  · have hb1 : (de == 0) = false := beq_eq_false_iff_ne.2 h0
    have H0 := Lib.hid h0
    clear h0
    go_wp2_with (go_at_call 55; (with_reducible refine (T1.out _ G1.out).mono ?_); rintro e w' ⟨rfl, g3⟩; have G3 := Lib.hid g3; clear g3)
    go_ret
    exact ⟨ret_int (by rw [HE.out, if_neg H0.out]), G1.out.trans (G3.out.mono G1.out.size)⟩

set_option maxRecDepth 100000 in
theorem cappedRef_any (A : Option Addr) (n cc : Nat) (H m : Int) (xs : List Comer) (w : World) (ha : Arr ccells 3 w A n xs) (hn : n ≤ 12) :
    Calls Try.prog 89 #[mv A n cc H, .int .i64 m] w fun e w' => (∃ D c, e = .returned (.slice D n c) ∧ Ints w' D n (capped xs m)) ∧ Below w.heap.size w w' := by
  have ha0 := Lib.hid ha
  have hlen := Lib.hid ha.1
  clear ha
  unfold mv
  go_enter Try.func89, Try.ntmps89
  go_wp2_with fail
  obtain ⟨W1, hW1, g1, -, b1⟩ := box24 w H A n cc
  rw [hW1]
  have HG1 := Lib.hid g1
  have B1 := Lib.hid b1
  clear hW1 g1 b1
  go_wp2_with fail
  go_loopw [5, 6] (fun v i wr => ∃ k : Nat, i = .int .i64 k ∧ k ≤ n ∧ Below W1.heap.size W1 wr ∧ Own wr W1.heap.size v ((capped xs m).take k)) (fun _ i _ => n - (intOf i).toNat)
  case atStart => exact ⟨0, rfl, Nat.zero_le _, Below.refl _ _, Own.nil _ _⟩
  case round =>
    obtain ⟨k, rfl, hk, hbl, hown⟩ := hrel
    have HB := Lib.hid hbl
    have HO := Lib.hid hown
    have hsz := hbl.size
    have m1 := (B1.out.ext hbl).cell 1
    by_cases hkn : k < n
    · obtain ⟨b, o, x, rfl, hb, hx, hc⟩ := comer_at (ha0.out.below (HG1.out.trans (hbl.mono HG1.out.size))) hkn
      obtain ⟨d0, d1, d2⟩ := hc wr (Below.refl _ _)
      have HX := Lib.hid hx
      clear hbl hown hc hx
      have HL : (List.take k (capped xs m)).length < 100000 := by rw [List.length_take]; omega
      go_wp2_with (first | (at_builtin; refine push_int rfl _ _ rfl W1.heap.size _ ((capped xs m).take k) rfl (HO.out.ext (one_more _ _)) _ _ _ _ rfl rfl (cell_new1 _ _ _ _ rfl) HL (by simp; omega) ?_; intro v' w' ho hbw))
      all_goals
        go_roundw
        case rel =>
          refine ⟨k + 1, by go_num, by omega, HB.out.trans (((one_more wr _).mono hsz).trans (hbw _ (Nat.le_refl _))), ?_⟩
          have e : (capped xs m).take (k + 1) = (capped xs m).take k ++ [min m x.wants] := by
            rw [List.take_add_one, capped, List.getElem?_map, HX.out]; rfl
          rw [e]
          first
            | exact ho
            | (rw [show min m x.wants = if x.wants < m then x.wants else m by split <;> omega]; exact ho)
        case measure => simp [intOf]; omega
    · obtain rfl : k = n := by omega
      have hl : (capped xs m).take k = capped xs m := List.take_of_length_le (by rw [capped, List.length_map]; have := hlen.out; omega)
      obtain ⟨D, c, rfl, hi⟩ := hown.ints
      have e : ((capped xs m).take k).length = k := by rw [hl, capped, List.length_map, hlen.out]
      rw [e] at hi
      rw [hl] at hi e
      have HI := Lib.hid hi
      have E := Lib.hid e
      clear hbl hown hi e hl
      go_wp2_with fail
      go_ret
      exact ⟨⟨D, c, by rw [List.take_of_length_le (by rw [E.out]; exact Nat.le_refl _), E.out]; rfl, HI.out⟩, HG1.out.trans (HB.out.mono HG1.out.size)⟩

set_option maxRecDepth 100000 in
theorem Capped_any (A : Option Addr) (n cc : Nat) (H m : Int) (xs : List Comer) (w : World) (ha : Arr ccells 3 w A n xs) (hn : n ≤ 12) :
    Calls Try.prog 62 #[mv A n cc H, .int .i64 m] w fun e w' => (∃ D c, e = .returned (.slice D n c) ∧ Ints w' D n (capped xs m)) ∧ Below w.heap.size w w' := by
  have ha0 := Lib.hid ha
  clear ha
  have T1 := fun W (g : Below w.heap.size w W) => cappedRef_any A n cc H m xs W (ha0.out.below g) hn
  unfold mv at T1 ⊢
  have HT := Lib.hid T1
  clear T1
  go_enter Try.func62, Try.ntmps62
  go_wp2_with fail
  obtain ⟨W1, hW1, g1, -, -⟩ := box24 w H A n cc
  rw [hW1]
  have HG1 := Lib.hid g1
  clear hW1 g1
  refine (HT.out _ HG1.out).mono ?_
  rintro e w' ⟨⟨D, c, rfl, hi⟩, g2⟩
  have HI := Lib.hid hi
  have G2 := Lib.hid g2
  clear hi g2
  go_wp2_with fail
  go_ret
  exact ⟨⟨D, c, rfl, HI.out⟩, HG1.out.trans (G2.out.mono HG1.out.size)⟩
end Go.Proofs.Ytdhhneflhmkonaa
