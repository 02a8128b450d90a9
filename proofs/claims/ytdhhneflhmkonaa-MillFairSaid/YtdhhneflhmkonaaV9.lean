/- The reference's hours and Hours (func 73, 39). -/
import Derived.Test.YtdhhneflhmkonaaV6
namespace Go.Proofs.Ytdhhneflhmkonaa
open Go.RowKit Go.Shelf

/-- Where hours stands. -/
def HrSt (w : World) (bm bo b4 n cc H : Nat) (A : Option Addr) (xs : List Comer) (out : List Int) (wr : World) : Prop :=
  ∃ (P : Option Addr) (pc : Nat) (wh : List Int), Below w.heap.size w wr ∧ Blk wr bm 24 #[.int .i64 H, .slice A n cc] ∧ Blk wr bo 3 (vals out) ∧ Blk wr b4 90 #[.slice P H pc] ∧ Ints wr P H wh ∧ (∀ b o, P = some ⟨b, o, none⟩ → b ≠ b4 ∧ b ≠ bo ∧ b < wr.heap.size) ∧
    Asg n H (adj xs (2 ^ H - 1)) wh ∧ ∀ j : Nat, j < n → (wh.count (j : Int) : Int) = out.getD j 0

theorem more_yes {n H : Nat} {xs : List Comer} {wh wh' out : List Int} {i : Nat} (hl : xs.length = n) (hol : out.length = n) (ha : Asg n H (adj xs (2 ^ H - 1)) wh') (hi : i < n)
    (hc : ∀ j : Nat, j < n → (wh.count (j : Int) : Int) = out.getD j 0) (hw : ∀ j : Nat, wh'.count (j : Int) = wh.count (j : Int) + if j = i then 1 else 0) :
    fea xs H (-1) (out.set i (out.getD i 0 + 1)) = true ∧ ∀ j : Nat, j < n → (wh'.count (j : Int) : Int) = (out.set i (out.getD i 0 + 1)).getD j 0 := by
  have key : ∀ j : Nat, j < n → (wh'.count (j : Int) : Int) = (out.set i (out.getD i 0 + 1)).getD j 0 := by
    intro j hj
    rw [hw j, getD_set (by omega)]
    have := hc j hj
    by_cases e : j = i
    · subst e; rw [if_pos rfl, if_pos rfl]; omega
    · rw [if_neg e, if_neg e]; omega
  refine ⟨(fea_iff (by rw [List.length_set]; omega)).2 ⟨wh', ?_, fun j hj => ?_⟩, key⟩
  · rw [hl]
    exact ha.adj_mono fun i k _ hk _ h => by rw [← adj_ones i k hk]; exact h
  · rw [key j (by omega)]; exact Int.le_refl _
theorem more_no {n H : Nat} {xs : List Comer} {wh out : List Int} {i s : Nat} (hl : xs.length = n) (hol : out.length = n) (ha : Asg n H (adj xs (2 ^ H - 1)) wh) (hi : i < n)
    (hc : ∀ j : Nat, j < n → (wh.count (j : Int) : Int) = out.getD j 0) (hs : StepF n H (adj xs (2 ^ H - 1)) i 0 wh s) : fea xs H (-1) (out.set i (out.getD i 0 + 1)) = false := by
  have hF := hs.no (d := fun j => (out.set i (out.getD i 0 + 1)).getD j 0) ha (fun j hj => by
    have := hc j hj
    rw [getD_set (by omega)]
    by_cases e : j = i
    · subst e; rw [if_pos rfl]; omega
    · rw [if_neg e]; omega) hi (by
    have := hc i hi
    rw [getD_set (by omega), if_pos rfl]; omega)
  cases hq : fea xs H (-1) (out.set i (out.getD i 0 + 1)) with
  | false => rfl
  | true =>
    have := (fea_iff (by rw [List.length_set]; omega)).1 hq
    rw [hl] at this
    exact absurd (this.congr (fun i k _ hk => (adj_ones i k hk).symm)) hF

theorem box_make (w : World) (h : Int) (A : Option Addr) (n cc m : Nat) : ∃ W2, (w.alloc (.cells #[.int .i64 h, .slice A n cc] 24)).alloc (.cells (madeCells #[.int .i64 0] m) 3) = W2 ∧ Below w.heap.size w W2 ∧ Blk W2 w.heap.size 24 #[.int .i64 h, .slice A n cc] ∧ Blk W2 (w.heap.size + 1) 3 (vals (List.replicate m 0)) := by
  have b := Blk.new (w.alloc (.cells #[.int .i64 h, .slice A n cc] 24)) 3 (madeCells #[.int .i64 0] m)
  rw [World.size_alloc, made_vals] at b
  exact ⟨_, rfl, two_more _ _ _, (Blk.new w 24 _).alloc _, by rw [made_vals]; exact b⟩

set_option maxRecDepth 100000 in
set_option maxHeartbeats 8000000 in
theorem hoursRef_any (A : Option Addr) (n cc H : Nat) (xs : List Comer) (w : World) (ha : Arr ccells 3 w A n xs) (hX : Hrs xs) (hH : H ≤ 24) (hn : n ≤ 12) :
    Calls Try.prog 73 #[mv A n cc H] w fun e w' => (∃ b, e = .returned (.slice (some ⟨b, 0, none⟩) n n) ∧ w.heap.size ≤ b ∧ Blk w' b 3 (vals (turnsS xs H))) ∧ Below w.heap.size w w' := by
  have HA := Lib.hid ha
  have hlen := Lib.hid ha.1
  have HHR := Lib.hid (show ∀ (i : Nat) x, xs[i]? = some x → 0 ≤ x.hours ∧ x.hours < 16777216 from fun i x h => hX x (List.mem_of_getElem? h))
  clear ha
  have hmk := fun w => run_make_row' (P := Try.prog) 28 3 (.int .i64 0) 8 (by kernel_rfl) (by kernel_rfl) (by simp [Value.cells]) .i64 .i64 n (by omega) (by omega) w
  unfold mv
  go_enter Try.func73, Try.ntmps73
  go_wp2_with fail
  obtain ⟨W2, hW2, g2, c1, b2⟩ := box_make w H A n cc n
  rw [hW2]
  clear hW2
  have G2 := Lib.hid g2
  clear g2
  obtain ⟨bm, hbm⟩ : ∃ bm, w.heap.size = bm := ⟨_, rfl⟩
  rw [hbm] at c1 b2 ⊢
  obtain ⟨bo, hbo⟩ : ∃ bo, bm + 1 = bo := ⟨_, rfl⟩
  rw [hbo] at b2 ⊢
  have z1 : bm < bo := by omega
  have z2 : bo < W2.heap.size := b2.lt
  have HBM := Lib.hid hbm
  have C1 := Lib.hid c1
  have B2 := Lib.hid b2
  have m0 := c1.cell 0
  have m1 := c1.cell 1
  have T1 := serveRef_any A (some ⟨bo, 0, none⟩) n cc n H xs (List.replicate n 0) W2 (HA.out.below G2.out) hX hH hn (b2.intsN (by rw [List.length_replicate])) (fun x hx => by rw [(List.mem_replicate.1 hx).2]; omega)
  unfold mv at T1
  have HT1 := Lib.hid T1
  clear T1 hmk hbm hbo c1 b2
  refine HT1.out.mono ?_
  rintro e W3 ⟨g3, P0, pc0, wh0, rfl, hi0, hp0, ha0, hc0⟩
  have G3 := Lib.hid g3
  have HI0 := Lib.hid hi0
  have HP0 := Lib.hid hp0
  have HA0 := Lib.hid ha0
  have HC0 := Lib.hid hc0
  clear g3 hi0 hp0 ha0 hc0
  go_upto_region 3 with fail
  have START : HrSt w bm bo W3.heap.size n cc H A xs (List.replicate n 0) (W3.alloc (.cells #[.slice P0 H pc0] 90)) := by
    have g4 := one_more W3 (.cells #[.slice P0 H pc0] 90)
    have hfz : fea xs H (-1) (List.replicate n 0) = true := by
      have := turnsT_fea xs H 0
      unfold turnsT at this
      rwa [hlen.out] at this
    refine ⟨P0, pc0, wh0, (G2.out.trans (G3.out.mono G2.out.size)).trans (g4.mono (by have := G2.out.size; have := G3.out.size; omega)), (C1.out.ext G3.out).ext g4, (B2.out.ext G3.out).ext g4, Blk.new _ _ _, HI0.out.below g4, fun b o e => ?_, HA0.out, fun j hj => ?_⟩
    · have := HP0.out b o e
      rw [World.size_alloc]
      exact ⟨by omega, by omega, by omega⟩
    · rw [HC0.out hfz j hj, List.getD_eq_getElem?_getD, List.getElem?_replicate, if_pos hj]; rfl
  have z3 : bo < W3.heap.size := by have := G3.out.size; omega
  obtain ⟨b4, hb4⟩ : ∃ b4, W3.heap.size = b4 := ⟨_, rfl⟩
  rw [hb4] at START z3 ⊢
  have HST := Lib.hid START
  clear START hb4 m0 m1 HT1 HI0 HP0 HA0 HC0 G3 C1 B2
  obtain ⟨W4, hW4⟩ : ∃ W4, W3.alloc (.cells #[.slice P0 H pc0] 90) = W4 := ⟨_, rfl⟩
  rw [hW4] at HST ⊢
  clear hW4
  go_wp2_with fail
  go_loopw [6] (fun r wr => ∃ r0 : Nat, r = .int .i64 ((r0 : Int) + 1) ∧ r0 ≤ 24 ∧ HrSt w bm bo b4 n cc H A xs (turnsT xs H r0) wr) (fun r _ => 25 - (intOf r).toNat)
  case atStart => exact ⟨0, rfl, by omega, by unfold turnsT; rw [hlen.out]; exact HST.out⟩
  case round =>
    obtain ⟨r0, rfl, hr0, hst⟩ := hrel
    have HS := Lib.hid hst
    clear hst HST
    obtain ⟨w2, rfl⟩ : ∃ w2 : World, w2 = wr := ⟨_, rfl⟩
    by_cases hr : r0 < 24
    · have hd24 : decide ((r0 : Int) + 1 ≤ 24) = true := decide_eq_true (by omega)
      go_wp2_with fail
      go_loopw [7] (fun i wr => ∃ i0 : Nat, i = .int .i64 i0 ∧ i0 ≤ n ∧ HrSt w bm bo b4 n cc H A xs (rowT xs H ((r0 : Int) + 1) i0 (turnsT xs H r0)) wr) (fun i _ => n - (intOf i).toNat)
      case atStart => exact ⟨0, rfl, Nat.zero_le _, HS.out⟩
      case round =>
        obtain ⟨i, rfl, hi, P, pc, wh, hg, c1, c2, c3, hp, hpb, hasg, hcnt⟩ := hrel
        have m0 := c1.cell 0
        have m1 := c1.cell 1
        have p0 := c3.cell 0
        by_cases hin : i < n
        · obtain ⟨out, hout⟩ : ∃ out, rowT xs H ((r0 : Int) + 1) i (turnsT xs H r0) = out := ⟨_, rfl⟩
          have hol : out.length = n := by rw [← hout, rowT_len, turnsT_len]; exact hlen.out
          have hbd : ∀ x ∈ out, 0 ≤ x ∧ x ≤ (r0 : Int) + 1 := by rw [← hout]; exact rowT_bd (by omega) _ _ (fun x hx => by have := turnsT_bd xs H r0 x hx; omega)
          have HNEXT := Lib.hid (show rowT xs H ((r0 : Int) + 1) (i + 1) (turnsT xs H r0) = stepI xs H ((r0 : Int) + 1) out i by rw [← hout]; rfl)
          rw [hout] at c2 hcnt
          clear hout
          obtain ⟨ab, ao, x, rfl, -, hx, hxc⟩ := comer_at (HA.out.below hg) hin
          have x2 := (hxc wr (Below.refl _ _)).2.2
          have HXW := Lib.hid (show (xs.getD i ⟨0, 0, 0⟩).wants = x.wants by rw [List.getD_eq_getElem?_getD, hx]; rfl)
          obtain ⟨oi, hoi⟩ : ∃ oi, out.getD i 0 = oi := ⟨_, rfl⟩
          have oc := c2.cell i
          have hoe : out[i]? = some oi := by rw [← hoi, List.getD_eq_getElem?_getD, List.getElem?_eq_getElem (by omega)]; rfl
          rw [vals_get, hoe] at oc
          have hob := hbd oi (List.mem_of_getElem? hoe)
          have HG := Lib.hid hg
          have C1 := Lib.hid c1
          have C2 := Lib.hid c2
          have C3 := Lib.hid c3
          have HP := Lib.hid hp
          have HPB := Lib.hid hpb
          have HASG := Lib.hid hasg
          have HCNT := Lib.hid hcnt
          have HOL := Lib.hid hol
          have HOI := Lib.hid hoi
          have hlt := Lib.hid (show bm < wr.heap.size ∧ bo < wr.heap.size ∧ b4 < wr.heap.size from ⟨c1.lt, c2.lt, c3.lt⟩)
          have HST := Lib.hid (show HrSt w bm bo b4 n cc H (some ⟨ab, ao, none⟩) xs out wr from ⟨P, pc, wh, hg, c1, c2, c3, hp, hpb, hasg, hcnt⟩)
          clear hg c1 c2 c3 hp hpb hasg hcnt hx hxc hol hoi hoe hbd
          by_cases h1 : x.wants < (r0 : Int) + 1
          · have hb1 : decide (x.wants < (r0 : Int) + 1) = true := decide_eq_true h1
            have HN := Lib.hid (show stepI xs H ((r0 : Int) + 1) out i = out by unfold stepI; rw [HXW.out, if_pos (.inl h1)])
            clear h1
            go_wp2_with fail
            go_roundw
            case rel => exact ⟨i + 1, by go_num, by omega, by rw [HNEXT.out, HN.out]; exact HST.out⟩
            case measure => simp [intOf]; omega
          have hb1 : decide (x.wants < (r0 : Int) + 1) = false := decide_eq_false h1
          by_cases h2 : oi ≠ (r0 : Int)
          · have hb2 : (oi != (r0 : Int)) = true := by rw [bne_iff_ne]; exact h2
            have HN := Lib.hid (show stepI xs H ((r0 : Int) + 1) out i = out by unfold stepI; rw [if_pos (.inr (by rw [HOI.out]; omega))])
            clear h1 h2
            go_wp2_with fail
            go_roundw
            case rel => exact ⟨i + 1, by go_num, by omega, by rw [HNEXT.out, HN.out]; exact HST.out⟩
            case measure => simp [intOf]; omega
          obtain rfl : oi = (r0 : Int) := by omega
          have HST1 := Lib.hid (show stepI xs H ((r0 : Int) + 1) out i = if fea xs H (-1) (out.set i (out.getD i 0 + 1)) = true then out.set i (out.getD i 0 + 1) else out by
            unfold stepI
            rw [if_neg (by rw [HXW.out, HOI.out]; omega)])
          clear h1 h2
          go_upto_region 10 with fail
          have ARG : ∀ Wx bt, Below wr.heap.size wr Wx → wr.heap.size ≤ bt → Blk Wx bt 4 (bits24 0) →
              Calls Try.prog 101 #[.agg #[.int .i64 H, .slice (some ⟨ab, ao, none⟩) n cc], .agg #[.slice P H pc], .int .i64 i, .slice (some ⟨bt, 0, none⟩) 24 24] Wx (GivePost bt n H xs P i 0 wh Wx) := by
            intro Wx bt g hbt hb
            have hA : ∀ b o, (some ⟨ab, ao, none⟩ : Option Addr) = some ⟨b, o, none⟩ → 0 < n → b < w.heap.size := fun b o e h => by
              obtain ⟨b', o', x', e', hl, -⟩ := HA.out.at h
              rw [e] at e'; cases e'; exact hl
            have hgs := HG.out.size
            refine giveRef_any bt n cc H (some ⟨ab, ao, none⟩) xs hH (fun b o e => ?_) HHR.out _ Wx i 0 wh P pc (Nat.le_refl _) ((HA.out.below HG.out).below g) (HP.out.below g) (fun b o e => ?_) hb HASG.out (Nat.two_pow_pos _) hin
            · have := hA b o e (by omega)
              omega
            · have := HPB.out b o e
              omega
          have TH := Three.of (V := wr) ARG
          have CA := Lib.hid TH.a
          have CB := Lib.hid TH.b
          have CC := Lib.hid TH.c
          have BA := Lib.hid (three_box_a wr)
          have BB := Lib.hid (three_box_b wr)
          have GA := Lib.hid (show Below wr.heap.size wr ((wr.alloc (.cells #[.slice none 0 0] 90)).alloc (.cells (bits24 0) 4)).drew from (two_more _ _ _).drew)
          have GB := Lib.hid (show Below wr.heap.size wr ((wr.alloc (.cells (bits24 0) 4)).alloc (.cells #[.slice none 0 0] 90)).drew from (two_more _ _ _).drew)
          have GC := Lib.hid (show Below wr.heap.size wr (wr.alloc (.cells (bits24 0) 4)).drew from (one_more _ _).drew)
          have HPL := Lib.hid (show ∀ b o, P = some ⟨b, o, none⟩ → b < wr.heap.size from fun b o e => (HPB.out b o e).2.2)
          have hmk := make24
          have K0 : ∀ Wx, Below wr.heap.size wr Wx → (Wx.cell? ⟨bm, 0, none⟩ = some (.int .i64 H) ∧ Wx.cell? ⟨bm, 1, none⟩ = some ((.slice (some ⟨ab, ao, none⟩) n cc)) ∧ Wx.cell? ⟨b4, 0, none⟩ = some (.slice P H pc)) :=
            fun Wx f => ⟨(C1.out.ext f).cell 0, (C1.out.ext f).cell 1, (C3.out.ext f).cell 0⟩
          have HK0 := Lib.hid K0
          clear K0 TH ARG m0 m1 p0
          have KA := Lib.hid (HK0.out _ GA.out)
          have KB := Lib.hid (HK0.out _ GB.out)
          have KC := Lib.hid (HK0.out _ GC.out)
          go_cut [8, 9] from 48 to 55 (SrvEnd n H xs P i wh wr)
          case first =>
            go_region_held3 (fun w' => w'.cell? ⟨bm, 0, none⟩ = some (.int .i64 H) ∧ w'.cell? ⟨bm, 1, none⟩ = some ((.slice (some ⟨ab, ao, none⟩) n cc)) ∧ w'.cell? ⟨b4, 0, none⟩ = some (.slice P H pc))
              (first
                | exact KA.out
                | exact KB.out
                | exact KC.out
                | exact KW.out
                | exact KX.out
                | exact KY.out
                | exact HK0.out _ (one_more _ _).drew
                | exact HK0.out _ (Below.refl _ _).drew
                | go_keep)
              (first
              | (go_at_call 101; (with_reducible refine CA.out.mono ?_); rintro e wa ⟨fa, P', pc', ok, s', wh', rfl, ia, na, -, -, -, ht, hf⟩; have n9 := (fa.blk BA.out (by omega) (by omega)).cell 0; have n9f := (fa.blk BA.out (by omega) (by omega)).frozen 0; have g9 := Fix.calm GA.out fa (by omega); have KW := Lib.hid (HK0.out _ g9); have KX := Lib.hid (HK0.out _ (g9.setCell (p := ⟨wr.heap.size, 0, none⟩) (Nat.le_refl _) (.slice P' H pc'))); have EA := Lib.hid (SrvEnd.mkA pc' wr.heap.size GA.out (by omega) (by omega) (by omega) BA.out HPL.out HASG.out hin fa ia na ht hf); clear fa ia na ht hf g9)
              | (go_at_call 101; (with_reducible refine CB.out.mono ?_); rintro e wa ⟨fa, P', pc', ok, s', wh', rfl, ia, na, -, -, -, ht, hf⟩; have n9 := (fa.blk BB.out (by omega) (by omega)).cell 0; have n9f := (fa.blk BB.out (by omega) (by omega)).frozen 0; have g9 := Fix.calm GB.out fa (Nat.le_refl _); have KW := Lib.hid (HK0.out _ g9); have KX := Lib.hid (HK0.out _ (g9.setCell (p := ⟨wr.heap.size + 1, 0, none⟩) (Nat.le_succ _) (.slice P' H pc'))); have EA := Lib.hid (SrvEnd.mkA pc' (wr.heap.size + 1) GB.out (Nat.le_refl _) (Nat.le_succ _) (by omega) BB.out HPL.out HASG.out hin fa ia na ht hf); clear fa ia na ht hf g9)
              | (go_at_call 101; (with_reducible refine CC.out.mono ?_); rintro e wa ⟨fa, P', pc', ok, s', wh', rfl, ia, na, -, -, -, ht, hf⟩; have g9 := Fix.calm GC.out fa (Nat.le_refl _); have KW := Lib.hid (HK0.out _ g9); have KX := Lib.hid (HK0.out _ (g9.trans ((one_more wa (.cells #[.slice P' H pc'] 90)).mono g9.size))); have KY := Lib.hid (HK0.out _ (g9.trans ((one_more wa (.cells #[.slice none 0 0] 90)).mono g9.size))); have EA := Lib.hid (SrvEnd.mkB pc' GC.out (Nat.le_refl _) HASG.out hin fa ia na ht hf); clear fa ia na ht hf g9))
            all_goals (try go_wp2_with fail)
            all_goals go_meet
            all_goals exact EA.out
          case rest =>
            obtain ⟨b10, P', pc', ok, wh', rfl, rfl, gw, hb10, bw, iw, nw, aw, htw, hfw⟩ := hcut
            have e1 := C1.out.ext gw
            have e2 := C2.out.ext gw
            have e3 := C3.out.ext gw
            have x10 := bw.cell 0
            have y6 := e3.cell 0
            have y6f := e3.frozen 0
            have hlo := hlt.out
            have hgw := gw.size
            have GW := Lib.hid (show Below w.heap.size w wc from HG.out.trans (gw.mono HG.out.size))
            have E1 := Lib.hid e1
            have E2 := Lib.hid e2
            have E3 := Lib.hid e3
            have IW := Lib.hid iw
            have NW := Lib.hid nw
            have AW := Lib.hid aw
            have HTW := Lib.hid htw
            have HFW := Lib.hid hfw
            have hg2 := gw
            have HSTW := Lib.hid (show HrSt w bm bo b4 n cc H (some ⟨ab, ao, none⟩) xs out wc from ⟨P, pc, wh, GW.out, E1.out, E2.out, E3.out, HP.out.below hg2, fun b o e => by obtain ⟨q1, q2, q3⟩ := HPB.out b o e; exact ⟨q1, q2, by omega⟩, HASG.out, HCNT.out⟩)
            clear gw bw iw nw aw htw hfw e1 e2 e3 CA CB CC BA BB GA GB GC KA KB KC HK0 hmk hg2
            cases ok with
            | false =>
              obtain ⟨rfl, s', hstep⟩ := HFW.out (by trivial)
              have HNO := Lib.hid (more_no hlen.out HOL.out HASG.out hin HCNT.out hstep)
              clear hstep
              go_wp2_with fail
              go_roundw
              case rel => exact ⟨i + 1, by go_num, by omega, by rw [HNEXT.out, HST1.out, HNO.out]; exact HSTW.out⟩
              case measure => simp [intOf]; omega
            | true =>
              obtain ⟨hy, hcy⟩ := more_yes hlen.out HOL.out AW.out hin HCNT.out (HTW.out (by trivial))
              have hb4' : ∀ b o, P' = some ⟨b, o, none⟩ → b ≠ b4 ∧ b ≠ bo ∧ b < wc.heap.size := by
                intro b o e
                have hH0 : 0 < H := by
                  rcases Nat.eq_zero_or_pos H with h0 | h0
                  · exfalso
                    have h1 := HTW.out (by trivial) i
                    rw [if_pos rfl] at h1
                    have h2 := List.count_le_length (a := (i : Int)) (l := wh')
                    rw [AW.out.len] at h2
                    omega
                  · exact h0
                obtain ⟨b', o', x', e', hl, -⟩ := IW.out.at hH0
                rw [e] at e'; cases e'
                rcases NW.out b o e with h | h
                · obtain ⟨q1, q2, q3⟩ := HPB.out b o (by rw [← h]; exact e)
                  exact ⟨q1, q2, hl⟩
                · exact ⟨by omega, by omega, hl⟩
              have f1 := (E2.out.far (p := ⟨b4, 0, none⟩) (by simp; omega) (.slice P' H pc')).cell i
              have f2 := (E2.out.far (p := ⟨b4, 0, none⟩) (by simp; omega) (.slice P' H pc')).frozen i
              have hoe : out[i]? = some (r0 : Int) := by rw [← HOI.out, List.getD_eq_getElem?_getD, List.getElem?_eq_getElem (by rw [HOL.out]; omega)]; rfl
              rw [vals_get, hoe] at f1
              have HY := Lib.hid hy
              have HCY := Lib.hid hcy
              have HB4 := Lib.hid hb4'
              clear hy hcy hb4' hoe
              go_wp2_with fail
              have NEXT : HrSt w bm bo b4 n cc H (some ⟨ab, ao, none⟩) xs (out.set i (out.getD i 0 + 1)) ((wc.setCell ⟨b4, 0, none⟩ (.slice P' H pc')).setCell ⟨bo, i, none⟩ (.int .i64 ((r0 : Int) + 1))) := by
                have q := ((E2.out.far (p := ⟨b4, 0, none⟩) (by simp; omega) (.slice P' H pc')).set_ i (.int .i64 ((r0 : Int) + 1)))
                rw [vals_set] at q
                refine ⟨P', pc', wh', (GW.out.setCell (p := ⟨b4, 0, none⟩) (by rw [HBM.out]; dsimp only; omega) _).setCell (p := ⟨bo, i, none⟩) (by rw [HBM.out]; dsimp only; omega) _, (E1.out.far (by simp; omega) _).far (by simp; omega) _, by rw [HOI.out]; exact q, (E3.out.set_ 0 _).far (by simp; omega) _, ?_, fun b o e => by rw [World.size_setCell, World.size_setCell]; exact HB4.out b o e, AW.out, HCY.out⟩
                refine Arr.fix (Arr.fix IW.out ((Fix.refl b4 b4 wc).setCell (p := ⟨b4, 0, none⟩) (.inl rfl) _) (fun b o e _ => by have := HB4.out b o e; omega)) ((Fix.refl bo bo _).setCell (p := ⟨bo, i, none⟩) (.inl rfl) _) (fun b o e _ => by have := HB4.out b o e; omega)
              have HN := Lib.hid NEXT
              clear NEXT
              go_roundw
              case rel => exact ⟨i + 1, by go_num, by omega, by rw [HNEXT.out, HST1.out, if_pos HY.out]; exact HN.out⟩
              case measure => simp [intOf]; omega
        · obtain rfl : n = i := by omega
          have HN := Lib.hid (show HrSt w bm bo b4 n cc H A xs (turnsT xs H (r0 + 1)) wr from ⟨P, pc, wh, hg, c1, by unfold turnsT; rw [hlen.out]; exact c2, c3, hp, hpb, hasg, by unfold turnsT; rw [hlen.out]; exact hcnt⟩)
          clear hg c1 c2 c3 hp hpb hasg hcnt p0
          go_wp2_with fail
          go_roundw
          case rel => exact ⟨r0 + 1, by go_num, by omega, HN.out⟩
          case measure => simp [intOf]; omega
    · obtain rfl : r0 = 24 := by omega
      obtain ⟨P, pc, wh, hg, c1, c2, c3, -, -, -, -⟩ := HS.out
      have HG := Lib.hid hg
      have C2 := Lib.hid c2
      clear hg c1 c2 c3
      go_wp2_with fail
      go_ret
      exact ⟨⟨bo, rfl, by rw [HBM.out]; omega, C2.out⟩, HG.out⟩
end Go.Proofs.Ytdhhneflhmkonaa
