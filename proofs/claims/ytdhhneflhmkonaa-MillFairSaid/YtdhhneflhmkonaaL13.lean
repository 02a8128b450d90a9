/- The law MillServed. -/
import Derived.Test.YtdhhneflhmkonaaD3
import Derived.Test.YtdhhneflhmkonaaM2
import Derived.Test.YtdhhneflhmkonaaE3
namespace Go.Proofs.Ytdhhneflhmkonaa
open Go.RowKit Go.Shelf

def demF (l : List Int) (i : Nat) : Int := if i < l.length then l.getD i 0 % 5 else 0
def demL (l : List Int) : Nat → List Int
  | 0 => []
  | k + 1 => demL l k ++ [demF l k]
theorem demL_len (l : List Int) : ∀ k, (demL l k).length = k
  | 0 => rfl
  | k + 1 => by rw [demL, List.length_append, demL_len l k]; rfl
theorem demL_bd (l : List Int) : ∀ k, ∀ x ∈ demL l k, 0 ≤ x ∧ x ≤ 24
  | 0 => by simp [demL]
  | k + 1 => by
    intro x hx
    rcases List.mem_append.1 hx with h | h
    · exact demL_bd l k x h
    · rw [List.mem_singleton.1 h]
      unfold demF
      split
      · omega
      · omega
theorem isDem_mk {xs : List Comer} {l : List Int} (h1 : l.length = xs.length) (h2 : ∀ x ∈ l, 0 ≤ x ∧ x ≤ 24) : isDem xs l = true := by
  unfold isDem badD
  rw [Bool.and_eq_true]
  refine ⟨by simpa using h1, ?_⟩
  rw [Bool.not_eq_true', List.any_eq_false]
  intro x hx
  have := h2 x hx
  simp [rng]; omega
def oneL (xs : List Comer) (k : Nat) : List Int := ((xs.take k).map fun c => min 1 c.wants) ++ List.replicate (xs.length - k) 0
theorem oneL_set {xs : List Comer} {k : Nat} {x : Comer} (hx : xs[k]? = some x) : (oneL xs k).set k (min 1 x.wants) = oneL xs (k + 1) := by
  have hk : k < xs.length := (List.getElem?_eq_some_iff.1 hx).1
  unfold oneL
  have hl : ((xs.take k).map fun c => min 1 c.wants).length = k := by rw [List.length_map, List.length_take]; omega
  rw [List.set_append_right _ _ (by rw [hl]; exact Nat.le_refl _), hl, Nat.sub_self, List.take_add_one, hx, show xs.length - k = (xs.length - (k + 1)) + 1 by omega, List.replicate_succ]
  simp
theorem oneL_end (xs : List Comer) : oneL xs xs.length = capped xs 1 := by
  unfold oneL capped
  rw [List.take_length, Nat.sub_self]
  simp
theorem oneL_len {xs : List Comer} {k : Nat} (hk : k ≤ xs.length) : (oneL xs k).length = xs.length := by
  unfold oneL
  rw [List.length_append, List.length_map, List.length_take, List.length_replicate]; omega
theorem capped_dem {h : Int} {xs : List Comer} (k : Ok h xs) : isDem xs (capped xs 1) = true := by
  refine isDem_mk (by unfold capped; rw [List.length_map]) fun x hx => ?_
  obtain ⟨c, hc, rfl⟩ := List.mem_map.1 hx
  obtain ⟨i, hi, rfl⟩ := List.getElem_of_mem hc
  obtain ⟨h1, -, -⟩ := k.com i _ (List.getElem?_eq_getElem hi)
  simp [isComer, rng] at h1
  omega
theorem demE_mk {h : Int} {xs : List Comer} {l : List Int} (k : Ok h xs) (hd : isDem xs l = true) : demE xs h l = 0 := by
  unfold demE
  rw [if_pos ((okMill_iff h xs).2 k), if_pos hd]

theorem dem_pos {xs : List Comer} {d : List Int} (h : isDem xs d = true) : d.length = xs.length ∧ ∀ x ∈ d, 0 ≤ x := by
  unfold isDem badD at h
  rw [Bool.and_eq_true, Bool.not_eq_true', List.any_eq_false] at h
  obtain ⟨h1, h2⟩ := h
  refine ⟨by simpa using h1, fun x hx => ?_⟩
  have := h2 x hx
  simp [rng] at this
  omega
theorem crowE_ok {H : Nat} {xs : List Comer} {d : List Int} (hok : Ok (H : Int) xs) (hd : isDem xs d = true) : crowE xs H d = if fea xs H (-1) d = true then 55 else 0 := by
  unfold crowE
  rw [if_pos (demE_mk hok hd)]; rfl
theorem crowdErr_yes {H : Nat} {xs : List Comer} {d : List Int} (hok : Ok (H : Int) xs) (hH : H ≤ 24) (hd : isDem xs d = true) (h : fea xs H (-1) d = true) (F : List Int) : crowdErr xs H d F = 54 := by
  unfold crowdErr
  rw [if_pos (demE_mk hok hd), crowd_no (dem_pos hd).1 (dem_pos hd).2 hH h]; rfl
theorem serves_ok (A D : Option Addr) (n cc m cd H : Nat) (xs : List Comer) (l : List Int) (w : World) (ha : Arr ccells 3 w A n xs) (hnc : n ≤ cc) (hd : Ints w D m l) (hm : m ≤ 9223372036854775807) (hn : n ≤ 9223372036854775807)
    (hok : Ok (H : Int) xs) (hl : isDem xs l = true) :
    Calls Try.prog 45 #[.agg #[.int .i64 H, .slice A n cc], .slice D m cd] w fun e w' => e = .returned (.tuple #[.bool (fea xs H (-1) l), .int .i64 0]) ∧ Below w.heap.size w w' := by
  have h := Serves_any A D n cc m cd H xs l w ha hnc hd hm hn
  rw [show servesS xs H l = fea xs H (-1) l by unfold servesS; rw [demE_mk hok hl]; rfl, demE_mk hok hl] at h
  exact h
def CrowOk (xs : List Comer) (H : Nat) (l : List Int) (fb : Bool) (w : World) (e : Ending) (w' : World) : Prop :=
  Below w.heap.size w w' ∧ ∃ D c F, e = .returned (.tuple #[.slice D F.length c, .int .i64 (if fb = true then 55 else 0)]) ∧ Ints w' D F.length F ∧ F.length ≤ 12 ∧ (fb = false → crowdErr xs H l F = 0)
theorem crowOk_of {xs : List Comer} {H : Nat} {l : List Int} {er : Int} {w : World} {e : Ending} {w' : World} (he : er = if fea xs H (-1) l = true then 55 else 0) (h : CrowPost xs H l er w e w') : CrowOk xs H l (fea xs H (-1) l) w e w' := by
  obtain ⟨h1, D, c, F, h2, h3, h4, -, h5⟩ := h
  exact ⟨h1, D, c, F, by rw [← he]; exact h2, h3, h4, fun q => h5 (by rw [he, q]; rfl)⟩
theorem crowd_ok (A D : Option Addr) (n cc m cd H : Nat) (xs : List Comer) (l : List Int) (w : World) (ha : Arr ccells 3 w A n xs) (hnc : n ≤ cc) (hd : Ints w D m l) (hm : m ≤ 9223372036854775807) (hn : n ≤ 9223372036854775807)
    (hok : Ok (H : Int) xs) (hl : isDem xs l = true) :
    Calls Try.prog 56 #[.agg #[.int .i64 H, .slice A n cc], .slice D m cd] w (CrowOk xs H l (fea xs H (-1) l) w) :=
  (Crowd_any A D n cc m cd H xs l w ha hnc hd hm hn).mono fun _ _ h => crowOk_of (crowE_ok hok hl) h
theorem unserved_ok (A : Option Addr) (n cc H : Nat) (xs : List Comer) (w : World) (ha : Arr ccells 3 w A n xs) (hnc : n ≤ cc) (hn : n ≤ 9223372036854775807) (hok : Ok (H : Int) xs) :
    Calls Try.prog 57 #[.agg #[.int .i64 H, .slice A n cc]] w (CrowOk xs H (capped xs 1) (fea xs H (-1) (capped xs 1)) w) :=
  (Unserved_any A n cc H xs w ha hnc hn).mono fun _ _ h => crowOk_of (by unfold unsE; rw [if_pos ((okMill_iff _ xs).2 hok)]; exact crowE_ok hok (capped_dem hok)) h

abbrev two (A0 : Option Addr) (n0 c0 : Nat) (A1 : Option Addr) (n1 c1 : Nat) : Value := .agg #[.slice A0 n0 c0, .slice A1 n1 c1]

set_option maxRecDepth 100000 in
set_option maxHeartbeats 8000000 in
theorem law13_any (n : Int) (A A0 A1 : Option Addr) (m c n0 c0 n1 c1 : Nat) (l : List Pr) (x0 x1 : List Int) (w : World) (ha : Arr pcells 2 w A m l) (hm : m ≤ 9223372036854775807)
    (h0 : Ints w A0 n0 x0) (hn0 : n0 ≤ 9223372036854775807) (h1 : Ints w A1 n1 x1) (hn1 : n1 ≤ 9223372036854775807) :
    Calls Try.prog 13 #[.int .i64 n, .slice A m c, two A0 n0 c0 A1 n1 c1] w fun e w' => e = .returned (.bool true) ∧ Below w.heap.size w w' := by
  have HA := Lib.hid ha
  have HX0 := Lib.hid h0
  have HX1 := Lib.hid h1
  have hl0 := Lib.hid h0.1
  have HOK := Lib.hid (made_ok n l)
  have hHle := madeH_le n
  have HMX := Lib.hid (fun W (g : Below w.heap.size w W) => made_any n A m c l W (HA.out.below g) hm)
  generalize madeX n l = xs at HOK HMX
  generalize madeH n = H at HOK hHle HMX
  clear ha h0 h1
  have hx12 : xs.length ≤ 12 := HOK.out.n12
  obtain ⟨q, hq⟩ : ∃ q, xs.length = q := ⟨_, rfl⟩
  rw [hq] at hx12
  unfold two
  go_enter Try.func13, Try.ntmps13
  go_wp2_with fail
  generalize hW1 : w.alloc (.cells #[.slice A0 n0 c0, .slice A1 n1 c1] 77) = W1
  have b1 : Blk W1 w.heap.size 77 #[.slice A0 n0 c0, .slice A1 n1 c1] := by rw [← hW1]; exact Blk.new _ _ _
  have g1 : Below w.heap.size w W1 := by rw [← hW1]; exact one_more _ _
  clear hW1
  refine (HMX.out W1 g1).mono ?_
  rintro e W2 ⟨g2, B, cb, rfl, hcb, hcm, hb2, hfr⟩
  have b2 := b1.ext g2
  have G2 := Lib.hid (extTrans g1 g2)
  rw [hq] at hb2 hcb ⊢
  unfold mv
  obtain ⟨W3, hW3⟩ : ∃ W3, W2.alloc (.cells #[.int .i64 H, .slice B q cb] 24) = W3 := ⟨_, rfl⟩
  have b3 : Blk W3 W2.heap.size 24 #[.int .i64 H, .slice B q cb] := by rw [← hW3]; exact Blk.new _ _ _
  have g3 : Below W2.heap.size W2 W3 := by rw [← hW3]; exact one_more _ _
  have m1 := b3.cell 1
  have hmk := fun w => run_make_row' (P := Try.prog) 28 3 (.int .i64 0) 8 (by kernel_rfl) (by kernel_rfl) (by simp [Value.cells]) .i64 .i64 q (by omega) (by omega) w
  go_wp2_with fail
  generalize hW4 : W3.alloc (.cells (madeCells #[.int .i64 0] q) 3) = W4
  have b4 : Blk W4 W3.heap.size 3 (vals (oneL xs 0)) := by
    rw [← hW4, made_vals, show oneL xs 0 = List.replicate q 0 by unfold oneL; rw [hq]; rfl]; exact Blk.new _ _ _
  have g4 : Below W3.heap.size W3 W4 := by rw [← hW4]; exact one_more _ _
  have s4 : W3.heap.size < W4.heap.size := by rw [← hW4, World.size_alloc]; omega
  have HB4 := Lib.hid b4
  have HG4 := Lib.hid g4
  have HM := Lib.hid b3
  have HR := Lib.hid ((b1.ext g2).ext g3)
  have G3 := Lib.hid (extTrans G2.out g3)
  have HA3 := Lib.hid (hb2.below g3)
  have sz3 : w.heap.size < W2.heap.size ∧ W2.heap.size < W3.heap.size := by
    refine ⟨b2.lt, b3.lt⟩
  have HX := Lib.hid (HX0.out.below G3.out)
  have HX1' := Lib.hid (HX1.out.below G3.out)
  have hl := Lib.hid (show x0.length = n0 from hl0.out)
  obtain ⟨br, hbr⟩ : ∃ br, w.heap.size = br := ⟨_, rfl⟩
  obtain ⟨bm, hbm⟩ : ∃ bm, W2.heap.size = bm := ⟨_, rfl⟩
  obtain ⟨bo, hbo⟩ : ∃ bo, W3.heap.size = bo := ⟨_, rfl⟩
  rw [hbr] at HR sz3
  rw [hbm] at HM sz3
  rw [hbo] at sz3 s4 HB4 HG4
  rw [hbr, hbm, hbo]
  have HBR := Lib.hid hbr
  have HBO := Lib.hid hbo
  clear hW4 b4 g4 b1 g2 b2 g3 b3 m1 hmk hW3 hbr hbm hbo hb2 g1 HMX
  obtain ⟨z1, z2⟩ := sz3
  go_loopw [8, 10] (fun v i wr => ∃ k : Nat, i = .int .i64 k ∧ k ≤ q ∧ Below bo W3 wr ∧ bo + 1 ≤ wr.heap.size ∧ Own wr (bo + 1) v (demL x0 k) ∧ Blk wr bo 3 (vals (oneL xs k))) (fun _ i _ => q - (intOf i).toNat)
  case atStart => exact ⟨0, rfl, Nat.zero_le _, HG4.out, s4, Own.nil _ _, HB4.out⟩
  case round =>
    obtain ⟨k, rfl, hk, hg, hsz, hown, hone⟩ := hrel
    rw [← HBO.out] at hg
    have m1 := (HM.out.ext hg).cell 1
    have rr0 := (HR.out.ext hg).cell 0
    have HGr := Lib.hid hg
    have HO := Lib.hid hown
    have H1 := Lib.hid hone
    by_cases hkq : k < q
    · obtain ⟨b, o, x, rfl, hb, hx, hc⟩ := comer_at HA3.out hkq
      have hcx : ∀ w', Below W3.heap.size W3 w' → w'.cell? ⟨b, o + k * 3 + 2, none⟩ = some (.int .i64 x.wants) := fun w' g => (hc w' g).2.2
      have hxw := hcx wr hg
      have HX' := Lib.hid hx
      have HNO := Lib.hid (oneL_set hx)
      have hlo : k < (oneL xs k).length := by rw [oneL_len (by omega), hq]; exact hkq
      have HLO := Lib.hid hlo
      have HL100 : (demL x0 k).length < 100000 := by rw [demL_len]; omega
      have HND := Lib.hid (show demL x0 (k + 1) = demL x0 k ++ [demF x0 k] from rfl)
      obtain ⟨vo, hvo⟩ : ∃ vo, (oneL xs k)[k]? = some vo := ⟨_, List.getElem?_eq_getElem hlo⟩
      have HVO := Lib.hid hvo
      clear hg hown hone hx hlo hvo hc
      have HEND : ∀ (y : Int) (v' : Value) (w' : World), demF x0 k = y → Own w' (bo + 1) v' (demL x0 k ++ [y]) → (∀ B, B ≤ bo + 1 → Below B (wr.alloc (.cells #[.int .i64 y] 3)) w') →
          Blk w' bo 3 (vals (oneL xs k)) ∧ Below W3.heap.size W3 w' ∧ bo + 1 ≤ w'.heap.size ∧ Own (w'.setCell ⟨bo, k, none⟩ (.int .i64 (min 1 x.wants))) (bo + 1) v' (demL x0 (k + 1)) ∧
            Blk (w'.setCell ⟨bo, k, none⟩ (.int .i64 (min 1 x.wants))) bo 3 (vals (oneL xs (k + 1))) := by
        intro y v' w' hy ho hbw
        have hB : Blk w' bo 3 (vals (oneL xs k)) := ((hbw _ (Nat.le_refl _)).block bo (by omega)).trans (H1.out.ext (one_more _ _))
        have hz := (hbw _ (Nat.le_refl _)).size
        rw [World.size_alloc] at hz
        refine ⟨hB, HGr.out.trans (((one_more wr _).mono HGr.out.size).trans (hbw _ (by rw [HBO.out]; omega))), by omega, ?_, ?_⟩
        · rw [HND.out, hy]; exact ownsRow_setCell_below ho (Nat.lt_succ_self bo) _
        · have := hB.set_ k (.int .i64 (min 1 x.wants))
          rw [vals_set, HNO.out] at this
          exact this
      have HE := Lib.hid HEND
      clear HEND
      by_cases hk0 : k < n0
      · obtain ⟨b0, o0, rfl, hbl0, hmem, hc0⟩ := ints_at (HX.out.below HGr.out) hk0
        have d0 := hc0 _ (Below.refl _ _)
        obtain ⟨y, hy⟩ : ∃ y, x0.getD k 0 = y := ⟨_, rfl⟩
        rw [hy] at d0
        have HY := Lib.hid (show demF x0 k = y % 5 by unfold demF; rw [hl.out, if_pos hk0, hy])
        have T1 := Lib.hid (fun W => mod_any y 5 W (by decide) (by decide))
        clear hc0 hmem hy
        go_wp2_with (first
          | (go_at_call 32; (with_reducible refine (T1.out _).mono ?_); rintro e w' ⟨rfl, rfl⟩)
          | (at_builtin; refine push_int rfl _ _ rfl (bo + 1) _ (demL x0 k) rfl (HO.out.ext (one_more _ _)) _ _ _ _ rfl rfl (cell_new1 _ _ _ _ rfl) HL100 (by simp; omega) ?_; intro v' w' ho hbw; obtain ⟨b5, g5, s5, o6, b6⟩ := HE.out _ v' w' HY.out ho hbw; have e1 := (HM.out.ext g5).cell 1; have e2 := hcx w' g5; have e3 := b5.cell k; have e4 := b5.frozen k; rw [vals_get, HVO.out] at e3; have O6 := Lib.hid o6; have B6 := Lib.hid b6; have G6 := Lib.hid g5; clear o6 b6 g5 ho hbw b5))
        all_goals
          go_roundw
          case rel => exact ⟨k + 1, by go_num, by omega, (G6.out.mono (Nat.le_of_eq HBO.out.symm)).setCell (Nat.le_refl _) _, by rw [World.size_setCell]; exact s5, O6.out, B6.out⟩
          case measure => simp [intOf]; omega
      · have HY := Lib.hid (show demF x0 k = 0 by unfold demF; rw [hl.out, if_neg hk0])
        go_wp2_with (first
          | (at_builtin; refine push_int rfl _ _ rfl (bo + 1) _ (demL x0 k) rfl (HO.out.ext (one_more _ _)) _ _ _ _ rfl rfl (cell_new1 _ _ _ _ rfl) HL100 (by simp; omega) ?_; intro v' w' ho hbw; obtain ⟨b5, g5, s5, o6, b6⟩ := HE.out _ v' w' HY.out ho hbw; have e1 := (HM.out.ext g5).cell 1; have e2 := hcx w' g5; have e3 := b5.cell k; have e4 := b5.frozen k; rw [vals_get, HVO.out] at e3; have O6 := Lib.hid o6; have B6 := Lib.hid b6; have G6 := Lib.hid g5; clear o6 b6 g5 ho hbw b5))
        all_goals
          go_roundw
          case rel => exact ⟨k + 1, by go_num, by omega, (G6.out.mono (Nat.le_of_eq HBO.out.symm)).setCell (Nat.le_refl _) _, by rw [World.size_setCell]; exact s5, O6.out, B6.out⟩
          case measure => simp [intOf]; omega
    · obtain rfl : k = q := by omega
      rw [show oneL xs k = capped xs 1 by rw [← hq]; exact oneL_end xs] at hone
      have hcl : (capped xs 1).length = k := by unfold capped; rw [List.length_map, hq]
      obtain ⟨D, cd, rfl, hi⟩ := hown.ints
      rw [demL_len] at hi ⊢
      have HI := Lib.hid hi
      have HJ := Lib.hid (hone.intsN hcl)
      have hD1 : isDem xs (demL x0 k) = true := isDem_mk (by rw [demL_len, hq]) (demL_bd x0 k)
      have HW := Lib.hid (extTrans G3.out hg)
      have HAw := Lib.hid (HA3.out.below hg)
      have HXw := Lib.hid (HX1'.out.below hg)
      have HMw := Lib.hid (HM.out.ext hg)
      have HRw := Lib.hid (HR.out.ext hg)
      have P1 := Lib.hid hD1
      generalize demL x0 k = d1 at HI P1 hD1
      obtain ⟨fb, hfb⟩ : ∃ fb, fea xs H (-1) d1 = fb := ⟨_, rfl⟩
      obtain ⟨gb, hgb⟩ : ∃ gb, fea xs H (-1) (capped xs 1) = gb := ⟨_, rfl⟩
      have S1 := Lib.hid (fun W (g : Below wr.heap.size wr W) => hfb ▸ serves_ok B D k cb k cd H xs d1 W (HAw.out.below g) hcb (HI.out.below g) (by omega) (by omega) HOK.out P1.out)
      have S2 := Lib.hid (fun W (g : Below wr.heap.size wr W) => hgb ▸ serves_ok B (some ⟨bo, 0, none⟩) k cb k k H xs (capped xs 1) W (HAw.out.below g) hcb (HJ.out.below g) (by omega) (by omega) HOK.out (capped_dem HOK.out))
      have C1 := Lib.hid (fun W (g : Below wr.heap.size wr W) => hfb ▸ crowd_ok B D k cb k cd H xs d1 W (HAw.out.below g) hcb (HI.out.below g) (by omega) (by omega) HOK.out P1.out)
      have C2 := Lib.hid (fun W (g : Below wr.heap.size wr W) => hgb ▸ unserved_ok B k cb H xs W (HAw.out.below g) hcb (by omega) HOK.out)
      have K1 := Lib.hid (fun W (g : Below wr.heap.size wr W) E q ce F (hF : Ints W E q F) (hq : q ≤ 9223372036854775807) => CheckCrowd_any B D E k cb k cd q ce H xs d1 F W (HAw.out.below g) hcb (HI.out.below g) hF (by omega) (by omega) hq)
      have K2 := Lib.hid (fun W (g : Below wr.heap.size wr W) E q ce F (hF : Ints W E q F) (hq : q ≤ 9223372036854775807) => CheckCrowd_any B (some ⟨bo, 0, none⟩) E k cb k k q ce H xs (capped xs 1) F W (HAw.out.below g) hcb (HJ.out.below g) hF (by omega) (by omega) hq)
      have Z1 := Lib.hid (fun h F => crowdErr_yes (F := F) HOK.out (by omega) P1.out (hfb.trans h))
      unfold mv at K1 K2
      have HBR' := Lib.hid (show br < wr.heap.size ∧ bm < wr.heap.size by omega)
      clear hg hown hone hi hcl hD1 HM HR HO H1 hfb hgb HG4 HB4 G2 hfr HA3 HX HX1' hl HA HX0 HX1 hl0
      have m0 := HMw.out.cell 0
      have m1' := HMw.out.cell 1
      clear rr0
      cases fb with
      | true =>
        have G0 := Lib.hid (Below.refl wr.heap.size wr)
        go_wp2_with fail
        refine (S1.out _ G0.out).mono ?_
        rintro e w1 ⟨rfl, g1⟩
        have G1 := Lib.hid (G0.out.trans (g1.mono G0.out.size))
        have a10 := (HMw.out.ext G1.out).cell 0
        have a11 := (HMw.out.ext G1.out).cell 1
        have r10 := (HRw.out.ext G1.out).cell 0
        have r11 := (HRw.out.ext G1.out).cell 1
        clear g1
        go_wp2_with fail
        refine (C1.out _ G1.out).mono ?_
        rintro e w2 ⟨g2, E2, c2, F2, rfl, hF2, hL2, hZ2⟩
        have G2 := Lib.hid (G1.out.trans (g2.mono G1.out.size))
        have a20 := (HMw.out.ext G2.out).cell 0
        have a21 := (HMw.out.ext G2.out).cell 1
        have r20 := (HRw.out.ext G2.out).cell 0
        have r21 := (HRw.out.ext G2.out).cell 1
        clear g2
        have HF2 := Lib.hid hF2
        have HZ2 := Lib.hid (hZ2 )
        clear hF2 hZ2
        have KX := K1.out _ G2.out A1 n1 c1 x1 (HXw.out.below G2.out) hn1
        rw [Z1.out (by trivial)] at KX
        go_wp2_with fail
        refine (KX).mono ?_
        rintro e w3 ⟨rfl, g3⟩
        have G3 := Lib.hid (G2.out.trans (g3.mono G2.out.size))
        have a30 := (HMw.out.ext G3.out).cell 0
        have a31 := (HMw.out.ext G3.out).cell 1
        have r30 := (HRw.out.ext G3.out).cell 0
        have r31 := (HRw.out.ext G3.out).cell 1
        clear g3
        cases gb with
        | true =>
          go_wp2_with fail
          refine (S2.out _ G3.out).mono ?_
          rintro e w4 ⟨rfl, g4⟩
          have G4 := Lib.hid (G3.out.trans (g4.mono G3.out.size))
          have a40 := (HMw.out.ext G4.out).cell 0
          have a41 := (HMw.out.ext G4.out).cell 1
          have r40 := (HRw.out.ext G4.out).cell 0
          have r41 := (HRw.out.ext G4.out).cell 1
          clear g4
          go_wp2_with fail
          refine (C2.out _ G4.out).mono ?_
          rintro e w5 ⟨g5, E5, c5, F5, rfl, hF5, hL5, hZ5⟩
          have G5 := Lib.hid (G4.out.trans (g5.mono G4.out.size))
          have a50 := (HMw.out.ext G5.out).cell 0
          have a51 := (HMw.out.ext G5.out).cell 1
          have r50 := (HRw.out.ext G5.out).cell 0
          have r51 := (HRw.out.ext G5.out).cell 1
          clear g5
          have HF5 := Lib.hid hF5
          have HZ5 := Lib.hid (hZ5 )
          clear hF5 hZ5
          go_wp2_with fail
          refine (sane_any _).mono ?_
          rintro e w6 ⟨rfl, g6⟩
          have G6 := Lib.hid (G5.out.trans (g6.mono G5.out.size))
          have a60 := (HMw.out.ext G6.out).cell 0
          have a61 := (HMw.out.ext G6.out).cell 1
          have r60 := (HRw.out.ext G6.out).cell 0
          have r61 := (HRw.out.ext G6.out).cell 1
          clear g6
          go_wp2_with fail
          go_ret
          exact ⟨rfl, HW.out.trans (G6.out.mono HW.out.size)⟩
        | false =>
          go_wp2_with fail
          refine (S2.out _ G3.out).mono ?_
          rintro e w4 ⟨rfl, g4⟩
          have G4 := Lib.hid (G3.out.trans (g4.mono G3.out.size))
          have a40 := (HMw.out.ext G4.out).cell 0
          have a41 := (HMw.out.ext G4.out).cell 1
          have r40 := (HRw.out.ext G4.out).cell 0
          have r41 := (HRw.out.ext G4.out).cell 1
          clear g4
          go_wp2_with fail
          refine (C2.out _ G4.out).mono ?_
          rintro e w5 ⟨g5, E5, c5, F5, rfl, hF5, hL5, hZ5⟩
          have G5 := Lib.hid (G4.out.trans (g5.mono G4.out.size))
          have a50 := (HMw.out.ext G5.out).cell 0
          have a51 := (HMw.out.ext G5.out).cell 1
          have r50 := (HRw.out.ext G5.out).cell 0
          have r51 := (HRw.out.ext G5.out).cell 1
          clear g5
          have HF5 := Lib.hid hF5
          have HZ5 := Lib.hid (hZ5 )
          clear hF5 hZ5
          have KF := K2.out _ G5.out E5 F5.length c5 F5 HF5.out (by omega)
          rw [HZ5.out (by trivial)] at KF
          go_wp2_with fail
          refine (KF).mono ?_
          rintro e w6 ⟨rfl, g6⟩
          have G6 := Lib.hid (G5.out.trans (g6.mono G5.out.size))
          have a60 := (HMw.out.ext G6.out).cell 0
          have a61 := (HMw.out.ext G6.out).cell 1
          have r60 := (HRw.out.ext G6.out).cell 0
          have r61 := (HRw.out.ext G6.out).cell 1
          clear g6
          go_wp2_with fail
          refine (sane_any _).mono ?_
          rintro e w7 ⟨rfl, g7⟩
          have G7 := Lib.hid (G6.out.trans (g7.mono G6.out.size))
          have a70 := (HMw.out.ext G7.out).cell 0
          have a71 := (HMw.out.ext G7.out).cell 1
          have r70 := (HRw.out.ext G7.out).cell 0
          have r71 := (HRw.out.ext G7.out).cell 1
          clear g7
          go_wp2_with fail
          go_ret
          exact ⟨rfl, HW.out.trans (G7.out.mono HW.out.size)⟩
      | false =>
        have G0 := Lib.hid (Below.refl wr.heap.size wr)
        go_wp2_with fail
        refine (S1.out _ G0.out).mono ?_
        rintro e w1 ⟨rfl, g1⟩
        have G1 := Lib.hid (G0.out.trans (g1.mono G0.out.size))
        have a10 := (HMw.out.ext G1.out).cell 0
        have a11 := (HMw.out.ext G1.out).cell 1
        have r10 := (HRw.out.ext G1.out).cell 0
        have r11 := (HRw.out.ext G1.out).cell 1
        clear g1
        go_wp2_with fail
        refine (C1.out _ G1.out).mono ?_
        rintro e w2 ⟨g2, E2, c2, F2, rfl, hF2, hL2, hZ2⟩
        have G2 := Lib.hid (G1.out.trans (g2.mono G1.out.size))
        have a20 := (HMw.out.ext G2.out).cell 0
        have a21 := (HMw.out.ext G2.out).cell 1
        have r20 := (HRw.out.ext G2.out).cell 0
        have r21 := (HRw.out.ext G2.out).cell 1
        clear g2
        have HF2 := Lib.hid hF2
        have HZ2 := Lib.hid (hZ2 )
        clear hF2 hZ2
        have KX := K1.out _ G2.out A1 n1 c1 x1 (HXw.out.below G2.out) hn1
        generalize crowdErr xs (H : Int) d1 x1 = ce at KX
        go_wp2_with fail
        refine (KX).mono ?_
        rintro e w3 ⟨rfl, g3⟩
        have hg3 := g3
        have G3 := Lib.hid (G2.out.trans (g3.mono G2.out.size))
        have a30 := (HMw.out.ext G3.out).cell 0
        have a31 := (HMw.out.ext G3.out).cell 1
        have r30 := (HRw.out.ext G3.out).cell 0
        have r31 := (HRw.out.ext G3.out).cell 1
        clear g3
        have KF := K1.out _ G3.out E2 F2.length c2 F2 (HF2.out.below (hg3)) (by omega)
        rw [HZ2.out (by trivial)] at KF
        go_wp2_with fail
        refine (KF).mono ?_
        rintro e w4 ⟨rfl, g4⟩
        have G4 := Lib.hid (G3.out.trans (g4.mono G3.out.size))
        have a40 := (HMw.out.ext G4.out).cell 0
        have a41 := (HMw.out.ext G4.out).cell 1
        have r40 := (HRw.out.ext G4.out).cell 0
        have r41 := (HRw.out.ext G4.out).cell 1
        clear g4
        cases gb with
        | true =>
          go_wp2_with fail
          refine (S2.out _ G4.out).mono ?_
          rintro e w5 ⟨rfl, g5⟩
          have G5 := Lib.hid (G4.out.trans (g5.mono G4.out.size))
          have a50 := (HMw.out.ext G5.out).cell 0
          have a51 := (HMw.out.ext G5.out).cell 1
          have r50 := (HRw.out.ext G5.out).cell 0
          have r51 := (HRw.out.ext G5.out).cell 1
          clear g5
          go_wp2_with fail
          refine (C2.out _ G5.out).mono ?_
          rintro e w6 ⟨g6, E6, c6, F6, rfl, hF6, hL6, hZ6⟩
          have G6 := Lib.hid (G5.out.trans (g6.mono G5.out.size))
          have a60 := (HMw.out.ext G6.out).cell 0
          have a61 := (HMw.out.ext G6.out).cell 1
          have r60 := (HRw.out.ext G6.out).cell 0
          have r61 := (HRw.out.ext G6.out).cell 1
          clear g6
          have HF6 := Lib.hid hF6
          have HZ6 := Lib.hid (hZ6 )
          clear hF6 hZ6
          go_wp2_with fail
          refine (sane_any _).mono ?_
          rintro e w7 ⟨rfl, g7⟩
          have G7 := Lib.hid (G6.out.trans (g7.mono G6.out.size))
          have a70 := (HMw.out.ext G7.out).cell 0
          have a71 := (HMw.out.ext G7.out).cell 1
          have r70 := (HRw.out.ext G7.out).cell 0
          have r71 := (HRw.out.ext G7.out).cell 1
          clear g7
          go_wp2_with fail
          go_ret
          exact ⟨rfl, HW.out.trans (G7.out.mono HW.out.size)⟩
        | false =>
          go_wp2_with fail
          refine (S2.out _ G4.out).mono ?_
          rintro e w5 ⟨rfl, g5⟩
          have G5 := Lib.hid (G4.out.trans (g5.mono G4.out.size))
          have a50 := (HMw.out.ext G5.out).cell 0
          have a51 := (HMw.out.ext G5.out).cell 1
          have r50 := (HRw.out.ext G5.out).cell 0
          have r51 := (HRw.out.ext G5.out).cell 1
          clear g5
          go_wp2_with fail
          refine (C2.out _ G5.out).mono ?_
          rintro e w6 ⟨g6, E6, c6, F6, rfl, hF6, hL6, hZ6⟩
          have G6 := Lib.hid (G5.out.trans (g6.mono G5.out.size))
          have a60 := (HMw.out.ext G6.out).cell 0
          have a61 := (HMw.out.ext G6.out).cell 1
          have r60 := (HRw.out.ext G6.out).cell 0
          have r61 := (HRw.out.ext G6.out).cell 1
          clear g6
          have HF6 := Lib.hid hF6
          have HZ6 := Lib.hid (hZ6 )
          clear hF6 hZ6
          have KF := K2.out _ G6.out E6 F6.length c6 F6 HF6.out (by omega)
          rw [HZ6.out (by trivial)] at KF
          go_wp2_with fail
          refine (KF).mono ?_
          rintro e w7 ⟨rfl, g7⟩
          have G7 := Lib.hid (G6.out.trans (g7.mono G6.out.size))
          have a70 := (HMw.out.ext G7.out).cell 0
          have a71 := (HMw.out.ext G7.out).cell 1
          have r70 := (HRw.out.ext G7.out).cell 0
          have r71 := (HRw.out.ext G7.out).cell 1
          clear g7
          go_wp2_with fail
          refine (sane_any _).mono ?_
          rintro e w8 ⟨rfl, g8⟩
          have G8 := Lib.hid (G7.out.trans (g8.mono G7.out.size))
          have a80 := (HMw.out.ext G8.out).cell 0
          have a81 := (HMw.out.ext G8.out).cell 1
          have r80 := (HRw.out.ext G8.out).cell 0
          have r81 := (HRw.out.ext G8.out).cell 1
          clear g8
          go_wp2_with fail
          go_ret
          exact ⟨rfl, HW.out.trans (G8.out.mono HW.out.size)⟩
end Go.Proofs.Ytdhhneflhmkonaa
