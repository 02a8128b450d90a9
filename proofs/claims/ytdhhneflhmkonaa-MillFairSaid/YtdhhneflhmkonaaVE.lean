/- The reference's barred (func 76). -/
import Derived.Test.YtdhhneflhmkonaaV6
namespace Go.Proofs.Ytdhhneflhmkonaa
open Go.RowKit Go.Shelf

def BarPost (h : Int) (b n : Nat) (xs : List Comer) (w : World) (e : Ending) (w' : World) : Prop :=
  Below w.heap.size w w' ∧ ∃ A c, e = .returned (mv A n c h) ∧ n ≤ c ∧ Arr ccells 3 w' A n (barL xs b)
def barC (b : Nat) (x : Comer) : Comer := { x with hours := ((x.hours.toNat ^^^ (x.hours.toNat &&& 2 ^ b) : Nat) : Int) }
theorem barL_snoc (xs : List Comer) (b : Nat) {k : Nat} {x : Comer} (hx : xs[k]? = some x) : (barL xs b).take (k + 1) = (barL xs b).take k ++ [barC b x] := by
  unfold barL
  rw [List.take_add_one, List.getElem?_map, hx]; rfl
theorem bar_val (x : Int) (b : Nat) (hx : 0 ≤ x ∧ x < 16777216) (hb : b < 24) : bits .andNot .i64 x (wrap64 (2 ^ b)) = ((x.toNat ^^^ (x.toNat &&& 2 ^ b) : Nat) : Int) := by
  have h1 : 2 ^ b < 2 ^ 24 := Nat.pow_lt_pow_right (by decide) hb
  have e : wrap64 ((2 : Int) ^ b) = ((2 ^ b : Nat) : Int) := by
    rw [show (2 : Int) ^ b = ((2 ^ b : Nat) : Int) by simp]; generalize 2 ^ b = q at h1 ⊢; exact IntWalk.wrap64_in _ ⟨by omega, by omega⟩
  obtain ⟨y, rfl⟩ : ∃ y : Nat, x = y := ⟨x.toNat, by omega⟩
  rw [e, Int.toNat_natCast]
  exact andNot64 y (2 ^ b) (by omega) (by omega)

set_option maxRecDepth 100000 in
set_option maxHeartbeats 4000000 in
theorem barred_any (A : Option Addr) (n cc b : Nat) (h : Int) (xs : List Comer) (w : World) (ha : Arr ccells 3 w A n xs) (hX : Hrs xs) (hb : b < 24) (hn : n ≤ 12) :
    Calls Try.prog 76 #[mv A n cc h, .int .i64 b] w (BarPost h b n xs w) := by
  have HA := Lib.hid ha
  have hlen := Lib.hid ha.1
  clear ha
  unfold mv
  go_enter Try.func76, Try.ntmps76
  go_wp2_with fail
  obtain ⟨W3, hW3, g3, b1, b2, b3, s3⟩ := three_boxes w 24 24 24 #[.int .i64 h, .slice A n cc] #[.int .i64 0, .slice none 0 0] #[.int .i64 h, .slice none 0 0]
  rw [hW3]
  have G3 := Lib.hid g3
  clear hW3 g3
  obtain ⟨bm, hbm⟩ : ∃ bm, w.heap.size = bm := ⟨_, rfl⟩
  rw [hbm] at b1 b2 b3 s3 ⊢
  obtain ⟨br, hbr⟩ : ∃ br, bm + 1 = br := ⟨_, rfl⟩
  rw [hbr] at b2 b3 s3 ⊢
  obtain ⟨bo, hbo⟩ : ∃ bo, br + 1 = bo := ⟨_, rfl⟩
  rw [hbo] at b3 s3 ⊢
  have l1 : bm < br := by omega
  have l2 : br < bo := by omega
  have HBM := Lib.hid hbm
  have HM := Lib.hid b1
  have HR := Lib.hid b2
  have HO := Lib.hid b3
  have S3 := Lib.hid s3
  clear hbm hbr hbo b1 b2 b3 s3
  go_loopw [6] (fun i wr => ∃ (k : Nat) (v : Value), i = .int .i64 k ∧ k ≤ n ∧ Below bm w wr ∧ bo + 1 ≤ wr.heap.size ∧ Blk wr bm 24 #[.int .i64 h, .slice A n cc] ∧ Blk wr br 24 #[.int .i64 0, .slice none 0 0] ∧ Blk wr bo 24 #[.int .i64 h, v] ∧
    OwnL ccells 3 53 wr (bo + 1) v ((barL xs b).take k)) (fun i _ => n - (intOf i).toNat)
  case atStart => exact ⟨0, .slice none 0 0, rfl, Nat.zero_le _, by rw [← HBM.out]; exact G3.out, by have := S3.out; omega, HM.out, HR.out, HO.out, OwnL.nil _ _⟩
  case round =>
    obtain ⟨k, v, rfl, hk, hg, hsz, hm, hr, ho, hown⟩ := hrel
    have HGr := Lib.hid hg
    have HM := Lib.hid hm
    have HR := Lib.hid hr
    have HO := Lib.hid ho
    have HW := Lib.hid hown
    have e1 : wr.cell? ⟨bm, 1, none⟩ = some (.slice A n cc) := hm.cell 1
    by_cases hlt : k < n
    · obtain ⟨ab, ao, x, rfl, hbl, hx, hc⟩ := comer_at (HA.out.below (by rw [HBM.out]; exact hg)) hlt
      obtain ⟨q0, q1, q2⟩ := hc wr (Below.refl _ _)
      have hxb := hX x (List.mem_of_getElem? hx)
      have HNX := Lib.hid (barL_snoc xs b hx)
      have hbv := bar_val x.hours b hxb hb
      have HBV := Lib.hid hbv
      have HL := Lib.hid (show ((barL xs b).take k).length = k by rw [List.length_take, barL_len, hlen.out]; omega)
      clear hg hm hr ho hown hx hbl hc hbv
      obtain ⟨y, hy⟩ : ∃ y : Int, ((x.hours.toNat ^^^ (x.hours.toNat &&& 2 ^ b) : Nat) : Int) = y := ⟨_, rfl⟩
      have HBC := Lib.hid (show barC b x = ⟨x.family, y, x.wants⟩ by unfold barC; rw [hy])
      rw [hy] at HBV
      clear hy
      go_upto_region 6 with fail
      go_region
      rw [HBV.out]
      have gd : Below wr.heap.size wr (wr.alloc (.cells #[.int .i64 x.family, .int .i64 y, .int .i64 x.wants] 53)).drew := (one_more _ _).drew
      have bd : Blk (wr.alloc (.cells #[.int .i64 x.family, .int .i64 y, .int .i64 x.wants] 53)).drew wr.heap.size 53 #[.int .i64 x.family, .int .i64 y, .int .i64 x.wants] := Blk.new _ _ _
      have hz5 : wr.heap.size < (wr.alloc (.cells #[.int .i64 x.family, .int .i64 y, .int .i64 x.wants] 53)).drew.heap.size := bd.lt
      generalize (wr.alloc (.cells #[.int .i64 x.family, .int .i64 y, .int .i64 x.wants] 53)).drew = W5 at gd bd hz5 ⊢
      have g6 := gd.trans ((one_more W5 (.cells #[.int .i64 x.family, .int .i64 y, .int .i64 x.wants] 53)).mono gd.size)
      have r0 := bd.cell 0
      have r1 := bd.cell 1
      have r2 := bd.cell 2
      have p1 := (HO.out.ext gd).cell 1
      have HA6 := Lib.hid (Blk.arr1 (f := ccells) (size := 3) (x := ⟨x.family, y, x.wants⟩) (Blk.new W5 53 #[.int .i64 x.family, .int .i64 y, .int .i64 x.wants]))
      have HOW6 := Lib.hid (HW.out.ext g6)
      have HM6 := Lib.hid (HM.out.ext g6)
      have HR6 := Lib.hid (HR.out.ext g6)
      have HO6 := Lib.hid (HO.out.ext g6)
      have hs6 : bo + 1 ≤ (W5.alloc (.cells #[.int .i64 x.family, .int .i64 y, .int .i64 x.wants] 53)).heap.size := by have := g6.size; omega
      have HS6 := Lib.hid hs6
      have HG6 := Lib.hid (HGr.out.trans (g6.mono (by omega)))
      have hl6 : ((barL xs b).take k).length + 1 ≤ 1000000 := by rw [HL.out]; omega
      have HN0 := Lib.hid (show (barL xs b).take (k + 1) = (barL xs b).take k ++ [⟨x.family, y, x.wants⟩] by rw [HNX.out, HBC.out])
      have HLL := Lib.hid (show ((barL xs b).take k ++ [(⟨x.family, y, x.wants⟩ : Comer)]).length = k + 1 by rw [List.length_append, HL.out]; rfl)
      clear gd bd g6 hs6 e1
      go_wp2_with (at_builtin; refine wpList_app kdCom rfl _ _ rfl (bo + 1) v ((barL xs b).take k) rfl HOW6.out _ _ _ [⟨x.family, y, x.wants⟩] rfl HA6.out hl6 HS6.out ?_; intro v' w' hov hgr hat; obtain ⟨A6, c6, e6, -, -, -, -⟩ := hov.arr kdCom; rw [HLL.out] at e6; subst e6; have hbw := Lib.hid (HOW6.out.below hgr (Nat.le_refl (bo + 1)) HS6.out); have ho6 := (show Blk w' bo 24 _ from (hbw.out.block bo (by omega)).trans HO6.out); have e6 := ho6.cell 1; have f6 := ho6.frozen 1; have HO7 := Lib.hid ho6; have HOV := Lib.hid hov; clear ho6 hgr hat hov)
      go_roundw
      case rel =>
        refine ⟨k + 1, .slice A6 (k + 1) c6, by go_num, by omega, (HG6.out.trans (hbw.out.mono (by omega))).setCell (p := ⟨bo, 1, none⟩) (by dsimp only; omega) _, ?_, ?_, ?_, ?_, ?_⟩
        · have := hbw.out.size; have := HS6.out; rw [World.size_setCell]; omega
        · exact (show Blk w' bm 24 _ from (hbw.out.block bm (by omega)).trans HM6.out).far (p := ⟨bo, 1, none⟩) (by dsimp only; omega) _
        · exact (show Blk w' br 24 _ from (hbw.out.block br (by omega)).trans HR6.out).far (p := ⟨bo, 1, none⟩) (by dsimp only; omega) _
        · exact HO7.out.set_ 1 _
        · rw [HN0.out]; exact HOV.out.far (p := ⟨bo, 1, none⟩) (by dsimp only; omega) _
      case measure => simp [intOf]; omega
    · obtain rfl : n = k := by omega
      have hx : (barL xs b).take n = barL xs b := List.take_of_length_le (by rw [barL_len, hlen.out]; exact Nat.le_refl _)
      have hbl : (barL xs b).length = n := by rw [barL_len, hlen.out]
      rw [hx] at HW
      obtain ⟨A', c', rfl, k1, k2, k3, -⟩ := HW.out.arr kdCom
      obtain ⟨A2, c2, e2, -, -, h2, h3⟩ := (((HW.out.far (p := ⟨br, 0, none⟩) (by dsimp only; omega) (.int .i64 h)).far (p := ⟨br, 1, none⟩) (by dsimp only; omega) (.slice A' (barL xs b).length c'))).arr kdCom
      obtain ⟨rfl, -, rfl⟩ := Value.slice.inj e2
      rw [hbl] at h2 k1 ho
      have HBL := Lib.hid hbl
      have H2 := Lib.hid h2
      have GG := Lib.hid ((hg.setCell (p := ⟨br, 0, none⟩) (by dsimp only; omega) (.int .i64 h)).setCell (p := ⟨br, 1, none⟩) (by dsimp only; omega) (.slice A' n c'))
      have B9 := (hr.set_ 0 (.int .i64 h)).set_ 1 (.slice A' n c')
      have b0 := B9.cell 0
      have b1 := B9.cell 1
      have o0 := ho.cell 0
      have o1 := ho.cell 1
      have r0 := hr.cell 0
      have r1 := hr.cell 1
      have rf0 := hr.frozen 0
      have rf1 := hr.frozen 1
      rw [← HBM.out] at GG
      obtain ⟨W9, hW9⟩ : ∃ W9, (wr.setCell ⟨br, 0, none⟩ (.int .i64 h)).setCell ⟨br, 1, none⟩ (.slice A' n c') = W9 := ⟨_, rfl⟩
      rw [hW9] at H2 GG b0 b1
      clear hg hm hr ho hown hx B9 h2 h3 k3 e2 hbl
      go_wp2_with fail
      clear hW9
      refine bodyPost_ret (v := mv A' n c' h) ?_ rfl ⟨GG.out, A', c', rfl, k1, H2.out⟩
      unfold mv
      simp [results, Try.results76, go_sem, b0, b1]
end Go.Proofs.Ytdhhneflhmkonaa
