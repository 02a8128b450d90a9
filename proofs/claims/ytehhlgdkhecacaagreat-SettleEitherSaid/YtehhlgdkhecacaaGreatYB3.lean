/- Part of the proof: EI, EJ. -/
import Derived.Test.YtehhlgdkhecacaaGreatYB2
namespace Go.Proofs.YtehhlgdkhecacaaGreat
open Go.RowKit Go.Shelf
theorem bef_at2 : ∀ {a b : List Int} {k : Nat}, k < a.length → k < b.length → (∀ j, j < k → a.getD j 0 = b.getD j 0) → a.getD k 0 ≠ b.getD k 0 → befB a b = decide (a.getD k 0 < b.getD k 0)
 | [], _, _, h, _, _, _ => absurd h (by simp)
 | _ :: _, [], _, _, h, _, _ => absurd h (by simp)
 | x :: a, y :: b, 0, _, _, _, hne => by
  unfold befB
  rw [if_neg (by simpa using hne)]
  rfl
 | x :: a, y :: b, k + 1, h1, h2, he, hne => by
  have h0 := he 0 (by omega)
  have hxy : x = y := by simpa using h0
  unfold befB
  rw [if_pos hxy, bef_at2 (k := k) (by simpa using h1) (by simpa using h2) (fun j hj => by simpa using he (j + 1) (by omega)) (by simpa using hne)]
  rfl
theorem bef_none : ∀ {a b : List Int}, (∀ j, j < a.length → j < b.length → a.getD j 0 = b.getD j 0) → befB a b = false
 | [], _, _ => rfl
 | _ :: _, [], _ => rfl
 | x :: a, y :: b, h => by
  have hxy : x = y := by simpa using h 0 (by simp) (by simp)
  unfold befB
  rw [if_pos hxy]
  exact bef_none fun j h1 h2 => by simpa using h (j + 1) (by simpa using h1) (by simpa using h2)
set_option maxRecDepth 100000 in
set_option maxHeartbeats 4000000 in
theorem before_any (A : Option Addr) (n c : Nat) (a : List Int) (B : Option Addr) (m d : Nat) (b : List Int) (w : World) (ha : Ints w A n a) (hb : Ints w B m b) (hn : n ≤ 3000) :
  Calls Tryz.prog 56 #[.slice A n c, .slice B m d] w fun e w' => e = .returned (.bool (befB a b)) ∧ Below w.heap.size w w' := by
 have HA := Lib.hid ha
 have HB := Lib.hid hb
 have HLA := Lib.hid ha.1
 have HLB := Lib.hid hb.1
 have H1 := Lib.hid (fun k (h1 : k < n) (h2 : k < m) h3 h4 => bef_at2 (a := a) (b := b) (k := k) (by rw [ha.1]; exact h1) (by rw [hb.1]; exact h2) h3 h4)
 have H2 := Lib.hid (fun h => bef_none (a := a) (b := b) h)
 obtain ⟨r, hr⟩ : ∃ r, befB a b = r := ⟨_, rfl⟩
 rw [hr] at H1 H2 ⊢
 clear ha hb hr
 go_enter Tryz.func56, Tryz.ntmps56
 go_wp2_with fail
 go_loopw [5] (fun i wr => ∃ k : Nat, k ≤ n ∧ k ≤ m ∧ i = .int .i64 k ∧ (∀ j, j < k → a.getD j 0 = b.getD j 0) ∧ Below w.heap.size w wr) (fun i _ => n - (intOf i).toNat)
 case atStart => exact ⟨0, Nat.zero_le _, Nat.zero_le _, rfl, fun j hj => absurd hj (by omega), Below.refl _ _⟩
 case round =>
  obtain ⟨k, hkn, hkm, rfl, hall, hg⟩ := hrel
  have HALL := Lib.hid hall
  have HG := Lib.hid hg
  have hwk : wrap64 ((k : Int) + 1) = (k : Int) + 1 := wrap_in (by omega)
  clear hall
  by_cases hk : k < n ∧ k < m
  ·have hk1 : (k : Int) < (n : Int) := by omega
   have hk2 : (k : Int) < (m : Int) := by omega
   obtain ⟨b0, o0, rfl, -, -, hc⟩ := ints_at (HA.out.below hg) hk.1
   obtain ⟨b1, o1, rfl, -, -, hc'⟩ := ints_at (HB.out.below hg) hk.2
   have x0 := hc wr (Below.refl _ _)
   have y0 := hc' wr (Below.refl _ _)
   obtain ⟨x, hx⟩ : ∃ x, a.getD k 0 = x := ⟨_, rfl⟩
   obtain ⟨y, hy⟩ : ∃ x, b.getD k 0 = x := ⟨_, rfl⟩
   rw [hx] at x0
   rw [hy] at y0
   have HX := Lib.hid hx
   have HY := Lib.hid hy
   have HK := Lib.hid hk
   have HR := Lib.hid (show x ≠ y → r = decide (x < y) from fun hne => by have := H1.out k hk.1 hk.2 HALL.out (by rw [hx, hy]; exact hne); rwa [hx, hy] at this)
   replace x0 := cellW x0
   replace y0 := cellW y0
   clear hc hc' hx hy hg hk
   go_upto_region 4 with fail
   refine wp_region_calm wr (by kernel_rfl) (by kernel_rfl) (Below.refl _ _) ?_
   repeat (go_big_quiet_step (fail))
   refine wpQuiet_nil ?_
   rintro _ ⟨z, rfl⟩
   have GZ := Lib.hid (HG.out.trans (z.ok.mono HG.out.size))
   by_cases hxy : x = y
   ·have hne : (x != y) = false := by simpa using hxy
    have HXY := Lib.hid hxy
    clear hxy
    go_wp2_with fail
    go_roundw
    case rel => exact ⟨k + 1, by have := HK.out; omega, by have := HK.out; omega, rfl, fun j hj => by
     by_cases e : j = k
     ·subst e; rw [HX.out, HY.out, HXY.out]
     ·exact HALL.out j (by omega), GZ.out⟩
    case measure => simp only [intOf]; omega
   ·have hne : (x != y) = true := by simpa using hxy
    have HE := Lib.hid (HR.out hxy)
    clear hxy
    go_upto_region 5 with fail
    have x1 := lift z.ok (p := fun X => X.cell? ⟨b0, o0 + k, none⟩ = some (.int .i64 x)) x0
    have y1 := lift z.ok (p := fun X => X.cell? ⟨b1, o1 + k, none⟩ = some (.int .i64 y)) y0
    clear x0 y0
    refine wp_region_calm z.val (by kernel_rfl) (by kernel_rfl) (Below.refl _ _) ?_
    repeat (go_big_quiet_step (fail))
    refine wpQuiet_nil ?_
    rintro _ ⟨z2, rfl⟩
    go_wp2_with fail
    go_ret
    exact ⟨by rw [HE.out]; rfl, GZ.out.trans (z2.ok.mono GZ.out.size)⟩
  ·have HR := Lib.hid (show r = false from H2.out fun j h1 h2 => HALL.out j (by rw [HLA.out] at h1; rw [HLB.out] at h2; omega))
   clear hg
   by_cases h1 : k < n
   ·have hk1 : (k : Int) < (n : Int) := by omega
    have hk2 : ¬ (k : Int) < (m : Int) := by omega
    clear hk
    go_wp2_with fail
    go_ret
    exact ⟨by rw [HR.out]; rfl, HG.out⟩
   ·have hk1 : ¬ (k : Int) < (n : Int) := by omega
    clear hk
    go_wp2_with fail
    go_ret
    exact ⟨by rw [HR.out]; rfl, HG.out⟩
end Go.Proofs.YtehhlgdkhecacaaGreat

namespace Go.Proofs.YtehhlgdkhecacaaGreat
open Go.RowKit Go.Shelf
theorem cnt_src {l : List Qf} (h : okL l = true) (known : Int) : (srcL (cntL l known)).Pairwise (· < ·) := okL_src (cnt_ok h known)
theorem cnt_up {l : List Qf} (h : okL l = true) (known : Int) : ∀ i, i < (cntL l known).length → (((cntL l known).getD i q0).per).Pairwise (· < ·) := fun i hi => by
 have hm : (cntL l known).getD i q0 ∈ cntL l known := by
  rw [List.getD_eq_getElem?_getD, List.getElem?_eq_getElem hi]
  exact List.getElem_mem hi
 have hq := okL_all (cnt_ok h known) _ hm
 unfold isQf at hq
 simp only [Bool.and_eq_true] at hq
 exact upB_iff.1 hq.1.1.1.1.1.1.2
theorem clE_of {l : List Qf} (h : okL l = true) {known : Int} (hk : 0 ≤ known ∧ known ≤ 4166) : clE l known = if isRead (cntL l known) = true then 25 else 0 := by
 unfold clE
 rw [lookE_ok h (one_day hk), if_pos rfl]
theorem ckCl_of {l : List Qf} (h : okL l = true) {known : Int} (hk : 0 ≤ known ∧ known ≤ 4166) (b : List Int) : ckClE l known b = err (ckCl (cntL l known) b) 25 := by
 unfold ckClE
 rw [lookE_ok h (one_day hk), if_pos rfl]
theorem reads_bef {c : List Qf} (hu : ∀ i, i < c.length → ((c.getD i q0).per).Pairwise (· < ·)) {j : Nat} (h : j + 1 < (reads c).length) : befB ((reads c).getD j []) ((reads c).getD (j + 1) []) = true := by
 have := List.pairwise_iff_getElem.1 (reads_up hu) j (j + 1) (by omega) h (Nat.lt_succ_self j)
 rw [List.getD_eq_getElem?_getD, List.getElem?_eq_getElem (by omega), List.getD_eq_getElem?_getD, List.getElem?_eq_getElem h]
 exact this
theorem mem_take_succ {c : List (List Int)} {r : List Int} {k : Nat} (hk : k < c.length) : decide (r ∈ c.take (k + 1)) = (decide (r ∈ c.take k) || decide (c.getD k [] = r)) := by
 rw [take_snoc (d := []) hk, Bool.eq_iff_iff, Bool.or_eq_true, decide_eq_true_eq, decide_eq_true_eq, decide_eq_true_eq, List.mem_append, List.mem_singleton]
 exact or_congr Iff.rfl eq_comm
theorem made_low {w W : World} {A1 A2 : Option Addr} {n1 c1 n2 c2 : Nat} {ls : List Pf} {ts : List Int} (h : Md w W (.slice A1 n1 c1) (.slice A2 n2 c2) ls ts) : (∀ a, A1 = some a → w.heap.size ≤ a.block) ∧ (∀ a, A2 = some a → w.heap.size ≤ a.block) ∧ ∀ p ∈ ls, ∀ a, p.A = some a → w.heap.size ≤ a.block :=
 ⟨fun a e => (own_block h.o1 (by rw [e]; rfl)).1, fun a e => (own_block h.o2 (by rw [e]; rfl)).1, h.low⟩
/-- The reading before one. -/
def prevL (c : List Qf) (k : Nat) : List Int := if k = 0 then [] else (reads c).getD (k - 1) []
set_option maxRecDepth 100000 in
set_option maxHeartbeats 16000000 in
theorem law13_any (A : Option Addr) (n c : Nat) (x : List Ra) (y0 y1 : Int) (C : Option Addr) (nc cc : Nat) (sl : List Int) (B : Option Addr) (nb cb : Nat) (bl : List Int) (w : World) (ha : Arr rcells 9 w A n x) (hn : n ≤ 9223372036854775807) (hx : ∀ r ∈ x, RaOk r)
  (hs : Ints w C nc sl) (hsc : nc ≤ cc) (hsm : cc ≤ 9223372036854775807) (hb : Ints w B nb bl) (hbc : nb ≤ cb) (hbm : cb ≤ 9223372036854775807) :
  Calls Tryz.prog 13 #[.slice A n c, .agg #[.int .i64 y0, .int .i64 y1, .slice C nc cc], .slice B nb cb] w fun e w' => e = .returned (.bool true) ∧ Below w.heap.size w w' := by
 obtain ⟨W1, hW1⟩ : ∃ X, w.alloc (.cells #[.int .i64 y0, .int .i64 y1, .slice C nc cc] 76) = X := ⟨_, rfl⟩
 have G1 := Lib.hid (show Below w.heap.size w W1 by rw [← hW1]; exact one_more _ _)
 have B1 := Lib.hid (show Blk W1 w.heap.size 76 #[.int .i64 y0, .int .i64 y1, .slice C nc cc] by rw [← hW1]; exact Blk.new _ _ _)
 have HW1 := Lib.hid hW1
 have TM := Lib.hid refMod_any
 have TS := Lib.hid sane_any
 have TH := Lib.hid (made_any A n c x W1 (ha.below G1.out) hn hx)
 have HOK := Lib.hid (made_ok x)
 have HMO := Lib.hid (fun (W : World) v u ls (h : Md W1 W v u ls (whoL x)) hq => made_open h hq)
 have HSL := Lib.hid hs
 have HBL := Lib.hid hb
 have HSC := Lib.hid (And.intro hsc hsm)
 have HBC := Lib.hid (show nb ≤ 9223372036854775807 by omega)
 obtain ⟨ml, hml⟩ : ∃ l, madeL x = l := ⟨_, rfl⟩
 obtain ⟨wl, hwl⟩ : ∃ l, whoL x = l := ⟨_, rfl⟩
 rw [hml, hwl] at TH HMO
 rw [hml] at HOK
 clear ha hx hml hwl hW1 hs hb hbc hbm
 go_enter Tryz.func13, Tryz.ntmps13
 go_upto_region 1 with fail
 rw [HW1.out]
 go_upto_region 2 with (go_at_call 37; (with_reducible refine (TH.out).mono ?_); rintro e V ⟨v, u, ls, rfl, hmd, hq⟩; obtain ⟨A1, n1, c1, A2, n2, c2, rfl, rfl, hp, hn1, hi2, hn2, hc2, hn12, hg⟩ := HMO.out _ _ _ _ hmd hq; have HLW := Lib.hid (made_low hmd); have HP := Lib.hid hp; have HI2 := Lib.hid hi2; have HN2 := Lib.hid (And.intro hn2 hc2); have HQ := Lib.hid hq; have HN := Lib.hid (show n1 ≤ 1000 by omega); have GV := Lib.hid hg; have HG := Lib.hid (G1.out.trans (hg.mono G1.out.size)); clear hmd hp hq hn1 hg hi2 hn2 hc2 hn12)
 have d0 := (B1.out.ext GV.out).cell 0
 go_upto_region 3 with (go_at_call 38; (with_reducible refine (TM.out _ _ _ (by omega) (by omega)).mono ?_); rintro e w' ⟨rfl, rfl⟩)
 clear d0
 obtain ⟨kn, hkn⟩ : ∃ d, y0 % 60 = d := ⟨_, rfl⟩
 have HK := Lib.hid (show 0 ≤ kn ∧ kn ≤ 4166 by omega)
 rw [hkn]
 clear hkn
 have HN1 := Lib.hid (show n1 ≤ 9223372036854775807 by have := HN.out; omega)
 have T41 := Lib.hid (c41 (c := c1) HP.out HQ.out HOK.out HN.out HK.out)
 have T51 := Lib.hid (fun W (g : Below V.heap.size V W) => (show Calls Tryz.prog 51 #[.slice A1 n1 c1, .int .i64 kn] W (ListEnd (clashL (cntL ml kn)) (if isRead (cntL ml kn) = true then 25 else 0) W) by
  have := clash_any A1 n1 c1 ls kn W (HP.out.below g) HN1.out
  rwa [HQ.out, clE_of HOK.out HK.out] at this))
 have T54 := Lib.hid (fun W (g : Below V.heap.size V W) B m d b (hi : Ints W B m b) (hm : m ≤ 9223372036854775807) => (show Calls Tryz.prog 54 #[.slice A1 n1 c1, .int .i64 kn, .slice B m d] W fun e w' => e = .returned (.int .i64 (err (ckCl (cntL ml kn) b) 25)) ∧ Below W.heap.size W w' by
  have := checkClash_any A1 n1 c1 ls kn B m d b W (HP.out.below g) HN1.out hi hm
  rwa [HQ.out, ckCl_of HOK.out HK.out] at this))
 have T45 := Lib.hid (fun W (g : Below V.heap.size V W) B m d r (hi : Ints W B m r) hmd hdc => c45 (c := c1) (d := d) (HP.out.below g) HQ.out HOK.out HN.out hi hmd hdc HK.out)
 have T44 := Lib.hid (fun W (g : Below V.heap.size V W) k h => c44 (c := c1) (k := k) (HP.out.below g) HQ.out HOK.out HN.out HK.out h)
 have T44n := Lib.hid (fun W (g : Below V.heap.size V W) k h => c44_no (c := c1) (k := k) (HP.out.below g) HQ.out HOK.out HN.out HK.out h)
 have HRL := Lib.hid (reads_len HOK.out kn)
 have HSR := Lib.hid (cnt_src HOK.out kn)
 have HCU := Lib.hid (cnt_up HOK.out kn)
 obtain ⟨cq, hcq⟩ : ∃ l, cntL ml kn = l := ⟨_, rfl⟩
 have HCQ := Lib.hid hcq
 rw [hcq] at T41 T51 T54 T45 T44 T44n HRL HSR HCU
 have HIR := Lib.hid (show isRead cq = decide (0 < (reads cq).length) by
  unfold isRead
  cases reads cq <;> simp)
 obtain ⟨N, hN⟩ : ∃ k, (reads cq).length = k := ⟨_, rfl⟩
 have HNE := Lib.hid hN
 rw [hN] at T41 T44 T44n HRL HIR
 clear hN hcq
 have HBX := Lib.hid (B1.out.ext GV.out)
 obtain ⟨bX, hbX⟩ : ∃ b, w.heap.size = b := ⟨_, rfl⟩
 have HBXE := Lib.hid hbX
 rw [hbX] at HBX ⊢
 clear hbX
 by_cases h0 : N = 0
 ·subst h0
  have HU := Lib.hid (show isRead cq = false by rw [HIR.out]; rfl)
  have HCO := Lib.hid (clash_ok HSR.out HU.out)
  have HCE := Lib.hid (clash_ne HU.out)
  have HNR := Lib.hid (show ∀ r, isRd cq r = false from fun r => by
   cases h : isRd cq r with
   | false => rfl
   | true => have := isRead_iff.2 ⟨r, h⟩; rw [HU.out] at this; cases this)
  rw [HU.out] at T51
  obtain ⟨cl, hcl⟩ : ∃ l, clashL cq = l := ⟨_, rfl⟩
  rw [hcl] at T51 HCO HCE
  clear hcl
  have T51b := Lib.hid (fun W g => (show Calls Tryz.prog 51 #[.slice A1 n1 c1, .int .i64 kn] W (ListEnd cl 0 W) from T51.out W g))
  obtain ⟨er, her⟩ : ∃ z, err (ckCl cq bl) 25 = z := ⟨_, rfl⟩
  have T54a := Lib.hid (fun W (g : Below V.heap.size V W) => (show Calls Tryz.prog 54 #[.slice A1 n1 c1, .int .i64 kn, .slice B nb cb] W fun e w' => e = .returned (.int .i64 er) ∧ Below W.heap.size W w' by rw [← her]; exact T54.out W g B nb cb bl (HBL.out.below (HG.out.trans (g.mono HG.out.size))) HBC.out))
  have T45a := Lib.hid (fun W (g : Below V.heap.size V W) => (show Calls Tryz.prog 45 #[.slice A1 n1 c1, .int .i64 kn, .slice C nc cc] W fun e w' => e = .returned (.int .i64 23) ∧ Below W.heap.size W w' by
   have := T45.out W g C nc cc sl (HSL.out.below (HG.out.trans (g.mono HG.out.size))) HSC.out.1 HSC.out.2
   rwa [HNR.out] at this))
  have HBF := Lib.hid (fun W (g : Below V.heap.size V W) => (HBX.out.ext g).cell 2)
  clear her
  go_upto_region 9 with (first
   | (go_at_call 41; (with_reducible refine (T41.out).mono ?_); rintro e V1 ⟨rfl, hg⟩; have GV1 := Lib.hid hg; clear hg)
   | (go_at_call 51; (with_reducible refine (T51b.out _ GV1.out).mono ?_); rintro e V2 ⟨D, m, d, rfl, hi, hmd, hdc, hg⟩; rw [if_pos rfl] at hi; have HID := Lib.hid hi; have HDC := Lib.hid (show m ≤ 9223372036854775807 by unfold maxLen at hdc; omega); have GV2 := Lib.hid (GV1.out.trans (hg.mono GV1.out.size)); clear hi hmd hdc hg)
   | (go_at_call 54; (with_reducible refine (T54a.out _ GV2.out).mono ?_); rintro e V3 ⟨rfl, hg⟩; have GV3 := Lib.hid (GV2.out.trans (hg.mono GV2.out.size)); have HID3 := Lib.hid (HID.out.below hg); clear hg))
  have T54b := Lib.hid (T54.out V3 GV3.out D m d cl HID3.out HDC.out)
  rw [HCO.out, show err true 25 = 0 from rfl] at T54b
  have hm0 : 0 < m := by
   have h1 := HID3.out.1
   have h2 := HCE.out
   cases cl with
   | nil => exact absurd rfl h2
   | cons a l => rw [List.length_cons] at h1; omega
  have hm1 : (0 : Int) < (m : Int) := by omega
  go_wp2_with (first
   | (go_at_call 54; (with_reducible refine (T54b.out).mono ?_); rintro e V4 ⟨rfl, hg⟩; have GV4 := Lib.hid (GV3.out.trans (hg.mono GV3.out.size)); have d2 := HBF.out _ GV4.out; clear hg)
   | (go_at_call 45; (with_reducible refine (T45a.out _ GV4.out).mono ?_); rintro e V5 ⟨rfl, hg⟩; have GV5 := Lib.hid (GV4.out.trans (hg.mono GV4.out.size)); clear hg)
   | (go_at_call 20; (with_reducible refine (TS.out _).mono ?_); rintro e V9 ⟨rfl, hg⟩; have GV9 := Lib.hid (GV5.out.trans (hg.mono GV5.out.size)); clear hg))
  go_ret
  exact ⟨rfl, HG.out.trans (GV9.out.mono HG.out.size)⟩
 ·have hnb : ((N : Int) == 0) = false := beq_eq_false_iff_ne.2 (by omega)
  have hN2 : N ≤ 2000 := HRL.out
  have HR := Lib.hid (show isRead cq = true by rw [HIR.out]; exact decide_eq_true (by omega))
  have T51b := Lib.hid (fun W g => (show Calls Tryz.prog 51 #[.slice A1 n1 c1, .int .i64 kn] W (ListEnd (clashL cq) 25 W) by have := T51.out W g; rwa [if_pos HR.out] at this))
  have T54a := Lib.hid (fun W (g : Below V.heap.size V W) => (show Calls Tryz.prog 54 #[.slice A1 n1 c1, .int .i64 kn, .slice B nb cb] W fun e w' => e = .returned (.int .i64 25) ∧ Below W.heap.size W w' by
   have := T54.out W g B nb cb bl (HBL.out.below (HG.out.trans (g.mono HG.out.size))) HBC.out
   rwa [show ckCl cq bl = false from by
    cases h : ckCl cq bl with
    | false => rfl
    | true => have := ckCl_unread h; rw [HR.out] at this; cases this] at this))
  go_upto_region 12 with (first
   | (go_at_call 41; (with_reducible refine (T41.out).mono ?_); rintro e V1 ⟨rfl, hg⟩; have GV1 := Lib.hid hg; clear hg)
   | (go_at_call 51; (with_reducible refine (T51b.out _ GV1.out).mono ?_); rintro e V2 ⟨D, m, d, rfl, -, -, -, hg⟩; have GV2 := Lib.hid (GV1.out.trans (hg.mono GV1.out.size)); clear hg)
   | (go_at_call 54; (with_reducible refine (T54a.out _ GV2.out).mono ?_); rintro e V3 ⟨rfl, hg⟩; have GV3 := Lib.hid (GV2.out.trans (hg.mono GV2.out.size)); clear hg))
  have d2 := (HBX.out.ext GV3.out).cell 2
  have f2 := (HBX.out.ext GV3.out).frozen 2
  have HB7 := Lib.hid (show bX < W1.heap.size from by
   have := B1.out.lt
   rw [HBXE.out] at this
   exact this)
  by_cases hnc : nc = 0
  ·have hncb : ((nc : Int) == 0) = true := beq_iff_eq.2 (by omega)
   go_upto_region 14 with fail
   have HCL0 := Lib.hid ((HBX.out.ext GV3.out).set_ 2 (.slice A2 n2 c2))
   have GW0 := Lib.hid (show Below w.heap.size w (V3.setCell ⟨bX, 2, none⟩ (.slice A2 n2 c2)) from (HG.out.trans (GV3.out.mono HG.out.size)).setCell (p := ⟨bX, 2, none⟩) (by rw [HBXE.out]; exact Nat.le_refl _) _)
   have FX := Lib.hid (show Fix bX bX V3 (V3.setCell ⟨bX, 2, none⟩ (.slice A2 n2 c2)) from (Fix.refl _ _ _).setCell (p := ⟨bX, 2, none⟩) (.inl rfl) _)
   have HPW0 := Lib.hid (prf_fix (HP.out.below GV3.out) (fun a e => by have h1 := HLW.out.1 a e; have h2 := HB7.out; omega) (fun p hp a e => by have h1 := HLW.out.2.2 p hp a e; have h2 := HB7.out; omega) FX.out)
   have HLL0 := Lib.hid (ints_fix (HI2.out.below GV3.out) (fun a e => by have h1 := HLW.out.2.1 a e; have h2 := HB7.out; omega) FX.out)
   obtain ⟨Wb, hWb⟩ : ∃ X, V3.setCell ⟨bX, 2, none⟩ (.slice A2 n2 c2) = X := ⟨_, rfl⟩
   rw [hWb] at HCL0 GW0 HPW0 HLL0 ⊢
   have HCL := Lib.hid (show Blk Wb bX 76 #[.int .i64 y0, .int .i64 y1, .slice A2 n2 c2] from HCL0.out)
   have GW := GW0
   have HPW := HPW0
   have HLL := HLL0
   have HMD := Lib.hid (show n2 ≤ c2 ∧ c2 ≤ 9223372036854775807 by have := HN2.out; unfold maxLen at this; exact this)
   have GWS := Lib.hid GW.out.size
   clear hWb d2 f2 hnc
   have U45 := Lib.hid (fun X (g : Below Wb.heap.size Wb X) B m d r (hi : Ints X B m r) hmd hdc => c45 (c := c1) (d := d) (HPW.out.below g) HQ.out HOK.out HN.out hi hmd hdc HK.out)
   have U44 := Lib.hid (fun X (g : Below Wb.heap.size Wb X) k h => c44 (c := c1) (k := k) (HPW.out.below g) HQ.out HOK.out HN.out HK.out h)
   have U44n := Lib.hid (fun X (g : Below Wb.heap.size Wb X) k h => c44_no (c := c1) (k := k) (HPW.out.below g) HQ.out HOK.out HN.out HK.out h)
   rw [HCQ.out] at U45 U44 U44n
   rw [HNE.out] at U44 U44n
   have HIS := Lib.hid (show isRd cq wl = decide (wl ∈ reads cq) by rw [Bool.eq_iff_iff, decide_eq_true_eq]; exact mem_reads.symm)
   obtain ⟨isb, hisb⟩ : ∃ b, isRd cq wl = b := ⟨_, rfl⟩
   have TIS := Lib.hid (show ∃ er : Int, (er == 0) = isb ∧ Calls Tryz.prog 45 #[.slice A1 n1 c1, .int .i64 kn, .slice A2 n2 c2] Wb fun e w' => e = .returned (.int .i64 er) ∧ Below Wb.heap.size Wb w' from ⟨err isb 23, by cases isb <;> rfl, by
    have := U45.out Wb (Below.refl _ _) A2 n2 c2 wl HLL.out HMD.out.1 HMD.out.2
    rwa [hisb] at this⟩)
   rw [hisb] at HIS
   clear hisb
   obtain ⟨er, her, tis⟩ := TIS.out
   have HTI := Lib.hid tis
   have b2 := HCL.out.cell 2
   clear tis
   go_upto_region 18 with (go_at_call 45; (with_reducible refine (HTI.out).mono ?_); rintro e Xa ⟨rfl, hg⟩; have YA := Lib.hid hg; clear hg)
   clear b2
   have HF0 := Lib.hid (show decide (wl ∈ (reads cq).take 0) = false by simp)
   have HI0 := Lib.hid (show Ints Xa none 0 (prevL cq 0) from Arr.nil_)
   have HMT := Lib.hid (fun k (hk : k < N) => mem_take_succ (c := reads cq) (r := wl) (k := k) (by rw [HNE.out]; exact hk))
   have HMA := Lib.hid (show decide (wl ∈ (reads cq).take N) = isb by rw [← HNE.out, List.take_length]; exact HIS.out.symm)
   have HRA := Lib.hid (fun k (hk : k < N) => rd_at (l := cq) (k := k) (by rw [HNE.out]; exact hk))
   have HBF := Lib.hid (fun j (hj : j + 1 < N) => reads_bef HCU.out (j := j) (by rw [HNE.out]; exact hj))
   have HPL := Lib.hid (fun k => (show prevL cq (k + 1) = (reads cq).getD k [] from rfl))
   go_wp2_with fail
   go_loopw [16, 17, 18] (fun f v i wr => ∃ (k : Nat) (A7 : Option Addr) (n7 c7 : Nat), k ≤ N ∧ f = .bool (decide (wl ∈ (reads cq).take k)) ∧ v = .slice A7 n7 c7 ∧ Ints wr A7 n7 (prevL cq k) ∧ n7 ≤ 3000 ∧ i = .int .i64 k ∧ Below Wb.heap.size Wb wr) (fun _ _ i _ => N - (intOf i).toNat)
   case atStart => exact ⟨0, none, 0, 0, Nat.zero_le _, by rw [HF0.out], rfl, HI0.out, Nat.zero_le _, rfl, YA.out⟩
   case round =>
    obtain ⟨k, A7, n7, c7, hk, rfl, rfl, hi7, hn7, rfl, hg⟩ := hrel
    have HI7 := Lib.hid hi7
    have HN7 := Lib.hid hn7
    have HGk := Lib.hid hg
    have hwk : wrap64 ((k : Int) + 1) = (k : Int) + 1 := wrap_in (by omega)
    clear hi7 hn7 hg
    by_cases hkN : k < N
    ·have V44 := Lib.hid (U44.out _ HGk.out k hkN)
     have HRD := Lib.hid (HRA.out k hkN)
     have HMS := Lib.hid (HMT.out k hkN)
     have HPS := Lib.hid (HPL.out k)
     have HBJ := Lib.hid (fun j (e : k = j + 1) => (show befB (prevL cq k) ((reads cq).getD k []) = true by subst e; exact HBF.out j hkN))
     obtain ⟨r, hr⟩ : ∃ t, (reads cq).getD k [] = t := ⟨_, rfl⟩
     rw [hr] at V44 HRD HMS HPS HBJ
     obtain ⟨fd, hfd⟩ : ∃ t, decide (wl ∈ (reads cq).take k) = t := ⟨_, rfl⟩
     rw [hfd] at HMS ⊢
     obtain ⟨pv, hpv⟩ : ∃ t, prevL cq k = t := ⟨_, rfl⟩
     rw [hpv] at HI7 HBJ
     clear hr hfd hpv
     go_upto_region 21 with (go_at_call 44; (with_reducible refine (V44.out).mono ?_); rintro e X1 ⟨D, m, d, rfl, hi, hm, hmd, hdc, hg⟩; have HI6 := Lib.hid hi; have HM6 := Lib.hid (And.intro hm (And.intro hmd hdc)); have GY1 := Lib.hid hg; have GX1 := Lib.hid (HGk.out.trans (hg.mono HGk.out.size)); clear hi hm hmd hdc hg)
     have V45 := Lib.hid (fun X (g : Below X1.heap.size X1 X) => (show Calls Tryz.prog 45 #[.slice A1 n1 c1, .int .i64 kn, .slice D m d] X fun e w' => e = .returned (.int .i64 0) ∧ Below X.heap.size X w' by
      have := U45.out X (GX1.out.trans (g.mono GX1.out.size)) D m d r (HI6.out.below g) HM6.out.2.1 HM6.out.2.2
      rwa [HRD.out, show err true 23 = 0 from rfl] at this))
     have V56 := Lib.hid (before_any A7 n7 c7 pv D m d r X1 (HI7.out.below GY1.out) HI6.out HN7.out)
     have V19 := Lib.hid (fun X (g : Below X1.heap.size X1 X) => sameInts_any D A2 m d n2 c2 r wl X (HI6.out.below g) (HLL.out.below (GX1.out.trans (g.mono GX1.out.size))) (by have := HM6.out.1; omega) (by have := HMD.out; omega))
     have HBC := Lib.hid (fun X (g : Below X1.heap.size X1 X) => (HCL.out.ext (GX1.out.trans (g.mono GX1.out.size))).cell 2)
     obtain ⟨sb, hsb⟩ : ∃ b, decide (r = wl) = b := ⟨_, rfl⟩
     rw [hsb] at V19 HMS
     clear hsb
     have b2 := HBC.out X1 (Below.refl _ _)
     have Z0 := Lib.hid (Below.refl X1.heap.size X1)
     by_cases h0 : k = 0
     ·subst h0
      cases fd with
      | true =>
       go_wp2_with (first | (go_at_call 45; (with_reducible refine (V45.out _ Z0.out).mono ?_); rintro e X3 ⟨rfl, hg⟩; have Z2 := Lib.hid (Z0.out.trans (hg.mono Z0.out.size)); have b4 := HBC.out X3 Z2.out; clear hg))
       go_roundw
       case rel => exact ⟨0 + 1, D, m, d, by omega, by rw [HMS.out, Bool.true_or], rfl, by rw [HPS.out]; exact HI6.out.below Z2.out, HM6.out.1, rfl, GX1.out.trans (Z2.out.mono GX1.out.size)⟩
       case measure => simp only [intOf]; omega
      | false =>
       go_wp2_with (first | (go_at_call 45; (with_reducible refine (V45.out _ Z0.out).mono ?_); rintro e X3 ⟨rfl, hg⟩; have Z2 := Lib.hid (Z0.out.trans (hg.mono Z0.out.size)); have b4 := HBC.out X3 Z2.out; clear hg) | (go_at_call 19; (with_reducible refine (V19.out _ Z2.out).mono ?_); rintro e X4 ⟨rfl, hg⟩; have Z3 := Lib.hid (Z2.out.trans (hg.mono Z2.out.size)); clear hg))
       go_roundw
       case rel => exact ⟨0 + 1, D, m, d, by omega, by rw [HMS.out, Bool.false_or], rfl, by rw [HPS.out]; exact HI6.out.below Z3.out, HM6.out.1, rfl, GX1.out.trans (Z3.out.mono GX1.out.size)⟩
       case measure => simp only [intOf]; omega
     ·obtain ⟨j, rfl⟩ : ∃ j, k = j + 1 := ⟨k - 1, by omega⟩
      have hj0 : (0 : Int) < (j : Int) + 1 := by omega
      have hbj := HBJ.out j rfl
      rw [hbj] at V56
      have hjj : ((j : Int) + 1).tmod 20 = (((j + 1) % 20 : Nat) : Int) := by
       rw [Int.tmod_eq_emod_of_nonneg (by omega)]
       omega
      have hjw : wrap64 (((j : Int) + 1).tmod 20) = (((j + 1) % 20 : Nat) : Int) := by rw [hjj]; exact wrap_in (by omega)
      clear hbj
      by_cases hm20 : (j + 1) % 20 = 0
      ·have hmb : ((((j + 1) % 20 : Nat) : Int) == 0) = true := beq_iff_eq.2 (by omega)
       have hmc : (((j : Int) + 1) % 20 == 0) = true := beq_iff_eq.2 (by omega)
       have hmd : (((j : Int) + 1).tmod 20 == 0) = true := by rw [hjj]; exact hmb
       cases fd with
       | true =>
        go_wp2_with (first | (go_at_call 56; (with_reducible refine (V56.out).mono ?_); rintro e X2 ⟨rfl, hg⟩; have Z1 := Lib.hid hg; have b3 := HBC.out X2 hg; clear hg) | (go_at_call 45; (with_reducible refine (V45.out _ Z1.out).mono ?_); rintro e X3 ⟨rfl, hg⟩; have Z2 := Lib.hid (Z1.out.trans (hg.mono Z1.out.size)); have b4 := HBC.out X3 Z2.out; clear hg))
        go_roundw
        case rel => exact ⟨(j + 1) + 1, D, m, d, by omega, by rw [HMS.out, Bool.true_or], rfl, by rw [HPS.out]; exact HI6.out.below Z2.out, HM6.out.1, rfl, GX1.out.trans (Z2.out.mono GX1.out.size)⟩
        case measure => simp only [intOf]; omega
       | false =>
        go_wp2_with (first | (go_at_call 56; (with_reducible refine (V56.out).mono ?_); rintro e X2 ⟨rfl, hg⟩; have Z1 := Lib.hid hg; have b3 := HBC.out X2 hg; clear hg) | (go_at_call 45; (with_reducible refine (V45.out _ Z1.out).mono ?_); rintro e X3 ⟨rfl, hg⟩; have Z2 := Lib.hid (Z1.out.trans (hg.mono Z1.out.size)); have b4 := HBC.out X3 Z2.out; clear hg) | (go_at_call 19; (with_reducible refine (V19.out _ Z2.out).mono ?_); rintro e X4 ⟨rfl, hg⟩; have Z3 := Lib.hid (Z2.out.trans (hg.mono Z2.out.size)); clear hg))
        go_roundw
        case rel => exact ⟨(j + 1) + 1, D, m, d, by omega, by rw [HMS.out, Bool.false_or], rfl, by rw [HPS.out]; exact HI6.out.below Z3.out, HM6.out.1, rfl, GX1.out.trans (Z3.out.mono GX1.out.size)⟩
        case measure => simp only [intOf]; omega
      ·have hmb : ((((j + 1) % 20 : Nat) : Int) == 0) = false := beq_eq_false_iff_ne.2 (by omega)
       have hmc : (((j : Int) + 1) % 20 == 0) = false := beq_eq_false_iff_ne.2 (by omega)
       have hmd : (((j : Int) + 1).tmod 20 == 0) = false := by rw [hjj]; exact hmb
       cases fd with
       | true =>
        go_wp2_with (first | (go_at_call 56; (with_reducible refine (V56.out).mono ?_); rintro e X2 ⟨rfl, hg⟩; have Z1 := Lib.hid hg; have b3 := HBC.out X2 hg; clear hg))
        go_roundw
        case rel => exact ⟨(j + 1) + 1, D, m, d, by omega, by rw [HMS.out, Bool.true_or], rfl, by rw [HPS.out]; exact HI6.out.below Z1.out, HM6.out.1, rfl, GX1.out.trans (Z1.out.mono GX1.out.size)⟩
        case measure => simp only [intOf]; omega
       | false =>
        go_wp2_with (first | (go_at_call 56; (with_reducible refine (V56.out).mono ?_); rintro e X2 ⟨rfl, hg⟩; have Z1 := Lib.hid hg; have b3 := HBC.out X2 hg; clear hg) | (go_at_call 19; (with_reducible refine (V19.out _ Z1.out).mono ?_); rintro e X4 ⟨rfl, hg⟩; have Z3 := Lib.hid (Z1.out.trans (hg.mono Z1.out.size)); clear hg))
        go_roundw
        case rel => exact ⟨(j + 1) + 1, D, m, d, by omega, by rw [HMS.out, Bool.false_or], rfl, by rw [HPS.out]; exact HI6.out.below Z3.out, HM6.out.1, rfl, GX1.out.trans (Z3.out.mono GX1.out.size)⟩
        case measure => simp only [intOf]; omega
    ·obtain rfl : k = N := by omega
     have V44n := Lib.hid (U44n.out _ HGk.out (k : Int) (by omega))
     have hms := HMA.out
     obtain ⟨fd, hfd⟩ : ∃ t, decide (wl ∈ (reads cq).take k) = t := ⟨_, rfl⟩
     rw [hfd] at hms ⊢
     subst hms
     have hff : (fd == fd) = true := by simp
     clear hfd
     go_wp2_with (first
      | (go_at_call 44; (with_reducible refine (V44n.out).mono ?_); rintro e X1 ⟨⟨D, m, d, rfl⟩, hg⟩; have GX1 := Lib.hid (HGk.out.trans (hg.mono HGk.out.size)); clear hg)
      | (go_at_call 20; (with_reducible refine (TS.out _).mono ?_); rintro e V9 ⟨rfl, hg⟩; have GV9 := Lib.hid (GX1.out.trans (hg.mono GX1.out.size)); clear hg))
     go_ret
     exact ⟨rfl, GW.out.trans (GV9.out.mono GWS.out)⟩
  ·have hncb : ((nc : Int) == 0) = false := beq_eq_false_iff_ne.2 (by omega)
   go_upto_region 14 with fail
   have HPW := Lib.hid (HP.out.below GV3.out)
   have GW := Lib.hid (HG.out.trans (GV3.out.mono HG.out.size))
   have HCL := Lib.hid (HBX.out.ext GV3.out)
   have HLL := Lib.hid (HSL.out.below GW.out)
   have HMD := HSC
   have GWS := Lib.hid GW.out.size
   obtain ⟨Wb, hWb⟩ : ∃ X, V3 = X := ⟨_, rfl⟩
   rw [hWb] at HPW GW HCL HLL GWS ⊢
   clear hWb d2 f2 hnc
   have U45 := Lib.hid (fun X (g : Below Wb.heap.size Wb X) B m d r (hi : Ints X B m r) hmd hdc => c45 (c := c1) (d := d) (HPW.out.below g) HQ.out HOK.out HN.out hi hmd hdc HK.out)
   have U44 := Lib.hid (fun X (g : Below Wb.heap.size Wb X) k h => c44 (c := c1) (k := k) (HPW.out.below g) HQ.out HOK.out HN.out HK.out h)
   have U44n := Lib.hid (fun X (g : Below Wb.heap.size Wb X) k h => c44_no (c := c1) (k := k) (HPW.out.below g) HQ.out HOK.out HN.out HK.out h)
   rw [HCQ.out] at U45 U44 U44n
   rw [HNE.out] at U44 U44n
   have HIS := Lib.hid (show isRd cq sl = decide (sl ∈ reads cq) by rw [Bool.eq_iff_iff, decide_eq_true_eq]; exact mem_reads.symm)
   obtain ⟨isb, hisb⟩ : ∃ b, isRd cq sl = b := ⟨_, rfl⟩
   have TIS := Lib.hid (show ∃ er : Int, (er == 0) = isb ∧ Calls Tryz.prog 45 #[.slice A1 n1 c1, .int .i64 kn, .slice C nc cc] Wb fun e w' => e = .returned (.int .i64 er) ∧ Below Wb.heap.size Wb w' from ⟨err isb 23, by cases isb <;> rfl, by
    have := U45.out Wb (Below.refl _ _) C nc cc sl HLL.out HMD.out.1 HMD.out.2
    rwa [hisb] at this⟩)
   rw [hisb] at HIS
   clear hisb
   obtain ⟨er, her, tis⟩ := TIS.out
   have HTI := Lib.hid tis
   have b2 := HCL.out.cell 2
   clear tis
   go_upto_region 18 with (go_at_call 45; (with_reducible refine (HTI.out).mono ?_); rintro e Xa ⟨rfl, hg⟩; have YA := Lib.hid hg; clear hg)
   clear b2
   have HF0 := Lib.hid (show decide (sl ∈ (reads cq).take 0) = false by simp)
   have HI0 := Lib.hid (show Ints Xa none 0 (prevL cq 0) from Arr.nil_)
   have HMT := Lib.hid (fun k (hk : k < N) => mem_take_succ (c := reads cq) (r := sl) (k := k) (by rw [HNE.out]; exact hk))
   have HMA := Lib.hid (show decide (sl ∈ (reads cq).take N) = isb by rw [← HNE.out, List.take_length]; exact HIS.out.symm)
   have HRA := Lib.hid (fun k (hk : k < N) => rd_at (l := cq) (k := k) (by rw [HNE.out]; exact hk))
   have HBF := Lib.hid (fun j (hj : j + 1 < N) => reads_bef HCU.out (j := j) (by rw [HNE.out]; exact hj))
   have HPL := Lib.hid (fun k => (show prevL cq (k + 1) = (reads cq).getD k [] from rfl))
   go_wp2_with fail
   go_loopw [16, 17, 18] (fun f v i wr => ∃ (k : Nat) (A7 : Option Addr) (n7 c7 : Nat), k ≤ N ∧ f = .bool (decide (sl ∈ (reads cq).take k)) ∧ v = .slice A7 n7 c7 ∧ Ints wr A7 n7 (prevL cq k) ∧ n7 ≤ 3000 ∧ i = .int .i64 k ∧ Below Wb.heap.size Wb wr) (fun _ _ i _ => N - (intOf i).toNat)
   case atStart => exact ⟨0, none, 0, 0, Nat.zero_le _, by rw [HF0.out], rfl, HI0.out, Nat.zero_le _, rfl, YA.out⟩
   case round =>
    obtain ⟨k, A7, n7, c7, hk, rfl, rfl, hi7, hn7, rfl, hg⟩ := hrel
    have HI7 := Lib.hid hi7
    have HN7 := Lib.hid hn7
    have HGk := Lib.hid hg
    have hwk : wrap64 ((k : Int) + 1) = (k : Int) + 1 := wrap_in (by omega)
    clear hi7 hn7 hg
    by_cases hkN : k < N
    ·have V44 := Lib.hid (U44.out _ HGk.out k hkN)
     have HRD := Lib.hid (HRA.out k hkN)
     have HMS := Lib.hid (HMT.out k hkN)
     have HPS := Lib.hid (HPL.out k)
     have HBJ := Lib.hid (fun j (e : k = j + 1) => (show befB (prevL cq k) ((reads cq).getD k []) = true by subst e; exact HBF.out j hkN))
     obtain ⟨r, hr⟩ : ∃ t, (reads cq).getD k [] = t := ⟨_, rfl⟩
     rw [hr] at V44 HRD HMS HPS HBJ
     obtain ⟨fd, hfd⟩ : ∃ t, decide (sl ∈ (reads cq).take k) = t := ⟨_, rfl⟩
     rw [hfd] at HMS ⊢
     obtain ⟨pv, hpv⟩ : ∃ t, prevL cq k = t := ⟨_, rfl⟩
     rw [hpv] at HI7 HBJ
     clear hr hfd hpv
     go_upto_region 21 with (go_at_call 44; (with_reducible refine (V44.out).mono ?_); rintro e X1 ⟨D, m, d, rfl, hi, hm, hmd, hdc, hg⟩; have HI6 := Lib.hid hi; have HM6 := Lib.hid (And.intro hm (And.intro hmd hdc)); have GY1 := Lib.hid hg; have GX1 := Lib.hid (HGk.out.trans (hg.mono HGk.out.size)); clear hi hm hmd hdc hg)
     have V45 := Lib.hid (fun X (g : Below X1.heap.size X1 X) => (show Calls Tryz.prog 45 #[.slice A1 n1 c1, .int .i64 kn, .slice D m d] X fun e w' => e = .returned (.int .i64 0) ∧ Below X.heap.size X w' by
      have := U45.out X (GX1.out.trans (g.mono GX1.out.size)) D m d r (HI6.out.below g) HM6.out.2.1 HM6.out.2.2
      rwa [HRD.out, show err true 23 = 0 from rfl] at this))
     have V56 := Lib.hid (before_any A7 n7 c7 pv D m d r X1 (HI7.out.below GY1.out) HI6.out HN7.out)
     have V19 := Lib.hid (fun X (g : Below X1.heap.size X1 X) => sameInts_any D C m d nc cc r sl X (HI6.out.below g) (HLL.out.below (GX1.out.trans (g.mono GX1.out.size))) (by have := HM6.out.1; omega) (by have := HMD.out; omega))
     have HBC := Lib.hid (fun X (g : Below X1.heap.size X1 X) => (HCL.out.ext (GX1.out.trans (g.mono GX1.out.size))).cell 2)
     obtain ⟨sb, hsb⟩ : ∃ b, decide (r = sl) = b := ⟨_, rfl⟩
     rw [hsb] at V19 HMS
     clear hsb
     have b2 := HBC.out X1 (Below.refl _ _)
     have Z0 := Lib.hid (Below.refl X1.heap.size X1)
     by_cases h0 : k = 0
     ·subst h0
      cases fd with
      | true =>
       go_wp2_with (first | (go_at_call 45; (with_reducible refine (V45.out _ Z0.out).mono ?_); rintro e X3 ⟨rfl, hg⟩; have Z2 := Lib.hid (Z0.out.trans (hg.mono Z0.out.size)); have b4 := HBC.out X3 Z2.out; clear hg))
       go_roundw
       case rel => exact ⟨0 + 1, D, m, d, by omega, by rw [HMS.out, Bool.true_or], rfl, by rw [HPS.out]; exact HI6.out.below Z2.out, HM6.out.1, rfl, GX1.out.trans (Z2.out.mono GX1.out.size)⟩
       case measure => simp only [intOf]; omega
      | false =>
       go_wp2_with (first | (go_at_call 45; (with_reducible refine (V45.out _ Z0.out).mono ?_); rintro e X3 ⟨rfl, hg⟩; have Z2 := Lib.hid (Z0.out.trans (hg.mono Z0.out.size)); have b4 := HBC.out X3 Z2.out; clear hg) | (go_at_call 19; (with_reducible refine (V19.out _ Z2.out).mono ?_); rintro e X4 ⟨rfl, hg⟩; have Z3 := Lib.hid (Z2.out.trans (hg.mono Z2.out.size)); clear hg))
       go_roundw
       case rel => exact ⟨0 + 1, D, m, d, by omega, by rw [HMS.out, Bool.false_or], rfl, by rw [HPS.out]; exact HI6.out.below Z3.out, HM6.out.1, rfl, GX1.out.trans (Z3.out.mono GX1.out.size)⟩
       case measure => simp only [intOf]; omega
     ·obtain ⟨j, rfl⟩ : ∃ j, k = j + 1 := ⟨k - 1, by omega⟩
      have hj0 : (0 : Int) < (j : Int) + 1 := by omega
      have hbj := HBJ.out j rfl
      rw [hbj] at V56
      have hjj : ((j : Int) + 1).tmod 20 = (((j + 1) % 20 : Nat) : Int) := by
       rw [Int.tmod_eq_emod_of_nonneg (by omega)]
       omega
      have hjw : wrap64 (((j : Int) + 1).tmod 20) = (((j + 1) % 20 : Nat) : Int) := by rw [hjj]; exact wrap_in (by omega)
      clear hbj
      by_cases hm20 : (j + 1) % 20 = 0
      ·have hmb : ((((j + 1) % 20 : Nat) : Int) == 0) = true := beq_iff_eq.2 (by omega)
       have hmc : (((j : Int) + 1) % 20 == 0) = true := beq_iff_eq.2 (by omega)
       have hmd : (((j : Int) + 1).tmod 20 == 0) = true := by rw [hjj]; exact hmb
       cases fd with
       | true =>
        go_wp2_with (first | (go_at_call 56; (with_reducible refine (V56.out).mono ?_); rintro e X2 ⟨rfl, hg⟩; have Z1 := Lib.hid hg; have b3 := HBC.out X2 hg; clear hg) | (go_at_call 45; (with_reducible refine (V45.out _ Z1.out).mono ?_); rintro e X3 ⟨rfl, hg⟩; have Z2 := Lib.hid (Z1.out.trans (hg.mono Z1.out.size)); have b4 := HBC.out X3 Z2.out; clear hg))
        go_roundw
        case rel => exact ⟨(j + 1) + 1, D, m, d, by omega, by rw [HMS.out, Bool.true_or], rfl, by rw [HPS.out]; exact HI6.out.below Z2.out, HM6.out.1, rfl, GX1.out.trans (Z2.out.mono GX1.out.size)⟩
        case measure => simp only [intOf]; omega
       | false =>
        go_wp2_with (first | (go_at_call 56; (with_reducible refine (V56.out).mono ?_); rintro e X2 ⟨rfl, hg⟩; have Z1 := Lib.hid hg; have b3 := HBC.out X2 hg; clear hg) | (go_at_call 45; (with_reducible refine (V45.out _ Z1.out).mono ?_); rintro e X3 ⟨rfl, hg⟩; have Z2 := Lib.hid (Z1.out.trans (hg.mono Z1.out.size)); have b4 := HBC.out X3 Z2.out; clear hg) | (go_at_call 19; (with_reducible refine (V19.out _ Z2.out).mono ?_); rintro e X4 ⟨rfl, hg⟩; have Z3 := Lib.hid (Z2.out.trans (hg.mono Z2.out.size)); clear hg))
        go_roundw
        case rel => exact ⟨(j + 1) + 1, D, m, d, by omega, by rw [HMS.out, Bool.false_or], rfl, by rw [HPS.out]; exact HI6.out.below Z3.out, HM6.out.1, rfl, GX1.out.trans (Z3.out.mono GX1.out.size)⟩
        case measure => simp only [intOf]; omega
      ·have hmb : ((((j + 1) % 20 : Nat) : Int) == 0) = false := beq_eq_false_iff_ne.2 (by omega)
       have hmc : (((j : Int) + 1) % 20 == 0) = false := beq_eq_false_iff_ne.2 (by omega)
       have hmd : (((j : Int) + 1).tmod 20 == 0) = false := by rw [hjj]; exact hmb
       cases fd with
       | true =>
        go_wp2_with (first | (go_at_call 56; (with_reducible refine (V56.out).mono ?_); rintro e X2 ⟨rfl, hg⟩; have Z1 := Lib.hid hg; have b3 := HBC.out X2 hg; clear hg))
        go_roundw
        case rel => exact ⟨(j + 1) + 1, D, m, d, by omega, by rw [HMS.out, Bool.true_or], rfl, by rw [HPS.out]; exact HI6.out.below Z1.out, HM6.out.1, rfl, GX1.out.trans (Z1.out.mono GX1.out.size)⟩
        case measure => simp only [intOf]; omega
       | false =>
        go_wp2_with (first | (go_at_call 56; (with_reducible refine (V56.out).mono ?_); rintro e X2 ⟨rfl, hg⟩; have Z1 := Lib.hid hg; have b3 := HBC.out X2 hg; clear hg) | (go_at_call 19; (with_reducible refine (V19.out _ Z1.out).mono ?_); rintro e X4 ⟨rfl, hg⟩; have Z3 := Lib.hid (Z1.out.trans (hg.mono Z1.out.size)); clear hg))
        go_roundw
        case rel => exact ⟨(j + 1) + 1, D, m, d, by omega, by rw [HMS.out, Bool.false_or], rfl, by rw [HPS.out]; exact HI6.out.below Z3.out, HM6.out.1, rfl, GX1.out.trans (Z3.out.mono GX1.out.size)⟩
        case measure => simp only [intOf]; omega
    ·obtain rfl : k = N := by omega
     have V44n := Lib.hid (U44n.out _ HGk.out (k : Int) (by omega))
     have hms := HMA.out
     obtain ⟨fd, hfd⟩ : ∃ t, decide (sl ∈ (reads cq).take k) = t := ⟨_, rfl⟩
     rw [hfd] at hms ⊢
     subst hms
     have hff : (fd == fd) = true := by simp
     clear hfd
     go_wp2_with (first
      | (go_at_call 44; (with_reducible refine (V44n.out).mono ?_); rintro e X1 ⟨⟨D, m, d, rfl⟩, hg⟩; have GX1 := Lib.hid (HGk.out.trans (hg.mono HGk.out.size)); clear hg)
      | (go_at_call 20; (with_reducible refine (TS.out _).mono ?_); rintro e V9 ⟨rfl, hg⟩; have GV9 := Lib.hid (GX1.out.trans (hg.mono GX1.out.size)); clear hg))
     go_ret
     exact ⟨rfl, GW.out.trans (GV9.out.mono GWS.out)⟩
end Go.Proofs.YtehhlgdkhecacaaGreat
