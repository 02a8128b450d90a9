/- Part of the proof: EB, ED. -/
import Derived.Test.YtehhlgdkhecacaaGreatYA5
import Derived.Test.YtehhlgdkhecacaaGreatYB0
namespace Go.Proofs.YtehhlgdkhecacaaGreat
open Go.RowKit Go.Shelf
theorem rng_of {n lo hi : Int} (h1 : lo ≤ n) (h2 : n ≤ hi) : rng n lo hi = true := by unfold rng; simp [h1, h2]
theorem lookE_ok {l : List Qf} (h : okL l = true) {days : List Int} (hd : ∀ d ∈ days, 0 ≤ d ∧ d ≤ 4166) : lookE l days = 0 := by
 unfold lookE
 rw [if_pos h, if_neg]
 rw [Bool.not_eq_true, List.any_eq_false]
 intro d hm
 have := hd d hm
 unfold badDay
 rw [rng_of this.1 this.2]
 decide
theorem askE_of {l : List Qf} (h : okL l = true) {person parish : Int} (hp : 1 ≤ person ∧ person ≤ 999) (hq : 0 ≤ parish ∧ parish ≤ 5) {days : List Int} (hd : ∀ d ∈ days, 0 ≤ d ∧ d ≤ 4166) : askE l person parish days = 0 := by
 unfold askE
 rw [if_pos h, if_pos (rng_of hp.1 hp.2), if_pos (rng_of hq.1 hq.2)]
 exact lookE_ok h hd
theorem byRd_of {l : List Qf} (h : okL l = true) {person known : Int} (hp : 1 ≤ person ∧ person ≤ 999) {days : List Int} (hd : ∀ d ∈ days, 0 ≤ d ∧ d ≤ 4166) {r : List Int} (hr : isRd (cntL l known) r = true) : byRdE l person known days r = 0 := by
 unfold byRdE
 rw [if_pos (askE_of h hp ⟨by omega, by omega⟩ hd), if_pos hr]
theorem readE_of {l : List Qf} (h : okL l = true) {person parish known : Int} (hp : 1 ≤ person ∧ person ≤ 999) (hq : 0 ≤ parish ∧ parish ≤ 5) {days : List Int} (hd : ∀ d ∈ days, 0 ≤ d ∧ d ≤ 4166) : readE l person parish days known = if isRead (cntL l known) = true then 0 else 24 := by
 unfold readE
 rw [if_pos (askE_of h hp hq hd)]
theorem ok_days {l : List Qf} (h : ∀ q ∈ l, isQf q = true) : Days l := fun i hi => by
 have hm : l.getD i q0 ∈ l := by
  rw [List.getD_eq_getElem?_getD, List.getElem?_eq_getElem hi]
  exact List.getElem_mem hi
 exact (day_bd (h _ hm)).1
theorem cnt_ok {l : List Qf} (h : okL l = true) (known : Int) : okL (cntL l known) = true := okL_subl h List.filter_sublist
end Go.Proofs.YtehhlgdkhecacaaGreat

namespace Go.Proofs.YtehhlgdkhecacaaGreat
open Go.RowKit Go.Shelf
theorem setL_len (l : List Int) : (setL l).length ≤ l.length := by
 have := putF_len l []
 rw [List.length_nil, Nat.zero_add] at this
 exact this
theorem wher_len {l : List Qf} (h : okL l = true) (known person day : Int) : (wherS (cntL l known) person day).length ≤ 2000 := by
 unfold wherS
 have h1 := setL_len ((reads (cntL l known)).map fun r => setS (cntL l known) r person day)
 rw [List.length_map] at h1
 exact Nat.le_trans h1 (reads_len h known)
theorem pers_len {l : List Qf} (h : okL l = true) (known : Int) : (persS (cntL l known)).length ≤ 300 := by
 have h1 := persS_len (c := cntL l known) fun q hq => (isQf_per4 (okL_all h q (List.mem_filter.1 hq).1)).2
 have h2 : (cntL l known).length ≤ l.length := List.length_filter_le _ _
 have h3 := okL_len h
 omega
theorem mem_len {l : List Qf} (h : okL l = true) (known : Int) (g : Int → Bool) (parish day : Int) : (memS g (cntL l known) parish day).length ≤ 300 := Nat.le_trans (List.length_filter_le _ _) (pers_len h known)
/-- A short list without an error. -/
def ListSh (L : List Int) (w : World) (e : Ending) (w' : World) : Prop := ∃ D m d, e = .returned (.tuple #[.slice D m d, .int .i64 0]) ∧ Ints w' D m L ∧ m ≤ 3000 ∧ m ≤ d ∧ d ≤ 9223372036854775807 ∧ Below w.heap.size w w'
theorem ListEnd.sh {l : List Int} {E : Int} {w : World} {e : Ending} {w' : World} (h : ListEnd l E w e w') (hE : E = 0) (hl : l.length ≤ 3000) : ListSh l w e w' := by
 subst hE
 obtain ⟨D, m, d, rfl, hi, h1, h2, hg⟩ := h
 rw [if_pos rfl] at hi
 unfold maxLen at h2
 exact ⟨D, m, d, rfl, hi, by have := hi.1; omega, h1, by omega, hg⟩
set_option maxRecDepth 100000 in
set_option maxHeartbeats 16000000 in
theorem law11_any (A : Option Addr) (n c : Nat) (x : List Ra) (z0 z1 z2 : Int) (w : World) (ha : Arr rcells 9 w A n x) (hn : n ≤ 9223372036854775807) (hx : ∀ r ∈ x, RaOk r) :
  Calls Tryz.prog 11 #[.slice A n c, .agg #[.int .i64 z0, .int .i64 z1, .int .i64 z2]] w fun e w' => e = .returned (.bool true) ∧ Below w.heap.size w w' := by
 obtain ⟨W1, hW1⟩ : ∃ X, w.alloc (.cells #[.int .i64 z0, .int .i64 z1, .int .i64 z2] 71) = X := ⟨_, rfl⟩
 have G1 := Lib.hid (show Below w.heap.size w W1 by rw [← hW1]; exact one_more _ _)
 have B1 := Lib.hid (show Blk W1 w.heap.size 71 #[.int .i64 z0, .int .i64 z1, .int .i64 z2] by rw [← hW1]; exact Blk.new _ _ _)
 have HW1 := Lib.hid hW1
 have TM := Lib.hid refMod_any
 have TS := Lib.hid sane_any
 have TH := Lib.hid (honest_any A n c x W1 (ha.below G1.out) hn hx)
 have HOK := Lib.hid (hon_ok x)
 have HRD := Lib.hid (show isRd (cntL (honL x) 0) (honW x) = true by rw [hon_cnt]; exact hon_rd x)
 have HCN := Lib.hid (hon_cnt x)
 obtain ⟨hl, hhl⟩ : ∃ l, honL x = l := ⟨_, rfl⟩
 obtain ⟨hw, hhw⟩ : ∃ l, honW x = l := ⟨_, rfl⟩
 rw [hhl] at TH HOK HRD HCN
 rw [hhw] at TH HRD
 clear ha hx hhl hhw hW1
 go_enter Tryz.func11, Tryz.ntmps11
 go_upto_region 1 with fail
 rw [HW1.out]
 go_upto_region 2 with (go_at_call 43; (with_reducible refine (TH.out).mono ?_); rintro e V ⟨A1, n1, c1, A2, n2, c2, ls, rfl, hp, hq, hi, hn1, hn2, hc2, hg⟩; have HP := Lib.hid hp; have HQ := Lib.hid hq; have HI := Lib.hid hi; have HN := Lib.hid (And.intro hn1 (And.intro hn2 hc2)); have GV := Lib.hid hg; have HG := Lib.hid (G1.out.trans (hg.mono G1.out.size)); clear hp hq hi hn1 hn2 hc2 hg)
 have d0 := (B1.out.ext GV.out).cell 0
 have d2 := (B1.out.ext GV.out).cell 2
 go_upto_region 4 with (go_at_call 38; (with_reducible refine (TM.out _ _ _ (by omega) (by omega)).mono ?_); rintro e w' ⟨rfl, rfl⟩)
 clear d0 d2
 obtain ⟨day, hday⟩ : ∃ d, z0 % 2500 = d := ⟨_, rfl⟩
 obtain ⟨par, hpar⟩ : ∃ d, z2 % 3 = d := ⟨_, rfl⟩
 have HD := Lib.hid (show 0 ≤ day ∧ day ≤ 4166 by omega)
 have HPR := Lib.hid (show 0 ≤ par ∧ par ≤ 5 by omega)
 rw [hday, hpar]
 clear hday hpar
 have HN1 := Lib.hid (show n1 ≤ 9223372036854775807 by have := HN.out; omega)
 have HC2 := Lib.hid (show c2 ≤ 9223372036854775807 by have := HN.out.2.2; unfold maxLen at this; omega)
 have HDS := Lib.hid (show ∀ d ∈ ([day, 0] : List Int), 0 ≤ d ∧ d ≤ 4166 from fun d hd => by rw [List.mem_cons, List.mem_singleton] at hd; rcases hd with rfl | rfl; exact HD.out; omega)
 have HRE := Lib.hid (show isRead (cntL hl 0) = true from isRead_iff.2 ⟨hw, HRD.out⟩)
 have HDY := Lib.hid (ok_days (okL_all HOK.out))
 have T48 := Lib.hid (show Calls Tryz.prog 48 #[.slice A1 n1 c1] V (fun e w' => e = .returned (.int .i64 0) ∧ Below V.heap.size V w') by
  have := check_any A1 n1 c1 ls V HP.out HN1.out
  rwa [HQ.out, HOK.out, show err true 21 = 0 from rfl] at this)
 have T45 := Lib.hid (fun W (g : Below V.heap.size V W) => (show Calls Tryz.prog 45 #[.slice A1 n1 c1, .int .i64 0, .slice A2 n2 c2] W (fun e w' => e = .returned (.int .i64 0) ∧ Below W.heap.size W w') by
  have := checkReading_any A1 n1 c1 ls 0 A2 n2 c2 hw W (HP.out.below g) HN1.out (HI.out.below g) HN.out.2.1 HC2.out
  rw [HQ.out] at this
  rwa [show ckRdE hl 0 hw = 0 by unfold ckRdE; rw [lookE_ok HOK.out (fun d hd => by rw [List.mem_singleton] at hd; subst hd; omega), if_pos rfl, HRD.out]; rfl] at this))
 have T34 := Lib.hid (fun W (g : Below V.heap.size V W) => (show Calls Tryz.prog 34 #[.slice A1 n1 c1, .int .i64 par, .int .i64 day, .int .i64 0] W (ListSh (belS hl par day) W) by
  have := belong_any A1 n1 c1 ls par day 0 W (HP.out.below g) HN1.out
  rw [HQ.out] at this
  refine this.mono fun e w' h => ?_
  have h2 := h.sh (by rw [readE_of HOK.out ⟨by omega, by omega⟩ HPR.out HDS.out, if_pos HRE.out]) (Nat.le_trans (mem_len HOK.out _ _ _ _) (by omega))
  rwa [HCN.out] at h2))
 have T36 := Lib.hid (fun W (g : Below V.heap.size V W) => (show Calls Tryz.prog 36 #[.slice A1 n1 c1, .int .i64 par, .int .i64 day, .int .i64 0] W (ListSh (mayS hl par day) W) by
  have := mayF_any A1 n1 c1 ls par day 0 W (HP.out.below g) HN1.out
  rw [HQ.out] at this
  refine this.mono fun e w' h => ?_
  have h2 := h.sh (by rw [readE_of HOK.out ⟨by omega, by omega⟩ HPR.out HDS.out, if_pos HRE.out]) (Nat.le_trans (mem_len HOK.out _ _ _ _) (by omega))
  rwa [HCN.out] at h2))
 have T23 := Lib.hid (fun W (g : Below V.heap.size V W) p (hp : 1 ≤ p ∧ p ≤ 999) => (show Calls Tryz.prog 23 #[.slice A1 n1 c1, .slice A2 n2 c2, .int .i64 p, .int .i64 day, .int .i64 0] W (fun e w' => e = .returned (.tuple #[.int .i64 (setS hl hw p day), .int .i64 0]) ∧ Below W.heap.size W w') by
  have := settledF_any A1 n1 c1 ls A2 n2 c2 hw p day 0 W (HP.out.below g) HN1.out (HI.out.below g) HN.out.2.1 HC2.out
  rw [HQ.out, byRd_of HOK.out hp HDS.out HRD.out, HCN.out] at this
  unfold SettledEnd at this
  rwa [if_pos rfl] at this))
 have T26 := Lib.hid (fun W (g : Below V.heap.size V W) p (hp : 1 ≤ p ∧ p ≤ 999) => (show Calls Tryz.prog 26 #[.slice A1 n1 c1, .int .i64 p, .int .i64 day, .int .i64 0] W (ListSh (wherS hl p day) W) by
  have := whereF_any A1 n1 c1 ls p day 0 W (HP.out.below g) HN1.out
  rw [HQ.out] at this
  refine this.mono fun e w' h => ?_
  have h2 := h.sh (by rw [readE_of HOK.out hp ⟨by omega, by omega⟩ HDS.out, if_pos HRE.out]) (Nat.le_trans (wher_len HOK.out _ _ _) (by omega))
  rwa [HCN.out] at h2))
 have T28 := Lib.hid (fun W (g : Below V.heap.size V W) p (hp : 1 ≤ p ∧ p ≤ 999) => (show Calls Tryz.prog 28 #[.slice A1 n1 c1, .int .i64 p, .int .i64 par, .int .i64 day, .int .i64 0] W (fun e w' => e = .returned (.tuple #[.int .i64 (righN (wherS hl p day) par), .int .i64 0]) ∧ Below W.heap.size W w') by
  have := rightF_any A1 n1 c1 ls p par day 0 W (HP.out.below g) HN1.out
  rw [HQ.out, readE_of HOK.out hp HPR.out HDS.out, if_pos HRE.out, HCN.out] at this
  unfold NumEnd at this
  rwa [if_pos rfl] at this))
 have HRL := Lib.hid (show isRd hl hw = true by have := HRD.out; rwa [HCN.out] at this)
 have HF1 := Lib.hid (fun p => (show setS hl hw p day ∈ wherS hl p day from wherS_mem.2 ⟨hw, HRL.out, rfl⟩))
 have HF2 := Lib.hid (fun p (h : righN (wherS hl p day) par = 1) => right_yes h HRL.out)
 have HF3 := Lib.hid (fun p (h : righN (wherS hl p day) par = 0) => right_no h HRL.out)
 have HF4 := Lib.hid (fun p (h : p ∈ belS hl par day) => bel_is h HRL.out)
 have HF5 := Lib.hid (fun p (h : setS hl hw p day = par) => may_is HDY.out HRL.out (by have := HPR.out; omega) h)
 have HF6 := Lib.hid (fun p => righN_cases (wherS hl p day) par)
 obtain ⟨bel, hbel⟩ : ∃ l, belS hl par day = l := ⟨_, rfl⟩
 obtain ⟨may, hmay⟩ : ∃ l, mayS hl par day = l := ⟨_, rfl⟩
 rw [hbel] at T34 HF4
 rw [hmay] at T36 HF5
 clear hbel hmay
 go_upto_region 10 with (first
  | (go_at_call 48; (with_reducible refine (T48.out).mono ?_); rintro e V1 ⟨rfl, hg⟩; have GV1 := Lib.hid hg; clear hg)
  | (go_at_call 45; (with_reducible refine (T45.out _ GV1.out).mono ?_); rintro e V2 ⟨rfl, hg⟩; have GV2 := Lib.hid (GV1.out.trans (hg.mono GV1.out.size)); clear hg)
  | (go_at_call 34; (with_reducible refine (T34.out _ GV2.out).mono ?_); rintro e V3 ⟨A3, n3, c3, rfl, hi, hm, -, -, hg⟩; have HI3 := Lib.hid hi; have HM3 := Lib.hid hm; have GV3 := Lib.hid (GV2.out.trans (hg.mono GV2.out.size)); clear hi hm hg)
  | (go_at_call 36; (with_reducible refine (T36.out _ GV3.out).mono ?_); rintro e V4 ⟨A4, n4, c4, rfl, hi, hm, -, -, hg⟩; have HI4 := Lib.hid hi; have HM4 := Lib.hid hm; have GV4 := Lib.hid (GV3.out.trans (hg.mono GV3.out.size)); have HI3' := Lib.hid (HI3.out.below hg); clear hi hm hg))
 go_wp2_with fail
 go_loopw [13] (fun i wr => ∃ k : Nat, k ≤ 5 ∧ i = .int .i64 ((k : Int) + 1) ∧ Below V4.heap.size V4 wr) (fun i _ => 6 - (intOf i).toNat)
 case atStart => exact ⟨0, Nat.zero_le _, rfl, Below.refl _ _⟩
 case round =>
  obtain ⟨k, hk, rfl, hg⟩ := hrel
  have HG9 := Lib.hid hg
  have hwk : wrap64 ((k : Int) + 1 + 1) = (k : Int) + 1 + 1 := wrap_in (by omega)
  have GW := Lib.hid (GV4.out.trans (hg.mono GV4.out.size))
  clear hg
  by_cases hk5 : k < 5
  ·have hle : (k : Int) + 1 ≤ 5 := by omega
   have HK := Lib.hid (show 1 ≤ (k : Int) + 1 ∧ (k : Int) + 1 ≤ 999 by omega)
   have U23 := Lib.hid (fun W g => T23.out W g _ HK.out)
   have U26 := Lib.hid (fun W g => T26.out W g _ HK.out)
   have U28 := Lib.hid (fun W g => T28.out W g _ HK.out)
   have E1 := Lib.hid (HF1.out ((k : Int) + 1))
   have E2 := Lib.hid (HF2.out ((k : Int) + 1))
   have E3 := Lib.hid (HF3.out ((k : Int) + 1))
   have E4 := Lib.hid (HF4.out ((k : Int) + 1))
   have E5 := Lib.hid (HF5.out ((k : Int) + 1))
   have E6 := HF6.out ((k : Int) + 1)
   obtain ⟨at_, hat⟩ : ∃ t, setS hl hw ((k : Int) + 1) day = t := ⟨_, rfl⟩
   obtain ⟨ws, hws⟩ : ∃ t, wherS hl ((k : Int) + 1) day = t := ⟨_, rfl⟩
   obtain ⟨an, han⟩ : ∃ t, righN ws par = t := ⟨_, rfl⟩
   rw [hat] at U23 E1 E2 E3 E4 E5
   rw [hws] at U26 U28 E1 E2 E3 E6
   rw [han] at U28 E2 E3 E6
   clear hat hws han
   go_upto_region 16 with (first
    | (go_at_call 23; (with_reducible refine (U23.out _ GW.out).mono ?_); rintro e X1 ⟨rfl, hg⟩; have GX1 := Lib.hid (GW.out.trans (hg.mono GW.out.size)); have GY1 := Lib.hid hg; clear hg)
    | (go_at_call 26; (with_reducible refine (U26.out _ GX1.out).mono ?_); rintro e X2 ⟨A6, n6, c6, rfl, hi, hm, -, -, hg⟩; have HI6 := Lib.hid hi; have HM6 := Lib.hid hm; have GX2 := Lib.hid (GX1.out.trans (hg.mono GX1.out.size)); have GY2 := Lib.hid (GY1.out.trans (hg.mono GY1.out.size)); clear hi hm hg)
    | (go_at_call 28; (with_reducible refine (U28.out _ GX2.out).mono ?_); rintro e X3 ⟨rfl, hg⟩; have HI6' := Lib.hid (HI6.out.below hg); have GX3 := Lib.hid (GX2.out.trans (hg.mono GX2.out.size)); have GY3 := Lib.hid (GY2.out.trans (hg.mono GY2.out.size)); clear hg))
   have GR := Lib.hid (HG9.out.trans (GY3.out.mono HG9.out.size))
   have H1 := Lib.hid (refHas_any A6 n6 c6 ws at_ X3 HI6'.out (by have := HM6.out; omega))
   rw [hasI_true E1.out] at H1
   have H2 := Lib.hid (refHas_any A3 n3 c3 bel ((k : Int) + 1) X3 (HI3'.out.below GR.out) (by have := HM3.out; omega))
   have H3 := Lib.hid (refHas_any A4 n4 c4 may ((k : Int) + 1) X3 (HI4.out.below GR.out) (by have := HM4.out; omega))
   obtain ⟨hb, hhb⟩ : ∃ b, hasI bel ((k : Int) + 1) = b := ⟨_, rfl⟩
   rw [hhb] at H2
   have HHB := Lib.hid hhb
   clear hhb
   rcases E6 with rfl | rfl | rfl
   ·have hp : at_ ≠ par := E3.out rfl
    have e1 : (at_ != par) = true := by simpa using hp
    have e2 : (at_ == par) = false := beq_eq_false_iff_ne.2 hp
    obtain rfl : hb = false := by
     cases hb with
     | false => rfl
     | true => exact absurd (E4.out (hasI_iff.1 HHB.out)) hp
    clear hp
    go_wp2_with (first | (go_at_call 40; (with_reducible refine (H1.out).mono ?_); rintro e X9 ⟨rfl, rfl⟩) | (go_at_call 40; (with_reducible refine (H2.out).mono ?_); rintro e X9 ⟨rfl, rfl⟩) | (go_at_call 40; (with_reducible refine (H3.out).mono ?_); rintro e X9 ⟨rfl, rfl⟩))
    go_roundw
    case rel => exact ⟨k + 1, by omega, rfl, GR.out⟩
    case measure => simp only [intOf]; omega
   ·have hp : at_ = par := E2.out rfl
    have e1 : (at_ != par) = false := by rw [hp]; simp
    have e2 : (at_ == par) = true := beq_iff_eq.2 hp
    have hm := hasI_true (E5.out hp)
    rw [hm] at H3
    clear hp hm
    cases hb with
    | true =>
     go_wp2_with (first | (go_at_call 40; (with_reducible refine (H1.out).mono ?_); rintro e X9 ⟨rfl, rfl⟩) | (go_at_call 40; (with_reducible refine (H2.out).mono ?_); rintro e X9 ⟨rfl, rfl⟩) | (go_at_call 40; (with_reducible refine (H3.out).mono ?_); rintro e X9 ⟨rfl, rfl⟩))
     go_roundw
     case rel => exact ⟨k + 1, by omega, rfl, GR.out⟩
     case measure => simp only [intOf]; omega
    | false =>
     go_wp2_with (first | (go_at_call 40; (with_reducible refine (H1.out).mono ?_); rintro e X9 ⟨rfl, rfl⟩) | (go_at_call 40; (with_reducible refine (H2.out).mono ?_); rintro e X9 ⟨rfl, rfl⟩) | (go_at_call 40; (with_reducible refine (H3.out).mono ?_); rintro e X9 ⟨rfl, rfl⟩))
     go_roundw
     case rel => exact ⟨k + 1, by omega, rfl, GR.out⟩
     case measure => simp only [intOf]; omega
   ·by_cases hp : at_ = par
    ·have e1 : (at_ != par) = false := by rw [hp]; simp
     have e2 : (at_ == par) = true := beq_iff_eq.2 hp
     have hm := hasI_true (E5.out hp)
     rw [hm] at H3
     clear hp hm
     cases hb with
     | true =>
      go_wp2_with (first | (go_at_call 40; (with_reducible refine (H1.out).mono ?_); rintro e X9 ⟨rfl, rfl⟩) | (go_at_call 40; (with_reducible refine (H2.out).mono ?_); rintro e X9 ⟨rfl, rfl⟩) | (go_at_call 40; (with_reducible refine (H3.out).mono ?_); rintro e X9 ⟨rfl, rfl⟩))
      go_roundw
      case rel => exact ⟨k + 1, by omega, rfl, GR.out⟩
      case measure => simp only [intOf]; omega
     | false =>
      go_wp2_with (first | (go_at_call 40; (with_reducible refine (H1.out).mono ?_); rintro e X9 ⟨rfl, rfl⟩) | (go_at_call 40; (with_reducible refine (H2.out).mono ?_); rintro e X9 ⟨rfl, rfl⟩) | (go_at_call 40; (with_reducible refine (H3.out).mono ?_); rintro e X9 ⟨rfl, rfl⟩))
      go_roundw
      case rel => exact ⟨k + 1, by omega, rfl, GR.out⟩
      case measure => simp only [intOf]; omega
    ·have e1 : (at_ != par) = true := by simpa using hp
     have e2 : (at_ == par) = false := beq_eq_false_iff_ne.2 hp
     obtain rfl : hb = false := by
      cases hb with
      | false => rfl
      | true => exact absurd (E4.out (hasI_iff.1 HHB.out)) hp
     clear hp
     go_wp2_with (first | (go_at_call 40; (with_reducible refine (H1.out).mono ?_); rintro e X9 ⟨rfl, rfl⟩) | (go_at_call 40; (with_reducible refine (H2.out).mono ?_); rintro e X9 ⟨rfl, rfl⟩) | (go_at_call 40; (with_reducible refine (H3.out).mono ?_); rintro e X9 ⟨rfl, rfl⟩))
     go_roundw
     case rel => exact ⟨k + 1, by omega, rfl, GR.out⟩
     case measure => simp only [intOf]; omega
  ·obtain rfl : k = 5 := by omega
   have hle : ¬ ((5 : Nat) : Int) + 1 ≤ 5 := by omega
   go_wp2_with (go_at_call 20; (with_reducible refine (TS.out _).mono ?_); rintro e V9 ⟨rfl, hg⟩; have GV9 := Lib.hid (GW.out.trans (hg.mono GW.out.size)); clear hg)
   go_ret
   exact ⟨rfl, HG.out.trans (GV9.out.mono HG.out.size)⟩
end Go.Proofs.YtehhlgdkhecacaaGreat
