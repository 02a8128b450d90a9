/- Part of the proof: BM. -/
import Derived.Test.YtehhlgdkhecacaaGreatYA2
namespace Go.Proofs.YtehhlgdkhecacaaGreat
open Go.RowKit Go.Shelf
theorem ofReadW_any (A : Option Addr) (n : Nat) (l : List Pf) (b : List Int) (w : World) (h : Cn w A n l) (V : World) (v : Value) (g : Below w.heap.size w V) (ho : OwnL pcells 9 56 V w.heap.size v (l.filter fun p => hasI b p.q.src)) :
  ∃ A2 n2 c2, v = .slice A2 n2 c2 ∧ n2 = (ofL (l.map Pf.q) b).length ∧ ∀ W, Below V.heap.size V W → Calls Tryz.prog 109 #[.slice A2 n2 c2] W fun e w' => e = .returned (.bool (isRead (ofL (l.map Pf.q) b))) ∧ Below W.heap.size W w' := by
 obtain ⟨A2, c2, rfl, -, -, hp⟩ := own_prf ho (fun p hp => (h.prf.p p (List.mem_filter.1 hp).1).below g)
 have hl := List.length_filter_le (fun p : Pf => hasI b p.q.src) l
 rw [h.prf.len] at hl
 have T := fun W (g2 : Below V.heap.size V W) => isRead_any A2 _ c2 _ W (hp.below g2) (by have := h.n; omega)
 rw [of_map] at T
 exact ⟨A2, _, c2, rfl, by rw [← of_map, List.length_map], T⟩
/-- The error of CheckClash. -/
def ckClE (l : List Qf) (known : Int) (b : List Int) : Int := if lookE l [known] = 0 then err (ckCl (cntL l known) b) 25 else lookE l [known]
theorem ckCl_no1 {c : List Qf} {b : List Int} (h : upB b = false) : ckCl c b = false := by unfold ckCl; rw [h]; simp
theorem ckCl_no2 {c : List Qf} {b : List Int} (hc : (srcL c).Pairwise (· < ·)) (h : upB b = true) (hl : (ofL c b).length ≠ b.length) : ckCl c b = false := by
 rw [Bool.eq_false_iff]
 intro e
 unfold ckCl at e
 simp only [Bool.and_eq_true] at e
 refine hl ((ofL_len hc (upB_iff.1 h)).2 fun x hx => ?_)
 exact of_decide_eq_true (List.all_eq_true.1 e.1.1.2 x hx)
theorem ckCl_no3 {c : List Qf} {b : List Int} (h : isRead (ofL c b) = true) : ckCl c b = false := by unfold ckCl; rw [h]; simp
theorem ckCl_no4 {c : List Qf} {b : List Int} {i : Nat} (hi : i < b.length) (h : isRead (ofL c (b.eraseIdx i)) = false) : ckCl c b = false := by
 rw [Bool.eq_false_iff]
 intro e
 unfold ckCl at e
 simp only [Bool.and_eq_true] at e
 have := List.all_eq_true.1 e.2 i (List.mem_range.2 hi)
 rw [h] at this
 exact absurd this (by decide)
theorem ckCl_yes {c : List Qf} {b : List Int} (hc : (srcL c).Pairwise (· < ·)) (h : upB b = true) (hl : (ofL c b).length = b.length) (h3 : isRead (ofL c b) = false) (h4 : ∀ i, i < b.length → isRead (ofL c (b.eraseIdx i)) = true) : ckCl c b = true := by
 unfold ckCl
 simp only [Bool.and_eq_true, Bool.not_eq_true']
 refine ⟨⟨⟨h, List.all_eq_true.2 fun x hx => decide_eq_true ((ofL_len hc (upB_iff.1 h)).1 hl x hx)⟩, h3⟩, List.all_eq_true.2 fun i hi => h4 i (List.mem_range.1 hi)⟩
set_option maxRecDepth 100000 in
set_option maxHeartbeats 8000000 in
theorem checkClash_any (A : Option Addr) (n c : Nat) (l : List Pf) (known : Int) (B : Option Addr) (m d0 : Nat) (b : List Int) (w : World) (ha : Prf w A n l) (hn : n ≤ 9223372036854775807) (hb : Ints w B m b) (hm : m ≤ 9223372036854775807) :
  Calls Tryz.prog 54 #[.slice A n c, .int .i64 known, .slice B m d0] w fun e w' => e = .returned (.int .i64 (ckClE (l.map Pf.q) known b)) ∧ Below w.heap.size w w' := by
 have T := look_one A n c l known w ha hn
 have HCE := Lib.hid (show ckClE (l.map Pf.q) known b = if lookE (l.map Pf.q) [known] = 0 then err (ckCl (cntL (l.map Pf.q) known) b) 25 else lookE (l.map Pf.q) [known] from rfl)
 have HCN := Lib.hid (fun (V : World) (D : Option Addr) (k : Nat) (fl : List Pf) (h : okL (l.map Pf.q) = true) (hs : fl.Sublist l) (hq : fl.map Pf.q = cntL (l.map Pf.q) known) (hp : Prf V D k fl) (h60 : k ≤ 60) =>
  (⟨⟨hp, h60, fun p hp => okL_all h _ (List.mem_map.2 ⟨p, hs.subset hp, rfl⟩), (((hs.map Pf.q).map Qf.src).nodup ((okL_src h).imp fun hlt => by omega)), by rw [hq]; exact reads_len h known⟩, ((okL_src h).sublist ((hs.map Pf.q).map Qf.src))⟩ : Cn V D k fl ∧ (srcL (fl.map Pf.q)).Pairwise (· < ·)))
 have HBI := Lib.hid (fun (W : World) (g : Below w.heap.size w W) => hb.below g)
 have HBL := Lib.hid (show b.length = m from hb.1)
 obtain ⟨ce, hce⟩ : ∃ s, ckClE (l.map Pf.q) known b = s := ⟨_, rfl⟩
 rw [hce] at HCE ⊢
 obtain ⟨le, hle⟩ : ∃ s, lookE (l.map Pf.q) [known] = s := ⟨_, rfl⟩
 rw [hle] at T HCE
 obtain ⟨cq, hcq⟩ : ∃ s, cntL (l.map Pf.q) known = s := ⟨_, rfl⟩
 rw [hcq] at T HCE HCN
 have HT := Lib.hid T
 clear T ha hb hce hle hcq
 by_cases hz : le = 0
 ·subst hz
  go_enter Tryz.func54, Tryz.ntmps54
  go_upto_region 4 with (go_at_call 73; (with_reducible refine (HT.out).mono ?_); rintro e V ⟨v, rfl, hg, h1, -⟩; obtain ⟨D, k, d, fl, rfl, hfq, hp, h60, -, -, hsub, hok⟩ := h1 (by trivial); have GV := Lib.hid hg; have CN := Lib.hid (HCN.out V D k fl hok hsub hfq hp h60); have HFQ := Lib.hid hfq; clear hg h1 hfq hp h60 hsub hok)
  have HSU := Lib.hid (show (srcL cq).Pairwise (· < ·) by rw [← HFQ.out]; exact CN.out.2)
  have HCE2 := Lib.hid (show ce = err (ckCl cq b) 25 by have := HCE.out; rwa [if_pos (by trivial)] at this)
  have TOF := Lib.hid (of_any D k d fl B m d0 b V CN.out.1.prf (by have := CN.out.1.n; omega) (HBI.out V GV.out) hm)
  go_upto_region 5 with (go_at_call 111; (with_reducible refine (TOF.out).mono ?_); rintro e V2 ⟨⟨v2, rfl, ho⟩, hg⟩; obtain ⟨A2, n2, c2, hv2, hn2, T8⟩ := ofReadW_any D k fl b V CN.out.1 V2 v2 hg ho; subst hv2; rw [HFQ.out] at T8 hn2; have HT8 := Lib.hid T8; have HN2 := Lib.hid hn2; have GV2 := Lib.hid (GV.out.trans (hg.mono GV.out.size)); have G12 := Lib.hid hg; clear ho hg T8 hn2)
  have TR := risesI_any B m d0 b V2 (HBI.out V2 GV2.out) hm
  obtain ⟨ub, hub⟩ : ∃ s, upB b = s := ⟨_, rfl⟩
  rw [hub] at TR
  have HTR := Lib.hid TR
  have HUB := Lib.hid hub
  clear TR hub
  cases ub with
  | false =>
   have e : ce = 25 := by rw [HCE2.out, ckCl_no1 HUB.out]; rfl
   subst e
   go_wp2_with (go_at_call 112; (with_reducible refine (HTR.out).mono ?_); rintro e V3 ⟨rfl, hg⟩; have GV3 := Lib.hid (GV2.out.trans (hg.mono GV2.out.size)); clear hg)
   go_ret
   exact ⟨rfl, GV3.out⟩
  | true =>
   by_cases hlen : n2 = m
   ·have hl2 : ((n2 : Int) != (m : Int)) = false := by simp [hlen]
    have HL := Lib.hid (show (ofL cq b).length = b.length by rw [← HN2.out, HBL.out]; exact hlen)
    have TI := HT8.out
    obtain ⟨rb, hrb⟩ : ∃ s, isRead (ofL cq b) = s := ⟨_, rfl⟩
    rw [hrb] at TI
    have HTI := Lib.hid TI
    have HRB := Lib.hid hrb
    have hm60 : m ≤ 60 := by
     rw [← hlen, HN2.out]
     have h1 := (ofL_sub cq b).length_le
     have h2 : cq.length = k := by rw [← HFQ.out, List.length_map, CN.out.1.prf.len]
     have := CN.out.1.n
     omega
    clear TI hrb hlen
    cases rb with
    | true =>
     have e : ce = 25 := by rw [HCE2.out, ckCl_no3 HRB.out]; rfl
     subst e
     go_wp2_with (first
      | (go_at_call 112; (with_reducible refine (HTR.out).mono ?_); rintro e V3 ⟨rfl, hg⟩; have G23 := Lib.hid hg; have GV3 := Lib.hid (GV2.out.trans (hg.mono GV2.out.size)); clear hg)
      | (go_at_call 109; (with_reducible refine (HTI.out _ G23.out).mono ?_); rintro e V4 ⟨rfl, hg⟩; have GV4 := Lib.hid (GV3.out.trans (hg.mono GV3.out.size)); clear hg))
     go_ret
     exact ⟨rfl, GV4.out⟩
    | false =>
     go_upto_region 8 with (first
      | (go_at_call 112; (with_reducible refine (HTR.out).mono ?_); rintro e V3 ⟨rfl, hg⟩; have G23 := Lib.hid hg; have GV3 := Lib.hid (GV2.out.trans (hg.mono GV2.out.size)); clear hg)
      | (go_at_call 109; (with_reducible refine (HTI.out _ G23.out).mono ?_); rintro e V4 ⟨rfl, hg⟩; have GV4 := Lib.hid (GV3.out.trans (hg.mono GV3.out.size)); have G14 := Lib.hid (G12.out.trans ((G23.out.trans (hg.mono G23.out.size)).mono G12.out.size)); clear hg))
     go_loopw [40] (fun i wr => ∃ j : Nat, j ≤ m ∧ i = .int .i64 j ∧ Below V.heap.size V wr ∧ ∀ t, t < j → isRead (ofL cq (b.eraseIdx t)) = true) (fun i _ => m - (intOf i).toNat)
     case atStart => exact ⟨0, Nat.zero_le _, rfl, G14.out, fun t ht => absurd ht (by omega)⟩
     case round =>
      obtain ⟨j, hj, rfl, hg, hall⟩ := hrel
      have HG := Lib.hid hg
      have HALL := Lib.hid hall
      clear hg hall
      by_cases hjm : j < m
      ·obtain ⟨rb, hrb⟩ : ∃ s, isRead (ofL cq (b.eraseIdx j)) = s := ⟨_, rfl⟩
       have HRB2 := Lib.hid hrb
       have HEL := Lib.hid (show (b.eraseIdx j).length = m - 1 by rw [List.length_eraseIdx_of_lt (by rw [HBL.out]; exact hjm), HBL.out])
       have TC := Lib.hid (cloneI_any B m d0 b wr (HBI.out wr (GV.out.trans (HG.out.mono GV.out.size))) (by omega))
       have hw1 : wrap64 ((j : Int) + 1) = (j : Int) + 1 := wrap_in (by omega)
       have hji : (j : Int) < (m : Int) := by omega
       clear hrb
       cases rb with
       | false =>
        have e : ce = 25 := by rw [HCE2.out, ckCl_no4 (by rw [HBL.out]; exact hjm) HRB2.out]; rfl
        subst e
        go_wp2_with (first
         | (go_at_call 95; (with_reducible refine (TC.out).mono ?_); rintro e W5 ⟨⟨v5, rfl, ho5⟩, hg5⟩; obtain ⟨g5, c5, hv5, hb5⟩ := own_head ho5 (by rw [HBL.out]; omega); rw [HBL.out] at hv5; subst hv5; have HO5 := Lib.hid ho5; have HG5 := Lib.hid hg5; have HB5 := Lib.hid hb5; have TD := Lib.hid (delInt_any wr.heap.size g5 m c5 j b W5 ho5 (by omega) (by omega)); clear ho5 hg5 hb5)
         | (go_at_call 110; (with_reducible refine (TD.out).mono ?_); rintro e W6 ⟨rfl, ho6, hf6⟩; have HG6 := Lib.hid (show Below wr.heap.size wr W6 from HG5.out.trans (hf6.low HB5.out HG5.out.size)); have HG7 := Lib.hid (HG.out.trans (HG6.out.mono HG.out.size)); have CN6 := Lib.hid (CN.out.1.below HG7.out); obtain ⟨A6, c6, e6, -, -, ha6, -⟩ := OwnL.arr kdI ho6; rw [HEL.out] at e6 ha6; cases e6; have TOF2 := Lib.hid (of_any D k d fl (some ⟨g5, 0, none⟩) (m - 1) c5 (b.eraseIdx j) W6 CN6.out.prf (by have := CN.out.1.n; omega) ha6 (by omega)); clear ho6 hf6 ha6)
         | (go_at_call 111; (with_reducible refine (TOF2.out).mono ?_); rintro e W7 ⟨⟨v7, rfl, ho7⟩, hg7⟩; obtain ⟨A8, n8, c8, hv8, -, T8⟩ := ofRead_any D k fl (b.eraseIdx j) W6 CN6.out W7 v7 hg7 ho7; subst hv8; rw [HFQ.out, HRB2.out] at T8; have HT9 := Lib.hid T8; have HG8 := Lib.hid (HG7.out.trans (hg7.mono HG7.out.size)); clear ho7 hg7 T8)
         | (go_at_call 109; (with_reducible refine (HT9.out).mono ?_); rintro e W8 ⟨rfl, hg8⟩; have HG9 := Lib.hid (HG8.out.trans (hg8.mono HG8.out.size)); clear hg8))
        go_ret
        exact ⟨rfl, GV.out.trans (HG9.out.mono GV.out.size)⟩
       | true =>
        go_wp2_with (first
         | (go_at_call 95; (with_reducible refine (TC.out).mono ?_); rintro e W5 ⟨⟨v5, rfl, ho5⟩, hg5⟩; obtain ⟨g5, c5, hv5, hb5⟩ := own_head ho5 (by rw [HBL.out]; omega); rw [HBL.out] at hv5; subst hv5; have HO5 := Lib.hid ho5; have HG5 := Lib.hid hg5; have HB5 := Lib.hid hb5; have TD := Lib.hid (delInt_any wr.heap.size g5 m c5 j b W5 ho5 (by omega) (by omega)); clear ho5 hg5 hb5)
         | (go_at_call 110; (with_reducible refine (TD.out).mono ?_); rintro e W6 ⟨rfl, ho6, hf6⟩; have HG6 := Lib.hid (show Below wr.heap.size wr W6 from HG5.out.trans (hf6.low HB5.out HG5.out.size)); have HG7 := Lib.hid (HG.out.trans (HG6.out.mono HG.out.size)); have CN6 := Lib.hid (CN.out.1.below HG7.out); obtain ⟨A6, c6, e6, -, -, ha6, -⟩ := OwnL.arr kdI ho6; rw [HEL.out] at e6 ha6; cases e6; have TOF2 := Lib.hid (of_any D k d fl (some ⟨g5, 0, none⟩) (m - 1) c5 (b.eraseIdx j) W6 CN6.out.prf (by have := CN.out.1.n; omega) ha6 (by omega)); clear ho6 hf6 ha6)
         | (go_at_call 111; (with_reducible refine (TOF2.out).mono ?_); rintro e W7 ⟨⟨v7, rfl, ho7⟩, hg7⟩; obtain ⟨A8, n8, c8, hv8, -, T8⟩ := ofRead_any D k fl (b.eraseIdx j) W6 CN6.out W7 v7 hg7 ho7; subst hv8; rw [HFQ.out, HRB2.out] at T8; have HT9 := Lib.hid T8; have HG8 := Lib.hid (HG7.out.trans (hg7.mono HG7.out.size)); clear ho7 hg7 T8)
         | (go_at_call 109; (with_reducible refine (HT9.out).mono ?_); rintro e W8 ⟨rfl, hg8⟩; have HG9 := Lib.hid (HG8.out.trans (hg8.mono HG8.out.size)); clear hg8))
        go_roundw
        case rel => exact ⟨j + 1, by omega, rfl, HG9.out, fun t ht => by
         by_cases e : t = j
         ·subst e; exact HRB2.out
         ·exact HALL.out t (by omega)⟩
        case measure => simp only [intOf]; omega
      ·obtain rfl : j = m := by omega
       have e : ce = 0 := by rw [HCE2.out, ckCl_yes HSU.out HUB.out HL.out HRB.out (fun t ht => HALL.out t (by rw [← HBL.out]; exact ht))]; rfl
       subst e
       go_wp2_with fail
       go_ret
       exact ⟨rfl, GV.out.trans (HG.out.mono GV.out.size)⟩
   ·have hl2 : ((n2 : Int) != (m : Int)) = true := by simp; omega
    have e : ce = 25 := by rw [HCE2.out, ckCl_no2 HSU.out HUB.out (by rw [← HN2.out, HBL.out]; exact hlen)]; rfl
    subst e
    clear hlen
    go_wp2_with (go_at_call 112; (with_reducible refine (HTR.out).mono ?_); rintro e V3 ⟨rfl, hg⟩; have GV3 := Lib.hid (GV2.out.trans (hg.mono GV2.out.size)); clear hg)
    go_ret
    exact ⟨rfl, GV3.out⟩
 ·have hzb : (le != 0) = true := by simpa using hz
  have HZ := Lib.hid hz
  have e : ce = le := by have := HCE.out; rwa [if_neg hz] at this
  subst e
  clear hz
  go_enter Tryz.func54, Tryz.ntmps54
  go_wp2_with (go_at_call 73; (with_reducible refine (HT.out).mono ?_); rintro e V ⟨v, rfl, hg, -, h2⟩; have e2 := h2 HZ.out; subst e2; have GV := Lib.hid hg; clear hg h2)
  go_ret
  exact ⟨rfl, GV.out⟩
end Go.Proofs.YtehhlgdkhecacaaGreat
