/- Part of the proof: BR, BS, BT, BU, BV, BW, PA, PC, PD, PE, BX, BY, BZ, CB, DA, DB, RB, RC, EA. -/
import Derived.Laws.MakeOwn
import Derived.Test.YtehhlgdkhecacaaGreatRows
import Derived.ProofKit
import Derived.Carry
import Derived.WideKeyArgs
import Derived.Below
import Derived.OpenShut
import Derived.Deep.Slices
import Derived.Test.YtehhlgdkhecacaaGreatXA0
import Derived.Test.YtehhlgdkhecacaaGreatXA1
import Derived.Test.YtehhlgdkhecacaaGreatXA2
namespace Go.Proofs.YtehhlgdkhecacaaGreat
open Go.RowKit Go.Shelf
theorem many_sub : ∀ {c l : List Qf}, c.Sublist l → (∀ q ∈ l, 1 ≤ q.per.length) → (c.map fun q => q.per.length).foldr (· * ·) 1 ≤ (l.map fun q => q.per.length).foldr (· * ·) 1
 | _, _, .slnil, _ => Nat.le_refl _
 | _, _, .cons q h, hq => by
  rw [List.map_cons, List.foldr_cons]
  exact Nat.le_trans (many_sub h fun x hx => hq x (List.mem_cons_of_mem _ hx)) (Nat.le_mul_of_pos_left _ (hq q (by simp)))
 | _, _, .cons_cons q h, hq => by
  rw [List.map_cons, List.map_cons, List.foldr_cons, List.foldr_cons]
  exact Nat.mul_le_mul_left _ (many_sub h fun x hx => hq x (List.mem_cons_of_mem _ hx))
theorem reads_len_sub {c l : List Qf} (h : okL l = true) (hs : c.Sublist l) : (reads c).length ≤ 2000 := by
 have hall := okL_all h
 have h1 : manyL l ≤ 2000 := by
  unfold okL at h
  simp only [Bool.and_eq_true, decide_eq_true_eq] at h
  exact h.1.2
 unfold manyL at h1
 rw [foldr_mul, Nat.one_mul] at h1
 have h2 := more_len (c := c) c.length [] (by simp) (fun q hq => (isQf_per (hall q (hs.subset hq))).2)
 unfold reads
 exact Nat.le_trans h2 (Nat.le_trans (many_sub hs fun q hq => (isQf_per (hall q hq)).1) h1)
theorem cn_sub {l fl : List Pf} (h : okL (l.map Pf.q) = true) (hs : fl.Sublist l) {w : World} {A : Option Addr} {n : Nat} (hp : Prf w A n fl) (hn : n ≤ 60) : Cn w A n fl :=
 ⟨hp, hn, fun p hp => okL_all h _ (List.mem_map.2 ⟨p, hs.subset hp, rfl⟩), ((hs.map Pf.q).map Qf.src).nodup ((okL_src h).imp fun hlt => by omega), reads_len_sub h (hs.map Pf.q)⟩
/-- Does the answer rest on the proof? -/
def rstB (c : List Qf) (person parish day : Int) (i : Nat) : Bool := decide (righN (wherS (c.eraseIdx i) person day) parish ≠ righN (wherS c person day) parish)
def rstP (c : List Qf) (person parish day : Int) (m : Nat) : List Int := ((List.range m).filter fun i => rstB c person parish day i).map fun i => (c.getD i q0).src
def rstS (c : List Qf) (person parish day : Int) : List Int := rstP c person parish day c.length
theorem rstP_succ (c : List Qf) (person parish day : Int) (m : Nat) : rstP c person parish day (m + 1) = rstP c person parish day m ++ (if rstB c person parish day m = true then [(c.getD m q0).src] else []) := by
 unfold rstP
 rw [List.range_succ, List.filter_append, List.map_append]
 congr 1
 by_cases h : rstB c person parish day m = true
 ·rw [if_pos h, List.filter_cons_of_pos h]; rfl
 ·rw [if_neg h, List.filter_cons_of_neg h]; rfl
theorem rstP_len (c : List Qf) (person parish day : Int) (m : Nat) : (rstP c person parish day m).length ≤ m := by
 unfold rstP
 rw [List.length_map]
 have := List.length_filter_le (fun i => rstB c person parish day i) (List.range m)
 rwa [List.length_range] at this
set_option maxRecDepth 100000 in
set_option maxHeartbeats 8000000 in
theorem rests_any (A : Option Addr) (n c : Nat) (l : List Pf) (person parish day known : Int) (w : World) (ha : Prf w A n l) (hn : n ≤ 9223372036854775807) :
  Calls Tryz.prog 15 #[.slice A n c, .int .i64 person, .int .i64 parish, .int .i64 day, .int .i64 known] w (ListEnd (rstS (cntL (l.map Pf.q) known) person parish day) (readE (l.map Pf.q) person parish [day, known] known) w) := by
 obtain ⟨W1, hW1⟩ : ∃ X, w.alloc (.cells #[.int .i64 day, .int .i64 known] 3) = X := ⟨_, rfl⟩
 have g1 : Below w.heap.size w W1 := by rw [← hW1]; exact one_more _ _
 have b1 : Blk W1 w.heap.size 3 #[.int .i64 day, .int .i64 known] := by rw [← hW1]; exact Blk.new _ _ _
 have T := askRead_any person parish (some ⟨w.heap.size, 0, none⟩) 2 2 [day, known] known A n c l W1 (ha.below g1) hn (two_ints b1) (by decide) (by decide) rfl
 have HFM := Lib.hid (show (l.filter fun p => cnt p.q known).map Pf.q = cntL (l.map Pf.q) known from filt_map l (fun q => cnt q known))
 have HOK := Lib.hid (fun (h : readE (l.map Pf.q) person parish [day, known] known = 0) => (askE_ok (readE_ask h)))
 obtain ⟨re, hre⟩ : ∃ s, readE (l.map Pf.q) person parish [day, known] known = s := ⟨_, rfl⟩
 rw [hre] at HOK T ⊢
 have HFS := Lib.hid (show (l.filter fun p => cnt p.q known).Sublist l from List.filter_sublist)
 obtain ⟨fl, hfl⟩ : ∃ s, (l.filter fun p => cnt p.q known) = s := ⟨_, rfl⟩
 have G1 := Lib.hid g1
 have HW1 := Lib.hid hW1
 unfold AskEnd at T
 rw [hfl] at T HFM HFS
 obtain ⟨cq, hcq⟩ : ∃ s, cntL (l.map Pf.q) known = s := ⟨_, rfl⟩
 rw [hcq] at HFM ⊢
 obtain ⟨rs, hrs⟩ : ∃ s, rstS cq person parish day = s := ⟨_, rfl⟩
 rw [hrs]
 have HRS := Lib.hid hrs
 have HT := Lib.hid T
 clear ha hre hfl hcq hrs g1 b1 hW1 T
 by_cases hz : re = 0
 ·subst hz
  go_enter Tryz.func15, Tryz.ntmps15
  go_upto_region 2 with (go_at_call 66; rw [HW1.out]; (with_reducible refine (HT.out).mono ?_); rintro e V ⟨A2, n2, c2, rfl, ho, -, hg⟩; have HO := Lib.hid (ho rfl); have GV := Lib.hid (G1.out.trans (hg.mono G1.out.size)); clear ho hg)
  obtain ⟨hok, hper, -, hdays⟩ := HOK.out (by trivial)
  have HCS := Lib.hid (fun (f : List Pf) (hs : f.Sublist l) (W : World) (A : Option Addr) (n : Nat) (hp : Prf W A n f) (hn : n ≤ 60) => cn_sub hok hs hp hn)
  have HCN := Lib.hid (HCS.out fl HFS.out V A2 n2 HO.out.1 HO.out.2.1)
  have HP64 := Lib.hid (And.intro (in64_person hper) (in64_day (hdays day (by simp))))
  have TW := right_any A2 n2 c2 fl person parish day V HCN.out HP64.out.1 HP64.out.2
  rw [HFM.out] at TW
  obtain ⟨was, hwas⟩ : ∃ s, righN (wherS cq person day) parish = s := ⟨_, rfl⟩
  rw [hwas] at TW
  have HWAS := Lib.hid hwas
  have HTW := Lib.hid TW
  have HLM := Lib.hid (show fl.length = n2 from HCN.out.prf.len)
  have HCL := Lib.hid (show cq.length = n2 by rw [← HFM.out, List.length_map, HLM.out])
  have HO0 := Lib.hid (fun (W : World) => OwnL.nil (f := icells) (size := 1) (e := 3) W V.heap.size)
  clear TW hok hper hdays hwas
  go_upto_region 7 with (go_at_call 67; (with_reducible refine (HTW.out).mono ?_); rintro e V2 ⟨rfl, hg⟩; have GV2 := Lib.hid hg; clear hg)
  go_loopw [15, 39] (fun v i wr => ∃ k : Nat, k ≤ n2 ∧ OwnL icells 1 3 wr V.heap.size v (rstP cq person parish day k) ∧ i = .int .i64 k ∧ Below V.heap.size V wr) (fun _ i _ => n2 - (intOf i).toNat)
  case atStart => exact ⟨0, Nat.zero_le _, HO0.out _, rfl, GV2.out⟩
  case round =>
   obtain ⟨k, hk, ho, rfl, hg⟩ := hrel
   have HG := Lib.hid hg
   have HOX := Lib.hid ho
   clear ho
   by_cases hkn : k < n2
   ·have HSU := Lib.hid (rstP_succ cq person parish day k)
    have HPK := Lib.hid (map_pf (l := fl) (k := k) (by rw [HLM.out]; exact hkn))
    obtain ⟨b, o, rfl, -, -, -, hyc⟩ := (HCN.out.prf.below hg).at hkn
    obtain ⟨y, hy⟩ : ∃ y, fl.getD k p0 = y := ⟨_, rfl⟩
    rw [hy] at hyc HPK
    rw [HFM.out] at HPK
    obtain ⟨e0, e1, e2, e3, e4, e5, e6, e7, e8⟩ := hyc _ (Below.refl _ _)
    obtain ⟨W2, hW2⟩ : ∃ X, wr.alloc (.cells #[.int .i64 y.q.src, .int .i64 y.q.kind, .slice y.A y.n y.c, .int .i64 y.q.oth, .int .i64 y.q.par, .int .i64 y.q.day, .int .i64 y.q.thr, .int .i64 y.q.kno, .int .i64 y.q.unt] 56) = X := ⟨_, rfl⟩
    have GW2 := Lib.hid (show Below wr.heap.size wr W2 by rw [← hW2]; exact one_more _ _)
    have BW2 := Lib.hid (show Blk W2 wr.heap.size 56 #[.int .i64 y.q.src, .int .i64 y.q.kind, .slice y.A y.n y.c, .int .i64 y.q.oth, .int .i64 y.q.par, .int .i64 y.q.day, .int .i64 y.q.thr, .int .i64 y.q.kno, .int .i64 y.q.unt] by rw [← hW2]; exact Blk.new _ _ _)
    have HW2 := Lib.hid hW2
    have HGW := Lib.hid (HG.out.trans (GW2.out.mono HG.out.size))
    have hn60 := HCN.out.n
    have hwr2 : wrap64 ((k : Int) + 1) = (k : Int) + 1 := wrap_in (by omega)
    have hki : (k : Int) < (n2 : Int) := by omega
    have TC := Lib.hid (cloneP_any (some ⟨b, o, none⟩) n2 c2 fl W2 (HCN.out.prf.below HGW.out).a (by omega))
    have hmq : (fl.eraseIdx k).map Pf.q = cq.eraseIdx k := by rw [← HFM.out, List.eraseIdx_eq_take_drop_succ, List.eraseIdx_eq_take_drop_succ, List.map_append, List.map_take, List.map_drop]
    have HEL := Lib.hid (show (fl.eraseIdx k).length = n2 - 1 by rw [List.length_eraseIdx_of_lt (by rw [HLM.out]; exact hkn), HLM.out])
    obtain ⟨rv, hrv⟩ : ∃ s, righN (wherS (cq.eraseIdx k) person day) parish = s := ⟨_, rfl⟩
    have HTR := Lib.hid (fun (W : World) (g5 c5 : Nat) (gW : Below V.heap.size V W) (ho : OwnL pcells 9 56 W W2.heap.size (.slice (some ⟨g5, 0, none⟩) (n2 - 1) c5) (fl.eraseIdx k)) => (show Calls Tryz.prog 67 #[.slice (some ⟨g5, 0, none⟩) (n2 - 1) c5, .int .i64 person, .int .i64 parish, .int .i64 day] W fun e w' => e = .returned (.int .i64 rv) ∧ Below W.heap.size W w' by
     obtain ⟨A9, c9, e9, -, -, hp9⟩ := own_prf ho (fun p hp => (HCN.out.prf.p p ((List.eraseIdx_sublist fl k).subset hp)).below gW)
     rw [HEL.out] at e9 hp9
     cases e9
     have := right_any (some ⟨g5, 0, none⟩) (n2 - 1) c5 (fl.eraseIdx k) person parish day W (HCS.out _ ((List.eraseIdx_sublist fl k).trans HFS.out) W _ _ hp9 (by have := HCN.out.n; omega)) HP64.out.1 HP64.out.2
     rw [hmq, hrv] at this
     exact this))
    have HRB := Lib.hid (show rstB cq person parish day k = decide (rv ≠ was) by unfold rstB; rw [hrv, HWAS.out])
    rw [HRB.out, HPK.out] at HSU
    obtain ⟨rp, hrp⟩ : ∃ s, rstP cq person parish day k = s := ⟨_, rfl⟩
    have HTL := Lib.hid (show rp.length + 1 ≤ 1000000 by rw [← hrp]; have := rstP_len cq person parish day k; omega)
    rw [hrp] at HSU HOX
    clear hW2 hy hyc hg hmq hrv hrp
    go_upto_region 9 with fail
    rw [HW2.out]
    clear e0 e1 e2 e3 e4 e5 e6 e7 e8
    have d0 := BW2.out.cell 0
    by_cases hne : rv = was
    ·have hnb : (rv != was) = false := by simpa using hne
     have HS3 := Lib.hid (show rstP cq person parish day (k + 1) = rp by rw [HSU.out, if_neg (by simpa using hne), List.append_nil])
     clear hne
     go_wp2_with (first 
      | (go_at_call 69; (with_reducible refine (TC.out).mono ?_); rintro e W5 ⟨⟨v5, rfl, ho5⟩, hg5⟩; obtain ⟨g5, c5, hv5, hb5⟩ := own_head ho5 (by rw [HLM.out]; omega); rw [HLM.out] at hv5; subst hv5; have HG5 := Lib.hid hg5; have HB5 := Lib.hid hb5; have TD := Lib.hid (delP_any W2.heap.size g5 n2 c5 k fl W5 ho5 hkn (by omega)); clear ho5 hg5 hb5)
      | (go_at_call 68; (with_reducible refine (TD.out).mono ?_); rintro e W6 ⟨rfl, ho6, hf6⟩; have HG6 := Lib.hid (show Below W2.heap.size W2 W6 from HG5.out.trans (hf6.low HB5.out HG5.out.size)); have TR := Lib.hid (HTR.out W6 g5 c5 (HGW.out.trans (HG6.out.mono HGW.out.size)) ho6); clear ho6 hf6)
      | (go_at_call 67; (with_reducible refine (TR.out).mono ?_); rintro e W7 ⟨rfl, hg7⟩; have HG7 := Lib.hid (HG6.out.trans (hg7.mono HG6.out.size)); clear hg7))
     go_roundw
     case rel => exact ⟨k + 1, by omega, by rw [HS3.out]; exact HOX.out.ext (GW2.out.trans (HG7.out.mono GW2.out.size)), rfl, HGW.out.trans (HG7.out.mono HGW.out.size)⟩
     case measure => simp only [intOf]; omega
    ·have hnb : (rv != was) = true := by simpa using hne
     have HS3 := Lib.hid (show rstP cq person parish day (k + 1) = rp ++ [y.q.src] by rw [HSU.out, if_pos (by simpa using hne)])
     clear hne
     go_upto_region 10 with (first 
      | (go_at_call 69; (with_reducible refine (TC.out).mono ?_); rintro e W5 ⟨⟨v5, rfl, ho5⟩, hg5⟩; obtain ⟨g5, c5, hv5, hb5⟩ := own_head ho5 (by rw [HLM.out]; omega); rw [HLM.out] at hv5; subst hv5; have HG5 := Lib.hid hg5; have HB5 := Lib.hid hb5; have TD := Lib.hid (delP_any W2.heap.size g5 n2 c5 k fl W5 ho5 hkn (by omega)); clear ho5 hg5 hb5)
      | (go_at_call 68; (with_reducible refine (TD.out).mono ?_); rintro e W6 ⟨rfl, ho6, hf6⟩; have HG6 := Lib.hid (show Below W2.heap.size W2 W6 from HG5.out.trans (hf6.low HB5.out HG5.out.size)); have TR := Lib.hid (HTR.out W6 g5 c5 (HGW.out.trans (HG6.out.mono HGW.out.size)) ho6); clear ho6 hf6)
      | (go_at_call 67; (with_reducible refine (TR.out).mono ?_); rintro e W7 ⟨rfl, hg7⟩; have HG7 := Lib.hid (HG6.out.trans (hg7.mono HG6.out.size)); clear hg7))
     rename_i W7
     have d0' := (BW2.out.ext HG7.out).cell 0
     have GX := Lib.hid (one_more W7 (.cells #[.int .i64 y.q.src] 3))
     have HI := Lib.hid (one_int (Blk.new W7 3 #[.int .i64 y.q.src]))
     have HO7 := Lib.hid ((HOX.out.ext (GW2.out.trans (HG7.out.mono GW2.out.size))).ext GX.out)
     have HGZ := Lib.hid ((HGW.out.trans (HG7.out.mono HGW.out.size)).trans (GX.out.mono (Nat.le_trans HGW.out.size HG7.out.size)))
     clear d0
     go_wp2_with (first | (at_builtin; go_loud (refine wpList_app kdI (by rfl) _ _ (by rfl) V.heap.size _ rp (by rfl) HO7.out _ 1 1 [y.q.src] (by rfl) HI.out HTL.out HGZ.out.size ?_); intro v' w' ho hgr hz; have HO8 := Lib.hid ho; have GV8 := Lib.hid (HGZ.out.trans (HO7.out.below hgr (Nat.le_refl _) HGZ.out.size)); clear ho hgr hz))
     go_roundw
     case rel => exact ⟨k + 1, by omega, by rw [HS3.out]; exact HO8.out, rfl, GV8.out⟩
     case measure => simp only [intOf]; omega
   ·obtain rfl : k = n2 := by omega
    have HRE := Lib.hid (show rstP cq person parish day k = rs by rw [← HRS.out]; unfold rstS; rw [HCL.out])
    clear hg
    go_wp2_with fail
    go_ret2
    exact listEnd_ok (by rw [← HRE.out]; exact HOX.out) (GV.out.trans (HG.out.mono GV.out.size))
 ·have hzb : (re != 0) = true := by simpa using hz
  have HZ := Lib.hid hz
  clear hz
  go_enter Tryz.func15, Tryz.ntmps15
  go_wp2_with (go_at_call 66; rw [HW1.out]; (with_reducible refine (HT.out).mono ?_); rintro e V ⟨A2, n2, c2, rfl, -, ho, hg⟩; obtain ⟨rfl, rfl, rfl⟩ := ho HZ.out; have GV := Lib.hid (G1.out.trans (hg.mono G1.out.size)); clear ho hg)
  go_ret2
  exact listEnd_no HZ.out GV.out
end Go.Proofs.YtehhlgdkhecacaaGreat

namespace Go.Proofs.YtehhlgdkhecacaaGreat
open Go.RowKit Go.Shelf
theorem cmp_neg (a b : Int) : decide (cmpI a b < 0) = decide (a < b) := by
 unfold cmpI
 by_cases h : a < b
 ·rw [if_pos h, decide_eq_true h]; rfl
 ·rw [if_neg h, decide_eq_false h]
  by_cases h2 : b < a
  ·rw [if_pos h2]; rfl
  ·rw [if_neg h2]; rfl
theorem cmp_zero (a b : Int) : (cmpI a b == 0) = decide (a = b) := by
 unfold cmpI
 by_cases h : a < b
 ·rw [if_pos h, decide_eq_false (by omega)]; rfl
 ·rw [if_neg h]
  by_cases h2 : b < a
  ·rw [if_pos h2, decide_eq_false (by omega)]; rfl
  ·rw [if_neg h2, decide_eq_true (by omega)]; rfl
set_option maxRecDepth 100000 in
theorem bySrc_any (p : Pf) (s : Int) (w : World) : Calls Tryz.prog 146 #[pv p, .int .i64 s] w fun e w' => e = .returned (.int .i64 (cmpI p.q.src s)) ∧ Below w.heap.size w w' := by
 have T := fun W => cmp_any p.q.src s W
 generalize cmpI p.q.src s = r at T ⊢
 have HT := Lib.hid T
 clear T
 go_enter Tryz.func146, Tryz.ntmps146
 go_wp2_with (go_at_call 132; (with_reducible refine (HT.out _).mono ?_); rintro e w' ⟨rfl, rfl⟩)
 go_ret
 exact ⟨rfl, one_more _ _⟩
/-- How many elements have a lesser source; is the next one the one sought? -/
def insP (l : List Pf) (s : Int) : Nat := l.countP fun y => decide (y.q.src < s)
def fndP (l : List Pf) (s : Int) : Bool := decide (insP l s < l.length) && decide ((l.getD (insP l s) p0).q.src = s)
theorem insP_eq {s : Int} : ∀ {l : List Pf} {t : Nat}, t ≤ l.length → (∀ j, j < t → (l.getD j p0).q.src < s) → (∀ j, t ≤ j → j < l.length → ¬ (l.getD j p0).q.src < s) → insP l s = t
 | [], t, ht, _, _ => by simp at ht; subst ht; rfl
 | x :: l, 0, _, _, h2 => by
  have h0 : ¬ x.q.src < s := h2 0 (Nat.le_refl _) (by simp)
  have ih := insP_eq (l := l) (t := 0) (Nat.zero_le _) (fun j h => absurd h (by omega)) (fun j _ hj => h2 (j + 1) (by omega) (by simpa using hj))
  unfold insP at ih ⊢
  rw [List.countP_cons, ih]
  simp [h0]
 | x :: l, t + 1, ht, h1, h2 => by
  have h0 : x.q.src < s := h1 0 (by omega)
  have ih := insP_eq (l := l) (t := t) (by simpa using ht) (fun j h => h1 (j + 1) (by omega)) (fun j h hj => h2 (j + 1) (by omega) (by simpa using hj))
  unfold insP at ih ⊢
  rw [List.countP_cons, ih]
  simp [h0]
set_option maxRecDepth 100000 in
set_option maxHeartbeats 8000000 in
theorem bsearchP_any (A : Option Addr) (n c : Nat) (l : List Pf) (s : Int) (w : World) (ha : Prf w A n l) (hn : n ≤ 1000) (hl : ∀ i j, i < j → j < l.length → (l.getD i p0).q.src < (l.getD j p0).q.src) :
  Calls Tryz.prog 145 #[.slice A n c, .int .i64 s, .func (.func 146) #[] #[]] w fun e w' => e = .returned (.tuple #[.int .i64 (insP l s), .bool (fndP l s)]) ∧ Below w.heap.size w w' := by
 have HA := Lib.hid ha
 have HLN := Lib.hid (show l.length = n from ha.len)
 have HL := Lib.hid hl
 have HIE := Lib.hid (fun t ht h1 h2 => insP_eq (l := l) (s := s) (t := t) ht h1 h2)
 have HFD := Lib.hid (show fndP l s = (decide (insP l s < l.length) && decide ((l.getD (insP l s) p0).q.src = s)) from rfl)
 obtain ⟨ia, hia⟩ : ∃ i, insP l s = i := ⟨_, rfl⟩
 rw [hia] at HIE HFD ⊢
 obtain ⟨fd, hfd⟩ : ∃ i, fndP l s = i := ⟨_, rfl⟩
 rw [hfd] at HFD ⊢
 clear ha hl hia hfd
 go_enter Tryz.func145, Tryz.ntmps145
 go_wp2_with fail
 go_loopw [9, 10] (fun i j wr => ∃ k m : Nat, k ≤ m ∧ m ≤ n ∧ i = .int .i64 k ∧ j = .int .i64 m ∧ Below w.heap.size w wr ∧ (∀ t, t < k → (l.getD t p0).q.src < s) ∧ ∀ t, m ≤ t → t < n → ¬ (l.getD t p0).q.src < s) (fun i j _ => (intOf j).toNat - (intOf i).toNat)
 case atStart => exact ⟨0, n, Nat.zero_le _, Nat.le_refl _, rfl, rfl, Below.refl _ _, fun t h => absurd h (by omega), fun t h1 h2 => absurd h1 (by omega)⟩
 case round =>
  obtain ⟨k, m, hkm, hmn, rfl, rfl, hg, hlo, hhi⟩ := hrel
  have HG := Lib.hid hg
  have HLO := Lib.hid hlo
  have HHI := Lib.hid hhi
  clear hg hlo hhi
  by_cases hkn : k < m
  ·obtain ⟨h, hh⟩ : ∃ h, (k + m) / 2 = h := ⟨_, rfl⟩
   have h1 : k ≤ h := by omega
   have h2 : h < m := by omega
   have h3 : h < n := by omega
   have hhi : ((k : Int) + (m : Int)) / 2 = (h : Int) := by omega
   obtain ⟨b0, o0, e0, -, -, -, hc⟩ := (HA.out.below HG.out).at h3
   have HMO := Lib.hid (fun t (ht : t < h) => HL.out t h ht (by rw [HLN.out]; exact h3))
   have HMU := Lib.hid (fun t (ht : h < t) (htn : t < n) => HL.out h t ht (by rw [HLN.out]; exact htn))
   obtain ⟨x, hxg⟩ : ∃ x, l.getD h p0 = x := ⟨_, rfl⟩
   rw [hxg] at hc HMO HMU
   have HXG := Lib.hid hxg
   have T := fun W => bySrc_any x s W
   have HCN := Lib.hid (cmp_neg x.q.src s)
   obtain ⟨cm, hcm⟩ : ∃ r, cmpI x.q.src s = r := ⟨_, rfl⟩
   rw [hcm] at T HCN
   have HT := Lib.hid T
   obtain ⟨x0, x1, x2, x3, x4, x5, x6, x7, x8⟩ := hc _ (Below.refl _ _)
   subst e0
   have hk2 : (h : Int) < (n : Int) := by omega
   clear hc hxg T hcm hh
   by_cases hxs : x.q.src < s
   ·have hcd : decide (cm < 0) = true := by rw [HCN.out]; exact decide_eq_true hxs
    have HXS := Lib.hid hxs
    clear hxs
    go_wp2_with (go_at_call 146; (with_reducible refine (HT.out _).mono ?_); rintro e W2 ⟨rfl, hg2⟩; have GZ := Lib.hid (HG.out.trans (hg2.mono HG.out.size)); clear hg2)
    go_roundw
    case rel => exact ⟨h + 1, m, by omega, by omega, by go_num, rfl, GZ.out, fun t ht => by
     by_cases e : t = h
     ·subst e; rw [HXG.out]; exact HXS.out
     ·exact Int.lt_trans (HMO.out t (by omega)) HXS.out, fun t h1 h2 => by have := HHI.out t h1 h2; omega⟩
    case measure => simp only [intOf]; omega
   ·have hcd : decide (cm < 0) = false := by rw [HCN.out]; exact decide_eq_false hxs
    have HXS := Lib.hid hxs
    clear hxs
    go_wp2_with (go_at_call 146; (with_reducible refine (HT.out _).mono ?_); rintro e W2 ⟨rfl, hg2⟩; have GZ := Lib.hid (HG.out.trans (hg2.mono HG.out.size)); clear hg2)
    go_roundw
    case rel => exact ⟨k, h, h1, by omega, rfl, rfl, GZ.out, HLO.out, fun t ht htn => by
     by_cases e : t = h
     ·subst e; rw [HXG.out]; have := HXS.out; omega
     ·have h9 := HMU.out t (by omega) htn
      have h8 := HXS.out
      omega⟩
    case measure => simp only [intOf]; omega
  ·obtain rfl : m = k := by omega
   obtain rfl : m = ia := (HIE.out m (by rw [HLN.out]; exact hmn) HLO.out (fun j h1 h2 => by have h3 := HLN.out; have h4 := HHI.out j h1 (by omega); omega)).symm
   clear HIE
   by_cases hme : m < n
   ·obtain ⟨b0, o0, e0, -, -, -, hc⟩ := (HA.out.below HG.out).at hme
    obtain ⟨x, hxg⟩ : ∃ x, l.getD m p0 = x := ⟨_, rfl⟩
    rw [hxg] at hc HFD
    have T := fun W => bySrc_any x s W
    have HCZ := Lib.hid (cmp_zero x.q.src s)
    obtain ⟨cm, hcm⟩ : ∃ r, cmpI x.q.src s = r := ⟨_, rfl⟩
    rw [hcm] at T HCZ
    have HT := Lib.hid T
    obtain ⟨x0, x1, x2, x3, x4, x5, x6, x7, x8⟩ := hc _ (Below.refl _ _)
    subst e0
    have hk2 : (m : Int) < (n : Int) := by omega
    have HF2 := Lib.hid (show fd = (cm == 0) by rw [HFD.out, HLN.out, decide_eq_true hme, Bool.true_and, HCZ.out])
    clear hc hxg T hcm
    go_wp2_with (go_at_call 146; (with_reducible refine (HT.out _).mono ?_); rintro e W2 ⟨rfl, hg2⟩; have GZ := Lib.hid (HG.out.trans (hg2.mono HG.out.size)); clear hg2)
    go_ret2
    have e := HF2.out
    subst e
    exact ⟨rfl, GZ.out⟩
   ·have hk2 : ¬ (m : Int) < (n : Int) := by omega
    have e : fd = false := by rw [HFD.out, HLN.out, decide_eq_false hme, Bool.false_and]
    subst e
    go_wp2_with fail
    go_ret2
    exact ⟨rfl, HG.out⟩
theorem find_any (A : Option Addr) (n c : Nat) (l : List Pf) (s : Int) (w : World) (ha : Prf w A n l) (hn : n ≤ 1000) (hl : ∀ i j, i < j → j < l.length → (l.getD i p0).q.src < (l.getD j p0).q.src) :
  Calls Tryz.prog 114 #[.slice A n c, .int .i64 s] w fun e w' => e = .returned (.tuple #[.int .i64 (insP l s), .bool (fndP l s)]) ∧ Below w.heap.size w w' := by
 have HT := Lib.hid (bsearchP_any A n c l s w ha hn hl)
 generalize insP l s = ia at HT ⊢
 generalize fndP l s = fd at HT ⊢
 clear ha hl
 go_enter Tryz.func114, Tryz.ntmps114
 go_wp2_with (go_at_call 145; (with_reducible refine (HT.out).mono ?_); rintro e W2 ⟨rfl, hg2⟩; have GZ := Lib.hid hg2; clear hg2)
 go_ret2
 exact ⟨rfl, GZ.out⟩
end Go.Proofs.YtehhlgdkhecacaaGreat

namespace Go.Proofs.YtehhlgdkhecacaaGreat
open Go.RowKit Go.Shelf
theorem refIdx_any (A : Option Addr) (n c : Nat) (l : List Int) (x : Int) (w : World) (ha : Ints w A n l) (hn : n ≤ 1000000) :
  Calls Tryz.prog 100 #[.slice A n c, .int .i64 x] w fun e w' => (∃ i : Int, e = .returned (.int .i64 i) ∧ decide (0 ≤ i) = hasI l x) ∧ w = w' := by
 have HA := Lib.hid ha
 have hlen := Lib.hid ha.1
 clear ha
 go_enter Tryz.func100, Tryz.ntmps100
 go_wp2_with fail
 go_loop [5] (fun i => ∃ k : Nat, k ≤ n ∧ i = .int .i64 k ∧ ∀ j, j < k → l.getD j 0 ≠ x) (fun i => n - (intOf i).toNat)
 case atStart => exact ⟨0, Nat.zero_le _, rfl, fun j hj => absurd hj (by omega)⟩
 case round =>
  obtain ⟨k, hk, rfl, hno⟩ := hrel
  have HNO := Lib.hid hno
  clear hno
  by_cases hkn : k < n
  ·obtain ⟨b, o, rfl, -, hmem, hc⟩ := ints_at HA.out hkn
   have d0 := hc _ (Below.refl _ _)
   obtain ⟨y, hy⟩ : ∃ y, l.getD k 0 = y := ⟨_, rfl⟩
   rw [hy] at d0 hmem
   have HY := Lib.hid hy
   have HM := Lib.hid hmem
   have hki : (k : Int) < (n : Int) := by omega
   have hwr : wrap64 ((k : Int) + 1) = (k : Int) + 1 := wrap_in (by omega)
   clear hc hmem hy
   by_cases e : y = x
   ·subst e
    go_wp2_with fail
    go_ret
    exact ⟨⟨k, rfl, by rw [decide_eq_true (show (0 : Int) ≤ k by omega)]; exact (hasI_true (List.mem_of_getElem? HM.out)).symm⟩, rfl⟩
   ·have e1 : (y == x) = false := by simpa using e
    have E := Lib.hid e
    clear e
    go_wp2_with fail
    go_round
    case rel => exact ⟨k + 1, by omega, by go_num, fun j hj => by
     by_cases e : j = k
     ·subst e; rw [HY.out]; exact E.out
     ·exact HNO.out j (by omega)⟩
    case measure => simp only [intOf]; omega
  ·obtain rfl : n = k := by omega
   have hki : ¬ (n : Int) < (n : Int) := by omega
   go_wp2_with fail
   go_ret
   refine ⟨⟨-1, rfl, ?_⟩, rfl⟩
   rw [decide_eq_false (by omega)]
   exact (hasI_false fun j hj => HNO.out j (by rw [← hlen.out]; exact hj)).symm
theorem refHas_any (A : Option Addr) (n c : Nat) (l : List Int) (x : Int) (w : World) (ha : Ints w A n l) (hn : n ≤ 1000000) :
  Calls Tryz.prog 40 #[.slice A n c, .int .i64 x] w fun e w' => e = .returned (.bool (hasI l x)) ∧ w = w' := by
 have T := refIdx_any A n c l x w ha hn
 generalize hasI l x = r at T ⊢
 clear ha
 go_enter Tryz.func40, Tryz.ntmps40
 go_wp2_with (go_at_call 100; (with_reducible refine T.mono ?_); rintro e w' ⟨⟨i, rfl, hi⟩, rfl⟩)
 go_ret
 exact ⟨rfl, rfl⟩
end Go.Proofs.YtehhlgdkhecacaaGreat

namespace Go.Proofs.YtehhlgdkhecacaaGreat
open Go.RowKit Go.Shelf
theorem tmod_bd (n m : Int) (hm : 0 < m) : -m < n.tmod m ∧ n.tmod m < m := by
 have h1 := Int.tmod_lt_of_pos n hm
 have h2 := Int.lt_tmod_of_pos n hm
 exact ⟨h2, h1⟩
theorem mod_eq (n m : Int) : (n.tmod m + m) % m = n % m := by
 have h := Int.mul_tdiv_add_tmod n m
 rw [Int.add_emod_right]
 have h2 : n % m = (m * n.tdiv m + n.tmod m) % m := by rw [h]
 rw [h2, Int.add_comm, Int.add_mul_emod_self_left]
theorem refMod_any (n m : Int) (w : World) (hm : 1 ≤ m) (hm2 : m ≤ 100000) :
  Calls Tryz.prog 38 #[.int .i64 n, .int .i64 m] w fun e w' => e = .returned (.int .i64 (n % m)) ∧ w = w' := by
 have h1 := tmod_bd n m (by omega)
 have hz : (m == 0) = false := by simpa using (show m ≠ 0 by omega)
 have hz2 : ¬ m = 0 := by omega
 have hw : wrap64 (n.tmod m + m) = n.tmod m + m := wrap_in (by omega)
 have HE := Lib.hid (mod_eq n m)
 go_enter Tryz.func38, Tryz.ntmps38
 go_wp2_with fail
 go_ret
 exact ⟨by rw [← HE.out]; rfl, rfl⟩
end Go.Proofs.YtehhlgdkhecacaaGreat

namespace Go.Proofs.YtehhlgdkhecacaaGreat
open Go.RowKit Go.Shelf
theorem flat_set1 {α : Type} {f : α → List Value} {size : Nat} (hf : ∀ x, (f x).length = size) {ys : List α} {i j : Nat} {y x : α} {u : Value} (hy : ys[i]? = some y) (hx : f x = (f y).set j u) (hj : j < size) :
  (ys.set i x).flatMap f = (ys.flatMap f).set (i * size + j) u := by
 refine List.ext_getElem? fun m => ?_
 have hi : i < ys.length := (List.getElem?_eq_some_iff.1 hy).1
 have hd := Nat.div_add_mod m size
 have hmod : m % size < size := Nat.mod_lt _ (by omega)
 have hm : m / size * size + m % size = m := by rw [Nat.mul_comm]; exact hd
 rw [List.getElem?_set]
 have hlen : i * size + j < (ys.flatMap f).length := by
  rw [flat_len hf]
  have : (i + 1) * size ≤ ys.length * size := Nat.mul_le_mul_right _ hi
  rw [Nat.succ_mul] at this
  omega
 conv => lhs; rw [← hm]
 rw [flat_get hf _ _ _ hmod]
 by_cases e : i = m / size
 ·subst e
  rw [List.getElem?_set_self hi, Option.bind_some, hx, List.getElem?_set, hf]
  by_cases e2 : j = m % size
  ·rw [if_pos e2, if_pos hj, if_pos (by rw [e2]; exact hm), if_pos hlen]
  ·rw [if_neg e2, if_neg (by omega)]
   conv => rhs; rw [← hm]
   rw [flat_get hf _ _ _ hmod, hy]
   rfl
 ·have hne : ¬ i * size + j = m := by
   intro h
   apply e
   rw [← h, Nat.mul_comm, Nat.mul_add_div (by omega), Nat.div_eq_of_lt hj, Nat.add_zero]
  rw [if_neg hne, List.getElem?_set_ne e]
  conv => rhs; rw [← hm]
  rw [flat_get hf _ _ _ hmod]
theorem OwnL.set1 {α : Type} {f : α → List Value} {size : Nat} {e : TypeId} (hf : ∀ x, (f x).length = size) {w : World} {base g n cap i j : Nat} {ys : List α} {y x : α} {u : Value} (h : OwnL f size e w base (.slice (some ⟨g, 0, none⟩) n cap) ys) (hy : ys[i]? = some y) (hx : f x = (f y).set j u) (hj : j < size) :
  OwnL f size e (w.setCell ⟨g, i * size + j, none⟩ u) base (.slice (some ⟨g, 0, none⟩) n cap) (ys.set i x) := by
 obtain ⟨hn0, hb, cur, hg, hn, hm, hs, ht⟩ := own_inv h
 refine own_mk hf (by rw [List.length_set]; exact hn0) hb (hg.set_ _ _) hn hm (by rw [Array.size_setIfInBounds]; exact hs) ?_
 rw [Array.toList_setIfInBounds, flat_set1 hf hy hx hj, ← ht, List.take_set]
theorem ints_fix {w w' : World} {g n : Nat} {A : Option Addr} {l : List Int} (h : Ints w A n l) (hne : ∀ a, A = some a → a.block ≠ g) (f : Fix g g w w') : Ints w' A n l := by
 refine ⟨h.1, fun h0 => ?_⟩
 obtain ⟨b, o, rfl, hb, hc⟩ := h.2 h0
 have hbg : b ≠ g := hne _ rfl
 exact ⟨b, o, rfl, Nat.lt_of_lt_of_le hb f.size, fun k x hx j u hu => f.cell (hc k x hx j u hu) hbg hbg⟩
/-- A slice of one's own of proofs, whose persons lie elsewhere. -/
structure OwnP (w : World) (base g n c : Nat) (l : List Pf) : Prop where
 own : OwnL pcells 9 56 w base (.slice (some ⟨g, 0, none⟩) n c) l
 per : ∀ p ∈ l, PI w p ∧ ∀ a, p.A = some a → a.block ≠ g
theorem OwnP.ext {w w' : World} {base g n c : Nat} {l : List Pf} (h : OwnP w base g n c l) (k : Below w.heap.size w w') : OwnP w' base g n c l := ⟨h.own.ext k, fun p hp => ⟨(h.per p hp).1.below k, (h.per p hp).2⟩⟩
theorem OwnP.prf {w : World} {base g n c : Nat} {l : List Pf} (h : OwnP w base g n c l) : Prf w (some ⟨g, 0, none⟩) n l := by
 obtain ⟨A, c', e, -, -, har, -⟩ := OwnL.arr kdQ h.own
 cases e
 exact ⟨har, fun p hp => (h.per p hp).1⟩
theorem run_copy_none (w : World) (ty : TypeId) (b : Addr) (dCap sCap : Nat) :
  (Builtin.copy_ #[22, 22] ty #[.slice (some b) 0 dCap, .slice none 0 sCap]).run Tryz.prog w = .ok (goInt (0 : Nat)) w := by
 have hsz : (Tryz.prog.info? 56).map (·.size) = some 9 := by
  obtain ⟨j, hj, h0, h1, h2⟩ := info_parts kdQ.hi
  rw [hj]; simp [h1]
 cases hq : Tryz.prog.info? 56 with
 | none => rw [hq] at hsz; cases hsz
 | some i =>
  simp [Builtin.copy_, run_underlying kdQ.ht, Builtin.lenOf, Builtin.firstCells, sizeOf, typeInfo, hq, storeCells]
end Go.Proofs.YtehhlgdkhecacaaGreat

namespace Go.Proofs.YtehhlgdkhecacaaGreat
open Go.RowKit Go.Shelf
theorem run_copy_many (w : World) (dT sT ty elem : TypeId) (size b o dLen dCap : Nat) (a : Addr) (sLen sCap : Nat) (cs : List Value)
  (hu : Tryz.prog.underlying dT = some (.slice elem)) (hs : (Tryz.prog.info? elem).map (·.size) = some size) (hn : cs.length = Nat.min sLen dLen * size)
  (hsrc : ∀ j v, cs[j]? = some v → w.cell? (a.add j) = some v) (hc : ∀ j, j < cs.length → (w.cell? ⟨b, o + j, none⟩).isSome = true) (hf : ∀ j, j < cs.length → w.frozen? ⟨b, o + j, none⟩ = false) (h1 : ∀ v ∈ cs, v.oneCell' = true) :
  (Builtin.copy_ #[dT, sT] ty #[.slice (some ⟨b, o, none⟩) dLen dCap, .slice (some a) sLen sCap]).run Tryz.prog w = .ok (goInt (Nat.min sLen dLen)) (w.setCells b o cs) := by
 have hl := run_loadCells_list (P := Tryz.prog) w a cs hsrc
 have hst := run_storeCells_cells (P := Tryz.prog) b o cs 0 w (by simpa using hc) (by simpa using hf) h1
 cases hq : Tryz.prog.info? elem with
 | none => simp [hq] at hs
 | some i =>
  have hi : i.size = size := by simpa [hq] using hs
  simp [Builtin.copy_, run_underlying hu, Builtin.lenOf, Builtin.firstCells, sizeOf, typeInfo, hq, hi, ← hn, hl, hst]
theorem blk_cell {w : World} {g : Nat} {t : TypeId} {cur : Array Value} (h : Blk w g t cur) {j : Nat} {v : Value} (hj : cur.toList[j]? = some v) : w.cell? ⟨g, j, none⟩ = some v := by
 have h2 : cur[j]? = some v := by simpa using hj
 unfold Blk at h
 simp [World.cell?, h, h2]
theorem blk_frozen {w : World} {g : Nat} {t : TypeId} {cur : Array Value} (h : Blk w g t cur) (j : Nat) : w.frozen? ⟨g, j, none⟩ = false := by
 unfold Blk at h
 simp [World.frozen?, h]
theorem blk_some {w : World} {g : Nat} {t : TypeId} {cur : Array Value} (h : Blk w g t cur) {j : Nat} (hj : j < cur.size) : (w.cell? ⟨g, j, none⟩).isSome = true := by
 rw [blk_cell h (v := cur[j]) (by simp [hj])]; rfl
theorem blk_drew {w : World} {g : Nat} {t : TypeId} {cur : Array Value} (h : Blk w g t cur) : Blk w.drew g t cur := h
theorem wp_copy_runQ (w : World) {o : Oper} {a : Act} {K : Act → World → Prop} {Q : Exit → Act → World → Prop} (d s : Operand) (t t' : TypeId)
  (ho : o.op = .call { callee := .builtin .copy, args := #[d, s], argTypes := #[t, t'] }) (v u : Value) (hd : a.eval d = v) (hs : a.eval s = u) {v' : Value} {w' : World}
  (hr : (Builtin.copy_ #[t, t'] o.type #[v, u]).run Tryz.prog w = .ok v' w') (h : K (a.put o.dst v') w') : o.wp Tryz.prog a w K Q := by
 unfold Oper.wp execOp
 simp only [ho, resolve, invoke, builtin, Sem.run_bind, Sem.run_pure, Result.andThen_ok, List.map_toArray, List.map_cons, List.map_nil, hd, hs, hr]
 exact h
theorem wpList_copy_runQ (w : World) {ops : Array Oper} {rest : List Oper} {o : Oper} {a : Act} {Q : Exit → Act → World → Prop} (hgd : o.guard = none) (d s : Operand) (t t' : TypeId)
  (ho : o.op = .call { callee := .builtin .copy, args := #[d, s], argTypes := #[t, t'] }) (v u : Value) (hd : a.eval d = v) (hs : a.eval s = u) {v' : Value} {w' : World}
  (hr : (Builtin.copy_ #[t, t'] o.type #[v, u]).run Tryz.prog w = .ok v' w') (h : wpList Tryz.prog ops Q rest (a.put o.dst v') w') : wpList Tryz.prog ops Q (o :: rest) a w :=
 wpList_plain hgd fun _ hK => wp_copy_runQ w d s t t' ho v u hd hs hr (hK _ _ h)
/-- The same proofs. -/
def CopP (w : World) (base g n c : Nat) (l : List Qf) : Prop := ∃ l', OwnP w base g n c l' ∧ l'.map Pf.q = l
theorem size56 : (Tryz.prog.info? 56).map (·.size) = some 9 := by
 obtain ⟨j, hj, h0, h1, h2⟩ := info_parts kdQ.hi
 rw [hj]; simp [h1]
/-- The row as make and copy leave it. -/
theorem copied_row (A : Option Addr) (n c : Nat) (l : List Pf) (w : World) (ha : Prf w A n l) (hn : n ≤ 1000) (hq : ∀ p ∈ l, 1 ≤ p.n) : ∃ W2, Below w.heap.size w W2 ∧
  (Instr.makeSlice 22 (.int .i64 (n : Int)) (.int .i64 (n : Int))).run Tryz.prog w = .ok (.slice (some ⟨w.heap.size, 0, none⟩) n n) (w.alloc (.cells (madeCells zP.cells (n * 9)) 56)) ∧
  (∀ ty, (Builtin.copy_ #[22, 22] ty #[.slice (some ⟨w.heap.size, 0, none⟩) n n, .slice A n c]).run Tryz.prog (w.alloc (.cells (madeCells zP.cells (n * 9)) 56)) = .ok (goInt (n : Nat)) W2) ∧
  OwnP W2 w.heap.size w.heap.size n n l := by
 obtain ⟨i0, hi0, hz0, hz1, hz2⟩ := info_parts info56
 have hmk := run_make (P := Tryz.prog) w 22 56 i0 zP kdQ.ht hi0 hz0 .i64 .i64 n n (by omega) (Int.le_refl _) (by rw [hz2]; omega) (by omega)
 simp only [Int.toNat_natCast, hz1] at hmk
 obtain ⟨W1, hW1⟩ : ∃ W1, w.alloc (.cells (madeCells zP.cells (n * 9)) 56) = W1 := ⟨_, rfl⟩
 have hb : Blk W1 w.heap.size 56 (madeCells zP.cells (n * 9)) := by rw [← hW1]; exact Blk.new _ _ _
 have hsz : (madeCells zP.cells (n * 9)).size = n * 9 := size_madeCells _ _
 have hg : Below w.heap.size w W1 := by rw [← hW1]; exact one_more _ _
 have hper : ∀ (W : World), Fix w.heap.size w.heap.size W1 W → ∀ p ∈ l, PI W p ∧ ∀ a, p.A = some a → a.block ≠ w.heap.size := fun W f p hp => by
  have hi := ha.p p hp
  obtain ⟨b, o, e, hlt, hc⟩ := hi.i.2 (hq p hp)
  have hne : ∀ a, p.A = some a → a.block ≠ w.heap.size := fun a e2 => by
   rw [e] at e2; cases e2; exact Nat.ne_of_lt hlt
  exact ⟨⟨ints_fix (hi.i.below hg) hne f, hi.m⟩, hne⟩
 rw [hW1] at hmk ⊢
 obtain ⟨cs, hcs⟩ : ∃ cs, l.flatMap pcells = cs := ⟨_, rfl⟩
 have hcl : cs.length = n * 9 := by rw [← hcs, flat_len pcells_len, ha.len]
 obtain ⟨cur, hcur⟩ : ∃ cur, madeCells zP.cells (n * 9) = cur := ⟨_, rfl⟩
 rw [hcur] at hb hsz
 have hfit : 0 + cs.length ≤ cur.size := by omega
 refine ⟨W1.setCells w.heap.size 0 cs, hg.trans ((fix_setCells (g := w.heap.size) cs 0 W1).low (Nat.le_refl _) hg.size), hmk, fun ty => ?_, ?_⟩
 ·by_cases h0 : n = 0
  ·subst h0
   have : cs = [] := List.length_eq_zero_iff.1 (by omega)
   rw [this]
   cases A with
   | none => exact run_copy_none _ _ _ _ _
   | some a => exact run_copy_many W1 22 22 ty 56 9 w.heap.size 0 0 0 a 0 c [] kdQ.ht size56 (by simp) (fun j v hj => by simp at hj) (fun j hj => absurd hj (by simp)) (fun j hj => absurd hj (by simp)) (fun v hv => by cases hv)
  ·obtain ⟨b, o, rfl, hlt, -⟩ := ha.a.2 (by omega)
   have := run_copy_many W1 22 22 ty 56 9 w.heap.size 0 n n ⟨b, o, none⟩ n c cs kdQ.ht size56 (by rw [hcl, show Nat.min n n = n from Nat.min_self n]) (fun j v hj => ?_) (fun j hj => blk_some hb (by omega)) (fun j _ => blk_frozen hb _) (fun v hv => ?_)
   ·rwa [show Nat.min n n = n from Nat.min_self n] at this
   ·rw [add_at]
    have hj9 : j / 9 < n := by
     have := (List.getElem?_eq_some_iff.1 hj).1
     omega
    obtain ⟨b', o', x, e, -, hx, hc⟩ := ha.a.at hj9
    cases e
    have hd := Nat.div_add_mod j 9
    rw [← hcs] at hj
    have hj2 : (l.flatMap pcells)[j / 9 * 9 + j % 9]? = some v := by rw [Nat.mul_comm, hd]; exact hj
    rw [flat_get pcells_len _ _ _ (Nat.mod_lt _ (by decide)), hx] at hj2
    have := hc W1 hg (j % 9) v hj2
    rwa [show o + j / 9 * 9 + j % 9 = o + j by omega] at this
   ·rw [← hcs] at hv
    obtain ⟨x, -, hx⟩ := List.mem_flatMap.1 hv
    exact pcells_one x v hx
 ·refine ⟨own_mk pcells_len ha.len.symm (Nat.le_refl _) (blk_setCells hb hfit) (Nat.le_refl _) (by unfold maxLen; omega) ?_ ?_, hper _ (fix_setCells _ _ _)⟩
  ·rw [List.size_toArray, lput_len (by rw [Array.length_toList]; exact hfit), Array.length_toList, hsz]
  ·show (lput cur.toList 0 cs).take (n * 9) = _
   unfold lput
   rw [List.take_zero, List.nil_append, ← hcl, List.take_left, hcs]
theorem set_q (lk : List Pf) (k : Nat) (y' : Pf) (hy : y'.q = (lk.getD k p0).q) : (lk.set k y').map Pf.q = lk.map Pf.q := by
 rw [List.map_set, hy]
 refine List.ext_getElem? fun i => ?_
 rw [List.getElem?_set]
 split
 ·next h =>
  subst h
  split
  ·next h2 =>
   rw [List.length_map] at h2
   rw [List.getElem?_map, getD_pf h2]
   rfl
  ·next h2 => rw [List.getElem?_eq_none (by omega)]
 ·rfl
/-- A proof gets another slice of the same persons. -/
theorem OwnP.setPer {w W5 : World} {base g n c k : Nat} {lk : List Pf} {y : Pf} (ho : OwnP w base g n c lk) (hk : k < n) (hy : lk.getD k p0 = y) (g5 : Below w.heap.size w W5) {A5 : Option Addr} {c5 : Nat} (har : Ints W5 A5 y.q.per.length y.q.per)
  (hne : ∀ a, A5 = some a → a.block ≠ g) (hm : y.q.per.length ≤ c5 ∧ y.q.per.length ≤ 9223372036854775807) : OwnP (W5.setCell ⟨g, k * 9 + 2, none⟩ (.slice A5 y.q.per.length c5)) base g n c (lk.set k ⟨y.q, A5, y.q.per.length, c5⟩) := by
 have hl : k < lk.length := by rw [ho.prf.len]; exact hk
 have f : Fix g g W5 (W5.setCell ⟨g, k * 9 + 2, none⟩ (.slice A5 y.q.per.length c5)) := (Fix.refl g g W5).setCell (p := ⟨g, k * 9 + 2, none⟩) (.inl rfl) _
 refine ⟨(ho.own.ext g5).set1 pcells_len (y := y) (by rw [← hy]; exact getD_pf hl) (x := ⟨y.q, A5, y.q.per.length, c5⟩) rfl (by decide), fun p hp => ?_⟩
 rcases List.mem_or_eq_of_mem_set hp with h | rfl
 ·obtain ⟨h1, h2⟩ := ho.per p h
  exact ⟨⟨ints_fix (h1.i.below g5) h2 f, h1.m⟩, h2⟩
 ·exact ⟨⟨ints_fix har hne f, hm⟩, hne⟩
set_option maxRecDepth 100000 in
set_option maxHeartbeats 4000000 in
theorem copied_any (A : Option Addr) (n c : Nat) (l : List Pf) (w : World) (ha : Prf w A n l) (hn : n ≤ 1000) (hq : ∀ p ∈ l, 1 ≤ p.n ∧ p.n ≤ 1000000) :
  Calls Tryz.prog 116 #[.slice A n c] w fun e w' => (∃ g, e = .returned (.slice (some ⟨g, 0, none⟩) n n) ∧ CopP w' w.heap.size g n n (l.map Pf.q)) ∧ Below w.heap.size w w' := by
 obtain ⟨W2, hg2, hmk, hcp, hop⟩ := copied_row A n c l w ha hn fun p hp => (hq p hp).1
 obtain ⟨W1, hW1⟩ : ∃ W1, w.alloc (.cells (madeCells zP.cells (n * 9)) 56) = W1 := ⟨_, rfl⟩
 rw [hW1] at hmk hcp
 obtain ⟨g, hg⟩ : ∃ g, w.heap.size = g := ⟨_, rfl⟩
 have HLN := Lib.hid ha.len
 rw [hg] at hop hmk hcp hg2 ⊢
 have HG := Lib.hid hg
 have G2 := Lib.hid hg2
 have HOP := Lib.hid hop
 have HQ := Lib.hid hq
 clear ha hg hg2 hop hW1 hq
 go_enter Tryz.func116, Tryz.ntmps116
 go_upto_region 2 with fail
 go_upto_region 3 with (at_builtin; refine wpList_copy_runQ _ rfl _ _ 22 22 rfl _ _ rfl rfl (hcp _) ?_)
 clear hmk hcp
 go_wp2_with fail
 go_loopw [13] (fun i wr => ∃ k : Nat, k ≤ n ∧ i = .int .i64 k ∧ (∃ lk, OwnP wr g g n n lk ∧ lk.map Pf.q = l.map Pf.q ∧ ∀ p ∈ lk, 1 ≤ p.n ∧ p.n ≤ 1000000) ∧ Below g w wr) (fun i _ => n - (intOf i).toNat)
 case atStart => exact ⟨0, Nat.zero_le _, rfl, ⟨l, HOP.out, rfl, fun p hp => HQ.out p hp⟩, G2.out⟩
 case round =>
  obtain ⟨k, hk, rfl, ⟨lk, ho, hlq, hqk⟩, hgw⟩ := hrel
  have HO := Lib.hid ho
  have HGW := Lib.hid hgw
  have HLQ := Lib.hid hlq
  have HQK := Lib.hid hqk
  have hwr2 : wrap64 ((k : Int) + 1) = (k : Int) + 1 := wrap_in (by omega)
  clear hlq hqk hgw
  by_cases hkn : k < n
  ·obtain ⟨b, o, e0, hbl, hyi, hym, hyc⟩ := ho.prf.at hkn
   cases e0
   obtain ⟨y, hy⟩ : ∃ y, lk.getD k p0 = y := ⟨_, rfl⟩
   rw [hy] at hyi hym hyc
   obtain ⟨-, -, e2, -⟩ := hyc _ (Below.refl _ _)
   rw [Nat.zero_add] at e2
   have HY := Lib.hid hy
   have TC := Lib.hid (cloneI_any y.A y.n y.c y.q.per wr hyi.i (HQK.out y hym).2)
   have HYL := Lib.hid (And.intro hyi.len (HQK.out y hym))
   have HBK := Lib.hid hbl
   obtain ⟨-, -, cur, hcur, -, -, -, -⟩ := own_inv ho.own
   have HCU := Lib.hid hcur
   clear ho hy hyi hym hyc hcur hbl
   go_wp2_with (first | (go_at_call 95; go_loud ((with_reducible refine (TC.out).mono ?_); rintro e W5 ⟨⟨v5, rfl, ho5⟩, hg5⟩; obtain ⟨A5, c5, rfl, h51, h52, har5, hbk5⟩ := OwnL.arr kdI ho5; have HA5 := Lib.hid har5; have HB5 := Lib.hid hbk5; have H51 := Lib.hid h51; have HG5 := Lib.hid hg5; have e2' := (hg5.cell (show (⟨g, k * 9 + 2, none⟩ : Addr).block < wr.heap.size from HBK.out)).trans e2; have f2' := (HCU.out.ext hg5).frozen (k * 9 + 2); clear ho5 hg5 har5 hbk5 h51 h52 e2)))
   go_roundw
   case rel =>
    have hl := HYL.out
    obtain ⟨b5, o5, e5, -, -⟩ := HA5.out.2 (by omega)
    have ho2 := HO.out.setPer hkn HY.out HG5.out HA5.out (fun a e => by
     rw [e5] at e
     cases e
     have h1 := (HB5.out b5 o5 e5).2.1
     have h2 : g < wr.heap.size := HBK.out
     show b5 ≠ g
     omega) ⟨H51.out, by omega⟩
    exact ⟨k + 1, by omega, rfl, ⟨_, ho2, by rw [set_q _ _ _ (by rw [HY.out]), HLQ.out], fun p hp => by
     rcases List.mem_or_eq_of_mem_set hp with h | rfl
     ·exact HQK.out p h
     ·show 1 ≤ y.q.per.length ∧ y.q.per.length ≤ 1000000
      omega⟩, (HGW.out.trans (HG5.out.mono (Nat.le_of_lt HBK.out))).setCell (p := ⟨g, k * 9 + 2, none⟩) (Nat.le_refl _) _⟩
   case measure => simp only [intOf]; omega
  ·obtain rfl : k = n := by omega
   clear ho
   go_wp2_with fail
   go_ret
   exact ⟨⟨g, rfl, lk, HO.out, HLQ.out⟩, HGW.out⟩
end Go.Proofs.YtehhlgdkhecacaaGreat

namespace Go.Proofs.YtehhlgdkhecacaaGreat
/-- What describes a proof. -/
structure Ra where
 kind : Int
 per : Int
 ots : Int
 oth : Int
 par : Int
 day : Int
 long : Int
 kno : Int
 unt : Int
def r0 : Ra := ⟨0, 0, 0, 0, 0, 0, 0, 0, 0⟩
/-- Who else a proof may be of, by bits. -/
def bitB (n : Int) (k : Nat) : Bool := (bits .and .i64 (n % 32) (2 ^ (k - 1)) != 0)
def perK (opn : Nat) (ots who : Int) : Nat → List Int
 | 0 => [who]
 | k + 1 => if (decide (opn < 5) && decide ((perK opn ots who k).length < 3) && bitB ots (k + 1)) = true then putI (perK opn ots who k) ((k : Int) + 1) else perK opn ots who k
def whoR (x : Ra) : Int := 1 + x.per % 5
def mkQ (x : Ra) (i opn : Nat) : Qf :=
 { src := 3 * (i : Int) + 2, kind := 1 + x.kind % 8, per := perK opn x.ots (whoR x) 5, oth := if 1 + x.kind % 8 = 2 then 1 + x.oth % 5 else 0, par := if 1 + x.kind % 8 = 2 then 0 else x.par % 3, day := x.day % 2000, thr := if lastsB (1 + x.kind % 8) = true then x.day % 2000 + x.long % 450 else 0, kno := x.kno % 40, unt := if x.unt % 4 = 0 then x.kno % 40 + 1 + x.unt.tdiv 4 % 30 else 0 }
def opnN (q : Qf) : Nat := if 1 < q.per.length then 1 else 0
def madeP (x : List Ra) : Nat → List Qf × Nat
 | 0 => ([], 0)
 | m + 1 => ((madeP x m).1 ++ [mkQ (x.getD m r0) m (madeP x m).2], (madeP x m).2 + opnN (mkQ (x.getD m r0) m (madeP x m).2))
def madeN (x : List Ra) : Nat := min x.length 10
def madeL (x : List Ra) : List Qf := (madeP x (madeN x)).1
def whoP (x : List Ra) (m : Nat) : List Int := (List.range m).map fun i => whoR (x.getD i r0)
def whoL (x : List Ra) : List Int := whoP x (madeN x)
theorem putI_len (l : List Int) (n : Int) : (putI l n).length ≤ l.length + 1 := by
 unfold putI
 split
 ·omega
 ·rw [List.length_append, List.length_cons]
  have h : ∀ l : List Int, (l.filter (· < n)).length + (l.filter (n < ·)).length ≤ l.length := fun l => by
   induction l with
   | nil => simp
   | cons y l ih =>
    rw [List.filter_cons, List.filter_cons]
    by_cases h1 : y < n
    ·have h2 : ¬ n < y := by omega
     simp only [h1, h2, decide_true, decide_false, if_true, List.length_cons, Bool.false_eq_true, if_false]
     omega
    ·by_cases h2 : n < y
     ·simp only [h1, h2, decide_true, decide_false, if_true, List.length_cons, Bool.false_eq_true, if_false]
      omega
     ·simp only [h1, h2, decide_false, List.length_cons, Bool.false_eq_true, if_false]
      omega
  have := h l
  omega
theorem putI_len1 {l : List Int} {n : Int} (h : 1 ≤ l.length) : 1 ≤ (putI l n).length := by
 unfold putI
 split
 ·exact h
 ·rw [List.length_append, List.length_cons]; omega
theorem perK_spec {opn : Nat} {ots who : Int} (hw : 1 ≤ who ∧ who ≤ 5) : ∀ k, k ≤ 5 → (perK opn ots who k).Pairwise (· < ·) ∧ (∀ n ∈ perK opn ots who k, 1 ≤ n ∧ n ≤ 5) ∧ who ∈ perK opn ots who k ∧ 1 ≤ (perK opn ots who k).length ∧ (perK opn ots who k).length ≤ 3
 | 0, _ => ⟨List.pairwise_singleton _ _, fun n hn => by rw [show perK opn ots who 0 = [who] from rfl, List.mem_singleton] at hn; subst hn; exact hw, List.mem_singleton.2 rfl, Nat.le_refl _, by show 1 ≤ 3; omega⟩
 | k + 1, hk => by
  obtain ⟨h1, h2, h3, h4, h5⟩ := perK_spec (opn := opn) (ots := ots) hw k (by omega)
  unfold perK
  split
  ·next hc =>
   simp only [Bool.and_eq_true, decide_eq_true_eq] at hc
   refine ⟨putI_up h1, fun n hn => ?_, putI_mem.2 (.inr h3), putI_len1 h4, ?_⟩
   ·rcases putI_mem.1 hn with rfl | h
    ·omega
    ·exact h2 n h
   ·have := putI_len (perK opn ots who k) ((k : Int) + 1)
    omega
  ·exact ⟨h1, h2, h3, h4, h5⟩
theorem perK_shut {opn : Nat} {ots who : Int} (h : 5 ≤ opn) : ∀ k, perK opn ots who k = [who]
 | 0 => rfl
 | k + 1 => by
  unfold perK
  rw [if_neg (by simp; omega)]
  exact perK_shut h k
theorem whoR_bd (x : Ra) : 1 ≤ whoR x ∧ whoR x ≤ 5 := by unfold whoR; omega
theorem mkQ_per (x : Ra) (i opn : Nat) : (mkQ x i opn).per = perK opn x.ots (whoR x) 5 := rfl
theorem mkQ_ok (x : Ra) (i opn : Nat) (hi : i < 1000) : isQf (mkQ x i opn) = true := by
 obtain ⟨h1, h2, -, h4, h5⟩ := perK_spec (opn := opn) (ots := x.ots) (whoR_bd x) 5 (by omega)
 have e1 : upB (mkQ x i opn).per = true := upB_iff.2 h1
 have e2 : ((mkQ x i opn).per.all fun n => rng n 1 999) = true := List.all_eq_true.2 fun n hn => by have := h2 n hn; unfold rng; simp; omega
 have e3 : rng ((mkQ x i opn).per.length : Int) 1 4 = true := by rw [mkQ_per]; unfold rng; simp; omega
 have e4 : lastsB (mkQ x i opn).kind = lastsB (1 + x.kind % 8) := rfl
 unfold isQf
 rw [e1, e2, e3, e4]
 simp only [mkQ]
 have k1 : rng (3 * (i : Int) + 2) 1 99999 = true := by unfold rng; simp; omega
 have k2 : rng (1 + x.kind % 8) 1 8 = true := by unfold rng; simp; omega
 have k3 : rng (x.day % 2000) 0 4166 = true := by unfold rng; simp; omega
 have k4 : rng (x.kno % 40) 0 4166 = true := by unfold rng; simp; omega
 have k5 : (decide ((if x.unt % 4 = 0 then x.kno % 40 + 1 + x.unt.tdiv 4 % 30 else 0) = 0) || rng (if x.unt % 4 = 0 then x.kno % 40 + 1 + x.unt.tdiv 4 % 30 else 0) (x.kno % 40 + 1) 4166) = true := by
  split
  ·generalize x.unt.tdiv 4 = u
   unfold rng; simp; omega
  ·simp
 have k6 : (if lastsB (1 + x.kind % 8) = true then rng (if lastsB (1 + x.kind % 8) = true then x.day % 2000 + x.long % 450 else 0) (x.day % 2000) 4166 else decide ((if lastsB (1 + x.kind % 8) = true then x.day % 2000 + x.long % 450 else 0) = 0)) = true := by
  split
  ·next h => unfold rng; simp; omega
  ·simp
 have k7 : (if 1 + x.kind % 8 = 2 then rng (if 1 + x.kind % 8 = 2 then 1 + x.oth % 5 else 0) 1 999 && decide ((if 1 + x.kind % 8 = 2 then (0 : Int) else x.par % 3) = 0) else decide ((if 1 + x.kind % 8 = 2 then 1 + x.oth % 5 else 0) = 0) && rng (if 1 + x.kind % 8 = 2 then (0 : Int) else x.par % 3) 0 5) = true := by
  split
  ·unfold rng; simp; omega
  ·unfold rng; simp; omega
 simp only [Bool.and_eq_true]
 exact ⟨⟨⟨⟨⟨⟨⟨⟨⟨k1, k2⟩, trivial⟩, trivial⟩, trivial⟩, k3⟩, k4⟩, k5⟩, k6⟩, k7⟩
theorem manyL_snoc (l : List Qf) (q : Qf) : manyL (l ++ [q]) = manyL l * q.per.length := by
 unfold manyL
 rw [List.map_append, List.foldl_append]
 rfl
theorem madeP_spec (x : List Ra) : ∀ m, m ≤ 1000 → (madeP x m).1.length = m ∧ (madeP x m).2 ≤ 5 ∧ manyL (madeP x m).1 ≤ 3 ^ (madeP x m).2 ∧ (∀ i, i < m → ∃ o, (madeP x m).1.getD i q0 = mkQ (x.getD i r0) i o)
 | 0, _ => ⟨rfl, by show 0 ≤ 5; omega, by show manyL [] ≤ 3 ^ 0; decide, fun i hi => absurd hi (by omega)⟩
 | m + 1, hm => by
  obtain ⟨h1, h2, h3, h4⟩ := madeP_spec x m (by omega)
  have hp := perK_spec (opn := (madeP x m).2) (ots := (x.getD m r0).ots) (whoR_bd (x.getD m r0)) 5 (by omega)
  refine ⟨?_, ?_, ?_, fun i hi => ?_⟩
  ·show ((madeP x m).1 ++ [_]).length = m + 1
   rw [List.length_append, h1]; rfl
  ·show (madeP x m).2 + opnN _ ≤ 5
   unfold opnN
   split
   ·next h =>
    rw [mkQ_per] at h
    by_cases h5 : 5 ≤ (madeP x m).2
    ·rw [perK_shut h5] at h
     exact absurd h (by show ¬ 1 < 1; omega)
    ·omega
   ·omega
  ·show manyL ((madeP x m).1 ++ [_]) ≤ 3 ^ ((madeP x m).2 + opnN _)
   rw [manyL_snoc]
   unfold opnN
   split
   ·rw [Nat.pow_succ]
    exact Nat.mul_le_mul h3 hp.2.2.2.2
   ·next h =>
    have h1p : (mkQ (x.getD m r0) m (madeP x m).2).per.length ≤ 1 := by omega
    rw [Nat.add_zero]
    exact Nat.le_trans (Nat.mul_le_mul_left _ h1p) (by rw [Nat.mul_one]; exact h3)
  ·show ∃ o, ((madeP x m).1 ++ [mkQ (x.getD m r0) m (madeP x m).2]).getD i q0 = mkQ (x.getD i r0) i o
   rcases Nat.eq_or_lt_of_le (Nat.lt_succ_iff.1 hi) with e | e
   ·refine ⟨(madeP x m).2, ?_⟩
    subst e
    have := getD_app_at (a := (madeP x i).1) (x := mkQ (x.getD i r0) i (madeP x i).2) (d := q0)
    rwa [h1] at this
   ·obtain ⟨o, ho⟩ := h4 i e
    exact ⟨o, by rw [getD_app_lt (by rw [h1]; exact e)]; exact ho⟩
theorem madeN_le (x : List Ra) : madeN x ≤ 10 ∧ madeN x ≤ x.length := by unfold madeN; omega
theorem madeL_len (x : List Ra) : (madeL x).length = madeN x := (madeP_spec x _ (by have := madeN_le x; omega)).1
theorem madeL_at (x : List Ra) {i : Nat} (hi : i < madeN x) : ∃ o, (madeL x).getD i q0 = mkQ (x.getD i r0) i o := (madeP_spec x _ (by have := madeN_le x; omega)).2.2.2 i hi
theorem mem_getD {l : List Qf} {q : Qf} (h : q ∈ l) : ∃ i, i < l.length ∧ l.getD i q0 = q := by
 obtain ⟨i, hi, e⟩ := List.getElem_of_mem h
 exact ⟨i, hi, by rw [List.getD_eq_getElem?_getD, List.getElem?_eq_getElem hi, e]; rfl⟩
theorem madeL_mem {x : List Ra} {q : Qf} (h : q ∈ madeL x) : ∃ i o, i < madeN x ∧ q = mkQ (x.getD i r0) i o := by
 obtain ⟨i, hi, e⟩ := mem_getD h
 rw [madeL_len] at hi
 obtain ⟨o, ho⟩ := madeL_at x hi
 exact ⟨i, o, hi, e.symm.trans ho⟩
theorem made_src (x : List Ra) : ((madeL x).map Qf.src).Pairwise (· < ·) := by
 rw [List.pairwise_iff_getElem]
 intro i j hi hj hij
 have hj' : j < madeN x := by rw [List.length_map, madeL_len] at hj; exact hj
 have g : ∀ k, k < madeN x → ∀ hk, ((madeL x).map Qf.src)[k]'hk = 3 * (k : Int) + 2 := fun k hk hk2 => by
  obtain ⟨o, ho⟩ := madeL_at x hk
  rw [List.getElem_map]
  have : (madeL x)[k]'(by rw [madeL_len]; exact hk) = (madeL x).getD k q0 := by rw [List.getD_eq_getElem?_getD, List.getElem?_eq_getElem (by rw [madeL_len]; exact hk)]; rfl
  rw [this, ho]; rfl
 rw [g i (by omega), g j hj']
 omega
theorem made_ok (x : List Ra) : okL (madeL x) = true := by
 have hb := madeN_le x
 obtain ⟨-, h2, h3, -⟩ := madeP_spec x (madeN x) (by omega)
 unfold okL
 simp only [Bool.and_eq_true, decide_eq_true_eq]
 refine ⟨⟨⟨List.all_eq_true.2 fun q hq => ?_, by rw [madeL_len]; omega⟩, ?_⟩, upB_iff.2 (made_src x)⟩
 ·obtain ⟨i, o, hi, rfl⟩ := madeL_mem hq
  exact mkQ_ok _ _ _ (by omega)
 ·exact Nat.le_trans h3 (Nat.le_trans (Nat.pow_le_pow_right (by omega) h2) (by decide))
theorem whoP_len (x : List Ra) (m : Nat) : (whoP x m).length = m := by unfold whoP; simp
theorem whoP_at (x : List Ra) {m i : Nat} (h : i < m) : (whoP x m).getD i 0 = whoR (x.getD i r0) := by
 unfold whoP
 simp [List.getD_eq_getElem?_getD, h]
theorem whoP_succ (x : List Ra) (m : Nat) : whoP x (m + 1) = whoP x m ++ [whoR (x.getD m r0)] := by unfold whoP; rw [List.range_succ, List.map_append]; rfl
theorem who_per (x : List Ra) {i : Nat} (h : i < madeN x) : (whoL x).getD i 0 ∈ ((madeL x).getD i q0).per := by
 obtain ⟨o, ho⟩ := madeL_at x h
 rw [ho, show (whoL x).getD i 0 = whoR (x.getD i r0) from whoP_at x h]
 exact (perK_spec (whoR_bd _) 5 (by omega)).2.2.1
def clr (q : Qf) : Qf := { q with kno := 0, unt := 0 }
def honP (x : List Ra) : Nat → List Qf × List Int
 | 0 => ([], [])
 | m + 1 => if fitB ((honP x m).1 ++ [clr ((madeL x).getD m q0)]) (honP x m).2 ((whoL x).getD m 0) = true then ((honP x m).1 ++ [clr ((madeL x).getD m q0)], (honP x m).2 ++ [(whoL x).getD m 0]) else honP x m
def honL (x : List Ra) : List Qf := (honP x (madeN x)).1
def honW (x : List Ra) : List Int := (honP x (madeN x)).2
theorem fitB_app {c : List Qf} {q : Qf} {b : List Int} {n : Int} (h : b.length < c.length) : fitB (c ++ [q]) b n = fitB c b n := by
 unfold fitB
 rw [getD_app_lt h]
 congr 1
 rw [Bool.eq_iff_iff, List.all_eq_true, List.all_eq_true]
 have e : ∀ i, i ∈ List.range b.length → (c ++ [q]).getD i q0 = c.getD i q0 := fun i hi => getD_app_lt (by rw [List.mem_range] at hi; omega)
 exact ⟨fun g i hi => by have := g i hi; rwa [e i hi] at this, fun g i hi => by rw [e i hi]; exact g i hi⟩
theorem isRd_snoc {c : List Qf} {r : List Int} {q : Qf} {n : Int} (h : isRd c r = true) (hq : n ∈ q.per) (hf : fitB (c ++ [q]) r n = true) : isRd (c ++ [q]) (r ++ [n]) = true := by
 unfold isRd at h ⊢
 rw [Bool.and_eq_true, decide_eq_true_eq, List.all_eq_true] at h ⊢
 obtain ⟨h1, h2⟩ := h
 refine ⟨by rw [List.length_append, List.length_append, h1]; rfl, fun i hi => ?_⟩
 rw [List.mem_range, List.length_append, List.length_singleton] at hi
 rcases Nat.eq_or_lt_of_le (Nat.lt_succ_iff.1 hi) with e | e
 ·subst e
  rw [getD_app_at, ← h1, getD_app_at, List.take_left, hf]
  simp [hq]
 ·have := h2 i (List.mem_range.2 e)
  rw [getD_app_lt (a := r) (by omega), getD_app_lt (a := c) e, List.take_append_of_le_length (by omega), fitB_app (by rw [List.length_take]; omega)]
  exact this
theorem clr_ok {q : Qf} (h : isQf q = true) : isQf (clr q) = true := by
 unfold isQf at h ⊢
 simp only [Bool.and_eq_true] at h ⊢
 obtain ⟨⟨⟨⟨h1, h2⟩, h3⟩, h4⟩, h5⟩ := h
 exact ⟨⟨⟨⟨h1, by unfold rng clr; simp⟩, by unfold clr; simp⟩, h4⟩, h5⟩
theorem hon_spec (x : List Ra) : ∀ m, m ≤ madeN x → (honP x m).1.length = (honP x m).2.length ∧ isRd (honP x m).1 (honP x m).2 = true ∧ (∀ q ∈ (honP x m).1, isQf q = true ∧ q.kno = 0 ∧ q.unt = 0) ∧ manyL (honP x m).1 ≤ manyL ((madeL x).take m) ∧ ((honP x m).1.map Qf.src).Sublist (((madeL x).take m).map Qf.src)
 | 0, _ => ⟨rfl, by show isRd [] [] = true; decide, fun q hq => absurd hq (by show ¬ q ∈ []; simp), Nat.le_refl _, List.Sublist.refl _⟩
 | m + 1, hm => by
  obtain ⟨h1, h2, h3, h4, h5⟩ := hon_spec x m (by omega)
  have hlt : m < (madeL x).length := by rw [madeL_len]; omega
  have ht := take_snoc (d := q0) hlt
  obtain ⟨o, ho⟩ := madeL_at x (show m < madeN x by omega)
  have hok : isQf ((madeL x).getD m q0) = true := by rw [ho]; exact mkQ_ok _ _ _ (by have := madeN_le x; omega)
  have hper : ((madeL x).getD m q0).per ≠ [] := by
   intro e
   have := who_per x (show m < madeN x by omega)
   rw [e] at this
   cases this
  have hpl : 1 ≤ ((madeL x).getD m q0).per.length := List.length_pos_iff.2 hper
  unfold honP
  rw [ht]
  split
  ·next hf =>
   refine ⟨by rw [List.length_append, List.length_append, h1]; rfl, isRd_snoc h2 (who_per x (by omega)) hf, fun q hq => ?_, ?_, ?_⟩
   ·rw [List.mem_append, List.mem_singleton] at hq
    rcases hq with hq | rfl
    ·exact h3 q hq
    ·exact ⟨clr_ok hok, rfl, rfl⟩
   ·show manyL ((honP x m).1 ++ [clr ((madeL x).getD m q0)]) ≤ _
    rw [manyL_snoc, manyL_snoc]
    exact Nat.mul_le_mul_right _ h4
   ·show (((honP x m).1 ++ [clr ((madeL x).getD m q0)]).map Qf.src).Sublist _
    rw [List.map_append, List.map_append]
    exact h5.append (List.Sublist.refl _)
  ·refine ⟨h1, h2, h3, ?_, ?_⟩
   ·rw [manyL_snoc]
    exact Nat.le_trans h4 (Nat.le_mul_of_pos_right _ hpl)
   ·rw [List.map_append]
    exact h5.trans (List.sublist_append_left _ _)
theorem hon_take (x : List Ra) : (madeL x).take (madeN x) = madeL x := List.take_of_length_le (by rw [madeL_len]; exact Nat.le_refl _)
theorem hon_ok (x : List Ra) : okL (honL x) = true := by
 obtain ⟨h1, h2, h3, h4, h5⟩ := hon_spec x (madeN x) (Nat.le_refl _)
 rw [hon_take] at h4 h5
 have hm := made_ok x
 unfold okL at hm ⊢
 simp only [Bool.and_eq_true, decide_eq_true_eq] at hm ⊢
 obtain ⟨⟨⟨m1, m2⟩, m3⟩, m4⟩ := hm
 have hl := h5.length_le
 rw [List.length_map, List.length_map] at hl
 refine ⟨⟨⟨List.all_eq_true.2 fun q hq => (h3 q hq).1, Nat.le_trans hl m2⟩, Nat.le_trans h4 m3⟩, upB_iff.2 ((made_src x).sublist h5)⟩
theorem hon_rd (x : List Ra) : isRd (honL x) (honW x) = true := (hon_spec x (madeN x) (Nat.le_refl _)).2.1
theorem cntL_all {l : List Qf} {k : Int} (h : ∀ q ∈ l, q.kno ≤ k ∧ q.unt = 0) : cntL l k = l := by
 unfold cntL
 refine List.filter_eq_self.2 fun q hq => ?_
 obtain ⟨h1, h2⟩ := h q hq
 unfold cnt
 simp [h1, h2]
theorem hon_cnt (x : List Ra) : cntL (honL x) 0 = honL x := cntL_all fun q hq => by
 obtain ⟨-, h2, h3⟩ := (hon_spec x (madeN x) (Nat.le_refl _)).2.2.1 q hq
 exact ⟨by omega, h3⟩
theorem hon_le (x : List Ra) : (honL x).length ≤ 10 := by
 have hl := (hon_spec x (madeN x) (Nat.le_refl _)).2.2.2.2.length_le
 rw [hon_take, List.length_map, List.length_map, madeL_len] at hl
 have := madeN_le x
 unfold honL
 omega
end Go.Proofs.YtehhlgdkhecacaaGreat

namespace Go.Proofs.YtehhlgdkhecacaaGreat
theorem wherS_mem {c : List Qf} {person day x : Int} : x ∈ wherS c person day ↔ ∃ r, isRd c r = true ∧ setS c r person day = x := by
 unfold wherS
 rw [setL_mem, List.mem_map]
 exact ⟨fun ⟨r, h, e⟩ => ⟨r, mem_reads.1 h, e⟩, fun ⟨r, h, e⟩ => ⟨r, mem_reads.2 h, e⟩⟩
theorem wherS_up (c : List Qf) (person day : Int) : (wherS c person day).Pairwise (· < ·) := setL_up _
theorem righN_no {l : List Int} {p : Int} : righN l p = 0 ↔ p ∉ l := by
 unfold righN
 split
 ·next h => split <;> simp [h]
 ·next h => simp [h]
theorem righN_yes {l : List Int} {p : Int} : righN l p = 1 ↔ l = [p] := by
 unfold righN
 split
 ·next h =>
  split
  ·next h1 =>
   obtain ⟨a, rfl⟩ := List.length_eq_one_iff.1 h1
   rw [List.mem_singleton] at h
   simp [h]
  ·next h1 =>
   constructor
   ·intro e; cases e
   ·intro e; rw [e] at h1; exact absurd rfl h1
 ·next h =>
  constructor
  ·intro e; cases e
  ·intro e; rw [e] at h; simp at h
theorem righN_cases (l : List Int) (p : Int) : righN l p = 0 ∨ righN l p = 1 ∨ righN l p = 2 := by
 unfold righN
 split
 ·split
  ·exact .inr (.inl rfl)
  ·exact .inr (.inr rfl)
 ·exact .inl rfl
end Go.Proofs.YtehhlgdkhecacaaGreat

namespace Go.Proofs.YtehhlgdkhecacaaGreat
theorem manyF (l : List Qf) : manyL l = (l.map fun q => q.per.length).foldr (· * ·) 1 := by
 have g : ∀ (l : List Nat) (m : Nat), l.foldl (· * ·) m = m * l.foldr (· * ·) 1 := fun l => by
  induction l with
  | nil => intro m; simp
  | cons x l ih => intro m; rw [List.foldl_cons, List.foldr_cons, ih, Nat.mul_assoc]
 unfold manyL
 rw [g, Nat.one_mul]
theorem isQf_per1 {q : Qf} (h : isQf q = true) : 1 ≤ q.per.length := by
 unfold isQf at h
 simp only [Bool.and_eq_true] at h
 have := h.1.1.1.1.1.1.1.2
 unfold rng at this
 simp at this
 omega
/-- One proof is of one of its persons. -/
def lesQ (q : Qf) (j : Nat) : Qf := { q with per := [q.per.getD j 0] }
def lesL (l : List Qf) (k j : Nat) : List Qf := l.set k (lesQ (l.getD k q0) j)
theorem les_at (l : List Qf) (k j i : Nat) : (lesL l k j).getD i q0 = if i = k ∧ i < l.length then lesQ (l.getD k q0) j else l.getD i q0 := by
 unfold lesL
 rw [List.getD_eq_getElem?_getD, List.getElem?_set]
 by_cases h : k = i
 ·subst h
  by_cases h2 : k < l.length
  ·simp [h2]
  ·simp [h2, List.getD_eq_getElem?_getD]
 ·simp [h, Ne.symm h, List.getD_eq_getElem?_getD]
theorem les_fields (l : List Qf) (k j i : Nat) : ((lesL l k j).getD i q0).kind = (l.getD i q0).kind ∧ ((lesL l k j).getD i q0).oth = (l.getD i q0).oth ∧ ((lesL l k j).getD i q0).day = (l.getD i q0).day ∧ ((lesL l k j).getD i q0).thr = (l.getD i q0).thr ∧ ((lesL l k j).getD i q0).par = (l.getD i q0).par ∧ ((lesL l k j).getD i q0).src = (l.getD i q0).src := by
 rw [les_at]
 split
 ·next h => rw [h.1]; exact ⟨rfl, rfl, rfl, rfl, rfl, rfl⟩
 ·exact ⟨rfl, rfl, rfl, rfl, rfl, rfl⟩
theorem odds_congr {a a' b b' : Qf} (ha : a.kind = a'.kind ∧ a.day = a'.day ∧ a.thr = a'.thr ∧ a.par = a'.par) (hb : b.kind = b'.kind ∧ b.day = b'.day ∧ b.thr = b'.thr ∧ b.par = b'.par) : oddsB a b = oddsB a' b' := by
 obtain ⟨a1, a2, a3, a4⟩ := ha
 obtain ⟨b1, b2, b3, b4⟩ := hb
 unfold oddsB ruleB birthB servicB examB servB
 rw [a1, a2, a3, a4, b1, b2, b3, b4]
theorem les_fit (l : List Qf) (k j : Nat) (b : List Int) (n : Int) : fitB (lesL l k j) b n = fitB l b n := by
 unfold fitB
 obtain ⟨h1, h2, h3, h4, h5, -⟩ := les_fields l k j b.length
 rw [h1, h2]
 congr 1
 have e : ∀ i, oddsB ((lesL l k j).getD i q0) ((lesL l k j).getD b.length q0) = oddsB (l.getD i q0) (l.getD b.length q0) := fun i => by
  obtain ⟨g1, g2, g3, g4, g5, -⟩ := les_fields l k j i
  exact odds_congr ⟨g1, g3, g4, g5⟩ ⟨h1, h3, h4, h5⟩
 simp only [e]
theorem flatMap_sub {α β : Type} {f g : α → List β} : ∀ {a b : List α}, a.Sublist b → (∀ x, (f x).Sublist (g x)) → (a.flatMap f).Sublist (b.flatMap g)
 | _, _, .slnil, _ => List.Sublist.refl _
 | _, _, .cons x h, hf => by rw [List.flatMap_cons]; exact (flatMap_sub h hf).trans (List.sublist_append_right _ _)
 | _, _, .cons_cons x h, hf => by rw [List.flatMap_cons, List.flatMap_cons]; exact (hf x).append (flatMap_sub h hf)
theorem getD_memI {l : List Int} {j : Nat} (h : j < l.length) : l.getD j 0 ∈ l := by
 rw [List.getD_eq_getElem?_getD, List.getElem?_eq_getElem h]
 exact List.getElem_mem h
theorem les_per {l : List Qf} {k j : Nat} (hj : j < (l.getD k q0).per.length) (i : Nat) : (((lesL l k j).getD i q0).per).Sublist (l.getD i q0).per := by
 rw [les_at]
 split
 ·next h =>
  rw [h.1]
  show [(l.getD k q0).per.getD j 0].Sublist _
  rw [List.singleton_sublist]
  exact getD_memI hj
 ·exact List.Sublist.refl _
theorem les_more {l : List Qf} {k j : Nat} (hj : j < (l.getD k q0).per.length) : ∀ (m : Nat) (b : List Int), (moreK (lesL l k j) m b).Sublist (moreK l m b)
 | 0, b => List.Sublist.refl _
 | m + 1, b => by
  unfold moreK
  refine flatMap_sub ?_ fun n => les_more hj m _
  rw [show (fun n => fitB (lesL l k j) b n) = fun n => fitB l b n from funext fun n => les_fit l k j b n]
  exact (les_per hj _).filter _
theorem les_len (l : List Qf) (k j : Nat) : (lesL l k j).length = l.length := by unfold lesL; rw [List.length_set]
theorem les_reads {l : List Qf} {k j : Nat} (hj : j < (l.getD k q0).per.length) : (reads (lesL l k j)).Sublist (reads l) := by
 unfold reads
 rw [les_len]
 exact les_more hj _ _
theorem les_titS (l : List Qf) (k j : Nat) (s : Int → Int → Int) (r : List Int) (i : Nat) : titS s (lesL l k j) r i = titS s l r i := by
 have hc : ∀ p d, certB (lesL l k j) r p d = certB l r p d := fun p d => by
  unfold certB
  rw [les_len]
  congr 1
  funext i
  obtain ⟨h1, -, h3, -⟩ := les_fields l k j i
  rw [h1, h3]
 obtain ⟨h1, h2, h3, h4, h5, h6⟩ := les_fields l k j i
 unfold titS
 rw [h1, h2, h3, h4, h5, h6, hc]
theorem les_setK (l : List Qf) (k j : Nat) (r : List Int) : ∀ (m : Nat) (person day : Int), setK (lesL l k j) r m person day = setK l r m person day
 | 0, _, _ => rfl
 | m + 1, person, day => by
  have e : setK (lesL l k j) r m = setK l r m := funext fun p => funext fun d => les_setK l k j r m p d
  unfold setK
  rw [e]
  congr 2
  unfold titL
  rw [les_len]
  have e2 : (fun i => (titS (setK l r m) (lesL l k j) r i).1) = fun i => (titS (setK l r m) l r i).1 := funext fun i => by rw [les_titS]
  have e3 : (fun i => hasT (setK l r m) (lesL l k j) r person day i) = fun i => hasT (setK l r m) l r person day i := funext fun i => by
   unfold hasT
   rw [les_titS, (les_fields l k j i).2.2.1]
  rw [e2, e3]
theorem les_setS (l : List Qf) (k j : Nat) (r : List Int) (person day : Int) : setS (lesL l k j) r person day = setS l r person day := les_setK l k j r _ _ _
theorem les_isRd {l : List Qf} {k j : Nat} (hj : j < (l.getD k q0).per.length) {r : List Int} (h : isRd (lesL l k j) r = true) : isRd l r = true := mem_reads.1 ((les_reads hj).subset (mem_reads.2 h))
theorem les_wher {l : List Qf} {k j : Nat} (hj : j < (l.getD k q0).per.length) {person day x : Int} (h : x ∈ wherS (lesL l k j) person day) : x ∈ wherS l person day := by
 obtain ⟨r, hr, e⟩ := wherS_mem.1 h
 exact wherS_mem.2 ⟨r, les_isRd hj hr, by rw [← les_setS l k j]; exact e⟩
theorem les_right {l : List Qf} {k j : Nat} (hj : j < (l.getD k q0).per.length) {person day parish : Int} (hr : isRead (lesL l k j) = true) (h : righN (wherS l person day) parish ≠ 2) : righN (wherS (lesL l k j) person day) parish = righN (wherS l person day) parish := by
 obtain ⟨r, hr⟩ := isRead_iff.1 hr
 rcases righN_cases (wherS l person day) parish with e | e | e
 ·rw [e]
  exact righN_no.2 fun hm => righN_no.1 e (les_wher hj hm)
 ·rw [e]
  rw [righN_yes] at e ⊢
  refine rise_ext (wherS_up _ _ _) (List.pairwise_singleton _ _) fun x => ⟨fun hx => ?_, fun hx => ?_⟩
  ·have := les_wher hj hx
   rw [e] at this
   exact this
  ·rw [List.mem_singleton] at hx
   have h2 : setS (lesL l k j) r person day ∈ wherS (lesL l k j) person day := wherS_mem.2 ⟨r, hr, rfl⟩
   have h3 := les_wher hj h2
   rw [e, List.mem_singleton] at h3
   rw [hx, ← h3]
   exact h2
 ·exact absurd e h
theorem les_many (l : List Qf) {k j : Nat} (hq : ∀ q ∈ l, 1 ≤ q.per.length) : manyL (lesL l k j) ≤ manyL l := by
 have g : ∀ (l : List Qf) (k : Nat) (q' : Qf), (∀ q ∈ l, 1 ≤ q.per.length) → q'.per.length = 1 → manyL (l.set k q') ≤ manyL l := fun l => by
  induction l with
  | nil => intro k q' _ _; exact Nat.le_refl _
  | cons x l ih =>
   intro k q' h h1
   cases k with
   | zero =>
    rw [List.set_cons_zero, manyF, manyF, List.map_cons, List.map_cons, List.foldr_cons, List.foldr_cons, h1]
    exact Nat.mul_le_mul_right _ (h x (by simp))
   | succ k =>
    have := ih k q' (fun q hq => h q (List.mem_cons_of_mem _ hq)) h1
    rw [manyF, manyF] at this
    rw [List.set_cons_succ, manyF, manyF, List.map_cons, List.map_cons, List.foldr_cons, List.foldr_cons]
    exact Nat.mul_le_mul_left _ this
 exact g l k _ hq rfl
theorem les_isQf {q : Qf} {j : Nat} (h : isQf q = true) (hj : j < q.per.length) : isQf (lesQ q j) = true := by
 have hm : q.per.getD j 0 ∈ q.per := by
  rw [List.getD_eq_getElem?_getD, List.getElem?_eq_getElem hj]
  exact List.getElem_mem hj
 unfold isQf at h ⊢
 simp only [Bool.and_eq_true] at h ⊢
 obtain ⟨⟨⟨⟨⟨⟨⟨⟨⟨h1, h2⟩, h3⟩, h4⟩, h5⟩, h6⟩, h7⟩, h8⟩, h9⟩, h10⟩ := h
 refine ⟨⟨⟨⟨⟨⟨⟨⟨⟨h1, h2⟩, by unfold lesQ rng; simp⟩, ?_⟩, ?_⟩, h6⟩, h7⟩, h8⟩, h9⟩, h10⟩
 ·exact upB_iff.2 (List.pairwise_singleton _ _)
 ·refine List.all_eq_true.2 fun n hn => ?_
  have hn : n ∈ [q.per.getD j 0] := hn
  rw [List.mem_singleton] at hn
  rw [hn]
  exact List.all_eq_true.1 h5 _ hm
theorem les_ok {l : List Qf} {k j : Nat} (h : okL l = true) (hj : j < (l.getD k q0).per.length) (hk : k < l.length) : okL (lesL l k j) = true := by
 unfold okL at h ⊢
 simp only [Bool.and_eq_true, decide_eq_true_eq] at h ⊢
 obtain ⟨⟨⟨h1, h2⟩, h3⟩, h4⟩ := h
 have ha : ∀ q ∈ l, isQf q = true := List.all_eq_true.1 h1
 have hkm : l.getD k q0 ∈ l := by
  rw [List.getD_eq_getElem?_getD, List.getElem?_eq_getElem hk]
  exact List.getElem_mem hk
 refine ⟨⟨⟨List.all_eq_true.2 fun q hq => ?_, by rw [les_len]; exact h2⟩, Nat.le_trans (les_many l fun q hq => isQf_per1 (ha q hq)) h3⟩, ?_⟩
 ·rcases List.mem_or_eq_of_mem_set hq with h | rfl
  ·exact ha q h
  ·exact les_isQf (ha _ hkm) hj
 ·have e : (lesL l k j).map Qf.src = l.map Qf.src := by
   refine List.ext_getElem (by rw [List.length_map, List.length_map, les_len]) fun i g1 g2 => ?_
   have := (les_fields l k j i).2.2.2.2.2
   rw [List.length_map] at g1 g2
   rw [List.getElem_map, List.getElem_map]
   rw [List.getD_eq_getElem?_getD, List.getElem?_eq_getElem g1, List.getD_eq_getElem?_getD, List.getElem?_eq_getElem g2] at this
   exact this
  rw [e]
  exact h4
end Go.Proofs.YtehhlgdkhecacaaGreat

namespace Go.Proofs.YtehhlgdkhecacaaGreat
def lssL (l : List Qf) (s : Int) : List Qf := l.filter fun q => decide (q.src ≠ s)
theorem lss_split {a b : List Qf} {q : Qf} (h : (srcL (a ++ q :: b)).Pairwise (· < ·)) : lssL (a ++ q :: b) q.src = a ++ b := by
 unfold srcL at h
 rw [List.map_append, List.map_cons, List.pairwise_append, List.pairwise_cons] at h
 obtain ⟨h1, ⟨h2, h3⟩, h4⟩ := h
 unfold lssL
 rw [List.filter_append, List.filter_cons_of_neg (by simp)]
 rw [List.filter_eq_self.2, List.filter_eq_self.2]
 ·intro x hx
  have := h2 x.src (List.mem_map.2 ⟨x, hx, rfl⟩)
  simp; omega
 ·intro x hx
  have := h4 x.src (List.mem_map.2 ⟨x, hx, rfl⟩) q.src (by simp)
  simp; omega
theorem split_at {l : List Qf} {i : Nat} (h : i < l.length) : l = l.take i ++ l.getD i q0 :: l.drop (i + 1) := by
 have : l.getD i q0 = l[i] := by rw [List.getD_eq_getElem?_getD, List.getElem?_eq_getElem h]; rfl
 rw [this, ← List.drop_eq_getElem_cons h, List.take_append_drop]
theorem lss_at {l : List Qf} {i : Nat} (h : i < l.length) (hs : (srcL l).Pairwise (· < ·)) : lssL l (l.getD i q0).src = l.eraseIdx i := by
 have e := split_at h
 have hs2 := hs
 rw [e] at hs2
 have := lss_split hs2
 rw [← e] at this
 rw [this, List.eraseIdx_eq_take_drop_succ]
def Shut (l : List Qf) (N : List Int) : Prop := ∀ q ∈ l, q.kind = 2 → q.oth ∈ N → ∀ n ∈ q.per, n ∈ N
end Go.Proofs.YtehhlgdkhecacaaGreat

namespace Go.Proofs.YtehhlgdkhecacaaGreat
open Go.RowKit Go.Shelf
theorem ok_rise {l : List Pf} (h : okL (l.map Pf.q) = true) : ∀ i j, i < j → j < l.length → (l.getD i p0).q.src < (l.getD j p0).q.src := by
 intro i j hij hj
 have hs := okL_src h
 unfold srcL at hs
 rw [List.pairwise_iff_getElem] at hs
 have := hs i j (by simp; omega) (by simp; omega) hij
 have g : ∀ k (hk : k < l.length), (l.getD k p0).q.src = l[k].q.src := fun k hk => by rw [List.getD_eq_getElem?_getD, List.getElem?_eq_getElem hk]; rfl
 rw [g i (by omega), g j hj]
 simpa using this
theorem insP_at {l : List Pf} {s : Int} (h : okL (l.map Pf.q) = true) {j : Nat} (hj : j < l.length) (hs : (l.getD j p0).q.src = s) : insP l s = j :=
 insP_eq (by omega) (fun i hi => by have := ok_rise h i j hi hj; omega) (fun i hi hl => by
  rcases Nat.eq_or_lt_of_le hi with e | e
  ·subst e; omega
  ·have := ok_rise h j i e hl; omega)
theorem fndP_iff {l : List Pf} {s : Int} (h : okL (l.map Pf.q) = true) : fndP l s = decide (s ∈ srcL (l.map Pf.q)) := by
 rw [Bool.eq_iff_iff, decide_eq_true_eq]
 unfold fndP srcL
 simp only [Bool.and_eq_true, decide_eq_true_eq, List.map_map, List.mem_map, Function.comp]
 constructor
 ·rintro ⟨h1, h2⟩
  exact ⟨_, mem_pf h1, h2⟩
 ·rintro ⟨p, hp, rfl⟩
  obtain ⟨j, hj, e⟩ := List.getElem_of_mem hp
  have e2 : l.getD j p0 = p := by rw [List.getD_eq_getElem?_getD, List.getElem?_eq_getElem hj, e]; rfl
  have := insP_at h hj (by rw [e2])
  rw [this, e2]
  exact ⟨hj, rfl⟩
theorem lssP_erase {l : List Pf} {s : Int} (h : okL (l.map Pf.q) = true) (hf : fndP l s = true) : insP l s < l.length ∧ (l.map Pf.q).eraseIdx (insP l s) = lssL (l.map Pf.q) s := by
 unfold fndP at hf
 simp only [Bool.and_eq_true, decide_eq_true_eq] at hf
 refine ⟨hf.1, ?_⟩
 rw [← lss_at (by simpa using hf.1) (okL_src h), map_pf hf.1, hf.2]
theorem OwnP.del {w w' : World} {base g n c : Nat} {l : List Pf} {i : Nat} (h : OwnP w base g n c l) (ho : OwnL pcells 9 56 w' base (.slice (some ⟨g, 0, none⟩) (n - 1) c) (l.eraseIdx i)) (f : Fix g g w w') : OwnP w' base g (n - 1) c (l.eraseIdx i) :=
 ⟨ho, fun p hp => by
  obtain ⟨h1, h2⟩ := h.per p ((List.eraseIdx_sublist l i).subset hp)
  exact ⟨⟨ints_fix h1.i h2 f, h1.m⟩, h2⟩⟩
/-- What without returns. -/
def WoEnd (l : List Qf) (s : Int) (w : World) (e : Ending) (w' : World) : Prop :=
 (∃ A n c, e = .returned (.tuple #[.slice A n c, .bool (decide (s ∈ srcL l))]) ∧ (s ∈ srcL l → ∃ l', Prf w' A n l' ∧ l'.map Pf.q = lssL l s ∧ n ≤ 60) ∧ (s ∉ srcL l → A = none ∧ n = 0 ∧ c = 0)) ∧ Below w.heap.size w w'
set_option maxRecDepth 100000 in
set_option maxHeartbeats 4000000 in
theorem without_any (A : Option Addr) (n c : Nat) (l : List Pf) (s : Int) (w : World) (ha : Prf w A n l) (hok : okL (l.map Pf.q) = true) :
  Calls Tryz.prog 74 #[.slice A n c, .int .i64 s] w (WoEnd (l.map Pf.q) s w) := by
 have hlen := ha.len
 have hn : n ≤ 60 := by have := okL_len hok; rw [List.length_map] at this; omega
 have TF := Lib.hid (find_any A n c l s w ha (by omega) (ok_rise hok))
 have hfd := fndP_iff (s := s) hok
 have HER := Lib.hid (fun h => lssP_erase (s := s) hok h)
 have HQ4 := Lib.hid (fun p (hp : p ∈ l) => isQf_per4 (okL_all hok _ (List.mem_map.2 ⟨p, hp, rfl⟩)))
 have TC := Lib.hid (fun W (g : Below w.heap.size w W) => copied_any A n c l W (ha.below g) (by omega) fun p hp => by have h1 := HQ4.out p hp; have h2 := (ha.p p hp).len; omega)
 have HMQ := Lib.hid (fun i (l' : List Pf) (h : l'.map Pf.q = l.map Pf.q) => (show (l'.eraseIdx i).map Pf.q = (l.map Pf.q).eraseIdx i by rw [← h, List.eraseIdx_eq_take_drop_succ, List.eraseIdx_eq_take_drop_succ, List.map_append, List.map_take, List.map_drop]))
 obtain ⟨lq, hlq⟩ : ∃ s, l.map Pf.q = s := ⟨_, rfl⟩
 have HLQ := Lib.hid hlq
 rw [hlq] at hfd HMQ HER ⊢
 have HLN := Lib.hid hlen
 obtain ⟨ip, hip⟩ : ∃ i, insP l s = i := ⟨_, rfl⟩
 have HIP := Lib.hid (show fndP l s = true → ip < n ∧ lq.eraseIdx ip = lssL lq s from fun h => by rw [← hip, ← hlen]; exact HER.out h)
 rw [hip] at TF
 by_cases hm : s ∈ srcL lq
 ·rw [decide_eq_true hm] at hfd
  rw [hfd] at TF
  obtain ⟨hin, her⟩ := HIP.out hfd
  have HM := Lib.hid hm
  have HE := Lib.hid her
  have hwr2 : wrap64 ((ip : Int) + 1) = (ip : Int) + 1 := wrap_in (by omega)
  clear ha hok hfd hlq hip hm her hlen HER HIP
  go_enter Tryz.func74, Tryz.ntmps74
  go_wp2_with (first
   | (go_at_call 114; (with_reducible refine (TF.out).mono ?_); rintro e W1 ⟨rfl, hg1⟩; have HG1 := Lib.hid hg1; clear hg1)
   | (go_at_call 116; (with_reducible refine (TC.out _ HG1.out).mono ?_); rintro e W2 ⟨⟨g2, rfl, ⟨l2, ho2, hq2⟩⟩, hg2⟩; rw [HLQ.out] at hq2; have HG2 := Lib.hid (HG1.out.trans (hg2.mono HG1.out.size)); have HO2 := Lib.hid ho2; have HQ2 := Lib.hid hq2; have HB2 := Lib.hid (show W1.heap.size ≤ g2 from (own_inv ho2.own).2.1); have TD := Lib.hid (delP_any W1.heap.size g2 n n ip l2 W2 ho2.own hin (by omega)); clear ho2 hq2 hg2)
   | (go_at_call 68; (with_reducible refine (TD.out).mono ?_); rintro e W3 ⟨rfl, ho3, hf3⟩; have HO3 := Lib.hid (HO2.out.del ho3 hf3); have HG3 := Lib.hid (HG2.out.trans (hf3.low (Nat.le_trans HG1.out.size HB2.out) HG2.out.size)); clear ho3 hf3))
  go_ret2
  exact ⟨⟨_, _, _, by rw [decide_eq_true HM.out]; rfl, fun _ => ⟨_, HO3.out.prf, by rw [HMQ.out _ _ HQ2.out]; exact HE.out, by omega⟩, fun h => absurd HM.out h⟩, HG3.out⟩
 ·rw [decide_eq_false hm] at hfd
  rw [hfd] at TF
  have HM := Lib.hid hm
  clear ha hok hfd hlq hip hm hlen HER HIP
  go_enter Tryz.func74, Tryz.ntmps74
  go_wp2_with (first
   | (go_at_call 114; (with_reducible refine (TF.out).mono ?_); rintro e W1 ⟨rfl, hg1⟩; have HG1 := Lib.hid hg1; clear hg1))
  go_ret2
  exact ⟨⟨_, _, _, by rw [decide_eq_false HM.out]; rfl, fun h => absurd h HM.out, fun _ => ⟨rfl, rfl, rfl⟩⟩, HG1.out⟩
theorem Prf.none (w : World) : Prf w none 0 [] := ⟨Arr.nil_, fun p hp => by cases hp⟩
end Go.Proofs.YtehhlgdkhecacaaGreat

namespace Go.Proofs.YtehhlgdkhecacaaGreat
open Go.RowKit Go.Shelf
/-- Where a person is settled, as Where says it. -/
def whE (l : List Qf) (day known n : Int) : Int := readE l n 0 [day, known] known
def whA (l : List Qf) (day known n : Int) : List Int := if whE l day known n = 0 then wherS (cntL l known) n day else []
def movB (l less : List Qf) (day known n : Int) : Bool := decide (whE l day known n ≠ whE less day known n) || decide (whA l day known n ≠ whA less day known n)
def movS (l : List Qf) (s day known : Int) : List Int := (persS (cntL l known)).filter (movB l (lssL l s) day known)
def movE (l : List Qf) (s day known : Int) : Int := if lookE l [day, known] = 0 then (if s ∈ srcL l then 0 else 3) else lookE l [day, known]
theorem movE_no {l : List Qf} {s day known x : Int} (h : lookE l [day, known] = x) (hx : x ≠ 0) : movE l s day known = x := by unfold movE; rw [h, if_neg hx]
theorem filt_succ (l : List Int) (f : Int → Bool) {k : Nat} (hk : k < l.length) : (l.take (k + 1)).filter f = (l.take k).filter f ++ (if f (l.getD k 0) = true then [l.getD k 0] else []) := by
 rw [take_snoc (d := 0) hk, List.filter_append]
 congr 1
 by_cases h : f (l.getD k 0) = true
 ·rw [if_pos h, List.filter_cons_of_pos h]; rfl
 ·rw [if_neg h, List.filter_cons_of_neg h]; rfl
theorem putF_len : ∀ (l out : List Int), (l.foldl putI out).length ≤ out.length + l.length
 | [], out => Nat.le_refl _
 | x :: l, out => by
  rw [List.foldl_cons, List.length_cons]
  have h1 := putF_len l (putI out x)
  have h2 := putI_len out x
  omega
theorem persS_len {c : List Qf} (h : ∀ q ∈ c, q.per.length ≤ 4) : (persS c).length ≤ 5 * c.length := by
 have h1 := putF_len (namL c) []
 have h2 := namL_len c h
 rw [List.length_nil, Nat.zero_add] at h1
 exact Nat.le_trans h1 h2
theorem whereN_any (A : Option Addr) (n c : Nat) (l : List Pf) (person day known : Int) (w : World) (ha : Prf w A n l) (hn : n ≤ 9223372036854775807) :
  Calls Tryz.prog 26 #[.slice A n c, .int .i64 person, .int .i64 day, .int .i64 known] w fun e w' => ∃ A' n' c', e = .returned (.tuple #[.slice A' n' c', .int .i64 (whE (l.map Pf.q) day known person)]) ∧ Ints w' A' n' (whA (l.map Pf.q) day known person) ∧ n' ≤ 9223372036854775807 ∧ Below w.heap.size w w' := by
 refine (whereF_any A n c l person day known w ha hn).mono ?_
 rintro e w' ⟨A', n', k, rfl, hi, h1, h2, hg⟩
 unfold maxLen at h2
 exact ⟨A', n', k, rfl, hi, by omega, hg⟩
set_option maxRecDepth 100000 in
set_option maxHeartbeats 8000000 in
theorem moved_any (A : Option Addr) (n c : Nat) (l : List Pf) (s day known : Int) (w : World) (ha : Prf w A n l) (hn : n ≤ 9223372036854775807) :
  Calls Tryz.prog 17 #[.slice A n c, .int .i64 s, .int .i64 day, .int .i64 known] w (ListEnd (movS (l.map Pf.q) s day known) (movE (l.map Pf.q) s day known) w) := by
 obtain ⟨W1, hW1⟩ : ∃ X, w.alloc (.cells #[.int .i64 day, .int .i64 known] 3) = X := ⟨_, rfl⟩
 have g1 : Below w.heap.size w W1 := by rw [← hW1]; exact one_more _ _
 have b1 : Blk W1 w.heap.size 3 #[.int .i64 day, .int .i64 known] := by rw [← hW1]; exact Blk.new _ _ _
 have T := look_any A n c l (some ⟨w.heap.size, 0, none⟩) 2 2 [day, known] W1 (ha.below g1) hn (two_ints b1) (by decide) (by decide)
 unfold LookEnd at T
 rw [show ([day, known] : List Int).getD (([day, known] : List Int).length - 1) 0 = known from rfl] at T
 have HLE := Lib.hid (show ∀ x, lookE (l.map Pf.q) [day, known] = x → x ≠ 0 → movE (l.map Pf.q) s day known = x from fun x h hx => movE_no h hx)
 have HME := Lib.hid (show lookE (l.map Pf.q) [day, known] = 0 → movE (l.map Pf.q) s day known = if s ∈ srcL (l.map Pf.q) then 0 else 3 from fun h => by unfold movE; rw [if_pos h])
 have HOK := Lib.hid (show lookE (l.map Pf.q) [day, known] = 0 → okL (l.map Pf.q) = true from fun h => by
  unfold lookE at h
  by_cases ho : okL (l.map Pf.q) = true
  ·exact ho
  ·rw [if_neg ho] at h; cases h)
 obtain ⟨le, hle⟩ : ∃ x, lookE (l.map Pf.q) [day, known] = x := ⟨_, rfl⟩
 rw [hle] at T HLE HME HOK
 have G1 := Lib.hid g1
 have HW1 := Lib.hid hW1
 have HT := Lib.hid T
 have HA := Lib.hid ha
 clear g1 b1 hW1 T hle ha
 by_cases hz : le = 0
 ·subst hz
  have hok := HOK.out rfl
  have hl60 : l.length ≤ 60 := by have := okL_len hok; rwa [List.length_map] at this
  have HN60 := Lib.hid (show n ≤ 60 by rw [← HA.out.len]; exact hl60)
  have HFM := Lib.hid (show (l.filter fun p => cnt p.q known).map Pf.q = cntL (l.map Pf.q) known from filt_map l (fun q => cnt q known))
  have HCN := Lib.hid (fun (W : World) (A : Option Addr) (m : Nat) (hp : Prf W A m (l.filter fun p => cnt p.q known)) (hm : m ≤ 60) => cn_of hok hp hm)
  have HFL := Lib.hid (show (l.filter fun p => cnt p.q known).length ≤ 60 from Nat.le_trans (List.length_filter_le _ _) hl60)
  have HPI := Lib.hid (fun p (hp : p ∈ l.filter fun p => cnt p.q known) => (show p ∈ l from (List.mem_filter.1 hp).1))
  have HPE := Lib.hid (show (persS (cntL (l.map Pf.q) known)).length ≤ 300 from by
   have h1 := persS_len (c := cntL (l.map Pf.q) known) fun q hq => (isQf_per4 (okL_all hok q (List.mem_filter.1 hq).1)).2
   have h2 := HFL.out
   rw [← HFM.out, List.length_map] at h1
   rw [← HFM.out]
   omega)
  obtain ⟨fl, hfl⟩ : ∃ s, (l.filter fun p => cnt p.q known) = s := ⟨_, rfl⟩
  rw [hfl] at HFM HCN HFL HT HPI
  have TW := Lib.hid (fun W (g : Below w.heap.size w W) => without_any A n c l s W (HA.out.below g) hok)
  have HME2 := Lib.hid (HME.out rfl)
  have TA := Lib.hid (fun W (g : Below w.heap.size w W) x => whereN_any A n c l x day known W (HA.out.below g) hn)
  have HMS := Lib.hid (show movS (l.map Pf.q) s day known = (persS (cntL (l.map Pf.q) known)).filter (movB (l.map Pf.q) (lssL (l.map Pf.q) s) day known) from rfl)
  obtain ⟨lq, hlq⟩ : ∃ s, l.map Pf.q = s := ⟨_, rfl⟩
  rw [hlq] at TW HME2 HMS TA HFM HPE ⊢
  clear hok hl60 hfl hlq HLE HME HOK
  obtain ⟨ps, hps⟩ : ∃ x, persS (cntL lq known) = x := ⟨_, rfl⟩
  rw [hps] at HMS HPE
  obtain ⟨ms, hms⟩ : ∃ x, movS lq s day known = x := ⟨_, rfl⟩
  rw [hms] at HMS ⊢
  have HPS := Lib.hid hps
  clear hms hps
  by_cases hm : s ∈ srcL lq
  ·have HM := Lib.hid hm
   have HME3 := Lib.hid (show movE lq s day known = 0 by rw [HME2.out, if_pos hm])
   clear HME2 hm
   go_enter Tryz.func17, Tryz.ntmps17
   go_upto_region 2 with (go_at_call 73; rw [HW1.out]; (with_reducible refine (HT.out).mono ?_); rintro e V ⟨⟨v, rfl, ho, -⟩, hg⟩; have GV := Lib.hid (G1.out.trans (hg.mono G1.out.size)); obtain ⟨A2, c2, rfl, hp1, hp2, hp3⟩ := own_prf (ho rfl) (fun p hp => (HA.out.p p (HPI.out p hp)).below GV.out); have HP := Lib.hid (And.intro hp1 (And.intro hp2 hp3)); clear ho hp1 hp2 hp3 hg)
   go_upto_region 5 with (go_at_call 74; (with_reducible refine (TW.out _ GV.out).mono ?_); rintro e V2 ⟨⟨A3, n3, c3, rfl, hp3, -⟩, hg3⟩; rw [decide_eq_true HM.out]; have HP3 := Lib.hid (hp3 HM.out); have GV2 := Lib.hid (GV.out.trans (hg3.mono GV.out.size)); have GVV := Lib.hid hg3; clear hp3 hg3)
   obtain ⟨l3, hl3, hq3, hn3⟩ := HP3.out
   have TB := Lib.hid (fun W (g : Below V2.heap.size V2 W) x => whereN_any A3 n3 c3 l3 x day known W (hl3.below g) (by omega))
   rw [hq3] at TB
   have TP := persons_any A2 fl.length c2 fl V2 (HCN.out V2 A2 _ (HP.out.2.2.below GVV.out) HFL.out)
   rw [HFM.out, HPS.out] at TP
   have HTP := Lib.hid TP
   clear TP hl3 hq3 hn3 HP3
   go_upto_region 9 with (go_at_call 75; (with_reducible refine (HTP.out).mono ?_); rintro e V3 ⟨⟨v, rfl, ho⟩, hg⟩; obtain ⟨A4, c4, rfl, h41, h42, har4, -⟩ := OwnL.arr kdI ho; have HI4 := Lib.hid har4; have GV3 := Lib.hid (GV2.out.trans (hg.mono GV2.out.size)); have GVW := Lib.hid hg; clear ho hg har4 h41 h42)
   have HO0 := Lib.hid (fun (W : World) => OwnL.nil (f := icells) (size := 1) (e := 3) W V3.heap.size)
   obtain ⟨less, hless⟩ : ∃ x, lssL lq s = x := ⟨_, rfl⟩
   rw [hless] at TB HMS
   clear hless
   obtain ⟨m, hm⟩ : ∃ m, ps.length = m := ⟨_, rfl⟩
   have HPL := Lib.hid hm
   rw [hm] at HI4 HPE ⊢
   have hm300 := HPE.out
   have HNL := Lib.hid (fun k => (show ((ps.take k).filter (movB lq less day known)).length ≤ 300 from by
    have h1 := List.length_filter_le (movB lq less day known) (ps.take k)
    rw [List.length_take] at h1
    omega))
   have HFS := Lib.hid (fun k (hk : k < m) => filt_succ ps (movB lq less day known) (k := k) (by rw [HPL.out]; exact hk))
   have HFE := Lib.hid (show (ps.take m).filter (movB lq less day known) = ms by rw [List.take_of_length_le (by rw [HPL.out]; exact Nat.le_refl _), HMS.out])
   have HF0 := Lib.hid (show (ps.take 0).filter (movB lq less day known) = [] from rfl)
   obtain ⟨nm, hnm⟩ : ∃ f : Nat → List Int, (fun k => (ps.take k).filter (movB lq less day known)) = f := ⟨_, rfl⟩
   have hnk : ∀ k, (ps.take k).filter (movB lq less day known) = nm k := fun k => by rw [← hnm]
   rw [hnk] at HFE HF0
   simp only [hnk] at HNL HFS
   clear hm hnm hnk
   go_loopw [14, 43] (fun v i wr => ∃ k : Nat, k ≤ m ∧ OwnL icells 1 3 wr V3.heap.size v (nm k) ∧ i = .int .i64 k ∧ Below V3.heap.size V3 wr) (fun _ i _ => m - (intOf i).toNat)
   case atStart => exact ⟨0, Nat.zero_le _, by rw [HF0.out]; exact HO0.out _, rfl, Below.refl _ _⟩
   case round =>
    obtain ⟨k, hk, ho, rfl, hg⟩ := hrel
    have HG := Lib.hid hg
    have HOX := Lib.hid ho
    clear ho
    by_cases hkn : k < m
    ·obtain ⟨b, o, rfl, -, -, hc⟩ := ints_at (HI4.out.below hg) hkn
     have hx0 := hc wr (Below.refl _ _)
     obtain ⟨x, hx⟩ : ∃ x, ps.getD k 0 = x := ⟨_, rfl⟩
     rw [hx] at hx0
     have hwr2 : wrap64 ((k : Int) + 1) = (k : Int) + 1 := wrap_in (by omega)
     have HSU := HFS.out k hkn
     rw [hx] at HSU
     have GA := Lib.hid (GV3.out.trans (hg.mono GV3.out.size))
     have GB := Lib.hid (GVW.out.trans (hg.mono GVW.out.size))
     have TAx := TA.out wr GA.out x
     have TBx := fun W g => TB.out W g x
     have HMB := Lib.hid (show movB lq less day known x = (decide (whE lq day known x ≠ whE less day known x) || decide (whA lq day known x ≠ whA less day known x)) from rfl)
     obtain ⟨ex, hex⟩ : ∃ y, whE lq day known x = y := ⟨_, rfl⟩
     obtain ⟨fx, hfx⟩ : ∃ y, whE less day known x = y := ⟨_, rfl⟩
     obtain ⟨wa, has⟩ : ∃ y, whA lq day known x = y := ⟨_, rfl⟩
     obtain ⟨wb, hbs⟩ : ∃ y, whA less day known x = y := ⟨_, rfl⟩
     rw [hex, has] at TAx
     rw [hex, hfx, has, hbs] at HMB
     simp only [hfx, hbs] at TBx
     rw [HMB.out] at HSU
     have HTA := Lib.hid TAx
     have HTB := Lib.hid TBx
     have HS := Lib.hid HSU
     have HNK := Lib.hid (HNL.out k)
     obtain ⟨nk, hnk⟩ : ∃ y, nm k = y := ⟨_, rfl⟩
     rw [hnk] at HS HNK HOX
     clear hex hfx has hbs TAx TBx HSU HMB hx hc hg hnk
     go_upto_region 13 with (first
      | (go_at_call 26; (with_reducible refine (HTA.out).mono ?_); rintro e W5 ⟨A5, n5, c5, rfl, hi5, h51, hg5⟩; have HI5 := Lib.hid hi5; have H51 := Lib.hid h51; have HG5 := Lib.hid hg5; clear hi5 h51 hg5)
      | (go_at_call 26; (with_reducible refine (HTB.out _ (GB.out.trans (HG5.out.mono GB.out.size))).mono ?_); rintro e W6 ⟨A6, n6, c6, rfl, hi6, h61, hg6⟩; have HI6 := Lib.hid hi6; have H61 := Lib.hid h61; have HG6 := Lib.hid hg6; clear hi6 h61 hg6))
     have G56 := Lib.hid (show Below wr.heap.size wr W6 from HG5.out.trans (HG6.out.mono HG5.out.size))
     have HI5b := Lib.hid (HI5.out.below HG6.out)
     by_cases hee : ex = fx
     ·have heb : (ex != fx) = false := by simpa using hee
      have TE := Lib.hid (equal_any A5 A6 n5 c5 n6 c6 wa wb W6 HI5b.out HI6.out H51.out H61.out)
      by_cases hab : wa = wb
      ·rw [decide_eq_true hab] at TE
       have HS3 := Lib.hid (show nm (k + 1) = nk by rw [HS.out, if_neg (by simp [hee, hab]), List.append_nil])
       clear hee hab
       go_wp2_with (first | (go_at_call 76; (with_reducible refine (TE.out).mono ?_); rintro e W7 ⟨rfl, hg7⟩; have HG7 := Lib.hid (G56.out.trans (hg7.mono G56.out.size)); clear hg7))
       go_roundw
       case rel => exact ⟨k + 1, by omega, by rw [HS3.out]; exact HOX.out.ext HG7.out, rfl, HG.out.trans (HG7.out.mono HG.out.size)⟩
       case measure => simp only [intOf]; omega
      ·rw [decide_eq_false hab] at TE
       have HS3 := Lib.hid (show nm (k + 1) = nk ++ [x] by rw [HS.out, if_pos (by simp [hab])])
       clear hee hab
       go_upto_region 14 with (first | (go_at_call 76; (with_reducible refine (TE.out).mono ?_); rintro e W7 ⟨rfl, hg7⟩; have HG7 := Lib.hid (G56.out.trans (hg7.mono G56.out.size)); clear hg7))
       have GX := Lib.hid (one_more W7 (.cells #[.int .i64 x] 3))
       have HI := Lib.hid (one_int (Blk.new W7 3 #[.int .i64 x]))
       have HO7 := Lib.hid ((HOX.out.ext HG7.out).ext GX.out)
       have HGZ := Lib.hid ((HG.out.trans (HG7.out.mono HG.out.size)).trans (GX.out.mono (Nat.le_trans HG.out.size HG7.out.size)))
       have HTL := Lib.hid (show nk.length + 1 ≤ 1000000 by have := HNK.out; omega)
       go_wp2_with (first | (at_builtin; go_loud (refine wpList_app kdI (by rfl) _ _ (by rfl) V3.heap.size _ nk (by rfl) HO7.out _ 1 1 [x] (by rfl) HI.out HTL.out HGZ.out.size ?_); intro v' w' ho hgr hz; have HO8 := Lib.hid ho; have GV8 := Lib.hid (HGZ.out.trans (HO7.out.below hgr (Nat.le_refl _) HGZ.out.size)); clear ho hgr hz))
       go_roundw
       case rel => exact ⟨k + 1, by omega, by rw [HS3.out]; exact HO8.out, rfl, GV8.out⟩
       case measure => simp only [intOf]; omega
     ·have heb : (ex != fx) = true := by simpa using hee
      have HS3 := Lib.hid (show nm (k + 1) = nk ++ [x] by rw [HS.out, if_pos (by simp [hee])])
      clear hee
      go_upto_region 14 with fail
      have GX := Lib.hid (one_more W6 (.cells #[.int .i64 x] 3))
      have HI := Lib.hid (one_int (Blk.new W6 3 #[.int .i64 x]))
      have HO7 := Lib.hid ((HOX.out.ext G56.out).ext GX.out)
      have HGZ := Lib.hid ((HG.out.trans (G56.out.mono HG.out.size)).trans (GX.out.mono (Nat.le_trans HG.out.size G56.out.size)))
      have HTL := Lib.hid (show nk.length + 1 ≤ 1000000 by have := HNK.out; omega)
      go_wp2_with (first | (at_builtin; go_loud (refine wpList_app kdI (by rfl) _ _ (by rfl) V3.heap.size _ nk (by rfl) HO7.out _ 1 1 [x] (by rfl) HI.out HTL.out HGZ.out.size ?_); intro v' w' ho hgr hz; have HO8 := Lib.hid ho; have GV8 := Lib.hid (HGZ.out.trans (HO7.out.below hgr (Nat.le_refl _) HGZ.out.size)); clear ho hgr hz))
      go_roundw
      case rel => exact ⟨k + 1, by omega, by rw [HS3.out]; exact HO8.out, rfl, GV8.out⟩
      case measure => simp only [intOf]; omega
    ·obtain rfl : k = m := by omega
     clear hg
     go_wp2_with fail
     go_ret2
     rw [HME3.out]
     exact listEnd_ok (by rw [← HFE.out]; exact HOX.out) (GV3.out.trans (HG.out.mono GV3.out.size))
  ·have HM := Lib.hid hm
   have HME3 := Lib.hid (show movE lq s day known = 3 by rw [HME2.out, if_neg hm])
   clear HME2 hm
   go_enter Tryz.func17, Tryz.ntmps17
   go_wp2_with (first
    | (go_at_call 73; rw [HW1.out]; (with_reducible refine (HT.out).mono ?_); rintro e V ⟨⟨v, rfl, ho, -⟩, hg⟩; have GV := Lib.hid (G1.out.trans (hg.mono G1.out.size)); obtain ⟨A2, c2, rfl, hp1, hp2, hp3⟩ := own_prf (ho rfl) (fun p hp => (HA.out.p p (HPI.out p hp)).below GV.out); have HP := Lib.hid (And.intro hp1 (And.intro hp2 hp3)); clear ho hp1 hp2 hp3 hg)
    | (go_at_call 74; (with_reducible refine (TW.out _ GV.out).mono ?_); rintro e V2 ⟨⟨A3, n3, c3, rfl, -, hp3⟩, hg3⟩; rw [decide_eq_false HM.out]; have GV2 := Lib.hid (GV.out.trans (hg3.mono GV.out.size)); clear hp3 hg3))
   go_ret2
   rw [HME3.out]
   exact listEnd_no (by decide) GV2.out
 ·have hzb : (le != 0) = true := by simpa using hz
  have HZ := Lib.hid hz
  have HE := Lib.hid (HLE.out le rfl hz)
  clear hz HLE HME HOK
  go_enter Tryz.func17, Tryz.ntmps17
  go_wp2_with (go_at_call 73; rw [HW1.out]; (with_reducible refine (HT.out).mono ?_); rintro e V ⟨⟨v, rfl, -, ho⟩, hg⟩; obtain rfl := ho HZ.out; have GV := Lib.hid (G1.out.trans (hg.mono G1.out.size)); clear ho hg)
  go_ret2
  rw [HE.out]
  exact listEnd_no HZ.out GV.out
end Go.Proofs.YtehhlgdkhecacaaGreat

namespace Go.Proofs.YtehhlgdkhecacaaGreat
open Go.RowKit Go.Shelf
def exL : List Qf := [⟨1, 1, [5, 6], 0, 0, 10, 0, 0, 0⟩, ⟨2, 1, [6], 0, 1, 30, 0, 0, 0⟩, ⟨3, 3, [5], 0, 2, 100, 464, 0, 0⟩, ⟨4, 2, [7], 5, 0, 500, 0, 0, 0⟩, ⟨5, 7, [5, 7], 0, 3, 600, 0, 610, 700⟩, ⟨6, 8, [5, 6], 0, 4, 200, 0, 650, 0⟩]
def exM : List Qf := exL ++ [⟨7, 1, [5], 0, 5, 1, 0, 0, 0⟩]
theorem ex1 : lookE exL [610] = 0 ∧ (reads (cntL exL 610)).length = 2 := by decide +kernel
theorem ex2 : lookE exL [0] = 0 ∧ (reads (cntL exL 0)).getD 0 [] = [5, 6, 5, 7] ∧ (0 : Nat) < (reads (cntL exL 0)).length := by decide +kernel
theorem ex3 : byRdE exL 5 0 [0] [5, 6, 5, 7] = 0 ∧ titlesS (cntL exL 0) [5, 6, 5, 7] 5 = [⟨10, 0, 1⟩, ⟨465, 2, 3⟩] := by decide +kernel
theorem ex4 : readE exL 7 0 [600, 610] 610 = 0 ∧ wherS (cntL exL 610) 7 600 = [2, 3] := by decide +kernel
theorem ex5 : readE exL 7 2 [600, 700] 700 = 0 ∧ righN (wherS (cntL exL 700) 7 600) 2 = 1 := by decide +kernel
theorem ex6 : shE exL 7 3 600 610 true = 0 ∧ shL (cntL exL 610) 7 3 600 true = [5, 6, 5, 7, 7] := by decide +kernel
theorem ex7 : readE exL 1 2 [500, 0] 0 = 0 ∧ belS (cntL exL 0) 2 500 = [5, 7] := by decide +kernel
theorem ex8 : readE exL 7 2 [500, 0] 0 = 0 ∧ rstS (cntL exL 0) 7 2 500 = [3, 4] := by decide +kernel
theorem ex9 : movE exL 3 500 0 = 0 ∧ movS exL 3 500 0 = [5, 7] := by decide +kernel
theorem ex10 : clE exM 0 = 0 ∧ clashL (cntL exM 0) = [1, 2, 7] := by decide +kernel
/-- The examples in memory. -/
def exP (s : Nat) : List Pf := [⟨exL.getD 0 q0, some ⟨s, 0, none⟩, 2, 2⟩, ⟨exL.getD 1 q0, some ⟨s + 1, 0, none⟩, 1, 1⟩, ⟨exL.getD 2 q0, some ⟨s + 1 + 1, 0, none⟩, 1, 1⟩, ⟨exL.getD 3 q0, some ⟨s + 1 + 1 + 1, 0, none⟩, 1, 1⟩, ⟨exL.getD 4 q0, some ⟨s + 1 + 1 + 1 + 1, 0, none⟩, 2, 2⟩, ⟨exL.getD 5 q0, some ⟨s + 1 + 1 + 1 + 1 + 1, 0, none⟩, 2, 2⟩]
theorem exP_q (s : Nat) : (exP s).map Pf.q = exL := rfl
theorem size_al (w : World) (o : Obj) : (w.alloc o).heap.size = w.heap.size + 1 := World.size_alloc w o
theorem blk_next {w : World} {o : Obj} {s : Nat} (h : w.heap.size = s) {t : TypeId} {cs : Array Value} : Blk ((w.alloc o).alloc (.cells cs t)) (s + 1) t cs := by
 have := Blk.new (w.alloc o) t cs
 rwa [size_al, h] at this
theorem ex_own (w W1 W2 W3 W4 W5 W6 W7 : World) (h1 : W1 = w.alloc (.cells #[.int .i64 5, .int .i64 6] 3)) (h2 : W2 = W1.alloc (.cells #[.int .i64 6] 3)) (h3 : W3 = W2.alloc (.cells #[.int .i64 5] 3)) (h4 : W4 = W3.alloc (.cells #[.int .i64 7] 3)) (h5 : W5 = W4.alloc (.cells #[.int .i64 5, .int .i64 7] 3)) (h6 : W6 = W5.alloc (.cells #[.int .i64 5, .int .i64 6] 3)) (h7 : W7 = W6.alloc (.cells ((exP w.heap.size).flatMap pcells).toArray 56)) :
  OwnP W7 w.heap.size (w.heap.size + 1 + 1 + 1 + 1 + 1 + 1) 6 6 (exP w.heap.size) ∧ Below w.heap.size w W7 := by
 have s0 : w.heap.size = w.heap.size := rfl
 have s1 : W1.heap.size = w.heap.size + 1 := by rw [h1, size_al, s0]
 have s2 : W2.heap.size = w.heap.size + 1 + 1 := by rw [h2, size_al, s1]
 have s3 : W3.heap.size = w.heap.size + 1 + 1 + 1 := by rw [h3, size_al, s2]
 have s4 : W4.heap.size = w.heap.size + 1 + 1 + 1 + 1 := by rw [h4, size_al, s3]
 have s5 : W5.heap.size = w.heap.size + 1 + 1 + 1 + 1 + 1 := by rw [h5, size_al, s4]
 have s6 : W6.heap.size = w.heap.size + 1 + 1 + 1 + 1 + 1 + 1 := by rw [h6, size_al, s5]
 have b0 : Blk W1 (w.heap.size) 3 #[.int .i64 5, .int .i64 6] := by
  have := Blk.new w 3 #[.int .i64 5, .int .i64 6]
  rwa [s0, ← h1] at this
 have b1 : Blk W2 (w.heap.size + 1) 3 #[.int .i64 6] := by
  have := Blk.new W1 3 #[.int .i64 6]
  rwa [s1, ← h2] at this
 have b2 : Blk W3 (w.heap.size + 1 + 1) 3 #[.int .i64 5] := by
  have := Blk.new W2 3 #[.int .i64 5]
  rwa [s2, ← h3] at this
 have b3 : Blk W4 (w.heap.size + 1 + 1 + 1) 3 #[.int .i64 7] := by
  have := Blk.new W3 3 #[.int .i64 7]
  rwa [s3, ← h4] at this
 have b4 : Blk W5 (w.heap.size + 1 + 1 + 1 + 1) 3 #[.int .i64 5, .int .i64 7] := by
  have := Blk.new W4 3 #[.int .i64 5, .int .i64 7]
  rwa [s4, ← h5] at this
 have b5 : Blk W6 (w.heap.size + 1 + 1 + 1 + 1 + 1) 3 #[.int .i64 5, .int .i64 6] := by
  have := Blk.new W5 3 #[.int .i64 5, .int .i64 6]
  rwa [s5, ← h6] at this
 have g1 : Below w.heap.size w W1 := by rw [h1]; exact one_more _ _
 have g2 : Below W1.heap.size W1 W2 := by rw [h2]; exact one_more _ _
 have g3 : Below W2.heap.size W2 W3 := by rw [h3]; exact one_more _ _
 have g4 : Below W3.heap.size W3 W4 := by rw [h4]; exact one_more _ _
 have g5 : Below W4.heap.size W4 W5 := by rw [h5]; exact one_more _ _
 have g6 : Below W5.heap.size W5 W6 := by rw [h6]; exact one_more _ _
 have g7 : Below W6.heap.size W6 W7 := by rw [h7]; exact one_more _ _
 have b6 : Blk W7 (w.heap.size + 1 + 1 + 1 + 1 + 1 + 1) 56 ((exP w.heap.size).flatMap pcells).toArray := by
  have := Blk.new W6 56 ((exP w.heap.size).flatMap pcells).toArray
  rwa [s6, ← h7] at this
 have c0 := ((((((b0.ext g2).ext g3).ext g4).ext g5).ext g6).ext g7)
 have c1 := (((((b1.ext g3).ext g4).ext g5).ext g6).ext g7)
 have c2 := ((((b2.ext g4).ext g5).ext g6).ext g7)
 have c3 := (((b3.ext g5).ext g6).ext g7)
 have c4 := ((b4.ext g6).ext g7)
 have c5 := (b5.ext g7)
 refine ⟨⟨own_mk pcells_len rfl (by omega) b6 (by decide) (by unfold maxLen; decide) rfl rfl, fun p hp => ?_⟩, ?_⟩
 ·have hp : p ∈ exP w.heap.size := hp
  unfold exP at hp
  simp only [List.mem_cons, List.not_mem_nil, or_false] at hp
  rcases hp with rfl | rfl | rfl | rfl | rfl | rfl
  ·exact ⟨⟨two_ints c0, ⟨Nat.le_refl _, (by show 2 ≤ 9223372036854775807; omega)⟩⟩, fun a e => by cases e; show w.heap.size ≠ w.heap.size + 1 + 1 + 1 + 1 + 1 + 1; omega⟩
  ·exact ⟨⟨one_int c1, ⟨Nat.le_refl _, (by show 1 ≤ 9223372036854775807; omega)⟩⟩, fun a e => by cases e; show w.heap.size + 1 ≠ w.heap.size + 1 + 1 + 1 + 1 + 1 + 1; omega⟩
  ·exact ⟨⟨one_int c2, ⟨Nat.le_refl _, (by show 1 ≤ 9223372036854775807; omega)⟩⟩, fun a e => by cases e; show w.heap.size + 1 + 1 ≠ w.heap.size + 1 + 1 + 1 + 1 + 1 + 1; omega⟩
  ·exact ⟨⟨one_int c3, ⟨Nat.le_refl _, (by show 1 ≤ 9223372036854775807; omega)⟩⟩, fun a e => by cases e; show w.heap.size + 1 + 1 + 1 ≠ w.heap.size + 1 + 1 + 1 + 1 + 1 + 1; omega⟩
  ·exact ⟨⟨two_ints c4, ⟨Nat.le_refl _, (by show 2 ≤ 9223372036854775807; omega)⟩⟩, fun a e => by cases e; show w.heap.size + 1 + 1 + 1 + 1 ≠ w.heap.size + 1 + 1 + 1 + 1 + 1 + 1; omega⟩
  ·exact ⟨⟨two_ints c5, ⟨Nat.le_refl _, (by show 2 ≤ 9223372036854775807; omega)⟩⟩, fun a e => by cases e; show w.heap.size + 1 + 1 + 1 + 1 + 1 ≠ w.heap.size + 1 + 1 + 1 + 1 + 1 + 1; omega⟩
 ·exact ((((((g1).trans (g2.mono (by omega))).trans (g3.mono (by omega))).trans (g4.mono (by omega))).trans (g5.mono (by omega))).trans (g6.mono (by omega))).trans (g7.mono (by omega))
set_option maxRecDepth 100000 in
set_option maxHeartbeats 4000000 in
theorem proofs_any (w : World) : Calls Tryz.prog 82 #[] w fun e w' => (∃ g l, e = .returned (.slice (some ⟨g, 0, none⟩) 6 6) ∧ OwnP w' w.heap.size g 6 6 l ∧ l.map Pf.q = exL) ∧ Below w.heap.size w w' := by
 go_enter Tryz.func82, Tryz.ntmps82
 go_wp2_with fail
 go_ret
 obtain ⟨h1, h2⟩ := ex_own w _ _ _ _ _ _ _ rfl rfl rfl rfl rfl rfl rfl
 exact ⟨⟨_, _, rfl, h1, exP_q _⟩, h2⟩
end Go.Proofs.YtehhlgdkhecacaaGreat

namespace Go.Proofs.YtehhlgdkhecacaaGreat
open Go.RowKit Go.Shelf
/-- A list without an error. -/
def ListIs (L : List Int) (w : World) (e : Ending) (w' : World) : Prop := ∃ D m d, e = .returned (.tuple #[.slice D m d, .int .i64 0]) ∧ Ints w' D m L ∧ m ≤ 9223372036854775807 ∧ Below w.heap.size w w'
theorem ListEnd.is {l : List Int} {E : Int} {w : World} {e : Ending} {w' : World} (h : ListEnd l E w e w') (hE : E = 0) {L : List Int} (hL : l = L) : ListIs L w e w' := by
 subst hE hL
 obtain ⟨D, m, d, rfl, hi, h1, h2, hg⟩ := h
 unfold maxLen at h2
 exact ⟨D, m, d, rfl, hi, by omega, hg⟩
theorem RdEnd.is {l : List Qf} {known k : Int} {w : World} {e : Ending} {w' : World} (h : RdEnd l known k w e w') (hE : rdE l known k = 0) {L : List Int} (hL : rdV l known k = L) : ListIs L w e w' := by
 obtain ⟨⟨D, m, d, rfl, h1, h2, hi⟩, hg⟩ := h
 rw [hE]
 rw [hL] at hi
 unfold maxLen at h2
 exact ⟨D, m, d, rfl, hi, by omega, hg⟩
theorem same_is {L : List Int} {D : Option Addr} {m d : Nat} {V : World} (hi : Ints V D m L) (hm : m ≤ 9223372036854775807) : ∀ (W : World) (_ : Below V.heap.size V W) (B : Option Addr) (n c : Nat) (_ : Ints W B n L) (_ : n ≤ 9223372036854775807),
  Calls Tryz.prog 19 #[.slice D m d, .slice B n c] W fun e w' => e = .returned (.bool true) ∧ Below W.heap.size W w' := fun W g B n c hb hn => by
 have := sameInts_any D B m d n c L L W (hi.below g) hb hm hn
 rwa [decide_eq_true rfl] at this
theorem tits_is {L : List Tt} {D : Option Addr} {m d : Nat} {V : World} (hi : Arr tcells 3 V D m L) (hm : m ≤ 9223372036854775807) : ∀ (W : World) (_ : Below V.heap.size V W) (B : Option Addr) (n c : Nat) (_ : Arr tcells 3 W B n L) (_ : n ≤ 9223372036854775807),
  Calls Tryz.prog 25 #[.slice D m d, .slice B n c] W fun e w' => e = .returned (.bool true) ∧ Below W.heap.size W w' := fun W g B n c hb hn => by
 have := sameTits_any D B m d n c L L W (hi.below g) hb hm hn
 rwa [decide_eq_true rfl] at this
theorem two_tits {w : World} {b : Nat} {x y : Tt} (h : Blk w b 67 #[.int .i64 x.day, .int .i64 x.par, .int .i64 x.src, .int .i64 y.day, .int .i64 y.par, .int .i64 y.src]) : Arr tcells 3 w (some ⟨b, 0, none⟩) 2 [x, y] := by
 refine ⟨rfl, fun _ => ⟨b, 0, rfl, h.lt, fun k z hz j u hu => ?_⟩⟩
 rcases k with _ | _ | k
 ·cases hz
  rcases j with _ | _ | _ | j
  ·cases hu; exact h.cell 0
  ·cases hu; exact h.cell 1
  ·cases hu; exact h.cell 2
  ·simp [tcells] at hu
 ·cases hz
  rcases j with _ | _ | _ | j
  ·cases hu; exact h.cell 3
  ·cases hu; exact h.cell 4
  ·cases hu; exact h.cell 5
  ·simp [tcells] at hu
 ·simp at hz
theorem rd_ex : rdE exL 0 0 = 0 ∧ rdV exL 0 0 = [5, 6, 5, 7] := by
 have h : rdE exL 0 0 = 0 := by
  unfold rdE
  rw [ex2.1, if_pos rfl, if_pos ⟨by omega, by have := ex2.2.2; omega⟩]
 refine ⟨h, ?_⟩
 unfold rdV
 rw [h, if_pos rfl]
 exact ex2.2.1
/-- The persons of the examples and of one more. -/
theorem ex_per {V V2 W : World} {base g n c s : Nat} {l : List Pf} {q : Qf} (h : OwnP V base g n c l) (G2 : Below V.heap.size V V2) (b : Blk V2 s 3 #[.int .i64 5]) (f : Fix g g V2 W) (hs : s = V.heap.size) (hq : q.per = [5]) :
  ∀ p ∈ l ++ [(⟨q, some ⟨s, 0, none⟩, 1, 1⟩ : Pf)], PI W p := by
 intro p hp
 rw [List.mem_append, List.mem_singleton] at hp
 rcases hp with hp | rfl
 ·obtain ⟨h1, h2⟩ := h.per p hp
  exact ⟨ints_fix (h1.i.below G2) h2 f, h1.m⟩
 ·obtain ⟨-, -, cur, hg, -⟩ := own_inv h.own
  have hlt := hg.lt
  refine ⟨ints_fix (by rw [hq]; exact one_int b) (fun a e => by cases e; show s ≠ g; omega) f, ⟨Nat.le_refl _, by show 1 ≤ 9223372036854775807; omega⟩⟩
set_option maxRecDepth 100000 in
theorem clash_ex {W : World} {A : Option Addr} {c : Nat} {l : List Pf} {a : Addr} (h : Prf W A (l ++ [(⟨⟨7, 1, [5], 0, 5, 1, 0, 0, 0⟩, some a, 1, 1⟩ : Pf)]).length (l ++ [⟨⟨7, 1, [5], 0, 5, 1, 0, 0, 0⟩, some a, 1, 1⟩])) (hq : l.map Pf.q = exL) :
  Calls Tryz.prog 51 #[.slice A (l.length + 1) c, .int .i64 0] W (ListIs [1, 2, 7] W) := by
 have hm : (l ++ [(⟨⟨7, 1, [5], 0, 5, 1, 0, 0, 0⟩, some a, 1, 1⟩ : Pf)]).map Pf.q = exM := by rw [List.map_append, hq]; rfl
 have hl : l.length = 6 := by have := congrArg List.length hq; rw [List.length_map] at this; exact this
 have t := clash_any A _ c _ 0 W h (by rw [List.length_append, hl, List.length_singleton]; decide)
 rw [hm, List.length_append, List.length_singleton] at t
 exact t.mono fun e w' h => h.is ex10.1 ex10.2
set_option maxRecDepth 100000 in
set_option maxHeartbeats 16000000 in
theorem sane_any (w : World) : Calls Tryz.prog 20 #[] w fun e w' => e = .returned (.bool true) ∧ Below w.heap.size w w' := by
 have HEX := Lib.hid ex1
 go_enter Tryz.func20, Tryz.ntmps20
 go_upto_region 2 with (go_at_call 82; (with_reducible refine (proofs_any w).mono ?_); rintro e V1 ⟨⟨g, l, rfl, ho, hq⟩, hg⟩; have HP := Lib.hid ho.prf; have HQ := Lib.hid hq; have HG0 := Lib.hid hg; clear ho hq hg)
 have GC1 := Lib.hid (Below.refl V1.heap.size V1)
 have T2 := Lib.hid (show Calls Tryz.prog 41 #[.slice (some ⟨g, 0, none⟩) 6 6, .int .i64 610] V1 (fun e w' => e = .returned (.tuple #[.int .i64 2, .int .i64 0]) ∧ Below V1.heap.size V1 w') from by
  have t := readingsF_any (some ⟨g, 0, none⟩) 6 6 l 610 V1 (HP.out.below GC1.out) (by decide)
  rw [HQ.out, show rdsN exL 610 = 2 by unfold rdsN; rw [HEX.out.1, if_pos rfl, HEX.out.2]; rfl, HEX.out.1] at t
  exact t)
 go_upto_region 3 with (go_at_call 41; (with_reducible refine (T2.out).mono ?_); rintro e V2 ⟨rfl, hg⟩; have GS2 := Lib.hid hg; clear hg)
 have GC2 := Lib.hid (GC1.out.trans (GS2.out.mono GC1.out.size))
 have T3 := Lib.hid (show Calls Tryz.prog 44 #[.slice (some ⟨g, 0, none⟩) 6 6, .int .i64 0, .int .i64 0] V2 (ListIs [5, 6, 5, 7] V2) from by
  have t := readingF_any (some ⟨g, 0, none⟩) 6 6 l 0 0 V2 (HP.out.below GC2.out) (by decide)
  rw [HQ.out] at t
  exact t.mono fun e w' h => h.is rd_ex.1 rd_ex.2)
 go_upto_region 4 with (go_at_call 44; (with_reducible refine (T3.out).mono ?_); rintro e V3 ⟨D3, m3, d3, rfl, hi, hm, hg⟩; have HI3 := Lib.hid hi; have HM3 := Lib.hid hm; have GS3 := Lib.hid hg; clear hi hm hg)
 have GC3 := Lib.hid (GC2.out.trans (GS3.out.mono GC2.out.size))
 have XI4 := Lib.hid (Blk.intsN (l := [5, 6, 5, 7]) (n := 4) (Blk.new V3 3 #[.int .i64 5, .int .i64 6, .int .i64 5, .int .i64 7]) rfl)
 have XG4 := Lib.hid (one_more V3 (.cells #[.int .i64 5, .int .i64 6, .int .i64 5, .int .i64 7] 3))
 have T4 := Lib.hid (show Calls Tryz.prog 21 #[.slice (some ⟨g, 0, none⟩) 6 6, .slice (some ⟨V3.heap.size, 0, none⟩) 4 4, .int .i64 5, .int .i64 0] (V3.alloc (.cells #[.int .i64 5, .int .i64 6, .int .i64 5, .int .i64 7] 3)) (fun e w' => (∃ D m d, e = .returned (.tuple #[.slice D m d, .int .i64 0]) ∧ Arr tcells 3 w' D m [⟨10, 0, 1⟩, ⟨465, 2, 3⟩] ∧ m ≤ 9223372036854775807 ∧ Below V3.heap.size V3 w')) from by
  have t := titlesF_any (some ⟨g, 0, none⟩) 6 6 l (some ⟨V3.heap.size, 0, none⟩) 4 4 [5, 6, 5, 7] 5 0 _ ((HP.out.below GC3.out).below XG4.out) (by decide) XI4.out (by decide) (by decide)
  rw [HQ.out] at t
  refine t.mono ?_
  rintro e w' ⟨D, m, d, rfl, hi, hg⟩
  rw [ex3.1, if_pos rfl, ex3.2] at hi
  refine ⟨D, m, d, by rw [ex3.1], hi, by have := hi.1; simp at this; omega, XG4.out.trans (hg.mono XG4.out.size)⟩)
 go_upto_region 5 with (go_at_call 21; (with_reducible refine (T4.out).mono ?_); rintro e V4 ⟨D4, m4, d4, rfl, hi, hm, hg⟩; have HI4 := Lib.hid hi; have HM4 := Lib.hid hm; have GS4 := Lib.hid hg; clear hi hm hg)
 have HI3 := Lib.hid (HI3.out.below GS4.out)
 have GC4 := Lib.hid (GC3.out.trans (GS4.out.mono GC3.out.size))
 have T5 := Lib.hid (show Calls Tryz.prog 26 #[.slice (some ⟨g, 0, none⟩) 6 6, .int .i64 7, .int .i64 600, .int .i64 610] V4 (ListIs [2, 3] V4) from by
  have t := whereF_any (some ⟨g, 0, none⟩) 6 6 l 7 600 610 V4 (HP.out.below GC4.out) (by decide)
  rw [HQ.out] at t
  exact t.mono fun e w' h => h.is ex4.1 ex4.2)
 go_upto_region 6 with (go_at_call 26; (with_reducible refine (T5.out).mono ?_); rintro e V5 ⟨D5, m5, d5, rfl, hi, hm, hg⟩; have HI5 := Lib.hid hi; have HM5 := Lib.hid hm; have GS5 := Lib.hid hg; clear hi hm hg)
 have HI3 := Lib.hid (HI3.out.below GS5.out)
 have HI4 := Lib.hid (HI4.out.below GS5.out)
 have GC5 := Lib.hid (GC4.out.trans (GS5.out.mono GC4.out.size))
 have T6 := Lib.hid (show Calls Tryz.prog 28 #[.slice (some ⟨g, 0, none⟩) 6 6, .int .i64 7, .int .i64 2, .int .i64 600, .int .i64 700] V5 (fun e w' => e = .returned (.tuple #[.int .i64 1, .int .i64 0]) ∧ Below V5.heap.size V5 w') from by
  have t := rightF_any (some ⟨g, 0, none⟩) 6 6 l 7 2 600 700 V5 (HP.out.below GC5.out) (by decide)
  rw [HQ.out] at t
  unfold NumEnd at t
  rw [ex5.1, ex5.2, if_pos rfl] at t
  exact t)
 go_upto_region 7 with (go_at_call 28; (with_reducible refine (T6.out).mono ?_); rintro e V6 ⟨rfl, hg⟩; have GS6 := Lib.hid hg; clear hg)
 have HI3 := Lib.hid (HI3.out.below GS6.out)
 have HI4 := Lib.hid (HI4.out.below GS6.out)
 have HI5 := Lib.hid (HI5.out.below GS6.out)
 have GC6 := Lib.hid (GC5.out.trans (GS6.out.mono GC5.out.size))
 have T7 := Lib.hid (show Calls Tryz.prog 30 #[.slice (some ⟨g, 0, none⟩) 6 6, .int .i64 7, .int .i64 3, .int .i64 600, .int .i64 610, .bool true] V6 (ListIs [5, 6, 5, 7, 7] V6) from by
  have t := show_any (some ⟨g, 0, none⟩) 6 6 l 7 3 600 610 true V6 (HP.out.below GC6.out) (by decide)
  rw [HQ.out] at t
  exact t.mono fun e w' h => h.is ex6.1 ex6.2)
 go_upto_region 8 with (go_at_call 30; (with_reducible refine (T7.out).mono ?_); rintro e V7 ⟨D7, m7, d7, rfl, hi, hm, hg⟩; have HI7 := Lib.hid hi; have HM7 := Lib.hid hm; have GS7 := Lib.hid hg; clear hi hm hg)
 have HI3 := Lib.hid (HI3.out.below GS7.out)
 have HI4 := Lib.hid (HI4.out.below GS7.out)
 have HI5 := Lib.hid (HI5.out.below GS7.out)
 have GC7 := Lib.hid (GC6.out.trans (GS7.out.mono GC6.out.size))
 have T8 := Lib.hid (show Calls Tryz.prog 34 #[.slice (some ⟨g, 0, none⟩) 6 6, .int .i64 2, .int .i64 500, .int .i64 0] V7 (ListIs [5, 7] V7) from by
  have t := belong_any (some ⟨g, 0, none⟩) 6 6 l 2 500 0 V7 (HP.out.below GC7.out) (by decide)
  rw [HQ.out] at t
  exact t.mono fun e w' h => h.is ex7.1 ex7.2)
 go_upto_region 9 with (go_at_call 34; (with_reducible refine (T8.out).mono ?_); rintro e V8 ⟨D8, m8, d8, rfl, hi, hm, hg⟩; have HI8 := Lib.hid hi; have HM8 := Lib.hid hm; have GS8 := Lib.hid hg; clear hi hm hg)
 have HI3 := Lib.hid (HI3.out.below GS8.out)
 have HI4 := Lib.hid (HI4.out.below GS8.out)
 have HI5 := Lib.hid (HI5.out.below GS8.out)
 have HI7 := Lib.hid (HI7.out.below GS8.out)
 have GC8 := Lib.hid (GC7.out.trans (GS8.out.mono GC7.out.size))
 have T9 := Lib.hid (show Calls Tryz.prog 15 #[.slice (some ⟨g, 0, none⟩) 6 6, .int .i64 7, .int .i64 2, .int .i64 500, .int .i64 0] V8 (ListIs [3, 4] V8) from by
  have t := rests_any (some ⟨g, 0, none⟩) 6 6 l 7 2 500 0 V8 (HP.out.below GC8.out) (by decide)
  rw [HQ.out] at t
  exact t.mono fun e w' h => h.is ex8.1 ex8.2)
 go_upto_region 10 with (go_at_call 15; (with_reducible refine (T9.out).mono ?_); rintro e V9 ⟨D9, m9, d9, rfl, hi, hm, hg⟩; have HI9 := Lib.hid hi; have HM9 := Lib.hid hm; have GS9 := Lib.hid hg; clear hi hm hg)
 have HI3 := Lib.hid (HI3.out.below GS9.out)
 have HI4 := Lib.hid (HI4.out.below GS9.out)
 have HI5 := Lib.hid (HI5.out.below GS9.out)
 have HI7 := Lib.hid (HI7.out.below GS9.out)
 have HI8 := Lib.hid (HI8.out.below GS9.out)
 have GC9 := Lib.hid (GC8.out.trans (GS9.out.mono GC8.out.size))
 have T10 := Lib.hid (show Calls Tryz.prog 17 #[.slice (some ⟨g, 0, none⟩) 6 6, .int .i64 3, .int .i64 500, .int .i64 0] V9 (ListIs [5, 7] V9) from by
  have t := moved_any (some ⟨g, 0, none⟩) 6 6 l 3 500 0 V9 (HP.out.below GC9.out) (by decide)
  rw [HQ.out] at t
  exact t.mono fun e w' h => h.is ex9.1 ex9.2)
 go_upto_region 11 with (go_at_call 17; (with_reducible refine (T10.out).mono ?_); rintro e V10 ⟨D10, m10, d10, rfl, hi, hm, hg⟩; have HI10 := Lib.hid hi; have HM10 := Lib.hid hm; have GS10 := Lib.hid hg; clear hi hm hg)
 have HI3 := Lib.hid (HI3.out.below GS10.out)
 have HI4 := Lib.hid (HI4.out.below GS10.out)
 have HI5 := Lib.hid (HI5.out.below GS10.out)
 have HI7 := Lib.hid (HI7.out.below GS10.out)
 have HI8 := Lib.hid (HI8.out.below GS10.out)
 have HI9 := Lib.hid (HI9.out.below GS10.out)
 have GC10 := Lib.hid (GC9.out.trans (GS10.out.mono GC9.out.size))
 go_upto_region 12 with (first
  | (go_at_call 82; (with_reducible refine (proofs_any _).mono ?_); rintro e VP ⟨⟨g2, l2, rfl, ho, hq⟩, hg⟩; have HO2 := Lib.hid ho; have HQ2 := Lib.hid hq; have GP := Lib.hid hg; have G1 := Lib.hid (one_more VP (.cells #[.int .i64 5] 3)); have G2 := Lib.hid (two_more VP (.cells #[.int .i64 5] 3) (.cells #[.int .i64 7, .int .i64 1, .slice (some ⟨VP.heap.size, 0, none⟩) 1 1, .int .i64 0, .int .i64 5, .int .i64 1, .int .i64 0, .int .i64 0, .int .i64 0] 56)); have B1 := Lib.hid ((Blk.new VP 3 #[.int .i64 5]).alloc (.cells #[.int .i64 7, .int .i64 1, .slice (some ⟨VP.heap.size, 0, none⟩) 1 1, .int .i64 0, .int .i64 5, .int .i64 1, .int .i64 0, .int .i64 0, .int .i64 0] 56)); have B2 := Lib.hid (one_pf (x := ⟨⟨7, 1, [5], 0, 5, 1, 0, 0, 0⟩, some ⟨VP.heap.size, 0, none⟩, 1, 1⟩) (blk_next (w := VP) (o := (.cells #[.int .i64 5] 3)) rfl (cs := #[.int .i64 7, .int .i64 1, .slice (some ⟨VP.heap.size, 0, none⟩) 1 1, .int .i64 0, .int .i64 5, .int .i64 1, .int .i64 0, .int .i64 0, .int .i64 0]))); have HOX := Lib.hid (ho.own.ext G2.out); have HS := Lib.hid (Nat.le_trans hg.size G2.out.size); have HLL := Lib.hid ho.prf.len; clear ho hq hg)
  | (at_builtin; go_loud ((refine wpList_app kdQ (by rfl) _ _ (by rfl) V10.heap.size _ l2 (by rfl) HOX.out _ 1 1 [⟨⟨7, 1, [5], 0, 5, 1, 0, 0, 0⟩, some ⟨VP.heap.size, 0, none⟩, 1, 1⟩] (by rfl) B2.out (by rw [HLL.out]; decide) HS.out ?_; intro v' w' ho hgr hz; have GQ := Lib.hid (GP.out.trans ((G2.out.mono GP.out.size).trans (HOX.out.below hgr (Nat.le_refl _) HS.out))); have HF := Lib.hid (fix_turn hgr); have HPR := ex_per (q := ⟨7, 1, [5], 0, 5, 1, 0, 0, 0⟩) HO2.out G2.out B1.out HF.out rfl rfl; obtain ⟨A9, c9, rfl, hc1, hc2, hp9⟩ := own_prf ho HPR; clear HPR; have HP9 := Lib.hid hp9; have T51 := Lib.hid (clash_ex (c := c9) hp9 HQ2.out); clear ho hgr hz hc1 hc2 hp9)))
  | (go_at_call 51; (with_reducible refine (T51.out).mono ?_); rintro e VC ⟨DC, mC, dC, rfl, hi, hm, hg⟩; have HIC := Lib.hid hi; have HMC := Lib.hid hm; have GSC := Lib.hid (GQ.out.trans (hg.mono GQ.out.size)); clear hi hm hg))
 have HI3 := Lib.hid (HI3.out.below GSC.out)
 have HI4 := Lib.hid (HI4.out.below GSC.out)
 have HI5 := Lib.hid (HI5.out.below GSC.out)
 have HI7 := Lib.hid (HI7.out.below GSC.out)
 have HI8 := Lib.hid (HI8.out.below GSC.out)
 have HI9 := Lib.hid (HI9.out.below GSC.out)
 have HI10 := Lib.hid (HI10.out.below GSC.out)
 have GCC := Lib.hid (GC10.out.trans (GSC.out.mono GC10.out.size))
 go_upto_region 13 with fail
 have GX0 := Lib.hid (Below.refl VC.heap.size VC)
 have I0 := Lib.hid (Blk.intsN (l := [5, 6, 5, 7]) (n := 4) (Blk.new VC 3 #[.int .i64 5, .int .i64 6, .int .i64 5, .int .i64 7]) rfl)
 have GA0 := Lib.hid (GX0.out.trans ((one_more VC (.cells #[.int .i64 5, .int .i64 6, .int .i64 5, .int .i64 7] 3)).mono GX0.out.size))
 have S0 := Lib.hid (same_is (D := D3) (m := m3) (d := d3) HI3.out HM3.out _ GA0.out _ 4 4 I0.out (by decide))
 go_wp2_with fail
 refine (S0.out).mono ?_
 rintro e X1 ⟨rfl, hg⟩
 have GX1 := Lib.hid (GA0.out.trans (hg.mono GA0.out.size))
 clear hg
 have I1 := Lib.hid (two_tits (x := ⟨10, 0, 1⟩) (y := ⟨465, 2, 3⟩) (Blk.new X1 67 #[.int .i64 10, .int .i64 0, .int .i64 1, .int .i64 465, .int .i64 2, .int .i64 3]))
 have GA1 := Lib.hid (GX1.out.trans ((one_more X1 (.cells #[.int .i64 10, .int .i64 0, .int .i64 1, .int .i64 465, .int .i64 2, .int .i64 3] 67)).mono GX1.out.size))
 have S1 := Lib.hid (tits_is (D := D4) (m := m4) (d := d4) HI4.out HM4.out _ GA1.out _ 2 2 I1.out (by decide))
 go_wp2_with fail
 refine (S1.out).mono ?_
 rintro e X2 ⟨rfl, hg⟩
 have GX2 := Lib.hid (GA1.out.trans (hg.mono GA1.out.size))
 clear hg
 have I2 := Lib.hid (Blk.intsN (l := [2, 3]) (n := 2) (Blk.new X2 3 #[.int .i64 2, .int .i64 3]) rfl)
 have GA2 := Lib.hid (GX2.out.trans ((one_more X2 (.cells #[.int .i64 2, .int .i64 3] 3)).mono GX2.out.size))
 have S2 := Lib.hid (same_is (D := D5) (m := m5) (d := d5) HI5.out HM5.out _ GA2.out _ 2 2 I2.out (by decide))
 go_wp2_with fail
 refine (S2.out).mono ?_
 rintro e X3 ⟨rfl, hg⟩
 have GX3 := Lib.hid (GA2.out.trans (hg.mono GA2.out.size))
 clear hg
 have I3 := Lib.hid (Blk.intsN (l := [5, 6, 5, 7, 7]) (n := 5) (Blk.new X3 3 #[.int .i64 5, .int .i64 6, .int .i64 5, .int .i64 7, .int .i64 7]) rfl)
 have GA3 := Lib.hid (GX3.out.trans ((one_more X3 (.cells #[.int .i64 5, .int .i64 6, .int .i64 5, .int .i64 7, .int .i64 7] 3)).mono GX3.out.size))
 have S3 := Lib.hid (same_is (D := D7) (m := m7) (d := d7) HI7.out HM7.out _ GA3.out _ 5 5 I3.out (by decide))
 go_wp2_with fail
 refine (S3.out).mono ?_
 rintro e X4 ⟨rfl, hg⟩
 have GX4 := Lib.hid (GA3.out.trans (hg.mono GA3.out.size))
 clear hg
 have I4 := Lib.hid (Blk.intsN (l := [5, 7]) (n := 2) (Blk.new X4 3 #[.int .i64 5, .int .i64 7]) rfl)
 have GA4 := Lib.hid (GX4.out.trans ((one_more X4 (.cells #[.int .i64 5, .int .i64 7] 3)).mono GX4.out.size))
 have S4 := Lib.hid (same_is (D := D8) (m := m8) (d := d8) HI8.out HM8.out _ GA4.out _ 2 2 I4.out (by decide))
 go_wp2_with fail
 refine (S4.out).mono ?_
 rintro e X5 ⟨rfl, hg⟩
 have GX5 := Lib.hid (GA4.out.trans (hg.mono GA4.out.size))
 clear hg
 have I5 := Lib.hid (Blk.intsN (l := [3, 4]) (n := 2) (Blk.new X5 3 #[.int .i64 3, .int .i64 4]) rfl)
 have GA5 := Lib.hid (GX5.out.trans ((one_more X5 (.cells #[.int .i64 3, .int .i64 4] 3)).mono GX5.out.size))
 have S5 := Lib.hid (same_is (D := D9) (m := m9) (d := d9) HI9.out HM9.out _ GA5.out _ 2 2 I5.out (by decide))
 go_wp2_with fail
 refine (S5.out).mono ?_
 rintro e X6 ⟨rfl, hg⟩
 have GX6 := Lib.hid (GA5.out.trans (hg.mono GA5.out.size))
 clear hg
 have I6 := Lib.hid (Blk.intsN (l := [5, 7]) (n := 2) (Blk.new X6 3 #[.int .i64 5, .int .i64 7]) rfl)
 have GA6 := Lib.hid (GX6.out.trans ((one_more X6 (.cells #[.int .i64 5, .int .i64 7] 3)).mono GX6.out.size))
 have S6 := Lib.hid (same_is (D := D10) (m := m10) (d := d10) HI10.out HM10.out _ GA6.out _ 2 2 I6.out (by decide))
 go_wp2_with fail
 refine (S6.out).mono ?_
 rintro e X7 ⟨rfl, hg⟩
 have GX7 := Lib.hid (GA6.out.trans (hg.mono GA6.out.size))
 clear hg
 have I7 := Lib.hid (Blk.intsN (l := [1, 2, 7]) (n := 3) (Blk.new X7 3 #[.int .i64 1, .int .i64 2, .int .i64 7]) rfl)
 have GA7 := Lib.hid (GX7.out.trans ((one_more X7 (.cells #[.int .i64 1, .int .i64 2, .int .i64 7] 3)).mono GX7.out.size))
 have S7 := Lib.hid (same_is (D := DC) (m := mC) (d := dC) HIC.out HMC.out _ GA7.out _ 3 3 I7.out (by decide))
 go_wp2_with fail
 refine (S7.out).mono ?_
 rintro e X8 ⟨rfl, hg⟩
 have GX8 := Lib.hid (GA7.out.trans (hg.mono GA7.out.size))
 clear hg
 go_wp2_with fail
 go_ret
 exact ⟨rfl, HG0.out.trans ((GCC.out.trans (GX8.out.mono GCC.out.size)).mono HG0.out.size)⟩
end Go.Proofs.YtehhlgdkhecacaaGreat

namespace Go.Proofs.YtehhlgdkhecacaaGreat
open Go.RowKit Go.Shelf
def putP (l : List Int) (x : Int) (k : Nat) (d : Bool) : List Int := if d = true then (l.take k).filter (· < x) ++ x :: (l.take k).filter (x < ·) else l.take k
structure PutI (l : List Int) (x : Int) (k : Nat) (d : Bool) : Prop where
 ne : ∀ y ∈ l.take k, y ≠ x
 yes : d = true → ∃ y, y ∈ l.take k ∧ x < y
 no : d = false → ∀ y ∈ l.take k, y < x
theorem PutI.nil (l : List Int) (x : Int) : PutI l x 0 false := ⟨fun y h => (by simp at h), fun h => (by cases h), fun _ y h => (by simp at h)⟩
section
variable {l : List Int} {x : Int} {k : Nat}
theorem fil_lt (h : ∀ y ∈ l, y < x) : l.filter (· < x) = l ∧ l.filter (x < ·) = [] :=
 ⟨List.filter_eq_self.2 fun y hy => by simpa using h y hy, List.filter_eq_nil_iff.2 fun y hy => by have := h y hy; simp; omega⟩
theorem PutI.s1 (h : PutI l x k false) (hk : k < l.length) (hx : x < l.getD k 0) : PutI l x (k + 1) true ∧ putP l x (k + 1) true = (putP l x k false ++ [x]) ++ [l.getD k 0] := by
 have ht := take_snoc (d := 0) hk
 obtain ⟨e1, e2⟩ := fil_lt (h.no rfl)
 constructor
 ·refine ⟨fun y hy => ?_, fun _ => ⟨l.getD k 0, by rw [ht]; simp, hx⟩, fun h => (by cases h)⟩
  rw [ht, List.mem_append, List.mem_singleton] at hy
  rcases hy with hy | rfl
  ·exact h.ne y hy
  ·omega
 ·unfold putP
  rw [if_pos rfl, if_neg (by decide), ht, List.filter_append, List.filter_append, e1, e2, List.filter_cons_of_neg (by rw [decide_eq_true_eq]; omega), List.filter_cons_of_pos (by rw [decide_eq_true_eq]; omega)]
  simp
theorem PutI.s2 (h : PutI l x k false) (hk : k < l.length) (hx : l.getD k 0 < x) : PutI l x (k + 1) false ∧ putP l x (k + 1) false = putP l x k false ++ [l.getD k 0] := by
 have ht := take_snoc (d := 0) hk
 refine ⟨⟨fun y hy => ?_, fun h => (by cases h), fun _ y hy => ?_⟩, by unfold putP; rw [if_neg (by decide), if_neg (by decide), ht]⟩
 ·rw [ht, List.mem_append, List.mem_singleton] at hy
  rcases hy with hy | rfl
  ·exact h.ne y hy
  ·omega
 ·rw [ht, List.mem_append, List.mem_singleton] at hy
  rcases hy with hy | rfl
  ·exact h.no rfl y hy
  ·exact hx
theorem PutI.s3 (hp : l.Pairwise (· < ·)) (h : PutI l x k true) (hk : k < l.length) : PutI l x (k + 1) true ∧ putP l x (k + 1) true = putP l x k true ++ [l.getD k 0] ∧ x < l.getD k 0 := by
 have ht := take_snoc (d := 0) hk
 obtain ⟨z, hz, hxz⟩ := h.yes rfl
 have hzl : z < l.getD k 0 := by
  have h2 := hp
  rw [← List.take_append_drop k l, List.pairwise_append] at h2
  refine h2.2.2 z hz _ ?_
  rw [List.drop_eq_getElem_cons hk, List.getD_eq_getElem?_getD, List.getElem?_eq_getElem hk]
  exact List.mem_cons_self
 refine ⟨⟨fun y hy => ?_, fun _ => ⟨z, by rw [ht]; simp [hz], hxz⟩, fun h => (by cases h)⟩, ?_, by omega⟩
 ·rw [ht, List.mem_append, List.mem_singleton] at hy
  rcases hy with hy | rfl
  ·exact h.ne y hy
  ·omega
 ·unfold putP
  rw [if_pos rfl, if_pos rfl, ht, List.filter_append, List.filter_append, List.filter_cons_of_neg (by rw [decide_eq_true_eq]; omega), List.filter_cons_of_pos (by rw [decide_eq_true_eq]; omega)]
  simp
theorem PutI.fin (h : PutI l x l.length true) : putP l x l.length true = putI l x := by
 have hm : x ∉ l := fun hm => h.ne x (by rw [List.take_length]; exact hm) rfl
 unfold putP putI
 rw [if_pos rfl, if_neg hm, List.take_length]
theorem PutI.fin0 (h : PutI l x l.length false) : putP l x l.length false ++ [x] = putI l x := by
 have hm : x ∉ l := fun hm => h.ne x (by rw [List.take_length]; exact hm) rfl
 have h2 := h.no rfl
 rw [List.take_length] at h2
 obtain ⟨e1, e2⟩ := fil_lt h2
 unfold putP putI
 rw [if_neg (by decide), if_neg hm, List.take_length, e1, e2]
theorem putI_in (h : x ∈ l) : putI l x = l := by unfold putI; rw [if_pos h]
theorem putP_len (hk : k ≤ l.length) (d : Bool) : (putP l x k d).length ≤ 2 * l.length + 1 := by
 unfold putP
 split
 ·rw [List.length_append, List.length_cons]
  have h1 := List.length_filter_le (· < x) (l.take k)
  have h2 := List.length_filter_le (x < ·) (l.take k)
  rw [List.length_take] at h1 h2
  omega
 ·rw [List.length_take]; omega
end
theorem own_empty {α : Type} {f : α → List Value} {size : Nat} {e : TypeId} (hf : ∀ x, (f x).length = size) (W : World) {base : Nat} (hb : base ≤ W.heap.size) : OwnL f size e (W.alloc (.cells #[] e)) base (.slice (some ⟨W.heap.size, 0, none⟩) 0 0) [] :=
 own_mk hf rfl hb (Blk.new W e #[]) (Nat.le_refl _) (Nat.zero_le _) (by simp) (by simp)
set_option maxRecDepth 100000 in
set_option maxHeartbeats 8000000 in
theorem refPut_any (A : Option Addr) (n c : Nat) (l : List Int) (x : Int) (w : World) (ha : Ints w A n l) (hn : n ≤ 1000) (hp : l.Pairwise (· < ·)) :
  Calls Tryz.prog 42 #[.slice A n c, .int .i64 x] w fun e w' => (∃ v, e = .returned v ∧ OwnL icells 1 3 w' w.heap.size v (putI l x)) ∧ Below w.heap.size w w' := by
 have HA := Lib.hid ha
 have HLN := Lib.hid ha.1
 have HUP := Lib.hid hp
 have HIN := Lib.hid (fun (h : x ∈ l) => putI_in h)
 have HF1 := Lib.hid (fun (h : PutI l x n true) => (show putP l x n true = putI l x by have := ha.1; subst this; exact h.fin))
 have HF0 := Lib.hid (fun (h : PutI l x n false) => (show putP l x n false ++ [x] = putI l x by have := ha.1; subst this; exact h.fin0))
 have HPL := Lib.hid (fun k d (hk : k ≤ n) => (show (putP l x k d).length ≤ 2001 by have := putP_len (l := l) (x := x) (k := k) (by rw [ha.1]; exact hk) d; have := ha.1; omega))
 have HO0 := Lib.hid (OwnL.nil (f := icells) (size := 1) (e := 3) w w.heap.size)
 have HZ := Lib.hid (Below.refl w.heap.size w)
 obtain ⟨rs, hrs⟩ : ∃ r, putI l x = r := ⟨_, rfl⟩
 rw [hrs] at HIN HF1 HF0 ⊢
 clear hrs ha hp
 go_enter Tryz.func42, Tryz.ntmps42
 go_wp2_with fail
 go_loopw [5, 6, 7] (fun v d i wr => ∃ (k : Nat) (b : Bool), d = .bool b ∧ i = .int .i64 k ∧ k ≤ n ∧ Below w.heap.size w wr ∧ OwnL icells 1 3 wr w.heap.size v (putP l x k b) ∧ PutI l x k b) (fun _ _ i _ => n - (intOf i).toNat)
 case atStart => exact ⟨0, false, rfl, rfl, Nat.zero_le _, HZ.out, HO0.out, PutI.nil l x⟩
 case round =>
  obtain ⟨k, d, rfl, rfl, hk, hg, ho, hi⟩ := hrel
  have HG := Lib.hid hg
  have HO := Lib.hid ho
  have HI := Lib.hid hi
  have HL := Lib.hid (HPL.out k d hk)
  have hwr2 : wrap64 ((k : Int) + 1) = (k : Int) + 1 := wrap_in (by omega)
  obtain ⟨acc, hacc⟩ : ∃ a, putP l x k d = a := ⟨_, rfl⟩
  have HACC := Lib.hid hacc
  rw [hacc] at HO HL
  clear ho hi hacc
  by_cases hkn : k < n
  ·obtain ⟨b0, o0, rfl, -, hm, hc⟩ := ints_at (HA.out.below hg) hkn
   have HM := Lib.hid hm
   obtain ⟨y, hy⟩ : ∃ y, l.getD k 0 = y := ⟨_, rfl⟩
   have HKL := Lib.hid (show k < l.length by rw [HLN.out]; exact hkn)
   rw [hy] at hc HM
   have HY := Lib.hid hy
   have x0 := hc _ (Below.refl _ _)
   have YV := Lib.hid (fun (V : World) (g : Below w.heap.size w V) => (show V.cell? ⟨b0, o0 + k, none⟩ = some (.int .i64 y) by
    obtain ⟨b9, o9, e9, -, -, h9⟩ := ints_at (HA.out.below g) hkn
    cases e9
    have := h9 _ (Below.refl _ _)
    rwa [HY.out] at this))
   clear hc hy hm
   by_cases hxy : y = x
   ·have e1 : (y == x) = true := beq_iff_eq.2 hxy
    have HR := Lib.hid (HIN.out (by rw [← hxy]; exact List.mem_of_getElem? HM.out))
    have OE := Lib.hid (own_empty (f := icells) (size := 1) (e := 3) icells_len wr (base := w.heap.size) hg.size)
    have GE := Lib.hid (one_more wr (.cells #[] 3))
    have HAE := Lib.hid ((HA.out.below hg).below GE.out)
    clear hxy hg
    go_wp2_with (first | (at_builtin; (refine wpList_app kdI (by rfl) _ _ (by rfl) w.heap.size _ [] (by rfl) OE.out _ n c l (by rfl) HAE.out (by show 0 + n ≤ 1000000; omega) (Nat.le_trans HG.out.size GE.out.size) ?_); intro v' w' ho hgr hz; have HO2 := Lib.hid ho; have GV := Lib.hid ((HG.out.trans (GE.out.mono HG.out.size)).trans (OE.out.below hgr (Nat.le_refl _) (Nat.le_trans HG.out.size GE.out.size))); clear ho hgr hz))
    go_ret
    exact ⟨⟨_, rfl, by rw [HR.out]; exact HO2.out⟩, GV.out⟩
   ·have e1 : (y == x) = false := beq_eq_false_iff_ne.2 hxy
    have HNE := Lib.hid hxy
    clear hxy hg
    cases d with
    | false =>
     by_cases hlt : x < y
     ·have S := Lib.hid (show PutI l x (k + 1) true ∧ putP l x (k + 1) true = (acc ++ [x]) ++ [y] by have := HI.out.s1 HKL.out (by rw [HY.out]; exact hlt); rwa [HACC.out, HY.out] at this)
      have GX := Lib.hid (one_more wr (.cells #[.int .i64 x] 3))
      have IX := Lib.hid (one_int (Blk.new wr 3 #[.int .i64 x]))
      have OX := Lib.hid (HO.out.ext GX.out)
      have HS := Lib.hid (Nat.le_trans HG.out.size GX.out.size)
      go_wp2_with (first
       | (at_builtin; (refine wpList_app kdI (by rfl) _ _ (by rfl) w.heap.size _ acc (by rfl) OX.out _ 1 1 [x] (by rfl) IX.out (by have := HL.out; omega) HS.out ?_); intro v1 w1 ho hgr hz; have HO1 := Lib.hid ho; have GV1 := Lib.hid ((HG.out.trans (GX.out.mono HG.out.size)).trans (OX.out.below hgr (Nat.le_refl _) HS.out)); have x1 := YV.out w1 GV1.out; have GY := Lib.hid (one_more w1 (.cells #[.int .i64 y] 3)); have IY := Lib.hid (one_int (Blk.new w1 3 #[.int .i64 y])); have OY := Lib.hid (ho.ext GY.out); have HS2 := Lib.hid (Nat.le_trans GV1.out.size GY.out.size); clear ho hgr hz)
       | (at_builtin; (refine wpList_app kdI (by rfl) _ _ (by rfl) w.heap.size _ (acc ++ [x]) (by rfl) OY.out _ 1 1 [y] (by rfl) IY.out (by have := HL.out; rw [List.length_append, List.length_singleton]; omega) HS2.out ?_); intro v2 w2 ho hgr hz; have HO2 := Lib.hid ho; have GV2 := Lib.hid ((GV1.out.trans (GY.out.mono GV1.out.size)).trans (OY.out.below hgr (Nat.le_refl _) HS2.out)); clear ho hgr hz))
      go_roundw
      case rel => exact ⟨k + 1, true, rfl, rfl, by omega, GV2.out, by rw [S.out.2]; exact HO2.out, S.out.1⟩
      case measure => simp only [intOf]; omega
     ·have S := Lib.hid (show PutI l x (k + 1) false ∧ putP l x (k + 1) false = acc ++ [y] by have := HI.out.s2 HKL.out (by rw [HY.out]; have := HNE.out; omega); rwa [HACC.out, HY.out] at this)
      have GX := Lib.hid (one_more wr (.cells #[.int .i64 y] 3))
      have IX := Lib.hid (one_int (Blk.new wr 3 #[.int .i64 y]))
      have OX := Lib.hid (HO.out.ext GX.out)
      have HS := Lib.hid (Nat.le_trans HG.out.size GX.out.size)
      go_wp2_with (first
       | (at_builtin; (refine wpList_app kdI (by rfl) _ _ (by rfl) w.heap.size _ acc (by rfl) OX.out _ 1 1 [y] (by rfl) IX.out (by have := HL.out; omega) HS.out ?_); intro v1 w1 ho hgr hz; have HO2 := Lib.hid ho; have GV2 := Lib.hid ((HG.out.trans (GX.out.mono HG.out.size)).trans (OX.out.below hgr (Nat.le_refl _) HS.out)); clear ho hgr hz))
      go_roundw
      case rel => exact ⟨k + 1, false, rfl, rfl, by omega, GV2.out, by rw [S.out.2]; exact HO2.out, S.out.1⟩
      case measure => simp only [intOf]; omega
    | true =>
      have S := Lib.hid (show PutI l x (k + 1) true ∧ putP l x (k + 1) true = acc ++ [y] by have := HI.out.s3 HUP.out HKL.out; rw [HACC.out, HY.out] at this; exact ⟨this.1, this.2.1⟩)
      have GX := Lib.hid (one_more wr (.cells #[.int .i64 y] 3))
      have IX := Lib.hid (one_int (Blk.new wr 3 #[.int .i64 y]))
      have OX := Lib.hid (HO.out.ext GX.out)
      have HS := Lib.hid (Nat.le_trans HG.out.size GX.out.size)
      go_wp2_with (first
       | (at_builtin; (refine wpList_app kdI (by rfl) _ _ (by rfl) w.heap.size _ acc (by rfl) OX.out _ 1 1 [y] (by rfl) IX.out (by have := HL.out; omega) HS.out ?_); intro v1 w1 ho hgr hz; have HO2 := Lib.hid ho; have GV2 := Lib.hid ((HG.out.trans (GX.out.mono HG.out.size)).trans (OX.out.below hgr (Nat.le_refl _) HS.out)); clear ho hgr hz))
      go_roundw
      case rel => exact ⟨k + 1, true, rfl, rfl, by omega, GV2.out, by rw [S.out.2]; exact HO2.out, S.out.1⟩
      case measure => simp only [intOf]; omega
  ·obtain rfl : k = n := by omega
   clear hg
   cases d with
   | true =>
    have HR := Lib.hid (show acc = rs by rw [← HACC.out]; exact HF1.out HI.out)
    go_wp2_with fail
    go_ret
    exact ⟨⟨_, rfl, by rw [← HR.out]; exact HO.out⟩, HG.out⟩
   | false =>
    have HR := Lib.hid (show acc ++ [x] = rs by rw [← HACC.out]; exact HF0.out HI.out)
    have GX := Lib.hid (one_more wr (.cells #[.int .i64 x] 3))
    have IX := Lib.hid (one_int (Blk.new wr 3 #[.int .i64 x]))
    have OX := Lib.hid (HO.out.ext GX.out)
    have HS := Lib.hid (Nat.le_trans HG.out.size GX.out.size)
    go_wp2_with (first
       | (at_builtin; (refine wpList_app kdI (by rfl) _ _ (by rfl) w.heap.size _ acc (by rfl) OX.out _ 1 1 [x] (by rfl) IX.out (by have := HL.out; omega) HS.out ?_); intro v1 w1 ho hgr hz; have HO1 := Lib.hid ho; have GV1 := Lib.hid ((HG.out.trans (GX.out.mono HG.out.size)).trans (OX.out.below hgr (Nat.le_refl _) HS.out)); clear ho hgr hz))
    go_ret
    exact ⟨⟨_, rfl, by rw [← HR.out]; exact HO1.out⟩, GV1.out⟩
end Go.Proofs.YtehhlgdkhecacaaGreat

namespace Go.Proofs.YtehhlgdkhecacaaGreat
open Go.RowKit Go.Shelf
def rcells (x : Ra) : List Value := [.int .i64 x.kind, .int .i64 x.per, .int .i64 x.ots, .int .i64 x.oth, .int .i64 x.par, .int .i64 x.day, .int .i64 x.long, .int .i64 x.kno, .int .i64 x.unt]
abbrev rb (x : Ra) : Array Value := #[.int .i64 x.kind, .int .i64 x.per, .int .i64 x.ots, .int .i64 x.oth, .int .i64 x.par, .int .i64 x.day, .int .i64 x.long, .int .i64 x.kno, .int .i64 x.unt]
theorem raw_at {w : World} {A : Option Addr} {n : Nat} {l : List Ra} (h : Arr rcells 9 w A n l) {k : Nat} (hk : k < n) :
  ∃ b o, A = some ⟨b, o, none⟩ ∧ ∀ w', Below w.heap.size w w' → w'.cell? ⟨b, o + k * 9, none⟩ = some (.int .i64 (l.getD k r0).kind) ∧ w'.cell? ⟨b, o + k * 9 + 1, none⟩ = some (.int .i64 (l.getD k r0).per) ∧ w'.cell? ⟨b, o + k * 9 + 2, none⟩ = some (.int .i64 (l.getD k r0).ots) ∧ w'.cell? ⟨b, o + k * 9 + 3, none⟩ = some (.int .i64 (l.getD k r0).oth) ∧ w'.cell? ⟨b, o + k * 9 + 4, none⟩ = some (.int .i64 (l.getD k r0).par) ∧
   w'.cell? ⟨b, o + k * 9 + 5, none⟩ = some (.int .i64 (l.getD k r0).day) ∧ w'.cell? ⟨b, o + k * 9 + 6, none⟩ = some (.int .i64 (l.getD k r0).long) ∧ w'.cell? ⟨b, o + k * 9 + 7, none⟩ = some (.int .i64 (l.getD k r0).kno) ∧ w'.cell? ⟨b, o + k * 9 + 8, none⟩ = some (.int .i64 (l.getD k r0).unt) := by
 obtain ⟨b, o, x, rfl, -, hx, hc⟩ := h.at hk
 have e : l.getD k r0 = x := by rw [List.getD_eq_getElem?_getD, hx]; rfl
 rw [e]
 exact ⟨b, o, rfl, fun w' hw => ⟨hc w' hw 0 _ rfl, hc w' hw 1 _ rfl, hc w' hw 2 _ rfl, hc w' hw 3 _ rfl, hc w' hw 4 _ rfl, hc w' hw 5 _ rfl, hc w' hw 6 _ rfl, hc w' hw 7 _ rfl, hc w' hw 8 _ rfl⟩⟩
/-- A number of Go's. -/
def I64 (n : Int) : Prop := -9223372036854775808 ≤ n ∧ n ≤ 9223372036854775807
/-- Numbers of Go's throughout: one of them is divided. -/
def RaOk (x : Ra) : Prop := I64 x.unt
theorem ints_grown {w w' : World} {n : Nat} {A : Option Addr} {l : List Int} {row : Option Nat} (h : Ints w A n l) (hne : ∀ a, A = some a → row ≠ some a.block) (g : w.grownBy w' row) : Ints w' A n l := by
 refine ⟨h.1, fun h0 => ?_⟩
 obtain ⟨b, o, rfl, hb, hc⟩ := h.2 h0
 have hbg : row ≠ some b := hne _ rfl
 exact ⟨b, o, rfl, Nat.lt_of_lt_of_le hb g.size, fun k x hx j u hu => (World.cell?_of_block (a := ⟨b, o + k * 1 + j, none⟩) (g.block b hb fun e => hbg e.symm)).trans (hc k x hx j u hu)⟩
/-- Two lists of one's own: proofs whose persons lie elsewhere, and numbers. -/
structure Md (w W : World) (v u : Value) (ls : List Pf) (ts : List Int) : Prop where
 g : Below w.heap.size w W
 o1 : OwnL pcells 9 56 W w.heap.size v ls
 o2 : OwnL icells 1 3 W w.heap.size u ts
 per : ∀ p ∈ ls, PI W p ∧ ∀ a, p.A = some a → v.ownBlock ≠ some a.block ∧ u.ownBlock ≠ some a.block ∧ a.block < W.heap.size
 low : ∀ p ∈ ls, ∀ a, p.A = some a → w.heap.size ≤ a.block
section
variable {w W W2 : World} {v u v' : Value} {ls : List Pf} {ts : List Int}
theorem Md.nil (w : World) : Md w w (.slice none 0 0) (.slice none 0 0) [] [] := ⟨Below.refl _ _, OwnL.nil _ _, OwnL.nil _ _, fun p hp => (by cases hp), fun p hp => (by cases hp)⟩
theorem Md.ext (h : Md w W v u ls ts) (k : Below W.heap.size W W2) : Md w W2 v u ls ts :=
 ⟨h.g.trans (k.mono h.g.size), h.o1.ext k, h.o2.ext k, fun p hp => ⟨(h.per p hp).1.below k, fun a e => by
  obtain ⟨h1, h2, h3⟩ := (h.per p hp).2 a e
  exact ⟨h1, h2, Nat.lt_of_lt_of_le h3 k.size⟩⟩, h.low⟩
theorem own_lt2 {α : Type} {f : α → List Value} {size : Nat} {e : TypeId} {w : World} {base : Nat} {v : Value} {xs : List α} (h : OwnL f size e w base v xs) {k : Nat} (hk : v.ownBlock = some k) : k < w.heap.size := by
 obtain ⟨-, cur, hc⟩ := own_block h hk
 exact hc.lt
theorem Md.diff (h : Md w W v u ls ts) : ∀ k, v.ownBlock = some k → u.ownBlock ≠ some k := fun k h1 h2 => by
 obtain ⟨-, c1, b1⟩ := own_block h.o1 h1
 obtain ⟨-, c2, b2⟩ := own_block h.o2 h2
 exact absurd (blk_type b1 b2) (by decide)
theorem Md.add1 (h : Md w W v u ls ts) {p : Pf} (hp : PI W p) (hne : ∀ a, p.A = some a → v.ownBlock ≠ some a.block ∧ u.ownBlock ≠ some a.block ∧ a.block < W.heap.size) (hlo : ∀ a, p.A = some a → w.heap.size ≤ a.block) (ho : OwnL pcells 9 56 W2 w.heap.size v' (ls ++ [p])) (hg : W.grownBy W2 v.ownBlock)
  (hz : v'.ownBlock = v.ownBlock ∨ v'.ownBlock = some W.heap.size) : Md w W2 v' u (ls ++ [p]) ts := by
 have hall : ∀ q ∈ ls ++ [p], PI W q ∧ ∀ a, q.A = some a → v.ownBlock ≠ some a.block ∧ u.ownBlock ≠ some a.block ∧ a.block < W.heap.size := fun q hq => by
  rw [List.mem_append, List.mem_singleton] at hq
  rcases hq with hq | rfl
  ·exact h.per q hq
  ·exact ⟨hp, hne⟩
 refine ⟨h.g.trans (h.o1.below hg (Nat.le_refl _) h.g.size), ho, World.ownsRow.kept h.o2 hg ?_, fun q hq => ?_, fun q hq => ?_⟩
 ·cases e : u.ownBlock with
  | none => exact .inl rfl
  | some k => exact .inr fun e2 => h.diff k e2.symm e
 ·obtain ⟨h1, h2⟩ := hall q hq
  refine ⟨⟨ints_grown h1.i (fun a e => (h2 a e).1) hg, h1.m⟩, fun a e => ?_⟩
  obtain ⟨k1, k2, k3⟩ := h2 a e
  refine ⟨?_, k2, Nat.lt_of_lt_of_le k3 hg.size⟩
  rcases hz with hz | hz
  ·rw [hz]; exact k1
  ·rw [hz]; intro e2; have := Option.some.inj e2; omega
 ·rw [List.mem_append, List.mem_singleton] at hq
  rcases hq with hq | rfl
  ·exact h.low q hq
  ·exact hlo
theorem Md.add2 (h : Md w W v u ls ts) {t : Int} (ho : OwnL icells 1 3 W2 w.heap.size v' (ts ++ [t])) (hg : W.grownBy W2 u.ownBlock) (hz : v'.ownBlock = u.ownBlock ∨ v'.ownBlock = some W.heap.size) : Md w W2 v v' ls (ts ++ [t]) := by
 refine ⟨h.g.trans (h.o2.below hg (Nat.le_refl _) h.g.size), World.ownsRow.kept h.o1 hg ?_, ho, fun q hq => ?_, h.low⟩
 ·cases e : v.ownBlock with
  | none => exact .inl rfl
  | some k => exact .inr fun e2 => h.diff k e e2.symm
 ·obtain ⟨h1, h2⟩ := h.per q hq
  refine ⟨⟨ints_grown h1.i (fun a e => (h2 a e).2.1) hg, h1.m⟩, fun a e => ?_⟩
  obtain ⟨k1, k2, k3⟩ := h2 a e
  refine ⟨k1, ?_, Nat.lt_of_lt_of_le k3 hg.size⟩
  rcases hz with hz | hz
  ·rw [hz]; exact k2
  ·rw [hz]; intro e2; have := Option.some.inj e2; omega
theorem Md.prf (h : Md w W v u ls ts) : ∃ A c, v = .slice A ls.length c ∧ ls.length ≤ c ∧ c ≤ maxLen ∧ Prf W A ls.length ls := own_prf h.o1 fun p hp => (h.per p hp).1
end
/-- A store elsewhere. -/
theorem OwnL.off {α : Type} {f : α → List Value} {size : Nat} {e : TypeId} {w : World} {base : Nat} {v : Value} {xs : List α} (h : OwnL f size e w base v xs) {b o : Nat} (hb : v.ownBlock ≠ some b) (u : Value) : OwnL f size e (w.setCell ⟨b, o, none⟩ u) base v xs :=
 World.ownsRow.kept h (fix_grown ((Fix.refl b b w).setCell (p := ⟨b, o, none⟩) (.inl rfl) u)) (.inr hb)
theorem own_ne {α : Type} {f : α → List Value} {size : Nat} {e t : TypeId} {w : World} {base : Nat} {v : Value} {xs : List α} (h : OwnL f size e w base v xs) {b : Nat} {cs : Array Value} (hb : Blk w b t cs) (hne : e ≠ t) : v.ownBlock ≠ some b := fun e2 => by
 obtain ⟨-, c1, b1⟩ := own_block h e2
 exact hne (blk_type b1 hb)
/-- A proof in a box, its persons a list of one's own. -/
structure Bx (w W : World) (b : Nat) (p : Pf) : Prop where
 g : Below w.heap.size w W
 bk : Blk W b 56 (pb p)
 o : OwnL icells 1 3 W w.heap.size (.slice p.A p.n p.c) p.q.per
 lo : w.heap.size ≤ b
theorem Bx.pi {w W : World} {b : Nat} {p : Pf} (h : Bx w W b p) (hp : p.q.per.length ≤ 1000) : PI W p ∧ ∀ a, p.A = some a → w.heap.size ≤ a.block ∧ a.block < W.heap.size := by
 obtain ⟨A', c', e, h1, h2, h3, h4⟩ := OwnL.arr kdI h.o
 simp only [Value.slice.injEq] at e
 obtain ⟨e1, e2, e3⟩ := e
 rw [← e1, ← e2] at h3
 refine ⟨⟨h3, by unfold maxLen at h2; omega⟩, fun a e => ?_⟩
 have hob : (Value.slice p.A p.n p.c).ownBlock = some a.block := by rw [e]; rfl
 exact ⟨(own_block h.o hob).1, own_lt2 h.o hob⟩
theorem Bx.ext {w W W2 : World} {b : Nat} {p : Pf} (h : Bx w W b p) (k : Below W.heap.size W W2) : Bx w W2 b p := ⟨h.g.trans (k.mono h.g.size), h.bk.ext k, h.o.ext k, h.lo⟩
/-- A store into the box. -/
theorem Bx.set {w W : World} {b : Nat} {p p' : Pf} (h : Bx w W b p) (i : Nat) (u : Value) (hc : (pb p).setIfInBounds i u = pb p') (hA : p'.A = p.A ∧ p'.n = p.n ∧ p'.c = p.c ∧ p'.q.per = p.q.per) : Bx w (W.setCell ⟨b, i, none⟩ u) b p' :=
 ⟨h.g.setCell (p := ⟨b, i, none⟩) h.lo u, by rw [← hc]; exact h.bk.set_ i u, by rw [hA.1, hA.2.1, hA.2.2.1, hA.2.2.2]; exact h.o.off (own_ne h.o h.bk (by decide)) u, h.lo⟩
/-- Another list of persons. -/
theorem Bx.per {w W W2 : World} {b : Nat} {p : Pf} (h : Bx w W b p) (k : Below W.heap.size W W2) {A : Option Addr} {n c : Nat} {l : List Int} (o : OwnL icells 1 3 W2 W.heap.size (.slice A n c) l) :
  Bx w (W2.setCell ⟨b, 2, none⟩ (.slice A n c)) b ⟨{ p.q with per := l }, A, n, c⟩ :=
 ⟨(h.g.trans (k.mono h.g.size)).setCell (p := ⟨b, 2, none⟩) h.lo _, (h.bk.ext k).set_ 2 _, (o.mono h.g.size).off (own_ne o (h.bk.ext k) (by decide)) _, h.lo⟩
end Go.Proofs.YtehhlgdkhecacaaGreat

namespace Go.Proofs.YtehhlgdkhecacaaGreat
open Go.RowKit Go.Shelf
def servK (k : Int) : Bool := decide (k = 3) || decide (k = 5)
theorem kind4 (k : Int) : ((k == 1) = true ∧ servK k = false ∧ (k == 8) = false) ∨ ((k == 1) = false ∧ servK k = true ∧ (k == 8) = false) ∨ ((k == 1) = false ∧ servK k = false ∧ (k == 8) = true) ∨ ((k == 1) = false ∧ servK k = false ∧ (k == 8) = false) := by
 by_cases h1 : k = 1
 ·subst h1; exact .inl ⟨rfl, rfl, rfl⟩
 ·have e1 : (k == 1) = false := beq_eq_false_iff_ne.2 h1
  by_cases h8 : k = 8
  ·subst h8; exact .inr (.inr (.inl ⟨rfl, rfl, rfl⟩))
  ·have e8 : (k == 8) = false := beq_eq_false_iff_ne.2 h8
   cases h : servK k
   ·exact .inr (.inr (.inr ⟨e1, rfl, e8⟩))
   ·exact .inr (.inl ⟨e1, rfl, e8⟩)
def oddR (a1 b1 a8 b8 wa wb lba lab t1 t2 pn ia ib : Bool) : Bool :=
 if (a1 && b1 || a1 && lba || b1 && lab) = true then true else if (wa && wb && t1 && t2) = true then true else if (a8 && wb) = true then pn && ia else if (b8 && wa) = true then pn && ib else false
theorem odds_R (x y : Qf) : oddsB x y = oddR (x.kind == 1) (y.kind == 1) (x.kind == 8) (y.kind == 8) (servK x.kind) (servK y.kind) (decide (y.day < x.day)) (decide (x.day < y.day)) (decide (x.day ≤ y.thr)) (decide (y.day ≤ x.thr)) (x.par != y.par) (rng x.day y.day y.thr) (rng y.day x.day x.thr) := by
 have e1 : ∀ k : Int, (k == 1) = decide (k = 1) := fun k => by by_cases h : k = 1 <;> simp [h]
 have e8 : ∀ k : Int, (k == 8) = decide (k = 8) := fun k => by by_cases h : k = 8 <;> simp [h]
 have hk : ∀ q : Qf, servB q = servK q.kind := fun q => rfl
 unfold oddsB ruleB birthB servicB examB
 have hx := kind4 x.kind
 have hy := kind4 y.kind
 rw [hk x, hk y]
 have hp : decide (y.par ≠ x.par) = (x.par != y.par) := by
  by_cases h : x.par = y.par
  ·rw [h]; simp
  ·have h2 : y.par ≠ x.par := fun e => h e.symm
   simp [h, h2]
 have hp2 : decide (x.par ≠ y.par) = (x.par != y.par) := by
  by_cases h : x.par = y.par
  ·rw [h]; simp
  ·simp [h]
 rw [hp, hp2]
 generalize decide (y.day < x.day) = lba
 generalize decide (x.day < y.day) = lab
 generalize decide (x.day ≤ y.thr) = t1
 generalize decide (y.day ≤ x.thr) = t2
 generalize rng x.day y.day y.thr = ia
 generalize rng y.day x.day x.thr = ib
 generalize (x.par != y.par) = pn
 simp only [e1, e8, decide_eq_true_eq, decide_eq_false_iff_not] at hx hy
 simp only [e1, e8]
 rcases hx with ⟨h1, h2, h3⟩ | ⟨h1, h2, h3⟩ | ⟨h1, h2, h3⟩ | ⟨h1, h2, h3⟩ <;> rcases hy with ⟨g1, g2, g3⟩ | ⟨g1, g2, g3⟩ | ⟨g1, g2, g3⟩ | ⟨g1, g2, g3⟩ <;> simp only [h1, h2, h3, g1, g2, g3, oddR] <;> (try rfl) <;> cases lba <;> cases lab <;> cases t1 <;> cases t2 <;> cases pn <;> cases ia <;> cases ib <;> rfl
set_option maxRecDepth 100000 in
set_option maxHeartbeats 16000000 in
theorem refOdds_any (x y : Pf) (w : World) : Calls Tryz.prog 140 #[pv x, pv y] w fun e w' => e = .returned (.bool (oddsB x.q y.q)) ∧ Below w.heap.size w w' := by
 obtain ⟨W1, hW1⟩ : ∃ X, (w.alloc (.cells #[.int .i64 x.q.src, .int .i64 x.q.kind, .slice x.A x.n x.c, .int .i64 x.q.oth, .int .i64 x.q.par, .int .i64 x.q.day, .int .i64 x.q.thr, .int .i64 x.q.kno, .int .i64 x.q.unt] 56)).alloc (.cells #[.int .i64 y.q.src, .int .i64 y.q.kind, .slice y.A y.n y.c, .int .i64 y.q.oth, .int .i64 y.q.par, .int .i64 y.q.day, .int .i64 y.q.thr, .int .i64 y.q.kno, .int .i64 y.q.unt] 56) = X := ⟨_, rfl⟩
 have G1 := Lib.hid (show Below w.heap.size w W1 by rw [← hW1]; exact two_more _ _ _)
 have BX := Lib.hid (show Blk W1 w.heap.size 56 #[.int .i64 x.q.src, .int .i64 x.q.kind, .slice x.A x.n x.c, .int .i64 x.q.oth, .int .i64 x.q.par, .int .i64 x.q.day, .int .i64 x.q.thr, .int .i64 x.q.kno, .int .i64 x.q.unt] by rw [← hW1]; exact (Blk.new _ _ _).alloc _)
 have BY := Lib.hid (show Blk W1 (w.heap.size + 1) 56 #[.int .i64 y.q.src, .int .i64 y.q.kind, .slice y.A y.n y.c, .int .i64 y.q.oth, .int .i64 y.q.par, .int .i64 y.q.day, .int .i64 y.q.thr, .int .i64 y.q.kno, .int .i64 y.q.unt] by
  rw [← hW1]
  have := Blk.new (w.alloc (.cells #[.int .i64 x.q.src, .int .i64 x.q.kind, .slice x.A x.n x.c, .int .i64 x.q.oth, .int .i64 x.q.par, .int .i64 x.q.day, .int .i64 x.q.thr, .int .i64 x.q.kno, .int .i64 x.q.unt] 56)) 56 #[.int .i64 y.q.src, .int .i64 y.q.kind, .slice y.A y.n y.c, .int .i64 y.q.oth, .int .i64 y.q.par, .int .i64 y.q.day, .int .i64 y.q.thr, .int .i64 y.q.kno, .int .i64 y.q.unt]
  rwa [World.size_alloc] at this)
 have HW1 := Lib.hid hW1
 clear hW1
 rw [odds_R]
 have hx := kind4 x.q.kind
 have hy := kind4 y.q.kind
 have TX := fun W => works_any x.q.kind W
 have TY := fun W => works_any y.q.kind W
 have TA := fun W => in_any x.q.day y.q.day y.q.thr W
 have TB := fun W => in_any y.q.day x.q.day x.q.thr W
 rw [show (decide (x.q.kind = 3) || decide (x.q.kind = 5)) = servK x.q.kind from rfl] at TX
 rw [show (decide (y.q.kind = 3) || decide (y.q.kind = 5)) = servK y.q.kind from rfl] at TY
 obtain ⟨a1, ha1⟩ : ∃ b, (x.q.kind == 1) = b := ⟨_, rfl⟩
 obtain ⟨b1, hb1⟩ : ∃ b, (y.q.kind == 1) = b := ⟨_, rfl⟩
 obtain ⟨a8, ha8⟩ : ∃ b, (x.q.kind == 8) = b := ⟨_, rfl⟩
 obtain ⟨b8, hb8⟩ : ∃ b, (y.q.kind == 8) = b := ⟨_, rfl⟩
 obtain ⟨lba, hlba⟩ : ∃ b, decide (y.q.day < x.q.day) = b := ⟨_, rfl⟩
 obtain ⟨lab, hlab⟩ : ∃ b, decide (x.q.day < y.q.day) = b := ⟨_, rfl⟩
 obtain ⟨t1, ht1⟩ : ∃ b, decide (x.q.day ≤ y.q.thr) = b := ⟨_, rfl⟩
 obtain ⟨t2, ht2⟩ : ∃ b, decide (y.q.day ≤ x.q.thr) = b := ⟨_, rfl⟩
 obtain ⟨pn, hpn⟩ : ∃ b, (x.q.par != y.q.par) = b := ⟨_, rfl⟩
 rw [ha1, hb1, ha8, hb8, hlba, hlab, ht1, ht2, hpn]
 rw [ha1, ha8] at hx
 rw [hb1, hb8] at hy
 generalize servK x.q.kind = wa at TX hx ⊢
 generalize servK y.q.kind = wb at TY hy ⊢
 generalize rng x.q.day y.q.day y.q.thr = ia at TA ⊢
 generalize rng y.q.day x.q.day x.q.thr = ib at TB ⊢
 have HX := Lib.hid TX
 have HY := Lib.hid TY
 have HA := Lib.hid TA
 have HB := Lib.hid TB
 clear TX TY TA TB
 go_enter Tryz.func140, Tryz.ntmps140
 go_upto_region 1 with fail
 rw [HW1.out]
 have d1 := BX.out.cell 1
 have f1 := BY.out.cell 1
 have d4 := BX.out.cell 4
 have f4 := BY.out.cell 4
 have d5 := BX.out.cell 5
 have f5 := BY.out.cell 5
 have d6 := BX.out.cell 6
 have f6 := BY.out.cell 6
 clear d5 f5 d6 f6
 have d5 := BX.out.cell 5
 have f5 := BY.out.cell 5
 have d6 := BX.out.cell 6
 have f6 := BY.out.cell 6
 rcases hx with ⟨rfl, rfl, rfl⟩ | ⟨rfl, rfl, rfl⟩ | ⟨rfl, rfl, rfl⟩ | ⟨rfl, rfl, rfl⟩
 ·rcases hy with ⟨rfl, rfl, rfl⟩ | ⟨rfl, rfl, rfl⟩ | ⟨rfl, rfl, rfl⟩ | ⟨rfl, rfl, rfl⟩
  ·go_wp2_with (first | (go_at_call 157; (with_reducible refine (HX.out _).mono ?_); rintro e w' ⟨rfl, rfl⟩) | (go_at_call 157; (with_reducible refine (HY.out _).mono ?_); rintro e w' ⟨rfl, rfl⟩) | (go_at_call 108; (with_reducible refine (HA.out _).mono ?_); rintro e w' ⟨rfl, rfl⟩) | (go_at_call 108; (with_reducible refine (HB.out _).mono ?_); rintro e w' ⟨rfl, rfl⟩))
   go_ret
   exact ⟨rfl, G1.out⟩
  ·cases lba with
   | true =>
    go_wp2_with (first | (go_at_call 157; (with_reducible refine (HX.out _).mono ?_); rintro e w' ⟨rfl, rfl⟩) | (go_at_call 157; (with_reducible refine (HY.out _).mono ?_); rintro e w' ⟨rfl, rfl⟩) | (go_at_call 108; (with_reducible refine (HA.out _).mono ?_); rintro e w' ⟨rfl, rfl⟩) | (go_at_call 108; (with_reducible refine (HB.out _).mono ?_); rintro e w' ⟨rfl, rfl⟩))
    go_ret
    exact ⟨rfl, G1.out⟩
   | false =>
    go_wp2_with (first | (go_at_call 157; (with_reducible refine (HX.out _).mono ?_); rintro e w' ⟨rfl, rfl⟩) | (go_at_call 157; (with_reducible refine (HY.out _).mono ?_); rintro e w' ⟨rfl, rfl⟩) | (go_at_call 108; (with_reducible refine (HA.out _).mono ?_); rintro e w' ⟨rfl, rfl⟩) | (go_at_call 108; (with_reducible refine (HB.out _).mono ?_); rintro e w' ⟨rfl, rfl⟩))
    go_ret
    exact ⟨rfl, G1.out⟩
  ·cases lba with
   | true =>
    go_wp2_with (first | (go_at_call 157; (with_reducible refine (HX.out _).mono ?_); rintro e w' ⟨rfl, rfl⟩) | (go_at_call 157; (with_reducible refine (HY.out _).mono ?_); rintro e w' ⟨rfl, rfl⟩) | (go_at_call 108; (with_reducible refine (HA.out _).mono ?_); rintro e w' ⟨rfl, rfl⟩) | (go_at_call 108; (with_reducible refine (HB.out _).mono ?_); rintro e w' ⟨rfl, rfl⟩))
    go_ret
    exact ⟨rfl, G1.out⟩
   | false =>
    go_wp2_with (first | (go_at_call 157; (with_reducible refine (HX.out _).mono ?_); rintro e w' ⟨rfl, rfl⟩) | (go_at_call 157; (with_reducible refine (HY.out _).mono ?_); rintro e w' ⟨rfl, rfl⟩) | (go_at_call 108; (with_reducible refine (HA.out _).mono ?_); rintro e w' ⟨rfl, rfl⟩) | (go_at_call 108; (with_reducible refine (HB.out _).mono ?_); rintro e w' ⟨rfl, rfl⟩))
    go_ret
    exact ⟨rfl, G1.out⟩
  ·cases lba with
   | true =>
    go_wp2_with (first | (go_at_call 157; (with_reducible refine (HX.out _).mono ?_); rintro e w' ⟨rfl, rfl⟩) | (go_at_call 157; (with_reducible refine (HY.out _).mono ?_); rintro e w' ⟨rfl, rfl⟩) | (go_at_call 108; (with_reducible refine (HA.out _).mono ?_); rintro e w' ⟨rfl, rfl⟩) | (go_at_call 108; (with_reducible refine (HB.out _).mono ?_); rintro e w' ⟨rfl, rfl⟩))
    go_ret
    exact ⟨rfl, G1.out⟩
   | false =>
    go_wp2_with (first | (go_at_call 157; (with_reducible refine (HX.out _).mono ?_); rintro e w' ⟨rfl, rfl⟩) | (go_at_call 157; (with_reducible refine (HY.out _).mono ?_); rintro e w' ⟨rfl, rfl⟩) | (go_at_call 108; (with_reducible refine (HA.out _).mono ?_); rintro e w' ⟨rfl, rfl⟩) | (go_at_call 108; (with_reducible refine (HB.out _).mono ?_); rintro e w' ⟨rfl, rfl⟩))
    go_ret
    exact ⟨rfl, G1.out⟩
 ·rcases hy with ⟨rfl, rfl, rfl⟩ | ⟨rfl, rfl, rfl⟩ | ⟨rfl, rfl, rfl⟩ | ⟨rfl, rfl, rfl⟩
  ·cases lab with
   | true =>
    go_wp2_with (first | (go_at_call 157; (with_reducible refine (HX.out _).mono ?_); rintro e w' ⟨rfl, rfl⟩) | (go_at_call 157; (with_reducible refine (HY.out _).mono ?_); rintro e w' ⟨rfl, rfl⟩) | (go_at_call 108; (with_reducible refine (HA.out _).mono ?_); rintro e w' ⟨rfl, rfl⟩) | (go_at_call 108; (with_reducible refine (HB.out _).mono ?_); rintro e w' ⟨rfl, rfl⟩))
    go_ret
    exact ⟨rfl, G1.out⟩
   | false =>
    go_wp2_with (first | (go_at_call 157; (with_reducible refine (HX.out _).mono ?_); rintro e w' ⟨rfl, rfl⟩) | (go_at_call 157; (with_reducible refine (HY.out _).mono ?_); rintro e w' ⟨rfl, rfl⟩) | (go_at_call 108; (with_reducible refine (HA.out _).mono ?_); rintro e w' ⟨rfl, rfl⟩) | (go_at_call 108; (with_reducible refine (HB.out _).mono ?_); rintro e w' ⟨rfl, rfl⟩))
    go_ret
    exact ⟨rfl, G1.out⟩
  ·cases t1 with
   | true =>
    cases t2 with
    | true =>
     go_wp2_with (first | (go_at_call 157; (with_reducible refine (HX.out _).mono ?_); rintro e w' ⟨rfl, rfl⟩) | (go_at_call 157; (with_reducible refine (HY.out _).mono ?_); rintro e w' ⟨rfl, rfl⟩) | (go_at_call 108; (with_reducible refine (HA.out _).mono ?_); rintro e w' ⟨rfl, rfl⟩) | (go_at_call 108; (with_reducible refine (HB.out _).mono ?_); rintro e w' ⟨rfl, rfl⟩))
     go_ret
     exact ⟨rfl, G1.out⟩
    | false =>
     go_wp2_with (first | (go_at_call 157; (with_reducible refine (HX.out _).mono ?_); rintro e w' ⟨rfl, rfl⟩) | (go_at_call 157; (with_reducible refine (HY.out _).mono ?_); rintro e w' ⟨rfl, rfl⟩) | (go_at_call 108; (with_reducible refine (HA.out _).mono ?_); rintro e w' ⟨rfl, rfl⟩) | (go_at_call 108; (with_reducible refine (HB.out _).mono ?_); rintro e w' ⟨rfl, rfl⟩))
     go_ret
     exact ⟨rfl, G1.out⟩
   | false =>
    go_wp2_with (first | (go_at_call 157; (with_reducible refine (HX.out _).mono ?_); rintro e w' ⟨rfl, rfl⟩) | (go_at_call 157; (with_reducible refine (HY.out _).mono ?_); rintro e w' ⟨rfl, rfl⟩) | (go_at_call 108; (with_reducible refine (HA.out _).mono ?_); rintro e w' ⟨rfl, rfl⟩) | (go_at_call 108; (with_reducible refine (HB.out _).mono ?_); rintro e w' ⟨rfl, rfl⟩))
    go_ret
    exact ⟨rfl, G1.out⟩
  ·cases pn with
   | true =>
    go_wp2_with (first | (go_at_call 157; (with_reducible refine (HX.out _).mono ?_); rintro e w' ⟨rfl, rfl⟩) | (go_at_call 157; (with_reducible refine (HY.out _).mono ?_); rintro e w' ⟨rfl, rfl⟩) | (go_at_call 108; (with_reducible refine (HA.out _).mono ?_); rintro e w' ⟨rfl, rfl⟩) | (go_at_call 108; (with_reducible refine (HB.out _).mono ?_); rintro e w' ⟨rfl, rfl⟩))
    go_ret
    exact ⟨rfl, G1.out⟩
   | false =>
    go_wp2_with (first | (go_at_call 157; (with_reducible refine (HX.out _).mono ?_); rintro e w' ⟨rfl, rfl⟩) | (go_at_call 157; (with_reducible refine (HY.out _).mono ?_); rintro e w' ⟨rfl, rfl⟩) | (go_at_call 108; (with_reducible refine (HA.out _).mono ?_); rintro e w' ⟨rfl, rfl⟩) | (go_at_call 108; (with_reducible refine (HB.out _).mono ?_); rintro e w' ⟨rfl, rfl⟩))
    go_ret
    exact ⟨rfl, G1.out⟩
  ·go_wp2_with (first | (go_at_call 157; (with_reducible refine (HX.out _).mono ?_); rintro e w' ⟨rfl, rfl⟩) | (go_at_call 157; (with_reducible refine (HY.out _).mono ?_); rintro e w' ⟨rfl, rfl⟩) | (go_at_call 108; (with_reducible refine (HA.out _).mono ?_); rintro e w' ⟨rfl, rfl⟩) | (go_at_call 108; (with_reducible refine (HB.out _).mono ?_); rintro e w' ⟨rfl, rfl⟩))
   go_ret
   exact ⟨rfl, G1.out⟩
 ·rcases hy with ⟨rfl, rfl, rfl⟩ | ⟨rfl, rfl, rfl⟩ | ⟨rfl, rfl, rfl⟩ | ⟨rfl, rfl, rfl⟩
  ·cases lab with
   | true =>
    go_wp2_with (first | (go_at_call 157; (with_reducible refine (HX.out _).mono ?_); rintro e w' ⟨rfl, rfl⟩) | (go_at_call 157; (with_reducible refine (HY.out _).mono ?_); rintro e w' ⟨rfl, rfl⟩) | (go_at_call 108; (with_reducible refine (HA.out _).mono ?_); rintro e w' ⟨rfl, rfl⟩) | (go_at_call 108; (with_reducible refine (HB.out _).mono ?_); rintro e w' ⟨rfl, rfl⟩))
    go_ret
    exact ⟨rfl, G1.out⟩
   | false =>
    go_wp2_with (first | (go_at_call 157; (with_reducible refine (HX.out _).mono ?_); rintro e w' ⟨rfl, rfl⟩) | (go_at_call 157; (with_reducible refine (HY.out _).mono ?_); rintro e w' ⟨rfl, rfl⟩) | (go_at_call 108; (with_reducible refine (HA.out _).mono ?_); rintro e w' ⟨rfl, rfl⟩) | (go_at_call 108; (with_reducible refine (HB.out _).mono ?_); rintro e w' ⟨rfl, rfl⟩))
    go_ret
    exact ⟨rfl, G1.out⟩
  ·cases pn with
   | true =>
    go_wp2_with (first | (go_at_call 157; (with_reducible refine (HX.out _).mono ?_); rintro e w' ⟨rfl, rfl⟩) | (go_at_call 157; (with_reducible refine (HY.out _).mono ?_); rintro e w' ⟨rfl, rfl⟩) | (go_at_call 108; (with_reducible refine (HA.out _).mono ?_); rintro e w' ⟨rfl, rfl⟩) | (go_at_call 108; (with_reducible refine (HB.out _).mono ?_); rintro e w' ⟨rfl, rfl⟩))
    go_ret
    exact ⟨rfl, G1.out⟩
   | false =>
    go_wp2_with (first | (go_at_call 157; (with_reducible refine (HX.out _).mono ?_); rintro e w' ⟨rfl, rfl⟩) | (go_at_call 157; (with_reducible refine (HY.out _).mono ?_); rintro e w' ⟨rfl, rfl⟩) | (go_at_call 108; (with_reducible refine (HA.out _).mono ?_); rintro e w' ⟨rfl, rfl⟩) | (go_at_call 108; (with_reducible refine (HB.out _).mono ?_); rintro e w' ⟨rfl, rfl⟩))
    go_ret
    exact ⟨rfl, G1.out⟩
  ·go_wp2_with (first | (go_at_call 157; (with_reducible refine (HX.out _).mono ?_); rintro e w' ⟨rfl, rfl⟩) | (go_at_call 157; (with_reducible refine (HY.out _).mono ?_); rintro e w' ⟨rfl, rfl⟩) | (go_at_call 108; (with_reducible refine (HA.out _).mono ?_); rintro e w' ⟨rfl, rfl⟩) | (go_at_call 108; (with_reducible refine (HB.out _).mono ?_); rintro e w' ⟨rfl, rfl⟩))
   go_ret
   exact ⟨rfl, G1.out⟩
  ·go_wp2_with (first | (go_at_call 157; (with_reducible refine (HX.out _).mono ?_); rintro e w' ⟨rfl, rfl⟩) | (go_at_call 157; (with_reducible refine (HY.out _).mono ?_); rintro e w' ⟨rfl, rfl⟩) | (go_at_call 108; (with_reducible refine (HA.out _).mono ?_); rintro e w' ⟨rfl, rfl⟩) | (go_at_call 108; (with_reducible refine (HB.out _).mono ?_); rintro e w' ⟨rfl, rfl⟩))
   go_ret
   exact ⟨rfl, G1.out⟩
 ·rcases hy with ⟨rfl, rfl, rfl⟩ | ⟨rfl, rfl, rfl⟩ | ⟨rfl, rfl, rfl⟩ | ⟨rfl, rfl, rfl⟩
  ·cases lab with
   | true =>
    go_wp2_with (first | (go_at_call 157; (with_reducible refine (HX.out _).mono ?_); rintro e w' ⟨rfl, rfl⟩) | (go_at_call 157; (with_reducible refine (HY.out _).mono ?_); rintro e w' ⟨rfl, rfl⟩) | (go_at_call 108; (with_reducible refine (HA.out _).mono ?_); rintro e w' ⟨rfl, rfl⟩) | (go_at_call 108; (with_reducible refine (HB.out _).mono ?_); rintro e w' ⟨rfl, rfl⟩))
    go_ret
    exact ⟨rfl, G1.out⟩
   | false =>
    go_wp2_with (first | (go_at_call 157; (with_reducible refine (HX.out _).mono ?_); rintro e w' ⟨rfl, rfl⟩) | (go_at_call 157; (with_reducible refine (HY.out _).mono ?_); rintro e w' ⟨rfl, rfl⟩) | (go_at_call 108; (with_reducible refine (HA.out _).mono ?_); rintro e w' ⟨rfl, rfl⟩) | (go_at_call 108; (with_reducible refine (HB.out _).mono ?_); rintro e w' ⟨rfl, rfl⟩))
    go_ret
    exact ⟨rfl, G1.out⟩
  ·go_wp2_with (first | (go_at_call 157; (with_reducible refine (HX.out _).mono ?_); rintro e w' ⟨rfl, rfl⟩) | (go_at_call 157; (with_reducible refine (HY.out _).mono ?_); rintro e w' ⟨rfl, rfl⟩) | (go_at_call 108; (with_reducible refine (HA.out _).mono ?_); rintro e w' ⟨rfl, rfl⟩) | (go_at_call 108; (with_reducible refine (HB.out _).mono ?_); rintro e w' ⟨rfl, rfl⟩))
   go_ret
   exact ⟨rfl, G1.out⟩
  ·go_wp2_with (first | (go_at_call 157; (with_reducible refine (HX.out _).mono ?_); rintro e w' ⟨rfl, rfl⟩) | (go_at_call 157; (with_reducible refine (HY.out _).mono ?_); rintro e w' ⟨rfl, rfl⟩) | (go_at_call 108; (with_reducible refine (HA.out _).mono ?_); rintro e w' ⟨rfl, rfl⟩) | (go_at_call 108; (with_reducible refine (HB.out _).mono ?_); rintro e w' ⟨rfl, rfl⟩))
   go_ret
   exact ⟨rfl, G1.out⟩
  ·go_wp2_with (first | (go_at_call 157; (with_reducible refine (HX.out _).mono ?_); rintro e w' ⟨rfl, rfl⟩) | (go_at_call 157; (with_reducible refine (HY.out _).mono ?_); rintro e w' ⟨rfl, rfl⟩) | (go_at_call 108; (with_reducible refine (HA.out _).mono ?_); rintro e w' ⟨rfl, rfl⟩) | (go_at_call 108; (with_reducible refine (HB.out _).mono ?_); rintro e w' ⟨rfl, rfl⟩))
   go_ret
   exact ⟨rfl, G1.out⟩
end Go.Proofs.YtehhlgdkhecacaaGreat

namespace Go.Proofs.YtehhlgdkhecacaaGreat
open Go.RowKit Go.Shelf
set_option maxRecDepth 100000 in
set_option maxHeartbeats 8000000 in
theorem refFits_any (A : Option Addr) (n c : Nat) (l : List Pf) (B : Option Addr) (m d : Nat) (rd : List Int) (person : Int) (w : World) (ha : Prf w A n l) (hn : n ≤ 1000) (hb : Ints w B m rd) (hmn : m < n) :
  Calls Tryz.prog 101 #[.slice A n c, .slice B m d, .int .i64 person] w fun e w' => e = .returned (.bool (fitB (l.map Pf.q) rd person)) ∧ Below w.heap.size w w' := by
 have HA := Lib.hid ha
 have HB := Lib.hid hb
 have hrl := hb.1
 have HRL := Lib.hid hrl
 have HLM := Lib.hid (show l.length = n from ha.len)
 have hkn := hmn
 obtain ⟨b, o, rfl, -, hyi, hym, hyc⟩ := (HA.out.below (Below.refl _ _)).at hkn
 obtain ⟨y, hy⟩ : ∃ y, l.getD m p0 = y := ⟨_, rfl⟩
 rw [hy] at hyi hym hyc
 obtain ⟨e0, e1, e2, e3, e4, e5, e6, e7, e8⟩ := hyc _ (Below.refl _ _)
 have HyE := Lib.hid hy
 have HyI := Lib.hid hyi
 have HyM := Lib.hid hym
 clear hy hyi hym hyc
 obtain ⟨W2, hW2⟩ : ∃ X, w.alloc (.cells #[.int .i64 y.q.src, .int .i64 y.q.kind, .slice y.A y.n y.c, .int .i64 y.q.oth, .int .i64 y.q.par, .int .i64 y.q.day, .int .i64 y.q.thr, .int .i64 y.q.kno, .int .i64 y.q.unt] 56) = X := ⟨_, rfl⟩
 have GW2 := Lib.hid (show Below w.heap.size w W2 by rw [← hW2]; exact one_more _ _)
 have BW2 := Lib.hid (show Blk W2 w.heap.size 56 #[.int .i64 y.q.src, .int .i64 y.q.kind, .slice y.A y.n y.c, .int .i64 y.q.oth, .int .i64 y.q.par, .int .i64 y.q.day, .int .i64 y.q.thr, .int .i64 y.q.kno, .int .i64 y.q.unt] by rw [← hW2]; exact Blk.new _ _ _)
 have HW2 := Lib.hid hW2
 clear hW2
 have HYQ := Lib.hid (show (l.map Pf.q).getD rd.length q0 = y.q by rw [HRL.out, map_pf (by rw [HLM.out]; exact hmn), HyE.out])
 obtain ⟨fb, hfb⟩ : ∃ s, fitB (l.map Pf.q) rd person = s := ⟨_, rfl⟩
 rw [hfb]
 have HFB := Lib.hid hfb
 have hmi : (m : Int) < (n : Int) := by omega
 clear hfb ha hb hrl
 go_enter Tryz.func101, Tryz.ntmps101
 go_upto_region 2 with fail
 rw [HW2.out]
 clear e0 e1 e2 e3 e4 e5 e6 e7 e8
 have d0 := BW2.out.cell 0
 have d1 := BW2.out.cell 1
 have d2 := BW2.out.cell 2
 have d3 := BW2.out.cell 3
 have d4 := BW2.out.cell 4
 have d5 := BW2.out.cell 5
 have d6 := BW2.out.cell 6
 have d7 := BW2.out.cell 7
 have d8 := BW2.out.cell 8
 have hcase : (y.q.kind = 2 ∧ y.q.oth = person) ∨ ¬ (y.q.kind = 2 ∧ y.q.oth = person) := Classical.em _
 rcases hcase with ⟨h1, h2⟩ | hno
 ·have e1 : (y.q.kind == 2) = true := by simpa using h1
  have e2 : (y.q.oth == person) = true := by simpa using h2
  have hf : fb = false := HFB.out.symm.trans (fit_no1 (by rw [HYQ.out]; exact h1) (by rw [HYQ.out]; exact h2))
  subst hf
  clear h1 h2
  go_wp2_with fail
  go_ret
  exact ⟨rfl, GW2.out⟩
 ·have HNO := Lib.hid hno
  go_cut [6, 22] from 14 to 22 (fun s t wx => s = .bool false ∧ t = .bool false ∧ W2 = wx)
  case first =>
   by_cases h1 : y.q.kind = 2
   ·have e1 : (y.q.kind == 2) = true := by simpa using h1
    have e2 : (y.q.oth == person) = false := by simpa using fun e => HNO.out ⟨h1, e⟩
    clear h1 hno
    go_wp2_with fail
    go_meet
    exact ⟨rfl, rfl, rfl⟩
   ·have e1 : (y.q.kind == 2) = false := by simpa using h1
    clear h1 hno
    go_wp2_with fail
    go_meet
    exact ⟨rfl, rfl, rfl⟩
  case rest =>
  obtain ⟨rfl, rfl, rfl⟩ := hcut
  rename_i hK9
  refine hK9 _ _ ?_
  clear hK9 hno
  have HZ := Lib.hid (Below.refl W2.heap.size W2)
  clear d0 d1 d2 d3 d4 d5 d6 d7 d8
  go_wp2_with fail
  go_loopw [8] (fun i wr => ∃ k : Nat, k ≤ m ∧ i = .int .i64 k ∧ Below W2.heap.size W2 wr ∧ ∀ j, j < k → ¬ (rd.getD j 0 = person ∧ oddsB ((l.map Pf.q).getD j q0) y.q = true)) (fun i _ => m - (intOf i).toNat)
  case atStart => exact ⟨0, Nat.zero_le _, rfl, HZ.out, fun j hj => absurd hj (by omega)⟩
  case round =>
   obtain ⟨k, hk, rfl, hg, hall⟩ := hrel
   have HG := Lib.hid hg
   have HALL := Lib.hid hall
   have HGW := Lib.hid (GW2.out.trans (hg.mono GW2.out.size))
   clear hall
   by_cases hkm : k < m
   ·have hkn : k < n := by omega
    obtain ⟨b2, o2, rfl, -, -, hc2⟩ := ints_at (HB.out.below HGW.out) hkm
    have r0 := hc2 wr (Below.refl _ _)
    obtain ⟨x, hx⟩ : ∃ x, rd.getD k 0 = x := ⟨_, rfl⟩
    rw [hx] at r0
    have HX := Lib.hid hx
    have HPK := Lib.hid (map_pf (l := l) (k := k) (by rw [HLM.out]; exact hkn))
    obtain ⟨b3, o3, e3, -, hzi, hzm, hzc⟩ := (HA.out.below HGW.out).at hkn
    cases e3
    obtain ⟨z, hz⟩ : ∃ z, l.getD k p0 = z := ⟨_, rfl⟩
    rw [hz] at hzc HPK
    obtain ⟨e0, e1, e2, e3, e4, e5, e6, e7, e8⟩ := hzc _ (Below.refl _ _)
    clear hzi hzm hzc hz hx hc2
    have hwr2 : wrap64 ((k : Int) + 1) = (k : Int) + 1 := wrap_in (by omega)
    have hki : (k : Int) < (n : Int) := by omega
    have BYR := Lib.hid (BW2.out.ext hg)
    have TO := fun (X : Wd wr) => refOdds_any z y X.val
    obtain ⟨ob, hob⟩ : ∃ s, oddsB z.q y.q = s := ⟨_, rfl⟩
    rw [hob] at TO
    have HOB := Lib.hid hob
    have HTO := Lib.hid TO
    clear TO hob hg
    go_upto_region 7 with fail
    replace r0 := cellW r0
    replace e0 := cellW e0
    replace e1 := cellW e1
    replace e2 := cellW e2
    replace e3 := cellW e3
    replace e4 := cellW e4
    replace e5 := cellW e5
    replace e6 := cellW e6
    replace e7 := cellW e7
    replace e8 := cellW e8
    have d0 := cellW (BYR.out.cell 0)
    have d1 := cellW (BYR.out.cell 1)
    have d2 := cellW (BYR.out.cell 2)
    have d3 := cellW (BYR.out.cell 3)
    have d4 := cellW (BYR.out.cell 4)
    have d5 := cellW (BYR.out.cell 5)
    have d6 := cellW (BYR.out.cell 6)
    have d7 := cellW (BYR.out.cell 7)
    have d8 := cellW (BYR.out.cell 8)
    by_cases hxp : x = person
    ·have hxb : (x == person) = true := by simpa using hxp
     have HXP := Lib.hid hxp
     clear hxp
     refine wp_region_calm wr (by kernel_rfl) (by kernel_rfl) (Below.refl _ _) ?_
     repeat (go_big_quiet_step ((go_at_call 140; exact callsCalm (HTO.out _))))
     refine wpQuiet_nil ?_
     rintro _ ⟨zz, rfl⟩
     have GZ := Lib.hid (HG.out.trans (zz.ok.mono HG.out.size))
     cases ob with
     | true =>
      have hf : fb = false := HFB.out.symm.trans (fit_no2 (j := k) (by rw [HRL.out]; exact hkm) (HX.out.trans HXP.out) (by rw [HYQ.out, HPK.out]; exact HOB.out))
      subst hf
      go_wp2_with fail
      go_ret
      exact ⟨rfl, GW2.out.trans (GZ.out.mono GW2.out.size)⟩
     | false =>
      go_wp2_with fail
      go_roundw
      case rel => exact ⟨k + 1, by omega, by go_num, GZ.out, fun j hj => by
       by_cases e : j = k
       ·subst e; rintro ⟨-, h2⟩; rw [HPK.out, HOB.out] at h2; exact absurd h2 (by decide)
       ·exact HALL.out j (by omega)⟩
      case measure => simp [intOf]; omega
    ·have hxb : (x == person) = false := by simpa using hxp
     have HXP := Lib.hid hxp
     clear hxp
     refine wp_region_calm wr (by kernel_rfl) (by kernel_rfl) (Below.refl _ _) ?_
     repeat (go_big_quiet_step ((go_at_call 140; exact callsCalm (HTO.out _))))
     refine wpQuiet_nil ?_
     rintro _ ⟨zz, rfl⟩
     have GZ := Lib.hid (HG.out.trans (zz.ok.mono HG.out.size))
     go_wp2_with fail
     go_roundw
     case rel => exact ⟨k + 1, by omega, by go_num, GZ.out, fun j hj => by
      by_cases e : j = k
      ·subst e; rintro ⟨h1, -⟩; exact HXP.out (HX.out.symm.trans h1)
      ·exact HALL.out j (by omega)⟩
     case measure => simp [intOf]; omega
   ·obtain rfl : k = m := by omega
    have hf : fb = true := HFB.out.symm.trans (fit_yes (by rw [HYQ.out]; exact HNO.out) (fun j hj => by rw [HYQ.out]; exact HALL.out j (by rw [← HRL.out]; exact hj)))
    subst hf
    clear hg
    go_wp2_with fail
    go_ret
    exact ⟨rfl, HGW.out⟩
end Go.Proofs.YtehhlgdkhecacaaGreat

namespace Go.Proofs.YtehhlgdkhecacaaGreat
open Go.ChangeShapes Go.WideShapes Go.ChangeAt Go.RowKit
theorem Tryz.own : ownKnob Tryz.prog.godebug = none := by kernel_rfl
theorem Tryz.laidOut : laidOutB Tryz.prog = true := by kernel_rfl
section
variable {H : Type} {enc : TypeId × Value → H} {P : Program}
/-- The arguments read behind the call as they read before. -/
theorem args_stay (hl : laidOutB P = true) {W W' : World} (hb : Below W.heap.size W W') {sp : Nat → Bool} :
  ∀ {ts : List TypeId} {vs : List Value} {ds : List (DataW H)} {ps : List MemPlace}, (ts.all fun t => P.readableRec t && decide (t < P.types.size)) = true → (∀ x ∈ ps, x.block < W.heap.size) → (∀ x ∈ ps, sp x.block = true) →
   DataW.TrodAll enc P W 0 (fun _ => true) true ts vs ds ps → DataW.TrodAll enc P W' 0 sp true ts vs ds ps
 | [], [], [], ps, _, _, _, h => h
 | t :: ts, v :: vs, d :: ds, ps, ht, hlt, hs, h => by
  obtain ⟨p, q, h1, h2, rfl⟩ := h
  simp only [List.all_cons, Bool.and_eq_true, decide_eq_true_eq] at ht
  exact ⟨p, q, WideElems.Trod_stays hl ht.1.1 ht.1.2 h1 (fun x hx => hb.same (hlt x (List.mem_append_left _ hx))) (fun x hx => hs x (List.mem_append_left _ hx)),
   args_stay hl hb ht.2 (fun x hx => hlt x (List.mem_append_right _ hx)) (fun x hx => hs x (List.mem_append_right _ hx)) h2, rfl⟩
 | [], [], _ :: _, _, _, _, _, h => h.elim
 | [], _ :: _, [], _, _, _, _, h => h.elim
 | [], _ :: _, _ :: _, _, _, _, _, h => h.elim
 | _ :: _, [], [], _, _, _, _, h => h.elim
 | _ :: _, [], _ :: _, _, _, _, _, h => h.elim
 | _ :: _, _ :: _, [], _, _, _, _, h => h.elim
/-- The end of a row: true came back; nothing that was there has turned. -/
theorem law_post {f : Func} {s : ChangeSpec} {apart fresh handsOn again : Bool} {W W' : World} {args : Array Value} {ds : List (DataW H)} {before : List MemPlace} (hl : laidOutB P = true)
  (hW : DataW.Whole enc P f.params.toList s.vars apart W args.toList ds [] before) (hA : DataW.TrodAll enc P W 0 (fun _ => true) true f.params.toList args.toList ds before) (hv : s.vars = [])
  (hrt : f.resultTypes = #[4]) (h4 : P.underlying 4 = some .bool) (hres : (s.fn H (ds ++ [])).results = [.lit (.bool true)]) (hargs : (s.fn H (ds ++ [])).args = ds) (hvars : (s.fn H (ds ++ [])).vars = [])
  (hp : (f.params.toList.all fun t => P.readableRec t && decide (t < P.types.size)) = true) (hb : Below W.heap.size W W') : s.post enc P f apart fresh handsOn again W args (.bool true) W' := by
 have hlt : ∀ p ∈ before, p.block < W.heap.size := fun p hp => hW.lt p hp
 have hA' : ∀ sp : Nat → Bool, (∀ p ∈ before, sp p.block = true) → DataW.TrodAll enc P W' 0 sp true f.params.toList args.toList (s.fn H (ds ++ [])).args before :=
  fun sp hsp => by rw [hargs]; exact args_stay hl hb hp hlt hsp hA
 have hV' : ∀ sp : Nat → Bool, DataW.TrodVars enc P W' sp s.vars (s.fn H (ds ++ [])).vars [] := fun sp => by rw [hv, hvars]; rfl
 have hR : ∀ (b : Nat) (sp : Nat → Bool) (hd : Bool), DataW.TrodAll enc P W' b sp hd f.resultTypes.toList ((Value.bool true).resultList f.resultTypes.size) (s.fn H (ds ++ [])).results [] := fun b sp hd => by
  rw [hres, hrt]; exact trodAll_mk1 (shut_bool h4 _)
 have hold : ∀ p ∈ before, (fun b => decide (b < W.heap.size)) p.block = true := fun p hp => by simpa using hlt p hp
 refine ⟨ds, [], before, [], before, [], hW, hR _ _ _, hA' _ hold, hV' _, World.keptBut_mono (fun p hp => ⟨hp, .inr (.inl hp)⟩) (hb.frame (· ∈ before)), fun _ => ?_⟩
 obtain ⟨_, _, _, _, _, hz, hn⟩ := hW
 refine ⟨?_, _, _, ([] ++ before) ++ [], ⟨[] ++ before, [], trodAll_append (hA' _ (fun _ _ => rfl)) (hR _ _ _), hV' _, rfl, ?_, ?_⟩, ?_⟩
 ·intro j t r hj hr
  exact ok_one hrt rfl (okWide_bool_mk h4 _) j t r hj hr
 ·intro b off hp
  have hin : MemPlace.cell b off ∈ before := by simpa using hp
  rw [hb.frozen (hlt _ hin)]
  exact hz b off hin
 ·intro ha
  have := hn ha
  simpa using this
 ·intro p hp _
  simpa using hp
end
theorem cells3 : Tryz.prog.cellsOf 3 = 1 := by kernel_rfl
theorem cells121 : Tryz.prog.cellsOf 121 = 9 := by kernel_rfl
theorem cells51 : Tryz.prog.cellsOf 51 = 5 := by kernel_rfl
section
variable {H : Type} {enc : TypeId × Value → H} {w : World} {base : Nat} {sp : Nat → Bool} {held : Bool} {fuel : Nat} {cs : List Value} {x : DataW H × List MemPlace}
theorem openInt (h : DataW.trod enc Tryz.prog w base sp held fuel 3 cs = some x) : ∃ a : Int, cs = [.int .i64 a] ∧ -9223372036854775808 ≤ a ∧ a ≤ 9223372036854775807 := by
 obtain ⟨a, ha, -, hw⟩ := DataW.trod_int Tryz.underlying3 h
 refine ⟨a, ha, ?_⟩
 have := hw
 simp [Lit.wf, IntKind.min, IntKind.max, IntKind.signed, IntKind.bits] at this
 omega
/-- A slice whose elements are known reads as a list. -/
theorem openSlice {α : Type} [Inhabited α] {f : α → List Value} {size : Nat} {t e : TypeId} (ht : Tryz.prog.underlying t = some (.slice e)) (he : Tryz.prog.cellsOf e = size) (hs : 0 < size)
  (hel : ∀ fuel cs x, DataW.trod enc Tryz.prog w base sp held fuel e cs = some x → ∃ a, cs = f a) (h : DataW.trod enc Tryz.prog w base sp held fuel t cs = some x) :
  ∃ A n c xs, cs = [.slice A n c] ∧ n ≤ c ∧ c ≤ maxLen ∧ Arr f size w A n xs := by
 rcases DataW.trod_slice ht h with ⟨h0, -⟩ | ⟨a, len, cap, elems, rest, n, -, rfl, -, hb, hl, hm, hlen, hel1, -, -⟩
 ·exact ⟨none, 0, 0, [], h0, Nat.le_refl _, Nat.zero_le _, Arr.nil_⟩
 ·have each : ∀ i, i < len → ∃ y, w.cells? base (a.add (i * size)) size = some (f y) := by
   intro i hi
   have h1 := hel1 i hi
   rw [List.getElem?_eq_getElem (by omega), he] at h1
   obtain ⟨cs', h2, h3⟩ := Option.bind_eq_some_iff.1 h1
   obtain ⟨y, rfl⟩ := hel _ _ _ h3
   exact ⟨y, h2⟩
  obtain ⟨q, hq⟩ := Go.Deep.choose_lt each
  refine ⟨some a, len, cap, (List.range len).map q, rfl, hl, hm, by simp, fun hn => ?_⟩
  obtain ⟨b, o, spot⟩ := a
  have h0 := World.cells?_some (hq 0 hn)
  have hne : ∃ c0, (f (q 0))[0]? = some c0 := ⟨_, List.getElem?_eq_getElem (by rw [h0.2.1]; exact hs)⟩
  obtain ⟨c0, hc0⟩ := hne
  have g0 := h0.2.2 0 hs
  rw [hc0] at g0
  have hspot : spot = none := by simpa [Addr.add] using World.cell?_spot g0
  subst hspot
  have hbl := World.block_lt_of_cell? w _ g0
  simp only [Nat.zero_mul, add_at, Nat.add_zero] at hbl
  refine ⟨b, o, rfl, hbl, fun k y hy j u hu => ?_⟩
  have hk : k < len := by have := (List.getElem?_eq_some_iff.1 hy).1; simpa using this
  have ey : y = q k := by rw [List.getElem?_map, List.getElem?_range hk] at hy; simpa using hy.symm
  subst ey
  have hk2 := World.cells?_some (hq k hk)
  have hj : j < size := by rw [← hk2.2.1]; exact (List.getElem?_eq_some_iff.1 hu).1
  have := hk2.2.2 j hj
  rw [add_at, add_at, hu] at this
  exact this
theorem Arr.vals_ {α β : Type} {f : α → List Value} {g : β → α} {size : Nat} {w : World} {A : Option Addr} {n : Nat} {xs : List β} (h : Arr (fun x => f (g x)) size w A n xs) : Arr f size w A n (xs.map g) := by
 refine ⟨by rw [List.length_map]; exact h.1, fun h0 => ?_⟩
 obtain ⟨b, o, e, hb, hc⟩ := h.2 h0
 refine ⟨b, o, e, hb, fun k y hy j u hu => ?_⟩
 rw [List.getElem?_map] at hy
 obtain ⟨z, hz, rfl⟩ := Option.map_eq_some_iff.1 hy
 exact hc k z hz j u hu
set_option maxRecDepth 100000 in
theorem openRa {cs : List Value} (h : DataW.trod enc Tryz.prog w base sp held fuel 121 cs = some x) : ∃ q : {q : Ra // RaOk q}, cs = rcells q.val := by
 obtain ⟨xs, n, -, -, hl, hxl, hf⟩ := DataW.trod_struct Tryz.underlying121 h
 have hxl' : xs.length = 9 := hxl
 have h0 : DataW.trod enc Tryz.prog w base sp held n 3 ((cs.drop 0).take (Tryz.prog.cellsOf 3)) = xs[0]? := hf 0 _ rfl
 have h1 : DataW.trod enc Tryz.prog w base sp held n 3 ((cs.drop 1).take (Tryz.prog.cellsOf 3)) = xs[1]? := hf 1 _ rfl
 have h2 : DataW.trod enc Tryz.prog w base sp held n 3 ((cs.drop 2).take (Tryz.prog.cellsOf 3)) = xs[2]? := hf 2 _ rfl
 have h3 : DataW.trod enc Tryz.prog w base sp held n 3 ((cs.drop 3).take (Tryz.prog.cellsOf 3)) = xs[3]? := hf 3 _ rfl
 have h4 : DataW.trod enc Tryz.prog w base sp held n 3 ((cs.drop 4).take (Tryz.prog.cellsOf 3)) = xs[4]? := hf 4 _ rfl
 have h5 : DataW.trod enc Tryz.prog w base sp held n 3 ((cs.drop 5).take (Tryz.prog.cellsOf 3)) = xs[5]? := hf 5 _ rfl
 have h6 : DataW.trod enc Tryz.prog w base sp held n 3 ((cs.drop 6).take (Tryz.prog.cellsOf 3)) = xs[6]? := hf 6 _ rfl
 have h7 : DataW.trod enc Tryz.prog w base sp held n 3 ((cs.drop 7).take (Tryz.prog.cellsOf 3)) = xs[7]? := hf 7 _ rfl
 have h8 : DataW.trod enc Tryz.prog w base sp held n 3 ((cs.drop 8).take (Tryz.prog.cellsOf 3)) = xs[8]? := hf 8 _ rfl
 rw [cells3] at h0 h1 h2 h3 h4 h5 h6 h7 h8
 rw [cells121] at hl
 match cs, hl with
 | [c0, c1, c2, c3, c4, c5, c6, c7, c8], _ =>
  obtain ⟨a0, e0, i0⟩ := openInt (h0.trans (List.getElem?_eq_getElem (by omega)))
  obtain ⟨a1, e1, i1⟩ := openInt (h1.trans (List.getElem?_eq_getElem (by omega)))
  obtain ⟨a2, e2, i2⟩ := openInt (h2.trans (List.getElem?_eq_getElem (by omega)))
  obtain ⟨a3, e3, i3⟩ := openInt (h3.trans (List.getElem?_eq_getElem (by omega)))
  obtain ⟨a4, e4, i4⟩ := openInt (h4.trans (List.getElem?_eq_getElem (by omega)))
  obtain ⟨a5, e5, i5⟩ := openInt (h5.trans (List.getElem?_eq_getElem (by omega)))
  obtain ⟨a6, e6, i6⟩ := openInt (h6.trans (List.getElem?_eq_getElem (by omega)))
  obtain ⟨a7, e7, i7⟩ := openInt (h7.trans (List.getElem?_eq_getElem (by omega)))
  obtain ⟨a8, e8, i8⟩ := openInt (h8.trans (List.getElem?_eq_getElem (by omega)))
  simp at e0 e1 e2 e3 e4 e5 e6 e7 e8
  subst e0 e1 e2 e3 e4 e5 e6 e7 e8
  exact ⟨⟨⟨a0, a1, a2, a3, a4, a5, a6, a7, a8⟩, i8⟩, rfl⟩
instance : Inhabited {q : Ra // RaOk q} := ⟨⟨r0, by unfold RaOk I64 r0; decide⟩⟩
instance : Inhabited {p : Pf // PI w p} := ⟨⟨p0, Arr.nil_, Nat.le_refl _, Nat.zero_le _⟩⟩
variable {r : Reach} {b0 : Nat} {v : Value} {d : DataW H} {p : List MemPlace}
theorem okWide_array {P : Program} {t e : TypeId} {n : Nat} (ht : P.underlying t = some (.array n e)) (h : Value.okWide P w r b0 t v) : ∃ cs, v = .agg cs ∧ cs.size = P.cellsOf t := by
 simp only [Value.okWide, ht] at h
 obtain ⟨cs, h1, h2, _⟩ := h
 exact ⟨cs, h1, h2⟩
set_option maxRecDepth 100000 in
theorem openRas (hv : Value.okWide Tryz.prog w r b0 50 v) (h : DataW.Trod enc Tryz.prog w base sp held 50 v d p) : ∃ A n c l, v = .slice A n c ∧ n ≤ 9223372036854775807 ∧ Arr rcells 9 w A n l ∧ ∀ y ∈ l, RaOk y := by
 obtain ⟨fuel, hf⟩ := h
 obtain ⟨A, n, c, xs, e, h1, h2, h3⟩ := openSlice (f := fun q : {q : Ra // RaOk q} => rcells q.val) Tryz.underlying50 cells121 (by decide) (fun _ _ _ hq => openRa hq) hf
 have hv1 : v = .slice A n c := by
  have hcl := okWide_slice Tryz.underlying50 hv
  obtain ⟨a, l, k, rfl, -⟩ := hcl
  simpa [Value.cells] using e
 unfold maxLen at h2
 refine ⟨A, n, c, xs.map Subtype.val, hv1, by omega, h3.vals_, fun q hq => ?_⟩
 obtain ⟨y, -, rfl⟩ := List.mem_map.1 hq
 exact y.property
set_option maxRecDepth 100000 in
theorem openA5 (hv : Value.okWide Tryz.prog w r b0 51 v) (h : DataW.Trod enc Tryz.prog w base sp held 51 v d p) : ∃ z0 z1 z2 z3 z4 : Int, v = .agg #[.int .i64 z0, .int .i64 z1, .int .i64 z2, .int .i64 z3, .int .i64 z4] := by
 obtain ⟨cs, rfl, hsz⟩ := okWide_array Tryz.underlying51 hv
 obtain ⟨fuel, hf⟩ := h
 rw [cells51] at hsz
 obtain ⟨c0, c1, c2, c3, c4, rfl⟩ : ∃ c0 c1 c2 c3 c4, cs = #[c0, c1, c2, c3, c4] := by
  obtain ⟨l⟩ := cs
  match l, hsz with
  | [c0, c1, c2, c3, c4], _ => exact ⟨c0, c1, c2, c3, c4, rfl⟩
 obtain ⟨xs, n, -, -, hl, hxl, hf⟩ := DataW.trod_array Tryz.underlying51 hf
 rw [cells3] at hf
 obtain ⟨a0, e0, -⟩ := openInt ((hf 0 (by decide)).trans (List.getElem?_eq_getElem (by omega)))
 obtain ⟨a1, e1, -⟩ := openInt ((hf 1 (by decide)).trans (List.getElem?_eq_getElem (by omega)))
 obtain ⟨a2, e2, -⟩ := openInt ((hf 2 (by decide)).trans (List.getElem?_eq_getElem (by omega)))
 obtain ⟨a3, e3, -⟩ := openInt ((hf 3 (by decide)).trans (List.getElem?_eq_getElem (by omega)))
 obtain ⟨a4, e4, -⟩ := openInt ((hf 4 (by decide)).trans (List.getElem?_eq_getElem (by omega)))
 simp [Value.cells] at e0 e1 e2 e3 e4
 subst e0 e1 e2 e3 e4
 exact ⟨_, _, _, _, _, rfl⟩
end
end Go.Proofs.YtehhlgdkhecacaaGreat
