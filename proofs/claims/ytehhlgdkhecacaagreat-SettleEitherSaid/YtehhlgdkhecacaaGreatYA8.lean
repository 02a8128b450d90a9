/- Part of the proof: PE, BX, BY, BZ, CB, DA, DB, EA. -/
import Derived.Test.YtehhlgdkhecacaaGreatRows
import Derived.ProofKit
import Derived.Carry
import Derived.WideKeyArgs
import Derived.Below
import Derived.OpenShut
import Derived.Deep.Slices
import Derived.Test.YtehhlgdkhecacaaGreatYA2
import Derived.Test.YtehhlgdkhecacaaGreatYA3
import Derived.Test.YtehhlgdkhecacaaGreatYA6
import Derived.Test.YtehhlgdkhecacaaGreatYA7
namespace Go.Proofs.YtehhlgdkhecacaaGreat
def lssL (l : List Qf) (s : Int) : List Qf := l.filter fun q => decide (q.src ≠ s)
theorem lss_split {a b : List Qf} {q : Qf} (h : (srcL (a ++ q :: b)).Pairwise (· < ·)) : lssL (a ++ q :: b) q.src = a ++ b := by
 unfold srcL at h
 rw [List.map_append, List.map_cons, List.pairwise_append, List.pairwise_cons] at h
 obtain ⟨h1, ⟨h2, h3⟩, h4⟩ := h
 unfold lssL
 rw [List.filter_append, List.filter_cons_of_neg (by simp)]
 rw [List.filter_eq_self.2, List.filter_eq_self.2]
 ·intro x hx
  have := h2 x.src (List.mem_map.2 ⟨x, hx, rfl⟩)
  simp; omega
 ·intro x hx
  have := h4 x.src (List.mem_map.2 ⟨x, hx, rfl⟩) q.src (by simp)
  simp; omega
theorem split_at {l : List Qf} {i : Nat} (h : i < l.length) : l = l.take i ++ l.getD i q0 :: l.drop (i + 1) := by
 have : l.getD i q0 = l[i] := by rw [List.getD_eq_getElem?_getD, List.getElem?_eq_getElem h]; rfl
 rw [this, ← List.drop_eq_getElem_cons h, List.take_append_drop]
theorem lss_at {l : List Qf} {i : Nat} (h : i < l.length) (hs : (srcL l).Pairwise (· < ·)) : lssL l (l.getD i q0).src = l.eraseIdx i := by
 have e := split_at h
 have hs2 := hs
 rw [e] at hs2
 have := lss_split hs2
 rw [← e] at this
 rw [this, List.eraseIdx_eq_take_drop_succ]
def Shut (l : List Qf) (N : List Int) : Prop := ∀ q ∈ l, q.kind = 2 → q.oth ∈ N → ∀ n ∈ q.per, n ∈ N
end Go.Proofs.YtehhlgdkhecacaaGreat

namespace Go.Proofs.YtehhlgdkhecacaaGreat
open Go.RowKit Go.Shelf
theorem ok_rise {l : List Pf} (h : okL (l.map Pf.q) = true) : ∀ i j, i < j → j < l.length → (l.getD i p0).q.src < (l.getD j p0).q.src := by
 intro i j hij hj
 have hs := okL_src h
 unfold srcL at hs
 rw [List.pairwise_iff_getElem] at hs
 have := hs i j (by simp; omega) (by simp; omega) hij
 have g : ∀ k (hk : k < l.length), (l.getD k p0).q.src = l[k].q.src := fun k hk => by rw [List.getD_eq_getElem?_getD, List.getElem?_eq_getElem hk]; rfl
 rw [g i (by omega), g j hj]
 simpa using this
theorem insP_at {l : List Pf} {s : Int} (h : okL (l.map Pf.q) = true) {j : Nat} (hj : j < l.length) (hs : (l.getD j p0).q.src = s) : insP l s = j :=
 insP_eq (by omega) (fun i hi => by have := ok_rise h i j hi hj; omega) (fun i hi hl => by
  rcases Nat.eq_or_lt_of_le hi with e | e
  ·subst e; omega
  ·have := ok_rise h j i e hl; omega)
theorem fndP_iff {l : List Pf} {s : Int} (h : okL (l.map Pf.q) = true) : fndP l s = decide (s ∈ srcL (l.map Pf.q)) := by
 rw [Bool.eq_iff_iff, decide_eq_true_eq]
 unfold fndP srcL
 simp only [Bool.and_eq_true, decide_eq_true_eq, List.map_map, List.mem_map, Function.comp]
 constructor
 ·rintro ⟨h1, h2⟩
  exact ⟨_, mem_pf h1, h2⟩
 ·rintro ⟨p, hp, rfl⟩
  obtain ⟨j, hj, e⟩ := List.getElem_of_mem hp
  have e2 : l.getD j p0 = p := by rw [List.getD_eq_getElem?_getD, List.getElem?_eq_getElem hj, e]; rfl
  have := insP_at h hj (by rw [e2])
  rw [this, e2]
  exact ⟨hj, rfl⟩
theorem lssP_erase {l : List Pf} {s : Int} (h : okL (l.map Pf.q) = true) (hf : fndP l s = true) : insP l s < l.length ∧ (l.map Pf.q).eraseIdx (insP l s) = lssL (l.map Pf.q) s := by
 unfold fndP at hf
 simp only [Bool.and_eq_true, decide_eq_true_eq] at hf
 refine ⟨hf.1, ?_⟩
 rw [← lss_at (by simpa using hf.1) (okL_src h), map_pf hf.1, hf.2]
theorem OwnP.del {w w' : World} {base g n c : Nat} {l : List Pf} {i : Nat} (h : OwnP w base g n c l) (ho : OwnL pcells 9 56 w' base (.slice (some ⟨g, 0, none⟩) (n - 1) c) (l.eraseIdx i)) (f : Fix g g w w') : OwnP w' base g (n - 1) c (l.eraseIdx i) :=
 ⟨ho, fun p hp => by
  obtain ⟨h1, h2⟩ := h.per p ((List.eraseIdx_sublist l i).subset hp)
  exact ⟨⟨ints_fix h1.i h2 f, h1.m⟩, h2⟩⟩
/-- What without returns. -/
def WoEnd (l : List Qf) (s : Int) (w : World) (e : Ending) (w' : World) : Prop :=
 (∃ A n c, e = .returned (.tuple #[.slice A n c, .bool (decide (s ∈ srcL l))]) ∧ (s ∈ srcL l → ∃ l', Prf w' A n l' ∧ l'.map Pf.q = lssL l s ∧ n ≤ 60) ∧ (s ∉ srcL l → A = none ∧ n = 0 ∧ c = 0)) ∧ Below w.heap.size w w'
set_option maxRecDepth 100000 in
set_option maxHeartbeats 4000000 in
theorem without_any (A : Option Addr) (n c : Nat) (l : List Pf) (s : Int) (w : World) (ha : Prf w A n l) (hok : okL (l.map Pf.q) = true) :
  Calls Tryz.prog 74 #[.slice A n c, .int .i64 s] w (WoEnd (l.map Pf.q) s w) := by
 have hlen := ha.len
 have hn : n ≤ 60 := by have := okL_len hok; rw [List.length_map] at this; omega
 have TF := Lib.hid (find_any A n c l s w ha (by omega) (ok_rise hok))
 have hfd := fndP_iff (s := s) hok
 have HER := Lib.hid (fun h => lssP_erase (s := s) hok h)
 have HQ4 := Lib.hid (fun p (hp : p ∈ l) => isQf_per4 (okL_all hok _ (List.mem_map.2 ⟨p, hp, rfl⟩)))
 have TC := Lib.hid (fun W (g : Below w.heap.size w W) => copied_any A n c l W (ha.below g) (by omega) fun p hp => by have h1 := HQ4.out p hp; have h2 := (ha.p p hp).len; omega)
 have HMQ := Lib.hid (fun i (l' : List Pf) (h : l'.map Pf.q = l.map Pf.q) => (show (l'.eraseIdx i).map Pf.q = (l.map Pf.q).eraseIdx i by rw [← h, List.eraseIdx_eq_take_drop_succ, List.eraseIdx_eq_take_drop_succ, List.map_append, List.map_take, List.map_drop]))
 obtain ⟨lq, hlq⟩ : ∃ s, l.map Pf.q = s := ⟨_, rfl⟩
 have HLQ := Lib.hid hlq
 rw [hlq] at hfd HMQ HER ⊢
 have HLN := Lib.hid hlen
 obtain ⟨ip, hip⟩ : ∃ i, insP l s = i := ⟨_, rfl⟩
 have HIP := Lib.hid (show fndP l s = true → ip < n ∧ lq.eraseIdx ip = lssL lq s from fun h => by rw [← hip, ← hlen]; exact HER.out h)
 rw [hip] at TF
 by_cases hm : s ∈ srcL lq
 ·rw [decide_eq_true hm] at hfd
  rw [hfd] at TF
  obtain ⟨hin, her⟩ := HIP.out hfd
  have HM := Lib.hid hm
  have HE := Lib.hid her
  have hwr2 : wrap64 ((ip : Int) + 1) = (ip : Int) + 1 := wrap_in (by omega)
  clear ha hok hfd hlq hip hm her hlen HER HIP
  go_enter Tryz.func74, Tryz.ntmps74
  go_wp2_with (first
   | (go_at_call 114; (with_reducible refine (TF.out).mono ?_); rintro e W1 ⟨rfl, hg1⟩; have HG1 := Lib.hid hg1; clear hg1)
   | (go_at_call 116; (with_reducible refine (TC.out _ HG1.out).mono ?_); rintro e W2 ⟨⟨g2, rfl, ⟨l2, ho2, hq2⟩⟩, hg2⟩; rw [HLQ.out] at hq2; have HG2 := Lib.hid (HG1.out.trans (hg2.mono HG1.out.size)); have HO2 := Lib.hid ho2; have HQ2 := Lib.hid hq2; have HB2 := Lib.hid (show W1.heap.size ≤ g2 from (own_inv ho2.own).2.1); have TD := Lib.hid (delP_any W1.heap.size g2 n n ip l2 W2 ho2.own hin (by omega)); clear ho2 hq2 hg2)
   | (go_at_call 68; (with_reducible refine (TD.out).mono ?_); rintro e W3 ⟨rfl, ho3, hf3⟩; have HO3 := Lib.hid (HO2.out.del ho3 hf3); have HG3 := Lib.hid (HG2.out.trans (hf3.low (Nat.le_trans HG1.out.size HB2.out) HG2.out.size)); clear ho3 hf3))
  go_ret2
  exact ⟨⟨_, _, _, by rw [decide_eq_true HM.out]; rfl, fun _ => ⟨_, HO3.out.prf, by rw [HMQ.out _ _ HQ2.out]; exact HE.out, by omega⟩, fun h => absurd HM.out h⟩, HG3.out⟩
 ·rw [decide_eq_false hm] at hfd
  rw [hfd] at TF
  have HM := Lib.hid hm
  clear ha hok hfd hlq hip hm hlen HER HIP
  go_enter Tryz.func74, Tryz.ntmps74
  go_wp2_with (first
   | (go_at_call 114; (with_reducible refine (TF.out).mono ?_); rintro e W1 ⟨rfl, hg1⟩; have HG1 := Lib.hid hg1; clear hg1))
  go_ret2
  exact ⟨⟨_, _, _, by rw [decide_eq_false HM.out]; rfl, fun h => absurd h HM.out, fun _ => ⟨rfl, rfl, rfl⟩⟩, HG1.out⟩
theorem Prf.none (w : World) : Prf w none 0 [] := ⟨Arr.nil_, fun p hp => by cases hp⟩
end Go.Proofs.YtehhlgdkhecacaaGreat

namespace Go.Proofs.YtehhlgdkhecacaaGreat
open Go.RowKit Go.Shelf
/-- Where a person is settled, as Where says it. -/
def whE (l : List Qf) (day known n : Int) : Int := readE l n 0 [day, known] known
def whA (l : List Qf) (day known n : Int) : List Int := if whE l day known n = 0 then wherS (cntL l known) n day else []
def movB (l less : List Qf) (day known n : Int) : Bool := decide (whE l day known n ≠ whE less day known n) || decide (whA l day known n ≠ whA less day known n)
def movS (l : List Qf) (s day known : Int) : List Int := (persS (cntL l known)).filter (movB l (lssL l s) day known)
def movE (l : List Qf) (s day known : Int) : Int := if lookE l [day, known] = 0 then (if s ∈ srcL l then 0 else 3) else lookE l [day, known]
theorem movE_no {l : List Qf} {s day known x : Int} (h : lookE l [day, known] = x) (hx : x ≠ 0) : movE l s day known = x := by unfold movE; rw [h, if_neg hx]
theorem filt_succ (l : List Int) (f : Int → Bool) {k : Nat} (hk : k < l.length) : (l.take (k + 1)).filter f = (l.take k).filter f ++ (if f (l.getD k 0) = true then [l.getD k 0] else []) := by
 rw [take_snoc (d := 0) hk, List.filter_append]
 congr 1
 by_cases h : f (l.getD k 0) = true
 ·rw [if_pos h, List.filter_cons_of_pos h]; rfl
 ·rw [if_neg h, List.filter_cons_of_neg h]; rfl
theorem putF_len : ∀ (l out : List Int), (l.foldl putI out).length ≤ out.length + l.length
 | [], out => Nat.le_refl _
 | x :: l, out => by
  rw [List.foldl_cons, List.length_cons]
  have h1 := putF_len l (putI out x)
  have h2 := putI_len out x
  omega
theorem persS_len {c : List Qf} (h : ∀ q ∈ c, q.per.length ≤ 4) : (persS c).length ≤ 5 * c.length := by
 have h1 := putF_len (namL c) []
 have h2 := namL_len c h
 rw [List.length_nil, Nat.zero_add] at h1
 exact Nat.le_trans h1 h2
theorem whereN_any (A : Option Addr) (n c : Nat) (l : List Pf) (person day known : Int) (w : World) (ha : Prf w A n l) (hn : n ≤ 9223372036854775807) :
  Calls Tryz.prog 26 #[.slice A n c, .int .i64 person, .int .i64 day, .int .i64 known] w fun e w' => ∃ A' n' c', e = .returned (.tuple #[.slice A' n' c', .int .i64 (whE (l.map Pf.q) day known person)]) ∧ Ints w' A' n' (whA (l.map Pf.q) day known person) ∧ n' ≤ 9223372036854775807 ∧ Below w.heap.size w w' := by
 refine (whereF_any A n c l person day known w ha hn).mono ?_
 rintro e w' ⟨A', n', k, rfl, hi, h1, h2, hg⟩
 unfold maxLen at h2
 exact ⟨A', n', k, rfl, hi, by omega, hg⟩
set_option maxRecDepth 100000 in
set_option maxHeartbeats 8000000 in
theorem moved_any (A : Option Addr) (n c : Nat) (l : List Pf) (s day known : Int) (w : World) (ha : Prf w A n l) (hn : n ≤ 9223372036854775807) :
  Calls Tryz.prog 17 #[.slice A n c, .int .i64 s, .int .i64 day, .int .i64 known] w (ListEnd (movS (l.map Pf.q) s day known) (movE (l.map Pf.q) s day known) w) := by
 obtain ⟨W1, hW1⟩ : ∃ X, w.alloc (.cells #[.int .i64 day, .int .i64 known] 3) = X := ⟨_, rfl⟩
 have g1 : Below w.heap.size w W1 := by rw [← hW1]; exact one_more _ _
 have b1 : Blk W1 w.heap.size 3 #[.int .i64 day, .int .i64 known] := by rw [← hW1]; exact Blk.new _ _ _
 have T := look_any A n c l (some ⟨w.heap.size, 0, none⟩) 2 2 [day, known] W1 (ha.below g1) hn (two_ints b1) (by decide) (by decide)
 unfold LookEnd at T
 rw [show ([day, known] : List Int).getD (([day, known] : List Int).length - 1) 0 = known from rfl] at T
 have HLE := Lib.hid (show ∀ x, lookE (l.map Pf.q) [day, known] = x → x ≠ 0 → movE (l.map Pf.q) s day known = x from fun x h hx => movE_no h hx)
 have HME := Lib.hid (show lookE (l.map Pf.q) [day, known] = 0 → movE (l.map Pf.q) s day known = if s ∈ srcL (l.map Pf.q) then 0 else 3 from fun h => by unfold movE; rw [if_pos h])
 have HOK := Lib.hid (show lookE (l.map Pf.q) [day, known] = 0 → okL (l.map Pf.q) = true from fun h => by
  unfold lookE at h
  by_cases ho : okL (l.map Pf.q) = true
  ·exact ho
  ·rw [if_neg ho] at h; cases h)
 obtain ⟨le, hle⟩ : ∃ x, lookE (l.map Pf.q) [day, known] = x := ⟨_, rfl⟩
 rw [hle] at T HLE HME HOK
 have G1 := Lib.hid g1
 have HW1 := Lib.hid hW1
 have HT := Lib.hid T
 have HA := Lib.hid ha
 clear g1 b1 hW1 T hle ha
 by_cases hz : le = 0
 ·subst hz
  have hok := HOK.out rfl
  have hl60 : l.length ≤ 60 := by have := okL_len hok; rwa [List.length_map] at this
  have HN60 := Lib.hid (show n ≤ 60 by rw [← HA.out.len]; exact hl60)
  have HFM := Lib.hid (show (l.filter fun p => cnt p.q known).map Pf.q = cntL (l.map Pf.q) known from filt_map l (fun q => cnt q known))
  have HCN := Lib.hid (fun (W : World) (A : Option Addr) (m : Nat) (hp : Prf W A m (l.filter fun p => cnt p.q known)) (hm : m ≤ 60) => cn_of hok hp hm)
  have HFL := Lib.hid (show (l.filter fun p => cnt p.q known).length ≤ 60 from Nat.le_trans (List.length_filter_le _ _) hl60)
  have HPI := Lib.hid (fun p (hp : p ∈ l.filter fun p => cnt p.q known) => (show p ∈ l from (List.mem_filter.1 hp).1))
  have HPE := Lib.hid (show (persS (cntL (l.map Pf.q) known)).length ≤ 300 from by
   have h1 := persS_len (c := cntL (l.map Pf.q) known) fun q hq => (isQf_per4 (okL_all hok q (List.mem_filter.1 hq).1)).2
   have h2 := HFL.out
   rw [← HFM.out, List.length_map] at h1
   rw [← HFM.out]
   omega)
  obtain ⟨fl, hfl⟩ : ∃ s, (l.filter fun p => cnt p.q known) = s := ⟨_, rfl⟩
  rw [hfl] at HFM HCN HFL HT HPI
  have TW := Lib.hid (fun W (g : Below w.heap.size w W) => without_any A n c l s W (HA.out.below g) hok)
  have HME2 := Lib.hid (HME.out rfl)
  have TA := Lib.hid (fun W (g : Below w.heap.size w W) x => whereN_any A n c l x day known W (HA.out.below g) hn)
  have HMS := Lib.hid (show movS (l.map Pf.q) s day known = (persS (cntL (l.map Pf.q) known)).filter (movB (l.map Pf.q) (lssL (l.map Pf.q) s) day known) from rfl)
  obtain ⟨lq, hlq⟩ : ∃ s, l.map Pf.q = s := ⟨_, rfl⟩
  rw [hlq] at TW HME2 HMS TA HFM HPE ⊢
  clear hok hl60 hfl hlq HLE HME HOK
  obtain ⟨ps, hps⟩ : ∃ x, persS (cntL lq known) = x := ⟨_, rfl⟩
  rw [hps] at HMS HPE
  obtain ⟨ms, hms⟩ : ∃ x, movS lq s day known = x := ⟨_, rfl⟩
  rw [hms] at HMS ⊢
  have HPS := Lib.hid hps
  clear hms hps
  by_cases hm : s ∈ srcL lq
  ·have HM := Lib.hid hm
   have HME3 := Lib.hid (show movE lq s day known = 0 by rw [HME2.out, if_pos hm])
   clear HME2 hm
   go_enter Tryz.func17, Tryz.ntmps17
   go_upto_region 2 with (go_at_call 73; rw [HW1.out]; (with_reducible refine (HT.out).mono ?_); rintro e V ⟨⟨v, rfl, ho, -⟩, hg⟩; have GV := Lib.hid (G1.out.trans (hg.mono G1.out.size)); obtain ⟨A2, c2, rfl, hp1, hp2, hp3⟩ := own_prf (ho rfl) (fun p hp => (HA.out.p p (HPI.out p hp)).below GV.out); have HP := Lib.hid (And.intro hp1 (And.intro hp2 hp3)); clear ho hp1 hp2 hp3 hg)
   go_upto_region 5 with (go_at_call 74; (with_reducible refine (TW.out _ GV.out).mono ?_); rintro e V2 ⟨⟨A3, n3, c3, rfl, hp3, -⟩, hg3⟩; rw [decide_eq_true HM.out]; have HP3 := Lib.hid (hp3 HM.out); have GV2 := Lib.hid (GV.out.trans (hg3.mono GV.out.size)); have GVV := Lib.hid hg3; clear hp3 hg3)
   obtain ⟨l3, hl3, hq3, hn3⟩ := HP3.out
   have TB := Lib.hid (fun W (g : Below V2.heap.size V2 W) x => whereN_any A3 n3 c3 l3 x day known W (hl3.below g) (by omega))
   rw [hq3] at TB
   have TP := persons_any A2 fl.length c2 fl V2 (HCN.out V2 A2 _ (HP.out.2.2.below GVV.out) HFL.out)
   rw [HFM.out, HPS.out] at TP
   have HTP := Lib.hid TP
   clear TP hl3 hq3 hn3 HP3
   go_upto_region 9 with (go_at_call 75; (with_reducible refine (HTP.out).mono ?_); rintro e V3 ⟨⟨v, rfl, ho⟩, hg⟩; obtain ⟨A4, c4, rfl, h41, h42, har4, -⟩ := OwnL.arr kdI ho; have HI4 := Lib.hid har4; have GV3 := Lib.hid (GV2.out.trans (hg.mono GV2.out.size)); have GVW := Lib.hid hg; clear ho hg har4 h41 h42)
   have HO0 := Lib.hid (fun (W : World) => OwnL.nil (f := icells) (size := 1) (e := 3) W V3.heap.size)
   obtain ⟨less, hless⟩ : ∃ x, lssL lq s = x := ⟨_, rfl⟩
   rw [hless] at TB HMS
   clear hless
   obtain ⟨m, hm⟩ : ∃ m, ps.length = m := ⟨_, rfl⟩
   have HPL := Lib.hid hm
   rw [hm] at HI4 HPE ⊢
   have hm300 := HPE.out
   have HNL := Lib.hid (fun k => (show ((ps.take k).filter (movB lq less day known)).length ≤ 300 from by
    have h1 := List.length_filter_le (movB lq less day known) (ps.take k)
    rw [List.length_take] at h1
    omega))
   have HFS := Lib.hid (fun k (hk : k < m) => filt_succ ps (movB lq less day known) (k := k) (by rw [HPL.out]; exact hk))
   have HFE := Lib.hid (show (ps.take m).filter (movB lq less day known) = ms by rw [List.take_of_length_le (by rw [HPL.out]; exact Nat.le_refl _), HMS.out])
   have HF0 := Lib.hid (show (ps.take 0).filter (movB lq less day known) = [] from rfl)
   obtain ⟨nm, hnm⟩ : ∃ f : Nat → List Int, (fun k => (ps.take k).filter (movB lq less day known)) = f := ⟨_, rfl⟩
   have hnk : ∀ k, (ps.take k).filter (movB lq less day known) = nm k := fun k => by rw [← hnm]
   rw [hnk] at HFE HF0
   simp only [hnk] at HNL HFS
   clear hm hnm hnk
   go_loopw [14, 43] (fun v i wr => ∃ k : Nat, k ≤ m ∧ OwnL icells 1 3 wr V3.heap.size v (nm k) ∧ i = .int .i64 k ∧ Below V3.heap.size V3 wr) (fun _ i _ => m - (intOf i).toNat)
   case atStart => exact ⟨0, Nat.zero_le _, by rw [HF0.out]; exact HO0.out _, rfl, Below.refl _ _⟩
   case round =>
    obtain ⟨k, hk, ho, rfl, hg⟩ := hrel
    have HG := Lib.hid hg
    have HOX := Lib.hid ho
    clear ho
    by_cases hkn : k < m
    ·obtain ⟨b, o, rfl, -, -, hc⟩ := ints_at (HI4.out.below hg) hkn
     have hx0 := hc wr (Below.refl _ _)
     obtain ⟨x, hx⟩ : ∃ x, ps.getD k 0 = x := ⟨_, rfl⟩
     rw [hx] at hx0
     have hwr2 : wrap64 ((k : Int) + 1) = (k : Int) + 1 := wrap_in (by omega)
     have HSU := HFS.out k hkn
     rw [hx] at HSU
     have GA := Lib.hid (GV3.out.trans (hg.mono GV3.out.size))
     have GB := Lib.hid (GVW.out.trans (hg.mono GVW.out.size))
     have TAx := TA.out wr GA.out x
     have TBx := fun W g => TB.out W g x
     have HMB := Lib.hid (show movB lq less day known x = (decide (whE lq day known x ≠ whE less day known x) || decide (whA lq day known x ≠ whA less day known x)) from rfl)
     obtain ⟨ex, hex⟩ : ∃ y, whE lq day known x = y := ⟨_, rfl⟩
     obtain ⟨fx, hfx⟩ : ∃ y, whE less day known x = y := ⟨_, rfl⟩
     obtain ⟨wa, has⟩ : ∃ y, whA lq day known x = y := ⟨_, rfl⟩
     obtain ⟨wb, hbs⟩ : ∃ y, whA less day known x = y := ⟨_, rfl⟩
     rw [hex, has] at TAx
     rw [hex, hfx, has, hbs] at HMB
     simp only [hfx, hbs] at TBx
     rw [HMB.out] at HSU
     have HTA := Lib.hid TAx
     have HTB := Lib.hid TBx
     have HS := Lib.hid HSU
     have HNK := Lib.hid (HNL.out k)
     obtain ⟨nk, hnk⟩ : ∃ y, nm k = y := ⟨_, rfl⟩
     rw [hnk] at HS HNK HOX
     clear hex hfx has hbs TAx TBx HSU HMB hx hc hg hnk
     go_upto_region 13 with (first
      | (go_at_call 26; (with_reducible refine (HTA.out).mono ?_); rintro e W5 ⟨A5, n5, c5, rfl, hi5, h51, hg5⟩; have HI5 := Lib.hid hi5; have H51 := Lib.hid h51; have HG5 := Lib.hid hg5; clear hi5 h51 hg5)
      | (go_at_call 26; (with_reducible refine (HTB.out _ (GB.out.trans (HG5.out.mono GB.out.size))).mono ?_); rintro e W6 ⟨A6, n6, c6, rfl, hi6, h61, hg6⟩; have HI6 := Lib.hid hi6; have H61 := Lib.hid h61; have HG6 := Lib.hid hg6; clear hi6 h61 hg6))
     have G56 := Lib.hid (show Below wr.heap.size wr W6 from HG5.out.trans (HG6.out.mono HG5.out.size))
     have HI5b := Lib.hid (HI5.out.below HG6.out)
     by_cases hee : ex = fx
     ·have heb : (ex != fx) = false := by simpa using hee
      have TE := Lib.hid (equal_any A5 A6 n5 c5 n6 c6 wa wb W6 HI5b.out HI6.out H51.out H61.out)
      by_cases hab : wa = wb
      ·rw [decide_eq_true hab] at TE
       have HS3 := Lib.hid (show nm (k + 1) = nk by rw [HS.out, if_neg (by simp [hee, hab]), List.append_nil])
       clear hee hab
       go_wp2_with (first | (go_at_call 76; (with_reducible refine (TE.out).mono ?_); rintro e W7 ⟨rfl, hg7⟩; have HG7 := Lib.hid (G56.out.trans (hg7.mono G56.out.size)); clear hg7))
       go_roundw
       case rel => exact ⟨k + 1, by omega, by rw [HS3.out]; exact HOX.out.ext HG7.out, rfl, HG.out.trans (HG7.out.mono HG.out.size)⟩
       case measure => simp only [intOf]; omega
      ·rw [decide_eq_false hab] at TE
       have HS3 := Lib.hid (show nm (k + 1) = nk ++ [x] by rw [HS.out, if_pos (by simp [hab])])
       clear hee hab
       go_upto_region 14 with (first | (go_at_call 76; (with_reducible refine (TE.out).mono ?_); rintro e W7 ⟨rfl, hg7⟩; have HG7 := Lib.hid (G56.out.trans (hg7.mono G56.out.size)); clear hg7))
       have GX := Lib.hid (one_more W7 (.cells #[.int .i64 x] 3))
       have HI := Lib.hid (one_int (Blk.new W7 3 #[.int .i64 x]))
       have HO7 := Lib.hid ((HOX.out.ext HG7.out).ext GX.out)
       have HGZ := Lib.hid ((HG.out.trans (HG7.out.mono HG.out.size)).trans (GX.out.mono (Nat.le_trans HG.out.size HG7.out.size)))
       have HTL := Lib.hid (show nk.length + 1 ≤ 1000000 by have := HNK.out; omega)
       go_wp2_with (first | (at_builtin; go_loud (refine wpList_app kdI (by rfl) _ _ (by rfl) V3.heap.size _ nk (by rfl) HO7.out _ 1 1 [x] (by rfl) HI.out HTL.out HGZ.out.size ?_); intro v' w' ho hgr hz; have HO8 := Lib.hid ho; have GV8 := Lib.hid (HGZ.out.trans (HO7.out.below hgr (Nat.le_refl _) HGZ.out.size)); clear ho hgr hz))
       go_roundw
       case rel => exact ⟨k + 1, by omega, by rw [HS3.out]; exact HO8.out, rfl, GV8.out⟩
       case measure => simp only [intOf]; omega
     ·have heb : (ex != fx) = true := by simpa using hee
      have HS3 := Lib.hid (show nm (k + 1) = nk ++ [x] by rw [HS.out, if_pos (by simp [hee])])
      clear hee
      go_upto_region 14 with fail
      have GX := Lib.hid (one_more W6 (.cells #[.int .i64 x] 3))
      have HI := Lib.hid (one_int (Blk.new W6 3 #[.int .i64 x]))
      have HO7 := Lib.hid ((HOX.out.ext G56.out).ext GX.out)
      have HGZ := Lib.hid ((HG.out.trans (G56.out.mono HG.out.size)).trans (GX.out.mono (Nat.le_trans HG.out.size G56.out.size)))
      have HTL := Lib.hid (show nk.length + 1 ≤ 1000000 by have := HNK.out; omega)
      go_wp2_with (first | (at_builtin; go_loud (refine wpList_app kdI (by rfl) _ _ (by rfl) V3.heap.size _ nk (by rfl) HO7.out _ 1 1 [x] (by rfl) HI.out HTL.out HGZ.out.size ?_); intro v' w' ho hgr hz; have HO8 := Lib.hid ho; have GV8 := Lib.hid (HGZ.out.trans (HO7.out.below hgr (Nat.le_refl _) HGZ.out.size)); clear ho hgr hz))
      go_roundw
      case rel => exact ⟨k + 1, by omega, by rw [HS3.out]; exact HO8.out, rfl, GV8.out⟩
      case measure => simp only [intOf]; omega
    ·obtain rfl : k = m := by omega
     clear hg
     go_wp2_with fail
     go_ret2
     rw [HME3.out]
     exact listEnd_ok (by rw [← HFE.out]; exact HOX.out) (GV3.out.trans (HG.out.mono GV3.out.size))
  ·have HM := Lib.hid hm
   have HME3 := Lib.hid (show movE lq s day known = 3 by rw [HME2.out, if_neg hm])
   clear HME2 hm
   go_enter Tryz.func17, Tryz.ntmps17
   go_wp2_with (first
    | (go_at_call 73; rw [HW1.out]; (with_reducible refine (HT.out).mono ?_); rintro e V ⟨⟨v, rfl, ho, -⟩, hg⟩; have GV := Lib.hid (G1.out.trans (hg.mono G1.out.size)); obtain ⟨A2, c2, rfl, hp1, hp2, hp3⟩ := own_prf (ho rfl) (fun p hp => (HA.out.p p (HPI.out p hp)).below GV.out); have HP := Lib.hid (And.intro hp1 (And.intro hp2 hp3)); clear ho hp1 hp2 hp3 hg)
    | (go_at_call 74; (with_reducible refine (TW.out _ GV.out).mono ?_); rintro e V2 ⟨⟨A3, n3, c3, rfl, -, hp3⟩, hg3⟩; rw [decide_eq_false HM.out]; have GV2 := Lib.hid (GV.out.trans (hg3.mono GV.out.size)); clear hp3 hg3))
   go_ret2
   rw [HME3.out]
   exact listEnd_no (by decide) GV2.out
 ·have hzb : (le != 0) = true := by simpa using hz
  have HZ := Lib.hid hz
  have HE := Lib.hid (HLE.out le rfl hz)
  clear hz HLE HME HOK
  go_enter Tryz.func17, Tryz.ntmps17
  go_wp2_with (go_at_call 73; rw [HW1.out]; (with_reducible refine (HT.out).mono ?_); rintro e V ⟨⟨v, rfl, -, ho⟩, hg⟩; obtain rfl := ho HZ.out; have GV := Lib.hid (G1.out.trans (hg.mono G1.out.size)); clear ho hg)
  go_ret2
  rw [HE.out]
  exact listEnd_no HZ.out GV.out
end Go.Proofs.YtehhlgdkhecacaaGreat

namespace Go.Proofs.YtehhlgdkhecacaaGreat
open Go.RowKit Go.Shelf
def exL : List Qf := [⟨1, 1, [5, 6], 0, 0, 10, 0, 0, 0⟩, ⟨2, 1, [6], 0, 1, 30, 0, 0, 0⟩, ⟨3, 3, [5], 0, 2, 100, 464, 0, 0⟩, ⟨4, 2, [7], 5, 0, 500, 0, 0, 0⟩, ⟨5, 7, [5, 7], 0, 3, 600, 0, 610, 700⟩, ⟨6, 8, [5, 6], 0, 4, 200, 0, 650, 0⟩]
def exM : List Qf := exL ++ [⟨7, 1, [5], 0, 5, 1, 0, 0, 0⟩]
theorem ex1 : lookE exL [610] = 0 ∧ (reads (cntL exL 610)).length = 2 := by decide +kernel
theorem ex2 : lookE exL [0] = 0 ∧ (reads (cntL exL 0)).getD 0 [] = [5, 6, 5, 7] ∧ (0 : Nat) < (reads (cntL exL 0)).length := by decide +kernel
theorem ex3 : byRdE exL 5 0 [0] [5, 6, 5, 7] = 0 ∧ titlesS (cntL exL 0) [5, 6, 5, 7] 5 = [⟨10, 0, 1⟩, ⟨465, 2, 3⟩] := by decide +kernel
theorem ex4 : readE exL 7 0 [600, 610] 610 = 0 ∧ wherS (cntL exL 610) 7 600 = [2, 3] := by decide +kernel
theorem ex5 : readE exL 7 2 [600, 700] 700 = 0 ∧ righN (wherS (cntL exL 700) 7 600) 2 = 1 := by decide +kernel
theorem ex6 : shE exL 7 3 600 610 true = 0 ∧ shL (cntL exL 610) 7 3 600 true = [5, 6, 5, 7, 7] := by decide +kernel
theorem ex7 : readE exL 1 2 [500, 0] 0 = 0 ∧ belS (cntL exL 0) 2 500 = [5, 7] := by decide +kernel
theorem ex8 : readE exL 7 2 [500, 0] 0 = 0 ∧ rstS (cntL exL 0) 7 2 500 = [3, 4] := by decide +kernel
theorem ex9 : movE exL 3 500 0 = 0 ∧ movS exL 3 500 0 = [5, 7] := by decide +kernel
theorem ex10 : clE exM 0 = 0 ∧ clashL (cntL exM 0) = [1, 2, 7] := by decide +kernel
/-- The examples in memory. -/
def exP (s : Nat) : List Pf := [⟨exL.getD 0 q0, some ⟨s, 0, none⟩, 2, 2⟩, ⟨exL.getD 1 q0, some ⟨s + 1, 0, none⟩, 1, 1⟩, ⟨exL.getD 2 q0, some ⟨s + 1 + 1, 0, none⟩, 1, 1⟩, ⟨exL.getD 3 q0, some ⟨s + 1 + 1 + 1, 0, none⟩, 1, 1⟩, ⟨exL.getD 4 q0, some ⟨s + 1 + 1 + 1 + 1, 0, none⟩, 2, 2⟩, ⟨exL.getD 5 q0, some ⟨s + 1 + 1 + 1 + 1 + 1, 0, none⟩, 2, 2⟩]
theorem exP_q (s : Nat) : (exP s).map Pf.q = exL := rfl
theorem size_al (w : World) (o : Obj) : (w.alloc o).heap.size = w.heap.size + 1 := World.size_alloc w o
theorem blk_next {w : World} {o : Obj} {s : Nat} (h : w.heap.size = s) {t : TypeId} {cs : Array Value} : Blk ((w.alloc o).alloc (.cells cs t)) (s + 1) t cs := by
 have := Blk.new (w.alloc o) t cs
 rwa [size_al, h] at this
theorem ex_own (w W1 W2 W3 W4 W5 W6 W7 : World) (h1 : W1 = w.alloc (.cells #[.int .i64 5, .int .i64 6] 3)) (h2 : W2 = W1.alloc (.cells #[.int .i64 6] 3)) (h3 : W3 = W2.alloc (.cells #[.int .i64 5] 3)) (h4 : W4 = W3.alloc (.cells #[.int .i64 7] 3)) (h5 : W5 = W4.alloc (.cells #[.int .i64 5, .int .i64 7] 3)) (h6 : W6 = W5.alloc (.cells #[.int .i64 5, .int .i64 6] 3)) (h7 : W7 = W6.alloc (.cells ((exP w.heap.size).flatMap pcells).toArray 56)) :
  OwnP W7 w.heap.size (w.heap.size + 1 + 1 + 1 + 1 + 1 + 1) 6 6 (exP w.heap.size) ∧ Below w.heap.size w W7 := by
 have s0 : w.heap.size = w.heap.size := rfl
 have s1 : W1.heap.size = w.heap.size + 1 := by rw [h1, size_al, s0]
 have s2 : W2.heap.size = w.heap.size + 1 + 1 := by rw [h2, size_al, s1]
 have s3 : W3.heap.size = w.heap.size + 1 + 1 + 1 := by rw [h3, size_al, s2]
 have s4 : W4.heap.size = w.heap.size + 1 + 1 + 1 + 1 := by rw [h4, size_al, s3]
 have s5 : W5.heap.size = w.heap.size + 1 + 1 + 1 + 1 + 1 := by rw [h5, size_al, s4]
 have s6 : W6.heap.size = w.heap.size + 1 + 1 + 1 + 1 + 1 + 1 := by rw [h6, size_al, s5]
 have b0 : Blk W1 (w.heap.size) 3 #[.int .i64 5, .int .i64 6] := by
  have := Blk.new w 3 #[.int .i64 5, .int .i64 6]
  rwa [s0, ← h1] at this
 have b1 : Blk W2 (w.heap.size + 1) 3 #[.int .i64 6] := by
  have := Blk.new W1 3 #[.int .i64 6]
  rwa [s1, ← h2] at this
 have b2 : Blk W3 (w.heap.size + 1 + 1) 3 #[.int .i64 5] := by
  have := Blk.new W2 3 #[.int .i64 5]
  rwa [s2, ← h3] at this
 have b3 : Blk W4 (w.heap.size + 1 + 1 + 1) 3 #[.int .i64 7] := by
  have := Blk.new W3 3 #[.int .i64 7]
  rwa [s3, ← h4] at this
 have b4 : Blk W5 (w.heap.size + 1 + 1 + 1 + 1) 3 #[.int .i64 5, .int .i64 7] := by
  have := Blk.new W4 3 #[.int .i64 5, .int .i64 7]
  rwa [s4, ← h5] at this
 have b5 : Blk W6 (w.heap.size + 1 + 1 + 1 + 1 + 1) 3 #[.int .i64 5, .int .i64 6] := by
  have := Blk.new W5 3 #[.int .i64 5, .int .i64 6]
  rwa [s5, ← h6] at this
 have g1 : Below w.heap.size w W1 := by rw [h1]; exact one_more _ _
 have g2 : Below W1.heap.size W1 W2 := by rw [h2]; exact one_more _ _
 have g3 : Below W2.heap.size W2 W3 := by rw [h3]; exact one_more _ _
 have g4 : Below W3.heap.size W3 W4 := by rw [h4]; exact one_more _ _
 have g5 : Below W4.heap.size W4 W5 := by rw [h5]; exact one_more _ _
 have g6 : Below W5.heap.size W5 W6 := by rw [h6]; exact one_more _ _
 have g7 : Below W6.heap.size W6 W7 := by rw [h7]; exact one_more _ _
 have b6 : Blk W7 (w.heap.size + 1 + 1 + 1 + 1 + 1 + 1) 56 ((exP w.heap.size).flatMap pcells).toArray := by
  have := Blk.new W6 56 ((exP w.heap.size).flatMap pcells).toArray
  rwa [s6, ← h7] at this
 have c0 := ((((((b0.ext g2).ext g3).ext g4).ext g5).ext g6).ext g7)
 have c1 := (((((b1.ext g3).ext g4).ext g5).ext g6).ext g7)
 have c2 := ((((b2.ext g4).ext g5).ext g6).ext g7)
 have c3 := (((b3.ext g5).ext g6).ext g7)
 have c4 := ((b4.ext g6).ext g7)
 have c5 := (b5.ext g7)
 refine ⟨⟨own_mk pcells_len rfl (by omega) b6 (by decide) (by unfold maxLen; decide) rfl rfl, fun p hp => ?_⟩, ?_⟩
 ·have hp : p ∈ exP w.heap.size := hp
  unfold exP at hp
  simp only [List.mem_cons, List.not_mem_nil, or_false] at hp
  rcases hp with rfl | rfl | rfl | rfl | rfl | rfl
  ·exact ⟨⟨two_ints c0, ⟨Nat.le_refl _, (by show 2 ≤ 9223372036854775807; omega)⟩⟩, fun a e => by cases e; show w.heap.size ≠ w.heap.size + 1 + 1 + 1 + 1 + 1 + 1; omega⟩
  ·exact ⟨⟨one_int c1, ⟨Nat.le_refl _, (by show 1 ≤ 9223372036854775807; omega)⟩⟩, fun a e => by cases e; show w.heap.size + 1 ≠ w.heap.size + 1 + 1 + 1 + 1 + 1 + 1; omega⟩
  ·exact ⟨⟨one_int c2, ⟨Nat.le_refl _, (by show 1 ≤ 9223372036854775807; omega)⟩⟩, fun a e => by cases e; show w.heap.size + 1 + 1 ≠ w.heap.size + 1 + 1 + 1 + 1 + 1 + 1; omega⟩
  ·exact ⟨⟨one_int c3, ⟨Nat.le_refl _, (by show 1 ≤ 9223372036854775807; omega)⟩⟩, fun a e => by cases e; show w.heap.size + 1 + 1 + 1 ≠ w.heap.size + 1 + 1 + 1 + 1 + 1 + 1; omega⟩
  ·exact ⟨⟨two_ints c4, ⟨Nat.le_refl _, (by show 2 ≤ 9223372036854775807; omega)⟩⟩, fun a e => by cases e; show w.heap.size + 1 + 1 + 1 + 1 ≠ w.heap.size + 1 + 1 + 1 + 1 + 1 + 1; omega⟩
  ·exact ⟨⟨two_ints c5, ⟨Nat.le_refl _, (by show 2 ≤ 9223372036854775807; omega)⟩⟩, fun a e => by cases e; show w.heap.size + 1 + 1 + 1 + 1 + 1 ≠ w.heap.size + 1 + 1 + 1 + 1 + 1 + 1; omega⟩
 ·exact ((((((g1).trans (g2.mono (by omega))).trans (g3.mono (by omega))).trans (g4.mono (by omega))).trans (g5.mono (by omega))).trans (g6.mono (by omega))).trans (g7.mono (by omega))
set_option maxRecDepth 100000 in
set_option maxHeartbeats 4000000 in
theorem proofs_any (w : World) : Calls Tryz.prog 82 #[] w fun e w' => (∃ g l, e = .returned (.slice (some ⟨g, 0, none⟩) 6 6) ∧ OwnP w' w.heap.size g 6 6 l ∧ l.map Pf.q = exL) ∧ Below w.heap.size w w' := by
 go_enter Tryz.func82, Tryz.ntmps82
 go_wp2_with fail
 go_ret
 obtain ⟨h1, h2⟩ := ex_own w _ _ _ _ _ _ _ rfl rfl rfl rfl rfl rfl rfl
 exact ⟨⟨_, _, rfl, h1, exP_q _⟩, h2⟩
end Go.Proofs.YtehhlgdkhecacaaGreat

namespace Go.Proofs.YtehhlgdkhecacaaGreat
open Go.RowKit Go.Shelf
/-- A list without an error. -/
def ListIs (L : List Int) (w : World) (e : Ending) (w' : World) : Prop := ∃ D m d, e = .returned (.tuple #[.slice D m d, .int .i64 0]) ∧ Ints w' D m L ∧ m ≤ 9223372036854775807 ∧ Below w.heap.size w w'
theorem ListEnd.is {l : List Int} {E : Int} {w : World} {e : Ending} {w' : World} (h : ListEnd l E w e w') (hE : E = 0) {L : List Int} (hL : l = L) : ListIs L w e w' := by
 subst hE hL
 obtain ⟨D, m, d, rfl, hi, h1, h2, hg⟩ := h
 unfold maxLen at h2
 exact ⟨D, m, d, rfl, hi, by omega, hg⟩
theorem RdEnd.is {l : List Qf} {known k : Int} {w : World} {e : Ending} {w' : World} (h : RdEnd l known k w e w') (hE : rdE l known k = 0) {L : List Int} (hL : rdV l known k = L) : ListIs L w e w' := by
 obtain ⟨⟨D, m, d, rfl, h1, h2, hi⟩, hg⟩ := h
 rw [hE]
 rw [hL] at hi
 unfold maxLen at h2
 exact ⟨D, m, d, rfl, hi, by omega, hg⟩
theorem same_is {L : List Int} {D : Option Addr} {m d : Nat} {V : World} (hi : Ints V D m L) (hm : m ≤ 9223372036854775807) : ∀ (W : World) (_ : Below V.heap.size V W) (B : Option Addr) (n c : Nat) (_ : Ints W B n L) (_ : n ≤ 9223372036854775807),
  Calls Tryz.prog 19 #[.slice D m d, .slice B n c] W fun e w' => e = .returned (.bool true) ∧ Below W.heap.size W w' := fun W g B n c hb hn => by
 have := sameInts_any D B m d n c L L W (hi.below g) hb hm hn
 rwa [decide_eq_true rfl] at this
theorem tits_is {L : List Tt} {D : Option Addr} {m d : Nat} {V : World} (hi : Arr tcells 3 V D m L) (hm : m ≤ 9223372036854775807) : ∀ (W : World) (_ : Below V.heap.size V W) (B : Option Addr) (n c : Nat) (_ : Arr tcells 3 W B n L) (_ : n ≤ 9223372036854775807),
  Calls Tryz.prog 25 #[.slice D m d, .slice B n c] W fun e w' => e = .returned (.bool true) ∧ Below W.heap.size W w' := fun W g B n c hb hn => by
 have := sameTits_any D B m d n c L L W (hi.below g) hb hm hn
 rwa [decide_eq_true rfl] at this
theorem two_tits {w : World} {b : Nat} {x y : Tt} (h : Blk w b 67 #[.int .i64 x.day, .int .i64 x.par, .int .i64 x.src, .int .i64 y.day, .int .i64 y.par, .int .i64 y.src]) : Arr tcells 3 w (some ⟨b, 0, none⟩) 2 [x, y] := by
 refine ⟨rfl, fun _ => ⟨b, 0, rfl, h.lt, fun k z hz j u hu => ?_⟩⟩
 rcases k with _ | _ | k
 ·cases hz
  rcases j with _ | _ | _ | j
  ·cases hu; exact h.cell 0
  ·cases hu; exact h.cell 1
  ·cases hu; exact h.cell 2
  ·simp [tcells] at hu
 ·cases hz
  rcases j with _ | _ | _ | j
  ·cases hu; exact h.cell 3
  ·cases hu; exact h.cell 4
  ·cases hu; exact h.cell 5
  ·simp [tcells] at hu
 ·simp at hz
theorem rd_ex : rdE exL 0 0 = 0 ∧ rdV exL 0 0 = [5, 6, 5, 7] := by
 have h : rdE exL 0 0 = 0 := by
  unfold rdE
  rw [ex2.1, if_pos rfl, if_pos ⟨by omega, by have := ex2.2.2; omega⟩]
 refine ⟨h, ?_⟩
 unfold rdV
 rw [h, if_pos rfl]
 exact ex2.2.1
/-- The persons of the examples and of one more. -/
theorem ex_per {V V2 W : World} {base g n c s : Nat} {l : List Pf} {q : Qf} (h : OwnP V base g n c l) (G2 : Below V.heap.size V V2) (b : Blk V2 s 3 #[.int .i64 5]) (f : Fix g g V2 W) (hs : s = V.heap.size) (hq : q.per = [5]) :
  ∀ p ∈ l ++ [(⟨q, some ⟨s, 0, none⟩, 1, 1⟩ : Pf)], PI W p := by
 intro p hp
 rw [List.mem_append, List.mem_singleton] at hp
 rcases hp with hp | rfl
 ·obtain ⟨h1, h2⟩ := h.per p hp
  exact ⟨ints_fix (h1.i.below G2) h2 f, h1.m⟩
 ·obtain ⟨-, -, cur, hg, -⟩ := own_inv h.own
  have hlt := hg.lt
  refine ⟨ints_fix (by rw [hq]; exact one_int b) (fun a e => by cases e; show s ≠ g; omega) f, ⟨Nat.le_refl _, by show 1 ≤ 9223372036854775807; omega⟩⟩
set_option maxRecDepth 100000 in
theorem clash_ex {W : World} {A : Option Addr} {c : Nat} {l : List Pf} {a : Addr} (h : Prf W A (l ++ [(⟨⟨7, 1, [5], 0, 5, 1, 0, 0, 0⟩, some a, 1, 1⟩ : Pf)]).length (l ++ [⟨⟨7, 1, [5], 0, 5, 1, 0, 0, 0⟩, some a, 1, 1⟩])) (hq : l.map Pf.q = exL) :
  Calls Tryz.prog 51 #[.slice A (l.length + 1) c, .int .i64 0] W (ListIs [1, 2, 7] W) := by
 have hm : (l ++ [(⟨⟨7, 1, [5], 0, 5, 1, 0, 0, 0⟩, some a, 1, 1⟩ : Pf)]).map Pf.q = exM := by rw [List.map_append, hq]; rfl
 have hl : l.length = 6 := by have := congrArg List.length hq; rw [List.length_map] at this; exact this
 have t := clash_any A _ c _ 0 W h (by rw [List.length_append, hl, List.length_singleton]; decide)
 rw [hm, List.length_append, List.length_singleton] at t
 exact t.mono fun e w' h => h.is ex10.1 ex10.2
set_option maxRecDepth 100000 in
set_option maxHeartbeats 16000000 in
theorem sane_any (w : World) : Calls Tryz.prog 20 #[] w fun e w' => e = .returned (.bool true) ∧ Below w.heap.size w w' := by
 have HEX := Lib.hid ex1
 go_enter Tryz.func20, Tryz.ntmps20
 go_upto_region 2 with (go_at_call 82; (with_reducible refine (proofs_any w).mono ?_); rintro e V1 ⟨⟨g, l, rfl, ho, hq⟩, hg⟩; have HP := Lib.hid ho.prf; have HQ := Lib.hid hq; have HG0 := Lib.hid hg; clear ho hq hg)
 have GC1 := Lib.hid (Below.refl V1.heap.size V1)
 have T2 := Lib.hid (show Calls Tryz.prog 41 #[.slice (some ⟨g, 0, none⟩) 6 6, .int .i64 610] V1 (fun e w' => e = .returned (.tuple #[.int .i64 2, .int .i64 0]) ∧ Below V1.heap.size V1 w') from by
  have t := readingsF_any (some ⟨g, 0, none⟩) 6 6 l 610 V1 (HP.out.below GC1.out) (by decide)
  rw [HQ.out, show rdsN exL 610 = 2 by unfold rdsN; rw [HEX.out.1, if_pos rfl, HEX.out.2]; rfl, HEX.out.1] at t
  exact t)
 go_upto_region 3 with (go_at_call 41; (with_reducible refine (T2.out).mono ?_); rintro e V2 ⟨rfl, hg⟩; have GS2 := Lib.hid hg; clear hg)
 have GC2 := Lib.hid (GC1.out.trans (GS2.out.mono GC1.out.size))
 have T3 := Lib.hid (show Calls Tryz.prog 44 #[.slice (some ⟨g, 0, none⟩) 6 6, .int .i64 0, .int .i64 0] V2 (ListIs [5, 6, 5, 7] V2) from by
  have t := readingF_any (some ⟨g, 0, none⟩) 6 6 l 0 0 V2 (HP.out.below GC2.out) (by decide)
  rw [HQ.out] at t
  exact t.mono fun e w' h => h.is rd_ex.1 rd_ex.2)
 go_upto_region 4 with (go_at_call 44; (with_reducible refine (T3.out).mono ?_); rintro e V3 ⟨D3, m3, d3, rfl, hi, hm, hg⟩; have HI3 := Lib.hid hi; have HM3 := Lib.hid hm; have GS3 := Lib.hid hg; clear hi hm hg)
 have GC3 := Lib.hid (GC2.out.trans (GS3.out.mono GC2.out.size))
 have XI4 := Lib.hid (Blk.intsN (l := [5, 6, 5, 7]) (n := 4) (Blk.new V3 3 #[.int .i64 5, .int .i64 6, .int .i64 5, .int .i64 7]) rfl)
 have XG4 := Lib.hid (one_more V3 (.cells #[.int .i64 5, .int .i64 6, .int .i64 5, .int .i64 7] 3))
 have T4 := Lib.hid (show Calls Tryz.prog 21 #[.slice (some ⟨g, 0, none⟩) 6 6, .slice (some ⟨V3.heap.size, 0, none⟩) 4 4, .int .i64 5, .int .i64 0] (V3.alloc (.cells #[.int .i64 5, .int .i64 6, .int .i64 5, .int .i64 7] 3)) (fun e w' => (∃ D m d, e = .returned (.tuple #[.slice D m d, .int .i64 0]) ∧ Arr tcells 3 w' D m [⟨10, 0, 1⟩, ⟨465, 2, 3⟩] ∧ m ≤ 9223372036854775807 ∧ Below V3.heap.size V3 w')) from by
  have t := titlesF_any (some ⟨g, 0, none⟩) 6 6 l (some ⟨V3.heap.size, 0, none⟩) 4 4 [5, 6, 5, 7] 5 0 _ ((HP.out.below GC3.out).below XG4.out) (by decide) XI4.out (by decide) (by decide)
  rw [HQ.out] at t
  refine t.mono ?_
  rintro e w' ⟨D, m, d, rfl, hi, hg⟩
  rw [ex3.1, if_pos rfl, ex3.2] at hi
  refine ⟨D, m, d, by rw [ex3.1], hi, by have := hi.1; simp at this; omega, XG4.out.trans (hg.mono XG4.out.size)⟩)
 go_upto_region 5 with (go_at_call 21; (with_reducible refine (T4.out).mono ?_); rintro e V4 ⟨D4, m4, d4, rfl, hi, hm, hg⟩; have HI4 := Lib.hid hi; have HM4 := Lib.hid hm; have GS4 := Lib.hid hg; clear hi hm hg)
 have HI3 := Lib.hid (HI3.out.below GS4.out)
 have GC4 := Lib.hid (GC3.out.trans (GS4.out.mono GC3.out.size))
 have T5 := Lib.hid (show Calls Tryz.prog 26 #[.slice (some ⟨g, 0, none⟩) 6 6, .int .i64 7, .int .i64 600, .int .i64 610] V4 (ListIs [2, 3] V4) from by
  have t := whereF_any (some ⟨g, 0, none⟩) 6 6 l 7 600 610 V4 (HP.out.below GC4.out) (by decide)
  rw [HQ.out] at t
  exact t.mono fun e w' h => h.is ex4.1 ex4.2)
 go_upto_region 6 with (go_at_call 26; (with_reducible refine (T5.out).mono ?_); rintro e V5 ⟨D5, m5, d5, rfl, hi, hm, hg⟩; have HI5 := Lib.hid hi; have HM5 := Lib.hid hm; have GS5 := Lib.hid hg; clear hi hm hg)
 have HI3 := Lib.hid (HI3.out.below GS5.out)
 have HI4 := Lib.hid (HI4.out.below GS5.out)
 have GC5 := Lib.hid (GC4.out.trans (GS5.out.mono GC4.out.size))
 have T6 := Lib.hid (show Calls Tryz.prog 28 #[.slice (some ⟨g, 0, none⟩) 6 6, .int .i64 7, .int .i64 2, .int .i64 600, .int .i64 700] V5 (fun e w' => e = .returned (.tuple #[.int .i64 1, .int .i64 0]) ∧ Below V5.heap.size V5 w') from by
  have t := rightF_any (some ⟨g, 0, none⟩) 6 6 l 7 2 600 700 V5 (HP.out.below GC5.out) (by decide)
  rw [HQ.out] at t
  unfold NumEnd at t
  rw [ex5.1, ex5.2, if_pos rfl] at t
  exact t)
 go_upto_region 7 with (go_at_call 28; (with_reducible refine (T6.out).mono ?_); rintro e V6 ⟨rfl, hg⟩; have GS6 := Lib.hid hg; clear hg)
 have HI3 := Lib.hid (HI3.out.below GS6.out)
 have HI4 := Lib.hid (HI4.out.below GS6.out)
 have HI5 := Lib.hid (HI5.out.below GS6.out)
 have GC6 := Lib.hid (GC5.out.trans (GS6.out.mono GC5.out.size))
 have T7 := Lib.hid (show Calls Tryz.prog 30 #[.slice (some ⟨g, 0, none⟩) 6 6, .int .i64 7, .int .i64 3, .int .i64 600, .int .i64 610, .bool true] V6 (ListIs [5, 6, 5, 7, 7] V6) from by
  have t := show_any (some ⟨g, 0, none⟩) 6 6 l 7 3 600 610 true V6 (HP.out.below GC6.out) (by decide)
  rw [HQ.out] at t
  exact t.mono fun e w' h => h.is ex6.1 ex6.2)
 go_upto_region 8 with (go_at_call 30; (with_reducible refine (T7.out).mono ?_); rintro e V7 ⟨D7, m7, d7, rfl, hi, hm, hg⟩; have HI7 := Lib.hid hi; have HM7 := Lib.hid hm; have GS7 := Lib.hid hg; clear hi hm hg)
 have HI3 := Lib.hid (HI3.out.below GS7.out)
 have HI4 := Lib.hid (HI4.out.below GS7.out)
 have HI5 := Lib.hid (HI5.out.below GS7.out)
 have GC7 := Lib.hid (GC6.out.trans (GS7.out.mono GC6.out.size))
 have T8 := Lib.hid (show Calls Tryz.prog 34 #[.slice (some ⟨g, 0, none⟩) 6 6, .int .i64 2, .int .i64 500, .int .i64 0] V7 (ListIs [5, 7] V7) from by
  have t := belong_any (some ⟨g, 0, none⟩) 6 6 l 2 500 0 V7 (HP.out.below GC7.out) (by decide)
  rw [HQ.out] at t
  exact t.mono fun e w' h => h.is ex7.1 ex7.2)
 go_upto_region 9 with (go_at_call 34; (with_reducible refine (T8.out).mono ?_); rintro e V8 ⟨D8, m8, d8, rfl, hi, hm, hg⟩; have HI8 := Lib.hid hi; have HM8 := Lib.hid hm; have GS8 := Lib.hid hg; clear hi hm hg)
 have HI3 := Lib.hid (HI3.out.below GS8.out)
 have HI4 := Lib.hid (HI4.out.below GS8.out)
 have HI5 := Lib.hid (HI5.out.below GS8.out)
 have HI7 := Lib.hid (HI7.out.below GS8.out)
 have GC8 := Lib.hid (GC7.out.trans (GS8.out.mono GC7.out.size))
 have T9 := Lib.hid (show Calls Tryz.prog 15 #[.slice (some ⟨g, 0, none⟩) 6 6, .int .i64 7, .int .i64 2, .int .i64 500, .int .i64 0] V8 (ListIs [3, 4] V8) from by
  have t := rests_any (some ⟨g, 0, none⟩) 6 6 l 7 2 500 0 V8 (HP.out.below GC8.out) (by decide)
  rw [HQ.out] at t
  exact t.mono fun e w' h => h.is ex8.1 ex8.2)
 go_upto_region 10 with (go_at_call 15; (with_reducible refine (T9.out).mono ?_); rintro e V9 ⟨D9, m9, d9, rfl, hi, hm, hg⟩; have HI9 := Lib.hid hi; have HM9 := Lib.hid hm; have GS9 := Lib.hid hg; clear hi hm hg)
 have HI3 := Lib.hid (HI3.out.below GS9.out)
 have HI4 := Lib.hid (HI4.out.below GS9.out)
 have HI5 := Lib.hid (HI5.out.below GS9.out)
 have HI7 := Lib.hid (HI7.out.below GS9.out)
 have HI8 := Lib.hid (HI8.out.below GS9.out)
 have GC9 := Lib.hid (GC8.out.trans (GS9.out.mono GC8.out.size))
 have T10 := Lib.hid (show Calls Tryz.prog 17 #[.slice (some ⟨g, 0, none⟩) 6 6, .int .i64 3, .int .i64 500, .int .i64 0] V9 (ListIs [5, 7] V9) from by
  have t := moved_any (some ⟨g, 0, none⟩) 6 6 l 3 500 0 V9 (HP.out.below GC9.out) (by decide)
  rw [HQ.out] at t
  exact t.mono fun e w' h => h.is ex9.1 ex9.2)
 go_upto_region 11 with (go_at_call 17; (with_reducible refine (T10.out).mono ?_); rintro e V10 ⟨D10, m10, d10, rfl, hi, hm, hg⟩; have HI10 := Lib.hid hi; have HM10 := Lib.hid hm; have GS10 := Lib.hid hg; clear hi hm hg)
 have HI3 := Lib.hid (HI3.out.below GS10.out)
 have HI4 := Lib.hid (HI4.out.below GS10.out)
 have HI5 := Lib.hid (HI5.out.below GS10.out)
 have HI7 := Lib.hid (HI7.out.below GS10.out)
 have HI8 := Lib.hid (HI8.out.below GS10.out)
 have HI9 := Lib.hid (HI9.out.below GS10.out)
 have GC10 := Lib.hid (GC9.out.trans (GS10.out.mono GC9.out.size))
 go_upto_region 12 with (first
  | (go_at_call 82; (with_reducible refine (proofs_any _).mono ?_); rintro e VP ⟨⟨g2, l2, rfl, ho, hq⟩, hg⟩; have HO2 := Lib.hid ho; have HQ2 := Lib.hid hq; have GP := Lib.hid hg; have G1 := Lib.hid (one_more VP (.cells #[.int .i64 5] 3)); have G2 := Lib.hid (two_more VP (.cells #[.int .i64 5] 3) (.cells #[.int .i64 7, .int .i64 1, .slice (some ⟨VP.heap.size, 0, none⟩) 1 1, .int .i64 0, .int .i64 5, .int .i64 1, .int .i64 0, .int .i64 0, .int .i64 0] 56)); have B1 := Lib.hid ((Blk.new VP 3 #[.int .i64 5]).alloc (.cells #[.int .i64 7, .int .i64 1, .slice (some ⟨VP.heap.size, 0, none⟩) 1 1, .int .i64 0, .int .i64 5, .int .i64 1, .int .i64 0, .int .i64 0, .int .i64 0] 56)); have B2 := Lib.hid (one_pf (x := ⟨⟨7, 1, [5], 0, 5, 1, 0, 0, 0⟩, some ⟨VP.heap.size, 0, none⟩, 1, 1⟩) (blk_next (w := VP) (o := (.cells #[.int .i64 5] 3)) rfl (cs := #[.int .i64 7, .int .i64 1, .slice (some ⟨VP.heap.size, 0, none⟩) 1 1, .int .i64 0, .int .i64 5, .int .i64 1, .int .i64 0, .int .i64 0, .int .i64 0]))); have HOX := Lib.hid (ho.own.ext G2.out); have HS := Lib.hid (Nat.le_trans hg.size G2.out.size); have HLL := Lib.hid ho.prf.len; clear ho hq hg)
  | (at_builtin; go_loud ((refine wpList_app kdQ (by rfl) _ _ (by rfl) V10.heap.size _ l2 (by rfl) HOX.out _ 1 1 [⟨⟨7, 1, [5], 0, 5, 1, 0, 0, 0⟩, some ⟨VP.heap.size, 0, none⟩, 1, 1⟩] (by rfl) B2.out (by rw [HLL.out]; decide) HS.out ?_; intro v' w' ho hgr hz; have GQ := Lib.hid (GP.out.trans ((G2.out.mono GP.out.size).trans (HOX.out.below hgr (Nat.le_refl _) HS.out))); have HF := Lib.hid (fix_turn hgr); have HPR := ex_per (q := ⟨7, 1, [5], 0, 5, 1, 0, 0, 0⟩) HO2.out G2.out B1.out HF.out rfl rfl; obtain ⟨A9, c9, rfl, hc1, hc2, hp9⟩ := own_prf ho HPR; clear HPR; have HP9 := Lib.hid hp9; have T51 := Lib.hid (clash_ex (c := c9) hp9 HQ2.out); clear ho hgr hz hc1 hc2 hp9)))
  | (go_at_call 51; (with_reducible refine (T51.out).mono ?_); rintro e VC ⟨DC, mC, dC, rfl, hi, hm, hg⟩; have HIC := Lib.hid hi; have HMC := Lib.hid hm; have GSC := Lib.hid (GQ.out.trans (hg.mono GQ.out.size)); clear hi hm hg))
 have HI3 := Lib.hid (HI3.out.below GSC.out)
 have HI4 := Lib.hid (HI4.out.below GSC.out)
 have HI5 := Lib.hid (HI5.out.below GSC.out)
 have HI7 := Lib.hid (HI7.out.below GSC.out)
 have HI8 := Lib.hid (HI8.out.below GSC.out)
 have HI9 := Lib.hid (HI9.out.below GSC.out)
 have HI10 := Lib.hid (HI10.out.below GSC.out)
 have GCC := Lib.hid (GC10.out.trans (GSC.out.mono GC10.out.size))
 go_upto_region 13 with fail
 have GX0 := Lib.hid (Below.refl VC.heap.size VC)
 have I0 := Lib.hid (Blk.intsN (l := [5, 6, 5, 7]) (n := 4) (Blk.new VC 3 #[.int .i64 5, .int .i64 6, .int .i64 5, .int .i64 7]) rfl)
 have GA0 := Lib.hid (GX0.out.trans ((one_more VC (.cells #[.int .i64 5, .int .i64 6, .int .i64 5, .int .i64 7] 3)).mono GX0.out.size))
 have S0 := Lib.hid (same_is (D := D3) (m := m3) (d := d3) HI3.out HM3.out _ GA0.out _ 4 4 I0.out (by decide))
 go_wp2_with fail
 refine (S0.out).mono ?_
 rintro e X1 ⟨rfl, hg⟩
 have GX1 := Lib.hid (GA0.out.trans (hg.mono GA0.out.size))
 clear hg
 have I1 := Lib.hid (two_tits (x := ⟨10, 0, 1⟩) (y := ⟨465, 2, 3⟩) (Blk.new X1 67 #[.int .i64 10, .int .i64 0, .int .i64 1, .int .i64 465, .int .i64 2, .int .i64 3]))
 have GA1 := Lib.hid (GX1.out.trans ((one_more X1 (.cells #[.int .i64 10, .int .i64 0, .int .i64 1, .int .i64 465, .int .i64 2, .int .i64 3] 67)).mono GX1.out.size))
 have S1 := Lib.hid (tits_is (D := D4) (m := m4) (d := d4) HI4.out HM4.out _ GA1.out _ 2 2 I1.out (by decide))
 go_wp2_with fail
 refine (S1.out).mono ?_
 rintro e X2 ⟨rfl, hg⟩
 have GX2 := Lib.hid (GA1.out.trans (hg.mono GA1.out.size))
 clear hg
 have I2 := Lib.hid (Blk.intsN (l := [2, 3]) (n := 2) (Blk.new X2 3 #[.int .i64 2, .int .i64 3]) rfl)
 have GA2 := Lib.hid (GX2.out.trans ((one_more X2 (.cells #[.int .i64 2, .int .i64 3] 3)).mono GX2.out.size))
 have S2 := Lib.hid (same_is (D := D5) (m := m5) (d := d5) HI5.out HM5.out _ GA2.out _ 2 2 I2.out (by decide))
 go_wp2_with fail
 refine (S2.out).mono ?_
 rintro e X3 ⟨rfl, hg⟩
 have GX3 := Lib.hid (GA2.out.trans (hg.mono GA2.out.size))
 clear hg
 have I3 := Lib.hid (Blk.intsN (l := [5, 6, 5, 7, 7]) (n := 5) (Blk.new X3 3 #[.int .i64 5, .int .i64 6, .int .i64 5, .int .i64 7, .int .i64 7]) rfl)
 have GA3 := Lib.hid (GX3.out.trans ((one_more X3 (.cells #[.int .i64 5, .int .i64 6, .int .i64 5, .int .i64 7, .int .i64 7] 3)).mono GX3.out.size))
 have S3 := Lib.hid (same_is (D := D7) (m := m7) (d := d7) HI7.out HM7.out _ GA3.out _ 5 5 I3.out (by decide))
 go_wp2_with fail
 refine (S3.out).mono ?_
 rintro e X4 ⟨rfl, hg⟩
 have GX4 := Lib.hid (GA3.out.trans (hg.mono GA3.out.size))
 clear hg
 have I4 := Lib.hid (Blk.intsN (l := [5, 7]) (n := 2) (Blk.new X4 3 #[.int .i64 5, .int .i64 7]) rfl)
 have GA4 := Lib.hid (GX4.out.trans ((one_more X4 (.cells #[.int .i64 5, .int .i64 7] 3)).mono GX4.out.size))
 have S4 := Lib.hid (same_is (D := D8) (m := m8) (d := d8) HI8.out HM8.out _ GA4.out _ 2 2 I4.out (by decide))
 go_wp2_with fail
 refine (S4.out).mono ?_
 rintro e X5 ⟨rfl, hg⟩
 have GX5 := Lib.hid (GA4.out.trans (hg.mono GA4.out.size))
 clear hg
 have I5 := Lib.hid (Blk.intsN (l := [3, 4]) (n := 2) (Blk.new X5 3 #[.int .i64 3, .int .i64 4]) rfl)
 have GA5 := Lib.hid (GX5.out.trans ((one_more X5 (.cells #[.int .i64 3, .int .i64 4] 3)).mono GX5.out.size))
 have S5 := Lib.hid (same_is (D := D9) (m := m9) (d := d9) HI9.out HM9.out _ GA5.out _ 2 2 I5.out (by decide))
 go_wp2_with fail
 refine (S5.out).mono ?_
 rintro e X6 ⟨rfl, hg⟩
 have GX6 := Lib.hid (GA5.out.trans (hg.mono GA5.out.size))
 clear hg
 have I6 := Lib.hid (Blk.intsN (l := [5, 7]) (n := 2) (Blk.new X6 3 #[.int .i64 5, .int .i64 7]) rfl)
 have GA6 := Lib.hid (GX6.out.trans ((one_more X6 (.cells #[.int .i64 5, .int .i64 7] 3)).mono GX6.out.size))
 have S6 := Lib.hid (same_is (D := D10) (m := m10) (d := d10) HI10.out HM10.out _ GA6.out _ 2 2 I6.out (by decide))
 go_wp2_with fail
 refine (S6.out).mono ?_
 rintro e X7 ⟨rfl, hg⟩
 have GX7 := Lib.hid (GA6.out.trans (hg.mono GA6.out.size))
 clear hg
 have I7 := Lib.hid (Blk.intsN (l := [1, 2, 7]) (n := 3) (Blk.new X7 3 #[.int .i64 1, .int .i64 2, .int .i64 7]) rfl)
 have GA7 := Lib.hid (GX7.out.trans ((one_more X7 (.cells #[.int .i64 1, .int .i64 2, .int .i64 7] 3)).mono GX7.out.size))
 have S7 := Lib.hid (same_is (D := DC) (m := mC) (d := dC) HIC.out HMC.out _ GA7.out _ 3 3 I7.out (by decide))
 go_wp2_with fail
 refine (S7.out).mono ?_
 rintro e X8 ⟨rfl, hg⟩
 have GX8 := Lib.hid (GA7.out.trans (hg.mono GA7.out.size))
 clear hg
 go_wp2_with fail
 go_ret
 exact ⟨rfl, HG0.out.trans ((GCC.out.trans (GX8.out.mono GCC.out.size)).mono HG0.out.size)⟩
end Go.Proofs.YtehhlgdkhecacaaGreat

namespace Go.Proofs.YtehhlgdkhecacaaGreat
open Go.RowKit Go.Shelf
def putP (l : List Int) (x : Int) (k : Nat) (d : Bool) : List Int := if d = true then (l.take k).filter (· < x) ++ x :: (l.take k).filter (x < ·) else l.take k
structure PutI (l : List Int) (x : Int) (k : Nat) (d : Bool) : Prop where
 ne : ∀ y ∈ l.take k, y ≠ x
 yes : d = true → ∃ y, y ∈ l.take k ∧ x < y
 no : d = false → ∀ y ∈ l.take k, y < x
theorem PutI.nil (l : List Int) (x : Int) : PutI l x 0 false := ⟨fun y h => (by simp at h), fun h => (by cases h), fun _ y h => (by simp at h)⟩
section
variable {l : List Int} {x : Int} {k : Nat}
theorem fil_lt (h : ∀ y ∈ l, y < x) : l.filter (· < x) = l ∧ l.filter (x < ·) = [] :=
 ⟨List.filter_eq_self.2 fun y hy => by simpa using h y hy, List.filter_eq_nil_iff.2 fun y hy => by have := h y hy; simp; omega⟩
theorem PutI.s1 (h : PutI l x k false) (hk : k < l.length) (hx : x < l.getD k 0) : PutI l x (k + 1) true ∧ putP l x (k + 1) true = (putP l x k false ++ [x]) ++ [l.getD k 0] := by
 have ht := take_snoc (d := 0) hk
 obtain ⟨e1, e2⟩ := fil_lt (h.no rfl)
 constructor
 ·refine ⟨fun y hy => ?_, fun _ => ⟨l.getD k 0, by rw [ht]; simp, hx⟩, fun h => (by cases h)⟩
  rw [ht, List.mem_append, List.mem_singleton] at hy
  rcases hy with hy | rfl
  ·exact h.ne y hy
  ·omega
 ·unfold putP
  rw [if_pos rfl, if_neg (by decide), ht, List.filter_append, List.filter_append, e1, e2, List.filter_cons_of_neg (by rw [decide_eq_true_eq]; omega), List.filter_cons_of_pos (by rw [decide_eq_true_eq]; omega)]
  simp
theorem PutI.s2 (h : PutI l x k false) (hk : k < l.length) (hx : l.getD k 0 < x) : PutI l x (k + 1) false ∧ putP l x (k + 1) false = putP l x k false ++ [l.getD k 0] := by
 have ht := take_snoc (d := 0) hk
 refine ⟨⟨fun y hy => ?_, fun h => (by cases h), fun _ y hy => ?_⟩, by unfold putP; rw [if_neg (by decide), if_neg (by decide), ht]⟩
 ·rw [ht, List.mem_append, List.mem_singleton] at hy
  rcases hy with hy | rfl
  ·exact h.ne y hy
  ·omega
 ·rw [ht, List.mem_append, List.mem_singleton] at hy
  rcases hy with hy | rfl
  ·exact h.no rfl y hy
  ·exact hx
theorem PutI.s3 (hp : l.Pairwise (· < ·)) (h : PutI l x k true) (hk : k < l.length) : PutI l x (k + 1) true ∧ putP l x (k + 1) true = putP l x k true ++ [l.getD k 0] ∧ x < l.getD k 0 := by
 have ht := take_snoc (d := 0) hk
 obtain ⟨z, hz, hxz⟩ := h.yes rfl
 have hzl : z < l.getD k 0 := by
  have h2 := hp
  rw [← List.take_append_drop k l, List.pairwise_append] at h2
  refine h2.2.2 z hz _ ?_
  rw [List.drop_eq_getElem_cons hk, List.getD_eq_getElem?_getD, List.getElem?_eq_getElem hk]
  exact List.mem_cons_self
 refine ⟨⟨fun y hy => ?_, fun _ => ⟨z, by rw [ht]; simp [hz], hxz⟩, fun h => (by cases h)⟩, ?_, by omega⟩
 ·rw [ht, List.mem_append, List.mem_singleton] at hy
  rcases hy with hy | rfl
  ·exact h.ne y hy
  ·omega
 ·unfold putP
  rw [if_pos rfl, if_pos rfl, ht, List.filter_append, List.filter_append, List.filter_cons_of_neg (by rw [decide_eq_true_eq]; omega), List.filter_cons_of_pos (by rw [decide_eq_true_eq]; omega)]
  simp
theorem PutI.fin (h : PutI l x l.length true) : putP l x l.length true = putI l x := by
 have hm : x ∉ l := fun hm => h.ne x (by rw [List.take_length]; exact hm) rfl
 unfold putP putI
 rw [if_pos rfl, if_neg hm, List.take_length]
theorem PutI.fin0 (h : PutI l x l.length false) : putP l x l.length false ++ [x] = putI l x := by
 have hm : x ∉ l := fun hm => h.ne x (by rw [List.take_length]; exact hm) rfl
 have h2 := h.no rfl
 rw [List.take_length] at h2
 obtain ⟨e1, e2⟩ := fil_lt h2
 unfold putP putI
 rw [if_neg (by decide), if_neg hm, List.take_length, e1, e2]
theorem putI_in (h : x ∈ l) : putI l x = l := by unfold putI; rw [if_pos h]
theorem putP_len (hk : k ≤ l.length) (d : Bool) : (putP l x k d).length ≤ 2 * l.length + 1 := by
 unfold putP
 split
 ·rw [List.length_append, List.length_cons]
  have h1 := List.length_filter_le (· < x) (l.take k)
  have h2 := List.length_filter_le (x < ·) (l.take k)
  rw [List.length_take] at h1 h2
  omega
 ·rw [List.length_take]; omega
end
theorem own_empty {α : Type} {f : α → List Value} {size : Nat} {e : TypeId} (hf : ∀ x, (f x).length = size) (W : World) {base : Nat} (hb : base ≤ W.heap.size) : OwnL f size e (W.alloc (.cells #[] e)) base (.slice (some ⟨W.heap.size, 0, none⟩) 0 0) [] :=
 own_mk hf rfl hb (Blk.new W e #[]) (Nat.le_refl _) (Nat.zero_le _) (by simp) (by simp)
set_option maxRecDepth 100000 in
set_option maxHeartbeats 8000000 in
theorem refPut_any (A : Option Addr) (n c : Nat) (l : List Int) (x : Int) (w : World) (ha : Ints w A n l) (hn : n ≤ 1000) (hp : l.Pairwise (· < ·)) :
  Calls Tryz.prog 42 #[.slice A n c, .int .i64 x] w fun e w' => (∃ v, e = .returned v ∧ OwnL icells 1 3 w' w.heap.size v (putI l x)) ∧ Below w.heap.size w w' := by
 have HA := Lib.hid ha
 have HLN := Lib.hid ha.1
 have HUP := Lib.hid hp
 have HIN := Lib.hid (fun (h : x ∈ l) => putI_in h)
 have HF1 := Lib.hid (fun (h : PutI l x n true) => (show putP l x n true = putI l x by have := ha.1; subst this; exact h.fin))
 have HF0 := Lib.hid (fun (h : PutI l x n false) => (show putP l x n false ++ [x] = putI l x by have := ha.1; subst this; exact h.fin0))
 have HPL := Lib.hid (fun k d (hk : k ≤ n) => (show (putP l x k d).length ≤ 2001 by have := putP_len (l := l) (x := x) (k := k) (by rw [ha.1]; exact hk) d; have := ha.1; omega))
 have HO0 := Lib.hid (OwnL.nil (f := icells) (size := 1) (e := 3) w w.heap.size)
 have HZ := Lib.hid (Below.refl w.heap.size w)
 obtain ⟨rs, hrs⟩ : ∃ r, putI l x = r := ⟨_, rfl⟩
 rw [hrs] at HIN HF1 HF0 ⊢
 clear hrs ha hp
 go_enter Tryz.func42, Tryz.ntmps42
 go_wp2_with fail
 go_loopw [5, 6, 7] (fun v d i wr => ∃ (k : Nat) (b : Bool), d = .bool b ∧ i = .int .i64 k ∧ k ≤ n ∧ Below w.heap.size w wr ∧ OwnL icells 1 3 wr w.heap.size v (putP l x k b) ∧ PutI l x k b) (fun _ _ i _ => n - (intOf i).toNat)
 case atStart => exact ⟨0, false, rfl, rfl, Nat.zero_le _, HZ.out, HO0.out, PutI.nil l x⟩
 case round =>
  obtain ⟨k, d, rfl, rfl, hk, hg, ho, hi⟩ := hrel
  have HG := Lib.hid hg
  have HO := Lib.hid ho
  have HI := Lib.hid hi
  have HL := Lib.hid (HPL.out k d hk)
  have hwr2 : wrap64 ((k : Int) + 1) = (k : Int) + 1 := wrap_in (by omega)
  obtain ⟨acc, hacc⟩ : ∃ a, putP l x k d = a := ⟨_, rfl⟩
  have HACC := Lib.hid hacc
  rw [hacc] at HO HL
  clear ho hi hacc
  by_cases hkn : k < n
  ·obtain ⟨b0, o0, rfl, -, hm, hc⟩ := ints_at (HA.out.below hg) hkn
   have HM := Lib.hid hm
   obtain ⟨y, hy⟩ : ∃ y, l.getD k 0 = y := ⟨_, rfl⟩
   have HKL := Lib.hid (show k < l.length by rw [HLN.out]; exact hkn)
   rw [hy] at hc HM
   have HY := Lib.hid hy
   have x0 := hc _ (Below.refl _ _)
   have YV := Lib.hid (fun (V : World) (g : Below w.heap.size w V) => (show V.cell? ⟨b0, o0 + k, none⟩ = some (.int .i64 y) by
    obtain ⟨b9, o9, e9, -, -, h9⟩ := ints_at (HA.out.below g) hkn
    cases e9
    have := h9 _ (Below.refl _ _)
    rwa [HY.out] at this))
   clear hc hy hm
   by_cases hxy : y = x
   ·have e1 : (y == x) = true := beq_iff_eq.2 hxy
    have HR := Lib.hid (HIN.out (by rw [← hxy]; exact List.mem_of_getElem? HM.out))
    have OE := Lib.hid (own_empty (f := icells) (size := 1) (e := 3) icells_len wr (base := w.heap.size) hg.size)
    have GE := Lib.hid (one_more wr (.cells #[] 3))
    have HAE := Lib.hid ((HA.out.below hg).below GE.out)
    clear hxy hg
    go_wp2_with (first | (at_builtin; (refine wpList_app kdI (by rfl) _ _ (by rfl) w.heap.size _ [] (by rfl) OE.out _ n c l (by rfl) HAE.out (by show 0 + n ≤ 1000000; omega) (Nat.le_trans HG.out.size GE.out.size) ?_); intro v' w' ho hgr hz; have HO2 := Lib.hid ho; have GV := Lib.hid ((HG.out.trans (GE.out.mono HG.out.size)).trans (OE.out.below hgr (Nat.le_refl _) (Nat.le_trans HG.out.size GE.out.size))); clear ho hgr hz))
    go_ret
    exact ⟨⟨_, rfl, by rw [HR.out]; exact HO2.out⟩, GV.out⟩
   ·have e1 : (y == x) = false := beq_eq_false_iff_ne.2 hxy
    have HNE := Lib.hid hxy
    clear hxy hg
    cases d with
    | false =>
     by_cases hlt : x < y
     ·have S := Lib.hid (show PutI l x (k + 1) true ∧ putP l x (k + 1) true = (acc ++ [x]) ++ [y] by have := HI.out.s1 HKL.out (by rw [HY.out]; exact hlt); rwa [HACC.out, HY.out] at this)
      have GX := Lib.hid (one_more wr (.cells #[.int .i64 x] 3))
      have IX := Lib.hid (one_int (Blk.new wr 3 #[.int .i64 x]))
      have OX := Lib.hid (HO.out.ext GX.out)
      have HS := Lib.hid (Nat.le_trans HG.out.size GX.out.size)
      go_wp2_with (first
       | (at_builtin; (refine wpList_app kdI (by rfl) _ _ (by rfl) w.heap.size _ acc (by rfl) OX.out _ 1 1 [x] (by rfl) IX.out (by have := HL.out; omega) HS.out ?_); intro v1 w1 ho hgr hz; have HO1 := Lib.hid ho; have GV1 := Lib.hid ((HG.out.trans (GX.out.mono HG.out.size)).trans (OX.out.below hgr (Nat.le_refl _) HS.out)); have x1 := YV.out w1 GV1.out; have GY := Lib.hid (one_more w1 (.cells #[.int .i64 y] 3)); have IY := Lib.hid (one_int (Blk.new w1 3 #[.int .i64 y])); have OY := Lib.hid (ho.ext GY.out); have HS2 := Lib.hid (Nat.le_trans GV1.out.size GY.out.size); clear ho hgr hz)
       | (at_builtin; (refine wpList_app kdI (by rfl) _ _ (by rfl) w.heap.size _ (acc ++ [x]) (by rfl) OY.out _ 1 1 [y] (by rfl) IY.out (by have := HL.out; rw [List.length_append, List.length_singleton]; omega) HS2.out ?_); intro v2 w2 ho hgr hz; have HO2 := Lib.hid ho; have GV2 := Lib.hid ((GV1.out.trans (GY.out.mono GV1.out.size)).trans (OY.out.below hgr (Nat.le_refl _) HS2.out)); clear ho hgr hz))
      go_roundw
      case rel => exact ⟨k + 1, true, rfl, rfl, by omega, GV2.out, by rw [S.out.2]; exact HO2.out, S.out.1⟩
      case measure => simp only [intOf]; omega
     ·have S := Lib.hid (show PutI l x (k + 1) false ∧ putP l x (k + 1) false = acc ++ [y] by have := HI.out.s2 HKL.out (by rw [HY.out]; have := HNE.out; omega); rwa [HACC.out, HY.out] at this)
      have GX := Lib.hid (one_more wr (.cells #[.int .i64 y] 3))
      have IX := Lib.hid (one_int (Blk.new wr 3 #[.int .i64 y]))
      have OX := Lib.hid (HO.out.ext GX.out)
      have HS := Lib.hid (Nat.le_trans HG.out.size GX.out.size)
      go_wp2_with (first
       | (at_builtin; (refine wpList_app kdI (by rfl) _ _ (by rfl) w.heap.size _ acc (by rfl) OX.out _ 1 1 [y] (by rfl) IX.out (by have := HL.out; omega) HS.out ?_); intro v1 w1 ho hgr hz; have HO2 := Lib.hid ho; have GV2 := Lib.hid ((HG.out.trans (GX.out.mono HG.out.size)).trans (OX.out.below hgr (Nat.le_refl _) HS.out)); clear ho hgr hz))
      go_roundw
      case rel => exact ⟨k + 1, false, rfl, rfl, by omega, GV2.out, by rw [S.out.2]; exact HO2.out, S.out.1⟩
      case measure => simp only [intOf]; omega
    | true =>
      have S := Lib.hid (show PutI l x (k + 1) true ∧ putP l x (k + 1) true = acc ++ [y] by have := HI.out.s3 HUP.out HKL.out; rw [HACC.out, HY.out] at this; exact ⟨this.1, this.2.1⟩)
      have GX := Lib.hid (one_more wr (.cells #[.int .i64 y] 3))
      have IX := Lib.hid (one_int (Blk.new wr 3 #[.int .i64 y]))
      have OX := Lib.hid (HO.out.ext GX.out)
      have HS := Lib.hid (Nat.le_trans HG.out.size GX.out.size)
      go_wp2_with (first
       | (at_builtin; (refine wpList_app kdI (by rfl) _ _ (by rfl) w.heap.size _ acc (by rfl) OX.out _ 1 1 [y] (by rfl) IX.out (by have := HL.out; omega) HS.out ?_); intro v1 w1 ho hgr hz; have HO2 := Lib.hid ho; have GV2 := Lib.hid ((HG.out.trans (GX.out.mono HG.out.size)).trans (OX.out.below hgr (Nat.le_refl _) HS.out)); clear ho hgr hz))
      go_roundw
      case rel => exact ⟨k + 1, true, rfl, rfl, by omega, GV2.out, by rw [S.out.2]; exact HO2.out, S.out.1⟩
      case measure => simp only [intOf]; omega
  ·obtain rfl : k = n := by omega
   clear hg
   cases d with
   | true =>
    have HR := Lib.hid (show acc = rs by rw [← HACC.out]; exact HF1.out HI.out)
    go_wp2_with fail
    go_ret
    exact ⟨⟨_, rfl, by rw [← HR.out]; exact HO.out⟩, HG.out⟩
   | false =>
    have HR := Lib.hid (show acc ++ [x] = rs by rw [← HACC.out]; exact HF0.out HI.out)
    have GX := Lib.hid (one_more wr (.cells #[.int .i64 x] 3))
    have IX := Lib.hid (one_int (Blk.new wr 3 #[.int .i64 x]))
    have OX := Lib.hid (HO.out.ext GX.out)
    have HS := Lib.hid (Nat.le_trans HG.out.size GX.out.size)
    go_wp2_with (first
       | (at_builtin; (refine wpList_app kdI (by rfl) _ _ (by rfl) w.heap.size _ acc (by rfl) OX.out _ 1 1 [x] (by rfl) IX.out (by have := HL.out; omega) HS.out ?_); intro v1 w1 ho hgr hz; have HO1 := Lib.hid ho; have GV1 := Lib.hid ((HG.out.trans (GX.out.mono HG.out.size)).trans (OX.out.below hgr (Nat.le_refl _) HS.out)); clear ho hgr hz))
    go_ret
    exact ⟨⟨_, rfl, by rw [← HR.out]; exact HO1.out⟩, GV1.out⟩
end Go.Proofs.YtehhlgdkhecacaaGreat

namespace Go.Proofs.YtehhlgdkhecacaaGreat
open Go.RowKit Go.Shelf
def rcells (x : Ra) : List Value := [.int .i64 x.kind, .int .i64 x.per, .int .i64 x.ots, .int .i64 x.oth, .int .i64 x.par, .int .i64 x.day, .int .i64 x.long, .int .i64 x.kno, .int .i64 x.unt]
abbrev rb (x : Ra) : Array Value := #[.int .i64 x.kind, .int .i64 x.per, .int .i64 x.ots, .int .i64 x.oth, .int .i64 x.par, .int .i64 x.day, .int .i64 x.long, .int .i64 x.kno, .int .i64 x.unt]
theorem raw_at {w : World} {A : Option Addr} {n : Nat} {l : List Ra} (h : Arr rcells 9 w A n l) {k : Nat} (hk : k < n) :
  ∃ b o, A = some ⟨b, o, none⟩ ∧ ∀ w', Below w.heap.size w w' → w'.cell? ⟨b, o + k * 9, none⟩ = some (.int .i64 (l.getD k r0).kind) ∧ w'.cell? ⟨b, o + k * 9 + 1, none⟩ = some (.int .i64 (l.getD k r0).per) ∧ w'.cell? ⟨b, o + k * 9 + 2, none⟩ = some (.int .i64 (l.getD k r0).ots) ∧ w'.cell? ⟨b, o + k * 9 + 3, none⟩ = some (.int .i64 (l.getD k r0).oth) ∧ w'.cell? ⟨b, o + k * 9 + 4, none⟩ = some (.int .i64 (l.getD k r0).par) ∧
   w'.cell? ⟨b, o + k * 9 + 5, none⟩ = some (.int .i64 (l.getD k r0).day) ∧ w'.cell? ⟨b, o + k * 9 + 6, none⟩ = some (.int .i64 (l.getD k r0).long) ∧ w'.cell? ⟨b, o + k * 9 + 7, none⟩ = some (.int .i64 (l.getD k r0).kno) ∧ w'.cell? ⟨b, o + k * 9 + 8, none⟩ = some (.int .i64 (l.getD k r0).unt) := by
 obtain ⟨b, o, x, rfl, -, hx, hc⟩ := h.at hk
 have e : l.getD k r0 = x := by rw [List.getD_eq_getElem?_getD, hx]; rfl
 rw [e]
 exact ⟨b, o, rfl, fun w' hw => ⟨hc w' hw 0 _ rfl, hc w' hw 1 _ rfl, hc w' hw 2 _ rfl, hc w' hw 3 _ rfl, hc w' hw 4 _ rfl, hc w' hw 5 _ rfl, hc w' hw 6 _ rfl, hc w' hw 7 _ rfl, hc w' hw 8 _ rfl⟩⟩
/-- A number of Go's. -/
def I64 (n : Int) : Prop := -9223372036854775808 ≤ n ∧ n ≤ 9223372036854775807
/-- Numbers of Go's throughout: one of them is divided. -/
def RaOk (x : Ra) : Prop := I64 x.unt
theorem ints_grown {w w' : World} {n : Nat} {A : Option Addr} {l : List Int} {row : Option Nat} (h : Ints w A n l) (hne : ∀ a, A = some a → row ≠ some a.block) (g : w.grownBy w' row) : Ints w' A n l := by
 refine ⟨h.1, fun h0 => ?_⟩
 obtain ⟨b, o, rfl, hb, hc⟩ := h.2 h0
 have hbg : row ≠ some b := hne _ rfl
 exact ⟨b, o, rfl, Nat.lt_of_lt_of_le hb g.size, fun k x hx j u hu => (World.cell?_of_block (a := ⟨b, o + k * 1 + j, none⟩) (g.block b hb fun e => hbg e.symm)).trans (hc k x hx j u hu)⟩
/-- Two lists of one's own: proofs whose persons lie elsewhere, and numbers. -/
structure Md (w W : World) (v u : Value) (ls : List Pf) (ts : List Int) : Prop where
 g : Below w.heap.size w W
 o1 : OwnL pcells 9 56 W w.heap.size v ls
 o2 : OwnL icells 1 3 W w.heap.size u ts
 per : ∀ p ∈ ls, PI W p ∧ ∀ a, p.A = some a → v.ownBlock ≠ some a.block ∧ u.ownBlock ≠ some a.block ∧ a.block < W.heap.size
 low : ∀ p ∈ ls, ∀ a, p.A = some a → w.heap.size ≤ a.block
section
variable {w W W2 : World} {v u v' : Value} {ls : List Pf} {ts : List Int}
theorem Md.nil (w : World) : Md w w (.slice none 0 0) (.slice none 0 0) [] [] := ⟨Below.refl _ _, OwnL.nil _ _, OwnL.nil _ _, fun p hp => (by cases hp), fun p hp => (by cases hp)⟩
theorem Md.ext (h : Md w W v u ls ts) (k : Below W.heap.size W W2) : Md w W2 v u ls ts :=
 ⟨h.g.trans (k.mono h.g.size), h.o1.ext k, h.o2.ext k, fun p hp => ⟨(h.per p hp).1.below k, fun a e => by
  obtain ⟨h1, h2, h3⟩ := (h.per p hp).2 a e
  exact ⟨h1, h2, Nat.lt_of_lt_of_le h3 k.size⟩⟩, h.low⟩
theorem own_lt2 {α : Type} {f : α → List Value} {size : Nat} {e : TypeId} {w : World} {base : Nat} {v : Value} {xs : List α} (h : OwnL f size e w base v xs) {k : Nat} (hk : v.ownBlock = some k) : k < w.heap.size := by
 obtain ⟨-, cur, hc⟩ := own_block h hk
 exact hc.lt
theorem Md.diff (h : Md w W v u ls ts) : ∀ k, v.ownBlock = some k → u.ownBlock ≠ some k := fun k h1 h2 => by
 obtain ⟨-, c1, b1⟩ := own_block h.o1 h1
 obtain ⟨-, c2, b2⟩ := own_block h.o2 h2
 exact absurd (blk_type b1 b2) (by decide)
theorem Md.add1 (h : Md w W v u ls ts) {p : Pf} (hp : PI W p) (hne : ∀ a, p.A = some a → v.ownBlock ≠ some a.block ∧ u.ownBlock ≠ some a.block ∧ a.block < W.heap.size) (hlo : ∀ a, p.A = some a → w.heap.size ≤ a.block) (ho : OwnL pcells 9 56 W2 w.heap.size v' (ls ++ [p])) (hg : W.grownBy W2 v.ownBlock)
  (hz : v'.ownBlock = v.ownBlock ∨ v'.ownBlock = some W.heap.size) : Md w W2 v' u (ls ++ [p]) ts := by
 have hall : ∀ q ∈ ls ++ [p], PI W q ∧ ∀ a, q.A = some a → v.ownBlock ≠ some a.block ∧ u.ownBlock ≠ some a.block ∧ a.block < W.heap.size := fun q hq => by
  rw [List.mem_append, List.mem_singleton] at hq
  rcases hq with hq | rfl
  ·exact h.per q hq
  ·exact ⟨hp, hne⟩
 refine ⟨h.g.trans (h.o1.below hg (Nat.le_refl _) h.g.size), ho, World.ownsRow.kept h.o2 hg ?_, fun q hq => ?_, fun q hq => ?_⟩
 ·cases e : u.ownBlock with
  | none => exact .inl rfl
  | some k => exact .inr fun e2 => h.diff k e2.symm e
 ·obtain ⟨h1, h2⟩ := hall q hq
  refine ⟨⟨ints_grown h1.i (fun a e => (h2 a e).1) hg, h1.m⟩, fun a e => ?_⟩
  obtain ⟨k1, k2, k3⟩ := h2 a e
  refine ⟨?_, k2, Nat.lt_of_lt_of_le k3 hg.size⟩
  rcases hz with hz | hz
  ·rw [hz]; exact k1
  ·rw [hz]; intro e2; have := Option.some.inj e2; omega
 ·rw [List.mem_append, List.mem_singleton] at hq
  rcases hq with hq | rfl
  ·exact h.low q hq
  ·exact hlo
theorem Md.add2 (h : Md w W v u ls ts) {t : Int} (ho : OwnL icells 1 3 W2 w.heap.size v' (ts ++ [t])) (hg : W.grownBy W2 u.ownBlock) (hz : v'.ownBlock = u.ownBlock ∨ v'.ownBlock = some W.heap.size) : Md w W2 v v' ls (ts ++ [t]) := by
 refine ⟨h.g.trans (h.o2.below hg (Nat.le_refl _) h.g.size), World.ownsRow.kept h.o1 hg ?_, ho, fun q hq => ?_, h.low⟩
 ·cases e : v.ownBlock with
  | none => exact .inl rfl
  | some k => exact .inr fun e2 => h.diff k e e2.symm
 ·obtain ⟨h1, h2⟩ := h.per q hq
  refine ⟨⟨ints_grown h1.i (fun a e => (h2 a e).2.1) hg, h1.m⟩, fun a e => ?_⟩
  obtain ⟨k1, k2, k3⟩ := h2 a e
  refine ⟨k1, ?_, Nat.lt_of_lt_of_le k3 hg.size⟩
  rcases hz with hz | hz
  ·rw [hz]; exact k2
  ·rw [hz]; intro e2; have := Option.some.inj e2; omega
theorem Md.prf (h : Md w W v u ls ts) : ∃ A c, v = .slice A ls.length c ∧ ls.length ≤ c ∧ c ≤ maxLen ∧ Prf W A ls.length ls := own_prf h.o1 fun p hp => (h.per p hp).1
end
theorem prf_fix {w w' : World} {g n : Nat} {A : Option Addr} {l : List Pf} (h : Prf w A n l) (hA : ∀ a, A = some a → a.block ≠ g) (hp : ∀ p ∈ l, ∀ a, p.A = some a → a.block ≠ g) (f : Fix g g w w') : Prf w' A n l := by
 refine ⟨⟨h.a.1, fun h0 => ?_⟩, fun p hq => ⟨ints_fix (h.p p hq).i (hp p hq) f, (h.p p hq).m⟩⟩
 obtain ⟨b, o, rfl, hb, hc⟩ := h.a.2 h0
 have hbg : b ≠ g := hA _ rfl
 exact ⟨b, o, rfl, Nat.lt_of_lt_of_le hb f.size, fun k x hx j u hu => f.cell (hc k x hx j u hu) hbg hbg⟩
/-- A store elsewhere. -/
theorem OwnL.off {α : Type} {f : α → List Value} {size : Nat} {e : TypeId} {w : World} {base : Nat} {v : Value} {xs : List α} (h : OwnL f size e w base v xs) {b o : Nat} (hb : v.ownBlock ≠ some b) (u : Value) : OwnL f size e (w.setCell ⟨b, o, none⟩ u) base v xs :=
 World.ownsRow.kept h (fix_grown ((Fix.refl b b w).setCell (p := ⟨b, o, none⟩) (.inl rfl) u)) (.inr hb)
theorem own_ne {α : Type} {f : α → List Value} {size : Nat} {e t : TypeId} {w : World} {base : Nat} {v : Value} {xs : List α} (h : OwnL f size e w base v xs) {b : Nat} {cs : Array Value} (hb : Blk w b t cs) (hne : e ≠ t) : v.ownBlock ≠ some b := fun e2 => by
 obtain ⟨-, c1, b1⟩ := own_block h e2
 exact hne (blk_type b1 hb)
/-- A proof in a box, its persons a list of one's own. -/
structure Bx (w W : World) (b : Nat) (p : Pf) : Prop where
 g : Below w.heap.size w W
 bk : Blk W b 56 (pb p)
 o : OwnL icells 1 3 W w.heap.size (.slice p.A p.n p.c) p.q.per
 lo : w.heap.size ≤ b
theorem Bx.pi {w W : World} {b : Nat} {p : Pf} (h : Bx w W b p) (hp : p.q.per.length ≤ 1000) : PI W p ∧ ∀ a, p.A = some a → w.heap.size ≤ a.block ∧ a.block < W.heap.size := by
 obtain ⟨A', c', e, h1, h2, h3, h4⟩ := OwnL.arr kdI h.o
 simp only [Value.slice.injEq] at e
 obtain ⟨e1, e2, e3⟩ := e
 rw [← e1, ← e2] at h3
 refine ⟨⟨h3, by unfold maxLen at h2; omega⟩, fun a e => ?_⟩
 have hob : (Value.slice p.A p.n p.c).ownBlock = some a.block := by rw [e]; rfl
 exact ⟨(own_block h.o hob).1, own_lt2 h.o hob⟩
theorem Bx.ext {w W W2 : World} {b : Nat} {p : Pf} (h : Bx w W b p) (k : Below W.heap.size W W2) : Bx w W2 b p := ⟨h.g.trans (k.mono h.g.size), h.bk.ext k, h.o.ext k, h.lo⟩
/-- A store into the box. -/
theorem Bx.set {w W : World} {b : Nat} {p p' : Pf} (h : Bx w W b p) (i : Nat) (u : Value) (hc : (pb p).setIfInBounds i u = pb p') (hA : p'.A = p.A ∧ p'.n = p.n ∧ p'.c = p.c ∧ p'.q.per = p.q.per) : Bx w (W.setCell ⟨b, i, none⟩ u) b p' :=
 ⟨h.g.setCell (p := ⟨b, i, none⟩) h.lo u, by rw [← hc]; exact h.bk.set_ i u, by rw [hA.1, hA.2.1, hA.2.2.1, hA.2.2.2]; exact h.o.off (own_ne h.o h.bk (by decide)) u, h.lo⟩
/-- Another list of persons. -/
theorem Bx.per {w W W2 : World} {b : Nat} {p : Pf} (h : Bx w W b p) (k : Below W.heap.size W W2) {A : Option Addr} {n c : Nat} {l : List Int} (o : OwnL icells 1 3 W2 W.heap.size (.slice A n c) l) :
  Bx w (W2.setCell ⟨b, 2, none⟩ (.slice A n c)) b ⟨{ p.q with per := l }, A, n, c⟩ :=
 ⟨(h.g.trans (k.mono h.g.size)).setCell (p := ⟨b, 2, none⟩) h.lo _, (h.bk.ext k).set_ 2 _, (o.mono h.g.size).off (own_ne o (h.bk.ext k) (by decide)) _, h.lo⟩
end Go.Proofs.YtehhlgdkhecacaaGreat

namespace Go.Proofs.YtehhlgdkhecacaaGreat
open Go.ChangeShapes Go.WideShapes Go.ChangeAt Go.RowKit
theorem Tryz.own : ownKnob Tryz.prog.godebug = none := by kernel_rfl
theorem Tryz.laidOut : laidOutB Tryz.prog = true := by kernel_rfl
section
variable {H : Type} {enc : TypeId × Value → H} {P : Program}
/-- The arguments read behind the call as they read before. -/
theorem args_stay (hl : laidOutB P = true) {W W' : World} (hb : Below W.heap.size W W') {sp : Nat → Bool} :
  ∀ {ts : List TypeId} {vs : List Value} {ds : List (DataW H)} {ps : List MemPlace}, (ts.all fun t => P.readableRec t && decide (t < P.types.size)) = true → (∀ x ∈ ps, x.block < W.heap.size) → (∀ x ∈ ps, sp x.block = true) →
   DataW.TrodAll enc P W 0 (fun _ => true) true ts vs ds ps → DataW.TrodAll enc P W' 0 sp true ts vs ds ps
 | [], [], [], ps, _, _, _, h => h
 | t :: ts, v :: vs, d :: ds, ps, ht, hlt, hs, h => by
  obtain ⟨p, q, h1, h2, rfl⟩ := h
  simp only [List.all_cons, Bool.and_eq_true, decide_eq_true_eq] at ht
  exact ⟨p, q, WideElems.Trod_stays hl ht.1.1 ht.1.2 h1 (fun x hx => hb.same (hlt x (List.mem_append_left _ hx))) (fun x hx => hs x (List.mem_append_left _ hx)),
   args_stay hl hb ht.2 (fun x hx => hlt x (List.mem_append_right _ hx)) (fun x hx => hs x (List.mem_append_right _ hx)) h2, rfl⟩
 | [], [], _ :: _, _, _, _, _, h => h.elim
 | [], _ :: _, [], _, _, _, _, h => h.elim
 | [], _ :: _, _ :: _, _, _, _, _, h => h.elim
 | _ :: _, [], [], _, _, _, _, h => h.elim
 | _ :: _, [], _ :: _, _, _, _, _, h => h.elim
 | _ :: _, _ :: _, [], _, _, _, _, h => h.elim
/-- The end of a row: true came back; nothing that was there has turned. -/
theorem law_post {f : Func} {s : ChangeSpec} {apart fresh handsOn again : Bool} {W W' : World} {args : Array Value} {ds : List (DataW H)} {before : List MemPlace} (hl : laidOutB P = true)
  (hW : DataW.Whole enc P f.params.toList s.vars apart W args.toList ds [] before) (hA : DataW.TrodAll enc P W 0 (fun _ => true) true f.params.toList args.toList ds before) (hv : s.vars = [])
  (hrt : f.resultTypes = #[4]) (h4 : P.underlying 4 = some .bool) (hres : (s.fn H (ds ++ [])).results = [.lit (.bool true)]) (hargs : (s.fn H (ds ++ [])).args = ds) (hvars : (s.fn H (ds ++ [])).vars = [])
  (hp : (f.params.toList.all fun t => P.readableRec t && decide (t < P.types.size)) = true) (hb : Below W.heap.size W W') : s.post enc P f apart fresh handsOn again W args (.bool true) W' := by
 have hlt : ∀ p ∈ before, p.block < W.heap.size := fun p hp => hW.lt p hp
 have hA' : ∀ sp : Nat → Bool, (∀ p ∈ before, sp p.block = true) → DataW.TrodAll enc P W' 0 sp true f.params.toList args.toList (s.fn H (ds ++ [])).args before :=
  fun sp hsp => by rw [hargs]; exact args_stay hl hb hp hlt hsp hA
 have hV' : ∀ sp : Nat → Bool, DataW.TrodVars enc P W' sp s.vars (s.fn H (ds ++ [])).vars [] := fun sp => by rw [hv, hvars]; rfl
 have hR : ∀ (b : Nat) (sp : Nat → Bool) (hd : Bool), DataW.TrodAll enc P W' b sp hd f.resultTypes.toList ((Value.bool true).resultList f.resultTypes.size) (s.fn H (ds ++ [])).results [] := fun b sp hd => by
  rw [hres, hrt]; exact trodAll_mk1 (shut_bool h4 _)
 have hold : ∀ p ∈ before, (fun b => decide (b < W.heap.size)) p.block = true := fun p hp => by simpa using hlt p hp
 refine ⟨ds, [], before, [], before, [], hW, hR _ _ _, hA' _ hold, hV' _, World.keptBut_mono (fun p hp => ⟨hp, .inr (.inl hp)⟩) (hb.frame (· ∈ before)), fun _ => ?_⟩
 obtain ⟨_, _, _, _, _, hz, hn⟩ := hW
 refine ⟨?_, _, _, ([] ++ before) ++ [], ⟨[] ++ before, [], trodAll_append (hA' _ (fun _ _ => rfl)) (hR _ _ _), hV' _, rfl, ?_, ?_⟩, ?_⟩
 ·intro j t r hj hr
  exact ok_one hrt rfl (okWide_bool_mk h4 _) j t r hj hr
 ·intro b off hp
  have hin : MemPlace.cell b off ∈ before := by simpa using hp
  rw [hb.frozen (hlt _ hin)]
  exact hz b off hin
 ·intro ha
  have := hn ha
  simpa using this
 ·intro p hp _
  simpa using hp
end
theorem cells3 : Tryz.prog.cellsOf 3 = 1 := by kernel_rfl
theorem cells25 : Tryz.prog.cellsOf 25 = 1 := by kernel_rfl
theorem cells121 : Tryz.prog.cellsOf 121 = 9 := by kernel_rfl
theorem cells71 : Tryz.prog.cellsOf 71 = 3 := by kernel_rfl
theorem cells69 : Tryz.prog.cellsOf 69 = 4 := by kernel_rfl
theorem cells76 : Tryz.prog.cellsOf 76 = 3 := by kernel_rfl
section
variable {H : Type} {enc : TypeId × Value → H} {w : World} {base : Nat} {sp : Nat → Bool} {held : Bool} {fuel : Nat} {cs : List Value} {x : DataW H × List MemPlace}
theorem openInt (h : DataW.trod enc Tryz.prog w base sp held fuel 3 cs = some x) : ∃ a : Int, cs = [.int .i64 a] ∧ -9223372036854775808 ≤ a ∧ a ≤ 9223372036854775807 := by
 obtain ⟨a, ha, -, hw⟩ := DataW.trod_int Tryz.underlying3 h
 refine ⟨a, ha, ?_⟩
 have := hw
 simp [Lit.wf, IntKind.min, IntKind.max, IntKind.signed, IntKind.bits] at this
 omega
/-- A slice whose elements are known reads as a list. -/
theorem openSlice {α : Type} [Inhabited α] {f : α → List Value} {size : Nat} {t e : TypeId} (ht : Tryz.prog.underlying t = some (.slice e)) (he : Tryz.prog.cellsOf e = size) (hs : 0 < size)
  (hel : ∀ fuel cs x, DataW.trod enc Tryz.prog w base sp held fuel e cs = some x → ∃ a, cs = f a) (h : DataW.trod enc Tryz.prog w base sp held fuel t cs = some x) :
  ∃ A n c xs, cs = [.slice A n c] ∧ n ≤ c ∧ c ≤ maxLen ∧ Arr f size w A n xs := by
 rcases DataW.trod_slice ht h with ⟨h0, -⟩ | ⟨a, len, cap, elems, rest, n, -, rfl, -, hb, hl, hm, hlen, hel1, -, -⟩
 ·exact ⟨none, 0, 0, [], h0, Nat.le_refl _, Nat.zero_le _, Arr.nil_⟩
 ·have each : ∀ i, i < len → ∃ y, w.cells? base (a.add (i * size)) size = some (f y) := by
   intro i hi
   have h1 := hel1 i hi
   rw [List.getElem?_eq_getElem (by omega), he] at h1
   obtain ⟨cs', h2, h3⟩ := Option.bind_eq_some_iff.1 h1
   obtain ⟨y, rfl⟩ := hel _ _ _ h3
   exact ⟨y, h2⟩
  obtain ⟨q, hq⟩ := Go.Deep.choose_lt each
  refine ⟨some a, len, cap, (List.range len).map q, rfl, hl, hm, by simp, fun hn => ?_⟩
  obtain ⟨b, o, spot⟩ := a
  have h0 := World.cells?_some (hq 0 hn)
  have hne : ∃ c0, (f (q 0))[0]? = some c0 := ⟨_, List.getElem?_eq_getElem (by rw [h0.2.1]; exact hs)⟩
  obtain ⟨c0, hc0⟩ := hne
  have g0 := h0.2.2 0 hs
  rw [hc0] at g0
  have hspot : spot = none := by simpa [Addr.add] using World.cell?_spot g0
  subst hspot
  have hbl := World.block_lt_of_cell? w _ g0
  simp only [Nat.zero_mul, add_at, Nat.add_zero] at hbl
  refine ⟨b, o, rfl, hbl, fun k y hy j u hu => ?_⟩
  have hk : k < len := by have := (List.getElem?_eq_some_iff.1 hy).1; simpa using this
  have ey : y = q k := by rw [List.getElem?_map, List.getElem?_range hk] at hy; simpa using hy.symm
  subst ey
  have hk2 := World.cells?_some (hq k hk)
  have hj : j < size := by rw [← hk2.2.1]; exact (List.getElem?_eq_some_iff.1 hu).1
  have := hk2.2.2 j hj
  rw [add_at, add_at, hu] at this
  exact this
theorem Arr.vals_ {α β : Type} {f : α → List Value} {g : β → α} {size : Nat} {w : World} {A : Option Addr} {n : Nat} {xs : List β} (h : Arr (fun x => f (g x)) size w A n xs) : Arr f size w A n (xs.map g) := by
 refine ⟨by rw [List.length_map]; exact h.1, fun h0 => ?_⟩
 obtain ⟨b, o, e, hb, hc⟩ := h.2 h0
 refine ⟨b, o, e, hb, fun k y hy j u hu => ?_⟩
 rw [List.getElem?_map] at hy
 obtain ⟨z, hz, rfl⟩ := Option.map_eq_some_iff.1 hy
 exact hc k z hz j u hu
set_option maxRecDepth 100000 in
theorem openRa {cs : List Value} (h : DataW.trod enc Tryz.prog w base sp held fuel 121 cs = some x) : ∃ q : {q : Ra // RaOk q}, cs = rcells q.val := by
 obtain ⟨xs, n, -, -, hl, hxl, hf⟩ := DataW.trod_struct Tryz.underlying121 h
 have hxl' : xs.length = 9 := hxl
 have h0 : DataW.trod enc Tryz.prog w base sp held n 3 ((cs.drop 0).take (Tryz.prog.cellsOf 3)) = xs[0]? := hf 0 _ rfl
 have h1 : DataW.trod enc Tryz.prog w base sp held n 3 ((cs.drop 1).take (Tryz.prog.cellsOf 3)) = xs[1]? := hf 1 _ rfl
 have h2 : DataW.trod enc Tryz.prog w base sp held n 3 ((cs.drop 2).take (Tryz.prog.cellsOf 3)) = xs[2]? := hf 2 _ rfl
 have h3 : DataW.trod enc Tryz.prog w base sp held n 3 ((cs.drop 3).take (Tryz.prog.cellsOf 3)) = xs[3]? := hf 3 _ rfl
 have h4 : DataW.trod enc Tryz.prog w base sp held n 3 ((cs.drop 4).take (Tryz.prog.cellsOf 3)) = xs[4]? := hf 4 _ rfl
 have h5 : DataW.trod enc Tryz.prog w base sp held n 3 ((cs.drop 5).take (Tryz.prog.cellsOf 3)) = xs[5]? := hf 5 _ rfl
 have h6 : DataW.trod enc Tryz.prog w base sp held n 3 ((cs.drop 6).take (Tryz.prog.cellsOf 3)) = xs[6]? := hf 6 _ rfl
 have h7 : DataW.trod enc Tryz.prog w base sp held n 3 ((cs.drop 7).take (Tryz.prog.cellsOf 3)) = xs[7]? := hf 7 _ rfl
 have h8 : DataW.trod enc Tryz.prog w base sp held n 3 ((cs.drop 8).take (Tryz.prog.cellsOf 3)) = xs[8]? := hf 8 _ rfl
 rw [cells3] at h0 h1 h2 h3 h4 h5 h6 h7 h8
 rw [cells121] at hl
 match cs, hl with
 | [c0, c1, c2, c3, c4, c5, c6, c7, c8], _ =>
  obtain ⟨a0, e0, i0⟩ := openInt (h0.trans (List.getElem?_eq_getElem (by omega)))
  obtain ⟨a1, e1, i1⟩ := openInt (h1.trans (List.getElem?_eq_getElem (by omega)))
  obtain ⟨a2, e2, i2⟩ := openInt (h2.trans (List.getElem?_eq_getElem (by omega)))
  obtain ⟨a3, e3, i3⟩ := openInt (h3.trans (List.getElem?_eq_getElem (by omega)))
  obtain ⟨a4, e4, i4⟩ := openInt (h4.trans (List.getElem?_eq_getElem (by omega)))
  obtain ⟨a5, e5, i5⟩ := openInt (h5.trans (List.getElem?_eq_getElem (by omega)))
  obtain ⟨a6, e6, i6⟩ := openInt (h6.trans (List.getElem?_eq_getElem (by omega)))
  obtain ⟨a7, e7, i7⟩ := openInt (h7.trans (List.getElem?_eq_getElem (by omega)))
  obtain ⟨a8, e8, i8⟩ := openInt (h8.trans (List.getElem?_eq_getElem (by omega)))
  simp at e0 e1 e2 e3 e4 e5 e6 e7 e8
  subst e0 e1 e2 e3 e4 e5 e6 e7 e8
  exact ⟨⟨⟨a0, a1, a2, a3, a4, a5, a6, a7, a8⟩, i8⟩, rfl⟩
instance : Inhabited {q : Ra // RaOk q} := ⟨⟨r0, by unfold RaOk I64 r0; decide⟩⟩
set_option maxRecDepth 100000 in
theorem openIs {cs : List Value} (h : DataW.trod enc Tryz.prog w base sp held fuel 25 cs = some x) : ∃ A n c xs, cs = [.slice A n c] ∧ n ≤ c ∧ c ≤ maxLen ∧ Ints w A n xs :=
 openSlice (f := icells) Tryz.underlying25 cells3 (by decide) (fun _ _ _ hq => by obtain ⟨a, e, -⟩ := openInt hq; exact ⟨a, e⟩) h
instance : Inhabited {p : Pf // PI w p} := ⟨⟨p0, Arr.nil_, Nat.le_refl _, Nat.zero_le _⟩⟩
variable {r : Reach} {b0 : Nat} {v : Value} {d : DataW H} {p : List MemPlace}
theorem okWide_array {P : Program} {t e : TypeId} {n : Nat} (ht : P.underlying t = some (.array n e)) (h : Value.okWide P w r b0 t v) : ∃ cs, v = .agg cs ∧ cs.size = P.cellsOf t := by
 simp only [Value.okWide, ht] at h
 obtain ⟨cs, h1, h2, _⟩ := h
 exact ⟨cs, h1, h2⟩
set_option maxRecDepth 100000 in
theorem openRas (hv : Value.okWide Tryz.prog w r b0 50 v) (h : DataW.Trod enc Tryz.prog w base sp held 50 v d p) : ∃ A n c l, v = .slice A n c ∧ n ≤ 9223372036854775807 ∧ Arr rcells 9 w A n l ∧ ∀ y ∈ l, RaOk y := by
 obtain ⟨fuel, hf⟩ := h
 obtain ⟨A, n, c, xs, e, h1, h2, h3⟩ := openSlice (f := fun q : {q : Ra // RaOk q} => rcells q.val) Tryz.underlying50 cells121 (by decide) (fun _ _ _ hq => openRa hq) hf
 have hv1 : v = .slice A n c := by
  have hcl := okWide_slice Tryz.underlying50 hv
  obtain ⟨a, l, k, rfl, -⟩ := hcl
  simpa [Value.cells] using e
 unfold maxLen at h2
 refine ⟨A, n, c, xs.map Subtype.val, hv1, by omega, h3.vals_, fun q hq => ?_⟩
 obtain ⟨y, -, rfl⟩ := List.mem_map.1 hq
 exact y.property
set_option maxRecDepth 100000 in
theorem openIsV (hv : Value.okWide Tryz.prog w r b0 25 v) (h : DataW.Trod enc Tryz.prog w base sp held 25 v d p) : ∃ A n c l, v = .slice A n c ∧ n ≤ c ∧ c ≤ 9223372036854775807 ∧ Ints w A n l := by
 obtain ⟨fuel, hf⟩ := h
 obtain ⟨A, n, c, xs, e, h1, h2, h3⟩ := openSlice (f := icells) Tryz.underlying25 cells3 (by decide) (fun _ _ _ hq => by obtain ⟨a, e, -⟩ := openInt hq; exact ⟨a, e⟩) hf
 have hv1 : v = .slice A n c := by
  have hcl := okWide_slice Tryz.underlying25 hv
  obtain ⟨a, l, k, rfl, -⟩ := hcl
  simpa [Value.cells] using e
 unfold maxLen at h2
 exact ⟨A, n, c, xs, hv1, h1, h2, h3⟩
set_option maxRecDepth 100000 in
theorem openA3 (hv : Value.okWide Tryz.prog w r b0 71 v) (h : DataW.Trod enc Tryz.prog w base sp held 71 v d p) : ∃ z0 z1 z2 : Int, v = .agg #[.int .i64 z0, .int .i64 z1, .int .i64 z2] := by
 obtain ⟨cs, rfl, hsz⟩ := okWide_array Tryz.underlying71 hv
 obtain ⟨fuel, hf⟩ := h
 rw [cells71] at hsz
 obtain ⟨c0, c1, c2, rfl⟩ : ∃ c0 c1 c2, cs = #[c0, c1, c2] := by
  obtain ⟨l⟩ := cs
  match l, hsz with
  | [c0, c1, c2], _ => exact ⟨c0, c1, c2, rfl⟩
 obtain ⟨xs, n, -, -, hl, hxl, hf⟩ := DataW.trod_array Tryz.underlying71 hf
 rw [cells3] at hf
 obtain ⟨a0, e0, -⟩ := openInt ((hf 0 (by decide)).trans (List.getElem?_eq_getElem (by omega)))
 obtain ⟨a1, e1, -⟩ := openInt ((hf 1 (by decide)).trans (List.getElem?_eq_getElem (by omega)))
 obtain ⟨a2, e2, -⟩ := openInt ((hf 2 (by decide)).trans (List.getElem?_eq_getElem (by omega)))
 simp [Value.cells] at e0 e1 e2
 subst e0 e1 e2
 exact ⟨_, _, _, rfl⟩
set_option maxRecDepth 100000 in
theorem openA4 (hv : Value.okWide Tryz.prog w r b0 69 v) (h : DataW.Trod enc Tryz.prog w base sp held 69 v d p) : ∃ z0 z1 z2 z3 : Int, v = .agg #[.int .i64 z0, .int .i64 z1, .int .i64 z2, .int .i64 z3] := by
 obtain ⟨cs, rfl, hsz⟩ := okWide_array Tryz.underlying69 hv
 obtain ⟨fuel, hf⟩ := h
 rw [cells69] at hsz
 obtain ⟨c0, c1, c2, c3, rfl⟩ : ∃ c0 c1 c2 c3, cs = #[c0, c1, c2, c3] := by
  obtain ⟨l⟩ := cs
  match l, hsz with
  | [c0, c1, c2, c3], _ => exact ⟨c0, c1, c2, c3, rfl⟩
 obtain ⟨xs, n, -, -, hl, hxl, hf⟩ := DataW.trod_array Tryz.underlying69 hf
 rw [cells3] at hf
 obtain ⟨a0, e0, -⟩ := openInt ((hf 0 (by decide)).trans (List.getElem?_eq_getElem (by omega)))
 obtain ⟨a1, e1, -⟩ := openInt ((hf 1 (by decide)).trans (List.getElem?_eq_getElem (by omega)))
 obtain ⟨a2, e2, -⟩ := openInt ((hf 2 (by decide)).trans (List.getElem?_eq_getElem (by omega)))
 obtain ⟨a3, e3, -⟩ := openInt ((hf 3 (by decide)).trans (List.getElem?_eq_getElem (by omega)))
 simp [Value.cells] at e0 e1 e2 e3
 subst e0 e1 e2 e3
 exact ⟨_, _, _, _, rfl⟩
set_option maxRecDepth 100000 in
theorem openSomeV (hv : Value.okWide Tryz.prog w r b0 76 v) (h : DataW.Trod enc Tryz.prog w base sp held 76 v d p) : ∃ (z0 z1 : Int) (A : Option Addr) (n c : Nat) (l : List Int), v = .agg #[.int .i64 z0, .int .i64 z1, .slice A n c] ∧ n ≤ c ∧ c ≤ 9223372036854775807 ∧ Ints w A n l := by
 obtain ⟨cs, rfl, hsz⟩ := okWide_struct Tryz.underlying76 hv
 obtain ⟨fuel, hf⟩ := h
 rw [cells76] at hsz
 obtain ⟨u0, u1, u2, rfl⟩ : ∃ u0 u1 u2, cs = #[u0, u1, u2] := by
  obtain ⟨l⟩ := cs
  match l, hsz with
  | [u0, u1, u2], _ => exact ⟨u0, u1, u2, rfl⟩
 obtain ⟨xs, n, -, -, hl, hxl, hf⟩ := DataW.trod_struct Tryz.underlying76 hf
 have hxl' : xs.length = 3 := hxl
 have h0 : DataW.trod enc Tryz.prog w base sp held n 3 (((Value.agg #[u0, u1, u2]).cells.toList.drop 0).take (Tryz.prog.cellsOf 3)) = xs[0]? := hf 0 _ rfl
 have h1 : DataW.trod enc Tryz.prog w base sp held n 3 (((Value.agg #[u0, u1, u2]).cells.toList.drop 1).take (Tryz.prog.cellsOf 3)) = xs[1]? := hf 1 _ rfl
 have h2 : DataW.trod enc Tryz.prog w base sp held n 25 (((Value.agg #[u0, u1, u2]).cells.toList.drop 2).take (Tryz.prog.cellsOf 25)) = xs[2]? := hf 2 _ rfl
 rw [cells3] at h0 h1
 rw [cells25] at h2
 obtain ⟨a0, e0, -⟩ := openInt (h0.trans (List.getElem?_eq_getElem (by omega)))
 obtain ⟨a1, e1, -⟩ := openInt (h1.trans (List.getElem?_eq_getElem (by omega)))
 obtain ⟨A2, n2, m2, l2, e2, k1, k2, k3⟩ := openIs (h2.trans (List.getElem?_eq_getElem (by omega)))
 simp [Value.cells] at e0 e1 e2
 subst e0 e1 e2
 unfold maxLen at k2
 exact ⟨_, _, _, _, _, l2, rfl, k1, k2, k3⟩
end
end Go.Proofs.YtehhlgdkhecacaaGreat
