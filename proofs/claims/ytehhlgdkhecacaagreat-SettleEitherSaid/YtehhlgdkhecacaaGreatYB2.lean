/- Part of the proof: EF, EG. -/
import Derived.Test.YtehhlgdkhecacaaGreatYA3
import Derived.Test.YtehhlgdkhecacaaGreatYB1
namespace Go.Proofs.YtehhlgdkhecacaaGreat
open Go.RowKit Go.Shelf
theorem ckRd_of {l : List Qf} (h : okL l = true) {known : Int} (hk : 0 ≤ known ∧ known ≤ 4166) (r : List Int) : ckRdE l known r = err (isRd (cntL l known) r) 23 := by
 unfold ckRdE
 rw [lookE_ok h (fun d hd => by rw [List.mem_singleton] at hd; subst hd; exact hk), if_pos rfl]
theorem two_days {day known : Int} (hd : 0 ≤ day ∧ day ≤ 4166) (hk : 0 ≤ known ∧ known ≤ 4166) : ∀ d ∈ ([day, known] : List Int), 0 ≤ d ∧ d ≤ 4166 := fun d h => by
 rw [List.mem_cons, List.mem_singleton] at h
 rcases h with rfl | rfl
 ·exact hd
 ·exact hk
theorem one_day {known : Int} (hk : 0 ≤ known ∧ known ≤ 4166) : ∀ d ∈ ([known] : List Int), 0 ≤ d ∧ d ≤ 4166 := fun d h => by
 rw [List.mem_singleton] at h
 subst h; exact hk
section
variable {W : World} {A : Option Addr} {n c : Nat} {ls : List Pf} {ml : List Qf} {known day person parish : Int}
theorem c41 (hp : Prf W A n ls) (hq : ls.map Pf.q = ml) (hok : okL ml = true) (hn : n ≤ 1000) (hk : 0 ≤ known ∧ known ≤ 4166) :
  Calls Tryz.prog 41 #[.slice A n c, .int .i64 known] W fun e w' => e = .returned (.tuple #[.int .i64 ((reads (cntL ml known)).length : Int), .int .i64 0]) ∧ Below W.heap.size W w' := by
 have := readingsF_any A n c ls known W hp (by omega)
 rw [hq] at this
 unfold rdsN at this
 rwa [lookE_ok hok (one_day hk), if_pos rfl] at this
theorem c26 (hp : Prf W A n ls) (hq : ls.map Pf.q = ml) (hok : okL ml = true) (hn : n ≤ 1000) (hpr : 1 ≤ person ∧ person ≤ 999) (hd : 0 ≤ day ∧ day ≤ 4166) (hk : 0 ≤ known ∧ known ≤ 4166) (hr : isRead (cntL ml known) = true) :
  Calls Tryz.prog 26 #[.slice A n c, .int .i64 person, .int .i64 day, .int .i64 known] W (ListSh (wherS (cntL ml known) person day) W) := by
 have := whereF_any A n c ls person day known W hp (by omega)
 rw [hq] at this
 exact this.mono fun e w' h => h.sh (by rw [readE_of hok hpr ⟨by omega, by omega⟩ (two_days hd hk), if_pos hr]) (Nat.le_trans (wher_len hok _ _ _) (by omega))
theorem c28 (hp : Prf W A n ls) (hq : ls.map Pf.q = ml) (hok : okL ml = true) (hn : n ≤ 1000) (hpr : 1 ≤ person ∧ person ≤ 999) (hpa : 0 ≤ parish ∧ parish ≤ 5) (hd : 0 ≤ day ∧ day ≤ 4166) (hk : 0 ≤ known ∧ known ≤ 4166) :
  Calls Tryz.prog 28 #[.slice A n c, .int .i64 person, .int .i64 parish, .int .i64 day, .int .i64 known] W fun e w' => e = .returned (.tuple #[.int .i64 (if isRead (cntL ml known) = true then righN (wherS (cntL ml known) person day) parish else 0), .int .i64 (if isRead (cntL ml known) = true then 0 else 24)]) ∧ Below W.heap.size W w' := by
 have := rightF_any A n c ls person parish day known W hp (by omega)
 rw [hq, readE_of hok hpr hpa (two_days hd hk)] at this
 unfold NumEnd at this
 by_cases h : isRead (cntL ml known) = true
 ·rw [if_pos h, if_pos rfl] at this
  rwa [if_pos h, if_pos h]
 ·rw [if_neg h, if_neg (by decide)] at this
  rwa [if_neg h, if_neg h]
theorem c23 {B : Option Addr} {m d : Nat} {r : List Int} (hp : Prf W A n ls) (hq : ls.map Pf.q = ml) (hok : okL ml = true) (hn : n ≤ 1000) (hi : Ints W B m r) (hmd : m ≤ d) (hdc : d ≤ 9223372036854775807) (hpr : 1 ≤ person ∧ person ≤ 999) (hd : 0 ≤ day ∧ day ≤ 4166) (hk : 0 ≤ known ∧ known ≤ 4166) (hr : isRd (cntL ml known) r = true) :
  Calls Tryz.prog 23 #[.slice A n c, .slice B m d, .int .i64 person, .int .i64 day, .int .i64 known] W fun e w' => e = .returned (.tuple #[.int .i64 (setS (cntL ml known) r person day), .int .i64 0]) ∧ Below W.heap.size W w' := by
 have := settledF_any A n c ls B m d r person day known W hp (by omega) hi hmd hdc
 rw [hq, byRd_of hok hpr (two_days hd hk) hr] at this
 unfold SettledEnd at this
 rwa [if_pos rfl] at this
theorem c45 {B : Option Addr} {m d : Nat} {r : List Int} (hp : Prf W A n ls) (hq : ls.map Pf.q = ml) (hok : okL ml = true) (hn : n ≤ 1000) (hi : Ints W B m r) (hmd : m ≤ d) (hdc : d ≤ 9223372036854775807) (hk : 0 ≤ known ∧ known ≤ 4166) :
  Calls Tryz.prog 45 #[.slice A n c, .int .i64 known, .slice B m d] W fun e w' => e = .returned (.int .i64 (err (isRd (cntL ml known) r) 23)) ∧ Below W.heap.size W w' := by
 have := checkReading_any A n c ls known B m d r W hp (by omega) hi hmd hdc
 rwa [hq, ckRd_of hok hk] at this
theorem isRd_len {l : List Qf} {r : List Int} (h : isRd l r = true) : r.length = l.length := (isRd_zip.1 h).1
theorem cnt_len {l : List Qf} (h : okL l = true) (known : Int) : (cntL l known).length ≤ 60 := Nat.le_trans (List.length_filter_le _ _) (okL_len h)
theorem rd_at {l : List Qf} {k : Nat} (hk : k < (reads l).length) : isRd l ((reads l).getD k []) = true := by
 rw [List.getD_eq_getElem?_getD, List.getElem?_eq_getElem hk]
 exact mem_reads.1 (List.getElem_mem hk)
theorem c44 {k : Nat} (hp : Prf W A n ls) (hq : ls.map Pf.q = ml) (hok : okL ml = true) (hn : n ≤ 1000) (hk : 0 ≤ known ∧ known ≤ 4166) (hlt : k < (reads (cntL ml known)).length) :
  Calls Tryz.prog 44 #[.slice A n c, .int .i64 known, .int .i64 k] W (ListSh ((reads (cntL ml known)).getD k []) W) := by
 have := readingF_any A n c ls known k W hp (by omega)
 rw [hq] at this
 refine this.mono ?_
 rintro e w' ⟨⟨D, m, d, rfl, h1, h2, hi⟩, hg⟩
 have hE : rdE ml known k = 0 := by
  unfold rdE
  rw [lookE_ok hok (one_day hk), if_pos rfl, if_pos ⟨by omega, by omega⟩]
 unfold rdV at hi
 rw [hE, if_pos rfl, Int.toNat_natCast] at hi
 unfold maxLen at h2
 have hl := isRd_len (rd_at hlt)
 have hc := cnt_len hok known
 exact ⟨D, m, d, by rw [hE], hi, by have := hi.1; omega, h1, by omega, hg⟩
theorem c44_no {k : Int} (hp : Prf W A n ls) (hq : ls.map Pf.q = ml) (hok : okL ml = true) (hn : n ≤ 1000) (hk : 0 ≤ known ∧ known ≤ 4166) (hno : ¬ (0 ≤ k ∧ k < (reads (cntL ml known)).length)) :
  Calls Tryz.prog 44 #[.slice A n c, .int .i64 known, .int .i64 k] W fun e w' => (∃ D m d, e = .returned (.tuple #[.slice D m d, .int .i64 3])) ∧ Below W.heap.size W w' := by
 have := readingF_any A n c ls known k W hp (by omega)
 rw [hq] at this
 refine this.mono ?_
 rintro e w' ⟨⟨D, m, d, rfl, h1, h2, hi⟩, hg⟩
 have hE : rdE ml known k = 3 := by
  unfold rdE
  rw [lookE_ok hok (one_day hk), if_pos rfl, if_neg hno]
 exact ⟨⟨D, m, d, by rw [hE]⟩, hg⟩
theorem c30 {iv : Bool} (hp : Prf W A n ls) (hq : ls.map Pf.q = ml) (hok : okL ml = true) (hn : n ≤ 1000) (hpr : 1 ≤ person ∧ person ≤ 999) (hpa : 0 ≤ parish ∧ parish ≤ 5) (hd : 0 ≤ day ∧ day ≤ 4166) (hk : 0 ≤ known ∧ known ≤ 4166) (hr : isRead (cntL ml known) = true) :
  Calls Tryz.prog 30 #[.slice A n c, .int .i64 person, .int .i64 parish, .int .i64 day, .int .i64 known, .bool iv] W fun e w' =>
   ∃ D m d, e = .returned (.tuple #[.slice D m d, .int .i64 (if dueB (righN (wherS (cntL ml known) person day) parish) iv = true then 0 else 3)]) ∧ m ≤ 3000 ∧ m ≤ d ∧ d ≤ 9223372036854775807 ∧
    (dueB (righN (wherS (cntL ml known) person day) parish) iv = true → Ints w' D m (shL (cntL ml known) person parish day iv) ∧ isRd (cntL ml known) (shL (cntL ml known) person parish day iv) = true ∧ (setS (cntL ml known) (shL (cntL ml known) person parish day iv) person day == parish) = iv) ∧
    (dueB (righN (wherS (cntL ml known) person day) parish) iv = false → m = 0) ∧ Below W.heap.size W w' := by
 have := show_any A n c ls person parish day known iv W hp (by omega)
 rw [hq] at this
 refine this.mono ?_
 rintro e w' ⟨D, m, d, rfl, hi, h1, h2, hg⟩
 have hdu := show_due (person := person) (parish := parish) (day := day) (iv := iv) hr
 have hE : shE ml person parish day known iv = if dueB (righN (wherS (cntL ml known) person day) parish) iv = true then 0 else 3 := by
  unfold shE
  rw [readE_of hok hpr hpa (two_days hd hk), if_pos hr, if_pos rfl, hdu]
 rw [hE] at hi ⊢
 unfold maxLen at h2
 by_cases hb : dueB (righN (wherS (cntL ml known) person day) parish) iv = true
 ·rw [if_pos hb, if_pos rfl] at hi
  rw [hb] at hdu
  obtain ⟨k1, k2⟩ := show_is hdu
  have hl := isRd_len k1
  have hc := cnt_len hok known
  have hb2 := shB_iff.1 k2
  refine ⟨D, m, d, rfl, by have := hi.1; omega, h1, by omega, fun _ => ⟨hi, k1, ?_⟩, fun h => (by rw [hb] at h; cases h), hg⟩
  cases iv with
  | true => exact beq_iff_eq.2 (hb2.2 rfl)
  | false => exact beq_eq_false_iff_ne.2 fun h => by have := hb2.1 h; cases this
 ·rw [if_neg hb, if_neg (by decide)] at hi
  have hm : m = 0 := hi.1.symm
  exact ⟨D, m, d, rfl, by omega, h1, by omega, fun h => absurd h hb, fun _ => hm, hg⟩
end
end Go.Proofs.YtehhlgdkhecacaaGreat

namespace Go.Proofs.YtehhlgdkhecacaaGreat
open Go.RowKit Go.Shelf
/-- Where a person is settled by the first readings. -/
def seenL (c : List Qf) (person day : Int) (k : Nat) : List Int := setL (((reads c).take k).map fun r => setS c r person day)
theorem seen_succ {c : List Qf} {person day : Int} {k : Nat} (hk : k < (reads c).length) : seenL c person day (k + 1) = putI (seenL c person day k) (setS c ((reads c).getD k []) person day) := by
 unfold seenL
 rw [List.take_add_one, List.getElem?_eq_getElem hk, List.map_append, List.getD_eq_getElem?_getD, List.getElem?_eq_getElem hk]
 exact setL_snoc _ _
theorem seen_len (c : List Qf) (person day : Int) (k : Nat) : (seenL c person day k).length ≤ k := by
 unfold seenL
 refine Nat.le_trans (setL_len _) ?_
 rw [List.length_map, List.length_take]
 omega
theorem seen_all (c : List Qf) (person day : Int) {k : Nat} (h : (reads c).length ≤ k) : seenL c person day k = wherS c person day := by
 unfold seenL wherS
 rw [List.take_of_length_le h]
theorem made_open {w W : World} {v u : Value} {ls : List Pf} {x : List Ra} (h : Md w W v u ls (whoL x)) (hq : ls.map Pf.q = madeL x) : ∃ A1 n1 c1 A2 n2 c2, v = .slice A1 n1 c1 ∧ u = .slice A2 n2 c2 ∧ Prf W A1 n1 ls ∧ n1 ≤ 10 ∧ Ints W A2 n2 (whoL x) ∧ n2 ≤ c2 ∧ c2 ≤ maxLen ∧ n2 = n1 ∧ Below w.heap.size w W := by
 obtain ⟨A1, c1, rfl, -, -, hp⟩ := h.prf
 obtain ⟨A2, c2, rfl, k1, k2, hi, -⟩ := OwnL.arr kdI h.o2
 have h1 := congrArg List.length hq
 have h2 := madeN_le x
 rw [List.length_map, madeL_len] at h1
 exact ⟨A1, _, c1, A2, _, c2, rfl, rfl, hp, by omega, hi, k1, k2, by rw [show (whoL x).length = madeN x from whoP_len x _, h1], h.g⟩
set_option maxRecDepth 100000 in
set_option maxHeartbeats 16000000 in
theorem law9_any (A : Option Addr) (n c : Nat) (x : List Ra) (z0 z1 z2 z3 : Int) (w : World) (ha : Arr rcells 9 w A n x) (hn : n ≤ 9223372036854775807) (hx : ∀ r ∈ x, RaOk r) :
  Calls Tryz.prog 9 #[.slice A n c, .agg #[.int .i64 z0, .int .i64 z1, .int .i64 z2, .int .i64 z3]] w fun e w' => e = .returned (.bool true) ∧ Below w.heap.size w w' := by
 obtain ⟨W1, hW1⟩ : ∃ X, w.alloc (.cells #[.int .i64 z0, .int .i64 z1, .int .i64 z2, .int .i64 z3] 69) = X := ⟨_, rfl⟩
 have G1 := Lib.hid (show Below w.heap.size w W1 by rw [← hW1]; exact one_more _ _)
 have B1 := Lib.hid (show Blk W1 w.heap.size 69 #[.int .i64 z0, .int .i64 z1, .int .i64 z2, .int .i64 z3] by rw [← hW1]; exact Blk.new _ _ _)
 have HW1 := Lib.hid hW1
 have TM := Lib.hid refMod_any
 have TS := Lib.hid sane_any
 have TH := Lib.hid (made_any A n c x W1 (ha.below G1.out) hn hx)
 have HOK := Lib.hid (made_ok x)
 have HMO := Lib.hid (fun (W : World) v u ls (h : Md W1 W v u ls (whoL x)) hq => made_open h hq)
 obtain ⟨ml, hml⟩ : ∃ l, madeL x = l := ⟨_, rfl⟩
 obtain ⟨wl, hwl⟩ : ∃ l, whoL x = l := ⟨_, rfl⟩
 rw [hml, hwl] at TH HMO
 rw [hml] at HOK
 clear ha hx hml hwl hW1
 go_enter Tryz.func9, Tryz.ntmps9
 go_upto_region 1 with fail
 rw [HW1.out]
 go_upto_region 2 with (go_at_call 37; (with_reducible refine (TH.out).mono ?_); rintro e V ⟨v, u, ls, rfl, hmd, hq⟩; obtain ⟨A1, n1, c1, A2, n2, c2, rfl, rfl, hp, hn1, -, -, -, -, hg⟩ := HMO.out _ _ _ _ hmd hq; have HP := Lib.hid hp; have HQ := Lib.hid hq; have HN := Lib.hid (show n1 ≤ 1000 by omega); have GV := Lib.hid hg; have HG := Lib.hid (G1.out.trans (hg.mono G1.out.size)); clear hmd hp hq hn1 hg)
 have d0 := (B1.out.ext GV.out).cell 0
 have d1 := (B1.out.ext GV.out).cell 1
 have d2 := (B1.out.ext GV.out).cell 2
 have d3 := (B1.out.ext GV.out).cell 3
 have hw1 : wrap64 (1 + z2 % 5) = 1 + z2 % 5 := wrap_in (by omega)
 go_upto_region 6 with (go_at_call 38; (with_reducible refine (TM.out _ _ _ (by omega) (by omega)).mono ?_); rintro e w' ⟨rfl, rfl⟩)
 clear d0 d1 d2 d3
 obtain ⟨kn, hkn⟩ : ∃ d, z0 % 60 = d := ⟨_, rfl⟩
 obtain ⟨day, hday⟩ : ∃ d, z1 % 2500 = d := ⟨_, rfl⟩
 obtain ⟨per, hper⟩ : ∃ d, 1 + z2 % 5 = d := ⟨_, rfl⟩
 obtain ⟨par, hpar⟩ : ∃ d, z3 % 3 = d := ⟨_, rfl⟩
 have HK := Lib.hid (show 0 ≤ kn ∧ kn ≤ 4166 by omega)
 have HD := Lib.hid (show 0 ≤ day ∧ day ≤ 4166 by omega)
 have HPR := Lib.hid (show 1 ≤ per ∧ per ≤ 999 by omega)
 have HPA := Lib.hid (show 0 ≤ par ∧ par ≤ 5 by omega)
 rw [hkn, hday, hper, hpar]
 clear hkn hday hper hpar hw1
 have T41 := Lib.hid (c41 (c := c1) HP.out HQ.out HOK.out HN.out HK.out)
 have T28 := Lib.hid (fun W (g : Below V.heap.size V W) => c28 (c := c1) (parish := par) (person := per) (day := day) (HP.out.below g) HQ.out HOK.out HN.out HPR.out HPA.out HD.out HK.out)
 have T26 := Lib.hid (fun W (g : Below V.heap.size V W) h => c26 (c := c1) (person := per) (day := day) (HP.out.below g) HQ.out HOK.out HN.out HPR.out HD.out HK.out h)
 have T30 := Lib.hid (fun W (g : Below V.heap.size V W) iv h => c30 (c := c1) (iv := iv) (parish := par) (person := per) (day := day) (HP.out.below g) HQ.out HOK.out HN.out HPR.out HPA.out HD.out HK.out h)
 have T23 := Lib.hid (fun W (g : Below V.heap.size V W) B m d r (hi : Ints W B m r) hmd hdc h => c23 (c := c1) (d := d) (person := per) (day := day) (HP.out.below g) HQ.out HOK.out HN.out hi hmd hdc HPR.out HD.out HK.out h)
 have T45 := Lib.hid (fun W (g : Below V.heap.size V W) B m d r (hi : Ints W B m r) hmd hdc => c45 (c := c1) (d := d) (HP.out.below g) HQ.out HOK.out HN.out hi hmd hdc HK.out)
 have T44 := Lib.hid (fun W (g : Below V.heap.size V W) k h => c44 (c := c1) (k := k) (HP.out.below g) HQ.out HOK.out HN.out HK.out h)
 have HRL := Lib.hid (reads_len HOK.out kn)
 have HWL := Lib.hid (wher_len HOK.out kn per day)
 obtain ⟨cq, hcq⟩ : ∃ l, cntL ml kn = l := ⟨_, rfl⟩
 rw [hcq] at T41 T28 T26 T30 T23 T45 T44 HRL HWL
 have HIR := Lib.hid (show isRead cq = decide (0 < (reads cq).length) by
  unfold isRead
  cases reads cq <;> simp)
 obtain ⟨N, hN⟩ : ∃ k, (reads cq).length = k := ⟨_, rfl⟩
 have HNE := Lib.hid hN
 rw [hN] at T41 T44 HRL HIR
 clear hN hcq
 by_cases h0 : N = 0
 ·subst h0
  have hir : isRead cq = false := by rw [HIR.out]; rfl
  rw [hir] at T28
  have T28b := Lib.hid (fun W g => (show Calls Tryz.prog 28 #[.slice A1 n1 c1, .int .i64 per, .int .i64 par, .int .i64 day, .int .i64 kn] W fun e w' => e = .returned (.tuple #[.int .i64 0, .int .i64 24]) ∧ Below W.heap.size W w' from T28.out W g))
  clear hir
  go_wp2_with (first
   | (go_at_call 41; (with_reducible refine (T41.out).mono ?_); rintro e V1 ⟨rfl, hg⟩; have GV1 := Lib.hid hg; clear hg)
   | (go_at_call 28; (with_reducible refine (T28b.out _ GV1.out).mono ?_); rintro e V2 ⟨rfl, hg⟩; have GV2 := Lib.hid (GV1.out.trans (hg.mono GV1.out.size)); clear hg)
   | (go_at_call 20; (with_reducible refine (TS.out _).mono ?_); rintro e V9 ⟨rfl, hg⟩; have GV9 := Lib.hid (GV2.out.trans (hg.mono GV2.out.size)); clear hg))
  go_ret
  exact ⟨rfl, HG.out.trans (GV9.out.mono HG.out.size)⟩
 ·have hnb : ((N : Int) == 0) = false := beq_eq_false_iff_ne.2 (by omega)
  have HR := Lib.hid (show isRead cq = true by rw [HIR.out]; exact decide_eq_true (by omega))
  have T28b := Lib.hid (fun W g => (show Calls Tryz.prog 28 #[.slice A1 n1 c1, .int .i64 per, .int .i64 par, .int .i64 day, .int .i64 kn] W fun e w' => e = .returned (.tuple #[.int .i64 (righN (wherS cq per day) par), .int .i64 0]) ∧ Below W.heap.size W w' by
   have := T28.out W g
   rwa [if_pos HR.out, if_pos HR.out] at this))
  have T30b := Lib.hid (fun W g iv => T30.out W g iv HR.out)
  have E6 := Lib.hid (righN_cases (wherS cq per day) par)
  obtain ⟨an, han⟩ : ∃ t, righN (wherS cq per day) par = t := ⟨_, rfl⟩
  rw [han] at T28b T30b E6
  clear han
  go_upto_region 14 with (first
   | (go_at_call 41; (with_reducible refine (T41.out).mono ?_); rintro e V1 ⟨rfl, hg⟩; have GV1 := Lib.hid hg; clear hg)
   | (go_at_call 28; (with_reducible refine (T28b.out _ GV1.out).mono ?_); rintro e V2 ⟨rfl, hg⟩; have GV2 := Lib.hid (GV1.out.trans (hg.mono GV1.out.size)); clear hg))
  go_wp2_with fail
  go_loopw [15] (fun i wr => ∃ k : Nat, k ≤ 2 ∧ i = .int .i64 k ∧ Below V.heap.size V wr) (fun i _ => 2 - (intOf i).toNat)
  case atStart => exact ⟨0, Nat.zero_le _, rfl, GV2.out⟩
  case round =>
   obtain ⟨k, hk, rfl, hg⟩ := hrel
   have GW := Lib.hid hg
   clear hg
   have hc : k = 0 ∨ k = 1 ∨ k = 2 := by omega
   have e6 := E6.out
   rcases hc with rfl | rfl | rfl
   ·have T := Lib.hid (T30b.out _ GW.out false)
    rcases e6 with rfl | rfl | rfl
    ·rw [show dueB 0 false = true from rfl] at T
     go_upto_region 22 with (go_at_call 30; (with_reducible refine (T.out).mono ?_); rintro e X1 ⟨D, m, d, rfl, hm, hmd, hdc, hyes, -, hg⟩; obtain ⟨hi, hrd, hse⟩ := hyes rfl; have HM := Lib.hid (And.intro hm (And.intro hmd hdc)); have HI := Lib.hid hi; have HRD := Lib.hid hrd; have HSE := Lib.hid hse; have GX1 := Lib.hid (GW.out.trans (hg.mono GW.out.size)); clear hm hmd hdc hyes hi hrd hse hg)
     have U23 := Lib.hid (T23.out X1 GX1.out D m d _ HI.out HM.out.2.1 HM.out.2.2 HRD.out)
     have U45 := Lib.hid (fun X (g : Below X1.heap.size X1 X) => T45.out X (GX1.out.trans (g.mono GX1.out.size)) D m d _ (HI.out.below g) HM.out.2.1 HM.out.2.2)
     rw [HRD.out, show err true 23 = 0 from rfl] at U45
     obtain ⟨st, hst⟩ : ∃ t, setS cq (shL cq per par day false) per day = t := ⟨_, rfl⟩
     rw [hst] at U23 HSE
     have hsb : (st == par) = false := HSE.out
     clear hst
     go_wp2_with (first
      | (go_at_call 23; (with_reducible refine (U23.out).mono ?_); rintro e X2 ⟨rfl, hg⟩; have GY2 := Lib.hid hg; have GX2 := Lib.hid (GX1.out.trans (hg.mono GX1.out.size)); clear hg)
      | (go_at_call 45; (with_reducible refine (U45.out _ GY2.out).mono ?_); rintro e X3 ⟨rfl, hg⟩; have GX3 := Lib.hid (GX2.out.trans (hg.mono GX2.out.size)); clear hg))
     go_roundw
     case rel => exact ⟨1, by omega, rfl, GX3.out⟩
     case measure => simp only [intOf]; omega
    ·rw [show dueB 1 false = false from rfl] at T
     go_wp2_with (go_at_call 30; (with_reducible refine (T.out).mono ?_); rintro e X1 ⟨D, m, d, rfl, -, -, -, -, hno, hg⟩; obtain rfl := hno rfl; have GX1 := Lib.hid (GW.out.trans (hg.mono GW.out.size)); clear hno hg)
     go_roundw
     case rel => exact ⟨1, by omega, rfl, GX1.out⟩
     case measure => simp only [intOf]; omega
    ·rw [show dueB 2 false = true from rfl] at T
     go_upto_region 22 with (go_at_call 30; (with_reducible refine (T.out).mono ?_); rintro e X1 ⟨D, m, d, rfl, hm, hmd, hdc, hyes, -, hg⟩; obtain ⟨hi, hrd, hse⟩ := hyes rfl; have HM := Lib.hid (And.intro hm (And.intro hmd hdc)); have HI := Lib.hid hi; have HRD := Lib.hid hrd; have HSE := Lib.hid hse; have GX1 := Lib.hid (GW.out.trans (hg.mono GW.out.size)); clear hm hmd hdc hyes hi hrd hse hg)
     have U23 := Lib.hid (T23.out X1 GX1.out D m d _ HI.out HM.out.2.1 HM.out.2.2 HRD.out)
     have U45 := Lib.hid (fun X (g : Below X1.heap.size X1 X) => T45.out X (GX1.out.trans (g.mono GX1.out.size)) D m d _ (HI.out.below g) HM.out.2.1 HM.out.2.2)
     rw [HRD.out, show err true 23 = 0 from rfl] at U45
     obtain ⟨st, hst⟩ : ∃ t, setS cq (shL cq per par day false) per day = t := ⟨_, rfl⟩
     rw [hst] at U23 HSE
     have hsb : (st == par) = false := HSE.out
     clear hst
     go_wp2_with (first
      | (go_at_call 23; (with_reducible refine (U23.out).mono ?_); rintro e X2 ⟨rfl, hg⟩; have GY2 := Lib.hid hg; have GX2 := Lib.hid (GX1.out.trans (hg.mono GX1.out.size)); clear hg)
      | (go_at_call 45; (with_reducible refine (U45.out _ GY2.out).mono ?_); rintro e X3 ⟨rfl, hg⟩; have GX3 := Lib.hid (GX2.out.trans (hg.mono GX2.out.size)); clear hg))
     go_roundw
     case rel => exact ⟨1, by omega, rfl, GX3.out⟩
     case measure => simp only [intOf]; omega
   ·have T := Lib.hid (T30b.out _ GW.out true)
    rcases e6 with rfl | rfl | rfl
    ·rw [show dueB 0 true = false from rfl] at T
     go_wp2_with (go_at_call 30; (with_reducible refine (T.out).mono ?_); rintro e X1 ⟨D, m, d, rfl, -, -, -, -, hno, hg⟩; obtain rfl := hno rfl; have GX1 := Lib.hid (GW.out.trans (hg.mono GW.out.size)); clear hno hg)
     go_roundw
     case rel => exact ⟨2, by omega, rfl, GX1.out⟩
     case measure => simp only [intOf]; omega
    ·rw [show dueB 1 true = true from rfl] at T
     go_upto_region 22 with (go_at_call 30; (with_reducible refine (T.out).mono ?_); rintro e X1 ⟨D, m, d, rfl, hm, hmd, hdc, hyes, -, hg⟩; obtain ⟨hi, hrd, hse⟩ := hyes rfl; have HM := Lib.hid (And.intro hm (And.intro hmd hdc)); have HI := Lib.hid hi; have HRD := Lib.hid hrd; have HSE := Lib.hid hse; have GX1 := Lib.hid (GW.out.trans (hg.mono GW.out.size)); clear hm hmd hdc hyes hi hrd hse hg)
     have U23 := Lib.hid (T23.out X1 GX1.out D m d _ HI.out HM.out.2.1 HM.out.2.2 HRD.out)
     have U45 := Lib.hid (fun X (g : Below X1.heap.size X1 X) => T45.out X (GX1.out.trans (g.mono GX1.out.size)) D m d _ (HI.out.below g) HM.out.2.1 HM.out.2.2)
     rw [HRD.out, show err true 23 = 0 from rfl] at U45
     obtain ⟨st, hst⟩ : ∃ t, setS cq (shL cq per par day true) per day = t := ⟨_, rfl⟩
     rw [hst] at U23 HSE
     have hsb : (st == par) = true := HSE.out
     clear hst
     go_wp2_with (first
      | (go_at_call 23; (with_reducible refine (U23.out).mono ?_); rintro e X2 ⟨rfl, hg⟩; have GY2 := Lib.hid hg; have GX2 := Lib.hid (GX1.out.trans (hg.mono GX1.out.size)); clear hg)
      | (go_at_call 45; (with_reducible refine (U45.out _ GY2.out).mono ?_); rintro e X3 ⟨rfl, hg⟩; have GX3 := Lib.hid (GX2.out.trans (hg.mono GX2.out.size)); clear hg))
     go_roundw
     case rel => exact ⟨2, by omega, rfl, GX3.out⟩
     case measure => simp only [intOf]; omega
    ·rw [show dueB 2 true = true from rfl] at T
     go_upto_region 22 with (go_at_call 30; (with_reducible refine (T.out).mono ?_); rintro e X1 ⟨D, m, d, rfl, hm, hmd, hdc, hyes, -, hg⟩; obtain ⟨hi, hrd, hse⟩ := hyes rfl; have HM := Lib.hid (And.intro hm (And.intro hmd hdc)); have HI := Lib.hid hi; have HRD := Lib.hid hrd; have HSE := Lib.hid hse; have GX1 := Lib.hid (GW.out.trans (hg.mono GW.out.size)); clear hm hmd hdc hyes hi hrd hse hg)
     have U23 := Lib.hid (T23.out X1 GX1.out D m d _ HI.out HM.out.2.1 HM.out.2.2 HRD.out)
     have U45 := Lib.hid (fun X (g : Below X1.heap.size X1 X) => T45.out X (GX1.out.trans (g.mono GX1.out.size)) D m d _ (HI.out.below g) HM.out.2.1 HM.out.2.2)
     rw [HRD.out, show err true 23 = 0 from rfl] at U45
     obtain ⟨st, hst⟩ : ∃ t, setS cq (shL cq per par day true) per day = t := ⟨_, rfl⟩
     rw [hst] at U23 HSE
     have hsb : (st == par) = true := HSE.out
     clear hst
     go_wp2_with (first
      | (go_at_call 23; (with_reducible refine (U23.out).mono ?_); rintro e X2 ⟨rfl, hg⟩; have GY2 := Lib.hid hg; have GX2 := Lib.hid (GX1.out.trans (hg.mono GX1.out.size)); clear hg)
      | (go_at_call 45; (with_reducible refine (U45.out _ GY2.out).mono ?_); rintro e X3 ⟨rfl, hg⟩; have GX3 := Lib.hid (GX2.out.trans (hg.mono GX2.out.size)); clear hg))
     go_roundw
     case rel => exact ⟨2, by omega, rfl, GX3.out⟩
     case measure => simp only [intOf]; omega
   ·have T26b := Lib.hid (T26.out _ GW.out HR.out)
    clear e6
    go_upto_region 27 with (go_at_call 26; (with_reducible refine (T26b.out).mono ?_); rintro e V4 ⟨A4, n4, c4, rfl, hi, hm, -, -, hg⟩; have HI4 := Lib.hid hi; have HM4 := Lib.hid hm; have GV4 := Lib.hid (GW.out.trans (hg.mono GW.out.size)); clear hi hm hg)
    have HSS := Lib.hid (fun k (hk : k < N) => seen_succ (c := cq) (person := per) (day := day) (k := k) (by rw [HNE.out]; exact hk))
    have HSL := Lib.hid (fun k => seen_len cq per day k)
    have HSU := Lib.hid (fun k => (show (seenL cq per day k).Pairwise (· < ·) from setL_up _))
    have HSA := Lib.hid (fun k (h : N ≤ k) => seen_all cq per day (k := k) (by rw [HNE.out]; exact h))
    have HRA := Lib.hid (fun k (hk : k < N) => rd_at (l := cq) (k := k) (by rw [HNE.out]; exact hk))
    have HS0 := Lib.hid (show Ints V4 none 0 (seenL cq per day 0) from Arr.nil_)
    have HIN := Lib.hid (fun k (hk : k < N) => (show setS cq ((reads cq).getD k []) per day ∈ wherS cq per day from wherS_mem.2 ⟨_, HRA.out k hk, rfl⟩))
    have hN2 : N ≤ 2000 := HRL.out
    go_wp2_with fail
    go_loopw [23, 24] (fun v i wr => ∃ (k : Nat) (A5 : Option Addr) (n5 c5 : Nat), k ≤ N ∧ k ≤ 300 ∧ v = .slice A5 n5 c5 ∧ i = .int .i64 k ∧ Ints wr A5 n5 (seenL cq per day k) ∧ Below V4.heap.size V4 wr) (fun _ i _ => 300 - (intOf i).toNat)
    case atStart => exact ⟨0, none, 0, 0, Nat.zero_le _, Nat.zero_le _, rfl, rfl, HS0.out, Below.refl _ _⟩
    case round =>
     obtain ⟨k, A5, n5, c5, hkN, hk3, rfl, rfl, hi5, hg⟩ := hrel
     have HI5 := Lib.hid hi5
     have HG5 := Lib.hid hg
     have GW5 := Lib.hid (GV4.out.trans (hg.mono GV4.out.size))
     have hwk : wrap64 ((k : Int) + 1) = (k : Int) + 1 := wrap_in (by omega)
     clear hi5 hg
     by_cases hlt : k < N ∧ k < 300
     ·have hl1 : (k : Int) < (N : Int) := by omega
      have hl2 : (k : Int) < 300 := by omega
      have HKN := Lib.hid hlt.1
      have U44 := Lib.hid (T44.out _ GW5.out k hlt.1)
      have HRD := Lib.hid (HRA.out k hlt.1)
      have HSK := Lib.hid (HSS.out k hlt.1)
      have HWH := Lib.hid (HIN.out k hlt.1)
      clear hlt
      obtain ⟨r, hr⟩ : ∃ t, (reads cq).getD k [] = t := ⟨_, rfl⟩
      rw [hr] at U44 HRD HSK HWH
      obtain ⟨st, hst⟩ : ∃ t, setS cq r per day = t := ⟨_, rfl⟩
      rw [hst] at HSK HWH
      have HST := Lib.hid hst
      clear hr hst
      go_upto_region 31 with (go_at_call 44; (with_reducible refine (U44.out).mono ?_); rintro e X1 ⟨D, m, d, rfl, hi, hm, hmd, hdc, hg⟩; have HI6 := Lib.hid hi; have HM6 := Lib.hid (And.intro hmd hdc); have GX1 := Lib.hid (GW5.out.trans (hg.mono GW5.out.size)); have GY1 := Lib.hid hg; clear hi hm hmd hdc hg)
      have U23 := Lib.hid (T23.out X1 GX1.out D m d r HI6.out HM6.out.1 HM6.out.2 HRD.out)
      rw [HST.out] at U23
      go_upto_region 32 with (go_at_call 23; (with_reducible refine (U23.out).mono ?_); rintro e X2 ⟨rfl, hg⟩; have GX2 := Lib.hid (GX1.out.trans (hg.mono GX1.out.size)); have GY2 := Lib.hid (GY1.out.trans (hg.mono GY1.out.size)); clear hg)
      have GZ2 := Lib.hid (HG5.out.trans (GY2.out.mono HG5.out.size))
      have U40 := Lib.hid (refHas_any A4 n4 c4 (wherS cq per day) st X2 (HI4.out.below GZ2.out) (by have := HM4.out; omega))
      rw [hasI_true HWH.out] at U40
      have U42 := Lib.hid (refPut_any A5 n5 c5 (seenL cq per day k) st X2 (HI5.out.below GY2.out) (by have h1 := HSL.out k; have h2 := HI5.out.1; omega) (HSU.out k))
      rw [← HSK.out] at U42
      go_wp2_with (first
       | (go_at_call 40; (with_reducible refine (U40.out).mono ?_); rintro e X9 ⟨rfl, rfl⟩)
       | (go_at_call 42; (with_reducible refine (U42.out).mono ?_); rintro e X3 ⟨⟨v3, rfl, ho⟩, hg⟩; obtain ⟨A7, c7, rfl, -, -, hi7, -⟩ := OwnL.arr kdI ho; have HI7 := Lib.hid hi7; have GZ3 := Lib.hid (GZ2.out.trans (hg.mono GZ2.out.size)); clear ho hi7 hg))
      go_roundw
      case rel => exact ⟨k + 1, A7, _, c7, by have := HKN.out; omega, by omega, rfl, rfl, HI7.out, GZ3.out⟩
      case measure => simp only [intOf]; omega
     ·have hn5 : n5 ≤ 300 := by have h1 := HSL.out k; have h2 := HI5.out.1; omega
      by_cases hN3 : 300 < N
      ·have hn3 : (300 : Int) < (N : Int) := by omega
       obtain rfl : k = 300 := by omega
       clear hlt
       go_wp2_with (go_at_call 20; (with_reducible refine (TS.out _).mono ?_); rintro e V9 ⟨rfl, hg⟩; have GV9 := Lib.hid (GW5.out.trans (hg.mono GW5.out.size)); clear hg)
       go_ret
       exact ⟨rfl, HG.out.trans (GV9.out.mono HG.out.size)⟩
      ·have hn3 : ¬ (300 : Int) < (N : Int) := by omega
       obtain rfl : k = N := by omega
       have U19 := Lib.hid (sameInts_any A5 A4 n5 c5 n4 c4 _ _ _ HI5.out (HI4.out.below HG5.out) (by omega) (by have := HM4.out; omega))
       rw [HSA.out k (Nat.le_refl _), decide_eq_true rfl] at U19
       clear hlt
       go_wp2_with (first
        | (go_at_call 19; (with_reducible refine (U19.out).mono ?_); rintro e X8 ⟨rfl, hg⟩; have GX8 := Lib.hid (GW5.out.trans (hg.mono GW5.out.size)); clear hg)
        | (go_at_call 20; (with_reducible refine (TS.out _).mono ?_); rintro e V9 ⟨rfl, hg⟩; have GV9 := Lib.hid (GX8.out.trans (hg.mono GX8.out.size)); clear hg))
       go_ret
       exact ⟨rfl, HG.out.trans (GV9.out.mono HG.out.size)⟩
end Go.Proofs.YtehhlgdkhecacaaGreat
