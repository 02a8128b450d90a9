/- The law SheafNarrows. -/
import Derived.Test.YtkoejeghihcmlaaGreatXB
import Derived.Test.YtkoejeghihcmlaaGreatWU
import Derived.Test.YtkoejeghihcmlaaGreatWF
import Derived.Test.YtkoejeghihcmlaaGreatWN
import Derived.Test.YtkoejeghihcmlaaGreatXG
import Derived.Test.YtkoejeghihcmlaaGreatTZ
namespace Go.Proofs.YtkoejeghihcmlaaGreat
open Go.RowKit Go.Shelf

theorem cp_alloc {W : World} {B : Nat} {p : Pl} {v1 v2 v3 : Value} (h : Cp W B p v1 v2 v3) (o : Obj) : Cp (W.alloc o) B p v1 v2 v3 := ⟨h.l1.ext (one_more _ _), h.l2.ext (one_more _ _), h.l3.ext (one_more _ _), h.d12, h.d13, h.d23⟩
theorem Cp.pa_ {W : World} {B : Nat} {p : Pl} {D1 D2 D3 : Option Addr} {m1 d1 m2 d2 m3 d3 : Nat} (h : Cp W B p (.slice D1 m1 d1) (.slice D2 m2 d2) (.slice D3 m3 d3)) : Pa W p D1 D2 D3 m1 d1 m2 d2 m3 d3 := by
  obtain ⟨_, _, _, _, _, _, _, _, _, e1, e2, e3, hp⟩ := h.slices
  cases e1; cases e2; cases e3
  exact hp
theorem made_no99 (r : Raw) : hasI (srcsAll (madeP r true)) 99 = false := by
  rw [← Bool.not_eq_true, hasI_iff]
  intro h
  unfold srcsAll at h
  rw [mem_srt, List.mem_append, List.mem_append] at h
  obtain ⟨a, b, c⟩ := made_src (r := r) (right := true)
  unfold srcs at h
  rcases h with (h | h) | h
  · obtain ⟨y, hy, e⟩ := List.mem_map.1 h
    have := a y hy
    omega
  · obtain ⟨y, hy, e⟩ := List.mem_map.1 h
    have := b y hy
    omega
  · obtain ⟨y, hy, e⟩ := List.mem_map.1 h
    have := c y hy
    omega
theorem plb_newN (V : World) (p : Pl) (D1 D2 D3 : Option Addr) (m1 d1 m2 d2 m3 d3 : Nat) : Blk (V.alloc (.cells #[.int .i64 p.lo, .int .i64 p.hi, .slice D1 m1 d1, .slice D2 m2 d2, .slice D3 m3 d3, .int .i64 p.geese] 38)) V.heap.size 38 (plb p D1 D2 D3 m1 d1 m2 d2 m3 d3) := Blk.new _ _ _
theorem plb_set6N {V : World} {b : Nat} {c0 c1 c2 c3 c4 c5 : Value} (h : Blk V b 38 #[c0, c1, c2, c3, c4, c5]) (p : Pl) (D1 D2 D3 : Option Addr) (m1 d1 m2 d2 m3 d3 : Nat) :
    Blk ((((((V.setCell ⟨b, 0, none⟩ (.int .i64 p.lo)).setCell ⟨b, 1, none⟩ (.int .i64 p.hi)).setCell ⟨b, 2, none⟩ (.slice D1 m1 d1)).setCell ⟨b, 3, none⟩ (.slice D2 m2 d2)).setCell ⟨b, 4, none⟩ (.slice D3 m3 d3)).setCell ⟨b, 5, none⟩ (.int .i64 p.geese)) b 38 (plb p D1 D2 D3 m1 d1 m2 d2 m3 d3) := h.setAll6 _ _ _ _ _ _
theorem wtd9 {n : Int} (h : I64 n) : IntKind.i64.wrap (n.tdiv 9) = n.tdiv 9 := by
  have h1 : (n.tdiv 9).natAbs = n.natAbs / 9 := Int.natAbs_tdiv n 9
  unfold I64 at h
  rw [IntKind.wrap_i64]
  omega
set_option maxRecDepth 100000 in
set_option maxHeartbeats 16000000 in
theorem law13_any (r : Raw) (A1 A2 A3 : Option Addr) (n1 c1 n2 c2 n3 c3 : Nat) (x y z : Int) (w : World) (h1 : Arr q4cells 4 w A1 n1 r.loads) (h2 : Arr q4cells 4 w A2 n2 r.stands) (h3 : Arr q4cells 4 w A3 n3 r.spells)
    (hn : n1 ≤ 9223372036854775807 ∧ n2 ≤ 9223372036854775807 ∧ n3 ≤ 9223372036854775807) (hr : RawOk r) (_ix : I64 x) (iy : I64 y) (_iz : I64 z) :
    Calls Tryz.prog 13 #[.agg (rawv r A1 A2 A3 n1 c1 n2 c2 n3 c3), .agg #[.int .i64 x, .int .i64 y, .int .i64 z]] w fun e w' => e = .returned (.bool true) ∧ Below w.heap.size w w' := by
  have H1 := Lib.hid h1
  have H2 := Lib.hid h2
  have H3 := Lib.hid h3
  have HN := Lib.hid hn
  have HR := Lib.hid hr
  clear h1 h2 h3 hn hr
  obtain ⟨W1, hW1⟩ : ∃ W1, (w.alloc (.cells (rawv r A1 A2 A3 n1 c1 n2 c2 n3 c3) 24)).alloc (.cells #[.int .i64 x, .int .i64 y, .int .i64 z] 93) = W1 := ⟨_, rfl⟩
  have G1 := Lib.hid (show Below w.heap.size w W1 by rw [← hW1]; exact two_more _ _ _)
  have B2 := Lib.hid (show Blk W1 w.heap.size 24 (rawv r A1 A2 A3 n1 c1 n2 c2 n3 c3) by rw [← hW1]; exact (Blk.new _ _ _).alloc _)
  have B3 := Lib.hid (show Blk W1 (w.heap.size + 1) 93 #[.int .i64 x, .int .i64 y, .int .i64 z] by rw [← hW1]; have := Blk.new (w.alloc (.cells (rawv r A1 A2 A3 n1 c1 n2 c2 n3 c3) 24)) 93 #[.int .i64 x, .int .i64 y, .int .i64 z]; rwa [World.size_alloc] at this)
  have HW1 := Lib.hid hW1
  clear hW1
  obtain ⟨P, hP⟩ : ∃ P, madeP r true = P := ⟨_, rfl⟩
  obtain ⟨nu, hnu⟩ : ∃ l, madeNums r = l := ⟨_, rfl⟩
  obtain ⟨sw, hsw⟩ : ∃ s, r.sown % 200 = s := ⟨_, rfl⟩
  have H19 := Lib.hid (show P.loads.length ≤ 19 by rw [← hP]; exact made_19 r true)
  have HNI := Lib.hid (show ∀ x ∈ nu, -9223372036854775808 ≤ x ∧ x ≤ 9223372036854775807 from fun x hx => by
    rw [← hnu] at hx
    obtain ⟨i, hi, rfl⟩ := List.getElem_of_mem hx
    have := nums_bd r (j := i) (by have := made_nlen r; omega)
    rw [getD_int hi] at this
    omega)
  obtain ⟨at_, hat⟩ : ∃ h, 15 + x % 90 = h := ⟨_, rfl⟩
  have ha0 : 15 ≤ at_ := by omega
  have ha1 : at_ ≤ 104 := by omega
  obtain ⟨hh, hhh⟩ : ∃ h, 15 + z % 130 = h := ⟨_, rfl⟩
  have hh0 : 15 ≤ hh := by omega
  have hh1 : hh ≤ 144 := by omega
  obtain ⟨wl, hwl⟩ : ∃ h, y % 9 = h := ⟨_, rfl⟩
  have hw0 : 0 ≤ wl ∧ wl ≤ 8 := by omega
  obtain ⟨wh, hwh⟩ : ∃ h, y.tdiv 9 % 9 = h := ⟨_, rfl⟩
  have hw1 : 0 ≤ wh ∧ wh ≤ 8 := by omega
  have a1 : askE P [at_] 20 = 0 := by rw [← hP]; exact made_ask r (by omega) (by omega)
  have htr : Tru (lookL P 20 every) (lookS P 20 every) (leftS r) := by rw [← hP]; exact made_tru r
  have htb : truthB P 20 sw nu = true := by rw [← hP, ← hsw, ← hnu]; exact made_truth r
  have hts : truS P 20 sw nu = leftS r := by rw [← hP, ← hsw, ← hnu]; exact made_truS r true
  have hok : okPl P = true := by rw [← hP]; exact made_ok r true
  have f1 : firstE P [at_] [20] = 0 := first_of hok (fun h hh' => by rw [List.mem_singleton.1 hh']; omega) (by omega) (by omega)
  have l1 : leftE P [at_] 20 sw nu = 0 := by unfold leftE; rw [if_pos f1, htb]; rfl
  have lv : leftV P at_ 20 sw nu = (leftS r).getD (after (lookL P 20 every) at_) 0 := by unfold leftV; rw [if_pos l1, hts]
  have k6 := true_pos a1 htr (after_len (lookL P 20 every) at_)
  have k7 : (leftS r).getD (after (lookL P 20 every) at_) 0 ≤ 199 := by
    have hq := look_rw (ask_parts a1).1 (ask_parts a1).2.1
    have h1 := tru_anti (fun i hi => (hq.wid i hi).1) htr (Nat.zero_le (after (lookL P 20 every) at_)) (after_len (lookL P 20 every) at_)
    rw [leftS_at (Nat.zero_le _)] at h1
    have h2 : (stL r 0).left = r.sown % 200 := rfl
    omega
  have hml : lookL P 20 every = madeLoads r := by rw [← hP]; exact made_look20 r true (by omega)
  rw [hml] at lv k6 k7
  rw [← lv] at k6 k7
  obtain ⟨nv, hnv⟩ : ∃ v, leftV P at_ 20 sw nu = v := ⟨_, rfl⟩
  rw [hnv] at lv k6 k7
  obtain ⟨lo, hlo⟩ : ∃ v, max 0 (nv - wl) = v := ⟨_, rfl⟩
  obtain ⟨hi, hhi⟩ : ∃ v, nv + wh = v := ⟨_, rfl⟩
  have hr0 : 0 ≤ lo ∧ lo ≤ hi ∧ hi ≤ 10000 := by omega
  have hr1 : lo ≤ (leftS r).getD (after (madeLoads r) at_) 0 ∧ (leftS r).getD (after (madeLoads r) at_) 0 ≤ hi := by rw [← lv]; omega
  have hqok := newQ_ok (r := r) (at_ := at_) (lo := lo) (hi := hi) (by omega) hr0
  have hnrw := newQ_nrw (r := r) (at_ := at_) (lo := lo) (hi := hi) (by omega) hr0 hr1
  have hqtr := newQ_truth (r := r) (at_ := at_) (lo := lo) (hi := hi) (by omega) hr0 hr1
  have hms := made_src (r := r) (right := true)
  have hsl := made_slen r true
  have hqd : newQ r at_ lo hi = plusStand P (newStand at_ lo hi) := by unfold newQ; rw [hP]
  rw [hP] at hnrw hms hsl
  rw [hsw, hnu] at hqtr
  have hxl : isLoad (newStand at_ lo hi) = true := isLoad_of (x := newStand at_ lo hi) (by show 1 ≤ (99 : Int) ∧ (99 : Int) ≤ 99999; omega) (by show 0 ≤ at_ ∧ at_ ≤ 99999; omega) hr0 (by show 0 ≤ (0 : Int) ∧ (0 : Int) ≤ 4166; omega) rfl
  have hxs : hasI (srcsAll P) (newStand at_ lo hi).a = false := by
    rw [← hP]
    exact made_no99 r
  obtain ⟨Q, hQ⟩ : ∃ Q, newQ r at_ lo hi = Q := ⟨_, rfl⟩
  have hql : Q.loads = P.loads := by rw [← hQ, hqd]; rfl
  have hqs : Q.spells = P.spells := by rw [← hQ, hqd]; rfl
  have hqg : Q.geese = P.geese := by rw [← hQ, hqd]; rfl
  rw [hQ] at hqok hnrw hqtr hqd
  have f0q : firstE Q [] [20] = 0 := first_of hqok (fun h hh => (by cases hh)) (by omega) (by omega)
  have f0p : firstE P [] [20] = 0 := first_of hok (fun h hh => (by cases hh)) (by omega) (by omega)
  have l0q : leftE Q [] 20 sw nu = 0 := by unfold leftE; rw [if_pos f0q, hqtr]; rfl
  have ap : askE P [hh] 20 = 0 := ask_of hnrw.okp hnrw.sp (fun h hh' => by rw [List.mem_singleton.1 hh']; omega) (by omega) (by omega)
  have aq : askE Q [hh] 20 = 0 := ask_of hnrw.okq hnrw.sq (fun h hh' => by rw [List.mem_singleton.1 hh']; omega) (by omega) (by omega)
  have kst := hnrw.stood ap aq
  have kop := hnrw.open_ ap aq hqs hqg
  have kcr : ∀ k, k < P.loads.length → (cartE P (P.loads.getD k z6).a 20 = 0 ∧ cartE Q (P.loads.getD k z6).a 20 = 0) ∧ (cartR P (P.loads.getD k z6).a 20).lo ≤ (cartR Q (P.loads.getD k z6).a 20).lo ∧ (cartR Q (P.loads.getD k z6).a 20).hi ≤ (cartR P (P.loads.getD k z6).a 20).hi := fun k hk => by
    have el : lookL P 20 every = P.loads := by rw [hml, ← hP]; rfl
    have hk' : k < (lookL P 20 every).length := by rw [el]; exact hk
    have c1 := cartR_at ap f0p hk'
    have c2 := cartR_at aq f0q (show k < (lookL Q 20 every).length by rw [hnrw.ls]; exact hk')
    have c3 := hnrw.cart hk'
    rw [hnrw.ls] at c2 c3
    rw [el] at c1 c2 c3
    refine ⟨⟨c1.1, c2.1⟩, ?_⟩
    rw [c1.2, c2.2]
    exact c3
  have T7 := fun D1 d1 D2 d2 D3 d3 m1 m2 m3 N nn cn W (hp : Pa W Q D1 D2 D3 m1 d1 m2 d2 m3 d3) (hn : Ints W N nn nu) (hm : nn ≤ 9223372036854775807) => checkCart_any Q D1 D2 D3 m1 d1 m2 d2 m3 d3 20 N nn cn nu sw W hp (by rw [hql]; exact H19.out) hn HNI.out hm
  have T9 := fun D1 d1 D2 d2 D3 d3 m1 m2 m3 W (hp : Pa W P D1 D2 D3 m1 d1 m2 d2 m3 d3) => stood_any P D1 D2 D3 m1 d1 m2 d2 m3 d3 hh 20 W hp H19.out
  have T10 := fun D1 d1 D2 d2 D3 d3 m1 m2 m3 W (hp : Pa W Q D1 D2 D3 m1 d1 m2 d2 m3 d3) => stood_any Q D1 D2 D3 m1 d1 m2 d2 m3 d3 hh 20 W hp (by rw [hql]; exact H19.out)
  have T11 := fun D1 d1 D2 d2 D3 d3 m1 m2 m3 W (hp : Pa W P D1 D2 D3 m1 d1 m2 d2 m3 d3) => openP_any P D1 D2 D3 m1 d1 m2 d2 m3 d3 hh 20 W hp H19.out
  have T12 := fun D1 d1 D2 d2 D3 d3 m1 m2 m3 W (hp : Pa W Q D1 D2 D3 m1 d1 m2 d2 m3 d3) => openP_any Q D1 D2 D3 m1 d1 m2 d2 m3 d3 hh 20 W hp (by rw [hql]; exact H19.out)
  have T18 := fun D1 d1 D2 d2 D3 d3 m1 m2 m3 s W (hp : Pa W P D1 D2 D3 m1 d1 m2 d2 m3 d3) => cartedP_any P D1 D2 D3 m1 d1 m2 d2 m3 d3 s 20 W hp H19.out
  have T19 := fun D1 d1 D2 d2 D3 d3 m1 m2 m3 s W (hp : Pa W Q D1 D2 D3 m1 d1 m2 d2 m3 d3) => cartedP_any Q D1 D2 D3 m1 d1 m2 d2 m3 d3 s 20 W hp (by rw [hql]; exact H19.out)
  rw [l0q] at T7
  rw [ap] at T9 T11
  rw [aq] at T10 T12
  obtain ⟨⟨s0, s1⟩, hs⟩ : ∃ s, stoodR P hh 20 = s := ⟨_, rfl⟩
  obtain ⟨⟨t0, t1⟩, ht⟩ : ∃ s, stoodR Q hh 20 = s := ⟨_, rfl⟩
  obtain ⟨oa, hoa⟩ : ∃ c, openA P hh 20 = c := ⟨_, rfl⟩
  obtain ⟨ob, hob⟩ : ∃ c, openA Q hh 20 = c := ⟨_, rfl⟩
  rw [hs, ht] at kst
  rw [hs] at T9
  rw [ht] at T10
  rw [hoa, hob] at kop
  rw [hoa] at T11
  rw [hob] at T12
  dsimp only at kst
  have H7 := Lib.hid T7
  have H9 := Lib.hid T9
  have H10 := Lib.hid T10
  have H11 := Lib.hid T11
  have H12 := Lib.hid T12
  have H18 := Lib.hid T18
  have H19q := Lib.hid T19
  have KST := Lib.hid kst
  have KOP := Lib.hid kop
  have KCR := Lib.hid kcr
  have HXL := Lib.hid hxl
  have HXS := Lib.hid hxs
  clear T7 T9 T10 T11 T12 T18 T19 kst kop kcr hxl hxs hs ht hoa hob ap aq l0q f0q f0p hql hqs hqg hQ
  have T2 := fun D1 d1 D2 d2 D3 d3 m1 m2 m3 N nn cn W (hp : Pa W P D1 D2 D3 m1 d1 m2 d2 m3 d3) (hn : Ints W N nn nu) (hm : nn ≤ 9223372036854775807) => left_any P D1 D2 D3 m1 d1 m2 d2 m3 d3 at_ 20 N nn cn nu sw W hp H19.out hn HNI.out hm
  rw [l1, hnv] at T2
  have H6 := Lib.hid T2
  have HOK := Lib.hid hok
  have HQOK := Lib.hid hqok
  have HNRW := Lib.hid hnrw
  have HQTR := Lib.hid hqtr
  have HMS := Lib.hid hms
  have HSL := Lib.hid hsl
  have HQD := Lib.hid hqd
  have HLO := Lib.hid hlo
  have HHI := Lib.hid hhi
  have HWL := Lib.hid hwl
  have HWH := Lib.hid hwh
  have HNL := Lib.hid (show nu.length = P.loads.length by rw [← hP, ← hnu, made_nlen]; exact (made_len r).symm)
  have HP := Lib.hid hP
  have HAT := Lib.hid hat
  have HHH := Lib.hid hhh
  have HNU := Lib.hid hnu
  have HSW := Lib.hid hsw
  clear T2 hP hnu hsw hat hhh hwl hwh a1 htr htb hts hok f1 l1 lv hml hnv hlo hhi hr1 hqok hnrw hqtr hms hsl hqd
  have TM := Lib.hid (fun n m V h0 h1 => mod_any n m V h0 h1)
  go_enter Tryz.func13, Tryz.ntmps13
  go_upto_region 1 with fail
  rw [HW1.out]
  have kb3_0 := B3.out.cell 0
  have kb3_1 := B3.out.cell 1
  have kb3_2 := B3.out.cell 2
  have kb2_0 := B2.out.cell 0
  have kb2_1 := B2.out.cell 1
  have kb2_2 := B2.out.cell 2
  have kb2_3 := B2.out.cell 3
  have kb2_4 := B2.out.cell 4
  go_upto_region 2 with (go_at_call 34; (with_reducible refine (sane_any _).mono ?_); rintro e V2 ⟨rfl, hg⟩)
  clear kb3_0 kb3_1 kb3_2 kb2_0 kb2_1 kb2_2 kb2_3 kb2_4
  have G2 := Lib.hid (G1.out.trans (hg.mono G1.out.size))
  have B3 := Lib.hid (B3.out.ext hg)
  have B2 := Lib.hid (B2.out.ext hg)
  clear hg
  have HMD := Lib.hid (made_call r true A1 A2 A3 n1 c1 n2 c2 n3 c3 V2 (H1.out.below G2.out) (H2.out.below G2.out) (H3.out.below G2.out) HN.out HR.out)
  have kb3_0 := B3.out.cell 0
  have kb3_1 := B3.out.cell 1
  have kb3_2 := B3.out.cell 2
  have kb2_0 := B2.out.cell 0
  have kb2_1 := B2.out.cell 1
  have kb2_2 := B2.out.cell 2
  have kb2_3 := B2.out.cell 3
  have kb2_4 := B2.out.cell 4
  go_upto_region 3 with (go_at_call 15; (with_reducible refine (HMD.out).mono ?_); rintro e V3 ⟨⟨D1, d1, D2, d2, D3, d3, Dn, dn, m1, m2, m3, mn, hm1, hm2, hm3, hmn, rfl, hpa, hia⟩, hg⟩; have HPA := Lib.hid hpa; have HIA := Lib.hid hia; have HM1 := Lib.hid hm1; have HM2 := Lib.hid hm2; have HM3 := Lib.hid hm3; have HMN := Lib.hid hmn; clear hpa hia hm1 hm2 hm3 hmn)
  clear kb3_0 kb3_1 kb3_2 kb2_0 kb2_1 kb2_2 kb2_3 kb2_4
  rw [HP.out] at HPA HM1 HM2 HM3 ⊢
  obtain ⟨W3, hW3⟩ : ∃ W, ((V3.alloc (.cells (plb P D1 D2 D3 m1 d1 m2 d2 m3 d3) 38)).alloc (.cells (#[.int .i64 (r.sown % 200), .slice Dn mn dn]) 41)) = W := ⟨_, rfl⟩
  have ga : Below V3.heap.size V3 W3 := by rw [← hW3]; exact two_more _ _ _
  have gb := hg.trans (ga.mono hg.size)
  have G3 := Lib.hid (G2.out.trans (gb.mono G2.out.size))
  have B3 := Lib.hid (B3.out.ext gb)
  have B2 := Lib.hid (B2.out.ext gb)
  have HPA := Lib.hid (HPA.out.below ga)
  have HIA := Lib.hid (HIA.out.below ga)
  have BP := Lib.hid (show Blk W3 (V3.heap.size) 38 (plb P D1 D2 D3 m1 d1 m2 d2 m3 d3) by rw [← hW3]; exact (Blk.new _ _ _).alloc _)
  have BC := Lib.hid (show Blk W3 (V3.heap.size + 1) 41 (#[.int .i64 (r.sown % 200), .slice Dn mn dn]) by rw [← hW3]; have := Blk.new (V3.alloc (.cells (plb P D1 D2 D3 m1 d1 m2 d2 m3 d3) 38)) 41 (#[.int .i64 (r.sown % 200), .slice Dn mn dn]); rwa [World.size_alloc] at this)
  rw [hW3]
  clear hg ga gb hW3
  rw [HNU.out] at HMN HIA
  rw [HSW.out] at BC ⊢
  have HM19 := Lib.hid (show mn ≤ 9223372036854775807 by rw [HMN.out, HNL.out]; have := H19.out; omega)
  have kb3_0 := B3.out.cell 0
  have kb3_1 := B3.out.cell 1
  have kb3_2 := B3.out.cell 2
  have kbp_0 := BP.out.cell 0
  have kbp_1 := BP.out.cell 1
  have kbp_2 := BP.out.cell 2
  have kbp_3 := BP.out.cell 3
  have kbp_4 := BP.out.cell 4
  have kbp_5 := BP.out.cell 5
  have kbc_0 := BC.out.cell 0
  have kbc_1 := BC.out.cell 1
  go_upto_region 4 with (first | (go_at_call 17; (with_reducible refine (TM.out _ _ _ (by omega) (by omega)).mono ?_); rintro e w' ⟨rfl, rfl⟩))
  clear kb3_0 kb3_1 kb3_2 kbp_0 kbp_1 kbp_2 kbp_3 kbp_4 kbp_5 kbc_0 kbc_1
  rw [HAT.out]
  have kb3_0 := B3.out.cell 0
  have kb3_1 := B3.out.cell 1
  have kb3_2 := B3.out.cell 2
  have kbp_0 := BP.out.cell 0
  have kbp_1 := BP.out.cell 1
  have kbp_2 := BP.out.cell 2
  have kbp_3 := BP.out.cell 3
  have kbp_4 := BP.out.cell 4
  have kbp_5 := BP.out.cell 5
  have kbc_0 := BC.out.cell 0
  have kbc_1 := BC.out.cell 1
  go_upto_region 5 with (first | (go_at_call 17; (with_reducible refine (TM.out _ _ _ (by omega) (by omega)).mono ?_); rintro e w' ⟨rfl, rfl⟩))
  clear kb3_0 kb3_1 kb3_2 kbp_0 kbp_1 kbp_2 kbp_3 kbp_4 kbp_5 kbc_0 kbc_1
  rw [HHH.out]
  have kb3_0 := B3.out.cell 0
  have kb3_1 := B3.out.cell 1
  have kb3_2 := B3.out.cell 2
  have kbp_0 := BP.out.cell 0
  have kbp_1 := BP.out.cell 1
  have kbp_2 := BP.out.cell 2
  have kbp_3 := BP.out.cell 3
  have kbp_4 := BP.out.cell 4
  have kbp_5 := BP.out.cell 5
  have kbc_0 := BC.out.cell 0
  have kbc_1 := BC.out.cell 1
  go_upto_region 6 with (go_at_call 19; (with_reducible refine (H6.out _ _ _ _ _ _ _ _ _ _ _ dn _ HPA.out HIA.out HM19.out).mono ?_); rintro e V4 ⟨rfl, hg⟩)
  clear kb3_0 kb3_1 kb3_2 kbp_0 kbp_1 kbp_2 kbp_3 kbp_4 kbp_5 kbc_0 kbc_1
  have G4 := Lib.hid (G3.out.trans (hg.mono G3.out.size))
  have B3 := Lib.hid (B3.out.ext hg)
  have B2 := Lib.hid (B2.out.ext hg)
  have BP := Lib.hid (BP.out.ext hg)
  have BC := Lib.hid (BC.out.ext hg)
  have HPA := Lib.hid (HPA.out.below hg)
  have HIA := Lib.hid (HIA.out.below hg)
  clear hg
  have kb3_0 := B3.out.cell 0
  have kb3_1 := B3.out.cell 1
  have kb3_2 := B3.out.cell 2
  have kbp_0 := BP.out.cell 0
  have kbp_1 := BP.out.cell 1
  have kbp_2 := BP.out.cell 2
  have kbp_3 := BP.out.cell 3
  have kbp_4 := BP.out.cell 4
  have kbp_5 := BP.out.cell 5
  have kbc_0 := BC.out.cell 0
  have kbc_1 := BC.out.cell 1
  have HKP := Lib.hid (fun X (g : Below V4.heap.size V4 X) => (⟨(BP.out.ext g).cell 0, (BP.out.ext g).cell 1, (BP.out.ext g).cell 2, (BP.out.ext g).cell 3, (BP.out.ext g).cell 4, (BP.out.ext g).cell 5, (B3.out.ext g).cell 1⟩ : X.cell? ⟨V3.heap.size, 0, none⟩ = some (.int .i64 P.lo) ∧ X.cell? ⟨V3.heap.size, 1, none⟩ = some (.int .i64 P.hi) ∧ X.cell? ⟨V3.heap.size, 2, none⟩ = some (.slice D1 m1 d1) ∧ X.cell? ⟨V3.heap.size, 3, none⟩ = some (.slice D2 m2 d2) ∧ X.cell? ⟨V3.heap.size, 4, none⟩ = some (.slice D3 m3 d3) ∧ X.cell? ⟨V3.heap.size, 5, none⟩ = some (.int .i64 P.geese) ∧ X.cell? ⟨w.heap.size + 1, 1, none⟩ = some (.int .i64 y)))
  have HT9 := Lib.hid (fun V => show Calls Tryz.prog 17 #[.int .i64 y, .int .i64 9] V fun e w' => e = .returned (.int .i64 wl) ∧ V = w' from by rw [← HWL.out]; exact TM.out y 9 V (by omega) (by omega))
  have HTD := Lib.hid (fun V => show Calls Tryz.prog 17 #[.int .i64 (y.tdiv 9), .int .i64 9] V fun e w' => e = .returned (.int .i64 wh) ∧ V = w' from by rw [← HWH.out]; exact TM.out _ 9 V (by omega) (by omega))
  have HST := Lib.hid (fun X (g : Below V4.heap.size V4 X) => stands_any P D1 D2 D3 m1 d1 m2 d2 m3 d3 (newStand at_ lo hi) X (HPA.out.below g) HOK.out HXL.out HXS.out (by have := HSL.out; omega) (fun q hq => by have := HMS.out.2.1 q hq; show q.a < 99; omega))
  rw [← HQD.out] at HST
  have hsv : sv (newStand at_ lo hi) = .agg #[.int .i64 99, .int .i64 at_, .int .i64 lo, .int .i64 hi, .int .i64 0, .int .i64 0] := rfl
  rw [hsv] at HST
  clear hsv
  have e1 : IntKind.i64.wrap (nv - wl) = nv - wl := by rw [IntKind.wrap_i64]; omega
  have e2 : IntKind.i64.wrap (nv + wh) = hi := by rw [IntKind.wrap_i64, ← HHI.out]; omega
  have e3 : IntKind.i64.wrap (y.tdiv 9) = y.tdiv 9 := wtd9 iy
  have e4 : max 0 (nv - wl) = lo := HLO.out
  go_cut [12, 13] from 48 to 67 (fun s12 s13 wx => ∃ b12 F1 a1 f1 F2 a2 f2 F3 a3 f3, s12 = .pointer (some ⟨b12, 0, none⟩) ∧ s13 = .int .i64 0 ∧ Below V4.heap.size V4 wx ∧ Blk wx b12 38 (plb (Q) F1 F2 F3 a1 f1 a2 f2 a3 f3) ∧ Pa wx (Q) F1 F2 F3 a1 f1 a2 f2 a3 f3)
  case first =>
    go_region_held3 (fun X => X.cell? ⟨V3.heap.size, 0, none⟩ = some (.int .i64 P.lo) ∧ X.cell? ⟨V3.heap.size, 1, none⟩ = some (.int .i64 P.hi) ∧ X.cell? ⟨V3.heap.size, 2, none⟩ = some (.slice D1 m1 d1) ∧ X.cell? ⟨V3.heap.size, 3, none⟩ = some (.slice D2 m2 d2) ∧ X.cell? ⟨V3.heap.size, 4, none⟩ = some (.slice D3 m3 d3) ∧ X.cell? ⟨V3.heap.size, 5, none⟩ = some (.int .i64 P.geese) ∧ X.cell? ⟨w.heap.size + 1, 1, none⟩ = some (.int .i64 y))
      (with_reducible refine HKP.out _ ?_; repeat' first | (with_reducible exact Below.refl _ _) | (with_reducible exact G9.out) | (with_reducible refine Below.drew ?_) | (with_reducible refine Below.allo_ ?_ (by first | (simp; done) | (simp; omega) | omega) _) | (with_reducible refine Below.setCell ?_ (by dsimp only; omega) _))
      (first
        | (go_at_call 17; (with_reducible refine (HT9.out _).mono ?_); rintro e w' ⟨rfl, rfl⟩)
        | (go_at_call 17; (with_reducible refine (HTD.out _).mono ?_); rintro e w' ⟨rfl, rfl⟩)
        | (go_at_call 60; (with_reducible refine (HST.out _ (Below.refl _ _).drew).mono ?_); rintro e V9 ⟨⟨F1, a1, f1, F2, a2, f2, F3, a3, f3, rfl, hpq⟩, hg⟩; have HPQ := Lib.hid (hpq.mono (B' := V4.heap.size + 0) (by simp)); have G9 := Lib.hid (show Below V4.heap.size V4 V9 from (Below.refl _ _).drew.trans hg); have hv9 : V4.heap.size ≤ V9.heap.size := G9.out.size; clear hg hpq)
        | (go_at_call 60; (with_reducible refine (HST.out _ (one_more V4 (.cells #[.int .i64 0, .int .i64 0, .slice none 0 0, .slice none 0 0, .slice none 0 0, .int .i64 0] 38)).drew).mono ?_); rintro e V9 ⟨⟨F1, a1, f1, F2, a2, f2, F3, a3, f3, rfl, hpq⟩, hg⟩; have HPQ := Lib.hid (hpq.mono (B' := V4.heap.size + 1) (by simp)); have KN := Lib.hid ((Blk.new V4 38 #[.int .i64 0, .int .i64 0, .slice none 0 0, .slice none 0 0, .slice none 0 0, .int .i64 0]).drew_.ext hg); have hza := KN.out.lt; have ya0 := KN.out.cell 0; have yb0 := KN.out.frozen 0; have ya1 := KN.out.cell 1; have yb1 := KN.out.frozen 1; have ya2 := KN.out.cell 2; have yb2 := KN.out.frozen 2; have ya3 := KN.out.cell 3; have yb3 := KN.out.frozen 3; have ya4 := KN.out.cell 4; have yb4 := KN.out.frozen 4; have ya5 := KN.out.cell 5; have yb5 := KN.out.frozen 5; have G9 := Lib.hid (show Below V4.heap.size V4 V9 from (one_more V4 (.cells #[.int .i64 0, .int .i64 0, .slice none 0 0, .slice none 0 0, .slice none 0 0, .int .i64 0] 38)).drew.trans (hg.mono (by simp))); have hv9 : V4.heap.size ≤ V9.heap.size := G9.out.size; clear hg hpq))
    all_goals (try go_wp2_with fail)
    all_goals go_meet
    all_goals refine ⟨_, F1, a1, f1, F2, a2, f2, F3, a3, f3, rfl, rfl, ?_, ?_, ?_⟩
    all_goals first
      | (with_reducible exact G9.out.trans ((one_more _ _).mono G9.out.size))
      | (with_reducible exact below_setAll6 (b := V4.heap.size) G9.out (Nat.le_refl _) _ _ _ _ _ _)
      | (with_reducible exact plb_newN _ _ _ _ _ _ _ _ _ _ _)
      | (with_reducible exact plb_set6N KN.out _ _ _ _ _ _ _ _ _ _)
      | (with_reducible exact (cp_alloc HPQ.out _).pa_)
      | (with_reducible exact (HPQ.out.setAll6 (b := V4.heap.size) (Nat.lt_succ_self _) _ _ _ _ _ _).pa_)
  case rest =>
    obtain ⟨b12, F1, a1, f1, F2, a2, f2, F3, a3, f3, rfl, rfl, hg, hbq, hpq⟩ := hcut
    obtain ⟨V5, rfl⟩ : ∃ V : World, V = wc := ⟨_, rfl⟩
    have BQ := Lib.hid hbq
    have HPQ := Lib.hid hpq
    clear hbq hpq HST HKP HT9 HTD e1 e2 e3 e4 kb3_0 kb3_1 kb3_2 kbp_0 kbp_1 kbp_2 kbp_3 kbp_4 kbp_5 kbc_0 kbc_1
    have G5 := Lib.hid (G4.out.trans (hg.mono G4.out.size))
    have B3 := Lib.hid (B3.out.ext hg)
    have B2 := Lib.hid (B2.out.ext hg)
    have BP := Lib.hid (BP.out.ext hg)
    have BC := Lib.hid (BC.out.ext hg)
    have HPA := Lib.hid (HPA.out.below hg)
    have HIA := Lib.hid (HIA.out.below hg)
    clear hg
    have kb3_0 := B3.out.cell 0
    have kb3_1 := B3.out.cell 1
    have kb3_2 := B3.out.cell 2
    have kbp_0 := BP.out.cell 0
    have kbp_1 := BP.out.cell 1
    have kbp_2 := BP.out.cell 2
    have kbp_3 := BP.out.cell 3
    have kbp_4 := BP.out.cell 4
    have kbp_5 := BP.out.cell 5
    have kbc_0 := BC.out.cell 0
    have kbc_1 := BC.out.cell 1
    have kbq_0 := BQ.out.cell 0
    have kbq_1 := BQ.out.cell 1
    have kbq_2 := BQ.out.cell 2
    have kbq_3 := BQ.out.cell 3
    have kbq_4 := BQ.out.cell 4
    have kbq_5 := BQ.out.cell 5
    go_upto_region 9 with (go_at_call 21; (with_reducible refine (H7.out _ _ _ _ _ _ _ _ _ _ _ dn _ HPQ.out HIA.out HM19.out).mono ?_); rintro e V6 ⟨rfl, hg⟩)
    clear kb3_0 kb3_1 kb3_2 kbp_0 kbp_1 kbp_2 kbp_3 kbp_4 kbp_5 kbc_0 kbc_1 kbq_0 kbq_1 kbq_2 kbq_3 kbq_4 kbq_5
    have G6 := Lib.hid (G5.out.trans (hg.mono G5.out.size))
    have B3 := Lib.hid (B3.out.ext hg)
    have B2 := Lib.hid (B2.out.ext hg)
    have BP := Lib.hid (BP.out.ext hg)
    have BC := Lib.hid (BC.out.ext hg)
    have BQ := Lib.hid (BQ.out.ext hg)
    have HPA := Lib.hid (HPA.out.below hg)
    have HIA := Lib.hid (HIA.out.below hg)
    have HPQ := Lib.hid (HPQ.out.below hg)
    clear hg
    have kb3_0 := B3.out.cell 0
    have kb3_1 := B3.out.cell 1
    have kb3_2 := B3.out.cell 2
    have kbp_0 := BP.out.cell 0
    have kbp_1 := BP.out.cell 1
    have kbp_2 := BP.out.cell 2
    have kbp_3 := BP.out.cell 3
    have kbp_4 := BP.out.cell 4
    have kbp_5 := BP.out.cell 5
    have kbc_0 := BC.out.cell 0
    have kbc_1 := BC.out.cell 1
    have kbq_0 := BQ.out.cell 0
    have kbq_1 := BQ.out.cell 1
    have kbq_2 := BQ.out.cell 2
    have kbq_3 := BQ.out.cell 3
    have kbq_4 := BQ.out.cell 4
    have kbq_5 := BQ.out.cell 5
    go_upto_region 10 with (go_at_call 35; (with_reducible refine (H9.out _ _ _ _ _ _ _ _ _ _ HPA.out).mono ?_); rintro e V7 ⟨rfl, hg⟩)
    clear kb3_0 kb3_1 kb3_2 kbp_0 kbp_1 kbp_2 kbp_3 kbp_4 kbp_5 kbc_0 kbc_1 kbq_0 kbq_1 kbq_2 kbq_3 kbq_4 kbq_5
    obtain ⟨W7, hW7⟩ : ∃ W, (V7.alloc (.cells (#[.int .i64 s0, .int .i64 s1]) 33)) = W := ⟨_, rfl⟩
    have ga : Below V7.heap.size V7 W7 := by rw [← hW7]; exact one_more _ _
    have gb := hg.trans (ga.mono hg.size)
    have G7 := Lib.hid (G6.out.trans (gb.mono G6.out.size))
    have B3 := Lib.hid (B3.out.ext gb)
    have B2 := Lib.hid (B2.out.ext gb)
    have BP := Lib.hid (BP.out.ext gb)
    have BC := Lib.hid (BC.out.ext gb)
    have BQ := Lib.hid (BQ.out.ext gb)
    have HPA := Lib.hid (HPA.out.below gb)
    have HIA := Lib.hid (HIA.out.below gb)
    have HPQ := Lib.hid (HPQ.out.below gb)
    have BS := Lib.hid (show Blk W7 (V7.heap.size) 33 (#[.int .i64 s0, .int .i64 s1]) by rw [← hW7]; exact Blk.new _ _ _)
    rw [hW7]
    clear hg ga gb hW7
    have kb3_0 := B3.out.cell 0
    have kb3_1 := B3.out.cell 1
    have kb3_2 := B3.out.cell 2
    have kbp_0 := BP.out.cell 0
    have kbp_1 := BP.out.cell 1
    have kbp_2 := BP.out.cell 2
    have kbp_3 := BP.out.cell 3
    have kbp_4 := BP.out.cell 4
    have kbp_5 := BP.out.cell 5
    have kbc_0 := BC.out.cell 0
    have kbc_1 := BC.out.cell 1
    have kbq_0 := BQ.out.cell 0
    have kbq_1 := BQ.out.cell 1
    have kbq_2 := BQ.out.cell 2
    have kbq_3 := BQ.out.cell 3
    have kbq_4 := BQ.out.cell 4
    have kbq_5 := BQ.out.cell 5
    have kbs_0 := BS.out.cell 0
    have kbs_1 := BS.out.cell 1
    go_upto_region 11 with (go_at_call 35; (with_reducible refine (H10.out _ _ _ _ _ _ _ _ _ _ HPQ.out).mono ?_); rintro e V8 ⟨rfl, hg⟩)
    clear kb3_0 kb3_1 kb3_2 kbp_0 kbp_1 kbp_2 kbp_3 kbp_4 kbp_5 kbc_0 kbc_1 kbq_0 kbq_1 kbq_2 kbq_3 kbq_4 kbq_5 kbs_0 kbs_1
    obtain ⟨W8, hW8⟩ : ∃ W, (V8.alloc (.cells (#[.int .i64 t0, .int .i64 t1]) 33)) = W := ⟨_, rfl⟩
    have ga : Below V8.heap.size V8 W8 := by rw [← hW8]; exact one_more _ _
    have gb := hg.trans (ga.mono hg.size)
    have G8 := Lib.hid (G7.out.trans (gb.mono G7.out.size))
    have B3 := Lib.hid (B3.out.ext gb)
    have B2 := Lib.hid (B2.out.ext gb)
    have BP := Lib.hid (BP.out.ext gb)
    have BC := Lib.hid (BC.out.ext gb)
    have BQ := Lib.hid (BQ.out.ext gb)
    have BS := Lib.hid (BS.out.ext gb)
    have HPA := Lib.hid (HPA.out.below gb)
    have HIA := Lib.hid (HIA.out.below gb)
    have HPQ := Lib.hid (HPQ.out.below gb)
    have BT := Lib.hid (show Blk W8 (V8.heap.size) 33 (#[.int .i64 t0, .int .i64 t1]) by rw [← hW8]; exact Blk.new _ _ _)
    rw [hW8]
    clear hg ga gb hW8
    have kb3_0 := B3.out.cell 0
    have kb3_1 := B3.out.cell 1
    have kb3_2 := B3.out.cell 2
    have kbp_0 := BP.out.cell 0
    have kbp_1 := BP.out.cell 1
    have kbp_2 := BP.out.cell 2
    have kbp_3 := BP.out.cell 3
    have kbp_4 := BP.out.cell 4
    have kbp_5 := BP.out.cell 5
    have kbc_0 := BC.out.cell 0
    have kbc_1 := BC.out.cell 1
    have kbq_0 := BQ.out.cell 0
    have kbq_1 := BQ.out.cell 1
    have kbq_2 := BQ.out.cell 2
    have kbq_3 := BQ.out.cell 3
    have kbq_4 := BQ.out.cell 4
    have kbq_5 := BQ.out.cell 5
    have kbs_0 := BS.out.cell 0
    have kbs_1 := BS.out.cell 1
    have kbt_0 := BT.out.cell 0
    have kbt_1 := BT.out.cell 1
    go_upto_region 12 with (go_at_call 18; (with_reducible refine (H11.out _ _ _ _ _ _ _ _ _ _ HPA.out).mono ?_); rintro e V9 ⟨rfl, hg⟩)
    clear kb3_0 kb3_1 kb3_2 kbp_0 kbp_1 kbp_2 kbp_3 kbp_4 kbp_5 kbc_0 kbc_1 kbq_0 kbq_1 kbq_2 kbq_3 kbq_4 kbq_5 kbs_0 kbs_1 kbt_0 kbt_1
    have G9 := Lib.hid (G8.out.trans (hg.mono G8.out.size))
    have B3 := Lib.hid (B3.out.ext hg)
    have B2 := Lib.hid (B2.out.ext hg)
    have BP := Lib.hid (BP.out.ext hg)
    have BC := Lib.hid (BC.out.ext hg)
    have BQ := Lib.hid (BQ.out.ext hg)
    have BS := Lib.hid (BS.out.ext hg)
    have BT := Lib.hid (BT.out.ext hg)
    have HPA := Lib.hid (HPA.out.below hg)
    have HIA := Lib.hid (HIA.out.below hg)
    have HPQ := Lib.hid (HPQ.out.below hg)
    clear hg
    have kb3_0 := B3.out.cell 0
    have kb3_1 := B3.out.cell 1
    have kb3_2 := B3.out.cell 2
    have kbp_0 := BP.out.cell 0
    have kbp_1 := BP.out.cell 1
    have kbp_2 := BP.out.cell 2
    have kbp_3 := BP.out.cell 3
    have kbp_4 := BP.out.cell 4
    have kbp_5 := BP.out.cell 5
    have kbc_0 := BC.out.cell 0
    have kbc_1 := BC.out.cell 1
    have kbq_0 := BQ.out.cell 0
    have kbq_1 := BQ.out.cell 1
    have kbq_2 := BQ.out.cell 2
    have kbq_3 := BQ.out.cell 3
    have kbq_4 := BQ.out.cell 4
    have kbq_5 := BQ.out.cell 5
    have kbs_0 := BS.out.cell 0
    have kbs_1 := BS.out.cell 1
    have kbt_0 := BT.out.cell 0
    have kbt_1 := BT.out.cell 1
    go_upto_region 13 with (go_at_call 18; (with_reducible refine (H12.out _ _ _ _ _ _ _ _ _ _ HPQ.out).mono ?_); rintro e V10 ⟨rfl, hg⟩)
    clear kb3_0 kb3_1 kb3_2 kbp_0 kbp_1 kbp_2 kbp_3 kbp_4 kbp_5 kbc_0 kbc_1 kbq_0 kbq_1 kbq_2 kbq_3 kbq_4 kbq_5 kbs_0 kbs_1 kbt_0 kbt_1
    have G10 := Lib.hid (G9.out.trans (hg.mono G9.out.size))
    have B3 := Lib.hid (B3.out.ext hg)
    have B2 := Lib.hid (B2.out.ext hg)
    have BP := Lib.hid (BP.out.ext hg)
    have BC := Lib.hid (BC.out.ext hg)
    have BQ := Lib.hid (BQ.out.ext hg)
    have BS := Lib.hid (BS.out.ext hg)
    have BT := Lib.hid (BT.out.ext hg)
    have HPA := Lib.hid (HPA.out.below hg)
    have HIA := Lib.hid (HIA.out.below hg)
    have HPQ := Lib.hid (HPQ.out.below hg)
    clear hg
    have kb3_0 := B3.out.cell 0
    have kb3_1 := B3.out.cell 1
    have kb3_2 := B3.out.cell 2
    have kbp_0 := BP.out.cell 0
    have kbp_1 := BP.out.cell 1
    have kbp_2 := BP.out.cell 2
    have kbp_3 := BP.out.cell 3
    have kbp_4 := BP.out.cell 4
    have kbp_5 := BP.out.cell 5
    have kbc_0 := BC.out.cell 0
    have kbc_1 := BC.out.cell 1
    have kbq_0 := BQ.out.cell 0
    have kbq_1 := BQ.out.cell 1
    have kbq_2 := BQ.out.cell 2
    have kbq_3 := BQ.out.cell 3
    have kbq_4 := BQ.out.cell 4
    have kbq_5 := BQ.out.cell 5
    have kbs_0 := BS.out.cell 0
    have kbs_1 := BS.out.cell 1
    have kbt_0 := BT.out.cell 0
    have kbt_1 := BT.out.cell 1

    go_cut [144] from 108 to 144 (fun cc wx => cc = .bool false ∧ V10 = wx)
    case first =>
      have k1 := KST.out
      have e1 : decide (t0 < s0) = false := decide_eq_false (by omega)
      have e2 : decide (s1 < t1) = false := decide_eq_false (by omega)
      by_cases o2 : oa = 2
      · subst o2
        go_wp2_with fail
        go_meet
        exact ⟨rfl, rfl⟩
      · have o3 := KOP.out o2
        have b3 : (oa != 2) = true := by simpa using o2
        subst o3
        have b4 : (oa != oa) = false := by simp
        go_wp2_with fail
        go_meet
        exact ⟨rfl, rfl⟩
    case rest =>
      obtain ⟨rfl, rfl⟩ := hcut
      have hm6 : m1 ≤ 19 := by rw [HM1.out]; exact H19.out
      go_upto_region 15 with fail
      clear kb3_0 kb3_1 kb3_2 kbp_0 kbp_1 kbp_2 kbp_3 kbp_4 kbp_5 kbc_0 kbc_1 kbq_0 kbq_1 kbq_2 kbq_3 kbq_4 kbq_5 kbs_0 kbs_1 kbt_0 kbt_1
      go_upto_region 16 with fail
      go_loopw [22] (fun i wr => ∃ k : Nat, k ≤ m1 ∧ i = .int .i64 k ∧ Below V10.heap.size V10 wr) (fun i _ => m1 - (intOf i).toNat)
      case atStart => exact ⟨0, Nat.zero_le _, rfl, Below.refl _ _⟩
      case round =>
        obtain ⟨k, hk, rfl, hgk⟩ := hrel
        obtain ⟨V, rfl⟩ : ∃ V : World, V = wr := ⟨_, rfl⟩
        have HGK := Lib.hid hgk
        have hvs := hgk.size
        have BPk := Lib.hid (BP.out.ext hgk)
        have BQk := Lib.hid (BQ.out.ext hgk)
        have HPAk := Lib.hid (HPA.out.below hgk)
        have HPQk := Lib.hid (HPQ.out.below hgk)
        have p2 := BPk.out.cell 2
        clear hgk
        by_cases hkn : k < m1
        · obtain ⟨b0, o0, e0, -, -, hc⟩ := six_at HPAk.out.l1 hkn
          have hkl : k < P.loads.length := by rw [← HM1.out]; exact hkn
          obtain ⟨⟨hc1, hc1'⟩, hc2, hc3⟩ := KCR.out k hkl
          have TQ := fun X (g : Below V.heap.size V X) => H18.out D1 d1 D2 d2 D3 d3 m1 m2 m3 (P.loads.getD k z6).a X (HPAk.out.below g)
          have TR := fun X (g : Below V.heap.size V X) => H19q.out F1 f1 F2 f2 F3 f3 a1 a2 a3 (P.loads.getD k z6).a X (HPQk.out.below g)
          obtain ⟨q, hq⟩ : ∃ q, P.loads.getD k z6 = q := ⟨_, rfl⟩
          rw [hq] at hc hc1 hc1' hc2 hc3 TQ TR
          rw [hc1] at TQ
          rw [hc1'] at TR
          obtain ⟨⟨x0, x1⟩, hx⟩ : ∃ s, cartR P q.a 20 = s := ⟨_, rfl⟩
          obtain ⟨⟨y0, y1⟩, hy⟩ : ∃ s, cartR Q q.a 20 = s := ⟨_, rfl⟩
          rw [hx] at hc2 hc3 TQ
          rw [hy] at hc2 hc3 TR
          dsimp only at hc2 hc3
          have HTQ := Lib.hid TQ
          have HTR := Lib.hid TR
          subst e0
          have HKP := Lib.hid (fun X (g : Below V.heap.size V X) => (⟨(BPk.out.ext g).cell 0, (BPk.out.ext g).cell 1, (BPk.out.ext g).cell 2, (BPk.out.ext g).cell 3, (BPk.out.ext g).cell 4, (BPk.out.ext g).cell 5, (hc _ g).1⟩ : X.cell? ⟨V3.heap.size, 0, none⟩ = some (.int .i64 P.lo) ∧ X.cell? ⟨V3.heap.size, 1, none⟩ = some (.int .i64 P.hi) ∧ X.cell? ⟨V3.heap.size, 2, none⟩ = some (.slice (some ⟨b0, o0, none⟩) m1 d1) ∧ X.cell? ⟨V3.heap.size, 3, none⟩ = some (.slice D2 m2 d2) ∧ X.cell? ⟨V3.heap.size, 4, none⟩ = some (.slice D3 m3 d3) ∧ X.cell? ⟨V3.heap.size, 5, none⟩ = some (.int .i64 P.geese) ∧ X.cell? ⟨b0, o0 + k * 6, none⟩ = some (.int .i64 q.a)))
          have HKQ := Lib.hid (fun X (g : Below V.heap.size V X) => (⟨(BQk.out.ext g).cell 0, (BQk.out.ext g).cell 1, (BQk.out.ext g).cell 2, (BQk.out.ext g).cell 3, (BQk.out.ext g).cell 4, (BQk.out.ext g).cell 5, (BPk.out.ext g).cell 2, (hc _ g).1⟩ : X.cell? ⟨b12, 0, none⟩ = some (.int .i64 Q.lo) ∧ X.cell? ⟨b12, 1, none⟩ = some (.int .i64 Q.hi) ∧ X.cell? ⟨b12, 2, none⟩ = some (.slice F1 a1 f1) ∧ X.cell? ⟨b12, 3, none⟩ = some (.slice F2 a2 f2) ∧ X.cell? ⟨b12, 4, none⟩ = some (.slice F3 a3 f3) ∧ X.cell? ⟨b12, 5, none⟩ = some (.int .i64 Q.geese) ∧ X.cell? ⟨V3.heap.size, 2, none⟩ = some (.slice (some ⟨b0, o0, none⟩) m1 d1) ∧ X.cell? ⟨b0, o0 + k * 6, none⟩ = some (.int .i64 q.a)))
          have hk1 : (k : Int) < (m1 : Int) := by omega
          clear hc hc1 hc1' hq TQ TR hx hy
          go_upto_region 18 with fail
          clear p2
          obtain ⟨p0, p1, p2, p3, p4, p5, p6⟩ := HKP.out V (Below.refl _ _)
          go_cut [23, 24] from 153 to 162 (fun s21 s22 wx => ∃ b21, s21 = .pointer (some ⟨b21, 0, none⟩) ∧ s22 = .int .i64 0 ∧ Below V.heap.size V wx ∧ Blk wx b21 33 #[.int .i64 x0, .int .i64 x1])
          case first =>
            go_region_held3 (fun X => X.cell? ⟨V3.heap.size, 0, none⟩ = some (.int .i64 P.lo) ∧ X.cell? ⟨V3.heap.size, 1, none⟩ = some (.int .i64 P.hi) ∧ X.cell? ⟨V3.heap.size, 2, none⟩ = some (.slice (some ⟨b0, o0, none⟩) m1 d1) ∧ X.cell? ⟨V3.heap.size, 3, none⟩ = some (.slice D2 m2 d2) ∧ X.cell? ⟨V3.heap.size, 4, none⟩ = some (.slice D3 m3 d3) ∧ X.cell? ⟨V3.heap.size, 5, none⟩ = some (.int .i64 P.geese) ∧ X.cell? ⟨b0, o0 + k * 6, none⟩ = some (.int .i64 q.a))
              (with_reducible refine HKP.out _ ?_; repeat' first | (with_reducible exact Below.refl _ _) | (with_reducible exact G9.out) | (with_reducible refine Below.drew ?_) | (with_reducible refine Below.allo_ ?_ (by first | (simp; done) | (simp; omega) | omega) _) | (with_reducible refine Below.setCell ?_ (by dsimp only; omega) _))
              (first
                | (go_at_call 55; (with_reducible refine (HTQ.out _ (Below.refl _ _).drew).mono ?_); rintro e V9 ⟨rfl, hg⟩; have G9 := Lib.hid (show Below V.heap.size V V9 from (Below.refl _ _).drew.trans hg); have hv9 : V.heap.size ≤ V9.heap.size := G9.out.size; clear hg)
                | (go_at_call 55; (with_reducible refine (HTQ.out _ (one_more _ (.cells #[.int .i64 0, .int .i64 0] 33)).drew).mono ?_); rintro e V9 ⟨rfl, hg⟩; have KN := Lib.hid ((Blk.new V 33 #[.int .i64 0, .int .i64 0]).drew_.ext hg); have z0 := KN.out.cell 0; have z1 := KN.out.cell 1; have z2 := KN.out.frozen 0; have z3 := KN.out.frozen 1; have G9 := Lib.hid (show Below V.heap.size V V9 from (one_more V (.cells #[.int .i64 0, .int .i64 0] 33)).drew.trans (hg.mono (by simp))); have hv9 : V.heap.size ≤ V9.heap.size := G9.out.size; clear hg))
            all_goals (try go_wp2_with fail)
            all_goals go_meet
            all_goals first
              | exact ⟨_, rfl, rfl, G9.out.trans ((one_more _ _).mono G9.out.size), Blk.new _ _ _⟩
              | exact ⟨_, rfl, rfl, (G9.out.setCell (p := ⟨V.heap.size, 0, none⟩) (Nat.le_refl _) _).setCell (p := ⟨V.heap.size, 1, none⟩) (Nat.le_refl _) _, (KN.out.set_ 0 (.int .i64 x0)).set_ 1 (.int .i64 x1)⟩
          case rest =>
            obtain ⟨b21, rfl, rfl, hgd, hb21⟩ := hcut
            obtain ⟨U, rfl⟩ : ∃ U : World, U = wc := ⟨_, rfl⟩
            have HGD := Lib.hid hgd
            have HB21 := Lib.hid hb21
            have hvs2 := hgd.size
            have HKQ2 := Lib.hid (fun X (g : Below U.heap.size U X) => HKQ.out X (HGD.out.trans (g.mono HGD.out.size)))
            have HTR2 := Lib.hid (fun X (g : Below U.heap.size U X) => HTR.out X (HGD.out.trans (g.mono HGD.out.size)))
            clear hgd hb21 p0 p1 p2 p3 p4 p5 p6
            go_upto_region 19 with fail
            obtain ⟨p0, p1, p2, p3, p4, p5, p6, p7⟩ := HKQ2.out U (Below.refl _ _)
            go_cut [25, 26] from 164 to 173 (fun s21 s22 wx => ∃ b22, s21 = .pointer (some ⟨b22, 0, none⟩) ∧ s22 = .int .i64 0 ∧ Below U.heap.size U wx ∧ Blk wx b22 33 #[.int .i64 y0, .int .i64 y1])
            case first =>
              go_region_held3 (fun X => X.cell? ⟨b12, 0, none⟩ = some (.int .i64 Q.lo) ∧ X.cell? ⟨b12, 1, none⟩ = some (.int .i64 Q.hi) ∧ X.cell? ⟨b12, 2, none⟩ = some (.slice F1 a1 f1) ∧ X.cell? ⟨b12, 3, none⟩ = some (.slice F2 a2 f2) ∧ X.cell? ⟨b12, 4, none⟩ = some (.slice F3 a3 f3) ∧ X.cell? ⟨b12, 5, none⟩ = some (.int .i64 Q.geese) ∧ X.cell? ⟨V3.heap.size, 2, none⟩ = some (.slice (some ⟨b0, o0, none⟩) m1 d1) ∧ X.cell? ⟨b0, o0 + k * 6, none⟩ = some (.int .i64 q.a))
                (with_reducible refine HKQ2.out _ ?_; repeat' first | (with_reducible exact Below.refl _ _) | (with_reducible exact G9.out) | (with_reducible refine Below.drew ?_) | (with_reducible refine Below.allo_ ?_ (by first | (simp; done) | (simp; omega) | omega) _) | (with_reducible refine Below.setCell ?_ (by dsimp only; omega) _))
                (first
                  | (go_at_call 55; (with_reducible refine (HTR2.out _ (Below.refl _ _).drew).mono ?_); rintro e V9 ⟨rfl, hg⟩; have G9 := Lib.hid (show Below U.heap.size U V9 from (Below.refl _ _).drew.trans hg); have hv9 : U.heap.size ≤ V9.heap.size := G9.out.size; clear hg)
                  | (go_at_call 55; (with_reducible refine (HTR2.out _ (one_more _ (.cells #[.int .i64 0, .int .i64 0] 33)).drew).mono ?_); rintro e V9 ⟨rfl, hg⟩; have KN := Lib.hid ((Blk.new U 33 #[.int .i64 0, .int .i64 0]).drew_.ext hg); have z0 := KN.out.cell 0; have z1 := KN.out.cell 1; have z2 := KN.out.frozen 0; have z3 := KN.out.frozen 1; have G9 := Lib.hid (show Below U.heap.size U V9 from (one_more U (.cells #[.int .i64 0, .int .i64 0] 33)).drew.trans (hg.mono (by simp))); have hv9 : U.heap.size ≤ V9.heap.size := G9.out.size; clear hg))
              all_goals (try go_wp2_with fail)
              all_goals go_meet
              all_goals first
                | exact ⟨_, rfl, rfl, G9.out.trans ((one_more _ _).mono G9.out.size), Blk.new _ _ _⟩
                | exact ⟨_, rfl, rfl, (G9.out.setCell (p := ⟨U.heap.size, 0, none⟩) (Nat.le_refl _) _).setCell (p := ⟨U.heap.size, 1, none⟩) (Nat.le_refl _) _, (KN.out.set_ 0 (.int .i64 y0)).set_ 1 (.int .i64 y1)⟩
            case rest =>
              obtain ⟨b22, rfl, rfl, hgd, hb22⟩ := hcut
              have v1 := (HB21.out.ext hgd).cell 0
              have v2 := (HB21.out.ext hgd).cell 1
              have v3 := hb22.cell 0
              have v4 := hb22.cell 1
              have HGE := Lib.hid (HGK.out.trans ((HGD.out.trans (hgd.mono HGD.out.size)).mono hvs))
              have dz1 : decide (y0 < x0) = false := decide_eq_false (by omega)
              have dz2 : decide (x1 < y1) = false := decide_eq_false (by omega)
              clear hgd hb22 p0 p1 p2 p3 p4 p5 p6 p7
              go_wp2_with fail
              go_roundw
              case rel => exact ⟨k + 1, by omega, by go_num, HGE.out⟩
              case measure => simp [intOf]; omega
        · obtain rfl : m1 = k := by omega
          go_wp2_with fail
          go_ret
          exact ⟨rfl, G10.out.trans (HGK.out.mono G10.out.size)⟩
end Go.Proofs.YtkoejeghihcmlaaGreat
