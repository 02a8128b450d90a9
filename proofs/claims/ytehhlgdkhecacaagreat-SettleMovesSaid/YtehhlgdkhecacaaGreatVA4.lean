/- Part of the proof: FL, FM, FN, CC, FJ, FK, FO, EA. -/
import Derived.Shelf.RegionOpenPlain
import Derived.Laws.IdiomCopy
import Derived.Lib.AppendZerosOnto
import Derived.Laws.NewBlocks
import Derived.Test.YtehhlgdkhecacaaGreatRows
import Derived.ProofKit
import Derived.Carry
import Derived.WideKeyArgs
import Derived.Below
import Derived.OpenShut
import Derived.Deep.Slices
import Derived.Test.YtehhlgdkhecacaaGreatVA1
import Derived.Test.YtehhlgdkhecacaaGreatVA2
import Derived.Test.YtehhlgdkhecacaaGreatVA3
namespace Go.Proofs.YtehhlgdkhecacaaGreat
open Go.RowKit Go.Shelf
set_option maxRecDepth 100000 in
set_option maxHeartbeats 16000000 in
theorem refAdd_any (A : Option Addr) (n c : Nat) (l : List Pf) (p : Pf) (w : World) (ha : Prf w A n l) (hn : n ≤ 9223372036854775807) (hp : PI w p) :
  Calls Tryz.prog 58 #[.slice A n c, pv p] w (PrfEnd (addL (l.map Pf.q) p.q) (addE (l.map Pf.q) p.q) w) := by
 obtain ⟨b, hb⟩ : ∃ b, w.heap.size = b := ⟨_, rfl⟩
 obtain ⟨W1, hW1⟩ : ∃ X, w.alloc (.cells #[.int .i64 p.q.src, .int .i64 p.q.kind, .slice p.A p.n p.c, .int .i64 p.q.oth, .int .i64 p.q.par, .int .i64 p.q.day, .int .i64 p.q.thr, .int .i64 p.q.kno, .int .i64 p.q.unt] 56) = X := ⟨_, rfl⟩
 have G1 := Lib.hid (show Below w.heap.size w W1 by rw [← hW1]; exact one_more _ _)
 have B1 := Lib.hid (show Blk W1 b 56 #[.int .i64 p.q.src, .int .i64 p.q.kind, .slice p.A p.n p.c, .int .i64 p.q.oth, .int .i64 p.q.par, .int .i64 p.q.day, .int .i64 p.q.thr, .int .i64 p.q.kno, .int .i64 p.q.unt] by rw [← hW1, ← hb]; exact Blk.new _ _ _)
 have HW1 := Lib.hid hW1
 have HB := Lib.hid hb
 have HA := Lib.hid (ha.below G1.out)
 have HPI := Lib.hid (hp.below G1.out)
 have hlen := Lib.hid ha.len
 have TC := refCheck_any A n c l W1 HA.out hn
 have TP := Lib.hid (fun W (g : Below W1.heap.size W1 W) => refCheckProof_any p W (HPI.out.below g))
 have HOK := Lib.hid (fun (h : okL (l.map Pf.q) = true) => (show n ≤ 60 ∧ (∀ p ∈ l, p.n ≤ 1000000) ∧ addI (l.map Pf.q) p.q.src ≤ n ∧ ∀ k, k < n → ((l.getD k p0).q.src < p.q.src ↔ k < addI (l.map Pf.q) p.q.src) by
  have h1 := okL_len h
  rw [List.length_map, ha.len] at h1
  obtain ⟨i1, i2⟩ := addI_spec (okL_src h) p.q.src
  rw [List.length_map, ha.len] at i1
  refine ⟨by omega, fun p hp => ?_, i1, fun k hk => ?_⟩
  ·have h2 := isQf_per (okL_all h _ (List.mem_map.2 ⟨p, hp, rfl⟩))
   have h3 := (ha.p p hp).len
   omega
  ·have := i2 k (by rw [List.length_map, ha.len]; exact hk)
   rwa [map_pf (by rw [ha.len]; exact hk)] at this))
 have HPN := Lib.hid (fun (h : isQf p.q = true) => (show p.n ≤ 1000000 by have h1 := isQf_per h; have h2 := hp.len; omega))
 have TA := Lib.hid (fun (h : n ≤ 60) W (g : Below W1.heap.size W1 W) => at_any A n c l p.q.src W (HA.out.below g) (by omega))
 have HNS := Lib.hid (fun (h : p.q.src ∉ srcL (l.map Pf.q)) k (hk : k < n) => (show (l.getD k p0).q.src ≠ p.q.src from fun e => h (List.mem_map.2 ⟨(l.getD k p0).q, List.mem_map.2 ⟨_, mem_pf (by rw [ha.len]; exact hk), rfl⟩, e⟩)))
 have HAE := Lib.hid (show addE (l.map Pf.q) p.q = if okL (l.map Pf.q) = true then (if isQf p.q = true then (if p.q.src ∈ srcL (l.map Pf.q) then 22 else if okL (addL (l.map Pf.q) p.q) = true then 0 else 2) else 20) else 21 from rfl)
 have HAT := Lib.hid (show atN (l.map Pf.q) p.q.src < 0 ↔ p.q.src ∉ srcL (l.map Pf.q) from atN_neg)
 have HK0 := Lib.hid (addK_0 (l.map Pf.q) p.q)
 have HKL := Lib.hid (fun k (hk : k < n) (h : k < addI (l.map Pf.q) p.q.src) => (show addK (l.map Pf.q) p.q (k + 1) = addK (l.map Pf.q) p.q k ++ [(l.getD k p0).q] by
  rw [addK_lo (by rw [List.length_map, ha.len]; exact hk) h, map_pf (by rw [ha.len]; exact hk)]))
 have HKA := Lib.hid (fun k (hk : k < n) (h : k = addI (l.map Pf.q) p.q.src) => (show addK (l.map Pf.q) p.q (k + 1) = addK (l.map Pf.q) p.q k ++ [p.q] ++ [(l.getD k p0).q] by
  rw [addK_at (by rw [List.length_map, ha.len]; exact hk) h, map_pf (by rw [ha.len]; exact hk)]))
 have HKH := Lib.hid (fun k (hk : k < n) (h : addI (l.map Pf.q) p.q.src < k) => (show addK (l.map Pf.q) p.q (k + 1) = addK (l.map Pf.q) p.q k ++ [(l.getD k p0).q] by
  rw [addK_hi (by rw [List.length_map, ha.len]; exact hk) h, map_pf (by rw [ha.len]; exact hk)]))
 have HKF := Lib.hid (fun (h : addI (l.map Pf.q) p.q.src < n) => (show addK (l.map Pf.q) p.q n = addL (l.map Pf.q) p.q by
  have := addK_fin (l := l.map Pf.q) (p := p.q) (by rw [List.length_map, ha.len]; exact h)
  rwa [List.length_map, ha.len] at this))
 have HKE := Lib.hid (fun (h : addI (l.map Pf.q) p.q.src = n) => (show addK (l.map Pf.q) p.q n ++ [p.q] = addL (l.map Pf.q) p.q by
  have := addK_end (l := l.map Pf.q) (p := p.q) (by rw [List.length_map, ha.len]; exact h)
  rwa [List.length_map, ha.len] at this))
 have HKN := Lib.hid (fun k (hk : k ≤ n) => (show (addK (l.map Pf.q) p.q k).length ≤ k + 1 from addK_len (by rw [List.length_map, ha.len]; exact hk)))
 have HALN := Lib.hid (show (addL (l.map Pf.q) p.q).length = n + 1 by rw [addL_len, List.length_map, ha.len])
 obtain ⟨ok, hok⟩ : ∃ b, okL (l.map Pf.q) = b := ⟨_, rfl⟩
 rw [hok] at TC HOK HAE
 obtain ⟨qp, hqp⟩ : ∃ b, isQf p.q = b := ⟨_, rfl⟩
 rw [hqp] at TP HPN HAE
 obtain ⟨ix, hix⟩ : ∃ b, atN (l.map Pf.q) p.q.src = b := ⟨_, rfl⟩
 rw [hix] at TA HAT
 obtain ⟨AK, hAK⟩ : ∃ f : Nat → List Qf, addK (l.map Pf.q) p.q = f := ⟨_, rfl⟩
 rw [hAK] at HK0 HKL HKA HKH HKF HKE HKN
 obtain ⟨AL, hAL⟩ : ∃ f, addL (l.map Pf.q) p.q = f := ⟨_, rfl⟩
 rw [hAL] at HKF HKE HALN HAE ⊢
 obtain ⟨ai, hai⟩ : ∃ f, addI (l.map Pf.q) p.q.src = f := ⟨_, rfl⟩
 rw [hai] at HOK HKL HKA HKH HKF HKE
 obtain ⟨ae, hae⟩ : ∃ b, addE (l.map Pf.q) p.q = b := ⟨_, rfl⟩
 rw [hae] at HAE ⊢
 clear ha hp hok hqp hix hAK hAL hai hae hW1 hb
 cases ok with
 | false =>
  rw [show err false 21 = 21 from rfl] at TC
  have C := Lib.hid TC
  obtain rfl : ae = 21 := by rw [HAE.out, if_neg (by decide)]
  clear TC
  go_enter Tryz.func58, Tryz.ntmps58
  go_upto_region 1 with fail
  rw [HW1.out, HB.out]
  go_wp2_with (go_at_call 65; (with_reducible refine (C.out).mono ?_); rintro e V ⟨rfl, hg⟩; have GV := Lib.hid (G1.out.trans (hg.mono G1.out.size)); clear hg)
  go_ret2
  exact prfEnd_no (by decide) GV.out
 | true =>
 rw [show err true 21 = 0 from rfl] at TC
 have C := Lib.hid TC
 obtain ⟨hn6, hper, hain, hlt⟩ := HOK.out rfl
 have HPER := Lib.hid hper
 have HLT := Lib.hid hlt
 have HAE2 := Lib.hid (show ae = if qp = true then (if p.q.src ∈ srcL (l.map Pf.q) then 22 else if okL AL = true then 0 else 2) else 20 by rw [HAE.out, if_pos rfl])
 clear TC hper hlt
 go_enter Tryz.func58, Tryz.ntmps58
 go_upto_region 1 with fail
 rw [HW1.out, HB.out]
 go_upto_region 3 with (go_at_call 65; (with_reducible refine (C.out).mono ?_); rintro e V ⟨rfl, hg⟩; have GV := Lib.hid hg; clear hg)
 have BV := Lib.hid (B1.out.ext GV.out)
 have k0 := BV.out.cell 0
 have k1 := BV.out.cell 1
 have k2 := BV.out.cell 2
 have k3 := BV.out.cell 3
 have k4 := BV.out.cell 4
 have k5 := BV.out.cell 5
 have k6 := BV.out.cell 6
 have k7 := BV.out.cell 7
 have k8 := BV.out.cell 8
 cases qp with
 | false =>
  have T2 := TP.out V GV.out
  rw [show err false 20 = 20 from rfl] at T2
  have C2 := Lib.hid T2
  obtain rfl : ae = 20 := by rw [HAE2.out, if_neg (by decide)]
  clear T2
  go_wp2_with (go_at_call 64; (with_reducible refine (C2.out).mono ?_); rintro e V2 ⟨rfl, hg⟩; have GV2 := Lib.hid (GV.out.trans (hg.mono GV.out.size)); clear hg)
  go_ret2
  exact prfEnd_no (by decide) (G1.out.trans (GV2.out.mono G1.out.size))
 | true =>
 have T2 := TP.out V GV.out
 rw [show err true 20 = 0 from rfl] at T2
 have C2 := Lib.hid T2
 have hpn := HPN.out rfl
 have HAE3 := Lib.hid (show ae = if p.q.src ∈ srcL (l.map Pf.q) then 22 else if okL AL = true then 0 else 2 by rw [HAE2.out, if_pos rfl])
 clear T2
 go_upto_region 5 with (go_at_call 64; (with_reducible refine (C2.out).mono ?_); rintro e V2 ⟨rfl, hg⟩; have GV2 := Lib.hid (GV.out.trans (hg.mono GV.out.size)); clear hg)
 clear k0 k1 k2 k3 k4 k5 k6 k7 k8
 have BV2 := Lib.hid (B1.out.ext GV2.out)
 have k0 := BV2.out.cell 0
 by_cases hs : p.q.src ∈ srcL (l.map Pf.q)
 ·obtain rfl : ae = 22 := by rw [HAE3.out, if_pos hs]
  have hd : decide (0 ≤ ix) = true := decide_eq_true (by have := HAT.out; have h2 : ¬ ix < 0 := fun h => this.1 h hs; omega)
  have hd2 : 0 ≤ ix := by have := HAT.out; have h2 : ¬ ix < 0 := fun h => this.1 h hs; omega
  clear hs
  go_wp2_with (go_at_call 78; (with_reducible refine (TA.out hn6 _ GV2.out).mono ?_); rintro e V3 ⟨rfl, hg⟩; have GV3 := Lib.hid (GV2.out.trans (hg.mono GV2.out.size)); clear hg)
  go_ret2
  exact prfEnd_no (by decide) (G1.out.trans (GV3.out.mono G1.out.size))
 ·have HAE4 := Lib.hid (show ae = if okL AL = true then 0 else 2 by rw [HAE3.out, if_neg hs])
  have hd : decide (0 ≤ ix) = false := decide_eq_false (by have := HAT.out.2 hs; omega)
  have hd2 : ¬ 0 ≤ ix := by have := HAT.out.2 hs; omega
  have HNS2 := Lib.hid (HNS.out hs)
  clear hs
  go_upto_region 7 with (go_at_call 78; (with_reducible refine (TA.out hn6 _ GV2.out).mono ?_); rintro e V3 ⟨rfl, hg⟩; have GV3 := Lib.hid (GV2.out.trans (hg.mono GV2.out.size)); clear hg)
  have BV3 := Lib.hid (B1.out.ext GV3.out)
  have HA3 := Lib.hid (HA.out.below GV3.out)
  have HP3 := Lib.hid (HPI.out.below GV3.out)
  clear k0 hd hd2
  obtain ⟨d0, hd0⟩ : ∃ x : Bool, decide (ai < 0) = x := ⟨_, rfl⟩
  have hd0f : d0 = false := by rw [← hd0]; exact decide_eq_false (by omega)
  clear hd0
  subst hd0f
  go_wp2_with fail
  go_loopw [6, 7, 8] (fun v d i wr => ∃ (k : Nat) (ls : List Pf), k ≤ n ∧ i = .int .i64 k ∧ d = .bool (decide (ai < k)) ∧ Md V3 wr v (.slice none 0 0) ls [] ∧ ls.map Pf.q = AK k) (fun _ _ i _ => n - (intOf i).toNat)
  case atStart => exact ⟨0, [], Nat.zero_le _, rfl, rfl, Md.nil _, by rw [HK0.out]; rfl⟩
  case round =>
   obtain ⟨k, ls, hk, rfl, rfl, hmd, hls⟩ := hrel
   have HMD := Lib.hid hmd
   have HLS := Lib.hid hls
   have HLLA := Lib.hid (show ls.length ≤ 100 by have := HKN.out k hk; rw [← hls, List.length_map] at this; omega)
   clear hmd hls
   by_cases hkn : k < n
   ·obtain ⟨b0, o0, rfl, -, hyi, hym, hyc⟩ := (HA3.out.below HMD.out.g).at hkn
    have HYN := Lib.hid (HPER.out _ hym)
    have HLK := Lib.hid (HLT.out k hkn)
    have HNE := Lib.hid (HNS2.out k hkn)
    have HSL := Lib.hid (HKL.out k hkn)
    have HSA := Lib.hid (HKA.out k hkn)
    have HSH := Lib.hid (HKH.out k hkn)
    have HAT2 := Lib.hid (fun W (g : Below V3.heap.size V3 W) => (show PI W (l.getD k p0) ∧ Nine W b0 (o0 + k * 9) (l.getD k p0) by
     obtain ⟨b9, o9, e9, -, hi9, -, hc9⟩ := (HA3.out.below g).at hkn
     cases e9
     exact ⟨hi9, hc9 _ (Below.refl _ _)⟩))
    obtain ⟨y, hy⟩ : ∃ y, l.getD k p0 = y := ⟨_, rfl⟩
    rw [hy] at HYN HLK HNE HSL HSA HSH HAT2
    have hwr2 : wrap64 ((k : Int) + 1) = (k : Int) + 1 := wrap_in (by omega)
    clear hyi hym hyc hy
    have hki : (k : Int) < (n : Int) := by omega
    have e0 := (HAT2.out wr HMD.out.g).2.1
    have x0 := cellW e0
    have f0 : World.cell? wr ⟨b, 0, none⟩ = some (.int .i64 p.q.src) := (BV3.out.ext HMD.out.g).cell 0
    have y0 := cellW f0
    clear e0 f0
    have hcase : (ai < k) ∨ k = ai ∨ k < ai := by omega
    rcases hcase with h1 | h1 | h1
    ·have HD := Lib.hid (decide_eq_true h1)
     have HDN := Lib.hid (show decide (ai < k + 1) = true from decide_eq_true (by omega))
     have HS := Lib.hid (HSH.out h1)
     rw [HD.out]
     clear h1
     go_upto_region 12 with fail
     refine wp_region_calm wr (by kernel_rfl) (by kernel_rfl) (Below.refl _ _) ?_
     repeat (go_big_quiet_step (fail))
     refine wpQuiet_nil ?_
     rintro _ ⟨z, rfl⟩
     have GQ := Lib.hid z.ok
     have HMZ := Lib.hid (HMD.out.ext GQ.out)
     clear x0 y0
     go_upto_region 15 with fail
     have HLLB := Lib.hid HLLA.out
     obtain ⟨hyi, e0, e1, e2, e3, e4, e5, e6, e7, e8⟩ := HAT2.out z.val HMZ.out.g
     have TC := Lib.hid (refCopied_any y z.val hyi HYN.out)
     clear hyi
     go_wp2_with (first
     | (go_at_call 117; (with_reducible refine (TC.out).mono ?_); rintro e WB ⟨⟨AB, cB, rfl, ho⟩, hg⟩; have HOB := Lib.hid ho; have HGB := Lib.hid hg; clear ho hg; have GXB := Lib.hid (one_more WB (.cells #[.int .i64 y.q.src, .int .i64 y.q.kind, .slice AB y.n cB, .int .i64 y.q.oth, .int .i64 y.q.par, .int .i64 y.q.day, .int .i64 y.q.thr, .int .i64 y.q.kno, .int .i64 y.q.unt] 56)); have IXB := Lib.hid (one_pf (x := ⟨y.q, AB, y.n, cB⟩) (Blk.new WB 56 #[.int .i64 y.q.src, .int .i64 y.q.kind, .slice AB y.n cB, .int .i64 y.q.oth, .int .i64 y.q.par, .int .i64 y.q.day, .int .i64 y.q.thr, .int .i64 y.q.kno, .int .i64 y.q.unt])); have HMXB := Lib.hid ((HMZ.out.ext HGB.out).ext GXB.out))
     | (at_builtin; go_loud ((refine wpList_app kdQ (by rfl) _ _ (by rfl) V3.heap.size _ ls (by rfl) HMXB.out.o1 _ 1 1 [⟨y.q, AB, y.n, cB⟩] (by rfl) IXB.out (by have := HLLB.out; omega) HMXB.out.g.size ?_); intro vB wB ho hgr hz; have HMF := Lib.hid (HMZ.out.push HGB.out HOB.out GXB.out ho hgr hz); clear ho hgr hz)))
     go_roundw
     case rel => exact ⟨k + 1, _, by omega, by go_num, by rw [HDN.out], HMF.out, by rw [List.map_append, HLS.out, HS.out]; rfl⟩
     case measure => simp [intOf]; omega
    ·have HD := Lib.hid (show decide (ai < k) = false from decide_eq_false (by omega))
     have HDN := Lib.hid (show decide (ai < k + 1) = true from decide_eq_true (by omega))
     have HS := Lib.hid (HSA.out h1)
     have hlt : p.q.src < y.q.src := by have h2 := HLK.out; have h3 := HNE.out; omega
     have hltd : decide (p.q.src < y.q.src) = true := decide_eq_true hlt
     rw [HD.out]
     clear h1 hlt
     go_upto_region 12 with fail
     refine wp_region_calm wr (by kernel_rfl) (by kernel_rfl) (Below.refl _ _) ?_
     repeat (go_big_quiet_step (fail))
     refine wpQuiet_nil ?_
     rintro _ ⟨z, rfl⟩
     have GQ := Lib.hid z.ok
     have HMZ := Lib.hid (HMD.out.ext GQ.out)
     clear x0 y0
     go_upto_region 13 with fail
     have k0 := ((BV3.out.ext HMZ.out.g)).cell 0
     have k1 := ((BV3.out.ext HMZ.out.g)).cell 1
     have k2 := ((BV3.out.ext HMZ.out.g)).cell 2
     have k3 := ((BV3.out.ext HMZ.out.g)).cell 3
     have k4 := ((BV3.out.ext HMZ.out.g)).cell 4
     have k5 := ((BV3.out.ext HMZ.out.g)).cell 5
     have k6 := ((BV3.out.ext HMZ.out.g)).cell 6
     have k7 := ((BV3.out.ext HMZ.out.g)).cell 7
     have k8 := ((BV3.out.ext HMZ.out.g)).cell 8
     have TD := Lib.hid (refCopied_any p z.val (HP3.out.below HMZ.out.g) hpn)
     go_upto_region 15 with (first
     | (go_at_call 117; (with_reducible refine (TD.out).mono ?_); rintro e WA ⟨⟨AA, cA, rfl, ho⟩, hg⟩; have HOA := Lib.hid ho; have HGA := Lib.hid hg; clear ho hg; have GXA := Lib.hid (one_more WA (.cells #[.int .i64 p.q.src, .int .i64 p.q.kind, .slice AA p.n cA, .int .i64 p.q.oth, .int .i64 p.q.par, .int .i64 p.q.day, .int .i64 p.q.thr, .int .i64 p.q.kno, .int .i64 p.q.unt] 56)); have IXA := Lib.hid (one_pf (x := ⟨p.q, AA, p.n, cA⟩) (Blk.new WA 56 #[.int .i64 p.q.src, .int .i64 p.q.kind, .slice AA p.n cA, .int .i64 p.q.oth, .int .i64 p.q.par, .int .i64 p.q.day, .int .i64 p.q.thr, .int .i64 p.q.kno, .int .i64 p.q.unt])); have HMXA := Lib.hid ((HMZ.out.ext HGA.out).ext GXA.out))
     | (at_builtin; go_loud ((refine wpList_app kdQ (by rfl) _ _ (by rfl) V3.heap.size _ ls (by rfl) HMXA.out.o1 _ 1 1 [⟨p.q, AA, p.n, cA⟩] (by rfl) IXA.out (by have := HLLA.out; omega) HMXA.out.g.size ?_); intro vA wA ho hgr hz; have HME := Lib.hid (HMZ.out.push HGA.out HOA.out GXA.out ho hgr hz); clear ho hgr hz)))
     clear k0 k1 k2 k3 k4 k5 k6 k7 k8
     have HLLB := Lib.hid (show (ls ++ [(⟨p.q, AA, p.n, cA⟩ : Pf)]).length ≤ 101 by rw [List.length_append, List.length_singleton]; have := HLLA.out; omega)
     have HLM := Lib.hid (show (ls ++ [(⟨p.q, AA, p.n, cA⟩ : Pf)]).map Pf.q = AK k ++ [p.q] by rw [List.map_append, HLS.out]; rfl)
     obtain ⟨lz, hlz⟩ : ∃ x, ls ++ [(⟨p.q, AA, p.n, cA⟩ : Pf)] = x := ⟨_, rfl⟩
     rw [hlz] at HME HLLB HLM
     clear hlz
     obtain ⟨hyi, e0, e1, e2, e3, e4, e5, e6, e7, e8⟩ := HAT2.out wA HME.out.g
     have TC := Lib.hid (refCopied_any y wA hyi HYN.out)
     clear hyi
     go_wp2_with (first
     | (go_at_call 117; (with_reducible refine (TC.out).mono ?_); rintro e WB ⟨⟨AB, cB, rfl, ho⟩, hg⟩; have HOB := Lib.hid ho; have HGB := Lib.hid hg; clear ho hg; have GXB := Lib.hid (one_more WB (.cells #[.int .i64 y.q.src, .int .i64 y.q.kind, .slice AB y.n cB, .int .i64 y.q.oth, .int .i64 y.q.par, .int .i64 y.q.day, .int .i64 y.q.thr, .int .i64 y.q.kno, .int .i64 y.q.unt] 56)); have IXB := Lib.hid (one_pf (x := ⟨y.q, AB, y.n, cB⟩) (Blk.new WB 56 #[.int .i64 y.q.src, .int .i64 y.q.kind, .slice AB y.n cB, .int .i64 y.q.oth, .int .i64 y.q.par, .int .i64 y.q.day, .int .i64 y.q.thr, .int .i64 y.q.kno, .int .i64 y.q.unt])); have HMXB := Lib.hid ((HME.out.ext HGB.out).ext GXB.out))
     | (at_builtin; go_loud ((refine wpList_app kdQ (by rfl) _ _ (by rfl) V3.heap.size _ lz (by rfl) HMXB.out.o1 _ 1 1 [⟨y.q, AB, y.n, cB⟩] (by rfl) IXB.out (by have := HLLB.out; omega) HMXB.out.g.size ?_); intro vB wB ho hgr hz; have HMF := Lib.hid (HME.out.push HGB.out HOB.out GXB.out ho hgr hz); clear ho hgr hz)))
     go_roundw
     case rel => exact ⟨k + 1, _, by omega, by go_num, by rw [HDN.out], HMF.out, by rw [List.map_append, HLM.out, HS.out]; rfl⟩
     case measure => simp [intOf]; omega
    ·have HD := Lib.hid (show decide (ai < k) = false from decide_eq_false (by omega))
     have HDN := Lib.hid (show decide (ai < k + 1) = false from decide_eq_false (by omega))
     have HS := Lib.hid (HSL.out h1)
     have hlt : ¬ p.q.src < y.q.src := by have h2 := HLK.out; omega
     have hltd : decide (p.q.src < y.q.src) = false := decide_eq_false hlt
     rw [HD.out]
     clear h1 hlt
     go_upto_region 12 with fail
     refine wp_region_calm wr (by kernel_rfl) (by kernel_rfl) (Below.refl _ _) ?_
     repeat (go_big_quiet_step (fail))
     refine wpQuiet_nil ?_
     rintro _ ⟨z, rfl⟩
     have GQ := Lib.hid z.ok
     have HMZ := Lib.hid (HMD.out.ext GQ.out)
     clear x0 y0
     go_upto_region 15 with fail
     have HLLB := Lib.hid HLLA.out
     obtain ⟨hyi, e0, e1, e2, e3, e4, e5, e6, e7, e8⟩ := HAT2.out z.val HMZ.out.g
     have TC := Lib.hid (refCopied_any y z.val hyi HYN.out)
     clear hyi
     go_wp2_with (first
     | (go_at_call 117; (with_reducible refine (TC.out).mono ?_); rintro e WB ⟨⟨AB, cB, rfl, ho⟩, hg⟩; have HOB := Lib.hid ho; have HGB := Lib.hid hg; clear ho hg; have GXB := Lib.hid (one_more WB (.cells #[.int .i64 y.q.src, .int .i64 y.q.kind, .slice AB y.n cB, .int .i64 y.q.oth, .int .i64 y.q.par, .int .i64 y.q.day, .int .i64 y.q.thr, .int .i64 y.q.kno, .int .i64 y.q.unt] 56)); have IXB := Lib.hid (one_pf (x := ⟨y.q, AB, y.n, cB⟩) (Blk.new WB 56 #[.int .i64 y.q.src, .int .i64 y.q.kind, .slice AB y.n cB, .int .i64 y.q.oth, .int .i64 y.q.par, .int .i64 y.q.day, .int .i64 y.q.thr, .int .i64 y.q.kno, .int .i64 y.q.unt])); have HMXB := Lib.hid ((HMZ.out.ext HGB.out).ext GXB.out))
     | (at_builtin; go_loud ((refine wpList_app kdQ (by rfl) _ _ (by rfl) V3.heap.size _ ls (by rfl) HMXB.out.o1 _ 1 1 [⟨y.q, AB, y.n, cB⟩] (by rfl) IXB.out (by have := HLLB.out; omega) HMXB.out.g.size ?_); intro vB wB ho hgr hz; have HMF := Lib.hid (HMZ.out.push HGB.out HOB.out GXB.out ho hgr hz); clear ho hgr hz)))
     go_roundw
     case rel => exact ⟨k + 1, _, by omega, by go_num, by rw [HDN.out], HMF.out, by rw [List.map_append, HLS.out, HS.out]; rfl⟩
     case measure => simp [intOf]; omega
   ·obtain rfl : k = n := by omega
    have HBX := Lib.hid (BV3.out.ext HMD.out.g)
    by_cases h1 : ai < k
    ·have hdd : decide (ai < k) = true := decide_eq_true h1
     have HL := Lib.hid (HLS.out.trans (HKF.out h1))
     clear h1
     rw [hdd]
     go_upto_region 18 with fail
     obtain ⟨A9, c9, e9, -, -, hp9⟩ := HMD.out.prf
     subst e9
     have HP9 := Lib.hid hp9
     have HL9 := Lib.hid (show ls.length ≤ 1000 by have := HALN.out; rw [← HL.out, List.length_map] at this; omega)
     have T9 := refCheck_any A9 ls.length c9 ls _ HP9.out (by have := HL9.out; omega)
     rw [HL.out] at T9
     obtain ⟨ok2, hok2⟩ : ∃ b, okL AL = b := ⟨_, rfl⟩
     rw [hok2] at T9 HAE4
     obtain ⟨ln9, hln9⟩ : ∃ x, ls.length = x := ⟨_, rfl⟩
     rw [hln9] at T9 HP9 HL9 ⊢
     clear hp9 hok2 hln9
     cases ok2 with
     | false =>
      rw [show err false 21 = 21 from rfl] at T9
      have C9 := Lib.hid T9
      obtain rfl : ae = 2 := by rw [HAE4.out, if_neg (by decide)]
      clear T9
      go_wp2_with (go_at_call 65; (with_reducible refine (C9.out).mono ?_); rintro e V9 ⟨rfl, hg⟩; have GV9 := Lib.hid hg; clear hg)
      go_ret2
      exact prfEnd_no (by decide) (G1.out.trans ((GV3.out.trans ((HMD.out.g.trans (GV9.out.mono HMD.out.g.size)).mono GV3.out.size)).mono G1.out.size))
     | true =>
      rw [show err true 21 = 0 from rfl] at T9
      have C9 := Lib.hid T9
      obtain rfl : ae = 0 := by rw [HAE4.out, if_pos rfl]
      clear T9
      go_wp2_with (go_at_call 65; (with_reducible refine (C9.out).mono ?_); rintro e V9 ⟨rfl, hg⟩; have GV9 := Lib.hid hg; clear hg)
      go_ret2
      exact ⟨A9, _, c9, ls, rfl, HP9.out.below GV9.out, by rw [if_pos rfl]; exact HL.out, HL9.out, G1.out.trans ((GV3.out.trans ((HMD.out.g.trans (GV9.out.mono HMD.out.g.size)).mono GV3.out.size)).mono G1.out.size)⟩
    ·have hdd : decide (ai < k) = false := decide_eq_false h1
     have HKE2 := Lib.hid (HKE.out (by omega))
     rw [hdd]
     clear h1
     go_upto_region 17 with fail
     have k0 := HBX.out.cell 0
     have k1 := HBX.out.cell 1
     have k2 := HBX.out.cell 2
     have k3 := HBX.out.cell 3
     have k4 := HBX.out.cell 4
     have k5 := HBX.out.cell 5
     have k6 := HBX.out.cell 6
     have k7 := HBX.out.cell 7
     have k8 := HBX.out.cell 8
     have TD := Lib.hid (refCopied_any p wr (HP3.out.below HMD.out.g) hpn)
     go_upto_region 18 with (first
     | (go_at_call 117; (with_reducible refine (TD.out).mono ?_); rintro e WA ⟨⟨AA, cA, rfl, ho⟩, hg⟩; have HOA := Lib.hid ho; have HGA := Lib.hid hg; clear ho hg; have GXA := Lib.hid (one_more WA (.cells #[.int .i64 p.q.src, .int .i64 p.q.kind, .slice AA p.n cA, .int .i64 p.q.oth, .int .i64 p.q.par, .int .i64 p.q.day, .int .i64 p.q.thr, .int .i64 p.q.kno, .int .i64 p.q.unt] 56)); have IXA := Lib.hid (one_pf (x := ⟨p.q, AA, p.n, cA⟩) (Blk.new WA 56 #[.int .i64 p.q.src, .int .i64 p.q.kind, .slice AA p.n cA, .int .i64 p.q.oth, .int .i64 p.q.par, .int .i64 p.q.day, .int .i64 p.q.thr, .int .i64 p.q.kno, .int .i64 p.q.unt])); have HMXA := Lib.hid ((HMD.out.ext HGA.out).ext GXA.out))
     | (at_builtin; go_loud ((refine wpList_app kdQ (by rfl) _ _ (by rfl) V3.heap.size _ ls (by rfl) HMXA.out.o1 _ 1 1 [⟨p.q, AA, p.n, cA⟩] (by rfl) IXA.out (by have := HLLA.out; omega) HMXA.out.g.size ?_); intro vA wA ho hgr hz; have HME := Lib.hid (HMD.out.push HGA.out HOA.out GXA.out ho hgr hz); clear ho hgr hz)))
     clear k0 k1 k2 k3 k4 k5 k6 k7 k8
     have HL := Lib.hid (show (ls ++ [(⟨p.q, AA, p.n, cA⟩ : Pf)]).map Pf.q = AL by rw [List.map_append, HLS.out, ← HKE2.out]; rfl)
     obtain ⟨lz, hlz⟩ : ∃ x, ls ++ [(⟨p.q, AA, p.n, cA⟩ : Pf)] = x := ⟨_, rfl⟩
     rw [hlz] at HME HL
     clear hlz
     obtain ⟨A9, c9, e9, -, -, hp9⟩ := HME.out.prf
     subst e9
     have HP9 := Lib.hid hp9
     have HL9 := Lib.hid (show lz.length ≤ 1000 by have := HALN.out; rw [← HL.out, List.length_map] at this; omega)
     have T9 := refCheck_any A9 lz.length c9 lz _ HP9.out (by have := HL9.out; omega)
     rw [HL.out] at T9
     obtain ⟨ok2, hok2⟩ : ∃ b, okL AL = b := ⟨_, rfl⟩
     rw [hok2] at T9 HAE4
     obtain ⟨ln9, hln9⟩ : ∃ x, lz.length = x := ⟨_, rfl⟩
     rw [hln9] at T9 HP9 HL9 ⊢
     clear hp9 hok2 hln9
     cases ok2 with
     | false =>
      rw [show err false 21 = 21 from rfl] at T9
      have C9 := Lib.hid T9
      obtain rfl : ae = 2 := by rw [HAE4.out, if_neg (by decide)]
      clear T9
      go_wp2_with (go_at_call 65; (with_reducible refine (C9.out).mono ?_); rintro e V9 ⟨rfl, hg⟩; have GV9 := Lib.hid hg; clear hg)
      go_ret2
      exact prfEnd_no (by decide) (G1.out.trans ((GV3.out.trans ((HME.out.g.trans (GV9.out.mono HME.out.g.size)).mono GV3.out.size)).mono G1.out.size))
     | true =>
      rw [show err true 21 = 0 from rfl] at T9
      have C9 := Lib.hid T9
      obtain rfl : ae = 0 := by rw [HAE4.out, if_pos rfl]
      clear T9
      go_wp2_with (go_at_call 65; (with_reducible refine (C9.out).mono ?_); rintro e V9 ⟨rfl, hg⟩; have GV9 := Lib.hid hg; clear hg)
      go_ret2
      exact ⟨A9, _, c9, lz, rfl, HP9.out.below GV9.out, by rw [if_pos rfl]; exact HL.out, HL9.out, G1.out.trans ((GV3.out.trans ((HME.out.g.trans (GV9.out.mono HME.out.g.size)).mono GV3.out.size)).mono G1.out.size)⟩
end Go.Proofs.YtehhlgdkhecacaaGreat

namespace Go.Proofs.YtehhlgdkhecacaaGreat
open Go.RowKit Go.Shelf
theorem step_copy_runQ {ops : Array Oper} {o : Oper} {a : Act} {w : World} {K : Act → World → Prop} {Q : Exit → Act → World → Prop} {E : Prop}
  (hg : o.guard = none) (d x : Operand) (dT sT : TypeId) (hop : o.op = Op.call { callee := Callee.builtin Builtin.copy, args := #[d, x], argTypes := #[dT, sT] })
  (v u : Value) (hd : a.eval d = v) (hx : a.eval x = u) {v' : Value} {w' : World} (hr : (Builtin.copy_ #[dT, sT] o.type #[v, u]).run Tryz.prog w = .ok v' w') (hK : K (a.put o.dst v') w') :
  if Region.wanted o (yielded ops a.tmps) = true then Oper.wp Tryz.prog o a w K Q else E := by
 have hw : Region.wanted o (yielded ops a.tmps) = true := by simp [Region.wanted, hg]
 rw [if_pos hw]
 unfold Oper.wp
 simp [execOp, hop, resolve, invoke, builtin, hd, hx, hr, Result.andThen]
 exact hK
set_option maxRecDepth 100000 in
set_option maxHeartbeats 4000000 in
theorem insert_last {base bx : Nat} {v : Value} {l : List Pf} (x : Pf) (w : World) (h : OwnL pcells 9 56 w base v l) (hl : l.length ≤ 1000) (hx : Arr pcells 9 w (some ⟨bx, 0, none⟩) 1 [x]) (hb : base ≤ w.heap.size) :
  Calls Tryz.prog 115 #[v, .int .i64 l.length, .slice (some ⟨bx, 0, none⟩) 1 1] w fun e w' => ∃ v', e = .returned v' ∧ OwnL pcells 9 56 w' base v' (l ++ [x]) ∧ w.grownBy w' v.ownBlock := by
 obtain ⟨A, c, hv, hk, hq, -, -⟩ := OwnL.arr kdQ h
 obtain ⟨n, hn⟩ : ∃ n, l.length = n := ⟨_, rfl⟩
 unfold maxLen at hq
 have HLL := Lib.hid (show l.length + 1 ≤ 1000000 by omega)
 rw [hn] at hv hk hl ⊢
 subst hv
 have H := Lib.hid h
 have HX := Lib.hid hx
 have HB := Lib.hid hb
 clear h hx hb hn
 go_enter Tryz.func115, Tryz.ntmps115
 go_upto_region 7 with fail
 go_wp2_with (at_builtin; go_loud (refine wpList_app kdQ (by rfl) _ _ (by rfl) base _ l (by rfl) H.out _ 1 1 [x] (by rfl) HX.out HLL.out HB.out ?_); intro v' w' ho hgr hz; have HO := Lib.hid ho; have HGR := Lib.hid hgr; clear ho hgr hz)
 all_goals (go_ret)
 all_goals first | exact ⟨_, rfl, HO.out, HGR.out⟩ | (cases ‹c = n›; exact ⟨_, rfl, HO.out, HGR.out⟩)
set_option maxRecDepth 100000 in
set_option maxHeartbeats 8000000 in
theorem insGrow_any {base g n bx : Nat} {l : List Pf} (x : Pf) (i : Nat) (w : World) (h : OwnL pcells 9 56 w base (.slice (some ⟨g, 0, none⟩) n n) l) (hl : n ≤ 1000) (hx : Blk w bx 56 (pb x)) (hi : i < n) (hbase : base ≤ w.heap.size) :
  Calls Tryz.prog 115 #[.slice (some ⟨g, 0, none⟩) n n, .int .i64 i, .slice (some ⟨bx, 0, none⟩) 1 1] w fun e w' => ∃ G : Nat, e = .returned (.slice (some ⟨w.heap.size, 0, none⟩) (n + 1 : Nat) G) ∧ OwnL pcells 9 56 w' base (.slice (some ⟨w.heap.size, 0, none⟩) (n + 1) G) (l.take i ++ x :: l.drop i) ∧ Fix g g w w' := by
 obtain ⟨hn0, hb, cur, hg, hnc, hcm, hs, ht⟩ := own_inv h
 unfold maxLen at hcm
 obtain ⟨i0, hi0, hz0, hzs, hzb⟩ := info_parts kdQ.hi
 have hz1 : ¬ ((1 : Int) = 0) := by omega
 have hz2 : ¬ ((i : Int) = (n : Int)) := by omega
 have hw2 : wrap64 ((n : Int) + 1) = (n : Int) + 1 := by unfold wrap64; omega
 have hw5 : wrap64 ((n : Int) + 1 - (i : Int)) = (n : Int) + 1 - (i : Int) := by unfold wrap64; omega
 have hw3 : IntKind.i64.wrap ((i : Int) + 1) = (i : Int) + 1 := by rw [IntKind.wrap_i64]; omega
 have hb1 : (0 : Int) ≤ (i : Int) + 1 := by omega
 have htn : ((i : Int) + 1).toNat = i + 1 := by omega
 have hin : i ≤ n := by omega
 have hb3 : (i : Int) ≤ (n : Int) := by omega
 have mixed : Tryz.prog.follows Departure.mixedOrders = true := by kernel_rfl
 have hsz : (Tryz.prog.info? 56).map (·.size) = some 9 := by rw [hi0]; simp [hzs]
 have hbw : g < w.heap.size := hg.lt
 have hvw : bx < w.heap.size := hx.lt
 have hkk : (n : Int) + 1 - (i : Int) = ((n + 1 - i : Nat) : Int) := by omega
 have hik : i + (n + 1 - i) = n + 1 := by omega
 obtain ⟨F, hF⟩ : ∃ F, (l.take i).flatMap pcells = F := ⟨_, rfl⟩
 have hFl : F.length = i * 9 := by rw [← hF, flat_len pcells_len, List.length_take]; congr 1; omega
 have hold : (Builtin.firstCells i0.size i (.slice (some ⟨g, 0, none⟩) i n)).run Tryz.prog w.drew = .ok F.toArray w.drew := by
  rw [hzs]
  exact run_firstCells_some w.drew 9 i ⟨g, 0, none⟩ i n F (by rw [hFl]) (fun j v hj => by
   rw [Addr.add_lit, Nat.zero_add]
   refine blk_cell (blk_drew hg) ?_
   rw [← hF, ← flat_take pcells_len, ← ht, List.take_take, List.getElem?_take] at hj
   split at hj
   ·exact hj
   ·cases hj)
 obtain ⟨Z, hZ⟩ : ∃ Z, (Value.agg #[.int .i64 0, .int .i64 0, .slice none 0 0, .int .i64 0, .int .i64 0, .int .i64 0, .int .i64 0, .int .i64 0, .int .i64 0]).cells = Z := ⟨_, rfl⟩
 have hZs : Z.size = 9 := by rw [← hZ]; exact kdQ.hz
 have hrz : ∀ ty, (Builtin.append_ #[22, 3] ty #[.slice (some ⟨g, 0, none⟩) i n, .int .i64 ((n : Int) + 1 - (i : Int))]).run Tryz.prog w =
   .ok (.slice (some ⟨w.heap.size, 0, none⟩) (n + 1) (grownCap w (n + 1) n 56)) (w.drew.alloc (.cells (F.toArray ++ Builtin.zeroCells Z (n + 1 - i) ++ Builtin.zeroCells Z (grownCap w (n + 1) n 56 - (n + 1))) 56)) := fun ty => by
  have h := Lib.run_append_grow_zeros w 22 3 ty 56 i0 _ .i64 .i64 kdQ.ht (by kernel_rfl) hi0 hz0 (some ⟨g, 0, none⟩) i n F hold (n + 1 - i) (by omega) (by omega) (by omega) (by omega) (by rw [hzb]; omega) (by rw [hzb, hik]; exact growslice_fits (by omega) (by omega))
  rw [hik, hZ] at h
  rw [hkk]
  exact h
 obtain ⟨G, hG⟩ : ∃ G, G = grownCap w (n + 1) n 56 := ⟨_, rfl⟩
 obtain ⟨ROW, hROW⟩ : ∃ ROW : Array Value, ROW = F.toArray ++ Builtin.zeroCells Z (n + 1 - i) ++ Builtin.zeroCells Z (G - (n + 1)) := ⟨_, rfl⟩
 rw [← hG, ← hROW] at hrz
 have hGn : n + 1 ≤ G := by rw [hG]; exact grownCap_ge w _ _ _
 have hGm : G ≤ maxLen := by rw [hG]; exact grownCap_le_maxLen w (n + 1) n 56 (by unfold maxLen; omega)
 have hG63 : G ≤ 9223372036854775807 := by
  have := hGm
  unfold maxLen at this
  omega
 have hRs : ROW.size = G * 9 := by
  rw [hROW]
  simp [Builtin.zeroCells, hFl, hZs]
  omega
 have hRF : ROW.toList.take (i * 9) = F := by
  rw [hROW, Array.toList_append, Array.toList_append, List.append_assoc, ← hFl]
  exact List.take_left
 obtain ⟨cs, hcs⟩ : ∃ cs, (l.drop i).flatMap pcells = cs := ⟨_, rfl⟩
 have hcl : cs.length = (n - i) * 9 := by rw [← hcs, flat_len pcells_len, List.length_drop, hn0]
 have hcat : ∀ j v, cs[j]? = some v → cur.toList[i * 9 + j]? = some v := fun j v hj => by
  rw [← hcs, ← flat_drop pcells_len, ← ht, List.getElem?_drop] at hj
  rw [List.getElem?_take] at hj
  split at hj
  ·exact hj
  ·cases hj
 have h1cs : ∀ v ∈ cs, v.oneCell' = true := fun v hv => by
  rw [← hcs] at hv
  obtain ⟨y, -, hy⟩ := List.mem_flatMap.1 hv
  exact pcells_one y v hy
 have hBW : Blk (w.drew.alloc (.cells ROW 56)) w.heap.size 56 ROW := Blk.new w.drew _ _
 have hXW : Blk (w.drew.alloc (.cells ROW 56)) bx 56 (pb x) := (blk_drew hx).alloc _
 have hGW : Blk (w.drew.alloc (.cells ROW 56)) g 56 cur := (blk_drew hg).alloc _
 have hf1 : i * 9 + (pcells x).length ≤ ROW.size := by rw [pcells_len, hRs]; omega
 have hcpA : ∀ ty dc, (Builtin.copy_ #[22, 22] ty #[.slice (some ⟨w.heap.size, i * 9, none⟩) (n + 1 - i) dc, .slice (some ⟨bx, 0, none⟩) 1 1]).run Tryz.prog (w.alloc (.cells ROW 56)).drew = .ok (goInt (1 : Nat)) ((w.alloc (.cells ROW 56)).drew.setCells w.heap.size (i * 9) (pcells x)) := fun ty dc => by
  have := run_copy_many (w.alloc (.cells ROW 56)).drew 22 22 ty 56 9 w.heap.size (i * 9) (n + 1 - i) dc ⟨bx, 0, none⟩ 1 1 (pcells x) kdQ.ht hsz (by rw [pcells_len]; simp only [Nat.min_def]; split <;> omega)
   (fun j v hj => by rw [Addr.add_lit, Nat.zero_add]; exact blk_cell hXW hj) (fun j hj => blk_some hBW (by omega)) (fun j _ => blk_frozen hBW _) (pcells_one x)
  rwa [show Nat.min 1 (n + 1 - i) = 1 by simp only [Nat.min_def]; split <;> omega] at this
 obtain ⟨W1, hW1⟩ : ∃ W1, (w.alloc (.cells ROW 56)).drew.setCells w.heap.size (i * 9) (pcells x) = W1 := ⟨_, rfl⟩
 have hB1 : Blk W1 w.heap.size 56 (lput ROW.toList (i * 9) (pcells x)).toArray := by rw [← hW1]; exact blk_setCells hBW hf1
 have hs1 : (lput ROW.toList (i * 9) (pcells x)).toArray.size = G * 9 := by rw [List.size_toArray, lput_len (by rw [Array.length_toList]; exact hf1), Array.length_toList, hRs]
 have hfA := fix_setCells (g := w.heap.size) (pcells x) (i * 9) (w.alloc (.cells ROW 56)).drew
 rw [hW1] at hfA
 have hG1 : Blk W1 g 56 cur := by
  unfold Blk
  rw [hfA.block g (by have := hGW.lt; exact this) (by omega) (by omega)]
  exact hGW
 have hf2 : (i + 1) * 9 + cs.length ≤ (lput ROW.toList (i * 9) (pcells x)).toArray.size := by rw [hs1, hcl]; omega
 have hcpB : ∀ ty dc sc, (Builtin.copy_ #[22, 22] ty #[.slice (some ⟨w.heap.size, (i + 1) * 9, none⟩) (n - i) dc, .slice (some ⟨g, i * 9, none⟩) (n - i) sc]).run Tryz.prog W1.drew = .ok (goInt (n - i : Nat)) (W1.drew.setCells w.heap.size ((i + 1) * 9) cs) := fun ty dc sc => by
  have := run_copy_many W1.drew 22 22 ty 56 9 w.heap.size ((i + 1) * 9) (n - i) dc ⟨g, i * 9, none⟩ (n - i) sc cs kdQ.ht hsz (by rw [hcl]; congr 1; simp only [Nat.min_def]; split <;> omega)
   (fun j v hj => by rw [Addr.add_lit]; exact blk_cell (blk_drew hG1) (hcat j v hj)) (fun j hj => blk_some (blk_drew hB1) (by omega)) (fun j _ => blk_frozen (blk_drew hB1) _) h1cs
  rwa [show Nat.min (n - i) (n - i) = n - i from Nat.min_self _] at this
 have HEND := Lib.hid (show OwnL pcells 9 56 (W1.drew.setCells w.heap.size ((i + 1) * 9) cs) base (.slice (some ⟨w.heap.size, 0, none⟩) (n + 1) G) (l.take i ++ x :: l.drop i) by
  refine own_mk pcells_len (by rw [List.length_append, List.length_take, List.length_cons, List.length_drop]; omega) hbase (blk_setCells (blk_drew hB1) hf2) hGn hGm ?_ ?_
  ·rw [List.size_toArray, lput_len (by simpa using hf2), ← List.size_toArray, hs1]
  ·show (lput (lput ROW.toList (i * 9) (pcells x)) ((i + 1) * 9) cs).take ((n + 1) * 9) = _
   have e1 : (lput ROW.toList (i * 9) (pcells x)).take ((i + 1) * 9) = F ++ pcells x := by
    unfold lput
    rw [hRF, List.take_left' (by rw [List.length_append, hFl, pcells_len]; omega)]
   rw [List.flatMap_append, List.flatMap_cons, hcs, hF]
   unfold lput at e1 ⊢
   rw [e1, List.take_left' (by rw [List.length_append, List.length_append, hFl, pcells_len, hcl]; omega), List.append_assoc])
 have HFX := Lib.hid (show Fix g g w (W1.drew.setCells w.heap.size ((i + 1) * 9) cs) from by
  have h2 := fix_setCells (g := w.heap.size) cs ((i + 1) * 9) W1.drew
  refine ⟨h2.os.trans hfA.os, h2.tape.trans hfA.tape, h2.output.trans hfA.output, ?_, fun k hk h3 _ => ?_⟩
  ·have e1 := hfA.size
   have e2 := h2.size
   have e3 : (w.alloc (.cells ROW 56)).drew.heap.size = w.heap.size + 1 := Array.size_push _
   have e4 : W1.drew.heap.size = W1.heap.size := rfl
   omega
  ·have e1 := hfA.size
   have e3 : (w.alloc (.cells ROW 56)).drew.heap.size = w.heap.size + 1 := Array.size_push _
   rw [h2.block k (show k < W1.heap.size by omega) (by omega) (by omega)]
   show W1.heap[k]? = _
   rw [hfA.block k (by omega) (by omega) (by omega)]
   exact (one_more w (.cells ROW 56)).block k hk)
 have hci : ¬ (n = i) := by omega
 have hGi : ¬ (G = i) := by omega
 have hGim : ¬ (G = i + 1) := by omega
 clear h hx hg ht hs hn0 hkk hik hold hROW hG hRs hRF hcat h1cs hBW hXW hGW hf1 hf2 hB1 hs1 hfA hG1 hF hFl hZ hZs hz0 hzs hzb hi0 hcl hcs
 go_enter Tryz.func115, Tryz.ntmps115
 go_wp2_with (first
  | (at_builtin; refine Lib.wpList_append_run _ rfl _ _ _ _ rfl _ _ rfl rfl _ _ (hrz _) ?_)
  | (at_builtin; refine wpList_copy_runQ _ rfl _ _ 22 22 rfl _ _ rfl rfl (hcpA _ _) ?_; rw [hW1]))
 go_region_law_o (refine step_copy_runQ rfl _ _ 22 22 rfl _ _ (by simp [Act.eval, Act.put]) (by simp [Act.eval, Act.put]) (hcpB _ _ _) ?_)
 go_wp2
 go_ret
 exact ⟨_, rfl, HEND.out, HFX.out⟩
end Go.Proofs.YtehhlgdkhecacaaGreat

namespace Go.Proofs.YtehhlgdkhecacaaGreat
open Go.RowKit Go.Shelf
theorem Below.allo8 {B : Nat} {V X : World} (h : Below B V X) (hB : B ≤ X.heap.size) (o : Obj) : Below B V (X.alloc o) := h.trans ((one_more X o).mono hB)
theorem insP_add (l : List Pf) (s : Int) : insP l s = addI (l.map Pf.q) s := by
 unfold insP addI
 rw [List.countP_map]; rfl
/-- What Insert returns. -/
def InsEnd (L : List Qf) (X : World) (e : Ending) (w' : World) : Prop := ∃ A m G l2, e = .returned (.slice A m G) ∧ Prf w' A m l2 ∧ l2.map Pf.q = L ∧ Below X.heap.size X w'
theorem CopP.lt {w : World} {base g n c : Nat} {l : List Qf} (h : CopP w base g n c l) : base ≤ g ∧ g < w.heap.size := by
 obtain ⟨l', ho, -⟩ := h
 obtain ⟨-, hb, cur, hc, -⟩ := own_inv ho.own
 exact ⟨hb, hc.lt⟩
theorem CopP.ext {w w' : World} {base g n c : Nat} {l : List Qf} (h : CopP w base g n c l) (k : Below w.heap.size w w') : CopP w' base g n c l := by
 obtain ⟨l', ho, hq⟩ := h
 exact ⟨l', ho.ext k, hq⟩
theorem CopP.mono {w : World} {base base' g n c : Nat} {l : List Qf} (h : CopP w base g n c l) (hb : base' ≤ base) : CopP w base' g n c l := by
 obtain ⟨l', ho, hq⟩ := h
 exact ⟨l', ⟨ho.own.mono hb, ho.per⟩, hq⟩
theorem insCop_any {X W : World} {g n bx : Nat} {lq : List Qf} (x : Pf) (i : Nat) (h : CopP W X.heap.size g n n lq) (hn : n ≤ 1000) (hx : Blk W bx 56 (pb x)) (hpi : PI W x) (hxg : ∀ a, x.A = some a → a.block ≠ g) (hi : i ≤ n) (hX : Below X.heap.size X W) :
  Calls Tryz.prog 115 #[.slice (some ⟨g, 0, none⟩) n n, .int .i64 i, .slice (some ⟨bx, 0, none⟩) 1 1] W (InsEnd (lq.take i ++ x.q :: lq.drop i) X) := by
 obtain ⟨l', ho, hq⟩ := h
 have hl' : l'.length = n := ho.prf.len
 have hgX : X.heap.size ≤ g := (own_inv ho.own).2.1
 have hmap : (l'.take i ++ x :: l'.drop i).map Pf.q = lq.take i ++ x.q :: lq.drop i := by rw [List.map_append, List.map_cons, List.map_take, List.map_drop, hq]
 have hper : ∀ p ∈ l'.take i ++ x :: l'.drop i, PI W p ∧ ∀ a, p.A = some a → a.block ≠ g := fun p hp => by
  rw [List.mem_append, List.mem_cons] at hp
  rcases hp with hp | rfl | hp
  ·exact ho.per p (List.mem_of_mem_take hp)
  ·exact ⟨hpi, hxg⟩
  ·exact ho.per p (List.mem_of_mem_drop hp)
 rcases Nat.lt_or_ge i n with h1 | h1
 ·refine (insGrow_any x i W ho.own hn hx h1 hX.size).mono ?_
  rintro e w' ⟨G, rfl, hown, hf⟩
  obtain ⟨A, c, e2, -, -, hp⟩ := own_prf hown (fun p hp => ⟨ints_fix (hper p hp).1.i (hper p hp).2 hf, (hper p hp).1.m⟩)
  exact ⟨A, _, c, _, congrArg Ending.returned e2, hp, hmap, hX.trans (hf.low hgX hX.size)⟩
 ·obtain rfl : i = n := by omega
  subst hl'
  rw [List.take_length, List.drop_length] at hmap hper
  refine (insert_last x W ho.own hn (one_pf hx) hX.size).mono ?_
  rintro e w' ⟨v', rfl, hown, hgr⟩
  obtain ⟨A, c, e2, -, -, hp⟩ := own_prf hown (fun p hp => ⟨ints_grown (hper p hp).1.i (fun a e => fun e3 => (hper p hp).2 a e (by cases e3; rfl)) hgr, (hper p hp).1.m⟩)
  exact ⟨A, _, c, _, congrArg Ending.returned e2, hp, hmap, hX.trans (ho.own.below hgr (Nat.le_refl _) hX.size)⟩
set_option maxRecDepth 100000 in
set_option maxHeartbeats 16000000 in
theorem addF_any (A : Option Addr) (n c : Nat) (l : List Pf) (p : Pf) (w : World) (ha : Prf w A n l) (hn : n ≤ 9223372036854775807) (hp : PI w p) :
  Calls Tryz.prog 57 #[.slice A n c, pv p] w (PrfEnd (addL (l.map Pf.q) p.q) (addE (l.map Pf.q) p.q) w) := by
 obtain ⟨b, hb⟩ : ∃ b, w.heap.size = b := ⟨_, rfl⟩
 obtain ⟨W1, hW1⟩ : ∃ X, w.alloc (.cells #[.int .i64 p.q.src, .int .i64 p.q.kind, .slice p.A p.n p.c, .int .i64 p.q.oth, .int .i64 p.q.par, .int .i64 p.q.day, .int .i64 p.q.thr, .int .i64 p.q.kno, .int .i64 p.q.unt] 56) = X := ⟨_, rfl⟩
 have G1 := Lib.hid (show Below w.heap.size w W1 by rw [← hW1]; exact one_more _ _)
 have B1 := Lib.hid (show Blk W1 b 56 #[.int .i64 p.q.src, .int .i64 p.q.kind, .slice p.A p.n p.c, .int .i64 p.q.oth, .int .i64 p.q.par, .int .i64 p.q.day, .int .i64 p.q.thr, .int .i64 p.q.kno, .int .i64 p.q.unt] by rw [← hW1, ← hb]; exact Blk.new _ _ _)
 have HW1 := Lib.hid hW1
 have HB := Lib.hid hb
 have HA0 := Lib.hid ha
 have HA := Lib.hid (ha.below G1.out)
 have HPI := Lib.hid (hp.below G1.out)
 have hlen := Lib.hid ha.len
 have TC := check_any A n c l W1 HA.out hn
 have TP := Lib.hid (fun W (g : Below W1.heap.size W1 W) => isProof_any p W (HPI.out.below g))
 have HOK := Lib.hid (fun (h : okL (l.map Pf.q) = true) => (show n ≤ 60 ∧ (∀ p ∈ l, 1 ≤ p.n ∧ p.n ≤ 1000000) ∧ addI (l.map Pf.q) p.q.src ≤ n ∧ fndP l p.q.src = decide (p.q.src ∈ srcL (l.map Pf.q)) ∧ (∀ i j, i < j → j < l.length → (l.getD i p0).q.src < (l.getD j p0).q.src) by
  have h1 := okL_len h
  rw [List.length_map, ha.len] at h1
  obtain ⟨i1, i2⟩ := addI_spec (okL_src h) p.q.src
  rw [List.length_map, ha.len] at i1
  refine ⟨by omega, fun p hp => ?_, i1, fndP_iff h, ok_rise h⟩
  have h2 := isQf_per (okL_all h _ (List.mem_map.2 ⟨p, hp, rfl⟩))
  have h3 := (ha.p p hp).len
  omega))
 have HPN := Lib.hid (fun (h : isQf p.q = true) => (show p.n ≤ 1000000 by have h1 := isQf_per h; have h2 := hp.len; omega))
 have HPL := Lib.hid hp.len
 have TF := Lib.hid (fun (h : n ≤ 60) hl W (g : Below W1.heap.size W1 W) => find_any A n c l p.q.src W (HA.out.below g) (by omega) hl)
 have TCP := Lib.hid (fun (h : n ≤ 60) hq W (g : Below w.heap.size w W) => copied_any A n c l W (HA0.out.below g) (by omega) hq)
 have HAE := Lib.hid (show addE (l.map Pf.q) p.q = if okL (l.map Pf.q) = true then (if isQf p.q = true then (if p.q.src ∈ srcL (l.map Pf.q) then 22 else if okL (addL (l.map Pf.q) p.q) = true then 0 else 2) else 20) else 21 from rfl)
 have HALN := Lib.hid (show (addL (l.map Pf.q) p.q).length = n + 1 by rw [addL_len, List.length_map, ha.len])
 have HADD := Lib.hid (show (l.map Pf.q).take (addI (l.map Pf.q) p.q.src) ++ p.q :: (l.map Pf.q).drop (addI (l.map Pf.q) p.q.src) = addL (l.map Pf.q) p.q from rfl)
 have HINS := Lib.hid (insP_add l p.q.src)
 obtain ⟨ok, hok⟩ : ∃ b, okL (l.map Pf.q) = b := ⟨_, rfl⟩
 rw [hok] at TC HOK HAE
 obtain ⟨qp, hqp⟩ : ∃ b, isQf p.q = b := ⟨_, rfl⟩
 rw [hqp] at TP HPN HAE
 obtain ⟨AL, hAL⟩ : ∃ f, addL (l.map Pf.q) p.q = f := ⟨_, rfl⟩
 rw [hAL] at HALN HAE HADD ⊢
 obtain ⟨ai, hai⟩ : ∃ f, addI (l.map Pf.q) p.q.src = f := ⟨_, rfl⟩
 rw [hai] at HOK HADD HINS
 obtain ⟨ae, hae⟩ : ∃ b, addE (l.map Pf.q) p.q = b := ⟨_, rfl⟩
 rw [hae] at HAE ⊢
 rw [HINS.out] at TF
 obtain ⟨lq, hlq⟩ : ∃ x, l.map Pf.q = x := ⟨_, rfl⟩
 rw [hlq] at HOK HADD TCP HAE
 clear ha hp hok hqp hAL hai hae hW1 hb hlq HINS
 cases ok with
 | false =>
  rw [show err false 21 = 21 from rfl] at TC
  have C := Lib.hid TC
  obtain rfl : ae = 21 := by rw [HAE.out, if_neg (by decide)]
  clear TC
  go_enter Tryz.func57, Tryz.ntmps57
  go_upto_region 1 with fail
  rw [HW1.out, HB.out]
  go_wp2_with (go_at_call 48; (with_reducible refine (C.out).mono ?_); rintro e V ⟨rfl, hg⟩; have GV := Lib.hid (G1.out.trans (hg.mono G1.out.size)); clear hg)
  go_ret2
  exact prfEnd_no (by decide) GV.out
 | true =>
 rw [show err true 21 = 0 from rfl] at TC
 have C := Lib.hid TC
 obtain ⟨hn6, hper, hain, hfd, hrs⟩ := HOK.out rfl
 have HPER := Lib.hid hper
 have TF2 := fun W g => TF.out hn6 hrs W g
 rw [hfd] at TF2
 have TF3 := Lib.hid TF2
 have HAE2 := Lib.hid (show ae = if qp = true then (if p.q.src ∈ srcL lq then 22 else if okL AL = true then 0 else 2) else 20 by rw [HAE.out, if_pos rfl])
 clear TC hper hfd hrs TF2 TF
 go_enter Tryz.func57, Tryz.ntmps57
 go_upto_region 1 with fail
 rw [HW1.out, HB.out]
 go_upto_region 4 with (go_at_call 48; (with_reducible refine (C.out).mono ?_); rintro e V ⟨rfl, hg⟩; have GV := Lib.hid hg; clear hg)
 have BV := Lib.hid (B1.out.ext GV.out)
 have m0 := BV.out.cell 0
 go_upto_region 5 with (go_at_call 114; (with_reducible refine (TF3.out _ GV.out).mono ?_); rintro e V2 ⟨rfl, hg⟩; have GV2 := Lib.hid (GV.out.trans (hg.mono GV.out.size)); clear hg)
 have BV2 := Lib.hid (B1.out.ext GV2.out)
 clear m0
 have k0 := BV2.out.cell 0
 have k1 := BV2.out.cell 1
 have k2 := BV2.out.cell 2
 have k3 := BV2.out.cell 3
 have k4 := BV2.out.cell 4
 have k5 := BV2.out.cell 5
 have k6 := BV2.out.cell 6
 have k7 := BV2.out.cell 7
 have k8 := BV2.out.cell 8
 cases qp with
 | false =>
  have T2 := Lib.hid (TP.out V2 GV2.out)
  obtain rfl : ae = 20 := by rw [HAE2.out, if_neg (by decide)]
  go_wp2_with (go_at_call 105; (with_reducible refine (T2.out).mono ?_); rintro e V3 ⟨rfl, hg⟩; have GV3 := Lib.hid (GV2.out.trans (hg.mono GV2.out.size)); clear hg)
  go_ret2
  exact prfEnd_no (by decide) (G1.out.trans (GV3.out.mono G1.out.size))
 | true =>
 have T2 := Lib.hid (TP.out V2 GV2.out)
 have hpn := HPN.out rfl
 have HAE3 := Lib.hid (show ae = if p.q.src ∈ srcL lq then 22 else if okL AL = true then 0 else 2 by rw [HAE2.out, if_pos rfl])
 by_cases hs : p.q.src ∈ srcL lq
 ·obtain rfl : ae = 22 := by rw [HAE3.out, if_pos hs]
  have hd : decide (p.q.src ∈ srcL lq) = true := decide_eq_true hs
  rw [hd]
  clear hs hd
  go_wp2_with (go_at_call 105; (with_reducible refine (T2.out).mono ?_); rintro e V3 ⟨rfl, hg⟩; have GV3 := Lib.hid (GV2.out.trans (hg.mono GV2.out.size)); clear hg)
  go_ret2
  exact prfEnd_no (by decide) (G1.out.trans (GV3.out.mono G1.out.size))
 ·have HAE4 := Lib.hid (show ae = if okL AL = true then 0 else 2 by rw [HAE3.out, if_neg hs])
  have hd : decide (p.q.src ∈ srcL lq) = false := decide_eq_false hs
  rw [hd]
  clear hs hd
  go_upto_region 9 with (go_at_call 105; (with_reducible refine (T2.out).mono ?_); rintro e V3 ⟨rfl, hg⟩; have GV3 := Lib.hid (GV2.out.trans (hg.mono GV2.out.size)); clear hg)
  clear k0 k1 k2 k3 k4 k5 k6 k7 k8
  have BV3 := Lib.hid (B1.out.ext GV3.out)
  have HP3 := Lib.hid (HPI.out.below GV3.out)
  have TCL := Lib.hid (cloneI_any p.A p.n p.c p.q.per V3 HP3.out.i hpn)
  have k2 := BV3.out.cell 2
  go_upto_region 10 with (first | (go_at_call 95; (with_reducible refine (TCL.out).mono ?_); rintro e V4 ⟨⟨v4, rfl, ho⟩, hg⟩; obtain ⟨A5, c5, e5, -, -, -, -⟩ := OwnL.arr kdI ho; rw [HPL.out] at e5; subst e5; have GV4 := Lib.hid hg; have HO4 := Lib.hid ho; have BV4 := Lib.hid (BV3.out.ext hg); clear ho hg k2; have k2 := BV4.out.cell 2; have f2 := BV4.out.frozen 2))
  clear k2 f2
  have BP := Lib.hid (show Blk (V4.setCell ⟨b, 2, none⟩ (.slice A5 p.n c5)) b 56 #[.int .i64 p.q.src, .int .i64 p.q.kind, .slice A5 p.n c5, .int .i64 p.q.oth, .int .i64 p.q.par, .int .i64 p.q.day, .int .i64 p.q.thr, .int .i64 p.q.kno, .int .i64 p.q.unt] from BV4.out.set_ 2 _)
  have OX := Lib.hid (HO4.out.off (own_ne HO4.out BV4.out (by decide)) (o := 2) (.slice A5 p.n c5))
  have GXX := Lib.hid (((G1.out.trans (GV3.out.mono G1.out.size)).trans (GV4.out.mono (G1.out.trans (GV3.out.mono G1.out.size)).size)).setCell (p := ⟨b, 2, none⟩) (show w.heap.size ≤ b by have := HB.out; omega) (.slice A5 p.n c5))
  obtain ⟨X, hX⟩ : ∃ X, V4.setCell ⟨b, 2, none⟩ (.slice A5 p.n c5) = X := ⟨_, rfl⟩
  rw [hX] at BP OX GXX ⊢
  clear hX
  have HXP := Lib.hid (show PI X ⟨p.q, A5, p.n, c5⟩ ∧ ∀ a, A5 = some a → a.block < X.heap.size by
   obtain ⟨A', c', e, h1, h2, h3, -⟩ := OwnL.arr kdI OX.out
   simp only [Value.slice.injEq] at e
   obtain ⟨e1, e2, e3⟩ := e
   rw [← e1, ← e2] at h3
   exact ⟨⟨h3, ⟨show p.n ≤ c5 by omega, show p.n ≤ 9223372036854775807 by omega⟩⟩, fun a e => own_lt2 OX.out (show (Value.slice A5 p.n c5).ownBlock = some a.block by rw [e]; rfl)⟩)
  have TI3 := Lib.hid (fun (W6 : World) (g : Nat) (h : CopP W6 X.heap.size g n n lq) (hg : Below X.heap.size X W6) => insCop_any (X := X) (W := W6.alloc (.cells #[.int .i64 p.q.src, .int .i64 p.q.kind, .slice A5 p.n c5, .int .i64 p.q.oth, .int .i64 p.q.par, .int .i64 p.q.day, .int .i64 p.q.thr, .int .i64 p.q.kno, .int .i64 p.q.unt] 56)) (bx := W6.heap.size) ⟨p.q, A5, p.n, c5⟩ ai (h.ext (one_more _ _)) (by omega) (Blk.new _ _ _) ((HXP.out.1.below hg).below (one_more _ _)) (fun a e => by have h1 := HXP.out.2 a e; have h2 := h.lt.1; omega) hain (hg.trans ((one_more _ _).mono hg.size)))
  have TI4 := Lib.hid (fun (W6 : World) (g : Nat) (h : CopP W6 (X.alloc (.cells #[.int .i64 p.q.src, .int .i64 p.q.kind, .slice A5 p.n c5, .int .i64 p.q.oth, .int .i64 p.q.par, .int .i64 p.q.day, .int .i64 p.q.thr, .int .i64 p.q.kno, .int .i64 p.q.unt] 56)).heap.size g n n lq) (hg : Below (X.alloc (.cells #[.int .i64 p.q.src, .int .i64 p.q.kind, .slice A5 p.n c5, .int .i64 p.q.oth, .int .i64 p.q.par, .int .i64 p.q.day, .int .i64 p.q.thr, .int .i64 p.q.kno, .int .i64 p.q.unt] 56)).heap.size (X.alloc (.cells #[.int .i64 p.q.src, .int .i64 p.q.kind, .slice A5 p.n c5, .int .i64 p.q.oth, .int .i64 p.q.par, .int .i64 p.q.day, .int .i64 p.q.thr, .int .i64 p.q.kno, .int .i64 p.q.unt] 56)) W6) => insCop_any (X := X) (W := W6) (bx := X.heap.size) ⟨p.q, A5, p.n, c5⟩ ai (h.mono (one_more X (.cells #[.int .i64 p.q.src, .int .i64 p.q.kind, .slice A5 p.n c5, .int .i64 p.q.oth, .int .i64 p.q.par, .int .i64 p.q.day, .int .i64 p.q.thr, .int .i64 p.q.kno, .int .i64 p.q.unt] 56)).size) (by omega) ((Blk.new _ _ _).ext hg) ((HXP.out.1.below (one_more _ _)).below hg) (fun a e => by have h1 := HXP.out.2 a e; have h2 := h.lt.1; have h3 := (one_more X (.cells #[.int .i64 p.q.src, .int .i64 p.q.kind, .slice A5 p.n c5, .int .i64 p.q.oth, .int .i64 p.q.par, .int .i64 p.q.day, .int .i64 p.q.thr, .int .i64 p.q.kno, .int .i64 p.q.unt] 56)).size; omega) hain ((one_more _ _).trans (hg.mono (one_more X (.cells #[.int .i64 p.q.src, .int .i64 p.q.kind, .slice A5 p.n c5, .int .i64 p.q.oth, .int .i64 p.q.par, .int .i64 p.q.day, .int .i64 p.q.thr, .int .i64 p.q.kno, .int .i64 p.q.unt] 56)).size)))
  rw [HADD.out] at TI3 TI4
  have TX1 := Lib.hid (TCP.out hn6 HPER.out X.drew GXX.out.drew)
  have TX2 := Lib.hid (TCP.out hn6 HPER.out (X.alloc (.cells #[.int .i64 p.q.src, .int .i64 p.q.kind, .slice A5 p.n c5, .int .i64 p.q.oth, .int .i64 p.q.par, .int .i64 p.q.day, .int .i64 p.q.thr, .int .i64 p.q.kno, .int .i64 p.q.unt] 56)).drew (GXX.out.trans ((one_more _ _).mono GXX.out.size)).drew)
  have HKP := Lib.hid (fun Z (g : Below X.heap.size X Z) => (⟨((BP.out.ext g).cell 0), ((BP.out.ext g).cell 1), ((BP.out.ext g).cell 2), ((BP.out.ext g).cell 3), ((BP.out.ext g).cell 4), ((BP.out.ext g).cell 5), ((BP.out.ext g).cell 6), ((BP.out.ext g).cell 7), ((BP.out.ext g).cell 8)⟩ : Z.cell? ⟨b, 0, none⟩ = some (.int .i64 p.q.src) ∧ Z.cell? ⟨b, 1, none⟩ = some (.int .i64 p.q.kind) ∧ Z.cell? ⟨b, 2, none⟩ = some (.slice A5 p.n c5) ∧ Z.cell? ⟨b, 3, none⟩ = some (.int .i64 p.q.oth) ∧ Z.cell? ⟨b, 4, none⟩ = some (.int .i64 p.q.par) ∧ Z.cell? ⟨b, 5, none⟩ = some (.int .i64 p.q.day) ∧ Z.cell? ⟨b, 6, none⟩ = some (.int .i64 p.q.thr) ∧ Z.cell? ⟨b, 7, none⟩ = some (.int .i64 p.q.kno) ∧ Z.cell? ⟨b, 8, none⟩ = some (.int .i64 p.q.unt)))
  go_cut [9] from 32 to 37 (fun s wx => ∃ A9 m9 G9 l9, s = .slice A9 m9 G9 ∧ Prf wx A9 m9 l9 ∧ l9.map Pf.q = AL ∧ Below X.heap.size X wx)
  case first =>
   go_region_held3 (fun Z => Z.cell? ⟨b, 0, none⟩ = some (.int .i64 p.q.src) ∧ Z.cell? ⟨b, 1, none⟩ = some (.int .i64 p.q.kind) ∧ Z.cell? ⟨b, 2, none⟩ = some (.slice A5 p.n c5) ∧ Z.cell? ⟨b, 3, none⟩ = some (.int .i64 p.q.oth) ∧ Z.cell? ⟨b, 4, none⟩ = some (.int .i64 p.q.par) ∧ Z.cell? ⟨b, 5, none⟩ = some (.int .i64 p.q.day) ∧ Z.cell? ⟨b, 6, none⟩ = some (.int .i64 p.q.thr) ∧ Z.cell? ⟨b, 7, none⟩ = some (.int .i64 p.q.kno) ∧ Z.cell? ⟨b, 8, none⟩ = some (.int .i64 p.q.unt))
    (with_reducible refine HKP.out _ ?_; repeat' first | (with_reducible exact Below.refl _ _) | (with_reducible exact GA.out) | (with_reducible exact GC.out) | (with_reducible exact HG9.out) | (with_reducible refine Below.drew ?_) | (with_reducible refine Below.allo8 ?_ (by first | (simp; done) | (simp; omega) | omega) _))
    (first
     | (go_at_call 116; (with_reducible refine (TX1.out).mono ?_); rintro e W6 ⟨⟨g, rfl, hcp⟩, hg⟩; have HCA := Lib.hid (show CopP W6 X.heap.size g n n lq from hcp); have GA := Lib.hid (show Below X.heap.size X W6 from (Below.refl _ _).drew.trans hg); have hsa := GA.out.size; clear hcp hg)
     | (go_at_call 116; (with_reducible refine (TX2.out).mono ?_); rintro e W6 ⟨⟨g, rfl, hcp⟩, hg⟩; have HCB := Lib.hid (show CopP W6 (X.alloc (.cells #[.int .i64 p.q.src, .int .i64 p.q.kind, .slice A5 p.n c5, .int .i64 p.q.oth, .int .i64 p.q.par, .int .i64 p.q.day, .int .i64 p.q.thr, .int .i64 p.q.kno, .int .i64 p.q.unt] 56)).heap.size g n n lq from hcp); have GB := Lib.hid (show Below (X.alloc (.cells #[.int .i64 p.q.src, .int .i64 p.q.kind, .slice A5 p.n c5, .int .i64 p.q.oth, .int .i64 p.q.par, .int .i64 p.q.day, .int .i64 p.q.thr, .int .i64 p.q.kno, .int .i64 p.q.unt] 56)).heap.size (X.alloc (.cells #[.int .i64 p.q.src, .int .i64 p.q.kind, .slice A5 p.n c5, .int .i64 p.q.oth, .int .i64 p.q.par, .int .i64 p.q.day, .int .i64 p.q.thr, .int .i64 p.q.kno, .int .i64 p.q.unt] 56)) W6 from (Below.refl _ _).drew.trans hg); have GC := Lib.hid (show Below X.heap.size X W6 from (one_more X (.cells #[.int .i64 p.q.src, .int .i64 p.q.kind, .slice A5 p.n c5, .int .i64 p.q.oth, .int .i64 p.q.par, .int .i64 p.q.day, .int .i64 p.q.thr, .int .i64 p.q.kno, .int .i64 p.q.unt] 56)).trans (GB.out.mono (one_more X (.cells #[.int .i64 p.q.src, .int .i64 p.q.kind, .slice A5 p.n c5, .int .i64 p.q.oth, .int .i64 p.q.par, .int .i64 p.q.day, .int .i64 p.q.thr, .int .i64 p.q.kno, .int .i64 p.q.unt] 56)).size)); clear hcp hg)
     | (go_at_call 115; (with_reducible refine (TI3.out _ _ HCA.out GA.out).mono ?_); rintro e W7 ⟨A9, m9, G9, l9, rfl, hp9, hq9, hg9⟩; have HP9 := Lib.hid hp9; have HQ9 := Lib.hid hq9; have HG9 := Lib.hid hg9; clear hp9 hq9 hg9)
     | (go_at_call 115; (with_reducible refine (TI4.out _ _ HCB.out GB.out).mono ?_); rintro e W7 ⟨A9, m9, G9, l9, rfl, hp9, hq9, hg9⟩; have HP9 := Lib.hid hp9; have HQ9 := Lib.hid hq9; have HG9 := Lib.hid hg9; clear hp9 hq9 hg9))
   all_goals (try go_wp2_with fail)
   all_goals go_meet
   all_goals exact ⟨A9, m9, G9, l9, rfl, HP9.out, HQ9.out, HG9.out⟩
  case rest =>
   obtain ⟨A9, m9, G9, l9, rfl, hp9, hq9, hg9⟩ := hcut
   rename_i hK9
   refine hK9 _ _ ?_
   clear hK9
   have HP9 := Lib.hid hp9
   have HQ9 := Lib.hid hq9
   have GX9 := Lib.hid (GXX.out.trans (hg9.mono GXX.out.size))
   have HL9 := Lib.hid (show m9 ≤ 1000 by have h1 := HALN.out; rw [← hq9, List.length_map, hp9.len] at h1; omega)
   have T9 := check_any A9 m9 G9 l9 wc hp9 (by have := HL9.out; omega)
   rw [hq9] at T9
   obtain ⟨ok2, hok2⟩ : ∃ b, okL AL = b := ⟨_, rfl⟩
   rw [hok2] at T9 HAE4
   clear hp9 hq9 hg9 hok2
   cases ok2 with
   | false =>
    rw [show err false 21 = 21 from rfl] at T9
    have C9 := Lib.hid T9
    obtain rfl : ae = 2 := by rw [HAE4.out, if_neg (by decide)]
    clear T9
    go_wp2_with (go_at_call 48; (with_reducible refine (C9.out).mono ?_); rintro e V9 ⟨rfl, hg⟩; have GV9 := Lib.hid hg; clear hg)
    go_ret2
    exact prfEnd_no (by decide) (GX9.out.trans (GV9.out.mono GX9.out.size))
   | true =>
    rw [show err true 21 = 0 from rfl] at T9
    have C9 := Lib.hid T9
    obtain rfl : ae = 0 := by rw [HAE4.out, if_pos rfl]
    clear T9
    go_wp2_with (go_at_call 48; (with_reducible refine (C9.out).mono ?_); rintro e V9 ⟨rfl, hg⟩; have GV9 := Lib.hid hg; clear hg)
    go_ret2
    exact ⟨A9, m9, G9, l9, rfl, HP9.out.below GV9.out, by rw [if_pos rfl]; exact HQ9.out, HL9.out, GX9.out.trans (GV9.out.mono GX9.out.size)⟩
end Go.Proofs.YtehhlgdkhecacaaGreat

namespace Go.Proofs.YtehhlgdkhecacaaGreat
open Go.RowKit Go.Shelf
theorem datL_len : ∀ c : List Qf, (datL c).length ≤ 2 * c.length
 | [] => by simp [datL]
 | q :: c => by
  have h1 := datL_len c
  unfold datL at h1 ⊢
  rw [List.flatMap_cons, List.length_append, List.length_cons]
  have h3 : (datQ q).length ≤ 2 := by
   unfold datQ
   split
   ·rw [List.length_cons, List.length_singleton]; omega
   ·rw [List.length_cons, List.length_nil]; omega
  omega
theorem datL_take {l : List Pf} {k : Nat} (hk : k < l.length) : datL ((l.take (k + 1)).map Pf.q) = datL ((l.take k).map Pf.q) ++ datQ (l.getD k p0).q := by
 rw [take_snoc (d := p0) hk, List.map_append]
 unfold datL
 rw [List.flatMap_append]
 simp
def datE (l : List Qf) : Int := if okL l = true then 0 else 21
set_option maxRecDepth 100000 in
set_option maxHeartbeats 8000000 in
theorem dates_any (A : Option Addr) (n c : Nat) (l : List Pf) (w : World) (ha : Prf w A n l) (hn : n ≤ 9223372036854775807) :
  Calls Tryz.prog 47 #[.slice A n c] w (ListEnd (datS (l.map Pf.q)) (datE (l.map Pf.q)) w) := by
 have TC0 := Lib.hid (check_any A n c l w ha hn)
 have HA := Lib.hid ha
 have hlen := Lib.hid ha.len
 have HN60 := Lib.hid (fun (h : okL (l.map Pf.q) = true) => (show n ≤ 60 by have := okL_len h; rw [List.length_map, ha.len] at this; exact this))
 have HDE := Lib.hid (show datE (l.map Pf.q) = if okL (l.map Pf.q) = true then 0 else 21 from rfl)
 have HNL := Lib.hid (show ∀ k, k ≤ n → (datL ((l.take k).map Pf.q)).length ≤ 2 * k from fun k hk => by
  have := datL_len ((l.take k).map Pf.q)
  rw [List.length_map, List.length_take] at this
  omega)
 obtain ⟨nm, hnm⟩ : ∃ f : Nat → List Int, (fun k => datL ((l.take k).map Pf.q)) = f := ⟨_, rfl⟩
 have HNM := Lib.hid (fun (k : Nat) => (show datL ((l.take k).map Pf.q) = nm k by rw [← hnm]))
 have HPS := Lib.hid (show datS (l.map Pf.q) = setL (nm n) by rw [← hnm]; show _ = setL (datL ((l.take n).map Pf.q)); rw [List.take_of_length_le (by rw [hlen.out]; exact Nat.le_refl _)]; rfl)
 have HN0 := Lib.hid (show nm 0 = [] by rw [← hnm]; rfl)
 obtain ⟨ps, hps⟩ : ∃ s, datS (l.map Pf.q) = s := ⟨_, rfl⟩
 rw [hps] at HPS ⊢
 obtain ⟨ok, hok⟩ : ∃ b, okL (l.map Pf.q) = b := ⟨_, rfl⟩
 rw [hok] at TC0 HN60 HDE
 clear ha hnm hps hok
 cases ok with
 | false =>
  go_enter Tryz.func47, Tryz.ntmps47
  go_wp2_with (first | (go_at_call 48; (with_reducible refine (TC0.out).mono ?_); rintro e W1 ⟨rfl, hg1⟩; rw [show err false 21 = 21 from rfl]; have HG1 := Lib.hid hg1; clear hg1))
  go_ret2
  rw [HDE.out, if_neg (by decide)]
  exact listEnd_no (by decide) HG1.out
 | true =>
 have hn60 := HN60.out rfl
 go_enter Tryz.func47, Tryz.ntmps47
 go_upto_region 5 with (first | (go_at_call 48; (with_reducible refine (TC0.out).mono ?_); rintro e W0 ⟨rfl, hg1⟩; rw [show err true 21 = 0 from rfl]; have HG1 := Lib.hid hg1; clear hg1))
 have HO0 := Lib.hid (OwnL.nil (f := icells) (size := 1) (e := 3) W0 w.heap.size)
 go_wp2_with fail
 go_loopw [5, 15] (fun v i wr => ∃ k : Nat, k ≤ n ∧ OwnL icells 1 3 wr w.heap.size v (nm k) ∧ i = .int .i64 k ∧ Below w.heap.size w wr) (fun _ i _ => n - (intOf i).toNat)
 case atStart => exact ⟨0, Nat.zero_le _, by rw [HN0.out]; exact HO0.out, rfl, HG1.out⟩
 case round =>
  obtain ⟨k, hk, ho, rfl, hg⟩ := hrel
  have HG := Lib.hid hg
  have HO := Lib.hid ho
  clear ho
  by_cases hkn : k < n
  ·have HTK := Lib.hid (datL_take (l := l) (k := k) (by rw [hlen.out]; exact hkn))
   obtain ⟨b, o, rfl, -, hyi, hym, hyc⟩ := (HA.out.below hg).at hkn
   obtain ⟨y, hy⟩ : ∃ y, l.getD k p0 = y := ⟨_, rfl⟩
   rw [hy] at hyi hym hyc HTK
   obtain ⟨e0, e1, e2, e3, e4, e5, e6, e7, e8⟩ := hyc _ (Below.refl _ _)
   have HTQ := Lib.hid (show nm (k + 1) = nm k ++ (y.q.kno :: (if y.q.unt ≠ 0 then [y.q.unt] else [])) by rw [← HNM.out, ← HNM.out, HTK.out]; rfl)
   have HNK := Lib.hid (show (nm k).length ≤ 120 by rw [← HNM.out]; have := HNL.out k hk; omega)
   obtain ⟨W2, hW2⟩ : ∃ X, wr.alloc (.cells #[.int .i64 y.q.src, .int .i64 y.q.kind, .slice y.A y.n y.c, .int .i64 y.q.oth, .int .i64 y.q.par, .int .i64 y.q.day, .int .i64 y.q.thr, .int .i64 y.q.kno, .int .i64 y.q.unt] 56) = X := ⟨_, rfl⟩
   have GW2 := Lib.hid (show Below wr.heap.size wr W2 by rw [← hW2]; exact one_more _ _)
   have BW2 := Lib.hid (show Blk W2 wr.heap.size 56 #[.int .i64 y.q.src, .int .i64 y.q.kind, .slice y.A y.n y.c, .int .i64 y.q.oth, .int .i64 y.q.par, .int .i64 y.q.day, .int .i64 y.q.thr, .int .i64 y.q.kno, .int .i64 y.q.unt] by rw [← hW2]; exact Blk.new _ _ _)
   have HW2 := Lib.hid hW2
   have hwr2 : wrap64 ((k : Int) + 1) = (k : Int) + 1 := wrap_in (by omega)
   clear hW2 hy hyi hym hyc hg
   go_upto_region 8 with fail
   rw [HW2.out]
   clear e0 e1 e2 e3 e4 e5 e6 e7 e8
   have d7 := BW2.out.cell 7
   have d8 := BW2.out.cell 8
   have GX := Lib.hid (one_more W2 (.cells #[.int .i64 y.q.kno] 3))
   have HOX := Lib.hid ((HO.out.ext GW2.out).ext GX.out)
   have HI := Lib.hid (one_int (Blk.new W2 3 #[.int .i64 y.q.kno]))
   have HTL := Lib.hid (show (nm k).length + 1 ≤ 1000000 by have := HNK.out; omega)
   have HBB := Lib.hid (show w.heap.size ≤ (W2.alloc (.cells #[.int .i64 y.q.kno] 3)).heap.size by have h1 := HG.out.size; have h2 := GW2.out.size; have h3 := GX.out.size; omega)
   have BWX := Lib.hid (BW2.out.ext GX.out)
   go_upto_region 9 with (first | (at_builtin; (refine wpList_app kdI (by rfl) _ _ (by rfl) w.heap.size _ (nm k) (by rfl) HOX.out _ 1 1 [y.q.kno] (by rfl) HI.out HTL.out HBB.out ?_); intro v' w' ho hgr hz; have HO2 := Lib.hid ho; have GV := Lib.hid ((HG.out.trans ((GW2.out.trans (GX.out.mono GW2.out.size)).mono HG.out.size)).trans (HOX.out.below hgr (Nat.le_refl _) HBB.out)); have BV := Lib.hid (show Blk w' wr.heap.size 56 #[.int .i64 y.q.src, .int .i64 y.q.kind, .slice y.A y.n y.c, .int .i64 y.q.oth, .int .i64 y.q.par, .int .i64 y.q.day, .int .i64 y.q.thr, .int .i64 y.q.kno, .int .i64 y.q.unt] from (hgr.block wr.heap.size BWX.out.lt (fun e => by obtain ⟨-, cur, hc⟩ := own_block HOX.out e.symm; exact absurd (blk_type hc BWX.out) (by decide))).trans BWX.out); clear ho hgr hz))
   have d8' := BV.out.cell 8
   clear d7 d8
   by_cases h2 : y.q.unt = 0
   ·have h2b : (y.q.unt != 0) = false := by simpa using h2
    have HT2 := Lib.hid (show nm (k + 1) = nm k ++ [y.q.kno] by rw [HTQ.out, if_neg (by simpa using h2)])
    clear h2
    go_wp2_with fail
    go_roundw
    case rel => exact ⟨k + 1, by omega, by rw [HT2.out]; exact HO2.out, rfl, GV.out⟩
    case measure => simp only [intOf]; omega
   ·have h2b : (y.q.unt != 0) = true := by simpa using h2
    have HT2 := Lib.hid (show nm (k + 1) = (nm k ++ [y.q.kno]) ++ [y.q.unt] by rw [HTQ.out, if_pos h2, List.append_assoc]; rfl)
    have GX2 := Lib.hid (one_more w' (.cells #[.int .i64 y.q.unt] 3))
    have HI2 := Lib.hid (one_int (Blk.new w' 3 #[.int .i64 y.q.unt]))
    have HOX2 := Lib.hid (HO2.out.ext GX2.out)
    have HTL2 := Lib.hid (show (nm k ++ [y.q.kno]).length + 1 ≤ 1000000 by rw [List.length_append, List.length_singleton]; have := HNK.out; omega)
    have HBB2 := Lib.hid (show w.heap.size ≤ (w'.alloc (.cells #[.int .i64 y.q.unt] 3)).heap.size by have h1 := GV.out.size; have h3 := GX2.out.size; omega)
    obtain ⟨ls, hls⟩ : ∃ s, nm k ++ [y.q.kno] = s := ⟨_, rfl⟩
    rw [hls] at HT2 HOX2 HTL2
    clear h2 hls
    go_wp2_with (first | (at_builtin; (refine wpList_app kdI (by rfl) _ _ (by rfl) w.heap.size _ ls (by rfl) HOX2.out _ 1 1 [y.q.unt] (by rfl) HI2.out HTL2.out HBB2.out ?_); intro v2 w2 ho hgr hz; have HO3 := Lib.hid ho; have GV3 := Lib.hid ((GV.out.trans (GX2.out.mono GV.out.size)).trans (HOX2.out.below hgr (Nat.le_refl _) HBB2.out)); clear ho hgr hz))
    go_roundw
    case rel => exact ⟨k + 1, by omega, by rw [HT2.out]; exact HO3.out, rfl, GV3.out⟩
    case measure => simp only [intOf]; omega
  ·obtain rfl : k = n := by omega
   have TS := Lib.hid (fun (v : Value) (h : OwnL icells 1 3 wr w.heap.size v (nm k)) => sortG_any w.heap.size v (nm k) wr h (by rw [← HNM.out]; have := HNL.out k (Nat.le_refl _); omega))
   have TC := Lib.hid (fun (v : Value) (W : World) (h : OwnL icells 1 3 W w.heap.size v (srt (nm k))) (hb : w.heap.size ≤ W.heap.size) => compact_any w.heap.size v (srt (nm k)) W h (by unfold srt; rw [List.length_mergeSort, ← HNM.out]; have := HNL.out k (Nat.le_refl _); omega) hb)
   have HSE := Lib.hid (show Lib.compact (srt (nm k)) = ps by rw [setL_compact]; exact HPS.out.symm)
   clear hg
   go_wp2_with (first
    | (go_at_call 103; (with_reducible refine (TS.out _ HO.out).mono ?_); rintro e V ⟨rfl, hown, hbel⟩; have HOV := Lib.hid hown; have GV := Lib.hid (HG.out.trans (HO.out.below hbel (Nat.le_refl _) HG.out.size)); clear hown hbel)
    | (go_at_call 104; (with_reducible refine (TC.out _ _ HOV.out GV.out.size).mono ?_); rintro e V2 ⟨⟨v2, rfl, hown, -⟩, hbel⟩; have HOV2 := Lib.hid hown; have GV2 := Lib.hid (GV.out.trans (HOV.out.below hbel (Nat.le_refl _) GV.out.size)); clear hown hbel))
   go_ret2
   rw [HDE.out, if_pos trivial]
   exact listEnd_ok (by rw [← HSE.out]; exact HOV2.out) GV2.out
end Go.Proofs.YtehhlgdkhecacaaGreat

namespace Go.Proofs.YtehhlgdkhecacaaGreat
open Go.RowKit Go.Shelf
set_option maxRecDepth 100000 in
set_option maxHeartbeats 8000000 in
theorem refDates_any (A : Option Addr) (n c : Nat) (l : List Pf) (w : World) (ha : Prf w A n l) (hn : n ≤ 9223372036854775807) :
  Calls Tryz.prog 60 #[.slice A n c] w (ListEnd (datS (l.map Pf.q)) (datE (l.map Pf.q)) w) := by
 have TC0 := Lib.hid (refCheck_any A n c l w ha hn)
 have HA := Lib.hid ha
 have hlen := Lib.hid ha.len
 have HN60 := Lib.hid (fun (h : okL (l.map Pf.q) = true) => (show n ≤ 60 by have := okL_len h; rw [List.length_map, ha.len] at this; exact this))
 have HDE := Lib.hid (show datE (l.map Pf.q) = if okL (l.map Pf.q) = true then 0 else 21 from rfl)
 have HNL := Lib.hid (show ∀ k, k ≤ n → (setL (datL ((l.take k).map Pf.q))).length ≤ 2 * k from fun k hk => by
  have := datL_len ((l.take k).map Pf.q)
  have h2 := setL_len (datL ((l.take k).map Pf.q))
  rw [List.length_map, List.length_take] at this
  omega)
 have HUP := Lib.hid (show ∀ k, (setL (datL ((l.take k).map Pf.q))).Pairwise (· < ·) from fun k => setL_up _)
 have HST := Lib.hid (show ∀ k, k < n → setL (datL ((l.take (k + 1)).map Pf.q)) = if (l.getD k p0).q.unt = 0 then putI (setL (datL ((l.take k).map Pf.q))) (l.getD k p0).q.kno else putI (putI (setL (datL ((l.take k).map Pf.q))) (l.getD k p0).q.kno) (l.getD k p0).q.unt from fun k hk => by
  rw [datL_take (by rw [ha.len]; exact hk)]
  unfold datQ
  by_cases h : (l.getD k p0).q.unt = 0
  ·rw [if_pos h, if_neg (fun e => e h), setL_snoc]
  ·rw [if_neg h, if_pos h, show ((l.getD k p0).q.kno :: [(l.getD k p0).q.unt]) = [(l.getD k p0).q.kno] ++ [(l.getD k p0).q.unt] from rfl, ← List.append_assoc, setL_snoc, setL_snoc])
 obtain ⟨nm, hnm⟩ : ∃ f : Nat → List Int, (fun k => setL (datL ((l.take k).map Pf.q))) = f := ⟨_, rfl⟩
 have hnk : ∀ k, setL (datL ((l.take k).map Pf.q)) = nm k := fun k => by rw [← hnm]
 have HPS := Lib.hid (show datS (l.map Pf.q) = nm n by rw [← hnk]; show setL (datL (l.map Pf.q)) = _; rw [List.take_of_length_le (by rw [hlen.out]; exact Nat.le_refl _)])
 have HN0 := Lib.hid (show nm 0 = [] by rw [← hnm]; rfl)
 simp only [hnk] at HNL HUP HST
 obtain ⟨ps, hps⟩ : ∃ s, datS (l.map Pf.q) = s := ⟨_, rfl⟩
 rw [hps] at HPS ⊢
 obtain ⟨ok, hok⟩ : ∃ b, okL (l.map Pf.q) = b := ⟨_, rfl⟩
 obtain ⟨de, hde⟩ : ∃ b, datE (l.map Pf.q) = b := ⟨_, rfl⟩
 rw [hok] at TC0 HDE HN60
 rw [hde] at HDE ⊢
 clear ha hnm hnk hps hok hde
 cases ok with
 | false =>
  obtain rfl : de = 21 := by rw [HDE.out, if_neg (by decide)]
  go_enter Tryz.func60, Tryz.ntmps60
  go_wp2_with (first | (go_at_call 65; (with_reducible refine (TC0.out).mono ?_); rintro e W1 ⟨rfl, hg1⟩; rw [show err false 21 = 21 from rfl]; have HG1 := Lib.hid hg1; clear hg1))
  go_ret2
  exact listEnd_no (by decide) HG1.out
 | true =>
 obtain rfl : de = 0 := by rw [HDE.out, if_pos rfl]
 have hn60 := HN60.out rfl
 go_enter Tryz.func60, Tryz.ntmps60
 go_upto_region 4 with (first | (go_at_call 65; (with_reducible refine (TC0.out).mono ?_); rintro e W0 ⟨rfl, hg1⟩; rw [show err true 21 = 0 from rfl]; have HG1 := Lib.hid hg1; clear hg1))
 have HO0 := Lib.hid (OwnL.nil (f := icells) (size := 1) (e := 3) W0 w.heap.size)
 go_wp2_with fail
 go_loopw [4, 5] (fun v i wr => ∃ k : Nat, k ≤ n ∧ OwnL icells 1 3 wr w.heap.size v (nm k) ∧ i = .int .i64 k ∧ Below w.heap.size w wr) (fun _ i _ => n - (intOf i).toNat)
 case atStart => exact ⟨0, Nat.zero_le _, by rw [HN0.out]; exact HO0.out, rfl, HG1.out⟩
 case round =>
  obtain ⟨k, hk, ho, rfl, hg⟩ := hrel
  have HG := Lib.hid hg
  have HO := Lib.hid ho
  clear ho
  by_cases hkn : k < n
  ·have HS := Lib.hid (HST.out k hkn)
   obtain ⟨b, o, rfl, -, -, -, hyc⟩ := (HA.out.below hg).at hkn
   obtain ⟨y, hy⟩ : ∃ y, l.getD k p0 = y := ⟨_, rfl⟩
   rw [hy] at hyc HS
   have HYC := Lib.hid hyc
   obtain ⟨-, -, -, -, -, -, -, e7, -⟩ := hyc _ (Below.refl _ _)
   have HL := Lib.hid (HNL.out k hk)
   have HU := Lib.hid (HUP.out k)
   have HL2 := Lib.hid (HNL.out (k + 1) hkn)
   have HU2 := Lib.hid (HUP.out (k + 1))
   obtain ⟨xs, hxs⟩ : ∃ s, nm k = s := ⟨_, rfl⟩
   rw [hxs] at HO HS HL HU
   obtain ⟨A1, c1, e1, h11, h12, har, -⟩ := OwnL.arr kdI HO.out
   subst e1
   have HI1 := Lib.hid har
   have hwr2 : wrap64 ((k : Int) + 1) = (k : Int) + 1 := wrap_in (by omega)
   have T1 := Lib.hid (refPut_any A1 xs.length c1 xs y.q.kno wr HI1.out (by have := HL.out; omega) HU.out)
   obtain ⟨ln, hln⟩ : ∃ k, xs.length = k := ⟨_, rfl⟩
   rw [hln] at T1 ⊢
   clear hyc hy hxs hg h11 h12 har hln
   go_upto_region 8 with (go_at_call 42; (with_reducible refine (T1.out).mono ?_); rintro e W1 ⟨⟨v1, rfl, ho1⟩, hg1⟩; have HO1 := Lib.hid (ho1.mono HG.out.size); have GW := Lib.hid hg1; clear ho1 hg1)
   have GW1 := Lib.hid (HG.out.trans (GW.out.mono HG.out.size))
   clear e7
   obtain ⟨-, -, -, -, -, -, -, -, f8⟩ := HYC.out _ GW.out
   obtain ⟨x1, hx1⟩ : ∃ s, putI xs y.q.kno = s := ⟨_, rfl⟩
   rw [hx1] at HO1 HS
   have HLP := Lib.hid (show x1.length ≤ 1000 by
    rw [← hx1]
    have h1 := HL.out
    unfold putI
    split
    ·omega
    ·have h2 := List.length_filter_le (fun x => decide (x < y.q.kno)) xs
     have h3 := List.length_filter_le (fun x => decide (y.q.kno < x)) xs
     rw [List.length_append, List.length_cons]; omega)
   have HUP1 := Lib.hid (show x1.Pairwise (· < ·) by rw [← hx1]; exact putI_up HU.out)
   clear hx1
   by_cases h2 : y.q.unt = 0
   ·have h2b : (y.q.unt != 0) = false := by simpa using h2
    have HT2 := Lib.hid (show nm (k + 1) = x1 by rw [HS.out, if_pos h2])
    clear h2
    go_wp2_with fail
    go_roundw
    case rel => exact ⟨k + 1, by omega, by rw [HT2.out]; exact HO1.out, rfl, GW1.out⟩
    case measure => simp only [intOf]; omega
   ·have h2b : (y.q.unt != 0) = true := by simpa using h2
    have HT2 := Lib.hid (show nm (k + 1) = putI x1 y.q.unt by rw [HS.out, if_neg h2])
    obtain ⟨A2, c2, e2, h21, h22, har2, -⟩ := OwnL.arr kdI HO1.out
    subst e2
    have T2 := Lib.hid (refPut_any A2 x1.length c2 x1 y.q.unt W1 har2 HLP.out HUP1.out)
    obtain ⟨ln2, hln2⟩ : ∃ k, x1.length = k := ⟨_, rfl⟩
    rw [hln2] at T2 ⊢
    clear h2 h21 h22 har2 hln2
    go_wp2_with (first | (go_at_call 42; (with_reducible refine (T2.out).mono ?_); rintro e W2 ⟨⟨v2, rfl, ho2⟩, hg2⟩; have HO2 := Lib.hid (ho2.mono GW1.out.size); have GW2 := Lib.hid (GW1.out.trans (hg2.mono GW1.out.size)); clear ho2 hg2))
    go_roundw
    case rel => exact ⟨k + 1, by omega, by rw [HT2.out]; exact HO2.out, rfl, GW2.out⟩
    case measure => simp only [intOf]; omega
  ·obtain rfl : k = n := by omega
   rw [← HPS.out] at HO
   clear hg
   go_wp2_with fail
   go_ret2
   exact listEnd_ok HO.out HG.out
end Go.Proofs.YtehhlgdkhecacaaGreat

namespace Go.Proofs.YtehhlgdkhecacaaGreat
open Go.RowKit Go.Shelf
set_option maxRecDepth 100000 in
set_option maxHeartbeats 8000000 in
theorem sameProof_any (p p' : Pf) (w : World) (hp : PI w p) (hp' : PI w p') (he : p.q = p'.q) : Calls Tryz.prog 118 #[pv p, pv p'] w fun e w' => e = .returned (.bool true) ∧ Below w.heap.size w w' := by
 obtain ⟨q, A, n, c⟩ := p
 obtain ⟨q', B, m, d⟩ := p'
 obtain rfl : q = q' := he
 obtain ⟨W1, hW1⟩ : ∃ X, w.alloc (.cells #[.int .i64 q.src, .int .i64 q.kind, .slice A n c, .int .i64 q.oth, .int .i64 q.par, .int .i64 q.day, .int .i64 q.thr, .int .i64 q.kno, .int .i64 q.unt] 56) = X := ⟨_, rfl⟩
 obtain ⟨b, hb⟩ : ∃ b, w.heap.size = b := ⟨_, rfl⟩
 have g1 : Below w.heap.size w W1 := by rw [← hW1]; exact one_more _ _
 have s1 : W1.heap.size = b + 1 := by rw [← hW1, ← hb]; simp
 have b1 : Blk W1 b 56 #[.int .i64 q.src, .int .i64 q.kind, .slice A n c, .int .i64 q.oth, .int .i64 q.par, .int .i64 q.day, .int .i64 q.thr, .int .i64 q.kno, .int .i64 q.unt] := by rw [← hW1, ← hb]; exact Blk.new _ _ _
 obtain ⟨W2, hW2⟩ : ∃ X, W1.alloc (.cells #[.int .i64 q.src, .int .i64 q.kind, .slice B m d, .int .i64 q.oth, .int .i64 q.par, .int .i64 q.day, .int .i64 q.thr, .int .i64 q.kno, .int .i64 q.unt] 56) = X := ⟨_, rfl⟩
 have g2 : Below W1.heap.size W1 W2 := by rw [← hW2]; exact one_more _ _
 have b2 : Blk W2 (b + 1) 56 #[.int .i64 q.src, .int .i64 q.kind, .slice B m d, .int .i64 q.oth, .int .i64 q.par, .int .i64 q.day, .int .i64 q.thr, .int .i64 q.kno, .int .i64 q.unt] := by rw [← hW2, ← s1]; exact Blk.new _ _ _
 have G2 := Lib.hid (extTrans g1 g2)
 have B1 := Lib.hid (b1.ext g2)
 have B2 := Lib.hid b2
 have HI := Lib.hid ((hp.below g1).below g2)
 have HI' := Lib.hid ((hp'.below g1).below g2)
 have HW1 := Lib.hid hW1
 have HW2 := Lib.hid hW2
 have HS1 := Lib.hid s1
 have HB := Lib.hid hb
 have TS := Lib.hid (show Calls Tryz.prog 19 #[.slice A n c, .slice B m d] W2 fun e w' => e = .returned (.bool true) ∧ Below W2.heap.size W2 w' by
  have := sameInts_any A B n c m d q.per q.per W2 HI.out.i HI'.out.i HI.out.m.2 HI'.out.m.2
  rwa [decide_eq_true rfl] at this)
 obtain ⟨v0, v1, per, v3, v4, v5, v6, v7, v8⟩ := q
 clear hp hp' g1 g2 b1 b2 hW1 hW2 s1 hb
 have h0 : (v0 == v0) = true := by simp
 have h1 : (v1 == v1) = true := by simp
 have h3 : (v3 == v3) = true := by simp
 have h4 : (v4 == v4) = true := by simp
 have h5 : (v5 == v5) = true := by simp
 have h6 : (v6 == v6) = true := by simp
 have h7 : (v7 == v7) = true := by simp
 have h8 : (v8 == v8) = true := by simp
 go_enter Tryz.func118, Tryz.ntmps118
 go_upto_region 1 with fail
 rw [HW1.out, HB.out]
 rw [HW2.out]
 have k0 := B1.out.cell 0
 have k1 := B1.out.cell 1
 have k2 := B1.out.cell 2
 have l0 := B2.out.cell 0
 have l1 := B2.out.cell 1
 have l2 := B2.out.cell 2
 have k3 := B1.out.cell 3
 have k4 := B1.out.cell 4
 have k5 := B1.out.cell 5
 have k6 := B1.out.cell 6
 have k7 := B1.out.cell 7
 have k8 := B1.out.cell 8
 have l3 := B2.out.cell 3
 have l4 := B2.out.cell 4
 have l5 := B2.out.cell 5
 have l6 := B2.out.cell 6
 have l7 := B2.out.cell 7
 have l8 := B2.out.cell 8
 go_wp2_with (go_at_call 19; (with_reducible refine (TS.out).mono ?_); rintro e V ⟨rfl, hg⟩; have GV := Lib.hid (G2.out.trans (hg.mono G2.out.size)); have BV1 := Lib.hid (B1.out.ext hg); have BV2 := Lib.hid (B2.out.ext hg); clear hg k0 k1 k2 k3 k4 k5 k6 k7 k8 l0 l1 l2 l3 l4 l5 l6 l7 l8; have k3 := BV1.out.cell 3; have k4 := BV1.out.cell 4; have k5 := BV1.out.cell 5; have k6 := BV1.out.cell 6; have k7 := BV1.out.cell 7; have k8 := BV1.out.cell 8; have l3 := BV2.out.cell 3; have l4 := BV2.out.cell 4; have l5 := BV2.out.cell 5; have l6 := BV2.out.cell 6; have l7 := BV2.out.cell 7; have l8 := BV2.out.cell 8)
 go_ret
 exact ⟨rfl, GV.out⟩
set_option maxRecDepth 100000 in
set_option maxHeartbeats 8000000 in
theorem sameProofs_any (A B : Option Addr) (n c m d : Nat) (l l' : List Pf) (w : World) (ha : Prf w A n l) (hb : Prf w B m l') (hn : n ≤ 1000) (he : l.map Pf.q = l'.map Pf.q) :
  Calls Tryz.prog 62 #[.slice A n c, .slice B m d] w fun e w' => e = .returned (.bool true) ∧ Below w.heap.size w w' := by
 have hnm : n = m := by
  have h1 := congrArg List.length he
  rw [List.length_map, List.length_map, ha.len, hb.len] at h1
  exact h1
 subst hnm
 have HA := Lib.hid ha
 have HB := Lib.hid hb
 have HE := Lib.hid (fun k (hk : k < n) => (show (l.getD k p0).q = (l'.getD k p0).q by
  rw [← map_pf (by rw [ha.len]; exact hk), ← map_pf (by rw [hb.len]; exact hk), he]))
 have hnn : ((n : Int) != (n : Int)) = false := by simp
 clear ha hb he
 go_enter Tryz.func62, Tryz.ntmps62
 go_wp2_with fail
 go_loopw [5] (fun i wr => ∃ k : Nat, k ≤ n ∧ i = .int .i64 k ∧ Below w.heap.size w wr) (fun i _ => n - (intOf i).toNat)
 case atStart => exact ⟨0, Nat.zero_le _, rfl, Below.refl _ _⟩
 case round =>
  obtain ⟨k, hk, rfl, hg⟩ := hrel
  have HG := Lib.hid hg
  by_cases hkn : k < n
  ·have HQ := Lib.hid (HE.out k hkn)
   obtain ⟨b, o, rfl, -, hyi, -, hyc⟩ := (HA.out.below hg).at hkn
   obtain ⟨b', o', rfl, -, hyi', -, hyc'⟩ := (HB.out.below hg).at hkn
   obtain ⟨y, hy⟩ : ∃ y, l.getD k p0 = y := ⟨_, rfl⟩
   obtain ⟨y', hy'⟩ : ∃ y, l'.getD k p0 = y := ⟨_, rfl⟩
   rw [hy] at hyi hyc HQ
   rw [hy'] at hyi' hyc' HQ
   obtain ⟨e0, e1, e2, e3, e4, e5, e6, e7, e8⟩ := hyc _ (Below.refl _ _)
   obtain ⟨f0, f1, f2, f3, f4, f5, f6, f7, f8⟩ := hyc' _ (Below.refl _ _)
   have T := Lib.hid (fun W (g : Below wr.heap.size wr W) => sameProof_any y y' W (hyi.below g) (hyi'.below g) HQ.out)
   have hki : (k : Int) < (n : Int) := by omega
   have hwr2 : wrap64 ((k : Int) + 1) = (k : Int) + 1 := wrap_in (by omega)
   clear hyi hyi' hyc hyc' hy hy' hg
   replace e0 := cellW e0
   replace e1 := cellW e1
   replace e2 := cellW e2
   replace e3 := cellW e3
   replace e4 := cellW e4
   replace e5 := cellW e5
   replace e6 := cellW e6
   replace e7 := cellW e7
   replace e8 := cellW e8
   replace f0 := cellW f0
   replace f1 := cellW f1
   replace f2 := cellW f2
   replace f3 := cellW f3
   replace f4 := cellW f4
   replace f5 := cellW f5
   replace f6 := cellW f6
   replace f7 := cellW f7
   replace f8 := cellW f8
   go_upto_region 6 with fail
   refine wp_region_calm wr (by kernel_rfl) (by kernel_rfl) (Below.refl _ _) ?_
   repeat (go_big_quiet_step ((go_at_call 118; exact callsCalm (T.out _ (Wd.ok _)))))
   refine wpQuiet_nil ?_
   rintro _ ⟨z, rfl⟩
   have GQ := Lib.hid z.ok
   go_wp2
   go_roundw
   case rel => exact ⟨k + 1, by omega, rfl, HG.out.trans (GQ.out.mono HG.out.size)⟩
   case measure => simp only [intOf]; omega
  ·obtain rfl : k = n := by omega
   clear hg
   go_wp2_with fail
   go_ret
   exact ⟨rfl, HG.out⟩
end Go.Proofs.YtehhlgdkhecacaaGreat

namespace Go.Proofs.YtehhlgdkhecacaaGreat
open Go.RowKit Go.Shelf
set_option maxRecDepth 100000 in
set_option maxHeartbeats 16000000 in
theorem law14_any (A : Option Addr) (n c : Nat) (l : List Pf) (p : Pf) (known : Int) (w : World) (ha : Prf w A n l) (hn : n ≤ 9223372036854775807) (hp : PI w p) :
  Calls Tryz.prog 14 #[.slice A n c, pv p, .int .i64 known] w fun e w' => e = .returned (.bool true) ∧ Below w.heap.size w w' := by
 obtain ⟨b, hb⟩ : ∃ b, w.heap.size = b := ⟨_, rfl⟩
 obtain ⟨W1, hW1⟩ : ∃ X, w.alloc (.cells #[.int .i64 p.q.src, .int .i64 p.q.kind, .slice p.A p.n p.c, .int .i64 p.q.oth, .int .i64 p.q.par, .int .i64 p.q.day, .int .i64 p.q.thr, .int .i64 p.q.kno, .int .i64 p.q.unt] 56) = X := ⟨_, rfl⟩
 have G1 := Lib.hid (show Below w.heap.size w W1 by rw [← hW1]; exact one_more _ _)
 have B1 := Lib.hid (show Blk W1 b 56 #[.int .i64 p.q.src, .int .i64 p.q.kind, .slice p.A p.n p.c, .int .i64 p.q.oth, .int .i64 p.q.par, .int .i64 p.q.day, .int .i64 p.q.thr, .int .i64 p.q.kno, .int .i64 p.q.unt] by rw [← hW1, ← hb]; exact Blk.new _ _ _)
 have HW1 := Lib.hid hW1
 have HB := Lib.hid hb
 have HA := Lib.hid (ha.below G1.out)
 have HP := Lib.hid (hp.below G1.out)
 have T57 := Lib.hid (fun W (g : Below W1.heap.size W1 W) => addF_any A n c l p W (HA.out.below g) hn (HP.out.below g))
 have T58 := Lib.hid (fun W (g : Below W1.heap.size W1 W) => refAdd_any A n c l p W (HA.out.below g) hn (HP.out.below g))
 have T39 := Lib.hid (fun W (g : Below W1.heap.size W1 W) => withoutF_any A n c l p.q.src W (HA.out.below g) hn)
 have T59 := Lib.hid (fun W (g : Below W1.heap.size W1 W) => refWithout_any A n c l p.q.src W (HA.out.below g) hn)
 have T47 := Lib.hid (fun W (g : Below W1.heap.size W1 W) => dates_any A n c l W (HA.out.below g) hn)
 have T60 := Lib.hid (fun W (g : Below W1.heap.size W1 W) => refDates_any A n c l W (HA.out.below g) hn)
 have T46 := Lib.hid (fun W (g : Below W1.heap.size W1 W) => countingF_any A n c l known W (HA.out.below g) hn)
 have T61 := Lib.hid (fun W (g : Below W1.heap.size W1 W) => refCountingF_any A n c l known W (HA.out.below g) hn)
 have T63 := Lib.hid (fun W (g : Below W1.heap.size W1 W) => checkProof_any p W (HP.out.below g))
 have T64 := Lib.hid (fun W (g : Below W1.heap.size W1 W) => refCheckProof_any p W (HP.out.below g))
 have T48 := Lib.hid (fun W (g : Below W1.heap.size W1 W) => check_any A n c l W (HA.out.below g) hn)
 have T65 := Lib.hid (fun W (g : Below W1.heap.size W1 W) => refCheck_any A n c l W (HA.out.below g) hn)
 have T20 := Lib.hid sane_any
 have HCN := Lib.hid (show (if lookE (l.map Pf.q) [known] = 0 then srcL (cntL (l.map Pf.q) known) else []).length ≤ 3000 by
  split
  ·next h =>
   have hok : okL (l.map Pf.q) = true := by
    unfold lookE at h
    by_cases e : okL (l.map Pf.q) = true
    ·exact e
    ·rw [if_neg e] at h; exact absurd h (by decide)
   have h1 := okL_len hok
   have h2 := List.length_filter_le (fun q => cnt q known) (l.map Pf.q)
   unfold srcL cntL
   rw [List.length_map]
   omega
  ·exact Nat.zero_le _)
 have HDN := Lib.hid (show (if datE (l.map Pf.q) = 0 then datS (l.map Pf.q) else []).length ≤ 3000 by
  split
  ·next h =>
   have hok : okL (l.map Pf.q) = true := by
    unfold datE at h
    by_cases e : okL (l.map Pf.q) = true
    ·exact e
    ·rw [if_neg e] at h; exact absurd h (by decide)
   have h1 := okL_len hok
   have h2 := datL_len (l.map Pf.q)
   have h3 := setL_len (datL (l.map Pf.q))
   unfold datS
   omega
  ·exact Nat.zero_le _)
 unfold PrfEnd at T57 T58 T39 T59
 unfold ListEnd at T47 T60
 unfold CntEnd at T46 T61
 obtain ⟨LA, hLA⟩ : ∃ x, (if addE (l.map Pf.q) p.q = 0 then addL (l.map Pf.q) p.q else []) = x := ⟨_, rfl⟩
 obtain ⟨LW, hLW⟩ : ∃ x, (if woE (l.map Pf.q) p.q.src = 0 then lssL (l.map Pf.q) p.q.src else []) = x := ⟨_, rfl⟩
 obtain ⟨LD, hLD⟩ : ∃ x, (if datE (l.map Pf.q) = 0 then datS (l.map Pf.q) else []) = x := ⟨_, rfl⟩
 obtain ⟨LC, hLC⟩ : ∃ x, (if lookE (l.map Pf.q) [known] = 0 then srcL (cntL (l.map Pf.q) known) else []) = x := ⟨_, rfl⟩
 rw [hLA] at T57 T58
 rw [hLW] at T39 T59
 rw [hLD] at T47 T60 HDN
 rw [hLC] at T46 T61 HCN
 obtain ⟨EA, hEA⟩ : ∃ x, addE (l.map Pf.q) p.q = x := ⟨_, rfl⟩
 obtain ⟨EW, hEW⟩ : ∃ x, woE (l.map Pf.q) p.q.src = x := ⟨_, rfl⟩
 obtain ⟨ED, hED⟩ : ∃ x, datE (l.map Pf.q) = x := ⟨_, rfl⟩
 obtain ⟨EC, hEC⟩ : ∃ x, lookE (l.map Pf.q) [known] = x := ⟨_, rfl⟩
 obtain ⟨EP, hEP⟩ : ∃ x, err (isQf p.q) 20 = x := ⟨_, rfl⟩
 obtain ⟨EL, hEL⟩ : ∃ x, err (okL (l.map Pf.q)) 21 = x := ⟨_, rfl⟩
 rw [hEA] at T57 T58
 rw [hEW] at T39 T59
 rw [hED] at T47 T60
 rw [hEC] at T46 T61
 rw [hEP] at T63 T64
 rw [hEL] at T48 T65
 clear ha hp hW1 hb hLA hLW hLD hLC hEA hEW hED hEC hEP hEL
 go_enter Tryz.func14, Tryz.ntmps14
 go_upto_region 1 with fail
 rw [HW1.out, HB.out]
 have k0 := B1.out.cell 0
 have k1 := B1.out.cell 1
 have k2 := B1.out.cell 2
 have k3 := B1.out.cell 3
 have k4 := B1.out.cell 4
 have k5 := B1.out.cell 5
 have k6 := B1.out.cell 6
 have k7 := B1.out.cell 7
 have k8 := B1.out.cell 8
 go_upto_region 2 with (go_at_call 57; (with_reducible refine (T57.out _ (Below.refl _ _)).mono ?_); rintro e V1 ⟨A1, n1, c1, l1, rfl, hp, hq, hn, hg⟩; have P1 := Lib.hid hp; have Q1 := Lib.hid hq; have N1 := Lib.hid hn; have GV1 := Lib.hid hg; have BV1 := Lib.hid (B1.out.ext hg); have HS1 := Lib.hid hg; clear hp hq hn hg)
 clear k0 k1 k2 k3 k4 k5 k6 k7 k8
 have k0 := BV1.out.cell 0
 have k1 := BV1.out.cell 1
 have k2 := BV1.out.cell 2
 have k3 := BV1.out.cell 3
 have k4 := BV1.out.cell 4
 have k5 := BV1.out.cell 5
 have k6 := BV1.out.cell 6
 have k7 := BV1.out.cell 7
 have k8 := BV1.out.cell 8
 go_upto_region 3 with (go_at_call 58; (with_reducible refine (T58.out _ GV1.out).mono ?_); rintro e V2 ⟨A2, n2, c2, l2, rfl, hp, hq, hn, hg⟩; have P2 := Lib.hid hp; have Q2 := Lib.hid hq; have N2 := Lib.hid hn; have GV2 := Lib.hid (GV1.out.trans (hg.mono GV1.out.size)); have BV2 := Lib.hid (B1.out.ext (GV1.out.trans (hg.mono GV1.out.size))); have HS2 := Lib.hid hg; clear hp hq hn hg)
 clear k0 k1 k2 k3 k4 k5 k6 k7 k8
 have k0 := BV2.out.cell 0
 go_upto_region 4 with (go_at_call 39; (with_reducible refine (T39.out _ GV2.out).mono ?_); rintro e V3 ⟨A3, n3, c3, l3, rfl, hp, hq, hn, hg⟩; have P3 := Lib.hid hp; have Q3 := Lib.hid hq; have N3 := Lib.hid hn; have GV3 := Lib.hid (GV2.out.trans (hg.mono GV2.out.size)); have BV3 := Lib.hid (B1.out.ext (GV2.out.trans (hg.mono GV2.out.size))); have HS3 := Lib.hid hg; clear hp hq hn hg)
 clear k0
 have k0 := BV3.out.cell 0
 go_upto_region 5 with (go_at_call 59; (with_reducible refine (T59.out _ GV3.out).mono ?_); rintro e V4 ⟨A4, n4, c4, l4, rfl, hp, hq, hn, hg⟩; have P4 := Lib.hid hp; have Q4 := Lib.hid hq; have N4 := Lib.hid hn; have GV4 := Lib.hid (GV3.out.trans (hg.mono GV3.out.size)); have BV4 := Lib.hid (B1.out.ext (GV3.out.trans (hg.mono GV3.out.size))); have HS4 := Lib.hid hg; clear hp hq hn hg)
 clear k0
 go_upto_region 6 with (go_at_call 47; (with_reducible refine (T47.out _ GV4.out).mono ?_); rintro e V5 ⟨A5, n5, c5, rfl, hi, -, -, hg⟩; have I5 := Lib.hid hi; have GV5 := Lib.hid (GV4.out.trans (hg.mono GV4.out.size)); have BV5 := Lib.hid (B1.out.ext (GV4.out.trans (hg.mono GV4.out.size))); have HS5 := Lib.hid hg; clear hi hg)
 go_upto_region 7 with (go_at_call 60; (with_reducible refine (T60.out _ GV5.out).mono ?_); rintro e V6 ⟨A6, n6, c6, rfl, hi, -, -, hg⟩; have I6 := Lib.hid hi; have GV6 := Lib.hid (GV5.out.trans (hg.mono GV5.out.size)); have BV6 := Lib.hid (B1.out.ext (GV5.out.trans (hg.mono GV5.out.size))); have HS6 := Lib.hid hg; clear hi hg)
 go_upto_region 8 with (go_at_call 46; (with_reducible refine (T46.out _ GV6.out).mono ?_); rintro e V7 ⟨⟨A7, n7, c7, rfl, hi⟩, hg⟩; have I7 := Lib.hid hi; have GV7 := Lib.hid (GV6.out.trans (hg.mono GV6.out.size)); have BV7 := Lib.hid (B1.out.ext (GV6.out.trans (hg.mono GV6.out.size))); have HS7 := Lib.hid hg; clear hi hg)
 go_upto_region 9 with (go_at_call 61; (with_reducible refine (T61.out _ GV7.out).mono ?_); rintro e V8 ⟨⟨A8, n8, c8, rfl, hi⟩, hg⟩; have I8 := Lib.hid hi; have GV8 := Lib.hid (GV7.out.trans (hg.mono GV7.out.size)); have BV8 := Lib.hid (B1.out.ext (GV7.out.trans (hg.mono GV7.out.size))); have HS8 := Lib.hid hg; clear hi hg)
 have X1 := Lib.hid (show Below V1.heap.size V1 V8 from ((((((HS2.out.trans (HS3.out.mono HS2.out.size)).trans (HS4.out.mono (HS2.out.trans (HS3.out.mono HS2.out.size)).size)).trans (HS5.out.mono ((HS2.out.trans (HS3.out.mono HS2.out.size)).trans (HS4.out.mono (HS2.out.trans (HS3.out.mono HS2.out.size)).size)).size)).trans (HS6.out.mono (((HS2.out.trans (HS3.out.mono HS2.out.size)).trans (HS4.out.mono (HS2.out.trans (HS3.out.mono HS2.out.size)).size)).trans (HS5.out.mono ((HS2.out.trans (HS3.out.mono HS2.out.size)).trans (HS4.out.mono (HS2.out.trans (HS3.out.mono HS2.out.size)).size)).size)).size)).trans (HS7.out.mono ((((HS2.out.trans (HS3.out.mono HS2.out.size)).trans (HS4.out.mono (HS2.out.trans (HS3.out.mono HS2.out.size)).size)).trans (HS5.out.mono ((HS2.out.trans (HS3.out.mono HS2.out.size)).trans (HS4.out.mono (HS2.out.trans (HS3.out.mono HS2.out.size)).size)).size)).trans (HS6.out.mono (((HS2.out.trans (HS3.out.mono HS2.out.size)).trans (HS4.out.mono (HS2.out.trans (HS3.out.mono HS2.out.size)).size)).trans (HS5.out.mono ((HS2.out.trans (HS3.out.mono HS2.out.size)).trans (HS4.out.mono (HS2.out.trans (HS3.out.mono HS2.out.size)).size)).size)).size)).size)).trans (HS8.out.mono (((((HS2.out.trans (HS3.out.mono HS2.out.size)).trans (HS4.out.mono (HS2.out.trans (HS3.out.mono HS2.out.size)).size)).trans (HS5.out.mono ((HS2.out.trans (HS3.out.mono HS2.out.size)).trans (HS4.out.mono (HS2.out.trans (HS3.out.mono HS2.out.size)).size)).size)).trans (HS6.out.mono (((HS2.out.trans (HS3.out.mono HS2.out.size)).trans (HS4.out.mono (HS2.out.trans (HS3.out.mono HS2.out.size)).size)).trans (HS5.out.mono ((HS2.out.trans (HS3.out.mono HS2.out.size)).trans (HS4.out.mono (HS2.out.trans (HS3.out.mono HS2.out.size)).size)).size)).size)).trans (HS7.out.mono ((((HS2.out.trans (HS3.out.mono HS2.out.size)).trans (HS4.out.mono (HS2.out.trans (HS3.out.mono HS2.out.size)).size)).trans (HS5.out.mono ((HS2.out.trans (HS3.out.mono HS2.out.size)).trans (HS4.out.mono (HS2.out.trans (HS3.out.mono HS2.out.size)).size)).size)).trans (HS6.out.mono (((HS2.out.trans (HS3.out.mono HS2.out.size)).trans (HS4.out.mono (HS2.out.trans (HS3.out.mono HS2.out.size)).size)).trans (HS5.out.mono ((HS2.out.trans (HS3.out.mono HS2.out.size)).trans (HS4.out.mono (HS2.out.trans (HS3.out.mono HS2.out.size)).size)).size)).size)).size)).size)))
 have X2 := Lib.hid (show Below V2.heap.size V2 V8 from (((((HS3.out.trans (HS4.out.mono HS3.out.size)).trans (HS5.out.mono (HS3.out.trans (HS4.out.mono HS3.out.size)).size)).trans (HS6.out.mono ((HS3.out.trans (HS4.out.mono HS3.out.size)).trans (HS5.out.mono (HS3.out.trans (HS4.out.mono HS3.out.size)).size)).size)).trans (HS7.out.mono (((HS3.out.trans (HS4.out.mono HS3.out.size)).trans (HS5.out.mono (HS3.out.trans (HS4.out.mono HS3.out.size)).size)).trans (HS6.out.mono ((HS3.out.trans (HS4.out.mono HS3.out.size)).trans (HS5.out.mono (HS3.out.trans (HS4.out.mono HS3.out.size)).size)).size)).size)).trans (HS8.out.mono ((((HS3.out.trans (HS4.out.mono HS3.out.size)).trans (HS5.out.mono (HS3.out.trans (HS4.out.mono HS3.out.size)).size)).trans (HS6.out.mono ((HS3.out.trans (HS4.out.mono HS3.out.size)).trans (HS5.out.mono (HS3.out.trans (HS4.out.mono HS3.out.size)).size)).size)).trans (HS7.out.mono (((HS3.out.trans (HS4.out.mono HS3.out.size)).trans (HS5.out.mono (HS3.out.trans (HS4.out.mono HS3.out.size)).size)).trans (HS6.out.mono ((HS3.out.trans (HS4.out.mono HS3.out.size)).trans (HS5.out.mono (HS3.out.trans (HS4.out.mono HS3.out.size)).size)).size)).size)).size)))
 have X3 := Lib.hid (show Below V3.heap.size V3 V8 from ((((HS4.out.trans (HS5.out.mono HS4.out.size)).trans (HS6.out.mono (HS4.out.trans (HS5.out.mono HS4.out.size)).size)).trans (HS7.out.mono ((HS4.out.trans (HS5.out.mono HS4.out.size)).trans (HS6.out.mono (HS4.out.trans (HS5.out.mono HS4.out.size)).size)).size)).trans (HS8.out.mono (((HS4.out.trans (HS5.out.mono HS4.out.size)).trans (HS6.out.mono (HS4.out.trans (HS5.out.mono HS4.out.size)).size)).trans (HS7.out.mono ((HS4.out.trans (HS5.out.mono HS4.out.size)).trans (HS6.out.mono (HS4.out.trans (HS5.out.mono HS4.out.size)).size)).size)).size)))
 have X4 := Lib.hid (show Below V4.heap.size V4 V8 from (((HS5.out.trans (HS6.out.mono HS5.out.size)).trans (HS7.out.mono (HS5.out.trans (HS6.out.mono HS5.out.size)).size)).trans (HS8.out.mono ((HS5.out.trans (HS6.out.mono HS5.out.size)).trans (HS7.out.mono (HS5.out.trans (HS6.out.mono HS5.out.size)).size)).size)))
 have X5 := Lib.hid (show Below V5.heap.size V5 V8 from ((HS6.out.trans (HS7.out.mono HS6.out.size)).trans (HS8.out.mono (HS6.out.trans (HS7.out.mono HS6.out.size)).size)))
 have X6 := Lib.hid (show Below V6.heap.size V6 V8 from (HS7.out.trans (HS8.out.mono HS7.out.size)))
 have X7 := Lib.hid (show Below V7.heap.size V7 V8 from HS8.out)
 have X8 := Lib.hid (show Below V8.heap.size V8 V8 from (Below.refl _ _))
 have Sa := Lib.hid (fun X (g : Below V8.heap.size V8 X) => sameProofs_any A1 A2 n1 c1 n2 c2 l1 l2 X ((P1.out.below X1.out).below g) ((P2.out.below X2.out).below g) N1.out (Q1.out.trans Q2.out.symm))
 have Sb := Lib.hid (fun X (g : Below V8.heap.size V8 X) => sameProofs_any A3 A4 n3 c3 n4 c4 l3 l4 X ((P3.out.below X3.out).below g) ((P4.out.below X4.out).below g) N3.out (Q3.out.trans Q4.out.symm))
 have Sc := Lib.hid (fun X (g : Below V8.heap.size V8 X) => (show Calls Tryz.prog 19 #[.slice A5 n5 c5, .slice A6 n6 c6] X fun e w' => e = .returned (.bool true) ∧ Below X.heap.size X w' by have := sameInts_any A5 A6 n5 c5 n6 c6 LD LD X ((I5.out.below X5.out).below g) ((I6.out.below X6.out).below g) (by have h1 := HDN.out; have h2 := I5.out.1; omega) (by have h1 := HDN.out; have h2 := I6.out.1; omega); rwa [decide_eq_true rfl] at this))
 have Sd := Lib.hid (fun X (g : Below V8.heap.size V8 X) => (show Calls Tryz.prog 19 #[.slice A7 n7 c7, .slice A8 n8 c8] X fun e w' => e = .returned (.bool true) ∧ Below X.heap.size X w' by have := sameInts_any A7 A8 n7 c7 n8 c8 LC LC X ((I7.out.below X7.out).below g) ((I8.out.below X8.out).below g) (by have h1 := HCN.out; have h2 := I7.out.1; omega) (by have h1 := HCN.out; have h2 := I8.out.1; omega); rwa [decide_eq_true rfl] at this))
 have Y63 := Lib.hid (fun X (g : Below V8.heap.size V8 X) => T63.out X (GV8.out.trans (g.mono GV8.out.size)))
 have Y64 := Lib.hid (fun X (g : Below V8.heap.size V8 X) => T64.out X (GV8.out.trans (g.mono GV8.out.size)))
 have Y48 := Lib.hid (fun X (g : Below V8.heap.size V8 X) => T48.out X (GV8.out.trans (g.mono GV8.out.size)))
 have Y65 := Lib.hid (fun X (g : Below V8.heap.size V8 X) => T65.out X (GV8.out.trans (g.mono GV8.out.size)))
 have k0 := cellW (BV8.out.cell 0)
 have k1 := cellW (BV8.out.cell 1)
 have k2 := cellW (BV8.out.cell 2)
 have k3 := cellW (BV8.out.cell 3)
 have k4 := cellW (BV8.out.cell 4)
 have k5 := cellW (BV8.out.cell 5)
 have k6 := cellW (BV8.out.cell 6)
 have k7 := cellW (BV8.out.cell 7)
 have k8 := cellW (BV8.out.cell 8)
 have hEA : (EA == EA) = true := by simp
 have hEW : (EW == EW) = true := by simp
 have hED : (ED == ED) = true := by simp
 have hEC : (EC == EC) = true := by simp
 have hEP : (EP == EP) = true := by simp
 have hEL : (EL == EL) = true := by simp
 refine wp_region_calm V8 (by kernel_rfl) (by kernel_rfl) (Below.refl _ _) ?_
 repeat (go_big_quiet_step (first | (go_at_call 62; with_reducible exact callsCalm (Sa.out _ (Wd.ok _))) | (go_at_call 62; with_reducible exact callsCalm (Sb.out _ (Wd.ok _))) | (go_at_call 19; with_reducible exact callsCalm (Sc.out _ (Wd.ok _))) | (go_at_call 19; with_reducible exact callsCalm (Sd.out _ (Wd.ok _))) | (go_at_call 63; with_reducible exact callsCalm (Y63.out _ (Wd.ok _))) | (go_at_call 64; with_reducible exact callsCalm (Y64.out _ (Wd.ok _))) | (go_at_call 48; with_reducible exact callsCalm (Y48.out _ (Wd.ok _))) | (go_at_call 65; with_reducible exact callsCalm (Y65.out _ (Wd.ok _))) | (go_at_call 20; with_reducible exact callsCalm (T20.out _))))
 refine wpQuiet_nil ?_
 rintro _ ⟨z, rfl⟩
 have GQ := Lib.hid (G1.out.trans ((GV8.out.trans (z.ok.mono GV8.out.size)).mono G1.out.size))
 go_wp2
 go_ret
 exact ⟨rfl, GQ.out⟩
end Go.Proofs.YtehhlgdkhecacaaGreat

namespace Go.Proofs.YtehhlgdkhecacaaGreat
open Go.ChangeShapes Go.WideShapes Go.ChangeAt Go.RowKit
theorem Tryz.own : ownKnob Tryz.prog.godebug = none := by kernel_rfl
theorem Tryz.laidOut : laidOutB Tryz.prog = true := by kernel_rfl
section
variable {H : Type} {enc : TypeId × Value → H} {P : Program}
/-- The arguments read behind the call as they read before. -/
theorem args_stay (hl : laidOutB P = true) {W W' : World} (hb : Below W.heap.size W W') {sp : Nat → Bool} :
  ∀ {ts : List TypeId} {vs : List Value} {ds : List (DataW H)} {ps : List MemPlace}, (ts.all fun t => P.readableRec t && decide (t < P.types.size)) = true → (∀ x ∈ ps, x.block < W.heap.size) → (∀ x ∈ ps, sp x.block = true) →
   DataW.TrodAll enc P W 0 (fun _ => true) true ts vs ds ps → DataW.TrodAll enc P W' 0 sp true ts vs ds ps
 | [], [], [], ps, _, _, _, h => h
 | t :: ts, v :: vs, d :: ds, ps, ht, hlt, hs, h => by
  obtain ⟨p, q, h1, h2, rfl⟩ := h
  simp only [List.all_cons, Bool.and_eq_true, decide_eq_true_eq] at ht
  exact ⟨p, q, WideElems.Trod_stays hl ht.1.1 ht.1.2 h1 (fun x hx => hb.same (hlt x (List.mem_append_left _ hx))) (fun x hx => hs x (List.mem_append_left _ hx)),
   args_stay hl hb ht.2 (fun x hx => hlt x (List.mem_append_right _ hx)) (fun x hx => hs x (List.mem_append_right _ hx)) h2, rfl⟩
 | [], [], _ :: _, _, _, _, _, h => h.elim
 | [], _ :: _, [], _, _, _, _, h => h.elim
 | [], _ :: _, _ :: _, _, _, _, _, h => h.elim
 | _ :: _, [], [], _, _, _, _, h => h.elim
 | _ :: _, [], _ :: _, _, _, _, _, h => h.elim
 | _ :: _, _ :: _, [], _, _, _, _, h => h.elim
/-- The end of a row: true came back; nothing that was there has turned. -/
theorem law_post {f : Func} {s : ChangeSpec} {apart fresh handsOn again : Bool} {W W' : World} {args : Array Value} {ds : List (DataW H)} {before : List MemPlace} (hl : laidOutB P = true)
  (hW : DataW.Whole enc P f.params.toList s.vars apart W args.toList ds [] before) (hA : DataW.TrodAll enc P W 0 (fun _ => true) true f.params.toList args.toList ds before) (hv : s.vars = [])
  (hrt : f.resultTypes = #[4]) (h4 : P.underlying 4 = some .bool) (hres : (s.fn H (ds ++ [])).results = [.lit (.bool true)]) (hargs : (s.fn H (ds ++ [])).args = ds) (hvars : (s.fn H (ds ++ [])).vars = [])
  (hp : (f.params.toList.all fun t => P.readableRec t && decide (t < P.types.size)) = true) (hb : Below W.heap.size W W') : s.post enc P f apart fresh handsOn again W args (.bool true) W' := by
 have hlt : ∀ p ∈ before, p.block < W.heap.size := fun p hp => hW.lt p hp
 have hA' : ∀ sp : Nat → Bool, (∀ p ∈ before, sp p.block = true) → DataW.TrodAll enc P W' 0 sp true f.params.toList args.toList (s.fn H (ds ++ [])).args before :=
  fun sp hsp => by rw [hargs]; exact args_stay hl hb hp hlt hsp hA
 have hV' : ∀ sp : Nat → Bool, DataW.TrodVars enc P W' sp s.vars (s.fn H (ds ++ [])).vars [] := fun sp => by rw [hv, hvars]; rfl
 have hR : ∀ (b : Nat) (sp : Nat → Bool) (hd : Bool), DataW.TrodAll enc P W' b sp hd f.resultTypes.toList ((Value.bool true).resultList f.resultTypes.size) (s.fn H (ds ++ [])).results [] := fun b sp hd => by
  rw [hres, hrt]; exact trodAll_mk1 (shut_bool h4 _)
 have hold : ∀ p ∈ before, (fun b => decide (b < W.heap.size)) p.block = true := fun p hp => by simpa using hlt p hp
 refine ⟨ds, [], before, [], before, [], hW, hR _ _ _, hA' _ hold, hV' _, World.keptBut_mono (fun p hp => ⟨hp, .inr (.inl hp)⟩) (hb.frame (· ∈ before)), fun _ => ?_⟩
 obtain ⟨_, _, _, _, _, hz, hn⟩ := hW
 refine ⟨?_, _, _, ([] ++ before) ++ [], ⟨[] ++ before, [], trodAll_append (hA' _ (fun _ _ => rfl)) (hR _ _ _), hV' _, rfl, ?_, ?_⟩, ?_⟩
 ·intro j t r hj hr
  exact ok_one hrt rfl (okWide_bool_mk h4 _) j t r hj hr
 ·intro b off hp
  have hin : MemPlace.cell b off ∈ before := by simpa using hp
  rw [hb.frozen (hlt _ hin)]
  exact hz b off hin
 ·intro ha
  have := hn ha
  simpa using this
 ·intro p hp _
  simpa using hp
end
theorem cells3 : Tryz.prog.cellsOf 3 = 1 := by kernel_rfl
theorem cells25 : Tryz.prog.cellsOf 25 = 1 := by kernel_rfl
theorem cells56 : Tryz.prog.cellsOf 56 = 9 := by kernel_rfl
section
variable {H : Type} {enc : TypeId × Value → H} {w : World} {base : Nat} {sp : Nat → Bool} {held : Bool} {fuel : Nat} {cs : List Value} {x : DataW H × List MemPlace}
theorem openInt (h : DataW.trod enc Tryz.prog w base sp held fuel 3 cs = some x) : ∃ a : Int, cs = [.int .i64 a] ∧ -9223372036854775808 ≤ a ∧ a ≤ 9223372036854775807 := by
 obtain ⟨a, ha, -, hw⟩ := DataW.trod_int Tryz.underlying3 h
 refine ⟨a, ha, ?_⟩
 have := hw
 simp [Lit.wf, IntKind.min, IntKind.max, IntKind.signed, IntKind.bits] at this
 omega
/-- A slice whose elements are known reads as a list. -/
theorem openSlice {α : Type} [Inhabited α] {f : α → List Value} {size : Nat} {t e : TypeId} (ht : Tryz.prog.underlying t = some (.slice e)) (he : Tryz.prog.cellsOf e = size) (hs : 0 < size)
  (hel : ∀ fuel cs x, DataW.trod enc Tryz.prog w base sp held fuel e cs = some x → ∃ a, cs = f a) (h : DataW.trod enc Tryz.prog w base sp held fuel t cs = some x) :
  ∃ A n c xs, cs = [.slice A n c] ∧ n ≤ c ∧ c ≤ maxLen ∧ Arr f size w A n xs := by
 rcases DataW.trod_slice ht h with ⟨h0, -⟩ | ⟨a, len, cap, elems, rest, n, -, rfl, -, hb, hl, hm, hlen, hel1, -, -⟩
 ·exact ⟨none, 0, 0, [], h0, Nat.le_refl _, Nat.zero_le _, Arr.nil_⟩
 ·have each : ∀ i, i < len → ∃ y, w.cells? base (a.add (i * size)) size = some (f y) := by
   intro i hi
   have h1 := hel1 i hi
   rw [List.getElem?_eq_getElem (by omega), he] at h1
   obtain ⟨cs', h2, h3⟩ := Option.bind_eq_some_iff.1 h1
   obtain ⟨y, rfl⟩ := hel _ _ _ h3
   exact ⟨y, h2⟩
  obtain ⟨q, hq⟩ := Go.Deep.choose_lt each
  refine ⟨some a, len, cap, (List.range len).map q, rfl, hl, hm, by simp, fun hn => ?_⟩
  obtain ⟨b, o, spot⟩ := a
  have h0 := World.cells?_some (hq 0 hn)
  have hne : ∃ c0, (f (q 0))[0]? = some c0 := ⟨_, List.getElem?_eq_getElem (by rw [h0.2.1]; exact hs)⟩
  obtain ⟨c0, hc0⟩ := hne
  have g0 := h0.2.2 0 hs
  rw [hc0] at g0
  have hspot : spot = none := by simpa [Addr.add] using World.cell?_spot g0
  subst hspot
  have hbl := World.block_lt_of_cell? w _ g0
  simp only [Nat.zero_mul, add_at, Nat.add_zero] at hbl
  refine ⟨b, o, rfl, hbl, fun k y hy j u hu => ?_⟩
  have hk : k < len := by have := (List.getElem?_eq_some_iff.1 hy).1; simpa using this
  have ey : y = q k := by rw [List.getElem?_map, List.getElem?_range hk] at hy; simpa using hy.symm
  subst ey
  have hk2 := World.cells?_some (hq k hk)
  have hj : j < size := by rw [← hk2.2.1]; exact (List.getElem?_eq_some_iff.1 hu).1
  have := hk2.2.2 j hj
  rw [add_at, add_at, hu] at this
  exact this
theorem Arr.vals_ {α β : Type} {f : α → List Value} {g : β → α} {size : Nat} {w : World} {A : Option Addr} {n : Nat} {xs : List β} (h : Arr (fun x => f (g x)) size w A n xs) : Arr f size w A n (xs.map g) := by
 refine ⟨by rw [List.length_map]; exact h.1, fun h0 => ?_⟩
 obtain ⟨b, o, e, hb, hc⟩ := h.2 h0
 refine ⟨b, o, e, hb, fun k y hy j u hu => ?_⟩
 rw [List.getElem?_map] at hy
 obtain ⟨z, hz, rfl⟩ := Option.map_eq_some_iff.1 hy
 exact hc k z hz j u hu
instance : Inhabited {q : Ra // RaOk q} := ⟨⟨r0, by unfold RaOk I64 r0; decide⟩⟩
set_option maxRecDepth 100000 in
theorem openIs {cs : List Value} (h : DataW.trod enc Tryz.prog w base sp held fuel 25 cs = some x) : ∃ A n c xs, cs = [.slice A n c] ∧ n ≤ c ∧ c ≤ maxLen ∧ Ints w A n xs :=
 openSlice (f := icells) Tryz.underlying25 cells3 (by decide) (fun _ _ _ hq => by obtain ⟨a, e, -⟩ := openInt hq; exact ⟨a, e⟩) h
instance : Inhabited {p : Pf // PI w p} := ⟨⟨p0, Arr.nil_, Nat.le_refl _, Nat.zero_le _⟩⟩
set_option maxRecDepth 100000 in
theorem openPr {cs : List Value} (h : DataW.trod enc Tryz.prog w base sp held fuel 56 cs = some x) : ∃ q : {p : Pf // PI w p}, cs = pcells q.val := by
 obtain ⟨xs, n, -, -, hl, hxl, hf⟩ := DataW.trod_struct Tryz.underlying56 h
 have hxl' : xs.length = 9 := hxl
 have h0 : DataW.trod enc Tryz.prog w base sp held n 3 ((cs.drop 0).take (Tryz.prog.cellsOf 3)) = xs[0]? := hf 0 _ rfl
 have h1 : DataW.trod enc Tryz.prog w base sp held n 3 ((cs.drop 1).take (Tryz.prog.cellsOf 3)) = xs[1]? := hf 1 _ rfl
 have h2 : DataW.trod enc Tryz.prog w base sp held n 25 ((cs.drop 2).take (Tryz.prog.cellsOf 25)) = xs[2]? := hf 2 _ rfl
 have h3 : DataW.trod enc Tryz.prog w base sp held n 3 ((cs.drop 3).take (Tryz.prog.cellsOf 3)) = xs[3]? := hf 3 _ rfl
 have h4 : DataW.trod enc Tryz.prog w base sp held n 3 ((cs.drop 4).take (Tryz.prog.cellsOf 3)) = xs[4]? := hf 4 _ rfl
 have h5 : DataW.trod enc Tryz.prog w base sp held n 3 ((cs.drop 5).take (Tryz.prog.cellsOf 3)) = xs[5]? := hf 5 _ rfl
 have h6 : DataW.trod enc Tryz.prog w base sp held n 3 ((cs.drop 6).take (Tryz.prog.cellsOf 3)) = xs[6]? := hf 6 _ rfl
 have h7 : DataW.trod enc Tryz.prog w base sp held n 3 ((cs.drop 7).take (Tryz.prog.cellsOf 3)) = xs[7]? := hf 7 _ rfl
 have h8 : DataW.trod enc Tryz.prog w base sp held n 3 ((cs.drop 8).take (Tryz.prog.cellsOf 3)) = xs[8]? := hf 8 _ rfl
 rw [cells3] at h0 h1 h3 h4 h5 h6 h7 h8
 rw [cells25] at h2
 rw [cells56] at hl
 match cs, hl with
 | [c0, c1, c2, c3, c4, c5, c6, c7, c8], _ =>
  obtain ⟨a0, e0, -⟩ := openInt (h0.trans (List.getElem?_eq_getElem (by omega)))
  obtain ⟨a1, e1, -⟩ := openInt (h1.trans (List.getElem?_eq_getElem (by omega)))
  obtain ⟨A2, n2, m2, l2, e2, k1, k2, k3⟩ := openIs (h2.trans (List.getElem?_eq_getElem (by omega)))
  obtain ⟨a3, e3, -⟩ := openInt (h3.trans (List.getElem?_eq_getElem (by omega)))
  obtain ⟨a4, e4, -⟩ := openInt (h4.trans (List.getElem?_eq_getElem (by omega)))
  obtain ⟨a5, e5, -⟩ := openInt (h5.trans (List.getElem?_eq_getElem (by omega)))
  obtain ⟨a6, e6, -⟩ := openInt (h6.trans (List.getElem?_eq_getElem (by omega)))
  obtain ⟨a7, e7, -⟩ := openInt (h7.trans (List.getElem?_eq_getElem (by omega)))
  obtain ⟨a8, e8, -⟩ := openInt (h8.trans (List.getElem?_eq_getElem (by omega)))
  simp at e0 e1 e2 e3 e4 e5 e6 e7 e8
  subst e0 e1 e2 e3 e4 e5 e6 e7 e8
  unfold maxLen at k2
  exact ⟨⟨⟨⟨a0, a1, l2, a3, a4, a5, a6, a7, a8⟩, A2, n2, m2⟩, k3, k1, by show n2 ≤ 9223372036854775807; omega⟩, rfl⟩
variable {r : Reach} {b0 : Nat} {v : Value} {d : DataW H} {p : List MemPlace}
set_option maxRecDepth 100000 in
theorem openIntV (hv : Value.okWide Tryz.prog w r b0 3 v) (h : DataW.Trod enc Tryz.prog w base sp held 3 v d p) : ∃ a : Int, v = .int .i64 a ∧ -9223372036854775808 ≤ a ∧ a ≤ 9223372036854775807 := by
 obtain ⟨n, rfl, -⟩ := okWide_int Tryz.underlying3 hv
 obtain ⟨fuel, hf⟩ := h
 obtain ⟨a, e, h1⟩ := openInt hf
 simp [Value.cells] at e
 subst e
 exact ⟨n, rfl, h1⟩
set_option maxRecDepth 100000 in
theorem openPrs (hv : Value.okWide Tryz.prog w r b0 22 v) (h : DataW.Trod enc Tryz.prog w base sp held 22 v d p) : ∃ A n c l, v = .slice A n c ∧ n ≤ 9223372036854775807 ∧ Prf w A n l := by
 obtain ⟨fuel, hf⟩ := h
 obtain ⟨A, n, c, xs, e, h1, h2, h3⟩ := openSlice (f := fun q : {q : Pf // PI w q} => pcells q.val) Tryz.underlying22 cells56 (by decide) (fun _ _ _ hq => openPr hq) hf
 have hv1 : v = .slice A n c := by
  have hcl := okWide_slice Tryz.underlying22 hv
  obtain ⟨a, l, k, rfl, -⟩ := hcl
  simpa [Value.cells] using e
 unfold maxLen at h2
 refine ⟨A, n, c, xs.map Subtype.val, hv1, by omega, h3.vals_, fun q hq => ?_⟩
 obtain ⟨y, -, rfl⟩ := List.mem_map.1 hq
 exact y.property
set_option maxRecDepth 100000 in
theorem openPrV (hv : Value.okWide Tryz.prog w r b0 56 v) (h : DataW.Trod enc Tryz.prog w base sp held 56 v d p) : ∃ q : Pf, v = pv q ∧ PI w q := by
 obtain ⟨cs, rfl, hsz⟩ := okWide_struct Tryz.underlying56 hv
 obtain ⟨fuel, hf⟩ := h
 rw [cells56] at hsz
 obtain ⟨u0, u1, u2, u3, u4, u5, u6, u7, u8, rfl⟩ : ∃ u0 u1 u2 u3 u4 u5 u6 u7 u8, cs = #[u0, u1, u2, u3, u4, u5, u6, u7, u8] := by
  obtain ⟨l⟩ := cs
  match l, hsz with
  | [u0, u1, u2, u3, u4, u5, u6, u7, u8], _ => exact ⟨u0, u1, u2, u3, u4, u5, u6, u7, u8, rfl⟩
 obtain ⟨xs, n, -, -, hl, hxl, hf⟩ := DataW.trod_struct Tryz.underlying56 hf
 have hxl' : xs.length = 9 := hxl
 have h0 : DataW.trod enc Tryz.prog w base sp held n 3 (((Value.agg #[u0, u1, u2, u3, u4, u5, u6, u7, u8]).cells.toList.drop 0).take (Tryz.prog.cellsOf 3)) = xs[0]? := hf 0 _ rfl
 have h1 : DataW.trod enc Tryz.prog w base sp held n 3 (((Value.agg #[u0, u1, u2, u3, u4, u5, u6, u7, u8]).cells.toList.drop 1).take (Tryz.prog.cellsOf 3)) = xs[1]? := hf 1 _ rfl
 have h2 : DataW.trod enc Tryz.prog w base sp held n 25 (((Value.agg #[u0, u1, u2, u3, u4, u5, u6, u7, u8]).cells.toList.drop 2).take (Tryz.prog.cellsOf 25)) = xs[2]? := hf 2 _ rfl
 have h3 : DataW.trod enc Tryz.prog w base sp held n 3 (((Value.agg #[u0, u1, u2, u3, u4, u5, u6, u7, u8]).cells.toList.drop 3).take (Tryz.prog.cellsOf 3)) = xs[3]? := hf 3 _ rfl
 have h4 : DataW.trod enc Tryz.prog w base sp held n 3 (((Value.agg #[u0, u1, u2, u3, u4, u5, u6, u7, u8]).cells.toList.drop 4).take (Tryz.prog.cellsOf 3)) = xs[4]? := hf 4 _ rfl
 have h5 : DataW.trod enc Tryz.prog w base sp held n 3 (((Value.agg #[u0, u1, u2, u3, u4, u5, u6, u7, u8]).cells.toList.drop 5).take (Tryz.prog.cellsOf 3)) = xs[5]? := hf 5 _ rfl
 have h6 : DataW.trod enc Tryz.prog w base sp held n 3 (((Value.agg #[u0, u1, u2, u3, u4, u5, u6, u7, u8]).cells.toList.drop 6).take (Tryz.prog.cellsOf 3)) = xs[6]? := hf 6 _ rfl
 have h7 : DataW.trod enc Tryz.prog w base sp held n 3 (((Value.agg #[u0, u1, u2, u3, u4, u5, u6, u7, u8]).cells.toList.drop 7).take (Tryz.prog.cellsOf 3)) = xs[7]? := hf 7 _ rfl
 have h8 : DataW.trod enc Tryz.prog w base sp held n 3 (((Value.agg #[u0, u1, u2, u3, u4, u5, u6, u7, u8]).cells.toList.drop 8).take (Tryz.prog.cellsOf 3)) = xs[8]? := hf 8 _ rfl
 rw [cells3] at h0 h1 h3 h4 h5 h6 h7 h8
 rw [cells25] at h2
 obtain ⟨a0, e0, -⟩ := openInt (h0.trans (List.getElem?_eq_getElem (by omega)))
 obtain ⟨a1, e1, -⟩ := openInt (h1.trans (List.getElem?_eq_getElem (by omega)))
 obtain ⟨A2, n2, m2, l2, e2, k1, k2, k3⟩ := openIs (h2.trans (List.getElem?_eq_getElem (by omega)))
 obtain ⟨a3, e3, -⟩ := openInt (h3.trans (List.getElem?_eq_getElem (by omega)))
 obtain ⟨a4, e4, -⟩ := openInt (h4.trans (List.getElem?_eq_getElem (by omega)))
 obtain ⟨a5, e5, -⟩ := openInt (h5.trans (List.getElem?_eq_getElem (by omega)))
 obtain ⟨a6, e6, -⟩ := openInt (h6.trans (List.getElem?_eq_getElem (by omega)))
 obtain ⟨a7, e7, -⟩ := openInt (h7.trans (List.getElem?_eq_getElem (by omega)))
 obtain ⟨a8, e8, -⟩ := openInt (h8.trans (List.getElem?_eq_getElem (by omega)))
 simp [Value.cells] at e0 e1 e2 e3 e4 e5 e6 e7 e8
 subst e0 e1 e2 e3 e4 e5 e6 e7 e8
 unfold maxLen at k2
 exact ⟨⟨⟨a0, a1, l2, a3, a4, a5, a6, a7, a8⟩, A2, n2, m2⟩, rfl, k3, k1, by show n2 ≤ 9223372036854775807; omega⟩
end
end Go.Proofs.YtehhlgdkhecacaaGreat
