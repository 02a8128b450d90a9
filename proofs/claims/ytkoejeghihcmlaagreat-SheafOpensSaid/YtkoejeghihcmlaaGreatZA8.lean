/- Part of the proof: WI, WL, WK, WN. -/
import Derived.Test.YtkoejeghihcmlaaGreatZA2
import Derived.Test.YtkoejeghihcmlaaGreatZA4
import Derived.Test.YtkoejeghihcmlaaGreatZA5
import Derived.Test.YtkoejeghihcmlaaGreatZA7
namespace Go.Proofs.YtkoejeghihcmlaaGreat
open Go.RowKit Go.Shelf Go.Maps
attribute [local go_sem] Oper.semAt_some
/-- A map from numbers to numbers. -/
def NumMap (w : World) (b m : Nat) (g : Int → Int) : Prop :=
 ∃ (n : Nat) (D : DataW Unit), n ≤ m ∧ w.ownsMap Tryz.prog 3 (plainElem Tryz.prog 3) b n D ∧ ∀ i : Int, 0 ≤ i → i ≤ 100000 → D.atKey (.int .i64 i) (.lit (.int .i64 0)) = .lit (.int .i64 (g i))
theorem NumMap.lt {w : World} {b m : Nat} {g : Int → Int} (h : NumMap w b m g) : b < w.heap.size := by
 obtain ⟨n, D, -, h2, -⟩ := h
 exact h2.lt
theorem NumMap.same {w w' : World} {b m : Nat} {g : Int → Int} (h : NumMap w b m g) (e : w'.heap[b]? = w.heap[b]?) : NumMap w' b m g := by
 obtain ⟨n, D, h1, ⟨es, clock, hb, F, hs, hD⟩, h3⟩ := h
 exact ⟨n, D, h1, ⟨es, clock, e.trans hb, F, hs, hD⟩, h3⟩
theorem NumMap.ext {w w' : World} {b m : Nat} {g : Int → Int} (h : NumMap w b m g) (k : Below w.heap.size w w') : NumMap w' b m g := h.same (k.block b h.lt)
theorem NumMap.new (w : World) : NumMap (w.alloc (.map #[] 0)) w.heap.size 0 (fun _ => 0) := ⟨0, .map [], Nat.le_refl _, World.ownsMap_made _ _ _ _, fun _ _ _ => rfl⟩
theorem NumMap.look {w : World} {b m : Nat} {g : Int → Int} (h : NumMap w b m g) {i : Int} (h0 : 0 ≤ i) (h1 : i ≤ 100000) :
  (Instr.lookup 230 (.map (some b)) (.int .i64 i) false).run Tryz.prog w = .ok (.int .i64 (g i)) w := by
 obtain ⟨n, D, -, h2, h3⟩ := h
 obtain ⟨c, hrun, hat, -⟩ := h2.lookup_int (int_keyed Tryz.underlying3) Tryz.underlying230 Tryz.underlying3 (Tryz.zeroValue3 _) (keyOf_int_mk Tryz.underlying3 (lit_wf h0 h1))
 rw [h3 i h0 h1] at hat
 cases hat
 exact hrun
theorem NumMap.put {w' : World} {b m n : Nat} {g : Int → Int} {D : DataW Unit} {i v : Int} (h0 : 0 ≤ i) (h1 : i ≤ 100000) (hn : n ≤ m) (hm : IsMap D) (h3 : ∀ i : Int, 0 ≤ i → i ≤ 100000 → D.atKey (.int .i64 i) (.lit (.int .i64 0)) = .lit (.int .i64 (g i)))
  (h : w'.ownsMap Tryz.prog 3 (plainElem Tryz.prog 3) b (n + 1) (D.put (.int .i64 i) (.lit (.int .i64 v)))) : NumMap w' b (m + 1) (fun j => if j = i then v else g j) := by
 refine ⟨n + 1, _, by omega, h, fun j hj0 hj1 => ?_⟩
 by_cases e : j = i
 ·subst e
  dsimp only
  rw [atKey_put_same hm (by unfold WideAt.IsKeyLit; trivial), if_pos rfl]
 ·dsimp only
  rw [atKey_put_other (by intro e2; cases e2; exact e rfl), h3 j hj0 hj1, if_neg e]
theorem NumMap.mono {w : World} {b m m' : Nat} {g : Int → Int} (h : NumMap w b m g) (hm : m ≤ m') : NumMap w b m' g := by
 obtain ⟨n, D, h1, h2, h3⟩ := h
 exact ⟨n, D, by omega, h2, h3⟩
theorem NumMap.congr {w : World} {b m : Nat} {g g' : Int → Int} (h : NumMap w b m g) (e : ∀ i, g i = g' i) : NumMap w b m g' := (funext e : g = g') ▸ h
theorem wf_i64 {v : Int} (h : -9223372036854775808 ≤ v ∧ v ≤ 9223372036854775807) : (Lit.int .i64 v).wf = true := by
 have e1 : IntKind.i64.min = -9223372036854775808 := by decide
 have e2 : IntKind.i64.max = 9223372036854775807 := by decide
 show (decide (IntKind.i64.min ≤ v) && decide (v ≤ IntKind.i64.max)) = true
 rw [e1, e2]
 simp only [Bool.and_eq_true, decide_eq_true_eq]
 exact h
def byAt (g : Int → Int) (ls : List Six) {n : Nat} (x : Cx n) : Int := g (ls.getD x.1 z6).a
/-- What numbers returns. -/
def NumEnd (p : Pl) (known sown : Int) (ns : List Int) (w : World) (e : Ending) (w' : World) : Prop :=
 (∃ v, e = .returned (.tuple #[v, .bool (numsB p known sown ns)]) ∧ (numsB p known sown ns = true → OwnL icells 1 3 w' w.heap.size v (numsL p known ns)) ∧ (numsB p known sown ns = false → v = .slice none 0 0)) ∧ Below w.heap.size w w'
set_option maxRecDepth 100000 in
set_option maxHeartbeats 16000000 in
theorem numbers_any (p : Pl) (A1 A2 A3 : Option Addr) (n1 c1 n2 c2 n3 c3 pb bf : Nat) (known : Int) (A : Option Addr) (n c : Nat) (v3 : Value) (N : Option Addr) (nn cn : Nat) (ns : List Int) (sown : Int) (w : World)
  (hP : Blk w pb 38 (plb p A1 A2 A3 n1 c1 n2 c2 n3 c3)) (hp : Pa w p A1 A2 A3 n1 c1 n2 c2 n3 c3) (hok : okPl p = true) (h60 : n ≤ 1000)
  (hF : Blk w bf 152 #[.pointer (some ⟨pb, 0, none⟩), .int .i64 known, .slice A n c, v3]) (ha : Arr scells 6 w A n (lookL p known every)) (hns : Ints w N nn ns)
  (hI : ∀ x ∈ ns, -9223372036854775808 ≤ x ∧ x ≤ 9223372036854775807) (hnn : nn ≤ 9223372036854775807) :
  Calls Tryz.prog 166 #[.pointer (some ⟨bf, 0, none⟩), .agg #[.int .i64 sown, .slice N nn cn]] w (NumEnd p known sown ns w) := by
 obtain ⟨W1, hW1⟩ : ∃ W1, w.alloc (.cells #[.int .i64 sown, .slice N nn cn] 41) = W1 := ⟨_, rfl⟩
 have g1 : Below w.heap.size w W1 := by rw [← hW1]; exact one_more _ _
 have b1 : Blk W1 w.heap.size 41 #[.int .i64 sown, .slice N nn cn] := by rw [← hW1]; exact Blk.new _ _ _
 have hln := hns.1
 have hla := ha.1
 have hl1 := hp.l1.1
 have hPs := hP.lt
 have hFs := hF.lt
 have G1 := Lib.hid g1
 have HB1 := Lib.hid b1
 have HP1 := Lib.hid (hP.ext g1)
 have HF1 := Lib.hid (hF.ext g1)
 have HPA := Lib.hid (hp.below g1)
 have HA1 := Lib.hid (ha.below g1)
 have HN1 := Lib.hid (hns.below g1)
 have HI := Lib.hid hI
 have HOK := Lib.hid hok
 have HLN := Lib.hid hln
 have HLA := Lib.hid hla
 have HL1 := Lib.hid hl1
 have hpar := ok_parts hok
 have h160 : n1 ≤ 60 := by have := hpar.2.2.2.2.2.1; omega
 have HNB := Lib.hid (show numsB p known sown ns = (decide (nn = n) && rng sown p.lo p.hi) by unfold numsB; rw [hln, hla])
 have u0 := cellW (b1.cell 0)
 have u1 := cellW (b1.cell 1)
 have u2 := cellW (HF1.out.cell 0)
 have u3 := cellW (HF1.out.cell 2)
 have u4 := cellW (HP1.out.cell 0)
 have u5 := cellW (HP1.out.cell 1)
 have HW1 := Lib.hid hW1
 clear hP hp hF ha hns hI hok hW1 g1 b1 hpar hln hla hl1
 obtain ⟨rv, hrv⟩ : ∃ b, rng sown p.lo p.hi = b := ⟨_, rfl⟩
 have TW := fun W => within_any sown p.lo p.hi W
 rw [hrv] at HNB TW
 have HTW := Lib.hid TW
 clear hrv TW
 refine (callsIn_wide (n := 4)).1 (callsIn_of_wp_marks Tryz.func166 rfl trivial ?_ rfl)
 simp only [Tryz.ntmps166, List.size_toArray, List.length_cons, List.length_nil, Nat.reduceAdd, Nat.reduceSub, Array.replicate_succ, Array.replicate_zero, List.push_toArray, List.append_toArray, List.nil_append, List.cons_append]
 refine wpIn_wide.2 ?_
 by_cases hnq : nn = n
 case neg =>
  have e1 : ((nn : Int) != (n : Int)) = true := by simp; omega
  have HNB2 := Lib.hid (show numsB p known sown ns = false by rw [HNB.out, decide_eq_false hnq]; rfl)
  go_upto_region 1 with fail
  rw [HW1.out]
  refine wp_region_calm W1 (by kernel_rfl) (by kernel_rfl) (Below.refl _ _) ?_
  repeat (go_big_quiet_step (first | (go_at_call 145; exact callsCalmSame (HTW.out _))))
  refine wpQuiet_nil ?_
  rintro _ ⟨z, rfl⟩
  go_wp2_with fail
  exact ⟨_, results_tmp2 rfl _ _ _, ⟨_, by rw [HNB2.out]; rfl, fun h => (by rw [HNB2.out] at h; cases h), fun _ => rfl⟩, G1.out.trans (z.ok.mono G1.out.size)⟩
 case pos =>
  subst hnq
  cases rv with
  | false =>
   have HNB2 := Lib.hid (show numsB p known sown ns = false by rw [HNB.out]; simp)
   go_upto_region 1 with fail
   rw [HW1.out]
   refine wp_region_calm W1 (by kernel_rfl) (by kernel_rfl) (Below.refl _ _) ?_
   repeat (go_big_quiet_step (first | (go_at_call 145; exact callsCalmSame (HTW.out _))))
   refine wpQuiet_nil ?_
   rintro _ ⟨z, rfl⟩
   go_wp2_with fail
   exact ⟨_, results_tmp2 rfl _ _ _, ⟨_, by rw [HNB2.out]; rfl, fun h => (by rw [HNB2.out] at h; cases h), fun _ => rfl⟩, G1.out.trans (z.ok.mono G1.out.size)⟩
  | true =>
   have HNB2 := Lib.hid (show numsB p known sown ns = true by rw [HNB.out]; simp)
   go_upto_region 1 with fail
   rw [HW1.out]
   refine wp_region_calm W1 (by kernel_rfl) (by kernel_rfl) (Below.refl _ _) ?_
   repeat (go_big_quiet_step (first | (go_at_call 145; exact callsCalmSame (HTW.out _))))
   refine wpQuiet_nil ?_
   rintro _ ⟨z, rfl⟩
   clear u0 u1 u2 u3 u4 u5
   have G2 := Lib.hid (G1.out.trans (z.ok.mono G1.out.size))
   have HB2 := Lib.hid (HB1.out.ext z.ok)
   have HP2 := Lib.hid (HP1.out.ext z.ok)
   have HF2 := Lib.hid (HF1.out.ext z.ok)
   have HPA2 := Lib.hid (HPA.out.below z.ok)
   have HA2 := Lib.hid (HA1.out.below z.ok)
   have HN2 := Lib.hid (HN1.out.below z.ok)
   obtain ⟨V, hV⟩ : ∃ V, z.val = V := ⟨_, rfl⟩
   rw [hV] at G2 HB2 HP2 HF2 HPA2 HA2 HN2 ⊢
   clear hV z
   have hGs := G2.out.size
   have hbV := HB2.out.lt
   have hmm := @run_makeMap Tryz.prog
   go_upto_region 5 with fail
   clear hmm
   obtain ⟨W2, hW2⟩ : ∃ W, (V.alloc (.map #[] 0)).alloc (.cells #[.map (some V.heap.size)] 230) = W := ⟨_, rfl⟩
   rw [hW2]
   have g2 : Below V.heap.size V W2 := by rw [← hW2]; exact two_more _ _ _
   have nm2 : NumMap W2 V.heap.size 0 (gK (cntK p known 0) ns) := by rw [← hW2]; exact ((NumMap.new V).ext (one_more _ _)).congr (fun i => by rfl)
   have bb2 : Blk W2 (V.heap.size + 1) 230 #[.map (some V.heap.size)] := by rw [← hW2]; have := Blk.new (V.alloc (.map #[] 0)) 230 #[.map (some V.heap.size)]; rwa [World.size_alloc] at this
   have G3 := Lib.hid (G2.out.trans (g2.mono G2.out.size))
   have HB3 := Lib.hid (HB2.out.ext g2)
   have HP3 := Lib.hid (HP2.out.ext g2)
   have HF3 := Lib.hid (HF2.out.ext g2)
   have HPA3 := Lib.hid (HPA2.out.below g2)
   have HA3 := Lib.hid (HA2.out.below g2)
   have HN3 := Lib.hid (HN2.out.below g2)
   have HBB := Lib.hid bb2
   have HNM := Lib.hid nm2
   have hbs2 := bb2.lt
   have hPs2 := HP2.out.lt
   have hFs2 := HF2.out.lt
   obtain ⟨bm, hbm⟩ : ∃ b, V.heap.size = b := ⟨_, rfl⟩
   rw [hbm] at HBB HNM hbs2 hPs2 hFs2 hbV hGs ⊢
   have f0 := HF3.out.cell 0
   have q1 := HP3.out.cell 2
   clear hW2 g2 nm2 bb2
   go_upto_region 6 with fail
   go_loopw [7, 53] (fun k7 i wr => ∃ k : Nat, k ≤ n1 ∧ i = .int .i64 k ∧ k7 = .int .i64 ((cntK p known k).length : Nat) ∧ Fix bm bm W2 wr ∧ NumMap wr bm k (gK (cntK p known k) ns)) (fun _ i _ => n1 - (intOf i).toNat)
   case atStart => exact ⟨0, Nat.zero_le _, rfl, rfl, Fix.refl _ _ _, HNM.out⟩
   case round =>
    obtain ⟨k, hk, rfl, rfl, hfx, hnm⟩ := hrel
    have HFX := Lib.hid hfx
    have HNK := Lib.hid hnm
    have hkl : (cntK p known k).length ≤ k := cntK_len
    have hbmw := hnm.lt
    by_cases hkn : k < n1
    ·have HPW := Lib.hid (HPA3.out.l1.fix hfx (fun b o e h0 => by
      obtain ⟨b', o', e', hlt, -⟩ := HPA2.out.l1.2 h0
      rw [e] at e'; cases e'
      omega))
     obtain ⟨b0, o0, e0, -, -, hc⟩ := six_at HPW.out hkn
     obtain ⟨x0, x1, x2, x3, x4, x5⟩ := hc wr (Below.refl _ _)
     have hkl1 : k < p.loads.length := by rw [HL1.out]; exact hkn
     have HSR := Lib.hid (cntK_src HOK.out (k := k) (known := known) hkl1)
     have HSU := Lib.hid (cntK_succ (p := p) (known := known) (k := k) hkl1)
     have HLT := Lib.hid (fun h => cntK_lt (p := p) (known := known) (k := k) hkl1 h)
     have hnx := load_num HOK.out (getD_mem hkl1)
     obtain ⟨x, hxg⟩ : ∃ x, p.loads.getD k z6 = x := ⟨_, rfl⟩
     rw [hxg] at x0 x1 x2 x3 x4 x5 HSR HSU HLT hnx
     subst e0
     obtain ⟨cb, hcb⟩ : ∃ cb, cnt x known = cb := ⟨_, rfl⟩
     have TC := fun W => cnt_any x known W
     rw [hcb] at TC HSU HLT
     have HTC := Lib.hid TC
     have ff1 := HFX.out.blk HF3.out (by omega) (by omega)
     have HFW := Lib.hid ff1
     have HBBW := Lib.hid (HFX.out.blk HBB.out (by omega) (by omega))
     have HB1W := Lib.hid (HFX.out.blk HB3.out (by omega) (by omega))
     have HNW := Lib.hid (HN3.out.fix hfx (fun b o e h0 => by
      obtain ⟨b', o', e', hlt, -⟩ := HN2.out.2 h0
      rw [e] at e'; cases e'
      omega))
     clear hc hxg hcb TC hfx hnm ff1
     go_upto_region 8 with fail
     obtain ⟨W3, hW3⟩ : ∃ W, wr.alloc (.cells #[.int .i64 x.a, .int .i64 x.b, .int .i64 x.c, .int .i64 x.d, .int .i64 x.e, .int .i64 x.f] 103) = W := ⟨_, rfl⟩
     rw [hW3]
     have g3 : Below wr.heap.size wr W3 := by rw [← hW3]; exact one_more _ _
     have HX3 := Lib.hid (show Blk W3 wr.heap.size 103 #[.int .i64 x.a, .int .i64 x.b, .int .i64 x.c, .int .i64 x.d, .int .i64 x.e, .int .i64 x.f] by rw [← hW3]; exact Blk.new _ _ _)
     have GG3 := Lib.hid g3
     have v0 := cellW (HX3.out.cell 3)
     have v1 := cellW (HX3.out.cell 4)
     have v4 := cellW (HX3.out.cell 5)
     have v2 := cellW ((HFW.out.ext g3).cell 1)
     clear hW3 g3 x0 x1 x2 x3 x4 x5
     refine wp_region_calm W3 (by kernel_rfl) (by kernel_rfl) (Below.refl _ _) ?_
     repeat (go_big_quiet_step (first | (go_at_call 159; exact callsCalmSame (HTC.out _))))
     refine wpQuiet_nil ?_
     rintro _ ⟨z, rfl⟩
     clear v0 v1 v2 v4
     have GZ := Lib.hid (GG3.out.trans (z.ok.mono GG3.out.size))
     have HXZ := Lib.hid (HX3.out.ext z.ok)
     obtain ⟨Z, hZ⟩ : ∃ Z, z.val = Z := ⟨_, rfl⟩
     rw [hZ] at GZ HXZ ⊢
     clear hZ z
     have hrz := GZ.out.size
     cases cb with
     | false =>
      have HS2 := Lib.hid (show cntK p known (k + 1) = cntK p known k by rw [HSU.out]; simp)
      go_wp2_with fail
      go_roundw
      case rel => exact ⟨k + 1, by omega, by go_num, by rw [HS2.out], HFX.out.trans (Fix.of_below GZ.out), by rw [HS2.out]; exact (HNK.out.ext GZ.out).mono (by omega)⟩
      case measure => simp [intOf]; omega
     | true =>
      have HS2 := Lib.hid (show cntK p known (k + 1) = cntK p known k ++ [x] by rw [HSU.out]; rfl)
      have HLJ := Lib.hid (show (cntK p known k).length < nn by have := HLT.out rfl; rw [count_len, HLA.out] at this; exact this)
      obtain ⟨j, hj⟩ : ∃ j, (cntK p known k).length = j := ⟨_, rfl⟩
      have hjn : j < nn := by rw [← hj]; exact HLJ.out
      rw [hj]
      obtain ⟨b9, o9, e9, -, -, hc9⟩ := ints_at HNW.out hjn
      subst e9
      have HV := Lib.hid (HI.out (ns.getD j 0) (by rw [getD_int (show j < ns.length by rw [HLN.out]; exact hjn)]; exact List.getElem_mem _))
      obtain ⟨vj, hvj⟩ : ∃ v, ns.getD j 0 = v := ⟨_, rfl⟩
      rw [hvj] at hc9 HV
      have c9 := cellW (W := Z) (hc9 Z GZ.out)
      have v0 := cellW (HXZ.out.cell 0)
      have v1 := cellW ((HBBW.out.ext GZ.out).cell 0)
      have v2 := cellW ((HB1W.out.ext GZ.out).cell 1)
      have HJ := Lib.hid hj
      have HVJ := Lib.hid hvj
      clear hj hvj hc9
      go_wp2_with fail
      refine wp_region_calm_tail Z 8 (by kernel_rfl) (by kernel_rfl) (Below.refl _ _) ?_
      simp only [List.take_succ_cons, List.take_zero, List.drop_succ_cons, List.drop_zero]
      repeat (go_big_quiet_step (fail))
      refine wpQuiet_nil ?_
      rintro _ ⟨z, rfl⟩
      clear c9 v0 v1 v2
      have GY := Lib.hid (GZ.out.trans (z.ok.mono hrz))
      obtain ⟨Y, hY⟩ : ∃ Y, z.val = Y := ⟨_, rfl⟩
      rw [hY] at GY ⊢
      clear hY z
      obtain ⟨nD, D, hD1, hD2, hD3⟩ := HNK.out.ext GY.out
      have HD3 := Lib.hid hD3
      have HD2 := Lib.hid hD2
      clear hD2 hD3
      go_wp2_with (at_mapUpdate; refine wpList_mapUpdate_own _ rfl _ _ _ 230 rfl 3 3 (int_keyed Tryz.underlying3) Tryz.underlying230 _ bm nD D rfl HD2.out (by unfold maxLen; omega) _ _ (.int .i64 x.a) rfl rfl (keyOf_int_mk Tryz.underlying3 (lit_wf (by omega) (by omega))) (.lit (.int .i64 vj)) [] (plainElem_int Tryz.underlying3 (wf_i64 HV.out)) ?_; intro Vu hown1 hgrow1; have HNU := Lib.hid (NumMap.put (by omega) (by omega) hD1 HD2.out.isMap HD3.out hown1); have FU := Lib.hid ((HFX.out.trans (Fix.of_below GY.out)).trans (fix_turn hgrow1)); clear hown1 hgrow1)
      go_roundw
      case rel =>
       refine ⟨k + 1, by omega, by go_num, ?_, FU.out, ?_⟩
       ·rw [HS2.out, List.length_append, HJ.out, List.length_singleton]; go_num
       ·rw [HS2.out]
        refine HNU.out.congr fun s => ?_
        rw [gK_snoc HSR.out, HJ.out, HVJ.out]
      case measure => simp [intOf]; omega
    ·obtain rfl : n1 = k := by omega
     have HNA := Lib.hid (show NumMap wr bm n1 (numBy p known ns) from HNK.out.congr (fun s => by rw [cntK_all (by rw [HL1.out]; exact Nat.le_refl _)]; exact gK_all (by rw [HLN.out, count_len, HLA.out]) s))
     have HSRC := Lib.hid (fun x (hx : x ∈ lookL p known every) => look_src HOK.out hx)
     have HNL := Lib.hid (show numsL p known ns = (lookL p known every).map fun x => numBy p known ns x.a from rfl)
     have HFW := Lib.hid (HFX.out.blk HF3.out (by omega) (by omega))
     have HBBW := Lib.hid (HFX.out.blk HBB.out (by omega) (by omega))
     have HAW := Lib.hid (HA3.out.fix hfx (fun b o e h0 => by
      obtain ⟨b', o', e', hlt, -⟩ := HA2.out.2 h0
      rw [e] at e'; cases e'
      omega))
     have GW := Lib.hid (G3.out.trans (HFX.out.below (B := w.heap.size) (by omega) (by have := G3.out.size; omega)))
     have hws := HFX.out.size
     have hgw := GW.out.size
     clear hfx hnm f0 q1 hkn hk hkl
     have f0 := HFW.out.cell 0
     go_wp2_with fail
     refine (carted_any _ _).mono ?_
     rintro e w' ⟨rfl, hw'⟩
     have hbo : Blk w' wr.heap.size 39 #[.slice none 0 0] := by rw [← hw']; exact (Blk.new _ _ _).alloc _
     have hbQ : Blk w' (wr.heap.size + 1) 134 #[.pointer (some ⟨bf, 0, none⟩)] := by
      rw [← hw']; have := Blk.new (wr.alloc (.cells #[.slice none 0 0] 39)) 134 #[.pointer (some ⟨bf, 0, none⟩)]; rw [World.size_alloc] at this; exact this
     have hbel : Below wr.heap.size wr w' := by rw [← hw']; exact two_more _ _ _
     have hsz : w'.heap.size = wr.heap.size + 2 := by rw [← hw']; simp
     rw [show (wr.alloc (.cells #[.slice none 0 0] 39)).heap.size = wr.heap.size + 1 by simp]
     clear hw'
     rename World => W0
     have HF0 := Lib.hid (HFW.out.ext hbel)
     have HBB0 := Lib.hid (HBBW.out.ext hbel)
     have HA0 := Lib.hid (HAW.out.below hbel)
     have HNA0 := Lib.hid (HNA.out.ext hbel)
     have G0 := Lib.hid (GW.out.trans (hbel.mono hgw))
     have hbfl := HFW.out.lt
     have hbbl := HBBW.out.lt
     obtain ⟨bo, hboe⟩ : ∃ b, wr.heap.size = b := ⟨_, rfl⟩
     rw [hboe] at hbo hbQ hws hgw hbfl hbbl hsz ⊢
     have HAD := Lib.hid (show ∀ b o, A = some ⟨b, o, none⟩ → 0 < nn → b ≠ bo ∧ b < W0.heap.size from fun b o e h0 => by
      obtain ⟨b', o', e', hlt, -⟩ := HAW.out.2 h0
      rw [e] at e'; cases e'
      omega)
     go_wp2_with fail
     obtain ⟨ls, hls⟩ : ∃ l, lookL p known every = l := ⟨_, rfl⟩
     rw [hls] at HSRC HNL HA0 HLA
     obtain ⟨g, hg⟩ : ∃ g, numBy p known ns = g := ⟨_, rfl⟩
     have HNL2 := Lib.hid (show numsL p known ns = ls.map fun x => g x.a by rw [HNL.out, ← hg])
     rw [hg] at HNA0
     have HSQ := Lib.hid (carted_stopsA 3 W0 (bo + 1) bf A nn c ls (hbQ.cell 0) (HF0.out.cell 2) HA0.out (by omega))
     have HBO := Lib.hid hbo
     have HSZ := Lib.hid hsz
     have hbo2 : bo + 1 < W0.heap.size := by omega
     clear hls hg hbo hbQ hbel f0 hsz
     refine (wpIn_wide (n := 4)).1 ?_
     refine wpIn_rangeFunc_ownH (α := Cx nn) (F := Fence.wide) (n := 4) rfl (by omega) (gf := 202) (lb := #[.pointer (some ⟨bo + 1, 0, none⟩)]) rfl trivial
      (enters_of Tryz.func202 (by kernel_rfl) rfl) HSQ.out (fun h k => FixA.trans h k) ?hKb (Below.refl _ _) (fun _ => rfl)
      (fun pre W => FixU W0.heap.size bo bo W0 W ∧ (∃ v, Blk W bo 39 #[v] ∧ OwnL icells 1 3 W W0.heap.size v (pre.map (byAt g ls))) ∧ Oto W0 W) (fun _ _ _ => False) ?hI ?hIx ?h0
      (fun x a' W => ∃ Bx, W0.heap.size ≤ Bx ∧ Blk W Bx 103 #[.int .i64 (ls.getD x.1 z6).a, .int .i64 (ls.getD x.1 z6).b, .int .i64 (ls.getD x.1 z6).c, .int .i64 (ls.getD x.1 z6).d, .int .i64 (ls.getD x.1 z6).e, .int .i64 (ls.getD x.1 z6).f] ∧
       a' = (?F : Cx nn → Nat → Act) x Bx) ?hAx ?assign ?body ?done ?stop
     case assign =>
      rintro l pre x W K ⟨hfx, ⟨v, hbo, ho⟩, hto⟩ hK
      unfold encC
      gi_wp2
      refine hK _ _ ((KeepsOthers.alloc _ _).from _) (FixA.alloc _ _ _ _ _) ⟨hfx.trans (FixU.of_below (one_more _ _)), ⟨v, hbo.alloc _, ho.ext (one_more _ _)⟩, hto.below (one_more _ _)⟩ ⟨W.heap.size, hfx.size, Blk.new _ _ _, ?_⟩
      generalize W.heap.size = B
      rfl
     case hKb =>
      intro Wb l o o' hl ho hc _
      exact FixA.putObj ho hc _
     case hI =>
      rintro pre X Y row ⟨hfx, ⟨v, hbo, ho⟩, hto⟩ hg hr
      have hr1 : ∀ r, row = some r → ∃ o : Obj, X.heap[r]? = some o ∧ o.isCells = false := fun r e => (hr r e).2
      exact ⟨(FixU.own (α := Nat) (Nat.le_refl _)) [] _ _ _ hfx hg hr, ⟨v, hbo.own hg hr1, ho.held hg hr1⟩, hto.grown hg⟩
     case hIx => exact fun _ _ _ _ _ hs _ _ => hs
     case h0 => exact ⟨FixU.refl _ _ _ _, ⟨_, HBO.out, OwnL.nil _ _⟩, Oto.refl _⟩
     case hAx =>
      rintro x a' _ X Y row ⟨Bx, h1, h2, h3⟩ hg hr
      exact ⟨Bx, h1, h2.own hg (fun r e => (hr r e).2), h3⟩
     case body =>
      rintro l pre x a' W hl - ⟨hfx, ⟨v, hbo, ho⟩, hto⟩ ⟨Bx, hBx, hB, rfl⟩ hpl
      have hXs := hfx.size
      have o0 := hbo.cell 0
      have o1 := hbo.frozen 0
      have m0 := (hfx.blk HBB0.out (by omega) (by omega) (.inl (by omega))).cell 0
      have x0 := hB.cell 0
      obtain ⟨y, hy⟩ : ∃ y, ls.getD x.1 z6 = y := ⟨_, rfl⟩
      have hys := HSRC.out y (by rw [← hy]; exact getD_mem (by rw [HLA.out]; exact x.2))
      have hlk := (HNA0.out.same (hfx.block bm (by omega) (by omega) (by omega) (.inl (by omega)))).look (i := y.a) (by omega) (by omega)
      have HPR := Lib.hid (show (pre ++ [x]).map (byAt g ls) = pre.map (byAt g ls) ++ [g y.a] by rw [List.map_append, ← hy]; rfl)
      rw [hy] at x0
      obtain ⟨gv, hgv⟩ : ∃ v, g y.a = v := ⟨_, rfl⟩
      rw [hgv] at hlk HPR
      obtain ⟨pv, hpv⟩ : ∃ l, pre.map (byAt g ls) = l := ⟨_, rfl⟩
      have HPL := Lib.hid (show pv.length + 1 ≤ 1000000 by rw [← hpv, List.length_map]; omega)
      rw [hpv] at ho HPR
      have HFX := Lib.hid hfx
      have HBO2 := Lib.hid hbo
      have HO := Lib.hid ho
      have HTO := Lib.hid hto
      have HOX := Lib.hid (ho.ext (one_more W (.cells #[.int .i64 gv] 3)))
      have HI1 := Lib.hid (one_int (Blk.new W 3 #[.int .i64 gv]))
      have HOB := Lib.hid (fun (k : Nat) (e : v.ownBlock = some k) => (own_cells HO.out e).1)
      clear hy hgv hpv hfx hbo ho hto hB
      gi_wp2_with (gi_at_builtin; go_loud (refine wpListIn_app kdI (by rfl) _ _ (by rfl) W0.heap.size v pv (by rfl) HOX.out _ 1 1 [gv] (by rfl) HI1.out HPL.out (by simp; omega) ?_); intro v' w2 ho2 hg2; obtain ⟨Av, cv, hve, -⟩ := OwnL.arr kdI ho2; obtain ⟨nv, hnv⟩ : ∃ nv, (pv ++ [gv]).length = nv := ⟨_, rfl⟩; rw [hnv] at hve; subst hve; clear hnv; have b9 := ((HBO2.out.alloc (.cells #[.int .i64 gv] 3)).grown hg2 (fun e => by have := HOB.out _ e; omega)); have m0 := b9.cell 0; have m1 := b9.frozen 0; have HS := Lib.hid (app_step bo HBO2.out HO.out (by omega) ho2 hg2); clear ho2 hg2 b9)
      refine ⟨HS.out.kf _, HS.out.fx.fixA (fun b o e h0 => ⟨(HAD.out b o e h0).1, (HAD.out b o e h0).1, (HAD.out b o e h0).2⟩), HFX.out.trans HS.out.fx, ⟨_, HS.out.bx, ?_⟩, HTO.out.trans HS.out.oto⟩
      rw [HPR.out]
      exact HS.out.own
     case done =>
      rintro D xs W hD hS ⟨hfx, ⟨v, hbo, ho⟩, hto⟩ hK
      have o0 := hbo.cell 0
      have hXs := hfx.size
      have HE := Lib.hid (show xs.map (byAt g ls) = numsL p known ns by
       rw [HNL2.out]; exact (show xs.map (byAt g ls) = (xs.map fun x => ls.getD x.1 z6).map (fun x => g x.a) by rw [List.map_map]; rfl).trans (congrArg (List.map fun x => g x.a) (all_came HLA.out hS)))
      rw [HE.out] at ho
      have HO := Lib.hid ho
      have HK := Lib.hid hK
      have HFX := Lib.hid hfx
      have HTO := Lib.hid hto
      clear hbo ho hfx hto hS
      go_wp2_with fail
      refine ⟨by simp, .inl ⟨_, _, rfl, run_takeDeferred HK.out, ?_⟩⟩
      refine ⟨_, results_tmp2 rfl _ _ _, ⟨_, by rw [HNB2.out]; rfl, fun _ => ?_, fun h => (by rw [HNB2.out] at h; cases h)⟩, G0.out.trans ?_⟩
      ·exact (HO.out.held (grownBy_putObj' _ D _) (fun r e => by cases e; exact ⟨_, HK.out, rfl⟩)).mono G0.out.size
      ·exact (HFX.out.below (D := w.heap.size) HTO.out (by omega) (by omega) (by omega) (by omega)).grown (grownBy_putObj' _ D _) (by omega) (fun k hk => by cases hk; omega)
     case stop =>
      rintro D cd pre X _ _ h _
      exact h.elim
end Go.Proofs.YtkoejeghihcmlaaGreat

namespace Go.Proofs.YtkoejeghihcmlaaGreat
open Go.RowKit Go.Shelf
/-- The contract of such an iterator. -/
def SeqP {α : Type} (m : Nat) (g : Nat) (lb : Array Value) (encs : α → Array Value) (G : List α → α → Prop) (Kp : World → World → Prop) (S Sp : List α → Prop) (N : Nat) (w : World) : Prop :=
 ∀ (l : Nat) (J Jx : List α → World → Prop) (W : World), Below w.heap.size w W → OwnFrom W.heap.size J → OwnFrom W.heap.size Jx →
  (∀ pre x W1, J pre W1 → pre.length < N → G pre x → YieldAt Fence.wide (m - 1) Tryz.prog l (encs x) W1 fun e W' =>
   ((e = .returned (.bool true) ∧ J (pre ++ [x]) W' ∧ Kp W1 W') ∨ (e = .returned (.bool false) ∧ Jx (pre ++ [x]) W')) ∧ KeepsFrom W.heap.size W1 W') →
  J [] W →
  CallsIn Fence.wide m Tryz.prog g (#[.func (.yield l) #[] #[]] ++ lb) W fun e W' => (∃ v, e = .returned v) ∧ ((∃ xs, S xs ∧ J xs W') ∨ (∃ pre, Sp pre ∧ Jx pre W'))
set_option maxHeartbeats 1000000 in
/-- The law of a range over it, at the wide fence, in no round. -/
theorem wp_rangeP {α : Type} {n : Nat} {g : Operand} {ps : Array Tmp} {assign body : Code} {Q : Exit → Act → World → Prop} {a : Act} {w : World}
  (h1 : 1 ≤ n) {gf : Nat} {lb : Array Value} (hg : a.eval g = .func (.func gf) #[] lb) (eg : ∀ args w, (callFunc gf args).run Tryz.prog w = .ok (.enter gf args) w)
  {encs : α → Array Value} {G : List α → α → Prop} {B bw bs : Nat} {S Sp : List α → Prop} {N : Nat} {w0 : World} (hseq : SeqP (n - 1) gf lb encs G (FixU B bw bs) S Sp N w0)
  (hb0 : Below w0.heap.size w0 w) (hps : ∀ x, (encs x).size = ps.size)
  (I : List α → World → Prop) (Ix : Code → List α → World → Prop) (hI : OwnFrom w.heap.size I) (hIx : ∀ c, OwnFrom w.heap.size (Ix c)) (h0 : I [] w) (Ax : α → Act → World → Prop) (hAx : ∀ x a', OwnFrom w.heap.size (fun (_ : Unit) W => Ax x a' W))
  (hassign : ∀ (l : Nat) (pre : List α) (x : α) (W : World) (K : Act → World → Prop), I pre W → (∀ a' W', KeepsFrom w.heap.size W W' → FixU B bw bs W W' → I pre W' → Ax x a' W' → K a' W') →
   assign.wpIn (Fence.wide.inRound l) (n - 1 - 1) Tryz.prog (Exit.then K (fun _ _ _ => False)) { tmps := (ps.zip (encs x)).foldl (fun t (p, v) => t.setIfInBounds p v) a.tmps, defers := [] } W)
  (hbody : ∀ (l : Nat) (pre : List α) (x : α) (a' : Act) (W : World), w.heap.size ≤ l → (∃ r, W.heap[l]? = some (.loop r)) → I pre W → Ax x a' W → pre.length < N → G pre x → body.wpIn (Fence.wide.inRound l) (n - 1 - 1) Tryz.prog (ownPostG w.heap.size (FixU B bw bs) I Ix (pre ++ [x]) W) a' W)
  (hdone : ∀ (D : Nat) (xs : List α) (W : World), w.heap.size ≤ D → S xs → I xs W → W.heap[D]? = some (.deferred (some [])) → Q .normal { a with defers := { target := .collected D, args := #[] } :: a.defers } W)
  (hstop : ∀ (D : Nat) (c : Code) (pre : List α) (W : World), w.heap.size ≤ D → Sp pre → Ix c pre W → W.heap[D]? = some (.deferred (some [])) → c.wpIn Fence.wide n Tryz.prog Q { a with defers := { target := .collected D, args := #[] } :: a.defers } W) :
  (Code.rangeFunc g ps assign body).wpIn Fence.wide n Tryz.prog Q a w := by
 refine wpIn_rangeFunc fun fn hfn => ?_
 rw [show Fence.wide.round = none from rfl]
 -- the loop's record, in a state
 let rc : LoopState → Option Code → Loop := fun st pe => { state := st, pending := pe, fn, tmps := a.tmps, params := ps, assign, body, defers := w.heap.size }
 obtain ⟨V, hV⟩ : ∃ V, (w.alloc (.deferred (some []))).alloc (.loop (rc .ready none)) = V := ⟨_, rfl⟩
 have hVs : V.heap.size = w.heap.size + 2 := by rw [← hV]; simp
 have vl : V.heap[w.heap.size + 1]? = some (.loop (rc .ready none)) := by
  rw [← hV]; have := World.alloc_heap_new (w.alloc (.deferred (some []))) (.loop (rc .ready none)); rwa [World.size_alloc] at this
 have vk : V.heap[w.heap.size]? = some (.deferred (some [])) := by rw [← hV]; exact (Below.heap_alloc _ _ _ (by simp)).trans (World.alloc_heap_new w _)
 have vi : I [] V := by rw [← hV]; exact hI.alloc _ (hI.alloc _ h0)
 have vb : Below w0.heap.size w0 V := by rw [← hV]; exact hb0.trans ((two_more w _ _).mono hb0.size)
 refine ⟨w.heap.size + 1, [{ target := .collected w.heap.size, args := #[] }], V, { target := .fn (.func gf) lb, args := #[.func (.yield (w.heap.size + 1)) #[] #[]] }, V, gf, #[.func (.yield (w.heap.size + 1)) #[] #[]] ++ lb, V,
  by rw [← hV]; exact run_enterLoop_outer _ _ _ _ _, by (simp only [resolve, hg]; simp [go_sem]), fun f' hf' => trivial, by simp [invoke, go_sem, eg], fun _ => h1, ?_⟩
 have own : ∀ {s : List α} {A B : World} {row : Option Nat} {st : LoopState} {pe : Option Code} {T : List α → World → Prop}, OwnFrom w.heap.size T → (T s A ∧ A.heap[w.heap.size + 1]? = some (.loop (rc st pe)) ∧ A.heap[w.heap.size]? = some (.deferred (some []))) →
   A.grownBy B row → (∀ r, row = some r → V.heap.size ≤ r ∧ ∃ o : Obj, A.heap[r]? = some o ∧ o.isCells = false) → (T s B ∧ B.heap[w.heap.size + 1]? = some (.loop (rc st pe)) ∧ B.heap[w.heap.size]? = some (.deferred (some []))) :=
  fun hT ht hgr hr => ⟨hT _ _ _ _ ht.1 hgr (fun r e => ⟨by have := (hr r e).1; omega, (hr r e).2⟩), grown_lt hgr ht.2.1 (B := V.heap.size) (by omega) (fun r e => (hr r e).1), grown_lt hgr ht.2.2 (B := V.heap.size) (by omega) (fun r e => (hr r e).1)⟩
 refine (hseq (w.heap.size + 1)
  (fun pre W => I pre W ∧ W.heap[w.heap.size + 1]? = some (.loop (rc .ready none)) ∧ W.heap[w.heap.size]? = some (.deferred (some [])))
  (fun pre W => ∃ c, Ix c pre W ∧ W.heap[w.heap.size + 1]? = some (.loop (rc .done (some c))) ∧ W.heap[w.heap.size]? = some (.deferred (some [])))
  V vb (fun s A B row hs hgr hr => own hI hs hgr hr) (fun s A B row ⟨c, hs⟩ hgr hr => ⟨c, own (hIx c) hs hgr hr⟩) ?_ ⟨vi, vl, vk⟩).mono ?_
 ·-- one round
  rintro pre x W ⟨hi, hl, hk⟩ hlen hG
  refine ⟨fn, _, assign, body, run_yield hl (hps x), roundIn_of_wpIn hfn (hassign _ pre x W _ hi ?_)⟩
  intro a' X kf kp xi xa
  have xl := kf.same _ _ (by omega) hl rfl
  have xk := kf.same _ _ (Nat.le_refl _) hk rfl
  have xlt := (Array.getElem?_eq_some_iff.1 xl).1
  refine ⟨_, run_beginRound xl rfl, ?_⟩
  obtain ⟨Y, hY⟩ : ∃ Y, X.putObj (w.heap.size + 1) (.loop { rc .ready none with state := .busy }) = Y := ⟨_, rfl⟩
  have yl : Y.heap[w.heap.size + 1]? = some (.loop { rc .ready none with state := .busy }) := by rw [← hY]; exact World.putObj_heap_same xlt
  have yk : Y.heap[w.heap.size]? = some (.deferred (some [])) := by rw [← hY]; exact (World.putObj_heap_other (by omega)).trans xk
  have yi : I pre Y := by rw [← hY]; exact hI.putObj _ xi (by omega) xl rfl
  have ya : Ax x a' Y := by rw [← hY]; exact (hAx x a').putObj (s := ()) _ xa (by omega) xl rfl
  have ykf : KeepsFrom V.heap.size W Y := by rw [← hY]; exact (keeps_mono kf (by omega)).trans (keeps_put _ _ (by omega))
  rw [hY]
  refine wpIn_mono (hbody _ pre x a' Y (by omega) ⟨_, yl⟩ yi ya hlen hG) ?_
  have fin : ∀ (jump : Option Code) (Z : World), KeepsFrom w.heap.size Y Z →
    ∃ Z', (Instr.endRound (w.heap.size + 1) jump).run Tryz.prog Z = .ok (.bool jump.isNone) Z' ∧ Z' = Z.putObj (w.heap.size + 1) (.loop (rc (if jump.isNone then .ready else .done) jump)) ∧ Z.heap[w.heap.size + 1]? = some (.loop { rc .ready none with state := .busy }) ∧
     Z'.heap[w.heap.size + 1]? = some (.loop (rc (if jump.isNone then .ready else .done) jump)) ∧ Z'.heap[w.heap.size]? = some (.deferred (some [])) ∧ KeepsFrom V.heap.size W Z' := fun jump Z kz => by
   have zl := kz.same _ _ (by omega) yl rfl
   refine ⟨_, run_endRound jump zl, rfl, zl, World.putObj_heap_same (Array.getElem?_eq_some_iff.1 zl).1, (World.putObj_heap_other (by omega)).trans (kz.same _ _ (Nat.le_refl _) yk rfl), (ykf.trans (keeps_mono kz (by omega))).trans (keeps_put _ _ (by omega))⟩
  rintro e a3 Z hp
  cases e with
  | normal =>
   obtain ⟨Z', hr, hz, zl, zl', zk', kk⟩ := fin none Z hp.1
   refine ⟨_, _, hr, .inl ⟨rfl, ⟨?_, zl', zk'⟩, ?_⟩, kk⟩
   ·rw [hz]; exact hI.putObj _ hp.2.2 (by omega) zl rfl
   ·refine ⟨kk.size, fun k hk h1 h2 h3 => ?_⟩
    by_cases e : k = w.heap.size + 1
    ·subst e; exact zl'.trans hl.symm
    ·rw [hz, World.putObj_heap_other (fun e' => e (by omega))]
     have hy : Y.heap[k]? = X.heap[k]? := by rw [← hY]; exact World.putObj_heap_other (fun e' => e (by omega))
     have hky : k < Y.heap.size := by rw [← hY]; simp; exact Nat.lt_of_lt_of_le hk kp.size
     have hyw : Y.heap[k]? = W.heap[k]? := hy.trans (kp.block k hk h1 h2 h3)
     exact (hp.2.1.block k hky h1 h2 (by rw [hyw]; exact h3)).trans hyw
  | ret =>
   obtain ⟨Z', hr, hz, zl, zl', zk', kk⟩ := fin (some .ret) Z hp.1
   exact ⟨_, _, hr, .inr ⟨rfl, .ret, by rw [hz]; exact (hIx _).putObj _ hp.2 (by omega) zl rfl, zl', zk'⟩, kk⟩
  | exit id =>
   obtain ⟨Z', hr, hz, zl, zl', zk', kk⟩ := fin (some (.exit id)) Z hp.1
   exact ⟨_, _, hr, .inr ⟨rfl, .exit id, by rw [hz]; exact (hIx _).putObj _ hp.2 (by omega) zl rfl, zl', zk'⟩, kk⟩
  | goto t =>
   obtain ⟨Z', hr, hz, zl, zl', zk', kk⟩ := fin (some (.goto t)) Z hp.1
   exact ⟨_, _, hr, .inr ⟨rfl, .goto t, by rw [hz]; exact (hIx _).putObj _ hp.2 (by omega) zl rfl, zl', zk'⟩, kk⟩
  | panic ch => exact hp.elim
  | outgrown => exact hp.elim
 ·-- behind the iterator
  rintro e W2 ⟨⟨v, rfl⟩, (⟨xs, hS, hi, hl, hk⟩ | ⟨pre, hSp, c, hi, hl, hk⟩)⟩
  ·exact ⟨none, _, run_endLoop hl (by simp [rc]), hdone _ xs _ (Nat.le_refl _) hS (hI.putObj _ hi (by omega) hl rfl) ((World.putObj_heap_other (by omega)).trans hk)⟩
  ·exact ⟨some c, _, run_endLoop hl (by simp [rc]), hstop _ c pre _ (Nat.le_refl _) hSp ((hIx c).putObj _ hi (by omega) hl rfl) ((World.putObj_heap_other (by omega)).trans hk)⟩
attribute [local go_sem] Oper.semAt_some
set_option maxRecDepth 100000 in
set_option maxHeartbeats 4000000 in
theorem carted_seqP (m : Nat) (W0 : World) (B bq bf bw bs : Nat) (A : Option Addr) (n c : Nat) (ls : List Six)
  (hq : W0.cell? ⟨bq, 0, none⟩ = some (.pointer (some ⟨bf, 0, none⟩))) (hf : W0.cell? ⟨bf, 2, none⟩ = some (.slice A n c)) (ha : Arr scells 6 W0 A n ls) (hn : n ≤ 1000000)
  (hd : ∀ b o, A = some ⟨b, o, none⟩ → 0 < n → b ≠ bw ∧ b ≠ bs ∧ b < B) :
  SeqP m 202 #[.pointer (some ⟨bq, 0, none⟩)] (encC n ls) (fun pre x => x.1 = pre.length) (FixU B bw bs)
   (fun l => l.map (·.1) = List.range n) (fun l => l.map (·.1) = List.range l.length) (n + 1) W0 := by
 intro l J Jx W hW hJ hJx hY hJ0
 refine callsIn_of_wp Tryz.func202 rfl trivial ?_ rfl
 simp only [Tryz.ntmps202, List.size_toArray, List.length_cons, List.length_nil, Nat.reduceAdd, Nat.reduceSub, Array.replicate_succ, Array.replicate_zero, List.push_toArray, List.append_toArray, List.nil_append, List.cons_append]
 have hq := (hW.cell (p := ⟨bq, 0, none⟩) (World.block_lt_of_cell? W0 _ hq)).trans hq
 have hf := (hW.cell (p := ⟨bf, 2, none⟩) (World.block_lt_of_cell? W0 _ hf)).trans hf
 have HAW := Lib.hid (ha.below hW)
 have HJ := Lib.hid hJ
 have HY := Lib.hid hY
 clear hJ hJx hY hW ha
 gi_wp2
 gi_loopw [10] (fun i wr => ∃ (k : Nat) (pre : List (Cx n)), i = .int .i64 k ∧ k ≤ n ∧ FixU B bw bs W wr ∧ J pre wr ∧ pre.map (·.1) = List.range k) (fun i _ => n - (intOf i).toNat)
 case atStart => exact ⟨0, [], rfl, Nat.zero_le _, FixU.refl _ _ _ _, hJ0, rfl⟩
 case round =>
  obtain ⟨k, pre, rfl, hk, hfix, hj, hpre⟩ := hrel
  have HP := Lib.hid hpre
  have hpl : pre.length = k := by
   have := congrArg List.length hpre
   rw [List.length_map, List.length_range] at this
   exact this
  have HPL := Lib.hid hpl
  have HFX := Lib.hid hfix
  have HAr := Lib.hid (hfix.arr HAW.out hd)
  clear hpre hpl hfix
  by_cases hkn : k < n
  ·obtain ⟨b0, o0, e0, -, -, hc⟩ := six_at HAr.out hkn
   obtain ⟨x0, x1, x2, x3, x4, x5⟩ := hc _ (Below.refl _ _)
   obtain ⟨x, hxg⟩ : ∃ x, ls.getD k z6 = x := ⟨_, rfl⟩
   rw [hxg] at x0 x1 x2 x3 x4 x5
   subst e0
   obtain ⟨W1, hW1⟩ : ∃ W1, wr.alloc (.cells #[.int .i64 x.a, .int .i64 x.b, .int .i64 x.c, .int .i64 x.d, .int .i64 x.e, .int .i64 x.f] 103) = W1 := ⟨_, rfl⟩
   have b1 : Blk W1 wr.heap.size 103 #[.int .i64 x.a, .int .i64 x.b, .int .i64 x.c, .int .i64 x.d, .int .i64 x.e, .int .i64 x.f] := by rw [← hW1]; exact Blk.new _ _ _
   have hj1 : J pre W1 := by rw [← hW1]; exact HJ.out pre wr _ none hj (World.grownBy_alloc wr _ none) (fun r e => by cases e)
   have f1 : FixU B bw bs wr W1 := by rw [← hW1]; exact FixU.of_below (one_more _ _)
   obtain ⟨fn, tmps, assign, body, hy, hR⟩ := HY.out pre ⟨k, hkn⟩ W1 hj1 (by rw [HPL.out]; omega) HPL.out.symm
   have w0 := b1.cell 0
   have w1 := b1.cell 1
   have w2 := b1.cell 2
   have w3 := b1.cell 3
   have w4 := b1.cell 4
   have w5 := b1.cell 5
   unfold encC at hy
   dsimp only at hy
   rw [hxg] at hy
   clear hc hxg b1
   gi_wp2
   refine ⟨fun h => (by simp [Fence.wide] at h), hR.mono ?_⟩
   rintro e W' ⟨⟨rfl, hJ', hk'⟩ | ⟨rfl, hJx'⟩, hkf⟩
   ·have Hfx := Lib.hid (HFX.out.trans (f1.trans hk'))
    clear hR hk' hj1 hy f1 hW1 hkf
    gi_wp2
    go_roundw
    case rel => exact ⟨k + 1, pre ++ [⟨k, hkn⟩], by go_num, by omega, Hfx.out, hJ', by rw [List.map_append, HP.out, List.range_succ]; rfl⟩
    case measure => simp [intOf]; omega
   ·clear hR hj1 hy f1 hW1 hkf
    gi_wp2
    refine bodyPost_ret (results_none rfl _ _ _) rfl ?_
    exact ⟨⟨_, rfl⟩, .inr ⟨_, by rw [List.map_append, HP.out, List.length_append, HPL.out, List.length_singleton, List.range_succ]; rfl, hJx'⟩⟩
  ·obtain rfl : k = n := by omega
   gi_wp2
   go_end0
   exact ⟨⟨_, rfl⟩, .inl ⟨pre, HP.out, hj⟩⟩
end Go.Proofs.YtkoejeghihcmlaaGreat

namespace Go.Proofs.YtkoejeghihcmlaaGreat
open Go.RowKit Go.Shelf
attribute [local go_sem] Oper.semAt_some
theorem own_ne39 {W : World} {B b3 : Nat} {u v : Value} {xs : List Int} (hb : Blk W b3 39 #[u]) (ho : OwnL icells 1 3 W B v xs) : v.ownBlock ≠ some b3 := fun e => by
 obtain ⟨-, -, cur, e2⟩ := own_cells ho e
 have : W.heap[b3]? = some (.cells #[u] 39 (0, 0)) := hb
 rw [this] at e2
 cases e2
theorem app_step2 {B b3 : Nat} {W w2 : World} {v v' : Value} {xs : List Int} {x : Int} (bw : Nat) (hb : Blk W b3 39 #[v]) (ho : OwnL icells 1 3 W B v xs)
  (h2 : OwnL icells 1 3 w2 B v' (xs ++ [x])) (hg : (W.alloc (.cells #[.int .i64 x] 3)).grownBy w2 v.ownBlock) : Stp B bw b3 W (w2.setCell ⟨b3, 0, none⟩ v') v' (xs ++ [x]) := by
 have hob : ∀ g, v.ownBlock = some g → B ≤ g ∧ g < W.heap.size ∧ ∃ cur, W.heap[g]? = some (.cells cur 3 (0, 0)) := fun g e => own_cells ho e
 have hne : v.ownBlock ≠ some b3 := own_ne39 hb ho
 have hb2 : Blk w2 b3 39 #[v] := (hb.alloc _).grown hg hne
 refine ⟨⟨?_, fun k hk h1 h2' h3' => ?_⟩, fun D => ⟨?_, fun k o hD hk ho' => ?_⟩, by simpa using hb2.set_ 0 v', ?_, (((Oto.refl W).below (one_more W _)).grown hg).set _ _⟩
 ·have := hg.size; simp at this ⊢; omega
 ·refine (Below.heap_setCell _ _ _ _ (fun e => h2' (by rw [e]))).trans ?_
  refine (hg.block k (by simp; omega) (fun e => ?_)).trans (Below.heap_alloc _ _ _ hk)
  obtain ⟨e1, -, cur, e2⟩ := hob k e.symm
  rcases h3' with h3' | h3'
  ·omega
  ·exact h3' _ _ e2
 ·have := hg.size; simp at this ⊢; omega
 ·have hkl := (Array.getElem?_eq_some_iff.1 hk).1
  have hkb : k ≠ b3 := fun e => by
   subst e
   have : W.heap[k]? = some (.cells #[v] 39 (0, 0)) := hb
   rw [this] at hk; cases hk; cases ho'
  refine (Below.heap_setCell _ _ _ _ (fun e => hkb (by rw [e]))).trans ?_
  refine ((hg.block k (by simp; omega) (fun e => ?_)).trans (Below.heap_alloc _ _ _ hkl)).trans hk
  obtain ⟨-, -, cur, e2⟩ := hob k e.symm
  rw [e2] at hk; cases hk; cases ho'
 ·exact h2.apart (p := ⟨b3, 0, none⟩) (own_ne39 hb2 h2) _
theorem own_one (W : World) (x : Int) : OwnL icells 1 3 (W.alloc (.cells #[.int .i64 x] 3)) W.heap.size (.slice (some ⟨W.heap.size, 0, none⟩) 1 1) [x] :=
 own_mk icells_len rfl (Nat.le_refl _) (Blk.new _ _ _) (Nat.le_refl _) (by unfold maxLen; omega) rfl rfl
/-- What had stood after so many loads, so far. -/
def runP (sown : Int) (ns : List Int) (k : Nat) : List Int := (List.range (k + 1)).map (runK sown ns)
theorem runP_succ (sown : Int) (ns : List Int) (k : Nat) : runP sown ns (k + 1) = runP sown ns k ++ [runK sown ns (k + 1)] := by unfold runP; rw [List.range_succ, List.map_append]; rfl
theorem runP_len (sown : Int) (ns : List Int) (k : Nat) : (runP sown ns k).length = k + 1 := by unfold runP; rw [List.length_map, List.length_range]
theorem runP_at {sown : Int} {ns : List Int} {k i : Nat} (hi : i ≤ k) : (runP sown ns k).getD i 0 = runK sown ns i := by
 unfold runP
 rw [List.getD_eq_getElem?_getD, List.getElem?_map, List.getElem?_range (by omega)]
 rfl
theorem run_bd {ls : List Six} {ns : List Int} {sown : Int} (h0 : 0 ≤ sown ∧ sown ≤ 10000) (hw : ∀ i, i < ls.length → 0 ≤ (ls.getD i z6).c ∧ (ls.getD i z6).d ≤ 10000) : ∀ k, k ≤ ls.length → (∀ i, i < k → tookB ls ns i = true) → -(10000 * (k : Int)) ≤ runK sown ns k ∧ runK sown ns k ≤ 10000
 | 0, _, _ => by show -(10000 * ((0 : Nat) : Int)) ≤ sown ∧ sown ≤ 10000; omega
 | k + 1, hk, h => by
  have ih := run_bd h0 hw k (by omega) (fun i hi => h i (by omega))
  have h1 := h k (by omega)
  have h2 := hw k (by omega)
  unfold tookB at h1
  rw [rng_iff] at h1
  have e : runK sown ns (k + 1) = runK sown ns k - ns.getD k 0 := rfl
  omega
theorem Blk.drew_ {w : World} {g : Nat} {t : TypeId} {cs : Array Value} (h : Blk w g t cs) : Blk w.drew g t cs := h
/-- What truth returns. -/
def TruthEnd (p : Pl) (known sown : Int) (ns : List Int) (w : World) (e : Ending) (w' : World) : Prop :=
 (∃ v, e = .returned (.tuple #[v, .bool (truthB p known sown ns)]) ∧ (truthB p known sown ns = true → OwnL icells 1 3 w' w.heap.size v (truS p known sown ns))) ∧ Below w.heap.size w w'
set_option maxRecDepth 100000 in
set_option maxHeartbeats 16000000 in
theorem truth_any (p : Pl) (A1 A2 A3 : Option Addr) (n1 c1 n2 c2 n3 c3 pb bf : Nat) (known : Int) (A : Option Addr) (n c : Nat) (v3 : Value) (N : Option Addr) (nn cn : Nat) (ns : List Int) (sown : Int) (w : World)
  (hP : Blk w pb 38 (plb p A1 A2 A3 n1 c1 n2 c2 n3 c3)) (hp : Pa w p A1 A2 A3 n1 c1 n2 c2 n3 c3) (hok : okPl p = true) (h60 : n ≤ 100)
  (hF : Blk w bf 152 #[.pointer (some ⟨pb, 0, none⟩), .int .i64 known, .slice A n c, v3]) (ha : Arr scells 6 w A n (lookL p known every)) (hns : Ints w N nn ns)
  (hI : ∀ x ∈ ns, -9223372036854775808 ≤ x ∧ x ≤ 9223372036854775807) (hnn : nn ≤ 9223372036854775807) :
  Calls Tryz.prog 83 #[.pointer (some ⟨bf, 0, none⟩), .agg #[.int .i64 sown, .slice N nn cn]] w (TruthEnd p known sown ns w) := by
 obtain ⟨W1, hW1⟩ : ∃ W1, ((w.alloc (.cells #[.int .i64 sown, .slice N nn cn] 41)).alloc (.cells #[.slice none 0 0] 39)).alloc (.cells #[.bool false] 4) = W1 := ⟨_, rfl⟩
 have g1 : Below w.heap.size w W1 := by rw [← hW1]; exact three_more _ _ _ _
 have HB1 := Lib.hid (show Blk W1 w.heap.size 41 #[.int .i64 sown, .slice N nn cn] by rw [← hW1]; exact ((Blk.new _ _ _).alloc _).alloc _)
 have HB4 := Lib.hid (show Blk W1 (w.heap.size + 1) 39 #[.slice none 0 0] by rw [← hW1]; have := Blk.new (w.alloc (.cells #[.int .i64 sown, .slice N nn cn] 41)) 39 #[.slice none 0 0]; rw [World.size_alloc] at this; exact this.alloc _)
 have HB5 := Lib.hid (show Blk W1 (w.heap.size + 1 + 1) 4 #[.bool false] by rw [← hW1]; have := Blk.new ((w.alloc (.cells #[.int .i64 sown, .slice N nn cn] 41)).alloc (.cells #[.slice none 0 0] 39)) 4 #[.bool false]; simp only [World.size_alloc] at this; exact this)
 have hla := ha.1
 have HLN := Lib.hid hns.1
 have HLA := Lib.hid hla
 have hPs := hP.lt
 have hFs := hF.lt
 have G1 := Lib.hid g1
 have HP1 := Lib.hid (hP.ext g1)
 have HF1 := Lib.hid (hF.ext g1)
 have HPA := Lib.hid (hp.below g1)
 have HA1 := Lib.hid (ha.below g1)
 have HOK := Lib.hid hok
 have hpar := ok_parts hok
 have h260 : n2 ≤ 60 := by have := hpar.2.2.2.2.2.2.1; have := hp.l2.1; omega
 have HPH := Lib.hid (show 0 ≤ p.lo ∧ p.hi ≤ 10000 from ⟨hpar.2.2.1, hpar.2.2.2.2.1⟩)
 have HW := Lib.hid (show ∀ i, i < (lookL p known every).length → 0 ≤ ((lookL p known every).getD i z6).c ∧ ((lookL p known every).getD i z6).d ≤ 10000 from fun i hi => by
  have := lookL_num hok known every _ (getD_mem hi)
  unfold Num at this
  omega)
 have T1 := Lib.hid (numbers_any p A1 A2 A3 n1 c1 n2 c2 n3 c3 pb bf known A n c v3 N nn cn ns sown W1 (hP.ext g1) (hp.below g1) hok (by omega) (hF.ext g1) (ha.below g1) (hns.below g1) hI hnn)
 have u0 := HB1.out.cell 0
 have u1 := HB1.out.cell 1
 have HW1 := Lib.hid hW1
 have HSB := Lib.hid (show numsB p known sown ns = true → 0 ≤ sown ∧ sown ≤ 10000 from fun h => by
  unfold numsB at h
  rw [Bool.and_eq_true, rng_iff] at h
  have := HPH.out
  omega)
 have HNF := Lib.hid (show numsB p known sown ns = false → truthB p known sown ns = false from fun h => by unfold truthB; rw [h]; rfl)
 have HTF := Lib.hid (show ∀ i, i < (lookL p known every).length → tookB (lookL p known every) (numsL p known ns) i = false → truthB p known sown ns = false from fun i hi h => by
  unfold truthB
  rw [show ((List.range (lookL p known every).length).all (tookB (lookL p known every) (numsL p known ns))) = false from List.all_eq_false.2 ⟨i, List.mem_range.2 hi, by rw [h]; decide⟩, Bool.and_false]; rfl)
 have HSF := Lib.hid (show ∀ k, k < p.stands.length → standB known (lookL p known every) (truS p known sown ns) (p.stands.getD k z6) = false → truthB p known sown ns = false from fun k hk h => by
  unfold truthB
  rw [show (p.stands.all (standB known (lookL p known every) (truS p known sown ns))) = false from List.all_eq_false.2 ⟨_, getD_mem hk, by rw [h]; decide⟩, Bool.and_false]; rfl)
 have HTT := Lib.hid (show numsB p known sown ns = true → (∀ i, i < (lookL p known every).length → tookB (lookL p known every) (numsL p known ns) i = true) → (∀ k, k < p.stands.length → standB known (lookL p known every) (truS p known sown ns) (p.stands.getD k z6) = true) → truthB p known sown ns = decide (0 ≤ runK sown (numsL p known ns) (lookL p known every).length) from fun h1 h2 h3 => by
  unfold truthB
  rw [h1, List.all_eq_true.2 (fun i hi => h2 i (List.mem_range.1 hi)), List.all_eq_true.2 (fun x hx => by
   obtain ⟨i, hi, rfl⟩ := List.getElem_of_mem hx
   rw [← six_get hi]
   exact h3 i hi)]
  rfl)
 clear hP hp hF ha hns hI hok hW1 g1 hpar hla
 refine (callsIn_wide (n := 4)).1 (callsIn_of_wp_marks Tryz.func83 rfl trivial ?_ rfl)
 simp only [Tryz.ntmps83, List.size_toArray, List.length_cons, List.length_nil, Nat.reduceAdd, Nat.reduceSub, Array.replicate_succ, Array.replicate_zero, List.push_toArray, List.append_toArray, List.nil_append, List.cons_append]
 refine wpIn_wide.2 ?_
 go_upto_region 1 with fail
 rw [HW1.out]
 obtain ⟨nb, hnb⟩ : ∃ b, numsB p known sown ns = b := ⟨_, rfl⟩
 have HNB := Lib.hid hnb
 clear hnb
 cases nb with
 | false =>
  have HTF2 := Lib.hid (HNF.out HNB.out)
  go_upto_region 2 with (go_at_call 166; (with_reducible refine (T1.out).mono ?_); rintro e V2 ⟨⟨v, rfl, -, hv⟩, hg⟩; rw [HNB.out]; have hv := hv HNB.out; subst hv)
  have gx : Below W1.heap.size W1 (V2.alloc (.cells #[.slice none 0 0] 39)) := hg.trans ((one_more V2 _).mono hg.size)
  have HX4 := Lib.hid (HB4.out.ext gx)
  have HX5 := Lib.hid (HB5.out.ext gx)
  have m0 := HX4.out.cell 0
  have m1 := HX4.out.frozen 0
  have m2 := HX5.out.cell 0
  have m3 := HX5.out.frozen 0
  have GX := Lib.hid gx
  clear u0 u1 gx hg
  go_wp2_with fail
  have k4 := (HX4.out.set_ 0 (.slice none 0 0)).far (p := ⟨w.heap.size + 1 + 1, 0, none⟩) (by show w.heap.size + 1 ≠ w.heap.size + 1 + 1; omega) (.bool false)
  have k5 := (HX5.out.far (p := ⟨w.heap.size + 1, 0, none⟩) (by show w.heap.size + 1 + 1 ≠ w.heap.size + 1; omega) (.slice none 0 0)).set_ 0 (.bool false)
  have t0 := k4.cell 0
  have t1 := k5.cell 0
  refine ⟨.tuple #[.slice none 0 0, .bool false], ?_, ⟨⟨_, by rw [HTF2.out], fun h => (by rw [HTF2.out] at h; cases h)⟩, ?_⟩⟩
  ·simp [results, Tryz.results83, go_sem, t0, t1]
  ·exact ((G1.out.trans (GX.out.mono G1.out.size)).setCell (p := ⟨w.heap.size + 1, 0, none⟩) (by show w.heap.size ≤ w.heap.size + 1; omega) _).setCell (p := ⟨w.heap.size + 1 + 1, 0, none⟩) (by show w.heap.size ≤ w.heap.size + 1 + 1; omega) _
 | true =>
  go_upto_region 2 with (go_at_call 166; (with_reducible refine (T1.out).mono ?_); rintro e V2 ⟨⟨v, rfl, ho, -⟩, hg⟩; rw [HNB.out]; have HO := Lib.hid (ho HNB.out); clear ho; obtain ⟨D, c', hv, -, -, hin, -⟩ := OwnL.arr kdI HO.out; subst hv)
  have hls0 : (numsL p known ns).length = n := by rw [numsL_len]; exact HLA.out
  have HTS := Lib.hid (show truS p known sown ns = runP sown (numsL p known ns) n by
   have e : (numsL p known ns).length = n := hls0
   unfold truS runS runP
   rw [e])
  obtain ⟨nl, hnl⟩ : ∃ l, numsL p known ns = l := ⟨_, rfl⟩
  obtain ⟨ls, hlse⟩ : ∃ l, lookL p known every = l := ⟨_, rfl⟩
  have HSB2 := Lib.hid (HSB.out HNB.out)
  rw [hnl] at hls0 hin HTS HO ⊢
  rw [hnl, hlse] at HTF HTT
  rw [hlse] at HSF HW HLA HA1
  have HTT2 := Lib.hid (HTT.out HNB.out)
  rw [hls0] at hin ⊢
  have gx : Below W1.heap.size W1 (V2.alloc (.cells #[.slice D n c'] 39)) := hg.trans ((one_more V2 _).mono hg.size)
  obtain ⟨W2, hW2⟩ : ∃ W, V2.alloc (.cells #[.slice D n c'] 39) = W := ⟨_, rfl⟩
  have HB6 := Lib.hid (show Blk W2 V2.heap.size 39 #[.slice D n c'] by rw [← hW2]; exact Blk.new _ _ _)
  have HN2 := Lib.hid (show Ints W2 D n nl by rw [← hW2]; exact hin.below (one_more _ _))
  have HNV := Lib.hid (show ∀ b o, D = some ⟨b, o, none⟩ → 0 < n → b < V2.heap.size from fun b o e h0 => by
   obtain ⟨b', o', e', hlt, -⟩ := hin.2 h0
   rw [e] at e'; cases e'
   exact hlt)
  rw [hW2] at gx ⊢
  have G2 := Lib.hid (G1.out.trans (gx.mono G1.out.size))
  have HB12 := Lib.hid (HB1.out.ext gx)
  have HB42 := Lib.hid (HB4.out.ext gx)
  have HB52 := Lib.hid (HB5.out.ext gx)
  have HP2 := Lib.hid (HP1.out.ext gx)
  have HF2 := Lib.hid (HF1.out.ext gx)
  have HPA2 := Lib.hid (HPA.out.below gx)
  have HA2 := Lib.hid (HA1.out.below gx)
  have hv2s := hg.size
  have hb5l := HB5.out.lt
  have hb6l := HB6.out.lt
  have hfl2 := HF2.out.lt
  have hpl2 := HP2.out.lt
  have hw1s := G1.out.size
  have HLN0 := Lib.hid hls0
  clear hW2 hin hg gx hnl hlse u0 u1 hls0
  have v0 := HB12.out.cell 0
  go_upto_region 5 with fail
  obtain ⟨W3, hW3⟩ : ∃ W, (W2.alloc (.cells #[.int .i64 sown] 3)).alloc (.cells #[.slice (some ⟨W2.heap.size, 0, none⟩) 1 1] 39) = W := ⟨_, rfl⟩
  have g3 : Below W2.heap.size W2 W3 := by rw [← hW3]; exact two_more _ _ _
  have ho3 : OwnL icells 1 3 W3 W2.heap.size (.slice (some ⟨W2.heap.size, 0, none⟩) 1 1) (runP sown nl 0) := by rw [← hW3]; exact (own_one W2 sown).ext (one_more _ _)
  have hb8 : Blk W3 (W2.heap.size + 1) 39 #[.slice (some ⟨W2.heap.size, 0, none⟩) 1 1] := by rw [← hW3]; have := Blk.new (W2.alloc (.cells #[.int .i64 sown] 3)) 39 #[.slice (some ⟨W2.heap.size, 0, none⟩) 1 1]; rwa [World.size_alloc] at this
  have hs3 : W3.heap.size = W2.heap.size + 2 := by rw [← hW3]; simp
  rw [hW3]
  clear hW3 v0
  go_wp2_with fail
  refine (carted_any _ _).mono ?_
  rintro e w' ⟨rfl, hw'⟩
  have hbQ : Blk w' W3.heap.size 134 #[.pointer (some ⟨bf, 0, none⟩)] := by rw [← hw']; exact Blk.new _ _ _
  have g4 : Below W3.heap.size W3 w' := by rw [← hw']; exact one_more _ _
  have hs4 : w'.heap.size = W3.heap.size + 1 := by rw [← hw']; simp
  clear hw'
  rename World => W0
  have g5 : Below W2.heap.size W2 W0 := g3.trans (g4.mono g3.size)
  have HO0 := Lib.hid (ho3.ext g4)
  have HB80 := Lib.hid (hb8.ext g4)
  have HB10 := Lib.hid (HB12.out.ext g5)
  have HB40 := Lib.hid (HB42.out.ext g5)
  have HB50 := Lib.hid (HB52.out.ext g5)
  have HB60 := Lib.hid (HB6.out.ext g5)
  have HP0 := Lib.hid (HP2.out.ext g5)
  have HF0 := Lib.hid (HF2.out.ext g5)
  have HPA0 := Lib.hid (HPA2.out.below g5)
  have HA0 := Lib.hid (HA2.out.below g5)
  have HN0 := Lib.hid (HN2.out.below g5)
  have G0 := Lib.hid (G2.out.trans (g5.mono G2.out.size))
  have hg2s := G2.out.size
  obtain ⟨bS, hbS⟩ : ∃ b, W2.heap.size = b := ⟨_, rfl⟩
  have HQ0 := Lib.hid (show Blk W0 (bS + 2) 134 #[.pointer (some ⟨bf, 0, none⟩)] by rw [← hbS, ← hs3]; exact hbQ)
  have HAD := Lib.hid (show ∀ b o, A = some ⟨b, o, none⟩ → 0 < n → b ≠ bS + 1 ∧ b ≠ bS + 1 ∧ b < bS from fun b o e h0 => by
   obtain ⟨b', o', e', hlt, -⟩ := HA2.out.2 h0
   rw [e] at e'; cases e'
   omega)
  have HDD := Lib.hid (show ∀ b o, D = some ⟨b, o, none⟩ → 0 < n → b ≠ bS + 1 ∧ b ≠ bS + 1 ∧ b < bS from fun b o e h0 => by
   have := HNV.out b o e h0
   omega)
  have h0s : bS + 3 ≤ W0.heap.size := by omega
  have HNV0 := Lib.hid (show W2.heap.size = bS from hbS)
  rw [show W3.heap.size = bS + 2 by omega]
  rw [hbS] at HO0 HB80 hb6l hfl2 hpl2 hg2s ⊢
  obtain ⟨b6, hb6⟩ : ∃ b, V2.heap.size = b := ⟨_, rfl⟩
  rw [hb6] at HB60 hb6l hv2s ⊢
  have HSQ := Lib.hid (carted_seqP 3 W0 bS (bS + 2) bf (bS + 1) (bS + 1) A n c ls (HQ0.out.cell 0) (HF0.out.cell 2) HA0.out (by omega) HAD.out)
  clear g3 g4 g5 ho3 hb8 hs3 hs4 hbQ hbS hb6
  go_wp2_with fail
  refine (wpIn_wide (n := 4)).1 ?_
  refine wp_rangeP (α := Cx n) (n := 4) (by omega) (gf := 202) (lb := #[.pointer (some ⟨bS + 2, 0, none⟩)]) rfl (enters_of Tryz.func202 (by kernel_rfl) rfl) HSQ.out (Below.refl _ _) (fun _ => rfl)
   (fun pre W => FixU bS (bS + 1) (bS + 1) W0 W ∧ (∃ v, Blk W (bS + 1) 39 #[v] ∧ OwnL icells 1 3 W bS v (runP sown nl pre.length)) ∧ (∀ i, i < pre.length → tookB ls nl i = true) ∧ Oto W0 W)
   (fun cc _ W => cc = .ret ∧ Below w.heap.size w W ∧ Blk W (w.heap.size + 1) 39 #[.slice none 0 0] ∧ Blk W (w.heap.size + 1 + 1) 4 #[.bool false] ∧ ∃ i, i < ls.length ∧ tookB ls nl i = false) ?hI ?hIx ?h0
   (fun x a' W => ∃ Bx, W0.heap.size ≤ Bx ∧ Blk W Bx 103 #[.int .i64 (ls.getD x.1 z6).a, .int .i64 (ls.getD x.1 z6).b, .int .i64 (ls.getD x.1 z6).c, .int .i64 (ls.getD x.1 z6).d, .int .i64 (ls.getD x.1 z6).e, .int .i64 (ls.getD x.1 z6).f] ∧
    a' = (?F : Cx n → Nat → Act) x Bx) ?hAx ?assign ?body ?done ?stop
  case assign =>
   rintro l pre x W K ⟨hfx, ⟨v, hbo, ho⟩, htk, hto⟩ hK
   unfold encC
   gi_wp2
   refine hK _ _ ((KeepsOthers.alloc _ _).from _) (FixU.of_below (one_more _ _)) ⟨hfx.trans (FixU.of_below (one_more _ _)), ⟨v, hbo.alloc _, ho.ext (one_more _ _)⟩, htk, hto.below (one_more _ _)⟩ ⟨W.heap.size, hfx.size, Blk.new _ _ _, ?_⟩
   generalize W.heap.size = B
   rfl
  case hI =>
   rintro pre X Y row ⟨hfx, ⟨v, hbo, ho⟩, htk, hto⟩ hg hr
   have hr1 : ∀ r, row = some r → ∃ o : Obj, X.heap[r]? = some o ∧ o.isCells = false := fun r e => (hr r e).2
   exact ⟨(FixU.own (α := Nat) (Nat.le_refl _)) [] _ _ _ hfx hg hr, ⟨v, hbo.own hg hr1, ho.held hg hr1⟩, htk, hto.grown hg⟩
  case hIx =>
   rintro cc pre X Y row ⟨h1, h2, h3, h4, h5⟩ hg hr
   have hr1 : ∀ r, row = some r → ∃ o : Obj, X.heap[r]? = some o ∧ o.isCells = false := fun r e => (hr r e).2
   exact ⟨h1, h2.grown hg (by have := h2.size; omega) (fun k hk => by have := (hr k hk).1; omega), h3.own hg hr1, h4.own hg hr1, h5⟩
  case h0 => exact ⟨FixU.refl _ _ _ _, ⟨_, HB80.out, HO0.out⟩, fun i hi => absurd hi (Nat.not_lt_zero _), Oto.refl _⟩
  case hAx =>
   rintro x a' _ X Y row ⟨Bx, h1, h2, h3⟩ hg hr
   exact ⟨Bx, h1, h2.own hg (fun r e => (hr r e).2), h3⟩
  case body =>
   rintro l pre x a' W hl - ⟨hfx, ⟨v, hbo, ho⟩, htk, hto⟩ ⟨Bx, hBx, hB, rfl⟩ hpl hG
   have hXs := hfx.size
   obtain ⟨xi, hxi⟩ : ∃ xi, x.1 = xi := ⟨_, rfl⟩
   have hxn : xi < n := by rw [← hxi]; exact x.2
   rw [hxi] at hB hG ⊢
   have HPN := Lib.hid (show (pre ++ [x]).length = xi + 1 by rw [List.length_append, List.length_singleton, hG])
   rw [← hG] at ho htk
   obtain ⟨y, hy⟩ : ∃ y, ls.getD xi z6 = y := ⟨_, rfl⟩
   have HTK := Lib.hid htk
   have HTB := Lib.hid (show tookB ls nl xi = rng (nl.getD xi 0) y.c y.d by unfold tookB; rw [hy])
   have hwx := HW.out xi (by rw [HLA.out]; exact hxn)
   have HRB := Lib.hid (run_bd (ns := nl) HSB2.out HW.out xi (by rw [HLA.out]; omega) htk)
   have HRS := Lib.hid (show runK sown nl (xi + 1) = runK sown nl xi - nl.getD xi 0 from rfl)
   have HRP := Lib.hid (runP_succ sown nl xi)
   have HRA := Lib.hid (runP_at (sown := sown) (ns := nl) (k := xi) (i := xi) (Nat.le_refl _))
   rw [hy] at hB hwx
   obtain ⟨b9, o9, e9, -, -, hc9⟩ := ints_at (hfx.arr HN0.out HDD.out) hxn
   obtain ⟨nv, hnv⟩ : ∃ v, nl.getD xi 0 = v := ⟨_, rfl⟩
   rw [hnv] at hc9 HTB HRS
   have HB6W := Lib.hid (hfx.blk HB60.out (by omega) (by omega) (.inr (by decide)))
   obtain ⟨Av, cv, hve, -, -, hvi, -⟩ := OwnL.arr kdI ho
   rw [runP_len] at hve hvi
   subst hve
   obtain ⟨b7, o7, e7, -, -, hc7⟩ := ints_at hvi (show xi < xi + 1 by omega)
   rw [HRA.out] at hc7
   obtain ⟨rk, hrk⟩ : ∃ v, runK sown nl xi = v := ⟨_, rfl⟩
   rw [hrk] at hc7 HRS HRB
   obtain ⟨pv, hpv⟩ : ∃ l, runP sown nl xi = l := ⟨_, rfl⟩
   have HPL := Lib.hid (show pv.length + 1 ≤ 1000000 by rw [← hpv, runP_len]; omega)
   rw [hpv] at ho HRP
   have HFX := Lib.hid hfx
   have HBO := Lib.hid hbo
   have HO9 := Lib.hid ho
   have HTO := Lib.hid hto
   have HBX := Lib.hid hB
   have HGW := Lib.hid (show Below w.heap.size w W from G0.out.trans (hfx.below (D := w.heap.size) hto (by omega) (by omega) (by omega) (by omega)))
   have HB4W := Lib.hid (hfx.blk HB40.out (by omega) (by omega) (.inr (by decide)))
   have HB5W := Lib.hid (hfx.blk HB50.out (by omega) (by omega) (.inr (by decide)))
   obtain ⟨rv, hrv⟩ : ∃ b, rng nv y.c y.d = b := ⟨_, rfl⟩
   have TW := fun V => within_any nv y.c y.d V
   rw [hrv] at TW HTB
   have HTW := Lib.hid TW
   have HRV := Lib.hid hrv
   have u0 := cellW (HB6W.out.cell 0)
   have u1 := cellW (hc9 W (Below.refl _ _))
   have u2 := cellW (HBX.out.cell 2)
   have u3 := cellW (HBX.out.cell 3)
   have HC9 := Lib.hid hc9
   have HC7 := Lib.hid hc7
   have HTM := Lib.hid (fun (V : World) (g : Below W.heap.size W V) => (⟨g.size, fun k o _ hk _ => (g.block k (Array.getElem?_eq_some_iff.1 hk).1).trans hk⟩ : KeepsFrom W0.heap.size W V))
   subst e9 e7
   clear hy hG hxi htk hnv hrk hpv hfx hbo ho hto hB hvi hrv TW hc9 hc7
   have hxi1 : (xi : Int) < (xi : Int) + 1 := by omega
   have hxi2 : (xi : Int) < (n : Int) := by omega
   gi_wp2_with fail
   refine wpIn_region_quiet (Open.round l) (C := fun w' => ∃ x : Wd W, w' = x.val) (by kernel_rfl) (by kernel_rfl) (by kernel_rfl) (Wd.of (Below.refl _ _).drew) ?_
   repeat (go_big_quiet_step (first | (go_at_call 145; exact callsCalmSame (HTW.out _))))
   refine wpQuiet_nil ?_
   rintro _ ⟨z, rfl⟩
   clear u0 u1 u2 u3
   have GZ := Lib.hid z.ok
   obtain ⟨Z, hZ⟩ : ∃ Z, z.val = Z := ⟨_, rfl⟩
   rw [hZ] at GZ ⊢
   clear hZ z
   have hzs := GZ.out.size
   cases rv with
   | false =>
    have k4 := HB4W.out.ext GZ.out
    have k5 := HB5W.out.ext GZ.out
    have m0 := k4.cell 0
    have m1 := k4.frozen 0
    have m2 := k5.cell 0
    have m3 := k5.frozen 0
    have K4 := Lib.hid k4
    have K5 := Lib.hid k5
    have hb5w := k5.lt
    clear k4 k5
    gi_wp2_with fail
    refine ⟨(HTM.out _ GZ.out).trans (((KeepsOthers.setCell _ _ _).from _).trans ((KeepsOthers.setCell _ _ _).from _)), rfl, ?_, ?_, ?_, xi, by rw [HLA.out]; exact hxn, HTB.out⟩
    ·exact ((HGW.out.trans (GZ.out.mono HGW.out.size)).setCell (p := ⟨w.heap.size + 1, 0, none⟩) (by show w.heap.size ≤ w.heap.size + 1; omega) _).setCell (p := ⟨w.heap.size + 1 + 1, 0, none⟩) (by show w.heap.size ≤ w.heap.size + 1 + 1; omega) _
    ·exact (K4.out.set_ 0 (.slice none 0 0)).far (p := ⟨w.heap.size + 1 + 1, 0, none⟩) (by show w.heap.size + 1 ≠ w.heap.size + 1 + 1; omega) (.bool false)
    ·exact (K5.out.far (p := ⟨w.heap.size + 1, 0, none⟩) (by show w.heap.size + 1 + 1 ≠ w.heap.size + 1; omega) (.slice none 0 0)).set_ 0 (.bool false)
   | true =>
    have hrb := rng_iff.1 HRV.out
    have hrk := HRB.out
    have HBOZ := Lib.hid (HBO.out.ext GZ.out)
    have HOZ := Lib.hid (HO9.out.ext GZ.out)
    have u0 := HBOZ.out.cell 0
    have u1 := HC9.out Z GZ.out
    have u2 := (HB6W.out.ext GZ.out).cell 0
    have u3 := HC7.out Z GZ.out
    have HOX := Lib.hid (HOZ.out.ext (one_more Z (.cells #[.int .i64 (rk - nv)] 3)))
    have HI1 := Lib.hid (one_int (Blk.new Z 3 #[.int .i64 (rk - nv)]))
    have HOB := Lib.hid (own_ne39 HBOZ.out HOZ.out)
    have hwr : IntKind.i64.wrap (rk - nv) = rk - nv := by rw [IntKind.wrap_i64]; omega
    gi_wp2_with fail
    refine wpIn_region_upto (S := fun V => V.cell? ⟨bS + 1, 0, none⟩ = some (.slice (some ⟨b7, o7, none⟩) (xi + 1) cv) ∧ V.cell? ⟨b9, o9 + xi, none⟩ = some (.int .i64 nv) ∧ V.cell? ⟨b6, 0, none⟩ = some (.slice (some ⟨b9, o9, none⟩) n c') ∧ V.cell? ⟨b7, o7 + xi, none⟩ = some (.int .i64 rk)) 11 (by kernel_rfl) (by kernel_rfl) (⟨u0, u1, u2, u3⟩) (fun hHeld => ?_)
    (refine upto_take [11] (i := 0) (oi := ⟨_, _, _, _, _, _⟩) (d := some 40) (v := ?_) rfl rfl (by kernel_rfl) (by kernel_rfl) (fun _ _ _ h => h) (by rfl) ?_ (by assumption) ?_; rotate_left; (focus (intro w hSw; (try dsimp only at hSw); go_simp; try with_reducible rfl)); (try simp only [Act.put, List.setIfInBounds_toArray, List.set_cons_zero, List.set_cons_succ]))
    (refine upto_take [3, 4, 9, 10, 11] (i := 1) (oi := ⟨_, _, _, _, _, _⟩) (d := some 41) (v := ?_) rfl rfl (by kernel_rfl) (by kernel_rfl) (fun _ _ _ h => h) (by rfl) ?_ (by assumption) ?_; rotate_left; (focus (intro w hSw; (try dsimp only at hSw); go_simp; try with_reducible rfl)); (try simp only [Act.put, List.setIfInBounds_toArray, List.set_cons_zero, List.set_cons_succ]))
    (refine upto_take [3, 4, 9, 10, 11] (i := 2) (oi := ⟨_, _, _, _, _, _⟩) (d := some 42) (v := ?_) rfl rfl (by kernel_rfl) (by kernel_rfl) (fun _ _ _ h => h) (by rfl) ?_ (by assumption) ?_; rotate_left; (focus (intro w hSw; (try dsimp only at hSw); go_simp; try with_reducible rfl)); (try simp only [Act.put, List.setIfInBounds_toArray, List.set_cons_zero, List.set_cons_succ]))
    (refine upto_take [4, 9, 10, 11] (i := 3) (oi := ⟨_, _, _, _, _, _⟩) (d := some 43) (v := ?_) rfl rfl (by kernel_rfl) (by kernel_rfl) (fun _ _ _ h => h) (by rfl) ?_ (by assumption) ?_; rotate_left; (focus (intro w hSw; (try dsimp only at hSw); go_simp; try with_reducible rfl)); (try simp only [Act.put, List.setIfInBounds_toArray, List.set_cons_zero, List.set_cons_succ]))
    (refine upto_take [9, 10, 11] (i := 4) (oi := ⟨_, _, _, _, _, _⟩) (d := some 44) (v := ?_) rfl rfl (by kernel_rfl) (by kernel_rfl) (fun _ _ _ h => h) (by rfl) ?_ (by assumption) ?_; rotate_left; (focus (intro w hSw; (try dsimp only at hSw); go_simp; try with_reducible rfl)); (try simp only [Act.put, List.setIfInBounds_toArray, List.set_cons_zero, List.set_cons_succ]))
    (refine upto_take [7, 8, 9, 10, 11] (i := 5) (oi := ⟨_, _, _, _, _, _⟩) (d := some 45) (v := ?_) rfl rfl (by kernel_rfl) (by kernel_rfl) (fun _ _ _ h => h) (by rfl) ?_ (by assumption) ?_; rotate_left; (focus (intro w hSw; (try dsimp only at hSw); go_simp; try with_reducible rfl)); (try simp only [Act.put, List.setIfInBounds_toArray, List.set_cons_zero, List.set_cons_succ]))
    (refine upto_take [7, 8, 9, 10, 11] (i := 6) (oi := ⟨_, _, _, _, _, _⟩) (d := some 46) (v := ?_) rfl rfl (by kernel_rfl) (by kernel_rfl) (fun _ _ _ h => h) (by rfl) ?_ (by assumption) ?_; rotate_left; (focus (intro w hSw; (try dsimp only at hSw); go_simp; try with_reducible rfl)); (try simp only [Act.put, List.setIfInBounds_toArray, List.set_cons_zero, List.set_cons_succ]))
    (refine upto_take [8, 9, 10, 11] (i := 7) (oi := ⟨_, _, _, _, _, _⟩) (d := some 47) (v := ?_) rfl rfl (by kernel_rfl) (by kernel_rfl) (fun _ _ _ h => h) (by rfl) ?_ (by assumption) ?_; rotate_left; (focus (intro w hSw; (try dsimp only at hSw); go_simp; try with_reducible rfl)); (try simp only [Act.put, List.setIfInBounds_toArray, List.set_cons_zero, List.set_cons_succ]))
    (refine upto_take [9, 10, 11] (i := 8) (oi := ⟨_, _, _, _, _, _⟩) (d := some 48) (v := ?_) rfl rfl (by kernel_rfl) (by kernel_rfl) (fun _ _ _ h => h) (by rfl) ?_ (by assumption) ?_; rotate_left; (focus (intro w hSw; (try dsimp only at hSw); go_simp; try with_reducible rfl)); (try simp only [Act.put, List.setIfInBounds_toArray, List.set_cons_zero, List.set_cons_succ]))
    (refine upto_take [10, 11] (i := 9) (oi := ⟨_, _, _, _, _, _⟩) (d := some 49) (v := ?_) rfl rfl (by kernel_rfl) (by kernel_rfl) (fun _ _ _ h => h) (by rfl) ?_ (by assumption) ?_; rotate_left; (focus (intro w hSw; (try dsimp only at hSw); go_simp; try with_reducible rfl)); (try simp only [Act.put, List.setIfInBounds_toArray, List.set_cons_zero, List.set_cons_succ]))
    refine upto_one 10 (o := ⟨_, _, _, _, _, _⟩) rfl (by kernel_rfl) (by decide) (fun K hK => ?_)
    go_simp
    refine hK.out _ _ ?_ (fun hHeld => ?_)
    ·exact ⟨keepAlloc u0 _, keepAlloc u1 _, keepAlloc u2 _, keepAlloc u3 _⟩
    clear hK K
    (try simp only [Act.put, List.setIfInBounds_toArray, List.set_cons_zero, List.set_cons_succ])
    refine upto_last (o := ⟨_, _, _, _, _, _⟩) rfl (by kernel_rfl) (fun K hK => ?_)
    (go_loud (refine step_app kdI (by rfl) _ _ (by rfl) bS (.slice (some ⟨b7, o7, none⟩) (xi + 1) cv) pv (by rfl) HOX.out _ 1 1 [rk - nv] (by rfl) HI1.out HPL.out (by simp; omega) ?_); intro v' w2 ho2 hg2 hz2; have hg2 : (Z.alloc (.cells #[.int .i64 (rk - nv)] 3)).grownBy w2 (Value.slice (some ⟨b7, o7, none⟩) (xi + 1) cv).ownBlock := ⟨hg2.os, hg2.tape, hg2.output, hg2.size, hg2.block⟩; obtain ⟨Av2, cv2, hve, -⟩ := OwnL.arr kdI ho2; obtain ⟨nv2, hnv⟩ : ∃ q, (pv ++ [rk - nv]).length = q := ⟨_, rfl⟩; rw [hnv] at hve; subst hve; clear hnv; have b9' := ((HBOZ.out.alloc (.cells #[.int .i64 (rk - nv)] 3)).grown hg2 (fun e => HOB.out e)); have m0 := b9'.cell 0; have m1 := b9'.frozen 0; have HS := Lib.hid (app_step2 (bS + 1) HBOZ.out HOZ.out ho2 hg2); clear ho2 hg2 b9' hz2)
    refine hK.out _ _ ?_
    clear hK K
    (try simp only [Act.put, List.setIfInBounds_toArray, List.set_cons_zero, List.set_cons_succ])
    refine any_one 12 (o := ⟨_, _, _, _, _, _⟩) rfl (by kernel_rfl) (fun K hK => ?_)
    go_simp
    refine hK.out _ _ ?_
    clear hK K
    (try simp only [Act.put, List.setIfInBounds_toArray, List.set_cons_zero, List.set_cons_succ])
    refine any_done (by kernel_rfl) ?_
    have FZ := Lib.hid (FixU.of_below (B := bS) (bw := bS + 1) (bs := bS + 1) GZ.out)
    refine ⟨(HTM.out _ GZ.out).trans (HS.out.kf _), FZ.out.trans HS.out.fx, HFX.out.trans (FZ.out.trans HS.out.fx), ⟨_, HS.out.bx, ?_⟩, fun i hi => ?_, (HTO.out.below GZ.out).trans HS.out.oto⟩
    ·rw [HPN.out, HRP.out, HRS.out]
     exact HS.out.own
    ·rw [HPN.out] at hi
     by_cases e : i = xi
     ·rw [e]; exact HTB.out
     ·exact HTK.out i (by omega)
  case done =>
   rintro E xs W hD hS ⟨hfx, ⟨v, hbo, ho⟩, htk, hto⟩ hK
   have hxl : xs.length = n := by
    have := congrArg List.length hS
    rw [List.length_map, List.length_range] at this
    exact this
   rw [hxl] at ho htk
   have hXs := hfx.size
   have HTK := Lib.hid (show ∀ i, i < ls.length → tookB ls nl i = true from fun i hi => htk i (by rw [HLA.out] at hi; exact hi))
   have HTS2 := Lib.hid HTS.out
   have HRN := Lib.hid (show runP sown nl n = runP sown nl n ∧ (runP sown nl n).getD n 0 = runK sown nl n from ⟨rfl, runP_at (Nat.le_refl _)⟩)
   obtain ⟨Av, cv, hve, -, -, hvi, -⟩ := OwnL.arr kdI ho
   rw [runP_len] at hve hvi
   subst hve
   obtain ⟨ts, hts⟩ : ∃ l, runP sown nl n = l := ⟨_, rfl⟩
   rw [hts] at HTS2 HRN hvi ho
   rw [HTS2.out] at HSF HTT2
   have HTT3 := Lib.hid (fun h => HTT2.out HTK.out h)
   rw [HLA.out] at HTT3
   have HOW := Lib.hid ho
   have HVI := Lib.hid hvi
   have HB8W := Lib.hid hbo
   have HB4W := Lib.hid (hfx.blk HB40.out (by omega) (by omega) (.inr (by decide)))
   have HB5W := Lib.hid (hfx.blk HB50.out (by omega) (by omega) (.inr (by decide)))
   have HPW := Lib.hid (hfx.blk HP0.out (by omega) (by omega) (.inr (by decide)))
   have HFW := Lib.hid (hfx.blk HF0.out (by omega) (by omega) (.inr (by decide)))
   have HAW := Lib.hid (hfx.arr HA0.out HAD.out)
   have HL2 := Lib.hid (hfx.arr HPA0.out.l2 (fun b o e h0 => by
    obtain ⟨b', o', e', hlt, -⟩ := HPA2.out.l2.2 h0
    rw [e] at e'; cases e'
    have := HNV0.out
    omega))
   have GW := Lib.hid (show Below w.heap.size w W from G0.out.trans (hfx.below (D := w.heap.size) hto (by omega) (by omega) (by omega) (by omega)))
   have HK := Lib.hid hK
   have hbfl := HFW.out.lt
   have hb8l := hbo.lt
   have hb4l := HB4W.out.lt
   have hb5l := HB5W.out.lt
   have hEl := (Array.getElem?_eq_some_iff.1 hK).1
   have hl2n := HL2.out.1
   have HL2N := Lib.hid hl2n
   have q0 := HFW.out.cell 0
   have q1 := HPW.out.cell 3
   clear hfx hbo ho htk hto hK hS hvi hts hl2n hxl
   go_upto_region 12 with fail
   clear q0 q1
   go_loopw [60] (fun i wr => ∃ k : Nat, k ≤ n2 ∧ i = .int .i64 k ∧ Below W.heap.size W wr ∧ ∀ j, j < k → standB known ls ts (p.stands.getD j z6) = true) (fun i _ => n2 - (intOf i).toNat)
   case atStart => exact ⟨0, Nat.zero_le _, rfl, Below.refl _ _, fun j hj => absurd hj (Nat.not_lt_zero _)⟩
   case round =>
    obtain ⟨k, hk, rfl, hg, hok⟩ := hrel
    have HG := Lib.hid hg
    have HST := Lib.hid hok
    have hws := hg.size
    clear hg hok
    by_cases hkn : k < n2
    ·obtain ⟨b0, o0, e0, -, -, hc⟩ := six_at (HL2.out.below HG.out) hkn
     obtain ⟨x0, x1, x2, x3, x4, x5⟩ := hc wr (Below.refl _ _)
     have HSFk := Lib.hid (HSF.out k (by rw [HL2N.out]; exact hkn))
     obtain ⟨x, hxg⟩ : ∃ x, p.stands.getD k z6 = x := ⟨_, rfl⟩
     rw [hxg] at x0 x1 x2 x3 x4 x5 HSFk
     have HXG := Lib.hid hxg
     subst e0
     obtain ⟨cb, hcb⟩ : ∃ cb, cnt x known = cb := ⟨_, rfl⟩
     have HSD := Lib.hid (show standB known ls ts x = (!cb || rng (ts.getD (after ls x.b) 0) x.c x.d) by unfold standB; rw [hcb])
     have TC := fun V => cnt_any x known V
     rw [hcb] at TC
     have HTC := Lib.hid TC
     clear hc hxg hcb TC
     go_upto_region 14 with fail
     obtain ⟨W5, hW5⟩ : ∃ V, wr.alloc (.cells #[.int .i64 x.a, .int .i64 x.b, .int .i64 x.c, .int .i64 x.d, .int .i64 x.e, .int .i64 x.f] 105) = V := ⟨_, rfl⟩
     rw [hW5]
     have HX5 := Lib.hid (show Blk W5 wr.heap.size 105 #[.int .i64 x.a, .int .i64 x.b, .int .i64 x.c, .int .i64 x.d, .int .i64 x.e, .int .i64 x.f] by rw [← hW5]; exact Blk.new _ _ _)
     have G5 := Lib.hid (show Below W.heap.size W W5 from HG.out.trans ((show Below wr.heap.size wr W5 by rw [← hW5]; exact one_more _ _).mono hws))
     clear hW5 x0 x1 x2 x3 x4 x5
     have v1 := cellW (HX5.out.cell 1)
     have v2 := cellW (HX5.out.cell 2)
     have v3 := cellW (HX5.out.cell 3)
     have v4 := cellW (HX5.out.cell 4)
     have v5 := cellW (HX5.out.cell 5)
     have v6 := cellW ((HFW.out.ext G5.out).cell 1)
     have v7 := cellW ((HB8W.out.ext G5.out).cell 0)
     cases cb with
     | false =>
      have HSD2 := Lib.hid (show standB known ls ts x = true by rw [HSD.out]; rfl)
      refine wp_region_calm W5 (by kernel_rfl) (by kernel_rfl) (Below.refl _ _) ?_
      repeat (go_big_quiet_step (first | (go_at_call 159; exact callsCalmSame (HTC.out _))))
      refine wpQuiet_nil ?_
      rintro _ ⟨z, rfl⟩
      have GZ := Lib.hid (G5.out.trans (z.ok.mono G5.out.size))
      clear v1 v2 v3 v4 v5 v6 v7
      go_wp2_with fail
      go_roundw
      case rel => exact ⟨k + 1, by omega, by go_num, GZ.out, fun j hj => (Nat.lt_or_ge j k).elim (fun h => HST.out j h) (fun h => by rw [show j = k by omega, HXG.out]; exact HSD2.out)⟩
      case measure => simp [intOf]; omega
     | true =>
      have hav := after_len ls x.b
      rw [HLA.out] at hav
      have T79 := fun z : Wd W5 => after_any bf A n c ls x.b z.val (Nat.lt_of_lt_of_le hbfl (Nat.le_trans G5.out.size z.size)) ((HFW.out.ext (G5.out.trans (z.ok.mono G5.out.size))).cell 2) (HAW.out.below (G5.out.trans (z.ok.mono G5.out.size))) (by omega)
      obtain ⟨av, hav2⟩ : ∃ a, after ls x.b = a := ⟨_, rfl⟩
      rw [hav2] at T79 HSD hav
      have HT79 := Lib.hid T79
      obtain ⟨b7, o7, e7, -, -, hc7⟩ := ints_at HVI.out (show av < n + 1 by omega)
      obtain ⟨tv, htv⟩ : ∃ v, ts.getD av 0 = v := ⟨_, rfl⟩
      rw [htv] at hc7 HSD
      have v8 := cellW (hc7 W5 G5.out)
      obtain ⟨rv, hrv⟩ : ∃ b, rng tv x.c x.d = b := ⟨_, rfl⟩
      have TW := fun V => within_any tv x.c x.d V
      rw [hrv] at TW HSD
      have HTW := Lib.hid TW
      subst e7
      clear hav2 T79 htv hc7 hrv TW
      have havi : (av : Int) < (n : Int) + 1 := by omega
      cases rv with
      | true =>
       have HSD2 := Lib.hid (show standB known ls ts x = true by rw [HSD.out]; rfl)
       refine wp_region_calm W5 (by kernel_rfl) (by kernel_rfl) (Below.refl _ _) ?_
       repeat (go_big_quiet_step (first | (go_at_call 159; exact callsCalmSame (HTC.out _)) | (go_at_call 79; exact callsCalm (HT79.out _)) | (go_at_call 145; exact callsCalmSame (HTW.out _))))
       refine wpQuiet_nil ?_
       rintro _ ⟨z, rfl⟩
       have GZ := Lib.hid (G5.out.trans (z.ok.mono G5.out.size))
       clear v1 v2 v3 v4 v5 v6 v7 v8
       go_wp2_with fail
       go_roundw
       case rel => exact ⟨k + 1, by omega, by go_num, GZ.out, fun j hj => (Nat.lt_or_ge j k).elim (fun h => HST.out j h) (fun h => by rw [show j = k by omega, HXG.out]; exact HSD2.out)⟩
       case measure => simp [intOf]; omega
      | false =>
       have HF9 := Lib.hid (HSFk.out (by rw [HSD.out]; rfl))
       refine wp_region_calm W5 (by kernel_rfl) (by kernel_rfl) (Below.refl _ _) ?_
       repeat (go_big_quiet_step (first | (go_at_call 159; exact callsCalmSame (HTC.out _)) | (go_at_call 79; exact callsCalm (HT79.out _)) | (go_at_call 145; exact callsCalmSame (HTW.out _))))
       refine wpQuiet_nil ?_
       rintro _ ⟨z, rfl⟩
       have GZ := Lib.hid (G5.out.trans (z.ok.mono G5.out.size))
       clear v1 v2 v3 v4 v5 v6 v7 v8
       have K4 := Lib.hid (HB4W.out.ext GZ.out)
       have K5 := Lib.hid (HB5W.out.ext GZ.out)
       have m0 := K4.out.cell 0
       have m1 := K4.out.frozen 0
       have m2 := K5.out.cell 0
       have m3 := K5.out.frozen 0
       have HKZ := Lib.hid ((GZ.out.block E hEl).trans HK.out)
       go_wp2_with fail
       have k4 := (K4.out.set_ 0 (.slice none 0 0)).far (p := ⟨w.heap.size + 1 + 1, 0, none⟩) (by show w.heap.size + 1 ≠ w.heap.size + 1 + 1; omega) (.bool false)
       have k5 := (K5.out.far (p := ⟨w.heap.size + 1, 0, none⟩) (by show w.heap.size + 1 + 1 ≠ w.heap.size + 1; omega) (.slice none 0 0)).set_ 0 (.bool false)
       have t0 := (k4.putObj (D := E) (by omega) (.deferred none)).cell 0
       have t1 := (k5.putObj (D := E) (by omega) (.deferred none)).cell 0
       refine ⟨by simp, .inl ⟨_, _, rfl, run_takeDeferred ((Below.heap_setCell _ _ _ _ (by show E ≠ w.heap.size + 1 + 1; omega)).trans ((Below.heap_setCell _ _ _ _ (by show E ≠ w.heap.size + 1; omega)).trans HKZ.out)), ?_⟩⟩
       refine ⟨.tuple #[.slice none 0 0, .bool false], ?_, ⟨⟨_, by rw [HF9.out], fun h => (by rw [HF9.out] at h; cases h)⟩, ?_⟩⟩
       ·simp [results, Tryz.results83, go_sem, t0, t1]
       ·have gx := ((GW.out.trans (GZ.out.mono GW.out.size)).setCell (p := ⟨w.heap.size + 1, 0, none⟩) (by show w.heap.size ≤ w.heap.size + 1; omega) (.slice none 0 0)).setCell (p := ⟨w.heap.size + 1 + 1, 0, none⟩) (by show w.heap.size ≤ w.heap.size + 1 + 1; omega) (.bool false)
        exact gx.grown (grownBy_putObj' _ E _) gx.size (fun k hk => by cases hk; omega)
    ·obtain rfl : n2 = k := by omega
     have HTV := Lib.hid (HTT3.out (fun j hj => HST.out j (by rw [← HL2N.out]; exact hj)))
     have hRN := HRN.out.2
     obtain ⟨b7, o7, e7, -, -, hc7⟩ := ints_at HVI.out (show n < n + 1 by omega)
     rw [hRN] at hc7
     obtain ⟨rk, hrk⟩ : ∃ r, runK sown nl n = r := ⟨_, rfl⟩
     rw [hrk] at hc7 HTV
     have HC8 := Lib.hid hc7
     have HBN := Lib.hid (show bS ≤ b7 from (own_cells HOW.out (by rw [e7]; rfl)).1)
     subst e7
     clear hrk hRN hc7 hkn hk
     have hm1 : (n : Int) + 1 - 1 = n := by omega
     have hm3 : (n : Int) < (n : Int) + 1 := by omega
     have hm2 : IntKind.i64.wrap (n : Int) = (n : Int) := by rw [IntKind.wrap_i64]; omega
     go_wp2_with fail
     have K4 := Lib.hid (HB4W.out.ext HG.out)
     have K5 := Lib.hid (HB5W.out.ext HG.out)
     have v7 := (HB8W.out.ext HG.out).cell 0
     have v8 := HC8.out wr HG.out
     have m0 := K4.out.cell 0
     have m1 := K4.out.frozen 0
     have m2 := K5.out.cell 0
     have m3 := K5.out.frozen 0
     have HKZ := Lib.hid ((HG.out.block E hEl).trans HK.out)
     have HOZ := Lib.hid (HOW.out.ext HG.out)
     have GZ := HG
     have HB7 := Lib.hid (show b7 ≠ w.heap.size + 1 from fun e => by have := HBN.out; omega)
     have HKS := Lib.hid (show (wr.drew.setCell ⟨w.heap.size + 1, 0, none⟩ (.slice (some ⟨b7, o7, none⟩) (n + 1) cv)).cell? ⟨bS + 1, 0, none⟩ = some (.slice (some ⟨b7, o7, none⟩) (n + 1) cv) ∧ (wr.drew.setCell ⟨w.heap.size + 1, 0, none⟩ (.slice (some ⟨b7, o7, none⟩) (n + 1) cv)).cell? ⟨b7, o7 + n, none⟩ = some (.int .i64 rk) ∧ (wr.drew.setCell ⟨w.heap.size + 1, 0, none⟩ (.slice (some ⟨b7, o7, none⟩) (n + 1) cv)).cell? ⟨w.heap.size + 1 + 1, 0, none⟩ = some (.bool false) ∧ (wr.drew.setCell ⟨w.heap.size + 1, 0, none⟩ (.slice (some ⟨b7, o7, none⟩) (n + 1) cv)).frozen? ⟨w.heap.size + 1 + 1, 0, none⟩ = false from by
      have k5 := K5.out.far (p := ⟨w.heap.size + 1, 0, none⟩) (by show w.heap.size + 1 + 1 ≠ w.heap.size + 1; omega) (.slice (some ⟨b7, o7, none⟩) (n + 1) cv)
      have k8 := (HB8W.out.ext HG.out).far (p := ⟨w.heap.size + 1, 0, none⟩) (by show bS + 1 ≠ w.heap.size + 1; omega) (.slice (some ⟨b7, o7, none⟩) (n + 1) cv)
      exact ⟨k8.cell 0, (World.cell?_of_block (a := ⟨b7, o7 + n, none⟩) (Below.heap_setCell _ _ _ _ HB7.out)).trans v8, k5.cell 0, k5.frozen 0⟩)
     clear v7 v8 m0 m1 m2 m3
     have v7 := (HB8W.out.ext HG.out).cell 0
     have v8 := HC8.out wr HG.out
     have m0 := K4.out.cell 0
     have m1 := K4.out.frozen 0
     have m2 := K5.out.cell 0
     have m3 := K5.out.frozen 0
     refine wp_region_uptoQ (S := fun V => V.cell? ⟨bS + 1, 0, none⟩ = some (.slice (some ⟨b7, o7, none⟩) (n + 1) cv) ∧ V.cell? ⟨b7, o7 + n, none⟩ = some (.int .i64 rk) ∧ V.cell? ⟨w.heap.size + 1 + 1, 0, none⟩ = some (.bool false) ∧ V.frozen? ⟨w.heap.size + 1 + 1, 0, none⟩ = false) 9 (by kernel_rfl) (⟨v7, v8, m2, m3⟩) (fun hHeld => ?_)
     (refine upto_take [8, 9] (i := 0) (oi := ⟨_, _, _, _, _, _⟩) (d := some 91) (v := ?_) rfl rfl (by kernel_rfl) (by kernel_rfl) (fun _ _ _ h => h) (by rfl) ?_ (by assumption) ?_; rotate_left; (focus (intro w hSw; (try dsimp only at hSw); go_simp; try with_reducible rfl)); (try simp only [Act.put, List.setIfInBounds_toArray, List.set_cons_zero, List.set_cons_succ]))
     (refine upto_take [5, 6, 7, 9] (i := 1) (oi := ⟨_, _, _, _, _, _⟩) (d := some 92) (v := ?_) rfl rfl (by kernel_rfl) (by kernel_rfl) (fun _ _ _ h => h) (by rfl) ?_ (by assumption) ?_; rotate_left; (focus (intro w hSw; (try dsimp only at hSw); go_simp; try with_reducible rfl)); (try simp only [Act.put, List.setIfInBounds_toArray, List.set_cons_zero, List.set_cons_succ]))
     (refine upto_take [3, 4, 5, 6, 7, 9] (i := 2) (oi := ⟨_, _, _, _, _, _⟩) (d := some 93) (v := ?_) rfl rfl (by kernel_rfl) (by kernel_rfl) (fun _ _ _ h => h) (by rfl) ?_ (by assumption) ?_; rotate_left; (focus (intro w hSw; (try dsimp only at hSw); go_simp; try with_reducible rfl)); (try simp only [Act.put, List.setIfInBounds_toArray, List.set_cons_zero, List.set_cons_succ]))
     (refine upto_take [4, 5, 6, 7, 9] (i := 3) (oi := ⟨_, _, _, _, _, _⟩) (d := some 94) (v := ?_) rfl rfl (by kernel_rfl) (by kernel_rfl) (fun _ _ _ h => h) (by rfl) ?_ (by assumption) ?_; rotate_left; (focus (intro w hSw; (try dsimp only at hSw); go_simp; try with_reducible rfl)); (try simp only [Act.put, List.setIfInBounds_toArray, List.set_cons_zero, List.set_cons_succ]))
     (refine upto_take [5, 6, 7, 9] (i := 4) (oi := ⟨_, _, _, _, _, _⟩) (d := some 95) (v := ?_) rfl rfl (by kernel_rfl) (by kernel_rfl) (fun _ _ _ h => h) (by rfl) ?_ (by assumption) ?_; rotate_left; (focus (intro w hSw; (try dsimp only at hSw); go_simp; try with_reducible rfl)); (try simp only [Act.put, List.setIfInBounds_toArray, List.set_cons_zero, List.set_cons_succ]))
     (refine upto_take [6, 7, 9] (i := 5) (oi := ⟨_, _, _, _, _, _⟩) (d := some 96) (v := ?_) rfl rfl (by kernel_rfl) (by kernel_rfl) (fun _ _ _ h => h) (by rfl) ?_ (by assumption) ?_; rotate_left; (focus (intro w hSw; (try dsimp only at hSw); go_simp; try with_reducible rfl)); (try simp only [Act.put, List.setIfInBounds_toArray, List.set_cons_zero, List.set_cons_succ]))
     (refine upto_take [7, 9] (i := 6) (oi := ⟨_, _, _, _, _, _⟩) (d := some 97) (v := ?_) rfl rfl (by kernel_rfl) (by kernel_rfl) (fun _ _ _ h => h) (by rfl) ?_ (by assumption) ?_; rotate_left; (focus (intro w hSw; (try dsimp only at hSw); go_simp; try with_reducible rfl)); (try simp only [Act.put, List.setIfInBounds_toArray, List.set_cons_zero, List.set_cons_succ]))
     (refine upto_take [9] (i := 7) (oi := ⟨_, _, _, _, _, _⟩) (d := some 98) (v := ?_) rfl rfl (by kernel_rfl) (by kernel_rfl) (fun _ _ _ h => h) (by rfl) ?_ (by assumption) ?_; rotate_left; (focus (intro w hSw; (try dsimp only at hSw); go_simp; try with_reducible rfl)); (try simp only [Act.put, List.setIfInBounds_toArray, List.set_cons_zero, List.set_cons_succ]))
     refine upto_one 8 (o := ⟨_, _, _, _, _, _⟩) rfl (by kernel_rfl) (by decide) (fun K hK => ?_)
     go_simp
     refine hK.out _ _ ?_ (fun hHeld => ?_)
     ·exact HKS.out
     clear hK K
     (try simp only [Act.put, List.setIfInBounds_toArray, List.set_cons_zero, List.set_cons_succ])
     refine upto_last (o := ⟨_, _, _, _, _, _⟩) rfl (by kernel_rfl) (fun K hK => ?_)
     go_simp
     refine hK.out _ _ ?_
     clear hK K
     (try simp only [Act.put, List.setIfInBounds_toArray, List.set_cons_zero, List.set_cons_succ])
     refine any_done (by kernel_rfl) ?_
     simp only [onlyQ]
     go_wp2_with fail
     have k4 := (K4.out.set_ 0 (.slice (some ⟨b7, o7, none⟩) (n + 1) cv)).far (p := ⟨w.heap.size + 1 + 1, 0, none⟩) (by show w.heap.size + 1 ≠ w.heap.size + 1 + 1; omega) (.bool (decide (0 ≤ rk)))
     have k5 := (K5.out.far (p := ⟨w.heap.size + 1, 0, none⟩) (by show w.heap.size + 1 + 1 ≠ w.heap.size + 1; omega) (.slice (some ⟨b7, o7, none⟩) (n + 1) cv)).set_ 0 (.bool (decide (0 ≤ rk)))
     have t0 := (k4.drew_.putObj (D := E) (by omega) (.deferred none)).cell 0
     have t1 := (k5.drew_.putObj (D := E) (by omega) (.deferred none)).cell 0
     refine ⟨by simp, .inl ⟨_, _, rfl, run_takeDeferred ((Below.heap_setCell _ _ _ _ (by show E ≠ w.heap.size + 1 + 1; omega)).trans ((Below.heap_setCell _ _ _ _ (by show E ≠ w.heap.size + 1; omega)).trans HKZ.out)), ?_⟩⟩
     refine ⟨.tuple #[.slice (some ⟨b7, o7, none⟩) (n + 1) cv, .bool (decide (0 ≤ rk))], ?_, ⟨⟨_, by rw [HTV.out], fun _ => ?_⟩, ?_⟩⟩
     ·simp [results, Tryz.results83, go_sem, t0, t1]
     ·rw [HTS2.out]
      exact (((HOZ.out.far (p := ⟨w.heap.size + 1, 0, none⟩) (by show w.heap.size + 1 < bS; omega) _).far (p := ⟨w.heap.size + 1 + 1, 0, none⟩) (by show w.heap.size + 1 + 1 < bS; omega) _).held (grownBy_putObj' _ E _) (fun r e => by cases e; exact ⟨_, (Below.heap_setCell _ _ _ _ (by show E ≠ w.heap.size + 1 + 1; omega)).trans ((Below.heap_setCell _ _ _ _ (by show E ≠ w.heap.size + 1; omega)).trans HKZ.out), rfl⟩)).mono (by omega)
     ·have gx := ((GW.out.trans (GZ.out.mono GW.out.size)).setCell (p := ⟨w.heap.size + 1, 0, none⟩) (by show w.heap.size ≤ w.heap.size + 1; omega) (.slice (some ⟨b7, o7, none⟩) (n + 1) cv)).setCell (p := ⟨w.heap.size + 1 + 1, 0, none⟩) (by show w.heap.size ≤ w.heap.size + 1 + 1; omega) (.bool (decide (0 ≤ rk)))
      exact gx.drew.grown (grownBy_putObj' _ E _) gx.size (fun k hk => by cases hk; omega)
  case stop =>
   rintro E cd pre W hD hS ⟨rfl, hgw, hb4, hb5, i, hi, hti⟩ hK
   have hF9 := HTF.out i hi hti
   have hw1 := HB4.out.lt
   have hw2 := HB50.out.lt
   have t0 := (hb4.putObj (D := E) (by omega) (.deferred none)).cell 0
   have t1 := (hb5.putObj (D := E) (by omega) (.deferred none)).cell 0
   gi_wp2
   refine ⟨by simp, .inl ⟨_, _, rfl, run_takeDeferred hK, ?_⟩⟩
   refine ⟨.tuple #[.slice none 0 0, .bool false], ?_, ⟨⟨_, by rw [hF9], fun h => (by rw [hF9] at h; cases h)⟩, ?_⟩⟩
   ·simp [results, Tryz.results83, go_sem, t0, t1]
   ·exact hgw.grown (grownBy_putObj' _ E _) hgw.size (fun k hk => by cases hk; omega)
end Go.Proofs.YtkoejeghihcmlaaGreat

namespace Go.Proofs.YtkoejeghihcmlaaGreat
open Go.RowKit Go.Shelf
def leftE (p : Pl) (hours : List Int) (known sown : Int) (ns : List Int) : Int := if firstE p hours [known] = 0 then err (truthB p known sown ns) 16 else firstE p hours [known]
def leftV (p : Pl) (hour known sown : Int) (ns : List Int) : Int := if leftE p [hour] known sown ns = 0 then (truS p known sown ns).getD (after (lookL p known every) hour) 0 else 0
/-- What truly returns. -/
def TrulyEnd (p : Pl) (pb : Nat) (hour known sown : Int) (ns : List Int) (w : World) (e : Ending) (w' : World) : Prop :=
 ∃ r v, e = .returned (.tuple #[r, v, .int .i64 (leftE p [hour] known sown ns)]) ∧ Below w.heap.size w w' ∧
  (leftE p [hour] known sown ns = 0 → ∃ bf bs A n c, r = .pointer (some ⟨bf, 0, none⟩) ∧ Lk w.heap.size w' pb known (lookL p known every) (lookS p known every) bf bs A n c ∧ OwnL icells 1 3 w' w.heap.size v (truS p known sown ns)) ∧
  (leftE p [hour] known sown ns ≠ 0 → r = .pointer none ∧ v = .slice none 0 0)
set_option maxRecDepth 100000 in
set_option maxHeartbeats 4000000 in
theorem truly_any (p : Pl) (A1 A2 A3 : Option Addr) (n1 c1 n2 c2 n3 c3 pb : Nat) (hour known : Int) (N : Option Addr) (nn cn : Nat) (ns : List Int) (sown : Int) (w : World) (hP : Blk w pb 38 (plb p A1 A2 A3 n1 c1 n2 c2 n3 c3))
  (hp : Pa w p A1 A2 A3 n1 c1 n2 c2 n3 c3) (h19 : p.loads.length ≤ 60) (hns : Ints w N nn ns) (hI : ∀ x ∈ ns, -9223372036854775808 ≤ x ∧ x ≤ 9223372036854775807) (hnn : nn ≤ 9223372036854775807) :
  Calls Tryz.prog 78 #[.pointer (some ⟨pb, 0, none⟩), .agg #[.int .i64 sown, .slice N nn cn], .int .i64 hour, .int .i64 known] w (TrulyEnd p pb hour known sown ns w) := by
 obtain ⟨W1, hW1⟩ : ∃ W1, w.alloc (.cells #[.int .i64 sown, .slice N nn cn] 41) = W1 := ⟨_, rfl⟩
 have g1 : Below w.heap.size w W1 := by rw [← hW1]; exact one_more _ _
 have HC := Lib.hid (show Blk W1 w.heap.size 41 #[.int .i64 sown, .slice N nn cn] by rw [← hW1]; exact Blk.new _ _ _)
 have HP := Lib.hid (hP.ext g1)
 have HPA := Lib.hid (hp.below g1)
 have HN := Lib.hid (hns.below g1)
 have HI := Lib.hid hI
 have H19 := Lib.hid h19
 have HL19 := Lib.hid (lookL_len h19 known every)
 obtain ⟨W2, hW2⟩ : ∃ W2, (W1.alloc (.cells #[.int .i64 hour] 3)).alloc (.cells #[.int .i64 known] 3) = W2 := ⟨_, rfl⟩
 have g2 : Below W1.heap.size W1 W2 := by rw [← hW2]; exact two_more _ _ _
 have i1 : Ints W2 (some ⟨W1.heap.size, 0, none⟩) 1 [hour] := by rw [← hW2]; exact one_int ((Blk.new _ _ _).alloc _)
 have i2 : Ints W2 (some ⟨W1.heap.size + 1, 0, none⟩) 1 [known] := by
  rw [← hW2]
  have := Blk.new (W1.alloc (.cells #[.int .i64 hour] 3)) 3 #[.int .i64 known]
  rw [World.size_alloc] at this
  exact one_int this
 have T1 := Lib.hid (first_any p A1 A2 A3 n1 c1 n2 c2 n3 c3 _ _ 1 1 1 1 [hour] [known] W2 (HPA.out.below g2) i1 i2 (by decide) (by decide))
 have G1 := Lib.hid g1
 have G2 := Lib.hid g2
 have HE := Lib.hid (show leftE p [hour] known sown ns = if firstE p [hour] [known] = 0 then err (truthB p known sown ns) 16 else firstE p [hour] [known] from rfl)
 have HOK := Lib.hid (fun h => first_ok (p := p) (hours := [hour]) (days := [known]) h)
 obtain ⟨fe, hfe⟩ : ∃ fe, firstE p [hour] [known] = fe := ⟨_, rfl⟩
 rw [hfe] at T1 HE HOK
 have p0 := HP.out.cell 0
 have p1 := HP.out.cell 1
 have p2 := HP.out.cell 2
 have p3 := HP.out.cell 3
 have p4 := HP.out.cell 4
 have p5 := HP.out.cell 5
 clear hfe g1 g2 i1 i2 hP hp hns hI h19
 have HW1 := Lib.hid hW1
 have HW2 := Lib.hid hW2
 clear hW1 hW2
 by_cases hf0 : fe = 0
 ·subst hf0
  have HOK1 := Lib.hid (HOK.out rfl)
  have HE2 := Lib.hid (show leftE p [hour] known sown ns = err (truthB p known sown ns) 16 from HE.out)
  have T2 := Lib.hid (fun W (g : Below W1.heap.size W1 W) => look_lk p A1 A2 A3 n1 c1 n2 c2 n3 c3 pb known every .nilFunc W (HP.out.ext g) (HPA.out.below g) HOK1.out H19.out (sm_nil W))
  have T3 := Lib.hid (fun W bf bs A n c (g : Below W1.heap.size W1 W) (hl : Lk W1.heap.size W pb known (lookL p known every) (lookS p known every) bf bs A n c) => truth_any p A1 A2 A3 n1 c1 n2 c2 n3 c3 pb bf known A n c _ N nn cn ns sown W (HP.out.ext g) (HPA.out.below g) HOK1.out (by have := hl.num; have := HL19.out; omega) hl.fd.f hl.ar (HN.out.below g) HI.out hnn)
  obtain ⟨tb, htb⟩ : ∃ b, truthB p known sown ns = b := ⟨_, rfl⟩
  rw [htb] at HE2
  have HTB := Lib.hid htb
  clear htb
  go_enter Tryz.func78, Tryz.ntmps78
  go_upto_region 1 with fail
  rw [HW1.out]
  go_upto_region 4 with (go_at_call 80; (try rw [HW2.out]); (with_reducible refine (T1.out).mono ?_); rintro e W3 ⟨rfl, hg⟩; have G3 := Lib.hid (G2.out.trans (hg.mono G2.out.size)); clear hg)
  go_upto_region 5 with (go_at_call 81; (with_reducible refine (T2.out _ G3.out).mono ?_); rintro e W4 ⟨bf, bs, A, n, c, rfl, hg, hl⟩; have G4 := Lib.hid (G3.out.trans (hg.mono G3.out.size)); have HL := Lib.hid (hl.le G3.out.size); clear hg hl)
  have k0 := (HC.out.ext G4.out).cell 0
  have k1 := (HC.out.ext G4.out).cell 1
  clear p0 p1 p2 p3 p4 p5
  go_upto_region 6 with (go_at_call 83; (with_reducible refine (T3.out _ _ _ _ _ _ G4.out HL.out).mono ?_); rintro e W5 ⟨⟨v, rfl, ho⟩, hg⟩; have HO := Lib.hid ho; have HG := Lib.hid hg; clear ho hg; rw [HTB.out])
  have HLE := Lib.hid (HL.out.ext HG.out)
  have GE := Lib.hid (G1.out.trans ((G4.out.trans (HG.out.mono G4.out.size)).mono G1.out.size))
  cases tb with
  | false =>
   go_wp2_with fail
   go_ret3
   exact ⟨_, _, by rw [HE2.out]; rfl, GE.out, fun h => (by rw [HE2.out] at h; cases h), fun _ => ⟨rfl, rfl⟩⟩
  | true =>
   go_wp2_with fail
   go_ret3
   exact ⟨_, _, by rw [HE2.out]; rfl, GE.out, fun _ => ⟨bf, bs, A, n, c, rfl, HLE.out.le G1.out.size, (HO.out HTB.out).mono (Nat.le_trans G1.out.size G4.out.size)⟩, fun h => absurd (HE2.out.trans rfl) h⟩
 ·have HE2 := Lib.hid (show leftE p [hour] known sown ns = fe by rw [HE.out, if_neg hf0])
  have hne : (fe != 0) = true := by simpa using hf0
  go_enter Tryz.func78, Tryz.ntmps78
  go_upto_region 1 with fail
  rw [HW1.out]
  go_wp2_with (go_at_call 80; (try rw [HW2.out]); (with_reducible refine (T1.out).mono ?_); rintro e W3 ⟨rfl, hg⟩; have G3 := Lib.hid (G2.out.trans (hg.mono G2.out.size)); clear hg)
  go_ret3
  exact ⟨_, _, by rw [HE2.out]; rfl, G1.out.trans (G3.out.mono G1.out.size), fun h => absurd (HE2.out.symm.trans h) hf0, fun _ => ⟨rfl, rfl⟩⟩
set_option maxRecDepth 100000 in
set_option maxHeartbeats 4000000 in
theorem left_any (p : Pl) (A1 A2 A3 : Option Addr) (n1 c1 n2 c2 n3 c3 : Nat) (hour known : Int) (N : Option Addr) (nn cn : Nat) (ns : List Int) (sown : Int) (w : World)
  (hp : Pa w p A1 A2 A3 n1 c1 n2 c2 n3 c3) (h19 : p.loads.length ≤ 60) (hns : Ints w N nn ns) (hI : ∀ x ∈ ns, -9223372036854775808 ≤ x ∧ x ≤ 9223372036854775807) (hnn : nn ≤ 9223372036854775807) :
  Calls Tryz.prog 19 #[plv p A1 A2 A3 n1 c1 n2 c2 n3 c3, .agg #[.int .i64 sown, .slice N nn cn], .int .i64 hour, .int .i64 known] w fun e w' => e = .returned (.tuple #[.int .i64 (leftV p hour known sown ns), .int .i64 (leftE p [hour] known sown ns)]) ∧ Below w.heap.size w w' := by
 obtain ⟨W1, hW1⟩ : ∃ W1, (w.alloc (.cells (plb p A1 A2 A3 n1 c1 n2 c2 n3 c3) 38)).alloc (.cells #[.int .i64 sown, .slice N nn cn] 41) = W1 := ⟨_, rfl⟩
 have g1 : Below w.heap.size w W1 := by rw [← hW1]; exact two_more _ _ _
 have b1 : Blk W1 w.heap.size 38 (plb p A1 A2 A3 n1 c1 n2 c2 n3 c3) := by rw [← hW1]; exact (Blk.new _ _ _).alloc _
 have b2 : Blk W1 (w.heap.size + 1) 41 #[.int .i64 sown, .slice N nn cn] := by rw [← hW1]; have := Blk.new (w.alloc (.cells (plb p A1 A2 A3 n1 c1 n2 c2 n3 c3) 38)) 41 #[.int .i64 sown, .slice N nn cn]; rwa [World.size_alloc] at this
 have T := Lib.hid (truly_any p A1 A2 A3 n1 c1 n2 c2 n3 c3 w.heap.size hour known N nn cn ns sown W1 b1 (hp.below g1) h19 (hns.below g1) hI hnn)
 have HL19 := Lib.hid (lookL_len h19 known every)
 have G1 := Lib.hid g1
 have k0 := b2.cell 0
 have k1 := b2.cell 1
 have HV := Lib.hid (show leftV p hour known sown ns = if leftE p [hour] known sown ns = 0 then (truS p known sown ns).getD (after (lookL p known every) hour) 0 else 0 from rfl)
 have HLN := Lib.hid (truS_len p known sown ns)
 obtain ⟨lv, hlv⟩ : ∃ v, leftV p hour known sown ns = v := ⟨_, rfl⟩
 obtain ⟨le, hle⟩ : ∃ v, leftE p [hour] known sown ns = v := ⟨_, rfl⟩
 rw [hlv, hle] at HV ⊢
 have HLE := Lib.hid hle
 have HW1 := Lib.hid hW1
 clear hp h19 hns hI hW1 g1 b1 b2 hlv hle
 by_cases h0 : le = 0
 ·subst h0
  have HV2 := Lib.hid (show lv = (truS p known sown ns).getD (after (lookL p known every) hour) 0 from HV.out)
  go_enter Tryz.func19, Tryz.ntmps19
  go_upto_region 1 with fail
  rw [HW1.out]
  go_upto_region 4 with (go_at_call 78; (with_reducible refine (T.out).mono ?_); rintro e W2 ⟨r, v, rfl, hg, ht, -⟩; obtain ⟨bf, bs, A, n, c, rfl, hl, ho⟩ := ht HLE.out; rw [HLE.out]; have G2 := Lib.hid hg; have HL := Lib.hid hl; obtain ⟨D, c', hv, -, -, hi, -⟩ := OwnL.arr kdI ho; subst hv; have HI2 := Lib.hid hi; clear hg hl ho hi ht)
  rw [HLN.out]
  have hnum := HL.out.num
  rw [HLN.out] at HI2
  rw [← hnum] at HI2 ⊢
  have hn19 : n ≤ 60 := by rw [hnum]; exact HL19.out
  have hav := after_le (lookL p known every) hour
  rw [← hnum] at hav
  have T79 := after_any bf A n c (lookL p known every) hour W2 HL.out.fd.f.lt (HL.out.fd.f.cell 2) HL.out.ar (by omega)
  obtain ⟨av, hav2⟩ : ∃ av, after (lookL p known every) hour = av := ⟨_, rfl⟩
  rw [hav2] at T79 HV2 hav
  obtain ⟨b7, o7, e7, -, -, hc7⟩ := ints_at HI2.out (show av < n + 1 by omega)
  rw [← HV2.out] at hc7
  have HC7 := Lib.hid hc7
  have HT := Lib.hid T79
  have havi : (av : Int) < (n : Int) + 1 := by omega
  subst e7
  clear T79 hav2 hc7 hnum k0 k1
  go_wp2_with (go_at_call 79; (with_reducible refine (HT.out).mono ?_); rintro e W3 ⟨rfl, hg⟩; have k9 := HC7.out _ hg; have G3 := Lib.hid hg; clear hg)
  go_ret2
  exact ⟨rfl, G1.out.trans ((G2.out.trans (G3.out.mono G2.out.size)).mono G1.out.size)⟩
 ·have HV2 := Lib.hid (show lv = 0 by rw [HV.out, if_neg h0])
  have hne : (le != 0) = true := by simpa using h0
  rw [HV2.out]
  go_enter Tryz.func19, Tryz.ntmps19
  go_upto_region 1 with fail
  rw [HW1.out]
  go_wp2_with (go_at_call 78; (with_reducible refine (T.out).mono ?_); rintro e W2 ⟨r, v, rfl, hg, -, ht⟩; obtain ⟨rfl, rfl⟩ := ht (by rw [HLE.out]; exact h0); rw [HLE.out]; have G2 := Lib.hid hg; clear hg ht)
  go_ret2
  exact ⟨rfl, G1.out.trans (G2.out.mono G1.out.size)⟩
set_option maxRecDepth 100000 in
set_option maxHeartbeats 4000000 in
theorem checkCart_any (p : Pl) (A1 A2 A3 : Option Addr) (n1 c1 n2 c2 n3 c3 : Nat) (known : Int) (N : Option Addr) (nn cn : Nat) (ns : List Int) (sown : Int) (w : World)
  (hp : Pa w p A1 A2 A3 n1 c1 n2 c2 n3 c3) (h19 : p.loads.length ≤ 60) (hns : Ints w N nn ns) (hI : ∀ x ∈ ns, -9223372036854775808 ≤ x ∧ x ≤ 9223372036854775807) (hnn : nn ≤ 9223372036854775807) :
  Calls Tryz.prog 21 #[plv p A1 A2 A3 n1 c1 n2 c2 n3 c3, .int .i64 known, .agg #[.int .i64 sown, .slice N nn cn]] w fun e w' => e = .returned (.int .i64 (leftE p [] known sown ns)) ∧ Below w.heap.size w w' := by
 obtain ⟨W1, hW1⟩ : ∃ W1, (w.alloc (.cells (plb p A1 A2 A3 n1 c1 n2 c2 n3 c3) 38)).alloc (.cells #[.int .i64 sown, .slice N nn cn] 41) = W1 := ⟨_, rfl⟩
 have g1 : Below w.heap.size w W1 := by rw [← hW1]; exact two_more _ _ _
 have HP := Lib.hid (show Blk W1 w.heap.size 38 (plb p A1 A2 A3 n1 c1 n2 c2 n3 c3) by rw [← hW1]; exact (Blk.new _ _ _).alloc _)
 have HC := Lib.hid (show Blk W1 (w.heap.size + 1) 41 #[.int .i64 sown, .slice N nn cn] by rw [← hW1]; have := Blk.new (w.alloc (.cells (plb p A1 A2 A3 n1 c1 n2 c2 n3 c3) 38)) 41 #[.int .i64 sown, .slice N nn cn]; rwa [World.size_alloc] at this)
 have HPA := Lib.hid (hp.below g1)
 have HN := Lib.hid (hns.below g1)
 have HI := Lib.hid hI
 have H19 := Lib.hid h19
 have HL19 := Lib.hid (lookL_len h19 known every)
 have G1 := Lib.hid g1
 have T := Lib.hid (fun W (g : Below W1.heap.size W1 W) (i1 : Ints W (some ⟨W1.heap.size, 0, none⟩) 1 [known]) => first_any p A1 A2 A3 n1 c1 n2 c2 n3 c3 none (some ⟨W1.heap.size, 0, none⟩) 0 0 1 1 [] [known] W (HPA.out.below g) Arr.nil_ i1 (by decide) (by decide))
 have HI1 := Lib.hid (one_int (Blk.new W1 3 #[.int .i64 known]))
 have HG1 := Lib.hid (one_more W1 (.cells #[.int .i64 known] 3))
 have HE := Lib.hid (show leftE p [] known sown ns = if firstE p [] [known] = 0 then err (truthB p known sown ns) 16 else firstE p [] [known] from rfl)
 have HOK := Lib.hid (fun h => first_ok (p := p) (hours := []) (days := [known]) h)
 obtain ⟨fe, hfe⟩ : ∃ fe, firstE p [] [known] = fe := ⟨_, rfl⟩
 rw [hfe] at T HE HOK
 obtain ⟨le, hle⟩ : ∃ v, leftE p [] known sown ns = v := ⟨_, rfl⟩
 rw [hle] at HE ⊢
 have p0 := HP.out.cell 0
 have p1 := HP.out.cell 1
 have p2 := HP.out.cell 2
 have p3 := HP.out.cell 3
 have p4 := HP.out.cell 4
 have p5 := HP.out.cell 5
 have HW1 := Lib.hid hW1
 clear hp h19 hns hI hW1 g1 hfe hle
 by_cases hf0 : fe = 0
 ·subst hf0
  have HOK1 := Lib.hid (HOK.out rfl)
  have HE2 := Lib.hid (show le = err (truthB p known sown ns) 16 from HE.out)
  have T2 := Lib.hid (fun W (g : Below W1.heap.size W1 W) => look_lk p A1 A2 A3 n1 c1 n2 c2 n3 c3 w.heap.size known every .nilFunc W (HP.out.ext g) (HPA.out.below g) HOK1.out H19.out (sm_nil W))
  have T3 := Lib.hid (fun W bf bs A n c (g : Below W1.heap.size W1 W) (hl : Lk W1.heap.size W w.heap.size known (lookL p known every) (lookS p known every) bf bs A n c) => truth_any p A1 A2 A3 n1 c1 n2 c2 n3 c3 w.heap.size bf known A n c _ N nn cn ns sown W (HP.out.ext g) (HPA.out.below g) HOK1.out (by have := hl.num; have := HL19.out; omega) hl.fd.f hl.ar (HN.out.below g) HI.out hnn)
  obtain ⟨tb, htb⟩ : ∃ b, truthB p known sown ns = b := ⟨_, rfl⟩
  rw [htb] at HE2
  have HTB := Lib.hid htb
  clear htb
  go_enter Tryz.func21, Tryz.ntmps21
  go_upto_region 1 with fail
  rw [HW1.out]
  go_upto_region 4 with (go_at_call 80; (with_reducible refine (T.out _ HG1.out HI1.out).mono ?_); rintro e W3 ⟨rfl, hg⟩; have G3 := Lib.hid (HG1.out.trans (hg.mono HG1.out.size)); clear hg)
  have k0 := (HC.out.ext G3.out).cell 0
  have k1 := (HC.out.ext G3.out).cell 1
  clear p0 p1 p2 p3 p4 p5
  refine wp_region_uptoQ (S := fun V => V.cell? ⟨w.heap.size + 1, 0, none⟩ = some (.int .i64 sown) ∧ V.cell? ⟨w.heap.size + 1, 1, none⟩ = some (.slice N nn cn)) 8 (by kernel_rfl) (⟨k0, k1⟩) (fun hHeld => ?_)
  (refine upto_take [1, 3, 7, 8] (i := 0) (oi := ⟨_, _, _, _, _, _⟩) (d := some 18) (v := ?_) rfl rfl (by kernel_rfl) (by kernel_rfl) (fun _ _ _ h => h) (by rfl) ?_ (by assumption) ?_; rotate_left; (focus (intro w hSw; (try dsimp only at hSw); go_simp; try with_reducible rfl)); (try simp only [Act.put, List.setIfInBounds_toArray, List.set_cons_zero, List.set_cons_succ]))
  (refine upto_take [3, 7, 8] (i := 2) (oi := ⟨_, _, _, _, _, _⟩) (d := some 20) (v := ?_) rfl rfl (by kernel_rfl) (by kernel_rfl) (fun _ _ _ h => h) (by rfl) ?_ (by assumption) ?_; rotate_left; (focus (intro w hSw; (try dsimp only at hSw); go_simp; try with_reducible rfl)); (try simp only [Act.put, List.setIfInBounds_toArray, List.set_cons_zero, List.set_cons_succ]))
  refine upto_one 1 (o := ⟨_, _, _, _, _, _⟩) rfl (by kernel_rfl) (by decide) (fun K hK => ?_)
  (go_simp; go_at_call 81; (with_reducible refine (T2.out _ G3.out.drew).mono ?_); rintro e W4 ⟨bf, bs, A, n, c, rfl, hg, hl⟩; have G4 := Lib.hid (G3.out.drew.trans (hg.mono G3.out.size)); have HL := Lib.hid (hl.le G3.out.size); clear hg hl)
  refine hK.out _ _ ?_ (fun hHeld => ?_)
  ·exact ⟨(HC.out.ext G4.out).cell 0, (HC.out.ext G4.out).cell 1⟩
  clear hK K
  (try simp only [Act.put, List.setIfInBounds_toArray, List.set_cons_zero, List.set_cons_succ])
  refine upto_one 3 (o := ⟨_, _, _, _, _, _⟩) rfl (by kernel_rfl) (by decide) (fun K hK => ?_)
  (go_simp; go_at_call 83; (with_reducible refine (T3.out _ _ _ _ _ _ G4.out HL.out).mono ?_); rintro e W5 ⟨⟨v, rfl, ho⟩, hg⟩; have HG := Lib.hid hg; clear ho hg; rw [HTB.out])
  refine hK.out _ _ ?_ (fun hHeld => ?_)
  ·exact ⟨(HC.out.ext (G4.out.trans (HG.out.mono G4.out.size))).cell 0, (HC.out.ext (G4.out.trans (HG.out.mono G4.out.size))).cell 1⟩
  clear hK K
  (try simp only [Act.put, List.setIfInBounds_toArray, List.set_cons_zero, List.set_cons_succ])
  (refine upto_take [6, 8] (i := 4) (oi := ⟨_, _, _, _, _, _⟩) (d := some 17) (v := ?_) rfl rfl (by kernel_rfl) (by kernel_rfl) (fun _ _ _ h => h) (by rfl) ?_ (by assumption) ?_; rotate_left; (focus (intro w hSw; (try dsimp only at hSw); go_simp; try with_reducible rfl)); (try simp only [Act.put, List.setIfInBounds_toArray, List.set_cons_zero, List.set_cons_succ]))
  (refine upto_take [7, 8] (i := 5) (oi := ⟨_, _, _, _, _, _⟩) (d := some 22) (v := ?_) rfl rfl (by kernel_rfl) (by kernel_rfl) (fun _ _ _ h => h) (by rfl) ?_ (by assumption) ?_; rotate_left; (focus (intro w hSw; (try dsimp only at hSw); go_simp; try with_reducible rfl)); (try simp only [Act.put, List.setIfInBounds_toArray, List.set_cons_zero, List.set_cons_succ]))
  (refine upto_take [8] (i := 6) (oi := ⟨_, _, _, _, _, _⟩) (d := some 23) (v := ?_) rfl rfl (by kernel_rfl) (by kernel_rfl) (fun _ _ _ h => h) (by rfl) ?_ (by assumption) ?_; rotate_left; (focus (intro w hSw; (try dsimp only at hSw); go_simp; try with_reducible rfl)); (try simp only [Act.put, List.setIfInBounds_toArray, List.set_cons_zero, List.set_cons_succ]))
  (refine upto_take [8] (i := 7) (oi := ⟨_, _, _, _, _, _⟩) (d := some 8) (v := ?_) rfl rfl (by kernel_rfl) (by kernel_rfl) (fun _ _ _ h => h) (by rfl) ?_ (by assumption) ?_; rotate_left; (focus (intro w hSw; (try dsimp only at hSw); go_simp; try with_reducible rfl)); (try simp only [Act.put, List.setIfInBounds_toArray, List.set_cons_zero, List.set_cons_succ]))
  refine upto_last (o := ⟨_, _, _, _, _, _⟩) rfl (by kernel_rfl) (fun K hK => ?_)
  go_simp
  refine hK.out _ _ ?_
  clear hK K
  (try simp only [Act.put, List.setIfInBounds_toArray, List.set_cons_zero, List.set_cons_succ])
  refine any_done (by kernel_rfl) ?_
  simp only [onlyQ]
  have GE := Lib.hid (G1.out.trans ((G4.out.trans (HG.out.mono G4.out.size)).mono G1.out.size))
  cases tb with
  | false =>
   go_wp2_with fail
   go_ret
   exact ⟨by rw [HE2.out]; rfl, GE.out⟩
  | true =>
   go_wp2_with fail
   go_ret
   exact ⟨by rw [HE2.out]; rfl, GE.out⟩
 ·have HE2 := Lib.hid (show le = fe by rw [HE.out, if_neg hf0])
  have hne : (fe != 0) = true := by simpa using hf0
  go_enter Tryz.func21, Tryz.ntmps21
  go_upto_region 1 with fail
  rw [HW1.out]
  go_wp2_with (go_at_call 80; (with_reducible refine (T.out _ HG1.out HI1.out).mono ?_); rintro e W3 ⟨rfl, hg⟩; have G3 := Lib.hid (HG1.out.trans (hg.mono HG1.out.size)); clear hg)
  go_ret
  exact ⟨by rw [HE2.out]; rfl, G1.out.trans (G3.out.mono G1.out.size)⟩
end Go.Proofs.YtkoejeghihcmlaaGreat
