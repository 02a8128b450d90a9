/- The field: numbers. -/
import Derived.Test.YtkoejeghihcmlaaGreatWJ
namespace Go.Proofs.YtkoejeghihcmlaaGreat
open Go.RowKit Go.Shelf Go.Maps
attribute [local go_sem] Oper.semAt_some

/-- A map from numbers to numbers. -/
def NumMap (w : World) (b m : Nat) (g : Int → Int) : Prop :=
  ∃ (n : Nat) (D : DataW Unit), n ≤ m ∧ w.ownsMap Tryz.prog 3 (plainElem Tryz.prog 3) b n D ∧ ∀ i : Int, 0 ≤ i → i ≤ 100000 → D.atKey (.int .i64 i) (.lit (.int .i64 0)) = .lit (.int .i64 (g i))
theorem NumMap.lt {w : World} {b m : Nat} {g : Int → Int} (h : NumMap w b m g) : b < w.heap.size := by
  obtain ⟨n, D, -, h2, -⟩ := h
  exact h2.lt
theorem NumMap.same {w w' : World} {b m : Nat} {g : Int → Int} (h : NumMap w b m g) (e : w'.heap[b]? = w.heap[b]?) : NumMap w' b m g := by
  obtain ⟨n, D, h1, ⟨es, clock, hb, F, hs, hD⟩, h3⟩ := h
  exact ⟨n, D, h1, ⟨es, clock, e.trans hb, F, hs, hD⟩, h3⟩
theorem NumMap.ext {w w' : World} {b m : Nat} {g : Int → Int} (h : NumMap w b m g) (k : Below w.heap.size w w') : NumMap w' b m g := h.same (k.block b h.lt)
theorem NumMap.new (w : World) : NumMap (w.alloc (.map #[] 0)) w.heap.size 0 (fun _ => 0) := ⟨0, .map [], Nat.le_refl _, World.ownsMap_made _ _ _ _, fun _ _ _ => rfl⟩
theorem NumMap.look {w : World} {b m : Nat} {g : Int → Int} (h : NumMap w b m g) {i : Int} (h0 : 0 ≤ i) (h1 : i ≤ 100000) :
    (Instr.lookup 230 (.map (some b)) (.int .i64 i) false).run Tryz.prog w = .ok (.int .i64 (g i)) w := by
  obtain ⟨n, D, -, h2, h3⟩ := h
  obtain ⟨c, hrun, hat, -⟩ := h2.lookup_int (int_keyed Tryz.underlying3) Tryz.underlying230 Tryz.underlying3 (Tryz.zeroValue3 _) (keyOf_int_mk Tryz.underlying3 (lit_wf h0 h1))
  rw [h3 i h0 h1] at hat
  cases hat
  exact hrun
theorem NumMap.put {w' : World} {b m n : Nat} {g : Int → Int} {D : DataW Unit} {i v : Int} (h0 : 0 ≤ i) (h1 : i ≤ 100000) (hn : n ≤ m) (hm : IsMap D) (h3 : ∀ i : Int, 0 ≤ i → i ≤ 100000 → D.atKey (.int .i64 i) (.lit (.int .i64 0)) = .lit (.int .i64 (g i)))
    (h : w'.ownsMap Tryz.prog 3 (plainElem Tryz.prog 3) b (n + 1) (D.put (.int .i64 i) (.lit (.int .i64 v)))) : NumMap w' b (m + 1) (fun j => if j = i then v else g j) := by
  refine ⟨n + 1, _, by omega, h, fun j hj0 hj1 => ?_⟩
  by_cases e : j = i
  · subst e
    dsimp only
    rw [atKey_put_same hm (by unfold WideAt.IsKeyLit; trivial), if_pos rfl]
  · dsimp only
    rw [atKey_put_other (by intro e2; cases e2; exact e rfl), h3 j hj0 hj1, if_neg e]
theorem NumMap.mono {w : World} {b m m' : Nat} {g : Int → Int} (h : NumMap w b m g) (hm : m ≤ m') : NumMap w b m' g := by
  obtain ⟨n, D, h1, h2, h3⟩ := h
  exact ⟨n, D, by omega, h2, h3⟩
theorem NumMap.congr {w : World} {b m : Nat} {g g' : Int → Int} (h : NumMap w b m g) (e : ∀ i, g i = g' i) : NumMap w b m g' := (funext e : g = g') ▸ h
theorem wf_i64 {v : Int} (h : -9223372036854775808 ≤ v ∧ v ≤ 9223372036854775807) : (Lit.int .i64 v).wf = true := by
  have e1 : IntKind.i64.min = -9223372036854775808 := by decide
  have e2 : IntKind.i64.max = 9223372036854775807 := by decide
  show (decide (IntKind.i64.min ≤ v) && decide (v ≤ IntKind.i64.max)) = true
  rw [e1, e2]
  simp only [Bool.and_eq_true, decide_eq_true_eq]
  exact h

def byAt (g : Int → Int) (ls : List Six) {n : Nat} (x : Cx n) : Int := g (ls.getD x.1 z6).a
/-- What numbers returns. -/
def NumEnd (p : Pl) (known sown : Int) (ns : List Int) (w : World) (e : Ending) (w' : World) : Prop :=
  (∃ v, e = .returned (.tuple #[v, .bool (numsB p known sown ns)]) ∧ (numsB p known sown ns = true → OwnL icells 1 3 w' w.heap.size v (numsL p known ns)) ∧ (numsB p known sown ns = false → v = .slice none 0 0)) ∧ Below w.heap.size w w'
set_option maxRecDepth 100000 in
set_option maxHeartbeats 16000000 in
theorem numbers_any (p : Pl) (A1 A2 A3 : Option Addr) (n1 c1 n2 c2 n3 c3 pb bf : Nat) (known : Int) (A : Option Addr) (n c : Nat) (v3 : Value) (N : Option Addr) (nn cn : Nat) (ns : List Int) (sown : Int) (w : World)
    (hP : Blk w pb 38 (plb p A1 A2 A3 n1 c1 n2 c2 n3 c3)) (hp : Pa w p A1 A2 A3 n1 c1 n2 c2 n3 c3) (hok : okPl p = true) (h60 : n ≤ 1000)
    (hF : Blk w bf 152 #[.pointer (some ⟨pb, 0, none⟩), .int .i64 known, .slice A n c, v3]) (ha : Arr scells 6 w A n (lookL p known every)) (hns : Ints w N nn ns)
    (hI : ∀ x ∈ ns, -9223372036854775808 ≤ x ∧ x ≤ 9223372036854775807) (hnn : nn ≤ 9223372036854775807) :
    Calls Tryz.prog 166 #[.pointer (some ⟨bf, 0, none⟩), .agg #[.int .i64 sown, .slice N nn cn]] w (NumEnd p known sown ns w) := by
  obtain ⟨W1, hW1⟩ : ∃ W1, w.alloc (.cells #[.int .i64 sown, .slice N nn cn] 41) = W1 := ⟨_, rfl⟩
  have g1 : Below w.heap.size w W1 := by rw [← hW1]; exact one_more _ _
  have b1 : Blk W1 w.heap.size 41 #[.int .i64 sown, .slice N nn cn] := by rw [← hW1]; exact Blk.new _ _ _
  have hln := hns.1
  have hla := ha.1
  have hl1 := hp.l1.1
  have hPs := hP.lt
  have hFs := hF.lt
  have G1 := Lib.hid g1
  have HB1 := Lib.hid b1
  have HP1 := Lib.hid (hP.ext g1)
  have HF1 := Lib.hid (hF.ext g1)
  have HPA := Lib.hid (hp.below g1)
  have HA1 := Lib.hid (ha.below g1)
  have HN1 := Lib.hid (hns.below g1)
  have HI := Lib.hid hI
  have HOK := Lib.hid hok
  have HLN := Lib.hid hln
  have HLA := Lib.hid hla
  have HL1 := Lib.hid hl1
  have hpar := ok_parts hok
  have h160 : n1 ≤ 60 := by have := hpar.2.2.2.2.2.1; omega
  have HNB := Lib.hid (show numsB p known sown ns = (decide (nn = n) && rng sown p.lo p.hi) by unfold numsB; rw [hln, hla])
  have u0 := cellW (b1.cell 0)
  have u1 := cellW (b1.cell 1)
  have u2 := cellW (HF1.out.cell 0)
  have u3 := cellW (HF1.out.cell 2)
  have u4 := cellW (HP1.out.cell 0)
  have u5 := cellW (HP1.out.cell 1)
  have HW1 := Lib.hid hW1
  clear hP hp hF ha hns hI hok hW1 g1 b1 hpar hln hla hl1
  obtain ⟨rv, hrv⟩ : ∃ b, rng sown p.lo p.hi = b := ⟨_, rfl⟩
  have TW := fun W => within_any sown p.lo p.hi W
  rw [hrv] at HNB TW
  have HTW := Lib.hid TW
  clear hrv TW
  refine (callsIn_wide (n := 4)).1 (callsIn_of_wp_marks Tryz.func166 rfl trivial ?_ rfl)
  simp only [Tryz.ntmps166, List.size_toArray, List.length_cons, List.length_nil, Nat.reduceAdd, Nat.reduceSub, Array.replicate_succ, Array.replicate_zero, List.push_toArray, List.append_toArray, List.nil_append, List.cons_append]
  refine wpIn_wide.2 ?_
  by_cases hnq : nn = n
  case neg =>
    have e1 : ((nn : Int) != (n : Int)) = true := by simp; omega
    have HNB2 := Lib.hid (show numsB p known sown ns = false by rw [HNB.out, decide_eq_false hnq]; rfl)
    go_upto_region 1 with fail
    rw [HW1.out]
    refine wp_region_calm W1 (by kernel_rfl) (by kernel_rfl) (Below.refl _ _) ?_
    repeat (go_big_quiet_step (first | (go_at_call 145; exact callsCalmSame (HTW.out _))))
    refine wpQuiet_nil ?_
    rintro _ ⟨z, rfl⟩
    go_wp2_with fail
    exact ⟨_, results_tmp2 rfl _ _ _, ⟨_, by rw [HNB2.out]; rfl, fun h => (by rw [HNB2.out] at h; cases h), fun _ => rfl⟩, G1.out.trans (z.ok.mono G1.out.size)⟩
  case pos =>
    subst hnq
    cases rv with
    | false =>
      have HNB2 := Lib.hid (show numsB p known sown ns = false by rw [HNB.out]; simp)
      go_upto_region 1 with fail
      rw [HW1.out]
      refine wp_region_calm W1 (by kernel_rfl) (by kernel_rfl) (Below.refl _ _) ?_
      repeat (go_big_quiet_step (first | (go_at_call 145; exact callsCalmSame (HTW.out _))))
      refine wpQuiet_nil ?_
      rintro _ ⟨z, rfl⟩
      go_wp2_with fail
      exact ⟨_, results_tmp2 rfl _ _ _, ⟨_, by rw [HNB2.out]; rfl, fun h => (by rw [HNB2.out] at h; cases h), fun _ => rfl⟩, G1.out.trans (z.ok.mono G1.out.size)⟩
    | true =>
      have HNB2 := Lib.hid (show numsB p known sown ns = true by rw [HNB.out]; simp)
      go_upto_region 1 with fail
      rw [HW1.out]
      refine wp_region_calm W1 (by kernel_rfl) (by kernel_rfl) (Below.refl _ _) ?_
      repeat (go_big_quiet_step (first | (go_at_call 145; exact callsCalmSame (HTW.out _))))
      refine wpQuiet_nil ?_
      rintro _ ⟨z, rfl⟩
      clear u0 u1 u2 u3 u4 u5
      have G2 := Lib.hid (G1.out.trans (z.ok.mono G1.out.size))
      have HB2 := Lib.hid (HB1.out.ext z.ok)
      have HP2 := Lib.hid (HP1.out.ext z.ok)
      have HF2 := Lib.hid (HF1.out.ext z.ok)
      have HPA2 := Lib.hid (HPA.out.below z.ok)
      have HA2 := Lib.hid (HA1.out.below z.ok)
      have HN2 := Lib.hid (HN1.out.below z.ok)
      obtain ⟨V, hV⟩ : ∃ V, z.val = V := ⟨_, rfl⟩
      rw [hV] at G2 HB2 HP2 HF2 HPA2 HA2 HN2 ⊢
      clear hV z
      have hGs := G2.out.size
      have hbV := HB2.out.lt
      have hmm := @run_makeMap Tryz.prog
      go_upto_region 5 with fail
      clear hmm
      obtain ⟨W2, hW2⟩ : ∃ W, (V.alloc (.map #[] 0)).alloc (.cells #[.map (some V.heap.size)] 230) = W := ⟨_, rfl⟩
      rw [hW2]
      have g2 : Below V.heap.size V W2 := by rw [← hW2]; exact two_more _ _ _
      have nm2 : NumMap W2 V.heap.size 0 (gK (cntK p known 0) ns) := by rw [← hW2]; exact ((NumMap.new V).ext (one_more _ _)).congr (fun i => by rfl)
      have bb2 : Blk W2 (V.heap.size + 1) 230 #[.map (some V.heap.size)] := by rw [← hW2]; have := Blk.new (V.alloc (.map #[] 0)) 230 #[.map (some V.heap.size)]; rwa [World.size_alloc] at this
      have G3 := Lib.hid (G2.out.trans (g2.mono G2.out.size))
      have HB3 := Lib.hid (HB2.out.ext g2)
      have HP3 := Lib.hid (HP2.out.ext g2)
      have HF3 := Lib.hid (HF2.out.ext g2)
      have HPA3 := Lib.hid (HPA2.out.below g2)
      have HA3 := Lib.hid (HA2.out.below g2)
      have HN3 := Lib.hid (HN2.out.below g2)
      have HBB := Lib.hid bb2
      have HNM := Lib.hid nm2
      have hbs2 := bb2.lt
      have hPs2 := HP2.out.lt
      have hFs2 := HF2.out.lt
      obtain ⟨bm, hbm⟩ : ∃ b, V.heap.size = b := ⟨_, rfl⟩
      rw [hbm] at HBB HNM hbs2 hPs2 hFs2 hbV hGs ⊢
      have f0 := HF3.out.cell 0
      have q1 := HP3.out.cell 2
      clear hW2 g2 nm2 bb2
      go_upto_region 6 with fail
      go_loopw [7, 53] (fun k7 i wr => ∃ k : Nat, k ≤ n1 ∧ i = .int .i64 k ∧ k7 = .int .i64 ((cntK p known k).length : Nat) ∧ Fix bm bm W2 wr ∧ NumMap wr bm k (gK (cntK p known k) ns)) (fun _ i _ => n1 - (intOf i).toNat)
      case atStart => exact ⟨0, Nat.zero_le _, rfl, rfl, Fix.refl _ _ _, HNM.out⟩
      case round =>
        obtain ⟨k, hk, rfl, rfl, hfx, hnm⟩ := hrel
        have HFX := Lib.hid hfx
        have HNK := Lib.hid hnm
        have hkl : (cntK p known k).length ≤ k := cntK_len
        have hbmw := hnm.lt
        by_cases hkn : k < n1
        · have HPW := Lib.hid (HPA3.out.l1.fix hfx (fun b o e h0 => by
            obtain ⟨b', o', e', hlt, -⟩ := HPA2.out.l1.2 h0
            rw [e] at e'; cases e'
            omega))
          obtain ⟨b0, o0, e0, -, -, hc⟩ := six_at HPW.out hkn
          obtain ⟨x0, x1, x2, x3, x4, x5⟩ := hc wr (Below.refl _ _)
          have hkl1 : k < p.loads.length := by rw [HL1.out]; exact hkn
          have HSR := Lib.hid (cntK_src HOK.out (k := k) (known := known) hkl1)
          have HSU := Lib.hid (cntK_succ (p := p) (known := known) (k := k) hkl1)
          have HLT := Lib.hid (fun h => cntK_lt (p := p) (known := known) (k := k) hkl1 h)
          have hnx := load_num HOK.out (getD_mem hkl1)
          obtain ⟨x, hxg⟩ : ∃ x, p.loads.getD k z6 = x := ⟨_, rfl⟩
          rw [hxg] at x0 x1 x2 x3 x4 x5 HSR HSU HLT hnx
          subst e0
          obtain ⟨cb, hcb⟩ : ∃ cb, cnt x known = cb := ⟨_, rfl⟩
          have TC := fun W => cnt_any x known W
          rw [hcb] at TC HSU HLT
          have HTC := Lib.hid TC
          have ff1 := HFX.out.blk HF3.out (by omega) (by omega)
          have HFW := Lib.hid ff1
          have HBBW := Lib.hid (HFX.out.blk HBB.out (by omega) (by omega))
          have HB1W := Lib.hid (HFX.out.blk HB3.out (by omega) (by omega))
          have HNW := Lib.hid (HN3.out.fix hfx (fun b o e h0 => by
            obtain ⟨b', o', e', hlt, -⟩ := HN2.out.2 h0
            rw [e] at e'; cases e'
            omega))
          clear hc hxg hcb TC hfx hnm ff1
          go_upto_region 8 with fail
          obtain ⟨W3, hW3⟩ : ∃ W, wr.alloc (.cells #[.int .i64 x.a, .int .i64 x.b, .int .i64 x.c, .int .i64 x.d, .int .i64 x.e, .int .i64 x.f] 103) = W := ⟨_, rfl⟩
          rw [hW3]
          have g3 : Below wr.heap.size wr W3 := by rw [← hW3]; exact one_more _ _
          have HX3 := Lib.hid (show Blk W3 wr.heap.size 103 #[.int .i64 x.a, .int .i64 x.b, .int .i64 x.c, .int .i64 x.d, .int .i64 x.e, .int .i64 x.f] by rw [← hW3]; exact Blk.new _ _ _)
          have GG3 := Lib.hid g3
          have v0 := cellW (HX3.out.cell 3)
          have v1 := cellW (HX3.out.cell 4)
          have v4 := cellW (HX3.out.cell 5)
          have v2 := cellW ((HFW.out.ext g3).cell 1)
          clear hW3 g3 x0 x1 x2 x3 x4 x5
          refine wp_region_calm W3 (by kernel_rfl) (by kernel_rfl) (Below.refl _ _) ?_
          repeat (go_big_quiet_step (first | (go_at_call 159; exact callsCalmSame (HTC.out _))))
          refine wpQuiet_nil ?_
          rintro _ ⟨z, rfl⟩
          clear v0 v1 v2 v4
          have GZ := Lib.hid (GG3.out.trans (z.ok.mono GG3.out.size))
          have HXZ := Lib.hid (HX3.out.ext z.ok)
          obtain ⟨Z, hZ⟩ : ∃ Z, z.val = Z := ⟨_, rfl⟩
          rw [hZ] at GZ HXZ ⊢
          clear hZ z
          have hrz := GZ.out.size
          cases cb with
          | false =>
            have HS2 := Lib.hid (show cntK p known (k + 1) = cntK p known k by rw [HSU.out]; simp)
            go_wp2_with fail
            go_roundw
            case rel => exact ⟨k + 1, by omega, by go_num, by rw [HS2.out], HFX.out.trans (Fix.of_below GZ.out), by rw [HS2.out]; exact (HNK.out.ext GZ.out).mono (by omega)⟩
            case measure => simp [intOf]; omega
          | true =>
            have HS2 := Lib.hid (show cntK p known (k + 1) = cntK p known k ++ [x] by rw [HSU.out]; rfl)
            have HLJ := Lib.hid (show (cntK p known k).length < nn by have := HLT.out rfl; rw [count_len, HLA.out] at this; exact this)
            obtain ⟨j, hj⟩ : ∃ j, (cntK p known k).length = j := ⟨_, rfl⟩
            have hjn : j < nn := by rw [← hj]; exact HLJ.out
            rw [hj]
            obtain ⟨b9, o9, e9, -, -, hc9⟩ := ints_at HNW.out hjn
            subst e9
            have HV := Lib.hid (HI.out (ns.getD j 0) (by rw [getD_int (show j < ns.length by rw [HLN.out]; exact hjn)]; exact List.getElem_mem _))
            obtain ⟨vj, hvj⟩ : ∃ v, ns.getD j 0 = v := ⟨_, rfl⟩
            rw [hvj] at hc9 HV
            have c9 := cellW (W := Z) (hc9 Z GZ.out)
            have v0 := cellW (HXZ.out.cell 0)
            have v1 := cellW ((HBBW.out.ext GZ.out).cell 0)
            have v2 := cellW ((HB1W.out.ext GZ.out).cell 1)
            have HJ := Lib.hid hj
            have HVJ := Lib.hid hvj
            clear hj hvj hc9
            go_wp2_with fail
            refine wp_region_calm_tail Z 8 (by kernel_rfl) (by kernel_rfl) (Below.refl _ _) ?_
            simp only [List.take_succ_cons, List.take_zero, List.drop_succ_cons, List.drop_zero]
            repeat (go_big_quiet_step (fail))
            refine wpQuiet_nil ?_
            rintro _ ⟨z, rfl⟩
            clear c9 v0 v1 v2
            have GY := Lib.hid (GZ.out.trans (z.ok.mono hrz))
            obtain ⟨Y, hY⟩ : ∃ Y, z.val = Y := ⟨_, rfl⟩
            rw [hY] at GY ⊢
            clear hY z
            obtain ⟨nD, D, hD1, hD2, hD3⟩ := HNK.out.ext GY.out
            have HD3 := Lib.hid hD3
            have HD2 := Lib.hid hD2
            clear hD2 hD3
            go_wp2_with (at_mapUpdate; refine wpList_mapUpdate_own _ rfl _ _ _ 230 rfl 3 3 (int_keyed Tryz.underlying3) Tryz.underlying230 _ bm nD D rfl HD2.out (by unfold maxLen; omega) _ _ (.int .i64 x.a) rfl rfl (keyOf_int_mk Tryz.underlying3 (lit_wf (by omega) (by omega))) (.lit (.int .i64 vj)) [] (plainElem_int Tryz.underlying3 (wf_i64 HV.out)) ?_; intro Vu hown1 hgrow1; have HNU := Lib.hid (NumMap.put (by omega) (by omega) hD1 HD2.out.isMap HD3.out hown1); have FU := Lib.hid ((HFX.out.trans (Fix.of_below GY.out)).trans (fix_turn hgrow1)); clear hown1 hgrow1)
            go_roundw
            case rel =>
              refine ⟨k + 1, by omega, by go_num, ?_, FU.out, ?_⟩
              · rw [HS2.out, List.length_append, HJ.out, List.length_singleton]; go_num
              · rw [HS2.out]
                refine HNU.out.congr fun s => ?_
                rw [gK_snoc HSR.out, HJ.out, HVJ.out]
            case measure => simp [intOf]; omega
        · obtain rfl : n1 = k := by omega
          have HNA := Lib.hid (show NumMap wr bm n1 (numBy p known ns) from HNK.out.congr (fun s => by rw [cntK_all (by rw [HL1.out]; exact Nat.le_refl _)]; exact gK_all (by rw [HLN.out, count_len, HLA.out]) s))
          have HSRC := Lib.hid (fun x (hx : x ∈ lookL p known every) => look_src HOK.out hx)
          have HNL := Lib.hid (show numsL p known ns = (lookL p known every).map fun x => numBy p known ns x.a from rfl)
          have HFW := Lib.hid (HFX.out.blk HF3.out (by omega) (by omega))
          have HBBW := Lib.hid (HFX.out.blk HBB.out (by omega) (by omega))
          have HAW := Lib.hid (HA3.out.fix hfx (fun b o e h0 => by
            obtain ⟨b', o', e', hlt, -⟩ := HA2.out.2 h0
            rw [e] at e'; cases e'
            omega))
          have GW := Lib.hid (G3.out.trans (HFX.out.below (B := w.heap.size) (by omega) (by have := G3.out.size; omega)))
          have hws := HFX.out.size
          have hgw := GW.out.size
          clear hfx hnm f0 q1 hkn hk hkl
          have f0 := HFW.out.cell 0
          go_wp2_with fail
          refine (carted_any _ _).mono ?_
          rintro e w' ⟨rfl, hw'⟩
          have hbo : Blk w' wr.heap.size 39 #[.slice none 0 0] := by rw [← hw']; exact (Blk.new _ _ _).alloc _
          have hbQ : Blk w' (wr.heap.size + 1) 134 #[.pointer (some ⟨bf, 0, none⟩)] := by
            rw [← hw']; have := Blk.new (wr.alloc (.cells #[.slice none 0 0] 39)) 134 #[.pointer (some ⟨bf, 0, none⟩)]; rw [World.size_alloc] at this; exact this
          have hbel : Below wr.heap.size wr w' := by rw [← hw']; exact two_more _ _ _
          have hsz : w'.heap.size = wr.heap.size + 2 := by rw [← hw']; simp
          rw [show (wr.alloc (.cells #[.slice none 0 0] 39)).heap.size = wr.heap.size + 1 by simp]
          clear hw'
          rename World => W0
          have HF0 := Lib.hid (HFW.out.ext hbel)
          have HBB0 := Lib.hid (HBBW.out.ext hbel)
          have HA0 := Lib.hid (HAW.out.below hbel)
          have HNA0 := Lib.hid (HNA.out.ext hbel)
          have G0 := Lib.hid (GW.out.trans (hbel.mono hgw))
          have hbfl := HFW.out.lt
          have hbbl := HBBW.out.lt
          obtain ⟨bo, hboe⟩ : ∃ b, wr.heap.size = b := ⟨_, rfl⟩
          rw [hboe] at hbo hbQ hws hgw hbfl hbbl hsz ⊢
          have HAD := Lib.hid (show ∀ b o, A = some ⟨b, o, none⟩ → 0 < nn → b ≠ bo ∧ b < W0.heap.size from fun b o e h0 => by
            obtain ⟨b', o', e', hlt, -⟩ := HAW.out.2 h0
            rw [e] at e'; cases e'
            omega)
          go_wp2_with fail
          obtain ⟨ls, hls⟩ : ∃ l, lookL p known every = l := ⟨_, rfl⟩
          rw [hls] at HSRC HNL HA0 HLA
          obtain ⟨g, hg⟩ : ∃ g, numBy p known ns = g := ⟨_, rfl⟩
          have HNL2 := Lib.hid (show numsL p known ns = ls.map fun x => g x.a by rw [HNL.out, ← hg])
          rw [hg] at HNA0
          have HSQ := Lib.hid (carted_stopsA 3 W0 (bo + 1) bf A nn c ls (hbQ.cell 0) (HF0.out.cell 2) HA0.out (by omega))
          have HBO := Lib.hid hbo
          have HSZ := Lib.hid hsz
          have hbo2 : bo + 1 < W0.heap.size := by omega
          clear hls hg hbo hbQ hbel f0 hsz
          refine (wpIn_wide (n := 4)).1 ?_
          refine wpIn_rangeFunc_ownH (α := Cx nn) (F := Fence.wide) (n := 4) rfl (by omega) (gf := 202) (lb := #[.pointer (some ⟨bo + 1, 0, none⟩)]) rfl trivial
            (enters_of Tryz.func202 (by kernel_rfl) rfl) HSQ.out (fun h k => FixA.trans h k) ?hKb (Below.refl _ _) (fun _ => rfl)
            (fun pre W => FixU W0.heap.size bo bo W0 W ∧ (∃ v, Blk W bo 39 #[v] ∧ OwnL icells 1 3 W W0.heap.size v (pre.map (byAt g ls))) ∧ Oto W0 W) (fun _ _ _ => False) ?hI ?hIx ?h0
            (fun x a' W => ∃ Bx, W0.heap.size ≤ Bx ∧ Blk W Bx 103 #[.int .i64 (ls.getD x.1 z6).a, .int .i64 (ls.getD x.1 z6).b, .int .i64 (ls.getD x.1 z6).c, .int .i64 (ls.getD x.1 z6).d, .int .i64 (ls.getD x.1 z6).e, .int .i64 (ls.getD x.1 z6).f] ∧
              a' = (?F : Cx nn → Nat → Act) x Bx) ?hAx ?assign ?body ?done ?stop
          case assign =>
            rintro l pre x W K ⟨hfx, ⟨v, hbo, ho⟩, hto⟩ hK
            unfold encC
            gi_wp2
            refine hK _ _ ((KeepsOthers.alloc _ _).from _) (FixA.alloc _ _ _ _ _) ⟨hfx.trans (FixU.of_below (one_more _ _)), ⟨v, hbo.alloc _, ho.ext (one_more _ _)⟩, hto.below (one_more _ _)⟩ ⟨W.heap.size, hfx.size, Blk.new _ _ _, ?_⟩
            generalize W.heap.size = B
            rfl
          case hKb =>
            intro Wb l o o' hl ho hc _
            exact FixA.putObj ho hc _
          case hI =>
            rintro pre X Y row ⟨hfx, ⟨v, hbo, ho⟩, hto⟩ hg hr
            have hr1 : ∀ r, row = some r → ∃ o : Obj, X.heap[r]? = some o ∧ o.isCells = false := fun r e => (hr r e).2
            exact ⟨(FixU.own (α := Nat) (Nat.le_refl _)) [] _ _ _ hfx hg hr, ⟨v, hbo.own hg hr1, ho.held hg hr1⟩, hto.grown hg⟩
          case hIx => exact fun _ _ _ _ _ hs _ _ => hs
          case h0 => exact ⟨FixU.refl _ _ _ _, ⟨_, HBO.out, OwnL.nil _ _⟩, Oto.refl _⟩
          case hAx =>
            rintro x a' _ X Y row ⟨Bx, h1, h2, h3⟩ hg hr
            exact ⟨Bx, h1, h2.own hg (fun r e => (hr r e).2), h3⟩
          case body =>
            rintro l pre x a' W hl - ⟨hfx, ⟨v, hbo, ho⟩, hto⟩ ⟨Bx, hBx, hB, rfl⟩ hpl
            have hXs := hfx.size
            have o0 := hbo.cell 0
            have o1 := hbo.frozen 0
            have m0 := (hfx.blk HBB0.out (by omega) (by omega) (.inl (by omega))).cell 0
            have x0 := hB.cell 0
            obtain ⟨y, hy⟩ : ∃ y, ls.getD x.1 z6 = y := ⟨_, rfl⟩
            have hys := HSRC.out y (by rw [← hy]; exact getD_mem (by rw [HLA.out]; exact x.2))
            have hlk := (HNA0.out.same (hfx.block bm (by omega) (by omega) (by omega) (.inl (by omega)))).look (i := y.a) (by omega) (by omega)
            have HPR := Lib.hid (show (pre ++ [x]).map (byAt g ls) = pre.map (byAt g ls) ++ [g y.a] by rw [List.map_append, ← hy]; rfl)
            rw [hy] at x0
            obtain ⟨gv, hgv⟩ : ∃ v, g y.a = v := ⟨_, rfl⟩
            rw [hgv] at hlk HPR
            obtain ⟨pv, hpv⟩ : ∃ l, pre.map (byAt g ls) = l := ⟨_, rfl⟩
            have HPL := Lib.hid (show pv.length + 1 ≤ 1000000 by rw [← hpv, List.length_map]; omega)
            rw [hpv] at ho HPR
            have HFX := Lib.hid hfx
            have HBO2 := Lib.hid hbo
            have HO := Lib.hid ho
            have HTO := Lib.hid hto
            have HOX := Lib.hid (ho.ext (one_more W (.cells #[.int .i64 gv] 3)))
            have HI1 := Lib.hid (one_int (Blk.new W 3 #[.int .i64 gv]))
            have HOB := Lib.hid (fun (k : Nat) (e : v.ownBlock = some k) => (own_cells HO.out e).1)
            clear hy hgv hpv hfx hbo ho hto hB
            gi_wp2_with (gi_at_builtin; go_loud (refine wpListIn_app kdI (by rfl) _ _ (by rfl) W0.heap.size v pv (by rfl) HOX.out _ 1 1 [gv] (by rfl) HI1.out HPL.out (by simp; omega) ?_); intro v' w2 ho2 hg2; obtain ⟨Av, cv, hve, -⟩ := OwnL.arr kdI ho2; obtain ⟨nv, hnv⟩ : ∃ nv, (pv ++ [gv]).length = nv := ⟨_, rfl⟩; rw [hnv] at hve; subst hve; clear hnv; have b9 := ((HBO2.out.alloc (.cells #[.int .i64 gv] 3)).grown hg2 (fun e => by have := HOB.out _ e; omega)); have m0 := b9.cell 0; have m1 := b9.frozen 0; have HS := Lib.hid (app_step bo HBO2.out HO.out (by omega) ho2 hg2); clear ho2 hg2 b9)
            refine ⟨HS.out.kf _, HS.out.fx.fixA (fun b o e h0 => ⟨(HAD.out b o e h0).1, (HAD.out b o e h0).1, (HAD.out b o e h0).2⟩), HFX.out.trans HS.out.fx, ⟨_, HS.out.bx, ?_⟩, HTO.out.trans HS.out.oto⟩
            rw [HPR.out]
            exact HS.out.own
          case done =>
            rintro D xs W hD hS ⟨hfx, ⟨v, hbo, ho⟩, hto⟩ hK
            have o0 := hbo.cell 0
            have hXs := hfx.size
            have HE := Lib.hid (show xs.map (byAt g ls) = numsL p known ns by
              rw [HNL2.out]; exact (show xs.map (byAt g ls) = (xs.map fun x => ls.getD x.1 z6).map (fun x => g x.a) by rw [List.map_map]; rfl).trans (congrArg (List.map fun x => g x.a) (all_came HLA.out hS)))
            rw [HE.out] at ho
            have HO := Lib.hid ho
            have HK := Lib.hid hK
            have HFX := Lib.hid hfx
            have HTO := Lib.hid hto
            clear hbo ho hfx hto hS
            go_wp2_with fail
            refine ⟨by simp, .inl ⟨_, _, rfl, run_takeDeferred HK.out, ?_⟩⟩
            refine ⟨_, results_tmp2 rfl _ _ _, ⟨_, by rw [HNB2.out]; rfl, fun _ => ?_, fun h => (by rw [HNB2.out] at h; cases h)⟩, G0.out.trans ?_⟩
            · exact (HO.out.held (grownBy_putObj' _ D _) (fun r e => by cases e; exact ⟨_, HK.out, rfl⟩)).mono G0.out.size
            · exact (HFX.out.below (D := w.heap.size) HTO.out (by omega) (by omega) (by omega) (by omega)).grown (grownBy_putObj' _ D _) (by omega) (fun k hk => by cases hk; omega)
          case stop =>
            rintro D cd pre X _ _ h _
            exact h.elim
end Go.Proofs.YtkoejeghihcmlaaGreat
