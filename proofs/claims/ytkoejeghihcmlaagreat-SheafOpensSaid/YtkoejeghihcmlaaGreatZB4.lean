/- Part of the proof: VE, VF, VG. -/
import Derived.Test.YtkoejeghihcmlaaGreatZA8
import Derived.Test.YtkoejeghihcmlaaGreatZB1
import Derived.Test.YtkoejeghihcmlaaGreatZB2
namespace Go.Proofs.YtkoejeghihcmlaaGreat
open Go.RowKit Go.Shelf
/-- The sources of a valid plot's loads rise. -/
theorem load_step {p : Pl} (hok : okPl p = true) {j : Nat} (hj : j + 1 < p.loads.length) : (p.loads.getD j z6).a < (p.loads.getD (j + 1) z6).a := by
 have h := (okPl_ref.1 hok).2.1 (j + 1) hj
 unfold okR at h
 rw [Bool.and_eq_true, Bool.or_eq_true, decide_eq_true_eq, decide_eq_true_eq] at h
 rcases h.2 with e | e
 ·exact absurd e (by omega)
 ·exact e
theorem load_rise {p : Pl} (hok : okPl p = true) : ∀ {i j : Nat}, i < j → j < p.loads.length → (p.loads.getD i z6).a < (p.loads.getD j z6).a
 | _, 0, h, _ => absurd h (by omega)
 | i, j + 1, h, hj => by
  have h1 := load_step hok hj
  by_cases e : i = j
  ·subst e; exact h1
  ·exact Int.lt_trans (load_rise hok (i := i) (j := j) (by omega) (by omega)) h1
/-- How many loads that count have a lesser source: the place of its number. -/
theorem cntK_ix {p : Pl} (hok : okPl p = true) {known : Int} {j : Nat} (hj : j < p.loads.length) (hc : cnt (p.loads.getD j z6) known = true) : (cntK p known j).length = srcIx (countL p known) (p.loads.getD j z6).a := by
 have e : countL p known = cntK p known j ++ (p.loads.drop j).filter fun x => cnt x known := by
  unfold countL cntK
  rw [← List.filter_append, List.take_append_drop]
 have e2 : p.loads.drop j = p.loads.getD j z6 :: p.loads.drop (j + 1) := by
  rw [List.drop_eq_getElem_cons hj, List.getD_eq_getElem?_getD, List.getElem?_eq_getElem hj]
  rfl
 have hn := srcIx_no (cntK_src hok (known := known) hj)
 unfold srcIx at hn ⊢
 rw [e, List.findIdx_append, if_neg (by rw [hn]; exact Nat.lt_irrefl _), e2, List.filter_cons, if_pos hc, List.findIdx_cons]
 have : isSrc (p.loads.getD j z6).a (p.loads.getD j z6) = true := isSrc_iff.2 rfl
 rw [this]
 simp
theorem look_place {p : Pl} {known : Int} {i : Nat} (hi : i < (lookL p known every).length) : ∃ j, j < p.loads.length ∧ p.loads.getD j z6 = (lookL p known every).getD i z6 ∧ cnt (p.loads.getD j z6) known = true := by
 have hm : (lookL p known every).getD i z6 ∈ cartL p known := by rw [cart_every]; exact getD_mem (by rw [← cart_every]; exact hi)
 obtain ⟨h1, h2⟩ := mem_cart.1 hm
 obtain ⟨j, hj, e⟩ := List.getElem_of_mem h1
 have e2 : p.loads.getD j z6 = (lookL p known every).getD i z6 := by rw [List.getD_eq_getElem?_getD, List.getElem?_eq_getElem hj, ← e]; rfl
 exact ⟨j, hj, e2, by rw [e2]; exact h2⟩
theorem cntK_lt2 {p : Pl} {known : Int} {j : Nat} (hj : j < p.loads.length) (hc : cnt (p.loads.getD j z6) known = true) : (cntK p known j).length < (lookL p known every).length := by
 rw [← count_len]; exact cntK_lt hj hc
theorem numsL_next {p : Pl} {known : Int} {ns : List Int} {i : Nat} (hi : i < (lookL p known every).length) : (numsL p known ns).take (i + 1) = (numsL p known ns).take i ++ [numBy p known ns ((lookL p known every).getD i z6).a] := by
 have hl : i < (numsL p known ns).length := by rw [numsL_len]; exact hi
 rw [List.take_succ_eq_append_getElem hl]
 congr 1
 have := numsL_at (p := p) (known := known) (ns := ns) hi
 rw [List.getD_eq_getElem?_getD, List.getElem?_eq_getElem hl] at this
 simpa using this
set_option maxRecDepth 100000 in
set_option maxHeartbeats 8000000 in
theorem refNumbers_any (p : Pl) (A1 A2 A3 : Option Addr) (n1 c1 n2 c2 n3 c3 : Nat) (known : Int) (N : Option Addr) (nn cn : Nat) (ns : List Int) (sown : Int) (w : World) (hp : Pa w p A1 A2 A3 n1 c1 n2 c2 n3 c3) (hok : okPl p = true) (hns : Ints w N nn ns) (hnn : nn = (lookL p known every).length) :
  Calls Tryz.prog 130 #[plv p A1 A2 A3 n1 c1 n2 c2 n3 c3, .agg #[.int .i64 sown, .slice N nn cn], .int .i64 known] w fun e w' => (∃ v, e = .returned v ∧ OwnL icells 1 3 w' w.heap.size v (numsL p known ns)) ∧ Below w.heap.size w w' := by
 obtain ⟨W1, hW1⟩ : ∃ W1, (w.alloc (.cells (plb p A1 A2 A3 n1 c1 n2 c2 n3 c3) 38)).alloc (.cells #[.int .i64 sown, .slice N nn cn] 41) = W1 := ⟨_, rfl⟩
 have g0 : Below w.heap.size w W1 := by rw [← hW1]; exact two_more _ _ _
 have b0 : Blk W1 w.heap.size 38 (plb p A1 A2 A3 n1 c1 n2 c2 n3 c3) := by rw [← hW1]; exact (Blk.new _ _ _).alloc _
 have b1 : Blk W1 (w.heap.size + 1) 41 #[.int .i64 sown, .slice N nn cn] := by
  rw [← hW1]
  have := Blk.new (w.alloc (.cells (plb p A1 A2 A3 n1 c1 n2 c2 n3 c3) 38)) 41 #[.int .i64 sown, .slice N nn cn]
  rwa [World.size_alloc] at this
 have HNB := Lib.hid (show n1 ≤ 1000 by have h1 := ok_parts hok; have h2 := hp.l1.1; omega)
 have HT1 := Lib.hid (show Calls Tryz.prog 129 #[plv p A1 A2 A3 n1 c1 n2 c2 n3 c3, .int .i64 known] W1 (fun e w' => (∃ v, e = .returned v ∧ OwnL scells 6 103 w' W1.heap.size v (lookL p known every)) ∧ Below W1.heap.size W1 w') from by
  have h := refCarted_any p A1 A2 A3 n1 c1 n2 c2 n3 c3 known W1 (hp.below g0) HNB.out
  have e : lookL p known every = srtH (p.loads.filter fun x => cnt x known) := by rw [cart_every]; rfl
  rw [e]
  exact h)
 have HL1 := Lib.hid (hp.l1.below g0)
 have HNS := Lib.hid (hns.below g0)
 have HB0 := Lib.hid b0
 have HB1 := Lib.hid b1
 have GA := Lib.hid g0
 have HW1 := Lib.hid hW1
 have HOK := Lib.hid hok
 have H60 := Lib.hid (look60 hok known)
 have HNN := Lib.hid hnn
 have r0 := b0.cell 0
 have r1 := b0.cell 1
 have r2 := b0.cell 2
 have r3 := b0.cell 3
 have r4 := b0.cell 4
 have r5 := b0.cell 5
 clear hp g0 b0 b1 hW1 hok hns hnn
 go_enter Tryz.func130, Tryz.ntmps130
 go_upto_region 1 with fail
 rw [HW1.out]
 go_upto_region 2 with (go_at_call 129; (with_reducible refine (HT1.out).mono ?_); rintro e V ⟨⟨v, rfl, ho⟩, hg⟩; have HG1 := Lib.hid hg; obtain ⟨A, c, rfl, -, -, hal, -⟩ := OwnL.arr kdL ho; have HAL := Lib.hid hal; clear hg ho hal)
 obtain ⟨n, hn⟩ : ∃ n, (lookL p known every).length = n := ⟨_, rfl⟩
 rw [hn] at HAL HNN H60 ⊢
 have HN := Lib.hid hn
 have hn60 : n ≤ 60 := H60.out
 have OS0 := Lib.hid (OwnL.nil (f := icells) (size := 1) (e := 3) V V.heap.size)
 clear hn r0 r1 r2 r3 r4 r5
 go_wp2_with fail
 go_loopw [8, 9] (fun v i wr => ∃ (k : Nat) (u : Value), u = v ∧ i = .int .i64 k ∧ k ≤ n ∧ Below V.heap.size V wr ∧ OwnL icells 1 3 wr V.heap.size v ((numsL p known ns).take k)) (fun _ i _ => n - (intOf i).toNat)
 case atStart => exact ⟨0, _, rfl, rfl, Nat.zero_le _, Below.refl _ _, by rw [List.take_zero]; exact OS0.out⟩
 case round =>
  obtain ⟨k, u, rfl, rfl, hk, hg, hown⟩ := hrel
  obtain ⟨wo, rfl⟩ : ∃ wo : World, wo = wr := ⟨_, rfl⟩
  have HG := Lib.hid hg
  have HO := Lib.hid hown
  clear hg hown
  by_cases hkn : k < n
  ·have hki : (k : Int) < (n : Int) := by omega
   obtain ⟨j, hj, hje, hjc⟩ := look_place (p := p) (known := known) (i := k) (by rw [HN.out]; exact hkn)
   have HJ := Lib.hid hj
   have hjn : j < n1 := by rw [← HL1.out.1]; exact hj
   have HJL := Lib.hid (cntK_lt2 hj hjc)
   have HJX := Lib.hid (cntK_ix HOK.out hj hjc)
   have HNX := Lib.hid (numsL_next (p := p) (known := known) (ns := ns) (i := k) (by rw [HN.out]; exact hkn))
   have HRS := Lib.hid (fun i (h : i < j) => load_rise HOK.out h hj)
   rw [hje] at HRS HJX
   have HJE := Lib.hid hje
   obtain ⟨b8, o8, e8, -, -, hc8⟩ := six_at (HAL.out.below HG.out) hkn
   obtain ⟨y, hyg⟩ : ∃ y, (lookL p known every).getD k z6 = y := ⟨_, rfl⟩
   rw [hyg] at hc8 HRS HJX HNX HJE
   subst e8
   have HC8 := Lib.hid (fun X g => (hc8 X g).1)
   clear hc8 hyg hje hjc hj
   go_wp2_with fail
   go_loopw [10, 11] (fun m i wr => ∃ t : Nat, t ≤ j ∧ i = .int .i64 t ∧ m = .int .i64 ((cntK p known t).length : Nat) ∧ Below wo.heap.size wo wr) (fun _ i _ => n1 - (intOf i).toNat)
   case atStart => exact ⟨0, Nat.zero_le _, rfl, by rw [cntK_zero]; rfl, Below.refl _ _⟩
   case round =>
    obtain ⟨t, ht, rfl, rfl, hg⟩ := hrel
    obtain ⟨V2, rfl⟩ : ∃ V2 : World, V2 = wr := ⟨_, rfl⟩
    have HG2 := Lib.hid hg
    have HGV := Lib.hid (HG.out.trans (hg.mono HG.out.size))
    have q1 := (HB0.out.ext (HG1.out.trans (HGV.out.mono HG1.out.size))).cell 2
    obtain ⟨bA, oA, eA, -, -, hcA⟩ := six_at (HL1.out.below (HG1.out.trans (HGV.out.mono HG1.out.size))) (k := t) (by omega)
    have hxx := hcA V2 (Below.refl _ _)
    have xa := hxx.1
    have xe := hxx.2.2.2.2.1
    have xf := hxx.2.2.2.2.2
    have ya := HC8.out V2 HG2.out
    have HCS := Lib.hid (cntK_succ (p := p) (known := known) (k := t) (by have := HJ.out; omega))
    have HRT := Lib.hid (HRS.out t)
    have HXE := Lib.hid (show t = j → (p.loads.getD t z6).a = y.a from fun e => by rw [e, HJE.out])
    obtain ⟨x, hxg⟩ : ∃ x, p.loads.getD t z6 = x := ⟨_, rfl⟩
    rw [hxg] at xa xe xf HCS HRT HXE
    subst eA
    have htn : t < n1 := by omega
    have ht9 : t ≤ 1000 := by have := HNB.out; omega
    have hti : (t : Int) < (n1 : Int) := by omega
    have htd : decide (t < n1) = true := decide_eq_true htn
    clear hg hxx hcA hxg
    by_cases htj : t < j
    ·have hlt : x.a < y.a := HRT.out htj
     have hld : decide (x.a < y.a) = true := decide_eq_true hlt
     clear hlt
     have q1' := cellW q1
     have xa' := cellW xa
     have ya' := cellW ya
     go_upto_region 8 with fail
     refine wp_region_calm V2 (by kernel_rfl) (by kernel_rfl) (Below.refl _ _) ?_
     repeat (go_big_quiet_step (fail))
     refine wpQuiet_nil ?_
     rintro _ ⟨z, rfl⟩
     have xe' := cellL z.ok xe
     have xf' := cellL z.ok xf
     have q1'' := cellL z.ok q1
     obtain ⟨V3, hV3⟩ : ∃ V3, z.val = V3 := ⟨_, rfl⟩
     have HG3 := Lib.hid (HG2.out.trans (z.ok.mono HG2.out.size))
     rw [hV3] at xe' xf' q1'' HG3 ⊢
     clear q1' xa' ya' q1 xa ya xe xf
     clear hV3 z
     obtain ⟨cb, hcb⟩ : ∃ b, cnt x known = b := ⟨_, rfl⟩
     rw [hcb] at HCS
     have HCC := Lib.hid (show ∀ X : Wd V3, Calls Tryz.prog 183 #[.int .i64 x.e, .int .i64 x.f, .int .i64 known] X.val fun e w' => e = .returned (.bool cb) ∧ X.val = w' from fun X => by rw [← hcb]; exact refCnt_any x known X.val)
     clear hcb
     go_upto_region 10 with fail
     refine wp_region_calm V3 (by kernel_rfl) (by kernel_rfl) (Below.refl _ _) ?_
     repeat (go_big_quiet_step ((go_at_call 183; exact callsCalmSame (HCC.out _))))
     refine wpQuiet_nil ?_
     rintro _ ⟨z, rfl⟩
     have HG4 := Lib.hid (HG3.out.trans (z.ok.mono HG3.out.size))
     have hcl : (cntK p known t).length ≤ 1000 := by have := cntK_len (p := p) (known := known) (k := t); have := HNB.out; omega
     clear xe' xf' q1''
     cases cb with
     | true =>
      have HC2 := Lib.hid (show (cntK p known (t + 1)).length = (cntK p known t).length + 1 by rw [HCS.out]; simp)
      obtain ⟨cl, hcl2⟩ : ∃ cl, (cntK p known t).length = cl := ⟨_, rfl⟩
      rw [hcl2] at HC2 hcl ⊢
      clear hcl2
      go_wp2_with fail
      go_roundw
      case rel => exact ⟨t + 1, by omega, by go_num, by rw [HC2.out]; go_num, HG4.out⟩
      case measure => simp [intOf]; omega
     | false =>
      have HC2 := Lib.hid (show (cntK p known (t + 1)).length = (cntK p known t).length by rw [HCS.out]; simp)
      obtain ⟨cl, hcl2⟩ : ∃ cl, (cntK p known t).length = cl := ⟨_, rfl⟩
      rw [hcl2] at HC2 hcl ⊢
      clear hcl2
      go_wp2_with fail
      go_roundw
      case rel => exact ⟨t + 1, by omega, by go_num, by rw [HC2.out], HG4.out⟩
      case measure => simp [intOf]; omega
    ·obtain rfl : t = j := by omega
     have hxy : x.a = y.a := HXE.out rfl
     have hld : decide (x.a < y.a) = false := decide_eq_false (by omega)
     clear hxy
     have q1' := cellW q1
     have xa' := cellW xa
     have ya' := cellW ya
     go_upto_region 8 with fail
     refine wp_region_calm V2 (by kernel_rfl) (by kernel_rfl) (Below.refl _ _) ?_
     repeat (go_big_quiet_step (fail))
     refine wpQuiet_nil ?_
     rintro _ ⟨z, rfl⟩
     have HG3 := Lib.hid (HG2.out.trans (z.ok.mono HG2.out.size))
     have HO3 := Lib.hid ((HO.out.ext HG2.out).ext z.ok)
     have HGW := Lib.hid (HG.out.trans (HG3.out.mono HG.out.size))
     obtain ⟨V3, hV3⟩ : ∃ V3, z.val = V3 := ⟨_, rfl⟩
     rw [hV3] at HG3 HO3 HGW ⊢
     clear q1' xa' ya' q1 xa ya xe xf
     clear hV3 z
     have hnl : (cntK p known t).length < nn := by have h1 := HJL.out; have h2 := HN.out; have h3 := HNN.out; omega
     obtain ⟨bN, oN, eN, -, -, hcN⟩ := ints_at (HNS.out.below (HG1.out.trans (HGW.out.mono HG1.out.size))) hnl
     have sN := hcN V3 (Below.refl _ _)
     have t1 := (HB1.out.ext (HG1.out.trans (HGW.out.mono HG1.out.size))).cell 1
     have HVV := Lib.hid (show ns.getD (cntK p known t).length 0 = numBy p known ns y.a by unfold numBy; rw [HJX.out])
     rw [HVV.out] at sN
     obtain ⟨val, hval⟩ : ∃ v, numBy p known ns y.a = v := ⟨_, rfl⟩
     rw [hval] at sN HNX
     obtain ⟨cl, hcl2⟩ : ∃ cl, (cntK p known t).length = cl := ⟨_, rfl⟩
     rw [hcl2] at hnl sN ⊢
     subst eN
     have hnli : (cl : Int) < (nn : Int) := by omega
     have hvs := HGW.out.size
     have OX := Lib.hid (HO3.out.ext (one_more V3 (.cells #[.int .i64 val] 3)))
     have IX := Lib.hid (one_int (Blk.new V3 3 #[.int .i64 val]))
     have HLEN := Lib.hid (show ((numsL p known ns).take k).length + 1 ≤ 1000000 by rw [List.length_take]; omega)
     clear hcN hcl2 hval
     go_wp2_with (at_builtin; go_loud (refine wpList_app kdI (by rfl) _ _ (by rfl) V.heap.size _ ((numsL p known ns).take k) (by rfl) OX.out _ 1 1 [val] (by rfl) IX.out HLEN.out (by simp; omega) ?_); intro v' w' ho hbw hz; have HO2 := Lib.hid ho; have HB2 := Lib.hid ((OX.out).below hbw (B := V.heap.size) (Nat.le_refl _) (by simp; omega)); clear ho hbw hz)
     go_roundw
     case rel => exact ⟨k + 1, _, rfl, by go_num, by omega, (HGW.out.trans ((one_more V3 _).mono HGW.out.size)).trans HB2.out, by rw [HNX.out]; exact HO2.out⟩
     case measure => simp [intOf]; omega
  ·obtain rfl : n = k := by omega
   have HEND := Lib.hid (show OwnL icells 1 3 wo V.heap.size u (numsL p known ns) by have := HO.out; rwa [List.take_of_length_le (by rw [numsL_len, HN.out]; exact Nat.le_refl _)] at this)
   go_wp2_with fail
   go_ret
   exact ⟨⟨_, rfl, HEND.out.mono (Nat.le_trans GA.out.size HG1.out.size)⟩, GA.out.trans ((HG1.out.trans (HG.out.mono HG1.out.size)).mono GA.out.size)⟩
end Go.Proofs.YtkoejeghihcmlaaGreat

namespace Go.Proofs.YtkoejeghihcmlaaGreat
open Go.RowKit Go.Shelf
/-- Whether a row of a carting is within its bounds. -/
def rowB (p : Pl) (known sown : Int) (ns : List Int) (i : Nat) : Bool := rng (runK sown (numsL p known ns) i) (Lo (roRow p known) i) (Hi (roRow p known) i)
theorem truth_rows {p : Pl} (hok : okPl p = true) {known sown : Int} {ns : List Int} : truthB p known sown ns = true ↔
  ns.length = (lookL p known every).length ∧ (∀ i, i ≤ (lookL p known every).length → rowB p known sown ns i = true) ∧ ∀ i, i < (lookL p known every).length → tookB (lookL p known every) (numsL p known ns) i = true := by
 rw [truth_iff hok, truBy_iff]
 show _ ∧ Tru (lookL p known every) (roRow p known) _ ↔ _
 unfold Tru rowB tookB
 simp only [rng_iff]
 constructor
 ·rintro ⟨h1, h2, h3, h4⟩
  refine ⟨h1, fun i hi => ?_, fun i hi => ?_⟩
  ·have := h4 i hi
   rwa [truS_at hi] at this
  ·have := h3 i hi
   rw [truS_at (by omega), truS_at (by omega)] at this
   have e : runK sown (numsL p known ns) (i + 1) = runK sown (numsL p known ns) i - (numsL p known ns).getD i 0 := rfl
   unfold Ls Gr at this
   omega
 ·rintro ⟨h1, h2, h3⟩
  refine ⟨h1, truS_len _ _ _ _, fun i hi => ?_, fun i hi => ?_⟩
  ·have := h3 i hi
   rw [truS_at (by omega), truS_at (by omega)]
   have e : runK sown (numsL p known ns) (i + 1) = runK sown (numsL p known ns) i - (numsL p known ns).getD i 0 := rfl
   unfold Ls Gr
   omega
  ·rw [truS_at hi]
   exact h2 i hi
theorem truth_no_len {p : Pl} (hok : okPl p = true) {known sown : Int} {ns : List Int} (h : ns.length ≠ (lookL p known every).length) : truthB p known sown ns = false := by
 rw [← Bool.not_eq_true, truth_rows hok]; exact fun c => h c.1
theorem truth_no_row {p : Pl} (hok : okPl p = true) {known sown : Int} {ns : List Int} {i : Nat} (hi : i ≤ (lookL p known every).length) (h : rowB p known sown ns i = false) : truthB p known sown ns = false := by
 rw [← Bool.not_eq_true, truth_rows hok]; intro c; have := c.2.1 i hi; rw [h] at this; cases this
theorem truth_no_took {p : Pl} (hok : okPl p = true) {known sown : Int} {ns : List Int} {i : Nat} (hi : i < (lookL p known every).length) (h : tookB (lookL p known every) (numsL p known ns) i = false) : truthB p known sown ns = false := by
 rw [← Bool.not_eq_true, truth_rows hok]; intro c; have := c.2.2 i hi; rw [h] at this; cases this
theorem row_bd {p : Pl} (hok : okPl p = true) (known : Int) {i : Nat} (hi : i ≤ (lookL p known every).length) : -10000000 ≤ Lo (roRow p known) i ∧ Hi (roRow p known) i ≤ 10000000 := by
 have h := look_st hok known every i (by rw [← roRow, roRow_len]; omega)
 unfold roRow
 omega
theorem rng_bd {x lo hi : Int} (h : rng x lo hi = true) : lo ≤ x ∧ x ≤ hi := rng_iff.1 h
set_option maxRecDepth 100000 in
set_option maxHeartbeats 8000000 in
theorem refCheckCart_any (p : Pl) (A1 A2 A3 : Option Addr) (n1 c1 n2 c2 n3 c3 : Nat) (known : Int) (N : Option Addr) (nn cn : Nat) (ns : List Int) (sown : Int) (w : World) (hp : Pa w p A1 A2 A3 n1 c1 n2 c2 n3 c3) (hns : Ints w N nn ns) (hI : ∀ x ∈ ns, -9223372036854775808 ≤ x ∧ x ≤ 9223372036854775807) (_hnn : nn ≤ 9223372036854775807) :
  Calls Tryz.prog 59 #[plv p A1 A2 A3 n1 c1 n2 c2 n3 c3, .int .i64 known, .agg #[.int .i64 sown, .slice N nn cn]] w fun e w' => e = .returned (.int .i64 (leftE p [] known sown ns)) ∧ Below w.heap.size w w' := by
 obtain ⟨W1, hW1⟩ : ∃ W1, (w.alloc (.cells (plb p A1 A2 A3 n1 c1 n2 c2 n3 c3) 38)).alloc (.cells #[.int .i64 sown, .slice N nn cn] 41) = W1 := ⟨_, rfl⟩
 have g0 : Below w.heap.size w W1 := by rw [← hW1]; exact two_more _ _ _
 have b0 : Blk W1 w.heap.size 38 (plb p A1 A2 A3 n1 c1 n2 c2 n3 c3) := by rw [← hW1]; exact (Blk.new _ _ _).alloc _
 have b1 : Blk W1 (w.heap.size + 1) 41 #[.int .i64 sown, .slice N nn cn] := by
  rw [← hW1]
  have := Blk.new (w.alloc (.cells (plb p A1 A2 A3 n1 c1 n2 c2 n3 c3) 38)) 41 #[.int .i64 sown, .slice N nn cn]
  rwa [World.size_alloc] at this
 have T1 := refAsked_any p A1 A2 A3 n1 c1 n2 c2 n3 c3 0 known W1 (hp.below g0)
 rw [first_zero] at T1
 have HLE := Lib.hid (show leftE p [] known sown ns = if firstE p [] [known] = 0 then err (truthB p known sown ns) 16 else firstE p [] [known] from rfl)
 have HFO := Lib.hid (fun h => first_ok (p := p) (hours := []) (days := [known]) h)
 obtain ⟨fe, hfe⟩ : ∃ fe, firstE p [] [known] = fe := ⟨_, rfl⟩
 obtain ⟨rr, hrr⟩ : ∃ rr, leftE p [] known sown ns = rr := ⟨_, rfl⟩
 rw [hfe] at T1 HLE HFO
 rw [hrr] at HLE
 rw [hrr]
 have HT1 := Lib.hid T1
 have HPA := Lib.hid (hp.below g0)
 have HNS := Lib.hid (hns.below g0)
 have HB0 := Lib.hid b0
 have HB1 := Lib.hid b1
 have GA := Lib.hid g0
 have HW1 := Lib.hid hW1
 have HII := Lib.hid hI
 have r0 := b0.cell 0
 have r1 := b0.cell 1
 have r2 := b0.cell 2
 have r3 := b0.cell 3
 have r4 := b0.cell 4
 have r5 := b0.cell 5
 clear T1 hp g0 b0 b1 hW1 hfe hrr hns hI
 by_cases hz : fe = 0
 ·subst hz
  have HOK := Lib.hid (HFO.out rfl)
  have HR2 := Lib.hid (show rr = err (truthB p known sown ns) 16 from HLE.out)
  have HNB := Lib.hid (show n1 ≤ 1000 ∧ n2 ≤ 1000 by
   have h1 := ok_parts HOK.out
   have h2 := HPA.out.l1.1
   have h3 := HPA.out.l2.1
   omega)
  clear HLE HFO
  go_enter Tryz.func59, Tryz.ntmps59
  go_upto_region 1 with fail
  rw [HW1.out]
  go_upto_region 4 with (go_at_call 101; (with_reducible refine (HT1.out).mono ?_); rintro e V ⟨rfl, hg⟩; have HG1 := Lib.hid hg; clear hg)
  have HTR := Lib.hid (show Calls Tryz.prog 120 #[plv p A1 A2 A3 n1 c1 n2 c2 n3 c3, .int .i64 known, .agg #[.bool true, .slice none 0 0]] V (RowEnd p known every V) by
   have h := refRow_any p A1 A2 A3 n1 c1 n2 c2 n3 c3 known true none 0 0 [] V (HPA.out.below HG1.out) HNB.out (noNums _) (by omega)
   rwa [mB_all] at h)
  have m0 := (HB0.out.ext HG1.out).cell 0
  have m1 := (HB0.out.ext HG1.out).cell 1
  have m2 := (HB0.out.ext HG1.out).cell 2
  have m3 := (HB0.out.ext HG1.out).cell 3
  have m4 := (HB0.out.ext HG1.out).cell 4
  have m5 := (HB0.out.ext HG1.out).cell 5
  clear r0 r1 r2 r3 r4 r5
  go_upto_region 5 with (go_at_call 120; (with_reducible refine (HTR.out).mono ?_); rintro e V3 ⟨⟨A, n, c, B, q, d, rfl, ho1, ho2, -⟩, hg⟩; have HO1 := Lib.hid ho1; have HO2 := Lib.hid ho2; have HG3 := Lib.hid hg; clear hg ho1 ho2)
  have HO2 := Lib.hid (show OwnL rcells 2 33 V3 V.heap.size (.slice B q d) (roRow p known) from HO2.out)
  obtain ⟨V5, hV5⟩ : ∃ X, V3.alloc (.cells #[.slice A n c, .slice B q d] 191) = X := ⟨_, rfl⟩
  have g5 : Below V3.heap.size V3 V5 := by rw [← hV5]; exact one_more _ _
  have BN := Lib.hid (show Blk V5 V3.heap.size 191 #[.slice A n c, .slice B q d] by rw [← hV5]; exact Blk.new _ _ _)
  have G5 := Lib.hid (HG1.out.trans ((HG3.out.trans (g5.mono HG3.out.size)).mono HG1.out.size))
  have HA5 := Lib.hid ((own_arr HO1.out).below g5)
  have HS5 := Lib.hid ((own_arrR HO2.out).below g5)
  have HN := Lib.hid (show (lookL p known every).length = n from HA5.out.1)
  have hqn : q = n + 1 := by have h1 := HS5.out.1; have h2 := roRow_len p known; have h3 := HN.out; omega
  have HQN := Lib.hid hqn
  have hn60 : n ≤ 60 := by rw [← HN.out]; exact look60 HOK.out known
  have HNL := Lib.hid (show ns.length = nn from HNS.out.1)
  have t1 := (HB1.out.ext G5.out).cell 1
  have t0 := (HB1.out.ext G5.out).cell 0
  have x0 := BN.out.cell 0
  rw [hV5]
  clear hV5 g5 hqn m0 m1 m2 m3 m4 m5
  by_cases hnl : nn = n
  ·have HNN := Lib.hid hnl
   have hne : ((nn : Int) != (n : Int)) = false := by simp [hnl]
   clear hnl
   have m0 := (HB0.out.ext G5.out).cell 0
   have m1 := (HB0.out.ext G5.out).cell 1
   have m2 := (HB0.out.ext G5.out).cell 2
   have m3 := (HB0.out.ext G5.out).cell 3
   have m4 := (HB0.out.ext G5.out).cell 4
   have m5 := (HB0.out.ext G5.out).cell 5
   have HTN := Lib.hid (refNumbers_any p A1 A2 A3 n1 c1 n2 c2 n3 c3 known N nn cn ns sown V5 (HPA.out.below G5.out) HOK.out (HNS.out.below G5.out) (by rw [HNN.out, HN.out]))
   go_upto_region 8 with (go_at_call 130; (with_reducible refine (HTN.out).mono ?_); rintro e V6 ⟨⟨v, rfl, ho⟩, hg⟩; have HG6 := Lib.hid hg; obtain ⟨D, cd, rfl, -, -, hal, -⟩ := OwnL.arr kdI ho; have HAL := Lib.hid hal; clear hg ho hal)
   have HML := Lib.hid (show (numsL p known ns).length = n by rw [numsL_len, HN.out])
   rw [HML.out] at HAL ⊢
   have G6 := Lib.hid (G5.out.trans (HG6.out.mono G5.out.size))
   have BN6 := Lib.hid (BN.out.ext HG6.out)
   have HA6 := Lib.hid (HA5.out.below HG6.out)
   have HS6 := Lib.hid (HS5.out.below HG6.out)
   have t0' := (HB1.out.ext G6.out).cell 0
   clear t0 t1 x0 m0 m1 m2 m3 m4 m5
   go_wp2_with fail
   go_loopw [10, 11] (fun s i wr => ∃ j : Nat, j ≤ n + 1 ∧ i = .int .i64 j ∧ s = .int .i64 (runK sown (numsL p known ns) (j - 1)) ∧ Below V6.heap.size V6 wr ∧ (∀ i, i < j → rowB p known sown ns i = true) ∧ ∀ i, i + 1 < j → tookB (lookL p known every) (numsL p known ns) i = true) (fun _ i _ => n + 1 - (intOf i).toNat)
   case atStart => exact ⟨0, Nat.zero_le _, rfl, rfl, Below.refl _ _, fun i h => absurd h (by omega), fun i h => absurd h (by omega)⟩
   case round =>
    obtain ⟨j, hj, rfl, rfl, hg, hall, hat⟩ := hrel
    obtain ⟨V7, rfl⟩ : ∃ V7 : World, V7 = wr := ⟨_, rfl⟩
    have HG := Lib.hid hg
    have HALL := Lib.hid hall
    have HAT := Lib.hid hat
    clear hg hall hat t0'
    by_cases hjn : j < n + 1
    ·have hji : decide (j ≤ n) = true := decide_eq_true (by omega)
     have hji2 : (j : Int) ≤ (n : Int) := by omega
     have HRB := Lib.hid (show rowB p known sown ns j = rng (runK sown (numsL p known ns) j) ((roRow p known).getD j zR).lo ((roRow p known).getD j zR).hi from rfl)
     have HBD := row_bd HOK.out known (i := j) (by rw [HN.out]; omega)
     have hw0 := (BN6.out.ext HG.out).cell 0
     have hw1 := (BN6.out.ext HG.out).cell 1
     obtain ⟨b9, o9, rfl, -, hc9⟩ := rg_at9 HS6.out (k := j) (by have := HQN.out; omega)
     have HC9 := Lib.hid hc9
     obtain ⟨rg, hrg⟩ : ∃ r, (roRow p known).getD j zR = r := ⟨_, rfl⟩
     rw [hrg] at HRB HC9
     have HNO := Lib.hid (fun (h : rowB p known sown ns j = false) => truth_no_row HOK.out (known := known) (sown := sown) (ns := ns) (i := j) (by rw [HN.out]; omega) h)
     obtain ⟨rb, hrb⟩ : ∃ b, rowB p known sown ns j = b := ⟨_, rfl⟩
     rw [hrb] at HRB HNO
     have HRBB := Lib.hid hrb
     have hjq : (j : Int) < (q : Int) := by have := HQN.out; omega
     clear hc9 hrg hrb HBD
     by_cases hj0 : j = 0
     ·subst hj0
      have e0 : decide ((0 : Int) < ((0 : Nat) : Int)) = false := by decide
      have er : runK sown (numsL p known ns) (0 - 1) = sown := rfl
      rw [er]
      clear er
      go_upto_region 16 with fail
      have z1 := (HC9.out V7 HG.out).1
      have z2 := (HC9.out V7 HG.out).2
      rw [Nat.zero_mul, Nat.add_zero] at z1 z2
      have TT2 := Lib.hid (show ∀ X : Wd V7, Calls Tryz.prog 131 #[.int .i64 sown, .int .i64 rg.lo, .int .i64 rg.hi] X.val fun e w' => e = .returned (.bool rb) ∧ X.val = w' from fun X => by rw [HRB.out]; exact in_any sown rg.lo rg.hi X.val)
      have a1 := cellW hw1
      have a2 := cellW z1
      have a3 := cellW z2
      refine wp_region_calm V7 (by kernel_rfl) (by kernel_rfl) (Below.refl _ _) ?_
      repeat (go_big_quiet_step ((go_at_call 131; exact callsCalmSame (TT2.out _))))
      refine wpQuiet_nil ?_
      rintro _ ⟨zz, rfl⟩
      have HGY := Lib.hid (HG.out.trans (zz.ok.mono HG.out.size))
      clear a1 a2 a3 z1 z2 hw1
      cases rb with
      | false =>
       have HTF := Lib.hid (HNO.out rfl)
       go_wp2_with fail
       go_ret
       exact ⟨by rw [HR2.out, HTF.out]; rfl, GA.out.trans ((G6.out.trans (HGY.out.mono G6.out.size)).mono GA.out.size)⟩
      | true =>
       go_wp2_with fail
       go_roundw
       case rel => exact ⟨0 + 1, by omega, by go_num, rfl, HGY.out, fun i h => by
        by_cases e : i = 0
        ·subst e; exact HRBB.out
        ·exact HALL.out i (by omega), fun i h => absurd h (by omega)⟩
       case measure => first | (simp [intOf]; done) | (simp [intOf]; omega)
     ·obtain ⟨t, rfl⟩ : ∃ t, j = t + 1 := ⟨j - 1, by omega⟩
      have e0 : (0 : Int) < ((t + 1 : Nat) : Int) := by omega
      have e1 : ((t + 1 : Nat) : Int) - 1 = (t : Int) := by omega
      have e1w : IntKind.i64.wrap (((t + 1 : Nat) : Int) - 1) = (t : Int) := by rw [IntKind.wrap_i64]; omega
      rw [Nat.add_sub_cancel]
      have htn : t < n := by omega
      have htni : (t : Int) < (n : Int) := by omega
      have HTK := Lib.hid (show tookB (lookL p known every) (numsL p known ns) t = rng ((numsL p known ns).getD t 0) ((lookL p known every).getD t z6).c ((lookL p known every).getD t z6).d from rfl)
      have HNT := Lib.hid (fun (h : tookB (lookL p known every) (numsL p known ns) t = false) => truth_no_took HOK.out (known := known) (sown := sown) (ns := ns) (i := t) (by rw [HN.out]; exact htn) h)
      have HRUN := Lib.hid (show runK sown (numsL p known ns) (t + 1) = runK sown (numsL p known ns) t - (numsL p known ns).getD t 0 from rfl)
      have hbt := rng_bd (HALL.out t (by omega))
      have hrt := row_bd HOK.out known (i := t) (by rw [HN.out]; omega)
      obtain ⟨bA, oA, eA, -, -, hcA⟩ := six_at (HA6.out.below HG.out) htn
      have hxx := hcA V7 (Below.refl _ _)
      have xc := hxx.2.2.1
      have xd := hxx.2.2.2.1
      obtain ⟨bN, oN, eN, -, -, hcN⟩ := ints_at (HAL.out.below HG.out) htn
      have HCN := Lib.hid hcN
      have hnum := look_num HOK.out known every _ (getD_mem (l := lookL p known every) (i := t) (by rw [HN.out]; exact htn))
      obtain ⟨x, hxg⟩ : ∃ x, (lookL p known every).getD t z6 = x := ⟨_, rfl⟩
      rw [hxg] at xc xd HTK hnum
      obtain ⟨val, hval⟩ : ∃ v, (numsL p known ns).getD t 0 = v := ⟨_, rfl⟩
      rw [hval] at HTK HRUN HCN
      obtain ⟨st, hst⟩ : ∃ v, runK sown (numsL p known ns) t = v := ⟨_, rfl⟩
      rw [hst] at HRUN hbt ⊢
      have xn := HCN.out V7 (Below.refl _ _)
      subst eA eN
      have HHB := Lib.hid (show -10000000 ≤ st ∧ st ≤ 10000000 by omega)
      have HNM := Lib.hid hnum
      obtain ⟨tb, htb⟩ : ∃ b, tookB (lookL p known every) (numsL p known ns) t = b := ⟨_, rfl⟩
      rw [htb] at HTK HNT
      have HTB := Lib.hid htb
      have TT := Lib.hid (show ∀ X : Wd V7, Calls Tryz.prog 131 #[.int .i64 val, .int .i64 x.c, .int .i64 x.d] X.val fun e w' => e = .returned (.bool tb) ∧ X.val = w' from fun X => by rw [HTK.out]; exact in_any val x.c x.d X.val)
      have hw0' := cellW hw0
      have xc' := cellW xc
      have xd' := cellW xd
      have xn' := cellW xn
      clear hxx hcA hcN hnum hxg hval hst htb hbt hrt
      go_upto_region 13 with fail
      refine wp_region_calm V7 (by kernel_rfl) (by kernel_rfl) (Below.refl _ _) ?_
      repeat (go_big_quiet_step ((go_at_call 131; exact callsCalmSame (TT.out _))))
      refine wpQuiet_nil ?_
      rintro _ ⟨z, rfl⟩
      have HGZ := Lib.hid (HG.out.trans (z.ok.mono HG.out.size))
      have HW1 := Lib.hid (cellL z.ok hw1)
      have HZ8 := Lib.hid z.ok
      obtain ⟨V8, hV8⟩ : ∃ V8, z.val = V8 := ⟨_, rfl⟩
      rw [hV8] at HGZ HW1 HZ8 ⊢
      clear hw0' xc' xd' xn' hw0 hw1 xc xd xn hV8 z
      cases tb with
      | false =>
       have HTF := Lib.hid (HNT.out rfl)
       go_wp2_with fail
       go_ret
       exact ⟨by rw [HR2.out, HTF.out]; rfl, GA.out.trans ((G6.out.trans (HGZ.out.mono G6.out.size)).mono GA.out.size)⟩
      | true =>
       have hv := rng_bd HTK.out.symm
       obtain ⟨hv0, hv1⟩ : -10000 ≤ val ∧ val ≤ 10000 := by have h1 := HNM.out; unfold Num at h1; omega
       obtain ⟨hs0, hs1⟩ := HHB.out
       have xn2 := HCN.out V8 HZ8.out
       clear hv
       go_upto_region 16 with fail
       clear xn2
       have z1 := (HC9.out V8 HGZ.out).1
       have z2 := (HC9.out V8 HGZ.out).2
       have TT2 := Lib.hid (show ∀ X : Wd V8, Calls Tryz.prog 131 #[.int .i64 (st - val), .int .i64 rg.lo, .int .i64 rg.hi] X.val fun e w' => e = .returned (.bool rb) ∧ X.val = w' from fun X => by rw [HRB.out, HRUN.out]; exact in_any (st - val) rg.lo rg.hi X.val)
       have a1 := HW1.out
       have a2 := cellW z1
       have a3 := cellW z2
       refine wp_region_calm V8 (by kernel_rfl) (by kernel_rfl) (Below.refl _ _) ?_
       repeat (go_big_quiet_step ((go_at_call 131; exact callsCalmSame (TT2.out _))))
       refine wpQuiet_nil ?_
       rintro _ ⟨zz, rfl⟩
       have HGY := Lib.hid (HGZ.out.trans (zz.ok.mono HGZ.out.size))
       clear a1 a2 a3 z1 z2
       cases rb with
       | false =>
        have HTF := Lib.hid (HNO.out rfl)
        go_wp2_with fail
        go_ret
        exact ⟨by rw [HR2.out, HTF.out]; rfl, GA.out.trans ((G6.out.trans (HGY.out.mono G6.out.size)).mono GA.out.size)⟩
       | true =>
        go_wp2_with fail
        go_roundw
        case rel => exact ⟨t + 1 + 1, by omega, by go_num, (by rw [Nat.add_sub_cancel, HRUN.out]), HGY.out, fun i h => by
         by_cases e : i = t + 1
         ·subst e; exact HRBB.out
         ·exact HALL.out i (by omega), fun i h => by
          by_cases e : i = t
          ·subst e; exact HTB.out
          ·exact HAT.out i (by omega)⟩
        case measure => first | (simp [intOf]; done) | (simp [intOf]; omega)
    ·obtain rfl : n + 1 = j := by omega
     have hji : decide (n + 1 ≤ n) = false := decide_eq_false (by omega)
     have hji2 : ¬ ((n + 1 : Nat) : Int) ≤ (n : Int) := by omega
     have HTT := Lib.hid (show truthB p known sown ns = true from (truth_rows HOK.out).2 ⟨by rw [HNL.out, HNN.out, HN.out], fun i hi => HALL.out i (by rw [HN.out] at hi; omega), fun i hi => HAT.out i (by rw [HN.out] at hi; omega)⟩)
     go_wp2_with fail
     go_ret
     exact ⟨by rw [HR2.out, HTT.out]; rfl, GA.out.trans ((G6.out.trans (HG.out.mono G6.out.size)).mono GA.out.size)⟩
  ·have hne : ((nn : Int) != (n : Int)) = true := by simp; omega
   have HTF := Lib.hid (truth_no_len HOK.out (known := known) (sown := sown) (ns := ns) (by rw [HNL.out, HN.out]; exact hnl))
   clear hnl
   go_wp2_with fail
   go_ret
   exact ⟨by rw [HR2.out, HTF.out]; rfl, GA.out.trans (G5.out.mono GA.out.size)⟩
 ·have HR2 := Lib.hid (show rr = fe by rw [HLE.out, if_neg hz])
  have hz2 : (fe != 0) = true := by simpa using hz
  clear hz HLE HFO
  go_enter Tryz.func59, Tryz.ntmps59
  go_upto_region 1 with fail
  rw [HW1.out]
  go_wp2_with (go_at_call 101; (with_reducible refine (HT1.out).mono ?_); rintro e V ⟨rfl, hg⟩)
  go_ret
  exact ⟨by rw [HR2.out]; rfl, GA.out.trans (hg.mono GA.out.size)⟩
end Go.Proofs.YtkoejeghihcmlaaGreat

namespace Go.Proofs.YtkoejeghihcmlaaGreat
open Go.RowKit Go.Shelf
theorem hundred (w : World) (o1 o2 o3 : Obj) : Below w.heap.size w (((w.alloc o1).alloc o2).alloc o3) :=
 (two_more w o1 o2).trans ((one_more _ o3).mono (by simp; omega))
theorem tookN_bd {p : Pl} (hok : okPl p = true) {known sown : Int} {ns : List Int} (h : truthB p known sown ns = true) {i : Nat} (hi : i < (lookL p known every).length) : 0 ≤ (numsL p known ns).getD i 0 ∧ (numsL p known ns).getD i 0 ≤ 10000 := by
 have h1 := rng_bd (((truth_rows hok).1 h).2.2 i hi)
 have h2 := look_num hok known every _ (getD_mem (l := lookL p known every) hi)
 unfold Num at h2
 omega
theorem run_bd9 {p : Pl} (hok : okPl p = true) {known sown : Int} {ns : List Int} (h : truthB p known sown ns = true) {i : Nat} (hi : i ≤ (lookL p known every).length) : -10000000 ≤ runK sown (numsL p known ns) i ∧ runK sown (numsL p known ns) i ≤ 10000000 := by
 have h1 := rng_bd (((truth_rows hok).1 h).2.1 i hi)
 have h2 := row_bd hok known hi
 omega
theorem truth_len {p : Pl} (hok : okPl p = true) {known sown : Int} {ns : List Int} (h : truthB p known sown ns = true) : ns.length = (lookL p known every).length := ((truth_rows hok).1 h).1
set_option maxRecDepth 100000 in
set_option maxHeartbeats 8000000 in
theorem refLeftN_any (p : Pl) (A1 A2 A3 : Option Addr) (n1 c1 n2 c2 n3 c3 : Nat) (hour known : Int) (N : Option Addr) (nn cn : Nat) (ns : List Int) (sown : Int) (w : World) (hp : Pa w p A1 A2 A3 n1 c1 n2 c2 n3 c3) (hok : okPl p = true) (hns : Ints w N nn ns) (ht : truthB p known sown ns = true) :
  Calls Tryz.prog 124 #[plv p A1 A2 A3 n1 c1 n2 c2 n3 c3, .agg #[.int .i64 sown, .slice N nn cn], .agg #[.int .i64 hour, .int .i64 known]] w fun e w' => e = .returned (.int .i64 (runK sown (numsL p known ns) (after (lookL p known every) hour))) ∧ Below w.heap.size w w' := by
 obtain ⟨W1, hW1⟩ : ∃ W1, ((w.alloc (.cells (plb p A1 A2 A3 n1 c1 n2 c2 n3 c3) 38)).alloc (.cells #[.int .i64 sown, .slice N nn cn] 41)).alloc (.cells #[.int .i64 hour, .int .i64 known] 85) = W1 := ⟨_, rfl⟩
 have g0 : Below w.heap.size w W1 := by rw [← hW1]; exact hundred _ _ _ _
 have b0 : Blk W1 w.heap.size 38 (plb p A1 A2 A3 n1 c1 n2 c2 n3 c3) := by rw [← hW1]; exact ((Blk.new _ _ _).alloc _).alloc _
 have b1 : Blk W1 (w.heap.size + 1) 41 #[.int .i64 sown, .slice N nn cn] := by
  rw [← hW1]
  have := (Blk.new (w.alloc (.cells (plb p A1 A2 A3 n1 c1 n2 c2 n3 c3) 38)) 41 #[.int .i64 sown, .slice N nn cn]).alloc (.cells #[.int .i64 hour, .int .i64 known] 85)
  rwa [World.size_alloc] at this
 have b2 : Blk W1 (w.heap.size + 1 + 1) 85 #[.int .i64 hour, .int .i64 known] := by
  rw [← hW1]
  have := Blk.new ((w.alloc (.cells (plb p A1 A2 A3 n1 c1 n2 c2 n3 c3) 38)).alloc (.cells #[.int .i64 sown, .slice N nn cn] 41)) 85 #[.int .i64 hour, .int .i64 known]
  rwa [World.size_alloc, World.size_alloc] at this
 have HNN := Lib.hid (show nn = (lookL p known every).length by rw [← truth_len hok ht]; exact hns.1.symm)
 have HT1 := Lib.hid (refNumbers_any p A1 A2 A3 n1 c1 n2 c2 n3 c3 known N nn cn ns sown W1 (hp.below g0) hok (hns.below g0) HNN.out)
 have HNB := Lib.hid (show n1 ≤ 1000 by have h1 := ok_parts hok; have h2 := hp.l1.1; omega)
 have HT2 := Lib.hid (fun (V : World) (g : Below W1.heap.size W1 V) => show Calls Tryz.prog 129 #[plv p A1 A2 A3 n1 c1 n2 c2 n3 c3, .int .i64 known] V (fun e w' => (∃ v, e = .returned v ∧ OwnL scells 6 103 w' V.heap.size v (lookL p known every)) ∧ Below V.heap.size V w') from by
  have h := refCarted_any p A1 A2 A3 n1 c1 n2 c2 n3 c3 known V ((hp.below g0).below g) HNB.out
  have e : lookL p known every = srtH (p.loads.filter fun x => cnt x known) := by rw [cart_every]; rfl
  rw [e]
  exact h)
 have HTK := Lib.hid (fun i (h : i < (lookL p known every).length) => tookN_bd hok ht h)
 have HRB := Lib.hid (fun i (h : i ≤ (lookL p known every).length) => run_bd9 hok ht h)
 have H60 := Lib.hid (look60 hok known)
 have HUP := Lib.hid (show Up (lookL p known every) from srtH_up _)
 have HML := Lib.hid (show (numsL p known ns).length = (lookL p known every).length from numsL_len _ _ _)
 have HAF := Lib.hid (after_le (lookL p known every) hour)
 have HRN := Lib.hid (show ∀ k, runK sown (numsL p known ns) (k + 1) = runK sown (numsL p known ns) k - (numsL p known ns).getD k 0 from fun _ => rfl)
 have HR0 := Lib.hid (show runK sown (numsL p known ns) 0 = sown from rfl)
 have HIX := Lib.hid (fun (A : Option Addr) (n c : Nat) (X : World) (ha : Arr scells 6 X A n (lookL p known every)) (hn : n ≤ 1000) => refIndex_any A n c (lookL p known every) none 0 0 hour X ha hn HUP.out)
 obtain ⟨rk, hrk⟩ : ∃ r, runK sown (numsL p known ns) = r := ⟨_, rfl⟩
 rw [hrk] at HRB HRN HR0
 rw [hrk]
 obtain ⟨L, hL⟩ : ∃ L, lookL p known every = L := ⟨_, rfl⟩
 obtain ⟨M, hM⟩ : ∃ M, numsL p known ns = M := ⟨_, rfl⟩
 rw [hL] at HT2 HTK HRB H60 HML HAF HIX
 rw [hM] at HT1 HTK HML HRN
 rw [hL]
 obtain ⟨av, hav⟩ : ∃ a, after L hour = a := ⟨_, rfl⟩
 rw [hav] at HAF HIX ⊢
 have HB0 := Lib.hid b0
 have HB1 := Lib.hid b1
 have HB2 := Lib.hid b2
 have GA := Lib.hid g0
 have HW1 := Lib.hid hW1
 have r0 := b0.cell 0
 have r1 := b0.cell 1
 have r2 := b0.cell 2
 have r3 := b0.cell 3
 have r4 := b0.cell 4
 have r5 := b0.cell 5
 have s0 := b1.cell 0
 have s1 := b1.cell 1
 have t1 := b2.cell 1
 clear hp g0 b0 b1 b2 hW1 hok hns ht hL hM hrk hav
 go_enter Tryz.func124, Tryz.ntmps124
 go_upto_region 1 with fail
 rw [HW1.out]
 go_upto_region 2 with (go_at_call 130; (with_reducible refine (HT1.out).mono ?_); rintro e V ⟨⟨v, rfl, ho⟩, hg⟩; have HG1 := Lib.hid hg; obtain ⟨D, cd, rfl, -, -, hal, -⟩ := OwnL.arr kdI ho; have HAL := Lib.hid hal; clear hg ho hal)
 have HT3 := Lib.hid (HT2.out V HG1.out)
 have m0 := (HB0.out.ext HG1.out).cell 0
 have m1 := (HB0.out.ext HG1.out).cell 1
 have m2 := (HB0.out.ext HG1.out).cell 2
 have m3 := (HB0.out.ext HG1.out).cell 3
 have m4 := (HB0.out.ext HG1.out).cell 4
 have m5 := (HB0.out.ext HG1.out).cell 5
 have t1' := (HB2.out.ext HG1.out).cell 1
 clear r0 r1 r2 r3 r4 r5 s0 s1 t1
 go_upto_region 3 with (go_at_call 129; (with_reducible refine (HT3.out).mono ?_); rintro e V3 ⟨⟨v, rfl, ho⟩, hg⟩; have HG3 := Lib.hid hg; obtain ⟨A, c, rfl, -, -, hal2, -⟩ := OwnL.arr kdL ho; have HALL := Lib.hid hal2; clear hg ho hal2)
 obtain ⟨n, hn⟩ : ∃ n, L.length = n := ⟨_, rfl⟩
 rw [HML.out] at HAL ⊢
 rw [hn] at HAL HALL HAF H60 HTK HRB ⊢
 obtain ⟨V5, hV5⟩ : ∃ X, V3.alloc (.cells #[.slice A n c, .slice none 0 0] 191) = X := ⟨_, rfl⟩
 have g5 : Below V3.heap.size V3 V5 := by rw [← hV5]; exact one_more _ _
 have BN := Lib.hid (show Blk V5 V3.heap.size 191 #[.slice A n c, .slice none 0 0] by rw [← hV5]; exact Blk.new _ _ _)
 have G5 := Lib.hid (HG1.out.trans ((HG3.out.trans (g5.mono HG3.out.size)).mono HG1.out.size))
 have HA5 := Lib.hid (HALL.out.below g5)
 have HM5 := Lib.hid ((HAL.out.below HG3.out).below g5)
 have hn60 : n ≤ 60 := H60.out
 have u0 := (HB1.out.ext G5.out).cell 0
 rw [hV5]
 clear hV5 g5 m0 m1 m2 m3 m4 m5 t1' hn
 go_wp2_with fail
 go_loopw [9, 10] (fun s i wr => ∃ j : Nat, j ≤ av ∧ i = .int .i64 j ∧ s = .int .i64 (rk j) ∧ Below V5.heap.size V5 wr) (fun _ i _ => av + 1 - (intOf i).toNat)
 case atStart => exact ⟨0, Nat.zero_le _, rfl, by rw [HR0.out], Below.refl _ _⟩
 case round =>
  clear u0
  obtain ⟨j, hj, rfl, rfl, hg⟩ := hrel
  obtain ⟨V7, rfl⟩ : ∃ V7 : World, V7 = wr := ⟨_, rfl⟩
  have HG := Lib.hid hg
  have k0 := (BN.out.ext hg).cell 0
  have k1 := (BN.out.ext hg).cell 1
  have t0 := (HB2.out.ext (G5.out.trans (hg.mono G5.out.size))).cell 0
  have HTI := Lib.hid (HIX.out A n c V7 (HA5.out.below hg) (by omega))
  have hjb := HRB.out j (by have := HAF.out; omega)
  have HJB := Lib.hid hjb
  clear hg hjb
  by_cases hja : j < av
  ·have hji : decide (j < av) = true := decide_eq_true hja
   have hji2 : (j : Int) < (av : Int) := by omega
   have HNJ := Lib.hid (HRN.out j)
   have hjn : j < n := by have := HAF.out; omega
   have hjni : (j : Int) < (n : Int) := by omega
   have hb := HTK.out j hjn
   obtain ⟨hv0, hv1⟩ := hb
   obtain ⟨hs0, hs1⟩ := HJB.out
   obtain ⟨bN, oN, eN, -, -, hcN⟩ := ints_at HM5.out hjn
   have HCN := Lib.hid hcN
   obtain ⟨val, hval⟩ : ∃ v, M.getD j 0 = v := ⟨_, rfl⟩
   rw [hval] at HNJ HCN hv0 hv1
   obtain ⟨st, hst⟩ : ∃ v, rk j = v := ⟨_, rfl⟩
   rw [hst] at HNJ hs0 hs1 ⊢
   subst eN
   clear hcN hval hst
   go_upto_region 7 with (go_at_call 118; (with_reducible refine (HTI.out).mono ?_); rintro e V8 ⟨rfl, hg⟩; have HG8 := Lib.hid hg; clear hg)
   have HGZ := Lib.hid (HG.out.trans (HG8.out.mono HG.out.size))
   have xn := HCN.out V8 HGZ.out
   clear k0 k1 t0
   go_wp2_with fail
   go_roundw
   case rel => exact ⟨j + 1, by omega, by go_num, by rw [HNJ.out], HGZ.out⟩
   case measure => simp [intOf]; omega
  ·obtain rfl : av = j := by omega
   have hji : decide (av < av) = false := decide_eq_false (by omega)
   have hji2 : ¬ (av : Int) < (av : Int) := by omega
   go_wp2_with (go_at_call 118; (with_reducible refine (HTI.out).mono ?_); rintro e V8 ⟨rfl, hg⟩; have HG8 := Lib.hid hg; clear hg)
   go_ret
   exact ⟨rfl, GA.out.trans ((G5.out.trans ((HG.out.trans (HG8.out.mono HG.out.size)).mono G5.out.size)).mono GA.out.size)⟩
set_option maxRecDepth 100000 in
set_option maxHeartbeats 8000000 in
theorem refLeft_any (p : Pl) (A1 A2 A3 : Option Addr) (n1 c1 n2 c2 n3 c3 : Nat) (hour known : Int) (N : Option Addr) (nn cn : Nat) (ns : List Int) (sown : Int) (w : World) (hp : Pa w p A1 A2 A3 n1 c1 n2 c2 n3 c3) (hns : Ints w N nn ns) (hI : ∀ x ∈ ns, -9223372036854775808 ≤ x ∧ x ≤ 9223372036854775807) (hnn : nn ≤ 9223372036854775807) :
  Calls Tryz.prog 58 #[plv p A1 A2 A3 n1 c1 n2 c2 n3 c3, .agg #[.int .i64 sown, .slice N nn cn], .agg #[.int .i64 hour, .int .i64 known]] w fun e w' => e = .returned (.tuple #[.int .i64 (leftV p hour known sown ns), .int .i64 (leftE p [hour] known sown ns)]) ∧ Below w.heap.size w w' := by
 obtain ⟨W1, hW1⟩ : ∃ W1, ((w.alloc (.cells (plb p A1 A2 A3 n1 c1 n2 c2 n3 c3) 38)).alloc (.cells #[.int .i64 sown, .slice N nn cn] 41)).alloc (.cells #[.int .i64 hour, .int .i64 known] 85) = W1 := ⟨_, rfl⟩
 have g0 : Below w.heap.size w W1 := by rw [← hW1]; exact hundred _ _ _ _
 have b0 : Blk W1 w.heap.size 38 (plb p A1 A2 A3 n1 c1 n2 c2 n3 c3) := by rw [← hW1]; exact ((Blk.new _ _ _).alloc _).alloc _
 have b1 : Blk W1 (w.heap.size + 1) 41 #[.int .i64 sown, .slice N nn cn] := by
  rw [← hW1]
  have := (Blk.new (w.alloc (.cells (plb p A1 A2 A3 n1 c1 n2 c2 n3 c3) 38)) 41 #[.int .i64 sown, .slice N nn cn]).alloc (.cells #[.int .i64 hour, .int .i64 known] 85)
  rwa [World.size_alloc] at this
 have b2 : Blk W1 (w.heap.size + 1 + 1) 85 #[.int .i64 hour, .int .i64 known] := by
  rw [← hW1]
  have := Blk.new ((w.alloc (.cells (plb p A1 A2 A3 n1 c1 n2 c2 n3 c3) 38)).alloc (.cells #[.int .i64 sown, .slice N nn cn] 41)) 85 #[.int .i64 hour, .int .i64 known]
  rwa [World.size_alloc, World.size_alloc] at this
 have T1 := refAsked_any p A1 A2 A3 n1 c1 n2 c2 n3 c3 hour known W1 (hp.below g0)
 have HLE := Lib.hid (show leftE p [hour] known sown ns = if firstE p [hour] [known] = 0 then err (truthB p known sown ns) 16 else firstE p [hour] [known] from rfl)
 have HLV := Lib.hid (show leftV p hour known sown ns = if leftE p [hour] known sown ns = 0 then (truS p known sown ns).getD (after (lookL p known every) hour) 0 else 0 from rfl)
 have HCE := Lib.hid (fun (h : firstE p [hour] [known] = 0) => show leftE p [] known sown ns = err (truthB p known sown ns) 16 from by
  have h0 := first_ok h
  have h1 : firstE p [] [known] = 0 := by
   unfold firstE at h ⊢
   rw [if_pos h0] at h ⊢
   by_cases e1 : [hour].any noHour = true
   ·rw [if_pos e1] at h; exact absurd h (by decide)
   ·rw [if_neg e1] at h
    rw [if_neg (by simp)]
    exact h
  unfold leftE
  rw [if_pos h1])
 have HFO := Lib.hid (fun h => first_ok (p := p) (hours := [hour]) (days := [known]) h)
 have T2 := fun (V : World) (g : Below W1.heap.size W1 V) => refCheckCart_any p A1 A2 A3 n1 c1 n2 c2 n3 c3 known N nn cn ns sown V ((hp.below g0).below g) ((hns.below g0).below g) hI hnn
 have T3 := fun (V : World) (g : Below W1.heap.size W1 V) (hok : okPl p = true) (ht : truthB p known sown ns = true) => refLeftN_any p A1 A2 A3 n1 c1 n2 c2 n3 c3 hour known N nn cn ns sown V ((hp.below g0).below g) hok ((hns.below g0).below g) ht
 have HTS := Lib.hid (show (truS p known sown ns).getD (after (lookL p known every) hour) 0 = runK sown (numsL p known ns) (after (lookL p known every) hour) from truS_at (after_le _ _))
 obtain ⟨le, hle⟩ : ∃ x, leftE p [hour] known sown ns = x := ⟨_, rfl⟩
 obtain ⟨lv, hlv⟩ : ∃ x, leftV p hour known sown ns = x := ⟨_, rfl⟩
 obtain ⟨ce, hce⟩ : ∃ x, leftE p [] known sown ns = x := ⟨_, rfl⟩
 obtain ⟨fe, hfe⟩ : ∃ x, firstE p [hour] [known] = x := ⟨_, rfl⟩
 obtain ⟨tv, htv⟩ : ∃ x, runK sown (numsL p known ns) (after (lookL p known every) hour) = x := ⟨_, rfl⟩
 rw [htv] at T3 HTS
 rw [HTS.out] at HLV
 rw [hle, hfe] at HLE
 rw [hlv, hle] at HLV
 rw [hfe, hce] at HCE
 rw [hce] at T2
 rw [hfe] at T1 HFO
 rw [hlv, hle]
 obtain ⟨tb, htb⟩ : ∃ b, truthB p known sown ns = b := ⟨_, rfl⟩
 rw [htb] at HLE HCE T3
 have HT1 := Lib.hid T1
 have HT2 := Lib.hid T2
 have HT3 := Lib.hid T3
 have HB0 := Lib.hid b0
 have HB1 := Lib.hid b1
 have HB2 := Lib.hid b2
 have GA := Lib.hid g0
 have HW1 := Lib.hid hW1
 have r0 := b0.cell 0
 have r1 := b0.cell 1
 have r2 := b0.cell 2
 have r3 := b0.cell 3
 have r4 := b0.cell 4
 have r5 := b0.cell 5
 have t0 := b2.cell 0
 have t1 := b2.cell 1
 clear hp g0 b0 b1 b2 hW1 hns hI T1 T2 T3 hle hlv hce hfe htv htb HTS
 by_cases hz : fe = 0
 ·subst hz
  have hok := Lib.hid (HFO.out rfl)
  have HLE2 := Lib.hid (show le = err tb 16 from HLE.out)
  have HCE2 := Lib.hid (HCE.out rfl)
  clear HLE HFO HCE
  go_enter Tryz.func58, Tryz.ntmps58
  go_upto_region 1 with fail
  rw [HW1.out]
  go_upto_region 4 with (go_at_call 101; (with_reducible refine (HT1.out).mono ?_); rintro e V ⟨rfl, hg⟩; have HG1 := Lib.hid hg; clear hg)
  have HT4 := Lib.hid (HT2.out V HG1.out)
  have m0 := (HB0.out.ext HG1.out).cell 0
  have m1 := (HB0.out.ext HG1.out).cell 1
  have m2 := (HB0.out.ext HG1.out).cell 2
  have m3 := (HB0.out.ext HG1.out).cell 3
  have m4 := (HB0.out.ext HG1.out).cell 4
  have m5 := (HB0.out.ext HG1.out).cell 5
  have s0 := (HB1.out.ext HG1.out).cell 0
  have s1 := (HB1.out.ext HG1.out).cell 1
  have u1 := (HB2.out.ext HG1.out).cell 1
  clear r0 r1 r2 r3 r4 r5 t0 t1
  cases tb with
  | false =>
   have hce : ce = 16 := HCE2.out
   have HLE3 := Lib.hid (show le = 16 from HLE2.out)
   have HLV3 := Lib.hid (show lv = 0 by rw [HLV.out, HLE3.out]; rfl)
   subst hce
   go_wp2_with (go_at_call 59; (with_reducible refine (HT4.out).mono ?_); rintro e V3 ⟨rfl, hg⟩)
   go_ret2
   exact ⟨by rw [HLV3.out, HLE3.out]; rfl, GA.out.trans ((HG1.out.trans (hg.mono HG1.out.size)).mono GA.out.size)⟩
  | true =>
   have hce : ce = 0 := HCE2.out
   have HLE3 := Lib.hid (show le = 0 from HLE2.out)
   have HLV3 := Lib.hid (show lv = tv by rw [HLV.out, HLE3.out]; rfl)
   subst hce
   go_upto_region 6 with (go_at_call 59; (with_reducible refine (HT4.out).mono ?_); rintro e V3 ⟨rfl, hg⟩; have HG3 := Lib.hid hg; clear hg)
   have G3 := Lib.hid (HG1.out.trans (HG3.out.mono HG1.out.size))
   have HT5 := Lib.hid (HT3.out V3 G3.out hok.out (by first | rfl | trivial))
   have x0 := (HB0.out.ext G3.out).cell 0
   have x1 := (HB0.out.ext G3.out).cell 1
   have x2 := (HB0.out.ext G3.out).cell 2
   have x3 := (HB0.out.ext G3.out).cell 3
   have x4 := (HB0.out.ext G3.out).cell 4
   have x5 := (HB0.out.ext G3.out).cell 5
   have y0 := (HB1.out.ext G3.out).cell 0
   have y1 := (HB1.out.ext G3.out).cell 1
   have z0 := (HB2.out.ext G3.out).cell 0
   have z1 := (HB2.out.ext G3.out).cell 1
   clear m0 m1 m2 m3 m4 m5 s0 s1 u1
   go_wp2_with (go_at_call 124; (with_reducible refine (HT5.out).mono ?_); rintro e V4 ⟨rfl, hg⟩)
   go_ret2
   exact ⟨by rw [HLV3.out, HLE3.out]; rfl, GA.out.trans ((G3.out.trans (hg.mono G3.out.size)).mono GA.out.size)⟩
 ·have HLE2 := Lib.hid (show le = fe by rw [HLE.out, if_neg hz])
  have HLV2 := Lib.hid (show lv = 0 by rw [HLV.out, HLE2.out, if_neg hz])
  have hz2 : (fe != 0) = true := by simpa using hz
  clear hz HLE HFO HCE
  go_enter Tryz.func58, Tryz.ntmps58
  go_upto_region 1 with fail
  rw [HW1.out]
  go_wp2_with (go_at_call 101; (with_reducible refine (HT1.out).mono ?_); rintro e V ⟨rfl, hg⟩)
  go_ret2
  exact ⟨by rw [HLV2.out, HLE2.out]; rfl, GA.out.trans (hg.mono GA.out.size)⟩
end Go.Proofs.YtkoejeghihcmlaaGreat
