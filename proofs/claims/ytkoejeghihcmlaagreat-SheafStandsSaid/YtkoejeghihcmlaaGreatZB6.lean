/- Part of the proof: VO. -/
import Derived.Test.YtkoejeghihcmlaaGreatZB3
import Derived.Test.YtkoejeghihcmlaaGreatZB4
import Derived.Test.YtkoejeghihcmlaaGreatZB5
namespace Go.Proofs.YtkoejeghihcmlaaGreat
open Go.RowKit Go.Shelf
theorem att_tru {p : Pl} {hour known : Int} (a : askE p [hour] known = 0) (high : Bool) : Tru (lookL p known every) (lookS p known every) (attS p hour known high) ∧ (attS p hour known high).getD (after (lookL p known every) hour) 0 = if high = true then (stoodR p hour known).hi else (stoodR p hour known).lo := by
 have hp := ask_parts a
 have hr := look_rw hp.1 hp.2.1
 have ha := after_len (lookL p known every) hour
 unfold attS
 rw [stoodR_of a]
 cases high
 ·exact pick_tru hr.arc (fun i hi => (hr.wid i hi).2) hr.snd ha (Int.le_refl _) (hr.snd _ ha)
 ·exact pick_tru hr.arc (fun i hi => (hr.wid i hi).2) hr.snd ha (hr.snd _ ha) (Int.le_refl _)
theorem att_bd {p : Pl} {hour known : Int} (a : askE p [hour] known = 0) (high : Bool) : ∀ x ∈ pickC p known (attS p hour known high), -9223372036854775808 ≤ x ∧ x ≤ 9223372036854775807 := by
 have hp := ask_parts a
 have hr := look_rw hp.1 hp.2.1
 have ht := (att_tru a high).1
 have hb : ∀ i, 0 ≤ (attS p hour known high).getD i 0 ∧ (attS p hour known high).getD i 0 ≤ 10000 := fun i => by
  by_cases hi : i ≤ (lookL p known every).length
  ·have h1 := ht.2.2 i hi
   have h2 := hr.pos i hi
   have h3 := look_hi hp.1 known every hi
   omega
  ·rw [List.getD_eq_getElem?_getD, List.getElem?_eq_none (by rw [ht.1]; omega)]
   exact ⟨Int.le_refl _, by decide⟩
 intro x hx
 unfold pickC at hx
 obtain ⟨y, -, rfl⟩ := List.mem_map.1 hx
 have h1 := hb (srcIx (lookL p known every) y.a)
 have h2 := hb (srcIx (lookL p known every) y.a + 1)
 omega
theorem att_left {p : Pl} {hour known : Int} (a : askE p [hour] known = 0) (hf : firstE p [hour] [known] = 0) (high : Bool) : leftE p [hour] known ((attS p hour known high).getD 0 0) (pickC p known (attS p hour known high)) = 0 ∧
  leftV p hour known ((attS p hour known high).getD 0 0) (pickC p known (attS p hour known high)) = if high = true then (stoodR p hour known).hi else (stoodR p hour known).lo := by
 have hp := ask_parts a
 have ht := att_tru a high
 have h1 : leftE p [hour] known ((attS p hour known high).getD 0 0) (pickC p known (attS p hour known high)) = 0 := by
  unfold leftE
  rw [if_pos hf, pick_truth hp.1 ht.1]
  rfl
 refine ⟨h1, ?_⟩
 unfold leftV
 rw [if_pos h1, pick_truS hp.1 ht.1.1]
 exact ht.2
theorem neqRg_same (r : Rg) (w : World) : (binOp .neq 33 (.agg #[.int .i64 r.lo, .int .i64 r.hi]) (.agg #[.int .i64 r.lo, .int .i64 r.hi])).run Tryz.prog w = .ok (.bool false) w := by rw [neqRg, decide_eq_true rfl]; rfl
theorem ask_first {p : Pl} {hour known : Int} (h : askE p [hour] known = 0) : firstE p [hour] [known] = 0 := by
 unfold askE at h
 by_cases e : firstE p [hour] [known] = 0
 ·exact e
 ·rw [if_neg e] at h; exact absurd h e
set_option maxRecDepth 100000 in
set_option maxHeartbeats 16000000 in
theorem law11_any (p : Pl) (A1 A2 A3 : Option Addr) (n1 c1 n2 c2 n3 c3 : Nat) (sown : Int) (N : Option Addr) (nn cn : Nat) (ns : List Int) (hour source known : Int) (w : World) (hp : Pa w p A1 A2 A3 n1 c1 n2 c2 n3 c3) (hns : Ints w N nn ns) (hI : ∀ x ∈ ns, I64 x) (hnn : nn ≤ cn) (hcn : cn ≤ 9223372036854775807) :
  Calls Tryz.prog 11 #[plv p A1 A2 A3 n1 c1 n2 c2 n3 c3, .agg #[.int .i64 sown, .slice N nn cn, .int .i64 hour, .int .i64 source, .int .i64 known]] w fun e w' => e = .returned (.bool true) ∧ Below w.heap.size w w' := by
 obtain ⟨W1, hW1⟩ : ∃ W1, (w.alloc (.cells (plb p A1 A2 A3 n1 c1 n2 c2 n3 c3) 38)).alloc (.cells #[.int .i64 sown, .slice N nn cn, .int .i64 hour, .int .i64 source, .int .i64 known] 114) = W1 := ⟨_, rfl⟩
 have G1 := Lib.hid (show Below w.heap.size w W1 by rw [← hW1]; exact two_more _ _ _)
 have BP := Lib.hid (show Blk W1 w.heap.size 38 (plb p A1 A2 A3 n1 c1 n2 c2 n3 c3) by rw [← hW1]; exact (Blk.new _ _ _).alloc _)
 have BQ := Lib.hid (show Blk W1 (w.heap.size + 1) 114 #[.int .i64 sown, .slice N nn cn, .int .i64 hour, .int .i64 source, .int .i64 known] by
  rw [← hW1]
  have := Blk.new (w.alloc (.cells (plb p A1 A2 A3 n1 c1 n2 c2 n3 c3) 38)) 114 #[.int .i64 sown, .slice N nn cn, .int .i64 hour, .int .i64 source, .int .i64 known]
  rwa [World.size_alloc] at this)
 have HPA := Lib.hid (hp.below G1.out)
 have HNS := Lib.hid (hns.below G1.out)
 have HW1 := Lib.hid hW1
 have hnn2 : nn ≤ 9223372036854775807 := by omega
 have S1 := fun W (h : Pa W p A1 A2 A3 n1 c1 n2 c2 n3 c3) => stoodQ_any p A1 A2 A3 n1 c1 n2 c2 n3 c3 hour known W h
 have S2 := fun W (h : Pa W p A1 A2 A3 n1 c1 n2 c2 n3 c3) => refStood_any p A1 A2 A3 n1 c1 n2 c2 n3 c3 hour known W h
 have S3 := fun W (h : Pa W p A1 A2 A3 n1 c1 n2 c2 n3 c3) => cartedQ_any p A1 A2 A3 n1 c1 n2 c2 n3 c3 source known W h
 have S4 := fun W (h : Pa W p A1 A2 A3 n1 c1 n2 c2 n3 c3) => refCartedP_any p A1 A2 A3 n1 c1 n2 c2 n3 c3 source known W h
 have S5 := fun W (h : Pa W p A1 A2 A3 n1 c1 n2 c2 n3 c3) (h2 : Ints W N nn ns) => leftQ_any p A1 A2 A3 n1 c1 n2 c2 n3 c3 hour known N nn cn ns sown W h h2 hI hnn2
 have S6 := fun W (h : Pa W p A1 A2 A3 n1 c1 n2 c2 n3 c3) (h2 : Ints W N nn ns) => refLeft_any p A1 A2 A3 n1 c1 n2 c2 n3 c3 hour known N nn cn ns sown W h h2 hI hnn2
 have S7 := fun W (h : Pa W p A1 A2 A3 n1 c1 n2 c2 n3 c3) (h2 : Ints W N nn ns) => checkCartQ_any p A1 A2 A3 n1 c1 n2 c2 n3 c3 known N nn cn ns sown W h h2 hI hnn2
 have S8 := fun W (h : Pa W p A1 A2 A3 n1 c1 n2 c2 n3 c3) (h2 : Ints W N nn ns) => refCheckCart_any p A1 A2 A3 n1 c1 n2 c2 n3 c3 known N nn cn ns sown W h h2 hI hnn2
 have S9 := fun W (high : Bool) (h : Pa W p A1 A2 A3 n1 c1 n2 c2 n3 c3) => attainQ_any p A1 A2 A3 n1 c1 n2 c2 n3 c3 hour known high W h
 have SA := fun W (high : Bool) (D : Option Addr) (m d : Nat) (h : Pa W p A1 A2 A3 n1 c1 n2 c2 n3 c3) (a : askE p [hour] known = 0) (hi : Ints W D m (pickC p known (attS p hour known high))) (hm : m ≤ 9223372036854775807) => refLeft_any p A1 A2 A3 n1 c1 n2 c2 n3 c3 hour known D m d (pickC p known (attS p hour known high)) ((attS p hour known high).getD 0 0) W h hi (att_bd a high) hm
 have AL := fun (a : askE p [hour] known = 0) (high : Bool) => att_left a (ask_first a) high
 have HEND := Lib.hid (show ∀ (high : Bool) (W : World) (e : Ending) (W' : World), AttEnd p hour known high W e W' ↔ ((∃ sv v, e = .returned (.tuple #[.agg #[.int .i64 sv, v], .int .i64 (askE p [hour] known)]) ∧ (askE p [hour] known = 0 → sv = (attS p hour known high).getD 0 0 ∧ OwnL icells 1 3 W' W.heap.size v (pickC p known (attS p hour known high))) ∧
  (askE p [hour] known ≠ 0 → sv = 0 ∧ v = .slice none 0 0)) ∧ Below W.heap.size W W') from fun _ _ _ _ => Iff.rfl)
 obtain ⟨rr, hrr⟩ : ∃ s, stoodR p hour known = s := ⟨_, rfl⟩
 obtain ⟨ae, hae⟩ : ∃ s, askE p [hour] known = s := ⟨_, rfl⟩
 obtain ⟨cr, hcr⟩ : ∃ s, cartR p source known = s := ⟨_, rfl⟩
 obtain ⟨ce, hce⟩ : ∃ s, cartE p source known = s := ⟨_, rfl⟩
 obtain ⟨lv, hlv⟩ : ∃ s, leftV p hour known sown ns = s := ⟨_, rfl⟩
 obtain ⟨le, hle⟩ : ∃ s, leftE p [hour] known sown ns = s := ⟨_, rfl⟩
 obtain ⟨ke, hke⟩ : ∃ s, leftE p [] known sown ns = s := ⟨_, rfl⟩
 rw [hrr, hae] at S1 S2
 rw [hcr, hce] at S3 S4
 rw [hlv, hle] at S5 S6
 rw [hke] at S7 S8
 rw [hae] at HEND SA AL
 rw [hrr] at AL
 have T1 := Lib.hid S1
 have T2 := Lib.hid S2
 have T3 := Lib.hid S3
 have T4 := Lib.hid S4
 have T5 := Lib.hid S5
 have T6 := Lib.hid S6
 have T7 := Lib.hid S7
 have T8 := Lib.hid S8
 have T9 := Lib.hid S9
 have TA := Lib.hid SA
 have HAL := Lib.hid AL
 clear S1 S2 S3 S4 S5 S6 S7 S8 S9 SA AL hrr hae hcr hce hlv hle hke hp hns hW1 hI
 go_enter Tryz.func11, Tryz.ntmps11
 go_upto_region 1 with fail
 rw [HW1.out]
 go_upto_region 2 with (go_at_call 34; (with_reducible refine (sane_any _).mono ?_); rintro e V1 ⟨rfl, hg⟩)
 have G2 := Lib.hid (G1.out.trans (hg.mono G1.out.size))
 have BP := Lib.hid (BP.out.ext hg)
 have BQ := Lib.hid (BQ.out.ext hg)
 have HPA := Lib.hid (HPA.out.below hg)
 have HNS := Lib.hid (HNS.out.below hg)
 clear hg
 have k0 := BP.out.cell 0
 have k1 := BP.out.cell 1
 have k2 := BP.out.cell 2
 have k3 := BP.out.cell 3
 have k4 := BP.out.cell 4
 have k5 := BP.out.cell 5
 have h0 := BQ.out.cell 0
 have h1 := BQ.out.cell 1
 have h2 := BQ.out.cell 2
 have h3 := BQ.out.cell 3
 have h4 := BQ.out.cell 4
 go_upto_region 3 with (go_at_call 35; (with_reducible refine (T1.out _ HPA.out).mono ?_); rintro e V2 ⟨rfl, hg⟩)
 clear k0 k1 k2 k3 k4 k5 h0 h1 h2 h3 h4
 have G3 := Lib.hid (G2.out.trans (hg.mono G2.out.size))
 have BP := Lib.hid (BP.out.ext hg)
 have BQ := Lib.hid (BQ.out.ext hg)
 have HPA := Lib.hid (HPA.out.below hg)
 have HNS := Lib.hid (HNS.out.below hg)
 clear hg
 obtain ⟨X4, hX4⟩ : ∃ X, V2.alloc (.cells #[.int .i64 rr.lo, .int .i64 rr.hi] 33) = X := ⟨_, rfl⟩
 have hg : Below V2.heap.size V2 X4 := by rw [← hX4]; exact one_more _ _
 have BA := Lib.hid (show Blk X4 V2.heap.size 33 #[.int .i64 rr.lo, .int .i64 rr.hi] by rw [← hX4]; exact Blk.new _ _ _)
 rw [hX4]
 clear hX4
 have G4 := Lib.hid (G3.out.trans (hg.mono G3.out.size))
 have BP := Lib.hid (BP.out.ext hg)
 have BQ := Lib.hid (BQ.out.ext hg)
 have HPA := Lib.hid (HPA.out.below hg)
 have HNS := Lib.hid (HNS.out.below hg)
 clear hg
 have k0 := BP.out.cell 0
 have k1 := BP.out.cell 1
 have k2 := BP.out.cell 2
 have k3 := BP.out.cell 3
 have k4 := BP.out.cell 4
 have k5 := BP.out.cell 5
 have h0 := BQ.out.cell 0
 have h1 := BQ.out.cell 1
 have h2 := BQ.out.cell 2
 have h3 := BQ.out.cell 3
 have h4 := BQ.out.cell 4
 go_upto_region 4 with (go_at_call 56; (with_reducible refine (T2.out _ HPA.out).mono ?_); rintro e V3 ⟨rfl, hg⟩)
 clear k0 k1 k2 k3 k4 k5 h0 h1 h2 h3 h4
 have G5 := Lib.hid (G4.out.trans (hg.mono G4.out.size))
 have BP := Lib.hid (BP.out.ext hg)
 have BQ := Lib.hid (BQ.out.ext hg)
 have BA := Lib.hid (BA.out.ext hg)
 have HPA := Lib.hid (HPA.out.below hg)
 have HNS := Lib.hid (HNS.out.below hg)
 clear hg
 obtain ⟨X6, hX6⟩ : ∃ X, V3.alloc (.cells #[.int .i64 rr.lo, .int .i64 rr.hi] 33) = X := ⟨_, rfl⟩
 have hg : Below V3.heap.size V3 X6 := by rw [← hX6]; exact one_more _ _
 have BB := Lib.hid (show Blk X6 V3.heap.size 33 #[.int .i64 rr.lo, .int .i64 rr.hi] by rw [← hX6]; exact Blk.new _ _ _)
 rw [hX6]
 clear hX6
 have G6 := Lib.hid (G5.out.trans (hg.mono G5.out.size))
 have BP := Lib.hid (BP.out.ext hg)
 have BQ := Lib.hid (BQ.out.ext hg)
 have BA := Lib.hid (BA.out.ext hg)
 have HPA := Lib.hid (HPA.out.below hg)
 have HNS := Lib.hid (HNS.out.below hg)
 clear hg
 have k0 := BP.out.cell 0
 have k1 := BP.out.cell 1
 have k2 := BP.out.cell 2
 have k3 := BP.out.cell 3
 have k4 := BP.out.cell 4
 have k5 := BP.out.cell 5
 have h0 := BQ.out.cell 0
 have h1 := BQ.out.cell 1
 have h2 := BQ.out.cell 2
 have h3 := BQ.out.cell 3
 have h4 := BQ.out.cell 4
 go_upto_region 5 with (go_at_call 55; (with_reducible refine (T3.out _ HPA.out).mono ?_); rintro e V4 ⟨rfl, hg⟩)
 clear k0 k1 k2 k3 k4 k5 h0 h1 h2 h3 h4
 have G7 := Lib.hid (G6.out.trans (hg.mono G6.out.size))
 have BP := Lib.hid (BP.out.ext hg)
 have BQ := Lib.hid (BQ.out.ext hg)
 have BA := Lib.hid (BA.out.ext hg)
 have BB := Lib.hid (BB.out.ext hg)
 have HPA := Lib.hid (HPA.out.below hg)
 have HNS := Lib.hid (HNS.out.below hg)
 clear hg
 obtain ⟨X8, hX8⟩ : ∃ X, V4.alloc (.cells #[.int .i64 cr.lo, .int .i64 cr.hi] 33) = X := ⟨_, rfl⟩
 have hg : Below V4.heap.size V4 X8 := by rw [← hX8]; exact one_more _ _
 have BC := Lib.hid (show Blk X8 V4.heap.size 33 #[.int .i64 cr.lo, .int .i64 cr.hi] by rw [← hX8]; exact Blk.new _ _ _)
 rw [hX8]
 clear hX8
 have G8 := Lib.hid (G7.out.trans (hg.mono G7.out.size))
 have BP := Lib.hid (BP.out.ext hg)
 have BQ := Lib.hid (BQ.out.ext hg)
 have BA := Lib.hid (BA.out.ext hg)
 have BB := Lib.hid (BB.out.ext hg)
 have HPA := Lib.hid (HPA.out.below hg)
 have HNS := Lib.hid (HNS.out.below hg)
 clear hg
 have k0 := BP.out.cell 0
 have k1 := BP.out.cell 1
 have k2 := BP.out.cell 2
 have k3 := BP.out.cell 3
 have k4 := BP.out.cell 4
 have k5 := BP.out.cell 5
 have h0 := BQ.out.cell 0
 have h1 := BQ.out.cell 1
 have h2 := BQ.out.cell 2
 have h3 := BQ.out.cell 3
 have h4 := BQ.out.cell 4
 go_upto_region 6 with (go_at_call 57; (with_reducible refine (T4.out _ HPA.out).mono ?_); rintro e V5 ⟨rfl, hg⟩)
 clear k0 k1 k2 k3 k4 k5 h0 h1 h2 h3 h4
 have G9 := Lib.hid (G8.out.trans (hg.mono G8.out.size))
 have BP := Lib.hid (BP.out.ext hg)
 have BQ := Lib.hid (BQ.out.ext hg)
 have BA := Lib.hid (BA.out.ext hg)
 have BB := Lib.hid (BB.out.ext hg)
 have BC := Lib.hid (BC.out.ext hg)
 have HPA := Lib.hid (HPA.out.below hg)
 have HNS := Lib.hid (HNS.out.below hg)
 clear hg
 obtain ⟨X10, hX10⟩ : ∃ X, V5.alloc (.cells #[.int .i64 cr.lo, .int .i64 cr.hi] 33) = X := ⟨_, rfl⟩
 have hg : Below V5.heap.size V5 X10 := by rw [← hX10]; exact one_more _ _
 have BD := Lib.hid (show Blk X10 V5.heap.size 33 #[.int .i64 cr.lo, .int .i64 cr.hi] by rw [← hX10]; exact Blk.new _ _ _)
 rw [hX10]
 clear hX10
 have G10 := Lib.hid (G9.out.trans (hg.mono G9.out.size))
 have BP := Lib.hid (BP.out.ext hg)
 have BQ := Lib.hid (BQ.out.ext hg)
 have BA := Lib.hid (BA.out.ext hg)
 have BB := Lib.hid (BB.out.ext hg)
 have BC := Lib.hid (BC.out.ext hg)
 have HPA := Lib.hid (HPA.out.below hg)
 have HNS := Lib.hid (HNS.out.below hg)
 clear hg
 have k0 := BP.out.cell 0
 have k1 := BP.out.cell 1
 have k2 := BP.out.cell 2
 have k3 := BP.out.cell 3
 have k4 := BP.out.cell 4
 have k5 := BP.out.cell 5
 have h0 := BQ.out.cell 0
 have h1 := BQ.out.cell 1
 have h2 := BQ.out.cell 2
 have h3 := BQ.out.cell 3
 have h4 := BQ.out.cell 4
 go_upto_region 7 with (go_at_call 19; (with_reducible refine (T5.out _ HPA.out HNS.out).mono ?_); rintro e V6 ⟨rfl, hg⟩)
 clear k0 k1 k2 k3 k4 k5 h0 h1 h2 h3 h4
 have G11 := Lib.hid (G10.out.trans (hg.mono G10.out.size))
 have BP := Lib.hid (BP.out.ext hg)
 have BQ := Lib.hid (BQ.out.ext hg)
 have BA := Lib.hid (BA.out.ext hg)
 have BB := Lib.hid (BB.out.ext hg)
 have BC := Lib.hid (BC.out.ext hg)
 have BD := Lib.hid (BD.out.ext hg)
 have HPA := Lib.hid (HPA.out.below hg)
 have HNS := Lib.hid (HNS.out.below hg)
 clear hg
 have k0 := BP.out.cell 0
 have k1 := BP.out.cell 1
 have k2 := BP.out.cell 2
 have k3 := BP.out.cell 3
 have k4 := BP.out.cell 4
 have k5 := BP.out.cell 5
 have h0 := BQ.out.cell 0
 have h1 := BQ.out.cell 1
 have h2 := BQ.out.cell 2
 have h3 := BQ.out.cell 3
 have h4 := BQ.out.cell 4
 go_upto_region 8 with (go_at_call 58; (with_reducible refine (T6.out _ HPA.out HNS.out).mono ?_); rintro e V7 ⟨rfl, hg⟩)
 clear k0 k1 k2 k3 k4 k5 h0 h1 h2 h3 h4
 have G12 := Lib.hid (G11.out.trans (hg.mono G11.out.size))
 have BP := Lib.hid (BP.out.ext hg)
 have BQ := Lib.hid (BQ.out.ext hg)
 have BA := Lib.hid (BA.out.ext hg)
 have BB := Lib.hid (BB.out.ext hg)
 have BC := Lib.hid (BC.out.ext hg)
 have BD := Lib.hid (BD.out.ext hg)
 have HPA := Lib.hid (HPA.out.below hg)
 have HNS := Lib.hid (HNS.out.below hg)
 clear hg
 have k0 := cellW (BP.out.cell 0)
 have k1 := cellW (BP.out.cell 1)
 have k2 := cellW (BP.out.cell 2)
 have k3 := cellW (BP.out.cell 3)
 have k4 := cellW (BP.out.cell 4)
 have k5 := cellW (BP.out.cell 5)
 have h0 := cellW (BQ.out.cell 0)
 have h1 := cellW (BQ.out.cell 1)
 have h4 := cellW (BQ.out.cell 4)
 have a0 := cellW (BA.out.cell 0)
 have a1 := cellW (BA.out.cell 1)
 have b0 := cellW (BB.out.cell 0)
 have b1 := cellW (BB.out.cell 1)
 have c0 := cellW (BC.out.cell 0)
 have c1 := cellW (BC.out.cell 1)
 have d0 := cellW (BD.out.cell 0)
 have d1 := cellW (BD.out.cell 1)
 have hn1 := neqRg_same rr
 have hn2 := neqRg_same cr
 have C7 := Lib.hid (fun (X : Wd V7) => T7.out X.val (HPA.out.below X.ok) (HNS.out.below X.ok))
 have C8 := Lib.hid (fun (X : Wd V7) => T8.out X.val (HPA.out.below X.ok) (HNS.out.below X.ok))
 refine wp_region_calm V7 (by kernel_rfl) (by kernel_rfl) (Below.refl _ _) ?_
 repeat (go_big_quiet_step (first | (go_at_call 21; exact callsCalm (C7.out _)) | (go_at_call 59; exact callsCalm (C8.out _))))
 refine wpQuiet_nil ?_
 rintro _ ⟨z, rfl⟩
 obtain ⟨V8, hV8⟩ : ∃ V8, z.val = V8 := ⟨_, rfl⟩
 have hg := z.ok
 rw [hV8] at hg ⊢
 clear hV8 z k0 k1 k2 k3 k4 k5 h0 h1 h4 a0 a1 b0 b1 c0 c1 d0 d1 hn1 hn2 C7 C8
 have G13 := Lib.hid (G12.out.trans (hg.mono G12.out.size))
 have BP := Lib.hid (BP.out.ext hg)
 have BQ := Lib.hid (BQ.out.ext hg)
 have BA := Lib.hid (BA.out.ext hg)
 have BB := Lib.hid (BB.out.ext hg)
 have BC := Lib.hid (BC.out.ext hg)
 have BD := Lib.hid (BD.out.ext hg)
 have HPA := Lib.hid (HPA.out.below hg)
 have HNS := Lib.hid (HNS.out.below hg)
 clear hg
 have HGZ := Lib.hid (Below.refl V8.heap.size V8)
 go_wp2_with fail
 go_loopw [18] (fun i wr => ∃ j : Nat, j ≤ 2 ∧ i = .int .i64 j ∧ Below V8.heap.size V8 wr) (fun i _ => 2 - (intOf i).toNat)
 case atStart => exact ⟨0, by omega, rfl, HGZ.out⟩
 case round =>
  obtain ⟨j, hj, rfl, hg⟩ := hrel
  obtain ⟨wo, rfl⟩ : ∃ wo : World, wo = wr := ⟨_, rfl⟩
  have HG := Lib.hid hg
  have BP := Lib.hid (BP.out.ext hg)
  have BQ := Lib.hid (BQ.out.ext hg)
  have BB := Lib.hid (BB.out.ext hg)
  have HPA := Lib.hid (HPA.out.below hg)
  clear hg HNS BA BC BD
  by_cases hj2 : j < 2
  ·have HGW := Lib.hid (G13.out.trans (HG.out.mono G13.out.size))
   by_cases hz : ae = 0
   ·subst hz
    have HAL1 := Lib.hid (HAL.out rfl)
    by_cases hj0 : j = 0
    ·subst hj0
     have HT9 := Lib.hid (T9.out wo false HPA.out)
     have HAL2 := Lib.hid (HAL1.out false)
     have HTA := Lib.hid (fun X D m d h hi hm => TA.out X false D m d h (by first | rfl | trivial) hi hm)
     have HE1 := Lib.hid (HEND.out false)
     obtain ⟨sv, hsv⟩ : ∃ s, (attS p hour known false).getD 0 0 = s := ⟨_, rfl⟩
     obtain ⟨pc, hpc⟩ : ∃ s, pickC p known (attS p hour known false) = s := ⟨_, rfl⟩
     rw [hsv, hpc] at HAL2 HTA HE1
     obtain ⟨xv, hxv⟩ : ∃ s, leftV p hour known sv pc = s := ⟨_, rfl⟩
     rw [HAL2.out.1, hxv] at HTA
     have hx : xv = rr.lo := by rw [← hxv, HAL2.out.2]; rfl
     subst hx
     clear hsv hpc hxv HAL2
     obtain ⟨ml, hml⟩ : ∃ s, pc.length = s := ⟨_, rfl⟩
     have HML := Lib.hid hml
     clear hml
     have k0 := BP.out.cell 0
     have k1 := BP.out.cell 1
     have k2 := BP.out.cell 2
     have k3 := BP.out.cell 3
     have k4 := BP.out.cell 4
     have k5 := BP.out.cell 5
     have h0 := BQ.out.cell 0
     have h1 := BQ.out.cell 1
     have h2 := BQ.out.cell 2
     have h3 := BQ.out.cell 3
     have h4 := BQ.out.cell 4
     go_upto_region 14 with (go_at_call 22; (with_reducible refine (HT9.out).mono ?_); rintro e V9 hend; obtain ⟨⟨sv', v, rfl, ho, -⟩, hg⟩ := (HE1.out _ _ _).1 hend; obtain ⟨rfl, hoo⟩ := ho rfl; have HG9 := Lib.hid hg; obtain ⟨D, d, hve, hm1, hm2, hal, -⟩ := OwnL.arr kdI hoo; rw [HML.out] at hve hal hm1; subst hve; have HAR := Lib.hid hal; have HMD := Lib.hid (show ml ≤ 9223372036854775807 by unfold maxLen at hm2; omega); clear hend hg ho hoo hal hm1 hm2)
     clear k0 k1 k2 k3 k4 k5 h0 h1 h2 h3 h4
     obtain ⟨X9, hX9⟩ : ∃ X, V9.alloc (.cells #[.int .i64 sv', .slice D ml d] 41) = X := ⟨_, rfl⟩
     have g9 : Below V9.heap.size V9 X9 := by rw [← hX9]; exact one_more _ _
     have BT := Lib.hid (show Blk X9 V9.heap.size 41 #[.int .i64 sv', .slice D ml d] by rw [← hX9]; exact Blk.new _ _ _)
     have GX := Lib.hid (HG9.out.trans (g9.mono HG9.out.size))
     have HAR := Lib.hid (HAR.out.below g9)
     rw [hX9]
     clear hX9 g9
     have BP := Lib.hid (BP.out.ext GX.out)
     have BQ := Lib.hid (BQ.out.ext GX.out)
     have HTB := Lib.hid (HTA.out X9 D ml d (HPA.out.below GX.out) HAR.out HMD.out)
     have k0 := BP.out.cell 0
     have k1 := BP.out.cell 1
     have k2 := BP.out.cell 2
     have k3 := BP.out.cell 3
     have k4 := BP.out.cell 4
     have k5 := BP.out.cell 5
     have h0 := BQ.out.cell 0
     have h1 := BQ.out.cell 1
     have h2 := BQ.out.cell 2
     have h3 := BQ.out.cell 3
     have h4 := BQ.out.cell 4
     have t0 := BT.out.cell 0
     have t1 := BT.out.cell 1
     go_upto_region 20 with (go_at_call 58; (with_reducible refine (HTB.out).mono ?_); rintro e V10 ⟨rfl, hg⟩; have HG10 := Lib.hid hg; clear hg)
     clear k0 k1 k2 k3 k4 k5 h0 h1 h2 h3 h4
     clear t0 t1
     have GY := Lib.hid (GX.out.trans (HG10.out.mono GX.out.size))
     have q0 := (BB.out.ext GY.out).cell 0
     have q1 := (BB.out.ext GY.out).cell 1
     go_wp2_with fail
     go_roundw
     case rel => exact ⟨0 + 1, by omega, by first | rfl | go_num, HG.out.trans (GY.out.mono HG.out.size)⟩
     case measure => simp [intOf]
    ·obtain rfl : j = 1 := by omega
     have HT9 := Lib.hid (T9.out wo true HPA.out)
     have HAL2 := Lib.hid (HAL1.out true)
     have HTA := Lib.hid (fun X D m d h hi hm => TA.out X true D m d h (by first | rfl | trivial) hi hm)
     have HE1 := Lib.hid (HEND.out true)
     obtain ⟨sv, hsv⟩ : ∃ s, (attS p hour known true).getD 0 0 = s := ⟨_, rfl⟩
     obtain ⟨pc, hpc⟩ : ∃ s, pickC p known (attS p hour known true) = s := ⟨_, rfl⟩
     rw [hsv, hpc] at HAL2 HTA HE1
     obtain ⟨xv, hxv⟩ : ∃ s, leftV p hour known sv pc = s := ⟨_, rfl⟩
     rw [HAL2.out.1, hxv] at HTA
     have hx : xv = rr.hi := by rw [← hxv, HAL2.out.2]; rfl
     subst hx
     clear hsv hpc hxv HAL2
     obtain ⟨ml, hml⟩ : ∃ s, pc.length = s := ⟨_, rfl⟩
     have HML := Lib.hid hml
     clear hml
     have k0 := BP.out.cell 0
     have k1 := BP.out.cell 1
     have k2 := BP.out.cell 2
     have k3 := BP.out.cell 3
     have k4 := BP.out.cell 4
     have k5 := BP.out.cell 5
     have h0 := BQ.out.cell 0
     have h1 := BQ.out.cell 1
     have h2 := BQ.out.cell 2
     have h3 := BQ.out.cell 3
     have h4 := BQ.out.cell 4
     go_upto_region 14 with (go_at_call 22; (with_reducible refine (HT9.out).mono ?_); rintro e V9 hend; obtain ⟨⟨sv', v, rfl, ho, -⟩, hg⟩ := (HE1.out _ _ _).1 hend; obtain ⟨rfl, hoo⟩ := ho rfl; have HG9 := Lib.hid hg; obtain ⟨D, d, hve, hm1, hm2, hal, -⟩ := OwnL.arr kdI hoo; rw [HML.out] at hve hal hm1; subst hve; have HAR := Lib.hid hal; have HMD := Lib.hid (show ml ≤ 9223372036854775807 by unfold maxLen at hm2; omega); clear hend hg ho hoo hal hm1 hm2)
     clear k0 k1 k2 k3 k4 k5 h0 h1 h2 h3 h4
     obtain ⟨X9, hX9⟩ : ∃ X, V9.alloc (.cells #[.int .i64 sv', .slice D ml d] 41) = X := ⟨_, rfl⟩
     have g9 : Below V9.heap.size V9 X9 := by rw [← hX9]; exact one_more _ _
     have BT := Lib.hid (show Blk X9 V9.heap.size 41 #[.int .i64 sv', .slice D ml d] by rw [← hX9]; exact Blk.new _ _ _)
     have GX := Lib.hid (HG9.out.trans (g9.mono HG9.out.size))
     have HAR := Lib.hid (HAR.out.below g9)
     rw [hX9]
     clear hX9 g9
     have BP := Lib.hid (BP.out.ext GX.out)
     have BQ := Lib.hid (BQ.out.ext GX.out)
     have HTB := Lib.hid (HTA.out X9 D ml d (HPA.out.below GX.out) HAR.out HMD.out)
     have k0 := BP.out.cell 0
     have k1 := BP.out.cell 1
     have k2 := BP.out.cell 2
     have k3 := BP.out.cell 3
     have k4 := BP.out.cell 4
     have k5 := BP.out.cell 5
     have h0 := BQ.out.cell 0
     have h1 := BQ.out.cell 1
     have h2 := BQ.out.cell 2
     have h3 := BQ.out.cell 3
     have h4 := BQ.out.cell 4
     have t0 := BT.out.cell 0
     have t1 := BT.out.cell 1
     go_upto_region 20 with (go_at_call 58; (with_reducible refine (HTB.out).mono ?_); rintro e V10 ⟨rfl, hg⟩; have HG10 := Lib.hid hg; clear hg)
     clear k0 k1 k2 k3 k4 k5 h0 h1 h2 h3 h4
     clear t0 t1
     have GY := Lib.hid (GX.out.trans (HG10.out.mono GX.out.size))
     have q0 := (BB.out.ext GY.out).cell 0
     have q1 := (BB.out.ext GY.out).cell 1
     go_wp2_with fail
     go_roundw
     case rel => exact ⟨1 + 1, by omega, by first | rfl | go_num, HG.out.trans (GY.out.mono HG.out.size)⟩
     case measure => simp [intOf]
   ·have hzn : (ae != 0) = true := by simpa using hz
    have HZ := Lib.hid hz
    clear hz
    by_cases hj0 : j = 0
    ·subst hj0
     have HT9 := Lib.hid (T9.out wo false HPA.out)
     have k0 := BP.out.cell 0
     have k1 := BP.out.cell 1
     have k2 := BP.out.cell 2
     have k3 := BP.out.cell 3
     have k4 := BP.out.cell 4
     have k5 := BP.out.cell 5
     have h0 := BQ.out.cell 0
     have h1 := BQ.out.cell 1
     have h2 := BQ.out.cell 2
     have h3 := BQ.out.cell 3
     have h4 := BQ.out.cell 4
     go_upto_region 14 with (go_at_call 22; (with_reducible refine (HT9.out).mono ?_); rintro e V9 hend; obtain ⟨⟨sv, v, rfl, -, ho⟩, hg⟩ := (HEND.out _ _ _ _).1 hend; obtain ⟨rfl, rfl⟩ := ho HZ.out; have HG9 := Lib.hid hg; clear hend hg ho)
     clear k0 k1 k2 k3 k4 k5 h0 h1 h2 h3 h4
     obtain ⟨X9, hX9⟩ : ∃ X, V9.alloc (.cells #[.int .i64 0, .slice none 0 0] 41) = X := ⟨_, rfl⟩
     have g9 : Below V9.heap.size V9 X9 := by rw [← hX9]; exact one_more _ _
     have BT := Lib.hid (show Blk X9 V9.heap.size 41 #[.int .i64 0, .slice none 0 0] by rw [← hX9]; exact Blk.new _ _ _)
     have GX := Lib.hid (HG9.out.trans (g9.mono HG9.out.size))
     rw [hX9]
     clear hX9 g9
     have t0 := BT.out.cell 0
     have t1 := BT.out.cell 1
     go_wp2_with fail
     go_roundw
     case rel => exact ⟨0 + 1, by omega, by first | rfl | go_num, HG.out.trans (GX.out.mono HG.out.size)⟩
     case measure => simp [intOf]
    ·obtain rfl : j = 1 := by omega
     have HT9 := Lib.hid (T9.out wo true HPA.out)
     have k0 := BP.out.cell 0
     have k1 := BP.out.cell 1
     have k2 := BP.out.cell 2
     have k3 := BP.out.cell 3
     have k4 := BP.out.cell 4
     have k5 := BP.out.cell 5
     have h0 := BQ.out.cell 0
     have h1 := BQ.out.cell 1
     have h2 := BQ.out.cell 2
     have h3 := BQ.out.cell 3
     have h4 := BQ.out.cell 4
     go_upto_region 14 with (go_at_call 22; (with_reducible refine (HT9.out).mono ?_); rintro e V9 hend; obtain ⟨⟨sv, v, rfl, -, ho⟩, hg⟩ := (HEND.out _ _ _ _).1 hend; obtain ⟨rfl, rfl⟩ := ho HZ.out; have HG9 := Lib.hid hg; clear hend hg ho)
     clear k0 k1 k2 k3 k4 k5 h0 h1 h2 h3 h4
     obtain ⟨X9, hX9⟩ : ∃ X, V9.alloc (.cells #[.int .i64 0, .slice none 0 0] 41) = X := ⟨_, rfl⟩
     have g9 : Below V9.heap.size V9 X9 := by rw [← hX9]; exact one_more _ _
     have BT := Lib.hid (show Blk X9 V9.heap.size 41 #[.int .i64 0, .slice none 0 0] by rw [← hX9]; exact Blk.new _ _ _)
     have GX := Lib.hid (HG9.out.trans (g9.mono HG9.out.size))
     rw [hX9]
     clear hX9 g9
     have t0 := BT.out.cell 0
     have t1 := BT.out.cell 1
     go_wp2_with fail
     go_roundw
     case rel => exact ⟨1 + 1, by omega, by first | rfl | go_num, HG.out.trans (GX.out.mono HG.out.size)⟩
     case measure => simp [intOf]
  ·obtain rfl : j = 2 := by omega
   go_wp2_with fail
   go_ret
   exact ⟨rfl, G13.out.trans (HG.out.mono G13.out.size)⟩
end Go.Proofs.YtkoejeghihcmlaaGreat
