/- Part of the proof: WF, VB, UY. -/
import Derived.Test.YtkoejeghihcmlaaGreatZA7
import Derived.Test.YtkoejeghihcmlaaGreatZB0
namespace Go.Proofs.YtkoejeghihcmlaaGreat
open Go.RowKit Go.Shelf
theorem true_pos {p : Pl} {h known : Int} {s : List Int} (ha : askE p [h] known = 0) (ht : Tru (lookL p known every) (lookS p known every) s) {i : Nat} (hi : i ≤ (lookL p known every).length) : 0 ≤ s.getD i 0 :=
 (look_rw (ask_parts ha).1 (ask_parts ha).2.1).low ht hi
def trulyV (p : Pl) (known hour : Int) (s : List Int) : Bool := openB p known hour (clrFrom (lookL p known every) s)
theorem from_mem {p : Pl} {h known : Int} {s : List Int} (ha : askE p [h] known = 0) (ht : Tru (lookL p known every) (lookS p known every) s) : clrFrom (lookL p known every) s ∈ fromsP p known :=
 (look_rw (ask_parts ha).1 (ask_parts ha).2.1).mem_froms.2 ⟨s, ht, rfl⟩
theorem hour_of {p : Pl} {hour known : Int} (h : askE p [hour] known = 0) : 0 ≤ hour ∧ hour ≤ 99999 := by
 have := (ask_parts h).2.2.1
 simp only [List.any_cons, List.any_nil, Bool.or_false] at this
 unfold noHour at this
 rw [Bool.not_eq_false'] at this
 exact rng_iff.1 this
end Go.Proofs.YtkoejeghihcmlaaGreat

namespace Go.Proofs.YtkoejeghihcmlaaGreat
open Go.RowKit Go.Shelf
theorem shutB_bell (p : Pl) (known hour : Int) : shutB p known hour = (!rng (hour % 24) 8 18 || p.spells.any (inSpell known hour)) := by
 unfold shutB
 congr 1
 unfold rng
 rw [Bool.eq_iff_iff]
 simp only [Bool.or_eq_true, decide_eq_true_eq, Bool.not_eq_true', Bool.and_eq_false_iff, decide_eq_false_iff_not]
 omega
theorem any_take {l : List Six} {q : Six → Bool} {k : Nat} (hk : k < l.length) (h : (l.take k).any q = false) (hq : q (l.getD k z6) = false) : (l.take (k + 1)).any q = false := by
 rw [List.take_succ_eq_append_getElem hk, List.any_append, h]
 rw [six_get hk] at hq
 simp [hq]
theorem any_yes {l : List Six} {q : Six → Bool} {k : Nat} (hk : k < l.length) (hq : q (l.getD k z6) = true) : l.any q = true :=
 List.any_eq_true.2 ⟨_, getD_mem hk, hq⟩
set_option maxRecDepth 100000 in
set_option maxHeartbeats 4000000 in
theorem refShutB_any (p : Pl) (A1 A2 A3 : Option Addr) (n1 c1 n2 c2 n3 c3 : Nat) (hour known : Int) (w : World) (hp : Pa w p A1 A2 A3 n1 c1 n2 c2 n3 c3) (h0 : 0 ≤ hour) (h1 : hour ≤ 99999) :
  Calls Tryz.prog 119 #[plv p A1 A2 A3 n1 c1 n2 c2 n3 c3, .int .i64 hour, .int .i64 known] w fun e w' => e = .returned (.bool (shutB p known hour)) ∧ Below w.heap.size w w' := by
 obtain ⟨W0, hW0⟩ : ∃ W0, w.alloc (.cells (plb p A1 A2 A3 n1 c1 n2 c2 n3 c3) 38) = W0 := ⟨_, rfl⟩
 have g0 : Below w.heap.size w W0 := by rw [← hW0]; exact one_more _ _
 have b0 : Blk W0 w.heap.size 38 (plb p A1 A2 A3 n1 c1 n2 c2 n3 c3) := by rw [← hW0]; exact Blk.new _ _ _
 have HL3 := Lib.hid (hp.l3.below g0)
 have HM := Lib.hid hp.m3
 have GA := Lib.hid g0
 have HB0 := Lib.hid b0
 have HW0 := Lib.hid hW0
 have HSB := Lib.hid (shutB_bell p known hour)
 have T1 := fun V => in_any (hour % 24) 8 18 V
 obtain ⟨sb, hsb⟩ : ∃ s, shutB p known hour = s := ⟨_, rfl⟩
 rw [hsb] at HSB
 rw [hsb]
 obtain ⟨bl, hbl⟩ : ∃ b, rng (hour % 24) 8 18 = b := ⟨_, rfl⟩
 rw [hbl] at HSB T1
 have HT1 := Lib.hid T1
 have q3 := b0.cell 4
 clear hp g0 b0 hW0 hsb hbl T1
 cases bl with
 | false =>
  have HR := Lib.hid (show sb = true by rw [HSB.out]; rfl)
  go_enter Tryz.func119, Tryz.ntmps119
  go_upto_region 1 with fail
  rw [HW0.out]
  go_wp2_with (go_at_call 131; (with_reducible refine (HT1.out _).mono ?_); rintro e w' ⟨rfl, rfl⟩)
  go_ret
  exact ⟨by rw [HR.out]; rfl, GA.out⟩
 | true =>
  have HS2 := Lib.hid (show sb = p.spells.any (inSpell known hour) by rw [HSB.out]; rfl)
  have HGZ := Lib.hid (Below.refl W0.heap.size W0)
  have hn3 : n3 ≤ 9223372036854775807 := HM.out.2
  clear HSB
  go_enter Tryz.func119, Tryz.ntmps119
  go_upto_region 1 with fail
  rw [HW0.out]
  go_wp2_with (go_at_call 131; (with_reducible refine (HT1.out _).mono ?_); rintro e w' ⟨rfl, rfl⟩)
  go_loopw [7] (fun i wr => ∃ k : Nat, k ≤ n3 ∧ i = .int .i64 k ∧ Below W0.heap.size W0 wr ∧ (p.spells.take k).any (inSpell known hour) = false) (fun i _ => n3 - (intOf i).toNat)
  case atStart => exact ⟨0, Nat.zero_le _, rfl, HGZ.out, by simp⟩
  case round =>
   obtain ⟨k, hk, rfl, hg, hno⟩ := hrel
   obtain ⟨V, rfl⟩ : ∃ V : World, V = wr := ⟨_, rfl⟩
   have HG := Lib.hid hg
   have HNO := Lib.hid hno
   have q3 := (HB0.out.ext hg).cell 4
   by_cases hkn : k < n3
   ·obtain ⟨b8, o8, e8, hlt8, -, hc8⟩ := six_at (HL3.out.below hg) hkn
    have HLN := Lib.hid (show k < p.spells.length by rw [HL3.out.1]; exact hkn)
    obtain ⟨y, hyg⟩ : ∃ y, p.spells.getD k z6 = y := ⟨_, rfl⟩
    rw [hyg] at hc8
    obtain ⟨x0, x1, x2, x3, x4, x5⟩ := hc8 _ (Below.refl _ _)
    have htd : (k : Int) < (n3 : Int) := by omega
    subst e8
    have HY := Lib.hid hyg
    have HI := Lib.hid (show inSpell known hour y = (cnt y known && rng hour y.c y.d) from rfl)
    have C1 := fun V => refCnt_any y known V
    have C2 := fun V => in_any hour y.c y.d V
    obtain ⟨cb, hcb⟩ : ∃ b, cnt y known = b := ⟨_, rfl⟩
    obtain ⟨rb, hrb⟩ : ∃ b, rng hour y.c y.d = b := ⟨_, rfl⟩
    rw [hcb] at C1 HI
    rw [hrb] at C2 HI
    have HC1 := Lib.hid C1
    have HC2 := Lib.hid C2
    clear C1 C2 hcb hrb hc8 hyg hg hno
    cases cb with
    | false =>
     have HN2 := Lib.hid (any_take HLN.out HNO.out (by rw [HY.out, HI.out]; rfl))
     go_wp2_with (go_at_call 183; (with_reducible refine (HC1.out _).mono ?_); rintro e w' ⟨rfl, rfl⟩)
     go_roundw
     case rel => exact ⟨k + 1, by omega, by go_num, HG.out.trans ((one_more _ _).mono HG.out.size), HN2.out⟩
     case measure => simp [intOf]; omega
    | true =>
     cases rb with
     | false =>
      have HN2 := Lib.hid (any_take HLN.out HNO.out (by rw [HY.out, HI.out]; rfl))
      go_wp2_with (first | (go_at_call 183; (with_reducible refine (HC1.out _).mono ?_); rintro e w' ⟨rfl, rfl⟩) | (go_at_call 131; (with_reducible refine (HC2.out _).mono ?_); rintro e w' ⟨rfl, rfl⟩))
      go_roundw
      case rel => exact ⟨k + 1, by omega, by go_num, HG.out.trans ((one_more _ _).mono HG.out.size), HN2.out⟩
      case measure => simp [intOf]; omega
     | true =>
      have HR := Lib.hid (show sb = true by rw [HS2.out]; exact any_yes HLN.out (by rw [HY.out, HI.out]; rfl))
      go_wp2_with (first | (go_at_call 183; (with_reducible refine (HC1.out _).mono ?_); rintro e w' ⟨rfl, rfl⟩) | (go_at_call 131; (with_reducible refine (HC2.out _).mono ?_); rintro e w' ⟨rfl, rfl⟩))
      go_ret
      exact ⟨by rw [HR.out]; rfl, GA.out.trans ((HG.out.trans ((one_more _ _).mono HG.out.size)).mono GA.out.size)⟩
   ·obtain rfl : n3 = k := by omega
    have HR := Lib.hid (show sb = false by rw [HS2.out]; have := HNO.out; rwa [List.take_of_length_le (by rw [HL3.out.1]; exact Nat.le_refl _)] at this)
    clear hg hno
    go_wp2_with fail
    go_ret
    exact ⟨by rw [HR.out]; rfl, GA.out.trans (HG.out.mono GA.out.size)⟩
set_option maxRecDepth 100000 in
set_option maxHeartbeats 4000000 in
theorem refShut_any (p : Pl) (A1 A2 A3 : Option Addr) (n1 c1 n2 c2 n3 c3 : Nat) (hour known : Int) (w : World) (hp : Pa w p A1 A2 A3 n1 c1 n2 c2 n3 c3) :
  Calls Tryz.prog 50 #[plv p A1 A2 A3 n1 c1 n2 c2 n3 c3, .int .i64 hour, .int .i64 known] w fun e w' => e = .returned (.tuple #[.bool (shutV p hour known), .int .i64 (firstE p [hour] [known])]) ∧ Below w.heap.size w w' := by
 obtain ⟨W0, hW0⟩ : ∃ W0, w.alloc (.cells (plb p A1 A2 A3 n1 c1 n2 c2 n3 c3) 38) = W0 := ⟨_, rfl⟩
 have g0 : Below w.heap.size w W0 := by rw [← hW0]; exact one_more _ _
 have b0 : Blk W0 w.heap.size 38 (plb p A1 A2 A3 n1 c1 n2 c2 n3 c3) := by rw [← hW0]; exact Blk.new _ _ _
 have T1 := refAsked_any p A1 A2 A3 n1 c1 n2 c2 n3 c3 hour known W0 (hp.below g0)
 have HSV := Lib.hid (show shutV p hour known = if firstE p [hour] [known] = 0 then shutB p known hour else false from rfl)
 have HH := Lib.hid (fun h => hour_pos (p := p) (hour := hour) (days := [known]) h)
 have HT2 := Lib.hid (fun (V : World) (g : Below W0.heap.size W0 V) (h0 : 0 ≤ hour) (h1 : hour ≤ 99999) => refShutB_any p A1 A2 A3 n1 c1 n2 c2 n3 c3 hour known V ((hp.below g0).below g) h0 h1)
 obtain ⟨fe, hfe⟩ : ∃ fe, firstE p [hour] [known] = fe := ⟨_, rfl⟩
 obtain ⟨sv', hsv⟩ : ∃ s, shutV p hour known = s := ⟨_, rfl⟩
 rw [hfe] at T1 HSV HH
 rw [hsv] at HSV
 rw [hsv, hfe]
 have HT1 := Lib.hid T1
 have GA := Lib.hid g0
 have HW0 := Lib.hid hW0
 have HB0 := Lib.hid b0
 have r0 := b0.cell 0
 have r1 := b0.cell 1
 have r2 := b0.cell 2
 have r3 := b0.cell 3
 have r4 := b0.cell 4
 have r5 := b0.cell 5
 clear T1 hp g0 b0 hW0 hfe hsv
 by_cases hz : fe = 0
 ·subst hz
  have hh := HH.out rfl
  have HR := Lib.hid (show sv' = shutB p known hour from HSV.out)
  go_enter Tryz.func50, Tryz.ntmps50
  go_upto_region 1 with fail
  rw [HW0.out]
  go_upto_region 2 with (go_at_call 101; (with_reducible refine (HT1.out).mono ?_); rintro e V ⟨rfl, hg⟩)
  have HG := Lib.hid hg
  have m0 := (HB0.out.ext hg).cell 0
  have m1 := (HB0.out.ext hg).cell 1
  have m2 := (HB0.out.ext hg).cell 2
  have m3 := (HB0.out.ext hg).cell 3
  have m4 := (HB0.out.ext hg).cell 4
  have m5 := (HB0.out.ext hg).cell 5
  have HT3 := Lib.hid (HT2.out V hg hh.1 hh.2)
  clear hg r0 r1 r2 r3 r4 r5 hh
  go_wp2_with (go_at_call 119; (with_reducible refine (HT3.out).mono ?_); rintro e V2 ⟨rfl, hg⟩)
  go_ret2
  exact ⟨by rw [HR.out]; rfl, GA.out.trans ((HG.out.trans (hg.mono HG.out.size)).mono GA.out.size)⟩
 ·have HR := Lib.hid (show sv' = false by rw [HSV.out, if_neg hz])
  have hz2 : (fe != 0) = true := by simpa using hz
  clear hz
  go_enter Tryz.func50, Tryz.ntmps50
  go_upto_region 1 with fail
  rw [HW0.out]
  go_wp2_with (go_at_call 101; (with_reducible refine (HT1.out).mono ?_); rintro e V ⟨rfl, hg⟩)
  go_ret2
  exact ⟨by rw [HR.out]; rfl, GA.out.trans (hg.mono GA.out.size)⟩
end Go.Proofs.YtkoejeghihcmlaaGreat

namespace Go.Proofs.YtkoejeghihcmlaaGreat
open Go.RowKit Go.Shelf
set_option maxRecDepth 100000 in
set_option maxHeartbeats 4000000 in
theorem refClear_any (p : Pl) (A1 A2 A3 : Option Addr) (n1 c1 n2 c2 n3 c3 : Nat) (hour known : Int) (w : World) (hp : Pa w p A1 A2 A3 n1 c1 n2 c2 n3 c3) :
  Calls Tryz.prog 48 #[plv p A1 A2 A3 n1 c1 n2 c2 n3 c3, .int .i64 hour, .int .i64 known] w fun e w' => e = .returned (.tuple #[.int .i64 (clearA p hour known), .int .i64 (askE p [hour] known)]) ∧ Below w.heap.size w w' := by
 obtain ⟨W1, hW1⟩ : ∃ W1, w.alloc (.cells (plb p A1 A2 A3 n1 c1 n2 c2 n3 c3) 38) = W1 := ⟨_, rfl⟩
 have g0 : Below w.heap.size w W1 := by rw [← hW1]; exact one_more _ _
 have b0 : Blk W1 w.heap.size 38 (plb p A1 A2 A3 n1 c1 n2 c2 n3 c3) := by rw [← hW1]; exact Blk.new _ _ _
 have T1 := refStood_any p A1 A2 A3 n1 c1 n2 c2 n3 c3 hour known W1 (hp.below g0)
 have HR := Lib.hid (show clearA p hour known = if askE p [hour] known = 0 then clearS (stoodR p hour known) else 0 by
  unfold clearA stoodR
  split <;> rfl)
 have HBD := Lib.hid (fun (h : askE p [hour] known = 0) => (⟨(stoodR_bd h).1, (stoodR_bd h).2.1⟩ : 0 ≤ (stoodR p hour known).lo ∧ (stoodR p hour known).lo ≤ (stoodR p hour known).hi))
 obtain ⟨rr, hrr⟩ : ∃ rr, clearA p hour known = rr := ⟨_, rfl⟩
 obtain ⟨rg, hrg⟩ : ∃ r, stoodR p hour known = r := ⟨_, rfl⟩
 obtain ⟨ae, hae⟩ : ∃ ae, askE p [hour] known = ae := ⟨_, rfl⟩
 rw [hae, hrg] at T1 HR HBD
 rw [hrr] at HR
 rw [hrr, hae]
 have HT1 := Lib.hid T1
 have GA := Lib.hid g0
 have HW1 := Lib.hid hW1
 have r0 := b0.cell 0
 have r1 := b0.cell 1
 have r2 := b0.cell 2
 have r3 := b0.cell 3
 have r4 := b0.cell 4
 have r5 := b0.cell 5
 clear T1 hp g0 b0 hW1 hrr hae hrg
 go_enter Tryz.func48, Tryz.ntmps48
 go_upto_region 1 with fail
 rw [HW1.out]
 go_upto_region 2 with (go_at_call 56; (with_reducible refine (HT1.out).mono ?_); rintro e V ⟨rfl, hg⟩; have HG1 := Lib.hid hg; clear hg)
 obtain ⟨V5, hV5⟩ : ∃ X, V.alloc (.cells #[.int .i64 rg.lo, .int .i64 rg.hi] 33) = X := ⟨_, rfl⟩
 have g5 : Below V.heap.size V V5 := by rw [← hV5]; exact one_more _ _
 have BN : Blk V5 V.heap.size 33 #[.int .i64 rg.lo, .int .i64 rg.hi] := by rw [← hV5]; exact Blk.new _ _ _
 have HG5 := Lib.hid (GA.out.trans ((HG1.out.trans (g5.mono HG1.out.size)).mono GA.out.size))
 have k0 := BN.cell 0
 have k1 := BN.cell 1
 rw [hV5]
 clear hV5 g5 BN r0 r1 r2 r3 r4 r5
 by_cases hz : ae = 0
 ·subst hz
  have HR2 := Lib.hid (show rr = clearS rg from HR.out)
  obtain ⟨hb1, hb2⟩ := HBD.out rfl
  by_cases h1 : rg.hi = 0
  ·have HR3 := Lib.hid (show rr = 1 by rw [HR2.out]; exact (clearS_yes hb1 hb2).2 h1)
   have e1 : (rg.hi == 0) = true := by simp [h1]
   clear h1 hb1 hb2
   go_wp2_with fail
   go_ret2
   exact ⟨by rw [HR3.out]; rfl, HG5.out⟩
  ·have e1 : (rg.hi == 0) = false := by simpa using h1
   by_cases h2 : 0 < rg.lo
   ·have HR3 := Lib.hid (show rr = 0 by rw [HR2.out]; exact (clearS_no hb1 hb2).2 (by omega))
    have e2 : decide (0 < rg.lo) = true := decide_eq_true h2
    clear h1 hb1 hb2
    go_wp2_with fail
    go_ret2
    exact ⟨by rw [HR3.out]; rfl, HG5.out⟩
   ·have HR3 := Lib.hid (show rr = 2 by rw [HR2.out]; unfold clearS ans; rw [decide_eq_true (show rg.lo = 0 by omega), decide_eq_true (show 0 < rg.hi by omega)]; rfl)
    have e2 : decide (0 < rg.lo) = false := decide_eq_false h2
    clear h1 hb1 hb2
    go_wp2_with fail
    go_ret2
    exact ⟨by rw [HR3.out]; rfl, HG5.out⟩
 ·have HR2 := Lib.hid (show rr = 0 by rw [HR.out, if_neg hz])
  have hz2 : (ae != 0) = true := by simpa using hz
  clear hz
  go_wp2_with fail
  go_ret2
  exact ⟨by rw [HR2.out]; rfl, HG5.out⟩
end Go.Proofs.YtkoejeghihcmlaaGreat
