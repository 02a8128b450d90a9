/- Part of the proof: MC, UA, UB, UC, UD. -/
import Derived.Shelf.SlSortCmp.InsertionK
import Derived.Shelf.Lay
import Derived.Ground.SlsfProg
import Derived.Shelf.SlSortCmp.KitK
import Derived.Sort.WalkB2
import Derived.Sort.WalkB12
import Derived.Deep.LoopGhost
import Derived.BigQuiet
import Derived.Test.YtkoejeghihcmlaaGreatNA0
namespace Go.Proofs.YtkoejeghihcmlaaGreat
open Go.RowKit Go.Shelf Go.Maps
set_option maxRecDepth 100000 in
set_option maxHeartbeats 8000000 in
theorem valid142_any (A : Option Addr) (n c b m : Nat) (ks : List Int) (l : List Six) (w : World) (ha : Arr scells 6 w A n l) (hn : n ≤ 9223372036854775807) (hm : m ≤ 1000000) (hs : Seen w b m ks) :
  Calls Tryz.prog 142 #[.slice A n c, .func (.func 71) #[] #[], .func (.func 143) #[] #[], .map (some b)] w fun e w' => e = .returned (.bool (okL isSpell ks l)) ∧ Fix b b w w' ∧ (okL isSpell ks l = true → Seen w' b (m + n) (ks ++ srcs l)) := by
 have HA := Lib.hid ha
 have hlen := Lib.hid ha.1
 have HS := Lib.hid hs
 have hbw := hs.lt
 have hdj : ∀ b' o', A = some ⟨b', o', none⟩ → 0 < n → b' ≠ b := fun b' o' e hn => by
  obtain ⟨b2, o2, e2, -, hc⟩ := ha.2 hn
  rw [e] at e2
  cases e2
  have hx : l[0]? = some (l.getD 0 z6) := getD_six (by rw [ha.1]; exact hn)
  have h := hc 0 _ hx 0 _ rfl
  exact hs.ne h
 have HDJ := Lib.hid hdj
 clear ha hs hdj
 go_enter Tryz.func142, Tryz.ntmps142
 go_wp2_with fail
 go_loopw [13] (fun i wr => ∃ k : Nat, k ≤ n ∧ i = .int .i64 k ∧ Fix b b w wr ∧ Seen wr b (m + k) (ks ++ srcs (l.take k)) ∧ ∀ j, j < k → okAt isSpell ks l j = true) (fun i _ => n - (intOf i).toNat)
 case atStart => exact ⟨0, Nat.zero_le _, rfl, Fix.refl _ _ _, by simpa [srcs] using HS.out, fun j hj => absurd hj (by omega)⟩
 case round =>
  obtain ⟨k, hk, rfl, hf, hse, hok⟩ := hrel
  obtain ⟨V, rfl⟩ : ∃ V : World, V = wr := ⟨_, rfl⟩
  have HF := Lib.hid hf
  have HSE := Lib.hid hse
  have HOK := Lib.hid hok
  have hkb := okAt_bound (fun x h => spell_src h) hok
  have HAV := Lib.hid (HA.out.fix hf (fun b' o' e h0 => ⟨HDJ.out b' o' e h0, HDJ.out b' o' e h0⟩))
  clear hf hse hok
  by_cases hkn : k < n
  ·obtain ⟨b0, o0, e0, hb0, hx, hc⟩ := six_at HAV.out hkn
   obtain ⟨x, hxg⟩ : ∃ x, l.getD k z6 = x := ⟨_, rfl⟩
   rw [hxg] at hx hc
   obtain ⟨x0, x1, x2, x3, x4, x5⟩ := hc V (Below.refl _ _)
   have HX := Lib.hid hx
   have HXG := Lib.hid hxg
   have HE0 := Lib.hid e0
   have hsb := HDJ.out b0 o0 e0 (by omega)
   subst e0
   clear hc hx hxg
   go_upto_region 4 with fail
   obtain ⟨V1, hV1⟩ : ∃ V1, V.alloc (.cells #[.int .i64 x.a, .int .i64 x.b, .int .i64 x.c, .int .i64 x.d, .int .i64 x.e, .int .i64 x.f] 107) = V1 := ⟨_, rfl⟩
   have g1 : Below V.heap.size V V1 := by rw [← hV1]; exact one_more _ _
   have b1 : Blk V1 V.heap.size 107 #[.int .i64 x.a, .int .i64 x.b, .int .i64 x.c, .int .i64 x.d, .int .i64 x.e, .int .i64 x.f] := by rw [← hV1]; exact Blk.new _ _ _
   rw [hV1]
   have HS1 := Lib.hid (HSE.out.ext g1)
   have hVs := HF.out.size
   have F1 := Lib.hid (HF.out.trans (Fix.of_below g1))
   have HB1 := Lib.hid b1
   have w0 := cellW (b1.cell 0)
   have w1 := cellW (b1.cell 1)
   have w2 := cellW (b1.cell 2)
   have w3 := cellW (b1.cell 3)
   have w4 := cellW (b1.cell 4)
   have w5 := cellW (b1.cell 5)
   obtain ⟨y, hy⟩ : ∃ y, l.getD (k - 1) z6 = y := ⟨_, rfl⟩
   have HY := Lib.hid (fun (h0 : 0 < k) (z : Wd V1) => (show z.val.cell? ⟨b0, o0 + (k - 1) * 6, none⟩ = some (.int .i64 y.a) ∧ z.val.cell? ⟨b0, o0 + (k - 1) * 6 + 1, none⟩ = some (.int .i64 y.b) ∧ z.val.cell? ⟨b0, o0 + (k - 1) * 6 + 2, none⟩ = some (.int .i64 y.c) ∧ z.val.cell? ⟨b0, o0 + (k - 1) * 6 + 3, none⟩ = some (.int .i64 y.d) ∧ z.val.cell? ⟨b0, o0 + (k - 1) * 6 + 4, none⟩ = some (.int .i64 y.e) ∧ z.val.cell? ⟨b0, o0 + (k - 1) * 6 + 5, none⟩ = some (.int .i64 y.f) from by
    obtain ⟨b2, o2, e2, -, -, hc2⟩ := six_at HAV.out (show k - 1 < n by omega)
    cases e2
    rw [hy] at hc2
    exact hc2 z.val (g1.trans (z.ok.mono g1.size))))
   clear hV1 x0 x1 x2 x3 x4 x5 g1 b1
   obtain ⟨iv, hiv⟩ : ∃ iv, isSpell x = iv := ⟨_, rfl⟩
   have TCK := fun W => checkSpell_any x W
   rw [hiv] at TCK
   cases iv with
   | false =>
    rw [show err false 12 = 12 from rfl] at TCK
    have HCK := Lib.hid TCK
    have HNO := Lib.hid (okL_no (is := isSpell) (ks := ks) (l := l) (k := k) (by rw [hlen.out]; exact hkn) (by unfold okAt; rw [HXG.out, hiv]; rfl))
    clear TCK hiv hy
    go_wp2_with fail
    refine wp_region_calm V1 (by kernel_rfl) (by kernel_rfl) (Below.refl _ _) ?_
    repeat (go_big_quiet_step (first | (go_at_call 71; exact callsCalm (HCK.out _)) | (go_at_call 143; exact callsCalm (spellSource_any y _)) | (go_at_call 143; exact callsCalm (spellSource_any x _))))
    refine wpQuiet_nil ?_
    rintro _ ⟨z, rfl⟩
    go_wp2_with fail
    go_ret
    exact ⟨ret_bool HNO.out.symm, F1.out.trans (Fix.of_below z.ok), fun h => by rw [HNO.out] at h; cases h⟩
   | true =>
    rw [show err true 12 = 0 from rfl] at TCK
    have HCK := Lib.hid TCK
    have hxa : 1 ≤ x.a ∧ x.a ≤ 99999 := by
     unfold isSpell rng at hiv
     simp only [Bool.and_eq_true, decide_eq_true_eq] at hiv
     omega
    have hlk : ∀ z : Wd V1, (Instr.lookup 213 (.map (some b)) (.int .i64 x.a) false).run Tryz.prog z.val = .ok (.bool ((ks ++ srcs (l.take k)).contains x.a)) z.val := fun z => (HS1.out.ext z.ok).look (by omega) (by omega)
    obtain ⟨sn, hsn⟩ : ∃ sn, (ks ++ srcs (l.take k)).contains x.a = sn := ⟨_, rfl⟩
    rw [hsn] at hlk
    by_cases hk0 : k = 0
    ·have e1 : decide ((0 : Int) < (k : Int)) = false := decide_eq_false (by omega)
     have e2 : decide (0 < k) = false := decide_eq_false (by omega)
     cases sn with
     | true =>
      have HNO := Lib.hid (okL_no (is := isSpell) (ks := ks) (l := l) (k := k) (by rw [hlen.out]; exact hkn) (by unfold okAt; rw [HXG.out, hiv, hsn]; simp))
      clear TCK hiv hy hsn hk0
      go_wp2_with fail
      refine wp_region_calm V1 (by kernel_rfl) (by kernel_rfl) (Below.refl _ _) ?_
      repeat (go_big_quiet_step (first | (go_at_call 71; exact callsCalm (HCK.out _)) | (go_at_call 143; exact callsCalm (spellSource_any y _)) | (go_at_call 143; exact callsCalm (spellSource_any x _))))
      refine wpQuiet_nil ?_
      rintro _ ⟨z, rfl⟩
      go_wp2_with fail
      go_ret
      exact ⟨ret_bool HNO.out.symm, F1.out.trans (Fix.of_below z.ok), fun h => by rw [HNO.out] at h; cases h⟩
     | false =>
      have HAT := Lib.hid (show okAt isSpell ks l k = true by unfold okAt; rw [HXG.out, hiv, hsn, decide_eq_true hk0]; rfl)
      clear TCK hiv hy hsn hk0
      go_wp2_with fail
      refine wp_region_calm V1 (by kernel_rfl) (by kernel_rfl) (Below.refl _ _) ?_
      repeat (go_big_quiet_step (first | (go_at_call 71; exact callsCalm (HCK.out _)) | (go_at_call 143; exact callsCalm (spellSource_any y _)) | (go_at_call 143; exact callsCalm (spellSource_any x _))))
      refine wpQuiet_nil ?_
      rintro _ ⟨z, rfl⟩
      have HSZ := Lib.hid (HS1.out.ext z.ok)
      have FZ := Lib.hid (F1.out.trans (Fix.of_below z.ok))
      obtain ⟨Vz, hVz⟩ : ∃ Vz, z.val = Vz := ⟨_, rfl⟩
      have u0 := w0 z
      have u1 := w1 z
      have u2 := w2 z
      have u3 := w3 z
      have u4 := w4 z
      have u5 := w5 z
      rw [hVz] at HSZ FZ u0 u1 u2 u3 u4 u5 ⊢
      clear hVz z w0 w1 w2 w3 w4 w5 hlk
      go_wp2_with (first | (go_at_call 143; (with_reducible refine (spellSource_any x _).mono ?_); rintro e Vy ⟨rfl, gy⟩; have HSY := Lib.hid (HSZ.out.ext gy); have FY := Lib.hid (FZ.out.trans (Fix.of_below gy)); obtain ⟨nn, D, hD1, hD2, hD3⟩ := HSY.out; have HD3 := Lib.hid hD3; have HD2 := Lib.hid hD2; clear gy hD2 hD3) | (at_mapUpdate; refine wpList_mapUpdate_own _ rfl _ _ _ 213 rfl 3 4 (int_keyed Tryz.underlying3) Tryz.underlying213 _ b nn D rfl HD2.out (by unfold maxLen; omega) _ _ (.int .i64 x.a) rfl rfl (keyOf_int_mk Tryz.underlying3 (lit_wf (by omega) (by omega))) (.lit (.bool true)) [] (plainElem_bool Tryz.underlying4 true) ?_; intro Vu hown1 hgrow1; have HSU := Lib.hid (Seen.put (by omega) (by omega) hD1 HD2.out.isMap HD3.out hown1); have FU := Lib.hid (FY.out.trans (fix_turn hgrow1)); clear hown1 hgrow1))
      go_roundw
      case rel => exact ⟨k + 1, by omega, by go_num, FU.out, by rw [srcs_take HX.out, ← List.append_assoc]; exact HSU.out, okAt_succ HOK.out HAT.out⟩
      case measure => simp [intOf]; omega
    ·obtain ⟨k', rfl⟩ : ∃ k', k = k' + 1 := ⟨k - 1, by omega⟩
     have e1 : decide ((0 : Int) < ((k' + 1 : Nat) : Int)) = true := decide_eq_true (by omega)
     have e2 : decide (0 < k' + 1) = true := decide_eq_true (by omega)
     have y0 := fun z => (HY.out (by omega) z).1
     have y1 := fun z => (HY.out (by omega) z).2.1
     have y2 := fun z => (HY.out (by omega) z).2.2.1
     have y3 := fun z => (HY.out (by omega) z).2.2.2.1
     have y4 := fun z => (HY.out (by omega) z).2.2.2.2.1
     have y5 := fun z => (HY.out (by omega) z).2.2.2.2.2
     rw [Nat.add_sub_cancel] at y0 y1 y2 y3 y4 y5 hy
     by_cases hr : y.a < x.a
     ·have e3 : decide (x.a ≤ y.a) = false := decide_eq_false (by omega)
      cases sn with
      | true =>
       have HNO := Lib.hid (okL_no (is := isSpell) (ks := ks) (l := l) (k := k' + 1) (by rw [hlen.out]; exact hkn) (by unfold okAt; rw [HXG.out, hiv, hsn]; simp))
       clear TCK hiv hy hsn hk0 HY hr
       go_wp2_with fail
       refine wp_region_calm V1 (by kernel_rfl) (by kernel_rfl) (Below.refl _ _) ?_
       repeat (go_big_quiet_step (first | (go_at_call 71; exact callsCalm (HCK.out _)) | (go_at_call 143; exact callsCalm (spellSource_any y _)) | (go_at_call 143; exact callsCalm (spellSource_any x _))))
       refine wpQuiet_nil ?_
       rintro _ ⟨z, rfl⟩
       go_wp2_with fail
       go_ret
       exact ⟨ret_bool HNO.out.symm, F1.out.trans (Fix.of_below z.ok), fun h => by rw [HNO.out] at h; cases h⟩
      | false =>
       have HAT := Lib.hid (show okAt isSpell ks l (k' + 1) = true by unfold okAt; rw [HXG.out, hiv, hsn, Nat.add_sub_cancel, hy, decide_eq_true hr]; simp)
       clear TCK hiv hy hsn hk0 HY hr
       go_wp2_with fail
       refine wp_region_calm V1 (by kernel_rfl) (by kernel_rfl) (Below.refl _ _) ?_
       repeat (go_big_quiet_step (first | (go_at_call 71; exact callsCalm (HCK.out _)) | (go_at_call 143; exact callsCalm (spellSource_any y _)) | (go_at_call 143; exact callsCalm (spellSource_any x _))))
       refine wpQuiet_nil ?_
       rintro _ ⟨z, rfl⟩
       have HSZ := Lib.hid (HS1.out.ext z.ok)
       have FZ := Lib.hid (F1.out.trans (Fix.of_below z.ok))
       obtain ⟨Vz, hVz⟩ : ∃ Vz, z.val = Vz := ⟨_, rfl⟩
       have u0 := w0 z
       have u1 := w1 z
       have u2 := w2 z
       have u3 := w3 z
       have u4 := w4 z
       have u5 := w5 z
       rw [hVz] at HSZ FZ u0 u1 u2 u3 u4 u5 ⊢
       clear hVz z w0 w1 w2 w3 w4 w5 hlk
       go_wp2_with (first | (go_at_call 143; (with_reducible refine (spellSource_any x _).mono ?_); rintro e Vy ⟨rfl, gy⟩; have HSY := Lib.hid (HSZ.out.ext gy); have FY := Lib.hid (FZ.out.trans (Fix.of_below gy)); obtain ⟨nn, D, hD1, hD2, hD3⟩ := HSY.out; have HD3 := Lib.hid hD3; have HD2 := Lib.hid hD2; clear gy hD2 hD3) | (at_mapUpdate; refine wpList_mapUpdate_own _ rfl _ _ _ 213 rfl 3 4 (int_keyed Tryz.underlying3) Tryz.underlying213 _ b nn D rfl HD2.out (by unfold maxLen; omega) _ _ (.int .i64 x.a) rfl rfl (keyOf_int_mk Tryz.underlying3 (lit_wf (by omega) (by omega))) (.lit (.bool true)) [] (plainElem_bool Tryz.underlying4 true) ?_; intro Vu hown1 hgrow1; have HSU := Lib.hid (Seen.put (by omega) (by omega) hD1 HD2.out.isMap HD3.out hown1); have FU := Lib.hid (FY.out.trans (fix_turn hgrow1)); clear hown1 hgrow1))
       go_roundw
       case rel => exact ⟨k' + 1 + 1, by omega, by go_num, FU.out, by rw [srcs_take HX.out, ← List.append_assoc]; exact HSU.out, okAt_succ HOK.out HAT.out⟩
       case measure => simp [intOf]; omega
     ·have e3 : decide (x.a ≤ y.a) = true := decide_eq_true (by omega)
      have HNO := Lib.hid (okL_no (is := isSpell) (ks := ks) (l := l) (k := k' + 1) (by rw [hlen.out]; exact hkn) (by unfold okAt; rw [HXG.out, hiv, Nat.add_sub_cancel, hy, decide_eq_false hr]; simp))
      clear TCK hiv hy hsn hk0 HY hr
      go_wp2_with fail
      refine wp_region_calm V1 (by kernel_rfl) (by kernel_rfl) (Below.refl _ _) ?_
      repeat (go_big_quiet_step (first | (go_at_call 71; exact callsCalm (HCK.out _)) | (go_at_call 143; exact callsCalm (spellSource_any y _)) | (go_at_call 143; exact callsCalm (spellSource_any x _))))
      refine wpQuiet_nil ?_
      rintro _ ⟨z, rfl⟩
      go_wp2_with fail
      go_ret
      exact ⟨ret_bool HNO.out.symm, F1.out.trans (Fix.of_below z.ok), fun h => by rw [HNO.out] at h; cases h⟩
  ·obtain rfl : n = k := by omega
   have HE := Lib.hid (okL_yes (is := isSpell) (ks := ks) (l := l) (by rw [hlen.out]; exact HOK.out))
   rw [hlen.out] at HE
   have HTK := Lib.hid (show l.take n = l from List.take_of_length_le (by rw [hlen.out]; exact Nat.le_refl _))
   go_wp2_with fail
   go_ret
   refine ⟨ret_bool (by rw [HE.out]; exact decide_eq_decide.2 (by omega)), HF.out, fun _ => ?_⟩
   have := HSE.out
   rw [HTK.out] at this
   exact this
end Go.Proofs.YtkoejeghihcmlaaGreat
namespace Go.Proofs.YtkoejeghihcmlaaGreat
open Go.RowKit Go.Shelf Go.Maps
/-- A plot's value. -/
abbrev plv (p : Pl) (A1 A2 A3 : Option Addr) (n1 c1 n2 c2 n3 c3 : Nat) : Value := .agg #[.int .i64 p.lo, .int .i64 p.hi, .slice A1 n1 c1, .slice A2 n2 c2, .slice A3 n3 c3, .int .i64 p.geese]
/-- Its lists. -/
structure Pa (w : World) (p : Pl) (A1 A2 A3 : Option Addr) (n1 c1 n2 c2 n3 c3 : Nat) : Prop where
 l1 : Arr scells 6 w A1 n1 p.loads
 l2 : Arr scells 6 w A2 n2 p.stands
 l3 : Arr scells 6 w A3 n3 p.spells
 m1 : n1 ≤ c1 ∧ n1 ≤ 9223372036854775807
 m2 : n2 ≤ c2 ∧ n2 ≤ 9223372036854775807
 m3 : n3 ≤ c3 ∧ n3 ≤ 9223372036854775807
theorem Pa.below {w w' : World} {p : Pl} {A1 A2 A3 : Option Addr} {n1 c1 n2 c2 n3 c3 : Nat} (h : Pa w p A1 A2 A3 n1 c1 n2 c2 n3 c3) (g : Below w.heap.size w w') : Pa w' p A1 A2 A3 n1 c1 n2 c2 n3 c3 :=
 ⟨h.l1.below g, h.l2.below g, h.l3.below g, h.m1, h.m2, h.m3⟩
theorem seen_new (w : World) : Seen (w.alloc (.map #[] 0)) w.heap.size 0 [] := ⟨0, .map [], Nat.le_refl _, World.ownsMap_made _ _ _ _, fun _ _ _ => rfl⟩
theorem okL_len {is : Six → Bool} {ks : List Int} {l : List Six} (h : okL is ks l = true) : l.length ≤ 60 := by
 unfold okL at h
 simp only [Bool.and_eq_true, decide_eq_true_eq] at h
 exact h.2
theorem Fix.blk1 {W W' : World} {b g : Nat} {t : TypeId} {cs : Array Value} (f : Fix b b W W') (h : Blk W g t cs) (hne : g ≠ b) : Blk W' g t cs := f.blk h hne hne
theorem Fix.below {W W' : World} {b B : Nat} (f : Fix b b W W') (hB : B ≤ b) (hs : B ≤ W.heap.size) : Below B W W' := ⟨f.os, f.tape, f.output, f.size, fun k hk => f.block k (by omega) (by omega) (by omega)⟩
set_option maxRecDepth 100000 in
set_option maxHeartbeats 4000000 in
theorem check_any (p : Pl) (A1 A2 A3 : Option Addr) (n1 c1 n2 c2 n3 c3 : Nat) (w : World) (hp : Pa w p A1 A2 A3 n1 c1 n2 c2 n3 c3) :
  Calls Tryz.prog 65 #[plv p A1 A2 A3 n1 c1 n2 c2 n3 c3] w fun e w' => e = .returned (.int .i64 (err (okPl p) 13)) ∧ Below w.heap.size w w' := by
 have HP := Lib.hid hp
 have hl1 := Lib.hid hp.l1.1
 have hl2 := Lib.hid hp.l2.1
 clear hp
 have hmm := @run_makeMap Tryz.prog
 obtain ⟨r1, hr1⟩ : ∃ r1, okL isLoad [] p.loads = r1 := ⟨_, rfl⟩
 obtain ⟨r2, hr2⟩ : ∃ r2, okL isLoad (srcs p.loads) p.stands = r2 := ⟨_, rfl⟩
 obtain ⟨r3, hr3⟩ : ∃ r3, okL isSpell (srcs p.loads ++ srcs p.stands) p.spells = r3 := ⟨_, rfl⟩
 obtain ⟨r4, hr4⟩ : ∃ r4, okSh p.lo p.hi = r4 := ⟨_, rfl⟩
 obtain ⟨r5, hr5⟩ : ∃ r5, rng p.geese 0 60 = r5 := ⟨_, rfl⟩
 obtain ⟨er, her⟩ : ∃ er, err (okPl p) 13 = er := ⟨_, rfl⟩
 have HER := Lib.hid (show er = err (r1 && r2 && r3 && r4 && r5) 13 by rw [← her, ← hr1, ← hr2, ← hr3, ← hr4, ← hr5]; rfl)
 rw [her]
 clear her
 have HR1 := Lib.hid hr1
 have HR2 := Lib.hid hr2
 have HR3 := Lib.hid hr3
 have HR4 := Lib.hid hr4
 have HR5 := Lib.hid hr5
 clear hr1 hr2 hr3 hr4 hr5
 go_enter Tryz.func65, Tryz.ntmps65
 go_upto_region 2 with fail
 clear hmm
 obtain ⟨W2, hW2⟩ : ∃ W2, (w.alloc (.cells #[.int .i64 p.lo, .int .i64 p.hi, .slice A1 n1 c1, .slice A2 n2 c2, .slice A3 n3 c3, .int .i64 p.geese] 38)).alloc (.map #[] 0) = W2 := ⟨_, rfl⟩
 have g2 : Below w.heap.size w W2 := by rw [← hW2]; exact two_more _ _ _
 have b2 : Blk W2 w.heap.size 38 #[.int .i64 p.lo, .int .i64 p.hi, .slice A1 n1 c1, .slice A2 n2 c2, .slice A3 n3 c3, .int .i64 p.geese] := by rw [← hW2]; exact (Blk.new _ _ _).alloc _
 have s2 : Seen W2 (w.heap.size + 1) 0 [] := by
  have := seen_new (w.alloc (.cells #[.int .i64 p.lo, .int .i64 p.hi, .slice A1 n1 c1, .slice A2 n2 c2, .slice A3 n3 c3, .int .i64 p.geese] 38))
  rw [World.size_alloc, hW2] at this
  exact this
 rw [hW2]
 obtain ⟨bm, hbm⟩ : ∃ bm, w.heap.size + 1 = bm := ⟨_, rfl⟩
 rw [hbm] at s2 ⊢
 have G2 := Lib.hid g2
 have B2 := Lib.hid b2
 have S2 := Lib.hid s2
 have HBF := Lib.hid (fun W (f : Fix bm bm W2 W) => (show Below w.heap.size w W from g2.trans (f.below (by omega) g2.size)))
 have HCE := Lib.hid (fun W (f : Fix bm bm W2 W) => (show Blk W w.heap.size 38 #[.int .i64 p.lo, .int .i64 p.hi, .slice A1 n1 c1, .slice A2 n2 c2, .slice A3 n3 c3, .int .i64 p.geese] from f.blk1 b2 (by omega)))
 have m0 := b2.cell 0
 have m1 := b2.cell 1
 have m2 := b2.cell 2
 have m3 := b2.cell 3
 have m4 := b2.cell 4
 have m5 := b2.cell 5
 clear g2 b2 s2 hW2 hbm
 have T1 := valid138_any A1 n1 c1 bm 0 [] p.loads W2 (HP.out.l1.below G2.out) HP.out.m1.2 (by omega) S2.out
 rw [List.nil_append, Nat.zero_add] at T1
 rw [HR1.out] at T1
 have HT1 := Lib.hid T1
 clear T1
 cases r1 with
 | false =>
  go_wp2_with (go_at_call 138; (with_reducible refine HT1.out.mono ?_); rintro e W3 ⟨rfl, f3, -⟩; have F3 := Lib.hid f3; clear f3)
  go_ret
  have e : er = 13 := HER.out
  subst e
  exact ⟨rfl, HBF.out _ F3.out⟩
 | true =>
  have hn60 : n1 ≤ 60 := by have := okL_len HR1.out; have := hl1.out; omega
  have T2 := fun W (f : Fix bm bm W2 W) (s : Seen W bm n1 (srcs p.loads)) => valid140_any A2 n2 c2 bm n1 (srcs p.loads) p.stands W (HP.out.l2.below (HBF.out W f)) HP.out.m2.2 (by omega) s
  rw [HR2.out] at T2
  have HT2 := Lib.hid T2
  clear T2
  cases r2 with
  | false =>
   go_wp2_with (first
    | (go_at_call 138; (with_reducible refine HT1.out.mono ?_); rintro e W3 ⟨rfl, f3, s3⟩; have F3 := Lib.hid f3; have S3 := Lib.hid (s3 (by trivial)); have k3 := (HCE.out _ f3).cell 3; clear f3 s3)
    | (go_at_call 140; (with_reducible refine (HT2.out _ F3.out S3.out).mono ?_); rintro e W4 ⟨rfl, f4, -⟩; have F4 := Lib.hid (F3.out.trans f4); clear f4))
   go_ret
   have e : er = 13 := HER.out
   subst e
   exact ⟨rfl, HBF.out _ F4.out⟩
  | true =>
   have hn62 : n2 ≤ 60 := by have := okL_len HR2.out; have := hl2.out; omega
   have T3 := fun W (f : Fix bm bm W2 W) (s : Seen W bm (n1 + n2) (srcs p.loads ++ srcs p.stands)) => valid142_any A3 n3 c3 bm (n1 + n2) (srcs p.loads ++ srcs p.stands) p.spells W (HP.out.l3.below (HBF.out W f)) HP.out.m3.2 (by omega) s
   rw [HR3.out] at T3
   have HT3 := Lib.hid T3
   clear T3
   have T4 := fun W => areSheaves_any p.lo p.hi W
   have T5 := fun W => within_any p.geese 0 60 W
   rw [HR4.out] at T4
   rw [HR5.out] at T5
   cases r3 <;> cases r4 <;> cases r5
   all_goals
    have HT4 := Lib.hid T4
    have HT5 := Lib.hid T5
    clear T4 T5
    go_wp2_with (first
     | (go_at_call 138; (with_reducible refine HT1.out.mono ?_); rintro e W3 ⟨rfl, f3, s3⟩; have F3 := Lib.hid f3; have S3 := Lib.hid (s3 (by trivial)); have k3 := (HCE.out _ f3).cell 3; clear f3 s3)
     | (go_at_call 140; (with_reducible refine (HT2.out _ F3.out S3.out).mono ?_); rintro e W4 ⟨rfl, f4, s4⟩; have F4 := Lib.hid (F3.out.trans f4); have S4 := Lib.hid (s4 (by trivial)); have k4 := (HCE.out _ F4.out).cell 4; clear f4 s4)
     | (go_at_call 142; (with_reducible refine (HT3.out _ F4.out S4.out).mono ?_); rintro e W5 ⟨rfl, f5, -⟩; have F5 := Lib.hid (F4.out.trans f5); have k0 := (HCE.out _ F5.out).cell 0; have k1 := (HCE.out _ F5.out).cell 1; have GG := Lib.hid (HBF.out _ F5.out); have k5 := (HCE.out _ F5.out).cell 5; clear f5)
     | (go_at_call 144; (with_reducible refine (HT4.out _).mono ?_); rintro e W6 ⟨rfl, g6⟩; have k6 := ((HCE.out _ F5.out).ext g6).cell 5; have GH := Lib.hid (GG.out.trans (g6.mono GG.out.size)); clear g6)
     | (go_at_call 145; (with_reducible refine (HT5.out _).mono ?_); rintro e w' ⟨rfl, rfl⟩))
    go_ret
    first
     | (have e : er = 13 := HER.out; subst e)
     | (have e : er = 0 := HER.out; subst e)
    first
     | exact ⟨rfl, GH.out⟩
     | exact ⟨rfl, GG.out⟩
end Go.Proofs.YtkoejeghihcmlaaGreat
namespace Go.Proofs.YtkoejeghihcmlaaGreat
open Go.RowKit Go.Shelf
def noHour (h : Int) : Bool := !rng h 0 99999
def noDay (h : Int) : Bool := !rng h 0 4166
theorem noHour_any (x : Int) (w : World) : Calls Tryz.prog 156 #[.int .i64 x] w fun e w' => e = .returned (.bool (noHour x)) ∧ w = w' := by
 go_enter Tryz.func156, Tryz.ntmps156
 go_wp2_with (go_at_call 148; refine (isHour_any _ _).mono ?_; rintro e w' ⟨rfl, rfl⟩)
 go_ret
 exact ⟨rfl, rfl⟩
set_option maxRecDepth 100000 in
theorem noHourIdx_any (A : Option Addr) (n c : Nat) (l : List Int) (w : World) (ha : Ints w A n l) (hn : n ≤ 9223372036854775807) :
  Calls Tryz.prog 193 #[.slice A n c, .func (.func 156) #[] #[]] w fun e w' => (∃ i : Int, e = .returned (.int .i64 i) ∧ decide (0 ≤ i) = l.any noHour) ∧ w = w' := by
 have HA := Lib.hid ha
 have hlen := Lib.hid ha.1
 clear ha
 go_enter Tryz.func193, Tryz.ntmps193
 go_wp2_with fail
 go_loop [8] (fun i => ∃ k : Nat, k ≤ n ∧ i = .int .i64 k ∧ ∀ j, j < k → noHour (l.getD j 0) = false) (fun i => n - (intOf i).toNat)
 case atStart => exact ⟨0, Nat.zero_le _, rfl, fun j hj => absurd hj (by omega)⟩
 case round =>
  obtain ⟨k, hk, rfl, hno⟩ := hrel
  have HNO := Lib.hid hno
  clear hno
  by_cases hkn : k < n
  ·obtain ⟨b, o, rfl, -, hmem, hc⟩ := ints_at HA.out hkn
   have d0 := hc _ (Below.refl _ _)
   obtain ⟨y, hy⟩ : ∃ y, l.getD k 0 = y := ⟨_, rfl⟩
   rw [hy] at d0 hmem
   obtain ⟨pb, hpb⟩ : ∃ pb, noHour y = pb := ⟨_, rfl⟩
   have T := fun W => noHour_any y W
   rw [hpb] at T
   have HT := Lib.hid T
   have HY := Lib.hid hy
   have HPB := Lib.hid hpb
   have HM := Lib.hid hmem
   clear hc hmem hy T hpb
   cases pb with
   | true =>
    go_wp2_with (go_at_call 156; (with_reducible refine (HT.out _).mono ?_); rintro e w' ⟨rfl, rfl⟩)
    go_ret
    exact ⟨⟨k, rfl, by rw [decide_eq_true (show (0 : Int) ≤ k by omega)]; exact (List.any_eq_true.2 ⟨y, List.mem_of_getElem? HM.out, HPB.out⟩).symm⟩, rfl⟩
   | false =>
    go_wp2_with (go_at_call 156; (with_reducible refine (HT.out _).mono ?_); rintro e w' ⟨rfl, rfl⟩)
    go_round
    case rel => exact ⟨k + 1, by omega, by go_num, fun j hj => by
     by_cases e : j = k
     ·subst e; rw [HY.out]; exact HPB.out
     ·exact HNO.out j (by omega)⟩
    case measure => simp [intOf]; omega
  ·obtain rfl : n = k := by omega
   go_wp2_with fail
   go_ret
   refine ⟨⟨-1, rfl, ?_⟩, rfl⟩
   rw [decide_eq_false (by omega)]
   symm
   rw [List.any_eq_false]
   intro y hy
   obtain ⟨j, hj, rfl⟩ := List.getElem_of_mem hy
   have := HNO.out j (by rw [← hlen.out]; exact hj)
   rw [List.getD_eq_getElem?_getD, List.getElem?_eq_getElem hj] at this
   simpa using this
theorem noHourHas_any (A : Option Addr) (n c : Nat) (l : List Int) (w : World) (ha : Ints w A n l) (hn : n ≤ 9223372036854775807) :
  Calls Tryz.prog 155 #[.slice A n c, .func (.func 156) #[] #[]] w fun e w' => e = .returned (.bool (l.any noHour)) ∧ w = w' := by
 have T := noHourIdx_any A n c l w ha hn
 generalize l.any noHour = r at T ⊢
 go_enter Tryz.func155, Tryz.ntmps155
 go_wp2_with (go_at_call 193; (with_reducible refine T.mono ?_); rintro e w' ⟨⟨i, rfl, hi⟩, rfl⟩)
 go_ret
 exact ⟨rfl, rfl⟩
theorem noDay_any (x : Int) (w : World) : Calls Tryz.prog 157 #[.int .i64 x] w fun e w' => e = .returned (.bool (noDay x)) ∧ w = w' := by
 go_enter Tryz.func157, Tryz.ntmps157
 go_wp2_with (go_at_call 158; refine (isDay_any _ _).mono ?_; rintro e w' ⟨rfl, rfl⟩)
 go_ret
 exact ⟨rfl, rfl⟩
set_option maxRecDepth 100000 in
theorem noDayIdx_any (A : Option Addr) (n c : Nat) (l : List Int) (w : World) (ha : Ints w A n l) (hn : n ≤ 9223372036854775807) :
  Calls Tryz.prog 193 #[.slice A n c, .func (.func 157) #[] #[]] w fun e w' => (∃ i : Int, e = .returned (.int .i64 i) ∧ decide (0 ≤ i) = l.any noDay) ∧ w = w' := by
 have HA := Lib.hid ha
 have hlen := Lib.hid ha.1
 clear ha
 go_enter Tryz.func193, Tryz.ntmps193
 go_wp2_with fail
 go_loop [8] (fun i => ∃ k : Nat, k ≤ n ∧ i = .int .i64 k ∧ ∀ j, j < k → noDay (l.getD j 0) = false) (fun i => n - (intOf i).toNat)
 case atStart => exact ⟨0, Nat.zero_le _, rfl, fun j hj => absurd hj (by omega)⟩
 case round =>
  obtain ⟨k, hk, rfl, hno⟩ := hrel
  have HNO := Lib.hid hno
  clear hno
  by_cases hkn : k < n
  ·obtain ⟨b, o, rfl, -, hmem, hc⟩ := ints_at HA.out hkn
   have d0 := hc _ (Below.refl _ _)
   obtain ⟨y, hy⟩ : ∃ y, l.getD k 0 = y := ⟨_, rfl⟩
   rw [hy] at d0 hmem
   obtain ⟨pb, hpb⟩ : ∃ pb, noDay y = pb := ⟨_, rfl⟩
   have T := fun W => noDay_any y W
   rw [hpb] at T
   have HT := Lib.hid T
   have HY := Lib.hid hy
   have HPB := Lib.hid hpb
   have HM := Lib.hid hmem
   clear hc hmem hy T hpb
   cases pb with
   | true =>
    go_wp2_with (go_at_call 157; (with_reducible refine (HT.out _).mono ?_); rintro e w' ⟨rfl, rfl⟩)
    go_ret
    exact ⟨⟨k, rfl, by rw [decide_eq_true (show (0 : Int) ≤ k by omega)]; exact (List.any_eq_true.2 ⟨y, List.mem_of_getElem? HM.out, HPB.out⟩).symm⟩, rfl⟩
   | false =>
    go_wp2_with (go_at_call 157; (with_reducible refine (HT.out _).mono ?_); rintro e w' ⟨rfl, rfl⟩)
    go_round
    case rel => exact ⟨k + 1, by omega, by go_num, fun j hj => by
     by_cases e : j = k
     ·subst e; rw [HY.out]; exact HPB.out
     ·exact HNO.out j (by omega)⟩
    case measure => simp [intOf]; omega
  ·obtain rfl : n = k := by omega
   go_wp2_with fail
   go_ret
   refine ⟨⟨-1, rfl, ?_⟩, rfl⟩
   rw [decide_eq_false (by omega)]
   symm
   rw [List.any_eq_false]
   intro y hy
   obtain ⟨j, hj, rfl⟩ := List.getElem_of_mem hy
   have := HNO.out j (by rw [← hlen.out]; exact hj)
   rw [List.getD_eq_getElem?_getD, List.getElem?_eq_getElem hj] at this
   simpa using this
theorem noDayHas_any (A : Option Addr) (n c : Nat) (l : List Int) (w : World) (ha : Ints w A n l) (hn : n ≤ 9223372036854775807) :
  Calls Tryz.prog 155 #[.slice A n c, .func (.func 157) #[] #[]] w fun e w' => e = .returned (.bool (l.any noDay)) ∧ w = w' := by
 have T := noDayIdx_any A n c l w ha hn
 generalize l.any noDay = r at T ⊢
 go_enter Tryz.func155, Tryz.ntmps155
 go_wp2_with (go_at_call 193; (with_reducible refine T.mono ?_); rintro e w' ⟨⟨i, rfl, hi⟩, rfl⟩)
 go_ret
 exact ⟨rfl, rfl⟩
/-- The first error of a plot, hours and days. -/
def firstE (p : Pl) (hours days : List Int) : Int := if okPl p = true then (if hours.any noHour = true then 7 else if days.any noDay = true then 6 else 0) else 13
set_option maxRecDepth 100000 in
theorem first_any (p : Pl) (A1 A2 A3 : Option Addr) (n1 c1 n2 c2 n3 c3 : Nat) (H D : Option Addr) (nh ch nd cd : Nat) (hours days : List Int) (w : World) (hp : Pa w p A1 A2 A3 n1 c1 n2 c2 n3 c3)
  (hh : Ints w H nh hours) (hd : Ints w D nd days) (hnh : nh ≤ 9223372036854775807) (hnd : nd ≤ 9223372036854775807) :
  Calls Tryz.prog 80 #[plv p A1 A2 A3 n1 c1 n2 c2 n3 c3, .slice H nh ch, .slice D nd cd] w fun e w' => e = .returned (.int .i64 (firstE p hours days)) ∧ Below w.heap.size w w' := by
 obtain ⟨r1, hr1⟩ : ∃ r1, okPl p = r1 := ⟨_, rfl⟩
 obtain ⟨r2, hr2⟩ : ∃ r2, hours.any noHour = r2 := ⟨_, rfl⟩
 obtain ⟨r3, hr3⟩ : ∃ r3, days.any noDay = r3 := ⟨_, rfl⟩
 obtain ⟨er, her⟩ : ∃ er, firstE p hours days = er := ⟨_, rfl⟩
 have HER := Lib.hid (show er = if r1 = true then (if r2 = true then 7 else if r3 = true then 6 else 0) else 13 by rw [← her, ← hr1, ← hr2, ← hr3]; rfl)
 rw [her]
 clear her
 have HT1 := Lib.hid (fun W (g : Below w.heap.size w W) => (show Calls Tryz.prog 65 #[plv p A1 A2 A3 n1 c1 n2 c2 n3 c3] W fun e w' => e = .returned (.int .i64 (err r1 13)) ∧ Below W.heap.size W w' by rw [← hr1]; exact check_any p A1 A2 A3 n1 c1 n2 c2 n3 c3 W (hp.below g)))
 have HT2 := Lib.hid (fun W (g : Below w.heap.size w W) => (show Calls Tryz.prog 155 #[.slice H nh ch, .func (.func 156) #[] #[]] W fun e w' => e = .returned (.bool r2) ∧ W = w' by rw [← hr2]; exact noHourHas_any H nh ch hours W (hh.below g) hnh))
 have HT3 := Lib.hid (fun W (g : Below w.heap.size w W) => (show Calls Tryz.prog 155 #[.slice D nd cd, .func (.func 157) #[] #[]] W fun e w' => e = .returned (.bool r3) ∧ W = w' by rw [← hr3]; exact noDayHas_any D nd cd days W (hd.below g) hnd))
 clear hr1 hr2 hr3 hp hh hd
 cases r1 <;> cases r2 <;> cases r3
 all_goals
  go_enter Tryz.func80, Tryz.ntmps80
  go_wp2_with (first
   | (go_at_call 65; (with_reducible refine (HT1.out _ (one_more _ _)).mono ?_); rintro e W1 ⟨rfl, g1⟩; have G1 := Lib.hid ((one_more w _).trans (g1.mono (by simp))); clear g1)
   | (go_at_call 155; (with_reducible refine (HT2.out _ G1.out).mono ?_); rintro e w' ⟨rfl, rfl⟩)
   | (go_at_call 155; (with_reducible refine (HT3.out _ G1.out).mono ?_); rintro e w' ⟨rfl, rfl⟩))
  go_ret
  first
   | (have e : er = 13 := HER.out; subst e)
   | (have e : er = 7 := HER.out; subst e)
   | (have e : er = 6 := HER.out; subst e)
   | (have e : er = 0 := HER.out; subst e)
  exact ⟨rfl, G1.out⟩
end Go.Proofs.YtkoejeghihcmlaaGreat
namespace Go.Proofs.YtkoejeghihcmlaaGreat
open Go.RowKit Go.Shelf
/-- What stood, as a block. -/
def rvals (st : List Rg) : Array Value := (st.flatMap rcells).toArray
theorem rcells_len (r : Rg) : (rcells r).length = 2 := rfl
theorem rvals_at {st : List Rg} {i : Nat} (hi : i < st.length) : (rvals st)[i * 2]? = some (.int .i64 (Lo st i)) ∧ (rvals st)[i * 2 + 1]? = some (.int .i64 (Hi st i)) := by
 have e : st[i]? = some (st.getD i zR) := by rw [List.getD_eq_getElem?_getD, List.getElem?_eq_getElem hi]; rfl
 unfold rvals
 rw [List.getElem?_toArray, List.getElem?_toArray]
 have h0 := flat_get rcells_len st i 0 (by decide)
 have h1 := flat_get rcells_len st i 1 (by decide)
 rw [e] at h0 h1
 exact ⟨h0, h1⟩
theorem rflat_set : ∀ (st : List Rg) (i : Nat) (r : Rg), i < st.length → ((st.flatMap rcells).set (i * 2) (.int .i64 r.lo)).set (i * 2 + 1) (.int .i64 r.hi) = (st.set i r).flatMap rcells
 | [], i, r, h => absurd h (by simp)
 | x :: st, 0, r, _ => by simp [rcells]
 | x :: st, i + 1, r, h => by
  have := rflat_set st i r (by simpa using h)
  rw [List.flatMap_cons, show (i + 1) * 2 = (rcells x).length + i * 2 by rw [rcells_len]; omega, List.set_append_right _ _ (by omega), Nat.add_sub_cancel_left,
   show (rcells x).length + i * 2 + 1 = (rcells x).length + (i * 2 + 1) by omega, List.set_append_right _ _ (by omega), Nat.add_sub_cancel_left, this]
  simp
theorem rvals_set {st : List Rg} {i : Nat} (h : i < st.length) (r : Rg) : ((rvals st).setIfInBounds (i * 2) (.int .i64 r.lo)).setIfInBounds (i * 2 + 1) (.int .i64 r.hi) = rvals (st.set i r) := by
 unfold rvals
 rw [← rflat_set st i r h]
 simp
/-- A field. -/
structure Fd (w : World) (bf bs : Nat) (pp : Value) (known : Int) (A : Option Addr) (n c m : Nat) (st : List Rg) : Prop where
 f : Blk w bf 152 #[pp, .int .i64 known, .slice A n c, .slice (some ⟨bs, 0, none⟩) m m]
 s : Blk w bs 33 (rvals st)
 len : st.length = m
 ne : bf ≠ bs
theorem narrow_end {bf bs : Nat} {pp : Value} {known : Int} {A : Option Addr} {n c m i : Nat} {st : List Rg} {r : Rg} {w W : World} (hf : Fd w bf bs pp known A n c m st) (hi : i < m)
  (F9 : Blk W bf 152 #[pp, .int .i64 known, .slice A n c, .slice (some ⟨bs, 0, none⟩) m m]) (S9 : Blk W bs 33 (rvals st)) (GZ : Below w.heap.size w W) {a b : Int} (ha : a = max (Lo st i) r.lo) (hb : b = min (Hi st i) r.hi) :
  Fix bs bs w ((W.setCell ⟨bs, i * 2, none⟩ (.int .i64 a)).setCell ⟨bs, i * 2 + 1, none⟩ (.int .i64 b)) ∧ Fd ((W.setCell ⟨bs, i * 2, none⟩ (.int .i64 a)).setCell ⟨bs, i * 2 + 1, none⟩ (.int .i64 b)) bf bs pp known A n c m (nar st i r) := by
 have hse := (S9.set_ (i * 2) (.int .i64 a)).set_ (i * 2 + 1) (.int .i64 b)
 have HST := rvals_set (st := st) (i := i) (by rw [hf.len]; exact hi) ⟨a, b⟩
 rw [HST, show st.set i ⟨a, b⟩ = nar st i r by rw [ha, hb]; rfl] at hse
 refine ⟨(((Fix.of_below (bw := bs) (bs := bs) GZ).setCell (p := ⟨bs, i * 2, none⟩) (.inl rfl) _).setCell (p := ⟨bs, i * 2 + 1, none⟩) (.inl rfl) _), ?_, hse, by rw [nar_len]; exact hf.len, hf.ne⟩
 exact (F9.far (p := ⟨bs, i * 2, none⟩) hf.ne _).far (p := ⟨bs, i * 2 + 1, none⟩) hf.ne _
set_option maxRecDepth 100000 in
set_option maxHeartbeats 4000000 in
theorem narrow_any (bf bs : Nat) (pp : Value) (known : Int) (A : Option Addr) (n c m i : Nat) (st : List Rg) (r : Rg) (w : World) (hf : Fd w bf bs pp known A n c m st) (hi : i < m) :
  Calls Tryz.prog 162 #[.pointer (some ⟨bf, 0, none⟩), .int .i64 i, rv r] w fun e w' => e = .returned (.tuple #[]) ∧ Fix bs bs w w' ∧ Fd w' bf bs pp known A n c m (nar st i r) := by
 have HF := Lib.hid hf
 have hbl := hf.f.lt
 have hsl := hf.s.lt
 clear hf
 go_enter Tryz.func162, Tryz.ntmps162
 go_upto_region 1 with fail
 obtain ⟨W1, hW1⟩ : ∃ W1, w.alloc (.cells #[.int .i64 r.lo, .int .i64 r.hi] 33) = W1 := ⟨_, rfl⟩
 have g1 : Below w.heap.size w W1 := by rw [← hW1]; exact one_more _ _
 have b1 : Blk W1 w.heap.size 33 #[.int .i64 r.lo, .int .i64 r.hi] := by rw [← hW1]; exact Blk.new _ _ _
 rw [hW1]
 obtain ⟨bx, hbx⟩ : ∃ bx, w.heap.size = bx := ⟨_, rfl⟩
 have G1 := Lib.hid g1
 rw [hbx] at b1 hbl hsl ⊢
 have F1 := Lib.hid (HF.out.f.ext g1)
 have S1 := Lib.hid (HF.out.s.ext g1)
 obtain ⟨v0, v1⟩ := rvals_at (st := st) (i := i) (by rw [HF.out.len]; exact hi)
 have c0 := cellW (b1.cell 0)
 have c1 := cellW (b1.cell 1)
 have f3 := cellW (F1.out.cell 3)
 have s0 : ∀ x : Wd W1, x.val.cell? ⟨bs, i * 2, none⟩ = some (.int .i64 (Lo st i)) := cellW (by rw [S1.out.cell, v0])
 have s1 : ∀ x : Wd W1, x.val.cell? ⟨bs, i * 2 + 1, none⟩ = some (.int .i64 (Hi st i)) := cellW (by rw [S1.out.cell, v1])
 have z0 : ∀ x : Wd W1, x.val.frozen? ⟨bs, i * 2, none⟩ = false := frozenW (s0 ⟨W1, Below.refl _ _⟩) (S1.out.frozen _)
 have z1 : ∀ x : Wd W1, x.val.frozen? ⟨bs, i * 2 + 1, none⟩ = false := frozenW (s1 ⟨W1, Below.refl _ _⟩) (S1.out.frozen _)
 clear hW1 g1 b1 v0 v1
 refine wp_region_calm_tail W1 29 (by kernel_rfl) (by kernel_rfl) (Below.refl _ _) ?_
 simp only [List.take_succ_cons, List.take_zero, List.drop_succ_cons, List.drop_zero]
 repeat (go_big_quiet_step (fail))
 refine wpQuiet_nil ?_
 rintro _ ⟨z, rfl⟩
 have S9 := Lib.hid (S1.out.ext z.ok)
 have F9 := Lib.hid (F1.out.ext z.ok)
 have GZ := Lib.hid (G1.out.trans (z.ok.mono G1.out.size))
 go_wp2_with fail
 all_goals
  go_end0
  exact ⟨rfl, narrow_end HF.out hi F9.out S9.out GZ.out (by omega) (by omega)⟩
end Go.Proofs.YtkoejeghihcmlaaGreat
namespace Go.Proofs.YtkoejeghihcmlaaGreat
open Go.RowKit Go.Shelf
attribute [local go_sem] Oper.semAt_some
/-- What a world keeps of the blocks below B while two blocks may turn. -/
structure FixTo (B bw bs : Nat) (W W' : World) : Prop where
 size : W.heap.size ≤ W'.heap.size
 block : ∀ k, k < B → k < W.heap.size → k ≠ bw → k ≠ bs → W'.heap[k]? = W.heap[k]?
section
variable {B bw bs : Nat} {W W' W'' : World}
theorem FixTo.refl (B bw bs : Nat) (W : World) : FixTo B bw bs W W := ⟨Nat.le_refl _, fun _ _ _ _ _ => rfl⟩
theorem FixTo.trans (h : FixTo B bw bs W W') (k : FixTo B bw bs W' W'') : FixTo B bw bs W W'' :=
 ⟨Nat.le_trans h.size k.size, fun i hB hi h1 h2 => (k.block i hB (Nat.lt_of_lt_of_le hi h.size) h1 h2).trans (h.block i hB hi h1 h2)⟩
theorem FixTo.cell (h : FixTo B bw bs W W') {b o : Nat} {v : Value} (hc : W.cell? ⟨b, o, none⟩ = some v) (hb : b < B) (h1 : b ≠ bw) (h2 : b ≠ bs) : W'.cell? ⟨b, o, none⟩ = some v :=
 (World.cell?_of_block (a := ⟨b, o, none⟩) (h.block b hb (World.block_lt_of_cell? W _ hc) h1 h2)).trans hc
theorem Fix.to (h : Fix bw bs W W') (B : Nat) : FixTo B bw bs W W' := ⟨h.size, fun k _ hk h1 h2 => h.block k hk h1 h2⟩
theorem FixTo.putObj (B bw bs : Nat) (W : World) {l : Nat} (hl : B ≤ l) (o : Obj) : FixTo B bw bs W (W.putObj l o) :=
 ⟨by simp, fun k hB hk _ _ => World.putObj_heap_other (by omega)⟩
theorem FixTo.alloc (B bw bs : Nat) (W : World) (o : Obj) : FixTo B bw bs W (W.alloc o) := ((Fix.of_below (one_more W o) : Fix bw bs W _)).to B
theorem FixTo.arr (h : FixTo B bw bs W W') {A : Option Addr} {n : Nat} {xs : List Six} (ha : Arr scells 6 W A n xs) (hd : ∀ b o, A = some ⟨b, o, none⟩ → 0 < n → b < B ∧ b ≠ bw ∧ b ≠ bs) : Arr scells 6 W' A n xs :=
 ⟨ha.1, fun hn => by
  obtain ⟨b, o, rfl, hlt, hc⟩ := ha.2 hn
  obtain ⟨h1, h2, h3⟩ := hd b o rfl hn
  exact ⟨b, o, rfl, Nat.lt_of_lt_of_le hlt h.size, fun i x hx j u hu => h.cell (hc i x hx j u hu) h1 h2 h3⟩⟩
end
/-- The places of the loads. -/
abbrev Cx (n : Nat) := { i : Nat // i < n }
def encC (n : Nat) (ls : List Six) (x : Cx n) : Array Value := #[.int .i64 x.1, sv (ls.getD x.1 z6)]
set_option maxRecDepth 100000 in
set_option maxHeartbeats 4000000 in
theorem carted_stops (m : Nat) (W0 : World) (bq bf bw bs : Nat) (A : Option Addr) (n c : Nat) (ls : List Six)
  (hq : W0.cell? ⟨bq, 0, none⟩ = some (.pointer (some ⟨bf, 0, none⟩))) (hf : W0.cell? ⟨bf, 2, none⟩ = some (.slice A n c)) (ha : Arr scells 6 W0 A n ls) (hn : n ≤ 1000000)
  (hd : ∀ b o, A = some ⟨b, o, none⟩ → 0 < n → b < W0.heap.size ∧ b ≠ bw ∧ b ≠ bs) :
  SeqStopsK Fence.wide m Tryz.prog 202 #[.pointer (some ⟨bq, 0, none⟩)] (encC n ls) (FixTo W0.heap.size bw bs)
   (fun l => l.map (·.1) = List.range n) (fun l => l.map (·.1) = List.range l.length) (n + 1) W0 := by
 intro l J Jx W hW hJ hJx hY hJ0
 refine callsIn_of_wp Tryz.func202 rfl trivial ?_ rfl
 simp only [Tryz.ntmps202, List.size_toArray, List.length_cons, List.length_nil, Nat.reduceAdd, Nat.reduceSub, Array.replicate_succ, Array.replicate_zero, List.push_toArray, List.append_toArray, List.nil_append, List.cons_append]
 have hq := (hW.cell (p := ⟨bq, 0, none⟩) (World.block_lt_of_cell? W0 _ hq)).trans hq
 have hf := (hW.cell (p := ⟨bf, 2, none⟩) (World.block_lt_of_cell? W0 _ hf)).trans hf
 have HAW := Lib.hid (ha.below hW)
 have HJ := Lib.hid hJ
 have HY := Lib.hid hY
 have HD := Lib.hid hd
 clear hJ hJx hY hW ha hd
 gi_wp2
 gi_loopw [10] (fun i wr => ∃ (k : Nat) (pre : List (Cx n)), i = .int .i64 k ∧ k ≤ n ∧ FixTo W0.heap.size bw bs W wr ∧ J pre wr ∧ pre.map (·.1) = List.range k) (fun i _ => n - (intOf i).toNat)
 case atStart => exact ⟨0, [], rfl, Nat.zero_le _, FixTo.refl _ _ _ _, hJ0, rfl⟩
 case round =>
  obtain ⟨k, pre, rfl, hk, hfix, hj, hpre⟩ := hrel
  have HP := Lib.hid hpre
  have hpl : pre.length = k := by
   have := congrArg List.length hpre
   rw [List.length_map, List.length_range] at this
   exact this
  have HPL := Lib.hid hpl
  have HFX := Lib.hid hfix
  have HAr := Lib.hid (hfix.arr HAW.out HD.out)
  clear hpre hpl hfix
  by_cases hkn : k < n
  ·obtain ⟨b0, o0, e0, -, -, hc⟩ := six_at HAr.out hkn
   obtain ⟨x0, x1, x2, x3, x4, x5⟩ := hc _ (Below.refl _ _)
   obtain ⟨x, hxg⟩ : ∃ x, ls.getD k z6 = x := ⟨_, rfl⟩
   rw [hxg] at x0 x1 x2 x3 x4 x5
   subst e0
   obtain ⟨W1, hW1⟩ : ∃ W1, wr.alloc (.cells #[.int .i64 x.a, .int .i64 x.b, .int .i64 x.c, .int .i64 x.d, .int .i64 x.e, .int .i64 x.f] 103) = W1 := ⟨_, rfl⟩
   have b1 : Blk W1 wr.heap.size 103 #[.int .i64 x.a, .int .i64 x.b, .int .i64 x.c, .int .i64 x.d, .int .i64 x.e, .int .i64 x.f] := by rw [← hW1]; exact Blk.new _ _ _
   have hj1 : J pre W1 := by rw [← hW1]; exact HJ.out pre wr _ none hj (World.grownBy_alloc wr _ none) (fun r e => by cases e)
   have f1 : FixTo W0.heap.size bw bs wr W1 := by rw [← hW1]; exact FixTo.alloc _ _ _ _ _
   obtain ⟨fn, tmps, assign, body, hy, hR⟩ := HY.out pre ⟨k, hkn⟩ W1 hj1 (by rw [HPL.out]; omega)
   have w0 := b1.cell 0
   have w1 := b1.cell 1
   have w2 := b1.cell 2
   have w3 := b1.cell 3
   have w4 := b1.cell 4
   have w5 := b1.cell 5
   unfold encC at hy
   dsimp only at hy
   rw [hxg] at hy
   clear hc hxg b1
   gi_wp2
   refine ⟨fun h => (by simp [Fence.wide] at h), hR.mono ?_⟩
   rintro e W' (⟨rfl, hJ', hk'⟩ | ⟨rfl, hJx'⟩)
   ·have Hfx := Lib.hid (HFX.out.trans (f1.trans hk'))
    clear hR hk' hj1 hy f1 hW1
    gi_wp2
    go_roundw
    case rel => exact ⟨k + 1, pre ++ [⟨k, hkn⟩], by go_num, by omega, Hfx.out, hJ', by rw [List.map_append, HP.out, List.range_succ]; rfl⟩
    case measure => simp [intOf]; omega
   ·clear hR hj1 hy f1 hW1
    gi_wp2
    refine bodyPost_ret (results_none rfl _ _ _) rfl ?_
    exact ⟨⟨_, rfl⟩, .inr ⟨_, by rw [List.map_append, HP.out, List.length_append, HPL.out, List.length_singleton, List.range_succ]; rfl, hJx'⟩⟩
  ·obtain rfl : k = n := by omega
   gi_wp2
   go_end0
   exact ⟨⟨_, rfl⟩, .inl ⟨pre, HP.out, hj⟩⟩
theorem carted_any (a : Option Addr) (w : World) :
  Calls Tryz.prog 154 #[.pointer a] w fun e w' => e = .returned (.func (.func 202) #[] #[.pointer (some ⟨w.heap.size, 0, none⟩)]) ∧ w.alloc (.cells #[.pointer a] 134) = w' := by
 go_enter Tryz.func154, Tryz.ntmps154
 go_wp2
 go_ret
 exact ⟨rfl, rfl⟩
end Go.Proofs.YtkoejeghihcmlaaGreat
namespace Go.Proofs.YtkoejeghihcmlaaGreat
open Go.RowKit Go.Shelf
attribute [local go_sem] Oper.semAt_some
def cntPre {n : Nat} (ls : List Six) (h : Int) (pre : List (Cx n)) : Nat := (pre.map fun x => ls.getD x.1 z6).countP (fun x => decide (x.b ≤ h))
theorem cntPre_le {n : Nat} (ls : List Six) (h : Int) (pre : List (Cx n)) : cntPre ls h pre ≤ pre.length := by
 unfold cntPre
 have := List.countP_le_length (p := fun x : Six => decide (x.b ≤ h)) (l := pre.map fun x => ls.getD x.1 z6)
 rwa [List.length_map] at this
theorem cntPre_snoc {n : Nat} (ls : List Six) (h : Int) (pre : List (Cx n)) (x : Cx n) : cntPre ls h (pre ++ [x]) = cntPre ls h pre + if (ls.getD x.1 z6).b ≤ h then 1 else 0 := by
 unfold cntPre
 rw [List.map_append, List.countP_append]
 simp only [List.map_cons, List.map_nil, List.countP_cons, List.countP_nil, decide_eq_true_eq, Nat.zero_add]
/-- All have come. -/
theorem all_came {n : Nat} {ls : List Six} (hl : ls.length = n) {xs : List (Cx n)} (hS : xs.map (·.1) = List.range n) : (xs.map fun x => ls.getD x.1 z6) = ls := by
 have e2 : (xs.map fun x => ls.getD x.1 z6) = (xs.map (·.1)).map fun i => ls.getD i z6 := by rw [List.map_map]; rfl
 rw [e2, hS]
 apply List.ext_getElem?
 intro i
 rw [List.getElem?_map]
 by_cases hi : i < n
 ·rw [List.getElem?_range hi, getD_six (by rw [hl]; exact hi)]; rfl
 ·rw [List.getElem?_eq_none (by rw [List.length_range]; omega), List.getElem?_eq_none (by rw [hl]; omega)]; rfl
set_option maxRecDepth 100000 in
set_option maxHeartbeats 4000000 in
theorem after_any (bf : Nat) (A : Option Addr) (n c : Nat) (ls : List Six) (h : Int) (w : World) (hbf : bf < w.heap.size) (hf : w.cell? ⟨bf, 2, none⟩ = some (.slice A n c)) (ha : Arr scells 6 w A n ls) (hn : n ≤ 1000000) :
  Calls Tryz.prog 79 #[.pointer (some ⟨bf, 0, none⟩), .int .i64 h] w fun e w' => e = .returned (.int .i64 (after ls h : Nat)) ∧ Below w.heap.size w w' := by
 have HA := Lib.hid ha
 have hlen := Lib.hid ha.1
 clear ha
 refine (callsIn_wide (n := 4)).1 (callsIn_of_wp_marks Tryz.func79 rfl trivial ?_ rfl)
 simp only [Tryz.ntmps79, List.size_toArray, List.length_cons, List.length_nil, Nat.reduceAdd, Nat.reduceSub, Array.replicate_succ, Array.replicate_zero, List.push_toArray, List.append_toArray, List.nil_append, List.cons_append]
 gi_wp2_with fail
 refine ⟨trivial, (callsIn_wide.2 (carted_any _ _)).mono ?_⟩
 rintro e w' ⟨rfl, hw'⟩
 have hbH : Blk w' w.heap.size 3 #[.int .i64 h] := by rw [← hw']; exact ((Blk.new _ _ _).alloc _).alloc _
 have hbN : Blk w' (w.heap.size + 1) 3 #[.int .i64 0] := by
  rw [← hw']; have := Blk.new (w.alloc (.cells #[.int .i64 h] 3)) 3 #[.int .i64 0]; rw [World.size_alloc] at this; exact this.alloc _
 have hbQ : Blk w' (w.heap.size + 1 + 1) 134 #[.pointer (some ⟨bf, 0, none⟩)] := by
  rw [← hw']; have := Blk.new ((w.alloc (.cells #[.int .i64 h] 3)).alloc (.cells #[.int .i64 0] 3)) 134 #[.pointer (some ⟨bf, 0, none⟩)]; simp only [World.size_alloc] at this; exact this
 have hsz : w'.heap.size = w.heap.size + 3 := by rw [← hw']; simp
 have hbel : Below w.heap.size w w' := by rw [← hw']; exact (((Below.refl _ _).alloc (Nat.le_refl _) _).alloc (by simp) _).alloc (by simp; omega) _
 clear hw'
 rename World => W0
 obtain ⟨bn, hbn⟩ : ∃ bn, w.heap.size + 1 = bn := ⟨_, rfl⟩
 rw [hbn] at hbN hbQ ⊢
 gi_wp2_with fail
 have HA0 := HA.out.below hbel
 have hd0 : ∀ b o, A = some ⟨b, o, none⟩ → 0 < n → b < W0.heap.size ∧ b ≠ bn ∧ b ≠ bn := fun b o e h0 => by
  obtain ⟨b', o', e', hlt, -⟩ := HA.out.2 h0
  rw [e] at e'; cases e'
  omega
 have hf0 : W0.cell? ⟨bf, 2, none⟩ = some (.slice A n c) := (hbel.cell (p := ⟨bf, 2, none⟩) hbf).trans hf
 have HSQ := Lib.hid (carted_stops 3 W0 (bn + 1) bf bn bn A n c ls (hbQ.cell 0) hf0 HA0 hn hd0)
 have HBE := Lib.hid hbel
 have HSZ := Lib.hid hsz
 clear hbel hd0 hf0 HA0 hf hbQ
 refine wpIn_rangeFunc_ownH (α := Cx n) (F := Fence.wide) (n := 4) rfl (by omega) (gf := 202) (lb := #[.pointer (some ⟨bn + 1, 0, none⟩)]) rfl trivial
  (enters_of Tryz.func202 (by kernel_rfl) rfl) HSQ.out (fun h k => FixTo.trans h k) ?hKb (Below.refl _ _) (fun _ => rfl)
  (fun pre W' => Fix bn bn W0 W' ∧ Blk W' bn 3 #[.int .i64 (cntPre ls h pre : Nat)]) (fun _ _ _ => False) ?hI ?hIx ?h0
  (fun x a' W => ∃ Bx, W0.heap.size ≤ Bx ∧ Blk W Bx 103 #[.int .i64 (ls.getD x.1 z6).a, .int .i64 (ls.getD x.1 z6).b, .int .i64 (ls.getD x.1 z6).c, .int .i64 (ls.getD x.1 z6).d, .int .i64 (ls.getD x.1 z6).e, .int .i64 (ls.getD x.1 z6).f] ∧
   a' = { tmps := #[.pointer (some ⟨bf, 0, none⟩), .int .i64 h, undef, .pointer (some ⟨w.heap.size, 0, none⟩), .int .i64 0, .pointer (some ⟨bn, 0, none⟩), undef, .pointer (some ⟨Bx, 0, none⟩), .pointer (some ⟨bf, 0, none⟩), .func (.func 202) #[] #[.pointer (some ⟨bn + 1, 0, none⟩)], .int .i64 x.1, sv (ls.getD x.1 z6), undef, undef, undef, undef, undef, undef, undef], defers := [] }) ?hAx ?assign ?body ?done ?stop
 case hKb =>
  intro Wb l o o' hl ho _ _
  exact FixTo.putObj _ _ _ _ (by omega) _
 case hI =>
  rintro pre A' B row ⟨hfx, hbw⟩ hg hr
  have hr1 : ∀ r, row = some r → ∃ o : Obj, A'.heap[r]? = some o ∧ o.isCells = false := fun r e => (hr r e).2
  exact ⟨hfx.own hg (fun r e => (hr r e).1), hbw.own hg hr1⟩
 case hIx => exact fun _ _ _ _ _ hs _ _ => hs
 case h0 => exact ⟨Fix.refl _ _ _, hbN⟩
 case hAx =>
  rintro x a' _ X Y row ⟨Bx, h1, h2, h3⟩ hg hr
  exact ⟨Bx, h1, h2.own hg (fun r e => (hr r e).2), h3⟩
 case assign =>
  rintro l pre x W K ⟨hfx, hbw⟩ hK
  unfold encC
  gi_wp2
  refine hK _ _ ((KeepsOthers.alloc _ _).from _) (FixTo.alloc _ _ _ _ _) ⟨hfx.trans (Fix.of_below (one_more _ _)), hbw.alloc _⟩ ⟨W.heap.size, hfx.size, Blk.new _ _ _, rfl⟩
 case body =>
  rintro l pre x a' W hl - ⟨hfx, hbw⟩ ⟨Bx, hBx, hB, rfl⟩ hpl
  have h0 := (hfx.blk hbH (by omega) (by omega)).cell 0
  have c1 := hB.cell 1
  have n0 := hbw.cell 0
  have n1 := hbw.frozen 0
  obtain ⟨y, hy⟩ : ∃ y, ls.getD x.1 z6 = y := ⟨_, rfl⟩
  obtain ⟨q, hq⟩ : ∃ q, cntPre ls h pre = q := ⟨_, rfl⟩
  have hql : q ≤ n := by have := cntPre_le ls h pre; omega
  have HN := Lib.hid (show cntPre ls h (pre ++ [x]) = q + if y.b ≤ h then 1 else 0 by rw [cntPre_snoc, hq, hy])
  rw [hq] at n0 hbw
  rw [hy] at c1
  have HBW := Lib.hid hbw
  have HFX := Lib.hid hfx
  clear hq hB hbw hfx
  by_cases hle : y.b ≤ h
  ·have HN2 := Lib.hid (show cntPre ls h (pre ++ [x]) = q + 1 by rw [HN.out, if_pos hle])
   have e1 : decide (y.b ≤ h) = true := decide_eq_true hle
   gi_wp2
   refine ⟨(KeepsOthers.setCell _ _ _).from _, ((Fix.refl bn bn W).setCell (p := ⟨bn, 0, none⟩) (.inl rfl) _).to _, HFX.out.setCell (p := ⟨bn, 0, none⟩) (.inl rfl) _, ?_⟩
   rw [HN2.out]
   exact HBW.out.set_ 0 _
  ·have HN2 := Lib.hid (show cntPre ls h (pre ++ [x]) = q by rw [HN.out, if_neg hle]; rfl)
   have e1 : decide (y.b ≤ h) = false := decide_eq_false hle
   gi_wp2
   exact ⟨KeepsFrom.refl _ _, FixTo.refl _ _ _ _, HFX.out, by rw [HN2.out]; exact HBW.out⟩
 case done =>
  rintro D xs W hD hS ⟨hfx, hbw⟩ hK
  have n0 := hbw.cell 0
  have HF := Lib.hid ((hfx.putObj hD (.deferred none)).below (B := w.heap.size) (by omega) HBE.out.size)
  have HS := Lib.hid (show cntPre ls h xs = after ls h by unfold cntPre; rw [all_came hlen.out hS]; rfl)
  rw [HS.out] at n0
  gi_wp2
  refine ⟨by simp, .inl ⟨_, _, rfl, run_takeDeferred hK, ?_⟩⟩
  exact ⟨_, results_tmp rfl _ _ _, rfl, HBE.out.trans HF.out⟩
 case stop =>
  rintro D c pre W _ _ h _
  exact h.elim
end Go.Proofs.YtkoejeghihcmlaaGreat
namespace Go.Proofs.YtkoejeghihcmlaaGreat
open Go.RowKit Go.Shelf
attribute [local go_sem] Oper.semAt_some
/-- One step forwards. -/
def fwdS (ls : List Six) (st : List Rg) (i : Nat) : List Rg := nar st (i + 1) ⟨Lo st i - Gr ls i, Hi st i - Ls ls i⟩
theorem fwdS_range (ls : List Six) (st : List Rg) : ∀ k, (List.range k).foldl (fwdS ls) st = fwdK ls st k
 | 0 => rfl
 | k + 1 => by rw [List.range_succ, List.foldl_append, fwdS_range ls st k]; rfl
/-- All ends are within bounds. -/
def Bd (st : List Rg) (K : Int) : Prop := ∀ i, i < st.length → -K ≤ Lo st i ∧ Lo st i ≤ K ∧ -K ≤ Hi st i ∧ Hi st i ≤ K
theorem Bd.nar {st : List Rg} {K : Int} (h : Bd st K) {i : Nat} {r : Rg} {D : Int} (hD : 0 ≤ D) (hr : -(K + D) ≤ r.lo ∧ r.lo ≤ K + D ∧ -(K + D) ≤ r.hi ∧ r.hi ≤ K + D) (hi : i < st.length) : Bd (nar st i r) (K + D) := by
 intro j hj
 rw [nar_len] at hj
 have h1 := h j hj
 rw [nar_lo hi, nar_hi hi]
 by_cases e : j = i
 ·subst e
  rw [if_pos rfl, if_pos rfl]
  omega
 ·rw [if_neg e, if_neg e]
  omega
theorem Bd.mono {st : List Rg} {K K' : Int} (h : Bd st K) (hk : K ≤ K') : Bd st K' := fun i hi => by have := h i hi; omega
/-- The loads' numbers are within bounds. -/
def Wb (ls : List Six) : Prop := ∀ i, i < ls.length → 0 ≤ Ls ls i ∧ Ls ls i ≤ 10000 ∧ 0 ≤ Gr ls i ∧ Gr ls i ≤ 10000
theorem Bd.fwd {ls : List Six} {st : List Rg} {K : Int} (h : Bd st K) (hw : Wb ls) (hl : st.length = ls.length + 1) {i : Nat} (hi : i < ls.length) : Bd (fwdS ls st i) (K + 10000) := by
 have h1 := h i (by omega)
 have h2 := hw i hi
 refine h.nar (by decide) ?_ (by omega)
 dsimp only
 omega
theorem wrap_succ : ∀ i : Nat, i ≤ 1000 → IntKind.i64.wrap ((i : Int) + 1) = (i : Int) + 1 := fun i hi => by rw [IntKind.wrap_i64]; omega
theorem blk_second (V : World) (o : Obj) (t : TypeId) (cs : Array Value) : Blk ((V.alloc o).alloc (.cells cs t)).drew (V.heap.size + 1) t cs := by
 have := Blk.new (V.alloc o) t cs
 rw [World.size_alloc] at this
 exact this
set_option maxRecDepth 100000 in
set_option maxHeartbeats 8000000 in
theorem settle_any (bf bs : Nat) (pp : Value) (known : Int) (A : Option Addr) (n c : Nat) (ls : List Six) (st : List Rg) (w : World) (hf : Fd w bf bs pp known A n c (n + 1) st) (ha : Arr scells 6 w A n ls) (hn : n ≤ 1000)
  (hAd : ∀ b o, A = some ⟨b, o, none⟩ → 0 < n → b ≠ bs) (hw : Wb ls) (hb : Bd st 10000000) :
  Calls Tryz.prog 163 #[.pointer (some ⟨bf, 0, none⟩)] w fun e w' => e = .returned (.tuple #[]) ∧ Fix bs bs w w' ∧ Fd w' bf bs pp known A n c (n + 1) (settle ls st) := by
 have HA := Lib.hid ha
 have HF := Lib.hid hf
 have hlen := Lib.hid ha.1
 have HW := Lib.hid hw
 have HB := Lib.hid hb
 have hfl := hf.f.lt
 have hsl := hf.s.lt
 clear ha hf hw hb
 refine (callsIn_wide (n := 4)).1 (callsIn_of_wp_marks Tryz.func163 rfl trivial ?_ rfl)
 simp only [Tryz.ntmps163, List.size_toArray, List.length_cons, List.length_nil, Nat.reduceAdd, Nat.reduceSub, Array.replicate_succ, Array.replicate_zero, List.push_toArray, List.append_toArray, List.nil_append, List.cons_append]
 refine wpIn_wide.2 ?_
 go_wp2_with fail
 refine (carted_any _ _).mono ?_
 rintro e w' ⟨rfl, hw'⟩
 have hb0 : Blk w' w.heap.size 134 #[.pointer (some ⟨bf, 0, none⟩)] := by rw [← hw']; exact ((Blk.new _ _ _).alloc _).alloc _
 have hb1 : Blk w' (w.heap.size + 1) 227 #[.func (.func 162) #[.pointer (some ⟨bf, 0, none⟩)] #[]] := by
  rw [← hw']; have := Blk.new (w.alloc (.cells #[.pointer (some ⟨bf, 0, none⟩)] 134)) 227 #[.func (.func 162) #[.pointer (some ⟨bf, 0, none⟩)] #[]]; rw [World.size_alloc] at this; exact this.alloc _
 have hbQ : Blk w' (w.heap.size + 1 + 1) 134 #[.pointer (some ⟨bf, 0, none⟩)] := by
  rw [← hw']; have := Blk.new ((w.alloc (.cells #[.pointer (some ⟨bf, 0, none⟩)] 134)).alloc (.cells #[.func (.func 162) #[.pointer (some ⟨bf, 0, none⟩)] #[]] 227)) 134 #[.pointer (some ⟨bf, 0, none⟩)]; simp only [World.size_alloc] at this; exact this
 have hsz : w'.heap.size = w.heap.size + 3 := by rw [← hw']; simp
 have hbel : Below w.heap.size w w' := by rw [← hw']; exact (((Below.refl _ _).alloc (Nat.le_refl _) _).alloc (by simp) _).alloc (by simp; omega) _
 clear hw'
 rename World => W0
 obtain ⟨b1, hb1e⟩ : ∃ b1, w.heap.size + 1 = b1 := ⟨_, rfl⟩
 rw [hb1e] at hb1 hbQ ⊢
 go_wp2_with fail
 have HA0 := Lib.hid (HA.out.below hbel)
 have hf0 : Fd W0 bf bs pp known A n c (n + 1) st := ⟨HF.out.f.ext hbel, HF.out.s.ext hbel, HF.out.len, HF.out.ne⟩
 have hd0 : ∀ b o, A = some ⟨b, o, none⟩ → 0 < n → b < W0.heap.size ∧ b ≠ bs ∧ b ≠ bs := fun b o e h0 => by
  obtain ⟨b', o', e', hlt, -⟩ := HA.out.2 h0
  have := hAd b o e h0
  rw [e] at e'; cases e'
  have := hbel.size
  omega
 have HSQ := Lib.hid (carted_stops 3 W0 (b1 + 1) bf bs bs A n c ls (hbQ.cell 0) (hf0.f.cell 2) HA0.out (by omega) hd0)
 have HBE := Lib.hid hbel
 have HSZ := Lib.hid hsz
 have HF0 := Lib.hid hf0
 have HDD := Lib.hid hd0
 have hne := HF.out.ne
 clear hbel hd0 hf0 hbQ hAd
 refine (wpIn_wide (n := 4)).1 ?_
 refine wpIn_rangeFunc_ownH (α := Cx n) (F := Fence.wide) (n := 4) rfl (by omega) (gf := 202) (lb := #[.pointer (some ⟨b1 + 1, 0, none⟩)]) rfl trivial
  (enters_of Tryz.func202 (by kernel_rfl) rfl) HSQ.out (fun h k => FixTo.trans h k) ?hKb (Below.refl _ _) (fun _ => rfl)
  (fun pre W' => Fix bs bs W0 W' ∧ Fd W' bf bs pp known A n c (n + 1) ((pre.map (·.1)).foldl (fwdS ls) st) ∧ Bd ((pre.map (·.1)).foldl (fwdS ls) st) (10000000 + 10000 * (pre.length : Int))) (fun _ _ _ => False) ?hI ?hIx ?h0
  (fun x a' W => ∃ Bx, W0.heap.size ≤ Bx ∧ Blk W Bx 103 #[.int .i64 (ls.getD x.1 z6).a, .int .i64 (ls.getD x.1 z6).b, .int .i64 (ls.getD x.1 z6).c, .int .i64 (ls.getD x.1 z6).d, .int .i64 (ls.getD x.1 z6).e, .int .i64 (ls.getD x.1 z6).f] ∧
   a' = { tmps := #[.pointer (some ⟨bf, 0, none⟩), .pointer (some ⟨w.heap.size, 0, none⟩), .pointer (some ⟨b1, 0, none⟩), .int .i64 x.1, .pointer (some ⟨Bx, 0, none⟩), undef, undef, undef, undef, .pointer (some ⟨bf, 0, none⟩), .func (.func 162) #[.pointer (some ⟨bf, 0, none⟩)] #[], .pointer (some ⟨bf, 0, none⟩), .func (.func 202) #[] #[.pointer (some ⟨b1 + 1, 0, none⟩)], .int .i64 x.1, sv (ls.getD x.1 z6), undef, undef, undef, undef, undef, undef, undef, undef, undef, undef, undef, undef, undef, undef, undef, undef, undef, undef, undef, undef, undef, undef, undef, undef, undef, undef, undef, undef, undef, undef, undef, undef, undef, undef, undef, undef, undef, undef, undef, undef, undef, undef, undef, undef, undef, undef, undef, undef, undef, undef, undef, undef, undef, undef, undef, undef, undef, undef, undef, undef, undef, undef, undef, undef], defers := [] }) ?hAx ?assign ?body ?done ?stop
 case hKb =>
  intro Wb l o o' hl ho _ _
  exact FixTo.putObj _ _ _ _ (by omega) _
 case hI =>
  rintro pre A' B row ⟨hfx, hfd, hbd⟩ hg hr
  have hr1 : ∀ r, row = some r → ∃ o : Obj, A'.heap[r]? = some o ∧ o.isCells = false := fun r e => (hr r e).2
  exact ⟨hfx.own hg (fun r e => (hr r e).1), ⟨hfd.f.own hg hr1, hfd.s.own hg hr1, hfd.len, hfd.ne⟩, hbd⟩
 case hIx => exact fun _ _ _ _ _ hs _ _ => hs
 case h0 => exact ⟨Fix.refl _ _ _, HF0.out, by simpa using HB.out⟩
 case hAx =>
  rintro x a' _ X Y row ⟨Bx, h1, h2, h3⟩ hg hr
  exact ⟨Bx, h1, h2.own hg (fun r e => (hr r e).2), h3⟩
 case assign =>
  rintro l pre x W K ⟨hfx, hfd, hbd⟩ hK
  unfold encC
  gi_wp2
  refine hK _ _ ((KeepsOthers.alloc _ _).from _) (FixTo.alloc _ _ _ _ _) ⟨hfx.trans (Fix.of_below (one_more _ _)), ⟨hfd.f.alloc _, hfd.s.alloc _, hfd.len, hfd.ne⟩, hbd⟩ ⟨W.heap.size, hfx.size, Blk.new _ _ _, rfl⟩
 case body =>
  rintro l pre x a' W hl - ⟨hfx, hfd, hbd⟩ ⟨Bx, hBx, hB, rfl⟩ hpl
  have q0 := (hfx.blk hb0 (by omega) (by omega)).cell 0
  have q1 := (hfx.blk hb1 (by omega) (by omega)).cell 0
  have f3 := hfd.f.cell 3
  obtain ⟨xi, hxi⟩ : ∃ xi, x.1 = xi := ⟨_, rfl⟩
  have hxn : xi < n := by rw [← hxi]; exact x.2
  obtain ⟨sp, hsp⟩ : ∃ sp, (pre.map (·.1)).foldl (fwdS ls) st = sp := ⟨_, rfl⟩
  have HN := Lib.hid (show ((pre ++ [x]).map (·.1)).foldl (fwdS ls) st = fwdS ls sp xi by rw [List.map_append, List.foldl_append, hsp, ← hxi]; rfl)
  rw [hsp] at hfd hbd
  have hsl2 := hfd.len
  obtain ⟨v0, v1⟩ := rvals_at (st := sp) (i := xi) (by omega)
  have s0 : W.cell? ⟨bs, xi * 2, none⟩ = some (.int .i64 (Lo sp xi)) := by rw [hfd.s.cell, v0]
  have s1 : W.cell? ⟨bs, xi * 2 + 1, none⟩ = some (.int .i64 (Hi sp xi)) := by rw [hfd.s.cell, v1]
  have hbx := hbd xi (by omega)
  have hwx := HW.out xi (by rw [hlen.out]; exact hxn)
  have HBN := Lib.hid (hbd.fwd HW.out (by rw [hlen.out]; exact hsl2) (i := xi) (by rw [hlen.out]; exact hxn))
  rw [hxi] at hB ⊢
  have l2 := hB.cell 2
  have l3 := hB.cell 3
  have HFD := Lib.hid hfd
  have HFX := Lib.hid hfx
  have hpl2 : (pre.length : Int) ≤ 1000 := by omega
  have HST := Lib.hid (show fwdS ls sp xi = nar sp (xi + 1) ⟨Lo sp xi - Gr ls xi, Hi sp xi - Ls ls xi⟩ from rfl)
  unfold Gr Ls at HST hwx
  obtain ⟨lo, hlo⟩ : ∃ lo, Lo sp xi = lo := ⟨_, rfl⟩
  obtain ⟨hi, hhi⟩ : ∃ hi, Hi sp xi = hi := ⟨_, rfl⟩
  obtain ⟨y, hy⟩ : ∃ y, ls.getD xi z6 = y := ⟨_, rfl⟩
  rw [hy] at hwx HST l2 l3
  rw [hlo] at s0 hbx HST
  rw [hhi] at s1 hbx HST
  rw [hy]
  have HT := Lib.hid (fun W1 (g : Below W.heap.size W W1) => (show Calls Tryz.prog 162 #[.pointer (some ⟨bf, 0, none⟩), .int .i64 ((xi : Int) + 1), .agg #[.int .i64 (lo - y.d), .int .i64 (hi - y.c)]] W1 fun e w' => e = .returned (.tuple #[]) ∧ Fix bs bs W1 w' ∧ Fd w' bf bs pp known A n c (n + 1) (fwdS ls sp xi) by
   have := narrow_any bf bs pp known A n c (n + 1) (xi + 1) sp ⟨lo - y.d, hi - y.c⟩ W1 ⟨HFD.out.f.ext g, HFD.out.s.ext g, HFD.out.len, HFD.out.ne⟩ (by omega)
   rw [← HST.out] at this
   exact this))
  clear hB hfd hfx v0 v1 hsp hxi hlo hhi hy hbd
  have q2 := keepAlloc q1 (.cells #[.int .i64 lo, .int .i64 hi] 33)
  have l4 := keepAlloc l2 (.cells #[.int .i64 lo, .int .i64 hi] 33)
  have l5 := keepAlloc l3 (.cells #[.int .i64 lo, .int .i64 hi] 33)
  gi_wp2_with (refine ⟨trivial, ?_⟩; gi_at_call 162; refine (CallsIn.inRound l (callsIn_wide.2 (HT.out _ (one_more W _)))).mono ?_; rintro e W7 ⟨rfl, f7, hf7⟩; have F7 := Lib.hid ((Fix.of_below (one_more W _) : Fix bs bs W _).trans f7); have HF7 := Lib.hid hf7; clear f7 hf7)
  refine ⟨keepsFrom_of_fix _ F7.out HFD.out.s HFD.out.s, F7.out.to _, HFX.out.trans F7.out, ?_, ?_⟩
  ·rw [HN.out]; exact HF7.out
  ·rw [HN.out, List.length_append, List.length_singleton]
   have := HBN.out
   rw [show (10000000 : Int) + 10000 * (pre.length : Int) + 10000 = 10000000 + 10000 * ((pre.length + 1 : Nat) : Int) by omega] at this
   exact this
 case done =>
  rintro D xs W hD hS ⟨hfx, hfd, hbd⟩ hK
  have hxl : xs.length = n := by
   have := congrArg List.length hS
   rw [List.length_map, List.length_range] at this
   exact this
  rw [hS, fwdS_range, hxl] at hbd
  rw [hS, fwdS_range] at hfd
  obtain ⟨fw, hfw⟩ : ∃ fw, fwdK ls st n = fw := ⟨_, rfl⟩
  have HFW := Lib.hid (show settle ls st = bwdK ls fw n by unfold settle; rw [hlen.out, hfw])
  rw [hfw] at hfd hbd
  have HFD := Lib.hid hfd
  have HFX := Lib.hid hfx
  have HBD := Lib.hid hbd
  have HK := Lib.hid hK
  have q0 := (hfx.blk hb0 (by omega) (by omega)).cell 0
  have f2 := hfd.f.cell 2
  clear hS hfx hfd hbd hfw hK hxl HSQ
  go_upto_region 8 with fail
  have HWR := Lib.hid wrap_succ
  have HB2 := Lib.hid (HBD.out.mono (K' := 20000000) (by omega))
  clear q0 f2
  go_loopw [6] (fun i wr => ∃ k : Nat, k ≤ n ∧ i = .int .i64 ((n : Int) - 1 - (k : Int)) ∧ Fix bs bs W0 wr ∧ wr.heap[D]? = some (.deferred (some [])) ∧ Fd wr bf bs pp known A n c (n + 1) (bwdK ls fw k) ∧ Bd (bwdK ls fw k) (20000000 + 10000 * (k : Int))) (fun i _ => (intOf i + 1).toNat)
  case atStart => exact ⟨0, Nat.zero_le _, by simp, HFX.out, HK.out, HFD.out, by simpa [bwdK] using HB2.out⟩
  case round =>
   obtain ⟨k, hk, rfl, hfx, hK, hfd, hbd⟩ := hrel
   obtain ⟨V, rfl⟩ : ∃ V : World, V = wr := ⟨_, rfl⟩
   obtain ⟨sp, hsp⟩ : ∃ sp, bwdK ls fw k = sp := ⟨_, rfl⟩
   have HSP := Lib.hid hsp
   rw [hsp] at hfd hbd
   by_cases hkn : k < n
   ·obtain ⟨ix, hix⟩ : ∃ ix, n - 1 - k = ix := ⟨_, rfl⟩
    have hixe : (n : Int) - 1 - (k : Int) = (ix : Nat) := by omega
    rw [hixe]
    have hxn : ix < n := by omega
    have hsl2 := hfd.len
    obtain ⟨v0, v1⟩ := rvals_at (st := sp) (i := ix + 1) (by omega)
    have q0 := (hfx.blk hb0 (by omega) (by omega)).cell 0
    have q1 := (hfx.blk hb1 (by omega) (by omega)).cell 0
    have f2 := hfd.f.cell 2
    have f3 := hfd.f.cell 3
    have s0 : V.cell? ⟨bs, (ix + 1) * 2, none⟩ = some (.int .i64 (Lo sp (ix + 1))) := by rw [hfd.s.cell, v0]
    have s1 : V.cell? ⟨bs, (ix + 1) * 2 + 1, none⟩ = some (.int .i64 (Hi sp (ix + 1))) := by rw [hfd.s.cell, v1]
    obtain ⟨ba, oa, e0, -, -, hc⟩ := six_at (HA0.out.fix hfx (fun b o e h0 => ⟨(HDD.out b o e h0).2.1, (HDD.out b o e h0).2.1⟩)) hxn
    obtain ⟨-, -, l2, l3, -, -⟩ := hc V (Below.refl _ _)
    have hbx := hbd (ix + 1) (by omega)
    have hwx := HW.out ix (by rw [hlen.out]; exact hxn)
    have HST := Lib.hid (show bwdK ls fw (k + 1) = nar sp ix ⟨Lo sp (ix + 1) + Ls ls ix, Hi sp (ix + 1) + Gr ls ix⟩ by
     rw [← hsp]
     show nar (bwdK ls fw k) (ls.length - 1 - k) _ = _
     rw [hlen.out, hix, show n - k = ix + 1 by omega])
    have HBN := Lib.hid (hbd.nar (i := ix) (r := ⟨Lo sp (ix + 1) + Ls ls ix, Hi sp (ix + 1) + Gr ls ix⟩) (D := 10000) (by decide) (by dsimp only; omega) (by omega))
    rw [← HST.out] at HBN
    have HFDk := Lib.hid hfd
    have HFXk := Lib.hid hfx
    have HKk := Lib.hid hK
    unfold Gr Ls at HST hwx
    obtain ⟨lo, hlo⟩ : ∃ lo, Lo sp (ix + 1) = lo := ⟨_, rfl⟩
    obtain ⟨hi, hhi⟩ : ∃ hi, Hi sp (ix + 1) = hi := ⟨_, rfl⟩
    obtain ⟨y, hy⟩ : ∃ y, ls.getD ix z6 = y := ⟨_, rfl⟩
    rw [hy] at hwx HST l2 l3
    rw [hlo] at s0 hbx HST
    rw [hhi] at s1 hbx HST
    have HT := Lib.hid (fun W1 (g : Below V.heap.size V W1) => (show Calls Tryz.prog 162 #[.pointer (some ⟨bf, 0, none⟩), .int .i64 (ix : Nat), .agg #[.int .i64 (lo + y.c), .int .i64 (hi + y.d)]] W1 fun e w' => e = .returned (.tuple #[]) ∧ Fix bs bs W1 w' ∧ Fd w' bf bs pp known A n c (n + 1) (bwdK ls fw (k + 1)) by
     have := narrow_any bf bs pp known A n c (n + 1) ix sp ⟨lo + y.c, hi + y.d⟩ W1 ⟨HFDk.out.f.ext g, HFDk.out.s.ext g, HFDk.out.len, HFDk.out.ne⟩ (by omega)
     rw [← HST.out] at this
     exact this))
    have HD' := Lib.hid (show D ≠ bs from by omega)
    subst e0
    clear hc hfd hfx v0 v1 hsp hlo hhi hy hbd hK hixe
    obtain ⟨m, hm⟩ : ∃ m, n + 1 = m := ⟨_, rfl⟩
    rw [hm] at f3
    have hxm : ix + 1 < m := by omega
    have hxi0 : (0 : Int) ≤ (ix : Int) := by omega
    have hxi1 : (0 : Int) ≤ (ix : Int) + 1 := by omega
    have hxi2 : (ix : Int) + 1 < (m : Int) := by omega
    have hxi6 : (ix : Int) < (n : Int) := by omega
    have hxi4 := HWR.out ix (by omega)
    clear hm
    go_upto_region 10 with fail
    go_cut [7, 8] from 49 to 65 (fun s7 s8 wx => ∃ b7 b8, s7 = .pointer (some ⟨b7, 0, none⟩) ∧ s8 = .pointer (some ⟨b8, 0, none⟩) ∧ Below V.heap.size V wx ∧ Blk wx b7 33 #[.int .i64 lo, .int .i64 hi] ∧ Blk wx b8 33 #[.int .i64 y.c, .int .i64 y.d])
    case first =>
     go_region_held3 (fun w' => w'.cell? ⟨w.heap.size, 0, none⟩ = some (.pointer (some ⟨bf, 0, none⟩)) ∧ w'.cell? ⟨bf, 2, none⟩ = some (.slice (some ⟨ba, oa, none⟩) n c) ∧ w'.cell? ⟨bf, 3, none⟩ = some (.slice (some ⟨bs, 0, none⟩) m m) ∧ w'.cell? ⟨bs, (ix + 1) * 2, none⟩ = some (.int .i64 lo) ∧ w'.cell? ⟨bs, (ix + 1) * 2 + 1, none⟩ = some (.int .i64 hi) ∧ w'.cell? ⟨ba, oa + ix * 6 + 2, none⟩ = some (.int .i64 y.c) ∧ w'.cell? ⟨ba, oa + ix * 6 + 3, none⟩ = some (.int .i64 y.d))
      (first | go_keep | exact ⟨keepAlloc q0 _, keepAlloc f2 _, keepAlloc f3 _, keepAlloc s0 _, keepAlloc s1 _, keepAlloc l2 _, keepAlloc l3 _⟩ | exact ⟨keepAlloc (keepAlloc q0 _) _, keepAlloc (keepAlloc f2 _) _, keepAlloc (keepAlloc f3 _) _, keepAlloc (keepAlloc s0 _) _, keepAlloc (keepAlloc s1 _) _, keepAlloc (keepAlloc l2 _) _, keepAlloc (keepAlloc l3 _) _⟩)
      (fail)
     all_goals (try go_wp2_with fail)
     all_goals go_meet
     all_goals first
      | exact ⟨_, _, rfl, rfl, (two_more _ _ _).drew, (Blk.new _ _ _).alloc _, blk_second _ _ _ _⟩
      | exact ⟨_, _, rfl, rfl, (two_more _ _ _).drew, blk_second _ _ _ _, (Blk.new _ _ _).alloc _⟩
    case rest =>
     obtain ⟨b7, b8, rfl, rfl, hg, hb7, hb8⟩ := hcut
     rename World => V2
     have r1 := (hg.cell (p := ⟨b1, 0, none⟩) (World.block_lt_of_cell? V _ q1)).trans q1
     have r2 := hb7.cell 0
     have r3 := hb7.cell 1
     have r4 := hb8.cell 0
     have r5 := hb8.cell 1
     have HG := Lib.hid hg
     have HDV := Lib.hid ((hg.block D (Array.getElem?_eq_some_iff.1 HKk.out).1).trans HKk.out)
     clear hg hb7 hb8 q0 q1 f2 f3 s0 s1 l2 l3
     go_wp2_with (go_at_call 162; (refine (HT.out V2 HG.out).mono ?_); rintro e V3 ⟨rfl, f3, hf3⟩; have F3 := Lib.hid f3; have HF3 := Lib.hid hf3; clear f3 hf3)
     go_roundw
     case rel =>
      refine ⟨k + 1, by omega, by go_num, HFXk.out.trans ((Fix.of_below HG.out).trans F3.out), (F3.out.block D (Array.getElem?_eq_some_iff.1 HDV.out).1 HD'.out HD'.out).trans HDV.out, HF3.out, ?_⟩
      have := HBN.out
      rw [show (20000000 : Int) + 10000 * (k : Int) + 10000 = 20000000 + 10000 * ((k + 1 : Nat) : Int) by omega] at this
      exact this
     case measure => simp [intOf]
   ·obtain rfl : n = k := by omega
    have he : (n : Int) - 1 - (n : Int) = -1 := by omega
    rw [he]
    have HFDn := Lib.hid hfd
    have HFXn := Lib.hid hfx
    clear hfd hfx hbd hsp
    go_wp2_with fail
    refine ⟨by simp, .inl ⟨_, _, rfl, run_takeDeferred hK, ?_⟩⟩
    refine ⟨_, results_none rfl _ _ _, rfl, (Fix.of_below HBE.out).trans (HFXn.out.putObj hD _), ?_⟩
    rw [HFW.out, HSP.out]
    exact ⟨HFDn.out.f.putObj (by omega) _, HFDn.out.s.putObj (by omega) _, HFDn.out.len, HFDn.out.ne⟩
 case stop =>
  rintro D c pre W _ _ h _
  exact h.elim
end Go.Proofs.YtkoejeghihcmlaaGreat
namespace Go.Proofs.YtkoejeghihcmlaaGreat
open Go.RowKit Go.Shelf Go.Sort
shelf_lay_g SlLaysF0.n20 Slsf 20 at Tryz 228 as insSort
instance : Inhabited Six := ⟨z6⟩
def cmpI (a b : Int) : Int := if a < b then -1 else if b < a then 1 else 0
theorem isNaN_any (x : Int) (w : World) : Calls Tryz.prog 198 #[.int .i64 x] w fun e w' => e = .returned (.bool false) ∧ w = w' := by
 go_enter Tryz.func198, Tryz.ntmps198
 go_wp2
 go_ret
 exact ⟨by simp, rfl⟩
theorem cmp_any (a b : Int) (w : World) : Calls Tryz.prog 135 #[.int .i64 a, .int .i64 b] w fun e w' => e = .returned (.int .i64 (cmpI a b)) ∧ w = w' := by
 unfold cmpI
 by_cases h1 : a < b
 ·go_enter Tryz.func135, Tryz.ntmps135
  go_wp2_with (go_at_call 198; (with_reducible refine (isNaN_any _ _).mono ?_); rintro e w' ⟨rfl, rfl⟩)
  go_ret
  exact ⟨rfl, rfl⟩
 ·by_cases h2 : b < a
  ·go_enter Tryz.func135, Tryz.ntmps135
   go_wp2_with (go_at_call 198; (with_reducible refine (isNaN_any _ _).mono ?_); rintro e w' ⟨rfl, rfl⟩)
   go_ret
   exact ⟨rfl, rfl⟩
  ·go_enter Tryz.func135, Tryz.ntmps135
   go_wp2_with (go_at_call 198; (with_reducible refine (isNaN_any _ _).mono ?_); rintro e w' ⟨rfl, rfl⟩)
   go_ret
   exact ⟨rfl, rfl⟩
theorem byHour_any (x y : Six) (w : World) : Calls Tryz.prog 161 #[sv x, sv y] w fun e w' => e = .returned (.int .i64 (cmpI x.b y.b)) ∧ ∃ q os', w' = grow (w.drewN q) os' := by
 have T := fun W => cmp_any x.b y.b W
 generalize cmpI x.b y.b = r at T ⊢
 have HT := Lib.hid T
 clear T
 go_enter Tryz.func161, Tryz.ntmps161
 go_wp2_with (go_at_call 135; (with_reducible refine (HT.out _).mono ?_); rintro e w' ⟨rfl, rfl⟩)
 go_ret
 exact ⟨rfl, 0, _, by rw [alloc_eq_grow, alloc_eq_grow, grow_grow]; rfl⟩
theorem flatK_list (xs : List Six) : flatK scells 6 xs.toArray = (xs.flatMap scells).toArray := by
 refine ext_get! (by rw [size_flatK, List.size_toArray, List.size_toArray, flat_len scells_len]) fun t ht => ?_
 rw [size_flatK, List.size_toArray] at ht
 rw [get_flatK _ _ _ _ (by rw [List.size_toArray]; exact ht)]
 have hk : t / 6 < xs.length := by omega
 have e := flat_get scells_len xs (t / 6) (t % 6) (by omega)
 rw [show t / 6 * 6 + t % 6 = t by omega, List.getElem?_eq_getElem hk] at e
 rw [getElem!_pos xs.toArray (t / 6) (by rw [List.size_toArray]; exact hk)]
 rw [getElem!_pos (xs.flatMap scells).toArray t (by rw [List.size_toArray, flat_len scells_len]; exact ht)]
 have e2 : (xs.flatMap scells)[t]? = some ((xs.flatMap scells)[t]'(by rw [flat_len scells_len]; exact ht)) := List.getElem?_eq_getElem _
 rw [e2] at e
 simp only [Option.bind_some] at e
 have hl : t % 6 < (scells xs[t / 6]).length := by rw [scells_len]; omega
 rw [List.getElem?_eq_getElem hl] at e
 rw [List.getElem_toArray, List.getElem_toArray, getElem!_pos (scells xs[t / 6]) (t % 6) hl]
 exact (Option.some.inj e).symm
theorem holdsK_of {w : World} {base : Nat} {v : Value} {xs : List Six} (h : OwnL scells 6 103 w base v xs) (hv : v ≠ .slice none 0 0) :
  ∃ g cap cur, v = .slice (some ⟨g, 0, none⟩) xs.length cap ∧ base ≤ g ∧ w.heap[g]? = some (.cells cur 103 (0, 0)) ∧ xs.length ≤ cap ∧ cap ≤ maxLen ∧ cur.size = cap * 6 ∧ HoldsK scells 6 w g 0 xs.toArray := by
 obtain ⟨h1, ⟨e0, _⟩ | ⟨g, cap, cur, rfl, hb, hg, hn, hm, hs, ht⟩⟩ := h
 ·exact absurd e0 hv
 ·refine ⟨g, cap, cur, rfl, hb, hg, hn, hm, hs, fun j hj => ?_⟩
  rw [flatK_list] at hj ⊢
  rw [List.size_toArray, flat_len scells_len] at hj
  refine ⟨?_, by simp [World.frozen?, hg]⟩
  have e1 : (cur.toList.take (xs.length * 6))[j]? = (xs.flatMap scells)[j]? := by rw [ht]
  rw [List.getElem?_take, if_pos hj, Array.getElem?_toList, List.getElem?_eq_getElem (by rw [flat_len scells_len]; exact hj)] at e1
  rw [show (⟨g, 0 + j, none⟩ : Addr) = ⟨g, j, none⟩ by rw [Nat.zero_add], cell_of_row w g j cur 103 (0, 0) hg, e1,
   getElem!_pos (xs.flatMap scells).toArray j (by rw [List.size_toArray, flat_len scells_len]; exact hj), List.getElem_toArray]
  rfl
theorem own_sorted {w : World} {base g cap q : Nat} {cur : Array Value} {os : Array Obj} {xs ys : List Six} (hl : ys.length = xs.length) (hb : base ≤ g) (hg : w.heap[g]? = some (.cells cur 103 (0, 0))) (hn : xs.length ≤ cap) (hm : cap ≤ maxLen) (hs : cur.size = cap * 6) :
  OwnL scells 6 103 (sortWorldK scells 6 w g 0 q ys.toArray os) base (.slice (some ⟨g, 0, none⟩) xs.length cap) ys ∧ Fix g g w (sortWorldK scells 6 w g 0 q ys.toArray os) := by
 have hgl : g < w.heap.size := (Array.getElem?_eq_some_iff.1 hg).1
 unfold sortWorldK putRowK
 rw [flatK_list]
 have hh : (grow (putRow id (Sort.ahead w q) g 0 (ys.flatMap scells).toArray) os).heap[g]? = some (.cells (putCells id 0 (ys.flatMap scells).toArray cur) 103 (0, 0)) := by
  rw [heap_grow_old _ _ (by simpa [putRow, mapBlock, Sort.ahead] using hgl)]
  simp [putRow, mapBlock, Sort.ahead, Array.getElem?_modify, hg, onCells]
 refine ⟨?_, ⟨rfl, rfl, rfl, by simp [grow, putRow, mapBlock, Sort.ahead], fun k hk h1 _ => ?_⟩⟩
 ·unfold OwnL
  rw [hl]
  refine ⟨by rw [flat_len scells_len, hl], .inr ⟨g, cap, _, rfl, hb, hh, hn, hm, by simpa [putCells] using hs, ?_⟩⟩
  apply List.ext_getElem?
  intro j
  rw [List.getElem?_take, Array.getElem?_toList]
  by_cases hj : j < xs.length * 6
  ·have hjc : j < cur.size := by omega
   have hjf : j < (ys.flatMap scells).length := by rw [flat_len scells_len, hl]; exact hj
   rw [if_pos hj, putCells, Array.getElem?_mapIdx, Array.getElem?_eq_getElem hjc, Option.map_some, if_pos (by rw [List.size_toArray]; omega), Nat.sub_zero,
    getElem!_pos (ys.flatMap scells).toArray j (by rw [List.size_toArray]; exact hjf), List.getElem_toArray, List.getElem?_eq_getElem hjf]
   rfl
  ·rw [if_neg hj, List.getElem?_eq_none (by rw [flat_len scells_len, hl]; omega)]
 ·rw [heap_grow_old _ _ (by simpa [putRow, mapBlock, Sort.ahead] using hk)]
  simp [putRow, mapBlock, Sort.ahead, Array.getElem?_modify, show g ≠ k by omega]
end Go.Proofs.YtkoejeghihcmlaaGreat
namespace Go.Proofs.YtkoejeghihcmlaaGreat
open Go.RowKit Go.Shelf Go.Sort
theorem info103 : (Tryz.prog.info? 103).map (fun i => (i.zero, i.size, i.bytes)) = some (some (.agg #[.int .i64 0, .int .i64 0, .int .i64 0, .int .i64 0, .int .i64 0, .int .i64 0]), 6, 48) := by kernel_rfl
theorem info105 : (Tryz.prog.info? 105).map (fun i => (i.zero, i.size, i.bytes)) = some (some (.agg #[.int .i64 0, .int .i64 0, .int .i64 0, .int .i64 0, .int .i64 0, .int .i64 0]), 6, 48) := by kernel_rfl
theorem info107 : (Tryz.prog.info? 107).map (fun i => (i.zero, i.size, i.bytes)) = some (some (.agg #[.int .i64 0, .int .i64 0, .int .i64 0, .int .i64 0, .int .i64 0, .int .i64 0]), 6, 48) := by kernel_rfl
theorem info3 : (Tryz.prog.info? 3).map (fun i => (i.zero, i.size, i.bytes)) = some (some (.int .i64 0), 1, 8) := by kernel_rfl
theorem scells_one (x : Six) : ∀ v ∈ scells x, v.oneCell' = true := fun v hv => by
 unfold scells at hv
 simp only [List.mem_cons, List.not_mem_nil, or_false] at hv
 rcases hv with rfl | rfl | rfl | rfl | rfl | rfl <;> rfl
theorem kdL : Kd scells 6 103 34 48 (.agg #[.int .i64 0, .int .i64 0, .int .i64 0, .int .i64 0, .int .i64 0, .int .i64 0]) := ⟨by kernel_rfl, info103, by simp [Value.cells], by decide, scells_len, scells_one, by decide⟩
theorem kdS : Kd scells 6 105 35 48 (.agg #[.int .i64 0, .int .i64 0, .int .i64 0, .int .i64 0, .int .i64 0, .int .i64 0]) := ⟨by kernel_rfl, info105, by simp [Value.cells], by decide, scells_len, scells_one, by decide⟩
theorem kdP : Kd scells 6 107 36 48 (.agg #[.int .i64 0, .int .i64 0, .int .i64 0, .int .i64 0, .int .i64 0, .int .i64 0]) := ⟨by kernel_rfl, info107, by simp [Value.cells], by decide, scells_len, scells_one, by decide⟩
theorem kdI : Kd icells 1 3 39 8 (.int .i64 0) := ⟨by kernel_rfl, info3, by simp [Value.cells], by decide, fun _ => rfl, fun _ u hu => by simp [icells] at hu; subst hu; rfl, by decide⟩
abbrev cfH (x y : Six) : Int := cmpI x.b y.b
theorem lt_iff (x y : Six) : ltOf cfH x y = decide (x.b < y.b) := by
 unfold ltOf cfH cmpI
 by_cases h : x.b < y.b
 ·rw [if_pos h, decide_eq_true h]; rfl
 ·rw [if_neg h, decide_eq_false h]
  split <;> rfl
abbrev Up (l : List Six) : Prop := l.Pairwise fun x y => x.b ≤ y.b
theorem mem_insH {x z : Six} : ∀ {l : List Six}, z ∈ insH x l ↔ z = x ∨ z ∈ l
 | [] => by simp [insH]
 | y :: l => by
  unfold insH
  split
  ·simp
  ·rw [List.mem_cons, mem_insH (l := l), List.mem_cons]
   constructor
   ·rintro (h | h | h)
    ·exact .inr (.inl h)
    ·exact .inl h
    ·exact .inr (.inr h)
   ·rintro (h | h | h)
    ·exact .inr (.inl h)
    ·exact .inl h
    ·exact .inr (.inr h)
theorem up_insH {x : Six} : ∀ {l : List Six}, Up l → Up (insH x l)
 | [], _ => by simp [insH, Up]
 | y :: l, h => by
  unfold insH
  have h1 := List.pairwise_cons.1 h
  split
  ·rename_i hlt
   refine List.pairwise_cons.2 ⟨fun z hz => ?_, h⟩
   rcases List.mem_cons.1 hz with rfl | hz
   ·omega
   ·have := h1.1 z hz; omega
  ·rename_i hlt
   refine List.pairwise_cons.2 ⟨fun z hz => ?_, up_insH h1.2⟩
   rcases mem_insH.1 hz with rfl | hz
   ·omega
   ·exact h1.1 z hz
theorem insH_perm (x : Six) : ∀ l : List Six, (insH x l).Perm (x :: l)
 | [] => List.Perm.refl _
 | y :: l => by
  unfold insH
  split
  ·exact List.Perm.refl _
  ·exact ((insH_perm x l).cons y).trans (List.Perm.swap _ _ _)
theorem foldH_perm : ∀ (l out : List Six), (l.foldl (fun out x => insH x out) out).Perm (out ++ l)
 | [], out => by simp
 | x :: l, out => by
  rw [List.foldl_cons]
  refine (foldH_perm l _).trans ?_
  refine ((insH_perm x out).append_right l).trans ?_
  exact List.perm_middle.symm
theorem srtH_perm (l : List Six) : (srtH l).Perm l := foldH_perm l []
theorem srtH_len (l : List Six) : (srtH l).length = l.length := (srtH_perm l).length_eq
theorem foldH_up : ∀ (l out : List Six), Up out → Up (l.foldl (fun out x => insH x out) out)
 | [], _, h => h
 | _ :: l, _, h => foldH_up l _ (up_insH h)
theorem srtH_up (l : List Six) : Up (srtH l) := foldH_up l [] List.Pairwise.nil
theorem insH_snoc {x y : Six} : ∀ {q : List Six}, Up (q ++ [y]) → insH x (q ++ [y]) = if x.b < y.b then insH x q ++ [y] else q ++ [y, x]
 | [], _ => by
  show insH x [y] = _
  unfold insH insH
  split <;> rfl
 | z :: q, h => by
  have h1 := List.pairwise_cons.1 h
  have hz := h1.1 y (by simp)
  show insH x (z :: (q ++ [y])) = _
  unfold insH
  rw [insH_snoc h1.2]
  by_cases hx : x.b < z.b
  ·rw [if_pos hx, if_pos (by omega), if_pos hx]; rfl
  ·rw [if_neg hx]
   by_cases hy : x.b < y.b
   ·rw [if_pos hy, if_pos hy, if_neg hx]; rfl
   ·rw [if_neg hy, if_neg hy]; rfl
theorem swp_mid (q post : List Six) (y x : Six) : swp (q ++ y :: x :: post).toArray (q.length + 1) q.length = (q ++ x :: y :: post).toArray := by
 unfold swp
 have e1 : (q ++ y :: x :: post).toArray[q.length]! = y := by simp
 have e2 : (q ++ y :: x :: post).toArray[q.length + 1]! = x := by simp
 rw [e1, e2]
 simp [Nat.sub_self, show q.length + 1 - q.length = 1 by omega]
theorem inner_list (x : Six) : ∀ (n : Nat) (pre post : List Six), pre.length = n → Up pre → insInner (ltOf cfH) 0 n (pre ++ x :: post).toArray = (insH x pre ++ post).toArray
 | 0, pre, post, hl, _ => by
  have : pre = [] := List.eq_nil_of_length_eq_zero hl
  subst this
  rfl
 | n + 1, pre, post, hl, hu => by
  obtain ⟨q, y, rfl⟩ : ∃ q y, pre = q ++ [y] := ⟨pre.dropLast, pre.getLast (by intro h; rw [h] at hl; simp at hl), (List.dropLast_concat_getLast _).symm⟩
  have hq : q.length = n := by rw [List.length_append, List.length_singleton] at hl; omega
  have e0 : q ++ [y] ++ x :: post = q ++ y :: x :: post := by simp
  have e1 : (q ++ y :: x :: post).toArray[n]! = y := by rw [← hq]; simp
  have e2 : (q ++ y :: x :: post).toArray[n + 1]! = x := by rw [← hq]; simp
  unfold insInner
  rw [e0, e1, e2, lt_iff, insH_snoc hu]
  have hq' : Up q := (List.pairwise_append.1 hu).1
  by_cases h : x.b < y.b
  ·rw [decide_eq_true h, if_pos h]
   have := swp_mid q post y x
   rw [hq] at this
   rw [this, inner_list x n q (y :: post) hq hq']
   simp
  ·rw [decide_eq_false h, if_neg h]
   simp
theorem outer_list (xs : List Six) : ∀ (k i : Nat), k + i = xs.length → insOuter (ltOf cfH) 0 xs.length i (srtH (xs.take i) ++ xs.drop i).toArray = (srtH xs).toArray
 | 0, i, h => by
  unfold insOuter
  rw [if_neg (by omega), List.take_of_length_le (by omega), List.drop_eq_nil_of_le (by omega), List.append_nil]
 | k + 1, i, h => by
  have hi : i < xs.length := by omega
  unfold insOuter
  rw [if_pos hi, List.drop_eq_getElem_cons hi, inner_list _ i _ _ (by rw [srtH_len, List.length_take]; omega) (srtH_up _)]
  have e : insH xs[i] (srtH (xs.take i)) = srtH (xs.take (i + 1)) := by
   rw [List.take_succ_eq_append_getElem hi]
   unfold srtH
   rw [List.foldl_append]
   rfl
  rw [e]
  exact outer_list xs k (i + 1) (by omega)
theorem insertion_list (xs : List Six) : insertionSort (ltOf cfH) xs.toArray 0 xs.length = (srtH xs).toArray := by
 unfold insertionSort
 match xs with
 | [] => unfold insOuter; rfl
 | [x] => exact outer_list [x] 0 1 rfl
 | x :: y :: l => exact outer_list (x :: y :: l) (l.length + 1) 1 (by simp)
theorem lays (blk off size : Nat) (w : World) : CmpLays Tryz.prog 161 #[] scells 6 cfH blk off size w := fun _ _ _ _ x y => byHour_any x y _
theorem fix_grown {w w' : World} {g : Nat} (h : Fix g g w w') : w.grownBy w' (some g) := ⟨h.os, h.tape, h.output, h.size, fun k hk hne => h.block k hk (fun e => hne (by rw [e])) (fun e => hne (by rw [e]))⟩
set_option maxRecDepth 100000 in
set_option maxHeartbeats 4000000 in
theorem insort_any {w : World} {base : Nat} {v : Value} {xs : List Six} (h : OwnL scells 6 103 w base v xs) (hx : xs.length ≤ 19) :
  Calls Tryz.prog 228 #[v, .int .i64 0, .int .i64 xs.length, .func (.func 161) #[] #[]] w fun e w' => e = .returned (.tuple #[]) ∧ OwnL scells 6 103 w' base v (srtH xs) ∧ w.grownBy w' v.ownBlock := by
 by_cases hv : v = .slice none 0 0
 ·subst hv
  have : xs = [] := by
   obtain ⟨-, ⟨-, h0⟩ | ⟨g, cap, cur, e, -⟩⟩ := h
   ·exact List.eq_nil_of_length_eq_zero h0
   ·cases e
  subst this
  have HO := Lib.hid h
  clear h
  go_enter Tryz.func228, Tryz.ntmps228
  go_wp2
  go_loopw [8] (fun i wr => i = .int .i64 1 ∧ w = wr) (fun _ _ => 0)
  case atStart => exact ⟨rfl, rfl⟩
  case round =>
   obtain ⟨rfl, rfl⟩ := hrel
   go_wp2
   go_end0
   exact ⟨rfl, HO.out, World.grownBy.refl _ _⟩
 ·obtain ⟨g, cap, cur, rfl, hb, hg, hn, hm, hs, hH⟩ := holdsK_of h hv
  have hgl : g < w.heap.size := (Array.getElem?_eq_some_iff.1 hg).1
  have hml : xs.length < 4611686018427387904 := by omega
  have := AnyQ.insertionSortCmpFunc insSort 6 Tryz.isAgg103 Tryz.sizeOf103 scells scells_len scells_one cfH 161 #[] g 0 cap 0 xs.length xs.toArray w
   (enters_of Tryz.func161 (by kernel_rfl) rfl) (lays _ _ _ _) hH hgl (Nat.zero_le _) (by simp) (by simpa using hml)
  rw [List.size_toArray] at this
  refine this.mono ?_
  rintro e w' ⟨rfl, q, os, rfl⟩
  rw [insertion_list]
  obtain ⟨h1, h2⟩ := own_sorted (q := q) (os := os) (ys := srtH xs) (srtH_len xs) hb hg hn hm hs
  exact ⟨rfl, h1, fix_grown h2⟩
set_option maxRecDepth 100000 in
set_option maxHeartbeats 4000000 in
theorem stable_any {w : World} {base : Nat} {v : Value} {xs : List Six} (h : OwnL scells 6 103 w base v xs) (hn : xs.length ≤ 19) :
  Calls Tryz.prog 203 #[v, .int .i64 xs.length, .func (.func 161) #[] #[]] w fun e w' => e = .returned (.tuple #[]) ∧ OwnL scells 6 103 w' base v (srtH xs) ∧ w.grownBy w' v.ownBlock := by
 have T := Lib.hid (insort_any h hn)
 clear h
 generalize xs.length = n at hn T ⊢
 have hn' : (n : Int) ≤ 19 := by omega
 go_enter Tryz.func203, Tryz.ntmps203
 go_wp2
 go_loopw [7, 8] (fun j i wr => j = .int .i64 0 ∧ i = .int .i64 20 ∧ w = wr) (fun _ _ _ => 0)
 case atStart => exact ⟨rfl, rfl, rfl⟩
 case round =>
  obtain ⟨rfl, rfl, rfl⟩ := hrel
  go_wp2_with (go_at_call 228; (with_reducible refine (T.out).mono ?_); rintro e w' ⟨rfl, ho, hg⟩)
  go_loopw [6] (fun i wr => i = .int .i64 20 ∧ w' = wr) (fun _ _ => 0)
  case atStart => exact ⟨rfl, rfl⟩
  case round =>
   obtain ⟨rfl, rfl⟩ := hrel
   go_wp2
   go_end0
   exact ⟨rfl, ho, hg⟩
end Go.Proofs.YtkoejeghihcmlaaGreat
namespace Go.Proofs.YtkoejeghihcmlaaGreat
open Go.RowKit Go.Shelf
theorem eqlNil1 (d : Nat) (w : World) : (Op.equalIn (d + 1) 146 .nilFunc .nilFunc).run Tryz.prog w = .ok true w := by
 simp only [Op.equalIn, Sem.run_bind, run_underlying Tryz.underlying146, Result.andThen_ok]
 rfl
theorem eqlFun1 (d : Nat) (g : FuncId) (cl : Array Value) (w : World) : (Op.equalIn (d + 1) 146 (.func (.func g) #[] cl) .nilFunc).run Tryz.prog w = .ok false w := by
 simp only [Op.equalIn, Sem.run_bind, run_underlying Tryz.underlying146, Result.andThen_ok]
 rfl
theorem eqlNil0 (w : World) : (Op.equal 146 .nilFunc .nilFunc).run Tryz.prog w = .ok true w := eqlNil1 9999 w
theorem eqlFun0 (g : FuncId) (cl : Array Value) (w : World) : (Op.equal 146 (.func (.func g) #[] cl) .nilFunc).run Tryz.prog w = .ok false w := eqlFun1 9999 g cl w
theorem neqNil (w : World) : (binOp .neq 146 .nilFunc .nilFunc).run Tryz.prog w = .ok (.bool false) w := by
 simp [go_sem, binOp, eqlNil0]
theorem neqFun (g : FuncId) (cl : Array Value) (w : World) : (binOp .neq 146 (.func (.func g) #[] cl) .nilFunc).run Tryz.prog w = .ok (.bool true) w := by
 simp [go_sem, binOp, eqlFun0]
theorem eqlNil (w : World) : (binOp .eql 146 .nilFunc .nilFunc).run Tryz.prog w = .ok (.bool true) w := by
 simp [go_sem, binOp, eqlNil0]
theorem eqlFun (g : FuncId) (cl : Array Value) (w : World) : (binOp .eql 146 (.func (.func g) #[] cl) .nilFunc).run Tryz.prog w = .ok (.bool false) w := by
 simp [go_sem, binOp, eqlFun0]
def bad (r : Rg) : Bool := decide (r.hi < r.lo)
theorem sound_bad (st : List Rg) : sound st = !(st.any bad) := by
 unfold sound bad
 rw [List.all_eq_not_any_not]
 congr 1
 congr 1
 funext r
 by_cases h : r.lo ≤ r.hi
 ·rw [decide_eq_true h, decide_eq_false (by omega)]; rfl
 ·rw [decide_eq_false h, decide_eq_true (by omega)]; rfl
set_option maxRecDepth 100000 in
theorem bad_any (r : Rg) (w : World) : Calls Tryz.prog 180 #[rv r] w fun e w' => e = .returned (.bool (bad r)) ∧ w.alloc (.cells #[.int .i64 r.lo, .int .i64 r.hi] 33) = w' := by
 go_enter Tryz.func180, Tryz.ntmps180
 go_wp2
 go_ret
 exact ⟨rfl, rfl⟩
set_option maxRecDepth 100000 in
set_option maxHeartbeats 4000000 in
theorem badIdx_any (bs m : Nat) (st : List Rg) (w : World) (hs : Blk w bs 33 (rvals st)) (hlen : st.length = m) (hm : m ≤ 1000000) :
  Calls Tryz.prog 214 #[.slice (some ⟨bs, 0, none⟩) m m, .func (.func 180) #[] #[]] w fun e w' => (∃ i : Int, e = .returned (.int .i64 i) ∧ decide (0 ≤ i) = st.any bad) ∧ Below w.heap.size w w' := by
 have HS := Lib.hid hs
 have hl := Lib.hid hlen
 clear hs hlen
 go_enter Tryz.func214, Tryz.ntmps214
 go_wp2_with fail
 go_loopw [8] (fun i wr => ∃ k : Nat, k ≤ m ∧ i = .int .i64 k ∧ Below w.heap.size w wr ∧ ∀ j, j < k → bad (st.getD j zR) = false) (fun i _ => m - (intOf i).toNat)
 case atStart => exact ⟨0, Nat.zero_le _, rfl, Below.refl _ _, fun j hj => absurd hj (by omega)⟩
 case round =>
  obtain ⟨k, hk, rfl, hg, hno⟩ := hrel
  have HNO := Lib.hid hno
  have HG := Lib.hid hg
  clear hno
  by_cases hkn : k < m
  ·obtain ⟨v0, v1⟩ := rvals_at (st := st) (i := k) (by rw [hl.out]; exact hkn)
   have hb := HS.out.ext hg
   have c0 := hb.cell (k * 2)
   have c1 := hb.cell (k * 2 + 1)
   rw [v0] at c0
   rw [v1] at c1
   obtain ⟨r, hr⟩ : ∃ r, st.getD k zR = r := ⟨_, rfl⟩
   have hr0 : Lo st k = r.lo := by rw [← hr]
   have hr1 : Hi st k = r.hi := by rw [← hr]
   rw [hr0] at c0
   rw [hr1] at c1
   obtain ⟨pb, hpb⟩ : ∃ pb, bad r = pb := ⟨_, rfl⟩
   have T := fun W => bad_any r W
   rw [hpb] at T
   have HT := Lib.hid T
   have HY := Lib.hid hr
   have HPB := Lib.hid hpb
   clear hr hr0 hr1 v0 v1 T hpb hb hg
   have G2 := Lib.hid (HG.out.alloc HG.out.size (.cells #[.int .i64 r.lo, .int .i64 r.hi] 33))
   cases pb with
   | true =>
    go_wp2_with (go_at_call 180; (with_reducible refine (HT.out _).mono ?_); rintro e w' ⟨rfl, rfl⟩)
    go_ret
    refine ⟨⟨k, rfl, ?_⟩, G2.out⟩
    rw [decide_eq_true (show (0 : Int) ≤ k by omega)]
    refine (List.any_eq_true.2 ⟨r, ?_, HPB.out⟩).symm
    rw [← HY.out, List.getD_eq_getElem?_getD, List.getElem?_eq_getElem (by rw [hl.out]; exact hkn)]
    exact List.getElem_mem _
   | false =>
    go_wp2_with (go_at_call 180; (with_reducible refine (HT.out _).mono ?_); rintro e w' ⟨rfl, rfl⟩)
    go_roundw
    case rel => exact ⟨k + 1, by omega, by go_num, G2.out, fun j hj => by
     by_cases e : j = k
     ·subst e; rw [HY.out]; exact HPB.out
     ·exact HNO.out j (by omega)⟩
    case measure => simp [intOf]; omega
  ·obtain rfl : m = k := by omega
   go_wp2_with fail
   go_ret
   refine ⟨⟨-1, rfl, ?_⟩, HG.out⟩
   rw [decide_eq_false (by omega)]
   symm
   rw [List.any_eq_false]
   intro y hy
   obtain ⟨j, hj, rfl⟩ := List.getElem_of_mem hy
   have := HNO.out j (by rw [← hl.out]; exact hj)
   rw [List.getD_eq_getElem?_getD, List.getElem?_eq_getElem hj] at this
   simpa using this
theorem badHas_any (bs m : Nat) (st : List Rg) (w : World) (hs : Blk w bs 33 (rvals st)) (hlen : st.length = m) (hm : m ≤ 1000000) :
  Calls Tryz.prog 179 #[.slice (some ⟨bs, 0, none⟩) m m, .func (.func 180) #[] #[]] w fun e w' => e = .returned (.bool (st.any bad)) ∧ Below w.heap.size w w' := by
 have T := badIdx_any bs m st w hs hlen hm
 generalize st.any bad = r at T ⊢
 go_enter Tryz.func179, Tryz.ntmps179
 go_wp2_with (go_at_call 214; (with_reducible refine T.mono ?_); rintro e w' ⟨⟨i, rfl, hi⟩, hg⟩)
 go_ret
 exact ⟨rfl, hg⟩
theorem sound_any (bf bs : Nat) (pp : Value) (known : Int) (A : Option Addr) (n c m : Nat) (st : List Rg) (w : World) (hf : Fd w bf bs pp known A n c m st) (hm : m ≤ 1000000) :
  Calls Tryz.prog 100 #[.pointer (some ⟨bf, 0, none⟩)] w fun e w' => e = .returned (.bool (sound st)) ∧ Below w.heap.size w w' := by
 have T := badHas_any bs m st w hf.s hf.len hm
 rw [sound_bad]
 generalize st.any bad = r at T ⊢
 have f3 := hf.f.cell 3
 clear hf
 go_enter Tryz.func100, Tryz.ntmps100
 go_wp2_with (go_at_call 179; (with_reducible refine T.mono ?_); rintro e w' ⟨rfl, hg⟩)
 go_ret
 exact ⟨rfl, hg⟩
end Go.Proofs.YtkoejeghihcmlaaGreat
namespace Go.Proofs.YtkoejeghihcmlaaGreat
open Go.RowKit Go.Shelf
def veil (meant : Int → Bool) (x : Six) : Six := if meant x.a then x else { x with c := 0, d := 10000 }
def pickX (xs : List Six) (known : Int) (meant : Int → Bool) : List Six := (xs.filter fun x => cnt x known).map (veil meant)
theorem pickL_eq (p : Pl) (known : Int) (meant : Int → Bool) : pickL p known meant = pickX p.loads known meant := rfl
theorem pickX_snoc {xs : List Six} {k : Nat} (known : Int) (meant : Int → Bool) (hk : k < xs.length) :
  pickX (xs.take (k + 1)) known meant = pickX (xs.take k) known meant ++ (if cnt (xs.getD k z6) known = true then [veil meant (xs.getD k z6)] else []) := by
 unfold pickX
 rw [List.take_succ_eq_append_getElem hk, List.filter_append, List.map_append, List.getD_eq_getElem?_getD, List.getElem?_eq_getElem hk, Option.getD_some]
 by_cases h : cnt xs[k] known = true
 ·rw [if_pos h, List.filter_cons, if_pos h]; rfl
 ·rw [if_neg h, List.filter_cons, if_neg h]; rfl
theorem pickX_len (xs : List Six) (known : Int) (meant : Int → Bool) : (pickX xs known meant).length ≤ xs.length := by
 unfold pickX
 rw [List.length_map]
 exact List.length_filter_le _ _
/-- A load, a stand whose numbers are right. -/
def Num (x : Six) : Prop := 0 ≤ x.b ∧ x.b ≤ 99999 ∧ 0 ≤ x.c ∧ x.c ≤ x.d ∧ x.d ≤ 10000
theorem okL_all {is : Six → Bool} {ks : List Int} {l : List Six} (h : okL is ks l = true) {x : Six} (hx : x ∈ l) : is x = true := by
 obtain ⟨i, hi, rfl⟩ := List.getElem_of_mem hx
 unfold okL at h
 simp only [Bool.and_eq_true, List.all_eq_true] at h
 have h1 := h.1 i (List.mem_range.2 hi)
 unfold okAt at h1
 simp only [Bool.and_eq_true] at h1
 have h2 := h1.1.1
 rw [List.getD_eq_getElem?_getD, List.getElem?_eq_getElem hi] at h2
 exact h2
theorem okSh_in {lo hi : Int} (h : okSh lo hi = true) : 0 ≤ lo ∧ lo ≤ hi ∧ hi ≤ 10000 := by
 unfold okSh rng at h
 simp only [Bool.and_eq_true, decide_eq_true_eq] at h
 omega
theorem num_of {x : Six} (h : isLoad x = true) : Num x := by
 unfold isLoad at h
 simp only [Bool.and_eq_true] at h
 have h1 := okSh_in h.1.2
 have h2 := h.1.1.2
 unfold rng at h2
 simp only [Bool.and_eq_true, decide_eq_true_eq] at h2
 exact ⟨h2.1, h2.2, h1⟩
theorem ok_parts {p : Pl} (h : okPl p = true) : (∀ x ∈ p.loads, Num x) ∧ (∀ x ∈ p.stands, Num x) ∧ 0 ≤ p.lo ∧ p.lo ≤ p.hi ∧ p.hi ≤ 10000 ∧ p.loads.length ≤ 60 ∧ p.stands.length ≤ 60 ∧ p.spells.length ≤ 60 ∧ 0 ≤ p.geese ∧ p.geese ≤ 60 := by
 unfold okPl at h
 simp only [Bool.and_eq_true] at h
 obtain ⟨⟨⟨⟨h1, h2⟩, h3⟩, h4⟩, h5⟩ := h
 unfold rng at h5
 simp only [Bool.and_eq_true, decide_eq_true_eq] at h5
 have := okSh_in h4
 exact ⟨fun x hx => num_of (okL_all h1 hx), fun x hx => num_of (okL_all h2 hx), this.1, this.2.1, this.2.2, okL_len h1, okL_len h2, okL_len h3, h5⟩
theorem veil_num {meant : Int → Bool} {x : Six} (h : Num x) : Num (veil meant x) := by
 unfold veil
 split
 ·exact h
 ·exact ⟨h.1, h.2.1, Int.le_refl _, (by show (0 : Int) ≤ 10000; decide), Int.le_refl _⟩
theorem pickX_num {xs : List Six} (h : ∀ x ∈ xs, Num x) (known : Int) (meant : Int → Bool) : ∀ x ∈ pickX xs known meant, Num x := by
 intro x hx
 unfold pickX at hx
 obtain ⟨y, hy, rfl⟩ := List.mem_map.1 hx
 exact veil_num (h y (List.mem_filter.1 hy).1)
theorem srtH_num {l : List Six} (h : ∀ x ∈ l, Num x) : ∀ x ∈ srtH l, Num x := fun x hx => h x ((srtH_perm l).mem_iff.1 hx)
theorem lookL_num {p : Pl} (h : okPl p = true) (known : Int) (meant : Int → Bool) : ∀ x ∈ lookL p known meant, Num x := srtH_num (pickX_num (ok_parts h).1 known meant)
theorem getD_mem {l : List Six} {i : Nat} (hi : i < l.length) : l.getD i z6 ∈ l := by
 rw [List.getD_eq_getElem?_getD, List.getElem?_eq_getElem hi]
 exact List.getElem_mem hi
theorem wb_of {l : List Six} (h : ∀ x ∈ l, Num x) : Wb l := fun i hi => by
 have := h _ (getD_mem hi)
 unfold Num at this
 unfold Ls Gr
 omega
theorem standsF_snoc (known : Int) (meant : Int → Bool) (ls : List Six) {l : List Six} {k : Nat} (hk : k < l.length) (st : List Rg) :
  standsF known meant ls (l.take (k + 1)) st = if (cnt (l.getD k z6) known && meant (l.getD k z6).a) = true then nar (standsF known meant ls (l.take k) st) (after ls (l.getD k z6).b) ⟨(l.getD k z6).c, (l.getD k z6).d⟩ else standsF known meant ls (l.take k) st := by
 unfold standsF
 rw [List.take_succ_eq_append_getElem hk, List.foldl_append, List.getD_eq_getElem?_getD, List.getElem?_eq_getElem hk]
 rfl
theorem standsF_len (known : Int) (meant : Int → Bool) (ls : List Six) : ∀ (l : List Six) (st : List Rg), (standsF known meant ls l st).length = st.length
 | [], _ => rfl
 | x :: l, st => by
  unfold standsF
  rw [List.foldl_cons]
  refine (standsF_len known meant ls l _).trans ?_
  split
  ·exact nar_len _ _ _
  ·rfl
theorem after_le (ls : List Six) (h : Int) : after ls h ≤ ls.length := List.countP_le_length
theorem stood0_len (p : Pl) (n : Nat) : (stood0 p n).length = n + 1 := by simp [stood0]
theorem stood0_bd {p : Pl} (h : okPl p = true) (n : Nat) : Bd (stood0 p n) 10000000 := by
 intro i hi
 have hp := ok_parts h
 unfold Lo Hi stood0
 cases i with
 | zero => simp only [List.getD_cons_zero]; omega
 | succ i =>
  rw [stood0_len] at hi
  rw [List.getD_cons_succ, List.getD_eq_getElem?_getD, List.getElem?_replicate, if_pos (by omega)]
  simp only [Option.getD_some]
  omega
theorem bd_nar {st : List Rg} (h : Bd st 10000000) {i : Nat} (hi : i < st.length) {x : Six} (hx : Num x) : Bd (nar st i ⟨x.c, x.d⟩) 10000000 := by
 have := h.nar (D := 0) (Int.le_refl _) (r := ⟨x.c, x.d⟩) (by unfold Num at hx; dsimp only; omega) hi
 simpa using this
theorem madeR (n : Nat) : madeCells #[.int .i64 0, .int .i64 0] (n * 2) = rvals (List.replicate n zR) := by
 unfold rvals
 apply Array.ext
 ·rw [size_madeCells, List.size_toArray, flat_len rcells_len, List.length_replicate]
 ·intro i h1 h2
  rw [List.size_toArray, flat_len rcells_len, List.length_replicate] at h2
  have e := flat_get rcells_len (List.replicate n zR) (i / 2) (i % 2) (by omega)
  rw [show i / 2 * 2 + i % 2 = i by omega, List.getElem?_replicate, if_pos (by omega), Option.bind_some] at e
  have e2 := List.getElem?_eq_getElem (l := (List.replicate n zR).flatMap rcells) (i := i) (by rw [flat_len rcells_len, List.length_replicate]; exact h2)
  rw [e2] at e
  have e4 : (rcells zR)[i % 2]? = some (.int .i64 0) := by
   rcases Nat.mod_two_eq_zero_or_one i with h | h <;> rw [h] <;> rfl
  rw [e4] at e
  refine Eq.trans ?_ (Option.some.inj e).symm
  simp only [madeCells]
  rcases Nat.mod_two_eq_zero_or_one i with h | h <;> simp [h]
theorem info33 : (Tryz.prog.info? 33).map (fun i => (i.zero, i.size, i.bytes)) = some (some (.agg #[.int .i64 0, .int .i64 0]), 2, 16) := by kernel_rfl
theorem run_make_rg (n : Nat) (hn : n ≤ 1000) (w : World) : (Instr.makeSlice 150 (.int .i64 n) (.int .i64 n)).run Tryz.prog w = .ok (.slice (some ⟨w.heap.size, 0, none⟩) n n) (w.alloc (.cells (rvals (List.replicate n zR)) 33)) := by
 obtain ⟨i, hi, hzz⟩ := Option.map_eq_some_iff.1 info33
 simp only [Prod.mk.injEq] at hzz
 obtain ⟨hz, hs, hb⟩ := hzz
 have hr := run_make (P := Tryz.prog) w 150 33 i _ (by kernel_rfl) hi hz .i64 .i64 n n (by omega) (Int.le_refl _) (by rw [hb]; omega) (by omega)
 rw [hs] at hr
 simp only [Int.toNat_natCast] at hr
 rw [hr, ← madeR]
 rfl
theorem fill_set (n i : Nat) (hi : i < n) (r : Rg) : (List.replicate i r ++ List.replicate (n - i) zR).set i r = List.replicate (i + 1) r ++ List.replicate (n - (i + 1)) zR := by
 rw [List.set_append_right _ _ (by rw [List.length_replicate]; exact Nat.le_refl _), List.length_replicate, Nat.sub_self]
 obtain ⟨m, hm⟩ : ∃ m, n - i = m + 1 := ⟨n - i - 1, by omega⟩
 rw [hm, show n - (i + 1) = m by omega, List.replicate_succ, List.set_cons_zero, List.replicate_succ', List.append_assoc]
 rfl
theorem stood0_set (p : Pl) (n : Nat) : (List.replicate (n + 1) (⟨0, 10000⟩ : Rg)).set 0 ⟨p.lo, p.hi⟩ = stood0 p n := by
 rw [List.replicate_succ, List.set_cons_zero]; rfl
end Go.Proofs.YtkoejeghihcmlaaGreat

namespace Go.Proofs.YtkoejeghihcmlaaGreat
open Go.RowKit Go.Shelf Go.Sort
/-- By the hour, then by the source. -/
def Lx (x y : Six) : Prop := x.b < y.b ∨ (x.b = y.b ∧ x.a < y.a)
abbrev LxS (l : List Six) : Prop := l.Pairwise Lx
abbrev Rise (l : List Six) : Prop := l.Pairwise fun x y => x.a < y.a
/-- All sources of the first list are less than those of the second one. -/
def Ap (L R : List Six) : Prop := ∀ x ∈ L, ∀ y ∈ R, x.a < y.a
theorem Lx.trans {x y z : Six} (h : Lx x y) (h' : Lx y z) : Lx x z := by unfold Lx at *; omega
theorem Lx.asymm {x y : Six} (h : Lx x y) (h' : Lx y x) : False := by unfold Lx at *; omega
theorem lx_eq {l l' : List Six} (hp : l.Perm l') (h : LxS l) (h' : LxS l') : l = l' :=
 hp.eq_of_pairwise (fun _ _ _ _ h1 h2 => (h1.asymm h2).elim) h h'
theorem lx_insH {x : Six} : ∀ {l : List Six}, LxS l → (∀ y ∈ l, y.a < x.a) → LxS (insH x l)
 | [], _, _ => by unfold insH; exact List.pairwise_singleton _ _
 | y :: l, h, hm => by
  have h1 := List.pairwise_cons.1 h
  have hy := hm y (List.mem_cons_self)
  unfold insH
  split
  ·rename_i hlt
   refine List.pairwise_cons.2 ⟨fun z hz => ?_, h⟩
   have hxy : Lx x y := .inl hlt
   rcases List.mem_cons.1 hz with rfl | hz
   ·exact hxy
   ·exact hxy.trans (h1.1 z hz)
  ·rename_i hlt
   refine List.pairwise_cons.2 ⟨fun z hz => ?_, lx_insH h1.2 fun z hz => hm z (List.mem_cons_of_mem _ hz)⟩
   rcases mem_insH.1 hz with rfl | hz
   ·show y.b < z.b ∨ _; omega
   ·exact h1.1 z hz
theorem lx_fold : ∀ (l out : List Six), LxS out → Ap out l → Rise l → LxS (l.foldl (fun out x => insH x out) out)
 | [], _, h, _, _ => h
 | x :: l, out, h, ha, hr => by
  have hr' := List.pairwise_cons.1 hr
  refine lx_fold l _ (lx_insH h fun y hy => ha y hy x (List.mem_cons_self)) (fun y hy z hz => ?_) hr'.2
  rcases mem_insH.1 hy with rfl | hy
  ·exact hr'.1 z hz
  ·exact ha y hy z (List.mem_cons_of_mem _ hz)
theorem lx_srtH {l : List Six} (h : Rise l) : LxS (srtH l) := lx_fold l [] List.Pairwise.nil (fun _ h => nomatch h) h
theorem stable_eq {l z : List Six} (h : Rise l) (hp : z.Perm l) (hz : LxS z) : z = srtH l := lx_eq (hp.trans (srtH_perm l).symm) hz (lx_srtH h)
theorem Ap.perm {L R L' R' : List Six} (h : Ap L R) (h1 : L'.Perm L) (h2 : R'.Perm R) : Ap L' R' := fun x hx y hy => h x (h1.mem_iff.1 hx) y (h2.mem_iff.1 hy)
theorem Ap.sub {L R L' R' : List Six} (h : Ap L R) (h1 : ∀ x ∈ L', x ∈ L) (h2 : ∀ y ∈ R', y ∈ R) : Ap L' R' := fun x hx y hy => h x (h1 x hx) y (h2 y hy)
theorem rise_app {L R : List Six} (h : Rise (L ++ R)) : Rise L ∧ Rise R ∧ Ap L R := List.pairwise_append.1 h
/-- A part that has been merged: a permutation of both, in order. -/
def Mg (L R Z : List Six) : Prop := Z.Perm (L ++ R) ∧ LxS Z
theorem Mg.len {L R Z : List Six} (h : Mg L R Z) : Z.length = L.length + R.length := by rw [h.1.length_eq, List.length_append]
theorem mg_left {L : List Six} (h : LxS L) : Mg L [] L := ⟨by rw [List.append_nil], h⟩
theorem mg_right {R : List Six} (h : LxS R) : Mg [] R R := ⟨List.Perm.refl _, h⟩
theorem lx_b {l : List Six} (h : LxS l) {i j : Nat} (hij : i ≤ j) (hj : j < l.length) : (l.getD i z6).b ≤ (l.getD j z6).b := by
 rcases Nat.lt_or_ge i j with c | c
 ·have h1 := List.pairwise_iff_getElem.1 h i j (by omega) hj c
  rw [List.getD_eq_getElem?_getD, List.getD_eq_getElem?_getD, List.getElem?_eq_getElem hj, List.getElem?_eq_getElem (by omega)]
  show l[i].b ≤ l[j].b
  unfold Lx at h1
  omega
 ·obtain rfl : i = j := by omega
  exact Int.le_refl _
theorem mem_take_ix {l : List Six} {i : Nat} {x : Six} (h : x ∈ l.take i) : ∃ k, k < i ∧ k < l.length ∧ l.getD k z6 = x := by
 obtain ⟨k, hk, rfl⟩ := List.getElem_of_mem h
 rw [List.length_take] at hk
 refine ⟨k, by omega, by omega, ?_⟩
 rw [List.getD_eq_getElem?_getD, List.getElem?_eq_getElem (by omega), List.getElem_take]
 rfl
theorem mem_drop_ix {l : List Six} {i : Nat} {x : Six} (h : x ∈ l.drop i) : ∃ k, i ≤ k ∧ k < l.length ∧ l.getD k z6 = x := by
 obtain ⟨k, hk, rfl⟩ := List.getElem_of_mem h
 rw [List.length_drop] at hk
 refine ⟨i + k, by omega, by omega, ?_⟩
 rw [List.getD_eq_getElem?_getD, List.getElem?_eq_getElem (by omega), List.getElem_drop]
 rfl
theorem mg_split {L R Z1 Z2 : List Six} (hL : LxS L) (hR : LxS R) (hA : Ap L R) {i j : Nat}
  (h1 : 0 < i → j < R.length → (L.getD (i - 1) z6).b ≤ (R.getD j z6).b) (h2 : i < L.length → 0 < j → (R.getD (j - 1) z6).b < (L.getD i z6).b)
  (m1 : Mg (L.take i) (R.take j) Z1) (m2 : Mg (L.drop i) (R.drop j) Z2) (hi : i ≤ L.length) (hj : j ≤ R.length) : Mg L R (Z1 ++ Z2) := by
 refine ⟨?_, List.pairwise_append.2 ⟨m1.2, m2.2, fun x hx y hy => ?_⟩⟩
 ·refine (m1.1.append m2.1).trans ?_
  have e : L ++ R = (L.take i ++ L.drop i) ++ (R.take j ++ R.drop j) := by rw [List.take_append_drop, List.take_append_drop]
  rw [e]
  simp only [List.append_assoc]
  refine List.Perm.append_left _ ?_
  rw [← List.append_assoc, ← List.append_assoc]
  exact List.Perm.append_right _ List.perm_append_comm
 ·have hx' := List.mem_append.1 (m1.1.mem_iff.1 hx)
  have hy' := List.mem_append.1 (m2.1.mem_iff.1 hy)
  rcases hx' with hx' | hx' <;> rcases hy' with hy' | hy'
  ·have h := List.pairwise_append.1 (show LxS (L.take i ++ L.drop i) by rw [List.take_append_drop]; exact hL)
   exact h.2.2 x hx' y hy'
  ·obtain ⟨k, k1, k2, rfl⟩ := mem_take_ix hx'
   obtain ⟨t, t1, t2, rfl⟩ := mem_drop_ix hy'
   have a1 := lx_b hL (i := k) (j := i - 1) (by omega) (by omega)
   have a2 := lx_b hR (i := j) (j := t) (by omega) (by omega)
   have a3 := h1 (by omega) (by omega)
   have a4 := hA _ (List.mem_of_mem_take hx') _ (List.mem_of_mem_drop hy')
   unfold Lx; omega
  ·obtain ⟨k, k1, k2, rfl⟩ := mem_take_ix hx'
   obtain ⟨t, t1, t2, rfl⟩ := mem_drop_ix hy'
   have a1 := lx_b hR (i := k) (j := j - 1) (by omega) (by omega)
   have a2 := lx_b hL (i := i) (j := t) (by omega) (by omega)
   have a3 := h2 (by omega) (by omega)
   unfold Lx; omega
  ·have h := List.pairwise_append.1 (show LxS (R.take j ++ R.drop j) by rw [List.take_append_drop]; exact hR)
   exact h.2.2 x hx' y hy'
theorem mg_one_left {x : Six} {R : List Six} (hR : LxS R) (hA : Ap [x] R) {j : Nat} (hj : j ≤ R.length)
  (h1 : 0 < j → (R.getD (j - 1) z6).b < x.b) (h2 : j < R.length → x.b ≤ (R.getD j z6).b) : Mg [x] R (R.take j ++ x :: R.drop j) := by
 have := mg_split (L := [x]) (R := R) (i := 0) (j := j) (Z1 := R.take j) (Z2 := x :: R.drop j) (List.pairwise_singleton _ _) hR hA (by omega) (fun _ h => h1 h)
  (by rw [List.take_zero]; exact mg_right (hR.sublist (List.take_sublist _ _)))
  ⟨List.Perm.refl _, List.pairwise_cons.2 ⟨fun y hy => ?_, hR.sublist (List.drop_sublist _ _)⟩⟩ (Nat.zero_le _) hj
 ·exact this
 ·obtain ⟨t, t1, t2, rfl⟩ := mem_drop_ix hy
  have a1 := lx_b hR (i := j) (j := t) t1 t2
  have a3 := h2 (by omega)
  have a2 := hA x (List.mem_cons_self) _ (List.mem_of_mem_drop hy)
  unfold Lx; omega
theorem mg_one_right {y : Six} {L : List Six} (hL : LxS L) (hA : Ap L [y]) {i : Nat} (hi : i ≤ L.length)
  (h1 : 0 < i → (L.getD (i - 1) z6).b ≤ y.b) (h2 : i < L.length → y.b < (L.getD i z6).b) : Mg L [y] (L.take i ++ y :: L.drop i) := by
 have := mg_split (L := L) (R := [y]) (i := i) (j := 1) (Z1 := L.take i ++ [y]) (Z2 := L.drop i) hL (List.pairwise_singleton _ _) hA (fun _ h => by simp at h) (fun h _ => by have := h2 h; simpa using this)
  ⟨by simp, List.pairwise_append.2 ⟨hL.sublist (List.take_sublist _ _), List.pairwise_singleton _ _, fun x hx z hz => ?_⟩⟩
  (by simpa using mg_left (hL.sublist (List.drop_sublist _ _))) hi (by simp)
 ·simpa using this
 ·obtain ⟨t, t1, t2, rfl⟩ := mem_take_ix hx
  rw [List.mem_singleton.1 hz]
  have a1 := lx_b hL (i := t) (j := i - 1) (by omega) (by omega)
  have a3 := h1 (by omega)
  have a2 := hA _ (List.mem_of_mem_take hx) y (List.mem_cons_self)
  unfold Lx; omega
theorem swp_list {P Q S : List Six} {x y : Six} {i j : Nat} (hi : i = P.length) (hj : j = P.length + 1 + Q.length) : swp (P ++ x :: (Q ++ y :: S)).toArray i j = (P ++ y :: (Q ++ x :: S)).toArray := by
 subst hi hj
 unfold swp
 have e1 : (P ++ x :: (Q ++ y :: S)).toArray[P.length]! = x := by simp
 have e2 : (P ++ x :: (Q ++ y :: S)).toArray[P.length + 1 + Q.length]! = y := by
  have : P ++ x :: (Q ++ y :: S) = (P ++ x :: Q) ++ y :: S := by simp
  rw [this]
  have : P.length + 1 + Q.length = (P ++ x :: Q).length := by simp; omega
  rw [this]
  simp
 rw [e1, e2]
 have : P ++ x :: (Q ++ y :: S) = P ++ x :: (Q ++ y :: S) := rfl
 simp [List.set_append, show P.length + 1 + Q.length - P.length = Q.length + 1 by omega, show ¬ (P.length + 1 + Q.length < P.length) by omega]
theorem swp_back {P Q S : List Six} {x y : Six} {i j : Nat} (hi : i = P.length) (hj : j = P.length + 1 + Q.length) : swp (P ++ x :: (Q ++ y :: S)).toArray j i = (P ++ y :: (Q ++ x :: S)).toArray := by
 have h := swp_list (P := P) (Q := Q) (S := S) (x := x) (y := y) hi hj
 rw [← h]
 have hs : i < (P ++ x :: (Q ++ y :: S)).toArray.size := by simp; omega
 unfold swp
 have hne : i ≠ j := by omega
 exact Array.setIfInBounds_comm _ _ (Ne.symm hne)
theorem getA {l : List Six} {i : Nat} (h : i < l.length) : l.toArray[i]! = l.getD i z6 := by
 rw [getElem!_pos _ _ (by simpa using h), List.getD_eq_getElem?_getD, List.getElem?_eq_getElem h]
 simp
theorem getD_mid {A B C : List Six} {i : Nat} (h : i < B.length) : (A ++ B ++ C).getD (A.length + i) z6 = B.getD i z6 := by
 rw [List.append_assoc, List.getD_eq_getElem?_getD, List.getD_eq_getElem?_getD, List.getElem?_append_right (by omega), show A.length + i - A.length = i by omega, List.getElem?_append_left h]
theorem take_succ_D {l : List Six} {i : Nat} (h : i < l.length) : l.take (i + 1) = l.take i ++ [l.getD i z6] := by
 rw [List.take_succ_eq_append_getElem h, List.getD_eq_getElem?_getD, List.getElem?_eq_getElem h]; rfl
theorem drop_cons_D {l : List Six} {i : Nat} (h : i < l.length) : l.drop i = l.getD i z6 :: l.drop (i + 1) := by
 rw [List.drop_eq_getElem_cons h, List.getD_eq_getElem?_getD, List.getElem?_eq_getElem h]; rfl
/-- While two ranges are exchanged. -/
def stg (pre X mid Y post : List Six) (i : Nat) : List Six := pre ++ (Y.take i ++ X.drop i) ++ mid ++ (X.take i ++ Y.drop i) ++ post
theorem stg_len {pre X mid Y post : List Six} (h : X.length = Y.length) {i : Nat} (hi : i ≤ X.length) : (stg pre X mid Y post i).length = (pre ++ X ++ mid ++ Y ++ post).length := by
 unfold stg
 simp only [List.length_append, List.length_take, List.length_drop]
 omega
theorem stg_zero (pre X mid Y post : List Six) : stg pre X mid Y post 0 = pre ++ X ++ mid ++ Y ++ post := by unfold stg; simp
theorem stg_end {pre X mid Y post : List Six} (h : X.length = Y.length) : stg pre X mid Y post X.length = pre ++ Y ++ mid ++ X ++ post := by
 unfold stg
 rw [List.take_of_length_le (Nat.le_refl _), List.drop_of_length_le (Nat.le_refl _), h, List.take_of_length_le (Nat.le_refl _), List.drop_of_length_le (Nat.le_refl _), List.append_nil, List.append_nil]
theorem stg_swp {pre X mid Y post : List Six} (h : X.length = Y.length) {i : Nat} (hi : i < X.length) : swp (stg pre X mid Y post i).toArray (pre.length + i) (pre.length + X.length + mid.length + i) = (stg pre X mid Y post (i + 1)).toArray := by
 have e : stg pre X mid Y post i = (pre ++ Y.take i) ++ X.getD i z6 :: ((X.drop (i + 1) ++ mid ++ X.take i) ++ Y.getD i z6 :: (Y.drop (i + 1) ++ post)) := by
  unfold stg
  rw [drop_cons_D hi, drop_cons_D (by omega : i < Y.length)]
  simp
 rw [e, swp_list (by simp; omega) (by simp; omega)]
 unfold stg
 rw [take_succ_D hi, take_succ_D (by omega : i < Y.length)]
 simp
end Go.Proofs.YtkoejeghihcmlaaGreat

namespace Go.Proofs.YtkoejeghihcmlaaGreat
open Go.RowKit Go.Shelf Go.Sort
abbrev SW (w0 : World) (g : Nat) (l : List Six) (W : World) : Prop := SWK scells 6 w0 g 0 l.toArray W
set_option maxRecDepth 1000000 in
set_option maxHeartbeats 4000000 in
theorem swapRange_any {w0 w : World} {g cap : Nat} {d0 : Array Six} {pre X mid Y post : List Six} (R : RowK scells 6 w0 g 0 d0) (hs : d0.size = (pre ++ X ++ mid ++ Y ++ post).length) (hXY : X.length = Y.length)
  (S : SW w0 g (pre ++ X ++ mid ++ Y ++ post) w) (hsz : d0.size < 1000000) {a b n : Nat} (ha : a = pre.length) (hb : b = pre.length + X.length + mid.length) (hn : n = X.length) :
  Calls Tryz.prog 238 #[.slice (some ⟨g, 0, none⟩) d0.size cap, .int .i64 a, .int .i64 b, .int .i64 n, .func (.func 161) #[] #[]] w fun e w' => e = .returned (.tuple #[]) ∧ SW w0 g (pre ++ Y ++ mid ++ X ++ post) w' := by
 have hL : (pre ++ X ++ mid ++ Y ++ post).length = pre.length + X.length + mid.length + X.length + post.length := by simp only [List.length_append]; omega
 have HS : Aside (∀ i, i ≤ n → (stg pre X mid Y post i).length = d0.size) := fun i hi => by rw [hs]; exact stg_len hXY (by omega)
 have HW : Aside (∀ i, i < n → swp (stg pre X mid Y post i).toArray (a + i) (b + i) = (stg pre X mid Y post (i + 1)).toArray) := fun i hi => by rw [ha, hb]; exact stg_swp hXY (by omega)
 have S0 : Aside (SW w0 g (stg pre X mid Y post 0) w) := by rw [stg_zero]; exact S
 have HE : Aside (stg pre X mid Y post n = pre ++ Y ++ mid ++ X ++ post) := by rw [hn]; exact stg_end hXY
 have hB : b + n ≤ d0.size := by omega
 have hab : a + n ≤ b := by omega
 obtain ⟨N, hN⟩ : ∃ N, d0.size = N := ⟨_, rfl⟩
 rw [hN] at hsz hB ⊢
 have HN : Aside (d0.size = N) := hN
 clear S hs ha hb hn hL hXY hN
 have aE := Tryz.isAgg103
 have zE := Tryz.sizeOf103
 have mixed : Tryz.prog.follows .mixedOrders = true := by kernel_rfl
 obtain ⟨T, hT⟩ : ∃ T, stg pre X mid Y post = T := ⟨_, rfl⟩
 rw [hT] at HS HW S0 HE
 clear hT
 go_enter Tryz.func238, Tryz.ntmps238
 go_wp2
 go_loopg [10] n (fun kx s wr => ∃ i : Nat, s = .int .i64 i ∧ i ≤ n ∧ n - i ≤ kx ∧ Aside (SW w0 g (T i) wr))
 case atStart => exact ⟨0, rfl, by omega, by omega, S0⟩
 case round =>
  clear S0
  obtain ⟨i, rfl, hi, hk, S1⟩ := hrel
  by_cases hlt : i < n
  ·have hltz : (i : Int) < (n : Int) := by omega
   go_wp2_with fail
   have hTi : (T i).toArray.size = d0.size := by rw [List.size_toArray]; exact HS.out i hi
   have ea : ((a : Int) + (i : Int)).toNat = a + i := by omega
   have pa : (0 : Int) ≤ (a : Int) + (i : Int) := by omega
   have ba : (a : Int) + (i : Int) < (N : Int) := by omega
   have ra : IntKind.i64.wrap ((a : Int) + (i : Int)) = (a : Int) + (i : Int) := by rw [IntKind.wrap_i64]; omega
   have ec : ((b : Int) + (i : Int)).toNat = b + i := by omega
   have pc : (0 : Int) ≤ (b : Int) + (i : Int) := by omega
   have bc : (b : Int) + (i : Int) < (N : Int) := by omega
   have rc : IntKind.i64.wrap ((b : Int) + (i : Int)) = (b : Int) + (i : Int) := by rw [IntKind.wrap_i64]; omega
   have hsz' := HN.out
   have S2 : Aside (SWK scells 6 w0 g 0 (swp (T i).toArray (a + i) (b + i)) ((wr.drew.setCells g (0 + (a + i) * 6) (scells (T i).toArray[b + i]!)).setCells g (0 + (b + i) * 6) (scells (T i).toArray[a + i]!))) := S1.out.swapped R (a + i) (b + i) (by omega) (by omega)
   have la := S1.out.ld1 R hTi Tryz.prog (a + i) (by omega)
   have lb := S1.out.ld1 R hTi Tryz.prog (b + i) (by omega)
   have sa := S1.out.st1 R hTi Tryz.prog (a + i) (by omega) (T i).toArray[b + i]!
   have sb := S1.out.st2 R hTi Tryz.prog (a + i) (b + i) (by omega) (by omega) (T i).toArray[b + i]! (T i).toArray[a + i]!
   have na : (scells (T i).toArray[a + i]!).length = 6 := R.hk _
   have nb : (scells (T i).toArray[b + i]!).length = 6 := R.hk _
   rw [HW.out i hlt] at S2
   generalize scells (T i).toArray[a + i]! = cA at S2 la sb na
   generalize scells (T i).toArray[b + i]! = cB at S2 lb sa sb nb
   simp only [Nat.zero_add] at S2 la lb sa sb
   clear S1 hTi hsz'
   obtain ⟨k6, hk6⟩ : ∃ k, (6 : Nat) = k := ⟨_, rfl⟩
   rw [hk6] at zE S2 la lb sa sb na nb
   go_big_region_o
   all_goals subst hk6
   all_goals clear la lb sa sb
   all_goals generalize (wr.drew.setCells g ((a + i) * 6) cB).setCells g ((b + i) * 6) cA = w2 at S2 ⊢
   all_goals go_wp2
   all_goals go_roundg (n - (i + 1))
   case measure => omega
   case rel => exact ⟨i + 1, by simp, by omega, Nat.le_refl _, S2⟩
  ·obtain rfl : i = n := by omega
   go_wp2
   go_end0
   refine ⟨rfl, ?_⟩
   rw [← HE.out]
   exact S1.out
theorem ncast {a b : Nat} (h : b ≤ a) : ((a - b : Nat) : Int) = (a : Int) - (b : Int) := by omega
set_option maxRecDepth 1000000 in
set_option maxHeartbeats 4000000 in
theorem rotate_any {w0 w : World} {g cap : Nat} {d0 : Array Six} {pre A B post : List Six} (R : RowK scells 6 w0 g 0 d0) (hs : d0.size = (pre ++ A ++ B ++ post).length) (hA : 0 < A.length) (hB : 0 < B.length)
  (S : SW w0 g (pre ++ A ++ B ++ post) w) (hsz : d0.size < 1000000) {a m b : Nat} (ha : a = pre.length) (hm : m = pre.length + A.length) (hb : b = pre.length + A.length + B.length) :
  Calls Tryz.prog 236 #[.slice (some ⟨g, 0, none⟩) d0.size cap, .int .i64 a, .int .i64 m, .int .i64 b, .func (.func 161) #[] #[]] w fun e w' => e = .returned (.tuple #[]) ∧ SW w0 g (pre ++ B ++ A ++ post) w' := by
 have hL : (pre ++ A ++ B ++ post).length = pre.length + A.length + B.length + post.length := by simp only [List.length_append]
 obtain ⟨N, hN⟩ : ∃ N, d0.size = N := ⟨_, rfl⟩
 have hN' : N < 1000000 := by omega
 have hbN : b ≤ N := by omega
 have HR : Aside (RowK scells 6 w0 g 0 d0) := R
 have HN : Aside (d0.size = N) := hN
 have HSZ : Aside (d0.size < 1000000) := hsz
 have S0 : Aside (SW w0 g (pre ++ A ++ B ++ post) w) := S
 have h1 : a < m := by omega
 have h2 : m < b := by omega
 obtain ⟨tgt, ht⟩ : ∃ tgt, pre ++ B ++ A ++ post = tgt := ⟨_, rfl⟩
 have I0 : Aside (A.length = m - a ∧ B.length = b - m ∧ pre.length + (m - a) = m ∧ pre ++ B ++ A ++ post = tgt ∧ (pre ++ A ++ B ++ post).length = d0.size) := ⟨by omega, by omega, by omega, ht, hs.symm⟩
 rw [hN, ht]
 clear R hN hsz S hs ha hm hb hL hA hB ht
 go_enter Tryz.func236, Tryz.ntmps236
 go_wp2
 go_loopg [10, 11] (b - a) (fun kx s t wr => ∃ (i j : Nat) (P X Y T : List Six), s = .int .i64 i ∧ t = .int .i64 j ∧ i ≤ m ∧ 0 < i ∧ 0 < j ∧ i + j ≤ kx ∧ m + j ≤ N ∧ Aside (X.length = i ∧ Y.length = j ∧ P.length + i = m ∧ P ++ Y ++ X ++ T = tgt ∧ (P ++ X ++ Y ++ T).length = d0.size) ∧ Aside (SW w0 g (P ++ X ++ Y ++ T) wr))
 case atStart => exact ⟨m - a, b - m, pre, A, B, post, by rw [ncast (by omega)], by rw [ncast (by omega)], by omega, by omega, by omega, by omega, by omega, I0, S0⟩
 case round =>
  clear S0 I0
  obtain ⟨i, j, P, X, Y, T, rfl, rfl, him, hi, hj, hk, hmj, I1, S1⟩ := hrel
  have ra : IntKind.i64.wrap ((m : Int) - (i : Int)) = (m : Int) - (i : Int) := by rw [IntKind.wrap_i64]; omega
  by_cases hij : i = j
  ·subst hij
   have T1 := swapRange_any (cap := cap) (w := wr) (pre := P) (X := X) (mid := []) (Y := Y) (post := T) (a := m - i) (b := m) (n := i) HR.out (by have := I1.out.2.2.2.2; rw [List.append_nil]; exact this.symm) (by have := I1.out; omega) (by rw [List.append_nil]; exact S1.out) HSZ.out (by have := I1.out; omega) (by have := I1.out; simp; omega) (by have := I1.out; omega)
   rw [HN.out, ncast him, List.append_nil] at T1
   have HT1 := Lib.hid T1
   clear T1
   have e1 : ((i : Int) != (i : Int)) = false := by simp
   go_wp2_with (go_at_call 238; go_loud ((with_reducible refine (HT1.out).mono ?_); rintro e w1 ⟨rfl, S2⟩))
   go_end0
   refine ⟨rfl, ?_⟩
   rw [← I1.out.2.2.2.1]
   exact S2
  ·have e1 : ((i : Int) != (j : Int)) = true := by simp; omega
   by_cases hlt : j < i
   ·have e2 : (j : Int) < (i : Int) := by omega
    have T1 := swapRange_any (cap := cap) (w := wr) (pre := P) (X := X.take j) (mid := X.drop j) (Y := Y) (post := T) (a := m - i) (b := m) (n := j) HR.out (by have := I1.out.2.2.2.2; rw [List.append_assoc P, List.take_append_drop]; exact this.symm) (by have := I1.out; rw [List.length_take]; omega) (by rw [List.append_assoc P, List.take_append_drop]; exact S1.out) HSZ.out (by have := I1.out; omega) (by have := I1.out; rw [List.length_take, List.length_drop]; omega) (by have := I1.out; rw [List.length_take]; omega)
    rw [HN.out, ncast him] at T1
    have HT1 := Lib.hid T1
    clear T1
    have rb : IntKind.i64.wrap ((i : Int) - (j : Int)) = (i : Int) - (j : Int) := by rw [IntKind.wrap_i64]; omega
    go_wp2_with (go_at_call 238; go_loud ((with_reducible refine (HT1.out).mono ?_); rintro e w1 ⟨rfl, S2⟩))
    go_roundg (i - j + j)
    case measure => omega
    case rel =>
     have h := I1.out
     refine ⟨i - j, j, P ++ Y, X.drop j, X.take j, T, by rw [ncast (by omega)], rfl, by omega, by omega, hj, Nat.le_refl _, hmj, ⟨by rw [List.length_drop]; omega, by rw [List.length_take]; omega, by rw [List.length_append]; omega, ?_, ?_⟩, S2⟩
     ·rw [← h.2.2.2.1, List.append_assoc (P ++ Y), List.take_append_drop]
     ·rw [← h.2.2.2.2]
      simp only [List.length_append, List.length_take, List.length_drop]
      omega
   ·have e2 : ¬ (j : Int) < (i : Int) := by omega
    have rc : IntKind.i64.wrap ((m : Int) + (j : Int)) = (m : Int) + (j : Int) := by rw [IntKind.wrap_i64]; omega
    have rd : IntKind.i64.wrap ((m : Int) + (j : Int) - (i : Int)) = (m : Int) + (j : Int) - (i : Int) := by rw [IntKind.wrap_i64]; omega
    have T1 := swapRange_any (cap := cap) (w := wr) (pre := P) (X := X) (mid := Y.take (j - i)) (Y := Y.drop (j - i)) (post := T) (a := m - i) (b := m + j - i) (n := i) HR.out (by have := I1.out.2.2.2.2; rw [List.append_assoc (P ++ X), List.take_append_drop]; exact this.symm) (by have := I1.out; rw [List.length_drop]; omega) (by rw [List.append_assoc (P ++ X), List.take_append_drop]; exact S1.out) HSZ.out (by have := I1.out; omega) (by have := I1.out; rw [List.length_take]; omega) (by have := I1.out; omega)
    rw [HN.out, ncast him, ncast (by omega : i ≤ m + j), Int.natCast_add] at T1
    have HT1 := Lib.hid T1
    clear T1
    have rb : IntKind.i64.wrap ((j : Int) - (i : Int)) = (j : Int) - (i : Int) := by rw [IntKind.wrap_i64]; omega
    go_wp2_with (go_at_call 238; go_loud ((with_reducible refine (HT1.out).mono ?_); rintro e w1 ⟨rfl, S2⟩))
    go_roundg (i + (j - i))
    case measure => omega
    case rel =>
     have h := I1.out
     refine ⟨i, j - i, P, Y.drop (j - i), Y.take (j - i), X ++ T, rfl, by rw [ncast (by omega)], him, hi, by omega, Nat.le_refl _, by omega, ⟨by rw [List.length_drop]; omega, by rw [List.length_take]; omega, by omega, ?_, ?_⟩, ?_⟩
     ·rw [← h.2.2.2.1, List.append_assoc P, List.take_append_drop, List.append_assoc, List.append_assoc, List.append_assoc]
     ·rw [← h.2.2.2.2]
      simp only [List.length_append, List.length_take, List.length_drop]
      omega
     ·rw [← List.append_assoc]
      exact S2
end Go.Proofs.YtkoejeghihcmlaaGreat

namespace Go.Proofs.YtkoejeghihcmlaaGreat
open Go.RowKit Go.Shelf Go.Sort
theorem cf_lt {x y : Six} : cfH x y < 0 ↔ x.b < y.b := by
 unfold cfH cmpI
 by_cases h : x.b < y.b
 ·rw [if_pos h]; simp [h]
 ·rw [if_neg h]
  split <;> simp [h]
theorem getR {pre L R post : List Six} {m b k : Nat} (hm : m = pre.length + L.length) (hb : b = pre.length + L.length + R.length) (h1 : m ≤ k) (h2 : k < b) : (pre ++ L ++ R ++ post).toArray[k]! = R.getD (k - m) z6 := by
 rw [getA (by simp only [List.length_append]; omega)]
 have := getD_mid (A := pre ++ L) (B := R) (C := post) (i := k - m) (by omega)
 rw [← this, List.length_append, show pre.length + L.length + (k - m) = k by omega]
theorem getL {pre L R post : List Six} {a m k : Nat} (ha : a = pre.length) (hm : m = pre.length + L.length) (h1 : a ≤ k) (h2 : k < m) : (pre ++ L ++ R ++ post).toArray[k]! = L.getD (k - a) z6 := by
 rw [getA (by simp only [List.length_append]; omega)]
 have := getD_mid (A := pre) (B := L) (C := R ++ post) (i := k - a) (by omega)
 rw [← this, show pre.length + (k - a) = k by omega, List.append_assoc (pre ++ L)]
/-- One element on its way to the right, to the left. -/
def mvR (pre : List Six) (x : Six) (R post : List Six) (t : Nat) : List Six := pre ++ (R.take t ++ x :: R.drop t) ++ post
theorem mvR_len {pre : List Six} {x : Six} {R post : List Six} (t : Nat) : (mvR pre x R post t).length = pre.length + 1 + R.length + post.length := by
 unfold mvR
 simp only [List.length_append, List.length_cons, List.length_take, List.length_drop]
 omega
theorem mvR_swp {pre : List Six} {x : Six} {R post : List Six} {t : Nat} (h : t < R.length) : swp (mvR pre x R post t).toArray (pre.length + t) (pre.length + t + 1) = (mvR pre x R post (t + 1)).toArray := by
 have e : mvR pre x R post t = (pre ++ R.take t) ++ x :: ([] ++ R.getD t z6 :: (R.drop (t + 1) ++ post)) := by
  unfold mvR
  rw [drop_cons_D h]
  simp
 rw [e, swp_list (by simp; omega) (by simp; omega)]
 unfold mvR
 rw [take_succ_D h]
 simp
theorem mvL_swp {pre : List Six} {x : Six} {R post : List Six} {t : Nat} (h : t < R.length) : swp (mvR pre x R post (t + 1)).toArray (pre.length + t + 1) (pre.length + t) = (mvR pre x R post t).toArray := by
 have e : mvR pre x R post (t + 1) = (pre ++ R.take t) ++ R.getD t z6 :: ([] ++ x :: (R.drop (t + 1) ++ post)) := by
  unfold mvR
  rw [take_succ_D h]
  simp
 rw [e, swp_back (by simp; omega) (by simp; omega)]
 unfold mvR
 rw [drop_cons_D h]
 simp
set_option maxRecDepth 1000000 in
set_option maxHeartbeats 8000000 in
theorem symLeft_any {w0 : World} {g cap : Nat} {d0 : Array Six} (R : RowK scells 6 w0 g 0 d0) (HCM : CmpLays Tryz.prog 161 #[] scells 6 cfH g 0 d0.size w0) (hsz : d0.size < 1000000) (pre : List Six) (x : Six) (Rr post : List Six) (w : World) {a m b : Nat}
  (hs : d0.size = (pre ++ [x] ++ Rr ++ post).length) (hRl : 0 < Rr.length) (hRs : LxS Rr) (hA : Ap [x] Rr) (S : SW w0 g (pre ++ [x] ++ Rr ++ post) w) (ha : a = pre.length) (hm : m = pre.length + 1) (hb : b = pre.length + 1 + Rr.length) :
  Calls Tryz.prog 229 #[.slice (some ⟨g, 0, none⟩) d0.size cap, .int .i64 a, .int .i64 m, .int .i64 b, .func (.func 161) #[] #[]] w fun e w' => e = .returned (.tuple #[]) ∧ ∃ Z, Mg [x] Rr Z ∧ SW w0 g (pre ++ Z ++ post) w' := by
 have hlen : (pre ++ [x] ++ Rr ++ post).length = pre.length + 1 + Rr.length + post.length := by simp only [List.length_append, List.length_singleton]
 obtain ⟨N, hN⟩ : ∃ N, d0.size = N := ⟨_, rfl⟩
 have hN' : N < 1000000 := by omega
 have hbN : b ≤ N := by omega
 have hmb : m < b := by omega
 have HAM : Aside (m = a + 1) := by show m = a + 1; omega
 have ham : a < m := by omega
 have HR : Aside (RowK scells 6 w0 g 0 d0) := R
 have HC : Aside (CmpLays Tryz.prog 161 #[] scells 6 cfH g 0 d0.size w0) := HCM
 have HN : Aside (d0.size = N) := hN
 obtain ⟨D, hD⟩ : ∃ D, pre ++ [x] ++ Rr ++ post = D := ⟨_, rfl⟩
 have HD : Aside (D.toArray.size = d0.size) := by rw [← hD, List.size_toArray]; exact hs.symm
 have HGX : Aside (D.toArray[a]! = x) := by rw [← hD]; exact getL (L := [x]) (k := a) ha (by simpa using hm) (Nat.le_refl _) (by omega) |>.trans (by simp)
 have HGR : Aside (∀ k, m ≤ k → k < b → D.toArray[k]! = Rr.getD (k - m) z6) := fun k h1 h2 => by rw [← hD]; exact getR (by simpa using hm) (by simpa using hb) h1 h2
 rw [hD] at S
 have S0 : Aside (SW w0 g D w) := S
 have HL : Aside (∀ t, t ≤ Rr.length → (mvR pre x Rr post t).toArray.size = d0.size) := fun t _ => by rw [List.size_toArray, mvR_len, hs, hlen]
 have HMV : Aside (D = mvR pre x Rr post 0 ∧ ∀ t, t < Rr.length → swp (mvR pre x Rr post t).toArray (a + t) (a + t + 1) = (mvR pre x Rr post (t + 1)).toArray) := ⟨by rw [← hD]; unfold mvR; simp, fun t ht => by rw [ha]; exact mvR_swp ht⟩
 have HMG : Aside (∀ j, j ≤ Rr.length → (0 < j → (Rr.getD (j - 1) z6).b < x.b) → (j < Rr.length → x.b ≤ (Rr.getD j z6).b) → Mg [x] Rr (Rr.take j ++ x :: Rr.drop j)) := fun j hj h1 h2 => mg_one_left hRs hA hj h1 h2
 have HRB : Aside (Rr.length = b - m) := by show Rr.length = b - m; omega
 rw [hN]
 clear R HCM hN hsz S hs hlen hD hRs hA ha hb hRl hm
 obtain ⟨mv, hmv⟩ : ∃ f, mvR pre x Rr post = f := ⟨_, rfl⟩
 rw [hmv] at HL HMV
 have HE : Aside (∀ t, mv t = pre ++ (Rr.take t ++ x :: Rr.drop t) ++ post) := fun t => by rw [← hmv]; rfl
 clear hmv
 have e0 : ((m : Int) - (a : Int) == 1) = true := by have := HAM.out; simp; omega
 have e0w : IntKind.i64.wrap ((m : Int) - (a : Int)) = (m : Int) - (a : Int) := by rw [IntKind.wrap_i64]; omega
 go_enter Tryz.func229, Tryz.ntmps229
 go_wp2
 go_loopg [10, 11] (b - m) (fun kx s t wr => ∃ i j : Nat, s = .int .i64 i ∧ t = .int .i64 j ∧ m ≤ i ∧ i ≤ j ∧ j ≤ b ∧ j - i ≤ kx ∧ Aside ((m < i → (Rr.getD (i - m - 1) z6).b < x.b) ∧ (j < b → x.b ≤ (Rr.getD (j - m) z6).b)) ∧ Aside (SW w0 g D wr))
 case atStart => exact ⟨m, b, rfl, rfl, Nat.le_refl _, by omega, Nat.le_refl _, by omega, ⟨fun h => absurd h (Nat.lt_irrefl _), fun h => absurd h (Nat.lt_irrefl _)⟩, S0⟩
 case round =>
  clear S0
  obtain ⟨i, j, rfl, rfl, hi, hij, hj, hk, I1, S1⟩ := hrel
  by_cases hlt : i < j
  ·have hltz : (i : Int) < (j : Int) := by omega
   obtain ⟨h, hh⟩ : ∃ h, (i + j) / 2 = h := ⟨_, rfl⟩
   have h1 : i ≤ h := by omega
   have h2 : h < j := by omega
   have hhi : ((i : Int) + (j : Int)) / 2 = (h : Int) := by omega
   have hhw : IntKind.i64.wrap ((i : Int) + (j : Int)) = (i : Int) + (j : Int) := by rw [IntKind.wrap_i64]; omega
   obtain ⟨y, hy⟩ : ∃ y, Rr.getD (h - m) z6 = y := ⟨_, rfl⟩
   have hx7 : D.toArray[h]! = y := by rw [HGR.out h (by omega) (by omega)]; exact hy
   have hy7 : D.toArray[a]! = x := HGX.out
   have HY : Aside (Rr.getD (h - m) z6 = y) := hy
   clear hy hh
   by_cases hb7 : y.b < x.b
   ·have HB : Aside (y.b < x.b) := hb7
    have e7a : ((h : Int)).toNat = h := by omega
    have p7a : (0 : Int) ≤ (h : Int) := by omega
    have q7a : (h : Int) < (N : Int) := by omega
    have r7a : IntKind.i64.wrap ((h : Int)) = (h : Int) := by rw [IntKind.wrap_i64]; omega
    have e7b : ((a : Int)).toNat = a := by omega
    have p7b : (0 : Int) ≤ (a : Int) := by omega
    have q7b : (a : Int) < (N : Int) := by omega
    have r7b : IntKind.i64.wrap ((a : Int)) = (a : Int) := by rw [IntKind.wrap_i64]; omega
    have l7a := S1.out.ld HR.out HD.out Tryz.prog (h) (by have := HD.out; have := HN.out; omega)
    have l7b := S1.out.ld HR.out HD.out Tryz.prog (a) (by have := HD.out; have := HN.out; omega)
    rw [hx7] at l7a
    rw [hy7] at l7b
    have c7 := S1.out.cmp HC.out HD.out y x
    rw [show #[Value.agg (scells y).toArray, Value.agg (scells x).toArray] ++ #[] = #[Value.agg (scells y).toArray, Value.agg (scells x).toArray] from rfl] at c7
    obtain ⟨v7, hv7⟩ : ∃ c, cfH y x = c := ⟨_, rfl⟩
    rw [hv7] at c7
    have z7 : v7 < 0 := by rw [← hv7, cf_lt]; exact hb7
    have d7 : decide (v7 < 0) = true := decide_eq_true z7
    clear hx7 hy7 hv7 hb7
    simp only [Nat.zero_add] at l7a l7b
    have aE := Tryz.isAgg103
    have zE := Tryz.sizeOf103
    have mixed : Tryz.prog.follows .mixedOrders = true := by kernel_rfl
    obtain ⟨k6, hk6⟩ : ∃ k, (6 : Nat) = k := ⟨_, rfl⟩
    rw [hk6] at zE l7a l7b
    have HK6 : Aside ((6 : Nat) = k6) := hk6
    clear hk6
    go_wp2_with fail
    refine wp_region_quiet_grown (by assumption) (by kernel_rfl) ?_
    repeat (go_big_quiet_step ((go_at_call 161; exact Calls.grown_of (c7 _ _))))
    refine wpQuiet_nil ?_
    intro _ hw'
    obtain ⟨⟨nq, osq⟩, hw''⟩ := hw'
    subst hw''
    have S2 : Aside (SWK scells 6 w0 g 0 D.toArray (grow (wr.drewN nq) osq)) := S1.out.grown nq osq
    clear l7a l7b c7 S1 zE aE mixed
    obtain rfl := HK6.out
    generalize grow (wr.drewN nq) osq = w2 at S2 ⊢
    clear nq osq
    go_wp2_with fail
    go_roundg (j - (h + 1))
    case measure => omega
    case rel => exact ⟨h + 1, j, by go_num, rfl, by omega, by omega, hj, Nat.le_refl _, ⟨fun _ => by rw [show h + 1 - m - 1 = h - m by omega, HY.out]; exact HB.out, I1.out.2⟩, S2⟩
   ·have HB : Aside (¬ y.b < x.b) := hb7
    have e7a : ((h : Int)).toNat = h := by omega
    have p7a : (0 : Int) ≤ (h : Int) := by omega
    have q7a : (h : Int) < (N : Int) := by omega
    have r7a : IntKind.i64.wrap ((h : Int)) = (h : Int) := by rw [IntKind.wrap_i64]; omega
    have e7b : ((a : Int)).toNat = a := by omega
    have p7b : (0 : Int) ≤ (a : Int) := by omega
    have q7b : (a : Int) < (N : Int) := by omega
    have r7b : IntKind.i64.wrap ((a : Int)) = (a : Int) := by rw [IntKind.wrap_i64]; omega
    have l7a := S1.out.ld HR.out HD.out Tryz.prog (h) (by have := HD.out; have := HN.out; omega)
    have l7b := S1.out.ld HR.out HD.out Tryz.prog (a) (by have := HD.out; have := HN.out; omega)
    rw [hx7] at l7a
    rw [hy7] at l7b
    have c7 := S1.out.cmp HC.out HD.out y x
    rw [show #[Value.agg (scells y).toArray, Value.agg (scells x).toArray] ++ #[] = #[Value.agg (scells y).toArray, Value.agg (scells x).toArray] from rfl] at c7
    obtain ⟨v7, hv7⟩ : ∃ c, cfH y x = c := ⟨_, rfl⟩
    rw [hv7] at c7
    have z7 : ¬ v7 < 0 := by rw [← hv7, cf_lt]; exact hb7
    have d7 : decide (v7 < 0) = false := decide_eq_false z7
    clear hx7 hy7 hv7 hb7
    simp only [Nat.zero_add] at l7a l7b
    have aE := Tryz.isAgg103
    have zE := Tryz.sizeOf103
    have mixed : Tryz.prog.follows .mixedOrders = true := by kernel_rfl
    obtain ⟨k6, hk6⟩ : ∃ k, (6 : Nat) = k := ⟨_, rfl⟩
    rw [hk6] at zE l7a l7b
    have HK6 : Aside ((6 : Nat) = k6) := hk6
    clear hk6
    go_wp2_with fail
    refine wp_region_quiet_grown (by assumption) (by kernel_rfl) ?_
    repeat (go_big_quiet_step ((go_at_call 161; exact Calls.grown_of (c7 _ _))))
    refine wpQuiet_nil ?_
    intro _ hw'
    obtain ⟨⟨nq, osq⟩, hw''⟩ := hw'
    subst hw''
    have S2 : Aside (SWK scells 6 w0 g 0 D.toArray (grow (wr.drewN nq) osq)) := S1.out.grown nq osq
    clear l7a l7b c7 S1 zE aE mixed
    obtain rfl := HK6.out
    generalize grow (wr.drewN nq) osq = w2 at S2 ⊢
    clear nq osq
    go_wp2_with fail
    go_roundg (h - i)
    case measure => omega
    case rel => exact ⟨i, h, rfl, rfl, hi, h1, by omega, Nat.le_refl _, ⟨I1.out.1, fun _ => by rw [HY.out]; exact (by have := HB.out; omega)⟩, S2⟩
  ·obtain rfl : i = j := by omega
   have hwi : IntKind.i64.wrap ((i : Int) - 1) = (i : Int) - 1 := by rw [IntKind.wrap_i64]; omega
   have S1 : Aside (SW w0 g (mv 0) wr) := by rw [← HMV.out.1]; exact S1.out
   go_wp2
   go_loopg [13] (i - m) (fun kx s wr => ∃ t : Nat, s = .int .i64 ((a : Int) + (t : Int)) ∧ t ≤ i - m ∧ i - m - t ≤ kx ∧ Aside (SW w0 g (mv t) wr))
   case atStart => exact ⟨0, by simp, Nat.zero_le _, Nat.le_refl _, S1⟩
   case round =>
    clear S1
    obtain ⟨t, rfl, ht, hkt, S1⟩ := hrel
    by_cases hlt2 : t < i - m
    ·have hltz2 : (a : Int) + (t : Int) < (i : Int) - 1 := by omega
     have e8a : ((a : Int) + (t : Int)).toNat = a + t := by omega
     have p8a : (0 : Int) ≤ (a : Int) + (t : Int) := by omega
     have q8a : (a : Int) + (t : Int) < (N : Int) := by omega
     have r8a : IntKind.i64.wrap ((a : Int) + (t : Int)) = (a : Int) + (t : Int) := by rw [IntKind.wrap_i64]; omega
     have e8b : ((a : Int) + (t : Int) + 1).toNat = a + t + 1 := by omega
     have p8b : (0 : Int) ≤ (a : Int) + (t : Int) + 1 := by omega
     have q8b : (a : Int) + (t : Int) + 1 < (N : Int) := by omega
     have r8b : IntKind.i64.wrap ((a : Int) + (t : Int) + 1) = (a : Int) + (t : Int) + 1 := by rw [IntKind.wrap_i64]; omega
     have hT8 : (mv t).toArray.size = d0.size := HL.out _ (by have := HRB.out; omega)
     have hZ8 := HN.out
     have S2 : Aside (SWK scells 6 w0 g 0 (swp (mv t).toArray (a + t) (a + t + 1)) ((wr.drew.setCells g (0 + (a + t) * 6) (scells (mv t).toArray[a + t + 1]!)).setCells g (0 + (a + t + 1) * 6) (scells (mv t).toArray[a + t]!))) := S1.out.swapped HR.out (a + t) (a + t + 1) (by omega) (by omega)
     have l8a := S1.out.ld1 HR.out hT8 Tryz.prog (a + t) (by omega)
     have l8b := S1.out.ld1 HR.out hT8 Tryz.prog (a + t + 1) (by omega)
     have s8a := S1.out.st1 HR.out hT8 Tryz.prog (a + t) (by omega) (mv t).toArray[a + t + 1]!
     have s8b := S1.out.st2 HR.out hT8 Tryz.prog (a + t) (a + t + 1) (by omega) (by omega) (mv t).toArray[a + t + 1]! (mv t).toArray[a + t]!
     have n8a : (scells (mv t).toArray[a + t]!).length = 6 := HR.out.hk _
     have n8b : (scells (mv t).toArray[a + t + 1]!).length = 6 := HR.out.hk _
     rw [HMV.out.2 t (by have := HRB.out; omega)] at S2
     generalize scells (mv t).toArray[a + t]! = cA at S2 l8a s8b n8a
     generalize scells (mv t).toArray[a + t + 1]! = cB at S2 l8b s8a s8b n8b
     clear S1 hT8 hZ8
     simp only [Nat.zero_add] at S2 l8a l8b s8a s8b
     have aE := Tryz.isAgg103
     have zE := Tryz.sizeOf103
     have mixed : Tryz.prog.follows .mixedOrders = true := by kernel_rfl
     obtain ⟨k6, hk6⟩ : ∃ k, (6 : Nat) = k := ⟨_, rfl⟩
     rw [hk6] at zE S2 l8a l8b s8a s8b n8a n8b
     have HK6 : Aside ((6 : Nat) = k6) := hk6
     clear hk6
     go_wp2_with fail
     go_big_region_o
     all_goals obtain rfl := HK6.out
     all_goals clear l8a l8b s8a s8b
     all_goals generalize (wr.drew.setCells g ((a + t) * 6) cB).setCells g ((a + t + 1) * 6) cA = w2 at S2 ⊢
     all_goals go_wp2
     all_goals go_roundg (i - m - (t + 1))
     case measure => omega
     case rel => exact ⟨t + 1, by simp; omega, by omega, Nat.le_refl _, S2⟩
    ·have HTE : Aside (t = i - m) := by show t = i - m; omega
     have hltz2 : ¬ (a : Int) + (t : Int) < (i : Int) - 1 := by have := HAM.out; omega
     go_wp2
     (try simp only [Exit.inBlock, Exit.then]); refine bodyPost_ret (results_none rfl _ _ _) rfl ?_
     refine ⟨rfl, _, HMG.out (i - m) (by have := HRB.out; omega) (fun h => I1.out.1 (by omega)) (fun h => I1.out.2 (by have := HRB.out; omega)), ?_⟩
     have hx := S1.out
     rw [HTE.out, HE.out] at hx
     simpa only [List.append_assoc] using hx
set_option maxRecDepth 1000000 in
set_option maxHeartbeats 8000000 in
theorem symRight_any {w0 : World} {g cap : Nat} {d0 : Array Six} (R : RowK scells 6 w0 g 0 d0) (HCM : CmpLays Tryz.prog 161 #[] scells 6 cfH g 0 d0.size w0) (hsz : d0.size < 1000000) (pre L : List Six) (y : Six) (post : List Six) (w : World) {a m b : Nat}
  (hs : d0.size = (pre ++ L ++ [y] ++ post).length) (hLl : 1 < L.length) (hLs : LxS L) (hA : Ap L [y]) (S : SW w0 g (pre ++ L ++ [y] ++ post) w) (ha : a = pre.length) (hm : m = pre.length + L.length) (hb : b = pre.length + L.length + 1) :
  Calls Tryz.prog 229 #[.slice (some ⟨g, 0, none⟩) d0.size cap, .int .i64 a, .int .i64 m, .int .i64 b, .func (.func 161) #[] #[]] w fun e w' => e = .returned (.tuple #[]) ∧ ∃ Z, Mg L [y] Z ∧ SW w0 g (pre ++ Z ++ post) w' := by
 have hlen : (pre ++ L ++ [y] ++ post).length = pre.length + L.length + 1 + post.length := by simp only [List.length_append, List.length_singleton]
 obtain ⟨N, hN⟩ : ∃ N, d0.size = N := ⟨_, rfl⟩
 have hN' : N < 1000000 := by omega
 have hbN : b ≤ N := by omega
 have ham : a + 1 < m := by omega
 have HMB : Aside (b = m + 1) := by show b = m + 1; omega
 have hmb : m < b := by omega
 have HR : Aside (RowK scells 6 w0 g 0 d0) := R
 have HC : Aside (CmpLays Tryz.prog 161 #[] scells 6 cfH g 0 d0.size w0) := HCM
 have HN : Aside (d0.size = N) := hN
 obtain ⟨D, hD⟩ : ∃ D, pre ++ L ++ [y] ++ post = D := ⟨_, rfl⟩
 have HD : Aside (D.toArray.size = d0.size) := by rw [← hD, List.size_toArray]; exact hs.symm
 have HGY : Aside (D.toArray[m]! = y) := by rw [← hD]; exact (getR (R := [y]) (k := m) hm (b := b) (by simpa using hb) (Nat.le_refl _) (by omega)).trans (by simp)
 have HGL : Aside (∀ k, a ≤ k → k < m → D.toArray[k]! = L.getD (k - a) z6) := fun k h1 h2 => by rw [← hD]; exact getL ha hm h1 h2
 rw [hD] at S
 have S0 : Aside (SW w0 g D w) := S
 have HL : Aside (∀ t, t ≤ L.length → (mvR pre y L post t).toArray.size = d0.size) := fun t _ => by rw [List.size_toArray, mvR_len, hs, hlen]; omega
 have HMV : Aside (D = mvR pre y L post L.length ∧ ∀ t, t < L.length → swp (mvR pre y L post (t + 1)).toArray (a + (t + 1)) (a + t) = (mvR pre y L post t).toArray) := ⟨by rw [← hD]; unfold mvR; simp, fun t ht => by rw [ha]; exact mvL_swp ht⟩
 have HMG : Aside (∀ i, i ≤ L.length → (0 < i → (L.getD (i - 1) z6).b ≤ y.b) → (i < L.length → y.b < (L.getD i z6).b) → Mg L [y] (L.take i ++ y :: L.drop i)) := fun j hj h1 h2 => mg_one_right hLs hA hj h1 h2
 have HRB : Aside (L.length = m - a) := by show L.length = m - a; omega
 rw [hN]
 rw [HRB.out] at HMV
 clear R HCM hN hsz S hs hlen hD hLs hA ha hb hLl hm
 obtain ⟨mv, hmv⟩ : ∃ f, mvR pre y L post = f := ⟨_, rfl⟩
 rw [hmv] at HL HMV
 have HE : Aside (∀ t, mv t = pre ++ (L.take t ++ y :: L.drop t) ++ post) := fun t => by rw [← hmv]; rfl
 clear hmv
 have e0 : ((m : Int) - (a : Int) == 1) = false := by simp; omega
 have e0w : IntKind.i64.wrap ((m : Int) - (a : Int)) = (m : Int) - (a : Int) := by rw [IntKind.wrap_i64]; omega
 have e1 : ((b : Int) - (m : Int) == 1) = true := by have := HMB.out; simp; omega
 have e1w : IntKind.i64.wrap ((b : Int) - (m : Int)) = (b : Int) - (m : Int) := by rw [IntKind.wrap_i64]; omega
 go_enter Tryz.func229, Tryz.ntmps229
 go_wp2
 go_loopg [14, 15] (m - a) (fun kx s t wr => ∃ i j : Nat, s = .int .i64 i ∧ t = .int .i64 j ∧ a ≤ i ∧ i ≤ j ∧ j ≤ m ∧ j - i ≤ kx ∧ Aside ((a < i → (L.getD (i - a - 1) z6).b ≤ y.b) ∧ (j < m → y.b < (L.getD (j - a) z6).b)) ∧ Aside (SW w0 g D wr))
 case atStart => exact ⟨a, m, rfl, rfl, Nat.le_refl _, by omega, Nat.le_refl _, by omega, ⟨fun h => absurd h (Nat.lt_irrefl _), fun h => absurd h (Nat.lt_irrefl _)⟩, S0⟩
 case round =>
  clear S0
  obtain ⟨i, j, rfl, rfl, hi, hij, hj, hk, I1, S1⟩ := hrel
  by_cases hlt : i < j
  ·have hltz : (i : Int) < (j : Int) := by omega
   obtain ⟨h, hh⟩ : ∃ h, (i + j) / 2 = h := ⟨_, rfl⟩
   have h1 : i ≤ h := by omega
   have h2 : h < j := by omega
   have hhi : ((i : Int) + (j : Int)) / 2 = (h : Int) := by omega
   have hhw : IntKind.i64.wrap ((i : Int) + (j : Int)) = (i : Int) + (j : Int) := by rw [IntKind.wrap_i64]; omega
   obtain ⟨x, hx⟩ : ∃ x, L.getD (h - a) z6 = x := ⟨_, rfl⟩
   have hx7 : D.toArray[m]! = y := HGY.out
   have hy7 : D.toArray[h]! = x := by rw [HGL.out h (by omega) (by omega)]; exact hx
   have HX : Aside (L.getD (h - a) z6 = x) := hx
   clear hx hh
   by_cases hb7 : y.b < x.b
   ·have HB : Aside (y.b < x.b) := hb7
    have e7a : ((m : Int)).toNat = m := by omega
    have p7a : (0 : Int) ≤ (m : Int) := by omega
    have q7a : (m : Int) < (N : Int) := by omega
    have r7a : IntKind.i64.wrap ((m : Int)) = (m : Int) := by rw [IntKind.wrap_i64]; omega
    have e7b : ((h : Int)).toNat = h := by omega
    have p7b : (0 : Int) ≤ (h : Int) := by omega
    have q7b : (h : Int) < (N : Int) := by omega
    have r7b : IntKind.i64.wrap ((h : Int)) = (h : Int) := by rw [IntKind.wrap_i64]; omega
    have l7a := S1.out.ld HR.out HD.out Tryz.prog (m) (by have := HD.out; have := HN.out; omega)
    have l7b := S1.out.ld HR.out HD.out Tryz.prog (h) (by have := HD.out; have := HN.out; omega)
    rw [hx7] at l7a
    rw [hy7] at l7b
    have c7 := S1.out.cmp HC.out HD.out y x
    rw [show #[Value.agg (scells y).toArray, Value.agg (scells x).toArray] ++ #[] = #[Value.agg (scells y).toArray, Value.agg (scells x).toArray] from rfl] at c7
    obtain ⟨v7, hv7⟩ : ∃ c, cfH y x = c := ⟨_, rfl⟩
    rw [hv7] at c7
    have z7 : v7 < 0 := by rw [← hv7, cf_lt]; exact hb7
    have d7 : decide (v7 < 0) = true := decide_eq_true z7
    clear hx7 hy7 hv7 hb7
    simp only [Nat.zero_add] at l7a l7b
    have aE := Tryz.isAgg103
    have zE := Tryz.sizeOf103
    have mixed : Tryz.prog.follows .mixedOrders = true := by kernel_rfl
    obtain ⟨k6, hk6⟩ : ∃ k, (6 : Nat) = k := ⟨_, rfl⟩
    rw [hk6] at zE l7a l7b
    have HK6 : Aside ((6 : Nat) = k6) := hk6
    clear hk6
    go_wp2_with fail
    refine wp_region_quiet_grown (by assumption) (by kernel_rfl) ?_
    repeat (go_big_quiet_step ((go_at_call 161; exact Calls.grown_of (c7 _ _))))
    refine wpQuiet_nil ?_
    intro _ hw'
    obtain ⟨⟨nq, osq⟩, hw''⟩ := hw'
    subst hw''
    have S2 : Aside (SWK scells 6 w0 g 0 D.toArray (grow (wr.drewN nq) osq)) := S1.out.grown nq osq
    clear l7a l7b c7 S1 zE aE mixed
    obtain rfl := HK6.out
    generalize grow (wr.drewN nq) osq = w2 at S2 ⊢
    clear nq osq
    go_wp2_with fail
    go_roundg (h - i)
    case measure => omega
    case rel => exact ⟨i, h, rfl, rfl, hi, h1, by omega, Nat.le_refl _, ⟨I1.out.1, fun _ => by rw [HX.out]; exact HB.out⟩, S2⟩
   ·have HB : Aside (¬ y.b < x.b) := hb7
    have e7a : ((m : Int)).toNat = m := by omega
    have p7a : (0 : Int) ≤ (m : Int) := by omega
    have q7a : (m : Int) < (N : Int) := by omega
    have r7a : IntKind.i64.wrap ((m : Int)) = (m : Int) := by rw [IntKind.wrap_i64]; omega
    have e7b : ((h : Int)).toNat = h := by omega
    have p7b : (0 : Int) ≤ (h : Int) := by omega
    have q7b : (h : Int) < (N : Int) := by omega
    have r7b : IntKind.i64.wrap ((h : Int)) = (h : Int) := by rw [IntKind.wrap_i64]; omega
    have l7a := S1.out.ld HR.out HD.out Tryz.prog (m) (by have := HD.out; have := HN.out; omega)
    have l7b := S1.out.ld HR.out HD.out Tryz.prog (h) (by have := HD.out; have := HN.out; omega)
    rw [hx7] at l7a
    rw [hy7] at l7b
    have c7 := S1.out.cmp HC.out HD.out y x
    rw [show #[Value.agg (scells y).toArray, Value.agg (scells x).toArray] ++ #[] = #[Value.agg (scells y).toArray, Value.agg (scells x).toArray] from rfl] at c7
    obtain ⟨v7, hv7⟩ : ∃ c, cfH y x = c := ⟨_, rfl⟩
    rw [hv7] at c7
    have z7 : ¬ v7 < 0 := by rw [← hv7, cf_lt]; exact hb7
    have d7 : decide (v7 < 0) = false := decide_eq_false z7
    clear hx7 hy7 hv7 hb7
    simp only [Nat.zero_add] at l7a l7b
    have aE := Tryz.isAgg103
    have zE := Tryz.sizeOf103
    have mixed : Tryz.prog.follows .mixedOrders = true := by kernel_rfl
    obtain ⟨k6, hk6⟩ : ∃ k, (6 : Nat) = k := ⟨_, rfl⟩
    rw [hk6] at zE l7a l7b
    have HK6 : Aside ((6 : Nat) = k6) := hk6
    clear hk6
    go_wp2_with fail
    refine wp_region_quiet_grown (by assumption) (by kernel_rfl) ?_
    repeat (go_big_quiet_step ((go_at_call 161; exact Calls.grown_of (c7 _ _))))
    refine wpQuiet_nil ?_
    intro _ hw'
    obtain ⟨⟨nq, osq⟩, hw''⟩ := hw'
    subst hw''
    have S2 : Aside (SWK scells 6 w0 g 0 D.toArray (grow (wr.drewN nq) osq)) := S1.out.grown nq osq
    clear l7a l7b c7 S1 zE aE mixed
    obtain rfl := HK6.out
    generalize grow (wr.drewN nq) osq = w2 at S2 ⊢
    clear nq osq
    go_wp2_with fail
    go_roundg (j - (h + 1))
    case measure => omega
    case rel => exact ⟨h + 1, j, by go_num, rfl, by omega, by omega, hj, Nat.le_refl _, ⟨fun _ => by rw [show h + 1 - a - 1 = h - a by omega, HX.out]; exact (by have := HB.out; omega), I1.out.2⟩, S2⟩
  ·obtain rfl : i = j := by omega
   have S1 : Aside (SW w0 g (mv (m - a)) wr) := by rw [← HMV.out.1]; exact S1.out
   go_wp2
   go_loopg [17] (m - i) (fun kx s wr => ∃ t : Nat, s = .int .i64 ((a : Int) + (t : Int)) ∧ i - a ≤ t ∧ t ≤ m - a ∧ t - (i - a) ≤ kx ∧ Aside (SW w0 g (mv t) wr))
   case atStart => exact ⟨m - a, by congr 1; omega, by omega, Nat.le_refl _, by omega, S1⟩
   case round =>
    clear S1
    obtain ⟨t, rfl, ht, htm, hkt, S1⟩ := hrel
    by_cases hlt2 : i - a < t
    ·obtain ⟨s, rfl⟩ : ∃ s, t = s + 1 := ⟨t - 1, by omega⟩
     have hltz2 : (i : Int) < (a : Int) + ((s + 1 : Nat) : Int) := by omega
     have hc2 : (a : Int) + ((s + 1 : Nat) : Int) - 1 = (a : Int) + (s : Int) := by omega
     have e8a : ((a : Int) + ((s + 1 : Nat) : Int)).toNat = a + (s + 1) := by omega
     have p8a : (0 : Int) ≤ (a : Int) + ((s + 1 : Nat) : Int) := by omega
     have q8a : (a : Int) + ((s + 1 : Nat) : Int) < (N : Int) := by omega
     have r8a : IntKind.i64.wrap ((a : Int) + ((s + 1 : Nat) : Int)) = (a : Int) + ((s + 1 : Nat) : Int) := by rw [IntKind.wrap_i64]; omega
     have e8b : ((a : Int) + ((s + 1 : Nat) : Int) - 1).toNat = a + s := by omega
     have p8b : (0 : Int) ≤ (a : Int) + ((s + 1 : Nat) : Int) - 1 := by omega
     have q8b : (a : Int) + ((s + 1 : Nat) : Int) - 1 < (N : Int) := by omega
     have r8b : IntKind.i64.wrap ((a : Int) + ((s + 1 : Nat) : Int) - 1) = (a : Int) + ((s + 1 : Nat) : Int) - 1 := by rw [IntKind.wrap_i64]; omega
     have hT8 : (mv (s + 1)).toArray.size = d0.size := HL.out _ (by have := HRB.out; omega)
     have hZ8 := HN.out
     have S2 : Aside (SWK scells 6 w0 g 0 (swp (mv (s + 1)).toArray (a + (s + 1)) (a + s)) ((wr.drew.setCells g (0 + (a + (s + 1)) * 6) (scells (mv (s + 1)).toArray[a + s]!)).setCells g (0 + (a + s) * 6) (scells (mv (s + 1)).toArray[a + (s + 1)]!))) := S1.out.swapped HR.out (a + (s + 1)) (a + s) (by omega) (by omega)
     have l8a := S1.out.ld1 HR.out hT8 Tryz.prog (a + (s + 1)) (by omega)
     have l8b := S1.out.ld1 HR.out hT8 Tryz.prog (a + s) (by omega)
     have s8a := S1.out.st1 HR.out hT8 Tryz.prog (a + (s + 1)) (by omega) (mv (s + 1)).toArray[a + s]!
     have s8b := S1.out.st2 HR.out hT8 Tryz.prog (a + (s + 1)) (a + s) (by omega) (by omega) (mv (s + 1)).toArray[a + s]! (mv (s + 1)).toArray[a + (s + 1)]!
     have n8a : (scells (mv (s + 1)).toArray[a + (s + 1)]!).length = 6 := HR.out.hk _
     have n8b : (scells (mv (s + 1)).toArray[a + s]!).length = 6 := HR.out.hk _
     rw [HMV.out.2 s (by have := HRB.out; omega)] at S2
     generalize scells (mv (s + 1)).toArray[a + (s + 1)]! = cA at S2 l8a s8b n8a
     generalize scells (mv (s + 1)).toArray[a + s]! = cB at S2 l8b s8a s8b n8b
     clear S1 hT8 hZ8
     simp only [Nat.zero_add] at S2 l8a l8b s8a s8b
     have aE := Tryz.isAgg103
     have zE := Tryz.sizeOf103
     have mixed : Tryz.prog.follows .mixedOrders = true := by kernel_rfl
     obtain ⟨k6, hk6⟩ : ∃ k, (6 : Nat) = k := ⟨_, rfl⟩
     rw [hk6] at zE S2 l8a l8b s8a s8b n8a n8b
     have HK6 : Aside ((6 : Nat) = k6) := hk6
     clear hk6
     go_wp2_with fail
     go_big_region_o
     all_goals obtain rfl := HK6.out
     all_goals clear l8a l8b s8a s8b
     all_goals generalize (wr.drew.setCells g ((a + (s + 1)) * 6) cB).setCells g ((a + s) * 6) cA = w2 at S2 ⊢
     all_goals go_wp2
     all_goals go_roundg (s - (i - a))
     case measure => omega
     case rel => exact ⟨s, by simp; omega, by omega, by omega, Nat.le_refl _, S2⟩
    ·have HTE : Aside (t = i - a) := by show t = i - a; omega
     have hltz2 : ¬ (i : Int) < (a : Int) + (t : Int) := by omega
     go_wp2
     (try simp only [Exit.inBlock, Exit.then]); refine bodyPost_ret (results_none rfl _ _ _) rfl ?_
     refine ⟨rfl, _, HMG.out (i - a) (by have := HRB.out; omega) (fun h => I1.out.1 (by omega)) (fun h => I1.out.2 (by have := HRB.out; omega)), ?_⟩
     have hx := S1.out
     rw [HTE.out, HE.out] at hx
     simpa only [List.append_assoc] using hx
end Go.Proofs.YtkoejeghihcmlaaGreat

namespace Go.Proofs.YtkoejeghihcmlaaGreat
open Go.RowKit Go.Shelf Go.Sort
/-- What symMerge does with a list. -/
def SymDoes (w0 : World) (g cap : Nat) (d0 : Array Six) (N : Nat) : Prop :=
 ∀ (pre L Rr post : List Six) (w : World) (a m b : Nat), d0.size = (pre ++ L ++ Rr ++ post).length → 0 < L.length → 0 < Rr.length → L.length + Rr.length ≤ N → LxS L → LxS Rr → Ap L Rr → SW w0 g (pre ++ L ++ Rr ++ post) w →
  a = pre.length → m = pre.length + L.length → b = pre.length + L.length + Rr.length →
  Calls Tryz.prog 229 #[.slice (some ⟨g, 0, none⟩) d0.size cap, .int .i64 a, .int .i64 m, .int .i64 b, .func (.func 161) #[] #[]] w fun e w' => e = .returned (.tuple #[]) ∧ ∃ Z, Mg L Rr Z ∧ SW w0 g (pre ++ Z ++ post) w'
set_option maxRecDepth 1000000 in
set_option maxHeartbeats 8000000 in
theorem symStep_any {w0 : World} {g cap : Nat} {d0 : Array Six} (R : RowK scells 6 w0 g 0 d0) (HCM : CmpLays Tryz.prog 161 #[] scells 6 cfH g 0 d0.size w0) (hsz : d0.size < 1000000) (n0 : Nat) (IH : SymDoes w0 g cap d0 n0) (pre L Rr post : List Six) (w : World) {a m b : Nat}
  (hs : d0.size = (pre ++ L ++ Rr ++ post).length) (hLl : 1 < L.length) (hRl : 1 < Rr.length) (hn0 : L.length + Rr.length ≤ n0 + 1) (hLs : LxS L) (hRs : LxS Rr) (hA : Ap L Rr) (S : SW w0 g (pre ++ L ++ Rr ++ post) w) (ha : a = pre.length) (hm : m = pre.length + L.length) (hb : b = pre.length + L.length + Rr.length) :
  Calls Tryz.prog 229 #[.slice (some ⟨g, 0, none⟩) d0.size cap, .int .i64 a, .int .i64 m, .int .i64 b, .func (.func 161) #[] #[]] w fun e w' => e = .returned (.tuple #[]) ∧ ∃ Z, Mg L Rr Z ∧ SW w0 g (pre ++ Z ++ post) w' := by
 have hlen : (pre ++ L ++ Rr ++ post).length = pre.length + L.length + Rr.length + post.length := by simp only [List.length_append]
 obtain ⟨N, hN⟩ : ∃ N, d0.size = N := ⟨_, rfl⟩
 have hN' : N < 1000000 := by omega
 have hbN : b ≤ N := by omega
 have ham : a + 1 < m := by omega
 have hmb : m + 1 < b := by omega
 have HR : Aside (RowK scells 6 w0 g 0 d0) := R
 have HC : Aside (CmpLays Tryz.prog 161 #[] scells 6 cfH g 0 d0.size w0) := HCM
 have HN : Aside (d0.size = N) := hN
 have HSZ : Aside (d0.size < 1000000) := hsz
 have HIH : Aside (SymDoes w0 g cap d0 n0) := IH
 have HLEN : Aside (a = pre.length ∧ L.length = m - a ∧ Rr.length = b - m ∧ d0.size = pre.length + L.length + Rr.length + post.length ∧ L.length + Rr.length ≤ n0 + 1) := ⟨ha, by omega, by omega, by omega, hn0⟩
 have HSO : Aside (LxS L ∧ LxS Rr ∧ Ap L Rr) := ⟨hLs, hRs, hA⟩
 obtain ⟨D, hD⟩ : ∃ D, pre ++ L ++ Rr ++ post = D := ⟨_, rfl⟩
 have HD : Aside (D.toArray.size = d0.size) := by rw [← hD, List.size_toArray]; exact hs.symm
 have HGL : Aside (∀ k, a ≤ k → k < m → D.toArray[k]! = L.getD (k - a) z6) := fun k h1 h2 => by rw [← hD]; exact getL ha hm h1 h2
 have HGR : Aside (∀ k, m ≤ k → k < b → D.toArray[k]! = Rr.getD (k - m) z6) := fun k h1 h2 => by rw [← hD]; exact getR hm hb h1 h2
 have HDE : Aside (pre ++ L ++ Rr ++ post = D) := hD
 rw [hD] at S
 have S0 : Aside (SW w0 g D w) := S
 rw [hN]
 clear R HCM hN hsz S hs hlen hD hLs hRs hA ha hb hLl hRl hm IH hn0
 obtain ⟨mid, hmid⟩ : ∃ h, (a + b) / 2 = h := ⟨_, rfl⟩
 have hm1 : a < mid := by omega
 have hm2 : mid + 1 < b := by omega
 have hm3 : 2 * mid ≤ a + b := by omega
 have hm4 : a + b ≤ 2 * mid + 1 := by omega
 have hhi : ((a : Int) + (b : Int)) / 2 = (mid : Int) := by omega
 have hhw : IntKind.i64.wrap ((a : Int) + (b : Int)) = (a : Int) + (b : Int) := by rw [IntKind.wrap_i64]; omega
 obtain ⟨s0, hs0⟩ : ∃ s, (if mid < m then mid + m - b else a) = s := ⟨_, rfl⟩
 obtain ⟨r0, hr0⟩ : ∃ s, (if mid < m then mid else m) = s := ⟨_, rfl⟩
 have f1 : a ≤ s0 := by rw [← hs0]; split <;> omega
 have f2 : s0 ≤ r0 := by rw [← hs0, ← hr0]; split <;> omega
 have f3 : r0 ≤ m := by rw [← hr0]; split <;> omega
 have f4 : r0 ≤ mid := by rw [← hr0]; split <;> omega
 have f5 : mid + m ≤ s0 + b := by rw [← hs0]; split <;> omega
 have f6 : r0 = m ∨ r0 = mid := by rw [← hr0]; split <;> omega
 have f7 : s0 = a ∨ s0 + b = mid + m := by rw [← hs0]; split <;> omega
 have HF : Aside ((r0 = m ∨ r0 = mid) ∧ (s0 = a ∨ s0 + b = mid + m)) := ⟨f6, f7⟩
 clear hmid f6 f7
 have e0 : ((m : Int) - (a : Int) == 1) = false := by simp; omega
 have e0w : IntKind.i64.wrap ((m : Int) - (a : Int)) = (m : Int) - (a : Int) := by rw [IntKind.wrap_i64]; omega
 have e1 : ((b : Int) - (m : Int) == 1) = false := by simp; omega
 have e1w : IntKind.i64.wrap ((b : Int) - (m : Int)) = (b : Int) - (m : Int) := by rw [IntKind.wrap_i64]; omega
 have e2w : IntKind.i64.wrap ((mid : Int) + (m : Int)) = (mid : Int) + (m : Int) := by rw [IntKind.wrap_i64]; omega
 have e3w : IntKind.i64.wrap ((mid : Int) + (m : Int) - (b : Int)) = (mid : Int) + (m : Int) - (b : Int) := by rw [IntKind.wrap_i64]; omega
 have e4w : IntKind.i64.wrap ((mid : Int) + (m : Int) - 1) = (mid : Int) + (m : Int) - 1 := by rw [IntKind.wrap_i64]; omega
 have HS0 : Aside ((if mid < m then mid + m - b else a) = s0) := hs0
 have HR0 : Aside ((if mid < m then mid else m) = r0) := hr0
 clear hs0 hr0
 go_enter Tryz.func229, Tryz.ntmps229
 go_upto_region 27 with fail
 go_cut [140] from 138 to 140 (fun q wx => q = .bool (decide (mid < m)) ∧ w = wx)
 case first =>
  by_cases hq : mid < m
  ·have hqz : (mid : Int) < (m : Int) := by omega
   have hqd := decide_eq_true hq
   go_wp2_with fail
   go_meet
   exact ⟨by rw [hqd], rfl⟩
  ·have hqz : ¬ (mid : Int) < (m : Int) := by omega
   have hqd := decide_eq_false hq
   go_wp2_with fail
   go_meet
   exact ⟨by rw [hqd], rfl⟩
 case rest =>
 obtain ⟨rfl, rfl⟩ := hcut
 rename_i hK9
 refine hK9 _ _ ?_
 clear hK9
 go_cut [20, 21] from 138 to 146 (fun s t wx => s = .int .i64 s0 ∧ t = .int .i64 r0 ∧ w = wx)
 case first =>
  by_cases hq : mid < m
  ·have hqd := decide_eq_true hq
   have HS1 := HS0.out
   have HR1 := HR0.out
   rw [if_pos hq] at HS1 HR1
   have HS2 : Aside ((mid : Int) + (m : Int) - (b : Int) = (s0 : Int)) := by show (mid : Int) + (m : Int) - (b : Int) = (s0 : Int); omega
   have HR2 : Aside (mid = r0) := HR1
   clear HS1 HR1
   rw [hqd]
   clear hqd hq
   go_wp2_with fail
   go_meet
   exact ⟨by rw [HS2.out], by rw [HR2.out], rfl⟩
  ·have hqd := decide_eq_false hq
   have HS1 := HS0.out
   have HR1 := HR0.out
   rw [if_neg hq] at HS1 HR1
   have HS2 : Aside (a = s0) := HS1
   have HR2 : Aside (m = r0) := HR1
   clear HS1 HR1
   rw [hqd]
   clear hqd hq
   go_wp2_with fail
   go_meet
   exact ⟨by rw [HS2.out], by rw [HR2.out], rfl⟩
 case rest =>
  obtain ⟨rfl, rfl, rfl⟩ := hcut
  go_wp2_with fail
  go_loopg [20, 21] (r0 - s0) (fun kx s t wr => ∃ i j : Nat, s = .int .i64 i ∧ t = .int .i64 j ∧ s0 ≤ i ∧ i ≤ j ∧ j ≤ r0 ∧ j - i ≤ kx ∧ Aside ((s0 < i → (L.getD (i - a - 1) z6).b ≤ (Rr.getD (mid - i) z6).b) ∧ (j < r0 → (Rr.getD (mid - j - 1) z6).b < (L.getD (j - a) z6).b)) ∧ Aside (SW w0 g D wr))
  case atStart => exact ⟨s0, r0, rfl, rfl, Nat.le_refl _, f2, Nat.le_refl _, Nat.le_refl _, ⟨fun h => absurd h (Nat.lt_irrefl _), fun h => absurd h (Nat.lt_irrefl _)⟩, S0⟩
  case round =>
   clear S0
   obtain ⟨i, j, rfl, rfl, hi, hij, hj, hk, I1, S1⟩ := hrel
   by_cases hlt : i < j
   ·have hltz : (i : Int) < (j : Int) := by omega
    obtain ⟨h, hh⟩ : ∃ h, (i + j) / 2 = h := ⟨_, rfl⟩
    have h1 : i ≤ h := by omega
    have h2 : h < j := by omega
    have hhi2 : ((i : Int) + (j : Int)) / 2 = (h : Int) := by omega
    have hhw2 : IntKind.i64.wrap ((i : Int) + (j : Int)) = (i : Int) + (j : Int) := by rw [IntKind.wrap_i64]; omega
    obtain ⟨x, hx⟩ : ∃ x, L.getD (h - a) z6 = x := ⟨_, rfl⟩
    obtain ⟨y, hy⟩ : ∃ y, Rr.getD (mid - h - 1) z6 = y := ⟨_, rfl⟩
    have hx7 : D.toArray[mid + m - 1 - h]! = y := by rw [HGR.out _ (by omega) (by omega), show mid + m - 1 - h - m = mid - h - 1 by omega]; exact hy
    have hy7 : D.toArray[h]! = x := by rw [HGL.out h (by omega) (by omega)]; exact hx
    have HX : Aside (L.getD (h - a) z6 = x) := hx
    have HY : Aside (Rr.getD (mid - h - 1) z6 = y) := hy
    clear hx hy hh
    by_cases hb7 : y.b < x.b
    ·have HB : Aside (y.b < x.b) := hb7
     have e7a : ((mid : Int) + (m : Int) - 1 - (h : Int)).toNat = mid + m - 1 - h := by omega
     have p7a : (0 : Int) ≤ (mid : Int) + (m : Int) - 1 - (h : Int) := by omega
     have q7a : (mid : Int) + (m : Int) - 1 - (h : Int) < (N : Int) := by omega
     have r7a : IntKind.i64.wrap ((mid : Int) + (m : Int) - 1 - (h : Int)) = (mid : Int) + (m : Int) - 1 - (h : Int) := by rw [IntKind.wrap_i64]; omega
     have e7b : ((h : Int)).toNat = h := by omega
     have p7b : (0 : Int) ≤ (h : Int) := by omega
     have q7b : (h : Int) < (N : Int) := by omega
     have r7b : IntKind.i64.wrap ((h : Int)) = (h : Int) := by rw [IntKind.wrap_i64]; omega
     have l7a := S1.out.ld HR.out HD.out Tryz.prog (mid + m - 1 - h) (by have := HD.out; have := HN.out; omega)
     have l7b := S1.out.ld HR.out HD.out Tryz.prog (h) (by have := HD.out; have := HN.out; omega)
     rw [hx7] at l7a
     rw [hy7] at l7b
     have c7 := S1.out.cmp HC.out HD.out y x
     rw [show #[Value.agg (scells y).toArray, Value.agg (scells x).toArray] ++ #[] = #[Value.agg (scells y).toArray, Value.agg (scells x).toArray] from rfl] at c7
     obtain ⟨v7, hv7⟩ : ∃ c, cfH y x = c := ⟨_, rfl⟩
     rw [hv7] at c7
     have z7 : v7 < 0 := by rw [← hv7, cf_lt]; exact hb7
     have d7 : decide (v7 < 0) = true := decide_eq_true z7
     clear hx7 hy7 hv7 hb7
     simp only [Nat.zero_add] at l7a l7b
     have aE := Tryz.isAgg103
     have zE := Tryz.sizeOf103
     have mixed : Tryz.prog.follows .mixedOrders = true := by kernel_rfl
     obtain ⟨k6, hk6⟩ : ∃ k, (6 : Nat) = k := ⟨_, rfl⟩
     rw [hk6] at zE l7a l7b
     have HK6 : Aside ((6 : Nat) = k6) := hk6
     clear hk6
     go_wp2_with fail
     refine wp_region_quiet_grown (by assumption) (by kernel_rfl) ?_
     repeat (go_big_quiet_step ((go_at_call 161; exact Calls.grown_of (c7 _ _))))
     refine wpQuiet_nil ?_
     intro _ hw'
     obtain ⟨⟨nq, osq⟩, hw''⟩ := hw'
     subst hw''
     have S2 : Aside (SWK scells 6 w0 g 0 D.toArray (grow (wr.drewN nq) osq)) := S1.out.grown nq osq
     clear l7a l7b c7 S1 zE aE mixed
     obtain rfl := HK6.out
     generalize grow (wr.drewN nq) osq = w2 at S2 ⊢
     clear nq osq
     go_wp2_with fail
     go_roundg (h - i)
     case measure => omega
     case rel => exact ⟨i, h, rfl, rfl, hi, h1, by omega, Nat.le_refl _, ⟨I1.out.1, fun _ => by rw [HX.out, HY.out]; exact HB.out⟩, S2⟩
    ·have HB : Aside (¬ y.b < x.b) := hb7
     have e7a : ((mid : Int) + (m : Int) - 1 - (h : Int)).toNat = mid + m - 1 - h := by omega
     have p7a : (0 : Int) ≤ (mid : Int) + (m : Int) - 1 - (h : Int) := by omega
     have q7a : (mid : Int) + (m : Int) - 1 - (h : Int) < (N : Int) := by omega
     have r7a : IntKind.i64.wrap ((mid : Int) + (m : Int) - 1 - (h : Int)) = (mid : Int) + (m : Int) - 1 - (h : Int) := by rw [IntKind.wrap_i64]; omega
     have e7b : ((h : Int)).toNat = h := by omega
     have p7b : (0 : Int) ≤ (h : Int) := by omega
     have q7b : (h : Int) < (N : Int) := by omega
     have r7b : IntKind.i64.wrap ((h : Int)) = (h : Int) := by rw [IntKind.wrap_i64]; omega
     have l7a := S1.out.ld HR.out HD.out Tryz.prog (mid + m - 1 - h) (by have := HD.out; have := HN.out; omega)
     have l7b := S1.out.ld HR.out HD.out Tryz.prog (h) (by have := HD.out; have := HN.out; omega)
     rw [hx7] at l7a
     rw [hy7] at l7b
     have c7 := S1.out.cmp HC.out HD.out y x
     rw [show #[Value.agg (scells y).toArray, Value.agg (scells x).toArray] ++ #[] = #[Value.agg (scells y).toArray, Value.agg (scells x).toArray] from rfl] at c7
     obtain ⟨v7, hv7⟩ : ∃ c, cfH y x = c := ⟨_, rfl⟩
     rw [hv7] at c7
     have z7 : ¬ v7 < 0 := by rw [← hv7, cf_lt]; exact hb7
     have d7 : decide (v7 < 0) = false := decide_eq_false z7
     clear hx7 hy7 hv7 hb7
     simp only [Nat.zero_add] at l7a l7b
     have aE := Tryz.isAgg103
     have zE := Tryz.sizeOf103
     have mixed : Tryz.prog.follows .mixedOrders = true := by kernel_rfl
     obtain ⟨k6, hk6⟩ : ∃ k, (6 : Nat) = k := ⟨_, rfl⟩
     rw [hk6] at zE l7a l7b
     have HK6 : Aside ((6 : Nat) = k6) := hk6
     clear hk6
     go_wp2_with fail
     refine wp_region_quiet_grown (by assumption) (by kernel_rfl) ?_
     repeat (go_big_quiet_step ((go_at_call 161; exact Calls.grown_of (c7 _ _))))
     refine wpQuiet_nil ?_
     intro _ hw'
     obtain ⟨⟨nq, osq⟩, hw''⟩ := hw'
     subst hw''
     have S2 : Aside (SWK scells 6 w0 g 0 D.toArray (grow (wr.drewN nq) osq)) := S1.out.grown nq osq
     clear l7a l7b c7 S1 zE aE mixed
     obtain rfl := HK6.out
     generalize grow (wr.drewN nq) osq = w2 at S2 ⊢
     clear nq osq
     go_wp2_with fail
     go_roundg (j - (h + 1))
     case measure => omega
     case rel => exact ⟨h + 1, j, by go_num, rfl, by omega, by omega, hj, Nat.le_refl _, ⟨fun _ => by rw [show h + 1 - a - 1 = h - a by omega, show mid - (h + 1) = mid - h - 1 by omega, HX.out, HY.out]; (have := HB.out; omega), I1.out.2⟩, S2⟩
   ·obtain rfl : i = j := by omega
    obtain ⟨en, hen⟩ : ∃ e, mid + m - i = e := ⟨_, rfl⟩
    have g1 : m ≤ en := by omega
    have g2 : en ≤ b := by omega
    have g3 : mid ≤ en := by omega
    have hez : (mid : Int) + (m : Int) - (i : Int) = (en : Int) := by omega
    have hew : IntKind.i64.wrap ((mid : Int) + (m : Int) - (i : Int)) = (en : Int) := by rw [IntKind.wrap_i64]; omega
    have HEN : Aside (en + i = mid + m) := by show en + i = mid + m; omega
    have HMG : Aside (∀ Z1 Z2, Mg (L.take (i - a)) (Rr.take (mid - i)) Z1 → Mg (L.drop (i - a)) (Rr.drop (mid - i)) Z2 → Mg L Rr (Z1 ++ Z2)) := fun Z1 Z2 m1 m2 => by
     have hl := HLEN.out
     have hf := HF.out
     have hi1 := I1.out
     refine mg_split HSO.out.1 HSO.out.2.1 HSO.out.2.2 (fun h1 h2 => ?_) (fun h1 h2 => ?_) m1 m2 (by omega) (by omega)
     ·exact hi1.1 (by omega)
     ·exact hi1.2 (by omega)
    have S2 : Aside (SW w0 g (pre ++ L.take (i - a) ++ L.drop (i - a) ++ Rr.take (mid - i) ++ (Rr.drop (mid - i) ++ post)) wr) := by
     have h := S1.out
     rw [← HDE.out] at h
     have e : pre ++ L.take (i - a) ++ L.drop (i - a) ++ Rr.take (mid - i) ++ (Rr.drop (mid - i) ++ post) = pre ++ L ++ Rr ++ post := by
      rw [List.append_assoc pre, List.take_append_drop, ← List.append_assoc, List.append_assoc (pre ++ L), List.take_append_drop]
     rw [e]
     exact h
    obtain ⟨L1, hL1⟩ : ∃ l, L.take (i - a) = l := ⟨_, rfl⟩
    obtain ⟨L2, hL2⟩ : ∃ l, L.drop (i - a) = l := ⟨_, rfl⟩
    obtain ⟨R1, hR1⟩ : ∃ l, Rr.take (mid - i) = l := ⟨_, rfl⟩
    obtain ⟨R2, hR2⟩ : ∃ l, Rr.drop (mid - i) = l := ⟨_, rfl⟩
    have HP : Aside (L1.length = i - a ∧ L2.length = m - i ∧ R1.length = mid - i ∧ R2.length = b - en) := by
     have hl := HLEN.out
     have he := HEN.out
     rw [← hL1, ← hL2, ← hR1, ← hR2]
     refine ⟨?_, ?_, ?_, ?_⟩ <;> first | (rw [List.length_take]; omega) | (rw [List.length_drop]; omega)
    have HQ : Aside (LxS L1 ∧ LxS L2 ∧ LxS R1 ∧ LxS R2 ∧ Ap L1 R1 ∧ Ap L2 R2) := by
     rw [← hL1, ← hL2, ← hR1, ← hR2]
     exact ⟨HSO.out.1.sublist (List.take_sublist _ _), HSO.out.1.sublist (List.drop_sublist _ _), HSO.out.2.1.sublist (List.take_sublist _ _), HSO.out.2.1.sublist (List.drop_sublist _ _), HSO.out.2.2.sub (fun _ h => List.mem_of_mem_take h) (fun _ h => List.mem_of_mem_take h), HSO.out.2.2.sub (fun _ h => List.mem_of_mem_drop h) (fun _ h => List.mem_of_mem_drop h)⟩
    rw [hL1, hL2, hR1, hR2] at HMG
    rw [hL1, hL2, hR1, hR2] at S2
    clear hL1 hL2 hR1 hR2 hen S1
    go_upto_region 39 with fail
    go_cut [185] from 178 to 185 (fun q wx => q = .bool (decide (i < m) && decide (m < en)) ∧ wr = wx)
    case first =>
     by_cases c1 : i < m
     ·have c1z : (i : Int) < (m : Int) := by omega
      by_cases c2 : m < en
      ·have c2z : (m : Int) < (en : Int) := by omega
       have c12 : (decide (i < m) && decide (m < en)) = true := by simp [c1, c2]
       go_wp2_with fail
       go_meet
       exact ⟨by rw [c12], rfl⟩
      ·have c2z : ¬ (m : Int) < (en : Int) := by omega
       have c12 : (decide (i < m) && decide (m < en)) = false := by simp [c2]
       go_wp2_with fail
       go_meet
       exact ⟨by rw [c12], rfl⟩
     ·have c1z : ¬ (i : Int) < (m : Int) := by omega
      have c12 : (decide (i < m) && decide (m < en)) = false := by simp [c1]
      go_wp2_with fail
      go_meet
      exact ⟨by rw [c12], rfl⟩
    case rest =>
    obtain ⟨rfl, rfl⟩ := hcut
    rename_i hK9
    refine hK9 _ _ ?_
    clear hK9
    go_cut [] from 178 to 191 (fun wx => Aside (SW w0 g (pre ++ L1 ++ R1 ++ L2 ++ (R2 ++ post)) wx))
    case first =>
     by_cases c1 : i < m
     ·have d1 := decide_eq_true c1
      by_cases c2 : m < en
      ·have d2 := decide_eq_true c2
       rw [d1, d2, Bool.true_and]
       clear d1 d2
       have T1 := rotate_any (cap := cap) (w := wr) (pre := pre ++ L1) (A := L2) (B := R1) (post := R2 ++ post) (a := i) (m := m) (b := en) HR.out (by have hl := HLEN.out; have hp := HP.out; simp only [List.length_append]; omega) (by have hp := HP.out; omega) (by have hp := HP.out; have he := HEN.out; omega) S2.out HSZ.out (by have hl := HLEN.out; have hp := HP.out; simp only [List.length_append]; omega) (by have hl := HLEN.out; have hp := HP.out; simp only [List.length_append]; omega) (by have hl := HLEN.out; have hp := HP.out; have he := HEN.out; simp only [List.length_append]; omega)
       rw [HN.out] at T1
       have HT1 := Lib.hid T1
       clear T1
       go_wp2_with (go_at_call 236; (with_reducible refine (HT1.out).mono ?_); rintro e w1 ⟨rfl, S3⟩)
       go_meet
       exact S3
      ·have d2 := decide_eq_false c2
       rw [d1, d2, Bool.true_and]
       clear d1 d2
       have e : R1 = [] := List.eq_nil_of_length_eq_zero (by have hp := HP.out; have he := HEN.out; omega)
       have S3 : Aside (SW w0 g (pre ++ L1 ++ R1 ++ L2 ++ (R2 ++ post)) wr) := by have h := S2.out; rw [e] at h ⊢; show SW _ _ _ _; simpa using h
       clear e
       go_wp2_with fail
       go_meet
       exact S3
     ·have d1 := decide_eq_false c1
      rw [d1, Bool.false_and]
      clear d1
      have e : L2 = [] := List.eq_nil_of_length_eq_zero (by have hp := HP.out; omega)
      have S3 : Aside (SW w0 g (pre ++ L1 ++ R1 ++ L2 ++ (R2 ++ post)) wr) := by have h := S2.out; rw [e] at h ⊢; show SW _ _ _ _; simpa using h
      clear e
      go_wp2_with fail
      go_meet
      exact S3
    case rest =>
     have S3 : Aside (SW w0 g (pre ++ L1 ++ R1 ++ (L2 ++ (R2 ++ post))) wc) := by have h := hcut.out; show SW _ _ _ _; simpa only [List.append_assoc] using h
     clear hcut S2
     go_upto_region 41 with fail
     go_cut [199] from 192 to 199 (fun q wx => q = .bool (decide (a < i) && decide (i < mid)) ∧ wc = wx)
     case first =>
      by_cases c1 : a < i
      ·have c1z : (a : Int) < (i : Int) := by omega
       by_cases c2 : i < mid
       ·have c2z : (i : Int) < (mid : Int) := by omega
        have c12 : (decide (a < i) && decide (i < mid)) = true := by simp [c1, c2]
        go_wp2_with fail
        go_meet
        exact ⟨by rw [c12], rfl⟩
       ·have c2z : ¬ (i : Int) < (mid : Int) := by omega
        have c12 : (decide (a < i) && decide (i < mid)) = false := by simp [c2]
        go_wp2_with fail
        go_meet
        exact ⟨by rw [c12], rfl⟩
      ·have c1z : ¬ (a : Int) < (i : Int) := by omega
       have c12 : (decide (a < i) && decide (i < mid)) = false := by simp [c1]
       go_wp2_with fail
       go_meet
       exact ⟨by rw [c12], rfl⟩
     case rest =>
     obtain ⟨rfl, rfl⟩ := hcut
     rename_i hK9
     refine hK9 _ _ ?_
     clear hK9
     go_cut [] from 192 to 205 (fun wx => ∃ Z1, Aside (Mg L1 R1 Z1 ∧ SW w0 g (pre ++ Z1 ++ L2 ++ R2 ++ post) wx))
     case first =>
      by_cases c1 : a < i
      ·have d1 := decide_eq_true c1
       by_cases c2 : i < mid
       ·have d2 := decide_eq_true c2
        rw [d1, d2, Bool.true_and]
        clear d1 d2
        have T1 := HIH.out pre L1 R1 (L2 ++ (R2 ++ post)) wc a i mid (by have hl := HLEN.out; have hp := HP.out; have he := HEN.out; simp only [List.length_append]; omega) (by have hp := HP.out; omega) (by have hp := HP.out; omega) (by have hp := HP.out; have hl := HLEN.out; omega) HQ.out.1 HQ.out.2.2.1 HQ.out.2.2.2.2.1 S3.out HLEN.out.1 (by have hl := HLEN.out; have hp := HP.out; omega) (by have hl := HLEN.out; have hp := HP.out; omega)
        rw [HN.out] at T1
        have HT1 := Lib.hid T1
        clear T1
        go_wp2_with (go_at_call 229; (with_reducible refine (HT1.out).mono ?_); rintro e w1 ⟨rfl, Z1, hz, S4⟩)
        go_meet
        exact ⟨Z1, hz, by simpa only [List.append_assoc] using S4⟩
       ·have d2 := decide_eq_false c2
        rw [d1, d2, Bool.true_and]
        clear d1 d2
        have e : R1 = [] := List.eq_nil_of_length_eq_zero (by have hp := HP.out; omega)
        have S4 : Aside (Mg L1 R1 L1 ∧ SW w0 g (pre ++ L1 ++ L2 ++ R2 ++ post) wc) := ⟨by rw [e]; exact mg_left HQ.out.1, by have h := S3.out; rw [e] at h; simpa only [List.append_assoc, List.nil_append] using h⟩
        clear e
        go_wp2_with fail
        go_meet
        exact ⟨L1, S4⟩
      ·have d1 := decide_eq_false c1
       rw [d1, Bool.false_and]
       clear d1
       have e : L1 = [] := List.eq_nil_of_length_eq_zero (by have hp := HP.out; omega)
       have S4 : Aside (Mg L1 R1 R1 ∧ SW w0 g (pre ++ R1 ++ L2 ++ R2 ++ post) wc) := ⟨by rw [e]; exact mg_right HQ.out.2.2.1, by have h := S3.out; rw [e] at h; simpa only [List.append_assoc, List.nil_append] using h⟩
       clear e
       go_wp2_with fail
       go_meet
       exact ⟨R1, S4⟩
     case rest =>
      obtain ⟨Z1, S4⟩ := hcut
      obtain ⟨V, rfl⟩ : ∃ V : World, V = wc := ⟨_, rfl⟩
      have HZ1 : Aside (Z1.length = mid - a) := by
       have hl := S4.out.1.len
       have hp := HP.out
       show Z1.length = mid - a
       omega
      by_cases c1 : mid < en
      ·have c1z : (mid : Int) < (en : Int) := by omega
       by_cases c2 : en < b
       ·have c2z : (en : Int) < (b : Int) := by omega
        have T1 := HIH.out (pre ++ Z1) L2 R2 post V mid en b (by have hl := HLEN.out; have hp := HP.out; have he := HEN.out; have hz := HZ1.out; simp only [List.length_append]; omega) (by have hp := HP.out; have he := HEN.out; omega) (by have hp := HP.out; omega) (by have hp := HP.out; have hl := HLEN.out; have he := HEN.out; omega) HQ.out.2.1 HQ.out.2.2.2.1 HQ.out.2.2.2.2.2 S4.out.2 (by have hl := HLEN.out; have hz := HZ1.out; rw [List.length_append]; omega) (by have hl := HLEN.out; have hp := HP.out; have hz := HZ1.out; have he := HEN.out; rw [List.length_append]; omega) (by have hl := HLEN.out; have hp := HP.out; have hz := HZ1.out; have he := HEN.out; rw [List.length_append]; omega)
        rw [HN.out] at T1
        have HT1 := Lib.hid T1
        clear T1
        go_wp2_with (go_at_call 229; (with_reducible refine (HT1.out).mono ?_); rintro e w1 ⟨rfl, Z2, hz, S5⟩)
        go_end0
        exact ⟨rfl, _, HMG.out Z1 Z2 S4.out.1 hz, by simpa only [List.append_assoc] using S5⟩
       ·have c2z : ¬ (en : Int) < (b : Int) := by omega
        have e : R2 = [] := List.eq_nil_of_length_eq_zero (by have hp := HP.out; omega)
        have S5 : Aside (Mg L2 R2 L2 ∧ SW w0 g (pre ++ (Z1 ++ L2) ++ post) V) := ⟨by rw [e]; exact mg_left HQ.out.2.1, by have h := S4.out.2; rw [e] at h; simpa only [List.append_assoc, List.nil_append] using h⟩
        clear e
        go_wp2_with fail
        go_end0
        exact ⟨rfl, _, HMG.out Z1 L2 S4.out.1 S5.out.1, by simpa only [List.append_assoc] using S5.out.2⟩
      ·have c1z : ¬ (mid : Int) < (en : Int) := by omega
       have e : L2 = [] := List.eq_nil_of_length_eq_zero (by have hp := HP.out; have he := HEN.out; omega)
       have S5 : Aside (Mg L2 R2 R2 ∧ SW w0 g (pre ++ (Z1 ++ R2) ++ post) V) := ⟨by rw [e]; exact mg_right HQ.out.2.2.2.1, by have h := S4.out.2; rw [e] at h; simpa only [List.append_assoc, List.nil_append] using h⟩
       clear e
       go_wp2_with fail
       go_end0
       exact ⟨rfl, _, HMG.out Z1 R2 S4.out.1 S5.out.1, by simpa only [List.append_assoc] using S5.out.2⟩
theorem symMerge_any {w0 : World} {g cap : Nat} {d0 : Array Six} (R : RowK scells 6 w0 g 0 d0) (HCM : CmpLays Tryz.prog 161 #[] scells 6 cfH g 0 d0.size w0) (hsz : d0.size < 1000000) : ∀ N, SymDoes w0 g cap d0 N
 | 0 => fun pre L Rr post w a m b hs hL hR hN _ _ _ _ _ _ _ => by omega
 | N + 1 => fun pre L Rr post w a m b hs hL hR hN hLs hRs hA S ha hm hb => by
  by_cases h1 : L.length = 1
  ·obtain ⟨x, rfl⟩ := List.length_eq_one_iff.1 h1
   exact symLeft_any R HCM hsz pre x Rr post w hs hR hRs hA S ha hm hb
  ·by_cases h2 : Rr.length = 1
   ·obtain ⟨y, rfl⟩ := List.length_eq_one_iff.1 h2
    exact symRight_any R HCM hsz pre L y post w hs (by omega) hLs hA S ha hm hb
   ·exact symStep_any R HCM hsz N (symMerge_any R HCM hsz N) pre L Rr post w hs (by omega) (by omega) hN hLs hRs hA S ha hm hb
end Go.Proofs.YtkoejeghihcmlaaGreat
