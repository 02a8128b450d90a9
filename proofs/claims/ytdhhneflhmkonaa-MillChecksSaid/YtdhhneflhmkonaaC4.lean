/- Without: the reference's and the mill's. -/
import Derived.Test.YtdhhneflhmkonaaC3
namespace Go.Proofs.Ytdhhneflhmkonaa
open Go.RowKit Go.Shelf

/-- What stands while such a function walks: its mill, and its result. -/
structure MR (W : World) (bm br : Nat) (h : Int) (A : Option Addr) (n cc : Nat) : Prop where
  m : Blk W bm 24 #[.int .i64 h, .slice A n cc]
  r : Blk W br 24 #[.int .i64 0, .slice none 0 0]
theorem MR.ext {W W' : World} {bm br : Nat} {h : Int} {A : Option Addr} {n cc : Nat} (k : MR W bm br h A n cc) (g : Below W.heap.size W W') : MR W' bm br h A n cc := ⟨k.m.ext g, k.r.ext g⟩

/-- The result's cell, written whole. -/
theorem put2 {W w : World} {br : Nat} {B : Nat} (hr : Blk W br 24 #[.int .i64 0, .slice none 0 0]) (g : Below B w W) (hb : B ≤ br) (h : Int) (A : Option Addr) (n c : Nat) :
    ∃ W9, (W.setCell ⟨br, 0, none⟩ (.int .i64 h)).setCell ⟨br, 1, none⟩ (.slice A n c) = W9 ∧ Blk W9 br 24 #[.int .i64 h, .slice A n c] ∧ Below B w W9 ∧ Fix br br W W9 :=
  ⟨_, rfl, (hr.set_ 0 (.int .i64 h)).set_ 1 (.slice A n c), (g.setCell (p := ⟨br, 0, none⟩) hb _).setCell (p := ⟨br, 1, none⟩) hb _, ((Fix.refl br br W).setCell (p := ⟨br, 0, none⟩) (.inl rfl) _).setCell (p := ⟨br, 1, none⟩) (.inl rfl) _⟩

set_option maxRecDepth 100000 in
set_option maxHeartbeats 2000000 in
theorem refWithout_any (A : Option Addr) (n cc : Nat) (h f : Int) (xs : List Comer) (w : World) (ha : Arr ccells 3 w A n xs) (hnc : n ≤ cc) (hn : n ≤ 9223372036854775807) :
    Calls Try.prog 47 #[mv A n cc h, .int .i64 f] w (MillPost (withoutH xs h f) (withoutL xs h f) (withoutE xs h f) w) := by
  have HA := Lib.hid ha
  have hlen := Lib.hid ha.1
  obtain ⟨ok, hok⟩ : ∃ ok, okMill h xs = ok := ⟨_, rfl⟩
  obtain ⟨er, her⟩ : ∃ er, withoutE xs h f = er := ⟨_, rfl⟩
  have HE := Lib.hid (show er = if ok = true then (if idx xs f < 0 then 57 else 0) else 52 by rw [← her, ← hok]; rfl)
  have HH := Lib.hid (show withoutH xs h f = if er = 0 then h else 0 by rw [← her]; rfl)
  have HL := Lib.hid (show withoutL xs h f = if er = 0 then lessL xs f else [] by rw [← her]; rfl)
  rw [her]
  generalize withoutH xs h f = rh at HH ⊢
  generalize withoutL xs h f = rl at HL ⊢
  have HOK := Lib.hid hok
  clear ha hok her
  unfold mv
  go_enter Try.func47, Try.ntmps47
  go_wp2_with fail
  generalize hW1 : w.alloc (.cells #[.int .i64 h, .slice A n cc] 24) = W1
  have b1 : Blk W1 w.heap.size 24 #[.int .i64 h, .slice A n cc] := by rw [← hW1]; exact Blk.new _ _ _
  have g1 : Below w.heap.size w W1 := by rw [← hW1]; exact one_more _ _
  have s1 := boxSize hW1
  generalize hW2 : W1.alloc (.cells #[.int .i64 0, .slice none 0 0] 24) = W2
  have b2 : Blk W2 W1.heap.size 24 #[.int .i64 0, .slice none 0 0] := by rw [← hW2]; exact Blk.new _ _ _
  have g2 : Below W1.heap.size W1 W2 := by rw [← hW2]; exact one_more _ _
  have HM2 := Lib.hid (⟨b1.ext g2, b2⟩ : MR W2 w.heap.size W1.heap.size h A n cc)
  have HG2 := Lib.hid (extTrans g1 g2)
  have hwr : w.heap.size ≤ W1.heap.size := by omega
  rw [← s1]
  obtain ⟨br, hbr⟩ : ∃ br, W1.heap.size = br := ⟨_, rfl⟩
  rw [hbr] at HM2 hwr ⊢
  clear hW1 hW2 b1 b2 g1 g2 s1 hbr
  refine (refCheck_any h A n cc xs W2 (HA.out.below HG2.out) hnc hn).mono ?_
  rw [HOK.out]
  rintro e W3 ⟨rfl, g3⟩
  have HM3 := Lib.hid (HM2.out.ext g3)
  have HG3 := Lib.hid (HG2.out.trans (g3.mono HG2.out.size))
  clear g3
  have m0 := HM3.out.m.cell 0
  have m1 := HM3.out.m.cell 1
  have r0 := HM3.out.r.cell 0
  have r1 := HM3.out.r.cell 1
  have rf0 := HM3.out.r.frozen 0
  have rf1 := HM3.out.r.frozen 1
  cases ok with
  | false =>
    rw [show err false 52 = 52 from rfl]
    obtain ⟨W9, hW9, hb9, hg9, -⟩ := put2 HM3.out.r HG3.out hwr 0 none 0 0
    have b0 := hb9.cell 0
    have b1 := hb9.cell 1
    have GG := Lib.hid hg9
    clear hb9 hg9
    go_wp2_with fail
    have e : er = 52 := HE.out
    subst e
    have e1 : rh = 0 := HH.out
    have e2 : rl = [] := HL.out
    subst e1 e2
    refine bodyPost_ret (v := .tuple #[mv none 0 0 0, .int .i64 52]) ?_ rfl ⟨GG.out, none, 0, rfl, Nat.le_refl _, Nat.zero_le _, Arr.nil_⟩
    unfold mv
    simp [results, Try.results47, go_sem, b0, b1]
  | true =>
    rw [show err true 52 = 0 from rfl]
    have hO := (okMill_iff h xs).1 HOK.out
    have hn12 : n ≤ 12 := by have := hO.n12; have := hlen.out; omega
    clear hO
    have HE2 := Lib.hid (show er = if idx xs f < 0 then 57 else 0 from HE.out)
    have HX := Lib.hid (refAt_any A n cc h xs f W3 (HA.out.below HG3.out) hn)
    obtain ⟨ix, hix⟩ : ∃ ix, idx xs f = ix := ⟨_, rfl⟩
    rw [hix] at HX HE2
    clear hix
    by_cases hneg : ix < 0
    · have hd : decide (ix < 0) = true := by simpa using hneg
      go_wp2_with fail
      refine HX.out.mono ?_
      rintro e W4 ⟨rfl, g4⟩
      have HM4 := Lib.hid (HM3.out.ext g4)
      have HG4 := Lib.hid (HG3.out.trans (g4.mono HG3.out.size))
      clear g4 m0 m1 r0 r1 rf0 rf1
      have r0 := HM4.out.r.cell 0
      have r1 := HM4.out.r.cell 1
      have rf0 := HM4.out.r.frozen 0
      have rf1 := HM4.out.r.frozen 1
      obtain ⟨W9, hW9, hb9, hg9, -⟩ := put2 HM4.out.r HG4.out hwr 0 none 0 0
      have b0 := hb9.cell 0
      have b1 := hb9.cell 1
      have GG := Lib.hid hg9
      clear hb9 hg9
      go_wp2_with fail
      have e : er = 57 := by rw [HE2.out, if_pos hneg]
      subst e
      have e1 : rh = 0 := HH.out
      have e2 : rl = [] := HL.out
      subst e1 e2
      refine bodyPost_ret (v := .tuple #[mv none 0 0 0, .int .i64 57]) ?_ rfl ⟨GG.out, none, 0, rfl, Nat.le_refl _, Nat.zero_le _, Arr.nil_⟩
      unfold mv
      simp [results, Try.results47, go_sem, b0, b1]
    · have hd : decide (ix < 0) = false := by simpa using hneg
      go_wp2_with fail
      refine HX.out.mono ?_
      rintro e W4 ⟨rfl, g4⟩
      have HM4 := Lib.hid (HM3.out.ext g4)
      have HG4 := Lib.hid (HG3.out.trans (g4.mono HG3.out.size))
      clear g4 m0 m1 r0 r1 rf0 rf1
      have m0 := HM4.out.m.cell 0
      have m1 := HM4.out.m.cell 1
      go_wp2_with fail
      refine (less_any A n cc h f xs W4 (HA.out.below HG4.out) (by omega)).mono ?_
      rintro e W5 ⟨g5, A', c', rfl, k1, k2, k3, k5⟩
      have hbr4 := HM4.out.r.lt
      have HM5 := Lib.hid (HM4.out.ext g5)
      have HG5 := Lib.hid (HG4.out.trans (g5.mono HG4.out.size))
      clear g5 m0 m1
      have r0 := HM5.out.r.cell 0
      have r1 := HM5.out.r.cell 1
      have rf0 := HM5.out.r.frozen 0
      have rf1 := HM5.out.r.frozen 1
      have e : er = 0 := by rw [HE2.out, if_neg (by omega)]
      subst e
      have e1 : rh = h := HH.out
      have e2 : rl = lessL xs f := HL.out
      subst e1 e2
      obtain ⟨W9, hW9, hb9, hg9, hf9⟩ := put2 HM5.out.r HG5.out hwr rh A' (lessL xs f).length c'
      have b0 := hb9.cell 0
      have b1 := hb9.cell 1
      have GG := Lib.hid hg9
      have k4 := k3.fix hf9 (fun b o e hn => by have := k5 b o e; omega)
      have K4 := Lib.hid k4
      clear hb9 hg9 hf9 k3 k4 k5
      unfold mv
      go_wp2_with fail
      refine bodyPost_ret (v := .tuple #[mv A' (lessL xs f).length c' rh, .int .i64 0]) ?_ rfl ⟨GG.out, A', c', rfl, k1, k2, K4.out⟩
      unfold mv
      simp [results, Try.results47, go_sem, b0, b1]

set_option maxRecDepth 100000 in
set_option maxHeartbeats 2000000 in
theorem Without_any (A : Option Addr) (n cc : Nat) (h f : Int) (xs : List Comer) (w : World) (ha : Arr ccells 3 w A n xs) (hnc : n ≤ cc) (hn : n ≤ 9223372036854775807) :
    Calls Try.prog 34 #[mv A n cc h, .int .i64 f] w (MillPost (withoutH xs h f) (withoutL xs h f) (withoutE xs h f) w) := by
  have HA := Lib.hid ha
  have hlen := Lib.hid ha.1
  obtain ⟨ok, hok⟩ : ∃ ok, okMill h xs = ok := ⟨_, rfl⟩
  obtain ⟨er, her⟩ : ∃ er, withoutE xs h f = er := ⟨_, rfl⟩
  have HE := Lib.hid (show er = if ok = true then (if idx xs f < 0 then 57 else 0) else 52 by rw [← her, ← hok]; rfl)
  have HH := Lib.hid (show withoutH xs h f = if er = 0 then h else 0 by rw [← her]; rfl)
  have HL := Lib.hid (show withoutL xs h f = if er = 0 then lessL xs f else [] by rw [← her]; rfl)
  rw [her]
  generalize withoutH xs h f = rh at HH ⊢
  generalize withoutL xs h f = rl at HL ⊢
  have HOK := Lib.hid hok
  clear ha hok her
  unfold mv
  go_enter Try.func34, Try.ntmps34
  go_wp2_with fail
  generalize hW1 : w.alloc (.cells #[.int .i64 h, .slice A n cc] 24) = W1
  have b1 : Blk W1 w.heap.size 24 #[.int .i64 h, .slice A n cc] := by rw [← hW1]; exact Blk.new _ _ _
  have g1 : Below w.heap.size w W1 := by rw [← hW1]; exact one_more _ _
  have s1 := boxSize hW1
  generalize hW2 : W1.alloc (.cells #[.int .i64 0, .slice none 0 0] 24) = W2
  have b2 : Blk W2 W1.heap.size 24 #[.int .i64 0, .slice none 0 0] := by rw [← hW2]; exact Blk.new _ _ _
  have g2 : Below W1.heap.size W1 W2 := by rw [← hW2]; exact one_more _ _
  have HM2 := Lib.hid (⟨b1.ext g2, b2⟩ : MR W2 w.heap.size W1.heap.size h A n cc)
  have HG2 := Lib.hid (extTrans g1 g2)
  have hwr : w.heap.size ≤ W1.heap.size := by omega
  rw [← s1]
  obtain ⟨br, hbr⟩ : ∃ br, W1.heap.size = br := ⟨_, rfl⟩
  rw [hbr] at HM2 hwr ⊢
  clear hW1 hW2 b1 b2 g1 g2 s1 hbr
  refine (check_any h A n cc xs W2 (HA.out.below HG2.out) hnc hn).mono ?_
  rw [HOK.out]
  rintro e W3 ⟨rfl, g3⟩
  have HM3 := Lib.hid (HM2.out.ext g3)
  have HG3 := Lib.hid (HG2.out.trans (g3.mono HG2.out.size))
  clear g3
  have m0 := HM3.out.m.cell 0
  have m1 := HM3.out.m.cell 1
  have r0 := HM3.out.r.cell 0
  have r1 := HM3.out.r.cell 1
  have rf0 := HM3.out.r.frozen 0
  have rf1 := HM3.out.r.frozen 1
  cases ok with
  | false =>
    rw [show err false 52 = 52 from rfl]
    obtain ⟨W9, hW9, hb9, hg9, -⟩ := put2 HM3.out.r HG3.out hwr 0 none 0 0
    have b0 := hb9.cell 0
    have b1 := hb9.cell 1
    have GG := Lib.hid hg9
    clear hb9 hg9
    go_wp2_with fail
    have e : er = 52 := HE.out
    subst e
    have e1 : rh = 0 := HH.out
    have e2 : rl = [] := HL.out
    subst e1 e2
    refine bodyPost_ret (v := .tuple #[mv none 0 0 0, .int .i64 52]) ?_ rfl ⟨GG.out, none, 0, rfl, Nat.le_refl _, Nat.zero_le _, Arr.nil_⟩
    unfold mv
    simp [results, Try.results34, go_sem, b0, b1]
  | true =>
    rw [show err true 52 = 0 from rfl]
    have hO := (okMill_iff h xs).1 HOK.out
    have HOO := Lib.hid hO
    have hn12 : n ≤ 12 := by have := hO.n12; have := hlen.out; omega
    clear hO
    have HE2 := Lib.hid (show er = if idx xs f < 0 then 57 else 0 from HE.out)
    go_wp2_with fail
    refine (without_any A n cc h f xs W3 (HA.out.below HG3.out) (by omega)).mono ?_
    rintro e W4 ⟨g4, ⟨hi, rfl⟩ | ⟨i, A', c', hi, hin, rfl, hnc', ha', hfr, hcm⟩⟩
    · have e : er = 57 := by rw [HE2.out, hi]; rfl
      subst e
      have e1 : rh = 0 := HH.out
      have e2 : rl = [] := HL.out
      subst e1 e2
      obtain ⟨W5, hW5⟩ : ∃ W5, W4.alloc (.cells #[.int .i64 h, .slice A n cc] 24) = W5 := ⟨_, rfl⟩
      have g5 : Below W4.heap.size W4 W5 := by rw [← hW5]; exact one_more _ _
      have HM5 := Lib.hid (HM3.out.ext (extTrans g4 g5))
      have HG5 := Lib.hid (HG3.out.trans ((extTrans g4 g5).mono HG3.out.size))
      clear g4 g5 m0 m1 r0 r1 rf0 rf1 hi
      have r0 := HM5.out.r.cell 0
      have r1 := HM5.out.r.cell 1
      have rf0 := HM5.out.r.frozen 0
      have rf1 := HM5.out.r.frozen 1
      obtain ⟨W9, hW9, hb9, hg9, -⟩ := put2 HM5.out.r HG5.out hwr 0 none 0 0
      have b0 := hb9.cell 0
      have b1 := hb9.cell 1
      have GG := Lib.hid hg9
      clear hb9 hg9
      unfold mv
      go_wp2_with fail
      refine bodyPost_ret (v := .tuple #[mv none 0 0 0, .int .i64 57]) ?_ rfl ⟨GG.out, none, 0, rfl, Nat.le_refl _, Nat.zero_le _, Arr.nil_⟩
      unfold mv
      simp [results, Try.results34, go_sem, b0, b1]
    · have e : er = 0 := by rw [HE2.out, hi, if_neg (by omega)]
      subst e
      have e1 : rh = h := HH.out
      have e2 : rl = lessL xs f := HL.out
      have e3 : xs.eraseIdx i = lessL xs f := erase_less HOO.out hi (by have := hlen.out; omega)
      rw [e3] at ha'
      have hl' := ha'.1
      subst e1 e2
      obtain ⟨m', hm'⟩ : ∃ m', n - 1 = m' := ⟨_, rfl⟩
      rw [hm'] at ha' hl' hnc' ⊢
      obtain ⟨W5, hW5⟩ : ∃ W5, W4.alloc (.cells #[.int .i64 rh, .slice A' m' c'] 24) = W5 := ⟨_, rfl⟩
      have hb5 : Blk W5 W4.heap.size 24 #[.int .i64 rh, .slice A' m' c'] := by rw [← hW5]; exact Blk.new _ _ _
      have g5 : Below W4.heap.size W4 W5 := by rw [← hW5]; exact one_more _ _
      have HM5 := Lib.hid (HM3.out.ext (extTrans g4 g5))
      have HG5 := Lib.hid (HG3.out.trans ((extTrans g4 g5).mono HG3.out.size))
      have hbr3 := HM3.out.r.lt
      have ha5 := ha'.below g5
      clear m0 m1 r0 r1 rf0 rf1 hi ha'
      have r0 := HM5.out.r.cell 0
      have r1 := HM5.out.r.cell 1
      have rf0 := HM5.out.r.frozen 0
      have rf1 := HM5.out.r.frozen 1
      obtain ⟨W9, hW9, hb9, hg9, hf9⟩ := put2 HM5.out.r HG5.out hwr rh A' m' c'
      have b0 := hb9.cell 0
      have b1 := hb9.cell 1
      have GG := Lib.hid hg9
      have K4 := Lib.hid (ha5.fix hf9 (fun b o e hn => by have := hfr b o e; omega))
      have q0 := hb5.cell 0
      have q1 := hb5.cell 1
      have HL' := Lib.hid hl'
      clear hb9 hg9 hf9 hb5 g4 g5 hm' e3 ha5 hfr hl'
      unfold mv
      go_wp2_with fail
      have hl := HL'.out
      subst hl
      refine bodyPost_ret (v := .tuple #[mv A' (lessL xs f).length c' rh, .int .i64 0]) ?_ rfl ⟨GG.out, A', c', rfl, hnc', hcm, K4.out⟩
      unfold mv
      simp [results, Try.results34, go_sem, b0, b1]
end Go.Proofs.Ytdhhneflhmkonaa
