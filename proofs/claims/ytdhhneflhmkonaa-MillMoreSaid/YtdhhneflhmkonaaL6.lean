/- The law MillMore. -/
import Derived.Test.YtdhhneflhmkonaaN6
import Derived.Test.YtdhhneflhmkonaaM2
import Derived.Test.YtdhhneflhmkonaaM3
import Derived.Test.YtdhhneflhmkonaaL3
import Derived.Test.YtdhhneflhmkonaaKE
namespace Go.Proofs.Ytdhhneflhmkonaa
open Go.RowKit Go.Shelf

theorem at_pos {k q : Nat} (h : q ≠ k) : posK k q = if q ≤ k then q else q - 1 := by
  unfold posK
  by_cases h1 : q < k
  · rw [if_pos h1, if_pos (by omega)]
  · rw [if_neg h1, if_neg (by omega)]
theorem at_next {k q : Nat} (h : q ≠ k) : (if q ≤ k then q else q - 1) + 1 = if q + 1 ≤ k then q + 1 else q + 1 - 1 := by
  by_cases h1 : q < k
  · rw [if_pos (by omega), if_pos (by omega)]
  · rw [if_neg (by omega), if_neg (by omega)]; omega

set_option maxRecDepth 100000 in
set_option maxHeartbeats 8000000 in
theorem law6_any (n q1 q2 : Int) (A : Option Addr) (m c : Nat) (l : List Pr) (w : World) (ha : Arr pcells 2 w A m l) (hm : m ≤ 9223372036854775807) :
    Calls Try.prog 6 #[.int .i64 n, .slice A m c, .agg #[.int .i64 q1, .int .i64 q2]] w fun e w' => e = .returned (.bool true) ∧ Below w.heap.size w w' := by
  have HOK := Lib.hid (made_ok n l)
  have hHle := madeH_le n
  have hx6 := made_len n l
  have T33 := fun W (g : Below w.heap.size w W) => made_any n A m c l W (ha.below g) hm
  generalize madeX n l = xs at HOK T33 hx6
  generalize madeH n = H at HOK hHle T33
  unfold NewMill mv at T33
  have HT33 := Lib.hid T33
  clear ha T33
  obtain ⟨len, hlen⟩ : ∃ len, xs.length = len := ⟨_, rfl⟩
  rw [hlen] at HT33 hx6
  have HLEN := Lib.hid hlen
  clear hlen
  go_enter Try.func6, Try.ntmps6
  go_wp2_with fail
  obtain ⟨W1, hW1⟩ : ∃ W1, w.alloc (.cells #[.int .i64 q1, .int .i64 q2] 50) = W1 := ⟨_, rfl⟩
  have g1 : Below w.heap.size w W1 := by rw [← hW1]; exact one_more _ _
  have b1 : Blk W1 w.heap.size 50 #[.int .i64 q1, .int .i64 q2] := by rw [← hW1]; exact Blk.new _ _ _
  rw [hW1]
  obtain ⟨bq, hbq⟩ : ∃ bq, w.heap.size = bq := ⟨_, rfl⟩
  have G1 := Lib.hid g1
  rw [hbq] at b1 ⊢
  have Q1 := Lib.hid b1
  have HBQ := Lib.hid hbq
  clear hW1 g1 b1 hbq
  go_upto_region 2 with (go_at_call 33; (with_reducible refine (HT33.out _ G1.out).mono ?_); rintro e W2 ⟨g2, B, cb, rfl, hcb, hcm, hb2, -⟩; have G2 := Lib.hid (G1.out.trans (g2.mono G1.out.size)); have Q2 := Lib.hid (Q1.out.ext g2); have HB2 := Lib.hid hb2; clear g2 hb2)
  obtain ⟨W3, hW3, g3, -, b3⟩ := box24 W2 (H : Int) B len cb
  rw [hW3]
  obtain ⟨bm, hbm⟩ : ∃ bm, W2.heap.size = bm := ⟨_, rfl⟩
  rw [hbm] at b3 ⊢
  have G3 := Lib.hid (G2.out.trans (g3.mono G2.out.size))
  have HB3 := Lib.hid (HB2.out.below g3)
  have Q3 := Lib.hid (Q2.out.ext g3)
  have M3 := Lib.hid b3
  have m0 := b3.cell 0
  have m1 := b3.cell 1
  clear hW3 g3 b3 hbm
  by_cases hl0 : len = 0
  · subst hl0
    go_wp2_with (go_at_call 21; (with_reducible refine (sane_any _).mono ?_); rintro e w8 ⟨rfl, g8⟩; have G8 := Lib.hid g8; clear g8)
    go_ret
    rw [← HBQ.out]
    exact ⟨rfl, G3.out.trans (G8.out.mono G3.out.size)⟩
  have hlb : ((len : Int) == 0) = false := beq_eq_false_iff_ne.2 (by omega)
  have hlb2 : (len == 0) = false := beq_eq_false_iff_ne.2 hl0
  by_cases hH0 : H = 0
  · subst hH0
    go_wp2_with (go_at_call 21; (with_reducible refine (sane_any _).mono ?_); rintro e w8 ⟨rfl, g8⟩; have G8 := Lib.hid g8; clear g8)
    go_ret
    rw [← HBQ.out]
    exact ⟨rfl, G3.out.trans (G8.out.mono G3.out.size)⟩
  have hHb : ((H : Int) == 0) = false := beq_eq_false_iff_ne.2 (by omega)
  have hHb2 : (H == 0) = false := beq_eq_false_iff_ne.2 hH0
  obtain ⟨k, hk⟩ : ∃ k : Nat, q1 % (len : Int) = k := ⟨(q1 % (len : Int)).toNat, (Int.toNat_of_nonneg (Int.emod_nonneg _ (by omega))).symm⟩
  have hkl : k < len := by have := Int.emod_lt_of_pos q1 (show (0 : Int) < len by omega); omega
  have T32 := fun W => mod_any q1 (len : Int) W (by omega) (by omega)
  rw [hk] at T32
  have HT32 := Lib.hid T32
  obtain ⟨b, hb⟩ : ∃ b : Nat, q2 % (H : Int) = b := ⟨(q2 % (H : Int)).toNat, (Int.toNat_of_nonneg (Int.emod_nonneg _ (by omega))).symm⟩
  have hbH : b < H := by have := Int.emod_lt_of_pos q2 (show (0 : Int) < H by omega); omega
  have T32b := fun W => mod_any q2 (H : Int) W (by omega) (by omega)
  rw [hb] at T32b
  have HT32b := Lib.hid T32b
  have p0 := Q3.out.cell 0
  clear T32 T32b hk hb
  go_upto_region 5 with (go_at_call 32; (with_reducible refine (HT32.out _).mono ?_); rintro e w' ⟨rfl, rfl⟩)
  clear p0
  have OE1 := Lib.hid (copyE1 W3)
  have OE2 := Lib.hid (copyE2 W3 (.cells #[.int .i64 0, .slice none 0 0] 24))
  have OE3 := Lib.hid (copyE3 W3 (.cells #[.int .i64 0, .slice none 0 0] 24))
  have GE1 := Lib.hid (show Below W3.heap.size W3 (W3.alloc (.cells #[] 53)).drew from (one_more _ _).drew)
  have GE2 := Lib.hid (show Below W3.heap.size W3 ((W3.alloc (.cells #[] 53)).alloc (.cells #[.int .i64 0, .slice none 0 0] 24)).drew from ((one_more W3 _).alloc (by simp) _).drew)
  have GE3 := Lib.hid (show Below W3.heap.size W3 ((W3.alloc (.cells #[.int .i64 0, .slice none 0 0] 24)).alloc (.cells #[] 53)).drew from ((one_more W3 _).alloc (by simp) _).drew)
  have hl1 : ([] : List Comer).length + len ≤ 1000000 := by simp; omega
  have hlen0 : 0 < len := by omega
  have hbml := M3.out.lt
  go_cut [9] from 48 to 55 (CopyEnd W3 H len xs)
  case first =>
    go_region_held3 (fun w' => w'.cell? ⟨bm, 0, none⟩ = some (.int .i64 H) ∧ w'.cell? ⟨bm, 1, none⟩ = some (.slice B len cb))
      (first | go_keep | exact ⟨k0, k1⟩ | exact ⟨i0, i1⟩ | exact ⟨keepAlloc k0 _, keepAlloc k1 _⟩)
      (first
        | (refine step_app kdCom (by rfl) _ _ (by rfl) W3.heap.size _ [] (by rfl) OE1.out B len cb xs (by rfl) (HB3.out.below GE1.out) hl1 GE1.out.size ?_; intro v1 w1 ho1 hg1 hat1; obtain ⟨A1, c1, rfl, hb1, hce⟩ := copyA HLEN.out H ho1 hg1; have k0 := (M3.out.ext hb1).cell 0; have k1 := (M3.out.ext hb1).cell 1; have CE := Lib.hid hce; clear ho1 hg1 hat1 hb1 hce)
        | (refine step_app kdCom (by rfl) _ _ (by rfl) W3.heap.size _ [] (by rfl) OE2.out B len cb xs (by rfl) (HB3.out.below GE2.out) hl1 GE2.out.size ?_; intro v1 w1 ho1 hg1 hat1; obtain ⟨A1, c1, rfl, hb1, hbb, hce⟩ := copyB HLEN.out H ho1 hg1 hat1; have k0 := (M3.out.ext hb1).cell 0; have k1 := (M3.out.ext hb1).cell 1; have k2 := hbb.cell 0; have k3 := hbb.cell 1; have k4 := hbb.frozen 0; have k5 := hbb.frozen 1; have hi := (((M3.out.ext hb1).far (p := ⟨W3.heap.size + 1, 0, none⟩) (by dsimp only; omega) (.int .i64 H)).far (p := ⟨W3.heap.size + 1, 1, none⟩) (by dsimp only; omega) (.slice A1 len c1)); have i0 := hi.cell 0; have i1 := hi.cell 1; clear hi; have CE := Lib.hid hce; clear ho1 hg1 hat1 hb1 hbb hce)
        | (refine step_app kdCom (by rfl) _ _ (by rfl) W3.heap.size _ [] (by rfl) OE3.out B len cb xs (by rfl) (HB3.out.below GE3.out) hl1 GE3.out.size ?_; intro v1 w1 ho1 hg1 hat1; obtain ⟨A1, c1, rfl, hb1, hbb, hce⟩ := copyC HLEN.out H ho1 hg1 hat1; have k0 := (M3.out.ext hb1).cell 0; have k1 := (M3.out.ext hb1).cell 1; have k2 := hbb.cell 0; have k3 := hbb.cell 1; have k4 := hbb.frozen 0; have k5 := hbb.frozen 1; have hi := (((M3.out.ext hb1).far (p := ⟨W3.heap.size, 0, none⟩) (by dsimp only; omega) (.int .i64 H)).far (p := ⟨W3.heap.size, 1, none⟩) (by dsimp only; omega) (.slice A1 len c1)); have i0 := hi.cell 0; have i1 := hi.cell 1; clear hi; have CE := Lib.hid hce; clear ho1 hg1 hat1 hb1 hbb hce))
    all_goals (try go_wp2_with fail)
    all_goals go_meet
    all_goals exact CE.out
  case rest =>
    obtain ⟨g, A9, c9, rfl, hb, hge, hlt, hbl, how, hcc, hne⟩ := hcut
    rename World => W4
    obtain ⟨gb, c', e, h1, h2, h3⟩ := how.get (by rw [HLEN.out]; omega)
    obtain ⟨rfl, -, rfl⟩ := Value.slice.inj e
    have hgne : gb ≠ g := hne gb rfl
    obtain ⟨x, hx⟩ : ∃ x, xs[k]? = some x := ⟨_, List.getElem?_eq_getElem (by rw [HLEN.out]; exact hkl)⟩
    have hxh : x.hours = (hrs xs k : Nat) := HOK.out.hrs.nat hx
    obtain ⟨A2, c2, e2, -, ha2, -, -⟩ := how.arr
    obtain ⟨rfl, -, rfl⟩ := Value.slice.inj e2
    obtain ⟨b3, o3, x', e3, -, hx', hc3⟩ := comer_at ha2 (show k < xs.length by rw [HLEN.out]; exact hkl)
    cases e3
    rw [hx] at hx'
    obtain rfl := Option.some.inj hx'
    have hs := HOK.out.hrs.lt k
    obtain ⟨sk, hsk⟩ : ∃ sk, hrs xs k = sk := ⟨_, rfl⟩
    have r1 := cellW (hbl.cell 1)
    have x1 : ∀ y : Wd W4, y.val.cell? ⟨gb, k * 3 + 1, none⟩ = some (.int .i64 sk) := fun y => by
      have := (hc3 y.val y.ok).2.1
      rw [hxh, hsk, Nat.zero_add] at this
      exact this
    have p1 := cellW (((Q3.out.ext hb)).cell 1)
    have m0 := cellW ((M3.out.ext hb).cell 0)
    have hob := orbit sk b (by rw [← hsk]; exact hs) (by omega)
    have how2 : OwnC W4 W3.heap.size (.slice (some ⟨gb, 0, none⟩) xs.length c9) xs := by rw [HLEN.out]; exact how
    have hfz : ∀ y : Wd W4, y.val.frozen? ⟨gb, k * 3 + 1, none⟩ = false := frozenW (x1 ⟨W4, Below.refl _ _⟩) (how2.setHours hx 0).2
    have HOW := Lib.hid how2
    have HBL := Lib.hid hbl
    have HB := Lib.hid hb
    have HX := Lib.hid hx
    have HSK := Lib.hid hsk
    clear how hbl e e2 h2 hx hx' hc3 ha2 hne hb how2 hsk hxh HT32 OE1 OE2 OE3 GE1 GE2 GE3
    go_wp2_with fail
    refine wp_region_calm_tail W4 18 (by kernel_rfl) (by kernel_rfl) (Below.refl _ _) ?_
    simp only [List.take_succ_cons, List.take_zero, List.drop_succ_cons, List.drop_zero]
    repeat (go_big_quiet_step ((go_at_call 32; exact callsCalmSame (HT32b.out _))))
    refine wpQuiet_nil ?_
    rintro _ ⟨z, rfl⟩
    go_upto_region 7 with fail
    have zok := z.ok
    obtain ⟨V, hV⟩ : ∃ V, z.val = V := ⟨_, rfl⟩
    rw [hV] at zok ⊢
    obtain ⟨W5, hW5⟩ : ∃ W5, V.setCell ⟨gb, k * 3 + 1, none⟩ (.int .i64 ((sk ||| 2 ^ b : Nat) : Int)) = W5 := ⟨_, rfl⟩
    have g35 : Below W3.heap.size W3 W5 := by rw [← hW5]; exact (HB.out.trans (zok.mono HB.out.size)).setCell (p := ⟨gb, k * 3 + 1, none⟩) h1 _
    have bl5 : Blk W5 g 24 #[.int .i64 H, .slice (some ⟨gb, 0, none⟩) len c9] := by rw [← hW5]; exact (HBL.out.ext zok).far (p := ⟨gb, k * 3 + 1, none⟩) (fun e => hgne e.symm) _
    have ho5 := ((HOW.out.ext zok).setHours HX.out ((sk ||| 2 ^ b : Nat) : Int)).1
    rw [hW5, show xs.set k { x with hours := ((sk ||| 2 ^ b : Nat) : Int) } = moreL xs k b by unfold moreL; rw [getD_of HX.out, HSK.out]] at ho5
    obtain ⟨A3, c3, e3, -, ha3, -, -⟩ := ho5.arr
    obtain ⟨rfl, -, rfl⟩ := Value.slice.inj e3
    rw [moreL_len, HLEN.out] at ha3
    rw [hW5]
    have HA3 := Lib.hid ha3
    have G5 := Lib.hid (G3.out.trans (g35.mono G3.out.size))
    have HB5 := Lib.hid (HB3.out.below g35)
    have M5 := Lib.hid (M3.out.ext g35)
    have R5 := Lib.hid bl5
    have hfx : x.family = fam xs k := by unfold fam; rw [getD_of HX.out]
    clear hV hW5 zok z g35 bl5 ho5 e3 ha3 HOW HBL HB r1 x1 p1 m0 hfz hob HT32b HSK
    have okm := (okMill_iff _ _).2 HOK.out
    have hik : idx xs (fam xs k) = k := idx_self HOK.out (by rw [HLEN.out]; exact hkl)
    have T34 := Without_any B len cb (H : Int) (fam xs k) xs W5 HB5.out hcb (by omega)
    have hwe : withoutE xs (H : Int) (fam xs k) = 0 := by unfold withoutE; rw [if_pos okm, hik, if_neg (by omega)]
    have hwl : withoutL xs (H : Int) (fam xs k) = xs.eraseIdx k := by unfold withoutL; rw [if_pos hwe, erase_less HOK.out hik (by rw [HLEN.out]; exact hkl)]
    have hel : (xs.eraseIdx k).length = len - 1 := by rw [List.length_eraseIdx_of_lt (by rw [HLEN.out]; exact hkl), HLEN.out]
    unfold MillPost mv at T34
    rw [hwl, hwe, hel, show withoutH xs (H : Int) (fam xs k) = H by unfold withoutH; rw [if_pos hwe]] at T34
    obtain ⟨fk, hfk⟩ : ∃ fk, fam xs k = fk := ⟨_, rfl⟩
    obtain ⟨p, hp⟩ : ∃ p, len - 1 = p := ⟨_, rfl⟩
    rw [hp, hfk] at T34
    rw [hp] at hel
    rw [hfk] at hfx
    have HT34 := Lib.hid T34
    obtain ⟨bX, oX, x', rfl, -, hx', hcX⟩ := comer_at HB5.out hkl
    rw [HX.out] at hx'
    obtain rfl := Option.some.inj hx'
    have y0 := (hcX _ (Below.refl _ _)).1
    rw [hfx] at y0
    have m0 := M5.out.cell 0
    have m1 := M5.out.cell 1
    clear hcX hx' T34 hwe hwl hfx
    go_upto_region 8 with fail
    clear y0
    go_upto_region 9 with (go_at_call 34; (with_reducible refine HT34.out.mono ?_); rintro e W6 ⟨g6, A6, c6, rfl, hc6, hcm6, ha6⟩; have G6 := Lib.hid g6; have HA6 := Lib.hid ha6; clear g6 ha6)
    obtain ⟨W7, hW7, g7, -, b7⟩ := box24 W6 (H : Int) A6 p c6
    rw [hW7]
    obtain ⟨bf, hbf⟩ : ∃ bf, W6.heap.size = bf := ⟨_, rfl⟩
    rw [hbf] at b7 ⊢
    have g57 := G6.out.trans (g7.mono G6.out.size)
    have G7 := Lib.hid (G5.out.trans (g57.mono G5.out.size))
    have HB7 := Lib.hid (HB5.out.below g57)
    have HA37 := Lib.hid (HA3.out.below g57)
    have HF7 := Lib.hid (HA6.out.below g7)
    have M7 := Lib.hid (M5.out.ext g57)
    have R7 := Lib.hid (R5.out.ext g57)
    have F7 := Lib.hid b7
    clear hW7 g7 b7 hbf g57 m0 m1 HT34 G6 HA6 HA3 HB5 M5 R5
    have HCE := Lib.hid (fun W (gg : Below W7.heap.size W7 W) => (show W.cell? ⟨bm, 0, none⟩ = some (.int .i64 H) ∧ W.cell? ⟨bm, 1, none⟩ = some (.slice (some ⟨bX, oX, none⟩) len cb) ∧ W.cell? ⟨g, 0, none⟩ = some (.int .i64 H) ∧ W.cell? ⟨g, 1, none⟩ = some (.slice (some ⟨gb, 0, none⟩) len c9) ∧ W.cell? ⟨bf, 0, none⟩ = some (.int .i64 H) ∧ W.cell? ⟨bf, 1, none⟩ = some (.slice A6 p c6) from
      ⟨(M7.out.ext gg).cell 0, (M7.out.ext gg).cell 1, (R7.out.ext gg).cell 0, (R7.out.ext gg).cell 1, (F7.out.ext gg).cell 0, (F7.out.ext gg).cell 1⟩))
    have okm2 := (okMill_iff _ _).2 (more_ok HOK.out (by rw [HLEN.out]; exact hkl) hbH)
    have okm3 := (okMill_iff _ _).2 (erase_ok HOK.out (k := k) (by rw [HLEN.out]; exact hkl))
    have T1 := fun W (gg : Below W7.heap.size W7 W) => Level_any (some ⟨bX, oX, none⟩) len cb (H : Int) xs W (HB7.out.below gg) hcb (by omega)
    have T2 := fun W (gg : Below W7.heap.size W7 W) => Level_any (some ⟨gb, 0, none⟩) len c9 (H : Int) (moreL xs k b) W (HA37.out.below gg) hcc (by omega)
    have T3 := fun W (gg : Below W7.heap.size W7 W) => Level_any A6 p c6 (H : Int) (xs.eraseIdx k) W (HF7.out.below gg) hc6 (by omega)
    have T4 := fun W (gg : Below W7.heap.size W7 W) => Moved_any (some ⟨bX, oX, none⟩) len cb (H : Int) fk xs W (HB7.out.below gg) hcb (by omega)
    have T5 := fun W (gg : Below W7.heap.size W7 W) => Hours_any (some ⟨bX, oX, none⟩) len cb (H : Int) xs W (HB7.out.below gg) hcb (by omega)
    have T6 := fun W (gg : Below W7.heap.size W7 W) => Hours_any A6 p c6 (H : Int) (xs.eraseIdx k) W (HF7.out.below gg) hc6 (by omega)
    have hme : movedE xs (H : Int) fk = 0 := by unfold movedE; rw [if_pos okm, ← hfk, hik, if_neg (by omega)]
    have hdl : (turnsS xs H).length = len := (turns_len xs H).trans HLEN.out
    have hdl2 : (turnsS (xs.eraseIdx k) H).length = p := (turns_len _ H).trans hel
    have HMV := Lib.hid (fun q (hq : q < len) (hqk : q ≠ k) => (show fam xs q ∈ movedS xs H fk ↔ (turnsS xs H).getD q 0 ≠ (turnsS (xs.eraseIdx k) H).getD (posK k q) 0 by
      rw [← hfk]; exact less_moved HOK.out (by rw [HLEN.out]; exact hkl) (by rw [HLEN.out]; exact hq) hqk))
    rw [show levS xs (H : Int) = ((lev xs H 24 0 : Nat) : Int) by unfold levS; rw [okm]; rfl, okm] at T1
    rw [show levS (moreL xs k b) (H : Int) = ((lev (moreL xs k b) H 24 0 : Nat) : Int) by unfold levS; rw [okm2]; rfl, okm2] at T2
    rw [show levS (xs.eraseIdx k) (H : Int) = ((lev (xs.eraseIdx k) H 24 0 : Nat) : Int) by unfold levS; rw [okm3]; rfl, okm3] at T3
    rw [hme] at T4
    rw [show hoursS xs (H : Int) = turnsS xs H by unfold hoursS; rw [okm]; rfl, okm, hdl] at T5
    rw [show hoursS (xs.eraseIdx k) (H : Int) = turnsS (xs.eraseIdx k) H by unfold hoursS; rw [okm3]; rfl, okm3, hdl2] at T6
    have hlb : lev xs H 24 0 ≤ lev (moreL xs k b) H 24 0 := more_lev (by rw [HLEN.out]; exact hkl)
    have hlc : lev xs H 24 0 ≤ lev (xs.eraseIdx k) H 24 0 := level_erase (by rw [HLEN.out]; exact hkl)
    have hml := movedS_len xs (H : Int) fk
    obtain ⟨lm, hlm⟩ : ∃ lm, (movedS xs (H : Int) fk).length = lm := ⟨_, rfl⟩
    rw [hlm] at T4 hml
    have HD1 := Lib.hid hdl
    have HD2 := Lib.hid hdl2
    have HLM := Lib.hid hlm
    generalize movedS xs (H : Int) fk = ms at T4 HMV HLM
    generalize turnsS xs H = due at T5 HMV HD1
    generalize turnsS (xs.eraseIdx k) H = due2 at T6 HMV HD2
    generalize lev xs H 24 0 = la at T1 hlb hlc
    generalize lev (moreL xs k b) H 24 0 = lb at T2 hlb
    generalize lev (xs.eraseIdx k) H 24 0 = lc at T3 hlc
    unfold mv at T1 T2 T3 T4 T5 T6
    rw [show err true 52 = 0 from rfl] at T1 T2 T3 T5 T6
    have HT1 := Lib.hid T1
    have HT2 := Lib.hid T2
    have HT3 := Lib.hid T3
    have HT4 := Lib.hid T4
    have HT5 := Lib.hid T5
    have HT6 := Lib.hid T6
    have t1 : decide ((lb : Int) < la) = false := decide_eq_false (by omega)
    have t4 : decide (lb < la) = false := decide_eq_false (by omega)
    have t5 : decide (lc < la) = false := decide_eq_false (by omega)
    have t6 : (p + 1 != len) = false := by simp only [bne_eq_false_iff_eq]; omega
    have t2 : decide ((lc : Int) < la) = false := decide_eq_false (by omega)
    have t3 : ((p : Int) + 1 != (len : Int)) = false := by simp only [bne_eq_false_iff_eq]; omega
    clear T1 T2 T3 T4 T5 T6 okm okm2 okm3 hme hdl hdl2 hlm hfk hik hlb hlc
    obtain ⟨m0, m1, r0, r1, f0, f1⟩ := HCE.out _ (Below.refl _ _)
    go_upto_region 10 with (go_at_call 35; (with_reducible refine (HT1.out _ (Below.refl _ _)).mono ?_); rintro e W8 ⟨rfl, g8⟩; have G8 := Lib.hid g8; clear g8)
    clear m0 m1 r0 r1 f0 f1
    obtain ⟨m0, m1, r0, r1, f0, f1⟩ := HCE.out _ G8.out
    go_upto_region 11 with (go_at_call 35; (with_reducible refine (HT2.out _ G8.out).mono ?_); rintro e W9 ⟨rfl, g9⟩; have G9 := Lib.hid (G8.out.trans (g9.mono G8.out.size)); clear g9)
    clear m0 m1 r0 r1 f0 f1
    obtain ⟨m0, m1, r0, r1, f0, f1⟩ := HCE.out _ G9.out
    go_upto_region 12 with (go_at_call 35; (with_reducible refine (HT3.out _ G9.out).mono ?_); rintro e Wa ⟨rfl, ga⟩; have Ga := Lib.hid (G9.out.trans (ga.mono G9.out.size)); clear ga)
    clear m0 m1 r0 r1 f0 f1
    obtain ⟨m0, m1, r0, r1, f0, f1⟩ := HCE.out _ Ga.out
    go_upto_region 13 with (go_at_call 18; (with_reducible refine (HT4.out _ Ga.out).mono ?_); rintro e Wb ⟨⟨Dm, cm, rfl, hms⟩, gb1⟩; have Gb := Lib.hid (Ga.out.trans (gb1.mono Ga.out.size)); have S1 := Lib.hid hms; clear gb1 hms)
    clear m0 m1 r0 r1 f0 f1
    obtain ⟨m0, m1, r0, r1, f0, f1⟩ := HCE.out _ Gb.out
    go_upto_region 14 with (go_at_call 36; (with_reducible refine (HT5.out _ Gb.out).mono ?_); rintro e Wc ⟨⟨Dx, cx, rfl, hxs⟩, gc1⟩; have Gc := Lib.hid (Gb.out.trans (gc1.mono Gb.out.size)); have S2 := Lib.hid (S1.out.below gc1); have X2 := Lib.hid hxs; clear gc1 hxs)
    clear m0 m1 r0 r1 f0 f1
    obtain ⟨m0, m1, r0, r1, f0, f1⟩ := HCE.out _ Gc.out
    go_upto_region 15 with (go_at_call 36; (with_reducible refine (HT6.out _ Gc.out).mono ?_); rintro e Wd0 ⟨⟨Dy, cy, rfl, hys⟩, gd1⟩; have Gd := Lib.hid (Gc.out.trans (gd1.mono Gc.out.size)); have S3 := Lib.hid (S2.out.below gd1); have X3 := Lib.hid (X2.out.below gd1); have Y3 := Lib.hid hys; clear gd1 hys)
    clear m0 m1 r0 r1 f0 f1
    go_upto_region 17 with fail
    have Md := Lib.hid (M7.out.ext Gd.out)
    have HBd := Lib.hid (HB7.out.below Gd.out)
    have HGE := Lib.hid (G7.out.trans (Gd.out.mono G7.out.size))
    have z0 := cellW (Md.out.cell 0)
    have z1 := cellW (Md.out.cell 1)
    clear t1 t2 t3 t4 t5 t6 HT1 HT2 HT3 HT4 HT5 HT6 HCE
    go_wp2_with fail
    go_loopw [25, 26] (fun a i wr => ∃ q : Nat, q ≤ len ∧ i = .int .i64 q ∧ a = .int .i64 ((if q ≤ k then q else q - 1 : Nat) : Int) ∧ ∃ z : Wd Wd0, wr = z.val) (fun _ i _ => len - (intOf i).toNat)
    case atStart => exact ⟨0, Nat.zero_le _, rfl, by rw [if_pos (Nat.zero_le _)]; rfl, Wd.self Wd0⟩
    case round =>
      obtain ⟨q, hq, rfl, rfl, z, rfl⟩ := hrel
      by_cases hql : q < len
      · by_cases hqk : q = k
        · subst hqk
          have e1 : ((q : Int) == (q : Int)) = true := by simp
          go_wp2_with fail
          go_roundw
          case rel => exact ⟨q + 1, by omega, by go_num, by rw [if_pos (Nat.le_refl _), if_neg (by omega)]; go_num, z, rfl⟩
          case measure => simp [intOf]; omega
        · have e1 : ((q : Int) == (k : Int)) = false := beq_eq_false_iff_ne.2 (by omega)
          have e2 : (q == k) = false := beq_eq_false_iff_ne.2 hqk
          obtain ⟨at0, hat⟩ : ∃ at0, (if q ≤ k then q else q - 1 : Nat) = at0 := ⟨_, rfl⟩
          have hap : posK k q = at0 := by rw [← hat]; exact at_pos hqk
          have hal : at0 < p := by rw [← hap, ← hp]; unfold posK; split <;> omega
          have han : at0 + 1 = (if q + 1 ≤ k then q + 1 else q + 1 - 1 : Nat) := by rw [← hat]; exact at_next hqk
          have HAN := Lib.hid han
          have HM := Lib.hid (HMV.out q hql hqk)
          rw [hat]
          obtain ⟨b5, o5, y, e5, -, hy, hyc⟩ := comer_at HBd.out hql
          cases e5
          have hyf : y.family = fam xs q := by unfold fam; rw [getD_of hy]
          obtain ⟨fq, hfq⟩ : ∃ fq, fam xs q = fq := ⟨_, rfl⟩
          rw [hfq] at hyf HM
          have y0 : ∀ x : Wd Wd0, x.val.cell? ⟨bX, oX + q * 3, none⟩ = some (.int .i64 fq) := fun x => by have := (hyc x.val x.ok).1; rw [hyf] at this; exact this
          obtain ⟨bx6, ox6, rfl, -, -, hd6⟩ := ints_at X3.out hql
          obtain ⟨by6, oy6, rfl, -, -, hd7⟩ := ints_at Y3.out hal
          obtain ⟨dq, hdq⟩ : ∃ dq, due.getD q 0 = dq := ⟨_, rfl⟩
          obtain ⟨dr, hdr⟩ : ∃ dr, due2.getD at0 0 = dr := ⟨_, rfl⟩
          rw [hap, hdq, hdr] at HM
          have y1 : ∀ x : Wd Wd0, x.val.cell? ⟨bx6, ox6 + q, none⟩ = some (.int .i64 dq) := fun x => by have := hd6 x.val x.ok; rw [hdq] at this; exact this
          have y2 : ∀ x : Wd Wd0, x.val.cell? ⟨by6, oy6 + at0, none⟩ = some (.int .i64 dr) := fun x => by have := hd7 x.val x.ok; rw [hdr] at this; exact this
          clear han hat hap hy hyc hyf hfq hd6 hd7 hdq hdr
          go_wp2_with fail
          go_loopw [27, 28] (fun nm j wr => ∃ (r : Nat) (nb : Bool), r ≤ lm ∧ j = .int .i64 r ∧ nm = .bool nb ∧ (nb = true ↔ fq ∈ ms.take r) ∧ ∃ z : Wd Wd0, wr = z.val) (fun _ j _ => lm - (intOf j).toNat)
          case atStart => exact ⟨0, false, Nat.zero_le _, rfl, rfl, by simp, z, rfl⟩
          case round =>
            obtain ⟨r, nb, hr, rfl, rfl, hnb, z, rfl⟩ := hrel
            by_cases hrl : r < lm
            · obtain ⟨bs, os, rfl, -, hmem, hds⟩ := ints_at S3.out hrl
              obtain ⟨yr, hyr⟩ : ∃ yr, ms.getD r 0 = yr := ⟨_, rfl⟩
              rw [hyr] at hmem
              have s0 : ∀ x : Wd Wd0, x.val.cell? ⟨bs, os + r, none⟩ = some (.int .i64 yr) := fun x => by have := hds x.val x.ok; rw [hyr] at this; exact this
              have HTK := Lib.hid (show fq ∈ ms.take (r + 1) ↔ fq ∈ ms.take r ∨ fq = yr by rw [List.take_add_one, hmem]; simp)
              have HNB := Lib.hid hnb
              clear hds hyr hmem hnb
              cases nb with
              | true =>
                have HIN := Lib.hid (HTK.out.2 (.inl (HNB.out.1 rfl)))
                go_wp2_with fail
                refine wp_region_calm Wd0 (by kernel_rfl) (by kernel_rfl) z.ok ?_
                repeat (go_big_quiet_step (fail))
                refine wpQuiet_nil ?_
                rintro _ ⟨v, rfl⟩
                go_wp2_with fail
                go_roundw
                case rel => exact ⟨r + 1, true, by omega, by go_num, rfl, ⟨fun _ => HIN.out, fun _ => rfl⟩, v, rfl⟩
                case measure => simp [intOf]; omega
              | false =>
                by_cases hyq : yr = fq
                · have HIN := Lib.hid (HTK.out.2 (.inr hyq.symm))
                  subst hyq
                  have e3 : (yr == yr) = true := by simp
                  go_wp2_with fail
                  refine wp_region_calm Wd0 (by kernel_rfl) (by kernel_rfl) z.ok ?_
                  repeat (go_big_quiet_step (fail))
                  refine wpQuiet_nil ?_
                  rintro _ ⟨v, rfl⟩
                  go_wp2_with fail
                  go_roundw
                  case rel => exact ⟨r + 1, true, by omega, by go_num, rfl, ⟨fun _ => HIN.out, fun _ => rfl⟩, v, rfl⟩
                  case measure => simp [intOf]; omega
                · have e3 : (yr == fq) = false := beq_eq_false_iff_ne.2 hyq
                  have HYQ := Lib.hid hyq
                  clear hyq
                  go_wp2_with fail
                  refine wp_region_calm Wd0 (by kernel_rfl) (by kernel_rfl) z.ok ?_
                  repeat (go_big_quiet_step (fail))
                  refine wpQuiet_nil ?_
                  rintro _ ⟨v, rfl⟩
                  go_wp2_with fail
                  go_roundw
                  case rel => exact ⟨r + 1, false, by omega, by go_num, rfl, ⟨fun h => Bool.noConfusion h, fun h => (HTK.out.1 h).elim (fun h1 => HNB.out.2 h1) (fun h1 => absurd h1.symm HYQ.out)⟩, v, rfl⟩
                  case measure => simp [intOf]; omega
            · obtain rfl : lm = r := by omega
              rw [List.take_of_length_le (by rw [HLM.out]; exact Nat.le_refl _), HM.out] at hnb
              cases nb with
              | true =>
                have e3 : (dq != dr) = true := bne_iff_ne.2 (hnb.1 rfl)
                clear hnb
                go_wp2_with fail
                refine wp_region_calm Wd0 (by kernel_rfl) (by kernel_rfl) z.ok ?_
                repeat (go_big_quiet_step (fail))
                refine wpQuiet_nil ?_
                rintro _ ⟨v, rfl⟩
                go_wp2_with fail
                go_roundw
                case rel => exact ⟨q + 1, by omega, by go_num, by rw [← HAN.out]; go_num, v, rfl⟩
                case measure => simp [intOf]; omega
              | false =>
                have e4 : dq = dr := Decidable.of_not_not fun h => Bool.noConfusion (hnb.2 h)
                subst e4
                have e3 : (dq != dq) = false := by simp
                clear hnb
                go_wp2_with fail
                refine wp_region_calm Wd0 (by kernel_rfl) (by kernel_rfl) z.ok ?_
                repeat (go_big_quiet_step (fail))
                refine wpQuiet_nil ?_
                rintro _ ⟨v, rfl⟩
                go_wp2_with fail
                go_roundw
                case rel => exact ⟨q + 1, by omega, by go_num, by rw [← HAN.out]; go_num, v, rfl⟩
                case measure => simp [intOf]; omega
      · obtain rfl : len = q := by omega
        go_wp2_with (go_at_call 21; (with_reducible refine (sane_any _).mono ?_); rintro e w8 ⟨rfl, g8⟩; have G9 := Lib.hid (z.ok.trans (g8.mono z.ok.size)); clear g8)
        go_ret
        rw [← HBQ.out]
        exact ⟨rfl, HGE.out.trans (G9.out.mono HGE.out.size)⟩
end Go.Proofs.Ytdhhneflhmkonaa
