/- The law MillShares. -/
import Derived.Test.YtdhhneflhmkonaaVA
import Derived.Test.YtdhhneflhmkonaaVC
import Derived.Test.YtdhhneflhmkonaaVD
import Derived.Test.YtdhhneflhmkonaaKE
namespace Go.Proofs.Ytdhhneflhmkonaa
open Go.RowKit Go.Shelf

theorem hoursS_len (xs : List Comer) (h : Int) : (hoursS xs h).length ≤ 12 := by
  unfold hoursS
  split
  · rename_i hq
    rw [turns_len]
    exact ((okMill_iff h xs).1 hq).n12
  · simp

set_option maxRecDepth 100000 in
set_option maxHeartbeats 8000000 in
theorem law8_any (A D : Option Addr) (n cc m cd : Nat) (h : Int) (xs : List Comer) (l : List Int) (w : World) (ha : Arr ccells 3 w A n xs) (hnc : n ≤ cc) (hd : Ints w D m l) (hm : m ≤ 9223372036854775807) (hn : n ≤ 9223372036854775807) :
    Calls Try.prog 8 #[mv A n cc h, .slice D m cd] w fun e w' => e = .returned (.bool true) ∧ Below w.heap.size w w' := by
  have HA := Lib.hid ha
  have HD := Lib.hid hd
  clear ha hd
  have T1 := fun W (g : Below w.heap.size w W) => Level_any A n cc h xs W (HA.out.below g) hnc hn
  have T2 := fun W (g : Below w.heap.size w W) => refLevel_any A n cc h xs W (HA.out.below g) hnc hn
  have T3 := fun W (g : Below w.heap.size w W) => Hours_any A n cc h xs W (HA.out.below g) hnc hn
  have T4 := fun W (g : Below w.heap.size w W) => refHours_any A n cc h xs W (HA.out.below g) hnc hn
  have T5 := fun W (g : Below w.heap.size w W) => Share_any A n cc h xs W (HA.out.below g) hnc hn
  have T6 := fun W (g : Below w.heap.size w W) => CheckShare_any A D n cc m cd h xs l W (HA.out.below g) hnc (HD.out.below g) hm hn
  have T7 := fun W (g : Below w.heap.size w W) => refCheckShare_any A D n cc m cd h xs l W (HA.out.below g) hnc (HD.out.below g) hm hn
  have T8 := fun W (g : Below w.heap.size w W) D2 m2 c2 (l2 : List Int) (h2 : Ints W D2 m2 l2) (hm2 : m2 ≤ 9223372036854775807) => refCheckShare_any A D2 n cc m2 c2 h xs l2 W (HA.out.below g) hnc h2 hm2 hn
  have hhl := hoursS_len xs h
  have HSH := Lib.hid (show ∀ L, okMill h xs = true → ((L.length : Int) = h ∧ gotK xs L L.length = some (turnsS xs h.toNat)) → shareE xs h L = 0 from fun L k q => by unfold shareE; rw [if_pos k, if_pos q])
  unfold SharePost at T5
  obtain ⟨ls, hls⟩ : ∃ ls, levS xs h = ls := ⟨_, rfl⟩
  obtain ⟨hs, hhs⟩ : ∃ hs, hoursS xs h = hs := ⟨_, rfl⟩
  obtain ⟨e3, he3⟩ : ∃ e3, shareE xs h l = e3 := ⟨_, rfl⟩
  obtain ⟨ok, hok⟩ : ∃ ok, okMill h xs = ok := ⟨_, rfl⟩
  simp only [hls, hok] at T1 T2
  simp only [hhs, hok] at T3 T4
  rw [hhs] at hhl
  simp only [he3] at T6 T7
  simp only [hok] at T5
  rw [hok] at HSH
  unfold mv at *
  have H1 := Lib.hid T1
  have H2 := Lib.hid T2
  have H3 := Lib.hid T3
  have H4 := Lib.hid T4
  have H5 := Lib.hid T5
  have H6 := Lib.hid T6
  have H7 := Lib.hid T7
  have H8 := Lib.hid T8
  clear T1 T2 T3 T4 T5 T6 T7 T8 hls hhs he3 hok
  obtain ⟨eo, heo⟩ : ∃ eo, err ok 52 = eo := ⟨_, rfl⟩
  have HEO := Lib.hid heo
  go_enter Try.func8, Try.ntmps8
  go_wp2_with fail
  obtain ⟨W1, hW1, g1, -, b1⟩ := box24 w h A n cc
  rw [hW1]
  clear hW1
  refine (H1.out _ g1).mono ?_
  rw [heo]
  rintro e W2 ⟨rfl, g2⟩
  have b2 := b1.ext g2
  have g2 := g1.trans (g2.mono g1.size)
  have m0 := b2.cell 0
  have m1 := b2.cell 1
  clear g1 b1 heo
  go_wp2_with fail
  refine (H2.out _ g2).mono ?_
  rw [HEO.out]
  rintro e W3 ⟨rfl, g3⟩
  have b3 := b2.ext g3
  have g3 := g2.trans (g3.mono g2.size)
  clear g2 b2 m0 m1
  have m0 := b3.cell 0
  have m1 := b3.cell 1
  go_wp2_with fail
  refine (H3.out _ g3).mono ?_
  rw [HEO.out]
  rintro e W4 ⟨⟨D4, c4, rfl, hi4⟩, g4⟩
  have b4 := b3.ext g4
  have g4 := g3.trans (g4.mono g3.size)
  clear g3 b3 m0 m1
  have m0 := b4.cell 0
  have m1 := b4.cell 1
  have HI4 := Lib.hid hi4
  clear hi4
  go_wp2_with fail
  refine (H4.out _ g4).mono ?_
  rw [HEO.out]
  rintro e W5 ⟨⟨D5, c5, rfl, hi5⟩, g5⟩
  have b5 := b4.ext g5
  have HI4' := Lib.hid (HI4.out.below g5)
  have g5 := g4.trans (g5.mono g4.size)
  clear g4 b4 m0 m1 HI4
  have m0 := b5.cell 0
  have m1 := b5.cell 1
  have HI5 := Lib.hid hi5
  clear hi5
  go_wp2_with fail
  refine (H5.out _ g5).mono ?_
  rw [HEO.out]
  rintro e W6 ⟨g6, D6, c6, L6, rfl, hi6, hl6, hno6, hyes6⟩
  have b6 := b5.ext g6
  have HI4 := Lib.hid (HI4'.out.below g6)
  have HI5' := Lib.hid (HI5.out.below g6)
  have g6 := g5.trans (g6.mono g5.size)
  clear g5 b5 m0 m1 HI5 HI4'
  have m0 := cellW (b6.cell 0)
  have m1 := cellW (b6.cell 1)
  have HI6 := Lib.hid hi6
  have HNO := Lib.hid hno6
  have HYES := Lib.hid hyes6
  have G6 := Lib.hid g6
  clear hi6 hno6 hyes6 g6 b6
  have GW : ∀ x : Wd W6, Below w.heap.size w x.val := fun x => G6.out.trans (x.ok.mono G6.out.size)
  have HGW := Lib.hid GW
  clear GW
  have C6 := Lib.hid (fun x : Wd W6 => callsCalm (H6.out x.val (HGW.out x)))
  have C7 := Lib.hid (fun x : Wd W6 => callsCalm (H7.out x.val (HGW.out x)))
  have C20 := Lib.hid (fun x : Wd W6 => callsCalm (callsRet (sameInts_any D4 D5 hs.length c4 hs.length c5 hs hs x.val (HI4.out.below x.ok) (HI5'.out.below x.ok) (by omega) (by omega)) (show Value.bool (decide (hs = hs)) = .bool true by simp)))
  go_wp2_with fail
  refine wp_region_calm W6 (by kernel_rfl) (by kernel_rfl) (Below.refl _ _) ?_
  repeat (go_big_quiet_step (first
    | (go_at_call 20; with_reducible exact C20.out _)
    | (go_at_call 41; with_reducible exact C6.out _)
    | (go_at_call 42; with_reducible exact C7.out _)))
  refine wpQuiet_nil ?_
  rintro _ ⟨x7, rfl⟩
  cases ok with
  | false =>
    have e : eo = 52 := HEO.out.symm
    subst e
    have e := HNO.out rfl
    subst e
    go_wp2_with (go_at_call 21; (with_reducible refine (sane_any _).mono ?_); rintro e w8 ⟨rfl, g8⟩; have G8 := Lib.hid g8; clear g8)
    go_ret
    exact ⟨rfl, (HGW.out x7).trans (G8.out.mono (HGW.out x7).size)⟩
  | true =>
    have e : eo = 0 := HEO.out.symm
    subst e
    have K := H8.out x7.val (HGW.out x7) D6 L6.length c6 L6 (HI6.out.below x7.ok) (by omega)
    rw [HSH.out L6 rfl (HYES.out rfl)] at K
    have HK := Lib.hid K
    clear K
    go_wp2_with (first
      | (go_at_call 42; (with_reducible refine HK.out.mono ?_); rintro e w8 ⟨rfl, g8⟩; have G8 := Lib.hid g8; clear g8)
      | (go_at_call 21; (with_reducible refine (sane_any _).mono ?_); rintro e w9 ⟨rfl, g9⟩; have G9 := Lib.hid (G8.out.trans (g9.mono G8.out.size)); clear g9))
    go_ret
    exact ⟨rfl, (HGW.out x7).trans (G9.out.mono (HGW.out x7).size)⟩
end Go.Proofs.Ytdhhneflhmkonaa
