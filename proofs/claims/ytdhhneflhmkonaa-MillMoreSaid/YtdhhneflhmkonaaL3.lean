/- The law MillComes. -/
import Derived.Test.YtdhhneflhmkonaaVG
import Derived.Test.YtdhhneflhmkonaaVH
import Derived.Test.YtdhhneflhmkonaaKE
namespace Go.Proofs.Ytdhhneflhmkonaa
open Go.RowKit Go.Shelf

theorem idleS_len (xs : List Comer) (h : Int) : (idleS xs h).length ≤ 24 := by
  unfold idleS
  split
  · rename_i hq
    have := ((okMill_iff h xs).1 hq).h24
    have := idleK_len xs h.toNat (turnsS xs h.toNat) h.toNat
    omega
  · simp
theorem movedS_len (xs : List Comer) (h f : Int) : (movedS xs h f).length ≤ 12 := by
  unfold movedS
  split
  · rename_i hq
    have hk : okMill h xs = true := by
      unfold movedE at hq
      cases hc : okMill h xs with
      | true => rfl
      | false => rw [hc] at hq; cases hq
    have h1 := ((okMill_iff h xs).1 hk).n12
    rw [(srt_perm _).length_eq]
    unfold movedL
    have := movK_len xs (xs.eraseIdx (idx xs f).toNat) (turnsS xs h.toNat) (turnsS (xs.eraseIdx (idx xs f).toNat) h.toNat) xs.length
    omega
  · simp

set_option maxRecDepth 100000 in
set_option maxHeartbeats 8000000 in
theorem law3_any (A : Option Addr) (n cc : Nat) (h f q : Int) (xs : List Comer) (w : World) (ha : Arr ccells 3 w A n xs) (hnc : n ≤ cc) (hn : n ≤ 9223372036854775807) (hh : -9223372036854775808 ≤ h ∧ h ≤ 9223372036854775807) :
    Calls Try.prog 3 #[mv A n cc h, .int .i64 f, .int .i64 q] w fun e w' => e = .returned (.bool true) ∧ Below w.heap.size w w' := by
  have HA := Lib.hid ha
  clear ha
  have T1 := fun W (g : Below w.heap.size w W) => Comes_any A n cc h f q xs W (HA.out.below g) hnc hn hh
  have T2 := fun W (g : Below w.heap.size w W) => refComes_any A n cc h f q xs W (HA.out.below g) hnc hn hh
  have T3 := fun W (g : Below w.heap.size w W) => Idle_any A n cc h xs W (HA.out.below g) hnc hn
  have T4 := fun W (g : Below w.heap.size w W) => refIdle_any A n cc h xs W (HA.out.below g) hnc hn
  have T5 := fun W (g : Below w.heap.size w W) => Moved_any A n cc h f xs W (HA.out.below g) hnc hn
  have T6 := fun W (g : Below w.heap.size w W) => refMoved_any A n cc h f xs W (HA.out.below g) hnc hn
  have hil := idleS_len xs h
  have hml := movedS_len xs h f
  obtain ⟨cs, hcs⟩ : ∃ cs, comesS xs h f q = cs := ⟨_, rfl⟩
  obtain ⟨ce, hce⟩ : ∃ ce, comesE xs h f q = ce := ⟨_, rfl⟩
  obtain ⟨is, his⟩ : ∃ is, idleS xs h = is := ⟨_, rfl⟩
  obtain ⟨ms, hms⟩ : ∃ ms, movedS xs h f = ms := ⟨_, rfl⟩
  obtain ⟨me, hme⟩ : ∃ me, movedE xs h f = me := ⟨_, rfl⟩
  obtain ⟨eo, heo⟩ : ∃ eo, err (okMill h xs) 52 = eo := ⟨_, rfl⟩
  simp only [hcs, hce] at T1 T2
  simp only [his, heo] at T3 T4
  simp only [hms, hme] at T5 T6
  rw [his] at hil
  rw [hms] at hml
  unfold mv at *
  have H1 := Lib.hid T1
  have H2 := Lib.hid T2
  have H3 := Lib.hid T3
  have H4 := Lib.hid T4
  have H5 := Lib.hid T5
  have H6 := Lib.hid T6
  clear T1 T2 T3 T4 T5 T6 hcs hce his hms hme heo
  go_enter Try.func3, Try.ntmps3
  go_wp2_with fail
  obtain ⟨W1, hW1, g1, -, b1⟩ := box24 w h A n cc
  rw [hW1]
  clear hW1
  refine (H1.out _ g1).mono ?_
  rintro e W2 ⟨rfl, g2⟩
  have b2 := b1.ext g2
  have g2 := g1.trans (g2.mono g1.size)
  clear g1 b1
  have m0 := b2.cell 0
  have m1 := b2.cell 1
  go_wp2_with fail
  refine (H2.out _ g2).mono ?_
  rintro e W3 ⟨rfl, g3⟩
  have b3 := b2.ext g3
  have g3 := g2.trans (g3.mono g2.size)
  clear g2 b2 m0 m1
  have m0 := b3.cell 0
  have m1 := b3.cell 1
  go_wp2_with fail
  refine (H3.out _ g3).mono ?_
  rintro e W4 ⟨⟨D3, c3, rfl, hi3⟩, g4⟩
  have b4 := b3.ext g4
  have I3 := Lib.hid hi3
  clear hi3
  have g4 := g3.trans (g4.mono g3.size)
  clear g3 b3 m0 m1
  have m0 := b4.cell 0
  have m1 := b4.cell 1
  go_wp2_with fail
  refine (H4.out _ g4).mono ?_
  rintro e W5 ⟨⟨D4, c4, rfl, hi4⟩, g5⟩
  have b5 := b4.ext g5
  have I3 := Lib.hid (I3.out.below g5)
  have I4 := Lib.hid hi4
  clear hi4
  have g5 := g4.trans (g5.mono g4.size)
  clear g4 b4 m0 m1
  have m0 := b5.cell 0
  have m1 := b5.cell 1
  go_wp2_with fail
  refine (H5.out _ g5).mono ?_
  rintro e W6 ⟨⟨D5, c5, rfl, hi5⟩, g6⟩
  have b6 := b5.ext g6
  have I3 := Lib.hid (I3.out.below g6)
  have I4 := Lib.hid (I4.out.below g6)
  have I5 := Lib.hid hi5
  clear hi5
  have g6 := g5.trans (g6.mono g5.size)
  clear g5 b5 m0 m1
  have m0 := b6.cell 0
  have m1 := b6.cell 1
  go_wp2_with fail
  refine (H6.out _ g6).mono ?_
  rintro e W7 ⟨⟨D6, c6, rfl, hi6⟩, g7⟩
  have b7 := b6.ext g7
  have I3 := Lib.hid (I3.out.below g7)
  have I4 := Lib.hid (I4.out.below g7)
  have I5 := Lib.hid (I5.out.below g7)
  have I6 := Lib.hid hi6
  clear hi6
  have g7 := g6.trans (g7.mono g6.size)
  clear g6 b6 m0 m1 b7
  have G7 := Lib.hid g7
  clear g7
  have C1 := Lib.hid (fun x : Wd W7 => callsCalm (callsRet (sameInts_any D3 D4 is.length c3 is.length c4 is is x.val (I3.out.below x.ok) (I4.out.below x.ok) (by omega) (by omega)) (show Value.bool (decide (is = is)) = .bool true by simp)))
  have C2 := Lib.hid (fun x : Wd W7 => callsCalm (callsRet (sameInts_any D5 D6 ms.length c5 ms.length c6 ms ms x.val (I5.out.below x.ok) (I6.out.below x.ok) (by omega) (by omega)) (show Value.bool (decide (ms = ms)) = .bool true by simp)))
  go_wp2_with (first
    | (go_at_call 20; (with_reducible refine (C1.out ⟨W7, Below.refl _ _⟩).mono ?_); rintro e w8 ⟨rfl, x8, rfl⟩)
    | (go_at_call 20; (with_reducible refine (C2.out x8).mono ?_); rintro e w9 ⟨rfl, x9, rfl⟩)
    | (go_at_call 21; (with_reducible refine (sane_any _).mono ?_); rintro e w10 ⟨rfl, g10⟩; have G10 := Lib.hid (x9.ok.trans (g10.mono x9.ok.size)); clear g10))
  go_ret
  exact ⟨rfl, G7.out.trans (G10.out.mono G7.out.size)⟩
end Go.Proofs.Ytdhhneflhmkonaa
