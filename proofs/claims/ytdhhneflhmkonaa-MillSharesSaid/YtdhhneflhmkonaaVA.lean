/- The reference's Hours and Level (func 39, 38). -/
import Derived.Test.YtdhhneflhmkonaaV9
namespace Go.Proofs.Ytdhhneflhmkonaa
open Go.RowKit Go.Shelf

set_option maxRecDepth 100000 in
set_option maxHeartbeats 2000000 in
theorem refHours_any (A : Option Addr) (n cc : Nat) (h : Int) (xs : List Comer) (w : World) (ha : Arr ccells 3 w A n xs) (hnc : n ≤ cc) (hn : n ≤ 9223372036854775807) :
    Calls Try.prog 39 #[mv A n cc h] w fun e w' => (∃ D c, e = .returned (.tuple #[.slice D (hoursS xs h).length c, .int .i64 (err (okMill h xs) 52)]) ∧ Ints w' D (hoursS xs h).length (hoursS xs h)) ∧ Below w.heap.size w w' := by
  have HA := Lib.hid ha
  have hlen := Lib.hid ha.1
  clear ha
  obtain ⟨ok, hok⟩ : ∃ ok, okMill h xs = ok := ⟨_, rfl⟩
  have HOK := Lib.hid hok
  have HS := Lib.hid (show hoursS xs h = if ok = true then turnsS xs h.toNat else [] by rw [← hok]; rfl)
  rw [hok]
  generalize hoursS xs h = hs at HS ⊢
  clear hok
  unfold mv
  go_enter Try.func39, Try.ntmps39
  go_wp2_with fail
  obtain ⟨W1, hW1, g1, -, b1⟩ := box24 w h A n cc
  rw [hW1]
  clear hW1
  refine (refCheck_any h A n cc xs W1 (HA.out.below g1) hnc hn).mono ?_
  rintro e W2 ⟨rfl, hg2⟩
  rw [HOK.out]
  have b2 := b1.ext hg2
  have g2 := g1.trans (hg2.mono g1.size)
  have m0 := b2.cell 0
  have m1 := b2.cell 1
  have G2 := Lib.hid g2
  clear g1 b1 hg2 g2 b2
  cases ok with
  | false =>
    rw [show err false 52 = 52 from rfl]
    go_wp2_with fail
    go_ret2
    have e : hs = [] := HS.out
    subst e
    exact ⟨⟨none, 0, rfl, Arr.nil_⟩, G2.out⟩
  | true =>
    rw [show err true 52 = 0 from rfl]
    have ok := (okMill_iff h xs).1 HOK.out
    obtain ⟨H, rfl⟩ : ∃ H : Nat, h = H := ⟨h.toNat, by have := ok.h0; omega⟩
    have hH : H ≤ 24 := by have := ok.h24; omega
    have hn12 : n ≤ 12 := by have := ok.n12; have := hlen.out; omega
    have T2 := hoursRef_any A n cc H xs W2 (HA.out.below G2.out) ok.hrs hH hn12
    unfold mv at T2
    have HT2 := Lib.hid T2
    have HS2 := Lib.hid (show hs = turnsS xs H from HS.out)
    clear T2 ok
    go_wp2_with (go_at_call 73; (with_reducible refine HT2.out.mono ?_); rintro e w' ⟨⟨b, rfl, -, hb⟩, g3⟩; have G3 := Lib.hid g3; have HB := Lib.hid hb; clear g3 hb)
    go_ret2
    have e := HS2.out
    subst e
    have hl : (turnsS xs H).length = n := (turns_len xs H).trans hlen.out
    refine ⟨⟨some ⟨b, 0, none⟩, n, by rw [hl]; rfl, ?_⟩, G2.out.trans (G3.out.mono G2.out.size)⟩
    rw [hl]
    exact HB.out.intsN hl

def LevCut (fb : Bool) (V : World) (s7 : Value) (wx : World) : Prop := s7 = .bool fb ∧ Below V.heap.size V wx

set_option maxRecDepth 100000 in
set_option maxHeartbeats 4000000 in
theorem refLevel_any (A : Option Addr) (n cc : Nat) (h : Int) (xs : List Comer) (w : World) (ha : Arr ccells 3 w A n xs) (hnc : n ≤ cc) (hn : n ≤ 9223372036854775807) :
    Calls Try.prog 38 #[mv A n cc h] w fun e w' => e = .returned (.tuple #[.int .i64 (levS xs h), .int .i64 (err (okMill h xs) 52)]) ∧ Below w.heap.size w w' := by
  have HA := Lib.hid ha
  have hlen := Lib.hid ha.1
  clear ha
  obtain ⟨ok, hok⟩ : ∃ ok, okMill h xs = ok := ⟨_, rfl⟩
  have HOK := Lib.hid hok
  have HS := Lib.hid (show levS xs h = if ok = true then ((lev xs h.toNat 24 0 : Nat) : Int) else 0 by rw [← hok]; rfl)
  rw [hok]
  generalize levS xs h = ls at HS ⊢
  clear hok
  unfold mv
  go_enter Try.func38, Try.ntmps38
  go_wp2_with fail
  obtain ⟨W1, hW1, g1, -, b1⟩ := box24 w h A n cc
  rw [hW1]
  clear hW1
  refine (refCheck_any h A n cc xs W1 (HA.out.below g1) hnc hn).mono ?_
  rintro e W2 ⟨rfl, hg2⟩
  rw [HOK.out]
  have b2 := b1.ext hg2
  have g2 := g1.trans (hg2.mono g1.size)
  have B2 := Lib.hid b2
  have G2 := Lib.hid g2
  clear g1 b1 hg2 g2 b2
  cases ok with
  | false =>
    rw [show err false 52 = 52 from rfl]
    go_wp2_with fail
    go_ret2
    have e : ls = 0 := HS.out
    subst e
    exact ⟨rfl, G2.out⟩
  | true =>
    rw [show err true 52 = 0 from rfl]
    have ok := (okMill_iff h xs).1 HOK.out
    obtain ⟨H, rfl⟩ : ∃ H : Nat, h = H := ⟨h.toNat, by have := ok.h0; omega⟩
    have hH : H ≤ 24 := by have := ok.h24; omega
    have hn12 : n ≤ 12 := by have := ok.n12; have := hlen.out; omega
    have HX := Lib.hid ok.hrs
    have HCB := Lib.hid (show ∀ (k : Int), k ≤ 24 → ∀ x ∈ capped xs k, x ≤ 1000 from fun k hk x hx => by
      unfold capped at hx
      obtain ⟨c, -, rfl⟩ := List.mem_map.1 hx
      omega)
    have HS2 := Lib.hid (show ls = ((bestK xs H 24 : Nat) : Int) by rw [bestK_lev]; exact HS.out)
    clear ok
    go_wp2_with fail
    go_loopw [4, 5] (fun b k wr => ∃ k0 : Nat, k0 ≤ 24 ∧ k = .int .i64 ((k0 : Int) + 1) ∧ b = .int .i64 (bestK xs H k0 : Nat) ∧ Below W2.heap.size W2 wr) (fun _ k _ => 25 - (intOf k).toNat)
    case atStart => exact ⟨0, by omega, rfl, rfl, Below.refl _ _⟩
    case round =>
      obtain ⟨k0, hk, rfl, rfl, hg⟩ := hrel
      rename World => wr
      have HG := Lib.hid (G2.out.trans (hg.mono G2.out.size))
      have BR := Lib.hid (B2.out.ext hg)
      have HG2 := Lib.hid hg
      by_cases hk24 : k0 < 24
      · have hd24 : decide ((k0 : Int) + 1 ≤ 24) = true := decide_eq_true (by omega)
        obtain ⟨fb, hfb⟩ : ∃ fb, fea xs H (-1) (capped xs ((k0 : Int) + 1)) = fb := ⟨_, rfl⟩
        have HB1 := Lib.hid (show bestK xs H (k0 + 1) = if fb = true then k0 + 1 else bestK xs H k0 by rw [← hfb]; rfl)
        have T89 := fun W (g : Below wr.heap.size wr W) => cappedRef_any A n cc (H : Int) ((k0 : Int) + 1) xs W ((HA.out.below HG.out).below g) hn12
        have T75 := fun W D cd (g : Below wr.heap.size wr W) (hd : Ints W D n (capped xs ((k0 : Int) + 1))) => serveRef_any A D n cc cd H xs (capped xs ((k0 : Int) + 1)) W ((HA.out.below HG.out).below g) HX.out hH hn12 hd (HCB.out _ (by omega))
        unfold SrvPost at T75
        rw [hfb] at T75
        unfold mv at T89 T75
        have HT89 := Lib.hid T89
        have HT75 := Lib.hid T75
        have HK := Lib.hid (show ∀ Wx, Below wr.heap.size wr Wx → (Wx.cell? ⟨w.heap.size, 0, none⟩ = some (.int .i64 H) ∧ Wx.cell? ⟨w.heap.size, 1, none⟩ = some (.slice A n cc)) from fun Wx f => ⟨(BR.out.ext f).cell 0, (BR.out.ext f).cell 1⟩)
        have G0 := Lib.hid (show Below wr.heap.size wr wr.drew from (Below.refl _ _).drew)
        have G1 := Lib.hid (show Below wr.heap.size wr (wr.alloc (.cells #[.slice none 0 0] 90)).drew from (one_more _ _).drew)
        have N1 := Lib.hid (show Blk (wr.alloc (.cells #[.slice none 0 0] 90)).drew wr.heap.size 90 #[.slice none 0 0] from Blk.new _ _ _)
        clear T89 T75 hfb hg
        go_upto_region 7 with fail
        go_cut [6, 7] from 15 to 22 (fun _ s7 wx => LevCut fb wr s7 wx)
        case first =>
          go_region_held3 (fun w' => w'.cell? ⟨w.heap.size, 0, none⟩ = some (.int .i64 H) ∧ w'.cell? ⟨w.heap.size, 1, none⟩ = some (.slice A n cc))
            (first
              | exact HK.out _ G0.out
              | exact HK.out _ G1.out
              | exact HK.out _ GA.out
              | exact HK.out _ GB.out
              | exact HK.out _ (GA.out.alloc GA.out.size _)
              | exact HK.out _ (GB.out.alloc GB.out.size _)
              | exact HK.out _ (GB.out.setCell (p := ⟨wr.heap.size, 0, none⟩) (Nat.le_refl _) _)
              | exact HK.out _ (GB.out.setCell (p := ⟨wa.heap.size, 0, none⟩) GA.out.size _)
              | go_keep)
            (first
              | (go_at_call 89; (with_reducible refine (HT89.out _ G0.out).mono ?_); rintro e wa ⟨⟨D, cd, rfl, hd⟩, ga⟩; have GA := Lib.hid (G0.out.trans ga); have HD := Lib.hid hd; have NB := Lib.hid (Blk.new wa 90 #[.slice none 0 0]); clear ga hd)
              | (go_at_call 89; (with_reducible refine (HT89.out _ G1.out).mono ?_); rintro e wa ⟨⟨D, cd, rfl, hd⟩, ga⟩; have GA := Lib.hid (G1.out.trans (ga.mono G1.out.size)); have HD := Lib.hid hd; have NA := Lib.hid (N1.out.ext ga); clear ga hd)
              | (go_at_call 75; have nx := NA.out; (with_reducible refine (HT75.out wa D cd GA.out HD.out).mono ?_); rintro e wb ⟨gb, P, pc, wh, rfl, -⟩; have GB := Lib.hid (GA.out.trans (gb.mono GA.out.size)); have n9 := (nx.ext gb).cell 0; have n9f := (nx.ext gb).frozen 0; clear gb nx)
              | (go_at_call 75; (with_reducible refine (HT75.out wa D cd GA.out HD.out).mono ?_); rintro e wb ⟨gb, P, pc, wh, rfl, -⟩; have GB := Lib.hid (GA.out.trans (gb.mono GA.out.size)); clear gb)
              | (go_at_call 75; (with_reducible refine (HT75.out (wa.alloc (.cells #[.slice none 0 0] 90)) D cd (GA.out.alloc GA.out.size _) (HD.out.below (one_more _ _))).mono ?_); rintro e wb ⟨gb, P, pc, wh, rfl, -⟩; have GB := Lib.hid ((GA.out.alloc GA.out.size (.cells #[.slice none 0 0] 90)).trans (gb.mono (GA.out.alloc GA.out.size (.cells #[.slice none 0 0] 90)).size)); have n9 := (NB.out.ext gb).cell 0; have n9f := (NB.out.ext gb).frozen 0; clear gb))
          all_goals (try go_wp2_with fail)
          all_goals go_meet
          all_goals first
            | exact ⟨rfl, GB.out.alloc GB.out.size _⟩
            | exact ⟨rfl, GB.out.setCell (p := ⟨wr.heap.size, 0, none⟩) (Nat.le_refl _) _⟩
            | exact ⟨rfl, GB.out.setCell (p := ⟨wa.heap.size, 0, none⟩) GA.out.size _⟩
        case rest =>
          obtain ⟨rfl, gw⟩ := hcut
          have GW := Lib.hid gw
          clear gw
          cases fb with
          | true =>
            go_wp2_with fail
            go_roundw
            case rel => exact ⟨k0 + 1, by omega, by go_num, by rw [HB1.out]; simp, HG2.out.trans (GW.out.mono HG2.out.size)⟩
            case measure => simp [intOf]; omega
          | false =>
            go_wp2_with fail
            go_roundw
            case rel => exact ⟨k0 + 1, by omega, by go_num, by rw [HB1.out]; simp, HG2.out.trans (GW.out.mono HG2.out.size)⟩
            case measure => simp [intOf]; omega
      · obtain rfl : k0 = 24 := by omega
        clear hg
        go_wp2_with fail
        go_ret2
        have e := HS2.out
        subst e
        exact ⟨rfl, HG.out⟩
end Go.Proofs.Ytdhhneflhmkonaa
