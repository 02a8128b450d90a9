/- The reference's Unserved and CheckCrowd (func 59, 61). -/
import Derived.Test.YtdhhneflhmkonaaV6
import Derived.Deep.RegionHeld3
namespace Go.Proofs.Ytdhhneflhmkonaa
open Go.RowKit Go.Shelf

set_option maxRecDepth 100000 in
set_option maxHeartbeats 4000000 in
theorem refUnserved_any (A : Option Addr) (n cc : Nat) (h : Int) (xs : List Comer) (w : World) (ha : Arr ccells 3 w A n xs) (hnc : n ≤ cc) (hn : n ≤ 9223372036854775807) :
    Calls Try.prog 59 #[mv A n cc h] w fun e w' => e = .returned (.int .i64 (unsE xs h)) ∧ Below w.heap.size w w' := by
  have HA := Lib.hid ha
  have hxl := Lib.hid ha.1
  clear ha
  obtain ⟨ok, hok⟩ : ∃ ok, okMill h xs = ok := ⟨_, rfl⟩
  have HOK := Lib.hid hok
  obtain ⟨ce, hce⟩ : ∃ ce, crowE xs h (capped xs 1) = ce := ⟨_, rfl⟩
  have HE := Lib.hid (show unsE xs h = if ok = true then ce else 52 by rw [← hok, ← hce]; rfl)
  generalize unsE xs h = er at HE ⊢
  have HCE := Lib.hid hce
  clear hok hce
  have T3 := fun W D cd (g : Below w.heap.size w W) (hd : Ints W D n (capped xs 1)) => crowdError_any A D n cc n cd h xs (capped xs 1) W (HA.out.below g) hnc hd hn hn
  have T2 := fun W (g : Below w.heap.size w W) (h12 : n ≤ 12) => cappedRef_any A n cc h 1 xs W (HA.out.below g) h12
  rw [HCE.out] at T3
  unfold mv at T2 T3 ⊢
  have HT2 := Lib.hid T2
  have HT3 := Lib.hid T3
  clear T2 T3
  go_enter Try.func59, Try.ntmps59
  go_wp2_with fail
  obtain ⟨W1, hW1, g1, -, b1⟩ := box24 w h A n cc
  rw [hW1]
  clear hW1
  refine (refCheck_any h A n cc xs W1 (HA.out.below g1) hnc hn).mono ?_
  rintro e W2 ⟨rfl, hg2⟩
  rw [HOK.out]
  have b2 := b1.ext hg2
  have g2 := g1.trans (hg2.mono g1.size)
  have B2 := Lib.hid b2
  have G2 := Lib.hid g2
  clear g1 b1 hg2 g2 b2
  cases ok with
  | false =>
    rw [show err false 52 = 52 from rfl]
    go_wp2_with fail
    go_ret
    exact ⟨ret_int HE.out.symm, G2.out⟩
  | true =>
    rw [show err true 52 = 0 from rfl]
    have ok := (okMill_iff h xs).1 HOK.out
    have hn12 : n ≤ 12 := by have := ok.n12; have := hxl.out; omega
    clear ok
    have K0 : ∀ Wx, Below W2.heap.size W2 Wx → (Wx.cell? ⟨w.heap.size, 0, none⟩ = some (.int .i64 h) ∧ Wx.cell? ⟨w.heap.size, 1, none⟩ = some (.slice A n cc)) :=
      fun Wx f => ⟨(B2.out.ext f).cell 0, (B2.out.ext f).cell 1⟩
    have HK := Lib.hid K0
    have KD := Lib.hid (K0 _ ((Below.refl _ W2).drew))
    have GD := Lib.hid (show Below w.heap.size w W2.drew from G2.out.drew)
    clear K0
    go_wp2_with fail
    go_region_held3 (fun w' => w'.cell? ⟨w.heap.size, 0, none⟩ = some (.int .i64 h) ∧ w'.cell? ⟨w.heap.size, 1, none⟩ = some (.slice A n cc))
      (first
        | exact KD.out
        | exact KX.out
        | exact KY.out
        | go_keep)
      (first
        | (go_at_call 89; (with_reducible refine (HT2.out _ GD.out hn12).mono ?_); rintro e wa ⟨⟨D, cd, rfl, hd⟩, ga⟩; have GA := Lib.hid (GD.out.trans (ga.mono GD.out.size)); have GY := Lib.hid (show Below W2.heap.size W2 wa from ((Below.refl _ W2).drew).trans ga); have KX := Lib.hid (HK.out _ GY.out); have HD := Lib.hid hd; clear ga hd)
        | (go_at_call 58; (with_reducible refine (HT3.out _ _ _ GA.out HD.out).mono ?_); rintro e wb ⟨rfl, gb⟩; have GB := Lib.hid (GA.out.trans (gb.mono GA.out.size)); have KY := Lib.hid (HK.out _ (GY.out.trans (gb.mono GY.out.size))); clear gb))
    all_goals (try go_wp2_with fail)
    all_goals
      go_ret
      exact ⟨ret_int HE.out.symm, GB.out⟩
end Go.Proofs.Ytdhhneflhmkonaa
