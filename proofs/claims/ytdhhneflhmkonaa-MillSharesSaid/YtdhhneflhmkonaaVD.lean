/- The reference's CheckShare (func 42). -/
import Derived.Test.YtdhhneflhmkonaaVB
namespace Go.Proofs.Ytdhhneflhmkonaa
open Go.RowKit Go.Shelf

set_option maxRecDepth 100000 in
set_option maxHeartbeats 4000000 in
theorem refCheckShare_any (A D : Option Addr) (n cc m cd : Nat) (h : Int) (xs : List Comer) (l : List Int) (w : World) (ha : Arr ccells 3 w A n xs) (hnc : n ≤ cc) (hd : Ints w D m l) (hm : m ≤ 9223372036854775807) (hn : n ≤ 9223372036854775807) :
    Calls Try.prog 42 #[mv A n cc h, .slice D m cd] w fun e w' => e = .returned (.int .i64 (shareE xs h l)) ∧ Below w.heap.size w w' := by
  have HA := Lib.hid ha
  have HD := Lib.hid hd
  have hlen := Lib.hid ha.1
  clear ha hd
  obtain ⟨ok, hok⟩ : ∃ ok, okMill h xs = ok := ⟨_, rfl⟩
  have HOK := Lib.hid hok
  have HE := Lib.hid (show shareE xs h l = if ok = true then (if (l.length : Int) = h ∧ gotK xs l l.length = some (turnsS xs h.toNat) then 0 else 53) else 52 by rw [← hok]; rfl)
  generalize shareE xs h l = er at HE ⊢
  clear hok
  unfold mv
  go_enter Try.func42, Try.ntmps42
  go_wp2_with fail
  obtain ⟨W1, hW1, g1, -, b1⟩ := box24 w h A n cc
  rw [hW1]
  clear hW1
  refine (refCheck_any h A n cc xs W1 (HA.out.below g1) hnc hn).mono ?_
  rintro e W2 ⟨rfl, hg2⟩
  rw [HOK.out]
  have b2 := b1.ext hg2
  have g2 := g1.trans (hg2.mono g1.size)
  have m0 := b2.cell 0
  have m1 := b2.cell 1
  have B2 := Lib.hid b2
  have G2 := Lib.hid g2
  clear g1 b1 hg2 g2 b2
  cases ok with
  | false =>
    rw [show err false 52 = 52 from rfl]
    go_wp2_with fail
    go_ret
    exact ⟨ret_int HE.out.symm, G2.out⟩
  | true =>
    rw [show err true 52 = 0 from rfl]
    have ok := (okMill_iff h xs).1 HOK.out
    obtain ⟨H, rfl⟩ : ∃ H : Nat, h = H := ⟨h.toNat, by have := ok.h0; omega⟩
    have hH : H ≤ 24 := by have := ok.h24; omega
    have hn12 : n ≤ 12 := by have := ok.n12; have := hlen.out; omega
    have HX := Lib.hid ok.hrs
    have HE2 := Lib.hid (show er = if (l.length : Int) = (H : Int) ∧ gotK xs l l.length = some (turnsS xs H) then 0 else 53 from HE.out)
    have T1 := had_any A D n cc m cd H xs l W2 (HA.out.below G2.out) ok (HD.out.below G2.out) hm
    unfold mv at T1
    have HT1 := Lib.hid T1
    clear T1 ok
    go_wp2_with fail
    refine HT1.out.mono ?_
    rintro e W3 ⟨g3, b, out, is, rfl, ho, hb, hy, hf⟩
    have q0 := (B2.out.ext g3).cell 0
    have q1 := (B2.out.ext g3).cell 1
    have G3 := Lib.hid (G2.out.trans (g3.mono G2.out.size))
    have HO := Lib.hid ho
    have HY := Lib.hid hy
    have HF := Lib.hid hf
    clear g3 ho hy hf m0 m1 HT1
    cases is with
    | false =>
      go_wp2_with fail
      go_ret
      refine ⟨ret_int ?_, G3.out⟩
      rw [HE2.out, if_neg]
      intro h
      exact HF.out (by trivial) ⟨h.1, by rw [h.2]; rfl⟩
    | true =>
      have T2 := hoursRef_any A n cc H xs W3 (HA.out.below G3.out) HX.out hH hn12
      unfold mv at T2
      have HT2 := Lib.hid T2
      clear T2
      obtain ⟨sb, hsb⟩ : ∃ sb, decide (out = turnsS xs H) = sb := ⟨_, rfl⟩
      have HSB := Lib.hid hsb
      have T3 := fun W b2 (g : Below W3.heap.size W3 W) (hb2 : Blk W b2 3 (vals (turnsS xs H))) => sameInts_any (some ⟨b, 0, none⟩) (some ⟨b2, 0, none⟩) n n n n out (turnsS xs H) W (HO.out.below g) (hb2.intsN ((turns_len xs H).trans hlen.out)) (by omega) (by omega)
      rw [hsb] at T3
      have HT3 := Lib.hid T3
      clear T3 hsb
      cases sb with
      | true =>
        go_wp2_with (first
          | (go_at_call 73; (with_reducible refine HT2.out.mono ?_); rintro e W4 ⟨⟨b2, rfl, -, hb2⟩, g4⟩; have HB2 := Lib.hid hb2; have G4 := Lib.hid g4; clear hb2 g4)
          | (go_at_call 20; (with_reducible refine (HT3.out _ _ G4.out HB2.out).mono ?_); rintro e W5 ⟨rfl, g5⟩; have G5 := Lib.hid (G4.out.trans (g5.mono G4.out.size)); clear g5))
        go_ret
        refine ⟨ret_int ?_, G3.out.trans (G5.out.mono G3.out.size)⟩
        obtain ⟨h1, h2⟩ := HY.out (by trivial)
        rw [HE2.out, if_pos ⟨h1, by rw [h2, of_decide_eq_true HSB.out]⟩]
      | false =>
        go_wp2_with (first
          | (go_at_call 73; (with_reducible refine HT2.out.mono ?_); rintro e W4 ⟨⟨b2, rfl, -, hb2⟩, g4⟩; have HB2 := Lib.hid hb2; have G4 := Lib.hid g4; clear hb2 g4)
          | (go_at_call 20; (with_reducible refine (HT3.out _ _ G4.out HB2.out).mono ?_); rintro e W5 ⟨rfl, g5⟩; have G5 := Lib.hid (G4.out.trans (g5.mono G4.out.size)); clear g5))
        go_ret
        refine ⟨ret_int ?_, G3.out.trans (G5.out.mono G3.out.size)⟩
        obtain ⟨h1, h2⟩ := HY.out (by trivial)
        rw [HE2.out, if_neg]
        rintro ⟨-, h3⟩
        rw [h2] at h3
        exact of_decide_eq_false HSB.out (Option.some.inj h3)
end Go.Proofs.Ytdhhneflhmkonaa
