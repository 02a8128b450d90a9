/- The reference's Idle (func 17). -/
import Derived.Test.YtdhhneflhmkonaaV9
import Derived.Test.YtdhhneflhmkonaaVE
namespace Go.Proofs.Ytdhhneflhmkonaa
open Go.RowKit Go.Shelf

theorem bar_hrs {xs : List Comer} (hX : Hrs xs) (b : Nat) : Hrs (barL xs b) := by
  intro x hx
  unfold barL at hx
  obtain ⟨c, hc, rfl⟩ := List.mem_map.1 hx
  have h1 := hX c hc
  have : c.hours.toNat ^^^ (c.hours.toNat &&& 2 ^ b) < 2 ^ 24 := Nat.xor_lt_two_pow (n := 24) (by omega) (Nat.lt_of_le_of_lt Nat.and_le_left (by omega))
  dsimp only; omega
theorem turns_1000 (xs : List Comer) (H : Nat) : ∀ x ∈ turnsS xs H, 0 ≤ x ∧ x ≤ 24 := by
  intro x hx
  obtain ⟨i, hi, rfl⟩ := List.getElem_of_mem hx
  have := turns_bd xs H (j := i) (by rw [← turns_len xs H]; exact hi)
  rw [List.getD_eq_getElem?_getD, List.getElem?_eq_getElem hi] at this
  simpa using this

/-- Serve in a mill without an hour. -/
theorem serveBar_any (A D : Option Addr) (n cc cd H b : Nat) (xs : List Comer) (d : List Int) (w : World) (hl : xs.length = n) (ha : Arr ccells 3 w A n (barL xs b)) (hX : Hrs xs) (hH : H ≤ 24) (hn : n ≤ 12) (hd : Ints w D n d) (hdb : ∀ x ∈ d, x ≤ 1000) :
    Calls Try.prog 75 #[.agg #[.int .i64 H, .slice A n cc], .slice D n cd] w fun e w' => (∃ P pc, e = .returned (.tuple #[.agg #[.slice P H pc], .bool (fea xs H b d)])) ∧ Below w.heap.size w w' := by
  have h := serveRef_any A D n cc cd H (barL xs b) d w ha (bar_hrs hX b) hH hn hd hdb
  unfold SrvPost mv at h
  refine h.mono ?_
  rintro e w' ⟨g, P, pc, wh, rfl, -⟩
  rw [fea_barL (by rw [hl]; exact hd.1)]
  exact ⟨⟨P, pc, rfl⟩, g⟩

set_option maxRecDepth 100000 in
set_option maxHeartbeats 4000000 in
theorem refIdle_any (A : Option Addr) (n cc : Nat) (h : Int) (xs : List Comer) (w : World) (ha : Arr ccells 3 w A n xs) (hnc : n ≤ cc) (hn : n ≤ 9223372036854775807) :
    Calls Try.prog 17 #[mv A n cc h] w fun e w' => (∃ D c, e = .returned (.tuple #[.slice D (idleS xs h).length c, .int .i64 (err (okMill h xs) 52)]) ∧ Ints w' D (idleS xs h).length (idleS xs h)) ∧ Below w.heap.size w w' := by
  have HA := Lib.hid ha
  have hlen := Lib.hid ha.1
  clear ha
  obtain ⟨ok, hok⟩ : ∃ ok, okMill h xs = ok := ⟨_, rfl⟩
  have HOK := Lib.hid hok
  have HS := Lib.hid (show idleS xs h = if ok = true then idleK xs h.toNat (turnsS xs h.toNat) h.toNat else [] by rw [← hok]; rfl)
  rw [hok]
  generalize idleS xs h = is at HS ⊢
  clear hok
  unfold mv
  go_enter Try.func17, Try.ntmps17
  go_wp2_with fail
  obtain ⟨W1, hW1, g1, -, b1⟩ := box24 w h A n cc
  rw [hW1]
  clear hW1
  refine (refCheck_any h A n cc xs W1 (HA.out.below g1) hnc hn).mono ?_
  rintro e W2 ⟨rfl, hg2⟩
  rw [HOK.out]
  have b2 := b1.ext hg2
  have g2 := g1.trans (hg2.mono g1.size)
  have m0 := b2.cell 0
  have m1 := b2.cell 1
  have B2 := Lib.hid b2
  have G2 := Lib.hid g2
  clear g1 b1 hg2 g2 b2
  cases ok with
  | false =>
    rw [show err false 52 = 52 from rfl]
    go_wp2_with fail
    go_ret2
    have e : is = [] := HS.out
    subst e
    exact ⟨⟨none, 0, rfl, Arr.nil_⟩, G2.out⟩
  | true =>
    rw [show err true 52 = 0 from rfl]
    have ok := (okMill_iff h xs).1 HOK.out
    obtain ⟨H, rfl⟩ : ∃ H : Nat, h = H := ⟨h.toNat, by have := ok.h0; omega⟩
    have hH : H ≤ 24 := by have := ok.h24; omega
    have hn12 : n ≤ 12 := by have := ok.n12; have := hlen.out; omega
    have HX := Lib.hid ok.hrs
    have T2 := hoursRef_any A n cc H xs W2 (HA.out.below G2.out) ok.hrs hH hn12
    unfold mv at T2
    have HT2 := Lib.hid T2
    have HS2 := Lib.hid (show is = idleK xs H (turnsS xs H) H from HS.out)
    have HDB := Lib.hid (turns_1000 xs H)
    have HTL := Lib.hid ((turns_len xs H).trans hlen.out)
    clear T2 ok
    generalize turnsS xs H = due at HT2 HS2 HDB HTL
    go_wp2_with fail
    refine HT2.out.mono ?_
    rintro e W3 ⟨⟨bd, rfl, hbd, hb3⟩, g3⟩
    have B3 := Lib.hid (B2.out.ext g3)
    have HD3 := Lib.hid (hb3.intsN HTL.out)
    have G3 := Lib.hid (G2.out.trans (g3.mono G2.out.size))
    have hwlt : w.heap.size < W3.heap.size := B3.out.lt
    clear g3 hb3 m0 m1 HT2
    go_wp2_with fail
    go_loopw [5, 6] (fun v i wr => ∃ k : Nat, k ≤ H ∧ i = .int .i64 k ∧ Own wr W3.heap.size v (idleK xs H due k) ∧ Below W3.heap.size W3 wr) (fun _ i _ => H - (intOf i).toNat)
    case atStart => exact ⟨0, Nat.zero_le _, rfl, Own.nil _ _, Below.refl _ _⟩
    case round =>
      obtain ⟨k, hk, rfl, hown, hg⟩ := hrel
      rename World => wr
      have HG := Lib.hid hg
      have HGW := Lib.hid (G3.out.trans (hg.mono G3.out.size))
      have HO := Lib.hid hown
      have BR := Lib.hid (B3.out.ext hg)
      have hsz := hg.size
      have m0 := BR.out.cell 0
      have m1 := BR.out.cell 1
      by_cases hkH : k < H
      · obtain ⟨fb, hfb⟩ : ∃ fb, fea xs H (k : Int) due = fb := ⟨_, rfl⟩
        have HNX := Lib.hid (show idleK xs H due (k + 1) = idleK xs H due k ++ if fb = true then [(k : Int)] else [] by rw [← hfb]; rfl)
        have T1 := barred_any A n cc k (H : Int) xs wr (HA.out.below HGW.out) HX.out (by omega) hn12
        unfold mv BarPost at T1
        have HT1 := Lib.hid T1
        have T3 := fun W A' c' (g : Below wr.heap.size wr W) (ha : Arr ccells 3 W A' n (barL xs k)) => serveBar_any A' (some ⟨bd, 0, none⟩) n c' n H k xs due W hlen.out ha HX.out hH hn12 ((HD3.out.below HG.out).below g) (fun x hx => by have := HDB.out x hx; omega)
        rw [hfb] at T3
        have HT3 := Lib.hid T3
        have hL : (idleK xs H due k).length < 100000 := by have := idleK_len xs H due k; omega
        clear T1 T3 hfb hown hg
        cases fb with
        | true =>
          go_wp2_with (first
            | (go_at_call 76; (with_reducible refine HT1.out.mono ?_); rintro e wa ⟨ga, A', c', rfl, hc', haa⟩; have GA := Lib.hid ga; have HAA := Lib.hid haa; unfold mv; clear ga haa)
            | (go_at_call 75; (with_reducible refine (HT3.out _ _ _ GA.out HAA.out).mono ?_); rintro e wb ⟨⟨P, pc, rfl⟩, gb⟩; have GB := Lib.hid (GA.out.trans (gb.mono GA.out.size)); have hzb := GB.out.size; have GC := Lib.hid (GB.out.alloc GB.out.size (.cells #[.slice P H pc] 90)); clear gb)
            | (at_builtin; refine push_int rfl _ _ rfl W3.heap.size _ (idleK xs H due k) rfl ((HO.out.ext GC.out).ext (one_more _ _)) _ _ _ _ rfl rfl (cell_new1 _ _ _ _ (World.size_alloc _ _).symm) hL (by simp; omega) ?_; intro v' w' ho hbw))
          all_goals
            go_roundw
            case rel => exact ⟨k + 1, by omega, by go_num, by rw [HNX.out, if_pos True.intro]; exact ho, HG.out.trans ((GC.out.mono hsz).trans (((one_more _ _).mono (by have := GC.out.size; omega)).trans (hbw _ (Nat.le_refl _))))⟩
            case measure => simp [intOf]; omega
        | false =>
          go_wp2_with (first
            | (go_at_call 76; (with_reducible refine HT1.out.mono ?_); rintro e wa ⟨ga, A', c', rfl, hc', haa⟩; have GA := Lib.hid ga; have HAA := Lib.hid haa; unfold mv; clear ga haa)
            | (go_at_call 75; (with_reducible refine (HT3.out _ _ _ GA.out HAA.out).mono ?_); rintro e wb ⟨⟨P, pc, rfl⟩, gb⟩; have GB := Lib.hid (GA.out.trans (gb.mono GA.out.size)); have hzb := GB.out.size; have GC := Lib.hid (GB.out.alloc GB.out.size (.cells #[.slice P H pc] 90)); clear gb))
          all_goals
            go_roundw
            case rel => exact ⟨k + 1, by omega, by go_num, by rw [HNX.out]; simpa using HO.out.ext GC.out, HG.out.trans (GC.out.mono hsz)⟩
            case measure => simp [intOf]; omega
      · obtain rfl : H = k := by omega
        obtain ⟨D, c, rfl, hi⟩ := hown.ints
        have HI := Lib.hid hi
        clear hown hg hi
        go_wp2_with fail
        go_ret2
        have e := HS2.out
        subst e
        exact ⟨⟨D, c, rfl, HI.out⟩, HGW.out⟩
end Go.Proofs.Ytdhhneflhmkonaa
