/- The program's families and Share (func 90, 40). -/
import Derived.Test.YtdhhneflhmkonaaV6
namespace Go.Proofs.Ytdhhneflhmkonaa
open Go.RowKit Go.Shelf

def famL (xs : List Comer) (wh : List Int) : List Int := wh.map fun x => if x = -1 then 0 else (xs.getD x.toNat ⟨0, 0, 0⟩).family
theorem famL_snoc (xs : List Comer) {wh : List Int} {k : Nat} {x : Int} (h : wh[k]? = some x) : (famL xs wh).take (k + 1) = (famL xs wh).take k ++ [if x = -1 then 0 else (xs.getD x.toNat ⟨0, 0, 0⟩).family] := by
  unfold famL
  rw [List.take_add_one, List.getElem?_map, h]; rfl

set_option maxRecDepth 100000 in
set_option maxHeartbeats 4000000 in
theorem families_any (bp bw n cc H left : Nat) (A : Option Addr) (xs : List Comer) (wh : List Int) (w : World) (hmp : Mp w bp bw A n cc H left xs) (hH : H ≤ 24) (hbw : Blk w bw 3 (vals wh)) (hl : wh.length = H)
    (hv : ∀ (h : Nat) (x : Int), wh[h]? = some x → x = -1 ∨ ∃ i : Nat, x = i ∧ i < n) :
    Calls Try.prog 90 #[.pointer (some ⟨bp, 0, none⟩)] w fun e w' => (∃ D c, e = .returned (.slice D H c) ∧ Ints w' D H (famL xs wh)) ∧ Below w.heap.size w w' := by
  have HM := Lib.hid hmp
  have HB := Lib.hid hbw
  have HL := Lib.hid hl
  have HV := Lib.hid hv
  have p2 := hmp.h2
  clear hmp hbw hl hv
  go_enter Try.func90, Try.ntmps90
  go_wp2_with fail
  go_loopw [3, 11] (fun v i wr => ∃ k : Nat, i = .int .i64 k ∧ k ≤ H ∧ Below w.heap.size w wr ∧ Own wr w.heap.size v ((famL xs wh).take k)) (fun _ i _ => H - (intOf i).toNat)
  case atStart => exact ⟨0, rfl, Nat.zero_le _, Below.refl _ _, Own.nil _ _⟩
  case round =>
    obtain ⟨k, rfl, hk, hg, ho⟩ := hrel
    have HG := Lib.hid hg
    have HO := Lib.hid ho
    have hsz := hg.size
    by_cases hkH : k < H
    · obtain ⟨x, hx⟩ : ∃ x, wh[k]? = some x := ⟨_, List.getElem?_eq_getElem (by rw [HL.out]; exact hkH)⟩
      have b0 := (HB.out.ext hg).cell k
      rw [vals_get, hx] at b0
      have HLe : (List.take k (famL xs wh)).length < 100000 := by rw [List.length_take]; omega
      have HS := famL_snoc xs hx
      rcases HV.out k x hx with rfl | ⟨i, rfl, hin⟩
      · have HSN := Lib.hid (show (famL xs wh).take (k + 1) = (famL xs wh).take k ++ [0] from HS)
        clear hg ho hx HS
        go_wp2_with (first | (at_builtin; refine push_int rfl _ _ rfl w.heap.size _ ((famL xs wh).take k) rfl (HO.out.ext (one_more _ _)) _ _ _ _ rfl rfl (cell_new1 _ _ _ _ rfl) HLe (by simp; omega) ?_; intro v' w' ho hbw))
        all_goals
          go_roundw
          case rel => exact ⟨k + 1, by go_num, by omega, HG.out.trans (((one_more wr _).mono hsz).trans (hbw _ (Nat.le_refl _))), by rw [HSN.out]; exact ho⟩
          case measure => simp [intOf]; omega
      · obtain ⟨ab, ao, y, rfl, -, hy, hyc⟩ := comer_at HM.out.arr hin
        have q1 := (HM.out.ext hg).h1
        have y0 := (hyc wr hg).1
        have HSN := Lib.hid (show (famL xs wh).take (k + 1) = (famL xs wh).take k ++ [y.family] by
          rw [HS, if_neg (by omega), show ((i : Int)).toNat = i from rfl, List.getD_eq_getElem?_getD, hy]; rfl)
        have hne : ((i : Int) == -1) = false := beq_eq_false_iff_ne.2 (by omega)
        clear hg ho hx HS hy hyc
        go_wp2_with (first | (at_builtin; refine push_int rfl _ _ rfl w.heap.size _ ((famL xs wh).take k) rfl (HO.out.ext (one_more _ _)) _ _ _ _ rfl rfl (cell_new1 _ _ _ _ rfl) HLe (by simp; omega) ?_; intro v' w' ho hbw))
        all_goals
          go_roundw
          case rel => exact ⟨k + 1, by go_num, by omega, HG.out.trans (((one_more wr _).mono hsz).trans (hbw _ (Nat.le_refl _))), by rw [HSN.out]; exact ho⟩
          case measure => simp [intOf]; omega
    · obtain rfl : H = k := by omega
      have hfl : (famL xs wh).length = H := by unfold famL; rw [List.length_map]; exact HL.out
      have ht : (famL xs wh).take H = famL xs wh := List.take_of_length_le (by omega)
      obtain ⟨D, c, rfl, hi⟩ := ho.ints
      rw [ht, hfl] at hi
      have e : ((famL xs wh).take H).length = H := by rw [ht, hfl]
      have HI := Lib.hid hi
      have E := Lib.hid e
      clear hg ho hi hfl ht e
      go_wp2_with fail
      go_ret
      exact ⟨⟨D, c, by rw [E.out]; rfl, HI.out⟩, HG.out⟩

theorem ServePost.yes {bw left : Nat} {H : Nat} {xs : List Comer} {d : List Int} {W W' : World} {e : Ending} (h : ServePost bw xs.length H left xs d W e W') (hd : d.length = xs.length) (hp : ∀ x ∈ d, 0 ≤ x)
    (hl : ∀ b, left.testBit b = (decide (b < H) && decide ((b : Int) ≠ -1))) (hf : fea xs H (-1) d = true) :
    Fix bw bw W W' ∧ ∃ wh, e = .returned (.tuple #[.int .i64 0, .bool true]) ∧ Blk W' bw 3 (vals wh) ∧ Asg xs.length H (can xs (-1)) wh ∧ ∀ j, j < xs.length → (wh.count (j : Int) : Int) = d.getD j 0 := by
  obtain ⟨h1, wh, hb, ha, hc⟩ := h
  have ha2 : Asg xs.length H (can xs (-1)) wh := ha.adj_mono fun i k _ hk _ hh => by rw [← adj_can hl i k hk]; exact hh
  rcases hc with ⟨rfl, hc⟩ | ⟨c, s, rfl, hcn, hs, hle, hlt⟩
  · refine ⟨h1, wh, rfl, hb, ha2, fun j hj => ?_⟩
    have := hc j hj
    have h0 : 0 ≤ d.getD j 0 := by
      rw [List.getD_eq_getElem?_getD, List.getElem?_eq_getElem (by omega)]; exact hp _ (List.getElem_mem _)
    omega
  · exfalso
    have hF := hs.no ha (d := fun i => d.getD i 0) (fun i hi => by have := hle i hi; omega) hcn (by omega)
    exact hF (((fea_iff hd).1 hf).congr fun i k _ hk => (adj_can hl i k hk).symm)

/-- What Share hands back: a sharing that the check takes. -/
def SharePost (xs : List Comer) (h : Int) (w : World) (e : Ending) (w' : World) : Prop :=
  Below w.heap.size w w' ∧ ∃ D c L, e = .returned (.tuple #[.slice D L.length c, .int .i64 (err (okMill h xs) 52)]) ∧ Ints w' D L.length L ∧ L.length ≤ 24 ∧ (okMill h xs = false → L = []) ∧ (okMill h xs = true → (L.length : Int) = h ∧ gotK xs L L.length = some (turnsS xs h.toNat))

set_option maxRecDepth 100000 in
set_option maxHeartbeats 4000000 in
theorem Share_any (A : Option Addr) (n cc : Nat) (h : Int) (xs : List Comer) (w : World) (ha : Arr ccells 3 w A n xs) (hnc : n ≤ cc) (hn : n ≤ 9223372036854775807) :
    Calls Try.prog 40 #[mv A n cc h] w (SharePost xs h w) := by
  have HA := Lib.hid ha
  have hlen := Lib.hid ha.1
  clear ha
  obtain ⟨ok, hok⟩ : ∃ ok, okMill h xs = ok := ⟨_, rfl⟩
  have HOK := Lib.hid hok
  clear hok
  unfold mv
  go_enter Try.func40, Try.ntmps40
  go_wp2_with fail
  obtain ⟨W1, hW1, g1, -, b1⟩ := box24 w h A n cc
  rw [hW1]
  clear hW1
  refine (check_any h A n cc xs W1 (HA.out.below g1) hnc hn).mono ?_
  rintro e W2 ⟨rfl, hg2⟩
  rw [HOK.out]
  have b2 := b1.ext hg2
  have g2 := g1.trans (hg2.mono g1.size)
  have m0 := b2.cell 0
  have m1 := b2.cell 1
  have B2 := Lib.hid b2
  have G2 := Lib.hid g2
  clear g1 b1 hg2 g2 b2
  cases ok with
  | false =>
    rw [show err false 52 = 52 from rfl]
    go_wp2_with fail
    go_ret2
    exact ⟨G2.out, none, 0, [], by rw [HOK.out]; rfl, Arr.nil_, by simp, fun _ => rfl, fun h => by rw [HOK.out] at h; cases h⟩
  | true =>
    rw [show err true 52 = 0 from rfl]
    have ok := (okMill_iff h xs).1 HOK.out
    obtain ⟨H, rfl⟩ : ∃ H : Nat, h = H := ⟨h.toNat, by have := ok.h0; omega⟩
    have hH : H ≤ 24 := by have := ok.h24; omega
    have hn12 : n ≤ 12 := by have := ok.n12; have := hlen.out; omega
    have HX := Lib.hid ok.hrs
    have HOO := Lib.hid ok
    obtain rfl : xs.length = n := hlen.out
    have T1 := open_any A xs.length cc H xs (-1) W2 (HA.out.below G2.out) hH (by omega) (by omega)
    unfold mv at T1
    have HT1 := Lib.hid T1
    clear T1 ok
    go_wp2_with fail
    refine HT1.out.mono ?_
    rintro e W3 ⟨bp, bw, left, rfl, hmp, hbw, hleft, hbits, hbwl, g3⟩
    have q0 := (B2.out.ext g3).cell 0
    have q1 := (B2.out.ext g3).cell 1
    have G3 := Lib.hid (G2.out.trans (g3.mono G2.out.size))
    have HMP := Lib.hid hmp
    have HBW := Lib.hid hbw
    have HBITS := Lib.hid hbits
    have hbw3 := hbw.lt
    have HG23 := Lib.hid g3.size
    clear hmp hbw hbits g3 m0 m1 HT1
    have T2 := turns_any A xs.length cc H xs W3 (HA.out.below G3.out) HX.out hH hn12
    unfold mv at T2
    have HT2 := Lib.hid T2
    clear T2
    go_wp2_with fail
    refine HT2.out.mono ?_
    rintro e W4 ⟨⟨bd, rfl, hbd, hbd4⟩, g4⟩
    have G4 := Lib.hid (G3.out.trans (g4.mono G3.out.size))
    have hz4 := g4.size
    have HMP4 := Lib.hid (HMP.out.ext g4)
    have HBW4 := Lib.hid (HBW.out.ext g4)
    have hdl := turns_len xs H
    have HD4 := Lib.hid (hbd4.intsN hdl)
    clear g4 hbd4 q0 q1 HT2
    have T3 := serve_any bp bw xs.length cc H left xs.length A (some ⟨bd, 0, none⟩) xs (turnsS xs H) W4 HMP4.out HX.out hH hleft hn12 HBW4.out HD4.out (fun b o e _ => by cases e; omega) (fun x hx => by
      obtain ⟨i, hi, rfl⟩ := List.getElem_of_mem hx
      have := (turns_bd xs H (j := i) (by omega)).2
      rw [List.getD_eq_getElem?_getD, List.getElem?_eq_getElem hi] at this
      simp at this
      omega)
    have HT3 := Lib.hid T3
    have HDL := Lib.hid hdl
    clear T3 hdl
    go_wp2_with fail
    refine HT3.out.mono ?_
    rintro e W5 hsp
    obtain ⟨f5, wh, rfl, hb5, ha5, hc5⟩ := hsp.yes HDL.out (fun x hx => by
      obtain ⟨i, hi, rfl⟩ := List.getElem_of_mem hx
      have := (turns_bd xs H (j := i) (by rw [← HDL.out]; exact hi)).1
      rw [List.getD_eq_getElem?_getD, List.getElem?_eq_getElem hi] at this
      simpa using this) HBITS.out (turns_fea xs H)
    have HMP5 := Lib.hid (HMP4.out.fix f5)
    have G5 := Lib.hid (Fix.calm G4.out f5 (by have := G2.out.size; omega))
    have T4 := families_any bp bw xs.length cc H left A xs wh W5 HMP5.out hH hb5 ha5.len (fun k x hx => (ha5.ok k x hx).imp id (fun ⟨i, e, hi, _⟩ => ⟨i, e, hi⟩))
    have HT4 := Lib.hid T4
    have HA5 := Lib.hid ha5
    have HC5 := Lib.hid hc5
    clear T4 hsp f5 hb5 ha5 hc5 HT3
    go_wp2_with fail
    refine HT4.out.mono ?_
    rintro e W6 ⟨⟨D, c, rfl, hi⟩, g6⟩
    have HI := Lib.hid hi
    have G6 := Lib.hid (G5.out.trans (g6.mono G5.out.size))
    clear hi g6 HT4
    go_wp2_with fail
    go_ret2
    have hfl : (famL xs wh).length = H := by unfold famL; rw [List.length_map]; exact HA5.out.len
    refine ⟨G6.out, D, c, famL xs wh, by rw [hfl, HOK.out]; rfl, by rw [hfl]; exact HI.out, by omega, fun h => (by rw [HOK.out] at h; cases h), fun _ => ⟨by rw [hfl], ?_⟩⟩
    rw [hfl, gotK_of HOO.out HA5.out (fun k hk => ?_) H (Nat.le_refl _), List.take_of_length_le (by rw [HA5.out.len]; exact Nat.le_refl _)]
    · rw [cnt_eq HDL.out HC5.out]; rfl
    · have hkw : k < wh.length := by rw [HA5.out.len]; exact hk
      unfold famL
      rw [List.getD_eq_getElem?_getD, List.getElem?_map, List.getElem?_eq_getElem hkw, List.getD_eq_getElem?_getD, List.getElem?_eq_getElem hkw]
      rfl
end Go.Proofs.Ytdhhneflhmkonaa
