/- The law MillFair. -/
import Derived.Test.YtdhhneflhmkonaaN6
import Derived.Test.YtdhhneflhmkonaaM2
import Derived.Test.YtdhhneflhmkonaaH1
import Derived.Test.YtdhhneflhmkonaaL13
import Derived.Test.YtdhhneflhmkonaaVH
import Derived.Test.YtdhhneflhmkonaaVC
import Derived.Test.YtdhhneflhmkonaaVB
import Derived.Test.YtdhhneflhmkonaaV9
import Derived.Test.YtdhhneflhmkonaaKE
namespace Go.Proofs.Ytdhhneflhmkonaa
open Go.RowKit Go.Shelf

/-- What the next level would ask, of the first k comers. -/
def nxt (xs : List Comer) (v : Int) (n k : Nat) : List Int := (capped xs v).take k ++ List.replicate (n - k) 0
theorem nxt_len {xs : List Comer} {v : Int} {n k : Nat} (hl : xs.length = n) (hk : k ≤ n) : (nxt xs v n k).length = n := by
  unfold nxt; rw [List.length_append, List.length_take, List.length_replicate, capped_len]; omega
theorem nxt_set {xs : List Comer} {v : Int} {n k : Nat} (hl : xs.length = n) (hk : k < n) : (nxt xs v n k).set k (min v (xs.getD k ⟨0, 0, 0⟩).wants) = nxt xs v n (k + 1) := by
  have hc := capped_at xs v (show k < xs.length by omega)
  have hcl := capped_len xs v
  apply List.ext_getElem?
  intro j
  unfold nxt
  rw [List.getElem?_set, List.length_append, List.length_take, List.length_replicate, hcl, hl]
  by_cases e : k = j
  · subst e
    rw [if_pos rfl, if_pos (by omega), List.getElem?_append_left (by rw [List.length_take, hcl]; omega), List.getElem?_take_of_lt (by omega), List.getElem?_eq_getElem (by omega)]
    rw [← hc, List.getD_eq_getElem?_getD, List.getElem?_eq_getElem (by omega)]; rfl
  · rw [if_neg e]
    by_cases h1 : j < k
    · rw [List.getElem?_append_left (by rw [List.length_take, hcl]; omega), List.getElem?_append_left (by rw [List.length_take, hcl]; omega), List.getElem?_take_of_lt h1, List.getElem?_take_of_lt (by omega)]
    · rw [List.getElem?_append_right (by rw [List.length_take, hcl]; omega), List.getElem?_append_right (by rw [List.length_take, hcl]; omega), List.length_take, List.length_take, hcl, List.getElem?_replicate, List.getElem?_replicate]
      by_cases h2 : j < n
      · rw [if_pos (by omega), if_pos (by omega)]
      · rw [if_neg (by omega), if_neg (by omega)]
theorem nxt_end {xs : List Comer} {v : Int} {n : Nat} (hl : xs.length = n) : nxt xs v n n = capped xs v := by
  unfold nxt
  rw [Nat.sub_self, List.replicate_zero, List.append_nil, List.take_of_length_le (by rw [capped_len]; omega)]

set_option maxRecDepth 100000 in
set_option maxHeartbeats 8000000 in
theorem law9_any (n : Int) (A T : Option Addr) (m c mt ct : Nat) (l : List Pr) (ts : List Int) (w : World) (ha : Arr pcells 2 w A m l) (hm : m ≤ 9223372036854775807) (ht : Ints w T mt ts) (hmt : mt ≤ 9223372036854775807) :
    Calls Try.prog 9 #[.int .i64 n, .slice A m c, .slice T mt ct] w fun e w' => e = .returned (.bool true) ∧ Below w.heap.size w w' := by
  have HT := Lib.hid ht
  have htl := Lib.hid ht.1
  have HOK := Lib.hid (made_ok n l)
  have hHle := madeH_le n
  have hx6 := made_len n l
  have T33 := made_any n A m c l w ha hm
  generalize madeX n l = xs at HOK T33 hx6
  generalize madeH n = H at HOK hHle T33
  unfold NewMill mv at T33
  have HT33 := Lib.hid T33
  clear ha T33 ht
  obtain ⟨len, hlen⟩ : ∃ len, xs.length = len := ⟨_, rfl⟩
  rw [hlen] at HT33 hx6
  have HLEN := Lib.hid hlen
  clear hlen
  have hmk := fun w => run_make_row' (P := Try.prog) 28 3 (.int .i64 0) 8 (by kernel_rfl) (by kernel_rfl) (by simp [Value.cells]) .i64 .i64 len (by omega) (by omega) w
  go_enter Try.func9, Try.ntmps9
  go_upto_region 2 with (go_at_call 33; (with_reducible refine HT33.out.mono ?_); rintro e W2 ⟨g2, B, cb, rfl, hcb, hcm, hb2, -⟩; have G2 := Lib.hid g2; have HB2 := Lib.hid hb2; clear g2 hb2)
  obtain ⟨W3, hW3, g3, -, b3⟩ := box24 W2 (H : Int) B len cb
  rw [hW3]
  obtain ⟨bm, hbm⟩ : ∃ bm, W2.heap.size = bm := ⟨_, rfl⟩
  rw [hbm] at b3 ⊢
  have G3 := Lib.hid (G2.out.trans (g3.mono G2.out.size))
  have HB3 := Lib.hid (HB2.out.below g3)
  have M3 := Lib.hid b3
  have m0 := b3.cell 0
  have m1 := b3.cell 1
  clear hW3 g3 b3 hbm
  have okm := (okMill_iff _ _).2 HOK.out
  have hdl : (turnsS xs H).length = len := (turns_len xs H).trans HLEN.out
  have HT40 := Lib.hid (fun W (g : Below W3.heap.size W3 W) => (show Calls Try.prog 40 #[mv B len cb (H : Int)] W fun e w' => Below W.heap.size W w' ∧ ∃ D c L, e = .returned (.tuple #[.slice D H c, .int .i64 0]) ∧ Ints w' D H L ∧ gotK xs L H = some (turnsS xs H) by
    refine (Share_any B len cb (H : Int) xs W (HB3.out.below g) hcb (by omega)).mono ?_
    rintro e w' ⟨k1, D, c, L, rfl, k2, -, -, k3⟩
    obtain ⟨k4, k5⟩ := k3 okm
    have k6 : L.length = H := by omega
    rw [k6] at k2 k5 ⊢
    rw [okm]
    exact ⟨k1, D, c, L, rfl, k2, k5⟩))
  have HT35 := Lib.hid (fun W (g : Below W3.heap.size W3 W) => (show Calls Try.prog 35 #[mv B len cb (H : Int)] W fun e w' => e = .returned (.tuple #[.int .i64 ((lev xs H 24 0 : Nat) : Int), .int .i64 0]) ∧ Below W.heap.size W w' by
    have := Level_any B len cb (H : Int) xs W (HB3.out.below g) hcb (by omega)
    unfold levS at this
    rw [okm] at this
    exact this))
  have HT36 := Lib.hid (fun W (g : Below W3.heap.size W3 W) => (show Calls Try.prog 36 #[mv B len cb (H : Int)] W fun e w' => (∃ D c, e = .returned (.tuple #[.slice D len c, .int .i64 0]) ∧ Ints w' D len (turnsS xs H)) ∧ Below W.heap.size W w' by
    have := Hours_any B len cb (H : Int) xs W (HB3.out.below g) hcb (by omega)
    rw [okm, show hoursS xs (H : Int) = turnsS xs H by unfold hoursS; rw [okm]; rfl, hdl] at this
    exact this))
  have HT41 := Lib.hid (fun W (g : Below W3.heap.size W3 W) D cd L (hd : Ints W D H L) (hg : gotK xs L H = some (turnsS xs H)) => (show Calls Try.prog 41 #[mv B len cb (H : Int), .slice D H cd] W fun e w' => e = .returned (.int .i64 0) ∧ Below W.heap.size W w' by
    have := CheckShare_any B D len cb H cd (H : Int) xs L W (HB3.out.below g) hcb hd (by omega) (by omega)
    unfold shareE at this
    rw [if_pos okm, if_pos (by rw [hd.1]; exact ⟨rfl, hg⟩)] at this
    exact this))
  have HT44 := Lib.hid (fun W (g : Below W3.heap.size W3 W) (hd : Ints W T mt ts) => had_any B T len cb mt ct H xs ts W (HB3.out.below g) HOK.out hd hmt)
  have HT45 := Lib.hid (fun W (g : Below W3.heap.size W3 W) D cd L (hd : Ints W D len L) => Serves_any B D len cb len cd (H : Int) xs L W (HB3.out.below g) hcb hd (by omega) (by omega))
  have HLV := Lib.hid (fun i (hi : i < len) => turns_level (xs := xs) (H := H) (fun j hj => (HOK.out.wants_ge hj).1) (j := i) (by rw [HLEN.out]; exact hi))
  have HWN := Lib.hid (fun i (hi : i < len) => turns_wants (xs := xs) (H := H) (fun j hj => (HOK.out.wants_ge hj).1) (j := i) (by rw [HLEN.out]; exact hi))
  have HBD := Lib.hid (fun i (hi : i < len) => turns_bd xs H (j := i) (by rw [HLEN.out]; exact hi))
  have HWB := Lib.hid (fun i (hi : i < len) => HOK.out.wants_ge (i := i) (by rw [HLEN.out]; exact hi))
  have HGC := Lib.hid (fun (s g : List Int) (hs : s.length = H) (hg : gotK xs s H = some g) i (hi : i < len) => got_count HOK.out (s := s) (g := g) (by rw [hs]; exact hg) (i := i) (by rw [HLEN.out]; exact hi))
  have HFN := Lib.hid (fun (hl : lev xs H 24 0 < 24) => fair_next HOK.out hl)
  have HFR := Lib.hid (fun (s g : List Int) (hs : (s.length : Int) = H) (hg : gotK xs s s.length = some g) (hl : lev xs H 24 0 < 24) => fair_right HOK.out hs hg hl)
  have HFO := Lib.hid (fun i (hi : i < len) => fair_one HOK.out (i := i) (by rw [HLEN.out]; exact hi))
  have hlv24 := (level_spec xs H).1
  have HDL := Lib.hid hdl
  unfold mv at HT40 HT35 HT36 HT41 HT44 HT45
  generalize turnsS xs H = due at HT40 HT36 HT41 HLV HWN HBD HFO HDL
  generalize lev xs H 24 0 = lv at HT35 HLV HFN HFR hlv24
  clear okm hdl
  have HMC := Lib.hid (fun W (gg : Below W3.heap.size W3 W) => (show W.cell? ⟨bm, 0, none⟩ = some (.int .i64 H) ∧ W.cell? ⟨bm, 1, none⟩ = some (.slice B len cb) from ⟨(M3.out.ext gg).cell 0, (M3.out.ext gg).cell 1⟩))
  go_upto_region 3 with (go_at_call 40; (with_reducible refine (HT40.out _ (Below.refl _ _)).mono ?_); rintro e W4 ⟨g4, D1, d1, L, rfl, hL4, hgk⟩; have G4 := Lib.hid g4; have L4 := Lib.hid hL4; have HGK := Lib.hid hgk; clear g4 hL4 hgk)
  clear m0 m1
  obtain ⟨m0, m1⟩ := HMC.out _ G4.out
  go_upto_region 4 with (go_at_call 35; (with_reducible refine (HT35.out _ G4.out).mono ?_); rintro e W5 ⟨rfl, g5⟩; have G5 := Lib.hid (G4.out.trans (g5.mono G4.out.size)); have L5 := Lib.hid (L4.out.below g5); clear g5)
  clear m0 m1
  obtain ⟨m0, m1⟩ := HMC.out _ G5.out
  go_upto_region 5 with (go_at_call 36; (with_reducible refine (HT36.out _ G5.out).mono ?_); rintro e W6 ⟨⟨D3, d3, rfl, hD⟩, g6⟩; have G6 := Lib.hid (G5.out.trans (g6.mono G5.out.size)); have L6 := Lib.hid (L5.out.below g6); have D6 := Lib.hid hD; clear g6 hD)
  clear m0 m1
  obtain ⟨m0, m1⟩ := HMC.out _ G6.out
  have HC41 := Lib.hid (HT41.out W6 G6.out D1 d1 L L6.out HGK.out)
  go_upto_region 8 with (go_at_call 41; (with_reducible refine HC41.out.mono ?_); rintro e W7 ⟨rfl, g7⟩; have G7 := Lib.hid (G6.out.trans (g7.mono G6.out.size)); have L7 := Lib.hid (L6.out.below g7); have D7 := Lib.hid (D6.out.below g7); clear g7)
  clear m0 m1
  go_upto_region 9 with fail
  obtain ⟨W8, hW8⟩ : ∃ W8, W7.alloc (.cells (madeCells #[.int .i64 0] len) 3) = W8 := ⟨_, rfl⟩
  have g8 : Below W7.heap.size W7 W8 := by rw [← hW8]; exact one_more _ _
  have b8 : Blk W8 W7.heap.size 3 (vals (nxt xs ((lv : Int) + 1) len 0)) := by
    rw [← hW8]
    have := Blk.new W7 3 (madeCells #[.int .i64 0] len)
    rw [made_vals] at this
    rw [show nxt xs ((lv : Int) + 1) len 0 = List.replicate len 0 by unfold nxt; simp, made_vals]
    exact this
  rw [hW8]
  have GT7 := Lib.hid (G3.out.trans (G7.out.mono G3.out.size))
  have HB7 := Lib.hid (HB3.out.below G7.out)
  have HT7 := Lib.hid (HT.out.below GT7.out)
  have M7 := Lib.hid (M3.out.ext G7.out)
  obtain ⟨bn, hbn⟩ : ∃ bn, W7.heap.size = bn := ⟨_, rfl⟩
  rw [hbn] at b8 ⊢
  have G8 := Lib.hid (show Below W7.heap.size W7 W8 from g8)
  have N8 := Lib.hid b8
  have HBN := Lib.hid hbn
  have HGL := Lib.hid (HGC.out L due L7.out.1 HGK.out)
  clear g8 b8 hW8 hbn hmk HT40 HT36 HT35 HT41 HC41 L6 L5 L4 D6
  go_wp2_with fail
  go_loopw [14, 16] (fun mo i wr => ∃ (i0 : Nat) (nb : Bool), i0 ≤ len ∧ i = .int .i64 i0 ∧ mo = .bool nb ∧ (nb = true ↔ ∀ j, j < i0 → min ((lv : Int) + 1) (xs.getD j ⟨0, 0, 0⟩).wants ≤ (ts.count (fam xs j) : Nat)) ∧ Below W7.heap.size W7 wr ∧ Blk wr bn 3 (vals (nxt xs ((lv : Int) + 1) len i0))) (fun _ i _ => len - (intOf i).toNat)
  case atStart => exact ⟨0, true, Nat.zero_le _, rfl, rfl, ⟨fun _ j hj => absurd hj (by omega), fun _ => rfl⟩, G8.out, N8.out⟩
  case round =>
    obtain ⟨i0, nb, hi, rfl, rfl, hnb, hg, hn⟩ := hrel
    obtain ⟨V, rfl⟩ : ∃ V : World, V = wr := ⟨_, rfl⟩
    have HG := Lib.hid hg
    have HN := Lib.hid hn
    have HNB := Lib.hid hnb
    clear hg hn hnb
    have m0 := (M7.out.ext HG.out).cell 0
    have m1 := (M7.out.ext HG.out).cell 1
    by_cases hil : i0 < len
    · obtain ⟨bc, oc, y, rfl, -, hy, hyc⟩ := comer_at (HB7.out.below HG.out) hil
      obtain ⟨y0, y1, y2⟩ := hyc _ (Below.refl _ _)
      have hyf : y.family = fam xs i0 := by unfold fam; rw [getD_of hy]
      have hyw : (xs.getD i0 ⟨0, 0, 0⟩).wants = y.wants := by rw [getD_of hy]
      have hlv := HLV.out i0 hil
      have hwn := HWN.out i0 hil
      have hbd := HBD.out i0 hil
      have hwb := HWB.out i0 hil
      have hgl := HGL.out i0 hil
      obtain ⟨bd, od, rfl, -, -, hd⟩ := ints_at D7.out hil
      obtain ⟨di, hdi⟩ : ∃ di, due.getD i0 0 = di := ⟨_, rfl⟩
      rw [hyw] at hlv hwn hwb
      rw [hdi] at hlv hwn hbd hgl hd
      obtain ⟨fi, hfi⟩ : ∃ fi, fam xs i0 = fi := ⟨_, rfl⟩
      obtain ⟨wv, hwv⟩ : ∃ wv, y.wants = wv := ⟨_, rfl⟩
      rw [hwv] at y2 hlv hwn hwb
      rw [hfi] at hyf hgl
      rw [hyf] at y0
      obtain ⟨hv, hhv⟩ : ∃ hv, y.hours = hv := ⟨_, rfl⟩
      rw [hhv] at y1
      have HC1 := Lib.hid (fun W (gg : Below W7.heap.size W7 W) => callsRet (lawHad_any D1 H d1 L fi W (L7.out.below gg) (by omega)) (show Value.int .i64 ((L.count fi : Nat) : Int) = .int .i64 di by rw [← hgl]))
      obtain ⟨cn, hcn⟩ : ∃ cn, ts.count fi = cn := ⟨_, rfl⟩
      have HC2 := Lib.hid (fun W (gg : Below W7.heap.size W7 W) => callsRet (lawHad_any T mt ct ts fi W (HT7.out.below gg) hmt) (show Value.int .i64 ((ts.count fi : Nat) : Int) = .int .i64 cn by rw [hcn]))
      have HST := Lib.hid (nxt_set (v := (lv : Int) + 1) HLEN.out hil)
      rw [hyw, hwv] at HST
      have HSTEP := Lib.hid (show (∀ j, j < i0 + 1 → min ((lv : Int) + 1) (xs.getD j ⟨0, 0, 0⟩).wants ≤ (ts.count (fam xs j) : Nat)) ↔ (∀ j, j < i0 → min ((lv : Int) + 1) (xs.getD j ⟨0, 0, 0⟩).wants ≤ (ts.count (fam xs j) : Nat)) ∧ min ((lv : Int) + 1) wv ≤ cn by
        constructor
        · intro h
          refine ⟨fun j hj => h j (by omega), ?_⟩
          have := h i0 (by omega)
          rw [hfi, hyw, hwv, hcn] at this
          exact this
        · rintro ⟨h1, h2⟩ j hj
          by_cases e : j = i0
          · subst e; rw [hfi, hyw, hwv, hcn]; exact h2
          · exact h1 j (by omega))
      have hnl := nxt_len (v := (lv : Int) + 1) HLEN.out hi
      clear hyc hy hyf hyw hdi hfi hwv hhv hgl hcn
      go_upto_region 13 with fail
      obtain ⟨V9, hV9⟩ : ∃ V9, V.alloc (.cells #[.int .i64 fi, .int .i64 hv, .int .i64 wv] 53) = V9 := ⟨_, rfl⟩
      have g9 : Below V.heap.size V V9 := by rw [← hV9]; exact one_more _ _
      have c9 : Blk V9 V.heap.size 53 #[.int .i64 fi, .int .i64 hv, .int .i64 wv] := by rw [← hV9]; exact Blk.new _ _ _
      rw [hV9]
      have hbx0 := HN.out.lt
      obtain ⟨bx, hbx⟩ : ∃ bx, V.heap.size = bx := ⟨_, rfl⟩
      rw [hbx] at c9 hbx0 ⊢
      have hbxn : bx ≠ bn := by omega
      have G9 := Lib.hid (HG.out.trans (g9.mono HG.out.size))
      have N9 := Lib.hid (HN.out.ext g9)
      have C9 := Lib.hid c9
      have HC3 := Lib.hid (fun x : Wd V9 => HC1.out x.val (G9.out.trans (x.ok.mono G9.out.size)))
      have c0 := cellW (c9.cell 0)
      have c2 := cellW (c9.cell 2)
      have d0 : ∀ x : Wd V9, x.val.cell? ⟨bd, od + i0, none⟩ = some (.int .i64 di) := fun x => hd x.val (G9.out.trans (x.ok.mono G9.out.size))
      have e0 : (di != di) = false := by simp
      have e1 : decide (wv < di) = false := decide_eq_false (by omega)
      clear hV9 g9 c9 hbx hd
      have e3 : decide (di < min (lv : Int) wv) = false := decide_eq_false (by omega)
      refine wp_region_calm V9 (by kernel_rfl) (by kernel_rfl) (Below.refl _ _) ?_
      repeat (go_big_quiet_step ((go_at_call 43; exact callsCalmSame (HC3.out _))))
      refine wpQuiet_nil ?_
      rintro _ ⟨z, rfl⟩
      have n0 := (N9.out.ext z.ok).frozen i0
      have n1 : z.val.cell? ⟨bn, i0, none⟩ = some (.int .i64 ((nxt xs ((lv : Int) + 1) len i0).getD i0 0)) := by rw [(N9.out.ext z.ok).cell, vals_get, List.getElem?_eq_getElem (by omega), List.getD_eq_getElem?_getD, List.getElem?_eq_getElem (by omega)]; rfl
      obtain ⟨nu, hnu⟩ : ∃ nu, (nxt xs ((lv : Int) + 1) len i0).getD i0 0 = nu := ⟨_, rfl⟩
      rw [hnu] at n1
      clear hnu
      go_upto_region 16 with fail
      obtain ⟨V11, hV11⟩ : ∃ V11, z.val.setCell ⟨bn, i0, none⟩ (.int .i64 (min ((lv : Int) + 1) wv)) = V11 := ⟨_, rfl⟩
      have g11 : Below W7.heap.size W7 V11 := by rw [← hV11]; exact (G9.out.trans (z.ok.mono G9.out.size)).setCell (p := ⟨bn, i0, none⟩) (by have := HBN.out; dsimp only; omega) _
      have b11 : Blk V11 bn 3 (vals (nxt xs ((lv : Int) + 1) len (i0 + 1))) := by
        have := (N9.out.ext z.ok).set_ i0 (.int .i64 (min ((lv : Int) + 1) wv))
        rw [vals_set, hV11, HST.out] at this
        exact this
      have c11 : Blk V11 bx 53 #[.int .i64 fi, .int .i64 hv, .int .i64 wv] := by rw [← hV11]; exact (C9.out.ext z.ok).far (p := ⟨bn, i0, none⟩) (by dsimp only; omega) _
      rw [hV11]
      clear hV11 n0 n1
      have G11 := Lib.hid g11
      have N11 := Lib.hid b11
      have HC4 := Lib.hid (fun x : Wd V11 => HC2.out x.val (G11.out.trans (x.ok.mono G11.out.size)))
      have c0 := cellW (c11.cell 0)
      have n2 : ∀ x : Wd V11, x.val.cell? ⟨bn, i0, none⟩ = some (.int .i64 (min ((lv : Int) + 1) wv)) := cellW (by rw [b11.cell, ← HST.out, vals_get, List.getElem?_set, if_pos rfl, if_pos (by omega)]; rfl)
      clear g11 b11 c11
      cases nb with
      | false =>
        have HREL := Lib.hid (show (false = true ↔ ∀ j, j < i0 + 1 → min ((lv : Int) + 1) (xs.getD j ⟨0, 0, 0⟩).wants ≤ (ts.count (fam xs j) : Nat)) from ⟨fun h => Bool.noConfusion h, fun h => HNB.out.2 (HSTEP.out.1 h).1⟩)
        go_wp2_with fail
        refine wp_region_calm V11 (by kernel_rfl) (by kernel_rfl) (Below.refl _ _) ?_
        repeat (go_big_quiet_step ((go_at_call 43; exact callsCalmSame (HC4.out _))))
        refine wpQuiet_nil ?_
        rintro _ ⟨z2, rfl⟩
        go_wp2_with fail
        go_roundw
        case rel => exact ⟨i0 + 1, false, by omega, by go_num, rfl, HREL.out, G11.out.trans (z2.ok.mono G11.out.size), N11.out.ext z2.ok⟩
        case measure => simp [intOf]; omega
      | true =>
        by_cases hge : (min ((lv : Int) + 1) wv : Int) ≤ cn
        · have e5 : decide ((min ((lv : Int) + 1) wv : Int) ≤ (cn : Int)) = true := decide_eq_true hge
          have HREL := Lib.hid (HSTEP.out.2 ⟨HNB.out.1 rfl, by omega⟩)
          clear hge
          go_wp2_with fail
          refine wp_region_calm V11 (by kernel_rfl) (by kernel_rfl) (Below.refl _ _) ?_
          repeat (go_big_quiet_step ((go_at_call 43; exact callsCalmSame (HC4.out _))))
          refine wpQuiet_nil ?_
          rintro _ ⟨z2, rfl⟩
          go_wp2_with fail
          go_roundw
          case rel => exact ⟨i0 + 1, true, by omega, by go_num, rfl, ⟨fun _ => HREL.out, fun _ => rfl⟩, G11.out.trans (z2.ok.mono G11.out.size), N11.out.ext z2.ok⟩
          case measure => simp [intOf]; omega
        · have e5 : decide ((min ((lv : Int) + 1) wv : Int) ≤ (cn : Int)) = false := decide_eq_false hge
          have HREL := Lib.hid (show (false = true ↔ ∀ j, j < i0 + 1 → min ((lv : Int) + 1) (xs.getD j ⟨0, 0, 0⟩).wants ≤ (ts.count (fam xs j) : Nat)) from ⟨fun h => Bool.noConfusion h, fun h => absurd (HSTEP.out.1 h).2 (by omega)⟩)
          clear hge
          go_wp2_with fail
          refine wp_region_calm V11 (by kernel_rfl) (by kernel_rfl) (Below.refl _ _) ?_
          repeat (go_big_quiet_step ((go_at_call 43; exact callsCalmSame (HC4.out _))))
          refine wpQuiet_nil ?_
          rintro _ ⟨z2, rfl⟩
          go_wp2_with fail
          go_roundw
          case rel => exact ⟨i0 + 1, false, by omega, by go_num, rfl, HREL.out, G11.out.trans (z2.ok.mono G11.out.size), N11.out.ext z2.ok⟩
          case measure => simp [intOf]; omega
    · obtain rfl : len = i0 := by omega
      have HNE := Lib.hid (show Blk V bn 3 (vals (capped xs ((lv : Int) + 1))) by rw [← nxt_end (v := (lv : Int) + 1) HLEN.out]; exact HN.out)
      have T44 := HT44.out V (G7.out.trans (HG.out.mono G7.out.size)) (HT7.out.below HG.out)
      unfold HadPost at T44
      have HC44 := Lib.hid T44
      clear T44
      go_upto_region 18 with (go_at_call 44; (with_reducible refine HC44.out.mono ?_); rintro e V2 ⟨g2, b2, out, okk, rfl, -, -, ho1, -⟩; have G2 := Lib.hid g2; have HO1 := Lib.hid ho1; clear g2 ho1)
      go_cut [151] from 144 to 151 (fun c wx => c = .bool false ∧ wx = V2)
      case first =>
        cases okk with
        | false =>
          go_wp2_with fail
          go_meet
          exact ⟨rfl, rfl⟩
        | true =>
          cases nb with
          | false =>
            go_wp2_with fail
            go_meet
            exact ⟨rfl, rfl⟩
          | true =>
            by_cases hl : lv < 24
            · exfalso
              obtain ⟨k1, k2⟩ := HO1.out rfl
              exact HFR.out ts out k1 k2 hl (fun i hi => HNB.out.1 rfl i (by rw [← HLEN.out]; exact hi))
            · have e1 : decide ((lv : Int) < 24) = false := decide_eq_false (by omega)
              have e2 : decide (lv < 24) = false := decide_eq_false hl
              go_wp2_with fail
              go_meet
              exact ⟨rfl, rfl⟩
      case rest =>
        obtain ⟨rfl, hwc⟩ := hcut
        obtain rfl := hwc.symm
        have GB := Lib.hid (HG.out.trans (G2.out.mono HG.out.size))
        have HNB2 := Lib.hid (show Ints V2 (some ⟨bn, 0, none⟩) len (capped xs ((lv : Int) + 1)) from (HNE.out.ext G2.out).intsN (by rw [capped_len]; exact HLEN.out))
        have m0 := (M7.out.ext GB.out).cell 0
        have m1 := (M7.out.ext GB.out).cell 1
        clear HNB HC44
        go_upto_region 20 with fail
        have T45 := fun W (gg : Below W7.heap.size W7 W) cd (hd : Ints W (some ⟨bn, 0, none⟩) len (capped xs ((lv : Int) + 1))) => HT45.out W (G7.out.trans (gg.mono G7.out.size)) (some ⟨bn, 0, none⟩) cd _ hd
        have HC45 := Lib.hid T45
        clear T45
        obtain ⟨lb, hlb⟩ : ∃ lb, decide (lv < 24) = lb := ⟨_, rfl⟩
        have e1 : decide ((lv : Int) < 24) = lb := by rw [← hlb]; exact decide_eq_decide.2 (by omega)
        have HLB := Lib.hid hlb
        go_upto_if 153 with fail
        clear e1 hlb
        go_cut [20, 21] from 154 to 165 (fun _ _ wx => Below V2.heap.size V2 wx)
        case first =>
          cases lb with
          | true =>
            have hl := of_decide_eq_true HLB.out
            have T := HC45.out V2 GB.out len HNB2.out
            rw [(HFN.out hl).1, (HFN.out hl).2] at T
            have HC := Lib.hid T
            clear T
            go_wp2_with (go_at_call 45; (with_reducible refine HC.out.mono ?_); rintro e V3 ⟨rfl, g3⟩; have G33 := Lib.hid g3; clear g3)
            go_meet
            exact G33.out
          | false =>
            go_wp2_with fail
            go_meet
            exact Below.refl _ _
        case rest =>
          rename World => V3
          have GC := Lib.hid (GB.out.trans (hcut.mono GB.out.size))
          have MC := Lib.hid (M7.out.ext GC.out)
          have HBC := Lib.hid (HB7.out.below GC.out)
          have DC := Lib.hid (D7.out.below GC.out)
          have HC45b := Lib.hid (fun W (gg : Below V3.heap.size V3 W) D cd i (hd : Ints W D len (due.set i (due.getD i 0 + 1))) (hi : i < len) (hw : due.getD i 0 < (xs.getD i ⟨0, 0, 0⟩).wants) => (show Calls Try.prog 45 #[.agg #[.int .i64 H, .slice B len cb], .slice D len cd] W fun e w' => e = .returned (.tuple #[.bool false, .int .i64 0]) ∧ Below W.heap.size W w' by
            have T := HT45.out W (G7.out.trans ((GC.out.trans (gg.mono GC.out.size)).mono G7.out.size)) D cd _ hd
            rw [(HFO.out i hi hw).1, (HFO.out i hi hw).2] at T
            exact T))
          clear hcut m0 m1 HC45
          have m0 := cellW (MC.out.cell 0)
          have m1 := cellW (MC.out.cell 1)
          go_wp2_with fail
          go_loopw [22] (fun i wr => ∃ i0 : Nat, i0 ≤ len ∧ i = .int .i64 i0 ∧ ∃ z : Wd V3, wr = z.val) (fun i _ => len - (intOf i).toNat)
          case atStart => exact ⟨0, Nat.zero_le _, rfl, Wd.self V3⟩
          case round =>
            obtain ⟨i0, hi, rfl, z, rfl⟩ := hrel
            by_cases hil : i0 < len
            · obtain ⟨bc, oc, y, rfl, -, hy, hyc⟩ := comer_at HBC.out hil
              have hyw : (xs.getD i0 ⟨0, 0, 0⟩).wants = y.wants := by rw [getD_of hy]
              obtain ⟨wv, hwv⟩ : ∃ wv, y.wants = wv := ⟨_, rfl⟩
              obtain ⟨bd, od, rfl, -, hmem, hd⟩ := ints_at DC.out hil
              obtain ⟨di, hdi⟩ : ∃ di, due.getD i0 0 = di := ⟨_, rfl⟩
              have hbd := HBD.out i0 hil
              rw [hdi] at hmem hbd
              have HC := Lib.hid (fun W (gg : Below V3.heap.size V3 W) D cd (hd : Ints W D len (due.set i0 (di + 1))) (hw : di < wv) => HC45b.out W gg D cd i0 (by rw [hdi]; exact hd) hil (by rw [hdi, hyw, hwv]; exact hw))
              have y2 : ∀ x : Wd V3, x.val.cell? ⟨bc, oc + i0 * 3 + 2, none⟩ = some (.int .i64 wv) := fun x => by have := (hyc x.val x.ok).2.2; rw [hwv] at this; exact this
              have d0 : ∀ x : Wd V3, x.val.cell? ⟨bd, od + i0, none⟩ = some (.int .i64 di) := fun x => by have := hd x.val x.ok; rw [hdi] at this; exact this
              have HMEM := Lib.hid hmem
              clear hy hyc hyw hwv hd hdi hmem
              by_cases hge : wv ≤ di
              · have e1 : decide (wv ≤ di) = true := decide_eq_true hge
                go_wp2_with fail
                refine wp_region_calm V3 (by kernel_rfl) (by kernel_rfl) z.ok ?_
                repeat (go_big_quiet_step (fail))
                refine wpQuiet_nil ?_
                rintro _ ⟨v, rfl⟩
                go_wp2_with fail
                go_roundw
                case rel => exact ⟨i0 + 1, by omega, by go_num, v, rfl⟩
                case measure => simp [intOf]; omega
              · have e1 : decide (wv ≤ di) = false := decide_eq_false hge
                go_wp2_with fail
                refine wp_region_calm V3 (by kernel_rfl) (by kernel_rfl) z.ok ?_
                repeat (go_big_quiet_step (fail))
                refine wpQuiet_nil ?_
                rintro _ ⟨v, rfl⟩
                have vok := Lib.hid v.ok
                obtain ⟨U, hU⟩ : ∃ U, v.val = U := ⟨_, rfl⟩
                rw [hU] at vok ⊢
                clear hU
                have O6 := Lib.hid (World.ownsRow_made (e := 3) (size := 1) U #[] 0 (Nat.le_refl _) (by decide) rfl : OwnL icells 1 3 (U.alloc (.cells #[] 3)) U.heap.size (.slice (some ⟨U.heap.size, 0, none⟩) 0 0) [])
                have I5 := Lib.hid ((DC.out.below vok.out).below (one_more U (.cells #[] 3)))
                have s5 := Lib.hid (one_more U (.cells #[] 3)).size
                have hl1 : ([] : List Int).length + len ≤ 1000000 := by simp; omega
                have hn0 : 0 < len := by omega
                go_upto_region 30 with (at_builtin; refine wpList_app kdInt rfl _ _ rfl U.heap.size (.slice (some ⟨U.heap.size, 0, none⟩) 0 0) [] rfl O6.out (some ⟨bd, od, none⟩) len d3 due rfl I5.out hl1 s5.out ?_; intro v6 w6 ho6 hg6 hat6; obtain ⟨g, c6, rfl, hgl, gb, hset⟩ := app_copy HDL.out hn0 ho6 hg6; obtain ⟨k1, k2, k3, k4⟩ := hset i0 di (di + 1) HMEM.out; have K3 := Lib.hid k3; have K4 := Lib.hid k4; clear ho6 hg6 hat6 gb hset k3 k4)
                obtain ⟨V5, hV5⟩ : ∃ V5, w6.setCell ⟨g, i0, none⟩ (.int .i64 (di + 1)) = V5 := ⟨_, rfl⟩
                rw [hV5] at K3 K4 ⊢
                have GV := Lib.hid (vok.out.trans (K3.out.mono vok.out.size))
                have m2 := (MC.out.ext GV.out).cell 0
                have m3 := (MC.out.ext GV.out).cell 1
                have HCC := Lib.hid (HC.out V5 GV.out (some ⟨g, 0, none⟩) c6 K4.out (by omega))
                clear hV5 k1 k2 O6 I5
                go_wp2_with (go_at_call 45; (with_reducible refine HCC.out.mono ?_); rintro e V6 ⟨rfl, g6⟩; have GG := Lib.hid (GV.out.trans (g6.mono GV.out.size)); clear g6)
                go_roundw
                case rel => exact ⟨i0 + 1, by omega, by go_num, ⟨V6, GG.out⟩, rfl⟩
                case measure => simp [intOf]; omega
            · obtain rfl : len = i0 := by omega
              have HEND := Lib.hid (GT7.out.trans (GC.out.mono GT7.out.size))
              go_wp2_with (go_at_call 21; (with_reducible refine (sane_any _).mono ?_); rintro e w8 ⟨rfl, g8⟩; have G9 := Lib.hid (z.ok.trans (g8.mono z.ok.size)); clear g8)
              go_ret
              exact ⟨rfl, HEND.out.trans (G9.out.mono HEND.out.size)⟩
end Go.Proofs.Ytdhhneflhmkonaa
