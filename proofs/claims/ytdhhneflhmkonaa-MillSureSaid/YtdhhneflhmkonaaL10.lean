/- The law MillSure. -/
import Derived.Test.YtdhhneflhmkonaaN6
import Derived.Test.YtdhhneflhmkonaaM2
import Derived.Test.YtdhhneflhmkonaaM3
import Derived.Test.YtdhhneflhmkonaaVH
import Derived.Test.YtdhhneflhmkonaaVC
import Derived.Test.YtdhhneflhmkonaaKE
namespace Go.Proofs.Ytdhhneflhmkonaa
open Go.RowKit Go.Shelf

/-- A list that was copied onto a new, empty one. -/
theorem app_new {V w6 : World} {v6 : Value} {l : List Int} {n : Nat} (hl : l.length = n) (ho : OwnL icells 1 3 w6 V.heap.size v6 ([] ++ l))
    (hg : (V.alloc (.cells #[] 3)).grownBy w6 (Value.slice (some ⟨V.heap.size, 0, none⟩) 0 0).ownBlock) :
    ∃ A c6, v6 = .slice A n c6 ∧ Below V.heap.size V w6 ∧ Own w6 V.heap.size (.slice A n c6) l ∧ Ints w6 A n l := by
  have o5 : OwnL icells 1 3 (V.alloc (.cells #[] 3)) V.heap.size (.slice (some ⟨V.heap.size, 0, none⟩) 0 0) [] := World.ownsRow_made (e := 3) (size := 1) V #[] 0 (Nat.le_refl _) (by decide) rfl
  have g5 : Below V.heap.size V (V.alloc (.cells #[] 3)) := one_more _ _
  have hb : Below V.heap.size V w6 := g5.trans (o5.below hg (Nat.le_refl _) g5.size)
  rw [List.nil_append] at ho
  have ho := ho.ints
  obtain ⟨A, c, rfl, h1⟩ := ho.ints
  rw [hl] at h1 ho
  exact ⟨A, c, by rw [hl], hb, ho, h1⟩
/-- Two elements change. -/
theorem Own.two {w : World} {base H c : Nat} {A : Option Addr} {l : List Int} (hl : l.length = H) (h : Own w base (.slice A H c) l) {a b : Nat} (ha : a < H) (hb : b < H) (y z : Int) :
    ∃ g, A = some ⟨g, 0, none⟩ ∧ base ≤ g ∧ w.frozen? ⟨g, a, none⟩ = false ∧ (w.setCell ⟨g, a, none⟩ (.int .i64 y)).frozen? ⟨g, b, none⟩ = false ∧ w.frozen? ⟨g, b, none⟩ = false ∧ (w.setCell ⟨g, a, none⟩ (.int .i64 y)).cell? ⟨g, b, none⟩ = some (.int .i64 ((l.set a y).getD b 0)) ∧
      w.cell? ⟨g, a, none⟩ = some (.int .i64 (l.getD a 0)) ∧ w.cell? ⟨g, b, none⟩ = some (.int .i64 (l.getD b 0)) ∧
      Ints ((w.setCell ⟨g, a, none⟩ (.int .i64 y)).setCell ⟨g, b, none⟩ (.int .i64 z)) (some ⟨g, 0, none⟩) H ((l.set a y).set b z) ∧
      ∀ V : World, Below V.heap.size V w → V.heap.size ≤ base → Below V.heap.size V ((w.setCell ⟨g, a, none⟩ (.int .i64 y)).setCell ⟨g, b, none⟩ (.int .i64 z)) := by
  subst hl
  obtain ⟨g, c', e, h1, h2, h3⟩ := h.get (by omega)
  cases e
  obtain ⟨o1, f1⟩ := h.set a ha y
  obtain ⟨-, f3⟩ := h.set b hb y
  rw [show l.length = (l.set a y).length by rw [List.length_set]] at o1
  have o1' := o1
  obtain ⟨o2, f2⟩ := o1.set b (by rw [List.length_set]; exact hb) z
  obtain ⟨A', c', e, hI⟩ := o2.ints
  simp only [List.length_set] at e hI
  obtain ⟨rfl, -, rfl⟩ := Value.slice.inj e
  obtain ⟨A'', c'', e, hJ⟩ := h.ints
  obtain ⟨rfl, -, rfl⟩ := Value.slice.inj e
  obtain ⟨b1, p1, e1, -, -, q1⟩ := ints_at hJ ha
  cases e1
  obtain ⟨b2, p2, e2, -, -, q2⟩ := ints_at hJ hb
  cases e2
  obtain ⟨A4, c4, e, hK⟩ := o1'.ints
  obtain ⟨rfl, -, rfl⟩ := Value.slice.inj e
  obtain ⟨b3, p3, e3, -, -, q3⟩ := ints_at hK (show b < (l.set a y).length by rw [List.length_set]; exact hb)
  cases e3
  have q3 := q3 _ (Below.refl _ _)
  rw [Nat.zero_add] at q3
  have q1 := q1 _ (Below.refl _ _)
  have q2 := q2 _ (Below.refl _ _)
  rw [Nat.zero_add] at q1 q2
  refine ⟨_, rfl, h1, f1, f2, f3, q3, q1, q2, ?_, fun V hV hle => (hV.setCell (p := ⟨_, a, none⟩) (by dsimp only; omega) _).setCell (p := ⟨_, b, none⟩) (by dsimp only; omega) _⟩
  simpa using hI

/-- The first j comers cannot come at hour b. -/
def barK (xs : List Comer) (b j : Nat) : List Comer := (barL xs b).take j ++ xs.drop j
theorem barK_len (xs : List Comer) (b j : Nat) : (barK xs b j).length = xs.length := by
  unfold barK; rw [List.length_append, List.length_take, List.length_drop, barL_len]; omega
theorem barK_end {xs : List Comer} {b j : Nat} (h : xs.length ≤ j) : barK xs b j = barL xs b := by
  unfold barK; rw [List.drop_eq_nil_of_le h, List.append_nil, List.take_of_length_le (by rw [barL_len]; exact h)]
theorem barK_at {xs : List Comer} {b j : Nat} (h : j < xs.length) : (barK xs b j)[j]? = xs[j]? := by
  unfold barK
  rw [List.getElem?_append_right (by rw [List.length_take, barL_len]; omega), List.length_take, barL_len, List.getElem?_drop]
  congr 1; omega
theorem barK_step {xs : List Comer} {b j : Nat} {x : Comer} (hx : xs[j]? = some x) : (barK xs b j).set j { x with hours := ((x.hours.toNat ^^^ (x.hours.toNat &&& 2 ^ b) : Nat) : Int) } = barK xs b (j + 1) := by
  have hj : j < xs.length := (List.getElem?_eq_some_iff.1 hx).1
  have hb : (barL xs b)[j]? = some { x with hours := ((x.hours.toNat ^^^ (x.hours.toNat &&& 2 ^ b) : Nat) : Int) } := by unfold barL; rw [List.getElem?_map, hx]; rfl
  have hd : xs.drop j = x :: xs.drop (j + 1) := by
    rw [List.drop_eq_getElem_cons hj]
    congr 1
    rw [List.getElem?_eq_getElem hj] at hx
    exact Option.some.inj hx
  unfold barK
  rw [hd, List.set_append_right _ _ (by rw [List.length_take, barL_len]; omega), List.length_take, barL_len, show j - min j xs.length = 0 by omega, List.set_cons_zero, List.take_add_one, hb]
  simp

set_option maxRecDepth 100000 in
set_option maxHeartbeats 8000000 in
theorem law10_any (n : Int) (A T : Option Addr) (m c mt ct : Nat) (l : List Pr) (ts : List Int) (w : World) (ha : Arr pcells 2 w A m l) (hm : m ≤ 9223372036854775807) (ht : Ints w T mt ts) (_hmt : mt ≤ 9223372036854775807) :
    Calls Try.prog 10 #[.int .i64 n, .slice A m c, .slice T mt ct] w fun e w' => e = .returned (.bool true) ∧ Below w.heap.size w w' := by
  have HT := Lib.hid ht
  have HOK := Lib.hid (made_ok n l)
  have hHle := madeH_le n
  have hx6 := made_len n l
  have T33 := made_any n A m c l w ha hm
  generalize madeX n l = xs at HOK T33 hx6
  generalize madeH n = H at HOK hHle T33
  unfold NewMill mv at T33
  have HT33 := Lib.hid T33
  clear ha T33 ht
  obtain ⟨len, hlen⟩ : ∃ len, xs.length = len := ⟨_, rfl⟩
  rw [hlen] at HT33 hx6
  have HLEN := Lib.hid hlen
  clear hlen
  go_enter Try.func10, Try.ntmps10
  go_upto_region 2 with (go_at_call 33; (with_reducible refine HT33.out.mono ?_); rintro e W2 ⟨g2, B, cb, rfl, hcb, hcm, hb2, -⟩; have G2 := Lib.hid g2; have HB2 := Lib.hid hb2; clear g2 hb2)
  obtain ⟨W3, hW3, g3, -, b3⟩ := box24 W2 (H : Int) B len cb
  rw [hW3]
  obtain ⟨bm, hbm⟩ : ∃ bm, W2.heap.size = bm := ⟨_, rfl⟩
  rw [hbm] at b3 ⊢
  have G3 := Lib.hid (G2.out.trans (g3.mono G2.out.size))
  have HB3 := Lib.hid (HB2.out.below g3)
  have M3 := Lib.hid b3
  have m0 := b3.cell 0
  have m1 := b3.cell 1
  clear hW3 g3 b3 hbm
  have okm := (okMill_iff _ _).2 HOK.out
  have hdl0 : (turnsS xs H).length = len := (turns_len xs H).trans HLEN.out
  have HT40 := Lib.hid (fun W (g : Below W3.heap.size W3 W) => (show Calls Try.prog 40 #[mv B len cb (H : Int)] W fun e w' => Below W.heap.size W w' ∧ ∃ D c L, e = .returned (.tuple #[.slice D H c, .int .i64 0]) ∧ Ints w' D H L ∧ gotK xs L H = some (turnsS xs H) by
    refine (Share_any B len cb (H : Int) xs W (HB3.out.below g) hcb (by omega)).mono ?_
    rintro e w' ⟨k1, D, c, L, rfl, k2, -, -, k3⟩
    obtain ⟨k4, k5⟩ := k3 okm
    have k6 : L.length = H := by omega
    rw [k6] at k2 k5 ⊢
    rw [okm]
    exact ⟨k1, D, c, L, rfl, k2, k5⟩))
  have HT36 := Lib.hid (fun W (g : Below W3.heap.size W3 W) => (show Calls Try.prog 36 #[mv B len cb (H : Int)] W fun e w' => (∃ D c, e = .returned (.tuple #[.slice D len c, .int .i64 0]) ∧ Ints w' D len (turnsS xs H)) ∧ Below W.heap.size W w' by
    have := Hours_any B len cb (H : Int) xs W (HB3.out.below g) hcb (by omega)
    rw [okm, show hoursS xs (H : Int) = turnsS xs H by unfold hoursS; rw [okm]; rfl, hdl0] at this
    exact this))
  have HT16 := Lib.hid (fun W (g : Below W3.heap.size W3 W) => (show Calls Try.prog 16 #[mv B len cb (H : Int)] W fun e w' => (∃ D c, e = .returned (.tuple #[.slice D (idleK xs H (turnsS xs H) H).length c, .int .i64 0]) ∧ Ints w' D (idleK xs H (turnsS xs H) H).length (idleK xs H (turnsS xs H) H)) ∧ Below W.heap.size W w' by
    have := Idle_any B len cb (H : Int) xs W (HB3.out.below g) hcb (by omega)
    rw [okm, show idleS xs (H : Int) = idleK xs H (turnsS xs H) H by unfold idleS; rw [okm]; rfl] at this
    exact this))
  have T14 := fun W (g : Below W3.heap.size W3 W) (i h : Nat) (hi : i < len) (hh : h < H) => Comes_any B len cb (H : Int) (fam xs i) (h : Int) xs W (HB3.out.below g) hcb (by omega) (by omega)
  have hce : ∀ i h : Nat, i < len → h < H → comesE xs (H : Int) (fam xs i) (h : Int) = 0 ∧ comesS xs (H : Int) (fam xs i) (h : Int) = comesV xs H i h (turnsS xs H) := fun i h hi hh => by
    have hix : idx xs (fam xs i) = i := idx_self HOK.out (by rw [HLEN.out]; exact hi)
    have e1 : comesE xs (H : Int) (fam xs i) (h : Int) = 0 := by
      unfold comesE
      rw [if_pos okm, hix, if_neg (by omega), if_pos]
      unfold rng
      simp only [Bool.and_eq_true, decide_eq_true_eq]
      omega
    refine ⟨e1, ?_⟩
    unfold comesS
    rw [if_pos e1, hix]
    rfl
  have HT14 := Lib.hid (fun W g (i h : Nat) hi hh => (show Calls Try.prog 14 #[mv B len cb (H : Int), .int .i64 (fam xs i), .int .i64 (h : Int)] W fun e w' => e = .returned (.tuple #[.int .i64 (comesV xs H i h (turnsS xs H)), .int .i64 0]) ∧ Below W.heap.size W w' by
    have := T14 W g i h hi hh
    rw [(hce i h hi hh).1, (hce i h hi hh).2] at this
    exact this))
  have T41 := fun W (g : Below W3.heap.size W3 W) D cd oth (hd : Ints W D H oth) => CheckShare_any B D len cb H cd (H : Int) xs oth W (HB3.out.below g) hcb hd (by omega) (by omega)
  have HSH := Lib.hid (fun (oth : List Int) (hl : oth.length = H) => (show (shareE xs (H : Int) oth = 0 → Took xs H oth) by
    intro h
    unfold shareE at h
    rw [if_pos okm] at h
    split at h
    · rename_i hq
      rw [hl] at hq
      exact ⟨hl, hq.2⟩
    · omega))
  have HTY := Lib.hid (fun oth (t : Took xs H oth) i h (hi : i < len) => took_yes HOK.out t (i := i) (b := h) (by rw [HLEN.out]; exact hi))
  have HTN := Lib.hid (fun oth (t : Took xs H oth) i h (hi : i < len) (hh : h < H) => took_no HOK.out t (i := i) (b := h) (by rw [HLEN.out]; exact hi) hh)
  have HTI := Lib.hid (fun oth (t : Took xs H oth) h (hh : h < H) => took_idle t (b := h) hh)
  have HBS := Lib.hid (fun (b : Nat) (hf : fea xs H b (turnsS xs H) = true) => bar_serves HOK.out (b := b) hf)
  have HTK := Lib.hid (fun oth (hl : oth.length = H) (hg : gotK xs oth H = some (turnsS xs H)) => (show Took xs H oth from ⟨hl, hg⟩))
  have HID := Lib.hid (fun x => (idle_mem (xs := xs) (H := H) (due := turnsS xs H) (x := x) H).1)
  have HIL := Lib.hid (idleK_len xs H (turnsS xs H) H)
  have HCV := Lib.hid (fun i h => (show comesV xs H i h (turnsS xs H) = 0 ∨ comesV xs H i h (turnsS xs H) = 1 ∨ comesV xs H i h (turnsS xs H) = 2 by
    unfold comesV
    split
    · exact .inl rfl
    · split
      · split
        · exact .inr (.inr rfl)
        · exact .inr (.inl rfl)
      · exact .inl rfl))
  have HT45 := Lib.hid (fun W (b : Nat) c9 A9 D cd (ha : Arr ccells 3 W A9 len (barL xs b)) (hc9 : len ≤ c9) (hd : Ints W D len (turnsS xs H)) (hf : fea xs H b (turnsS xs H) = true) => (show Calls Try.prog 45 #[mv A9 len c9 (H : Int), .slice D len cd] W fun e w' => e = .returned (.tuple #[.bool true, .int .i64 0]) ∧ Below W.heap.size W w' by
    have := Serves_any A9 D len c9 len cd (H : Int) (barL xs b) (turnsS xs H) W ha hc9 hd (by omega) (by omega)
    rw [(bar_serves HOK.out hf).1, (bar_serves HOK.out hf).2] at this
    exact this))
  have HT41 := Lib.hid T41
  unfold mv at HT40 HT16 HT36 HT41 HT14 HT45
  generalize hdu : turnsS xs H = due at HT40 HT36 HT14 HT16 HT45 HID HIL HCV HTY HTN HTI hdl0
  obtain ⟨il, hil⟩ : ∃ il, idleK xs H due H = il := ⟨_, rfl⟩
  rw [hil] at HID HIL HT16 HTI
  obtain ⟨li, hli⟩ : ∃ li, il.length = li := ⟨_, rfl⟩
  rw [hli] at HT16 HIL
  have hiH : li ≤ H := HIL.out
  have HLI := Lib.hid hli
  have HDU := Lib.hid hdu
  clear T14 T41 hce okm hdl0 hil hli hdu
  go_upto_region 3 with (go_at_call 40; (with_reducible refine (HT40.out _ (Below.refl _ _)).mono ?_); rintro e W4 ⟨g4, D1, d1, L, rfl, hL4, hgk⟩; have G4 := Lib.hid g4; have L4 := Lib.hid hL4; have HGK := Lib.hid hgk; clear g4 hL4 hgk)
  clear m0 m1
  have m0 := (M3.out.ext G4.out).cell 0
  have m1 := (M3.out.ext G4.out).cell 1
  go_upto_region 4 with (go_at_call 16; (with_reducible refine (HT16.out _ G4.out).mono ?_); rintro e W5 ⟨⟨D2, d2, rfl, hI⟩, g5⟩; have G5 := Lib.hid (G4.out.trans (g5.mono G4.out.size)); have L5 := Lib.hid (L4.out.below g5); have I5 := Lib.hid hI; clear g5 hI)
  clear m0 m1
  have m0 := (M3.out.ext G5.out).cell 0
  have m1 := (M3.out.ext G5.out).cell 1
  go_upto_region 5 with (go_at_call 36; (with_reducible refine (HT36.out _ G5.out).mono ?_); rintro e W6 ⟨⟨D3, d3, rfl, hD⟩, g6⟩; have G6 := Lib.hid (G5.out.trans (g6.mono G5.out.size)); have L6 := Lib.hid (L5.out.below g6); have I6 := Lib.hid (I5.out.below g6); have D6 := Lib.hid hD; clear g6 hD)
  clear m0 m1
  have m0 := (M3.out.ext G6.out).cell 0
  have m1 := (M3.out.ext G6.out).cell 1
  have O6 := Lib.hid (World.ownsRow_made (e := 3) (size := 1) W6 #[] 0 (Nat.le_refl _) (by decide) rfl : OwnL icells 1 3 (W6.alloc (.cells #[] 3)) W6.heap.size (.slice (some ⟨W6.heap.size, 0, none⟩) 0 0) [])
  have L6a := Lib.hid (L6.out.below (one_more W6 (.cells #[] 3)))
  have s6 := Lib.hid (one_more W6 (.cells #[] 3)).size
  have hl1 : ([] : List Int).length + H ≤ 1000000 := by simp; omega
  go_upto_region 8 with (at_builtin; refine wpList_app kdInt rfl _ _ rfl W6.heap.size (.slice (some ⟨W6.heap.size, 0, none⟩) 0 0) [] rfl O6.out D1 H d1 L rfl L6a.out hl1 s6.out ?_; intro v7 W7 ho7 hg7 hat7; obtain ⟨A7, c7, rfl, hb7, -, hi7⟩ := app_new L6a.out.1 ho7 hg7; have HB7 := Lib.hid hb7; have I7 := Lib.hid hi7; clear ho7 hg7 hat7 hb7 hi7)
  have HTK7 := Lib.hid (HTK.out L L6a.out.1 (by rw [HDU.out]; exact HGK.out))
  have G7 := Lib.hid (G6.out.trans (HB7.out.mono G6.out.size))
  have HMC := Lib.hid (fun W (gg : Below W7.heap.size W7 W) => (show W.cell? ⟨bm, 0, none⟩ = some (.int .i64 H) ∧ W.cell? ⟨bm, 1, none⟩ = some (.slice B len cb) from
    have g3 := G7.out.trans (gg.mono G7.out.size)
    ⟨(M3.out.ext g3).cell 0, (M3.out.ext g3).cell 1⟩))
  clear m0 m1 hl1 L6a O6 s6
  go_wp2_with fail
  go_loopw [14, 15] (fun o i wr => ∃ (P : Option Addr) (c : Nat) (oth : List Int) (i0 : Nat), o = .slice P H c ∧ i = .int .i64 i0 ∧ i0 ≤ 41 ∧ Below W7.heap.size W7 wr ∧ Ints wr P H oth ∧ Took xs H oth) (fun _ i _ => 41 - (intOf i).toNat)
  case atStart => exact ⟨A7, c7, L, 0, rfl, rfl, by omega, Below.refl _ _, I7.out, HTK7.out⟩
  case round =>
    obtain ⟨P, c8, oth, i0, rfl, rfl, hi0, hg, ho, htk⟩ := hrel
    obtain ⟨V, rfl⟩ : ∃ V : World, V = wr := ⟨_, rfl⟩
    have HG := Lib.hid hg
    have HO := Lib.hid ho
    have HK := Lib.hid htk
    clear hg ho htk
    obtain ⟨go, hgo⟩ : ∃ go, decide (i0 + 1 < mt ∧ i0 < 40 ∧ 0 < H) = go := ⟨_, rfl⟩
    go_upto_region 9 with fail
    go_cut [82] from 69 to 82 (fun c wx => c = .bool go ∧ wx = V)
    case first =>
      by_cases c1 : i0 + 1 < mt
      · have e1 : decide ((i0 : Int) + 1 < (mt : Int)) = true := decide_eq_true (by omega)
        have e2 : decide (i0 + 1 < mt) = true := decide_eq_true c1
        by_cases c2 : i0 < 40
        · have e3 : decide ((i0 : Int) < 40) = true := decide_eq_true (by omega)
          have e4 : decide (i0 < 40) = true := decide_eq_true c2
          by_cases c3 : 0 < H
          · have e5 : decide ((0 : Int) < (H : Int)) = true := decide_eq_true (by omega)
            have e6 : decide (0 < H) = true := decide_eq_true c3
            obtain rfl : go = true := by rw [← hgo]; exact decide_eq_true ⟨c1, c2, c3⟩
            go_wp2_with fail
            go_meet
            exact ⟨rfl, rfl⟩
          · have e5 : decide ((0 : Int) < (H : Int)) = false := decide_eq_false (by omega)
            have e6 : decide (0 < H) = false := decide_eq_false c3
            obtain rfl : go = false := by rw [← hgo]; exact decide_eq_false (fun h => c3 h.2.2)
            go_wp2_with fail
            go_meet
            exact ⟨rfl, rfl⟩
        · have e3 : decide ((i0 : Int) < 40) = false := decide_eq_false (by omega)
          have e4 : decide (i0 < 40) = false := decide_eq_false c2
          obtain rfl : go = false := by rw [← hgo]; exact decide_eq_false (fun h => c2 h.2.1)
          go_wp2_with fail
          go_meet
          exact ⟨rfl, rfl⟩
      · have e1 : decide ((i0 : Int) + 1 < (mt : Int)) = false := decide_eq_false (by omega)
        have e2 : decide (i0 + 1 < mt) = false := decide_eq_false c1
        obtain rfl : go = false := by rw [← hgo]; exact decide_eq_false (fun h => c1 h.1)
        go_wp2_with fail
        go_meet
        exact ⟨rfl, rfl⟩
    case rest =>
    obtain ⟨rfl, hwc⟩ := hcut
    obtain rfl := hwc.symm
    cases go with
    | true =>
      obtain ⟨hc1, hc2, hc3⟩ := of_decide_eq_true hgo
      clear hgo
      have O8 := Lib.hid (World.ownsRow_made (e := 3) (size := 1) V #[] 0 (Nat.le_refl _) (by decide) rfl : OwnL icells 1 3 (V.alloc (.cells #[] 3)) V.heap.size (.slice (some ⟨V.heap.size, 0, none⟩) 0 0) [])
      have P8 := Lib.hid (HO.out.below (one_more V (.cells #[] 3)))
      have s8 := Lib.hid (one_more V (.cells #[] 3)).size
      have hl1 : ([] : List Int).length + H ≤ 1000000 := by simp; omega
      go_upto_region 12 with (at_builtin; refine wpList_app kdInt rfl _ _ rfl V.heap.size (.slice (some ⟨V.heap.size, 0, none⟩) 0 0) [] rfl O8.out P H c8 oth rfl P8.out hl1 s8.out ?_; intro v9 V9 ho9 hg9 hat9; obtain ⟨A9, c9, rfl, hb9, how9, hi9⟩ := app_new P8.out.1 ho9 hg9; have HB9 := Lib.hid hb9; have OW9 := Lib.hid how9; clear ho9 hg9 hat9 hb9 hi9 how9)
      clear hl1
      have G9 := Lib.hid (HG.out.trans (HB9.out.mono HG.out.size))
      have GW9 := Lib.hid ((G3.out.trans (G7.out.mono G3.out.size)).trans (G9.out.mono (by have := G3.out.size; have := G7.out.size; omega)))
      obtain ⟨bt, ot, rfl, -, -, ht1⟩ := ints_at HT.out (show i0 < mt by omega)
      obtain ⟨bt', ot', e', -, -, ht2⟩ := ints_at HT.out (show i0 + 1 < mt by omega)
      cases e'
      have ht1 := ht1 _ GW9.out
      have ht2 := ht2 _ GW9.out
      obtain ⟨ta, hta⟩ : ∃ ta, ts.getD i0 0 = ta := ⟨_, rfl⟩
      obtain ⟨tb, htb⟩ : ∃ tb, ts.getD (i0 + 1) 0 = tb := ⟨_, rfl⟩
      rw [hta] at ht1
      rw [htb] at ht2
      obtain ⟨a, hae⟩ : ∃ a : Nat, ta % (H : Int) = a := ⟨(ta % (H : Int)).toNat, (Int.toNat_of_nonneg (Int.emod_nonneg _ (by omega))).symm⟩
      have haH : a < H := by have := Int.emod_lt_of_pos ta (show (0 : Int) < H by omega); omega
      have Ta := fun W => mod_any ta (H : Int) W (by omega) (by omega)
      rw [hae] at Ta
      have HTa := Lib.hid Ta
      obtain ⟨b, hbe⟩ : ∃ b : Nat, tb % (H : Int) = b := ⟨(tb % (H : Int)).toNat, (Int.toNat_of_nonneg (Int.emod_nonneg _ (by omega))).symm⟩
      have hbH : b < H := by have := Int.emod_lt_of_pos tb (show (0 : Int) < H by omega); omega
      have Tb := fun W => mod_any tb (H : Int) W (by omega) (by omega)
      rw [hbe] at Tb
      have HTb := Lib.hid Tb
      clear Ta Tb hae hbe hta htb
      go_upto_region 14 with (first
        | (go_at_call 32; (with_reducible refine (HTa.out _).mono ?_); rintro e w' ⟨rfl, rfl⟩)
        | (go_at_call 32; (with_reducible refine (HTb.out _).mono ?_); rintro e w' ⟨rfl, rfl⟩))
      clear ht1 ht2
      obtain ⟨bo, oo, rfl, -, -, hoa⟩ := ints_at (HO.out.below HB9.out) haH
      obtain ⟨bo', oo', e', -, -, hob⟩ := ints_at (HO.out.below HB9.out) hbH
      cases e'
      have hoa := hoa _ (Below.refl _ _)
      have hob := hob _ (Below.refl _ _)
      obtain ⟨g, rfl, hge, f1, f2, f3, q3, q1, q2, hJ, hbel⟩ := OW9.out.two HO.out.1 haH hbH (oth.getD b 0) (oth.getD a 0)
      have HJ := Lib.hid hJ
      have HBL := Lib.hid (hbel V HB9.out (Nat.le_refl _))
      obtain ⟨va, hva⟩ : ∃ va, oth.getD a 0 = va := ⟨_, rfl⟩
      obtain ⟨vb, hvb⟩ : ∃ vb, oth.getD b 0 = vb := ⟨_, rfl⟩
      rw [hva] at hoa HJ HBL q1
      rw [hvb] at hob HJ HBL f2 q2 q3
      obtain ⟨vu, hvu⟩ : ∃ vu, (oth.set a vb).getD b 0 = vu := ⟨_, rfl⟩
      rw [hvu] at q3
      clear hJ hbel hva hvb hvu
      go_cut [] from 103 to 117 (fun wx => Ints wx (some ⟨g, 0, none⟩) H ((oth.set a vb).set b va) ∧ Below V.heap.size V wx)
      case first =>
        go_region_law fail
        all_goals (try go_wp2_with fail)
        all_goals go_meet
        all_goals exact ⟨HJ.out, HBL.out.drew⟩
      case rest =>
        obtain ⟨hj, hb⟩ := hcut
        rename World => V2
        obtain ⟨nw, hnw⟩ : ∃ nw, (oth.set a vb).set b va = nw := ⟨_, rfl⟩
        rw [hnw] at hj
        have GN := Lib.hid (HG.out.trans (hb.mono HG.out.size))
        obtain ⟨se, hse⟩ : ∃ se, shareE xs (H : Int) nw = se := ⟨_, rfl⟩
        have T := HT41.out V2 (G7.out.trans (GN.out.mono G7.out.size)) (some ⟨g, 0, none⟩) c9 nw hj
        rw [hse] at T
        have HT := Lib.hid T
        have J2 := Lib.hid hj
        have HSE := Lib.hid hse
        have HON := Lib.hid (HO.out.below hb)
        obtain ⟨m0, m1⟩ := HMC.out V2 GN.out
        clear T hj hb hnw hse HJ HBL
        by_cases he : se = 0
        · subst he
          have HTN2 := Lib.hid (HSH.out nw J2.out.1 HSE.out)
          go_wp2_with (go_at_call 41; (with_reducible refine HT.out.mono ?_); rintro e V3 ⟨rfl, g3⟩; have GG := Lib.hid g3; clear g3)
          go_roundw
          case rel => exact ⟨some ⟨g, 0, none⟩, c9, nw, i0 + 2, rfl, by go_num, by omega, GN.out.trans (GG.out.mono GN.out.size), J2.out.below GG.out, HTN2.out⟩
          case measure => simp [intOf]; omega
        · have e1 : (se == 0) = false := beq_eq_false_iff_ne.2 he
          clear he
          go_wp2_with (go_at_call 41; (with_reducible refine HT.out.mono ?_); rintro e V3 ⟨rfl, g3⟩; have GG := Lib.hid g3; clear g3)
          go_roundw
          case rel => exact ⟨some ⟨bo, oo, none⟩, c8, oth, i0 + 2, rfl, by go_num, by omega, GN.out.trans (GG.out.mono GN.out.size), HON.out.below GG.out, HK.out⟩
          case measure => simp [intOf]; omega
    | false =>
      clear hgo
      go_upto_region 18 with fail
      have HBV := Lib.hid (HB3.out.below (G7.out.trans (HG.out.mono G7.out.size)))
      have IV := Lib.hid ((I6.out.below HB7.out).below HG.out)
      have DV := Lib.hid ((D6.out.below HB7.out).below HG.out)
      have HMV := Lib.hid (fun x : Wd V => HMC.out x.val (HG.out.trans (x.ok.mono HG.out.size)))
      have m0 : ∀ x : Wd V, x.val.cell? ⟨bm, 0, none⟩ = some (.int .i64 H) := fun x => (HMV.out x).1
      have m1 : ∀ x : Wd V, x.val.cell? ⟨bm, 1, none⟩ = some (.slice B len cb) := fun x => (HMV.out x).2
      have HC := Lib.hid (fun (x : Wd V) (i h : Nat) hi hh => HT14.out x.val ((G7.out.trans (HG.out.mono G7.out.size)).trans (x.ok.mono (by have := G7.out.size; have := HG.out.size; omega))) i h hi hh)
      have GV := Lib.hid (G3.out.trans ((G7.out.trans (HG.out.mono G7.out.size)).mono G3.out.size))
      clear HT14 HT40 HT16 HT36 HT41 HSH HTK HMC HTK7
      go_wp2_with fail
      go_loopw [19] (fun h wr => ∃ h0 : Nat, h0 ≤ H ∧ h = .int .i64 h0 ∧ ∃ z : Wd V, wr = z.val) (fun h _ => H - (intOf h).toNat)
      case atStart => exact ⟨0, Nat.zero_le _, rfl, Wd.self V⟩
      case round =>
        obtain ⟨h0, hh, rfl, z, rfl⟩ := hrel
        by_cases hhl : h0 < H
        · obtain ⟨bo, oo, rfl, -, -, hoh⟩ := ints_at HO.out hhl
          obtain ⟨vo, hvo⟩ : ∃ vo, oth.getD h0 0 = vo := ⟨_, rfl⟩
          have o0 : ∀ x : Wd V, x.val.cell? ⟨bo, oo + h0, none⟩ = some (.int .i64 vo) := fun x => by have := hoh x.val x.ok; rw [hvo] at this; exact this
          have HY := Lib.hid (fun i (hi : i < len) => HTY.out oth HK.out i h0 hi)
          have HN := Lib.hid (fun i (hi : i < len) => HTN.out oth HK.out i h0 hi hhl)
          have HI := Lib.hid (HTI.out oth HK.out h0 hhl)
          rw [hvo] at HY HN HI
          clear hoh hvo
          go_wp2_with fail
          go_loopw [20] (fun i wr => ∃ i0 : Nat, i0 ≤ len ∧ i = .int .i64 i0 ∧ ∃ z : Wd V, wr = z.val) (fun i _ => len - (intOf i).toNat)
          case atStart => exact ⟨0, Nat.zero_le _, rfl, z, rfl⟩
          case round =>
            obtain ⟨i0, hi, rfl, z, rfl⟩ := hrel
            by_cases hil : i0 < len
            · obtain ⟨bc, oc, y, rfl, -, hy, hyc⟩ := comer_at HBV.out hil
              have hyf : y.family = fam xs i0 := by unfold fam; rw [getD_of hy]
              obtain ⟨fi, hfi⟩ : ∃ fi, fam xs i0 = fi := ⟨_, rfl⟩
              have T14 := fun x => HC.out x i0 h0 hil hhl
              have hY := HY.out i0 hil
              have hN := HN.out i0 hil
              have hV := HCV.out i0 h0
              obtain ⟨cv, hcv⟩ : ∃ cv, comesV xs H i0 h0 due = cv := ⟨_, rfl⟩
              rw [hfi] at hyf T14 hY hN
              rw [hcv] at T14 hY hN hV
              have y0 : ∀ x : Wd V, x.val.cell? ⟨bc, oc + i0 * 3, none⟩ = some (.int .i64 fi) := fun x => by have := (hyc x.val x.ok).1; rw [hyf] at this; exact this
              clear hy hyc hyf hfi hcv
              by_cases hvf : vo = fi
              · rcases hV with rfl | rfl | rfl
                · exact absurd hvf (hN rfl)
                · have HC14 := Lib.hid T14
                  clear T14 hY hN
                  have e4 : (vo == fi) = true := by rw [hvf]; simp
                  clear hvf
                  go_wp2_with fail
                  refine wp_region_calm V (by kernel_rfl) (by kernel_rfl) z.ok ?_
                  repeat (go_big_quiet_step ((go_at_call 14; exact callsCalm (HC14.out _))))
                  refine wpQuiet_nil ?_
                  rintro _ ⟨v, rfl⟩
                  go_wp2_with fail
                  refine wp_region_calm V (by kernel_rfl) (by kernel_rfl) v.ok ?_
                  repeat (go_big_quiet_step (fail))
                  refine wpQuiet_nil ?_
                  rintro _ ⟨v2, rfl⟩
                  go_wp2_with fail
                  go_roundw
                  case rel => exact ⟨i0 + 1, by omega, by go_num, v2, rfl⟩
                  case measure => simp [intOf]; omega
                · have HC14 := Lib.hid T14
                  clear T14 hY hN
                  have e4 : (vo == fi) = true := by rw [hvf]; simp
                  clear hvf
                  go_wp2_with fail
                  refine wp_region_calm V (by kernel_rfl) (by kernel_rfl) z.ok ?_
                  repeat (go_big_quiet_step ((go_at_call 14; exact callsCalm (HC14.out _))))
                  refine wpQuiet_nil ?_
                  rintro _ ⟨v, rfl⟩
                  go_wp2_with fail
                  refine wp_region_calm V (by kernel_rfl) (by kernel_rfl) v.ok ?_
                  repeat (go_big_quiet_step (fail))
                  refine wpQuiet_nil ?_
                  rintro _ ⟨v2, rfl⟩
                  go_wp2_with fail
                  go_roundw
                  case rel => exact ⟨i0 + 1, by omega, by go_num, v2, rfl⟩
                  case measure => simp [intOf]; omega
              · rcases hV with rfl | rfl | rfl
                · have HC14 := Lib.hid T14
                  clear T14 hY hN
                  have e4 : (vo == fi) = false := beq_eq_false_iff_ne.2 hvf
                  clear hvf
                  go_wp2_with fail
                  refine wp_region_calm V (by kernel_rfl) (by kernel_rfl) z.ok ?_
                  repeat (go_big_quiet_step ((go_at_call 14; exact callsCalm (HC14.out _))))
                  refine wpQuiet_nil ?_
                  rintro _ ⟨v, rfl⟩
                  go_wp2_with fail
                  refine wp_region_calm V (by kernel_rfl) (by kernel_rfl) v.ok ?_
                  repeat (go_big_quiet_step (fail))
                  refine wpQuiet_nil ?_
                  rintro _ ⟨v2, rfl⟩
                  go_wp2_with fail
                  go_roundw
                  case rel => exact ⟨i0 + 1, by omega, by go_num, v2, rfl⟩
                  case measure => simp [intOf]; omega
                · exact absurd (hY rfl) hvf
                · have HC14 := Lib.hid T14
                  clear T14 hY hN
                  have e4 : (vo == fi) = false := beq_eq_false_iff_ne.2 hvf
                  clear hvf
                  go_wp2_with fail
                  refine wp_region_calm V (by kernel_rfl) (by kernel_rfl) z.ok ?_
                  repeat (go_big_quiet_step ((go_at_call 14; exact callsCalm (HC14.out _))))
                  refine wpQuiet_nil ?_
                  rintro _ ⟨v, rfl⟩
                  go_wp2_with fail
                  refine wp_region_calm V (by kernel_rfl) (by kernel_rfl) v.ok ?_
                  repeat (go_big_quiet_step (fail))
                  refine wpQuiet_nil ?_
                  rintro _ ⟨v2, rfl⟩
                  go_wp2_with fail
                  go_roundw
                  case rel => exact ⟨i0 + 1, by omega, by go_num, v2, rfl⟩
                  case measure => simp [intOf]; omega
            · obtain rfl : len = i0 := by omega
              go_wp2_with fail
              go_loopw [24, 25] (fun nm j wr => ∃ (r : Nat) (nb : Bool), r ≤ li ∧ j = .int .i64 r ∧ nm = .bool nb ∧ (nb = true ↔ (h0 : Int) ∈ il.take r) ∧ ∃ z : Wd V, wr = z.val) (fun _ j _ => li - (intOf j).toNat)
              case atStart => exact ⟨0, false, Nat.zero_le _, rfl, rfl, by simp, z, rfl⟩
              case round =>
                obtain ⟨r, nb, hr, rfl, rfl, hnb, z, rfl⟩ := hrel
                by_cases hrl : r < li
                · obtain ⟨bs, os, rfl, -, hmem, hds⟩ := ints_at IV.out hrl
                  obtain ⟨yr, hyr⟩ : ∃ yr, il.getD r 0 = yr := ⟨_, rfl⟩
                  rw [hyr] at hmem
                  have s0 : z.val.cell? ⟨bs, os + r, none⟩ = some (.int .i64 yr) := by have := hds z.val z.ok; rw [hyr] at this; exact this
                  have HTK := Lib.hid (show (h0 : Int) ∈ il.take (r + 1) ↔ (h0 : Int) ∈ il.take r ∨ (h0 : Int) = yr by rw [List.take_add_one, hmem]; simp)
                  have HNB := Lib.hid hnb
                  clear hds hyr hmem hnb
                  cases nb with
                  | true =>
                    have HIN := Lib.hid (HTK.out.2 (.inl (HNB.out.1 rfl)))
                    go_wp2_with fail
                    go_roundw
                    case rel => exact ⟨r + 1, true, by omega, by go_num, rfl, ⟨fun _ => HIN.out, fun _ => rfl⟩, z, rfl⟩
                    case measure => simp [intOf]; omega
                  | false =>
                    by_cases hyq : yr = (h0 : Int)
                    · have HIN := Lib.hid (HTK.out.2 (.inr hyq.symm))
                      have e3 : (yr == (h0 : Int)) = true := by rw [hyq]; simp
                      clear hyq
                      go_wp2_with fail
                      go_roundw
                      case rel => exact ⟨r + 1, true, by omega, by go_num, rfl, ⟨fun _ => HIN.out, fun _ => rfl⟩, z, rfl⟩
                      case measure => simp [intOf]; omega
                    · have e3 : (yr == (h0 : Int)) = false := beq_eq_false_iff_ne.2 hyq
                      have HYQ := Lib.hid hyq
                      clear hyq
                      go_wp2_with fail
                      go_roundw
                      case rel => exact ⟨r + 1, false, by omega, by go_num, rfl, ⟨fun h => Bool.noConfusion h, fun h => (HTK.out.1 h).elim (fun h1 => HNB.out.2 h1) (fun h1 => absurd h1.symm HYQ.out)⟩, z, rfl⟩
                      case measure => simp [intOf]; omega
                · obtain rfl : li = r := by omega
                  rw [List.take_of_length_le (by rw [HLI.out]; exact Nat.le_refl _)] at hnb
                  have o1 := o0 z
                  by_cases hv0 : vo = 0
                  · have hnt : nb = true := hnb.2 (HI.out hv0)
                    subst hnt hv0
                    clear hnb
                    go_wp2_with fail
                    go_roundw
                    case rel => exact ⟨h0 + 1, by omega, by go_num, z, rfl⟩
                    case measure => simp [intOf]; omega
                  · have e4 : (vo == 0) = false := beq_eq_false_iff_ne.2 hv0
                    clear hnb hv0
                    go_wp2_with fail
                    go_roundw
                    case rel => exact ⟨h0 + 1, by omega, by go_num, z, rfl⟩
                    case measure => simp [intOf]; omega
        · obtain rfl : H = h0 := by omega
          go_upto_region 35 with fail
          go_wp2_with fail
          go_loopw [26] (fun i wr => ∃ i0 : Nat, i0 ≤ li ∧ i = .int .i64 i0 ∧ ∃ z : Wd V, wr = z.val) (fun i _ => li - (intOf i).toNat)
          case atStart => exact ⟨0, Nat.zero_le _, rfl, z, rfl⟩
          case round =>
            obtain ⟨i0, hi, rfl, z, rfl⟩ := hrel
            by_cases hil : i0 < li
            · obtain ⟨bs, os, rfl, -, hmem, hds⟩ := ints_at IV.out hil
              obtain ⟨b, hb, hyr, hfe⟩ := HID.out _ (List.mem_of_getElem? hmem)
              rw [hyr] at hds
              have zok := z.ok
              obtain ⟨U, hU⟩ : ∃ U, z.val = U := ⟨_, rfl⟩
              rw [hU] at zok
              have ZU := Lib.hid zok
              have HDS := Lib.hid hds
              have HFE := Lib.hid hfe
              have GU := Lib.hid ((G7.out.trans (HG.out.mono G7.out.size)).trans (zok.mono (by have := G7.out.size; have := HG.out.size; omega)))
              have HBU := Lib.hid (HB3.out.below GU.out)
              have MU := Lib.hid (M3.out.ext GU.out)
              rw [hU]
              clear hU hmem hds hyr hfe zok z m0 m1
              have m0 := MU.out.cell 0
              have m1 := MU.out.cell 1
              go_upto_region 37 with fail
              have OE1 := Lib.hid (copyE1 U)
              have OE2 := Lib.hid (copyE2 U (.cells #[.int .i64 0, .slice none 0 0] 24))
              have OE3 := Lib.hid (copyE3 U (.cells #[.int .i64 0, .slice none 0 0] 24))
              have GE1 := Lib.hid (show Below U.heap.size U (U.alloc (.cells #[] 53)).drew from (one_more _ _).drew)
              have GE2 := Lib.hid (show Below U.heap.size U ((U.alloc (.cells #[] 53)).alloc (.cells #[.int .i64 0, .slice none 0 0] 24)).drew from ((one_more U _).alloc (by simp) _).drew)
              have GE3 := Lib.hid (show Below U.heap.size U ((U.alloc (.cells #[.int .i64 0, .slice none 0 0] 24)).alloc (.cells #[] 53)).drew from ((one_more U _).alloc (by simp) _).drew)
              have hl1 : ([] : List Comer).length + len ≤ 1000000 := by simp; omega
              have hbml := MU.out.lt
              go_cut [27] from 205 to 212 (CopyEnd U H len xs)
              case first =>
                go_region_held3 (fun w' => w'.cell? ⟨bm, 0, none⟩ = some (.int .i64 H) ∧ w'.cell? ⟨bm, 1, none⟩ = some (.slice B len cb))
                  (first | go_keep | exact ⟨k0, k1⟩ | exact ⟨i0, i1⟩ | exact ⟨keepAlloc k0 _, keepAlloc k1 _⟩)
                  (first
                    | (refine step_app kdCom (by rfl) _ _ (by rfl) U.heap.size _ [] (by rfl) OE1.out B len cb xs (by rfl) (HBU.out.below GE1.out) hl1 GE1.out.size ?_; intro v1 w1 ho1 hg1 hat1; obtain ⟨A1, c1, rfl, hb1, hce⟩ := copyA HLEN.out H ho1 hg1; have k0 := (MU.out.ext hb1).cell 0; have k1 := (MU.out.ext hb1).cell 1; have CE := Lib.hid hce; clear ho1 hg1 hat1 hb1 hce)
                    | (refine step_app kdCom (by rfl) _ _ (by rfl) U.heap.size _ [] (by rfl) OE2.out B len cb xs (by rfl) (HBU.out.below GE2.out) hl1 GE2.out.size ?_; intro v1 w1 ho1 hg1 hat1; obtain ⟨A1, c1, rfl, hb1, hbb, hce⟩ := copyB HLEN.out H ho1 hg1 hat1; have k0 := (MU.out.ext hb1).cell 0; have k1 := (MU.out.ext hb1).cell 1; have k2 := hbb.cell 0; have k3 := hbb.cell 1; have k4 := hbb.frozen 0; have k5 := hbb.frozen 1; have hi := (((MU.out.ext hb1).far (p := ⟨U.heap.size + 1, 0, none⟩) (by dsimp only; omega) (.int .i64 H)).far (p := ⟨U.heap.size + 1, 1, none⟩) (by dsimp only; omega) (.slice A1 len c1)); have i0 := hi.cell 0; have i1 := hi.cell 1; clear hi; have CE := Lib.hid hce; clear ho1 hg1 hat1 hb1 hbb hce)
                    | (refine step_app kdCom (by rfl) _ _ (by rfl) U.heap.size _ [] (by rfl) OE3.out B len cb xs (by rfl) (HBU.out.below GE3.out) hl1 GE3.out.size ?_; intro v1 w1 ho1 hg1 hat1; obtain ⟨A1, c1, rfl, hb1, hbb, hce⟩ := copyC HLEN.out H ho1 hg1 hat1; have k0 := (MU.out.ext hb1).cell 0; have k1 := (MU.out.ext hb1).cell 1; have k2 := hbb.cell 0; have k3 := hbb.cell 1; have k4 := hbb.frozen 0; have k5 := hbb.frozen 1; have hi := (((MU.out.ext hb1).far (p := ⟨U.heap.size, 0, none⟩) (by dsimp only; omega) (.int .i64 H)).far (p := ⟨U.heap.size, 1, none⟩) (by dsimp only; omega) (.slice A1 len c1)); have i0 := hi.cell 0; have i1 := hi.cell 1; clear hi; have CE := Lib.hid hce; clear ho1 hg1 hat1 hb1 hbb hce))
                all_goals (try go_wp2_with fail)
                all_goals go_meet
                all_goals exact CE.out
              case rest =>
                obtain ⟨g, A9, c9, rfl, hb9, hge, -, hbl, how, hcc, hne⟩ := hcut
                rename World => U1
                have HB9 := Lib.hid hb9
                have HBL := Lib.hid hbl
                have HOW := Lib.hid (show OwnC U1 U.heap.size (.slice A9 len c9) (barK xs b 0) from how)
                have HNE := Lib.hid hne
                clear hb9 hbl how hne OE1 OE2 OE3 GE1 GE2 GE3 hl1 m0 m1
                go_wp2_with fail
                go_loopw [28] (fun k wr => ∃ j : Nat, j ≤ len ∧ k = .int .i64 j ∧ Below U.heap.size U wr ∧ Blk wr g 24 #[.int .i64 H, .slice A9 len c9] ∧ OwnC wr U.heap.size (.slice A9 len c9) (barK xs b j)) (fun k _ => len - (intOf k).toNat)
                case atStart => exact ⟨0, Nat.zero_le _, rfl, HB9.out, HBL.out, HOW.out⟩
                case round =>
                  obtain ⟨j, hj, rfl, hb2, hbl2, how2⟩ := hrel
                  obtain ⟨V2, rfl⟩ : ∃ V2 : World, V2 = wr := ⟨_, rfl⟩
                  have HB2 := Lib.hid hb2
                  have HBL2 := Lib.hid hbl2
                  have HOW2 := Lib.hid how2
                  clear hb2 hbl2 how2
                  have r1 := cellW (HBL2.out.cell 1)
                  have r3 := HBL2.out.cell 1
                  by_cases hjl : j < len
                  · have hkl : (barK xs b j).length = len := (barK_len xs b j).trans HLEN.out
                    obtain ⟨gb, c', e, h1, h2, h3⟩ := HOW2.out.get (by rw [hkl]; omega)
                    obtain ⟨rfl, -, rfl⟩ := Value.slice.inj e
                    have hgne : gb ≠ g := HNE.out gb rfl
                    obtain ⟨A2, c2, e2, -, ha2, -, -⟩ := HOW2.out.arr
                    obtain ⟨rfl, -, rfl⟩ := Value.slice.inj e2
                    obtain ⟨b3, o3, x, e3, -, hx, hc3⟩ := comer_at ha2 (show j < (barK xs b j).length by rw [hkl]; exact hjl)
                    cases e3
                    have hx0 : xs[j]? = some x := by rw [barK_at (by rw [HLEN.out]; exact hjl)] at hx; exact hx
                    have hxb := HOK.out.hrs x (List.mem_of_getElem? hx0)
                    have hbv := bar_val x.hours b hxb (by omega)
                    have x1 : ∀ y : Wd V2, y.val.cell? ⟨gb, j * 3 + 1, none⟩ = some (.int .i64 x.hours) := fun y => by
                      have := (hc3 y.val y.ok).2.1
                      rw [Nat.zero_add] at this
                      exact this
                    have d0 : ∀ y : Wd V2, y.val.cell? ⟨bs, os + i0, none⟩ = some (.int .i64 (b : Nat)) := fun y => HDS.out y.val (ZU.out.trans ((HB2.out.trans (y.ok.mono HB2.out.size)).mono ZU.out.size))
                    have how3 : OwnC V2 U.heap.size (.slice (some ⟨gb, 0, none⟩) (barK xs b j).length c9) (barK xs b j) := by rw [hkl]; exact HOW2.out
                    have hfz : ∀ y : Wd V2, y.val.frozen? ⟨gb, j * 3 + 1, none⟩ = false := frozenW (x1 ⟨V2, Below.refl _ _⟩) (how3.setHours hx 0).2
                    have HN := Lib.hid (fun (V3 : World) (g3 : Below V2.heap.size V2 V3) => (show OwnC (V3.setCell ⟨gb, j * 3 + 1, none⟩ (.int .i64 ((x.hours.toNat ^^^ (x.hours.toNat &&& 2 ^ b) : Nat) : Int))) U.heap.size (.slice (some ⟨gb, 0, none⟩) len c9) (barK xs b (j + 1)) by
                      have := ((how3.ext g3).setHours hx ((x.hours.toNat ^^^ (x.hours.toNat &&& 2 ^ b) : Nat) : Int)).1
                      rw [hkl, barK_step hx0] at this
                      exact this))
                    obtain ⟨nv, hnv⟩ : ∃ nv, ((x.hours.toNat ^^^ (x.hours.toNat &&& 2 ^ b) : Nat) : Int) = nv := ⟨_, rfl⟩
                    rw [hnv] at HN hbv
                    clear hx hx0 hxb hc3 ha2 e e2 h2 how3 hnv
                    go_wp2_with fail
                    refine wp_region_calm_tail V2 17 (by kernel_rfl) (by kernel_rfl) (Below.refl _ _) ?_
                    simp only [List.take_succ_cons, List.take_zero, List.drop_succ_cons, List.drop_zero]
                    repeat (go_big_quiet_step (fail))
                    refine wpQuiet_nil ?_
                    rintro _ ⟨z, rfl⟩
                    have zok := Lib.hid z.ok
                    go_wp2_with fail
                    go_roundw
                    case rel =>
                      refine ⟨j + 1, by omega, by go_num, (HB2.out.trans (zok.out.mono HB2.out.size)).setCell (p := ⟨gb, j * 3 + 1, none⟩) h1 _, (HBL2.out.ext zok.out).far (p := ⟨gb, j * 3 + 1, none⟩) (fun e => hgne e.symm) _, ?_⟩
                      exact HN.out z.val zok.out
                    case measure => simp [intOf]; omega
                  · obtain rfl : len = j := by omega
                    have hbe : barK xs b len = barL xs b := barK_end (by rw [HLEN.out]; exact Nat.le_refl _)
                    obtain ⟨A2, c2, e2, -, ha2, -, -⟩ := HOW2.out.arr
                    rw [hbe, barL_len, HLEN.out] at ha2
                    obtain ⟨rfl, -, rfl⟩ := Value.slice.inj e2
                    have GV2 := Lib.hid (ZU.out.trans (HB2.out.mono ZU.out.size))
                    have T45 := HT45.out V2 b c9 A9 D3 d3 ha2 hcc (DV.out.below GV2.out) HFE.out
                    have HT := Lib.hid T45
                    have r0 := cellW (HBL2.out.cell 0)
                    have r2 := HBL2.out.cell 0
                    clear e2 ha2 hbe T45
                    go_wp2_with (go_at_call 45; (with_reducible refine HT.out.mono ?_); rintro e V3 ⟨rfl, g3⟩; have GG := Lib.hid (GV2.out.trans (g3.mono GV2.out.size)); clear g3)
                    go_roundw
                    case rel => exact ⟨i0 + 1, by omega, by go_num, ⟨V3, GG.out⟩, rfl⟩
                    case measure => simp [intOf]; omega
            · obtain rfl : li = i0 := by omega
              go_wp2_with (go_at_call 21; (with_reducible refine (sane_any _).mono ?_); rintro e w8 ⟨rfl, g8⟩; have G9 := Lib.hid (z.ok.trans (g8.mono z.ok.size)); clear g8)
              go_ret
              exact ⟨rfl, GV.out.trans (G9.out.mono GV.out.size)⟩
end Go.Proofs.Ytdhhneflhmkonaa
