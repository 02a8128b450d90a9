/- The reference's Comes (func 15). -/
import Derived.Test.YtdhhneflhmkonaaVF
namespace Go.Proofs.Ytdhhneflhmkonaa
open Go.RowKit Go.Shelf

def tst (xs : List Comer) (H i b : Nat) (due : List Int) (j : Nat) : Bool :=
  decide (j ≠ i) && (hrs xs j).testBit b && decide (0 < due.getD j 0) && fea xs H b (due.set j (due.getD j 0 - 1))
def freeK (xs : List Comer) (H i b : Nat) (due : List Int) : Nat → Bool
  | 0 => fea xs H b due
  | k + 1 => freeK xs H i b due k || tst xs H i b due k
theorem freeK_mono {xs : List Comer} {H i b : Nat} {due : List Int} {k : Nat} (h : freeK xs H i b due k = true) : ∀ m, k ≤ m → freeK xs H i b due m = true := by
  intro m hm
  induction m with
  | zero => obtain rfl : k = 0 := by omega
            exact h
  | succ m ih =>
    by_cases e : k = m + 1
    · subst e; exact h
    · unfold freeK; rw [ih (by omega)]; rfl
theorem freeK_iff (xs : List Comer) (H i b : Nat) (due : List Int) : ∀ n, freeK xs H i b due n = true ↔ fea xs H b due = true ∨ ∃ k, k < n ∧ tst xs H i b due k = true
  | 0 => by simp [freeK]
  | n + 1 => by
    unfold freeK
    rw [Bool.or_eq_true, freeK_iff xs H i b due n]
    constructor
    · rintro ((h | ⟨k, hk, h⟩) | h)
      · exact .inl h
      · exact .inr ⟨k, by omega, h⟩
      · exact .inr ⟨n, by omega, h⟩
    · rintro (h | ⟨k, hk, h⟩)
      · exact .inl (.inl h)
      · by_cases e : k = n
        · subst e; exact .inr h
        · exact .inl (.inr ⟨k, by omega, h⟩)
theorem comesV_eq {xs : List Comer} {H i b : Nat} {due : List Int} (hi : i < xs.length) (hl : due.length = xs.length) (hp : ∀ x ∈ due, 0 ≤ x) (hb : b < H) :
    comesV xs H i b due = if ((hrs xs i).testBit b && decide (0 < due.getD i 0) && fea xs H b (due.set i (due.getD i 0 - 1))) = true then (if freeK xs H i b due xs.length = true then 2 else 1) else 0 := by
  have h0 : 0 ≤ due.getD i 0 := by
    rw [List.getD_eq_getElem?_getD, List.getElem?_eq_getElem (by omega)]; exact hp _ (List.getElem_mem _)
  unfold comesV
  by_cases h1 : (hrs xs i).testBit b = false ∨ due.getD i 0 = 0
  · rw [if_pos h1, if_neg]
    rcases h1 with h1 | h1
    · rw [h1]; simp
    · rw [h1]; simp
  · rw [if_neg h1]
    have h2 : (hrs xs i).testBit b = true := by
      cases hq : (hrs xs i).testBit b with
      | true => rfl
      | false => exact absurd (.inl hq) h1
    have h3 : decide (0 < due.getD i 0) = true := decide_eq_true (by
      rcases Int.lt_or_eq_of_le h0 with h | h
      · exact h
      · exact absurd (.inr h.symm) h1)
    rw [h2, h3, Bool.true_and, Bool.true_and]
    have key : fea (clr xs i b) H (-1) due = freeK xs H i b due xs.length := by
      rw [Bool.eq_iff_iff, fea_clr hi hl, freeK_iff]
      constructor
      · rintro (h | ⟨k, h1, h2, h3, h4, h5, h6⟩)
        · exact .inl h
        · exact .inr ⟨k, h1, by unfold tst; rw [decide_eq_true h2, h3, decide_eq_true h4, h6]; rfl⟩
      · rintro (h | ⟨k, h1, h⟩)
        · exact .inl h
        · unfold tst at h
          simp only [Bool.and_eq_true, decide_eq_true_eq] at h
          obtain ⟨⟨⟨h2, h3⟩, h4⟩, h6⟩ := h
          exact .inr ⟨k, h1, h2, h3, h4, hb, h6⟩
    rw [key]

/-- A list that was copied onto a new, empty one, an element lowered. -/
theorem app_copy {V w6 : World} {v6 : Value} {l : List Int} {n : Nat} (hl : l.length = n) (hn : 0 < n) (ho : OwnL icells 1 3 w6 V.heap.size v6 ([] ++ l))
    (hg : (V.alloc (.cells #[] 3)).grownBy w6 (Value.slice (some ⟨V.heap.size, 0, none⟩) 0 0).ownBlock) :
    ∃ g c6, v6 = .slice (some ⟨g, 0, none⟩) n c6 ∧ V.heap.size ≤ g ∧ Below V.heap.size V w6 ∧ ∀ (i : Nat) (y z : Int), l[i]? = some y →
      w6.cell? ⟨g, i, none⟩ = some (.int .i64 y) ∧ w6.frozen? ⟨g, i, none⟩ = false ∧ Below V.heap.size V (w6.setCell ⟨g, i, none⟩ (.int .i64 z)) ∧ Ints (w6.setCell ⟨g, i, none⟩ (.int .i64 z)) (some ⟨g, 0, none⟩) n (l.set i z) := by
  have o5 : OwnL icells 1 3 (V.alloc (.cells #[] 3)) V.heap.size (.slice (some ⟨V.heap.size, 0, none⟩) 0 0) [] := World.ownsRow_made (e := 3) (size := 1) V #[] 0 (Nat.le_refl _) (by decide) rfl
  have g5 : Below V.heap.size V (V.alloc (.cells #[] 3)) := one_more _ _
  have hb : Below V.heap.size V w6 := g5.trans (o5.below hg (Nat.le_refl _) g5.size)
  rw [List.nil_append] at ho
  obtain ⟨g, c6, e, h1, h2, h3⟩ := ho.ints.get (by omega)
  have ho2 := ho.ints
  rw [e] at ho2
  rw [hl] at e
  refine ⟨g, c6, e, h1, hb, fun i y z hy => ?_⟩
  have hi : i < l.length := (List.getElem?_eq_some_iff.1 hy).1
  obtain ⟨o9, f9⟩ := ho2.set i hi z
  obtain ⟨A', c', e', hI⟩ := ho2.ints
  cases e'
  obtain ⟨b', o', e', -, -, hc⟩ := ints_at hI hi
  cases e'
  obtain ⟨A', c', e', hJ⟩ := o9.ints
  rw [List.length_set] at e' hJ
  cases e'
  rw [hl] at hJ
  refine ⟨?_, f9, hb.setCell (p := ⟨g, i, none⟩) h1 _, hJ⟩
  have := hc _ (Below.refl _ _)
  rw [Nat.zero_add, List.getD_eq_getElem?_getD, hy] at this
  exact this

set_option maxRecDepth 100000 in
set_option maxHeartbeats 16000000 in
theorem refComes_any (A : Option Addr) (n cc : Nat) (h f q : Int) (xs : List Comer) (w : World) (ha : Arr ccells 3 w A n xs) (hnc : n ≤ cc) (hn : n ≤ 9223372036854775807) (hh : -9223372036854775808 ≤ h ∧ h ≤ 9223372036854775807) :
    Calls Try.prog 15 #[mv A n cc h, .int .i64 f, .int .i64 q] w fun e w' => e = .returned (.tuple #[.int .i64 (comesS xs h f q), .int .i64 (comesE xs h f q)]) ∧ Below w.heap.size w w' := by
  have HA := Lib.hid ha
  have hlen := Lib.hid ha.1
  clear ha
  obtain ⟨ok, hok⟩ : ∃ ok, okMill h xs = ok := ⟨_, rfl⟩
  have HOK := Lib.hid hok
  obtain ⟨ix, hix⟩ : ∃ ix, idx xs f = ix := ⟨_, rfl⟩
  have HIX := Lib.hid hix
  obtain ⟨rb, hrb⟩ : ∃ rb, rng q 0 (h - 1) = rb := ⟨_, rfl⟩
  have HRB := Lib.hid hrb
  obtain ⟨ce, hce⟩ : ∃ ce, comesE xs h f q = ce := ⟨_, rfl⟩
  have HE := Lib.hid (show ce = if ok = true then (if ix < 0 then 57 else if rb = true then 0 else 7) else 52 by rw [← hce, ← hok, ← hix, ← hrb]; rfl)
  have HS := Lib.hid (show comesS xs h f q = if ce = 0 then comesV xs h.toNat ix.toNat q.toNat (turnsS xs h.toNat) else 0 by rw [← hce, ← hix]; rfl)
  rw [hce]
  generalize comesS xs h f q = cs at HS ⊢
  clear hok hix hrb hce
  unfold mv
  go_enter Try.func15, Try.ntmps15
  go_wp2_with fail
  obtain ⟨W1, hW1, g1, -, b1⟩ := box24 w h A n cc
  rw [hW1]
  clear hW1
  refine (refCheck_any h A n cc xs W1 (HA.out.below g1) hnc hn).mono ?_
  rintro e W2 ⟨rfl, hg2⟩
  rw [HOK.out]
  have b2 := b1.ext hg2
  have g2 := g1.trans (hg2.mono g1.size)
  have m0 := b2.cell 0
  have m1 := b2.cell 1
  have B2 := Lib.hid b2
  have G2 := Lib.hid g2
  clear g1 b1 hg2 g2 b2
  cases ok with
  | false =>
    rw [show err false 52 = 52 from rfl]
    go_wp2_with fail
    go_ret2
    have e : ce = 52 := HE.out
    subst e
    have e : cs = 0 := HS.out
    subst e
    exact ⟨rfl, G2.out⟩
  | true =>
    rw [show err true 52 = 0 from rfl]
    have ok := (okMill_iff h xs).1 HOK.out
    obtain ⟨H, rfl⟩ : ∃ H : Nat, h = H := ⟨h.toNat, by have := ok.h0; omega⟩
    have hH : H ≤ 24 := by have := ok.h24; omega
    have hn12 : n ≤ 12 := by have := ok.n12; have := hlen.out; omega
    have HX := Lib.hid ok.hrs
    have T1 := refAt_any A n cc (H : Int) xs f W2 (HA.out.below G2.out) (by omega)
    rw [HIX.out] at T1
    have HT1 := Lib.hid T1
    clear T1 ok hh
    by_cases hneg : ix < 0
    · have hb : decide (ix < 0) = true := decide_eq_true hneg
      have e : ce = 57 := by rw [HE.out, if_pos rfl, if_pos hneg]
      subst e
      have e : cs = 0 := HS.out
      subst e
      clear hneg
      go_wp2_with (go_at_call 71; (with_reducible refine HT1.out.mono ?_); rintro e w' ⟨rfl, g3⟩; have G3 := Lib.hid g3; clear g3)
      go_ret2
      exact ⟨rfl, G2.out.trans (G3.out.mono G2.out.size)⟩
    have hb : decide (ix < 0) = false := decide_eq_false hneg
    obtain ⟨i, rfl⟩ : ∃ i : Nat, ix = i := ⟨ix.toNat, by omega⟩
    have hin : i < n := by
      rcases idx_cases' xs f with e | ⟨j, e, hj, -⟩
      · have := HIX.out; omega
      · have := HIX.out; have := hlen.out; omega
    have HE2 := Lib.hid (show ce = if rb = true then 0 else 7 by rw [HE.out, if_pos rfl, if_neg hneg])
    clear hneg
    have T72 := in_any q 0 ((H : Int) - 1)
    rw [HRB.out] at T72
    have HT72 := Lib.hid T72
    clear T72
    cases rb with
    | false =>
      have e : ce = 7 := HE2.out
      subst e
      have e : cs = 0 := HS.out
      subst e
      go_wp2_with (first
        | (go_at_call 71; (with_reducible refine HT1.out.mono ?_); rintro e W3 ⟨rfl, g3⟩; have k0 := (B2.out.ext g3).cell 0; have G3 := Lib.hid (G2.out.trans (g3.mono G2.out.size)); clear g3)
        | (go_at_call 72; (with_reducible refine (HT72.out _).mono ?_); rintro e w' ⟨rfl, rfl⟩))
      go_ret2
      exact ⟨rfl, G3.out⟩
    | true =>
      have e : ce = 0 := HE2.out
      subst e
      have hq := HRB.out
      unfold rng at hq
      simp only [Bool.and_eq_true, decide_eq_true_eq] at hq
      obtain ⟨b, rfl⟩ : ∃ b : Nat, q = b := ⟨q.toNat, by omega⟩
      have hbH : b < H := by omega
      clear hq
      have HCS := Lib.hid (show cs = comesV xs H i b (turnsS xs H) from HS.out)
      have T73 := fun W (g : Below w.heap.size w W) => hoursRef_any A n cc H xs W (HA.out.below g) HX.out hH hn12
      unfold mv at T73
      have HT73 := Lib.hid T73
      clear T73
      have hdl : (turnsS xs H).length = n := (turns_len xs H).trans hlen.out
      have hdb := turns_1000 xs H
      generalize turnsS xs H = due at HT73 HCS hdl hdb
      have HDL := Lib.hid hdl
      have HDB := Lib.hid hdb
      go_upto_region 10 with (first
        | (go_at_call 71; (with_reducible refine HT1.out.mono ?_); rintro e W3 ⟨rfl, g3⟩; have k0 := (B2.out.ext g3).cell 0; have k1 := (B2.out.ext g3).cell 1; have B3 := Lib.hid (B2.out.ext g3); have G3 := Lib.hid (G2.out.trans (g3.mono G2.out.size)); clear g3)
        | (go_at_call 72; (with_reducible refine (HT72.out _).mono ?_); rintro e w' ⟨rfl, rfl⟩)
        | (go_at_call 73; (with_reducible refine (HT73.out _ G3.out).mono ?_); rintro e W5 ⟨⟨b9, rfl, hb9, hl5⟩, g5⟩; have B5 := Lib.hid (B3.out.ext g5); have L5 := Lib.hid hl5; have G5 := Lib.hid (G3.out.trans (g5.mono G3.out.size)); clear g5 hl5))
      clear k0 k1 m0 m1 HT1 HT72 HT73
      have m0 := B5.out.cell 0
      have m1 := B5.out.cell 1
      obtain ⟨x, hx⟩ : ∃ x, xs[i]? = some x := ⟨_, List.getElem?_eq_getElem (by rw [hlen.out]; exact hin)⟩
      have hxb := HX.out x (List.mem_of_getElem? hx)
      have hxr : hrs xs i = x.hours.toNat := by unfold hrs; rw [List.getD_eq_getElem?_getD, hx]; rfl
      obtain ⟨tb, htb⟩ : ∃ tb, x.hours.toNat.testBit b = tb := ⟨_, rfl⟩
      have T74 := comesRef_any A n cc i b (H : Int) xs x W5 (HA.out.below G5.out) hin hx (by omega) hxb
      rw [htb] at T74
      unfold mv at T74
      have HT74 := Lib.hid T74
      obtain ⟨di, hdi⟩ : ∃ di, due.getD i 0 = di := ⟨_, rfl⟩
      have hde : due[i]? = some di := by rw [← hdi, List.getD_eq_getElem?_getD, List.getElem?_eq_getElem (by omega)]; rfl
      have hdib := hdb di (List.mem_of_getElem? hde)
      obtain ⟨fb, hfb⟩ : ∃ fb, fea xs H b (due.set i (di - 1)) = fb := ⟨_, rfl⟩
      have HVV := Lib.hid (show cs = if (tb && decide (0 < di) && fb) = true then (if freeK xs H i b due n = true then 2 else 1) else 0 by
        have e := comesV_eq (xs := xs) (H := H) (i := i) (b := b) (due := due) (by rw [hlen.out]; exact hin) (by rw [hlen.out]; exact hdl) (fun y hy => (hdb y hy).1) hbH
        rw [hxr, htb, hdi, hfb, hlen.out] at e
        rw [HCS.out, e])
      have HDE := Lib.hid hde
      have HFB := Lib.hid hfb
      clear hdl hdb hx hxb hxr htb T74 hdi hde hfb
      cases tb with
      | false =>
        have e : cs = 0 := by rw [HVV.out]; simp
        subst e
        go_wp2_with (go_at_call 74; (with_reducible refine HT74.out.mono ?_); rintro e W6 ⟨rfl, g6⟩; have G6 := Lib.hid (G5.out.trans (g6.mono G5.out.size)); clear g6)
        go_ret2
        exact ⟨rfl, G6.out⟩
      | true =>
        by_cases hd0 : 0 < di
        case neg =>
          have hdd : decide (0 < di) = false := decide_eq_false hd0
          have e : cs = 0 := by rw [HVV.out, hdd]; simp
          subst e
          go_wp2_with (go_at_call 74; (with_reducible refine HT74.out.mono ?_); rintro e W6 ⟨rfl, g6⟩; have G6 := Lib.hid (G5.out.trans (g6.mono G5.out.size)); have l6 := (L5.out.ext g6).cell i; rw [vals_get, HDE.out] at l6; clear g6)
          go_ret2
          exact ⟨rfl, G6.out⟩
        have hdd : decide (0 < di) = true := decide_eq_true hd0
        have HVV2 := Lib.hid (show cs = if fb = true then (if freeK xs H i b due n = true then 2 else 1) else 0 by rw [HVV.out, hdd]; simp)
        go_upto_region 11 with (go_at_call 74; (with_reducible refine HT74.out.mono ?_); rintro e W6 ⟨rfl, g6⟩; have G6 := Lib.hid (G5.out.trans (g6.mono G5.out.size)); have B6 := Lib.hid (B5.out.ext g6); have L6 := Lib.hid (L5.out.ext g6); have l6 := (L5.out.ext g6).cell i; rw [vals_get, HDE.out] at l6; clear g6)
        clear m0 m1 l6
        have hn0 : 0 < n := by omega
        have O5 := Lib.hid (show OwnL icells 1 3 (W6.alloc (.cells #[] 3)) W6.heap.size (.slice (some ⟨W6.heap.size, 0, none⟩) 0 0) [] from World.ownsRow_made (e := 3) (size := 1) W6 #[] 0 (Nat.le_refl _) (by decide) rfl)
        have I5 := Lib.hid ((L6.out.intsN HDL.out).below (one_more W6 (.cells #[] 3)))
        have s5 := Lib.hid (one_more W6 (.cells #[] 3)).size
        have hl1 : ([] : List Int).length + n ≤ 1000000 := by simp; omega
        go_upto_region 13 with (at_builtin; refine wpList_app kdInt rfl _ _ rfl W6.heap.size (.slice (some ⟨W6.heap.size, 0, none⟩) 0 0) [] rfl O5.out (some ⟨b9, 0, none⟩) n n due rfl I5.out hl1 s5.out ?_; intro v6 w6 ho6 hg6 hat6; obtain ⟨g, c6, rfl, hgl, gb, hset⟩ := app_copy HDL.out hn0 ho6 hg6; obtain ⟨k1, k2, k3, k4⟩ := hset i di (di - 1) HDE.out; have K3 := Lib.hid k3; have K4 := Lib.hid k4; clear ho6 hg6 hat6 gb hset k3 k4)
        obtain ⟨V, hV⟩ : ∃ V, w6.setCell ⟨g, i, none⟩ (.int .i64 (di - 1)) = V := ⟨_, rfl⟩
        rw [hV] at K3 K4 ⊢
        have GV := Lib.hid (G6.out.trans (K3.out.mono G6.out.size))
        have BV := Lib.hid (B6.out.ext K3.out)
        have LV := Lib.hid (L6.out.ext K3.out)
        have m0 := BV.out.cell 0
        have m1 := BV.out.cell 1
        have T76 := fun W (g : Below w.heap.size w W) => barred_any A n cc b (H : Int) xs W (HA.out.below g) HX.out (by omega) hn12
        unfold mv BarPost at T76
        have HT76 := Lib.hid T76
        have T75 := fun W A' c' (gw : Below V.heap.size V W) (ha : Arr ccells 3 W A' n (barL xs b)) => serveBar_any A' (some ⟨g, 0, none⟩) n c' c6 H b xs (due.set i (di - 1)) W hlen.out ha HX.out hH hn12 (K4.out.below gw) (fun y hy => by
          rcases List.mem_or_eq_of_mem_set hy with h1 | h1
          · have := HDB.out y h1; omega
          · omega)
        rw [HFB.out] at T75
        have HT75 := Lib.hid T75
        clear T76 T75 hV k1 k2 O5 I5
        go_upto_region 14 with (first
          | (go_at_call 76; (with_reducible refine (HT76.out _ GV.out).mono ?_); rintro e wa ⟨ga, A', c', rfl, hc', haa⟩; have GA := Lib.hid ga; have HAA := Lib.hid haa; unfold mv; clear ga haa)
          | (go_at_call 75; (with_reducible refine (HT75.out _ _ _ GA.out HAA.out).mono ?_); rintro e wb ⟨⟨P, pc, rfl⟩, gb⟩; have GB := Lib.hid (GA.out.trans (gb.mono GA.out.size)); clear gb))
        clear m0 m1 HT75
        have GVB := Lib.hid (GV.out.trans (GB.out.mono GV.out.size))
        have BB := Lib.hid (BV.out.ext GB.out)
        have LB := Lib.hid (LV.out.ext GB.out)
        cases fb with
        | false =>
          have e : cs = 0 := by rw [HVV2.out]; simp
          subst e
          go_wp2_with fail
          go_ret2
          exact ⟨rfl, GVB.out⟩
        | true =>
          have HVV3 := Lib.hid (show cs = if freeK xs H i b due n = true then 2 else 1 by rw [HVV2.out]; simp)
          have m0 := BB.out.cell 0
          have m1 := BB.out.cell 1
          go_upto_region 17 with (go_at_call 76; (with_reducible refine (HT76.out _ GVB.out).mono ?_); rintro e wc ⟨ga, A2, c2, rfl, hc2, haa⟩; have GC := Lib.hid ga; have HAC := Lib.hid haa; unfold mv; clear ga haa)
          obtain ⟨V0, hV0, g9, -, b12⟩ := box24 wc (H : Int) A2 n c2
          rw [hV0]
          obtain ⟨bx, hbx⟩ : ∃ bx, wc.heap.size = bx := ⟨_, rfl⟩
          rw [hbx] at b12 ⊢
          have GWB := Lib.hid (GVB.out.trans (GC.out.mono GVB.out.size))
          have GV0 := Lib.hid (GWB.out.trans (g9.mono GWB.out.size))
          have MB := Lib.hid ((BB.out.ext GC.out).ext g9)
          have LB0 := Lib.hid ((LB.out.ext GC.out).ext g9)
          have HA2 := Lib.hid (HAC.out.below g9)
          have X12 := Lib.hid b12
          have x0 := b12.cell 0
          have x1 := b12.cell 1
          clear m0 m1 hV0 g9 b12 hbx
          have T75 := fun W D cd (l : List Int) (gw : Below V0.heap.size V0 W) (hd : Ints W D n l) (hb : ∀ x ∈ l, x ≤ 1000) => serveBar_any A2 D n c2 cd H b xs l W hlen.out (HA2.out.below gw) HX.out hH hn12 hd hb
          have HT75 := Lib.hid T75
          have HDB2 := Lib.hid (show ∀ x ∈ due, x ≤ 1000 from fun x hx => by have := HDB.out x hx; omega)
          have T75d := HT75.out V0 (some ⟨b9, 0, none⟩) n due (Below.refl _ _) (LB0.out.intsN HDL.out) HDB2.out
          rw [show fea xs H b due = freeK xs H i b due 0 from rfl] at T75d
          have HT75d := Lib.hid T75d
          clear T75 T75d
          go_upto_region 18 with (go_at_call 75; (with_reducible refine HT75d.out.mono ?_); rintro e wd ⟨⟨P2, pc2, rfl⟩, gd⟩; have GD := Lib.hid (gd.alloc gd.size (.cells #[.slice P2 H pc2] 90)); clear gd)
          clear x0 x1 HT75d
          obtain ⟨Ws, hWs⟩ : ∃ Ws, wd.alloc (.cells #[.slice P2 H pc2] 90) = Ws := ⟨_, rfl⟩
          rw [hWs] at GD ⊢
          clear hWs
          go_wp2_with fail
          go_loopw [14, 15] (fun fr k wr => ∃ k0 : Nat, k0 ≤ n ∧ k = .int .i64 k0 ∧ fr = .bool (freeK xs H i b due k0) ∧ Below V0.heap.size V0 wr) (fun _ k _ => n - (intOf k).toNat)
          case atStart => exact ⟨0, Nat.zero_le _, rfl, rfl, GD.out⟩
          case round =>
            obtain ⟨k, hk, rfl, rfl, hg⟩ := hrel
            rename World => wr
            have HG := Lib.hid hg
            have HGW := Lib.hid (GV0.out.trans (hg.mono GV0.out.size))
            obtain ⟨fk, hfk⟩ : ∃ fk, freeK xs H i b due k = fk := ⟨_, rfl⟩
            have HFK := Lib.hid hfk
            have HNX := Lib.hid (show freeK xs H i b due (k + 1) = (fk || tst xs H i b due k) by rw [← hfk]; rfl)
            have m0 := (MB.out.ext hg).cell 0
            have m1 := (MB.out.ext hg).cell 1
            rw [hfk]
            clear hfk hg
            have EXIT : freeK xs H i b due n = true → cs = 2 := fun e => by rw [HVV3.out, if_pos e]
            have EXIT2 : freeK xs H i b due n = false → cs = 1 := fun e => by rw [HVV3.out, e]; rfl
            have HEX := Lib.hid EXIT
            have HEX2 := Lib.hid EXIT2
            clear EXIT EXIT2
            by_cases hkn : k < n
            case neg =>
              obtain rfl : n = k := by omega
              cases fk with
              | true =>
                have e : cs = 2 := HEX.out HFK.out
                subst e
                go_wp2_with fail
                go_ret2
                exact ⟨rfl, HGW.out⟩
              | false =>
                have e : cs = 1 := HEX2.out HFK.out
                subst e
                go_wp2_with fail
                go_ret2
                exact ⟨rfl, HGW.out⟩
            cases fk with
            | true =>
              have e : cs = 2 := HEX.out (freeK_mono HFK.out n (by omega))
              subst e
              go_wp2_with fail
              go_ret2
              exact ⟨rfl, HGW.out⟩
            | false =>
              by_cases hki : k = i
              · subst hki
                have HN := Lib.hid (show freeK xs H k b due (k + 1) = false by rw [HNX.out]; unfold tst; simp)
                go_wp2_with fail
                go_roundw
                case rel => exact ⟨k + 1, by omega, by go_num, by rw [HN.out], HG.out⟩
                case measure => simp [intOf]; omega
              have hkib : ((k : Int) != (i : Int)) = true := by rw [bne_iff_ne]; omega
              obtain ⟨x2, hx⟩ : ∃ x2, xs[k]? = some x2 := ⟨_, List.getElem?_eq_getElem (by rw [hlen.out]; exact hkn)⟩
              have hxb := HX.out x2 (List.mem_of_getElem? hx)
              have hxr : hrs xs k = x2.hours.toNat := by unfold hrs; rw [List.getD_eq_getElem?_getD, hx]; rfl
              obtain ⟨tb, htb⟩ : ∃ tb, x2.hours.toNat.testBit b = tb := ⟨_, rfl⟩
              have T74 := comesRef_any A n cc k b (H : Int) xs x2 wr (HA.out.below HGW.out) hkn hx (by omega) hxb
              rw [htb] at T74
              unfold mv at T74
              have HT74 := Lib.hid T74
              obtain ⟨dk, hdk⟩ : ∃ dk, due.getD k 0 = dk := ⟨_, rfl⟩
              have hde : due[k]? = some dk := by rw [← hdk, List.getD_eq_getElem?_getD, List.getElem?_eq_getElem (by rw [HDL.out]; exact hkn)]; rfl
              have hdkb := HDB.out dk (List.mem_of_getElem? hde)
              obtain ⟨gb2, hgb2⟩ : ∃ gb2, fea xs H b (due.set k (dk - 1)) = gb2 := ⟨_, rfl⟩
              have HTS := Lib.hid (show tst xs H i b due k = (tb && decide (0 < dk) && gb2) by
                unfold tst; rw [decide_eq_true hki, hxr, htb, hdk, hgb2]; rfl)
              have HDK := Lib.hid hde
              have HGB := Lib.hid hgb2
              clear hx hxb hxr htb T74 hdk hde hgb2
              cases tb with
              | false =>
                have HN := Lib.hid (show freeK xs H i b due (k + 1) = false by rw [HNX.out, HTS.out]; rfl)
                go_wp2_with (go_at_call 74; (with_reducible refine HT74.out.mono ?_); rintro e wt ⟨rfl, gt⟩; have GT := Lib.hid gt; clear gt)
                go_roundw
                case rel => exact ⟨k + 1, by omega, by go_num, by rw [HN.out], HG.out.trans (GT.out.mono HG.out.size)⟩
                case measure => simp [intOf]; omega
              | true =>
                by_cases hd0 : 0 < dk
                case neg =>
                  have hdd : decide (0 < dk) = false := decide_eq_false hd0
                  have HN := Lib.hid (show freeK xs H i b due (k + 1) = false by rw [HNX.out, HTS.out, hdd]; rfl)
                  go_wp2_with (go_at_call 74; (with_reducible refine HT74.out.mono ?_); rintro e wt ⟨rfl, gt⟩; have lt := ((LB0.out.ext HG.out).ext gt).cell k; rw [vals_get, HDK.out] at lt; have GT := Lib.hid gt; clear gt)
                  go_roundw
                  case rel => exact ⟨k + 1, by omega, by go_num, by rw [HN.out], HG.out.trans (GT.out.mono HG.out.size)⟩
                  case measure => simp [intOf]; omega
                have hdd : decide (0 < dk) = true := decide_eq_true hd0
                have HN := Lib.hid (show freeK xs H i b due (k + 1) = gb2 by rw [HNX.out, HTS.out, hdd]; simp)
                go_upto_region 22 with (go_at_call 74; (with_reducible refine HT74.out.mono ?_); rintro e wt ⟨rfl, gt⟩; have lt := ((LB0.out.ext HG.out).ext gt).cell k; rw [vals_get, HDK.out] at lt; have GT := Lib.hid gt; clear gt)
                clear lt m0 m1
                have GVT := Lib.hid (HG.out.trans (GT.out.mono HG.out.size))
                have O5 := Lib.hid (show OwnL icells 1 3 (wt.alloc (.cells #[] 3)) wt.heap.size (.slice (some ⟨wt.heap.size, 0, none⟩) 0 0) [] from World.ownsRow_made (e := 3) (size := 1) wt #[] 0 (Nat.le_refl _) (by decide) rfl)
                have I5 := Lib.hid (((LB0.out.ext GVT.out).intsN HDL.out).below (one_more wt (.cells #[] 3)))
                have s5 := Lib.hid (one_more wt (.cells #[] 3)).size
                have hl2 : ([] : List Int).length + n ≤ 1000000 := by simp; omega
                go_upto_region 24 with (at_builtin; refine wpList_app kdInt rfl _ _ rfl wt.heap.size (.slice (some ⟨wt.heap.size, 0, none⟩) 0 0) [] rfl O5.out (some ⟨b9, 0, none⟩) n n due rfl I5.out hl2 s5.out ?_; intro v6 w7 ho6 hg6 hat6; obtain ⟨g2, c7, rfl, hgl2, gb, hset⟩ := app_copy HDL.out hn0 ho6 hg6; obtain ⟨k1, k2, k3, k4⟩ := hset k dk (dk - 1) HDK.out; have K3' := Lib.hid k3; have K4' := Lib.hid k4; clear ho6 hg6 hat6 gb hset k3 k4)
                obtain ⟨Z, hZ⟩ : ∃ Z, w7.setCell ⟨g2, k, none⟩ (.int .i64 (dk - 1)) = Z := ⟨_, rfl⟩
                rw [hZ] at K3' K4' ⊢
                have GZ := Lib.hid (GVT.out.trans (K3'.out.mono GVT.out.size))
                have x0 := (X12.out.ext GZ.out).cell 0
                have x1 := (X12.out.ext GZ.out).cell 1
                have T75 := HT75.out Z (some ⟨g2, 0, none⟩) c7 (due.set k (dk - 1)) GZ.out K4'.out (fun y hy => by
                  rcases List.mem_or_eq_of_mem_set hy with h1 | h1
                  · exact HDB2.out y h1
                  · omega)
                rw [HGB.out] at T75
                have HT75d := Lib.hid T75
                clear T75 hZ k1 k2 O5 I5
                go_wp2_with (go_at_call 75; (with_reducible refine HT75d.out.mono ?_); rintro e wd2 ⟨⟨P3, pc3, rfl⟩, gd⟩; have GD2 := Lib.hid (GZ.out.trans (gd.mono GZ.out.size)); clear gd)
                go_roundw
                case rel => exact ⟨k + 1, by omega, by go_num, by rw [HN.out], GD2.out⟩
                case measure => simp [intOf]; omega
end Go.Proofs.Ytdhhneflhmkonaa
