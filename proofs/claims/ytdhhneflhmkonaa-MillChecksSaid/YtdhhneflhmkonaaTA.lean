/- The mill: Comes. -/
import Derived.Test.YtdhhneflhmkonaaT9
namespace Go.Proofs.Ytdhhneflhmkonaa
open Go.RowKit Go.Shelf

theorem ownsRow_set {w : World} {base : Nat} {e : TypeId} {size : Nat} {n g o c : Nat} {xs : List Value} (h : w.ownsRow base e size (.slice (some ⟨g, o, none⟩) n c) n xs) (p : Nat) (_hp : p < n * size) (u : Value) :
    (w.setCell ⟨g, p, none⟩ u).ownsRow base e size (.slice (some ⟨g, o, none⟩) n c) n (xs.set p u) ∧ w.frozen? ⟨g, p, none⟩ = false := by
  obtain ⟨h1, h2 | ⟨g', cap, cur, hv, hb, hg, h4, h5, h6, h7⟩⟩ := h
  · obtain ⟨h2, -⟩ := h2; cases h2
  · cases hv
    have hg' : Blk w g e cur := hg
    refine ⟨⟨by rw [List.length_set]; exact h1, .inr ⟨g, c, cur.setIfInBounds p u, rfl, hb, hg'.set_ p u, h4, h5, by simpa using h6, ?_⟩⟩, hg'.frozen p⟩
    rw [← h7, Array.toList_setIfInBounds, List.take_set]
theorem Own.set {w : World} {base : Nat} {g o c : Nat} {l : List Int} (h : Own w base (.slice (some ⟨g, o, none⟩) l.length c) l) (p : Nat) (hp : p < l.length) (y : Int) :
    Own (w.setCell ⟨g, p, none⟩ (.int .i64 y)) base (.slice (some ⟨g, o, none⟩) l.length c) (l.set p y) ∧ w.frozen? ⟨g, p, none⟩ = false := by
  unfold Own at *
  obtain ⟨h1, h2⟩ := ownsRow_set h p (by omega) (.int .i64 y)
  rw [List.length_set, List.map_set]
  exact ⟨h1, h2⟩
theorem Own.get {w : World} {base : Nat} {v : Value} {l : List Int} (h : Own w base v l) (hn : 0 < l.length) : ∃ g c, v = .slice (some ⟨g, 0, none⟩) l.length c ∧ base ≤ g ∧ g < w.heap.size ∧ l.length ≤ c := by
  obtain ⟨h1, h2 | ⟨g, cap, cur, rfl, hb, hg, h4, h5, h6, h7⟩⟩ := h
  · omega
  · exact ⟨g, cap, rfl, hb, Blk.lt (t := 3) (cs := cur) hg, h4⟩
theorem flat_set (h' : Int) : ∀ (xs : List Comer) (i : Nat) (x : Comer), xs[i]? = some x → (xs.flatMap ccells).set (i * 3 + 1) (.int .i64 h') = (xs.set i { x with hours := h' }).flatMap ccells
  | [], i, x, hx => by simp at hx
  | y :: xs, 0, x, hx => by simp at hx; subst hx; simp [ccells]
  | y :: xs, i + 1, x, hx => by
    simp at hx
    have := flat_set h' xs i x hx
    rw [List.flatMap_cons, show (i + 1) * 3 + 1 = (ccells y).length + (i * 3 + 1) by rw [ccells_len]; omega, List.set_append_right _ _ (by omega), Nat.add_sub_cancel_left, this]
    simp
theorem OwnC.get {w : World} {base : Nat} {v : Value} {l : List Comer} (h : OwnC w base v l) (hn : 0 < l.length) : ∃ g c, v = .slice (some ⟨g, 0, none⟩) l.length c ∧ base ≤ g ∧ g < w.heap.size ∧ l.length ≤ c := by
  obtain ⟨h1, h2 | ⟨g, cap, cur, rfl, hb, hg, h4, h5, h6, h7⟩⟩ := h
  · omega
  · exact ⟨g, cap, rfl, hb, Blk.lt (t := 53) (cs := cur) hg, h4⟩
theorem OwnC.setHours {w : World} {base : Nat} {g o c : Nat} {xs : List Comer} (h : OwnC w base (.slice (some ⟨g, o, none⟩) xs.length c) xs) {i : Nat} {x : Comer} (hx : xs[i]? = some x) (y : Int) :
    OwnC (w.setCell ⟨g, i * 3 + 1, none⟩ (.int .i64 y)) base (.slice (some ⟨g, o, none⟩) xs.length c) (xs.set i { x with hours := y }) ∧ w.frozen? ⟨g, i * 3 + 1, none⟩ = false := by
  unfold OwnC at *
  have hi : i < xs.length := (List.getElem?_eq_some_iff.1 hx).1
  obtain ⟨h1, h2⟩ := ownsRow_set h (i * 3 + 1) (by omega) (.int .i64 y)
  rw [List.length_set, ← flat_set y xs i x hx]
  exact ⟨h1, h2⟩

theorem OwnC.far {w : World} {base : Nat} {v : Value} {xs : List Comer} (h : OwnC w base v xs) {p : Addr} (hp : ∀ b, v.ownBlock = some b → b ≠ p.block) (u : Value) : OwnC (w.setCell p u) base v xs :=
  World.ownsRow.kept h (row := some p.block) ⟨rfl, rfl, rfl, by simp [World.setCell], fun k _ hk => Below.heap_setCell _ _ _ _ (fun e => hk (by rw [e]))⟩ (by
    cases hq : v.ownBlock with
    | none => exact .inl rfl
    | some k => exact .inr (fun e => hp k hq (Option.some.inj e)))
theorem and_pow (a b : Nat) : a &&& 2 ^ b = if a.testBit b = true then 2 ^ b else 0 := by
  apply Nat.eq_of_testBit_eq
  intro j
  rw [Nat.testBit_and, Nat.testBit_two_pow]
  by_cases hj : b = j
  · subst hj; cases h : a.testBit b <;> simp
  · cases h : a.testBit b <;> simp [hj]
theorem andBit0 (a b : Nat) (ha : a < 16777216) (hb : b < 24) : (bits .and .i64 (a : Int) ((2 ^ b : Nat) : Int) == 0) = !a.testBit b := by
  have hp : 2 ^ b < 2 ^ 24 := Nat.pow_lt_pow_right (by decide) hb
  rw [and64 _ _ (by omega) (by omega), and_pow]
  have h0 := Nat.two_pow_pos b
  cases a.testBit b
  · rfl
  · simp only [if_true, Bool.not_true, beq_eq_false_iff_ne]; omega

/-- The comer i cannot come at hour b. -/
def clr (xs : List Comer) (i b : Nat) : List Comer := xs.set i { (xs.getD i ⟨0, 0, 0⟩) with hours := ((hrs xs i ^^^ (hrs xs i &&& 2 ^ b) : Nat) : Int) }
theorem clr_len (xs : List Comer) (i b : Nat) : (clr xs i b).length = xs.length := by simp [clr]
theorem clr_hrs (xs : List Comer) (hx : Hrs xs) (i b : Nat) : Hrs (clr xs i b) := by
  intro x hx'
  rcases List.mem_or_eq_of_mem_set hx' with h | h
  · exact hx x h
  · subst h
    have : hrs xs i ^^^ (hrs xs i &&& 2 ^ b) < 2 ^ 24 := Nat.xor_lt_two_pow (n := 24) (hx.lt i) (Nat.lt_of_le_of_lt Nat.and_le_left (hx.lt i))
    dsimp only; omega

def comesE (xs : List Comer) (h f b : Int) : Int := if okMill h xs = true then (if idx xs f < 0 then 57 else if rng b 0 (h - 1) = true then 0 else 7) else 52
/-- May (2), must (1), cannot (0). -/
def comesV (xs : List Comer) (H i b : Nat) (due : List Int) : Int :=
  if (hrs xs i).testBit b = false ∨ due.getD i 0 = 0 then 0
  else if fea xs H b (due.set i (due.getD i 0 - 1)) = true then (if fea (clr xs i b) H (-1) due = true then 2 else 1) else 0
def comesS (xs : List Comer) (h f b : Int) : Int := if comesE xs h f b = 0 then comesV xs h.toNat (idx xs f).toNat b.toNat (turnsS xs h.toNat) else 0

set_option maxRecDepth 100000 in
set_option maxHeartbeats 4000000 in
theorem Comes_any (A : Option Addr) (n cc : Nat) (h f b : Int) (xs : List Comer) (w : World) (ha : Arr ccells 3 w A n xs) (hnc : n ≤ cc) (hn : n ≤ 9223372036854775807) (hh : -9223372036854775808 ≤ h ∧ h ≤ 9223372036854775807) :
    Calls Try.prog 14 #[mv A n cc h, .int .i64 f, .int .i64 b] w fun e w' => e = .returned (.tuple #[.int .i64 (comesS xs h f b), .int .i64 (comesE xs h f b)]) ∧ Below w.heap.size w w' := by
  have HA := Lib.hid ha
  have hlen := Lib.hid ha.1
  obtain ⟨ok, hok⟩ : ∃ ok, okMill h xs = ok := ⟨_, rfl⟩
  have HOK := Lib.hid hok
  have HEE := Lib.hid (show comesE xs h f b = if ok = true then (if idx xs f < 0 then 57 else if rng b 0 (h - 1) = true then 0 else 7) else 52 by rw [← hok]; rfl)
  have HSS := Lib.hid (show comesS xs h f b = if comesE xs h f b = 0 then comesV xs h.toNat (idx xs f).toNat b.toNat (turnsS xs h.toNat) else 0 from rfl)
  generalize comesS xs h f b = cs at HSS ⊢
  generalize comesE xs h f b = ce at HSS HEE ⊢
  clear ha hok
  unfold mv
  go_enter Try.func14, Try.ntmps14
  go_wp2_with fail
  generalize hW1 : w.alloc (.cells #[.int .i64 h, .slice A n cc] 24) = W1
  obtain ⟨g1, c0, c1⟩ := box2 hW1
  have HG1 := Lib.hid g1
  have hb1 : Blk W1 w.heap.size 24 #[.int .i64 h, .slice A n cc] := by rw [← hW1]; exact Blk.new _ _ _
  have HB1 := Lib.hid hb1
  have hwl : w.heap.size < W1.heap.size := by rw [boxSize hW1]; omega
  clear hW1 hb1
  refine (index_any A n cc xs f W1 (HA.out.below g1) hn).mono ?_
  rintro e W2 ⟨rfl, hg2⟩
  have d0 := (hg2.cell (p := ⟨w.heap.size, 0, none⟩) hwl).trans c0
  have d1 := (hg2.cell (p := ⟨w.heap.size, 1, none⟩) hwl).trans c1
  have hwl2 : w.heap.size < W2.heap.size := by have := hg2.size; omega
  have HG2 := Lib.hid (HG1.out.trans (hg2.mono HG1.out.size))
  have HB2 := Lib.hid (HB1.out.ext hg2)
  clear c0 c1 g1 hg2
  go_wp2_with fail
  refine (check_any h A n cc xs W2 (HA.out.below HG2.out) hnc hn).mono ?_
  rw [HOK.out]
  rintro e W3 ⟨rfl, hg3⟩
  have HG3 := Lib.hid (HG2.out.trans (hg3.mono HG2.out.size))
  have e0 := (hg3.cell (p := ⟨w.heap.size, 0, none⟩) hwl2).trans d0
  have e1 := (hg3.cell (p := ⟨w.heap.size, 1, none⟩) hwl2).trans d1
  have hwl3 : w.heap.size < W3.heap.size := by have := hg3.size; omega
  have HB3 := Lib.hid (HB2.out.ext hg3)
  clear d0 d1 hg3
  cases ok with
  | false =>
    rw [show err false 52 = 52 from rfl]
    go_wp2_with fail
    go_ret2
    have e : ce = 52 := HEE.out
    have e' : cs = 0 := by rw [HSS.out, e]; rfl
    rw [e, e']
    exact ⟨rfl, HG3.out⟩
  | true =>
    rw [show err true 52 = 0 from rfl]
    have hO := (okMill_iff h xs).1 HOK.out
    obtain ⟨H, rfl⟩ : ∃ H : Nat, h = H := ⟨h.toNat, by have := hO.h0; omega⟩
    have hH : H ≤ 24 := by have := hO.h24; omega
    have hn12 : n ≤ 12 := by have := hO.n12; have := hlen.out; omega
    have HX := Lib.hid hO.hrs
    clear hO
    have HEE2 := Lib.hid (show ce = if idx xs f < 0 then 57 else if rng b 0 ((H : Int) - 1) = true then 0 else 7 from HEE.out)
    rcases idx_cases xs f with hi | ⟨i, hi, hin, -⟩
    · rw [hi] at HEE2 ⊢
      clear hi
      go_wp2_with fail
      go_ret2
      have e : ce = 57 := by rw [HEE2.out]; rfl
      have e' : cs = 0 := by rw [HSS.out, e]; rfl
      rw [e, e']
      exact ⟨rfl, HG3.out⟩
    · have hin' : i < n := by have := hlen.out; omega
      rw [hi] at HEE2 HSS ⊢
      have HEE3 := Lib.hid (show ce = if rng b 0 ((H : Int) - 1) = true then 0 else 7 by rw [HEE2.out, if_neg (by omega)])
      have HSS2 := Lib.hid (show cs = if ce = 0 then comesV xs H i b.toNat (turnsS xs H) else 0 from HSS.out)
      clear hi
      cases hr : rng b 0 ((H : Int) - 1) with
      | false =>
        go_wp2_with (first | (go_at_call 64; refine (within_any _ _ _ _).mono ?_; rw [hr]; rintro e w' ⟨rfl, rfl⟩))
        go_ret2
        have e : ce = 7 := by rw [HEE3.out, hr]; rfl
        have e' : cs = 0 := by rw [HSS2.out, e]; rfl
        rw [e, e']
        exact ⟨rfl, HG3.out⟩
      | true =>
        have e : ce = 0 := by rw [HEE3.out, hr]; rfl
        have hbb : 0 ≤ b ∧ b < 24 := by simp [rng] at hr; omega
        obtain ⟨q, rfl⟩ : ∃ q : Nat, b = q := ⟨b.toNat, by omega⟩
        have hq : q < 24 := by omega
        have HSS3 := Lib.hid (show cs = comesV xs H i q (turnsS xs H) by rw [HSS2.out, if_pos e]; rfl)
        subst e
        have HT := Lib.hid (turns_any A n cc H xs W3 (HA.out.below HG3.out) HX.out hH hn12)
        go_wp2_with (first | (go_at_call 64; refine (within_any _ _ _ _).mono ?_; rw [hr]; rintro e w' ⟨rfl, rfl⟩))
        refine HT.out.mono ?_
        rintro e W4 ⟨⟨bd, rfl, hbd, hb4⟩, hg4⟩
        have hdl : (turnsS xs H).length = n := (turnsT_len _ _ _).trans hlen.out
        have hdb := turnsT_bd xs H 24
        obtain ⟨due, hdue⟩ : ∃ due, turnsS xs H = due := ⟨_, rfl⟩
        have hdb' : ∀ x ∈ due, 0 ≤ x ∧ x ≤ 24 := by rw [← hdue]; intro x hx; have := hdb x hx; omega
        rw [hdue] at hb4 HSS3 hdl
        have HI4 := Lib.hid (hb4.intsN hdl)
        have HDL := Lib.hid hdl
        have HDB := Lib.hid hdb'
        have HG4 := Lib.hid (HG3.out.trans (hg4.mono HG3.out.size))
        have HB4 := Lib.hid (HB3.out.ext hg4)
        have d0 := (hg4.cell (p := ⟨w.heap.size, 0, none⟩) hwl3).trans e0
        have d1 := (hg4.cell (p := ⟨w.heap.size, 1, none⟩) hwl3).trans e1
        have hwl4 : w.heap.size < W4.heap.size := by have := hg4.size; omega
        have hsh : wrap64 ((2 : Int) ^ q) = ((2 ^ q : Nat) : Int) := by
          have hpq : 2 ^ q < 2 ^ 24 := Nat.pow_lt_pow_right (by decide) hq
          rw [show (2 : Int) ^ q = ((2 ^ q : Nat) : Int) by simp]; generalize 2 ^ q = y at hpq ⊢; exact IntWalk.wrap64_in _ ⟨by omega, by omega⟩
        obtain ⟨ba, oa, x, hAe, -, hx, hca⟩ := comer_at (HA.out.below HG4.out) hin'
        subst hAe
        have q1 := (hca W4 (Below.refl _ _)).2.1
        rw [HX.out.nat hx] at q1
        have HXI := Lib.hid hx
        have hab := andBit0 (hrs xs i) q (HX.out.lt i) hq
        obtain ⟨v, hv⟩ : ∃ v, due[i]? = some v := ⟨_, List.getElem?_eq_getElem (by omega)⟩
        have hvb := HDB.out v (List.mem_of_getElem? hv)
        have hvd : due.getD i 0 = v := by rw [List.getD_eq_getElem?_getD, hv]; rfl
        have e4 : W4.cell? ⟨bd, i, none⟩ = some (.int .i64 v) := by rw [hb4.cell i, vals_get, hv]; rfl
        have HV := Lib.hid hvd
        have hbd4 := hb4.lt
        have HSS4 := Lib.hid (show cs = if (hrs xs i).testBit q = false ∨ v = 0 then 0
            else if fea xs H q (due.set i (v - 1)) = true then (if fea (clr xs i q) H (-1) due = true then 2 else 1) else 0 by rw [HSS3.out, comesV, hvd])
        have HSH := Lib.hid hsh
        have HAB := Lib.hid hab
        clear hg4 hb4 hdl hdb hdb' hdue e0 e1 hca hx hv hvd hsh hab
        cases ht : (hrs xs i).testBit q with
        | false =>
          have hbt : (bits .and .i64 (hrs xs i : Nat) (wrap64 (2 ^ q)) == 0) = true := by rw [HSH.out, HAB.out, ht]; rfl
          go_wp2_with fail
          go_ret2
          have e' : cs = 0 := by rw [HSS4.out, if_pos (.inl ht)]
          rw [e']
          exact ⟨rfl, HG4.out⟩
        | true =>
          have hbt : (bits .and .i64 (hrs xs i : Nat) (wrap64 (2 ^ q)) == 0) = false := by rw [HSH.out, HAB.out, ht]; rfl
          by_cases hv0 : v = 0
          · subst hv0
            go_wp2_with fail
            go_ret2
            have e' : cs = 0 := by rw [HSS4.out]; simp
            rw [e']
            exact ⟨rfl, HG4.out⟩
          · have hv0' : (v == 0) = false := by simpa using hv0
            have HSS5 := Lib.hid (show cs = if fea xs H q (due.set i (v - 1)) = true then (if fea (clr xs i q) H (-1) due = true then 2 else 1) else 0 by
              rw [HSS4.out, if_neg (by rw [ht]; simp [hv0])])
            have HB4n := HB4
            have D0 := Lib.hid d0
            go_wp2_with fail
            refine (cloneInts_any (some ⟨bd, 0, none⟩) n n due W4 HI4.out (by omega)).mono ?_
            rintro e W5 ⟨⟨v5, rfl, ho5⟩, hg5⟩
            obtain ⟨g5, c5, rfl, hge5, hlt5, -⟩ := ho5.get (by have := HDL.out; omega)
            obtain ⟨D5, c5', e5, hi5⟩ := ho5.ints
            cases e5
            obtain ⟨b5, o5, e5, -, -, hc5⟩ := ints_at (n := due.length) hi5 (k := i) (by have := HDL.out; omega)
            cases e5
            have f5 := hc5 W5 (Below.refl _ _)
            rw [HV.out, show 0 + i = i by omega] at f5
            obtain ⟨hos, hfz⟩ := ho5.set i (by have := HDL.out; omega) (v - 1)
            have HOS := Lib.hid hos
            have HG5 := Lib.hid (HG4.out.trans (hg5.mono HG4.out.size))
            have HB5 := Lib.hid (HB4.out.ext hg5)
            have hdl5 := HDL.out
            rw [hdl5]
            rw [hdl5] at HOS
            have hi5n : (i : Int) < n := by omega
            have K46 := Lib.hid (hg5.setCell (p := ⟨g5, i, none⟩) hge5 (.int .i64 (v - 1)))
            clear hg5 hos ho5 hi5 hc5 hdl5
            have HB6 := Lib.hid (HB5.out.far (p := ⟨g5, i, none⟩) (by dsimp only; omega) (.int .i64 (v - 1)))
            have x0 := HB6.out.cell 0
            have x1 := HB6.out.cell 1
            go_wp2_with fail
            clear x0 x1
            obtain ⟨W6, hW6⟩ : ∃ W6, W5.setCell ⟨g5, i, none⟩ (.int .i64 (v - 1)) = W6 := ⟨_, rfl⟩
            rw [hW6] at HOS K46 HB6 ⊢
            have HG6 := Lib.hid (HG4.out.trans (K46.out.mono HG4.out.size))
            obtain ⟨less, hless⟩ : ∃ less, due.set i (v - 1) = less := ⟨_, rfl⟩
            have hll : less.length = n := by rw [← hless, List.length_set]; exact HDL.out
            have hlb : ∀ x ∈ less, x ≤ 9223372036854775807 := by
              rw [← hless]; intro x hx
              rcases List.mem_or_eq_of_mem_set hx with h1 | h1
              · have := HDB.out x h1; omega
              · omega
            rw [hless] at HOS HSS5
            have HLL := Lib.hid hll
            have HLB := Lib.hid hlb
            have c60 := HB6.out.cell 0
            have c61 := HB6.out.cell 1
            clear hW6 hless hll hlb f5 hfz e4 d0 d1 q1
            refine (open_any (some ⟨ba, oa, none⟩) n cc H xs (q : Int) W6 (HA.out.below HG6.out) hH (by omega) (by omega)).mono ?_
            rintro e W7 ⟨bp, bw, left, rfl, hmp, hbw, hl, hlb, hge, hg7⟩
            have HMP := Lib.hid hmp
            have HBW := Lib.hid hbw
            have HLBT := Lib.hid hlb
            have HG7 := Lib.hid hg7
            have HGE := Lib.hid hge
            have hI6 : Ints W6 (some ⟨g5, 0, none⟩) n less := by
              obtain ⟨D, c, e, hi⟩ := HOS.out.ints
              rw [HLL.out] at e hi
              cases e; exact hi
            have hb7 : g5 ≠ bw := by
              obtain ⟨b', o', e', hlt, _⟩ := hI6.2 (by omega); cases e'; omega
            have HI7 := Lib.hid (hI6.below hg7)
            have HDn := Lib.hid (show ∀ b' o', (some ⟨g5, 0, none⟩ : Option Addr) = some ⟨b', o', none⟩ → 0 < n → b' ≠ bw from fun b' o' e _ => by cases e; exact hb7)
            clear hmp hbw hlb hge hg7 hI6 hb7 c60 c61
            go_wp2_with fail
            refine (serve_any bp bw n cc H left c5 (some ⟨ba, oa, none⟩) (some ⟨g5, 0, none⟩) xs less W7 HMP.out HX.out hH hl hn12 HBW.out HI7.out HDn.out HLB.out).mono ?_
            rintro e W8 hsp
            obtain ⟨hf, v8, rfl⟩ := hsp.ok HMP.out.arr.1 HI7.out.1 HLBT.out
            have hg8 : Below W6.heap.size W6 W8 := hf.calm HG7.out HGE.out
            have HG8 := Lib.hid (HG6.out.trans (hg8.mono HG6.out.size))
            have HB8 := Lib.hid (HB6.out.ext hg8)
            have K48 := Lib.hid (K46.out.trans (hg8.mono K46.out.size))
            obtain ⟨yes, hyes⟩ : ∃ yes, fea xs H (q : Int) less = yes := ⟨_, rfl⟩
            have HSS6 := Lib.hid (show cs = if yes = true then (if fea (clr xs i q) H (-1) due = true then 2 else 1) else 0 by rw [← hyes]; exact HSS5.out)
            rw [hyes]
            have c80 := HB8.out.cell 0
            have c81 := HB8.out.cell 1
            have f81 := HB8.out.frozen 1
            have hlt8 := HB8.out.lt
            clear hg8 hf hsp hyes
            go_wp2_with fail
            refine (cloneComers_any (some ⟨ba, oa, none⟩) n cc xs W8 (HA.out.below HG8.out) (by omega)).mono ?_
            rintro e W9 ⟨⟨v9, rfl, ho9⟩, hg9⟩
            obtain ⟨g9, c9, rfl, hge9, hlt9, -⟩ := ho9.get (by omega)
            have hln := hlen.out
            have hb9 := HB8.out.ext hg9
            have ho10 := ho9.far (p := ⟨w.heap.size, 1, none⟩) (fun b e => by cases e; dsimp only; omega) (.slice (some ⟨g9, 0, none⟩) n c9)
            have hb10 := hb9.set_ 1 (.slice (some ⟨g9, 0, none⟩) n c9)
            obtain ⟨hos, hfz⟩ := ho10.setHours HXI.out (bits .andNot .i64 (hrs xs i : Nat) (wrap64 (2 ^ q)))
            have hb11 := hb10.far (p := ⟨g9, i * 3 + 1, none⟩) (by dsimp only; omega) (.int .i64 (bits .andNot .i64 (hrs xs i : Nat) (wrap64 (2 ^ q))))
            have f0 := hb9.frozen 1
            have f1 := hb9.cell 1
            have x0 := hb10.cell 0
            have x1 := hb10.cell 1
            have z0 := hb11.cell 0
            have z1 := hb11.cell 1
            obtain ⟨A10, c10, e10, -, ha10, -⟩ := ho10.arr
            cases e10
            obtain ⟨b', o', x', e', -, hx', hcc⟩ := comer_at ha10 hin
            cases e'
            have y1 := (hcc _ (Below.refl _ _)).2.1
            have hxx : x' = x := by have := HXI.out; rw [hx'] at this; cases this; rfl
            subst hxx
            rw [HX.out.nat HXI.out, show 0 + i * 3 + 1 = i * 3 + 1 by omega] at y1
            have K9 := Lib.hid ((K48.out.trans (hg9.mono K48.out.size)))
            have HG9 := Lib.hid (HG8.out.trans (hg9.mono HG8.out.size))
            have hlt8n : W4.heap.size ≤ W8.heap.size := K48.out.size
            have hpq : 2 ^ q < 2 ^ 24 := Nat.pow_lt_pow_right (by decide) hq
            have han := andNot64 (hrs xs i) (2 ^ q) (by have := HX.out.lt i; omega) (by omega)
            have hcl : xs.set i { x' with hours := bits .andNot .i64 (hrs xs i : Nat) (wrap64 (2 ^ q)) } = clr xs i q := by
              rw [HSH.out, han, clr, List.getD_eq_getElem?_getD, HXI.out]; rfl
            have hcll := clr_len xs i q
            rw [hcl] at hos
            have F11 := (((Fix.of_below (bw := w.heap.size) (bs := g9) K9.out).setCell (p := ⟨w.heap.size, 1, none⟩) (.inl rfl) (.slice (some ⟨g9, 0, none⟩) n c9)).setCell (p := ⟨g9, i * 3 + 1, none⟩) (.inr (.inl rfl)) (.int .i64 (bits .andNot .i64 (hrs xs i : Nat) (wrap64 (2 ^ q)))))
            have HI11 := HI4.out.fix F11 (fun b o e _ => by cases e; omega)
            have HG11 := (HG9.out.setCell (p := ⟨w.heap.size, 1, none⟩) (Nat.le_refl _) (.slice (some ⟨g9, 0, none⟩) n c9)).setCell (p := ⟨g9, i * 3 + 1, none⟩) (by dsimp only; omega) (.int .i64 (bits .andNot .i64 (hrs xs i : Nat) (wrap64 (2 ^ q))))
            obtain ⟨A11, c11, e11, -, ha11, -⟩ := hos.arr
            obtain ⟨rfl, h11, rfl⟩ := Value.slice.inj e11
            rw [← h11, hln] at ha11
            rw [hln]
            have i9 : (i : Int) < n := by omega
            have HFI := Lib.hid HI11
            have HGI := Lib.hid HG11
            have HAI := Lib.hid ha11
            clear HI11 HG11 ha11 F11 hos ho10 hb10 hb9 hb11 ho9 ha10 hcc hx' hg9 han hcl hcll e11 h11
            go_wp2_with fail
            refine (serves_any (some ⟨g9, 0, none⟩) (some ⟨bd, 0, none⟩) n c9 n H (clr xs i q) due _ HAI.out (clr_hrs xs HX.out i q) hH hn12 HFI.out (fun x hx => by have := HDB.out x hx; omega)).mono ?_
            obtain ⟨no, hno⟩ : ∃ no, fea (clr xs i q) H (-1) due = no := ⟨_, rfl⟩
            have HSS7 := Lib.hid (show cs = if yes = true then (if no = true then 2 else 1) else 0 by rw [← hno]; exact HSS6.out)
            rw [hno]
            rintro e W12 ⟨rfl, hg12⟩
            have HG12 := Lib.hid (HGI.out.trans (hg12.mono HGI.out.size))
            clear hg12 hno x0 x1 z0 z1 y1 f0 f1 hfz
            cases yes with
            | false =>
              go_wp2_with fail
              go_ret2
              have e' : cs = 0 := HSS7.out
              rw [e']
              exact ⟨rfl, HG12.out⟩
            | true =>
              cases no with
              | false =>
                go_wp2_with fail
                go_ret2
                have e' : cs = 1 := HSS7.out
                rw [e']
                exact ⟨rfl, HG12.out⟩
              | true =>
                go_wp2_with fail
                go_ret2
                have e' : cs = 2 := HSS7.out
                rw [e']
                exact ⟨rfl, HG12.out⟩
end Go.Proofs.Ytdhhneflhmkonaa
