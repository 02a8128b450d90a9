/- The mill: Comes, Delete, without, Sort, Moved. -/
import Derived.Test.YtdhhneflhmkonaaKC
import Derived.Deep.RegionLaw
import Derived.Lib.SliceRun
import Derived.Ground.NamesProg
import Derived.Shelf.Lay
import Derived.Shelf.Slices.In.SortNone
import Derived.Shelf.Sort.Plain
import Derived.Sort.OwnSortedInts
import Derived.Lib.OwnBridge
import Derived.Deep.CutRange
import Derived.Deep.RegionWith

/- The mill: Comes. -/
namespace Go.Proofs.Ytdhhneflhmkonaa
open Go.RowKit Go.Shelf

theorem ownsRow_set {w : World} {base : Nat} {e : TypeId} {size : Nat} {n g o c : Nat} {xs : List Value} (h : w.ownsRow base e size (.slice (some ⟨g, o, none⟩) n c) n xs) (p : Nat) (_hp : p < n * size) (u : Value) :
    (w.setCell ⟨g, p, none⟩ u).ownsRow base e size (.slice (some ⟨g, o, none⟩) n c) n (xs.set p u) ∧ w.frozen? ⟨g, p, none⟩ = false := by
  obtain ⟨h1, h2 | ⟨g', cap, cur, hv, hb, hg, h4, h5, h6, h7⟩⟩ := h
  · obtain ⟨h2, -⟩ := h2; cases h2
  · cases hv
    have hg' : Blk w g e cur := hg
    refine ⟨⟨by rw [List.length_set]; exact h1, .inr ⟨g, c, cur.setIfInBounds p u, rfl, hb, hg'.set_ p u, h4, h5, by simpa using h6, ?_⟩⟩, hg'.frozen p⟩
    rw [← h7, Array.toList_setIfInBounds, List.take_set]
theorem Own.set {w : World} {base : Nat} {g o c : Nat} {l : List Int} (h : Own w base (.slice (some ⟨g, o, none⟩) l.length c) l) (p : Nat) (hp : p < l.length) (y : Int) :
    Own (w.setCell ⟨g, p, none⟩ (.int .i64 y)) base (.slice (some ⟨g, o, none⟩) l.length c) (l.set p y) ∧ w.frozen? ⟨g, p, none⟩ = false := by
  unfold Own at *
  obtain ⟨h1, h2⟩ := ownsRow_set h p (by omega) (.int .i64 y)
  rw [List.length_set, List.map_set]
  exact ⟨h1, h2⟩
theorem Own.get {w : World} {base : Nat} {v : Value} {l : List Int} (h : Own w base v l) (hn : 0 < l.length) : ∃ g c, v = .slice (some ⟨g, 0, none⟩) l.length c ∧ base ≤ g ∧ g < w.heap.size ∧ l.length ≤ c := by
  obtain ⟨h1, h2 | ⟨g, cap, cur, rfl, hb, hg, h4, h5, h6, h7⟩⟩ := h
  · omega
  · exact ⟨g, cap, rfl, hb, Blk.lt (t := 3) (cs := cur) hg, h4⟩
theorem flat_set (h' : Int) : ∀ (xs : List Comer) (i : Nat) (x : Comer), xs[i]? = some x → (xs.flatMap ccells).set (i * 3 + 1) (.int .i64 h') = (xs.set i { x with hours := h' }).flatMap ccells
  | [], i, x, hx => by simp at hx
  | y :: xs, 0, x, hx => by simp at hx; subst hx; simp [ccells]
  | y :: xs, i + 1, x, hx => by
    simp at hx
    have := flat_set h' xs i x hx
    rw [List.flatMap_cons, show (i + 1) * 3 + 1 = (ccells y).length + (i * 3 + 1) by rw [ccells_len]; omega, List.set_append_right _ _ (by omega), Nat.add_sub_cancel_left, this]
    simp
theorem OwnC.get {w : World} {base : Nat} {v : Value} {l : List Comer} (h : OwnC w base v l) (hn : 0 < l.length) : ∃ g c, v = .slice (some ⟨g, 0, none⟩) l.length c ∧ base ≤ g ∧ g < w.heap.size ∧ l.length ≤ c := by
  obtain ⟨h1, h2 | ⟨g, cap, cur, rfl, hb, hg, h4, h5, h6, h7⟩⟩ := h
  · omega
  · exact ⟨g, cap, rfl, hb, Blk.lt (t := 53) (cs := cur) hg, h4⟩
theorem OwnC.setHours {w : World} {base : Nat} {g o c : Nat} {xs : List Comer} (h : OwnC w base (.slice (some ⟨g, o, none⟩) xs.length c) xs) {i : Nat} {x : Comer} (hx : xs[i]? = some x) (y : Int) :
    OwnC (w.setCell ⟨g, i * 3 + 1, none⟩ (.int .i64 y)) base (.slice (some ⟨g, o, none⟩) xs.length c) (xs.set i { x with hours := y }) ∧ w.frozen? ⟨g, i * 3 + 1, none⟩ = false := by
  unfold OwnC at *
  have hi : i < xs.length := (List.getElem?_eq_some_iff.1 hx).1
  obtain ⟨h1, h2⟩ := ownsRow_set h (i * 3 + 1) (by omega) (.int .i64 y)
  rw [List.length_set, ← flat_set y xs i x hx]
  exact ⟨h1, h2⟩

theorem OwnC.far {w : World} {base : Nat} {v : Value} {xs : List Comer} (h : OwnC w base v xs) {p : Addr} (hp : ∀ b, v.ownBlock = some b → b ≠ p.block) (u : Value) : OwnC (w.setCell p u) base v xs :=
  World.ownsRow.kept h (row := some p.block) ⟨rfl, rfl, rfl, by simp [World.setCell], fun k _ hk => Below.heap_setCell _ _ _ _ (fun e => hk (by rw [e]))⟩ (by
    cases hq : v.ownBlock with
    | none => exact .inl rfl
    | some k => exact .inr (fun e => hp k hq (Option.some.inj e)))
theorem and_pow (a b : Nat) : a &&& 2 ^ b = if a.testBit b = true then 2 ^ b else 0 := by
  apply Nat.eq_of_testBit_eq
  intro j
  rw [Nat.testBit_and, Nat.testBit_two_pow]
  by_cases hj : b = j
  · subst hj; cases h : a.testBit b <;> simp
  · cases h : a.testBit b <;> simp [hj]
theorem andBit0 (a b : Nat) (ha : a < 16777216) (hb : b < 24) : (bits .and .i64 (a : Int) ((2 ^ b : Nat) : Int) == 0) = !a.testBit b := by
  have hp : 2 ^ b < 2 ^ 24 := Nat.pow_lt_pow_right (by decide) hb
  rw [and64 _ _ (by omega) (by omega), and_pow]
  have h0 := Nat.two_pow_pos b
  cases a.testBit b
  · rfl
  · simp only [if_true, Bool.not_true, beq_eq_false_iff_ne]; omega

/-- The comer i cannot come at hour b. -/
def clr (xs : List Comer) (i b : Nat) : List Comer := xs.set i { (xs.getD i ⟨0, 0, 0⟩) with hours := ((hrs xs i ^^^ (hrs xs i &&& 2 ^ b) : Nat) : Int) }
theorem clr_len (xs : List Comer) (i b : Nat) : (clr xs i b).length = xs.length := by simp [clr]
theorem clr_hrs (xs : List Comer) (hx : Hrs xs) (i b : Nat) : Hrs (clr xs i b) := by
  intro x hx'
  rcases List.mem_or_eq_of_mem_set hx' with h | h
  · exact hx x h
  · subst h
    have : hrs xs i ^^^ (hrs xs i &&& 2 ^ b) < 2 ^ 24 := Nat.xor_lt_two_pow (n := 24) (hx.lt i) (Nat.lt_of_le_of_lt Nat.and_le_left (hx.lt i))
    dsimp only; omega

def comesE (xs : List Comer) (h f b : Int) : Int := if okMill h xs = true then (if idx xs f < 0 then 57 else if rng b 0 (h - 1) = true then 0 else 7) else 52
/-- May (2), must (1), cannot (0). -/
def comesV (xs : List Comer) (H i b : Nat) (due : List Int) : Int :=
  if (hrs xs i).testBit b = false ∨ due.getD i 0 = 0 then 0
  else if fea xs H b (due.set i (due.getD i 0 - 1)) = true then (if fea (clr xs i b) H (-1) due = true then 2 else 1) else 0
def comesS (xs : List Comer) (h f b : Int) : Int := if comesE xs h f b = 0 then comesV xs h.toNat (idx xs f).toNat b.toNat (turnsS xs h.toNat) else 0

set_option maxRecDepth 100000 in
set_option maxHeartbeats 4000000 in
theorem Comes_any (A : Option Addr) (n cc : Nat) (h f b : Int) (xs : List Comer) (w : World) (ha : Arr ccells 3 w A n xs) (hnc : n ≤ cc) (hn : n ≤ 9223372036854775807) (hh : -9223372036854775808 ≤ h ∧ h ≤ 9223372036854775807) :
    Calls Try.prog 14 #[mv A n cc h, .int .i64 f, .int .i64 b] w fun e w' => e = .returned (.tuple #[.int .i64 (comesS xs h f b), .int .i64 (comesE xs h f b)]) ∧ Below w.heap.size w w' := by
  have HA := Lib.hid ha
  have hlen := Lib.hid ha.1
  obtain ⟨ok, hok⟩ : ∃ ok, okMill h xs = ok := ⟨_, rfl⟩
  have HOK := Lib.hid hok
  have HEE := Lib.hid (show comesE xs h f b = if ok = true then (if idx xs f < 0 then 57 else if rng b 0 (h - 1) = true then 0 else 7) else 52 by rw [← hok]; rfl)
  have HSS := Lib.hid (show comesS xs h f b = if comesE xs h f b = 0 then comesV xs h.toNat (idx xs f).toNat b.toNat (turnsS xs h.toNat) else 0 from rfl)
  generalize comesS xs h f b = cs at HSS ⊢
  generalize comesE xs h f b = ce at HSS HEE ⊢
  clear ha hok
  unfold mv
  go_enter Try.func14, Try.ntmps14
  go_wp2_with fail
  generalize hW1 : w.alloc (.cells #[.int .i64 h, .slice A n cc] 24) = W1
  obtain ⟨g1, c0, c1⟩ := box2 hW1
  have HG1 := Lib.hid g1
  have hb1 : Blk W1 w.heap.size 24 #[.int .i64 h, .slice A n cc] := by rw [← hW1]; exact Blk.new _ _ _
  have HB1 := Lib.hid hb1
  have hwl : w.heap.size < W1.heap.size := by rw [boxSize hW1]; omega
  clear hW1 hb1
  refine (index_any A n cc xs f W1 (HA.out.below g1) hn).mono ?_
  rintro e W2 ⟨rfl, hg2⟩
  have d0 := (hg2.cell (p := ⟨w.heap.size, 0, none⟩) hwl).trans c0
  have d1 := (hg2.cell (p := ⟨w.heap.size, 1, none⟩) hwl).trans c1
  have hwl2 : w.heap.size < W2.heap.size := by have := hg2.size; omega
  have HG2 := Lib.hid (HG1.out.trans (hg2.mono HG1.out.size))
  have HB2 := Lib.hid (HB1.out.ext hg2)
  clear c0 c1 g1 hg2
  go_wp2_with fail
  refine (check_any h A n cc xs W2 (HA.out.below HG2.out) hnc hn).mono ?_
  rw [HOK.out]
  rintro e W3 ⟨rfl, hg3⟩
  have HG3 := Lib.hid (HG2.out.trans (hg3.mono HG2.out.size))
  have e0 := (hg3.cell (p := ⟨w.heap.size, 0, none⟩) hwl2).trans d0
  have e1 := (hg3.cell (p := ⟨w.heap.size, 1, none⟩) hwl2).trans d1
  have hwl3 : w.heap.size < W3.heap.size := by have := hg3.size; omega
  have HB3 := Lib.hid (HB2.out.ext hg3)
  clear d0 d1 hg3
  cases ok with
  | false =>
    rw [show err false 52 = 52 from rfl]
    go_wp2_with fail
    go_ret2
    have e : ce = 52 := HEE.out
    have e' : cs = 0 := by rw [HSS.out, e]; rfl
    rw [e, e']
    exact ⟨rfl, HG3.out⟩
  | true =>
    rw [show err true 52 = 0 from rfl]
    have hO := (okMill_iff h xs).1 HOK.out
    obtain ⟨H, rfl⟩ : ∃ H : Nat, h = H := ⟨h.toNat, by have := hO.h0; omega⟩
    have hH : H ≤ 24 := by have := hO.h24; omega
    have hn12 : n ≤ 12 := by have := hO.n12; have := hlen.out; omega
    have HX := Lib.hid hO.hrs
    clear hO
    have HEE2 := Lib.hid (show ce = if idx xs f < 0 then 57 else if rng b 0 ((H : Int) - 1) = true then 0 else 7 from HEE.out)
    rcases idx_cases xs f with hi | ⟨i, hi, hin, -⟩
    · rw [hi] at HEE2 ⊢
      clear hi
      go_wp2_with fail
      go_ret2
      have e : ce = 57 := by rw [HEE2.out]; rfl
      have e' : cs = 0 := by rw [HSS.out, e]; rfl
      rw [e, e']
      exact ⟨rfl, HG3.out⟩
    · have hin' : i < n := by have := hlen.out; omega
      rw [hi] at HEE2 HSS ⊢
      have HEE3 := Lib.hid (show ce = if rng b 0 ((H : Int) - 1) = true then 0 else 7 by rw [HEE2.out, if_neg (by omega)])
      have HSS2 := Lib.hid (show cs = if ce = 0 then comesV xs H i b.toNat (turnsS xs H) else 0 from HSS.out)
      clear hi
      cases hr : rng b 0 ((H : Int) - 1) with
      | false =>
        go_wp2_with (first | (go_at_call 64; refine (within_any _ _ _ _).mono ?_; rw [hr]; rintro e w' ⟨rfl, rfl⟩))
        go_ret2
        have e : ce = 7 := by rw [HEE3.out, hr]; rfl
        have e' : cs = 0 := by rw [HSS2.out, e]; rfl
        rw [e, e']
        exact ⟨rfl, HG3.out⟩
      | true =>
        have e : ce = 0 := by rw [HEE3.out, hr]; rfl
        have hbb : 0 ≤ b ∧ b < 24 := by simp [rng] at hr; omega
        obtain ⟨q, rfl⟩ : ∃ q : Nat, b = q := ⟨b.toNat, by omega⟩
        have hq : q < 24 := by omega
        have HSS3 := Lib.hid (show cs = comesV xs H i q (turnsS xs H) by rw [HSS2.out, if_pos e]; rfl)
        subst e
        have HT := Lib.hid (turns_any A n cc H xs W3 (HA.out.below HG3.out) HX.out hH hn12)
        go_wp2_with (first | (go_at_call 64; refine (within_any _ _ _ _).mono ?_; rw [hr]; rintro e w' ⟨rfl, rfl⟩))
        refine HT.out.mono ?_
        rintro e W4 ⟨⟨bd, rfl, hbd, hb4⟩, hg4⟩
        have hdl : (turnsS xs H).length = n := (turnsT_len _ _ _).trans hlen.out
        have hdb := turnsT_bd xs H 24
        obtain ⟨due, hdue⟩ : ∃ due, turnsS xs H = due := ⟨_, rfl⟩
        have hdb' : ∀ x ∈ due, 0 ≤ x ∧ x ≤ 24 := by rw [← hdue]; intro x hx; have := hdb x hx; omega
        rw [hdue] at hb4 HSS3 hdl
        have HI4 := Lib.hid (hb4.intsN hdl)
        have HDL := Lib.hid hdl
        have HDB := Lib.hid hdb'
        have HG4 := Lib.hid (HG3.out.trans (hg4.mono HG3.out.size))
        have HB4 := Lib.hid (HB3.out.ext hg4)
        have d0 := (hg4.cell (p := ⟨w.heap.size, 0, none⟩) hwl3).trans e0
        have d1 := (hg4.cell (p := ⟨w.heap.size, 1, none⟩) hwl3).trans e1
        have hwl4 : w.heap.size < W4.heap.size := by have := hg4.size; omega
        have hsh : wrap64 ((2 : Int) ^ q) = ((2 ^ q : Nat) : Int) := by
          have hpq : 2 ^ q < 2 ^ 24 := Nat.pow_lt_pow_right (by decide) hq
          rw [show (2 : Int) ^ q = ((2 ^ q : Nat) : Int) by simp]; generalize 2 ^ q = y at hpq ⊢; exact IntWalk.wrap64_in _ ⟨by omega, by omega⟩
        obtain ⟨ba, oa, x, hAe, -, hx, hca⟩ := comer_at (HA.out.below HG4.out) hin'
        subst hAe
        have q1 := (hca W4 (Below.refl _ _)).2.1
        rw [HX.out.nat hx] at q1
        have HXI := Lib.hid hx
        have hab := andBit0 (hrs xs i) q (HX.out.lt i) hq
        obtain ⟨v, hv⟩ : ∃ v, due[i]? = some v := ⟨_, List.getElem?_eq_getElem (by omega)⟩
        have hvb := HDB.out v (List.mem_of_getElem? hv)
        have hvd : due.getD i 0 = v := by rw [List.getD_eq_getElem?_getD, hv]; rfl
        have e4 : W4.cell? ⟨bd, i, none⟩ = some (.int .i64 v) := by rw [hb4.cell i, vals_get, hv]; rfl
        have HV := Lib.hid hvd
        have hbd4 := hb4.lt
        have HSS4 := Lib.hid (show cs = if (hrs xs i).testBit q = false ∨ v = 0 then 0
            else if fea xs H q (due.set i (v - 1)) = true then (if fea (clr xs i q) H (-1) due = true then 2 else 1) else 0 by rw [HSS3.out, comesV, hvd])
        have HSH := Lib.hid hsh
        have HAB := Lib.hid hab
        clear hg4 hb4 hdl hdb hdb' hdue e0 e1 hca hx hv hvd hsh hab
        cases ht : (hrs xs i).testBit q with
        | false =>
          have hbt : (bits .and .i64 (hrs xs i : Nat) (wrap64 (2 ^ q)) == 0) = true := by rw [HSH.out, HAB.out, ht]; rfl
          go_wp2_with fail
          go_ret2
          have e' : cs = 0 := by rw [HSS4.out, if_pos (.inl ht)]
          rw [e']
          exact ⟨rfl, HG4.out⟩
        | true =>
          have hbt : (bits .and .i64 (hrs xs i : Nat) (wrap64 (2 ^ q)) == 0) = false := by rw [HSH.out, HAB.out, ht]; rfl
          by_cases hv0 : v = 0
          · subst hv0
            go_wp2_with fail
            go_ret2
            have e' : cs = 0 := by rw [HSS4.out]; simp
            rw [e']
            exact ⟨rfl, HG4.out⟩
          · have hv0' : (v == 0) = false := by simpa using hv0
            have HSS5 := Lib.hid (show cs = if fea xs H q (due.set i (v - 1)) = true then (if fea (clr xs i q) H (-1) due = true then 2 else 1) else 0 by
              rw [HSS4.out, if_neg (by rw [ht]; simp [hv0])])
            have HB4n := HB4
            have D0 := Lib.hid d0
            go_wp2_with fail
            refine (cloneInts_any (some ⟨bd, 0, none⟩) n n due W4 HI4.out (by omega)).mono ?_
            rintro e W5 ⟨⟨v5, rfl, ho5⟩, hg5⟩
            obtain ⟨g5, c5, rfl, hge5, hlt5, -⟩ := ho5.get (by have := HDL.out; omega)
            obtain ⟨D5, c5', e5, hi5⟩ := ho5.ints
            cases e5
            obtain ⟨b5, o5, e5, -, -, hc5⟩ := ints_at (n := due.length) hi5 (k := i) (by have := HDL.out; omega)
            cases e5
            have f5 := hc5 W5 (Below.refl _ _)
            rw [HV.out, show 0 + i = i by omega] at f5
            obtain ⟨hos, hfz⟩ := ho5.set i (by have := HDL.out; omega) (v - 1)
            have HOS := Lib.hid hos
            have HG5 := Lib.hid (HG4.out.trans (hg5.mono HG4.out.size))
            have HB5 := Lib.hid (HB4.out.ext hg5)
            have hdl5 := HDL.out
            rw [hdl5]
            rw [hdl5] at HOS
            have hi5n : (i : Int) < n := by omega
            have K46 := Lib.hid (hg5.setCell (p := ⟨g5, i, none⟩) hge5 (.int .i64 (v - 1)))
            clear hg5 hos ho5 hi5 hc5 hdl5
            have HB6 := Lib.hid (HB5.out.far (p := ⟨g5, i, none⟩) (by dsimp only; omega) (.int .i64 (v - 1)))
            have x0 := HB6.out.cell 0
            have x1 := HB6.out.cell 1
            go_wp2_with fail
            clear x0 x1
            obtain ⟨W6, hW6⟩ : ∃ W6, W5.setCell ⟨g5, i, none⟩ (.int .i64 (v - 1)) = W6 := ⟨_, rfl⟩
            rw [hW6] at HOS K46 HB6 ⊢
            have HG6 := Lib.hid (HG4.out.trans (K46.out.mono HG4.out.size))
            obtain ⟨less, hless⟩ : ∃ less, due.set i (v - 1) = less := ⟨_, rfl⟩
            have hll : less.length = n := by rw [← hless, List.length_set]; exact HDL.out
            have hlb : ∀ x ∈ less, x ≤ 9223372036854775807 := by
              rw [← hless]; intro x hx
              rcases List.mem_or_eq_of_mem_set hx with h1 | h1
              · have := HDB.out x h1; omega
              · omega
            rw [hless] at HOS HSS5
            have HLL := Lib.hid hll
            have HLB := Lib.hid hlb
            have c60 := HB6.out.cell 0
            have c61 := HB6.out.cell 1
            clear hW6 hless hll hlb f5 hfz e4 d0 d1 q1
            refine (open_any (some ⟨ba, oa, none⟩) n cc H xs (q : Int) W6 (HA.out.below HG6.out) hH (by omega) (by omega)).mono ?_
            rintro e W7 ⟨bp, bw, left, rfl, hmp, hbw, hl, hlb, hge, hg7⟩
            have HMP := Lib.hid hmp
            have HBW := Lib.hid hbw
            have HLBT := Lib.hid hlb
            have HG7 := Lib.hid hg7
            have HGE := Lib.hid hge
            have hI6 : Ints W6 (some ⟨g5, 0, none⟩) n less := by
              obtain ⟨D, c, e, hi⟩ := HOS.out.ints
              rw [HLL.out] at e hi
              cases e; exact hi
            have hb7 : g5 ≠ bw := by
              obtain ⟨b', o', e', hlt, _⟩ := hI6.2 (by omega); cases e'; omega
            have HI7 := Lib.hid (hI6.below hg7)
            have HDn := Lib.hid (show ∀ b' o', (some ⟨g5, 0, none⟩ : Option Addr) = some ⟨b', o', none⟩ → 0 < n → b' ≠ bw from fun b' o' e _ => by cases e; exact hb7)
            clear hmp hbw hlb hge hg7 hI6 hb7 c60 c61
            go_wp2_with fail
            refine (serve_any bp bw n cc H left c5 (some ⟨ba, oa, none⟩) (some ⟨g5, 0, none⟩) xs less W7 HMP.out HX.out hH hl hn12 HBW.out HI7.out HDn.out HLB.out).mono ?_
            rintro e W8 hsp
            obtain ⟨hf, v8, rfl⟩ := hsp.ok HMP.out.arr.1 HI7.out.1 HLBT.out
            have hg8 : Below W6.heap.size W6 W8 := hf.calm HG7.out HGE.out
            have HG8 := Lib.hid (HG6.out.trans (hg8.mono HG6.out.size))
            have HB8 := Lib.hid (HB6.out.ext hg8)
            have K48 := Lib.hid (K46.out.trans (hg8.mono K46.out.size))
            obtain ⟨yes, hyes⟩ : ∃ yes, fea xs H (q : Int) less = yes := ⟨_, rfl⟩
            have HSS6 := Lib.hid (show cs = if yes = true then (if fea (clr xs i q) H (-1) due = true then 2 else 1) else 0 by rw [← hyes]; exact HSS5.out)
            rw [hyes]
            have c80 := HB8.out.cell 0
            have c81 := HB8.out.cell 1
            have f81 := HB8.out.frozen 1
            have hlt8 := HB8.out.lt
            clear hg8 hf hsp hyes
            go_wp2_with fail
            refine (cloneComers_any (some ⟨ba, oa, none⟩) n cc xs W8 (HA.out.below HG8.out) (by omega)).mono ?_
            rintro e W9 ⟨⟨v9, rfl, ho9⟩, hg9⟩
            obtain ⟨g9, c9, rfl, hge9, hlt9, -⟩ := ho9.get (by omega)
            have hln := hlen.out
            have hb9 := HB8.out.ext hg9
            have ho10 := ho9.far (p := ⟨w.heap.size, 1, none⟩) (fun b e => by cases e; dsimp only; omega) (.slice (some ⟨g9, 0, none⟩) n c9)
            have hb10 := hb9.set_ 1 (.slice (some ⟨g9, 0, none⟩) n c9)
            obtain ⟨hos, hfz⟩ := ho10.setHours HXI.out (bits .andNot .i64 (hrs xs i : Nat) (wrap64 (2 ^ q)))
            have hb11 := hb10.far (p := ⟨g9, i * 3 + 1, none⟩) (by dsimp only; omega) (.int .i64 (bits .andNot .i64 (hrs xs i : Nat) (wrap64 (2 ^ q))))
            have f0 := hb9.frozen 1
            have f1 := hb9.cell 1
            have x0 := hb10.cell 0
            have x1 := hb10.cell 1
            have z0 := hb11.cell 0
            have z1 := hb11.cell 1
            obtain ⟨A10, c10, e10, -, ha10, -⟩ := ho10.arr
            cases e10
            obtain ⟨b', o', x', e', -, hx', hcc⟩ := comer_at ha10 hin
            cases e'
            have y1 := (hcc _ (Below.refl _ _)).2.1
            have hxx : x' = x := by have := HXI.out; rw [hx'] at this; cases this; rfl
            subst hxx
            rw [HX.out.nat HXI.out, show 0 + i * 3 + 1 = i * 3 + 1 by omega] at y1
            have K9 := Lib.hid ((K48.out.trans (hg9.mono K48.out.size)))
            have HG9 := Lib.hid (HG8.out.trans (hg9.mono HG8.out.size))
            have hlt8n : W4.heap.size ≤ W8.heap.size := K48.out.size
            have hpq : 2 ^ q < 2 ^ 24 := Nat.pow_lt_pow_right (by decide) hq
            have han := andNot64 (hrs xs i) (2 ^ q) (by have := HX.out.lt i; omega) (by omega)
            have hcl : xs.set i { x' with hours := bits .andNot .i64 (hrs xs i : Nat) (wrap64 (2 ^ q)) } = clr xs i q := by
              rw [HSH.out, han, clr, List.getD_eq_getElem?_getD, HXI.out]; rfl
            have hcll := clr_len xs i q
            rw [hcl] at hos
            have F11 := (((Fix.of_below (bw := w.heap.size) (bs := g9) K9.out).setCell (p := ⟨w.heap.size, 1, none⟩) (.inl rfl) (.slice (some ⟨g9, 0, none⟩) n c9)).setCell (p := ⟨g9, i * 3 + 1, none⟩) (.inr (.inl rfl)) (.int .i64 (bits .andNot .i64 (hrs xs i : Nat) (wrap64 (2 ^ q)))))
            have HI11 := HI4.out.fix F11 (fun b o e _ => by cases e; omega)
            have HG11 := (HG9.out.setCell (p := ⟨w.heap.size, 1, none⟩) (Nat.le_refl _) (.slice (some ⟨g9, 0, none⟩) n c9)).setCell (p := ⟨g9, i * 3 + 1, none⟩) (by dsimp only; omega) (.int .i64 (bits .andNot .i64 (hrs xs i : Nat) (wrap64 (2 ^ q))))
            obtain ⟨A11, c11, e11, -, ha11, -⟩ := hos.arr
            obtain ⟨rfl, h11, rfl⟩ := Value.slice.inj e11
            rw [← h11, hln] at ha11
            rw [hln]
            have i9 : (i : Int) < n := by omega
            have HFI := Lib.hid HI11
            have HGI := Lib.hid HG11
            have HAI := Lib.hid ha11
            clear HI11 HG11 ha11 F11 hos ho10 hb10 hb9 hb11 ho9 ha10 hcc hx' hg9 han hcl hcll e11 h11
            go_wp2_with fail
            refine (serves_any (some ⟨g9, 0, none⟩) (some ⟨bd, 0, none⟩) n c9 n H (clr xs i q) due _ HAI.out (clr_hrs xs HX.out i q) hH hn12 HFI.out (fun x hx => by have := HDB.out x hx; omega)).mono ?_
            obtain ⟨no, hno⟩ : ∃ no, fea (clr xs i q) H (-1) due = no := ⟨_, rfl⟩
            have HSS7 := Lib.hid (show cs = if yes = true then (if no = true then 2 else 1) else 0 by rw [← hno]; exact HSS6.out)
            rw [hno]
            rintro e W12 ⟨rfl, hg12⟩
            have HG12 := Lib.hid (HGI.out.trans (hg12.mono HGI.out.size))
            clear hg12 hno x0 x1 z0 z1 y1 f0 f1 hfz
            cases yes with
            | false =>
              go_wp2_with fail
              go_ret2
              have e' : cs = 0 := HSS7.out
              rw [e']
              exact ⟨rfl, HG12.out⟩
            | true =>
              cases no with
              | false =>
                go_wp2_with fail
                go_ret2
                have e' : cs = 1 := HSS7.out
                rw [e']
                exact ⟨rfl, HG12.out⟩
              | true =>
                go_wp2_with fail
                go_ret2
                have e' : cs = 2 := HSS7.out
                rw [e']
                exact ⟨rfl, HG12.out⟩
end Go.Proofs.Ytdhhneflhmkonaa

/- slices.Delete, of one comer. -/
namespace Go.Proofs.Ytdhhneflhmkonaa
open Go.RowKit Go.Shelf

/-- The cells that move one comer to the left. -/
def movedC (xs : List Comer) (i : Nat) : List Value := (xs.drop (i + 1)).flatMap ccells
theorem movedC_len (xs : List Comer) (i : Nat) : (movedC xs i).length = (xs.length - (i + 1)) * 3 := by
  unfold movedC; rw [flat_len ccells_len, List.length_drop]

theorem run_clear_one (w : World) (ty : TypeId) (b o c : Nat) (hc : ∀ j, j < 3 → (w.cell? ⟨b, o + j, none⟩).isSome = true) (hf : ∀ j, j < 3 → w.frozen? ⟨b, o + j, none⟩ = false) :
    (Builtin.clear_ #[22] ty #[.slice (some ⟨b, o, none⟩) 1 c]).run Try.prog w = .ok (.tuple #[]) (w.setCells b o [.int .i64 0, .int .i64 0, .int .i64 0]) := by
  obtain ⟨i, hi, hz0, hz1, hz2⟩ := info_parts info53
  have hv : ∀ w, (zeroValue 53).run Try.prog w = .ok (.agg #[.int .i64 0, .int .i64 0, .int .i64 0]) w := by
    intro w; simp [zeroValue, typeInfo, hi, hz0]
  have hst := run_storeCells_cells (P := Try.prog) b o [.int .i64 0, .int .i64 0, .int .i64 0] 0 w (by simpa using hc) (by simpa using hf) (by intro v hv'; simp at hv'; subst hv'; rfl)
  simp only [Nat.add_zero] at hst
  have hzc : (Builtin.zeroCells (Value.agg #[.int .i64 0, .int .i64 0, .int .i64 0]).cells 1).toList = [.int .i64 0, .int .i64 0, .int .i64 0] := by kernel_rfl
  simp [Builtin.clear_, run_underlying under22, hv, hzc, hst]

set_option maxHeartbeats 1600000 in
set_option maxRecDepth 1000000 in
theorem delete_any (b n c i : Nat) (xs : List Comer) (w : World) (hi : i < n) (hnc : n ≤ c) (hcm : c ≤ 9223372036854775807) (hl : xs.length = n) (hn : n ≤ 1000000)
    (hc : ∀ k x, xs[k]? = some x → ∀ j u, (ccells x)[j]? = some u → w.cell? ⟨b, k * 3 + j, none⟩ = some u) (hf : ∀ j, w.frozen? ⟨b, j, none⟩ = false) :
    Calls Try.prog 102 #[.slice (some ⟨b, 0, none⟩) n c, .int .i64 i, .int .i64 ((i : Int) + 1)] w fun e w' => e = .returned (.slice (some ⟨b, 0, none⟩) (n - 1) c) ∧
      w' = (w.drew.setCells b (i * 3) (movedC xs i)).setCells b ((n - 1) * 3) [.int .i64 0, .int .i64 0, .int .i64 0] := by
  obtain ⟨m, rfl⟩ : ∃ m, n = m + 1 := ⟨n - 1, by omega⟩
  obtain ⟨i0, hi0, hz0, hz1, hz2⟩ := info_parts info53
  have hsome : ∀ j, j < (m + 1) * 3 → (w.cell? ⟨b, j, none⟩).isSome = true := by
    intro j hj
    have hk : j / 3 < xs.length := by omega
    have := hc (j / 3) _ (List.getElem?_eq_getElem hk) (j % 3) _ (List.getElem?_eq_getElem (by rw [ccells_len]; exact Nat.mod_lt _ (by decide)))
    rw [show j / 3 * 3 + j % 3 = j by omega] at this
    rw [this]; rfl
  obtain ⟨A, hA, hnews⟩ : ∃ A : Addr, (if c = i + 1 then some (⟨b, 0, none⟩ : Addr) else some ⟨b, (i + 1) * 3, none⟩) = some A ∧ Hid (∀ j u, (movedC xs i)[j]? = some u → w.drew.cell? (A.add j) = some u) := by
    by_cases h : c = i + 1
    · refine ⟨⟨b, 0, none⟩, by simp [h], fun j u hu => ?_⟩
      have h0 : (movedC xs i).length = 0 := by rw [movedC_len]; omega
      rw [List.length_eq_zero_iff.1 h0] at hu
      simp at hu
    · refine ⟨⟨b, (i + 1) * 3, none⟩, by simp [h], fun j u hu => ?_⟩
      unfold movedC at hu
      rw [show j = j / 3 * 3 + j % 3 by omega, flat_get ccells_len _ _ _ (Nat.mod_lt _ (by decide))] at hu
      obtain ⟨x, hx, hxu⟩ := Option.bind_eq_some_iff.1 hu
      rw [List.getElem?_drop] at hx
      have := hc _ x hx _ u hxu
      rw [add_at, show (i + 1) * 3 + j = (i + 1 + j / 3) * 3 + j % 3 by omega]
      exact this
  have s1 : Hid ((movedC xs i).length = (m - i) * 3) := by rw [movedC_len, hl, Nat.add_sub_add_right]; rfl
  have s2 : Hid (∀ u ∈ movedC xs i, u.oneCell' = true) := by
    intro u hu
    obtain ⟨x, -, hx⟩ := List.mem_flatMap.1 hu
    simp [ccells] at hx
    rcases hx with rfl | rfl | rfl <;> rfl
  have s3 : Hid (∀ j, j < (movedC xs i).length → (w.drew.cell? ⟨b, 0 + i * 3 + j, none⟩).isSome = true ∧ w.drew.frozen? ⟨b, 0 + i * 3 + j, none⟩ = false) := by
    intro j hj
    rw [movedC_len] at hj
    exact ⟨hsome _ (by omega), hf _⟩
  have hi1 : ((i : Int) + 1).toNat = i + 1 := by omega
  have hne : ((i : Int) == (i : Int) + 1) = false := by simp; omega
  have hp0 : (0 : Int) ≤ (i : Int) + 1 := by omega
  have hp1 : (i : Int) + 1 ≤ ((m + 1 : Nat) : Int) := by omega
  have hp2 : (i : Int) + 1 ≤ (c : Int) := by omega
  have hic : i ≤ c := by omega
  have HS := Lib.hid hsome
  have HF := Lib.hid hf
  clear hc hf hsome
  go_enter Try.func102, Try.ntmps102
  go_wp2_with fail
  have hst : i + (m - i) = m := by omega
  have him : i ≤ m := by omega
  have hroom : i + (m - i) ≤ c := by omega
  go_region_law (refine step_append_room rfl (.tmp 22) (.tmp 25) 22 rfl 53 i0 3 under22 hi0 hz1 b 0 i c (by simp [Act.eval, Act.put]) A (m - i) (c - (i + 1)) (movedC xs i) (by simp [Act.eval, Act.put]) s1.out hnews.out s2.out hroom s3.out ?_)
  have hcmn : ¬ c = m := by omega
  have hmc : m + 1 ≤ c := by omega
  have h11 : m + 1 - m = 1 := by omega
  have hclr : ∀ ty, (Builtin.clear_ #[22] ty #[.slice (some ⟨b, m * 3, none⟩) 1 (c - m)]).run Try.prog (w.drew.setCells b (i * 3) (movedC xs i)) = _ := fun ty => run_clear_one _ ty b (m * 3) (c - m) (fun j hj => by
      by_cases hin : m * 3 + j < i * 3 + (movedC xs i).length
      · have := World.cell?_setCells_in b (movedC xs i) (i * 3) w.drew (fun j hj => by
          rw [movedC_len, hl, Nat.add_sub_add_right] at hj
          exact HS.out _ (by omega)) (m * 3 + j - i * 3) (by omega)
        rw [show i * 3 + (m * 3 + j - i * 3) = m * 3 + j by omega] at this
        rw [this]; rfl
      · rw [World.cell?_setCells_out b (movedC xs i) (i * 3) w.drew ⟨b, m * 3 + j, none⟩ (fun _ _ => .inr (by dsimp only; omega))]
        exact HS.out _ (by omega)) (fun j hj => by rw [World.frozen?_setCells]; exact HF.out _)
  generalize hW5 : w.drew.setCells b (i * 3) (movedC xs i) = W5 at hclr ⊢
  have HW5 := Lib.hid hW5
  clear hW5
  go_wp2_with fail
  go_ret
  exact ⟨rfl, by rw [HW5.out]; rfl⟩

/-- What stands behind Delete. -/
theorem delete_arr {b n i : Nat} {xs : List Comer} {w : World} (hi : i < n) (hl : xs.length = n) (hb : b < w.heap.size)
    (hc : ∀ k x, xs[k]? = some x → ∀ j u, (ccells x)[j]? = some u → w.cell? ⟨b, k * 3 + j, none⟩ = some u) :
    Arr ccells 3 ((w.drew.setCells b (i * 3) (movedC xs i)).setCells b ((n - 1) * 3) [.int .i64 0, .int .i64 0, .int .i64 0]) (some ⟨b, 0, none⟩) (n - 1) (xs.eraseIdx i) := by
  have hsz : ∀ (vs : List Value) (o : Nat) (w : World), (w.setCells b o vs).heap.size = w.heap.size := by
    intro vs
    induction vs with
    | nil => intro o w; rfl
    | cons v vs ih => intro o w; rw [World.setCells, ih]; simp [World.setCell]
  refine ⟨by rw [List.length_eraseIdx, if_pos (by omega)]; omega, fun _ => ⟨b, 0, rfl, by rw [hsz, hsz]; exact hb, fun k x hx j u hu => ?_⟩⟩
  have hj : j < 3 := by
    rcases Nat.lt_or_ge j 3 with h | h
    · exact h
    · rw [List.getElem?_eq_none (by rw [ccells_len]; exact h)] at hu; cases hu
  have hk : k < n - 1 := by
    have := (List.getElem?_eq_some_iff.1 hx).1
    rw [List.length_eraseIdx, if_pos (by omega)] at this
    omega
  rw [show 0 + k * 3 + j = k * 3 + j by omega]
  rw [World.cell?_setCells_out b _ ((n - 1) * 3) _ ⟨b, k * 3 + j, none⟩ (fun _ _ => .inl (by dsimp only; omega))]
  rw [List.getElem?_eraseIdx] at hx
  split at hx
  · rw [World.cell?_setCells_out b _ (i * 3) _ ⟨b, k * 3 + j, none⟩ (fun _ _ => .inl (by dsimp only; omega))]
    exact hc k x hx j u hu
  · rename_i hki
    have hml := movedC_len xs i
    have hin : k * 3 + j - i * 3 < (movedC xs i).length := by rw [hml]; omega
    have := World.cell?_setCells_in b (movedC xs i) (i * 3) w.drew (fun j' hj' => by
      rw [hml] at hj'
      have hq : (i * 3 + j') / 3 < xs.length := by omega
      have := hc ((i * 3 + j') / 3) _ (List.getElem?_eq_getElem hq) ((i * 3 + j') % 3) _ (List.getElem?_eq_getElem (by rw [ccells_len]; exact Nat.mod_lt _ (by decide)))
      rw [show (i * 3 + j') / 3 * 3 + (i * 3 + j') % 3 = i * 3 + j' by omega] at this
      show (w.cell? _).isSome = true
      rw [this]; rfl) (k * 3 + j - i * 3) hin
    rw [show i * 3 + (k * 3 + j - i * 3) = k * 3 + j by omega] at this
    rw [this]
    have e : (movedC xs i)[k * 3 + j - i * 3]? = some u := by
      unfold movedC
      rw [show k * 3 + j - i * 3 = (k - i) * 3 + j by omega, flat_get ccells_len _ _ _ hj, List.getElem?_drop, show i + 1 + (k - i) = k + 1 by omega, hx]
      exact hu
    rw [List.getElem?_eq_getElem hin] at e
    exact e
theorem Below.cells {B : Nat} {a : World} (b : Nat) (hb : B ≤ b) : ∀ (vs : List Value) (o : Nat) (w : World), Below B a w → Below B a (w.setCells b o vs)
  | [], _, _, h => h
  | v :: vs, o, _, h => Below.cells b hb vs (o + 1) _ (h.setCell (p := ⟨b, o, none⟩) hb v)
end Go.Proofs.Ytdhhneflhmkonaa

/- The mill: 'without'. -/
namespace Go.Proofs.Ytdhhneflhmkonaa
open Go.RowKit Go.Shelf

/-- How 'without' ends. -/
def WithoutPost (A : Option Addr) (n cc : Nat) (h f : Int) (xs : List Comer) (w : World) (e : Ending) (w' : World) : Prop :=
  Below w.heap.size w w' ∧ ((idx xs f = -1 ∧ e = .returned (.tuple #[mv A n cc h, .bool false])) ∨
    ∃ (i : Nat) (A' : Option Addr) (c' : Nat), idx xs f = i ∧ i < n ∧ e = .returned (.tuple #[mv A' (n - 1) c' h, .bool true]) ∧ n - 1 ≤ c' ∧ Arr ccells 3 w' A' (n - 1) (xs.eraseIdx i) ∧ (∀ b o, A' = some ⟨b, o, none⟩ → w.heap.size ≤ b) ∧ c' ≤ maxLen)

set_option maxRecDepth 100000 in
set_option maxHeartbeats 2000000 in
theorem without_any (A : Option Addr) (n cc : Nat) (h f : Int) (xs : List Comer) (w : World) (ha : Arr ccells 3 w A n xs) (hn : n ≤ 1000000) :
    Calls Try.prog 77 #[mv A n cc h, .int .i64 f] w (WithoutPost A n cc h f xs w) := by
  have HA := Lib.hid ha
  have hlen := Lib.hid ha.1
  clear ha
  go_enter Try.func77, Try.ntmps77
  unfold mv
  go_wp2_with fail
  generalize hW1 : w.alloc (.cells #[.int .i64 h, .slice A n cc] 24) = W1
  obtain ⟨g1, c0, c1⟩ := box2 hW1
  have HB1 := Lib.hid (show Blk W1 w.heap.size 24 #[.int .i64 h, .slice A n cc] by rw [← hW1]; exact Blk.new _ _ _)
  have s1 := boxSize hW1
  rw [← s1]
  generalize hW2 : W1.alloc (.cells #[.int .i64 0, .slice none 0 0] 24) = W2
  have g2 : Below W1.heap.size W1 W2 := by rw [← hW2]; exact (Below.refl _ _).alloc (Nat.le_refl _) _
  have HR2 := Lib.hid (show Blk W2 W1.heap.size 24 #[.int .i64 0, .slice none 0 0] by rw [← hW2]; exact Blk.new _ _ _)
  have HB2 := Lib.hid (HB1.out.ext g2)
  have HG2 := Lib.hid (extTrans g1 g2)
  have hne : w.heap.size < W1.heap.size := by omega
  obtain ⟨br, hbr⟩ : ∃ br, W1.heap.size = br := ⟨_, rfl⟩
  rw [hbr] at HR2 hne ⊢
  clear hW1 hW2 g1 g2 c0 c1 s1 hbr
  refine (index_any A n cc xs f W2 (HA.out.below HG2.out) (by omega)).mono ?_
  rintro e W3 ⟨rfl, hg3⟩
  have HR3 := Lib.hid (HR2.out.ext hg3)
  have HB3 := Lib.hid (HB2.out.ext hg3)
  have HG3 := Lib.hid (HG2.out.trans (hg3.mono HG2.out.size))
  have r0 := HR3.out.cell 0
  have r1 := HR3.out.cell 1
  have rf0 := HR3.out.frozen 0
  have rf1 := HR3.out.frozen 1
  have m0 := HB3.out.cell 0
  have m1 := HB3.out.cell 1
  clear hg3
  rcases idx_cases xs f with hi | ⟨i, hi, hin, -⟩
  · have HI := Lib.hid hi
    rw [hi]
    clear hi
    go_wp2_with fail
    have B0 := (HR3.out.set_ 0 (.int .i64 h)).set_ 1 (.slice A n cc)
    have b0 := B0.cell 0
    have b1 := B0.cell 1
    have GG := Lib.hid ((HG3.out.setCell (p := ⟨br, 0, none⟩) (by dsimp only; omega) (.int .i64 h)).setCell (p := ⟨br, 1, none⟩) (by dsimp only; omega) (.slice A n cc))
    generalize (W3.setCell ⟨br, 0, none⟩ (.int .i64 h)).setCell ⟨br, 1, none⟩ (.slice A n cc) = W9 at b0 b1 GG ⊢
    clear B0
    refine bodyPost_ret (v := .tuple #[mv A n cc h, .bool false]) ?_ rfl ⟨GG.out, .inl ⟨HI.out, rfl⟩⟩
    unfold mv
    simp [results, Try.results77, go_sem, b0, b1]
  · have HI := Lib.hid hi
    have hin' : i < n := by have := hlen.out; omega
    rw [hi]
    clear hi
    go_wp2_with fail
    refine (cloneComers_any A n cc xs W3 (HA.out.below HG3.out) (by omega)).mono ?_
    rintro e W4 ⟨⟨v4, rfl, ho4⟩, hg4⟩
    obtain ⟨g4, c4, rfl, hge4, hlt4, hnc4⟩ := ho4.get (by omega)
    obtain ⟨A4, c4', e4, -, ha4, -, hfz⟩ := ho4.arr
    cases e4
    have hln := hlen.out
    have hcm : c4 ≤ 9223372036854775807 := by
      rcases ho4.2 with ⟨h1, -⟩ | ⟨g, cap, cur, hv, -, -, -, h5, -⟩
      · cases h1
      · cases hv; exact h5
    have hcells : ∀ k x, xs[k]? = some x → ∀ j u, (ccells x)[j]? = some u → W4.cell? ⟨g4, k * 3 + j, none⟩ = some u := by
      intro k x hx j u hu
      obtain ⟨b', o', e', -, hc⟩ := ha4.2 (by omega)
      cases e'
      have := hc k x hx j u hu
      rwa [show 0 + k * 3 + j = k * 3 + j by omega] at this
    have HR4 := Lib.hid (HR3.out.ext hg4)
    have HB4 := Lib.hid (HB3.out.ext hg4)
    have HG4 := Lib.hid (HG3.out.trans (hg4.mono HG3.out.size))
    have hbrlt := HR3.out.lt
    have hgen : w.heap.size ≤ g4 := by have := HG3.out.size; omega
    have HDEL := Lib.hid (delete_any g4 n c4 i xs W4 hin' (by omega) hcm hln hn hcells (fun j => hfz g4 0 rfl j))
    have HDA := Lib.hid (delete_arr hin' hln hlt4 hcells)
    rw [hln]
    have hfar : ∀ (g : Nat) (cs : Array Value) (vs : List Value) (o : Nat) (W : World), g ≠ g4 → Blk W g 24 cs → Blk (W.setCells g4 o vs) g 24 cs := by
      intro g cs vs
      induction vs with
      | nil => intro o W _ h; exact h
      | cons v vs ih => intro o W hne h; exact ih (o + 1) _ hne (h.far (p := ⟨g4, o, none⟩) hne v)
    have HFAR := Lib.hid hfar
    clear hg4 ho4 ha4 hfz hcells hfar r0 r1 rf0 rf1 m0 m1
    go_wp2_with fail
    refine HDEL.out.mono ?_
    rintro e W5 ⟨rfl, hW5⟩
    have HR5 := Lib.hid (show Blk W5 br 24 _ by rw [hW5]; exact HFAR.out br _ _ _ _ (by omega) (HFAR.out br _ _ _ _ (by omega) (show Blk W4.drew br 24 _ from HR4.out)))
    have HB5 := Lib.hid (show Blk W5 w.heap.size 24 _ by rw [hW5]; exact HFAR.out _ _ _ _ _ (by omega) (HFAR.out _ _ _ _ _ (by omega) (show Blk W4.drew w.heap.size 24 _ from HB4.out)))
    have HG5 := Lib.hid (show Below w.heap.size w W5 by rw [hW5]; exact Below.cells g4 hgen _ _ _ (Below.cells g4 hgen _ _ _ HG4.out.drew))
    have HA5 := Lib.hid (show Arr ccells 3 W5 (some ⟨g4, 0, none⟩) (n - 1) (xs.eraseIdx i) by rw [hW5]; exact HDA.out)
    have r0 := HR5.out.cell 0
    have r1 := HR5.out.cell 1
    have rf0 := HR5.out.frozen 0
    have rf1 := HR5.out.frozen 1
    have m0 := HB5.out.cell 0
    have m1 := HB5.out.cell 1
    have mf1 := HB5.out.frozen 1
    have BM := HB5.out.set_ 1 (.slice (some ⟨g4, 0, none⟩) (n - 1) c4)
    have x0 := BM.cell 0
    have x1 := BM.cell 1
    have BR := HR5.out.far (p := ⟨w.heap.size, 1, none⟩) (by dsimp only; omega) (.slice (some ⟨g4, 0, none⟩) (n - 1) c4)
    have y0 := BR.cell 0
    have y1 := BR.cell 1
    have z0 := BR.frozen 0
    have z1 := BR.frozen 1
    have HBR := Lib.hid BR
    clear BM BR hW5
    go_wp2_with fail
    have B9 := (HBR.out.set_ 0 (.int .i64 h)).set_ 1 (.slice (some ⟨g4, 0, none⟩) (n - 1) c4)
    have b0 := B9.cell 0
    have b1 := B9.cell 1
    have F9 := (((Fix.refl w.heap.size br W5).setCell (p := ⟨w.heap.size, 1, none⟩) (.inl rfl) (.slice (some ⟨g4, 0, none⟩) (n - 1) c4)).setCell (p := ⟨br, 0, none⟩) (.inr (.inl rfl)) (.int .i64 h)).setCell (p := ⟨br, 1, none⟩) (.inr (.inl rfl)) (.slice (some ⟨g4, 0, none⟩) (n - 1) c4)
    have A9 := HA5.out.fix F9 (fun b o e _ => by cases e; omega)
    have GG := ((HG5.out.setCell (p := ⟨w.heap.size, 1, none⟩) (Nat.le_refl _) (.slice (some ⟨g4, 0, none⟩) (n - 1) c4)).setCell (p := ⟨br, 0, none⟩) (by dsimp only; omega) (.int .i64 h)).setCell (p := ⟨br, 1, none⟩) (by dsimp only; omega) (.slice (some ⟨g4, 0, none⟩) (n - 1) c4)
    have HA9 := Lib.hid A9
    have HGG := Lib.hid GG
    clear F9 B9 A9 GG
    generalize ((W5.setCell ⟨w.heap.size, 1, none⟩ (.slice (some ⟨g4, 0, none⟩) (n - 1) c4)).setCell ⟨br, 0, none⟩ (.int .i64 h)).setCell ⟨br, 1, none⟩ (.slice (some ⟨g4, 0, none⟩) (n - 1) c4) = W9 at b0 b1 HA9 HGG ⊢
    refine bodyPost_ret (v := .tuple #[mv (some ⟨g4, 0, none⟩) (n - 1) c4 h, .bool true]) ?_ rfl ⟨HGG.out, .inr ⟨i, some ⟨g4, 0, none⟩, c4, HI.out, hin', rfl, by omega, HA9.out, fun b o e => by cases e; exact hgen, by unfold maxLen; omega⟩⟩
    unfold mv
    simp [results, Try.results77, go_sem, b0, b1]
end Go.Proofs.Ytdhhneflhmkonaa

/- slices.Sort of numbers, by the shelf. -/
namespace Go.Proofs.Ytdhhneflhmkonaa
open Go.RowKit Go.Shelf Go.Sort
shelf_lay Lays.n189 Nm 189 at Try as laysSort

/-- Sorted. -/
def srt (l : List Int) : List Int := l.mergeSort fun x y => decide (x ≤ y)
theorem sort_any (base : Nat) (v : Value) (l : List Int) (w : World) (h : Own w base v l) (hl : l.length ≤ 1000000) (hb : base ≤ w.heap.size) :
    Calls Try.prog 78 #[v] w fun e w' => e = .returned (.tuple #[]) ∧ Own w' base v (srt l) ∧ Below base w w' := by
  by_cases hv : v = .slice none 0 0
  · subst hv
    have e : l = [] := by
      obtain ⟨h1, h2 | ⟨g, cap, cur, h3, -⟩⟩ := h
      · exact List.eq_nil_of_length_eq_zero h2.2
      · cases h3
    subst e
    refine (Any.slices_Sort_int_none laysSort none 0 w).mono ?_
    rintro e w' ⟨rfl, rfl⟩
    exact ⟨rfl, (show Own _ base _ (srt []) by rw [show srt [] = [] by simp [srt]]; exact h), Below.refl _ _⟩
  · obtain ⟨g, cap, rfl, hbg, hgl, hncap, hcm, hlen, hH⟩ := Lib.holds_of_ownsRow h hv
    refine (Any.slices_Sort_int laysSort g 0 cap l w hH hgl (by omega)).mono ?_
    rintro e w' ⟨rfl, n, os, rfl⟩
    have hl2 : (srt l).length = l.length := List.length_mergeSort l
    rcases h.2 with ⟨h0, _⟩ | ⟨g', cap', cur, hv', hbase, hcur, h1, h2, h3, h4⟩
    · cases h0
    · cases hv'
      refine ⟨rfl, ?_, (Below.refl _ _).grown (grownBy_sortedI _) hb (fun j hj => by cases hj; exact hbase)⟩
      have := ownsRow_sortedI (n := n) (os := os) (ts := srt l) hl2 hbase hcur h1 h2 h3
      unfold Own
      rw [hl2]
      exact this
end Go.Proofs.Ytdhhneflhmkonaa

/- The mill: Moved. -/
namespace Go.Proofs.Ytdhhneflhmkonaa
open Go.RowKit Go.Shelf

theorem Ok.erase {h : Int} {xs : List Comer} (k : Ok h xs) (i : Nat) : Hrs (xs.eraseIdx i) := fun x hx => k.hrs x (List.mem_of_mem_eraseIdx hx)

/-- Those of the first k whose hours are others. -/
def movK (xs ys : List Comer) (was now : List Int) : Nat → List Int
  | 0 => []
  | k + 1 => movK xs ys was now k ++ if 0 ≤ idx ys (xs.getD k ⟨0, 0, 0⟩).family ∧ was.getD k 0 ≠ now.getD (idx ys (xs.getD k ⟨0, 0, 0⟩).family).toNat 0 then [(xs.getD k ⟨0, 0, 0⟩).family] else []
theorem movK_len (xs ys : List Comer) (was now : List Int) : ∀ k, (movK xs ys was now k).length ≤ k
  | 0 => Nat.le_refl _
  | k + 1 => by
    have := movK_len xs ys was now k
    unfold movK
    rw [List.length_append]
    split <;> simp <;> omega
def movedE (xs : List Comer) (h f : Int) : Int := if okMill h xs = true then (if idx xs f < 0 then 57 else 0) else 52
def movedL (xs : List Comer) (h f : Int) : List Int :=
  movK xs (xs.eraseIdx (idx xs f).toNat) (turnsS xs h.toNat) (turnsS (xs.eraseIdx (idx xs f).toNat) h.toNat) xs.length
def movedS (xs : List Comer) (h f : Int) : List Int := if movedE xs h f = 0 then srt (movedL xs h f) else []

set_option maxRecDepth 100000 in
set_option maxHeartbeats 1000000 in
theorem Moved_any (A : Option Addr) (n cc : Nat) (h f : Int) (xs : List Comer) (w : World) (ha : Arr ccells 3 w A n xs) (hnc : n ≤ cc) (hn : n ≤ 9223372036854775807) :
    Calls Try.prog 18 #[mv A n cc h, .int .i64 f] w fun e w' => (∃ D c, e = .returned (.tuple #[.slice D (movedS xs h f).length c, .int .i64 (movedE xs h f)]) ∧ Ints w' D (movedS xs h f).length (movedS xs h f)) ∧ Below w.heap.size w w' := by
  have HA := Lib.hid ha
  have hlen := Lib.hid ha.1
  obtain ⟨ok, hok⟩ : ∃ ok, okMill h xs = ok := ⟨_, rfl⟩
  have HOK := Lib.hid hok
  have HEE := Lib.hid (show movedE xs h f = if ok = true then (if idx xs f < 0 then 57 else 0) else 52 by rw [← hok]; rfl)
  have HSS := Lib.hid (show movedS xs h f = if movedE xs h f = 0 then srt (movedL xs h f) else [] from rfl)
  generalize movedS xs h f = ls at HSS ⊢
  generalize movedE xs h f = ce at HSS HEE ⊢
  clear ha hok
  unfold mv
  go_enter Try.func18, Try.ntmps18
  go_wp2_with fail
  generalize hW1 : w.alloc (.cells #[.int .i64 h, .slice A n cc] 24) = W1
  obtain ⟨g1, c0, c1⟩ := box2 hW1
  have HG1 := Lib.hid g1
  have hwl : w.heap.size < W1.heap.size := by rw [boxSize hW1]; omega
  clear hW1
  refine (check_any h A n cc xs W1 (HA.out.below g1) hnc hn).mono ?_
  rw [HOK.out]
  rintro e W2 ⟨rfl, hg2⟩
  have HG2 := Lib.hid (HG1.out.trans (hg2.mono HG1.out.size))
  have d0 := (hg2.cell (p := ⟨w.heap.size, 0, none⟩) hwl).trans c0
  have d1 := (hg2.cell (p := ⟨w.heap.size, 1, none⟩) hwl).trans c1
  have hwl2 : w.heap.size < W2.heap.size := by have := hg2.size; omega
  clear c0 c1 g1 hg2
  cases ok with
  | false =>
    rw [show err false 52 = 52 from rfl]
    go_wp2_with fail
    go_ret2
    have e : ce = 52 := HEE.out
    subst e
    have e : ls = [] := HSS.out
    subst e
    exact ⟨⟨none, 0, rfl, Arr.nil_⟩, HG2.out⟩
  | true =>
    rw [show err true 52 = 0 from rfl]
    have hO := (okMill_iff h xs).1 HOK.out
    obtain ⟨H, rfl⟩ : ∃ H : Nat, h = H := ⟨h.toNat, by have := hO.h0; omega⟩
    have hH : H ≤ 24 := by have := hO.h24; omega
    have hn12 : n ≤ 12 := by have := hO.n12; have := hlen.out; omega
    have HX := Lib.hid hO.hrs
    have HOO := Lib.hid hO
    clear hO
    have HEE2 := Lib.hid (show ce = if idx xs f < 0 then 57 else 0 from HEE.out)
    go_wp2_with fail
    refine (without_any A n cc (H : Int) f xs W2 (HA.out.below HG2.out) (by omega)).mono ?_
    rintro e W3 ⟨hg3, ⟨hi, rfl⟩ | ⟨i, A', c', hi, hin, rfl, hnc', ha', -, -⟩⟩
    · have e : ce = 57 := by rw [HEE2.out, hi]; rfl
      subst e
      have e : ls = [] := HSS.out
      subst e
      have HG3 := Lib.hid (HG2.out.trans (hg3.mono HG2.out.size))
      clear hg3 hi
      unfold mv
      go_wp2_with fail
      go_ret2
      exact ⟨⟨none, 0, rfl, Arr.nil_⟩, HG3.out.alloc HG3.out.size _⟩
    · have e : ce = 0 := by rw [HEE2.out, hi]; simp
      subst e
      have HG3 := Lib.hid (HG2.out.trans (hg3.mono HG2.out.size))
      have HA' := Lib.hid ha'
      obtain ⟨ys, hys⟩ : ∃ ys, xs.eraseIdx i = ys := ⟨_, rfl⟩
      have HYS := Lib.hid hys
      have HXY := Lib.hid (show Hrs ys by rw [← hys]; exact HOO.out.erase i)
      have HLS := Lib.hid (show ls = srt (movK xs ys (turnsS xs H) (turnsS ys H) n) by
        have := HSS.out
        rw [if_pos rfl, movedL, hi, Int.toNat_natCast, hys, hlen.out] at this
        exact this)
      have e0 := (hg3.cell (p := ⟨w.heap.size, 0, none⟩) hwl2).trans d0
      have e1 := (hg3.cell (p := ⟨w.heap.size, 1, none⟩) hwl2).trans d1
      have hwl3 : w.heap.size < W3.heap.size := by have := hg3.size; omega
      rw [hys] at HA'
      clear hg3 ha' hys hi d0 d1
      unfold mv
      go_wp2_with fail
      generalize hW4 : W3.alloc (.cells #[.int .i64 H, .slice A' (n - 1) c'] 24) = W4
      obtain ⟨g4, p0, p1⟩ := box2 hW4
      have s4 := boxSize hW4
      have q0 := (g4.cell (p := ⟨w.heap.size, 0, none⟩) hwl3).trans e0
      have q1 := (g4.cell (p := ⟨w.heap.size, 1, none⟩) hwl3).trans e1
      have HG4 := Lib.hid (HG3.out.trans (g4.mono HG3.out.size))
      have HA4 := Lib.hid (HA'.out.below g4)
      have hwl4 : w.heap.size < W4.heap.size := by omega
      obtain ⟨bl, hbl⟩ : ∃ bl, W3.heap.size = bl := ⟨_, rfl⟩
      rw [hbl] at p0 p1 s4 hwl3 ⊢
      clear hW4 g4 e0 e1 hbl
      have GD := Lib.hid (show Below W4.heap.size W4 W4.drew from (Below.refl _ _).drew)
      have T1 := fun W (g : Below W4.heap.size W4 W) => turns_any A n cc H xs W ((HA.out.below HG4.out).below g) HX.out hH hn12
      have T2 := fun W (g : Below W4.heap.size W4 W) => turns_any A' (n - 1) c' H ys W (HA4.out.below g) HXY.out hH (by omega)
      unfold mv at T1 T2
      have HT1 := Lib.hid T1
      have HT2 := Lib.hid T2
      have hwb : bl < W4.heap.size := by omega
      have K := fun W (g : Below W4.heap.size W4 W) => (⟨(g.cell (p := ⟨w.heap.size, 0, none⟩) hwl4).trans q0, (g.cell (p := ⟨w.heap.size, 1, none⟩) hwl4).trans q1, (g.cell (p := ⟨bl, 0, none⟩) hwb).trans p0, (g.cell (p := ⟨bl, 1, none⟩) hwb).trans p1⟩ : W.cell? ⟨w.heap.size, 0, none⟩ = _ ∧ W.cell? ⟨w.heap.size, 1, none⟩ = _ ∧ W.cell? ⟨bl, 0, none⟩ = _ ∧ W.cell? ⟨bl, 1, none⟩ = _)
      have HK := Lib.hid K
      clear T1 T2 K
      go_cut [9, 10] from 28 to 31 (fun s9 s10 wx => ∃ b1 b2, s9 = .slice (some ⟨b1, 0, none⟩) n n ∧ s10 = .slice (some ⟨b2, 0, none⟩) (n - 1) (n - 1) ∧ Below W4.heap.size W4 wx ∧ Blk wx b1 3 (vals (turnsS xs H)) ∧ Blk wx b2 3 (vals (turnsS ys H)))
      case first =>
        go_region_with (first
          | (go_at_call 65; with_reducible refine (HT1.out W4.drew GD.out).mono ?_; rintro e wa ⟨⟨b1, rfl, -, hb1⟩, hga⟩; have GA := Lib.hid (GD.out.trans (hga.mono GD.out.size)); have HB1 := Lib.hid hb1; obtain ⟨u0, u1, u2, u3⟩ := HK.out wa GA.out; clear hga hb1)
          | (go_at_call 65; with_reducible refine (HT2.out W4.drew GD.out).mono ?_; rintro e wb ⟨⟨b2, rfl, -, hb2⟩, hgb⟩; have GB := Lib.hid (GD.out.trans (hgb.mono GD.out.size)); have HB2 := Lib.hid hb2; obtain ⟨u0, u1, u2, u3⟩ := HK.out wb GB.out; clear hgb hb2)
          | (go_at_call 65; with_reducible refine (HT1.out wb GB.out).mono ?_; rintro e wa ⟨⟨b1, rfl, -, hb1⟩, hga⟩; have GA := Lib.hid (GB.out.trans (hga.mono GB.out.size)); have HB1 := Lib.hid hb1; have HB2 := Lib.hid (HB2.out.ext hga); clear hga hb1)
          | (go_at_call 65; with_reducible refine (HT2.out wa GA.out).mono ?_; rintro e wb ⟨⟨b2, rfl, -, hb2⟩, hgb⟩; have GB := Lib.hid (GA.out.trans (hgb.mono GA.out.size)); have HB2 := Lib.hid hb2; have HB1 := Lib.hid (HB1.out.ext hgb); clear hgb hb2))
        all_goals (try go_wp2_with fail)
        all_goals go_meet
        all_goals first
          | exact ⟨b1, b2, rfl, rfl, GA.out, HB1.out, HB2.out⟩
          | exact ⟨b1, b2, rfl, rfl, GB.out, HB1.out, HB2.out⟩
      case rest =>
        obtain ⟨b1, b2, rfl, rfl, hg5, hb1, hb2⟩ := hcut
        rename World => W6
        obtain ⟨was, hwas⟩ : ∃ was, turnsS xs H = was := ⟨_, rfl⟩
        obtain ⟨now, hnow⟩ : ∃ now, turnsS ys H = now := ⟨_, rfl⟩
        have hwl1 : was.length = n := by rw [← hwas]; exact (turnsT_len _ _ _).trans hlen.out
        have hyl : ys.length = n - 1 := HA'.out.1
        have hnl : now.length = n - 1 := by rw [← hnow]; exact (turnsT_len _ _ _).trans hyl
        have HLS2 := Lib.hid (show ls = srt (movK xs ys was now n) by rw [← hwas, ← hnow]; exact HLS.out)
        rw [hwas] at hb1
        rw [hnow] at hb2
        have HI1 := Lib.hid (hb1.intsN hwl1)
        have HI2 := Lib.hid (hb2.intsN hnl)
        have HWL := Lib.hid hwl1
        have HNL := Lib.hid hnl
        have HYL := Lib.hid hyl
        have HG6 := Lib.hid (HG4.out.trans (hg5.mono HG4.out.size))
        have HA6 := Lib.hid (HA4.out.below hg5)
        obtain ⟨u0, u1, u2, u3⟩ := HK.out W6 hg5
        have C1 := Lib.hid u1
        have C3 := Lib.hid u3
        have hw6 : w.heap.size < W6.heap.size := by have := hg5.size; omega
        have hb6 : bl < W6.heap.size := by have := hg5.size; omega
        clear hb1 hb2 hwl1 hnl hyl hwas hnow hg5 u0 u2 p0 p1 q0 q1
        go_wp2_with fail
        go_loopw [11, 35] (fun v i wr => ∃ k : Nat, i = .int .i64 k ∧ k ≤ n ∧ Below W6.heap.size W6 wr ∧ Own wr W6.heap.size v (movK xs ys was now k)) (fun _ i _ => n - (intOf i).toNat)
        case atStart => exact ⟨0, rfl, by omega, Below.refl _ _, Own.nil _ _⟩
        case round =>
          obtain ⟨k, rfl, hk, hg, hown⟩ := hrel
          rename World => wr
          have HGr := Lib.hid hg
          have HO := Lib.hid hown
          have hsz := hg.size
          by_cases hkn : k < n
          · obtain ⟨b, o, x, hAe, -, hx, hca⟩ := comer_at ((HA.out.below HG6.out).below hg) hkn
            obtain ⟨v0, v1, v2⟩ := hca wr (Below.refl _ _)
            have hxd : xs.getD k ⟨0, 0, 0⟩ = x := by rw [List.getD_eq_getElem?_getD, hx]; rfl
            have HNX := Lib.hid (show movK xs ys was now (k + 1) = movK xs ys was now k ++ if 0 ≤ idx ys x.family ∧ was.getD k 0 ≠ now.getD (idx ys x.family).toNat 0 then [x.family] else [] by
              rw [movK, hxd])
            subst hAe
            obtain ⟨W7, hW7⟩ : ∃ W7, wr.alloc (.cells #[.int .i64 x.family, .int .i64 x.hours, .int .i64 x.wants] 53) = W7 := ⟨_, rfl⟩
            have g7 : Below wr.heap.size wr W7 := by rw [← hW7]; exact (Below.refl _ _).alloc (Nat.le_refl _) _
            have hb7 : Blk W7 wr.heap.size 53 #[.int .i64 x.family, .int .i64 x.hours, .int .i64 x.wants] := by rw [← hW7]; exact Blk.new _ _ _
            have HB7 := Lib.hid hb7
            have HG7 := Lib.hid (HGr.out.trans (g7.mono HGr.out.size))
            have HO7 := Lib.hid (HO.out.ext g7)
            have y3 : W7.cell? ⟨bl, 1, none⟩ = some (.slice A' (n - 1) c') := (HG7.out.cell (p := ⟨bl, 1, none⟩) hb6).trans C3.out
            have y0 := hb7.cell 0
            have HL100 : (movK xs ys was now k).length < 100000 := by have := movK_len xs ys was now k; omega
            have HIX := Lib.hid (index_any A' (n - 1) c' ys x.family W7 (HA6.out.below HG7.out) (by omega))
            obtain ⟨b1', o1', e1', -, hdw, hc1⟩ := ints_at (HI1.out.below HG7.out) hkn
            cases e1'
            have z1 := hc1
            obtain ⟨was_k, hwk⟩ : ∃ was_k, was.getD k 0 = was_k := ⟨_, rfl⟩
            rw [hwk] at z1 HNX
            have Z1 := Lib.hid z1
            have hsz7 : W6.heap.size ≤ W7.heap.size := HG7.out.size
            clear hg hown hca hx hxd g7 hb7 z1 hc1 hdw hwk
            rw [show (0 : Nat) + k = k by omega] at Z1
            have HW7 := Lib.hid hW7
            rw [← hW7] at y3 y0
            clear hW7
            rcases idx_cases ys x.family with hj | ⟨j, hj, hjn, -⟩
            · rw [hj] at HIX HNX
              have HN0 := Lib.hid (show movK xs ys was now (k + 1) = movK xs ys was now k by rw [HNX.out, if_neg (by omega), List.append_nil])
              clear hj
              go_wp2_with (first | (go_at_call 63; rw [HW7.out]; refine HIX.out.mono ?_; rintro e W8 ⟨rfl, hg8⟩; have HG8 := Lib.hid hg8; clear hg8))
              refine wp_region_calm W8 (by kernel_rfl) (by kernel_rfl) (Below.refl _ _) ?_
              repeat (go_big_quiet_step (fail))
              refine wpQuiet_nil ?_
              rintro _ ⟨z, rfl⟩
              go_wp2_with fail
              go_roundw
              case rel => exact ⟨k + 1, by go_num, by omega, HG7.out.trans ((extTrans HG8.out z.ok).mono HG7.out.size), by rw [HN0.out]; exact HO7.out.ext (extTrans HG8.out z.ok)⟩
              case measure => simp [intOf]; omega
            · rw [hj] at HIX HNX
              have hjn' : j < n - 1 := by have := HYL.out; omega
              clear hj
              obtain ⟨b2', o2', e2', -, -, hc2⟩ := ints_at (HI2.out.below HG7.out) hjn'
              cases e2'
              obtain ⟨now_j, hnj⟩ : ∃ now_j, now.getD j 0 = now_j := ⟨_, rfl⟩
              rw [hnj] at hc2
              have HN1 := Lib.hid (show movK xs ys was now (k + 1) = movK xs ys was now k ++ if was_k ≠ now_j then [x.family] else [] by
                rw [HNX.out, Int.toNat_natCast, hnj]
                have : (0 : Int) ≤ (j : Int) := by omega
                simp only [this, true_and])
              rw [show (0 : Nat) + j = j by omega] at hc2
              have Z2 := Lib.hid hc2
              clear hc2 hnj
              by_cases hne : was_k = now_j
              · have HN2 := Lib.hid (show movK xs ys was now (k + 1) = movK xs ys was now k by rw [HN1.out, if_neg (by simpa using hne), List.append_nil])
                have hnb : (was_k != now_j) = false := by simpa using hne
                go_wp2_with (first | (go_at_call 63; rw [HW7.out]; refine HIX.out.mono ?_; rintro e W8 ⟨rfl, hg8⟩; have HG8 := Lib.hid hg8; clear hg8))
                have F : ∀ z : Wd W8, z.val.cell? ⟨b1, k, none⟩ = some (.int .i64 was_k) ∧ z.val.cell? ⟨b2, j, none⟩ = some (.int .i64 now_j) := fun z => ⟨Z1.out _ (extTrans HG8.out z.ok), Z2.out _ (extTrans HG8.out z.ok)⟩
                refine wp_region_calm W8 (by kernel_rfl) (by kernel_rfl) (Below.refl _ _) ?_
                repeat (go_big_quiet_step (fail))
                refine wpQuiet_nil ?_
                rintro _ ⟨z, rfl⟩
                go_wp2_with fail
                all_goals first
                  | (exfalso; omega)
                  | skip
                go_roundw
                case rel => exact ⟨k + 1, by go_num, by omega, HG7.out.trans ((extTrans HG8.out z.ok).mono HG7.out.size), by rw [HN2.out]; exact HO7.out.ext (extTrans HG8.out z.ok)⟩
                case measure => simp [intOf]; omega
              · have HN2 := Lib.hid (show movK xs ys was now (k + 1) = movK xs ys was now k ++ [x.family] by rw [HN1.out, if_pos hne])
                have hnb : (was_k != now_j) = true := by simpa using hne
                go_wp2_with (first | (go_at_call 63; rw [HW7.out]; refine HIX.out.mono ?_; rintro e W8 ⟨rfl, hg8⟩; have HG8 := Lib.hid hg8; clear hg8))
                have F : ∀ z : Wd W8, z.val.cell? ⟨b1, k, none⟩ = some (.int .i64 was_k) ∧ z.val.cell? ⟨b2, j, none⟩ = some (.int .i64 now_j) := fun z => ⟨Z1.out _ (extTrans HG8.out z.ok), Z2.out _ (extTrans HG8.out z.ok)⟩
                refine wp_region_calm W8 (by kernel_rfl) (by kernel_rfl) (Below.refl _ _) ?_
                repeat (go_big_quiet_step (fail))
                refine wpQuiet_nil ?_
                rintro _ ⟨z, rfl⟩
                have g9 := extTrans HG8.out z.ok
                have HO9 := Lib.hid (HO7.out.ext g9)
                have k0 := (HB7.out.ext g9).cell 0
                have hsz9 : W6.heap.size ≤ z.val.heap.size := by have := g9.size; omega
                have HG9 := Lib.hid (HG7.out.trans (g9.mono HG7.out.size))
                clear g9
                go_wp2_with (first | (at_builtin; refine push_int rfl _ _ rfl W6.heap.size _ (movK xs ys was now k) rfl (HO9.out.ext ((Below.refl _ _).alloc (Nat.le_refl _) _)) _ _ _ _ rfl rfl (cell_new1 _ _ _ _ rfl) HL100 (by simp; omega) ?_; intro v' w' ho hbw))
                all_goals first
                  | (exfalso; omega)
                  | skip
                go_roundw
                case rel =>
                  refine ⟨k + 1, by go_num, by omega, (HG9.out.alloc hsz9 _).trans (hbw _ (Nat.le_refl _)), ?_⟩
                  rw [HN2.out]; exact ho
                case measure => simp [intOf]; omega
          · obtain rfl : k = n := by omega
            have HSO := Lib.hid (sort_any W6.heap.size _ (movK xs ys was now k) wr hown (by have := movK_len xs ys was now k; omega) hsz)
            clear hg hown
            go_wp2_with fail
            refine HSO.out.mono ?_
            rintro e W8 ⟨rfl, ho8, hg8⟩
            obtain ⟨D, c, rfl, hi⟩ := ho8.ints
            have HI8 := Lib.hid hi
            have HG8 := Lib.hid hg8
            clear hi ho8 hg8
            go_wp2_with fail
            go_ret2
            rw [HLS2.out]
            exact ⟨⟨D, c, rfl, HI8.out⟩, HG6.out.trans ((HGr.out.trans HG8.out).mono HG6.out.size)⟩
end Go.Proofs.Ytdhhneflhmkonaa
