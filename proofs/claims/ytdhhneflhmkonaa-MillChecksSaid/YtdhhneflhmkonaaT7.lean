/- The mill: CheckShare. -/
import Derived.Test.YtdhhneflhmkonaaT6
namespace Go.Proofs.Ytdhhneflhmkonaa
open Go.RowKit Go.Shelf

theorem bit0 (a k : Nat) (ha : a < 9223372036854775808) : (bits .and .i64 ((a : Int) / 2 ^ k) 1 == 0) = !a.testBit k := by
  have e : (a : Int) / 2 ^ k = ((a >>> k : Nat) : Int) := by
    rw [Nat.shiftRight_eq_div_pow]; simp
  have hlt : a >>> k < 9223372036854775808 := by rw [Nat.shiftRight_eq_div_pow]; exact Nat.lt_of_le_of_lt (Nat.div_le_self _ _) ha
  rw [e, show (1 : Int) = ((1 : Nat) : Int) from rfl, and64 _ _ hlt (by decide), Nat.testBit, Nat.and_comm]
  have h2 := Nat.and_le_left (n := 1) (m := a >>> k)
  cases h : (1 &&& a >>> k) with
  | zero => rfl
  | succ m => have : m = 0 := by omega
              subst this; rfl

theorem idx_cases (l : List Comer) (f : Int) : (idx l f = -1) ∨ ∃ i : Nat, idx l f = i ∧ i < l.length ∧ (l.getD i ⟨0, 0, 0⟩).family = f := by
  unfold idx
  cases h : l.findIdx? (fun c => c.family == f) with
  | none => exact .inl rfl
  | some i =>
    rw [List.findIdx?_eq_some_iff_getElem] at h
    obtain ⟨hi, h1, -⟩ := h
    refine .inr ⟨i, rfl, hi, ?_⟩
    rw [List.getD_eq_getElem?_getD, List.getElem?_eq_getElem hi]
    simpa using h1

/-- How many hours each has, by the first k hours of a sharing. -/
def gotK (xs : List Comer) (share : List Int) : Nat → Option (List Int)
  | 0 => some (List.replicate xs.length 0)
  | k + 1 => (gotK xs share k).bind fun g =>
      if share.getD k 0 = 0 then some g
      else if idx xs (share.getD k 0) < 0 ∨ (hrs xs (idx xs (share.getD k 0)).toNat).testBit k = false then none
      else some (g.set (idx xs (share.getD k 0)).toNat (g.getD (idx xs (share.getD k 0)).toNat 0 + 1))
theorem gotK_none {xs : List Comer} {share : List Int} {k : Nat} (h : gotK xs share k = none) : ∀ m, k ≤ m → gotK xs share m = none := by
  intro m hm
  obtain ⟨d, rfl⟩ := Nat.exists_eq_add_of_le hm
  clear hm
  induction d with
  | zero => exact h
  | succ d ih => show (gotK xs share (k + d)).bind _ = none; rw [ih]; rfl
theorem gotK_len {xs : List Comer} {share : List Int} : ∀ {k : Nat} {g : List Int}, gotK xs share k = some g → g.length = xs.length
  | 0, g, h => by cases h; simp
  | k + 1, g, h => by
    unfold gotK at h
    cases hg : gotK xs share k with
    | none => rw [hg] at h; cases h
    | some g' =>
      rw [hg] at h
      have := gotK_len hg
      simp only [Option.bind_some] at h
      split at h
      · cases h; exact this
      · split at h
        · cases h
        · cases h; simpa using this
theorem gotK_bd {xs : List Comer} {share : List Int} : ∀ {k : Nat} {g : List Int}, gotK xs share k = some g → ∀ x ∈ g, 0 ≤ x ∧ x ≤ (k : Int)
  | 0, g, h => by cases h; intro x hx; simp at hx; omega
  | k + 1, g, h => by
    unfold gotK at h
    cases hg : gotK xs share k with
    | none => rw [hg] at h; cases h
    | some g' =>
      rw [hg] at h
      have ih := gotK_bd hg
      simp only [Option.bind_some] at h
      split at h
      · cases h; intro x hx; have := ih x hx; omega
      · split at h
        · cases h
        · cases h
          generalize (idx xs (share.getD k 0)).toNat = q
          intro x hx
          rcases List.mem_or_eq_of_mem_set hx with h1 | h1
          · have := ih x h1; omega
          · by_cases hlt : q < g'.length
            · have := ih _ (List.getElem_mem hlt)
              rw [List.getD_eq_getElem?_getD, List.getElem?_eq_getElem hlt] at h1
              simp at h1; omega
            · rw [List.getD_eq_getElem?_getD, List.getElem?_eq_none (by omega)] at h1
              simp at h1; omega

def shareE (xs : List Comer) (h : Int) (share : List Int) : Int :=
  if okMill h xs then (if (share.length : Int) = h ∧ gotK xs share share.length = some (turnsS xs h.toNat) then 0 else 53) else 52

set_option maxRecDepth 100000 in
set_option maxHeartbeats 2000000 in
theorem CheckShare_any (A D : Option Addr) (n cc m cd : Nat) (h : Int) (xs : List Comer) (l : List Int) (w : World) (ha : Arr ccells 3 w A n xs) (hnc : n ≤ cc) (hd : Ints w D m l) (hm : m ≤ 9223372036854775807) (hn : n ≤ 9223372036854775807) :
    Calls Try.prog 41 #[mv A n cc h, .slice D m cd] w fun e w' => e = .returned (.int .i64 (shareE xs h l)) ∧ Below w.heap.size w w' := by
  have HA := Lib.hid ha
  have HD := Lib.hid hd
  have hln := Lib.hid ha.1
  have hlm := Lib.hid hd.1
  clear ha hd
  obtain ⟨ok, hok⟩ : ∃ ok, okMill h xs = ok := ⟨_, rfl⟩
  have HOK := Lib.hid hok
  have HE := Lib.hid (show shareE xs h l = if ok then (if (m : Int) = h ∧ gotK xs l m = some (turnsS xs h.toNat) then 0 else 53) else 52 by rw [← hok, ← hlm.out]; rfl)
  generalize shareE xs h l = de at HE ⊢
  clear hok
  unfold mv
  go_enter Try.func41, Try.ntmps41
  go_wp2_with fail
  generalize hW1 : w.alloc (.cells #[.int .i64 h, .slice A n cc] 24) = W1
  obtain ⟨g1, c0, c1⟩ := box2 hW1
  have HG1 := Lib.hid g1
  have hwl : w.heap.size < W1.heap.size := by rw [boxSize hW1]; omega
  clear hW1
  refine (check_any h A n cc xs W1 (HA.out.below g1) hnc hn).mono ?_
  rw [HOK.out]
  rintro e W2 ⟨rfl, hg2⟩
  have HG2 := Lib.hid hg2
  have d0 := (hg2.cell (p := ⟨w.heap.size, 0, none⟩) hwl).trans c0
  have d1 := (hg2.cell (p := ⟨w.heap.size, 1, none⟩) hwl).trans c1
  have hwl2 : w.heap.size < W2.heap.size := by have := hg2.size; omega
  clear c0 c1 g1 hg2
  have HG := Lib.hid (HG1.out.trans (HG2.out.mono HG1.out.size))
  cases ok with
  | false =>
    rw [show err false 52 = 52 from rfl]
    go_wp2_with fail
    go_ret
    exact ⟨ret_int HE.out.symm, HG.out⟩
  | true =>
    rw [show err true 52 = 0 from rfl]
    have hO := (okMill_iff h xs).1 HOK.out
    obtain ⟨H, rfl⟩ : ∃ H : Nat, h = H := ⟨h.toNat, by have := hO.h0; omega⟩
    have hH : H ≤ 24 := by have := hO.h24; omega
    have hn12 : n ≤ 12 := by have := hO.n12; have := hln.out; omega
    have HX := Lib.hid hO.hrs
    clear hO
    have HE2 := Lib.hid (show de = if (m : Int) = H ∧ gotK xs l m = some (turnsS xs H) then 0 else 53 from HE.out)
    by_cases hmH : m = H
    · subst hmH
      have hmk := fun w => run_make_row' (P := Try.prog) 28 3 (.int .i64 0) 8 (by kernel_rfl) (by kernel_rfl) (by simp [Value.cells]) .i64 .i64 n (by omega) (by omega) w
      go_wp2_with fail
      all_goals first
        | (exfalso; omega)
        | skip
      rw [made_vals]
      generalize hW3 : (W2.alloc (.cells (vals (List.replicate n 0)) 3)) = W3
      have hb3 : Blk W3 W2.heap.size 3 (vals (List.replicate n 0)) := by rw [← hW3]; exact Blk.new _ _ _
      have g3 : Below W2.heap.size W2 W3 := by rw [← hW3]; exact (Below.refl _ _).alloc (Nat.le_refl _) _
      have HB3 := Lib.hid hb3
      have HG3 := Lib.hid g3
      have D0 := Lib.hid d0
      have D1 := Lib.hid d1
      clear hW3 hb3 g3 hmk d0 d1
      obtain ⟨bo, hbo⟩ : ∃ bo, W2.heap.size = bo := ⟨_, rfl⟩
      rw [hbo] at HB3 hwl2 ⊢
      have HBO := Lib.hid hbo
      clear hbo
      go_loopw [26] (fun v wr => ∃ k : Nat, v = .int .i64 k ∧ k ≤ m ∧ Below W2.heap.size W2 wr ∧ ∃ g, gotK xs l k = some g ∧ Blk wr bo 3 (vals g)) (fun v _ => m - (intOf v).toNat)
      case atStart => exact ⟨0, rfl, by omega, HG3.out, _, rfl, by rw [hln.out]; exact HB3.out⟩
      case round =>
        obtain ⟨k, rfl, hk, hg, got, hgot, hb⟩ := hrel
        have HGr := Lib.hid hg
        have HGOT := Lib.hid hgot
        have HB := Lib.hid hb
        have d0 : wr.cell? ⟨w.heap.size, 0, none⟩ = some (.int .i64 m) := (hg.cell (p := ⟨w.heap.size, 0, none⟩) (by have := HBO.out; dsimp only; omega)).trans D0.out
        have d1 : wr.cell? ⟨w.heap.size, 1, none⟩ = some (.slice A n cc) := (hg.cell (p := ⟨w.heap.size, 1, none⟩) (by have := HBO.out; dsimp only; omega)).trans D1.out
        by_cases hkm : k < m
        · obtain ⟨b, o, hDe, -, -, hc⟩ := ints_at ((HD.out.below HG.out).below hg) hkm
          have e0 := hc wr (Below.refl _ _)
          obtain ⟨f, hf⟩ : ∃ f, l.getD k 0 = f := ⟨_, rfl⟩
          rw [hf] at e0
          have HNX := Lib.hid (show gotK xs l (k + 1) = if f = 0 then some got else if idx xs f < 0 ∨ (hrs xs (idx xs f).toNat).testBit k = false then none
              else some (got.set (idx xs f).toNat (got.getD (idx xs f).toNat 0 + 1)) by
            rw [← hf]; show (gotK xs l k).bind _ = _; rw [hgot]; rfl)
          clear hc hgot hb hf
          subst hDe
          by_cases hf0 : f = 0
          · subst hf0
            clear hg
            go_wp2_with fail
            go_roundw
            case rel => exact ⟨k + 1, by go_num, by omega, HGr.out, got, by rw [HNX.out, if_pos rfl], HB.out⟩
            case measure => simp [intOf]; omega
          · have hf0' : (f == 0) = false := by simpa using hf0
            have HNX2 := Lib.hid (show gotK xs l (k + 1) = if idx xs f < 0 ∨ (hrs xs (idx xs f).toNat).testBit k = false then none
              else some (got.set (idx xs f).toNat (got.getD (idx xs f).toNat 0 + 1)) by rw [HNX.out, if_neg hf0])
            have HIX := Lib.hid (index_any A n cc xs f wr ((HA.out.below HG.out).below HGr.out) (by omega))
            have hgl := gotK_len HGOT.out
            have HGL := Lib.hid (show got.length = n by rw [hgl, hln.out])
            have HBD := Lib.hid (gotK_bd HGOT.out)
            clear hgl
            rcases idx_cases xs f with hi | ⟨i, hi, hin, -⟩
            · rw [hi] at HIX HNX2
              have HN0 := Lib.hid (show gotK xs l m = none from gotK_none (by rw [HNX2.out, if_pos (.inl (by omega))]) m (by omega))
              clear hg hi
              go_wp2_with (first | (go_at_call 63; refine HIX.out.mono ?_; rintro e w' ⟨rfl, hg4⟩; have HG4 := Lib.hid hg4; clear hg4))
              go_ret
              refine ⟨ret_int ?_, HG.out.trans ((HGr.out.trans (HG4.out.mono HGr.out.size)).mono HG.out.size)⟩
              rw [HE2.out, if_neg (by rw [HN0.out]; rintro ⟨-, h⟩; cases h)]
            · rw [hi] at HIX HNX2
              have hin' : i < n := by have := hln.out; omega
              have HN1 := Lib.hid (show gotK xs l (k + 1) = if (hrs xs i).testBit k = false then none else some (got.set i (got.getD i 0 + 1)) by
                rw [HNX2.out]
                have : ¬ ((i : Int) < 0) := by omega
                simp only [this, false_or, Int.toNat_natCast])
              obtain ⟨ba, oa, x, hAe, -, hx, hca⟩ := comer_at ((HA.out.below HG.out).below HGr.out) hin'
              subst hAe
              have q1 := fun w' (hw : Below wr.heap.size wr w') => (hca w' hw).2.1
              rw [HX.out.nat hx] at q1
              have Q1 := Lib.hid q1
              have hb0 := bit0 (hrs xs i) k (by have := HX.out.lt i; omega)
              have HB0 := Lib.hid hb0
              have D0r := Lib.hid d0
              have D1r := Lib.hid d1
              clear hi hg hca q1 hx hb0
              cases ht : (hrs xs i).testBit k with
              | false =>
                have HN0 := Lib.hid (show gotK xs l m = none from gotK_none (by rw [HN1.out, if_pos ht]) m (by omega))
                have hbt : (bits .and .i64 ((hrs xs i : Nat) / 2 ^ k) 1 == 0) = true := by rw [HB0.out, ht]; rfl
                go_wp2_with (first | (go_at_call 63; refine HIX.out.mono ?_; rintro e w' ⟨rfl, hg4⟩; have q4 := Q1.out w' hg4; have d4 := (hg4.cell (World.block_lt_of_cell? wr _ D1r.out)).trans D1r.out; have HG4 := Lib.hid hg4; clear hg4))
                go_ret
                refine ⟨ret_int ?_, HG.out.trans ((HGr.out.trans (HG4.out.mono HGr.out.size)).mono HG.out.size)⟩
                rw [HE2.out, if_neg (by rw [HN0.out]; rintro ⟨-, h⟩; cases h)]
              | true =>
                have hbt : (bits .and .i64 ((hrs xs i : Nat) / 2 ^ k) 1 == 0) = false := by rw [HB0.out, ht]; rfl
                obtain ⟨v, hv⟩ : ∃ v, got[i]? = some v := ⟨_, List.getElem?_eq_getElem (by have := HGL.out; omega)⟩
                have hvb := HBD.out v (List.mem_of_getElem? hv)
                have HN2 := Lib.hid (show gotK xs l (k + 1) = some (got.set i (v + 1)) by
                  rw [HN1.out, ht, List.getD_eq_getElem?_getD, hv]; rfl)
                have HV := Lib.hid hv
                clear hv
                go_wp2_with (first | (go_at_call 63; refine HIX.out.mono ?_; rintro e w' ⟨rfl, hg4⟩; have q4 := Q1.out w' hg4; have d4 := (hg4.cell (World.block_lt_of_cell? wr _ D1r.out)).trans D1r.out; have b4 := HB.out.ext hg4; have c4 : w'.cell? ⟨bo, i, none⟩ = some (.int .i64 v) := by { rw [b4.cell i, vals_get, HV.out]; rfl }; have f4 := b4.frozen i; have HB4 := Lib.hid b4; have HG4 := Lib.hid hg4; clear hg4 b4))
                go_roundw
                case rel =>
                  refine ⟨k + 1, by go_num, by omega, (HGr.out.trans (HG4.out.mono HGr.out.size)).setCell (p := ⟨bo, i, none⟩) (by have := HBO.out; dsimp only; omega) _, _, HN2.out, ?_⟩
                  have := HB4.out.set_ i (.int .i64 (v + 1))
                  rw [vals_set] at this
                  exact this
                case measure => simp [intOf]; omega
        · obtain rfl : k = m := by omega
          have HTR := Lib.hid (turns_any A n cc k xs wr ((HA.out.below HG.out).below hg) HX.out hH hn12)
          clear hg hgot hb
          go_wp2_with fail
          refine HTR.out.mono ?_
          rintro e W5 ⟨⟨bt, rfl, hbt, hb5⟩, hg5⟩
          have HG5 := Lib.hid hg5
          have hl5 : (turnsS xs k).length = n := (turnsT_len _ _ _).trans hln.out
          have hgl := gotK_len HGOT.out
          have HEQ := Lib.hid (equal_any (some ⟨bo, 0, none⟩) (some ⟨bt, 0, none⟩) n n n n got (turnsS xs k) W5 ((HB.out.intsN (by rw [hgl, hln.out])).below hg5) (hb5.intsN hl5) (by omega) (by omega))
          obtain ⟨eq, heq⟩ : ∃ eq, decide (got = turnsS xs k) = eq := ⟨_, rfl⟩
          have HEQ2 := Lib.hid heq
          have hfin : de = if eq = true then 0 else 53 := by
            rw [HE2.out, HGOT.out, ← heq]; simp
          have HFIN := Lib.hid hfin
          clear hg5 hb5 hgl heq hfin
          cases eq with
          | true =>
            go_wp2_with (first | (go_at_call 91; refine HEQ.out.mono ?_; rw [HEQ2.out]; rintro e w' ⟨rfl, hg6⟩; have HG6 := Lib.hid hg6; clear hg6))
            go_ret
            exact ⟨ret_int HFIN.out.symm, HG.out.trans ((HGr.out.trans ((HG5.out.trans (HG6.out.mono HG5.out.size)).mono HGr.out.size)).mono HG.out.size)⟩
          | false =>
            go_wp2_with (first | (go_at_call 91; refine HEQ.out.mono ?_; rw [HEQ2.out]; rintro e w' ⟨rfl, hg6⟩; have HG6 := Lib.hid hg6; clear hg6))
            go_ret
            exact ⟨ret_int HFIN.out.symm, HG.out.trans ((HGr.out.trans ((HG5.out.trans (HG6.out.mono HG5.out.size)).mono HGr.out.size)).mono HG.out.size)⟩
    · have hne : ((m : Int) != (H : Int)) = true := by simp; omega
      go_wp2_with fail
      all_goals first
        | (exfalso; omega)
        | skip
      go_ret
      have : ¬ ((m : Int) = H ∧ gotK xs l m = some (turnsS xs H)) := fun h => by omega
      rw [HE2.out, if_neg this]
      exact ⟨rfl, HG.out⟩
end Go.Proofs.Ytdhhneflhmkonaa
