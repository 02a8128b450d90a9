/- The reference's checks of a mill: CheckComer, at, Check. -/
import Derived.Test.YtdhhneflhmkonaaR1
import Derived.Test.YtdhhneflhmkonaaT2
namespace Go.Proofs.Ytdhhneflhmkonaa
open Go.RowKit

theorem refComer_any (c : Comer) (w : World) :
    Calls Try.prog 52 #[cv c] w fun e w' => e = .returned (.int .i64 (err (isComer c) 51)) ∧ Below w.heap.size w w' := by
  unfold err isComer
  cases hA : rng c.family 1 99 <;> cases hB : rng c.hours 0 16777215 <;> cases hC : rng c.wants 0 24
  all_goals
    go_enter Try.func52, Try.ntmps52
    go_wp2_with (go_at_call 72; refine (in_any _ _ _ _).mono ?_; rintro e w' ⟨rfl, rfl⟩)
    go_ret
    exact ⟨rfl, (Below.refl _ _).alloc (Nat.le_refl _) _⟩

theorem refAt_any (A : Option Addr) (n c : Nat) (h : Int) (xs : List Comer) (fam : Int) (w : World) (ha : Arr ccells 3 w A n xs) (hn : n ≤ 9223372036854775807) :
    Calls Try.prog 71 #[.agg #[.int .i64 h, .slice A n c], .int .i64 fam] w fun e w' => e = .returned (.int .i64 (idx xs fam)) ∧ Below w.heap.size w w' := by
  have hlen := Lib.hid ha.1
  have HA := Lib.hid ha
  clear ha
  go_enter Try.func71, Try.ntmps71
  go_wp2_with fail
  generalize hW1 : w.alloc (.cells #[.int .i64 h, .slice A n c] 24) = W1
  obtain ⟨g1, -, c1⟩ := box2 hW1
  have HG1 := Lib.hid g1
  have HA1 := Lib.hid (HA.out.below g1)
  clear hW1 g1
  go_loopw [5] (fun i wr => ∃ k : Nat, k ≤ n ∧ i = .int .i64 k ∧ (∀ j, j < k → ∀ x, xs[j]? = some x → x.family ≠ fam) ∧ W1 = wr) (fun i _ => n - (intOf i).toNat)
  case atStart => exact ⟨0, Nat.zero_le _, rfl, by omega, rfl⟩
  case round =>
    obtain ⟨k, hk, rfl, hno, rfl⟩ := hrel
    have HN := Lib.hid hno
    clear hno
    by_cases hlt : k < n
    · obtain ⟨b, o, x, rfl, hab, hx, hcell⟩ := comer_at HA1.out hlt
      obtain ⟨h0, h1, h2⟩ := hcell W1 (Below.refl _ _)
      have Hx := Lib.hid hx
      clear hcell hx
      by_cases hf : x.family = fam
      · subst hf
        go_wp2_with fail
        go_ret
        exact ⟨ret_int (idx_some HN.out Hx.out rfl).symm, HG1.out⟩
      · have hf' : (x.family == fam) = false := by simpa using hf
        go_wp2_with fail
        go_roundw
        case rel =>
          refine ⟨k + 1, by omega, by go_num, ?_, trivial⟩
          intro j hj y hy
          by_cases hjk : j < k
          · exact HN.out j hjk y hy
          · obtain rfl : j = k := by omega
            have := Hx.out
            rw [this] at hy; simp at hy; subst hy; exact hf
        case measure => simp [intOf]; omega
    · go_wp2_with fail
      go_ret
      exact ⟨ret_int (idx_none (fun j hj => HN.out j (by have := hlen.out; omega))).symm, HG1.out⟩

theorem idx_neg {l : List Comer} {f : Int} (h : idx l f < 0) : ∀ j, j < l.length → ∀ x, l[j]? = some x → x.family ≠ f := by
  intro j hj x hx e
  unfold idx at h
  cases hq : l.findIdx? (fun c => c.family == f) with
  | none =>
    rw [List.findIdx?_eq_none_iff] at hq
    have := hq x (List.mem_of_getElem? hx)
    simp [e] at this
  | some i => rw [hq] at h; simp at h; omega
theorem idx_cases' (l : List Comer) (f : Int) : (idx l f = -1) ∨ ∃ i : Nat, idx l f = i ∧ i < l.length ∧ (l.getD i ⟨0, 0, 0⟩).family = f := by
  unfold idx
  cases h : l.findIdx? (fun c => c.family == f) with
  | none => exact .inl rfl
  | some i =>
    rw [List.findIdx?_eq_some_iff_getElem] at h
    obtain ⟨hi, h1, -⟩ := h
    refine .inr ⟨i, rfl, hi, ?_⟩
    rw [List.getD_eq_getElem?_getD, List.getElem?_eq_getElem hi]
    simpa using h1
theorem idx_le {l : List Comer} {f : Int} {i : Nat} {x : Comer} (hx : l[i]? = some x) (hf : x.family = f) : idx l f ≤ i := by
  unfold idx
  cases h : l.findIdx? (fun c => c.family == f) with
  | none => simp
  | some j =>
    rw [List.findIdx?_eq_some_iff_getElem] at h
    obtain ⟨hj, h1, h2⟩ := h
    rcases Nat.lt_or_ge i j with hij | hij
    · have := h2 i hij
      obtain ⟨hi, e⟩ := List.getElem?_eq_some_iff.1 hx
      rw [e] at this; simp [hf] at this
    · simp; omega
/-- Whether one is the first of the family. -/
theorem idx_first {xs : List Comer} {k : Nat} {x : Comer} (hx : xs[k]? = some x) : idx xs x.family = k ↔ idx (xs.take k) x.family < 0 := by
  have hk : k < xs.length := (List.getElem?_eq_some_iff.1 hx).1
  constructor
  · intro h
    rcases idx_cases' (xs.take k) x.family with h1 | ⟨i, h1, hi, hf⟩
    · omega
    · exfalso
      have hil : i < k := by rw [List.length_take] at hi; omega
      have hxi : xs[i]? = some ((xs.take k).getD i ⟨0, 0, 0⟩) := by
        rw [List.getD_eq_getElem?_getD, List.getElem?_eq_getElem hi]
        simp
      have : idx xs x.family ≤ i := idx_le hxi hf
      omega
  · intro h
    have h2 := idx_neg h
    refine idx_some (fun j hj y hy => h2 j (by rw [List.length_take]; omega) y (by rw [List.getElem?_take, if_pos hj]; exact hy)) hx rfl

set_option maxHeartbeats 1000000 in
theorem refCheck_in (h : Int) (A : Option Addr) (n c : Nat) (xs : List Comer) (w : World) (ha : Arr ccells 3 w A n xs) (hh : rng h 0 24 = true) (hn : n ≤ 12) (_hnc : n ≤ c) :
    Calls Try.prog 54 #[.agg #[.int .i64 h, .slice A n c]] w fun e w' => e = .returned (.int .i64 (err (okComers h xs) 52)) ∧ Below w.heap.size w w' := by
  have h0 : 0 ≤ h := by simp [rng] at hh; omega
  have h24 : h ≤ 24 := by simp [rng] at hh; omega
  obtain ⟨hp, -, -⟩ := pow24 h0 h24
  have hlen := Lib.hid ha.1
  have hb0 : Below w.heap.size w (w.alloc (.cells #[.int .i64 h, .slice A n c] 24)) := (Below.refl _ _).alloc (Nat.le_refl _) _
  have c0 : (w.alloc (.cells #[.int .i64 h, .slice A n c] 24)).cell? ⟨w.heap.size, 0, none⟩ = some (.int .i64 h) := by simp [go_sem]
  have c1 : (w.alloc (.cells #[.int .i64 h, .slice A n c] 24)).cell? ⟨w.heap.size, 1, none⟩ = some (.slice A n c) := by simp [go_sem]
  go_enter Try.func54, Try.ntmps54
  go_wp2_with (first | (go_at_call 72; refine (in_any _ _ _ _).mono ?_; rintro e w' ⟨rfl, rfl⟩))
  generalize w.alloc (.cells #[.int .i64 h, .slice A n c] 24) = W0 at hb0 c0 c1 ⊢
  have e0 := cellW c0
  have e1 := cellW c1
  have ha0 := ha.below hb0
  clear ha
  go_loopw [3] (fun i wr => ∃ k : Nat, k ≤ n ∧ i = .int .i64 k ∧ (∃ x : Wd W0, wr = x.val) ∧ (∀ j, j < k → ∀ x, xs[j]? = some x → okComer h (xs.take j) x = true)) (fun i _ => n - (intOf i).toNat)
  case atStart => exact ⟨0, Nat.zero_le _, rfl, Wd.self _, fun j hj => absurd hj (by omega)⟩
  case round =>
    obtain ⟨k, hk, rfl, ⟨wx, rfl⟩, hall⟩ := hrel
    have Hall := Lib.hid hall
    clear hall c0 c1
    by_cases hlt : k < n
    · obtain ⟨b, o, x, rfl, hab, hx, hcell⟩ := comer_at ha0 hlt
      obtain ⟨q0, q1, q2⟩ := hcell _ wx.ok
      have Hx := Lib.hid hx
      have hb1 : Below W0.heap.size W0 (wx.val.alloc (.cells #[.int .i64 x.family, .int .i64 x.hours, .int .i64 x.wants] 53)) := wx.ok.alloc wx.size _
      have d0 : (wx.val.alloc (.cells #[.int .i64 x.family, .int .i64 x.hours, .int .i64 x.wants] 53)).cell? ⟨wx.val.heap.size, 0, none⟩ = some (.int .i64 x.family) := by simp [go_sem]
      have d1 : (wx.val.alloc (.cells #[.int .i64 x.family, .int .i64 x.hours, .int .i64 x.wants] 53)).cell? ⟨wx.val.heap.size, 1, none⟩ = some (.int .i64 x.hours) := by simp [go_sem]
      have d2 : (wx.val.alloc (.cells #[.int .i64 x.family, .int .i64 x.hours, .int .i64 x.wants] 53)).cell? ⟨wx.val.heap.size, 2, none⟩ = some (.int .i64 x.wants) := by simp [go_sem]
      have HF := Lib.hid (idx_first hx)
      clear hx hcell
      go_wp2_with fail
      have d3 := e0 ⟨_, hb1⟩
      have d4 := e1 ⟨_, hb1⟩
      dsimp only at d3 d4
      generalize (wx.val.alloc (.cells #[.int .i64 x.family, .int .i64 x.hours, .int .i64 x.wants] 53)) = W1 at hb1 d0 d1 d2 d3 d4 ⊢
      have f0 := cellW d0
      have f1 := cellW d1
      have f2 := cellW d2
      have f3 := cellW d3
      have f4 := cellW d4
      have ha1 := Lib.hid (ha0.below hb1)
      clear d0 d1 d2 d3 d4 e0 e1
      cases hA : isComer x with
      | true =>
        have ce : Value.int .i64 (err (isComer x) 51) = .int .i64 0 := by rw [hA]; rfl
        by_cases hB : x.hours < 2 ^ h.toNat
        · have hB' : decide (2 ^ h.toNat ≤ x.hours) = false := by simpa using hB
          obtain ⟨ix, hix⟩ : ∃ ix, idx xs x.family = ix := ⟨_, rfl⟩
          have HIX := Lib.hid hix
          clear hix
          by_cases hik : ix = k
          · subst hik
            refine wp_region_calm W1 (by kernel_rfl) (by kernel_rfl) (Below.refl _ _) ?_
            repeat (go_big_quiet_step (first | (go_at_call 52; exact callsCalm (callsRet (refComer_any x _) ce)) | (go_at_call 71; exact callsCalm (callsRet (refAt_any _ _ _ _ _ _ _ (ha1.out.below (Wd.ok _)) (by omega)) (by rw [HIX.out])))))
            refine wpQuiet_nil ?_
            rintro _ ⟨wy, rfl⟩
            go_wp2_with fail
            all_goals first
              | (exfalso; omega)
              | skip
            have hi : idx (List.take k xs) x.family < 0 := HF.out.1 HIX.out
            go_roundw
            case rel =>
              refine ⟨k + 1, by omega, by go_num, Wd.of (extTrans hb1 wy.ok), fun j hj y hy => ?_⟩
              by_cases hjk : j < k
              · exact Hall.out j hjk y hy
              · obtain rfl : j = k := by omega
                rw [Hx.out] at hy; simp at hy; subst hy
                simp [okComer, hA, hB, hi]
            case measure => simp [intOf]; omega
          · have hik' : (ix != (k : Int)) = true := by simpa using hik
            refine wp_region_calm W1 (by kernel_rfl) (by kernel_rfl) (Below.refl _ _) ?_
            repeat (go_big_quiet_step (first | (go_at_call 52; exact callsCalm (callsRet (refComer_any x _) ce)) | (go_at_call 71; exact callsCalm (callsRet (refAt_any _ _ _ _ _ _ _ (ha1.out.below (Wd.ok _)) (by omega)) (by rw [HIX.out])))))
            refine wpQuiet_nil ?_
            rintro _ ⟨wy, rfl⟩
            go_wp2_with fail
            all_goals first
              | (exfalso; omega)
              | skip
            have hi : ¬ idx (List.take k xs) x.family < 0 := fun q => hik (HIX.out.symm.trans (HF.out.2 q))
            go_ret
            exact ⟨ret_int (by rw [okComers_no Hx.out (by simp [okComer]; intros; omega)]; rfl), extTrans hb0 (extTrans hb1 wy.ok)⟩
        · have hno := Lib.hid (show okComer h (xs.take k) x = false by simp [okComer, hB])
          have hB' : decide (2 ^ h.toNat ≤ x.hours) = true := by simpa using hB
          refine wp_region_calm W1 (by kernel_rfl) (by kernel_rfl) (Below.refl _ _) ?_
          repeat (go_big_quiet_step ((go_at_call 52; exact callsCalm (callsRet (refComer_any x _) ce))))
          refine wpQuiet_nil ?_
          rintro _ ⟨wy, rfl⟩
          go_wp2_with fail
          go_ret
          exact ⟨ret_int (by rw [okComers_no Hx.out hno.out]; rfl), extTrans hb0 (extTrans hb1 wy.ok)⟩
      | false =>
        have ce : Value.int .i64 (err (isComer x) 51) = .int .i64 51 := by rw [hA]; rfl
        refine wp_region_calm W1 (by kernel_rfl) (by kernel_rfl) (Below.refl _ _) ?_
        repeat (go_big_quiet_step ((go_at_call 52; exact callsCalm (callsRet (refComer_any x _) ce))))
        refine wpQuiet_nil ?_
        rintro _ ⟨wy, rfl⟩
        go_wp2_with fail
        go_ret
        exact ⟨ret_int (by rw [okComers_no Hx.out (by simp [okComer, hA])]; rfl), extTrans hb0 (extTrans hb1 wy.ok)⟩
    · go_wp2_with fail
      go_ret
      have hok : okComers h xs = true := by
        unfold okComers
        rw [List.all_eq_true]
        intro j hj
        have hj' : j < xs.length := List.mem_range.1 hj
        have := Hall.out j (by have := hlen.out; omega) _ (List.getElem?_eq_getElem hj')
        rw [List.getD_eq_getElem?_getD, List.getElem?_eq_getElem hj']
        exact this
      exact ⟨ret_int (by rw [hok]; rfl), extTrans hb0 wx.ok⟩

theorem refCheck_any (h : Int) (A : Option Addr) (n c : Nat) (xs : List Comer) (w : World) (ha : Arr ccells 3 w A n xs) (hnc : n ≤ c) (hn : n ≤ 9223372036854775807) :
    Calls Try.prog 54 #[.agg #[.int .i64 h, .slice A n c]] w fun e w' => e = .returned (.int .i64 (err (okMill h xs) 52)) ∧ Below w.heap.size w w' := by
  have hlen := ha.1
  cases hr : rng h 0 24 with
  | true =>
    by_cases h12 : n ≤ 12
    · have : okMill h xs = okComers h xs := by simp [okMill, hr, hlen, h12]
      rw [this]
      exact refCheck_in h A n c xs w ha hr h12 hnc
    · have : err (okMill h xs) 52 = 52 := by simp [okMill, err, hlen, h12]
      have HO := Lib.hid this
      have hgt : decide ((12 : Int) < n) = true := by simp; omega
      clear this hlen ha
      have hb0 : Below w.heap.size w (w.alloc (.cells #[.int .i64 h, .slice A n c] 24)) := (Below.refl _ _).alloc (Nat.le_refl _) _
      go_enter Try.func54, Try.ntmps54
      go_wp2_with (first | (go_at_call 72; refine (in_any _ _ _ _).mono ?_; rw [hr]; rintro e w' ⟨rfl, rfl⟩))
      go_ret
      exact ⟨ret_int HO.out.symm, hb0⟩
  | false =>
    have : err (okMill h xs) 52 = 52 := by simp [okMill, err, hr]
    have HO := Lib.hid this
    clear this hlen ha
    have hb0 : Below w.heap.size w (w.alloc (.cells #[.int .i64 h, .slice A n c] 24)) := (Below.refl _ _).alloc (Nat.le_refl _) _
    go_enter Try.func54, Try.ntmps54
    go_wp2_with (first | (go_at_call 72; refine (in_any _ _ _ _).mono ?_; rw [hr]; rintro e w' ⟨rfl, rfl⟩))
    go_ret
    exact ⟨ret_int HO.out.symm, hb0⟩
end Go.Proofs.Ytdhhneflhmkonaa
