/- The mill: Check of a mill within the bounds. -/
import Derived.Test.YtdhhneflhmkonaaW1
namespace Go.Proofs.Ytdhhneflhmkonaa
open Go.RowKit

theorem pow24 {h : Int} (h0 : 0 ≤ h) (h24 : h ≤ 24) : wrap64 (2 ^ h.toNat) = 2 ^ h.toNat ∧ (1 : Int) ≤ 2 ^ h.toNat ∧ (2 : Int) ^ h.toNat ≤ 16777216 := by
  obtain ⟨n, rfl⟩ := Int.eq_ofNat_of_zero_le h0
  rw [Int.toNat_natCast]
  have hn : n ≤ 24 := by omega
  have e : (2 : Int) ^ n = ((2 ^ n : Nat) : Int) := by simp
  have h1 : 2 ^ n ≤ 2 ^ 24 := Nat.pow_le_pow_right (by decide) hn
  have h2 : 0 < 2 ^ n := Nat.pow_pos (by decide)
  rw [e]
  refine ⟨IntWalk.wrap64_in _ ⟨by omega, by omega⟩, by omega, by omega⟩

def okComer (h : Int) (l : List Comer) (c : Comer) : Bool := isComer c && decide (c.hours < 2 ^ h.toNat) && decide (idx l c.family < 0)
/-- The comers are valid, each as behind the ones before it. -/
def okComers (h : Int) (xs : List Comer) : Bool := (List.range xs.length).all fun k => okComer h (xs.take k) (xs.getD k ⟨0, 0, 0⟩)

theorem okComers_no {h : Int} {xs : List Comer} {k : Nat} {x : Comer} (hx : xs[k]? = some x) (hk : okComer h (xs.take k) x = false) : okComers h xs = false := by
  have hlt : k < xs.length := (List.getElem?_eq_some_iff.1 hx).1
  unfold okComers
  rw [List.all_eq_false]
  refine ⟨k, List.mem_range.2 hlt, ?_⟩
  rw [List.getD_eq_getElem?_getD, hx]; simpa using hk

theorem check_in (h : Int) (A : Option Addr) (n c : Nat) (xs : List Comer) (w : World) (ha : Arr ccells 3 w A n xs) (hh : rng h 0 24 = true) (hn : n ≤ 12) (hnc : n ≤ c) :
    Calls Try.prog 53 #[.agg #[.int .i64 h, .slice A n c]] w fun e w' => e = .returned (.int .i64 (err (okComers h xs) 52)) ∧ Below w.heap.size w w' := by
  have h0 : 0 ≤ h := by simp [rng] at hh; omega
  have h24 : h ≤ 24 := by simp [rng] at hh; omega
  obtain ⟨hp, -, -⟩ := pow24 h0 h24
  have hlen := Lib.hid ha.1
  have hb0 : Below w.heap.size w (w.alloc (.cells #[.int .i64 h, .slice A n c] 24)) := (Below.refl _ _).alloc (Nat.le_refl _) _
  have c0 : (w.alloc (.cells #[.int .i64 h, .slice A n c] 24)).cell? ⟨w.heap.size, 0, none⟩ = some (.int .i64 h) := by simp [go_sem]
  have c1 : (w.alloc (.cells #[.int .i64 h, .slice A n c] 24)).cell? ⟨w.heap.size, 1, none⟩ = some (.slice A n c) := by simp [go_sem]
  go_enter Try.func53, Try.ntmps53
  go_wp2_with (first | (go_at_call 64; refine (within_any _ _ _ _).mono ?_; rintro e w' ⟨rfl, rfl⟩))
  generalize w.alloc (.cells #[.int .i64 h, .slice A n c] 24) = W0 at hb0 c0 c1 ⊢
  have e0 := cellW c0
  have e1 := cellW c1
  have ha0 := ha.below hb0
  clear ha
  go_loopw [18] (fun i wr => ∃ k : Nat, k ≤ n ∧ i = .int .i64 k ∧ (∃ x : Wd W0, wr = x.val) ∧ (∀ j, j < k → ∀ x, xs[j]? = some x → okComer h (xs.take j) x = true)) (fun i _ => n - (intOf i).toNat)
  case atStart => exact ⟨0, Nat.zero_le _, rfl, Wd.self _, fun j hj => absurd hj (by omega)⟩
  case round =>
    obtain ⟨k, hk, rfl, ⟨wx, rfl⟩, hall⟩ := hrel
    have Hall := Lib.hid hall
    clear hall c0 c1
    by_cases hlt : k < n
    · obtain ⟨b, o, x, rfl, hab, hx, hcell⟩ := comer_at ha0 hlt
      obtain ⟨q0, q1, q2⟩ := hcell _ wx.ok
      have Hx := Lib.hid hx
      have hb1 : Below W0.heap.size W0 (wx.val.alloc (.cells #[.int .i64 x.family, .int .i64 x.hours, .int .i64 x.wants] 53)) := wx.ok.alloc wx.size _
      have d0 : (wx.val.alloc (.cells #[.int .i64 x.family, .int .i64 x.hours, .int .i64 x.wants] 53)).cell? ⟨wx.val.heap.size, 0, none⟩ = some (.int .i64 x.family) := by simp [go_sem]
      have d1 : (wx.val.alloc (.cells #[.int .i64 x.family, .int .i64 x.hours, .int .i64 x.wants] 53)).cell? ⟨wx.val.heap.size, 1, none⟩ = some (.int .i64 x.hours) := by simp [go_sem]
      have d2 : (wx.val.alloc (.cells #[.int .i64 x.family, .int .i64 x.hours, .int .i64 x.wants] 53)).cell? ⟨wx.val.heap.size, 2, none⟩ = some (.int .i64 x.wants) := by simp [go_sem]
      clear hx hcell
      go_wp2_with fail
      have d3 := e0 ⟨_, hb1⟩
      have d4 := e1 ⟨_, hb1⟩
      dsimp only at d3 d4
      generalize (wx.val.alloc (.cells #[.int .i64 x.family, .int .i64 x.hours, .int .i64 x.wants] 53)) = W1 at hb1 d0 d1 d2 d3 d4 ⊢
      have f0 := cellW d0
      have f1 := cellW d1
      have f2 := cellW d2
      have f3 := cellW d3
      have f4 := cellW d4
      have ha1 := Lib.hid ((ha0.below hb1).take (Nat.le_of_lt hlt))
      clear d0 d1 d2 d3 d4 e0 e1
      cases hA : isComer x with
      | true =>
        have ce : Value.int .i64 (err (isComer x) 51) = .int .i64 0 := by rw [hA]; rfl
        by_cases hB : x.hours < 2 ^ h.toNat
        · have hB' : decide (2 ^ h.toNat ≤ x.hours) = false := by simpa using hB
          refine wp_region_calm W1 (by kernel_rfl) (by kernel_rfl) (Below.refl _ _) ?_
          repeat (go_big_quiet_step (first | (go_at_call 51; exact callsCalm (callsRet (checkComer_any x _) ce)) | (go_at_call 63; exact callsCalm (index_any _ _ _ _ _ _ (ha1.out.below (Wd.ok _)) (by omega)))))
          refine wpQuiet_nil ?_
          rintro _ ⟨wy, rfl⟩
          go_wp2
          · go_ret
            have hi : 0 ≤ idx (List.take k xs) x.family := by assumption
            exact ⟨ret_int (by rw [okComers_no Hx.out (by simp [okComer, hi])]; rfl), extTrans hb0 (extTrans hb1 wy.ok)⟩
          · have hi : idx (List.take k xs) x.family < 0 := by assumption
            go_roundw
            case rel =>
              refine ⟨k + 1, by omega, by go_num, Wd.of (extTrans hb1 wy.ok), fun j hj y hy => ?_⟩
              by_cases hjk : j < k
              · exact Hall.out j hjk y hy
              · obtain rfl : j = k := by omega
                rw [Hx.out] at hy; simp at hy; subst hy
                simp [okComer, hA, hB, hi]
            case measure => simp [intOf]; omega
        · have hno := Lib.hid (show okComer h (xs.take k) x = false by simp [okComer, hB])
          have hB' : decide (2 ^ h.toNat ≤ x.hours) = true := by simpa using hB
          refine wp_region_calm W1 (by kernel_rfl) (by kernel_rfl) (Below.refl _ _) ?_
          repeat (go_big_quiet_step ((go_at_call 51; exact callsCalm (callsRet (checkComer_any x _) ce))))
          refine wpQuiet_nil ?_
          rintro _ ⟨wy, rfl⟩
          go_wp2
          go_ret
          exact ⟨ret_int (by rw [okComers_no Hx.out hno.out]; rfl), extTrans hb0 (extTrans hb1 wy.ok)⟩
      | false =>
        have ce : Value.int .i64 (err (isComer x) 51) = .int .i64 51 := by rw [hA]; rfl
        refine wp_region_calm W1 (by kernel_rfl) (by kernel_rfl) (Below.refl _ _) ?_
        repeat (go_big_quiet_step ((go_at_call 51; exact callsCalm (callsRet (checkComer_any x _) ce))))
        refine wpQuiet_nil ?_
        rintro _ ⟨wy, rfl⟩
        go_wp2
        go_ret
        exact ⟨ret_int (by rw [okComers_no Hx.out (by simp [okComer, hA])]; rfl), extTrans hb0 (extTrans hb1 wy.ok)⟩
    · go_wp2
      go_ret
      have hok : okComers h xs = true := by
        unfold okComers
        rw [List.all_eq_true]
        intro j hj
        have hj' : j < xs.length := List.mem_range.1 hj
        have := Hall.out j (by have := hlen.out; omega) _ (List.getElem?_eq_getElem hj')
        rw [List.getD_eq_getElem?_getD, List.getElem?_eq_getElem hj']
        exact this
      exact ⟨ret_int (by rw [hok]; rfl), extTrans hb0 wx.ok⟩
end Go.Proofs.Ytdhhneflhmkonaa
