/- The reference's search: whether a comer can come at an hour. -/
import Derived.Test.YtdhhneflhmkonaaV1
import Derived.Test.YtdhhneflhmkonaaKF
namespace Go.Proofs.Ytdhhneflhmkonaa
open Go.RowKit Go.Shelf

theorem andbit (a h : Nat) (ha : a < 16777216) (hh : h < 24) : (bits .and .i64 (a : Int) (wrap64 (2 ^ h)) != 0) = a.testBit h := by
  have h1 : 2 ^ h < 2 ^ 24 := Nat.pow_lt_pow_right (by decide) hh
  have h0 : 0 < 2 ^ h := Nat.two_pow_pos h
  have e : wrap64 ((2 : Int) ^ h) = ((2 ^ h : Nat) : Int) := by
    rw [show (2 : Int) ^ h = ((2 ^ h : Nat) : Int) by simp]; generalize 2 ^ h = q at h1 ⊢; exact IntWalk.wrap64_in _ ⟨by omega, by omega⟩
  rw [e, and64 a (2 ^ h) (by omega) (by omega)]
  have e2 : a &&& 2 ^ h = if a.testBit h = true then 2 ^ h else 0 := by
    apply Nat.eq_of_testBit_eq
    intro i
    rw [Nat.testBit_and, pow_bit]
    by_cases hi : h = i
    · subst hi
      cases a.testBit h
      · simp
      · simp
    · split <;> simp [hi]
  rw [e2]
  cases a.testBit h
  · simp
  · rw [if_pos rfl]
    generalize 2 ^ h = q at h0 ⊢
    simp; omega

set_option maxRecDepth 100000 in
set_option maxHeartbeats 2000000 in
theorem comesRef_any (A : Option Addr) (n cc k h : Nat) (H : Int) (xs : List Comer) (x : Comer) (w : World) (ha : Arr ccells 3 w A n xs) (hk : k < n) (hx : xs[k]? = some x) (h24 : h < 24) (hb : 0 ≤ x.hours ∧ x.hours < 16777216) :
    Calls Try.prog 74 #[mv A n cc H, .int .i64 k, .int .i64 h] w fun e w' => e = .returned (.bool (x.hours.toNat.testBit h)) ∧ Below w.heap.size w w' := by
  obtain ⟨b, o, x', rfl, hbl, hx', hc⟩ := comer_at ha hk
  rw [hx] at hx'
  cases hx'
  have HC := Lib.hid hc
  clear ha hx hc
  unfold mv
  go_enter Try.func74, Try.ntmps74
  go_wp2_with fail
  generalize hW1 : w.alloc (.cells #[.int .i64 H, .slice (some ⟨b, o, none⟩) n cc] 24) = W1
  obtain ⟨g1, c0, c1⟩ := box2 hW1
  have HG1 := Lib.hid g1
  obtain ⟨hh, hhh⟩ : ∃ hh : Nat, x.hours = hh := ⟨x.hours.toNat, by omega⟩
  obtain ⟨-, e1, -⟩ := HC.out W1 g1
  rw [hhh] at e1
  have hlt : hh < 16777216 := by omega
  have HR := Lib.hid (show x.hours.toNat.testBit h = hh.testBit h by rw [hhh]; rfl)
  clear hW1 g1 HC hhh hb
  go_region
  rw [andbit hh h hlt h24]
  go_wp2_with fail
  go_ret
  exact ⟨by rw [HR.out]; rfl, HG1.out.drew⟩
end Go.Proofs.Ytdhhneflhmkonaa
