/- The mill's checks: index, CheckComer, Check. -/
import Derived.Test.YtdhhneflhmkonaaProg
import Derived.Test.YtdhhneflhmkonaaBase
namespace Go.Proofs.Ytdhhneflhmkonaa
open Go.RowKit

structure Comer where
  family : Int
  hours : Int
  wants : Int
deriving DecidableEq, Repr

def ccells (c : Comer) : List Value := [.int .i64 c.family, .int .i64 c.hours, .int .i64 c.wants]

theorem index1_any (c : Comer) (p : Addr) (fam : Int) (w : World) (hp : w.cell? p = some (.int .i64 fam)) (hb : p.block < w.heap.size) :
    Calls Try.prog 98 #[.agg #[.int .i64 c.family, .int .i64 c.hours, .int .i64 c.wants], .pointer (some p)] w fun e w' => e = .returned (.bool (c.family == fam)) ∧ Below w.heap.size w w' := by
  have hp' : (w.alloc (.cells #[.int .i64 c.family, .int .i64 c.hours, .int .i64 c.wants] 53)).cell? p = some (.int .i64 fam) := by
    rw [← hp]; exact World.cell?_alloc_lt w _ p hb
  go_enter Try.func98, Try.ntmps98
  go_wp2
  go_ret
  exact ⟨rfl, (Below.refl _ _).alloc (Nat.le_refl _) _⟩

def idx (l : List Comer) (f : Int) : Int := match l.findIdx? (fun c => c.family == f) with
  | some i => i
  | none => -1

theorem comer_at {w : World} {A : Option Addr} {n : Nat} {xs : List Comer} (h : Arr ccells 3 w A n xs) {k : Nat} (hk : k < n) :
    ∃ b o x, A = some ⟨b, o, none⟩ ∧ b < w.heap.size ∧ xs[k]? = some x ∧ ∀ w', Below w.heap.size w w' → w'.cell? ⟨b, o + k * 3, none⟩ = some (.int .i64 x.family) ∧
      w'.cell? ⟨b, o + k * 3 + 1, none⟩ = some (.int .i64 x.hours) ∧ w'.cell? ⟨b, o + k * 3 + 2, none⟩ = some (.int .i64 x.wants) := by
  obtain ⟨b, o, x, rfl, hb, hx, hc⟩ := h.at hk
  exact ⟨b, o, x, rfl, hb, hx, fun w' hw => ⟨hc w' hw 0 _ rfl, hc w' hw 1 _ rfl, hc w' hw 2 _ rfl⟩⟩

theorem idx_none {l : List Comer} {f : Int} (h : ∀ j, j < l.length → ∀ x, l[j]? = some x → x.family ≠ f) : idx l f = -1 := by
  unfold idx
  have : l.findIdx? (fun c => c.family == f) = none := by
    rw [List.findIdx?_eq_none_iff]
    intro x hx
    obtain ⟨j, hj, rfl⟩ := List.getElem_of_mem hx
    simpa using h j hj _ (List.getElem?_eq_getElem hj)
  rw [this]

theorem idx_some {l : List Comer} {f : Int} {k : Nat} {x : Comer} (h : ∀ j, j < k → ∀ x, l[j]? = some x → x.family ≠ f) (hx : l[k]? = some x) (hf : x.family = f) : idx l f = k := by
  unfold idx
  have hk : k < l.length := (List.getElem?_eq_some_iff.1 hx).1
  have : l.findIdx? (fun c => c.family == f) = some k := by
    rw [List.findIdx?_eq_some_iff_getElem]
    refine ⟨hk, ?_, fun j hj => ?_⟩
    · rw [List.getElem?_eq_getElem hk] at hx; simp at hx; simp [hx, hf]
    · have := h j hj _ (List.getElem?_eq_getElem (by omega)); simpa using this
  rw [this]

theorem indexFunc_any (A : Option Addr) (n c : Nat) (xs : List Comer) (p : Addr) (fam : Int) (w : World) (ha : Arr ccells 3 w A n xs) (hn : n ≤ 9223372036854775807)
    (hp : w.cell? p = some (.int .i64 fam)) (hb : p.block < w.heap.size) :
    Calls Try.prog 97 #[.slice A n c, .func (.func 98) #[] #[.pointer (some p)]] w fun e w' => e = .returned (.int .i64 (idx xs fam)) ∧ Below w.heap.size w w' := by
  have hlen := Lib.hid ha.1
  go_enter Try.func97, Try.ntmps97
  go_wp2
  go_loopw [8] (fun i wr => ∃ k : Nat, k ≤ n ∧ i = .int .i64 k ∧ (∀ j, j < k → ∀ x, xs[j]? = some x → x.family ≠ fam) ∧ Below w.heap.size w wr) (fun i _ => n - (intOf i).toNat)
  case atStart => exact ⟨0, Nat.zero_le _, rfl, by omega, Below.refl _ _⟩
  case round =>
    obtain ⟨k, hk, rfl, hno, hbel⟩ := hrel
    by_cases hlt : k < n
    · obtain ⟨b, o, x, rfl, hab, hx, hcell⟩ := comer_at ha hlt
      obtain ⟨h0, h1, h2⟩ := hcell wr hbel
      have hpr : wr.cell? p = some (.int .i64 fam) := (hbel.cell hb).trans hp
      have hbr : p.block < wr.heap.size := Nat.lt_of_lt_of_le hb hbel.size
      have Hp := Lib.hid hp
      have Hx := Lib.hid hx
      clear hp hcell hx
      by_cases hf : (x.family == fam) = true
      · go_wp2_with (go_at_call 98; refine (index1_any x p fam _ hpr hbr).mono ?_; rw [hf]; rintro e w' ⟨rfl, hb'⟩)
        go_ret
        exact ⟨ret_int (idx_some hno Hx.out (by simpa using hf)).symm, hbel.trans (hb'.mono hbel.size)⟩
      · have hf' : (x.family == fam) = false := by simpa using hf
        go_wp2_with (go_at_call 98; refine (index1_any x p fam _ hpr hbr).mono ?_; rw [hf']; rintro e w' ⟨rfl, hb'⟩)
        go_roundw
        case rel => 
          refine ⟨k + 1, by omega, by go_num, ?_, hbel.trans (hb'.mono hbel.size)⟩
          intro j hj y hy
          by_cases hjk : j < k
          · exact hno j hjk y hy
          · obtain rfl : j = k := by omega
            have := Hx.out
            rw [this] at hy; simp at hy; subst hy; simpa using hf
        case measure => simp [intOf]; omega
    · go_wp2
      go_ret
      exact ⟨ret_int (idx_none (fun j hj => hno j (by have := hlen.out; omega))).symm, hbel⟩
def rng (n lo hi : Int) : Bool := decide (lo ≤ n) && decide (n ≤ hi)

theorem within_any (n lo hi : Int) (w : World) :
    Calls Try.prog 64 #[.int .i64 n, .int .i64 lo, .int .i64 hi] w fun e w' => e = .returned (.bool (rng n lo hi)) ∧ w = w' := by
  unfold rng
  by_cases h1 : lo ≤ n
  · go_enter Try.func64, Try.ntmps64
    go_wp2
    go_ret
    exact ⟨by simp [h1], rfl⟩
  · go_enter Try.func64, Try.ntmps64
    go_wp2
    go_ret
    exact ⟨by simp; omega, rfl⟩

def isComer (c : Comer) : Bool := rng c.family 1 99 && rng c.hours 0 16777215 && rng c.wants 0 24
abbrev cv (c : Comer) : Value := .agg #[.int .i64 c.family, .int .i64 c.hours, .int .i64 c.wants]
def err (b : Bool) (e : Int) : Int := if b then 0 else e

theorem checkComer_any (c : Comer) (w : World) :
    Calls Try.prog 51 #[cv c] w fun e w' => e = .returned (.int .i64 (err (isComer c) 51)) ∧ Below w.heap.size w w' := by
  unfold err isComer
  cases hA : rng c.family 1 99 <;> cases hB : rng c.hours 0 16777215 <;> cases hC : rng c.wants 0 24
  all_goals
    go_enter Try.func51, Try.ntmps51
    go_wp2_with (go_at_call 64; refine (within_any _ _ _ _).mono ?_; rintro e w' ⟨rfl, rfl⟩)
    go_ret
    exact ⟨rfl, (Below.refl _ _).alloc (Nat.le_refl _) _⟩


theorem index_any (A : Option Addr) (n c : Nat) (xs : List Comer) (fam : Int) (w : World) (ha : Arr ccells 3 w A n xs) (hn : n ≤ 9223372036854775807) :
    Calls Try.prog 63 #[.slice A n c, .int .i64 fam] w fun e w' => e = .returned (.int .i64 (idx xs fam)) ∧ Below w.heap.size w w' := by
  have hb0 : Below w.heap.size w (w.alloc (.cells #[.int .i64 fam] 3)) := (Below.refl _ _).alloc (Nat.le_refl _) _
  have hp : (w.alloc (.cells #[.int .i64 fam] 3)).cell? ⟨w.heap.size, 0, none⟩ = some (.int .i64 fam) := by simp [go_sem]
  have hcall := indexFunc_any A n c xs ⟨w.heap.size, 0, none⟩ fam _ (ha.below hb0) hn hp (by simp)
  have Hc := Lib.hid hcall
  clear hcall hp
  go_enter Try.func63, Try.ntmps63
  go_wp2_with (go_at_call 97; refine (Hc.out).mono ?_; rintro e w' ⟨rfl, hb⟩)
  go_ret
  exact ⟨rfl, hb0.trans (hb.mono (by simp))⟩

end Go.Proofs.Ytdhhneflhmkonaa
