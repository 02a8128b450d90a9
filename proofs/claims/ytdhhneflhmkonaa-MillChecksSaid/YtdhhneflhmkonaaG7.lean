/- The mill: slices that a call makes; 'sum', 'atMost'. -/
import Derived.Test.YtdhhneflhmkonaaG6
import Derived.Laws.AppendOwn
import Derived.OwnWalk
namespace Go.Proofs.Ytdhhneflhmkonaa
open Go.RowKit Go.Shelf

/-- A slice of numbers that the call itself makes. -/
def Own (w : World) (base : Nat) (v : Value) (l : List Int) : Prop := w.ownsRow base 3 1 v l.length (l.map (Value.int .i64))
section
variable {w w' : World} {base : Nat} {v : Value} {l : List Int}
theorem Own.nil (w : World) (base : Nat) : Own w base (.slice none 0 0) [] := World.ownsRow_nil w base 3 1
theorem Own.ext (h : Own w base v l) (g : Below w.heap.size w w') : Own w' base v l :=
  World.ownsRow.kept h (row := none) ⟨g.os, g.tape, g.output, g.size, fun k hk _ => g.block k hk⟩ (by
    cases hq : v.ownBlock with
    | none => exact .inl rfl
    | some k => exact .inr (by simp))
theorem Own.ints (h : Own w base v l) : ∃ A c, v = .slice A l.length c ∧ Ints w A l.length l := by
  obtain ⟨h1, h2 | ⟨g, cap, cur, rfl, hb, hg, h4, h5, h6, h7⟩⟩ := h
  · obtain ⟨rfl, h3⟩ := h2
    have : l = [] := List.eq_nil_of_length_eq_zero h3
    subst this
    exact ⟨none, 0, rfl, rfl, fun h => absurd h (by simp)⟩
  · refine ⟨_, _, rfl, rfl, fun _ => ⟨g, 0, rfl, ?_, fun k x hx j u hu => ?_⟩⟩
    · rcases Nat.lt_or_ge g w.heap.size with hlt | hge
      · exact hlt
      · rw [Array.getElem?_eq_none hge] at hg; cases hg
    · have hk : k < l.length := (List.getElem?_eq_some_iff.1 hx).1
      have hj : j = 0 := by
        rcases Nat.lt_or_ge j 1 with h | h
        · omega
        · rw [List.getElem?_eq_none (by simp [icells]; omega)] at hu; cases hu
      subst hj
      have hu' : u = .int .i64 x := by simp [icells] at hu; exact hu.symm
      subst hu'
      rw [show 0 + k * 1 + 0 = k by omega, cell_of_row w g k cur 3 (0, 0) hg]
      have e1 : (l.map (Value.int .i64))[k]? = some (.int .i64 x) := by rw [List.getElem?_map, hx]; rfl
      rw [← h7, List.getElem?_take, if_pos (by omega)] at e1
      simpa using e1
/-- What is changed lies beyond 'base'. -/
theorem Own.base_le (h : Own w base v l) : ∀ k, v.ownBlock = some k → base ≤ k ∧ k < w.heap.size := World.ownsRow.lt h
end

theorem info3 : (Try.prog.info? 3).map (fun i => (i.zero, i.size, i.bytes)) = some (some (.int .i64 0), 1, 8) := by kernel_rfl
theorem under28 : Try.prog.underlying 28 = some (.slice 3) := by kernel_rfl

/-- 'append(l, x)' on such a slice. -/
theorem push_int {w : World} {ops : Array Oper} {rest : List Oper} {o : Oper} {a : Act} {Q : Exit → Act → World → Prop} (hgd : o.guard = none) (s x : Operand)
    (ho : o.op = .call { callee := .builtin .append, args := #[s, x], argTypes := #[28, 28] }) (base : Nat) (v : Value) (l : List Int) (hs : a.eval s = v) (hown : Own w base v l)
    (ad : Addr) (m c : Nat) (y : Int) (hx : a.eval x = .slice (some ad) m c) (hm : m = 1) (hc : w.cell? ad = some (.int .i64 y)) (hl : l.length < 100000) (hbase : base ≤ w.heap.size)
    (h : ∀ v' w', Own w' base v' (l ++ [y]) → (∀ B, B ≤ base → Below B w w') → wpList Try.prog ops Q rest (a.put o.dst v') w') : wpList Try.prog ops Q (o :: rest) a w := by
  subst hm
  obtain ⟨i, hi, hz0, hz1, hz2⟩ := info_parts info3
  refine wpList_append_own w hgd s x 28 ho base 3 i (.int .i64 0) 1 8 under28 hi hz0 hz1 hz2 (by simp [Value.cells]) (by decide) v l.length _ hs hown ad 1 c [.int .i64 y] hx rfl ?_ ?_ (by unfold maxLen; omega) (by omega) hbase ?_
  · intro j u hu
    have hj : j = 0 := by
      rcases Nat.lt_or_ge j 1 with h | h
      · omega
      · rw [List.getElem?_eq_none (by simp; omega)] at hu; cases hu
    subst hj
    simp at hu; subst hu
    simpa [Addr.add] using hc
  · intro u hu; simp at hu; subst hu; rfl
  · intro v' w' h1 h2 _
    refine h v' w' ?_ (fun B hB => (Below.refl _ _).grown h2 (by omega) (fun k hk => ?_))
    · unfold Own; simpa using h1
    · have := hown.base_le k hk; omega

theorem cell_new1 (w : World) (v : Value) (t : TypeId) (k : Nat) (hk : k = w.heap.size) : (w.alloc (.cells #[v] t)).cell? ⟨k, 0, none⟩ = some v := by subst hk; simp [go_sem]

theorem two_more (w : World) (o o' : Obj) : Below w.heap.size w ((w.alloc o).alloc o') := ((Below.refl _ _).alloc (Nat.le_refl _) o).alloc (by simp) o'
theorem two_more2 {w : World} {B : Nat} (h : B ≤ w.heap.size) (o o' : Obj) : Below B w ((w.alloc o).alloc o') := (two_more w o o').mono h
theorem two_le {w : World} {B : Nat} (h : B ≤ w.heap.size) (o o' : Obj) : B ≤ ((w.alloc o).alloc o').heap.size := by simp; omega

theorem sum_take (l : List Int) (k : Nat) (hk : k < l.length) : (l.take (k + 1)).sum = (l.take k).sum + l.getD k 0 := by
  rw [List.take_add_one, List.sum_append, List.getD_eq_getElem?_getD, List.getElem?_eq_getElem hk]
  simp
theorem sum_bd (l : List Int) (hb : ∀ x ∈ l, -1000000 ≤ x ∧ x ≤ 1000000) : -(1000000 * (l.length : Int)) ≤ l.sum ∧ l.sum ≤ 1000000 * (l.length : Int) := by
  induction l with
  | nil => simp
  | cons y l ih =>
    have h1 := hb y (by simp)
    have h2 := ih (fun x hx => hb x (List.mem_cons_of_mem _ hx))
    rw [List.sum_cons, List.length_cons]
    omega

theorem sum_any (D : Option Addr) (n cd : Nat) (d : List Int) (w : World) (hd : Ints w D n d) (hn : n ≤ 1000000) (hb : ∀ x ∈ d, -1000000 ≤ x ∧ x ≤ 1000000) :
    Calls Try.prog 99 #[.slice D n cd] w fun e w' => e = .returned (.int .i64 d.sum) ∧ w = w' := by
  have hD := Lib.hid hd
  have hB := Lib.hid hb
  have hlen := Lib.hid hd.1
  clear hd hb
  go_enter Try.func99, Try.ntmps99
  go_wp2
  go_loopw [3, 8] (fun s i wr => ∃ k : Nat, i = .int .i64 k ∧ k ≤ n ∧ s = .int .i64 ((d.take k).sum) ∧ w = wr) (fun _ i _ => n - (intOf i).toNat)
  case atStart => exact ⟨0, rfl, Nat.zero_le _, rfl, rfl⟩
  case round =>
    obtain ⟨k, rfl, hk, rfl, rfl⟩ := hrel
    by_cases hkn : k < n
    · obtain ⟨b, o, rfl, hbl, hmem, hc⟩ := ints_at hD.out hkn
      have c0 := hc w (Below.refl _ _)
      obtain ⟨x, hx⟩ : ∃ x, d.getD k 0 = x := ⟨_, rfl⟩
      have h1 := hB.out _ (List.mem_of_getElem? hmem)
      have h2 := sum_bd (d.take k) (fun x hx => hB.out x (List.mem_of_mem_take hx))
      have h3 : (d.take k).length = k := by rw [List.length_take]; have := hlen.out; omega
      have HS := Lib.hid (sum_take d k (by have := hlen.out; omega))
      rw [hx] at c0 h1 HS
      rw [h3] at h2
      generalize hS : (d.take k).sum = S at h2 HS ⊢
      clear hc hmem hx h3
      go_wp2
      go_roundw
      case rel => exact ⟨k + 1, by go_num, by omega, by rw [HS.out], trivial⟩
      case measure => simp [intOf]; omega
    · obtain rfl : k = n := by omega
      go_wp2
      go_ret
      exact ⟨by rw [List.take_of_length_le (by have := hlen.out; omega)]; rfl, rfl⟩

/-- Of each the lesser one of a number and what it wants. -/
def capped (xs : List Comer) (m : Int) : List Int := xs.map fun c => min m c.wants

set_option maxRecDepth 100000 in
theorem atMost_any (A : Option Addr) (n cc : Nat) (H m : Int) (xs : List Comer) (w : World) (ha : Arr ccells 3 w A n xs) (hn : n ≤ 12) :
    Calls Try.prog 88 #[mv A n cc H, .int .i64 m] w fun e w' => (∃ D c, e = .returned (.slice D n c) ∧ Ints w' D n (capped xs m)) ∧ Below w.heap.size w w' := by
  have ha0 := Lib.hid ha
  have hlen := Lib.hid ha.1
  clear ha
  unfold mv
  go_enter Try.func88, Try.ntmps88
  go_wp2_with fail
  generalize hW1 : w.alloc (.cells #[.int .i64 H, .slice A n cc] 24) = W1
  obtain ⟨g1, c0, c1⟩ := box2 hW1
  have HG1 := Lib.hid g1
  clear hW1
  go_wp2_with fail
  go_loopw [5, 11] (fun v i wr => ∃ k : Nat, i = .int .i64 k ∧ k ≤ n ∧ Below W1.heap.size W1 wr ∧ Own wr W1.heap.size v ((capped xs m).take k)) (fun _ i _ => n - (intOf i).toNat)
  case atStart => exact ⟨0, rfl, Nat.zero_le _, Below.refl _ _, Own.nil _ _⟩
  case round =>
    obtain ⟨k, rfl, hk, hbl, hown⟩ := hrel
    have HB := Lib.hid hbl
    have HO := Lib.hid hown
    have hsz := hbl.size
    by_cases hkn : k < n
    · obtain ⟨b, o, x, rfl, hb, hx, hc⟩ := comer_at (ha0.out.below (HG1.out.trans (hbl.mono HG1.out.size))) hkn
      obtain ⟨d0, d1, d2⟩ := hc wr (Below.refl _ _)
      have HX := Lib.hid hx
      clear hbl hown hc hx
      have HL : (List.take k (capped xs m)).length < 100000 := by rw [List.length_take]; omega
      go_wp2_with (first | (at_builtin; refine push_int rfl _ _ rfl W1.heap.size _ ((capped xs m).take k) rfl (HO.out.ext (two_more _ _ _)) _ _ _ _ rfl rfl (cell_new1 _ _ _ _ (World.size_alloc _ _).symm) HL (two_le hsz _ _) ?_; intro v' w' ho hbw))
      all_goals
        go_roundw
        case rel =>
          refine ⟨k + 1, by go_num, by omega, HB.out.trans ((two_more2 hsz _ _).trans (hbw _ (Nat.le_refl _))), ?_⟩
          have e : (capped xs m).take (k + 1) = (capped xs m).take k ++ [min m x.wants] := by
            rw [List.take_add_one, capped, List.getElem?_map, HX.out]; rfl
          rw [e]
          rw [show min m x.wants = if x.wants < m then x.wants else m by split <;> omega]
          exact ho
        case measure => simp [intOf]; omega
    · obtain rfl : k = n := by omega
      have hl : (capped xs m).take k = capped xs m := List.take_of_length_le (by rw [capped, List.length_map]; have := hlen.out; omega)
      obtain ⟨D, c, rfl, hi⟩ := hown.ints
      have e : ((capped xs m).take k).length = k := by rw [hl, capped, List.length_map, hlen.out]
      rw [e] at hi
      rw [hl] at hi e
      have HI := Lib.hid hi
      have E := Lib.hid e
      clear hbl hown hi e hl
      go_wp2_with fail
      go_ret
      exact ⟨⟨D, c, by rw [List.take_of_length_le (by rw [E.out]; exact Nat.le_refl _), E.out]; rfl, HI.out⟩, HG1.out.trans (HB.out.mono HG1.out.size)⟩
end Go.Proofs.Ytdhhneflhmkonaa
