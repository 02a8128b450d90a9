/- append; the checks of both sides; Without. -/
import Derived.Test.YtdhhneflhmkonaaKC
import Derived.Maps.AppendAt
import Derived.Deep.AppendLies
import Derived.Deep.Onto
import Derived.RegionTactic
import Derived.Test.YtdhhneflhmkonaaR1
import Derived.Test.YtdhhneflhmkonaaKE
import Derived.Deep.RegionLaw

/- append, onto a slice that the call itself makes: of numbers and of comers, whatever the source. -/
namespace Go.Proofs.Ytdhhneflhmkonaa
open Go.RowKit Go.Shelf

/-- A kind of element: its cells, the types of it and of its slice. -/
structure Kd {α : Type} (f : α → List Value) (size : Nat) (e t : TypeId) (bytes : Nat) (z : Value) : Prop where
  ht : Try.prog.underlying t = some (.slice e)
  hi : (Try.prog.info? e).map (fun i => (i.zero, i.size, i.bytes)) = some (some z, size, bytes)
  hz : z.cells.size = size
  pos : 0 < size
  len : ∀ x, (f x).length = size
  one : ∀ x, ∀ u ∈ f x, u.oneCell' = true
  by64 : bytes ≤ 64

theorem kdInt : Kd icells 1 3 28 8 (.int .i64 0) := ⟨under28, info3, by simp [Value.cells], by decide, fun _ => rfl, fun _ u hu => by simp [icells] at hu; subst hu; rfl, by decide⟩
theorem kdCom : Kd ccells 3 53 22 24 (.agg #[.int .i64 0, .int .i64 0, .int .i64 0]) :=
  ⟨under22, info53, by simp [Value.cells], by decide, ccells_len, fun _ u hu => by simp [ccells] at hu; rcases hu with rfl | rfl | rfl <;> rfl, by decide⟩

/-- A slice that the call itself makes. -/
def OwnL {α : Type} (f : α → List Value) (size : Nat) (e : TypeId) (w : World) (base : Nat) (v : Value) (xs : List α) : Prop := w.ownsRow base e size v xs.length (xs.flatMap f)
theorem OwnC.l {w : World} {base : Nat} {v : Value} {xs : List Comer} (h : OwnC w base v xs) : OwnL ccells 3 53 w base v xs := h
theorem flat_icells (l : List Int) : l.flatMap icells = l.map (Value.int .i64) := by
  induction l with
  | nil => rfl
  | cons x l ih => rw [List.flatMap_cons, ih]; rfl
theorem Own.l {w : World} {base : Nat} {v : Value} {l : List Int} (h : Own w base v l) : OwnL icells 1 3 w base v l := by unfold OwnL; rw [flat_icells]; exact h
theorem OwnL.ints {w : World} {base : Nat} {v : Value} {l : List Int} (h : OwnL icells 1 3 w base v l) : Own w base v l := by unfold OwnL at h; rw [flat_icells] at h; exact h

section
variable {α : Type} {f : α → List Value} {size : Nat} {e t : TypeId} {bytes : Nat} {z : Value}

theorem run_app (K : Kd f size e t bytes z) (w : World) (ty : TypeId) (base : Nat) (v : Value) (xs : List α) (hown : OwnL f size e w base v xs) (A : Option Addr) (m c : Nat) (ys : List α) (hr : Arr f size w A m ys)
    (hn : xs.length + m ≤ 1000000) (hbase : base ≤ w.heap.size) :
    ∃ v' w', (Builtin.append_ #[t, t] ty #[v, .slice A m c]).run Try.prog w = .ok v' w' ∧ OwnL f size e w' base v' (xs ++ ys) ∧ w.grownBy w' v.ownBlock ∧ (v'.ownBlock = v.ownBlock ∨ v'.ownBlock = some w.heap.size) := by
  obtain ⟨i, hi, hz0, hz1, hz2⟩ := info_parts K.hi
  have hl := hr.1
  have hby : bytes ≤ 64 := K.by64
  have hmul : (xs.length + m) * bytes ≤ 1000000 * 64 := Nat.mul_le_mul hn hby
  have hfl : (ys.flatMap f).length = m * size := by rw [flat_len K.len, hl]
  have h1c : ∀ u ∈ ys.flatMap f, u.oneCell' = true := fun u hu => by obtain ⟨x, -, hx⟩ := List.mem_flatMap.1 hu; exact K.one x u hx
  have hfin : ∀ v' w', w'.ownsRow base e size v' (xs.length + m) (xs.flatMap f ++ ys.flatMap f) → OwnL f size e w' base v' (xs ++ ys) := fun v' w' h => by
    unfold OwnL; rw [List.length_append, List.flatMap_append, hl]; exact h
  rcases A with _ | ad
  · have hm : m = 0 := by
      rcases Nat.eq_zero_or_pos m with h0 | h0
      · exact h0
      · obtain ⟨b, o, h, _⟩ := hr.2 h0; cases h
    subst hm
    have hn0 : ys = [] := List.eq_nil_of_length_eq_zero hl
    subst hn0
    refine ⟨v, w, ?_, by simpa using hown, World.grownBy.refl w _, .inl rfl⟩
    unfold OwnL at hown
    rcases hown.2 with ⟨rfl, h0⟩ | ⟨g, cap, cur, rfl, _, _, hnc, _⟩
    · simp [Builtin.append_, run_underlying K.ht, sizeOf, typeInfo, hi, Builtin.lenOf, Builtin.firstCells]
    · simp [Builtin.append_, run_underlying K.ht, sizeOf, typeInfo, hi, Builtin.lenOf, Builtin.firstCells, hnc, storeCells]
  · have hcells : ∀ j u, (ys.flatMap f)[j]? = some u → w.cell? (ad.add j) = some u := by
      intro j u hu
      have hj : j < m * size := by rw [← hfl]; exact (List.getElem?_eq_some_iff.1 hu).1
      have hjm : j / size < m := Nat.div_lt_of_lt_mul (by rw [Nat.mul_comm]; exact hj)
      obtain ⟨b, o, x, e1, -, hx, hc⟩ := hr.at hjm
      cases e1
      have hd := Nat.div_add_mod j size
      rw [Nat.mul_comm] at hd
      rw [← hd, flat_get K.len ys _ _ (Nat.mod_lt _ K.pos), hx] at hu
      have := hc w (Below.refl _ _) (j % size) u hu
      rw [add_at, ← hd]
      rwa [Nat.add_assoc] at this
    obtain ⟨v', w', hrun, h2, h3, _, h5⟩ := run_append_own_at (P := Try.prog) w base t ty e i z size bytes K.ht hi hz0 hz1 hz2 K.hz K.pos v xs.length _ hown ad m c _ hfl hcells h1c (by unfold maxLen; omega) (by omega) hbase
    exact ⟨v', w', hrun, hfin _ _ h2, h3, h5⟩

theorem wp_app (K : Kd f size e t bytes z) {w : World} {o : Oper} {a : Act} {K1 : Act → World → Prop} {Q : Exit → Act → World → Prop} (s x : Operand)
    (ho : o.op = .call { callee := .builtin .append, args := #[s, x], argTypes := #[t, t] }) (base : Nat) (v : Value) (xs : List α) (hs : a.eval s = v) (hown : OwnL f size e w base v xs)
    (A : Option Addr) (m c : Nat) (ys : List α) (hx : a.eval x = .slice A m c) (hr : Arr f size w A m ys) (hn : xs.length + m ≤ 1000000) (hbase : base ≤ w.heap.size)
    (h : ∀ v' w', OwnL f size e w' base v' (xs ++ ys) → w.grownBy w' v.ownBlock → (v'.ownBlock = v.ownBlock ∨ v'.ownBlock = some w.heap.size) → K1 (a.put o.dst v') w') : o.wp Try.prog a w K1 Q := by
  obtain ⟨v', w', hrun, h2, h3, h4⟩ := run_app K w o.type base v xs hown A m c ys hr hn hbase
  unfold Oper.wp execOp
  simp only [ho, resolve, invoke, builtin, Sem.run_bind, Sem.run_pure, Result.andThen_ok, List.map_toArray, List.map_cons, List.map_nil, hs, hx, hrun]
  exact h v' w' h2 h3 h4

/-- In a plain region. -/
theorem wpList_app (K : Kd f size e t bytes z) {w : World} {ops : Array Oper} {rest : List Oper} {o : Oper} {a : Act} {Q : Exit → Act → World → Prop} (hgd : o.guard = none) (s x : Operand)
    (ho : o.op = .call { callee := .builtin .append, args := #[s, x], argTypes := #[t, t] }) (base : Nat) (v : Value) (xs : List α) (hs : a.eval s = v) (hown : OwnL f size e w base v xs)
    (A : Option Addr) (m c : Nat) (ys : List α) (hx : a.eval x = .slice A m c) (hr : Arr f size w A m ys) (hn : xs.length + m ≤ 1000000) (hbase : base ≤ w.heap.size)
    (h : ∀ v' w', OwnL f size e w' base v' (xs ++ ys) → w.grownBy w' v.ownBlock → (v'.ownBlock = v.ownBlock ∨ v'.ownBlock = some w.heap.size) → wpList Try.prog ops Q rest (a.put o.dst v') w') : wpList Try.prog ops Q (o :: rest) a w :=
  wpList_plain hgd fun _ hK => wp_app K s x ho base v xs hs hown A m c ys hx hr hn hbase fun v' w' h2 h3 h4 => hK _ _ (h v' w' h2 h3 h4)

/-- In a region that draws its order. -/
theorem step_app (K : Kd f size e t bytes z) {w : World} {ops : Array Oper} {o : Oper} {a : Act} {K1 : Act → World → Prop} {Q : Exit → Act → World → Prop} {E : Prop} (hgd : o.guard = none) (s x : Operand)
    (ho : o.op = .call { callee := .builtin .append, args := #[s, x], argTypes := #[t, t] }) (base : Nat) (v : Value) (xs : List α) (hs : a.eval s = v) (hown : OwnL f size e w base v xs)
    (A : Option Addr) (m c : Nat) (ys : List α) (hx : a.eval x = .slice A m c) (hr : Arr f size w A m ys) (hn : xs.length + m ≤ 1000000) (hbase : base ≤ w.heap.size)
    (h : ∀ v' w', OwnL f size e w' base v' (xs ++ ys) → w.grownBy w' v.ownBlock → (v'.ownBlock = v.ownBlock ∨ v'.ownBlock = some w.heap.size) → K1 (a.put o.dst v') w') :
    if Region.wanted o (yielded ops a.tmps) = true then Oper.wp Try.prog o a w K1 Q else E := by
  have hw : Region.wanted o (yielded ops a.tmps) = true := by simp [Region.wanted, hgd]
  rw [if_pos hw]
  exact wp_app K s x ho base v xs hs hown A m c ys hx hr hn hbase h

theorem OwnL.mono {w : World} {base base' : Nat} {v : Value} {xs : List α} (h : OwnL f size e w base v xs) (hb : base' ≤ base) : OwnL f size e w base' v xs := World.ownsRow.mono h hb
theorem OwnL.ext {w w' : World} {base : Nat} {v : Value} {xs : List α} (h : OwnL f size e w base v xs) (g : Below w.heap.size w w') : OwnL f size e w' base v xs :=
  World.ownsRow.kept h (row := none) ⟨g.os, g.tape, g.output, g.size, fun k hk _ => g.block k hk⟩ (by
    cases hq : v.ownBlock with
    | none => exact .inl rfl
    | some k => exact .inr (by simp))
theorem OwnL.nil (w : World) (base : Nat) : OwnL f size e w base (.slice none 0 0) [] := World.ownsRow_nil w base e size
/-- What the append leaves as it was. -/
theorem OwnL.below {w w' : World} {base B : Nat} {v : Value} {xs : List α} (h : OwnL f size e w base v xs) (hg : w.grownBy w' v.ownBlock) (hB : B ≤ base) (hb : B ≤ w.heap.size) : Below B w w' :=
  (Below.refl _ _).grown hg hb (fun k hk => by have := World.ownsRow.lt h k hk; omega)
/-- As a slice. -/
theorem OwnL.arr {w : World} {base : Nat} {v : Value} {xs : List α} (K : Kd f size e t bytes z) (h : OwnL f size e w base v xs) : ∃ A c, v = .slice A xs.length c ∧ xs.length ≤ c ∧ c ≤ maxLen ∧ Arr f size w A xs.length xs ∧
    (∀ b o, A = some ⟨b, o, none⟩ → v.ownBlock = some b ∧ base ≤ b ∧ o = 0) := by
  obtain ⟨h1, h2 | ⟨g, cap, cur, rfl, hb, hg, h4, h5, h6, h7⟩⟩ := h
  · obtain ⟨rfl, h3⟩ := h2
    have : xs = [] := List.eq_nil_of_length_eq_zero h3
    subst this
    exact ⟨none, 0, rfl, Nat.le_refl _, Nat.zero_le _, Arr.nil_, (by simp)⟩
  · have hg' : Blk w g e cur := hg
    refine ⟨_, _, rfl, h4, h5, ⟨rfl, fun _ => ⟨g, 0, rfl, hg'.lt, fun k x hx j u hu => ?_⟩⟩, fun b o e => by cases e; exact ⟨rfl, hb, rfl⟩⟩
    have hk : k < xs.length := (List.getElem?_eq_some_iff.1 hx).1
    have hj : j < size := by rw [← K.len x]; exact (List.getElem?_eq_some_iff.1 hu).1
    have e1 : (xs.flatMap f)[k * size + j]? = some u := by rw [flat_get K.len xs k j hj, hx]; exact hu
    have hlt : k * size + j < xs.length * size := by
      have : (k + 1) * size ≤ xs.length * size := Nat.mul_le_mul_right _ hk
      rw [Nat.succ_mul] at this; omega
    rw [← h7, List.getElem?_take, if_pos hlt] at e1
    rw [show 0 + k * size + j = k * size + j by omega, hg'.cell]
    simpa using e1
/-- One element in a block of its own. -/
theorem Blk.arr1 {w : World} {g : Nat} {x : α} (h : Blk w g e (f x).toArray) : Arr f size w (some ⟨g, 0, none⟩) 1 [x] :=
  ⟨rfl, fun _ => ⟨g, 0, rfl, h.lt, fun k y hy j u hu => by
    have hk : k = 0 := by have := (List.getElem?_eq_some_iff.1 hy).1; simpa using this
    subst hk
    simp at hy; subst hy
    rw [show 0 + 0 * size + j = j by omega, h.cell]
    simpa using hu⟩⟩
end
theorem keepAlloc {W : World} {a : Addr} {v : Value} (h : W.cell? a = some v) (o : Obj) : (W.alloc o).cell? a = some v := (World.cell?_alloc_lt W o a (World.block_lt_of_cell? W a h)).trans h
end Go.Proofs.Ytdhhneflhmkonaa

/- The reference's checks of a mill: CheckComer, at, Check. -/
namespace Go.Proofs.Ytdhhneflhmkonaa
open Go.RowKit

theorem refComer_any (c : Comer) (w : World) :
    Calls Try.prog 52 #[cv c] w fun e w' => e = .returned (.int .i64 (err (isComer c) 51)) ∧ Below w.heap.size w w' := by
  unfold err isComer
  cases hA : rng c.family 1 99 <;> cases hB : rng c.hours 0 16777215 <;> cases hC : rng c.wants 0 24
  all_goals
    go_enter Try.func52, Try.ntmps52
    go_wp2_with (go_at_call 72; refine (in_any _ _ _ _).mono ?_; rintro e w' ⟨rfl, rfl⟩)
    go_ret
    exact ⟨rfl, (Below.refl _ _).alloc (Nat.le_refl _) _⟩

theorem refAt_any (A : Option Addr) (n c : Nat) (h : Int) (xs : List Comer) (fam : Int) (w : World) (ha : Arr ccells 3 w A n xs) (hn : n ≤ 9223372036854775807) :
    Calls Try.prog 71 #[.agg #[.int .i64 h, .slice A n c], .int .i64 fam] w fun e w' => e = .returned (.int .i64 (idx xs fam)) ∧ Below w.heap.size w w' := by
  have hlen := Lib.hid ha.1
  have HA := Lib.hid ha
  clear ha
  go_enter Try.func71, Try.ntmps71
  go_wp2_with fail
  generalize hW1 : w.alloc (.cells #[.int .i64 h, .slice A n c] 24) = W1
  obtain ⟨g1, -, c1⟩ := box2 hW1
  have HG1 := Lib.hid g1
  have HA1 := Lib.hid (HA.out.below g1)
  clear hW1 g1
  go_loopw [5] (fun i wr => ∃ k : Nat, k ≤ n ∧ i = .int .i64 k ∧ (∀ j, j < k → ∀ x, xs[j]? = some x → x.family ≠ fam) ∧ W1 = wr) (fun i _ => n - (intOf i).toNat)
  case atStart => exact ⟨0, Nat.zero_le _, rfl, by omega, rfl⟩
  case round =>
    obtain ⟨k, hk, rfl, hno, rfl⟩ := hrel
    have HN := Lib.hid hno
    clear hno
    by_cases hlt : k < n
    · obtain ⟨b, o, x, rfl, hab, hx, hcell⟩ := comer_at HA1.out hlt
      obtain ⟨h0, h1, h2⟩ := hcell W1 (Below.refl _ _)
      have Hx := Lib.hid hx
      clear hcell hx
      by_cases hf : x.family = fam
      · subst hf
        go_wp2_with fail
        go_ret
        exact ⟨ret_int (idx_some HN.out Hx.out rfl).symm, HG1.out⟩
      · have hf' : (x.family == fam) = false := by simpa using hf
        go_wp2_with fail
        go_roundw
        case rel =>
          refine ⟨k + 1, by omega, by go_num, ?_, trivial⟩
          intro j hj y hy
          by_cases hjk : j < k
          · exact HN.out j hjk y hy
          · obtain rfl : j = k := by omega
            have := Hx.out
            rw [this] at hy; simp at hy; subst hy; exact hf
        case measure => simp [intOf]; omega
    · go_wp2_with fail
      go_ret
      exact ⟨ret_int (idx_none (fun j hj => HN.out j (by have := hlen.out; omega))).symm, HG1.out⟩

theorem idx_neg {l : List Comer} {f : Int} (h : idx l f < 0) : ∀ j, j < l.length → ∀ x, l[j]? = some x → x.family ≠ f := by
  intro j hj x hx e
  unfold idx at h
  cases hq : l.findIdx? (fun c => c.family == f) with
  | none =>
    rw [List.findIdx?_eq_none_iff] at hq
    have := hq x (List.mem_of_getElem? hx)
    simp [e] at this
  | some i => rw [hq] at h; simp at h; omega
theorem idx_cases' (l : List Comer) (f : Int) : (idx l f = -1) ∨ ∃ i : Nat, idx l f = i ∧ i < l.length ∧ (l.getD i ⟨0, 0, 0⟩).family = f := by
  unfold idx
  cases h : l.findIdx? (fun c => c.family == f) with
  | none => exact .inl rfl
  | some i =>
    rw [List.findIdx?_eq_some_iff_getElem] at h
    obtain ⟨hi, h1, -⟩ := h
    refine .inr ⟨i, rfl, hi, ?_⟩
    rw [List.getD_eq_getElem?_getD, List.getElem?_eq_getElem hi]
    simpa using h1
theorem idx_le {l : List Comer} {f : Int} {i : Nat} {x : Comer} (hx : l[i]? = some x) (hf : x.family = f) : idx l f ≤ i := by
  unfold idx
  cases h : l.findIdx? (fun c => c.family == f) with
  | none => simp
  | some j =>
    rw [List.findIdx?_eq_some_iff_getElem] at h
    obtain ⟨hj, h1, h2⟩ := h
    rcases Nat.lt_or_ge i j with hij | hij
    · have := h2 i hij
      obtain ⟨hi, e⟩ := List.getElem?_eq_some_iff.1 hx
      rw [e] at this; simp [hf] at this
    · simp; omega
/-- Whether one is the first of the family. -/
theorem idx_first {xs : List Comer} {k : Nat} {x : Comer} (hx : xs[k]? = some x) : idx xs x.family = k ↔ idx (xs.take k) x.family < 0 := by
  have hk : k < xs.length := (List.getElem?_eq_some_iff.1 hx).1
  constructor
  · intro h
    rcases idx_cases' (xs.take k) x.family with h1 | ⟨i, h1, hi, hf⟩
    · omega
    · exfalso
      have hil : i < k := by rw [List.length_take] at hi; omega
      have hxi : xs[i]? = some ((xs.take k).getD i ⟨0, 0, 0⟩) := by
        rw [List.getD_eq_getElem?_getD, List.getElem?_eq_getElem hi]
        simp
      have : idx xs x.family ≤ i := idx_le hxi hf
      omega
  · intro h
    have h2 := idx_neg h
    refine idx_some (fun j hj y hy => h2 j (by rw [List.length_take]; omega) y (by rw [List.getElem?_take, if_pos hj]; exact hy)) hx rfl

set_option maxHeartbeats 1000000 in
theorem refCheck_in (h : Int) (A : Option Addr) (n c : Nat) (xs : List Comer) (w : World) (ha : Arr ccells 3 w A n xs) (hh : rng h 0 24 = true) (hn : n ≤ 12) (_hnc : n ≤ c) :
    Calls Try.prog 54 #[.agg #[.int .i64 h, .slice A n c]] w fun e w' => e = .returned (.int .i64 (err (okComers h xs) 52)) ∧ Below w.heap.size w w' := by
  have h0 : 0 ≤ h := by simp [rng] at hh; omega
  have h24 : h ≤ 24 := by simp [rng] at hh; omega
  obtain ⟨hp, -, -⟩ := pow24 h0 h24
  have hlen := Lib.hid ha.1
  have hb0 : Below w.heap.size w (w.alloc (.cells #[.int .i64 h, .slice A n c] 24)) := (Below.refl _ _).alloc (Nat.le_refl _) _
  have c0 : (w.alloc (.cells #[.int .i64 h, .slice A n c] 24)).cell? ⟨w.heap.size, 0, none⟩ = some (.int .i64 h) := by simp [go_sem]
  have c1 : (w.alloc (.cells #[.int .i64 h, .slice A n c] 24)).cell? ⟨w.heap.size, 1, none⟩ = some (.slice A n c) := by simp [go_sem]
  go_enter Try.func54, Try.ntmps54
  go_wp2_with (first | (go_at_call 72; refine (in_any _ _ _ _).mono ?_; rintro e w' ⟨rfl, rfl⟩))
  generalize w.alloc (.cells #[.int .i64 h, .slice A n c] 24) = W0 at hb0 c0 c1 ⊢
  have e0 := cellW c0
  have e1 := cellW c1
  have ha0 := ha.below hb0
  clear ha
  go_loopw [3] (fun i wr => ∃ k : Nat, k ≤ n ∧ i = .int .i64 k ∧ (∃ x : Wd W0, wr = x.val) ∧ (∀ j, j < k → ∀ x, xs[j]? = some x → okComer h (xs.take j) x = true)) (fun i _ => n - (intOf i).toNat)
  case atStart => exact ⟨0, Nat.zero_le _, rfl, Wd.self _, fun j hj => absurd hj (by omega)⟩
  case round =>
    obtain ⟨k, hk, rfl, ⟨wx, rfl⟩, hall⟩ := hrel
    have Hall := Lib.hid hall
    clear hall c0 c1
    by_cases hlt : k < n
    · obtain ⟨b, o, x, rfl, hab, hx, hcell⟩ := comer_at ha0 hlt
      obtain ⟨q0, q1, q2⟩ := hcell _ wx.ok
      have Hx := Lib.hid hx
      have hb1 : Below W0.heap.size W0 (wx.val.alloc (.cells #[.int .i64 x.family, .int .i64 x.hours, .int .i64 x.wants] 53)) := wx.ok.alloc wx.size _
      have d0 : (wx.val.alloc (.cells #[.int .i64 x.family, .int .i64 x.hours, .int .i64 x.wants] 53)).cell? ⟨wx.val.heap.size, 0, none⟩ = some (.int .i64 x.family) := by simp [go_sem]
      have d1 : (wx.val.alloc (.cells #[.int .i64 x.family, .int .i64 x.hours, .int .i64 x.wants] 53)).cell? ⟨wx.val.heap.size, 1, none⟩ = some (.int .i64 x.hours) := by simp [go_sem]
      have d2 : (wx.val.alloc (.cells #[.int .i64 x.family, .int .i64 x.hours, .int .i64 x.wants] 53)).cell? ⟨wx.val.heap.size, 2, none⟩ = some (.int .i64 x.wants) := by simp [go_sem]
      have HF := Lib.hid (idx_first hx)
      clear hx hcell
      go_wp2_with fail
      have d3 := e0 ⟨_, hb1⟩
      have d4 := e1 ⟨_, hb1⟩
      dsimp only at d3 d4
      generalize (wx.val.alloc (.cells #[.int .i64 x.family, .int .i64 x.hours, .int .i64 x.wants] 53)) = W1 at hb1 d0 d1 d2 d3 d4 ⊢
      have f0 := cellW d0
      have f1 := cellW d1
      have f2 := cellW d2
      have f3 := cellW d3
      have f4 := cellW d4
      have ha1 := Lib.hid (ha0.below hb1)
      clear d0 d1 d2 d3 d4 e0 e1
      cases hA : isComer x with
      | true =>
        have ce : Value.int .i64 (err (isComer x) 51) = .int .i64 0 := by rw [hA]; rfl
        by_cases hB : x.hours < 2 ^ h.toNat
        · have hB' : decide (2 ^ h.toNat ≤ x.hours) = false := by simpa using hB
          obtain ⟨ix, hix⟩ : ∃ ix, idx xs x.family = ix := ⟨_, rfl⟩
          have HIX := Lib.hid hix
          clear hix
          by_cases hik : ix = k
          · subst hik
            refine wp_region_calm W1 (by kernel_rfl) (by kernel_rfl) (Below.refl _ _) ?_
            repeat (go_big_quiet_step (first | (go_at_call 52; exact callsCalm (callsRet (refComer_any x _) ce)) | (go_at_call 71; exact callsCalm (callsRet (refAt_any _ _ _ _ _ _ _ (ha1.out.below (Wd.ok _)) (by omega)) (by rw [HIX.out])))))
            refine wpQuiet_nil ?_
            rintro _ ⟨wy, rfl⟩
            go_wp2_with fail
            all_goals first
              | (exfalso; omega)
              | skip
            have hi : idx (List.take k xs) x.family < 0 := HF.out.1 HIX.out
            go_roundw
            case rel =>
              refine ⟨k + 1, by omega, by go_num, Wd.of (extTrans hb1 wy.ok), fun j hj y hy => ?_⟩
              by_cases hjk : j < k
              · exact Hall.out j hjk y hy
              · obtain rfl : j = k := by omega
                rw [Hx.out] at hy; simp at hy; subst hy
                simp [okComer, hA, hB, hi]
            case measure => simp [intOf]; omega
          · have hik' : (ix != (k : Int)) = true := by simpa using hik
            refine wp_region_calm W1 (by kernel_rfl) (by kernel_rfl) (Below.refl _ _) ?_
            repeat (go_big_quiet_step (first | (go_at_call 52; exact callsCalm (callsRet (refComer_any x _) ce)) | (go_at_call 71; exact callsCalm (callsRet (refAt_any _ _ _ _ _ _ _ (ha1.out.below (Wd.ok _)) (by omega)) (by rw [HIX.out])))))
            refine wpQuiet_nil ?_
            rintro _ ⟨wy, rfl⟩
            go_wp2_with fail
            all_goals first
              | (exfalso; omega)
              | skip
            have hi : ¬ idx (List.take k xs) x.family < 0 := fun q => hik (HIX.out.symm.trans (HF.out.2 q))
            go_ret
            exact ⟨ret_int (by rw [okComers_no Hx.out (by simp [okComer]; intros; omega)]; rfl), extTrans hb0 (extTrans hb1 wy.ok)⟩
        · have hno := Lib.hid (show okComer h (xs.take k) x = false by simp [okComer, hB])
          have hB' : decide (2 ^ h.toNat ≤ x.hours) = true := by simpa using hB
          refine wp_region_calm W1 (by kernel_rfl) (by kernel_rfl) (Below.refl _ _) ?_
          repeat (go_big_quiet_step ((go_at_call 52; exact callsCalm (callsRet (refComer_any x _) ce))))
          refine wpQuiet_nil ?_
          rintro _ ⟨wy, rfl⟩
          go_wp2_with fail
          go_ret
          exact ⟨ret_int (by rw [okComers_no Hx.out hno.out]; rfl), extTrans hb0 (extTrans hb1 wy.ok)⟩
      | false =>
        have ce : Value.int .i64 (err (isComer x) 51) = .int .i64 51 := by rw [hA]; rfl
        refine wp_region_calm W1 (by kernel_rfl) (by kernel_rfl) (Below.refl _ _) ?_
        repeat (go_big_quiet_step ((go_at_call 52; exact callsCalm (callsRet (refComer_any x _) ce))))
        refine wpQuiet_nil ?_
        rintro _ ⟨wy, rfl⟩
        go_wp2_with fail
        go_ret
        exact ⟨ret_int (by rw [okComers_no Hx.out (by simp [okComer, hA])]; rfl), extTrans hb0 (extTrans hb1 wy.ok)⟩
    · go_wp2_with fail
      go_ret
      have hok : okComers h xs = true := by
        unfold okComers
        rw [List.all_eq_true]
        intro j hj
        have hj' : j < xs.length := List.mem_range.1 hj
        have := Hall.out j (by have := hlen.out; omega) _ (List.getElem?_eq_getElem hj')
        rw [List.getD_eq_getElem?_getD, List.getElem?_eq_getElem hj']
        exact this
      exact ⟨ret_int (by rw [hok]; rfl), extTrans hb0 wx.ok⟩

theorem refCheck_any (h : Int) (A : Option Addr) (n c : Nat) (xs : List Comer) (w : World) (ha : Arr ccells 3 w A n xs) (hnc : n ≤ c) (hn : n ≤ 9223372036854775807) :
    Calls Try.prog 54 #[.agg #[.int .i64 h, .slice A n c]] w fun e w' => e = .returned (.int .i64 (err (okMill h xs) 52)) ∧ Below w.heap.size w w' := by
  have hlen := ha.1
  cases hr : rng h 0 24 with
  | true =>
    by_cases h12 : n ≤ 12
    · have : okMill h xs = okComers h xs := by simp [okMill, hr, hlen, h12]
      rw [this]
      exact refCheck_in h A n c xs w ha hr h12 hnc
    · have : err (okMill h xs) 52 = 52 := by simp [okMill, err, hlen, h12]
      have HO := Lib.hid this
      have hgt : decide ((12 : Int) < n) = true := by simp; omega
      clear this hlen ha
      have hb0 : Below w.heap.size w (w.alloc (.cells #[.int .i64 h, .slice A n c] 24)) := (Below.refl _ _).alloc (Nat.le_refl _) _
      go_enter Try.func54, Try.ntmps54
      go_wp2_with (first | (go_at_call 72; refine (in_any _ _ _ _).mono ?_; rw [hr]; rintro e w' ⟨rfl, rfl⟩))
      go_ret
      exact ⟨ret_int HO.out.symm, hb0⟩
  | false =>
    have : err (okMill h xs) 52 = 52 := by simp [okMill, err, hr]
    have HO := Lib.hid this
    clear this hlen ha
    have hb0 : Below w.heap.size w (w.alloc (.cells #[.int .i64 h, .slice A n c] 24)) := (Below.refl _ _).alloc (Nat.le_refl _) _
    go_enter Try.func54, Try.ntmps54
    go_wp2_with (first | (go_at_call 72; refine (in_any _ _ _ _).mono ?_; rw [hr]; rintro e w' ⟨rfl, rfl⟩))
    go_ret
    exact ⟨ret_int HO.out.symm, hb0⟩
end Go.Proofs.Ytdhhneflhmkonaa

/- The reference's SameMill, less, Without; the mill's Without. -/
namespace Go.Proofs.Ytdhhneflhmkonaa
open Go.RowKit Go.Shelf

theorem eq_of_getElem {l l' : List Comer} (hl : l.length = l'.length) (h : ∀ j, j < l.length → l[j]? = l'[j]?) : l = l' := by
  apply List.ext_getElem?
  intro j
  by_cases hj : j < l.length
  · exact h j hj
  · rw [List.getElem?_eq_none (by omega), List.getElem?_eq_none (by omega)]

set_option maxRecDepth 100000 in
theorem neqComer (x y : Comer) (w : World) : (binOp .neq 53 (.agg #[.int .i64 x.family, .int .i64 x.hours, .int .i64 x.wants]) (.agg #[.int .i64 y.family, .int .i64 y.hours, .int .i64 y.wants])).run Try.prog w = .ok (.bool (!decide (x = y))) w := by
  obtain ⟨a, b, c⟩ := x
  obtain ⟨a', b', c'⟩ := y
  by_cases h1 : a = a' <;> by_cases h2 : b = b' <;> by_cases h3 : c = c' <;> simp [go_sem, h1, h2, h3]

def sameM (h h' : Int) (l l' : List Comer) : Bool := decide (h = h') && decide (l = l')

set_option maxRecDepth 100000 in
set_option maxHeartbeats 1000000 in
theorem sameMill_any (A B : Option Addr) (n c m c' : Nat) (h h' : Int) (l l' : List Comer) (w : World) (ha : Arr ccells 3 w A n l) (hb : Arr ccells 3 w B m l') (hn : n ≤ 9223372036854775807) (hm : m ≤ 9223372036854775807) :
    Calls Try.prog 48 #[mv A n c h, mv B m c' h'] w fun e w' => e = .returned (.bool (sameM h h' l l')) ∧ Below w.heap.size w w' := by
  have HA := Lib.hid ha
  have HB := Lib.hid hb
  have hl := Lib.hid ha.1
  have hl' := Lib.hid hb.1
  clear ha hb
  unfold mv
  by_cases hh : h = h'
  · subst hh
    by_cases hmn : n = m
    · subst hmn
      go_enter Try.func48, Try.ntmps48
      go_wp2_with fail
      all_goals first
        | (exfalso; simp at *; done)
        | (exfalso; omega)
        | skip
      generalize hW1 : w.alloc (.cells #[.int .i64 h, .slice A n c] 24) = W1
      obtain ⟨g1, -, a1⟩ := box2 hW1
      generalize hW2 : W1.alloc (.cells #[.int .i64 h, .slice B n c'] 24) = W2
      obtain ⟨g2, -, b1⟩ := box2 hW2
      have s1 := boxSize hW1
      rw [← s1]
      have HG := Lib.hid (extTrans g1 g2)
      have HA2 := Lib.hid (HA.out.below HG.out)
      have HB2 := Lib.hid (HB.out.below HG.out)
      have a1 := keep g2 a1
      have F : ∀ x : Wd W2, x.val.cell? ⟨w.heap.size, 1, none⟩ = some (.slice A n c) ∧ x.val.cell? ⟨W1.heap.size, 1, none⟩ = some (.slice B n c') := fun x => ⟨cellW a1 x, cellW b1 x⟩
      have G : ∀ x : Wd W2, w.heap.size < x.val.heap.size ∧ W1.heap.size < x.val.heap.size := fun x => by have := x.size; have := boxSize hW2; omega
      clear hW1 hW2 g1 g2 s1 a1 b1
      go_loopw [5] (fun i wr => ∃ k : Nat, k ≤ n ∧ i = .int .i64 k ∧ (∀ j, j < k → l[j]? = l'[j]?) ∧ ∃ x : Wd W2, wr = x.val) (fun i _ => n - (intOf i).toNat)
      case atStart => exact ⟨0, Nat.zero_le _, rfl, by omega, Wd.self _⟩
      case round =>
        obtain ⟨k, hk, rfl, hno, wr, rfl⟩ := hrel
        have HN := Lib.hid hno
        clear hno
        by_cases hlt : k < n
        · obtain ⟨b, o, x, rfl, -, hx, hc⟩ := comer_at (HA2.out.below wr.ok) hlt
          obtain ⟨b', o', y, rfl, -, hy, hc'⟩ := comer_at (HB2.out.below wr.ok) hlt
          have P := fun z : Wd wr.val => hc z.val z.ok
          have P' := fun z : Wd wr.val => hc' z.val z.ok
          have F2 : ∀ z : Wd wr.val, z.val.cell? ⟨w.heap.size, 1, none⟩ = some (.slice (some ⟨b, o, none⟩) n c) ∧ z.val.cell? ⟨W1.heap.size, 1, none⟩ = some (.slice (some ⟨b', o', none⟩) n c') := lift (p := fun V => V.cell? _ = _ ∧ V.cell? _ = _) wr.ok F
          have G2 : ∀ z : Wd wr.val, w.heap.size < z.val.heap.size ∧ W1.heap.size < z.val.heap.size := lift (p := fun V => _ < V.heap.size ∧ _ < V.heap.size) wr.ok G
          have HX := Lib.hid hx
          have HY := Lib.hid hy
          clear hx hy hc hc'
          have f0 := (F wr)
          go_wp2_with fail
          clear f0 F G
          have hneq := fun w => neqComer x y w
          obtain ⟨q, hq⟩ : ∃ q, decide (x = y) = q := ⟨_, rfl⟩
          rw [hq] at hneq
          have HQ := Lib.hid hq
          clear hq
          cases q with
          | true =>
            refine wp_region_calm wr.val (by kernel_rfl) (by kernel_rfl) (Below.refl _ _) ?_
            repeat (go_big_quiet_step (fail))
            refine wpQuiet_nil ?_
            rintro _ ⟨z, rfl⟩
            go_wp2_with fail
            go_roundw
            case rel =>
              refine ⟨k + 1, by omega, by go_num, fun j hj => ?_, ⟨z.val, extTrans wr.ok z.ok⟩, rfl⟩
              by_cases hjk : j < k
              · exact HN.out j hjk
              · obtain rfl : j = k := by omega
                rw [HX.out, HY.out, of_decide_eq_true HQ.out]
            case measure => simp [intOf]; omega
          | false =>
            refine wp_region_calm wr.val (by kernel_rfl) (by kernel_rfl) (Below.refl _ _) ?_
            repeat (go_big_quiet_step (fail))
            refine wpQuiet_nil ?_
            rintro _ ⟨z, rfl⟩
            go_wp2_with fail
            go_ret
            have : sameM h h l l' = false := by
              simp [sameM]
              rintro rfl
              have := HX.out.symm.trans HY.out
              exact of_decide_eq_false HQ.out (Option.some.inj this)
            rw [this]
            exact ⟨rfl, HG.out.trans ((extTrans wr.ok z.ok).mono HG.out.size)⟩
        · obtain rfl : k = n := by omega
          have f0 := F wr
          go_wp2_with fail
          go_ret
          have : sameM h h l l' = true := by
            simp [sameM]; exact eq_of_getElem (by rw [hl.out, hl'.out]) (fun j hj => HN.out j (by rw [← hl.out]; exact hj))
          rw [this]
          exact ⟨rfl, HG.out.trans (wr.ok.mono HG.out.size)⟩
    · have hne : ((n : Int) != (m : Int)) = true := by simp; omega
      go_enter Try.func48, Try.ntmps48
      go_wp2_with fail
      all_goals first
        | (exfalso; simp at *; done)
        | (exfalso; omega)
        | skip
      go_ret
      have : sameM h h l l' = false := by
        simp [sameM]; rintro rfl; exact hmn (by rw [← hl.out, ← hl'.out])
      rw [this]
      exact ⟨rfl, two_more _ _ _⟩
  · have hne : (h != h') = true := by simpa using hh
    go_enter Try.func48, Try.ntmps48
    go_wp2_with fail
    all_goals first
      | (exfalso; omega)
      | skip
    go_ret
    have : sameM h h' l l' = false := by simp [sameM, hh]
    rw [this]
    exact ⟨rfl, two_more _ _ _⟩
end Go.Proofs.Ytdhhneflhmkonaa

/- The reference's less, Without; the mill's Without. -/
namespace Go.Proofs.Ytdhhneflhmkonaa
open Go.RowKit Go.Shelf

/-- Without the comers of a family. -/
def lessL (xs : List Comer) (f : Int) : List Comer := xs.filter fun c => c.family != f
theorem lessL_len (xs : List Comer) (f : Int) : (lessL xs f).length ≤ xs.length := List.length_filter_le _ _
theorem lessL_snoc (xs : List Comer) (f : Int) {k : Nat} {x : Comer} (hx : xs[k]? = some x) : lessL (xs.take (k + 1)) f = lessL (xs.take k) f ++ if x.family = f then [] else [x] := by
  rw [List.take_add_one, hx]
  unfold lessL
  rw [List.filter_append]
  by_cases h : x.family = f <;> simp [h]

theorem OwnL.far {α : Type} {f : α → List Value} {size : Nat} {e : TypeId} {w : World} {base : Nat} {v : Value} {xs : List α} (h : OwnL f size e w base v xs) {p : Addr} (hp : p.block < base) (u : Value) : OwnL f size e (w.setCell p u) base v xs :=
  World.ownsRow.kept h (row := some p.block) ⟨rfl, rfl, rfl, by simp [World.setCell], fun k _ hk => Below.heap_setCell _ _ _ _ (fun e => hk (by rw [e]))⟩ (by
    cases hq : v.ownBlock with
    | none => exact .inl rfl
    | some k => exact .inr (fun e => by have := World.ownsRow.lt h k hq; cases e; omega))

def LessPost (h f : Int) (xs : List Comer) (w : World) (e : Ending) (w' : World) : Prop :=
  Below w.heap.size w w' ∧ ∃ A c, e = .returned (mv A (lessL xs f).length c h) ∧ (lessL xs f).length ≤ c ∧ c ≤ maxLen ∧ Arr ccells 3 w' A (lessL xs f).length (lessL xs f) ∧ ∀ b o, A = some ⟨b, o, none⟩ → w.heap.size ≤ b

set_option maxRecDepth 100000 in
set_option maxHeartbeats 2000000 in
theorem less_any (A : Option Addr) (n cc : Nat) (h f : Int) (xs : List Comer) (w : World) (ha : Arr ccells 3 w A n xs) (hn : n ≤ 1000) :
    Calls Try.prog 79 #[mv A n cc h, .int .i64 f] w (LessPost h f xs w) := by
  have HA := Lib.hid ha
  have hlen := Lib.hid ha.1
  clear ha
  unfold mv
  go_enter Try.func79, Try.ntmps79
  go_wp2_with fail
  generalize hW1 : w.alloc (.cells #[.int .i64 h, .slice A n cc] 24) = W1
  have b1 : Blk W1 w.heap.size 24 #[.int .i64 h, .slice A n cc] := by rw [← hW1]; exact Blk.new _ _ _
  have g1 : Below w.heap.size w W1 := by rw [← hW1]; exact one_more _ _
  have s1 := boxSize hW1
  generalize hW2 : W1.alloc (.cells #[.int .i64 0, .slice none 0 0] 24) = W2
  have b2 : Blk W2 W1.heap.size 24 #[.int .i64 0, .slice none 0 0] := by rw [← hW2]; exact Blk.new _ _ _
  have g2 : Below W1.heap.size W1 W2 := by rw [← hW2]; exact one_more _ _
  have s2 := boxSize hW2
  generalize hW3 : W2.alloc (.cells #[.int .i64 h, .slice none 0 0] 24) = W3
  have b3 : Blk W3 W2.heap.size 24 #[.int .i64 h, .slice none 0 0] := by rw [← hW3]; exact Blk.new _ _ _
  have g3 : Below W2.heap.size W2 W3 := by rw [← hW3]; exact one_more _ _
  have s3 := boxSize hW3
  have HM := Lib.hid ((b1.ext g2).ext g3)
  have HR := Lib.hid (b2.ext g3)
  have HO := Lib.hid b3
  have HG := Lib.hid (extTrans g1 (extTrans g2 g3))
  have hge : w.heap.size < W1.heap.size ∧ W1.heap.size < W2.heap.size ∧ W2.heap.size < W3.heap.size := by omega
  have HA3 := Lib.hid (HA.out.below HG.out)
  obtain ⟨bm, hbm⟩ : ∃ bm, w.heap.size = bm := ⟨_, rfl⟩
  obtain ⟨br, hbr⟩ : ∃ br, W1.heap.size = br := ⟨_, rfl⟩
  obtain ⟨bo, hbo⟩ : ∃ bo, W2.heap.size = bo := ⟨_, rfl⟩
  obtain ⟨bs, hbs⟩ : ∃ bs, W3.heap.size = bs := ⟨_, rfl⟩
  rw [hbm] at HM
  rw [hbr] at HR
  rw [hbo] at HO
  rw [hbm, hbr, hbo, hbs] at hge
  rw [← s1, ← s2, hbm, hbr, hbo]
  have HBM := Lib.hid hbm
  have HBS := Lib.hid hbs
  clear hW1 hW2 hW3 b1 b2 b3 g1 g2 g3 s1 s2 s3 hbm hbr hbo hbs
  obtain ⟨l1, l2, l3⟩ := hge
  go_loopw [6] (fun i wr => ∃ (k : Nat) (v : Value), i = .int .i64 k ∧ k ≤ n ∧ Below bm w wr ∧ bs ≤ wr.heap.size ∧ Blk wr bm 24 #[.int .i64 h, .slice A n cc] ∧ Blk wr br 24 #[.int .i64 0, .slice none 0 0] ∧ Blk wr bo 24 #[.int .i64 h, v] ∧
    OwnL ccells 3 53 wr bs v (lessL (xs.take k) f)) (fun i _ => n - (intOf i).toNat)
  case atStart => exact ⟨0, .slice none 0 0, rfl, Nat.zero_le _, by rw [← HBM.out]; exact HG.out, by rw [← HBS.out]; exact Nat.le_refl _, HM.out, HR.out, HO.out, OwnL.nil _ _⟩
  case round =>
    obtain ⟨k, v, rfl, hk, hg, hsz, hm, hr, ho, hown⟩ := hrel
    have HGr := Lib.hid hg
    have HM := Lib.hid hm
    have HR := Lib.hid hr
    have HO := Lib.hid ho
    have HW := Lib.hid hown
    have e1 : wr.cell? ⟨bm, 1, none⟩ = some (.slice A n cc) := hm.cell 1
    by_cases hlt : k < n
    · obtain ⟨b, o, x, rfl, hbl, hx, hc⟩ := comer_at (HA.out.below (by rw [HBM.out]; exact hg)) hlt
      have q0 := (hc wr (Below.refl _ _))
      have HX := Lib.hid hx
      have HNX := Lib.hid (lessL_snoc xs f hx)
      have HL := Lib.hid (lessL_len (xs.take k) f)
      clear hg hm hr ho hown hx
      by_cases hf : x.family = f
      · have hf' : (x.family != f) = false := by simpa using hf
        have HN0 := Lib.hid (show lessL (xs.take (k + 1)) f = lessL (xs.take k) f by rw [HNX.out, if_pos hf, List.append_nil])
        clear hc
        go_wp2_with fail
        all_goals first
          | (exfalso; omega)
          | skip
        go_roundw
        case rel => exact ⟨k + 1, v, by go_num, by omega, HGr.out, hsz, HM.out, HR.out, HO.out, by rw [HN0.out]; exact HW.out⟩
        case measure => simp [intOf]; omega
      · have hf' : (x.family != f) = true := by simpa using hf
        have HN0 := Lib.hid (show lessL (xs.take (k + 1)) f = lessL (xs.take k) f ++ [x] by rw [HNX.out, if_neg hf])
        go_wp2_with fail
        all_goals first
          | (exfalso; omega)
          | skip
        have gd : Below wr.heap.size wr wr.drew := (Below.refl _ _).drew
        obtain ⟨W5, hW5⟩ : ∃ W5, wr.drew.alloc (.cells #[.int .i64 x.family, .int .i64 x.hours, .int .i64 x.wants] 53) = W5 := ⟨_, rfl⟩
        have g5 : Below wr.heap.size wr W5 := by rw [← hW5]; exact gd.alloc (Nat.le_refl _) _
        have hb5 : Blk W5 wr.heap.size 53 #[.int .i64 x.family, .int .i64 x.hours, .int .i64 x.wants] := by rw [← hW5]; exact Blk.new _ _ _
        have HA5 := Lib.hid (Blk.arr1 (f := ccells) (size := 3) (x := x) hb5)
        have HOW5 := Lib.hid (HW.out.ext g5)
        have HM5 := Lib.hid (HM.out.ext g5)
        have HR5 := Lib.hid (HR.out.ext g5)
        have HO5 := Lib.hid (HO.out.ext g5)
        have hs5 : bs ≤ W5.heap.size := by have := g5.size; omega
        have HG5 := Lib.hid (HGr.out.trans (g5.mono (by omega)))
        have p0 := HO.out.cell 1
        have p1 := HO5.out.cell 1
        have p2 := HM5.out.cell 1
        have q5 := hc W5 g5
        have hlen5 : (lessL (xs.take k) f).length + 1 ≤ 1000000 := by have := HL.out; rw [List.length_take] at this; omega
        clear g5 gd hb5 hc
        go_region_law ((refine step_app kdCom (by rfl) _ _ (by rfl) bs v (lessL (xs.take k) f) (by rfl) HOW5.out _ _ _ [x] (by rfl) HA5.out hlen5 hs5 ?_; intro v' w' hov hgr hat; obtain ⟨A6, c6, e6, -, -, -, -⟩ := hov.arr kdCom; obtain ⟨m6, hm6⟩ : ∃ m6, (lessL (List.take k xs) f ++ [x]).length = m6 := ⟨_, rfl⟩; rw [hm6] at e6; clear hm6; subst e6; have hbw := Lib.hid (HOW5.out.below hgr (Nat.le_refl bs) hs5); have ho6 := (show Blk w' bo 24 _ from (hbw.out.block bo l3).trans HO5.out); have e6 := ho6.cell 1; have f6 := ho6.frozen 1; have HO6 := Lib.hid ho6; have HOV := Lib.hid hov; clear ho6 hgr hat hov))
        all_goals
          go_wp2_with fail
          go_roundw
          case rel =>
            refine ⟨k + 1, .slice A6 m6 c6, by go_num, by omega, (HG5.out.trans (hbw.out.mono (by omega))).setCell (p := ⟨bo, 1, none⟩) (by dsimp only; omega) _, ?_, ?_, ?_, ?_, ?_⟩
            · have := hbw.out.size; simp [World.setCell]; omega
            · exact (show Blk w' bm 24 _ from (hbw.out.block bm (by omega)).trans HM5.out).far (p := ⟨bo, 1, none⟩) (by dsimp only; omega) _
            · exact (show Blk w' br 24 _ from (hbw.out.block br (by omega)).trans HR5.out).far (p := ⟨bo, 1, none⟩) (by dsimp only; omega) _
            · exact HO6.out.set_ 1 _
            · rw [HN0.out]; exact HOV.out.far (p := ⟨bo, 1, none⟩) l3 _
          case measure => simp [intOf]; omega
    · obtain rfl : k = n := by omega
      have hx : xs.take k = xs := List.take_of_length_le (by rw [hlen.out]; exact Nat.le_refl _)
      rw [hx] at HW
      obtain ⟨A', c', rfl, k1, k2, k3, -⟩ := HW.out.arr kdCom
      obtain ⟨A2, c2, e2, -, -, h2, h3⟩ := (((HW.out.far (p := ⟨br, 0, none⟩) (by dsimp only; omega) (.int .i64 h)).far (p := ⟨br, 1, none⟩) (by dsimp only; omega) (.slice A' (lessL xs f).length c'))).arr kdCom
      obtain ⟨rfl, -, rfl⟩ := Value.slice.inj e2
      have H2 := Lib.hid h2
      have H3 := Lib.hid (show ∀ b o, A' = some ⟨b, o, none⟩ → w.heap.size ≤ b from fun b o e => by have := (h3 b o e).2.1; have := HBM.out; omega)
      have GG := Lib.hid ((hg.setCell (p := ⟨br, 0, none⟩) (by dsimp only; omega) (.int .i64 h)).setCell (p := ⟨br, 1, none⟩) (by dsimp only; omega) (.slice A' (lessL xs f).length c'))
      have B9 := (hr.set_ 0 (.int .i64 h)).set_ 1 (.slice A' (lessL xs f).length c')
      have b0 := B9.cell 0
      have b1 := B9.cell 1
      have o0 := ho.cell 0
      have o1 := ho.cell 1
      have r0 := hr.cell 0
      have r1 := hr.cell 1
      have rf0 := hr.frozen 0
      have rf1 := hr.frozen 1
      rw [← HBM.out] at GG
      obtain ⟨W9, hW9⟩ : ∃ W9, (wr.setCell ⟨br, 0, none⟩ (.int .i64 h)).setCell ⟨br, 1, none⟩ (.slice A' (lessL xs f).length c') = W9 := ⟨_, rfl⟩
      rw [hW9] at H2 GG b0 b1
      clear hg hm hr ho hown hx B9 h2 h3 k3 e2
      go_wp2_with fail
      clear hW9
      refine bodyPost_ret (v := mv A' (lessL xs f).length c' h) ?_ rfl ⟨GG.out, A', c', rfl, k1, k2, H2.out, H3.out⟩
      unfold mv
      simp [results, Try.results79, go_sem, b0, b1]

/-- Erasing the only one of a family. -/
theorem erase_less {h : Int} {xs : List Comer} (k : Ok h xs) {f : Int} {i : Nat} (hi : idx xs f = i) (hin : i < xs.length) : xs.eraseIdx i = lessL xs f := by
  have hf : xs[i].family = f := by
    rcases idx_cases' xs f with h1 | ⟨j, h1, hj, h2⟩
    · omega
    · have : j = i := by omega
      subst this
      rw [List.getD_eq_getElem?_getD, List.getElem?_eq_getElem hj] at h2
      exact h2
  have hne : ∀ j, (hj : j < xs.length) → j ≠ i → xs[j].family ≠ f := by
    intro j hj hji e
    have hj0 : i < j := by
      rcases Nat.lt_or_ge i j with h1 | h1
      · exact h1
      · have := idx_le (List.getElem?_eq_getElem hj) e
        omega
    obtain ⟨-, -, h3⟩ := k.com j _ (List.getElem?_eq_getElem hj)
    exact idx_neg h3 i (by rw [List.length_take]; omega) xs[i] (by rw [List.getElem?_take, if_pos hj0, List.getElem?_eq_getElem hin]) (hf.trans e.symm)
  have e1 : xs = xs.take i ++ xs[i] :: xs.drop (i + 1) := by rw [List.getElem_cons_drop, List.take_append_drop]
  have a1 : (xs.take i).filter (fun c => c.family != f) = xs.take i := by
    rw [List.filter_eq_self]
    intro c hc
    obtain ⟨j, hj, rfl⟩ := List.getElem_of_mem hc
    rw [List.length_take] at hj
    rw [List.getElem_take]
    simpa using hne j (by omega) (by omega)
  have a2 : (xs.drop (i + 1)).filter (fun c => c.family != f) = xs.drop (i + 1) := by
    rw [List.filter_eq_self]
    intro c hc
    obtain ⟨j, hj, rfl⟩ := List.getElem_of_mem hc
    rw [List.length_drop] at hj
    rw [List.getElem_drop]
    simpa using hne (i + 1 + j) (by omega) (by omega)
  unfold lessL
  rw [List.eraseIdx_eq_take_drop_succ]
  conv => rhs; rw [e1]
  rw [List.filter_append, List.filter_cons, a1, a2, hf]
  simp

def withoutE (xs : List Comer) (h f : Int) : Int := if okMill h xs = true then (if idx xs f < 0 then 57 else 0) else 52
def withoutH (xs : List Comer) (h f : Int) : Int := if withoutE xs h f = 0 then h else 0
def withoutL (xs : List Comer) (h f : Int) : List Comer := if withoutE xs h f = 0 then lessL xs f else []

/-- A mill, and an error. -/
def MillPost (h : Int) (xs : List Comer) (er : Int) (w : World) (e : Ending) (w' : World) : Prop :=
  Below w.heap.size w w' ∧ ∃ A c, e = .returned (.tuple #[mv A xs.length c h, .int .i64 er]) ∧ xs.length ≤ c ∧ c ≤ maxLen ∧ Arr ccells 3 w' A xs.length xs

end Go.Proofs.Ytdhhneflhmkonaa

/- Without: the reference's and the mill's. -/
namespace Go.Proofs.Ytdhhneflhmkonaa
open Go.RowKit Go.Shelf

/-- What stands while such a function walks: its mill, and its result. -/
structure MR (W : World) (bm br : Nat) (h : Int) (A : Option Addr) (n cc : Nat) : Prop where
  m : Blk W bm 24 #[.int .i64 h, .slice A n cc]
  r : Blk W br 24 #[.int .i64 0, .slice none 0 0]
theorem MR.ext {W W' : World} {bm br : Nat} {h : Int} {A : Option Addr} {n cc : Nat} (k : MR W bm br h A n cc) (g : Below W.heap.size W W') : MR W' bm br h A n cc := ⟨k.m.ext g, k.r.ext g⟩

/-- The result's cell, written whole. -/
theorem put2 {W w : World} {br : Nat} {B : Nat} (hr : Blk W br 24 #[.int .i64 0, .slice none 0 0]) (g : Below B w W) (hb : B ≤ br) (h : Int) (A : Option Addr) (n c : Nat) :
    ∃ W9, (W.setCell ⟨br, 0, none⟩ (.int .i64 h)).setCell ⟨br, 1, none⟩ (.slice A n c) = W9 ∧ Blk W9 br 24 #[.int .i64 h, .slice A n c] ∧ Below B w W9 ∧ Fix br br W W9 :=
  ⟨_, rfl, (hr.set_ 0 (.int .i64 h)).set_ 1 (.slice A n c), (g.setCell (p := ⟨br, 0, none⟩) hb _).setCell (p := ⟨br, 1, none⟩) hb _, ((Fix.refl br br W).setCell (p := ⟨br, 0, none⟩) (.inl rfl) _).setCell (p := ⟨br, 1, none⟩) (.inl rfl) _⟩

set_option maxRecDepth 100000 in
set_option maxHeartbeats 2000000 in
theorem refWithout_any (A : Option Addr) (n cc : Nat) (h f : Int) (xs : List Comer) (w : World) (ha : Arr ccells 3 w A n xs) (hnc : n ≤ cc) (hn : n ≤ 9223372036854775807) :
    Calls Try.prog 47 #[mv A n cc h, .int .i64 f] w (MillPost (withoutH xs h f) (withoutL xs h f) (withoutE xs h f) w) := by
  have HA := Lib.hid ha
  have hlen := Lib.hid ha.1
  obtain ⟨ok, hok⟩ : ∃ ok, okMill h xs = ok := ⟨_, rfl⟩
  obtain ⟨er, her⟩ : ∃ er, withoutE xs h f = er := ⟨_, rfl⟩
  have HE := Lib.hid (show er = if ok = true then (if idx xs f < 0 then 57 else 0) else 52 by rw [← her, ← hok]; rfl)
  have HH := Lib.hid (show withoutH xs h f = if er = 0 then h else 0 by rw [← her]; rfl)
  have HL := Lib.hid (show withoutL xs h f = if er = 0 then lessL xs f else [] by rw [← her]; rfl)
  rw [her]
  generalize withoutH xs h f = rh at HH ⊢
  generalize withoutL xs h f = rl at HL ⊢
  have HOK := Lib.hid hok
  clear ha hok her
  unfold mv
  go_enter Try.func47, Try.ntmps47
  go_wp2_with fail
  generalize hW1 : w.alloc (.cells #[.int .i64 h, .slice A n cc] 24) = W1
  have b1 : Blk W1 w.heap.size 24 #[.int .i64 h, .slice A n cc] := by rw [← hW1]; exact Blk.new _ _ _
  have g1 : Below w.heap.size w W1 := by rw [← hW1]; exact one_more _ _
  have s1 := boxSize hW1
  generalize hW2 : W1.alloc (.cells #[.int .i64 0, .slice none 0 0] 24) = W2
  have b2 : Blk W2 W1.heap.size 24 #[.int .i64 0, .slice none 0 0] := by rw [← hW2]; exact Blk.new _ _ _
  have g2 : Below W1.heap.size W1 W2 := by rw [← hW2]; exact one_more _ _
  have HM2 := Lib.hid (⟨b1.ext g2, b2⟩ : MR W2 w.heap.size W1.heap.size h A n cc)
  have HG2 := Lib.hid (extTrans g1 g2)
  have hwr : w.heap.size ≤ W1.heap.size := by omega
  rw [← s1]
  obtain ⟨br, hbr⟩ : ∃ br, W1.heap.size = br := ⟨_, rfl⟩
  rw [hbr] at HM2 hwr ⊢
  clear hW1 hW2 b1 b2 g1 g2 s1 hbr
  refine (refCheck_any h A n cc xs W2 (HA.out.below HG2.out) hnc hn).mono ?_
  rw [HOK.out]
  rintro e W3 ⟨rfl, g3⟩
  have HM3 := Lib.hid (HM2.out.ext g3)
  have HG3 := Lib.hid (HG2.out.trans (g3.mono HG2.out.size))
  clear g3
  have m0 := HM3.out.m.cell 0
  have m1 := HM3.out.m.cell 1
  have r0 := HM3.out.r.cell 0
  have r1 := HM3.out.r.cell 1
  have rf0 := HM3.out.r.frozen 0
  have rf1 := HM3.out.r.frozen 1
  cases ok with
  | false =>
    rw [show err false 52 = 52 from rfl]
    obtain ⟨W9, hW9, hb9, hg9, -⟩ := put2 HM3.out.r HG3.out hwr 0 none 0 0
    have b0 := hb9.cell 0
    have b1 := hb9.cell 1
    have GG := Lib.hid hg9
    clear hb9 hg9
    go_wp2_with fail
    have e : er = 52 := HE.out
    subst e
    have e1 : rh = 0 := HH.out
    have e2 : rl = [] := HL.out
    subst e1 e2
    refine bodyPost_ret (v := .tuple #[mv none 0 0 0, .int .i64 52]) ?_ rfl ⟨GG.out, none, 0, rfl, Nat.le_refl _, Nat.zero_le _, Arr.nil_⟩
    unfold mv
    simp [results, Try.results47, go_sem, b0, b1]
  | true =>
    rw [show err true 52 = 0 from rfl]
    have hO := (okMill_iff h xs).1 HOK.out
    have hn12 : n ≤ 12 := by have := hO.n12; have := hlen.out; omega
    clear hO
    have HE2 := Lib.hid (show er = if idx xs f < 0 then 57 else 0 from HE.out)
    have HX := Lib.hid (refAt_any A n cc h xs f W3 (HA.out.below HG3.out) hn)
    obtain ⟨ix, hix⟩ : ∃ ix, idx xs f = ix := ⟨_, rfl⟩
    rw [hix] at HX HE2
    clear hix
    by_cases hneg : ix < 0
    · have hd : decide (ix < 0) = true := by simpa using hneg
      go_wp2_with fail
      refine HX.out.mono ?_
      rintro e W4 ⟨rfl, g4⟩
      have HM4 := Lib.hid (HM3.out.ext g4)
      have HG4 := Lib.hid (HG3.out.trans (g4.mono HG3.out.size))
      clear g4 m0 m1 r0 r1 rf0 rf1
      have r0 := HM4.out.r.cell 0
      have r1 := HM4.out.r.cell 1
      have rf0 := HM4.out.r.frozen 0
      have rf1 := HM4.out.r.frozen 1
      obtain ⟨W9, hW9, hb9, hg9, -⟩ := put2 HM4.out.r HG4.out hwr 0 none 0 0
      have b0 := hb9.cell 0
      have b1 := hb9.cell 1
      have GG := Lib.hid hg9
      clear hb9 hg9
      go_wp2_with fail
      have e : er = 57 := by rw [HE2.out, if_pos hneg]
      subst e
      have e1 : rh = 0 := HH.out
      have e2 : rl = [] := HL.out
      subst e1 e2
      refine bodyPost_ret (v := .tuple #[mv none 0 0 0, .int .i64 57]) ?_ rfl ⟨GG.out, none, 0, rfl, Nat.le_refl _, Nat.zero_le _, Arr.nil_⟩
      unfold mv
      simp [results, Try.results47, go_sem, b0, b1]
    · have hd : decide (ix < 0) = false := by simpa using hneg
      go_wp2_with fail
      refine HX.out.mono ?_
      rintro e W4 ⟨rfl, g4⟩
      have HM4 := Lib.hid (HM3.out.ext g4)
      have HG4 := Lib.hid (HG3.out.trans (g4.mono HG3.out.size))
      clear g4 m0 m1 r0 r1 rf0 rf1
      have m0 := HM4.out.m.cell 0
      have m1 := HM4.out.m.cell 1
      go_wp2_with fail
      refine (less_any A n cc h f xs W4 (HA.out.below HG4.out) (by omega)).mono ?_
      rintro e W5 ⟨g5, A', c', rfl, k1, k2, k3, k5⟩
      have hbr4 := HM4.out.r.lt
      have HM5 := Lib.hid (HM4.out.ext g5)
      have HG5 := Lib.hid (HG4.out.trans (g5.mono HG4.out.size))
      clear g5 m0 m1
      have r0 := HM5.out.r.cell 0
      have r1 := HM5.out.r.cell 1
      have rf0 := HM5.out.r.frozen 0
      have rf1 := HM5.out.r.frozen 1
      have e : er = 0 := by rw [HE2.out, if_neg (by omega)]
      subst e
      have e1 : rh = h := HH.out
      have e2 : rl = lessL xs f := HL.out
      subst e1 e2
      obtain ⟨W9, hW9, hb9, hg9, hf9⟩ := put2 HM5.out.r HG5.out hwr rh A' (lessL xs f).length c'
      have b0 := hb9.cell 0
      have b1 := hb9.cell 1
      have GG := Lib.hid hg9
      have k4 := k3.fix hf9 (fun b o e hn => by have := k5 b o e; omega)
      have K4 := Lib.hid k4
      clear hb9 hg9 hf9 k3 k4 k5
      unfold mv
      go_wp2_with fail
      refine bodyPost_ret (v := .tuple #[mv A' (lessL xs f).length c' rh, .int .i64 0]) ?_ rfl ⟨GG.out, A', c', rfl, k1, k2, K4.out⟩
      unfold mv
      simp [results, Try.results47, go_sem, b0, b1]

set_option maxRecDepth 100000 in
set_option maxHeartbeats 2000000 in
theorem Without_any (A : Option Addr) (n cc : Nat) (h f : Int) (xs : List Comer) (w : World) (ha : Arr ccells 3 w A n xs) (hnc : n ≤ cc) (hn : n ≤ 9223372036854775807) :
    Calls Try.prog 34 #[mv A n cc h, .int .i64 f] w (MillPost (withoutH xs h f) (withoutL xs h f) (withoutE xs h f) w) := by
  have HA := Lib.hid ha
  have hlen := Lib.hid ha.1
  obtain ⟨ok, hok⟩ : ∃ ok, okMill h xs = ok := ⟨_, rfl⟩
  obtain ⟨er, her⟩ : ∃ er, withoutE xs h f = er := ⟨_, rfl⟩
  have HE := Lib.hid (show er = if ok = true then (if idx xs f < 0 then 57 else 0) else 52 by rw [← her, ← hok]; rfl)
  have HH := Lib.hid (show withoutH xs h f = if er = 0 then h else 0 by rw [← her]; rfl)
  have HL := Lib.hid (show withoutL xs h f = if er = 0 then lessL xs f else [] by rw [← her]; rfl)
  rw [her]
  generalize withoutH xs h f = rh at HH ⊢
  generalize withoutL xs h f = rl at HL ⊢
  have HOK := Lib.hid hok
  clear ha hok her
  unfold mv
  go_enter Try.func34, Try.ntmps34
  go_wp2_with fail
  generalize hW1 : w.alloc (.cells #[.int .i64 h, .slice A n cc] 24) = W1
  have b1 : Blk W1 w.heap.size 24 #[.int .i64 h, .slice A n cc] := by rw [← hW1]; exact Blk.new _ _ _
  have g1 : Below w.heap.size w W1 := by rw [← hW1]; exact one_more _ _
  have s1 := boxSize hW1
  generalize hW2 : W1.alloc (.cells #[.int .i64 0, .slice none 0 0] 24) = W2
  have b2 : Blk W2 W1.heap.size 24 #[.int .i64 0, .slice none 0 0] := by rw [← hW2]; exact Blk.new _ _ _
  have g2 : Below W1.heap.size W1 W2 := by rw [← hW2]; exact one_more _ _
  have HM2 := Lib.hid (⟨b1.ext g2, b2⟩ : MR W2 w.heap.size W1.heap.size h A n cc)
  have HG2 := Lib.hid (extTrans g1 g2)
  have hwr : w.heap.size ≤ W1.heap.size := by omega
  rw [← s1]
  obtain ⟨br, hbr⟩ : ∃ br, W1.heap.size = br := ⟨_, rfl⟩
  rw [hbr] at HM2 hwr ⊢
  clear hW1 hW2 b1 b2 g1 g2 s1 hbr
  refine (check_any h A n cc xs W2 (HA.out.below HG2.out) hnc hn).mono ?_
  rw [HOK.out]
  rintro e W3 ⟨rfl, g3⟩
  have HM3 := Lib.hid (HM2.out.ext g3)
  have HG3 := Lib.hid (HG2.out.trans (g3.mono HG2.out.size))
  clear g3
  have m0 := HM3.out.m.cell 0
  have m1 := HM3.out.m.cell 1
  have r0 := HM3.out.r.cell 0
  have r1 := HM3.out.r.cell 1
  have rf0 := HM3.out.r.frozen 0
  have rf1 := HM3.out.r.frozen 1
  cases ok with
  | false =>
    rw [show err false 52 = 52 from rfl]
    obtain ⟨W9, hW9, hb9, hg9, -⟩ := put2 HM3.out.r HG3.out hwr 0 none 0 0
    have b0 := hb9.cell 0
    have b1 := hb9.cell 1
    have GG := Lib.hid hg9
    clear hb9 hg9
    go_wp2_with fail
    have e : er = 52 := HE.out
    subst e
    have e1 : rh = 0 := HH.out
    have e2 : rl = [] := HL.out
    subst e1 e2
    refine bodyPost_ret (v := .tuple #[mv none 0 0 0, .int .i64 52]) ?_ rfl ⟨GG.out, none, 0, rfl, Nat.le_refl _, Nat.zero_le _, Arr.nil_⟩
    unfold mv
    simp [results, Try.results34, go_sem, b0, b1]
  | true =>
    rw [show err true 52 = 0 from rfl]
    have hO := (okMill_iff h xs).1 HOK.out
    have HOO := Lib.hid hO
    have hn12 : n ≤ 12 := by have := hO.n12; have := hlen.out; omega
    clear hO
    have HE2 := Lib.hid (show er = if idx xs f < 0 then 57 else 0 from HE.out)
    go_wp2_with fail
    refine (without_any A n cc h f xs W3 (HA.out.below HG3.out) (by omega)).mono ?_
    rintro e W4 ⟨g4, ⟨hi, rfl⟩ | ⟨i, A', c', hi, hin, rfl, hnc', ha', hfr, hcm⟩⟩
    · have e : er = 57 := by rw [HE2.out, hi]; rfl
      subst e
      have e1 : rh = 0 := HH.out
      have e2 : rl = [] := HL.out
      subst e1 e2
      obtain ⟨W5, hW5⟩ : ∃ W5, W4.alloc (.cells #[.int .i64 h, .slice A n cc] 24) = W5 := ⟨_, rfl⟩
      have g5 : Below W4.heap.size W4 W5 := by rw [← hW5]; exact one_more _ _
      have HM5 := Lib.hid (HM3.out.ext (extTrans g4 g5))
      have HG5 := Lib.hid (HG3.out.trans ((extTrans g4 g5).mono HG3.out.size))
      clear g4 g5 m0 m1 r0 r1 rf0 rf1 hi
      have r0 := HM5.out.r.cell 0
      have r1 := HM5.out.r.cell 1
      have rf0 := HM5.out.r.frozen 0
      have rf1 := HM5.out.r.frozen 1
      obtain ⟨W9, hW9, hb9, hg9, -⟩ := put2 HM5.out.r HG5.out hwr 0 none 0 0
      have b0 := hb9.cell 0
      have b1 := hb9.cell 1
      have GG := Lib.hid hg9
      clear hb9 hg9
      unfold mv
      go_wp2_with fail
      refine bodyPost_ret (v := .tuple #[mv none 0 0 0, .int .i64 57]) ?_ rfl ⟨GG.out, none, 0, rfl, Nat.le_refl _, Nat.zero_le _, Arr.nil_⟩
      unfold mv
      simp [results, Try.results34, go_sem, b0, b1]
    · have e : er = 0 := by rw [HE2.out, hi, if_neg (by omega)]
      subst e
      have e1 : rh = h := HH.out
      have e2 : rl = lessL xs f := HL.out
      have e3 : xs.eraseIdx i = lessL xs f := erase_less HOO.out hi (by have := hlen.out; omega)
      rw [e3] at ha'
      have hl' := ha'.1
      subst e1 e2
      obtain ⟨m', hm'⟩ : ∃ m', n - 1 = m' := ⟨_, rfl⟩
      rw [hm'] at ha' hl' hnc' ⊢
      obtain ⟨W5, hW5⟩ : ∃ W5, W4.alloc (.cells #[.int .i64 rh, .slice A' m' c'] 24) = W5 := ⟨_, rfl⟩
      have hb5 : Blk W5 W4.heap.size 24 #[.int .i64 rh, .slice A' m' c'] := by rw [← hW5]; exact Blk.new _ _ _
      have g5 : Below W4.heap.size W4 W5 := by rw [← hW5]; exact one_more _ _
      have HM5 := Lib.hid (HM3.out.ext (extTrans g4 g5))
      have HG5 := Lib.hid (HG3.out.trans ((extTrans g4 g5).mono HG3.out.size))
      have hbr3 := HM3.out.r.lt
      have ha5 := ha'.below g5
      clear m0 m1 r0 r1 rf0 rf1 hi ha'
      have r0 := HM5.out.r.cell 0
      have r1 := HM5.out.r.cell 1
      have rf0 := HM5.out.r.frozen 0
      have rf1 := HM5.out.r.frozen 1
      obtain ⟨W9, hW9, hb9, hg9, hf9⟩ := put2 HM5.out.r HG5.out hwr rh A' m' c'
      have b0 := hb9.cell 0
      have b1 := hb9.cell 1
      have GG := Lib.hid hg9
      have K4 := Lib.hid (ha5.fix hf9 (fun b o e hn => by have := hfr b o e; omega))
      have q0 := hb5.cell 0
      have q1 := hb5.cell 1
      have HL' := Lib.hid hl'
      clear hb9 hg9 hf9 hb5 g4 g5 hm' e3 ha5 hfr hl'
      unfold mv
      go_wp2_with fail
      have hl := HL'.out
      subst hl
      refine bodyPost_ret (v := .tuple #[mv A' (lessL xs f).length c' rh, .int .i64 0]) ?_ rfl ⟨GG.out, A', c', rfl, hnc', hcm, K4.out⟩
      unfold mv
      simp [results, Try.results34, go_sem, b0, b1]
end Go.Proofs.Ytdhhneflhmkonaa
