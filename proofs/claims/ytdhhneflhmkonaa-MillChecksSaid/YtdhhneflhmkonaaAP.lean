/- append, onto a slice that the call itself makes: of numbers and of comers, whatever the source. -/
import Derived.Test.YtdhhneflhmkonaaT9
import Derived.Maps.AppendAt
import Derived.Deep.AppendLies
import Derived.Deep.Onto
import Derived.RegionTactic
namespace Go.Proofs.Ytdhhneflhmkonaa
open Go.RowKit Go.Shelf

/-- A kind of element: its cells, the types of it and of its slice. -/
structure Kd {α : Type} (f : α → List Value) (size : Nat) (e t : TypeId) (bytes : Nat) (z : Value) : Prop where
  ht : Try.prog.underlying t = some (.slice e)
  hi : (Try.prog.info? e).map (fun i => (i.zero, i.size, i.bytes)) = some (some z, size, bytes)
  hz : z.cells.size = size
  pos : 0 < size
  len : ∀ x, (f x).length = size
  one : ∀ x, ∀ u ∈ f x, u.oneCell' = true
  by64 : bytes ≤ 64

theorem kdInt : Kd icells 1 3 28 8 (.int .i64 0) := ⟨under28, info3, by simp [Value.cells], by decide, fun _ => rfl, fun _ u hu => by simp [icells] at hu; subst hu; rfl, by decide⟩
theorem kdCom : Kd ccells 3 53 22 24 (.agg #[.int .i64 0, .int .i64 0, .int .i64 0]) :=
  ⟨under22, info53, by simp [Value.cells], by decide, ccells_len, fun _ u hu => by simp [ccells] at hu; rcases hu with rfl | rfl | rfl <;> rfl, by decide⟩

/-- A slice that the call itself makes. -/
def OwnL {α : Type} (f : α → List Value) (size : Nat) (e : TypeId) (w : World) (base : Nat) (v : Value) (xs : List α) : Prop := w.ownsRow base e size v xs.length (xs.flatMap f)
theorem OwnC.l {w : World} {base : Nat} {v : Value} {xs : List Comer} (h : OwnC w base v xs) : OwnL ccells 3 53 w base v xs := h
theorem flat_icells (l : List Int) : l.flatMap icells = l.map (Value.int .i64) := by
  induction l with
  | nil => rfl
  | cons x l ih => rw [List.flatMap_cons, ih]; rfl
theorem Own.l {w : World} {base : Nat} {v : Value} {l : List Int} (h : Own w base v l) : OwnL icells 1 3 w base v l := by unfold OwnL; rw [flat_icells]; exact h
theorem OwnL.ints {w : World} {base : Nat} {v : Value} {l : List Int} (h : OwnL icells 1 3 w base v l) : Own w base v l := by unfold OwnL at h; rw [flat_icells] at h; exact h

section
variable {α : Type} {f : α → List Value} {size : Nat} {e t : TypeId} {bytes : Nat} {z : Value}

theorem run_app (K : Kd f size e t bytes z) (w : World) (ty : TypeId) (base : Nat) (v : Value) (xs : List α) (hown : OwnL f size e w base v xs) (A : Option Addr) (m c : Nat) (ys : List α) (hr : Arr f size w A m ys)
    (hn : xs.length + m ≤ 1000000) (hbase : base ≤ w.heap.size) :
    ∃ v' w', (Builtin.append_ #[t, t] ty #[v, .slice A m c]).run Try.prog w = .ok v' w' ∧ OwnL f size e w' base v' (xs ++ ys) ∧ w.grownBy w' v.ownBlock ∧ (v'.ownBlock = v.ownBlock ∨ v'.ownBlock = some w.heap.size) := by
  obtain ⟨i, hi, hz0, hz1, hz2⟩ := info_parts K.hi
  have hl := hr.1
  have hby : bytes ≤ 64 := K.by64
  have hmul : (xs.length + m) * bytes ≤ 1000000 * 64 := Nat.mul_le_mul hn hby
  have hfl : (ys.flatMap f).length = m * size := by rw [flat_len K.len, hl]
  have h1c : ∀ u ∈ ys.flatMap f, u.oneCell' = true := fun u hu => by obtain ⟨x, -, hx⟩ := List.mem_flatMap.1 hu; exact K.one x u hx
  have hfin : ∀ v' w', w'.ownsRow base e size v' (xs.length + m) (xs.flatMap f ++ ys.flatMap f) → OwnL f size e w' base v' (xs ++ ys) := fun v' w' h => by
    unfold OwnL; rw [List.length_append, List.flatMap_append, hl]; exact h
  rcases A with _ | ad
  · have hm : m = 0 := by
      rcases Nat.eq_zero_or_pos m with h0 | h0
      · exact h0
      · obtain ⟨b, o, h, _⟩ := hr.2 h0; cases h
    subst hm
    have hn0 : ys = [] := List.eq_nil_of_length_eq_zero hl
    subst hn0
    refine ⟨v, w, ?_, by simpa using hown, World.grownBy.refl w _, .inl rfl⟩
    unfold OwnL at hown
    rcases hown.2 with ⟨rfl, h0⟩ | ⟨g, cap, cur, rfl, _, _, hnc, _⟩
    · simp [Builtin.append_, run_underlying K.ht, sizeOf, typeInfo, hi, Builtin.lenOf, Builtin.firstCells]
    · simp [Builtin.append_, run_underlying K.ht, sizeOf, typeInfo, hi, Builtin.lenOf, Builtin.firstCells, hnc, storeCells]
  · have hcells : ∀ j u, (ys.flatMap f)[j]? = some u → w.cell? (ad.add j) = some u := by
      intro j u hu
      have hj : j < m * size := by rw [← hfl]; exact (List.getElem?_eq_some_iff.1 hu).1
      have hjm : j / size < m := Nat.div_lt_of_lt_mul (by rw [Nat.mul_comm]; exact hj)
      obtain ⟨b, o, x, e1, -, hx, hc⟩ := hr.at hjm
      cases e1
      have hd := Nat.div_add_mod j size
      rw [Nat.mul_comm] at hd
      rw [← hd, flat_get K.len ys _ _ (Nat.mod_lt _ K.pos), hx] at hu
      have := hc w (Below.refl _ _) (j % size) u hu
      rw [add_at, ← hd]
      rwa [Nat.add_assoc] at this
    obtain ⟨v', w', hrun, h2, h3, _, h5⟩ := run_append_own_at (P := Try.prog) w base t ty e i z size bytes K.ht hi hz0 hz1 hz2 K.hz K.pos v xs.length _ hown ad m c _ hfl hcells h1c (by unfold maxLen; omega) (by omega) hbase
    exact ⟨v', w', hrun, hfin _ _ h2, h3, h5⟩

theorem wp_app (K : Kd f size e t bytes z) {w : World} {o : Oper} {a : Act} {K1 : Act → World → Prop} {Q : Exit → Act → World → Prop} (s x : Operand)
    (ho : o.op = .call { callee := .builtin .append, args := #[s, x], argTypes := #[t, t] }) (base : Nat) (v : Value) (xs : List α) (hs : a.eval s = v) (hown : OwnL f size e w base v xs)
    (A : Option Addr) (m c : Nat) (ys : List α) (hx : a.eval x = .slice A m c) (hr : Arr f size w A m ys) (hn : xs.length + m ≤ 1000000) (hbase : base ≤ w.heap.size)
    (h : ∀ v' w', OwnL f size e w' base v' (xs ++ ys) → w.grownBy w' v.ownBlock → (v'.ownBlock = v.ownBlock ∨ v'.ownBlock = some w.heap.size) → K1 (a.put o.dst v') w') : o.wp Try.prog a w K1 Q := by
  obtain ⟨v', w', hrun, h2, h3, h4⟩ := run_app K w o.type base v xs hown A m c ys hr hn hbase
  unfold Oper.wp execOp
  simp only [ho, resolve, invoke, builtin, Sem.run_bind, Sem.run_pure, Result.andThen_ok, List.map_toArray, List.map_cons, List.map_nil, hs, hx, hrun]
  exact h v' w' h2 h3 h4

/-- In a plain region. -/
theorem wpList_app (K : Kd f size e t bytes z) {w : World} {ops : Array Oper} {rest : List Oper} {o : Oper} {a : Act} {Q : Exit → Act → World → Prop} (hgd : o.guard = none) (s x : Operand)
    (ho : o.op = .call { callee := .builtin .append, args := #[s, x], argTypes := #[t, t] }) (base : Nat) (v : Value) (xs : List α) (hs : a.eval s = v) (hown : OwnL f size e w base v xs)
    (A : Option Addr) (m c : Nat) (ys : List α) (hx : a.eval x = .slice A m c) (hr : Arr f size w A m ys) (hn : xs.length + m ≤ 1000000) (hbase : base ≤ w.heap.size)
    (h : ∀ v' w', OwnL f size e w' base v' (xs ++ ys) → w.grownBy w' v.ownBlock → (v'.ownBlock = v.ownBlock ∨ v'.ownBlock = some w.heap.size) → wpList Try.prog ops Q rest (a.put o.dst v') w') : wpList Try.prog ops Q (o :: rest) a w :=
  wpList_plain hgd fun _ hK => wp_app K s x ho base v xs hs hown A m c ys hx hr hn hbase fun v' w' h2 h3 h4 => hK _ _ (h v' w' h2 h3 h4)

/-- In a region that draws its order. -/
theorem step_app (K : Kd f size e t bytes z) {w : World} {ops : Array Oper} {o : Oper} {a : Act} {K1 : Act → World → Prop} {Q : Exit → Act → World → Prop} {E : Prop} (hgd : o.guard = none) (s x : Operand)
    (ho : o.op = .call { callee := .builtin .append, args := #[s, x], argTypes := #[t, t] }) (base : Nat) (v : Value) (xs : List α) (hs : a.eval s = v) (hown : OwnL f size e w base v xs)
    (A : Option Addr) (m c : Nat) (ys : List α) (hx : a.eval x = .slice A m c) (hr : Arr f size w A m ys) (hn : xs.length + m ≤ 1000000) (hbase : base ≤ w.heap.size)
    (h : ∀ v' w', OwnL f size e w' base v' (xs ++ ys) → w.grownBy w' v.ownBlock → (v'.ownBlock = v.ownBlock ∨ v'.ownBlock = some w.heap.size) → K1 (a.put o.dst v') w') :
    if Region.wanted o (yielded ops a.tmps) = true then Oper.wp Try.prog o a w K1 Q else E := by
  have hw : Region.wanted o (yielded ops a.tmps) = true := by simp [Region.wanted, hgd]
  rw [if_pos hw]
  exact wp_app K s x ho base v xs hs hown A m c ys hx hr hn hbase h

theorem OwnL.mono {w : World} {base base' : Nat} {v : Value} {xs : List α} (h : OwnL f size e w base v xs) (hb : base' ≤ base) : OwnL f size e w base' v xs := World.ownsRow.mono h hb
theorem OwnL.ext {w w' : World} {base : Nat} {v : Value} {xs : List α} (h : OwnL f size e w base v xs) (g : Below w.heap.size w w') : OwnL f size e w' base v xs :=
  World.ownsRow.kept h (row := none) ⟨g.os, g.tape, g.output, g.size, fun k hk _ => g.block k hk⟩ (by
    cases hq : v.ownBlock with
    | none => exact .inl rfl
    | some k => exact .inr (by simp))
theorem OwnL.nil (w : World) (base : Nat) : OwnL f size e w base (.slice none 0 0) [] := World.ownsRow_nil w base e size
/-- What the append leaves as it was. -/
theorem OwnL.below {w w' : World} {base B : Nat} {v : Value} {xs : List α} (h : OwnL f size e w base v xs) (hg : w.grownBy w' v.ownBlock) (hB : B ≤ base) (hb : B ≤ w.heap.size) : Below B w w' :=
  (Below.refl _ _).grown hg hb (fun k hk => by have := World.ownsRow.lt h k hk; omega)
/-- As a slice. -/
theorem OwnL.arr {w : World} {base : Nat} {v : Value} {xs : List α} (K : Kd f size e t bytes z) (h : OwnL f size e w base v xs) : ∃ A c, v = .slice A xs.length c ∧ xs.length ≤ c ∧ c ≤ maxLen ∧ Arr f size w A xs.length xs ∧
    (∀ b o, A = some ⟨b, o, none⟩ → v.ownBlock = some b ∧ base ≤ b ∧ o = 0) := by
  obtain ⟨h1, h2 | ⟨g, cap, cur, rfl, hb, hg, h4, h5, h6, h7⟩⟩ := h
  · obtain ⟨rfl, h3⟩ := h2
    have : xs = [] := List.eq_nil_of_length_eq_zero h3
    subst this
    exact ⟨none, 0, rfl, Nat.le_refl _, Nat.zero_le _, Arr.nil_, (by simp)⟩
  · have hg' : Blk w g e cur := hg
    refine ⟨_, _, rfl, h4, h5, ⟨rfl, fun _ => ⟨g, 0, rfl, hg'.lt, fun k x hx j u hu => ?_⟩⟩, fun b o e => by cases e; exact ⟨rfl, hb, rfl⟩⟩
    have hk : k < xs.length := (List.getElem?_eq_some_iff.1 hx).1
    have hj : j < size := by rw [← K.len x]; exact (List.getElem?_eq_some_iff.1 hu).1
    have e1 : (xs.flatMap f)[k * size + j]? = some u := by rw [flat_get K.len xs k j hj, hx]; exact hu
    have hlt : k * size + j < xs.length * size := by
      have : (k + 1) * size ≤ xs.length * size := Nat.mul_le_mul_right _ hk
      rw [Nat.succ_mul] at this; omega
    rw [← h7, List.getElem?_take, if_pos hlt] at e1
    rw [show 0 + k * size + j = k * size + j by omega, hg'.cell]
    simpa using e1
/-- One element in a block of its own. -/
theorem Blk.arr1 {w : World} {g : Nat} {x : α} (h : Blk w g e (f x).toArray) : Arr f size w (some ⟨g, 0, none⟩) 1 [x] :=
  ⟨rfl, fun _ => ⟨g, 0, rfl, h.lt, fun k y hy j u hu => by
    have hk : k = 0 := by have := (List.getElem?_eq_some_iff.1 hy).1; simpa using this
    subst hk
    simp at hy; subst hy
    rw [show 0 + 0 * size + j = j by omega, h.cell]
    simpa using hu⟩⟩
end
theorem keepAlloc {W : World} {a : Addr} {v : Value} (h : W.cell? a = some v) (o : Obj) : (W.alloc o).cell? a = some v := (World.cell?_alloc_lt W o a (World.block_lt_of_cell? W a h)).trans h
end Go.Proofs.Ytdhhneflhmkonaa
