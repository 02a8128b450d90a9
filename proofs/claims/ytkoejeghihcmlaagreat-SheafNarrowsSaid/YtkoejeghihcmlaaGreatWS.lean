/- A local plot whose rows grow. -/
import Derived.Test.YtkoejeghihcmlaaGreatWH
import Derived.Test.YtkoejeghihcmlaaGreatWM
namespace Go.Proofs.YtkoejeghihcmlaaGreat
open Go.RowKit Go.Shelf

/-- The plot at block b, whose rows are one's own, behind b. -/
structure Nw (w0 : World) (b : Nat) (lo hi geese : Int) (W : World) (v1 v2 v3 : Value) (l1 l2 l3 : List Six) : Prop where
  g : Below b w0 W
  p : Blk W b 38 #[.int .i64 lo, .int .i64 hi, v1, v2, v3, .int .i64 geese]
  o1 : OwnL scells 6 103 W (b + 1) v1 l1
  o2 : OwnL scells 6 105 W (b + 1) v2 l2
  o3 : OwnL scells 6 107 W (b + 1) v3 l3
section
variable {w0 W W2 : World} {b : Nat} {lo hi geese : Int} {v1 v2 v3 v' : Value} {l1 l2 l3 l' : List Six}
theorem Nw.new (w0 : World) (lo hi geese : Int) : Nw w0 w0.heap.size lo hi geese (w0.alloc (.cells #[.int .i64 lo, .int .i64 hi, .slice none 0 0, .slice none 0 0, .slice none 0 0, .int .i64 geese] 38)) (.slice none 0 0) (.slice none 0 0) (.slice none 0 0) [] [] [] :=
  ⟨one_more _ _, Blk.new _ _ _, OwnL.nil _ _, OwnL.nil _ _, OwnL.nil _ _⟩
theorem Nw.ext (h : Nw w0 b lo hi geese W v1 v2 v3 l1 l2 l3) (k : Below W.heap.size W W2) : Nw w0 b lo hi geese W2 v1 v2 v3 l1 l2 l3 :=
  ⟨h.g.trans (k.mono (Nat.le_of_lt h.p.lt)), h.p.ext k, h.o1.ext k, h.o2.ext k, h.o3.ext k⟩
theorem own_apart {e e' : TypeId} (he : e ≠ e') {v v' : Value} {xs ys : List Six} {base : Nat} (h : OwnL scells 6 e W base v xs) (h' : OwnL scells 6 e' W base v' ys) : ∀ k, v.ownBlock = some k → v'.ownBlock ≠ some k := fun k e1 e2 => by
  obtain ⟨-, -, cur, hc⟩ := own_cells h e1
  obtain ⟨-, -, cur', hc'⟩ := own_cells h' e2
  rw [hc] at hc'
  simp only [Option.some.injEq, Obj.cells.injEq] at hc'
  exact he hc'.2.1
theorem Nw.put1 (h : Nw w0 b lo hi geese W v1 v2 v3 l1 l2 l3) (hg : W.grownBy W2 v1.ownBlock) (ho : OwnL scells 6 103 W2 (b + 1) v' l') : Nw w0 b lo hi geese (W2.setCell ⟨b, 2, none⟩ v') v' v2 v3 l' l2 l3 :=
  ⟨(h.g.grown hg (Nat.le_of_lt h.p.lt) (fun k e => by have := (own_lt h.o1 e).1; omega)).setCell (p := ⟨b, 2, none⟩) (Nat.le_refl _) _,
    (h.p.grown hg (fun e => by have := (own_lt h.o1 e).1; omega)).set_ 2 v', ho.far (p := ⟨b, 2, none⟩) (Nat.lt_succ_self b) _,
    (h.o2.grown hg (fun k e e2 => own_apart (by decide) h.o1 h.o2 k e2 e)).far (p := ⟨b, 2, none⟩) (Nat.lt_succ_self b) _,
    (h.o3.grown hg (fun k e e2 => own_apart (by decide) h.o1 h.o3 k e2 e)).far (p := ⟨b, 2, none⟩) (Nat.lt_succ_self b) _⟩
theorem Nw.put2 (h : Nw w0 b lo hi geese W v1 v2 v3 l1 l2 l3) (hg : W.grownBy W2 v2.ownBlock) (ho : OwnL scells 6 105 W2 (b + 1) v' l') : Nw w0 b lo hi geese (W2.setCell ⟨b, 3, none⟩ v') v1 v' v3 l1 l' l3 :=
  ⟨(h.g.grown hg (Nat.le_of_lt h.p.lt) (fun k e => by have := (own_lt h.o2 e).1; omega)).setCell (p := ⟨b, 3, none⟩) (Nat.le_refl _) _,
    (h.p.grown hg (fun e => by have := (own_lt h.o2 e).1; omega)).set_ 3 v',
    (h.o1.grown hg (fun k e e2 => own_apart (by decide) h.o2 h.o1 k e2 e)).far (p := ⟨b, 3, none⟩) (Nat.lt_succ_self b) _, ho.far (p := ⟨b, 3, none⟩) (Nat.lt_succ_self b) _,
    (h.o3.grown hg (fun k e e2 => own_apart (by decide) h.o2 h.o3 k e2 e)).far (p := ⟨b, 3, none⟩) (Nat.lt_succ_self b) _⟩
theorem Nw.put3 (h : Nw w0 b lo hi geese W v1 v2 v3 l1 l2 l3) (hg : W.grownBy W2 v3.ownBlock) (ho : OwnL scells 6 107 W2 (b + 1) v' l') : Nw w0 b lo hi geese (W2.setCell ⟨b, 4, none⟩ v') v1 v2 v' l1 l2 l' :=
  ⟨(h.g.grown hg (Nat.le_of_lt h.p.lt) (fun k e => by have := (own_lt h.o3 e).1; omega)).setCell (p := ⟨b, 4, none⟩) (Nat.le_refl _) _,
    (h.p.grown hg (fun e => by have := (own_lt h.o3 e).1; omega)).set_ 4 v',
    (h.o1.grown hg (fun k e e2 => own_apart (by decide) h.o3 h.o1 k e2 e)).far (p := ⟨b, 4, none⟩) (Nat.lt_succ_self b) _,
    (h.o2.grown hg (fun k e e2 => own_apart (by decide) h.o3 h.o2 k e2 e)).far (p := ⟨b, 4, none⟩) (Nat.lt_succ_self b) _, ho.far (p := ⟨b, 4, none⟩) (Nat.lt_succ_self b) _⟩
theorem Nw.drew_ (h : Nw w0 b lo hi geese W v1 v2 v3 l1 l2 l3) : Nw w0 b lo hi geese W.drew v1 v2 v3 l1 l2 l3 := h.ext (Below.refl _ _).drew
/-- As a plot. -/
theorem Nw.plot {p : Pl} (h : Nw w0 b p.lo p.hi p.geese W v1 v2 v3 p.loads p.stands p.spells) : ∃ D1 m1 d1 D2 m2 d2 D3 m3 d3, Blk W b 38 (plb p D1 D2 D3 m1 d1 m2 d2 m3 d3) ∧ Pa W p D1 D2 D3 m1 d1 m2 d2 m3 d3 := by
  obtain ⟨D1, d1, e1, k1, j1, i1, -⟩ := OwnL.arr kdL h.o1
  obtain ⟨D2, d2, e2, k2, j2, i2, -⟩ := OwnL.arr kdS h.o2
  obtain ⟨D3, d3, e3, k3, j3, i3, -⟩ := OwnL.arr kdP h.o3
  unfold maxLen at j1 j2 j3
  have hp := h.p
  rw [e1, e2, e3] at hp
  exact ⟨D1, _, d1, D2, _, d2, D3, _, d3, hp, ⟨i1, i2, i3, ⟨k1, Nat.le_trans k1 j1⟩, ⟨k2, Nat.le_trans k2 j2⟩, ⟨k3, Nat.le_trans k3 j3⟩⟩⟩
end
theorem Cp.slices {W : World} {B : Nat} {p : Pl} {v1 v2 v3 : Value} (h : Cp W B p v1 v2 v3) : ∃ D1 m1 d1 D2 m2 d2 D3 m3 d3, v1 = .slice D1 m1 d1 ∧ v2 = .slice D2 m2 d2 ∧ v3 = .slice D3 m3 d3 ∧ Pa W p D1 D2 D3 m1 d1 m2 d2 m3 d3 := by
  obtain ⟨D1, d1, e1, k1, j1, i1, -⟩ := OwnL.arr kdL h.l1
  obtain ⟨D2, d2, e2, k2, j2, i2, -⟩ := OwnL.arr kdS h.l2
  obtain ⟨D3, d3, e3, k3, j3, i3, -⟩ := OwnL.arr kdP h.l3
  unfold maxLen at j1 j2 j3
  exact ⟨D1, _, d1, D2, _, d2, D3, _, d3, e1, e2, e3, ⟨i1, i2, i3, ⟨k1, Nat.le_trans k1 j1⟩, ⟨k2, Nat.le_trans k2 j2⟩, ⟨k3, Nat.le_trans k3 j3⟩⟩⟩
theorem plw_plb (p : Pl) (D1 D2 D3 : Option Addr) (m1 d1 m2 d2 m3 d3 : Nat) : plw p (.slice D1 m1 d1) (.slice D2 m2 d2) (.slice D3 m3 d3) = plb p D1 D2 D3 m1 d1 m2 d2 m3 d3 := rfl
set_option maxRecDepth 100000 in
theorem neqRg (x y : Rg) (w : World) : (binOp .neq 33 (.agg #[.int .i64 x.lo, .int .i64 x.hi]) (.agg #[.int .i64 y.lo, .int .i64 y.hi])).run Tryz.prog w = .ok (.bool (!decide (x = y))) w := by
  obtain ⟨a, b⟩ := x
  obtain ⟨a', b'⟩ := y
  by_cases h1 : a = a' <;> by_cases h2 : b = b' <;> simp [go_sem, h1, h2]
theorem Below.allo_ {B : Nat} {V X : World} (h : Below B V X) (hB : B ≤ X.heap.size) (o : Obj) : Below B V (X.alloc o) := h.trans ((one_more X o).mono hB)
/-- What is known by a day. -/
def nwL (known : Int) (l : List Six) : List Six := l.filter fun x => decide (x.e ≤ known)
theorem nw_yes {known : Int} {l : List Six} {k : Nat} (hk : k < l.length) (h : (l.getD k z6).e ≤ known) : nwL known (l.take (k + 1)) = nwL known (l.take k) ++ [l.getD k z6] := by
  unfold nwL
  rw [six_get hk] at h ⊢
  rw [List.take_succ_eq_append_getElem hk, List.filter_append, List.filter_cons_of_pos (by simpa using h)]
  rfl
theorem nw_no {known : Int} {l : List Six} {k : Nat} (hk : k < l.length) (h : ¬ (l.getD k z6).e ≤ known) : nwL known (l.take (k + 1)) = nwL known (l.take k) := by
  unfold nwL
  rw [six_get hk] at h
  rw [List.take_succ_eq_append_getElem hk, List.filter_append, List.filter_cons_of_neg (by simpa using h)]
  simp
theorem nw_len (known : Int) (l : List Six) : (nwL known l).length ≤ l.length := List.length_filter_le _ _
theorem six_one (W : World) (t : TypeId) (x : Six) : Arr scells 6 (W.alloc (.cells #[.int .i64 x.a, .int .i64 x.b, .int .i64 x.c, .int .i64 x.d, .int .i64 x.e, .int .i64 x.f] t)) (some ⟨W.heap.size, 0, none⟩) 1 [x] := Blk.arr1 (Blk.new W t _)
theorem last_take {known : Int} {l : List Int} {k : Nat} (hk : k < l.length) : lastD known (l.take (k + 1)) = if l.getD k 0 ≤ known then l.getD k 0 else lastD known (l.take k) := by
  rw [List.take_succ_eq_append_getElem hk, lastD_snoc, getD_int hk]
end Go.Proofs.YtkoejeghihcmlaaGreat
