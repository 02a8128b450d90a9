/- Plain: merging in place; the one stable order. -/
import Derived.Test.YtkoejeghihcmlaaGreatMC
namespace Go.Proofs.YtkoejeghihcmlaaGreat
open Go.RowKit Go.Shelf Go.Sort

/-- By the hour, then by the source. -/
def Lx (x y : Six) : Prop := x.b < y.b ∨ (x.b = y.b ∧ x.a < y.a)
abbrev LxS (l : List Six) : Prop := l.Pairwise Lx
abbrev Rise (l : List Six) : Prop := l.Pairwise fun x y => x.a < y.a
/-- All sources of the first list are less than those of the second one. -/
def Ap (L R : List Six) : Prop := ∀ x ∈ L, ∀ y ∈ R, x.a < y.a
theorem Lx.trans {x y z : Six} (h : Lx x y) (h' : Lx y z) : Lx x z := by unfold Lx at *; omega
theorem Lx.asymm {x y : Six} (h : Lx x y) (h' : Lx y x) : False := by unfold Lx at *; omega
theorem lx_eq {l l' : List Six} (hp : l.Perm l') (h : LxS l) (h' : LxS l') : l = l' :=
  hp.eq_of_pairwise (fun _ _ _ _ h1 h2 => (h1.asymm h2).elim) h h'
theorem lx_insH {x : Six} : ∀ {l : List Six}, LxS l → (∀ y ∈ l, y.a < x.a) → LxS (insH x l)
  | [], _, _ => by unfold insH; exact List.pairwise_singleton _ _
  | y :: l, h, hm => by
    have h1 := List.pairwise_cons.1 h
    have hy := hm y (List.mem_cons_self)
    unfold insH
    split
    · rename_i hlt
      refine List.pairwise_cons.2 ⟨fun z hz => ?_, h⟩
      have hxy : Lx x y := .inl hlt
      rcases List.mem_cons.1 hz with rfl | hz
      · exact hxy
      · exact hxy.trans (h1.1 z hz)
    · rename_i hlt
      refine List.pairwise_cons.2 ⟨fun z hz => ?_, lx_insH h1.2 fun z hz => hm z (List.mem_cons_of_mem _ hz)⟩
      rcases mem_insH.1 hz with rfl | hz
      · show y.b < z.b ∨ _; omega
      · exact h1.1 z hz
theorem lx_fold : ∀ (l out : List Six), LxS out → Ap out l → Rise l → LxS (l.foldl (fun out x => insH x out) out)
  | [], _, h, _, _ => h
  | x :: l, out, h, ha, hr => by
    have hr' := List.pairwise_cons.1 hr
    refine lx_fold l _ (lx_insH h fun y hy => ha y hy x (List.mem_cons_self)) (fun y hy z hz => ?_) hr'.2
    rcases mem_insH.1 hy with rfl | hy
    · exact hr'.1 z hz
    · exact ha y hy z (List.mem_cons_of_mem _ hz)
theorem lx_srtH {l : List Six} (h : Rise l) : LxS (srtH l) := lx_fold l [] List.Pairwise.nil (fun _ h => nomatch h) h
theorem stable_eq {l z : List Six} (h : Rise l) (hp : z.Perm l) (hz : LxS z) : z = srtH l := lx_eq (hp.trans (srtH_perm l).symm) hz (lx_srtH h)
theorem Ap.perm {L R L' R' : List Six} (h : Ap L R) (h1 : L'.Perm L) (h2 : R'.Perm R) : Ap L' R' := fun x hx y hy => h x (h1.mem_iff.1 hx) y (h2.mem_iff.1 hy)
theorem Ap.sub {L R L' R' : List Six} (h : Ap L R) (h1 : ∀ x ∈ L', x ∈ L) (h2 : ∀ y ∈ R', y ∈ R) : Ap L' R' := fun x hx y hy => h x (h1 x hx) y (h2 y hy)
theorem rise_app {L R : List Six} (h : Rise (L ++ R)) : Rise L ∧ Rise R ∧ Ap L R := List.pairwise_append.1 h
/-- A part that has been merged: a permutation of both, in order. -/
def Mg (L R Z : List Six) : Prop := Z.Perm (L ++ R) ∧ LxS Z
theorem Mg.len {L R Z : List Six} (h : Mg L R Z) : Z.length = L.length + R.length := by rw [h.1.length_eq, List.length_append]
theorem mg_left {L : List Six} (h : LxS L) : Mg L [] L := ⟨by rw [List.append_nil], h⟩
theorem mg_right {R : List Six} (h : LxS R) : Mg [] R R := ⟨List.Perm.refl _, h⟩
theorem lx_b {l : List Six} (h : LxS l) {i j : Nat} (hij : i ≤ j) (hj : j < l.length) : (l.getD i z6).b ≤ (l.getD j z6).b := by
  rcases Nat.lt_or_ge i j with c | c
  · have h1 := List.pairwise_iff_getElem.1 h i j (by omega) hj c
    rw [List.getD_eq_getElem?_getD, List.getD_eq_getElem?_getD, List.getElem?_eq_getElem hj, List.getElem?_eq_getElem (by omega)]
    show l[i].b ≤ l[j].b
    unfold Lx at h1
    omega
  · obtain rfl : i = j := by omega
    exact Int.le_refl _
theorem mem_take_ix {l : List Six} {i : Nat} {x : Six} (h : x ∈ l.take i) : ∃ k, k < i ∧ k < l.length ∧ l.getD k z6 = x := by
  obtain ⟨k, hk, rfl⟩ := List.getElem_of_mem h
  rw [List.length_take] at hk
  refine ⟨k, by omega, by omega, ?_⟩
  rw [List.getD_eq_getElem?_getD, List.getElem?_eq_getElem (by omega), List.getElem_take]
  rfl
theorem mem_drop_ix {l : List Six} {i : Nat} {x : Six} (h : x ∈ l.drop i) : ∃ k, i ≤ k ∧ k < l.length ∧ l.getD k z6 = x := by
  obtain ⟨k, hk, rfl⟩ := List.getElem_of_mem h
  rw [List.length_drop] at hk
  refine ⟨i + k, by omega, by omega, ?_⟩
  rw [List.getD_eq_getElem?_getD, List.getElem?_eq_getElem (by omega), List.getElem_drop]
  rfl
theorem mg_split {L R Z1 Z2 : List Six} (hL : LxS L) (hR : LxS R) (hA : Ap L R) {i j : Nat}
    (h1 : 0 < i → j < R.length → (L.getD (i - 1) z6).b ≤ (R.getD j z6).b) (h2 : i < L.length → 0 < j → (R.getD (j - 1) z6).b < (L.getD i z6).b)
    (m1 : Mg (L.take i) (R.take j) Z1) (m2 : Mg (L.drop i) (R.drop j) Z2) (hi : i ≤ L.length) (hj : j ≤ R.length) : Mg L R (Z1 ++ Z2) := by
  refine ⟨?_, List.pairwise_append.2 ⟨m1.2, m2.2, fun x hx y hy => ?_⟩⟩
  · refine (m1.1.append m2.1).trans ?_
    have e : L ++ R = (L.take i ++ L.drop i) ++ (R.take j ++ R.drop j) := by rw [List.take_append_drop, List.take_append_drop]
    rw [e]
    simp only [List.append_assoc]
    refine List.Perm.append_left _ ?_
    rw [← List.append_assoc, ← List.append_assoc]
    exact List.Perm.append_right _ List.perm_append_comm
  · have hx' := List.mem_append.1 (m1.1.mem_iff.1 hx)
    have hy' := List.mem_append.1 (m2.1.mem_iff.1 hy)
    rcases hx' with hx' | hx' <;> rcases hy' with hy' | hy'
    · have h := List.pairwise_append.1 (show LxS (L.take i ++ L.drop i) by rw [List.take_append_drop]; exact hL)
      exact h.2.2 x hx' y hy'
    · obtain ⟨k, k1, k2, rfl⟩ := mem_take_ix hx'
      obtain ⟨t, t1, t2, rfl⟩ := mem_drop_ix hy'
      have a1 := lx_b hL (i := k) (j := i - 1) (by omega) (by omega)
      have a2 := lx_b hR (i := j) (j := t) (by omega) (by omega)
      have a3 := h1 (by omega) (by omega)
      have a4 := hA _ (List.mem_of_mem_take hx') _ (List.mem_of_mem_drop hy')
      unfold Lx; omega
    · obtain ⟨k, k1, k2, rfl⟩ := mem_take_ix hx'
      obtain ⟨t, t1, t2, rfl⟩ := mem_drop_ix hy'
      have a1 := lx_b hR (i := k) (j := j - 1) (by omega) (by omega)
      have a2 := lx_b hL (i := i) (j := t) (by omega) (by omega)
      have a3 := h2 (by omega) (by omega)
      unfold Lx; omega
    · have h := List.pairwise_append.1 (show LxS (R.take j ++ R.drop j) by rw [List.take_append_drop]; exact hR)
      exact h.2.2 x hx' y hy'
theorem mg_one_left {x : Six} {R : List Six} (hR : LxS R) (hA : Ap [x] R) {j : Nat} (hj : j ≤ R.length)
    (h1 : 0 < j → (R.getD (j - 1) z6).b < x.b) (h2 : j < R.length → x.b ≤ (R.getD j z6).b) : Mg [x] R (R.take j ++ x :: R.drop j) := by
  have := mg_split (L := [x]) (R := R) (i := 0) (j := j) (Z1 := R.take j) (Z2 := x :: R.drop j) (List.pairwise_singleton _ _) hR hA (by omega) (fun _ h => h1 h)
    (by rw [List.take_zero]; exact mg_right (hR.sublist (List.take_sublist _ _)))
    ⟨List.Perm.refl _, List.pairwise_cons.2 ⟨fun y hy => ?_, hR.sublist (List.drop_sublist _ _)⟩⟩ (Nat.zero_le _) hj
  · exact this
  · obtain ⟨t, t1, t2, rfl⟩ := mem_drop_ix hy
    have a1 := lx_b hR (i := j) (j := t) t1 t2
    have a3 := h2 (by omega)
    have a2 := hA x (List.mem_cons_self) _ (List.mem_of_mem_drop hy)
    unfold Lx; omega
theorem mg_one_right {y : Six} {L : List Six} (hL : LxS L) (hA : Ap L [y]) {i : Nat} (hi : i ≤ L.length)
    (h1 : 0 < i → (L.getD (i - 1) z6).b ≤ y.b) (h2 : i < L.length → y.b < (L.getD i z6).b) : Mg L [y] (L.take i ++ y :: L.drop i) := by
  have := mg_split (L := L) (R := [y]) (i := i) (j := 1) (Z1 := L.take i ++ [y]) (Z2 := L.drop i) hL (List.pairwise_singleton _ _) hA (fun _ h => by simp at h) (fun h _ => by have := h2 h; simpa using this)
    ⟨by simp, List.pairwise_append.2 ⟨hL.sublist (List.take_sublist _ _), List.pairwise_singleton _ _, fun x hx z hz => ?_⟩⟩
    (by simpa using mg_left (hL.sublist (List.drop_sublist _ _))) hi (by simp)
  · simpa using this
  · obtain ⟨t, t1, t2, rfl⟩ := mem_take_ix hx
    rw [List.mem_singleton.1 hz]
    have a1 := lx_b hL (i := t) (j := i - 1) (by omega) (by omega)
    have a3 := h1 (by omega)
    have a2 := hA _ (List.mem_of_mem_take hx) y (List.mem_cons_self)
    unfold Lx; omega
/- Places in a list of pieces. -/
theorem swp_list {P Q S : List Six} {x y : Six} {i j : Nat} (hi : i = P.length) (hj : j = P.length + 1 + Q.length) : swp (P ++ x :: (Q ++ y :: S)).toArray i j = (P ++ y :: (Q ++ x :: S)).toArray := by
  subst hi hj
  unfold swp
  have e1 : (P ++ x :: (Q ++ y :: S)).toArray[P.length]! = x := by simp
  have e2 : (P ++ x :: (Q ++ y :: S)).toArray[P.length + 1 + Q.length]! = y := by
    have : P ++ x :: (Q ++ y :: S) = (P ++ x :: Q) ++ y :: S := by simp
    rw [this]
    have : P.length + 1 + Q.length = (P ++ x :: Q).length := by simp; omega
    rw [this]
    simp
  rw [e1, e2]
  have : P ++ x :: (Q ++ y :: S) = P ++ x :: (Q ++ y :: S) := rfl
  simp [List.set_append, show P.length + 1 + Q.length - P.length = Q.length + 1 by omega, show ¬ (P.length + 1 + Q.length < P.length) by omega]
theorem swp_back {P Q S : List Six} {x y : Six} {i j : Nat} (hi : i = P.length) (hj : j = P.length + 1 + Q.length) : swp (P ++ x :: (Q ++ y :: S)).toArray j i = (P ++ y :: (Q ++ x :: S)).toArray := by
  have h := swp_list (P := P) (Q := Q) (S := S) (x := x) (y := y) hi hj
  rw [← h]
  have hs : i < (P ++ x :: (Q ++ y :: S)).toArray.size := by simp; omega
  unfold swp
  have hne : i ≠ j := by omega
  exact Array.setIfInBounds_comm _ _ (Ne.symm hne)
theorem getA {l : List Six} {i : Nat} (h : i < l.length) : l.toArray[i]! = l.getD i z6 := by
  rw [getElem!_pos _ _ (by simpa using h), List.getD_eq_getElem?_getD, List.getElem?_eq_getElem h]
  simp
theorem getD_mid {A B C : List Six} {i : Nat} (h : i < B.length) : (A ++ B ++ C).getD (A.length + i) z6 = B.getD i z6 := by
  rw [List.append_assoc, List.getD_eq_getElem?_getD, List.getD_eq_getElem?_getD, List.getElem?_append_right (by omega), show A.length + i - A.length = i by omega, List.getElem?_append_left h]
theorem take_succ_D {l : List Six} {i : Nat} (h : i < l.length) : l.take (i + 1) = l.take i ++ [l.getD i z6] := by
  rw [List.take_succ_eq_append_getElem h, List.getD_eq_getElem?_getD, List.getElem?_eq_getElem h]; rfl
theorem drop_cons_D {l : List Six} {i : Nat} (h : i < l.length) : l.drop i = l.getD i z6 :: l.drop (i + 1) := by
  rw [List.drop_eq_getElem_cons h, List.getD_eq_getElem?_getD, List.getElem?_eq_getElem h]; rfl
/-- While two ranges are exchanged. -/
def stg (pre X mid Y post : List Six) (i : Nat) : List Six := pre ++ (Y.take i ++ X.drop i) ++ mid ++ (X.take i ++ Y.drop i) ++ post
theorem stg_len {pre X mid Y post : List Six} (h : X.length = Y.length) {i : Nat} (hi : i ≤ X.length) : (stg pre X mid Y post i).length = (pre ++ X ++ mid ++ Y ++ post).length := by
  unfold stg
  simp only [List.length_append, List.length_take, List.length_drop]
  omega
theorem stg_zero (pre X mid Y post : List Six) : stg pre X mid Y post 0 = pre ++ X ++ mid ++ Y ++ post := by unfold stg; simp
theorem stg_end {pre X mid Y post : List Six} (h : X.length = Y.length) : stg pre X mid Y post X.length = pre ++ Y ++ mid ++ X ++ post := by
  unfold stg
  rw [List.take_of_length_le (Nat.le_refl _), List.drop_of_length_le (Nat.le_refl _), h, List.take_of_length_le (Nat.le_refl _), List.drop_of_length_le (Nat.le_refl _), List.append_nil, List.append_nil]
theorem stg_swp {pre X mid Y post : List Six} (h : X.length = Y.length) {i : Nat} (hi : i < X.length) : swp (stg pre X mid Y post i).toArray (pre.length + i) (pre.length + X.length + mid.length + i) = (stg pre X mid Y post (i + 1)).toArray := by
  have e : stg pre X mid Y post i = (pre ++ Y.take i) ++ X.getD i z6 :: ((X.drop (i + 1) ++ mid ++ X.take i) ++ Y.getD i z6 :: (Y.drop (i + 1) ++ post)) := by
    unfold stg
    rw [drop_cons_D hi, drop_cons_D (by omega : i < Y.length)]
    simp
  rw [e, swp_list (by simp; omega) (by simp; omega)]
  unfold stg
  rw [take_succ_D hi, take_succ_D (by omega : i < Y.length)]
  simp
end Go.Proofs.YtkoejeghihcmlaaGreat
