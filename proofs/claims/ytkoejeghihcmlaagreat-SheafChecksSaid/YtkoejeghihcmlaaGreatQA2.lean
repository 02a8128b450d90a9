/- Part of the proof: UA, UB, UC, UD, WM, UG. -/
import Derived.Shelf.SlSortCmp.KitK
import Derived.Sort.WalkB2
import Derived.Sort.WalkB12
import Derived.Deep.LoopGhost
import Derived.BigQuiet
import Derived.Test.YtkoejeghihcmlaaGreatQA0
import Derived.Test.YtkoejeghihcmlaaGreatQA1
namespace Go.Proofs.YtkoejeghihcmlaaGreat
open Go.RowKit Go.Shelf Go.Sort
/-- By the hour, then by the source. -/
def Lx (x y : Six) : Prop := x.b < y.b ∨ (x.b = y.b ∧ x.a < y.a)
abbrev LxS (l : List Six) : Prop := l.Pairwise Lx
abbrev Rise (l : List Six) : Prop := l.Pairwise fun x y => x.a < y.a
/-- All sources of the first list are less than those of the second one. -/
def Ap (L R : List Six) : Prop := ∀ x ∈ L, ∀ y ∈ R, x.a < y.a
theorem Lx.trans {x y z : Six} (h : Lx x y) (h' : Lx y z) : Lx x z := by unfold Lx at *; omega
theorem Lx.asymm {x y : Six} (h : Lx x y) (h' : Lx y x) : False := by unfold Lx at *; omega
theorem lx_eq {l l' : List Six} (hp : l.Perm l') (h : LxS l) (h' : LxS l') : l = l' :=
 hp.eq_of_pairwise (fun _ _ _ _ h1 h2 => (h1.asymm h2).elim) h h'
theorem lx_insH {x : Six} : ∀ {l : List Six}, LxS l → (∀ y ∈ l, y.a < x.a) → LxS (insH x l)
 | [], _, _ => by unfold insH; exact List.pairwise_singleton _ _
 | y :: l, h, hm => by
  have h1 := List.pairwise_cons.1 h
  have hy := hm y (List.mem_cons_self)
  unfold insH
  split
  ·rename_i hlt
   refine List.pairwise_cons.2 ⟨fun z hz => ?_, h⟩
   have hxy : Lx x y := .inl hlt
   rcases List.mem_cons.1 hz with rfl | hz
   ·exact hxy
   ·exact hxy.trans (h1.1 z hz)
  ·rename_i hlt
   refine List.pairwise_cons.2 ⟨fun z hz => ?_, lx_insH h1.2 fun z hz => hm z (List.mem_cons_of_mem _ hz)⟩
   rcases mem_insH.1 hz with rfl | hz
   ·show y.b < z.b ∨ _; omega
   ·exact h1.1 z hz
theorem lx_fold : ∀ (l out : List Six), LxS out → Ap out l → Rise l → LxS (l.foldl (fun out x => insH x out) out)
 | [], _, h, _, _ => h
 | x :: l, out, h, ha, hr => by
  have hr' := List.pairwise_cons.1 hr
  refine lx_fold l _ (lx_insH h fun y hy => ha y hy x (List.mem_cons_self)) (fun y hy z hz => ?_) hr'.2
  rcases mem_insH.1 hy with rfl | hy
  ·exact hr'.1 z hz
  ·exact ha y hy z (List.mem_cons_of_mem _ hz)
theorem lx_srtH {l : List Six} (h : Rise l) : LxS (srtH l) := lx_fold l [] List.Pairwise.nil (fun _ h => nomatch h) h
theorem stable_eq {l z : List Six} (h : Rise l) (hp : z.Perm l) (hz : LxS z) : z = srtH l := lx_eq (hp.trans (srtH_perm l).symm) hz (lx_srtH h)
theorem Ap.perm {L R L' R' : List Six} (h : Ap L R) (h1 : L'.Perm L) (h2 : R'.Perm R) : Ap L' R' := fun x hx y hy => h x (h1.mem_iff.1 hx) y (h2.mem_iff.1 hy)
theorem Ap.sub {L R L' R' : List Six} (h : Ap L R) (h1 : ∀ x ∈ L', x ∈ L) (h2 : ∀ y ∈ R', y ∈ R) : Ap L' R' := fun x hx y hy => h x (h1 x hx) y (h2 y hy)
theorem rise_app {L R : List Six} (h : Rise (L ++ R)) : Rise L ∧ Rise R ∧ Ap L R := List.pairwise_append.1 h
/-- A part that has been merged: a permutation of both, in order. -/
def Mg (L R Z : List Six) : Prop := Z.Perm (L ++ R) ∧ LxS Z
theorem Mg.len {L R Z : List Six} (h : Mg L R Z) : Z.length = L.length + R.length := by rw [h.1.length_eq, List.length_append]
theorem mg_left {L : List Six} (h : LxS L) : Mg L [] L := ⟨by rw [List.append_nil], h⟩
theorem mg_right {R : List Six} (h : LxS R) : Mg [] R R := ⟨List.Perm.refl _, h⟩
theorem lx_b {l : List Six} (h : LxS l) {i j : Nat} (hij : i ≤ j) (hj : j < l.length) : (l.getD i z6).b ≤ (l.getD j z6).b := by
 rcases Nat.lt_or_ge i j with c | c
 ·have h1 := List.pairwise_iff_getElem.1 h i j (by omega) hj c
  rw [List.getD_eq_getElem?_getD, List.getD_eq_getElem?_getD, List.getElem?_eq_getElem hj, List.getElem?_eq_getElem (by omega)]
  show l[i].b ≤ l[j].b
  unfold Lx at h1
  omega
 ·obtain rfl : i = j := by omega
  exact Int.le_refl _
theorem mem_take_ix {l : List Six} {i : Nat} {x : Six} (h : x ∈ l.take i) : ∃ k, k < i ∧ k < l.length ∧ l.getD k z6 = x := by
 obtain ⟨k, hk, rfl⟩ := List.getElem_of_mem h
 rw [List.length_take] at hk
 refine ⟨k, by omega, by omega, ?_⟩
 rw [List.getD_eq_getElem?_getD, List.getElem?_eq_getElem (by omega), List.getElem_take]
 rfl
theorem mem_drop_ix {l : List Six} {i : Nat} {x : Six} (h : x ∈ l.drop i) : ∃ k, i ≤ k ∧ k < l.length ∧ l.getD k z6 = x := by
 obtain ⟨k, hk, rfl⟩ := List.getElem_of_mem h
 rw [List.length_drop] at hk
 refine ⟨i + k, by omega, by omega, ?_⟩
 rw [List.getD_eq_getElem?_getD, List.getElem?_eq_getElem (by omega), List.getElem_drop]
 rfl
theorem mg_split {L R Z1 Z2 : List Six} (hL : LxS L) (hR : LxS R) (hA : Ap L R) {i j : Nat}
  (h1 : 0 < i → j < R.length → (L.getD (i - 1) z6).b ≤ (R.getD j z6).b) (h2 : i < L.length → 0 < j → (R.getD (j - 1) z6).b < (L.getD i z6).b)
  (m1 : Mg (L.take i) (R.take j) Z1) (m2 : Mg (L.drop i) (R.drop j) Z2) (hi : i ≤ L.length) (hj : j ≤ R.length) : Mg L R (Z1 ++ Z2) := by
 refine ⟨?_, List.pairwise_append.2 ⟨m1.2, m2.2, fun x hx y hy => ?_⟩⟩
 ·refine (m1.1.append m2.1).trans ?_
  have e : L ++ R = (L.take i ++ L.drop i) ++ (R.take j ++ R.drop j) := by rw [List.take_append_drop, List.take_append_drop]
  rw [e]
  simp only [List.append_assoc]
  refine List.Perm.append_left _ ?_
  rw [← List.append_assoc, ← List.append_assoc]
  exact List.Perm.append_right _ List.perm_append_comm
 ·have hx' := List.mem_append.1 (m1.1.mem_iff.1 hx)
  have hy' := List.mem_append.1 (m2.1.mem_iff.1 hy)
  rcases hx' with hx' | hx' <;> rcases hy' with hy' | hy'
  ·have h := List.pairwise_append.1 (show LxS (L.take i ++ L.drop i) by rw [List.take_append_drop]; exact hL)
   exact h.2.2 x hx' y hy'
  ·obtain ⟨k, k1, k2, rfl⟩ := mem_take_ix hx'
   obtain ⟨t, t1, t2, rfl⟩ := mem_drop_ix hy'
   have a1 := lx_b hL (i := k) (j := i - 1) (by omega) (by omega)
   have a2 := lx_b hR (i := j) (j := t) (by omega) (by omega)
   have a3 := h1 (by omega) (by omega)
   have a4 := hA _ (List.mem_of_mem_take hx') _ (List.mem_of_mem_drop hy')
   unfold Lx; omega
  ·obtain ⟨k, k1, k2, rfl⟩ := mem_take_ix hx'
   obtain ⟨t, t1, t2, rfl⟩ := mem_drop_ix hy'
   have a1 := lx_b hR (i := k) (j := j - 1) (by omega) (by omega)
   have a2 := lx_b hL (i := i) (j := t) (by omega) (by omega)
   have a3 := h2 (by omega) (by omega)
   unfold Lx; omega
  ·have h := List.pairwise_append.1 (show LxS (R.take j ++ R.drop j) by rw [List.take_append_drop]; exact hR)
   exact h.2.2 x hx' y hy'
theorem mg_one_left {x : Six} {R : List Six} (hR : LxS R) (hA : Ap [x] R) {j : Nat} (hj : j ≤ R.length)
  (h1 : 0 < j → (R.getD (j - 1) z6).b < x.b) (h2 : j < R.length → x.b ≤ (R.getD j z6).b) : Mg [x] R (R.take j ++ x :: R.drop j) := by
 have := mg_split (L := [x]) (R := R) (i := 0) (j := j) (Z1 := R.take j) (Z2 := x :: R.drop j) (List.pairwise_singleton _ _) hR hA (by omega) (fun _ h => h1 h)
  (by rw [List.take_zero]; exact mg_right (hR.sublist (List.take_sublist _ _)))
  ⟨List.Perm.refl _, List.pairwise_cons.2 ⟨fun y hy => ?_, hR.sublist (List.drop_sublist _ _)⟩⟩ (Nat.zero_le _) hj
 ·exact this
 ·obtain ⟨t, t1, t2, rfl⟩ := mem_drop_ix hy
  have a1 := lx_b hR (i := j) (j := t) t1 t2
  have a3 := h2 (by omega)
  have a2 := hA x (List.mem_cons_self) _ (List.mem_of_mem_drop hy)
  unfold Lx; omega
theorem mg_one_right {y : Six} {L : List Six} (hL : LxS L) (hA : Ap L [y]) {i : Nat} (hi : i ≤ L.length)
  (h1 : 0 < i → (L.getD (i - 1) z6).b ≤ y.b) (h2 : i < L.length → y.b < (L.getD i z6).b) : Mg L [y] (L.take i ++ y :: L.drop i) := by
 have := mg_split (L := L) (R := [y]) (i := i) (j := 1) (Z1 := L.take i ++ [y]) (Z2 := L.drop i) hL (List.pairwise_singleton _ _) hA (fun _ h => by simp at h) (fun h _ => by have := h2 h; simpa using this)
  ⟨by simp, List.pairwise_append.2 ⟨hL.sublist (List.take_sublist _ _), List.pairwise_singleton _ _, fun x hx z hz => ?_⟩⟩
  (by simpa using mg_left (hL.sublist (List.drop_sublist _ _))) hi (by simp)
 ·simpa using this
 ·obtain ⟨t, t1, t2, rfl⟩ := mem_take_ix hx
  rw [List.mem_singleton.1 hz]
  have a1 := lx_b hL (i := t) (j := i - 1) (by omega) (by omega)
  have a3 := h1 (by omega)
  have a2 := hA _ (List.mem_of_mem_take hx) y (List.mem_cons_self)
  unfold Lx; omega
theorem swp_list {P Q S : List Six} {x y : Six} {i j : Nat} (hi : i = P.length) (hj : j = P.length + 1 + Q.length) : swp (P ++ x :: (Q ++ y :: S)).toArray i j = (P ++ y :: (Q ++ x :: S)).toArray := by
 subst hi hj
 unfold swp
 have e1 : (P ++ x :: (Q ++ y :: S)).toArray[P.length]! = x := by simp
 have e2 : (P ++ x :: (Q ++ y :: S)).toArray[P.length + 1 + Q.length]! = y := by
  have : P ++ x :: (Q ++ y :: S) = (P ++ x :: Q) ++ y :: S := by simp
  rw [this]
  have : P.length + 1 + Q.length = (P ++ x :: Q).length := by simp; omega
  rw [this]
  simp
 rw [e1, e2]
 have : P ++ x :: (Q ++ y :: S) = P ++ x :: (Q ++ y :: S) := rfl
 simp [List.set_append, show P.length + 1 + Q.length - P.length = Q.length + 1 by omega, show ¬ (P.length + 1 + Q.length < P.length) by omega]
theorem swp_back {P Q S : List Six} {x y : Six} {i j : Nat} (hi : i = P.length) (hj : j = P.length + 1 + Q.length) : swp (P ++ x :: (Q ++ y :: S)).toArray j i = (P ++ y :: (Q ++ x :: S)).toArray := by
 have h := swp_list (P := P) (Q := Q) (S := S) (x := x) (y := y) hi hj
 rw [← h]
 have hs : i < (P ++ x :: (Q ++ y :: S)).toArray.size := by simp; omega
 unfold swp
 have hne : i ≠ j := by omega
 exact Array.setIfInBounds_comm _ _ (Ne.symm hne)
theorem getA {l : List Six} {i : Nat} (h : i < l.length) : l.toArray[i]! = l.getD i z6 := by
 rw [getElem!_pos _ _ (by simpa using h), List.getD_eq_getElem?_getD, List.getElem?_eq_getElem h]
 simp
theorem getD_mid {A B C : List Six} {i : Nat} (h : i < B.length) : (A ++ B ++ C).getD (A.length + i) z6 = B.getD i z6 := by
 rw [List.append_assoc, List.getD_eq_getElem?_getD, List.getD_eq_getElem?_getD, List.getElem?_append_right (by omega), show A.length + i - A.length = i by omega, List.getElem?_append_left h]
theorem take_succ_D {l : List Six} {i : Nat} (h : i < l.length) : l.take (i + 1) = l.take i ++ [l.getD i z6] := by
 rw [List.take_succ_eq_append_getElem h, List.getD_eq_getElem?_getD, List.getElem?_eq_getElem h]; rfl
theorem drop_cons_D {l : List Six} {i : Nat} (h : i < l.length) : l.drop i = l.getD i z6 :: l.drop (i + 1) := by
 rw [List.drop_eq_getElem_cons h, List.getD_eq_getElem?_getD, List.getElem?_eq_getElem h]; rfl
/-- While two ranges are exchanged. -/
def stg (pre X mid Y post : List Six) (i : Nat) : List Six := pre ++ (Y.take i ++ X.drop i) ++ mid ++ (X.take i ++ Y.drop i) ++ post
theorem stg_len {pre X mid Y post : List Six} (h : X.length = Y.length) {i : Nat} (hi : i ≤ X.length) : (stg pre X mid Y post i).length = (pre ++ X ++ mid ++ Y ++ post).length := by
 unfold stg
 simp only [List.length_append, List.length_take, List.length_drop]
 omega
theorem stg_zero (pre X mid Y post : List Six) : stg pre X mid Y post 0 = pre ++ X ++ mid ++ Y ++ post := by unfold stg; simp
theorem stg_end {pre X mid Y post : List Six} (h : X.length = Y.length) : stg pre X mid Y post X.length = pre ++ Y ++ mid ++ X ++ post := by
 unfold stg
 rw [List.take_of_length_le (Nat.le_refl _), List.drop_of_length_le (Nat.le_refl _), h, List.take_of_length_le (Nat.le_refl _), List.drop_of_length_le (Nat.le_refl _), List.append_nil, List.append_nil]
theorem stg_swp {pre X mid Y post : List Six} (h : X.length = Y.length) {i : Nat} (hi : i < X.length) : swp (stg pre X mid Y post i).toArray (pre.length + i) (pre.length + X.length + mid.length + i) = (stg pre X mid Y post (i + 1)).toArray := by
 have e : stg pre X mid Y post i = (pre ++ Y.take i) ++ X.getD i z6 :: ((X.drop (i + 1) ++ mid ++ X.take i) ++ Y.getD i z6 :: (Y.drop (i + 1) ++ post)) := by
  unfold stg
  rw [drop_cons_D hi, drop_cons_D (by omega : i < Y.length)]
  simp
 rw [e, swp_list (by simp; omega) (by simp; omega)]
 unfold stg
 rw [take_succ_D hi, take_succ_D (by omega : i < Y.length)]
 simp
end Go.Proofs.YtkoejeghihcmlaaGreat

namespace Go.Proofs.YtkoejeghihcmlaaGreat
open Go.RowKit Go.Shelf Go.Sort
abbrev SW (w0 : World) (g : Nat) (l : List Six) (W : World) : Prop := SWK scells 6 w0 g 0 l.toArray W
set_option maxRecDepth 1000000 in
set_option maxHeartbeats 4000000 in
theorem swapRange_any {w0 w : World} {g cap : Nat} {d0 : Array Six} {pre X mid Y post : List Six} (R : RowK scells 6 w0 g 0 d0) (hs : d0.size = (pre ++ X ++ mid ++ Y ++ post).length) (hXY : X.length = Y.length)
  (S : SW w0 g (pre ++ X ++ mid ++ Y ++ post) w) (hsz : d0.size < 1000000) {a b n : Nat} (ha : a = pre.length) (hb : b = pre.length + X.length + mid.length) (hn : n = X.length) :
  Calls Tryz.prog 238 #[.slice (some ⟨g, 0, none⟩) d0.size cap, .int .i64 a, .int .i64 b, .int .i64 n, .func (.func 161) #[] #[]] w fun e w' => e = .returned (.tuple #[]) ∧ SW w0 g (pre ++ Y ++ mid ++ X ++ post) w' := by
 have hL : (pre ++ X ++ mid ++ Y ++ post).length = pre.length + X.length + mid.length + X.length + post.length := by simp only [List.length_append]; omega
 have HS : Aside (∀ i, i ≤ n → (stg pre X mid Y post i).length = d0.size) := fun i hi => by rw [hs]; exact stg_len hXY (by omega)
 have HW : Aside (∀ i, i < n → swp (stg pre X mid Y post i).toArray (a + i) (b + i) = (stg pre X mid Y post (i + 1)).toArray) := fun i hi => by rw [ha, hb]; exact stg_swp hXY (by omega)
 have S0 : Aside (SW w0 g (stg pre X mid Y post 0) w) := by rw [stg_zero]; exact S
 have HE : Aside (stg pre X mid Y post n = pre ++ Y ++ mid ++ X ++ post) := by rw [hn]; exact stg_end hXY
 have hB : b + n ≤ d0.size := by omega
 have hab : a + n ≤ b := by omega
 obtain ⟨N, hN⟩ : ∃ N, d0.size = N := ⟨_, rfl⟩
 rw [hN] at hsz hB ⊢
 have HN : Aside (d0.size = N) := hN
 clear S hs ha hb hn hL hXY hN
 have aE := Tryz.isAgg103
 have zE := Tryz.sizeOf103
 have mixed : Tryz.prog.follows .mixedOrders = true := by kernel_rfl
 obtain ⟨T, hT⟩ : ∃ T, stg pre X mid Y post = T := ⟨_, rfl⟩
 rw [hT] at HS HW S0 HE
 clear hT
 go_enter Tryz.func238, Tryz.ntmps238
 go_wp2
 go_loopg [10] n (fun kx s wr => ∃ i : Nat, s = .int .i64 i ∧ i ≤ n ∧ n - i ≤ kx ∧ Aside (SW w0 g (T i) wr))
 case atStart => exact ⟨0, rfl, by omega, by omega, S0⟩
 case round =>
  clear S0
  obtain ⟨i, rfl, hi, hk, S1⟩ := hrel
  by_cases hlt : i < n
  ·have hltz : (i : Int) < (n : Int) := by omega
   go_wp2_with fail
   have hTi : (T i).toArray.size = d0.size := by rw [List.size_toArray]; exact HS.out i hi
   have ea : ((a : Int) + (i : Int)).toNat = a + i := by omega
   have pa : (0 : Int) ≤ (a : Int) + (i : Int) := by omega
   have ba : (a : Int) + (i : Int) < (N : Int) := by omega
   have ra : IntKind.i64.wrap ((a : Int) + (i : Int)) = (a : Int) + (i : Int) := by rw [IntKind.wrap_i64]; omega
   have ec : ((b : Int) + (i : Int)).toNat = b + i := by omega
   have pc : (0 : Int) ≤ (b : Int) + (i : Int) := by omega
   have bc : (b : Int) + (i : Int) < (N : Int) := by omega
   have rc : IntKind.i64.wrap ((b : Int) + (i : Int)) = (b : Int) + (i : Int) := by rw [IntKind.wrap_i64]; omega
   have hsz' := HN.out
   have S2 : Aside (SWK scells 6 w0 g 0 (swp (T i).toArray (a + i) (b + i)) ((wr.drew.setCells g (0 + (a + i) * 6) (scells (T i).toArray[b + i]!)).setCells g (0 + (b + i) * 6) (scells (T i).toArray[a + i]!))) := S1.out.swapped R (a + i) (b + i) (by omega) (by omega)
   have la := S1.out.ld1 R hTi Tryz.prog (a + i) (by omega)
   have lb := S1.out.ld1 R hTi Tryz.prog (b + i) (by omega)
   have sa := S1.out.st1 R hTi Tryz.prog (a + i) (by omega) (T i).toArray[b + i]!
   have sb := S1.out.st2 R hTi Tryz.prog (a + i) (b + i) (by omega) (by omega) (T i).toArray[b + i]! (T i).toArray[a + i]!
   have na : (scells (T i).toArray[a + i]!).length = 6 := R.hk _
   have nb : (scells (T i).toArray[b + i]!).length = 6 := R.hk _
   rw [HW.out i hlt] at S2
   generalize scells (T i).toArray[a + i]! = cA at S2 la sb na
   generalize scells (T i).toArray[b + i]! = cB at S2 lb sa sb nb
   simp only [Nat.zero_add] at S2 la lb sa sb
   clear S1 hTi hsz'
   obtain ⟨k6, hk6⟩ : ∃ k, (6 : Nat) = k := ⟨_, rfl⟩
   rw [hk6] at zE S2 la lb sa sb na nb
   go_big_region_o
   all_goals subst hk6
   all_goals clear la lb sa sb
   all_goals generalize (wr.drew.setCells g ((a + i) * 6) cB).setCells g ((b + i) * 6) cA = w2 at S2 ⊢
   all_goals go_wp2
   all_goals go_roundg (n - (i + 1))
   case measure => omega
   case rel => exact ⟨i + 1, by simp, by omega, Nat.le_refl _, S2⟩
  ·obtain rfl : i = n := by omega
   go_wp2
   go_end0
   refine ⟨rfl, ?_⟩
   rw [← HE.out]
   exact S1.out
theorem ncast {a b : Nat} (h : b ≤ a) : ((a - b : Nat) : Int) = (a : Int) - (b : Int) := by omega
set_option maxRecDepth 1000000 in
set_option maxHeartbeats 4000000 in
theorem rotate_any {w0 w : World} {g cap : Nat} {d0 : Array Six} {pre A B post : List Six} (R : RowK scells 6 w0 g 0 d0) (hs : d0.size = (pre ++ A ++ B ++ post).length) (hA : 0 < A.length) (hB : 0 < B.length)
  (S : SW w0 g (pre ++ A ++ B ++ post) w) (hsz : d0.size < 1000000) {a m b : Nat} (ha : a = pre.length) (hm : m = pre.length + A.length) (hb : b = pre.length + A.length + B.length) :
  Calls Tryz.prog 236 #[.slice (some ⟨g, 0, none⟩) d0.size cap, .int .i64 a, .int .i64 m, .int .i64 b, .func (.func 161) #[] #[]] w fun e w' => e = .returned (.tuple #[]) ∧ SW w0 g (pre ++ B ++ A ++ post) w' := by
 have hL : (pre ++ A ++ B ++ post).length = pre.length + A.length + B.length + post.length := by simp only [List.length_append]
 obtain ⟨N, hN⟩ : ∃ N, d0.size = N := ⟨_, rfl⟩
 have hN' : N < 1000000 := by omega
 have hbN : b ≤ N := by omega
 have HR : Aside (RowK scells 6 w0 g 0 d0) := R
 have HN : Aside (d0.size = N) := hN
 have HSZ : Aside (d0.size < 1000000) := hsz
 have S0 : Aside (SW w0 g (pre ++ A ++ B ++ post) w) := S
 have h1 : a < m := by omega
 have h2 : m < b := by omega
 obtain ⟨tgt, ht⟩ : ∃ tgt, pre ++ B ++ A ++ post = tgt := ⟨_, rfl⟩
 have I0 : Aside (A.length = m - a ∧ B.length = b - m ∧ pre.length + (m - a) = m ∧ pre ++ B ++ A ++ post = tgt ∧ (pre ++ A ++ B ++ post).length = d0.size) := ⟨by omega, by omega, by omega, ht, hs.symm⟩
 rw [hN, ht]
 clear R hN hsz S hs ha hm hb hL hA hB ht
 go_enter Tryz.func236, Tryz.ntmps236
 go_wp2
 go_loopg [10, 11] (b - a) (fun kx s t wr => ∃ (i j : Nat) (P X Y T : List Six), s = .int .i64 i ∧ t = .int .i64 j ∧ i ≤ m ∧ 0 < i ∧ 0 < j ∧ i + j ≤ kx ∧ m + j ≤ N ∧ Aside (X.length = i ∧ Y.length = j ∧ P.length + i = m ∧ P ++ Y ++ X ++ T = tgt ∧ (P ++ X ++ Y ++ T).length = d0.size) ∧ Aside (SW w0 g (P ++ X ++ Y ++ T) wr))
 case atStart => exact ⟨m - a, b - m, pre, A, B, post, by rw [ncast (by omega)], by rw [ncast (by omega)], by omega, by omega, by omega, by omega, by omega, I0, S0⟩
 case round =>
  clear S0 I0
  obtain ⟨i, j, P, X, Y, T, rfl, rfl, him, hi, hj, hk, hmj, I1, S1⟩ := hrel
  have ra : IntKind.i64.wrap ((m : Int) - (i : Int)) = (m : Int) - (i : Int) := by rw [IntKind.wrap_i64]; omega
  by_cases hij : i = j
  ·subst hij
   have T1 := swapRange_any (cap := cap) (w := wr) (pre := P) (X := X) (mid := []) (Y := Y) (post := T) (a := m - i) (b := m) (n := i) HR.out (by have := I1.out.2.2.2.2; rw [List.append_nil]; exact this.symm) (by have := I1.out; omega) (by rw [List.append_nil]; exact S1.out) HSZ.out (by have := I1.out; omega) (by have := I1.out; simp; omega) (by have := I1.out; omega)
   rw [HN.out, ncast him, List.append_nil] at T1
   have HT1 := Lib.hid T1
   clear T1
   have e1 : ((i : Int) != (i : Int)) = false := by simp
   go_wp2_with (go_at_call 238; go_loud ((with_reducible refine (HT1.out).mono ?_); rintro e w1 ⟨rfl, S2⟩))
   go_end0
   refine ⟨rfl, ?_⟩
   rw [← I1.out.2.2.2.1]
   exact S2
  ·have e1 : ((i : Int) != (j : Int)) = true := by simp; omega
   by_cases hlt : j < i
   ·have e2 : (j : Int) < (i : Int) := by omega
    have T1 := swapRange_any (cap := cap) (w := wr) (pre := P) (X := X.take j) (mid := X.drop j) (Y := Y) (post := T) (a := m - i) (b := m) (n := j) HR.out (by have := I1.out.2.2.2.2; rw [List.append_assoc P, List.take_append_drop]; exact this.symm) (by have := I1.out; rw [List.length_take]; omega) (by rw [List.append_assoc P, List.take_append_drop]; exact S1.out) HSZ.out (by have := I1.out; omega) (by have := I1.out; rw [List.length_take, List.length_drop]; omega) (by have := I1.out; rw [List.length_take]; omega)
    rw [HN.out, ncast him] at T1
    have HT1 := Lib.hid T1
    clear T1
    have rb : IntKind.i64.wrap ((i : Int) - (j : Int)) = (i : Int) - (j : Int) := by rw [IntKind.wrap_i64]; omega
    go_wp2_with (go_at_call 238; go_loud ((with_reducible refine (HT1.out).mono ?_); rintro e w1 ⟨rfl, S2⟩))
    go_roundg (i - j + j)
    case measure => omega
    case rel =>
     have h := I1.out
     refine ⟨i - j, j, P ++ Y, X.drop j, X.take j, T, by rw [ncast (by omega)], rfl, by omega, by omega, hj, Nat.le_refl _, hmj, ⟨by rw [List.length_drop]; omega, by rw [List.length_take]; omega, by rw [List.length_append]; omega, ?_, ?_⟩, S2⟩
     ·rw [← h.2.2.2.1, List.append_assoc (P ++ Y), List.take_append_drop]
     ·rw [← h.2.2.2.2]
      simp only [List.length_append, List.length_take, List.length_drop]
      omega
   ·have e2 : ¬ (j : Int) < (i : Int) := by omega
    have rc : IntKind.i64.wrap ((m : Int) + (j : Int)) = (m : Int) + (j : Int) := by rw [IntKind.wrap_i64]; omega
    have rd : IntKind.i64.wrap ((m : Int) + (j : Int) - (i : Int)) = (m : Int) + (j : Int) - (i : Int) := by rw [IntKind.wrap_i64]; omega
    have T1 := swapRange_any (cap := cap) (w := wr) (pre := P) (X := X) (mid := Y.take (j - i)) (Y := Y.drop (j - i)) (post := T) (a := m - i) (b := m + j - i) (n := i) HR.out (by have := I1.out.2.2.2.2; rw [List.append_assoc (P ++ X), List.take_append_drop]; exact this.symm) (by have := I1.out; rw [List.length_drop]; omega) (by rw [List.append_assoc (P ++ X), List.take_append_drop]; exact S1.out) HSZ.out (by have := I1.out; omega) (by have := I1.out; rw [List.length_take]; omega) (by have := I1.out; omega)
    rw [HN.out, ncast him, ncast (by omega : i ≤ m + j), Int.natCast_add] at T1
    have HT1 := Lib.hid T1
    clear T1
    have rb : IntKind.i64.wrap ((j : Int) - (i : Int)) = (j : Int) - (i : Int) := by rw [IntKind.wrap_i64]; omega
    go_wp2_with (go_at_call 238; go_loud ((with_reducible refine (HT1.out).mono ?_); rintro e w1 ⟨rfl, S2⟩))
    go_roundg (i + (j - i))
    case measure => omega
    case rel =>
     have h := I1.out
     refine ⟨i, j - i, P, Y.drop (j - i), Y.take (j - i), X ++ T, rfl, by rw [ncast (by omega)], him, hi, by omega, Nat.le_refl _, by omega, ⟨by rw [List.length_drop]; omega, by rw [List.length_take]; omega, by omega, ?_, ?_⟩, ?_⟩
     ·rw [← h.2.2.2.1, List.append_assoc P, List.take_append_drop, List.append_assoc, List.append_assoc, List.append_assoc]
     ·rw [← h.2.2.2.2]
      simp only [List.length_append, List.length_take, List.length_drop]
      omega
     ·rw [← List.append_assoc]
      exact S2
end Go.Proofs.YtkoejeghihcmlaaGreat

namespace Go.Proofs.YtkoejeghihcmlaaGreat
open Go.RowKit Go.Shelf Go.Sort
theorem cf_lt {x y : Six} : cfH x y < 0 ↔ x.b < y.b := by
 unfold cfH cmpI
 by_cases h : x.b < y.b
 ·rw [if_pos h]; simp [h]
 ·rw [if_neg h]
  split <;> simp [h]
theorem getR {pre L R post : List Six} {m b k : Nat} (hm : m = pre.length + L.length) (hb : b = pre.length + L.length + R.length) (h1 : m ≤ k) (h2 : k < b) : (pre ++ L ++ R ++ post).toArray[k]! = R.getD (k - m) z6 := by
 rw [getA (by simp only [List.length_append]; omega)]
 have := getD_mid (A := pre ++ L) (B := R) (C := post) (i := k - m) (by omega)
 rw [← this, List.length_append, show pre.length + L.length + (k - m) = k by omega]
theorem getL {pre L R post : List Six} {a m k : Nat} (ha : a = pre.length) (hm : m = pre.length + L.length) (h1 : a ≤ k) (h2 : k < m) : (pre ++ L ++ R ++ post).toArray[k]! = L.getD (k - a) z6 := by
 rw [getA (by simp only [List.length_append]; omega)]
 have := getD_mid (A := pre) (B := L) (C := R ++ post) (i := k - a) (by omega)
 rw [← this, show pre.length + (k - a) = k by omega, List.append_assoc (pre ++ L)]
/-- One element on its way to the right, to the left. -/
def mvR (pre : List Six) (x : Six) (R post : List Six) (t : Nat) : List Six := pre ++ (R.take t ++ x :: R.drop t) ++ post
theorem mvR_len {pre : List Six} {x : Six} {R post : List Six} (t : Nat) : (mvR pre x R post t).length = pre.length + 1 + R.length + post.length := by
 unfold mvR
 simp only [List.length_append, List.length_cons, List.length_take, List.length_drop]
 omega
theorem mvR_swp {pre : List Six} {x : Six} {R post : List Six} {t : Nat} (h : t < R.length) : swp (mvR pre x R post t).toArray (pre.length + t) (pre.length + t + 1) = (mvR pre x R post (t + 1)).toArray := by
 have e : mvR pre x R post t = (pre ++ R.take t) ++ x :: ([] ++ R.getD t z6 :: (R.drop (t + 1) ++ post)) := by
  unfold mvR
  rw [drop_cons_D h]
  simp
 rw [e, swp_list (by simp; omega) (by simp; omega)]
 unfold mvR
 rw [take_succ_D h]
 simp
theorem mvL_swp {pre : List Six} {x : Six} {R post : List Six} {t : Nat} (h : t < R.length) : swp (mvR pre x R post (t + 1)).toArray (pre.length + t + 1) (pre.length + t) = (mvR pre x R post t).toArray := by
 have e : mvR pre x R post (t + 1) = (pre ++ R.take t) ++ R.getD t z6 :: ([] ++ x :: (R.drop (t + 1) ++ post)) := by
  unfold mvR
  rw [take_succ_D h]
  simp
 rw [e, swp_back (by simp; omega) (by simp; omega)]
 unfold mvR
 rw [drop_cons_D h]
 simp
set_option maxRecDepth 1000000 in
set_option maxHeartbeats 8000000 in
theorem symLeft_any {w0 : World} {g cap : Nat} {d0 : Array Six} (R : RowK scells 6 w0 g 0 d0) (HCM : CmpLays Tryz.prog 161 #[] scells 6 cfH g 0 d0.size w0) (hsz : d0.size < 1000000) (pre : List Six) (x : Six) (Rr post : List Six) (w : World) {a m b : Nat}
  (hs : d0.size = (pre ++ [x] ++ Rr ++ post).length) (hRl : 0 < Rr.length) (hRs : LxS Rr) (hA : Ap [x] Rr) (S : SW w0 g (pre ++ [x] ++ Rr ++ post) w) (ha : a = pre.length) (hm : m = pre.length + 1) (hb : b = pre.length + 1 + Rr.length) :
  Calls Tryz.prog 229 #[.slice (some ⟨g, 0, none⟩) d0.size cap, .int .i64 a, .int .i64 m, .int .i64 b, .func (.func 161) #[] #[]] w fun e w' => e = .returned (.tuple #[]) ∧ ∃ Z, Mg [x] Rr Z ∧ SW w0 g (pre ++ Z ++ post) w' := by
 have hlen : (pre ++ [x] ++ Rr ++ post).length = pre.length + 1 + Rr.length + post.length := by simp only [List.length_append, List.length_singleton]
 obtain ⟨N, hN⟩ : ∃ N, d0.size = N := ⟨_, rfl⟩
 have hN' : N < 1000000 := by omega
 have hbN : b ≤ N := by omega
 have hmb : m < b := by omega
 have HAM : Aside (m = a + 1) := by show m = a + 1; omega
 have ham : a < m := by omega
 have HR : Aside (RowK scells 6 w0 g 0 d0) := R
 have HC : Aside (CmpLays Tryz.prog 161 #[] scells 6 cfH g 0 d0.size w0) := HCM
 have HN : Aside (d0.size = N) := hN
 obtain ⟨D, hD⟩ : ∃ D, pre ++ [x] ++ Rr ++ post = D := ⟨_, rfl⟩
 have HD : Aside (D.toArray.size = d0.size) := by rw [← hD, List.size_toArray]; exact hs.symm
 have HGX : Aside (D.toArray[a]! = x) := by rw [← hD]; exact getL (L := [x]) (k := a) ha (by simpa using hm) (Nat.le_refl _) (by omega) |>.trans (by simp)
 have HGR : Aside (∀ k, m ≤ k → k < b → D.toArray[k]! = Rr.getD (k - m) z6) := fun k h1 h2 => by rw [← hD]; exact getR (by simpa using hm) (by simpa using hb) h1 h2
 rw [hD] at S
 have S0 : Aside (SW w0 g D w) := S
 have HL : Aside (∀ t, t ≤ Rr.length → (mvR pre x Rr post t).toArray.size = d0.size) := fun t _ => by rw [List.size_toArray, mvR_len, hs, hlen]
 have HMV : Aside (D = mvR pre x Rr post 0 ∧ ∀ t, t < Rr.length → swp (mvR pre x Rr post t).toArray (a + t) (a + t + 1) = (mvR pre x Rr post (t + 1)).toArray) := ⟨by rw [← hD]; unfold mvR; simp, fun t ht => by rw [ha]; exact mvR_swp ht⟩
 have HMG : Aside (∀ j, j ≤ Rr.length → (0 < j → (Rr.getD (j - 1) z6).b < x.b) → (j < Rr.length → x.b ≤ (Rr.getD j z6).b) → Mg [x] Rr (Rr.take j ++ x :: Rr.drop j)) := fun j hj h1 h2 => mg_one_left hRs hA hj h1 h2
 have HRB : Aside (Rr.length = b - m) := by show Rr.length = b - m; omega
 rw [hN]
 clear R HCM hN hsz S hs hlen hD hRs hA ha hb hRl hm
 obtain ⟨mv, hmv⟩ : ∃ f, mvR pre x Rr post = f := ⟨_, rfl⟩
 rw [hmv] at HL HMV
 have HE : Aside (∀ t, mv t = pre ++ (Rr.take t ++ x :: Rr.drop t) ++ post) := fun t => by rw [← hmv]; rfl
 clear hmv
 have e0 : ((m : Int) - (a : Int) == 1) = true := by have := HAM.out; simp; omega
 have e0w : IntKind.i64.wrap ((m : Int) - (a : Int)) = (m : Int) - (a : Int) := by rw [IntKind.wrap_i64]; omega
 go_enter Tryz.func229, Tryz.ntmps229
 go_wp2
 go_loopg [10, 11] (b - m) (fun kx s t wr => ∃ i j : Nat, s = .int .i64 i ∧ t = .int .i64 j ∧ m ≤ i ∧ i ≤ j ∧ j ≤ b ∧ j - i ≤ kx ∧ Aside ((m < i → (Rr.getD (i - m - 1) z6).b < x.b) ∧ (j < b → x.b ≤ (Rr.getD (j - m) z6).b)) ∧ Aside (SW w0 g D wr))
 case atStart => exact ⟨m, b, rfl, rfl, Nat.le_refl _, by omega, Nat.le_refl _, by omega, ⟨fun h => absurd h (Nat.lt_irrefl _), fun h => absurd h (Nat.lt_irrefl _)⟩, S0⟩
 case round =>
  clear S0
  obtain ⟨i, j, rfl, rfl, hi, hij, hj, hk, I1, S1⟩ := hrel
  by_cases hlt : i < j
  ·have hltz : (i : Int) < (j : Int) := by omega
   obtain ⟨h, hh⟩ : ∃ h, (i + j) / 2 = h := ⟨_, rfl⟩
   have h1 : i ≤ h := by omega
   have h2 : h < j := by omega
   have hhi : ((i : Int) + (j : Int)) / 2 = (h : Int) := by omega
   have hhw : IntKind.i64.wrap ((i : Int) + (j : Int)) = (i : Int) + (j : Int) := by rw [IntKind.wrap_i64]; omega
   obtain ⟨y, hy⟩ : ∃ y, Rr.getD (h - m) z6 = y := ⟨_, rfl⟩
   have hx7 : D.toArray[h]! = y := by rw [HGR.out h (by omega) (by omega)]; exact hy
   have hy7 : D.toArray[a]! = x := HGX.out
   have HY : Aside (Rr.getD (h - m) z6 = y) := hy
   clear hy hh
   by_cases hb7 : y.b < x.b
   ·have HB : Aside (y.b < x.b) := hb7
    have e7a : ((h : Int)).toNat = h := by omega
    have p7a : (0 : Int) ≤ (h : Int) := by omega
    have q7a : (h : Int) < (N : Int) := by omega
    have r7a : IntKind.i64.wrap ((h : Int)) = (h : Int) := by rw [IntKind.wrap_i64]; omega
    have e7b : ((a : Int)).toNat = a := by omega
    have p7b : (0 : Int) ≤ (a : Int) := by omega
    have q7b : (a : Int) < (N : Int) := by omega
    have r7b : IntKind.i64.wrap ((a : Int)) = (a : Int) := by rw [IntKind.wrap_i64]; omega
    have l7a := S1.out.ld HR.out HD.out Tryz.prog (h) (by have := HD.out; have := HN.out; omega)
    have l7b := S1.out.ld HR.out HD.out Tryz.prog (a) (by have := HD.out; have := HN.out; omega)
    rw [hx7] at l7a
    rw [hy7] at l7b
    have c7 := S1.out.cmp HC.out HD.out y x
    rw [show #[Value.agg (scells y).toArray, Value.agg (scells x).toArray] ++ #[] = #[Value.agg (scells y).toArray, Value.agg (scells x).toArray] from rfl] at c7
    obtain ⟨v7, hv7⟩ : ∃ c, cfH y x = c := ⟨_, rfl⟩
    rw [hv7] at c7
    have z7 : v7 < 0 := by rw [← hv7, cf_lt]; exact hb7
    have d7 : decide (v7 < 0) = true := decide_eq_true z7
    clear hx7 hy7 hv7 hb7
    simp only [Nat.zero_add] at l7a l7b
    have aE := Tryz.isAgg103
    have zE := Tryz.sizeOf103
    have mixed : Tryz.prog.follows .mixedOrders = true := by kernel_rfl
    obtain ⟨k6, hk6⟩ : ∃ k, (6 : Nat) = k := ⟨_, rfl⟩
    rw [hk6] at zE l7a l7b
    have HK6 : Aside ((6 : Nat) = k6) := hk6
    clear hk6
    go_wp2_with fail
    refine wp_region_quiet_grown (by assumption) (by kernel_rfl) ?_
    repeat (go_big_quiet_step ((go_at_call 161; exact Calls.grown_of (c7 _ _))))
    refine wpQuiet_nil ?_
    intro _ hw'
    obtain ⟨⟨nq, osq⟩, hw''⟩ := hw'
    subst hw''
    have S2 : Aside (SWK scells 6 w0 g 0 D.toArray (grow (wr.drewN nq) osq)) := S1.out.grown nq osq
    clear l7a l7b c7 S1 zE aE mixed
    obtain rfl := HK6.out
    generalize grow (wr.drewN nq) osq = w2 at S2 ⊢
    clear nq osq
    go_wp2_with fail
    go_roundg (j - (h + 1))
    case measure => omega
    case rel => exact ⟨h + 1, j, by go_num, rfl, by omega, by omega, hj, Nat.le_refl _, ⟨fun _ => by rw [show h + 1 - m - 1 = h - m by omega, HY.out]; exact HB.out, I1.out.2⟩, S2⟩
   ·have HB : Aside (¬ y.b < x.b) := hb7
    have e7a : ((h : Int)).toNat = h := by omega
    have p7a : (0 : Int) ≤ (h : Int) := by omega
    have q7a : (h : Int) < (N : Int) := by omega
    have r7a : IntKind.i64.wrap ((h : Int)) = (h : Int) := by rw [IntKind.wrap_i64]; omega
    have e7b : ((a : Int)).toNat = a := by omega
    have p7b : (0 : Int) ≤ (a : Int) := by omega
    have q7b : (a : Int) < (N : Int) := by omega
    have r7b : IntKind.i64.wrap ((a : Int)) = (a : Int) := by rw [IntKind.wrap_i64]; omega
    have l7a := S1.out.ld HR.out HD.out Tryz.prog (h) (by have := HD.out; have := HN.out; omega)
    have l7b := S1.out.ld HR.out HD.out Tryz.prog (a) (by have := HD.out; have := HN.out; omega)
    rw [hx7] at l7a
    rw [hy7] at l7b
    have c7 := S1.out.cmp HC.out HD.out y x
    rw [show #[Value.agg (scells y).toArray, Value.agg (scells x).toArray] ++ #[] = #[Value.agg (scells y).toArray, Value.agg (scells x).toArray] from rfl] at c7
    obtain ⟨v7, hv7⟩ : ∃ c, cfH y x = c := ⟨_, rfl⟩
    rw [hv7] at c7
    have z7 : ¬ v7 < 0 := by rw [← hv7, cf_lt]; exact hb7
    have d7 : decide (v7 < 0) = false := decide_eq_false z7
    clear hx7 hy7 hv7 hb7
    simp only [Nat.zero_add] at l7a l7b
    have aE := Tryz.isAgg103
    have zE := Tryz.sizeOf103
    have mixed : Tryz.prog.follows .mixedOrders = true := by kernel_rfl
    obtain ⟨k6, hk6⟩ : ∃ k, (6 : Nat) = k := ⟨_, rfl⟩
    rw [hk6] at zE l7a l7b
    have HK6 : Aside ((6 : Nat) = k6) := hk6
    clear hk6
    go_wp2_with fail
    refine wp_region_quiet_grown (by assumption) (by kernel_rfl) ?_
    repeat (go_big_quiet_step ((go_at_call 161; exact Calls.grown_of (c7 _ _))))
    refine wpQuiet_nil ?_
    intro _ hw'
    obtain ⟨⟨nq, osq⟩, hw''⟩ := hw'
    subst hw''
    have S2 : Aside (SWK scells 6 w0 g 0 D.toArray (grow (wr.drewN nq) osq)) := S1.out.grown nq osq
    clear l7a l7b c7 S1 zE aE mixed
    obtain rfl := HK6.out
    generalize grow (wr.drewN nq) osq = w2 at S2 ⊢
    clear nq osq
    go_wp2_with fail
    go_roundg (h - i)
    case measure => omega
    case rel => exact ⟨i, h, rfl, rfl, hi, h1, by omega, Nat.le_refl _, ⟨I1.out.1, fun _ => by rw [HY.out]; exact (by have := HB.out; omega)⟩, S2⟩
  ·obtain rfl : i = j := by omega
   have hwi : IntKind.i64.wrap ((i : Int) - 1) = (i : Int) - 1 := by rw [IntKind.wrap_i64]; omega
   have S1 : Aside (SW w0 g (mv 0) wr) := by rw [← HMV.out.1]; exact S1.out
   go_wp2
   go_loopg [13] (i - m) (fun kx s wr => ∃ t : Nat, s = .int .i64 ((a : Int) + (t : Int)) ∧ t ≤ i - m ∧ i - m - t ≤ kx ∧ Aside (SW w0 g (mv t) wr))
   case atStart => exact ⟨0, by simp, Nat.zero_le _, Nat.le_refl _, S1⟩
   case round =>
    clear S1
    obtain ⟨t, rfl, ht, hkt, S1⟩ := hrel
    by_cases hlt2 : t < i - m
    ·have hltz2 : (a : Int) + (t : Int) < (i : Int) - 1 := by omega
     have e8a : ((a : Int) + (t : Int)).toNat = a + t := by omega
     have p8a : (0 : Int) ≤ (a : Int) + (t : Int) := by omega
     have q8a : (a : Int) + (t : Int) < (N : Int) := by omega
     have r8a : IntKind.i64.wrap ((a : Int) + (t : Int)) = (a : Int) + (t : Int) := by rw [IntKind.wrap_i64]; omega
     have e8b : ((a : Int) + (t : Int) + 1).toNat = a + t + 1 := by omega
     have p8b : (0 : Int) ≤ (a : Int) + (t : Int) + 1 := by omega
     have q8b : (a : Int) + (t : Int) + 1 < (N : Int) := by omega
     have r8b : IntKind.i64.wrap ((a : Int) + (t : Int) + 1) = (a : Int) + (t : Int) + 1 := by rw [IntKind.wrap_i64]; omega
     have hT8 : (mv t).toArray.size = d0.size := HL.out _ (by have := HRB.out; omega)
     have hZ8 := HN.out
     have S2 : Aside (SWK scells 6 w0 g 0 (swp (mv t).toArray (a + t) (a + t + 1)) ((wr.drew.setCells g (0 + (a + t) * 6) (scells (mv t).toArray[a + t + 1]!)).setCells g (0 + (a + t + 1) * 6) (scells (mv t).toArray[a + t]!))) := S1.out.swapped HR.out (a + t) (a + t + 1) (by omega) (by omega)
     have l8a := S1.out.ld1 HR.out hT8 Tryz.prog (a + t) (by omega)
     have l8b := S1.out.ld1 HR.out hT8 Tryz.prog (a + t + 1) (by omega)
     have s8a := S1.out.st1 HR.out hT8 Tryz.prog (a + t) (by omega) (mv t).toArray[a + t + 1]!
     have s8b := S1.out.st2 HR.out hT8 Tryz.prog (a + t) (a + t + 1) (by omega) (by omega) (mv t).toArray[a + t + 1]! (mv t).toArray[a + t]!
     have n8a : (scells (mv t).toArray[a + t]!).length = 6 := HR.out.hk _
     have n8b : (scells (mv t).toArray[a + t + 1]!).length = 6 := HR.out.hk _
     rw [HMV.out.2 t (by have := HRB.out; omega)] at S2
     generalize scells (mv t).toArray[a + t]! = cA at S2 l8a s8b n8a
     generalize scells (mv t).toArray[a + t + 1]! = cB at S2 l8b s8a s8b n8b
     clear S1 hT8 hZ8
     simp only [Nat.zero_add] at S2 l8a l8b s8a s8b
     have aE := Tryz.isAgg103
     have zE := Tryz.sizeOf103
     have mixed : Tryz.prog.follows .mixedOrders = true := by kernel_rfl
     obtain ⟨k6, hk6⟩ : ∃ k, (6 : Nat) = k := ⟨_, rfl⟩
     rw [hk6] at zE S2 l8a l8b s8a s8b n8a n8b
     have HK6 : Aside ((6 : Nat) = k6) := hk6
     clear hk6
     go_wp2_with fail
     go_big_region_o
     all_goals obtain rfl := HK6.out
     all_goals clear l8a l8b s8a s8b
     all_goals generalize (wr.drew.setCells g ((a + t) * 6) cB).setCells g ((a + t + 1) * 6) cA = w2 at S2 ⊢
     all_goals go_wp2
     all_goals go_roundg (i - m - (t + 1))
     case measure => omega
     case rel => exact ⟨t + 1, by simp; omega, by omega, Nat.le_refl _, S2⟩
    ·have HTE : Aside (t = i - m) := by show t = i - m; omega
     have hltz2 : ¬ (a : Int) + (t : Int) < (i : Int) - 1 := by have := HAM.out; omega
     go_wp2
     (try simp only [Exit.inBlock, Exit.then]); refine bodyPost_ret (results_none rfl _ _ _) rfl ?_
     refine ⟨rfl, _, HMG.out (i - m) (by have := HRB.out; omega) (fun h => I1.out.1 (by omega)) (fun h => I1.out.2 (by have := HRB.out; omega)), ?_⟩
     have hx := S1.out
     rw [HTE.out, HE.out] at hx
     simpa only [List.append_assoc] using hx
set_option maxRecDepth 1000000 in
set_option maxHeartbeats 8000000 in
theorem symRight_any {w0 : World} {g cap : Nat} {d0 : Array Six} (R : RowK scells 6 w0 g 0 d0) (HCM : CmpLays Tryz.prog 161 #[] scells 6 cfH g 0 d0.size w0) (hsz : d0.size < 1000000) (pre L : List Six) (y : Six) (post : List Six) (w : World) {a m b : Nat}
  (hs : d0.size = (pre ++ L ++ [y] ++ post).length) (hLl : 1 < L.length) (hLs : LxS L) (hA : Ap L [y]) (S : SW w0 g (pre ++ L ++ [y] ++ post) w) (ha : a = pre.length) (hm : m = pre.length + L.length) (hb : b = pre.length + L.length + 1) :
  Calls Tryz.prog 229 #[.slice (some ⟨g, 0, none⟩) d0.size cap, .int .i64 a, .int .i64 m, .int .i64 b, .func (.func 161) #[] #[]] w fun e w' => e = .returned (.tuple #[]) ∧ ∃ Z, Mg L [y] Z ∧ SW w0 g (pre ++ Z ++ post) w' := by
 have hlen : (pre ++ L ++ [y] ++ post).length = pre.length + L.length + 1 + post.length := by simp only [List.length_append, List.length_singleton]
 obtain ⟨N, hN⟩ : ∃ N, d0.size = N := ⟨_, rfl⟩
 have hN' : N < 1000000 := by omega
 have hbN : b ≤ N := by omega
 have ham : a + 1 < m := by omega
 have HMB : Aside (b = m + 1) := by show b = m + 1; omega
 have hmb : m < b := by omega
 have HR : Aside (RowK scells 6 w0 g 0 d0) := R
 have HC : Aside (CmpLays Tryz.prog 161 #[] scells 6 cfH g 0 d0.size w0) := HCM
 have HN : Aside (d0.size = N) := hN
 obtain ⟨D, hD⟩ : ∃ D, pre ++ L ++ [y] ++ post = D := ⟨_, rfl⟩
 have HD : Aside (D.toArray.size = d0.size) := by rw [← hD, List.size_toArray]; exact hs.symm
 have HGY : Aside (D.toArray[m]! = y) := by rw [← hD]; exact (getR (R := [y]) (k := m) hm (b := b) (by simpa using hb) (Nat.le_refl _) (by omega)).trans (by simp)
 have HGL : Aside (∀ k, a ≤ k → k < m → D.toArray[k]! = L.getD (k - a) z6) := fun k h1 h2 => by rw [← hD]; exact getL ha hm h1 h2
 rw [hD] at S
 have S0 : Aside (SW w0 g D w) := S
 have HL : Aside (∀ t, t ≤ L.length → (mvR pre y L post t).toArray.size = d0.size) := fun t _ => by rw [List.size_toArray, mvR_len, hs, hlen]; omega
 have HMV : Aside (D = mvR pre y L post L.length ∧ ∀ t, t < L.length → swp (mvR pre y L post (t + 1)).toArray (a + (t + 1)) (a + t) = (mvR pre y L post t).toArray) := ⟨by rw [← hD]; unfold mvR; simp, fun t ht => by rw [ha]; exact mvL_swp ht⟩
 have HMG : Aside (∀ i, i ≤ L.length → (0 < i → (L.getD (i - 1) z6).b ≤ y.b) → (i < L.length → y.b < (L.getD i z6).b) → Mg L [y] (L.take i ++ y :: L.drop i)) := fun j hj h1 h2 => mg_one_right hLs hA hj h1 h2
 have HRB : Aside (L.length = m - a) := by show L.length = m - a; omega
 rw [hN]
 rw [HRB.out] at HMV
 clear R HCM hN hsz S hs hlen hD hLs hA ha hb hLl hm
 obtain ⟨mv, hmv⟩ : ∃ f, mvR pre y L post = f := ⟨_, rfl⟩
 rw [hmv] at HL HMV
 have HE : Aside (∀ t, mv t = pre ++ (L.take t ++ y :: L.drop t) ++ post) := fun t => by rw [← hmv]; rfl
 clear hmv
 have e0 : ((m : Int) - (a : Int) == 1) = false := by simp; omega
 have e0w : IntKind.i64.wrap ((m : Int) - (a : Int)) = (m : Int) - (a : Int) := by rw [IntKind.wrap_i64]; omega
 have e1 : ((b : Int) - (m : Int) == 1) = true := by have := HMB.out; simp; omega
 have e1w : IntKind.i64.wrap ((b : Int) - (m : Int)) = (b : Int) - (m : Int) := by rw [IntKind.wrap_i64]; omega
 go_enter Tryz.func229, Tryz.ntmps229
 go_wp2
 go_loopg [14, 15] (m - a) (fun kx s t wr => ∃ i j : Nat, s = .int .i64 i ∧ t = .int .i64 j ∧ a ≤ i ∧ i ≤ j ∧ j ≤ m ∧ j - i ≤ kx ∧ Aside ((a < i → (L.getD (i - a - 1) z6).b ≤ y.b) ∧ (j < m → y.b < (L.getD (j - a) z6).b)) ∧ Aside (SW w0 g D wr))
 case atStart => exact ⟨a, m, rfl, rfl, Nat.le_refl _, by omega, Nat.le_refl _, by omega, ⟨fun h => absurd h (Nat.lt_irrefl _), fun h => absurd h (Nat.lt_irrefl _)⟩, S0⟩
 case round =>
  clear S0
  obtain ⟨i, j, rfl, rfl, hi, hij, hj, hk, I1, S1⟩ := hrel
  by_cases hlt : i < j
  ·have hltz : (i : Int) < (j : Int) := by omega
   obtain ⟨h, hh⟩ : ∃ h, (i + j) / 2 = h := ⟨_, rfl⟩
   have h1 : i ≤ h := by omega
   have h2 : h < j := by omega
   have hhi : ((i : Int) + (j : Int)) / 2 = (h : Int) := by omega
   have hhw : IntKind.i64.wrap ((i : Int) + (j : Int)) = (i : Int) + (j : Int) := by rw [IntKind.wrap_i64]; omega
   obtain ⟨x, hx⟩ : ∃ x, L.getD (h - a) z6 = x := ⟨_, rfl⟩
   have hx7 : D.toArray[m]! = y := HGY.out
   have hy7 : D.toArray[h]! = x := by rw [HGL.out h (by omega) (by omega)]; exact hx
   have HX : Aside (L.getD (h - a) z6 = x) := hx
   clear hx hh
   by_cases hb7 : y.b < x.b
   ·have HB : Aside (y.b < x.b) := hb7
    have e7a : ((m : Int)).toNat = m := by omega
    have p7a : (0 : Int) ≤ (m : Int) := by omega
    have q7a : (m : Int) < (N : Int) := by omega
    have r7a : IntKind.i64.wrap ((m : Int)) = (m : Int) := by rw [IntKind.wrap_i64]; omega
    have e7b : ((h : Int)).toNat = h := by omega
    have p7b : (0 : Int) ≤ (h : Int) := by omega
    have q7b : (h : Int) < (N : Int) := by omega
    have r7b : IntKind.i64.wrap ((h : Int)) = (h : Int) := by rw [IntKind.wrap_i64]; omega
    have l7a := S1.out.ld HR.out HD.out Tryz.prog (m) (by have := HD.out; have := HN.out; omega)
    have l7b := S1.out.ld HR.out HD.out Tryz.prog (h) (by have := HD.out; have := HN.out; omega)
    rw [hx7] at l7a
    rw [hy7] at l7b
    have c7 := S1.out.cmp HC.out HD.out y x
    rw [show #[Value.agg (scells y).toArray, Value.agg (scells x).toArray] ++ #[] = #[Value.agg (scells y).toArray, Value.agg (scells x).toArray] from rfl] at c7
    obtain ⟨v7, hv7⟩ : ∃ c, cfH y x = c := ⟨_, rfl⟩
    rw [hv7] at c7
    have z7 : v7 < 0 := by rw [← hv7, cf_lt]; exact hb7
    have d7 : decide (v7 < 0) = true := decide_eq_true z7
    clear hx7 hy7 hv7 hb7
    simp only [Nat.zero_add] at l7a l7b
    have aE := Tryz.isAgg103
    have zE := Tryz.sizeOf103
    have mixed : Tryz.prog.follows .mixedOrders = true := by kernel_rfl
    obtain ⟨k6, hk6⟩ : ∃ k, (6 : Nat) = k := ⟨_, rfl⟩
    rw [hk6] at zE l7a l7b
    have HK6 : Aside ((6 : Nat) = k6) := hk6
    clear hk6
    go_wp2_with fail
    refine wp_region_quiet_grown (by assumption) (by kernel_rfl) ?_
    repeat (go_big_quiet_step ((go_at_call 161; exact Calls.grown_of (c7 _ _))))
    refine wpQuiet_nil ?_
    intro _ hw'
    obtain ⟨⟨nq, osq⟩, hw''⟩ := hw'
    subst hw''
    have S2 : Aside (SWK scells 6 w0 g 0 D.toArray (grow (wr.drewN nq) osq)) := S1.out.grown nq osq
    clear l7a l7b c7 S1 zE aE mixed
    obtain rfl := HK6.out
    generalize grow (wr.drewN nq) osq = w2 at S2 ⊢
    clear nq osq
    go_wp2_with fail
    go_roundg (h - i)
    case measure => omega
    case rel => exact ⟨i, h, rfl, rfl, hi, h1, by omega, Nat.le_refl _, ⟨I1.out.1, fun _ => by rw [HX.out]; exact HB.out⟩, S2⟩
   ·have HB : Aside (¬ y.b < x.b) := hb7
    have e7a : ((m : Int)).toNat = m := by omega
    have p7a : (0 : Int) ≤ (m : Int) := by omega
    have q7a : (m : Int) < (N : Int) := by omega
    have r7a : IntKind.i64.wrap ((m : Int)) = (m : Int) := by rw [IntKind.wrap_i64]; omega
    have e7b : ((h : Int)).toNat = h := by omega
    have p7b : (0 : Int) ≤ (h : Int) := by omega
    have q7b : (h : Int) < (N : Int) := by omega
    have r7b : IntKind.i64.wrap ((h : Int)) = (h : Int) := by rw [IntKind.wrap_i64]; omega
    have l7a := S1.out.ld HR.out HD.out Tryz.prog (m) (by have := HD.out; have := HN.out; omega)
    have l7b := S1.out.ld HR.out HD.out Tryz.prog (h) (by have := HD.out; have := HN.out; omega)
    rw [hx7] at l7a
    rw [hy7] at l7b
    have c7 := S1.out.cmp HC.out HD.out y x
    rw [show #[Value.agg (scells y).toArray, Value.agg (scells x).toArray] ++ #[] = #[Value.agg (scells y).toArray, Value.agg (scells x).toArray] from rfl] at c7
    obtain ⟨v7, hv7⟩ : ∃ c, cfH y x = c := ⟨_, rfl⟩
    rw [hv7] at c7
    have z7 : ¬ v7 < 0 := by rw [← hv7, cf_lt]; exact hb7
    have d7 : decide (v7 < 0) = false := decide_eq_false z7
    clear hx7 hy7 hv7 hb7
    simp only [Nat.zero_add] at l7a l7b
    have aE := Tryz.isAgg103
    have zE := Tryz.sizeOf103
    have mixed : Tryz.prog.follows .mixedOrders = true := by kernel_rfl
    obtain ⟨k6, hk6⟩ : ∃ k, (6 : Nat) = k := ⟨_, rfl⟩
    rw [hk6] at zE l7a l7b
    have HK6 : Aside ((6 : Nat) = k6) := hk6
    clear hk6
    go_wp2_with fail
    refine wp_region_quiet_grown (by assumption) (by kernel_rfl) ?_
    repeat (go_big_quiet_step ((go_at_call 161; exact Calls.grown_of (c7 _ _))))
    refine wpQuiet_nil ?_
    intro _ hw'
    obtain ⟨⟨nq, osq⟩, hw''⟩ := hw'
    subst hw''
    have S2 : Aside (SWK scells 6 w0 g 0 D.toArray (grow (wr.drewN nq) osq)) := S1.out.grown nq osq
    clear l7a l7b c7 S1 zE aE mixed
    obtain rfl := HK6.out
    generalize grow (wr.drewN nq) osq = w2 at S2 ⊢
    clear nq osq
    go_wp2_with fail
    go_roundg (j - (h + 1))
    case measure => omega
    case rel => exact ⟨h + 1, j, by go_num, rfl, by omega, by omega, hj, Nat.le_refl _, ⟨fun _ => by rw [show h + 1 - a - 1 = h - a by omega, HX.out]; exact (by have := HB.out; omega), I1.out.2⟩, S2⟩
  ·obtain rfl : i = j := by omega
   have S1 : Aside (SW w0 g (mv (m - a)) wr) := by rw [← HMV.out.1]; exact S1.out
   go_wp2
   go_loopg [17] (m - i) (fun kx s wr => ∃ t : Nat, s = .int .i64 ((a : Int) + (t : Int)) ∧ i - a ≤ t ∧ t ≤ m - a ∧ t - (i - a) ≤ kx ∧ Aside (SW w0 g (mv t) wr))
   case atStart => exact ⟨m - a, by congr 1; omega, by omega, Nat.le_refl _, by omega, S1⟩
   case round =>
    clear S1
    obtain ⟨t, rfl, ht, htm, hkt, S1⟩ := hrel
    by_cases hlt2 : i - a < t
    ·obtain ⟨s, rfl⟩ : ∃ s, t = s + 1 := ⟨t - 1, by omega⟩
     have hltz2 : (i : Int) < (a : Int) + ((s + 1 : Nat) : Int) := by omega
     have hc2 : (a : Int) + ((s + 1 : Nat) : Int) - 1 = (a : Int) + (s : Int) := by omega
     have e8a : ((a : Int) + ((s + 1 : Nat) : Int)).toNat = a + (s + 1) := by omega
     have p8a : (0 : Int) ≤ (a : Int) + ((s + 1 : Nat) : Int) := by omega
     have q8a : (a : Int) + ((s + 1 : Nat) : Int) < (N : Int) := by omega
     have r8a : IntKind.i64.wrap ((a : Int) + ((s + 1 : Nat) : Int)) = (a : Int) + ((s + 1 : Nat) : Int) := by rw [IntKind.wrap_i64]; omega
     have e8b : ((a : Int) + ((s + 1 : Nat) : Int) - 1).toNat = a + s := by omega
     have p8b : (0 : Int) ≤ (a : Int) + ((s + 1 : Nat) : Int) - 1 := by omega
     have q8b : (a : Int) + ((s + 1 : Nat) : Int) - 1 < (N : Int) := by omega
     have r8b : IntKind.i64.wrap ((a : Int) + ((s + 1 : Nat) : Int) - 1) = (a : Int) + ((s + 1 : Nat) : Int) - 1 := by rw [IntKind.wrap_i64]; omega
     have hT8 : (mv (s + 1)).toArray.size = d0.size := HL.out _ (by have := HRB.out; omega)
     have hZ8 := HN.out
     have S2 : Aside (SWK scells 6 w0 g 0 (swp (mv (s + 1)).toArray (a + (s + 1)) (a + s)) ((wr.drew.setCells g (0 + (a + (s + 1)) * 6) (scells (mv (s + 1)).toArray[a + s]!)).setCells g (0 + (a + s) * 6) (scells (mv (s + 1)).toArray[a + (s + 1)]!))) := S1.out.swapped HR.out (a + (s + 1)) (a + s) (by omega) (by omega)
     have l8a := S1.out.ld1 HR.out hT8 Tryz.prog (a + (s + 1)) (by omega)
     have l8b := S1.out.ld1 HR.out hT8 Tryz.prog (a + s) (by omega)
     have s8a := S1.out.st1 HR.out hT8 Tryz.prog (a + (s + 1)) (by omega) (mv (s + 1)).toArray[a + s]!
     have s8b := S1.out.st2 HR.out hT8 Tryz.prog (a + (s + 1)) (a + s) (by omega) (by omega) (mv (s + 1)).toArray[a + s]! (mv (s + 1)).toArray[a + (s + 1)]!
     have n8a : (scells (mv (s + 1)).toArray[a + (s + 1)]!).length = 6 := HR.out.hk _
     have n8b : (scells (mv (s + 1)).toArray[a + s]!).length = 6 := HR.out.hk _
     rw [HMV.out.2 s (by have := HRB.out; omega)] at S2
     generalize scells (mv (s + 1)).toArray[a + (s + 1)]! = cA at S2 l8a s8b n8a
     generalize scells (mv (s + 1)).toArray[a + s]! = cB at S2 l8b s8a s8b n8b
     clear S1 hT8 hZ8
     simp only [Nat.zero_add] at S2 l8a l8b s8a s8b
     have aE := Tryz.isAgg103
     have zE := Tryz.sizeOf103
     have mixed : Tryz.prog.follows .mixedOrders = true := by kernel_rfl
     obtain ⟨k6, hk6⟩ : ∃ k, (6 : Nat) = k := ⟨_, rfl⟩
     rw [hk6] at zE S2 l8a l8b s8a s8b n8a n8b
     have HK6 : Aside ((6 : Nat) = k6) := hk6
     clear hk6
     go_wp2_with fail
     go_big_region_o
     all_goals obtain rfl := HK6.out
     all_goals clear l8a l8b s8a s8b
     all_goals generalize (wr.drew.setCells g ((a + (s + 1)) * 6) cB).setCells g ((a + s) * 6) cA = w2 at S2 ⊢
     all_goals go_wp2
     all_goals go_roundg (s - (i - a))
     case measure => omega
     case rel => exact ⟨s, by simp; omega, by omega, by omega, Nat.le_refl _, S2⟩
    ·have HTE : Aside (t = i - a) := by show t = i - a; omega
     have hltz2 : ¬ (i : Int) < (a : Int) + (t : Int) := by omega
     go_wp2
     (try simp only [Exit.inBlock, Exit.then]); refine bodyPost_ret (results_none rfl _ _ _) rfl ?_
     refine ⟨rfl, _, HMG.out (i - a) (by have := HRB.out; omega) (fun h => I1.out.1 (by omega)) (fun h => I1.out.2 (by have := HRB.out; omega)), ?_⟩
     have hx := S1.out
     rw [HTE.out, HE.out] at hx
     simpa only [List.append_assoc] using hx
end Go.Proofs.YtkoejeghihcmlaaGreat

namespace Go.Proofs.YtkoejeghihcmlaaGreat
open Go.RowKit Go.Shelf Go.Sort
/-- What symMerge does with a list. -/
def SymDoes (w0 : World) (g cap : Nat) (d0 : Array Six) (N : Nat) : Prop :=
 ∀ (pre L Rr post : List Six) (w : World) (a m b : Nat), d0.size = (pre ++ L ++ Rr ++ post).length → 0 < L.length → 0 < Rr.length → L.length + Rr.length ≤ N → LxS L → LxS Rr → Ap L Rr → SW w0 g (pre ++ L ++ Rr ++ post) w →
  a = pre.length → m = pre.length + L.length → b = pre.length + L.length + Rr.length →
  Calls Tryz.prog 229 #[.slice (some ⟨g, 0, none⟩) d0.size cap, .int .i64 a, .int .i64 m, .int .i64 b, .func (.func 161) #[] #[]] w fun e w' => e = .returned (.tuple #[]) ∧ ∃ Z, Mg L Rr Z ∧ SW w0 g (pre ++ Z ++ post) w'
set_option maxRecDepth 1000000 in
set_option maxHeartbeats 8000000 in
theorem symStep_any {w0 : World} {g cap : Nat} {d0 : Array Six} (R : RowK scells 6 w0 g 0 d0) (HCM : CmpLays Tryz.prog 161 #[] scells 6 cfH g 0 d0.size w0) (hsz : d0.size < 1000000) (n0 : Nat) (IH : SymDoes w0 g cap d0 n0) (pre L Rr post : List Six) (w : World) {a m b : Nat}
  (hs : d0.size = (pre ++ L ++ Rr ++ post).length) (hLl : 1 < L.length) (hRl : 1 < Rr.length) (hn0 : L.length + Rr.length ≤ n0 + 1) (hLs : LxS L) (hRs : LxS Rr) (hA : Ap L Rr) (S : SW w0 g (pre ++ L ++ Rr ++ post) w) (ha : a = pre.length) (hm : m = pre.length + L.length) (hb : b = pre.length + L.length + Rr.length) :
  Calls Tryz.prog 229 #[.slice (some ⟨g, 0, none⟩) d0.size cap, .int .i64 a, .int .i64 m, .int .i64 b, .func (.func 161) #[] #[]] w fun e w' => e = .returned (.tuple #[]) ∧ ∃ Z, Mg L Rr Z ∧ SW w0 g (pre ++ Z ++ post) w' := by
 have hlen : (pre ++ L ++ Rr ++ post).length = pre.length + L.length + Rr.length + post.length := by simp only [List.length_append]
 obtain ⟨N, hN⟩ : ∃ N, d0.size = N := ⟨_, rfl⟩
 have hN' : N < 1000000 := by omega
 have hbN : b ≤ N := by omega
 have ham : a + 1 < m := by omega
 have hmb : m + 1 < b := by omega
 have HR : Aside (RowK scells 6 w0 g 0 d0) := R
 have HC : Aside (CmpLays Tryz.prog 161 #[] scells 6 cfH g 0 d0.size w0) := HCM
 have HN : Aside (d0.size = N) := hN
 have HSZ : Aside (d0.size < 1000000) := hsz
 have HIH : Aside (SymDoes w0 g cap d0 n0) := IH
 have HLEN : Aside (a = pre.length ∧ L.length = m - a ∧ Rr.length = b - m ∧ d0.size = pre.length + L.length + Rr.length + post.length ∧ L.length + Rr.length ≤ n0 + 1) := ⟨ha, by omega, by omega, by omega, hn0⟩
 have HSO : Aside (LxS L ∧ LxS Rr ∧ Ap L Rr) := ⟨hLs, hRs, hA⟩
 obtain ⟨D, hD⟩ : ∃ D, pre ++ L ++ Rr ++ post = D := ⟨_, rfl⟩
 have HD : Aside (D.toArray.size = d0.size) := by rw [← hD, List.size_toArray]; exact hs.symm
 have HGL : Aside (∀ k, a ≤ k → k < m → D.toArray[k]! = L.getD (k - a) z6) := fun k h1 h2 => by rw [← hD]; exact getL ha hm h1 h2
 have HGR : Aside (∀ k, m ≤ k → k < b → D.toArray[k]! = Rr.getD (k - m) z6) := fun k h1 h2 => by rw [← hD]; exact getR hm hb h1 h2
 have HDE : Aside (pre ++ L ++ Rr ++ post = D) := hD
 rw [hD] at S
 have S0 : Aside (SW w0 g D w) := S
 rw [hN]
 clear R HCM hN hsz S hs hlen hD hLs hRs hA ha hb hLl hRl hm IH hn0
 obtain ⟨mid, hmid⟩ : ∃ h, (a + b) / 2 = h := ⟨_, rfl⟩
 have hm1 : a < mid := by omega
 have hm2 : mid + 1 < b := by omega
 have hm3 : 2 * mid ≤ a + b := by omega
 have hm4 : a + b ≤ 2 * mid + 1 := by omega
 have hhi : ((a : Int) + (b : Int)) / 2 = (mid : Int) := by omega
 have hhw : IntKind.i64.wrap ((a : Int) + (b : Int)) = (a : Int) + (b : Int) := by rw [IntKind.wrap_i64]; omega
 obtain ⟨s0, hs0⟩ : ∃ s, (if mid < m then mid + m - b else a) = s := ⟨_, rfl⟩
 obtain ⟨r0, hr0⟩ : ∃ s, (if mid < m then mid else m) = s := ⟨_, rfl⟩
 have f1 : a ≤ s0 := by rw [← hs0]; split <;> omega
 have f2 : s0 ≤ r0 := by rw [← hs0, ← hr0]; split <;> omega
 have f3 : r0 ≤ m := by rw [← hr0]; split <;> omega
 have f4 : r0 ≤ mid := by rw [← hr0]; split <;> omega
 have f5 : mid + m ≤ s0 + b := by rw [← hs0]; split <;> omega
 have f6 : r0 = m ∨ r0 = mid := by rw [← hr0]; split <;> omega
 have f7 : s0 = a ∨ s0 + b = mid + m := by rw [← hs0]; split <;> omega
 have HF : Aside ((r0 = m ∨ r0 = mid) ∧ (s0 = a ∨ s0 + b = mid + m)) := ⟨f6, f7⟩
 clear hmid f6 f7
 have e0 : ((m : Int) - (a : Int) == 1) = false := by simp; omega
 have e0w : IntKind.i64.wrap ((m : Int) - (a : Int)) = (m : Int) - (a : Int) := by rw [IntKind.wrap_i64]; omega
 have e1 : ((b : Int) - (m : Int) == 1) = false := by simp; omega
 have e1w : IntKind.i64.wrap ((b : Int) - (m : Int)) = (b : Int) - (m : Int) := by rw [IntKind.wrap_i64]; omega
 have e2w : IntKind.i64.wrap ((mid : Int) + (m : Int)) = (mid : Int) + (m : Int) := by rw [IntKind.wrap_i64]; omega
 have e3w : IntKind.i64.wrap ((mid : Int) + (m : Int) - (b : Int)) = (mid : Int) + (m : Int) - (b : Int) := by rw [IntKind.wrap_i64]; omega
 have e4w : IntKind.i64.wrap ((mid : Int) + (m : Int) - 1) = (mid : Int) + (m : Int) - 1 := by rw [IntKind.wrap_i64]; omega
 have HS0 : Aside ((if mid < m then mid + m - b else a) = s0) := hs0
 have HR0 : Aside ((if mid < m then mid else m) = r0) := hr0
 clear hs0 hr0
 go_enter Tryz.func229, Tryz.ntmps229
 go_upto_region 27 with fail
 go_cut [140] from 138 to 140 (fun q wx => q = .bool (decide (mid < m)) ∧ w = wx)
 case first =>
  by_cases hq : mid < m
  ·have hqz : (mid : Int) < (m : Int) := by omega
   have hqd := decide_eq_true hq
   go_wp2_with fail
   go_meet
   exact ⟨by rw [hqd], rfl⟩
  ·have hqz : ¬ (mid : Int) < (m : Int) := by omega
   have hqd := decide_eq_false hq
   go_wp2_with fail
   go_meet
   exact ⟨by rw [hqd], rfl⟩
 case rest =>
 obtain ⟨rfl, rfl⟩ := hcut
 rename_i hK9
 refine hK9 _ _ ?_
 clear hK9
 go_cut [20, 21] from 138 to 146 (fun s t wx => s = .int .i64 s0 ∧ t = .int .i64 r0 ∧ w = wx)
 case first =>
  by_cases hq : mid < m
  ·have hqd := decide_eq_true hq
   have HS1 := HS0.out
   have HR1 := HR0.out
   rw [if_pos hq] at HS1 HR1
   have HS2 : Aside ((mid : Int) + (m : Int) - (b : Int) = (s0 : Int)) := by show (mid : Int) + (m : Int) - (b : Int) = (s0 : Int); omega
   have HR2 : Aside (mid = r0) := HR1
   clear HS1 HR1
   rw [hqd]
   clear hqd hq
   go_wp2_with fail
   go_meet
   exact ⟨by rw [HS2.out], by rw [HR2.out], rfl⟩
  ·have hqd := decide_eq_false hq
   have HS1 := HS0.out
   have HR1 := HR0.out
   rw [if_neg hq] at HS1 HR1
   have HS2 : Aside (a = s0) := HS1
   have HR2 : Aside (m = r0) := HR1
   clear HS1 HR1
   rw [hqd]
   clear hqd hq
   go_wp2_with fail
   go_meet
   exact ⟨by rw [HS2.out], by rw [HR2.out], rfl⟩
 case rest =>
  obtain ⟨rfl, rfl, rfl⟩ := hcut
  go_wp2_with fail
  go_loopg [20, 21] (r0 - s0) (fun kx s t wr => ∃ i j : Nat, s = .int .i64 i ∧ t = .int .i64 j ∧ s0 ≤ i ∧ i ≤ j ∧ j ≤ r0 ∧ j - i ≤ kx ∧ Aside ((s0 < i → (L.getD (i - a - 1) z6).b ≤ (Rr.getD (mid - i) z6).b) ∧ (j < r0 → (Rr.getD (mid - j - 1) z6).b < (L.getD (j - a) z6).b)) ∧ Aside (SW w0 g D wr))
  case atStart => exact ⟨s0, r0, rfl, rfl, Nat.le_refl _, f2, Nat.le_refl _, Nat.le_refl _, ⟨fun h => absurd h (Nat.lt_irrefl _), fun h => absurd h (Nat.lt_irrefl _)⟩, S0⟩
  case round =>
   clear S0
   obtain ⟨i, j, rfl, rfl, hi, hij, hj, hk, I1, S1⟩ := hrel
   by_cases hlt : i < j
   ·have hltz : (i : Int) < (j : Int) := by omega
    obtain ⟨h, hh⟩ : ∃ h, (i + j) / 2 = h := ⟨_, rfl⟩
    have h1 : i ≤ h := by omega
    have h2 : h < j := by omega
    have hhi2 : ((i : Int) + (j : Int)) / 2 = (h : Int) := by omega
    have hhw2 : IntKind.i64.wrap ((i : Int) + (j : Int)) = (i : Int) + (j : Int) := by rw [IntKind.wrap_i64]; omega
    obtain ⟨x, hx⟩ : ∃ x, L.getD (h - a) z6 = x := ⟨_, rfl⟩
    obtain ⟨y, hy⟩ : ∃ y, Rr.getD (mid - h - 1) z6 = y := ⟨_, rfl⟩
    have hx7 : D.toArray[mid + m - 1 - h]! = y := by rw [HGR.out _ (by omega) (by omega), show mid + m - 1 - h - m = mid - h - 1 by omega]; exact hy
    have hy7 : D.toArray[h]! = x := by rw [HGL.out h (by omega) (by omega)]; exact hx
    have HX : Aside (L.getD (h - a) z6 = x) := hx
    have HY : Aside (Rr.getD (mid - h - 1) z6 = y) := hy
    clear hx hy hh
    by_cases hb7 : y.b < x.b
    ·have HB : Aside (y.b < x.b) := hb7
     have e7a : ((mid : Int) + (m : Int) - 1 - (h : Int)).toNat = mid + m - 1 - h := by omega
     have p7a : (0 : Int) ≤ (mid : Int) + (m : Int) - 1 - (h : Int) := by omega
     have q7a : (mid : Int) + (m : Int) - 1 - (h : Int) < (N : Int) := by omega
     have r7a : IntKind.i64.wrap ((mid : Int) + (m : Int) - 1 - (h : Int)) = (mid : Int) + (m : Int) - 1 - (h : Int) := by rw [IntKind.wrap_i64]; omega
     have e7b : ((h : Int)).toNat = h := by omega
     have p7b : (0 : Int) ≤ (h : Int) := by omega
     have q7b : (h : Int) < (N : Int) := by omega
     have r7b : IntKind.i64.wrap ((h : Int)) = (h : Int) := by rw [IntKind.wrap_i64]; omega
     have l7a := S1.out.ld HR.out HD.out Tryz.prog (mid + m - 1 - h) (by have := HD.out; have := HN.out; omega)
     have l7b := S1.out.ld HR.out HD.out Tryz.prog (h) (by have := HD.out; have := HN.out; omega)
     rw [hx7] at l7a
     rw [hy7] at l7b
     have c7 := S1.out.cmp HC.out HD.out y x
     rw [show #[Value.agg (scells y).toArray, Value.agg (scells x).toArray] ++ #[] = #[Value.agg (scells y).toArray, Value.agg (scells x).toArray] from rfl] at c7
     obtain ⟨v7, hv7⟩ : ∃ c, cfH y x = c := ⟨_, rfl⟩
     rw [hv7] at c7
     have z7 : v7 < 0 := by rw [← hv7, cf_lt]; exact hb7
     have d7 : decide (v7 < 0) = true := decide_eq_true z7
     clear hx7 hy7 hv7 hb7
     simp only [Nat.zero_add] at l7a l7b
     have aE := Tryz.isAgg103
     have zE := Tryz.sizeOf103
     have mixed : Tryz.prog.follows .mixedOrders = true := by kernel_rfl
     obtain ⟨k6, hk6⟩ : ∃ k, (6 : Nat) = k := ⟨_, rfl⟩
     rw [hk6] at zE l7a l7b
     have HK6 : Aside ((6 : Nat) = k6) := hk6
     clear hk6
     go_wp2_with fail
     refine wp_region_quiet_grown (by assumption) (by kernel_rfl) ?_
     repeat (go_big_quiet_step ((go_at_call 161; exact Calls.grown_of (c7 _ _))))
     refine wpQuiet_nil ?_
     intro _ hw'
     obtain ⟨⟨nq, osq⟩, hw''⟩ := hw'
     subst hw''
     have S2 : Aside (SWK scells 6 w0 g 0 D.toArray (grow (wr.drewN nq) osq)) := S1.out.grown nq osq
     clear l7a l7b c7 S1 zE aE mixed
     obtain rfl := HK6.out
     generalize grow (wr.drewN nq) osq = w2 at S2 ⊢
     clear nq osq
     go_wp2_with fail
     go_roundg (h - i)
     case measure => omega
     case rel => exact ⟨i, h, rfl, rfl, hi, h1, by omega, Nat.le_refl _, ⟨I1.out.1, fun _ => by rw [HX.out, HY.out]; exact HB.out⟩, S2⟩
    ·have HB : Aside (¬ y.b < x.b) := hb7
     have e7a : ((mid : Int) + (m : Int) - 1 - (h : Int)).toNat = mid + m - 1 - h := by omega
     have p7a : (0 : Int) ≤ (mid : Int) + (m : Int) - 1 - (h : Int) := by omega
     have q7a : (mid : Int) + (m : Int) - 1 - (h : Int) < (N : Int) := by omega
     have r7a : IntKind.i64.wrap ((mid : Int) + (m : Int) - 1 - (h : Int)) = (mid : Int) + (m : Int) - 1 - (h : Int) := by rw [IntKind.wrap_i64]; omega
     have e7b : ((h : Int)).toNat = h := by omega
     have p7b : (0 : Int) ≤ (h : Int) := by omega
     have q7b : (h : Int) < (N : Int) := by omega
     have r7b : IntKind.i64.wrap ((h : Int)) = (h : Int) := by rw [IntKind.wrap_i64]; omega
     have l7a := S1.out.ld HR.out HD.out Tryz.prog (mid + m - 1 - h) (by have := HD.out; have := HN.out; omega)
     have l7b := S1.out.ld HR.out HD.out Tryz.prog (h) (by have := HD.out; have := HN.out; omega)
     rw [hx7] at l7a
     rw [hy7] at l7b
     have c7 := S1.out.cmp HC.out HD.out y x
     rw [show #[Value.agg (scells y).toArray, Value.agg (scells x).toArray] ++ #[] = #[Value.agg (scells y).toArray, Value.agg (scells x).toArray] from rfl] at c7
     obtain ⟨v7, hv7⟩ : ∃ c, cfH y x = c := ⟨_, rfl⟩
     rw [hv7] at c7
     have z7 : ¬ v7 < 0 := by rw [← hv7, cf_lt]; exact hb7
     have d7 : decide (v7 < 0) = false := decide_eq_false z7
     clear hx7 hy7 hv7 hb7
     simp only [Nat.zero_add] at l7a l7b
     have aE := Tryz.isAgg103
     have zE := Tryz.sizeOf103
     have mixed : Tryz.prog.follows .mixedOrders = true := by kernel_rfl
     obtain ⟨k6, hk6⟩ : ∃ k, (6 : Nat) = k := ⟨_, rfl⟩
     rw [hk6] at zE l7a l7b
     have HK6 : Aside ((6 : Nat) = k6) := hk6
     clear hk6
     go_wp2_with fail
     refine wp_region_quiet_grown (by assumption) (by kernel_rfl) ?_
     repeat (go_big_quiet_step ((go_at_call 161; exact Calls.grown_of (c7 _ _))))
     refine wpQuiet_nil ?_
     intro _ hw'
     obtain ⟨⟨nq, osq⟩, hw''⟩ := hw'
     subst hw''
     have S2 : Aside (SWK scells 6 w0 g 0 D.toArray (grow (wr.drewN nq) osq)) := S1.out.grown nq osq
     clear l7a l7b c7 S1 zE aE mixed
     obtain rfl := HK6.out
     generalize grow (wr.drewN nq) osq = w2 at S2 ⊢
     clear nq osq
     go_wp2_with fail
     go_roundg (j - (h + 1))
     case measure => omega
     case rel => exact ⟨h + 1, j, by go_num, rfl, by omega, by omega, hj, Nat.le_refl _, ⟨fun _ => by rw [show h + 1 - a - 1 = h - a by omega, show mid - (h + 1) = mid - h - 1 by omega, HX.out, HY.out]; (have := HB.out; omega), I1.out.2⟩, S2⟩
   ·obtain rfl : i = j := by omega
    obtain ⟨en, hen⟩ : ∃ e, mid + m - i = e := ⟨_, rfl⟩
    have g1 : m ≤ en := by omega
    have g2 : en ≤ b := by omega
    have g3 : mid ≤ en := by omega
    have hez : (mid : Int) + (m : Int) - (i : Int) = (en : Int) := by omega
    have hew : IntKind.i64.wrap ((mid : Int) + (m : Int) - (i : Int)) = (en : Int) := by rw [IntKind.wrap_i64]; omega
    have HEN : Aside (en + i = mid + m) := by show en + i = mid + m; omega
    have HMG : Aside (∀ Z1 Z2, Mg (L.take (i - a)) (Rr.take (mid - i)) Z1 → Mg (L.drop (i - a)) (Rr.drop (mid - i)) Z2 → Mg L Rr (Z1 ++ Z2)) := fun Z1 Z2 m1 m2 => by
     have hl := HLEN.out
     have hf := HF.out
     have hi1 := I1.out
     refine mg_split HSO.out.1 HSO.out.2.1 HSO.out.2.2 (fun h1 h2 => ?_) (fun h1 h2 => ?_) m1 m2 (by omega) (by omega)
     ·exact hi1.1 (by omega)
     ·exact hi1.2 (by omega)
    have S2 : Aside (SW w0 g (pre ++ L.take (i - a) ++ L.drop (i - a) ++ Rr.take (mid - i) ++ (Rr.drop (mid - i) ++ post)) wr) := by
     have h := S1.out
     rw [← HDE.out] at h
     have e : pre ++ L.take (i - a) ++ L.drop (i - a) ++ Rr.take (mid - i) ++ (Rr.drop (mid - i) ++ post) = pre ++ L ++ Rr ++ post := by
      rw [List.append_assoc pre, List.take_append_drop, ← List.append_assoc, List.append_assoc (pre ++ L), List.take_append_drop]
     rw [e]
     exact h
    obtain ⟨L1, hL1⟩ : ∃ l, L.take (i - a) = l := ⟨_, rfl⟩
    obtain ⟨L2, hL2⟩ : ∃ l, L.drop (i - a) = l := ⟨_, rfl⟩
    obtain ⟨R1, hR1⟩ : ∃ l, Rr.take (mid - i) = l := ⟨_, rfl⟩
    obtain ⟨R2, hR2⟩ : ∃ l, Rr.drop (mid - i) = l := ⟨_, rfl⟩
    have HP : Aside (L1.length = i - a ∧ L2.length = m - i ∧ R1.length = mid - i ∧ R2.length = b - en) := by
     have hl := HLEN.out
     have he := HEN.out
     rw [← hL1, ← hL2, ← hR1, ← hR2]
     refine ⟨?_, ?_, ?_, ?_⟩ <;> first | (rw [List.length_take]; omega) | (rw [List.length_drop]; omega)
    have HQ : Aside (LxS L1 ∧ LxS L2 ∧ LxS R1 ∧ LxS R2 ∧ Ap L1 R1 ∧ Ap L2 R2) := by
     rw [← hL1, ← hL2, ← hR1, ← hR2]
     exact ⟨HSO.out.1.sublist (List.take_sublist _ _), HSO.out.1.sublist (List.drop_sublist _ _), HSO.out.2.1.sublist (List.take_sublist _ _), HSO.out.2.1.sublist (List.drop_sublist _ _), HSO.out.2.2.sub (fun _ h => List.mem_of_mem_take h) (fun _ h => List.mem_of_mem_take h), HSO.out.2.2.sub (fun _ h => List.mem_of_mem_drop h) (fun _ h => List.mem_of_mem_drop h)⟩
    rw [hL1, hL2, hR1, hR2] at HMG
    rw [hL1, hL2, hR1, hR2] at S2
    clear hL1 hL2 hR1 hR2 hen S1
    go_upto_region 39 with fail
    go_cut [185] from 178 to 185 (fun q wx => q = .bool (decide (i < m) && decide (m < en)) ∧ wr = wx)
    case first =>
     by_cases c1 : i < m
     ·have c1z : (i : Int) < (m : Int) := by omega
      by_cases c2 : m < en
      ·have c2z : (m : Int) < (en : Int) := by omega
       have c12 : (decide (i < m) && decide (m < en)) = true := by simp [c1, c2]
       go_wp2_with fail
       go_meet
       exact ⟨by rw [c12], rfl⟩
      ·have c2z : ¬ (m : Int) < (en : Int) := by omega
       have c12 : (decide (i < m) && decide (m < en)) = false := by simp [c2]
       go_wp2_with fail
       go_meet
       exact ⟨by rw [c12], rfl⟩
     ·have c1z : ¬ (i : Int) < (m : Int) := by omega
      have c12 : (decide (i < m) && decide (m < en)) = false := by simp [c1]
      go_wp2_with fail
      go_meet
      exact ⟨by rw [c12], rfl⟩
    case rest =>
    obtain ⟨rfl, rfl⟩ := hcut
    rename_i hK9
    refine hK9 _ _ ?_
    clear hK9
    go_cut [] from 178 to 191 (fun wx => Aside (SW w0 g (pre ++ L1 ++ R1 ++ L2 ++ (R2 ++ post)) wx))
    case first =>
     by_cases c1 : i < m
     ·have d1 := decide_eq_true c1
      by_cases c2 : m < en
      ·have d2 := decide_eq_true c2
       rw [d1, d2, Bool.true_and]
       clear d1 d2
       have T1 := rotate_any (cap := cap) (w := wr) (pre := pre ++ L1) (A := L2) (B := R1) (post := R2 ++ post) (a := i) (m := m) (b := en) HR.out (by have hl := HLEN.out; have hp := HP.out; simp only [List.length_append]; omega) (by have hp := HP.out; omega) (by have hp := HP.out; have he := HEN.out; omega) S2.out HSZ.out (by have hl := HLEN.out; have hp := HP.out; simp only [List.length_append]; omega) (by have hl := HLEN.out; have hp := HP.out; simp only [List.length_append]; omega) (by have hl := HLEN.out; have hp := HP.out; have he := HEN.out; simp only [List.length_append]; omega)
       rw [HN.out] at T1
       have HT1 := Lib.hid T1
       clear T1
       go_wp2_with (go_at_call 236; (with_reducible refine (HT1.out).mono ?_); rintro e w1 ⟨rfl, S3⟩)
       go_meet
       exact S3
      ·have d2 := decide_eq_false c2
       rw [d1, d2, Bool.true_and]
       clear d1 d2
       have e : R1 = [] := List.eq_nil_of_length_eq_zero (by have hp := HP.out; have he := HEN.out; omega)
       have S3 : Aside (SW w0 g (pre ++ L1 ++ R1 ++ L2 ++ (R2 ++ post)) wr) := by have h := S2.out; rw [e] at h ⊢; show SW _ _ _ _; simpa using h
       clear e
       go_wp2_with fail
       go_meet
       exact S3
     ·have d1 := decide_eq_false c1
      rw [d1, Bool.false_and]
      clear d1
      have e : L2 = [] := List.eq_nil_of_length_eq_zero (by have hp := HP.out; omega)
      have S3 : Aside (SW w0 g (pre ++ L1 ++ R1 ++ L2 ++ (R2 ++ post)) wr) := by have h := S2.out; rw [e] at h ⊢; show SW _ _ _ _; simpa using h
      clear e
      go_wp2_with fail
      go_meet
      exact S3
    case rest =>
     have S3 : Aside (SW w0 g (pre ++ L1 ++ R1 ++ (L2 ++ (R2 ++ post))) wc) := by have h := hcut.out; show SW _ _ _ _; simpa only [List.append_assoc] using h
     clear hcut S2
     go_upto_region 41 with fail
     go_cut [199] from 192 to 199 (fun q wx => q = .bool (decide (a < i) && decide (i < mid)) ∧ wc = wx)
     case first =>
      by_cases c1 : a < i
      ·have c1z : (a : Int) < (i : Int) := by omega
       by_cases c2 : i < mid
       ·have c2z : (i : Int) < (mid : Int) := by omega
        have c12 : (decide (a < i) && decide (i < mid)) = true := by simp [c1, c2]
        go_wp2_with fail
        go_meet
        exact ⟨by rw [c12], rfl⟩
       ·have c2z : ¬ (i : Int) < (mid : Int) := by omega
        have c12 : (decide (a < i) && decide (i < mid)) = false := by simp [c2]
        go_wp2_with fail
        go_meet
        exact ⟨by rw [c12], rfl⟩
      ·have c1z : ¬ (a : Int) < (i : Int) := by omega
       have c12 : (decide (a < i) && decide (i < mid)) = false := by simp [c1]
       go_wp2_with fail
       go_meet
       exact ⟨by rw [c12], rfl⟩
     case rest =>
     obtain ⟨rfl, rfl⟩ := hcut
     rename_i hK9
     refine hK9 _ _ ?_
     clear hK9
     go_cut [] from 192 to 205 (fun wx => ∃ Z1, Aside (Mg L1 R1 Z1 ∧ SW w0 g (pre ++ Z1 ++ L2 ++ R2 ++ post) wx))
     case first =>
      by_cases c1 : a < i
      ·have d1 := decide_eq_true c1
       by_cases c2 : i < mid
       ·have d2 := decide_eq_true c2
        rw [d1, d2, Bool.true_and]
        clear d1 d2
        have T1 := HIH.out pre L1 R1 (L2 ++ (R2 ++ post)) wc a i mid (by have hl := HLEN.out; have hp := HP.out; have he := HEN.out; simp only [List.length_append]; omega) (by have hp := HP.out; omega) (by have hp := HP.out; omega) (by have hp := HP.out; have hl := HLEN.out; omega) HQ.out.1 HQ.out.2.2.1 HQ.out.2.2.2.2.1 S3.out HLEN.out.1 (by have hl := HLEN.out; have hp := HP.out; omega) (by have hl := HLEN.out; have hp := HP.out; omega)
        rw [HN.out] at T1
        have HT1 := Lib.hid T1
        clear T1
        go_wp2_with (go_at_call 229; (with_reducible refine (HT1.out).mono ?_); rintro e w1 ⟨rfl, Z1, hz, S4⟩)
        go_meet
        exact ⟨Z1, hz, by simpa only [List.append_assoc] using S4⟩
       ·have d2 := decide_eq_false c2
        rw [d1, d2, Bool.true_and]
        clear d1 d2
        have e : R1 = [] := List.eq_nil_of_length_eq_zero (by have hp := HP.out; omega)
        have S4 : Aside (Mg L1 R1 L1 ∧ SW w0 g (pre ++ L1 ++ L2 ++ R2 ++ post) wc) := ⟨by rw [e]; exact mg_left HQ.out.1, by have h := S3.out; rw [e] at h; simpa only [List.append_assoc, List.nil_append] using h⟩
        clear e
        go_wp2_with fail
        go_meet
        exact ⟨L1, S4⟩
      ·have d1 := decide_eq_false c1
       rw [d1, Bool.false_and]
       clear d1
       have e : L1 = [] := List.eq_nil_of_length_eq_zero (by have hp := HP.out; omega)
       have S4 : Aside (Mg L1 R1 R1 ∧ SW w0 g (pre ++ R1 ++ L2 ++ R2 ++ post) wc) := ⟨by rw [e]; exact mg_right HQ.out.2.2.1, by have h := S3.out; rw [e] at h; simpa only [List.append_assoc, List.nil_append] using h⟩
       clear e
       go_wp2_with fail
       go_meet
       exact ⟨R1, S4⟩
     case rest =>
      obtain ⟨Z1, S4⟩ := hcut
      obtain ⟨V, rfl⟩ : ∃ V : World, V = wc := ⟨_, rfl⟩
      have HZ1 : Aside (Z1.length = mid - a) := by
       have hl := S4.out.1.len
       have hp := HP.out
       show Z1.length = mid - a
       omega
      by_cases c1 : mid < en
      ·have c1z : (mid : Int) < (en : Int) := by omega
       by_cases c2 : en < b
       ·have c2z : (en : Int) < (b : Int) := by omega
        have T1 := HIH.out (pre ++ Z1) L2 R2 post V mid en b (by have hl := HLEN.out; have hp := HP.out; have he := HEN.out; have hz := HZ1.out; simp only [List.length_append]; omega) (by have hp := HP.out; have he := HEN.out; omega) (by have hp := HP.out; omega) (by have hp := HP.out; have hl := HLEN.out; have he := HEN.out; omega) HQ.out.2.1 HQ.out.2.2.2.1 HQ.out.2.2.2.2.2 S4.out.2 (by have hl := HLEN.out; have hz := HZ1.out; rw [List.length_append]; omega) (by have hl := HLEN.out; have hp := HP.out; have hz := HZ1.out; have he := HEN.out; rw [List.length_append]; omega) (by have hl := HLEN.out; have hp := HP.out; have hz := HZ1.out; have he := HEN.out; rw [List.length_append]; omega)
        rw [HN.out] at T1
        have HT1 := Lib.hid T1
        clear T1
        go_wp2_with (go_at_call 229; (with_reducible refine (HT1.out).mono ?_); rintro e w1 ⟨rfl, Z2, hz, S5⟩)
        go_end0
        exact ⟨rfl, _, HMG.out Z1 Z2 S4.out.1 hz, by simpa only [List.append_assoc] using S5⟩
       ·have c2z : ¬ (en : Int) < (b : Int) := by omega
        have e : R2 = [] := List.eq_nil_of_length_eq_zero (by have hp := HP.out; omega)
        have S5 : Aside (Mg L2 R2 L2 ∧ SW w0 g (pre ++ (Z1 ++ L2) ++ post) V) := ⟨by rw [e]; exact mg_left HQ.out.2.1, by have h := S4.out.2; rw [e] at h; simpa only [List.append_assoc, List.nil_append] using h⟩
        clear e
        go_wp2_with fail
        go_end0
        exact ⟨rfl, _, HMG.out Z1 L2 S4.out.1 S5.out.1, by simpa only [List.append_assoc] using S5.out.2⟩
      ·have c1z : ¬ (mid : Int) < (en : Int) := by omega
       have e : L2 = [] := List.eq_nil_of_length_eq_zero (by have hp := HP.out; have he := HEN.out; omega)
       have S5 : Aside (Mg L2 R2 R2 ∧ SW w0 g (pre ++ (Z1 ++ R2) ++ post) V) := ⟨by rw [e]; exact mg_right HQ.out.2.2.2.1, by have h := S4.out.2; rw [e] at h; simpa only [List.append_assoc, List.nil_append] using h⟩
       clear e
       go_wp2_with fail
       go_end0
       exact ⟨rfl, _, HMG.out Z1 R2 S4.out.1 S5.out.1, by simpa only [List.append_assoc] using S5.out.2⟩
theorem symMerge_any {w0 : World} {g cap : Nat} {d0 : Array Six} (R : RowK scells 6 w0 g 0 d0) (HCM : CmpLays Tryz.prog 161 #[] scells 6 cfH g 0 d0.size w0) (hsz : d0.size < 1000000) : ∀ N, SymDoes w0 g cap d0 N
 | 0 => fun pre L Rr post w a m b hs hL hR hN _ _ _ _ _ _ _ => by omega
 | N + 1 => fun pre L Rr post w a m b hs hL hR hN hLs hRs hA S ha hm hb => by
  by_cases h1 : L.length = 1
  ·obtain ⟨x, rfl⟩ := List.length_eq_one_iff.1 h1
   exact symLeft_any R HCM hsz pre x Rr post w hs hR hRs hA S ha hm hb
  ·by_cases h2 : Rr.length = 1
   ·obtain ⟨y, rfl⟩ := List.length_eq_one_iff.1 h2
    exact symRight_any R HCM hsz pre L y post w hs (by omega) hLs hA S ha hm hb
   ·exact symStep_any R HCM hsz N (symMerge_any R HCM hsz N) pre L Rr post w hs (by omega) (by omega) hN hLs hRs hA S ha hm hb
end Go.Proofs.YtkoejeghihcmlaaGreat

namespace Go.Proofs.YtkoejeghihcmlaaGreat
section
variable {P : Program} {ops : Array Oper} {Q : Exit → Act → World → Prop} {md : Region.Mode} {S : World → Prop} {last : Nat}
def wpAnyU (P : Program) (md : Region.Mode) (ops : Array Oper) (Q : Exit → Act → World → Prop) (S : World → Prop) (last : Nat) : Nat → Array Bool → Act → World → Prop
 | 0, listed, a, w => Region.ready md ops listed = [] ∧ Q .normal a w
 | fuel + 1, listed, a, w =>
  (Region.ready md ops listed = [] → Q .normal a w) ∧
  ∀ i ∈ Region.ready md ops listed, wpOp P ops Q i (fun a' w' => if i = last then wpAny P md ops Q fuel (listed.setIfInBounds i true) a' w' else S w' ∧ wpAnyU P md ops Q S last fuel (listed.setIfInBounds i true) a' w') a w
theorem wpAny_of_upto : ∀ (fuel : Nat) (listed : Array Bool) (a : Act) (w : World), wpAnyU P md ops Q S last fuel listed a w → wpAny P md ops Q fuel listed a w
 | 0, _, _, _, h => h
 | fuel + 1, _, _, _, h => ⟨h.1, fun i hi => wpOp_mono (fun a' w' h' => by
   by_cases e : i = last
   ·rw [if_pos e] at h'; exact h'
   ·rw [if_neg e] at h'; exact wpAny_of_upto fuel _ a' w' h'.2) (h.2 i hi)⟩
theorem wpAnyU_first {i : Nat} (ms : List Nat) {oi : Oper} {v : Value} (hi : ops[i]? = some oi) (hsel : ∀ (j : Nat) (o : Oper) cs b, ops[j]? = some o → o.op ≠ .select cs b)
  (hQ : ∀ c a w, Q (.panic c) (a.put oi.dst v) w → Q (.panic c) a w) :
  ∀ (fuel : Nat) (listed : Array Bool) (a : Act) (w : World),
   (∀ j oj, ops[j]? = some oj → j ≠ i → listed.getD j true = false → (∀ e ∈ oj.after, Region.binds md e = true → e.on ≠ i) → oi.apart ops oj = true) →
   i ∈ Region.ready md ops listed → i ≠ last → pathB md ops last listed i ms = true → YieldsIf P ops S oi v a → S w →
   wpAnyU P md ops Q S last fuel (listed.setIfInBounds i true) (a.put oi.dst v) w → wpAnyU P md ops Q S last (fuel + 1) listed a w := by
 intro fuel
 induction fuel with
 | zero =>
  intro listed a w _ hr hil hla hy hS H
  refine ⟨fun h => (by rw [h] at hr; cases hr), fun j hj => ?_⟩
  by_cases hji : j = i
  ·subst hji; exact hy.wpOp hi hS (by rw [if_neg hil]; exact ⟨hS, H⟩)
  ·have := ready_mono hj hji
   rw [H.1] at this
   cases this
 | succ fuel ih =>
  intro listed a w hfree hr hil hla hy hS H
  refine ⟨fun h => (by rw [h] at hr; cases hr), fun j hj => ?_⟩
  by_cases hji : j = i
  ·subst hji; exact hy.wpOp hi hS (by rw [if_neg hil]; exact ⟨hS, H⟩)
  ·have h1 := H.2 j (ready_mono hj hji)
   obtain ⟨hjun, oj, hoj, hall⟩ := mem_ready.1 hj
   have h0 := (mem_ready.1 hr).1
   have hnot : ∀ e ∈ oj.after, Region.binds md e = true → e.on ≠ i := fun e he hb heq => by
    have h1 := hall e he hb
    rw [heq, getD_both h0] at h1; cases h1
   have hjl : j ≠ last := fun e => path_not ms i hla h0 hil (e ▸ hj)
   have h2 := wpOp_putIf hoj (hfree j oj hoj hji hjun hnot) (fun cs b => hsel i oi cs b hi) (fun cs b => hsel j oj cs b hoj) hQ hy h1
   have hfree' : ∀ k ok, ops[k]? = some ok → k ≠ i → (listed.setIfInBounds j true).getD k true = false →
     (∀ e ∈ ok.after, Region.binds md e = true → e.on ≠ i) → oi.apart ops ok = true := fun k ok hk hki hun hno => by
    refine hfree k ok hk hki ?_ hno
    by_cases hjk : j = k
    ·subst hjk; exact hjun
    ·rw [getD_set_ne true hjk] at hun; exact hun
   refine wpOp_mono (fun a' w' h3 => ?_) h2
   obtain ⟨h3a, h3b⟩ := h3
   rw [if_neg hjl] at h3b ⊢
   refine ⟨h3b.1, ih (listed.setIfInBounds j true) a' w' hfree' (ready_mono hr (Ne.symm hji)) hil (path_step hj ms i hla h0) h3a h3b.1 ?_⟩
   rw [Array.setIfInBounds_comm _ _ hji]
   exact h3b.2
/-- A load, or what yields anyhow, may be taken first: 'ms' leads from it to the last operation. -/
theorem upto_take (ms : List Nat) {i : Nat} {oi : Oper} {d : Option Tmp} {v : Value} {fuel : Nat} {listed : Array Bool} {a : Act} {w : World} (hi : ops[i]? = some oi) (hd : oi.dst = d)
  (hs : Region.noSelect ops = true) (hf : (Region.free md ops listed i && ((Region.ready md ops listed).contains i && (decide (i ≠ last) && pathB md ops last listed i ms))) = true)
  (hQ : ∀ c a w, Q (.panic c) (a.put oi.dst v) w → Q (.panic c) a w) (hg : Region.wanted oi (yielded ops a.tmps) = true) (hy : ∀ w, S w → (execOp a.eval oi).run P w = .ok (.value v) w) (hS : S w)
  (h : wpAnyU P md ops Q S last fuel (listed.setIfInBounds i true) (a.put d v) w) : wpAnyU P md ops Q S last (fuel + 1) listed a w := by
 subst hd
 simp only [Bool.and_eq_true, decide_eq_true_eq] at hf
 obtain ⟨hf, hr, hil, hw⟩ := hf
 exact wpAnyU_first ms hi (Region.noSelect_spec hs) hQ fuel listed a w (Region.free_spec hi hf) (by simpa using hr) hil hw (.inl ⟨hg, hy⟩) hS h
/-- One operation alone may come up. -/
theorem upto_one (i : Nat) {o : Oper} {fuel : Nat} {listed : Array Bool} {a : Act} {w : World} (ho : ops[i]? = some o) (hr : Region.ready md ops listed = [i]) (hil : i ≠ last)
  (h : ∀ K' : Act → World → Prop, Shut (∀ a w, S w → (S w → wpAnyU P md ops Q S last fuel (listed.setIfInBounds i true) a w) → K' a w) → if Region.wanted o (yielded ops a.tmps) = true then Oper.wp P o a w K' Q else K' (a.put o.dst undef) w) :
  wpAnyU P md ops Q S last (fuel + 1) listed a w :=
 ⟨fun h0 => (by rw [hr] at h0; cases h0), fun j hj => by
  rw [hr] at hj
  obtain rfl : j = i := by simpa using hj
  exact wpOp_step ho (fun K' hK => h K' (fun a w hS hW => hK a w (by rw [if_neg hil]; exact ⟨hS, hW hS⟩)))⟩
/-- The one up to which it holds. -/
theorem upto_last {o : Oper} {fuel : Nat} {listed : Array Bool} {a : Act} {w : World} (ho : ops[last]? = some o) (hr : Region.ready md ops listed = [last])
  (h : ∀ K' : Act → World → Prop, Shut (∀ a w, wpAny P md ops Q fuel (listed.setIfInBounds last true) a w → K' a w) → if Region.wanted o (yielded ops a.tmps) = true then Oper.wp P o a w K' Q else K' (a.put o.dst undef) w) :
  wpAnyU P md ops Q S last (fuel + 1) listed a w :=
 ⟨fun h0 => (by rw [hr] at h0; cases h0), fun j hj => by
  rw [hr] at hj
  obtain rfl : j = last := by simpa using hj
  exact wpOp_step ho (fun K' hK => h K' (fun a w hW => hK a w (by rw [if_pos rfl]; exact hW)))⟩
theorem any_done {fuel : Nat} {listed : Array Bool} {a : Act} {w : World} (hr : Region.ready md ops listed = []) (h : Q .normal a w) : wpAny P md ops Q fuel listed a w := by
 cases fuel with
 | zero => exact ⟨hr, h⟩
 | succ f => exact ⟨fun _ => h, by rw [hr]; simp⟩
/-- Nothing but the region's end. -/
def onlyQ (Q : Exit → Act → World → Prop) : Exit → Act → World → Prop
 | .normal, a, w => Q .normal a w
 | _, _, _ => False
theorem onlyQ_lets : ¬ LetsOut (onlyQ Q) := fun ⟨_, _, h⟩ => h
theorem operWp_of_only {o : Oper} {a : Act} {K K' : Act → World → Prop} {w : World} (hK : ∀ a w, K a w → K' a w) (h : o.wp P a w K (onlyQ Q)) : o.wp P a w K' Q := by
 unfold Oper.wp at h ⊢
 generalize (execOp a.eval o).run P w = r at *
 cases r with
 | ok x w' =>
  cases x <;> simp only [Oper.upon] at h <;> simp only [Oper.upon]
  case value u => exact hK _ _ h
  case skip => exact hK _ _ h
  case defer d => exact hK _ _ h
  case enter f args =>
   refine h.mono ?_
   intro e w'' he
   cases e with
   | returned v => exact hK _ _ he
   | panicked c => exact he.elim
   | outgrown => exact (onlyQ_lets he).elim
  case row rw_ args => exact h.mono fun v w'' hv => hK _ _ hv
 | halt x w' =>
  cases x <;> simp only [Oper.upon] at h
  exact h.elim
theorem wpAny_of_only : ∀ (fuel : Nat) (listed : Array Bool) (a : Act) (w : World), wpAny P md ops (onlyQ Q) fuel listed a w → wpAny P md ops Q fuel listed a w
 | 0, _, _, _, h => h
 | fuel + 1, listed, a, w, h => ⟨h.1, fun i hi => by
   have h1 := h.2 i hi
   unfold wpOp at h1 ⊢
   split
   ·rename_i ho; simp only [ho] at h1; exact wpAny_of_only fuel _ _ _ h1
   ·rename_i o ho
    simp only [ho] at h1
    split
    ·rename_i hw
     simp only [hw, if_true] at h1
     rcases h1 with h1 | ⟨-, h1⟩
     ·exact .inl (operWp_of_only (fun a w hk => wpAny_of_only fuel _ a w hk) h1)
     ·exact (onlyQ_lets h1).elim
    ·rename_i hw
     simp only [hw] at h1
     exact wpAny_of_only fuel _ _ _ h1⟩
theorem wp_region_uptoQ {id : Nat} {a : Act} {w : World} (last : Nat) (hm : P.follows .mixedOrders = true) (hS : S w.drew)
  (h : S w.drew → wpAnyU P .any ops (onlyQ Q) S last ops.size (Array.replicate ops.size false) a w.drew) : (Code.region id ops true).wp P Q a w :=
 wp_region_any hm (wpAny_of_only _ _ _ _ (wpAny_of_upto _ _ _ _ (h hS)))
end
end Go.Proofs.YtkoejeghihcmlaaGreat

namespace Go.Proofs.YtkoejeghihcmlaaGreat
open Go.RowKit Go.Shelf
theorem in_any (n lo hi : Int) (w : World) : Calls Tryz.prog 131 #[.int .i64 n, .int .i64 lo, .int .i64 hi] w fun e w' => e = .returned (.bool (rng n lo hi)) ∧ w = w' := by
 unfold rng
 by_cases h1 : lo ≤ n
 ·go_enter Tryz.func131, Tryz.ntmps131
  go_wp2
  go_ret
  exact ⟨by simp [h1], rfl⟩
 ·go_enter Tryz.func131, Tryz.ntmps131
  go_wp2
  go_ret
  exact ⟨by simp; omega, rfl⟩
theorem refDay_any (n : Int) (w : World) : Calls Tryz.prog 181 #[.int .i64 n] w fun e w' => e = .returned (.bool (rng n 0 4166)) ∧ w = w' := by
 go_enter Tryz.func181, Tryz.ntmps181
 go_wp2_with (go_at_call 131; refine (in_any _ _ _ _).mono ?_; rintro e w' ⟨rfl, rfl⟩)
 go_ret
 exact ⟨rfl, rfl⟩
theorem lasts_any (k u : Int) (w : World) : Calls Tryz.prog 151 #[.int .i64 k, .int .i64 u] w fun e w' => e = .returned (.bool (okTimes k u)) ∧ w = w' := by
 unfold okTimes
 cases h1 : rng k 0 4166 with
 | false =>
  go_enter Tryz.func151, Tryz.ntmps151
  go_wp2_with (go_at_call 181; refine (refDay_any _ _).mono ?_; rintro e w' ⟨rfl, rfl⟩)
  go_ret
  exact ⟨rfl, rfl⟩
 | true =>
  have hk := h1
  unfold rng at hk
  simp only [Bool.and_eq_true, decide_eq_true_eq] at hk
  by_cases h2 : u = 0
  ·subst h2
   go_enter Tryz.func151, Tryz.ntmps151
   go_wp2_with (go_at_call 181; refine (refDay_any _ _).mono ?_; rintro e w' ⟨rfl, rfl⟩)
   go_ret
   exact ⟨rfl, rfl⟩
  ·have e2 : (u == 0) = false := beq_eq_false_iff_ne.2 h2
   have e3 : decide (u = 0) = false := decide_eq_false h2
   rw [e3]
   go_enter Tryz.func151, Tryz.ntmps151
   go_wp2_with (first
    | (go_at_call 181; refine (refDay_any _ _).mono ?_; rintro e w' ⟨rfl, rfl⟩)
    | (go_at_call 131; refine (in_any _ _ _ _).mono ?_; rintro e w' ⟨rfl, rfl⟩))
   go_ret
   exact ⟨rfl, rfl⟩
theorem refSheaves_any (lo hi : Int) (w : World) : Calls Tryz.prog 146 #[.agg #[.int .i64 lo, .int .i64 hi]] w fun e w' => e = .returned (.bool (okSh lo hi)) ∧ Below w.heap.size w w' := by
 unfold okSh rng
 by_cases h1 : 0 ≤ lo
 ·by_cases h2 : lo ≤ hi
  ·go_enter Tryz.func146, Tryz.ntmps146
   go_wp2
   go_ret
   exact ⟨by simp [h1, h2], one_more _ _⟩
  ·go_enter Tryz.func146, Tryz.ntmps146
   go_wp2
   go_ret
   exact ⟨by simp; intros; omega, one_more _ _⟩
 ·go_enter Tryz.func146, Tryz.ntmps146
  go_wp2
  go_ret
  exact ⟨by simp; intros; omega, one_more _ _⟩
theorem isAt_any (a b : Int) (w : World) : Calls Tryz.prog 150 #[.int .i64 a, .int .i64 b] w fun e w' => e = .returned (.bool (rng a 1 99999 && rng b 0 99999)) ∧ w = w' := by
 cases h1 : rng a 1 99999
 all_goals
  have H1 := Lib.hid h1
  have HT := Lib.hid (fun V => show Calls Tryz.prog 131 #[.int .i64 a, .int .i64 1, .int .i64 99999] V fun e w' => e = .returned (.bool _) ∧ V = w' from by have := in_any a 1 99999 V; rw [H1.out] at this; exact this)
  clear h1
  go_enter Tryz.func150, Tryz.ntmps150
  go_wp2_with (first
   | (go_at_call 131; (with_reducible refine (HT.out _).mono ?_); rintro e w' ⟨rfl, rfl⟩)
   | (go_at_call 131; (with_reducible refine (in_any b 0 99999 _).mono ?_); rintro e w' ⟨rfl, rfl⟩))
  go_ret
  exact ⟨by simp, rfl⟩
set_option maxRecDepth 100000 in
set_option maxHeartbeats 4000000 in
theorem refLoad_any (x : Six) (w : World) : Calls Tryz.prog 68 #[sv x] w fun e w' => e = .returned (.int .i64 (err (isLoad x) 10)) ∧ Below w.heap.size w w' := by
 unfold err isLoad
 have T1 := isAt_any x.a x.b
 have T3 := refSheaves_any x.c x.d
 have T4 := lasts_any x.e x.f
 generalize (rng x.a 1 99999 && rng x.b 0 99999) = b1 at T1 ⊢
 generalize okSh x.c x.d = b3 at T3 ⊢
 generalize okTimes x.e x.f = b4 at T4 ⊢
 cases b1 <;> cases b3 <;> cases b4
 all_goals
  have H1 := Lib.hid T1
  have H3 := Lib.hid T3
  have H4 := Lib.hid T4
  clear T1 T3 T4
  go_enter Tryz.func68, Tryz.ntmps68
  go_upto_region 1 with fail
  obtain ⟨W1, hW1⟩ : ∃ W1, w.alloc (.cells #[.int .i64 x.a, .int .i64 x.b, .int .i64 x.c, .int .i64 x.d, .int .i64 x.e, .int .i64 x.f] 103) = W1 := ⟨_, rfl⟩
  have g0 : Below w.heap.size w W1 := by rw [← hW1]; exact one_more _ _
  have b1 : Blk W1 w.heap.size 103 #[.int .i64 x.a, .int .i64 x.b, .int .i64 x.c, .int .i64 x.d, .int .i64 x.e, .int .i64 x.f] := by rw [← hW1]; exact Blk.new _ _ _
  rw [hW1]
  have G0 := Lib.hid g0
  have B1 := Lib.hid b1
  have c0 := b1.cell 0
  have c1 := b1.cell 1
  have c2 := b1.cell 2
  have c3 := b1.cell 3
  have c4 := b1.cell 4
  have c5 := b1.cell 5
  clear hW1 g0 b1
  go_wp2_with (first
   | (go_at_call 150; (with_reducible refine (H1.out _).mono ?_); rintro e w' ⟨rfl, rfl⟩)
   | (go_at_call 146; (with_reducible refine (H3.out _).mono ?_); rintro e w1 ⟨rfl, g1⟩; have m0 := (B1.out.ext g1).cell 4; have m1 := (B1.out.ext g1).cell 5; have G1 := Lib.hid (G0.out.trans (g1.mono G0.out.size)); clear g1)
   | (go_at_call 151; (with_reducible refine (H4.out _).mono ?_); rintro e w' ⟨rfl, rfl⟩))
  go_ret
  first
   | exact ⟨rfl, G1.out⟩
   | exact ⟨rfl, G0.out⟩
set_option maxRecDepth 100000 in
set_option maxHeartbeats 4000000 in
theorem refStand_any (x : Six) (w : World) : Calls Tryz.prog 70 #[sv x] w fun e w' => e = .returned (.int .i64 (err (isLoad x) 11)) ∧ Below w.heap.size w w' := by
 unfold err isLoad
 have T1 := isAt_any x.a x.b
 have T3 := refSheaves_any x.c x.d
 have T4 := lasts_any x.e x.f
 generalize (rng x.a 1 99999 && rng x.b 0 99999) = b1 at T1 ⊢
 generalize okSh x.c x.d = b3 at T3 ⊢
 generalize okTimes x.e x.f = b4 at T4 ⊢
 cases b1 <;> cases b3 <;> cases b4
 all_goals
  have H1 := Lib.hid T1
  have H3 := Lib.hid T3
  have H4 := Lib.hid T4
  clear T1 T3 T4
  go_enter Tryz.func70, Tryz.ntmps70
  go_upto_region 1 with fail
  obtain ⟨W1, hW1⟩ : ∃ W1, w.alloc (.cells #[.int .i64 x.a, .int .i64 x.b, .int .i64 x.c, .int .i64 x.d, .int .i64 x.e, .int .i64 x.f] 105) = W1 := ⟨_, rfl⟩
  have g0 : Below w.heap.size w W1 := by rw [← hW1]; exact one_more _ _
  have b1 : Blk W1 w.heap.size 105 #[.int .i64 x.a, .int .i64 x.b, .int .i64 x.c, .int .i64 x.d, .int .i64 x.e, .int .i64 x.f] := by rw [← hW1]; exact Blk.new _ _ _
  rw [hW1]
  have G0 := Lib.hid g0
  have B1 := Lib.hid b1
  have c0 := b1.cell 0
  have c1 := b1.cell 1
  have c2 := b1.cell 2
  have c3 := b1.cell 3
  have c4 := b1.cell 4
  have c5 := b1.cell 5
  clear hW1 g0 b1
  go_wp2_with (first
   | (go_at_call 150; (with_reducible refine (H1.out _).mono ?_); rintro e w' ⟨rfl, rfl⟩)
   | (go_at_call 146; (with_reducible refine (H3.out _).mono ?_); rintro e w1 ⟨rfl, g1⟩; have m0 := (B1.out.ext g1).cell 4; have m1 := (B1.out.ext g1).cell 5; have G1 := Lib.hid (G0.out.trans (g1.mono G0.out.size)); clear g1)
   | (go_at_call 151; (with_reducible refine (H4.out _).mono ?_); rintro e w' ⟨rfl, rfl⟩))
  go_ret
  first
   | exact ⟨rfl, G1.out⟩
   | exact ⟨rfl, G0.out⟩
theorem spell_eq (x : Six) : isSpell x = ((rng x.a 1 99999 && rng x.c 0 99999) && rng x.b 1 2 && rng x.d x.c 99999 && okTimes x.e x.f) := by
 rw [Bool.eq_iff_iff]
 unfold isSpell rng
 simp only [Bool.and_eq_true, Bool.or_eq_true, decide_eq_true_eq]
 constructor
 ·rintro ⟨⟨⟨⟨⟨h1, h2⟩, h3⟩, h4⟩, h5⟩, h6⟩
  refine ⟨⟨⟨⟨h1, h3⟩, ?_⟩, ?_⟩, h6⟩ <;> omega
 ·rintro ⟨⟨⟨⟨h1, h3⟩, h2⟩, h4⟩, h6⟩
  refine ⟨⟨⟨⟨⟨h1, ?_⟩, h3⟩, ?_⟩, ?_⟩, h6⟩ <;> omega
set_option maxRecDepth 100000 in
set_option maxHeartbeats 4000000 in
theorem refSpell_any (x : Six) (w : World) : Calls Tryz.prog 72 #[sv x] w fun e w' => e = .returned (.int .i64 (err (isSpell x) 12)) ∧ Below w.heap.size w w' := by
 rw [spell_eq]
 unfold err
 have T1 := isAt_any x.a x.c
 have T2 := in_any x.b 1 2
 have T3 := in_any x.d x.c 99999
 have T4 := lasts_any x.e x.f
 generalize (rng x.a 1 99999 && rng x.c 0 99999) = b1 at T1 ⊢
 generalize rng x.b 1 2 = b2 at T2 ⊢
 generalize rng x.d x.c 99999 = b3 at T3 ⊢
 generalize okTimes x.e x.f = b4 at T4 ⊢
 cases b1 <;> cases b2 <;> cases b3 <;> cases b4
 all_goals
  have H1 := Lib.hid T1
  have H2 := Lib.hid T2
  have H3 := Lib.hid T3
  have H4 := Lib.hid T4
  clear T1 T2 T3 T4
  go_enter Tryz.func72, Tryz.ntmps72
  go_upto_region 1 with fail
  obtain ⟨W1, hW1⟩ : ∃ W1, w.alloc (.cells #[.int .i64 x.a, .int .i64 x.b, .int .i64 x.c, .int .i64 x.d, .int .i64 x.e, .int .i64 x.f] 107) = W1 := ⟨_, rfl⟩
  have g0 : Below w.heap.size w W1 := by rw [← hW1]; exact one_more _ _
  have b1 : Blk W1 w.heap.size 107 #[.int .i64 x.a, .int .i64 x.b, .int .i64 x.c, .int .i64 x.d, .int .i64 x.e, .int .i64 x.f] := by rw [← hW1]; exact Blk.new _ _ _
  rw [hW1]
  have G0 := Lib.hid g0
  have c0 := b1.cell 0
  have c1 := b1.cell 1
  have c2 := b1.cell 2
  have c3 := b1.cell 3
  have c4 := b1.cell 4
  have c5 := b1.cell 5
  clear hW1 g0 b1
  go_wp2_with (first
   | (go_at_call 150; (with_reducible refine (H1.out _).mono ?_); rintro e w' ⟨rfl, rfl⟩)
   | (go_at_call 131; (with_reducible refine (H2.out _).mono ?_); rintro e w' ⟨rfl, rfl⟩)
   | (go_at_call 131; (with_reducible refine (H3.out _).mono ?_); rintro e w' ⟨rfl, rfl⟩)
   | (go_at_call 151; (with_reducible refine (H4.out _).mono ?_); rintro e w' ⟨rfl, rfl⟩))
  go_ret
  exact ⟨rfl, G0.out⟩
end Go.Proofs.YtkoejeghihcmlaaGreat
