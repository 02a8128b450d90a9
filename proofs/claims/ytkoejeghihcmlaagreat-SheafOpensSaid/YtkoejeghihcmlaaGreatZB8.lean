/- Part of the proof: UO, UP, VK, VJ, XQ. -/
import Derived.Test.YtkoejeghihcmlaaGreatZA7
import Derived.Test.YtkoejeghihcmlaaGreatZA9
import Derived.Test.YtkoejeghihcmlaaGreatZB0
import Derived.Test.YtkoejeghihcmlaaGreatZB5
namespace Go.Proofs.YtkoejeghihcmlaaGreat
open Go.RowKit Go.Shelf
/-- What one element does to the list and to the mark. -/
def putS (n : Int) (s : List Int × Bool) (x : Int) : List Int × Bool :=
 let t := if decide (n ≤ x) && !s.2 then (s.1 ++ [n], true) else s
 if x = n then t else (t.1 ++ [x], t.2)
def putL (l : List Int) (n : Int) : List Int :=
 let s := l.foldl (putS n) ([], false)
 if s.2 then s.1 else s.1 ++ [n]
theorem putS1 {n x : Int} {acc : List Int} (_ : n ≤ x) (e : x = n) : putS n (acc, false) x = (acc ++ [n], true) := by unfold putS; simp [e]
theorem putS2 {n x : Int} {acc : List Int} (h : n ≤ x) (e : ¬ x = n) : putS n (acc, false) x = (acc ++ [n] ++ [x], true) := by unfold putS; simp [h, e]
theorem putS3 {n x : Int} {acc : List Int} {b : Bool} (h : b = true ∨ ¬ n ≤ x) (e : x = n) : putS n (acc, b) x = (acc, b) := by
 subst e
 have hb : b = true := by rcases h with h | h; exact h; exact absurd (Int.le_refl _) h
 unfold putS; simp [hb]
theorem putS4 {n x : Int} {acc : List Int} {b : Bool} (h : b = true ∨ ¬ n ≤ x) (e : ¬ x = n) : putS n (acc, b) x = (acc ++ [x], b) := by
 unfold putS
 rcases h with h | h
 ·simp [h, e]
 ·have : decide (n ≤ x) = false := by simpa using h
  simp [this, e]
theorem putS_len (n x : Int) (s : List Int × Bool) : (putS n s x).1.length ≤ s.1.length + 2 := by
 unfold putS
 dsimp only
 split <;> split <;> simp
theorem putF_len (n : Int) : ∀ (l : List Int) (s : List Int × Bool), (l.foldl (putS n) s).1.length ≤ s.1.length + 2 * l.length
 | [], _ => by simp
 | x :: l, s => by
  have h1 := putF_len n l (putS n s x)
  have h2 := putS_len n x s
  simp only [List.foldl_cons, List.length_cons]
  omega
theorem putF_snoc {n : Int} {l : List Int} {k : Nat} (hk : k < l.length) (s : List Int × Bool) : (l.take (k + 1)).foldl (putS n) s = putS n ((l.take k).foldl (putS n) s) (l.getD k 0) := by
 rw [List.take_succ_eq_append_getElem hk, List.foldl_append]
 simp [List.getD_eq_getElem?_getD, List.getElem?_eq_getElem hk]
set_option maxRecDepth 100000 in
set_option maxHeartbeats 4000000 in
theorem refPut_any (A : Option Addr) (n0 c0 : Nat) (l : List Int) (n : Int) (w : World) (hl : Ints w A n0 l) (hn : n0 ≤ 1000) :
  Calls Tryz.prog 126 #[.slice A n0 c0, .int .i64 n] w fun e w' => (∃ v, e = .returned v ∧ OwnL icells 1 3 w' w.heap.size v (putL l n)) ∧ Below w.heap.size w w' := by
 have HL := Lib.hid hl
 have HLEN0 := Lib.hid hl.1
 have HPL := Lib.hid (show putL l n = if (l.foldl (putS n) ([], false)).2 then (l.foldl (putS n) ([], false)).1 else (l.foldl (putS n) ([], false)).1 ++ [n] from rfl)
 have HGZ := Lib.hid (Below.refl w.heap.size w)
 have OS0 := Lib.hid (OwnL.nil (f := icells) (size := 1) (e := 3) w w.heap.size)
 obtain ⟨res, hres⟩ : ∃ r, putL l n = r := ⟨_, rfl⟩
 rw [hres] at HPL ⊢
 clear hl hres
 go_enter Tryz.func126, Tryz.ntmps126
 go_wp2_with fail
 go_loopw [5, 6, 7] (fun v d i wr => ∃ (k : Nat) (u : Value) (b : Bool) (acc : List Int), u = v ∧ d = .bool b ∧ i = .int .i64 k ∧ k ≤ n0 ∧ Below w.heap.size w wr ∧ OwnL icells 1 3 wr w.heap.size v acc ∧ (l.take k).foldl (putS n) ([], false) = (acc, b)) (fun _ _ i _ => n0 - (intOf i).toNat)
 case atStart => exact ⟨0, _, false, [], rfl, rfl, rfl, Nat.zero_le _, HGZ.out, OS0.out, by simp⟩
 case round =>
  obtain ⟨k, u, b, acc, rfl, rfl, rfl, hk, hg, hown, hst⟩ := hrel
  have HG := Lib.hid hg
  have HO := Lib.hid hown
  have HST := Lib.hid hst
  clear hst
  by_cases hkn : k < n0
  ·obtain ⟨b0, o0, rfl, -, -, hc⟩ := ints_at (HL.out.below hg) hkn
   have HC := Lib.hid hc
   have x0 := hc _ (Below.refl _ _)
   have HLB := Lib.hid (show acc.length + 2 ≤ 1000000 by
    have h1 := putF_len n (l.take k) ([], false)
    rw [HST.out] at h1
    simp only [List.length_nil, List.length_take] at h1
    omega)
   have HN := Lib.hid (show (l.take (k + 1)).foldl (putS n) ([], false) = putS n (acc, b) (l.getD k 0) by rw [putF_snoc (by rw [HLEN0.out]; exact hkn), HST.out])
   obtain ⟨x, hxg⟩ : ∃ x, l.getD k 0 = x := ⟨_, rfl⟩
   have HXG := Lib.hid hxg
   rw [hxg] at x0 HN
   have hki : (k : Int) < (n0 : Int) := by omega
   have hws := HG.out.size
   have hk9 : k < 1000 := by omega
   have HKN := Lib.hid hkn
   clear hc hxg hg hown hkn
   have HXV := Lib.hid (fun (V : World) (g : Below w.heap.size w V) => (show V.cell? ⟨b0, o0 + k, none⟩ = some (.int .i64 x) by
    obtain ⟨b9, o9, e9, -, -, h9⟩ := ints_at (HL.out.below g) HKN.out
    cases e9
    have := h9 _ (Below.refl _ _)
    rwa [HXG.out] at this))
   by_cases hle : n ≤ x
   ·have E1 := Lib.hid hle
    have e1 : n ≤ x := hle
    clear hle
    cases b
    case false =>
     have E2 := Lib.hid (show (true = true) from rfl)
     by_cases hx : x = n
     ·have E3 := Lib.hid hx
      have e3 : (x != n) = false := by simp [hx]
      clear hx
      have OX1 := Lib.hid (HO.out.ext (one_more wr (.cells #[.int .i64 n] 3)))
      have IX1 := Lib.hid (one_int (Blk.new wr 3 #[.int .i64 n]))
      go_wp2_with (at_builtin; go_loud (refine wpList_app kdI (by rfl) _ _ (by rfl) w.heap.size _ acc (by rfl) OX1.out _ 1 1 [n] (by rfl) IX1.out (by have := HLB.out; omega) (by simp; omega) ?_); intro v1 w1 ho hbw hz; have HO1 := Lib.hid ho; have HB1 := Lib.hid (((HG.out.trans ((one_more wr _).mono HG.out.size)).trans ((OX1.out).below hbw (B := w.heap.size) (Nat.le_refl _) (by simp; omega)))); have x1 := HXV.out w1 HB1.out; clear ho hbw hz)
      go_roundw
      case rel => exact ⟨k + 1, _, true, _, rfl, rfl, by go_num, by omega, HB1.out, HO1.out, by rw [HN.out]; first | exact putS1 E1.out E3.out | exact putS2 E1.out E3.out | exact putS3 (.inl rfl) E3.out | exact putS4 (.inl rfl) E3.out | exact putS3 (.inr E1.out) E3.out | exact putS4 (.inr E1.out) E3.out⟩
      case measure => simp [intOf]; omega
     ·have E3 := Lib.hid hx
      have e3 : (x != n) = true := by simpa using hx
      clear hx
      have OX1 := Lib.hid (HO.out.ext (one_more wr (.cells #[.int .i64 n] 3)))
      have IX1 := Lib.hid (one_int (Blk.new wr 3 #[.int .i64 n]))
      go_wp2_with (first
       | (at_builtin; go_loud (refine wpList_app kdI (by rfl) _ _ (by rfl) w.heap.size _ acc (by rfl) OX1.out _ 1 1 [n] (by rfl) IX1.out (by have := HLB.out; omega) (by simp; omega) ?_); intro v1 w1 ho hbw hz; have HO1 := Lib.hid ho; have HB1 := Lib.hid ((HG.out.trans ((one_more wr _).mono HG.out.size)).trans ((OX1.out).below hbw (B := w.heap.size) (Nat.le_refl _) (by simp; omega))); have HS1 := HB1.out.size; have x1 := HXV.out w1 HB1.out; have OX2 := Lib.hid (HO1.out.ext (one_more w1 (.cells #[.int .i64 x] 3))); have IX2 := Lib.hid (one_int (Blk.new w1 3 #[.int .i64 x])); clear ho hbw hz)
       | (at_builtin; go_loud (refine wpList_app kdI (by rfl) _ _ (by rfl) w.heap.size _ (acc ++ [n]) (by rfl) OX2.out _ 1 1 [x] (by rfl) IX2.out (by have := HLB.out; first | omega | (simp only [List.length_append, List.length_cons, List.length_nil]; omega)) (by have := HB1.out.size; simp; omega) ?_); intro v2 w2 ho hbw hz; have HO2 := Lib.hid ho; have HB2 := Lib.hid ((HB1.out.trans ((one_more w1 _).mono HB1.out.size)).trans ((OX2.out).below hbw (B := w.heap.size) (Nat.le_refl _) (by have := HB1.out.size; simp; omega))); clear ho hbw hz))
      go_roundw
      case rel => exact ⟨k + 1, _, true, _, rfl, rfl, by go_num, by omega, HB2.out, HO2.out, by rw [HN.out]; first | exact putS1 E1.out E3.out | exact putS2 E1.out E3.out | exact putS3 (.inl rfl) E3.out | exact putS4 (.inl rfl) E3.out | exact putS3 (.inr E1.out) E3.out | exact putS4 (.inr E1.out) E3.out⟩
      case measure => simp [intOf]; omega
    case true =>
     have E2 := Lib.hid (show (true = true) from rfl)
     by_cases hx : x = n
     ·have E3 := Lib.hid hx
      have e3 : (x != n) = false := by simp [hx]
      clear hx
      go_wp2_with fail
      go_roundw
      case rel => exact ⟨k + 1, _, _, _, rfl, rfl, by go_num, by omega, HG.out, HO.out, by rw [HN.out]; first | exact putS1 E1.out E3.out | exact putS2 E1.out E3.out | exact putS3 (.inl rfl) E3.out | exact putS4 (.inl rfl) E3.out | exact putS3 (.inr E1.out) E3.out | exact putS4 (.inr E1.out) E3.out⟩
      case measure => simp [intOf]; omega
     ·have E3 := Lib.hid hx
      have e3 : (x != n) = true := by simpa using hx
      clear hx
      have OX2 := Lib.hid (HO.out.ext (one_more wr (.cells #[.int .i64 x] 3)))
      have IX2 := Lib.hid (one_int (Blk.new wr 3 #[.int .i64 x]))
      go_wp2_with (at_builtin; go_loud (refine wpList_app kdI (by rfl) _ _ (by rfl) w.heap.size _ acc (by rfl) OX2.out _ 1 1 [x] (by rfl) IX2.out (by have := HLB.out; first | omega | (simp only [List.length_append, List.length_cons, List.length_nil]; omega)) (by have := HG.out.size; simp; omega) ?_); intro v2 w2 ho hbw hz; have HO2 := Lib.hid ho; have HB2 := Lib.hid ((HG.out.trans ((one_more wr _).mono HG.out.size)).trans ((OX2.out).below hbw (B := w.heap.size) (Nat.le_refl _) (by have := HG.out.size; simp; omega))); clear ho hbw hz)
      go_roundw
      case rel => exact ⟨k + 1, _, _, _, rfl, rfl, by go_num, by omega, HB2.out, HO2.out, by rw [HN.out]; first | exact putS1 E1.out E3.out | exact putS2 E1.out E3.out | exact putS3 (.inl rfl) E3.out | exact putS4 (.inl rfl) E3.out | exact putS3 (.inr E1.out) E3.out | exact putS4 (.inr E1.out) E3.out⟩
      case measure => simp [intOf]; omega
   ·have E1 := Lib.hid hle
    have e1 : decide (n ≤ x) = false := by simpa using hle
    have E2 := Lib.hid (show (true = true) from rfl)
    clear hle
    by_cases hx : x = n
    ·have E3 := Lib.hid hx
     have e3 : (x != n) = false := by simp [hx]
     clear hx
     go_wp2_with fail
     go_roundw
     case rel => exact ⟨k + 1, _, _, _, rfl, rfl, by go_num, by omega, HG.out, HO.out, by rw [HN.out]; first | exact putS1 E1.out E3.out | exact putS2 E1.out E3.out | exact putS3 (.inl rfl) E3.out | exact putS4 (.inl rfl) E3.out | exact putS3 (.inr E1.out) E3.out | exact putS4 (.inr E1.out) E3.out⟩
     case measure => simp [intOf]; omega
    ·have E3 := Lib.hid hx
     have e3 : (x != n) = true := by simpa using hx
     clear hx
     have OX2 := Lib.hid (HO.out.ext (one_more wr (.cells #[.int .i64 x] 3)))
     have IX2 := Lib.hid (one_int (Blk.new wr 3 #[.int .i64 x]))
     go_wp2_with (at_builtin; go_loud (refine wpList_app kdI (by rfl) _ _ (by rfl) w.heap.size _ acc (by rfl) OX2.out _ 1 1 [x] (by rfl) IX2.out (by have := HLB.out; first | omega | (simp only [List.length_append, List.length_cons, List.length_nil]; omega)) (by have := HG.out.size; simp; omega) ?_); intro v2 w2 ho hbw hz; have HO2 := Lib.hid ho; have HB2 := Lib.hid ((HG.out.trans ((one_more wr _).mono HG.out.size)).trans ((OX2.out).below hbw (B := w.heap.size) (Nat.le_refl _) (by have := HG.out.size; simp; omega))); clear ho hbw hz)
     go_roundw
     case rel => exact ⟨k + 1, _, _, _, rfl, rfl, by go_num, by omega, HB2.out, HO2.out, by rw [HN.out]; first | exact putS1 E1.out E3.out | exact putS2 E1.out E3.out | exact putS3 (.inl rfl) E3.out | exact putS4 (.inl rfl) E3.out | exact putS3 (.inr E1.out) E3.out | exact putS4 (.inr E1.out) E3.out⟩
     case measure => simp [intOf]; omega
  ·obtain rfl : n0 = k := by omega
   have HEND := Lib.hid (show l.foldl (putS n) ([], false) = (acc, b) by have := HST.out; rwa [List.take_of_length_le (by rw [HLEN0.out]; exact Nat.le_refl _)] at this)
   have HRE := Lib.hid (show res = if b = true then acc else acc ++ [n] by rw [HPL.out, HEND.out])
   have hws := HG.out.size
   have HLB := Lib.hid (show acc.length + 2 ≤ 1000000 by
    have h1 := putF_len n l ([], false)
    rw [HEND.out] at h1
    simp only [List.length_nil] at h1
    have := HLEN0.out
    omega)
   clear hkn hk hg hown
   cases b
   case false =>
    have OX1 := Lib.hid (HO.out.ext (one_more wr (.cells #[.int .i64 n] 3)))
    have IX1 := Lib.hid (one_int (Blk.new wr 3 #[.int .i64 n]))
    go_wp2_with (at_builtin; go_loud (refine wpList_app kdI (by rfl) _ _ (by rfl) w.heap.size _ acc (by rfl) OX1.out _ 1 1 [n] (by rfl) IX1.out (by have := HLB.out; omega) (by simp; omega) ?_); intro v1 w1 ho hbw hz; have HO1 := Lib.hid ho; have HB1 := Lib.hid ((HG.out.trans ((one_more wr _).mono HG.out.size)).trans ((OX1.out).below hbw (B := w.heap.size) (Nat.le_refl _) (by simp; omega))); clear ho hbw hz)
    go_ret
    exact ⟨⟨_, rfl, by rw [HRE.out]; exact HO1.out⟩, HB1.out⟩
   case true =>
    go_wp2_with fail
    go_ret
    exact ⟨⟨_, rfl, by rw [HRE.out]; exact HO.out⟩, HG.out⟩
end Go.Proofs.YtkoejeghihcmlaaGreat

namespace Go.Proofs.YtkoejeghihcmlaaGreat
open Go.RowKit Go.Shelf
theorem putS_room (n x : Int) (s : List Int × Bool) : (putS n s x).1.length + (!(putS n s x).2).toNat ≤ s.1.length + (!s.2).toNat + 1 := by
 obtain ⟨a, b⟩ := s
 unfold putS
 dsimp only
 by_cases h1 : n ≤ x <;> by_cases h2 : x = n <;> cases b <;> simp [h1, h2]
theorem putF_room (n : Int) : ∀ (l : List Int) (s : List Int × Bool), (l.foldl (putS n) s).1.length + (!(l.foldl (putS n) s).2).toNat ≤ s.1.length + (!s.2).toNat + l.length
 | [], _ => Nat.le_refl _
 | x :: l, s => by
  have h1 := putF_room n l (putS n s x)
  have h2 := putS_room n x s
  simp only [List.foldl_cons, List.length_cons]
  omega
theorem putL_len (l : List Int) (n : Int) : (putL l n).length ≤ l.length + 1 := by
 have h := putF_room n l ([], false)
 unfold putL
 dsimp only at h ⊢
 obtain ⟨r, hr⟩ : ∃ r, l.foldl (putS n) ([], false) = r := ⟨_, rfl⟩
 rw [hr] at h ⊢
 obtain ⟨a, b⟩ := r
 cases b <;> simp at h ⊢ <;> omega
/-- The number put where it belongs. -/
def insI (n : Int) : List Int → List Int
 | [] => [n]
 | x :: l => if n ≤ x then n :: x :: l else x :: insI n l
theorem putF_done (n : Int) : ∀ (l acc : List Int), n ∉ l → l.foldl (putS n) (acc, true) = (acc ++ l, true)
 | [], acc, _ => by simp
 | x :: l, acc, h => by
  have h1 : ¬ x = n := fun e => h (by simp [e])
  rw [List.foldl_cons, putS4 (.inl rfl) h1, putF_done n l _ (fun e => h (List.mem_cons_of_mem _ e))]
  simp
theorem putF_ins (n : Int) : ∀ (l acc : List Int), n ∉ l → (if (l.foldl (putS n) (acc, false)).2 = true then (l.foldl (putS n) (acc, false)).1 else (l.foldl (putS n) (acc, false)).1 ++ [n]) = acc ++ insI n l
 | [], acc, _ => by simp [insI]
 | x :: l, acc, h => by
  have h1 : ¬ x = n := fun e => h (by simp [e])
  have h2 : n ∉ l := fun e => h (List.mem_cons_of_mem _ e)
  rw [List.foldl_cons]
  unfold insI
  by_cases hn : n ≤ x
  ·rw [putS2 hn h1, putF_done n l _ h2, if_pos hn]
   simp
  ·rw [putS4 (.inr hn) h1, putF_ins n l _ h2, if_neg hn]
   simp
theorem putL_ins {n : Int} {l : List Int} (h : n ∉ l) : putL l n = insI n l := by
 have := putF_ins n l [] h
 rwa [List.nil_append] at this
theorem insI_perm (n : Int) : ∀ l : List Int, List.Perm (insI n l) (n :: l)
 | [] => List.Perm.refl _
 | x :: l => by
  unfold insI
  split
  ·exact List.Perm.refl _
  ·exact ((insI_perm n l).cons x).trans (List.Perm.swap n x l)
theorem insI_up {n : Int} : ∀ {l : List Int}, n ∉ l → l.Pairwise (· < ·) → (insI n l).Pairwise (· < ·)
 | [], _, _ => by simp [insI]
 | x :: l, h, hp => by
  have h1 : ¬ x = n := fun e => h (by simp [e])
  have h2 : n ∉ l := fun e => h (List.mem_cons_of_mem _ e)
  obtain ⟨hx, hl⟩ := List.pairwise_cons.1 hp
  unfold insI
  split
  ·rename_i hn
   refine List.pairwise_cons.2 ⟨fun y hy => ?_, hp⟩
   rcases List.mem_cons.1 hy with rfl | hy
   ·omega
   ·have := hx y hy; omega
  ·rename_i hn
   refine List.pairwise_cons.2 ⟨fun y hy => ?_, insI_up h2 hl⟩
   rcases List.mem_cons.1 ((insI_perm n l).mem_iff.1 hy) with rfl | hy
   ·omega
   ·exact hx y hy
end Go.Proofs.YtkoejeghihcmlaaGreat

namespace Go.Proofs.YtkoejeghihcmlaaGreat
open Go.RowKit Go.Shelf
theorem putF_low (n : Int) : ∀ (l acc : List Int), (∀ x ∈ l, x < n) → l.foldl (putS n) (acc, false) = (acc ++ l, false)
 | [], acc, _ => by simp
 | x :: l, acc, h => by
  have h1 : ¬ n ≤ x := by have := h x (by simp); omega
  rw [List.foldl_cons, putS4 (.inr h1) (fun e => by omega), putF_low n l _ (fun y hy => h y (List.mem_cons_of_mem _ hy))]
  simp
/-- A rising list that has the number stays. -/
theorem putL_same {n : Int} {l : List Int} (hp : l.Pairwise (· < ·)) (h : n ∈ l) : putL l n = l := by
 obtain ⟨a, b, rfl⟩ := List.append_of_mem h
 obtain ⟨-, h2, h3⟩ := List.pairwise_append.1 hp
 have h4 := (List.pairwise_cons.1 h2).1
 have e : (a ++ n :: b).foldl (putS n) ([], false) = (a ++ n :: b, true) := by
  rw [List.foldl_append, putF_low n a [] (fun x hx => h3 x hx n (by simp)), List.foldl_cons, putS1 (Int.le_refl _) rfl, putF_done n b _ (fun e => by have := h4 n e; omega)]
  simp
 unfold putL
 rw [e]
 rfl
theorem putL_mem {n x : Int} {l : List Int} (hp : l.Pairwise (· < ·)) : x ∈ putL l n ↔ x = n ∨ x ∈ l := by
 by_cases h : n ∈ l
 ·rw [putL_same hp h]
  constructor
  ·exact .inr
  ·rintro (rfl | h1)
   ·exact h
   ·exact h1
 ·rw [putL_ins h, (insI_perm n l).mem_iff, List.mem_cons]
theorem putL_up {n : Int} {l : List Int} (hp : l.Pairwise (· < ·)) : (putL l n).Pairwise (· < ·) := by
 by_cases h : n ∈ l
 ·rw [putL_same hp h]; exact hp
 ·rw [putL_ins h]; exact insI_up h hp
/-- Strictly rising lists with the same members are equal. -/
theorem rise_ext : ∀ {l m : List Int}, l.Pairwise (· < ·) → m.Pairwise (· < ·) → (∀ x, x ∈ l ↔ x ∈ m) → l = m
 | [], [], _, _, _ => rfl
 | [], y :: m, _, _, h => by have := (h y).2 (by simp); cases this
 | x :: l, [], _, _, h => by have := (h x).1 (by simp); cases this
 | x :: l, y :: m, hl, hm, h => by
  obtain ⟨h1, h2⟩ := List.pairwise_cons.1 hl
  obtain ⟨h3, h4⟩ := List.pairwise_cons.1 hm
  have e : x = y := by
   rcases List.mem_cons.1 ((h x).1 (by simp)) with e | e
   ·exact e
   ·rcases List.mem_cons.1 ((h y).2 (by simp)) with e2 | e2
    ·exact e2.symm
    ·have a := h3 x e
     have b := h1 y e2
     omega
  subst e
  congr 1
  refine rise_ext h2 h4 (fun z => ?_)
  constructor
  ·intro hz
   rcases List.mem_cons.1 ((h z).1 (List.mem_cons_of_mem _ hz)) with e | e
   ·have := h1 z hz; omega
   ·exact e
  ·intro hz
   rcases List.mem_cons.1 ((h z).2 (List.mem_cons_of_mem _ hz)) with e | e
   ·have := h3 z hz; omega
   ·exact e
theorem compact_up {l : List Int} (h : l.Pairwise (· ≤ ·)) : (Lib.compact l).Pairwise (· < ·) := by
 unfold Lib.compact Lib.compactUpTo
 rw [List.pairwise_map]
 refine List.Pairwise.imp_of_mem ?_ (List.Pairwise.filter _ List.pairwise_lt_range)
 intro i j hi hj hij
 have hj1 := (List.mem_filter.1 hj)
 have hjl := List.mem_range.1 hj1.1
 have hk := hj1.2
 unfold Lib.keeps at hk
 rw [decide_eq_true_eq] at hk
 have h1 : l.toArray[j]! ≠ l.toArray[j - 1]! := by
  rcases hk with e | e
  ·omega
  ·exact e
 have g : ∀ t, t < l.length → l.toArray[t]! = l.getD t 0 := fun t ht => by simp [ht, List.getD_eq_getElem?_getD]
 rw [g j hjl, g (j - 1) (by omega)] at h1
 show l.toArray[i]! < l.toArray[j]!
 rw [g i (by omega), g j hjl]
 have mono : ∀ a b, a ≤ b → b < l.length → l.getD a 0 ≤ l.getD b 0 := fun a b hab hb => by
  by_cases e : a = b
  ·subst e; exact Int.le_refl _
  ·have := List.pairwise_iff_getElem.1 h a b (by omega) hb (by omega)
   rw [List.getD_eq_getElem?_getD, List.getD_eq_getElem?_getD, List.getElem?_eq_getElem (by omega), List.getElem?_eq_getElem hb]
   exact this
 have a1 := mono i (j - 1) (by omega) (by omega)
 have a2 := mono (j - 1) j (by omega) hjl
 omega
/-- The reference's Moved, as far as it has come. -/
def rmK (p : Pl) (source known : Int) : Nat → List Int
 | 0 => []
 | k + 1 => if sameAt p (withoutP p source) known (p.loads.getD k z6).b = true then rmK p source known k else putL (rmK p source known k) (p.loads.getD k z6).b
theorem rmK_up (p : Pl) (source known : Int) : ∀ k, (rmK p source known k).Pairwise (· < ·)
 | 0 => List.Pairwise.nil
 | k + 1 => by
  unfold rmK
  split
  ·exact rmK_up p source known k
  ·exact putL_up (rmK_up p source known k)
theorem rmK_mem {p : Pl} {source known x : Int} : ∀ {k}, x ∈ rmK p source known k ↔ ∃ j, j < k ∧ (p.loads.getD j z6).b = x ∧ sameAt p (withoutP p source) known x = false
 | 0 => by
  constructor
  ·intro h; cases h
  ·rintro ⟨j, h, -⟩; omega
 | k + 1 => by
  have ih := rmK_mem (p := p) (source := source) (known := known) (x := x) (k := k)
  unfold rmK
  cases hs : sameAt p (withoutP p source) known (p.loads.getD k z6).b with
  | true =>
   rw [if_pos rfl, ih]
   constructor
   ·rintro ⟨j, h1, h2⟩; exact ⟨j, by omega, h2⟩
   ·rintro ⟨j, h1, h2, h3⟩
    by_cases e : j = k
    ·subst e; rw [h2, h3] at hs; cases hs
    ·exact ⟨j, by omega, h2, h3⟩
  | false =>
   rw [if_neg (by decide), putL_mem (rmK_up _ _ _ _), ih]
   constructor
   ·rintro (rfl | ⟨j, h1, h2⟩)
    ·exact ⟨k, by omega, rfl, hs⟩
    ·exact ⟨j, by omega, h2⟩
   ·rintro ⟨j, h1, h2, h3⟩
    by_cases e : j = k
    ·subst e; exact .inl h2.symm
    ·exact .inr ⟨j, by omega, h2, h3⟩
theorem rmK_len (p : Pl) (source known : Int) : ∀ k, (rmK p source known k).length ≤ k
 | 0 => Nat.le_refl _
 | k + 1 => by
  have ih := rmK_len p source known k
  unfold rmK
  split
  ·omega
  ·have := putL_len (rmK p source known k) (p.loads.getD k z6).b; omega
theorem rm_moved {p : Pl} {source known : Int} (h : movedE p source known = 0) : rmK p source known p.loads.length = movedL p source known := by
 unfold movedL
 rw [if_pos h]
 refine rise_ext (rmK_up _ _ _ _) (List.Pairwise.filter _ (compact_up (srt_up _))) (fun x => ?_)
 rw [rmK_mem, List.mem_filter]
 constructor
 ·rintro ⟨j, h1, h2, h3⟩
  exact ⟨by rw [← h2]; exact hour_in h1, by rw [h3]; rfl⟩
 ·rintro ⟨h1, h2⟩
  unfold hoursL at h1
  rw [mem_compact, mem_srt] at h1
  unfold colL at h1
  obtain ⟨y, hy, e⟩ := List.mem_map.1 h1
  have hy := (List.mem_filter.1 hy).1
  obtain ⟨j, hj, rfl⟩ := List.getElem_of_mem hy
  exact ⟨j, hj, by rw [six_get hj]; exact e, by simpa using h2⟩
theorem hasI_perm {l m : List Int} (h : ∀ x, x ∈ l ↔ x ∈ m) (s : Int) : hasI l s = hasI m s := by
 rw [Bool.eq_iff_iff, hasI_iff, hasI_iff, h]
theorem src_all (p : Pl) (s : Int) : hasI (srcs3 p) s = hasI (srcsAll p) s :=
 hasI_perm (fun x => by unfold srcsAll; rw [mem_srt]; rfl) s
end Go.Proofs.YtkoejeghihcmlaaGreat

namespace Go.Proofs.YtkoejeghihcmlaaGreat
open Go.RowKit Go.Shelf
def woL (s : Int) (l : List Six) : List Six := l.filter fun x => !isSrc s x
theorem wo_yes {s : Int} {l : List Six} {k : Nat} (hk : k < l.length) (h : (l.getD k z6).a ≠ s) : woL s (l.take (k + 1)) = woL s (l.take k) ++ [l.getD k z6] := by
 unfold woL
 have h2 : isSrc s (l.getD k z6) = false := by rw [← Bool.not_eq_true, isSrc_iff]; exact h
 rw [six_get hk] at h2 ⊢
 rw [List.take_succ_eq_append_getElem hk, List.filter_append, List.filter_cons_of_pos (by simp [h2])]
 rfl
theorem wo_no {s : Int} {l : List Six} {k : Nat} (hk : k < l.length) (h : (l.getD k z6).a = s) : woL s (l.take (k + 1)) = woL s (l.take k) := by
 unfold woL
 have h2 : isSrc s (l.getD k z6) = true := isSrc_iff.2 h
 rw [six_get hk] at h2
 rw [List.take_succ_eq_append_getElem hk, List.filter_append, List.filter_cons_of_neg (by simp [h2])]
 simp
theorem wo_len (s : Int) (l : List Six) : (woL s l).length ≤ l.length := List.length_filter_le _ _
theorem own_setAll6 {e : TypeId} {w : World} {base b : Nat} {v : Value} {xs : List Six} (h : OwnL scells 6 e w base v xs) (hb : b < base) (a0 a1 a2 a3 a4 a5 : Value) : OwnL scells 6 e ((((((w.setCell ⟨b, 0, none⟩ a0).setCell ⟨b, 1, none⟩ a1).setCell ⟨b, 2, none⟩ a2).setCell ⟨b, 3, none⟩ a3).setCell ⟨b, 4, none⟩ a4).setCell ⟨b, 5, none⟩ a5) base v xs :=
 (((((h.far (p := ⟨b, 0, none⟩) hb _).far (p := ⟨b, 1, none⟩) hb _).far (p := ⟨b, 2, none⟩) hb _).far (p := ⟨b, 3, none⟩) hb _).far (p := ⟨b, 4, none⟩) hb _).far (p := ⟨b, 5, none⟩) hb _
/-- The plot that lies at a row stays where the result is written. -/
theorem nw_end {w0 W : World} {bb b : Nat} {v1 v2 v3 : Value} {p : Pl} {F1 F2 F3 : Option Addr} {a1 f1 a2 f2 a3 f3 : Nat} (h : Nw w0 bb p.lo p.hi p.geese W v1 v2 v3 p.loads p.stands p.spells) (hb : b < bb + 1)
  (hp : Blk W bb 38 (plb p F1 F2 F3 a1 f1 a2 f2 a3 f3)) (hpa : Pa W p F1 F2 F3 a1 f1 a2 f2 a3 f3) : ∀ X, Below W.heap.size W X → Pa ((((((X.setCell ⟨b, 0, none⟩ (.int .i64 p.lo)).setCell ⟨b, 1, none⟩ (.int .i64 p.hi)).setCell ⟨b, 2, none⟩ (.slice F1 a1 f1)).setCell ⟨b, 3, none⟩ (.slice F2 a2 f2)).setCell ⟨b, 4, none⟩ (.slice F3 a3 f3)).setCell ⟨b, 5, none⟩ (.int .i64 p.geese)) p F1 F2 F3 a1 f1 a2 f2 a3 f3 := by
 intro X g
 have e := h.p
 unfold Blk at e hp
 rw [e] at hp
 simp only [Option.some.injEq, Obj.cells.injEq, Array.mk.injEq, List.cons.injEq] at hp
 obtain ⟨⟨-, -, e1, e2, e3, -⟩, -⟩ := hp
 subst e1 e2 e3
 have o1 := own_setAll6 (h.o1.ext g) hb (.int .i64 p.lo) (.int .i64 p.hi) (.slice F1 a1 f1) (.slice F2 a2 f2) (.slice F3 a3 f3) (.int .i64 p.geese)
 have o2 := own_setAll6 (h.o2.ext g) hb (.int .i64 p.lo) (.int .i64 p.hi) (.slice F1 a1 f1) (.slice F2 a2 f2) (.slice F3 a3 f3) (.int .i64 p.geese)
 have o3 := own_setAll6 (h.o3.ext g) hb (.int .i64 p.lo) (.int .i64 p.hi) (.slice F1 a1 f1) (.slice F2 a2 f2) (.slice F3 a3 f3) (.int .i64 p.geese)
 obtain ⟨D1, d1, q1, -, -, i1, -⟩ := OwnL.arr kdL o1
 obtain ⟨D2, d2, q2, -, -, i2, -⟩ := OwnL.arr kdS o2
 obtain ⟨D3, d3, q3, -, -, i3, -⟩ := OwnL.arr kdP o3
 cases q1; cases q2; cases q3
 exact ⟨i1, i2, i3, hpa.m1, hpa.m2, hpa.m3⟩
set_option maxRecDepth 100000 in
set_option maxHeartbeats 16000000 in
theorem refWithoutP_any (P : Pl) (D1 D2 D3 : Option Addr) (m1 d1 m2 d2 m3 d3 : Nat) (so : Int) (w : World) (hp : Pa w P D1 D2 D3 m1 d1 m2 d2 m3 d3) (hnb : m1 ≤ 1000 ∧ m2 ≤ 1000 ∧ m3 ≤ 1000) :
  Calls Tryz.prog 125 #[plv P D1 D2 D3 m1 d1 m2 d2 m3 d3, .int .i64 so] w fun e w' => (∃ F1 a1 f1 F2 a2 f2 F3 a3 f3, e = .returned (.tuple #[plv (withoutP P so) F1 F2 F3 a1 f1 a2 f2 a3 f3, .bool (hasI (srcs3 P) so)]) ∧ Pa w' (withoutP P so) F1 F2 F3 a1 f1 a2 f2 a3 f3) ∧ Below w.heap.size w w' := by
 obtain ⟨W1, hW1⟩ : ∃ W1, (w.alloc (.cells (plb P D1 D2 D3 m1 d1 m2 d2 m3 d3) 38)).alloc (.cells #[.int .i64 0, .int .i64 0, .slice none 0 0, .slice none 0 0, .slice none 0 0, .int .i64 0] 38) = W1 := ⟨_, rfl⟩
 have g0 : Below w.heap.size w W1 := by rw [← hW1]; exact two_more _ _ _
 have BP := Lib.hid (show Blk W1 w.heap.size 38 (plb P D1 D2 D3 m1 d1 m2 d2 m3 d3) by rw [← hW1]; exact (Blk.new _ _ _).alloc _)
 have BR := Lib.hid (show Blk W1 (w.heap.size + 1) 38 #[.int .i64 0, .int .i64 0, .slice none 0 0, .slice none 0 0, .slice none 0 0, .int .i64 0] by
  rw [← hW1]
  have := Blk.new (w.alloc (.cells (plb P D1 D2 D3 m1 d1 m2 d2 m3 d3) 38)) 38 #[.int .i64 0, .int .i64 0, .slice none 0 0, .slice none 0 0, .slice none 0 0, .int .i64 0]
  rwa [World.size_alloc] at this)
 have HSZ := Lib.hid (show W1.heap.size = w.heap.size + 1 + 1 by rw [← hW1]; simp)
 have HPA := Lib.hid (hp.below g0)
 have HN60 := Lib.hid hnb
 have GA := Lib.hid g0
 have HW1 := Lib.hid hW1
 have HWP := Lib.hid (show withoutP P so = { P with loads := woL so P.loads, stands := woL so P.stands, spells := woL so P.spells } from rfl)
 have r0 := BP.out.cell 0
 have r1 := BP.out.cell 1
 have r5 := BP.out.cell 5
 clear hp g0 hW1 hnb
 have NW0 := Lib.hid (Nw.new W1 P.lo P.hi P.geese)
 go_enter Tryz.func125, Tryz.ntmps125
 go_upto_region 1 with fail
 rw [HW1.out]
 go_upto_region 2 with fail
 clear r0 r1 r5
 have hbl := BP.out.lt
 have qz := ((BP.out.ext NW0.out.g)).cell 2
 go_wp2_with fail
 clear qz
 go_loopw [7] (fun i wr => ∃ (k : Nat) (v : Value), i = .int .i64 k ∧ k ≤ m1 ∧ Nw W1 W1.heap.size P.lo P.hi P.geese wr v (.slice none 0 0) (.slice none 0 0) (woL so (P.loads.take k)) [] []) (fun i _ => m1 - (intOf i).toNat)
 case atStart => exact ⟨0, _, rfl, Nat.zero_le _, NW0.out⟩
 case round =>
  obtain ⟨k, v, rfl, hk, hn⟩ := hrel
  have HNW := Lib.hid hn
  clear hn
  have HG := Lib.hid HNW.out.g
  have hnb := HN60.out
  by_cases hkm : k < m1
  ·obtain ⟨b0, o0, e0, -, -, hc⟩ := six_at HPA.out.l1 hkm
   obtain ⟨x0, x1, x2, x3, x4, x5⟩ := hc _ HG.out
   have HLN := Lib.hid (show k < P.loads.length by rw [HPA.out.l1.1]; exact hkm)
   obtain ⟨x, hxg⟩ : ∃ x, P.loads.getD k z6 = x := ⟨_, rfl⟩
   rw [hxg] at x0 x1 x2 x3 x4 x5 hc
   have HXG := Lib.hid hxg
   subst e0
   have HC := Lib.hid hc
   clear hc hxg
   have q1 := (BP.out.ext HG.out).cell 2
   have hbw := HNW.out.p.lt
   by_cases hx : x.a = so
   ·have HNY := Lib.hid (wo_no (s := so) HLN.out (by rw [HXG.out]; exact hx))
    have hd : (x.a != so) = false := by simp [hx]
    clear hx
    go_wp2_with fail
    go_roundw
    case rel => exact ⟨k + 1, _, by go_num, by omega, by rw [HNY.out]; exact HNW.out⟩
    case measure => simp [intOf]; omega
   ·have HNY := Lib.hid (wo_yes (s := so) HLN.out (by rw [HXG.out]; exact hx))
    rw [HXG.out] at HNY
    have hd : (x.a != so) = true := by simpa using hx
    clear hx
    have HPL := Lib.hid (show (woL so (P.loads.take k)).length + 1 ≤ 1000000 by have h1 := wo_len so (P.loads.take k); rw [List.length_take] at h1; omega)
    obtain ⟨Av, cv, hv, -⟩ := OwnL.arr kdL HNW.out.o1
    obtain ⟨nv, hnv⟩ : ∃ q, (woL so (P.loads.take k)).length = q := ⟨_, rfl⟩
    rw [hnv] at hv
    subst hv
    have q2 := HNW.out.p.cell 2
    have HOX := Lib.hid (HNW.out.ext (one_more wr (.cells #[.int .i64 x.a, .int .i64 x.b, .int .i64 x.c, .int .i64 x.d, .int .i64 x.e, .int .i64 x.f] 103)))
    have HI1 := Lib.hid (six_one wr 103 x)
    clear hnv
    go_upto_region 6 with fail
    refine wp_region_uptoQ (S := fun V => V.cell? ⟨W1.heap.size, 2, none⟩ = some (.slice Av nv cv) ∧ V.cell? ⟨w.heap.size, 2, none⟩ = some (.slice (some ⟨b0, o0, none⟩) m1 d1) ∧ V.cell? ⟨b0, o0 + k * 6, none⟩ = some (.int .i64 x.a) ∧ V.cell? ⟨b0, o0 + k * 6 + 1, none⟩ = some (.int .i64 x.b) ∧ V.cell? ⟨b0, o0 + k * 6 + 2, none⟩ = some (.int .i64 x.c) ∧ V.cell? ⟨b0, o0 + k * 6 + 3, none⟩ = some (.int .i64 x.d) ∧ V.cell? ⟨b0, o0 + k * 6 + 4, none⟩ = some (.int .i64 x.e) ∧ V.cell? ⟨b0, o0 + k * 6 + 5, none⟩ = some (.int .i64 x.f)) 10 (by kernel_rfl) (⟨q2, q1, x0, x1, x2, x3, x4, x5⟩) (fun hHeld => ?_)
    (refine upto_take [1, 8, 10] (i := 0) (oi := ⟨_, _, _, _, _, _⟩) (d := some 30) (v := ?_) rfl rfl (by kernel_rfl) (by kernel_rfl) (fun _ _ _ h => h) (by rfl) ?_ (by assumption) ?_; rotate_left; (focus (intro w hSw; (try dsimp only at hSw); go_simp; try with_reducible rfl)); (try simp only [Act.put, List.setIfInBounds_toArray, List.set_cons_zero, List.set_cons_succ]))
    (refine upto_take [8, 10] (i := 1) (oi := ⟨_, _, _, _, _, _⟩) (d := some 31) (v := ?_) rfl rfl (by kernel_rfl) (by kernel_rfl) (fun _ _ _ h => h) (by rfl) ?_ (by assumption) ?_; rotate_left; (focus (intro w hSw; (try dsimp only at hSw); go_simp; try with_reducible rfl)); (try simp only [Act.put, List.setIfInBounds_toArray, List.set_cons_zero, List.set_cons_succ]))
    (refine upto_take [3, 5, 6, 7, 8, 10] (i := 2) (oi := ⟨_, _, _, _, _, _⟩) (d := some 32) (v := ?_) rfl rfl (by kernel_rfl) (by kernel_rfl) (fun _ _ _ h => h) (by rfl) ?_ (by assumption) ?_; rotate_left; (focus (intro w hSw; (try dsimp only at hSw); go_simp; try with_reducible rfl)); (try simp only [Act.put, List.setIfInBounds_toArray, List.set_cons_zero, List.set_cons_succ]))
    (refine upto_take [5, 6, 7, 8, 10] (i := 3) (oi := ⟨_, _, _, _, _, _⟩) (d := some 33) (v := ?_) rfl rfl (by kernel_rfl) (by kernel_rfl) (fun _ _ _ h => h) (by rfl) ?_ (by assumption) ?_; rotate_left; (focus (intro w hSw; (try dsimp only at hSw); go_simp; try with_reducible rfl)); (try simp only [Act.put, List.setIfInBounds_toArray, List.set_cons_zero, List.set_cons_succ]))
    (refine upto_take [5, 6, 7, 8, 10] (i := 4) (oi := ⟨_, _, _, _, _, _⟩) (d := some 34) (v := ?_) rfl rfl (by kernel_rfl) (by kernel_rfl) (fun _ _ _ h => h) (by rfl) ?_ (by assumption) ?_; rotate_left; (focus (intro w hSw; (try dsimp only at hSw); go_simp; try with_reducible rfl)); (try simp only [Act.put, List.setIfInBounds_toArray, List.set_cons_zero, List.set_cons_succ]))
    (refine upto_take [6, 7, 8, 10] (i := 5) (oi := ⟨_, _, _, _, _, _⟩) (d := some 35) (v := ?_) rfl rfl (by kernel_rfl) (by kernel_rfl) (fun _ _ _ h => h) (by rfl) ?_ (by assumption) ?_; rotate_left; (focus (intro w hSw; (try dsimp only at hSw); go_simp; try with_reducible rfl)); (try simp only [Act.put, List.setIfInBounds_toArray, List.set_cons_zero, List.set_cons_succ]))
    (refine upto_take [7, 8, 10] (i := 6) (oi := ⟨_, _, _, _, _, _⟩) (d := some 36) (v := ?_) rfl rfl (by kernel_rfl) (by kernel_rfl) (fun _ _ _ h => h) (by rfl) ?_ (by assumption) ?_; rotate_left; (focus (intro w hSw; (try dsimp only at hSw); go_simp; try with_reducible rfl)); (try simp only [Act.put, List.setIfInBounds_toArray, List.set_cons_zero, List.set_cons_succ]))
    refine upto_one 7 (o := ⟨_, _, _, _, _, _⟩) rfl (by kernel_rfl) (by decide) (fun K hK => ?_)
    go_simp
    refine hK.out _ _ ?_ (fun hHeld => ?_)
    ·exact ⟨keepAlloc q2 _, keepAlloc q1 _, keepAlloc x0 _, keepAlloc x1 _, keepAlloc x2 _, keepAlloc x3 _, keepAlloc x4 _, keepAlloc x5 _⟩
    clear hK K
    (try simp only [Act.put, List.setIfInBounds_toArray, List.set_cons_zero, List.set_cons_succ])
    refine upto_one 8 (o := ⟨_, _, _, _, _, _⟩) rfl (by kernel_rfl) (by decide) (fun K hK => ?_)
    (go_loud (refine step_app kdL (by rfl) _ _ (by rfl) (W1.heap.size + 1) (.slice Av nv cv) (woL so (P.loads.take k)) (by rfl) HOX.out.o1 _ 1 1 [x] (by rfl) HI1.out HPL.out (by simp; omega) ?_); intro v' w2 ho2 hg2 hz2; have hg2 : (wr.alloc (.cells #[.int .i64 x.a, .int .i64 x.b, .int .i64 x.c, .int .i64 x.d, .int .i64 x.e, .int .i64 x.f] 103)).grownBy w2 (Value.slice Av nv cv).ownBlock := ⟨hg2.os, hg2.tape, hg2.output, hg2.size, hg2.block⟩; obtain ⟨Av2, cv2, hve, -⟩ := OwnL.arr kdL ho2; obtain ⟨nv2, hnv2⟩ : ∃ q, ((woL so (P.loads.take k)) ++ [x]).length = q := ⟨_, rfl⟩; rw [hnv2] at hve; subst hve; clear hnv2; have NP := Lib.hid (HOX.out.put1 hg2 ho2); have b9' := HOX.out.p.grown hg2 (fun e => by have := (own_lt HOX.out.o1 e).1; omega); have n0 := b9'.cell 2; have n1 := b9'.frozen 2; have hg3 := HOX.out.g.grown hg2 (Nat.le_of_lt HOX.out.p.lt) (fun k e => by have := (own_lt HOX.out.o1 e).1; omega); have n2 := (BP.out.ext hg3).cell 2; obtain ⟨y0, y1, y2, y3, y4, y5⟩ := HC.out _ hg3; clear hg3 ho2 hg2 hz2 b9')
    refine hK.out _ _ ?_ (fun hHeld => ?_)
    ·exact ⟨n0, n2, y0, y1, y2, y3, y4, y5⟩
    clear hK K
    (try simp only [Act.put, List.setIfInBounds_toArray, List.set_cons_zero, List.set_cons_succ])
    (refine upto_take [10] (i := 9) (oi := ⟨_, _, _, _, _, _⟩) (d := some 39) (v := ?_) rfl rfl (by kernel_rfl) (by kernel_rfl) (fun _ _ _ h => h) (by rfl) ?_ (by assumption) ?_; rotate_left; (focus (intro w hSw; (try dsimp only at hSw); go_simp; try with_reducible rfl)); (try simp only [Act.put, List.setIfInBounds_toArray, List.set_cons_zero, List.set_cons_succ]))
    refine upto_last (o := ⟨_, _, _, _, _, _⟩) rfl (by kernel_rfl) (fun K hK => ?_)
    go_simp
    refine hK.out _ _ ?_
    clear hK K
    (try simp only [Act.put, List.setIfInBounds_toArray, List.set_cons_zero, List.set_cons_succ])
    refine any_done (by kernel_rfl) ?_
    simp only [onlyQ]
    go_wp2_with fail
    go_roundw
    case rel => exact ⟨k + 1, _, by go_num, by omega, by rw [HNY.out]; exact NP.out⟩
    case measure => simp [intOf]; omega
  ·obtain rfl : m1 = k := by omega
   have HNE := Lib.hid (show Nw W1 W1.heap.size P.lo P.hi P.geese wr v (.slice none 0 0) (.slice none 0 0) (woL so P.loads) [] [] by have := HNW.out; rwa [List.take_of_length_le (by rw [HPA.out.l1.1]; exact Nat.le_refl _)] at this)
   obtain ⟨U1, hU⟩ : ∃ V, wr = V := ⟨_, rfl⟩
   obtain ⟨v1, hv⟩ : ∃ V, v = V := ⟨_, rfl⟩
   rw [hU] at HNE ⊢
   rw [hv] at HNE
   have NE1 := HNE
   have HGE1 := Lib.hid HNE.out.g
   clear HNE HNW HG hnb hkm hk hU hv
   have qy := (BP.out.ext HGE1.out).cell 2
   have qz := (BP.out.ext HGE1.out).cell 3
   go_wp2_with fail
   clear qz qy
   go_loopw [8] (fun i wr => ∃ (k : Nat) (v : Value), i = .int .i64 k ∧ k ≤ m2 ∧ Nw W1 W1.heap.size P.lo P.hi P.geese wr v1 v (.slice none 0 0) (woL so P.loads) (woL so (P.stands.take k)) []) (fun i _ => m2 - (intOf i).toNat)
   case atStart => exact ⟨0, _, rfl, Nat.zero_le _, NE1.out⟩
   case round =>
    obtain ⟨k, v, rfl, hk, hn⟩ := hrel
    have HNW := Lib.hid hn
    clear hn
    have HG := Lib.hid HNW.out.g
    have hnb := HN60.out
    by_cases hkm : k < m2
    ·obtain ⟨b0, o0, e0, -, -, hc⟩ := six_at HPA.out.l2 hkm
     obtain ⟨x0, x1, x2, x3, x4, x5⟩ := hc _ HG.out
     have HLN := Lib.hid (show k < P.stands.length by rw [HPA.out.l2.1]; exact hkm)
     obtain ⟨x, hxg⟩ : ∃ x, P.stands.getD k z6 = x := ⟨_, rfl⟩
     rw [hxg] at x0 x1 x2 x3 x4 x5 hc
     have HXG := Lib.hid hxg
     subst e0
     have HC := Lib.hid hc
     clear hc hxg
     have q1 := (BP.out.ext HG.out).cell 3
     have hbw := HNW.out.p.lt
     by_cases hx : x.a = so
     ·have HNY := Lib.hid (wo_no (s := so) HLN.out (by rw [HXG.out]; exact hx))
      have hd : (x.a != so) = false := by simp [hx]
      clear hx
      go_wp2_with fail
      go_roundw
      case rel => exact ⟨k + 1, _, by go_num, by omega, by rw [HNY.out]; exact HNW.out⟩
      case measure => simp [intOf]; omega
     ·have HNY := Lib.hid (wo_yes (s := so) HLN.out (by rw [HXG.out]; exact hx))
      rw [HXG.out] at HNY
      have hd : (x.a != so) = true := by simpa using hx
      clear hx
      have HPL := Lib.hid (show (woL so (P.stands.take k)).length + 1 ≤ 1000000 by have h1 := wo_len so (P.stands.take k); rw [List.length_take] at h1; omega)
      obtain ⟨Av, cv, hv, -⟩ := OwnL.arr kdS HNW.out.o2
      obtain ⟨nv, hnv⟩ : ∃ q, (woL so (P.stands.take k)).length = q := ⟨_, rfl⟩
      rw [hnv] at hv
      subst hv
      have q2 := HNW.out.p.cell 3
      have HOX := Lib.hid (HNW.out.ext (one_more wr (.cells #[.int .i64 x.a, .int .i64 x.b, .int .i64 x.c, .int .i64 x.d, .int .i64 x.e, .int .i64 x.f] 105)))
      have HI1 := Lib.hid (six_one wr 105 x)
      clear hnv
      go_upto_region 11 with fail
      refine wp_region_uptoQ (S := fun V => V.cell? ⟨W1.heap.size, 3, none⟩ = some (.slice Av nv cv) ∧ V.cell? ⟨w.heap.size, 3, none⟩ = some (.slice (some ⟨b0, o0, none⟩) m2 d2) ∧ V.cell? ⟨b0, o0 + k * 6, none⟩ = some (.int .i64 x.a) ∧ V.cell? ⟨b0, o0 + k * 6 + 1, none⟩ = some (.int .i64 x.b) ∧ V.cell? ⟨b0, o0 + k * 6 + 2, none⟩ = some (.int .i64 x.c) ∧ V.cell? ⟨b0, o0 + k * 6 + 3, none⟩ = some (.int .i64 x.d) ∧ V.cell? ⟨b0, o0 + k * 6 + 4, none⟩ = some (.int .i64 x.e) ∧ V.cell? ⟨b0, o0 + k * 6 + 5, none⟩ = some (.int .i64 x.f)) 10 (by kernel_rfl) (⟨q2, q1, x0, x1, x2, x3, x4, x5⟩) (fun hHeld => ?_)
      (refine upto_take [1, 8, 10] (i := 0) (oi := ⟨_, _, _, _, _, _⟩) (d := some 55) (v := ?_) rfl rfl (by kernel_rfl) (by kernel_rfl) (fun _ _ _ h => h) (by rfl) ?_ (by assumption) ?_; rotate_left; (focus (intro w hSw; (try dsimp only at hSw); go_simp; try with_reducible rfl)); (try simp only [Act.put, List.setIfInBounds_toArray, List.set_cons_zero, List.set_cons_succ]))
      (refine upto_take [8, 10] (i := 1) (oi := ⟨_, _, _, _, _, _⟩) (d := some 56) (v := ?_) rfl rfl (by kernel_rfl) (by kernel_rfl) (fun _ _ _ h => h) (by rfl) ?_ (by assumption) ?_; rotate_left; (focus (intro w hSw; (try dsimp only at hSw); go_simp; try with_reducible rfl)); (try simp only [Act.put, List.setIfInBounds_toArray, List.set_cons_zero, List.set_cons_succ]))
      (refine upto_take [3, 5, 6, 7, 8, 10] (i := 2) (oi := ⟨_, _, _, _, _, _⟩) (d := some 57) (v := ?_) rfl rfl (by kernel_rfl) (by kernel_rfl) (fun _ _ _ h => h) (by rfl) ?_ (by assumption) ?_; rotate_left; (focus (intro w hSw; (try dsimp only at hSw); go_simp; try with_reducible rfl)); (try simp only [Act.put, List.setIfInBounds_toArray, List.set_cons_zero, List.set_cons_succ]))
      (refine upto_take [5, 6, 7, 8, 10] (i := 3) (oi := ⟨_, _, _, _, _, _⟩) (d := some 58) (v := ?_) rfl rfl (by kernel_rfl) (by kernel_rfl) (fun _ _ _ h => h) (by rfl) ?_ (by assumption) ?_; rotate_left; (focus (intro w hSw; (try dsimp only at hSw); go_simp; try with_reducible rfl)); (try simp only [Act.put, List.setIfInBounds_toArray, List.set_cons_zero, List.set_cons_succ]))
      (refine upto_take [5, 6, 7, 8, 10] (i := 4) (oi := ⟨_, _, _, _, _, _⟩) (d := some 59) (v := ?_) rfl rfl (by kernel_rfl) (by kernel_rfl) (fun _ _ _ h => h) (by rfl) ?_ (by assumption) ?_; rotate_left; (focus (intro w hSw; (try dsimp only at hSw); go_simp; try with_reducible rfl)); (try simp only [Act.put, List.setIfInBounds_toArray, List.set_cons_zero, List.set_cons_succ]))
      (refine upto_take [6, 7, 8, 10] (i := 5) (oi := ⟨_, _, _, _, _, _⟩) (d := some 60) (v := ?_) rfl rfl (by kernel_rfl) (by kernel_rfl) (fun _ _ _ h => h) (by rfl) ?_ (by assumption) ?_; rotate_left; (focus (intro w hSw; (try dsimp only at hSw); go_simp; try with_reducible rfl)); (try simp only [Act.put, List.setIfInBounds_toArray, List.set_cons_zero, List.set_cons_succ]))
      (refine upto_take [7, 8, 10] (i := 6) (oi := ⟨_, _, _, _, _, _⟩) (d := some 61) (v := ?_) rfl rfl (by kernel_rfl) (by kernel_rfl) (fun _ _ _ h => h) (by rfl) ?_ (by assumption) ?_; rotate_left; (focus (intro w hSw; (try dsimp only at hSw); go_simp; try with_reducible rfl)); (try simp only [Act.put, List.setIfInBounds_toArray, List.set_cons_zero, List.set_cons_succ]))
      refine upto_one 7 (o := ⟨_, _, _, _, _, _⟩) rfl (by kernel_rfl) (by decide) (fun K hK => ?_)
      go_simp
      refine hK.out _ _ ?_ (fun hHeld => ?_)
      ·exact ⟨keepAlloc q2 _, keepAlloc q1 _, keepAlloc x0 _, keepAlloc x1 _, keepAlloc x2 _, keepAlloc x3 _, keepAlloc x4 _, keepAlloc x5 _⟩
      clear hK K
      (try simp only [Act.put, List.setIfInBounds_toArray, List.set_cons_zero, List.set_cons_succ])
      refine upto_one 8 (o := ⟨_, _, _, _, _, _⟩) rfl (by kernel_rfl) (by decide) (fun K hK => ?_)
      (go_loud (refine step_app kdS (by rfl) _ _ (by rfl) (W1.heap.size + 1) (.slice Av nv cv) (woL so (P.stands.take k)) (by rfl) HOX.out.o2 _ 1 1 [x] (by rfl) HI1.out HPL.out (by simp; omega) ?_); intro v' w2 ho2 hg2 hz2; have hg2 : (wr.alloc (.cells #[.int .i64 x.a, .int .i64 x.b, .int .i64 x.c, .int .i64 x.d, .int .i64 x.e, .int .i64 x.f] 105)).grownBy w2 (Value.slice Av nv cv).ownBlock := ⟨hg2.os, hg2.tape, hg2.output, hg2.size, hg2.block⟩; obtain ⟨Av2, cv2, hve, -⟩ := OwnL.arr kdS ho2; obtain ⟨nv2, hnv2⟩ : ∃ q, ((woL so (P.stands.take k)) ++ [x]).length = q := ⟨_, rfl⟩; rw [hnv2] at hve; subst hve; clear hnv2; have NP := Lib.hid (HOX.out.put2 hg2 ho2); have b9' := HOX.out.p.grown hg2 (fun e => by have := (own_lt HOX.out.o2 e).1; omega); have n0 := b9'.cell 3; have n1 := b9'.frozen 3; have hg3 := HOX.out.g.grown hg2 (Nat.le_of_lt HOX.out.p.lt) (fun k e => by have := (own_lt HOX.out.o2 e).1; omega); have n2 := (BP.out.ext hg3).cell 3; obtain ⟨y0, y1, y2, y3, y4, y5⟩ := HC.out _ hg3; clear hg3 ho2 hg2 hz2 b9')
      refine hK.out _ _ ?_ (fun hHeld => ?_)
      ·exact ⟨n0, n2, y0, y1, y2, y3, y4, y5⟩
      clear hK K
      (try simp only [Act.put, List.setIfInBounds_toArray, List.set_cons_zero, List.set_cons_succ])
      (refine upto_take [10] (i := 9) (oi := ⟨_, _, _, _, _, _⟩) (d := some 64) (v := ?_) rfl rfl (by kernel_rfl) (by kernel_rfl) (fun _ _ _ h => h) (by rfl) ?_ (by assumption) ?_; rotate_left; (focus (intro w hSw; (try dsimp only at hSw); go_simp; try with_reducible rfl)); (try simp only [Act.put, List.setIfInBounds_toArray, List.set_cons_zero, List.set_cons_succ]))
      refine upto_last (o := ⟨_, _, _, _, _, _⟩) rfl (by kernel_rfl) (fun K hK => ?_)
      go_simp
      refine hK.out _ _ ?_
      clear hK K
      (try simp only [Act.put, List.setIfInBounds_toArray, List.set_cons_zero, List.set_cons_succ])
      refine any_done (by kernel_rfl) ?_
      simp only [onlyQ]
      go_wp2_with fail
      go_roundw
      case rel => exact ⟨k + 1, _, by go_num, by omega, by rw [HNY.out]; exact NP.out⟩
      case measure => simp [intOf]; omega
    ·obtain rfl : m2 = k := by omega
     have HNE := Lib.hid (show Nw W1 W1.heap.size P.lo P.hi P.geese wr v1 v (.slice none 0 0) (woL so P.loads) (woL so P.stands) [] by have := HNW.out; rwa [List.take_of_length_le (by rw [HPA.out.l2.1]; exact Nat.le_refl _)] at this)
     obtain ⟨U2, hU⟩ : ∃ V, wr = V := ⟨_, rfl⟩
     obtain ⟨v2, hv⟩ : ∃ V, v = V := ⟨_, rfl⟩
     rw [hU] at HNE ⊢
     rw [hv] at HNE
     have NE2 := HNE
     have HGE2 := Lib.hid HNE.out.g
     clear HNE HNW HG hnb hkm hk hU hv
     have qy := (BP.out.ext HGE2.out).cell 3
     have qz := (BP.out.ext HGE2.out).cell 4
     go_wp2_with fail
     clear qz qy
     go_loopw [9] (fun i wr => ∃ (k : Nat) (v : Value), i = .int .i64 k ∧ k ≤ m3 ∧ Nw W1 W1.heap.size P.lo P.hi P.geese wr v1 v2 v (woL so P.loads) (woL so P.stands) (woL so (P.spells.take k))) (fun i _ => m3 - (intOf i).toNat)
     case atStart => exact ⟨0, _, rfl, Nat.zero_le _, NE2.out⟩
     case round =>
      obtain ⟨k, v, rfl, hk, hn⟩ := hrel
      have HNW := Lib.hid hn
      clear hn
      have HG := Lib.hid HNW.out.g
      have hnb := HN60.out
      by_cases hkm : k < m3
      ·obtain ⟨b0, o0, e0, -, -, hc⟩ := six_at HPA.out.l3 hkm
       obtain ⟨x0, x1, x2, x3, x4, x5⟩ := hc _ HG.out
       have HLN := Lib.hid (show k < P.spells.length by rw [HPA.out.l3.1]; exact hkm)
       obtain ⟨x, hxg⟩ : ∃ x, P.spells.getD k z6 = x := ⟨_, rfl⟩
       rw [hxg] at x0 x1 x2 x3 x4 x5 hc
       have HXG := Lib.hid hxg
       subst e0
       have HC := Lib.hid hc
       clear hc hxg
       have q1 := (BP.out.ext HG.out).cell 4
       have hbw := HNW.out.p.lt
       by_cases hx : x.a = so
       ·have HNY := Lib.hid (wo_no (s := so) HLN.out (by rw [HXG.out]; exact hx))
        have hd : (x.a != so) = false := by simp [hx]
        clear hx
        go_wp2_with fail
        go_roundw
        case rel => exact ⟨k + 1, _, by go_num, by omega, by rw [HNY.out]; exact HNW.out⟩
        case measure => simp [intOf]; omega
       ·have HNY := Lib.hid (wo_yes (s := so) HLN.out (by rw [HXG.out]; exact hx))
        rw [HXG.out] at HNY
        have hd : (x.a != so) = true := by simpa using hx
        clear hx
        have HPL := Lib.hid (show (woL so (P.spells.take k)).length + 1 ≤ 1000000 by have h1 := wo_len so (P.spells.take k); rw [List.length_take] at h1; omega)
        obtain ⟨Av, cv, hv, -⟩ := OwnL.arr kdP HNW.out.o3
        obtain ⟨nv, hnv⟩ : ∃ q, (woL so (P.spells.take k)).length = q := ⟨_, rfl⟩
        rw [hnv] at hv
        subst hv
        have q2 := HNW.out.p.cell 4
        have HOX := Lib.hid (HNW.out.ext (one_more wr (.cells #[.int .i64 x.a, .int .i64 x.b, .int .i64 x.c, .int .i64 x.d, .int .i64 x.e, .int .i64 x.f] 107)))
        have HI1 := Lib.hid (six_one wr 107 x)
        clear hnv
        go_upto_region 16 with fail
        refine wp_region_uptoQ (S := fun V => V.cell? ⟨W1.heap.size, 4, none⟩ = some (.slice Av nv cv) ∧ V.cell? ⟨w.heap.size, 4, none⟩ = some (.slice (some ⟨b0, o0, none⟩) m3 d3) ∧ V.cell? ⟨b0, o0 + k * 6, none⟩ = some (.int .i64 x.a) ∧ V.cell? ⟨b0, o0 + k * 6 + 1, none⟩ = some (.int .i64 x.b) ∧ V.cell? ⟨b0, o0 + k * 6 + 2, none⟩ = some (.int .i64 x.c) ∧ V.cell? ⟨b0, o0 + k * 6 + 3, none⟩ = some (.int .i64 x.d) ∧ V.cell? ⟨b0, o0 + k * 6 + 4, none⟩ = some (.int .i64 x.e) ∧ V.cell? ⟨b0, o0 + k * 6 + 5, none⟩ = some (.int .i64 x.f)) 10 (by kernel_rfl) (⟨q2, q1, x0, x1, x2, x3, x4, x5⟩) (fun hHeld => ?_)
        (refine upto_take [1, 8, 10] (i := 0) (oi := ⟨_, _, _, _, _, _⟩) (d := some 80) (v := ?_) rfl rfl (by kernel_rfl) (by kernel_rfl) (fun _ _ _ h => h) (by rfl) ?_ (by assumption) ?_; rotate_left; (focus (intro w hSw; (try dsimp only at hSw); go_simp; try with_reducible rfl)); (try simp only [Act.put, List.setIfInBounds_toArray, List.set_cons_zero, List.set_cons_succ]))
        (refine upto_take [8, 10] (i := 1) (oi := ⟨_, _, _, _, _, _⟩) (d := some 81) (v := ?_) rfl rfl (by kernel_rfl) (by kernel_rfl) (fun _ _ _ h => h) (by rfl) ?_ (by assumption) ?_; rotate_left; (focus (intro w hSw; (try dsimp only at hSw); go_simp; try with_reducible rfl)); (try simp only [Act.put, List.setIfInBounds_toArray, List.set_cons_zero, List.set_cons_succ]))
        (refine upto_take [3, 5, 6, 7, 8, 10] (i := 2) (oi := ⟨_, _, _, _, _, _⟩) (d := some 82) (v := ?_) rfl rfl (by kernel_rfl) (by kernel_rfl) (fun _ _ _ h => h) (by rfl) ?_ (by assumption) ?_; rotate_left; (focus (intro w hSw; (try dsimp only at hSw); go_simp; try with_reducible rfl)); (try simp only [Act.put, List.setIfInBounds_toArray, List.set_cons_zero, List.set_cons_succ]))
        (refine upto_take [5, 6, 7, 8, 10] (i := 3) (oi := ⟨_, _, _, _, _, _⟩) (d := some 83) (v := ?_) rfl rfl (by kernel_rfl) (by kernel_rfl) (fun _ _ _ h => h) (by rfl) ?_ (by assumption) ?_; rotate_left; (focus (intro w hSw; (try dsimp only at hSw); go_simp; try with_reducible rfl)); (try simp only [Act.put, List.setIfInBounds_toArray, List.set_cons_zero, List.set_cons_succ]))
        (refine upto_take [5, 6, 7, 8, 10] (i := 4) (oi := ⟨_, _, _, _, _, _⟩) (d := some 84) (v := ?_) rfl rfl (by kernel_rfl) (by kernel_rfl) (fun _ _ _ h => h) (by rfl) ?_ (by assumption) ?_; rotate_left; (focus (intro w hSw; (try dsimp only at hSw); go_simp; try with_reducible rfl)); (try simp only [Act.put, List.setIfInBounds_toArray, List.set_cons_zero, List.set_cons_succ]))
        (refine upto_take [6, 7, 8, 10] (i := 5) (oi := ⟨_, _, _, _, _, _⟩) (d := some 85) (v := ?_) rfl rfl (by kernel_rfl) (by kernel_rfl) (fun _ _ _ h => h) (by rfl) ?_ (by assumption) ?_; rotate_left; (focus (intro w hSw; (try dsimp only at hSw); go_simp; try with_reducible rfl)); (try simp only [Act.put, List.setIfInBounds_toArray, List.set_cons_zero, List.set_cons_succ]))
        (refine upto_take [7, 8, 10] (i := 6) (oi := ⟨_, _, _, _, _, _⟩) (d := some 86) (v := ?_) rfl rfl (by kernel_rfl) (by kernel_rfl) (fun _ _ _ h => h) (by rfl) ?_ (by assumption) ?_; rotate_left; (focus (intro w hSw; (try dsimp only at hSw); go_simp; try with_reducible rfl)); (try simp only [Act.put, List.setIfInBounds_toArray, List.set_cons_zero, List.set_cons_succ]))
        refine upto_one 7 (o := ⟨_, _, _, _, _, _⟩) rfl (by kernel_rfl) (by decide) (fun K hK => ?_)
        go_simp
        refine hK.out _ _ ?_ (fun hHeld => ?_)
        ·exact ⟨keepAlloc q2 _, keepAlloc q1 _, keepAlloc x0 _, keepAlloc x1 _, keepAlloc x2 _, keepAlloc x3 _, keepAlloc x4 _, keepAlloc x5 _⟩
        clear hK K
        (try simp only [Act.put, List.setIfInBounds_toArray, List.set_cons_zero, List.set_cons_succ])
        refine upto_one 8 (o := ⟨_, _, _, _, _, _⟩) rfl (by kernel_rfl) (by decide) (fun K hK => ?_)
        (go_loud (refine step_app kdP (by rfl) _ _ (by rfl) (W1.heap.size + 1) (.slice Av nv cv) (woL so (P.spells.take k)) (by rfl) HOX.out.o3 _ 1 1 [x] (by rfl) HI1.out HPL.out (by simp; omega) ?_); intro v' w2 ho2 hg2 hz2; have hg2 : (wr.alloc (.cells #[.int .i64 x.a, .int .i64 x.b, .int .i64 x.c, .int .i64 x.d, .int .i64 x.e, .int .i64 x.f] 107)).grownBy w2 (Value.slice Av nv cv).ownBlock := ⟨hg2.os, hg2.tape, hg2.output, hg2.size, hg2.block⟩; obtain ⟨Av2, cv2, hve, -⟩ := OwnL.arr kdP ho2; obtain ⟨nv2, hnv2⟩ : ∃ q, ((woL so (P.spells.take k)) ++ [x]).length = q := ⟨_, rfl⟩; rw [hnv2] at hve; subst hve; clear hnv2; have NP := Lib.hid (HOX.out.put3 hg2 ho2); have b9' := HOX.out.p.grown hg2 (fun e => by have := (own_lt HOX.out.o3 e).1; omega); have n0 := b9'.cell 4; have n1 := b9'.frozen 4; have hg3 := HOX.out.g.grown hg2 (Nat.le_of_lt HOX.out.p.lt) (fun k e => by have := (own_lt HOX.out.o3 e).1; omega); have n2 := (BP.out.ext hg3).cell 4; obtain ⟨y0, y1, y2, y3, y4, y5⟩ := HC.out _ hg3; clear hg3 ho2 hg2 hz2 b9')
        refine hK.out _ _ ?_ (fun hHeld => ?_)
        ·exact ⟨n0, n2, y0, y1, y2, y3, y4, y5⟩
        clear hK K
        (try simp only [Act.put, List.setIfInBounds_toArray, List.set_cons_zero, List.set_cons_succ])
        (refine upto_take [10] (i := 9) (oi := ⟨_, _, _, _, _, _⟩) (d := some 89) (v := ?_) rfl rfl (by kernel_rfl) (by kernel_rfl) (fun _ _ _ h => h) (by rfl) ?_ (by assumption) ?_; rotate_left; (focus (intro w hSw; (try dsimp only at hSw); go_simp; try with_reducible rfl)); (try simp only [Act.put, List.setIfInBounds_toArray, List.set_cons_zero, List.set_cons_succ]))
        refine upto_last (o := ⟨_, _, _, _, _, _⟩) rfl (by kernel_rfl) (fun K hK => ?_)
        go_simp
        refine hK.out _ _ ?_
        clear hK K
        (try simp only [Act.put, List.setIfInBounds_toArray, List.set_cons_zero, List.set_cons_succ])
        refine any_done (by kernel_rfl) ?_
        simp only [onlyQ]
        go_wp2_with fail
        go_roundw
        case rel => exact ⟨k + 1, _, by go_num, by omega, by rw [HNY.out]; exact NP.out⟩
        case measure => simp [intOf]; omega
      ·obtain rfl : m3 = k := by omega
       have HNE := Lib.hid (show Nw W1 W1.heap.size P.lo P.hi P.geese wr v1 v2 v (woL so P.loads) (woL so P.stands) (woL so P.spells) by have := HNW.out; rwa [List.take_of_length_le (by rw [HPA.out.l3.1]; exact Nat.le_refl _)] at this)
       obtain ⟨U3, hU⟩ : ∃ V, wr = V := ⟨_, rfl⟩
       obtain ⟨v3, hv⟩ : ∃ V, v = V := ⟨_, rfl⟩
       rw [hU] at HNE ⊢
       rw [hv] at HNE
       have NE3 := HNE
       have HGE3 := Lib.hid HNE.out.g
       clear HNE HNW HG hnb hkm hk hU hv
       obtain ⟨F1, a1, f1, F2, a2, f2, F3, a3, f3, hbo, hpo⟩ := Nw.plot (p := withoutP P so) NE3.out
       have HBO := Lib.hid hbo
       have PAQ := Lib.hid (nw_end (b := w.heap.size + 1) NE3.out (by rw [HSZ.out]; omega) hbo hpo)
       have HPO := Lib.hid hpo
       have HT := Lib.hid (refSources_any P D1 D2 D3 m1 d1 m2 d2 m3 d3)
       have HSL := Lib.hid (show (srcs3 P).length ≤ 3000 by
        have h1 := HN60.out
        have h2 := HPA.out.l1.1
        have h3 := HPA.out.l2.1
        have h4 := HPA.out.l3.1
        unfold srcs3
        simp only [List.length_append, srcs_len]
        omega)
       have HKK := Lib.hid (fun X (g : Below U3.heap.size U3 X) => (⟨(HBO.out.ext g).cell 0, (HBO.out.ext g).cell 1, (HBO.out.ext g).cell 2, (HBO.out.ext g).cell 3, (HBO.out.ext g).cell 4, (HBO.out.ext g).cell 5, ((BR.out.ext HGE3.out).ext g).cell 0, ((BR.out.ext HGE3.out).ext g).cell 1, ((BR.out.ext HGE3.out).ext g).cell 2, ((BR.out.ext HGE3.out).ext g).cell 3, ((BR.out.ext HGE3.out).ext g).cell 4, ((BR.out.ext HGE3.out).ext g).cell 5, ((BR.out.ext HGE3.out).ext g).frozen 0, ((BR.out.ext HGE3.out).ext g).frozen 1, ((BR.out.ext HGE3.out).ext g).frozen 2, ((BR.out.ext HGE3.out).ext g).frozen 3, ((BR.out.ext HGE3.out).ext g).frozen 4, ((BR.out.ext HGE3.out).ext g).frozen 5⟩ :
        X.cell? ⟨W1.heap.size, 0, none⟩ = some (.int .i64 P.lo) ∧ X.cell? ⟨W1.heap.size, 1, none⟩ = some (.int .i64 P.hi) ∧ X.cell? ⟨W1.heap.size, 2, none⟩ = some (.slice F1 a1 f1) ∧ X.cell? ⟨W1.heap.size, 3, none⟩ = some (.slice F2 a2 f2) ∧ X.cell? ⟨W1.heap.size, 4, none⟩ = some (.slice F3 a3 f3) ∧ X.cell? ⟨W1.heap.size, 5, none⟩ = some (.int .i64 P.geese) ∧ X.cell? ⟨w.heap.size + 1, 0, none⟩ = some (.int .i64 0) ∧ X.cell? ⟨w.heap.size + 1, 1, none⟩ = some (.int .i64 0) ∧ X.cell? ⟨w.heap.size + 1, 2, none⟩ = some (.slice none 0 0) ∧ X.cell? ⟨w.heap.size + 1, 3, none⟩ = some (.slice none 0 0) ∧ X.cell? ⟨w.heap.size + 1, 4, none⟩ = some (.slice none 0 0) ∧ X.cell? ⟨w.heap.size + 1, 5, none⟩ = some (.int .i64 0) ∧ X.frozen? ⟨w.heap.size + 1, 0, none⟩ = false ∧ X.frozen? ⟨w.heap.size + 1, 1, none⟩ = false ∧ X.frozen? ⟨w.heap.size + 1, 2, none⟩ = false ∧ X.frozen? ⟨w.heap.size + 1, 3, none⟩ = false ∧ X.frozen? ⟨w.heap.size + 1, 4, none⟩ = false ∧ X.frozen? ⟨w.heap.size + 1, 5, none⟩ = false))
       obtain ⟨k0, k1, k2, k3, k4, k5, k6, k7, k8, k9, k10, k11, k12, k13, k14, k15, k16, k17⟩ := HKK.out U3 (Below.refl _ _)
       have s0 := (BP.out.ext HGE3.out).cell 0
       have s1 := (BP.out.ext HGE3.out).cell 1
       have s2 := (BP.out.ext HGE3.out).cell 2
       have s3 := (BP.out.ext HGE3.out).cell 3
       have s4 := (BP.out.ext HGE3.out).cell 4
       have s5 := (BP.out.ext HGE3.out).cell 5
       clear hbo hpo
       go_upto_region 17 with fail
       go_region_with (first
        | (go_at_call 137; (with_reducible refine (HT.out _ ((HPA.out.below HGE3.out).below (Below.refl _ _).drew) HN60.out).mono ?_); rintro e X1 ⟨⟨vv, rfl, ho⟩, g1⟩; have G1 := Lib.hid (show Below U3.heap.size U3 X1 from ((Below.refl _ _).drew).trans (g1.mono (Nat.le_refl _))); obtain ⟨Av9, cv9, hve9, -, -, hia, -⟩ := OwnL.arr kdI ho; subst hve9; have HIA := Lib.hid hia; clear ho hia g1; obtain ⟨j0, j1, j2, j3, j4, j5, j6, j7, j8, j9, j10, j11, j12, j13, j14, j15, j16, j17⟩ := HKK.out X1 G1.out)
        | (go_at_call 47; (with_reducible refine (refHas_any _ _ _ (srcs3 P) so _ HIA.out (by have := HSL.out; omega)).mono ?_); rintro e X2 ⟨rfl, rfl⟩))
       all_goals
        have hn1 := HSZ.out
        have hne : W1.heap.size ≠ w.heap.size + 1 := by omega
        have GEND := Lib.hid (below_setAll6 (GA.out.trans ((HGE3.out.trans (G1.out.mono HGE3.out.size)).mono GA.out.size)) (b := w.heap.size + 1) (Nat.le_succ _) (.int .i64 P.lo) (.int .i64 P.hi) (.slice F1 a1 f1) (.slice F2 a2 f2) (.slice F3 a3 f3) (.int .i64 P.geese))
        have PAEND := Lib.hid (PAQ.out _ G1.out)
        have hb9 := (((((((BR.out.ext HGE3.out).ext G1.out).set_ 0 (.int .i64 P.lo)).set_ 1 (.int .i64 P.hi)).set_ 2 (.slice F1 a1 f1)).set_ 3 (.slice F2 a2 f2)).set_ 4 (.slice F3 a3 f3)).set_ 5 (.int .i64 P.geese)
        have q0 := hb9.cell 0
        have q1 := hb9.cell 1
        have q2 := hb9.cell 2
        have q3 := hb9.cell 3
        have q4 := hb9.cell 4
        have q5 := hb9.cell 5
        clear hb9
        (try go_wp2_with fail)
        refine bodyPost_ret (v := .tuple #[plv (withoutP P so) F1 F2 F3 a1 f1 a2 f2 a3 f3, .bool (hasI (srcs3 P) so)]) ?_ rfl ⟨⟨F1, a1, f1, F2, a2, f2, F3, a3, f3, rfl, ?_⟩, ?_⟩
        ·simp [results, Tryz.results125, go_sem, q0, q1, q2, q3, q4, q5, HWP.out]
        ·exact PAEND.out
        ·exact GEND.out
end Go.Proofs.YtkoejeghihcmlaaGreat

namespace Go.Proofs.YtkoejeghihcmlaaGreat
open Go.RowKit Go.Shelf
theorem same_self (l : List Int) : sameL l l = true := by unfold sameL; simp
end Go.Proofs.YtkoejeghihcmlaaGreat
