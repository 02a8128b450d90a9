/- The library's stable sort: ranges exchanged, ranges turned. -/
import Derived.Test.YtkoejeghihcmlaaGreatUA
import Derived.Shelf.SlSortCmp.KitK
import Derived.Sort.WalkB2
import Derived.Sort.WalkB12
import Derived.Deep.LoopGhost
namespace Go.Proofs.YtkoejeghihcmlaaGreat
open Go.RowKit Go.Shelf Go.Sort

abbrev SW (w0 : World) (g : Nat) (l : List Six) (W : World) : Prop := SWK scells 6 w0 g 0 l.toArray W
set_option maxRecDepth 1000000 in
set_option maxHeartbeats 4000000 in
theorem swapRange_any {w0 w : World} {g cap : Nat} {d0 : Array Six} {pre X mid Y post : List Six} (R : RowK scells 6 w0 g 0 d0) (hs : d0.size = (pre ++ X ++ mid ++ Y ++ post).length) (hXY : X.length = Y.length)
    (S : SW w0 g (pre ++ X ++ mid ++ Y ++ post) w) (hsz : d0.size < 1000000) {a b n : Nat} (ha : a = pre.length) (hb : b = pre.length + X.length + mid.length) (hn : n = X.length) :
    Calls Tryz.prog 238 #[.slice (some ⟨g, 0, none⟩) d0.size cap, .int .i64 a, .int .i64 b, .int .i64 n, .func (.func 161) #[] #[]] w fun e w' => e = .returned (.tuple #[]) ∧ SW w0 g (pre ++ Y ++ mid ++ X ++ post) w' := by
  have hL : (pre ++ X ++ mid ++ Y ++ post).length = pre.length + X.length + mid.length + X.length + post.length := by simp only [List.length_append]; omega
  have HS : Aside (∀ i, i ≤ n → (stg pre X mid Y post i).length = d0.size) := fun i hi => by rw [hs]; exact stg_len hXY (by omega)
  have HW : Aside (∀ i, i < n → swp (stg pre X mid Y post i).toArray (a + i) (b + i) = (stg pre X mid Y post (i + 1)).toArray) := fun i hi => by rw [ha, hb]; exact stg_swp hXY (by omega)
  have S0 : Aside (SW w0 g (stg pre X mid Y post 0) w) := by rw [stg_zero]; exact S
  have HE : Aside (stg pre X mid Y post n = pre ++ Y ++ mid ++ X ++ post) := by rw [hn]; exact stg_end hXY
  have hB : b + n ≤ d0.size := by omega
  have hab : a + n ≤ b := by omega
  obtain ⟨N, hN⟩ : ∃ N, d0.size = N := ⟨_, rfl⟩
  rw [hN] at hsz hB ⊢
  have HN : Aside (d0.size = N) := hN
  clear S hs ha hb hn hL hXY hN
  have aE := Tryz.isAgg103
  have zE := Tryz.sizeOf103
  have mixed : Tryz.prog.follows .mixedOrders = true := by kernel_rfl
  obtain ⟨T, hT⟩ : ∃ T, stg pre X mid Y post = T := ⟨_, rfl⟩
  rw [hT] at HS HW S0 HE
  clear hT
  go_enter Tryz.func238, Tryz.ntmps238
  go_wp2
  go_loopg [10] n (fun kx s wr => ∃ i : Nat, s = .int .i64 i ∧ i ≤ n ∧ n - i ≤ kx ∧ Aside (SW w0 g (T i) wr))
  case atStart => exact ⟨0, rfl, by omega, by omega, S0⟩
  case round =>
    clear S0
    obtain ⟨i, rfl, hi, hk, S1⟩ := hrel
    by_cases hlt : i < n
    · have hltz : (i : Int) < (n : Int) := by omega
      go_wp2_with fail
      have hTi : (T i).toArray.size = d0.size := by rw [List.size_toArray]; exact HS.out i hi
      have ea : ((a : Int) + (i : Int)).toNat = a + i := by omega
      have pa : (0 : Int) ≤ (a : Int) + (i : Int) := by omega
      have ba : (a : Int) + (i : Int) < (N : Int) := by omega
      have ra : IntKind.i64.wrap ((a : Int) + (i : Int)) = (a : Int) + (i : Int) := by rw [IntKind.wrap_i64]; omega
      have ec : ((b : Int) + (i : Int)).toNat = b + i := by omega
      have pc : (0 : Int) ≤ (b : Int) + (i : Int) := by omega
      have bc : (b : Int) + (i : Int) < (N : Int) := by omega
      have rc : IntKind.i64.wrap ((b : Int) + (i : Int)) = (b : Int) + (i : Int) := by rw [IntKind.wrap_i64]; omega
      have hsz' := HN.out
      have S2 : Aside (SWK scells 6 w0 g 0 (swp (T i).toArray (a + i) (b + i)) ((wr.drew.setCells g (0 + (a + i) * 6) (scells (T i).toArray[b + i]!)).setCells g (0 + (b + i) * 6) (scells (T i).toArray[a + i]!))) := S1.out.swapped R (a + i) (b + i) (by omega) (by omega)
      have la := S1.out.ld1 R hTi Tryz.prog (a + i) (by omega)
      have lb := S1.out.ld1 R hTi Tryz.prog (b + i) (by omega)
      have sa := S1.out.st1 R hTi Tryz.prog (a + i) (by omega) (T i).toArray[b + i]!
      have sb := S1.out.st2 R hTi Tryz.prog (a + i) (b + i) (by omega) (by omega) (T i).toArray[b + i]! (T i).toArray[a + i]!
      have na : (scells (T i).toArray[a + i]!).length = 6 := R.hk _
      have nb : (scells (T i).toArray[b + i]!).length = 6 := R.hk _
      rw [HW.out i hlt] at S2
      generalize scells (T i).toArray[a + i]! = cA at S2 la sb na
      generalize scells (T i).toArray[b + i]! = cB at S2 lb sa sb nb
      simp only [Nat.zero_add] at S2 la lb sa sb
      clear S1 hTi hsz'
      obtain ⟨k6, hk6⟩ : ∃ k, (6 : Nat) = k := ⟨_, rfl⟩
      rw [hk6] at zE S2 la lb sa sb na nb
      go_big_region_o
      all_goals subst hk6
      all_goals clear la lb sa sb
      all_goals generalize (wr.drew.setCells g ((a + i) * 6) cB).setCells g ((b + i) * 6) cA = w2 at S2 ⊢
      all_goals go_wp2
      all_goals go_roundg (n - (i + 1))
      case measure => omega
      case rel => exact ⟨i + 1, by simp, by omega, Nat.le_refl _, S2⟩
    · obtain rfl : i = n := by omega
      go_wp2
      go_end0
      refine ⟨rfl, ?_⟩
      rw [← HE.out]
      exact S1.out

theorem ncast {a b : Nat} (h : b ≤ a) : ((a - b : Nat) : Int) = (a : Int) - (b : Int) := by omega
set_option maxRecDepth 1000000 in
set_option maxHeartbeats 4000000 in
theorem rotate_any {w0 w : World} {g cap : Nat} {d0 : Array Six} {pre A B post : List Six} (R : RowK scells 6 w0 g 0 d0) (hs : d0.size = (pre ++ A ++ B ++ post).length) (hA : 0 < A.length) (hB : 0 < B.length)
    (S : SW w0 g (pre ++ A ++ B ++ post) w) (hsz : d0.size < 1000000) {a m b : Nat} (ha : a = pre.length) (hm : m = pre.length + A.length) (hb : b = pre.length + A.length + B.length) :
    Calls Tryz.prog 236 #[.slice (some ⟨g, 0, none⟩) d0.size cap, .int .i64 a, .int .i64 m, .int .i64 b, .func (.func 161) #[] #[]] w fun e w' => e = .returned (.tuple #[]) ∧ SW w0 g (pre ++ B ++ A ++ post) w' := by
  have hL : (pre ++ A ++ B ++ post).length = pre.length + A.length + B.length + post.length := by simp only [List.length_append]
  obtain ⟨N, hN⟩ : ∃ N, d0.size = N := ⟨_, rfl⟩
  have hN' : N < 1000000 := by omega
  have hbN : b ≤ N := by omega
  have HR : Aside (RowK scells 6 w0 g 0 d0) := R
  have HN : Aside (d0.size = N) := hN
  have HSZ : Aside (d0.size < 1000000) := hsz
  have S0 : Aside (SW w0 g (pre ++ A ++ B ++ post) w) := S
  have h1 : a < m := by omega
  have h2 : m < b := by omega
  obtain ⟨tgt, ht⟩ : ∃ tgt, pre ++ B ++ A ++ post = tgt := ⟨_, rfl⟩
  have I0 : Aside (A.length = m - a ∧ B.length = b - m ∧ pre.length + (m - a) = m ∧ pre ++ B ++ A ++ post = tgt ∧ (pre ++ A ++ B ++ post).length = d0.size) := ⟨by omega, by omega, by omega, ht, hs.symm⟩
  rw [hN, ht]
  clear R hN hsz S hs ha hm hb hL hA hB ht
  go_enter Tryz.func236, Tryz.ntmps236
  go_wp2
  go_loopg [10, 11] (b - a) (fun kx s t wr => ∃ (i j : Nat) (P X Y T : List Six), s = .int .i64 i ∧ t = .int .i64 j ∧ i ≤ m ∧ 0 < i ∧ 0 < j ∧ i + j ≤ kx ∧ m + j ≤ N ∧ Aside (X.length = i ∧ Y.length = j ∧ P.length + i = m ∧ P ++ Y ++ X ++ T = tgt ∧ (P ++ X ++ Y ++ T).length = d0.size) ∧ Aside (SW w0 g (P ++ X ++ Y ++ T) wr))
  case atStart => exact ⟨m - a, b - m, pre, A, B, post, by rw [ncast (by omega)], by rw [ncast (by omega)], by omega, by omega, by omega, by omega, by omega, I0, S0⟩
  case round =>
    clear S0 I0
    obtain ⟨i, j, P, X, Y, T, rfl, rfl, him, hi, hj, hk, hmj, I1, S1⟩ := hrel
    have ra : IntKind.i64.wrap ((m : Int) - (i : Int)) = (m : Int) - (i : Int) := by rw [IntKind.wrap_i64]; omega
    by_cases hij : i = j
    · subst hij
      have T1 := swapRange_any (cap := cap) (w := wr) (pre := P) (X := X) (mid := []) (Y := Y) (post := T) (a := m - i) (b := m) (n := i) HR.out (by have := I1.out.2.2.2.2; rw [List.append_nil]; exact this.symm) (by have := I1.out; omega) (by rw [List.append_nil]; exact S1.out) HSZ.out (by have := I1.out; omega) (by have := I1.out; simp; omega) (by have := I1.out; omega)
      rw [HN.out, ncast him, List.append_nil] at T1
      have HT1 := Lib.hid T1
      clear T1
      have e1 : ((i : Int) != (i : Int)) = false := by simp
      go_wp2_with (go_at_call 238; go_loud ((with_reducible refine (HT1.out).mono ?_); rintro e w1 ⟨rfl, S2⟩))
      go_end0
      refine ⟨rfl, ?_⟩
      rw [← I1.out.2.2.2.1]
      exact S2
    · have e1 : ((i : Int) != (j : Int)) = true := by simp; omega
      by_cases hlt : j < i
      · have e2 : (j : Int) < (i : Int) := by omega
        have T1 := swapRange_any (cap := cap) (w := wr) (pre := P) (X := X.take j) (mid := X.drop j) (Y := Y) (post := T) (a := m - i) (b := m) (n := j) HR.out (by have := I1.out.2.2.2.2; rw [List.append_assoc P, List.take_append_drop]; exact this.symm) (by have := I1.out; rw [List.length_take]; omega) (by rw [List.append_assoc P, List.take_append_drop]; exact S1.out) HSZ.out (by have := I1.out; omega) (by have := I1.out; rw [List.length_take, List.length_drop]; omega) (by have := I1.out; rw [List.length_take]; omega)
        rw [HN.out, ncast him] at T1
        have HT1 := Lib.hid T1
        clear T1
        have rb : IntKind.i64.wrap ((i : Int) - (j : Int)) = (i : Int) - (j : Int) := by rw [IntKind.wrap_i64]; omega
        go_wp2_with (go_at_call 238; go_loud ((with_reducible refine (HT1.out).mono ?_); rintro e w1 ⟨rfl, S2⟩))
        go_roundg (i - j + j)
        case measure => omega
        case rel =>
          have h := I1.out
          refine ⟨i - j, j, P ++ Y, X.drop j, X.take j, T, by rw [ncast (by omega)], rfl, by omega, by omega, hj, Nat.le_refl _, hmj, ⟨by rw [List.length_drop]; omega, by rw [List.length_take]; omega, by rw [List.length_append]; omega, ?_, ?_⟩, S2⟩
          · rw [← h.2.2.2.1, List.append_assoc (P ++ Y), List.take_append_drop]
          · rw [← h.2.2.2.2]
            simp only [List.length_append, List.length_take, List.length_drop]
            omega
      · have e2 : ¬ (j : Int) < (i : Int) := by omega
        have rc : IntKind.i64.wrap ((m : Int) + (j : Int)) = (m : Int) + (j : Int) := by rw [IntKind.wrap_i64]; omega
        have rd : IntKind.i64.wrap ((m : Int) + (j : Int) - (i : Int)) = (m : Int) + (j : Int) - (i : Int) := by rw [IntKind.wrap_i64]; omega
        have T1 := swapRange_any (cap := cap) (w := wr) (pre := P) (X := X) (mid := Y.take (j - i)) (Y := Y.drop (j - i)) (post := T) (a := m - i) (b := m + j - i) (n := i) HR.out (by have := I1.out.2.2.2.2; rw [List.append_assoc (P ++ X), List.take_append_drop]; exact this.symm) (by have := I1.out; rw [List.length_drop]; omega) (by rw [List.append_assoc (P ++ X), List.take_append_drop]; exact S1.out) HSZ.out (by have := I1.out; omega) (by have := I1.out; rw [List.length_take]; omega) (by have := I1.out; omega)
        rw [HN.out, ncast him, ncast (by omega : i ≤ m + j), Int.natCast_add] at T1
        have HT1 := Lib.hid T1
        clear T1
        have rb : IntKind.i64.wrap ((j : Int) - (i : Int)) = (j : Int) - (i : Int) := by rw [IntKind.wrap_i64]; omega
        go_wp2_with (go_at_call 238; go_loud ((with_reducible refine (HT1.out).mono ?_); rintro e w1 ⟨rfl, S2⟩))
        go_roundg (i + (j - i))
        case measure => omega
        case rel =>
          have h := I1.out
          refine ⟨i, j - i, P, Y.drop (j - i), Y.take (j - i), X ++ T, rfl, by rw [ncast (by omega)], him, hi, by omega, Nat.le_refl _, by omega, ⟨by rw [List.length_drop]; omega, by rw [List.length_take]; omega, by omega, ?_, ?_⟩, ?_⟩
          · rw [← h.2.2.2.1, List.append_assoc P, List.take_append_drop, List.append_assoc, List.append_assoc, List.append_assoc]
          · rw [← h.2.2.2.2]
            simp only [List.length_append, List.length_take, List.length_drop]
            omega
          · rw [← List.append_assoc]
            exact S2
end Go.Proofs.YtkoejeghihcmlaaGreat
