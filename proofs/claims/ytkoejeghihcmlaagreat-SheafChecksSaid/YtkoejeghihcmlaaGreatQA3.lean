/- Part of the proof: UE, UF. -/
import Derived.Test.YtkoejeghihcmlaaGreatQA2
namespace Go.Proofs.YtkoejeghihcmlaaGreat
open Go.RowKit Go.Shelf Go.Sort
theorem inner_off (x : Six) (P : List Six) : ∀ (n : Nat) (pre post : List Six), pre.length = n → Up pre → insInner (ltOf cfH) P.length (P.length + n) (P ++ (pre ++ x :: post)).toArray = (P ++ (insH x pre ++ post)).toArray
 | 0, pre, post, hl, _ => by
  have : pre = [] := List.eq_nil_of_length_eq_zero hl
  subst this
  rw [Nat.add_zero, insInner_stop _ _ _ _ (.inl (Nat.le_refl _))]
  rfl
 | n + 1, pre, post, hl, hu => by
  obtain ⟨q, y, rfl⟩ : ∃ q y, pre = q ++ [y] := ⟨pre.dropLast, pre.getLast (by intro h; rw [h] at hl; simp at hl), (List.dropLast_concat_getLast _).symm⟩
  have hq : q.length = n := by rw [List.length_append, List.length_singleton] at hl; omega
  have e0 : P ++ (q ++ [y] ++ x :: post) = (P ++ q) ++ y :: ([] ++ x :: post) := by simp
  have e1 : ((P ++ q) ++ y :: ([] ++ x :: post)).toArray[P.length + n]! = y := by rw [← hq, ← List.length_append]; simp
  have e2 : ((P ++ q) ++ y :: ([] ++ x :: post)).toArray[P.length + (n + 1)]! = x := by
   have : (P ++ q) ++ y :: ([] ++ x :: post) = (P ++ q ++ [y]) ++ x :: post := by simp
   rw [this, show P.length + (n + 1) = (P ++ q ++ [y]).length by simp; omega]
   simp
  have hq' : Up q := (List.pairwise_append.1 hu).1
  rw [e0, insH_snoc hu]
  by_cases h : x.b < y.b
  ·rw [if_pos h, insInner_go _ _ _ _ (by omega) (by rw [show P.length + (n + 1) - 1 = P.length + n by omega, e1, e2, lt_iff]; exact decide_eq_true h), show P.length + (n + 1) - 1 = P.length + n by omega,
    swp_back (by simp; omega) (by simp; omega)]
   have := inner_off x P n q (y :: post) hq hq'
   have e3 : (P ++ q) ++ x :: ([] ++ y :: post) = P ++ (q ++ x :: (y :: post)) := by simp
   rw [e3, this]
   simp
  ·rw [if_neg h, insInner_stop _ _ _ _ (.inr (by rw [show P.length + (n + 1) - 1 = P.length + n by omega, e1, e2, lt_iff]; exact decide_eq_false h))]
   simp
theorem outer_off (P seg post : List Six) : ∀ (k i : Nat), k + i = seg.length → insOuter (ltOf cfH) P.length (P.length + seg.length) (P.length + i) (P ++ (srtH (seg.take i) ++ (seg.drop i ++ post))).toArray = (P ++ (srtH seg ++ post)).toArray
 | 0, i, h => by
  rw [insOuter_stop _ _ _ _ _ (by omega), List.take_of_length_le (by omega), List.drop_eq_nil_of_le (by omega), List.nil_append]
 | k + 1, i, h => by
  have hi : i < seg.length := by omega
  rw [insOuter_go _ _ _ _ _ (by omega), List.drop_eq_getElem_cons hi, List.cons_append, inner_off _ P i _ _ (by rw [srtH_len, List.length_take]; omega) (srtH_up _)]
  have e : insH seg[i] (srtH (seg.take i)) = srtH (seg.take (i + 1)) := by
   rw [List.take_succ_eq_append_getElem hi]
   unfold srtH
   rw [List.foldl_append]
   rfl
  rw [e]
  exact outer_off P seg post k (i + 1) (by omega)
theorem insertion_off (P seg post : List Six) : insertionSort (ltOf cfH) (P ++ (seg ++ post)).toArray P.length (P.length + seg.length) = (P ++ (srtH seg ++ post)).toArray := by
 unfold insertionSort
 match seg with
 | [] => rw [insOuter_stop _ _ _ _ _ (by simp)]; rfl
 | x :: l => exact outer_off P (x :: l) post l.length 1 (by simp)
set_option maxRecDepth 100000 in
theorem ins_sub {w0 w : World} {g cap : Nat} {d0 : Array Six} {P seg post : List Six} (R : RowK scells 6 w0 g 0 d0) (hs : d0.size = (P ++ (seg ++ post)).length) (hsz : d0.size < 1000000) (S : SW w0 g (P ++ (seg ++ post)) w) {a b : Nat} (ha : a = P.length) (hb : b = P.length + seg.length) :
  Calls Tryz.prog 228 #[.slice (some ⟨g, 0, none⟩) d0.size cap, .int .i64 a, .int .i64 b, .func (.func 161) #[] #[]] w fun e w' => e = .returned (.tuple #[]) ∧ SW w0 g (P ++ (srtH seg ++ post)) w' := by
 subst ha hb
 have hl : (P ++ (seg ++ post)).toArray.size = d0.size := by rw [List.size_toArray]; exact hs.symm
 have hL : (P ++ (seg ++ post)).length = P.length + (seg.length + post.length) := by simp only [List.length_append]
 have := AnyQ.insertionSortCmpFunc insSort 6 Tryz.isAgg103 Tryz.sizeOf103 scells scells_len scells_one cfH 161 #[] g 0 cap P.length (P.length + seg.length) (P ++ (seg ++ post)).toArray w
  (enters_of Tryz.func161 (by kernel_rfl) rfl) (lays _ _ _ _) (S.holds R.hblk R.hH hl) (S.lt R.hblk) (by omega) (by rw [hl]; omega) (by rw [hl]; omega)
 rw [hl] at this
 refine this.mono ?_
 rintro e w' ⟨rfl, q, os, rfl⟩
 rw [insertion_off]
 exact ⟨rfl, S.on R.hblk q _ os (by rw [hl, List.size_toArray, hs]; simp only [List.length_append, srtH_len])⟩
theorem ap_srt {A B : List Six} (h : Rise (A ++ B)) : Ap (srtH A) (srtH B) := (rise_app h).2.2.perm (srtH_perm A) (srtH_perm B)
theorem mg_srt {A B Z : List Six} (h : Rise (A ++ B)) (m : Mg (srtH A) (srtH B) Z) : Z = srtH (A ++ B) := stable_eq h (m.1.trans ((srtH_perm A).append (srtH_perm B))) m.2
theorem ins_at {w0 : World} {g cap : Nat} {d0 : Array Six} (R : RowK scells 6 w0 g 0 d0) (hsz : d0.size < 1000000) {N : Nat} (hN : d0.size = N) {l l' P seg post : List Six} (el : l = P ++ (seg ++ post)) (el' : l' = P ++ (srtH seg ++ post)) (hs : d0.size = l.length) {za zb : Int} (ha : za = P.length) (hb : zb = P.length + seg.length) (W : World) (S : SW w0 g l W) :
  Calls Tryz.prog 228 #[.slice (some ⟨g, 0, none⟩) N cap, .int .i64 za, .int .i64 zb, .func (.func 161) #[] #[]] W fun e w' => e = .returned (.tuple #[]) ∧ SW w0 g l' w' := by
 subst el el' hN
 have := ins_sub (cap := cap) (w := W) R hs hsz S rfl rfl
 rw [ha, hb]
 rwa [Int.natCast_add] at this
theorem sym_at {w0 : World} {g cap : Nat} {d0 : Array Six} (R : RowK scells 6 w0 g 0 d0) (HCM : CmpLays Tryz.prog 161 #[] scells 6 cfH g 0 d0.size w0) (hsz : d0.size < 1000000) {N : Nat} (hN : d0.size = N) {l l' A B post : List Six} (hr : Rise (A ++ B)) (el : l = srtH A ++ (srtH B ++ post)) (el' : l' = srtH (A ++ B) ++ post) (hs : d0.size = l.length) (hA : 0 < A.length) (hB : 0 < B.length) {zm zb : Int} (hm : zm = A.length) (hb : zb = A.length + B.length) (W : World) (S : SW w0 g l W) :
  Calls Tryz.prog 229 #[.slice (some ⟨g, 0, none⟩) N cap, .int .i64 0, .int .i64 zm, .int .i64 zb, .func (.func 161) #[] #[]] W fun e w' => e = .returned (.tuple #[]) ∧ SW w0 g l' w' := by
 subst el el' hN
 have := symMerge_any (cap := cap) R HCM hsz _ [] (srtH A) (srtH B) post W 0 A.length (A.length + B.length) (by rw [hs]; simp) (by rw [srtH_len]; exact hA) (by rw [srtH_len]; exact hB) (Nat.le_refl _) (lx_srtH (rise_app hr).1) (lx_srtH (rise_app hr).2.1) (ap_srt hr) (by simpa using S) rfl (by first | rfl | (simp; done) | (simp; omega) | (simp [srtH_len]; done) | (simp [srtH_len]; omega) | omega) (by first | rfl | (simp; done) | (simp; omega) | (simp [srtH_len]; done) | (simp [srtH_len]; omega) | omega)
 rw [hm, hb]
 rw [Int.natCast_add] at this
 refine this.mono ?_
 rintro e w' ⟨rfl, Z, hz, hS⟩
 rw [mg_srt hr hz] at hS
 exact ⟨rfl, by simpa using hS⟩
set_option maxRecDepth 1000000 in
set_option maxHeartbeats 8000000 in
theorem k20 {w0 w : World} {g cap : Nat} {d0 : Array Six} (R : RowK scells 6 w0 g 0 d0) (_HCM : CmpLays Tryz.prog 161 #[] scells 6 cfH g 0 d0.size w0) {A : List Six} (hs : d0.size = (A).length) (_hr : Rise (A)) (hA : A.length = 20) (S : SW w0 g (A) w) :
  Calls Tryz.prog 203 #[.slice (some ⟨g, 0, none⟩) d0.size cap, .int .i64 d0.size, .func (.func 161) #[] #[]] w fun e w' => e = .returned (.tuple #[]) ∧ SW w0 g (srtH (A)) w' := by
 have hL : d0.size = A.length := by first | exact hs | (rw [hs]; simp only [List.length_append])
 have hsz : d0.size < 1000000 := by omega
 obtain ⟨N, hN⟩ : ∃ N, d0.size = N := ⟨_, rfl⟩
 have H0 := Lib.hid (fun W (S : SW w0 g (A) W) => ins_at (cap := cap) R hsz hN (l := A) (l' := srtH A) (P := []) (seg := A) (post := []) (by first | rfl | (simp; done)) (by first | rfl | (simp; done) | (simp [srtH]; done)) (by first | rfl | (simp; done) | (simp; omega) | (simp [srtH_len]; done) | (simp [srtH_len]; omega) | omega) (za := 0) (zb := 20) (by first | rfl | (simp; done) | (simp; omega) | (simp [srtH_len]; done) | (simp [srtH_len]; omega) | omega) (by first | rfl | (simp; done) | (simp; omega) | (simp [srtH_len]; done) | (simp [srtH_len]; omega) | omega) W S)
 have H1 := Lib.hid (fun W (S : SW w0 g (srtH A) W) => ins_at (cap := cap) R hsz hN (l := srtH A) (l' := srtH A) (P := srtH A) (seg := []) (post := []) (by first | rfl | (simp; done)) (by first | rfl | (simp; done) | (simp [srtH]; done)) (by first | rfl | (simp; done) | (simp; omega) | (simp [srtH_len]; done) | (simp [srtH_len]; omega) | omega) (za := 20) (zb := N) (by first | rfl | (simp; done) | (simp; omega) | (simp [srtH_len]; done) | (simp [srtH_len]; omega) | omega) (by first | rfl | (simp; done) | (simp; omega) | (simp [srtH_len]; done) | (simp [srtH_len]; omega) | omega) W S)
 have S0 := Lib.hid S
 have le20 : (20 : Int) ≤ (N : Int) := by omega
 have lt20 : ¬ (20 : Int) < (N : Int) := by omega
 have le40 : ¬ (40 : Int) ≤ (N : Int) := by omega
 have lt40 : ¬ (40 : Int) < (N : Int) := by omega
 have le60 : ¬ (60 : Int) ≤ (N : Int) := by omega
 have lt60 : ¬ (60 : Int) < (N : Int) := by omega
 have le80 : ¬ (80 : Int) ≤ (N : Int) := by omega
 have lt80 : ¬ (80 : Int) < (N : Int) := by omega
 rw [hN]
 clear R _HCM hs _hr hL hsz hN S hA
 go_enter Tryz.func203, Tryz.ntmps203
 go_wp2
 refine wp_loop_rounds 2 ?_
 rw [rounds_succ]
 go_wp2_with (go_at_call 228; (with_reducible refine (H0.out _ S0.out).mono ?_); rintro e w1 ⟨rfl, S1⟩; have S1 := Lib.hid S1)
 rw [rounds_succ]
 go_wp2_with (go_at_call 228; (with_reducible refine (H1.out _ S1.out).mono ?_); rintro e w2 ⟨rfl, S2⟩; have S2 := Lib.hid S2)
 refine wp_loop_rounds 1 ?_
 rw [rounds_succ]
 go_wp2
 go_end0
 exact ⟨rfl, S2.out⟩
set_option maxRecDepth 1000000 in
set_option maxHeartbeats 8000000 in
theorem k2 {w0 w : World} {g cap : Nat} {d0 : Array Six} (R : RowK scells 6 w0 g 0 d0) (HCM : CmpLays Tryz.prog 161 #[] scells 6 cfH g 0 d0.size w0) {A B : List Six} (hs : d0.size = (A ++ B).length) (hr : Rise (A ++ B)) (hA : A.length = 20) (hB : 0 < B.length) (hB' : B.length < 20) (S : SW w0 g (A ++ B) w) :
  Calls Tryz.prog 203 #[.slice (some ⟨g, 0, none⟩) d0.size cap, .int .i64 d0.size, .func (.func 161) #[] #[]] w fun e w' => e = .returned (.tuple #[]) ∧ SW w0 g (srtH (A ++ B)) w' := by
 have hL : d0.size = A.length + B.length := by first | exact hs | (rw [hs]; simp only [List.length_append])
 have hsz : d0.size < 1000000 := by omega
 obtain ⟨N, hN⟩ : ∃ N, d0.size = N := ⟨_, rfl⟩
 have H0 := Lib.hid (fun W (S : SW w0 g (A ++ B) W) => ins_at (cap := cap) R hsz hN (l := A ++ B) (l' := srtH A ++ B) (P := []) (seg := A) (post := B) (by first | rfl | (simp; done)) (by first | rfl | (simp; done) | (simp [srtH]; done)) (by first | rfl | (simp; done) | (simp; omega) | (simp [srtH_len]; done) | (simp [srtH_len]; omega) | omega) (za := 0) (zb := 20) (by first | rfl | (simp; done) | (simp; omega) | (simp [srtH_len]; done) | (simp [srtH_len]; omega) | omega) (by first | rfl | (simp; done) | (simp; omega) | (simp [srtH_len]; done) | (simp [srtH_len]; omega) | omega) W S)
 have H1 := Lib.hid (fun W (S : SW w0 g (srtH A ++ B) W) => ins_at (cap := cap) R hsz hN (l := srtH A ++ B) (l' := srtH A ++ srtH B) (P := srtH A) (seg := B) (post := []) (by first | rfl | (simp; done)) (by first | rfl | (simp; done) | (simp [srtH]; done)) (by first | rfl | (simp; done) | (simp; omega) | (simp [srtH_len]; done) | (simp [srtH_len]; omega) | omega) (za := 20) (zb := N) (by first | rfl | (simp; done) | (simp; omega) | (simp [srtH_len]; done) | (simp [srtH_len]; omega) | omega) (by first | rfl | (simp; done) | (simp; omega) | (simp [srtH_len]; done) | (simp [srtH_len]; omega) | omega) W S)
 have H2 := Lib.hid (fun W (S : SW w0 g (srtH A ++ srtH B) W) => sym_at (cap := cap) R HCM hsz hN (l := srtH A ++ srtH B) (l' := srtH (A ++ B)) (A := A) (B := B) (post := []) hr (by first | rfl | (simp; done)) (by first | rfl | (simp; done)) (by first | rfl | (simp; done) | (simp; omega) | (simp [srtH_len]; done) | (simp [srtH_len]; omega) | omega) (by first | rfl | (simp; done) | (simp; omega) | (simp [srtH_len]; done) | (simp [srtH_len]; omega) | omega) (by first | rfl | (simp; done) | (simp; omega) | (simp [srtH_len]; done) | (simp [srtH_len]; omega) | omega) (zm := 20) (zb := N) (by first | rfl | (simp; done) | (simp; omega) | (simp [srtH_len]; done) | (simp [srtH_len]; omega) | omega) (by first | rfl | (simp; done) | (simp; omega) | (simp [srtH_len]; done) | (simp [srtH_len]; omega) | omega) W S)
 have S0 := Lib.hid S
 have le20 : (20 : Int) ≤ (N : Int) := by omega
 have lt20 : (20 : Int) < (N : Int) := by omega
 have le40 : ¬ (40 : Int) ≤ (N : Int) := by omega
 have lt40 : ¬ (40 : Int) < (N : Int) := by omega
 have le60 : ¬ (60 : Int) ≤ (N : Int) := by omega
 have lt60 : ¬ (60 : Int) < (N : Int) := by omega
 have le80 : ¬ (80 : Int) ≤ (N : Int) := by omega
 have lt80 : ¬ (80 : Int) < (N : Int) := by omega
 rw [hN]
 clear R HCM hs hr hL hsz hN S hA hB hB'
 go_enter Tryz.func203, Tryz.ntmps203
 go_wp2
 refine wp_loop_rounds 2 ?_
 rw [rounds_succ]
 go_wp2_with (go_at_call 228; (with_reducible refine (H0.out _ S0.out).mono ?_); rintro e w1 ⟨rfl, S1⟩; have S1 := Lib.hid S1)
 rw [rounds_succ]
 go_wp2_with (go_at_call 228; (with_reducible refine (H1.out _ S1.out).mono ?_); rintro e w2 ⟨rfl, S2⟩; have S2 := Lib.hid S2)
 refine wp_loop_rounds 2 ?_
 rw [rounds_succ]
 go_wp2
 refine wp_loop_rounds 1 ?_
 rw [rounds_succ]
 go_wp2_with (go_at_call 229; (with_reducible refine (H2.out _ S2.out).mono ?_); rintro e w3 ⟨rfl, S3⟩; have S3 := Lib.hid S3)
 rw [rounds_succ]
 go_wp2
 go_end0
 exact ⟨rfl, S3.out⟩
set_option maxRecDepth 1000000 in
set_option maxHeartbeats 8000000 in
theorem k40 {w0 w : World} {g cap : Nat} {d0 : Array Six} (R : RowK scells 6 w0 g 0 d0) (HCM : CmpLays Tryz.prog 161 #[] scells 6 cfH g 0 d0.size w0) {A B : List Six} (hs : d0.size = (A ++ B).length) (hr : Rise (A ++ B)) (hA : A.length = 20) (hB : B.length = 20) (S : SW w0 g (A ++ B) w) :
  Calls Tryz.prog 203 #[.slice (some ⟨g, 0, none⟩) d0.size cap, .int .i64 d0.size, .func (.func 161) #[] #[]] w fun e w' => e = .returned (.tuple #[]) ∧ SW w0 g (srtH (A ++ B)) w' := by
 have hL : d0.size = A.length + B.length := by first | exact hs | (rw [hs]; simp only [List.length_append])
 have hsz : d0.size < 1000000 := by omega
 obtain ⟨N, hN⟩ : ∃ N, d0.size = N := ⟨_, rfl⟩
 have H0 := Lib.hid (fun W (S : SW w0 g (A ++ B) W) => ins_at (cap := cap) R hsz hN (l := A ++ B) (l' := srtH A ++ B) (P := []) (seg := A) (post := B) (by first | rfl | (simp; done)) (by first | rfl | (simp; done) | (simp [srtH]; done)) (by first | rfl | (simp; done) | (simp; omega) | (simp [srtH_len]; done) | (simp [srtH_len]; omega) | omega) (za := 0) (zb := 20) (by first | rfl | (simp; done) | (simp; omega) | (simp [srtH_len]; done) | (simp [srtH_len]; omega) | omega) (by first | rfl | (simp; done) | (simp; omega) | (simp [srtH_len]; done) | (simp [srtH_len]; omega) | omega) W S)
 have H1 := Lib.hid (fun W (S : SW w0 g (srtH A ++ B) W) => ins_at (cap := cap) R hsz hN (l := srtH A ++ B) (l' := srtH A ++ srtH B) (P := srtH A) (seg := B) (post := []) (by first | rfl | (simp; done)) (by first | rfl | (simp; done) | (simp [srtH]; done)) (by first | rfl | (simp; done) | (simp; omega) | (simp [srtH_len]; done) | (simp [srtH_len]; omega) | omega) (za := 20) (zb := 40) (by first | rfl | (simp; done) | (simp; omega) | (simp [srtH_len]; done) | (simp [srtH_len]; omega) | omega) (by first | rfl | (simp; done) | (simp; omega) | (simp [srtH_len]; done) | (simp [srtH_len]; omega) | omega) W S)
 have H2 := Lib.hid (fun W (S : SW w0 g (srtH A ++ srtH B) W) => ins_at (cap := cap) R hsz hN (l := srtH A ++ srtH B) (l' := srtH A ++ srtH B) (P := srtH A ++ srtH B) (seg := []) (post := []) (by first | rfl | (simp; done)) (by first | rfl | (simp; done) | (simp [srtH]; done)) (by first | rfl | (simp; done) | (simp; omega) | (simp [srtH_len]; done) | (simp [srtH_len]; omega) | omega) (za := 40) (zb := N) (by first | rfl | (simp; done) | (simp; omega) | (simp [srtH_len]; done) | (simp [srtH_len]; omega) | omega) (by first | rfl | (simp; done) | (simp; omega) | (simp [srtH_len]; done) | (simp [srtH_len]; omega) | omega) W S)
 have H3 := Lib.hid (fun W (S : SW w0 g (srtH A ++ srtH B) W) => sym_at (cap := cap) R HCM hsz hN (l := srtH A ++ srtH B) (l' := srtH (A ++ B)) (A := A) (B := B) (post := []) hr (by first | rfl | (simp; done)) (by first | rfl | (simp; done)) (by first | rfl | (simp; done) | (simp; omega) | (simp [srtH_len]; done) | (simp [srtH_len]; omega) | omega) (by first | rfl | (simp; done) | (simp; omega) | (simp [srtH_len]; done) | (simp [srtH_len]; omega) | omega) (by first | rfl | (simp; done) | (simp; omega) | (simp [srtH_len]; done) | (simp [srtH_len]; omega) | omega) (zm := 20) (zb := 40) (by first | rfl | (simp; done) | (simp; omega) | (simp [srtH_len]; done) | (simp [srtH_len]; omega) | omega) (by first | rfl | (simp; done) | (simp; omega) | (simp [srtH_len]; done) | (simp [srtH_len]; omega) | omega) W S)
 have S0 := Lib.hid S
 have le20 : (20 : Int) ≤ (N : Int) := by omega
 have lt20 : (20 : Int) < (N : Int) := by omega
 have le40 : (40 : Int) ≤ (N : Int) := by omega
 have lt40 : ¬ (40 : Int) < (N : Int) := by omega
 have le60 : ¬ (60 : Int) ≤ (N : Int) := by omega
 have lt60 : ¬ (60 : Int) < (N : Int) := by omega
 have le80 : ¬ (80 : Int) ≤ (N : Int) := by omega
 have lt80 : ¬ (80 : Int) < (N : Int) := by omega
 rw [hN]
 clear R HCM hs hr hL hsz hN S hA hB
 go_enter Tryz.func203, Tryz.ntmps203
 go_wp2
 refine wp_loop_rounds 3 ?_
 rw [rounds_succ]
 go_wp2_with (go_at_call 228; (with_reducible refine (H0.out _ S0.out).mono ?_); rintro e w1 ⟨rfl, S1⟩; have S1 := Lib.hid S1)
 rw [rounds_succ]
 go_wp2_with (go_at_call 228; (with_reducible refine (H1.out _ S1.out).mono ?_); rintro e w2 ⟨rfl, S2⟩; have S2 := Lib.hid S2)
 rw [rounds_succ]
 go_wp2_with (go_at_call 228; (with_reducible refine (H2.out _ S2.out).mono ?_); rintro e w3 ⟨rfl, S3⟩; have S3 := Lib.hid S3)
 refine wp_loop_rounds 2 ?_
 rw [rounds_succ]
 go_wp2
 refine wp_loop_rounds 2 ?_
 rw [rounds_succ]
 go_wp2_with (go_at_call 229; (with_reducible refine (H3.out _ S3.out).mono ?_); rintro e w4 ⟨rfl, S4⟩; have S4 := Lib.hid S4)
 rw [rounds_succ]
 go_wp2
 rw [rounds_succ]
 go_wp2
 go_end0
 exact ⟨rfl, S4.out⟩
set_option maxRecDepth 1000000 in
set_option maxHeartbeats 8000000 in
theorem k3 {w0 w : World} {g cap : Nat} {d0 : Array Six} (R : RowK scells 6 w0 g 0 d0) (HCM : CmpLays Tryz.prog 161 #[] scells 6 cfH g 0 d0.size w0) {A B C : List Six} (hs : d0.size = (A ++ B ++ C).length) (hr : Rise (A ++ B ++ C)) (hA : A.length = 20) (hB : B.length = 20) (hC : 0 < C.length) (hC' : C.length < 20) (S : SW w0 g (A ++ B ++ C) w) :
  Calls Tryz.prog 203 #[.slice (some ⟨g, 0, none⟩) d0.size cap, .int .i64 d0.size, .func (.func 161) #[] #[]] w fun e w' => e = .returned (.tuple #[]) ∧ SW w0 g (srtH (A ++ B ++ C)) w' := by
 have hL : d0.size = A.length + B.length + C.length := by first | exact hs | (rw [hs]; simp only [List.length_append])
 have hsz : d0.size < 1000000 := by omega
 obtain ⟨N, hN⟩ : ∃ N, d0.size = N := ⟨_, rfl⟩
 have H0 := Lib.hid (fun W (S : SW w0 g (A ++ B ++ C) W) => ins_at (cap := cap) R hsz hN (l := A ++ B ++ C) (l' := srtH A ++ B ++ C) (P := []) (seg := A) (post := B ++ C) (by first | rfl | (simp; done)) (by first | rfl | (simp; done) | (simp [srtH]; done)) (by first | rfl | (simp; done) | (simp; omega) | (simp [srtH_len]; done) | (simp [srtH_len]; omega) | omega) (za := 0) (zb := 20) (by first | rfl | (simp; done) | (simp; omega) | (simp [srtH_len]; done) | (simp [srtH_len]; omega) | omega) (by first | rfl | (simp; done) | (simp; omega) | (simp [srtH_len]; done) | (simp [srtH_len]; omega) | omega) W S)
 have H1 := Lib.hid (fun W (S : SW w0 g (srtH A ++ B ++ C) W) => ins_at (cap := cap) R hsz hN (l := srtH A ++ B ++ C) (l' := srtH A ++ srtH B ++ C) (P := srtH A) (seg := B) (post := C) (by first | rfl | (simp; done)) (by first | rfl | (simp; done) | (simp [srtH]; done)) (by first | rfl | (simp; done) | (simp; omega) | (simp [srtH_len]; done) | (simp [srtH_len]; omega) | omega) (za := 20) (zb := 40) (by first | rfl | (simp; done) | (simp; omega) | (simp [srtH_len]; done) | (simp [srtH_len]; omega) | omega) (by first | rfl | (simp; done) | (simp; omega) | (simp [srtH_len]; done) | (simp [srtH_len]; omega) | omega) W S)
 have H2 := Lib.hid (fun W (S : SW w0 g (srtH A ++ srtH B ++ C) W) => ins_at (cap := cap) R hsz hN (l := srtH A ++ srtH B ++ C) (l' := srtH A ++ srtH B ++ srtH C) (P := srtH A ++ srtH B) (seg := C) (post := []) (by first | rfl | (simp; done)) (by first | rfl | (simp; done) | (simp [srtH]; done)) (by first | rfl | (simp; done) | (simp; omega) | (simp [srtH_len]; done) | (simp [srtH_len]; omega) | omega) (za := 40) (zb := N) (by first | rfl | (simp; done) | (simp; omega) | (simp [srtH_len]; done) | (simp [srtH_len]; omega) | omega) (by first | rfl | (simp; done) | (simp; omega) | (simp [srtH_len]; done) | (simp [srtH_len]; omega) | omega) W S)
 have H3 := Lib.hid (fun W (S : SW w0 g (srtH A ++ srtH B ++ srtH C) W) => sym_at (cap := cap) R HCM hsz hN (l := srtH A ++ srtH B ++ srtH C) (l' := srtH (A ++ B) ++ srtH C) (A := A) (B := B) (post := srtH C) (rise_app hr).1 (by first | rfl | (simp; done)) (by first | rfl | (simp; done)) (by first | rfl | (simp; done) | (simp; omega) | (simp [srtH_len]; done) | (simp [srtH_len]; omega) | omega) (by first | rfl | (simp; done) | (simp; omega) | (simp [srtH_len]; done) | (simp [srtH_len]; omega) | omega) (by first | rfl | (simp; done) | (simp; omega) | (simp [srtH_len]; done) | (simp [srtH_len]; omega) | omega) (zm := 20) (zb := 40) (by first | rfl | (simp; done) | (simp; omega) | (simp [srtH_len]; done) | (simp [srtH_len]; omega) | omega) (by first | rfl | (simp; done) | (simp; omega) | (simp [srtH_len]; done) | (simp [srtH_len]; omega) | omega) W S)
 have H4 := Lib.hid (fun W (S : SW w0 g (srtH (A ++ B) ++ srtH C) W) => sym_at (cap := cap) R HCM hsz hN (l := srtH (A ++ B) ++ srtH C) (l' := srtH (A ++ B ++ C)) (A := (A ++ B)) (B := C) (post := []) hr (by first | rfl | (simp; done)) (by first | rfl | (simp; done)) (by first | rfl | (simp; done) | (simp; omega) | (simp [srtH_len]; done) | (simp [srtH_len]; omega) | omega) (by first | rfl | (simp; done) | (simp; omega) | (simp [srtH_len]; done) | (simp [srtH_len]; omega) | omega) (by first | rfl | (simp; done) | (simp; omega) | (simp [srtH_len]; done) | (simp [srtH_len]; omega) | omega) (zm := 40) (zb := N) (by first | rfl | (simp; done) | (simp; omega) | (simp [srtH_len]; done) | (simp [srtH_len]; omega) | omega) (by first | rfl | (simp; done) | (simp; omega) | (simp [srtH_len]; done) | (simp [srtH_len]; omega) | omega) W S)
 have S0 := Lib.hid S
 have le20 : (20 : Int) ≤ (N : Int) := by omega
 have lt20 : (20 : Int) < (N : Int) := by omega
 have le40 : (40 : Int) ≤ (N : Int) := by omega
 have lt40 : (40 : Int) < (N : Int) := by omega
 have le60 : ¬ (60 : Int) ≤ (N : Int) := by omega
 have lt60 : ¬ (60 : Int) < (N : Int) := by omega
 have le80 : ¬ (80 : Int) ≤ (N : Int) := by omega
 have lt80 : ¬ (80 : Int) < (N : Int) := by omega
 rw [hN]
 clear R HCM hs hr hL hsz hN S hA hB hC hC'
 go_enter Tryz.func203, Tryz.ntmps203
 go_wp2
 refine wp_loop_rounds 3 ?_
 rw [rounds_succ]
 go_wp2_with (go_at_call 228; (with_reducible refine (H0.out _ S0.out).mono ?_); rintro e w1 ⟨rfl, S1⟩; have S1 := Lib.hid S1)
 rw [rounds_succ]
 go_wp2_with (go_at_call 228; (with_reducible refine (H1.out _ S1.out).mono ?_); rintro e w2 ⟨rfl, S2⟩; have S2 := Lib.hid S2)
 rw [rounds_succ]
 go_wp2_with (go_at_call 228; (with_reducible refine (H2.out _ S2.out).mono ?_); rintro e w3 ⟨rfl, S3⟩; have S3 := Lib.hid S3)
 refine wp_loop_rounds 3 ?_
 rw [rounds_succ]
 go_wp2
 refine wp_loop_rounds 2 ?_
 rw [rounds_succ]
 go_wp2_with (go_at_call 229; (with_reducible refine (H3.out _ S3.out).mono ?_); rintro e w4 ⟨rfl, S4⟩; have S4 := Lib.hid S4)
 rw [rounds_succ]
 go_wp2
 rw [rounds_succ]
 go_wp2
 refine wp_loop_rounds 1 ?_
 rw [rounds_succ]
 go_wp2_with (go_at_call 229; (with_reducible refine (H4.out _ S4.out).mono ?_); rintro e w5 ⟨rfl, S5⟩; have S5 := Lib.hid S5)
 rw [rounds_succ]
 go_wp2
 go_end0
 exact ⟨rfl, S5.out⟩
set_option maxRecDepth 1000000 in
set_option maxHeartbeats 8000000 in
theorem k60 {w0 w : World} {g cap : Nat} {d0 : Array Six} (R : RowK scells 6 w0 g 0 d0) (HCM : CmpLays Tryz.prog 161 #[] scells 6 cfH g 0 d0.size w0) {A B C : List Six} (hs : d0.size = (A ++ B ++ C).length) (hr : Rise (A ++ B ++ C)) (hA : A.length = 20) (hB : B.length = 20) (hC : C.length = 20) (S : SW w0 g (A ++ B ++ C) w) :
  Calls Tryz.prog 203 #[.slice (some ⟨g, 0, none⟩) d0.size cap, .int .i64 d0.size, .func (.func 161) #[] #[]] w fun e w' => e = .returned (.tuple #[]) ∧ SW w0 g (srtH (A ++ B ++ C)) w' := by
 have hL : d0.size = A.length + B.length + C.length := by first | exact hs | (rw [hs]; simp only [List.length_append])
 have hsz : d0.size < 1000000 := by omega
 obtain ⟨N, hN⟩ : ∃ N, d0.size = N := ⟨_, rfl⟩
 have H0 := Lib.hid (fun W (S : SW w0 g (A ++ B ++ C) W) => ins_at (cap := cap) R hsz hN (l := A ++ B ++ C) (l' := srtH A ++ B ++ C) (P := []) (seg := A) (post := B ++ C) (by first | rfl | (simp; done)) (by first | rfl | (simp; done) | (simp [srtH]; done)) (by first | rfl | (simp; done) | (simp; omega) | (simp [srtH_len]; done) | (simp [srtH_len]; omega) | omega) (za := 0) (zb := 20) (by first | rfl | (simp; done) | (simp; omega) | (simp [srtH_len]; done) | (simp [srtH_len]; omega) | omega) (by first | rfl | (simp; done) | (simp; omega) | (simp [srtH_len]; done) | (simp [srtH_len]; omega) | omega) W S)
 have H1 := Lib.hid (fun W (S : SW w0 g (srtH A ++ B ++ C) W) => ins_at (cap := cap) R hsz hN (l := srtH A ++ B ++ C) (l' := srtH A ++ srtH B ++ C) (P := srtH A) (seg := B) (post := C) (by first | rfl | (simp; done)) (by first | rfl | (simp; done) | (simp [srtH]; done)) (by first | rfl | (simp; done) | (simp; omega) | (simp [srtH_len]; done) | (simp [srtH_len]; omega) | omega) (za := 20) (zb := 40) (by first | rfl | (simp; done) | (simp; omega) | (simp [srtH_len]; done) | (simp [srtH_len]; omega) | omega) (by first | rfl | (simp; done) | (simp; omega) | (simp [srtH_len]; done) | (simp [srtH_len]; omega) | omega) W S)
 have H2 := Lib.hid (fun W (S : SW w0 g (srtH A ++ srtH B ++ C) W) => ins_at (cap := cap) R hsz hN (l := srtH A ++ srtH B ++ C) (l' := srtH A ++ srtH B ++ srtH C) (P := srtH A ++ srtH B) (seg := C) (post := []) (by first | rfl | (simp; done)) (by first | rfl | (simp; done) | (simp [srtH]; done)) (by first | rfl | (simp; done) | (simp; omega) | (simp [srtH_len]; done) | (simp [srtH_len]; omega) | omega) (za := 40) (zb := 60) (by first | rfl | (simp; done) | (simp; omega) | (simp [srtH_len]; done) | (simp [srtH_len]; omega) | omega) (by first | rfl | (simp; done) | (simp; omega) | (simp [srtH_len]; done) | (simp [srtH_len]; omega) | omega) W S)
 have H3 := Lib.hid (fun W (S : SW w0 g (srtH A ++ srtH B ++ srtH C) W) => ins_at (cap := cap) R hsz hN (l := srtH A ++ srtH B ++ srtH C) (l' := srtH A ++ srtH B ++ srtH C) (P := srtH A ++ srtH B ++ srtH C) (seg := []) (post := []) (by first | rfl | (simp; done)) (by first | rfl | (simp; done) | (simp [srtH]; done)) (by first | rfl | (simp; done) | (simp; omega) | (simp [srtH_len]; done) | (simp [srtH_len]; omega) | omega) (za := 60) (zb := N) (by first | rfl | (simp; done) | (simp; omega) | (simp [srtH_len]; done) | (simp [srtH_len]; omega) | omega) (by first | rfl | (simp; done) | (simp; omega) | (simp [srtH_len]; done) | (simp [srtH_len]; omega) | omega) W S)
 have H4 := Lib.hid (fun W (S : SW w0 g (srtH A ++ srtH B ++ srtH C) W) => sym_at (cap := cap) R HCM hsz hN (l := srtH A ++ srtH B ++ srtH C) (l' := srtH (A ++ B) ++ srtH C) (A := A) (B := B) (post := srtH C) (rise_app hr).1 (by first | rfl | (simp; done)) (by first | rfl | (simp; done)) (by first | rfl | (simp; done) | (simp; omega) | (simp [srtH_len]; done) | (simp [srtH_len]; omega) | omega) (by first | rfl | (simp; done) | (simp; omega) | (simp [srtH_len]; done) | (simp [srtH_len]; omega) | omega) (by first | rfl | (simp; done) | (simp; omega) | (simp [srtH_len]; done) | (simp [srtH_len]; omega) | omega) (zm := 20) (zb := 40) (by first | rfl | (simp; done) | (simp; omega) | (simp [srtH_len]; done) | (simp [srtH_len]; omega) | omega) (by first | rfl | (simp; done) | (simp; omega) | (simp [srtH_len]; done) | (simp [srtH_len]; omega) | omega) W S)
 have H5 := Lib.hid (fun W (S : SW w0 g (srtH (A ++ B) ++ srtH C) W) => sym_at (cap := cap) R HCM hsz hN (l := srtH (A ++ B) ++ srtH C) (l' := srtH (A ++ B ++ C)) (A := (A ++ B)) (B := C) (post := []) hr (by first | rfl | (simp; done)) (by first | rfl | (simp; done)) (by first | rfl | (simp; done) | (simp; omega) | (simp [srtH_len]; done) | (simp [srtH_len]; omega) | omega) (by first | rfl | (simp; done) | (simp; omega) | (simp [srtH_len]; done) | (simp [srtH_len]; omega) | omega) (by first | rfl | (simp; done) | (simp; omega) | (simp [srtH_len]; done) | (simp [srtH_len]; omega) | omega) (zm := 40) (zb := N) (by first | rfl | (simp; done) | (simp; omega) | (simp [srtH_len]; done) | (simp [srtH_len]; omega) | omega) (by first | rfl | (simp; done) | (simp; omega) | (simp [srtH_len]; done) | (simp [srtH_len]; omega) | omega) W S)
 have S0 := Lib.hid S
 have le20 : (20 : Int) ≤ (N : Int) := by omega
 have lt20 : (20 : Int) < (N : Int) := by omega
 have le40 : (40 : Int) ≤ (N : Int) := by omega
 have lt40 : (40 : Int) < (N : Int) := by omega
 have le60 : (60 : Int) ≤ (N : Int) := by omega
 have lt60 : ¬ (60 : Int) < (N : Int) := by omega
 have le80 : ¬ (80 : Int) ≤ (N : Int) := by omega
 have lt80 : ¬ (80 : Int) < (N : Int) := by omega
 rw [hN]
 clear R HCM hs hr hL hsz hN S hA hB hC
 go_enter Tryz.func203, Tryz.ntmps203
 go_wp2
 refine wp_loop_rounds 4 ?_
 rw [rounds_succ]
 go_wp2_with (go_at_call 228; (with_reducible refine (H0.out _ S0.out).mono ?_); rintro e w1 ⟨rfl, S1⟩; have S1 := Lib.hid S1)
 rw [rounds_succ]
 go_wp2_with (go_at_call 228; (with_reducible refine (H1.out _ S1.out).mono ?_); rintro e w2 ⟨rfl, S2⟩; have S2 := Lib.hid S2)
 rw [rounds_succ]
 go_wp2_with (go_at_call 228; (with_reducible refine (H2.out _ S2.out).mono ?_); rintro e w3 ⟨rfl, S3⟩; have S3 := Lib.hid S3)
 rw [rounds_succ]
 go_wp2_with (go_at_call 228; (with_reducible refine (H3.out _ S3.out).mono ?_); rintro e w4 ⟨rfl, S4⟩; have S4 := Lib.hid S4)
 refine wp_loop_rounds 3 ?_
 rw [rounds_succ]
 go_wp2
 refine wp_loop_rounds 2 ?_
 rw [rounds_succ]
 go_wp2_with (go_at_call 229; (with_reducible refine (H4.out _ S4.out).mono ?_); rintro e w5 ⟨rfl, S5⟩; have S5 := Lib.hid S5)
 rw [rounds_succ]
 go_wp2
 rw [rounds_succ]
 go_wp2
 refine wp_loop_rounds 1 ?_
 rw [rounds_succ]
 go_wp2_with (go_at_call 229; (with_reducible refine (H5.out _ S5.out).mono ?_); rintro e w6 ⟨rfl, S6⟩; have S6 := Lib.hid S6)
 rw [rounds_succ]
 go_wp2
 go_end0
 exact ⟨rfl, S6.out⟩
/-- Of up to sixty loads whose sources rise. -/
theorem stable60_any {w : World} {base : Nat} {v : Value} {xs : List Six} (h : OwnL scells 6 103 w base v xs) (hn : xs.length ≤ 60) (hr : Rise xs) :
  Calls Tryz.prog 203 #[v, .int .i64 xs.length, .func (.func 161) #[] #[]] w fun e w' => e = .returned (.tuple #[]) ∧ OwnL scells 6 103 w' base v (srtH xs) ∧ w.grownBy w' v.ownBlock := by
 by_cases h19 : xs.length ≤ 19
 ·exact stable_any h h19
 ·have hv : v ≠ .slice none 0 0 := fun hv => by
   subst hv
   obtain ⟨-, ⟨-, h0⟩ | ⟨g, cap, cur, e, -⟩⟩ := h
   ·omega
   ·cases e
  obtain ⟨g, cap, cur, rfl, hb, hg, hcn, hm, hs, hH⟩ := holdsK_of h hv
  have hgl : g < w.heap.size := (Array.getElem?_eq_some_iff.1 hg).1
  have R : RowK scells 6 w g 0 xs.toArray := ⟨scells_len, scells_one, hH, hgl⟩
  have HCM := lays g 0 xs.toArray.size w
  have S : SW w g xs w := SWK.start hH
  have fin : ∀ (e : Ending) (w' : World), (e = .returned (.tuple #[]) ∧ SW w g (srtH xs) w') → e = .returned (.tuple #[]) ∧ OwnL scells 6 103 w' base (.slice (some ⟨g, 0, none⟩) xs.length cap) (srtH xs) ∧ w.grownBy w' (some g) := by
   rintro e w' ⟨rfl, q, os, rfl⟩
   obtain ⟨h1, h2⟩ := own_sorted (q := q) (os := os) (ys := srtH xs) (srtH_len xs) hb hg hcn hm hs
   exact ⟨rfl, h1, fix_grown h2⟩
  have hsz : xs.toArray.size = xs.length := by simp
  have e1 : xs.take 20 ++ xs.drop 20 = xs := List.take_append_drop _ _
  have e2 : xs.take 20 ++ (xs.drop 20).take 20 ++ (xs.drop 20).drop 20 = xs := by rw [List.append_assoc, List.take_append_drop, List.take_append_drop]
  have l1 : (xs.take 20).length = 20 := by rw [List.length_take]; omega
  rw [← hsz] at fin ⊢
  have show' : ∀ ys, ys = xs → (Calls Tryz.prog 203 #[.slice (some ⟨g, 0, none⟩) xs.toArray.size cap, .int .i64 xs.toArray.size, .func (.func 161) #[] #[]] w fun e w' => e = .returned (.tuple #[]) ∧ SW w g (srtH ys) w') → Calls Tryz.prog 203 #[.slice (some ⟨g, 0, none⟩) xs.toArray.size cap, .int .i64 xs.toArray.size, .func (.func 161) #[] #[]] w fun e w' => e = .returned (.tuple #[]) ∧ OwnL scells 6 103 w' base (.slice (some ⟨g, 0, none⟩) xs.toArray.size cap) (srtH xs) ∧ w.grownBy w' (some g) := fun ys e hc => by
   subst e
   exact hc.mono fin
  rcases (by omega : xs.length = 20 ∨ (20 < xs.length ∧ xs.length < 40) ∨ xs.length = 40 ∨ (40 < xs.length ∧ xs.length < 60) ∨ xs.length = 60) with c | c | c | c | c
  ·exact show' xs rfl (k20 R HCM (A := xs) hsz hr c S)
  ·refine show' _ e1 (k2 R HCM (A := xs.take 20) (B := xs.drop 20) (by rw [e1]; exact hsz) (by rw [e1]; exact hr) l1 (by rw [List.length_drop]; omega) (by rw [List.length_drop]; omega) (by rw [e1]; exact S))
  ·refine show' _ e1 (k40 R HCM (A := xs.take 20) (B := xs.drop 20) (by rw [e1]; exact hsz) (by rw [e1]; exact hr) l1 (by rw [List.length_drop]; omega) (by rw [e1]; exact S))
  ·refine show' _ e2 (k3 R HCM (A := xs.take 20) (B := (xs.drop 20).take 20) (C := (xs.drop 20).drop 20) (by rw [e2]; exact hsz) (by rw [e2]; exact hr) l1 (by rw [List.length_take, List.length_drop]; omega) (by rw [List.length_drop, List.length_drop]; omega) (by rw [List.length_drop, List.length_drop]; omega) (by rw [e2]; exact S))
  ·refine show' _ e2 (k60 R HCM (A := xs.take 20) (B := (xs.drop 20).take 20) (C := (xs.drop 20).drop 20) (by rw [e2]; exact hsz) (by rw [e2]; exact hr) l1 (by rw [List.length_take, List.length_drop]; omega) (by rw [List.length_drop, List.length_drop]; omega) (by rw [e2]; exact S))
set_option maxRecDepth 100000 in
theorem sortStable60_any {w : World} {base : Nat} {v : Value} {xs : List Six} (h : OwnL scells 6 103 w base v xs) (hn : xs.length ≤ 60) (hr : Rise xs) :
  Calls Tryz.prog 160 #[v, .func (.func 161) #[] #[]] w fun e w' => e = .returned (.tuple #[]) ∧ OwnL scells 6 103 w' base v (srtH xs) ∧ w.grownBy w' v.ownBlock := by
 obtain ⟨A, c, rfl, -⟩ := h.arr kdL
 have T := Lib.hid (stable60_any h hn hr)
 clear h hr
 generalize xs.length = n at hn T ⊢
 go_enter Tryz.func160, Tryz.ntmps160
 go_wp2_with (go_at_call 203; (with_reducible refine (T.out).mono ?_); rintro e w' ⟨rfl, ho, hg⟩)
 go_end0
 exact ⟨rfl, ho, hg⟩
end Go.Proofs.YtkoejeghihcmlaaGreat

namespace Go.Proofs.YtkoejeghihcmlaaGreat
open Go.RowKit Go.Shelf
theorem rise_at {l : List Six} (h : ∀ j, j < l.length → j = 0 ∨ (l.getD (j - 1) z6).a < (l.getD j z6).a) : ∀ k i, i + k < l.length → 0 < k → (l.getD i z6).a < (l.getD (i + k) z6).a
 | 0, _, _, h0 => absurd h0 (Nat.lt_irrefl _)
 | 1, i, hi, _ => by
  rcases h (i + 1) hi with e | e
  ·omega
  ·exact e
 | k + 2, i, hi, _ => by
  have h1 := rise_at h (k + 1) i (by omega) (by omega)
  rcases h (i + (k + 2)) hi with e | e
  ·omega
  ·rw [show i + (k + 2) - 1 = i + (k + 1) by omega] at e
   omega
theorem rise_steps {l : List Six} (h : ∀ j, j < l.length → j = 0 ∨ (l.getD (j - 1) z6).a < (l.getD j z6).a) : Rise l := by
 refine List.pairwise_iff_getElem.2 fun i j hi hj hij => ?_
 have := rise_at h (j - i) i (by omega) (by omega)
 rw [show i + (j - i) = j by omega, List.getD_eq_getElem?_getD, List.getD_eq_getElem?_getD, List.getElem?_eq_getElem hi, List.getElem?_eq_getElem hj] at this
 exact this
theorem rise_loads {p : Pl} (h : okPl p = true) : Rise p.loads := by
 unfold okPl at h
 simp only [Bool.and_eq_true] at h
 have h1 := h.1.1.1.1
 unfold okL at h1
 rw [Bool.and_eq_true, List.all_eq_true] at h1
 exact rise_steps fun j hj => (okAt_parts (h1.1 j (List.mem_range.2 hj))).2.1
theorem veil_a (m : Int → Bool) (x : Six) : (veil m x).a = x.a := by unfold veil; split <;> rfl
theorem rise_pick {p : Pl} (h : okPl p = true) (known : Int) (meant : Int → Bool) : Rise (pickL p known meant) := by
 rw [pickL_eq]
 unfold pickX
 refine List.pairwise_map.2 ?_
 refine List.Pairwise.imp (R := fun x y => x.a < y.a) (fun {x y} hxy => by rw [veil_a, veil_a]; exact hxy) ((rise_loads h).sublist List.filter_sublist)
end Go.Proofs.YtkoejeghihcmlaaGreat
