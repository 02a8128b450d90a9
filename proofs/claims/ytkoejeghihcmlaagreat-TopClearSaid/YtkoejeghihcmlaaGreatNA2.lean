/- Part of the proof: UE, UF, MD, WL, DD. -/
import Derived.Test.YtkoejeghihcmlaaGreatNA0
import Derived.Test.YtkoejeghihcmlaaGreatNA1
namespace Go.Proofs.YtkoejeghihcmlaaGreat
open Go.RowKit Go.Shelf Go.Sort
theorem inner_off (x : Six) (P : List Six) : ∀ (n : Nat) (pre post : List Six), pre.length = n → Up pre → insInner (ltOf cfH) P.length (P.length + n) (P ++ (pre ++ x :: post)).toArray = (P ++ (insH x pre ++ post)).toArray
 | 0, pre, post, hl, _ => by
  have : pre = [] := List.eq_nil_of_length_eq_zero hl
  subst this
  rw [Nat.add_zero, insInner_stop _ _ _ _ (.inl (Nat.le_refl _))]
  rfl
 | n + 1, pre, post, hl, hu => by
  obtain ⟨q, y, rfl⟩ : ∃ q y, pre = q ++ [y] := ⟨pre.dropLast, pre.getLast (by intro h; rw [h] at hl; simp at hl), (List.dropLast_concat_getLast _).symm⟩
  have hq : q.length = n := by rw [List.length_append, List.length_singleton] at hl; omega
  have e0 : P ++ (q ++ [y] ++ x :: post) = (P ++ q) ++ y :: ([] ++ x :: post) := by simp
  have e1 : ((P ++ q) ++ y :: ([] ++ x :: post)).toArray[P.length + n]! = y := by rw [← hq, ← List.length_append]; simp
  have e2 : ((P ++ q) ++ y :: ([] ++ x :: post)).toArray[P.length + (n + 1)]! = x := by
   have : (P ++ q) ++ y :: ([] ++ x :: post) = (P ++ q ++ [y]) ++ x :: post := by simp
   rw [this, show P.length + (n + 1) = (P ++ q ++ [y]).length by simp; omega]
   simp
  have hq' : Up q := (List.pairwise_append.1 hu).1
  rw [e0, insH_snoc hu]
  by_cases h : x.b < y.b
  ·rw [if_pos h, insInner_go _ _ _ _ (by omega) (by rw [show P.length + (n + 1) - 1 = P.length + n by omega, e1, e2, lt_iff]; exact decide_eq_true h), show P.length + (n + 1) - 1 = P.length + n by omega,
    swp_back (by simp; omega) (by simp; omega)]
   have := inner_off x P n q (y :: post) hq hq'
   have e3 : (P ++ q) ++ x :: ([] ++ y :: post) = P ++ (q ++ x :: (y :: post)) := by simp
   rw [e3, this]
   simp
  ·rw [if_neg h, insInner_stop _ _ _ _ (.inr (by rw [show P.length + (n + 1) - 1 = P.length + n by omega, e1, e2, lt_iff]; exact decide_eq_false h))]
   simp
theorem outer_off (P seg post : List Six) : ∀ (k i : Nat), k + i = seg.length → insOuter (ltOf cfH) P.length (P.length + seg.length) (P.length + i) (P ++ (srtH (seg.take i) ++ (seg.drop i ++ post))).toArray = (P ++ (srtH seg ++ post)).toArray
 | 0, i, h => by
  rw [insOuter_stop _ _ _ _ _ (by omega), List.take_of_length_le (by omega), List.drop_eq_nil_of_le (by omega), List.nil_append]
 | k + 1, i, h => by
  have hi : i < seg.length := by omega
  rw [insOuter_go _ _ _ _ _ (by omega), List.drop_eq_getElem_cons hi, List.cons_append, inner_off _ P i _ _ (by rw [srtH_len, List.length_take]; omega) (srtH_up _)]
  have e : insH seg[i] (srtH (seg.take i)) = srtH (seg.take (i + 1)) := by
   rw [List.take_succ_eq_append_getElem hi]
   unfold srtH
   rw [List.foldl_append]
   rfl
  rw [e]
  exact outer_off P seg post k (i + 1) (by omega)
theorem insertion_off (P seg post : List Six) : insertionSort (ltOf cfH) (P ++ (seg ++ post)).toArray P.length (P.length + seg.length) = (P ++ (srtH seg ++ post)).toArray := by
 unfold insertionSort
 match seg with
 | [] => rw [insOuter_stop _ _ _ _ _ (by simp)]; rfl
 | x :: l => exact outer_off P (x :: l) post l.length 1 (by simp)
set_option maxRecDepth 100000 in
theorem ins_sub {w0 w : World} {g cap : Nat} {d0 : Array Six} {P seg post : List Six} (R : RowK scells 6 w0 g 0 d0) (hs : d0.size = (P ++ (seg ++ post)).length) (hsz : d0.size < 1000000) (S : SW w0 g (P ++ (seg ++ post)) w) {a b : Nat} (ha : a = P.length) (hb : b = P.length + seg.length) :
  Calls Tryz.prog 228 #[.slice (some ⟨g, 0, none⟩) d0.size cap, .int .i64 a, .int .i64 b, .func (.func 161) #[] #[]] w fun e w' => e = .returned (.tuple #[]) ∧ SW w0 g (P ++ (srtH seg ++ post)) w' := by
 subst ha hb
 have hl : (P ++ (seg ++ post)).toArray.size = d0.size := by rw [List.size_toArray]; exact hs.symm
 have hL : (P ++ (seg ++ post)).length = P.length + (seg.length + post.length) := by simp only [List.length_append]
 have := AnyQ.insertionSortCmpFunc insSort 6 Tryz.isAgg103 Tryz.sizeOf103 scells scells_len scells_one cfH 161 #[] g 0 cap P.length (P.length + seg.length) (P ++ (seg ++ post)).toArray w
  (enters_of Tryz.func161 (by kernel_rfl) rfl) (lays _ _ _ _) (S.holds R.hblk R.hH hl) (S.lt R.hblk) (by omega) (by rw [hl]; omega) (by rw [hl]; omega)
 rw [hl] at this
 refine this.mono ?_
 rintro e w' ⟨rfl, q, os, rfl⟩
 rw [insertion_off]
 exact ⟨rfl, S.on R.hblk q _ os (by rw [hl, List.size_toArray, hs]; simp only [List.length_append, srtH_len])⟩
theorem ap_srt {A B : List Six} (h : Rise (A ++ B)) : Ap (srtH A) (srtH B) := (rise_app h).2.2.perm (srtH_perm A) (srtH_perm B)
theorem mg_srt {A B Z : List Six} (h : Rise (A ++ B)) (m : Mg (srtH A) (srtH B) Z) : Z = srtH (A ++ B) := stable_eq h (m.1.trans ((srtH_perm A).append (srtH_perm B))) m.2
theorem ins_at {w0 : World} {g cap : Nat} {d0 : Array Six} (R : RowK scells 6 w0 g 0 d0) (hsz : d0.size < 1000000) {N : Nat} (hN : d0.size = N) {l l' P seg post : List Six} (el : l = P ++ (seg ++ post)) (el' : l' = P ++ (srtH seg ++ post)) (hs : d0.size = l.length) {za zb : Int} (ha : za = P.length) (hb : zb = P.length + seg.length) (W : World) (S : SW w0 g l W) :
  Calls Tryz.prog 228 #[.slice (some ⟨g, 0, none⟩) N cap, .int .i64 za, .int .i64 zb, .func (.func 161) #[] #[]] W fun e w' => e = .returned (.tuple #[]) ∧ SW w0 g l' w' := by
 subst el el' hN
 have := ins_sub (cap := cap) (w := W) R hs hsz S rfl rfl
 rw [ha, hb]
 rwa [Int.natCast_add] at this
theorem sym_at {w0 : World} {g cap : Nat} {d0 : Array Six} (R : RowK scells 6 w0 g 0 d0) (HCM : CmpLays Tryz.prog 161 #[] scells 6 cfH g 0 d0.size w0) (hsz : d0.size < 1000000) {N : Nat} (hN : d0.size = N) {l l' A B post : List Six} (hr : Rise (A ++ B)) (el : l = srtH A ++ (srtH B ++ post)) (el' : l' = srtH (A ++ B) ++ post) (hs : d0.size = l.length) (hA : 0 < A.length) (hB : 0 < B.length) {zm zb : Int} (hm : zm = A.length) (hb : zb = A.length + B.length) (W : World) (S : SW w0 g l W) :
  Calls Tryz.prog 229 #[.slice (some ⟨g, 0, none⟩) N cap, .int .i64 0, .int .i64 zm, .int .i64 zb, .func (.func 161) #[] #[]] W fun e w' => e = .returned (.tuple #[]) ∧ SW w0 g l' w' := by
 subst el el' hN
 have := symMerge_any (cap := cap) R HCM hsz _ [] (srtH A) (srtH B) post W 0 A.length (A.length + B.length) (by rw [hs]; simp) (by rw [srtH_len]; exact hA) (by rw [srtH_len]; exact hB) (Nat.le_refl _) (lx_srtH (rise_app hr).1) (lx_srtH (rise_app hr).2.1) (ap_srt hr) (by simpa using S) rfl (by first | rfl | (simp; done) | (simp; omega) | (simp [srtH_len]; done) | (simp [srtH_len]; omega) | omega) (by first | rfl | (simp; done) | (simp; omega) | (simp [srtH_len]; done) | (simp [srtH_len]; omega) | omega)
 rw [hm, hb]
 rw [Int.natCast_add] at this
 refine this.mono ?_
 rintro e w' ⟨rfl, Z, hz, hS⟩
 rw [mg_srt hr hz] at hS
 exact ⟨rfl, by simpa using hS⟩
set_option maxRecDepth 1000000 in
set_option maxHeartbeats 8000000 in
theorem k20 {w0 w : World} {g cap : Nat} {d0 : Array Six} (R : RowK scells 6 w0 g 0 d0) (_HCM : CmpLays Tryz.prog 161 #[] scells 6 cfH g 0 d0.size w0) {A : List Six} (hs : d0.size = (A).length) (_hr : Rise (A)) (hA : A.length = 20) (S : SW w0 g (A) w) :
  Calls Tryz.prog 203 #[.slice (some ⟨g, 0, none⟩) d0.size cap, .int .i64 d0.size, .func (.func 161) #[] #[]] w fun e w' => e = .returned (.tuple #[]) ∧ SW w0 g (srtH (A)) w' := by
 have hL : d0.size = A.length := by first | exact hs | (rw [hs]; simp only [List.length_append])
 have hsz : d0.size < 1000000 := by omega
 obtain ⟨N, hN⟩ : ∃ N, d0.size = N := ⟨_, rfl⟩
 have H0 := Lib.hid (fun W (S : SW w0 g (A) W) => ins_at (cap := cap) R hsz hN (l := A) (l' := srtH A) (P := []) (seg := A) (post := []) (by first | rfl | (simp; done)) (by first | rfl | (simp; done) | (simp [srtH]; done)) (by first | rfl | (simp; done) | (simp; omega) | (simp [srtH_len]; done) | (simp [srtH_len]; omega) | omega) (za := 0) (zb := 20) (by first | rfl | (simp; done) | (simp; omega) | (simp [srtH_len]; done) | (simp [srtH_len]; omega) | omega) (by first | rfl | (simp; done) | (simp; omega) | (simp [srtH_len]; done) | (simp [srtH_len]; omega) | omega) W S)
 have H1 := Lib.hid (fun W (S : SW w0 g (srtH A) W) => ins_at (cap := cap) R hsz hN (l := srtH A) (l' := srtH A) (P := srtH A) (seg := []) (post := []) (by first | rfl | (simp; done)) (by first | rfl | (simp; done) | (simp [srtH]; done)) (by first | rfl | (simp; done) | (simp; omega) | (simp [srtH_len]; done) | (simp [srtH_len]; omega) | omega) (za := 20) (zb := N) (by first | rfl | (simp; done) | (simp; omega) | (simp [srtH_len]; done) | (simp [srtH_len]; omega) | omega) (by first | rfl | (simp; done) | (simp; omega) | (simp [srtH_len]; done) | (simp [srtH_len]; omega) | omega) W S)
 have S0 := Lib.hid S
 have le20 : (20 : Int) ≤ (N : Int) := by omega
 have lt20 : ¬ (20 : Int) < (N : Int) := by omega
 have le40 : ¬ (40 : Int) ≤ (N : Int) := by omega
 have lt40 : ¬ (40 : Int) < (N : Int) := by omega
 have le60 : ¬ (60 : Int) ≤ (N : Int) := by omega
 have lt60 : ¬ (60 : Int) < (N : Int) := by omega
 have le80 : ¬ (80 : Int) ≤ (N : Int) := by omega
 have lt80 : ¬ (80 : Int) < (N : Int) := by omega
 rw [hN]
 clear R _HCM hs _hr hL hsz hN S hA
 go_enter Tryz.func203, Tryz.ntmps203
 go_wp2
 refine wp_loop_rounds 2 ?_
 rw [rounds_succ]
 go_wp2_with (go_at_call 228; (with_reducible refine (H0.out _ S0.out).mono ?_); rintro e w1 ⟨rfl, S1⟩; have S1 := Lib.hid S1)
 rw [rounds_succ]
 go_wp2_with (go_at_call 228; (with_reducible refine (H1.out _ S1.out).mono ?_); rintro e w2 ⟨rfl, S2⟩; have S2 := Lib.hid S2)
 refine wp_loop_rounds 1 ?_
 rw [rounds_succ]
 go_wp2
 go_end0
 exact ⟨rfl, S2.out⟩
set_option maxRecDepth 1000000 in
set_option maxHeartbeats 8000000 in
theorem k2 {w0 w : World} {g cap : Nat} {d0 : Array Six} (R : RowK scells 6 w0 g 0 d0) (HCM : CmpLays Tryz.prog 161 #[] scells 6 cfH g 0 d0.size w0) {A B : List Six} (hs : d0.size = (A ++ B).length) (hr : Rise (A ++ B)) (hA : A.length = 20) (hB : 0 < B.length) (hB' : B.length < 20) (S : SW w0 g (A ++ B) w) :
  Calls Tryz.prog 203 #[.slice (some ⟨g, 0, none⟩) d0.size cap, .int .i64 d0.size, .func (.func 161) #[] #[]] w fun e w' => e = .returned (.tuple #[]) ∧ SW w0 g (srtH (A ++ B)) w' := by
 have hL : d0.size = A.length + B.length := by first | exact hs | (rw [hs]; simp only [List.length_append])
 have hsz : d0.size < 1000000 := by omega
 obtain ⟨N, hN⟩ : ∃ N, d0.size = N := ⟨_, rfl⟩
 have H0 := Lib.hid (fun W (S : SW w0 g (A ++ B) W) => ins_at (cap := cap) R hsz hN (l := A ++ B) (l' := srtH A ++ B) (P := []) (seg := A) (post := B) (by first | rfl | (simp; done)) (by first | rfl | (simp; done) | (simp [srtH]; done)) (by first | rfl | (simp; done) | (simp; omega) | (simp [srtH_len]; done) | (simp [srtH_len]; omega) | omega) (za := 0) (zb := 20) (by first | rfl | (simp; done) | (simp; omega) | (simp [srtH_len]; done) | (simp [srtH_len]; omega) | omega) (by first | rfl | (simp; done) | (simp; omega) | (simp [srtH_len]; done) | (simp [srtH_len]; omega) | omega) W S)
 have H1 := Lib.hid (fun W (S : SW w0 g (srtH A ++ B) W) => ins_at (cap := cap) R hsz hN (l := srtH A ++ B) (l' := srtH A ++ srtH B) (P := srtH A) (seg := B) (post := []) (by first | rfl | (simp; done)) (by first | rfl | (simp; done) | (simp [srtH]; done)) (by first | rfl | (simp; done) | (simp; omega) | (simp [srtH_len]; done) | (simp [srtH_len]; omega) | omega) (za := 20) (zb := N) (by first | rfl | (simp; done) | (simp; omega) | (simp [srtH_len]; done) | (simp [srtH_len]; omega) | omega) (by first | rfl | (simp; done) | (simp; omega) | (simp [srtH_len]; done) | (simp [srtH_len]; omega) | omega) W S)
 have H2 := Lib.hid (fun W (S : SW w0 g (srtH A ++ srtH B) W) => sym_at (cap := cap) R HCM hsz hN (l := srtH A ++ srtH B) (l' := srtH (A ++ B)) (A := A) (B := B) (post := []) hr (by first | rfl | (simp; done)) (by first | rfl | (simp; done)) (by first | rfl | (simp; done) | (simp; omega) | (simp [srtH_len]; done) | (simp [srtH_len]; omega) | omega) (by first | rfl | (simp; done) | (simp; omega) | (simp [srtH_len]; done) | (simp [srtH_len]; omega) | omega) (by first | rfl | (simp; done) | (simp; omega) | (simp [srtH_len]; done) | (simp [srtH_len]; omega) | omega) (zm := 20) (zb := N) (by first | rfl | (simp; done) | (simp; omega) | (simp [srtH_len]; done) | (simp [srtH_len]; omega) | omega) (by first | rfl | (simp; done) | (simp; omega) | (simp [srtH_len]; done) | (simp [srtH_len]; omega) | omega) W S)
 have S0 := Lib.hid S
 have le20 : (20 : Int) ≤ (N : Int) := by omega
 have lt20 : (20 : Int) < (N : Int) := by omega
 have le40 : ¬ (40 : Int) ≤ (N : Int) := by omega
 have lt40 : ¬ (40 : Int) < (N : Int) := by omega
 have le60 : ¬ (60 : Int) ≤ (N : Int) := by omega
 have lt60 : ¬ (60 : Int) < (N : Int) := by omega
 have le80 : ¬ (80 : Int) ≤ (N : Int) := by omega
 have lt80 : ¬ (80 : Int) < (N : Int) := by omega
 rw [hN]
 clear R HCM hs hr hL hsz hN S hA hB hB'
 go_enter Tryz.func203, Tryz.ntmps203
 go_wp2
 refine wp_loop_rounds 2 ?_
 rw [rounds_succ]
 go_wp2_with (go_at_call 228; (with_reducible refine (H0.out _ S0.out).mono ?_); rintro e w1 ⟨rfl, S1⟩; have S1 := Lib.hid S1)
 rw [rounds_succ]
 go_wp2_with (go_at_call 228; (with_reducible refine (H1.out _ S1.out).mono ?_); rintro e w2 ⟨rfl, S2⟩; have S2 := Lib.hid S2)
 refine wp_loop_rounds 2 ?_
 rw [rounds_succ]
 go_wp2
 refine wp_loop_rounds 1 ?_
 rw [rounds_succ]
 go_wp2_with (go_at_call 229; (with_reducible refine (H2.out _ S2.out).mono ?_); rintro e w3 ⟨rfl, S3⟩; have S3 := Lib.hid S3)
 rw [rounds_succ]
 go_wp2
 go_end0
 exact ⟨rfl, S3.out⟩
set_option maxRecDepth 1000000 in
set_option maxHeartbeats 8000000 in
theorem k40 {w0 w : World} {g cap : Nat} {d0 : Array Six} (R : RowK scells 6 w0 g 0 d0) (HCM : CmpLays Tryz.prog 161 #[] scells 6 cfH g 0 d0.size w0) {A B : List Six} (hs : d0.size = (A ++ B).length) (hr : Rise (A ++ B)) (hA : A.length = 20) (hB : B.length = 20) (S : SW w0 g (A ++ B) w) :
  Calls Tryz.prog 203 #[.slice (some ⟨g, 0, none⟩) d0.size cap, .int .i64 d0.size, .func (.func 161) #[] #[]] w fun e w' => e = .returned (.tuple #[]) ∧ SW w0 g (srtH (A ++ B)) w' := by
 have hL : d0.size = A.length + B.length := by first | exact hs | (rw [hs]; simp only [List.length_append])
 have hsz : d0.size < 1000000 := by omega
 obtain ⟨N, hN⟩ : ∃ N, d0.size = N := ⟨_, rfl⟩
 have H0 := Lib.hid (fun W (S : SW w0 g (A ++ B) W) => ins_at (cap := cap) R hsz hN (l := A ++ B) (l' := srtH A ++ B) (P := []) (seg := A) (post := B) (by first | rfl | (simp; done)) (by first | rfl | (simp; done) | (simp [srtH]; done)) (by first | rfl | (simp; done) | (simp; omega) | (simp [srtH_len]; done) | (simp [srtH_len]; omega) | omega) (za := 0) (zb := 20) (by first | rfl | (simp; done) | (simp; omega) | (simp [srtH_len]; done) | (simp [srtH_len]; omega) | omega) (by first | rfl | (simp; done) | (simp; omega) | (simp [srtH_len]; done) | (simp [srtH_len]; omega) | omega) W S)
 have H1 := Lib.hid (fun W (S : SW w0 g (srtH A ++ B) W) => ins_at (cap := cap) R hsz hN (l := srtH A ++ B) (l' := srtH A ++ srtH B) (P := srtH A) (seg := B) (post := []) (by first | rfl | (simp; done)) (by first | rfl | (simp; done) | (simp [srtH]; done)) (by first | rfl | (simp; done) | (simp; omega) | (simp [srtH_len]; done) | (simp [srtH_len]; omega) | omega) (za := 20) (zb := 40) (by first | rfl | (simp; done) | (simp; omega) | (simp [srtH_len]; done) | (simp [srtH_len]; omega) | omega) (by first | rfl | (simp; done) | (simp; omega) | (simp [srtH_len]; done) | (simp [srtH_len]; omega) | omega) W S)
 have H2 := Lib.hid (fun W (S : SW w0 g (srtH A ++ srtH B) W) => ins_at (cap := cap) R hsz hN (l := srtH A ++ srtH B) (l' := srtH A ++ srtH B) (P := srtH A ++ srtH B) (seg := []) (post := []) (by first | rfl | (simp; done)) (by first | rfl | (simp; done) | (simp [srtH]; done)) (by first | rfl | (simp; done) | (simp; omega) | (simp [srtH_len]; done) | (simp [srtH_len]; omega) | omega) (za := 40) (zb := N) (by first | rfl | (simp; done) | (simp; omega) | (simp [srtH_len]; done) | (simp [srtH_len]; omega) | omega) (by first | rfl | (simp; done) | (simp; omega) | (simp [srtH_len]; done) | (simp [srtH_len]; omega) | omega) W S)
 have H3 := Lib.hid (fun W (S : SW w0 g (srtH A ++ srtH B) W) => sym_at (cap := cap) R HCM hsz hN (l := srtH A ++ srtH B) (l' := srtH (A ++ B)) (A := A) (B := B) (post := []) hr (by first | rfl | (simp; done)) (by first | rfl | (simp; done)) (by first | rfl | (simp; done) | (simp; omega) | (simp [srtH_len]; done) | (simp [srtH_len]; omega) | omega) (by first | rfl | (simp; done) | (simp; omega) | (simp [srtH_len]; done) | (simp [srtH_len]; omega) | omega) (by first | rfl | (simp; done) | (simp; omega) | (simp [srtH_len]; done) | (simp [srtH_len]; omega) | omega) (zm := 20) (zb := 40) (by first | rfl | (simp; done) | (simp; omega) | (simp [srtH_len]; done) | (simp [srtH_len]; omega) | omega) (by first | rfl | (simp; done) | (simp; omega) | (simp [srtH_len]; done) | (simp [srtH_len]; omega) | omega) W S)
 have S0 := Lib.hid S
 have le20 : (20 : Int) ≤ (N : Int) := by omega
 have lt20 : (20 : Int) < (N : Int) := by omega
 have le40 : (40 : Int) ≤ (N : Int) := by omega
 have lt40 : ¬ (40 : Int) < (N : Int) := by omega
 have le60 : ¬ (60 : Int) ≤ (N : Int) := by omega
 have lt60 : ¬ (60 : Int) < (N : Int) := by omega
 have le80 : ¬ (80 : Int) ≤ (N : Int) := by omega
 have lt80 : ¬ (80 : Int) < (N : Int) := by omega
 rw [hN]
 clear R HCM hs hr hL hsz hN S hA hB
 go_enter Tryz.func203, Tryz.ntmps203
 go_wp2
 refine wp_loop_rounds 3 ?_
 rw [rounds_succ]
 go_wp2_with (go_at_call 228; (with_reducible refine (H0.out _ S0.out).mono ?_); rintro e w1 ⟨rfl, S1⟩; have S1 := Lib.hid S1)
 rw [rounds_succ]
 go_wp2_with (go_at_call 228; (with_reducible refine (H1.out _ S1.out).mono ?_); rintro e w2 ⟨rfl, S2⟩; have S2 := Lib.hid S2)
 rw [rounds_succ]
 go_wp2_with (go_at_call 228; (with_reducible refine (H2.out _ S2.out).mono ?_); rintro e w3 ⟨rfl, S3⟩; have S3 := Lib.hid S3)
 refine wp_loop_rounds 2 ?_
 rw [rounds_succ]
 go_wp2
 refine wp_loop_rounds 2 ?_
 rw [rounds_succ]
 go_wp2_with (go_at_call 229; (with_reducible refine (H3.out _ S3.out).mono ?_); rintro e w4 ⟨rfl, S4⟩; have S4 := Lib.hid S4)
 rw [rounds_succ]
 go_wp2
 rw [rounds_succ]
 go_wp2
 go_end0
 exact ⟨rfl, S4.out⟩
set_option maxRecDepth 1000000 in
set_option maxHeartbeats 8000000 in
theorem k3 {w0 w : World} {g cap : Nat} {d0 : Array Six} (R : RowK scells 6 w0 g 0 d0) (HCM : CmpLays Tryz.prog 161 #[] scells 6 cfH g 0 d0.size w0) {A B C : List Six} (hs : d0.size = (A ++ B ++ C).length) (hr : Rise (A ++ B ++ C)) (hA : A.length = 20) (hB : B.length = 20) (hC : 0 < C.length) (hC' : C.length < 20) (S : SW w0 g (A ++ B ++ C) w) :
  Calls Tryz.prog 203 #[.slice (some ⟨g, 0, none⟩) d0.size cap, .int .i64 d0.size, .func (.func 161) #[] #[]] w fun e w' => e = .returned (.tuple #[]) ∧ SW w0 g (srtH (A ++ B ++ C)) w' := by
 have hL : d0.size = A.length + B.length + C.length := by first | exact hs | (rw [hs]; simp only [List.length_append])
 have hsz : d0.size < 1000000 := by omega
 obtain ⟨N, hN⟩ : ∃ N, d0.size = N := ⟨_, rfl⟩
 have H0 := Lib.hid (fun W (S : SW w0 g (A ++ B ++ C) W) => ins_at (cap := cap) R hsz hN (l := A ++ B ++ C) (l' := srtH A ++ B ++ C) (P := []) (seg := A) (post := B ++ C) (by first | rfl | (simp; done)) (by first | rfl | (simp; done) | (simp [srtH]; done)) (by first | rfl | (simp; done) | (simp; omega) | (simp [srtH_len]; done) | (simp [srtH_len]; omega) | omega) (za := 0) (zb := 20) (by first | rfl | (simp; done) | (simp; omega) | (simp [srtH_len]; done) | (simp [srtH_len]; omega) | omega) (by first | rfl | (simp; done) | (simp; omega) | (simp [srtH_len]; done) | (simp [srtH_len]; omega) | omega) W S)
 have H1 := Lib.hid (fun W (S : SW w0 g (srtH A ++ B ++ C) W) => ins_at (cap := cap) R hsz hN (l := srtH A ++ B ++ C) (l' := srtH A ++ srtH B ++ C) (P := srtH A) (seg := B) (post := C) (by first | rfl | (simp; done)) (by first | rfl | (simp; done) | (simp [srtH]; done)) (by first | rfl | (simp; done) | (simp; omega) | (simp [srtH_len]; done) | (simp [srtH_len]; omega) | omega) (za := 20) (zb := 40) (by first | rfl | (simp; done) | (simp; omega) | (simp [srtH_len]; done) | (simp [srtH_len]; omega) | omega) (by first | rfl | (simp; done) | (simp; omega) | (simp [srtH_len]; done) | (simp [srtH_len]; omega) | omega) W S)
 have H2 := Lib.hid (fun W (S : SW w0 g (srtH A ++ srtH B ++ C) W) => ins_at (cap := cap) R hsz hN (l := srtH A ++ srtH B ++ C) (l' := srtH A ++ srtH B ++ srtH C) (P := srtH A ++ srtH B) (seg := C) (post := []) (by first | rfl | (simp; done)) (by first | rfl | (simp; done) | (simp [srtH]; done)) (by first | rfl | (simp; done) | (simp; omega) | (simp [srtH_len]; done) | (simp [srtH_len]; omega) | omega) (za := 40) (zb := N) (by first | rfl | (simp; done) | (simp; omega) | (simp [srtH_len]; done) | (simp [srtH_len]; omega) | omega) (by first | rfl | (simp; done) | (simp; omega) | (simp [srtH_len]; done) | (simp [srtH_len]; omega) | omega) W S)
 have H3 := Lib.hid (fun W (S : SW w0 g (srtH A ++ srtH B ++ srtH C) W) => sym_at (cap := cap) R HCM hsz hN (l := srtH A ++ srtH B ++ srtH C) (l' := srtH (A ++ B) ++ srtH C) (A := A) (B := B) (post := srtH C) (rise_app hr).1 (by first | rfl | (simp; done)) (by first | rfl | (simp; done)) (by first | rfl | (simp; done) | (simp; omega) | (simp [srtH_len]; done) | (simp [srtH_len]; omega) | omega) (by first | rfl | (simp; done) | (simp; omega) | (simp [srtH_len]; done) | (simp [srtH_len]; omega) | omega) (by first | rfl | (simp; done) | (simp; omega) | (simp [srtH_len]; done) | (simp [srtH_len]; omega) | omega) (zm := 20) (zb := 40) (by first | rfl | (simp; done) | (simp; omega) | (simp [srtH_len]; done) | (simp [srtH_len]; omega) | omega) (by first | rfl | (simp; done) | (simp; omega) | (simp [srtH_len]; done) | (simp [srtH_len]; omega) | omega) W S)
 have H4 := Lib.hid (fun W (S : SW w0 g (srtH (A ++ B) ++ srtH C) W) => sym_at (cap := cap) R HCM hsz hN (l := srtH (A ++ B) ++ srtH C) (l' := srtH (A ++ B ++ C)) (A := (A ++ B)) (B := C) (post := []) hr (by first | rfl | (simp; done)) (by first | rfl | (simp; done)) (by first | rfl | (simp; done) | (simp; omega) | (simp [srtH_len]; done) | (simp [srtH_len]; omega) | omega) (by first | rfl | (simp; done) | (simp; omega) | (simp [srtH_len]; done) | (simp [srtH_len]; omega) | omega) (by first | rfl | (simp; done) | (simp; omega) | (simp [srtH_len]; done) | (simp [srtH_len]; omega) | omega) (zm := 40) (zb := N) (by first | rfl | (simp; done) | (simp; omega) | (simp [srtH_len]; done) | (simp [srtH_len]; omega) | omega) (by first | rfl | (simp; done) | (simp; omega) | (simp [srtH_len]; done) | (simp [srtH_len]; omega) | omega) W S)
 have S0 := Lib.hid S
 have le20 : (20 : Int) ≤ (N : Int) := by omega
 have lt20 : (20 : Int) < (N : Int) := by omega
 have le40 : (40 : Int) ≤ (N : Int) := by omega
 have lt40 : (40 : Int) < (N : Int) := by omega
 have le60 : ¬ (60 : Int) ≤ (N : Int) := by omega
 have lt60 : ¬ (60 : Int) < (N : Int) := by omega
 have le80 : ¬ (80 : Int) ≤ (N : Int) := by omega
 have lt80 : ¬ (80 : Int) < (N : Int) := by omega
 rw [hN]
 clear R HCM hs hr hL hsz hN S hA hB hC hC'
 go_enter Tryz.func203, Tryz.ntmps203
 go_wp2
 refine wp_loop_rounds 3 ?_
 rw [rounds_succ]
 go_wp2_with (go_at_call 228; (with_reducible refine (H0.out _ S0.out).mono ?_); rintro e w1 ⟨rfl, S1⟩; have S1 := Lib.hid S1)
 rw [rounds_succ]
 go_wp2_with (go_at_call 228; (with_reducible refine (H1.out _ S1.out).mono ?_); rintro e w2 ⟨rfl, S2⟩; have S2 := Lib.hid S2)
 rw [rounds_succ]
 go_wp2_with (go_at_call 228; (with_reducible refine (H2.out _ S2.out).mono ?_); rintro e w3 ⟨rfl, S3⟩; have S3 := Lib.hid S3)
 refine wp_loop_rounds 3 ?_
 rw [rounds_succ]
 go_wp2
 refine wp_loop_rounds 2 ?_
 rw [rounds_succ]
 go_wp2_with (go_at_call 229; (with_reducible refine (H3.out _ S3.out).mono ?_); rintro e w4 ⟨rfl, S4⟩; have S4 := Lib.hid S4)
 rw [rounds_succ]
 go_wp2
 rw [rounds_succ]
 go_wp2
 refine wp_loop_rounds 1 ?_
 rw [rounds_succ]
 go_wp2_with (go_at_call 229; (with_reducible refine (H4.out _ S4.out).mono ?_); rintro e w5 ⟨rfl, S5⟩; have S5 := Lib.hid S5)
 rw [rounds_succ]
 go_wp2
 go_end0
 exact ⟨rfl, S5.out⟩
set_option maxRecDepth 1000000 in
set_option maxHeartbeats 8000000 in
theorem k60 {w0 w : World} {g cap : Nat} {d0 : Array Six} (R : RowK scells 6 w0 g 0 d0) (HCM : CmpLays Tryz.prog 161 #[] scells 6 cfH g 0 d0.size w0) {A B C : List Six} (hs : d0.size = (A ++ B ++ C).length) (hr : Rise (A ++ B ++ C)) (hA : A.length = 20) (hB : B.length = 20) (hC : C.length = 20) (S : SW w0 g (A ++ B ++ C) w) :
  Calls Tryz.prog 203 #[.slice (some ⟨g, 0, none⟩) d0.size cap, .int .i64 d0.size, .func (.func 161) #[] #[]] w fun e w' => e = .returned (.tuple #[]) ∧ SW w0 g (srtH (A ++ B ++ C)) w' := by
 have hL : d0.size = A.length + B.length + C.length := by first | exact hs | (rw [hs]; simp only [List.length_append])
 have hsz : d0.size < 1000000 := by omega
 obtain ⟨N, hN⟩ : ∃ N, d0.size = N := ⟨_, rfl⟩
 have H0 := Lib.hid (fun W (S : SW w0 g (A ++ B ++ C) W) => ins_at (cap := cap) R hsz hN (l := A ++ B ++ C) (l' := srtH A ++ B ++ C) (P := []) (seg := A) (post := B ++ C) (by first | rfl | (simp; done)) (by first | rfl | (simp; done) | (simp [srtH]; done)) (by first | rfl | (simp; done) | (simp; omega) | (simp [srtH_len]; done) | (simp [srtH_len]; omega) | omega) (za := 0) (zb := 20) (by first | rfl | (simp; done) | (simp; omega) | (simp [srtH_len]; done) | (simp [srtH_len]; omega) | omega) (by first | rfl | (simp; done) | (simp; omega) | (simp [srtH_len]; done) | (simp [srtH_len]; omega) | omega) W S)
 have H1 := Lib.hid (fun W (S : SW w0 g (srtH A ++ B ++ C) W) => ins_at (cap := cap) R hsz hN (l := srtH A ++ B ++ C) (l' := srtH A ++ srtH B ++ C) (P := srtH A) (seg := B) (post := C) (by first | rfl | (simp; done)) (by first | rfl | (simp; done) | (simp [srtH]; done)) (by first | rfl | (simp; done) | (simp; omega) | (simp [srtH_len]; done) | (simp [srtH_len]; omega) | omega) (za := 20) (zb := 40) (by first | rfl | (simp; done) | (simp; omega) | (simp [srtH_len]; done) | (simp [srtH_len]; omega) | omega) (by first | rfl | (simp; done) | (simp; omega) | (simp [srtH_len]; done) | (simp [srtH_len]; omega) | omega) W S)
 have H2 := Lib.hid (fun W (S : SW w0 g (srtH A ++ srtH B ++ C) W) => ins_at (cap := cap) R hsz hN (l := srtH A ++ srtH B ++ C) (l' := srtH A ++ srtH B ++ srtH C) (P := srtH A ++ srtH B) (seg := C) (post := []) (by first | rfl | (simp; done)) (by first | rfl | (simp; done) | (simp [srtH]; done)) (by first | rfl | (simp; done) | (simp; omega) | (simp [srtH_len]; done) | (simp [srtH_len]; omega) | omega) (za := 40) (zb := 60) (by first | rfl | (simp; done) | (simp; omega) | (simp [srtH_len]; done) | (simp [srtH_len]; omega) | omega) (by first | rfl | (simp; done) | (simp; omega) | (simp [srtH_len]; done) | (simp [srtH_len]; omega) | omega) W S)
 have H3 := Lib.hid (fun W (S : SW w0 g (srtH A ++ srtH B ++ srtH C) W) => ins_at (cap := cap) R hsz hN (l := srtH A ++ srtH B ++ srtH C) (l' := srtH A ++ srtH B ++ srtH C) (P := srtH A ++ srtH B ++ srtH C) (seg := []) (post := []) (by first | rfl | (simp; done)) (by first | rfl | (simp; done) | (simp [srtH]; done)) (by first | rfl | (simp; done) | (simp; omega) | (simp [srtH_len]; done) | (simp [srtH_len]; omega) | omega) (za := 60) (zb := N) (by first | rfl | (simp; done) | (simp; omega) | (simp [srtH_len]; done) | (simp [srtH_len]; omega) | omega) (by first | rfl | (simp; done) | (simp; omega) | (simp [srtH_len]; done) | (simp [srtH_len]; omega) | omega) W S)
 have H4 := Lib.hid (fun W (S : SW w0 g (srtH A ++ srtH B ++ srtH C) W) => sym_at (cap := cap) R HCM hsz hN (l := srtH A ++ srtH B ++ srtH C) (l' := srtH (A ++ B) ++ srtH C) (A := A) (B := B) (post := srtH C) (rise_app hr).1 (by first | rfl | (simp; done)) (by first | rfl | (simp; done)) (by first | rfl | (simp; done) | (simp; omega) | (simp [srtH_len]; done) | (simp [srtH_len]; omega) | omega) (by first | rfl | (simp; done) | (simp; omega) | (simp [srtH_len]; done) | (simp [srtH_len]; omega) | omega) (by first | rfl | (simp; done) | (simp; omega) | (simp [srtH_len]; done) | (simp [srtH_len]; omega) | omega) (zm := 20) (zb := 40) (by first | rfl | (simp; done) | (simp; omega) | (simp [srtH_len]; done) | (simp [srtH_len]; omega) | omega) (by first | rfl | (simp; done) | (simp; omega) | (simp [srtH_len]; done) | (simp [srtH_len]; omega) | omega) W S)
 have H5 := Lib.hid (fun W (S : SW w0 g (srtH (A ++ B) ++ srtH C) W) => sym_at (cap := cap) R HCM hsz hN (l := srtH (A ++ B) ++ srtH C) (l' := srtH (A ++ B ++ C)) (A := (A ++ B)) (B := C) (post := []) hr (by first | rfl | (simp; done)) (by first | rfl | (simp; done)) (by first | rfl | (simp; done) | (simp; omega) | (simp [srtH_len]; done) | (simp [srtH_len]; omega) | omega) (by first | rfl | (simp; done) | (simp; omega) | (simp [srtH_len]; done) | (simp [srtH_len]; omega) | omega) (by first | rfl | (simp; done) | (simp; omega) | (simp [srtH_len]; done) | (simp [srtH_len]; omega) | omega) (zm := 40) (zb := N) (by first | rfl | (simp; done) | (simp; omega) | (simp [srtH_len]; done) | (simp [srtH_len]; omega) | omega) (by first | rfl | (simp; done) | (simp; omega) | (simp [srtH_len]; done) | (simp [srtH_len]; omega) | omega) W S)
 have S0 := Lib.hid S
 have le20 : (20 : Int) ≤ (N : Int) := by omega
 have lt20 : (20 : Int) < (N : Int) := by omega
 have le40 : (40 : Int) ≤ (N : Int) := by omega
 have lt40 : (40 : Int) < (N : Int) := by omega
 have le60 : (60 : Int) ≤ (N : Int) := by omega
 have lt60 : ¬ (60 : Int) < (N : Int) := by omega
 have le80 : ¬ (80 : Int) ≤ (N : Int) := by omega
 have lt80 : ¬ (80 : Int) < (N : Int) := by omega
 rw [hN]
 clear R HCM hs hr hL hsz hN S hA hB hC
 go_enter Tryz.func203, Tryz.ntmps203
 go_wp2
 refine wp_loop_rounds 4 ?_
 rw [rounds_succ]
 go_wp2_with (go_at_call 228; (with_reducible refine (H0.out _ S0.out).mono ?_); rintro e w1 ⟨rfl, S1⟩; have S1 := Lib.hid S1)
 rw [rounds_succ]
 go_wp2_with (go_at_call 228; (with_reducible refine (H1.out _ S1.out).mono ?_); rintro e w2 ⟨rfl, S2⟩; have S2 := Lib.hid S2)
 rw [rounds_succ]
 go_wp2_with (go_at_call 228; (with_reducible refine (H2.out _ S2.out).mono ?_); rintro e w3 ⟨rfl, S3⟩; have S3 := Lib.hid S3)
 rw [rounds_succ]
 go_wp2_with (go_at_call 228; (with_reducible refine (H3.out _ S3.out).mono ?_); rintro e w4 ⟨rfl, S4⟩; have S4 := Lib.hid S4)
 refine wp_loop_rounds 3 ?_
 rw [rounds_succ]
 go_wp2
 refine wp_loop_rounds 2 ?_
 rw [rounds_succ]
 go_wp2_with (go_at_call 229; (with_reducible refine (H4.out _ S4.out).mono ?_); rintro e w5 ⟨rfl, S5⟩; have S5 := Lib.hid S5)
 rw [rounds_succ]
 go_wp2
 rw [rounds_succ]
 go_wp2
 refine wp_loop_rounds 1 ?_
 rw [rounds_succ]
 go_wp2_with (go_at_call 229; (with_reducible refine (H5.out _ S5.out).mono ?_); rintro e w6 ⟨rfl, S6⟩; have S6 := Lib.hid S6)
 rw [rounds_succ]
 go_wp2
 go_end0
 exact ⟨rfl, S6.out⟩
/-- Of up to sixty loads whose sources rise. -/
theorem stable60_any {w : World} {base : Nat} {v : Value} {xs : List Six} (h : OwnL scells 6 103 w base v xs) (hn : xs.length ≤ 60) (hr : Rise xs) :
  Calls Tryz.prog 203 #[v, .int .i64 xs.length, .func (.func 161) #[] #[]] w fun e w' => e = .returned (.tuple #[]) ∧ OwnL scells 6 103 w' base v (srtH xs) ∧ w.grownBy w' v.ownBlock := by
 by_cases h19 : xs.length ≤ 19
 ·exact stable_any h h19
 ·have hv : v ≠ .slice none 0 0 := fun hv => by
   subst hv
   obtain ⟨-, ⟨-, h0⟩ | ⟨g, cap, cur, e, -⟩⟩ := h
   ·omega
   ·cases e
  obtain ⟨g, cap, cur, rfl, hb, hg, hcn, hm, hs, hH⟩ := holdsK_of h hv
  have hgl : g < w.heap.size := (Array.getElem?_eq_some_iff.1 hg).1
  have R : RowK scells 6 w g 0 xs.toArray := ⟨scells_len, scells_one, hH, hgl⟩
  have HCM := lays g 0 xs.toArray.size w
  have S : SW w g xs w := SWK.start hH
  have fin : ∀ (e : Ending) (w' : World), (e = .returned (.tuple #[]) ∧ SW w g (srtH xs) w') → e = .returned (.tuple #[]) ∧ OwnL scells 6 103 w' base (.slice (some ⟨g, 0, none⟩) xs.length cap) (srtH xs) ∧ w.grownBy w' (some g) := by
   rintro e w' ⟨rfl, q, os, rfl⟩
   obtain ⟨h1, h2⟩ := own_sorted (q := q) (os := os) (ys := srtH xs) (srtH_len xs) hb hg hcn hm hs
   exact ⟨rfl, h1, fix_grown h2⟩
  have hsz : xs.toArray.size = xs.length := by simp
  have e1 : xs.take 20 ++ xs.drop 20 = xs := List.take_append_drop _ _
  have e2 : xs.take 20 ++ (xs.drop 20).take 20 ++ (xs.drop 20).drop 20 = xs := by rw [List.append_assoc, List.take_append_drop, List.take_append_drop]
  have l1 : (xs.take 20).length = 20 := by rw [List.length_take]; omega
  rw [← hsz] at fin ⊢
  have show' : ∀ ys, ys = xs → (Calls Tryz.prog 203 #[.slice (some ⟨g, 0, none⟩) xs.toArray.size cap, .int .i64 xs.toArray.size, .func (.func 161) #[] #[]] w fun e w' => e = .returned (.tuple #[]) ∧ SW w g (srtH ys) w') → Calls Tryz.prog 203 #[.slice (some ⟨g, 0, none⟩) xs.toArray.size cap, .int .i64 xs.toArray.size, .func (.func 161) #[] #[]] w fun e w' => e = .returned (.tuple #[]) ∧ OwnL scells 6 103 w' base (.slice (some ⟨g, 0, none⟩) xs.toArray.size cap) (srtH xs) ∧ w.grownBy w' (some g) := fun ys e hc => by
   subst e
   exact hc.mono fin
  rcases (by omega : xs.length = 20 ∨ (20 < xs.length ∧ xs.length < 40) ∨ xs.length = 40 ∨ (40 < xs.length ∧ xs.length < 60) ∨ xs.length = 60) with c | c | c | c | c
  ·exact show' xs rfl (k20 R HCM (A := xs) hsz hr c S)
  ·refine show' _ e1 (k2 R HCM (A := xs.take 20) (B := xs.drop 20) (by rw [e1]; exact hsz) (by rw [e1]; exact hr) l1 (by rw [List.length_drop]; omega) (by rw [List.length_drop]; omega) (by rw [e1]; exact S))
  ·refine show' _ e1 (k40 R HCM (A := xs.take 20) (B := xs.drop 20) (by rw [e1]; exact hsz) (by rw [e1]; exact hr) l1 (by rw [List.length_drop]; omega) (by rw [e1]; exact S))
  ·refine show' _ e2 (k3 R HCM (A := xs.take 20) (B := (xs.drop 20).take 20) (C := (xs.drop 20).drop 20) (by rw [e2]; exact hsz) (by rw [e2]; exact hr) l1 (by rw [List.length_take, List.length_drop]; omega) (by rw [List.length_drop, List.length_drop]; omega) (by rw [List.length_drop, List.length_drop]; omega) (by rw [e2]; exact S))
  ·refine show' _ e2 (k60 R HCM (A := xs.take 20) (B := (xs.drop 20).take 20) (C := (xs.drop 20).drop 20) (by rw [e2]; exact hsz) (by rw [e2]; exact hr) l1 (by rw [List.length_take, List.length_drop]; omega) (by rw [List.length_drop, List.length_drop]; omega) (by rw [e2]; exact S))
set_option maxRecDepth 100000 in
theorem sortStable60_any {w : World} {base : Nat} {v : Value} {xs : List Six} (h : OwnL scells 6 103 w base v xs) (hn : xs.length ≤ 60) (hr : Rise xs) :
  Calls Tryz.prog 160 #[v, .func (.func 161) #[] #[]] w fun e w' => e = .returned (.tuple #[]) ∧ OwnL scells 6 103 w' base v (srtH xs) ∧ w.grownBy w' v.ownBlock := by
 obtain ⟨A, c, rfl, -⟩ := h.arr kdL
 have T := Lib.hid (stable60_any h hn hr)
 clear h hr
 generalize xs.length = n at hn T ⊢
 go_enter Tryz.func160, Tryz.ntmps160
 go_wp2_with (go_at_call 203; (with_reducible refine (T.out).mono ?_); rintro e w' ⟨rfl, ho, hg⟩)
 go_end0
 exact ⟨rfl, ho, hg⟩
end Go.Proofs.YtkoejeghihcmlaaGreat

namespace Go.Proofs.YtkoejeghihcmlaaGreat
open Go.RowKit Go.Shelf
theorem rise_at {l : List Six} (h : ∀ j, j < l.length → j = 0 ∨ (l.getD (j - 1) z6).a < (l.getD j z6).a) : ∀ k i, i + k < l.length → 0 < k → (l.getD i z6).a < (l.getD (i + k) z6).a
 | 0, _, _, h0 => absurd h0 (Nat.lt_irrefl _)
 | 1, i, hi, _ => by
  rcases h (i + 1) hi with e | e
  ·omega
  ·exact e
 | k + 2, i, hi, _ => by
  have h1 := rise_at h (k + 1) i (by omega) (by omega)
  rcases h (i + (k + 2)) hi with e | e
  ·omega
  ·rw [show i + (k + 2) - 1 = i + (k + 1) by omega] at e
   omega
theorem rise_steps {l : List Six} (h : ∀ j, j < l.length → j = 0 ∨ (l.getD (j - 1) z6).a < (l.getD j z6).a) : Rise l := by
 refine List.pairwise_iff_getElem.2 fun i j hi hj hij => ?_
 have := rise_at h (j - i) i (by omega) (by omega)
 rw [show i + (j - i) = j by omega, List.getD_eq_getElem?_getD, List.getD_eq_getElem?_getD, List.getElem?_eq_getElem hi, List.getElem?_eq_getElem hj] at this
 exact this
theorem rise_loads {p : Pl} (h : okPl p = true) : Rise p.loads := by
 unfold okPl at h
 simp only [Bool.and_eq_true] at h
 have h1 := h.1.1.1.1
 unfold okL at h1
 rw [Bool.and_eq_true, List.all_eq_true] at h1
 exact rise_steps fun j hj => (okAt_parts (h1.1 j (List.mem_range.2 hj))).2.1
theorem veil_a (m : Int → Bool) (x : Six) : (veil m x).a = x.a := by unfold veil; split <;> rfl
theorem rise_pick {p : Pl} (h : okPl p = true) (known : Int) (meant : Int → Bool) : Rise (pickL p known meant) := by
 rw [pickL_eq]
 unfold pickX
 refine List.pairwise_map.2 ?_
 refine List.Pairwise.imp (R := fun x y => x.a < y.a) (fun {x y} hxy => by rw [veil_a, veil_a]; exact hxy) ((rise_loads h).sublist List.filter_sublist)
end Go.Proofs.YtkoejeghihcmlaaGreat

namespace Go.Proofs.YtkoejeghihcmlaaGreat
open Go.RowKit Go.Shelf
theorem OwnL.apart {α : Type} {f : α → List Value} {size : Nat} {e : TypeId} {w : World} {base : Nat} {v : Value} {xs : List α} (h : OwnL f size e w base v xs) {p : Addr} (hp : v.ownBlock ≠ some p.block) (u : Value) : OwnL f size e (w.setCell p u) base v xs :=
 World.ownsRow.kept h (row := some p.block) ⟨rfl, rfl, rfl, by simp [World.setCell], fun k _ hk => Below.heap_setCell _ _ _ _ (fun e => hk (by rw [e]))⟩ (.inr hp)
theorem OwnL.far {α : Type} {f : α → List Value} {size : Nat} {e : TypeId} {w : World} {base : Nat} {v : Value} {xs : List α} (h : OwnL f size e w base v xs) {p : Addr} (hp : p.block < base) (u : Value) : OwnL f size e (w.setCell p u) base v xs :=
 h.apart (fun e => by have := World.ownsRow.lt h _ e; omega) u
theorem Fd.put {w : World} {bf bs : Nat} {pp : Value} {known : Int} {A : Option Addr} {n c m i : Nat} {st : List Rg} (hf : Fd w bf bs pp known A n c m st) (hi : i < m) (r : Rg) :
  Fix bs bs w ((w.setCell ⟨bs, i * 2, none⟩ (.int .i64 r.lo)).setCell ⟨bs, i * 2 + 1, none⟩ (.int .i64 r.hi)) ∧ Fd ((w.setCell ⟨bs, i * 2, none⟩ (.int .i64 r.lo)).setCell ⟨bs, i * 2 + 1, none⟩ (.int .i64 r.hi)) bf bs pp known A n c m (st.set i r) := by
 have hse := (hf.s.set_ (i * 2) (.int .i64 r.lo)).set_ (i * 2 + 1) (.int .i64 r.hi)
 rw [rvals_set (by rw [hf.len]; exact hi) r] at hse
 exact ⟨((Fix.refl bs bs w).setCell (p := ⟨bs, i * 2, none⟩) (.inl rfl) _).setCell (p := ⟨bs, i * 2 + 1, none⟩) (.inl rfl) _,
  (hf.f.far (p := ⟨bs, i * 2, none⟩) hf.ne _).far (p := ⟨bs, i * 2 + 1, none⟩) hf.ne _, hse, by rw [List.length_set]; exact hf.len, hf.ne⟩
theorem Fd.cells {w : World} {bf bs : Nat} {pp : Value} {known : Int} {A : Option Addr} {n c m i : Nat} {st : List Rg} (hf : Fd w bf bs pp known A n c m st) (hi : i < m) :
  w.cell? ⟨bs, i * 2, none⟩ = some (.int .i64 (Lo st i)) ∧ w.cell? ⟨bs, i * 2 + 1, none⟩ = some (.int .i64 (Hi st i)) := by
 obtain ⟨v0, v1⟩ := rvals_at (st := st) (i := i) (by rw [hf.len]; exact hi)
 exact ⟨by rw [hf.s.cell, v0], by rw [hf.s.cell, v1]⟩
theorem Fd.ext {w w' : World} {bf bs : Nat} {pp : Value} {known : Int} {A : Option Addr} {n c m : Nat} {st : List Rg} (hf : Fd w bf bs pp known A n c m st) (g : Below w.heap.size w w') : Fd w' bf bs pp known A n c m st :=
 ⟨hf.f.ext g, hf.s.ext g, hf.len, hf.ne⟩
/-- What says which ones are meant: nothing, or a closure. -/
def Sm (w : World) (sm : Value) (meant : Int → Bool) : Prop :=
 (sm = .nilFunc ∧ ∀ x, meant x = true) ∨ ∃ g cb, sm = .func (.func g) #[] cb ∧ (∀ args W, (callFunc g args).run Tryz.prog W = .ok (.enter g args) W) ∧
  ∀ x W, Below w.heap.size w W → Calls Tryz.prog g (#[.int .i64 x] ++ cb) W fun e W' => e = .returned (.bool (meant x)) ∧ Below W.heap.size W W'
set_option maxRecDepth 100000 in
set_option maxHeartbeats 4000000 in
theorem look_any (p : Pl) (A1 A2 A3 : Option Addr) (n1 c1 n2 c2 n3 c3 pb : Nat) (known : Int) (meant : Int → Bool) (sm : Value) (w : World) (hP : Blk w pb 38 #[.int .i64 p.lo, .int .i64 p.hi, .slice A1 n1 c1, .slice A2 n2 c2, .slice A3 n3 c3, .int .i64 p.geese])
  (hp : Pa w p A1 A2 A3 n1 c1 n2 c2 n3 c3) (hok : okPl p = true) (h19 : (pickL p known meant).length ≤ 60) (hsm : Sm w sm meant) :
  Calls Tryz.prog 81 #[.pointer (some ⟨pb, 0, none⟩), .int .i64 known, sm] w fun e w' => ∃ bf bs A n c, e = .returned (.pointer (some ⟨bf, 0, none⟩)) ∧ w.heap.size ≤ bf ∧ w.heap.size ≤ bs ∧ n = (lookL p known meant).length ∧ Below w.heap.size w w' ∧
   Fd w' bf bs (.pointer (some ⟨pb, 0, none⟩)) known A n c (n + 1) (lookS p known meant) ∧ Arr scells 6 w' A n (lookL p known meant) ∧ (∀ b o, A = some ⟨b, o, none⟩ → 0 < n → w.heap.size ≤ b ∧ b ≠ bs ∧ b ≠ bf) := by
 have HPB := Lib.hid hP
 have HPA := Lib.hid hp
 have HOK := Lib.hid hok
 have HRI := Lib.hid (rise_pick hok known meant)
 have H19 := Lib.hid h19
 have HSM := Lib.hid hsm
 have hpl := hP.lt
 have p1 := hP.cell 2
 have m1 := hp.m1
 have hl1 := Lib.hid hp.l1.1
 have hn60 := Lib.hid (show n1 ≤ 60 by rw [← hl1.out]; exact (ok_parts hok).2.2.2.2.2.1)
 clear hP hp hok h19 hsm
 go_enter Tryz.func81, Tryz.ntmps81
 go_wp2_with fail
 obtain ⟨bf, hbf⟩ : ∃ bf, w.heap.size = bf := ⟨_, rfl⟩
 obtain ⟨W0, hW0⟩ : ∃ W0, w.alloc (.cells #[.pointer (some ⟨pb, 0, none⟩), .int .i64 known, .slice none 0 0, .slice none 0 0] 152) = W0 := ⟨_, rfl⟩
 have g0 : Below w.heap.size w W0 := by rw [← hW0]; exact one_more _ _
 have f0 : Blk W0 w.heap.size 152 #[.pointer (some ⟨pb, 0, none⟩), .int .i64 known, .slice none 0 0, .slice none 0 0] := by rw [← hW0]; exact Blk.new _ _ _
 have z0 : W0.heap.size = w.heap.size + 1 := by rw [← hW0]; simp
 rw [hW0]
 rw [hbf] at f0 z0 ⊢
 have G0 := Lib.hid g0
 have F0 := Lib.hid f0
 clear hW0 g0 f0
 go_loopw [23] (fun i wr => ∃ (k : Nat) (v : Value), i = .int .i64 k ∧ k ≤ n1 ∧ Below w.heap.size w wr ∧ Blk wr bf 152 #[.pointer (some ⟨pb, 0, none⟩), .int .i64 known, v, .slice none 0 0] ∧ OwnL scells 6 103 wr (bf + 1) v (pickX (p.loads.take k) known meant)) (fun i _ => n1 - (intOf i).toNat)
 case atStart => exact ⟨0, .slice none 0 0, rfl, Nat.zero_le _, G0.out, F0.out, OwnL.nil _ _⟩
 case round =>
  obtain ⟨k, v, rfl, hk, hg, hb, hown⟩ := hrel
  have HG := Lib.hid hg
  have HB := Lib.hid hb
  have HO := Lib.hid hown
  by_cases hkn : k < n1
  ·obtain ⟨b0, o0, e0, -, -, hc⟩ := six_at (HPA.out.l1.below hg) hkn
   obtain ⟨x0, x1, x2, x3, x4, x5⟩ := hc _ (Below.refl _ _)
   have HN := Lib.hid (pickX_snoc (xs := p.loads) (k := k) known meant (by rw [hl1.out]; exact hkn))
   obtain ⟨x, hxg⟩ : ∃ x, p.loads.getD k z6 = x := ⟨_, rfl⟩
   rw [hxg] at x0 x1 x2 x3 x4 x5 HN
   subst e0
   obtain ⟨cb, hcb⟩ : ∃ cb, cnt x known = cb := ⟨_, rfl⟩
   have T := fun W => cnt_any x known W
   rw [hcb] at T HN
   have HT := Lib.hid T
   clear hc hxg hcb T hg hb hown
   obtain ⟨W1, hW1⟩ : ∃ W1, wr.alloc (.cells #[.int .i64 x.a, .int .i64 x.b, .int .i64 x.c, .int .i64 x.d, .int .i64 x.e, .int .i64 x.f] 103) = W1 := ⟨_, rfl⟩
   have b1 : Blk W1 wr.heap.size 103 #[.int .i64 x.a, .int .i64 x.b, .int .i64 x.c, .int .i64 x.d, .int .i64 x.e, .int .i64 x.f] := by rw [← hW1]; exact Blk.new _ _ _
   have g1 : Below wr.heap.size wr W1 := by rw [← hW1]; exact one_more _ _
   obtain ⟨Bx, hBx⟩ : ∃ Bx, wr.heap.size = Bx := ⟨_, rfl⟩
   have hwz := HG.out.size
   have hbfl := HB.out.lt
   have F1 := Lib.hid (HB.out.ext g1)
   have O1 := Lib.hid (HO.out.ext g1)
   have G1 := Lib.hid (HG.out.trans (g1.mono hwz))
   have H1 := Lib.hid (fun b hb => HO.out.lt b hb)
   rw [hBx] at b1 hwz hbfl
   have q0 := b1.cell 0
   have q1 := b1.cell 1
   have q2 := b1.cell 2
   have q3 := b1.cell 3
   have q4 := b1.cell 4
   have q5 := b1.cell 5
   have B1 := Lib.hid b1
   clear b1 g1
   cases cb with
   | false =>
    have HN2 := Lib.hid (show pickX (p.loads.take (k + 1)) known meant = pickX (p.loads.take k) known meant by rw [HN.out, if_neg (by decide), List.append_nil])
    go_wp2_with (go_at_call 159; (with_reducible refine (HT.out _).mono ?_); rintro e w' ⟨rfl, rfl⟩)
    go_roundw
    case rel => exact ⟨k + 1, v, by go_num, by omega, G1.out, F1.out, by rw [HN2.out]; exact O1.out⟩
    case measure => simp [intOf]; omega
   | true =>
    have HN2 := Lib.hid (show pickX (p.loads.take (k + 1)) known meant = pickX (p.loads.take k) known meant ++ [veil meant x] by rw [HN.out, if_pos rfl])
    have HVV := Lib.hid (show veil meant x = if meant x.a = true then x else ⟨x.a, x.b, 0, 10000, x.e, x.f⟩ from rfl)
    obtain ⟨hs1, hs2⟩ | ⟨g, cl, hs1, hs2, hs3⟩ := HSM.out
    case' inr =>
     subst hs1
     have hnq := neqFun g cl
     have HC := Lib.hid (hs3 x.a W1 G1.out)
     clear hs3
     obtain ⟨mb, hmb⟩ : ∃ mb, meant x.a = mb := ⟨_, rfl⟩
     rw [hmb] at HC HVV
     clear hmb
     cases mb
    case' inl =>
     rw [if_pos (hs2 _)] at HVV
     subst hs1
     clear hs2
     have hnq := neqNil
     go_wp2_with (go_at_call 159; (with_reducible refine (HT.out _).mono ?_); rintro e w' ⟨rfl, rfl⟩)
     obtain ⟨V, hV⟩ : ∃ V, W1 = V := ⟨_, rfl⟩
     have VG := Lib.hid (show Below w.heap.size w V by rw [← hV]; exact G1.out)
     have VB := Lib.hid (show Blk V bf 152 #[.pointer (some ⟨pb, 0, none⟩), .int .i64 known, v, .slice none 0 0] by rw [← hV]; exact F1.out)
     have VO := Lib.hid (show OwnL scells 6 103 V (bf + 1) v (pickX (p.loads.take k) known meant) by rw [← hV]; exact O1.out)
     obtain ⟨y, hy⟩ : ∃ y, x = y := ⟨_, rfl⟩
     have VX := Lib.hid (show Blk V Bx 103 #[.int .i64 y.a, .int .i64 y.b, .int .i64 y.c, .int .i64 y.d, .int .i64 y.e, .int .i64 y.f] by rw [← hV, ← hy]; exact B1.out)
     have HY := Lib.hid (show veil meant x = y by rw [HVV.out, hy])
     rw [hV]
    case' inr.false =>
     rw [if_neg (by decide)] at HVV
     go_wp2_with (first | (go_at_call 159; (with_reducible refine (HT.out _).mono ?_); rintro e w' ⟨rfl, rfl⟩) | (go_at_fn g; (with_reducible refine (HC.out).mono ?_); rintro e w' ⟨rfl, hg2⟩; have G2 := Lib.hid hg2; clear hg2; have B2 := Lib.hid (B1.out.ext G2.out); have q02 := B2.out.cell 2; have q03 := B2.out.cell 3; have q12 := B2.out.frozen 2; have q13 := B2.out.frozen 3))
     obtain ⟨V, hV⟩ : ∃ V, (w'.setCell ⟨Bx, 2, none⟩ (.int .i64 0)).setCell ⟨Bx, 3, none⟩ (.int .i64 10000) = V := ⟨_, rfl⟩
     have hbo : v.ownBlock ≠ some Bx := fun e => by have := H1.out _ e; omega
     have VG := Lib.hid (show Below w.heap.size w V by rw [← hV]; exact ((G1.out.trans (G2.out.mono G1.out.size)).setCell (p := ⟨Bx, 2, none⟩) hwz _).setCell (p := ⟨Bx, 3, none⟩) hwz _)
     have VB := Lib.hid (show Blk V bf 152 #[.pointer (some ⟨pb, 0, none⟩), .int .i64 known, v, .slice none 0 0] by rw [← hV]; exact ((F1.out.ext G2.out).far (p := ⟨Bx, 2, none⟩) (by dsimp only; omega) _).far (p := ⟨Bx, 3, none⟩) (by dsimp only; omega) _)
     have VO := Lib.hid (show OwnL scells 6 103 V (bf + 1) v (pickX (p.loads.take k) known meant) by rw [← hV]; exact ((O1.out.ext G2.out).apart (p := ⟨Bx, 2, none⟩) hbo _).apart (p := ⟨Bx, 3, none⟩) hbo _)
     obtain ⟨y, hy⟩ : ∃ y, (⟨x.a, x.b, 0, 10000, x.e, x.f⟩ : Six) = y := ⟨_, rfl⟩
     have VX := Lib.hid (show Blk V Bx 103 #[.int .i64 y.a, .int .i64 y.b, .int .i64 y.c, .int .i64 y.d, .int .i64 y.e, .int .i64 y.f] by rw [← hV, ← hy]; exact (B2.out.set_ 2 _).set_ 3 _)
     have HY := Lib.hid (show veil meant x = y by rw [HVV.out, hy])
     rw [hV]
    case' inr.true =>
     rw [if_pos rfl] at HVV
     go_wp2_with (first | (go_at_call 159; (with_reducible refine (HT.out _).mono ?_); rintro e w' ⟨rfl, rfl⟩) | (go_at_fn g; (with_reducible refine (HC.out).mono ?_); rintro e w' ⟨rfl, hg2⟩; have G2 := Lib.hid hg2; clear hg2))
     obtain ⟨V, hV⟩ : ∃ V, w' = V := ⟨_, rfl⟩
     have VG := Lib.hid (show Below w.heap.size w V by rw [← hV]; exact G1.out.trans (G2.out.mono G1.out.size))
     have VB := Lib.hid (show Blk V bf 152 #[.pointer (some ⟨pb, 0, none⟩), .int .i64 known, v, .slice none 0 0] by rw [← hV]; exact F1.out.ext G2.out)
     have VO := Lib.hid (show OwnL scells 6 103 V (bf + 1) v (pickX (p.loads.take k) known meant) by rw [← hV]; exact O1.out.ext G2.out)
     obtain ⟨y, hy⟩ : ∃ y, x = y := ⟨_, rfl⟩
     have VX := Lib.hid (show Blk V Bx 103 #[.int .i64 y.a, .int .i64 y.b, .int .i64 y.c, .int .i64 y.d, .int .i64 y.e, .int .i64 y.f] by rw [← hV, ← hy]; exact B1.out.ext G2.out)
     have HY := Lib.hid (show veil meant x = y by rw [HVV.out, hy])
     rw [hV]
    all_goals
     clear hV hy HVV B1
     have hvz := VG.out.size
     have hbv := VB.out.lt
     have gd : Below V.heap.size V V.drew := (Below.refl _ _).drew
     obtain ⟨W5, hW5⟩ : ∃ W5, V.drew.alloc (.cells #[.int .i64 y.a, .int .i64 y.b, .int .i64 y.c, .int .i64 y.d, .int .i64 y.e, .int .i64 y.f] 103) = W5 := ⟨_, rfl⟩
     have g5 : Below V.heap.size V W5 := by rw [← hW5]; exact gd.alloc (Nat.le_refl _) _
     have hb5 : Blk W5 V.heap.size 103 #[.int .i64 y.a, .int .i64 y.b, .int .i64 y.c, .int .i64 y.d, .int .i64 y.e, .int .i64 y.f] := by rw [← hW5]; exact Blk.new _ _ _
     have HA5 := Lib.hid (Blk.arr1 (f := scells) (size := 6) (x := y) hb5)
     have HO5 := Lib.hid (VO.out.ext g5)
     have HB5 := Lib.hid (VB.out.ext g5)
     have HX5 := Lib.hid (VX.out.ext g5)
     have hs5 : bf + 1 ≤ W5.heap.size := by have := g5.size; omega
     have HG5 := Lib.hid (VG.out.trans (g5.mono hvz))
     have p0 := VB.out.cell 2
     have p1 := HB5.out.cell 2
     have r0 := VX.out.cell 0
     have r1 := VX.out.cell 1
     have r2 := VX.out.cell 2
     have r3 := VX.out.cell 3
     have r4 := VX.out.cell 4
     have r5 := VX.out.cell 5
     have hlen5 : (pickX (p.loads.take k) known meant).length + 1 ≤ 1000000 := by
      have := pickX_len (p.loads.take k) known meant
      rw [List.length_take] at this
      have h60 := hn60.out
      omega
     clear g5 gd hb5
     go_region_law ((refine step_app kdL (by rfl) _ _ (by rfl) (bf + 1) v (pickX (p.loads.take k) known meant) (by rfl) HO5.out _ _ _ [y] (by rfl) HA5.out hlen5 hs5 ?_; intro v' w6 hov hgr hat; obtain ⟨A6, c6, e6, -, -, -, -⟩ := hov.arr kdL; obtain ⟨m6, hm6⟩ : ∃ m6, (pickX (p.loads.take k) known meant ++ [y]).length = m6 := ⟨_, rfl⟩; rw [hm6] at e6; clear hm6; subst e6; have hbw := Lib.hid (HO5.out.below hgr (Nat.le_refl (bf + 1)) hs5); have ho6 := (show Blk w6 bf 152 _ from (hbw.out.block bf (by omega)).trans HB5.out); have e6 := ho6.cell 2; have f6 := ho6.frozen 2; have HO6 := Lib.hid ho6; have HOV := Lib.hid hov; clear ho6 hgr hat hov))
     all_goals
      go_wp2_with fail
      go_roundw
      case rel =>
       refine ⟨k + 1, .slice A6 m6 c6, by go_num, by omega, (HG5.out.trans (hbw.out.mono (by omega))).setCell (p := ⟨bf, 2, none⟩) (by dsimp only; omega) _, ?_, ?_⟩
       ·exact HO6.out.set_ 2 _
       ·rw [HN2.out, HY.out]; exact HOV.out.far (p := ⟨bf, 2, none⟩) (by dsimp only; omega) _
      case measure => simp [intOf]; omega
  ·obtain rfl : k = n1 := by omega
   have hpk : pickX (p.loads.take k) known meant = pickL p known meant := by rw [List.take_of_length_le (by rw [hl1.out]; exact Nat.le_refl _)]; rfl
   rw [hpk] at HO
   clear hg hb hown hpk
   have hbfl := HB.out.lt
   have HS := Lib.hid (sortStable60_any HO.out H19.out HRI.out)
   have f2 := HB.out.cell 2
   obtain ⟨A, c, hvA, -⟩ := HO.out.arr kdL
   obtain ⟨n0, hn0⟩ : ∃ n0, (pickL p known meant).length = n0 := ⟨_, rfl⟩
   rw [hn0] at hvA
   subst hvA
   have h19 : n0 ≤ 60 := by rw [← hn0]; exact H19.out
   have HN0 := Lib.hid hn0
   obtain ⟨m, hm⟩ : ∃ m, n0 + 1 = m := ⟨_, rfl⟩
   have hmk : ∀ w, (Instr.makeSlice 150 (.int .i64 ((n0 : Int) + 1)) (.int .i64 ((n0 : Int) + 1))).run Tryz.prog w = .ok (.slice (some ⟨w.heap.size, 0, none⟩) m m) (w.alloc (.cells (rvals (List.replicate m zR)) 33)) := fun w => by
    have := run_make_rg m (by omega) w
    rwa [show ((m : Nat) : Int) = (n0 : Int) + 1 by omega] at this
   have hm20 : m ≤ 61 := by omega
   have HM := Lib.hid hm
   clear hm hn0
   go_upto_region 12 with (go_at_call 160; (with_reducible refine (HS.out).mono ?_); rintro e W2 ⟨rfl, ho2, hg2⟩; have hbe := HO.out.below hg2 (Nat.le_refl _) hbfl; have HB2 := Lib.hid (show Blk W2 bf 152 #[.pointer (some ⟨pb, 0, none⟩), .int .i64 known, .slice A n0 c, .slice none 0 0] from (hbe.block bf (by omega)).trans HB.out); have HO2 := Lib.hid ho2; have HE := Lib.hid hbe; have f22 := HB2.out.cell 2; have HB3 := Lib.hid (HB2.out.alloc (.cells (rvals (List.replicate m zR)) 33)); have f23 := HB3.out.cell 3; have k23 := HB3.out.frozen 3; clear ho2 hg2 hbe)
   have hbs : bf + 1 ≤ W2.heap.size := by have := HB2.out.lt; omega
   have HLT := Lib.hid (HO2.out.lt)
   obtain ⟨W4, hW4⟩ : ∃ W4, (W2.alloc (Obj.cells (rvals (List.replicate m zR)) 33)).setCell ⟨bf, 3, none⟩ (.slice (some ⟨W2.heap.size, 0, none⟩) m m) = W4 := ⟨_, rfl⟩
   have fd4 : Fd W4 bf W2.heap.size (.pointer (some ⟨pb, 0, none⟩)) known A n0 c m (List.replicate m zR) := by
    rw [← hW4]
    refine ⟨HB3.out.set_ 3 _, (Blk.new _ _ _).far (p := ⟨bf, 3, none⟩) (by dsimp only; omega) _, List.length_replicate, by omega⟩
   have ho4 : OwnL scells 6 103 W4 (bf + 1) (.slice A n0 c) (srtH (pickL p known meant)) := by
    rw [← hW4]
    exact (HO2.out.ext (one_more _ _)).far (p := ⟨bf, 3, none⟩) (by dsimp only; omega) _
   have g4 : Below w.heap.size w W4 := by
    rw [← hW4]
    exact ((HG.out.trans (HE.out.mono (by omega))).trans ((one_more W2 _).mono (by omega))).setCell (p := ⟨bf, 3, none⟩) (by dsimp only; omega) _
   obtain ⟨A', c', eA, hc1, hc2, har, hA⟩ := ho4.arr kdL
   rw [srtH_len, HN0.out] at eA hc1 har
   obtain ⟨rfl, -, rfl⟩ := Value.slice.inj eA
   rw [hW4]
   obtain ⟨bs, hbse⟩ : ∃ bs, W2.heap.size = bs := ⟨_, rfl⟩
   rw [hbse] at fd4 hbs
   have HAD := Lib.hid (show ∀ b o, A = some ⟨b, o, none⟩ → w.heap.size ≤ b ∧ b ≠ bs ∧ b ≠ bf from fun b o e => by
    have h1 := hA b o e
    have h2 := HLT.out b h1.1
    omega)
   have HAR := Lib.hid har
   have G4 := Lib.hid g4
   have FD4 := Lib.hid fd4
   clear hW4 fd4 ho4 g4 har hA eA hbse hmk f2 f22 f23 k23 hc1 hc2
   have f3 := FD4.out.f.cell 3
   go_wp2_with fail
   go_loopw [76] (fun i wr => ∃ k : Nat, i = .int .i64 k ∧ k ≤ m ∧ Fix bs bs W4 wr ∧ Fd wr bf bs (.pointer (some ⟨pb, 0, none⟩)) known A n0 c m (List.replicate k ⟨0, 10000⟩ ++ List.replicate (m - k) zR)) (fun i _ => m - (intOf i).toNat)
   case atStart => exact ⟨0, rfl, Nat.zero_le _, Fix.refl _ _ _, FD4.out⟩
   case round =>
    obtain ⟨i, rfl, hi, hfx, hfd⟩ := hrel
    have HFX := Lib.hid hfx
    have HFD := Lib.hid hfd
    by_cases him : i < m
    ·obtain ⟨s0, s1⟩ := hfd.cells him
     have z0 := hfd.s.frozen (i * 2)
     have z1 := hfd.s.frozen (i * 2 + 1)
     have f3 := hfd.f.cell 3
     obtain ⟨h1, h2⟩ := hfd.put him ⟨0, 10000⟩
     rw [fill_set m i him] at h2
     have H1 := Lib.hid (hfx.trans h1)
     have H2 := Lib.hid h2
     clear hfx hfd h1 h2
     go_wp2_with fail
     go_roundw
     case rel => exact ⟨i + 1, by go_num, by omega, H1.out, H2.out⟩
     case measure => simp [intOf]; omega
    ·obtain rfl : i = m := by omega
     have HFD2 := Lib.hid (show Fd wr bf bs (.pointer (some ⟨pb, 0, none⟩)) known A n0 c i (List.replicate i ⟨0, 10000⟩) by
      have := hfd
      rw [Nat.sub_self, List.replicate_zero, List.append_nil] at this
      exact this)
     clear hfd
     have hpbs : pb < w.heap.size := hpl
     have hbsw : w.heap.size < bs := by omega
     have hP4 := HPB.out.ext G4.out
     have hPw := hfx.blk hP4 (show pb ≠ bs by omega) (show pb ≠ bs by omega)
     have hmi : 0 < i := by have := HM.out; omega
     obtain ⟨s0, s1⟩ := HFD2.out.cells hmi
     rw [Nat.zero_mul] at s0 s1
     rw [Nat.zero_add] at s1
     have z0 := HFD2.out.s.frozen 0
     have z1 := HFD2.out.s.frozen 1
     have f3 := HFD2.out.f.cell 3
     have p0 := hPw.cell 0
     have p1' := hPw.cell 1
     obtain ⟨h1, h2⟩ := HFD2.out.put hmi ⟨p.lo, p.hi⟩
     rw [show (List.replicate i (⟨0, 10000⟩ : Rg)).set 0 ⟨p.lo, p.hi⟩ = stood0 p n0 by rw [← HM.out]; exact stood0_set p n0, Nat.zero_mul, Nat.zero_add] at h2
     rw [Nat.zero_mul, Nat.zero_add] at h1
     have H1 := Lib.hid (hfx.trans h1)
     have H2 := Lib.hid h2
     clear hfx h1 h2 hP4
     go_upto_region 17 with fail
     go_cut [] from 87 to 95 (fun wx => Fix bs bs W4 wx ∧ Fd wx bf bs (.pointer (some ⟨pb, 0, none⟩)) known A n0 c i (stood0 p n0))
     case first =>
      go_region_law fail
      all_goals (try go_wp2_with fail)
      all_goals go_meet
      all_goals exact ⟨H1.out.drewN 1, ⟨H2.out.f.drewN 1, H2.out.s.drewN 1, H2.out.len, H2.out.ne⟩⟩
     case rest =>
      obtain ⟨hfx, hfd⟩ := hcut
      rename World => W6
      clear s0 s1 z0 z1 f3 p0 p1' H1 H2 hPw
      have hP4 := HPB.out.ext G4.out
      have hPw := hfx.blk hP4 (show pb ≠ bs by omega) (show pb ≠ bs by omega)
      have p3 := hPw.cell 3
      have HFX6 := Lib.hid hfx
      have HFD6 := Lib.hid hfd
      have hok := ok_parts HOK.out
      have hl2 := Lib.hid HPA.out.l2.1
      have hn2 : n2 ≤ 60 := by rw [← hl2.out]; exact hok.2.2.2.2.2.2.1
      have m2 := HPA.out.m2
      clear hok hfx hfd hP4 hPw
      go_wp2_with fail
      go_loopw [103] (fun j wr => ∃ k : Nat, j = .int .i64 k ∧ k ≤ n2 ∧ Fix bs bs W4 wr ∧ Bd (standsF known meant (lookL p known meant) (p.stands.take k) (stood0 p n0)) 10000000 ∧ Fd wr bf bs (.pointer (some ⟨pb, 0, none⟩)) known A n0 c i (standsF known meant (lookL p known meant) (p.stands.take k) (stood0 p n0))) (fun j _ => n2 - (intOf j).toNat)
      case atStart => exact ⟨0, rfl, Nat.zero_le _, HFX6.out, stood0_bd HOK.out n0, HFD6.out⟩
      case round =>
       obtain ⟨j, rfl, hj, hfx, hbd, hfd⟩ := hrel
       have HFX := Lib.hid hfx
       have HBD := Lib.hid hbd
       have HFD := Lib.hid hfd
       have harw := (HPA.out.l2.below G4.out).fix hfx (fun b o e h0 => by
        obtain ⟨b', o', e', hlt, -⟩ := HPA.out.l2.2 h0
        rw [e] at e'; cases e'
        omega)
       by_cases hjn : j < n2
       ·obtain ⟨b0, o0, e0, -, -, hc⟩ := six_at harw hjn
        obtain ⟨x0, x1, x2, x3, x4, x5⟩ := hc _ (Below.refl _ _)
        have HN := Lib.hid (standsF_snoc known meant (lookL p known meant) (l := p.stands) (k := j) (by rw [hl2.out]; exact hjn) (stood0 p n0))
        have HNU := Lib.hid ((ok_parts HOK.out).2.1 _ (getD_mem (l := p.stands) (i := j) (by rw [hl2.out]; exact hjn)))
        obtain ⟨x, hxg⟩ : ∃ x, p.stands.getD j z6 = x := ⟨_, rfl⟩
        rw [hxg] at x0 x1 x2 x3 x4 x5 HN HNU
        subst e0
        obtain ⟨st, hst⟩ : ∃ st, standsF known meant (lookL p known meant) (p.stands.take j) (stood0 p n0) = st := ⟨_, rfl⟩
        rw [hst] at HN HBD HFD
        obtain ⟨cb, hcb⟩ : ∃ cb, cnt x known = cb := ⟨_, rfl⟩
        have T := fun W => cnt_any x known W
        rw [hcb] at T HN
        have HT := Lib.hid T
        clear hc hxg hcb T hfx hbd hfd harw hst
        obtain ⟨W1, hW1⟩ : ∃ W1, wr.alloc (.cells #[.int .i64 x.a, .int .i64 x.b, .int .i64 x.c, .int .i64 x.d, .int .i64 x.e, .int .i64 x.f] 105) = W1 := ⟨_, rfl⟩
        have b1 : Blk W1 wr.heap.size 105 #[.int .i64 x.a, .int .i64 x.b, .int .i64 x.c, .int .i64 x.d, .int .i64 x.e, .int .i64 x.f] := by rw [← hW1]; exact Blk.new _ _ _
        have g1 : Below wr.heap.size wr W1 := by rw [← hW1]; exact one_more _ _
        obtain ⟨Bx, hBx⟩ : ∃ Bx, wr.heap.size = Bx := ⟨_, rfl⟩
        have hxb : Bx ≠ bs := by have := HFD.out.s.lt; omega
        have FX1 := Lib.hid (HFX.out.trans (Fix.of_below g1))
        have FD1 := Lib.hid (HFD.out.ext g1)
        rw [hBx] at b1
        have q0 := b1.cell 0
        have q1 := b1.cell 1
        have q2 := b1.cell 2
        have q3 := b1.cell 3
        have q4 := b1.cell 4
        have q5 := b1.cell 5
        have B1 := Lib.hid b1
        clear b1 g1
        cases cb with
        | false =>
         have HN2 := Lib.hid (show standsF known meant (lookL p known meant) (p.stands.take (j + 1)) (stood0 p n0) = st from HN.out)
         go_wp2_with (go_at_call 159; (with_reducible refine (HT.out _).mono ?_); rintro e w' ⟨rfl, rfl⟩)
         go_roundw
         case rel => exact ⟨j + 1, by go_num, by omega, FX1.out, by rw [HN2.out]; exact HBD.out, by rw [HN2.out]; exact FD1.out⟩
         case measure => simp [intOf]; omega
        | true =>
         have hbelow : Below w.heap.size w W1 := ((G4.out).trans (FX1.out.below (by omega) (G4.out.size)))
         obtain ⟨hs1, hs2⟩ | ⟨g, cl, hs1, hs2, hs3⟩ := HSM.out
         case' inr =>
          subst hs1
          have hnq := eqlFun g cl
          have HC := Lib.hid (hs3 x.a W1 hbelow)
          clear hs3
          obtain ⟨mb, hmb⟩ : ∃ mb, meant x.a = mb := ⟨_, rfl⟩
          rw [hmb] at HC HN
          clear hmb
          cases mb
         case' inr.false =>
          have HN2 := Lib.hid (show standsF known meant (lookL p known meant) (p.stands.take (j + 1)) (stood0 p n0) = st from HN.out)
          go_wp2_with (first | (go_at_call 159; (with_reducible refine (HT.out _).mono ?_); rintro e w' ⟨rfl, rfl⟩) | (go_at_fn g; (with_reducible refine (HC.out).mono ?_); rintro e w' ⟨rfl, hg2⟩; have G2 := Lib.hid hg2; clear hg2))
          go_roundw
          case rel => exact ⟨j + 1, by go_num, by omega, FX1.out.trans (Fix.of_below G2.out), by rw [HN2.out]; exact HBD.out, by rw [HN2.out]; exact FD1.out.ext G2.out⟩
          case measure => simp [intOf]; omega
         case' inl =>
          rw [hs2] at HN
          subst hs1
          clear hs2
          have hnq := eqlNil
          go_upto_region 23 with (go_at_call 159; (with_reducible refine (HT.out _).mono ?_); rintro e w' ⟨rfl, rfl⟩)
          obtain ⟨V, hV⟩ : ∃ V, W1 = V := ⟨_, rfl⟩
          have VF := Lib.hid (show Fix bs bs W4 V by rw [← hV]; exact FX1.out)
          have VD := Lib.hid (show Fd V bf bs (.pointer (some ⟨pb, 0, none⟩)) known A n0 c i st by rw [← hV]; exact FD1.out)
          have VX := Lib.hid (show Blk V Bx 105 #[.int .i64 x.a, .int .i64 x.b, .int .i64 x.c, .int .i64 x.d, .int .i64 x.e, .int .i64 x.f] by rw [← hV]; exact B1.out)
          rw [hV]
         case' inr.true =>
          go_upto_region 23 with (first | (go_at_call 159; (with_reducible refine (HT.out _).mono ?_); rintro e w' ⟨rfl, rfl⟩) | (go_at_fn g; (with_reducible refine (HC.out).mono ?_); rintro e w' ⟨rfl, hg2⟩; have G2 := Lib.hid hg2; clear hg2))
          obtain ⟨V, hV⟩ : ∃ V, w' = V := ⟨_, rfl⟩
          have VF := Lib.hid (show Fix bs bs W4 V by rw [← hV]; exact FX1.out.trans (Fix.of_below G2.out))
          have VD := Lib.hid (show Fd V bf bs (.pointer (some ⟨pb, 0, none⟩)) known A n0 c i st by rw [← hV]; exact FD1.out.ext G2.out)
          have VX := Lib.hid (show Blk V Bx 105 #[.int .i64 x.a, .int .i64 x.b, .int .i64 x.c, .int .i64 x.d, .int .i64 x.e, .int .i64 x.f] by rw [← hV]; exact B1.out.ext G2.out)
          rw [hV]
         all_goals
          clear hV q0 q1 q2 q3 q4 q5
          have hav := after_le (lookL p known meant) x.b
          have hll : (lookL p known meant).length = n0 := by unfold lookL; rw [srtH_len]; exact HN0.out
          have hAV : Arr scells 6 V A n0 (lookL p known meant) := HAR.out.fix VF.out (fun b o e _ => by have := HAD.out b o e; omega)
          have HT79 := Lib.hid (fun W (gg : Below V.heap.size V W) => after_any bf A n0 c (lookL p known meant) x.b W (Nat.lt_of_lt_of_le VD.out.f.lt gg.size) ((VD.out.f.ext gg).cell 2) (hAV.below gg) (by omega))
          obtain ⟨av, hav2⟩ : ∃ av, after (lookL p known meant) x.b = av := ⟨_, rfl⟩
          rw [hav2] at HT79 hav HN
          have havi : av < i := by have := HM.out; omega
          have HT162 := Lib.hid (fun W (gg : Below V.heap.size V W) => narrow_any bf bs (.pointer (some ⟨pb, 0, none⟩)) known A n0 c i av st ⟨x.c, x.d⟩ W (VD.out.ext gg) havi)
          have HN2 := Lib.hid (show standsF known meant (lookL p known meant) (p.stands.take (j + 1)) (stood0 p n0) = nar st av ⟨x.c, x.d⟩ from HN.out)
          have HB2 := Lib.hid (bd_nar HBD.out (i := av) (by rw [VD.out.len]; exact havi) HNU.out)
          have q1 := VX.out.cell 1
          have q2 := VX.out.cell 2
          have q3 := VX.out.cell 3
          have HK := Lib.hid (fun W (gg : Below V.heap.size V W) => (show W.cell? ⟨Bx, 1, none⟩ = some (.int .i64 x.b) ∧ W.cell? ⟨Bx, 2, none⟩ = some (.int .i64 x.c) ∧ W.cell? ⟨Bx, 3, none⟩ = some (.int .i64 x.d) from ⟨(VX.out.ext gg).cell 1, (VX.out.ext gg).cell 2, (VX.out.ext gg).cell 3⟩))
          clear hav2 hav hll hAV havi
          go_region_held3 (fun w' => w'.cell? ⟨Bx, 1, none⟩ = some (.int .i64 x.b) ∧ w'.cell? ⟨Bx, 2, none⟩ = some (.int .i64 x.c) ∧ w'.cell? ⟨Bx, 3, none⟩ = some (.int .i64 x.d))
           (first | go_keep | exact HK.out _ G79.out | exact ⟨(F9.out.blk (VX.out.ext G79.out) hxb hxb).cell 1, (F9.out.blk (VX.out.ext G79.out) hxb hxb).cell 2, (F9.out.blk (VX.out.ext G79.out) hxb hxb).cell 3⟩)
           (first
            | (go_at_call 79; (with_reducible refine (HT79.out _ (Below.refl _ _).drew).mono ?_); rintro e W8 ⟨rfl, g79⟩; have G79 := Lib.hid (show Below V.heap.size V W8 from ((Below.refl _ _).drew).trans (g79.mono (Nat.le_refl _))); clear g79)
            | (go_at_call 162; (refine (HT162.out _ G79.out).mono ?_); rintro e W9 ⟨rfl, f9, d9⟩; have F9 := Lib.hid f9; have D9 := Lib.hid d9; clear f9 d9))
          all_goals
           go_wp2_with fail
           go_roundw
           case rel => exact ⟨j + 1, by go_num, by omega, VF.out.trans ((Fix.of_below G79.out).trans F9.out), by rw [HN2.out]; exact HB2.out, by rw [HN2.out]; exact D9.out⟩
           case measure => simp [intOf]; omega
       ·obtain rfl : j = n2 := by omega
        have hst : standsF known meant (lookL p known meant) (p.stands.take j) (stood0 p n0) = standsF known meant (lookL p known meant) p.stands (stood0 p n0) := by rw [List.take_of_length_le (by rw [hl2.out]; exact Nat.le_refl _)]
        rw [hst] at HBD HFD
        have hll : (lookL p known meant).length = n0 := by unfold lookL; rw [srtH_len]; exact HN0.out
        have hAV : Arr scells 6 wr A n0 (lookL p known meant) := HAR.out.fix HFX.out (fun b o e _ => by have := HAD.out b o e; omega)
        have HLS := Lib.hid (show settle (lookL p known meant) (standsF known meant (lookL p known meant) p.stands (stood0 p n0)) = lookS p known meant by unfold lookS; rw [hll])
        have HT := Lib.hid (settle_any bf bs (.pointer (some ⟨pb, 0, none⟩)) known A n0 c (lookL p known meant) (standsF known meant (lookL p known meant) p.stands (stood0 p n0)) wr (by have := HFD.out; rw [← HM.out] at this; exact this) hAV (by omega) (fun b o e _ => (HAD.out b o e).2.1) (wb_of (lookL_num HOK.out known meant)) HBD.out)
        have HAV := Lib.hid hAV
        have HLL := Lib.hid hll
        clear hst hfx hbd hfd harw hAV hll
        go_wp2_with (go_at_call 163; (with_reducible refine (HT.out).mono ?_); rintro e W9 ⟨rfl, f9, d9⟩; have F9 := Lib.hid f9; have D9 := Lib.hid d9; clear f9 d9)
        go_ret
        refine ⟨bf, bs, A, n0, c, rfl, by omega, by omega, HLL.out.symm, ?_, by have := D9.out; rw [HLS.out] at this; exact this, ?_, ?_⟩
        ·exact G4.out.trans ((HFX.out.trans F9.out).below (by omega) G4.out.size)
        ·exact HAV.out.fix F9.out (fun b o e _ => by have := HAD.out b o e; omega)
        ·exact fun b o e _ => HAD.out b o e
end Go.Proofs.YtkoejeghihcmlaaGreat
namespace Go.Proofs.YtkoejeghihcmlaaGreat
open Go.RowKit Go.Shelf
/-- All are meant. -/
def every : Int → Bool := fun _ => true
theorem sm_nil (w : World) : Sm w .nilFunc every := .inl ⟨rfl, fun _ => rfl⟩
/-- A plot's block. -/
abbrev plb (p : Pl) (A1 A2 A3 : Option Addr) (n1 c1 n2 c2 n3 c3 : Nat) : Array Value := #[.int .i64 p.lo, .int .i64 p.hi, .slice A1 n1 c1, .slice A2 n2 c2, .slice A3 n3 c3, .int .i64 p.geese]
/-- A field that was made since the heap ended at B. -/
structure Lk (B : Nat) (w : World) (pb : Nat) (known : Int) (ls : List Six) (st : List Rg) (bf bs : Nat) (A : Option Addr) (n c : Nat) : Prop where
 num : n = ls.length
 lef : B ≤ bf
 les : B ≤ bs
 fd : Fd w bf bs (.pointer (some ⟨pb, 0, none⟩)) known A n c (n + 1) st
 ar : Arr scells 6 w A n ls
 ap : ∀ b o, A = some ⟨b, o, none⟩ → 0 < n → B ≤ b ∧ b ≠ bs ∧ b ≠ bf
theorem Lk.ext {B : Nat} {w w' : World} {pb : Nat} {known : Int} {ls : List Six} {st : List Rg} {bf bs : Nat} {A : Option Addr} {n c : Nat} (h : Lk B w pb known ls st bf bs A n c) (g : Below w.heap.size w w') : Lk B w' pb known ls st bf bs A n c :=
 ⟨h.num, h.lef, h.les, h.fd.ext g, h.ar.below g, h.ap⟩
theorem Lk.le {B : Nat} {w : World} {pb : Nat} {known : Int} {ls : List Six} {st : List Rg} {bf bs : Nat} {A : Option Addr} {n c : Nat} (h : Lk B w pb known ls st bf bs A n c) {B' : Nat} (hb : B' ≤ B) : Lk B' w pb known ls st bf bs A n c :=
 ⟨h.num, Nat.le_trans hb h.lef, Nat.le_trans hb h.les, h.fd, h.ar, fun b o e h0 => ⟨Nat.le_trans hb (h.ap b o e h0).1, (h.ap b o e h0).2⟩⟩
theorem pick19 {p : Pl} (h : p.loads.length ≤ 60) (known : Int) (meant : Int → Bool) : (pickL p known meant).length ≤ 60 := Nat.le_trans (pickX_len p.loads known meant) h
theorem lookL_len {p : Pl} (h : p.loads.length ≤ 60) (known : Int) (meant : Int → Bool) : (lookL p known meant).length ≤ 60 := by
 unfold lookL; rw [srtH_len]; exact pick19 h known meant
theorem look_lk (p : Pl) (A1 A2 A3 : Option Addr) (n1 c1 n2 c2 n3 c3 pb : Nat) (known : Int) (meant : Int → Bool) (sm : Value) (w : World) (hP : Blk w pb 38 (plb p A1 A2 A3 n1 c1 n2 c2 n3 c3))
  (hp : Pa w p A1 A2 A3 n1 c1 n2 c2 n3 c3) (hok : okPl p = true) (h19 : p.loads.length ≤ 60) (hsm : Sm w sm meant) :
  Calls Tryz.prog 81 #[.pointer (some ⟨pb, 0, none⟩), .int .i64 known, sm] w fun e w' => ∃ bf bs A n c, e = .returned (.pointer (some ⟨bf, 0, none⟩)) ∧ Below w.heap.size w w' ∧ Lk w.heap.size w' pb known (lookL p known meant) (lookS p known meant) bf bs A n c := by
 refine (look_any p A1 A2 A3 n1 c1 n2 c2 n3 c3 pb known meant sm w hP hp hok (pick19 h19 known meant) hsm).mono ?_
 rintro e w' ⟨bf, bs, A, n, c, rfl, h1, h2, h3, h4, h5, h6, h7⟩
 exact ⟨bf, bs, A, n, c, rfl, h4, h3, h1, h2, h5, h6, h7⟩
set_option maxRecDepth 100000 in
theorem ask_any (p : Pl) (A1 A2 A3 : Option Addr) (n1 c1 n2 c2 n3 c3 pb : Nat) (known : Int) (w : World) (hP : Blk w pb 38 (plb p A1 A2 A3 n1 c1 n2 c2 n3 c3))
  (hp : Pa w p A1 A2 A3 n1 c1 n2 c2 n3 c3) (hok : okPl p = true) (h19 : p.loads.length ≤ 60) :
  Calls Tryz.prog 152 #[.pointer (some ⟨pb, 0, none⟩), .int .i64 known] w fun e w' => ∃ r, e = .returned (.tuple #[r, .int .i64 (err (sound (lookS p known every)) 14)]) ∧ Below w.heap.size w w' ∧
   (sound (lookS p known every) = true → ∃ bf bs A n c, r = .pointer (some ⟨bf, 0, none⟩) ∧ Lk w.heap.size w' pb known (lookL p known every) (lookS p known every) bf bs A n c) := by
 have T := Lib.hid (look_lk p A1 A2 A3 n1 c1 n2 c2 n3 c3 pb known every .nilFunc w hP hp hok h19 (sm_nil w))
 have hll := lookL_len h19 known every
 clear hP hp hok h19
 have HS := Lib.hid (fun W bf bs A n c (h : Lk w.heap.size W pb known (lookL p known every) (lookS p known every) bf bs A n c) => sound_any bf bs _ known A n c (n + 1) (lookS p known every) W h.fd (by have := h.num; omega))
 obtain ⟨sb, hsb⟩ : ∃ sb, sound (lookS p known every) = sb := ⟨_, rfl⟩
 rw [hsb] at HS ⊢
 clear hsb
 cases sb
 all_goals
  go_enter Tryz.func152, Tryz.ntmps152
  go_wp2_with (first
   | (go_at_call 81; (with_reducible refine (T.out).mono ?_); rintro e W1 ⟨bf, bs, A, n, c, rfl, hg, hl⟩; have HG := Lib.hid hg; have HL := Lib.hid hl; clear hg hl)
   | (go_at_call 100; (with_reducible refine (HS.out _ _ _ _ _ _ HL.out).mono ?_); rintro e W2 ⟨rfl, hg⟩; have HG2 := Lib.hid hg; clear hg))
  go_ret2
  refine ⟨_, rfl, HG.out.trans (HG2.out.mono HG.out.size), ?_⟩
  first
   | (intro h; exact absurd h (by decide))
   | exact fun _ => ⟨bf, bs, A, n, c, rfl, HL.out.ext HG2.out⟩
/-- The error of asking. -/
def askE (p : Pl) (hours : List Int) (known : Int) : Int := if firstE p hours [known] = 0 then err (sound (lookS p known every)) 14 else firstE p hours [known]
theorem first_ok {p : Pl} {hours days : List Int} (h : firstE p hours days = 0) : okPl p = true := by
 unfold firstE at h
 split at h
 ·assumption
 ·cases h
theorem one_int {w : World} {g : Nat} {x : Int} (h : Blk w g 3 #[.int .i64 x]) : Ints w (some ⟨g, 0, none⟩) 1 [x] := Blk.intsN (l := [x]) h rfl
set_option maxRecDepth 100000 in
set_option maxHeartbeats 4000000 in
theorem asked_any (p : Pl) (A1 A2 A3 : Option Addr) (n1 c1 n2 c2 n3 c3 pb : Nat) (hour known : Int) (w : World) (hP : Blk w pb 38 (plb p A1 A2 A3 n1 c1 n2 c2 n3 c3))
  (hp : Pa w p A1 A2 A3 n1 c1 n2 c2 n3 c3) (h19 : p.loads.length ≤ 60) :
  Calls Tryz.prog 74 #[.pointer (some ⟨pb, 0, none⟩), .int .i64 hour, .int .i64 known] w fun e w' => ∃ r, e = .returned (.tuple #[r, .int .i64 (askE p [hour] known)]) ∧ Below w.heap.size w w' ∧
   (askE p [hour] known = 0 → ∃ bf bs A n c, r = .pointer (some ⟨bf, 0, none⟩) ∧ Lk w.heap.size w' pb known (lookL p known every) (lookS p known every) bf bs A n c) := by
 have p0 := hP.cell 0
 have p1 := hP.cell 1
 have p2 := hP.cell 2
 have p3 := hP.cell 3
 have p4 := hP.cell 4
 have p5 := hP.cell 5
 have HP := Lib.hid hP
 have HPA := Lib.hid hp
 clear hP hp
 obtain ⟨W2, hW2⟩ : ∃ W2, (w.alloc (.cells #[.int .i64 hour] 3)).alloc (.cells #[.int .i64 known] 3) = W2 := ⟨_, rfl⟩
 have g2 : Below w.heap.size w W2 := by rw [← hW2]; exact two_more _ _ _
 have i1 : Ints W2 (some ⟨w.heap.size, 0, none⟩) 1 [hour] := by rw [← hW2]; exact one_int ((Blk.new _ _ _).alloc _)
 have i2 : Ints W2 (some ⟨w.heap.size + 1, 0, none⟩) 1 [known] := by
  rw [← hW2]
  have := Blk.new (w.alloc (.cells #[.int .i64 hour] 3)) 3 #[.int .i64 known]
  rw [World.size_alloc] at this
  exact one_int this
 have T1 := Lib.hid (first_any p A1 A2 A3 n1 c1 n2 c2 n3 c3 _ _ 1 1 1 1 [hour] [known] W2 (HPA.out.below g2) i1 i2 (by decide) (by decide))
 have G2 := Lib.hid g2
 have HE := Lib.hid (show askE p [hour] known = if firstE p [hour] [known] = 0 then err (sound (lookS p known every)) 14 else firstE p [hour] [known] from rfl)
 have HOK := Lib.hid (fun h => first_ok (p := p) (hours := [hour]) (days := [known]) h)
 generalize askE p [hour] known = ae at HE ⊢
 generalize firstE p [hour] [known] = fe at T1 HE HOK
 clear g2 i1 i2
 have HW2 := Lib.hid hW2
 clear hW2
 by_cases hfe : fe = 0
 ·subst hfe
  have T2 := Lib.hid (fun W (g : Below w.heap.size w W) => ask_any p A1 A2 A3 n1 c1 n2 c2 n3 c3 pb known W (HP.out.ext g) (HPA.out.below g) (HOK.out rfl) h19)
  have HE2 := Lib.hid (show ae = err (sound (lookS p known every)) 14 from HE.out)
  go_enter Tryz.func74, Tryz.ntmps74
  go_upto_region 1 with fail
  go_wp2_with (first
   | (go_at_call 80; (try rw [HW2.out]); (with_reducible refine (T1.out).mono ?_); rintro e W3 ⟨rfl, hg⟩; have G3 := Lib.hid (G2.out.trans (hg.mono G2.out.size)); clear hg)
   | (go_at_call 152; (with_reducible refine (T2.out _ G3.out).mono ?_); rintro e W4 ⟨r, rfl, hg, hl⟩; have HG := Lib.hid hg; have HL := Lib.hid hl; clear hg hl))
  go_ret2
  refine ⟨r, by rw [HE2.out]; rfl, G3.out.trans (HG.out.mono G3.out.size), fun h => ?_⟩
  rw [HE2.out] at h
  have hs : sound (lookS p known every) = true := by
   cases hs : sound (lookS p known every) with
   | true => rfl
   | false => rw [hs] at h; cases h
  obtain ⟨bf, bs, A, n, c, rfl, hl⟩ := HL.out hs
  exact ⟨bf, bs, A, n, c, rfl, hl.le G3.out.size⟩
 ·have HE2 := Lib.hid (show ae = fe by rw [HE.out, if_neg hfe])
  have hne : (fe != 0) = true := by simpa using hfe
  go_enter Tryz.func74, Tryz.ntmps74
  go_wp2_with (go_at_call 80; (try rw [HW2.out]); (with_reducible refine (T1.out).mono ?_); rintro e W3 ⟨rfl, hg⟩; have G3 := Lib.hid (G2.out.trans (hg.mono G2.out.size)); clear hg)
  go_ret2
  exact ⟨.pointer none, by rw [HE2.out]; rfl, G3.out, fun h => absurd (HE2.out.symm.trans h) hfe⟩
end Go.Proofs.YtkoejeghihcmlaaGreat
namespace Go.Proofs.YtkoejeghihcmlaaGreat
open Go.RowKit Go.Shelf
/-- What stood, as asked. -/
def stoodR (p : Pl) (hour known : Int) : Rg := if askE p [hour] known = 0 then (lookS p known every).getD (after (lookL p known every) hour) zR else zR
theorem Pa.grown {w w' : World} {p : Pl} {A1 A2 A3 : Option Addr} {n1 c1 n2 c2 n3 c3 : Nat} (h : Pa w p A1 A2 A3 n1 c1 n2 c2 n3 c3) (g : Below w.heap.size w w') : Pa w' p A1 A2 A3 n1 c1 n2 c2 n3 c3 := h.below g
/-- Whether a field is clear, by what stood. -/
def clearS (r : Rg) : Int := ans (decide (r.lo = 0)) (decide (0 < r.hi))
def clearA (p : Pl) (hour known : Int) : Int := if askE p [hour] known = 0 then clearS ((lookS p known every).getD (after (lookL p known every) hour) zR) else 0
set_option maxRecDepth 100000 in
set_option maxHeartbeats 4000000 in
theorem clear_any (p : Pl) (A1 A2 A3 : Option Addr) (n1 c1 n2 c2 n3 c3 : Nat) (hour known : Int) (w : World) (hp : Pa w p A1 A2 A3 n1 c1 n2 c2 n3 c3) (h19 : p.loads.length ≤ 60) :
  Calls Tryz.prog 36 #[plv p A1 A2 A3 n1 c1 n2 c2 n3 c3, .int .i64 hour, .int .i64 known] w fun e w' => e = .returned (.tuple #[.int .i64 (clearA p hour known), .int .i64 (askE p [hour] known)]) ∧ Below w.heap.size w w' := by
 obtain ⟨W2, hW2⟩ : ∃ W2, w.alloc (.cells (plb p A1 A2 A3 n1 c1 n2 c2 n3 c3) 38) = W2 := ⟨_, rfl⟩
 have g2 : Below w.heap.size w W2 := by rw [← hW2]; exact one_more _ _
 have b1 : Blk W2 w.heap.size 38 (plb p A1 A2 A3 n1 c1 n2 c2 n3 c3) := by rw [← hW2]; exact Blk.new _ _ _
 have T := Lib.hid (asked_any p A1 A2 A3 n1 c1 n2 c2 n3 c3 w.heap.size hour known W2 b1 (hp.below g2) h19)
 have HL19 := Lib.hid (lookL_len h19 known every)
 have G2 := Lib.hid g2
 have hz2 := g2.size
 have HR := Lib.hid (show clearA p hour known = if askE p [hour] known = 0 then clearS ((lookS p known every).getD (after (lookL p known every) hour) zR) else 0 from rfl)
 obtain ⟨rr, hrr⟩ : ∃ rr, clearA p hour known = rr := ⟨_, rfl⟩
 rw [hrr] at HR ⊢
 clear hrr hp g2 b1
 obtain ⟨ae, hae⟩ : ∃ ae, askE p [hour] known = ae := ⟨_, rfl⟩
 rw [hae] at T HR ⊢
 clear hae
 by_cases he : ae = 0
 ·subst he
  have HR2 := Lib.hid (show rr = clearS ((lookS p known every).getD (after (lookL p known every) hour) zR) from HR.out)
  go_enter Tryz.func36, Tryz.ntmps36
  go_upto_region 4 with (go_at_call 74; (with_reducible refine (T.out).mono ?_); rintro e W3 ⟨r, rfl, hg, hl⟩; obtain ⟨bf, bs, A, n, c, rfl, hl2⟩ := hl (by trivial); have G3 := Lib.hid hg; have HL := Lib.hid hl2; clear hg hl hl2)
  have hnn := HL.out.num
  have hn19 : n ≤ 60 := by rw [hnn]; exact HL19.out
  have hav := after_le (lookL p known every) hour
  rw [← hnn] at hav
  have HT79 := Lib.hid (fun W (gg : Below W3.heap.size W3 W) => after_any bf A n c (lookL p known every) hour W (Nat.lt_of_lt_of_le HL.out.fd.f.lt gg.size) ((HL.out.fd.f.ext gg).cell 2) (HL.out.ar.below gg) (by omega))
  obtain ⟨av, hav2⟩ : ∃ av, after (lookL p known every) hour = av := ⟨_, rfl⟩
  rw [hav2] at HT79 HR2 hav
  have havi : av < n + 1 := by omega
  obtain ⟨m, hm⟩ : ∃ m, n + 1 = m := ⟨_, rfl⟩
  obtain ⟨rg, hrg⟩ : ∃ rg, (lookS p known every).getD av zR = rg := ⟨_, rfl⟩
  rw [hrg] at HR2
  have HK := Lib.hid (fun W (gg : Below W3.heap.size W3 W) => (show W.cell? ⟨bf, 3, none⟩ = some (.slice (some ⟨bs, 0, none⟩) m m) ∧ W.cell? ⟨bs, av * 2, none⟩ = some (.int .i64 rg.lo) ∧ W.cell? ⟨bs, av * 2 + 1, none⟩ = some (.int .i64 rg.hi) by
   have hf := HL.out.fd.ext gg
   obtain ⟨s0, s1⟩ := hf.cells havi
   refine ⟨by rw [← hm]; exact hf.f.cell 3, ?_, ?_⟩
   ·rw [s0, ← hrg]
   ·rw [s1, ← hrg]))
  obtain ⟨k0, k1, k2⟩ := HK.out W3 (Below.refl _ _)
  have havm : (av : Int) < (m : Int) := by omega
  clear hav hav2 hm havi hrg
  go_cut [10] from 20 to 28 (fun s10 wx => ∃ b10, s10 = .pointer (some ⟨b10, 0, none⟩) ∧ Below W3.heap.size W3 wx ∧ Blk wx b10 33 #[.int .i64 rg.lo, .int .i64 rg.hi])
  case first =>
   go_region_held3 (fun W => W.cell? ⟨bf, 3, none⟩ = some (.slice (some ⟨bs, 0, none⟩) m m) ∧ W.cell? ⟨bs, av * 2, none⟩ = some (.int .i64 rg.lo) ∧ W.cell? ⟨bs, av * 2 + 1, none⟩ = some (.int .i64 rg.hi))
    (first | go_keep | exact HK.out _ G79.out | exact HK.out _ (one_more W3 _) | exact HK.out _ ((one_more W3 _).drew) | exact HK.out _ (G79.out.alloc G79.out.size _) | exact HK.out _ ((G79.out.setCell (p := ⟨W3.heap.size, 0, none⟩) (Nat.le_refl _) _).setCell (p := ⟨W3.heap.size, 1, none⟩) (Nat.le_refl _) _))
    (first
    | (go_at_call 79; (with_reducible refine (HT79.out _ (Below.refl _ _).drew).mono ?_); rintro e W8 ⟨rfl, g79⟩; have G79 := Lib.hid (show Below W3.heap.size W3 W8 from ((Below.refl _ _).drew).trans (g79.mono (Nat.le_refl _))); clear g79)
    | (go_at_call 79; (with_reducible refine (HT79.out _ ((one_more W3 (.cells #[.int .i64 0, .int .i64 0] 33)).drew)).mono ?_); rintro e W8 ⟨rfl, g79⟩; have G79 := Lib.hid (show Below W3.heap.size W3 W8 from ((one_more W3 (.cells #[.int .i64 0, .int .i64 0] 33)).drew).trans (g79.mono (by simp))); have B79 := Lib.hid (show Blk W8 W3.heap.size 33 #[.int .i64 0, .int .i64 0] from Blk.ext (w := (W3.alloc (.cells #[.int .i64 0, .int .i64 0] 33)).drew) (Blk.new W3 33 #[.int .i64 0, .int .i64 0]) g79); clear g79; have j3 := B79.out.cell 0; have j4 := B79.out.cell 1; have j5 := B79.out.frozen 0; have j6 := B79.out.frozen 1))
   all_goals (try go_wp2_with fail)
   all_goals go_meet
   all_goals first
    | exact ⟨_, rfl, G79.out.alloc G79.out.size _, Blk.new _ _ _⟩
    | exact ⟨_, rfl, ((G79.out.setCell (p := ⟨W3.heap.size, 0, none⟩) (Nat.le_refl _) _).setCell (p := ⟨W3.heap.size, 1, none⟩) (Nat.le_refl _) _), (B79.out.set_ 0 _).set_ 1 _⟩
  case rest =>
   obtain ⟨b10, rfl, hg, hb⟩ := hcut
   rename World => W9
   have r0 := hb.cell 0
   have r1 := hb.cell 1
   have GG := Lib.hid (G2.out.trans ((G3.out.trans (hg.mono G3.out.size)).mono G2.out.size))
   have HA := Lib.hid (fun W => answer_any (decide (rg.lo = 0)) (decide (0 < rg.hi)) W)
   have HR3 := Lib.hid (show rr = ans (decide (rg.lo = 0)) (decide (0 < rg.hi)) from HR2.out)
   clear hg hb k0 k1 k2
   go_wp2_with (go_at_call 77; (refine (HA.out _).mono ?_); rintro e W10 ⟨rfl, rfl⟩)
   go_ret2
   exact ⟨by rw [HR3.out]; rfl, GG.out⟩
 ·have HR2 := Lib.hid (show rr = 0 by rw [HR.out, if_neg he])
  have hne : (ae != 0) = true := by simpa using he
  go_enter Tryz.func36, Tryz.ntmps36
  go_wp2_with (go_at_call 74; (with_reducible refine (T.out).mono ?_); rintro e W3 ⟨r, rfl, hg, hl⟩; have G3 := Lib.hid hg; clear hg hl)
  go_ret2
  exact ⟨by rw [HR2.out]; rfl, G2.out.trans (G3.out.mono G2.out.size)⟩
end Go.Proofs.YtkoejeghihcmlaaGreat
namespace Go.Proofs.YtkoejeghihcmlaaGreat
open Go.RowKit Go.Shelf
set_option maxRecDepth 100000 in
set_option maxHeartbeats 4000000 in
theorem idxSpell_any (g : FuncId) (cl : Array Value) (q : Six → Bool) (A : Option Addr) (n c : Nat) (l : List Six) (w : World) (ha : Arr scells 6 w A n l) (hn : n ≤ 1000000)
  (eg : ∀ args W, (callFunc g args).run Tryz.prog W = .ok (.enter g args) W) (hq : ∀ x W, Below w.heap.size w W → Calls Tryz.prog g (#[sv x] ++ cl) W fun e W' => e = .returned (.bool (q x)) ∧ Below W.heap.size W W') :
  Calls Tryz.prog 204 #[.slice A n c, .func (.func g) #[] cl] w fun e w' => (∃ i : Int, e = .returned (.int .i64 i) ∧ ((∃ k : Nat, i = k ∧ k < n ∧ q (l.getD k z6) = true ∧ ∀ j, j < k → q (l.getD j z6) = false) ∨ (i = -1 ∧ ∀ j, j < n → q (l.getD j z6) = false))) ∧ Below w.heap.size w w' := by
 have HA := Lib.hid ha
 have HQ := Lib.hid hq
 clear ha hq
 go_enter Tryz.func204, Tryz.ntmps204
 go_wp2_with fail
 go_loopw [8] (fun i wr => ∃ k : Nat, k ≤ n ∧ i = .int .i64 k ∧ Below w.heap.size w wr ∧ ∀ j, j < k → q (l.getD j z6) = false) (fun i _ => n - (intOf i).toNat)
 case atStart => exact ⟨0, Nat.zero_le _, rfl, Below.refl _ _, fun j hj => absurd hj (by omega)⟩
 case round =>
  obtain ⟨k, hk, rfl, hg, hno⟩ := hrel
  have HNO := Lib.hid hno
  have HG := Lib.hid hg
  clear hno
  by_cases hkn : k < n
  ·obtain ⟨b, o, rfl, -, -, hc⟩ := six_at (HA.out.below hg) hkn
   obtain ⟨d0, d1, d2, d3, d4, d5⟩ := hc _ (Below.refl _ _)
   obtain ⟨y, hy⟩ : ∃ y, l.getD k z6 = y := ⟨_, rfl⟩
   rw [hy] at d0 d1 d2 d3 d4 d5
   obtain ⟨pb, hpb⟩ : ∃ pb, q y = pb := ⟨_, rfl⟩
   have T := HQ.out y wr hg
   rw [hpb] at T
   have HT := Lib.hid T
   have HY := Lib.hid hy
   have HPB := Lib.hid hpb
   clear hc hy T hpb hg
   cases pb with
   | true =>
    go_wp2_with (go_at_fn g; (with_reducible refine (HT.out).mono ?_); rintro e w' ⟨rfl, hg2⟩; have G2 := Lib.hid (HG.out.trans (hg2.mono HG.out.size)); clear hg2)
    go_ret
    exact ⟨⟨k, rfl, .inl ⟨k, rfl, hkn, by rw [HY.out]; exact HPB.out, HNO.out⟩⟩, G2.out⟩
   | false =>
    go_wp2_with (go_at_fn g; (with_reducible refine (HT.out).mono ?_); rintro e w' ⟨rfl, hg2⟩; have G2 := Lib.hid (HG.out.trans (hg2.mono HG.out.size)); clear hg2)
    go_roundw
    case rel => exact ⟨k + 1, by omega, by go_num, G2.out, fun j hj => by
     by_cases e : j = k
     ·subst e; rw [HY.out]; exact HPB.out
     ·exact HNO.out j (by omega)⟩
    case measure => simp [intOf]; omega
  ·obtain rfl : n = k := by omega
   go_wp2_with fail
   go_ret
   exact ⟨⟨-1, rfl, .inr ⟨rfl, HNO.out⟩⟩, HG.out⟩
theorem any_of_idx204 {q : Six → Bool} {l : List Six} {n : Nat} {i : Int} (hl : l.length = n) (h : (∃ k : Nat, i = k ∧ k < n ∧ q (l.getD k z6) = true ∧ ∀ j, j < k → q (l.getD j z6) = false) ∨ (i = -1 ∧ ∀ j, j < n → q (l.getD j z6) = false)) : decide (0 ≤ i) = l.any q := by
 rcases h with ⟨k, rfl, hk, hq, -⟩ | ⟨rfl, hq⟩
 ·rw [decide_eq_true (show (0 : Int) ≤ k by omega)]
  exact (List.any_eq_true.2 ⟨_, getD_mem (by rw [hl]; exact hk), hq⟩).symm
 ·rw [decide_eq_false (by omega)]
  symm
  rw [List.any_eq_false]
  intro y hy
  obtain ⟨j, hj, rfl⟩ := List.getElem_of_mem hy
  have := hq j (by rw [← hl]; exact hj)
  rw [List.getD_eq_getElem?_getD, List.getElem?_eq_getElem hj] at this
  simpa using this
set_option maxRecDepth 100000 in
theorem hasidxSpell_any (g : FuncId) (cl : Array Value) (q : Six → Bool) (A : Option Addr) (n c : Nat) (l : List Six) (w : World) (ha : Arr scells 6 w A n l) (hn : n ≤ 1000000)
  (eg : ∀ args W, (callFunc g args).run Tryz.prog W = .ok (.enter g args) W) (hq : ∀ x W, Below w.heap.size w W → Calls Tryz.prog g (#[sv x] ++ cl) W fun e W' => e = .returned (.bool (q x)) ∧ Below W.heap.size W W') :
  Calls Tryz.prog 164 #[.slice A n c, .func (.func g) #[] cl] w fun e w' => e = .returned (.bool (l.any q)) ∧ Below w.heap.size w w' := by
 have T := idxSpell_any g cl q A n c l w ha hn eg hq
 have HL := Lib.hid ha.1
 clear ha hq
 have HA := Lib.hid (fun i h => any_of_idx204 (q := q) (l := l) (n := n) (i := i) HL.out h)
 generalize l.any q = r at HA ⊢
 go_enter Tryz.func164, Tryz.ntmps164
 go_wp2_with (go_at_call 204; (with_reducible refine T.mono ?_); rintro e w' ⟨⟨i, rfl, hi⟩, hg⟩; have hi2 := HA.out i hi; clear hi)
 go_ret
 exact ⟨rfl, hg⟩
end Go.Proofs.YtkoejeghihcmlaaGreat
namespace Go.Proofs.YtkoejeghihcmlaaGreat
open Go.RowKit Go.Shelf
def inSpell (known hour : Int) (s : Six) : Bool := cnt s known && rng hour s.c s.d
def shutB (p : Pl) (known hour : Int) : Bool := decide (hour % 24 < 8) || decide (19 ≤ hour % 24) || p.spells.any (inSpell known hour)
def openB (p : Pl) (known hour from_ : Int) : Bool := decide (from_ ≤ hour) && !shutB p known hour && (decide (p.geese = 0) || decide (hour < from_ + 24 * p.geese))
set_option maxRecDepth 100000 in
set_option maxHeartbeats 4000000 in
theorem inSpell_any (bf b2 b3 : Nat) (known hour : Int) (x : Six) (w : World) (h2 : w.cell? ⟨b2, 0, none⟩ = some (.pointer (some ⟨bf, 0, none⟩))) (h3 : w.cell? ⟨b3, 0, none⟩ = some (.int .i64 hour)) (hf : w.cell? ⟨bf, 1, none⟩ = some (.int .i64 known)) :
  Calls Tryz.prog 165 #[sv x, .pointer (some ⟨b2, 0, none⟩), .pointer (some ⟨b3, 0, none⟩)] w fun e w' => e = .returned (.bool (inSpell known hour x)) ∧ Below w.heap.size w w' := by
 obtain ⟨W1, hW1⟩ : ∃ W1, w.alloc (.cells #[.int .i64 x.a, .int .i64 x.b, .int .i64 x.c, .int .i64 x.d, .int .i64 x.e, .int .i64 x.f] 107) = W1 := ⟨_, rfl⟩
 have b1 : Blk W1 w.heap.size 107 #[.int .i64 x.a, .int .i64 x.b, .int .i64 x.c, .int .i64 x.d, .int .i64 x.e, .int .i64 x.f] := by rw [← hW1]; exact Blk.new _ _ _
 have G1 := Lib.hid (show Below w.heap.size w W1 by rw [← hW1]; exact one_more _ _)
 have q2 := cellW (b1.cell 2)
 have q3 := cellW (b1.cell 3)
 have q4 := cellW (b1.cell 4)
 have q5 := cellW (b1.cell 5)
 have r2 := cellW (show W1.cell? ⟨b2, 0, none⟩ = some (.pointer (some ⟨bf, 0, none⟩)) by rw [← hW1]; exact keepAlloc h2 _)
 have r3 := cellW (show W1.cell? ⟨b3, 0, none⟩ = some (.int .i64 hour) by rw [← hW1]; exact keepAlloc h3 _)
 have rf := cellW (show W1.cell? ⟨bf, 1, none⟩ = some (.int .i64 known) by rw [← hW1]; exact keepAlloc hf _)
 have T := fun W => cnt_any x known W
 have HI := Lib.hid (show inSpell known hour x = (cnt x known && rng hour x.c x.d) from rfl)
 obtain ⟨rb, hrb⟩ : ∃ rb, inSpell known hour x = rb := ⟨_, rfl⟩
 rw [hrb] at HI ⊢
 obtain ⟨cb, hcb⟩ : ∃ cb, cnt x known = cb := ⟨_, rfl⟩
 rw [hcb] at T HI
 have HT := Lib.hid T
 have T2 := fun W => within_any hour x.c x.d W
 obtain ⟨wb, hwb⟩ : ∃ wb, rng hour x.c x.d = wb := ⟨_, rfl⟩
 rw [hwb] at T2 HI
 have HT2 := Lib.hid T2
 clear hrb hcb hwb T T2 b1 h2 h3 hf
 cases cb
 all_goals
  go_enter Tryz.func165, Tryz.ntmps165
  go_upto_region 1 with fail
  refine wp_region_calm W1 (by kernel_rfl) (by kernel_rfl) (Below.refl _ _) ?_
  repeat (go_big_quiet_step (first | (go_at_call 159; exact callsCalmSame (HT.out _)) | (go_at_call 145; exact callsCalmSame (HT2.out _))))
  refine wpQuiet_nil ?_
  rintro _ ⟨z, rfl⟩
  have GZ := Lib.hid (G1.out.trans (z.ok.mono G1.out.size))
  go_wp2_with fail
  go_ret
  exact ⟨by rw [HI.out]; rfl, GZ.out⟩
set_option maxRecDepth 100000 in
set_option maxHeartbeats 4000000 in
theorem shut_any (p : Pl) (A1 A2 A3 : Option Addr) (n1 c1 n2 c2 n3 c3 pb bf : Nat) (known hour : Int) (w : World) (hP : Blk w pb 38 (plb p A1 A2 A3 n1 c1 n2 c2 n3 c3)) (hp : Pa w p A1 A2 A3 n1 c1 n2 c2 n3 c3) (hok : okPl p = true)
  (f0 : w.cell? ⟨bf, 0, none⟩ = some (.pointer (some ⟨pb, 0, none⟩))) (f1 : w.cell? ⟨bf, 1, none⟩ = some (.int .i64 known)) (h0 : 0 ≤ hour) :
  Calls Tryz.prog 82 #[.pointer (some ⟨bf, 0, none⟩), .int .i64 hour] w fun e w' => e = .returned (.bool (shutB p known hour)) ∧ Below w.heap.size w w' := by
 obtain ⟨W1, hW1⟩ : ∃ W1, (w.alloc (.cells #[.pointer (some ⟨bf, 0, none⟩)] 134)).alloc (.cells #[.int .i64 hour] 3) = W1 := ⟨_, rfl⟩
 have g1 : Below w.heap.size w W1 := by rw [← hW1]; exact two_more _ _ _
 have q0 : W1.cell? ⟨w.heap.size, 0, none⟩ = some (.pointer (some ⟨bf, 0, none⟩)) := by rw [← hW1]; exact ((Blk.new w 134 #[.pointer (some ⟨bf, 0, none⟩)]).alloc _).cell 0
 have q1 : W1.cell? ⟨w.heap.size + 1, 0, none⟩ = some (.int .i64 hour) := by
  rw [← hW1]
  have := (Blk.new (w.alloc (.cells #[.pointer (some ⟨bf, 0, none⟩)] 134)) 3 #[.int .i64 hour]).cell 0
  rw [World.size_alloc] at this
  exact this
 have q2 : W1.cell? ⟨bf, 0, none⟩ = some (.pointer (some ⟨pb, 0, none⟩)) := (g1.cell (p := ⟨bf, 0, none⟩) (World.block_lt_of_cell? w _ f0)).trans f0
 have q3 : W1.cell? ⟨bf, 1, none⟩ = some (.int .i64 known) := (g1.cell (p := ⟨bf, 1, none⟩) (World.block_lt_of_cell? w _ f1)).trans f1
 have q4 : W1.cell? ⟨pb, 4, none⟩ = some (.slice A3 n3 c3) := (hP.ext g1).cell 4
 have hn3 : n3 ≤ 60 := by rw [← hp.l3.1]; exact (ok_parts hok).2.2.2.2.2.2.2.1
 have T := Lib.hid (hasidxSpell_any 165 #[.pointer (some ⟨w.heap.size, 0, none⟩), .pointer (some ⟨w.heap.size + 1, 0, none⟩)] (inSpell known hour) A3 n3 c3 p.spells W1 (hp.l3.below g1) (by omega) (enters_of Tryz.func165 (by kernel_rfl) rfl)
  (fun x W g => inSpell_any bf w.heap.size (w.heap.size + 1) known hour x W ((g.cell (p := ⟨w.heap.size, 0, none⟩) (World.block_lt_of_cell? W1 _ q0)).trans q0) ((g.cell (p := ⟨w.heap.size + 1, 0, none⟩) (World.block_lt_of_cell? W1 _ q1)).trans q1) ((g.cell (p := ⟨bf, 1, none⟩) (World.block_lt_of_cell? W1 _ q3)).trans q3)))
 have HS := Lib.hid (show shutB p known hour = (decide (hour % 24 < 8) || decide (19 ≤ hour % 24) || p.spells.any (inSpell known hour)) from rfl)
 have hmod : Int.tmod hour 24 = hour % 24 := Int.tmod_eq_emod_of_nonneg h0
 obtain ⟨hm, hhm⟩ : ∃ hm, hour % 24 = hm := ⟨_, rfl⟩
 rw [hhm] at hmod HS
 obtain ⟨rb, hrb⟩ : ∃ rb, shutB p known hour = rb := ⟨_, rfl⟩
 rw [hrb] at HS ⊢
 obtain ⟨ab, hab⟩ : ∃ ab, p.spells.any (inSpell known hour) = ab := ⟨_, rfl⟩
 rw [hab] at HS T
 have G1 := Lib.hid g1
 clear hP hp hhm hrb hab g1 f0 f1
 by_cases h8 : hm < 8
 ·have e : rb = true := by rw [HS.out, decide_eq_true h8]; rfl
  subst e
  go_enter Tryz.func82, Tryz.ntmps82
  go_wp2_with fail
  go_ret
  exact ⟨rfl, G1.out⟩
 ·by_cases h19 : 19 ≤ hm
  ·have e : rb = true := by rw [HS.out, decide_eq_true h19, decide_eq_false h8]; rfl
   subst e
   go_enter Tryz.func82, Tryz.ntmps82
   go_wp2_with fail
   go_ret
   exact ⟨rfl, G1.out⟩
  ·have e : rb = ab := by rw [HS.out, decide_eq_false h19, decide_eq_false h8]; rfl
   subst e
   go_enter Tryz.func82, Tryz.ntmps82
   go_wp2_with (go_at_call 164; (with_reducible refine (T.out).mono ?_); rintro e w' ⟨rfl, hg⟩; have G2 := Lib.hid hg; clear hg)
   go_ret
   exact ⟨rfl, G1.out.trans (G2.out.mono G1.out.size)⟩
set_option maxRecDepth 100000 in
set_option maxHeartbeats 4000000 in
theorem open_any (p : Pl) (A1 A2 A3 : Option Addr) (n1 c1 n2 c2 n3 c3 pb bf : Nat) (known hour from_ : Int) (w : World) (hP : Blk w pb 38 (plb p A1 A2 A3 n1 c1 n2 c2 n3 c3)) (hp : Pa w p A1 A2 A3 n1 c1 n2 c2 n3 c3) (hok : okPl p = true)
  (f0 : w.cell? ⟨bf, 0, none⟩ = some (.pointer (some ⟨pb, 0, none⟩))) (f1 : w.cell? ⟨bf, 1, none⟩ = some (.int .i64 known)) (h0 : 0 ≤ hour) (h1 : 0 ≤ from_) (h2 : from_ ≤ 100000) :
  Calls Tryz.prog 76 #[.pointer (some ⟨bf, 0, none⟩), .int .i64 hour, .int .i64 from_] w fun e w' => e = .returned (.bool (openB p known hour from_)) ∧ Below w.heap.size w w' := by
 have T := Lib.hid (shut_any p A1 A2 A3 n1 c1 n2 c2 n3 c3 pb bf known hour w hP hp hok f0 f1 h0)
 have HF := Lib.hid f0
 have HPB := Lib.hid hP
 have hgeese := ok_parts hok
 have hg1 : 0 ≤ p.geese := hgeese.2.2.2.2.2.2.2.2.1
 have hg2 : p.geese ≤ 60 := hgeese.2.2.2.2.2.2.2.2.2
 have hpb := hP.lt
 have hbf := World.block_lt_of_cell? w _ f0
 have HO := Lib.hid (show openB p known hour from_ = (decide (from_ ≤ hour) && !shutB p known hour && (decide (p.geese = 0) || decide (hour < from_ + 24 * p.geese))) from rfl)
 obtain ⟨rb, hrb⟩ : ∃ rb, openB p known hour from_ = rb := ⟨_, rfl⟩
 rw [hrb] at HO ⊢
 obtain ⟨sb, hsb⟩ : ∃ sb, shutB p known hour = sb := ⟨_, rfl⟩
 rw [hsb] at HO T
 have p5 : w.cell? ⟨pb, 5, none⟩ = some (.int .i64 p.geese) := hP.cell 5
 obtain ⟨gs, hgs⟩ : ∃ gs, p.geese = gs := ⟨_, rfl⟩
 rw [hgs] at HO hg1 hg2 p5
 have HG := Lib.hid p5
 clear hP hp hok hrb hsb hgeese f1 hgs p5 f0
 by_cases hle : from_ ≤ hour
 ·cases sb with
  | true =>
   have e : rb = false := by rw [HO.out, decide_eq_true hle]; rfl
   subst e
   go_enter Tryz.func76, Tryz.ntmps76
   go_wp2_with (go_at_call 82; (with_reducible refine (T.out).mono ?_); rintro e w' ⟨rfl, hg⟩; have G2 := Lib.hid hg; clear hg)
   go_ret
   exact ⟨rfl, G2.out⟩
  | false =>
   by_cases hz : gs = 0
   ·have e : rb = true := by rw [HO.out, decide_eq_true hle, decide_eq_true hz]; rfl
    subst e
    go_enter Tryz.func76, Tryz.ntmps76
    go_wp2_with (go_at_call 82; (with_reducible refine (T.out).mono ?_); rintro e w' ⟨rfl, hg⟩; have G2 := Lib.hid hg; have p5 := (hg.cell (p := ⟨pb, 5, none⟩) hpb).trans HG.out; have p0 := (hg.cell (p := ⟨bf, 0, none⟩) hbf).trans HF.out; clear hg)
    go_ret
    exact ⟨rfl, G2.out⟩
   ·have hzb : (gs == 0) = false := by simpa using hz
    have e : rb = decide (hour < from_ + 24 * gs) := by rw [HO.out, decide_eq_true hle, decide_eq_false hz]; rfl
    subst e
    go_enter Tryz.func76, Tryz.ntmps76
    go_wp2_with (go_at_call 82; (with_reducible refine (T.out).mono ?_); rintro e w' ⟨rfl, hg⟩; have G2 := Lib.hid hg; have p5 := (hg.cell (p := ⟨pb, 5, none⟩) hpb).trans HG.out; have p0 := (hg.cell (p := ⟨bf, 0, none⟩) hbf).trans HF.out; clear hg)
    go_ret
    exact ⟨rfl, G2.out⟩
 ·have e : rb = false := by rw [HO.out, decide_eq_false hle]; rfl
  subst e
  go_enter Tryz.func76, Tryz.ntmps76
  go_wp2_with fail
  go_ret
  exact ⟨rfl, Below.refl _ _⟩
end Go.Proofs.YtkoejeghihcmlaaGreat
namespace Go.Proofs.YtkoejeghihcmlaaGreat
open Go.RowKit Go.Shelf
/-- All blocks but two lie as they lay, and but the integers' that were laid since the heap ended at B (a slice that is appended to in the rounds). -/
structure FixU (B bw bs : Nat) (W W' : World) : Prop where
 size : W.heap.size ≤ W'.heap.size
 block : ∀ k, k < W.heap.size → k ≠ bw → k ≠ bs → (k < B ∨ ∀ cs fz, W.heap[k]? ≠ some (.cells cs 3 fz)) → W'.heap[k]? = W.heap[k]?
section
variable {B bw bs : Nat} {W W' W'' : World}
theorem FixU.refl (B bw bs : Nat) (W : World) : FixU B bw bs W W := ⟨Nat.le_refl _, fun _ _ _ _ _ => rfl⟩
theorem FixU.trans (h : FixU B bw bs W W') (k : FixU B bw bs W' W'') : FixU B bw bs W W'' :=
 ⟨Nat.le_trans h.size k.size, fun i hi h1 h2 h3 => by
  have e := h.block i hi h1 h2 h3
  exact (k.block i (Nat.lt_of_lt_of_le hi h.size) h1 h2 (by rw [e]; exact h3)).trans e⟩
theorem FixU.blk (h : FixU B bw bs W W') {g : Nat} {t : TypeId} {cs : Array Value} (hb : Blk W g t cs) (h1 : g ≠ bw) (h2 : g ≠ bs) (h3 : g < B ∨ t ≠ 3) : Blk W' g t cs := by
 refine (h.block g hb.lt h1 h2 ?_).trans hb
 rcases h3 with h3 | h3
 ·exact .inl h3
 ·refine .inr fun cs' fz e => ?_
  have e2 : W.heap[g]? = some (.cells cs t (0, 0)) := hb
  rw [e2] at e
  cases e
  exact h3 rfl
theorem FixU.cell (h : FixU B bw bs W W') {b o : Nat} {v : Value} (hc : W.cell? ⟨b, o, none⟩ = some v) (h1 : b ≠ bw) (h2 : b ≠ bs) (h3 : b < B) : W'.cell? ⟨b, o, none⟩ = some v :=
 (World.cell?_of_block (a := ⟨b, o, none⟩) (h.block b (World.block_lt_of_cell? W _ hc) h1 h2 (.inl h3))).trans hc
theorem FixU.of_below (h : Below W.heap.size W W') : FixU B bw bs W W' := ⟨h.size, fun k hk _ _ _ => h.block k hk⟩
theorem FixU.of_fix (h : Fix bw bs W W') : FixU B bw bs W W' := ⟨h.size, fun k hk h1 h2 _ => h.block k hk h1 h2⟩
theorem FixU.own {α : Type} {D : Nat} {V : World} (hD : V.heap.size ≤ D) : OwnFrom D (fun (_ : List α) W => FixU B bw bs V W) :=
 fun _ X Y row hs hg hr => ⟨Nat.le_trans hs.size hg.size, fun k hk h1 h2 h3 => (hg.block k (Nat.lt_of_lt_of_le hk hs.size) (fun e => by have := (hr k e.symm).1; omega)).trans (hs.block k hk h1 h2 h3)⟩
theorem FixU.arr {α : Type} {f : α → List Value} {size n : Nat} {A : Option Addr} {xs : List α} (h : FixU B bw bs W W') (ha : Arr f size W A n xs) (hd : ∀ b o, A = some ⟨b, o, none⟩ → 0 < n → b ≠ bw ∧ b ≠ bs ∧ b < B) : Arr f size W' A n xs :=
 ⟨ha.1, fun hn => by
  obtain ⟨b, o, rfl, hlt, hc⟩ := ha.2 hn
  obtain ⟨h1, h2, h3⟩ := hd b o rfl hn
  exact ⟨b, o, rfl, Nat.lt_of_lt_of_le hlt h.size, fun i x hx j u hu => h.cell (hc i x hx j u hu) h1 h2 h3⟩⟩
end
/-- The contract of such an iterator. -/
def SeqO {α : Type} (m : Nat) (g : Nat) (lb : Array Value) (encs : α → Array Value) (G : α → Prop) (Kp : World → World → Prop) (S Sp : List α → Prop) (N : Nat) (w : World) : Prop :=
 ∀ (l : Nat) (J Jx : List α → World → Prop) (W : World), Below w.heap.size w W → OwnFrom W.heap.size J → OwnFrom W.heap.size Jx →
  (∀ pre x W1, J pre W1 → pre.length < N → G x → YieldAt Fence.wide (m - 1) Tryz.prog l (encs x) W1 fun e W' =>
   ((e = .returned (.bool true) ∧ J (pre ++ [x]) W' ∧ Kp W1 W') ∨ (e = .returned (.bool false) ∧ Jx (pre ++ [x]) W')) ∧ KeepsFrom W.heap.size W1 W') →
  J [] W →
  CallsIn Fence.wide m Tryz.prog g (#[.func (.yield l) #[] #[]] ++ lb) W fun e W' => (∃ v, e = .returned v) ∧ ((∃ xs, S xs ∧ J xs W') ∨ (∃ pre, Sp pre ∧ Jx pre W'))
theorem keeps_mono {B B' : Nat} {W W' : World} (h : KeepsFrom B W W') (hb : B ≤ B') : KeepsFrom B' W W' := ⟨h.size, fun k o hk => h.same k o (Nat.le_trans hb hk)⟩
theorem keeps_put {B l : Nat} (W : World) (o : Obj) (hl : l < B) : KeepsFrom B W (W.putObj l o) := ⟨by simp, fun k o' hk ho _ => (World.putObj_heap_other (by omega)).trans ho⟩
theorem grown_lt {W W' : World} {row : Option Nat} (h : W.grownBy W' row) {k B : Nat} {o : Obj} (hk : W.heap[k]? = some o) (hB : k < B) (hr : ∀ r, row = some r → B ≤ r) : W'.heap[k]? = some o :=
 (h.block k (Array.getElem?_eq_some_iff.1 hk).1 (fun e => by have := hr k e.symm; omega)).trans hk
set_option maxHeartbeats 1000000 in
/-- The law of a range over it, at the wide fence, in no round. -/
theorem wp_rangeO {α : Type} {n : Nat} {g : Operand} {ps : Array Tmp} {assign body : Code} {Q : Exit → Act → World → Prop} {a : Act} {w : World}
  (h1 : 1 ≤ n) {gf : Nat} {lb : Array Value} (hg : a.eval g = .func (.func gf) #[] lb) (eg : ∀ args w, (callFunc gf args).run Tryz.prog w = .ok (.enter gf args) w)
  {encs : α → Array Value} {G : α → Prop} {B bw bs : Nat} {S Sp : List α → Prop} {N : Nat} {w0 : World} (hseq : SeqO (n - 1) gf lb encs G (FixU B bw bs) S Sp N w0)
  (hb0 : Below w0.heap.size w0 w) (hps : ∀ x, (encs x).size = ps.size)
  (I : List α → World → Prop) (Ix : Code → List α → World → Prop) (hI : OwnFrom w.heap.size I) (hIx : ∀ c, OwnFrom w.heap.size (Ix c)) (h0 : I [] w) (Ax : α → Act → World → Prop) (hAx : ∀ x a', OwnFrom w.heap.size (fun (_ : Unit) W => Ax x a' W))
  (hassign : ∀ (l : Nat) (pre : List α) (x : α) (W : World) (K : Act → World → Prop), I pre W → (∀ a' W', KeepsFrom w.heap.size W W' → FixU B bw bs W W' → I pre W' → Ax x a' W' → K a' W') →
   assign.wpIn (Fence.wide.inRound l) (n - 1 - 1) Tryz.prog (Exit.then K (fun _ _ _ => False)) { tmps := (ps.zip (encs x)).foldl (fun t (p, v) => t.setIfInBounds p v) a.tmps, defers := [] } W)
  (hbody : ∀ (l : Nat) (pre : List α) (x : α) (a' : Act) (W : World), w.heap.size ≤ l → (∃ r, W.heap[l]? = some (.loop r)) → I pre W → Ax x a' W → pre.length < N → G x → body.wpIn (Fence.wide.inRound l) (n - 1 - 1) Tryz.prog (ownPostG w.heap.size (FixU B bw bs) I Ix (pre ++ [x]) W) a' W)
  (hdone : ∀ (D : Nat) (xs : List α) (W : World), w.heap.size ≤ D → S xs → I xs W → W.heap[D]? = some (.deferred (some [])) → Q .normal { a with defers := { target := .collected D, args := #[] } :: a.defers } W)
  (hstop : ∀ (D : Nat) (c : Code) (pre : List α) (W : World), w.heap.size ≤ D → Sp pre → Ix c pre W → W.heap[D]? = some (.deferred (some [])) → c.wpIn Fence.wide n Tryz.prog Q { a with defers := { target := .collected D, args := #[] } :: a.defers } W) :
  (Code.rangeFunc g ps assign body).wpIn Fence.wide n Tryz.prog Q a w := by
 refine wpIn_rangeFunc fun fn hfn => ?_
 rw [show Fence.wide.round = none from rfl]
 -- the loop's record, in a state
 let rc : LoopState → Option Code → Loop := fun st pe => { state := st, pending := pe, fn, tmps := a.tmps, params := ps, assign, body, defers := w.heap.size }
 obtain ⟨V, hV⟩ : ∃ V, (w.alloc (.deferred (some []))).alloc (.loop (rc .ready none)) = V := ⟨_, rfl⟩
 have hVs : V.heap.size = w.heap.size + 2 := by rw [← hV]; simp
 have vl : V.heap[w.heap.size + 1]? = some (.loop (rc .ready none)) := by
  rw [← hV]; have := World.alloc_heap_new (w.alloc (.deferred (some []))) (.loop (rc .ready none)); rwa [World.size_alloc] at this
 have vk : V.heap[w.heap.size]? = some (.deferred (some [])) := by rw [← hV]; exact (Below.heap_alloc _ _ _ (by simp)).trans (World.alloc_heap_new w _)
 have vi : I [] V := by rw [← hV]; exact hI.alloc _ (hI.alloc _ h0)
 have vb : Below w0.heap.size w0 V := by rw [← hV]; exact hb0.trans ((two_more w _ _).mono hb0.size)
 refine ⟨w.heap.size + 1, [{ target := .collected w.heap.size, args := #[] }], V, { target := .fn (.func gf) lb, args := #[.func (.yield (w.heap.size + 1)) #[] #[]] }, V, gf, #[.func (.yield (w.heap.size + 1)) #[] #[]] ++ lb, V,
  by rw [← hV]; exact run_enterLoop_outer _ _ _ _ _, by (simp only [resolve, hg]; simp [go_sem]), fun f' hf' => trivial, by simp [invoke, go_sem, eg], fun _ => h1, ?_⟩
 have own : ∀ {s : List α} {A B : World} {row : Option Nat} {st : LoopState} {pe : Option Code} {T : List α → World → Prop}, OwnFrom w.heap.size T → (T s A ∧ A.heap[w.heap.size + 1]? = some (.loop (rc st pe)) ∧ A.heap[w.heap.size]? = some (.deferred (some []))) →
   A.grownBy B row → (∀ r, row = some r → V.heap.size ≤ r ∧ ∃ o : Obj, A.heap[r]? = some o ∧ o.isCells = false) → (T s B ∧ B.heap[w.heap.size + 1]? = some (.loop (rc st pe)) ∧ B.heap[w.heap.size]? = some (.deferred (some []))) :=
  fun hT ht hgr hr => ⟨hT _ _ _ _ ht.1 hgr (fun r e => ⟨by have := (hr r e).1; omega, (hr r e).2⟩), grown_lt hgr ht.2.1 (B := V.heap.size) (by omega) (fun r e => (hr r e).1), grown_lt hgr ht.2.2 (B := V.heap.size) (by omega) (fun r e => (hr r e).1)⟩
 refine (hseq (w.heap.size + 1)
  (fun pre W => I pre W ∧ W.heap[w.heap.size + 1]? = some (.loop (rc .ready none)) ∧ W.heap[w.heap.size]? = some (.deferred (some [])))
  (fun pre W => ∃ c, Ix c pre W ∧ W.heap[w.heap.size + 1]? = some (.loop (rc .done (some c))) ∧ W.heap[w.heap.size]? = some (.deferred (some [])))
  V vb (fun s A B row hs hgr hr => own hI hs hgr hr) (fun s A B row ⟨c, hs⟩ hgr hr => ⟨c, own (hIx c) hs hgr hr⟩) ?_ ⟨vi, vl, vk⟩).mono ?_
 ·-- one round
  rintro pre x W ⟨hi, hl, hk⟩ hlen hG
  refine ⟨fn, _, assign, body, run_yield hl (hps x), roundIn_of_wpIn hfn (hassign _ pre x W _ hi ?_)⟩
  intro a' X kf kp xi xa
  have xl := kf.same _ _ (by omega) hl rfl
  have xk := kf.same _ _ (Nat.le_refl _) hk rfl
  have xlt := (Array.getElem?_eq_some_iff.1 xl).1
  refine ⟨_, run_beginRound xl rfl, ?_⟩
  obtain ⟨Y, hY⟩ : ∃ Y, X.putObj (w.heap.size + 1) (.loop { rc .ready none with state := .busy }) = Y := ⟨_, rfl⟩
  have yl : Y.heap[w.heap.size + 1]? = some (.loop { rc .ready none with state := .busy }) := by rw [← hY]; exact World.putObj_heap_same xlt
  have yk : Y.heap[w.heap.size]? = some (.deferred (some [])) := by rw [← hY]; exact (World.putObj_heap_other (by omega)).trans xk
  have yi : I pre Y := by rw [← hY]; exact hI.putObj _ xi (by omega) xl rfl
  have ya : Ax x a' Y := by rw [← hY]; exact (hAx x a').putObj (s := ()) _ xa (by omega) xl rfl
  have ykf : KeepsFrom V.heap.size W Y := by rw [← hY]; exact (keeps_mono kf (by omega)).trans (keeps_put _ _ (by omega))
  rw [hY]
  refine wpIn_mono (hbody _ pre x a' Y (by omega) ⟨_, yl⟩ yi ya hlen hG) ?_
  have fin : ∀ (jump : Option Code) (Z : World), KeepsFrom w.heap.size Y Z →
    ∃ Z', (Instr.endRound (w.heap.size + 1) jump).run Tryz.prog Z = .ok (.bool jump.isNone) Z' ∧ Z' = Z.putObj (w.heap.size + 1) (.loop (rc (if jump.isNone then .ready else .done) jump)) ∧ Z.heap[w.heap.size + 1]? = some (.loop { rc .ready none with state := .busy }) ∧
     Z'.heap[w.heap.size + 1]? = some (.loop (rc (if jump.isNone then .ready else .done) jump)) ∧ Z'.heap[w.heap.size]? = some (.deferred (some [])) ∧ KeepsFrom V.heap.size W Z' := fun jump Z kz => by
   have zl := kz.same _ _ (by omega) yl rfl
   refine ⟨_, run_endRound jump zl, rfl, zl, World.putObj_heap_same (Array.getElem?_eq_some_iff.1 zl).1, (World.putObj_heap_other (by omega)).trans (kz.same _ _ (Nat.le_refl _) yk rfl), (ykf.trans (keeps_mono kz (by omega))).trans (keeps_put _ _ (by omega))⟩
  rintro e a3 Z hp
  cases e with
  | normal =>
   obtain ⟨Z', hr, hz, zl, zl', zk', kk⟩ := fin none Z hp.1
   refine ⟨_, _, hr, .inl ⟨rfl, ⟨?_, zl', zk'⟩, ?_⟩, kk⟩
   ·rw [hz]; exact hI.putObj _ hp.2.2 (by omega) zl rfl
   ·refine ⟨kk.size, fun k hk h1 h2 h3 => ?_⟩
    by_cases e : k = w.heap.size + 1
    ·subst e; exact zl'.trans hl.symm
    ·rw [hz, World.putObj_heap_other (fun e' => e (by omega))]
     have hy : Y.heap[k]? = X.heap[k]? := by rw [← hY]; exact World.putObj_heap_other (fun e' => e (by omega))
     have hky : k < Y.heap.size := by rw [← hY]; simp; exact Nat.lt_of_lt_of_le hk kp.size
     have hyw : Y.heap[k]? = W.heap[k]? := hy.trans (kp.block k hk h1 h2 h3)
     exact (hp.2.1.block k hky h1 h2 (by rw [hyw]; exact h3)).trans hyw
  | ret =>
   obtain ⟨Z', hr, hz, zl, zl', zk', kk⟩ := fin (some .ret) Z hp.1
   exact ⟨_, _, hr, .inr ⟨rfl, .ret, by rw [hz]; exact (hIx _).putObj _ hp.2 (by omega) zl rfl, zl', zk'⟩, kk⟩
  | exit id =>
   obtain ⟨Z', hr, hz, zl, zl', zk', kk⟩ := fin (some (.exit id)) Z hp.1
   exact ⟨_, _, hr, .inr ⟨rfl, .exit id, by rw [hz]; exact (hIx _).putObj _ hp.2 (by omega) zl rfl, zl', zk'⟩, kk⟩
  | goto t =>
   obtain ⟨Z', hr, hz, zl, zl', zk', kk⟩ := fin (some (.goto t)) Z hp.1
   exact ⟨_, _, hr, .inr ⟨rfl, .goto t, by rw [hz]; exact (hIx _).putObj _ hp.2 (by omega) zl rfl, zl', zk'⟩, kk⟩
  | panic ch => exact hp.elim
  | outgrown => exact hp.elim
 ·-- behind the iterator
  rintro e W2 ⟨⟨v, rfl⟩, (⟨xs, hS, hi, hl, hk⟩ | ⟨pre, hSp, c, hi, hl, hk⟩)⟩
  ·exact ⟨none, _, run_endLoop hl (by simp [rc]), hdone _ xs _ (Nat.le_refl _) hS (hI.putObj _ hi (by omega) hl rfl) ((World.putObj_heap_other (by omega)).trans hk)⟩
  ·exact ⟨some c, _, run_endLoop hl (by simp [rc]), hstop _ c pre _ (Nat.le_refl _) hSp ((hIx c).putObj _ hi (by omega) hl rfl) ((World.putObj_heap_other (by omega)).trans hk)⟩
/-- The loads' slice reads as it read. -/
structure FixA (A : Option Addr) (n : Nat) (ls : List Six) (W W' : World) : Prop where
 size : W.heap.size ≤ W'.heap.size
 arr : Arr scells 6 W A n ls → Arr scells 6 W' A n ls
theorem FixA.refl (A : Option Addr) (n : Nat) (ls : List Six) (W : World) : FixA A n ls W W := ⟨Nat.le_refl _, id⟩
theorem FixA.trans {A : Option Addr} {n : Nat} {ls : List Six} {W W' W'' : World} (h : FixA A n ls W W') (k : FixA A n ls W' W'') : FixA A n ls W W'' := ⟨Nat.le_trans h.size k.size, fun a => k.arr (h.arr a)⟩
theorem FixA.alloc (A : Option Addr) (n : Nat) (ls : List Six) (W : World) (o : Obj) : FixA A n ls W (W.alloc o) := ⟨by simp, fun a => a.below (one_more W o)⟩
theorem FixA.of_below {A : Option Addr} {n : Nat} {ls : List Six} {W W' : World} (h : Below W.heap.size W W') : FixA A n ls W W' := ⟨h.size, fun a => a.below h⟩
theorem FixA.putObj {A : Option Addr} {n : Nat} {ls : List Six} {W : World} {l : Nat} {o : Obj} (ho : W.heap[l]? = some o) (hc : o.isCells = false) (o' : Obj) : FixA A n ls W (W.putObj l o') :=
 ⟨by simp, fun a => ⟨a.1, fun hn => by
  obtain ⟨b, o1, rfl, hlt, hh⟩ := a.2 hn
  refine ⟨b, o1, rfl, by simpa using hlt, fun i x hx j u hu => ?_⟩
  have hcell := hh i x hx j u hu
  have hne : b ≠ l := fun e => by
   subst e
   rw [show W.cell? ⟨b, o1 + i * 6 + j, none⟩ = none by
    cases o with
    | cells a b c => cases hc
    | _ => simp [World.cell?, ho]] at hcell
   cases hcell
  exact (World.cell?_of_block (a := ⟨b, o1 + i * 6 + j, none⟩) (World.putObj_heap_other (by omega))).trans hcell⟩⟩
theorem FixU.fixA {B bw bs : Nat} {W W' : World} {A : Option Addr} {n : Nat} {ls : List Six} (h : FixU B bw bs W W') (hd : ∀ b o, A = some ⟨b, o, none⟩ → 0 < n → b ≠ bw ∧ b ≠ bs ∧ b < B) : FixA A n ls W W' := ⟨h.size, fun a => h.arr a hd⟩
attribute [local go_sem] Oper.semAt_some
set_option maxRecDepth 100000 in
set_option maxHeartbeats 4000000 in
theorem carted_stopsA (m : Nat) (W0 : World) (bq bf : Nat) (A : Option Addr) (n c : Nat) (ls : List Six)
  (hq : W0.cell? ⟨bq, 0, none⟩ = some (.pointer (some ⟨bf, 0, none⟩))) (hf : W0.cell? ⟨bf, 2, none⟩ = some (.slice A n c)) (ha : Arr scells 6 W0 A n ls) (hn : n ≤ 1000000) :
  SeqStopsK Fence.wide m Tryz.prog 202 #[.pointer (some ⟨bq, 0, none⟩)] (encC n ls) (FixA A n ls)
   (fun l => l.map (·.1) = List.range n) (fun l => l.map (·.1) = List.range l.length) (n + 1) W0 := by
 intro l J Jx W hW hJ hJx hY hJ0
 refine callsIn_of_wp Tryz.func202 rfl trivial ?_ rfl
 simp only [Tryz.ntmps202, List.size_toArray, List.length_cons, List.length_nil, Nat.reduceAdd, Nat.reduceSub, Array.replicate_succ, Array.replicate_zero, List.push_toArray, List.append_toArray, List.nil_append, List.cons_append]
 have hq := (hW.cell (p := ⟨bq, 0, none⟩) (World.block_lt_of_cell? W0 _ hq)).trans hq
 have hf := (hW.cell (p := ⟨bf, 2, none⟩) (World.block_lt_of_cell? W0 _ hf)).trans hf
 have HAW := Lib.hid (ha.below hW)
 have HJ := Lib.hid hJ
 have HY := Lib.hid hY
 clear hJ hJx hY hW ha
 gi_wp2
 gi_loopw [10] (fun i wr => ∃ (k : Nat) (pre : List (Cx n)), i = .int .i64 k ∧ k ≤ n ∧ FixA A n ls W wr ∧ J pre wr ∧ pre.map (·.1) = List.range k) (fun i _ => n - (intOf i).toNat)
 case atStart => exact ⟨0, [], rfl, Nat.zero_le _, FixA.refl _ _ _ _, hJ0, rfl⟩
 case round =>
  obtain ⟨k, pre, rfl, hk, hfix, hj, hpre⟩ := hrel
  have HP := Lib.hid hpre
  have hpl : pre.length = k := by
   have := congrArg List.length hpre
   rw [List.length_map, List.length_range] at this
   exact this
  have HPL := Lib.hid hpl
  have HFX := Lib.hid hfix
  have HAr := Lib.hid (hfix.arr HAW.out)
  clear hpre hpl hfix
  by_cases hkn : k < n
  ·obtain ⟨b0, o0, e0, -, -, hc⟩ := six_at HAr.out hkn
   obtain ⟨x0, x1, x2, x3, x4, x5⟩ := hc _ (Below.refl _ _)
   obtain ⟨x, hxg⟩ : ∃ x, ls.getD k z6 = x := ⟨_, rfl⟩
   rw [hxg] at x0 x1 x2 x3 x4 x5
   subst e0
   obtain ⟨W1, hW1⟩ : ∃ W1, wr.alloc (.cells #[.int .i64 x.a, .int .i64 x.b, .int .i64 x.c, .int .i64 x.d, .int .i64 x.e, .int .i64 x.f] 103) = W1 := ⟨_, rfl⟩
   have b1 : Blk W1 wr.heap.size 103 #[.int .i64 x.a, .int .i64 x.b, .int .i64 x.c, .int .i64 x.d, .int .i64 x.e, .int .i64 x.f] := by rw [← hW1]; exact Blk.new _ _ _
   have hj1 : J pre W1 := by rw [← hW1]; exact HJ.out pre wr _ none hj (World.grownBy_alloc wr _ none) (fun r e => by cases e)
   have f1 : FixA (some ⟨b0, o0, none⟩) n ls wr W1 := by rw [← hW1]; exact FixA.alloc _ _ _ _ _
   obtain ⟨fn, tmps, assign, body, hy, hR⟩ := HY.out pre ⟨k, hkn⟩ W1 hj1 (by rw [HPL.out]; omega)
   have w0 := b1.cell 0
   have w1 := b1.cell 1
   have w2 := b1.cell 2
   have w3 := b1.cell 3
   have w4 := b1.cell 4
   have w5 := b1.cell 5
   unfold encC at hy
   dsimp only at hy
   rw [hxg] at hy
   clear hc hxg b1
   gi_wp2
   refine ⟨fun h => (by simp [Fence.wide] at h), hR.mono ?_⟩
   rintro e W' (⟨rfl, hJ', hk'⟩ | ⟨rfl, hJx'⟩)
   ·have Hfx := Lib.hid (HFX.out.trans (f1.trans hk'))
    clear hR hk' hj1 hy f1 hW1
    gi_wp2
    go_roundw
    case rel => exact ⟨k + 1, pre ++ [⟨k, hkn⟩], by go_num, by omega, Hfx.out, hJ', by rw [List.map_append, HP.out, List.range_succ]; rfl⟩
    case measure => simp [intOf]; omega
   ·clear hR hj1 hy f1 hW1
    gi_wp2
    refine bodyPost_ret (results_none rfl _ _ _) rfl ?_
    exact ⟨⟨_, rfl⟩, .inr ⟨_, by rw [List.map_append, HP.out, List.length_append, HPL.out, List.length_singleton, List.range_succ]; rfl, hJx'⟩⟩
  ·obtain rfl : k = n := by omega
   gi_wp2
   go_end0
   exact ⟨⟨_, rfl⟩, .inl ⟨pre, HP.out, hj⟩⟩
end Go.Proofs.YtkoejeghihcmlaaGreat
namespace Go.Proofs.YtkoejeghihcmlaaGreat
open Go.RowKit Go.Shelf
attribute [local go_sem] Oper.semAt_some
/-- The last load of its hour. -/
def lastB (ls : List Six) (i : Nat) : Bool := decide (i + 1 = ls.length) || decide ((ls.getD i z6).b < (ls.getD (i + 1) z6).b)
def endsOf (ls : List Six) (l : List Nat) : List (Nat × Int) := (0, 0) :: (l.filter (lastB ls)).map fun i => (i + 1, (ls.getD i z6).b)
/-- How many were carted at the start, and after each hour that has some. -/
def endsL (ls : List Six) : List (Nat × Int) := endsOf ls (List.range ls.length)
theorem endsOf_snoc (ls : List Six) (l : List Nat) (i : Nat) : endsOf ls (l ++ [i]) = endsOf ls l ++ (if lastB ls i = true then [(i + 1, (ls.getD i z6).b)] else []) := by
 unfold endsOf
 rw [List.filter_append, List.map_append, List.cons_append, List.filter_cons]
 by_cases h : lastB ls i = true
 ·rw [if_pos h, if_pos h]; rfl
 ·rw [if_neg h, if_neg h]; rfl
theorem endsOf_prefix (ls : List Six) {k : Nat} (hk : k ≤ ls.length) : endsOf ls (List.range k) <+: endsL ls := by
 obtain ⟨m, hm⟩ : ∃ m, ls.length = k + m := ⟨ls.length - k, by omega⟩
 unfold endsL
 rw [hm, List.range_add]
 unfold endsOf
 rw [List.filter_append, List.map_append]
 exact ⟨_, rfl⟩
theorem endsOf_len (ls : List Six) (l : List Nat) : (endsOf ls l).length ≤ l.length + 1 := by
 unfold endsOf
 rw [List.length_cons, List.length_map]
 have := List.length_filter_le (lastB ls) l
 omega
/-- What an end can be. -/
def GE (ls : List Six) (x : Nat × Int) : Prop := x = (0, 0) ∨ ∃ i, i < ls.length ∧ x = (i + 1, (ls.getD i z6).b)
def encE (x : Nat × Int) : Array Value := #[.int .i64 x.1, .int .i64 x.2]
theorem roundAny {m m' l : Nat} {f : FuncId} {tmps : Array Value} {assign body : Code} {w : World} {R : Ending → World → Prop} (h : RoundIn Fence.wide m Tryz.prog l f tmps assign body w R) : RoundIn Fence.wide m' Tryz.prog l f tmps assign body w R :=
 ⟨h.1, fun c cs _ => h.2 c cs (fun d hd => by cases hd)⟩
set_option maxRecDepth 100000 in
set_option maxHeartbeats 4000000 in
theorem ends_seq (m : Nat) (hm1 : 1 ≤ m) (W0 : World) (B bq bf bw bs : Nat) (A : Option Addr) (n c : Nat) (ls : List Six) (hq : W0.cell? ⟨bq, 0, none⟩ = some (.pointer (some ⟨bf, 0, none⟩))) (hf : W0.cell? ⟨bf, 2, none⟩ = some (.slice A n c)) (ha : Arr scells 6 W0 A n ls) (hn : n ≤ 1000)
  (hqd : bq ≠ bw ∧ bq ≠ bs ∧ bq < B) (hfd : bf ≠ bw ∧ bf ≠ bs ∧ bf < B) (hwl : bw < W0.heap.size) (hsl : bs < W0.heap.size) (hd : ∀ b o, A = some ⟨b, o, none⟩ → 0 < n → b ≠ bw ∧ b ≠ bs ∧ b < B) :
  SeqO m 194 #[.pointer (some ⟨bq, 0, none⟩)] encE (GE ls) (FixU B bw bs) (fun xs => xs = endsL ls) (fun pre => pre <+: endsL ls) (n + 2) W0 := by
 intro l J Jx W hW hJ hJx hY hJ0
 have hln := ha.1
 refine callsIn_of_wp_marks Tryz.func194 rfl trivial ?_ rfl
 simp only [Tryz.ntmps194, List.size_toArray, List.length_cons, List.length_nil, Nat.reduceAdd, Nat.reduceSub, Array.replicate_succ, Array.replicate_zero, List.push_toArray, List.append_toArray, List.nil_append, List.cons_append]
 have hq' := (hW.cell (p := ⟨bq, 0, none⟩) (World.block_lt_of_cell? W0 _ hq)).trans hq
 have hf' := (hW.cell (p := ⟨bf, 2, none⟩) (World.block_lt_of_cell? W0 _ hf)).trans hf
 have HAW := Lib.hid (ha.below hW)
 have HJ := Lib.hid hJ
 have HJx := Lib.hid hJx
 have HY := Lib.hid hY
 have HD := Lib.hid hd
 have hWs := hW.size
 obtain ⟨W1, hW1⟩ : ∃ W1, W.alloc (.cells #[.func (.yield l) #[] #[]] 139) = W1 := ⟨_, rfl⟩
 have b1 : Blk W1 W.heap.size 139 #[.func (.yield l) #[] #[]] := by rw [← hW1]; exact Blk.new _ _ _
 have g1 : Below W.heap.size W W1 := by rw [← hW1]; exact one_more _ _
 have j1 : J [] W1 := by rw [← hW1]; exact hJ.alloc _ hJ0
 obtain ⟨fn, tmps, assign, body, hy, hR⟩ := hY [] (0, 0) W1 j1 (by simp) (.inl rfl)
 unfold encE at hy
 dsimp only at hy
 rw [show ((0 : Nat) : Int) = 0 from rfl] at hy
 have c1 := b1.cell 0
 have B1 := Lib.hid b1
 have G1 := Lib.hid g1
 clear hJ hJx hY hW ha hd b1 g1 j1 hq hf
 have hb139 : W.heap.size < W1.heap.size := B1.out.lt
 gi_wp2
 refine hR.mono ?_
 rintro e W2 ⟨⟨rfl, hj2, hk2⟩ | ⟨rfl, hx2⟩, hkf⟩
 ·have FU2 := Lib.hid ((FixU.of_below (B := B) (bw := bw) (bs := bs) G1.out).trans hk2)
  have b2 := hk2.blk B1.out (by omega) (by omega) (.inr (by decide))
  have r2 := FU2.out.cell hq' hqd.1 hqd.2.1 hqd.2.2
  have hj2' : J (endsOf ls []) W2 := hj2
  have HJ2 := Lib.hid hj2'
  have B2 := Lib.hid b2
  clear hR hy hj2 hj2' hkf hk2 b2 c1
  gi_wp2_with fail
  refine ⟨trivial, (callsIn_wide.2 (carted_any _ _)).mono ?_⟩
  rintro e W3 ⟨rfl, hw3⟩
  have g3 : Below W2.heap.size W2 W3 := by rw [← hw3]; exact one_more _ _
  have b3 : Blk W3 W2.heap.size 134 #[.pointer (some ⟨bf, 0, none⟩)] := by rw [← hw3]; exact Blk.new _ _ _
  have j3 : J (endsOf ls []) W3 := by rw [← hw3]; exact HJ.out.alloc _ HJ2.out
  have FU3 := Lib.hid (FU2.out.trans (FixU.of_below g3))
  have f3 := FU3.out.cell hf' hfd.1 hfd.2.1 hfd.2.2
  have q3 := FU3.out.cell hq' hqd.1 hqd.2.1 hqd.2.2
  have B3 := Lib.hid (B2.out.ext g3)
  have hA3 : Arr scells 6 W3 A n ls := FU3.out.arr HAW.out HD.out
  have HA3 := Lib.hid hA3
  have hW3s : W.heap.size < W3.heap.size := by have := B3.out.lt; exact this
  have HSQ := Lib.hid (carted_stopsA (m - 1) W3 W2.heap.size bf A n c ls (b3.cell 0) f3 hA3 (by omega))
  have HJ3 := Lib.hid j3
  clear g3 b3 j3 hw3 hA3
  obtain ⟨b4, hb4⟩ : ∃ b4, W2.heap.size = b4 := ⟨_, rfl⟩
  rw [hb4] at HSQ ⊢
  gi_wp2_with fail
  refine wpIn_rangeFunc_ownH (α := Cx n) (F := Fence.wide) (n := m) rfl hm1 (gf := 202) (lb := #[.pointer (some ⟨b4, 0, none⟩)]) rfl trivial
   (enters_of Tryz.func202 (by kernel_rfl) rfl) HSQ.out (fun h k => FixA.trans h k) ?hKb (Below.refl _ _) (fun _ => rfl)
   (fun pre X => J (endsOf ls (pre.map (·.1))) X ∧ FixU B bw bs W3 X) (fun cd pre X => cd = .ret ∧ Jx (endsOf ls (pre.map (·.1))) X) ?hI ?hIx ?h0
   (fun x a' X => ∃ Bx, W3.heap.size ≤ Bx ∧ Blk X Bx 103 #[.int .i64 (ls.getD x.1 z6).a, .int .i64 (ls.getD x.1 z6).b, .int .i64 (ls.getD x.1 z6).c, .int .i64 (ls.getD x.1 z6).d, .int .i64 (ls.getD x.1 z6).e, .int .i64 (ls.getD x.1 z6).f] ∧
    a' = { tmps := #[.func (.yield l) #[] #[], .pointer (some ⟨bq, 0, none⟩), .pointer (some ⟨W.heap.size, 0, none⟩), .int .i64 x.1, .pointer (some ⟨Bx, 0, none⟩), undef, .func (.yield l) #[] #[], .bool true, .bool false, .pointer (some ⟨bf, 0, none⟩), .func (.func 202) #[] #[.pointer (some ⟨b4, 0, none⟩)], .int .i64 x.1, sv (ls.getD x.1 z6), undef, undef, undef, undef, undef, undef, undef, undef, undef, undef, undef, undef, undef, undef, undef, undef, undef, undef, undef, undef, undef, undef, undef, undef, undef, undef, undef, undef, undef, undef, undef, undef], defers := [] }) ?hAx ?assign ?body ?done ?stop
  case hKb =>
   intro Wb l' o o' hl ho hc _
   exact FixA.putObj ho hc _
  case hI =>
   rintro pre X Y row ⟨hj, hfx⟩ hg hr
   exact ⟨HJ.out _ _ _ _ hj hg (fun r e => ⟨by have := (hr r e).1; omega, (hr r e).2⟩), (FixU.own (α := Nat) (Nat.le_refl _)) [] _ _ _ hfx hg hr⟩
  case hIx =>
   rintro cd pre X Y row ⟨hc, hj⟩ hg hr
   exact ⟨hc, HJx.out _ _ _ _ hj hg (fun r e => ⟨by have := (hr r e).1; omega, (hr r e).2⟩)⟩
  case h0 => exact ⟨HJ3.out, FixU.refl _ _ _ _⟩
  case hAx =>
   rintro x a' _ X Y row ⟨Bx, h1, h2, h3⟩ hg hr
   exact ⟨Bx, h1, h2.own hg (fun r e => (hr r e).2), h3⟩
  case assign =>
   rintro l' pre x X K ⟨hj, hfx⟩ hK
   unfold encC
   gi_wp2
   refine hK _ _ ((KeepsOthers.alloc _ _).from _) (FixA.alloc _ _ _ _ _) ⟨HJ.out.alloc _ hj, hfx.trans (FixU.of_below (one_more _ _))⟩ ⟨X.heap.size, hfx.size, Blk.new _ _ _, rfl⟩
  case body =>
   rintro l' pre x a' X hl' - ⟨hj, hfx⟩ ⟨Bx, hBx, hB, rfl⟩ hpl
   have hq5 := hfx.cell q3 hqd.1 hqd.2.1 hqd.2.2
   have hf5 := hfx.cell f3 hfd.1 hfd.2.1 hfd.2.2
   have hA5 : Arr scells 6 X A n ls := hfx.arr HA3.out HD.out
   have hb5 : Blk X W.heap.size 139 #[.func (.yield l) #[] #[]] := hfx.blk B3.out (by omega) (by omega) (.inr (by decide))
   have hxn : x.1 < n := x.2
   have HE := Lib.hid (show endsOf ls ((pre ++ [x]).map (·.1)) = endsOf ls (pre.map (·.1)) ++ (if lastB ls x.1 = true then [(x.1 + 1, (ls.getD x.1 z6).b)] else []) by rw [List.map_append]; exact endsOf_snoc _ _ _)
   have HLB := Lib.hid (show lastB ls x.1 = (decide (x.1 + 1 = ls.length) || decide ((ls.getD x.1 z6).b < (ls.getD (x.1 + 1) z6).b)) from rfl)
   obtain ⟨xi, hxi⟩ : ∃ xi, x.1 = xi := ⟨_, rfl⟩
   rw [hxi] at hxn HE HLB hB ⊢
   obtain ⟨y, hy⟩ : ∃ y, ls.getD xi z6 = y := ⟨_, rfl⟩
   rw [hy] at HE HLB hB ⊢
   have c1 := hB.cell 1
   have hwr : IntKind.i64.wrap ((xi : Int) + 1) = (xi : Int) + 1 := wrap_succ xi (by omega)
   have HJX := Lib.hid hj
   have HFX := Lib.hid hfx
   have HB5 := Lib.hid hb5
   have HBX := Lib.hid hB
   have hplen := endsOf_len ls (pre.map (·.1))
   rw [List.length_map] at hplen
   have HPL := Lib.hid (show (endsOf ls (pre.map (·.1))).length < n + 2 by omega)
   have HGX := Lib.hid (show xi < ls.length ∧ (xi + 1, y.b) = (xi + 1, (ls.getD xi z6).b) from ⟨by omega, by rw [hy]⟩)
   clear hplen hpl hj hfx hb5 hB hy hxi
   by_cases hlast : xi + 1 = n
   case pos =>
    have hlb : lastB ls xi = true := by rw [HLB.out, decide_eq_true (by rw [hln]; exact hlast)]; rfl
    rw [hlb] at HE
    have e1 : decide ((xi : Int) + 1 = (n : Int)) = true := decide_eq_true (by omega)
    have e2 : ((xi : Int) + 1 == (n : Int)) = true := by simp; omega
    gi_wp2
    refine wpIn_region_quiet (Open.round l') (C := fun w' => ∃ n, w' = X.drewN n) (by kernel_rfl) (by kernel_rfl) (by kernel_rfl) ⟨1, rfl⟩ ?_
    repeat (go_big_quiet_step (fail))
    refine wpQuiet_nil ?_
    rintro _ ⟨d, rfl⟩
    have vj : J (endsOf ls (pre.map (·.1))) (X.drewN d) := HJ.out _ _ _ none HJX.out ⟨rfl, rfl, rfl, Nat.le_refl _, fun _ _ _ => rfl⟩ (fun r e => by cases e)
    have vf : FixU B bw bs X (X.drewN d) := ⟨Nat.le_refl _, fun _ _ _ _ _ => rfl⟩
    have vk : KeepsFrom W3.heap.size X (X.drewN d) := ⟨Nat.le_refl _, fun _ _ _ h _ => h⟩
    have vy := HB5.out.drewN d
    have vb := HBX.out.drewN d
    generalize X.drewN d = V at vj vf vk vy vb ⊢
    have HVF := Lib.hid vf
    have HVK := Lib.hid vk
    have r0 := vy.cell 0
    have r1 := vb.cell 1
    obtain ⟨fn2, tmps2, assign2, body2, hy2, hR2⟩ := HY.out _ (xi + 1, y.b) V vj HPL.out (.inr ⟨xi, HGX.out.1, HGX.out.2⟩)
    unfold encE at hy2
    dsimp only at hy2
    rw [show ((xi + 1 : Nat) : Int) = (xi : Int) + 1 from rfl] at hy2
    clear vj vf vk vy vb
    gi_wp2
    refine ⟨fun h => (by simp [Fence.wide] at h), (roundAny hR2).mono ?_⟩
    rintro e V2 ⟨⟨rfl, hj2, hk2⟩ | ⟨rfl, hx2⟩, hkf⟩
    ·have K1 := Lib.hid hj2
     have K2 := Lib.hid hk2
     have K3 := Lib.hid (HVK.out.trans (keeps_mono hkf (by omega)))
     clear hR2 hy2 hj2 hk2 hkf
     gi_wp2
     refine ⟨K3.out, (HVF.out.trans K2.out).fixA HD.out, ?_, HFX.out.trans (HVF.out.trans K2.out)⟩
     rw [HE.out]
     exact K1.out
    ·have K1 := Lib.hid hx2
     have K3 := Lib.hid (HVK.out.trans (keeps_mono hkf (by omega)))
     clear hR2 hy2 hx2 hkf
     gi_wp2
     refine ⟨K3.out, rfl, ?_⟩
     rw [HE.out]
     exact K1.out
   case neg =>
    obtain ⟨b0, o0, e0, -, -, hc⟩ := six_at hA5 (show xi + 1 < n by omega)
    obtain ⟨x0, x1, x2, x3, x4, x5⟩ := hc _ (Below.refl _ _)
    subst e0
    have e1 : decide ((xi : Int) + 1 = (n : Int)) = false := decide_eq_false (by omega)
    have e2 : ((xi : Int) + 1 == (n : Int)) = false := by simp; omega
    have hxi0 : (0 : Int) ≤ (xi : Int) + 1 := by omega
    have hxi2 : (xi : Int) + 1 < (n : Int) := by omega
    have hxi3 : ((xi : Int) + 1).toNat = xi + 1 := by omega
    have hlnn : decide (xi + 1 = ls.length) = false := decide_eq_false (by rw [hln]; exact hlast)
    rw [hlnn] at HLB
    obtain ⟨y2, hy2⟩ : ∃ y2, ls.getD (xi + 1) z6 = y2 := ⟨_, rfl⟩
    rw [hy2] at HLB x0 x1 x2 x3 x4 x5
    clear hc hy2 hlnn
    by_cases hlt : y.b < y2.b
    case neg =>
     have hlb : lastB ls xi = false := by rw [HLB.out, decide_eq_false hlt]; rfl
     rw [hlb] at HE
     have e3 : decide (y.b < y2.b) = false := decide_eq_false hlt
     gi_wp2
     refine wpIn_region_quiet (Open.round l') (C := fun w' => ∃ n, w' = X.drewN n) (by kernel_rfl) (by kernel_rfl) (by kernel_rfl) ⟨1, rfl⟩ ?_
     repeat (go_big_quiet_step (fail))
     refine wpQuiet_nil ?_
     rintro _ ⟨d, rfl⟩
     have vj : J (endsOf ls (pre.map (·.1))) (X.drewN d) := HJ.out _ _ _ none HJX.out ⟨rfl, rfl, rfl, Nat.le_refl _, fun _ _ _ => rfl⟩ (fun r e => by cases e)
     have vf : FixU B bw bs X (X.drewN d) := ⟨Nat.le_refl _, fun _ _ _ _ _ => rfl⟩
     have vk : KeepsFrom W3.heap.size X (X.drewN d) := ⟨Nat.le_refl _, fun _ _ _ h _ => h⟩
     have vy := HB5.out.drewN d
     have vb := HBX.out.drewN d
     generalize X.drewN d = V at vj vf vk vy vb ⊢
     have HVF := Lib.hid vf
     have HVK := Lib.hid vk
     have HVJ := Lib.hid vj
     clear vj vf vk vy vb
     gi_wp2
     refine ⟨fun _ h => (by cases h), ?_⟩
     gi_wp2
     refine ⟨HVK.out, HVF.out.fixA HD.out, ?_, HFX.out.trans HVF.out⟩
     rw [HE.out]
     exact (List.append_nil _).symm ▸ HVJ.out
    case pos =>
     have hlb : lastB ls xi = true := by rw [HLB.out, decide_eq_true hlt]; rfl
     rw [hlb] at HE
     have e3 : decide (y.b < y2.b) = true := decide_eq_true hlt
     gi_wp2
     refine wpIn_region_quiet (Open.round l') (C := fun w' => ∃ n, w' = X.drewN n) (by kernel_rfl) (by kernel_rfl) (by kernel_rfl) ⟨1, rfl⟩ ?_
     repeat (go_big_quiet_step (fail))
     refine wpQuiet_nil ?_
     rintro _ ⟨d, rfl⟩
     have vj : J (endsOf ls (pre.map (·.1))) (X.drewN d) := HJ.out _ _ _ none HJX.out ⟨rfl, rfl, rfl, Nat.le_refl _, fun _ _ _ => rfl⟩ (fun r e => by cases e)
     have vf : FixU B bw bs X (X.drewN d) := ⟨Nat.le_refl _, fun _ _ _ _ _ => rfl⟩
     have vk : KeepsFrom W3.heap.size X (X.drewN d) := ⟨Nat.le_refl _, fun _ _ _ h _ => h⟩
     have vy := HB5.out.drewN d
     have vb := HBX.out.drewN d
     generalize X.drewN d = V at vj vf vk vy vb ⊢
     have HVF := Lib.hid vf
     have HVK := Lib.hid vk
     have r0 := vy.cell 0
     have r1 := vb.cell 1
     obtain ⟨fn2, tmps2, assign2, body2, hy2, hR2⟩ := HY.out _ (xi + 1, y.b) V vj HPL.out (.inr ⟨xi, HGX.out.1, HGX.out.2⟩)
     unfold encE at hy2
     dsimp only at hy2
     rw [show ((xi + 1 : Nat) : Int) = (xi : Int) + 1 from rfl] at hy2
     clear vj vf vk vy vb
     gi_wp2
     refine ⟨fun h => (by simp [Fence.wide] at h), (roundAny hR2).mono ?_⟩
     rintro e V2 ⟨⟨rfl, hj2, hk2⟩ | ⟨rfl, hx2⟩, hkf⟩
     ·have K1 := Lib.hid hj2
      have K2 := Lib.hid hk2
      have K3 := Lib.hid (HVK.out.trans (keeps_mono hkf (by omega)))
      clear hR2 hy2 hj2 hk2 hkf
      gi_wp2
      refine ⟨K3.out, (HVF.out.trans K2.out).fixA HD.out, ?_, HFX.out.trans (HVF.out.trans K2.out)⟩
      rw [HE.out]
      exact K1.out
     ·have K1 := Lib.hid hx2
      have K3 := Lib.hid (HVK.out.trans (keeps_mono hkf (by omega)))
      clear hR2 hy2 hx2 hkf
      gi_wp2
      refine ⟨K3.out, rfl, ?_⟩
      rw [HE.out]
      exact K1.out
  case done =>
   rintro D xs X hD hS ⟨hj, hfx⟩ hK
   rw [hS, ← hln] at hj
   have HXJ := Lib.hid hj
   have HK := Lib.hid hK
   clear hj hfx
   gi_wp2
   refine ⟨by simp, .inl ⟨_, _, rfl, run_takeDeferred hK, ?_⟩⟩
   refine ⟨_, results_none rfl _ _ _, ⟨_, rfl⟩, .inl ⟨_, rfl, HJ.out _ _ _ (some D) HXJ.out (grownBy_putObj' _ _ _) (fun r e => by cases e; exact ⟨by omega, _, hK, rfl⟩)⟩⟩
  case stop =>
   rintro D cd pre X hD hS ⟨rfl, hj⟩ hK
   have hlp : pre.length ≤ n := by
    refine Nat.le_of_not_lt fun hlt => ?_
    have hmem : n ∈ pre.map (·.1) := by rw [hS]; exact List.mem_range.2 hlt
    obtain ⟨x, -, hx⟩ := List.mem_map.1 hmem
    have := x.2
    omega
   gi_wp2
   refine ⟨by simp, .inl ⟨_, _, rfl, run_takeDeferred hK, ?_⟩⟩
   refine ⟨_, results_none rfl _ _ _, ⟨_, rfl⟩, .inr ⟨_, ?_, HJx.out _ _ _ (some D) hj (grownBy_putObj' _ _ _) (fun r e => by cases e; exact ⟨by omega, _, hK, rfl⟩)⟩⟩
   rw [hS]
   exact endsOf_prefix ls (by omega)
 ·have HX2 := Lib.hid hx2
  clear hR hx2 hkf hy
  gi_wp2
  exact ⟨_, results_none rfl _ _ _, ⟨_, rfl⟩, .inr ⟨_, endsOf_prefix ls (k := 0) (Nat.zero_le _), HX2.out⟩⟩
theorem ends_any (a : Option Addr) (w : World) :
  Calls Tryz.prog 123 #[.pointer a] w fun e w' => e = .returned (.func (.func 194) #[] #[.pointer (some ⟨w.heap.size, 0, none⟩)]) ∧ w.alloc (.cells #[.pointer a] 134) = w' := by
 go_enter Tryz.func123, Tryz.ntmps123
 go_wp2
 go_ret
 exact ⟨rfl, rfl⟩
end Go.Proofs.YtkoejeghihcmlaaGreat

namespace Go.Proofs.YtkoejeghihcmlaaGreat
open Go.RowKit Go.Shelf
/-- The contract of such an iterator. -/
def SeqP {α : Type} (m : Nat) (g : Nat) (lb : Array Value) (encs : α → Array Value) (G : List α → α → Prop) (Kp : World → World → Prop) (S Sp : List α → Prop) (N : Nat) (w : World) : Prop :=
 ∀ (l : Nat) (J Jx : List α → World → Prop) (W : World), Below w.heap.size w W → OwnFrom W.heap.size J → OwnFrom W.heap.size Jx →
  (∀ pre x W1, J pre W1 → pre.length < N → G pre x → YieldAt Fence.wide (m - 1) Tryz.prog l (encs x) W1 fun e W' =>
   ((e = .returned (.bool true) ∧ J (pre ++ [x]) W' ∧ Kp W1 W') ∨ (e = .returned (.bool false) ∧ Jx (pre ++ [x]) W')) ∧ KeepsFrom W.heap.size W1 W') →
  J [] W →
  CallsIn Fence.wide m Tryz.prog g (#[.func (.yield l) #[] #[]] ++ lb) W fun e W' => (∃ v, e = .returned v) ∧ ((∃ xs, S xs ∧ J xs W') ∨ (∃ pre, Sp pre ∧ Jx pre W'))
set_option maxHeartbeats 1000000 in
/-- The law of a range over it, at the wide fence, in no round. -/
theorem wp_rangeP {α : Type} {n : Nat} {g : Operand} {ps : Array Tmp} {assign body : Code} {Q : Exit → Act → World → Prop} {a : Act} {w : World}
  (h1 : 1 ≤ n) {gf : Nat} {lb : Array Value} (hg : a.eval g = .func (.func gf) #[] lb) (eg : ∀ args w, (callFunc gf args).run Tryz.prog w = .ok (.enter gf args) w)
  {encs : α → Array Value} {G : List α → α → Prop} {B bw bs : Nat} {S Sp : List α → Prop} {N : Nat} {w0 : World} (hseq : SeqP (n - 1) gf lb encs G (FixU B bw bs) S Sp N w0)
  (hb0 : Below w0.heap.size w0 w) (hps : ∀ x, (encs x).size = ps.size)
  (I : List α → World → Prop) (Ix : Code → List α → World → Prop) (hI : OwnFrom w.heap.size I) (hIx : ∀ c, OwnFrom w.heap.size (Ix c)) (h0 : I [] w) (Ax : α → Act → World → Prop) (hAx : ∀ x a', OwnFrom w.heap.size (fun (_ : Unit) W => Ax x a' W))
  (hassign : ∀ (l : Nat) (pre : List α) (x : α) (W : World) (K : Act → World → Prop), I pre W → (∀ a' W', KeepsFrom w.heap.size W W' → FixU B bw bs W W' → I pre W' → Ax x a' W' → K a' W') →
   assign.wpIn (Fence.wide.inRound l) (n - 1 - 1) Tryz.prog (Exit.then K (fun _ _ _ => False)) { tmps := (ps.zip (encs x)).foldl (fun t (p, v) => t.setIfInBounds p v) a.tmps, defers := [] } W)
  (hbody : ∀ (l : Nat) (pre : List α) (x : α) (a' : Act) (W : World), w.heap.size ≤ l → (∃ r, W.heap[l]? = some (.loop r)) → I pre W → Ax x a' W → pre.length < N → G pre x → body.wpIn (Fence.wide.inRound l) (n - 1 - 1) Tryz.prog (ownPostG w.heap.size (FixU B bw bs) I Ix (pre ++ [x]) W) a' W)
  (hdone : ∀ (D : Nat) (xs : List α) (W : World), w.heap.size ≤ D → S xs → I xs W → W.heap[D]? = some (.deferred (some [])) → Q .normal { a with defers := { target := .collected D, args := #[] } :: a.defers } W)
  (hstop : ∀ (D : Nat) (c : Code) (pre : List α) (W : World), w.heap.size ≤ D → Sp pre → Ix c pre W → W.heap[D]? = some (.deferred (some [])) → c.wpIn Fence.wide n Tryz.prog Q { a with defers := { target := .collected D, args := #[] } :: a.defers } W) :
  (Code.rangeFunc g ps assign body).wpIn Fence.wide n Tryz.prog Q a w := by
 refine wpIn_rangeFunc fun fn hfn => ?_
 rw [show Fence.wide.round = none from rfl]
 -- the loop's record, in a state
 let rc : LoopState → Option Code → Loop := fun st pe => { state := st, pending := pe, fn, tmps := a.tmps, params := ps, assign, body, defers := w.heap.size }
 obtain ⟨V, hV⟩ : ∃ V, (w.alloc (.deferred (some []))).alloc (.loop (rc .ready none)) = V := ⟨_, rfl⟩
 have hVs : V.heap.size = w.heap.size + 2 := by rw [← hV]; simp
 have vl : V.heap[w.heap.size + 1]? = some (.loop (rc .ready none)) := by
  rw [← hV]; have := World.alloc_heap_new (w.alloc (.deferred (some []))) (.loop (rc .ready none)); rwa [World.size_alloc] at this
 have vk : V.heap[w.heap.size]? = some (.deferred (some [])) := by rw [← hV]; exact (Below.heap_alloc _ _ _ (by simp)).trans (World.alloc_heap_new w _)
 have vi : I [] V := by rw [← hV]; exact hI.alloc _ (hI.alloc _ h0)
 have vb : Below w0.heap.size w0 V := by rw [← hV]; exact hb0.trans ((two_more w _ _).mono hb0.size)
 refine ⟨w.heap.size + 1, [{ target := .collected w.heap.size, args := #[] }], V, { target := .fn (.func gf) lb, args := #[.func (.yield (w.heap.size + 1)) #[] #[]] }, V, gf, #[.func (.yield (w.heap.size + 1)) #[] #[]] ++ lb, V,
  by rw [← hV]; exact run_enterLoop_outer _ _ _ _ _, by (simp only [resolve, hg]; simp [go_sem]), fun f' hf' => trivial, by simp [invoke, go_sem, eg], fun _ => h1, ?_⟩
 have own : ∀ {s : List α} {A B : World} {row : Option Nat} {st : LoopState} {pe : Option Code} {T : List α → World → Prop}, OwnFrom w.heap.size T → (T s A ∧ A.heap[w.heap.size + 1]? = some (.loop (rc st pe)) ∧ A.heap[w.heap.size]? = some (.deferred (some []))) →
   A.grownBy B row → (∀ r, row = some r → V.heap.size ≤ r ∧ ∃ o : Obj, A.heap[r]? = some o ∧ o.isCells = false) → (T s B ∧ B.heap[w.heap.size + 1]? = some (.loop (rc st pe)) ∧ B.heap[w.heap.size]? = some (.deferred (some []))) :=
  fun hT ht hgr hr => ⟨hT _ _ _ _ ht.1 hgr (fun r e => ⟨by have := (hr r e).1; omega, (hr r e).2⟩), grown_lt hgr ht.2.1 (B := V.heap.size) (by omega) (fun r e => (hr r e).1), grown_lt hgr ht.2.2 (B := V.heap.size) (by omega) (fun r e => (hr r e).1)⟩
 refine (hseq (w.heap.size + 1)
  (fun pre W => I pre W ∧ W.heap[w.heap.size + 1]? = some (.loop (rc .ready none)) ∧ W.heap[w.heap.size]? = some (.deferred (some [])))
  (fun pre W => ∃ c, Ix c pre W ∧ W.heap[w.heap.size + 1]? = some (.loop (rc .done (some c))) ∧ W.heap[w.heap.size]? = some (.deferred (some [])))
  V vb (fun s A B row hs hgr hr => own hI hs hgr hr) (fun s A B row ⟨c, hs⟩ hgr hr => ⟨c, own (hIx c) hs hgr hr⟩) ?_ ⟨vi, vl, vk⟩).mono ?_
 ·-- one round
  rintro pre x W ⟨hi, hl, hk⟩ hlen hG
  refine ⟨fn, _, assign, body, run_yield hl (hps x), roundIn_of_wpIn hfn (hassign _ pre x W _ hi ?_)⟩
  intro a' X kf kp xi xa
  have xl := kf.same _ _ (by omega) hl rfl
  have xk := kf.same _ _ (Nat.le_refl _) hk rfl
  have xlt := (Array.getElem?_eq_some_iff.1 xl).1
  refine ⟨_, run_beginRound xl rfl, ?_⟩
  obtain ⟨Y, hY⟩ : ∃ Y, X.putObj (w.heap.size + 1) (.loop { rc .ready none with state := .busy }) = Y := ⟨_, rfl⟩
  have yl : Y.heap[w.heap.size + 1]? = some (.loop { rc .ready none with state := .busy }) := by rw [← hY]; exact World.putObj_heap_same xlt
  have yk : Y.heap[w.heap.size]? = some (.deferred (some [])) := by rw [← hY]; exact (World.putObj_heap_other (by omega)).trans xk
  have yi : I pre Y := by rw [← hY]; exact hI.putObj _ xi (by omega) xl rfl
  have ya : Ax x a' Y := by rw [← hY]; exact (hAx x a').putObj (s := ()) _ xa (by omega) xl rfl
  have ykf : KeepsFrom V.heap.size W Y := by rw [← hY]; exact (keeps_mono kf (by omega)).trans (keeps_put _ _ (by omega))
  rw [hY]
  refine wpIn_mono (hbody _ pre x a' Y (by omega) ⟨_, yl⟩ yi ya hlen hG) ?_
  have fin : ∀ (jump : Option Code) (Z : World), KeepsFrom w.heap.size Y Z →
    ∃ Z', (Instr.endRound (w.heap.size + 1) jump).run Tryz.prog Z = .ok (.bool jump.isNone) Z' ∧ Z' = Z.putObj (w.heap.size + 1) (.loop (rc (if jump.isNone then .ready else .done) jump)) ∧ Z.heap[w.heap.size + 1]? = some (.loop { rc .ready none with state := .busy }) ∧
     Z'.heap[w.heap.size + 1]? = some (.loop (rc (if jump.isNone then .ready else .done) jump)) ∧ Z'.heap[w.heap.size]? = some (.deferred (some [])) ∧ KeepsFrom V.heap.size W Z' := fun jump Z kz => by
   have zl := kz.same _ _ (by omega) yl rfl
   refine ⟨_, run_endRound jump zl, rfl, zl, World.putObj_heap_same (Array.getElem?_eq_some_iff.1 zl).1, (World.putObj_heap_other (by omega)).trans (kz.same _ _ (Nat.le_refl _) yk rfl), (ykf.trans (keeps_mono kz (by omega))).trans (keeps_put _ _ (by omega))⟩
  rintro e a3 Z hp
  cases e with
  | normal =>
   obtain ⟨Z', hr, hz, zl, zl', zk', kk⟩ := fin none Z hp.1
   refine ⟨_, _, hr, .inl ⟨rfl, ⟨?_, zl', zk'⟩, ?_⟩, kk⟩
   ·rw [hz]; exact hI.putObj _ hp.2.2 (by omega) zl rfl
   ·refine ⟨kk.size, fun k hk h1 h2 h3 => ?_⟩
    by_cases e : k = w.heap.size + 1
    ·subst e; exact zl'.trans hl.symm
    ·rw [hz, World.putObj_heap_other (fun e' => e (by omega))]
     have hy : Y.heap[k]? = X.heap[k]? := by rw [← hY]; exact World.putObj_heap_other (fun e' => e (by omega))
     have hky : k < Y.heap.size := by rw [← hY]; simp; exact Nat.lt_of_lt_of_le hk kp.size
     have hyw : Y.heap[k]? = W.heap[k]? := hy.trans (kp.block k hk h1 h2 h3)
     exact (hp.2.1.block k hky h1 h2 (by rw [hyw]; exact h3)).trans hyw
  | ret =>
   obtain ⟨Z', hr, hz, zl, zl', zk', kk⟩ := fin (some .ret) Z hp.1
   exact ⟨_, _, hr, .inr ⟨rfl, .ret, by rw [hz]; exact (hIx _).putObj _ hp.2 (by omega) zl rfl, zl', zk'⟩, kk⟩
  | exit id =>
   obtain ⟨Z', hr, hz, zl, zl', zk', kk⟩ := fin (some (.exit id)) Z hp.1
   exact ⟨_, _, hr, .inr ⟨rfl, .exit id, by rw [hz]; exact (hIx _).putObj _ hp.2 (by omega) zl rfl, zl', zk'⟩, kk⟩
  | goto t =>
   obtain ⟨Z', hr, hz, zl, zl', zk', kk⟩ := fin (some (.goto t)) Z hp.1
   exact ⟨_, _, hr, .inr ⟨rfl, .goto t, by rw [hz]; exact (hIx _).putObj _ hp.2 (by omega) zl rfl, zl', zk'⟩, kk⟩
  | panic ch => exact hp.elim
  | outgrown => exact hp.elim
 ·-- behind the iterator
  rintro e W2 ⟨⟨v, rfl⟩, (⟨xs, hS, hi, hl, hk⟩ | ⟨pre, hSp, c, hi, hl, hk⟩)⟩
  ·exact ⟨none, _, run_endLoop hl (by simp [rc]), hdone _ xs _ (Nat.le_refl _) hS (hI.putObj _ hi (by omega) hl rfl) ((World.putObj_heap_other (by omega)).trans hk)⟩
  ·exact ⟨some c, _, run_endLoop hl (by simp [rc]), hstop _ c pre _ (Nat.le_refl _) hSp ((hIx c).putObj _ hi (by omega) hl rfl) ((World.putObj_heap_other (by omega)).trans hk)⟩
attribute [local go_sem] Oper.semAt_some
set_option maxRecDepth 100000 in
set_option maxHeartbeats 4000000 in
theorem carted_seqP (m : Nat) (W0 : World) (B bq bf bw bs : Nat) (A : Option Addr) (n c : Nat) (ls : List Six)
  (hq : W0.cell? ⟨bq, 0, none⟩ = some (.pointer (some ⟨bf, 0, none⟩))) (hf : W0.cell? ⟨bf, 2, none⟩ = some (.slice A n c)) (ha : Arr scells 6 W0 A n ls) (hn : n ≤ 1000000)
  (hd : ∀ b o, A = some ⟨b, o, none⟩ → 0 < n → b ≠ bw ∧ b ≠ bs ∧ b < B) :
  SeqP m 202 #[.pointer (some ⟨bq, 0, none⟩)] (encC n ls) (fun pre x => x.1 = pre.length) (FixU B bw bs)
   (fun l => l.map (·.1) = List.range n) (fun l => l.map (·.1) = List.range l.length) (n + 1) W0 := by
 intro l J Jx W hW hJ hJx hY hJ0
 refine callsIn_of_wp Tryz.func202 rfl trivial ?_ rfl
 simp only [Tryz.ntmps202, List.size_toArray, List.length_cons, List.length_nil, Nat.reduceAdd, Nat.reduceSub, Array.replicate_succ, Array.replicate_zero, List.push_toArray, List.append_toArray, List.nil_append, List.cons_append]
 have hq := (hW.cell (p := ⟨bq, 0, none⟩) (World.block_lt_of_cell? W0 _ hq)).trans hq
 have hf := (hW.cell (p := ⟨bf, 2, none⟩) (World.block_lt_of_cell? W0 _ hf)).trans hf
 have HAW := Lib.hid (ha.below hW)
 have HJ := Lib.hid hJ
 have HY := Lib.hid hY
 clear hJ hJx hY hW ha
 gi_wp2
 gi_loopw [10] (fun i wr => ∃ (k : Nat) (pre : List (Cx n)), i = .int .i64 k ∧ k ≤ n ∧ FixU B bw bs W wr ∧ J pre wr ∧ pre.map (·.1) = List.range k) (fun i _ => n - (intOf i).toNat)
 case atStart => exact ⟨0, [], rfl, Nat.zero_le _, FixU.refl _ _ _ _, hJ0, rfl⟩
 case round =>
  obtain ⟨k, pre, rfl, hk, hfix, hj, hpre⟩ := hrel
  have HP := Lib.hid hpre
  have hpl : pre.length = k := by
   have := congrArg List.length hpre
   rw [List.length_map, List.length_range] at this
   exact this
  have HPL := Lib.hid hpl
  have HFX := Lib.hid hfix
  have HAr := Lib.hid (hfix.arr HAW.out hd)
  clear hpre hpl hfix
  by_cases hkn : k < n
  ·obtain ⟨b0, o0, e0, -, -, hc⟩ := six_at HAr.out hkn
   obtain ⟨x0, x1, x2, x3, x4, x5⟩ := hc _ (Below.refl _ _)
   obtain ⟨x, hxg⟩ : ∃ x, ls.getD k z6 = x := ⟨_, rfl⟩
   rw [hxg] at x0 x1 x2 x3 x4 x5
   subst e0
   obtain ⟨W1, hW1⟩ : ∃ W1, wr.alloc (.cells #[.int .i64 x.a, .int .i64 x.b, .int .i64 x.c, .int .i64 x.d, .int .i64 x.e, .int .i64 x.f] 103) = W1 := ⟨_, rfl⟩
   have b1 : Blk W1 wr.heap.size 103 #[.int .i64 x.a, .int .i64 x.b, .int .i64 x.c, .int .i64 x.d, .int .i64 x.e, .int .i64 x.f] := by rw [← hW1]; exact Blk.new _ _ _
   have hj1 : J pre W1 := by rw [← hW1]; exact HJ.out pre wr _ none hj (World.grownBy_alloc wr _ none) (fun r e => by cases e)
   have f1 : FixU B bw bs wr W1 := by rw [← hW1]; exact FixU.of_below (one_more _ _)
   obtain ⟨fn, tmps, assign, body, hy, hR⟩ := HY.out pre ⟨k, hkn⟩ W1 hj1 (by rw [HPL.out]; omega) HPL.out.symm
   have w0 := b1.cell 0
   have w1 := b1.cell 1
   have w2 := b1.cell 2
   have w3 := b1.cell 3
   have w4 := b1.cell 4
   have w5 := b1.cell 5
   unfold encC at hy
   dsimp only at hy
   rw [hxg] at hy
   clear hc hxg b1
   gi_wp2
   refine ⟨fun h => (by simp [Fence.wide] at h), hR.mono ?_⟩
   rintro e W' ⟨⟨rfl, hJ', hk'⟩ | ⟨rfl, hJx'⟩, hkf⟩
   ·have Hfx := Lib.hid (HFX.out.trans (f1.trans hk'))
    clear hR hk' hj1 hy f1 hW1 hkf
    gi_wp2
    go_roundw
    case rel => exact ⟨k + 1, pre ++ [⟨k, hkn⟩], by go_num, by omega, Hfx.out, hJ', by rw [List.map_append, HP.out, List.range_succ]; rfl⟩
    case measure => simp [intOf]; omega
   ·clear hR hj1 hy f1 hW1 hkf
    gi_wp2
    refine bodyPost_ret (results_none rfl _ _ _) rfl ?_
    exact ⟨⟨_, rfl⟩, .inr ⟨_, by rw [List.map_append, HP.out, List.length_append, HPL.out, List.length_singleton, List.range_succ]; rfl, hJx'⟩⟩
  ·obtain rfl : k = n := by omega
   gi_wp2
   go_end0
   exact ⟨⟨_, rfl⟩, .inl ⟨pre, HP.out, hj⟩⟩
end Go.Proofs.YtkoejeghihcmlaaGreat

namespace Go.Proofs.YtkoejeghihcmlaaGreat
open Go.RowKit Go.Shelf Go.Maps
def MapC (w : World) (b : Nat) (es : Array MapEntry) (clock : Nat) : Prop := w.heap[b]? = some (.map es clock)
theorem MapC.lt {w : World} {b : Nat} {es : Array MapEntry} {clock : Nat} (h : MapC w b es clock) : b < w.heap.size := (Array.getElem?_eq_some_iff.1 h).1
theorem MapC.ext {w w' : World} {b : Nat} {es : Array MapEntry} {clock : Nat} (h : MapC w b es clock) (g : Below w.heap.size w w') : MapC w' b es clock := (g.block b h.lt).trans h
theorem MapC.put {W : World} {b : Nat} {es : Array MapEntry} {clock : Nat} (h : MapC W b es clock) (es' : Array MapEntry) (clock' : Nat) : MapC (W.putObj b (.map es' clock')) b es' clock' := World.putObj_heap_same h.lt
theorem belowC_putObj {B b : Nat} {w W : World} (h : Below B w W) (hb : B ≤ b) (o : Obj) : Below B w (W.putObj b o) :=
 ⟨h.os, h.tape, h.output, by simpa using h.size, fun k hk => (World.putObj_heap_other (by omega)).trans (h.block k hk)⟩
theorem findC_new {k : Int} {d : TypeDesc} (hd : ∃ x, d = .int x) : ∀ (es : List MapEntry) (i : Nat), (∀ e ∈ es, ∃ j, e.key = .int .i64 j ∧ j ≠ k) → Instr.findNow d (.int .i64 k) es i = some none
 | [], _, _ => rfl
 | e :: es, i, h => by
  obtain ⟨x, rfl⟩ := hd
  obtain ⟨j, hj, hne⟩ := h e (by simp)
  have e2 : (k == j) = false := by simpa using fun e => hne e.symm
  unfold Instr.findNow
  rw [hj]
  simp only [Instr.sameNow, if_true, e2]
  exact findC_new ⟨x, rfl⟩ es (i + 1) fun e' he' => h e' (List.mem_cons_of_mem _ he')
theorem findC_has {k : Int} {d : TypeDesc} (hd : ∃ x, d = .int x) : ∀ (es : List MapEntry) (i : Nat), (∀ e ∈ es, ∃ j v, e.key = .int .i64 j ∧ e.val = .int .i64 v) → (∃ e ∈ es, e.key = .int .i64 k) → ∃ j v, Instr.findNow d (.int .i64 k) es i = some (some (j, .int .i64 v))
 | [], _, _, h => by obtain ⟨e, he, _⟩ := h; cases he
 | e :: es, i, h, hk => by
  obtain ⟨x, rfl⟩ := hd
  obtain ⟨j, v, hj, hv⟩ := h e (by simp)
  unfold Instr.findNow
  rw [hj]
  by_cases ek : k = j
  ·subst ek
   have e2 : (k == k) = true := by simp
   simp only [Instr.sameNow, if_true, e2, hv]
   exact ⟨_, _, rfl⟩
  ·have e2 : (k == j) = false := by simpa using ek
   simp only [Instr.sameNow, if_true, e2]
   refine findC_has ⟨x, rfl⟩ es (i + 1) (fun e' he' => h e' (List.mem_cons_of_mem _ he')) ?_
   obtain ⟨e', he', hk'⟩ := hk
   rcases List.mem_cons.1 he' with r | r
   ·subst r; rw [hj] at hk'; injection hk' with _ hk'; exact absurd hk'.symm ek
   ·exact ⟨e', r, hk'⟩
theorem run_updC {w : World} {b : Nat} {es : Array MapEntry} {clock : Nat} (hb : MapC w b es clock) (k : Int) (v : Value) (hk : ∀ e ∈ es.toList, ∃ j, e.key = .int .i64 j ∧ j ≠ k) :
  (Instr.mapUpdate 230 (.map (some b)) (.int .i64 k) v).run Tryz.prog w = .ok () (w.putObj b (.map (es.push ⟨.int .i64 k, v, clock⟩) (clock + 1))) := by
 have hd := Tryz.underlying3
 have h1 := MapKept.run_checkKey (w := w) (k := .int .i64 k) hd rfl
 have h2 := MapKept.run_findKey (w := w) (k := .int .i64 k) hd (findC_new ⟨_, rfl⟩ es.toList 0 hk)
 simp [Instr.mapUpdate, run_underlying Tryz.underlying230, MapKept.run_getObj_map hb, h1, h2, MapKept.run_setObj_map _ hb, Result.andThen, World.putObj]
theorem run_lookC {w : World} {b : Nat} {es : Array MapEntry} {clock : Nat} (hb : MapC w b es clock) (k : Int) (h : ∀ e ∈ es.toList, ∃ j v, e.key = .int .i64 j ∧ e.val = .int .i64 v) (hk : ∃ e ∈ es.toList, e.key = .int .i64 k) :
  ∃ v, (Instr.lookup 230 (.map (some b)) (.int .i64 k) true).run Tryz.prog w = .ok (.tuple #[.int .i64 v, .bool true]) w := by
 have hd := Tryz.underlying3
 have h1 := MapKept.run_checkKey (w := w) (k := .int .i64 k) hd rfl
 obtain ⟨j, v, hf⟩ := findC_has (k := k) (d := .int .i64) ⟨_, rfl⟩ es.toList 0 h hk
 have h2 := MapKept.run_findKey (w := w) (k := .int .i64 k) hd hf
 exact ⟨v, by simp [Instr.lookup, run_underlying Tryz.underlying230, MapKept.run_getObj_map hb, h1, h2, Result.andThen]⟩
/-- the first k chains in the map -/
def mEs (l : List Ch) (k : Nat) : Array MapEntry := ((List.range k).map fun i => (⟨.int .i64 (hat l i).id, .int .i64 i, i⟩ : MapEntry)).toArray
theorem mEs_succ (l : List Ch) (k : Nat) : (mEs l k).push ⟨.int .i64 (hat l k).id, .int .i64 k, k⟩ = mEs l (k + 1) := by
 unfold mEs
 rw [List.range_succ, List.map_append, List.push_toArray]; rfl
theorem mEs_new {g : Gd} (hg : OkG g) {k : Nat} (hk : k < g.chains.length) : ∀ e ∈ (mEs g.chains k).toList, ∃ j, e.key = .int .i64 j ∧ j ≠ (hat g.chains k).id := by
 intro e he
 unfold mEs at he
 obtain ⟨i, hi, rfl⟩ := List.mem_map.1 he
 have hi := List.mem_range.1 hi
 refine ⟨_, rfl, ?_⟩
 have key : ∀ m, i < m → m < g.chains.length → (hat g.chains i).id < (hat g.chains m).id := by
  intro m
  induction m with
  | zero => intro h; omega
  | succ m ih =>
   intro h1 h2
   have h3 := hg.up m h2
   by_cases e : i = m
   ·subst e; exact h3
   ·have := ih (by omega) (by omega); omega
 have := key k hi hk
 show (hat g.chains i).id ≠ (hat g.chains k).id
 omega
theorem mEs_all (l : List Ch) (k : Nat) : ∀ e ∈ (mEs l k).toList, ∃ j v, e.key = .int .i64 j ∧ e.val = .int .i64 v := by
 intro e he
 unfold mEs at he
 obtain ⟨i, hi, rfl⟩ := List.mem_map.1 he
 exact ⟨_, _, rfl, rfl⟩
theorem mEs_has {g : Gd} (hg : OkG g) {c : Ce} (hc : c ∈ g.cells) : ∃ e ∈ (mEs g.chains g.chains.length).toList, e.key = .int .i64 c.chain := by
 obtain ⟨h, hh, e⟩ := hg.kn c hc
 obtain ⟨i, hi, rfl⟩ := List.mem_iff_getElem.1 hh
 refine ⟨⟨.int .i64 (hat g.chains i).id, .int .i64 i, i⟩, ?_, ?_⟩
 ·unfold mEs; exact List.mem_map.2 ⟨i, List.mem_range.2 hi, rfl⟩
 ·show Value.int .i64 (hat g.chains i).id = _
  rw [hat_of (List.getElem?_eq_getElem hi), e]
set_option maxRecDepth 100000 in
set_option maxHeartbeats 2000000 in
theorem chains_any (g : Gd) (A1 A2 : Option Addr) (n1 c1 n2 c2 : Nat) (w : World) (hg : Ga w g A1 A2 n1 c1 n2 c2) (ho : OkG g) :
  Calls Tryz.prog 206 #[gv A1 A2 n1 c1 n2 c2] w fun e w' => (∃ b, e = .returned (.map (some b)) ∧ MapC w' b (mEs g.chains g.chains.length) g.chains.length) ∧ Below w.heap.size w w' := by
 obtain ⟨W1, hW1⟩ : ∃ X, w.alloc (.cells #[.slice A1 n1 c1, .slice A2 n2 c2] 47) = X := ⟨_, rfl⟩
 have GW1 := Lib.hid (show Below w.heap.size w W1 by rw [← hW1]; exact one_more _ _)
 have BW1_0 := Lib.hid (show Blk W1 (w.heap.size) 47 #[.slice A1 n1 c1, .slice A2 n2 c2] by
  rw [← hW1]
  have := Blk.new w 47 #[.slice A1 n1 c1, .slice A2 n2 c2]
  (try simp only [World.size_alloc] at this)
  exact this)
 have HW1 := Lib.hid hW1
 clear hW1
 obtain ⟨W2, hW2⟩ : ∃ X, W1.alloc (.map #[] 0) = X := ⟨_, rfl⟩
 have hm2 : MapC W2 W1.heap.size #[] 0 := by rw [← hW2]; exact World.alloc_heap_new W1 _
 have GW2 := Lib.hid (show Below W1.heap.size W1 W2 by rw [← hW2]; exact one_more _ _)
 have hmk : (Instr.makeMap 230 none).run Tryz.prog W1 = .ok (.map (some W1.heap.size)) W2 := by
  rw [← hW2]; simp [Instr.makeMap, go_sem]
 have HM2 := Lib.hid hm2
 have HH0 := Lib.hid (hg.h.1.below GW1.out)
 have hlen : g.chains.length = n1 := hg.h.1.1
 have hn6 : n1 ≤ 6 := by have := ho.hn.2; omega
 have HO := Lib.hid ho
 have d0 := BW1_0.out.cell 0
 have hx0 := (BW1_0.out.ext GW2.out).cell 0
 clear hg ho hm2 hW2
 go_enter Tryz.func206, Tryz.ntmps206
 go_upto_region 1 with fail
 rw [HW1.out]
 go_wp2_with fail
 go_loopw [10] (fun i wr => ∃ k : Nat, k ≤ n1 ∧ i = .int .i64 k ∧ Below W1.heap.size W1 wr ∧ MapC wr W1.heap.size (mEs g.chains k) k) (fun i _ => n1 - (intOf i).toNat)
 case atStart => exact ⟨0, Nat.zero_le _, rfl, GW2.out, HM2.out⟩
 case round =>
  obtain ⟨k, hk, rfl, hb, hm⟩ := hrel
  have HG := Lib.hid hb
  have HM := Lib.hid hm
  clear hm
  by_cases hkn : k < n1
  ·obtain ⟨b0, o0, e0, -, -, hc⟩ := h_at ((HH0.out).below hb) hkn
   obtain ⟨x0, x1, x2⟩ := hc _ (Below.refl _ _)
   have HN := Lib.hid (mEs_new HO.out (k := k) (by omega))
   have HS := Lib.hid (mEs_succ g.chains k)
   obtain ⟨x, hxe⟩ : ∃ x, hat g.chains k = x := ⟨_, rfl⟩
   rw [hxe] at x0 x1 x2 HN HS
   subst e0
   obtain ⟨W3, hW3⟩ : ∃ X, wr.alloc (.cells #[.int .i64 x.id, .int .i64 x.lo, .int .i64 x.hi] 130) = X := ⟨_, rfl⟩
   have GW3 := Lib.hid (show Below wr.heap.size wr W3 by rw [← hW3]; exact one_more _ _)
   have BW3_0 := Lib.hid (show Blk W3 (wr.heap.size) 130 #[.int .i64 x.id, .int .i64 x.lo, .int .i64 x.hi] by
    rw [← hW3]
    have := Blk.new wr 130 #[.int .i64 x.id, .int .i64 x.lo, .int .i64 x.hi]
    (try simp only [World.size_alloc] at this)
    exact this)
   have HW3 := Lib.hid hW3
   clear hW3
   have m3 := HM.out.ext GW3.out
   have r3 := run_updC m3 x.id (.int .i64 k) HN.out
   have HM3 := Lib.hid m3
   have q0 := BW3_0.out.cell 0
   have q1 := BW3_0.out.cell 1
   have q2 := BW3_0.out.cell 2
   have HG3 := Lib.hid (belowC_putObj (HG.out.trans (GW3.out.mono HG.out.size)) (Nat.le_refl _) (.map ((mEs g.chains k).push ⟨.int .i64 x.id, .int .i64 k, k⟩) (k + 1)))
   clear hc hxe hb m3
   go_upto_region 5 with fail
   rw [HW3.out]
   go_wp2_with fail
   go_roundw
   case rel => exact ⟨k + 1, by omega, by go_num, HG3.out, by rw [← HS.out]; exact HM3.out.put _ _⟩
   case measure => simp [intOf]; omega
  ·obtain rfl : n1 = k := by omega
   have GX := Lib.hid (GW1.out.trans (HG.out.mono GW1.out.size))
   clear hb
   go_wp2_with fail
   go_ret
   exact ⟨⟨_, rfl, by rw [hlen]; exact HM.out⟩, GX.out⟩
set_option maxRecDepth 100000 in
set_option maxHeartbeats 4000000 in
theorem checkG_any (g : Gd) (A1 A2 : Option Addr) (n1 c1 n2 c2 : Nat) (w : World) (hg : Ga w g A1 A2 n1 c1 n2 c2) (ho : OkG g) :
  Calls Tryz.prog 167 #[gv A1 A2 n1 c1 n2 c2] w fun e w' => e = .returned (.int .i64 0) ∧ Below w.heap.size w w' := by
 obtain ⟨W1, hW1⟩ : ∃ X, w.alloc (.cells #[.slice A1 n1 c1, .slice A2 n2 c2] 47) = X := ⟨_, rfl⟩
 have GW1 := Lib.hid (show Below w.heap.size w W1 by rw [← hW1]; exact one_more _ _)
 have BW1_0 := Lib.hid (show Blk W1 (w.heap.size) 47 #[.slice A1 n1 c1, .slice A2 n2 c2] by
  rw [← hW1]
  have := Blk.new w 47 #[.slice A1 n1 c1, .slice A2 n2 c2]
  (try simp only [World.size_alloc] at this)
  exact this)
 have HW1 := Lib.hid hW1
 clear hW1
 have HGA := Lib.hid (hg.below GW1.out)
 have HO := Lib.hid ho
 have hlen : g.chains.length = n1 := hg.h.1.1
 have hlen2 : g.cells.length = n2 := hg.e.1.1
 have hn6 : 1 ≤ n1 ∧ n1 ≤ 6 := by have := ho.hn; omega
 have hn24 : 1 ≤ n2 ∧ n2 ≤ 24 := by have := ho.en; omega
 obtain ⟨hn61, hn62⟩ := hn6
 obtain ⟨hn241, hn242⟩ := hn24
 have d0 := BW1_0.out.cell 0
 have d1 := BW1_0.out.cell 1
 have HLEN := Lib.hid hlen
 have HLEN2 := Lib.hid hlen2
 clear hg ho hlen hlen2
 go_enter Tryz.func167, Tryz.ntmps167
 go_upto_region 1 with fail
 rw [HW1.out]
 go_wp2_with (go_at_call 88; (with_reducible refine (withinT (by omega) (by omega) _).mono ?_); rintro e V ⟨rfl, rfl⟩)
 go_loopw [25] (fun i wr => ∃ k : Nat, k ≤ n1 ∧ i = .int .i64 k ∧ Below W1.heap.size W1 wr) (fun i _ => n1 - (intOf i).toNat)
 case atStart => exact ⟨0, Nat.zero_le _, rfl, Below.refl _ _⟩
 case round =>
  obtain ⟨k, hk, rfl, hb⟩ := hrel
  have HG := Lib.hid hb
  by_cases hkn : k < n1
  ·obtain ⟨b0, o0, e0, -, hmem, hc⟩ := h_at (HGA.out.h.1.below hb) hkn
   obtain ⟨x0, x1, x2⟩ := hc _ (Below.refl _ _)
   have HOX := Lib.hid (HO.out.h _ hmem)
   obtain ⟨x, hxe⟩ : ∃ x, hat g.chains k = x := ⟨_, rfl⟩
   obtain ⟨y, hye⟩ : ∃ y, hat g.chains (k - 1) = y := ⟨_, rfl⟩
   rw [hxe] at x0 x1 x2 HOX
   have HUP := Lib.hid (fun (h0 : 0 < k) => show y.id < x.id by
    have := HO.out.up (k - 1) (by rw [HLEN.out]; omega)
    rw [show k - 1 + 1 = k by omega, hye, hxe] at this; exact this)
   obtain ⟨V1, hV1⟩ : ∃ X, wr.alloc (.cells #[.int .i64 x.id, .int .i64 x.lo, .int .i64 x.hi] 130) = X := ⟨_, rfl⟩
   have GV1 := Lib.hid (show Below wr.heap.size wr V1 by rw [← hV1]; exact one_more _ _)
   have BV1_0 := Lib.hid (show Blk V1 (wr.heap.size) 130 #[.int .i64 x.id, .int .i64 x.lo, .int .i64 x.hi] by
    rw [← hV1]
    have := Blk.new wr 130 #[.int .i64 x.id, .int .i64 x.lo, .int .i64 x.hi]
    (try simp only [World.size_alloc] at this)
    exact this)
   have HV1 := Lib.hid hV1
   clear hV1
   have HY := Lib.hid (fun (h0 : 0 < k) (z : Wd V1) => (show z.val.cell? ⟨b0, o0 + (k - 1) * 3, none⟩ = some (.int .i64 y.id) from by
    obtain ⟨b2, o2, e2, -, -, hc2⟩ := h_at (HGA.out.h.1.below hb) (show k - 1 < n1 by omega)
    rw [e0] at e2
    cases e2
    rw [hye] at hc2
    exact (hc2 z.val (GV1.out.trans (z.ok.mono GV1.out.size))).1))
   subst e0
   have G1 := Lib.hid (HG.out.trans (GV1.out.mono HG.out.size))
   have w0 := cellW (BV1_0.out.cell 0)
   have w1 := cellW (BV1_0.out.cell 1)
   have w2 := cellW (BV1_0.out.cell 2)
   have v0 := cellW ((BW1_0.out.ext G1.out).cell 0)
   clear hc hxe hye hb hmem
   go_upto_region 6 with fail
   rw [HV1.out]
   by_cases hk0 : k = 0
   ·have e1 : decide ((0 : Int) < (k : Int)) = false := decide_eq_false (by omega)
    clear x0 x1 x2 d0 d1
    refine wp_region_calm V1 (by kernel_rfl) (by kernel_rfl) (Below.refl _ _) ?_
    repeat (go_big_quiet_step ((go_at_call 205; exact callsCalm (checkChain_any x HOX.out _))))
    refine wpQuiet_nil ?_
    rintro _ ⟨z, rfl⟩
    have GZ := Lib.hid (G1.out.trans (z.ok.mono G1.out.size))
    go_wp2_with fail
    go_roundw
    case rel => exact ⟨k + 1, by omega, by go_num, GZ.out⟩
    case measure => simp [intOf]; omega
   ·obtain ⟨k', rfl⟩ : ∃ k', k = k' + 1 := ⟨k - 1, by omega⟩
    have e1 : decide ((0 : Int) < ((k' + 1 : Nat) : Int)) = true := decide_eq_true (by omega)
    have y0 := fun z => HY.out (by omega) z
    have hup := HUP.out (by omega)
    have e3 : decide (x.id ≤ y.id) = false := decide_eq_false (by omega)
    rw [Nat.add_sub_cancel] at y0
    clear x0 x1 x2 d0 d1
    refine wp_region_calm V1 (by kernel_rfl) (by kernel_rfl) (Below.refl _ _) ?_
    repeat (go_big_quiet_step ((go_at_call 205; exact callsCalm (checkChain_any x HOX.out _))))
    refine wpQuiet_nil ?_
    rintro _ ⟨z, rfl⟩
    have GZ := Lib.hid (G1.out.trans (z.ok.mono G1.out.size))
    go_wp2_with fail
    go_roundw
    case rel => exact ⟨k' + 1 + 1, by omega, by go_num, GZ.out⟩
    case measure => simp [intOf]; omega
  ·obtain rfl : n1 = k := by omega
   obtain ⟨V2, hV2⟩ : ∃ V, wr = V := ⟨_, rfl⟩
   rw [hV2] at HG ⊢
   have q0 := (BW1_0.out.ext HG.out).cell 0
   have q1 := (BW1_0.out.ext HG.out).cell 1
   have HCH := Lib.hid (chains_any g A1 A2 n1 c1 n2 c2 V2 (HGA.out.below HG.out) HO.out)
   clear hV2 hb d0 d1 hkn hk
   go_upto_region 9 with fail
   go_upto_region 10 with (go_at_call 206; (with_reducible refine (HCH.out).mono ?_); rintro e V3 ⟨⟨b, rfl, hm⟩, hg⟩; have HM := Lib.hid hm; have G3 := Lib.hid (HG.out.trans (hg.mono HG.out.size)); clear hm hg)
   rw [HLEN.out] at HM
   have q1 := (BW1_0.out.ext G3.out).cell 1
   clear q0
   go_wp2_with fail
   go_loopw [55] (fun i wr => ∃ k : Nat, k ≤ n2 ∧ i = .int .i64 k ∧ Below V3.heap.size V3 wr) (fun i _ => n2 - (intOf i).toNat)
   case atStart => exact ⟨0, Nat.zero_le _, rfl, Below.refl _ _⟩
   case round =>
    obtain ⟨k, hk, rfl, hb⟩ := hrel
    have HG4 := Lib.hid hb
    by_cases hkn : k < n2
    ·obtain ⟨b0, o0, e0, -, hmem, hc⟩ := e_at (HGA.out.e.1.below (G3.out.trans (hb.mono G3.out.size))) hkn
     obtain ⟨x0, x1, x2⟩ := hc _ (Below.refl _ _)
     have HOX := Lib.hid (HO.out.e _ hmem)
     have HHS := Lib.hid (mEs_has HO.out hmem)
     obtain ⟨x, hxe⟩ : ∃ x, eat g.cells k = x := ⟨_, rfl⟩
     rw [hxe] at x0 x1 x2 HOX HHS
     rw [HLEN.out] at HHS
     obtain ⟨V4, hV4⟩ : ∃ X, wr.alloc (.cells #[.int .i64 x.chain, .int .i64 x.links, .int .i64 x.worth] 132) = X := ⟨_, rfl⟩
     have GV4 := Lib.hid (show Below wr.heap.size wr V4 by rw [← hV4]; exact one_more _ _)
     have BV4_0 := Lib.hid (show Blk V4 (wr.heap.size) 132 #[.int .i64 x.chain, .int .i64 x.links, .int .i64 x.worth] by
      rw [← hV4]
      have := Blk.new wr 132 #[.int .i64 x.chain, .int .i64 x.links, .int .i64 x.worth]
      (try simp only [World.size_alloc] at this)
      exact this)
     have HV4 := Lib.hid hV4
     clear hV4
     subst e0
     have G4 := Lib.hid (HG4.out.trans (GV4.out.mono HG4.out.size))
     obtain ⟨lv, hlk⟩ := run_lookC (HM.out.ext G4.out) x.chain (mEs_all _ _) HHS.out
     have w0 := cellW (BV4_0.out.cell 0)
     have w1 := cellW (BV4_0.out.cell 1)
     have w2 := cellW (BV4_0.out.cell 2)
     have u0 := BV4_0.out.cell 0
     clear hc hxe hb hmem
     go_upto_region 13 with fail
     rw [HV4.out]
     go_upto_region 14 with fail
     have u1 := BV4_0.out.cell 1
     have u2 := BV4_0.out.cell 2
     clear x0 x1 x2 q1 w0 w1 w2 hlk
     go_wp2_with (go_at_call 207; (with_reducible refine (checkCell_any x HOX.out _).mono ?_); rintro e V5 ⟨rfl, hg5⟩; have GZ := Lib.hid (G4.out.trans (hg5.mono G4.out.size)); clear hg5)
     go_roundw
     case rel => exact ⟨k + 1, by omega, by go_num, GZ.out⟩
     case measure => simp [intOf]; omega
    ·obtain rfl : n2 = k := by omega
     have GX := Lib.hid (GW1.out.trans ((G3.out.trans (HG4.out.mono G3.out.size)).mono GW1.out.size))
     clear hb
     go_wp2_with fail
     go_ret
     exact ⟨rfl, GX.out⟩
set_option maxRecDepth 100000 in
theorem famIs_any (x c : Cm) (b : Nat) (w : World) (hb : Blk w b 87 #[.int .i64 c.fam, .int .i64 c.hd, .int .i64 c.lo, .int .i64 c.hi]) :
  Calls Tryz.prog 169 #[cv x, .pointer (some ⟨b, 0, none⟩)] w fun e w' => e = .returned (.bool (x.fam == c.fam)) ∧ Below w.heap.size w w' := by
 obtain ⟨W1, hW1⟩ : ∃ X, w.alloc (.cells #[.int .i64 x.fam, .int .i64 x.hd, .int .i64 x.lo, .int .i64 x.hi] 87) = X := ⟨_, rfl⟩
 have GW1 := Lib.hid (show Below w.heap.size w W1 by rw [← hW1]; exact one_more _ _)
 have BW1_0 := Lib.hid (show Blk W1 (w.heap.size) 87 #[.int .i64 x.fam, .int .i64 x.hd, .int .i64 x.lo, .int .i64 x.hi] by
  rw [← hW1]
  have := Blk.new w 87 #[.int .i64 x.fam, .int .i64 x.hd, .int .i64 x.lo, .int .i64 x.hi]
  (try simp only [World.size_alloc] at this)
  exact this)
 have HW1 := Lib.hid hW1
 clear hW1
 have d0 := (hb.ext GW1.out).cell 0
 have e0 := BW1_0.out.cell 0
 clear hb
 go_enter Tryz.func169, Tryz.ntmps169
 go_upto_region 1 with fail
 rw [HW1.out]
 go_wp2_with fail
 go_ret
 exact ⟨rfl, GW1.out⟩
set_option maxRecDepth 100000 in
set_option maxHeartbeats 2000000 in
theorem idxFam_any (A : Option Addr) (n cp : Nat) (l : List Cm) (c : Cm) (b : Nat) (w : World) (hl : Arr ccells 4 w A n l) (hn : n ≤ 1000) (hb : Blk w b 87 #[.int .i64 c.fam, .int .i64 c.hd, .int .i64 c.lo, .int .i64 c.hi]) (hno : ∀ x ∈ l, x.fam ≠ c.fam) :
  Calls Tryz.prog 208 #[.slice A n cp, .func (.func 169) #[] #[.pointer (some ⟨b, 0, none⟩)]] w fun e w' => e = .returned (.int .i64 (-1)) ∧ Below w.heap.size w w' := by
 have HL := Lib.hid hl
 have HB := Lib.hid hb
 have HNO := Lib.hid hno
 clear hl hb hno
 go_enter Tryz.func208, Tryz.ntmps208
 go_wp2_with fail
 go_loopw [8] (fun i wr => ∃ k : Nat, k ≤ n ∧ i = .int .i64 k ∧ Below w.heap.size w wr) (fun i _ => n - (intOf i).toNat)
 case atStart => exact ⟨0, Nat.zero_le _, rfl, Below.refl _ _⟩
 case round =>
  obtain ⟨k, hk, rfl, hg⟩ := hrel
  have HG := Lib.hid hg
  by_cases hkn : k < n
  ·obtain ⟨b0, o0, e0, -, hmem, hc⟩ := c_at (HL.out.below hg) hkn
   obtain ⟨x0, x1, x2, x3⟩ := hc _ (Below.refl _ _)
   obtain ⟨x, hxe⟩ : ∃ x, cat l k = x := ⟨_, rfl⟩
   have hne := HNO.out _ hmem
   rw [hxe] at x0 x1 x2 x3 hne
   subst e0
   have T := famIs_any x c b wr (HB.out.ext hg)
   rw [show (x.fam == c.fam) = false by simpa using hne] at T
   have HT := Lib.hid T
   clear T hc hxe hne hmem hg
   go_wp2_with (go_at_call 169; (with_reducible refine (HT.out).mono ?_); rintro e w' ⟨rfl, hg2⟩; have G2 := Lib.hid (HG.out.trans (hg2.mono HG.out.size)); clear hg2)
   go_roundw
   case rel => exact ⟨k + 1, by omega, by go_num, G2.out⟩
   case measure => simp [intOf]; omega
  ·obtain rfl : n = k := by omega
   go_wp2_with fail
   go_ret
   exact ⟨rfl, HG.out⟩
set_option maxRecDepth 100000 in
theorem hasFam_any (A : Option Addr) (n cp : Nat) (l : List Cm) (c : Cm) (b : Nat) (w : World) (hl : Arr ccells 4 w A n l) (hn : n ≤ 1000) (hb : Blk w b 87 #[.int .i64 c.fam, .int .i64 c.hd, .int .i64 c.lo, .int .i64 c.hi]) (hno : ∀ x ∈ l, x.fam ≠ c.fam) :
  Calls Tryz.prog 168 #[.slice A n cp, .func (.func 169) #[] #[.pointer (some ⟨b, 0, none⟩)]] w fun e w' => e = .returned (.bool false) ∧ Below w.heap.size w w' := by
 have HT := Lib.hid (idxFam_any A n cp l c b w hl hn hb hno)
 clear hl hb hno
 go_enter Tryz.func168, Tryz.ntmps168
 go_wp2_with (go_at_call 208; (with_reducible refine (HT.out).mono ?_); rintro e w' ⟨rfl, hg2⟩; have G2 := Lib.hid hg2; clear hg2)
 go_ret
 exact ⟨rfl, G2.out⟩
theorem fam_apart {l : List Cm} (h : (l.map Cm.fam).Nodup) {k : Nat} (hk : k < l.length) : ∀ x ∈ l.take k, x.fam ≠ (cat l k).fam := by
 intro x hx e
 obtain ⟨j, hj, rfl⟩ := List.mem_iff_getElem.1 hx
 rw [List.length_take] at hj
 have h1 := List.pairwise_iff_getElem.1 h j k (by rw [List.length_map]; omega) (by rw [List.length_map]; exact hk) (by omega)
 rw [List.getElem_map, List.getElem_map] at h1
 apply h1
 rw [List.getElem_take] at e
 rw [e]
 have := cat_get hk
 rw [List.getElem?_eq_getElem hk] at this
 injection this with this
 rw [this]
set_option maxRecDepth 100000 in
set_option maxHeartbeats 4000000 in
theorem checkClaims_any (g : Gd) (A1 A2 A3 : Option Addr) (n1 c1 n2 c2 n3 c3 : Nat) (l : List Cm) (w : World) (hg : Ga w g A1 A2 n1 c1 n2 c2) (ho : OkG g) (hl : Sl ccells 4 w A3 n3 c3 l) (hol : OkL g l) :
  Calls Tryz.prog 87 #[gv A1 A2 n1 c1 n2 c2, .slice A3 n3 c3] w fun e w' => e = .returned (.int .i64 0) ∧ Below w.heap.size w w' := by
 obtain ⟨W1, hW1⟩ : ∃ X, w.alloc (.cells #[.slice A1 n1 c1, .slice A2 n2 c2] 47) = X := ⟨_, rfl⟩
 have GW1 := Lib.hid (show Below w.heap.size w W1 by rw [← hW1]; exact one_more _ _)
 have BW1_0 := Lib.hid (show Blk W1 (w.heap.size) 47 #[.slice A1 n1 c1, .slice A2 n2 c2] by
  rw [← hW1]
  have := Blk.new w 47 #[.slice A1 n1 c1, .slice A2 n2 c2]
  (try simp only [World.size_alloc] at this)
  exact this)
 have HW1 := Lib.hid hW1
 clear hW1
 have HGA := Lib.hid (hg.below GW1.out)
 have HLA := Lib.hid (hl.below GW1.out)
 have HO := Lib.hid ho
 have HOL := Lib.hid hol
 have hlen : l.length = n3 := hl.1.1
 have hlen2 : g.cells.length = n2 := hg.e.1.1
 have hc3 := hl.2.1
 have hc3' := hl.2.2
 have hn12 : 1 ≤ n3 ∧ n3 ≤ 12 := by have := hol.n; omega
 obtain ⟨hn121, hn122⟩ := hn12
 have HLEN := Lib.hid hlen
 have HLEN2 := Lib.hid hlen2
 have d0 := BW1_0.out.cell 0
 have d1 := BW1_0.out.cell 1
 have HCK := Lib.hid (checkG_any g A1 A2 n1 c1 n2 c2 W1 HGA.out ho)
 clear hg ho hl hol hlen hlen2
 go_enter Tryz.func87, Tryz.ntmps87
 go_upto_region 1 with fail
 rw [HW1.out]
 go_wp2_with (first
  | (go_at_call 167; (with_reducible refine (HCK.out).mono ?_); rintro e V ⟨rfl, hgv⟩; have GV := Lib.hid hgv; clear hgv)
  | (go_at_call 88; (with_reducible refine (withinT (by omega) (by omega) _).mono ?_); rintro e V ⟨rfl, rfl⟩))
 clear d0 d1
 go_loopw [20] (fun i wr => ∃ k : Nat, k ≤ n3 ∧ i = .int .i64 k ∧ Below W1.heap.size W1 wr) (fun i _ => n3 - (intOf i).toNat)
 case atStart => exact ⟨0, Nat.zero_le _, rfl, GV.out⟩
 case round =>
  obtain ⟨k, hk, rfl, hb⟩ := hrel
  have HG := Lib.hid hb
  by_cases hkn : k < n3
  ·obtain ⟨b0, o0, e0, -, hmem, hc⟩ := c_at (HLA.out.1.below HG.out) hkn
   obtain ⟨x0, x1, x2, x3⟩ := hc _ (Below.refl _ _)
   have HOX := Lib.hid (HOL.out.c _ hmem)
   have HAP := Lib.hid (fam_apart HOL.out.nd (k := k) (by rw [HLEN.out]; exact hkn))
   obtain ⟨x, hxe⟩ : ∃ x, cat l k = x := ⟨_, rfl⟩
   rw [hxe] at x0 x1 x2 x3 HOX HAP
   obtain ⟨W4, hW4⟩ : ∃ X, wr.alloc (.cells #[.int .i64 x.fam, .int .i64 x.hd, .int .i64 x.lo, .int .i64 x.hi] 87) = X := ⟨_, rfl⟩
   have GW4 := Lib.hid (show Below wr.heap.size wr W4 by rw [← hW4]; exact one_more _ _)
   have BW4_0 := Lib.hid (show Blk W4 (wr.heap.size) 87 #[.int .i64 x.fam, .int .i64 x.hd, .int .i64 x.lo, .int .i64 x.hi] by
    rw [← hW4]
    have := Blk.new wr 87 #[.int .i64 x.fam, .int .i64 x.hd, .int .i64 x.lo, .int .i64 x.hi]
    (try simp only [World.size_alloc] at this)
    exact this)
   have HW4 := Lib.hid hW4
   clear hW4
   have G4 := Lib.hid (HG.out.trans (GW4.out.mono HG.out.size))
   have HT := Lib.hid (hasFam_any A3 k c3 (l.take k) x wr.heap.size W4 ((HLA.out.1.below G4.out).take (by omega)) (by omega) BW4_0.out HAP.out)
   subst e0
   have hk3 : (k : Int) ≤ c3 := by omega
   have hxhi : x.hi < (n2 : Int) := by have := HOX.out; rw [HLEN2.out] at this; unfold okC at this; omega
   clear hc hxe hb hmem
   go_upto_region 9 with fail
   rw [HW4.out]
   clear x0 x1 x2 x3
   go_upto_region 10 with (go_at_call 168; (with_reducible refine (HT.out).mono ?_); rintro e V5 ⟨rfl, hg5⟩; have G5 := Lib.hid (G4.out.trans (hg5.mono G4.out.size)); have B5 := Lib.hid (BW4_0.out.ext hg5); clear hg5)
   have u0 := B5.out.cell 0
   have u1 := B5.out.cell 1
   have u2 := B5.out.cell 2
   have u3 := B5.out.cell 3
   have v1 := (BW1_0.out.ext G5.out).cell 1
   go_wp2_with (go_at_call 170; (with_reducible refine (checkClaim_any g.cells.length x HOX.out _).mono ?_); rintro e V6 ⟨rfl, hg6⟩; have u3 := (B5.out.ext hg6).cell 3; have v1 := (BW1_0.out.ext (G5.out.trans (hg6.mono G5.out.size))).cell 1; have G6 := Lib.hid (G5.out.trans (hg6.mono G5.out.size)); clear hg6)
   go_roundw
   case rel => exact ⟨k + 1, by omega, by go_num, G6.out⟩
   case measure => simp [intOf]; omega
  ·obtain rfl : n3 = k := by omega
   have GX := Lib.hid (GW1.out.trans (HG.out.mono GW1.out.size))
   clear hb
   go_wp2_with fail
   go_ret
   exact ⟨rfl, GX.out⟩
end Go.Proofs.YtkoejeghihcmlaaGreat
