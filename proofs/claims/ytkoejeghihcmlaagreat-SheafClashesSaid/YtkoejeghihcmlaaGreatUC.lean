/- The library's stable sort: merging in place. -/
import Derived.Test.YtkoejeghihcmlaaGreatUB
import Derived.BigQuiet
namespace Go.Proofs.YtkoejeghihcmlaaGreat
open Go.RowKit Go.Shelf Go.Sort

theorem cf_lt {x y : Six} : cfH x y < 0 ↔ x.b < y.b := by
  unfold cfH cmpI
  by_cases h : x.b < y.b
  · rw [if_pos h]; simp [h]
  · rw [if_neg h]
    split <;> simp [h]
theorem getR {pre L R post : List Six} {m b k : Nat} (hm : m = pre.length + L.length) (hb : b = pre.length + L.length + R.length) (h1 : m ≤ k) (h2 : k < b) : (pre ++ L ++ R ++ post).toArray[k]! = R.getD (k - m) z6 := by
  rw [getA (by simp only [List.length_append]; omega)]
  have := getD_mid (A := pre ++ L) (B := R) (C := post) (i := k - m) (by omega)
  rw [← this, List.length_append, show pre.length + L.length + (k - m) = k by omega]
theorem getL {pre L R post : List Six} {a m k : Nat} (ha : a = pre.length) (hm : m = pre.length + L.length) (h1 : a ≤ k) (h2 : k < m) : (pre ++ L ++ R ++ post).toArray[k]! = L.getD (k - a) z6 := by
  rw [getA (by simp only [List.length_append]; omega)]
  have := getD_mid (A := pre) (B := L) (C := R ++ post) (i := k - a) (by omega)
  rw [← this, show pre.length + (k - a) = k by omega, List.append_assoc (pre ++ L)]
/-- One element on its way to the right, to the left. -/
def mvR (pre : List Six) (x : Six) (R post : List Six) (t : Nat) : List Six := pre ++ (R.take t ++ x :: R.drop t) ++ post
theorem mvR_len {pre : List Six} {x : Six} {R post : List Six} (t : Nat) : (mvR pre x R post t).length = pre.length + 1 + R.length + post.length := by
  unfold mvR
  simp only [List.length_append, List.length_cons, List.length_take, List.length_drop]
  omega
theorem mvR_swp {pre : List Six} {x : Six} {R post : List Six} {t : Nat} (h : t < R.length) : swp (mvR pre x R post t).toArray (pre.length + t) (pre.length + t + 1) = (mvR pre x R post (t + 1)).toArray := by
  have e : mvR pre x R post t = (pre ++ R.take t) ++ x :: ([] ++ R.getD t z6 :: (R.drop (t + 1) ++ post)) := by
    unfold mvR
    rw [drop_cons_D h]
    simp
  rw [e, swp_list (by simp; omega) (by simp; omega)]
  unfold mvR
  rw [take_succ_D h]
  simp
theorem mvL_swp {pre : List Six} {x : Six} {R post : List Six} {t : Nat} (h : t < R.length) : swp (mvR pre x R post (t + 1)).toArray (pre.length + t + 1) (pre.length + t) = (mvR pre x R post t).toArray := by
  have e : mvR pre x R post (t + 1) = (pre ++ R.take t) ++ R.getD t z6 :: ([] ++ x :: (R.drop (t + 1) ++ post)) := by
    unfold mvR
    rw [take_succ_D h]
    simp
  rw [e, swp_back (by simp; omega) (by simp; omega)]
  unfold mvR
  rw [drop_cons_D h]
  simp
set_option maxRecDepth 1000000 in
set_option maxHeartbeats 8000000 in
theorem symLeft_any {w0 : World} {g cap : Nat} {d0 : Array Six} (R : RowK scells 6 w0 g 0 d0) (HCM : CmpLays Tryz.prog 161 #[] scells 6 cfH g 0 d0.size w0) (hsz : d0.size < 1000000) (pre : List Six) (x : Six) (Rr post : List Six) (w : World) {a m b : Nat}
    (hs : d0.size = (pre ++ [x] ++ Rr ++ post).length) (hRl : 0 < Rr.length) (hRs : LxS Rr) (hA : Ap [x] Rr) (S : SW w0 g (pre ++ [x] ++ Rr ++ post) w) (ha : a = pre.length) (hm : m = pre.length + 1) (hb : b = pre.length + 1 + Rr.length) :
    Calls Tryz.prog 229 #[.slice (some ⟨g, 0, none⟩) d0.size cap, .int .i64 a, .int .i64 m, .int .i64 b, .func (.func 161) #[] #[]] w fun e w' => e = .returned (.tuple #[]) ∧ ∃ Z, Mg [x] Rr Z ∧ SW w0 g (pre ++ Z ++ post) w' := by
  have hlen : (pre ++ [x] ++ Rr ++ post).length = pre.length + 1 + Rr.length + post.length := by simp only [List.length_append, List.length_singleton]
  obtain ⟨N, hN⟩ : ∃ N, d0.size = N := ⟨_, rfl⟩
  have hN' : N < 1000000 := by omega
  have hbN : b ≤ N := by omega
  have hmb : m < b := by omega
  have HAM : Aside (m = a + 1) := by show m = a + 1; omega
  have ham : a < m := by omega
  have HR : Aside (RowK scells 6 w0 g 0 d0) := R
  have HC : Aside (CmpLays Tryz.prog 161 #[] scells 6 cfH g 0 d0.size w0) := HCM
  have HN : Aside (d0.size = N) := hN
  obtain ⟨D, hD⟩ : ∃ D, pre ++ [x] ++ Rr ++ post = D := ⟨_, rfl⟩
  have HD : Aside (D.toArray.size = d0.size) := by rw [← hD, List.size_toArray]; exact hs.symm
  have HGX : Aside (D.toArray[a]! = x) := by rw [← hD]; exact getL (L := [x]) (k := a) ha (by simpa using hm) (Nat.le_refl _) (by omega) |>.trans (by simp)
  have HGR : Aside (∀ k, m ≤ k → k < b → D.toArray[k]! = Rr.getD (k - m) z6) := fun k h1 h2 => by rw [← hD]; exact getR (by simpa using hm) (by simpa using hb) h1 h2
  rw [hD] at S
  have S0 : Aside (SW w0 g D w) := S
  have HL : Aside (∀ t, t ≤ Rr.length → (mvR pre x Rr post t).toArray.size = d0.size) := fun t _ => by rw [List.size_toArray, mvR_len, hs, hlen]
  have HMV : Aside (D = mvR pre x Rr post 0 ∧ ∀ t, t < Rr.length → swp (mvR pre x Rr post t).toArray (a + t) (a + t + 1) = (mvR pre x Rr post (t + 1)).toArray) := ⟨by rw [← hD]; unfold mvR; simp, fun t ht => by rw [ha]; exact mvR_swp ht⟩
  have HMG : Aside (∀ j, j ≤ Rr.length → (0 < j → (Rr.getD (j - 1) z6).b < x.b) → (j < Rr.length → x.b ≤ (Rr.getD j z6).b) → Mg [x] Rr (Rr.take j ++ x :: Rr.drop j)) := fun j hj h1 h2 => mg_one_left hRs hA hj h1 h2
  have HRB : Aside (Rr.length = b - m) := by show Rr.length = b - m; omega
  rw [hN]
  clear R HCM hN hsz S hs hlen hD hRs hA ha hb hRl hm
  obtain ⟨mv, hmv⟩ : ∃ f, mvR pre x Rr post = f := ⟨_, rfl⟩
  rw [hmv] at HL HMV
  have HE : Aside (∀ t, mv t = pre ++ (Rr.take t ++ x :: Rr.drop t) ++ post) := fun t => by rw [← hmv]; rfl
  clear hmv
  have e0 : ((m : Int) - (a : Int) == 1) = true := by have := HAM.out; simp; omega
  have e0w : IntKind.i64.wrap ((m : Int) - (a : Int)) = (m : Int) - (a : Int) := by rw [IntKind.wrap_i64]; omega
  go_enter Tryz.func229, Tryz.ntmps229
  go_wp2
  go_loopg [10, 11] (b - m) (fun kx s t wr => ∃ i j : Nat, s = .int .i64 i ∧ t = .int .i64 j ∧ m ≤ i ∧ i ≤ j ∧ j ≤ b ∧ j - i ≤ kx ∧ Aside ((m < i → (Rr.getD (i - m - 1) z6).b < x.b) ∧ (j < b → x.b ≤ (Rr.getD (j - m) z6).b)) ∧ Aside (SW w0 g D wr))
  case atStart => exact ⟨m, b, rfl, rfl, Nat.le_refl _, by omega, Nat.le_refl _, by omega, ⟨fun h => absurd h (Nat.lt_irrefl _), fun h => absurd h (Nat.lt_irrefl _)⟩, S0⟩
  case round =>
    clear S0
    obtain ⟨i, j, rfl, rfl, hi, hij, hj, hk, I1, S1⟩ := hrel
    by_cases hlt : i < j
    · have hltz : (i : Int) < (j : Int) := by omega
      obtain ⟨h, hh⟩ : ∃ h, (i + j) / 2 = h := ⟨_, rfl⟩
      have h1 : i ≤ h := by omega
      have h2 : h < j := by omega
      have hhi : ((i : Int) + (j : Int)) / 2 = (h : Int) := by omega
      have hhw : IntKind.i64.wrap ((i : Int) + (j : Int)) = (i : Int) + (j : Int) := by rw [IntKind.wrap_i64]; omega
      obtain ⟨y, hy⟩ : ∃ y, Rr.getD (h - m) z6 = y := ⟨_, rfl⟩
      have hx7 : D.toArray[h]! = y := by rw [HGR.out h (by omega) (by omega)]; exact hy
      have hy7 : D.toArray[a]! = x := HGX.out
      have HY : Aside (Rr.getD (h - m) z6 = y) := hy
      clear hy hh
      by_cases hb7 : y.b < x.b
      · have HB : Aside (y.b < x.b) := hb7
        have e7a : ((h : Int)).toNat = h := by omega
        have p7a : (0 : Int) ≤ (h : Int) := by omega
        have q7a : (h : Int) < (N : Int) := by omega
        have r7a : IntKind.i64.wrap ((h : Int)) = (h : Int) := by rw [IntKind.wrap_i64]; omega
        have e7b : ((a : Int)).toNat = a := by omega
        have p7b : (0 : Int) ≤ (a : Int) := by omega
        have q7b : (a : Int) < (N : Int) := by omega
        have r7b : IntKind.i64.wrap ((a : Int)) = (a : Int) := by rw [IntKind.wrap_i64]; omega
        have l7a := S1.out.ld HR.out HD.out Tryz.prog (h) (by have := HD.out; have := HN.out; omega)
        have l7b := S1.out.ld HR.out HD.out Tryz.prog (a) (by have := HD.out; have := HN.out; omega)
        rw [hx7] at l7a
        rw [hy7] at l7b
        have c7 := S1.out.cmp HC.out HD.out y x
        rw [show #[Value.agg (scells y).toArray, Value.agg (scells x).toArray] ++ #[] = #[Value.agg (scells y).toArray, Value.agg (scells x).toArray] from rfl] at c7
        obtain ⟨v7, hv7⟩ : ∃ c, cfH y x = c := ⟨_, rfl⟩
        rw [hv7] at c7
        have z7 : v7 < 0 := by rw [← hv7, cf_lt]; exact hb7
        have d7 : decide (v7 < 0) = true := decide_eq_true z7
        clear hx7 hy7 hv7 hb7
        simp only [Nat.zero_add] at l7a l7b
        have aE := Tryz.isAgg103
        have zE := Tryz.sizeOf103
        have mixed : Tryz.prog.follows .mixedOrders = true := by kernel_rfl
        obtain ⟨k6, hk6⟩ : ∃ k, (6 : Nat) = k := ⟨_, rfl⟩
        rw [hk6] at zE l7a l7b
        have HK6 : Aside ((6 : Nat) = k6) := hk6
        clear hk6
        go_wp2_with fail
        refine wp_region_quiet_grown (by assumption) (by kernel_rfl) ?_
        repeat (go_big_quiet_step ((go_at_call 161; exact Calls.grown_of (c7 _ _))))
        refine wpQuiet_nil ?_
        intro _ hw'
        obtain ⟨⟨nq, osq⟩, hw''⟩ := hw'
        subst hw''
        have S2 : Aside (SWK scells 6 w0 g 0 D.toArray (grow (wr.drewN nq) osq)) := S1.out.grown nq osq
        clear l7a l7b c7 S1 zE aE mixed
        obtain rfl := HK6.out
        generalize grow (wr.drewN nq) osq = w2 at S2 ⊢
        clear nq osq
        go_wp2_with fail
        go_roundg (j - (h + 1))
        case measure => omega
        case rel => exact ⟨h + 1, j, by go_num, rfl, by omega, by omega, hj, Nat.le_refl _, ⟨fun _ => by rw [show h + 1 - m - 1 = h - m by omega, HY.out]; exact HB.out, I1.out.2⟩, S2⟩
      · have HB : Aside (¬ y.b < x.b) := hb7
        have e7a : ((h : Int)).toNat = h := by omega
        have p7a : (0 : Int) ≤ (h : Int) := by omega
        have q7a : (h : Int) < (N : Int) := by omega
        have r7a : IntKind.i64.wrap ((h : Int)) = (h : Int) := by rw [IntKind.wrap_i64]; omega
        have e7b : ((a : Int)).toNat = a := by omega
        have p7b : (0 : Int) ≤ (a : Int) := by omega
        have q7b : (a : Int) < (N : Int) := by omega
        have r7b : IntKind.i64.wrap ((a : Int)) = (a : Int) := by rw [IntKind.wrap_i64]; omega
        have l7a := S1.out.ld HR.out HD.out Tryz.prog (h) (by have := HD.out; have := HN.out; omega)
        have l7b := S1.out.ld HR.out HD.out Tryz.prog (a) (by have := HD.out; have := HN.out; omega)
        rw [hx7] at l7a
        rw [hy7] at l7b
        have c7 := S1.out.cmp HC.out HD.out y x
        rw [show #[Value.agg (scells y).toArray, Value.agg (scells x).toArray] ++ #[] = #[Value.agg (scells y).toArray, Value.agg (scells x).toArray] from rfl] at c7
        obtain ⟨v7, hv7⟩ : ∃ c, cfH y x = c := ⟨_, rfl⟩
        rw [hv7] at c7
        have z7 : ¬ v7 < 0 := by rw [← hv7, cf_lt]; exact hb7
        have d7 : decide (v7 < 0) = false := decide_eq_false z7
        clear hx7 hy7 hv7 hb7
        simp only [Nat.zero_add] at l7a l7b
        have aE := Tryz.isAgg103
        have zE := Tryz.sizeOf103
        have mixed : Tryz.prog.follows .mixedOrders = true := by kernel_rfl
        obtain ⟨k6, hk6⟩ : ∃ k, (6 : Nat) = k := ⟨_, rfl⟩
        rw [hk6] at zE l7a l7b
        have HK6 : Aside ((6 : Nat) = k6) := hk6
        clear hk6
        go_wp2_with fail
        refine wp_region_quiet_grown (by assumption) (by kernel_rfl) ?_
        repeat (go_big_quiet_step ((go_at_call 161; exact Calls.grown_of (c7 _ _))))
        refine wpQuiet_nil ?_
        intro _ hw'
        obtain ⟨⟨nq, osq⟩, hw''⟩ := hw'
        subst hw''
        have S2 : Aside (SWK scells 6 w0 g 0 D.toArray (grow (wr.drewN nq) osq)) := S1.out.grown nq osq
        clear l7a l7b c7 S1 zE aE mixed
        obtain rfl := HK6.out
        generalize grow (wr.drewN nq) osq = w2 at S2 ⊢
        clear nq osq
        go_wp2_with fail
        go_roundg (h - i)
        case measure => omega
        case rel => exact ⟨i, h, rfl, rfl, hi, h1, by omega, Nat.le_refl _, ⟨I1.out.1, fun _ => by rw [HY.out]; exact (by have := HB.out; omega)⟩, S2⟩
    · obtain rfl : i = j := by omega
      have hwi : IntKind.i64.wrap ((i : Int) - 1) = (i : Int) - 1 := by rw [IntKind.wrap_i64]; omega
      have S1 : Aside (SW w0 g (mv 0) wr) := by rw [← HMV.out.1]; exact S1.out
      go_wp2
      go_loopg [13] (i - m) (fun kx s wr => ∃ t : Nat, s = .int .i64 ((a : Int) + (t : Int)) ∧ t ≤ i - m ∧ i - m - t ≤ kx ∧ Aside (SW w0 g (mv t) wr))
      case atStart => exact ⟨0, by simp, Nat.zero_le _, Nat.le_refl _, S1⟩
      case round =>
        clear S1
        obtain ⟨t, rfl, ht, hkt, S1⟩ := hrel
        by_cases hlt2 : t < i - m
        · have hltz2 : (a : Int) + (t : Int) < (i : Int) - 1 := by omega
          have e8a : ((a : Int) + (t : Int)).toNat = a + t := by omega
          have p8a : (0 : Int) ≤ (a : Int) + (t : Int) := by omega
          have q8a : (a : Int) + (t : Int) < (N : Int) := by omega
          have r8a : IntKind.i64.wrap ((a : Int) + (t : Int)) = (a : Int) + (t : Int) := by rw [IntKind.wrap_i64]; omega
          have e8b : ((a : Int) + (t : Int) + 1).toNat = a + t + 1 := by omega
          have p8b : (0 : Int) ≤ (a : Int) + (t : Int) + 1 := by omega
          have q8b : (a : Int) + (t : Int) + 1 < (N : Int) := by omega
          have r8b : IntKind.i64.wrap ((a : Int) + (t : Int) + 1) = (a : Int) + (t : Int) + 1 := by rw [IntKind.wrap_i64]; omega
          have hT8 : (mv t).toArray.size = d0.size := HL.out _ (by have := HRB.out; omega)
          have hZ8 := HN.out
          have S2 : Aside (SWK scells 6 w0 g 0 (swp (mv t).toArray (a + t) (a + t + 1)) ((wr.drew.setCells g (0 + (a + t) * 6) (scells (mv t).toArray[a + t + 1]!)).setCells g (0 + (a + t + 1) * 6) (scells (mv t).toArray[a + t]!))) := S1.out.swapped HR.out (a + t) (a + t + 1) (by omega) (by omega)
          have l8a := S1.out.ld1 HR.out hT8 Tryz.prog (a + t) (by omega)
          have l8b := S1.out.ld1 HR.out hT8 Tryz.prog (a + t + 1) (by omega)
          have s8a := S1.out.st1 HR.out hT8 Tryz.prog (a + t) (by omega) (mv t).toArray[a + t + 1]!
          have s8b := S1.out.st2 HR.out hT8 Tryz.prog (a + t) (a + t + 1) (by omega) (by omega) (mv t).toArray[a + t + 1]! (mv t).toArray[a + t]!
          have n8a : (scells (mv t).toArray[a + t]!).length = 6 := HR.out.hk _
          have n8b : (scells (mv t).toArray[a + t + 1]!).length = 6 := HR.out.hk _
          rw [HMV.out.2 t (by have := HRB.out; omega)] at S2
          generalize scells (mv t).toArray[a + t]! = cA at S2 l8a s8b n8a
          generalize scells (mv t).toArray[a + t + 1]! = cB at S2 l8b s8a s8b n8b
          clear S1 hT8 hZ8
          simp only [Nat.zero_add] at S2 l8a l8b s8a s8b
          have aE := Tryz.isAgg103
          have zE := Tryz.sizeOf103
          have mixed : Tryz.prog.follows .mixedOrders = true := by kernel_rfl
          obtain ⟨k6, hk6⟩ : ∃ k, (6 : Nat) = k := ⟨_, rfl⟩
          rw [hk6] at zE S2 l8a l8b s8a s8b n8a n8b
          have HK6 : Aside ((6 : Nat) = k6) := hk6
          clear hk6
          go_wp2_with fail
          go_big_region_o
          all_goals obtain rfl := HK6.out
          all_goals clear l8a l8b s8a s8b
          all_goals generalize (wr.drew.setCells g ((a + t) * 6) cB).setCells g ((a + t + 1) * 6) cA = w2 at S2 ⊢
          all_goals go_wp2
          all_goals go_roundg (i - m - (t + 1))
          case measure => omega
          case rel => exact ⟨t + 1, by simp; omega, by omega, Nat.le_refl _, S2⟩
        · have HTE : Aside (t = i - m) := by show t = i - m; omega
          have hltz2 : ¬ (a : Int) + (t : Int) < (i : Int) - 1 := by have := HAM.out; omega
          go_wp2
          (try simp only [Exit.inBlock, Exit.then]); refine bodyPost_ret (results_none rfl _ _ _) rfl ?_
          refine ⟨rfl, _, HMG.out (i - m) (by have := HRB.out; omega) (fun h => I1.out.1 (by omega)) (fun h => I1.out.2 (by have := HRB.out; omega)), ?_⟩
          have hx := S1.out
          rw [HTE.out, HE.out] at hx
          simpa only [List.append_assoc] using hx
set_option maxRecDepth 1000000 in
set_option maxHeartbeats 8000000 in
theorem symRight_any {w0 : World} {g cap : Nat} {d0 : Array Six} (R : RowK scells 6 w0 g 0 d0) (HCM : CmpLays Tryz.prog 161 #[] scells 6 cfH g 0 d0.size w0) (hsz : d0.size < 1000000) (pre L : List Six) (y : Six) (post : List Six) (w : World) {a m b : Nat}
    (hs : d0.size = (pre ++ L ++ [y] ++ post).length) (hLl : 1 < L.length) (hLs : LxS L) (hA : Ap L [y]) (S : SW w0 g (pre ++ L ++ [y] ++ post) w) (ha : a = pre.length) (hm : m = pre.length + L.length) (hb : b = pre.length + L.length + 1) :
    Calls Tryz.prog 229 #[.slice (some ⟨g, 0, none⟩) d0.size cap, .int .i64 a, .int .i64 m, .int .i64 b, .func (.func 161) #[] #[]] w fun e w' => e = .returned (.tuple #[]) ∧ ∃ Z, Mg L [y] Z ∧ SW w0 g (pre ++ Z ++ post) w' := by
  have hlen : (pre ++ L ++ [y] ++ post).length = pre.length + L.length + 1 + post.length := by simp only [List.length_append, List.length_singleton]
  obtain ⟨N, hN⟩ : ∃ N, d0.size = N := ⟨_, rfl⟩
  have hN' : N < 1000000 := by omega
  have hbN : b ≤ N := by omega
  have ham : a + 1 < m := by omega
  have HMB : Aside (b = m + 1) := by show b = m + 1; omega
  have hmb : m < b := by omega
  have HR : Aside (RowK scells 6 w0 g 0 d0) := R
  have HC : Aside (CmpLays Tryz.prog 161 #[] scells 6 cfH g 0 d0.size w0) := HCM
  have HN : Aside (d0.size = N) := hN
  obtain ⟨D, hD⟩ : ∃ D, pre ++ L ++ [y] ++ post = D := ⟨_, rfl⟩
  have HD : Aside (D.toArray.size = d0.size) := by rw [← hD, List.size_toArray]; exact hs.symm
  have HGY : Aside (D.toArray[m]! = y) := by rw [← hD]; exact (getR (R := [y]) (k := m) hm (b := b) (by simpa using hb) (Nat.le_refl _) (by omega)).trans (by simp)
  have HGL : Aside (∀ k, a ≤ k → k < m → D.toArray[k]! = L.getD (k - a) z6) := fun k h1 h2 => by rw [← hD]; exact getL ha hm h1 h2
  rw [hD] at S
  have S0 : Aside (SW w0 g D w) := S
  have HL : Aside (∀ t, t ≤ L.length → (mvR pre y L post t).toArray.size = d0.size) := fun t _ => by rw [List.size_toArray, mvR_len, hs, hlen]; omega
  have HMV : Aside (D = mvR pre y L post L.length ∧ ∀ t, t < L.length → swp (mvR pre y L post (t + 1)).toArray (a + (t + 1)) (a + t) = (mvR pre y L post t).toArray) := ⟨by rw [← hD]; unfold mvR; simp, fun t ht => by rw [ha]; exact mvL_swp ht⟩
  have HMG : Aside (∀ i, i ≤ L.length → (0 < i → (L.getD (i - 1) z6).b ≤ y.b) → (i < L.length → y.b < (L.getD i z6).b) → Mg L [y] (L.take i ++ y :: L.drop i)) := fun j hj h1 h2 => mg_one_right hLs hA hj h1 h2
  have HRB : Aside (L.length = m - a) := by show L.length = m - a; omega
  rw [hN]
  rw [HRB.out] at HMV
  clear R HCM hN hsz S hs hlen hD hLs hA ha hb hLl hm
  obtain ⟨mv, hmv⟩ : ∃ f, mvR pre y L post = f := ⟨_, rfl⟩
  rw [hmv] at HL HMV
  have HE : Aside (∀ t, mv t = pre ++ (L.take t ++ y :: L.drop t) ++ post) := fun t => by rw [← hmv]; rfl
  clear hmv
  have e0 : ((m : Int) - (a : Int) == 1) = false := by simp; omega
  have e0w : IntKind.i64.wrap ((m : Int) - (a : Int)) = (m : Int) - (a : Int) := by rw [IntKind.wrap_i64]; omega
  have e1 : ((b : Int) - (m : Int) == 1) = true := by have := HMB.out; simp; omega
  have e1w : IntKind.i64.wrap ((b : Int) - (m : Int)) = (b : Int) - (m : Int) := by rw [IntKind.wrap_i64]; omega
  go_enter Tryz.func229, Tryz.ntmps229
  go_wp2
  go_loopg [14, 15] (m - a) (fun kx s t wr => ∃ i j : Nat, s = .int .i64 i ∧ t = .int .i64 j ∧ a ≤ i ∧ i ≤ j ∧ j ≤ m ∧ j - i ≤ kx ∧ Aside ((a < i → (L.getD (i - a - 1) z6).b ≤ y.b) ∧ (j < m → y.b < (L.getD (j - a) z6).b)) ∧ Aside (SW w0 g D wr))
  case atStart => exact ⟨a, m, rfl, rfl, Nat.le_refl _, by omega, Nat.le_refl _, by omega, ⟨fun h => absurd h (Nat.lt_irrefl _), fun h => absurd h (Nat.lt_irrefl _)⟩, S0⟩
  case round =>
    clear S0
    obtain ⟨i, j, rfl, rfl, hi, hij, hj, hk, I1, S1⟩ := hrel
    by_cases hlt : i < j
    · have hltz : (i : Int) < (j : Int) := by omega
      obtain ⟨h, hh⟩ : ∃ h, (i + j) / 2 = h := ⟨_, rfl⟩
      have h1 : i ≤ h := by omega
      have h2 : h < j := by omega
      have hhi : ((i : Int) + (j : Int)) / 2 = (h : Int) := by omega
      have hhw : IntKind.i64.wrap ((i : Int) + (j : Int)) = (i : Int) + (j : Int) := by rw [IntKind.wrap_i64]; omega
      obtain ⟨x, hx⟩ : ∃ x, L.getD (h - a) z6 = x := ⟨_, rfl⟩
      have hx7 : D.toArray[m]! = y := HGY.out
      have hy7 : D.toArray[h]! = x := by rw [HGL.out h (by omega) (by omega)]; exact hx
      have HX : Aside (L.getD (h - a) z6 = x) := hx
      clear hx hh
      by_cases hb7 : y.b < x.b
      · have HB : Aside (y.b < x.b) := hb7
        have e7a : ((m : Int)).toNat = m := by omega
        have p7a : (0 : Int) ≤ (m : Int) := by omega
        have q7a : (m : Int) < (N : Int) := by omega
        have r7a : IntKind.i64.wrap ((m : Int)) = (m : Int) := by rw [IntKind.wrap_i64]; omega
        have e7b : ((h : Int)).toNat = h := by omega
        have p7b : (0 : Int) ≤ (h : Int) := by omega
        have q7b : (h : Int) < (N : Int) := by omega
        have r7b : IntKind.i64.wrap ((h : Int)) = (h : Int) := by rw [IntKind.wrap_i64]; omega
        have l7a := S1.out.ld HR.out HD.out Tryz.prog (m) (by have := HD.out; have := HN.out; omega)
        have l7b := S1.out.ld HR.out HD.out Tryz.prog (h) (by have := HD.out; have := HN.out; omega)
        rw [hx7] at l7a
        rw [hy7] at l7b
        have c7 := S1.out.cmp HC.out HD.out y x
        rw [show #[Value.agg (scells y).toArray, Value.agg (scells x).toArray] ++ #[] = #[Value.agg (scells y).toArray, Value.agg (scells x).toArray] from rfl] at c7
        obtain ⟨v7, hv7⟩ : ∃ c, cfH y x = c := ⟨_, rfl⟩
        rw [hv7] at c7
        have z7 : v7 < 0 := by rw [← hv7, cf_lt]; exact hb7
        have d7 : decide (v7 < 0) = true := decide_eq_true z7
        clear hx7 hy7 hv7 hb7
        simp only [Nat.zero_add] at l7a l7b
        have aE := Tryz.isAgg103
        have zE := Tryz.sizeOf103
        have mixed : Tryz.prog.follows .mixedOrders = true := by kernel_rfl
        obtain ⟨k6, hk6⟩ : ∃ k, (6 : Nat) = k := ⟨_, rfl⟩
        rw [hk6] at zE l7a l7b
        have HK6 : Aside ((6 : Nat) = k6) := hk6
        clear hk6
        go_wp2_with fail
        refine wp_region_quiet_grown (by assumption) (by kernel_rfl) ?_
        repeat (go_big_quiet_step ((go_at_call 161; exact Calls.grown_of (c7 _ _))))
        refine wpQuiet_nil ?_
        intro _ hw'
        obtain ⟨⟨nq, osq⟩, hw''⟩ := hw'
        subst hw''
        have S2 : Aside (SWK scells 6 w0 g 0 D.toArray (grow (wr.drewN nq) osq)) := S1.out.grown nq osq
        clear l7a l7b c7 S1 zE aE mixed
        obtain rfl := HK6.out
        generalize grow (wr.drewN nq) osq = w2 at S2 ⊢
        clear nq osq
        go_wp2_with fail
        go_roundg (h - i)
        case measure => omega
        case rel => exact ⟨i, h, rfl, rfl, hi, h1, by omega, Nat.le_refl _, ⟨I1.out.1, fun _ => by rw [HX.out]; exact HB.out⟩, S2⟩
      · have HB : Aside (¬ y.b < x.b) := hb7
        have e7a : ((m : Int)).toNat = m := by omega
        have p7a : (0 : Int) ≤ (m : Int) := by omega
        have q7a : (m : Int) < (N : Int) := by omega
        have r7a : IntKind.i64.wrap ((m : Int)) = (m : Int) := by rw [IntKind.wrap_i64]; omega
        have e7b : ((h : Int)).toNat = h := by omega
        have p7b : (0 : Int) ≤ (h : Int) := by omega
        have q7b : (h : Int) < (N : Int) := by omega
        have r7b : IntKind.i64.wrap ((h : Int)) = (h : Int) := by rw [IntKind.wrap_i64]; omega
        have l7a := S1.out.ld HR.out HD.out Tryz.prog (m) (by have := HD.out; have := HN.out; omega)
        have l7b := S1.out.ld HR.out HD.out Tryz.prog (h) (by have := HD.out; have := HN.out; omega)
        rw [hx7] at l7a
        rw [hy7] at l7b
        have c7 := S1.out.cmp HC.out HD.out y x
        rw [show #[Value.agg (scells y).toArray, Value.agg (scells x).toArray] ++ #[] = #[Value.agg (scells y).toArray, Value.agg (scells x).toArray] from rfl] at c7
        obtain ⟨v7, hv7⟩ : ∃ c, cfH y x = c := ⟨_, rfl⟩
        rw [hv7] at c7
        have z7 : ¬ v7 < 0 := by rw [← hv7, cf_lt]; exact hb7
        have d7 : decide (v7 < 0) = false := decide_eq_false z7
        clear hx7 hy7 hv7 hb7
        simp only [Nat.zero_add] at l7a l7b
        have aE := Tryz.isAgg103
        have zE := Tryz.sizeOf103
        have mixed : Tryz.prog.follows .mixedOrders = true := by kernel_rfl
        obtain ⟨k6, hk6⟩ : ∃ k, (6 : Nat) = k := ⟨_, rfl⟩
        rw [hk6] at zE l7a l7b
        have HK6 : Aside ((6 : Nat) = k6) := hk6
        clear hk6
        go_wp2_with fail
        refine wp_region_quiet_grown (by assumption) (by kernel_rfl) ?_
        repeat (go_big_quiet_step ((go_at_call 161; exact Calls.grown_of (c7 _ _))))
        refine wpQuiet_nil ?_
        intro _ hw'
        obtain ⟨⟨nq, osq⟩, hw''⟩ := hw'
        subst hw''
        have S2 : Aside (SWK scells 6 w0 g 0 D.toArray (grow (wr.drewN nq) osq)) := S1.out.grown nq osq
        clear l7a l7b c7 S1 zE aE mixed
        obtain rfl := HK6.out
        generalize grow (wr.drewN nq) osq = w2 at S2 ⊢
        clear nq osq
        go_wp2_with fail
        go_roundg (j - (h + 1))
        case measure => omega
        case rel => exact ⟨h + 1, j, by go_num, rfl, by omega, by omega, hj, Nat.le_refl _, ⟨fun _ => by rw [show h + 1 - a - 1 = h - a by omega, HX.out]; exact (by have := HB.out; omega), I1.out.2⟩, S2⟩
    · obtain rfl : i = j := by omega
      have S1 : Aside (SW w0 g (mv (m - a)) wr) := by rw [← HMV.out.1]; exact S1.out
      go_wp2
      go_loopg [17] (m - i) (fun kx s wr => ∃ t : Nat, s = .int .i64 ((a : Int) + (t : Int)) ∧ i - a ≤ t ∧ t ≤ m - a ∧ t - (i - a) ≤ kx ∧ Aside (SW w0 g (mv t) wr))
      case atStart => exact ⟨m - a, by congr 1; omega, by omega, Nat.le_refl _, by omega, S1⟩
      case round =>
        clear S1
        obtain ⟨t, rfl, ht, htm, hkt, S1⟩ := hrel
        by_cases hlt2 : i - a < t
        · obtain ⟨s, rfl⟩ : ∃ s, t = s + 1 := ⟨t - 1, by omega⟩
          have hltz2 : (i : Int) < (a : Int) + ((s + 1 : Nat) : Int) := by omega
          have hc2 : (a : Int) + ((s + 1 : Nat) : Int) - 1 = (a : Int) + (s : Int) := by omega
          have e8a : ((a : Int) + ((s + 1 : Nat) : Int)).toNat = a + (s + 1) := by omega
          have p8a : (0 : Int) ≤ (a : Int) + ((s + 1 : Nat) : Int) := by omega
          have q8a : (a : Int) + ((s + 1 : Nat) : Int) < (N : Int) := by omega
          have r8a : IntKind.i64.wrap ((a : Int) + ((s + 1 : Nat) : Int)) = (a : Int) + ((s + 1 : Nat) : Int) := by rw [IntKind.wrap_i64]; omega
          have e8b : ((a : Int) + ((s + 1 : Nat) : Int) - 1).toNat = a + s := by omega
          have p8b : (0 : Int) ≤ (a : Int) + ((s + 1 : Nat) : Int) - 1 := by omega
          have q8b : (a : Int) + ((s + 1 : Nat) : Int) - 1 < (N : Int) := by omega
          have r8b : IntKind.i64.wrap ((a : Int) + ((s + 1 : Nat) : Int) - 1) = (a : Int) + ((s + 1 : Nat) : Int) - 1 := by rw [IntKind.wrap_i64]; omega
          have hT8 : (mv (s + 1)).toArray.size = d0.size := HL.out _ (by have := HRB.out; omega)
          have hZ8 := HN.out
          have S2 : Aside (SWK scells 6 w0 g 0 (swp (mv (s + 1)).toArray (a + (s + 1)) (a + s)) ((wr.drew.setCells g (0 + (a + (s + 1)) * 6) (scells (mv (s + 1)).toArray[a + s]!)).setCells g (0 + (a + s) * 6) (scells (mv (s + 1)).toArray[a + (s + 1)]!))) := S1.out.swapped HR.out (a + (s + 1)) (a + s) (by omega) (by omega)
          have l8a := S1.out.ld1 HR.out hT8 Tryz.prog (a + (s + 1)) (by omega)
          have l8b := S1.out.ld1 HR.out hT8 Tryz.prog (a + s) (by omega)
          have s8a := S1.out.st1 HR.out hT8 Tryz.prog (a + (s + 1)) (by omega) (mv (s + 1)).toArray[a + s]!
          have s8b := S1.out.st2 HR.out hT8 Tryz.prog (a + (s + 1)) (a + s) (by omega) (by omega) (mv (s + 1)).toArray[a + s]! (mv (s + 1)).toArray[a + (s + 1)]!
          have n8a : (scells (mv (s + 1)).toArray[a + (s + 1)]!).length = 6 := HR.out.hk _
          have n8b : (scells (mv (s + 1)).toArray[a + s]!).length = 6 := HR.out.hk _
          rw [HMV.out.2 s (by have := HRB.out; omega)] at S2
          generalize scells (mv (s + 1)).toArray[a + (s + 1)]! = cA at S2 l8a s8b n8a
          generalize scells (mv (s + 1)).toArray[a + s]! = cB at S2 l8b s8a s8b n8b
          clear S1 hT8 hZ8
          simp only [Nat.zero_add] at S2 l8a l8b s8a s8b
          have aE := Tryz.isAgg103
          have zE := Tryz.sizeOf103
          have mixed : Tryz.prog.follows .mixedOrders = true := by kernel_rfl
          obtain ⟨k6, hk6⟩ : ∃ k, (6 : Nat) = k := ⟨_, rfl⟩
          rw [hk6] at zE S2 l8a l8b s8a s8b n8a n8b
          have HK6 : Aside ((6 : Nat) = k6) := hk6
          clear hk6
          go_wp2_with fail
          go_big_region_o
          all_goals obtain rfl := HK6.out
          all_goals clear l8a l8b s8a s8b
          all_goals generalize (wr.drew.setCells g ((a + (s + 1)) * 6) cB).setCells g ((a + s) * 6) cA = w2 at S2 ⊢
          all_goals go_wp2
          all_goals go_roundg (s - (i - a))
          case measure => omega
          case rel => exact ⟨s, by simp; omega, by omega, by omega, Nat.le_refl _, S2⟩
        · have HTE : Aside (t = i - a) := by show t = i - a; omega
          have hltz2 : ¬ (i : Int) < (a : Int) + (t : Int) := by omega
          go_wp2
          (try simp only [Exit.inBlock, Exit.then]); refine bodyPost_ret (results_none rfl _ _ _) rfl ?_
          refine ⟨rfl, _, HMG.out (i - a) (by have := HRB.out; omega) (fun h => I1.out.1 (by omega)) (fun h => I1.out.2 (by have := HRB.out; omega)), ?_⟩
          have hx := S1.out
          rw [HTE.out, HE.out] at hx
          simpa only [List.append_assoc] using hx
end Go.Proofs.YtkoejeghihcmlaaGreat
