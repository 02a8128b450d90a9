/- The library's stable sort: merging in place, whole. -/
import Derived.Test.YtkoejeghihcmlaaGreatUC
namespace Go.Proofs.YtkoejeghihcmlaaGreat
open Go.RowKit Go.Shelf Go.Sort

/-- What symMerge does with a list. -/
def SymDoes (w0 : World) (g cap : Nat) (d0 : Array Six) (N : Nat) : Prop :=
  ∀ (pre L Rr post : List Six) (w : World) (a m b : Nat), d0.size = (pre ++ L ++ Rr ++ post).length → 0 < L.length → 0 < Rr.length → L.length + Rr.length ≤ N → LxS L → LxS Rr → Ap L Rr → SW w0 g (pre ++ L ++ Rr ++ post) w →
    a = pre.length → m = pre.length + L.length → b = pre.length + L.length + Rr.length →
    Calls Tryz.prog 229 #[.slice (some ⟨g, 0, none⟩) d0.size cap, .int .i64 a, .int .i64 m, .int .i64 b, .func (.func 161) #[] #[]] w fun e w' => e = .returned (.tuple #[]) ∧ ∃ Z, Mg L Rr Z ∧ SW w0 g (pre ++ Z ++ post) w'
theorem mg_nil_left {L R Z : List Six} (h : Mg L R Z) (e : L = []) : Mg [] R Z := by subst e; exact h
set_option maxRecDepth 1000000 in
set_option maxHeartbeats 8000000 in
theorem symStep_any {w0 : World} {g cap : Nat} {d0 : Array Six} (R : RowK scells 6 w0 g 0 d0) (HCM : CmpLays Tryz.prog 161 #[] scells 6 cfH g 0 d0.size w0) (hsz : d0.size < 1000000) (n0 : Nat) (IH : SymDoes w0 g cap d0 n0) (pre L Rr post : List Six) (w : World) {a m b : Nat}
    (hs : d0.size = (pre ++ L ++ Rr ++ post).length) (hLl : 1 < L.length) (hRl : 1 < Rr.length) (hn0 : L.length + Rr.length ≤ n0 + 1) (hLs : LxS L) (hRs : LxS Rr) (hA : Ap L Rr) (S : SW w0 g (pre ++ L ++ Rr ++ post) w) (ha : a = pre.length) (hm : m = pre.length + L.length) (hb : b = pre.length + L.length + Rr.length) :
    Calls Tryz.prog 229 #[.slice (some ⟨g, 0, none⟩) d0.size cap, .int .i64 a, .int .i64 m, .int .i64 b, .func (.func 161) #[] #[]] w fun e w' => e = .returned (.tuple #[]) ∧ ∃ Z, Mg L Rr Z ∧ SW w0 g (pre ++ Z ++ post) w' := by
  have hlen : (pre ++ L ++ Rr ++ post).length = pre.length + L.length + Rr.length + post.length := by simp only [List.length_append]
  obtain ⟨N, hN⟩ : ∃ N, d0.size = N := ⟨_, rfl⟩
  have hN' : N < 1000000 := by omega
  have hbN : b ≤ N := by omega
  have ham : a + 1 < m := by omega
  have hmb : m + 1 < b := by omega
  have HR : Aside (RowK scells 6 w0 g 0 d0) := R
  have HC : Aside (CmpLays Tryz.prog 161 #[] scells 6 cfH g 0 d0.size w0) := HCM
  have HN : Aside (d0.size = N) := hN
  have HSZ : Aside (d0.size < 1000000) := hsz
  have HIH : Aside (SymDoes w0 g cap d0 n0) := IH
  have HLEN : Aside (a = pre.length ∧ L.length = m - a ∧ Rr.length = b - m ∧ d0.size = pre.length + L.length + Rr.length + post.length ∧ L.length + Rr.length ≤ n0 + 1) := ⟨ha, by omega, by omega, by omega, hn0⟩
  have HSO : Aside (LxS L ∧ LxS Rr ∧ Ap L Rr) := ⟨hLs, hRs, hA⟩
  obtain ⟨D, hD⟩ : ∃ D, pre ++ L ++ Rr ++ post = D := ⟨_, rfl⟩
  have HD : Aside (D.toArray.size = d0.size) := by rw [← hD, List.size_toArray]; exact hs.symm
  have HGL : Aside (∀ k, a ≤ k → k < m → D.toArray[k]! = L.getD (k - a) z6) := fun k h1 h2 => by rw [← hD]; exact getL ha hm h1 h2
  have HGR : Aside (∀ k, m ≤ k → k < b → D.toArray[k]! = Rr.getD (k - m) z6) := fun k h1 h2 => by rw [← hD]; exact getR hm hb h1 h2
  have HDE : Aside (pre ++ L ++ Rr ++ post = D) := hD
  rw [hD] at S
  have S0 : Aside (SW w0 g D w) := S
  rw [hN]
  clear R HCM hN hsz S hs hlen hD hLs hRs hA ha hb hLl hRl hm IH hn0
  obtain ⟨mid, hmid⟩ : ∃ h, (a + b) / 2 = h := ⟨_, rfl⟩
  have hm1 : a < mid := by omega
  have hm2 : mid + 1 < b := by omega
  have hm3 : 2 * mid ≤ a + b := by omega
  have hm4 : a + b ≤ 2 * mid + 1 := by omega
  have hhi : ((a : Int) + (b : Int)) / 2 = (mid : Int) := by omega
  have hhw : IntKind.i64.wrap ((a : Int) + (b : Int)) = (a : Int) + (b : Int) := by rw [IntKind.wrap_i64]; omega
  obtain ⟨s0, hs0⟩ : ∃ s, (if mid < m then mid + m - b else a) = s := ⟨_, rfl⟩
  obtain ⟨r0, hr0⟩ : ∃ s, (if mid < m then mid else m) = s := ⟨_, rfl⟩
  have f1 : a ≤ s0 := by rw [← hs0]; split <;> omega
  have f2 : s0 ≤ r0 := by rw [← hs0, ← hr0]; split <;> omega
  have f3 : r0 ≤ m := by rw [← hr0]; split <;> omega
  have f4 : r0 ≤ mid := by rw [← hr0]; split <;> omega
  have f5 : mid + m ≤ s0 + b := by rw [← hs0]; split <;> omega
  have f6 : r0 = m ∨ r0 = mid := by rw [← hr0]; split <;> omega
  have f7 : s0 = a ∨ s0 + b = mid + m := by rw [← hs0]; split <;> omega
  have HF : Aside ((r0 = m ∨ r0 = mid) ∧ (s0 = a ∨ s0 + b = mid + m)) := ⟨f6, f7⟩
  clear hmid f6 f7
  have e0 : ((m : Int) - (a : Int) == 1) = false := by simp; omega
  have e0w : IntKind.i64.wrap ((m : Int) - (a : Int)) = (m : Int) - (a : Int) := by rw [IntKind.wrap_i64]; omega
  have e1 : ((b : Int) - (m : Int) == 1) = false := by simp; omega
  have e1w : IntKind.i64.wrap ((b : Int) - (m : Int)) = (b : Int) - (m : Int) := by rw [IntKind.wrap_i64]; omega
  have e2w : IntKind.i64.wrap ((mid : Int) + (m : Int)) = (mid : Int) + (m : Int) := by rw [IntKind.wrap_i64]; omega
  have e3w : IntKind.i64.wrap ((mid : Int) + (m : Int) - (b : Int)) = (mid : Int) + (m : Int) - (b : Int) := by rw [IntKind.wrap_i64]; omega
  have e4w : IntKind.i64.wrap ((mid : Int) + (m : Int) - 1) = (mid : Int) + (m : Int) - 1 := by rw [IntKind.wrap_i64]; omega
  have HS0 : Aside ((if mid < m then mid + m - b else a) = s0) := hs0
  have HR0 : Aside ((if mid < m then mid else m) = r0) := hr0
  clear hs0 hr0
  go_enter Tryz.func229, Tryz.ntmps229
  go_upto_region 27 with fail
  go_cut [140] from 138 to 140 (fun q wx => q = .bool (decide (mid < m)) ∧ w = wx)
  case first =>
    by_cases hq : mid < m
    · have hqz : (mid : Int) < (m : Int) := by omega
      have hqd := decide_eq_true hq
      go_wp2_with fail
      go_meet
      exact ⟨by rw [hqd], rfl⟩
    · have hqz : ¬ (mid : Int) < (m : Int) := by omega
      have hqd := decide_eq_false hq
      go_wp2_with fail
      go_meet
      exact ⟨by rw [hqd], rfl⟩
  case rest =>
  obtain ⟨rfl, rfl⟩ := hcut
  rename_i hK9
  refine hK9 _ _ ?_
  clear hK9
  go_cut [20, 21] from 138 to 146 (fun s t wx => s = .int .i64 s0 ∧ t = .int .i64 r0 ∧ w = wx)
  case first =>
    by_cases hq : mid < m
    · have hqd := decide_eq_true hq
      have HS1 := HS0.out
      have HR1 := HR0.out
      rw [if_pos hq] at HS1 HR1
      have HS2 : Aside ((mid : Int) + (m : Int) - (b : Int) = (s0 : Int)) := by show (mid : Int) + (m : Int) - (b : Int) = (s0 : Int); omega
      have HR2 : Aside (mid = r0) := HR1
      clear HS1 HR1
      rw [hqd]
      clear hqd hq
      go_wp2_with fail
      go_meet
      exact ⟨by rw [HS2.out], by rw [HR2.out], rfl⟩
    · have hqd := decide_eq_false hq
      have HS1 := HS0.out
      have HR1 := HR0.out
      rw [if_neg hq] at HS1 HR1
      have HS2 : Aside (a = s0) := HS1
      have HR2 : Aside (m = r0) := HR1
      clear HS1 HR1
      rw [hqd]
      clear hqd hq
      go_wp2_with fail
      go_meet
      exact ⟨by rw [HS2.out], by rw [HR2.out], rfl⟩
  case rest =>
    obtain ⟨rfl, rfl, rfl⟩ := hcut
    go_wp2_with fail
    go_loopg [20, 21] (r0 - s0) (fun kx s t wr => ∃ i j : Nat, s = .int .i64 i ∧ t = .int .i64 j ∧ s0 ≤ i ∧ i ≤ j ∧ j ≤ r0 ∧ j - i ≤ kx ∧ Aside ((s0 < i → (L.getD (i - a - 1) z6).b ≤ (Rr.getD (mid - i) z6).b) ∧ (j < r0 → (Rr.getD (mid - j - 1) z6).b < (L.getD (j - a) z6).b)) ∧ Aside (SW w0 g D wr))
    case atStart => exact ⟨s0, r0, rfl, rfl, Nat.le_refl _, f2, Nat.le_refl _, Nat.le_refl _, ⟨fun h => absurd h (Nat.lt_irrefl _), fun h => absurd h (Nat.lt_irrefl _)⟩, S0⟩
    case round =>
      clear S0
      obtain ⟨i, j, rfl, rfl, hi, hij, hj, hk, I1, S1⟩ := hrel
      by_cases hlt : i < j
      · have hltz : (i : Int) < (j : Int) := by omega
        obtain ⟨h, hh⟩ : ∃ h, (i + j) / 2 = h := ⟨_, rfl⟩
        have h1 : i ≤ h := by omega
        have h2 : h < j := by omega
        have hhi2 : ((i : Int) + (j : Int)) / 2 = (h : Int) := by omega
        have hhw2 : IntKind.i64.wrap ((i : Int) + (j : Int)) = (i : Int) + (j : Int) := by rw [IntKind.wrap_i64]; omega
        obtain ⟨x, hx⟩ : ∃ x, L.getD (h - a) z6 = x := ⟨_, rfl⟩
        obtain ⟨y, hy⟩ : ∃ y, Rr.getD (mid - h - 1) z6 = y := ⟨_, rfl⟩
        have hx7 : D.toArray[mid + m - 1 - h]! = y := by rw [HGR.out _ (by omega) (by omega), show mid + m - 1 - h - m = mid - h - 1 by omega]; exact hy
        have hy7 : D.toArray[h]! = x := by rw [HGL.out h (by omega) (by omega)]; exact hx
        have HX : Aside (L.getD (h - a) z6 = x) := hx
        have HY : Aside (Rr.getD (mid - h - 1) z6 = y) := hy
        clear hx hy hh
        by_cases hb7 : y.b < x.b
        · have HB : Aside (y.b < x.b) := hb7
          have e7a : ((mid : Int) + (m : Int) - 1 - (h : Int)).toNat = mid + m - 1 - h := by omega
          have p7a : (0 : Int) ≤ (mid : Int) + (m : Int) - 1 - (h : Int) := by omega
          have q7a : (mid : Int) + (m : Int) - 1 - (h : Int) < (N : Int) := by omega
          have r7a : IntKind.i64.wrap ((mid : Int) + (m : Int) - 1 - (h : Int)) = (mid : Int) + (m : Int) - 1 - (h : Int) := by rw [IntKind.wrap_i64]; omega
          have e7b : ((h : Int)).toNat = h := by omega
          have p7b : (0 : Int) ≤ (h : Int) := by omega
          have q7b : (h : Int) < (N : Int) := by omega
          have r7b : IntKind.i64.wrap ((h : Int)) = (h : Int) := by rw [IntKind.wrap_i64]; omega
          have l7a := S1.out.ld HR.out HD.out Tryz.prog (mid + m - 1 - h) (by have := HD.out; have := HN.out; omega)
          have l7b := S1.out.ld HR.out HD.out Tryz.prog (h) (by have := HD.out; have := HN.out; omega)
          rw [hx7] at l7a
          rw [hy7] at l7b
          have c7 := S1.out.cmp HC.out HD.out y x
          rw [show #[Value.agg (scells y).toArray, Value.agg (scells x).toArray] ++ #[] = #[Value.agg (scells y).toArray, Value.agg (scells x).toArray] from rfl] at c7
          obtain ⟨v7, hv7⟩ : ∃ c, cfH y x = c := ⟨_, rfl⟩
          rw [hv7] at c7
          have z7 : v7 < 0 := by rw [← hv7, cf_lt]; exact hb7
          have d7 : decide (v7 < 0) = true := decide_eq_true z7
          clear hx7 hy7 hv7 hb7
          simp only [Nat.zero_add] at l7a l7b
          have aE := Tryz.isAgg103
          have zE := Tryz.sizeOf103
          have mixed : Tryz.prog.follows .mixedOrders = true := by kernel_rfl
          obtain ⟨k6, hk6⟩ : ∃ k, (6 : Nat) = k := ⟨_, rfl⟩
          rw [hk6] at zE l7a l7b
          have HK6 : Aside ((6 : Nat) = k6) := hk6
          clear hk6
          go_wp2_with fail
          refine wp_region_quiet_grown (by assumption) (by kernel_rfl) ?_
          repeat (go_big_quiet_step ((go_at_call 161; exact Calls.grown_of (c7 _ _))))
          refine wpQuiet_nil ?_
          intro _ hw'
          obtain ⟨⟨nq, osq⟩, hw''⟩ := hw'
          subst hw''
          have S2 : Aside (SWK scells 6 w0 g 0 D.toArray (grow (wr.drewN nq) osq)) := S1.out.grown nq osq
          clear l7a l7b c7 S1 zE aE mixed
          obtain rfl := HK6.out
          generalize grow (wr.drewN nq) osq = w2 at S2 ⊢
          clear nq osq
          go_wp2_with fail
          go_roundg (h - i)
          case measure => omega
          case rel => exact ⟨i, h, rfl, rfl, hi, h1, by omega, Nat.le_refl _, ⟨I1.out.1, fun _ => by rw [HX.out, HY.out]; exact HB.out⟩, S2⟩
        · have HB : Aside (¬ y.b < x.b) := hb7
          have e7a : ((mid : Int) + (m : Int) - 1 - (h : Int)).toNat = mid + m - 1 - h := by omega
          have p7a : (0 : Int) ≤ (mid : Int) + (m : Int) - 1 - (h : Int) := by omega
          have q7a : (mid : Int) + (m : Int) - 1 - (h : Int) < (N : Int) := by omega
          have r7a : IntKind.i64.wrap ((mid : Int) + (m : Int) - 1 - (h : Int)) = (mid : Int) + (m : Int) - 1 - (h : Int) := by rw [IntKind.wrap_i64]; omega
          have e7b : ((h : Int)).toNat = h := by omega
          have p7b : (0 : Int) ≤ (h : Int) := by omega
          have q7b : (h : Int) < (N : Int) := by omega
          have r7b : IntKind.i64.wrap ((h : Int)) = (h : Int) := by rw [IntKind.wrap_i64]; omega
          have l7a := S1.out.ld HR.out HD.out Tryz.prog (mid + m - 1 - h) (by have := HD.out; have := HN.out; omega)
          have l7b := S1.out.ld HR.out HD.out Tryz.prog (h) (by have := HD.out; have := HN.out; omega)
          rw [hx7] at l7a
          rw [hy7] at l7b
          have c7 := S1.out.cmp HC.out HD.out y x
          rw [show #[Value.agg (scells y).toArray, Value.agg (scells x).toArray] ++ #[] = #[Value.agg (scells y).toArray, Value.agg (scells x).toArray] from rfl] at c7
          obtain ⟨v7, hv7⟩ : ∃ c, cfH y x = c := ⟨_, rfl⟩
          rw [hv7] at c7
          have z7 : ¬ v7 < 0 := by rw [← hv7, cf_lt]; exact hb7
          have d7 : decide (v7 < 0) = false := decide_eq_false z7
          clear hx7 hy7 hv7 hb7
          simp only [Nat.zero_add] at l7a l7b
          have aE := Tryz.isAgg103
          have zE := Tryz.sizeOf103
          have mixed : Tryz.prog.follows .mixedOrders = true := by kernel_rfl
          obtain ⟨k6, hk6⟩ : ∃ k, (6 : Nat) = k := ⟨_, rfl⟩
          rw [hk6] at zE l7a l7b
          have HK6 : Aside ((6 : Nat) = k6) := hk6
          clear hk6
          go_wp2_with fail
          refine wp_region_quiet_grown (by assumption) (by kernel_rfl) ?_
          repeat (go_big_quiet_step ((go_at_call 161; exact Calls.grown_of (c7 _ _))))
          refine wpQuiet_nil ?_
          intro _ hw'
          obtain ⟨⟨nq, osq⟩, hw''⟩ := hw'
          subst hw''
          have S2 : Aside (SWK scells 6 w0 g 0 D.toArray (grow (wr.drewN nq) osq)) := S1.out.grown nq osq
          clear l7a l7b c7 S1 zE aE mixed
          obtain rfl := HK6.out
          generalize grow (wr.drewN nq) osq = w2 at S2 ⊢
          clear nq osq
          go_wp2_with fail
          go_roundg (j - (h + 1))
          case measure => omega
          case rel => exact ⟨h + 1, j, by go_num, rfl, by omega, by omega, hj, Nat.le_refl _, ⟨fun _ => by rw [show h + 1 - a - 1 = h - a by omega, show mid - (h + 1) = mid - h - 1 by omega, HX.out, HY.out]; (have := HB.out; omega), I1.out.2⟩, S2⟩
      · obtain rfl : i = j := by omega
        obtain ⟨en, hen⟩ : ∃ e, mid + m - i = e := ⟨_, rfl⟩
        have g1 : m ≤ en := by omega
        have g2 : en ≤ b := by omega
        have g3 : mid ≤ en := by omega
        have hez : (mid : Int) + (m : Int) - (i : Int) = (en : Int) := by omega
        have hew : IntKind.i64.wrap ((mid : Int) + (m : Int) - (i : Int)) = (en : Int) := by rw [IntKind.wrap_i64]; omega
        have HEN : Aside (en + i = mid + m) := by show en + i = mid + m; omega
        have HMG : Aside (∀ Z1 Z2, Mg (L.take (i - a)) (Rr.take (mid - i)) Z1 → Mg (L.drop (i - a)) (Rr.drop (mid - i)) Z2 → Mg L Rr (Z1 ++ Z2)) := fun Z1 Z2 m1 m2 => by
          have hl := HLEN.out
          have hf := HF.out
          have hi1 := I1.out
          refine mg_split HSO.out.1 HSO.out.2.1 HSO.out.2.2 (fun h1 h2 => ?_) (fun h1 h2 => ?_) m1 m2 (by omega) (by omega)
          · exact hi1.1 (by omega)
          · exact hi1.2 (by omega)
        have S2 : Aside (SW w0 g (pre ++ L.take (i - a) ++ L.drop (i - a) ++ Rr.take (mid - i) ++ (Rr.drop (mid - i) ++ post)) wr) := by
          have h := S1.out
          rw [← HDE.out] at h
          have e : pre ++ L.take (i - a) ++ L.drop (i - a) ++ Rr.take (mid - i) ++ (Rr.drop (mid - i) ++ post) = pre ++ L ++ Rr ++ post := by
            rw [List.append_assoc pre, List.take_append_drop, ← List.append_assoc, List.append_assoc (pre ++ L), List.take_append_drop]
          rw [e]
          exact h
        obtain ⟨L1, hL1⟩ : ∃ l, L.take (i - a) = l := ⟨_, rfl⟩
        obtain ⟨L2, hL2⟩ : ∃ l, L.drop (i - a) = l := ⟨_, rfl⟩
        obtain ⟨R1, hR1⟩ : ∃ l, Rr.take (mid - i) = l := ⟨_, rfl⟩
        obtain ⟨R2, hR2⟩ : ∃ l, Rr.drop (mid - i) = l := ⟨_, rfl⟩
        have HP : Aside (L1.length = i - a ∧ L2.length = m - i ∧ R1.length = mid - i ∧ R2.length = b - en) := by
          have hl := HLEN.out
          have he := HEN.out
          rw [← hL1, ← hL2, ← hR1, ← hR2]
          refine ⟨?_, ?_, ?_, ?_⟩ <;> first | (rw [List.length_take]; omega) | (rw [List.length_drop]; omega)
        have HQ : Aside (LxS L1 ∧ LxS L2 ∧ LxS R1 ∧ LxS R2 ∧ Ap L1 R1 ∧ Ap L2 R2) := by
          rw [← hL1, ← hL2, ← hR1, ← hR2]
          exact ⟨HSO.out.1.sublist (List.take_sublist _ _), HSO.out.1.sublist (List.drop_sublist _ _), HSO.out.2.1.sublist (List.take_sublist _ _), HSO.out.2.1.sublist (List.drop_sublist _ _), HSO.out.2.2.sub (fun _ h => List.mem_of_mem_take h) (fun _ h => List.mem_of_mem_take h), HSO.out.2.2.sub (fun _ h => List.mem_of_mem_drop h) (fun _ h => List.mem_of_mem_drop h)⟩
        rw [hL1, hL2, hR1, hR2] at HMG
        rw [hL1, hL2, hR1, hR2] at S2
        clear hL1 hL2 hR1 hR2 hen S1
        go_upto_region 39 with fail
        go_cut [185] from 178 to 185 (fun q wx => q = .bool (decide (i < m) && decide (m < en)) ∧ wr = wx)
        case first =>
          by_cases c1 : i < m
          · have c1z : (i : Int) < (m : Int) := by omega
            by_cases c2 : m < en
            · have c2z : (m : Int) < (en : Int) := by omega
              have c12 : (decide (i < m) && decide (m < en)) = true := by simp [c1, c2]
              go_wp2_with fail
              go_meet
              exact ⟨by rw [c12], rfl⟩
            · have c2z : ¬ (m : Int) < (en : Int) := by omega
              have c12 : (decide (i < m) && decide (m < en)) = false := by simp [c2]
              go_wp2_with fail
              go_meet
              exact ⟨by rw [c12], rfl⟩
          · have c1z : ¬ (i : Int) < (m : Int) := by omega
            have c12 : (decide (i < m) && decide (m < en)) = false := by simp [c1]
            go_wp2_with fail
            go_meet
            exact ⟨by rw [c12], rfl⟩
        case rest =>
        obtain ⟨rfl, rfl⟩ := hcut
        rename_i hK9
        refine hK9 _ _ ?_
        clear hK9
        go_cut [] from 178 to 191 (fun wx => Aside (SW w0 g (pre ++ L1 ++ R1 ++ L2 ++ (R2 ++ post)) wx))
        case first =>
          by_cases c1 : i < m
          · have d1 := decide_eq_true c1
            by_cases c2 : m < en
            · have d2 := decide_eq_true c2
              rw [d1, d2, Bool.true_and]
              clear d1 d2
              have T1 := rotate_any (cap := cap) (w := wr) (pre := pre ++ L1) (A := L2) (B := R1) (post := R2 ++ post) (a := i) (m := m) (b := en) HR.out (by have hl := HLEN.out; have hp := HP.out; simp only [List.length_append]; omega) (by have hp := HP.out; omega) (by have hp := HP.out; have he := HEN.out; omega) S2.out HSZ.out (by have hl := HLEN.out; have hp := HP.out; simp only [List.length_append]; omega) (by have hl := HLEN.out; have hp := HP.out; simp only [List.length_append]; omega) (by have hl := HLEN.out; have hp := HP.out; have he := HEN.out; simp only [List.length_append]; omega)
              rw [HN.out] at T1
              have HT1 := Lib.hid T1
              clear T1
              go_wp2_with (go_at_call 236; (with_reducible refine (HT1.out).mono ?_); rintro e w1 ⟨rfl, S3⟩)
              go_meet
              exact S3
            · have d2 := decide_eq_false c2
              rw [d1, d2, Bool.true_and]
              clear d1 d2
              have e : R1 = [] := List.eq_nil_of_length_eq_zero (by have hp := HP.out; have he := HEN.out; omega)
              have S3 : Aside (SW w0 g (pre ++ L1 ++ R1 ++ L2 ++ (R2 ++ post)) wr) := by have h := S2.out; rw [e] at h ⊢; show SW _ _ _ _; simpa using h
              clear e
              go_wp2_with fail
              go_meet
              exact S3
          · have d1 := decide_eq_false c1
            rw [d1, Bool.false_and]
            clear d1
            have e : L2 = [] := List.eq_nil_of_length_eq_zero (by have hp := HP.out; omega)
            have S3 : Aside (SW w0 g (pre ++ L1 ++ R1 ++ L2 ++ (R2 ++ post)) wr) := by have h := S2.out; rw [e] at h ⊢; show SW _ _ _ _; simpa using h
            clear e
            go_wp2_with fail
            go_meet
            exact S3
        case rest =>
          have S3 : Aside (SW w0 g (pre ++ L1 ++ R1 ++ (L2 ++ (R2 ++ post))) wc) := by have h := hcut.out; show SW _ _ _ _; simpa only [List.append_assoc] using h
          clear hcut S2
          go_upto_region 41 with fail
          go_cut [199] from 192 to 199 (fun q wx => q = .bool (decide (a < i) && decide (i < mid)) ∧ wc = wx)
          case first =>
            by_cases c1 : a < i
            · have c1z : (a : Int) < (i : Int) := by omega
              by_cases c2 : i < mid
              · have c2z : (i : Int) < (mid : Int) := by omega
                have c12 : (decide (a < i) && decide (i < mid)) = true := by simp [c1, c2]
                go_wp2_with fail
                go_meet
                exact ⟨by rw [c12], rfl⟩
              · have c2z : ¬ (i : Int) < (mid : Int) := by omega
                have c12 : (decide (a < i) && decide (i < mid)) = false := by simp [c2]
                go_wp2_with fail
                go_meet
                exact ⟨by rw [c12], rfl⟩
            · have c1z : ¬ (a : Int) < (i : Int) := by omega
              have c12 : (decide (a < i) && decide (i < mid)) = false := by simp [c1]
              go_wp2_with fail
              go_meet
              exact ⟨by rw [c12], rfl⟩
          case rest =>
          obtain ⟨rfl, rfl⟩ := hcut
          rename_i hK9
          refine hK9 _ _ ?_
          clear hK9
          go_cut [] from 192 to 205 (fun wx => ∃ Z1, Aside (Mg L1 R1 Z1 ∧ SW w0 g (pre ++ Z1 ++ L2 ++ R2 ++ post) wx))
          case first =>
            by_cases c1 : a < i
            · have d1 := decide_eq_true c1
              by_cases c2 : i < mid
              · have d2 := decide_eq_true c2
                rw [d1, d2, Bool.true_and]
                clear d1 d2
                have T1 := HIH.out pre L1 R1 (L2 ++ (R2 ++ post)) wc a i mid (by have hl := HLEN.out; have hp := HP.out; have he := HEN.out; simp only [List.length_append]; omega) (by have hp := HP.out; omega) (by have hp := HP.out; omega) (by have hp := HP.out; have hl := HLEN.out; omega) HQ.out.1 HQ.out.2.2.1 HQ.out.2.2.2.2.1 S3.out HLEN.out.1 (by have hl := HLEN.out; have hp := HP.out; omega) (by have hl := HLEN.out; have hp := HP.out; omega)
                rw [HN.out] at T1
                have HT1 := Lib.hid T1
                clear T1
                go_wp2_with (go_at_call 229; (with_reducible refine (HT1.out).mono ?_); rintro e w1 ⟨rfl, Z1, hz, S4⟩)
                go_meet
                exact ⟨Z1, hz, by simpa only [List.append_assoc] using S4⟩
              · have d2 := decide_eq_false c2
                rw [d1, d2, Bool.true_and]
                clear d1 d2
                have e : R1 = [] := List.eq_nil_of_length_eq_zero (by have hp := HP.out; omega)
                have S4 : Aside (Mg L1 R1 L1 ∧ SW w0 g (pre ++ L1 ++ L2 ++ R2 ++ post) wc) := ⟨by rw [e]; exact mg_left HQ.out.1, by have h := S3.out; rw [e] at h; simpa only [List.append_assoc, List.nil_append] using h⟩
                clear e
                go_wp2_with fail
                go_meet
                exact ⟨L1, S4⟩
            · have d1 := decide_eq_false c1
              rw [d1, Bool.false_and]
              clear d1
              have e : L1 = [] := List.eq_nil_of_length_eq_zero (by have hp := HP.out; omega)
              have S4 : Aside (Mg L1 R1 R1 ∧ SW w0 g (pre ++ R1 ++ L2 ++ R2 ++ post) wc) := ⟨by rw [e]; exact mg_right HQ.out.2.2.1, by have h := S3.out; rw [e] at h; simpa only [List.append_assoc, List.nil_append] using h⟩
              clear e
              go_wp2_with fail
              go_meet
              exact ⟨R1, S4⟩
          case rest =>
            obtain ⟨Z1, S4⟩ := hcut
            obtain ⟨V, rfl⟩ : ∃ V : World, V = wc := ⟨_, rfl⟩
            have HZ1 : Aside (Z1.length = mid - a) := by
              have hl := S4.out.1.len
              have hp := HP.out
              show Z1.length = mid - a
              omega
            by_cases c1 : mid < en
            · have c1z : (mid : Int) < (en : Int) := by omega
              by_cases c2 : en < b
              · have c2z : (en : Int) < (b : Int) := by omega
                have T1 := HIH.out (pre ++ Z1) L2 R2 post V mid en b (by have hl := HLEN.out; have hp := HP.out; have he := HEN.out; have hz := HZ1.out; simp only [List.length_append]; omega) (by have hp := HP.out; have he := HEN.out; omega) (by have hp := HP.out; omega) (by have hp := HP.out; have hl := HLEN.out; have he := HEN.out; omega) HQ.out.2.1 HQ.out.2.2.2.1 HQ.out.2.2.2.2.2 S4.out.2 (by have hl := HLEN.out; have hz := HZ1.out; rw [List.length_append]; omega) (by have hl := HLEN.out; have hp := HP.out; have hz := HZ1.out; have he := HEN.out; rw [List.length_append]; omega) (by have hl := HLEN.out; have hp := HP.out; have hz := HZ1.out; have he := HEN.out; rw [List.length_append]; omega)
                rw [HN.out] at T1
                have HT1 := Lib.hid T1
                clear T1
                go_wp2_with (go_at_call 229; (with_reducible refine (HT1.out).mono ?_); rintro e w1 ⟨rfl, Z2, hz, S5⟩)
                go_end0
                exact ⟨rfl, _, HMG.out Z1 Z2 S4.out.1 hz, by simpa only [List.append_assoc] using S5⟩
              · have c2z : ¬ (en : Int) < (b : Int) := by omega
                have e : R2 = [] := List.eq_nil_of_length_eq_zero (by have hp := HP.out; omega)
                have S5 : Aside (Mg L2 R2 L2 ∧ SW w0 g (pre ++ (Z1 ++ L2) ++ post) V) := ⟨by rw [e]; exact mg_left HQ.out.2.1, by have h := S4.out.2; rw [e] at h; simpa only [List.append_assoc, List.nil_append] using h⟩
                clear e
                go_wp2_with fail
                go_end0
                exact ⟨rfl, _, HMG.out Z1 L2 S4.out.1 S5.out.1, by simpa only [List.append_assoc] using S5.out.2⟩
            · have c1z : ¬ (mid : Int) < (en : Int) := by omega
              have e : L2 = [] := List.eq_nil_of_length_eq_zero (by have hp := HP.out; have he := HEN.out; omega)
              have S5 : Aside (Mg L2 R2 R2 ∧ SW w0 g (pre ++ (Z1 ++ R2) ++ post) V) := ⟨by rw [e]; exact mg_right HQ.out.2.2.2.1, by have h := S4.out.2; rw [e] at h; simpa only [List.append_assoc, List.nil_append] using h⟩
              clear e
              go_wp2_with fail
              go_end0
              exact ⟨rfl, _, HMG.out Z1 R2 S4.out.1 S5.out.1, by simpa only [List.append_assoc] using S5.out.2⟩
theorem symMerge_any {w0 : World} {g cap : Nat} {d0 : Array Six} (R : RowK scells 6 w0 g 0 d0) (HCM : CmpLays Tryz.prog 161 #[] scells 6 cfH g 0 d0.size w0) (hsz : d0.size < 1000000) : ∀ N, SymDoes w0 g cap d0 N
  | 0 => fun pre L Rr post w a m b hs hL hR hN _ _ _ _ _ _ _ => by omega
  | N + 1 => fun pre L Rr post w a m b hs hL hR hN hLs hRs hA S ha hm hb => by
    by_cases h1 : L.length = 1
    · obtain ⟨x, rfl⟩ := List.length_eq_one_iff.1 h1
      exact symLeft_any R HCM hsz pre x Rr post w hs hR hRs hA S ha hm hb
    · by_cases h2 : Rr.length = 1
      · obtain ⟨y, rfl⟩ := List.length_eq_one_iff.1 h2
        exact symRight_any R HCM hsz pre L y post w hs (by omega) hLs hA S ha hm hb
      · exact symStep_any R HCM hsz N (symMerge_any R HCM hsz N) pre L Rr post w hs (by omega) (by omega) hN hLs hRs hA S ha hm hb
end Go.Proofs.YtkoejeghihcmlaaGreat
