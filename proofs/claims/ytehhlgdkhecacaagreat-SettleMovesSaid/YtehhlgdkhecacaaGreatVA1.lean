/- Part of the proof: AN, AO, RA, FE, FA, FF, FG, FB, AQ, AP, AR, AS, AT, AU, AV, AW, AX, AY, AZ. -/
import Derived.WideKeyArr
import Derived.Shelf.SlSortCmp.NoneTotal
import Derived.Ground.SlsfProg
import Derived.Test.YtehhlgdkhecacaaGreatVA0
namespace Go.Proofs.YtehhlgdkhecacaaGreat
open Go.RowKit Go.Shelf Go.Maps
theorem below_putObj {B b : Nat} {w W : World} (h : Below B w W) (hb : B ≤ b) (o : Obj) : Below B w (W.putObj b o) :=
 ⟨h.os, h.tape, h.output, by simpa using h.size, fun k hk => (World.putObj_heap_other (by omega)).trans (h.block k hk)⟩
theorem MapAt.put {W : World} {b : Nat} {es : Array MapEntry} {clock : Nat} (h : MapAt W b es clock) (es' : Array MapEntry) (clock' : Nat) : MapAt (W.putObj b (.map es' clock')) b es' clock' := World.putObj_heap_same h.lt
set_option maxRecDepth 100000 in
theorem rules_any (w : World) : Calls Tryz.prog 170 #[] w fun e w' => (∃ b, e = .returned (.map (some b)) ∧ MapAt w' b ruleEs 4) ∧ Below w.heap.size w w' := by
 obtain ⟨W1, hW1⟩ : ∃ X, w.alloc (.map #[] 0) = X := ⟨_, rfl⟩
 have m1 : MapAt W1 w.heap.size #[] 0 := by rw [← hW1]; exact World.alloc_heap_new w _
 have g1 : Below w.heap.size w W1 := by rw [← hW1]; exact one_more _ _
 have r1 := run_upd m1 1 (.func (.func 185) #[] #[]) (fun e he => absurd he (by simp))
 have m2 := m1.put (#[].push ⟨.int .i64 1, .func (.func 185) #[] #[], 0⟩) 1
 have g2 := below_putObj g1 (Nat.le_refl _) (.map (#[].push ⟨.int .i64 1, .func (.func 185) #[] #[], 0⟩) 1)
 obtain ⟨W2, hW2⟩ : ∃ X, W1.putObj w.heap.size (.map (#[].push ⟨.int .i64 1, .func (.func 185) #[] #[], 0⟩) 1) = X := ⟨_, rfl⟩
 rw [show (0 : Nat) + 1 = 1 from rfl, hW2] at r1
 rw [hW2] at m2 g2
 have r2 := run_upd m2 3 (.func (.func 186) #[] #[]) (fun e he => by simp at he; subst he; exact ⟨1, rfl, by decide⟩)
 have m3 := m2.put ((#[].push ⟨.int .i64 1, .func (.func 185) #[] #[], 0⟩).push ⟨.int .i64 3, .func (.func 186) #[] #[], 1⟩) 2
 have g3 := below_putObj g2 (Nat.le_refl _) (.map ((#[].push ⟨.int .i64 1, .func (.func 185) #[] #[], 0⟩).push ⟨.int .i64 3, .func (.func 186) #[] #[], 1⟩) 2)
 obtain ⟨W3, hW3⟩ : ∃ X, W2.putObj w.heap.size (.map ((#[].push ⟨.int .i64 1, .func (.func 185) #[] #[], 0⟩).push ⟨.int .i64 3, .func (.func 186) #[] #[], 1⟩) 2) = X := ⟨_, rfl⟩
 rw [show (1 : Nat) + 1 = 2 from rfl, hW3] at r2
 rw [hW3] at m3 g3
 have r3 := run_upd m3 5 (.func (.func 186) #[] #[]) (fun e he => by
  simp at he
  rcases he with rfl | rfl
  ·exact ⟨1, rfl, by decide⟩
  ·exact ⟨3, rfl, by decide⟩)
 have m4 := m3.put (((#[].push ⟨.int .i64 1, .func (.func 185) #[] #[], 0⟩).push ⟨.int .i64 3, .func (.func 186) #[] #[], 1⟩).push ⟨.int .i64 5, .func (.func 186) #[] #[], 2⟩) 3
 have g4 := below_putObj g3 (Nat.le_refl _) (.map (((#[].push ⟨.int .i64 1, .func (.func 185) #[] #[], 0⟩).push ⟨.int .i64 3, .func (.func 186) #[] #[], 1⟩).push ⟨.int .i64 5, .func (.func 186) #[] #[], 2⟩) 3)
 obtain ⟨W4, hW4⟩ : ∃ X, W3.putObj w.heap.size (.map (((#[].push ⟨.int .i64 1, .func (.func 185) #[] #[], 0⟩).push ⟨.int .i64 3, .func (.func 186) #[] #[], 1⟩).push ⟨.int .i64 5, .func (.func 186) #[] #[], 2⟩) 3) = X := ⟨_, rfl⟩
 rw [show (2 : Nat) + 1 = 3 from rfl, hW4] at r3
 rw [hW4] at m4 g4
 have r4 := run_upd m4 8 (.func (.func 187) #[] #[]) (fun e he => by
  simp at he
  rcases he with rfl | rfl | rfl
  ·exact ⟨1, rfl, by decide⟩
  ·exact ⟨3, rfl, by decide⟩
  ·exact ⟨5, rfl, by decide⟩)
 have m5 := m4.put ruleEs 4
 have g5 := below_putObj g4 (Nat.le_refl _) (.map ruleEs 4)
 rw [show (((#[].push (⟨.int .i64 1, .func (.func 185) #[] #[], 0⟩ : MapEntry)).push ⟨.int .i64 3, .func (.func 186) #[] #[], 1⟩).push ⟨.int .i64 5, .func (.func 186) #[] #[], 2⟩).push ⟨.int .i64 8, .func (.func 187) #[] #[], 3⟩ = ruleEs from rfl, show (3 : Nat) + 1 = 4 from rfl] at r4
 obtain ⟨W5, hW5⟩ : ∃ X, W4.putObj w.heap.size (.map ruleEs 4) = X := ⟨_, rfl⟩
 rw [hW5] at r4 m5 g5
 have M5 := Lib.hid m5
 have G5 := Lib.hid g5
 have hmk : (Instr.makeMap 172 none).run Tryz.prog w = .ok (.map (some w.heap.size)) W1 := by
  rw [← hW1]; simp [Instr.makeMap, go_sem]
 clear m1 m2 m3 m4 m5 g1 g2 g3 g4 g5 hW1 hW2 hW3 hW4 hW5
 go_enter Tryz.func170, Tryz.ntmps170
 go_wp2_with fail
 go_ret
 exact ⟨⟨_, rfl, M5.out⟩, G5.out⟩
/-- The rule of a proof's kind, called. -/
theorem rule_calls (x y : Pf) : (ruleV x.q.kind = (.nilFunc, false) ∧ ruleB x.q y.q = false) ∨ ∃ g, ruleV x.q.kind = (.func (.func g) #[] #[], true) ∧ (∀ args W, (callFunc g args).run Tryz.prog W = .ok (.enter g args) W) ∧
  ∀ W, Calls Tryz.prog g #[pv x, pv y] W fun e w' => e = .returned (.bool (ruleB x.q y.q)) ∧ Below W.heap.size W w' := by
 unfold ruleV ruleB servB
 by_cases h1 : x.q.kind = 1
 ·right
  rw [h1]
  exact ⟨185, rfl, enters_of Tryz.func185 (by kernel_rfl) rfl, fun W => birth_any x y W⟩
 ·by_cases h3 : x.q.kind = 3
  ·right
   rw [h3]
   exact ⟨186, rfl, enters_of Tryz.func186 (by kernel_rfl) rfl, fun W => service_any x y W⟩
  ·by_cases h5 : x.q.kind = 5
   ·right
    rw [h5]
    exact ⟨186, rfl, enters_of Tryz.func186 (by kernel_rfl) rfl, fun W => service_any x y W⟩
   ·by_cases h8 : x.q.kind = 8
    ·right
     rw [h8]
     exact ⟨187, rfl, enters_of Tryz.func187 (by kernel_rfl) rfl, fun W => examined_any x y W⟩
    ·left
     simp [h1, h3, h5, h8]
set_option maxRecDepth 100000 in
set_option maxHeartbeats 4000000 in
theorem odds_any (x y : Pf) (w : World) : Calls Tryz.prog 150 #[pv x, pv y] w fun e w' => e = .returned (.bool (oddsB x.q y.q)) ∧ Below w.heap.size w w' := by
 obtain ⟨W1, hW1⟩ : ∃ X, (w.alloc (.cells #[.int .i64 x.q.src, .int .i64 x.q.kind, .slice x.A x.n x.c, .int .i64 x.q.oth, .int .i64 x.q.par, .int .i64 x.q.day, .int .i64 x.q.thr, .int .i64 x.q.kno, .int .i64 x.q.unt] 56)).alloc (.cells #[.int .i64 y.q.src, .int .i64 y.q.kind, .slice y.A y.n y.c, .int .i64 y.q.oth, .int .i64 y.q.par, .int .i64 y.q.day, .int .i64 y.q.thr, .int .i64 y.q.kno, .int .i64 y.q.unt] 56) = X := ⟨_, rfl⟩
 have G1 := Lib.hid (show Below w.heap.size w W1 by rw [← hW1]; exact two_more _ _ _)
 have BX := Lib.hid (show Blk W1 w.heap.size 56 #[.int .i64 x.q.src, .int .i64 x.q.kind, .slice x.A x.n x.c, .int .i64 x.q.oth, .int .i64 x.q.par, .int .i64 x.q.day, .int .i64 x.q.thr, .int .i64 x.q.kno, .int .i64 x.q.unt] by rw [← hW1]; exact (Blk.new _ _ _).alloc _)
 have BY := Lib.hid (show Blk W1 (w.heap.size + 1) 56 #[.int .i64 y.q.src, .int .i64 y.q.kind, .slice y.A y.n y.c, .int .i64 y.q.oth, .int .i64 y.q.par, .int .i64 y.q.day, .int .i64 y.q.thr, .int .i64 y.q.kno, .int .i64 y.q.unt] by
  rw [← hW1]
  have := Blk.new (w.alloc (.cells #[.int .i64 x.q.src, .int .i64 x.q.kind, .slice x.A x.n x.c, .int .i64 x.q.oth, .int .i64 x.q.par, .int .i64 x.q.day, .int .i64 x.q.thr, .int .i64 x.q.kno, .int .i64 x.q.unt] 56)) 56 #[.int .i64 y.q.src, .int .i64 y.q.kind, .slice y.A y.n y.c, .int .i64 y.q.oth, .int .i64 y.q.par, .int .i64 y.q.day, .int .i64 y.q.thr, .int .i64 y.q.kno, .int .i64 y.q.unt]
  rwa [World.size_alloc] at this)
 have HW1 := Lib.hid hW1
 clear hW1
 have HO := Lib.hid (show oddsB x.q y.q = (ruleB x.q y.q || ruleB y.q x.q) from rfl)
 have RX := rule_calls x y
 have RY := rule_calls y x
 obtain ⟨ob, hob⟩ : ∃ s, oddsB x.q y.q = s := ⟨_, rfl⟩
 obtain ⟨r1, hr1⟩ : ∃ s, ruleB x.q y.q = s := ⟨_, rfl⟩
 obtain ⟨r2, hr2⟩ : ∃ s, ruleB y.q x.q = s := ⟨_, rfl⟩
 rw [hob, hr1, hr2] at HO
 rw [hob]
 rw [hr1] at RX
 rw [hr2] at RY
 have HOB := Lib.hid HO.out
 have HRX := Lib.hid RX
 have HRY := Lib.hid RY
 clear HO RX RY hob hr1 hr2
 have d0 := BX.out.cell 0
 have d1 := BX.out.cell 1
 have d2 := BX.out.cell 2
 have d3 := BX.out.cell 3
 have d4 := BX.out.cell 4
 have d5 := BX.out.cell 5
 have d6 := BX.out.cell 6
 have d7 := BX.out.cell 7
 have d8 := BX.out.cell 8
 have e0 := BY.out.cell 0
 have e1 := BY.out.cell 1
 have e2 := BY.out.cell 2
 have e3 := BY.out.cell 3
 have e4 := BY.out.cell 4
 have e5 := BY.out.cell 5
 have e6 := BY.out.cell 6
 have e7 := BY.out.cell 7
 have e8 := BY.out.cell 8
 go_enter Tryz.func150, Tryz.ntmps150
 go_upto_region 1 with fail
 rw [HW1.out]
 go_upto_region 2 with (go_at_call 170; (with_reducible refine (rules_any _).mono ?_); rintro e V ⟨⟨b, rfl, hm⟩, hg⟩; have HM := Lib.hid hm; have GV := Lib.hid (G1.out.trans (hg.mono G1.out.size)); have BXV := Lib.hid (BX.out.ext hg); have BYV := Lib.hid (BY.out.ext hg); clear hm hg d0 d1 d2 d3 d4 d5 d6 d7 d8 e0 e1 e2 e3 e4 e5 e6 e7 e8)
 have d0 := BXV.out.cell 0
 have d1 := BXV.out.cell 1
 have d2 := BXV.out.cell 2
 have d3 := BXV.out.cell 3
 have d4 := BXV.out.cell 4
 have d5 := BXV.out.cell 5
 have d6 := BXV.out.cell 6
 have d7 := BXV.out.cell 7
 have d8 := BXV.out.cell 8
 have e0 := BYV.out.cell 0
 have e1 := BYV.out.cell 1
 have e2 := BYV.out.cell 2
 have e3 := BYV.out.cell 3
 have e4 := BYV.out.cell 4
 have e5 := BYV.out.cell 5
 have e6 := BYV.out.cell 6
 have e7 := BYV.out.cell 7
 have e8 := BYV.out.cell 8
 have L1 := run_rule HM.out x.q.kind
 have L2 := run_rule HM.out y.q.kind
 rcases HRX.out with ⟨hv1, hf1⟩ | ⟨g1, hv1, eg1, T1⟩
 ·rw [hv1] at L1
  subst hf1
  rcases HRY.out with ⟨hv2, hf2⟩ | ⟨g2, hv2, eg2, T2⟩
  ·rw [hv2] at L2
   subst hf2
   have hob := HOB.out
   subst hob
   clear hv1 hv2 HRX HRY HOB
   go_wp2_with fail
   go_ret
   exact ⟨rfl, GV.out⟩
  ·rw [hv2] at L2
   have HT2 := Lib.hid T2
   have hob := HOB.out
   rw [Bool.false_or] at hob
   subst hob
   clear hv1 hv2 T2 HRX HRY HOB
   go_wp2_with (go_at_fn g2; (with_reducible refine (HT2.out _).mono ?_); rintro e V2 ⟨rfl, hg⟩; have G2 := Lib.hid (GV.out.trans (hg.mono GV.out.size)); clear hg)
   go_ret
   exact ⟨rfl, G2.out⟩
 ·rw [hv1] at L1
  have HT1 := Lib.hid T1
  clear T1
  cases r1 with
  | true =>
   have hob := HOB.out
   rw [Bool.true_or] at hob
   subst hob
   clear HOB
   rcases HRY.out with ⟨hv2, hf2⟩ | ⟨g2, hv2, eg2, T2⟩
   all_goals
    rw [hv2] at L2
    clear hv1 hv2 HRX HRY
    go_wp2_with (go_at_fn g1; (with_reducible refine (HT1.out _).mono ?_); rintro e V2 ⟨rfl, hg⟩; have G2 := Lib.hid (GV.out.trans (hg.mono GV.out.size)); clear hg)
    go_ret
    exact ⟨rfl, G2.out⟩
  | false =>
   have hob := HOB.out
   rw [Bool.false_or] at hob
   subst hob
   clear HOB
   rcases HRY.out with ⟨hv2, hf2⟩ | ⟨g2, hv2, eg2, T2⟩
   ·rw [hv2] at L2
    subst hf2
    clear hv1 hv2 HRX HRY
    go_wp2_with (go_at_fn g1; (with_reducible refine (HT1.out _).mono ?_); rintro e V2 ⟨rfl, hg⟩; have G2 := Lib.hid (GV.out.trans (hg.mono GV.out.size)); clear hg)
    go_ret
    exact ⟨rfl, G2.out⟩
   ·rw [hv2] at L2
    have HT2 := Lib.hid T2
    clear hv1 hv2 T2 HRX HRY
    go_wp2_with (first
     | (go_at_fn g1; (with_reducible refine (HT1.out _).mono ?_); rintro e V2 ⟨rfl, hg⟩; have G2 := Lib.hid (GV.out.trans (hg.mono GV.out.size)); have BXZ := Lib.hid (BXV.out.ext hg); have BYZ := Lib.hid (BYV.out.ext hg); clear hg d0 d1 d2 d3 d4 d5 d6 d7 d8 e0 e1 e2 e3 e4 e5 e6 e7 e8; have d0 := BXZ.out.cell 0; have e0 := BYZ.out.cell 0; have d1 := BXZ.out.cell 1; have e1 := BYZ.out.cell 1; have d2 := BXZ.out.cell 2; have e2 := BYZ.out.cell 2; have d3 := BXZ.out.cell 3; have e3 := BYZ.out.cell 3; have d4 := BXZ.out.cell 4; have e4 := BYZ.out.cell 4; have d5 := BXZ.out.cell 5; have e5 := BYZ.out.cell 5; have d6 := BXZ.out.cell 6; have e6 := BYZ.out.cell 6; have d7 := BXZ.out.cell 7; have e7 := BYZ.out.cell 7; have d8 := BXZ.out.cell 8; have e8 := BYZ.out.cell 8)
     | (go_at_fn g2; (with_reducible refine (HT2.out _).mono ?_); rintro e V3 ⟨rfl, hg⟩; have G3 := Lib.hid (G2.out.trans (hg.mono G2.out.size)); clear hg))
    go_ret
    exact ⟨rfl, G3.out⟩
end Go.Proofs.YtehhlgdkhecacaaGreat

namespace Go.Proofs.YtehhlgdkhecacaaGreat
open Go.RowKit Go.Shelf
theorem fit_no1 {c : List Qf} {b : List Int} {n : Int} (h1 : (c.getD b.length q0).kind = 2) (h2 : (c.getD b.length q0).oth = n) : fitB c b n = false := by
 unfold fitB
 rw [decide_eq_true h1, decide_eq_true h2]
 rfl
theorem fit_no2 {c : List Qf} {b : List Int} {n : Int} {j : Nat} (hj : j < b.length) (h1 : b.getD j 0 = n) (h2 : oddsB (c.getD j q0) (c.getD b.length q0) = true) : fitB c b n = false := by
 unfold fitB
 rw [Bool.and_eq_false_iff]
 right
 rw [List.all_eq_false]
 exact ⟨j, List.mem_range.2 hj, by rw [decide_eq_true h1, h2]; decide⟩
theorem fit_yes {c : List Qf} {b : List Int} {n : Int} (h1 : ¬ ((c.getD b.length q0).kind = 2 ∧ (c.getD b.length q0).oth = n)) (h2 : ∀ j, j < b.length → ¬ (b.getD j 0 = n ∧ oddsB (c.getD j q0) (c.getD b.length q0) = true)) : fitB c b n = true := by
 unfold fitB
 rw [Bool.and_eq_true, List.all_eq_true]
 refine ⟨?_, fun j hj => ?_⟩
 ·rw [Bool.not_eq_true', Bool.and_eq_false_iff]
  by_cases e : (c.getD b.length q0).kind = 2
  ·exact .inr (decide_eq_false fun e2 => h1 ⟨e, e2⟩)
  ·exact .inl (decide_eq_false e)
 ·rw [Bool.not_eq_true', Bool.and_eq_false_iff]
  by_cases e : b.getD j 0 = n
  ·right
   rw [Bool.eq_false_iff]
   exact fun e2 => h2 j (List.mem_range.1 hj) ⟨e, e2⟩
  ·exact .inl (decide_eq_false e)
set_option maxRecDepth 100000 in
set_option maxHeartbeats 8000000 in
theorem fits_any (A : Option Addr) (n c : Nat) (l : List Pf) (B : Option Addr) (m d : Nat) (rd : List Int) (person : Int) (w : World) (ha : Prf w A n l) (hn : n ≤ 1000) (hb : Ints w B m rd) (hmn : m < n) :
  Calls Tryz.prog 127 #[.slice A n c, .slice B m d, .int .i64 person] w fun e w' => e = .returned (.bool (fitB (l.map Pf.q) rd person)) ∧ Below w.heap.size w w' := by
 have HA := Lib.hid ha
 have HB := Lib.hid hb
 have hrl := hb.1
 have HRL := Lib.hid hrl
 have HLM := Lib.hid (show l.length = n from ha.len)
 have hkn := hmn
 obtain ⟨b, o, rfl, -, hyi, hym, hyc⟩ := (HA.out.below (Below.refl _ _)).at hkn
 obtain ⟨y, hy⟩ : ∃ y, l.getD m p0 = y := ⟨_, rfl⟩
 rw [hy] at hyi hym hyc
 obtain ⟨e0, e1, e2, e3, e4, e5, e6, e7, e8⟩ := hyc _ (Below.refl _ _)
 have HyE := Lib.hid hy
 have HyI := Lib.hid hyi
 have HyM := Lib.hid hym
 clear hy hyi hym hyc
 obtain ⟨W2, hW2⟩ : ∃ X, w.alloc (.cells #[.int .i64 y.q.src, .int .i64 y.q.kind, .slice y.A y.n y.c, .int .i64 y.q.oth, .int .i64 y.q.par, .int .i64 y.q.day, .int .i64 y.q.thr, .int .i64 y.q.kno, .int .i64 y.q.unt] 56) = X := ⟨_, rfl⟩
 have GW2 := Lib.hid (show Below w.heap.size w W2 by rw [← hW2]; exact one_more _ _)
 have BW2 := Lib.hid (show Blk W2 w.heap.size 56 #[.int .i64 y.q.src, .int .i64 y.q.kind, .slice y.A y.n y.c, .int .i64 y.q.oth, .int .i64 y.q.par, .int .i64 y.q.day, .int .i64 y.q.thr, .int .i64 y.q.kno, .int .i64 y.q.unt] by rw [← hW2]; exact Blk.new _ _ _)
 have HW2 := Lib.hid hW2
 clear hW2
 have HYQ := Lib.hid (show (l.map Pf.q).getD rd.length q0 = y.q by rw [HRL.out, map_pf (by rw [HLM.out]; exact hmn), HyE.out])
 obtain ⟨fb, hfb⟩ : ∃ s, fitB (l.map Pf.q) rd person = s := ⟨_, rfl⟩
 rw [hfb]
 have HFB := Lib.hid hfb
 have hmi : (m : Int) < (n : Int) := by omega
 clear hfb ha hb hrl
 go_enter Tryz.func127, Tryz.ntmps127
 go_upto_region 2 with fail
 rw [HW2.out]
 clear e0 e1 e2 e3 e4 e5 e6 e7 e8
 have d0 := BW2.out.cell 0
 have d1 := BW2.out.cell 1
 have d2 := BW2.out.cell 2
 have d3 := BW2.out.cell 3
 have d4 := BW2.out.cell 4
 have d5 := BW2.out.cell 5
 have d6 := BW2.out.cell 6
 have d7 := BW2.out.cell 7
 have d8 := BW2.out.cell 8
 have hcase : (y.q.kind = 2 ∧ y.q.oth = person) ∨ ¬ (y.q.kind = 2 ∧ y.q.oth = person) := Classical.em _
 rcases hcase with ⟨h1, h2⟩ | hno
 ·have e1 : (y.q.kind == 2) = true := by simpa using h1
  have e2 : (y.q.oth == person) = true := by simpa using h2
  have hf : fb = false := HFB.out.symm.trans (fit_no1 (by rw [HYQ.out]; exact h1) (by rw [HYQ.out]; exact h2))
  subst hf
  clear h1 h2
  go_wp2_with fail
  go_ret
  exact ⟨rfl, GW2.out⟩
 ·have HNO := Lib.hid hno
  go_cut [6, 23] from 15 to 26 (fun s t wx => s = .bool false ∧ t = .bool false ∧ W2 = wx)
  case first =>
   by_cases h1 : y.q.kind = 2
   ·have e1 : (y.q.kind == 2) = true := by simpa using h1
    have e2 : (y.q.oth == person) = false := by simpa using fun e => HNO.out ⟨h1, e⟩
    clear h1 hno
    go_wp2_with fail
    go_meet
    exact ⟨rfl, rfl, rfl⟩
   ·have e1 : (y.q.kind == 2) = false := by simpa using h1
    clear h1 hno
    go_wp2_with fail
    go_meet
    exact ⟨rfl, rfl, rfl⟩
  case rest =>
  obtain ⟨rfl, rfl, rfl⟩ := hcut
  rename_i hK9
  refine hK9 _ _ ?_
  clear hK9 hno
  have HZ := Lib.hid (Below.refl W2.heap.size W2)
  clear d0 d1 d2 d3 d4 d5 d6 d7 d8
  go_wp2_with fail
  go_loopw [26] (fun i wr => ∃ k : Nat, k ≤ m ∧ i = .int .i64 k ∧ Below W2.heap.size W2 wr ∧ ∀ j, j < k → ¬ (rd.getD j 0 = person ∧ oddsB ((l.map Pf.q).getD j q0) y.q = true)) (fun i _ => m - (intOf i).toNat)
  case atStart => exact ⟨0, Nat.zero_le _, rfl, HZ.out, fun j hj => absurd hj (by omega)⟩
  case round =>
   obtain ⟨k, hk, rfl, hg, hall⟩ := hrel
   have HG := Lib.hid hg
   have HALL := Lib.hid hall
   have HGW := Lib.hid (GW2.out.trans (hg.mono GW2.out.size))
   clear hall
   by_cases hkm : k < m
   ·have hkn : k < n := by omega
    obtain ⟨b2, o2, rfl, -, -, hc2⟩ := ints_at (HB.out.below HGW.out) hkm
    have r0 := hc2 wr (Below.refl _ _)
    obtain ⟨x, hx⟩ : ∃ x, rd.getD k 0 = x := ⟨_, rfl⟩
    rw [hx] at r0
    have HX := Lib.hid hx
    have HPK := Lib.hid (map_pf (l := l) (k := k) (by rw [HLM.out]; exact hkn))
    obtain ⟨b3, o3, e3, -, hzi, hzm, hzc⟩ := (HA.out.below HGW.out).at hkn
    cases e3
    obtain ⟨z, hz⟩ : ∃ z, l.getD k p0 = z := ⟨_, rfl⟩
    rw [hz] at hzc HPK
    obtain ⟨e0, e1, e2, e3, e4, e5, e6, e7, e8⟩ := hzc _ (Below.refl _ _)
    clear hzi hzm hzc hz hx hc2
    have hwr2 : wrap64 ((k : Int) + 1) = (k : Int) + 1 := wrap_in (by omega)
    have hki : (k : Int) < (n : Int) := by omega
    have BYR := Lib.hid (BW2.out.ext hg)
    have TO := fun (X : Wd wr) => odds_any z y X.val
    obtain ⟨ob, hob⟩ : ∃ s, oddsB z.q y.q = s := ⟨_, rfl⟩
    rw [hob] at TO
    have HOB := Lib.hid hob
    have HTO := Lib.hid TO
    clear TO hob hg
    go_upto_region 7 with fail
    replace r0 := cellW r0
    replace e0 := cellW e0
    replace e1 := cellW e1
    replace e2 := cellW e2
    replace e3 := cellW e3
    replace e4 := cellW e4
    replace e5 := cellW e5
    replace e6 := cellW e6
    replace e7 := cellW e7
    replace e8 := cellW e8
    have d0 := cellW (BYR.out.cell 0)
    have d1 := cellW (BYR.out.cell 1)
    have d2 := cellW (BYR.out.cell 2)
    have d3 := cellW (BYR.out.cell 3)
    have d4 := cellW (BYR.out.cell 4)
    have d5 := cellW (BYR.out.cell 5)
    have d6 := cellW (BYR.out.cell 6)
    have d7 := cellW (BYR.out.cell 7)
    have d8 := cellW (BYR.out.cell 8)
    by_cases hxp : x = person
    ·have hxb : (x == person) = true := by simpa using hxp
     have HXP := Lib.hid hxp
     clear hxp
     refine wp_region_calm wr (by kernel_rfl) (by kernel_rfl) (Below.refl _ _) ?_
     repeat (go_big_quiet_step ((go_at_call 150; exact callsCalm (HTO.out _))))
     refine wpQuiet_nil ?_
     rintro _ ⟨zz, rfl⟩
     have GZ := Lib.hid (HG.out.trans (zz.ok.mono HG.out.size))
     cases ob with
     | true =>
      have hf : fb = false := HFB.out.symm.trans (fit_no2 (j := k) (by rw [HRL.out]; exact hkm) (HX.out.trans HXP.out) (by rw [HYQ.out, HPK.out]; exact HOB.out))
      subst hf
      go_wp2_with fail
      go_ret
      exact ⟨rfl, GW2.out.trans (GZ.out.mono GW2.out.size)⟩
     | false =>
      go_wp2_with fail
      go_roundw
      case rel => exact ⟨k + 1, by omega, by go_num, GZ.out, fun j hj => by
       by_cases e : j = k
       ·subst e; rintro ⟨-, h2⟩; rw [HPK.out, HOB.out] at h2; exact absurd h2 (by decide)
       ·exact HALL.out j (by omega)⟩
      case measure => simp [intOf]; omega
    ·have hxb : (x == person) = false := by simpa using hxp
     have HXP := Lib.hid hxp
     clear hxp
     refine wp_region_calm wr (by kernel_rfl) (by kernel_rfl) (Below.refl _ _) ?_
     repeat (go_big_quiet_step ((go_at_call 150; exact callsCalm (HTO.out _))))
     refine wpQuiet_nil ?_
     rintro _ ⟨zz, rfl⟩
     have GZ := Lib.hid (HG.out.trans (zz.ok.mono HG.out.size))
     go_wp2_with fail
     go_roundw
     case rel => exact ⟨k + 1, by omega, by go_num, GZ.out, fun j hj => by
      by_cases e : j = k
      ·subst e; rintro ⟨h1, -⟩; exact HXP.out (HX.out.symm.trans h1)
      ·exact HALL.out j (by omega)⟩
     case measure => simp [intOf]; omega
   ·obtain rfl : k = m := by omega
    have hf : fb = true := HFB.out.symm.trans (fit_yes (by rw [HYQ.out]; exact HNO.out) (fun j hj => by rw [HYQ.out]; exact HALL.out j (by rw [← HRL.out]; exact hj)))
    subst hf
    clear hg
    go_wp2_with fail
    go_ret
    exact ⟨rfl, HGW.out⟩
end Go.Proofs.YtehhlgdkhecacaaGreat

namespace Go.Proofs.YtehhlgdkhecacaaGreat
open Go.RowKit Go.Shelf
theorem in_any (n lo hi : Int) (w : World) :
  Calls Tryz.prog 108 #[.int .i64 n, .int .i64 lo, .int .i64 hi] w fun e w' => e = .returned (.bool (rng n lo hi)) ∧ w = w' := by
 unfold rng
 by_cases h1 : lo ≤ n
 ·go_enter Tryz.func108, Tryz.ntmps108
  go_wp2
  go_ret
  exact ⟨by simp [h1], rfl⟩
 ·go_enter Tryz.func108, Tryz.ntmps108
  go_wp2
  go_ret
  exact ⟨by simp; omega, rfl⟩
theorem refDay_any (n : Int) (w : World) : Calls Tryz.prog 119 #[.int .i64 n] w fun e w' => e = .returned (.bool (rng n 0 4166)) ∧ w = w' := by
 go_enter Tryz.func119, Tryz.ntmps119
 go_wp2_with (go_at_call 108; refine (in_any _ _ _ _).mono ?_; rintro e w' ⟨rfl, rfl⟩)
 go_ret
 exact ⟨rfl, rfl⟩
theorem refPerson_any (n : Int) (w : World) : Calls Tryz.prog 120 #[.int .i64 n] w fun e w' => e = .returned (.bool (rng n 1 999)) ∧ w = w' := by
 go_enter Tryz.func120, Tryz.ntmps120
 go_wp2_with (go_at_call 108; refine (in_any _ _ _ _).mono ?_; rintro e w' ⟨rfl, rfl⟩)
 go_ret
 exact ⟨rfl, rfl⟩
theorem refLasts_any (k : Int) (w : World) : Calls Tryz.prog 99 #[.int .i64 k] w fun e w' => e = .returned (.bool (lastsB k)) ∧ w = w' := by
 unfold lastsB
 by_cases h3 : k = 3
 ·subst h3
  go_enter Tryz.func99, Tryz.ntmps99
  go_wp2
  go_ret
  exact ⟨rfl, rfl⟩
 ·by_cases h4 : k = 4
  ·subst h4
   go_enter Tryz.func99, Tryz.ntmps99
   go_wp2
   go_ret
   exact ⟨rfl, rfl⟩
  ·have e3 : (k == 3) = false := beq_eq_false_iff_ne.2 h3
   have e4 : (k == 4) = false := beq_eq_false_iff_ne.2 h4
   go_enter Tryz.func99, Tryz.ntmps99
   go_wp2
   go_ret
   refine ⟨?_, rfl⟩
   simp [h3, h4]
   rfl
theorem counts_any (p : Pf) (k : Int) (w : World) : Calls Tryz.prog 122 #[pv p, .int .i64 k] w fun e w' => e = .returned (.bool (cnt p.q k)) ∧ Below w.heap.size w w' := by
 unfold cnt
 by_cases h1 : p.q.kno ≤ k
 ·by_cases h2 : p.q.unt = 0
  ·have e2 : (p.q.unt == 0) = true := beq_iff_eq.2 h2
   rw [decide_eq_true h1, decide_eq_true h2]
   go_enter Tryz.func122, Tryz.ntmps122
   go_wp2
   go_ret
   exact ⟨rfl, one_more _ _⟩
  ·have e2 : (p.q.unt == 0) = false := beq_eq_false_iff_ne.2 h2
   rw [decide_eq_true h1, decide_eq_false h2]
   go_enter Tryz.func122, Tryz.ntmps122
   go_wp2
   go_ret
   exact ⟨by simp, one_more _ _⟩
 ·rw [decide_eq_false h1]
  go_enter Tryz.func122, Tryz.ntmps122
  go_wp2
  go_ret
  exact ⟨by simp, one_more _ _⟩
/-- The place of a source; -1 if there is none. -/
def atN (l : List Qf) (s : Int) : Int := if s ∈ l.map Qf.src then (((l.map Qf.src).idxOf s : Nat) : Int) else -1
theorem atN_yes {l : List Qf} {s : Int} {k : Nat} (hk : k < l.length) (h : (l.getD k q0).src = s) (hno : ∀ j, j < k → (l.getD j q0).src ≠ s) : atN l s = k := by
 have g : ∀ j (hj : j < l.length), (l.map Qf.src)[j]'(by simpa using hj) = (l.getD j q0).src := fun j hj => by
  rw [List.getElem_map, List.getD_eq_getElem?_getD, List.getElem?_eq_getElem hj]; rfl
 have hm : s ∈ l.map Qf.src := by
  rw [← h, ← g k hk]
  exact List.getElem_mem _
 unfold atN
 rw [if_pos hm]
 have hi : (l.map Qf.src).idxOf s < (l.map Qf.src).length := List.idxOf_lt_length_of_mem hm
 have he : (l.map Qf.src)[(l.map Qf.src).idxOf s] = s := List.getElem_idxOf hi
 have hil : (l.map Qf.src).idxOf s < l.length := by simpa using hi
 rw [g _ hil] at he
 rcases Nat.lt_trichotomy ((l.map Qf.src).idxOf s) k with h1 | h1 | h1
 ·exact absurd he (hno _ h1)
 ·rw [h1]
 ·have := List.not_of_lt_findIdx (xs := l.map Qf.src) (p := fun x => x == s) (i := k) h1
  rw [g k hk, h] at this
  simp at this
theorem atN_no {l : List Qf} {s : Int} (hno : ∀ j, j < l.length → (l.getD j q0).src ≠ s) : atN l s = -1 := by
 unfold atN
 rw [if_neg]
 intro hm
 obtain ⟨q, hq, e⟩ := List.mem_map.1 hm
 obtain ⟨j, hj, e2⟩ := List.getElem_of_mem hq
 refine hno j hj ?_
 rw [List.getD_eq_getElem?_getD, List.getElem?_eq_getElem hj, e2]
 exact e
theorem atN_neg {l : List Qf} {s : Int} : atN l s < 0 ↔ s ∉ l.map Qf.src := by
 unfold atN
 split
 ·next h => simp [h]
 ·next h => simp [h]
set_option maxRecDepth 100000 in
theorem at_any (A : Option Addr) (n c : Nat) (l : List Pf) (s : Int) (w : World) (ha : Prf w A n l) (hn : n ≤ 1000) :
  Calls Tryz.prog 78 #[.slice A n c, .int .i64 s] w fun e w' => e = .returned (.int .i64 (atN (l.map Pf.q) s)) ∧ Below w.heap.size w w' := by
 have HA := Lib.hid ha
 have HLN := Lib.hid ha.len
 have HY := Lib.hid (fun k hk h hno => atN_yes (l := l.map Pf.q) (s := s) (k := k) hk h hno)
 have HNO := Lib.hid (fun h => atN_no (l := l.map Pf.q) (s := s) h)
 have HMP := Lib.hid (fun k (hk : k < n) => map_pf (l := l) (k := k) (by rw [ha.len]; exact hk))
 obtain ⟨ix, hix⟩ : ∃ i, atN (l.map Pf.q) s = i := ⟨_, rfl⟩
 rw [hix] at HY HNO ⊢
 clear hix ha
 go_enter Tryz.func78, Tryz.ntmps78
 go_wp2_with fail
 go_loopw [5] (fun i wr => ∃ k : Nat, k ≤ n ∧ i = .int .i64 k ∧ (∀ j, j < k → ((l.map Pf.q).getD j q0).src ≠ s) ∧ Below w.heap.size w wr) (fun i _ => n - (intOf i).toNat)
 case atStart => exact ⟨0, Nat.zero_le _, rfl, fun j hj => absurd hj (by omega), Below.refl _ _⟩
 case round =>
  obtain ⟨k, hk, rfl, hno, hg⟩ := hrel
  have HN := Lib.hid hno
  have HG := Lib.hid hg
  have hwr2 : wrap64 ((k : Int) + 1) = (k : Int) + 1 := wrap_in (by omega)
  clear hno
  by_cases hkn : k < n
  ·obtain ⟨b, o, rfl, -, -, -, hyc⟩ := (HA.out.below hg).at hkn
   obtain ⟨y, hy⟩ : ∃ y, l.getD k p0 = y := ⟨_, rfl⟩
   have HQ := Lib.hid (show ((l.map Pf.q).getD k q0).src = y.q.src by rw [HMP.out k hkn, hy])
   rw [hy] at hyc
   obtain ⟨e0, -⟩ := hyc _ (Below.refl _ _)
   clear hyc hy hg
   by_cases hs : y.q.src = s
   ·have hb : (y.q.src == s) = true := beq_iff_eq.2 hs
    have HE := Lib.hid (HY.out k (by rw [List.length_map, HLN.out]; exact hkn) (by rw [HQ.out]; exact hs) HN.out)
    clear hs
    go_wp2_with fail
    go_ret
    exact ⟨by rw [HE.out]; rfl, HG.out⟩
   ·have hb : (y.q.src == s) = false := beq_eq_false_iff_ne.2 hs
    have HS := Lib.hid hs
    clear hs
    go_wp2_with fail
    go_roundw
    case rel =>
     refine ⟨k + 1, by omega, rfl, fun j hj => ?_, HG.out⟩
     by_cases hjk : j < k
     ·exact HN.out j hjk
     ·obtain rfl : j = k := by omega
      rw [HQ.out]; exact HS.out
    case measure => simp only [intOf]; omega
  ·obtain rfl : k = n := by omega
   have HE := Lib.hid (HNO.out (fun j hj => HN.out j (by rw [List.length_map, HLN.out] at hj; exact hj)))
   clear hg
   go_wp2_with fail
   go_ret
   exact ⟨by rw [HE.out]; rfl, HG.out⟩
end Go.Proofs.YtehhlgdkhecacaaGreat

namespace Go.Proofs.YtehhlgdkhecacaaGreat
def fiveB (q : Qf) : Bool := rng q.src 1 99999 && rng q.kind 1 8 && rng q.per.length 1 4 && rng q.day 0 4166 && rng q.kno 0 4166
def perB (q : Qf) : Bool := upB q.per && q.per.all fun n => rng n 1 999
theorem isQf_ref (q : Qf) : isQf q = (fiveB q && (perB q && (wherB q && (thrB q && timesB q)))) := by
 unfold isQf fiveB perB wherB thrB timesB
 ac_rfl
theorem perB_iff {q : Qf} : perB q = true ↔ ∀ j, j < q.per.length → rng (q.per.getD j 0) 1 999 = true ∧ (j = 0 ∨ q.per.getD (j - 1) 0 < q.per.getD j 0) := by
 unfold perB upB
 rw [Bool.and_eq_true, List.all_eq_true, List.all_eq_true]
 constructor
 ·rintro ⟨h1, h2⟩ j hj
  refine ⟨h2 _ (List.mem_of_getElem? (getD_int1 hj)), ?_⟩
  have := h1 j (List.mem_range.2 hj)
  rwa [Bool.or_eq_true, decide_eq_true_eq, decide_eq_true_eq] at this
 ·intro h
  refine ⟨fun j hj => ?_, fun x hx => ?_⟩
  ·have := (h j (List.mem_range.1 hj)).2
   rwa [Bool.or_eq_true, decide_eq_true_eq, decide_eq_true_eq]
  ·obtain ⟨i, hi, rfl⟩ := List.mem_iff_getElem.1 hx
   have := (h i hi).1
   rwa [getD_int hi] at this
theorem timesB_1 {q : Qf} (h : q.unt = 0) : timesB q = true := by unfold timesB; rw [decide_eq_true h]; rfl
theorem timesB_2 {q : Qf} (h : q.unt ≠ 0) (h2 : q.unt ≤ q.kno ∨ 4166 < q.unt) : timesB q = false := by
 unfold timesB rng
 rw [decide_eq_false h, Bool.false_or, Bool.and_eq_false_iff, decide_eq_false_iff_not, decide_eq_false_iff_not]
 omega
theorem timesB_3 {q : Qf} (h : q.kno < q.unt) (h2 : q.unt ≤ 4166) : timesB q = true := by
 unfold timesB rng
 rw [decide_eq_true (show q.kno + 1 ≤ q.unt by omega), decide_eq_true h2]
 simp
theorem manyQ_snoc (l : List Qf) (q : Qf) : manyL (l ++ [q]) = manyL l * q.per.length := by unfold manyL; rw [List.map_append, List.foldl_append]; rfl
theorem getD_mem {l : List Qf} {k : Nat} (hk : k < l.length) : l.getD k q0 ∈ l := by
 rw [List.getD_eq_getElem?_getD, List.getElem?_eq_getElem hk]
 exact List.getElem_mem _
theorem many_le {l : List Qf} (h : ∀ q ∈ l, 1 ≤ q.per.length) (k : Nat) : ∀ d, k + d ≤ l.length → manyL (l.take k) ≤ manyL (l.take (k + d))
 | 0, _ => Nat.le_refl _
 | d + 1, hd => by
  refine Nat.le_trans (many_le h k d (by omega)) ?_
  rw [show k + (d + 1) = (k + d) + 1 by omega, take_snoc (d := q0) (by omega), manyQ_snoc]
  exact Nat.le_mul_of_pos_right _ (h _ (getD_mem (by omega)))
theorem okL_many {l : List Qf} (h : okL l = true) : manyL l ≤ 2000 := by
 unfold okL at h
 simp only [Bool.and_eq_true, decide_eq_true_eq] at h
 exact h.1.2
theorem ok_item {l : List Qf} {k : Nat} (h : okL l = true) (hk : k < l.length) : isQf (l.getD k q0) = true ∧ (k = 0 ∨ (l.getD (k - 1) q0).src < (l.getD k q0).src) ∧ manyL (l.take (k + 1)) ≤ 2000 := by
 refine ⟨okL_all h _ (getD_mem hk), ?_, ?_⟩
 ·rcases Nat.eq_zero_or_pos k with h0 | h0
  ·exact .inl h0
  ·have hs := okL_src h
   unfold srcL at hs
   rw [List.pairwise_iff_getElem] at hs
   have := hs (k - 1) k (by simp; omega) (by simpa using hk) (by omega)
   refine .inr ?_
   rw [List.getD_eq_getElem?_getD, List.getElem?_eq_getElem (show k - 1 < l.length by omega), List.getD_eq_getElem?_getD, List.getElem?_eq_getElem hk]
   simpa using this
 ·have h1 := many_le (fun q hq => (isQf_per (okL_all h q hq)).1) (k + 1) (l.length - (k + 1)) (by omega)
  rw [show k + 1 + (l.length - (k + 1)) = l.length by omega, List.take_length] at h1
  exact Nat.le_trans h1 (okL_many h)
theorem ok_whole {l : List Qf} (hlen : l.length ≤ 60) (h : ∀ j, j < l.length → isQf (l.getD j q0) = true ∧ (j = 0 ∨ (l.getD (j - 1) q0).src < (l.getD j q0).src)) (hm : manyL l ≤ 2000) : okL l = true := by
 unfold okL upB
 have g : ∀ j, j < l.length → (l.map Qf.src).getD j 0 = (l.getD j q0).src := fun j hj => by
  rw [List.getD_eq_getElem?_getD, List.getElem?_map, List.getElem?_eq_getElem hj, List.getD_eq_getElem?_getD, List.getElem?_eq_getElem hj]; rfl
 simp only [Bool.and_eq_true, decide_eq_true_eq]
 refine ⟨⟨⟨List.all_eq_true.2 fun q hq => ?_, hlen⟩, hm⟩, List.all_eq_true.2 fun j hj => ?_⟩
 ·obtain ⟨i, hi, rfl⟩ := List.mem_iff_getElem.1 hq
  have := (h i hi).1
  rwa [List.getD_eq_getElem?_getD, List.getElem?_eq_getElem hi] at this
 ·have hj2 : j < l.length := by simpa using hj
  rw [Bool.or_eq_true, decide_eq_true_eq, decide_eq_true_eq, g j hj2, g (j - 1) (by omega)]
  exact (h j hj2).2
def addI (l : List Qf) (s : Int) : Nat := l.countP fun q => decide (q.src < s)
def addL (l : List Qf) (p : Qf) : List Qf := l.take (addI l p.src) ++ p :: l.drop (addI l p.src)
/-- .. after k rounds. -/
def addK (l : List Qf) (p : Qf) (k : Nat) : List Qf := if addI l p.src < k then l.take (addI l p.src) ++ p :: (l.take k).drop (addI l p.src) else l.take k
def addE (l : List Qf) (p : Qf) : Int := if okL l = true then (if isQf p = true then (if p.src ∈ srcL l then 22 else if okL (addL l p) = true then 0 else 2) else 20) else 21
theorem addI_spec : ∀ {l : List Qf} (_ : (srcL l).Pairwise (· < ·)) (s : Int), addI l s ≤ l.length ∧ ∀ k, k < l.length → ((l.getD k q0).src < s ↔ k < addI l s)
 | [], _, s => ⟨by simp [addI], fun k hk => absurd hk (by simp)⟩
 | q :: l, h, s => by
  unfold srcL at h
  rw [List.map_cons, List.pairwise_cons] at h
  obtain ⟨h1, h2⟩ := h
  obtain ⟨i1, i2⟩ := addI_spec (l := l) h2 s
  have hc : addI (q :: l) s = addI l s + if decide (q.src < s) = true then 1 else 0 := by unfold addI; exact List.countP_cons
  by_cases hq : q.src < s
  ·rw [if_pos (decide_eq_true hq)] at hc
   rw [hc]
   refine ⟨by simpa using i1, fun k hk => ?_⟩
   cases k with
   | zero => simpa using hq
   | succ k =>
    have := i2 k (by simpa using hk)
    rw [List.getD_cons_succ]
    omega
  ·rw [if_neg (by simpa using hq)] at hc
   have hz : addI l s = 0 := by
    rcases Nat.eq_zero_or_pos (addI l s) with e | e
    ·exact e
    ·have h0 := (i2 0 (by omega)).2 e
     have := h1 (l.getD 0 q0).src (List.mem_map.2 ⟨_, getD_mem (by omega), rfl⟩)
     omega
   rw [hc, hz]
   refine ⟨Nat.zero_le _, fun k hk => ?_⟩
   cases k with
   | zero => simpa using hq
   | succ k =>
    have := i2 k (by simpa using hk)
    rw [List.getD_cons_succ]
    omega
theorem addK_0 (l : List Qf) (p : Qf) : addK l p 0 = [] := by unfold addK; rw [if_neg (by omega), List.take_zero]
theorem addK_lo {l : List Qf} {p : Qf} {k : Nat} (hk : k < l.length) (h : k < addI l p.src) : addK l p (k + 1) = addK l p k ++ [l.getD k q0] := by
 unfold addK
 rw [if_neg (by omega), if_neg (by omega), take_snoc hk]
theorem addK_at {l : List Qf} {p : Qf} {k : Nat} (hk : k < l.length) (h : k = addI l p.src) : addK l p (k + 1) = addK l p k ++ [p] ++ [l.getD k q0] := by
 unfold addK
 rw [if_pos (by omega), if_neg (by omega), ← h, take_snoc (d := q0) hk, List.drop_append_of_le_length (by rw [List.length_take]; omega), List.drop_of_length_le (by rw [List.length_take]; omega)]
 simp
theorem addK_hi {l : List Qf} {p : Qf} {k : Nat} (hk : k < l.length) (h : addI l p.src < k) : addK l p (k + 1) = addK l p k ++ [l.getD k q0] := by
 unfold addK
 rw [if_pos (by omega), if_pos h, take_snoc (d := q0) hk, List.drop_append_of_le_length (by rw [List.length_take]; omega)]
 simp
theorem addK_fin {l : List Qf} {p : Qf} (h : addI l p.src < l.length) : addK l p l.length = addL l p := by
 unfold addK addL
 rw [if_pos h, List.take_length]
theorem addK_end {l : List Qf} {p : Qf} (h : addI l p.src = l.length) : addK l p l.length ++ [p] = addL l p := by
 unfold addK addL
 rw [h, if_neg (by omega), List.take_length, List.drop_length]
theorem addK_len {l : List Qf} {p : Qf} {k : Nat} (hk : k ≤ l.length) : (addK l p k).length ≤ k + 1 := by
 unfold addK
 split
 ·rw [List.length_append, List.length_cons, List.length_drop, List.length_take, List.length_take]; omega
 ·rw [List.length_take]; omega
theorem addL_len {l : List Qf} {p : Qf} : (addL l p).length = l.length + 1 := by
 unfold addL
 rw [List.length_append, List.length_cons, List.length_drop, List.length_take]; omega
end Go.Proofs.YtehhlgdkhecacaaGreat

namespace Go.Proofs.YtehhlgdkhecacaaGreat
open Go.RowKit Go.Shelf
set_option maxRecDepth 100000 in
set_option maxHeartbeats 4000000 in
theorem refSources_any (A : Option Addr) (n c : Nat) (l : List Pf) (w : World) (ha : Prf w A n l) (hn : n ≤ 1000) :
  Calls Tryz.prog 70 #[.slice A n c] w fun e w' => (∃ v, e = .returned v ∧ OwnL icells 1 3 w' w.heap.size v (l.map fun p => p.q.src)) ∧ Below w.heap.size w w' := by
 have HA := Lib.hid ha
 have hlen := Lib.hid ha.len
 have HO0 := Lib.hid (OwnL.nil (f := icells) (size := 1) (e := 3) w w.heap.size)
 clear ha
 go_enter Tryz.func70, Tryz.ntmps70
 go_wp2_with fail
 go_loopw [3, 4] (fun v i wr => ∃ k : Nat, k ≤ n ∧ OwnL icells 1 3 wr w.heap.size v ((l.map fun p => p.q.src).take k) ∧ i = .int .i64 k ∧ Below w.heap.size w wr) (fun _ i _ => n - (intOf i).toNat)
 case atStart => exact ⟨0, Nat.zero_le _, HO0.out, rfl, Below.refl _ _⟩
 case round =>
  obtain ⟨k, hk, ho, rfl, hg⟩ := hrel
  have HG := Lib.hid hg
  have HO := Lib.hid ho
  clear ho
  by_cases hkn : k < n
  ·have HTK := Lib.hid (show (l.map fun p => p.q.src).take (k + 1) = (l.map fun p => p.q.src).take k ++ [(l.getD k p0).q.src] by
    rw [take_snoc (d := 0) (by rw [List.length_map, hlen.out]; exact hkn), List.getD_eq_getElem?_getD, List.getElem?_map, getD_pf (by rw [hlen.out]; exact hkn)]; rfl)
   have HTL := Lib.hid (show ((l.map fun p => p.q.src).take k).length + 1 ≤ 1000000 by rw [List.length_take]; omega)
   obtain ⟨xs, hxs⟩ : ∃ xs, (l.map fun p => p.q.src).take k = xs := ⟨_, rfl⟩
   rw [hxs] at HTK HTL HO
   obtain ⟨b, o, rfl, -, hyi, hym, hyc⟩ := (HA.out.below hg).at hkn
   obtain ⟨s, hs⟩ : ∃ s, (l.getD k p0).q.src = s := ⟨_, rfl⟩
   obtain ⟨e0, -⟩ := hyc _ (Below.refl _ _)
   rw [hs] at e0 HTK
   clear hyi hym hyc hs
   have hwr2 : wrap64 ((k : Int) + 1) = (k : Int) + 1 := wrap_in (by omega)
   clear hxs hg
   have GX := Lib.hid (one_more wr (.cells #[.int .i64 s] 3))
   have HI := Lib.hid (one_int (Blk.new wr 3 #[.int .i64 s]))
   have HOX := Lib.hid (HO.out.ext GX.out)
   have HBB := Lib.hid (show w.heap.size ≤ (wr.alloc (.cells #[.int .i64 s] 3)).heap.size by have h1 := HG.out.size; have h3 := GX.out.size; omega)
   go_wp2_with (at_builtin; go_loud (refine wpList_app kdI (by rfl) _ _ (by rfl) w.heap.size _ xs (by rfl) HOX.out _ 1 1 [s] (by rfl) HI.out HTL.out HBB.out ?_); intro v' w' ho hgr hz; have HO2 := Lib.hid ho; have GV := Lib.hid (HG.out.trans (GX.out.mono HG.out.size) |>.trans (HOX.out.below hgr (Nat.le_refl _) HBB.out)); clear ho hgr hz)
   go_roundw
   case rel => exact ⟨k + 1, by omega, by rw [HTK.out]; exact HO2.out, by go_num, GV.out⟩
   case measure => simp [intOf]; omega
  ·obtain rfl : k = n := by omega
   have HT := Lib.hid (show (l.map fun p => p.q.src).take k = l.map fun p => p.q.src from List.take_of_length_le (by rw [List.length_map, hlen.out]; exact Nat.le_refl _))
   rw [HT.out] at HO
   go_wp2_with fail
   go_ret
   exact ⟨⟨_, rfl, HO.out⟩, HG.out⟩
end Go.Proofs.YtehhlgdkhecacaaGreat

namespace Go.Proofs.YtehhlgdkhecacaaGreat
open Go.RowKit Go.Shelf
set_option maxRecDepth 100000 in
set_option maxHeartbeats 16000000 in
theorem refCheckProof_any (p : Pf) (w : World) (hp : PI w p) : Calls Tryz.prog 64 #[pv p] w fun e w' => e = .returned (.int .i64 (err (isQf p.q) 20)) ∧ Below w.heap.size w w' := by
 rw [isQf_ref]
 have hlen := hp.len
 have HPC := Lib.hid hp.m
 obtain ⟨W1, hW1⟩ : ∃ W1, w.alloc (.cells #[.int .i64 p.q.src, .int .i64 p.q.kind, .slice p.A p.n p.c, .int .i64 p.q.oth, .int .i64 p.q.par, .int .i64 p.q.day, .int .i64 p.q.thr, .int .i64 p.q.kno, .int .i64 p.q.unt] 56) = W1 := ⟨_, rfl⟩
 have G1 := Lib.hid (show Below w.heap.size w W1 by rw [← hW1]; exact one_more _ _)
 have B1 := Lib.hid (show Blk W1 w.heap.size 56 #[.int .i64 p.q.src, .int .i64 p.q.kind, .slice p.A p.n p.c, .int .i64 p.q.oth, .int .i64 p.q.par, .int .i64 p.q.day, .int .i64 p.q.thr, .int .i64 p.q.kno, .int .i64 p.q.unt] by rw [← hW1]; exact Blk.new _ _ _)
 have HP := Lib.hid (hp.below G1.out)
 have HW1 := Lib.hid hW1
 have T1 := in_any p.q.src 1 99999
 have T2 := in_any p.q.kind 1 8
 have T3 := in_any (p.n : Int) 1 4
 have T7 := refDay_any p.q.day
 have T8 := refDay_any p.q.kno
 have TA := refLasts_any p.q.kind
 have TB := in_any p.q.thr p.q.day 4166
 have TC := refPerson_any p.q.oth
 have TD := in_any p.q.par 0 5
 have Hn : rng (p.n : Int) 1 4 = true → 1 ≤ p.n ∧ p.n ≤ 4 := fun h => by unfold rng at h; simp only [Bool.and_eq_true, decide_eq_true_eq] at h; omega
 have Hh : thrB p.q = if lastsB p.q.kind = true then rng p.q.thr p.q.day 4166 else decide (p.q.thr = 0) := rfl
 have Hw : wherB p.q = if p.q.kind = 2 then rng p.q.oth 1 999 && decide (p.q.par = 0) else decide (p.q.oth = 0) && rng p.q.par 0 5 := rfl
 have Hp1 : (∀ j, j < p.n → rng (p.q.per.getD j 0) 1 999 = true ∧ (j = 0 ∨ p.q.per.getD (j - 1) 0 < p.q.per.getD j 0)) → perB p.q = true := fun h => perB_iff.2 (by rw [hlen]; exact h)
 have Hp2 : ∀ j, j < p.n → ¬ (rng (p.q.per.getD j 0) 1 999 = true ∧ (j = 0 ∨ p.q.per.getD (j - 1) 0 < p.q.per.getD j 0)) → perB p.q = false := fun j hj h => by
  rw [Bool.eq_false_iff]
  exact fun e => h (perB_iff.1 e j (by rw [hlen]; exact hj))
 have Ht1 := fun h => timesB_1 (q := p.q) h
 have Ht2 := fun h h2 => timesB_2 (q := p.q) h h2
 have Ht3 := fun h h2 => timesB_3 (q := p.q) h h2
 rw [show fiveB p.q = (rng p.q.src 1 99999 && rng p.q.kind 1 8 && rng (p.n : Int) 1 4 && rng p.q.day 0 4166 && rng p.q.kno 0 4166) by unfold fiveB; rw [hlen]]
 generalize perB p.q = bp at Hp1 Hp2 ⊢
 generalize timesB p.q = bt at Ht1 Ht2 Ht3 ⊢
 generalize thrB p.q = bh at Hh ⊢
 generalize wherB p.q = bw at Hw ⊢
 generalize rng p.q.src 1 99999 = b1 at T1 ⊢
 generalize rng p.q.kind 1 8 = b2 at T2 ⊢
 generalize rng (p.n : Int) 1 4 = b3 at T3 Hn ⊢
 generalize rng p.q.day 0 4166 = b7 at T7 ⊢
 generalize rng p.q.kno 0 4166 = b8 at T8 ⊢
 generalize lastsB p.q.kind = ba at TA Hh
 generalize rng p.q.thr p.q.day 4166 = bb at TB Hh
 generalize rng p.q.oth 1 999 = bc at TC Hw
 generalize rng p.q.par 0 5 = bd at TD Hw
 have HHN := Lib.hid Hn
 have HHh := Lib.hid Hh
 have HHw := Lib.hid Hw
 have HP1 := Lib.hid Hp1
 have HP2 := Lib.hid Hp2
 have HT1 := Lib.hid Ht1
 have HT2 := Lib.hid Ht2
 have HT3 := Lib.hid Ht3
 have C1 := Lib.hid T1
 have C2 := Lib.hid T2
 have C3 := Lib.hid T3
 have C7 := Lib.hid T7
 have C8 := Lib.hid T8
 have CA := Lib.hid TA
 have CB := Lib.hid TB
 have CC := Lib.hid TC
 have CD := Lib.hid TD
 clear T1 T2 T3 T7 T8 TA TB TC TD Hn Hh Hw Hp1 Hp2 Ht1 Ht2 Ht3 hW1 hp hlen
 have hcase : b1 = false ∨ (b1 = true ∧ b2 = false) ∨ (b1 = true ∧ b2 = true ∧ b3 = false) ∨ (b1 = true ∧ b2 = true ∧ b3 = true ∧ b7 = false) ∨ (b1 = true ∧ b2 = true ∧ b3 = true ∧ b7 = true ∧ b8 = false) ∨ (b1 = true ∧ b2 = true ∧ b3 = true ∧ b7 = true ∧ b8 = true) := by
  cases b1 <;> cases b2 <;> cases b3 <;> cases b7 <;> cases b8 <;> simp
 go_enter Tryz.func64, Tryz.ntmps64
 go_upto_region 1 with fail
 rw [HW1.out]
 have k0 := B1.out.cell 0
 have k1 := B1.out.cell 1
 have k2 := B1.out.cell 2
 have k5 := B1.out.cell 5
 have k7 := B1.out.cell 7
 rcases hcase with rfl | ⟨rfl, rfl⟩ | ⟨rfl, rfl, rfl⟩ | ⟨rfl, rfl, rfl, rfl⟩ | ⟨rfl, rfl, rfl, rfl, rfl⟩ | ⟨rfl, rfl, rfl, rfl, rfl⟩
 iterate 5
  ·go_wp2_with (first
   | (go_at_call 108; (with_reducible refine (C1.out _).mono ?_); rintro e w' ⟨rfl, rfl⟩)
   | (go_at_call 108; (with_reducible refine (C2.out _).mono ?_); rintro e w' ⟨rfl, rfl⟩)
   | (go_at_call 108; (with_reducible refine (C3.out _).mono ?_); rintro e w' ⟨rfl, rfl⟩)
   | (go_at_call 119; (with_reducible refine (C7.out _).mono ?_); rintro e w' ⟨rfl, rfl⟩)
   | (go_at_call 119; (with_reducible refine (C8.out _).mono ?_); rintro e w' ⟨rfl, rfl⟩))
   go_ret
   exact ⟨rfl, G1.out⟩
 go_upto_region 3 with (first
   | (go_at_call 108; (with_reducible refine (C1.out _).mono ?_); rintro e w' ⟨rfl, rfl⟩)
   | (go_at_call 108; (with_reducible refine (C2.out _).mono ?_); rintro e w' ⟨rfl, rfl⟩)
   | (go_at_call 108; (with_reducible refine (C3.out _).mono ?_); rintro e w' ⟨rfl, rfl⟩)
   | (go_at_call 119; (with_reducible refine (C7.out _).mono ?_); rintro e w' ⟨rfl, rfl⟩)
   | (go_at_call 119; (with_reducible refine (C8.out _).mono ?_); rintro e w' ⟨rfl, rfl⟩))
 obtain ⟨hn1, hn4⟩ := HHN.out (by first | rfl | trivial)
 clear k0 k1 k2 k5 k7
 go_wp2_with fail
 go_loopw [3] (fun i wr => ∃ k : Nat, k ≤ p.n ∧ i = .int .i64 k ∧ Below W1.heap.size W1 wr ∧ ∀ j, j < k → rng (p.q.per.getD j 0) 1 999 = true ∧ (j = 0 ∨ p.q.per.getD (j - 1) 0 < p.q.per.getD j 0)) (fun i _ => p.n - (intOf i).toNat)
 case atStart => exact ⟨0, Nat.zero_le _, rfl, Below.refl _ _, fun j hj => absurd hj (by omega)⟩
 case round =>
  obtain ⟨k, hk, rfl, hg, hall⟩ := hrel
  have HG := Lib.hid hg
  have HALL := Lib.hid hall
  have GZ := Lib.hid (G1.out.trans (hg.mono G1.out.size))
  clear hall
  by_cases hkn : k < p.n
  ·obtain ⟨b_, o_, hA, -, -, hc⟩ := ints_at (HP.out.below hg).i hkn
   have ck := hc _ (Below.refl _ _)
   have HCP := Lib.hid (fun (h0 : k ≠ 0) => (show World.cell? wr ⟨b_, o_ + (k - 1), none⟩ = some (.int .i64 (p.q.per.getD (k - 1) 0)) by
    obtain ⟨b2_, o2_, hA2, -, -, hc2⟩ := ints_at (HP.out.below hg).i (show k - 1 < p.n by omega)
    rw [hA] at hA2; cases hA2
    exact hc2 _ (Below.refl _ _)))
   obtain ⟨y, hy⟩ : ∃ y, p.q.per.getD k 0 = y := ⟨_, rfl⟩
   rw [hy] at ck
   have HY := Lib.hid hy
   have T5 := refPerson_any y
   have HB := Lib.hid (HP2.out k hkn)
   have HS := Lib.hid (fun (h : rng y 1 999 = true ∧ (k = 0 ∨ p.q.per.getD (k - 1) 0 < y)) => (show ∀ j, j < k + 1 → rng (p.q.per.getD j 0) 1 999 = true ∧ (j = 0 ∨ p.q.per.getD (j - 1) 0 < p.q.per.getD j 0) from fun j hj => by
    by_cases e : j = k
    ·subst e; rw [HY.out]; exact h
    ·exact HALL.out j (by omega)))
   rw [hy] at HB
   have b2 : World.cell? wr ⟨w.heap.size, 2, none⟩ = some (.slice (some ⟨b_, o_, none⟩) p.n p.c) := by rw [← hA]; exact (B1.out.ext hg).cell 2
   have hki : (k : Int) < (p.n : Int) := by omega
   have hwr2 : wrap64 ((k : Int) + 1) = (k : Int) + 1 := wrap_in (by omega)

   have xk := cellW ck
   clear hc ck hy hA hg
   obtain ⟨bk, hbk⟩ : ∃ b, rng y 1 999 = b := ⟨_, rfl⟩
   rw [hbk] at T5 HB HS
   have C5 := Lib.hid T5
   clear T5 hbk
   cases bk with
   | false =>
    have hf := HB.out (by rintro ⟨h, -⟩; cases h)
    subst hf
    go_upto_region 6 with fail
    have x2 := cellW b2
    clear b2
    refine wp_region_calm wr (by kernel_rfl) (by kernel_rfl) (Below.refl _ _) ?_
    repeat (go_big_quiet_step ((go_at_call 120; exact callsCalmSame (C5.out _))))
    refine wpQuiet_nil ?_
    rintro _ ⟨z, rfl⟩
    have GQ := Lib.hid z.ok
    go_wp2
    go_ret
    exact ⟨rfl, GZ.out.trans (GQ.out.mono GZ.out.size)⟩
   | true =>
    by_cases h0 : k = 0
    ·have hk0 : decide ((0 : Int) < (k : Int)) = false := decide_eq_false (by omega)
     have hk1 : decide (0 < k) = false := decide_eq_false (by omega)
     have HS2 := Lib.hid (HS.out ⟨rfl, .inl h0⟩)
     clear h0
     go_upto_region 6 with fail
     have x2 := cellW b2
     clear b2
     refine wp_region_calm wr (by kernel_rfl) (by kernel_rfl) (Below.refl _ _) ?_
     repeat (go_big_quiet_step ((go_at_call 120; exact callsCalmSame (C5.out _))))
     refine wpQuiet_nil ?_
     rintro _ ⟨z, rfl⟩
     have GQ := Lib.hid z.ok
     go_wp2
     go_roundw
     case rel => exact ⟨k + 1, by omega, rfl, HG.out.trans (GQ.out.mono HG.out.size), HS2.out⟩
     case measure => simp only [intOf]; omega
    ·have hk0 : decide ((0 : Int) < (k : Int)) = true := decide_eq_true (by omega)
     have hk1 : decide (0 < k) = true := decide_eq_true (by omega)
     have ck := HCP.out h0
     obtain ⟨z1, hz1⟩ : ∃ y, p.q.per.getD (k - 1) 0 = y := ⟨_, rfl⟩
     rw [hz1] at ck HB HS
     obtain ⟨j0, hj0⟩ : ∃ j, k - 1 = j := ⟨_, rfl⟩
     have hltl : (j0 : Int) < (p.n : Int) := by omega
     have hwr : wrap64 ((k : Int) - 1) = (j0 : Int) := by rw [wrap_in (by omega)]; omega
     have hwr3 : IntKind.i64.wrap ((k : Int) - 1) = (j0 : Int) := by rw [IntKind.wrap_i64]; omega
     rw [hj0] at ck
     have xp := cellW ck
     have H0 := Lib.hid h0
     clear ck hz1 hj0
     by_cases hlt : z1 < y
     ·have HS2 := Lib.hid (HS.out ⟨rfl, .inr hlt⟩)
      have hd : decide (y ≤ z1) = false := decide_eq_false (by omega)
      clear hlt h0
      go_upto_region 6 with fail
      have x2 := cellW b2
      clear b2
      refine wp_region_calm wr (by kernel_rfl) (by kernel_rfl) (Below.refl _ _) ?_
      repeat (go_big_quiet_step ((go_at_call 120; exact callsCalmSame (C5.out _))))
      refine wpQuiet_nil ?_
      rintro _ ⟨z, rfl⟩
      have GQ := Lib.hid z.ok
      go_wp2
      go_roundw
      case rel => exact ⟨k + 1, by omega, rfl, HG.out.trans (GQ.out.mono HG.out.size), HS2.out⟩
      case measure => simp only [intOf]; omega
     ·have hf := HB.out (by rintro ⟨-, h | h⟩ <;> omega)
      have hd : decide (y ≤ z1) = true := decide_eq_true (by omega)
      subst hf
      clear hlt h0
      go_upto_region 6 with fail
      have x2 := cellW b2
      clear b2
      refine wp_region_calm wr (by kernel_rfl) (by kernel_rfl) (Below.refl _ _) ?_
      repeat (go_big_quiet_step ((go_at_call 120; exact callsCalmSame (C5.out _))))
      refine wpQuiet_nil ?_
      rintro _ ⟨z, rfl⟩
      have GQ := Lib.hid z.ok
      go_wp2
      go_ret
      exact ⟨rfl, GZ.out.trans (GQ.out.mono GZ.out.size)⟩
  ·obtain rfl : k = p.n := by omega
   have hf := HP1.out HALL.out
   subst hf
   have m1 := (B1.out.ext hg).cell 1
   have m3 := (B1.out.ext hg).cell 3
   have m4 := (B1.out.ext hg).cell 4
   have m5 := (B1.out.ext hg).cell 5
   have m6 := (B1.out.ext hg).cell 6
   have m7 := (B1.out.ext hg).cell 7
   have m8 := (B1.out.ext hg).cell 8
   have m2 : World.cell? wr ⟨w.heap.size, 2, none⟩ = some (.slice p.A p.n p.c) := (B1.out.ext hg).cell 2
   have hbw := HHw.out
   have hbh := HHh.out
   clear hg
   by_cases hk2 : p.q.kind = 2
   ·have hkb : (p.q.kind == 2) = true := by simpa using hk2
    rw [if_pos hk2] at hbw
    clear hk2
    cases bc with
    | false =>
     rw [Bool.false_and] at hbw
     subst hbw
     go_wp2_with (first | (go_at_call 99; (with_reducible refine (CA.out _).mono ?_); rintro e w' ⟨rfl, rfl⟩) | (go_at_call 108; (with_reducible refine (CB.out _).mono ?_); rintro e w' ⟨rfl, rfl⟩) | (go_at_call 120; (with_reducible refine (CC.out _).mono ?_); rintro e w' ⟨rfl, rfl⟩) | (go_at_call 108; (with_reducible refine (CD.out _).mono ?_); rintro e w' ⟨rfl, rfl⟩))
     go_ret
     exact ⟨by first | rfl | simp, GZ.out⟩
    | true =>
     rw [Bool.true_and] at hbw
     by_cases hpa : p.q.par = 0
     ·have hpb : (p.q.par != 0) = false := by simpa using hpa
      rw [decide_eq_true hpa] at hbw
      subst hbw
      clear hpa
      go_upto_region 11 with (first | (go_at_call 99; (with_reducible refine (CA.out _).mono ?_); rintro e w' ⟨rfl, rfl⟩) | (go_at_call 108; (with_reducible refine (CB.out _).mono ?_); rintro e w' ⟨rfl, rfl⟩) | (go_at_call 120; (with_reducible refine (CC.out _).mono ?_); rintro e w' ⟨rfl, rfl⟩) | (go_at_call 108; (with_reducible refine (CD.out _).mono ?_); rintro e w' ⟨rfl, rfl⟩))
      cases ba with
      | true =>
       rw [if_pos rfl] at hbh
       subst hbh
       cases bh with
       | false =>
        go_wp2_with (first | (go_at_call 99; (with_reducible refine (CA.out _).mono ?_); rintro e w' ⟨rfl, rfl⟩) | (go_at_call 108; (with_reducible refine (CB.out _).mono ?_); rintro e w' ⟨rfl, rfl⟩) | (go_at_call 120; (with_reducible refine (CC.out _).mono ?_); rintro e w' ⟨rfl, rfl⟩) | (go_at_call 108; (with_reducible refine (CD.out _).mono ?_); rintro e w' ⟨rfl, rfl⟩))
        go_ret
        exact ⟨by first | rfl | simp, GZ.out⟩
       | true =>
        go_upto_region 13 with (first | (go_at_call 99; (with_reducible refine (CA.out _).mono ?_); rintro e w' ⟨rfl, rfl⟩) | (go_at_call 108; (with_reducible refine (CB.out _).mono ?_); rintro e w' ⟨rfl, rfl⟩) | (go_at_call 120; (with_reducible refine (CC.out _).mono ?_); rintro e w' ⟨rfl, rfl⟩) | (go_at_call 108; (with_reducible refine (CD.out _).mono ?_); rintro e w' ⟨rfl, rfl⟩))
        by_cases hu : p.q.unt = 0
        ·have hub : (p.q.unt != 0) = false := by simpa using hu
         obtain rfl : bt = true := HT1.out hu
         clear hu
         go_wp2_with (first | (go_at_call 99; (with_reducible refine (CA.out _).mono ?_); rintro e w' ⟨rfl, rfl⟩) | (go_at_call 108; (with_reducible refine (CB.out _).mono ?_); rintro e w' ⟨rfl, rfl⟩) | (go_at_call 120; (with_reducible refine (CC.out _).mono ?_); rintro e w' ⟨rfl, rfl⟩) | (go_at_call 108; (with_reducible refine (CD.out _).mono ?_); rintro e w' ⟨rfl, rfl⟩))
         go_ret
         exact ⟨by first | rfl | simp, GZ.out⟩
        ·have hub : (p.q.unt != 0) = true := by simpa using hu
         by_cases hv : p.q.unt ≤ p.q.kno
         ·obtain rfl : bt = false := HT2.out hu (.inl hv)
          have hvd : decide (p.q.unt ≤ p.q.kno) = true := decide_eq_true hv
          clear hu hv
          go_wp2_with (first | (go_at_call 99; (with_reducible refine (CA.out _).mono ?_); rintro e w' ⟨rfl, rfl⟩) | (go_at_call 108; (with_reducible refine (CB.out _).mono ?_); rintro e w' ⟨rfl, rfl⟩) | (go_at_call 120; (with_reducible refine (CC.out _).mono ?_); rintro e w' ⟨rfl, rfl⟩) | (go_at_call 108; (with_reducible refine (CD.out _).mono ?_); rintro e w' ⟨rfl, rfl⟩))
          go_ret
          exact ⟨by first | rfl | simp, GZ.out⟩
         ·have hvd : decide (p.q.unt ≤ p.q.kno) = false := decide_eq_false hv
          by_cases hx : 4166 < p.q.unt
          ·obtain rfl : bt = false := HT2.out hu (.inr hx)
           have hxd : decide (4166 < p.q.unt) = true := decide_eq_true hx
           clear hu hv hx
           go_wp2_with (first | (go_at_call 99; (with_reducible refine (CA.out _).mono ?_); rintro e w' ⟨rfl, rfl⟩) | (go_at_call 108; (with_reducible refine (CB.out _).mono ?_); rintro e w' ⟨rfl, rfl⟩) | (go_at_call 120; (with_reducible refine (CC.out _).mono ?_); rintro e w' ⟨rfl, rfl⟩) | (go_at_call 108; (with_reducible refine (CD.out _).mono ?_); rintro e w' ⟨rfl, rfl⟩))
           go_ret
           exact ⟨by first | rfl | simp, GZ.out⟩
          ·obtain rfl : bt = true := HT3.out (by omega) (by omega)
           have hxd : decide (4166 < p.q.unt) = false := decide_eq_false hx
           clear hu hv hx
           go_wp2_with (first | (go_at_call 99; (with_reducible refine (CA.out _).mono ?_); rintro e w' ⟨rfl, rfl⟩) | (go_at_call 108; (with_reducible refine (CB.out _).mono ?_); rintro e w' ⟨rfl, rfl⟩) | (go_at_call 120; (with_reducible refine (CC.out _).mono ?_); rintro e w' ⟨rfl, rfl⟩) | (go_at_call 108; (with_reducible refine (CD.out _).mono ?_); rintro e w' ⟨rfl, rfl⟩))
           go_ret
           exact ⟨by first | rfl | simp, GZ.out⟩
      | false =>
       rw [if_neg (by decide)] at hbh
       by_cases hth : p.q.thr = 0
       ·have htb : (p.q.thr != 0) = false := by simpa using hth
        rw [decide_eq_true hth] at hbh
        subst hbh
        clear hth
        go_upto_region 13 with (first | (go_at_call 99; (with_reducible refine (CA.out _).mono ?_); rintro e w' ⟨rfl, rfl⟩) | (go_at_call 108; (with_reducible refine (CB.out _).mono ?_); rintro e w' ⟨rfl, rfl⟩) | (go_at_call 120; (with_reducible refine (CC.out _).mono ?_); rintro e w' ⟨rfl, rfl⟩) | (go_at_call 108; (with_reducible refine (CD.out _).mono ?_); rintro e w' ⟨rfl, rfl⟩))
        by_cases hu : p.q.unt = 0
        ·have hub : (p.q.unt != 0) = false := by simpa using hu
         obtain rfl : bt = true := HT1.out hu
         clear hu
         go_wp2_with (first | (go_at_call 99; (with_reducible refine (CA.out _).mono ?_); rintro e w' ⟨rfl, rfl⟩) | (go_at_call 108; (with_reducible refine (CB.out _).mono ?_); rintro e w' ⟨rfl, rfl⟩) | (go_at_call 120; (with_reducible refine (CC.out _).mono ?_); rintro e w' ⟨rfl, rfl⟩) | (go_at_call 108; (with_reducible refine (CD.out _).mono ?_); rintro e w' ⟨rfl, rfl⟩))
         go_ret
         exact ⟨by first | rfl | simp, GZ.out⟩
        ·have hub : (p.q.unt != 0) = true := by simpa using hu
         by_cases hv : p.q.unt ≤ p.q.kno
         ·obtain rfl : bt = false := HT2.out hu (.inl hv)
          have hvd : decide (p.q.unt ≤ p.q.kno) = true := decide_eq_true hv
          clear hu hv
          go_wp2_with (first | (go_at_call 99; (with_reducible refine (CA.out _).mono ?_); rintro e w' ⟨rfl, rfl⟩) | (go_at_call 108; (with_reducible refine (CB.out _).mono ?_); rintro e w' ⟨rfl, rfl⟩) | (go_at_call 120; (with_reducible refine (CC.out _).mono ?_); rintro e w' ⟨rfl, rfl⟩) | (go_at_call 108; (with_reducible refine (CD.out _).mono ?_); rintro e w' ⟨rfl, rfl⟩))
          go_ret
          exact ⟨by first | rfl | simp, GZ.out⟩
         ·have hvd : decide (p.q.unt ≤ p.q.kno) = false := decide_eq_false hv
          by_cases hx : 4166 < p.q.unt
          ·obtain rfl : bt = false := HT2.out hu (.inr hx)
           have hxd : decide (4166 < p.q.unt) = true := decide_eq_true hx
           clear hu hv hx
           go_wp2_with (first | (go_at_call 99; (with_reducible refine (CA.out _).mono ?_); rintro e w' ⟨rfl, rfl⟩) | (go_at_call 108; (with_reducible refine (CB.out _).mono ?_); rintro e w' ⟨rfl, rfl⟩) | (go_at_call 120; (with_reducible refine (CC.out _).mono ?_); rintro e w' ⟨rfl, rfl⟩) | (go_at_call 108; (with_reducible refine (CD.out _).mono ?_); rintro e w' ⟨rfl, rfl⟩))
           go_ret
           exact ⟨by first | rfl | simp, GZ.out⟩
          ·obtain rfl : bt = true := HT3.out (by omega) (by omega)
           have hxd : decide (4166 < p.q.unt) = false := decide_eq_false hx
           clear hu hv hx
           go_wp2_with (first | (go_at_call 99; (with_reducible refine (CA.out _).mono ?_); rintro e w' ⟨rfl, rfl⟩) | (go_at_call 108; (with_reducible refine (CB.out _).mono ?_); rintro e w' ⟨rfl, rfl⟩) | (go_at_call 120; (with_reducible refine (CC.out _).mono ?_); rintro e w' ⟨rfl, rfl⟩) | (go_at_call 108; (with_reducible refine (CD.out _).mono ?_); rintro e w' ⟨rfl, rfl⟩))
           go_ret
           exact ⟨by first | rfl | simp, GZ.out⟩
       ·have htb : (p.q.thr != 0) = true := by simpa using hth
        rw [decide_eq_false hth] at hbh
        subst hbh
        clear hth
        go_wp2_with (first | (go_at_call 99; (with_reducible refine (CA.out _).mono ?_); rintro e w' ⟨rfl, rfl⟩) | (go_at_call 108; (with_reducible refine (CB.out _).mono ?_); rintro e w' ⟨rfl, rfl⟩) | (go_at_call 120; (with_reducible refine (CC.out _).mono ?_); rintro e w' ⟨rfl, rfl⟩) | (go_at_call 108; (with_reducible refine (CD.out _).mono ?_); rintro e w' ⟨rfl, rfl⟩))
        go_ret
        exact ⟨by first | rfl | simp, GZ.out⟩
     ·have hpb : (p.q.par != 0) = true := by simpa using hpa
      rw [decide_eq_false hpa] at hbw
      subst hbw
      clear hpa
      go_wp2_with (first | (go_at_call 99; (with_reducible refine (CA.out _).mono ?_); rintro e w' ⟨rfl, rfl⟩) | (go_at_call 108; (with_reducible refine (CB.out _).mono ?_); rintro e w' ⟨rfl, rfl⟩) | (go_at_call 120; (with_reducible refine (CC.out _).mono ?_); rintro e w' ⟨rfl, rfl⟩) | (go_at_call 108; (with_reducible refine (CD.out _).mono ?_); rintro e w' ⟨rfl, rfl⟩))
      go_ret
      exact ⟨by first | rfl | simp, GZ.out⟩
   ·have hkb : (p.q.kind == 2) = false := by simpa using hk2
    rw [if_neg hk2] at hbw
    clear hk2
    by_cases hot : p.q.oth = 0
    ·have hob : (p.q.oth != 0) = false := by simpa using hot
     rw [decide_eq_true hot, Bool.true_and] at hbw
     subst hbw
     clear hot
     cases bw with
     | false =>
      go_wp2_with (first | (go_at_call 99; (with_reducible refine (CA.out _).mono ?_); rintro e w' ⟨rfl, rfl⟩) | (go_at_call 108; (with_reducible refine (CB.out _).mono ?_); rintro e w' ⟨rfl, rfl⟩) | (go_at_call 120; (with_reducible refine (CC.out _).mono ?_); rintro e w' ⟨rfl, rfl⟩) | (go_at_call 108; (with_reducible refine (CD.out _).mono ?_); rintro e w' ⟨rfl, rfl⟩))
      go_ret
      exact ⟨by first | rfl | simp, GZ.out⟩
     | true =>
      go_upto_region 11 with (first | (go_at_call 99; (with_reducible refine (CA.out _).mono ?_); rintro e w' ⟨rfl, rfl⟩) | (go_at_call 108; (with_reducible refine (CB.out _).mono ?_); rintro e w' ⟨rfl, rfl⟩) | (go_at_call 120; (with_reducible refine (CC.out _).mono ?_); rintro e w' ⟨rfl, rfl⟩) | (go_at_call 108; (with_reducible refine (CD.out _).mono ?_); rintro e w' ⟨rfl, rfl⟩))
      cases ba with
      | true =>
       rw [if_pos rfl] at hbh
       subst hbh
       cases bh with
       | false =>
        go_wp2_with (first | (go_at_call 99; (with_reducible refine (CA.out _).mono ?_); rintro e w' ⟨rfl, rfl⟩) | (go_at_call 108; (with_reducible refine (CB.out _).mono ?_); rintro e w' ⟨rfl, rfl⟩) | (go_at_call 120; (with_reducible refine (CC.out _).mono ?_); rintro e w' ⟨rfl, rfl⟩) | (go_at_call 108; (with_reducible refine (CD.out _).mono ?_); rintro e w' ⟨rfl, rfl⟩))
        go_ret
        exact ⟨by first | rfl | simp, GZ.out⟩
       | true =>
        go_upto_region 13 with (first | (go_at_call 99; (with_reducible refine (CA.out _).mono ?_); rintro e w' ⟨rfl, rfl⟩) | (go_at_call 108; (with_reducible refine (CB.out _).mono ?_); rintro e w' ⟨rfl, rfl⟩) | (go_at_call 120; (with_reducible refine (CC.out _).mono ?_); rintro e w' ⟨rfl, rfl⟩) | (go_at_call 108; (with_reducible refine (CD.out _).mono ?_); rintro e w' ⟨rfl, rfl⟩))
        by_cases hu : p.q.unt = 0
        ·have hub : (p.q.unt != 0) = false := by simpa using hu
         obtain rfl : bt = true := HT1.out hu
         clear hu
         go_wp2_with (first | (go_at_call 99; (with_reducible refine (CA.out _).mono ?_); rintro e w' ⟨rfl, rfl⟩) | (go_at_call 108; (with_reducible refine (CB.out _).mono ?_); rintro e w' ⟨rfl, rfl⟩) | (go_at_call 120; (with_reducible refine (CC.out _).mono ?_); rintro e w' ⟨rfl, rfl⟩) | (go_at_call 108; (with_reducible refine (CD.out _).mono ?_); rintro e w' ⟨rfl, rfl⟩))
         go_ret
         exact ⟨by first | rfl | simp, GZ.out⟩
        ·have hub : (p.q.unt != 0) = true := by simpa using hu
         by_cases hv : p.q.unt ≤ p.q.kno
         ·obtain rfl : bt = false := HT2.out hu (.inl hv)
          have hvd : decide (p.q.unt ≤ p.q.kno) = true := decide_eq_true hv
          clear hu hv
          go_wp2_with (first | (go_at_call 99; (with_reducible refine (CA.out _).mono ?_); rintro e w' ⟨rfl, rfl⟩) | (go_at_call 108; (with_reducible refine (CB.out _).mono ?_); rintro e w' ⟨rfl, rfl⟩) | (go_at_call 120; (with_reducible refine (CC.out _).mono ?_); rintro e w' ⟨rfl, rfl⟩) | (go_at_call 108; (with_reducible refine (CD.out _).mono ?_); rintro e w' ⟨rfl, rfl⟩))
          go_ret
          exact ⟨by first | rfl | simp, GZ.out⟩
         ·have hvd : decide (p.q.unt ≤ p.q.kno) = false := decide_eq_false hv
          by_cases hx : 4166 < p.q.unt
          ·obtain rfl : bt = false := HT2.out hu (.inr hx)
           have hxd : decide (4166 < p.q.unt) = true := decide_eq_true hx
           clear hu hv hx
           go_wp2_with (first | (go_at_call 99; (with_reducible refine (CA.out _).mono ?_); rintro e w' ⟨rfl, rfl⟩) | (go_at_call 108; (with_reducible refine (CB.out _).mono ?_); rintro e w' ⟨rfl, rfl⟩) | (go_at_call 120; (with_reducible refine (CC.out _).mono ?_); rintro e w' ⟨rfl, rfl⟩) | (go_at_call 108; (with_reducible refine (CD.out _).mono ?_); rintro e w' ⟨rfl, rfl⟩))
           go_ret
           exact ⟨by first | rfl | simp, GZ.out⟩
          ·obtain rfl : bt = true := HT3.out (by omega) (by omega)
           have hxd : decide (4166 < p.q.unt) = false := decide_eq_false hx
           clear hu hv hx
           go_wp2_with (first | (go_at_call 99; (with_reducible refine (CA.out _).mono ?_); rintro e w' ⟨rfl, rfl⟩) | (go_at_call 108; (with_reducible refine (CB.out _).mono ?_); rintro e w' ⟨rfl, rfl⟩) | (go_at_call 120; (with_reducible refine (CC.out _).mono ?_); rintro e w' ⟨rfl, rfl⟩) | (go_at_call 108; (with_reducible refine (CD.out _).mono ?_); rintro e w' ⟨rfl, rfl⟩))
           go_ret
           exact ⟨by first | rfl | simp, GZ.out⟩
      | false =>
       rw [if_neg (by decide)] at hbh
       by_cases hth : p.q.thr = 0
       ·have htb : (p.q.thr != 0) = false := by simpa using hth
        rw [decide_eq_true hth] at hbh
        subst hbh
        clear hth
        go_upto_region 13 with (first | (go_at_call 99; (with_reducible refine (CA.out _).mono ?_); rintro e w' ⟨rfl, rfl⟩) | (go_at_call 108; (with_reducible refine (CB.out _).mono ?_); rintro e w' ⟨rfl, rfl⟩) | (go_at_call 120; (with_reducible refine (CC.out _).mono ?_); rintro e w' ⟨rfl, rfl⟩) | (go_at_call 108; (with_reducible refine (CD.out _).mono ?_); rintro e w' ⟨rfl, rfl⟩))
        by_cases hu : p.q.unt = 0
        ·have hub : (p.q.unt != 0) = false := by simpa using hu
         obtain rfl : bt = true := HT1.out hu
         clear hu
         go_wp2_with (first | (go_at_call 99; (with_reducible refine (CA.out _).mono ?_); rintro e w' ⟨rfl, rfl⟩) | (go_at_call 108; (with_reducible refine (CB.out _).mono ?_); rintro e w' ⟨rfl, rfl⟩) | (go_at_call 120; (with_reducible refine (CC.out _).mono ?_); rintro e w' ⟨rfl, rfl⟩) | (go_at_call 108; (with_reducible refine (CD.out _).mono ?_); rintro e w' ⟨rfl, rfl⟩))
         go_ret
         exact ⟨by first | rfl | simp, GZ.out⟩
        ·have hub : (p.q.unt != 0) = true := by simpa using hu
         by_cases hv : p.q.unt ≤ p.q.kno
         ·obtain rfl : bt = false := HT2.out hu (.inl hv)
          have hvd : decide (p.q.unt ≤ p.q.kno) = true := decide_eq_true hv
          clear hu hv
          go_wp2_with (first | (go_at_call 99; (with_reducible refine (CA.out _).mono ?_); rintro e w' ⟨rfl, rfl⟩) | (go_at_call 108; (with_reducible refine (CB.out _).mono ?_); rintro e w' ⟨rfl, rfl⟩) | (go_at_call 120; (with_reducible refine (CC.out _).mono ?_); rintro e w' ⟨rfl, rfl⟩) | (go_at_call 108; (with_reducible refine (CD.out _).mono ?_); rintro e w' ⟨rfl, rfl⟩))
          go_ret
          exact ⟨by first | rfl | simp, GZ.out⟩
         ·have hvd : decide (p.q.unt ≤ p.q.kno) = false := decide_eq_false hv
          by_cases hx : 4166 < p.q.unt
          ·obtain rfl : bt = false := HT2.out hu (.inr hx)
           have hxd : decide (4166 < p.q.unt) = true := decide_eq_true hx
           clear hu hv hx
           go_wp2_with (first | (go_at_call 99; (with_reducible refine (CA.out _).mono ?_); rintro e w' ⟨rfl, rfl⟩) | (go_at_call 108; (with_reducible refine (CB.out _).mono ?_); rintro e w' ⟨rfl, rfl⟩) | (go_at_call 120; (with_reducible refine (CC.out _).mono ?_); rintro e w' ⟨rfl, rfl⟩) | (go_at_call 108; (with_reducible refine (CD.out _).mono ?_); rintro e w' ⟨rfl, rfl⟩))
           go_ret
           exact ⟨by first | rfl | simp, GZ.out⟩
          ·obtain rfl : bt = true := HT3.out (by omega) (by omega)
           have hxd : decide (4166 < p.q.unt) = false := decide_eq_false hx
           clear hu hv hx
           go_wp2_with (first | (go_at_call 99; (with_reducible refine (CA.out _).mono ?_); rintro e w' ⟨rfl, rfl⟩) | (go_at_call 108; (with_reducible refine (CB.out _).mono ?_); rintro e w' ⟨rfl, rfl⟩) | (go_at_call 120; (with_reducible refine (CC.out _).mono ?_); rintro e w' ⟨rfl, rfl⟩) | (go_at_call 108; (with_reducible refine (CD.out _).mono ?_); rintro e w' ⟨rfl, rfl⟩))
           go_ret
           exact ⟨by first | rfl | simp, GZ.out⟩
       ·have htb : (p.q.thr != 0) = true := by simpa using hth
        rw [decide_eq_false hth] at hbh
        subst hbh
        clear hth
        go_wp2_with (first | (go_at_call 99; (with_reducible refine (CA.out _).mono ?_); rintro e w' ⟨rfl, rfl⟩) | (go_at_call 108; (with_reducible refine (CB.out _).mono ?_); rintro e w' ⟨rfl, rfl⟩) | (go_at_call 120; (with_reducible refine (CC.out _).mono ?_); rintro e w' ⟨rfl, rfl⟩) | (go_at_call 108; (with_reducible refine (CD.out _).mono ?_); rintro e w' ⟨rfl, rfl⟩))
        go_ret
        exact ⟨by first | rfl | simp, GZ.out⟩
    ·have hob : (p.q.oth != 0) = true := by simpa using hot
     rw [decide_eq_false hot, Bool.false_and] at hbw
     subst hbw
     clear hot
     go_wp2_with (first | (go_at_call 99; (with_reducible refine (CA.out _).mono ?_); rintro e w' ⟨rfl, rfl⟩) | (go_at_call 108; (with_reducible refine (CB.out _).mono ?_); rintro e w' ⟨rfl, rfl⟩) | (go_at_call 120; (with_reducible refine (CC.out _).mono ?_); rintro e w' ⟨rfl, rfl⟩) | (go_at_call 108; (with_reducible refine (CD.out _).mono ?_); rintro e w' ⟨rfl, rfl⟩))
     go_ret
     exact ⟨by first | rfl | simp, GZ.out⟩
end Go.Proofs.YtehhlgdkhecacaaGreat

namespace Go.Proofs.YtehhlgdkhecacaaGreat
open Go.RowKit Go.Shelf
def itP (l : List Pf) (j : Nat) : Prop := isQf (l.getD j p0).q = true ∧ (j = 0 ∨ (l.getD (j - 1) p0).q.src < (l.getD j p0).q.src)
theorem itP_of {l : List Pf} {k : Nat} (h : okL (l.map Pf.q) = true) (hk : k < l.length) : itP l k ∧ manyL ((l.map Pf.q).take (k + 1)) ≤ 2000 := by
 obtain ⟨h1, h2, h3⟩ := ok_item (k := k) h (by rw [List.length_map]; exact hk)
 rw [map_pf hk] at h1 h2
 refine ⟨⟨h1, ?_⟩, h3⟩
 rcases h2 with h2 | h2
 ·exact .inl h2
 ·rw [map_pf (by omega)] at h2; exact .inr h2
theorem itP_all {l : List Pf} (h60 : l.length ≤ 60) (h : ∀ j, j < l.length → itP l j) (hm : manyL (l.map Pf.q) ≤ 2000) : okL (l.map Pf.q) = true := by
 refine ok_whole (by rw [List.length_map]; exact h60) (fun j hj => ?_) hm
 rw [List.length_map] at hj
 obtain ⟨h1, h2⟩ := h j hj
 rw [map_pf hj]
 refine ⟨h1, ?_⟩
 rcases h2 with h2 | h2
 ·exact .inl h2
 ·rw [map_pf (by omega)]; exact .inr h2
set_option maxRecDepth 100000 in
set_option maxHeartbeats 8000000 in
theorem refCheck_any (A : Option Addr) (n c : Nat) (l : List Pf) (w : World) (ha : Prf w A n l) (hn : n ≤ 9223372036854775807) :
  Calls Tryz.prog 65 #[.slice A n c] w fun e w' => e = .returned (.int .i64 (err (okL (l.map Pf.q)) 21)) ∧ Below w.heap.size w w' := by
 have HA := Lib.hid ha
 have hlen := Lib.hid ha.len
 have HIT := Lib.hid (fun k (hk : k < n) (h : okL (l.map Pf.q) = true) => itP_of (k := k) h (by rw [ha.len]; exact hk))
 have HWH := Lib.hid (fun (h60 : n ≤ 60) (h : ∀ j, j < n → itP l j) hm => itP_all (l := l) (by rw [ha.len]; exact h60) (by rw [ha.len]; exact h) hm)
 have HL60 := Lib.hid (fun (h : okL (l.map Pf.q) = true) => (show n ≤ 60 by have := okL_len h; rw [List.length_map, ha.len] at this; exact this))
 have HTK := Lib.hid (fun k (hk : k < n) => (show manyL ((l.map Pf.q).take (k + 1)) = manyL ((l.map Pf.q).take k) * (l.getD k p0).q.per.length by rw [take_map (by rw [ha.len]; exact hk), manyQ_snoc]))
 have HTF := Lib.hid (show manyL ((l.map Pf.q).take n) = manyL (l.map Pf.q) by rw [List.take_of_length_le (by rw [List.length_map, ha.len]; exact Nat.le_refl _)])
 have HT0 := Lib.hid (show manyL ((l.map Pf.q).take 0) = 1 from rfl)
 obtain ⟨mk, hmk⟩ : ∃ f : Nat → Nat, (fun k => manyL ((l.map Pf.q).take k)) = f := ⟨_, rfl⟩
 have hmk2 : ∀ k, manyL ((l.map Pf.q).take k) = mk k := fun k => by rw [← hmk]
 simp only [hmk2] at HIT HTK HTF HT0
 obtain ⟨ok, hok⟩ : ∃ b, okL (l.map Pf.q) = b := ⟨_, rfl⟩
 rw [hok] at HIT HWH HL60 ⊢
 clear ha hmk hmk2 hok
 by_cases h60 : n ≤ 60
 ·have hd6 : decide ((60 : Int) < (n : Int)) = false := decide_eq_false (by omega)
  go_enter Tryz.func65, Tryz.ntmps65
  go_wp2_with fail
  go_loopw [3, 4] (fun m i wr => ∃ k : Nat, k ≤ n ∧ m = .int .i64 ((mk k : Nat) : Int) ∧ i = .int .i64 k ∧ Below w.heap.size w wr ∧ mk k ≤ 2000 ∧ ∀ j, j < k → itP l j) (fun _ i _ => n - (intOf i).toNat)
  case atStart => exact ⟨0, Nat.zero_le _, by rw [HT0.out]; rfl, rfl, Below.refl _ _, by rw [HT0.out]; decide, fun j hj => absurd hj (by omega)⟩
  case round =>
   obtain ⟨k, hk, rfl, rfl, hg, hm, hall⟩ := hrel
   have HG := Lib.hid hg
   have HALL := Lib.hid hall
   clear hall
   by_cases hkn : k < n
   ·have HI := Lib.hid (HIT.out k hkn)
    have HT := Lib.hid (HTK.out k hkn)
    obtain ⟨sm, hsm⟩ : ∃ s, mk k = s := ⟨_, rfl⟩
    obtain ⟨mv, hmv⟩ : ∃ s, mk (k + 1) = s := ⟨_, rfl⟩
    rw [hsm] at HT hm ⊢
    rw [hmv] at HT HI
    have HMV := Lib.hid hmv
    obtain ⟨b, o, rfl, -, hyi, hym, hyc⟩ := (HA.out.below hg).at hkn
    have HCP := Lib.hid (fun (h0 : k ≠ 0) => (show World.cell? wr ⟨b, o + (k - 1) * 9, none⟩ = some (.int .i64 (l.getD (k - 1) p0).q.src) by
     obtain ⟨b2_, o2_, hA2, -, -, -, hc2⟩ := (HA.out.below hg).at (show k - 1 < n by omega)
     cases hA2
     exact (hc2 _ (Below.refl _ _)).1))
    have HIP := Lib.hid (show itP l k ↔ isQf (l.getD k p0).q = true ∧ (k = 0 ∨ (l.getD (k - 1) p0).q.src < (l.getD k p0).q.src) from Iff.rfl)
    obtain ⟨y, hy⟩ : ∃ y, l.getD k p0 = y := ⟨_, rfl⟩
    rw [hy] at hyi hym hyc HT HIP
    have HYC := Lib.hid hyc
    obtain ⟨e0, e1, e2, e3, e4, e5, e6, e7, e8⟩ := hyc _ (Below.refl _ _)
    have T := fun W (g : Below wr.heap.size wr W) => refCheckProof_any y W (hyi.below g)
    have HYL := Lib.hid hyi.len
    have HPR := Lib.hid (fun (h : isQf y.q = true) => (show 1 ≤ y.n ∧ y.n ≤ 4 by have h1 := isQf_per h; have h2 := hyi.len; omega))
    have HM := Lib.hid hm
    have hki : (k : Int) < (n : Int) := by omega
    obtain ⟨q, hq⟩ : ∃ q, isQf y.q = q := ⟨_, rfl⟩
    rw [hq] at T HIP HPR
    have x0 := cellW e0
    have x1 := cellW e1
    have x2 := cellW e2
    have x3 := cellW e3
    have x4 := cellW e4
    have x5 := cellW e5
    have x6 := cellW e6
    have x7 := cellW e7
    have x8 := cellW e8
    clear hyi hym hyc hsm hmv hy hq hg e0 e1 e2 e3 e4 e5 e6 e7 e8 hm
    cases q with
    | false =>
     rw [show err false 20 = 20 from rfl] at T
     have C := Lib.hid T
     have hf : ok = false := by
      cases ok with
      | false => rfl
      | true => exact absurd (HIP.out.1 (HI.out rfl).1).1 (by decide)
     subst hf
     clear T
     go_upto_region 7 with fail
     refine wp_region_calm wr (by kernel_rfl) (by kernel_rfl) (Below.refl _ _) ?_
     repeat (go_big_quiet_step ((go_at_call 64; exact callsCalm (C.out _ (Wd.ok _)))))
     refine wpQuiet_nil ?_
     rintro _ ⟨z, rfl⟩
     have GQ := Lib.hid z.ok
     go_wp2
     go_ret
     exact ⟨rfl, HG.out.trans (GQ.out.mono HG.out.size)⟩
    | true =>
     rw [show err true 20 = 0 from rfl] at T
     have C := Lib.hid T
     obtain ⟨hp1, hp4⟩ := HPR.out (by first | rfl | trivial)
     have hwm : wrap64 ((sm : Int) * (y.n : Int)) = (mv : Int) := by
      have h1 := HT.out
      rw [HYL.out] at h1
      have h2 := HM.out
      have h3 : sm * y.n ≤ 2000 * 4 := Nat.mul_le_mul h2 hp4
      rw [h1, wrap_in (by rw [← Int.natCast_mul]; omega), Int.natCast_mul]
     have HWM := Lib.hid hwm
     have HWK := Lib.hid (show wrap64 ((k : Int) + 1) = (k : Int) + 1 from wrap_in (by omega))
     clear T hp1 hp4
     by_cases h0 : k = 0
     ·have hk0 : decide ((0 : Int) < (k : Int)) = false := decide_eq_false (by omega)
      have hk1 : decide (0 < k) = false := decide_eq_false (by omega)
      have HS := Lib.hid (HIP.out.2 ⟨by first | rfl | trivial, .inl h0⟩)
      clear h0
      go_upto_region 7 with fail
      refine wp_region_calm wr (by kernel_rfl) (by kernel_rfl) (Below.refl _ _) ?_
      repeat (go_big_quiet_step ((go_at_call 64; exact callsCalm (C.out _ (Wd.ok _)))))
      refine wpQuiet_nil ?_
      rintro _ ⟨z, rfl⟩
      have GQ := Lib.hid z.ok
      clear x0 x1 x2 x3 x4 x5 x6 x7 x8
      obtain ⟨-, -, f2, -⟩ := HYC.out _ GQ.out
      by_cases hmx : 2000 < mv
      ·have hd7 : decide ((2000 : Int) < (mv : Int)) = true := decide_eq_true (by omega)
       have hf : ok = false := by
        cases ok with
        | false => rfl
        | true => exact absurd (HI.out rfl).2 (by omega)
       subst hf
       clear hmx
       go_wp2
       go_ret
       exact ⟨rfl, HG.out.trans (GQ.out.mono HG.out.size)⟩
      ·have hd7 : decide ((2000 : Int) < (mv : Int)) = false := decide_eq_false (by omega)
       have HMX := Lib.hid hmx
       have hwr2 := HWK.out
       clear hmx
       go_wp2
       go_roundw
       case rel => exact ⟨k + 1, by omega, by rw [HMV.out, HWM.out], by go_num, HG.out.trans (GQ.out.mono HG.out.size), by have := HMX.out; have := HMV.out; omega, fun j hj => by
        by_cases e : j = k
        ·subst e; exact HS.out
        ·exact HALL.out j (by omega)⟩
       case measure => simp [intOf]; omega
     ·have hk0 : decide ((0 : Int) < (k : Int)) = true := decide_eq_true (by omega)
      have hk1 : decide (0 < k) = true := decide_eq_true (by omega)
      have ck := HCP.out h0
      obtain ⟨z1, hz1⟩ : ∃ y, (l.getD (k - 1) p0).q.src = y := ⟨_, rfl⟩
      rw [hz1] at ck HIP
      obtain ⟨j0, hj0⟩ : ∃ j, k - 1 = j := ⟨_, rfl⟩
      have hltl : (j0 : Int) < (n : Int) := by omega
      have hwr : wrap64 ((k : Int) - 1) = (j0 : Int) := by rw [wrap_in (by omega)]; omega
      have hwr3 : IntKind.i64.wrap ((k : Int) - 1) = (j0 : Int) := by rw [IntKind.wrap_i64]; omega
      rw [hj0] at ck
      have xp := cellW ck
      clear ck hz1 hj0
      by_cases hlt : z1 < y.q.src
      ·have HS := Lib.hid (HIP.out.2 ⟨by first | rfl | trivial, .inr hlt⟩)
       have hd : decide (y.q.src ≤ z1) = false := decide_eq_false (by omega)
       clear hlt h0
       go_upto_region 7 with fail
       refine wp_region_calm wr (by kernel_rfl) (by kernel_rfl) (Below.refl _ _) ?_
       repeat (go_big_quiet_step ((go_at_call 64; exact callsCalm (C.out _ (Wd.ok _)))))
       refine wpQuiet_nil ?_
       rintro _ ⟨z, rfl⟩
       have GQ := Lib.hid z.ok
       clear x0 x1 x2 x3 x4 x5 x6 x7 x8 xp hwr hwr3 hltl
       obtain ⟨-, -, f2, -⟩ := HYC.out _ GQ.out
       by_cases hmx : 2000 < mv
       ·have hd7 : decide ((2000 : Int) < (mv : Int)) = true := decide_eq_true (by omega)
        have hf : ok = false := by
         cases ok with
         | false => rfl
         | true => exact absurd (HI.out rfl).2 (by omega)
        subst hf
        clear hmx
        go_wp2
        go_ret
        exact ⟨rfl, HG.out.trans (GQ.out.mono HG.out.size)⟩
       ·have hd7 : decide ((2000 : Int) < (mv : Int)) = false := decide_eq_false (by omega)
        have HMX := Lib.hid hmx
        have hwr2 := HWK.out
        clear hmx
        go_wp2
        go_roundw
        case rel => exact ⟨k + 1, by omega, by rw [HMV.out, HWM.out], by go_num, HG.out.trans (GQ.out.mono HG.out.size), by have := HMX.out; have := HMV.out; omega, fun j hj => by
         by_cases e : j = k
         ·subst e; exact HS.out
         ·exact HALL.out j (by omega)⟩
        case measure => simp [intOf]; omega
      ·have hd : decide (y.q.src ≤ z1) = true := decide_eq_true (by omega)
       have hf : ok = false := by
        cases ok with
        | false => rfl
        | true => rcases (HIP.out.1 (HI.out rfl).1).2 with h | h <;> omega
       subst hf
       clear hlt h0
       go_upto_region 7 with fail
       refine wp_region_calm wr (by kernel_rfl) (by kernel_rfl) (Below.refl _ _) ?_
       repeat (go_big_quiet_step ((go_at_call 64; exact callsCalm (C.out _ (Wd.ok _)))))
       refine wpQuiet_nil ?_
       rintro _ ⟨z, rfl⟩
       have GQ := Lib.hid z.ok
       go_wp2
       go_ret
       exact ⟨rfl, HG.out.trans (GQ.out.mono HG.out.size)⟩
   ·obtain rfl : k = n := by omega
    have HF := Lib.hid (HWH.out h60 HALL.out (by rw [← HTF.out]; exact hm))
    clear hg hm
    go_wp2_with fail
    go_ret
    rw [HF.out]
    exact ⟨rfl, HG.out⟩
 ·have hd6 : decide ((60 : Int) < (n : Int)) = true := decide_eq_true (by omega)
  have hf : ok = false := by
   cases ok with
   | false => rfl
   | true => exact absurd (HL60.out rfl) h60
  subst hf
  clear h60
  go_enter Tryz.func65, Tryz.ntmps65
  go_wp2_with fail
  go_ret
  exact ⟨rfl, Below.refl _ _⟩
end Go.Proofs.YtehhlgdkhecacaaGreat

namespace Go.Proofs.YtehhlgdkhecacaaGreat
open Go.RowKit Go.Shelf
set_option maxRecDepth 100000 in
set_option maxHeartbeats 4000000 in
theorem refCounting_any (A : Option Addr) (n c : Nat) (l : List Pf) (d : Int) (w : World) (ha : Prf w A n l) (hn : n ≤ 1000) :
  Calls Tryz.prog 71 #[.slice A n c, .int .i64 d] w fun e w' => (∃ v, e = .returned v ∧ OwnL pcells 9 56 w' w.heap.size v (l.filter fun p => cnt p.q d)) ∧ Below w.heap.size w w' := by
 have HA := Lib.hid ha
 have hlen := Lib.hid ha.len
 have HO0 := Lib.hid (OwnL.nil (f := pcells) (size := 9) (e := 56) w w.heap.size)
 clear ha
 go_enter Tryz.func71, Tryz.ntmps71
 go_wp2_with fail
 go_loopw [5, 6] (fun v i wr => ∃ k : Nat, k ≤ n ∧ OwnL pcells 9 56 wr w.heap.size v ((l.take k).filter fun p => cnt p.q d) ∧ i = .int .i64 k ∧ Below w.heap.size w wr) (fun _ i _ => n - (intOf i).toNat)
 case atStart => exact ⟨0, Nat.zero_le _, HO0.out, rfl, Below.refl _ _⟩
 case round =>
  obtain ⟨k, hk, ho, rfl, hg⟩ := hrel
  have HG := Lib.hid hg
  have HO := Lib.hid ho
  clear ho
  by_cases hkn : k < n
  ·have HTK := Lib.hid (filt_take (fun p => cnt p.q d) (l := l) (k := k) (by rw [hlen.out]; exact hkn))
   have HTL := Lib.hid (show ((l.take k).filter fun p => cnt p.q d).length + 1 ≤ 1000000 by
    have := List.length_filter_le (fun p => cnt p.q d) (l.take k)
    rw [List.length_take] at this; omega)
   obtain ⟨xs, hxs⟩ : ∃ xs, ((l.take k).filter fun p => cnt p.q d) = xs := ⟨_, rfl⟩
   rw [hxs] at HTK HTL HO
   obtain ⟨b, o, rfl, -, hyi, hym, hyc⟩ := (HA.out.below hg).at hkn
   obtain ⟨y, hy⟩ : ∃ y, l.getD k p0 = y := ⟨_, rfl⟩
   rw [hy] at hyi hym hyc HTK
   have HYC := Lib.hid hyc
   obtain ⟨e0, e1, e2, e3, e4, e5, e6, e7, e8⟩ := hyc _ (Below.refl _ _)
   have TC := Lib.hid (counts_any y d wr)
   have hwr2 : wrap64 ((k : Int) + 1) = (k : Int) + 1 := wrap_in (by omega)
   clear hyi hym hyc hxs hg hy
   obtain ⟨cb, hcb⟩ : ∃ t, cnt y.q d = t := ⟨_, rfl⟩
   rw [hcb] at TC HTK
   clear hcb
   cases cb with
   | false =>
    have HTK2 := Lib.hid (show (l.take (k + 1)).filter (fun p => cnt p.q d) = xs by rw [HTK.out, if_neg (by decide), List.append_nil])
    go_wp2_with (go_at_call 122; (with_reducible refine (TC.out).mono ?_); rintro e X1 ⟨rfl, hg⟩; have G1 := Lib.hid hg; clear hg)
    go_roundw
    case rel => exact ⟨k + 1, by omega, by rw [HTK2.out]; exact HO.out.ext G1.out, rfl, HG.out.trans (G1.out.mono HG.out.size)⟩
    case measure => simp [intOf]; omega
   | true =>
    have HTK2 := Lib.hid (show (l.take (k + 1)).filter (fun p => cnt p.q d) = xs ++ [y] by rw [HTK.out, if_pos rfl])
    go_upto_region 6 with (go_at_call 122; (with_reducible refine (TC.out).mono ?_); rintro e X1 ⟨rfl, hg⟩; have G1 := Lib.hid hg; clear hg)
    clear e0 e1 e2 e3 e4 e5 e6 e7 e8
    obtain ⟨e0, e1, e2, e3, e4, e5, e6, e7, e8⟩ := HYC.out _ G1.out
    have GX := Lib.hid (one_more X1 (.cells #[.int .i64 y.q.src, .int .i64 y.q.kind, .slice y.A y.n y.c, .int .i64 y.q.oth, .int .i64 y.q.par, .int .i64 y.q.day, .int .i64 y.q.thr, .int .i64 y.q.kno, .int .i64 y.q.unt] 56))
    have IX := Lib.hid (one_pf (x := y) (Blk.new X1 56 #[.int .i64 y.q.src, .int .i64 y.q.kind, .slice y.A y.n y.c, .int .i64 y.q.oth, .int .i64 y.q.par, .int .i64 y.q.day, .int .i64 y.q.thr, .int .i64 y.q.kno, .int .i64 y.q.unt]))
    have HG1 := Lib.hid (HG.out.trans (G1.out.mono HG.out.size))
    have HOX := Lib.hid ((HO.out.ext G1.out).ext GX.out)
    have HBB := Lib.hid (Nat.le_trans HG1.out.size GX.out.size)
    go_wp2_with (first | (at_builtin; (refine wpList_app kdQ (by rfl) _ _ (by rfl) w.heap.size _ xs (by rfl) HOX.out _ 1 1 [y] (by rfl) IX.out HTL.out HBB.out ?_); intro v1 w1 ho hgr hz; have HO2 := Lib.hid ho; have GV := Lib.hid ((HG1.out.trans (GX.out.mono HG1.out.size)).trans (HOX.out.below hgr (Nat.le_refl _) HBB.out)); clear ho hgr hz))
    go_roundw
    case rel => exact ⟨k + 1, by omega, by rw [HTK2.out]; exact HO2.out, rfl, GV.out⟩
    case measure => simp [intOf]; omega
  ·obtain rfl : k = n := by omega
   have HT := Lib.hid (show (l.take k) = l from List.take_of_length_le (by rw [hlen.out]; exact Nat.le_refl _))
   rw [HT.out] at HO
   go_wp2_with fail
   go_ret
   exact ⟨⟨_, rfl, HO.out⟩, HG.out⟩
end Go.Proofs.YtehhlgdkhecacaaGreat

namespace Go.Proofs.YtehhlgdkhecacaaGreat
open Go.RowKit Go.Shelf
/-- What the iterator does between rounds: whatever lay below D, and the caller's own blocks F, lie as they lay. -/
structure It (D : Nat) (F : Nat → Prop) (A B : World) : Prop where
 os : B.os = A.os
 tape : B.tape = A.tape
 output : B.output = A.output
 size : A.heap.size ≤ B.heap.size
 low : ∀ k, k < A.heap.size → k < D → B.heap[k]? = A.heap[k]?
 mine : ∀ k, k < A.heap.size → F k → B.heap[k]? = A.heap[k]?
/-- What a round does: it turns blocks of F alone, and lays new ones. -/
structure Ro (F F' : Nat → Prop) (A B : World) : Prop where
 os : B.os = A.os
 tape : B.tape = A.tape
 output : B.output = A.output
 size : A.heap.size ≤ B.heap.size
 keep : ∀ k, k < A.heap.size → ¬ F k → B.heap[k]? = A.heap[k]?
 foot : ∀ k, F' k → F k ∨ (A.heap.size ≤ k ∧ k < B.heap.size)
section
variable {D : Nat} {F F' F'' : Nat → Prop} {A B C : World}
theorem It.refl (D : Nat) (F : Nat → Prop) (A : World) : It D F A A := ⟨rfl, rfl, rfl, Nat.le_refl _, fun _ _ _ => rfl, fun _ _ _ => rfl⟩
theorem It.trans (h : It D F A B) (k : It D F B C) : It D F A C :=
 ⟨k.os.trans h.os, k.tape.trans h.tape, k.output.trans h.output, Nat.le_trans h.size k.size, fun i hi hd => (k.low i (Nat.lt_of_lt_of_le hi h.size) hd).trans (h.low i hi hd), fun i hi hd => (k.mine i (Nat.lt_of_lt_of_le hi h.size) hd).trans (h.mine i hi hd)⟩
theorem It.of_below (h : Below A.heap.size A B) : It D F A B := ⟨h.os, h.tape, h.output, h.size, fun k hk _ => h.block k hk, fun k hk _ => h.block k hk⟩
theorem It.setCell {p : Addr} (hD : D ≤ p.block) (hF : ¬ F p.block) (u : Value) : It D F A (A.setCell p u) :=
 ⟨rfl, rfl, rfl, by simp [World.setCell], fun k _ hd => Below.heap_setCell _ _ _ _ (by omega), fun k _ hf => Below.heap_setCell _ _ _ _ (fun e => hF (e ▸ hf))⟩
theorem It.of_grown {row : Option Nat} (h : A.grownBy B row) (hr : ∀ r, row = some r → D ≤ r ∧ ¬ F r) : It D F A B :=
 ⟨h.os, h.tape, h.output, h.size, fun k hk hd => h.block k hk (fun e => by have := (hr k e.symm).1; omega), fun k hk hf => h.block k hk (fun e => (hr k e.symm).2 hf)⟩
theorem It.blk (h : It D F A B) {g : Nat} {t : TypeId} {cs : Array Value} (hb : Blk A g t cs) (hg : g < D ∨ F g) : Blk B g t cs := by
 rcases hg with hg | hg
 ·exact (h.low g hb.lt hg).trans hb
 ·exact (h.mine g hb.lt hg).trans hb
theorem Ro.refl (F : Nat → Prop) (A : World) : Ro F F A A := ⟨rfl, rfl, rfl, Nat.le_refl _, fun _ _ _ => rfl, fun _ h => .inl h⟩
theorem Ro.trans (h : Ro F F' A B) (k : Ro F' F'' B C) : Ro F F'' A C :=
 ⟨k.os.trans h.os, k.tape.trans h.tape, k.output.trans h.output, Nat.le_trans h.size k.size, fun i hi hf => (k.keep i (Nat.lt_of_lt_of_le hi h.size) (fun e => by
  rcases h.foot i e with e | e
  ·exact hf e
  ·omega)).trans (h.keep i hi hf), fun i hi => by
  rcases k.foot i hi with e | e
  ·rcases h.foot i e with e | e
   ·exact .inl e
   ·exact .inr ⟨e.1, Nat.lt_of_lt_of_le e.2 k.size⟩
  ·exact .inr ⟨Nat.le_trans h.size e.1, e.2⟩⟩
theorem Ro.of_below (h : Below A.heap.size A B) : Ro F F A B := ⟨h.os, h.tape, h.output, h.size, fun k hk _ => h.block k hk, fun _ h => .inl h⟩
theorem Ro.setCell {p : Addr} (hF : F p.block) (u : Value) : Ro F F A (A.setCell p u) :=
 ⟨rfl, rfl, rfl, by simp [World.setCell], fun k _ hf => Below.heap_setCell _ _ _ _ (fun e => hf (e ▸ hF)), fun _ h => .inl h⟩
end
theorem roundIn_wide {n m l : Nat} {P : Program} {f : FuncId} {t : Array Value} {a b : Code} {w : World} {R : Ending → World → Prop} (h : RoundIn Fence.wide n P l f t a b w R) : RoundIn Fence.wide m P l f t a b w R :=
 ⟨h.1, fun c cs _ => h.2 c cs (room_wide _)⟩
theorem yieldAt_wide {n m l : Nat} {P : Program} {args : Array Value} {w : World} {R : Ending → World → Prop} (h : YieldAt Fence.wide n P l args w R) : YieldAt Fence.wide m P l args w R := by
 obtain ⟨fn, t, a, b, h1, h2⟩ := h
 exact ⟨fn, t, a, b, h1, roundIn_wide h2⟩
/-- Abides what the iterator does. -/
def Abide {α : Type} (D : Nat) (J : (Nat → Prop) → List α → World → Prop) : Prop := ∀ F s A B, J F s A → It D F A B → J F s B
/-- The contract of such an iterator. Gw: what is known of an element and the world in which it comes up; Bs: what the caller may own ahead of the loop. -/
def SeqW {α : Type} (g : Nat) (lb : Array Value) (encs : α → Array Value) (Gw : List α → α → World → Prop) (Bs : Nat → Prop) (S Sp : List α → Prop) (w : World) : Prop :=
 ∀ (m l : Nat) (J Jx : (Nat → Prop) → List α → World → Prop) (W : World), Below w.heap.size w W → Abide W.heap.size J → Abide W.heap.size Jx →
  (∀ F pre x A, J F pre A → Gw pre x A → YieldAt Fence.wide (m - 1) Tryz.prog l (encs x) A fun e B => ∃ F', Ro F F' A B ∧ ((e = .returned (.bool true) ∧ J F' (pre ++ [x]) B) ∨ (e = .returned (.bool false) ∧ Jx F' (pre ++ [x]) B))) →
  ∀ F0, (∀ k, F0 k → k < W.heap.size ∧ Bs k) → J F0 [] W →
  CallsIn Fence.wide m Tryz.prog g (#[.func (.yield l) #[] #[]] ++ lb) W fun e W' => (∃ v, e = .returned v) ∧ ∃ F, ((∃ xs, S xs ∧ J F xs W') ∨ (∃ pre, Sp pre ∧ Jx F pre W'))
/-- What the loop's body must come to. -/
def postW {α : Type} (I : (Nat → Prop) → List α → World → Prop) (Ix : Code → (Nat → Prop) → List α → World → Prop) (F : Nat → Prop) (xs : List α) (Y : World) : Exit → Act → World → Prop
 | .normal, _, Z => ∃ F', Ro F F' Y Z ∧ I F' xs Z
 | .ret, _, Z => ∃ F', Ro F F' Y Z ∧ Ix .ret F' xs Z
 | .exit id, _, Z => ∃ F', Ro F F' Y Z ∧ Ix (.exit id) F' xs Z
 | .goto t, _, Z => ∃ F', Ro F F' Y Z ∧ Ix (.goto t) F' xs Z
 | .panic _, _, _ => False
 | .outgrown, _, _ => False
theorem ro_put {F : Nat → Prop} {A : World} {l : Nat} (hl : F l) (o : Obj) : Ro F F A (A.putObj l o) :=
 ⟨rfl, rfl, rfl, by simp, fun k _ hf => World.putObj_heap_other (fun e => hf (e ▸ hl)), fun _ h => .inl h⟩
set_option maxHeartbeats 1000000 in
/-- The law of a range over it, at the wide fence, in no round. -/
theorem wp_rangeW {α : Type} {n : Nat} {g : Operand} {ps : Array Tmp} {assign body : Code} {Q : Exit → Act → World → Prop} {a : Act} {w : World}
  (h1 : 1 ≤ n) {gf : Nat} {lb : Array Value} (hg : a.eval g = .func (.func gf) #[] lb) (eg : ∀ args w, (callFunc gf args).run Tryz.prog w = .ok (.enter gf args) w)
  {encs : α → Array Value} {Gw : List α → α → World → Prop} {Bs : Nat → Prop} {S Sp : List α → Prop} {w0 : World} (hseq : SeqW gf lb encs Gw Bs S Sp w0)
  (hb0 : Below w0.heap.size w0 w) (hps : ∀ x, (encs x).size = ps.size)
  (I : (Nat → Prop) → List α → World → Prop) (Ix : Code → (Nat → Prop) → List α → World → Prop) (hI : Abide w.heap.size I) (hIx : ∀ c, Abide w.heap.size (Ix c))
  (hGw : ∀ pre x l o A, w.heap.size ≤ l → Gw pre x A → (∃ r, A.heap[l]? = some (.loop r)) → Gw pre x (A.putObj l o))
  (hBs : ∀ k, w.heap.size ≤ k → Bs k) (F0 : Nat → Prop) (hF0 : ∀ k, F0 k → k < w.heap.size ∧ Bs k) (h0 : I F0 [] w) (Ax : α → Act → Prop)
  (hassign : ∀ (l : Nat) (x : α) (W : World) (K : Act → World → Prop), (∀ a', Ax x a' → K a' W) →
   assign.wpIn (Fence.wide.inRound l) (n - 1 - 1) Tryz.prog (Exit.then K (fun _ _ _ => False)) { tmps := (ps.zip (encs x)).foldl (fun t (p, v) => t.setIfInBounds p v) a.tmps, defers := [] } W)
  (hbody : ∀ (l : Nat) (F : Nat → Prop) (pre : List α) (x : α) (a' : Act) (W : World), w.heap.size ≤ l → (∃ r, W.heap[l]? = some (.loop r)) → I F pre W → Gw pre x W → Ax x a' → body.wpIn (Fence.wide.inRound l) (n - 1 - 1) Tryz.prog (postW I Ix F (pre ++ [x]) W) a' W)
  (hdone : ∀ (D : Nat) (F : Nat → Prop) (xs : List α) (W : World), w.heap.size ≤ D → S xs → I F xs W → W.heap[D]? = some (.deferred (some [])) → Q .normal { a with defers := { target := .collected D, args := #[] } :: a.defers } W)
  (hstop : ∀ (D : Nat) (F : Nat → Prop) (c : Code) (pre : List α) (W : World), w.heap.size ≤ D → Sp pre → Ix c F pre W → W.heap[D]? = some (.deferred (some [])) → c.wpIn Fence.wide n Tryz.prog Q { a with defers := { target := .collected D, args := #[] } :: a.defers } W) :
  (Code.rangeFunc g ps assign body).wpIn Fence.wide n Tryz.prog Q a w := by
 refine wpIn_rangeFunc fun fn hfn => ?_
 rw [show Fence.wide.round = none from rfl]
 -- the loop's record, in a state
 let rc : LoopState → Option Code → Loop := fun st pe => { state := st, pending := pe, fn, tmps := a.tmps, params := ps, assign, body, defers := w.heap.size }
 obtain ⟨V, hV⟩ : ∃ V, (w.alloc (.deferred (some []))).alloc (.loop (rc .ready none)) = V := ⟨_, rfl⟩
 have hVs : V.heap.size = w.heap.size + 2 := by rw [← hV]; simp
 have vl : V.heap[w.heap.size + 1]? = some (.loop (rc .ready none)) := by
  rw [← hV]; have := World.alloc_heap_new (w.alloc (.deferred (some []))) (.loop (rc .ready none)); rwa [World.size_alloc] at this
 have vk : V.heap[w.heap.size]? = some (.deferred (some [])) := by rw [← hV]; exact (Below.heap_alloc _ _ _ (by simp)).trans (World.alloc_heap_new w _)
 have vw : Below w.heap.size w V := by rw [← hV]; exact two_more w _ _
 have vi : I F0 [] V := hI _ _ _ _ h0 (It.of_below vw)
 have vb : Below w0.heap.size w0 V := hb0.trans (vw.mono hb0.size)
 refine ⟨w.heap.size + 1, [{ target := .collected w.heap.size, args := #[] }], V, { target := .fn (.func gf) lb, args := #[.func (.yield (w.heap.size + 1)) #[] #[]] }, V, gf, #[.func (.yield (w.heap.size + 1)) #[] #[]] ++ lb, V,
  by rw [← hV]; exact run_enterLoop_outer _ _ _ _ _, by (simp only [resolve, hg]; simp [go_sem]), fun f' hf' => trivial, by simp [invoke, go_sem, eg], fun _ => h1, ?_⟩
 -- what stands beside the caller's invariant
 let Bk : (Nat → Prop) → (Nat → Prop) → LoopState → Option Code → World → Prop := fun F F1 st pe W => (∀ k, F k ↔ (F1 k ∨ k = w.heap.size + 1)) ∧ ¬ F1 (w.heap.size + 1) ∧ ¬ F1 w.heap.size ∧ W.heap[w.heap.size + 1]? = some (.loop (rc st pe)) ∧ W.heap[w.heap.size]? = some (.deferred (some []))
 have bkIt : ∀ {F F1 : Nat → Prop} {st : LoopState} {pe : Option Code} {A B : World}, Bk F F1 st pe A → It V.heap.size F A B → Bk F F1 st pe B ∧ It w.heap.size F1 A B := fun hb hi => by
  obtain ⟨b1, b2, b3, b4, b5⟩ := hb
  refine ⟨⟨b1, b2, b3, (hi.low _ (Array.getElem?_eq_some_iff.1 b4).1 (by omega)).trans b4, (hi.low _ (Array.getElem?_eq_some_iff.1 b5).1 (by omega)).trans b5⟩, ⟨hi.os, hi.tape, hi.output, hi.size, fun k hk hd => hi.low k hk (by omega), fun k hk hf => hi.mine k hk ((b1 k).2 (.inl hf))⟩⟩
 have itPut : ∀ {F1 : Nat → Prop} {A : World} (o : Obj), ¬ F1 (w.heap.size + 1) → It w.heap.size F1 A (A.putObj (w.heap.size + 1) o) := fun {F1 A} o hf =>
  ⟨rfl, rfl, rfl, by simp, fun k _ hd => World.putObj_heap_other (by omega), fun k _ hk => World.putObj_heap_other (fun e => hf (e ▸ hk))⟩
 refine (hseq (n - 1) (w.heap.size + 1)
  (fun F pre W => ∃ F1, I F1 pre W ∧ Bk F F1 .ready none W)
  (fun F pre W => ∃ F1 c, Ix c F1 pre W ∧ Bk F F1 .done (some c) W)
  V vb (fun F s A B ⟨F1, hi, hb⟩ ht => ⟨F1, hI _ _ _ _ hi (bkIt hb ht).2, (bkIt hb ht).1⟩) (fun F s A B ⟨F1, c, hi, hb⟩ ht => ⟨F1, c, hIx c _ _ _ _ hi (bkIt hb ht).2, (bkIt hb ht).1⟩) ?_
  (fun k => F0 k ∨ k = w.heap.size + 1) (fun k hk => by
   rcases hk with hk | rfl
   ·exact ⟨by have := (hF0 k hk).1; omega, (hF0 k hk).2⟩
   ·exact ⟨by omega, hBs _ (by omega)⟩) ⟨F0, vi, fun k => Iff.rfl, fun h => by have := (hF0 _ h).1; omega, fun h => by have := (hF0 _ h).1; omega, vl, vk⟩).mono ?_
 ·-- one round
  rintro F pre x A ⟨F1, hi, b1, b2, b3, hl, hk⟩ hG
  refine ⟨fn, _, assign, body, run_yield hl (hps x), roundIn_of_wpIn hfn (hassign _ x A _ ?_)⟩
  intro a' xa
  have hlt := (Array.getElem?_eq_some_iff.1 hl).1
  refine ⟨_, run_beginRound hl rfl, ?_⟩
  obtain ⟨Y, hY⟩ : ∃ Y, A.putObj (w.heap.size + 1) (.loop { rc .ready none with state := .busy }) = Y := ⟨_, rfl⟩
  have yl : Y.heap[w.heap.size + 1]? = some (.loop { rc .ready none with state := .busy }) := by rw [← hY]; exact World.putObj_heap_same hlt
  have yk : Y.heap[w.heap.size]? = some (.deferred (some [])) := by rw [← hY]; exact (World.putObj_heap_other (by omega)).trans hk
  have yi : I F1 pre Y := by rw [← hY]; exact hI _ _ _ _ hi (itPut _ b2)
  have yg : Gw pre x Y := by rw [← hY]; exact hGw pre x _ _ A (by omega) hG ⟨_, hl⟩
  have yr : Ro F F A Y := by rw [← hY]; exact ro_put ((b1 _).2 (.inr rfl)) _
  rw [hY]
  refine wpIn_mono (hbody _ F1 pre x a' Y (by omega) ⟨_, yl⟩ yi yg xa) ?_
  have fin : ∀ (jump : Option Code) (F1' : Nat → Prop) (Z : World), Ro F1 F1' Y Z →
    ∃ Z', (Instr.endRound (w.heap.size + 1) jump).run Tryz.prog Z = .ok (.bool jump.isNone) Z' ∧ It w.heap.size F1' Z Z' ∧ Ro F (fun k => F1' k ∨ k = w.heap.size + 1) A Z' ∧ Bk (fun k => F1' k ∨ k = w.heap.size + 1) F1' (if jump.isNone then .ready else .done) jump Z' := fun jump F1' Z kz => by
   have zl := (kz.keep _ (Array.getElem?_eq_some_iff.1 yl).1 b2).trans yl
   have zk := (kz.keep _ (Array.getElem?_eq_some_iff.1 yk).1 b3).trans yk
   have ysz := (Array.getElem?_eq_some_iff.1 yl).1
   have n1 : ¬ F1' (w.heap.size + 1) := fun e => by
    rcases kz.foot _ e with e | e
    ·exact b2 e
    ·omega
   have n0 : ¬ F1' w.heap.size := fun e => by
    rcases kz.foot _ e with e | e
    ·exact b3 e
    ·omega
   have rz : Ro F (fun k => F1' k ∨ k = w.heap.size + 1) Y Z := ⟨kz.os, kz.tape, kz.output, kz.size, fun k hk hf => kz.keep k hk (fun e => hf ((b1 k).2 (.inl e))), fun k hk => by
    rcases hk with hk | rfl
    ·rcases kz.foot k hk with e | e
     ·exact .inl ((b1 k).2 (.inl e))
     ·exact .inr e
    ·exact .inl ((b1 _).2 (.inr rfl))⟩
   refine ⟨_, run_endRound jump zl, itPut _ n1, (yr.trans rz).trans (ro_put (.inr rfl) _), fun k => Iff.rfl, n1, n0, World.putObj_heap_same (Array.getElem?_eq_some_iff.1 zl).1, (World.putObj_heap_other (by omega)).trans zk⟩
  rintro e a3 Z hp
  cases e with
  | normal =>
   obtain ⟨F1', kr, ki⟩ := hp
   obtain ⟨Z', hr, hz, hro, hb⟩ := fin none F1' Z kr
   exact ⟨_, _, hr, _, hro, .inl ⟨rfl, F1', hI _ _ _ _ ki hz, hb⟩⟩
  | ret =>
   obtain ⟨F1', kr, ki⟩ := hp
   obtain ⟨Z', hr, hz, hro, hb⟩ := fin (some .ret) F1' Z kr
   exact ⟨_, _, hr, _, hro, .inr ⟨rfl, F1', .ret, hIx _ _ _ _ _ ki hz, hb⟩⟩
  | exit id =>
   obtain ⟨F1', kr, ki⟩ := hp
   obtain ⟨Z', hr, hz, hro, hb⟩ := fin (some (.exit id)) F1' Z kr
   exact ⟨_, _, hr, _, hro, .inr ⟨rfl, F1', .exit id, hIx _ _ _ _ _ ki hz, hb⟩⟩
  | goto t =>
   obtain ⟨F1', kr, ki⟩ := hp
   obtain ⟨Z', hr, hz, hro, hb⟩ := fin (some (.goto t)) F1' Z kr
   exact ⟨_, _, hr, _, hro, .inr ⟨rfl, F1', .goto t, hIx _ _ _ _ _ ki hz, hb⟩⟩
  | panic ch => exact hp.elim
  | outgrown => exact hp.elim
 ·-- behind the iterator
  rintro e W2 ⟨⟨v, rfl⟩, F, (⟨xs, hS, F1, hi, b1, b2, b3, hl, hk⟩ | ⟨pre, hSp, F1, c, hi, b1, b2, b3, hl, hk⟩)⟩
  ·exact ⟨none, _, run_endLoop hl (by simp [rc]), hdone _ F1 xs _ (Nat.le_refl _) hS (hI _ _ _ _ hi (itPut _ b2)) ((World.putObj_heap_other (by omega)).trans hk)⟩
  ·exact ⟨some c, _, run_endLoop hl (by simp [rc]), hstop _ F1 c pre _ (Nat.le_refl _) hSp (hIx c _ _ _ _ hi (itPut _ b2)) ((World.putObj_heap_other (by omega)).trans hk)⟩
end Go.Proofs.YtehhlgdkhecacaaGreat

namespace Go.Proofs.YtehhlgdkhecacaaGreat
open Go.RowKit Go.Shelf
theorem rd_no {c : List Qf} {r : List Int} {k : Nat} (hk : k < c.length) (h : ¬ (r.getD k 0 ∈ (c.getD k q0).per ∧ fitB c (r.take k) (r.getD k 0) = true)) : isRd c r = false := by
 rw [Bool.eq_false_iff]
 intro e
 unfold isRd at e
 rw [Bool.and_eq_true, List.all_eq_true] at e
 have := e.2 k (List.mem_range.2 hk)
 simp only [Bool.and_eq_true, decide_eq_true_eq] at this
 exact h this
theorem rd_yes {c : List Qf} {r : List Int} (hl : r.length = c.length) (h : ∀ j, j < c.length → r.getD j 0 ∈ (c.getD j q0).per ∧ fitB c (r.take j) (r.getD j 0) = true) : isRd c r = true := by
 unfold isRd
 rw [Bool.and_eq_true, List.all_eq_true]
 refine ⟨decide_eq_true hl, fun j hj => ?_⟩
 have := h j (List.mem_range.1 hj)
 simp only [Bool.and_eq_true, decide_eq_true_eq]
 exact this
set_option maxRecDepth 100000 in
set_option maxHeartbeats 8000000 in
theorem isReading_any (A : Option Addr) (n c : Nat) (l : List Pf) (B : Option Addr) (m d : Nat) (rd : List Int) (w : World) (ha : Prf w A n l) (hn : n ≤ 1000) (hb : Ints w B m rd) (hmd : m ≤ d) (_hd : d ≤ 9223372036854775807) :
  Calls Tryz.prog 84 #[.slice A n c, .slice B m d] w fun e w' => e = .returned (.bool (isRd (l.map Pf.q) rd)) ∧ Below w.heap.size w w' := by
 have HA := Lib.hid ha
 have HB := Lib.hid hb
 have HRL := Lib.hid hb.1
 have HLM := Lib.hid (show l.length = n from ha.len)
 have HLQ := Lib.hid (show (l.map Pf.q).length = n by rw [List.length_map]; exact ha.len)
 obtain ⟨fb, hfb⟩ : ∃ s, isRd (l.map Pf.q) rd = s := ⟨_, rfl⟩
 rw [hfb]
 have HFB := Lib.hid hfb
 clear hfb ha hb
 by_cases hmn : m = n
 ·subst hmn
  have hne : ((m : Int) != (m : Int)) = false := by simp
  go_enter Tryz.func84, Tryz.ntmps84
  go_wp2_with fail
  go_loopw [14] (fun i wr => ∃ k : Nat, k ≤ m ∧ i = .int .i64 k ∧ Below w.heap.size w wr ∧ ∀ j, j < k → rd.getD j 0 ∈ ((l.map Pf.q).getD j q0).per ∧ fitB (l.map Pf.q) (rd.take j) (rd.getD j 0) = true) (fun i _ => m - (intOf i).toNat)
  case atStart => exact ⟨0, Nat.zero_le _, rfl, Below.refl _ _, fun j hj => absurd hj (by omega)⟩
  case round =>
   obtain ⟨k, hk, rfl, hg, hall⟩ := hrel
   have HG := Lib.hid hg
   have HALL := Lib.hid hall
   clear hall
   by_cases hkm : k < m
   ·obtain ⟨b2, o2, rfl, -, -, hc2⟩ := ints_at (HB.out.below HG.out) hkm
    have r0 := hc2 wr (Below.refl _ _)
    obtain ⟨x, hx⟩ : ∃ x, rd.getD k 0 = x := ⟨_, rfl⟩
    rw [hx] at r0
    have HX := Lib.hid hx
    have HPK := Lib.hid (map_pf (l := l) (k := k) (by rw [HLM.out]; exact hkm))
    obtain ⟨b3, o3, rfl, -, hzi, hzm, hzc⟩ := (HA.out.below HG.out).at hkm
    obtain ⟨z, hz⟩ : ∃ z, l.getD k p0 = z := ⟨_, rfl⟩
    rw [hz] at hzc hzi HPK
    obtain ⟨e0, e1, e2, e3, e4, e5, e6, e7, e8⟩ := hzc _ (Below.refl _ _)
    have TH := has_any z.A z.n z.c z.q.per x wr hzi.i hzi.m.2
    have HTK := Lib.hid (show Ints wr (some ⟨b2, o2, none⟩) k (rd.take k) from (HB.out.below HG.out).take (by omega))
    have TF := Lib.hid (fun (a : Option Addr) (q : Nat) (h : Ints wr a k (rd.take k)) => fits_any (some ⟨b3, o3, none⟩) m c l a k q (rd.take k) x wr (HA.out.below HG.out) hn h hkm)
    obtain ⟨hh, hhh⟩ : ∃ s, hasI z.q.per x = s := ⟨_, rfl⟩
    obtain ⟨ff, hff⟩ : ∃ s, fitB (l.map Pf.q) (rd.take k) x = s := ⟨_, rfl⟩
    rw [hhh] at TH
    rw [hff] at TF
    have HHH := Lib.hid hhh
    have HFF := Lib.hid hff
    have HTH := Lib.hid TH
    have hwr2 : wrap64 ((k : Int) + 1) = (k : Int) + 1 := wrap_in (by omega)
    have hkd : (k : Int) ≤ (d : Int) := by omega
    clear hzi hzm hzc hz hx hc2 hhh hff TH e0 e1 e3 e4 e5 e6 e7 e8 hg
    cases hh with
    | false =>
     have hf : fb = false := HFB.out.symm.trans (rd_no (k := k) (by rw [HLQ.out]; exact hkm) (by
      rintro ⟨h1, -⟩
      rw [HPK.out, HX.out] at h1
      have := hasI_true h1
      rw [HHH.out] at this
      exact absurd this (by decide)))
     subst hf
     go_wp2_with (go_at_call 121; (with_reducible refine (HTH.out).mono ?_); rintro e w' ⟨rfl, rfl⟩)
     go_ret
     exact ⟨rfl, HG.out⟩
    | true =>
     cases ff with
     | false =>
      have hf : fb = false := HFB.out.symm.trans (rd_no (k := k) (by rw [HLQ.out]; exact hkm) (by
       rintro ⟨-, h1⟩
       rw [HX.out, HFF.out] at h1
       exact absurd h1 (by decide)))
      subst hf
      go_wp2_with (first
       | (go_at_call 121; (with_reducible refine (HTH.out).mono ?_); rintro e w' ⟨rfl, rfl⟩)
       | (go_at_call 127; (with_reducible refine (TF.out _ _ ?_).mono ?_); (first | exact HTK.out | (split <;> exact HTK.out)); rintro e V ⟨rfl, hg⟩; have G2 := Lib.hid (HG.out.trans (hg.mono HG.out.size)); clear hg))
      go_ret
      exact ⟨rfl, G2.out⟩
     | true =>
      go_wp2_with (first
       | (go_at_call 121; (with_reducible refine (HTH.out).mono ?_); rintro e w' ⟨rfl, rfl⟩)
       | (go_at_call 127; (with_reducible refine (TF.out _ _ ?_).mono ?_); (first | exact HTK.out | (split <;> exact HTK.out)); rintro e V ⟨rfl, hg⟩; have G2 := Lib.hid (HG.out.trans (hg.mono HG.out.size)); clear hg))
      go_roundw
      case rel => exact ⟨k + 1, by omega, by go_num, G2.out, fun j hj => by
       by_cases e : j = k
       ·subst e
        rw [HPK.out, HX.out]
        exact ⟨hasI_iff.1 HHH.out, HFF.out⟩
       ·exact HALL.out j (by omega)⟩
      case measure => simp [intOf]; omega
   ·obtain rfl : k = m := by omega
    have hf : fb = true := HFB.out.symm.trans (rd_yes (by rw [HRL.out, HLQ.out]) (fun j hj => HALL.out j (by rw [HLQ.out] at hj; exact hj)))
    subst hf
    clear hg
    go_wp2_with fail
    go_ret
    exact ⟨rfl, HG.out⟩
 ·have hne : ((m : Int) != (n : Int)) = true := by simp; omega
  have hf : fb = false := HFB.out.symm.trans (by
   unfold isRd
   rw [decide_eq_false (by rw [HRL.out, HLQ.out]; exact hmn)]
   rfl)
  subst hf
  go_enter Tryz.func84, Tryz.ntmps84
  go_wp2_with fail
  go_ret
  exact ⟨rfl, Below.refl _ _⟩
end Go.Proofs.YtehhlgdkhecacaaGreat

namespace Go.Proofs.YtehhlgdkhecacaaGreat
open Go.RowKit Go.Shelf
/-- A reading as it is handed to the loop's body. -/
structure Rd where
 A : Option Addr
 n : Nat
 c : Nat
 r : List Int
def encR (x : Rd) : Array Value := #[.slice x.A x.n x.c]
def GwR (c : List Qf) (pre : List Rd) (x : Rd) (W : World) : Prop := Ints W x.A x.n x.r ∧ x.n ≤ x.c ∧ x.c ≤ maxLen ∧ ∃ post, pre.map Rd.r ++ x.r :: post = reads c
theorem Arr.putObj {α : Type} {f : α → List Value} {size : Nat} {w : World} {A : Option Addr} {n : Nat} {xs : List α} (h : Arr f size w A n xs) (hf : ∀ x, (f x).length = size) (hs : 0 < size) {l : Nat} {q : Obj} (hq : w.heap[l]? = some q) (hc : q.isCells = false) (o : Obj) : Arr f size (w.putObj l o) A n xs :=
 ⟨h.1, fun hn => by
  obtain ⟨b, o1, rfl, hb, hh⟩ := h.2 hn
  have hne : b ≠ l := fun e => by
   subst e
   have hl : 0 < xs.length := by rw [h.1]; exact hn
   have h0 : 0 < (f xs[0]).length := by rw [hf]; exact hs
   have := hh 0 xs[0] (List.getElem?_eq_getElem hl) 0 _ (List.getElem?_eq_getElem h0)
   rw [show w.cell? ⟨b, o1 + 0 * size + 0, none⟩ = none by
    cases q with
    | cells a b c => cases hc
    | _ => simp [World.cell?, hq]] at this
   cases this
  exact ⟨b, o1, rfl, by simpa using hb, fun k x hx j u hu => (World.cell?_of_block (a := ⟨b, o1 + k * size + j, none⟩) (World.putObj_heap_other hne)).trans (hh k x hx j u hu)⟩⟩
theorem gwR_put {c : List Qf} {pre : List Rd} {x : Rd} {A : World} {l : Nat} (o : Obj) (h : GwR c pre x A) (hl : ∃ r, A.heap[l]? = some (.loop r)) : GwR c pre x (A.putObj l o) := by
 obtain ⟨r, hr⟩ := hl
 exact ⟨h.1.putObj (fun _ => rfl) (by decide) hr rfl o, h.2⟩
theorem own_block {α : Type} {f : α → List Value} {size : Nat} {e : TypeId} {w : World} {base : Nat} {v : Value} {xs : List α} (h : OwnL f size e w base v xs) {k : Nat} (hk : v.ownBlock = some k) : base ≤ k ∧ ∃ cur, Blk w k e cur := by
 obtain ⟨h1, ⟨rfl, -⟩ | ⟨g, cap, cur, rfl, hb, hg, -⟩⟩ := h
 ·cases hk
 ·cases hk
  exact ⟨hb, cur, hg⟩
theorem blk_type {w : World} {g : Nat} {t t' : TypeId} {cs cs' : Array Value} (h : Blk w g t cs) (h' : Blk w g t' cs') : t = t' := by
 have := (show w.heap[g]? = _ from h).symm.trans (show w.heap[g]? = _ from h')
 cases this
 rfl
abbrev ptr (b : Nat) : Value := .pointer (some ⟨b, 0, none⟩)
abbrev stepF (bR bq bY bS : Nat) : Value := .func (.func 137) #[] #[ptr bR, ptr bq, ptr bY, ptr bS]
/-- The iterator's memory: its three boxes, the row of the reading so far (b). -/
structure SI (w0 : World) (D bq bR bY bS l : Nat) (A : Option Addr) (n c : Nat) (F : Nat → Prop) (W : World) (v : Value) (b : List Int) : Prop where
 data : Below w0.heap.size w0 W
 q : Blk W bq 22 #[.slice A n c]
 r : Blk W bR 25 #[v]
 y : Blk W bY 149 #[.func (.yield l) #[] #[]]
 s : Blk W bS 33 #[stepF bR bq bY bS]
 o : OwnL icells 1 3 W D v b
 fq : ¬ F bq
 fR : ¬ F bR
 fY : ¬ F bY
 fS : ¬ F bS
 fo : ∀ k, v.ownBlock = some k → ¬ F k
 lo : ∀ k, F k → w0.heap.size ≤ k
 up : ∀ k, F k → k < W.heap.size
section
variable {w0 : World} {D bq bR bY bS l : Nat} {A : Option Addr} {n c : Nat} {F F' : Nat → Prop} {W W' : World} {v : Value} {b : List Int}
theorem SI.below (h : SI w0 D bq bR bY bS l A n c F W v b) (g : Below W.heap.size W W') : SI w0 D bq bR bY bS l A n c F W' v b :=
 ⟨h.data.trans (g.mono h.data.size), h.q.ext g, h.r.ext g, h.y.ext g, h.s.ext g, h.o.ext g, h.fq, h.fR, h.fY, h.fS, h.fo, h.lo, fun k hk => Nat.lt_of_lt_of_le (h.up k hk) g.size⟩
theorem SI.round (h : SI w0 D bq bR bY bS l A n c F W v b) (g : Ro F F' W W') : SI w0 D bq bR bY bS l A n c F' W' v b := by
 have nf : ∀ k, k < W.heap.size → ¬ F k → ¬ F' k := fun k hk hf e => by
  rcases g.foot k e with e | e
  ·exact hf e
  ·omega
 have ho : W.grownBy W' none → True := fun _ => trivial
 refine ⟨⟨g.os.trans h.data.os, g.tape.trans h.data.tape, g.output.trans h.data.output, Nat.le_trans h.data.size g.size, fun k hk => (g.keep k (Nat.lt_of_lt_of_le hk h.data.size) (fun e => by have := h.lo k e; omega)).trans (h.data.block k hk)⟩,
  (g.keep _ h.q.lt h.fq).trans h.q, (g.keep _ h.r.lt h.fR).trans h.r, (g.keep _ h.y.lt h.fY).trans h.y, (g.keep _ h.s.lt h.fS).trans h.s, ?_, nf _ h.q.lt h.fq, nf _ h.r.lt h.fR, nf _ h.y.lt h.fY, nf _ h.s.lt h.fS, fun k hk => ?_, fun k hk => ?_, fun k hk => ?_⟩
 ·obtain ⟨h1, h2 | ⟨g', cap, cur, hv, hb, hg, h4⟩⟩ := h.o
  ·exact ⟨h1, .inl h2⟩
  ·refine ⟨h1, .inr ⟨g', cap, cur, hv, hb, ?_, h4⟩⟩
   have hlt : g' < W.heap.size := (Array.getElem?_eq_some_iff.1 hg).1
   exact (g.keep g' hlt (h.fo g' (by rw [hv]; rfl))).trans hg
 ·obtain ⟨-, cur, hb⟩ := own_block h.o hk
  exact nf k hb.lt (h.fo k hk)
 ·rcases g.foot k hk with e | e
  ·exact h.lo k e
  ·exact Nat.le_trans h.data.size e.1
 ·rcases g.foot k hk with e | e
  ·exact Nat.lt_of_lt_of_le (h.up k e) g.size
  ·exact e.2
/-- Blocks are apart. -/
theorem SI.ne (h : SI w0 D bq bR bY bS l A n c F W v b) : bq ≠ bR ∧ bY ≠ bR ∧ bS ≠ bR ∧ ∀ k, v.ownBlock = some k → k ≠ bq ∧ k ≠ bR ∧ k ≠ bY ∧ k ≠ bS := by
 refine ⟨fun e => ?_, fun e => ?_, fun e => ?_, fun k hk => ?_⟩
 ·exact absurd (blk_type (e ▸ h.q) h.r) (by decide)
 ·exact absurd (blk_type (e ▸ h.y) h.r) (by decide)
 ·exact absurd (blk_type (e ▸ h.s) h.r) (by decide)
 ·obtain ⟨-, cur, hb⟩ := own_block h.o hk
  refine ⟨fun e => ?_, fun e => ?_, fun e => ?_, fun e => ?_⟩
  ·exact absurd (blk_type (e ▸ hb) h.q) (by decide)
  ·exact absurd (blk_type (e ▸ hb) h.r) (by decide)
  ·exact absurd (blk_type (e ▸ hb) h.y) (by decide)
  ·exact absurd (blk_type (e ▸ hb) h.s) (by decide)
/-- A new value in the reading's box. -/
theorem SI.store (h : SI w0 D bq bR bY bS l A n c F W v b) (hR : w0.heap.size ≤ bR) {V : World} {v2 : Value} {b2 : List Int} (hg : W.grownBy V v.ownBlock) (hD : w0.heap.size ≤ D) (ho : OwnL icells 1 3 V D v2 b2) (hz : v2.ownBlock = none ∨ v2.ownBlock = v.ownBlock ∨ ∃ k, v2.ownBlock = some k ∧ W.heap.size ≤ k) : SI w0 D bq bR bY bS l A n c F (V.setCell ⟨bR, 0, none⟩ v2) v2 b2 := by
 obtain ⟨n1, n2, n3, n4⟩ := h.ne
 have keep : ∀ {g : Nat} {t : TypeId} {cs : Array Value}, Blk W g t cs → (∀ k, v.ownBlock = some k → k ≠ g) → Blk V g t cs := fun {g t cs} hb hne => (hg.block g hb.lt (fun e => hne g e.symm rfl)).trans hb
 have vq := keep h.q (fun k hk => (n4 k hk).1)
 have vr := keep h.r (fun k hk => (n4 k hk).2.1)
 have vy := keep h.y (fun k hk => (n4 k hk).2.2.1)
 have vs := keep h.s (fun k hk => (n4 k hk).2.2.2)
 have vd : Below w0.heap.size w0 V := h.data.grown hg h.data.size (fun k hk => Nat.le_trans hD (own_block h.o hk).1)
 refine ⟨vd.setCell (p := ⟨bR, 0, none⟩) hR v2, vq.far n1 v2, ?_, vy.far n2 v2, vs.far n3 v2, ?_, h.fq, h.fR, h.fY, h.fS, fun k hk hf => ?_, h.lo, fun k hk => ?_⟩
 ·have := vr.set_ 0 v2
  exact this
 ·obtain ⟨h1, h2 | ⟨g', cap, cur, hv, hb, hg', h4⟩⟩ := ho
  ·exact ⟨h1, .inl h2⟩
  ·refine ⟨h1, .inr ⟨g', cap, cur, hv, hb, ?_, h4⟩⟩
   exact Blk.far (p := ⟨bR, 0, none⟩) (show Blk V g' 3 cur from hg') (fun e => absurd (blk_type (show Blk V g' 3 cur from hg') (show Blk V g' 25 #[v] from (show g' = bR from e) ▸ vr)) (by decide)) v2
 ·rcases hz with e | e | ⟨k', e, hk'⟩
  ·rw [e] at hk; cases hk
  ·exact h.fo k (e ▸ hk) hf
  ·rw [e] at hk
   cases hk
   have := h.up k hf
   omega
 ·have := h.up k hk
  have := hg.size
  simp [World.setCell]
  omega
end
end Go.Proofs.YtehhlgdkhecacaaGreat

namespace Go.Proofs.YtehhlgdkhecacaaGreat
open Go.RowKit Go.Shelf
attribute [local go_sem] Oper.semAt_some
section
variable {α : Type} {f : α → List Value} {size : Nat} {e t : TypeId} {bytes : Nat} {z : Value}
theorem wpListIn_app (K : Kd f size e t bytes z) {F : Fence} {n : Nat} {w : World} {ops : Array Oper} {rest : List Oper} {o : Oper} {a : Act} {Q : Exit → Act → World → Prop} (hgd : o.guard = none) (s x : Operand)
  (ho : o.op = .call { callee := .builtin .append, args := #[s, x], argTypes := #[t, t] }) (base : Nat) (v : Value) (xs : List α) (hs : a.eval s = v) (hown : OwnL f size e w base v xs)
  (A : Option Addr) (m c : Nat) (ys : List α) (hx : a.eval x = .slice A m c) (hr : Arr f size w A m ys) (hn : xs.length + m ≤ 1000000) (hbase : base ≤ w.heap.size)
  (h : ∀ v' w', OwnL f size e w' base v' (xs ++ ys) → w.grownBy w' v.ownBlock → (v'.ownBlock = v.ownBlock ∨ v'.ownBlock = some w.heap.size) → wpListIn F n Tryz.prog ops Q rest (a.put o.dst v') w') : wpListIn F n Tryz.prog ops Q (o :: rest) a w := by
 refine wpListIn_plain hgd fun K1 hK => ?_
 obtain ⟨v', w', hrun, h2, h3, h4⟩ := run_app K w o.type base v xs hown A m c ys hr hn hbase
 unfold Oper.wpIn
 refine ⟨?_, ?_⟩
 ·simp [Oper.about, ho, resolve, Target.leads, Sem.run_pure]
 ·rw [Oper.semAt_plain F _ _ (by rw [ho]; intro c hc'; cases hc')]
  simp [execOp, ho, resolve, invoke, builtin, hs, hx, hrun, Result.andThen]
  exact hK _ _ (h v' w' h2 h3 h4)
end
/-- What the closure comes to. -/
def StepEnd (w0 : World) (D bq bR bY bS l : Nat) (A : Option Addr) (n c : Nat) (J Jx : (Nat → Prop) → List Rd → World → Prop) (pre : List Rd) (ms : List (List Int)) (b : List Int) (e : Ending) (W' : World) : Prop :=
 ∃ F' v' rb, SI w0 D bq bR bY bS l A n c F' W' v' b ∧ e = .returned (.bool rb) ∧ (rb = true → ∃ xs, xs.map Rd.r = ms ∧ J F' (pre ++ xs) W') ∧ (rb = false → ∃ xs, (∃ post, xs.map Rd.r ++ post = ms) ∧ Jx F' (pre ++ xs) W')
set_option maxRecDepth 100000 in
set_option maxHeartbeats 8000000 in
theorem step_leaf (w0 : World) (A : Option Addr) (n c : Nat) (lp : List Pf) (D bq bR bY bS l : Nat)
  (J Jx : (Nat → Prop) → List Rd → World → Prop)
  (hY : ∀ m F pre x A, J F pre A → GwR (lp.map Pf.q) pre x A → YieldAt Fence.wide m Tryz.prog l (encR x) A fun e B => ∃ F', Ro F F' A B ∧ ((e = .returned (.bool true) ∧ J F' (pre ++ [x]) B) ∨ (e = .returned (.bool false) ∧ Jx F' (pre ++ [x]) B)))
  (b : List Int) (pre : List Rd) (F : Nat → Prop) (v : Value) (W : World) (m : Nat) (hb : b.length = n) (hs : SI w0 D bq bR bY bS l A n c F W v b) (hj : J F pre W) (hp : ∃ post, pre.map Rd.r ++ [b] ++ post = reads (lp.map Pf.q)) :
  CallsIn Fence.wide m Tryz.prog 137 #[ptr bR, ptr bq, ptr bY, ptr bS] W (StepEnd w0 D bq bR bY bS l A n c J Jx pre [b] b) := by
 obtain ⟨Av, cv, rfl, hle, hcm, harr, hob⟩ := OwnL.arr kdI hs.o
 obtain ⟨post, hpost⟩ := hp
 obtain ⟨fn, tmps, assign, body, hy, hR⟩ := hY (m - 1) F pre ⟨Av, b.length, cv, b⟩ W hj ⟨harr, hle, hcm, post, by rw [← hpost, List.append_assoc]; rfl⟩
 have HS := Lib.hid hs
 have c0 := hs.r.cell 0
 have c1 := hs.q.cell 0
 have c2 := hs.y.cell 0
 have HB := Lib.hid hb
 obtain ⟨bl, hbl⟩ : ∃ k, b.length = k := ⟨_, rfl⟩
 rw [hbl] at hb c0 hy hR
 unfold encR at hy
 dsimp only at hy
 subst hb
 clear hs hj hpost hle hcm harr hob hY
 refine callsIn_of_wp Tryz.func137 rfl trivial ?_ rfl
 simp only [Tryz.ntmps137, List.size_toArray, List.length_cons, List.length_nil, Nat.reduceAdd, Nat.reduceSub, Array.replicate_succ, Array.replicate_zero, List.push_toArray, List.append_toArray, List.nil_append, List.cons_append]
 gi_wp2
 refine ⟨fun h => (by simp [Fence.wide] at h), hR.mono ?_⟩
 rintro e B ⟨F', hro, ⟨rfl, hj2⟩ | ⟨rfl, hj2⟩⟩
 ·have HRO := Lib.hid hro
  clear hR hy hro c0 c1 c2
  gi_wp2
  go_ret
  exact ⟨F', _, true, HS.out.round HRO.out, rfl, fun _ => ⟨_, rfl, hj2⟩, fun h => absurd h (by decide)⟩
 ·have HRO := Lib.hid hro
  clear hR hy hro c0 c1 c2
  gi_wp2
  go_ret
  exact ⟨F', _, false, HS.out.round HRO.out, rfl, fun h => absurd h (by decide), fun _ => ⟨_, ⟨[], rfl⟩, hj2⟩⟩
theorem flatR_take {c : List Qf} {k : Nat} {b per : List Int} {j : Nat} (hj : j < per.length) : ((per.take (j + 1)).filter fun n => fitB c b n).flatMap (fun n => moreK c k (b ++ [n])) =
  ((per.take j).filter fun n => fitB c b n).flatMap (fun n => moreK c k (b ++ [n])) ++ (if fitB c b (per.getD j 0) = true then moreK c k (b ++ [per.getD j 0]) else []) := by
 rw [take_snoc (d := 0) hj, List.filter_append, List.flatMap_append]
 by_cases h : fitB c b (per.getD j 0) = true
 ·rw [if_pos h, List.filter_cons, if_pos h]; simp
 ·rw [if_neg h, List.filter_cons, if_neg h]; simp
theorem flatR_split {c : List Qf} {k : Nat} {b per : List Int} {j : Nat} (hj : j < per.length) : (per.filter fun n => fitB c b n).flatMap (fun n => moreK c k (b ++ [n])) =
  ((per.take j).filter fun n => fitB c b n).flatMap (fun n => moreK c k (b ++ [n])) ++ (if fitB c b (per.getD j 0) = true then moreK c k (b ++ [per.getD j 0]) else []) ++ ((per.drop (j + 1)).filter fun n => fitB c b n).flatMap (fun n => moreK c k (b ++ [n])) := by
 rw [← flatR_take hj, ← List.flatMap_append, ← List.filter_append, List.take_append_drop]
theorem own_some {w : World} {base : Nat} {v : Value} {xs : List Int} (h : OwnL icells 1 3 w base v xs) (h0 : 0 < xs.length) : ∃ g cap, v = .slice (some ⟨g, 0, none⟩) xs.length cap ∧ xs.length ≤ cap := by
 obtain ⟨h1, ⟨rfl, h2⟩ | ⟨g, cap, cur, rfl, hb, hg, hn, -⟩⟩ := h
 ·omega
 ·exact ⟨g, cap, rfl, hn⟩
set_option maxRecDepth 100000 in
set_option maxHeartbeats 16000000 in
theorem step_any (w0 : World) (A : Option Addr) (n c : Nat) (lp : List Pf) (hpr : Prf w0 A n lp) (hn : n ≤ 1000) (D bq bR bY bS l : Nat) (hD : w0.heap.size ≤ D) (hR0 : w0.heap.size ≤ bR) (hRD : D ≤ bR)
  (J Jx : (Nat → Prop) → List Rd → World → Prop) (hJ : Abide D J) (hJx : Abide D Jx)
  (hY : ∀ m F pre x A, J F pre A → GwR (lp.map Pf.q) pre x A → YieldAt Fence.wide m Tryz.prog l (encR x) A fun e B => ∃ F', Ro F F' A B ∧ ((e = .returned (.bool true) ∧ J F' (pre ++ [x]) B) ∨ (e = .returned (.bool false) ∧ Jx F' (pre ++ [x]) B))) :
  ∀ (k : Nat) (b : List Int) (pre : List Rd) (F : Nat → Prop) (v : Value) (W : World) (m : Nat), b.length + k = n → SI w0 D bq bR bY bS l A n c F W v b → J F pre W → (∃ post, pre.map Rd.r ++ moreK (lp.map Pf.q) k b ++ post = reads (lp.map Pf.q)) →
  CallsIn Fence.wide m Tryz.prog 137 #[ptr bR, ptr bq, ptr bY, ptr bS] W (StepEnd w0 D bq bR bY bS l A n c J Jx pre (moreK (lp.map Pf.q) k b) b)
 | 0, b, pre, F, v, W, m, hb, hs, hj, hp => step_leaf w0 A n c lp D bq bR bY bS l J Jx hY b pre F v W m (by omega) hs hj hp
 | k + 1, b, pre, F, v, W, m, hb, hs, hj, hp => by
  have IH := fun (y : Int) (pre' : List Rd) (F' : Nat → Prop) (v' : Value) (W' : World) (m' : Nat) (h1 : SI w0 D bq bR bY bS l A n c F' W' v' (b ++ [y])) (h2 : J F' pre' W') (h3 : ∃ post, pre'.map Rd.r ++ moreK (lp.map Pf.q) k (b ++ [y]) ++ post = reads (lp.map Pf.q)) =>
   step_any w0 A n c lp hpr hn D bq bR bY bS l hD hR0 hRD J Jx hJ hJx hY k (b ++ [y]) pre' F' v' W' m' (by simp; omega) h1 h2 h3
  have hLen := hpr.len
  have hbn : b.length < n := by omega
  obtain ⟨Av, cv, rfl, hle, hcm, harr, hob⟩ := OwnL.arr kdI hs.o
  obtain ⟨post, hpost⟩ := hp
  have hPRW := hpr.below hs.data
  obtain ⟨pb0, po0, rfl, -, hpi, hpm, hpc⟩ := hPRW.at hbn
  obtain ⟨p, hpp⟩ : ∃ p, lp.getD b.length p0 = p := ⟨_, rfl⟩
  rw [hpp] at hpi hpm hpc
  have hpq : ((lp.map Pf.q).getD b.length q0) = p.q := by rw [map_pf (by rw [hLen]; exact hbn), hpp]
  obtain ⟨e0, e1, e2, e3, e4, e5, e6, e7, e8⟩ := hpc _ (Below.refl _ _)
  obtain ⟨pA, hpA⟩ : ∃ a, p.A = a := ⟨_, rfl⟩
  rw [hpA] at e2
  have HPI := Lib.hid (hpr.p p hpm)
  have HPA := Lib.hid (show Ints w0 pA p.n p.q.per by rw [← hpA]; exact (hpr.p p hpm).i)
  have hmk : moreK (lp.map Pf.q) (k + 1) b = (p.q.per.filter fun n => fitB (lp.map Pf.q) b n).flatMap fun n => moreK (lp.map Pf.q) k (b ++ [n]) := by
   show ((((lp.map Pf.q).getD b.length q0).per).filter _).flatMap _ = _
   rw [hpq]
  rw [hmk] at hpost ⊢
  have hplen := HPI.out.len
  have hpm2 := HPI.out.m
  have HS := Lib.hid hs
  have HJ0 := Lib.hid hj
  have HPOST := Lib.hid hpost
  have HIH := Lib.hid IH
  have HJA := Lib.hid hJ
  have HJXA := Lib.hid hJx
  have HPR := Lib.hid hpr
  have HPL := Lib.hid hplen
  have c0 := hs.r.cell 0
  have c1 := hs.q.cell 0
  have hbl : (b.length : Int) < (n : Int) := by omega
  have hbne : ((b.length : Int) == (n : Int)) = false := by simp; omega
  obtain ⟨bl, hbl2⟩ : ∃ k, b.length = k := ⟨_, rfl⟩
  have HBL := Lib.hid hbl2
  rw [hbl2] at c0 hbl hbne e0 e1 e2 e3 e4 e5 e6 e7 e8 hbn
  clear hs hj hpost hle hcm harr hob hY hJ hJx IH hpi hpm hpc hpp hpq hmk hpA hplen hbl2 hpr hPRW hb
  refine callsIn_of_wp Tryz.func137 rfl trivial ?_ rfl
  simp only [Tryz.ntmps137, List.size_toArray, List.length_cons, List.length_nil, Nat.reduceAdd, Nat.reduceSub, Array.replicate_succ, Array.replicate_zero, List.push_toArray, List.append_toArray, List.nil_append, List.cons_append]
  gi_wp2
  gi_loopw [23] (fun i wr => ∃ (j : Nat) (F' : Nat → Prop) (v' : Value) (xs : List Rd), i = .int .i64 j ∧ j ≤ p.n ∧ SI w0 D bq bR bY bS l (some ⟨pb0, po0, none⟩) n c F' wr v' b ∧ J F' (pre ++ xs) wr ∧ xs.map Rd.r = ((p.q.per.take j).filter fun n => fitB (lp.map Pf.q) b n).flatMap fun n => moreK (lp.map Pf.q) k (b ++ [n])) (fun i _ => p.n - (intOf i).toNat)
  case atStart => exact ⟨0, F, _, [], rfl, Nat.zero_le _, HS.out, by simpa using HJ0.out, by simp⟩
  case round =>
   obtain ⟨j, F', v', xs, rfl, hj, hs, hjj, hxs⟩ := hrel
   have HSR := Lib.hid hs
   have HJJ := Lib.hid hjj
   have HXS := Lib.hid hxs
   clear hxs hjj
   by_cases hjn : j < p.n
   ·have hwr2 : wrap64 ((j : Int) + 1) = (j : Int) + 1 := wrap_in (by omega)
    obtain ⟨b2, o2, rfl, -, -, hc2⟩ := ints_at (HPA.out.below hs.data) hjn
    have d0 := hc2 _ (Below.refl _ _)
    obtain ⟨y, hy⟩ : ∃ y, p.q.per.getD j 0 = y := ⟨_, rfl⟩
    rw [hy] at d0
    have HFT := Lib.hid (flatR_take (c := lp.map Pf.q) (k := k) (b := b) (per := p.q.per) (j := j) (by rw [HPL.out]; exact hjn))
    have HFS := Lib.hid (flatR_split (c := lp.map Pf.q) (k := k) (b := b) (per := p.q.per) (j := j) (by rw [HPL.out]; exact hjn))
    rw [hy] at HFT HFS
    obtain ⟨Av', cv', rfl, hle', hcm', harr', hob'⟩ := OwnL.arr kdI hs.o
    have c0 := hs.r.cell 0
    have c1 := hs.q.cell 0
    rw [HBL.out] at c0
    have TF := fits_any (some ⟨pb0, po0, none⟩) n c lp Av' bl cv' b y wr (HPR.out.below hs.data) hn (by rw [HBL.out] at harr'; exact harr') hbn
    obtain ⟨fv, hfv⟩ : ∃ s, fitB (lp.map Pf.q) b y = s := ⟨_, rfl⟩
    rw [hfv] at TF HFT HFS
    have HTF := Lib.hid TF
    clear hs hc2 hy TF hle' hcm' harr' hob' hfv e0 e1 e2 e3 e4 e5 e6 e7 e8
    have HN4 := Lib.hid (show (b ++ [y]).length = bl + 1 by rw [List.length_append, HBL.out]; rfl)
    have hw4 : wrap64 (((bl + 1 : Nat) : Int) - 1) = (bl : Int) := by rw [wrap_in (by omega)]; omega
    cases fv with
    | false =>
     gi_wp2_with (refine ⟨trivial, fun h => (by simp [Fence.wide] at h), ?_⟩; gi_at_call 127; refine (callsIn_wide.2 HTF.out).mono ?_; rintro e V ⟨rfl, hg⟩; have HG := Lib.hid hg; have HSV := Lib.hid (HSR.out.below hg); have HJV := Lib.hid (HJA.out _ _ _ _ HJJ.out (It.of_below hg)); clear hg c0 c1 d0)
     go_roundw
     case rel => exact ⟨j + 1, F', _, xs, by go_num, by omega, HSR.out.below HG.out, HJA.out _ _ _ _ HJJ.out (It.of_below HG.out), by rw [HXS.out, HFT.out, if_neg (by decide), List.append_nil]⟩
     case measure => simp [intOf]; omega
    | true =>
     have HPP := Lib.hid (show ∃ post, (pre ++ xs).map Rd.r ++ moreK (lp.map Pf.q) k (b ++ [y]) ++ post = reads (lp.map Pf.q) from ⟨_, by
      rw [List.map_append, HXS.out, ← HPOST.out, HFS.out, if_pos rfl]
      simp only [List.append_assoc]
      rfl⟩)
     gi_wp2_with (first
      | (refine ⟨trivial, fun h => (by simp [Fence.wide] at h), ?_⟩; gi_at_call 127; refine (callsIn_wide.2 HTF.out).mono ?_; rintro e V ⟨rfl, hg⟩; have HG := Lib.hid hg; have HSV := Lib.hid (HSR.out.below hg); have HJV := Lib.hid (HJA.out _ _ _ _ HJJ.out (It.of_below hg)); clear hg c0 c1 d0; have c0 := HSV.out.r.cell 0; have g1 := one_more V (.cells #[.int .i64 y] 3); have HSX := Lib.hid (HSV.out.below g1); have HJX := Lib.hid (HJA.out _ _ _ _ HJV.out (It.of_below g1)); have HI1 := Lib.hid (one_int (Blk.new V 3 #[.int .i64 y])); have HBL2 := Lib.hid (show b.length + 1 ≤ 1000000 by have := HBL.out; omega); have HDV := Lib.hid (show D ≤ (V.alloc (.cells #[.int .i64 y] 3)).heap.size by have := HSX.out.r.lt; omega); rw [HBL.out] at c0; clear g1)
      | (gi_at_builtin; go_loud (refine wpListIn_app kdI (by rfl) _ _ (by rfl) D _ b (by rfl) (by rw [← HBL.out]; exact HSX.out.o) _ 1 1 [y] (by rfl) HI1.out HBL2.out HDV.out ?_); intro v2 V2 ho2 hg2 hz2; obtain ⟨A2, k2, hv2, -, -, -, -⟩ := OwnL.arr kdI ho2; obtain ⟨n2, hn2⟩ : ∃ q, (b ++ [y]).length = q := ⟨_, rfl⟩; rw [hn2] at hv2; subst hv2; have HS3 := Lib.hid (HSX.out.store hR0 (by rw [HBL.out]; exact hg2) hD ho2 (by rw [HBL.out]; rcases hz2 with e | e; exact .inr (.inl e); exact .inr (.inr ⟨_, e, Nat.le_refl _⟩))); have HJ3 := Lib.hid (HJA.out _ _ _ _ HJX.out ((It.of_grown hg2 (fun r e => ⟨(own_block HSX.out.o (by rw [HBL.out]; exact e)).1, HSX.out.fo r (by rw [HBL.out]; exact e)⟩)).trans (It.setCell (p := ⟨bR, 0, none⟩) hRD HSX.out.fR (.slice A2 n2 k2)))); have b9 : Blk V2 bR 25 _ := (hg2.block bR HSX.out.r.lt (fun e => (HSX.out.ne.2.2.2 bR (by rw [HBL.out]; exact e.symm)).2.1 rfl)).trans HSX.out.r; have m0 := b9.cell 0; have m1 := b9.frozen 0; have m2 := HS3.out.s.cell 0; clear ho2 hg2 hz2 hn2 b9 c0)
      | (refine ⟨trivial, fun h => (by simp [Fence.wide] at h), ?_⟩; gi_at_call 137; refine (HIH.out y (pre ++ xs) F' _ _ _ HS3.out HJ3.out HPP.out).mono ?_; rintro e V4 ⟨F2, v3, rb, hs4, rfl, ht, hf⟩; have HS4 := Lib.hid hs4; have HRT := Lib.hid ht; have HRF := Lib.hid hf; obtain ⟨g3, k3, hv3, hk3⟩ := own_some hs4.o (by simp); subst hv3; have c0 := HS4.out.r.cell 0; have c1 := HS4.out.r.frozen 0; rw [HN4.out] at c0; have hkk : (bl : Int) ≤ (k3 : Int) := (by have h1 := hk3; rw [HN4.out] at h1; omega); clear hs4 ht hf hk3 m0 m1 m2))
     all_goals
      have HO5 := OwnL.front icells_len HS4.out.o (i := bl) (by rw [HN4.out]; omega)
      rw [show (b ++ [y]).take bl = b by rw [← HBL.out, List.take_left']; rfl] at HO5
      have HS5 := Lib.hid (HS4.out.store hR0 (World.grownBy.refl V4 _) hD HO5 (.inr (.inl rfl)))
      have HI5 := Lib.hid (It.setCell (D := D) (F := F2) (A := V4) (p := ⟨bR, 0, none⟩) hRD HS4.out.fR (.slice (some ⟨g3, 0, none⟩) bl k3))
      clear HO5
     ·have hrb : rb = false := by
       cases rb with
       | false => rfl
       | true => exfalso; simp at *
      obtain ⟨xs2, ⟨post2, hx2⟩, hj2⟩ := HRF.out hrb
      have HX2 := Lib.hid hx2
      have HJ5 := Lib.hid (HJXA.out _ _ _ _ hj2 HI5.out)
      clear hx2 hj2
      go_ret
      refine ⟨F2, _, false, HS5.out, rfl, fun h => absurd h (by decide), fun _ => ⟨xs ++ xs2, ⟨post2 ++ ((p.q.per.drop (j + 1)).filter fun n => fitB (lp.map Pf.q) b n).flatMap (fun n => moreK (lp.map Pf.q) k (b ++ [n])), ?_⟩, by rw [← List.append_assoc]; exact HJ5.out⟩⟩
      rw [List.map_append, HXS.out, HFS.out, if_pos trivial, ← HX2.out]
      simp only [List.append_assoc]
     ·have hrb : rb = true := by
       cases rb with
       | true => rfl
       | false => exfalso; simp at *
      obtain ⟨xs2, hx2, hj2⟩ := HRT.out hrb
      have HX2 := Lib.hid hx2
      have HJ5 := Lib.hid (HJA.out _ _ _ _ hj2 HI5.out)
      clear hx2 hj2
      go_roundw
      case rel => exact ⟨j + 1, F2, _, xs ++ xs2, by go_num, by omega, HS5.out, by rw [← List.append_assoc]; exact HJ5.out, by rw [List.map_append, HXS.out, HX2.out, HFT.out, if_pos trivial]⟩
      case measure => simp [intOf]; omega
   ·obtain rfl : j = p.n := by omega
    have HT := Lib.hid (show p.q.per.take p.n = p.q.per from List.take_of_length_le (by rw [HPL.out]; exact Nat.le_refl _))
    clear hs e0 e1 e2 e3 e4 e5 e6 e7 e8
    gi_wp2
    go_ret
    exact ⟨F', _, true, HSR.out, rfl, fun _ => ⟨xs, by rw [HXS.out, HT.out], HJJ.out⟩, fun h => absurd h (by decide)⟩
end Go.Proofs.YtehhlgdkhecacaaGreat

namespace Go.Proofs.YtehhlgdkhecacaaGreat
open Go.RowKit Go.Shelf
attribute [local go_sem] Oper.semAt_some
theorem three_more (w : World) (o o' o'' : Obj) : Below w.heap.size w (((w.alloc o).alloc o').alloc o'') := (((Below.refl _ w).alloc (Nat.le_refl _) o).alloc (by simp) o').alloc (by simp; omega) o''
set_option maxRecDepth 100000 in
set_option maxHeartbeats 8000000 in
theorem readings_seq (w0 : World) (A : Option Addr) (n c : Nat) (lp : List Pf) (hpr : Prf w0 A n lp) (hn : n ≤ 1000) (bq : Nat) (w : World) (hb : Below w0.heap.size w0 w) (hq : Blk w bq 22 #[.slice A n c]) :
  SeqW 136 #[ptr bq] encR (GwR (lp.map Pf.q)) (fun k => w0.heap.size ≤ k ∧ k ≠ bq) (fun xs => xs.map Rd.r = reads (lp.map Pf.q)) (fun pre => ∃ post, pre.map Rd.r ++ post = reads (lp.map Pf.q)) w := by
 intro m l J Jx W hW hJ hJx hY F0 hF0 hj0
 obtain ⟨W3, hW3⟩ : ∃ X, ((W.alloc (.cells #[.func (.yield l) #[] #[]] 149)).alloc (.cells #[.slice none 0 0] 25)).alloc (.cells #[stepF (W.heap.size + 1) bq W.heap.size (W.heap.size + 1 + 1)] 33) = X := ⟨_, rfl⟩
 have g3 : Below W.heap.size W W3 := by rw [← hW3]; exact three_more _ _ _ _
 have bY : Blk W3 W.heap.size 149 #[.func (.yield l) #[] #[]] := by rw [← hW3]; exact ((Blk.new _ _ _).alloc _).alloc _
 have bR : Blk W3 (W.heap.size + 1) 25 #[.slice none 0 0] := by
  rw [← hW3]; have := Blk.new (W.alloc (.cells #[.func (.yield l) #[] #[]] 149)) 25 #[.slice none 0 0]; rw [World.size_alloc] at this; exact this.alloc _
 have bS : Blk W3 (W.heap.size + 1 + 1) 33 #[stepF (W.heap.size + 1) bq W.heap.size (W.heap.size + 1 + 1)] := by
  rw [← hW3]; have := Blk.new ((W.alloc (.cells #[.func (.yield l) #[] #[]] 149)).alloc (.cells #[.slice none 0 0] 25)) 33 #[stepF (W.heap.size + 1) bq W.heap.size (W.heap.size + 1 + 1)]; rw [World.size_alloc, World.size_alloc] at this; exact this
 have hq' := hq.ext hW
 have hql := hq'.lt
 have hsi : SI w0 W.heap.size bq (W.heap.size + 1) W.heap.size (W.heap.size + 1 + 1) l A n c F0 W3 (.slice none 0 0) [] := by
  have hw0 : w0.heap.size ≤ W.heap.size := Nat.le_trans hb.size hW.size
  have h2 := g3.size
  exact ⟨(hb.trans (hW.mono hb.size)).trans (g3.mono hw0), hq'.ext g3, bR, bY, bS, OwnL.nil _ _, fun h => (hF0 _ h).2.2 rfl, fun h => by have := (hF0 _ h).1; omega, fun h => by have := (hF0 _ h).1; omega, fun h => by have := (hF0 _ h).1; omega, fun k hk => (by cases hk), fun k hk => (hF0 k hk).2.1, fun k hk => by have h1 := (hF0 k hk).1; omega⟩
 have hj3 : J F0 [] W3 := hJ _ _ _ _ hj0 (It.of_below g3)
 have T := step_any w0 A n c lp hpr hn W.heap.size bq (W.heap.size + 1) W.heap.size (W.heap.size + 1 + 1) l (Nat.le_trans hb.size hW.size) (by have := hb.size; have := hW.size; omega) (by omega) J Jx hJ hJx (fun m' F pre x X h1 h2 => yieldAt_wide (hY F pre x X h1 h2)) n [] [] F0 _ _ (m - 1) (by simp) hsi hj3 ⟨[], by
  have : (lp.map Pf.q).length = n := by rw [List.length_map]; exact hpr.len
  unfold reads
  rw [this]; simp⟩
 have HML := Lib.hid (show moreK (lp.map Pf.q) n [] = reads (lp.map Pf.q) by
  unfold reads
  rw [List.length_map, hpr.len])
 rw [HML.out] at T
 have HT := Lib.hid T
 have m3 := hsi.s.cell 0
 have HW3 := Lib.hid hW3
 clear hW3 g3 bY bR bS hq' hql hsi hj3 T hpr hq hb hW hJ hJx hY hF0 hj0 HML
 refine callsIn_of_wp Tryz.func136 rfl trivial ?_ rfl
 simp only [Tryz.ntmps136, List.size_toArray, List.length_cons, List.length_nil, Nat.reduceAdd, Nat.reduceSub, Array.replicate_succ, Array.replicate_zero, List.push_toArray, List.append_toArray, List.nil_append, List.cons_append]
 gi_wp2
 refine ⟨trivial, fun h => (by simp [Fence.wide] at h), ?_⟩
 rw [HW3.out]
 refine (HT.out).mono ?_
 rintro e V ⟨F, v, rb, -, rfl, ht, hf⟩
 have HF := Lib.hid hf
 have HTT := Lib.hid ht
 clear ht hf m3
 gi_wp2
 go_end0
 refine ⟨⟨_, rfl⟩, F, ?_⟩
 cases rb with
 | true => 
  obtain ⟨xs, h1, h2⟩ := HTT.out rfl
  exact .inl ⟨xs, h1, h2⟩
 | false =>
  obtain ⟨xs, h1, h2⟩ := HF.out rfl
  exact .inr ⟨xs, h1, h2⟩
/-- readings: an iterator over a box of the proofs. -/
theorem readings_any (A : Option Addr) (n c : Nat) (w : World) : Calls Tryz.prog 94 #[.slice A n c] w fun e w' => e = .returned (.func (.func 136) #[] #[ptr w.heap.size]) ∧ w.alloc (.cells #[.slice A n c] 22) = w' := by
 go_enter Tryz.func94, Tryz.ntmps94
 go_wp2
 go_ret
 exact ⟨rfl, rfl⟩
end Go.Proofs.YtehhlgdkhecacaaGreat

namespace Go.Proofs.YtehhlgdkhecacaaGreat
open Go.RowKit Go.Shelf
attribute [local go_sem] Oper.semAt_some
theorem It.below {D B : Nat} {F : Nat → Prop} {w X Y : World} (h : It D F X Y) (hb : Below B w X) (hD : B ≤ D) (hs : B ≤ w.heap.size) : Below B w Y :=
 ⟨h.os.trans hb.os, h.tape.trans hb.tape, h.output.trans hb.output, Nat.le_trans hb.size h.size, fun k hk => (h.low k (by have := hb.size; omega) (by omega)).trans (hb.block k hk)⟩
theorem isRead_false {c : List Qf} (h : reads c = []) : isRead c = false := by unfold isRead; rw [h]; rfl
theorem isRead_true {c : List Qf} {r : List Int} {l : List (List Int)} (h : r :: l = reads c) : isRead c = true := by unfold isRead; rw [← h]; rfl
theorem blk_second2 (w : World) (o : Obj) (t : TypeId) (cs : Array Value) : Blk ((w.alloc o).alloc (.cells cs t)) (w.heap.size + 1) t cs := by
 have := Blk.new (w.alloc o) t cs
 rwa [World.size_alloc] at this
/-- The end of a function behind such a loop. -/
theorem put_below {w X : World} {D : Nat} (h : Below w.heap.size w X) (hD : w.heap.size ≤ D) (o : Obj) : Below w.heap.size w (X.putObj D o) :=
 ⟨h.os, h.tape, h.output, by simpa using h.size, fun k hk => (World.putObj_heap_other (by omega)).trans (h.block k hk)⟩
set_option maxRecDepth 100000 in
set_option maxHeartbeats 8000000 in
theorem isRead_any (A : Option Addr) (n c : Nat) (l : List Pf) (w : World) (ha : Prf w A n l) (hn : n ≤ 1000) :
  Calls Tryz.prog 109 #[.slice A n c] w fun e w' => e = .returned (.bool (isRead (l.map Pf.q))) ∧ Below w.heap.size w w' := by
 obtain ⟨W2, hW2⟩ : ∃ X, (w.alloc (.cells #[.bool false] 4)).alloc (.cells #[.slice A n c] 22) = X := ⟨_, rfl⟩
 have g2 : Below w.heap.size w W2 := by rw [← hW2]; exact two_more _ _ _
 have b1 : Blk W2 w.heap.size 4 #[.bool false] := by rw [← hW2]; exact (Blk.new _ _ _).alloc _
 have b2 : Blk W2 (w.heap.size + 1) 22 #[.slice A n c] := by rw [← hW2]; exact blk_second2 _ _ _ _
 have hs2 : W2.heap.size = w.heap.size + 2 := by rw [← hW2]; simp
 have HSQ := Lib.hid (readings_seq w A n c l ha hn (w.heap.size + 1) W2 g2 b2)
 obtain ⟨cq, hcq⟩ : ∃ q, l.map Pf.q = q := ⟨_, rfl⟩
 rw [hcq] at HSQ ⊢
 obtain ⟨rb, hrb⟩ : ∃ s, isRead cq = s := ⟨_, rfl⟩
 rw [hrb]
 have HRB := Lib.hid hrb
 have HG2 := Lib.hid g2
 have HB1 := Lib.hid b1
 have HS2 := Lib.hid hs2
 have HW2 := Lib.hid hW2
 clear hcq ha g2 b1 b2 hs2 hW2 hrb
 refine (callsIn_wide (n := 4)).1 ?_
 refine callsIn_of_wp_marks Tryz.func109 rfl trivial ?_ rfl
 simp only [Tryz.ntmps109, List.size_toArray, List.length_cons, List.length_nil, Nat.reduceAdd, Nat.reduceSub, Array.replicate_succ, Array.replicate_zero, List.push_toArray, List.append_toArray, List.nil_append, List.cons_append]
 gi_wp2_with fail
 refine ⟨trivial, (callsIn_wide.2 (readings_any _ _ _ _)).mono ?_⟩
 rintro e w' ⟨rfl, hw'⟩
 rw [HW2.out] at hw'
 subst hw'
 rw [World.size_alloc]
 gi_wp2_with fail
 refine wp_rangeW (α := Rd) (n := 4) (by omega) (gf := 136) (lb := #[ptr (w.heap.size + 1)]) rfl (enters_of Tryz.func136 (by kernel_rfl) rfl) HSQ.out (Below.refl _ _) (fun _ => rfl)
  (fun F pre W => F w.heap.size ∧ pre = [] ∧ Blk W w.heap.size 4 #[.bool false] ∧ Below w.heap.size w W) (fun cd F pre W => cd = .ret ∧ pre ≠ [] ∧ Blk W w.heap.size 4 #[.bool true] ∧ Below w.heap.size w W) ?hI ?hIx
  (fun pre x l o A hl h hr => gwR_put o h hr) (fun k hk => by have := HS2.out; omega) (fun k => k = w.heap.size) (fun k hk => by have := HS2.out; omega) ⟨rfl, rfl, HB1.out, HG2.out⟩
  (fun x a' => a' = { tmps := #[.slice A n c, undef, ptr w.heap.size, .slice A n c, .func (.func 136) #[] #[ptr (w.heap.size + 1)], .slice x.A x.n x.c], defers := [] }) ?assign ?body ?done ?stop
 case hI =>
  rintro F s X Y ⟨h1, h2, h3, h4⟩ hi
  exact ⟨h1, h2, hi.blk h3 (.inr h1), hi.below h4 (by have := HS2.out; omega) (Nat.le_refl _)⟩
 case hIx =>
  rintro cd F s X Y ⟨h1, h2, h3, h4⟩ hi
  exact ⟨h1, h2, hi.blk h3 (.inl (by have := HS2.out; omega)), hi.below h4 (by have := HS2.out; omega) (Nat.le_refl _)⟩
 case assign =>
  rintro l x X K hK
  unfold encR
  gi_wp2
  simp
 case body =>
  rintro l F pre x a' X hl - ⟨h1, h2, h3, h4⟩ - rfl
  have HF := Lib.hid h1
  have HB3 := Lib.hid h3
  have HG4 := Lib.hid h4
  have c0 := h3.cell 0
  have c1 := h3.frozen 0
  clear h1 h2 h3 h4
  gi_wp2
  exact ⟨F, Ro.setCell (p := ⟨w.heap.size, 0, none⟩) HF.out _, rfl, by simp, HB3.out.set_ 0 _, HG4.out.setCell (p := ⟨w.heap.size, 0, none⟩) (Nat.le_refl _) _⟩
 case done =>
  rintro D F xs X hD hS ⟨h1, rfl, h3, h4⟩ hK
  obtain rfl : rb = false := HRB.out.symm.trans (isRead_false (c := cq) hS.symm)
  have hne : w.heap.size ≠ D := by have := HS2.out; omega
  have c0 := h3.cell 0
  have c1 := h3.frozen 0
  have t0 := ((h3.set_ 0 (.bool false)).putObj hne (.deferred none)).cell 0
  have HK := Lib.hid (show (X.setCell ⟨w.heap.size, 0, none⟩ (.bool false)).heap[D]? = some (.deferred (some [])) from (Below.heap_setCell _ _ _ _ (fun e => hne e.symm)).trans hK)
  have HG5 := Lib.hid (put_below (h4.setCell (p := ⟨w.heap.size, 0, none⟩) (Nat.le_refl _) (.bool false)) (D := D) (by have := HS2.out; omega) (.deferred none))
  clear h1 h3 h4 hK hS
  gi_wp2
  refine ⟨by simp, .inl ⟨_, _, rfl, run_takeDeferred HK.out, ?_⟩⟩
  refine ⟨.bool false, ?_, rfl, HG5.out⟩
  simp [results, Tryz.results109, go_sem, t0]
 case stop =>
  rintro D F cd pre X hD ⟨post, hS⟩ ⟨rfl, hne0, h3, h4⟩ hK
  have hr : isRead cq = true := by
   cases pre with
   | nil => exact absurd rfl hne0
   | cons x pre => exact isRead_true hS
  obtain rfl : rb = true := HRB.out.symm.trans hr
  have hne : w.heap.size ≠ D := by have := HS2.out; omega
  have t0 := (h3.putObj hne (.deferred none)).cell 0
  have HK := Lib.hid hK
  have HG5 := Lib.hid (put_below h4 (D := D) (by have := HS2.out; omega) (.deferred none))
  clear h3 h4 hK hS hr
  gi_wp2
  refine ⟨by simp, .inl ⟨_, _, rfl, run_takeDeferred HK.out, ?_⟩⟩
  refine ⟨.bool true, ?_, rfl, HG5.out⟩
  simp [results, Tryz.results109, go_sem, t0]
end Go.Proofs.YtehhlgdkhecacaaGreat

namespace Go.Proofs.YtehhlgdkhecacaaGreat
open Go.RowKit Go.Shelf
attribute [local go_sem] Oper.semAt_some
/-- A look at one day, as a caller has it. -/
theorem look_one (A : Option Addr) (n c : Nat) (l : List Pf) (known : Int) (w : World) (ha : Prf w A n l) (hn : n ≤ 9223372036854775807) :
  Calls Tryz.prog 73 #[.slice A n c, .slice (some ⟨w.heap.size, 0, none⟩) 1 1] (w.alloc (.cells #[.int .i64 known] 3)) fun e w' =>
   ∃ v, e = .returned (.tuple #[v, .int .i64 (lookE (l.map Pf.q) [known])]) ∧ Below w.heap.size w w' ∧ (lookE (l.map Pf.q) [known] = 0 → ∃ D k d fl, v = .slice D k d ∧ fl.map Pf.q = cntL (l.map Pf.q) known ∧ Prf w' D k fl ∧ k ≤ 60 ∧ k ≤ d ∧ OwnL pcells 9 56 w' w.heap.size v fl ∧ fl.Sublist l ∧ okL (l.map Pf.q) = true) ∧ (lookE (l.map Pf.q) [known] ≠ 0 → v = .slice none 0 0) := by
 have g1 : Below w.heap.size w (w.alloc (.cells #[.int .i64 known] 3)) := one_more _ _
 have b1 : Blk (w.alloc (.cells #[.int .i64 known] 3)) w.heap.size 3 #[.int .i64 known] := Blk.new _ _ _
 refine (look_any A n c l (some ⟨w.heap.size, 0, none⟩) 1 1 [known] _ (ha.below g1) hn (one_int b1) (by decide) (by decide)).mono ?_
 rintro e w' ⟨⟨v, rfl, h1, h2⟩, hg⟩
 have hgw : Below w.heap.size w w' := g1.trans (hg.mono g1.size)
 refine ⟨v, rfl, hgw, fun h => ?_, h2⟩
 have ho := h1 h
 rw [show ([known] : List Int).getD (([known] : List Int).length - 1) 0 = known from rfl] at ho
 have hok : okL (l.map Pf.q) = true := by
  unfold lookE at h
  by_cases ho : okL (l.map Pf.q) = true
  ·exact ho
  ·rw [if_neg ho] at h; exact absurd h (by decide)
 obtain ⟨D, d, rfl, hd1, -, hp⟩ := own_prf ho (fun p hp => (ha.p p (List.mem_filter.1 hp).1).below hgw)
 have hl := okL_len hok
 rw [List.length_map] at hl
 exact ⟨D, _, d, _, rfl, filt_map l (fun q => cnt q known), hp, Nat.le_trans (List.length_filter_le _ _) hl, hd1, ho.mono g1.size, List.filter_sublist, hok⟩
theorem more_len {c : List Qf} : ∀ (k : Nat) (b : List Int), b.length + k = c.length → (∀ q ∈ c, q.per.length ≤ 4) → (moreK c k b).length ≤ (((c.drop b.length).map fun q => q.per.length).foldr (· * ·) 1)
 | 0, b, h, _ => by
  unfold moreK
  rw [List.drop_of_length_le (by omega)]
  simp
 | k + 1, b, h, hq => by
  unfold moreK
  rw [List.length_flatMap]
  have hb : b.length < c.length := by omega
  have e : c.drop b.length = c.getD b.length q0 :: c.drop (b.length + 1) := by
   rw [List.drop_eq_getElem_cons hb, List.getD_eq_getElem?_getD, List.getElem?_eq_getElem hb]; rfl
  rw [e, List.map_cons, List.foldr_cons]
  have ih : ∀ n, (moreK c k (b ++ [n])).length ≤ (((c.drop (b.length + 1)).map fun q => q.per.length).foldr (· * ·) 1) := fun n => by
   have := more_len k (b ++ [n]) (by simp; omega) hq
   rwa [List.length_append] at this
  generalize (((c.drop (b.length + 1)).map fun q => q.per.length).foldr (· * ·) 1) = M at ih ⊢
  have key : ∀ ns : List Int, (ns.map fun n => (moreK c k (b ++ [n])).length).sum ≤ ns.length * M := fun ns => by
   induction ns with
   | nil => simp
   | cons n ns ih2 =>
    rw [List.map_cons, List.sum_cons, List.length_cons, Nat.succ_mul]
    have := ih n
    omega
  exact Nat.le_trans (key _) (Nat.mul_le_mul_right _ (List.length_filter_le _ _))
theorem foldr_mul (l : List Nat) : ∀ m, l.foldl (· * ·) m = m * l.foldr (· * ·) 1 := by
 induction l with
 | nil => intro m; simp
 | cons x l ih => intro m; rw [List.foldl_cons, ih, List.foldr_cons, Nat.mul_assoc]
theorem many_filter : ∀ (l : List Qf) (f : Qf → Bool), (∀ q ∈ l, 1 ≤ q.per.length) → ((l.filter f).map fun q => q.per.length).foldr (· * ·) 1 ≤ (l.map fun q => q.per.length).foldr (· * ·) 1
 | [], _, _ => Nat.le_refl _
 | q :: l, f, h => by
  have ih := many_filter l f fun x hx => h x (List.mem_cons_of_mem _ hx)
  have hq := h q (by simp)
  rw [List.filter_cons]
  by_cases e : f q = true
  ·rw [if_pos e]
   exact Nat.mul_le_mul_left _ ih
  ·rw [if_neg e, List.map_cons, List.foldr_cons]
   exact Nat.le_trans ih (Nat.le_mul_of_pos_left _ hq)
theorem reads_len {l : List Qf} (h : okL l = true) (known : Int) : (reads (cntL l known)).length ≤ 2000 := by
 have hall := okL_all h
 have h1 : manyL l ≤ 2000 := by
  unfold okL at h
  simp only [Bool.and_eq_true, decide_eq_true_eq] at h
  exact h.1.2
 unfold manyL at h1
 rw [foldr_mul, Nat.one_mul] at h1
 have h2 := more_len (c := cntL l known) (cntL l known).length [] (by simp) (fun q hq => (isQf_per (hall q (List.mem_filter.1 hq).1)).2)
 unfold reads
 exact Nat.le_trans h2 (Nat.le_trans (many_filter l _ fun q hq => (isQf_per (hall q hq)).1) h1)
end Go.Proofs.YtehhlgdkhecacaaGreat

namespace Go.Proofs.YtehhlgdkhecacaaGreat
open Go.RowKit Go.Shelf
attribute [local go_sem] Oper.semAt_some
/-- What Readings returns. -/
def rdsN (l : List Qf) (known : Int) : Int := if lookE l [known] = 0 then (reads (cntL l known)).length else 0
set_option maxRecDepth 100000 in
set_option maxHeartbeats 8000000 in
theorem readingsF_any (A : Option Addr) (n c : Nat) (l : List Pf) (known : Int) (w : World) (ha : Prf w A n l) (hn : n ≤ 9223372036854775807) :
  Calls Tryz.prog 41 #[.slice A n c, .int .i64 known] w fun e w' => e = .returned (.tuple #[.int .i64 (rdsN (l.map Pf.q) known), .int .i64 (lookE (l.map Pf.q) [known])]) ∧ Below w.heap.size w w' := by
 have T := look_one A n c l known w ha hn
 have HRL := Lib.hid (fun (h : okL (l.map Pf.q) = true) => reads_len h known)
 have HRN := Lib.hid (show rdsN (l.map Pf.q) known = if lookE (l.map Pf.q) [known] = 0 then ((reads (cntL (l.map Pf.q) known)).length : Int) else 0 from rfl)
 obtain ⟨rn, hrn⟩ : ∃ s, rdsN (l.map Pf.q) known = s := ⟨_, rfl⟩
 obtain ⟨le, hle⟩ : ∃ s, lookE (l.map Pf.q) [known] = s := ⟨_, rfl⟩
 rw [hrn, hle] at HRN
 rw [hle] at T
 rw [hrn, hle]
 have HT := Lib.hid T
 clear T ha hrn hle
 by_cases hz : le = 0
 ·subst hz
  have hrn := HRN.out
  rw [if_pos rfl] at hrn
  have HRV := Lib.hid hrn
  clear hrn HRN
  refine (callsIn_wide (n := 4)).1 (callsIn_of_wp_marks Tryz.func41 rfl trivial ?_ rfl)
  simp only [Tryz.ntmps41, List.size_toArray, List.length_cons, List.length_nil, Nat.reduceAdd, Nat.reduceSub, Array.replicate_succ, Array.replicate_zero, List.push_toArray, List.append_toArray, List.nil_append, List.cons_append]
  gi_wp2_with fail
  refine ⟨trivial, (callsIn_wide.2 HT.out).mono ?_⟩
  rintro e V ⟨v, rfl, hg, h1, -⟩
  obtain ⟨D, k, d, fl, rfl, hfq, hp, hk60, -, -, -, hok⟩ := h1 (by trivial)
  obtain ⟨W2, hW2⟩ : ∃ X, (V.alloc (.cells #[.int .i64 0] 3)).alloc (.cells #[.slice D k d] 22) = X := ⟨_, rfl⟩
  have g2 : Below V.heap.size V W2 := by rw [← hW2]; exact two_more _ _ _
  have b1 : Blk W2 V.heap.size 3 #[.int .i64 0] := by rw [← hW2]; exact (Blk.new _ _ _).alloc _
  have b2 : Blk W2 (V.heap.size + 1) 22 #[.slice D k d] := by rw [← hW2]; exact blk_second2 _ _ _ _
  have hs2 : W2.heap.size = V.heap.size + 2 := by rw [← hW2]; simp
  have HSQ := Lib.hid (readings_seq V D k d fl hp (by omega) (V.heap.size + 1) W2 g2 b2)
  rw [hfq] at HSQ
  have hrl := HRL.out hok
  obtain ⟨cq, hcq⟩ : ∃ q, cntL (l.map Pf.q) known = q := ⟨_, rfl⟩
  rw [hcq] at HSQ hrl HRV
  have HRL2 := Lib.hid hrl
  have HGV := Lib.hid hg
  have HG2 := Lib.hid g2
  have HB1 := Lib.hid b1
  have HS2 := Lib.hid hs2
  have HW2 := Lib.hid hW2
  clear hcq hp hfq g2 b1 b2 hs2 hW2 h1 hok HRL HT hrl hg
  gi_wp2_with fail
  refine ⟨trivial, (callsIn_wide.2 (readings_any _ _ _ _)).mono ?_⟩
  rintro e w' ⟨rfl, hw'⟩
  rw [HW2.out] at hw'
  subst hw'
  rw [World.size_alloc]
  gi_wp2_with fail
  have HBL := Lib.hid (show V.heap.size < W2.heap.size by have := HS2.out; omega)
  refine wp_rangeW (α := Rd) (n := 4) (by omega) (gf := 136) (lb := #[ptr (V.heap.size + 1)]) rfl (enters_of Tryz.func136 (by kernel_rfl) rfl) HSQ.out (Below.refl _ _) (fun _ => rfl)
   (fun F pre W => F V.heap.size ∧ Blk W V.heap.size 3 #[.int .i64 pre.length] ∧ Below V.heap.size V W) (fun cd F pre W => False) ?hI ?hIx
   (fun pre x l o A hl h hr => gwR_put o h hr) (fun k hk => by have := HS2.out; omega) (fun k => k = V.heap.size) (fun k hk => by have := HS2.out; omega) ⟨rfl, HB1.out, HG2.out⟩
   (fun x a' => a' = { tmps := #[.slice A n c, .int .i64 known, undef, undef, .int .i64 0, .int .i64 0, .slice D k d, .int .i64 0, ptr V.heap.size, .tuple #[.slice D k d, .int .i64 0], .slice A n c, .int .i64 known, .slice (some ⟨w.heap.size, 0, none⟩) 1 1, .tuple #[.slice D k d, .int .i64 0], .slice D k d, .int .i64 0, .int .i64 0, .bool false, undef, .slice D k d, .func (.func 136) #[] #[ptr (V.heap.size + 1)], .slice x.A x.n x.c, undef, undef, undef], defers := [] }) ?assign ?body ?done ?stop
  case hI =>
   rintro F s X Y ⟨h1, h3, h4⟩ hi
   exact ⟨h1, hi.blk h3 (.inr h1), hi.below h4 (by have := HS2.out; omega) (Nat.le_refl _)⟩
  case hIx => exact fun cd F s X Y h _ => h
  case assign =>
   rintro l x X K hK
   unfold encR
   gi_wp2
   simp
  case body =>
   rintro l F pre x a' X hl - ⟨h1, h3, h4⟩ ⟨-, -, -, post, hpo⟩ rfl
   have hlen : pre.length + 1 ≤ 2000 := by
    have := congrArg List.length hpo
    rw [List.length_append, List.length_map, List.length_cons] at this
    have := HRL2.out
    omega
   obtain ⟨pl, hpl⟩ : ∃ q, pre.length = q := ⟨_, rfl⟩
   rw [hpl] at hlen h3
   have hwr : wrap64 ((pl : Int) + 1) = (pl : Int) + 1 := wrap_in (by omega)
   have HPL := Lib.hid hpl
   have HF := Lib.hid h1
   have HB3 := Lib.hid h3
   have HG4 := Lib.hid h4
   have c0 := h3.cell 0
   have c1 := h3.frozen 0
   clear h1 h3 h4 hpo hpl
   gi_wp2
   refine ⟨F, Ro.setCell (p := ⟨V.heap.size, 0, none⟩) HF.out _, HF.out, ?_, HG4.out.setCell (p := ⟨V.heap.size, 0, none⟩) (Nat.le_refl _) _⟩
   rw [List.length_append, List.length_singleton, HPL.out]
   have := HB3.out.set_ 0 (.int .i64 ((pl : Int) + 1))
   exact this
  case done =>
   rintro E F xs X hD hS ⟨h1, h3, h4⟩ hK
   have hl : (xs.length : Int) = rn := by
    rw [HRV.out, ← hS, List.length_map]
   rw [hl] at h3
   have hne : V.heap.size ≠ E := by have := HBL.out; omega
   have c0 := h3.cell 0
   have HK := Lib.hid hK
   have HG5 := Lib.hid (HGV.out.trans ((put_below h4 (D := E) (by have := HBL.out; omega) (.deferred none)).mono HGV.out.size))
   clear h1 h3 h4 hK hS hl
   gi_wp2
   refine ⟨by simp, .inl ⟨_, _, rfl, run_takeDeferred HK.out, ?_⟩⟩
   refine ⟨.tuple #[.int .i64 rn, .int .i64 0], ?_, rfl, HG5.out⟩
   simp [results, Tryz.results41, go_sem]
  case stop => exact fun E F cd pre X _ _ h _ => h.elim
 ·have hzb : (le != 0) = true := by simpa using hz
  have hrn := HRN.out
  rw [if_neg hz] at hrn
  subst hrn
  have HZ := Lib.hid hz
  clear hz
  go_enter Tryz.func41, Tryz.ntmps41
  go_wp2_with (go_at_call 73; (with_reducible refine (HT.out).mono ?_); rintro e V ⟨v, rfl, hg, -, -⟩; have GV := Lib.hid hg; clear hg)
  go_ret2
  exact ⟨rfl, GV.out⟩
end Go.Proofs.YtehhlgdkhecacaaGreat

namespace Go.Proofs.YtehhlgdkhecacaaGreat
open Go.RowKit Go.Shelf
attribute [local go_sem] Oper.semAt_some
theorem own_it {α : Type} {f : α → List Value} {size : Nat} {e : TypeId} {D : Nat} {F : Nat → Prop} {X Y : World} {base : Nat} {v : Value} {xs : List α} (h : OwnL f size e X base v xs) (hi : It D F X Y) (hF : ∀ k, v.ownBlock = some k → F k) : OwnL f size e Y base v xs := by
 obtain ⟨h1, h2 | ⟨g, cap, cur, hv, hb, hg, h4⟩⟩ := h
 ·exact ⟨h1, .inl h2⟩
 ·exact ⟨h1, .inr ⟨g, cap, cur, hv, hb, (hi.mine g (Array.getElem?_eq_some_iff.1 hg).1 (hF g (by rw [hv]; rfl))).trans hg, h4⟩⟩
theorem own_far {α : Type} {f : α → List Value} {size : Nat} {e : TypeId} {X : World} {base : Nat} {v : Value} {xs : List α} (h : OwnL f size e X base v xs) {p : Addr} (hp : ∀ k, v.ownBlock = some k → k ≠ p.block) (u : Value) : OwnL f size e (X.setCell p u) base v xs := by
 obtain ⟨h1, h2 | ⟨g, cap, cur, hv, hb, hg, h4⟩⟩ := h
 ·exact ⟨h1, .inl h2⟩
 ·exact ⟨h1, .inr ⟨g, cap, cur, hv, hb, (Below.heap_setCell _ _ _ _ (hp g (by rw [hv]; rfl))).trans hg, h4⟩⟩
theorem ro_more {F G : Nat → Prop} {A B : World} (h : Ro F F A B) (hG : ∀ k, G k → A.heap.size ≤ k ∧ k < B.heap.size) : Ro F (fun k => F k ∨ G k) A B :=
 ⟨h.os, h.tape, h.output, h.size, h.keep, fun k hk => by
  rcases hk with hk | hk
  ·exact .inl hk
  ·exact .inr (hG k hk)⟩
theorem own_put {α : Type} {f : α → List Value} {size : Nat} {e : TypeId} {X : World} {base : Nat} {v : Value} {xs : List α} (h : OwnL f size e X base v xs) {D : Nat} (hD : ∀ k, v.ownBlock = some k → k ≠ D) (o : Obj) : OwnL f size e (X.putObj D o) base v xs := by
 obtain ⟨h1, h2 | ⟨g, cap, cur, hv, hb, hg, h4⟩⟩ := h
 ·exact ⟨h1, .inl h2⟩
 ·exact ⟨h1, .inr ⟨g, cap, cur, hv, hb, (World.putObj_heap_other (hD g (by rw [hv]; rfl))).trans hg, h4⟩⟩
/-- The error of Reading, and what it returns. -/
def rdE (l : List Qf) (known k : Int) : Int := if lookE l [known] = 0 then (if 0 ≤ k ∧ k < (reads (cntL l known)).length then 0 else 3) else lookE l [known]
def rdV (l : List Qf) (known k : Int) : List Int := if rdE l known k = 0 then (reads (cntL l known)).getD k.toNat [] else []
def RdEnd (l : List Qf) (known k : Int) (w : World) (e : Ending) (w' : World) : Prop :=
 (∃ D m d, e = .returned (.tuple #[.slice D m d, .int .i64 (rdE l known k)]) ∧ m ≤ d ∧ d ≤ maxLen ∧ Ints w' D m (rdV l known k)) ∧ Below w.heap.size w w'
theorem rdEnd_no {l : List Qf} {known k x : Int} {w V : World} (h : rdE l known k = x) (hx : x ≠ 0) (hg : Below w.heap.size w V) : RdEnd l known k w (.returned (.tuple #[.slice none 0 0, .int .i64 x])) V :=
 ⟨⟨_, _, _, by rw [h], Nat.le_refl _, Nat.zero_le _, by unfold rdV; rw [if_neg (fun e => hx (h.symm.trans e))]; exact Arr.nil_⟩, hg⟩
theorem rdEnd_ok {l : List Qf} {known k : Int} {w V : World} {D : Option Addr} {m d : Nat} (h : rdE l known k = 0) (h1 : m ≤ d) (h2 : d ≤ maxLen) (hi : Ints V D m ((reads (cntL l known)).getD k.toNat [])) (hg : Below w.heap.size w V) : RdEnd l known k w (.returned (.tuple #[.slice D m d, .int .i64 0])) V :=
 ⟨⟨_, _, _, by rw [h], h1, h2, by unfold rdV; rw [if_pos h]; exact hi⟩, hg⟩
/-- What a round that says 'no more' leaves: the count and the reading that was sought. -/
def RdStop (cq : List Qf) (nth : Int) (B : Nat) (F : Nat → Prop) (W : World) : Prop :=
 (nth < 0 ∧ Blk W B 3 #[.int .i64 0] ∧ Blk W (B + 1) 25 #[.slice none 0 0]) ∨
 (0 ≤ nth ∧ nth < (reads cq).length ∧ Blk W B 3 #[.int .i64 (nth + 1)] ∧ ∃ D m d, Blk W (B + 1) 25 #[.slice D m d] ∧ m ≤ d ∧ d ≤ maxLen ∧ OwnL icells 1 3 W B (.slice D m d) ((reads cq).getD nth.toNat []) ∧ ∀ k, Value.ownBlock (.slice D m d) = some k → F k)
theorem RdStop.it {cq : List Qf} {nth : Int} {B D : Nat} {F : Nat → Prop} {X Y : World} (h : RdStop cq nth B F X) (h1 : F B) (h2 : F (B + 1)) (hi : It D F X Y) : RdStop cq nth B F Y := by
 rcases h with ⟨a, b, c⟩ | ⟨a, a2, b, E, m, d, c, e1, e2, o, f⟩
 ·exact .inl ⟨a, hi.blk b (.inr h1), hi.blk c (.inr h2)⟩
 ·exact .inr ⟨a, a2, hi.blk b (.inr h1), E, m, d, hi.blk c (.inr h2), e1, e2, own_it o hi f, f⟩
set_option maxRecDepth 100000 in
set_option maxHeartbeats 8000000 in
theorem readingF_any (A : Option Addr) (n c : Nat) (l : List Pf) (known nth : Int) (w : World) (ha : Prf w A n l) (hn : n ≤ 9223372036854775807) :
  Calls Tryz.prog 44 #[.slice A n c, .int .i64 known, .int .i64 nth] w (RdEnd (l.map Pf.q) known nth w) := by
 obtain ⟨W1, hW1⟩ : ∃ X, w.alloc (.cells #[.int .i64 nth] 3) = X := ⟨_, rfl⟩
 have g1 : Below w.heap.size w W1 := by rw [← hW1]; exact one_more _ _
 have bn1 : Blk W1 w.heap.size 3 #[.int .i64 nth] := by rw [← hW1]; exact Blk.new _ _ _
 have hs1 : W1.heap.size = w.heap.size + 1 := by rw [← hW1]; simp
 have T := look_one A n c l known W1 (ha.below g1) hn
 rw [hs1] at T
 have HRL := Lib.hid (fun (h : okL (l.map Pf.q) = true) => reads_len h known)
 have HRN := Lib.hid (show rdE (l.map Pf.q) known nth = if lookE (l.map Pf.q) [known] = 0 then (if 0 ≤ nth ∧ nth < (reads (cntL (l.map Pf.q) known)).length then 0 else 3) else lookE (l.map Pf.q) [known] from rfl)
 have HREQ := Lib.hid (fun (x : Int) (h : rdE (l.map Pf.q) known nth = x) => h)
 obtain ⟨le, hle⟩ : ∃ s, lookE (l.map Pf.q) [known] = s := ⟨_, rfl⟩
 rw [hle] at HRN
 rw [hle] at T
 have HT := Lib.hid T
 have HBN1 := Lib.hid bn1
 have G1 := Lib.hid g1
 have HW1 := Lib.hid hW1
 have HS1 := Lib.hid hs1
 clear T ha hle bn1 g1 hW1 hs1
 by_cases hz : le = 0
 ·subst hz
  have hrn := HRN.out
  rw [if_pos rfl] at hrn
  have HRV := Lib.hid hrn
  clear hrn HRN
  refine (callsIn_wide (n := 4)).1 (callsIn_of_wp_marks Tryz.func44 rfl trivial ?_ rfl)
  simp only [Tryz.ntmps44, List.size_toArray, List.length_cons, List.length_nil, Nat.reduceAdd, Nat.reduceSub, Array.replicate_succ, Array.replicate_zero, List.push_toArray, List.append_toArray, List.nil_append, List.cons_append]
  gi_wp2_with fail
  rw [HW1.out]
  refine wpIn_wide.2 (wp_scope_straight ((wpIn_wide (n := 4)).1 ?_))
  gi_wp2_with fail
  rw [HS1.out]
  refine ⟨trivial, (callsIn_wide.2 HT.out).mono ?_⟩
  rintro e V ⟨v, rfl, hg, h1, -⟩
  obtain ⟨D, k, d, fl, rfl, hfq, hp, hk60, -, -, -, hok⟩ := h1 (by trivial)
  rw [← HS1.out] at hg
  obtain ⟨W2, hW2⟩ : ∃ X, ((V.alloc (.cells #[.int .i64 0] 3)).alloc (.cells #[.slice none 0 0] 25)).alloc (.cells #[.slice D k d] 22) = X := ⟨_, rfl⟩
  have g2 : Below V.heap.size V W2 := by rw [← hW2]; exact three_more _ _ _ _
  have b1 : Blk W2 V.heap.size 3 #[.int .i64 0] := by rw [← hW2]; exact ((Blk.new _ _ _).alloc _).alloc _
  have b0 : Blk W2 (V.heap.size + 1) 25 #[.slice none 0 0] := by rw [← hW2]; exact (blk_second2 _ _ _ _).alloc _
  have b2 : Blk W2 (V.heap.size + 1 + 1) 22 #[.slice D k d] := by
   rw [← hW2]; have := Blk.new ((V.alloc (.cells #[.int .i64 0] 3)).alloc (.cells #[.slice none 0 0] 25)) 22 #[.slice D k d]; rw [World.size_alloc, World.size_alloc] at this; exact this
  have hs2 : W2.heap.size = V.heap.size + 3 := by rw [← hW2]; simp
  have HSQ := Lib.hid (readings_seq V D k d fl hp (by omega) (V.heap.size + 1 + 1) W2 g2 b2)
  rw [hfq] at HSQ
  have hrl := HRL.out hok
  obtain ⟨cq, hcq⟩ : ∃ q, cntL (l.map Pf.q) known = q := ⟨_, rfl⟩
  rw [hcq] at HSQ hrl HRV
  have HCQ := Lib.hid hcq
  have hcl : cq.length ≤ 60 := by rw [← hcq, ← hfq, List.length_map, hp.len]; exact hk60
  have HRL2 := Lib.hid hrl
  have HGV := Lib.hid hg
  have HG2 := Lib.hid g2
  have HB1 := Lib.hid b1
  have HB0 := Lib.hid b0
  have HBN := Lib.hid ((HBN1.out.ext hg).ext g2)
  have HS2 := Lib.hid hs2
  have HW2 := Lib.hid hW2
  have HVS := Lib.hid (show w.heap.size < V.heap.size from (HBN1.out.ext hg).lt)
  clear hcq hp hfq g2 b1 b2 b0 hs2 hW2 h1 hok HRL HT hrl hg
  have n0 := HBN.out.cell 0
  gi_wp2_with fail
  refine wpIn_label ?_
  gi_wp2_with fail
  refine ⟨trivial, (callsIn_wide.2 (readings_any _ _ _ _)).mono ?_⟩
  rintro e w' ⟨rfl, hw'⟩
  rw [HW2.out] at hw'
  subst hw'
  rw [World.size_alloc, World.size_alloc]
  gi_wp2_with fail
  have HBL := Lib.hid (show V.heap.size + 1 < W2.heap.size by have := HS2.out; omega)
  have HCL := Lib.hid hcl
  clear hcl n0
  have HNB := Lib.hid (HBN1.out.ext HGV.out)
  refine wp_rangeW (α := Rd) (n := 4) (by omega) (gf := 136) (lb := #[ptr (V.heap.size + 1 + 1)]) rfl (enters_of Tryz.func136 (by kernel_rfl) rfl) HSQ.out (Below.refl _ _) (fun _ => rfl)
   (fun F pre W => F V.heap.size ∧ F (V.heap.size + 1) ∧ Blk W V.heap.size 3 #[.int .i64 pre.length] ∧ Blk W (V.heap.size + 1) 25 #[.slice none 0 0] ∧ Below V.heap.size V W ∧ (nth < 0 → pre = []) ∧ (0 ≤ nth → (pre.length : Int) ≤ nth))
   (fun cd F pre W => cd = .exit 0 ∧ F V.heap.size ∧ F (V.heap.size + 1) ∧ Below V.heap.size V W ∧ RdStop cq nth V.heap.size F W) ?hI ?hIx
   (fun pre x l o A hl h hr => gwR_put o h hr) (fun k hk => by have := HS2.out; omega) (fun k => k = V.heap.size ∨ k = V.heap.size + 1) (fun k hk => by have := HS2.out; omega) ⟨.inl rfl, .inr rfl, HB1.out, HB0.out, HG2.out, fun _ => rfl, fun h => h⟩
   (fun x a' => a' = { tmps := #[.slice A n c, .int .i64 known, .int .i64 nth, undef, undef, ptr w.heap.size, .slice none 0 0, .int .i64 0, .slice D k d, .int .i64 0, ptr V.heap.size, ptr (V.heap.size + 1), .slice x.A x.n x.c, .tuple #[.slice D k d, .int .i64 0], .slice A n c, .int .i64 known, .slice (some ⟨w.heap.size + 1, 0, none⟩) 1 1, .tuple #[.slice D k d, .int .i64 0], .slice D k d, .int .i64 0, .int .i64 0, .bool false, undef, .slice D k d, .func (.func 136) #[] #[ptr (V.heap.size + 1 + 1)], .slice x.A x.n x.c, undef, undef, undef, undef, undef, undef, undef, undef, undef, undef, undef, undef, undef, undef, undef, undef, undef, undef, undef, undef, undef], defers := [] }) ?assign ?body ?done ?stop
  case hI =>
   rintro F s X Y ⟨h1, h2, h3, h4, h5, h6⟩ hi
   exact ⟨h1, h2, hi.blk h3 (.inr h1), hi.blk h4 (.inr h2), hi.below h5 (by have := HS2.out; omega) (Nat.le_refl _), h6⟩
  case hIx =>
   rintro cd F s X Y ⟨h0, h1, h2, h5, h6⟩ hi
   exact ⟨h0, h1, h2, hi.below h5 (by have := HS2.out; omega) (Nat.le_refl _), h6.it h1 h2 hi⟩
  case assign =>
   rintro l x X K hK
   unfold encR
   gi_wp2
   simp
  case body =>
   rintro l F pre x a' X hl - ⟨h1, h2, h3, h4, h5, h6, h7⟩ ⟨hgi, hgn, -, post, hpo⟩ rfl
   have hxr : isRd cq x.r = true := mem_reads.1 (by rw [← hpo]; simp)
   have hxl : x.n ≤ 1000000 := by
    have := (isRd_zip.1 hxr).1
    rw [hgi.1] at this
    have := HCL.out
    omega
   have hlen : pre.length + 1 ≤ 2000 := by
    have := congrArg List.length hpo
    rw [List.length_append, List.length_map, List.length_cons] at this
    have := HRL2.out
    omega
   have HAT := Lib.hid (show (reads cq).getD pre.length [] = x.r by
    rw [← hpo, List.getD_eq_getElem?_getD, List.getElem?_append_right (by rw [List.length_map]; exact Nat.le_refl _), List.length_map, Nat.sub_self]; rfl)
   have HLT := Lib.hid (show pre.length < (reads cq).length by
    have := congrArg List.length hpo
    rw [List.length_append, List.length_map, List.length_cons] at this
    omega)
   obtain ⟨pl, hpl⟩ : ∃ q, pre.length = q := ⟨_, rfl⟩
   rw [hpl] at hlen h3 h7 HAT HLT
   have hwr : wrap64 ((pl : Int) + 1) = (pl : Int) + 1 := wrap_in (by omega)
   have HPL := Lib.hid hpl
   have HF := Lib.hid h1
   have HF2 := Lib.hid h2
   have HB3 := Lib.hid h3
   have HB4 := Lib.hid h4
   have HG4 := Lib.hid h5
   have H6 := Lib.hid h6
   have H7 := Lib.hid h7
   have nb := HNB.out.ext h5
   have c0 := h3.cell 0
   have c1 := h3.frozen 0
   have c2 := nb.cell 0
   have c3 := h4.cell 0
   have c4 := h4.frozen 0
   have TC := Lib.hid (cloneI_any x.A x.n x.c x.r X hgi hxl)
   clear h1 h2 h3 h4 h5 h6 h7 hpo hpl nb hgi hgn hxr hxl
   by_cases hneg : nth < 0
   ·have hd : decide (nth < 0) = true := decide_eq_true hneg
    have hpre := H6.out hneg
    have HNG := Lib.hid hneg
    clear hneg
    gi_wp2
    refine ⟨F, Ro.refl _ _, rfl, HF.out, HF2.out, HG4.out, .inl ⟨HNG.out, ?_, HB4.out⟩⟩
    have h0 : pl = 0 := by rw [← HPL.out, hpre]; rfl
    have := HB3.out
    rw [h0] at this
    exact this
   ·have hd : decide (nth < 0) = false := decide_eq_false hneg
    have HNG := Lib.hid hneg
    by_cases hat : (pl : Int) = nth
    ·have hab : ((pl : Int) == nth) = true := by simpa using hat
     have HATN := Lib.hid hat
     clear hneg hat
     gi_wp2_with (refine ⟨trivial, (CallsIn.inRound l (callsIn_wide.2 TC.out)).mono ?_⟩; rintro e V3 ⟨⟨v, rfl, ho⟩, hg⟩; obtain ⟨D3, d3, hv3, hd3, hd4, -, -⟩ := OwnL.arr kdI ho; obtain ⟨k3, hk3⟩ : ∃ q, x.r.length = q := ⟨_, rfl⟩; rw [hk3] at hv3; subst hv3; have HO3 := Lib.hid ho; have HG3 := Lib.hid hg; have HD3 := Lib.hid (show k3 ≤ d3 ∧ d3 ≤ maxLen from ⟨hk3 ▸ hd3, hd4⟩); have r0 := (HB3.out.ext hg).cell 0; have r1 := (HB3.out.ext hg).frozen 0; have r2 := (HB4.out.ext hg).cell 0; have r3 := (HB4.out.ext hg).frozen 0; have s0 := ((HB3.out.ext hg).far (p := ⟨V.heap.size + 1, 0, none⟩) (by show V.heap.size ≠ V.heap.size + 1; omega) (.slice D3 k3 d3)).cell 0; have s1 := ((HB3.out.ext hg).far (p := ⟨V.heap.size + 1, 0, none⟩) (by show V.heap.size ≠ V.heap.size + 1; omega) (.slice D3 k3 d3)).frozen 0; clear ho hg hd3 hd4 c0 c1 c2 c3 c4 hk3)
     have HOB := Lib.hid (fun (k : Nat) (e : Value.ownBlock (.slice D3 k3 d3) = some k) => (⟨(own_block HO3.out e).1, by obtain ⟨-, cur, hb⟩ := own_block HO3.out e; exact hb.lt⟩ : X.heap.size ≤ k ∧ k < V3.heap.size))
     have hXV := HB4.out.lt
     have hne1 : V.heap.size + 1 ≠ V.heap.size := by omega
     refine ⟨fun k => F k ∨ Value.ownBlock (.slice D3 k3 d3) = some k, ro_more (((Ro.of_below HG3.out).trans (Ro.setCell (p := ⟨V.heap.size + 1, 0, none⟩) HF2.out _)).trans (Ro.setCell (p := ⟨V.heap.size, 0, none⟩) HF.out _)) (fun k hk => ?_), rfl, .inl HF.out, .inl HF2.out, ?_, .inr ⟨by have := HNG.out; omega, by have := HLT.out; have := HATN.out; omega, ?_, D3, k3, d3, ?_, HD3.out.1, HD3.out.2, ?_, fun k hk => .inr hk⟩⟩
     ·have h1 := HOB.out k hk
      simp [World.setCell]
      omega
     ·exact ((HG4.out.trans (HG3.out.mono HG4.out.size)).setCell (p := ⟨V.heap.size + 1, 0, none⟩) (by show V.heap.size ≤ V.heap.size + 1; omega) _).setCell (p := ⟨V.heap.size, 0, none⟩) (Nat.le_refl _) _
     ·have := (((HB3.out.ext HG3.out).far (p := ⟨V.heap.size + 1, 0, none⟩) (by show V.heap.size ≠ V.heap.size + 1; omega) (.slice D3 k3 d3)).set_ 0 (.int .i64 ((pl : Int) + 1)))
      rw [show (nth : Int) + 1 = (pl : Int) + 1 by rw [HATN.out]]
      exact this
     ·have := ((HB4.out.ext HG3.out).set_ 0 (.slice D3 k3 d3)).far (p := ⟨V.heap.size, 0, none⟩) hne1 (.int .i64 ((pl : Int) + 1))
      exact this
     ·have e1 : nth.toNat = pl := by have := HATN.out; omega
      rw [e1, HAT.out]
      refine OwnL.mono (own_far (own_far HO3.out (fun k hk => ?_) _) (fun k hk => ?_) _) HG4.out.size
      ·have := (HOB.out k hk).1
       show k ≠ V.heap.size + 1
       omega
      ·have := (HOB.out k hk).1
       show k ≠ V.heap.size
       omega
    ·have hab : ((pl : Int) == nth) = false := by simpa using hat
     have HATN := Lib.hid hat
     clear hneg hat
     gi_wp2
     refine ⟨F, Ro.setCell (p := ⟨V.heap.size, 0, none⟩) HF.out _, HF.out, HF2.out, ?_, HB4.out.far (p := ⟨V.heap.size, 0, none⟩) (by show V.heap.size + 1 ≠ V.heap.size; omega) _, HG4.out.setCell (p := ⟨V.heap.size, 0, none⟩) (Nat.le_refl _) _, fun h => absurd h (by have := HNG.out; omega), fun h => ?_⟩
     ·rw [List.length_append, List.length_singleton, HPL.out]
      have := HB3.out.set_ 0 (.int .i64 ((pl : Int) + 1))
      exact this
     ·rw [List.length_append, List.length_singleton, HPL.out]
      have h1 := H7.out h
      have h2 := HATN.out
      omega
  case done =>
   rintro E F xs X hD hS ⟨h1, h2, h3, h4, h5, h6, h7⟩ hK
   have hl : xs.length = (reads cq).length := by rw [← hS, List.length_map]
   have hrd : rdE (l.map Pf.q) known nth = 3 := by
    rw [HRV.out, if_neg]
    rintro ⟨a, b⟩
    have := h7 a
    omega
   have HRD := Lib.hid hrd
   have nb := HNB.out.ext h5
   have c0 := h3.cell 0
   have c2 := nb.cell 0
   obtain ⟨xl, hxl⟩ : ∃ q, xs.length = q := ⟨_, rfl⟩
   rw [hxl] at c0 h7
   have HK := Lib.hid hK
   have HG5 := Lib.hid (G1.out.trans ((HGV.out.trans ((put_below h5 (D := E) (by have := HBL.out; omega) (.deferred none)).mono HGV.out.size)).mono G1.out.size))
   clear h1 h2 h3 h4 h5 h6 hK hS hl nb hxl hrd
   by_cases hneg : nth < 0
   ·have hd : decide (nth < 0) = true := decide_eq_true hneg
    clear hneg h7
    gi_wp2
    refine ⟨by simp, .inl ⟨_, _, rfl, run_takeDeferred HK.out, ?_⟩⟩
    refine ⟨.tuple #[.slice none 0 0, .int .i64 3], ?_, rdEnd_no HRD.out (by decide) HG5.out⟩
    simp [results, Tryz.results44, go_sem]
   ·have hd : decide (nth < 0) = false := decide_eq_false hneg
    have hd2 : decide ((xl : Int) ≤ nth) = true := decide_eq_true (h7 (by omega))
    clear hneg h7
    gi_wp2
    refine ⟨by simp, .inl ⟨_, _, rfl, run_takeDeferred HK.out, ?_⟩⟩
    refine ⟨.tuple #[.slice none 0 0, .int .i64 3], ?_, rdEnd_no HRD.out (by decide) HG5.out⟩
    simp [results, Tryz.results44, go_sem]
  case stop =>
   rintro E F cd pre X hD - ⟨rfl, h1, h2, h5, h6⟩ hK
   have nb := HNB.out.ext h5
   have c2 := nb.cell 0
   have HK := Lib.hid hK
   have HG5 := Lib.hid (G1.out.trans ((HGV.out.trans ((put_below h5 (D := E) (by have := HBL.out; omega) (.deferred none)).mono HGV.out.size)).mono G1.out.size))
   rcases h6 with ⟨hneg, h3, h4⟩ | ⟨hpos, hlt, h3, D3, m3, d3, h4, e1, e2, ho, -⟩
   ·have hd : decide (nth < 0) = true := decide_eq_true hneg
    have HRD := Lib.hid (show rdE (l.map Pf.q) known nth = 3 by
     rw [HRV.out, if_neg]
     rintro ⟨a, b⟩
     omega)
    have c0 := h3.cell 0
    clear h1 h2 h3 h4 h5 hK nb hneg
    gi_wp2
    refine ⟨by simp, .inl ⟨_, _, rfl, run_takeDeferred HK.out, ?_⟩⟩
    refine ⟨.tuple #[.slice none 0 0, .int .i64 3], ?_, rdEnd_no HRD.out (by decide) HG5.out⟩
    simp [results, Tryz.results44, go_sem]
   ·have hd : decide (nth < 0) = false := decide_eq_false (by omega)
    have hd2 : decide (nth + 1 ≤ nth) = false := decide_eq_false (by omega)
    have HRD := Lib.hid (show rdE (l.map Pf.q) known nth = 0 by rw [HRV.out, if_pos ⟨hpos, hlt⟩])
    have c0 := h3.cell 0
    have c3 := h4.cell 0
    have hne : ∀ k, Value.ownBlock (.slice D3 m3 d3) = some k → k ≠ E := fun k hk e => by
     obtain ⟨-, cur, hb⟩ := own_block ho hk
     rw [e] at hb
     have := (show X.heap[E]? = _ from hb).symm.trans hK
     cases this
    have hop := own_put ho hne (.deferred none)
    obtain ⟨A9, c9, e9, -, -, hi9, -⟩ := OwnL.arr kdI hop
    cases e9
    have HI9 := Lib.hid hi9
    have HE12 := Lib.hid (show ((reads cq).getD nth.toNat []).length ≤ d3 ∧ d3 ≤ maxLen from ⟨e1, e2⟩)
    obtain ⟨q9, hq9⟩ : ∃ q, ((reads cq).getD nth.toNat []).length = q := ⟨_, rfl⟩
    rw [hq9] at c3 HI9 HE12
    clear h1 h2 h3 h4 h5 hK nb hpos hlt ho hop hne hi9 e1 e2 hq9
    gi_wp2
    refine ⟨by simp, .inl ⟨_, _, rfl, run_takeDeferred HK.out, ?_⟩⟩
    refine ⟨.tuple #[.slice D3 q9 d3, .int .i64 0], ?_, rdEnd_ok HRD.out HE12.out.1 HE12.out.2 (by rw [HCQ.out]; exact HI9.out) HG5.out⟩
    simp [results, Tryz.results44, go_sem]
 ·have hzb : (le != 0) = true := by simpa using hz
  have hrn := HRN.out
  rw [if_neg hz] at hrn
  have HRD := Lib.hid hrn
  have HZ := Lib.hid hz
  clear hz hrn
  refine (callsIn_wide (n := 4)).1 (callsIn_of_wp_marks Tryz.func44 rfl trivial ?_ rfl)
  simp only [Tryz.ntmps44, List.size_toArray, List.length_cons, List.length_nil, Nat.reduceAdd, Nat.reduceSub, Array.replicate_succ, Array.replicate_zero, List.push_toArray, List.append_toArray, List.nil_append, List.cons_append]
  gi_wp2_with fail
  rw [HW1.out]
  refine wpIn_wide.2 (wp_scope_straight ((wpIn_wide (n := 4)).1 ?_))
  gi_wp2_with fail
  rw [HS1.out]
  refine ⟨trivial, (callsIn_wide.2 HT.out).mono ?_⟩
  rintro e V ⟨v, rfl, hg, -, -⟩
  have GV := Lib.hid (G1.out.trans ((show Below W1.heap.size W1 V by rw [HS1.out]; exact hg).mono G1.out.size))
  clear hg
  gi_wp2_with fail
  refine ⟨.tuple #[.slice none 0 0, .int .i64 le], ?_, rdEnd_no HRD.out HZ.out GV.out⟩
  simp [results, Tryz.results44, go_sem]
end Go.Proofs.YtehhlgdkhecacaaGreat

namespace Go.Proofs.YtehhlgdkhecacaaGreat
open Go.RowKit Go.Shelf Go.Maps
theorem pairKey : WideMaps.ArrKey Tryz.prog 65 3 2 := ⟨Tryz.underlying65, by kernel_rfl, by kernel_rfl, by kernel_rfl⟩
theorem pairLaw : WideMaps.KeyLaw Tryz.prog 65 := pairKey.law
/-- A number of 64 bits. -/
abbrev In64 (n : Int) : Prop := (Lit.int .i64 n).wf = true
theorem in64_of {n : Int} (h : -9223372036854775808 ≤ n ∧ n ≤ 9223372036854775807) : In64 n := by
 simp only [In64, Lit.wf]
 simp [IntKind.min, IntKind.max, IntKind.bits, IntKind.signed]
 omega
abbrev kv (p d : Int) : Value := .agg #[.int .i64 p, .int .i64 d]
theorem keyOf_kv {p d : Int} (hp : In64 p) (hd : In64 d) : ∃ l, keyOf Tryz.prog 65 (kv p d) = some l := by
 obtain ⟨m0, hm0⟩ : ∃ m, Tryz.prog.types.size = m + 1 := by
  have h : (Tryz.prog.types.size == 0) = false := by kernel_rfl
  cases hs : Tryz.prog.types.size with
  | zero => rw [hs] at h; cases h
  | succ m => exact ⟨m, rfl⟩
 have hkt := pairKey.keyType ⟨m0, hm0⟩
 have hL : Tryz.prog.keyLits (m0 + 1 + 1) 65 [.int .i64 p, .int .i64 d] = some [.int .i64 p, .int .i64 d] := by
  have he : ∀ x, In64 x → Tryz.prog.keyLits (m0 + 1) 3 [.int .i64 x] = some [.int .i64 x] := fun x hx => by
   unfold Program.keyLits
   rw [Tryz.underlying3]
   simp only [true_and]
   rw [if_pos hx]
  unfold Program.keyLits
  rw [Tryz.underlying65]
  simp only [pairKey.size, pairKey.one]
  rw [if_pos (by rfl)]
  simp [List.range_succ, he p hp, he d hd]
 refine ⟨.string (keyBytes [.int .i64 p, .int .i64 d]), ?_⟩
 unfold keyOf
 simp only [Tryz.underlying65]
 rw [if_pos (by simp [hkt, Value.formed, Tryz.underlying65, pairKey.size]), hm0]
 show Option.map _ (Tryz.prog.keyLits (m0 + 1 + 1) 65 [.int .i64 p, .int .i64 d]) = _
 rw [hL]
 rfl
/-- What the map holds is right. -/
def Good (c : List Qf) (r : List Int) (es : Array MapEntry) : Prop := ∀ e ∈ es.toList, ∃ p d, In64 p ∧ In64 d ∧ e.key = kv p d ∧ e.val = .int .i64 (setS c r p d)
theorem Good.nil (c : List Qf) (r : List Int) : Good c r #[] := fun e he => absurd he (by simp)
theorem Good.keys {c : List Qf} {r : List Int} {es : Array MapEntry} (h : Good c r es) : ∀ e ∈ es.toList, ∃ l, keyOf Tryz.prog 65 e.key = some l := fun e he => by
 obtain ⟨p, d, hp, hd, hk, -⟩ := h e he
 rw [hk]
 exact keyOf_kv hp hd
theorem kv_inj {p d p' d' : Int} (h : kv p d = kv p' d') : p = p' ∧ d = d' := by
 simp only [kv, Value.agg.injEq] at h
 have := congrArg Array.toList h
 simpa using this
theorem run_look {w : World} {b : Nat} {es : Array MapEntry} {clock : Nat} (hb : MapAt w b es clock) {c : List Qf} {r : List Int} (hg : Good c r es) {p d : Int} (hp : In64 p) (hd : In64 d) :
  ∃ (is : Bool) (v : Int), (is = true → v = setS c r p d) ∧ (Instr.lookup 139 (.map (some b)) (kv p d) true).run Tryz.prog w = .ok (.tuple #[.int .i64 v, .bool is]) w := by
 obtain ⟨lk, hlk⟩ := keyOf_kv hp hd
 have h1 := pairLaw.check w es.isEmpty hlk
 rcases pairLaw.find w hlk es.toList hg.keys with ⟨h2, -⟩ | ⟨j, e, h2, h3, h4⟩
 ·refine ⟨false, 0, fun h => absurd h (by simp), ?_⟩
  simp [Instr.lookup, run_underlying Tryz.underlying139, MapKept.run_getObj_map hb, h1, h2, Result.andThen, Tryz.zeroValue3]
 ·obtain ⟨p', d', -, -, hk, hv⟩ := hg e (List.mem_of_getElem? h3)
  rw [h4] at hk
  obtain ⟨rfl, rfl⟩ := kv_inj hk
  refine ⟨true, setS c r p d, fun _ => rfl, ?_⟩
  simp [Instr.lookup, run_underlying Tryz.underlying139, MapKept.run_getObj_map hb, h1, h2, hv, Result.andThen]
theorem run_seen {w : World} {b : Nat} {es : Array MapEntry} {clock : Nat} (hb : MapAt w b es clock) {c : List Qf} {r : List Int} (hg : Good c r es) {p d : Int} (hp : In64 p) (hd : In64 d) :
  ∃ es' clock', (Instr.mapUpdate 139 (.map (some b)) (kv p d) (.int .i64 (setS c r p d))).run Tryz.prog w = .ok () (w.putObj b (.map es' clock')) ∧ Good c r es' := by
 obtain ⟨lk, hlk⟩ := keyOf_kv hp hd
 have h1 := pairLaw.check w false hlk
 rcases pairLaw.find w hlk es.toList hg.keys with ⟨h2, -⟩ | ⟨j, e, h2, h3, h4⟩
 ·refine ⟨es.push ⟨kv p d, .int .i64 (setS c r p d), clock⟩, clock + 1, ?_, ?_⟩
  ·simp [Instr.mapUpdate, run_underlying Tryz.underlying139, MapKept.run_getObj_map hb, h1, h2, MapKept.run_setObj_map _ hb, Result.andThen, World.putObj]
  ·intro x hx
   simp only [Array.toList_push, List.mem_append, List.mem_singleton] at hx
   rcases hx with hx | rfl
   ·exact hg x hx
   ·exact ⟨p, d, hp, hd, rfl, rfl⟩
 ·have hj : es[j]? = some e := by simpa using h3
  refine ⟨es.modify j (fun x => { x with key := kv p d, val := .int .i64 (setS c r p d) }), clock, ?_, ?_⟩
  ·simp [Instr.mapUpdate, run_underlying Tryz.underlying139, MapKept.run_getObj_map hb, h1, h2, hj, h4, pairLaw.stays w hlk, MapKept.run_setObj_map _ hb, Result.andThen, World.putObj]
  ·intro x hx
   rcases MapFrom.mem_modify hx with hx | ⟨x', -, rfl⟩
   ·exact hg x hx
   ·exact ⟨p, d, hp, hd, rfl, rfl⟩
end Go.Proofs.YtehhlgdkhecacaaGreat

namespace Go.Proofs.YtehhlgdkhecacaaGreat
open Go.RowKit Go.Shelf Go.Sort
def tcells (t : Tt) : List Value := [.int .i64 t.day, .int .i64 t.par, .int .i64 t.src]
theorem tcells_len (t : Tt) : (tcells t).length = 3 := rfl
abbrev tb (t : Tt) : Array Value := #[.int .i64 t.day, .int .i64 t.par, .int .i64 t.src]
abbrev tv (t : Tt) : Value := .agg (tb t)
instance : Inhabited Tt := ⟨t0⟩
theorem info67 : (Tryz.prog.info? 67).map (fun i => (i.zero, i.size, i.bytes)) = some (some (.agg #[.int .i64 0, .int .i64 0, .int .i64 0]), 3, 24) := by kernel_rfl
theorem tcells_one (x : Tt) : ∀ v ∈ tcells x, v.oneCell' = true := fun v hv => by
 unfold tcells at hv
 simp only [List.mem_cons, List.not_mem_nil, or_false] at hv
 rcases hv with rfl | rfl | rfl <;> rfl
theorem kdT : Kd tcells 3 67 35 24 (.agg #[.int .i64 0, .int .i64 0, .int .i64 0]) := ⟨by kernel_rfl, info67, by simp [Value.cells], by decide, tcells_len, tcells_one, by decide⟩
def orI (a b : Int) : Int := if a ≠ 0 then a else b
theorem or_any (b : Nat) (x y : Int) (w : World) (hx : w.cell? ⟨b, 0, none⟩ = some (.int .i64 x)) (hy : w.cell? ⟨b, 1, none⟩ = some (.int .i64 y)) (c : Nat) :
  Calls Tryz.prog 131 #[.slice (some ⟨b, 0, none⟩) 2 c] w fun e w' => e = .returned (.int .i64 (orI x y)) ∧ w = w' := by
 unfold orI
 by_cases h1 : x = 0
 ·subst h1
  by_cases h2 : y = 0
  ·subst h2
   go_enter Tryz.func131, Tryz.ntmps131
   go_wp2_with fail
   refine wp_loop_rounds 3 ?_
   rw [rounds_succ]
   go_wp2_with fail
   rw [rounds_succ]
   go_wp2_with fail
   rw [rounds_succ]
   go_wp2_with fail
   go_ret
   exact ⟨rfl, rfl⟩
  ·have e2 : (y == 0) = false := by simpa using h2
   clear h2
   go_enter Tryz.func131, Tryz.ntmps131
   go_wp2_with fail
   refine wp_loop_rounds 3 ?_
   rw [rounds_succ]
   go_wp2_with fail
   rw [rounds_succ]
   go_wp2_with fail
   go_ret
   exact ⟨rfl, rfl⟩
 ·have e1 : (x == 0) = false := by simpa using h1
  rw [if_pos h1]
  clear h1
  go_enter Tryz.func131, Tryz.ntmps131
  go_wp2_with fail
  refine wp_loop_rounds 3 ?_
  rw [rounds_succ]
  go_wp2_with fail
  go_ret
  exact ⟨rfl, rfl⟩
def cmpT (a b : Tt) : Int := orI (cmpI a.day b.day) (cmpI a.src b.src)
theorem lt_cmpT (a b : Tt) : ltOf cmpT a b = ltT a b := by
 unfold ltOf cmpT orI cmpI ltT
 by_cases h1 : a.day < b.day
 ·simp [h1]
 ·by_cases h2 : b.day < a.day
  ·have e : ¬ a.day = b.day := by omega
   simp [h1, h2, e]
  ·have e : a.day = b.day := by omega
   by_cases h3 : a.src < b.src
   ·simp [e, h3]
   ·by_cases h4 : b.src < a.src <;> simp [e, h3, h4]
theorem swoT : SWO (ltOf cmpT) where
 irrefl x := by rw [lt_cmpT, Bool.eq_false_iff]; intro h; rw [ltT_iff] at h; omega
 trans x y z h1 h2 := by rw [lt_cmpT] at *; exact ltT_trans h1 h2
 ntrans x y z h1 h2 := by
  rw [lt_cmpT, Bool.eq_false_iff] at *
  intro h
  rw [ne_eq, ltT_iff] at h1 h2
  rw [ltT_iff] at h
  omega
/-- Draws and blocks behind. -/
def Gw (w w' : World) : Prop := ∃ q os, w' = grow (w.drewN q) os
theorem Gw.refl (w : World) : Gw w w := ⟨0, #[], by simp [grow, World.drewN]⟩
theorem Gw.alloc {w w' : World} (h : Gw w w') (o : Obj) : Gw w (w'.alloc o) := by
 obtain ⟨q, os, rfl⟩ := h
 exact ⟨q, _, by rw [alloc_eq_grow, grow_grow]⟩
theorem Gw.drew {w w' : World} (h : Gw w w') : Gw w w'.drew := by
 obtain ⟨q, os, rfl⟩ := h
 exact ⟨q + 1, os, rfl⟩
set_option maxRecDepth 100000 in
set_option maxHeartbeats 4000000 in
theorem byDay_any (x y : Tt) (w : World) : Calls Tryz.prog 130 #[tv x, tv y] w fun e w' => e = .returned (.int .i64 (cmpT x y)) ∧ Gw w w' := by
 unfold cmpT
 have T1 := fun W => cmp_any x.day y.day W
 have T2 := fun W => cmp_any x.src y.src W
 obtain ⟨r1, hr1⟩ : ∃ r, cmpI x.day y.day = r := ⟨_, rfl⟩
 obtain ⟨r2, hr2⟩ : ∃ r, cmpI x.src y.src = r := ⟨_, rfl⟩
 rw [hr1] at T1 ⊢
 rw [hr2] at T2 ⊢
 clear hr1 hr2
 have HT1 := Lib.hid T1
 have HT2 := Lib.hid T2
 have T3 := fun (b c : Nat) (W : World) (h1 : W.cell? ⟨b, 0, none⟩ = some (.int .i64 r1)) (h2 : W.cell? ⟨b, 1, none⟩ = some (.int .i64 r2)) => or_any b r1 r2 W h1 h2 c
 obtain ⟨r3, hr3⟩ : ∃ r, orI r1 r2 = r := ⟨_, rfl⟩
 rw [hr3] at T3 ⊢
 clear hr3
 have HT3 := Lib.hid T3
 obtain ⟨W1, hW1⟩ : ∃ X, (w.alloc (.cells #[.int .i64 x.day, .int .i64 x.par, .int .i64 x.src] 67)).alloc (.cells #[.int .i64 y.day, .int .i64 y.par, .int .i64 y.src] 67) = X := ⟨_, rfl⟩
 have G1 := Lib.hid (show Gw w W1 by rw [← hW1]; exact ((Gw.refl w).alloc _).alloc _)
 have BX := Lib.hid (show Blk W1 w.heap.size 67 #[.int .i64 x.day, .int .i64 x.par, .int .i64 x.src] by rw [← hW1]; exact (Blk.new _ _ _).alloc _)
 have BY := Lib.hid (show Blk W1 (w.heap.size + 1) 67 #[.int .i64 y.day, .int .i64 y.par, .int .i64 y.src] by
  rw [← hW1]
  have := Blk.new (w.alloc (.cells #[.int .i64 x.day, .int .i64 x.par, .int .i64 x.src] 67)) 67 #[.int .i64 y.day, .int .i64 y.par, .int .i64 y.src]
  rwa [World.size_alloc] at this)
 have HW1 := Lib.hid hW1
 clear hW1 T1 T2 T3
 go_enter Tryz.func130, Tryz.ntmps130
 go_upto_region 1 with fail
 rw [HW1.out]
 have d0 := BX.out.cell 0
 have d2 := BX.out.cell 2
 have e0 := BY.out.cell 0
 have e2 := BY.out.cell 2
 go_region_held3 (fun w' => w'.cell? ⟨w.heap.size, 0, none⟩ = some (.int .i64 x.day) ∧ w'.cell? ⟨w.heap.size, 2, none⟩ = some (.int .i64 x.src) ∧ w'.cell? ⟨w.heap.size + 1, 0, none⟩ = some (.int .i64 y.day) ∧ w'.cell? ⟨w.heap.size + 1, 2, none⟩ = some (.int .i64 y.src)) (go_keep)
  (first | (go_at_call 132; (with_reducible refine (HT1.out _).mono ?_); rintro e w' ⟨rfl, rfl⟩) | (go_at_call 132; (with_reducible refine (HT2.out _).mono ?_); rintro e w' ⟨rfl, rfl⟩) | (go_at_call 131; (with_reducible refine (HT3.out _ _ _ ?_ ?_).mono ?_); (focus simp [go_sem]); (focus simp [go_sem]); rintro e w' ⟨rfl, rfl⟩))
 all_goals go_wp2_with fail
 all_goals go_ret
 all_goals exact ⟨rfl, (G1.out.alloc _).drew⟩
theorem flatK_list (xs : List Tt) : flatK tcells 3 xs.toArray = (xs.flatMap tcells).toArray := by
 refine ext_get! (by rw [size_flatK, List.size_toArray, List.size_toArray, flat_len tcells_len]) fun t ht => ?_
 rw [size_flatK, List.size_toArray] at ht
 rw [get_flatK _ _ _ _ (by rw [List.size_toArray]; exact ht)]
 have hk : t / 3 < xs.length := by omega
 have e := flat_get tcells_len xs (t / 3) (t % 3) (by omega)
 rw [show t / 3 * 3 + t % 3 = t by omega, List.getElem?_eq_getElem hk] at e
 rw [getElem!_pos xs.toArray (t / 3) (by rw [List.size_toArray]; exact hk)]
 rw [getElem!_pos (xs.flatMap tcells).toArray t (by rw [List.size_toArray, flat_len tcells_len]; exact ht)]
 have e2 : (xs.flatMap tcells)[t]? = some ((xs.flatMap tcells)[t]'(by rw [flat_len tcells_len]; exact ht)) := List.getElem?_eq_getElem _
 rw [e2] at e
 simp only [Option.bind_some] at e
 have hl : t % 3 < (tcells xs[t / 3]).length := by rw [tcells_len]; omega
 rw [List.getElem?_eq_getElem hl] at e
 rw [List.getElem_toArray, List.getElem_toArray, getElem!_pos (tcells xs[t / 3]) (t % 3) hl]
 exact (Option.some.inj e).symm
theorem holdsK_of {w : World} {base : Nat} {v : Value} {xs : List Tt} (h : OwnL tcells 3 67 w base v xs) (hv : v ≠ .slice none 0 0) :
  ∃ g cap cur, v = .slice (some ⟨g, 0, none⟩) xs.length cap ∧ base ≤ g ∧ w.heap[g]? = some (.cells cur 67 (0, 0)) ∧ xs.length ≤ cap ∧ cap ≤ maxLen ∧ cur.size = cap * 3 ∧ HoldsK tcells 3 w g 0 xs.toArray := by
 obtain ⟨h1, ⟨e0, _⟩ | ⟨g, cap, cur, rfl, hb, hg, hn, hm, hs, ht⟩⟩ := h
 ·exact absurd e0 hv
 ·refine ⟨g, cap, cur, rfl, hb, hg, hn, hm, hs, fun j hj => ?_⟩
  rw [flatK_list] at hj ⊢
  rw [List.size_toArray, flat_len tcells_len] at hj
  refine ⟨?_, by simp [World.frozen?, hg]⟩
  have e1 : (cur.toList.take (xs.length * 3))[j]? = (xs.flatMap tcells)[j]? := by rw [ht]
  rw [List.getElem?_take, if_pos hj, Array.getElem?_toList, List.getElem?_eq_getElem (by rw [flat_len tcells_len]; exact hj)] at e1
  rw [show (⟨g, 0 + j, none⟩ : Addr) = ⟨g, j, none⟩ by rw [Nat.zero_add], cell_of_row w g j cur 67 (0, 0) hg, e1,
   getElem!_pos (xs.flatMap tcells).toArray j (by rw [List.size_toArray, flat_len tcells_len]; exact hj), List.getElem_toArray]
  rfl
theorem own_sorted {w : World} {base g cap q : Nat} {cur : Array Value} {os : Array Obj} {xs ys : List Tt} (hl : ys.length = xs.length) (hb : base ≤ g) (hg : w.heap[g]? = some (.cells cur 67 (0, 0))) (hn : xs.length ≤ cap) (hm : cap ≤ maxLen) (hs : cur.size = cap * 3) :
  OwnL tcells 3 67 (sortWorldK tcells 3 w g 0 q ys.toArray os) base (.slice (some ⟨g, 0, none⟩) xs.length cap) ys ∧ Fix g g w (sortWorldK tcells 3 w g 0 q ys.toArray os) := by
 have hgl : g < w.heap.size := (Array.getElem?_eq_some_iff.1 hg).1
 unfold sortWorldK putRowK
 rw [flatK_list]
 have hh : (grow (putRow id (Sort.ahead w q) g 0 (ys.flatMap tcells).toArray) os).heap[g]? = some (.cells (putCells id 0 (ys.flatMap tcells).toArray cur) 67 (0, 0)) := by
  rw [heap_grow_old _ _ (by simpa [putRow, mapBlock, Sort.ahead] using hgl)]
  simp [putRow, mapBlock, Sort.ahead, Array.getElem?_modify, hg, onCells]
 refine ⟨?_, ⟨rfl, rfl, rfl, by simp [grow, putRow, mapBlock, Sort.ahead], fun k hk h1 _ => ?_⟩⟩
 ·unfold OwnL
  rw [hl]
  refine ⟨by rw [flat_len tcells_len, hl], .inr ⟨g, cap, _, rfl, hb, hh, hn, hm, by simpa [putCells] using hs, ?_⟩⟩
  apply List.ext_getElem?
  intro j
  rw [List.getElem?_take, Array.getElem?_toList]
  by_cases hj : j < xs.length * 3
  ·have hjc : j < cur.size := by omega
   have hjf : j < (ys.flatMap tcells).length := by rw [flat_len tcells_len, hl]; exact hj
   rw [if_pos hj, putCells, Array.getElem?_mapIdx, Array.getElem?_eq_getElem hjc, Option.map_some, if_pos (by rw [List.size_toArray]; omega), Nat.sub_zero,
    getElem!_pos (ys.flatMap tcells).toArray j (by rw [List.size_toArray]; exact hjf), List.getElem_toArray, List.getElem?_eq_getElem hjf]
   rfl
  ·rw [if_neg hj, List.getElem?_eq_none (by rw [flat_len tcells_len, hl]; omega)]
 ·rw [heap_grow_old _ _ (by simpa [putRow, mapBlock, Sort.ahead] using hk)]
  simp [putRow, mapBlock, Sort.ahead, Array.getElem?_modify, show g ≠ k by omega]
set_option maxHeartbeats 4000000 in
shelf_lay_g SlLaysF0.n6 Slsf 6 at Tryz 129 as laysSortT
theorem perm_of_in {d d' : Array Tt} (h : PermIn 0 d.size d d') : d'.toList.Perm d.toList := by
 obtain ⟨h1, -, h2⟩ := h
 have e : (d'.extract 0 d.size) = d' := by rw [← h1]; simp
 have e2 : (d.extract 0 d.size) = d := by simp
 rwa [e, e2] at h2
theorem sorted_of_in {d d' : Array Tt} (h : PermIn 0 d.size d d') (hs : SortedIn (ltOf cmpT) 0 d.size d') (ha : Apart d.toList) : UpT d'.toList := by
 have hp := perm_of_in h
 have hn : Apart d'.toList := ((hp.map Tt.src).nodup_iff).2 ha
 unfold Apart at hn
 rw [List.Nodup, List.pairwise_map, List.pairwise_iff_getElem] at hn
 refine List.pairwise_iff_getElem.2 fun i j hi hj hij => ?_
 have hj2 : j < d'.size := by simpa using hj
 have hi2 : i < d'.size := by simpa using hi
 have h1 := hs i j (Nat.zero_le _) hij (by rw [← h.1]; exact hj2)
 rw [lt_cmpT, getElem!_pos d' j hj2, getElem!_pos d' i hi2, Bool.eq_false_iff, ne_eq, ltT_iff] at h1
 have h2 := hn i j hi hj hij
 rw [ltT_iff]
 simp only [Array.getElem_toList] at h2 ⊢
 omega
theorem sortT_any (base : Nat) (v : Value) (l : List Tt) (w : World) (h : OwnL tcells 3 67 w base v l) (hl : l.length ≤ 1000000) (hb : base ≤ w.heap.size) (ha : Apart l) :
  Calls Tryz.prog 129 #[v, .func (.func 130) #[] #[]] w fun e w' => e = .returned (.tuple #[]) ∧ OwnL tcells 3 67 w' base v (srtT l) ∧ Below base w w' := by
 by_cases hv : v = .slice none 0 0
 ·subst hv
  have e : l = [] := by
   obtain ⟨h1, h2 | ⟨g, cap, cur, h3, -⟩⟩ := h
   ·exact List.eq_nil_of_length_eq_zero h2.2
   ·cases h3
  subst e
  refine (AnyF.slices_SortFunc_none laysSortT none 0 _ w).mono ?_
  rintro e w' ⟨rfl, rfl⟩
  exact ⟨rfl, h, Below.refl _ _⟩
 ·obtain ⟨g, cap, cur, rfl, hbg, hg, hncap, hcm, hcs, hH⟩ := holdsK_of h hv
  have hgl : g < w.heap.size := (Array.getElem?_eq_some_iff.1 hg).1
  have eg : ∀ args w, (callFunc 130 args).run Tryz.prog w = .ok (.enter 130 args) w := enters_of Tryz.func130 (by kernel_rfl) rfl
  have hc : CmpLays Tryz.prog 130 #[] tcells 3 cmpT g 0 l.toArray.size w := fun m os dk _ x y => byDay_any x y _
  have T := AnyQ.slices_SortFunc laysSortT 3 Tryz.isAgg67 Tryz.sizeOf67 tcells tcells_len tcells_one cmpT swoT 130 #[] g 0 cap l.toArray w eg hc hH hgl (by rw [List.size_toArray]; omega)
  rw [List.size_toArray] at T
  refine T.mono ?_
  rintro e w' ⟨rfl, d', n, os, hp, hs, rfl⟩
  have e1 : d'.toList = srtT l := srtT_eq ha (perm_of_in hp) (sorted_of_in hp hs ha)
  obtain ⟨o1, o2⟩ := own_sorted (q := n) (os := os) (xs := l) (ys := d'.toList) (by rw [e1]; exact (srtT_perm l).length_eq) hbg hg hncap hcm hcs
  rw [show d'.toList.toArray = d' from rfl] at o1 o2
  rw [e1] at o1
  exact ⟨rfl, o1, ⟨o2.os, o2.tape, o2.output, o2.size, fun k hk => o2.block k (by omega) (by omega) (by omega)⟩⟩
end Go.Proofs.YtehhlgdkhecacaaGreat
