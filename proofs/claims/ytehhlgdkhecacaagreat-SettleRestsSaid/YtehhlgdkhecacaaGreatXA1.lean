/- Part of the proof: AM, AN, AO, AP, AR, AS, AT, AU, AV, AW, AX, AY, AZ, BA, BB, BC, RA. -/
import Derived.WideKeyArr
import Derived.Shelf.SlSortCmp.NoneTotal
import Derived.Ground.SlsfProg
import Derived.Test.YtehhlgdkhecacaaGreatXA0
namespace Go.Proofs.YtehhlgdkhecacaaGreat
open Go.RowKit Go.Shelf Go.Maps
def MapAt (w : World) (b : Nat) (es : Array MapEntry) (clock : Nat) : Prop := w.heap[b]? = some (.map es clock)
theorem MapAt.lt {w : World} {b : Nat} {es : Array MapEntry} {clock : Nat} (h : MapAt w b es clock) : b < w.heap.size := (Array.getElem?_eq_some_iff.1 h).1
theorem MapAt.ext {w w' : World} {b : Nat} {es : Array MapEntry} {clock : Nat} (h : MapAt w b es clock) (g : Below w.heap.size w w') : MapAt w' b es clock := (g.block b h.lt).trans h
theorem findNow_new {k : Int} {d : TypeDesc} (hd : ∃ x, d = .int x) : ∀ (es : List MapEntry) (i : Nat), (∀ e ∈ es, ∃ j, e.key = .int .i64 j ∧ j ≠ k) → Instr.findNow d (.int .i64 k) es i = some none
 | [], _, _ => rfl
 | e :: es, i, h => by
  obtain ⟨x, rfl⟩ := hd
  obtain ⟨j, hj, hne⟩ := h e (by simp)
  have e2 : (k == j) = false := by simpa using fun e => hne e.symm
  unfold Instr.findNow
  rw [hj]
  simp only [Instr.sameNow, if_true, e2]
  exact findNow_new ⟨x, rfl⟩ es (i + 1) fun e' he' => h e' (List.mem_cons_of_mem _ he')
theorem run_upd {w : World} {b : Nat} {es : Array MapEntry} {clock : Nat} (hb : MapAt w b es clock) (k : Int) (v : Value) (hk : ∀ e ∈ es.toList, ∃ j, e.key = .int .i64 j ∧ j ≠ k) :
  (Instr.mapUpdate 172 (.map (some b)) (.int .i64 k) v).run Tryz.prog w = .ok () (w.putObj b (.map (es.push ⟨.int .i64 k, v, clock⟩) (clock + 1))) := by
 have hd := Tryz.underlying3
 have h1 := MapKept.run_checkKey (w := w) (k := .int .i64 k) hd rfl
 have h2 := MapKept.run_findKey (w := w) (k := .int .i64 k) hd (findNow_new ⟨_, rfl⟩ es.toList 0 hk)
 simp [Instr.mapUpdate, run_underlying Tryz.underlying172, MapKept.run_getObj_map hb, h1, h2, MapKept.run_setObj_map _ hb, Result.andThen, World.putObj]
/-- The rule of a kind. -/
def ruleV (k : Int) : Value × Bool := if k = 1 then (.func (.func 185) #[] #[], true) else if k = 3 then (.func (.func 186) #[] #[], true) else if k = 5 then (.func (.func 186) #[] #[], true) else if k = 8 then (.func (.func 187) #[] #[], true) else (.nilFunc, false)
def ruleEs : Array MapEntry := #[⟨.int .i64 1, .func (.func 185) #[] #[], 0⟩, ⟨.int .i64 3, .func (.func 186) #[] #[], 1⟩, ⟨.int .i64 5, .func (.func 186) #[] #[], 2⟩, ⟨.int .i64 8, .func (.func 187) #[] #[], 3⟩]
theorem run_rule {w : World} {b : Nat} {clock : Nat} (hb : MapAt w b ruleEs clock) (k : Int) :
  (Instr.lookup 172 (.map (some b)) (.int .i64 k) true).run Tryz.prog w = .ok (.tuple #[(ruleV k).1, .bool (ruleV k).2]) w := by
 have hd := Tryz.underlying3
 have h1 := MapKept.run_checkKey (w := w) (k := .int .i64 k) hd rfl
 have hf : ∀ d, (∃ x, d = TypeDesc.int x) → Instr.findNow d (.int .i64 k) ruleEs.toList 0 = some (if k = 1 then some (0, .func (.func 185) #[] #[]) else if k = 3 then some (1, .func (.func 186) #[] #[]) else if k = 5 then some (2, .func (.func 186) #[] #[]) else if k = 8 then some (3, .func (.func 187) #[] #[]) else none) := by
  rintro d ⟨x, rfl⟩
  unfold ruleEs
  by_cases e1 : k = 1
  ·subst e1; rfl
  ·by_cases e3 : k = 3
   ·subst e3; rfl
   ·by_cases e5 : k = 5
    ·subst e5; rfl
    ·by_cases e8 : k = 8
     ·subst e8; rfl
     ·rw [if_neg e1, if_neg e3, if_neg e5, if_neg e8]
      refine findNow_new ⟨x, rfl⟩ _ 0 fun e he => ?_
      simp only [List.mem_cons, List.not_mem_nil, or_false] at he
      rcases he with rfl | rfl | rfl | rfl
      ·exact ⟨1, rfl, fun e => e1 e.symm⟩
      ·exact ⟨3, rfl, fun e => e3 e.symm⟩
      ·exact ⟨5, rfl, fun e => e5 e.symm⟩
      ·exact ⟨8, rfl, fun e => e8 e.symm⟩
 have h2 := MapKept.run_findKey (w := w) (k := .int .i64 k) hd (hf _ ⟨_, rfl⟩)
 unfold ruleV
 by_cases e1 : k = 1
 ·subst e1
  simp [Instr.lookup, run_underlying Tryz.underlying172, MapKept.run_getObj_map hb, h1, h2, Result.andThen]
 ·by_cases e3 : k = 3
  ·subst e3
   simp [Instr.lookup, run_underlying Tryz.underlying172, MapKept.run_getObj_map hb, h1, h2, Result.andThen]
  ·by_cases e5 : k = 5
   ·subst e5
    simp [Instr.lookup, run_underlying Tryz.underlying172, MapKept.run_getObj_map hb, h1, h2, Result.andThen]
   ·by_cases e8 : k = 8
    ·subst e8
     simp [Instr.lookup, run_underlying Tryz.underlying172, MapKept.run_getObj_map hb, h1, h2, Result.andThen]
    ·simp [Instr.lookup, run_underlying Tryz.underlying172, MapKept.run_getObj_map hb, h1, h2, Result.andThen, e1, e3, e5, e8, Tryz.zeroValue174]
set_option maxRecDepth 100000 in
theorem serves_any (p : Pf) (w : World) : Calls Tryz.prog 192 #[pv p] w fun e w' => e = .returned (.bool (servB p.q)) ∧ Below w.heap.size w w' := by
 unfold servB
 obtain ⟨W1, hW1⟩ : ∃ X, w.alloc (.cells #[.int .i64 p.q.src, .int .i64 p.q.kind, .slice p.A p.n p.c, .int .i64 p.q.oth, .int .i64 p.q.par, .int .i64 p.q.day, .int .i64 p.q.thr, .int .i64 p.q.kno, .int .i64 p.q.unt] 176) = X := ⟨_, rfl⟩
 have GW1 := Lib.hid (show Below w.heap.size w W1 by rw [← hW1]; exact one_more _ _)
 have BW1 := Lib.hid (show Blk W1 w.heap.size 176 #[.int .i64 p.q.src, .int .i64 p.q.kind, .slice p.A p.n p.c, .int .i64 p.q.oth, .int .i64 p.q.par, .int .i64 p.q.day, .int .i64 p.q.thr, .int .i64 p.q.kno, .int .i64 p.q.unt] by rw [← hW1]; exact Blk.new _ _ _)
 have HW1 := Lib.hid hW1
 clear hW1
 have d1 := BW1.out.cell 1
 by_cases h3 : p.q.kind = 3
 ·have e3 : (p.q.kind == 3) = true := by simpa using h3
  rw [decide_eq_true h3]
  clear h3
  go_enter Tryz.func192, Tryz.ntmps192
  go_upto_region 1 with fail
  rw [HW1.out]
  go_wp2_with fail
  go_ret
  exact ⟨rfl, GW1.out⟩
 ·have e3 : (p.q.kind == 3) = false := by simpa using h3
  rw [decide_eq_false h3]
  clear h3
  go_enter Tryz.func192, Tryz.ntmps192
  go_upto_region 1 with fail
  rw [HW1.out]
  go_wp2_with fail
  go_ret
  refine ⟨?_, GW1.out⟩
  first | rfl | (simp; done)
set_option maxRecDepth 100000 in
theorem birth_any (x y : Pf) (w : World) : Calls Tryz.prog 185 #[pv x, pv y] w fun e w' => e = .returned (.bool (birthB x.q y.q)) ∧ Below w.heap.size w w' := by
 unfold birthB
 obtain ⟨W1, hW1⟩ : ∃ X, (w.alloc (.cells #[.int .i64 x.q.src, .int .i64 x.q.kind, .slice x.A x.n x.c, .int .i64 x.q.oth, .int .i64 x.q.par, .int .i64 x.q.day, .int .i64 x.q.thr, .int .i64 x.q.kno, .int .i64 x.q.unt] 176)).alloc (.cells #[.int .i64 y.q.src, .int .i64 y.q.kind, .slice y.A y.n y.c, .int .i64 y.q.oth, .int .i64 y.q.par, .int .i64 y.q.day, .int .i64 y.q.thr, .int .i64 y.q.kno, .int .i64 y.q.unt] 176) = X := ⟨_, rfl⟩
 have G1 := Lib.hid (show Below w.heap.size w W1 by rw [← hW1]; exact two_more _ _ _)
 have BX := Lib.hid (show Blk W1 w.heap.size 176 #[.int .i64 x.q.src, .int .i64 x.q.kind, .slice x.A x.n x.c, .int .i64 x.q.oth, .int .i64 x.q.par, .int .i64 x.q.day, .int .i64 x.q.thr, .int .i64 x.q.kno, .int .i64 x.q.unt] by rw [← hW1]; exact (Blk.new _ _ _).alloc _)
 have BY := Lib.hid (show Blk W1 (w.heap.size + 1) 176 #[.int .i64 y.q.src, .int .i64 y.q.kind, .slice y.A y.n y.c, .int .i64 y.q.oth, .int .i64 y.q.par, .int .i64 y.q.day, .int .i64 y.q.thr, .int .i64 y.q.kno, .int .i64 y.q.unt] by
  rw [← hW1]
  have := Blk.new (w.alloc (.cells #[.int .i64 x.q.src, .int .i64 x.q.kind, .slice x.A x.n x.c, .int .i64 x.q.oth, .int .i64 x.q.par, .int .i64 x.q.day, .int .i64 x.q.thr, .int .i64 x.q.kno, .int .i64 x.q.unt] 176)) 176 #[.int .i64 y.q.src, .int .i64 y.q.kind, .slice y.A y.n y.c, .int .i64 y.q.oth, .int .i64 y.q.par, .int .i64 y.q.day, .int .i64 y.q.thr, .int .i64 y.q.kno, .int .i64 y.q.unt]
  rwa [World.size_alloc] at this)
 have HW1 := Lib.hid hW1
 clear hW1
 have d5 := BX.out.cell 5
 have e1 := BY.out.cell 1
 have e5 := BY.out.cell 5
 by_cases h1 : y.q.kind = 1
 ·have e7 : (y.q.kind == 1) = true := by simpa using h1
  rw [decide_eq_true h1]
  clear h1
  go_enter Tryz.func185, Tryz.ntmps185
  go_upto_region 1 with fail
  rw [HW1.out]
  go_wp2_with fail
  go_ret
  exact ⟨rfl, G1.out⟩
 ·have e7 : (y.q.kind == 1) = false := by simpa using h1
  rw [decide_eq_false h1]
  clear h1
  go_enter Tryz.func185, Tryz.ntmps185
  go_upto_region 1 with fail
  rw [HW1.out]
  go_wp2_with fail
  go_ret
  refine ⟨?_, G1.out⟩
  first | rfl | (simp; done)
set_option maxRecDepth 100000 in
set_option maxHeartbeats 2000000 in
theorem service_any (x y : Pf) (w : World) : Calls Tryz.prog 186 #[pv x, pv y] w fun e w' => e = .returned (.bool (servicB x.q y.q)) ∧ Below w.heap.size w w' := by
 unfold servicB
 obtain ⟨W1, hW1⟩ : ∃ X, (w.alloc (.cells #[.int .i64 x.q.src, .int .i64 x.q.kind, .slice x.A x.n x.c, .int .i64 x.q.oth, .int .i64 x.q.par, .int .i64 x.q.day, .int .i64 x.q.thr, .int .i64 x.q.kno, .int .i64 x.q.unt] 176)).alloc (.cells #[.int .i64 y.q.src, .int .i64 y.q.kind, .slice y.A y.n y.c, .int .i64 y.q.oth, .int .i64 y.q.par, .int .i64 y.q.day, .int .i64 y.q.thr, .int .i64 y.q.kno, .int .i64 y.q.unt] 176) = X := ⟨_, rfl⟩
 have G1 := Lib.hid (show Below w.heap.size w W1 by rw [← hW1]; exact two_more _ _ _)
 have BX := Lib.hid (show Blk W1 w.heap.size 176 #[.int .i64 x.q.src, .int .i64 x.q.kind, .slice x.A x.n x.c, .int .i64 x.q.oth, .int .i64 x.q.par, .int .i64 x.q.day, .int .i64 x.q.thr, .int .i64 x.q.kno, .int .i64 x.q.unt] by rw [← hW1]; exact (Blk.new _ _ _).alloc _)
 have BY := Lib.hid (show Blk W1 (w.heap.size + 1) 176 #[.int .i64 y.q.src, .int .i64 y.q.kind, .slice y.A y.n y.c, .int .i64 y.q.oth, .int .i64 y.q.par, .int .i64 y.q.day, .int .i64 y.q.thr, .int .i64 y.q.kno, .int .i64 y.q.unt] by
  rw [← hW1]
  have := Blk.new (w.alloc (.cells #[.int .i64 x.q.src, .int .i64 x.q.kind, .slice x.A x.n x.c, .int .i64 x.q.oth, .int .i64 x.q.par, .int .i64 x.q.day, .int .i64 x.q.thr, .int .i64 x.q.kno, .int .i64 x.q.unt] 176)) 176 #[.int .i64 y.q.src, .int .i64 y.q.kind, .slice y.A y.n y.c, .int .i64 y.q.oth, .int .i64 y.q.par, .int .i64 y.q.day, .int .i64 y.q.thr, .int .i64 y.q.kno, .int .i64 y.q.unt]
  rwa [World.size_alloc] at this)
 have HW1 := Lib.hid hW1
 clear hW1
 have T := serves_any y W1
 generalize servB y.q = sb at T ⊢
 have HT := Lib.hid T
 clear T
 have d0 := BX.out.cell 0
 have d1 := BX.out.cell 1
 have d2 := BX.out.cell 2
 have d3 := BX.out.cell 3
 have d4 := BX.out.cell 4
 have d5 := BX.out.cell 5
 have d6 := BX.out.cell 6
 have d7 := BX.out.cell 7
 have d8 := BX.out.cell 8
 have e0 := BY.out.cell 0
 have e1 := BY.out.cell 1
 have e2 := BY.out.cell 2
 have e3 := BY.out.cell 3
 have e4 := BY.out.cell 4
 have e5 := BY.out.cell 5
 have e6 := BY.out.cell 6
 have e7 := BY.out.cell 7
 have e8 := BY.out.cell 8
 go_enter Tryz.func186, Tryz.ntmps186
 go_upto_region 1 with fail
 rw [HW1.out]
 cases sb with
 | false =>
  go_wp2_with (go_at_call 192; (with_reducible refine (HT.out).mono ?_); rintro e V ⟨rfl, hg⟩; have G2 := Lib.hid (G1.out.trans (hg.mono G1.out.size)); clear hg)
  go_ret
  exact ⟨by simp, G2.out⟩
 | true =>
  by_cases h1 : x.q.day ≤ y.q.thr
  ·have hd1 := decide_eq_true h1
   have H1 := Lib.hid h1
   clear h1
   go_wp2_with (go_at_call 192; (with_reducible refine (HT.out).mono ?_); rintro e V ⟨rfl, hg⟩; have G2 := Lib.hid (G1.out.trans (hg.mono G1.out.size)); have BXV := Lib.hid (BX.out.ext hg); have BYV := Lib.hid (BY.out.ext hg); clear hg d0 d1 d2 d3 d4 d5 d6 d7 d8 e0 e1 e2 e3 e4 e5 e6 e7 e8; have d5 := BXV.out.cell 5; have d6 := BXV.out.cell 6; have e5 := BYV.out.cell 5; have e6 := BYV.out.cell 6)
   go_ret
   refine ⟨?_, G2.out⟩
   rw [hd1]
   first | rfl | (simp; done)
  ·have hd1 := decide_eq_false h1
   have H1 := Lib.hid h1
   clear h1
   go_wp2_with (go_at_call 192; (with_reducible refine (HT.out).mono ?_); rintro e V ⟨rfl, hg⟩; have G2 := Lib.hid (G1.out.trans (hg.mono G1.out.size)); have BXV := Lib.hid (BX.out.ext hg); have BYV := Lib.hid (BY.out.ext hg); clear hg d0 d1 d2 d3 d4 d5 d6 d7 d8 e0 e1 e2 e3 e4 e5 e6 e7 e8; have d5 := BXV.out.cell 5; have d6 := BXV.out.cell 6; have e5 := BYV.out.cell 5; have e6 := BYV.out.cell 6)
   go_ret
   refine ⟨?_, G2.out⟩
   rw [hd1]
   first | rfl | (simp; done)
set_option maxRecDepth 100000 in
set_option maxHeartbeats 2000000 in
theorem examined_any (x y : Pf) (w : World) : Calls Tryz.prog 187 #[pv x, pv y] w fun e w' => e = .returned (.bool (examB x.q y.q)) ∧ Below w.heap.size w w' := by
 unfold examB
 obtain ⟨W1, hW1⟩ : ∃ X, (w.alloc (.cells #[.int .i64 x.q.src, .int .i64 x.q.kind, .slice x.A x.n x.c, .int .i64 x.q.oth, .int .i64 x.q.par, .int .i64 x.q.day, .int .i64 x.q.thr, .int .i64 x.q.kno, .int .i64 x.q.unt] 176)).alloc (.cells #[.int .i64 y.q.src, .int .i64 y.q.kind, .slice y.A y.n y.c, .int .i64 y.q.oth, .int .i64 y.q.par, .int .i64 y.q.day, .int .i64 y.q.thr, .int .i64 y.q.kno, .int .i64 y.q.unt] 176) = X := ⟨_, rfl⟩
 have G1 := Lib.hid (show Below w.heap.size w W1 by rw [← hW1]; exact two_more _ _ _)
 have BX := Lib.hid (show Blk W1 w.heap.size 176 #[.int .i64 x.q.src, .int .i64 x.q.kind, .slice x.A x.n x.c, .int .i64 x.q.oth, .int .i64 x.q.par, .int .i64 x.q.day, .int .i64 x.q.thr, .int .i64 x.q.kno, .int .i64 x.q.unt] by rw [← hW1]; exact (Blk.new _ _ _).alloc _)
 have BY := Lib.hid (show Blk W1 (w.heap.size + 1) 176 #[.int .i64 y.q.src, .int .i64 y.q.kind, .slice y.A y.n y.c, .int .i64 y.q.oth, .int .i64 y.q.par, .int .i64 y.q.day, .int .i64 y.q.thr, .int .i64 y.q.kno, .int .i64 y.q.unt] by
  rw [← hW1]
  have := Blk.new (w.alloc (.cells #[.int .i64 x.q.src, .int .i64 x.q.kind, .slice x.A x.n x.c, .int .i64 x.q.oth, .int .i64 x.q.par, .int .i64 x.q.day, .int .i64 x.q.thr, .int .i64 x.q.kno, .int .i64 x.q.unt] 176)) 176 #[.int .i64 y.q.src, .int .i64 y.q.kind, .slice y.A y.n y.c, .int .i64 y.q.oth, .int .i64 y.q.par, .int .i64 y.q.day, .int .i64 y.q.thr, .int .i64 y.q.kno, .int .i64 y.q.unt]
  rwa [World.size_alloc] at this)
 have HW1 := Lib.hid hW1
 clear hW1
 have T := serves_any y W1
 generalize servB y.q = sb at T ⊢
 have HT := Lib.hid T
 have TW := within_any x.q.day y.q.day y.q.thr
 generalize rng x.q.day y.q.day y.q.thr = rb at TW ⊢
 have HTW := Lib.hid TW
 clear T TW
 have d0 := BX.out.cell 0
 have d1 := BX.out.cell 1
 have d2 := BX.out.cell 2
 have d3 := BX.out.cell 3
 have d4 := BX.out.cell 4
 have d5 := BX.out.cell 5
 have d6 := BX.out.cell 6
 have d7 := BX.out.cell 7
 have d8 := BX.out.cell 8
 have e0 := BY.out.cell 0
 have e1 := BY.out.cell 1
 have e2 := BY.out.cell 2
 have e3 := BY.out.cell 3
 have e4 := BY.out.cell 4
 have e5 := BY.out.cell 5
 have e6 := BY.out.cell 6
 have e7 := BY.out.cell 7
 have e8 := BY.out.cell 8
 go_enter Tryz.func187, Tryz.ntmps187
 go_upto_region 1 with fail
 rw [HW1.out]
 cases sb with
 | false =>
  go_wp2_with (go_at_call 192; (with_reducible refine (HT.out).mono ?_); rintro e V ⟨rfl, hg⟩; have G2 := Lib.hid (G1.out.trans (hg.mono G1.out.size)); clear hg)
  go_ret
  exact ⟨by simp, G2.out⟩
 | true =>
  by_cases h1 : y.q.par = x.q.par
  ·have hn1 : (y.q.par != x.q.par) = false := by simpa using h1
   have hd1 := decide_eq_false (not_not_intro h1)
   have H1 := Lib.hid h1
   clear h1
   go_wp2_with (first | (go_at_call 192; (with_reducible refine (HT.out).mono ?_); rintro e V ⟨rfl, hg⟩; have G2 := Lib.hid (G1.out.trans (hg.mono G1.out.size)); have BXV := Lib.hid (BX.out.ext hg); have BYV := Lib.hid (BY.out.ext hg); clear hg d0 d1 d2 d3 d4 d5 d6 d7 d8 e0 e1 e2 e3 e4 e5 e6 e7 e8; have d4 := BXV.out.cell 4; have e4 := BYV.out.cell 4; have d5 := BXV.out.cell 5; have e5 := BYV.out.cell 5; have e6 := BYV.out.cell 6) | (go_at_call 143; (with_reducible refine (HTW.out _).mono ?_); rintro e w' ⟨rfl, rfl⟩))
   go_ret
   refine ⟨?_, G2.out⟩
   rw [hd1]
   first | rfl | (simp; done)
  ·have hn1 : (y.q.par != x.q.par) = true := by simpa using h1
   have hd1 := decide_eq_true h1
   have H1 := Lib.hid h1
   clear h1
   go_wp2_with (first | (go_at_call 192; (with_reducible refine (HT.out).mono ?_); rintro e V ⟨rfl, hg⟩; have G2 := Lib.hid (G1.out.trans (hg.mono G1.out.size)); have BXV := Lib.hid (BX.out.ext hg); have BYV := Lib.hid (BY.out.ext hg); clear hg d0 d1 d2 d3 d4 d5 d6 d7 d8 e0 e1 e2 e3 e4 e5 e6 e7 e8; have d4 := BXV.out.cell 4; have e4 := BYV.out.cell 4; have d5 := BXV.out.cell 5; have e5 := BYV.out.cell 5; have e6 := BYV.out.cell 6) | (go_at_call 143; (with_reducible refine (HTW.out _).mono ?_); rintro e w' ⟨rfl, rfl⟩))
   go_ret
   refine ⟨?_, G2.out⟩
   rw [show decide (y.q.par ≠ x.q.par) = true from hd1]
   first | rfl | (simp; done)
end Go.Proofs.YtehhlgdkhecacaaGreat

namespace Go.Proofs.YtehhlgdkhecacaaGreat
open Go.RowKit Go.Shelf Go.Maps
theorem below_putObj {B b : Nat} {w W : World} (h : Below B w W) (hb : B ≤ b) (o : Obj) : Below B w (W.putObj b o) :=
 ⟨h.os, h.tape, h.output, by simpa using h.size, fun k hk => (World.putObj_heap_other (by omega)).trans (h.block k hk)⟩
theorem MapAt.put {W : World} {b : Nat} {es : Array MapEntry} {clock : Nat} (h : MapAt W b es clock) (es' : Array MapEntry) (clock' : Nat) : MapAt (W.putObj b (.map es' clock')) b es' clock' := World.putObj_heap_same h.lt
set_option maxRecDepth 100000 in
theorem rules_any (w : World) : Calls Tryz.prog 170 #[] w fun e w' => (∃ b, e = .returned (.map (some b)) ∧ MapAt w' b ruleEs 4) ∧ Below w.heap.size w w' := by
 obtain ⟨W1, hW1⟩ : ∃ X, w.alloc (.map #[] 0) = X := ⟨_, rfl⟩
 have m1 : MapAt W1 w.heap.size #[] 0 := by rw [← hW1]; exact World.alloc_heap_new w _
 have g1 : Below w.heap.size w W1 := by rw [← hW1]; exact one_more _ _
 have r1 := run_upd m1 1 (.func (.func 185) #[] #[]) (fun e he => absurd he (by simp))
 have m2 := m1.put (#[].push ⟨.int .i64 1, .func (.func 185) #[] #[], 0⟩) 1
 have g2 := below_putObj g1 (Nat.le_refl _) (.map (#[].push ⟨.int .i64 1, .func (.func 185) #[] #[], 0⟩) 1)
 obtain ⟨W2, hW2⟩ : ∃ X, W1.putObj w.heap.size (.map (#[].push ⟨.int .i64 1, .func (.func 185) #[] #[], 0⟩) 1) = X := ⟨_, rfl⟩
 rw [show (0 : Nat) + 1 = 1 from rfl, hW2] at r1
 rw [hW2] at m2 g2
 have r2 := run_upd m2 3 (.func (.func 186) #[] #[]) (fun e he => by simp at he; subst he; exact ⟨1, rfl, by decide⟩)
 have m3 := m2.put ((#[].push ⟨.int .i64 1, .func (.func 185) #[] #[], 0⟩).push ⟨.int .i64 3, .func (.func 186) #[] #[], 1⟩) 2
 have g3 := below_putObj g2 (Nat.le_refl _) (.map ((#[].push ⟨.int .i64 1, .func (.func 185) #[] #[], 0⟩).push ⟨.int .i64 3, .func (.func 186) #[] #[], 1⟩) 2)
 obtain ⟨W3, hW3⟩ : ∃ X, W2.putObj w.heap.size (.map ((#[].push ⟨.int .i64 1, .func (.func 185) #[] #[], 0⟩).push ⟨.int .i64 3, .func (.func 186) #[] #[], 1⟩) 2) = X := ⟨_, rfl⟩
 rw [show (1 : Nat) + 1 = 2 from rfl, hW3] at r2
 rw [hW3] at m3 g3
 have r3 := run_upd m3 5 (.func (.func 186) #[] #[]) (fun e he => by
  simp at he
  rcases he with rfl | rfl
  ·exact ⟨1, rfl, by decide⟩
  ·exact ⟨3, rfl, by decide⟩)
 have m4 := m3.put (((#[].push ⟨.int .i64 1, .func (.func 185) #[] #[], 0⟩).push ⟨.int .i64 3, .func (.func 186) #[] #[], 1⟩).push ⟨.int .i64 5, .func (.func 186) #[] #[], 2⟩) 3
 have g4 := below_putObj g3 (Nat.le_refl _) (.map (((#[].push ⟨.int .i64 1, .func (.func 185) #[] #[], 0⟩).push ⟨.int .i64 3, .func (.func 186) #[] #[], 1⟩).push ⟨.int .i64 5, .func (.func 186) #[] #[], 2⟩) 3)
 obtain ⟨W4, hW4⟩ : ∃ X, W3.putObj w.heap.size (.map (((#[].push ⟨.int .i64 1, .func (.func 185) #[] #[], 0⟩).push ⟨.int .i64 3, .func (.func 186) #[] #[], 1⟩).push ⟨.int .i64 5, .func (.func 186) #[] #[], 2⟩) 3) = X := ⟨_, rfl⟩
 rw [show (2 : Nat) + 1 = 3 from rfl, hW4] at r3
 rw [hW4] at m4 g4
 have r4 := run_upd m4 8 (.func (.func 187) #[] #[]) (fun e he => by
  simp at he
  rcases he with rfl | rfl | rfl
  ·exact ⟨1, rfl, by decide⟩
  ·exact ⟨3, rfl, by decide⟩
  ·exact ⟨5, rfl, by decide⟩)
 have m5 := m4.put ruleEs 4
 have g5 := below_putObj g4 (Nat.le_refl _) (.map ruleEs 4)
 rw [show (((#[].push (⟨.int .i64 1, .func (.func 185) #[] #[], 0⟩ : MapEntry)).push ⟨.int .i64 3, .func (.func 186) #[] #[], 1⟩).push ⟨.int .i64 5, .func (.func 186) #[] #[], 2⟩).push ⟨.int .i64 8, .func (.func 187) #[] #[], 3⟩ = ruleEs from rfl, show (3 : Nat) + 1 = 4 from rfl] at r4
 obtain ⟨W5, hW5⟩ : ∃ X, W4.putObj w.heap.size (.map ruleEs 4) = X := ⟨_, rfl⟩
 rw [hW5] at r4 m5 g5
 have M5 := Lib.hid m5
 have G5 := Lib.hid g5
 have hmk : (Instr.makeMap 172 none).run Tryz.prog w = .ok (.map (some w.heap.size)) W1 := by
  rw [← hW1]; simp [Instr.makeMap, go_sem]
 clear m1 m2 m3 m4 m5 g1 g2 g3 g4 g5 hW1 hW2 hW3 hW4 hW5
 go_enter Tryz.func170, Tryz.ntmps170
 go_wp2_with fail
 go_ret
 exact ⟨⟨_, rfl, M5.out⟩, G5.out⟩
/-- The rule of a proof's kind, called. -/
theorem rule_calls (x y : Pf) : (ruleV x.q.kind = (.nilFunc, false) ∧ ruleB x.q y.q = false) ∨ ∃ g, ruleV x.q.kind = (.func (.func g) #[] #[], true) ∧ (∀ args W, (callFunc g args).run Tryz.prog W = .ok (.enter g args) W) ∧
  ∀ W, Calls Tryz.prog g #[pv x, pv y] W fun e w' => e = .returned (.bool (ruleB x.q y.q)) ∧ Below W.heap.size W w' := by
 unfold ruleV ruleB servB
 by_cases h1 : x.q.kind = 1
 ·right
  rw [h1]
  exact ⟨185, rfl, enters_of Tryz.func185 (by kernel_rfl) rfl, fun W => birth_any x y W⟩
 ·by_cases h3 : x.q.kind = 3
  ·right
   rw [h3]
   exact ⟨186, rfl, enters_of Tryz.func186 (by kernel_rfl) rfl, fun W => service_any x y W⟩
  ·by_cases h5 : x.q.kind = 5
   ·right
    rw [h5]
    exact ⟨186, rfl, enters_of Tryz.func186 (by kernel_rfl) rfl, fun W => service_any x y W⟩
   ·by_cases h8 : x.q.kind = 8
    ·right
     rw [h8]
     exact ⟨187, rfl, enters_of Tryz.func187 (by kernel_rfl) rfl, fun W => examined_any x y W⟩
    ·left
     simp [h1, h3, h5, h8]
set_option maxRecDepth 100000 in
set_option maxHeartbeats 4000000 in
theorem odds_any (x y : Pf) (w : World) : Calls Tryz.prog 150 #[pv x, pv y] w fun e w' => e = .returned (.bool (oddsB x.q y.q)) ∧ Below w.heap.size w w' := by
 obtain ⟨W1, hW1⟩ : ∃ X, (w.alloc (.cells #[.int .i64 x.q.src, .int .i64 x.q.kind, .slice x.A x.n x.c, .int .i64 x.q.oth, .int .i64 x.q.par, .int .i64 x.q.day, .int .i64 x.q.thr, .int .i64 x.q.kno, .int .i64 x.q.unt] 56)).alloc (.cells #[.int .i64 y.q.src, .int .i64 y.q.kind, .slice y.A y.n y.c, .int .i64 y.q.oth, .int .i64 y.q.par, .int .i64 y.q.day, .int .i64 y.q.thr, .int .i64 y.q.kno, .int .i64 y.q.unt] 56) = X := ⟨_, rfl⟩
 have G1 := Lib.hid (show Below w.heap.size w W1 by rw [← hW1]; exact two_more _ _ _)
 have BX := Lib.hid (show Blk W1 w.heap.size 56 #[.int .i64 x.q.src, .int .i64 x.q.kind, .slice x.A x.n x.c, .int .i64 x.q.oth, .int .i64 x.q.par, .int .i64 x.q.day, .int .i64 x.q.thr, .int .i64 x.q.kno, .int .i64 x.q.unt] by rw [← hW1]; exact (Blk.new _ _ _).alloc _)
 have BY := Lib.hid (show Blk W1 (w.heap.size + 1) 56 #[.int .i64 y.q.src, .int .i64 y.q.kind, .slice y.A y.n y.c, .int .i64 y.q.oth, .int .i64 y.q.par, .int .i64 y.q.day, .int .i64 y.q.thr, .int .i64 y.q.kno, .int .i64 y.q.unt] by
  rw [← hW1]
  have := Blk.new (w.alloc (.cells #[.int .i64 x.q.src, .int .i64 x.q.kind, .slice x.A x.n x.c, .int .i64 x.q.oth, .int .i64 x.q.par, .int .i64 x.q.day, .int .i64 x.q.thr, .int .i64 x.q.kno, .int .i64 x.q.unt] 56)) 56 #[.int .i64 y.q.src, .int .i64 y.q.kind, .slice y.A y.n y.c, .int .i64 y.q.oth, .int .i64 y.q.par, .int .i64 y.q.day, .int .i64 y.q.thr, .int .i64 y.q.kno, .int .i64 y.q.unt]
  rwa [World.size_alloc] at this)
 have HW1 := Lib.hid hW1
 clear hW1
 have HO := Lib.hid (show oddsB x.q y.q = (ruleB x.q y.q || ruleB y.q x.q) from rfl)
 have RX := rule_calls x y
 have RY := rule_calls y x
 obtain ⟨ob, hob⟩ : ∃ s, oddsB x.q y.q = s := ⟨_, rfl⟩
 obtain ⟨r1, hr1⟩ : ∃ s, ruleB x.q y.q = s := ⟨_, rfl⟩
 obtain ⟨r2, hr2⟩ : ∃ s, ruleB y.q x.q = s := ⟨_, rfl⟩
 rw [hob, hr1, hr2] at HO
 rw [hob]
 rw [hr1] at RX
 rw [hr2] at RY
 have HOB := Lib.hid HO.out
 have HRX := Lib.hid RX
 have HRY := Lib.hid RY
 clear HO RX RY hob hr1 hr2
 have d0 := BX.out.cell 0
 have d1 := BX.out.cell 1
 have d2 := BX.out.cell 2
 have d3 := BX.out.cell 3
 have d4 := BX.out.cell 4
 have d5 := BX.out.cell 5
 have d6 := BX.out.cell 6
 have d7 := BX.out.cell 7
 have d8 := BX.out.cell 8
 have e0 := BY.out.cell 0
 have e1 := BY.out.cell 1
 have e2 := BY.out.cell 2
 have e3 := BY.out.cell 3
 have e4 := BY.out.cell 4
 have e5 := BY.out.cell 5
 have e6 := BY.out.cell 6
 have e7 := BY.out.cell 7
 have e8 := BY.out.cell 8
 go_enter Tryz.func150, Tryz.ntmps150
 go_upto_region 1 with fail
 rw [HW1.out]
 go_upto_region 2 with (go_at_call 170; (with_reducible refine (rules_any _).mono ?_); rintro e V ⟨⟨b, rfl, hm⟩, hg⟩; have HM := Lib.hid hm; have GV := Lib.hid (G1.out.trans (hg.mono G1.out.size)); have BXV := Lib.hid (BX.out.ext hg); have BYV := Lib.hid (BY.out.ext hg); clear hm hg d0 d1 d2 d3 d4 d5 d6 d7 d8 e0 e1 e2 e3 e4 e5 e6 e7 e8)
 have d0 := BXV.out.cell 0
 have d1 := BXV.out.cell 1
 have d2 := BXV.out.cell 2
 have d3 := BXV.out.cell 3
 have d4 := BXV.out.cell 4
 have d5 := BXV.out.cell 5
 have d6 := BXV.out.cell 6
 have d7 := BXV.out.cell 7
 have d8 := BXV.out.cell 8
 have e0 := BYV.out.cell 0
 have e1 := BYV.out.cell 1
 have e2 := BYV.out.cell 2
 have e3 := BYV.out.cell 3
 have e4 := BYV.out.cell 4
 have e5 := BYV.out.cell 5
 have e6 := BYV.out.cell 6
 have e7 := BYV.out.cell 7
 have e8 := BYV.out.cell 8
 have L1 := run_rule HM.out x.q.kind
 have L2 := run_rule HM.out y.q.kind
 rcases HRX.out with ⟨hv1, hf1⟩ | ⟨g1, hv1, eg1, T1⟩
 ·rw [hv1] at L1
  subst hf1
  rcases HRY.out with ⟨hv2, hf2⟩ | ⟨g2, hv2, eg2, T2⟩
  ·rw [hv2] at L2
   subst hf2
   have hob := HOB.out
   subst hob
   clear hv1 hv2 HRX HRY HOB
   go_wp2_with fail
   go_ret
   exact ⟨rfl, GV.out⟩
  ·rw [hv2] at L2
   have HT2 := Lib.hid T2
   have hob := HOB.out
   rw [Bool.false_or] at hob
   subst hob
   clear hv1 hv2 T2 HRX HRY HOB
   go_wp2_with (go_at_fn g2; (with_reducible refine (HT2.out _).mono ?_); rintro e V2 ⟨rfl, hg⟩; have G2 := Lib.hid (GV.out.trans (hg.mono GV.out.size)); clear hg)
   go_ret
   exact ⟨rfl, G2.out⟩
 ·rw [hv1] at L1
  have HT1 := Lib.hid T1
  clear T1
  cases r1 with
  | true =>
   have hob := HOB.out
   rw [Bool.true_or] at hob
   subst hob
   clear HOB
   rcases HRY.out with ⟨hv2, hf2⟩ | ⟨g2, hv2, eg2, T2⟩
   all_goals
    rw [hv2] at L2
    clear hv1 hv2 HRX HRY
    go_wp2_with (go_at_fn g1; (with_reducible refine (HT1.out _).mono ?_); rintro e V2 ⟨rfl, hg⟩; have G2 := Lib.hid (GV.out.trans (hg.mono GV.out.size)); clear hg)
    go_ret
    exact ⟨rfl, G2.out⟩
  | false =>
   have hob := HOB.out
   rw [Bool.false_or] at hob
   subst hob
   clear HOB
   rcases HRY.out with ⟨hv2, hf2⟩ | ⟨g2, hv2, eg2, T2⟩
   ·rw [hv2] at L2
    subst hf2
    clear hv1 hv2 HRX HRY
    go_wp2_with (go_at_fn g1; (with_reducible refine (HT1.out _).mono ?_); rintro e V2 ⟨rfl, hg⟩; have G2 := Lib.hid (GV.out.trans (hg.mono GV.out.size)); clear hg)
    go_ret
    exact ⟨rfl, G2.out⟩
   ·rw [hv2] at L2
    have HT2 := Lib.hid T2
    clear hv1 hv2 T2 HRX HRY
    go_wp2_with (first
     | (go_at_fn g1; (with_reducible refine (HT1.out _).mono ?_); rintro e V2 ⟨rfl, hg⟩; have G2 := Lib.hid (GV.out.trans (hg.mono GV.out.size)); have BXZ := Lib.hid (BXV.out.ext hg); have BYZ := Lib.hid (BYV.out.ext hg); clear hg d0 d1 d2 d3 d4 d5 d6 d7 d8 e0 e1 e2 e3 e4 e5 e6 e7 e8; have d0 := BXZ.out.cell 0; have e0 := BYZ.out.cell 0; have d1 := BXZ.out.cell 1; have e1 := BYZ.out.cell 1; have d2 := BXZ.out.cell 2; have e2 := BYZ.out.cell 2; have d3 := BXZ.out.cell 3; have e3 := BYZ.out.cell 3; have d4 := BXZ.out.cell 4; have e4 := BYZ.out.cell 4; have d5 := BXZ.out.cell 5; have e5 := BYZ.out.cell 5; have d6 := BXZ.out.cell 6; have e6 := BYZ.out.cell 6; have d7 := BXZ.out.cell 7; have e7 := BYZ.out.cell 7; have d8 := BXZ.out.cell 8; have e8 := BYZ.out.cell 8)
     | (go_at_fn g2; (with_reducible refine (HT2.out _).mono ?_); rintro e V3 ⟨rfl, hg⟩; have G3 := Lib.hid (G2.out.trans (hg.mono G2.out.size)); clear hg))
    go_ret
    exact ⟨rfl, G3.out⟩
end Go.Proofs.YtehhlgdkhecacaaGreat

namespace Go.Proofs.YtehhlgdkhecacaaGreat
open Go.RowKit Go.Shelf
theorem fit_no1 {c : List Qf} {b : List Int} {n : Int} (h1 : (c.getD b.length q0).kind = 2) (h2 : (c.getD b.length q0).oth = n) : fitB c b n = false := by
 unfold fitB
 rw [decide_eq_true h1, decide_eq_true h2]
 rfl
theorem fit_no2 {c : List Qf} {b : List Int} {n : Int} {j : Nat} (hj : j < b.length) (h1 : b.getD j 0 = n) (h2 : oddsB (c.getD j q0) (c.getD b.length q0) = true) : fitB c b n = false := by
 unfold fitB
 rw [Bool.and_eq_false_iff]
 right
 rw [List.all_eq_false]
 exact ⟨j, List.mem_range.2 hj, by rw [decide_eq_true h1, h2]; decide⟩
theorem fit_yes {c : List Qf} {b : List Int} {n : Int} (h1 : ¬ ((c.getD b.length q0).kind = 2 ∧ (c.getD b.length q0).oth = n)) (h2 : ∀ j, j < b.length → ¬ (b.getD j 0 = n ∧ oddsB (c.getD j q0) (c.getD b.length q0) = true)) : fitB c b n = true := by
 unfold fitB
 rw [Bool.and_eq_true, List.all_eq_true]
 refine ⟨?_, fun j hj => ?_⟩
 ·rw [Bool.not_eq_true', Bool.and_eq_false_iff]
  by_cases e : (c.getD b.length q0).kind = 2
  ·exact .inr (decide_eq_false fun e2 => h1 ⟨e, e2⟩)
  ·exact .inl (decide_eq_false e)
 ·rw [Bool.not_eq_true', Bool.and_eq_false_iff]
  by_cases e : b.getD j 0 = n
  ·right
   rw [Bool.eq_false_iff]
   exact fun e2 => h2 j (List.mem_range.1 hj) ⟨e, e2⟩
  ·exact .inl (decide_eq_false e)
set_option maxRecDepth 100000 in
set_option maxHeartbeats 8000000 in
theorem fits_any (A : Option Addr) (n c : Nat) (l : List Pf) (B : Option Addr) (m d : Nat) (rd : List Int) (person : Int) (w : World) (ha : Prf w A n l) (hn : n ≤ 1000) (hb : Ints w B m rd) (hmn : m < n) :
  Calls Tryz.prog 127 #[.slice A n c, .slice B m d, .int .i64 person] w fun e w' => e = .returned (.bool (fitB (l.map Pf.q) rd person)) ∧ Below w.heap.size w w' := by
 have HA := Lib.hid ha
 have HB := Lib.hid hb
 have hrl := hb.1
 have HRL := Lib.hid hrl
 have HLM := Lib.hid (show l.length = n from ha.len)
 have hkn := hmn
 obtain ⟨b, o, rfl, -, hyi, hym, hyc⟩ := (HA.out.below (Below.refl _ _)).at hkn
 obtain ⟨y, hy⟩ : ∃ y, l.getD m p0 = y := ⟨_, rfl⟩
 rw [hy] at hyi hym hyc
 obtain ⟨e0, e1, e2, e3, e4, e5, e6, e7, e8⟩ := hyc _ (Below.refl _ _)
 have HyE := Lib.hid hy
 have HyI := Lib.hid hyi
 have HyM := Lib.hid hym
 clear hy hyi hym hyc
 obtain ⟨W2, hW2⟩ : ∃ X, w.alloc (.cells #[.int .i64 y.q.src, .int .i64 y.q.kind, .slice y.A y.n y.c, .int .i64 y.q.oth, .int .i64 y.q.par, .int .i64 y.q.day, .int .i64 y.q.thr, .int .i64 y.q.kno, .int .i64 y.q.unt] 56) = X := ⟨_, rfl⟩
 have GW2 := Lib.hid (show Below w.heap.size w W2 by rw [← hW2]; exact one_more _ _)
 have BW2 := Lib.hid (show Blk W2 w.heap.size 56 #[.int .i64 y.q.src, .int .i64 y.q.kind, .slice y.A y.n y.c, .int .i64 y.q.oth, .int .i64 y.q.par, .int .i64 y.q.day, .int .i64 y.q.thr, .int .i64 y.q.kno, .int .i64 y.q.unt] by rw [← hW2]; exact Blk.new _ _ _)
 have HW2 := Lib.hid hW2
 clear hW2
 have HYQ := Lib.hid (show (l.map Pf.q).getD rd.length q0 = y.q by rw [HRL.out, map_pf (by rw [HLM.out]; exact hmn), HyE.out])
 obtain ⟨fb, hfb⟩ : ∃ s, fitB (l.map Pf.q) rd person = s := ⟨_, rfl⟩
 rw [hfb]
 have HFB := Lib.hid hfb
 have hmi : (m : Int) < (n : Int) := by omega
 clear hfb ha hb hrl
 go_enter Tryz.func127, Tryz.ntmps127
 go_upto_region 2 with fail
 rw [HW2.out]
 clear e0 e1 e2 e3 e4 e5 e6 e7 e8
 have d0 := BW2.out.cell 0
 have d1 := BW2.out.cell 1
 have d2 := BW2.out.cell 2
 have d3 := BW2.out.cell 3
 have d4 := BW2.out.cell 4
 have d5 := BW2.out.cell 5
 have d6 := BW2.out.cell 6
 have d7 := BW2.out.cell 7
 have d8 := BW2.out.cell 8
 have hcase : (y.q.kind = 2 ∧ y.q.oth = person) ∨ ¬ (y.q.kind = 2 ∧ y.q.oth = person) := Classical.em _
 rcases hcase with ⟨h1, h2⟩ | hno
 ·have e1 : (y.q.kind == 2) = true := by simpa using h1
  have e2 : (y.q.oth == person) = true := by simpa using h2
  have hf : fb = false := HFB.out.symm.trans (fit_no1 (by rw [HYQ.out]; exact h1) (by rw [HYQ.out]; exact h2))
  subst hf
  clear h1 h2
  go_wp2_with fail
  go_ret
  exact ⟨rfl, GW2.out⟩
 ·have HNO := Lib.hid hno
  go_cut [6, 23] from 15 to 26 (fun s t wx => s = .bool false ∧ t = .bool false ∧ W2 = wx)
  case first =>
   by_cases h1 : y.q.kind = 2
   ·have e1 : (y.q.kind == 2) = true := by simpa using h1
    have e2 : (y.q.oth == person) = false := by simpa using fun e => HNO.out ⟨h1, e⟩
    clear h1 hno
    go_wp2_with fail
    go_meet
    exact ⟨rfl, rfl, rfl⟩
   ·have e1 : (y.q.kind == 2) = false := by simpa using h1
    clear h1 hno
    go_wp2_with fail
    go_meet
    exact ⟨rfl, rfl, rfl⟩
  case rest =>
  obtain ⟨rfl, rfl, rfl⟩ := hcut
  rename_i hK9
  refine hK9 _ _ ?_
  clear hK9 hno
  have HZ := Lib.hid (Below.refl W2.heap.size W2)
  clear d0 d1 d2 d3 d4 d5 d6 d7 d8
  go_wp2_with fail
  go_loopw [26] (fun i wr => ∃ k : Nat, k ≤ m ∧ i = .int .i64 k ∧ Below W2.heap.size W2 wr ∧ ∀ j, j < k → ¬ (rd.getD j 0 = person ∧ oddsB ((l.map Pf.q).getD j q0) y.q = true)) (fun i _ => m - (intOf i).toNat)
  case atStart => exact ⟨0, Nat.zero_le _, rfl, HZ.out, fun j hj => absurd hj (by omega)⟩
  case round =>
   obtain ⟨k, hk, rfl, hg, hall⟩ := hrel
   have HG := Lib.hid hg
   have HALL := Lib.hid hall
   have HGW := Lib.hid (GW2.out.trans (hg.mono GW2.out.size))
   clear hall
   by_cases hkm : k < m
   ·have hkn : k < n := by omega
    obtain ⟨b2, o2, rfl, -, -, hc2⟩ := ints_at (HB.out.below HGW.out) hkm
    have r0 := hc2 wr (Below.refl _ _)
    obtain ⟨x, hx⟩ : ∃ x, rd.getD k 0 = x := ⟨_, rfl⟩
    rw [hx] at r0
    have HX := Lib.hid hx
    have HPK := Lib.hid (map_pf (l := l) (k := k) (by rw [HLM.out]; exact hkn))
    obtain ⟨b3, o3, e3, -, hzi, hzm, hzc⟩ := (HA.out.below HGW.out).at hkn
    cases e3
    obtain ⟨z, hz⟩ : ∃ z, l.getD k p0 = z := ⟨_, rfl⟩
    rw [hz] at hzc HPK
    obtain ⟨e0, e1, e2, e3, e4, e5, e6, e7, e8⟩ := hzc _ (Below.refl _ _)
    clear hzi hzm hzc hz hx hc2
    have hwr2 : wrap64 ((k : Int) + 1) = (k : Int) + 1 := wrap_in (by omega)
    have hki : (k : Int) < (n : Int) := by omega
    have BYR := Lib.hid (BW2.out.ext hg)
    have TO := fun (X : Wd wr) => odds_any z y X.val
    obtain ⟨ob, hob⟩ : ∃ s, oddsB z.q y.q = s := ⟨_, rfl⟩
    rw [hob] at TO
    have HOB := Lib.hid hob
    have HTO := Lib.hid TO
    clear TO hob hg
    go_upto_region 7 with fail
    replace r0 := cellW r0
    replace e0 := cellW e0
    replace e1 := cellW e1
    replace e2 := cellW e2
    replace e3 := cellW e3
    replace e4 := cellW e4
    replace e5 := cellW e5
    replace e6 := cellW e6
    replace e7 := cellW e7
    replace e8 := cellW e8
    have d0 := cellW (BYR.out.cell 0)
    have d1 := cellW (BYR.out.cell 1)
    have d2 := cellW (BYR.out.cell 2)
    have d3 := cellW (BYR.out.cell 3)
    have d4 := cellW (BYR.out.cell 4)
    have d5 := cellW (BYR.out.cell 5)
    have d6 := cellW (BYR.out.cell 6)
    have d7 := cellW (BYR.out.cell 7)
    have d8 := cellW (BYR.out.cell 8)
    by_cases hxp : x = person
    ·have hxb : (x == person) = true := by simpa using hxp
     have HXP := Lib.hid hxp
     clear hxp
     refine wp_region_calm wr (by kernel_rfl) (by kernel_rfl) (Below.refl _ _) ?_
     repeat (go_big_quiet_step ((go_at_call 150; exact callsCalm (HTO.out _))))
     refine wpQuiet_nil ?_
     rintro _ ⟨zz, rfl⟩
     have GZ := Lib.hid (HG.out.trans (zz.ok.mono HG.out.size))
     cases ob with
     | true =>
      have hf : fb = false := HFB.out.symm.trans (fit_no2 (j := k) (by rw [HRL.out]; exact hkm) (HX.out.trans HXP.out) (by rw [HYQ.out, HPK.out]; exact HOB.out))
      subst hf
      go_wp2_with fail
      go_ret
      exact ⟨rfl, GW2.out.trans (GZ.out.mono GW2.out.size)⟩
     | false =>
      go_wp2_with fail
      go_roundw
      case rel => exact ⟨k + 1, by omega, by go_num, GZ.out, fun j hj => by
       by_cases e : j = k
       ·subst e; rintro ⟨-, h2⟩; rw [HPK.out, HOB.out] at h2; exact absurd h2 (by decide)
       ·exact HALL.out j (by omega)⟩
      case measure => simp [intOf]; omega
    ·have hxb : (x == person) = false := by simpa using hxp
     have HXP := Lib.hid hxp
     clear hxp
     refine wp_region_calm wr (by kernel_rfl) (by kernel_rfl) (Below.refl _ _) ?_
     repeat (go_big_quiet_step ((go_at_call 150; exact callsCalm (HTO.out _))))
     refine wpQuiet_nil ?_
     rintro _ ⟨zz, rfl⟩
     have GZ := Lib.hid (HG.out.trans (zz.ok.mono HG.out.size))
     go_wp2_with fail
     go_roundw
     case rel => exact ⟨k + 1, by omega, by go_num, GZ.out, fun j hj => by
      by_cases e : j = k
      ·subst e; rintro ⟨h1, -⟩; exact HXP.out (HX.out.symm.trans h1)
      ·exact HALL.out j (by omega)⟩
     case measure => simp [intOf]; omega
   ·obtain rfl : k = m := by omega
    have hf : fb = true := HFB.out.symm.trans (fit_yes (by rw [HYQ.out]; exact HNO.out) (fun j hj => by rw [HYQ.out]; exact HALL.out j (by rw [← HRL.out]; exact hj)))
    subst hf
    clear hg
    go_wp2_with fail
    go_ret
    exact ⟨rfl, HGW.out⟩
end Go.Proofs.YtehhlgdkhecacaaGreat

namespace Go.Proofs.YtehhlgdkhecacaaGreat
open Go.RowKit Go.Shelf
theorem rd_no {c : List Qf} {r : List Int} {k : Nat} (hk : k < c.length) (h : ¬ (r.getD k 0 ∈ (c.getD k q0).per ∧ fitB c (r.take k) (r.getD k 0) = true)) : isRd c r = false := by
 rw [Bool.eq_false_iff]
 intro e
 unfold isRd at e
 rw [Bool.and_eq_true, List.all_eq_true] at e
 have := e.2 k (List.mem_range.2 hk)
 simp only [Bool.and_eq_true, decide_eq_true_eq] at this
 exact h this
theorem rd_yes {c : List Qf} {r : List Int} (hl : r.length = c.length) (h : ∀ j, j < c.length → r.getD j 0 ∈ (c.getD j q0).per ∧ fitB c (r.take j) (r.getD j 0) = true) : isRd c r = true := by
 unfold isRd
 rw [Bool.and_eq_true, List.all_eq_true]
 refine ⟨decide_eq_true hl, fun j hj => ?_⟩
 have := h j (List.mem_range.1 hj)
 simp only [Bool.and_eq_true, decide_eq_true_eq]
 exact this
set_option maxRecDepth 100000 in
set_option maxHeartbeats 8000000 in
theorem isReading_any (A : Option Addr) (n c : Nat) (l : List Pf) (B : Option Addr) (m d : Nat) (rd : List Int) (w : World) (ha : Prf w A n l) (hn : n ≤ 1000) (hb : Ints w B m rd) (hmd : m ≤ d) (_hd : d ≤ 9223372036854775807) :
  Calls Tryz.prog 84 #[.slice A n c, .slice B m d] w fun e w' => e = .returned (.bool (isRd (l.map Pf.q) rd)) ∧ Below w.heap.size w w' := by
 have HA := Lib.hid ha
 have HB := Lib.hid hb
 have HRL := Lib.hid hb.1
 have HLM := Lib.hid (show l.length = n from ha.len)
 have HLQ := Lib.hid (show (l.map Pf.q).length = n by rw [List.length_map]; exact ha.len)
 obtain ⟨fb, hfb⟩ : ∃ s, isRd (l.map Pf.q) rd = s := ⟨_, rfl⟩
 rw [hfb]
 have HFB := Lib.hid hfb
 clear hfb ha hb
 by_cases hmn : m = n
 ·subst hmn
  have hne : ((m : Int) != (m : Int)) = false := by simp
  go_enter Tryz.func84, Tryz.ntmps84
  go_wp2_with fail
  go_loopw [14] (fun i wr => ∃ k : Nat, k ≤ m ∧ i = .int .i64 k ∧ Below w.heap.size w wr ∧ ∀ j, j < k → rd.getD j 0 ∈ ((l.map Pf.q).getD j q0).per ∧ fitB (l.map Pf.q) (rd.take j) (rd.getD j 0) = true) (fun i _ => m - (intOf i).toNat)
  case atStart => exact ⟨0, Nat.zero_le _, rfl, Below.refl _ _, fun j hj => absurd hj (by omega)⟩
  case round =>
   obtain ⟨k, hk, rfl, hg, hall⟩ := hrel
   have HG := Lib.hid hg
   have HALL := Lib.hid hall
   clear hall
   by_cases hkm : k < m
   ·obtain ⟨b2, o2, rfl, -, -, hc2⟩ := ints_at (HB.out.below HG.out) hkm
    have r0 := hc2 wr (Below.refl _ _)
    obtain ⟨x, hx⟩ : ∃ x, rd.getD k 0 = x := ⟨_, rfl⟩
    rw [hx] at r0
    have HX := Lib.hid hx
    have HPK := Lib.hid (map_pf (l := l) (k := k) (by rw [HLM.out]; exact hkm))
    obtain ⟨b3, o3, rfl, -, hzi, hzm, hzc⟩ := (HA.out.below HG.out).at hkm
    obtain ⟨z, hz⟩ : ∃ z, l.getD k p0 = z := ⟨_, rfl⟩
    rw [hz] at hzc hzi HPK
    obtain ⟨e0, e1, e2, e3, e4, e5, e6, e7, e8⟩ := hzc _ (Below.refl _ _)
    have TH := has_any z.A z.n z.c z.q.per x wr hzi.i hzi.m.2
    have HTK := Lib.hid (show Ints wr (some ⟨b2, o2, none⟩) k (rd.take k) from (HB.out.below HG.out).take (by omega))
    have TF := Lib.hid (fun (a : Option Addr) (q : Nat) (h : Ints wr a k (rd.take k)) => fits_any (some ⟨b3, o3, none⟩) m c l a k q (rd.take k) x wr (HA.out.below HG.out) hn h hkm)
    obtain ⟨hh, hhh⟩ : ∃ s, hasI z.q.per x = s := ⟨_, rfl⟩
    obtain ⟨ff, hff⟩ : ∃ s, fitB (l.map Pf.q) (rd.take k) x = s := ⟨_, rfl⟩
    rw [hhh] at TH
    rw [hff] at TF
    have HHH := Lib.hid hhh
    have HFF := Lib.hid hff
    have HTH := Lib.hid TH
    have hwr2 : wrap64 ((k : Int) + 1) = (k : Int) + 1 := wrap_in (by omega)
    have hkd : (k : Int) ≤ (d : Int) := by omega
    clear hzi hzm hzc hz hx hc2 hhh hff TH e0 e1 e3 e4 e5 e6 e7 e8 hg
    cases hh with
    | false =>
     have hf : fb = false := HFB.out.symm.trans (rd_no (k := k) (by rw [HLQ.out]; exact hkm) (by
      rintro ⟨h1, -⟩
      rw [HPK.out, HX.out] at h1
      have := hasI_true h1
      rw [HHH.out] at this
      exact absurd this (by decide)))
     subst hf
     go_wp2_with (go_at_call 121; (with_reducible refine (HTH.out).mono ?_); rintro e w' ⟨rfl, rfl⟩)
     go_ret
     exact ⟨rfl, HG.out⟩
    | true =>
     cases ff with
     | false =>
      have hf : fb = false := HFB.out.symm.trans (rd_no (k := k) (by rw [HLQ.out]; exact hkm) (by
       rintro ⟨-, h1⟩
       rw [HX.out, HFF.out] at h1
       exact absurd h1 (by decide)))
      subst hf
      go_wp2_with (first
       | (go_at_call 121; (with_reducible refine (HTH.out).mono ?_); rintro e w' ⟨rfl, rfl⟩)
       | (go_at_call 127; (with_reducible refine (TF.out _ _ ?_).mono ?_); (first | exact HTK.out | (split <;> exact HTK.out)); rintro e V ⟨rfl, hg⟩; have G2 := Lib.hid (HG.out.trans (hg.mono HG.out.size)); clear hg))
      go_ret
      exact ⟨rfl, G2.out⟩
     | true =>
      go_wp2_with (first
       | (go_at_call 121; (with_reducible refine (HTH.out).mono ?_); rintro e w' ⟨rfl, rfl⟩)
       | (go_at_call 127; (with_reducible refine (TF.out _ _ ?_).mono ?_); (first | exact HTK.out | (split <;> exact HTK.out)); rintro e V ⟨rfl, hg⟩; have G2 := Lib.hid (HG.out.trans (hg.mono HG.out.size)); clear hg))
      go_roundw
      case rel => exact ⟨k + 1, by omega, by go_num, G2.out, fun j hj => by
       by_cases e : j = k
       ·subst e
        rw [HPK.out, HX.out]
        exact ⟨hasI_iff.1 HHH.out, HFF.out⟩
       ·exact HALL.out j (by omega)⟩
      case measure => simp [intOf]; omega
   ·obtain rfl : k = m := by omega
    have hf : fb = true := HFB.out.symm.trans (rd_yes (by rw [HRL.out, HLQ.out]) (fun j hj => HALL.out j (by rw [HLQ.out] at hj; exact hj)))
    subst hf
    clear hg
    go_wp2_with fail
    go_ret
    exact ⟨rfl, HG.out⟩
 ·have hne : ((m : Int) != (n : Int)) = true := by simp; omega
  have hf : fb = false := HFB.out.symm.trans (by
   unfold isRd
   rw [decide_eq_false (by rw [HRL.out, HLQ.out]; exact hmn)]
   rfl)
  subst hf
  go_enter Tryz.func84, Tryz.ntmps84
  go_wp2_with fail
  go_ret
  exact ⟨rfl, Below.refl _ _⟩
/-- The error of a reading. -/
def ckRdE (l : List Qf) (known : Int) (r : List Int) : Int := if lookE l [known] = 0 then err (isRd (cntL l known) r) 23 else lookE l [known]
set_option maxRecDepth 100000 in
set_option maxHeartbeats 8000000 in
theorem checkReading_any (A : Option Addr) (n c : Nat) (l : List Pf) (known : Int) (B : Option Addr) (m d : Nat) (rd : List Int) (w : World) (ha : Prf w A n l) (hn : n ≤ 9223372036854775807) (hb : Ints w B m rd) (hmd : m ≤ d) (hd : d ≤ 9223372036854775807) :
  Calls Tryz.prog 45 #[.slice A n c, .int .i64 known, .slice B m d] w fun e w' => e = .returned (.int .i64 (ckRdE (l.map Pf.q) known rd)) ∧ Below w.heap.size w w' := by
 obtain ⟨W1, hW1⟩ : ∃ W1, w.alloc (.cells #[.int .i64 known] 3) = W1 := ⟨_, rfl⟩
 have g1 : Below w.heap.size w W1 := by rw [← hW1]; exact one_more _ _
 have b1 : Blk W1 w.heap.size 3 #[.int .i64 known] := by rw [← hW1]; exact Blk.new _ _ _
 have T := look_any A n c l (some ⟨w.heap.size, 0, none⟩) 1 1 [known] W1 (ha.below g1) hn (one_int b1) (by decide) (by decide)
 unfold LookEnd at T
 rw [show ([known] : List Int).getD (([known] : List Int).length - 1) 0 = known from rfl] at T
 have HCE := Lib.hid (show ckRdE (l.map Pf.q) known rd = if lookE (l.map Pf.q) [known] = 0 then err (isRd (cntL (l.map Pf.q) known) rd) 23 else lookE (l.map Pf.q) [known] from rfl)
 have HN6 := Lib.hid (show lookE (l.map Pf.q) [known] = 0 → n ≤ 60 from fun h => by
  unfold lookE at h
  by_cases ho : okL (l.map Pf.q) = true
  ·have := okL_len ho; rw [List.length_map, ha.len] at this; exact this
  ·rw [if_neg ho] at h; exact absurd h (by decide))
 have HFL := Lib.hid (show (l.filter fun p => cnt p.q known).length ≤ n by rw [← ha.len]; exact List.length_filter_le _ _)
 have HPI := Lib.hid (fun (W : World) (g : Below w.heap.size w W) p (hp : p ∈ l.filter fun p => cnt p.q known) => (ha.p p (List.mem_filter.1 hp).1).below g)
 have HFM := Lib.hid (show (l.filter fun p => cnt p.q known).map Pf.q = cntL (l.map Pf.q) known from filt_map l (fun q => cnt q known))
 obtain ⟨ce, hce⟩ : ∃ s, ckRdE (l.map Pf.q) known rd = s := ⟨_, rfl⟩
 rw [hce] at HCE ⊢
 obtain ⟨le, hle⟩ : ∃ s, lookE (l.map Pf.q) [known] = s := ⟨_, rfl⟩
 rw [hle] at T HN6 HCE
 obtain ⟨fl, hfl⟩ : ∃ s, (l.filter fun p => cnt p.q known) = s := ⟨_, rfl⟩
 rw [hfl] at T HFL HPI HFM
 rw [← HFM.out] at HCE
 have HT := Lib.hid T
 have G1 := Lib.hid g1
 have HB := Lib.hid hb
 have HW1 := Lib.hid hW1
 clear T g1 b1 hW1 hle hfl ha hce hb HFM
 by_cases hz : le = 0
 ·subst hz
  have hn60 := HN6.out rfl
  have hce := HCE.out
  rw [if_pos rfl] at hce
  have HCE2 := Lib.hid hce
  clear hce HCE
  go_enter Tryz.func45, Tryz.ntmps45
  go_upto_region 2 with (go_at_call 73; rw [HW1.out]; (with_reducible refine (HT.out).mono ?_); rintro e V ⟨⟨v, rfl, ho, -⟩, hg⟩; have HO := Lib.hid (ho rfl); have GV := Lib.hid (G1.out.trans (hg.mono G1.out.size)); clear ho hg)
  obtain ⟨A2, c2, rfl, hc1, hc2, hpr⟩ := own_prf HO.out (HPI.out V GV.out)
  obtain ⟨fn, hfn⟩ : ∃ k, fl.length = k := ⟨_, rfl⟩
  rw [hfn] at hpr HFL ⊢
  have TR := isReading_any A2 fn c2 fl B m d rd V hpr (by have := HFL.out; omega) (HB.out.below GV.out) hmd hd
  obtain ⟨rb, hrb⟩ : ∃ s, isRd (fl.map Pf.q) rd = s := ⟨_, rfl⟩
  rw [hrb] at TR HCE2
  have HTR := Lib.hid TR
  clear hfn hpr hc1 hc2 TR hrb
  cases rb
  all_goals
   go_wp2_with (go_at_call 84; (with_reducible refine (HTR.out).mono ?_); rintro e V2 ⟨rfl, hg⟩; have G2 := Lib.hid (GV.out.trans (hg.mono GV.out.size)); clear hg)
   go_ret
   rw [HCE2.out]
   exact ⟨rfl, G2.out⟩
 ·have hzb : (le != 0) = true := by simpa using hz
  have hce := HCE.out
  rw [if_neg hz] at hce
  subst hce
  clear hz
  go_enter Tryz.func45, Tryz.ntmps45
  go_wp2_with (go_at_call 73; rw [HW1.out]; (with_reducible refine (HT.out).mono ?_); rintro e V ⟨⟨v, rfl, -, ho⟩, hg⟩; have GV := Lib.hid (G1.out.trans (hg.mono G1.out.size)); clear ho hg)
  go_ret
  exact ⟨rfl, GV.out⟩
end Go.Proofs.YtehhlgdkhecacaaGreat

namespace Go.Proofs.YtehhlgdkhecacaaGreat
open Go.RowKit Go.Shelf
/-- A reading as it is handed to the loop's body. -/
structure Rd where
 A : Option Addr
 n : Nat
 c : Nat
 r : List Int
def encR (x : Rd) : Array Value := #[.slice x.A x.n x.c]
def GwR (c : List Qf) (pre : List Rd) (x : Rd) (W : World) : Prop := Ints W x.A x.n x.r ∧ x.n ≤ x.c ∧ x.c ≤ maxLen ∧ ∃ post, pre.map Rd.r ++ x.r :: post = reads c
theorem Arr.putObj {α : Type} {f : α → List Value} {size : Nat} {w : World} {A : Option Addr} {n : Nat} {xs : List α} (h : Arr f size w A n xs) (hf : ∀ x, (f x).length = size) (hs : 0 < size) {l : Nat} {q : Obj} (hq : w.heap[l]? = some q) (hc : q.isCells = false) (o : Obj) : Arr f size (w.putObj l o) A n xs :=
 ⟨h.1, fun hn => by
  obtain ⟨b, o1, rfl, hb, hh⟩ := h.2 hn
  have hne : b ≠ l := fun e => by
   subst e
   have hl : 0 < xs.length := by rw [h.1]; exact hn
   have h0 : 0 < (f xs[0]).length := by rw [hf]; exact hs
   have := hh 0 xs[0] (List.getElem?_eq_getElem hl) 0 _ (List.getElem?_eq_getElem h0)
   rw [show w.cell? ⟨b, o1 + 0 * size + 0, none⟩ = none by
    cases q with
    | cells a b c => cases hc
    | _ => simp [World.cell?, hq]] at this
   cases this
  exact ⟨b, o1, rfl, by simpa using hb, fun k x hx j u hu => (World.cell?_of_block (a := ⟨b, o1 + k * size + j, none⟩) (World.putObj_heap_other hne)).trans (hh k x hx j u hu)⟩⟩
theorem gwR_put {c : List Qf} {pre : List Rd} {x : Rd} {A : World} {l : Nat} (o : Obj) (h : GwR c pre x A) (hl : ∃ r, A.heap[l]? = some (.loop r)) : GwR c pre x (A.putObj l o) := by
 obtain ⟨r, hr⟩ := hl
 exact ⟨h.1.putObj (fun _ => rfl) (by decide) hr rfl o, h.2⟩
theorem own_block {α : Type} {f : α → List Value} {size : Nat} {e : TypeId} {w : World} {base : Nat} {v : Value} {xs : List α} (h : OwnL f size e w base v xs) {k : Nat} (hk : v.ownBlock = some k) : base ≤ k ∧ ∃ cur, Blk w k e cur := by
 obtain ⟨h1, ⟨rfl, -⟩ | ⟨g, cap, cur, rfl, hb, hg, -⟩⟩ := h
 ·cases hk
 ·cases hk
  exact ⟨hb, cur, hg⟩
theorem blk_type {w : World} {g : Nat} {t t' : TypeId} {cs cs' : Array Value} (h : Blk w g t cs) (h' : Blk w g t' cs') : t = t' := by
 have := (show w.heap[g]? = _ from h).symm.trans (show w.heap[g]? = _ from h')
 cases this
 rfl
abbrev ptr (b : Nat) : Value := .pointer (some ⟨b, 0, none⟩)
abbrev stepF (bR bq bY bS : Nat) : Value := .func (.func 137) #[] #[ptr bR, ptr bq, ptr bY, ptr bS]
/-- The iterator's memory: its three boxes, the row of the reading so far (b). -/
structure SI (w0 : World) (D bq bR bY bS l : Nat) (A : Option Addr) (n c : Nat) (F : Nat → Prop) (W : World) (v : Value) (b : List Int) : Prop where
 data : Below w0.heap.size w0 W
 q : Blk W bq 22 #[.slice A n c]
 r : Blk W bR 25 #[v]
 y : Blk W bY 149 #[.func (.yield l) #[] #[]]
 s : Blk W bS 33 #[stepF bR bq bY bS]
 o : OwnL icells 1 3 W D v b
 fq : ¬ F bq
 fR : ¬ F bR
 fY : ¬ F bY
 fS : ¬ F bS
 fo : ∀ k, v.ownBlock = some k → ¬ F k
 lo : ∀ k, F k → w0.heap.size ≤ k
 up : ∀ k, F k → k < W.heap.size
section
variable {w0 : World} {D bq bR bY bS l : Nat} {A : Option Addr} {n c : Nat} {F F' : Nat → Prop} {W W' : World} {v : Value} {b : List Int}
theorem SI.below (h : SI w0 D bq bR bY bS l A n c F W v b) (g : Below W.heap.size W W') : SI w0 D bq bR bY bS l A n c F W' v b :=
 ⟨h.data.trans (g.mono h.data.size), h.q.ext g, h.r.ext g, h.y.ext g, h.s.ext g, h.o.ext g, h.fq, h.fR, h.fY, h.fS, h.fo, h.lo, fun k hk => Nat.lt_of_lt_of_le (h.up k hk) g.size⟩
theorem SI.round (h : SI w0 D bq bR bY bS l A n c F W v b) (g : Ro F F' W W') : SI w0 D bq bR bY bS l A n c F' W' v b := by
 have nf : ∀ k, k < W.heap.size → ¬ F k → ¬ F' k := fun k hk hf e => by
  rcases g.foot k e with e | e
  ·exact hf e
  ·omega
 have ho : W.grownBy W' none → True := fun _ => trivial
 refine ⟨⟨g.os.trans h.data.os, g.tape.trans h.data.tape, g.output.trans h.data.output, Nat.le_trans h.data.size g.size, fun k hk => (g.keep k (Nat.lt_of_lt_of_le hk h.data.size) (fun e => by have := h.lo k e; omega)).trans (h.data.block k hk)⟩,
  (g.keep _ h.q.lt h.fq).trans h.q, (g.keep _ h.r.lt h.fR).trans h.r, (g.keep _ h.y.lt h.fY).trans h.y, (g.keep _ h.s.lt h.fS).trans h.s, ?_, nf _ h.q.lt h.fq, nf _ h.r.lt h.fR, nf _ h.y.lt h.fY, nf _ h.s.lt h.fS, fun k hk => ?_, fun k hk => ?_, fun k hk => ?_⟩
 ·obtain ⟨h1, h2 | ⟨g', cap, cur, hv, hb, hg, h4⟩⟩ := h.o
  ·exact ⟨h1, .inl h2⟩
  ·refine ⟨h1, .inr ⟨g', cap, cur, hv, hb, ?_, h4⟩⟩
   have hlt : g' < W.heap.size := (Array.getElem?_eq_some_iff.1 hg).1
   exact (g.keep g' hlt (h.fo g' (by rw [hv]; rfl))).trans hg
 ·obtain ⟨-, cur, hb⟩ := own_block h.o hk
  exact nf k hb.lt (h.fo k hk)
 ·rcases g.foot k hk with e | e
  ·exact h.lo k e
  ·exact Nat.le_trans h.data.size e.1
 ·rcases g.foot k hk with e | e
  ·exact Nat.lt_of_lt_of_le (h.up k e) g.size
  ·exact e.2
/-- Blocks are apart. -/
theorem SI.ne (h : SI w0 D bq bR bY bS l A n c F W v b) : bq ≠ bR ∧ bY ≠ bR ∧ bS ≠ bR ∧ ∀ k, v.ownBlock = some k → k ≠ bq ∧ k ≠ bR ∧ k ≠ bY ∧ k ≠ bS := by
 refine ⟨fun e => ?_, fun e => ?_, fun e => ?_, fun k hk => ?_⟩
 ·exact absurd (blk_type (e ▸ h.q) h.r) (by decide)
 ·exact absurd (blk_type (e ▸ h.y) h.r) (by decide)
 ·exact absurd (blk_type (e ▸ h.s) h.r) (by decide)
 ·obtain ⟨-, cur, hb⟩ := own_block h.o hk
  refine ⟨fun e => ?_, fun e => ?_, fun e => ?_, fun e => ?_⟩
  ·exact absurd (blk_type (e ▸ hb) h.q) (by decide)
  ·exact absurd (blk_type (e ▸ hb) h.r) (by decide)
  ·exact absurd (blk_type (e ▸ hb) h.y) (by decide)
  ·exact absurd (blk_type (e ▸ hb) h.s) (by decide)
/-- A new value in the reading's box. -/
theorem SI.store (h : SI w0 D bq bR bY bS l A n c F W v b) (hR : w0.heap.size ≤ bR) {V : World} {v2 : Value} {b2 : List Int} (hg : W.grownBy V v.ownBlock) (hD : w0.heap.size ≤ D) (ho : OwnL icells 1 3 V D v2 b2) (hz : v2.ownBlock = none ∨ v2.ownBlock = v.ownBlock ∨ ∃ k, v2.ownBlock = some k ∧ W.heap.size ≤ k) : SI w0 D bq bR bY bS l A n c F (V.setCell ⟨bR, 0, none⟩ v2) v2 b2 := by
 obtain ⟨n1, n2, n3, n4⟩ := h.ne
 have keep : ∀ {g : Nat} {t : TypeId} {cs : Array Value}, Blk W g t cs → (∀ k, v.ownBlock = some k → k ≠ g) → Blk V g t cs := fun {g t cs} hb hne => (hg.block g hb.lt (fun e => hne g e.symm rfl)).trans hb
 have vq := keep h.q (fun k hk => (n4 k hk).1)
 have vr := keep h.r (fun k hk => (n4 k hk).2.1)
 have vy := keep h.y (fun k hk => (n4 k hk).2.2.1)
 have vs := keep h.s (fun k hk => (n4 k hk).2.2.2)
 have vd : Below w0.heap.size w0 V := h.data.grown hg h.data.size (fun k hk => Nat.le_trans hD (own_block h.o hk).1)
 refine ⟨vd.setCell (p := ⟨bR, 0, none⟩) hR v2, vq.far n1 v2, ?_, vy.far n2 v2, vs.far n3 v2, ?_, h.fq, h.fR, h.fY, h.fS, fun k hk hf => ?_, h.lo, fun k hk => ?_⟩
 ·have := vr.set_ 0 v2
  exact this
 ·obtain ⟨h1, h2 | ⟨g', cap, cur, hv, hb, hg', h4⟩⟩ := ho
  ·exact ⟨h1, .inl h2⟩
  ·refine ⟨h1, .inr ⟨g', cap, cur, hv, hb, ?_, h4⟩⟩
   exact Blk.far (p := ⟨bR, 0, none⟩) (show Blk V g' 3 cur from hg') (fun e => absurd (blk_type (show Blk V g' 3 cur from hg') (show Blk V g' 25 #[v] from (show g' = bR from e) ▸ vr)) (by decide)) v2
 ·rcases hz with e | e | ⟨k', e, hk'⟩
  ·rw [e] at hk; cases hk
  ·exact h.fo k (e ▸ hk) hf
  ·rw [e] at hk
   cases hk
   have := h.up k hf
   omega
 ·have := h.up k hk
  have := hg.size
  simp [World.setCell]
  omega
end
end Go.Proofs.YtehhlgdkhecacaaGreat

namespace Go.Proofs.YtehhlgdkhecacaaGreat
open Go.RowKit Go.Shelf
attribute [local go_sem] Oper.semAt_some
section
variable {α : Type} {f : α → List Value} {size : Nat} {e t : TypeId} {bytes : Nat} {z : Value}
theorem wpListIn_app (K : Kd f size e t bytes z) {F : Fence} {n : Nat} {w : World} {ops : Array Oper} {rest : List Oper} {o : Oper} {a : Act} {Q : Exit → Act → World → Prop} (hgd : o.guard = none) (s x : Operand)
  (ho : o.op = .call { callee := .builtin .append, args := #[s, x], argTypes := #[t, t] }) (base : Nat) (v : Value) (xs : List α) (hs : a.eval s = v) (hown : OwnL f size e w base v xs)
  (A : Option Addr) (m c : Nat) (ys : List α) (hx : a.eval x = .slice A m c) (hr : Arr f size w A m ys) (hn : xs.length + m ≤ 1000000) (hbase : base ≤ w.heap.size)
  (h : ∀ v' w', OwnL f size e w' base v' (xs ++ ys) → w.grownBy w' v.ownBlock → (v'.ownBlock = v.ownBlock ∨ v'.ownBlock = some w.heap.size) → wpListIn F n Tryz.prog ops Q rest (a.put o.dst v') w') : wpListIn F n Tryz.prog ops Q (o :: rest) a w := by
 refine wpListIn_plain hgd fun K1 hK => ?_
 obtain ⟨v', w', hrun, h2, h3, h4⟩ := run_app K w o.type base v xs hown A m c ys hr hn hbase
 unfold Oper.wpIn
 refine ⟨?_, ?_⟩
 ·simp [Oper.about, ho, resolve, Target.leads, Sem.run_pure]
 ·rw [Oper.semAt_plain F _ _ (by rw [ho]; intro c hc'; cases hc')]
  simp [execOp, ho, resolve, invoke, builtin, hs, hx, hrun, Result.andThen]
  exact hK _ _ (h v' w' h2 h3 h4)
end
/-- What the closure comes to. -/
def StepEnd (w0 : World) (D bq bR bY bS l : Nat) (A : Option Addr) (n c : Nat) (J Jx : (Nat → Prop) → List Rd → World → Prop) (pre : List Rd) (ms : List (List Int)) (b : List Int) (e : Ending) (W' : World) : Prop :=
 ∃ F' v' rb, SI w0 D bq bR bY bS l A n c F' W' v' b ∧ e = .returned (.bool rb) ∧ (rb = true → ∃ xs, xs.map Rd.r = ms ∧ J F' (pre ++ xs) W') ∧ (rb = false → ∃ xs, (∃ post, xs.map Rd.r ++ post = ms) ∧ Jx F' (pre ++ xs) W')
set_option maxRecDepth 100000 in
set_option maxHeartbeats 8000000 in
theorem step_leaf (w0 : World) (A : Option Addr) (n c : Nat) (lp : List Pf) (D bq bR bY bS l : Nat)
  (J Jx : (Nat → Prop) → List Rd → World → Prop)
  (hY : ∀ m F pre x A, J F pre A → GwR (lp.map Pf.q) pre x A → YieldAt Fence.wide m Tryz.prog l (encR x) A fun e B => ∃ F', Ro F F' A B ∧ ((e = .returned (.bool true) ∧ J F' (pre ++ [x]) B) ∨ (e = .returned (.bool false) ∧ Jx F' (pre ++ [x]) B)))
  (b : List Int) (pre : List Rd) (F : Nat → Prop) (v : Value) (W : World) (m : Nat) (hb : b.length = n) (hs : SI w0 D bq bR bY bS l A n c F W v b) (hj : J F pre W) (hp : ∃ post, pre.map Rd.r ++ [b] ++ post = reads (lp.map Pf.q)) :
  CallsIn Fence.wide m Tryz.prog 137 #[ptr bR, ptr bq, ptr bY, ptr bS] W (StepEnd w0 D bq bR bY bS l A n c J Jx pre [b] b) := by
 obtain ⟨Av, cv, rfl, hle, hcm, harr, hob⟩ := OwnL.arr kdI hs.o
 obtain ⟨post, hpost⟩ := hp
 obtain ⟨fn, tmps, assign, body, hy, hR⟩ := hY (m - 1) F pre ⟨Av, b.length, cv, b⟩ W hj ⟨harr, hle, hcm, post, by rw [← hpost, List.append_assoc]; rfl⟩
 have HS := Lib.hid hs
 have c0 := hs.r.cell 0
 have c1 := hs.q.cell 0
 have c2 := hs.y.cell 0
 have HB := Lib.hid hb
 obtain ⟨bl, hbl⟩ : ∃ k, b.length = k := ⟨_, rfl⟩
 rw [hbl] at hb c0 hy hR
 unfold encR at hy
 dsimp only at hy
 subst hb
 clear hs hj hpost hle hcm harr hob hY
 refine callsIn_of_wp Tryz.func137 rfl trivial ?_ rfl
 simp only [Tryz.ntmps137, List.size_toArray, List.length_cons, List.length_nil, Nat.reduceAdd, Nat.reduceSub, Array.replicate_succ, Array.replicate_zero, List.push_toArray, List.append_toArray, List.nil_append, List.cons_append]
 gi_wp2
 refine ⟨fun h => (by simp [Fence.wide] at h), hR.mono ?_⟩
 rintro e B ⟨F', hro, ⟨rfl, hj2⟩ | ⟨rfl, hj2⟩⟩
 ·have HRO := Lib.hid hro
  clear hR hy hro c0 c1 c2
  gi_wp2
  go_ret
  exact ⟨F', _, true, HS.out.round HRO.out, rfl, fun _ => ⟨_, rfl, hj2⟩, fun h => absurd h (by decide)⟩
 ·have HRO := Lib.hid hro
  clear hR hy hro c0 c1 c2
  gi_wp2
  go_ret
  exact ⟨F', _, false, HS.out.round HRO.out, rfl, fun h => absurd h (by decide), fun _ => ⟨_, ⟨[], rfl⟩, hj2⟩⟩
theorem flatR_take {c : List Qf} {k : Nat} {b per : List Int} {j : Nat} (hj : j < per.length) : ((per.take (j + 1)).filter fun n => fitB c b n).flatMap (fun n => moreK c k (b ++ [n])) =
  ((per.take j).filter fun n => fitB c b n).flatMap (fun n => moreK c k (b ++ [n])) ++ (if fitB c b (per.getD j 0) = true then moreK c k (b ++ [per.getD j 0]) else []) := by
 rw [take_snoc (d := 0) hj, List.filter_append, List.flatMap_append]
 by_cases h : fitB c b (per.getD j 0) = true
 ·rw [if_pos h, List.filter_cons, if_pos h]; simp
 ·rw [if_neg h, List.filter_cons, if_neg h]; simp
theorem flatR_split {c : List Qf} {k : Nat} {b per : List Int} {j : Nat} (hj : j < per.length) : (per.filter fun n => fitB c b n).flatMap (fun n => moreK c k (b ++ [n])) =
  ((per.take j).filter fun n => fitB c b n).flatMap (fun n => moreK c k (b ++ [n])) ++ (if fitB c b (per.getD j 0) = true then moreK c k (b ++ [per.getD j 0]) else []) ++ ((per.drop (j + 1)).filter fun n => fitB c b n).flatMap (fun n => moreK c k (b ++ [n])) := by
 rw [← flatR_take hj, ← List.flatMap_append, ← List.filter_append, List.take_append_drop]
theorem own_some {w : World} {base : Nat} {v : Value} {xs : List Int} (h : OwnL icells 1 3 w base v xs) (h0 : 0 < xs.length) : ∃ g cap, v = .slice (some ⟨g, 0, none⟩) xs.length cap ∧ xs.length ≤ cap := by
 obtain ⟨h1, ⟨rfl, h2⟩ | ⟨g, cap, cur, rfl, hb, hg, hn, -⟩⟩ := h
 ·omega
 ·exact ⟨g, cap, rfl, hn⟩
set_option maxRecDepth 100000 in
set_option maxHeartbeats 16000000 in
theorem step_any (w0 : World) (A : Option Addr) (n c : Nat) (lp : List Pf) (hpr : Prf w0 A n lp) (hn : n ≤ 1000) (D bq bR bY bS l : Nat) (hD : w0.heap.size ≤ D) (hR0 : w0.heap.size ≤ bR) (hRD : D ≤ bR)
  (J Jx : (Nat → Prop) → List Rd → World → Prop) (hJ : Abide D J) (hJx : Abide D Jx)
  (hY : ∀ m F pre x A, J F pre A → GwR (lp.map Pf.q) pre x A → YieldAt Fence.wide m Tryz.prog l (encR x) A fun e B => ∃ F', Ro F F' A B ∧ ((e = .returned (.bool true) ∧ J F' (pre ++ [x]) B) ∨ (e = .returned (.bool false) ∧ Jx F' (pre ++ [x]) B))) :
  ∀ (k : Nat) (b : List Int) (pre : List Rd) (F : Nat → Prop) (v : Value) (W : World) (m : Nat), b.length + k = n → SI w0 D bq bR bY bS l A n c F W v b → J F pre W → (∃ post, pre.map Rd.r ++ moreK (lp.map Pf.q) k b ++ post = reads (lp.map Pf.q)) →
  CallsIn Fence.wide m Tryz.prog 137 #[ptr bR, ptr bq, ptr bY, ptr bS] W (StepEnd w0 D bq bR bY bS l A n c J Jx pre (moreK (lp.map Pf.q) k b) b)
 | 0, b, pre, F, v, W, m, hb, hs, hj, hp => step_leaf w0 A n c lp D bq bR bY bS l J Jx hY b pre F v W m (by omega) hs hj hp
 | k + 1, b, pre, F, v, W, m, hb, hs, hj, hp => by
  have IH := fun (y : Int) (pre' : List Rd) (F' : Nat → Prop) (v' : Value) (W' : World) (m' : Nat) (h1 : SI w0 D bq bR bY bS l A n c F' W' v' (b ++ [y])) (h2 : J F' pre' W') (h3 : ∃ post, pre'.map Rd.r ++ moreK (lp.map Pf.q) k (b ++ [y]) ++ post = reads (lp.map Pf.q)) =>
   step_any w0 A n c lp hpr hn D bq bR bY bS l hD hR0 hRD J Jx hJ hJx hY k (b ++ [y]) pre' F' v' W' m' (by simp; omega) h1 h2 h3
  have hLen := hpr.len
  have hbn : b.length < n := by omega
  obtain ⟨Av, cv, rfl, hle, hcm, harr, hob⟩ := OwnL.arr kdI hs.o
  obtain ⟨post, hpost⟩ := hp
  have hPRW := hpr.below hs.data
  obtain ⟨pb0, po0, rfl, -, hpi, hpm, hpc⟩ := hPRW.at hbn
  obtain ⟨p, hpp⟩ : ∃ p, lp.getD b.length p0 = p := ⟨_, rfl⟩
  rw [hpp] at hpi hpm hpc
  have hpq : ((lp.map Pf.q).getD b.length q0) = p.q := by rw [map_pf (by rw [hLen]; exact hbn), hpp]
  obtain ⟨e0, e1, e2, e3, e4, e5, e6, e7, e8⟩ := hpc _ (Below.refl _ _)
  obtain ⟨pA, hpA⟩ : ∃ a, p.A = a := ⟨_, rfl⟩
  rw [hpA] at e2
  have HPI := Lib.hid (hpr.p p hpm)
  have HPA := Lib.hid (show Ints w0 pA p.n p.q.per by rw [← hpA]; exact (hpr.p p hpm).i)
  have hmk : moreK (lp.map Pf.q) (k + 1) b = (p.q.per.filter fun n => fitB (lp.map Pf.q) b n).flatMap fun n => moreK (lp.map Pf.q) k (b ++ [n]) := by
   show ((((lp.map Pf.q).getD b.length q0).per).filter _).flatMap _ = _
   rw [hpq]
  rw [hmk] at hpost ⊢
  have hplen := HPI.out.len
  have hpm2 := HPI.out.m
  have HS := Lib.hid hs
  have HJ0 := Lib.hid hj
  have HPOST := Lib.hid hpost
  have HIH := Lib.hid IH
  have HJA := Lib.hid hJ
  have HJXA := Lib.hid hJx
  have HPR := Lib.hid hpr
  have HPL := Lib.hid hplen
  have c0 := hs.r.cell 0
  have c1 := hs.q.cell 0
  have hbl : (b.length : Int) < (n : Int) := by omega
  have hbne : ((b.length : Int) == (n : Int)) = false := by simp; omega
  obtain ⟨bl, hbl2⟩ : ∃ k, b.length = k := ⟨_, rfl⟩
  have HBL := Lib.hid hbl2
  rw [hbl2] at c0 hbl hbne e0 e1 e2 e3 e4 e5 e6 e7 e8 hbn
  clear hs hj hpost hle hcm harr hob hY hJ hJx IH hpi hpm hpc hpp hpq hmk hpA hplen hbl2 hpr hPRW hb
  refine callsIn_of_wp Tryz.func137 rfl trivial ?_ rfl
  simp only [Tryz.ntmps137, List.size_toArray, List.length_cons, List.length_nil, Nat.reduceAdd, Nat.reduceSub, Array.replicate_succ, Array.replicate_zero, List.push_toArray, List.append_toArray, List.nil_append, List.cons_append]
  gi_wp2
  gi_loopw [23] (fun i wr => ∃ (j : Nat) (F' : Nat → Prop) (v' : Value) (xs : List Rd), i = .int .i64 j ∧ j ≤ p.n ∧ SI w0 D bq bR bY bS l (some ⟨pb0, po0, none⟩) n c F' wr v' b ∧ J F' (pre ++ xs) wr ∧ xs.map Rd.r = ((p.q.per.take j).filter fun n => fitB (lp.map Pf.q) b n).flatMap fun n => moreK (lp.map Pf.q) k (b ++ [n])) (fun i _ => p.n - (intOf i).toNat)
  case atStart => exact ⟨0, F, _, [], rfl, Nat.zero_le _, HS.out, by simpa using HJ0.out, by simp⟩
  case round =>
   obtain ⟨j, F', v', xs, rfl, hj, hs, hjj, hxs⟩ := hrel
   have HSR := Lib.hid hs
   have HJJ := Lib.hid hjj
   have HXS := Lib.hid hxs
   clear hxs hjj
   by_cases hjn : j < p.n
   ·have hwr2 : wrap64 ((j : Int) + 1) = (j : Int) + 1 := wrap_in (by omega)
    obtain ⟨b2, o2, rfl, -, -, hc2⟩ := ints_at (HPA.out.below hs.data) hjn
    have d0 := hc2 _ (Below.refl _ _)
    obtain ⟨y, hy⟩ : ∃ y, p.q.per.getD j 0 = y := ⟨_, rfl⟩
    rw [hy] at d0
    have HFT := Lib.hid (flatR_take (c := lp.map Pf.q) (k := k) (b := b) (per := p.q.per) (j := j) (by rw [HPL.out]; exact hjn))
    have HFS := Lib.hid (flatR_split (c := lp.map Pf.q) (k := k) (b := b) (per := p.q.per) (j := j) (by rw [HPL.out]; exact hjn))
    rw [hy] at HFT HFS
    obtain ⟨Av', cv', rfl, hle', hcm', harr', hob'⟩ := OwnL.arr kdI hs.o
    have c0 := hs.r.cell 0
    have c1 := hs.q.cell 0
    rw [HBL.out] at c0
    have TF := fits_any (some ⟨pb0, po0, none⟩) n c lp Av' bl cv' b y wr (HPR.out.below hs.data) hn (by rw [HBL.out] at harr'; exact harr') hbn
    obtain ⟨fv, hfv⟩ : ∃ s, fitB (lp.map Pf.q) b y = s := ⟨_, rfl⟩
    rw [hfv] at TF HFT HFS
    have HTF := Lib.hid TF
    clear hs hc2 hy TF hle' hcm' harr' hob' hfv e0 e1 e2 e3 e4 e5 e6 e7 e8
    have HN4 := Lib.hid (show (b ++ [y]).length = bl + 1 by rw [List.length_append, HBL.out]; rfl)
    have hw4 : wrap64 (((bl + 1 : Nat) : Int) - 1) = (bl : Int) := by rw [wrap_in (by omega)]; omega
    cases fv with
    | false =>
     gi_wp2_with (refine ⟨trivial, fun h => (by simp [Fence.wide] at h), ?_⟩; gi_at_call 127; refine (callsIn_wide.2 HTF.out).mono ?_; rintro e V ⟨rfl, hg⟩; have HG := Lib.hid hg; have HSV := Lib.hid (HSR.out.below hg); have HJV := Lib.hid (HJA.out _ _ _ _ HJJ.out (It.of_below hg)); clear hg c0 c1 d0)
     go_roundw
     case rel => exact ⟨j + 1, F', _, xs, by go_num, by omega, HSR.out.below HG.out, HJA.out _ _ _ _ HJJ.out (It.of_below HG.out), by rw [HXS.out, HFT.out, if_neg (by decide), List.append_nil]⟩
     case measure => simp [intOf]; omega
    | true =>
     have HPP := Lib.hid (show ∃ post, (pre ++ xs).map Rd.r ++ moreK (lp.map Pf.q) k (b ++ [y]) ++ post = reads (lp.map Pf.q) from ⟨_, by
      rw [List.map_append, HXS.out, ← HPOST.out, HFS.out, if_pos rfl]
      simp only [List.append_assoc]
      rfl⟩)
     gi_wp2_with (first
      | (refine ⟨trivial, fun h => (by simp [Fence.wide] at h), ?_⟩; gi_at_call 127; refine (callsIn_wide.2 HTF.out).mono ?_; rintro e V ⟨rfl, hg⟩; have HG := Lib.hid hg; have HSV := Lib.hid (HSR.out.below hg); have HJV := Lib.hid (HJA.out _ _ _ _ HJJ.out (It.of_below hg)); clear hg c0 c1 d0; have c0 := HSV.out.r.cell 0; have g1 := one_more V (.cells #[.int .i64 y] 3); have HSX := Lib.hid (HSV.out.below g1); have HJX := Lib.hid (HJA.out _ _ _ _ HJV.out (It.of_below g1)); have HI1 := Lib.hid (one_int (Blk.new V 3 #[.int .i64 y])); have HBL2 := Lib.hid (show b.length + 1 ≤ 1000000 by have := HBL.out; omega); have HDV := Lib.hid (show D ≤ (V.alloc (.cells #[.int .i64 y] 3)).heap.size by have := HSX.out.r.lt; omega); rw [HBL.out] at c0; clear g1)
      | (gi_at_builtin; go_loud (refine wpListIn_app kdI (by rfl) _ _ (by rfl) D _ b (by rfl) (by rw [← HBL.out]; exact HSX.out.o) _ 1 1 [y] (by rfl) HI1.out HBL2.out HDV.out ?_); intro v2 V2 ho2 hg2 hz2; obtain ⟨A2, k2, hv2, -, -, -, -⟩ := OwnL.arr kdI ho2; obtain ⟨n2, hn2⟩ : ∃ q, (b ++ [y]).length = q := ⟨_, rfl⟩; rw [hn2] at hv2; subst hv2; have HS3 := Lib.hid (HSX.out.store hR0 (by rw [HBL.out]; exact hg2) hD ho2 (by rw [HBL.out]; rcases hz2 with e | e; exact .inr (.inl e); exact .inr (.inr ⟨_, e, Nat.le_refl _⟩))); have HJ3 := Lib.hid (HJA.out _ _ _ _ HJX.out ((It.of_grown hg2 (fun r e => ⟨(own_block HSX.out.o (by rw [HBL.out]; exact e)).1, HSX.out.fo r (by rw [HBL.out]; exact e)⟩)).trans (It.setCell (p := ⟨bR, 0, none⟩) hRD HSX.out.fR (.slice A2 n2 k2)))); have b9 : Blk V2 bR 25 _ := (hg2.block bR HSX.out.r.lt (fun e => (HSX.out.ne.2.2.2 bR (by rw [HBL.out]; exact e.symm)).2.1 rfl)).trans HSX.out.r; have m0 := b9.cell 0; have m1 := b9.frozen 0; have m2 := HS3.out.s.cell 0; clear ho2 hg2 hz2 hn2 b9 c0)
      | (refine ⟨trivial, fun h => (by simp [Fence.wide] at h), ?_⟩; gi_at_call 137; refine (HIH.out y (pre ++ xs) F' _ _ _ HS3.out HJ3.out HPP.out).mono ?_; rintro e V4 ⟨F2, v3, rb, hs4, rfl, ht, hf⟩; have HS4 := Lib.hid hs4; have HRT := Lib.hid ht; have HRF := Lib.hid hf; obtain ⟨g3, k3, hv3, hk3⟩ := own_some hs4.o (by simp); subst hv3; have c0 := HS4.out.r.cell 0; have c1 := HS4.out.r.frozen 0; rw [HN4.out] at c0; have hkk : (bl : Int) ≤ (k3 : Int) := (by have h1 := hk3; rw [HN4.out] at h1; omega); clear hs4 ht hf hk3 m0 m1 m2))
     all_goals
      have HO5 := OwnL.front icells_len HS4.out.o (i := bl) (by rw [HN4.out]; omega)
      rw [show (b ++ [y]).take bl = b by rw [← HBL.out, List.take_left']; rfl] at HO5
      have HS5 := Lib.hid (HS4.out.store hR0 (World.grownBy.refl V4 _) hD HO5 (.inr (.inl rfl)))
      have HI5 := Lib.hid (It.setCell (D := D) (F := F2) (A := V4) (p := ⟨bR, 0, none⟩) hRD HS4.out.fR (.slice (some ⟨g3, 0, none⟩) bl k3))
      clear HO5
     ·have hrb : rb = false := by
       cases rb with
       | false => rfl
       | true => exfalso; simp at *
      obtain ⟨xs2, ⟨post2, hx2⟩, hj2⟩ := HRF.out hrb
      have HX2 := Lib.hid hx2
      have HJ5 := Lib.hid (HJXA.out _ _ _ _ hj2 HI5.out)
      clear hx2 hj2
      go_ret
      refine ⟨F2, _, false, HS5.out, rfl, fun h => absurd h (by decide), fun _ => ⟨xs ++ xs2, ⟨post2 ++ ((p.q.per.drop (j + 1)).filter fun n => fitB (lp.map Pf.q) b n).flatMap (fun n => moreK (lp.map Pf.q) k (b ++ [n])), ?_⟩, by rw [← List.append_assoc]; exact HJ5.out⟩⟩
      rw [List.map_append, HXS.out, HFS.out, if_pos trivial, ← HX2.out]
      simp only [List.append_assoc]
     ·have hrb : rb = true := by
       cases rb with
       | true => rfl
       | false => exfalso; simp at *
      obtain ⟨xs2, hx2, hj2⟩ := HRT.out hrb
      have HX2 := Lib.hid hx2
      have HJ5 := Lib.hid (HJA.out _ _ _ _ hj2 HI5.out)
      clear hx2 hj2
      go_roundw
      case rel => exact ⟨j + 1, F2, _, xs ++ xs2, by go_num, by omega, HS5.out, by rw [← List.append_assoc]; exact HJ5.out, by rw [List.map_append, HXS.out, HX2.out, HFT.out, if_pos trivial]⟩
      case measure => simp [intOf]; omega
   ·obtain rfl : j = p.n := by omega
    have HT := Lib.hid (show p.q.per.take p.n = p.q.per from List.take_of_length_le (by rw [HPL.out]; exact Nat.le_refl _))
    clear hs e0 e1 e2 e3 e4 e5 e6 e7 e8
    gi_wp2
    go_ret
    exact ⟨F', _, true, HSR.out, rfl, fun _ => ⟨xs, by rw [HXS.out, HT.out], HJJ.out⟩, fun h => absurd h (by decide)⟩
end Go.Proofs.YtehhlgdkhecacaaGreat

namespace Go.Proofs.YtehhlgdkhecacaaGreat
open Go.RowKit Go.Shelf
attribute [local go_sem] Oper.semAt_some
theorem three_more (w : World) (o o' o'' : Obj) : Below w.heap.size w (((w.alloc o).alloc o').alloc o'') := (((Below.refl _ w).alloc (Nat.le_refl _) o).alloc (by simp) o').alloc (by simp; omega) o''
set_option maxRecDepth 100000 in
set_option maxHeartbeats 8000000 in
theorem readings_seq (w0 : World) (A : Option Addr) (n c : Nat) (lp : List Pf) (hpr : Prf w0 A n lp) (hn : n ≤ 1000) (bq : Nat) (w : World) (hb : Below w0.heap.size w0 w) (hq : Blk w bq 22 #[.slice A n c]) :
  SeqW 136 #[ptr bq] encR (GwR (lp.map Pf.q)) (fun k => w0.heap.size ≤ k ∧ k ≠ bq) (fun xs => xs.map Rd.r = reads (lp.map Pf.q)) (fun pre => ∃ post, pre.map Rd.r ++ post = reads (lp.map Pf.q)) w := by
 intro m l J Jx W hW hJ hJx hY F0 hF0 hj0
 obtain ⟨W3, hW3⟩ : ∃ X, ((W.alloc (.cells #[.func (.yield l) #[] #[]] 149)).alloc (.cells #[.slice none 0 0] 25)).alloc (.cells #[stepF (W.heap.size + 1) bq W.heap.size (W.heap.size + 1 + 1)] 33) = X := ⟨_, rfl⟩
 have g3 : Below W.heap.size W W3 := by rw [← hW3]; exact three_more _ _ _ _
 have bY : Blk W3 W.heap.size 149 #[.func (.yield l) #[] #[]] := by rw [← hW3]; exact ((Blk.new _ _ _).alloc _).alloc _
 have bR : Blk W3 (W.heap.size + 1) 25 #[.slice none 0 0] := by
  rw [← hW3]; have := Blk.new (W.alloc (.cells #[.func (.yield l) #[] #[]] 149)) 25 #[.slice none 0 0]; rw [World.size_alloc] at this; exact this.alloc _
 have bS : Blk W3 (W.heap.size + 1 + 1) 33 #[stepF (W.heap.size + 1) bq W.heap.size (W.heap.size + 1 + 1)] := by
  rw [← hW3]; have := Blk.new ((W.alloc (.cells #[.func (.yield l) #[] #[]] 149)).alloc (.cells #[.slice none 0 0] 25)) 33 #[stepF (W.heap.size + 1) bq W.heap.size (W.heap.size + 1 + 1)]; rw [World.size_alloc, World.size_alloc] at this; exact this
 have hq' := hq.ext hW
 have hql := hq'.lt
 have hsi : SI w0 W.heap.size bq (W.heap.size + 1) W.heap.size (W.heap.size + 1 + 1) l A n c F0 W3 (.slice none 0 0) [] := by
  have hw0 : w0.heap.size ≤ W.heap.size := Nat.le_trans hb.size hW.size
  have h2 := g3.size
  exact ⟨(hb.trans (hW.mono hb.size)).trans (g3.mono hw0), hq'.ext g3, bR, bY, bS, OwnL.nil _ _, fun h => (hF0 _ h).2.2 rfl, fun h => by have := (hF0 _ h).1; omega, fun h => by have := (hF0 _ h).1; omega, fun h => by have := (hF0 _ h).1; omega, fun k hk => (by cases hk), fun k hk => (hF0 k hk).2.1, fun k hk => by have h1 := (hF0 k hk).1; omega⟩
 have hj3 : J F0 [] W3 := hJ _ _ _ _ hj0 (It.of_below g3)
 have T := step_any w0 A n c lp hpr hn W.heap.size bq (W.heap.size + 1) W.heap.size (W.heap.size + 1 + 1) l (Nat.le_trans hb.size hW.size) (by have := hb.size; have := hW.size; omega) (by omega) J Jx hJ hJx (fun m' F pre x X h1 h2 => yieldAt_wide (hY F pre x X h1 h2)) n [] [] F0 _ _ (m - 1) (by simp) hsi hj3 ⟨[], by
  have : (lp.map Pf.q).length = n := by rw [List.length_map]; exact hpr.len
  unfold reads
  rw [this]; simp⟩
 have HML := Lib.hid (show moreK (lp.map Pf.q) n [] = reads (lp.map Pf.q) by
  unfold reads
  rw [List.length_map, hpr.len])
 rw [HML.out] at T
 have HT := Lib.hid T
 have m3 := hsi.s.cell 0
 have HW3 := Lib.hid hW3
 clear hW3 g3 bY bR bS hq' hql hsi hj3 T hpr hq hb hW hJ hJx hY hF0 hj0 HML
 refine callsIn_of_wp Tryz.func136 rfl trivial ?_ rfl
 simp only [Tryz.ntmps136, List.size_toArray, List.length_cons, List.length_nil, Nat.reduceAdd, Nat.reduceSub, Array.replicate_succ, Array.replicate_zero, List.push_toArray, List.append_toArray, List.nil_append, List.cons_append]
 gi_wp2
 refine ⟨trivial, fun h => (by simp [Fence.wide] at h), ?_⟩
 rw [HW3.out]
 refine (HT.out).mono ?_
 rintro e V ⟨F, v, rb, -, rfl, ht, hf⟩
 have HF := Lib.hid hf
 have HTT := Lib.hid ht
 clear ht hf m3
 gi_wp2
 go_end0
 refine ⟨⟨_, rfl⟩, F, ?_⟩
 cases rb with
 | true => 
  obtain ⟨xs, h1, h2⟩ := HTT.out rfl
  exact .inl ⟨xs, h1, h2⟩
 | false =>
  obtain ⟨xs, h1, h2⟩ := HF.out rfl
  exact .inr ⟨xs, h1, h2⟩
/-- readings: an iterator over a box of the proofs. -/
theorem readings_any (A : Option Addr) (n c : Nat) (w : World) : Calls Tryz.prog 94 #[.slice A n c] w fun e w' => e = .returned (.func (.func 136) #[] #[ptr w.heap.size]) ∧ w.alloc (.cells #[.slice A n c] 22) = w' := by
 go_enter Tryz.func94, Tryz.ntmps94
 go_wp2
 go_ret
 exact ⟨rfl, rfl⟩
end Go.Proofs.YtehhlgdkhecacaaGreat

namespace Go.Proofs.YtehhlgdkhecacaaGreat
open Go.RowKit Go.Shelf
attribute [local go_sem] Oper.semAt_some
theorem It.below {D B : Nat} {F : Nat → Prop} {w X Y : World} (h : It D F X Y) (hb : Below B w X) (hD : B ≤ D) (hs : B ≤ w.heap.size) : Below B w Y :=
 ⟨h.os.trans hb.os, h.tape.trans hb.tape, h.output.trans hb.output, Nat.le_trans hb.size h.size, fun k hk => (h.low k (by have := hb.size; omega) (by omega)).trans (hb.block k hk)⟩
theorem isRead_false {c : List Qf} (h : reads c = []) : isRead c = false := by unfold isRead; rw [h]; rfl
theorem isRead_true {c : List Qf} {r : List Int} {l : List (List Int)} (h : r :: l = reads c) : isRead c = true := by unfold isRead; rw [← h]; rfl
theorem blk_second2 (w : World) (o : Obj) (t : TypeId) (cs : Array Value) : Blk ((w.alloc o).alloc (.cells cs t)) (w.heap.size + 1) t cs := by
 have := Blk.new (w.alloc o) t cs
 rwa [World.size_alloc] at this
/-- The end of a function behind such a loop. -/
theorem put_below {w X : World} {D : Nat} (h : Below w.heap.size w X) (hD : w.heap.size ≤ D) (o : Obj) : Below w.heap.size w (X.putObj D o) :=
 ⟨h.os, h.tape, h.output, by simpa using h.size, fun k hk => (World.putObj_heap_other (by omega)).trans (h.block k hk)⟩
set_option maxRecDepth 100000 in
set_option maxHeartbeats 8000000 in
theorem isRead_any (A : Option Addr) (n c : Nat) (l : List Pf) (w : World) (ha : Prf w A n l) (hn : n ≤ 1000) :
  Calls Tryz.prog 109 #[.slice A n c] w fun e w' => e = .returned (.bool (isRead (l.map Pf.q))) ∧ Below w.heap.size w w' := by
 obtain ⟨W2, hW2⟩ : ∃ X, (w.alloc (.cells #[.bool false] 4)).alloc (.cells #[.slice A n c] 22) = X := ⟨_, rfl⟩
 have g2 : Below w.heap.size w W2 := by rw [← hW2]; exact two_more _ _ _
 have b1 : Blk W2 w.heap.size 4 #[.bool false] := by rw [← hW2]; exact (Blk.new _ _ _).alloc _
 have b2 : Blk W2 (w.heap.size + 1) 22 #[.slice A n c] := by rw [← hW2]; exact blk_second2 _ _ _ _
 have hs2 : W2.heap.size = w.heap.size + 2 := by rw [← hW2]; simp
 have HSQ := Lib.hid (readings_seq w A n c l ha hn (w.heap.size + 1) W2 g2 b2)
 obtain ⟨cq, hcq⟩ : ∃ q, l.map Pf.q = q := ⟨_, rfl⟩
 rw [hcq] at HSQ ⊢
 obtain ⟨rb, hrb⟩ : ∃ s, isRead cq = s := ⟨_, rfl⟩
 rw [hrb]
 have HRB := Lib.hid hrb
 have HG2 := Lib.hid g2
 have HB1 := Lib.hid b1
 have HS2 := Lib.hid hs2
 have HW2 := Lib.hid hW2
 clear hcq ha g2 b1 b2 hs2 hW2 hrb
 refine (callsIn_wide (n := 4)).1 ?_
 refine callsIn_of_wp_marks Tryz.func109 rfl trivial ?_ rfl
 simp only [Tryz.ntmps109, List.size_toArray, List.length_cons, List.length_nil, Nat.reduceAdd, Nat.reduceSub, Array.replicate_succ, Array.replicate_zero, List.push_toArray, List.append_toArray, List.nil_append, List.cons_append]
 gi_wp2_with fail
 refine ⟨trivial, (callsIn_wide.2 (readings_any _ _ _ _)).mono ?_⟩
 rintro e w' ⟨rfl, hw'⟩
 rw [HW2.out] at hw'
 subst hw'
 rw [World.size_alloc]
 gi_wp2_with fail
 refine wp_rangeW (α := Rd) (n := 4) (by omega) (gf := 136) (lb := #[ptr (w.heap.size + 1)]) rfl (enters_of Tryz.func136 (by kernel_rfl) rfl) HSQ.out (Below.refl _ _) (fun _ => rfl)
  (fun F pre W => F w.heap.size ∧ pre = [] ∧ Blk W w.heap.size 4 #[.bool false] ∧ Below w.heap.size w W) (fun cd F pre W => cd = .ret ∧ pre ≠ [] ∧ Blk W w.heap.size 4 #[.bool true] ∧ Below w.heap.size w W) ?hI ?hIx
  (fun pre x l o A hl h hr => gwR_put o h hr) (fun k hk => by have := HS2.out; omega) (fun k => k = w.heap.size) (fun k hk => by have := HS2.out; omega) ⟨rfl, rfl, HB1.out, HG2.out⟩
  (fun x a' => a' = { tmps := #[.slice A n c, undef, ptr w.heap.size, .slice A n c, .func (.func 136) #[] #[ptr (w.heap.size + 1)], .slice x.A x.n x.c], defers := [] }) ?assign ?body ?done ?stop
 case hI =>
  rintro F s X Y ⟨h1, h2, h3, h4⟩ hi
  exact ⟨h1, h2, hi.blk h3 (.inr h1), hi.below h4 (by have := HS2.out; omega) (Nat.le_refl _)⟩
 case hIx =>
  rintro cd F s X Y ⟨h1, h2, h3, h4⟩ hi
  exact ⟨h1, h2, hi.blk h3 (.inl (by have := HS2.out; omega)), hi.below h4 (by have := HS2.out; omega) (Nat.le_refl _)⟩
 case assign =>
  rintro l x X K hK
  unfold encR
  gi_wp2
  simp
 case body =>
  rintro l F pre x a' X hl - ⟨h1, h2, h3, h4⟩ - rfl
  have HF := Lib.hid h1
  have HB3 := Lib.hid h3
  have HG4 := Lib.hid h4
  have c0 := h3.cell 0
  have c1 := h3.frozen 0
  clear h1 h2 h3 h4
  gi_wp2
  exact ⟨F, Ro.setCell (p := ⟨w.heap.size, 0, none⟩) HF.out _, rfl, by simp, HB3.out.set_ 0 _, HG4.out.setCell (p := ⟨w.heap.size, 0, none⟩) (Nat.le_refl _) _⟩
 case done =>
  rintro D F xs X hD hS ⟨h1, rfl, h3, h4⟩ hK
  obtain rfl : rb = false := HRB.out.symm.trans (isRead_false (c := cq) hS.symm)
  have hne : w.heap.size ≠ D := by have := HS2.out; omega
  have c0 := h3.cell 0
  have c1 := h3.frozen 0
  have t0 := ((h3.set_ 0 (.bool false)).putObj hne (.deferred none)).cell 0
  have HK := Lib.hid (show (X.setCell ⟨w.heap.size, 0, none⟩ (.bool false)).heap[D]? = some (.deferred (some [])) from (Below.heap_setCell _ _ _ _ (fun e => hne e.symm)).trans hK)
  have HG5 := Lib.hid (put_below (h4.setCell (p := ⟨w.heap.size, 0, none⟩) (Nat.le_refl _) (.bool false)) (D := D) (by have := HS2.out; omega) (.deferred none))
  clear h1 h3 h4 hK hS
  gi_wp2
  refine ⟨by simp, .inl ⟨_, _, rfl, run_takeDeferred HK.out, ?_⟩⟩
  refine ⟨.bool false, ?_, rfl, HG5.out⟩
  simp [results, Tryz.results109, go_sem, t0]
 case stop =>
  rintro D F cd pre X hD ⟨post, hS⟩ ⟨rfl, hne0, h3, h4⟩ hK
  have hr : isRead cq = true := by
   cases pre with
   | nil => exact absurd rfl hne0
   | cons x pre => exact isRead_true hS
  obtain rfl : rb = true := HRB.out.symm.trans hr
  have hne : w.heap.size ≠ D := by have := HS2.out; omega
  have t0 := (h3.putObj hne (.deferred none)).cell 0
  have HK := Lib.hid hK
  have HG5 := Lib.hid (put_below h4 (D := D) (by have := HS2.out; omega) (.deferred none))
  clear h3 h4 hK hS hr
  gi_wp2
  refine ⟨by simp, .inl ⟨_, _, rfl, run_takeDeferred HK.out, ?_⟩⟩
  refine ⟨.bool true, ?_, rfl, HG5.out⟩
  simp [results, Tryz.results109, go_sem, t0]
end Go.Proofs.YtehhlgdkhecacaaGreat

namespace Go.Proofs.YtehhlgdkhecacaaGreat
open Go.RowKit Go.Shelf
attribute [local go_sem] Oper.semAt_some
/-- A look at one day, as a caller has it. -/
theorem look_one (A : Option Addr) (n c : Nat) (l : List Pf) (known : Int) (w : World) (ha : Prf w A n l) (hn : n ≤ 9223372036854775807) :
  Calls Tryz.prog 73 #[.slice A n c, .slice (some ⟨w.heap.size, 0, none⟩) 1 1] (w.alloc (.cells #[.int .i64 known] 3)) fun e w' =>
   ∃ v, e = .returned (.tuple #[v, .int .i64 (lookE (l.map Pf.q) [known])]) ∧ Below w.heap.size w w' ∧ (lookE (l.map Pf.q) [known] = 0 → ∃ D k d fl, v = .slice D k d ∧ fl.map Pf.q = cntL (l.map Pf.q) known ∧ Prf w' D k fl ∧ k ≤ 60 ∧ k ≤ d ∧ OwnL pcells 9 56 w' w.heap.size v fl ∧ fl.Sublist l ∧ okL (l.map Pf.q) = true) ∧ (lookE (l.map Pf.q) [known] ≠ 0 → v = .slice none 0 0) := by
 have g1 : Below w.heap.size w (w.alloc (.cells #[.int .i64 known] 3)) := one_more _ _
 have b1 : Blk (w.alloc (.cells #[.int .i64 known] 3)) w.heap.size 3 #[.int .i64 known] := Blk.new _ _ _
 refine (look_any A n c l (some ⟨w.heap.size, 0, none⟩) 1 1 [known] _ (ha.below g1) hn (one_int b1) (by decide) (by decide)).mono ?_
 rintro e w' ⟨⟨v, rfl, h1, h2⟩, hg⟩
 have hgw : Below w.heap.size w w' := g1.trans (hg.mono g1.size)
 refine ⟨v, rfl, hgw, fun h => ?_, h2⟩
 have ho := h1 h
 rw [show ([known] : List Int).getD (([known] : List Int).length - 1) 0 = known from rfl] at ho
 have hok : okL (l.map Pf.q) = true := by
  unfold lookE at h
  by_cases ho : okL (l.map Pf.q) = true
  ·exact ho
  ·rw [if_neg ho] at h; exact absurd h (by decide)
 obtain ⟨D, d, rfl, hd1, -, hp⟩ := own_prf ho (fun p hp => (ha.p p (List.mem_filter.1 hp).1).below hgw)
 have hl := okL_len hok
 rw [List.length_map] at hl
 exact ⟨D, _, d, _, rfl, filt_map l (fun q => cnt q known), hp, Nat.le_trans (List.length_filter_le _ _) hl, hd1, ho.mono g1.size, List.filter_sublist, hok⟩
theorem more_len {c : List Qf} : ∀ (k : Nat) (b : List Int), b.length + k = c.length → (∀ q ∈ c, q.per.length ≤ 4) → (moreK c k b).length ≤ (((c.drop b.length).map fun q => q.per.length).foldr (· * ·) 1)
 | 0, b, h, _ => by
  unfold moreK
  rw [List.drop_of_length_le (by omega)]
  simp
 | k + 1, b, h, hq => by
  unfold moreK
  rw [List.length_flatMap]
  have hb : b.length < c.length := by omega
  have e : c.drop b.length = c.getD b.length q0 :: c.drop (b.length + 1) := by
   rw [List.drop_eq_getElem_cons hb, List.getD_eq_getElem?_getD, List.getElem?_eq_getElem hb]; rfl
  rw [e, List.map_cons, List.foldr_cons]
  have ih : ∀ n, (moreK c k (b ++ [n])).length ≤ (((c.drop (b.length + 1)).map fun q => q.per.length).foldr (· * ·) 1) := fun n => by
   have := more_len k (b ++ [n]) (by simp; omega) hq
   rwa [List.length_append] at this
  generalize (((c.drop (b.length + 1)).map fun q => q.per.length).foldr (· * ·) 1) = M at ih ⊢
  have key : ∀ ns : List Int, (ns.map fun n => (moreK c k (b ++ [n])).length).sum ≤ ns.length * M := fun ns => by
   induction ns with
   | nil => simp
   | cons n ns ih2 =>
    rw [List.map_cons, List.sum_cons, List.length_cons, Nat.succ_mul]
    have := ih n
    omega
  exact Nat.le_trans (key _) (Nat.mul_le_mul_right _ (List.length_filter_le _ _))
theorem foldr_mul (l : List Nat) : ∀ m, l.foldl (· * ·) m = m * l.foldr (· * ·) 1 := by
 induction l with
 | nil => intro m; simp
 | cons x l ih => intro m; rw [List.foldl_cons, ih, List.foldr_cons, Nat.mul_assoc]
theorem many_filter : ∀ (l : List Qf) (f : Qf → Bool), (∀ q ∈ l, 1 ≤ q.per.length) → ((l.filter f).map fun q => q.per.length).foldr (· * ·) 1 ≤ (l.map fun q => q.per.length).foldr (· * ·) 1
 | [], _, _ => Nat.le_refl _
 | q :: l, f, h => by
  have ih := many_filter l f fun x hx => h x (List.mem_cons_of_mem _ hx)
  have hq := h q (by simp)
  rw [List.filter_cons]
  by_cases e : f q = true
  ·rw [if_pos e]
   exact Nat.mul_le_mul_left _ ih
  ·rw [if_neg e, List.map_cons, List.foldr_cons]
   exact Nat.le_trans ih (Nat.le_mul_of_pos_left _ hq)
theorem reads_len {l : List Qf} (h : okL l = true) (known : Int) : (reads (cntL l known)).length ≤ 2000 := by
 have hall := okL_all h
 have h1 : manyL l ≤ 2000 := by
  unfold okL at h
  simp only [Bool.and_eq_true, decide_eq_true_eq] at h
  exact h.1.2
 unfold manyL at h1
 rw [foldr_mul, Nat.one_mul] at h1
 have h2 := more_len (c := cntL l known) (cntL l known).length [] (by simp) (fun q hq => (isQf_per (hall q (List.mem_filter.1 hq).1)).2)
 unfold reads
 exact Nat.le_trans h2 (Nat.le_trans (many_filter l _ fun q hq => (isQf_per (hall q hq)).1) h1)
end Go.Proofs.YtehhlgdkhecacaaGreat

namespace Go.Proofs.YtehhlgdkhecacaaGreat
open Go.RowKit Go.Shelf
attribute [local go_sem] Oper.semAt_some
/-- What Readings returns. -/
def rdsN (l : List Qf) (known : Int) : Int := if lookE l [known] = 0 then (reads (cntL l known)).length else 0
set_option maxRecDepth 100000 in
set_option maxHeartbeats 8000000 in
theorem readingsF_any (A : Option Addr) (n c : Nat) (l : List Pf) (known : Int) (w : World) (ha : Prf w A n l) (hn : n ≤ 9223372036854775807) :
  Calls Tryz.prog 41 #[.slice A n c, .int .i64 known] w fun e w' => e = .returned (.tuple #[.int .i64 (rdsN (l.map Pf.q) known), .int .i64 (lookE (l.map Pf.q) [known])]) ∧ Below w.heap.size w w' := by
 have T := look_one A n c l known w ha hn
 have HRL := Lib.hid (fun (h : okL (l.map Pf.q) = true) => reads_len h known)
 have HRN := Lib.hid (show rdsN (l.map Pf.q) known = if lookE (l.map Pf.q) [known] = 0 then ((reads (cntL (l.map Pf.q) known)).length : Int) else 0 from rfl)
 obtain ⟨rn, hrn⟩ : ∃ s, rdsN (l.map Pf.q) known = s := ⟨_, rfl⟩
 obtain ⟨le, hle⟩ : ∃ s, lookE (l.map Pf.q) [known] = s := ⟨_, rfl⟩
 rw [hrn, hle] at HRN
 rw [hle] at T
 rw [hrn, hle]
 have HT := Lib.hid T
 clear T ha hrn hle
 by_cases hz : le = 0
 ·subst hz
  have hrn := HRN.out
  rw [if_pos rfl] at hrn
  have HRV := Lib.hid hrn
  clear hrn HRN
  refine (callsIn_wide (n := 4)).1 (callsIn_of_wp_marks Tryz.func41 rfl trivial ?_ rfl)
  simp only [Tryz.ntmps41, List.size_toArray, List.length_cons, List.length_nil, Nat.reduceAdd, Nat.reduceSub, Array.replicate_succ, Array.replicate_zero, List.push_toArray, List.append_toArray, List.nil_append, List.cons_append]
  gi_wp2_with fail
  refine ⟨trivial, (callsIn_wide.2 HT.out).mono ?_⟩
  rintro e V ⟨v, rfl, hg, h1, -⟩
  obtain ⟨D, k, d, fl, rfl, hfq, hp, hk60, -, -, -, hok⟩ := h1 (by trivial)
  obtain ⟨W2, hW2⟩ : ∃ X, (V.alloc (.cells #[.int .i64 0] 3)).alloc (.cells #[.slice D k d] 22) = X := ⟨_, rfl⟩
  have g2 : Below V.heap.size V W2 := by rw [← hW2]; exact two_more _ _ _
  have b1 : Blk W2 V.heap.size 3 #[.int .i64 0] := by rw [← hW2]; exact (Blk.new _ _ _).alloc _
  have b2 : Blk W2 (V.heap.size + 1) 22 #[.slice D k d] := by rw [← hW2]; exact blk_second2 _ _ _ _
  have hs2 : W2.heap.size = V.heap.size + 2 := by rw [← hW2]; simp
  have HSQ := Lib.hid (readings_seq V D k d fl hp (by omega) (V.heap.size + 1) W2 g2 b2)
  rw [hfq] at HSQ
  have hrl := HRL.out hok
  obtain ⟨cq, hcq⟩ : ∃ q, cntL (l.map Pf.q) known = q := ⟨_, rfl⟩
  rw [hcq] at HSQ hrl HRV
  have HRL2 := Lib.hid hrl
  have HGV := Lib.hid hg
  have HG2 := Lib.hid g2
  have HB1 := Lib.hid b1
  have HS2 := Lib.hid hs2
  have HW2 := Lib.hid hW2
  clear hcq hp hfq g2 b1 b2 hs2 hW2 h1 hok HRL HT hrl hg
  gi_wp2_with fail
  refine ⟨trivial, (callsIn_wide.2 (readings_any _ _ _ _)).mono ?_⟩
  rintro e w' ⟨rfl, hw'⟩
  rw [HW2.out] at hw'
  subst hw'
  rw [World.size_alloc]
  gi_wp2_with fail
  have HBL := Lib.hid (show V.heap.size < W2.heap.size by have := HS2.out; omega)
  refine wp_rangeW (α := Rd) (n := 4) (by omega) (gf := 136) (lb := #[ptr (V.heap.size + 1)]) rfl (enters_of Tryz.func136 (by kernel_rfl) rfl) HSQ.out (Below.refl _ _) (fun _ => rfl)
   (fun F pre W => F V.heap.size ∧ Blk W V.heap.size 3 #[.int .i64 pre.length] ∧ Below V.heap.size V W) (fun cd F pre W => False) ?hI ?hIx
   (fun pre x l o A hl h hr => gwR_put o h hr) (fun k hk => by have := HS2.out; omega) (fun k => k = V.heap.size) (fun k hk => by have := HS2.out; omega) ⟨rfl, HB1.out, HG2.out⟩
   (fun x a' => a' = { tmps := #[.slice A n c, .int .i64 known, undef, undef, .int .i64 0, .int .i64 0, .slice D k d, .int .i64 0, ptr V.heap.size, .tuple #[.slice D k d, .int .i64 0], .slice A n c, .int .i64 known, .slice (some ⟨w.heap.size, 0, none⟩) 1 1, .tuple #[.slice D k d, .int .i64 0], .slice D k d, .int .i64 0, .int .i64 0, .bool false, undef, .slice D k d, .func (.func 136) #[] #[ptr (V.heap.size + 1)], .slice x.A x.n x.c, undef, undef, undef], defers := [] }) ?assign ?body ?done ?stop
  case hI =>
   rintro F s X Y ⟨h1, h3, h4⟩ hi
   exact ⟨h1, hi.blk h3 (.inr h1), hi.below h4 (by have := HS2.out; omega) (Nat.le_refl _)⟩
  case hIx => exact fun cd F s X Y h _ => h
  case assign =>
   rintro l x X K hK
   unfold encR
   gi_wp2
   simp
  case body =>
   rintro l F pre x a' X hl - ⟨h1, h3, h4⟩ ⟨-, -, -, post, hpo⟩ rfl
   have hlen : pre.length + 1 ≤ 2000 := by
    have := congrArg List.length hpo
    rw [List.length_append, List.length_map, List.length_cons] at this
    have := HRL2.out
    omega
   obtain ⟨pl, hpl⟩ : ∃ q, pre.length = q := ⟨_, rfl⟩
   rw [hpl] at hlen h3
   have hwr : wrap64 ((pl : Int) + 1) = (pl : Int) + 1 := wrap_in (by omega)
   have HPL := Lib.hid hpl
   have HF := Lib.hid h1
   have HB3 := Lib.hid h3
   have HG4 := Lib.hid h4
   have c0 := h3.cell 0
   have c1 := h3.frozen 0
   clear h1 h3 h4 hpo hpl
   gi_wp2
   refine ⟨F, Ro.setCell (p := ⟨V.heap.size, 0, none⟩) HF.out _, HF.out, ?_, HG4.out.setCell (p := ⟨V.heap.size, 0, none⟩) (Nat.le_refl _) _⟩
   rw [List.length_append, List.length_singleton, HPL.out]
   have := HB3.out.set_ 0 (.int .i64 ((pl : Int) + 1))
   exact this
  case done =>
   rintro E F xs X hD hS ⟨h1, h3, h4⟩ hK
   have hl : (xs.length : Int) = rn := by
    rw [HRV.out, ← hS, List.length_map]
   rw [hl] at h3
   have hne : V.heap.size ≠ E := by have := HBL.out; omega
   have c0 := h3.cell 0
   have HK := Lib.hid hK
   have HG5 := Lib.hid (HGV.out.trans ((put_below h4 (D := E) (by have := HBL.out; omega) (.deferred none)).mono HGV.out.size))
   clear h1 h3 h4 hK hS hl
   gi_wp2
   refine ⟨by simp, .inl ⟨_, _, rfl, run_takeDeferred HK.out, ?_⟩⟩
   refine ⟨.tuple #[.int .i64 rn, .int .i64 0], ?_, rfl, HG5.out⟩
   simp [results, Tryz.results41, go_sem]
  case stop => exact fun E F cd pre X _ _ h _ => h.elim
 ·have hzb : (le != 0) = true := by simpa using hz
  have hrn := HRN.out
  rw [if_neg hz] at hrn
  subst hrn
  have HZ := Lib.hid hz
  clear hz
  go_enter Tryz.func41, Tryz.ntmps41
  go_wp2_with (go_at_call 73; (with_reducible refine (HT.out).mono ?_); rintro e V ⟨v, rfl, hg, -, -⟩; have GV := Lib.hid hg; clear hg)
  go_ret2
  exact ⟨rfl, GV.out⟩
end Go.Proofs.YtehhlgdkhecacaaGreat

namespace Go.Proofs.YtehhlgdkhecacaaGreat
open Go.RowKit Go.Shelf
attribute [local go_sem] Oper.semAt_some
theorem own_it {α : Type} {f : α → List Value} {size : Nat} {e : TypeId} {D : Nat} {F : Nat → Prop} {X Y : World} {base : Nat} {v : Value} {xs : List α} (h : OwnL f size e X base v xs) (hi : It D F X Y) (hF : ∀ k, v.ownBlock = some k → F k) : OwnL f size e Y base v xs := by
 obtain ⟨h1, h2 | ⟨g, cap, cur, hv, hb, hg, h4⟩⟩ := h
 ·exact ⟨h1, .inl h2⟩
 ·exact ⟨h1, .inr ⟨g, cap, cur, hv, hb, (hi.mine g (Array.getElem?_eq_some_iff.1 hg).1 (hF g (by rw [hv]; rfl))).trans hg, h4⟩⟩
theorem own_far {α : Type} {f : α → List Value} {size : Nat} {e : TypeId} {X : World} {base : Nat} {v : Value} {xs : List α} (h : OwnL f size e X base v xs) {p : Addr} (hp : ∀ k, v.ownBlock = some k → k ≠ p.block) (u : Value) : OwnL f size e (X.setCell p u) base v xs := by
 obtain ⟨h1, h2 | ⟨g, cap, cur, hv, hb, hg, h4⟩⟩ := h
 ·exact ⟨h1, .inl h2⟩
 ·exact ⟨h1, .inr ⟨g, cap, cur, hv, hb, (Below.heap_setCell _ _ _ _ (hp g (by rw [hv]; rfl))).trans hg, h4⟩⟩
theorem ro_more {F G : Nat → Prop} {A B : World} (h : Ro F F A B) (hG : ∀ k, G k → A.heap.size ≤ k ∧ k < B.heap.size) : Ro F (fun k => F k ∨ G k) A B :=
 ⟨h.os, h.tape, h.output, h.size, h.keep, fun k hk => by
  rcases hk with hk | hk
  ·exact .inl hk
  ·exact .inr (hG k hk)⟩
theorem own_put {α : Type} {f : α → List Value} {size : Nat} {e : TypeId} {X : World} {base : Nat} {v : Value} {xs : List α} (h : OwnL f size e X base v xs) {D : Nat} (hD : ∀ k, v.ownBlock = some k → k ≠ D) (o : Obj) : OwnL f size e (X.putObj D o) base v xs := by
 obtain ⟨h1, h2 | ⟨g, cap, cur, hv, hb, hg, h4⟩⟩ := h
 ·exact ⟨h1, .inl h2⟩
 ·exact ⟨h1, .inr ⟨g, cap, cur, hv, hb, (World.putObj_heap_other (hD g (by rw [hv]; rfl))).trans hg, h4⟩⟩
/-- The error of Reading, and what it returns. -/
def rdE (l : List Qf) (known k : Int) : Int := if lookE l [known] = 0 then (if 0 ≤ k ∧ k < (reads (cntL l known)).length then 0 else 3) else lookE l [known]
def rdV (l : List Qf) (known k : Int) : List Int := if rdE l known k = 0 then (reads (cntL l known)).getD k.toNat [] else []
def RdEnd (l : List Qf) (known k : Int) (w : World) (e : Ending) (w' : World) : Prop :=
 (∃ D m d, e = .returned (.tuple #[.slice D m d, .int .i64 (rdE l known k)]) ∧ m ≤ d ∧ d ≤ maxLen ∧ Ints w' D m (rdV l known k)) ∧ Below w.heap.size w w'
theorem rdEnd_no {l : List Qf} {known k x : Int} {w V : World} (h : rdE l known k = x) (hx : x ≠ 0) (hg : Below w.heap.size w V) : RdEnd l known k w (.returned (.tuple #[.slice none 0 0, .int .i64 x])) V :=
 ⟨⟨_, _, _, by rw [h], Nat.le_refl _, Nat.zero_le _, by unfold rdV; rw [if_neg (fun e => hx (h.symm.trans e))]; exact Arr.nil_⟩, hg⟩
theorem rdEnd_ok {l : List Qf} {known k : Int} {w V : World} {D : Option Addr} {m d : Nat} (h : rdE l known k = 0) (h1 : m ≤ d) (h2 : d ≤ maxLen) (hi : Ints V D m ((reads (cntL l known)).getD k.toNat [])) (hg : Below w.heap.size w V) : RdEnd l known k w (.returned (.tuple #[.slice D m d, .int .i64 0])) V :=
 ⟨⟨_, _, _, by rw [h], h1, h2, by unfold rdV; rw [if_pos h]; exact hi⟩, hg⟩
/-- What a round that says 'no more' leaves: the count and the reading that was sought. -/
def RdStop (cq : List Qf) (nth : Int) (B : Nat) (F : Nat → Prop) (W : World) : Prop :=
 (nth < 0 ∧ Blk W B 3 #[.int .i64 0] ∧ Blk W (B + 1) 25 #[.slice none 0 0]) ∨
 (0 ≤ nth ∧ nth < (reads cq).length ∧ Blk W B 3 #[.int .i64 (nth + 1)] ∧ ∃ D m d, Blk W (B + 1) 25 #[.slice D m d] ∧ m ≤ d ∧ d ≤ maxLen ∧ OwnL icells 1 3 W B (.slice D m d) ((reads cq).getD nth.toNat []) ∧ ∀ k, Value.ownBlock (.slice D m d) = some k → F k)
theorem RdStop.it {cq : List Qf} {nth : Int} {B D : Nat} {F : Nat → Prop} {X Y : World} (h : RdStop cq nth B F X) (h1 : F B) (h2 : F (B + 1)) (hi : It D F X Y) : RdStop cq nth B F Y := by
 rcases h with ⟨a, b, c⟩ | ⟨a, a2, b, E, m, d, c, e1, e2, o, f⟩
 ·exact .inl ⟨a, hi.blk b (.inr h1), hi.blk c (.inr h2)⟩
 ·exact .inr ⟨a, a2, hi.blk b (.inr h1), E, m, d, hi.blk c (.inr h2), e1, e2, own_it o hi f, f⟩
set_option maxRecDepth 100000 in
set_option maxHeartbeats 8000000 in
theorem readingF_any (A : Option Addr) (n c : Nat) (l : List Pf) (known nth : Int) (w : World) (ha : Prf w A n l) (hn : n ≤ 9223372036854775807) :
  Calls Tryz.prog 44 #[.slice A n c, .int .i64 known, .int .i64 nth] w (RdEnd (l.map Pf.q) known nth w) := by
 obtain ⟨W1, hW1⟩ : ∃ X, w.alloc (.cells #[.int .i64 nth] 3) = X := ⟨_, rfl⟩
 have g1 : Below w.heap.size w W1 := by rw [← hW1]; exact one_more _ _
 have bn1 : Blk W1 w.heap.size 3 #[.int .i64 nth] := by rw [← hW1]; exact Blk.new _ _ _
 have hs1 : W1.heap.size = w.heap.size + 1 := by rw [← hW1]; simp
 have T := look_one A n c l known W1 (ha.below g1) hn
 rw [hs1] at T
 have HRL := Lib.hid (fun (h : okL (l.map Pf.q) = true) => reads_len h known)
 have HRN := Lib.hid (show rdE (l.map Pf.q) known nth = if lookE (l.map Pf.q) [known] = 0 then (if 0 ≤ nth ∧ nth < (reads (cntL (l.map Pf.q) known)).length then 0 else 3) else lookE (l.map Pf.q) [known] from rfl)
 have HREQ := Lib.hid (fun (x : Int) (h : rdE (l.map Pf.q) known nth = x) => h)
 obtain ⟨le, hle⟩ : ∃ s, lookE (l.map Pf.q) [known] = s := ⟨_, rfl⟩
 rw [hle] at HRN
 rw [hle] at T
 have HT := Lib.hid T
 have HBN1 := Lib.hid bn1
 have G1 := Lib.hid g1
 have HW1 := Lib.hid hW1
 have HS1 := Lib.hid hs1
 clear T ha hle bn1 g1 hW1 hs1
 by_cases hz : le = 0
 ·subst hz
  have hrn := HRN.out
  rw [if_pos rfl] at hrn
  have HRV := Lib.hid hrn
  clear hrn HRN
  refine (callsIn_wide (n := 4)).1 (callsIn_of_wp_marks Tryz.func44 rfl trivial ?_ rfl)
  simp only [Tryz.ntmps44, List.size_toArray, List.length_cons, List.length_nil, Nat.reduceAdd, Nat.reduceSub, Array.replicate_succ, Array.replicate_zero, List.push_toArray, List.append_toArray, List.nil_append, List.cons_append]
  gi_wp2_with fail
  rw [HW1.out]
  refine wpIn_wide.2 (wp_scope_straight ((wpIn_wide (n := 4)).1 ?_))
  gi_wp2_with fail
  rw [HS1.out]
  refine ⟨trivial, (callsIn_wide.2 HT.out).mono ?_⟩
  rintro e V ⟨v, rfl, hg, h1, -⟩
  obtain ⟨D, k, d, fl, rfl, hfq, hp, hk60, -, -, -, hok⟩ := h1 (by trivial)
  rw [← HS1.out] at hg
  obtain ⟨W2, hW2⟩ : ∃ X, ((V.alloc (.cells #[.int .i64 0] 3)).alloc (.cells #[.slice none 0 0] 25)).alloc (.cells #[.slice D k d] 22) = X := ⟨_, rfl⟩
  have g2 : Below V.heap.size V W2 := by rw [← hW2]; exact three_more _ _ _ _
  have b1 : Blk W2 V.heap.size 3 #[.int .i64 0] := by rw [← hW2]; exact ((Blk.new _ _ _).alloc _).alloc _
  have b0 : Blk W2 (V.heap.size + 1) 25 #[.slice none 0 0] := by rw [← hW2]; exact (blk_second2 _ _ _ _).alloc _
  have b2 : Blk W2 (V.heap.size + 1 + 1) 22 #[.slice D k d] := by
   rw [← hW2]; have := Blk.new ((V.alloc (.cells #[.int .i64 0] 3)).alloc (.cells #[.slice none 0 0] 25)) 22 #[.slice D k d]; rw [World.size_alloc, World.size_alloc] at this; exact this
  have hs2 : W2.heap.size = V.heap.size + 3 := by rw [← hW2]; simp
  have HSQ := Lib.hid (readings_seq V D k d fl hp (by omega) (V.heap.size + 1 + 1) W2 g2 b2)
  rw [hfq] at HSQ
  have hrl := HRL.out hok
  obtain ⟨cq, hcq⟩ : ∃ q, cntL (l.map Pf.q) known = q := ⟨_, rfl⟩
  rw [hcq] at HSQ hrl HRV
  have HCQ := Lib.hid hcq
  have hcl : cq.length ≤ 60 := by rw [← hcq, ← hfq, List.length_map, hp.len]; exact hk60
  have HRL2 := Lib.hid hrl
  have HGV := Lib.hid hg
  have HG2 := Lib.hid g2
  have HB1 := Lib.hid b1
  have HB0 := Lib.hid b0
  have HBN := Lib.hid ((HBN1.out.ext hg).ext g2)
  have HS2 := Lib.hid hs2
  have HW2 := Lib.hid hW2
  have HVS := Lib.hid (show w.heap.size < V.heap.size from (HBN1.out.ext hg).lt)
  clear hcq hp hfq g2 b1 b2 b0 hs2 hW2 h1 hok HRL HT hrl hg
  have n0 := HBN.out.cell 0
  gi_wp2_with fail
  refine wpIn_label ?_
  gi_wp2_with fail
  refine ⟨trivial, (callsIn_wide.2 (readings_any _ _ _ _)).mono ?_⟩
  rintro e w' ⟨rfl, hw'⟩
  rw [HW2.out] at hw'
  subst hw'
  rw [World.size_alloc, World.size_alloc]
  gi_wp2_with fail
  have HBL := Lib.hid (show V.heap.size + 1 < W2.heap.size by have := HS2.out; omega)
  have HCL := Lib.hid hcl
  clear hcl n0
  have HNB := Lib.hid (HBN1.out.ext HGV.out)
  refine wp_rangeW (α := Rd) (n := 4) (by omega) (gf := 136) (lb := #[ptr (V.heap.size + 1 + 1)]) rfl (enters_of Tryz.func136 (by kernel_rfl) rfl) HSQ.out (Below.refl _ _) (fun _ => rfl)
   (fun F pre W => F V.heap.size ∧ F (V.heap.size + 1) ∧ Blk W V.heap.size 3 #[.int .i64 pre.length] ∧ Blk W (V.heap.size + 1) 25 #[.slice none 0 0] ∧ Below V.heap.size V W ∧ (nth < 0 → pre = []) ∧ (0 ≤ nth → (pre.length : Int) ≤ nth))
   (fun cd F pre W => cd = .exit 0 ∧ F V.heap.size ∧ F (V.heap.size + 1) ∧ Below V.heap.size V W ∧ RdStop cq nth V.heap.size F W) ?hI ?hIx
   (fun pre x l o A hl h hr => gwR_put o h hr) (fun k hk => by have := HS2.out; omega) (fun k => k = V.heap.size ∨ k = V.heap.size + 1) (fun k hk => by have := HS2.out; omega) ⟨.inl rfl, .inr rfl, HB1.out, HB0.out, HG2.out, fun _ => rfl, fun h => h⟩
   (fun x a' => a' = { tmps := #[.slice A n c, .int .i64 known, .int .i64 nth, undef, undef, ptr w.heap.size, .slice none 0 0, .int .i64 0, .slice D k d, .int .i64 0, ptr V.heap.size, ptr (V.heap.size + 1), .slice x.A x.n x.c, .tuple #[.slice D k d, .int .i64 0], .slice A n c, .int .i64 known, .slice (some ⟨w.heap.size + 1, 0, none⟩) 1 1, .tuple #[.slice D k d, .int .i64 0], .slice D k d, .int .i64 0, .int .i64 0, .bool false, undef, .slice D k d, .func (.func 136) #[] #[ptr (V.heap.size + 1 + 1)], .slice x.A x.n x.c, undef, undef, undef, undef, undef, undef, undef, undef, undef, undef, undef, undef, undef, undef, undef, undef, undef, undef, undef, undef, undef], defers := [] }) ?assign ?body ?done ?stop
  case hI =>
   rintro F s X Y ⟨h1, h2, h3, h4, h5, h6⟩ hi
   exact ⟨h1, h2, hi.blk h3 (.inr h1), hi.blk h4 (.inr h2), hi.below h5 (by have := HS2.out; omega) (Nat.le_refl _), h6⟩
  case hIx =>
   rintro cd F s X Y ⟨h0, h1, h2, h5, h6⟩ hi
   exact ⟨h0, h1, h2, hi.below h5 (by have := HS2.out; omega) (Nat.le_refl _), h6.it h1 h2 hi⟩
  case assign =>
   rintro l x X K hK
   unfold encR
   gi_wp2
   simp
  case body =>
   rintro l F pre x a' X hl - ⟨h1, h2, h3, h4, h5, h6, h7⟩ ⟨hgi, hgn, -, post, hpo⟩ rfl
   have hxr : isRd cq x.r = true := mem_reads.1 (by rw [← hpo]; simp)
   have hxl : x.n ≤ 1000000 := by
    have := (isRd_zip.1 hxr).1
    rw [hgi.1] at this
    have := HCL.out
    omega
   have hlen : pre.length + 1 ≤ 2000 := by
    have := congrArg List.length hpo
    rw [List.length_append, List.length_map, List.length_cons] at this
    have := HRL2.out
    omega
   have HAT := Lib.hid (show (reads cq).getD pre.length [] = x.r by
    rw [← hpo, List.getD_eq_getElem?_getD, List.getElem?_append_right (by rw [List.length_map]; exact Nat.le_refl _), List.length_map, Nat.sub_self]; rfl)
   have HLT := Lib.hid (show pre.length < (reads cq).length by
    have := congrArg List.length hpo
    rw [List.length_append, List.length_map, List.length_cons] at this
    omega)
   obtain ⟨pl, hpl⟩ : ∃ q, pre.length = q := ⟨_, rfl⟩
   rw [hpl] at hlen h3 h7 HAT HLT
   have hwr : wrap64 ((pl : Int) + 1) = (pl : Int) + 1 := wrap_in (by omega)
   have HPL := Lib.hid hpl
   have HF := Lib.hid h1
   have HF2 := Lib.hid h2
   have HB3 := Lib.hid h3
   have HB4 := Lib.hid h4
   have HG4 := Lib.hid h5
   have H6 := Lib.hid h6
   have H7 := Lib.hid h7
   have nb := HNB.out.ext h5
   have c0 := h3.cell 0
   have c1 := h3.frozen 0
   have c2 := nb.cell 0
   have c3 := h4.cell 0
   have c4 := h4.frozen 0
   have TC := Lib.hid (cloneI_any x.A x.n x.c x.r X hgi hxl)
   clear h1 h2 h3 h4 h5 h6 h7 hpo hpl nb hgi hgn hxr hxl
   by_cases hneg : nth < 0
   ·have hd : decide (nth < 0) = true := decide_eq_true hneg
    have hpre := H6.out hneg
    have HNG := Lib.hid hneg
    clear hneg
    gi_wp2
    refine ⟨F, Ro.refl _ _, rfl, HF.out, HF2.out, HG4.out, .inl ⟨HNG.out, ?_, HB4.out⟩⟩
    have h0 : pl = 0 := by rw [← HPL.out, hpre]; rfl
    have := HB3.out
    rw [h0] at this
    exact this
   ·have hd : decide (nth < 0) = false := decide_eq_false hneg
    have HNG := Lib.hid hneg
    by_cases hat : (pl : Int) = nth
    ·have hab : ((pl : Int) == nth) = true := by simpa using hat
     have HATN := Lib.hid hat
     clear hneg hat
     gi_wp2_with (refine ⟨trivial, (CallsIn.inRound l (callsIn_wide.2 TC.out)).mono ?_⟩; rintro e V3 ⟨⟨v, rfl, ho⟩, hg⟩; obtain ⟨D3, d3, hv3, hd3, hd4, -, -⟩ := OwnL.arr kdI ho; obtain ⟨k3, hk3⟩ : ∃ q, x.r.length = q := ⟨_, rfl⟩; rw [hk3] at hv3; subst hv3; have HO3 := Lib.hid ho; have HG3 := Lib.hid hg; have HD3 := Lib.hid (show k3 ≤ d3 ∧ d3 ≤ maxLen from ⟨hk3 ▸ hd3, hd4⟩); have r0 := (HB3.out.ext hg).cell 0; have r1 := (HB3.out.ext hg).frozen 0; have r2 := (HB4.out.ext hg).cell 0; have r3 := (HB4.out.ext hg).frozen 0; have s0 := ((HB3.out.ext hg).far (p := ⟨V.heap.size + 1, 0, none⟩) (by show V.heap.size ≠ V.heap.size + 1; omega) (.slice D3 k3 d3)).cell 0; have s1 := ((HB3.out.ext hg).far (p := ⟨V.heap.size + 1, 0, none⟩) (by show V.heap.size ≠ V.heap.size + 1; omega) (.slice D3 k3 d3)).frozen 0; clear ho hg hd3 hd4 c0 c1 c2 c3 c4 hk3)
     have HOB := Lib.hid (fun (k : Nat) (e : Value.ownBlock (.slice D3 k3 d3) = some k) => (⟨(own_block HO3.out e).1, by obtain ⟨-, cur, hb⟩ := own_block HO3.out e; exact hb.lt⟩ : X.heap.size ≤ k ∧ k < V3.heap.size))
     have hXV := HB4.out.lt
     have hne1 : V.heap.size + 1 ≠ V.heap.size := by omega
     refine ⟨fun k => F k ∨ Value.ownBlock (.slice D3 k3 d3) = some k, ro_more (((Ro.of_below HG3.out).trans (Ro.setCell (p := ⟨V.heap.size + 1, 0, none⟩) HF2.out _)).trans (Ro.setCell (p := ⟨V.heap.size, 0, none⟩) HF.out _)) (fun k hk => ?_), rfl, .inl HF.out, .inl HF2.out, ?_, .inr ⟨by have := HNG.out; omega, by have := HLT.out; have := HATN.out; omega, ?_, D3, k3, d3, ?_, HD3.out.1, HD3.out.2, ?_, fun k hk => .inr hk⟩⟩
     ·have h1 := HOB.out k hk
      simp [World.setCell]
      omega
     ·exact ((HG4.out.trans (HG3.out.mono HG4.out.size)).setCell (p := ⟨V.heap.size + 1, 0, none⟩) (by show V.heap.size ≤ V.heap.size + 1; omega) _).setCell (p := ⟨V.heap.size, 0, none⟩) (Nat.le_refl _) _
     ·have := (((HB3.out.ext HG3.out).far (p := ⟨V.heap.size + 1, 0, none⟩) (by show V.heap.size ≠ V.heap.size + 1; omega) (.slice D3 k3 d3)).set_ 0 (.int .i64 ((pl : Int) + 1)))
      rw [show (nth : Int) + 1 = (pl : Int) + 1 by rw [HATN.out]]
      exact this
     ·have := ((HB4.out.ext HG3.out).set_ 0 (.slice D3 k3 d3)).far (p := ⟨V.heap.size, 0, none⟩) hne1 (.int .i64 ((pl : Int) + 1))
      exact this
     ·have e1 : nth.toNat = pl := by have := HATN.out; omega
      rw [e1, HAT.out]
      refine OwnL.mono (own_far (own_far HO3.out (fun k hk => ?_) _) (fun k hk => ?_) _) HG4.out.size
      ·have := (HOB.out k hk).1
       show k ≠ V.heap.size + 1
       omega
      ·have := (HOB.out k hk).1
       show k ≠ V.heap.size
       omega
    ·have hab : ((pl : Int) == nth) = false := by simpa using hat
     have HATN := Lib.hid hat
     clear hneg hat
     gi_wp2
     refine ⟨F, Ro.setCell (p := ⟨V.heap.size, 0, none⟩) HF.out _, HF.out, HF2.out, ?_, HB4.out.far (p := ⟨V.heap.size, 0, none⟩) (by show V.heap.size + 1 ≠ V.heap.size; omega) _, HG4.out.setCell (p := ⟨V.heap.size, 0, none⟩) (Nat.le_refl _) _, fun h => absurd h (by have := HNG.out; omega), fun h => ?_⟩
     ·rw [List.length_append, List.length_singleton, HPL.out]
      have := HB3.out.set_ 0 (.int .i64 ((pl : Int) + 1))
      exact this
     ·rw [List.length_append, List.length_singleton, HPL.out]
      have h1 := H7.out h
      have h2 := HATN.out
      omega
  case done =>
   rintro E F xs X hD hS ⟨h1, h2, h3, h4, h5, h6, h7⟩ hK
   have hl : xs.length = (reads cq).length := by rw [← hS, List.length_map]
   have hrd : rdE (l.map Pf.q) known nth = 3 := by
    rw [HRV.out, if_neg]
    rintro ⟨a, b⟩
    have := h7 a
    omega
   have HRD := Lib.hid hrd
   have nb := HNB.out.ext h5
   have c0 := h3.cell 0
   have c2 := nb.cell 0
   obtain ⟨xl, hxl⟩ : ∃ q, xs.length = q := ⟨_, rfl⟩
   rw [hxl] at c0 h7
   have HK := Lib.hid hK
   have HG5 := Lib.hid (G1.out.trans ((HGV.out.trans ((put_below h5 (D := E) (by have := HBL.out; omega) (.deferred none)).mono HGV.out.size)).mono G1.out.size))
   clear h1 h2 h3 h4 h5 h6 hK hS hl nb hxl hrd
   by_cases hneg : nth < 0
   ·have hd : decide (nth < 0) = true := decide_eq_true hneg
    clear hneg h7
    gi_wp2
    refine ⟨by simp, .inl ⟨_, _, rfl, run_takeDeferred HK.out, ?_⟩⟩
    refine ⟨.tuple #[.slice none 0 0, .int .i64 3], ?_, rdEnd_no HRD.out (by decide) HG5.out⟩
    simp [results, Tryz.results44, go_sem]
   ·have hd : decide (nth < 0) = false := decide_eq_false hneg
    have hd2 : decide ((xl : Int) ≤ nth) = true := decide_eq_true (h7 (by omega))
    clear hneg h7
    gi_wp2
    refine ⟨by simp, .inl ⟨_, _, rfl, run_takeDeferred HK.out, ?_⟩⟩
    refine ⟨.tuple #[.slice none 0 0, .int .i64 3], ?_, rdEnd_no HRD.out (by decide) HG5.out⟩
    simp [results, Tryz.results44, go_sem]
  case stop =>
   rintro E F cd pre X hD - ⟨rfl, h1, h2, h5, h6⟩ hK
   have nb := HNB.out.ext h5
   have c2 := nb.cell 0
   have HK := Lib.hid hK
   have HG5 := Lib.hid (G1.out.trans ((HGV.out.trans ((put_below h5 (D := E) (by have := HBL.out; omega) (.deferred none)).mono HGV.out.size)).mono G1.out.size))
   rcases h6 with ⟨hneg, h3, h4⟩ | ⟨hpos, hlt, h3, D3, m3, d3, h4, e1, e2, ho, -⟩
   ·have hd : decide (nth < 0) = true := decide_eq_true hneg
    have HRD := Lib.hid (show rdE (l.map Pf.q) known nth = 3 by
     rw [HRV.out, if_neg]
     rintro ⟨a, b⟩
     omega)
    have c0 := h3.cell 0
    clear h1 h2 h3 h4 h5 hK nb hneg
    gi_wp2
    refine ⟨by simp, .inl ⟨_, _, rfl, run_takeDeferred HK.out, ?_⟩⟩
    refine ⟨.tuple #[.slice none 0 0, .int .i64 3], ?_, rdEnd_no HRD.out (by decide) HG5.out⟩
    simp [results, Tryz.results44, go_sem]
   ·have hd : decide (nth < 0) = false := decide_eq_false (by omega)
    have hd2 : decide (nth + 1 ≤ nth) = false := decide_eq_false (by omega)
    have HRD := Lib.hid (show rdE (l.map Pf.q) known nth = 0 by rw [HRV.out, if_pos ⟨hpos, hlt⟩])
    have c0 := h3.cell 0
    have c3 := h4.cell 0
    have hne : ∀ k, Value.ownBlock (.slice D3 m3 d3) = some k → k ≠ E := fun k hk e => by
     obtain ⟨-, cur, hb⟩ := own_block ho hk
     rw [e] at hb
     have := (show X.heap[E]? = _ from hb).symm.trans hK
     cases this
    have hop := own_put ho hne (.deferred none)
    obtain ⟨A9, c9, e9, -, -, hi9, -⟩ := OwnL.arr kdI hop
    cases e9
    have HI9 := Lib.hid hi9
    have HE12 := Lib.hid (show ((reads cq).getD nth.toNat []).length ≤ d3 ∧ d3 ≤ maxLen from ⟨e1, e2⟩)
    obtain ⟨q9, hq9⟩ : ∃ q, ((reads cq).getD nth.toNat []).length = q := ⟨_, rfl⟩
    rw [hq9] at c3 HI9 HE12
    clear h1 h2 h3 h4 h5 hK nb hpos hlt ho hop hne hi9 e1 e2 hq9
    gi_wp2
    refine ⟨by simp, .inl ⟨_, _, rfl, run_takeDeferred HK.out, ?_⟩⟩
    refine ⟨.tuple #[.slice D3 q9 d3, .int .i64 0], ?_, rdEnd_ok HRD.out HE12.out.1 HE12.out.2 (by rw [HCQ.out]; exact HI9.out) HG5.out⟩
    simp [results, Tryz.results44, go_sem]
 ·have hzb : (le != 0) = true := by simpa using hz
  have hrn := HRN.out
  rw [if_neg hz] at hrn
  have HRD := Lib.hid hrn
  have HZ := Lib.hid hz
  clear hz hrn
  refine (callsIn_wide (n := 4)).1 (callsIn_of_wp_marks Tryz.func44 rfl trivial ?_ rfl)
  simp only [Tryz.ntmps44, List.size_toArray, List.length_cons, List.length_nil, Nat.reduceAdd, Nat.reduceSub, Array.replicate_succ, Array.replicate_zero, List.push_toArray, List.append_toArray, List.nil_append, List.cons_append]
  gi_wp2_with fail
  rw [HW1.out]
  refine wpIn_wide.2 (wp_scope_straight ((wpIn_wide (n := 4)).1 ?_))
  gi_wp2_with fail
  rw [HS1.out]
  refine ⟨trivial, (callsIn_wide.2 HT.out).mono ?_⟩
  rintro e V ⟨v, rfl, hg, -, -⟩
  have GV := Lib.hid (G1.out.trans ((show Below W1.heap.size W1 V by rw [HS1.out]; exact hg).mono G1.out.size))
  clear hg
  gi_wp2_with fail
  refine ⟨.tuple #[.slice none 0 0, .int .i64 le], ?_, rdEnd_no HRD.out HZ.out GV.out⟩
  simp [results, Tryz.results44, go_sem]
end Go.Proofs.YtehhlgdkhecacaaGreat

namespace Go.Proofs.YtehhlgdkhecacaaGreat
open Go.RowKit Go.Shelf Go.Maps
theorem pairKey : WideMaps.ArrKey Tryz.prog 65 3 2 := ⟨Tryz.underlying65, by kernel_rfl, by kernel_rfl, by kernel_rfl⟩
theorem pairLaw : WideMaps.KeyLaw Tryz.prog 65 := pairKey.law
/-- A number of 64 bits. -/
abbrev In64 (n : Int) : Prop := (Lit.int .i64 n).wf = true
theorem in64_of {n : Int} (h : -9223372036854775808 ≤ n ∧ n ≤ 9223372036854775807) : In64 n := by
 simp only [In64, Lit.wf]
 simp [IntKind.min, IntKind.max, IntKind.bits, IntKind.signed]
 omega
abbrev kv (p d : Int) : Value := .agg #[.int .i64 p, .int .i64 d]
theorem keyOf_kv {p d : Int} (hp : In64 p) (hd : In64 d) : ∃ l, keyOf Tryz.prog 65 (kv p d) = some l := by
 obtain ⟨m0, hm0⟩ : ∃ m, Tryz.prog.types.size = m + 1 := by
  have h : (Tryz.prog.types.size == 0) = false := by kernel_rfl
  cases hs : Tryz.prog.types.size with
  | zero => rw [hs] at h; cases h
  | succ m => exact ⟨m, rfl⟩
 have hkt := pairKey.keyType ⟨m0, hm0⟩
 have hL : Tryz.prog.keyLits (m0 + 1 + 1) 65 [.int .i64 p, .int .i64 d] = some [.int .i64 p, .int .i64 d] := by
  have he : ∀ x, In64 x → Tryz.prog.keyLits (m0 + 1) 3 [.int .i64 x] = some [.int .i64 x] := fun x hx => by
   unfold Program.keyLits
   rw [Tryz.underlying3]
   simp only [true_and]
   rw [if_pos hx]
  unfold Program.keyLits
  rw [Tryz.underlying65]
  simp only [pairKey.size, pairKey.one]
  rw [if_pos (by rfl)]
  simp [List.range_succ, he p hp, he d hd]
 refine ⟨.string (keyBytes [.int .i64 p, .int .i64 d]), ?_⟩
 unfold keyOf
 simp only [Tryz.underlying65]
 rw [if_pos (by simp [hkt, Value.formed, Tryz.underlying65, pairKey.size]), hm0]
 show Option.map _ (Tryz.prog.keyLits (m0 + 1 + 1) 65 [.int .i64 p, .int .i64 d]) = _
 rw [hL]
 rfl
/-- What the map holds is right. -/
def Good (c : List Qf) (r : List Int) (es : Array MapEntry) : Prop := ∀ e ∈ es.toList, ∃ p d, In64 p ∧ In64 d ∧ e.key = kv p d ∧ e.val = .int .i64 (setS c r p d)
theorem Good.nil (c : List Qf) (r : List Int) : Good c r #[] := fun e he => absurd he (by simp)
theorem Good.keys {c : List Qf} {r : List Int} {es : Array MapEntry} (h : Good c r es) : ∀ e ∈ es.toList, ∃ l, keyOf Tryz.prog 65 e.key = some l := fun e he => by
 obtain ⟨p, d, hp, hd, hk, -⟩ := h e he
 rw [hk]
 exact keyOf_kv hp hd
theorem kv_inj {p d p' d' : Int} (h : kv p d = kv p' d') : p = p' ∧ d = d' := by
 simp only [kv, Value.agg.injEq] at h
 have := congrArg Array.toList h
 simpa using this
theorem run_look {w : World} {b : Nat} {es : Array MapEntry} {clock : Nat} (hb : MapAt w b es clock) {c : List Qf} {r : List Int} (hg : Good c r es) {p d : Int} (hp : In64 p) (hd : In64 d) :
  ∃ (is : Bool) (v : Int), (is = true → v = setS c r p d) ∧ (Instr.lookup 139 (.map (some b)) (kv p d) true).run Tryz.prog w = .ok (.tuple #[.int .i64 v, .bool is]) w := by
 obtain ⟨lk, hlk⟩ := keyOf_kv hp hd
 have h1 := pairLaw.check w es.isEmpty hlk
 rcases pairLaw.find w hlk es.toList hg.keys with ⟨h2, -⟩ | ⟨j, e, h2, h3, h4⟩
 ·refine ⟨false, 0, fun h => absurd h (by simp), ?_⟩
  simp [Instr.lookup, run_underlying Tryz.underlying139, MapKept.run_getObj_map hb, h1, h2, Result.andThen, Tryz.zeroValue3]
 ·obtain ⟨p', d', -, -, hk, hv⟩ := hg e (List.mem_of_getElem? h3)
  rw [h4] at hk
  obtain ⟨rfl, rfl⟩ := kv_inj hk
  refine ⟨true, setS c r p d, fun _ => rfl, ?_⟩
  simp [Instr.lookup, run_underlying Tryz.underlying139, MapKept.run_getObj_map hb, h1, h2, hv, Result.andThen]
theorem run_seen {w : World} {b : Nat} {es : Array MapEntry} {clock : Nat} (hb : MapAt w b es clock) {c : List Qf} {r : List Int} (hg : Good c r es) {p d : Int} (hp : In64 p) (hd : In64 d) :
  ∃ es' clock', (Instr.mapUpdate 139 (.map (some b)) (kv p d) (.int .i64 (setS c r p d))).run Tryz.prog w = .ok () (w.putObj b (.map es' clock')) ∧ Good c r es' := by
 obtain ⟨lk, hlk⟩ := keyOf_kv hp hd
 have h1 := pairLaw.check w false hlk
 rcases pairLaw.find w hlk es.toList hg.keys with ⟨h2, -⟩ | ⟨j, e, h2, h3, h4⟩
 ·refine ⟨es.push ⟨kv p d, .int .i64 (setS c r p d), clock⟩, clock + 1, ?_, ?_⟩
  ·simp [Instr.mapUpdate, run_underlying Tryz.underlying139, MapKept.run_getObj_map hb, h1, h2, MapKept.run_setObj_map _ hb, Result.andThen, World.putObj]
  ·intro x hx
   simp only [Array.toList_push, List.mem_append, List.mem_singleton] at hx
   rcases hx with hx | rfl
   ·exact hg x hx
   ·exact ⟨p, d, hp, hd, rfl, rfl⟩
 ·have hj : es[j]? = some e := by simpa using h3
  refine ⟨es.modify j (fun x => { x with key := kv p d, val := .int .i64 (setS c r p d) }), clock, ?_, ?_⟩
  ·simp [Instr.mapUpdate, run_underlying Tryz.underlying139, MapKept.run_getObj_map hb, h1, h2, hj, h4, pairLaw.stays w hlk, MapKept.run_setObj_map _ hb, Result.andThen, World.putObj]
  ·intro x hx
   rcases MapFrom.mem_modify hx with hx | ⟨x', -, rfl⟩
   ·exact hg x hx
   ·exact ⟨p, d, hp, hd, rfl, rfl⟩
end Go.Proofs.YtehhlgdkhecacaaGreat

namespace Go.Proofs.YtehhlgdkhecacaaGreat
open Go.RowKit Go.Shelf Go.Sort
def tcells (t : Tt) : List Value := [.int .i64 t.day, .int .i64 t.par, .int .i64 t.src]
theorem tcells_len (t : Tt) : (tcells t).length = 3 := rfl
abbrev tb (t : Tt) : Array Value := #[.int .i64 t.day, .int .i64 t.par, .int .i64 t.src]
abbrev tv (t : Tt) : Value := .agg (tb t)
instance : Inhabited Tt := ⟨t0⟩
theorem info67 : (Tryz.prog.info? 67).map (fun i => (i.zero, i.size, i.bytes)) = some (some (.agg #[.int .i64 0, .int .i64 0, .int .i64 0]), 3, 24) := by kernel_rfl
theorem tcells_one (x : Tt) : ∀ v ∈ tcells x, v.oneCell' = true := fun v hv => by
 unfold tcells at hv
 simp only [List.mem_cons, List.not_mem_nil, or_false] at hv
 rcases hv with rfl | rfl | rfl <;> rfl
theorem kdT : Kd tcells 3 67 35 24 (.agg #[.int .i64 0, .int .i64 0, .int .i64 0]) := ⟨by kernel_rfl, info67, by simp [Value.cells], by decide, tcells_len, tcells_one, by decide⟩
def orI (a b : Int) : Int := if a ≠ 0 then a else b
theorem or_any (b : Nat) (x y : Int) (w : World) (hx : w.cell? ⟨b, 0, none⟩ = some (.int .i64 x)) (hy : w.cell? ⟨b, 1, none⟩ = some (.int .i64 y)) (c : Nat) :
  Calls Tryz.prog 131 #[.slice (some ⟨b, 0, none⟩) 2 c] w fun e w' => e = .returned (.int .i64 (orI x y)) ∧ w = w' := by
 unfold orI
 by_cases h1 : x = 0
 ·subst h1
  by_cases h2 : y = 0
  ·subst h2
   go_enter Tryz.func131, Tryz.ntmps131
   go_wp2_with fail
   refine wp_loop_rounds 3 ?_
   rw [rounds_succ]
   go_wp2_with fail
   rw [rounds_succ]
   go_wp2_with fail
   rw [rounds_succ]
   go_wp2_with fail
   go_ret
   exact ⟨rfl, rfl⟩
  ·have e2 : (y == 0) = false := by simpa using h2
   clear h2
   go_enter Tryz.func131, Tryz.ntmps131
   go_wp2_with fail
   refine wp_loop_rounds 3 ?_
   rw [rounds_succ]
   go_wp2_with fail
   rw [rounds_succ]
   go_wp2_with fail
   go_ret
   exact ⟨rfl, rfl⟩
 ·have e1 : (x == 0) = false := by simpa using h1
  rw [if_pos h1]
  clear h1
  go_enter Tryz.func131, Tryz.ntmps131
  go_wp2_with fail
  refine wp_loop_rounds 3 ?_
  rw [rounds_succ]
  go_wp2_with fail
  go_ret
  exact ⟨rfl, rfl⟩
def cmpT (a b : Tt) : Int := orI (cmpI a.day b.day) (cmpI a.src b.src)
theorem lt_cmpT (a b : Tt) : ltOf cmpT a b = ltT a b := by
 unfold ltOf cmpT orI cmpI ltT
 by_cases h1 : a.day < b.day
 ·simp [h1]
 ·by_cases h2 : b.day < a.day
  ·have e : ¬ a.day = b.day := by omega
   simp [h1, h2, e]
  ·have e : a.day = b.day := by omega
   by_cases h3 : a.src < b.src
   ·simp [e, h3]
   ·by_cases h4 : b.src < a.src <;> simp [e, h3, h4]
theorem swoT : SWO (ltOf cmpT) where
 irrefl x := by rw [lt_cmpT, Bool.eq_false_iff]; intro h; rw [ltT_iff] at h; omega
 trans x y z h1 h2 := by rw [lt_cmpT] at *; exact ltT_trans h1 h2
 ntrans x y z h1 h2 := by
  rw [lt_cmpT, Bool.eq_false_iff] at *
  intro h
  rw [ne_eq, ltT_iff] at h1 h2
  rw [ltT_iff] at h
  omega
/-- Draws and blocks behind. -/
def Gw (w w' : World) : Prop := ∃ q os, w' = grow (w.drewN q) os
theorem Gw.refl (w : World) : Gw w w := ⟨0, #[], by simp [grow, World.drewN]⟩
theorem Gw.alloc {w w' : World} (h : Gw w w') (o : Obj) : Gw w (w'.alloc o) := by
 obtain ⟨q, os, rfl⟩ := h
 exact ⟨q, _, by rw [alloc_eq_grow, grow_grow]⟩
theorem Gw.drew {w w' : World} (h : Gw w w') : Gw w w'.drew := by
 obtain ⟨q, os, rfl⟩ := h
 exact ⟨q + 1, os, rfl⟩
set_option maxRecDepth 100000 in
set_option maxHeartbeats 4000000 in
theorem byDay_any (x y : Tt) (w : World) : Calls Tryz.prog 130 #[tv x, tv y] w fun e w' => e = .returned (.int .i64 (cmpT x y)) ∧ Gw w w' := by
 unfold cmpT
 have T1 := fun W => cmp_any x.day y.day W
 have T2 := fun W => cmp_any x.src y.src W
 obtain ⟨r1, hr1⟩ : ∃ r, cmpI x.day y.day = r := ⟨_, rfl⟩
 obtain ⟨r2, hr2⟩ : ∃ r, cmpI x.src y.src = r := ⟨_, rfl⟩
 rw [hr1] at T1 ⊢
 rw [hr2] at T2 ⊢
 clear hr1 hr2
 have HT1 := Lib.hid T1
 have HT2 := Lib.hid T2
 have T3 := fun (b c : Nat) (W : World) (h1 : W.cell? ⟨b, 0, none⟩ = some (.int .i64 r1)) (h2 : W.cell? ⟨b, 1, none⟩ = some (.int .i64 r2)) => or_any b r1 r2 W h1 h2 c
 obtain ⟨r3, hr3⟩ : ∃ r, orI r1 r2 = r := ⟨_, rfl⟩
 rw [hr3] at T3 ⊢
 clear hr3
 have HT3 := Lib.hid T3
 obtain ⟨W1, hW1⟩ : ∃ X, (w.alloc (.cells #[.int .i64 x.day, .int .i64 x.par, .int .i64 x.src] 67)).alloc (.cells #[.int .i64 y.day, .int .i64 y.par, .int .i64 y.src] 67) = X := ⟨_, rfl⟩
 have G1 := Lib.hid (show Gw w W1 by rw [← hW1]; exact ((Gw.refl w).alloc _).alloc _)
 have BX := Lib.hid (show Blk W1 w.heap.size 67 #[.int .i64 x.day, .int .i64 x.par, .int .i64 x.src] by rw [← hW1]; exact (Blk.new _ _ _).alloc _)
 have BY := Lib.hid (show Blk W1 (w.heap.size + 1) 67 #[.int .i64 y.day, .int .i64 y.par, .int .i64 y.src] by
  rw [← hW1]
  have := Blk.new (w.alloc (.cells #[.int .i64 x.day, .int .i64 x.par, .int .i64 x.src] 67)) 67 #[.int .i64 y.day, .int .i64 y.par, .int .i64 y.src]
  rwa [World.size_alloc] at this)
 have HW1 := Lib.hid hW1
 clear hW1 T1 T2 T3
 go_enter Tryz.func130, Tryz.ntmps130
 go_upto_region 1 with fail
 rw [HW1.out]
 have d0 := BX.out.cell 0
 have d2 := BX.out.cell 2
 have e0 := BY.out.cell 0
 have e2 := BY.out.cell 2
 go_region_held3 (fun w' => w'.cell? ⟨w.heap.size, 0, none⟩ = some (.int .i64 x.day) ∧ w'.cell? ⟨w.heap.size, 2, none⟩ = some (.int .i64 x.src) ∧ w'.cell? ⟨w.heap.size + 1, 0, none⟩ = some (.int .i64 y.day) ∧ w'.cell? ⟨w.heap.size + 1, 2, none⟩ = some (.int .i64 y.src)) (go_keep)
  (first | (go_at_call 132; (with_reducible refine (HT1.out _).mono ?_); rintro e w' ⟨rfl, rfl⟩) | (go_at_call 132; (with_reducible refine (HT2.out _).mono ?_); rintro e w' ⟨rfl, rfl⟩) | (go_at_call 131; (with_reducible refine (HT3.out _ _ _ ?_ ?_).mono ?_); (focus simp [go_sem]); (focus simp [go_sem]); rintro e w' ⟨rfl, rfl⟩))
 all_goals go_wp2_with fail
 all_goals go_ret
 all_goals exact ⟨rfl, (G1.out.alloc _).drew⟩
theorem flatK_list (xs : List Tt) : flatK tcells 3 xs.toArray = (xs.flatMap tcells).toArray := by
 refine ext_get! (by rw [size_flatK, List.size_toArray, List.size_toArray, flat_len tcells_len]) fun t ht => ?_
 rw [size_flatK, List.size_toArray] at ht
 rw [get_flatK _ _ _ _ (by rw [List.size_toArray]; exact ht)]
 have hk : t / 3 < xs.length := by omega
 have e := flat_get tcells_len xs (t / 3) (t % 3) (by omega)
 rw [show t / 3 * 3 + t % 3 = t by omega, List.getElem?_eq_getElem hk] at e
 rw [getElem!_pos xs.toArray (t / 3) (by rw [List.size_toArray]; exact hk)]
 rw [getElem!_pos (xs.flatMap tcells).toArray t (by rw [List.size_toArray, flat_len tcells_len]; exact ht)]
 have e2 : (xs.flatMap tcells)[t]? = some ((xs.flatMap tcells)[t]'(by rw [flat_len tcells_len]; exact ht)) := List.getElem?_eq_getElem _
 rw [e2] at e
 simp only [Option.bind_some] at e
 have hl : t % 3 < (tcells xs[t / 3]).length := by rw [tcells_len]; omega
 rw [List.getElem?_eq_getElem hl] at e
 rw [List.getElem_toArray, List.getElem_toArray, getElem!_pos (tcells xs[t / 3]) (t % 3) hl]
 exact (Option.some.inj e).symm
theorem holdsK_of {w : World} {base : Nat} {v : Value} {xs : List Tt} (h : OwnL tcells 3 67 w base v xs) (hv : v ≠ .slice none 0 0) :
  ∃ g cap cur, v = .slice (some ⟨g, 0, none⟩) xs.length cap ∧ base ≤ g ∧ w.heap[g]? = some (.cells cur 67 (0, 0)) ∧ xs.length ≤ cap ∧ cap ≤ maxLen ∧ cur.size = cap * 3 ∧ HoldsK tcells 3 w g 0 xs.toArray := by
 obtain ⟨h1, ⟨e0, _⟩ | ⟨g, cap, cur, rfl, hb, hg, hn, hm, hs, ht⟩⟩ := h
 ·exact absurd e0 hv
 ·refine ⟨g, cap, cur, rfl, hb, hg, hn, hm, hs, fun j hj => ?_⟩
  rw [flatK_list] at hj ⊢
  rw [List.size_toArray, flat_len tcells_len] at hj
  refine ⟨?_, by simp [World.frozen?, hg]⟩
  have e1 : (cur.toList.take (xs.length * 3))[j]? = (xs.flatMap tcells)[j]? := by rw [ht]
  rw [List.getElem?_take, if_pos hj, Array.getElem?_toList, List.getElem?_eq_getElem (by rw [flat_len tcells_len]; exact hj)] at e1
  rw [show (⟨g, 0 + j, none⟩ : Addr) = ⟨g, j, none⟩ by rw [Nat.zero_add], cell_of_row w g j cur 67 (0, 0) hg, e1,
   getElem!_pos (xs.flatMap tcells).toArray j (by rw [List.size_toArray, flat_len tcells_len]; exact hj), List.getElem_toArray]
  rfl
theorem own_sorted {w : World} {base g cap q : Nat} {cur : Array Value} {os : Array Obj} {xs ys : List Tt} (hl : ys.length = xs.length) (hb : base ≤ g) (hg : w.heap[g]? = some (.cells cur 67 (0, 0))) (hn : xs.length ≤ cap) (hm : cap ≤ maxLen) (hs : cur.size = cap * 3) :
  OwnL tcells 3 67 (sortWorldK tcells 3 w g 0 q ys.toArray os) base (.slice (some ⟨g, 0, none⟩) xs.length cap) ys ∧ Fix g g w (sortWorldK tcells 3 w g 0 q ys.toArray os) := by
 have hgl : g < w.heap.size := (Array.getElem?_eq_some_iff.1 hg).1
 unfold sortWorldK putRowK
 rw [flatK_list]
 have hh : (grow (putRow id (Sort.ahead w q) g 0 (ys.flatMap tcells).toArray) os).heap[g]? = some (.cells (putCells id 0 (ys.flatMap tcells).toArray cur) 67 (0, 0)) := by
  rw [heap_grow_old _ _ (by simpa [putRow, mapBlock, Sort.ahead] using hgl)]
  simp [putRow, mapBlock, Sort.ahead, Array.getElem?_modify, hg, onCells]
 refine ⟨?_, ⟨rfl, rfl, rfl, by simp [grow, putRow, mapBlock, Sort.ahead], fun k hk h1 _ => ?_⟩⟩
 ·unfold OwnL
  rw [hl]
  refine ⟨by rw [flat_len tcells_len, hl], .inr ⟨g, cap, _, rfl, hb, hh, hn, hm, by simpa [putCells] using hs, ?_⟩⟩
  apply List.ext_getElem?
  intro j
  rw [List.getElem?_take, Array.getElem?_toList]
  by_cases hj : j < xs.length * 3
  ·have hjc : j < cur.size := by omega
   have hjf : j < (ys.flatMap tcells).length := by rw [flat_len tcells_len, hl]; exact hj
   rw [if_pos hj, putCells, Array.getElem?_mapIdx, Array.getElem?_eq_getElem hjc, Option.map_some, if_pos (by rw [List.size_toArray]; omega), Nat.sub_zero,
    getElem!_pos (ys.flatMap tcells).toArray j (by rw [List.size_toArray]; exact hjf), List.getElem_toArray, List.getElem?_eq_getElem hjf]
   rfl
  ·rw [if_neg hj, List.getElem?_eq_none (by rw [flat_len tcells_len, hl]; omega)]
 ·rw [heap_grow_old _ _ (by simpa [putRow, mapBlock, Sort.ahead] using hk)]
  simp [putRow, mapBlock, Sort.ahead, Array.getElem?_modify, show g ≠ k by omega]
set_option maxHeartbeats 4000000 in
shelf_lay_g SlLaysF0.n6 Slsf 6 at Tryz 129 as laysSortT
theorem perm_of_in {d d' : Array Tt} (h : PermIn 0 d.size d d') : d'.toList.Perm d.toList := by
 obtain ⟨h1, -, h2⟩ := h
 have e : (d'.extract 0 d.size) = d' := by rw [← h1]; simp
 have e2 : (d.extract 0 d.size) = d := by simp
 rwa [e, e2] at h2
theorem sorted_of_in {d d' : Array Tt} (h : PermIn 0 d.size d d') (hs : SortedIn (ltOf cmpT) 0 d.size d') (ha : Apart d.toList) : UpT d'.toList := by
 have hp := perm_of_in h
 have hn : Apart d'.toList := ((hp.map Tt.src).nodup_iff).2 ha
 unfold Apart at hn
 rw [List.Nodup, List.pairwise_map, List.pairwise_iff_getElem] at hn
 refine List.pairwise_iff_getElem.2 fun i j hi hj hij => ?_
 have hj2 : j < d'.size := by simpa using hj
 have hi2 : i < d'.size := by simpa using hi
 have h1 := hs i j (Nat.zero_le _) hij (by rw [← h.1]; exact hj2)
 rw [lt_cmpT, getElem!_pos d' j hj2, getElem!_pos d' i hi2, Bool.eq_false_iff, ne_eq, ltT_iff] at h1
 have h2 := hn i j hi hj hij
 rw [ltT_iff]
 simp only [Array.getElem_toList] at h2 ⊢
 omega
theorem sortT_any (base : Nat) (v : Value) (l : List Tt) (w : World) (h : OwnL tcells 3 67 w base v l) (hl : l.length ≤ 1000000) (hb : base ≤ w.heap.size) (ha : Apart l) :
  Calls Tryz.prog 129 #[v, .func (.func 130) #[] #[]] w fun e w' => e = .returned (.tuple #[]) ∧ OwnL tcells 3 67 w' base v (srtT l) ∧ Below base w w' := by
 by_cases hv : v = .slice none 0 0
 ·subst hv
  have e : l = [] := by
   obtain ⟨h1, h2 | ⟨g, cap, cur, h3, -⟩⟩ := h
   ·exact List.eq_nil_of_length_eq_zero h2.2
   ·cases h3
  subst e
  refine (AnyF.slices_SortFunc_none laysSortT none 0 _ w).mono ?_
  rintro e w' ⟨rfl, rfl⟩
  exact ⟨rfl, h, Below.refl _ _⟩
 ·obtain ⟨g, cap, cur, rfl, hbg, hg, hncap, hcm, hcs, hH⟩ := holdsK_of h hv
  have hgl : g < w.heap.size := (Array.getElem?_eq_some_iff.1 hg).1
  have eg : ∀ args w, (callFunc 130 args).run Tryz.prog w = .ok (.enter 130 args) w := enters_of Tryz.func130 (by kernel_rfl) rfl
  have hc : CmpLays Tryz.prog 130 #[] tcells 3 cmpT g 0 l.toArray.size w := fun m os dk _ x y => byDay_any x y _
  have T := AnyQ.slices_SortFunc laysSortT 3 Tryz.isAgg67 Tryz.sizeOf67 tcells tcells_len tcells_one cmpT swoT 130 #[] g 0 cap l.toArray w eg hc hH hgl (by rw [List.size_toArray]; omega)
  rw [List.size_toArray] at T
  refine T.mono ?_
  rintro e w' ⟨rfl, d', n, os, hp, hs, rfl⟩
  have e1 : d'.toList = srtT l := srtT_eq ha (perm_of_in hp) (sorted_of_in hp hs ha)
  obtain ⟨o1, o2⟩ := own_sorted (q := n) (os := os) (xs := l) (ys := d'.toList) (by rw [e1]; exact (srtT_perm l).length_eq) hbg hg hncap hcm hcs
  rw [show d'.toList.toArray = d' from rfl] at o1 o2
  rw [e1] at o1
  exact ⟨rfl, o1, ⟨o2.os, o2.tape, o2.output, o2.size, fun k hk => o2.block k (by omega) (by omega) (by omega)⟩⟩
end Go.Proofs.YtehhlgdkhecacaaGreat

namespace Go.Proofs.YtehhlgdkhecacaaGreat
open Go.RowKit Go.Shelf Go.Sort
structure Kp (M : Nat) (A B : World) : Prop where
 os : B.os = A.os
 tape : B.tape = A.tape
 output : B.output = A.output
 size : A.heap.size ≤ B.heap.size
 keep : ∀ k, k < A.heap.size → k ≠ M → B.heap[k]? = A.heap[k]?
section
variable {M : Nat} {A B C : World}
theorem Kp.refl (M : Nat) (A : World) : Kp M A A := ⟨rfl, rfl, rfl, Nat.le_refl _, fun _ _ _ => rfl⟩
theorem Kp.trans (h : Kp M A B) (k : Kp M B C) : Kp M A C :=
 ⟨k.os.trans h.os, k.tape.trans h.tape, k.output.trans h.output, Nat.le_trans h.size k.size, fun i hi hm => (k.keep i (Nat.lt_of_lt_of_le hi h.size) hm).trans (h.keep i hi hm)⟩
theorem Kp.of_below (h : Below A.heap.size A B) : Kp M A B := ⟨h.os, h.tape, h.output, h.size, fun k hk _ => h.block k hk⟩
theorem Kp.below (h : Kp M A B) (hM : M ≤ A.heap.size) : Below M A B := ⟨h.os, h.tape, h.output, h.size, fun k hk => h.keep k (Nat.lt_of_lt_of_le hk hM) (Nat.ne_of_lt hk)⟩
theorem Kp.put (h : Kp M A B) (o : Obj) : Kp M A (B.putObj M o) :=
 ⟨h.os, h.tape, h.output, by simpa using h.size, fun k hk hm => (World.putObj_heap_other (by omega)).trans (h.keep k hk hm)⟩
theorem Kp.blk {g : Nat} {t : TypeId} {cs : Array Value} (h : Kp M A B) (b : Blk A g t cs) (hg : g ≠ M) : Blk B g t cs := (h.keep g b.lt hg).trans b
theorem Kp.drew (h : Kp M A B) : Kp M A B.drew := ⟨h.os, h.tape, h.output, h.size, h.keep⟩
theorem OwnL.kp {α : Type} {f : α → List Value} {size : Nat} {e : TypeId} {base : Nat} {v : Value} {xs : List α} (h : OwnL f size e A base v xs) (k : Kp M A B) (hM : M < base) : OwnL f size e B base v xs := by
 obtain ⟨h1, h2 | ⟨g, cap, cur, hv, hb, hg, rest⟩⟩ := h
 ·exact ⟨h1, .inl h2⟩
 ·exact ⟨h1, .inr ⟨g, cap, cur, hv, hb, (k.keep g (Array.getElem?_eq_some_iff.1 hg).1 (by omega)).trans hg, rest⟩⟩
end
/-- The proofs, the reading, and where they lie: the map's block is the first one that was new then. -/
structure Li where
 W0 : World
 Lb : Nat
 A : Option Addr
 n : Nat
 c : Nat
 B : Option Addr
 d : Nat
 l : List Pf
 r : List Int
/-- The proofs themselves. -/
abbrev Li.qs (x : Li) : List Qf := x.l.map Pf.q
structure Li.Ok (x : Li) : Prop where
 prf : Prf x.W0 x.A x.n x.l
 rd : Ints x.W0 x.B x.n x.r
 n : x.n ≤ 1000
 q : ∀ p ∈ x.l, isQf p.q = true
 src : (x.qs.map Qf.src).Nodup
 ne : x.W0.heap.size < x.Lb
structure Li.At (x : Li) (w : World) : Prop where
 low : Below x.W0.heap.size x.W0 w
 blk : Blk w x.Lb 141 #[.slice x.A x.n x.c, .slice x.B x.n x.d, .map (some x.W0.heap.size)]
 map : ∃ es clock, MapAt w x.W0.heap.size es clock ∧ Good x.qs x.r es
theorem Li.At.ext {x : Li} {w w' : World} (h : x.At w) (g : Below w.heap.size w w') : x.At w' := by
 obtain ⟨es, clock, hm, hg⟩ := h.map
 exact ⟨h.low.trans (g.mono h.low.size), h.blk.ext g, es, clock, hm.ext g, hg⟩
theorem Li.At.put {x : Li} (hx : x.Ok) {w : World} (h : x.At w) {es : Array MapEntry} (clock : Nat) (hg : Good x.qs x.r es) : x.At (w.putObj x.W0.heap.size (.map es clock)) := by
 obtain ⟨es', clock', hm, -⟩ := h.map
 exact ⟨below_putObj h.low (Nat.le_refl _) _, (World.putObj_heap_other (by have := hx.ne; omega)).trans h.blk, es, clock, hm.put es clock, hg⟩
theorem Li.At.prf {x : Li} (hx : x.Ok) {w : World} (h : x.At w) : Prf w x.A x.n x.l := hx.prf.below h.low
theorem Li.At.rd {x : Li} (hx : x.Ok) {w : World} (h : x.At w) : Ints w x.B x.n x.r := hx.rd.below h.low
theorem Li.At.lt {x : Li} {w : World} (h : x.At w) : x.W0.heap.size < w.heap.size := by
 obtain ⟨es, clock, hm, -⟩ := h.map
 exact hm.lt
theorem Li.Ok.len {x : Li} (hx : x.Ok) : x.l.length = x.n := hx.prf.len
theorem needs_any (k : Int) (w : World) : Calls Tryz.prog 151 #[.int .i64 k] w fun e w' => e = .returned (.int .i64 (needs k)) ∧ w = w' := by
 unfold needs
 by_cases h3 : k = 3
 ·subst h3
  go_enter Tryz.func151, Tryz.ntmps151
  go_wp2
  go_ret
  exact ⟨rfl, rfl⟩
 ·by_cases h4 : k = 4
  ·subst h4
   go_enter Tryz.func151, Tryz.ntmps151
   go_wp2
   go_ret
   exact ⟨rfl, rfl⟩
  ·by_cases h5 : k = 5
   ·subst h5
    go_enter Tryz.func151, Tryz.ntmps151
    go_wp2
    go_ret
    exact ⟨rfl, rfl⟩
   ·have e3 : (k == 3) = false := beq_eq_false_iff_ne.2 h3
    have e4 : (k == 4) = false := beq_eq_false_iff_ne.2 h4
    have e5 : (k == 5) = false := beq_eq_false_iff_ne.2 h5
    go_enter Tryz.func151, Tryz.ntmps151
    go_wp2
    go_ret
    exact ⟨rfl, rfl⟩
theorem cert_true {c : List Qf} {r : List Int} {person day : Int} {k : Nat} (hk : k < c.length) (h1 : (c.getD k q0).kind = 6) (h2 : r.getD k 0 = person) (h3 : (c.getD k q0).day ≤ day) : certB c r person day = true := by
 unfold certB
 rw [List.any_eq_true]
 exact ⟨k, List.mem_range.2 hk, by rw [decide_eq_true h1, decide_eq_true h2, decide_eq_true h3]; rfl⟩
theorem cert_false {c : List Qf} {r : List Int} {person day : Int} (h : ∀ k, k < c.length → ¬ ((c.getD k q0).kind = 6 ∧ r.getD k 0 = person ∧ (c.getD k q0).day ≤ day)) : certB c r person day = false := by
 unfold certB
 rw [List.any_eq_false]
 intro k hk
 have := h k (List.mem_range.1 hk)
 simp only [Bool.and_eq_true, decide_eq_true_eq]
 exact fun h => this ⟨h.1.1, h.1.2, h.2⟩
set_option maxRecDepth 100000 in
set_option maxHeartbeats 8000000 in
theorem certified_any (x : Li) (person day : Int) (w : World) (hx : x.Ok) (ha : x.At w) :
  Calls Tryz.prog 152 #[.pointer (some ⟨x.Lb, 0, none⟩), .int .i64 person, .int .i64 day] w fun e w' => e = .returned (.bool (certB x.qs x.r person day)) ∧ Below w.heap.size w w' := by
 obtain ⟨cb, hcb⟩ : ∃ s, certB x.qs x.r person day = s := ⟨_, rfl⟩
 rw [hcb]
 have HCB := Lib.hid hcb
 have HA := Lib.hid (ha.prf hx)
 have HR := Lib.hid (ha.rd hx)
 have HLM := Lib.hid (show x.l.length = x.n from hx.len)
 have HBL := Lib.hid ha.blk
 have HN := Lib.hid hx.n
 obtain ⟨Lb, hLb⟩ : ∃ b, x.Lb = b := ⟨_, rfl⟩
 obtain ⟨A, hA⟩ : ∃ b, x.A = b := ⟨_, rfl⟩
 obtain ⟨B, hB⟩ : ∃ b, x.B = b := ⟨_, rfl⟩
 obtain ⟨n, hn⟩ : ∃ b, x.n = b := ⟨_, rfl⟩
 obtain ⟨c, hc⟩ : ∃ b, x.c = b := ⟨_, rfl⟩
 obtain ⟨d, hd⟩ : ∃ b, x.d = b := ⟨_, rfl⟩
 obtain ⟨M, hM⟩ : ∃ b, x.W0.heap.size = b := ⟨_, rfl⟩
 rw [hLb]
 rw [hLb, hA, hB, hn, hc, hd, hM] at HBL
 rw [hA, hn] at HA
 rw [hB, hn] at HR
 rw [hn] at HLM HN
 have b0 := HBL.out.cell 0
 have b1 := HBL.out.cell 1
 have b2 := HBL.out.cell 2
 clear hcb ha hLb hA hB hn hc hd hM
 go_enter Tryz.func152, Tryz.ntmps152
 go_wp2_with fail
 clear b0 b1 b2
 go_loopw [14] (fun i wr => ∃ k : Nat, k ≤ n ∧ i = .int .i64 k ∧ Below w.heap.size w wr ∧ ∀ j, j < k → ¬ ((x.qs.getD j q0).kind = 6 ∧ x.r.getD j 0 = person ∧ (x.qs.getD j q0).day ≤ day)) (fun i _ => n - (intOf i).toNat)
 case atStart => exact ⟨0, Nat.zero_le _, rfl, Below.refl _ _, fun j hj => absurd hj (by omega)⟩
 case round =>
  obtain ⟨k, hk, rfl, hg, hall⟩ := hrel
  have HG := Lib.hid hg
  have HALL := Lib.hid hall
  clear hall
  by_cases hkn : k < n
  ·obtain ⟨b2, o2, rfl, -, -, hc2⟩ := ints_at (HR.out.below hg) hkn
   have hc2w := hc2
   obtain ⟨rr, hrr⟩ : ∃ s, x.r.getD k 0 = s := ⟨_, rfl⟩
   rw [hrr] at hc2
   have HRR := Lib.hid hrr
   have HPK := Lib.hid (map_pf (l := x.l) (k := k) (by rw [HLM.out]; exact hkn))
   obtain ⟨b, o, rfl, -, -, -, hyc⟩ := (HA.out.below hg).at hkn
   obtain ⟨y, hy⟩ : ∃ y, x.l.getD k p0 = y := ⟨_, rfl⟩
   rw [hy] at hyc HPK
   obtain ⟨e0, e1, e2, e3, e4, e5, e6, e7, e8⟩ := hyc _ (Below.refl _ _)
   obtain ⟨W2, hW2⟩ : ∃ X, wr.alloc (.cells #[.int .i64 y.q.src, .int .i64 y.q.kind, .slice y.A y.n y.c, .int .i64 y.q.oth, .int .i64 y.q.par, .int .i64 y.q.day, .int .i64 y.q.thr, .int .i64 y.q.kno, .int .i64 y.q.unt] 56) = X := ⟨_, rfl⟩
   have GW2 := Lib.hid (show Below wr.heap.size wr W2 by rw [← hW2]; exact one_more _ _)
   have BW2 := Lib.hid (show Blk W2 wr.heap.size 56 #[.int .i64 y.q.src, .int .i64 y.q.kind, .slice y.A y.n y.c, .int .i64 y.q.oth, .int .i64 y.q.par, .int .i64 y.q.day, .int .i64 y.q.thr, .int .i64 y.q.kno, .int .i64 y.q.unt] by rw [← hW2]; exact Blk.new _ _ _)
   have BL2 := Lib.hid ((HBL.out.ext hg).ext GW2.out)
   have r0 := hc2 W2 GW2.out
   have HW2 := Lib.hid hW2
   have hwr2 : wrap64 ((k : Int) + 1) = (k : Int) + 1 := wrap_in (by have := HN.out; omega)
   have hki : (k : Int) < (n : Int) := by omega
   clear hW2 hrr hy hyc hc2 hc2w hg
   have HQK := Lib.hid (show x.qs.getD k q0 = y.q from HPK.out)
   go_upto_region 4 with fail
   rw [HW2.out]
   clear e0 e1 e2 e3 e4 e5 e6 e7 e8
   have b0 := BL2.out.cell 0
   have b1 := BL2.out.cell 1
   have d1 := BW2.out.cell 1
   have d5 := BW2.out.cell 5
   have GZ := Lib.hid (HG.out.trans (GW2.out.mono HG.out.size))
   by_cases h1 : y.q.kind = 6
   ·have h1b : (y.q.kind == 6) = true := by simpa using h1
    by_cases h2 : rr = person
    ·have h2b : (rr == person) = true := by simpa using h2
     by_cases h3 : y.q.day ≤ day
     ·have h3b := decide_eq_true h3
      have hf : cb = true := HCB.out.symm.trans (cert_true (k := k) (by rw [List.length_map, HLM.out]; exact hkn) (by rw [HQK.out]; exact h1) (HRR.out.trans h2) (by rw [HQK.out]; exact h3))
      subst hf
      clear h1 h2 h3
      go_wp2_with fail
      go_ret
      exact ⟨rfl, GZ.out⟩
     ·have h3b := decide_eq_false h3
      have HNO := Lib.hid h3
      clear h1 h2 h3
      go_wp2_with fail
      go_roundw
      case rel => exact ⟨k + 1, by omega, by rw [hwr2]; rfl, GZ.out, fun j hj => by
       by_cases e : j = k
       ·subst e; rintro ⟨-, -, h⟩; rw [HQK.out] at h; exact HNO.out h
       ·exact HALL.out j (by omega)⟩
      case measure => rw [hwr2]; simp only [intOf]; omega
    ·have h2b : (rr == person) = false := by simpa using h2
     have HNO := Lib.hid h2
     clear h1 h2
     go_wp2_with fail
     go_roundw
     case rel => exact ⟨k + 1, by omega, by rw [hwr2]; rfl, GZ.out, fun j hj => by
      by_cases e : j = k
      ·subst e; rintro ⟨-, h, -⟩; exact HNO.out (HRR.out.symm.trans h)
      ·exact HALL.out j (by omega)⟩
     case measure => rw [hwr2]; simp only [intOf]; omega
   ·have h1b : (y.q.kind == 6) = false := by simpa using h1
    have HNO := Lib.hid h1
    clear h1
    go_wp2_with fail
    go_roundw
    case rel => exact ⟨k + 1, by omega, by rw [hwr2]; rfl, GZ.out, fun j hj => by
     by_cases e : j = k
     ·subst e; rintro ⟨h, -, -⟩; rw [HQK.out] at h; exact HNO.out h
     ·exact HALL.out j (by omega)⟩
    case measure => rw [hwr2]; simp only [intOf]; omega
  ·obtain rfl : k = n := by omega
   have hf : cb = false := HCB.out.symm.trans (cert_false fun j hj => HALL.out j (by rw [List.length_map, HLM.out] at hj; exact hj))
   subst hf
   clear hg
   go_wp2_with fail
   go_ret
   exact ⟨rfl, HG.out⟩
end Go.Proofs.YtehhlgdkhecacaaGreat

namespace Go.Proofs.YtehhlgdkhecacaaGreat
open Go.RowKit Go.Shelf Go.Sort
/-- What is known of where persons are settled on days before one. -/
def SetC (x : Li) (k : Nat) : Prop := ∀ (person day : Int) (w : World), In64 person → In64 day → (day + 1).toNat ≤ k → x.At w →
 Calls Tryz.prog 135 #[.pointer (some ⟨x.Lb, 0, none⟩), .int .i64 person, .int .i64 day] w fun e w' => e = .returned (.int .i64 (setS x.qs x.r person day)) ∧ x.At w' ∧ Kp x.W0.heap.size w w'
/-- What a call of title hands back. -/
def TitEnd (x : Li) (t : Tt) (is : Bool) (w : World) (e : Ending) (w' : World) : Prop := e = .returned (.tuple #[tv t, .bool is]) ∧ x.At w' ∧ Kp x.W0.heap.size w w'
theorem titS_8 {s : Int → Int → Int} {c : List Qf} {r : List Int} {i : Nat} {q : Qf} (hq : c.getD i q0 = q) (h : q.kind = 8) : titS s c r i = (⟨q.day, q.par, q.src⟩, false) := by
 unfold titS
 rw [hq, if_pos h]
theorem titS_2 {s : Int → Int → Int} {c : List Qf} {r : List Int} {i : Nat} {q : Qf} (hq : c.getD i q0 = q) (h : q.kind = 2) : titS s c r i = (⟨q.day, s q.oth (q.day - 1), q.src⟩, decide (s q.oth (q.day - 1) ≠ -1)) := by
 unfold titS
 rw [hq, if_neg (by omega), if_pos h]
theorem titS_n {s : Int → Int → Int} {c : List Qf} {r : List Int} {i : Nat} {q : Qf} (hq : c.getD i q0 = q) (h : q.kind ≠ 8) (h2 : q.kind ≠ 2) (h3 : 0 < needs q.kind) : titS s c r i = (⟨q.day + needs q.kind, q.par, q.src⟩, decide (needs q.kind ≤ q.thr - q.day + 1) && !certB c r (r.getD i 0) q.day) := by
 unfold titS
 rw [hq, if_neg h, if_neg h2, if_pos h3]
theorem titS_o {s : Int → Int → Int} {c : List Qf} {r : List Int} {i : Nat} {q : Qf} (hq : c.getD i q0 = q) (h : q.kind ≠ 8) (h2 : q.kind ≠ 2) (h3 : ¬ 0 < needs q.kind) : titS s c r i = (⟨q.day, q.par, q.src⟩, true) := by
 unfold titS
 rw [hq, if_neg h, if_neg h2, if_neg h3]
theorem needs_bd (k : Int) : 0 ≤ needs k ∧ needs k ≤ 365 := by
 unfold needs
 split
 ·decide
 ·split <;> decide
theorem day_bd {q : Qf} (h : isQf q = true) : 0 ≤ q.day ∧ q.day ≤ 4166 ∧ 0 ≤ q.thr ∧ q.thr ≤ 4166 ∧ 0 ≤ q.oth ∧ q.oth ≤ 999 := by
 unfold isQf at h
 simp only [Bool.and_eq_true] at h
 obtain ⟨⟨⟨⟨⟨⟨⟨⟨⟨-, -⟩, -⟩, -⟩, -⟩, h1⟩, -⟩, -⟩, h2⟩, h3⟩ := h
 simp only [rng, Bool.and_eq_true, decide_eq_true_eq] at h1
 have h4 : 0 ≤ q.thr ∧ q.thr ≤ 4166 := by
  split at h2
  ·simp only [rng, Bool.and_eq_true, decide_eq_true_eq] at h2; omega
  ·simp only [decide_eq_true_eq] at h2; omega
 have h5 : 0 ≤ q.oth ∧ q.oth ≤ 999 := by
  split at h3
  ·simp only [rng, Bool.and_eq_true, decide_eq_true_eq] at h3; omega
  ·simp only [Bool.and_eq_true, decide_eq_true_eq] at h3; omega
 exact ⟨h1.1, h1.2, h4.1, h4.2, h5.1, h5.2⟩
/-- A load, or what yields anyhow, may be taken first: the slot written out. -/
theorem held_take {P : Program} {md : Region.Mode} {ops : Array Oper} {Q : Exit → Act → World → Prop} {S : World → Prop} {i : Nat} {oi : Oper} {d : Option Tmp} {v : Value} {fuel : Nat} {listed : Array Bool} {a : Act} {w : World} (hi : ops[i]? = some oi) (hd : oi.dst = d)
  (hs : Region.noSelect ops = true) (hf : Region.free md ops listed i = true) (hr : (Region.ready md ops listed).contains i = true)
  (hQ : ∀ c a w, Q (.panic c) (a.put oi.dst v) w → Q (.panic c) a w) (hg : Region.wanted oi (yielded ops a.tmps) = true) (hy : ∀ w, S w → (execOp a.eval oi).run P w = .ok (.value v) w) (hS : S w)
  (h : wpAnyH P md ops Q S fuel (listed.setIfInBounds i true) (a.put d v) w) : wpAnyH P md ops Q S (fuel + 1) listed a w := by
 subst hd
 exact wpAnyH_take hi hs hf hr hQ (.inl ⟨hg, hy⟩) hS h
/-- A skipped operation may be taken first. -/
theorem held_skip {P : Program} {md : Region.Mode} {ops : Array Oper} {Q : Exit → Act → World → Prop} {S : World → Prop} {i : Nat} {oi : Oper} {d : Option Tmp} {fuel : Nat} {listed : Array Bool} {a : Act} {w : World} (hi : ops[i]? = some oi) (hd : oi.dst = d)
  (hs : Region.noSelect ops = true) (hf : Region.free md ops listed i = true) (hr : (Region.ready md ops listed).contains i = true)
  (hQ : ∀ c a w, Q (.panic c) (a.put oi.dst undef) w → Q (.panic c) a w) (hg : Region.wanted oi (yielded ops a.tmps) = false) (hS : S w)
  (h : wpAnyH P md ops Q S fuel (listed.setIfInBounds i true) (a.put d undef) w) : wpAnyH P md ops Q S (fuel + 1) listed a w := by
 subst hd
 exact wpAnyH_take hi hs hf hr hQ (.inr ⟨hg, rfl⟩) hS h
/-- Three cells stored. -/
abbrev S3 (V : World) (R : Nat) (t : Tt) : World := ((V.setCell ⟨R, 0, none⟩ (.int .i64 t.day)).setCell ⟨R, 1, none⟩ (.int .i64 t.par)).setCell ⟨R, 2, none⟩ (.int .i64 t.src)
theorem Li.At.set {x : Li} (_hx : x.Ok) {w : World} (h : x.At w) {p : Addr} (hp : x.W0.heap.size < p.block) (hl : p.block ≠ x.Lb) (u : Value) : x.At (w.setCell p u) := by
 obtain ⟨es, clock, hm, hg⟩ := h.map
 exact ⟨h.low.setCell (by omega) u, h.blk.far (fun e => hl e.symm) u, es, clock, (Below.heap_setCell _ _ _ _ (by omega)).trans hm, hg⟩
theorem Kp.set {M : Nat} {A B : World} (h : Kp M A B) {p : Addr} (hp : A.heap.size ≤ p.block) (u : Value) : Kp M A (B.setCell p u) :=
 ⟨h.os, h.tape, h.output, by simpa [World.setCell] using h.size, fun k hk hm => (Below.heap_setCell _ _ _ _ (by omega)).trans (h.keep k hk hm)⟩
theorem Li.At.drew {x : Li} {w : World} (h : x.At w) : x.At w.drew := ⟨h.low.drew, h.blk, h.map⟩
theorem Blk.s3 {V : World} {R : Nat} {cs : Array Value} (h : Blk V R 67 cs) (hc : cs.size = 3) (t : Tt) : Blk (S3 V R t) R 67 #[.int .i64 t.day, .int .i64 t.par, .int .i64 t.src] := by
 have := ((h.set_ 0 (.int .i64 t.day)).set_ 1 (.int .i64 t.par)).set_ 2 (.int .i64 t.src)
 obtain ⟨l⟩ := cs
 simp only [List.size_toArray] at hc
 match l, hc with
 | [a, b, c], _ => exact this
theorem TitEnd.drew {x : Li} {t : Tt} {is : Bool} {w V : World} {e : Ending} (h : TitEnd x t is w e V) : TitEnd x t is w e V.drew := ⟨h.1, h.2.1.drew, h.2.2.drew⟩
theorem tit_end {x : Li} (hx : x.Ok) {w V : World} {R : Nat} {t : Tt} {is : Bool} (ha : x.At w) (hV : x.At V) (hk : Kp x.W0.heap.size w V) (hR : w.heap.size ≤ R) : TitEnd x t is w (.returned (.tuple #[tv t, .bool is])) (S3 V R t) := by
 have h1 := ha.lt
 have h2 := ha.blk.lt
 exact ⟨rfl, ((hV.set hx (by show _ < R; omega) (by show R ≠ _; omega) _).set hx (by show _ < R; omega) (by show R ≠ _; omega) _).set hx (by show _ < R; omega) (by show R ≠ _; omega) _, ((hk.set hR _).set hR _).set hR _⟩
set_option maxRecDepth 100000 in
set_option maxHeartbeats 8000000 in
theorem title_any (x : Li) (k : Nat) (hs : SetC x k) (i : Nat) (w : World) (hx : x.Ok) (ha : x.At w) (hi : i < x.n) (hd : (x.qs.getD i q0).day ≤ k) :
  Calls Tryz.prog 128 #[.pointer (some ⟨x.Lb, 0, none⟩), .int .i64 i] w (TitEnd x (titS (setS x.qs x.r) x.qs x.r i).1 (titS (setS x.qs x.r) x.qs x.r i).2 w) := by
 have HS := Lib.hid hs
 have HX := Lib.hid hx
 have HLM := Lib.hid (show x.l.length = x.n from hx.len)
 have HPK := Lib.hid (map_pf (l := x.l) (k := i) (by rw [HLM.out]; exact hi))
 have HIN := Lib.hid (show i < x.n from hi)
 have hP := ha.prf hx
 have hmem : x.l.getD i p0 ∈ x.l := mem_pf (by rw [HLM.out]; exact hi)
 have HB := Lib.hid (day_bd (hx.q _ hmem))
 obtain ⟨b, o, eA, -, -, -, hyc⟩ := hP.at hi
 have HR := Lib.hid (ha.rd hx)
 have HBL := Lib.hid ha.blk
 have HN := Lib.hid hx.n
 have HAT := Lib.hid ha
 obtain ⟨y, hy⟩ : ∃ y, x.l.getD i p0 = y := ⟨_, rfl⟩
 rw [hy] at hyc HPK HB
 have HD := Lib.hid (show y.q.day ≤ k by rw [← HPK.out]; exact hd)
 obtain ⟨tt, htt⟩ : ∃ tt, titS (setS x.qs x.r) x.qs x.r i = tt := ⟨_, rfl⟩
 rw [htt]
 have HTT := Lib.hid htt
 rw [eA] at HBL
 obtain ⟨Lb, hLb⟩ : ∃ b, x.Lb = b := ⟨_, rfl⟩
 obtain ⟨B, hB⟩ : ∃ b, x.B = b := ⟨_, rfl⟩
 obtain ⟨n, hn⟩ : ∃ b, x.n = b := ⟨_, rfl⟩
 obtain ⟨c, hc⟩ : ∃ b, x.c = b := ⟨_, rfl⟩
 obtain ⟨d, hd'⟩ : ∃ b, x.d = b := ⟨_, rfl⟩
 obtain ⟨M, hM⟩ : ∃ b, x.W0.heap.size = b := ⟨_, rfl⟩
 rw [hLb]
 rw [hLb, hB, hn, hc, hd', hM] at HBL
 rw [hB, hn] at HR
 rw [hn] at HN HIN
 have hML := Lib.hid (show M < Lb by rw [← hM, ← hLb]; exact hx.ne)
 have hMw := Lib.hid (show M < w.heap.size by rw [← hM]; exact ha.lt)
 have HSC := Lib.hid (show ∀ (w : World), y.q.kind = 2 → x.At w → Calls Tryz.prog 135 #[.pointer (some ⟨Lb, 0, none⟩), .int .i64 y.q.oth, .int .i64 (y.q.day - 1)] w fun e w' => e = .returned (.int .i64 (setS x.qs x.r y.q.oth (y.q.day - 1))) ∧ x.At w' ∧ Kp M w w' by
  intro w' hk hat
  rw [← hLb, ← hM]
  exact HS.out _ _ _ (in64_of (by have := HB.out; omega)) (in64_of (by have := HB.out; omega)) (by have := HB.out; have := HD.out; omega) hat)
 have HCE := Lib.hid (show ∀ (w : World), x.At w → Calls Tryz.prog 152 #[.pointer (some ⟨Lb, 0, none⟩), .int .i64 (x.r.getD i 0), .int .i64 y.q.day] w fun e w' => e = .returned (.bool (certB x.qs x.r (x.r.getD i 0) y.q.day)) ∧ Below w.heap.size w w' by
  intro w' hat
  rw [← hLb]
  exact certified_any x _ _ w' HX.out hat)
 obtain ⟨R, hR⟩ : ∃ R, w.heap.size = R := ⟨_, rfl⟩
 obtain ⟨W1, hW1⟩ : ∃ X, w.alloc (.cells #[.int .i64 0, .int .i64 0, .int .i64 0] 67) = X := ⟨_, rfl⟩
 have g1 : Below w.heap.size w W1 := by rw [← hW1]; exact one_more _ _
 have s1 : W1.heap.size = R + 1 := by rw [← hW1, ← hR]; simp
 have b1 : Blk W1 R 67 #[.int .i64 0, .int .i64 0, .int .i64 0] := by rw [← hW1, ← hR]; exact Blk.new _ _ _
 obtain ⟨W2, hW2⟩ : ∃ X, W1.alloc (.cells #[.int .i64 y.q.src, .int .i64 y.q.kind, .slice y.A y.n y.c, .int .i64 y.q.oth, .int .i64 y.q.par, .int .i64 y.q.day, .int .i64 y.q.thr, .int .i64 y.q.kno, .int .i64 y.q.unt] 56) = X := ⟨_, rfl⟩
 have g2 : Below W1.heap.size W1 W2 := by rw [← hW2]; exact one_more _ _
 have s2 : W2.heap.size = R + 2 := by rw [← hW2]; simp [s1]
 have b2 : Blk W2 (R + 1) 56 #[.int .i64 y.q.src, .int .i64 y.q.kind, .slice y.A y.n y.c, .int .i64 y.q.oth, .int .i64 y.q.par, .int .i64 y.q.day, .int .i64 y.q.thr, .int .i64 y.q.kno, .int .i64 y.q.unt] := by rw [← hW2, ← s1]; exact Blk.new _ _ _
 obtain ⟨W3, hW3⟩ : ∃ X, W2.alloc (.cells #[.int .i64 y.q.day, .int .i64 y.q.par, .int .i64 y.q.src] 67) = X := ⟨_, rfl⟩
 have g3 : Below W2.heap.size W2 W3 := by rw [← hW3]; exact one_more _ _
 have b3 : Blk W3 (R + 2) 67 #[.int .i64 y.q.day, .int .i64 y.q.par, .int .i64 y.q.src] := by rw [← hW3, ← s2]; exact Blk.new _ _ _
 have G3 := Lib.hid ((extTrans (extTrans g1 g2) g3))
 have HAT3 := Lib.hid (HAT.out.ext G3.out)
 have BR := Lib.hid ((b1.ext g2).ext g3)
 have BP := Lib.hid (b2.ext g3)
 have BT := Lib.hid b3
 have BL3 := Lib.hid (HBL.out.ext G3.out)
 have BL1 := Lib.hid (HBL.out.ext g1)
 obtain ⟨e0, e1, e2, e3, e4, e5, e6, e7, e8⟩ := hyc _ g1
 have l0 := BL1.out.cell 0
 have d0 := b2.cell 0
 have d4 := b2.cell 4
 have d5 := b2.cell 5
 have hii : (i : Int) < (n : Int) := by have := HIN.out; omega
 have HR3 := Lib.hid (HR.out.below G3.out)
 have HSZ := Lib.hid (show W3.heap.size = R + 3 by rw [← hW3]; simp [s2])
 have HW1 := Lib.hid hW1
 have HW2 := Lib.hid hW2
 have HW3 := Lib.hid hW3
 have HRR := Lib.hid hR
 have HS1 := Lib.hid s1
 have HS2 := Lib.hid s2
 have HXLB := Lib.hid hLb
 have HXM := Lib.hid hM
 obtain ⟨nd, hnd⟩ : ∃ s, needs y.q.kind = s := ⟨_, rfl⟩
 have HND := Lib.hid hnd
 have TN := Lib.hid (show ∀ w : World, Calls Tryz.prog 151 #[.int .i64 y.q.kind] w fun e w' => e = .returned (.int .i64 nd) ∧ w = w' by intro w; rw [← hnd]; exact needs_any _ _)
 clear hs hx ha hi hd hP hmem hyc hy htt hLb hB hn hc hd' hM hR hW1 hW2 hW3 g1 g2 g3 s1 s2 b1 b2 b3 eA hnd
 go_enter Tryz.func128, Tryz.ntmps128
 go_upto_region 1 with fail
 rw [HW1.out, HRR.out]
 go_upto_region 2 with fail
 rw [HW2.out, HS1.out]
 clear e0 e1 e2 e3 e4 e5 e6 e7 e8 l0
 go_upto_region 3 with fail
 rw [HW3.out, HS2.out]
 clear d0 d4 d5
 have p1 := BP.out.cell 1
 have p3 := BP.out.cell 3
 have p5 := BP.out.cell 5
 have p6 := BP.out.cell 6
 have r0 := BR.out.cell 0
 have r1 := BR.out.cell 1
 have r2 := BR.out.cell 2
 have q0' := BR.out.frozen 0
 have q1' := BR.out.frozen 1
 have q2' := BR.out.frozen 2
 have t0' := BT.out.cell 0
 have t1' := BT.out.cell 1
 have t2' := BT.out.cell 2
 by_cases h8 : y.q.kind = 8
 ·have h8b : (y.q.kind == 8) = true := by simpa using h8
  have HT8 := Lib.hid (titS_8 (s := setS x.qs x.r) (r := x.r) HPK.out h8)
  rw [HTT.out] at HT8
  have e := HT8.out
  subst e
  clear h8
  go_wp2_with (go_at_call 151; (with_reducible refine (TN.out _).mono ?_); rintro e w' ⟨rfl, rfl⟩)
  have y0 := (BR.out.s3 rfl ⟨y.q.day, y.q.par, y.q.src⟩).cell 0
  have y1 := (BR.out.s3 rfl ⟨y.q.day, y.q.par, y.q.src⟩).cell 1
  have y2 := (BR.out.s3 rfl ⟨y.q.day, y.q.par, y.q.src⟩).cell 2
  refine bodyPost_ret (v := .tuple #[tv ⟨y.q.day, y.q.par, y.q.src⟩, .bool false]) ?_ rfl (tit_end HX.out HAT.out HAT3.out (HXM.out ▸ Kp.of_below G3.out) (by have := HRR.out; omega))
  simp [results, Tryz.results128, go_sem, y0, y1, y2]
 ·have h8b : (y.q.kind == 8) = false := by simpa using h8
  by_cases h2 : y.q.kind = 2
  ·have h2b : (y.q.kind == 2) = true := by simpa using h2
   have HT2 := Lib.hid (HTT.out.symm.trans (titS_2 (s := setS x.qs x.r) (r := x.r) HPK.out h2))
   obtain ⟨sv, hsv⟩ : ∃ s, setS x.qs x.r y.q.oth (y.q.day - 1) = s := ⟨_, rfl⟩
   rw [hsv] at HT2 HSC
   have e := HT2.out
   subst e
   have hwd : wrap64 (y.q.day - 1) = y.q.day - 1 := wrap_in (by have := HB.out; omega)
   have T2 := Lib.hid (HSC.out W3 h2 HAT3.out)
   clear h8 h2 hsv HTT
   go_upto_region 8 with (first | (go_at_call 151; (with_reducible refine (TN.out _).mono ?_); rintro e w' ⟨rfl, rfl⟩) | (go_at_call 135; (with_reducible refine (T2.out).mono ?_); rintro e V ⟨rfl, hat, hkp⟩; have HATV := Lib.hid hat; have HKV := Lib.hid hkp; have BTV := Lib.hid (hkp.blk BT.out (by have h1 := hMw.out; have h2 := HRR.out; omega)); have BRV := Lib.hid (hkp.blk BR.out (by have h1 := hMw.out; have h2 := HRR.out; omega)); have u1 := BTV.out.cell 1; have uf := BTV.out.frozen 1; clear hat hkp))
   obtain ⟨V1, hV1⟩ : ∃ X, V.setCell ⟨R + 2, 1, none⟩ (.int .i64 sv) = X := ⟨_, rfl⟩
   have BT1 := Lib.hid (show Blk V1 (R + 2) 67 #[.int .i64 y.q.day, .int .i64 sv, .int .i64 y.q.src] by rw [← hV1]; exact BTV.out.set_ 1 _)
   have BR1 := Lib.hid (show Blk V1 R 67 #[.int .i64 0, .int .i64 0, .int .i64 0] by rw [← hV1]; exact BRV.out.far (by show R ≠ R + 2; omega) _)
   have HAT1 := Lib.hid (show x.At V1 by rw [← hV1]; exact HATV.out.set HX.out (by have h1 := hMw.out; have h2 := HRR.out; have h3 := HXM.out; show _ < R + 2; omega) (by have h1 := HAT.out.blk.lt; have h2 := HRR.out; show R + 2 ≠ _; omega) _)
   have HK1 := Lib.hid (show Kp x.W0.heap.size w V1 by rw [← hV1]; exact ((Kp.of_below G3.out).trans (HXM.out ▸ HKV.out)).set (by have h2 := HRR.out; show _ ≤ R + 2; omega) _)
   rw [hV1]
   clear hV1 p1 p3 p5 p6 r0 r1 r2 q0' q1' q2' t0' t1' t2' u1 uf
   have t0' := BT1.out.cell 0
   have t1' := BT1.out.cell 1
   have t2' := BT1.out.cell 2
   have r0 := BR1.out.cell 0
   have r1 := BR1.out.cell 1
   have r2 := BR1.out.cell 2
   have q0' := BR1.out.frozen 0
   have q1' := BR1.out.frozen 1
   have q2' := BR1.out.frozen 2
   go_region_held3 (fun W => W.cell? ⟨R + 2, 0, none⟩ = some (.int .i64 y.q.day) ∧ W.cell? ⟨R + 2, 1, none⟩ = some (.int .i64 sv) ∧ W.cell? ⟨R + 2, 2, none⟩ = some (.int .i64 y.q.src)) (go_keep) (fail)
   have y0 := (BR1.out.s3 rfl ⟨y.q.day, sv, y.q.src⟩).cell 0
   have y1 := (BR1.out.s3 rfl ⟨y.q.day, sv, y.q.src⟩).cell 1
   have y2 := (BR1.out.s3 rfl ⟨y.q.day, sv, y.q.src⟩).cell 2
   have hsb : (sv != -1) = !decide (sv = -1) := by
    by_cases e : sv = -1 <;> simp [e]
   rw [hsb]
   go_wp2_with fail
   refine bodyPost_ret (v := .tuple #[tv ⟨y.q.day, sv, y.q.src⟩, .bool (!decide (sv = -1))]) ?_ rfl (TitEnd.drew (tit_end (R := R) HX.out HAT.out HAT1.out HK1.out (by have := HRR.out; omega)))
   simp [results, Tryz.results128, go_sem, y0, y1, y2]
  ·have h2b : (y.q.kind == 2) = false := by simpa using h2
   by_cases hn0 : 0 < nd
   ·have hn0b : decide (0 < nd) = true := decide_eq_true hn0
    have HTN := Lib.hid (HTT.out.symm.trans (titS_n (s := setS x.qs x.r) (r := x.r) HPK.out h8 h2 (by rw [HND.out]; exact hn0)))
    rw [HND.out] at HTN
    obtain ⟨cb, hcb⟩ : ∃ s, certB x.qs x.r (x.r.getD i 0) y.q.day = s := ⟨_, rfl⟩
    rw [hcb] at HTN HCE
    have e := HTN.out
    subst e
    obtain ⟨rr, hrr⟩ : ∃ s, x.r.getD i 0 = s := ⟨_, rfl⟩
    rw [hrr] at HCE
    have HND2 := Lib.hid (show 0 ≤ nd ∧ nd ≤ 365 by rw [← HND.out]; exact needs_bd _)
    have hwd : wrap64 (y.q.day + nd) = y.q.day + nd := wrap_in (by have := HB.out; have := HND2.out; omega)
    obtain ⟨bi, oi, eB, hbi, -, hci⟩ := ints_at HR.out HIN.out
    rw [hrr] at hci
    subst eB
    have tf0 := BT.out.frozen 0
    clear h8 h2 hcb hrr HTT hn0
    go_upto_region 11 with (first | (go_at_call 151; (with_reducible refine (TN.out _).mono ?_); rintro e w' ⟨rfl, rfl⟩))
    obtain ⟨V1, hV1⟩ : ∃ X, W3.setCell ⟨R + 2, 0, none⟩ (.int .i64 (y.q.day + nd)) = X := ⟨_, rfl⟩
    have BT1 := Lib.hid (show Blk V1 (R + 2) 67 #[.int .i64 (y.q.day + nd), .int .i64 y.q.par, .int .i64 y.q.src] by rw [← hV1]; exact BT.out.set_ 0 _)
    have BR1 := Lib.hid (show Blk V1 R 67 #[.int .i64 0, .int .i64 0, .int .i64 0] by rw [← hV1]; exact BR.out.far (by show R ≠ R + 2; omega) _)
    have BP1 := Lib.hid (show Blk V1 (R + 1) 56 #[.int .i64 y.q.src, .int .i64 y.q.kind, .slice y.A y.n y.c, .int .i64 y.q.oth, .int .i64 y.q.par, .int .i64 y.q.day, .int .i64 y.q.thr, .int .i64 y.q.kno, .int .i64 y.q.unt] by rw [← hV1]; exact BP.out.far (by show R + 1 ≠ R + 2; omega) _)
    have HAT1 := Lib.hid (show x.At V1 by rw [← hV1]; exact HAT3.out.set HX.out (by have h1 := hMw.out; have h2 := HRR.out; have h3 := HXM.out; show _ < R + 2; omega) (by have h1 := HAT.out.blk.lt; have h2 := HRR.out; show R + 2 ≠ _; omega) _)
    have HK1 := Lib.hid (show Kp x.W0.heap.size w V1 by rw [← hV1]; exact Kp.set (A := w) (Kp.of_below G3.out) (by have h2 := HRR.out; show w.heap.size ≤ R + 2; omega) _)
    have BL1' := Lib.hid (show Blk V1 Lb 141 #[.slice (some ⟨b, o, none⟩) n c, .slice (some ⟨bi, oi, none⟩) n d, .map (some M)] by rw [← hV1]; exact BL3.out.far (by have h1 := HBL.out.lt; have h2 := HRR.out; show Lb ≠ R + 2; omega) _)
    rw [hV1]
    have GV1 := Lib.hid (show Below w.heap.size w V1 by rw [← hV1]; exact G3.out.setCell (by have h2 := HRR.out; show _ ≤ R + 2; omega) _)
    have HKS := Lib.hid (show ∀ W, Below V1.heap.size V1 W → (W.cell? ⟨R + 2, 0, none⟩ = some (.int .i64 (y.q.day + nd)) ∧ W.cell? ⟨R + 2, 1, none⟩ = some (.int .i64 y.q.par) ∧ W.cell? ⟨R + 2, 2, none⟩ = some (.int .i64 y.q.src) ∧ W.cell? ⟨R + 1, 5, none⟩ = some (.int .i64 y.q.day) ∧ W.cell? ⟨R + 1, 6, none⟩ = some (.int .i64 y.q.thr) ∧ W.cell? ⟨Lb, 1, none⟩ = some (.slice (some ⟨bi, oi, none⟩) n d) ∧ W.cell? ⟨bi, oi + i, none⟩ = some (.int .i64 rr)) from fun W g =>
     ⟨(BT1.out.ext g).cell 0, (BT1.out.ext g).cell 1, (BT1.out.ext g).cell 2, (BP1.out.ext g).cell 5, (BP1.out.ext g).cell 6, (BL1'.out.ext g).cell 1, hci W (GV1.out.trans (g.mono GV1.out.size))⟩)
    have HBI := Lib.hid hbi
    clear hV1 hci hbi p1 p3 p5 p6 r0 r1 r2 q0' q1' q2' t0' t1' t2' tf0 hwd
    have hi2 : ¬ (i : Int) < 0 := by omega
    have hw3 : IntKind.i64.wrap (y.q.thr - y.q.day) = y.q.thr - y.q.day := IntWalk.i64_in _ (by have := HB.out; omega)
    have hw4 : IntKind.i64.wrap (y.q.thr - y.q.day + 1) = y.q.thr - y.q.day + 1 := IntWalk.i64_in _ (by have := HB.out; omega)
    have hw5 : wrap64 (y.q.thr - y.q.day) = y.q.thr - y.q.day := wrap_in (by have := HB.out; omega)
    have hw6 : wrap64 (y.q.thr - y.q.day + 1) = y.q.thr - y.q.day + 1 := wrap_in (by have := HB.out; omega)
    obtain ⟨c0, c1, c2, c3, c4, c5, c6⟩ := HKS.out V1 (Below.refl _ _)
    have hne1 : R ≠ Lb := by have h1 := HBL.out.lt; have h2 := HRR.out; omega
    have hne2 : Lb ≠ R := fun e => hne1 e.symm
    have hne3 : R ≠ bi := by have h1 := HBI.out; have h2 := HRR.out; omega
    have hne4 : bi ≠ R := fun e => hne3 e.symm
    by_cases hg : nd ≤ y.q.thr - y.q.day + 1
    ·have hgb := decide_eq_true hg
     rw [hgb, Bool.true_and]
     clear hg
     go_region_held3 (fun W => W.cell? ⟨R + 2, 0, none⟩ = some (.int .i64 (y.q.day + nd)) ∧ W.cell? ⟨R + 2, 1, none⟩ = some (.int .i64 y.q.par) ∧ W.cell? ⟨R + 2, 2, none⟩ = some (.int .i64 y.q.src) ∧ W.cell? ⟨R + 1, 5, none⟩ = some (.int .i64 y.q.day) ∧ W.cell? ⟨R + 1, 6, none⟩ = some (.int .i64 y.q.thr) ∧ W.cell? ⟨Lb, 1, none⟩ = some (.slice (some ⟨bi, oi, none⟩) n d) ∧ W.cell? ⟨bi, oi + i, none⟩ = some (.int .i64 rr))
      (first
       | exact HKS.out _ (Below.refl _ _)
       | exact HKS.out _ (Below.refl _ _).drew
       | exact HKS.out _ GV.out
       | go_keep)
      (first
       | (go_at_call 152; (with_reducible refine (HCE.out _ HAT1.out.drew).mono ?_); rintro e V ⟨rfl, hgv⟩; have GV := Lib.hid (show Below V1.heap.size V1 V from (Below.refl _ V1).drew.trans hgv); have y0 := (BR1.out.ext GV.out).cell 0; have y1 := (BR1.out.ext GV.out).cell 1; have y2 := (BR1.out.ext GV.out).cell 2; have z0 := (BR1.out.ext GV.out).frozen 0; have z1 := (BR1.out.ext GV.out).frozen 1; have z2 := (BR1.out.ext GV.out).frozen 2; clear hgv)
       | (go_at_call 152; (with_reducible refine (HCE.out _ HAT1.out).mono ?_); rintro e V ⟨rfl, hgv⟩; have GV := Lib.hid hgv; have y0 := (BR1.out.ext GV.out).cell 0; have y1 := (BR1.out.ext GV.out).cell 1; have y2 := (BR1.out.ext GV.out).cell 2; have z0 := (BR1.out.ext GV.out).frozen 0; have z1 := (BR1.out.ext GV.out).frozen 1; have z2 := (BR1.out.ext GV.out).frozen 2; clear hgv))
     all_goals go_wp2_with fail
     all_goals
      refine bodyPost_ret (v := .tuple #[tv ⟨y.q.day + nd, y.q.par, y.q.src⟩, .bool (!cb)]) ?_ rfl ?_
      ·have Y0 := ((BR1.out.ext GV.out).s3 rfl ⟨y.q.day + nd, y.q.par, y.q.src⟩).cell 0
       have Y1 := ((BR1.out.ext GV.out).s3 rfl ⟨y.q.day + nd, y.q.par, y.q.src⟩).cell 1
       have Y2 := ((BR1.out.ext GV.out).s3 rfl ⟨y.q.day + nd, y.q.par, y.q.src⟩).cell 2
       simp [results, Tryz.results128, go_sem, Y0, Y1, Y2]
      ·show TitEnd x ⟨y.q.day + nd, y.q.par, y.q.src⟩ (decide (nd ≤ y.q.thr - y.q.day + 1) && !cb) w _ _
       rw [hgb, Bool.true_and]
       exact tit_end (R := R) HX.out HAT.out (HAT1.out.ext GV.out) (HK1.out.trans (Kp.of_below GV.out)) (by have := HRR.out; omega)
    ·have hgb := decide_eq_false hg
     clear hg
     have r0 := BR1.out.cell 0
     have r1 := BR1.out.cell 1
     have r2 := BR1.out.cell 2
     have q0' := BR1.out.frozen 0
     have q1' := BR1.out.frozen 1
     have q2' := BR1.out.frozen 2
     refine wp_region_held_drew (S := fun W => W.cell? ⟨R + 2, 0, none⟩ = some (.int .i64 (y.q.day + nd)) ∧ W.cell? ⟨R + 2, 1, none⟩ = some (.int .i64 y.q.par) ∧ W.cell? ⟨R + 2, 2, none⟩ = some (.int .i64 y.q.src) ∧ W.cell? ⟨R + 1, 5, none⟩ = some (.int .i64 y.q.day) ∧ W.cell? ⟨R + 1, 6, none⟩ = some (.int .i64 y.q.thr)) (by kernel_rfl) (⟨c0, c1, c2, c3, c4⟩) (fun hHeld => ?_)
     (refine held_take (i := 0) (oi := ⟨_, _, _, _, _, _⟩) (d := some 55) (v := ?_) rfl rfl (by kernel_rfl) (by kernel_rfl) (by kernel_rfl) (fun _ _ _ h => h) (by rfl) ?_ (by assumption) ?_; rotate_left; (focus (intro w hSw; (try dsimp only at hSw); go_simp; try with_reducible rfl)); (try simp only [Act.put, List.setIfInBounds_toArray, List.set_cons_zero, List.set_cons_succ]))
     (refine held_take (i := 1) (oi := ⟨_, _, _, _, _, _⟩) (d := some 56) (v := ?_) rfl rfl (by kernel_rfl) (by kernel_rfl) (by kernel_rfl) (fun _ _ _ h => h) (by rfl) ?_ (by assumption) ?_; rotate_left; (focus (intro w hSw; (try dsimp only at hSw); go_simp; try with_reducible rfl)); (try simp only [Act.put, List.setIfInBounds_toArray, List.set_cons_zero, List.set_cons_succ]))
     (refine held_take (i := 2) (oi := ⟨_, _, _, _, _, _⟩) (d := some 57) (v := ?_) rfl rfl (by kernel_rfl) (by kernel_rfl) (by kernel_rfl) (fun _ _ _ h => h) (by rfl) ?_ (by assumption) ?_; rotate_left; (focus (intro w hSw; (try dsimp only at hSw); go_simp; try with_reducible rfl)); (try simp only [Act.put, List.setIfInBounds_toArray, List.set_cons_zero, List.set_cons_succ]))
     (refine held_take (i := 3) (oi := ⟨_, _, _, _, _, _⟩) (d := some 58) (v := ?_) rfl rfl (by kernel_rfl) (by kernel_rfl) (by kernel_rfl) (fun _ _ _ h => h) (by rfl) ?_ (by assumption) ?_; rotate_left; (focus (intro w hSw; (try dsimp only at hSw); go_simp; try with_reducible rfl)); (try simp only [Act.put, List.setIfInBounds_toArray, List.set_cons_zero, List.set_cons_succ]))
     (refine held_take (i := 4) (oi := ⟨_, _, _, _, _, _⟩) (d := some 59) (v := ?_) rfl rfl (by kernel_rfl) (by kernel_rfl) (by kernel_rfl) (fun _ _ _ h => h) (by rfl) ?_ (by assumption) ?_; rotate_left; (focus (intro w hSw; (try dsimp only at hSw); go_simp; try with_reducible rfl)); (try simp only [Act.put, List.setIfInBounds_toArray, List.set_cons_zero, List.set_cons_succ]))
     (refine held_take (i := 5) (oi := ⟨_, _, _, _, _, _⟩) (d := some 60) (v := ?_) rfl rfl (by kernel_rfl) (by kernel_rfl) (by kernel_rfl) (fun _ _ _ h => h) (by rfl) ?_ (by assumption) ?_; rotate_left; (focus (intro w hSw; (try dsimp only at hSw); go_simp; try with_reducible rfl)); (try simp only [Act.put, List.setIfInBounds_toArray, List.set_cons_zero, List.set_cons_succ]))
     (refine held_take (i := 6) (oi := ⟨_, _, _, _, _, _⟩) (d := some 61) (v := ?_) rfl rfl (by kernel_rfl) (by kernel_rfl) (by kernel_rfl) (fun _ _ _ h => h) (by rfl) ?_ (by assumption) ?_; rotate_left; (focus (intro w hSw; (try dsimp only at hSw); go_simp; try with_reducible rfl)); (try simp only [Act.put, List.setIfInBounds_toArray, List.set_cons_zero, List.set_cons_succ]))
     (refine held_take (i := 7) (oi := ⟨_, _, _, _, _, _⟩) (d := some 62) (v := ?_) rfl rfl (by kernel_rfl) (by kernel_rfl) (by kernel_rfl) (fun _ _ _ h => h) (by rfl) ?_ (by assumption) ?_; rotate_left; (focus (intro w hSw; (try dsimp only at hSw); go_simp; try with_reducible rfl)); (try simp only [Act.put, List.setIfInBounds_toArray, List.set_cons_zero, List.set_cons_succ]))
     (refine held_take (i := 8) (oi := ⟨_, _, _, _, _, _⟩) (d := some 63) (v := ?_) rfl rfl (by kernel_rfl) (by kernel_rfl) (by kernel_rfl) (fun _ _ _ h => h) (by rfl) ?_ (by assumption) ?_; rotate_left; (focus (intro w hSw; (try dsimp only at hSw); go_simp; try with_reducible rfl)); (try simp only [Act.put, List.setIfInBounds_toArray, List.set_cons_zero, List.set_cons_succ]))
     (refine held_take (i := 9) (oi := ⟨_, _, _, _, _, _⟩) (d := some 64) (v := ?_) rfl rfl (by kernel_rfl) (by kernel_rfl) (by kernel_rfl) (fun _ _ _ h => h) (by rfl) ?_ (by assumption) ?_; rotate_left; (focus (intro w hSw; (try dsimp only at hSw); go_simp; try with_reducible rfl)); (try simp only [Act.put, List.setIfInBounds_toArray, List.set_cons_zero, List.set_cons_succ]))
     (refine held_skip (i := 10) (oi := ⟨_, _, _, _, _, _⟩) (d := some 65) rfl rfl (by kernel_rfl) (by kernel_rfl) (by kernel_rfl) (fun _ _ _ h => h) (by rfl) (by assumption) ?_; (try simp only [Act.put, List.setIfInBounds_toArray, List.set_cons_zero, List.set_cons_succ]))
     (refine held_skip (i := 11) (oi := ⟨_, _, _, _, _, _⟩) (d := some 66) rfl rfl (by kernel_rfl) (by kernel_rfl) (by kernel_rfl) (fun _ _ _ h => h) (by rfl) (by assumption) ?_; (try simp only [Act.put, List.setIfInBounds_toArray, List.set_cons_zero, List.set_cons_succ]))
     (refine held_skip (i := 12) (oi := ⟨_, _, _, _, _, _⟩) (d := some 67) rfl rfl (by kernel_rfl) (by kernel_rfl) (by kernel_rfl) (fun _ _ _ h => h) (by rfl) (by assumption) ?_; (try simp only [Act.put, List.setIfInBounds_toArray, List.set_cons_zero, List.set_cons_succ]))
     (refine held_skip (i := 13) (oi := ⟨_, _, _, _, _, _⟩) (d := some 68) rfl rfl (by kernel_rfl) (by kernel_rfl) (by kernel_rfl) (fun _ _ _ h => h) (by rfl) (by assumption) ?_; (try simp only [Act.put, List.setIfInBounds_toArray, List.set_cons_zero, List.set_cons_succ]))
     (refine held_skip (i := 14) (oi := ⟨_, _, _, _, _, _⟩) (d := some 69) rfl rfl (by kernel_rfl) (by kernel_rfl) (by kernel_rfl) (fun _ _ _ h => h) (by rfl) (by assumption) ?_; (try simp only [Act.put, List.setIfInBounds_toArray, List.set_cons_zero, List.set_cons_succ]))
     (refine held_skip (i := 15) (oi := ⟨_, _, _, _, _, _⟩) (d := some 70) rfl rfl (by kernel_rfl) (by kernel_rfl) (by kernel_rfl) (fun _ _ _ h => h) (by rfl) (by assumption) ?_; (try simp only [Act.put, List.setIfInBounds_toArray, List.set_cons_zero, List.set_cons_succ]))
     (refine held_skip (i := 16) (oi := ⟨_, _, _, _, _, _⟩) (d := some 71) rfl rfl (by kernel_rfl) (by kernel_rfl) (by kernel_rfl) (fun _ _ _ h => h) (by rfl) (by assumption) ?_; (try simp only [Act.put, List.setIfInBounds_toArray, List.set_cons_zero, List.set_cons_succ]))
     (refine held_skip (i := 17) (oi := ⟨_, _, _, _, _, _⟩) (d := some 72) rfl rfl (by kernel_rfl) (by kernel_rfl) (by kernel_rfl) (fun _ _ _ h => h) (by rfl) (by assumption) ?_; (try simp only [Act.put, List.setIfInBounds_toArray, List.set_cons_zero, List.set_cons_succ]))
     (refine held_skip (i := 18) (oi := ⟨_, _, _, _, _, _⟩) (d := some 73) rfl rfl (by kernel_rfl) (by kernel_rfl) (by kernel_rfl) (fun _ _ _ h => h) (by rfl) (by assumption) ?_; (try simp only [Act.put, List.setIfInBounds_toArray, List.set_cons_zero, List.set_cons_succ]))
     (refine held_skip (i := 19) (oi := ⟨_, _, _, _, _, _⟩) (d := some 74) rfl rfl (by kernel_rfl) (by kernel_rfl) (by kernel_rfl) (fun _ _ _ h => h) (by rfl) (by assumption) ?_; (try simp only [Act.put, List.setIfInBounds_toArray, List.set_cons_zero, List.set_cons_succ]))
     (refine held_skip (i := 20) (oi := ⟨_, _, _, _, _, _⟩) (d := some 75) rfl rfl (by kernel_rfl) (by kernel_rfl) (by kernel_rfl) (fun _ _ _ h => h) (by rfl) (by assumption) ?_; (try simp only [Act.put, List.setIfInBounds_toArray, List.set_cons_zero, List.set_cons_succ]))
     (refine held_skip (i := 21) (oi := ⟨_, _, _, _, _, _⟩) (d := some 76) rfl rfl (by kernel_rfl) (by kernel_rfl) (by kernel_rfl) (fun _ _ _ h => h) (by rfl) (by assumption) ?_; (try simp only [Act.put, List.setIfInBounds_toArray, List.set_cons_zero, List.set_cons_succ]))
     (refine held_take (i := 22) (oi := ⟨_, _, _, _, _, _⟩) (d := some 77) (v := ?_) rfl rfl (by kernel_rfl) (by kernel_rfl) (by kernel_rfl) (fun _ _ _ h => h) (by rfl) ?_ (by assumption) ?_; rotate_left; (focus (intro w hSw; (try dsimp only at hSw); go_simp; try with_reducible rfl)); (try simp only [Act.put, List.setIfInBounds_toArray, List.set_cons_zero, List.set_cons_succ]))
     refine wpAnyH_ready (rs := [23]) (by kernel_rfl) (by simp) ?_
     refine AllReadyH.cons (o := ⟨_, _, _, _, _, _⟩) rfl (fun K hK => ?_) AllReadyH.nil
     go_simp
     refine hK.out _ _ (by refine ⟨?_, ?_, ?_, ?_, ?_⟩ <;> go_keep) (fun hHeld => ?_)
     clear hK K
     (try simp only [Act.put, List.setIfInBounds_toArray, List.set_cons_zero, List.set_cons_succ])
     (refine held_take (i := 24) (oi := ⟨_, _, _, _, _, _⟩) (d := some 5) (v := ?_) rfl rfl (by kernel_rfl) (by kernel_rfl) (by kernel_rfl) (fun _ _ _ h => h) (by rfl) ?_ (by assumption) ?_; rotate_left; (focus (intro w hSw; (try dsimp only at hSw); go_simp; try with_reducible rfl)); (try simp only [Act.put, List.setIfInBounds_toArray, List.set_cons_zero, List.set_cons_succ]))
     refine wpAnyH_done (by kernel_rfl) ?_ _
     go_wp2_with fail
     refine bodyPost_ret (v := .tuple #[tv ⟨y.q.day + nd, y.q.par, y.q.src⟩, .bool false]) ?_ rfl ?_
     ·have Y0 := (BR1.out.s3 rfl ⟨y.q.day + nd, y.q.par, y.q.src⟩).cell 0
      have Y1 := (BR1.out.s3 rfl ⟨y.q.day + nd, y.q.par, y.q.src⟩).cell 1
      have Y2 := (BR1.out.s3 rfl ⟨y.q.day + nd, y.q.par, y.q.src⟩).cell 2
      simp [results, Tryz.results128, go_sem, Y0, Y1, Y2]
     ·exact TitEnd.drew (tit_end (R := R) HX.out HAT.out HAT1.out HK1.out (by have := HRR.out; omega))
   ·have hn0b : decide (0 < nd) = false := decide_eq_false hn0
    have HTN := Lib.hid (HTT.out.symm.trans (titS_o (s := setS x.qs x.r) (r := x.r) HPK.out h8 h2 (by rw [HND.out]; exact hn0)))
    have e := HTN.out
    subst e
    clear h8 h2 HTT hn0
    go_wp2_with (go_at_call 151; (with_reducible refine (TN.out _).mono ?_); rintro e w' ⟨rfl, rfl⟩)
    have y0 := (BR.out.s3 rfl ⟨y.q.day, y.q.par, y.q.src⟩).cell 0
    have y1 := (BR.out.s3 rfl ⟨y.q.day, y.q.par, y.q.src⟩).cell 1
    have y2 := (BR.out.s3 rfl ⟨y.q.day, y.q.par, y.q.src⟩).cell 2
    refine bodyPost_ret (v := .tuple #[tv ⟨y.q.day, y.q.par, y.q.src⟩, .bool true]) ?_ rfl (tit_end HX.out HAT.out HAT3.out (HXM.out ▸ Kp.of_below G3.out) (by have := HRR.out; omega))
    simp [results, Tryz.results128, go_sem, y0, y1, y2]
end Go.Proofs.YtehhlgdkhecacaaGreat

namespace Go.Proofs.YtehhlgdkhecacaaGreat
open Go.RowKit Go.Shelf Go.Sort
/-- The titles by the first so many proofs. -/
def titP (s : Int → Int → Int) (c : List Qf) (r : List Int) (person day : Int) (m : Nat) : List Tt := ((List.range m).filter fun i => hasT s c r person day i).map fun i => (titS s c r i).1
theorem titP_succ (s : Int → Int → Int) (c : List Qf) (r : List Int) (person day : Int) (m : Nat) :
  titP s c r person day (m + 1) = titP s c r person day m ++ (if hasT s c r person day m = true then [(titS s c r m).1] else []) := by
 unfold titP
 rw [List.range_succ, List.filter_append, List.map_append]
 congr 1
 by_cases h : hasT s c r person day m = true
 ·rw [if_pos h, List.filter_cons_of_pos h]; rfl
 ·rw [if_neg h, List.filter_cons_of_neg h]; rfl
theorem titP_len (s : Int → Int → Int) (c : List Qf) (r : List Int) (person day : Int) (m : Nat) : (titP s c r person day m).length ≤ m := by
 unfold titP
 rw [List.length_map]
 have := List.length_filter_le (fun i => hasT s c r person day i) (List.range m)
 rwa [List.length_range] at this
theorem titS_src (s : Int → Int → Int) (c : List Qf) (r : List Int) (i : Nat) : (titS s c r i).1.src = (c.getD i q0).src := by
 unfold titS
 split
 ·rfl
 ·split
  ·rfl
  ·split <;> rfl
theorem titL_apart {s : Int → Int → Int} {c : List Qf} {r : List Int} {person day : Int} (h : (c.map Qf.src).Nodup) : Apart (titL s c r person day) := by
 unfold Apart titL
 rw [List.map_map]
 have e : (List.range c.length).map (fun i => (c.getD i q0).src) = c.map Qf.src := by
  apply List.ext_getElem
  ·simp
  ·intro i h1 h2
   have h3 : i < c.length := by simpa using h2
   simp [List.getD_eq_getElem?_getD, List.getElem?_eq_getElem h3]
 have e2 : (Tt.src ∘ fun i => (titS s c r i).1) = fun i => (c.getD i q0).src := by
  funext i
  exact titS_src s c r i
 rw [e2]
 rw [← e] at h
 exact (List.filter_sublist.map _).nodup h
theorem one_tt {W : World} {g : Nat} {t : Tt} (h : Blk W g 67 (tb t)) : Arr tcells 3 W (some ⟨g, 0, none⟩) 1 [t] := Blk.arr1 (f := tcells) (size := 3) (x := t) h
theorem Li.At.lowB {x : Li} {w V : World} {B : Nat} (h : x.At w) (g : Below B w V) (hM : x.W0.heap.size < B) (hL : x.Lb < B) : x.At V := by
 obtain ⟨es, clock, hm, hg⟩ := h.map
 exact ⟨h.low.trans (g.mono (Nat.le_of_lt hM)), (g.block _ hL).trans h.blk, es, clock, (g.block _ hM).trans hm, hg⟩
theorem Kp.lowB {M : Nat} {w A V : World} (h : Kp M w A) (g : Below w.heap.size A V) : Kp M w V :=
 ⟨g.os.trans h.os, g.tape.trans h.tape, g.output.trans h.output, Nat.le_trans h.size g.size, fun k hk hm => (g.block k hk).trans (h.keep k hk hm)⟩
theorem Li.At.lb {x : Li} {w : World} (h : x.At w) : x.Lb < w.heap.size := h.blk.lt
/-- What a call of titles hands back. -/
def TitsEnd (x : Li) (l : List Tt) (w : World) (e : Ending) (w' : World) : Prop := (∃ v, e = .returned v ∧ OwnL tcells 3 67 w' w.heap.size v l) ∧ x.At w' ∧ Kp x.W0.heap.size w w'
set_option maxRecDepth 100000 in
set_option maxHeartbeats 8000000 in
theorem titles_any (x : Li) (person day : Int) (w : World) (hx : x.Ok) (ha : x.At w) (hT : ∀ (i : Nat) (W : World), x.At W → i < x.n → (x.qs.getD i q0).day ≤ day → Calls Tryz.prog 128 #[.pointer (some ⟨x.Lb, 0, none⟩), .int .i64 i] W (TitEnd x (titS (setS x.qs x.r) x.qs x.r i).1 (titS (setS x.qs x.r) x.qs x.r i).2 W)) :
  Calls Tryz.prog 86 #[.pointer (some ⟨x.Lb, 0, none⟩), .int .i64 person, .int .i64 day] w (TitsEnd x (srtT (titL (setS x.qs x.r) x.qs x.r person day)) w) := by
 have HX := Lib.hid hx
 have HLM := Lib.hid (show x.l.length = x.n from hx.len)
 have HAP := Lib.hid (titL_apart (s := setS x.qs x.r) (r := x.r) (person := person) (day := day) hx.src)
 have HTE := Lib.hid (show titL (setS x.qs x.r) x.qs x.r person day = titP (setS x.qs x.r) x.qs x.r person day x.n by unfold titL titP; rw [List.length_map, hx.len])
 have HBL := Lib.hid ha.blk
 have HN := Lib.hid hx.n
 have HAT := Lib.hid ha
 have HMW := Lib.hid ha.lt
 have HTI := Lib.hid hT
 obtain ⟨Lb, hLb⟩ : ∃ b, x.Lb = b := ⟨_, rfl⟩
 obtain ⟨A, hA⟩ : ∃ b, x.A = b := ⟨_, rfl⟩
 obtain ⟨B, hB⟩ : ∃ b, x.B = b := ⟨_, rfl⟩
 obtain ⟨n, hn⟩ : ∃ b, x.n = b := ⟨_, rfl⟩
 obtain ⟨c, hc⟩ : ∃ b, x.c = b := ⟨_, rfl⟩
 obtain ⟨d, hd'⟩ : ∃ b, x.d = b := ⟨_, rfl⟩
 obtain ⟨M, hM⟩ : ∃ b, x.W0.heap.size = b := ⟨_, rfl⟩
 have HPR := Lib.hid (show ∀ W, x.At W → Prf W A n x.l ∧ Ints W B n x.r ∧ Blk W Lb 141 #[.slice A n c, .slice B n d, .map (some M)] by
  intro W h
  have h3 := h.blk
  rw [hLb, hA, hB, hn, hc, hd', hM] at h3
  exact ⟨by have := h.prf hx; rwa [hA, hn] at this, by have := h.rd hx; rwa [hB, hn] at this, h3⟩)
 rw [hLb]
 rw [hLb, hA, hB, hn, hc, hd', hM] at HBL
 rw [hn] at HLM HN HTE HTI
 rw [hLb] at HTI
 have HXM := Lib.hid hM
 have HO0 := Lib.hid (OwnL.nil (f := tcells) (size := 3) (e := 67) w w.heap.size)
 have b0 := HBL.out.cell 0
 have b1 := HBL.out.cell 1
 obtain ⟨sl, hsl⟩ : ∃ l, srtT (titL (setS x.qs x.r) x.qs x.r person day) = l := ⟨_, rfl⟩
 have HSL := Lib.hid hsl
 rw [hsl]
 obtain ⟨tp, htp⟩ : ∃ f, titP (setS x.qs x.r) x.qs x.r person day = f := ⟨_, rfl⟩
 have HTP := Lib.hid htp
 clear hT hx ha hLb hA hB hn hc hd' hM hsl htp
 go_enter Tryz.func86, Tryz.ntmps86
 go_wp2_with fail
 clear b0 b1
 go_loopw [7, 17] (fun v i wr => ∃ k : Nat, k ≤ n ∧ OwnL tcells 3 67 wr w.heap.size v (tp k) ∧ i = .int .i64 k ∧ x.At wr ∧ Kp x.W0.heap.size w wr) (fun _ i _ => n - (intOf i).toNat)
 case atStart => exact ⟨0, Nat.zero_le _, by rw [← HTP.out]; exact HO0.out, rfl, HAT.out, Kp.refl _ _⟩
 case round =>
  obtain ⟨k, hk, ho, rfl, hat, hkp⟩ := hrel
  have HO := Lib.hid ho
  have HA' := Lib.hid hat
  have HK := Lib.hid hkp
  obtain ⟨hpr, hrd, hbl⟩ := HPR.out wr hat
  have HPRr := Lib.hid hpr
  have HRD := Lib.hid hrd
  have HBLr := Lib.hid hbl
  clear ho hat hkp hpr hrd hbl
  by_cases hkn : k < n
  ·obtain ⟨b2, o2, rfl, -, -, hc2⟩ := ints_at HRD.out hkn
   obtain ⟨rr, hrr⟩ : ∃ s, x.r.getD k 0 = s := ⟨_, rfl⟩
   rw [hrr] at hc2
   have HRR := Lib.hid hrr
   have HPK := Lib.hid (map_pf (l := x.l) (k := k) (by rw [HLM.out]; exact hkn))
   obtain ⟨b, o, rfl, -, -, -, hyc⟩ := HPRr.out.at hkn
   obtain ⟨y, hy⟩ : ∃ y, x.l.getD k p0 = y := ⟨_, rfl⟩
   rw [hy] at hyc HPK
   obtain ⟨e0, e1, e2, e3, e4, e5, e6, e7, e8⟩ := hyc _ (Below.refl _ _)
   obtain ⟨W2, hW2⟩ : ∃ X, wr.alloc (.cells #[.int .i64 y.q.src, .int .i64 y.q.kind, .slice y.A y.n y.c, .int .i64 y.q.oth, .int .i64 y.q.par, .int .i64 y.q.day, .int .i64 y.q.thr, .int .i64 y.q.kno, .int .i64 y.q.unt] 56) = X := ⟨_, rfl⟩
   have GW2 := Lib.hid (show Below wr.heap.size wr W2 by rw [← hW2]; exact one_more _ _)
   have BW2 := Lib.hid (show Blk W2 wr.heap.size 56 #[.int .i64 y.q.src, .int .i64 y.q.kind, .slice y.A y.n y.c, .int .i64 y.q.oth, .int .i64 y.q.par, .int .i64 y.q.day, .int .i64 y.q.thr, .int .i64 y.q.kno, .int .i64 y.q.unt] by rw [← hW2]; exact Blk.new _ _ _)
   have BL2 := Lib.hid (HBLr.out.ext GW2.out)
   have r0 := hc2 W2 GW2.out
   have HW2 := Lib.hid hW2
   have HQK := Lib.hid (show x.qs.getD k q0 = y.q from HPK.out)
   have hwr2 : wrap64 ((k : Int) + 1) = (k : Int) + 1 := wrap_in (by have := HN.out; omega)
   have hki : (k : Int) < (n : Int) := by omega
   have HA2 := Lib.hid (HA'.out.ext GW2.out)
   have HK2 := Lib.hid (HK.out.trans (Kp.of_below GW2.out))
   have HSU := Lib.hid (titP_succ (setS x.qs x.r) x.qs x.r person day k)
   have HHT := Lib.hid (show hasT (setS x.qs x.r) x.qs x.r person day k = (decide (rr = person) && decide (y.q.day ≤ day) && (titS (setS x.qs x.r) x.qs x.r k).2) by unfold hasT; rw [HRR.out, HQK.out])
   rw [HHT.out, HTP.out] at HSU
   obtain ⟨tt, htt⟩ : ∃ t, titS (setS x.qs x.r) x.qs x.r k = t := ⟨_, rfl⟩
   have T2 := fun (h3 : y.q.day ≤ day) => HTI.out k W2 HA2.out hkn (by rw [HQK.out]; exact h3)
   rw [htt] at HSU T2
   have HT2 := Lib.hid T2
   obtain ⟨tt, is⟩ := tt
   dsimp only at HSU HT2
   have HTL := Lib.hid (show (tp k).length + 1 ≤ 1000000 by rw [← HTP.out]; have := titP_len (setS x.qs x.r) x.qs x.r person day k; have := HN.out; omega)
   clear hW2 hrr hy hyc hc2 htt T2
   go_upto_region 5 with fail
   rw [HW2.out]
   clear e0 e1 e2 e3 e4 e5 e6 e7 e8
   have b0 := BL2.out.cell 0
   have b1 := BL2.out.cell 1
   have d5 := BW2.out.cell 5
   by_cases h1 : rr = person
   ·have h1b : (rr != person) = false := by simpa using h1
    by_cases h2 : y.q.day ≤ day
    ·have h2b : decide (day < y.q.day) = false := decide_eq_false (by omega)
     have T3 := Lib.hid (HT2.out h2)
     have HS3 := Lib.hid (show tp (k + 1) = tp k ++ (if is = true then [tt] else []) by rw [HSU.out, decide_eq_true h1, decide_eq_true h2]; rfl)
     clear h1 h2
     go_upto_region 7 with (go_at_call 128; (with_reducible refine (T3.out).mono ?_); rintro e V ⟨rfl, hat, hkp⟩; have HAV := Lib.hid hat; have HKV := Lib.hid (HK2.out.trans hkp); have HOV := Lib.hid (((HO.out.ext GW2.out).kp hkp HMW.out)); clear hat hkp)
     obtain ⟨V3, hV3⟩ : ∃ X, V.alloc (.cells #[.int .i64 tt.day, .int .i64 tt.par, .int .i64 tt.src] 67) = X := ⟨_, rfl⟩
     have G3 := Lib.hid (show Below V.heap.size V V3 by rw [← hV3]; exact one_more _ _)
     have B3 := Lib.hid (show Blk V3 V.heap.size 67 #[.int .i64 tt.day, .int .i64 tt.par, .int .i64 tt.src] by rw [← hV3]; exact Blk.new _ _ _)
     have H3 := Lib.hid hV3
     clear hV3
     rw [H3.out]
     have t0' := B3.out.cell 0
     have t1' := B3.out.cell 1
     have t2' := B3.out.cell 2
     cases is with
     | false =>
      go_wp2_with fail
      go_roundw
      case rel => exact ⟨k + 1, by omega, by rw [HS3.out]; simpa using HOV.out.ext G3.out, by rw [hwr2]; rfl, HAV.out.ext G3.out, HKV.out.trans (Kp.of_below G3.out)⟩
      case measure => rw [hwr2]; simp only [intOf]; omega
     | true =>
      have GX := Lib.hid (one_more V3 (.cells #[.int .i64 tt.day, .int .i64 tt.par, .int .i64 tt.src] 67))
      have HI := Lib.hid (one_tt (t := tt) (Blk.new V3 67 #[.int .i64 tt.day, .int .i64 tt.par, .int .i64 tt.src]))
      have HOX := Lib.hid ((HOV.out.ext G3.out).ext GX.out)
      have HBB := Lib.hid (show w.heap.size ≤ (V3.alloc (.cells #[.int .i64 tt.day, .int .i64 tt.par, .int .i64 tt.src] 67)).heap.size by have h1 := HKV.out.size; have h2 := G3.out.size; have h3 := GX.out.size; omega)
      go_wp2_with (first | (at_builtin; go_loud (refine wpList_app kdT (by rfl) _ _ (by rfl) w.heap.size _ (tp k) (by rfl) HOX.out _ 1 1 [tt] (by rfl) HI.out HTL.out HBB.out ?_); intro v' w' ho hgr hz; have HO2 := Lib.hid ho; have GV := Lib.hid (HOX.out.below hgr (Nat.le_refl _) HBB.out); clear ho hgr hz))
      go_roundw
      case rel => exact ⟨k + 1, by omega, by rw [HS3.out]; exact HO2.out, by rw [hwr2]; rfl, ((HAV.out.ext G3.out).ext GX.out).lowB GV.out HMW.out HAT.out.lb, Kp.lowB ((HKV.out.trans (Kp.of_below G3.out)).trans (Kp.of_below GX.out)) GV.out⟩
      case measure => rw [hwr2]; simp only [intOf]; omega
    ·have h2b : decide (day < y.q.day) = true := decide_eq_true (by omega)
     have HS3 := Lib.hid (show tp (k + 1) = tp k by rw [HSU.out, decide_eq_false h2, Bool.and_false, Bool.false_and]; simp)
     clear h1 h2
     go_wp2_with fail
     go_roundw
     case rel => exact ⟨k + 1, by omega, by rw [HS3.out]; exact HO.out.ext GW2.out, by rw [hwr2]; rfl, HA2.out, HK2.out⟩
     case measure => rw [hwr2]; simp only [intOf]; omega
   ·have h1b : (rr != person) = true := by simpa using h1
    have HS3 := Lib.hid (show tp (k + 1) = tp k by rw [HSU.out, decide_eq_false h1, Bool.false_and, Bool.false_and]; simp)
    clear h1
    go_wp2_with fail
    go_roundw
    case rel => exact ⟨k + 1, by omega, by rw [HS3.out]; exact HO.out.ext GW2.out, by rw [hwr2]; rfl, HA2.out, HK2.out⟩
    case measure => rw [hwr2]; simp only [intOf]; omega
  ·obtain rfl : k = n := by omega
   have HSZ := Lib.hid (show w.heap.size ≤ wr.heap.size from HK.out.size)
   have TS := Lib.hid (fun (v : Value) (h : OwnL tcells 3 67 wr w.heap.size v (tp k)) => sortT_any w.heap.size v (tp k) wr h (by rw [← HTP.out]; have := titP_len (setS x.qs x.r) x.qs x.r person day k; have := HN.out; omega) HSZ.out (by rw [← HTP.out, ← HTE.out]; exact HAP.out))
   have HSE := Lib.hid (show srtT (tp k) = sl by rw [← HSL.out, HTE.out, HTP.out])
   go_wp2_with (go_at_call 129; (with_reducible refine (TS.out _ HO.out).mono ?_); rintro e V ⟨rfl, hown, hbel⟩; have HOV := Lib.hid hown; have GV := Lib.hid hbel; clear hown hbel)
   go_ret
   exact ⟨⟨_, rfl, by rw [← HSE.out]; exact HOV.out⟩, HA'.out.lowB GV.out HMW.out HAT.out.lb, HK.out.lowB GV.out⟩
end Go.Proofs.YtehhlgdkhecacaaGreat

namespace Go.Proofs.YtehhlgdkhecacaaGreat
open Go.RowKit Go.Shelf
theorem in_any (n lo hi : Int) (w : World) :
  Calls Tryz.prog 108 #[.int .i64 n, .int .i64 lo, .int .i64 hi] w fun e w' => e = .returned (.bool (rng n lo hi)) ∧ w = w' := by
 unfold rng
 by_cases h1 : lo ≤ n
 ·go_enter Tryz.func108, Tryz.ntmps108
  go_wp2
  go_ret
  exact ⟨by simp [h1], rfl⟩
 ·go_enter Tryz.func108, Tryz.ntmps108
  go_wp2
  go_ret
  exact ⟨by simp; omega, rfl⟩
theorem refLasts_any (k : Int) (w : World) : Calls Tryz.prog 99 #[.int .i64 k] w fun e w' => e = .returned (.bool (lastsB k)) ∧ w = w' := by
 unfold lastsB
 by_cases h3 : k = 3
 ·subst h3
  go_enter Tryz.func99, Tryz.ntmps99
  go_wp2
  go_ret
  exact ⟨rfl, rfl⟩
 ·by_cases h4 : k = 4
  ·subst h4
   go_enter Tryz.func99, Tryz.ntmps99
   go_wp2
   go_ret
   exact ⟨rfl, rfl⟩
  ·have e3 : (k == 3) = false := beq_eq_false_iff_ne.2 h3
   have e4 : (k == 4) = false := beq_eq_false_iff_ne.2 h4
   go_enter Tryz.func99, Tryz.ntmps99
   go_wp2
   go_ret
   refine ⟨?_, rfl⟩
   simp [h3, h4]
   rfl
theorem works_any (k : Int) (w : World) : Calls Tryz.prog 157 #[.int .i64 k] w fun e w' => e = .returned (.bool (decide (k = 3) || decide (k = 5))) ∧ w = w' := by
 by_cases h3 : k = 3
 ·subst h3
  go_enter Tryz.func157, Tryz.ntmps157
  go_wp2
  go_ret
  exact ⟨rfl, rfl⟩
 ·have e3 : (k == 3) = false := beq_eq_false_iff_ne.2 h3
  go_enter Tryz.func157, Tryz.ntmps157
  go_wp2
  go_ret
  refine ⟨?_, rfl⟩
  simp [h3]
  rfl
end Go.Proofs.YtehhlgdkhecacaaGreat
