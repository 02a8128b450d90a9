/- Part of the proof: TH, MG, TX, TY, TZ, WJ, WG, XA. -/
import Derived.Test.YtkoejeghihcmlaaGreatRows
import Derived.ProofKit
import Derived.Carry
import Derived.WideKeyArgs
import Derived.Below
import Derived.OpenShut
import Derived.Deep.Slices
import Derived.Test.YtkoejeghihcmlaaGreatQA0
import Derived.Test.YtkoejeghihcmlaaGreatQA1
import Derived.Test.YtkoejeghihcmlaaGreatQA4
import Derived.Test.YtkoejeghihcmlaaGreatQA5
import Derived.Test.YtkoejeghihcmlaaGreatQA6
namespace Go.Proofs.YtkoejeghihcmlaaGreat
open Go.RowKit Go.Shelf
/-- A copy's lists are its own. -/
structure Cp (w : World) (B : Nat) (p : Pl) (v1 v2 v3 : Value) : Prop where
 l1 : OwnL scells 6 103 w B v1 p.loads
 l2 : OwnL scells 6 105 w B v2 p.stands
 l3 : OwnL scells 6 107 w B v3 p.spells
 d12 : ∀ k, v1.ownBlock = some k → v2.ownBlock ≠ some k
 d13 : ∀ k, v1.ownBlock = some k → v3.ownBlock ≠ some k
 d23 : ∀ k, v2.ownBlock = some k → v3.ownBlock ≠ some k
abbrev plw (p : Pl) (v1 v2 v3 : Value) : Array Value := #[.int .i64 p.lo, .int .i64 p.hi, v1, v2, v3, .int .i64 p.geese]
theorem Cp.far {w : World} {B : Nat} {p : Pl} {v1 v2 v3 : Value} (h : Cp w B p v1 v2 v3) {a : Addr} (ha : a.block < B) (u : Value) : Cp (w.setCell a u) B p v1 v2 v3 := ⟨h.l1.far ha u, h.l2.far ha u, h.l3.far ha u, h.d12, h.d13, h.d23⟩
theorem Cp.mono {w : World} {B B' : Nat} {p : Pl} {v1 v2 v3 : Value} (h : Cp w B p v1 v2 v3) (hb : B' ≤ B) : Cp w B' p v1 v2 v3 := ⟨h.l1.mono hb, h.l2.mono hb, h.l3.mono hb, h.d12, h.d13, h.d23⟩
set_option maxRecDepth 100000 in
set_option maxHeartbeats 4000000 in
theorem copied_any (p : Pl) (A1 A2 A3 : Option Addr) (n1 c1 n2 c2 n3 c3 : Nat) (w : World) (hp : Pa w p A1 A2 A3 n1 c1 n2 c2 n3 c3) (hn : n1 ≤ 1000 ∧ n2 ≤ 1000 ∧ n3 ≤ 1000) :
  Calls Tryz.prog 132 #[plv p A1 A2 A3 n1 c1 n2 c2 n3 c3] w fun e w' => (∃ v1 v2 v3, e = .returned (.agg (plw p v1 v2 v3)) ∧ Cp w' w.heap.size p v1 v2 v3) ∧ Below w.heap.size w w' := by
 obtain ⟨W1, hW1⟩ : ∃ W1, (w.alloc (.cells (plb p A1 A2 A3 n1 c1 n2 c2 n3 c3) 38)).alloc (.cells #[.int .i64 0, .int .i64 0, .slice none 0 0, .slice none 0 0, .slice none 0 0, .int .i64 0] 38) = W1 := ⟨_, rfl⟩
 have g1 : Below w.heap.size w W1 := by rw [← hW1]; exact two_more _ _ _
 have b1 : Blk W1 w.heap.size 38 (plb p A1 A2 A3 n1 c1 n2 c2 n3 c3) := by rw [← hW1]; exact (Blk.new _ _ _).alloc _
 have b2 : Blk W1 (w.heap.size + 1) 38 #[.int .i64 0, .int .i64 0, .slice none 0 0, .slice none 0 0, .slice none 0 0, .int .i64 0] := by
  rw [← hW1]
  have := Blk.new (w.alloc (.cells (plb p A1 A2 A3 n1 c1 n2 c2 n3 c3) 38)) 38 #[.int .i64 0, .int .i64 0, .slice none 0 0, .slice none 0 0, .slice none 0 0, .int .i64 0]
  rw [World.size_alloc] at this
  exact this
 have hz := g1.size
 have T1 := Lib.hid (fun W (g : Below W1.heap.size W1 W) => cloneL_any A1 n1 c1 p.loads W ((hp.l1.below g1).below g) (by omega))
 have T2 := Lib.hid (fun W (g : Below W1.heap.size W1 W) => cloneS_any A2 n2 c2 p.stands W ((hp.l2.below g1).below g) (by omega))
 have T3 := Lib.hid (fun W (g : Below W1.heap.size W1 W) => cloneP_any A3 n3 c3 p.spells W ((hp.l3.below g1).below g) (by omega))
 have G1 := Lib.hid g1
 have HB1 := Lib.hid b1
 have HB2 := Lib.hid b2
 have HW1 := Lib.hid hW1
 have hbl := b1.lt
 clear hp g1 b1 b2 hW1 hn
 go_enter Tryz.func132, Tryz.ntmps132
 go_upto_region 1 with fail
 rw [HW1.out]
 obtain ⟨bx, hbx⟩ : ∃ bx, w.heap.size = bx := ⟨_, rfl⟩
 rw [hbx] at HB1 HB2 G1 hz hbl ⊢
 have hb2l := HB2.out.lt
 have HBX := Lib.hid hbx
 clear hbx
 have k1 := HB1.out.cell 2
 have k2 := HB1.out.cell 3
 have k3 := HB1.out.cell 4
 have f1 := HB1.out.frozen 2
 have f2 := HB1.out.frozen 3
 have f3 := HB1.out.frozen 4
 go_cut [] from 3 to 14 (fun wx => ∃ v1 v2 v3, Blk wx bx 38 (plw p v1 v2 v3) ∧ Cp wx (bx + 2) p v1 v2 v3 ∧ Below bx w wx ∧ Blk wx (bx + 1) 38 #[.int .i64 0, .int .i64 0, .slice none 0 0, .slice none 0 0, .slice none 0 0, .int .i64 0])
 case first =>
  go_region_with (first
   | (go_at_call 195; (with_reducible refine (T1.out _ (Below.refl _ _).drew).mono ?_); rintro e W8 ⟨⟨vL, rfl, oL⟩, g8⟩; obtain ⟨A8, c8, hv8, -⟩ := OwnL.arr kdL oL; subst hv8; have O8 := Lib.hid oL; have G8 := Lib.hid (show Below W1.heap.size W1 W8 from ((Below.refl _ _).drew).trans (g8.mono (Nat.le_refl _))); have B8 := Lib.hid (HB1.out.ext G8.out); have j2 := B8.out.cell 3; have j3 := B8.out.cell 4; clear oL g8)
   | (go_at_call 196; (with_reducible refine (T2.out _ G8.out).mono ?_); rintro e W9 ⟨⟨vS, rfl, oS⟩, g9⟩; obtain ⟨A9, c9, hv9, -⟩ := OwnL.arr kdS oS; subst hv9; have O9 := Lib.hid oS; have G9 := Lib.hid (G8.out.trans (g9.mono G8.out.size)); have B9 := Lib.hid (HB1.out.ext G9.out); have HG9 := Lib.hid g9; have i3 := B9.out.cell 4; clear oS g9)
   | (go_at_call 197; (with_reducible refine (T3.out _ G9.out).mono ?_); rintro e WA ⟨⟨vP, rfl, oP⟩, gA⟩; obtain ⟨AA, cA, hvA, -⟩ := OwnL.arr kdP oP; subst hvA; have OA := Lib.hid oP; have GA := Lib.hid (G9.out.trans (gA.mono G9.out.size)); have BA := Lib.hid (HB1.out.ext GA.out); have HGA := Lib.hid gA; have h1 := BA.out.cell 2; have h2 := BA.out.cell 3; have h3 := BA.out.cell 4; have e1 := BA.out.frozen 2; have e2 := BA.out.frozen 3; have e3 := BA.out.frozen 4; clear oP gA))
  all_goals (try go_wp2_with fail)
  all_goals go_meet
  all_goals
   have hs1 := G8.out.size
   have hs2 := HG9.out.size
   have hs3 := HGA.out.size
   have D8 := fun k e => World.ownsRow.lt O8.out k e
   have D9 := fun k e => World.ownsRow.lt O9.out k e
   have L8 := fun k (e : _ = some k) => (own_cells O8.out e).1
   have L9 := fun k (e : _ = some k) => (own_cells O9.out e).1
   have LA := fun k (e : _ = some k) => (own_cells OA.out e).1
   have P1 := (((((O8.out.ext HG9.out).ext HGA.out).far (p := ⟨bx, 2, none⟩) (show bx < W1.heap.size from hbl) (.slice A8 p.loads.length c8)).far (p := ⟨bx, 3, none⟩) (show bx < W1.heap.size from hbl) (.slice A9 p.stands.length c9)).far (p := ⟨bx, 4, none⟩) (show bx < W1.heap.size from hbl) (.slice AA p.spells.length cA)).mono (base' := bx + 2) (show bx + 2 ≤ W1.heap.size by omega)
   have P2 := ((((O9.out.ext HGA.out).far (p := ⟨bx, 2, none⟩) (show bx < W8.heap.size by omega) (.slice A8 p.loads.length c8)).far (p := ⟨bx, 3, none⟩) (show bx < W8.heap.size by omega) (.slice A9 p.stands.length c9)).far (p := ⟨bx, 4, none⟩) (show bx < W8.heap.size by omega) (.slice AA p.spells.length cA)).mono (base' := bx + 2) (show bx + 2 ≤ W8.heap.size by omega)
   have P3 := (((OA.out.far (p := ⟨bx, 2, none⟩) (show bx < W9.heap.size by omega) (.slice A8 p.loads.length c8)).far (p := ⟨bx, 3, none⟩) (show bx < W9.heap.size by omega) (.slice A9 p.stands.length c9)).far (p := ⟨bx, 4, none⟩) (show bx < W9.heap.size by omega) (.slice AA p.spells.length cA)).mono (base' := bx + 2) (show bx + 2 ≤ W9.heap.size by omega)
   refine ⟨_, _, _, ((BA.out.set_ 2 _).set_ 3 _).set_ 4 _, ⟨P1, P2, P3, fun k e1 e2 => ?_, fun k e1 e2 => ?_, fun k e1 e2 => ?_⟩, ?_, ?_⟩
   ·have := D8 k e1; have := L9 k e2; omega
   ·have := D8 k e1; have := LA k e2; omega
   ·have := D9 k e1; have := LA k e2; omega
   ·exact (((G1.out.trans (GA.out.mono (Nat.le_of_lt hbl))).setCell (p := ⟨bx, 2, none⟩) (Nat.le_refl _) _).setCell (p := ⟨bx, 3, none⟩) (Nat.le_refl _) _).setCell (p := ⟨bx, 4, none⟩) (Nat.le_refl _) _
   ·exact (((HB2.out.ext GA.out).far (p := ⟨bx, 2, none⟩) (by show bx + 1 ≠ bx; omega) _).far (p := ⟨bx, 3, none⟩) (by show bx + 1 ≠ bx; omega) _).far (p := ⟨bx, 4, none⟩) (by show bx + 1 ≠ bx; omega) _
 case rest =>
  obtain ⟨v1, v2, v3, hb, hcp, hg, hr⟩ := hcut
  rename World => WZ
  obtain ⟨A8, c8, hv8, -⟩ := OwnL.arr kdL hcp.l1
  obtain ⟨A9, c9, hv9, -⟩ := OwnL.arr kdS hcp.l2
  obtain ⟨AA, cA, hvA, -⟩ := OwnL.arr kdP hcp.l3
  subst hv8 hv9 hvA
  have HCP := Lib.hid hcp
  have HG := Lib.hid hg
  have HBR := Lib.hid hr
  clear k1 k2 k3 f1 f2 f3
  have b0 := hb.cell 0
  have b1 := hb.cell 1
  have b2 := hb.cell 2
  have b3 := hb.cell 3
  have b4 := hb.cell 4
  have b5 := hb.cell 5
  have r0 := hr.cell 0
  have r1 := hr.cell 1
  have r2 := hr.cell 2
  have r3 := hr.cell 3
  have r4 := hr.cell 4
  have r5 := hr.cell 5
  have q0 := hr.frozen 0
  have q1 := hr.frozen 1
  have q2 := hr.frozen 2
  have q3 := hr.frozen 3
  have q4 := hr.frozen 4
  have q5 := hr.frozen 5
  clear hcp hg hr hb
  go_wp2_with fail
  have hb9 := (((((HBR.out.set_ 0 (.int .i64 p.lo)).set_ 1 (.int .i64 p.hi)).set_ 2 (.slice A8 p.loads.length c8)).set_ 3 (.slice A9 p.stands.length c9)).set_ 4 (.slice AA p.spells.length cA)).set_ 5 (.int .i64 p.geese)
  have t0 := hb9.cell 0
  have t1 := hb9.cell 1
  have t2 := hb9.cell 2
  have t3 := hb9.cell 3
  have t4 := hb9.cell 4
  have t5 := hb9.cell 5
  clear hb9 b0 b1 b2 b3 b4 b5 r0 r1 r2 r3 r4 r5 q0 q1 q2 q3 q4 q5
  rw [HBX.out]
  have hl : ∀ k, bx ≤ (⟨bx + 1, k, none⟩ : Addr).block := fun k => Nat.le_succ _
  have hl2 : ∀ k, (⟨bx + 1, k, none⟩ : Addr).block < bx + 2 := fun k => Nat.lt_succ_self _
  refine bodyPost_ret (v := .agg (plw p (.slice A8 p.loads.length c8) (.slice A9 p.stands.length c9) (.slice AA p.spells.length cA))) ?_ rfl ⟨⟨_, _, _, rfl, (((((((HCP.out.far (hl2 0) _).far (hl2 1) _).far (hl2 2) _).far (hl2 3) _).far (hl2 4) _).far (hl2 5) _).mono (by omega))⟩, (((((HG.out.setCell (hl 0) _).setCell (hl 1) _).setCell (hl 2) _).setCell (hl 3) _).setCell (hl 4) _).setCell (hl 5) _⟩
  simp [results, Tryz.results132, go_sem, t0, t1, t2, t3, t4, t5]
end Go.Proofs.YtkoejeghihcmlaaGreat

namespace Go.Proofs.YtkoejeghihcmlaaGreat
open Go.RowKit Go.Shelf
set_option maxRecDepth 100000 in
theorem eqlRg (x y : Rg) (w : World) : (binOp .eql 33 (.agg #[.int .i64 x.lo, .int .i64 x.hi]) (.agg #[.int .i64 y.lo, .int .i64 y.hi])).run Tryz.prog w = .ok (.bool (decide (x = y))) w := by
 obtain ⟨a, b⟩ := x
 obtain ⟨a', b'⟩ := y
 by_cases h1 : a = a' <;> by_cases h2 : b = b' <;> simp [go_sem, h1, h2]
def sameAt (p q : Pl) (known h : Int) : Bool := decide (stoodR p h known = stoodR q h known) && decide (askE p [h] known = askE q [h] known)
set_option maxRecDepth 100000 in
set_option maxHeartbeats 4000000 in
theorem sameAt_any (p q : Pl) (A1 A2 A3 : Option Addr) (n1 c1 n2 c2 n3 c3 : Nat) (B1 B2 B3 : Option Addr) (m1 d1 m2 d2 m3 d3 : Nat) (bp bk bq : Nat) (h known : Int) (w : World) (hP : Blk w bp 38 (plb p A1 A2 A3 n1 c1 n2 c2 n3 c3)) (hK : Blk w bk 3 #[.int .i64 known])
  (hQ : Blk w bq 38 (plb q B1 B2 B3 m1 d1 m2 d2 m3 d3)) (hp : Pa w p A1 A2 A3 n1 c1 n2 c2 n3 c3) (hq : Pa w q B1 B2 B3 m1 d1 m2 d2 m3 d3) (h19 : p.loads.length ≤ 60) (h19' : q.loads.length ≤ 60) :
  Calls Tryz.prog 116 #[.int .i64 h, .pointer (some ⟨bp, 0, none⟩), .pointer (some ⟨bk, 0, none⟩), .pointer (some ⟨bq, 0, none⟩)] w fun e w' => e = .returned (.bool (sameAt p q known h)) ∧ Below w.heap.size w w' := by
 have p0 := hP.cell 0
 have p1 := hP.cell 1
 have p2 := hP.cell 2
 have p3 := hP.cell 3
 have p4 := hP.cell 4
 have p5 := hP.cell 5
 have k0 := hK.cell 0
 have T1 := Lib.hid (stood_any p A1 A2 A3 n1 c1 n2 c2 n3 c3 h known w hp h19)
 have T2 := Lib.hid (fun W (g : Below w.heap.size w W) => stood_any q B1 B2 B3 m1 d1 m2 d2 m3 d3 h known W (hq.below g) h19')
 have HS := Lib.hid (show sameAt p q known h = (decide (stoodR p h known = stoodR q h known) && decide (askE p [h] known = askE q [h] known)) from rfl)
 obtain ⟨rb, hrb⟩ : ∃ rb, sameAt p q known h = rb := ⟨_, rfl⟩
 obtain ⟨x, hx⟩ : ∃ x, stoodR p h known = x := ⟨_, rfl⟩
 obtain ⟨y, hy⟩ : ∃ y, stoodR q h known = y := ⟨_, rfl⟩
 obtain ⟨e1, he1⟩ : ∃ e1, askE p [h] known = e1 := ⟨_, rfl⟩
 obtain ⟨e2, he2⟩ : ∃ e2, askE q [h] known = e2 := ⟨_, rfl⟩
 rw [hrb, hx, hy, he1, he2] at HS
 rw [hrb]
 rw [hx, he1] at T1
 rw [hy, he2] at T2
 have HP := Lib.hid hP
 have HK := Lib.hid hK
 have HQ := Lib.hid hQ
 clear hrb hx hy he1 he2 hP hK hQ hp hq
 have heq := fun w => eqlRg x y w
 have hee : (e1 == e2) = decide (e1 = e2) := rfl
 obtain ⟨b1, hb1⟩ : ∃ b1, decide (x = y) = b1 := ⟨_, rfl⟩
 obtain ⟨b2, hb2⟩ : ∃ b2, decide (e1 = e2) = b2 := ⟨_, rfl⟩
 rw [hb1] at heq HS
 rw [hb2] at hee HS
 clear hb1 hb2
 cases b1 <;> cases b2
 all_goals
  go_enter Tryz.func116, Tryz.ntmps116
  go_upto_region 2 with (go_at_call 35; (with_reducible refine (T1.out).mono ?_); rintro e W3 ⟨rfl, hg⟩; have G3 := Lib.hid hg; clear hg)
  obtain ⟨W4, hW4⟩ : ∃ W4, W3.alloc (.cells #[.int .i64 x.lo, .int .i64 x.hi] 33) = W4 := ⟨_, rfl⟩
  have g4 : Below W3.heap.size W3 W4 := by rw [← hW4]; exact one_more _ _
  have b4 : Blk W4 W3.heap.size 33 #[.int .i64 x.lo, .int .i64 x.hi] := by rw [← hW4]; exact Blk.new _ _ _
  have G4 := Lib.hid (G3.out.trans (g4.mono G3.out.size))
  have HB4 := Lib.hid b4
  have q0 := (HQ.out.ext G4.out).cell 0
  have q1 := (HQ.out.ext G4.out).cell 1
  have q2 := (HQ.out.ext G4.out).cell 2
  have q3 := (HQ.out.ext G4.out).cell 3
  have q4 := (HQ.out.ext G4.out).cell 4
  have q5 := (HQ.out.ext G4.out).cell 5
  have j0 := (HK.out.ext G4.out).cell 0
  obtain ⟨bx, hbx⟩ : ∃ bx, W3.heap.size = bx := ⟨_, rfl⟩
  rw [hbx] at HB4 ⊢
  have HW4 := Lib.hid hW4
  clear g4 b4 hW4 hbx p0 p1 p2 p3 p4 p5 k0
  (try rw [HW4.out])
  go_upto_region 3 with (go_at_call 35; (with_reducible refine (T2.out _ G4.out).mono ?_); rintro e W5 ⟨rfl, hg⟩; have G5 := Lib.hid (G4.out.trans (hg.mono G4.out.size)); have HB5 := Lib.hid (HB4.out.ext hg); clear hg)
  have r0 := (HB5.out.alloc (.cells #[.int .i64 y.lo, .int .i64 y.hi] 33)).cell 0
  have r1 := (HB5.out.alloc (.cells #[.int .i64 y.lo, .int .i64 y.hi] 33)).cell 1
  clear q0 q1 q2 q3 q4 q5 j0
  go_wp2_with fail
  go_ret
  exact ⟨by rw [HS.out]; rfl, G5.out.trans ((one_more W5 _).mono G5.out.size)⟩
end Go.Proofs.YtkoejeghihcmlaaGreat
namespace Go.Proofs.YtkoejeghihcmlaaGreat
open Go.RowKit Go.Shelf
set_option maxRecDepth 100000 in
theorem delLoad_nil (g0 : FuncId) (cl : Array Value) (q : Six → Bool) (w : World) (eg : ∀ args W, (callFunc g0 args).run Tryz.prog W = .ok (.enter g0 args) W) (hq : ∀ x W, Below w.heap.size w W → Calls Tryz.prog g0 (#[sv x] ++ cl) W fun e W' => e = .returned (.bool (q x)) ∧ Below W.heap.size W W') :
  Calls Tryz.prog 187 #[.slice none 0 0, .func (.func g0) #[] cl] w fun e w' => e = .returned (.slice none 0 0) ∧ Below w.heap.size w w' := by
 have T := Lib.hid (idxLoad_any g0 cl q none 0 0 [] w Arr.nil_ (by decide) eg hq)
 clear hq
 go_enter Tryz.func187, Tryz.ntmps187
 go_upto_region 2 with (go_at_call 127; (with_reducible refine T.out.mono ?_); rintro e W1 ⟨⟨ix, rfl, hix⟩, hg⟩; have G1 := Lib.hid hg; have HIX := Lib.hid hix; clear hg hix)
 rcases HIX.out with ⟨k0, rfl, hk0, hq0, hno0⟩ | ⟨rfl, hno0⟩
 ·omega
 ·clear hno0
  go_wp2_with fail
  go_ret
  exact ⟨rfl, G1.out⟩
/-- Whatever the slice. -/
theorem delLoadV_any (g0 : FuncId) (cl : Array Value) (q : Six → Bool) (base : Nat) (v : Value) (xs : List Six) (w : World) (h : OwnL scells 6 103 w base v xs) (hn : xs.length ≤ 1000000)
  (eg : ∀ args W, (callFunc g0 args).run Tryz.prog W = .ok (.enter g0 args) W) (hq : ∀ x W, w.grownBy W v.ownBlock → Calls Tryz.prog g0 (#[sv x] ++ cl) W fun e W' => e = .returned (.bool (q x)) ∧ Below W.heap.size W W') :
  Calls Tryz.prog 187 #[v, .func (.func g0) #[] cl] w fun e w' => ∃ v', e = .returned v' ∧ OwnL scells 6 103 w' base v' (xs.filter fun x => !q x) ∧ w.grownBy w' v.ownBlock ∧ v'.ownBlock = v.ownBlock := by
 obtain ⟨A, c, hv, hnc, -, -, hgb⟩ := OwnL.arr kdL h
 cases A with
 | none =>
  have h2 : v = .slice none 0 0 ∧ xs = [] := by
   obtain ⟨h1, ⟨e0, h3⟩ | ⟨g, cap, cur, e0, -⟩⟩ := h
   ·exact ⟨e0, List.eq_nil_of_length_eq_zero h3⟩
   ·rw [e0] at hv; cases hv
  obtain ⟨rfl, rfl⟩ := h2
  refine (delLoad_nil g0 cl q w eg (fun x W g => hq x W ⟨g.os, g.tape, g.output, g.size, fun k hk _ => g.block k hk⟩)).mono ?_
  rintro e w' ⟨rfl, hg⟩
  exact ⟨_, rfl, OwnL.nil _ _, ⟨hg.os, hg.tape, hg.output, hg.size, fun k hk _ => hg.block k hk⟩, rfl⟩
 | some a =>
  obtain ⟨g, o, sp⟩ := a
  have h2 : v = .slice (some ⟨g, 0, none⟩) xs.length c := by
   obtain ⟨h1, ⟨e0, h3⟩ | ⟨g', cap, cur, e0, -⟩⟩ := h
   ·rw [e0] at hv; cases hv
   ·rw [e0] at hv; cases hv; exact e0
  subst h2
  refine (delLoad_any g0 cl q base g xs.length c xs w h hn eg (fun x W gg => hq x W (fix_grown gg))).mono ?_
  rintro e w' ⟨m, rfl, ho, hf⟩
  exact ⟨_, rfl, ho, fix_grown hf, rfl⟩
theorem isSrc188_any (b : Nat) (s : Int) (x : Six) (w : World) (hb : w.cell? ⟨b, 0, none⟩ = some (.int .i64 s)) :
  Calls Tryz.prog 188 #[sv x, .pointer (some ⟨b, 0, none⟩)] w fun e w' => e = .returned (.bool (isSrc s x)) ∧ Below w.heap.size w w' := by
 have HI := Lib.hid (show isSrc s x = decide (x.a = s) from rfl)
 obtain ⟨r, hr⟩ : ∃ r, isSrc s x = r := ⟨_, rfl⟩
 rw [hr] at HI ⊢
 clear hr
 have hb2 := keepAlloc hb (.cells #[.int .i64 x.a, .int .i64 x.b, .int .i64 x.c, .int .i64 x.d, .int .i64 x.e, .int .i64 x.f] 103)
 go_enter Tryz.func188, Tryz.ntmps188
 go_wp2_with fail
 go_ret
 exact ⟨by rw [HI.out]; rfl, one_more _ _⟩
set_option maxRecDepth 100000 in
theorem delStand_nil (g0 : FuncId) (cl : Array Value) (q : Six → Bool) (w : World) (eg : ∀ args W, (callFunc g0 args).run Tryz.prog W = .ok (.enter g0 args) W) (hq : ∀ x W, Below w.heap.size w W → Calls Tryz.prog g0 (#[sv x] ++ cl) W fun e W' => e = .returned (.bool (q x)) ∧ Below W.heap.size W W') :
  Calls Tryz.prog 189 #[.slice none 0 0, .func (.func g0) #[] cl] w fun e w' => e = .returned (.slice none 0 0) ∧ Below w.heap.size w w' := by
 have T := Lib.hid (idxStand_any g0 cl q none 0 0 [] w Arr.nil_ (by decide) eg hq)
 clear hq
 go_enter Tryz.func189, Tryz.ntmps189
 go_upto_region 2 with (go_at_call 226; (with_reducible refine T.out.mono ?_); rintro e W1 ⟨⟨ix, rfl, hix⟩, hg⟩; have G1 := Lib.hid hg; have HIX := Lib.hid hix; clear hg hix)
 rcases HIX.out with ⟨k0, rfl, hk0, hq0, hno0⟩ | ⟨rfl, hno0⟩
 ·omega
 ·clear hno0
  go_wp2_with fail
  go_ret
  exact ⟨rfl, G1.out⟩
/-- Whatever the slice. -/
theorem delStandV_any (g0 : FuncId) (cl : Array Value) (q : Six → Bool) (base : Nat) (v : Value) (xs : List Six) (w : World) (h : OwnL scells 6 105 w base v xs) (hn : xs.length ≤ 1000000)
  (eg : ∀ args W, (callFunc g0 args).run Tryz.prog W = .ok (.enter g0 args) W) (hq : ∀ x W, w.grownBy W v.ownBlock → Calls Tryz.prog g0 (#[sv x] ++ cl) W fun e W' => e = .returned (.bool (q x)) ∧ Below W.heap.size W W') :
  Calls Tryz.prog 189 #[v, .func (.func g0) #[] cl] w fun e w' => ∃ v', e = .returned v' ∧ OwnL scells 6 105 w' base v' (xs.filter fun x => !q x) ∧ w.grownBy w' v.ownBlock ∧ v'.ownBlock = v.ownBlock := by
 obtain ⟨A, c, hv, hnc, -, -, hgb⟩ := OwnL.arr kdS h
 cases A with
 | none =>
  have h2 : v = .slice none 0 0 ∧ xs = [] := by
   obtain ⟨h1, ⟨e0, h3⟩ | ⟨g, cap, cur, e0, -⟩⟩ := h
   ·exact ⟨e0, List.eq_nil_of_length_eq_zero h3⟩
   ·rw [e0] at hv; cases hv
  obtain ⟨rfl, rfl⟩ := h2
  refine (delStand_nil g0 cl q w eg (fun x W g => hq x W ⟨g.os, g.tape, g.output, g.size, fun k hk _ => g.block k hk⟩)).mono ?_
  rintro e w' ⟨rfl, hg⟩
  exact ⟨_, rfl, OwnL.nil _ _, ⟨hg.os, hg.tape, hg.output, hg.size, fun k hk _ => hg.block k hk⟩, rfl⟩
 | some a =>
  obtain ⟨g, o, sp⟩ := a
  have h2 : v = .slice (some ⟨g, 0, none⟩) xs.length c := by
   obtain ⟨h1, ⟨e0, h3⟩ | ⟨g', cap, cur, e0, -⟩⟩ := h
   ·rw [e0] at hv; cases hv
   ·rw [e0] at hv; cases hv; exact e0
  subst h2
  refine (delStand_any g0 cl q base g xs.length c xs w h hn eg (fun x W gg => hq x W (fix_grown gg))).mono ?_
  rintro e w' ⟨m, rfl, ho, hf⟩
  exact ⟨_, rfl, ho, fix_grown hf, rfl⟩
theorem isSrc190_any (b : Nat) (s : Int) (x : Six) (w : World) (hb : w.cell? ⟨b, 0, none⟩ = some (.int .i64 s)) :
  Calls Tryz.prog 190 #[sv x, .pointer (some ⟨b, 0, none⟩)] w fun e w' => e = .returned (.bool (isSrc s x)) ∧ Below w.heap.size w w' := by
 have HI := Lib.hid (show isSrc s x = decide (x.a = s) from rfl)
 obtain ⟨r, hr⟩ : ∃ r, isSrc s x = r := ⟨_, rfl⟩
 rw [hr] at HI ⊢
 clear hr
 have hb2 := keepAlloc hb (.cells #[.int .i64 x.a, .int .i64 x.b, .int .i64 x.c, .int .i64 x.d, .int .i64 x.e, .int .i64 x.f] 105)
 go_enter Tryz.func190, Tryz.ntmps190
 go_wp2_with fail
 go_ret
 exact ⟨by rw [HI.out]; rfl, one_more _ _⟩
set_option maxRecDepth 100000 in
theorem delSpell_nil (g0 : FuncId) (cl : Array Value) (q : Six → Bool) (w : World) (eg : ∀ args W, (callFunc g0 args).run Tryz.prog W = .ok (.enter g0 args) W) (hq : ∀ x W, Below w.heap.size w W → Calls Tryz.prog g0 (#[sv x] ++ cl) W fun e W' => e = .returned (.bool (q x)) ∧ Below W.heap.size W W') :
  Calls Tryz.prog 191 #[.slice none 0 0, .func (.func g0) #[] cl] w fun e w' => e = .returned (.slice none 0 0) ∧ Below w.heap.size w w' := by
 have T := Lib.hid (idxSpell_any g0 cl q none 0 0 [] w Arr.nil_ (by decide) eg hq)
 clear hq
 go_enter Tryz.func191, Tryz.ntmps191
 go_upto_region 2 with (go_at_call 204; (with_reducible refine T.out.mono ?_); rintro e W1 ⟨⟨ix, rfl, hix⟩, hg⟩; have G1 := Lib.hid hg; have HIX := Lib.hid hix; clear hg hix)
 rcases HIX.out with ⟨k0, rfl, hk0, hq0, hno0⟩ | ⟨rfl, hno0⟩
 ·omega
 ·clear hno0
  go_wp2_with fail
  go_ret
  exact ⟨rfl, G1.out⟩
/-- Whatever the slice. -/
theorem delSpellV_any (g0 : FuncId) (cl : Array Value) (q : Six → Bool) (base : Nat) (v : Value) (xs : List Six) (w : World) (h : OwnL scells 6 107 w base v xs) (hn : xs.length ≤ 1000000)
  (eg : ∀ args W, (callFunc g0 args).run Tryz.prog W = .ok (.enter g0 args) W) (hq : ∀ x W, w.grownBy W v.ownBlock → Calls Tryz.prog g0 (#[sv x] ++ cl) W fun e W' => e = .returned (.bool (q x)) ∧ Below W.heap.size W W') :
  Calls Tryz.prog 191 #[v, .func (.func g0) #[] cl] w fun e w' => ∃ v', e = .returned v' ∧ OwnL scells 6 107 w' base v' (xs.filter fun x => !q x) ∧ w.grownBy w' v.ownBlock ∧ v'.ownBlock = v.ownBlock := by
 obtain ⟨A, c, hv, hnc, -, -, hgb⟩ := OwnL.arr kdP h
 cases A with
 | none =>
  have h2 : v = .slice none 0 0 ∧ xs = [] := by
   obtain ⟨h1, ⟨e0, h3⟩ | ⟨g, cap, cur, e0, -⟩⟩ := h
   ·exact ⟨e0, List.eq_nil_of_length_eq_zero h3⟩
   ·rw [e0] at hv; cases hv
  obtain ⟨rfl, rfl⟩ := h2
  refine (delSpell_nil g0 cl q w eg (fun x W g => hq x W ⟨g.os, g.tape, g.output, g.size, fun k hk _ => g.block k hk⟩)).mono ?_
  rintro e w' ⟨rfl, hg⟩
  exact ⟨_, rfl, OwnL.nil _ _, ⟨hg.os, hg.tape, hg.output, hg.size, fun k hk _ => hg.block k hk⟩, rfl⟩
 | some a =>
  obtain ⟨g, o, sp⟩ := a
  have h2 : v = .slice (some ⟨g, 0, none⟩) xs.length c := by
   obtain ⟨h1, ⟨e0, h3⟩ | ⟨g', cap, cur, e0, -⟩⟩ := h
   ·rw [e0] at hv; cases hv
   ·rw [e0] at hv; cases hv; exact e0
  subst h2
  refine (delSpell_any g0 cl q base g xs.length c xs w h hn eg (fun x W gg => hq x W (fix_grown gg))).mono ?_
  rintro e w' ⟨m, rfl, ho, hf⟩
  exact ⟨_, rfl, ho, fix_grown hf, rfl⟩
theorem isSrc192_any (b : Nat) (s : Int) (x : Six) (w : World) (hb : w.cell? ⟨b, 0, none⟩ = some (.int .i64 s)) :
  Calls Tryz.prog 192 #[sv x, .pointer (some ⟨b, 0, none⟩)] w fun e w' => e = .returned (.bool (isSrc s x)) ∧ Below w.heap.size w w' := by
 have HI := Lib.hid (show isSrc s x = decide (x.a = s) from rfl)
 obtain ⟨r, hr⟩ : ∃ r, isSrc s x = r := ⟨_, rfl⟩
 rw [hr] at HI ⊢
 clear hr
 have hb2 := keepAlloc hb (.cells #[.int .i64 x.a, .int .i64 x.b, .int .i64 x.c, .int .i64 x.d, .int .i64 x.e, .int .i64 x.f] 107)
 go_enter Tryz.func192, Tryz.ntmps192
 go_wp2_with fail
 go_ret
 exact ⟨by rw [HI.out]; rfl, one_more _ _⟩
end Go.Proofs.YtkoejeghihcmlaaGreat
namespace Go.Proofs.YtkoejeghihcmlaaGreat
open Go.RowKit Go.Shelf
/-- A plot without what has a source. -/
def withoutP (p : Pl) (s : Int) : Pl := { p with loads := p.loads.filter (fun x => !isSrc s x), stands := p.stands.filter (fun x => !isSrc s x), spells := p.spells.filter (fun x => !isSrc s x) }
theorem OwnL.grown {α : Type} {f : α → List Value} {size : Nat} {e : TypeId} {w w' : World} {base : Nat} {v : Value} {xs : List α} {row : Option Nat} (h : OwnL f size e w base v xs) (hg : w.grownBy w' row) (hne : ∀ k, v.ownBlock = some k → row ≠ some k) : OwnL f size e w' base v xs := by
 refine World.ownsRow.kept h hg ?_
 cases hq : v.ownBlock with
 | none => exact .inl rfl
 | some k => exact .inr (fun e => hne k hq e.symm)
set_option maxRecDepth 100000 in
set_option maxHeartbeats 4000000 in
theorem without_any (p : Pl) (A1 A2 A3 : Option Addr) (n1 c1 n2 c2 n3 c3 : Nat) (source : Int) (w : World) (hp : Pa w p A1 A2 A3 n1 c1 n2 c2 n3 c3) (hn : n1 ≤ 1000 ∧ n2 ≤ 1000 ∧ n3 ≤ 1000) :
  Calls Tryz.prog 114 #[plv p A1 A2 A3 n1 c1 n2 c2 n3 c3, .int .i64 source] w fun e w' => (∃ v1 v2 v3, e = .returned (.agg (plw p v1 v2 v3)) ∧ Cp w' w.heap.size (withoutP p source) v1 v2 v3) ∧ Below w.heap.size w w' := by
 obtain ⟨W1, hW1⟩ : ∃ W1, ((w.alloc (.cells (plb p A1 A2 A3 n1 c1 n2 c2 n3 c3) 38)).alloc (.cells #[.int .i64 source] 3)).alloc (.cells #[.int .i64 0, .int .i64 0, .slice none 0 0, .slice none 0 0, .slice none 0 0, .int .i64 0] 38) = W1 := ⟨_, rfl⟩
 have g1 : Below w.heap.size w W1 := by rw [← hW1]; exact three_more _ _ _ _
 have b1 : Blk W1 w.heap.size 38 (plb p A1 A2 A3 n1 c1 n2 c2 n3 c3) := by rw [← hW1]; exact ((Blk.new _ _ _).alloc _).alloc _
 have b2 : Blk W1 (w.heap.size + 1) 3 #[.int .i64 source] := by rw [← hW1]; exact blk3_2 _ _ _ _ _
 have b3 : Blk W1 (w.heap.size + 1 + 1) 38 #[.int .i64 0, .int .i64 0, .slice none 0 0, .slice none 0 0, .slice none 0 0, .int .i64 0] := by rw [← hW1]; exact blk3_3 _ _ _ _ _
 have hz1 := b3.lt
 have p0 := b1.cell 0
 have p1 := b1.cell 1
 have p2 := b1.cell 2
 have p3 := b1.cell 3
 have p4 := b1.cell 4
 have p5 := b1.cell 5
 have T := Lib.hid (copied_any p A1 A2 A3 n1 c1 n2 c2 n3 c3 W1 (hp.below g1) hn)
 have HLL := Lib.hid (show p.loads.length ≤ 1000 ∧ p.stands.length ≤ 1000 ∧ p.spells.length ≤ 1000 by rw [hp.l1.1, hp.l2.1, hp.l3.1]; exact hn)
 have G1 := Lib.hid g1
 have HB2 := Lib.hid b2
 have HB3 := Lib.hid b3
 have HW1 := Lib.hid hW1
 clear hp g1 b1 b2 b3 hW1 hn
 obtain ⟨bx, hbx⟩ : ∃ bx, w.heap.size = bx := ⟨_, rfl⟩
 have HBX := Lib.hid hbx
 go_enter Tryz.func114, Tryz.ntmps114
 go_upto_region 1 with fail
 rw [HW1.out]
 rw [hbx] at G1 HB2 HB3 hz1 p0 p1 p2 p3 p4 p5
 clear hbx
 go_upto_region 2 with (go_at_call 132; (with_reducible refine (T.out).mono ?_); rintro e W2 ⟨⟨v1, v2, v3, rfl, hcp⟩, hg⟩; obtain ⟨Q1, e1, hv1, -⟩ := OwnL.arr kdL hcp.l1; obtain ⟨Q2, e2, hv2, -⟩ := OwnL.arr kdS hcp.l2; obtain ⟨Q3, e3, hv3, -⟩ := OwnL.arr kdP hcp.l3; subst hv1 hv2 hv3; have HCP := Lib.hid hcp; have G2 := Lib.hid hg; clear hcp hg)
 have HQ2 := Lib.hid (HB2.out.ext G2.out)
 have HQ3 := Lib.hid (HB3.out.ext G2.out)
 have hz2 := HQ3.out.lt
 obtain ⟨m1, hm1⟩ : ∃ m1, p.loads.length = m1 := ⟨_, rfl⟩
 obtain ⟨m2, hm2⟩ : ∃ m2, p.stands.length = m2 := ⟨_, rfl⟩
 obtain ⟨m3, hm3⟩ : ∃ m3, p.spells.length = m3 := ⟨_, rfl⟩
 rw [hm1, hm2, hm3] at HCP ⊢
 have hc := HCP.out
 -- the copy's box
 obtain ⟨W3, hW3⟩ : ∃ W3, W2.alloc (.cells (plw p (.slice Q1 m1 e1) (.slice Q2 m2 e2) (.slice Q3 m3 e3)) 38) = W3 := ⟨_, rfl⟩
 have g3 : Below W2.heap.size W2 W3 := by rw [← hW3]; exact one_more _ _
 have b5 : Blk W3 W2.heap.size 38 (plw p (.slice Q1 m1 e1) (.slice Q2 m2 e2) (.slice Q3 m3 e3)) := by rw [← hW3]; exact Blk.new _ _ _
 obtain ⟨b5n, hb5n⟩ : ∃ b, W2.heap.size = b := ⟨_, rfl⟩
 have hlt1 := fun k e => World.ownsRow.lt hc.l1 k e
 have hlt2 := fun k e => World.ownsRow.lt hc.l2 k e
 have hlt3 := fun k e => World.ownsRow.lt hc.l3 k e
 have hge1 := fun k (e : _ = some k) => (own_cells hc.l1 e).1
 have hge2 := fun k (e : _ = some k) => (own_cells hc.l2 e).1
 have hge3 := fun k (e : _ = some k) => (own_cells hc.l3 e).1
 have LT1 := Lib.hid (fun k e => (show W1.heap.size ≤ k ∧ k < b5n from ⟨hge1 k e, by have := hlt1 k e; omega⟩))
 have LT2 := Lib.hid (fun k e => (show W1.heap.size ≤ k ∧ k < b5n from ⟨hge2 k e, by have := hlt2 k e; omega⟩))
 have LT3 := Lib.hid (fun k e => (show W1.heap.size ≤ k ∧ k < b5n from ⟨hge3 k e, by have := hlt3 k e; omega⟩))
 clear hlt1 hlt2 hlt3 hge1 hge2 hge3
 have O1 := Lib.hid (hc.l1.ext g3)
 have O2 := Lib.hid (hc.l2.ext g3)
 have O3 := Lib.hid (hc.l3.ext g3)
 have D12 := Lib.hid hc.d12
 have D13 := Lib.hid hc.d13
 have D23 := Lib.hid hc.d23
 have HR2 := Lib.hid (HQ2.out.ext g3)
 have HR3 := Lib.hid (HQ3.out.ext g3)
 have G3 := Lib.hid (show Below bx w W3 from G1.out.trans ((G2.out.trans (g3.mono G2.out.size)).mono (by omega)))
 rw [hb5n] at b5
 have HB5 := Lib.hid b5
 have hz3 := b5.lt
 have hbb : W1.heap.size ≤ b5n := by have := G2.out.size; omega
 have HW3 := Lib.hid hW3
 clear hc b5 g3 hW3 p0 p1 p2 p3 p4 p5
 have k1 := HB5.out.cell 2
 have hf1 := HB5.out.frozen 2
 rw [hb5n]
 (try rw [HW3.out])
 clear hb5n
 have T1 := Lib.hid (delLoadV_any 188 #[.pointer (some ⟨bx + 1, 0, none⟩)] (isSrc source) W1.heap.size (.slice Q1 m1 e1) p.loads W3 O1.out (Nat.le_trans HLL.out.1 (by decide)) (enters_of Tryz.func188 (by kernel_rfl) rfl)
  (fun x W g => isSrc188_any (bx + 1) source x W ((HR2.out.grown g (fun e => by have := (LT1.out _ e).1; omega)).cell 0)))
 go_wp2_with fail
 refine T1.out.mono ?_
 rintro e V1 ⟨u1, rfl, hou, hgr, hob⟩
 obtain ⟨R1, f1, hu1, -⟩ := OwnL.arr kdL hou
 obtain ⟨r1, hr1⟩ : ∃ r, (p.loads.filter fun x => !isSrc source x).length = r := ⟨_, rfl⟩
 rw [hr1] at hu1
 subst hu1
 have O1 := Lib.hid hou
 have E1 := Lib.hid hob
 have HR2 := Lib.hid (HR2.out.grown hgr (fun e => by have := (LT1.out _ e).1; omega))
 have HR3 := Lib.hid (HR3.out.grown hgr (fun e => by have := (LT1.out _ e).1; omega))
 have HB5 := Lib.hid (HB5.out.grown hgr (fun e => by have := (LT1.out _ e).2; omega))
 have O2 := Lib.hid (O2.out.grown hgr (fun k e e2 => D12.out k e2 e))
 have O3 := Lib.hid (O3.out.grown hgr (fun k e e2 => D13.out k e2 e))
 have G3 := Lib.hid (G3.out.grown hgr (by have := G3.out.size; omega) (fun k e => by have := (LT1.out k e).1; omega))
 have LT1 := Lib.hid (fun k (e : (Value.slice R1 r1 f1).ownBlock = some k) => LT1.out k (by rw [← hob]; exact e))
 have k1 := HB5.out.cell 2
 have hf1 := HB5.out.frozen 2
 have hzz1 := hgr.size
 clear hou hgr hob hr1
 go_upto_region 3 with fail
 obtain ⟨X1, hX1⟩ : ∃ X, V1.setCell ⟨b5n, 2, none⟩ (.slice R1 r1 f1) = X := ⟨_, rfl⟩
 have hblk : Blk X1 b5n 38 (plw p (.slice R1 r1 f1) (.slice Q2 m2 e2) (.slice Q3 m3 e3)) := by rw [← hX1]; exact HB5.out.set_ 2 _
 have hne5 : ∀ k, k < b5n → k ≠ (⟨b5n, 2, none⟩ : Addr).block := fun k hk => by show k ≠ b5n; omega
 have HR2 := Lib.hid (show Blk X1 (bx + 1) 3 #[.int .i64 source] by rw [← hX1]; exact HR2.out.far (hne5 _ (by omega)) _)
 have HR3 := Lib.hid (show Blk X1 (bx + 1 + 1) 38 #[.int .i64 0, .int .i64 0, .slice none 0 0, .slice none 0 0, .slice none 0 0, .int .i64 0] by rw [← hX1]; exact HR3.out.far (hne5 _ (by omega)) _)
 have O1 := Lib.hid (show OwnL scells 6 103 X1 W1.heap.size (.slice R1 r1 f1) _ by rw [← hX1]; exact O1.out.apart (p := ⟨b5n, 2, none⟩) (fun e => Nat.lt_irrefl _ (LT1.out _ e).2) _)
 have O2 := Lib.hid (show OwnL scells 6 105 X1 W1.heap.size (.slice Q2 m2 e2) _ by rw [← hX1]; exact O2.out.apart (p := ⟨b5n, 2, none⟩) (fun e => Nat.lt_irrefl _ (LT2.out _ e).2) _)
 have O3 := Lib.hid (show OwnL scells 6 107 X1 W1.heap.size (.slice Q3 m3 e3) _ by rw [← hX1]; exact O3.out.apart (p := ⟨b5n, 2, none⟩) (fun e => Nat.lt_irrefl _ (LT3.out _ e).2) _)
 have G3 := Lib.hid (show Below bx w X1 by rw [← hX1]; exact G3.out.setCell (p := ⟨b5n, 2, none⟩) (by show bx ≤ b5n; omega) _)
 have hzx1 : V1.heap.size = X1.heap.size := by rw [← hX1]; simp
 rw [hX1]
 clear hX1 k1 hf1 hne5
 have HB5 := Lib.hid hblk
 have k2 := hblk.cell 3
 have hf2 := hblk.frozen 3
 clear hblk
 have D12 := Lib.hid (fun k (e : (Value.slice R1 r1 f1).ownBlock = some k) => D12.out k (by rw [← E1.out]; exact e))
 have D13 := Lib.hid (fun k (e : (Value.slice R1 r1 f1).ownBlock = some k) => D13.out k (by rw [← E1.out]; exact e))
 have T2 := Lib.hid (delStandV_any 190 #[.pointer (some ⟨bx + 1, 0, none⟩)] (isSrc source) W1.heap.size (.slice Q2 m2 e2) p.stands X1 O2.out (Nat.le_trans HLL.out.2.1 (by decide)) (enters_of Tryz.func190 (by kernel_rfl) rfl)
  (fun x W g => isSrc190_any (bx + 1) source x W ((HR2.out.grown g (fun e => by have := (LT2.out _ e).1; omega)).cell 0)))
 go_wp2_with fail
 refine T2.out.mono ?_
 rintro e V2 ⟨u2, rfl, hou, hgr, hob⟩
 obtain ⟨R2, f2, hu2, -⟩ := OwnL.arr kdS hou
 obtain ⟨r2, hr2⟩ : ∃ r, (p.stands.filter fun x => !isSrc source x).length = r := ⟨_, rfl⟩
 rw [hr2] at hu2
 subst hu2
 have O2 := Lib.hid hou
 have E2 := Lib.hid hob
 have HR2 := Lib.hid (HR2.out.grown hgr (fun e => by have := (LT2.out _ e).1; omega))
 have HR3 := Lib.hid (HR3.out.grown hgr (fun e => by have := (LT2.out _ e).1; omega))
 have HB5 := Lib.hid (HB5.out.grown hgr (fun e => by have := (LT2.out _ e).2; omega))
 have O1 := Lib.hid (O1.out.grown hgr (fun k e e2 => D12.out k e e2))
 have O3 := Lib.hid (O3.out.grown hgr (fun k e e2 => D23.out k e2 e))
 have G3 := Lib.hid (G3.out.grown hgr (by have := G3.out.size; omega) (fun k e => by have := (LT2.out k e).1; omega))
 have LT2 := Lib.hid (fun k (e : (Value.slice R2 r2 f2).ownBlock = some k) => LT2.out k (by rw [← hob]; exact e))
 have k2 := HB5.out.cell 3
 have hf2 := HB5.out.frozen 3
 have hzz2 := hgr.size
 clear hou hgr hob hr2
 go_upto_region 4 with fail
 obtain ⟨X2, hX2⟩ : ∃ X, V2.setCell ⟨b5n, 3, none⟩ (.slice R2 r2 f2) = X := ⟨_, rfl⟩
 have hblk : Blk X2 b5n 38 (plw p (.slice R1 r1 f1) (.slice R2 r2 f2) (.slice Q3 m3 e3)) := by rw [← hX2]; exact HB5.out.set_ 3 _
 have hne5 : ∀ k, k < b5n → k ≠ (⟨b5n, 3, none⟩ : Addr).block := fun k hk => by show k ≠ b5n; omega
 have HR2 := Lib.hid (show Blk X2 (bx + 1) 3 #[.int .i64 source] by rw [← hX2]; exact HR2.out.far (hne5 _ (by omega)) _)
 have HR3 := Lib.hid (show Blk X2 (bx + 1 + 1) 38 #[.int .i64 0, .int .i64 0, .slice none 0 0, .slice none 0 0, .slice none 0 0, .int .i64 0] by rw [← hX2]; exact HR3.out.far (hne5 _ (by omega)) _)
 have O1 := Lib.hid (show OwnL scells 6 103 X2 W1.heap.size (.slice R1 r1 f1) _ by rw [← hX2]; exact O1.out.apart (p := ⟨b5n, 3, none⟩) (fun e => Nat.lt_irrefl _ (LT1.out _ e).2) _)
 have O2 := Lib.hid (show OwnL scells 6 105 X2 W1.heap.size (.slice R2 r2 f2) _ by rw [← hX2]; exact O2.out.apart (p := ⟨b5n, 3, none⟩) (fun e => Nat.lt_irrefl _ (LT2.out _ e).2) _)
 have O3 := Lib.hid (show OwnL scells 6 107 X2 W1.heap.size (.slice Q3 m3 e3) _ by rw [← hX2]; exact O3.out.apart (p := ⟨b5n, 3, none⟩) (fun e => Nat.lt_irrefl _ (LT3.out _ e).2) _)
 have G3 := Lib.hid (show Below bx w X2 by rw [← hX2]; exact G3.out.setCell (p := ⟨b5n, 3, none⟩) (by show bx ≤ b5n; omega) _)
 have hzx2 : V2.heap.size = X2.heap.size := by rw [← hX2]; simp
 rw [hX2]
 clear hX2 k2 hf2 hne5
 have HB5 := Lib.hid hblk
 have k3 := hblk.cell 4
 have hf3 := hblk.frozen 4
 clear hblk
 have D12 := Lib.hid (fun k e (e2 : (Value.slice R2 r2 f2).ownBlock = some k) => D12.out k e (by rw [← E2.out]; exact e2))
 have D23 := Lib.hid (fun k (e : (Value.slice R2 r2 f2).ownBlock = some k) => D23.out k (by rw [← E2.out]; exact e))
 have T3 := Lib.hid (delSpellV_any 192 #[.pointer (some ⟨bx + 1, 0, none⟩)] (isSrc source) W1.heap.size (.slice Q3 m3 e3) p.spells X2 O3.out (Nat.le_trans HLL.out.2.2 (by decide)) (enters_of Tryz.func192 (by kernel_rfl) rfl)
  (fun x W g => isSrc192_any (bx + 1) source x W ((HR2.out.grown g (fun e => by have := (LT3.out _ e).1; omega)).cell 0)))
 go_wp2_with fail
 refine T3.out.mono ?_
 rintro e V3 ⟨u3, rfl, hou, hgr, hob⟩
 obtain ⟨R3, f3, hu3, -⟩ := OwnL.arr kdP hou
 obtain ⟨r3, hr3⟩ : ∃ r, (p.spells.filter fun x => !isSrc source x).length = r := ⟨_, rfl⟩
 rw [hr3] at hu3
 subst hu3
 have O3 := Lib.hid hou
 have E3 := Lib.hid hob
 have HR2 := Lib.hid (HR2.out.grown hgr (fun e => by have := (LT3.out _ e).1; omega))
 have HR3 := Lib.hid (HR3.out.grown hgr (fun e => by have := (LT3.out _ e).1; omega))
 have HB5 := Lib.hid (HB5.out.grown hgr (fun e => by have := (LT3.out _ e).2; omega))
 have O1 := Lib.hid (O1.out.grown hgr (fun k e e2 => D13.out k e e2))
 have O2 := Lib.hid (O2.out.grown hgr (fun k e e2 => D23.out k e e2))
 have G3 := Lib.hid (G3.out.grown hgr (by have := G3.out.size; omega) (fun k e => by have := (LT3.out k e).1; omega))
 have LT3 := Lib.hid (fun k (e : (Value.slice R3 r3 f3).ownBlock = some k) => LT3.out k (by rw [← hob]; exact e))
 have k3 := HB5.out.cell 4
 have hf3 := HB5.out.frozen 4
 have hzz3 := hgr.size
 clear hou hgr hob hr3
 go_upto_region 5 with fail
 obtain ⟨X3, hX3⟩ : ∃ X, V3.setCell ⟨b5n, 4, none⟩ (.slice R3 r3 f3) = X := ⟨_, rfl⟩
 have hblk : Blk X3 b5n 38 (plw p (.slice R1 r1 f1) (.slice R2 r2 f2) (.slice R3 r3 f3)) := by rw [← hX3]; exact HB5.out.set_ 4 _
 have hne5 : ∀ k, k < b5n → k ≠ (⟨b5n, 4, none⟩ : Addr).block := fun k hk => by show k ≠ b5n; omega
 have HR2 := Lib.hid (show Blk X3 (bx + 1) 3 #[.int .i64 source] by rw [← hX3]; exact HR2.out.far (hne5 _ (by omega)) _)
 have HR3 := Lib.hid (show Blk X3 (bx + 1 + 1) 38 #[.int .i64 0, .int .i64 0, .slice none 0 0, .slice none 0 0, .slice none 0 0, .int .i64 0] by rw [← hX3]; exact HR3.out.far (hne5 _ (by omega)) _)
 have O1 := Lib.hid (show OwnL scells 6 103 X3 W1.heap.size (.slice R1 r1 f1) _ by rw [← hX3]; exact O1.out.apart (p := ⟨b5n, 4, none⟩) (fun e => Nat.lt_irrefl _ (LT1.out _ e).2) _)
 have O2 := Lib.hid (show OwnL scells 6 105 X3 W1.heap.size (.slice R2 r2 f2) _ by rw [← hX3]; exact O2.out.apart (p := ⟨b5n, 4, none⟩) (fun e => Nat.lt_irrefl _ (LT2.out _ e).2) _)
 have O3 := Lib.hid (show OwnL scells 6 107 X3 W1.heap.size (.slice R3 r3 f3) _ by rw [← hX3]; exact O3.out.apart (p := ⟨b5n, 4, none⟩) (fun e => Nat.lt_irrefl _ (LT3.out _ e).2) _)
 have G3 := Lib.hid (show Below bx w X3 by rw [← hX3]; exact G3.out.setCell (p := ⟨b5n, 4, none⟩) (by show bx ≤ b5n; omega) _)
 have hzx3 : V3.heap.size = X3.heap.size := by rw [← hX3]; simp
 rw [hX3]
 clear hX3 k3 hf3 hne5
 have HB5 := Lib.hid hblk
 have k4 := hblk.cell 0
 have hf4 := hblk.frozen 0
 clear hblk
 have D13 := Lib.hid (fun k e (e2 : (Value.slice R3 r3 f3).ownBlock = some k) => D13.out k e (by rw [← E3.out]; exact e2))
 have D23 := Lib.hid (fun k e (e2 : (Value.slice R3 r3 f3).ownBlock = some k) => D23.out k e (by rw [← E3.out]; exact e2))
 have l0 := HB5.out.cell 0
 have l1 := HB5.out.cell 1
 have l2 := HB5.out.cell 2
 have l3 := HB5.out.cell 3
 have l4 := HB5.out.cell 4
 have l5 := HB5.out.cell 5
 have q0 := HR3.out.cell 0
 have q1 := HR3.out.cell 1
 have q2 := HR3.out.cell 2
 have q3 := HR3.out.cell 3
 have q4 := HR3.out.cell 4
 have q5 := HR3.out.cell 5
 have y0 := HR3.out.frozen 0
 have y1 := HR3.out.frozen 1
 have y2 := HR3.out.frozen 2
 have y3 := HR3.out.frozen 3
 have y4 := HR3.out.frozen 4
 have y5 := HR3.out.frozen 5
 clear k4 hf4
 go_wp2_with fail
 have hb9 := (((((HR3.out.set_ 0 (.int .i64 p.lo)).set_ 1 (.int .i64 p.hi)).set_ 2 (.slice R1 r1 f1)).set_ 3 (.slice R2 r2 f2)).set_ 4 (.slice R3 r3 f3)).set_ 5 (.int .i64 p.geese)
 have t0 := hb9.cell 0
 have t1 := hb9.cell 1
 have t2 := hb9.cell 2
 have t3 := hb9.cell 3
 have t4 := hb9.cell 4
 have t5 := hb9.cell 5
 clear hb9 l0 l1 l2 l3 l4 l5 q0 q1 q2 q3 q4 q5 y0 y1 y2 y3 y4 y5
 have HCW := Lib.hid (show Cp X3 W1.heap.size (withoutP p source) (.slice R1 r1 f1) (.slice R2 r2 f2) (.slice R3 r3 f3) from ⟨O1.out, O2.out, O3.out, D12.out, D13.out, D23.out⟩)
 have hl : ∀ k, bx ≤ (⟨bx + 1 + 1, k, none⟩ : Addr).block := fun k => by show bx ≤ bx + 1 + 1; omega
 have hl2 : ∀ k, (⟨bx + 1 + 1, k, none⟩ : Addr).block < W1.heap.size := fun k => hz1
 rw [HBX.out]
 refine bodyPost_ret (v := .agg (plw p (.slice R1 r1 f1) (.slice R2 r2 f2) (.slice R3 r3 f3))) ?_ rfl ⟨⟨_, _, _, rfl, (((((((HCW.out.far (hl2 0) _).far (hl2 1) _).far (hl2 2) _).far (hl2 3) _).far (hl2 4) _).far (hl2 5) _).mono (by omega))⟩, (((((G3.out.setCell (hl 0) _).setCell (hl 1) _).setCell (hl 2) _).setCell (hl 3) _).setCell (hl 4) _).setCell (hl 5) _⟩
 simp [results, Tryz.results114, go_sem, t0, t1, t2, t3, t4, t5]
end Go.Proofs.YtkoejeghihcmlaaGreat
namespace Go.Proofs.YtkoejeghihcmlaaGreat
open Go.RowKit Go.Shelf
set_option maxRecDepth 100000 in
theorem delInts_nil (g0 : FuncId) (cl : Array Value) (q : Int → Bool) (w : World) (eg : ∀ args W, (callFunc g0 args).run Tryz.prog W = .ok (.enter g0 args) W) (hq : ∀ x W, Below w.heap.size w W → Calls Tryz.prog g0 (#[.int .i64 x] ++ cl) W fun e W' => e = .returned (.bool (q x)) ∧ Below W.heap.size W W') :
  Calls Tryz.prog 115 #[.slice none 0 0, .func (.func g0) #[] cl] w fun e w' => e = .returned (.slice none 0 0) ∧ Below w.heap.size w w' := by
 have T := Lib.hid (idxI_any g0 cl q none 0 0 [] w Arr.nil_ (by decide) eg hq)
 clear hq
 go_enter Tryz.func115, Tryz.ntmps115
 go_upto_region 2 with (go_at_call 193; (with_reducible refine T.out.mono ?_); rintro e W1 ⟨⟨ix, rfl, hix⟩, hg⟩; have G1 := Lib.hid hg; have HIX := Lib.hid hix; clear hg hix)
 rcases HIX.out with ⟨k0, rfl, hk0, hq0, hno0⟩ | ⟨rfl, hno0⟩
 ·omega
 ·clear hno0
  go_wp2_with fail
  go_ret
  exact ⟨rfl, G1.out⟩
/-- Whatever the slice. -/
theorem delIntsV_any (g0 : FuncId) (cl : Array Value) (q : Int → Bool) (base : Nat) (v : Value) (xs : List Int) (w : World) (h : OwnL icells 1 3 w base v xs) (hn : xs.length ≤ 1000000)
  (eg : ∀ args W, (callFunc g0 args).run Tryz.prog W = .ok (.enter g0 args) W) (hq : ∀ x W, w.grownBy W v.ownBlock → Calls Tryz.prog g0 (#[.int .i64 x] ++ cl) W fun e W' => e = .returned (.bool (q x)) ∧ Below W.heap.size W W') :
  Calls Tryz.prog 115 #[v, .func (.func g0) #[] cl] w fun e w' => ∃ v', e = .returned v' ∧ OwnL icells 1 3 w' base v' (xs.filter fun x => !q x) ∧ w.grownBy w' v.ownBlock ∧ v'.ownBlock = v.ownBlock := by
 obtain ⟨A, c, hv, hnc, -, -, hgb⟩ := OwnL.arr kdI h
 cases A with
 | none =>
  have h2 : v = .slice none 0 0 ∧ xs = [] := by
   obtain ⟨h1, ⟨e0, h3⟩ | ⟨g, cap, cur, e0, -⟩⟩ := h
   ·exact ⟨e0, List.eq_nil_of_length_eq_zero h3⟩
   ·rw [e0] at hv; cases hv
  obtain ⟨rfl, rfl⟩ := h2
  refine (delInts_nil g0 cl q w eg (fun x W g => hq x W ⟨g.os, g.tape, g.output, g.size, fun k hk _ => g.block k hk⟩)).mono ?_
  rintro e w' ⟨rfl, hg⟩
  exact ⟨_, rfl, OwnL.nil _ _, ⟨hg.os, hg.tape, hg.output, hg.size, fun k hk _ => hg.block k hk⟩, rfl⟩
 | some a =>
  obtain ⟨g, o, sp⟩ := a
  have h2 : v = .slice (some ⟨g, 0, none⟩) xs.length c := by
   obtain ⟨h1, ⟨e0, h3⟩ | ⟨g', cap, cur, e0, -⟩⟩ := h
   ·rw [e0] at hv; cases hv
   ·rw [e0] at hv; cases hv; exact e0
  subst h2
  refine (delInts_any g0 cl q base g xs.length c xs w h hn eg (fun x W gg => hq x W (fix_grown gg))).mono ?_
  rintro e w' ⟨m, rfl, ho, hf⟩
  exact ⟨_, rfl, ho, fix_grown hf, rfl⟩
theorem Arr.grown {α : Type} {f : α → List Value} {size n : Nat} {w w' : World} {A : Option Addr} {xs : List α} {row : Option Nat} (h : Arr f size w A n xs) (hg : w.grownBy w' row) (hd : ∀ b o, A = some ⟨b, o, none⟩ → 0 < n → row ≠ some b) : Arr f size w' A n xs :=
 ⟨h.1, fun hn => by
  obtain ⟨b, o, rfl, hlt, hc⟩ := h.2 hn
  exact ⟨b, o, rfl, Nat.lt_of_lt_of_le hlt hg.size, fun i x hx j u hu => (World.cell?_of_block (a := ⟨b, o + i * size + j, none⟩) (hg.block b hlt (fun e => hd b o rfl hn e.symm))).trans (hc i x hx j u hu)⟩⟩
theorem Cp.parts {w : World} {B : Nat} {p : Pl} {v1 v2 v3 : Value} (h : Cp w B p v1 v2 v3) : ∃ A1 c1 A2 c2 A3 c3, v1 = .slice A1 p.loads.length c1 ∧ v2 = .slice A2 p.stands.length c2 ∧ v3 = .slice A3 p.spells.length c3 ∧ Pa w p A1 A2 A3 p.loads.length c1 p.stands.length c2 p.spells.length c3 ∧
  (∀ b o, A1 = some ⟨b, o, none⟩ → B ≤ b) ∧ (∀ b o, A2 = some ⟨b, o, none⟩ → B ≤ b) ∧ (∀ b o, A3 = some ⟨b, o, none⟩ → B ≤ b) := by
 obtain ⟨A1, c1, h1, k1, j1, l1, b1⟩ := OwnL.arr kdL h.l1
 obtain ⟨A2, c2, h2, k2, j2, l2, b2⟩ := OwnL.arr kdS h.l2
 obtain ⟨A3, c3, h3, k3, j3, l3, b3⟩ := OwnL.arr kdP h.l3
 unfold maxLen at j1 j2 j3
 exact ⟨A1, c1, A2, c2, A3, c3, h1, h2, h3, ⟨l1, l2, l3, ⟨k1, by omega⟩, ⟨k2, by omega⟩, ⟨k3, by omega⟩⟩, fun b o e => (b1 b o e).2.1, fun b o e => (b2 b o e).2.1, fun b o e => (b3 b o e).2.1⟩
theorem Pa.turned {w w' : World} {p : Pl} {A1 A2 A3 : Option Addr} {n1 c1 n2 c2 n3 c3 : Nat} {row : Option Nat} (h : Pa w p A1 A2 A3 n1 c1 n2 c2 n3 c3) (hg : w.grownBy w' row) (h1 : ∀ b o, A1 = some ⟨b, o, none⟩ → 0 < n1 → row ≠ some b) (h2 : ∀ b o, A2 = some ⟨b, o, none⟩ → 0 < n2 → row ≠ some b) (h3 : ∀ b o, A3 = some ⟨b, o, none⟩ → 0 < n3 → row ≠ some b) : Pa w' p A1 A2 A3 n1 c1 n2 c2 n3 c3 :=
 ⟨h.l1.grown hg h1, h.l2.grown hg h2, h.l3.grown hg h3, h.m1, h.m2, h.m3⟩
theorem Arr.lt_of {α : Type} {f : α → List Value} {size n b o : Nat} {w : World} {A : Option Addr} {xs : List α} (h : Arr f size w A n xs) (e : A = some ⟨b, o, none⟩) (hn : 0 < n) : b < w.heap.size := by
 obtain ⟨b', o', e', hlt, -⟩ := h.2 hn
 rw [e] at e'; cases e'; exact hlt
def movedE (p : Pl) (source known : Int) : Int := if firstE p [] [known] = 0 then err (hasI (srcsAll p) source) 3 else firstE p [] [known]
def hoursL (p : Pl) : List Int := Lib.compact (srt (colL (fun _ => true) Six.b p.loads))
def movedL (p : Pl) (source known : Int) : List Int := if movedE p source known = 0 then (hoursL p).filter (fun h => !sameAt p (withoutP p source) known h) else []
set_option maxRecDepth 100000 in
set_option maxHeartbeats 8000000 in
theorem moved_any (p : Pl) (A1 A2 A3 : Option Addr) (n1 c1 n2 c2 n3 c3 : Nat) (source known : Int) (w : World) (hp : Pa w p A1 A2 A3 n1 c1 n2 c2 n3 c3) (h19 : p.loads.length ≤ 60) :
  Calls Tryz.prog 45 #[plv p A1 A2 A3 n1 c1 n2 c2 n3 c3, .int .i64 source, .int .i64 known] w fun e w' => (∃ D m c, e = .returned (.tuple #[.slice D m c, .int .i64 (movedE p source known)]) ∧ Ints w' D m (movedL p source known)) ∧ Below w.heap.size w w' := by
 obtain ⟨W1, hW1⟩ : ∃ W1, (w.alloc (.cells (plb p A1 A2 A3 n1 c1 n2 c2 n3 c3) 38)).alloc (.cells #[.int .i64 known] 3) = W1 := ⟨_, rfl⟩
 have g1 : Below w.heap.size w W1 := by rw [← hW1]; exact two_more _ _ _
 have b1 : Blk W1 w.heap.size 38 (plb p A1 A2 A3 n1 c1 n2 c2 n3 c3) := by rw [← hW1]; exact (Blk.new _ _ _).alloc _
 have bk : Blk W1 (w.heap.size + 1) 3 #[.int .i64 known] := by
  rw [← hW1]
  have := Blk.new (w.alloc (.cells (plb p A1 A2 A3 n1 c1 n2 c2 n3 c3) 38)) 3 #[.int .i64 known]
  rw [World.size_alloc] at this
  exact this
 have p0 := b1.cell 0
 have p1 := b1.cell 1
 have p2 := b1.cell 2
 have p3 := b1.cell 3
 have p4 := b1.cell 4
 have p5 := b1.cell 5
 have k0 := bk.cell 0
 have hz1 := bk.lt
 have HPA := Lib.hid (hp.below g1)
 have HB := Lib.hid b1
 have HBK := Lib.hid bk
 have G1 := Lib.hid g1
 have H19 := Lib.hid h19
 have T := Lib.hid (fun W (g : Below W1.heap.size W1 W) (i1 : Ints W (some ⟨W1.heap.size, 0, none⟩) 1 [known]) => first_any p A1 A2 A3 n1 c1 n2 c2 n3 c3 none (some ⟨W1.heap.size, 0, none⟩) 0 0 1 1 [] [known] W (HPA.out.below g) Arr.nil_ i1 (by decide) (by decide))
 have HI := Lib.hid (one_int (Blk.new W1 3 #[.int .i64 known]))
 have HG := Lib.hid (one_more W1 (.cells #[.int .i64 known] 3))
 have HR := Lib.hid (show movedL p source known = if movedE p source known = 0 then (hoursL p).filter (fun h => !sameAt p (withoutP p source) known h) else [] from rfl)
 have HE := Lib.hid (show movedE p source known = if firstE p [] [known] = 0 then err (hasI (srcsAll p) source) 3 else firstE p [] [known] from rfl)
 have HN := Lib.hid (no_hours p known)
 obtain ⟨rr, hrr⟩ : ∃ rr, movedL p source known = rr := ⟨_, rfl⟩
 obtain ⟨ce, hce⟩ : ∃ ce, movedE p source known = ce := ⟨_, rfl⟩
 rw [hrr, hce] at HR
 rw [hce] at HE
 rw [hrr, hce]
 obtain ⟨fe, hfe⟩ : ∃ fe, firstE p [] [known] = fe := ⟨_, rfl⟩
 rw [hfe] at HE HN T
 have HW1 := Lib.hid hW1
 clear hrr hfe hce hp g1 b1 bk h19 hW1
 obtain ⟨bx, hbx⟩ : ∃ bx, w.heap.size = bx := ⟨_, rfl⟩
 have HBX := Lib.hid hbx
 by_cases he : fe = 0
 ·subst he
  have HOK := Lib.hid (HN.out rfl).1
  have hpar := ok_parts HOK.out
  have HNB1 := Lib.hid (show n1 ≤ 60 by rw [← HPA.out.l1.1]; exact hpar.2.2.2.2.2.1)
  have HNN := Lib.hid (show n1 ≤ 1000 ∧ n2 ≤ 1000 ∧ n3 ≤ 1000 by
   have h1 := HPA.out.l1.1
   have h2 := HPA.out.l2.1
   have h3 := HPA.out.l3.1
   omega)
  have T2 := Lib.hid (fun W (g : Below W1.heap.size W1 W) => sources_any p A1 A2 A3 n1 c1 n2 c2 n3 c3 W (HPA.out.below g) HOK.out)
  have HSL := Lib.hid (show (srcsAll p).length ≤ 1000 by
   unfold srcsAll srt srcs
   rw [List.length_mergeSort]
   simp only [List.length_append, List.length_map]
   omega)
  have HE1 := Lib.hid (show ce = err (hasI (srcsAll p) source) 3 from HE.out)
  clear hpar
  go_enter Tryz.func45, Tryz.ntmps45
  go_upto_region 1 with fail
  rw [HW1.out]
  rw [hbx] at G1 HB HBK hz1 p0 p1 p2 p3 p4 p5 k0
  clear hbx
  go_upto_region 4 with (first
   | (go_at_call 80; (with_reducible refine (T.out _ HG.out HI.out).mono ?_); rintro e W3 ⟨rfl, hg⟩; have G3 := Lib.hid (HG.out.trans (hg.mono HG.out.size)); have y0 := (HB.out.ext G3.out).cell 0; have y1 := (HB.out.ext G3.out).cell 1; have y2 := (HB.out.ext G3.out).cell 2; have y3 := (HB.out.ext G3.out).cell 3; have y4 := (HB.out.ext G3.out).cell 4; have y5 := (HB.out.ext G3.out).cell 5; clear hg))
  obtain ⟨hb, hhb⟩ : ∃ hb, hasI (srcsAll p) source = hb := ⟨_, rfl⟩
  rw [hhb] at HE1
  have HHB := Lib.hid hhb
  clear hhb
  cases hb with
  | false =>
   have HR2 := Lib.hid (show rr = [] by rw [HR.out, HE1.out]; rfl)
   go_wp2_with (first
    | (go_at_call 113; (with_reducible refine (T2.out _ G3.out).mono ?_); rintro e W4 ⟨⟨v, rfl, ho⟩, hg⟩; obtain ⟨D, c, hv, -, -, hia, -⟩ := OwnL.arr kdI ho; subst hv; have HO := Lib.hid hia; have G4 := Lib.hid (G3.out.trans (hg.mono G3.out.size)); clear hg ho hia)
    | (go_at_call 109; (with_reducible refine (has_any _ _ _ _ source _ HO.out (Nat.le_trans HSL.out (by decide))).mono ?_); rw [HHB.out]; rintro e W5 ⟨rfl, rfl⟩))
   go_ret2
   exact ⟨⟨none, 0, 0, by rw [HE1.out]; rfl, by rw [HR2.out]; exact Arr.nil_⟩, by rw [HBX.out]; exact G1.out.trans (G4.out.mono (by omega))⟩
  | true =>
   have HR2 := Lib.hid (show rr = (hoursL p).filter (fun h => !sameAt p (withoutP p source) known h) by rw [HR.out, HE1.out]; rfl)
   go_upto_region 7 with (first
    | (go_at_call 113; (with_reducible refine (T2.out _ G3.out).mono ?_); rintro e W4 ⟨⟨v, rfl, ho⟩, hg⟩; obtain ⟨D, c, hv, -, -, hia, -⟩ := OwnL.arr kdI ho; subst hv; have HO := Lib.hid hia; have G4 := Lib.hid (G3.out.trans (hg.mono G3.out.size)); clear hg ho hia)
    | (go_at_call 109; (with_reducible refine (has_any _ _ _ _ source _ HO.out (Nat.le_trans HSL.out (by decide))).mono ?_); rw [HHB.out]; rintro e W5 ⟨rfl, rfl⟩))
   clear y0 y1 y2 y3 y4 y5 p0 p1 p2 p3 p4 p5 k0
   have q1 := (HB.out.ext G4.out).cell 2
   have HL1 := Lib.hid (HPA.out.l1.below G4.out)
   have HGZ := Lib.hid (Below.refl W4.heap.size W4)
   have OS0 := Lib.hid (OwnL.nil (f := icells) (size := 1) (e := 3) W4 W4.heap.size)
   have HP0 := Lib.hid (show ([] : List Int).length ≤ 1000 by decide)
   go_wp2_with fail
   go_loopw [9, 28] (fun v i wr => ∃ (k : Nat) (u : Value), u = v ∧ i = .int .i64 k ∧ k ≤ n1 ∧ Below W4.heap.size W4 wr ∧ OwnL icells 1 3 wr W4.heap.size v (([] : List Int) ++ colL (fun _ => true) Six.b (p.loads.take k))) (fun _ i _ => n1 - (intOf i).toNat)
   case atStart => exact ⟨0, _, rfl, rfl, Nat.zero_le _, HGZ.out, by rw [colL_nil]; exact OS0.out⟩
   case round =>
    obtain ⟨k, u, rfl, rfl, hk, hg, hown⟩ := hrel
    have hnb := HNB1.out
    have HG := Lib.hid hg
    have HO := Lib.hid hown
    by_cases hkn : k < n1
    ·obtain ⟨b0, o0, e0, -, -, hc⟩ := six_at (HL1.out.below hg) hkn
     obtain ⟨x0, x1, x2, x3, x4, x5⟩ := hc _ (Below.refl _ _)
     have HN := Lib.hid (colL_snoc (fun _ => true) Six.b (l := p.loads) (k := k) (by rw [HL1.out.1]; exact hkn))
     have HCL := Lib.hid (colL_len (fun _ => true) Six.b (p.loads.take k))
     obtain ⟨x, hxg⟩ : ∃ x, p.loads.getD k z6 = x := ⟨_, rfl⟩
     rw [hxg] at x0 x1 x2 x3 x4 x5 HN
     subst e0
     obtain ⟨W1, hW1⟩ : ∃ W1, wr.alloc (.cells #[.int .i64 x.a, .int .i64 x.b, .int .i64 x.c, .int .i64 x.d, .int .i64 x.e, .int .i64 x.f] 103) = W1 := ⟨_, rfl⟩
     have b1 : Blk W1 wr.heap.size 103 #[.int .i64 x.a, .int .i64 x.b, .int .i64 x.c, .int .i64 x.d, .int .i64 x.e, .int .i64 x.f] := by rw [← hW1]; exact Blk.new _ _ _
     have g1 : Below wr.heap.size wr W1 := by rw [← hW1]; exact one_more _ _
     have hwz := HG.out.size
     have O1 := Lib.hid (HO.out.ext g1)
     have G1 := Lib.hid (HG.out.trans (g1.mono hwz))
     have hgs := g1.size
     have q0 := b1.cell 0
     have q1 := b1.cell 1
     have q2 := b1.cell 2
     have q3 := b1.cell 3
     have q4 := b1.cell 4
     have q5 := b1.cell 5
     have HLEN := Lib.hid (show (([] : List Int) ++ colL (fun _ => true) Six.b (p.loads.take k)).length + 1 ≤ 1000000 by
      have h1 := HCL.out
      have h2 := HP0.out
      have h3 := HNB1.out
      rw [List.length_take] at h1
      rw [List.length_append]
      omega)
     have OX := Lib.hid (O1.out.ext (one_more W1 (.cells #[.int .i64 x.b] 3)))
     have IX := Lib.hid (one_int (Blk.new W1 3 #[.int .i64 x.b]))
     clear hc hxg hg hown b1 g1
     have HW1 := Lib.hid hW1
     clear hW1
     have HN2 := Lib.hid (show colL (fun _ => true) Six.b (p.loads.take (k + 1)) = colL (fun _ => true) Six.b (p.loads.take k) ++ [x.b] by rw [HN.out]; rfl)
     go_upto_region 10 with fail
     rw [HW1.out]
     go_wp2_with (at_builtin; go_loud (refine wpList_app kdI (by rfl) _ _ (by rfl) W4.heap.size _ (([] : List Int) ++ colL (fun _ => true) Six.b (p.loads.take k)) (by rfl) OX.out _ 1 1 [x.b] (by rfl) IX.out HLEN.out (by simp; omega) ?_); intro v' w' ho hbw hz; have HO2 := Lib.hid ho; have HB2 := Lib.hid ((OX.out).below hbw (B := W4.heap.size) (Nat.le_refl _) (by simp; omega)); clear ho hbw hz)
     go_roundw
     case rel => exact ⟨k + 1, _, rfl, by go_num, by omega, (G1.out.trans ((one_more W1 _).mono G1.out.size)).trans HB2.out, by rw [HN2.out, ← List.append_assoc]; exact HO2.out⟩
     case measure => simp [intOf]; omega
    ·obtain rfl : n1 = k := by omega
     have HEND1 := Lib.hid (show OwnL icells 1 3 wr W4.heap.size u (([] : List Int) ++ colL (fun _ => true) Six.b p.loads) by have := HO.out; rwa [List.take_of_length_le (by rw [HL1.out.1]; exact Nat.le_refl _)] at this)
     have HGE1 := Lib.hid (show Below W4.heap.size W4 wr from HG.out)
     clear HG HO hg hown
     obtain ⟨V1, hV1⟩ : ∃ V, wr = V := ⟨_, rfl⟩
     obtain ⟨v1, hv1⟩ : ∃ v1, u = v1 := ⟨_, rfl⟩
     rw [hV1] at HEND1 HGE1 ⊢
     rw [hv1] at HEND1 ⊢
     clear hV1 hv1 hkn hk hnb
     have HCL := Lib.hid (show (([] : List Int) ++ colL (fun _ => true) Six.b p.loads).length ≤ 1000 by
      have h1 := colL_len (fun _ => true) Six.b p.loads
      have h2 := HL1.out.1
      have h3 := HNB1.out
      rw [List.nil_append]
      omega)
     have HSO := Lib.hid (sort_any W4.heap.size _ _ V1 HEND1.out (Nat.le_trans HCL.out (by decide)) HGE1.out.size)
     go_upto_region 13 with (go_at_call 111; (with_reducible refine HSO.out.mono ?_); rintro e V2 ⟨rfl, ho, hg⟩; have HO9 := Lib.hid ho; have HG9 := Lib.hid hg; clear ho hg)
     have GV2 := Lib.hid (show Below W4.heap.size W4 V2 from HGE1.out.trans HG9.out)
     have GA := Lib.hid (show Below W1.heap.size W1 V2 from G4.out.trans (GV2.out.mono G4.out.size))
     have HPB := Lib.hid (HB.out.ext GA.out)
     have HKB := Lib.hid (HBK.out.ext GA.out)
     have z0 := HPB.out.cell 0
     have z1 := HPB.out.cell 1
     have z2 := HPB.out.cell 2
     have z3 := HPB.out.cell 3
     have z4 := HPB.out.cell 4
     have z5 := HPB.out.cell 5
     have TW := Lib.hid (without_any p A1 A2 A3 n1 c1 n2 c2 n3 c3 source V2 (HPA.out.below GA.out) HNN.out)
     go_upto_region 14 with (go_at_call 114; (with_reducible refine TW.out.mono ?_); rintro e V3 ⟨⟨u1, u2, u3, rfl, hcp⟩, hg⟩; obtain ⟨Q1, e1, Q2, e2, Q3, e3, hv1, hv2, hv3, hpq, y1, y2, y3⟩ := hcp.parts; subst hv1 hv2 hv3; have HPQ := Lib.hid hpq; have Y1 := Lib.hid y1; have Y2 := Lib.hid y2; have Y3 := Lib.hid y3; have G3b := Lib.hid hg; clear hcp hg hpq y1 y2 y3)
     obtain ⟨m1, hm1⟩ : ∃ m, (withoutP p source).loads.length = m := ⟨_, rfl⟩
     obtain ⟨m2, hm2⟩ : ∃ m, (withoutP p source).stands.length = m := ⟨_, rfl⟩
     obtain ⟨m3, hm3⟩ : ∃ m, (withoutP p source).spells.length = m := ⟨_, rfl⟩
     rw [hm1, hm2, hm3] at HPQ ⊢
     have H19q := Lib.hid (show (withoutP p source).loads.length ≤ 60 from Nat.le_trans (List.length_filter_le _ _) H19.out)
     clear hm1 hm2 hm3 z0 z1 z2 z3 z4 z5
     obtain ⟨V4, hV4⟩ : ∃ V4, V3.alloc (.cells (plw p (.slice Q1 m1 e1) (.slice Q2 m2 e2) (.slice Q3 m3 e3)) 38) = V4 := ⟨_, rfl⟩
     have g4 : Below V3.heap.size V3 V4 := by rw [← hV4]; exact one_more _ _
     have b4 : Blk V4 V3.heap.size 38 (plb (withoutP p source) Q1 Q2 Q3 m1 e1 m2 e2 m3 e3) := by rw [← hV4]; exact Blk.new _ _ _
     obtain ⟨bq, hbq⟩ : ∃ bq, V3.heap.size = bq := ⟨_, rfl⟩
     have hq1 := G3b.out.size
     have hq2 := GA.out.size
     have hq3 := b4.lt
     have hq4 := G4.out.size
     have hq5 := GV2.out.size
     have G34 := Lib.hid (show Below V2.heap.size V2 V4 from G3b.out.trans (g4.mono hq1))
     have OW := Lib.hid (HO9.out.ext G34.out)
     have LTV := Lib.hid (fun k e => (show W4.heap.size ≤ k ∧ k < V2.heap.size from World.ownsRow.lt HO9.out k e))
     have KP := Lib.hid (HPB.out.ext G34.out)
     have KK := Lib.hid (HKB.out.ext G34.out)
     have KPA := Lib.hid ((HPA.out.below GA.out).below G34.out)
     have KQ := Lib.hid b4
     have KQA := Lib.hid (HPQ.out.below g4)
     have LQ := Lib.hid (fun b o (A : Option Addr) (n : Nat) (l : List Six) (h : Arr scells 6 W1 A n l) (e : A = some ⟨b, o, none⟩) (h0 : 0 < n) => h.lt_of e h0)
     rw [hbq] at KQ hq3 ⊢
     have HV4 := Lib.hid hV4
     have HBQ := Lib.hid hbq
     clear g4 b4 hV4 hbq
     rw [HV4.out]
     have TCm := Lib.hid (compact_any W4.heap.size v1 _ V4 OW.out (by unfold srt; rw [List.length_mergeSort]; exact Nat.le_trans HCL.out (by decide)) (by have := HBQ.out; omega))
     go_wp2_with fail
     refine TCm.out.mono ?_
     rintro e V5 ⟨⟨vc, rfl, hoc, hbc⟩, hgc⟩
     have nlt : ∀ k, k < W4.heap.size → v1.ownBlock ≠ some k := fun k hk e => by have := (LTV.out _ e).1; omega
     have nge : ∀ k, V2.heap.size ≤ k → v1.ownBlock ≠ some k := fun k hk e => by have := (LTV.out _ e).2; omega
     have TD := Lib.hid (delIntsV_any 116 #[.pointer (some ⟨bx, 0, none⟩), .pointer (some ⟨bx + 1, 0, none⟩), .pointer (some ⟨bq, 0, none⟩)] (sameAt p (withoutP p source) known) W4.heap.size vc _ V5 hoc (Nat.le_trans (compactUpTo_le _ _) (by unfold srt; rw [List.length_mergeSort]; exact Nat.le_trans HCL.out (by decide))) (enters_of Tryz.func116 (by kernel_rfl) rfl)
      (fun x W g => by
       rw [hbc] at g
       have nA : ∀ b o (A : Option Addr) (n : Nat) (l : List Six), Arr scells 6 W1 A n l → A = some ⟨b, o, none⟩ → 0 < n → v1.ownBlock ≠ some b := fun b o A n l h e h0 => nlt b (by have := LQ.out b o A n l h e h0; omega)
       exact sameAt_any p (withoutP p source) A1 A2 A3 n1 c1 n2 c2 n3 c3 Q1 Q2 Q3 m1 e1 m2 e2 m3 e3 bx (bx + 1) bq x known W
        ((KP.out.grown hgc (nlt bx (by omega))).grown g (nlt bx (by omega))) ((KK.out.grown hgc (nlt (bx + 1) (by omega))).grown g (nlt (bx + 1) (by omega))) ((KQ.out.grown hgc (nge bq (by have := HBQ.out; omega))).grown g (nge bq (by have := HBQ.out; omega)))
        ((KPA.out.turned hgc (fun b o e h0 => nA b o _ _ _ HPA.out.l1 e h0) (fun b o e h0 => nA b o _ _ _ HPA.out.l2 e h0) (fun b o e h0 => nA b o _ _ _ HPA.out.l3 e h0)).turned g (fun b o e h0 => nA b o _ _ _ HPA.out.l1 e h0) (fun b o e h0 => nA b o _ _ _ HPA.out.l2 e h0) (fun b o e h0 => nA b o _ _ _ HPA.out.l3 e h0))
        ((KQA.out.turned hgc (fun b o e _ => nge b (Y1.out b o e)) (fun b o e _ => nge b (Y2.out b o e)) (fun b o e _ => nge b (Y3.out b o e))).turned g (fun b o e _ => nge b (Y1.out b o e)) (fun b o e _ => nge b (Y2.out b o e)) (fun b o e _ => nge b (Y3.out b o e)))
        H19.out H19q.out))
     have G5 := Lib.hid (show Below W1.heap.size W1 V5 from (GA.out.trans (G34.out.mono hq2)).grown hgc (by have := G34.out.size; omega) (fun k e => by have := (LTV.out _ e).1; omega))
     have HVC := Lib.hid (show ∀ k, vc.ownBlock = some k → W1.heap.size ≤ k from fun k e => by rw [hbc] at e; have := (LTV.out _ e).1; omega)
     clear hoc hbc hgc nlt nge
     go_wp2_with fail
     refine TD.out.mono ?_
     rintro e V6 ⟨vd, rfl, hod, hgd, -⟩
     obtain ⟨DD, dd, hvd, -, -, had, -⟩ := OwnL.arr kdI hod
     subst hvd
     have HAD := Lib.hid had
     have G6 := Lib.hid (G5.out.grown hgd G5.out.size (fun k e => HVC.out k e))
     clear hod hgd had
     go_wp2_with fail
     go_ret2
     refine ⟨⟨DD, _, dd, by rw [HE1.out]; rfl, ?_⟩, by rw [HBX.out]; exact G1.out.trans (G6.out.mono (by omega))⟩
     have hfin := HAD.out
     rw [HR2.out]
     exact hfin
 ·have HE2 := Lib.hid (show ce = fe by rw [HE.out, if_neg he])
  have HR2 := Lib.hid (show rr = [] by rw [HR.out, HE2.out, if_neg he])
  have hne : (fe != 0) = true := by simpa using he
  go_enter Tryz.func45, Tryz.ntmps45
  go_upto_region 1 with fail
  rw [HW1.out]
  rw [hbx] at G1 HB HBK hz1 p0 p1 p2 p3 p4 p5 k0
  clear hbx
  go_wp2_with (go_at_call 80; (with_reducible refine (T.out _ HG.out HI.out).mono ?_); rintro e W3 ⟨rfl, hg⟩; have G3 := Lib.hid (HG.out.trans (hg.mono HG.out.size)); clear hg)
  go_ret2
  exact ⟨⟨none, 0, 0, by rw [HE2.out]; rfl, by rw [HR2.out]; exact Arr.nil_⟩, by rw [HBX.out]; exact G1.out.trans (G3.out.mono (by omega))⟩
end Go.Proofs.YtkoejeghihcmlaaGreat
namespace Go.Proofs.YtkoejeghihcmlaaGreat
open Go.RowKit Go.Shelf
/-- Four numbers. -/
structure Q4 where
 a : Int
 b : Int
 c : Int
 d : Int
def z4 : Q4 := ⟨0, 0, 0, 0⟩
end Go.Proofs.YtkoejeghihcmlaaGreat
namespace Go.Proofs.YtkoejeghihcmlaaGreat
open Go.RowKit Go.Shelf
theorem rng_of {n lo hi : Int} (h1 : lo ≤ n) (h2 : n ≤ hi) : rng n lo hi = true := by unfold rng; rw [decide_eq_true h1, decide_eq_true h2]; rfl
end Go.Proofs.YtkoejeghihcmlaaGreat
namespace Go.Proofs.YtkoejeghihcmlaaGreat
open Go.RowKit Go.Shelf
theorem veil_every (x : Six) : veil every x = x := by unfold veil every; rfl
end Go.Proofs.YtkoejeghihcmlaaGreat
namespace Go.Proofs.YtkoejeghihcmlaaGreat
open Go.RowKit Go.Shelf
def exP : Pl := ⟨100, 120, [⟨1, 30, 40, 50, 0, 0⟩, ⟨2, 35, 30, 40, 0, 0⟩, ⟨3, 58, 10, 60, 4, 0⟩], [⟨11, 35, 20, 35, 2, 0⟩, ⟨12, 58, 0, 5, 5, 0⟩, ⟨13, 58, 0, 0, 6, 0⟩, ⟨14, 30, 80, 90, 9, 0⟩], [⟨21, 1, 58, 60, 4, 0⟩, ⟨22, 2, 64, 70, 5, 0⟩], 2⟩
theorem ex1 : stoodR exP 30 2 = ⟨50, 75⟩ ∧ askE exP [30] 2 = 0 := by decide +kernel
theorem ex2 : cartR exP 3 5 = ⟨15, 35⟩ ∧ cartE exP 3 5 = 0 := by decide +kernel
theorem ex3 : clearA exP 58 4 = 2 ∧ askE exP [58] 4 = 0 := by decide +kernel
theorem ex4 : firstR exP 5 = ⟨58, 100000⟩ ∧ askE exP [0] 5 = 0 := by decide +kernel
theorem ex5 : shutV exP 61 6 = false ∧ firstE exP [61] [6] = 0 := by decide +kernel
theorem ex6 : openA exP 61 5 = 2 ∧ askE exP [61] 5 = 0 := by decide +kernel
theorem ex7 : openA exP 105 6 = 1 ∧ askE exP [105] 6 = 0 := by decide +kernel
theorem ex8 : openA exP 106 6 = 0 ∧ askE exP [106] 6 = 0 := by decide +kernel
theorem exT : tellL exP 9 = [1, 2, 3, 11, 12, 13, 14] := by
 unfold tellL srt
 rw [show colL (fun x => cnt x 9) Six.a exP.loads ++ colL (fun x => cnt x 9) Six.a exP.stands = [1, 2, 3, 11, 12, 13, 14] by decide +kernel]
 exact List.mergeSort_of_pairwise (by decide)
theorem ex9 : clashL exP 9 = [2, 11, 14] ∧ clashE exP 9 = 0 := by
 have h1 : clashE exP 9 = 0 := by
  unfold clashE
  rw [exT]
  decide +kernel
 refine ⟨?_, h1⟩
 unfold clashL
 rw [if_pos h1, exT]
 decide +kernel
theorem exS : srcsAll exP = [1, 2, 3, 11, 12, 13, 14, 21, 22] := by
 unfold srcsAll srt
 rw [show srcs exP.loads ++ srcs exP.stands ++ srcs exP.spells = [1, 2, 3, 11, 12, 13, 14, 21, 22] by decide +kernel]
 exact List.mergeSort_of_pairwise (by decide)
theorem exH : hoursL exP = [30, 35, 58] := by
 unfold hoursL srt
 rw [show colL (fun _ => true) Six.b exP.loads = [30, 35, 58] by decide +kernel, List.mergeSort_of_pairwise (by decide)]
 decide +kernel
theorem ex10 : movedL exP 11 2 = [30, 35, 58] ∧ movedE exP 11 2 = 0 := by
 have h1 : movedE exP 11 2 = 0 := by
  unfold movedE
  rw [exS]
  decide +kernel
 refine ⟨?_, h1⟩
 unfold movedL
 rw [if_pos h1, exH]
 decide +kernel
end Go.Proofs.YtkoejeghihcmlaaGreat
namespace Go.Proofs.YtkoejeghihcmlaaGreat
open Go.RowKit Go.Shelf
/-- Whether two lists are equal. -/
def sameL (l m : List Int) : Bool := decide (l = m)
theorem sameL_of {l m : List Int} (hl : l.length = m.length) (h : ∀ j, j < l.length → l.getD j 0 = m.getD j 0) : sameL l m = true := by
 refine decide_eq_true (List.ext_getElem? fun j => ?_)
 by_cases hj : j < l.length
 ·have := h j hj
  rw [List.getD_eq_getElem?_getD, List.getD_eq_getElem?_getD, List.getElem?_eq_getElem hj, List.getElem?_eq_getElem (by omega)] at this
  rw [List.getElem?_eq_getElem hj, List.getElem?_eq_getElem (by omega)]
  exact congrArg some this
 ·rw [List.getElem?_eq_none (by omega), List.getElem?_eq_none (by omega)]
set_option maxRecDepth 100000 in
set_option maxHeartbeats 1000000 in
theorem same_any (A B : Option Addr) (n c m d : Nat) (l l' : List Int) (w : World) (ha : Ints w A n l) (hb : Ints w B m l') (hn : n ≤ 1000000) (hm : m ≤ 1000000) :
  Calls Tryz.prog 41 #[.slice A n c, .slice B m d] w fun e w' => e = .returned (.bool (sameL l l')) ∧ Below w.heap.size w w' := by
 have HA := Lib.hid ha
 have HB := Lib.hid hb
 have hla := Lib.hid ha.1
 have hlb := Lib.hid hb.1
 clear ha hb
 by_cases hnm : n = m
 ·subst hnm
  have heq : ((n : Int) == (n : Int)) = true := by simp
  go_enter Tryz.func41, Tryz.ntmps41
  go_wp2_with fail
  go_loopw [5, 6] (fun s i wr => ∃ (k : Nat) (sb : Bool), i = .int .i64 k ∧ s = .bool sb ∧ k ≤ n ∧ Below w.heap.size w wr ∧ (sb = true → ∀ j, j < k → l.getD j 0 = l'.getD j 0) ∧ (sb = false → l ≠ l')) (fun _ i _ => n - (intOf i).toNat)
  case atStart => exact ⟨0, true, rfl, rfl, Nat.zero_le _, Below.refl _ _, fun _ j hj => absurd hj (by omega), fun h => (by cases h)⟩
  case round =>
   obtain ⟨k, sb, rfl, rfl, hk, hg, h1, h2⟩ := hrel
   have H1 := Lib.hid h1
   have H2 := Lib.hid h2
   have HG := Lib.hid hg
   clear h1 h2 hg
   cases sb with
   | false =>
    have hf : sameL l l' = false := decide_eq_false (H2.out rfl)
    have HF := Lib.hid hf
    clear hf
    by_cases hkn : k < n
    ·go_wp2_with fail
     go_ret
     exact ⟨by rw [HF.out]; rfl, HG.out⟩
    ·have hkd : decide ((k : Int) < (n : Int)) = false := decide_eq_false (by omega)
     go_wp2_with fail
     all_goals (try (rename_i h5 h6; cases h5))
     all_goals (try (rename_i h5; clear h5))
     all_goals (try go_wp2_with fail)
     all_goals go_ret
     all_goals exact ⟨by rw [HF.out]; rfl, HG.out⟩
   | true =>
    by_cases hkn : k < n
    ·obtain ⟨b, o, rfl, -, -, hc⟩ := ints_at (HA.out.below HG.out) hkn
     obtain ⟨b', o', rfl, -, -, hc'⟩ := ints_at (HB.out.below HG.out) hkn
     have d0 := hc _ (Below.refl _ _)
     have d1 := hc' _ (Below.refl _ _)
     obtain ⟨x, hx⟩ : ∃ x, l.getD k 0 = x := ⟨_, rfl⟩
     obtain ⟨y, hy⟩ : ∃ y, l'.getD k 0 = y := ⟨_, rfl⟩
     rw [hx] at d0
     rw [hy] at d1
     have HX := Lib.hid hx
     have HY := Lib.hid hy
     clear hc hc' hx hy
     obtain ⟨eb, heb⟩ : ∃ eb, (x == y) = eb := ⟨_, rfl⟩
     have HEB := Lib.hid heb
     go_upto_region 5 with fail
     go_quiet (fail)
     have GN := Lib.hid (show Below w.heap.size w (wr.drewN nq) from HG.out.trans (⟨rfl, rfl, rfl, Nat.le_refl _, fun _ _ => rfl⟩ : Below w.heap.size wr (wr.drewN nq)))
     clear d0 d1 heb
     go_wp2_with fail
     go_roundw
     case rel =>
      refine ⟨k + 1, eb, by go_num, rfl, by omega, GN.out, fun he j hj => ?_, fun he hll => ?_⟩
      ·by_cases hjk : j < k
       ·exact H1.out rfl j hjk
       ·have : j = k := by omega
        subst this
        have := HEB.out
        rw [he] at this
        rw [HX.out, HY.out]
        simpa using this
      ·have := HEB.out
       rw [he] at this
       have hne : x ≠ y := by simpa using this
       rw [← HX.out, ← HY.out, hll] at hne
       exact hne rfl
     case measure => simp [intOf]; omega
    ·obtain rfl : n = k := by omega
     have HF := Lib.hid (sameL_of (l := l) (m := l') (by rw [hla.out, hlb.out]) (fun j hj => H1.out rfl j (by rw [← hla.out]; exact hj)))
     have hkd : decide ((n : Int) < (n : Int)) = false := decide_eq_false (by omega)
     go_wp2_with fail
     all_goals (try (rename_i h5 h6; cases h5))
     all_goals (try (rename_i h5; clear h5))
     all_goals (try go_wp2_with fail)
     all_goals go_ret
     all_goals exact ⟨by rw [HF.out]; rfl, HG.out⟩
 ·have heq : ((n : Int) == (m : Int)) = false := by simp; omega
  have hf : sameL l l' = false := decide_eq_false (fun e => hnm (by rw [← hla.out, ← hlb.out, e]))
  have HF := Lib.hid hf
  clear hf
  go_enter Tryz.func41, Tryz.ntmps41
  go_wp2_with fail
  refine wp_loop_rounds 1 ?_
  rw [rounds_succ]
  by_cases h0 : 0 < n
  ·have h0d : decide ((0 : Int) < (n : Int)) = true := decide_eq_true (by omega)
   go_wp2_with fail
   go_ret
   exact ⟨by rw [HF.out]; rfl, Below.refl _ _⟩
  ·have h0d : decide ((0 : Int) < (n : Int)) = false := decide_eq_false (by omega)
   go_wp2_with fail
   all_goals (try (rename_i h5 h6; cases h5))
   all_goals (try (rename_i h5; clear h5))
   all_goals (try go_wp2_with fail)
   all_goals go_ret
   all_goals exact ⟨by rw [HF.out]; rfl, Below.refl _ _⟩
end Go.Proofs.YtkoejeghihcmlaaGreat
namespace Go.Proofs.YtkoejeghihcmlaaGreat
open Go.RowKit Go.Shelf
theorem Blk.arrS {w : World} {g : Nat} {t : TypeId} {xs : List Six} (h : Blk w g t (xs.flatMap scells).toArray) : Arr scells 6 w (some ⟨g, 0, none⟩) xs.length xs := by
 refine ⟨rfl, fun _ => ⟨g, 0, rfl, h.lt, fun k x hx j u hu => ?_⟩⟩
 have hj : j < 6 := by rw [← scells_len x]; exact (List.getElem?_eq_some_iff.1 hu).1
 have e1 : (xs.flatMap scells)[k * 6 + j]? = some u := by rw [flat_get scells_len xs k j hj, hx]; exact hu
 rw [show 0 + k * 6 + j = k * 6 + j by omega, h.cell, List.getElem?_toArray]
 exact e1
set_option maxRecDepth 100000 in
set_option maxHeartbeats 8000000 in
theorem plot_any (w : World) : Calls Tryz.prog 99 #[] w fun e w' => (∃ A1 A2 A3, e = .returned (plv exP A1 A2 A3 3 3 4 4 2 2) ∧ Pa w' exP A1 A2 A3 3 3 4 4 2 2) ∧ Below w.heap.size w w' := by
 go_enter Tryz.func99, Tryz.ntmps99
 go_wp2_with fail
 obtain ⟨W, hW⟩ : ∃ W, (((w.alloc (.cells #[.int .i64 100, .int .i64 120, .slice (some ⟨w.heap.size + 1, 0, none⟩) 3 3, .slice (some ⟨w.heap.size + 1 + 1, 0, none⟩) 4 4, .slice (some ⟨w.heap.size + 1 + 1 + 1, 0, none⟩) 2 2, .int .i64 2] 38)).alloc (.cells (exP.loads.flatMap scells).toArray 103)).alloc (.cells (exP.stands.flatMap scells).toArray 105)).alloc (.cells (exP.spells.flatMap scells).toArray 107) = W := ⟨_, rfl⟩
 have b0 : Blk W w.heap.size 38 #[.int .i64 100, .int .i64 120, .slice (some ⟨w.heap.size + 1, 0, none⟩) 3 3, .slice (some ⟨w.heap.size + 1 + 1, 0, none⟩) 4 4, .slice (some ⟨w.heap.size + 1 + 1 + 1, 0, none⟩) 2 2, .int .i64 2] := by rw [← hW]; exact (((Blk.new _ _ _).alloc _).alloc _).alloc _
 have b1 : Blk W (w.heap.size + 1) 103 (exP.loads.flatMap scells).toArray := by rw [← hW]; exact (blk3_2 _ _ _ _ _).alloc _
 have b2 : Blk W (w.heap.size + 1 + 1) 105 (exP.stands.flatMap scells).toArray := by rw [← hW]; exact (blk3_3 _ _ _ _ _).alloc _
 have b3 : Blk W (w.heap.size + 1 + 1 + 1) 107 (exP.spells.flatMap scells).toArray := by
  rw [← hW]
  have := Blk.new (((w.alloc (.cells #[.int .i64 100, .int .i64 120, .slice (some ⟨w.heap.size + 1, 0, none⟩) 3 3, .slice (some ⟨w.heap.size + 1 + 1, 0, none⟩) 4 4, .slice (some ⟨w.heap.size + 1 + 1 + 1, 0, none⟩) 2 2, .int .i64 2] 38)).alloc (.cells (exP.loads.flatMap scells).toArray 103)).alloc (.cells (exP.stands.flatMap scells).toArray 105)) 107 (exP.spells.flatMap scells).toArray
  simp only [World.size_alloc] at this
  exact this
 have g0 : Below w.heap.size w W := by rw [← hW]; exact (three_more _ _ _ _).alloc (by simp; omega) _
 have r0 := b0.cell 0
 have r1 := b0.cell 1
 have r2 := b0.cell 2
 have r3 := b0.cell 3
 have r4 := b0.cell 4
 have r5 := b0.cell 5
 have HPA := Lib.hid (show Pa W exP (some ⟨w.heap.size + 1, 0, none⟩) (some ⟨w.heap.size + 1 + 1, 0, none⟩) (some ⟨w.heap.size + 1 + 1 + 1, 0, none⟩) 3 3 4 4 2 2 from ⟨b1.arrS, b2.arrS, b3.arrS, by decide, by decide, by decide⟩)
 have hW2 : _ = W := hW
 simp only [exP, List.flatMap_cons, List.flatMap_nil, scells, List.cons_append, List.nil_append, List.append_nil] at hW2
 rw [hW2]
 have HG0 := Lib.hid g0
 clear hW hW2 b0 b1 b2 b3 g0
 refine bodyPost_ret (v := plv exP (some ⟨w.heap.size + 1, 0, none⟩) (some ⟨w.heap.size + 1 + 1, 0, none⟩) (some ⟨w.heap.size + 1 + 1 + 1, 0, none⟩) 3 3 4 4 2 2) ?_ rfl ⟨⟨_, _, _, rfl, HPA.out⟩, HG0.out⟩
 simp [results, Tryz.results99, go_sem, r0, r1, r2, r3, r4, r5]
 exact ⟨rfl, rfl, rfl⟩
end Go.Proofs.YtkoejeghihcmlaaGreat
namespace Go.Proofs.YtkoejeghihcmlaaGreat
open Go.RowKit Go.Shelf
set_option maxRecDepth 100000 in
set_option maxHeartbeats 16000000 in
theorem sane_any (w : World) : Calls Tryz.prog 34 #[] w fun e w' => e = .returned (.bool true) ∧ Below w.heap.size w w' := by
 have h19 : exP.loads.length ≤ 60 := by decide
 go_enter Tryz.func34, Tryz.ntmps34
 go_wp2_with fail
 refine (plot_any w).mono ?_
 rintro e W0 ⟨⟨A1, A2, A3, rfl, hp⟩, hg⟩
 have HPA0 := Lib.hid hp
 have HG0 := Lib.hid hg
 clear hp hg
 go_upto_region 2 with fail
 obtain ⟨W1, hW1⟩ : ∃ W1, W0.alloc (.cells (plb exP A1 A2 A3 3 3 4 4 2 2) 38) = W1 := ⟨_, rfl⟩
 have g1 : Below W0.heap.size W0 W1 := by rw [← hW1]; exact one_more _ _
 have b1 : Blk W1 W0.heap.size 38 (plb exP A1 A2 A3 3 3 4 4 2 2) := by rw [← hW1]; exact Blk.new _ _ _
 have HPA := Lib.hid (HPA0.out.below g1)
 have HB := Lib.hid b1
 have GA := Lib.hid (HG0.out.trans (g1.mono HG0.out.size))
 obtain ⟨bP, hbP⟩ : ∃ b, W0.heap.size = b := ⟨_, rfl⟩
 rw [hbP] at HB ⊢
 have HW1 := Lib.hid hW1
 clear g1 b1 hW1 hbP
 rw [HW1.out]
 have GC := Lib.hid (Below.refl W1.heap.size W1)
 have T2 := Lib.hid (show Calls Tryz.prog 35 #[plv exP A1 A2 A3 3 3 4 4 2 2, .int .i64 30, .int .i64 2] W1 (fun e w' => e = .returned (.tuple #[.agg #[.int .i64 50, .int .i64 75], .int .i64 0]) ∧ Below W1.heap.size W1 w') by
  have t := stood_any exP A1 A2 A3 3 3 4 4 2 2 30 2 W1 (HPA.out.below GC.out) h19
  rw [ex1.1, ex1.2] at t
  exact t)
 have y0 := (HB.out.ext GC.out).cell 0
 have y1 := (HB.out.ext GC.out).cell 1
 have y2 := (HB.out.ext GC.out).cell 2
 have y3 := (HB.out.ext GC.out).cell 3
 have y4 := (HB.out.ext GC.out).cell 4
 have y5 := (HB.out.ext GC.out).cell 5
 go_upto_region 3 with (go_at_call 35; (with_reducible refine (T2.out).mono ?_); rintro e V2 ⟨rfl, hg⟩; have HV2 := Lib.hid hg; clear hg)
 clear y0 y1 y2 y3 y4 y5
 obtain ⟨W2, hW2⟩ : ∃ W, V2.alloc (.cells #[.int .i64 50, .int .i64 75] 33) = W := ⟨_, rfl⟩
 have gb : Below V2.heap.size V2 W2 := by rw [← hW2]; exact one_more _ _
 have bb : Blk W2 V2.heap.size 33 #[.int .i64 50, .int .i64 75] := by rw [← hW2]; exact Blk.new _ _ _
 obtain ⟨bx2, hbx2⟩ : ∃ b, V2.heap.size = b := ⟨_, rfl⟩
 rw [hbx2] at bb ⊢
 have HX2 := Lib.hid bb
 have HS2 := Lib.hid (show Below W1.heap.size W1 W2 from HV2.out.trans (gb.mono HV2.out.size))
 have HW2 := Lib.hid hW2
 clear gb bb hW2 hbx2
 rw [HW2.out]
 have GC := Lib.hid (GC.out.trans (HS2.out.mono GC.out.size))
 have T3 := Lib.hid (show Calls Tryz.prog 55 #[plv exP A1 A2 A3 3 3 4 4 2 2, .int .i64 3, .int .i64 5] W2 (fun e w' => e = .returned (.tuple #[.agg #[.int .i64 15, .int .i64 35], .int .i64 0]) ∧ Below W2.heap.size W2 w') by
  have t := cartedP_any exP A1 A2 A3 3 3 4 4 2 2 3 5 W2 (HPA.out.below GC.out) h19
  rw [ex2.1, ex2.2] at t
  exact t)
 have y0 := (HB.out.ext GC.out).cell 0
 have y1 := (HB.out.ext GC.out).cell 1
 have y2 := (HB.out.ext GC.out).cell 2
 have y3 := (HB.out.ext GC.out).cell 3
 have y4 := (HB.out.ext GC.out).cell 4
 have y5 := (HB.out.ext GC.out).cell 5
 go_upto_region 4 with (go_at_call 55; (with_reducible refine (T3.out).mono ?_); rintro e V3 ⟨rfl, hg⟩; have HV3 := Lib.hid hg; clear hg)
 clear y0 y1 y2 y3 y4 y5
 obtain ⟨W3, hW3⟩ : ∃ W, V3.alloc (.cells #[.int .i64 15, .int .i64 35] 33) = W := ⟨_, rfl⟩
 have gb : Below V3.heap.size V3 W3 := by rw [← hW3]; exact one_more _ _
 have bb : Blk W3 V3.heap.size 33 #[.int .i64 15, .int .i64 35] := by rw [← hW3]; exact Blk.new _ _ _
 obtain ⟨bx3, hbx3⟩ : ∃ b, V3.heap.size = b := ⟨_, rfl⟩
 rw [hbx3] at bb ⊢
 have HX3 := Lib.hid bb
 have HS3 := Lib.hid (show Below W2.heap.size W2 W3 from HV3.out.trans (gb.mono HV3.out.size))
 have HW3 := Lib.hid hW3
 clear gb bb hW3 hbx3
 rw [HW3.out]
 have HX2 := Lib.hid (HX2.out.ext HS3.out)
 have GC := Lib.hid (GC.out.trans (HS3.out.mono GC.out.size))
 have T4 := Lib.hid (show Calls Tryz.prog 36 #[plv exP A1 A2 A3 3 3 4 4 2 2, .int .i64 58, .int .i64 4] W3 (fun e w' => e = .returned (.tuple #[.int .i64 2, .int .i64 0]) ∧ Below W3.heap.size W3 w') by
  have t := clear_any exP A1 A2 A3 3 3 4 4 2 2 58 4 W3 (HPA.out.below GC.out) h19
  rw [ex3.1, ex3.2] at t
  exact t)
 have y0 := (HB.out.ext GC.out).cell 0
 have y1 := (HB.out.ext GC.out).cell 1
 have y2 := (HB.out.ext GC.out).cell 2
 have y3 := (HB.out.ext GC.out).cell 3
 have y4 := (HB.out.ext GC.out).cell 4
 have y5 := (HB.out.ext GC.out).cell 5
 go_upto_region 5 with (go_at_call 36; (with_reducible refine (T4.out).mono ?_); rintro e V4 ⟨rfl, hg⟩; have HV4 := Lib.hid hg; clear hg)
 clear y0 y1 y2 y3 y4 y5
 obtain ⟨W4, hW4⟩ : ∃ W, V4 = W := ⟨_, rfl⟩
 rw [hW4] at HV4 ⊢
 have HS4 := HV4
 clear hW4
 have HX2 := Lib.hid (HX2.out.ext HS4.out)
 have HX3 := Lib.hid (HX3.out.ext HS4.out)
 have GC := Lib.hid (GC.out.trans (HS4.out.mono GC.out.size))
 have T5 := Lib.hid (show Calls Tryz.prog 23 #[plv exP A1 A2 A3 3 3 4 4 2 2, .int .i64 5] W4 (fun e w' => e = .returned (.tuple #[.agg #[.int .i64 58, .int .i64 100000], .int .i64 0]) ∧ Below W4.heap.size W4 w') by
  have t := first'_any exP A1 A2 A3 3 3 4 4 2 2 5 W4 (HPA.out.below GC.out) h19
  rw [ex4.1, ex4.2] at t
  exact t)
 have y0 := (HB.out.ext GC.out).cell 0
 have y1 := (HB.out.ext GC.out).cell 1
 have y2 := (HB.out.ext GC.out).cell 2
 have y3 := (HB.out.ext GC.out).cell 3
 have y4 := (HB.out.ext GC.out).cell 4
 have y5 := (HB.out.ext GC.out).cell 5
 go_upto_region 6 with (go_at_call 23; (with_reducible refine (T5.out).mono ?_); rintro e V5 ⟨rfl, hg⟩; have HV5 := Lib.hid hg; clear hg)
 clear y0 y1 y2 y3 y4 y5
 obtain ⟨W5, hW5⟩ : ∃ W, V5.alloc (.cells #[.int .i64 58, .int .i64 100000] 33) = W := ⟨_, rfl⟩
 have gb : Below V5.heap.size V5 W5 := by rw [← hW5]; exact one_more _ _
 have bb : Blk W5 V5.heap.size 33 #[.int .i64 58, .int .i64 100000] := by rw [← hW5]; exact Blk.new _ _ _
 obtain ⟨bx5, hbx5⟩ : ∃ b, V5.heap.size = b := ⟨_, rfl⟩
 rw [hbx5] at bb ⊢
 have HX5 := Lib.hid bb
 have HS5 := Lib.hid (show Below W4.heap.size W4 W5 from HV5.out.trans (gb.mono HV5.out.size))
 have HW5 := Lib.hid hW5
 clear gb bb hW5 hbx5
 rw [HW5.out]
 have HX2 := Lib.hid (HX2.out.ext HS5.out)
 have HX3 := Lib.hid (HX3.out.ext HS5.out)
 have GC := Lib.hid (GC.out.trans (HS5.out.mono GC.out.size))
 have T6 := Lib.hid (show Calls Tryz.prog 20 #[plv exP A1 A2 A3 3 3 4 4 2 2, .int .i64 61, .int .i64 6] W5 (fun e w' => e = .returned (.tuple #[.bool false, .int .i64 0]) ∧ Below W5.heap.size W5 w') by
  have t := shutP_any exP A1 A2 A3 3 3 4 4 2 2 61 6 W5 (HPA.out.below GC.out) h19
  rw [ex5.1, ex5.2] at t
  exact t)
 have y0 := (HB.out.ext GC.out).cell 0
 have y1 := (HB.out.ext GC.out).cell 1
 have y2 := (HB.out.ext GC.out).cell 2
 have y3 := (HB.out.ext GC.out).cell 3
 have y4 := (HB.out.ext GC.out).cell 4
 have y5 := (HB.out.ext GC.out).cell 5
 go_upto_region 7 with (go_at_call 20; (with_reducible refine (T6.out).mono ?_); rintro e V6 ⟨rfl, hg⟩; have HV6 := Lib.hid hg; clear hg)
 clear y0 y1 y2 y3 y4 y5
 obtain ⟨W6, hW6⟩ : ∃ W, V6 = W := ⟨_, rfl⟩
 rw [hW6] at HV6 ⊢
 have HS6 := HV6
 clear hW6
 have HX2 := Lib.hid (HX2.out.ext HS6.out)
 have HX3 := Lib.hid (HX3.out.ext HS6.out)
 have HX5 := Lib.hid (HX5.out.ext HS6.out)
 have GC := Lib.hid (GC.out.trans (HS6.out.mono GC.out.size))
 have T7 := Lib.hid (show Calls Tryz.prog 18 #[plv exP A1 A2 A3 3 3 4 4 2 2, .int .i64 61, .int .i64 5] W6 (fun e w' => e = .returned (.tuple #[.int .i64 2, .int .i64 0]) ∧ Below W6.heap.size W6 w') by
  have t := openP_any exP A1 A2 A3 3 3 4 4 2 2 61 5 W6 (HPA.out.below GC.out) h19
  rw [ex6.1, ex6.2] at t
  exact t)
 have y0 := (HB.out.ext GC.out).cell 0
 have y1 := (HB.out.ext GC.out).cell 1
 have y2 := (HB.out.ext GC.out).cell 2
 have y3 := (HB.out.ext GC.out).cell 3
 have y4 := (HB.out.ext GC.out).cell 4
 have y5 := (HB.out.ext GC.out).cell 5
 go_upto_region 8 with (go_at_call 18; (with_reducible refine (T7.out).mono ?_); rintro e V7 ⟨rfl, hg⟩; have HV7 := Lib.hid hg; clear hg)
 clear y0 y1 y2 y3 y4 y5
 obtain ⟨W7, hW7⟩ : ∃ W, V7 = W := ⟨_, rfl⟩
 rw [hW7] at HV7 ⊢
 have HS7 := HV7
 clear hW7
 have HX2 := Lib.hid (HX2.out.ext HS7.out)
 have HX3 := Lib.hid (HX3.out.ext HS7.out)
 have HX5 := Lib.hid (HX5.out.ext HS7.out)
 have GC := Lib.hid (GC.out.trans (HS7.out.mono GC.out.size))
 have T8 := Lib.hid (show Calls Tryz.prog 18 #[plv exP A1 A2 A3 3 3 4 4 2 2, .int .i64 105, .int .i64 6] W7 (fun e w' => e = .returned (.tuple #[.int .i64 1, .int .i64 0]) ∧ Below W7.heap.size W7 w') by
  have t := openP_any exP A1 A2 A3 3 3 4 4 2 2 105 6 W7 (HPA.out.below GC.out) h19
  rw [ex7.1, ex7.2] at t
  exact t)
 have y0 := (HB.out.ext GC.out).cell 0
 have y1 := (HB.out.ext GC.out).cell 1
 have y2 := (HB.out.ext GC.out).cell 2
 have y3 := (HB.out.ext GC.out).cell 3
 have y4 := (HB.out.ext GC.out).cell 4
 have y5 := (HB.out.ext GC.out).cell 5
 go_upto_region 9 with (go_at_call 18; (with_reducible refine (T8.out).mono ?_); rintro e V8 ⟨rfl, hg⟩; have HV8 := Lib.hid hg; clear hg)
 clear y0 y1 y2 y3 y4 y5
 obtain ⟨W8, hW8⟩ : ∃ W, V8 = W := ⟨_, rfl⟩
 rw [hW8] at HV8 ⊢
 have HS8 := HV8
 clear hW8
 have HX2 := Lib.hid (HX2.out.ext HS8.out)
 have HX3 := Lib.hid (HX3.out.ext HS8.out)
 have HX5 := Lib.hid (HX5.out.ext HS8.out)
 have GC := Lib.hid (GC.out.trans (HS8.out.mono GC.out.size))
 have T9 := Lib.hid (show Calls Tryz.prog 18 #[plv exP A1 A2 A3 3 3 4 4 2 2, .int .i64 106, .int .i64 6] W8 (fun e w' => e = .returned (.tuple #[.int .i64 0, .int .i64 0]) ∧ Below W8.heap.size W8 w') by
  have t := openP_any exP A1 A2 A3 3 3 4 4 2 2 106 6 W8 (HPA.out.below GC.out) h19
  rw [ex8.1, ex8.2] at t
  exact t)
 have y0 := (HB.out.ext GC.out).cell 0
 have y1 := (HB.out.ext GC.out).cell 1
 have y2 := (HB.out.ext GC.out).cell 2
 have y3 := (HB.out.ext GC.out).cell 3
 have y4 := (HB.out.ext GC.out).cell 4
 have y5 := (HB.out.ext GC.out).cell 5
 go_upto_region 10 with (go_at_call 18; (with_reducible refine (T9.out).mono ?_); rintro e V9 ⟨rfl, hg⟩; have HV9 := Lib.hid hg; clear hg)
 clear y0 y1 y2 y3 y4 y5
 obtain ⟨W9, hW9⟩ : ∃ W, V9 = W := ⟨_, rfl⟩
 rw [hW9] at HV9 ⊢
 have HS9 := HV9
 clear hW9
 have HX2 := Lib.hid (HX2.out.ext HS9.out)
 have HX3 := Lib.hid (HX3.out.ext HS9.out)
 have HX5 := Lib.hid (HX5.out.ext HS9.out)
 have GC := Lib.hid (GC.out.trans (HS9.out.mono GC.out.size))
 have T10 := Lib.hid (show Calls Tryz.prog 39 #[plv exP A1 A2 A3 3 3 4 4 2 2, .int .i64 9] W9 (fun e w' => (∃ D m c, e = .returned (.tuple #[.slice D m c, .int .i64 0]) ∧ Ints w' D m [2, 11, 14]) ∧ Below W9.heap.size W9 w') by
  have t := clash_any exP A1 A2 A3 3 3 4 4 2 2 9 W9 (HPA.out.below GC.out) h19
  rw [ex9.1, ex9.2] at t
  exact t)
 have y0 := (HB.out.ext GC.out).cell 0
 have y1 := (HB.out.ext GC.out).cell 1
 have y2 := (HB.out.ext GC.out).cell 2
 have y3 := (HB.out.ext GC.out).cell 3
 have y4 := (HB.out.ext GC.out).cell 4
 have y5 := (HB.out.ext GC.out).cell 5
 go_upto_region 11 with (go_at_call 39; (with_reducible refine (T10.out).mono ?_); rintro e V10 ⟨⟨D10, m10, c10, rfl, hi⟩, hg⟩; have HL10 := Lib.hid hi; clear hi; have HV10 := Lib.hid hg; clear hg)
 clear y0 y1 y2 y3 y4 y5
 obtain ⟨W10, hW10⟩ : ∃ W, V10 = W := ⟨_, rfl⟩
 rw [hW10] at HV10 ⊢
 rw [hW10] at HL10
 have HS10 := HV10
 clear hW10
 have HX2 := Lib.hid (HX2.out.ext HS10.out)
 have HX3 := Lib.hid (HX3.out.ext HS10.out)
 have HX5 := Lib.hid (HX5.out.ext HS10.out)
 have GC := Lib.hid (GC.out.trans (HS10.out.mono GC.out.size))
 have T11 := Lib.hid (show Calls Tryz.prog 45 #[plv exP A1 A2 A3 3 3 4 4 2 2, .int .i64 11, .int .i64 2] W10 (fun e w' => (∃ D m c, e = .returned (.tuple #[.slice D m c, .int .i64 0]) ∧ Ints w' D m [30, 35, 58]) ∧ Below W10.heap.size W10 w') by
  have t := moved_any exP A1 A2 A3 3 3 4 4 2 2 11 2 W10 (HPA.out.below GC.out) h19
  rw [ex10.1, ex10.2] at t
  exact t)
 have y0 := (HB.out.ext GC.out).cell 0
 have y1 := (HB.out.ext GC.out).cell 1
 have y2 := (HB.out.ext GC.out).cell 2
 have y3 := (HB.out.ext GC.out).cell 3
 have y4 := (HB.out.ext GC.out).cell 4
 have y5 := (HB.out.ext GC.out).cell 5
 go_upto_region 12 with (go_at_call 45; (with_reducible refine (T11.out).mono ?_); rintro e V11 ⟨⟨D11, m11, c11, rfl, hi⟩, hg⟩; have HL11 := Lib.hid hi; clear hi; have HV11 := Lib.hid hg; clear hg)
 clear y0 y1 y2 y3 y4 y5
 obtain ⟨W11, hW11⟩ : ∃ W, V11 = W := ⟨_, rfl⟩
 rw [hW11] at HV11 ⊢
 rw [hW11] at HL11
 have HS11 := HV11
 clear hW11
 have HX2 := Lib.hid (HX2.out.ext HS11.out)
 have HX3 := Lib.hid (HX3.out.ext HS11.out)
 have HX5 := Lib.hid (HX5.out.ext HS11.out)
 have HL10 := Lib.hid (HL10.out.below HS11.out)
 have GC := Lib.hid (GC.out.trans (HS11.out.mono GC.out.size))
 go_upto_region 13 with fail
 have u2 := HX2.out.cell 0
 have v2 := HX2.out.cell 1
 have u3 := HX3.out.cell 0
 have v3 := HX3.out.cell 1
 have u5 := HX5.out.cell 0
 have v5 := HX5.out.cell 1
 have eq1 := fun w => eqlRg ⟨50, 75⟩ ⟨50, 75⟩ w
 have eq2 := fun w => eqlRg ⟨15, 35⟩ ⟨15, 35⟩ w
 have eq3 := fun w => eqlRg ⟨58, 100000⟩ ⟨58, 100000⟩ w
 go_upto_region 14 with fail
 clear eq1 eq2 eq3 u2 v2 u3 v3 u5 v5
 have hm10 := HL10.out.1
 have hm11 := HL11.out.1
 have T41 := Lib.hid (fun V (g : Below W11.heap.size W11 V) (B : Option Addr) d (i : Ints V B 3 [2, 11, 14]) => same_any D10 B m10 c10 3 d [2, 11, 14] [2, 11, 14] V (HL10.out.below g) i (by rw [← hm10]; decide) (by decide))
 have T42 := Lib.hid (fun V (g : Below W11.heap.size W11 V) (B : Option Addr) d (i : Ints V B 3 [30, 35, 58]) => same_any D11 B m11 c11 3 d [30, 35, 58] [30, 35, 58] V (HL11.out.below g) i (by rw [← hm11]; decide) (by decide))
 rw [show sameL [2, 11, 14] [2, 11, 14] = true from rfl] at T41
 rw [show sameL [30, 35, 58] [30, 35, 58] = true from rfl] at T42
 have I1 := Lib.hid (Blk.intsN (l := [2, 11, 14]) (n := 3) (Blk.new W11 3 #[.int .i64 2, .int .i64 11, .int .i64 14]) rfl)
 clear hm10 hm11
 go_wp2_with fail
 refine (T41.out _ (one_more _ _) _ _ I1.out).mono ?_
 rintro e X1 ⟨rfl, hg⟩
 have GX1 := Lib.hid ((one_more W11 (.cells #[.int .i64 2, .int .i64 11, .int .i64 14] 3)).trans (hg.mono (by simp)))
 have I2 := Lib.hid (Blk.intsN (l := [30, 35, 58]) (n := 3) (Blk.new X1 3 #[.int .i64 30, .int .i64 35, .int .i64 58]) rfl)
 clear hg
 go_wp2_with fail
 refine (T42.out _ (GX1.out.trans ((one_more _ _).mono GX1.out.size)) _ _ I2.out).mono ?_
 rintro e X2 ⟨rfl, hg⟩
 have GX2 := Lib.hid (GX1.out.trans (((one_more X1 (.cells #[.int .i64 30, .int .i64 35, .int .i64 58] 3)).trans (hg.mono (by simp))).mono GX1.out.size))
 clear hg
 go_wp2_with fail
 go_ret
 exact ⟨rfl, GA.out.trans ((GC.out.trans (GX2.out.mono GC.out.size)).mono GA.out.size)⟩
end Go.Proofs.YtkoejeghihcmlaaGreat
namespace Go.Proofs.YtkoejeghihcmlaaGreat
open Go.RowKit Go.Shelf
/-- What stands while a plot is made. -/
structure Mk (w0 : World) (B b2 b4 b5 b6 b8 : Nat) (raw : Array Value) (lo hi geese left0 : Int) (W : World) (v1 v2 v3 vn : Value) (ls ss ps : List Six) (ns : List Int) : Prop where
 ord : b2 < b4 ∧ b4 < b5 ∧ b5 < b6 ∧ b6 < b8 ∧ b8 < B
 g : Below b2 w0 W
 r : Blk W b2 24 raw
 q4 : Blk W b4 38 #[.int .i64 0, .int .i64 0, .slice none 0 0, .slice none 0 0, .slice none 0 0, .int .i64 0]
 q5 : Blk W b5 41 #[.int .i64 0, .slice none 0 0]
 p : Blk W b6 38 #[.int .i64 lo, .int .i64 hi, v1, v2, v3, .int .i64 geese]
 c : Blk W b8 41 #[.int .i64 left0, vn]
 o1 : OwnL scells 6 103 W B v1 ls
 o2 : OwnL scells 6 105 W B v2 ss
 o3 : OwnL scells 6 107 W B v3 ps
 on : OwnL icells 1 3 W B vn ns
 d12 : ∀ k, v1.ownBlock = some k → v2.ownBlock ≠ some k
 d13 : ∀ k, v1.ownBlock = some k → v3.ownBlock ≠ some k
 d1n : ∀ k, v1.ownBlock = some k → vn.ownBlock ≠ some k
 d23 : ∀ k, v2.ownBlock = some k → v3.ownBlock ≠ some k
 d2n : ∀ k, v2.ownBlock = some k → vn.ownBlock ≠ some k
 d3n : ∀ k, v3.ownBlock = some k → vn.ownBlock ≠ some k
section
variable {w0 : World} {B b2 b4 b5 b6 b8 : Nat} {raw : Array Value} {lo hi geese left0 : Int} {W W2 : World} {v1 v2 v3 vn v' : Value} {ls ss ps : List Six} {ns : List Int}
theorem Mk.ext (h : Mk w0 B b2 b4 b5 b6 b8 raw lo hi geese left0 W v1 v2 v3 vn ls ss ps ns) (k : Below W.heap.size W W2) : Mk w0 B b2 b4 b5 b6 b8 raw lo hi geese left0 W2 v1 v2 v3 vn ls ss ps ns :=
 ⟨h.ord, h.g.trans (k.mono (Nat.le_of_lt h.r.lt)), h.r.ext k, h.q4.ext k, h.q5.ext k, h.p.ext k, h.c.ext k, h.o1.ext k, h.o2.ext k, h.o3.ext k, h.on.ext k, h.d12, h.d13, h.d1n, h.d23, h.d2n, h.d3n⟩
theorem own_lt {α : Type} {f : α → List Value} {size : Nat} {e : TypeId} {w : World} {base : Nat} {v : Value} {xs : List α} (h : OwnL f size e w base v xs) {k : Nat} (hk : v.ownBlock = some k) : base ≤ k ∧ k < w.heap.size := ⟨(own_cells h hk).1, (own_cells h hk).2.1⟩
end
end Go.Proofs.YtkoejeghihcmlaaGreat

namespace Go.Proofs.YtkoejeghihcmlaaGreat
open Go.RowKit Go.Shelf
/-- A number of Go's. -/
def I64 (n : Int) : Prop := -9223372036854775808 ≤ n ∧ n ≤ 9223372036854775807
end Go.Proofs.YtkoejeghihcmlaaGreat

namespace Go.Proofs.YtkoejeghihcmlaaGreat
open Go.RowKit Go.Shelf
theorem first_of {p : Pl} {hours : List Int} {known : Int} (hok : okPl p = true) (hh : ∀ h ∈ hours, 0 ≤ h ∧ h ≤ 99999) (k0 : 0 ≤ known) (k1 : known ≤ 4166) : firstE p hours [known] = 0 := by
 have e1 : hours.any noHour = false := by
  rw [← Bool.not_eq_true, List.any_eq_true]
  rintro ⟨x, hx, hn⟩
  have := hh x hx
  unfold noHour at hn
  rw [rng_of this.1 this.2] at hn
  cases hn
 have e2 : [known].any noDay = false := by
  show (noDay known || false) = false
  unfold noDay
  rw [rng_of k0 k1]; rfl
 unfold firstE
 rw [if_pos hok, e1, e2]
 rfl
theorem stoodR_of {p : Pl} {hour known : Int} (h : askE p [hour] known = 0) : stoodR p hour known = (lookS p known every).getD (after (lookL p known every) hour) zR := by unfold stoodR; rw [if_pos h]
end Go.Proofs.YtkoejeghihcmlaaGreat

namespace Go.Proofs.YtkoejeghihcmlaaGreat
open Go.RowKit Go.Shelf
theorem insH_map {f : Six → Six} (hf : ∀ x, (f x).b = x.b) (x : Six) : ∀ l : List Six, insH (f x) (l.map f) = (insH x l).map f
 | [] => rfl
 | y :: l => by
  rw [List.map_cons]
  unfold insH
  rw [hf, hf]
  split
  ·rfl
  ·rw [insH_map hf x l]; rfl
theorem srtH_map {f : Six → Six} (hf : ∀ x, (f x).b = x.b) (l : List Six) : srtH (l.map f) = (srtH l).map f := by
 have key : ∀ (l out : List Six), (l.map f).foldl (fun out x => insH x out) (out.map f) = (l.foldl (fun out x => insH x out) out).map f := by
  intro l
  induction l with
  | nil => intro out; rfl
  | cons x l ih => intro out; rw [List.map_cons, List.foldl_cons, List.foldl_cons, insH_map hf]; exact ih _
 exact key l []
/-- The loads that count, as they are carted. -/
def cartL (p : Pl) (known : Int) : List Six := srtH (p.loads.filter fun x => cnt x known)
theorem veil_b (m : Int → Bool) (x : Six) : (veil m x).b = x.b := by unfold veil; split <;> rfl
theorem lookL_cart (p : Pl) (known : Int) (m : Int → Bool) : lookL p known m = (cartL p known).map (veil m) := srtH_map (veil_b m) _
theorem cart_every (p : Pl) (known : Int) : lookL p known every = cartL p known := by
 rw [lookL_cart]
 have : veil every = id := by funext x; exact veil_every x
 rw [this, List.map_id]
/-- True numbers by some loads and stands. -/
structure TruBy (p : Pl) (known : Int) (m : Int → Bool) (s : List Int) : Prop where
 len : s.length = (cartL p known).length + 1
 took : ∀ i, i < (cartL p known).length → (veil m ((cartL p known).getD i z6)).c ≤ s.getD i 0 - s.getD (i + 1) 0 ∧ s.getD i 0 - s.getD (i + 1) 0 ≤ (veil m ((cartL p known).getD i z6)).d
 bds : ∀ i, i ≤ (cartL p known).length → (if i = 0 then p.lo else 0) ≤ s.getD i 0 ∧ s.getD i 0 ≤ (if i = 0 then p.hi else 10000)
 stands : ∀ x ∈ p.stands, (cnt x known && m x.a) = true → x.c ≤ s.getD (after (cartL p known) x.b) 0 ∧ s.getD (after (cartL p known) x.b) 0 ≤ x.d
theorem cart_num {p : Pl} (hok : okPl p = true) (known : Int) : ∀ x ∈ cartL p known, Num x := fun x hx => by rw [← cart_every] at hx; exact lookL_num hok known every x hx
theorem TruBy.bd {p : Pl} {known : Int} {m : Int → Bool} {s : List Int} (h : TruBy p known m s) (hok : okPl p = true) {i : Nat} (hi : i ≤ (cartL p known).length) : 0 ≤ s.getD i 0 ∧ s.getD i 0 ≤ 10000 := by
 have h1 := ok_parts hok
 have h2 := h.bds i hi
 by_cases h0 : i = 0
 ·rw [if_pos h0, if_pos h0] at h2; omega
 ·rw [if_neg h0, if_neg h0] at h2; exact h2
theorem veil_yes {m : Int → Bool} {x : Six} (h : m x.a = true) : veil m x = x := by unfold veil; rw [if_pos h]
theorem veil_no {m : Int → Bool} {x : Six} (h : m x.a = false) : (veil m x).c = 0 ∧ (veil m x).d = 10000 := by unfold veil; rw [if_neg (by rw [h]; decide)]; exact ⟨rfl, rfl⟩
theorem veil_wid {m : Int → Bool} {x : Six} (h : Num x) : 0 ≤ (veil m x).c ∧ (veil m x).c ≤ (veil m x).d := by
 have := veil_num (meant := m) h
 unfold Num at this
 exact ⟨this.2.2.1, this.2.2.2.1⟩
/-- Fewer of them contradict less. -/
theorem TruBy.less {p : Pl} {known : Int} {m m' : Int → Bool} {s : List Int} (h : TruBy p known m' s) (hok : okPl p = true) (hm : ∀ x, m x = true → m' x = true) : TruBy p known m s := by
 refine ⟨h.len, fun i hi => ?_, h.bds, fun x hx hc => ?_⟩
 ·have h1 := h.took i hi
  have h2 := h.bd hok (Nat.le_of_lt hi)
  have h3 := h.bd hok (show i + 1 ≤ _ from hi)
  obtain ⟨x, hx⟩ : ∃ x, (cartL p known).getD i z6 = x := ⟨_, rfl⟩
  have hn : Num x := by rw [← hx]; exact cart_num hok known _ (getD_mem hi)
  rw [hx] at h1 ⊢
  cases hc : m x.a with
  | true => rw [veil_yes hc]; rw [veil_yes (hm _ hc)] at h1; exact h1
  | false =>
   obtain ⟨e1, e2⟩ := veil_no (m := m) hc
   have := veil_wid (m := m') hn
   rw [e1, e2]
   omega
 ·rw [Bool.and_eq_true] at hc
  exact h.stands x hx (by rw [hc.1, hm _ hc.2]; rfl)
theorem mem_srt {l : List Int} {x : Int} : x ∈ srt l ↔ x ∈ l := by unfold srt; exact List.mem_mergeSort
theorem srt_up (l : List Int) : (srt l).Pairwise (· ≤ ·) := by
 have := List.pairwise_mergeSort (le := fun x y : Int => decide (x ≤ y)) (fun a b c h1 h2 => by simp at *; omega) (fun a b => by simp; omega) l
 unfold srt
 exact this.imp fun h => of_decide_eq_true h
end Go.Proofs.YtkoejeghihcmlaaGreat

namespace Go.Proofs.YtkoejeghihcmlaaGreat
open Go.RowKit Go.Shelf
theorem rng_iff {n lo hi : Int} : rng n lo hi = true ↔ lo ≤ n ∧ n ≤ hi := by
 unfold rng
 rw [Bool.and_eq_true]
 exact ⟨fun h => ⟨of_decide_eq_true h.1, of_decide_eq_true h.2⟩, fun h => ⟨decide_eq_true h.1, decide_eq_true h.2⟩⟩
theorem isSrc_iff {s : Int} {x : Six} : isSrc s x = true ↔ x.a = s := by unfold isSrc; exact ⟨fun h => of_decide_eq_true h, fun h => decide_eq_true h⟩
end Go.Proofs.YtkoejeghihcmlaaGreat

namespace Go.Proofs.YtkoejeghihcmlaaGreat
open Go.RowKit Go.Shelf
theorem okL_iff {is : Six → Bool} {ks : List Int} {l : List Six} : okL is ks l = true ↔ (∀ j, j < l.length → okAt is ks l j = true) ∧ l.length ≤ 60 := by
 unfold okL
 rw [Bool.and_eq_true, List.all_eq_true, decide_eq_true_eq]
 constructor
 ·rintro ⟨h1, h2⟩; exact ⟨fun j hj => h1 j (List.mem_range.2 hj), h2⟩
 ·rintro ⟨h1, h2⟩; exact ⟨fun j hj => h1 j (List.mem_range.1 hj), h2⟩
/-- A plot that is narrower: the same loads, no more true numbers. -/
structure Nrw (p q : Pl) (known : Int) : Prop where
 ls : lookL q known every = lookL p known every
 okp : okPl p = true
 okq : okPl q = true
 sp : sound (lookS p known every) = true
 sq : sound (lookS q known every) = true
 le : ∀ s, Tru (lookL q known every) (lookS q known every) s → Tru (lookL p known every) (lookS p known every) s
theorem Nrw.bd {p q : Pl} {known : Int} (h : Nrw p q known) {i : Nat} (hi : i ≤ (lookL p known every).length) : Lo (lookS p known every) i ≤ Lo (lookS q known every) i ∧ Hi (lookS q known every) i ≤ Hi (lookS p known every) i := by
 have rq := look_rw h.okq h.sq
 have hs := rq.snd i (by rw [h.ls]; exact hi)
 obtain ⟨s, t1, e1⟩ := rq.attain (i := i) (v := Lo (lookS q known every) i) (by rw [h.ls]; exact hi) (Int.le_refl _) hs
 obtain ⟨s', t2, e2⟩ := rq.attain (i := i) (v := Hi (lookS q known every) i) (by rw [h.ls]; exact hi) hs (Int.le_refl _)
 have a := (h.le s t1).2.2 i hi
 have b := (h.le s' t2).2.2 i hi
 omega
theorem Nrw.stood {p q : Pl} {known hour : Int} (h : Nrw p q known) (hp : askE p [hour] known = 0) (hq : askE q [hour] known = 0) : (stoodR p hour known).lo ≤ (stoodR q hour known).lo ∧ (stoodR q hour known).hi ≤ (stoodR p hour known).hi := by
 rw [stoodR_of hp, stoodR_of hq, h.ls]
 exact h.bd (after_len _ _)
theorem Nrw.froms {p q : Pl} {known : Int} (h : Nrw p q known) : ∀ f ∈ fromsP q known, f ∈ fromsP p known := fun f hf => by
 obtain ⟨s, t, e⟩ := (look_rw h.okq h.sq).mem_froms.1 hf
 refine (look_rw h.okp h.sp).mem_froms.2 ⟨s, h.le s t, ?_⟩
 rw [← e, h.ls]
end Go.Proofs.YtkoejeghihcmlaaGreat

namespace Go.Proofs.YtkoejeghihcmlaaGreat
open Go.ChangeShapes Go.WideShapes Go.ChangeAt Go.RowKit
theorem Tryz.own : ownKnob Tryz.prog.godebug = none := by kernel_rfl
theorem Tryz.laidOut : laidOutB Tryz.prog = true := by kernel_rfl
section
variable {H : Type} {enc : TypeId × Value → H} {P : Program}
/-- The arguments read behind the call as they read before. -/
theorem args_stay (hl : laidOutB P = true) {W W' : World} (hb : Below W.heap.size W W') {sp : Nat → Bool} :
  ∀ {ts : List TypeId} {vs : List Value} {ds : List (DataW H)} {ps : List MemPlace}, (ts.all fun t => P.readableRec t && decide (t < P.types.size)) = true → (∀ x ∈ ps, x.block < W.heap.size) → (∀ x ∈ ps, sp x.block = true) →
   DataW.TrodAll enc P W 0 (fun _ => true) true ts vs ds ps → DataW.TrodAll enc P W' 0 sp true ts vs ds ps
 | [], [], [], ps, _, _, _, h => h
 | t :: ts, v :: vs, d :: ds, ps, ht, hlt, hs, h => by
  obtain ⟨p, q, h1, h2, rfl⟩ := h
  simp only [List.all_cons, Bool.and_eq_true, decide_eq_true_eq] at ht
  exact ⟨p, q, WideElems.Trod_stays hl ht.1.1 ht.1.2 h1 (fun x hx => hb.same (hlt x (List.mem_append_left _ hx))) (fun x hx => hs x (List.mem_append_left _ hx)),
   args_stay hl hb ht.2 (fun x hx => hlt x (List.mem_append_right _ hx)) (fun x hx => hs x (List.mem_append_right _ hx)) h2, rfl⟩
 | [], [], _ :: _, _, _, _, _, h => h.elim
 | [], _ :: _, [], _, _, _, _, h => h.elim
 | [], _ :: _, _ :: _, _, _, _, _, h => h.elim
 | _ :: _, [], [], _, _, _, _, h => h.elim
 | _ :: _, [], _ :: _, _, _, _, _, h => h.elim
 | _ :: _, _ :: _, [], _, _, _, _, h => h.elim
/-- The end of a row: true came back; nothing that was there has turned. -/
theorem law_post {f : Func} {s : ChangeSpec} {apart fresh handsOn again : Bool} {W W' : World} {args : Array Value} {ds : List (DataW H)} {before : List MemPlace} (hl : laidOutB P = true)
  (hW : DataW.Whole enc P f.params.toList s.vars apart W args.toList ds [] before) (hA : DataW.TrodAll enc P W 0 (fun _ => true) true f.params.toList args.toList ds before) (hv : s.vars = [])
  (hrt : f.resultTypes = #[4]) (h4 : P.underlying 4 = some .bool) (hres : (s.fn H (ds ++ [])).results = [.lit (.bool true)]) (hargs : (s.fn H (ds ++ [])).args = ds) (hvars : (s.fn H (ds ++ [])).vars = [])
  (hp : (f.params.toList.all fun t => P.readableRec t && decide (t < P.types.size)) = true) (hb : Below W.heap.size W W') : s.post enc P f apart fresh handsOn again W args (.bool true) W' := by
 have hlt : ∀ p ∈ before, p.block < W.heap.size := fun p hp => hW.lt p hp
 have hA' : ∀ sp : Nat → Bool, (∀ p ∈ before, sp p.block = true) → DataW.TrodAll enc P W' 0 sp true f.params.toList args.toList (s.fn H (ds ++ [])).args before :=
  fun sp hsp => by rw [hargs]; exact args_stay hl hb hp hlt hsp hA
 have hV' : ∀ sp : Nat → Bool, DataW.TrodVars enc P W' sp s.vars (s.fn H (ds ++ [])).vars [] := fun sp => by rw [hv, hvars]; rfl
 have hR : ∀ (b : Nat) (sp : Nat → Bool) (hd : Bool), DataW.TrodAll enc P W' b sp hd f.resultTypes.toList ((Value.bool true).resultList f.resultTypes.size) (s.fn H (ds ++ [])).results [] := fun b sp hd => by
  rw [hres, hrt]; exact trodAll_mk1 (shut_bool h4 _)
 have hold : ∀ p ∈ before, (fun b => decide (b < W.heap.size)) p.block = true := fun p hp => by simpa using hlt p hp
 refine ⟨ds, [], before, [], before, [], hW, hR _ _ _, hA' _ hold, hV' _, World.keptBut_mono (fun p hp => ⟨hp, .inr (.inl hp)⟩) (hb.frame (· ∈ before)), fun _ => ?_⟩
 obtain ⟨_, _, _, _, _, hz, hn⟩ := hW
 refine ⟨?_, _, _, ([] ++ before) ++ [], ⟨[] ++ before, [], trodAll_append (hA' _ (fun _ _ => rfl)) (hR _ _ _), hV' _, rfl, ?_, ?_⟩, ?_⟩
 ·intro j t r hj hr
  exact ok_one hrt rfl (okWide_bool_mk h4 _) j t r hj hr
 ·intro b off hp
  have hin : MemPlace.cell b off ∈ before := by simpa using hp
  rw [hb.frozen (hlt _ hin)]
  exact hz b off hin
 ·intro ha
  have := hn ha
  simpa using this
 ·intro p hp _
  simpa using hp
end
theorem cells3 : Tryz.prog.cellsOf 3 = 1 := by kernel_rfl
section
variable {H : Type} {enc : TypeId × Value → H} {w : World} {base : Nat} {sp : Nat → Bool} {held : Bool} {fuel : Nat} {cs : List Value} {x : DataW H × List MemPlace}
theorem openInt (h : DataW.trod enc Tryz.prog w base sp held fuel 3 cs = some x) : ∃ a : Int, cs = [.int .i64 a] ∧ -9223372036854775808 ≤ a ∧ a ≤ 9223372036854775807 := by
 obtain ⟨a, ha, -, hw⟩ := DataW.trod_int Tryz.underlying3 h
 refine ⟨a, ha, ?_⟩
 have := hw
 simp [Lit.wf, IntKind.min, IntKind.max, IntKind.signed, IntKind.bits] at this
 omega
/-- A slice whose elements are known reads as a list. -/
theorem openSlice {α : Type} [Inhabited α] {f : α → List Value} {size : Nat} {t e : TypeId} (ht : Tryz.prog.underlying t = some (.slice e)) (he : Tryz.prog.cellsOf e = size) (hs : 0 < size)
  (hel : ∀ fuel cs x, DataW.trod enc Tryz.prog w base sp held fuel e cs = some x → ∃ a, cs = f a) (h : DataW.trod enc Tryz.prog w base sp held fuel t cs = some x) :
  ∃ A n c xs, cs = [.slice A n c] ∧ n ≤ c ∧ c ≤ maxLen ∧ Arr f size w A n xs := by
 rcases DataW.trod_slice ht h with ⟨h0, -⟩ | ⟨a, len, cap, elems, rest, n, -, rfl, -, hb, hl, hm, hlen, hel1, -, -⟩
 ·exact ⟨none, 0, 0, [], h0, Nat.le_refl _, Nat.zero_le _, Arr.nil_⟩
 ·have each : ∀ i, i < len → ∃ y, w.cells? base (a.add (i * size)) size = some (f y) := by
   intro i hi
   have h1 := hel1 i hi
   rw [List.getElem?_eq_getElem (by omega), he] at h1
   obtain ⟨cs', h2, h3⟩ := Option.bind_eq_some_iff.1 h1
   obtain ⟨y, rfl⟩ := hel _ _ _ h3
   exact ⟨y, h2⟩
  obtain ⟨q, hq⟩ := Go.Deep.choose_lt each
  refine ⟨some a, len, cap, (List.range len).map q, rfl, hl, hm, by simp, fun hn => ?_⟩
  obtain ⟨b, o, spot⟩ := a
  have h0 := World.cells?_some (hq 0 hn)
  have hne : ∃ c0, (f (q 0))[0]? = some c0 := ⟨_, List.getElem?_eq_getElem (by rw [h0.2.1]; exact hs)⟩
  obtain ⟨c0, hc0⟩ := hne
  have g0 := h0.2.2 0 hs
  rw [hc0] at g0
  have hspot : spot = none := by simpa [Addr.add] using World.cell?_spot g0
  subst hspot
  have hbl := World.block_lt_of_cell? w _ g0
  simp only [Nat.zero_mul, add_at, Nat.add_zero] at hbl
  refine ⟨b, o, rfl, hbl, fun k y hy j u hu => ?_⟩
  have hk : k < len := by have := (List.getElem?_eq_some_iff.1 hy).1; simpa using this
  have ey : y = q k := by rw [List.getElem?_map, List.getElem?_range hk] at hy; simpa using hy.symm
  subst ey
  have hk2 := World.cells?_some (hq k hk)
  have hj : j < size := by rw [← hk2.2.1]; exact (List.getElem?_eq_some_iff.1 hu).1
  have := hk2.2.2 j hj
  rw [add_at, add_at, hu] at this
  exact this
instance : Inhabited {q : Q4 // I64 q.a ∧ I64 q.b ∧ I64 q.c ∧ I64 q.d} := ⟨⟨z4, by unfold I64; decide⟩⟩
variable {r : Reach} {b0 : Nat} {v : Value} {d : DataW H} {p : List MemPlace}
set_option maxRecDepth 100000 in
theorem openIntV (hv : Value.okWide Tryz.prog w r b0 3 v) (h : DataW.Trod enc Tryz.prog w base sp held 3 v d p) : ∃ a : Int, v = .int .i64 a ∧ -9223372036854775808 ≤ a ∧ a ≤ 9223372036854775807 := by
 obtain ⟨n, rfl, -⟩ := okWide_int Tryz.underlying3 hv
 obtain ⟨fuel, hf⟩ := h
 obtain ⟨a, e, h1⟩ := openInt hf
 simp [Value.cells] at e
 subst e
 exact ⟨n, rfl, h1⟩
end
end Go.Proofs.YtkoejeghihcmlaaGreat
