/- Copies of plots, and what is left without a source. -/
import Derived.Test.YtkoejeghihcmlaaGreatMF
import Derived.Test.YtkoejeghihcmlaaGreatME
namespace Go.Proofs.YtkoejeghihcmlaaGreat
open Go.RowKit Go.Shelf

/-- A copy's lists are its own. -/
structure Cp (w : World) (B : Nat) (p : Pl) (v1 v2 v3 : Value) : Prop where
  l1 : OwnL scells 6 103 w B v1 p.loads
  l2 : OwnL scells 6 105 w B v2 p.stands
  l3 : OwnL scells 6 107 w B v3 p.spells
  d12 : ∀ k, v1.ownBlock = some k → v2.ownBlock ≠ some k
  d13 : ∀ k, v1.ownBlock = some k → v3.ownBlock ≠ some k
  d23 : ∀ k, v2.ownBlock = some k → v3.ownBlock ≠ some k
abbrev plw (p : Pl) (v1 v2 v3 : Value) : Array Value := #[.int .i64 p.lo, .int .i64 p.hi, v1, v2, v3, .int .i64 p.geese]

theorem Cp.far {w : World} {B : Nat} {p : Pl} {v1 v2 v3 : Value} (h : Cp w B p v1 v2 v3) {a : Addr} (ha : a.block < B) (u : Value) : Cp (w.setCell a u) B p v1 v2 v3 := ⟨h.l1.far ha u, h.l2.far ha u, h.l3.far ha u, h.d12, h.d13, h.d23⟩
theorem Cp.mono {w : World} {B B' : Nat} {p : Pl} {v1 v2 v3 : Value} (h : Cp w B p v1 v2 v3) (hb : B' ≤ B) : Cp w B' p v1 v2 v3 := ⟨h.l1.mono hb, h.l2.mono hb, h.l3.mono hb, h.d12, h.d13, h.d23⟩
set_option maxRecDepth 100000 in
set_option maxHeartbeats 4000000 in
theorem copied_any (p : Pl) (A1 A2 A3 : Option Addr) (n1 c1 n2 c2 n3 c3 : Nat) (w : World) (hp : Pa w p A1 A2 A3 n1 c1 n2 c2 n3 c3) (hn : n1 ≤ 1000 ∧ n2 ≤ 1000 ∧ n3 ≤ 1000) :
    Calls Tryz.prog 132 #[plv p A1 A2 A3 n1 c1 n2 c2 n3 c3] w fun e w' => (∃ v1 v2 v3, e = .returned (.agg (plw p v1 v2 v3)) ∧ Cp w' w.heap.size p v1 v2 v3) ∧ Below w.heap.size w w' := by
  obtain ⟨W1, hW1⟩ : ∃ W1, (w.alloc (.cells (plb p A1 A2 A3 n1 c1 n2 c2 n3 c3) 38)).alloc (.cells #[.int .i64 0, .int .i64 0, .slice none 0 0, .slice none 0 0, .slice none 0 0, .int .i64 0] 38) = W1 := ⟨_, rfl⟩
  have g1 : Below w.heap.size w W1 := by rw [← hW1]; exact two_more _ _ _
  have b1 : Blk W1 w.heap.size 38 (plb p A1 A2 A3 n1 c1 n2 c2 n3 c3) := by rw [← hW1]; exact (Blk.new _ _ _).alloc _
  have b2 : Blk W1 (w.heap.size + 1) 38 #[.int .i64 0, .int .i64 0, .slice none 0 0, .slice none 0 0, .slice none 0 0, .int .i64 0] := by
    rw [← hW1]
    have := Blk.new (w.alloc (.cells (plb p A1 A2 A3 n1 c1 n2 c2 n3 c3) 38)) 38 #[.int .i64 0, .int .i64 0, .slice none 0 0, .slice none 0 0, .slice none 0 0, .int .i64 0]
    rw [World.size_alloc] at this
    exact this
  have hz := g1.size
  have T1 := Lib.hid (fun W (g : Below W1.heap.size W1 W) => cloneL_any A1 n1 c1 p.loads W ((hp.l1.below g1).below g) (by omega))
  have T2 := Lib.hid (fun W (g : Below W1.heap.size W1 W) => cloneS_any A2 n2 c2 p.stands W ((hp.l2.below g1).below g) (by omega))
  have T3 := Lib.hid (fun W (g : Below W1.heap.size W1 W) => cloneP_any A3 n3 c3 p.spells W ((hp.l3.below g1).below g) (by omega))
  have G1 := Lib.hid g1
  have HB1 := Lib.hid b1
  have HB2 := Lib.hid b2
  have HW1 := Lib.hid hW1
  have hbl := b1.lt
  clear hp g1 b1 b2 hW1 hn
  go_enter Tryz.func132, Tryz.ntmps132
  go_upto_region 1 with fail
  rw [HW1.out]
  obtain ⟨bx, hbx⟩ : ∃ bx, w.heap.size = bx := ⟨_, rfl⟩
  rw [hbx] at HB1 HB2 G1 hz hbl ⊢
  have hb2l := HB2.out.lt
  have HBX := Lib.hid hbx
  clear hbx
  have k1 := HB1.out.cell 2
  have k2 := HB1.out.cell 3
  have k3 := HB1.out.cell 4
  have f1 := HB1.out.frozen 2
  have f2 := HB1.out.frozen 3
  have f3 := HB1.out.frozen 4
  go_cut [] from 3 to 14 (fun wx => ∃ v1 v2 v3, Blk wx bx 38 (plw p v1 v2 v3) ∧ Cp wx (bx + 2) p v1 v2 v3 ∧ Below bx w wx ∧ Blk wx (bx + 1) 38 #[.int .i64 0, .int .i64 0, .slice none 0 0, .slice none 0 0, .slice none 0 0, .int .i64 0])
  case first =>
    go_region_with (first
      | (go_at_call 195; (with_reducible refine (T1.out _ (Below.refl _ _).drew).mono ?_); rintro e W8 ⟨⟨vL, rfl, oL⟩, g8⟩; obtain ⟨A8, c8, hv8, -⟩ := OwnL.arr kdL oL; subst hv8; have O8 := Lib.hid oL; have G8 := Lib.hid (show Below W1.heap.size W1 W8 from ((Below.refl _ _).drew).trans (g8.mono (Nat.le_refl _))); have B8 := Lib.hid (HB1.out.ext G8.out); have j2 := B8.out.cell 3; have j3 := B8.out.cell 4; clear oL g8)
      | (go_at_call 196; (with_reducible refine (T2.out _ G8.out).mono ?_); rintro e W9 ⟨⟨vS, rfl, oS⟩, g9⟩; obtain ⟨A9, c9, hv9, -⟩ := OwnL.arr kdS oS; subst hv9; have O9 := Lib.hid oS; have G9 := Lib.hid (G8.out.trans (g9.mono G8.out.size)); have B9 := Lib.hid (HB1.out.ext G9.out); have HG9 := Lib.hid g9; have i3 := B9.out.cell 4; clear oS g9)
      | (go_at_call 197; (with_reducible refine (T3.out _ G9.out).mono ?_); rintro e WA ⟨⟨vP, rfl, oP⟩, gA⟩; obtain ⟨AA, cA, hvA, -⟩ := OwnL.arr kdP oP; subst hvA; have OA := Lib.hid oP; have GA := Lib.hid (G9.out.trans (gA.mono G9.out.size)); have BA := Lib.hid (HB1.out.ext GA.out); have HGA := Lib.hid gA; have h1 := BA.out.cell 2; have h2 := BA.out.cell 3; have h3 := BA.out.cell 4; have e1 := BA.out.frozen 2; have e2 := BA.out.frozen 3; have e3 := BA.out.frozen 4; clear oP gA))
    all_goals (try go_wp2_with fail)
    all_goals go_meet
    all_goals
      have hs1 := G8.out.size
      have hs2 := HG9.out.size
      have hs3 := HGA.out.size
      have D8 := fun k e => World.ownsRow.lt O8.out k e
      have D9 := fun k e => World.ownsRow.lt O9.out k e
      have L8 := fun k (e : _ = some k) => (own_cells O8.out e).1
      have L9 := fun k (e : _ = some k) => (own_cells O9.out e).1
      have LA := fun k (e : _ = some k) => (own_cells OA.out e).1
      have P1 := (((((O8.out.ext HG9.out).ext HGA.out).far (p := ⟨bx, 2, none⟩) (show bx < W1.heap.size from hbl) (.slice A8 p.loads.length c8)).far (p := ⟨bx, 3, none⟩) (show bx < W1.heap.size from hbl) (.slice A9 p.stands.length c9)).far (p := ⟨bx, 4, none⟩) (show bx < W1.heap.size from hbl) (.slice AA p.spells.length cA)).mono (base' := bx + 2) (show bx + 2 ≤ W1.heap.size by omega)
      have P2 := ((((O9.out.ext HGA.out).far (p := ⟨bx, 2, none⟩) (show bx < W8.heap.size by omega) (.slice A8 p.loads.length c8)).far (p := ⟨bx, 3, none⟩) (show bx < W8.heap.size by omega) (.slice A9 p.stands.length c9)).far (p := ⟨bx, 4, none⟩) (show bx < W8.heap.size by omega) (.slice AA p.spells.length cA)).mono (base' := bx + 2) (show bx + 2 ≤ W8.heap.size by omega)
      have P3 := (((OA.out.far (p := ⟨bx, 2, none⟩) (show bx < W9.heap.size by omega) (.slice A8 p.loads.length c8)).far (p := ⟨bx, 3, none⟩) (show bx < W9.heap.size by omega) (.slice A9 p.stands.length c9)).far (p := ⟨bx, 4, none⟩) (show bx < W9.heap.size by omega) (.slice AA p.spells.length cA)).mono (base' := bx + 2) (show bx + 2 ≤ W9.heap.size by omega)
      refine ⟨_, _, _, ((BA.out.set_ 2 _).set_ 3 _).set_ 4 _, ⟨P1, P2, P3, fun k e1 e2 => ?_, fun k e1 e2 => ?_, fun k e1 e2 => ?_⟩, ?_, ?_⟩
      · have := D8 k e1; have := L9 k e2; omega
      · have := D8 k e1; have := LA k e2; omega
      · have := D9 k e1; have := LA k e2; omega
      · exact (((G1.out.trans (GA.out.mono (Nat.le_of_lt hbl))).setCell (p := ⟨bx, 2, none⟩) (Nat.le_refl _) _).setCell (p := ⟨bx, 3, none⟩) (Nat.le_refl _) _).setCell (p := ⟨bx, 4, none⟩) (Nat.le_refl _) _
      · exact (((HB2.out.ext GA.out).far (p := ⟨bx, 2, none⟩) (by show bx + 1 ≠ bx; omega) _).far (p := ⟨bx, 3, none⟩) (by show bx + 1 ≠ bx; omega) _).far (p := ⟨bx, 4, none⟩) (by show bx + 1 ≠ bx; omega) _
  case rest =>
    obtain ⟨v1, v2, v3, hb, hcp, hg, hr⟩ := hcut
    rename World => WZ
    obtain ⟨A8, c8, hv8, -⟩ := OwnL.arr kdL hcp.l1
    obtain ⟨A9, c9, hv9, -⟩ := OwnL.arr kdS hcp.l2
    obtain ⟨AA, cA, hvA, -⟩ := OwnL.arr kdP hcp.l3
    subst hv8 hv9 hvA
    have HCP := Lib.hid hcp
    have HG := Lib.hid hg
    have HBR := Lib.hid hr
    clear k1 k2 k3 f1 f2 f3
    have b0 := hb.cell 0
    have b1 := hb.cell 1
    have b2 := hb.cell 2
    have b3 := hb.cell 3
    have b4 := hb.cell 4
    have b5 := hb.cell 5
    have r0 := hr.cell 0
    have r1 := hr.cell 1
    have r2 := hr.cell 2
    have r3 := hr.cell 3
    have r4 := hr.cell 4
    have r5 := hr.cell 5
    have q0 := hr.frozen 0
    have q1 := hr.frozen 1
    have q2 := hr.frozen 2
    have q3 := hr.frozen 3
    have q4 := hr.frozen 4
    have q5 := hr.frozen 5
    clear hcp hg hr hb
    go_wp2_with fail
    have hb9 := (((((HBR.out.set_ 0 (.int .i64 p.lo)).set_ 1 (.int .i64 p.hi)).set_ 2 (.slice A8 p.loads.length c8)).set_ 3 (.slice A9 p.stands.length c9)).set_ 4 (.slice AA p.spells.length cA)).set_ 5 (.int .i64 p.geese)
    have t0 := hb9.cell 0
    have t1 := hb9.cell 1
    have t2 := hb9.cell 2
    have t3 := hb9.cell 3
    have t4 := hb9.cell 4
    have t5 := hb9.cell 5
    clear hb9 b0 b1 b2 b3 b4 b5 r0 r1 r2 r3 r4 r5 q0 q1 q2 q3 q4 q5
    rw [HBX.out]
    have hl : ∀ k, bx ≤ (⟨bx + 1, k, none⟩ : Addr).block := fun k => Nat.le_succ _
    have hl2 : ∀ k, (⟨bx + 1, k, none⟩ : Addr).block < bx + 2 := fun k => Nat.lt_succ_self _
    refine bodyPost_ret (v := .agg (plw p (.slice A8 p.loads.length c8) (.slice A9 p.stands.length c9) (.slice AA p.spells.length cA))) ?_ rfl ⟨⟨_, _, _, rfl, (((((((HCP.out.far (hl2 0) _).far (hl2 1) _).far (hl2 2) _).far (hl2 3) _).far (hl2 4) _).far (hl2 5) _).mono (by omega))⟩, (((((HG.out.setCell (hl 0) _).setCell (hl 1) _).setCell (hl 2) _).setCell (hl 3) _).setCell (hl 4) _).setCell (hl 5) _⟩
    simp [results, Tryz.results132, go_sem, t0, t1, t2, t3, t4, t5]
end Go.Proofs.YtkoejeghihcmlaaGreat
