/- Part of the proof: VJ, YA, YH, YB, YC. -/
import Derived.Test.YtkoejeghihcmlaaGreatQA7
import Derived.Test.YtkoejeghihcmlaaGreatQA8
import Derived.Test.YtkoejeghihcmlaaGreatQA9
namespace Go.Proofs.YtkoejeghihcmlaaGreat
open Go.RowKit Go.Shelf
def woL (s : Int) (l : List Six) : List Six := l.filter fun x => !isSrc s x
theorem wo_yes {s : Int} {l : List Six} {k : Nat} (hk : k < l.length) (h : (l.getD k z6).a ≠ s) : woL s (l.take (k + 1)) = woL s (l.take k) ++ [l.getD k z6] := by
 unfold woL
 have h2 : isSrc s (l.getD k z6) = false := by rw [← Bool.not_eq_true, isSrc_iff]; exact h
 rw [six_get hk] at h2 ⊢
 rw [List.take_succ_eq_append_getElem hk, List.filter_append, List.filter_cons_of_pos (by simp [h2])]
 rfl
theorem wo_no {s : Int} {l : List Six} {k : Nat} (hk : k < l.length) (h : (l.getD k z6).a = s) : woL s (l.take (k + 1)) = woL s (l.take k) := by
 unfold woL
 have h2 : isSrc s (l.getD k z6) = true := isSrc_iff.2 h
 rw [six_get hk] at h2
 rw [List.take_succ_eq_append_getElem hk, List.filter_append, List.filter_cons_of_neg (by simp [h2])]
 simp
theorem wo_len (s : Int) (l : List Six) : (woL s l).length ≤ l.length := List.length_filter_le _ _
theorem own_setAll6 {e : TypeId} {w : World} {base b : Nat} {v : Value} {xs : List Six} (h : OwnL scells 6 e w base v xs) (hb : b < base) (a0 a1 a2 a3 a4 a5 : Value) : OwnL scells 6 e ((((((w.setCell ⟨b, 0, none⟩ a0).setCell ⟨b, 1, none⟩ a1).setCell ⟨b, 2, none⟩ a2).setCell ⟨b, 3, none⟩ a3).setCell ⟨b, 4, none⟩ a4).setCell ⟨b, 5, none⟩ a5) base v xs :=
 (((((h.far (p := ⟨b, 0, none⟩) hb _).far (p := ⟨b, 1, none⟩) hb _).far (p := ⟨b, 2, none⟩) hb _).far (p := ⟨b, 3, none⟩) hb _).far (p := ⟨b, 4, none⟩) hb _).far (p := ⟨b, 5, none⟩) hb _
/-- A plot whose rows are one's own, at B or behind. -/
def OwnP (W : World) (B : Nat) (p : Pl) (F1 F2 F3 : Option Addr) (a1 f1 a2 f2 a3 f3 : Nat) : Prop :=
 OwnL scells 6 103 W B (.slice F1 a1 f1) p.loads ∧ OwnL scells 6 105 W B (.slice F2 a2 f2) p.stands ∧ OwnL scells 6 107 W B (.slice F3 a3 f3) p.spells
theorem OwnP.pa {W : World} {B : Nat} {p : Pl} {F1 F2 F3 : Option Addr} {a1 f1 a2 f2 a3 f3 : Nat} (h : OwnP W B p F1 F2 F3 a1 f1 a2 f2 a3 f3) : Pa W p F1 F2 F3 a1 f1 a2 f2 a3 f3 := by
 obtain ⟨o1, o2, o3⟩ := h
 obtain ⟨E1, x1, e1, k1, j1, l1, -⟩ := OwnL.arr kdL o1
 obtain ⟨E2, x2, e2, k2, j2, l2, -⟩ := OwnL.arr kdS o2
 obtain ⟨E3, x3, e3, k3, j3, l3, -⟩ := OwnL.arr kdP o3
 unfold maxLen at j1 j2 j3
 cases e1; cases e2; cases e3
 exact ⟨l1, l2, l3, ⟨k1, Nat.le_trans k1 j1⟩, ⟨k2, Nat.le_trans k2 j2⟩, ⟨k3, Nat.le_trans k3 j3⟩⟩
theorem OwnP.ext {W W' : World} {B : Nat} {p : Pl} {F1 F2 F3 : Option Addr} {a1 f1 a2 f2 a3 f3 : Nat} (h : OwnP W B p F1 F2 F3 a1 f1 a2 f2 a3 f3) (g : Below W.heap.size W W') : OwnP W' B p F1 F2 F3 a1 f1 a2 f2 a3 f3 := ⟨h.1.ext g, h.2.1.ext g, h.2.2.ext g⟩
theorem OwnP.mono {W : World} {B B' : Nat} {p : Pl} {F1 F2 F3 : Option Addr} {a1 f1 a2 f2 a3 f3 : Nat} (h : OwnP W B p F1 F2 F3 a1 f1 a2 f2 a3 f3) (hb : B' ≤ B) : OwnP W B' p F1 F2 F3 a1 f1 a2 f2 a3 f3 := ⟨h.1.mono hb, h.2.1.mono hb, h.2.2.mono hb⟩
theorem OwnP.setAll6 {W : World} {B b : Nat} {p : Pl} {F1 F2 F3 : Option Addr} {a1 f1 a2 f2 a3 f3 : Nat} (h : OwnP W B p F1 F2 F3 a1 f1 a2 f2 a3 f3) (hb : b < B) (u0 u1 u2 u3 u4 u5 : Value) : OwnP ((((((W.setCell ⟨b, 0, none⟩ u0).setCell ⟨b, 1, none⟩ u1).setCell ⟨b, 2, none⟩ u2).setCell ⟨b, 3, none⟩ u3).setCell ⟨b, 4, none⟩ u4).setCell ⟨b, 5, none⟩ u5) B p F1 F2 F3 a1 f1 a2 f2 a3 f3 :=
 ⟨own_setAll6 h.1 hb _ _ _ _ _ _, own_setAll6 h.2.1 hb _ _ _ _ _ _, own_setAll6 h.2.2 hb _ _ _ _ _ _⟩
/-- The plot that lies at a row stays where the result is written. -/
theorem nw_end {w0 W : World} {bb b : Nat} {v1 v2 v3 : Value} {p : Pl} {F1 F2 F3 : Option Addr} {a1 f1 a2 f2 a3 f3 : Nat} (h : Nw w0 bb p.lo p.hi p.geese W v1 v2 v3 p.loads p.stands p.spells) (hb : b < bb + 1)
  (hp : Blk W bb 38 (plb p F1 F2 F3 a1 f1 a2 f2 a3 f3)) (_hpa : Pa W p F1 F2 F3 a1 f1 a2 f2 a3 f3) : ∀ X, Below W.heap.size W X → OwnP ((((((X.setCell ⟨b, 0, none⟩ (.int .i64 p.lo)).setCell ⟨b, 1, none⟩ (.int .i64 p.hi)).setCell ⟨b, 2, none⟩ (.slice F1 a1 f1)).setCell ⟨b, 3, none⟩ (.slice F2 a2 f2)).setCell ⟨b, 4, none⟩ (.slice F3 a3 f3)).setCell ⟨b, 5, none⟩ (.int .i64 p.geese)) (bb + 1) p F1 F2 F3 a1 f1 a2 f2 a3 f3 := by
 intro X g
 have e := h.p
 unfold Blk at e hp
 rw [e] at hp
 simp only [Option.some.injEq, Obj.cells.injEq, Array.mk.injEq, List.cons.injEq] at hp
 obtain ⟨⟨-, -, e1, e2, e3, -⟩, -⟩ := hp
 subst e1 e2 e3
 have o1 := own_setAll6 (h.o1.ext g) hb (.int .i64 p.lo) (.int .i64 p.hi) (.slice F1 a1 f1) (.slice F2 a2 f2) (.slice F3 a3 f3) (.int .i64 p.geese)
 have o2 := own_setAll6 (h.o2.ext g) hb (.int .i64 p.lo) (.int .i64 p.hi) (.slice F1 a1 f1) (.slice F2 a2 f2) (.slice F3 a3 f3) (.int .i64 p.geese)
 have o3 := own_setAll6 (h.o3.ext g) hb (.int .i64 p.lo) (.int .i64 p.hi) (.slice F1 a1 f1) (.slice F2 a2 f2) (.slice F3 a3 f3) (.int .i64 p.geese)
 exact ⟨o1, o2, o3⟩
set_option maxRecDepth 100000 in
set_option maxHeartbeats 16000000 in
theorem refWithoutP_any (P : Pl) (D1 D2 D3 : Option Addr) (m1 d1 m2 d2 m3 d3 : Nat) (so : Int) (w : World) (hp : Pa w P D1 D2 D3 m1 d1 m2 d2 m3 d3) (hnb : m1 ≤ 1000 ∧ m2 ≤ 1000 ∧ m3 ≤ 1000) :
  Calls Tryz.prog 125 #[plv P D1 D2 D3 m1 d1 m2 d2 m3 d3, .int .i64 so] w fun e w' => (∃ F1 a1 f1 F2 a2 f2 F3 a3 f3, e = .returned (.tuple #[plv (withoutP P so) F1 F2 F3 a1 f1 a2 f2 a3 f3, .bool (hasI (srcs3 P) so)]) ∧ OwnP w' w.heap.size (withoutP P so) F1 F2 F3 a1 f1 a2 f2 a3 f3) ∧ Below w.heap.size w w' := by
 obtain ⟨W1, hW1⟩ : ∃ W1, (w.alloc (.cells (plb P D1 D2 D3 m1 d1 m2 d2 m3 d3) 38)).alloc (.cells #[.int .i64 0, .int .i64 0, .slice none 0 0, .slice none 0 0, .slice none 0 0, .int .i64 0] 38) = W1 := ⟨_, rfl⟩
 have g0 : Below w.heap.size w W1 := by rw [← hW1]; exact two_more _ _ _
 have BP := Lib.hid (show Blk W1 w.heap.size 38 (plb P D1 D2 D3 m1 d1 m2 d2 m3 d3) by rw [← hW1]; exact (Blk.new _ _ _).alloc _)
 have BR := Lib.hid (show Blk W1 (w.heap.size + 1) 38 #[.int .i64 0, .int .i64 0, .slice none 0 0, .slice none 0 0, .slice none 0 0, .int .i64 0] by
  rw [← hW1]
  have := Blk.new (w.alloc (.cells (plb P D1 D2 D3 m1 d1 m2 d2 m3 d3) 38)) 38 #[.int .i64 0, .int .i64 0, .slice none 0 0, .slice none 0 0, .slice none 0 0, .int .i64 0]
  rwa [World.size_alloc] at this)
 have HSZ := Lib.hid (show W1.heap.size = w.heap.size + 1 + 1 by rw [← hW1]; simp)
 have HPA := Lib.hid (hp.below g0)
 have HN60 := Lib.hid hnb
 have GA := Lib.hid g0
 have HW1 := Lib.hid hW1
 have HWP := Lib.hid (show withoutP P so = { P with loads := woL so P.loads, stands := woL so P.stands, spells := woL so P.spells } from rfl)
 have r0 := BP.out.cell 0
 have r1 := BP.out.cell 1
 have r5 := BP.out.cell 5
 clear hp g0 hW1 hnb
 have NW0 := Lib.hid (Nw.new W1 P.lo P.hi P.geese)
 go_enter Tryz.func125, Tryz.ntmps125
 go_upto_region 1 with fail
 rw [HW1.out]
 go_upto_region 2 with fail
 clear r0 r1 r5
 have hbl := BP.out.lt
 have qz := ((BP.out.ext NW0.out.g)).cell 2
 go_wp2_with fail
 clear qz
 go_loopw [7] (fun i wr => ∃ (k : Nat) (v : Value), i = .int .i64 k ∧ k ≤ m1 ∧ Nw W1 W1.heap.size P.lo P.hi P.geese wr v (.slice none 0 0) (.slice none 0 0) (woL so (P.loads.take k)) [] []) (fun i _ => m1 - (intOf i).toNat)
 case atStart => exact ⟨0, _, rfl, Nat.zero_le _, NW0.out⟩
 case round =>
  obtain ⟨k, v, rfl, hk, hn⟩ := hrel
  have HNW := Lib.hid hn
  clear hn
  have HG := Lib.hid HNW.out.g
  have hnb := HN60.out
  by_cases hkm : k < m1
  ·obtain ⟨b0, o0, e0, -, -, hc⟩ := six_at HPA.out.l1 hkm
   obtain ⟨x0, x1, x2, x3, x4, x5⟩ := hc _ HG.out
   have HLN := Lib.hid (show k < P.loads.length by rw [HPA.out.l1.1]; exact hkm)
   obtain ⟨x, hxg⟩ : ∃ x, P.loads.getD k z6 = x := ⟨_, rfl⟩
   rw [hxg] at x0 x1 x2 x3 x4 x5 hc
   have HXG := Lib.hid hxg
   subst e0
   have HC := Lib.hid hc
   clear hc hxg
   have q1 := (BP.out.ext HG.out).cell 2
   have hbw := HNW.out.p.lt
   by_cases hx : x.a = so
   ·have HNY := Lib.hid (wo_no (s := so) HLN.out (by rw [HXG.out]; exact hx))
    have hd : (x.a != so) = false := by simp [hx]
    clear hx
    go_wp2_with fail
    go_roundw
    case rel => exact ⟨k + 1, _, by go_num, by omega, by rw [HNY.out]; exact HNW.out⟩
    case measure => simp [intOf]; omega
   ·have HNY := Lib.hid (wo_yes (s := so) HLN.out (by rw [HXG.out]; exact hx))
    rw [HXG.out] at HNY
    have hd : (x.a != so) = true := by simpa using hx
    clear hx
    have HPL := Lib.hid (show (woL so (P.loads.take k)).length + 1 ≤ 1000000 by have h1 := wo_len so (P.loads.take k); rw [List.length_take] at h1; omega)
    obtain ⟨Av, cv, hv, -⟩ := OwnL.arr kdL HNW.out.o1
    obtain ⟨nv, hnv⟩ : ∃ q, (woL so (P.loads.take k)).length = q := ⟨_, rfl⟩
    rw [hnv] at hv
    subst hv
    have q2 := HNW.out.p.cell 2
    have HOX := Lib.hid (HNW.out.ext (one_more wr (.cells #[.int .i64 x.a, .int .i64 x.b, .int .i64 x.c, .int .i64 x.d, .int .i64 x.e, .int .i64 x.f] 103)))
    have HI1 := Lib.hid (six_one wr 103 x)
    clear hnv
    go_upto_region 6 with fail
    refine wp_region_uptoQ (S := fun V => V.cell? ⟨W1.heap.size, 2, none⟩ = some (.slice Av nv cv) ∧ V.cell? ⟨w.heap.size, 2, none⟩ = some (.slice (some ⟨b0, o0, none⟩) m1 d1) ∧ V.cell? ⟨b0, o0 + k * 6, none⟩ = some (.int .i64 x.a) ∧ V.cell? ⟨b0, o0 + k * 6 + 1, none⟩ = some (.int .i64 x.b) ∧ V.cell? ⟨b0, o0 + k * 6 + 2, none⟩ = some (.int .i64 x.c) ∧ V.cell? ⟨b0, o0 + k * 6 + 3, none⟩ = some (.int .i64 x.d) ∧ V.cell? ⟨b0, o0 + k * 6 + 4, none⟩ = some (.int .i64 x.e) ∧ V.cell? ⟨b0, o0 + k * 6 + 5, none⟩ = some (.int .i64 x.f)) 10 (by kernel_rfl) (⟨q2, q1, x0, x1, x2, x3, x4, x5⟩) (fun hHeld => ?_)
    (refine upto_take [1, 8, 10] (i := 0) (oi := ⟨_, _, _, _, _, _⟩) (d := some 30) (v := ?_) rfl rfl (by kernel_rfl) (by kernel_rfl) (fun _ _ _ h => h) (by rfl) ?_ (by assumption) ?_; rotate_left; (focus (intro w hSw; (try dsimp only at hSw); go_simp; try with_reducible rfl)); (try simp only [Act.put, List.setIfInBounds_toArray, List.set_cons_zero, List.set_cons_succ]))
    (refine upto_take [8, 10] (i := 1) (oi := ⟨_, _, _, _, _, _⟩) (d := some 31) (v := ?_) rfl rfl (by kernel_rfl) (by kernel_rfl) (fun _ _ _ h => h) (by rfl) ?_ (by assumption) ?_; rotate_left; (focus (intro w hSw; (try dsimp only at hSw); go_simp; try with_reducible rfl)); (try simp only [Act.put, List.setIfInBounds_toArray, List.set_cons_zero, List.set_cons_succ]))
    (refine upto_take [3, 5, 6, 7, 8, 10] (i := 2) (oi := ⟨_, _, _, _, _, _⟩) (d := some 32) (v := ?_) rfl rfl (by kernel_rfl) (by kernel_rfl) (fun _ _ _ h => h) (by rfl) ?_ (by assumption) ?_; rotate_left; (focus (intro w hSw; (try dsimp only at hSw); go_simp; try with_reducible rfl)); (try simp only [Act.put, List.setIfInBounds_toArray, List.set_cons_zero, List.set_cons_succ]))
    (refine upto_take [5, 6, 7, 8, 10] (i := 3) (oi := ⟨_, _, _, _, _, _⟩) (d := some 33) (v := ?_) rfl rfl (by kernel_rfl) (by kernel_rfl) (fun _ _ _ h => h) (by rfl) ?_ (by assumption) ?_; rotate_left; (focus (intro w hSw; (try dsimp only at hSw); go_simp; try with_reducible rfl)); (try simp only [Act.put, List.setIfInBounds_toArray, List.set_cons_zero, List.set_cons_succ]))
    (refine upto_take [5, 6, 7, 8, 10] (i := 4) (oi := ⟨_, _, _, _, _, _⟩) (d := some 34) (v := ?_) rfl rfl (by kernel_rfl) (by kernel_rfl) (fun _ _ _ h => h) (by rfl) ?_ (by assumption) ?_; rotate_left; (focus (intro w hSw; (try dsimp only at hSw); go_simp; try with_reducible rfl)); (try simp only [Act.put, List.setIfInBounds_toArray, List.set_cons_zero, List.set_cons_succ]))
    (refine upto_take [6, 7, 8, 10] (i := 5) (oi := ⟨_, _, _, _, _, _⟩) (d := some 35) (v := ?_) rfl rfl (by kernel_rfl) (by kernel_rfl) (fun _ _ _ h => h) (by rfl) ?_ (by assumption) ?_; rotate_left; (focus (intro w hSw; (try dsimp only at hSw); go_simp; try with_reducible rfl)); (try simp only [Act.put, List.setIfInBounds_toArray, List.set_cons_zero, List.set_cons_succ]))
    (refine upto_take [7, 8, 10] (i := 6) (oi := ⟨_, _, _, _, _, _⟩) (d := some 36) (v := ?_) rfl rfl (by kernel_rfl) (by kernel_rfl) (fun _ _ _ h => h) (by rfl) ?_ (by assumption) ?_; rotate_left; (focus (intro w hSw; (try dsimp only at hSw); go_simp; try with_reducible rfl)); (try simp only [Act.put, List.setIfInBounds_toArray, List.set_cons_zero, List.set_cons_succ]))
    refine upto_one 7 (o := ⟨_, _, _, _, _, _⟩) rfl (by kernel_rfl) (by decide) (fun K hK => ?_)
    go_simp
    refine hK.out _ _ ?_ (fun hHeld => ?_)
    ·exact ⟨keepAlloc q2 _, keepAlloc q1 _, keepAlloc x0 _, keepAlloc x1 _, keepAlloc x2 _, keepAlloc x3 _, keepAlloc x4 _, keepAlloc x5 _⟩
    clear hK K
    (try simp only [Act.put, List.setIfInBounds_toArray, List.set_cons_zero, List.set_cons_succ])
    refine upto_one 8 (o := ⟨_, _, _, _, _, _⟩) rfl (by kernel_rfl) (by decide) (fun K hK => ?_)
    (go_loud (refine step_app kdL (by rfl) _ _ (by rfl) (W1.heap.size + 1) (.slice Av nv cv) (woL so (P.loads.take k)) (by rfl) HOX.out.o1 _ 1 1 [x] (by rfl) HI1.out HPL.out (by simp; omega) ?_); intro v' w2 ho2 hg2 hz2; have hg2 : (wr.alloc (.cells #[.int .i64 x.a, .int .i64 x.b, .int .i64 x.c, .int .i64 x.d, .int .i64 x.e, .int .i64 x.f] 103)).grownBy w2 (Value.slice Av nv cv).ownBlock := ⟨hg2.os, hg2.tape, hg2.output, hg2.size, hg2.block⟩; obtain ⟨Av2, cv2, hve, -⟩ := OwnL.arr kdL ho2; obtain ⟨nv2, hnv2⟩ : ∃ q, ((woL so (P.loads.take k)) ++ [x]).length = q := ⟨_, rfl⟩; rw [hnv2] at hve; subst hve; clear hnv2; have NP := Lib.hid (HOX.out.put1 hg2 ho2); have b9' := HOX.out.p.grown hg2 (fun e => by have := (own_lt HOX.out.o1 e).1; omega); have n0 := b9'.cell 2; have n1 := b9'.frozen 2; have hg3 := HOX.out.g.grown hg2 (Nat.le_of_lt HOX.out.p.lt) (fun k e => by have := (own_lt HOX.out.o1 e).1; omega); have n2 := (BP.out.ext hg3).cell 2; obtain ⟨y0, y1, y2, y3, y4, y5⟩ := HC.out _ hg3; clear hg3 ho2 hg2 hz2 b9')
    refine hK.out _ _ ?_ (fun hHeld => ?_)
    ·exact ⟨n0, n2, y0, y1, y2, y3, y4, y5⟩
    clear hK K
    (try simp only [Act.put, List.setIfInBounds_toArray, List.set_cons_zero, List.set_cons_succ])
    (refine upto_take [10] (i := 9) (oi := ⟨_, _, _, _, _, _⟩) (d := some 39) (v := ?_) rfl rfl (by kernel_rfl) (by kernel_rfl) (fun _ _ _ h => h) (by rfl) ?_ (by assumption) ?_; rotate_left; (focus (intro w hSw; (try dsimp only at hSw); go_simp; try with_reducible rfl)); (try simp only [Act.put, List.setIfInBounds_toArray, List.set_cons_zero, List.set_cons_succ]))
    refine upto_last (o := ⟨_, _, _, _, _, _⟩) rfl (by kernel_rfl) (fun K hK => ?_)
    go_simp
    refine hK.out _ _ ?_
    clear hK K
    (try simp only [Act.put, List.setIfInBounds_toArray, List.set_cons_zero, List.set_cons_succ])
    refine any_done (by kernel_rfl) ?_
    simp only [onlyQ]
    go_wp2_with fail
    go_roundw
    case rel => exact ⟨k + 1, _, by go_num, by omega, by rw [HNY.out]; exact NP.out⟩
    case measure => simp [intOf]; omega
  ·obtain rfl : m1 = k := by omega
   have HNE := Lib.hid (show Nw W1 W1.heap.size P.lo P.hi P.geese wr v (.slice none 0 0) (.slice none 0 0) (woL so P.loads) [] [] by have := HNW.out; rwa [List.take_of_length_le (by rw [HPA.out.l1.1]; exact Nat.le_refl _)] at this)
   obtain ⟨U1, hU⟩ : ∃ V, wr = V := ⟨_, rfl⟩
   obtain ⟨v1, hv⟩ : ∃ V, v = V := ⟨_, rfl⟩
   rw [hU] at HNE ⊢
   rw [hv] at HNE
   have NE1 := HNE
   have HGE1 := Lib.hid HNE.out.g
   clear HNE HNW HG hnb hkm hk hU hv
   have qy := (BP.out.ext HGE1.out).cell 2
   have qz := (BP.out.ext HGE1.out).cell 3
   go_wp2_with fail
   clear qz qy
   go_loopw [8] (fun i wr => ∃ (k : Nat) (v : Value), i = .int .i64 k ∧ k ≤ m2 ∧ Nw W1 W1.heap.size P.lo P.hi P.geese wr v1 v (.slice none 0 0) (woL so P.loads) (woL so (P.stands.take k)) []) (fun i _ => m2 - (intOf i).toNat)
   case atStart => exact ⟨0, _, rfl, Nat.zero_le _, NE1.out⟩
   case round =>
    obtain ⟨k, v, rfl, hk, hn⟩ := hrel
    have HNW := Lib.hid hn
    clear hn
    have HG := Lib.hid HNW.out.g
    have hnb := HN60.out
    by_cases hkm : k < m2
    ·obtain ⟨b0, o0, e0, -, -, hc⟩ := six_at HPA.out.l2 hkm
     obtain ⟨x0, x1, x2, x3, x4, x5⟩ := hc _ HG.out
     have HLN := Lib.hid (show k < P.stands.length by rw [HPA.out.l2.1]; exact hkm)
     obtain ⟨x, hxg⟩ : ∃ x, P.stands.getD k z6 = x := ⟨_, rfl⟩
     rw [hxg] at x0 x1 x2 x3 x4 x5 hc
     have HXG := Lib.hid hxg
     subst e0
     have HC := Lib.hid hc
     clear hc hxg
     have q1 := (BP.out.ext HG.out).cell 3
     have hbw := HNW.out.p.lt
     by_cases hx : x.a = so
     ·have HNY := Lib.hid (wo_no (s := so) HLN.out (by rw [HXG.out]; exact hx))
      have hd : (x.a != so) = false := by simp [hx]
      clear hx
      go_wp2_with fail
      go_roundw
      case rel => exact ⟨k + 1, _, by go_num, by omega, by rw [HNY.out]; exact HNW.out⟩
      case measure => simp [intOf]; omega
     ·have HNY := Lib.hid (wo_yes (s := so) HLN.out (by rw [HXG.out]; exact hx))
      rw [HXG.out] at HNY
      have hd : (x.a != so) = true := by simpa using hx
      clear hx
      have HPL := Lib.hid (show (woL so (P.stands.take k)).length + 1 ≤ 1000000 by have h1 := wo_len so (P.stands.take k); rw [List.length_take] at h1; omega)
      obtain ⟨Av, cv, hv, -⟩ := OwnL.arr kdS HNW.out.o2
      obtain ⟨nv, hnv⟩ : ∃ q, (woL so (P.stands.take k)).length = q := ⟨_, rfl⟩
      rw [hnv] at hv
      subst hv
      have q2 := HNW.out.p.cell 3
      have HOX := Lib.hid (HNW.out.ext (one_more wr (.cells #[.int .i64 x.a, .int .i64 x.b, .int .i64 x.c, .int .i64 x.d, .int .i64 x.e, .int .i64 x.f] 105)))
      have HI1 := Lib.hid (six_one wr 105 x)
      clear hnv
      go_upto_region 11 with fail
      refine wp_region_uptoQ (S := fun V => V.cell? ⟨W1.heap.size, 3, none⟩ = some (.slice Av nv cv) ∧ V.cell? ⟨w.heap.size, 3, none⟩ = some (.slice (some ⟨b0, o0, none⟩) m2 d2) ∧ V.cell? ⟨b0, o0 + k * 6, none⟩ = some (.int .i64 x.a) ∧ V.cell? ⟨b0, o0 + k * 6 + 1, none⟩ = some (.int .i64 x.b) ∧ V.cell? ⟨b0, o0 + k * 6 + 2, none⟩ = some (.int .i64 x.c) ∧ V.cell? ⟨b0, o0 + k * 6 + 3, none⟩ = some (.int .i64 x.d) ∧ V.cell? ⟨b0, o0 + k * 6 + 4, none⟩ = some (.int .i64 x.e) ∧ V.cell? ⟨b0, o0 + k * 6 + 5, none⟩ = some (.int .i64 x.f)) 10 (by kernel_rfl) (⟨q2, q1, x0, x1, x2, x3, x4, x5⟩) (fun hHeld => ?_)
      (refine upto_take [1, 8, 10] (i := 0) (oi := ⟨_, _, _, _, _, _⟩) (d := some 55) (v := ?_) rfl rfl (by kernel_rfl) (by kernel_rfl) (fun _ _ _ h => h) (by rfl) ?_ (by assumption) ?_; rotate_left; (focus (intro w hSw; (try dsimp only at hSw); go_simp; try with_reducible rfl)); (try simp only [Act.put, List.setIfInBounds_toArray, List.set_cons_zero, List.set_cons_succ]))
      (refine upto_take [8, 10] (i := 1) (oi := ⟨_, _, _, _, _, _⟩) (d := some 56) (v := ?_) rfl rfl (by kernel_rfl) (by kernel_rfl) (fun _ _ _ h => h) (by rfl) ?_ (by assumption) ?_; rotate_left; (focus (intro w hSw; (try dsimp only at hSw); go_simp; try with_reducible rfl)); (try simp only [Act.put, List.setIfInBounds_toArray, List.set_cons_zero, List.set_cons_succ]))
      (refine upto_take [3, 5, 6, 7, 8, 10] (i := 2) (oi := ⟨_, _, _, _, _, _⟩) (d := some 57) (v := ?_) rfl rfl (by kernel_rfl) (by kernel_rfl) (fun _ _ _ h => h) (by rfl) ?_ (by assumption) ?_; rotate_left; (focus (intro w hSw; (try dsimp only at hSw); go_simp; try with_reducible rfl)); (try simp only [Act.put, List.setIfInBounds_toArray, List.set_cons_zero, List.set_cons_succ]))
      (refine upto_take [5, 6, 7, 8, 10] (i := 3) (oi := ⟨_, _, _, _, _, _⟩) (d := some 58) (v := ?_) rfl rfl (by kernel_rfl) (by kernel_rfl) (fun _ _ _ h => h) (by rfl) ?_ (by assumption) ?_; rotate_left; (focus (intro w hSw; (try dsimp only at hSw); go_simp; try with_reducible rfl)); (try simp only [Act.put, List.setIfInBounds_toArray, List.set_cons_zero, List.set_cons_succ]))
      (refine upto_take [5, 6, 7, 8, 10] (i := 4) (oi := ⟨_, _, _, _, _, _⟩) (d := some 59) (v := ?_) rfl rfl (by kernel_rfl) (by kernel_rfl) (fun _ _ _ h => h) (by rfl) ?_ (by assumption) ?_; rotate_left; (focus (intro w hSw; (try dsimp only at hSw); go_simp; try with_reducible rfl)); (try simp only [Act.put, List.setIfInBounds_toArray, List.set_cons_zero, List.set_cons_succ]))
      (refine upto_take [6, 7, 8, 10] (i := 5) (oi := ⟨_, _, _, _, _, _⟩) (d := some 60) (v := ?_) rfl rfl (by kernel_rfl) (by kernel_rfl) (fun _ _ _ h => h) (by rfl) ?_ (by assumption) ?_; rotate_left; (focus (intro w hSw; (try dsimp only at hSw); go_simp; try with_reducible rfl)); (try simp only [Act.put, List.setIfInBounds_toArray, List.set_cons_zero, List.set_cons_succ]))
      (refine upto_take [7, 8, 10] (i := 6) (oi := ⟨_, _, _, _, _, _⟩) (d := some 61) (v := ?_) rfl rfl (by kernel_rfl) (by kernel_rfl) (fun _ _ _ h => h) (by rfl) ?_ (by assumption) ?_; rotate_left; (focus (intro w hSw; (try dsimp only at hSw); go_simp; try with_reducible rfl)); (try simp only [Act.put, List.setIfInBounds_toArray, List.set_cons_zero, List.set_cons_succ]))
      refine upto_one 7 (o := ⟨_, _, _, _, _, _⟩) rfl (by kernel_rfl) (by decide) (fun K hK => ?_)
      go_simp
      refine hK.out _ _ ?_ (fun hHeld => ?_)
      ·exact ⟨keepAlloc q2 _, keepAlloc q1 _, keepAlloc x0 _, keepAlloc x1 _, keepAlloc x2 _, keepAlloc x3 _, keepAlloc x4 _, keepAlloc x5 _⟩
      clear hK K
      (try simp only [Act.put, List.setIfInBounds_toArray, List.set_cons_zero, List.set_cons_succ])
      refine upto_one 8 (o := ⟨_, _, _, _, _, _⟩) rfl (by kernel_rfl) (by decide) (fun K hK => ?_)
      (go_loud (refine step_app kdS (by rfl) _ _ (by rfl) (W1.heap.size + 1) (.slice Av nv cv) (woL so (P.stands.take k)) (by rfl) HOX.out.o2 _ 1 1 [x] (by rfl) HI1.out HPL.out (by simp; omega) ?_); intro v' w2 ho2 hg2 hz2; have hg2 : (wr.alloc (.cells #[.int .i64 x.a, .int .i64 x.b, .int .i64 x.c, .int .i64 x.d, .int .i64 x.e, .int .i64 x.f] 105)).grownBy w2 (Value.slice Av nv cv).ownBlock := ⟨hg2.os, hg2.tape, hg2.output, hg2.size, hg2.block⟩; obtain ⟨Av2, cv2, hve, -⟩ := OwnL.arr kdS ho2; obtain ⟨nv2, hnv2⟩ : ∃ q, ((woL so (P.stands.take k)) ++ [x]).length = q := ⟨_, rfl⟩; rw [hnv2] at hve; subst hve; clear hnv2; have NP := Lib.hid (HOX.out.put2 hg2 ho2); have b9' := HOX.out.p.grown hg2 (fun e => by have := (own_lt HOX.out.o2 e).1; omega); have n0 := b9'.cell 3; have n1 := b9'.frozen 3; have hg3 := HOX.out.g.grown hg2 (Nat.le_of_lt HOX.out.p.lt) (fun k e => by have := (own_lt HOX.out.o2 e).1; omega); have n2 := (BP.out.ext hg3).cell 3; obtain ⟨y0, y1, y2, y3, y4, y5⟩ := HC.out _ hg3; clear hg3 ho2 hg2 hz2 b9')
      refine hK.out _ _ ?_ (fun hHeld => ?_)
      ·exact ⟨n0, n2, y0, y1, y2, y3, y4, y5⟩
      clear hK K
      (try simp only [Act.put, List.setIfInBounds_toArray, List.set_cons_zero, List.set_cons_succ])
      (refine upto_take [10] (i := 9) (oi := ⟨_, _, _, _, _, _⟩) (d := some 64) (v := ?_) rfl rfl (by kernel_rfl) (by kernel_rfl) (fun _ _ _ h => h) (by rfl) ?_ (by assumption) ?_; rotate_left; (focus (intro w hSw; (try dsimp only at hSw); go_simp; try with_reducible rfl)); (try simp only [Act.put, List.setIfInBounds_toArray, List.set_cons_zero, List.set_cons_succ]))
      refine upto_last (o := ⟨_, _, _, _, _, _⟩) rfl (by kernel_rfl) (fun K hK => ?_)
      go_simp
      refine hK.out _ _ ?_
      clear hK K
      (try simp only [Act.put, List.setIfInBounds_toArray, List.set_cons_zero, List.set_cons_succ])
      refine any_done (by kernel_rfl) ?_
      simp only [onlyQ]
      go_wp2_with fail
      go_roundw
      case rel => exact ⟨k + 1, _, by go_num, by omega, by rw [HNY.out]; exact NP.out⟩
      case measure => simp [intOf]; omega
    ·obtain rfl : m2 = k := by omega
     have HNE := Lib.hid (show Nw W1 W1.heap.size P.lo P.hi P.geese wr v1 v (.slice none 0 0) (woL so P.loads) (woL so P.stands) [] by have := HNW.out; rwa [List.take_of_length_le (by rw [HPA.out.l2.1]; exact Nat.le_refl _)] at this)
     obtain ⟨U2, hU⟩ : ∃ V, wr = V := ⟨_, rfl⟩
     obtain ⟨v2, hv⟩ : ∃ V, v = V := ⟨_, rfl⟩
     rw [hU] at HNE ⊢
     rw [hv] at HNE
     have NE2 := HNE
     have HGE2 := Lib.hid HNE.out.g
     clear HNE HNW HG hnb hkm hk hU hv
     have qy := (BP.out.ext HGE2.out).cell 3
     have qz := (BP.out.ext HGE2.out).cell 4
     go_wp2_with fail
     clear qz qy
     go_loopw [9] (fun i wr => ∃ (k : Nat) (v : Value), i = .int .i64 k ∧ k ≤ m3 ∧ Nw W1 W1.heap.size P.lo P.hi P.geese wr v1 v2 v (woL so P.loads) (woL so P.stands) (woL so (P.spells.take k))) (fun i _ => m3 - (intOf i).toNat)
     case atStart => exact ⟨0, _, rfl, Nat.zero_le _, NE2.out⟩
     case round =>
      obtain ⟨k, v, rfl, hk, hn⟩ := hrel
      have HNW := Lib.hid hn
      clear hn
      have HG := Lib.hid HNW.out.g
      have hnb := HN60.out
      by_cases hkm : k < m3
      ·obtain ⟨b0, o0, e0, -, -, hc⟩ := six_at HPA.out.l3 hkm
       obtain ⟨x0, x1, x2, x3, x4, x5⟩ := hc _ HG.out
       have HLN := Lib.hid (show k < P.spells.length by rw [HPA.out.l3.1]; exact hkm)
       obtain ⟨x, hxg⟩ : ∃ x, P.spells.getD k z6 = x := ⟨_, rfl⟩
       rw [hxg] at x0 x1 x2 x3 x4 x5 hc
       have HXG := Lib.hid hxg
       subst e0
       have HC := Lib.hid hc
       clear hc hxg
       have q1 := (BP.out.ext HG.out).cell 4
       have hbw := HNW.out.p.lt
       by_cases hx : x.a = so
       ·have HNY := Lib.hid (wo_no (s := so) HLN.out (by rw [HXG.out]; exact hx))
        have hd : (x.a != so) = false := by simp [hx]
        clear hx
        go_wp2_with fail
        go_roundw
        case rel => exact ⟨k + 1, _, by go_num, by omega, by rw [HNY.out]; exact HNW.out⟩
        case measure => simp [intOf]; omega
       ·have HNY := Lib.hid (wo_yes (s := so) HLN.out (by rw [HXG.out]; exact hx))
        rw [HXG.out] at HNY
        have hd : (x.a != so) = true := by simpa using hx
        clear hx
        have HPL := Lib.hid (show (woL so (P.spells.take k)).length + 1 ≤ 1000000 by have h1 := wo_len so (P.spells.take k); rw [List.length_take] at h1; omega)
        obtain ⟨Av, cv, hv, -⟩ := OwnL.arr kdP HNW.out.o3
        obtain ⟨nv, hnv⟩ : ∃ q, (woL so (P.spells.take k)).length = q := ⟨_, rfl⟩
        rw [hnv] at hv
        subst hv
        have q2 := HNW.out.p.cell 4
        have HOX := Lib.hid (HNW.out.ext (one_more wr (.cells #[.int .i64 x.a, .int .i64 x.b, .int .i64 x.c, .int .i64 x.d, .int .i64 x.e, .int .i64 x.f] 107)))
        have HI1 := Lib.hid (six_one wr 107 x)
        clear hnv
        go_upto_region 16 with fail
        refine wp_region_uptoQ (S := fun V => V.cell? ⟨W1.heap.size, 4, none⟩ = some (.slice Av nv cv) ∧ V.cell? ⟨w.heap.size, 4, none⟩ = some (.slice (some ⟨b0, o0, none⟩) m3 d3) ∧ V.cell? ⟨b0, o0 + k * 6, none⟩ = some (.int .i64 x.a) ∧ V.cell? ⟨b0, o0 + k * 6 + 1, none⟩ = some (.int .i64 x.b) ∧ V.cell? ⟨b0, o0 + k * 6 + 2, none⟩ = some (.int .i64 x.c) ∧ V.cell? ⟨b0, o0 + k * 6 + 3, none⟩ = some (.int .i64 x.d) ∧ V.cell? ⟨b0, o0 + k * 6 + 4, none⟩ = some (.int .i64 x.e) ∧ V.cell? ⟨b0, o0 + k * 6 + 5, none⟩ = some (.int .i64 x.f)) 10 (by kernel_rfl) (⟨q2, q1, x0, x1, x2, x3, x4, x5⟩) (fun hHeld => ?_)
        (refine upto_take [1, 8, 10] (i := 0) (oi := ⟨_, _, _, _, _, _⟩) (d := some 80) (v := ?_) rfl rfl (by kernel_rfl) (by kernel_rfl) (fun _ _ _ h => h) (by rfl) ?_ (by assumption) ?_; rotate_left; (focus (intro w hSw; (try dsimp only at hSw); go_simp; try with_reducible rfl)); (try simp only [Act.put, List.setIfInBounds_toArray, List.set_cons_zero, List.set_cons_succ]))
        (refine upto_take [8, 10] (i := 1) (oi := ⟨_, _, _, _, _, _⟩) (d := some 81) (v := ?_) rfl rfl (by kernel_rfl) (by kernel_rfl) (fun _ _ _ h => h) (by rfl) ?_ (by assumption) ?_; rotate_left; (focus (intro w hSw; (try dsimp only at hSw); go_simp; try with_reducible rfl)); (try simp only [Act.put, List.setIfInBounds_toArray, List.set_cons_zero, List.set_cons_succ]))
        (refine upto_take [3, 5, 6, 7, 8, 10] (i := 2) (oi := ⟨_, _, _, _, _, _⟩) (d := some 82) (v := ?_) rfl rfl (by kernel_rfl) (by kernel_rfl) (fun _ _ _ h => h) (by rfl) ?_ (by assumption) ?_; rotate_left; (focus (intro w hSw; (try dsimp only at hSw); go_simp; try with_reducible rfl)); (try simp only [Act.put, List.setIfInBounds_toArray, List.set_cons_zero, List.set_cons_succ]))
        (refine upto_take [5, 6, 7, 8, 10] (i := 3) (oi := ⟨_, _, _, _, _, _⟩) (d := some 83) (v := ?_) rfl rfl (by kernel_rfl) (by kernel_rfl) (fun _ _ _ h => h) (by rfl) ?_ (by assumption) ?_; rotate_left; (focus (intro w hSw; (try dsimp only at hSw); go_simp; try with_reducible rfl)); (try simp only [Act.put, List.setIfInBounds_toArray, List.set_cons_zero, List.set_cons_succ]))
        (refine upto_take [5, 6, 7, 8, 10] (i := 4) (oi := ⟨_, _, _, _, _, _⟩) (d := some 84) (v := ?_) rfl rfl (by kernel_rfl) (by kernel_rfl) (fun _ _ _ h => h) (by rfl) ?_ (by assumption) ?_; rotate_left; (focus (intro w hSw; (try dsimp only at hSw); go_simp; try with_reducible rfl)); (try simp only [Act.put, List.setIfInBounds_toArray, List.set_cons_zero, List.set_cons_succ]))
        (refine upto_take [6, 7, 8, 10] (i := 5) (oi := ⟨_, _, _, _, _, _⟩) (d := some 85) (v := ?_) rfl rfl (by kernel_rfl) (by kernel_rfl) (fun _ _ _ h => h) (by rfl) ?_ (by assumption) ?_; rotate_left; (focus (intro w hSw; (try dsimp only at hSw); go_simp; try with_reducible rfl)); (try simp only [Act.put, List.setIfInBounds_toArray, List.set_cons_zero, List.set_cons_succ]))
        (refine upto_take [7, 8, 10] (i := 6) (oi := ⟨_, _, _, _, _, _⟩) (d := some 86) (v := ?_) rfl rfl (by kernel_rfl) (by kernel_rfl) (fun _ _ _ h => h) (by rfl) ?_ (by assumption) ?_; rotate_left; (focus (intro w hSw; (try dsimp only at hSw); go_simp; try with_reducible rfl)); (try simp only [Act.put, List.setIfInBounds_toArray, List.set_cons_zero, List.set_cons_succ]))
        refine upto_one 7 (o := ⟨_, _, _, _, _, _⟩) rfl (by kernel_rfl) (by decide) (fun K hK => ?_)
        go_simp
        refine hK.out _ _ ?_ (fun hHeld => ?_)
        ·exact ⟨keepAlloc q2 _, keepAlloc q1 _, keepAlloc x0 _, keepAlloc x1 _, keepAlloc x2 _, keepAlloc x3 _, keepAlloc x4 _, keepAlloc x5 _⟩
        clear hK K
        (try simp only [Act.put, List.setIfInBounds_toArray, List.set_cons_zero, List.set_cons_succ])
        refine upto_one 8 (o := ⟨_, _, _, _, _, _⟩) rfl (by kernel_rfl) (by decide) (fun K hK => ?_)
        (go_loud (refine step_app kdP (by rfl) _ _ (by rfl) (W1.heap.size + 1) (.slice Av nv cv) (woL so (P.spells.take k)) (by rfl) HOX.out.o3 _ 1 1 [x] (by rfl) HI1.out HPL.out (by simp; omega) ?_); intro v' w2 ho2 hg2 hz2; have hg2 : (wr.alloc (.cells #[.int .i64 x.a, .int .i64 x.b, .int .i64 x.c, .int .i64 x.d, .int .i64 x.e, .int .i64 x.f] 107)).grownBy w2 (Value.slice Av nv cv).ownBlock := ⟨hg2.os, hg2.tape, hg2.output, hg2.size, hg2.block⟩; obtain ⟨Av2, cv2, hve, -⟩ := OwnL.arr kdP ho2; obtain ⟨nv2, hnv2⟩ : ∃ q, ((woL so (P.spells.take k)) ++ [x]).length = q := ⟨_, rfl⟩; rw [hnv2] at hve; subst hve; clear hnv2; have NP := Lib.hid (HOX.out.put3 hg2 ho2); have b9' := HOX.out.p.grown hg2 (fun e => by have := (own_lt HOX.out.o3 e).1; omega); have n0 := b9'.cell 4; have n1 := b9'.frozen 4; have hg3 := HOX.out.g.grown hg2 (Nat.le_of_lt HOX.out.p.lt) (fun k e => by have := (own_lt HOX.out.o3 e).1; omega); have n2 := (BP.out.ext hg3).cell 4; obtain ⟨y0, y1, y2, y3, y4, y5⟩ := HC.out _ hg3; clear hg3 ho2 hg2 hz2 b9')
        refine hK.out _ _ ?_ (fun hHeld => ?_)
        ·exact ⟨n0, n2, y0, y1, y2, y3, y4, y5⟩
        clear hK K
        (try simp only [Act.put, List.setIfInBounds_toArray, List.set_cons_zero, List.set_cons_succ])
        (refine upto_take [10] (i := 9) (oi := ⟨_, _, _, _, _, _⟩) (d := some 89) (v := ?_) rfl rfl (by kernel_rfl) (by kernel_rfl) (fun _ _ _ h => h) (by rfl) ?_ (by assumption) ?_; rotate_left; (focus (intro w hSw; (try dsimp only at hSw); go_simp; try with_reducible rfl)); (try simp only [Act.put, List.setIfInBounds_toArray, List.set_cons_zero, List.set_cons_succ]))
        refine upto_last (o := ⟨_, _, _, _, _, _⟩) rfl (by kernel_rfl) (fun K hK => ?_)
        go_simp
        refine hK.out _ _ ?_
        clear hK K
        (try simp only [Act.put, List.setIfInBounds_toArray, List.set_cons_zero, List.set_cons_succ])
        refine any_done (by kernel_rfl) ?_
        simp only [onlyQ]
        go_wp2_with fail
        go_roundw
        case rel => exact ⟨k + 1, _, by go_num, by omega, by rw [HNY.out]; exact NP.out⟩
        case measure => simp [intOf]; omega
      ·obtain rfl : m3 = k := by omega
       have HNE := Lib.hid (show Nw W1 W1.heap.size P.lo P.hi P.geese wr v1 v2 v (woL so P.loads) (woL so P.stands) (woL so P.spells) by have := HNW.out; rwa [List.take_of_length_le (by rw [HPA.out.l3.1]; exact Nat.le_refl _)] at this)
       obtain ⟨U3, hU⟩ : ∃ V, wr = V := ⟨_, rfl⟩
       obtain ⟨v3, hv⟩ : ∃ V, v = V := ⟨_, rfl⟩
       rw [hU] at HNE ⊢
       rw [hv] at HNE
       have NE3 := HNE
       have HGE3 := Lib.hid HNE.out.g
       clear HNE HNW HG hnb hkm hk hU hv
       obtain ⟨F1, a1, f1, F2, a2, f2, F3, a3, f3, hbo, hpo⟩ := Nw.plot (p := withoutP P so) NE3.out
       have HBO := Lib.hid hbo
       have PAQ := Lib.hid (nw_end (b := w.heap.size + 1) NE3.out (by rw [HSZ.out]; omega) hbo hpo)
       have HPO := Lib.hid hpo
       have HT := Lib.hid (refSources_any P D1 D2 D3 m1 d1 m2 d2 m3 d3)
       have HSL := Lib.hid (show (srcs3 P).length ≤ 3000 by
        have h1 := HN60.out
        have h2 := HPA.out.l1.1
        have h3 := HPA.out.l2.1
        have h4 := HPA.out.l3.1
        unfold srcs3
        simp only [List.length_append, srcs_len]
        omega)
       have HKK := Lib.hid (fun X (g : Below U3.heap.size U3 X) => (⟨(HBO.out.ext g).cell 0, (HBO.out.ext g).cell 1, (HBO.out.ext g).cell 2, (HBO.out.ext g).cell 3, (HBO.out.ext g).cell 4, (HBO.out.ext g).cell 5, ((BR.out.ext HGE3.out).ext g).cell 0, ((BR.out.ext HGE3.out).ext g).cell 1, ((BR.out.ext HGE3.out).ext g).cell 2, ((BR.out.ext HGE3.out).ext g).cell 3, ((BR.out.ext HGE3.out).ext g).cell 4, ((BR.out.ext HGE3.out).ext g).cell 5, ((BR.out.ext HGE3.out).ext g).frozen 0, ((BR.out.ext HGE3.out).ext g).frozen 1, ((BR.out.ext HGE3.out).ext g).frozen 2, ((BR.out.ext HGE3.out).ext g).frozen 3, ((BR.out.ext HGE3.out).ext g).frozen 4, ((BR.out.ext HGE3.out).ext g).frozen 5⟩ :
        X.cell? ⟨W1.heap.size, 0, none⟩ = some (.int .i64 P.lo) ∧ X.cell? ⟨W1.heap.size, 1, none⟩ = some (.int .i64 P.hi) ∧ X.cell? ⟨W1.heap.size, 2, none⟩ = some (.slice F1 a1 f1) ∧ X.cell? ⟨W1.heap.size, 3, none⟩ = some (.slice F2 a2 f2) ∧ X.cell? ⟨W1.heap.size, 4, none⟩ = some (.slice F3 a3 f3) ∧ X.cell? ⟨W1.heap.size, 5, none⟩ = some (.int .i64 P.geese) ∧ X.cell? ⟨w.heap.size + 1, 0, none⟩ = some (.int .i64 0) ∧ X.cell? ⟨w.heap.size + 1, 1, none⟩ = some (.int .i64 0) ∧ X.cell? ⟨w.heap.size + 1, 2, none⟩ = some (.slice none 0 0) ∧ X.cell? ⟨w.heap.size + 1, 3, none⟩ = some (.slice none 0 0) ∧ X.cell? ⟨w.heap.size + 1, 4, none⟩ = some (.slice none 0 0) ∧ X.cell? ⟨w.heap.size + 1, 5, none⟩ = some (.int .i64 0) ∧ X.frozen? ⟨w.heap.size + 1, 0, none⟩ = false ∧ X.frozen? ⟨w.heap.size + 1, 1, none⟩ = false ∧ X.frozen? ⟨w.heap.size + 1, 2, none⟩ = false ∧ X.frozen? ⟨w.heap.size + 1, 3, none⟩ = false ∧ X.frozen? ⟨w.heap.size + 1, 4, none⟩ = false ∧ X.frozen? ⟨w.heap.size + 1, 5, none⟩ = false))
       obtain ⟨k0, k1, k2, k3, k4, k5, k6, k7, k8, k9, k10, k11, k12, k13, k14, k15, k16, k17⟩ := HKK.out U3 (Below.refl _ _)
       have s0 := (BP.out.ext HGE3.out).cell 0
       have s1 := (BP.out.ext HGE3.out).cell 1
       have s2 := (BP.out.ext HGE3.out).cell 2
       have s3 := (BP.out.ext HGE3.out).cell 3
       have s4 := (BP.out.ext HGE3.out).cell 4
       have s5 := (BP.out.ext HGE3.out).cell 5
       clear hbo hpo
       go_upto_region 17 with fail
       go_region_with (first
        | (go_at_call 137; (with_reducible refine (HT.out _ ((HPA.out.below HGE3.out).below (Below.refl _ _).drew) HN60.out).mono ?_); rintro e X1 ⟨⟨vv, rfl, ho⟩, g1⟩; have G1 := Lib.hid (show Below U3.heap.size U3 X1 from ((Below.refl _ _).drew).trans (g1.mono (Nat.le_refl _))); obtain ⟨Av9, cv9, hve9, -, -, hia, -⟩ := OwnL.arr kdI ho; subst hve9; have HIA := Lib.hid hia; clear ho hia g1; obtain ⟨j0, j1, j2, j3, j4, j5, j6, j7, j8, j9, j10, j11, j12, j13, j14, j15, j16, j17⟩ := HKK.out X1 G1.out)
        | (go_at_call 47; (with_reducible refine (refHas_any _ _ _ (srcs3 P) so _ HIA.out (by have := HSL.out; omega)).mono ?_); rintro e X2 ⟨rfl, rfl⟩))
       all_goals
        have hn1 := HSZ.out
        have hne : W1.heap.size ≠ w.heap.size + 1 := by omega
        have GEND := Lib.hid (below_setAll6 (GA.out.trans ((HGE3.out.trans (G1.out.mono HGE3.out.size)).mono GA.out.size)) (b := w.heap.size + 1) (Nat.le_succ _) (.int .i64 P.lo) (.int .i64 P.hi) (.slice F1 a1 f1) (.slice F2 a2 f2) (.slice F3 a3 f3) (.int .i64 P.geese))
        have PAEND := Lib.hid (PAQ.out _ G1.out)
        have hb9 := (((((((BR.out.ext HGE3.out).ext G1.out).set_ 0 (.int .i64 P.lo)).set_ 1 (.int .i64 P.hi)).set_ 2 (.slice F1 a1 f1)).set_ 3 (.slice F2 a2 f2)).set_ 4 (.slice F3 a3 f3)).set_ 5 (.int .i64 P.geese)
        have q0 := hb9.cell 0
        have q1 := hb9.cell 1
        have q2 := hb9.cell 2
        have q3 := hb9.cell 3
        have q4 := hb9.cell 4
        have q5 := hb9.cell 5
        clear hb9
        (try go_wp2_with fail)
        refine bodyPost_ret (v := .tuple #[plv (withoutP P so) F1 F2 F3 a1 f1 a2 f2 a3 f3, .bool (hasI (srcs3 P) so)]) ?_ rfl ⟨⟨F1, a1, f1, F2, a2, f2, F3, a3, f3, rfl, ?_⟩, ?_⟩
        ·simp [results, Tryz.results125, go_sem, q0, q1, q2, q3, q4, q5, HWP.out]
        ·exact PAEND.out.mono (by have := HSZ.out; omega)
        ·exact GEND.out
end Go.Proofs.YtkoejeghihcmlaaGreat

namespace Go.Proofs.YtkoejeghihcmlaaGreat
open Go.RowKit Go.Shelf
theorem OwnP.zero (W : World) (B : Nat) : OwnP W B zeroPl none none none 0 0 0 0 0 0 := ⟨OwnL.nil _ _, OwnL.nil _ _, OwnL.nil _ _⟩
set_option maxRecDepth 100000 in
set_option maxHeartbeats 8000000 in
theorem refWio_any (p : Pl) (A1 A2 A3 : Option Addr) (n1 c1 n2 c2 n3 c3 : Nat) (so : Int) (w : World) (hp : Pa w p A1 A2 A3 n1 c1 n2 c2 n3 c3) :
  Calls Tryz.prog 62 #[plv p A1 A2 A3 n1 c1 n2 c2 n3 c3, .int .i64 so] w fun e w' => (∃ F1 a1 f1 F2 a2 f2 F3 a3 f3, e = .returned (.tuple #[plv (wioP p so) F1 F2 F3 a1 f1 a2 f2 a3 f3, .int .i64 (wioE p so)]) ∧ OwnP w' w.heap.size (wioP p so) F1 F2 F3 a1 f1 a2 f2 a3 f3) ∧ Below w.heap.size w w' := by
 obtain ⟨W1, hW1⟩ : ∃ W1, (w.alloc (.cells (plb p A1 A2 A3 n1 c1 n2 c2 n3 c3) 38)).alloc (.cells #[.int .i64 0, .int .i64 0, .slice none 0 0, .slice none 0 0, .slice none 0 0, .int .i64 0] 38) = W1 := ⟨_, rfl⟩
 have g0 : Below w.heap.size w W1 := by rw [← hW1]; exact two_more _ _ _
 have b0 : Blk W1 w.heap.size 38 (plb p A1 A2 A3 n1 c1 n2 c2 n3 c3) := by rw [← hW1]; exact (Blk.new _ _ _).alloc _
 have b1 : Blk W1 (w.heap.size + 1) 38 #[.int .i64 0, .int .i64 0, .slice none 0 0, .slice none 0 0, .slice none 0 0, .int .i64 0] := by
  rw [← hW1]
  have := Blk.new (w.alloc (.cells (plb p A1 A2 A3 n1 c1 n2 c2 n3 c3) 38)) 38 #[.int .i64 0, .int .i64 0, .slice none 0 0, .slice none 0 0, .slice none 0 0, .int .i64 0]
  rwa [World.size_alloc] at this
 have HSZ := Lib.hid (show W1.heap.size = w.heap.size + 1 + 1 by rw [← hW1]; simp)
 have T1 := refCheck_any p A1 A2 A3 n1 c1 n2 c2 n3 c3 W1 (hp.below g0)
 have HWE := Lib.hid (show wioE p so = if okPl p = true then err (hasI (srcsAll p) so) 3 else 13 from rfl)
 have HWP := Lib.hid (show wioP p so = if wioE p so = 0 then withoutP p so else zeroPl from rfl)
 have HFO := Lib.hid (fun h : okPl p = true => ok_parts h)
 have HSA := Lib.hid (src_all p so)
 obtain ⟨ok, hok⟩ : ∃ b, okPl p = b := ⟨_, rfl⟩
 obtain ⟨we, hwe⟩ : ∃ b, wioE p so = b := ⟨_, rfl⟩
 obtain ⟨wp, hwp⟩ : ∃ b, wioP p so = b := ⟨_, rfl⟩
 rw [hok] at T1 HWE HFO
 rw [hwe] at HWE HWP
 rw [hwp] at HWP
 rw [hwe, hwp]
 have HT1 := Lib.hid T1
 have HPA := Lib.hid (hp.below g0)
 have HB0 := Lib.hid b0
 have HB1 := Lib.hid b1
 have GA := Lib.hid g0
 have HW1 := Lib.hid hW1
 have r0 := b0.cell 0
 have r1 := b0.cell 1
 have r2 := b0.cell 2
 have r3 := b0.cell 3
 have r4 := b0.cell 4
 have r5 := b0.cell 5
 clear T1 hp g0 b0 b1 hW1 hok hwe hwp
 cases ok with
 | false =>
  have HE2 := Lib.hid (show we = 13 from HWE.out)
  have HP2 := Lib.hid (show wp = zeroPl by rw [HWP.out, HE2.out]; rfl)
  go_enter Tryz.func62, Tryz.ntmps62
  go_upto_region 1 with fail
  rw [HW1.out]
  go_upto_region 2 with (go_at_call 66; (with_reducible refine (HT1.out).mono ?_); rintro e V ⟨rfl, hg⟩; have HG1 := Lib.hid hg; clear hg)
  have HBR := Lib.hid (HB1.out.ext HG1.out)
  have s0 := HBR.out.cell 0
  have fz0 := HBR.out.frozen 0
  have s1 := ((HBR.out).set_ 0 (.int .i64 0)).cell 1
  have fz1 := ((HBR.out).set_ 0 (.int .i64 0)).frozen 1
  have s2 := (((HBR.out).set_ 0 (.int .i64 0)).set_ 1 (.int .i64 0)).cell 2
  have fz2 := (((HBR.out).set_ 0 (.int .i64 0)).set_ 1 (.int .i64 0)).frozen 2
  have s3 := ((((HBR.out).set_ 0 (.int .i64 0)).set_ 1 (.int .i64 0)).set_ 2 (.slice none 0 0)).cell 3
  have fz3 := ((((HBR.out).set_ 0 (.int .i64 0)).set_ 1 (.int .i64 0)).set_ 2 (.slice none 0 0)).frozen 3
  have s4 := (((((HBR.out).set_ 0 (.int .i64 0)).set_ 1 (.int .i64 0)).set_ 2 (.slice none 0 0)).set_ 3 (.slice none 0 0)).cell 4
  have fz4 := (((((HBR.out).set_ 0 (.int .i64 0)).set_ 1 (.int .i64 0)).set_ 2 (.slice none 0 0)).set_ 3 (.slice none 0 0)).frozen 4
  have s5 := ((((((HBR.out).set_ 0 (.int .i64 0)).set_ 1 (.int .i64 0)).set_ 2 (.slice none 0 0)).set_ 3 (.slice none 0 0)).set_ 4 (.slice none 0 0)).cell 5
  have fz5 := ((((((HBR.out).set_ 0 (.int .i64 0)).set_ 1 (.int .i64 0)).set_ 2 (.slice none 0 0)).set_ 3 (.slice none 0 0)).set_ 4 (.slice none 0 0)).frozen 5
  have hb9 := ((((((HBR.out).set_ 0 (.int .i64 0)).set_ 1 (.int .i64 0)).set_ 2 (.slice none 0 0)).set_ 3 (.slice none 0 0)).set_ 4 (.slice none 0 0)).set_ 5 (.int .i64 0)
  have y0 := hb9.cell 0
  have y1 := hb9.cell 1
  have y2 := hb9.cell 2
  have y3 := hb9.cell 3
  have y4 := hb9.cell 4
  have y5 := hb9.cell 5
  have GEND := Lib.hid (below_setAll6 (GA.out.trans (HG1.out.mono GA.out.size)) (b := w.heap.size + 1) (Nat.le_succ _) (.int .i64 0) (.int .i64 0) (.slice none 0 0) (.slice none 0 0) (.slice none 0 0) (.int .i64 0))
  clear hb9
  go_wp2_with fail
  refine bodyPost_ret (v := .tuple #[plv zeroPl none none none 0 0 0 0 0 0, .int .i64 13]) ?_ rfl ⟨⟨none, 0, 0, none, 0, 0, none, 0, 0, by rw [HE2.out, HP2.out], by rw [HP2.out]; exact OwnP.zero _ _⟩, GEND.out⟩
  simp [results, Tryz.results62, go_sem, y0, y1, y2, y3, y4, y5, zeroPl]
 | true =>
  have HE1 := Lib.hid (show we = err (hasI (srcsAll p) so) 3 from HWE.out)
  have HNB := Lib.hid (show n1 ≤ 1000 ∧ n2 ≤ 1000 ∧ n3 ≤ 1000 by
   have h1 := HFO.out rfl
   have h2 := HPA.out.l1.1
   have h3 := HPA.out.l2.1
   have h4 := HPA.out.l3.1
   omega)
  clear HFO HWE
  go_enter Tryz.func62, Tryz.ntmps62
  go_upto_region 1 with fail
  rw [HW1.out]
  go_upto_region 3 with (go_at_call 66; (with_reducible refine (HT1.out).mono ?_); rintro e V ⟨rfl, hg⟩; have HG1 := Lib.hid hg; clear hg)
  have T2 := refWithoutP_any p A1 A2 A3 n1 c1 n2 c2 n3 c3 so V (HPA.out.below HG1.out) HNB.out
  rw [HSA.out] at T2
  obtain ⟨fo, hfo⟩ : ∃ b, hasI (srcsAll p) so = b := ⟨_, rfl⟩
  rw [hfo] at T2 HE1
  have HT2 := Lib.hid T2
  have m0 := (HB0.out.ext HG1.out).cell 0
  have m1 := (HB0.out.ext HG1.out).cell 1
  have m2 := (HB0.out.ext HG1.out).cell 2
  have m3 := (HB0.out.ext HG1.out).cell 3
  have m4 := (HB0.out.ext HG1.out).cell 4
  have m5 := (HB0.out.ext HG1.out).cell 5
  clear T2 hfo r0 r1 r2 r3 r4 r5
  go_upto_region 4 with (go_at_call 125; (with_reducible refine (HT2.out).mono ?_); rintro e V3 ⟨⟨F1, a1, f1, F2, a2, f2, F3, a3, f3, rfl, hpq⟩, hg⟩; have HG3 := Lib.hid hg; have HPQ := Lib.hid hpq; clear hg hpq)
  have HQE := Lib.hid (show withoutP p so = withoutP p so from rfl)
  obtain ⟨q, hq⟩ : ∃ q, withoutP p so = q := ⟨_, rfl⟩
  rw [hq] at HPQ HWP ⊢
  obtain ⟨V5, hV5⟩ : ∃ X, V3.alloc (.cells (plb q F1 F2 F3 a1 f1 a2 f2 a3 f3) 38) = X := ⟨_, rfl⟩
  have g5 : Below V3.heap.size V3 V5 := by rw [← hV5]; exact one_more _ _
  have BQ := Lib.hid (show Blk V5 V3.heap.size 38 (plb q F1 F2 F3 a1 f1 a2 f2 a3 f3) by rw [← hV5]; exact Blk.new _ _ _)
  have G5 := Lib.hid (HG1.out.trans ((HG3.out.trans (g5.mono HG3.out.size)).mono HG1.out.size))
  have HPQ5 := Lib.hid (HPQ.out.ext g5)
  have HVB := Lib.hid (show w.heap.size + 1 < V.heap.size by have h1 := HG1.out.size; have h2 := HSZ.out; omega)
  have HVB3 := Lib.hid (show w.heap.size + 1 < V3.heap.size by have h1 := HG3.out.size; have h2 := HVB.out; omega)
  rw [hV5]
  clear hV5 g5 hq m0 m1 m2 m3 m4 m5
  cases fo with
  | false =>
   have HE2 := Lib.hid (show we = 3 from HE1.out)
   have HP2 := Lib.hid (show wp = zeroPl by rw [HWP.out, HE2.out]; rfl)
   go_upto_region 5 with fail
   have HBR := Lib.hid (HB1.out.ext G5.out)
   have s0 := HBR.out.cell 0
   have fz0 := HBR.out.frozen 0
   have s1 := ((HBR.out).set_ 0 (.int .i64 0)).cell 1
   have fz1 := ((HBR.out).set_ 0 (.int .i64 0)).frozen 1
   have s2 := (((HBR.out).set_ 0 (.int .i64 0)).set_ 1 (.int .i64 0)).cell 2
   have fz2 := (((HBR.out).set_ 0 (.int .i64 0)).set_ 1 (.int .i64 0)).frozen 2
   have s3 := ((((HBR.out).set_ 0 (.int .i64 0)).set_ 1 (.int .i64 0)).set_ 2 (.slice none 0 0)).cell 3
   have fz3 := ((((HBR.out).set_ 0 (.int .i64 0)).set_ 1 (.int .i64 0)).set_ 2 (.slice none 0 0)).frozen 3
   have s4 := (((((HBR.out).set_ 0 (.int .i64 0)).set_ 1 (.int .i64 0)).set_ 2 (.slice none 0 0)).set_ 3 (.slice none 0 0)).cell 4
   have fz4 := (((((HBR.out).set_ 0 (.int .i64 0)).set_ 1 (.int .i64 0)).set_ 2 (.slice none 0 0)).set_ 3 (.slice none 0 0)).frozen 4
   have s5 := ((((((HBR.out).set_ 0 (.int .i64 0)).set_ 1 (.int .i64 0)).set_ 2 (.slice none 0 0)).set_ 3 (.slice none 0 0)).set_ 4 (.slice none 0 0)).cell 5
   have fz5 := ((((((HBR.out).set_ 0 (.int .i64 0)).set_ 1 (.int .i64 0)).set_ 2 (.slice none 0 0)).set_ 3 (.slice none 0 0)).set_ 4 (.slice none 0 0)).frozen 5
   have hb9 := ((((((HBR.out).set_ 0 (.int .i64 0)).set_ 1 (.int .i64 0)).set_ 2 (.slice none 0 0)).set_ 3 (.slice none 0 0)).set_ 4 (.slice none 0 0)).set_ 5 (.int .i64 0)
   have y0 := hb9.cell 0
   have y1 := hb9.cell 1
   have y2 := hb9.cell 2
   have y3 := hb9.cell 3
   have y4 := hb9.cell 4
   have y5 := hb9.cell 5
   have GEND := Lib.hid (below_setAll6 (GA.out.trans (G5.out.mono GA.out.size)) (b := w.heap.size + 1) (Nat.le_succ _) (.int .i64 0) (.int .i64 0) (.slice none 0 0) (.slice none 0 0) (.slice none 0 0) (.int .i64 0))
   clear hb9
   go_wp2_with fail
   refine bodyPost_ret (v := .tuple #[plv zeroPl none none none 0 0 0 0 0 0, .int .i64 3]) ?_ rfl ⟨⟨none, 0, 0, none, 0, 0, none, 0, 0, by rw [HE2.out, HP2.out], by rw [HP2.out]; exact OwnP.zero _ _⟩, GEND.out⟩
   simp [results, Tryz.results62, go_sem, y0, y1, y2, y3, y4, y5, zeroPl]
  | true =>
   have HE2 := Lib.hid (show we = 0 from HE1.out)
   have HP2 := Lib.hid (show wp = q by rw [HWP.out, HE2.out]; rfl)
   have x0 := BQ.out.cell 0
   have x1 := BQ.out.cell 1
   have x2 := BQ.out.cell 2
   have x3 := BQ.out.cell 3
   have x4 := BQ.out.cell 4
   have x5 := BQ.out.cell 5
   go_upto_region 6 with fail
   have HOE := Lib.hid (HPQ5.out.setAll6 (b := w.heap.size + 1) (by first | exact HVB.out | exact HVB3.out) (.int .i64 q.lo) (.int .i64 q.hi) (.slice F1 a1 f1) (.slice F2 a2 f2) (.slice F3 a3 f3) (.int .i64 q.geese))
   have HBR := Lib.hid (HB1.out.ext G5.out)
   have s0 := HBR.out.cell 0
   have fz0 := HBR.out.frozen 0
   have s1 := ((HBR.out).set_ 0 (.int .i64 q.lo)).cell 1
   have fz1 := ((HBR.out).set_ 0 (.int .i64 q.lo)).frozen 1
   have s2 := (((HBR.out).set_ 0 (.int .i64 q.lo)).set_ 1 (.int .i64 q.hi)).cell 2
   have fz2 := (((HBR.out).set_ 0 (.int .i64 q.lo)).set_ 1 (.int .i64 q.hi)).frozen 2
   have s3 := ((((HBR.out).set_ 0 (.int .i64 q.lo)).set_ 1 (.int .i64 q.hi)).set_ 2 (.slice F1 a1 f1)).cell 3
   have fz3 := ((((HBR.out).set_ 0 (.int .i64 q.lo)).set_ 1 (.int .i64 q.hi)).set_ 2 (.slice F1 a1 f1)).frozen 3
   have s4 := (((((HBR.out).set_ 0 (.int .i64 q.lo)).set_ 1 (.int .i64 q.hi)).set_ 2 (.slice F1 a1 f1)).set_ 3 (.slice F2 a2 f2)).cell 4
   have fz4 := (((((HBR.out).set_ 0 (.int .i64 q.lo)).set_ 1 (.int .i64 q.hi)).set_ 2 (.slice F1 a1 f1)).set_ 3 (.slice F2 a2 f2)).frozen 4
   have s5 := ((((((HBR.out).set_ 0 (.int .i64 q.lo)).set_ 1 (.int .i64 q.hi)).set_ 2 (.slice F1 a1 f1)).set_ 3 (.slice F2 a2 f2)).set_ 4 (.slice F3 a3 f3)).cell 5
   have fz5 := ((((((HBR.out).set_ 0 (.int .i64 q.lo)).set_ 1 (.int .i64 q.hi)).set_ 2 (.slice F1 a1 f1)).set_ 3 (.slice F2 a2 f2)).set_ 4 (.slice F3 a3 f3)).frozen 5
   have hb9 := ((((((HBR.out).set_ 0 (.int .i64 q.lo)).set_ 1 (.int .i64 q.hi)).set_ 2 (.slice F1 a1 f1)).set_ 3 (.slice F2 a2 f2)).set_ 4 (.slice F3 a3 f3)).set_ 5 (.int .i64 q.geese)
   have y0 := hb9.cell 0
   have y1 := hb9.cell 1
   have y2 := hb9.cell 2
   have y3 := hb9.cell 3
   have y4 := hb9.cell 4
   have y5 := hb9.cell 5
   have GEND := Lib.hid (below_setAll6 (GA.out.trans (G5.out.mono GA.out.size)) (b := w.heap.size + 1) (Nat.le_succ _) (.int .i64 q.lo) (.int .i64 q.hi) (.slice F1 a1 f1) (.slice F2 a2 f2) (.slice F3 a3 f3) (.int .i64 q.geese))
   clear hb9
   go_wp2_with fail
   refine bodyPost_ret (v := .tuple #[plv q F1 F2 F3 a1 f1 a2 f2 a3 f3, .int .i64 0]) ?_ rfl ⟨⟨F1, a1, f1, F2, a2, f2, F3, a3, f3, by rw [HE2.out, HP2.out], by rw [HP2.out]; exact HOE.out.mono (by have := HVB.out; omega)⟩, GEND.out⟩
   simp [results, Tryz.results62, go_sem, y0, y1, y2, y3, y4, y5]
end Go.Proofs.YtkoejeghihcmlaaGreat

namespace Go.Proofs.YtkoejeghihcmlaaGreat
open Go.RowKit Go.Shelf
def RStEnd (q : Pl) (code : Int) (w : World) (e : Ending) (w' : World) : Prop :=
 (∃ F1 a1 f1 F2 a2 f2 F3 a3 f3, e = .returned (.tuple #[plv q F1 F2 F3 a1 f1 a2 f2 a3 f3, .int .i64 code]) ∧ OwnP w' w.heap.size q F1 F2 F3 a1 f1 a2 f2 a3 f3) ∧ Below w.heap.size w w'
set_option maxRecDepth 100000 in
set_option maxHeartbeats 8000000 in
theorem refStBad_any (p : Pl) (A1 A2 A3 : Option Addr) (n1 c1 n2 c2 n3 c3 : Nat) (x : Six) (w : World) (hp : Pa w p A1 A2 A3 n1 c1 n2 c2 n3 c3) (hok : okPl p = false) :
  Calls Tryz.prog 61 #[plv p A1 A2 A3 n1 c1 n2 c2 n3 c3, sv x] w (RStEnd zeroPl 13 w) := by
 unfold RStEnd
 obtain ⟨W1, hW1⟩ : ∃ W1, ((w.alloc (.cells (plb p A1 A2 A3 n1 c1 n2 c2 n3 c3) 38)).alloc (.cells #[.int .i64 x.a, .int .i64 x.b, .int .i64 x.c, .int .i64 x.d, .int .i64 x.e, .int .i64 x.f] 105)).alloc (.cells #[.int .i64 0, .int .i64 0, .slice none 0 0, .slice none 0 0, .slice none 0 0, .int .i64 0] 38) = W1 := ⟨_, rfl⟩
 have g1 : Below w.heap.size w W1 := by rw [← hW1]; exact three_more _ _ _ _
 have b1 : Blk W1 w.heap.size 38 (plb p A1 A2 A3 n1 c1 n2 c2 n3 c3) := by rw [← hW1]; exact ((Blk.new _ _ _).alloc _).alloc _
 have b2 : Blk W1 (w.heap.size + 1) 105 #[.int .i64 x.a, .int .i64 x.b, .int .i64 x.c, .int .i64 x.d, .int .i64 x.e, .int .i64 x.f] := by rw [← hW1]; exact blk3_2 _ _ _ _ _
 have b3 : Blk W1 (w.heap.size + 1 + 1) 38 #[.int .i64 0, .int .i64 0, .slice none 0 0, .slice none 0 0, .slice none 0 0, .int .i64 0] := by rw [← hW1]; exact blk3_3 _ _ _ _ _
 have p0 := b1.cell 0
 have p1 := b1.cell 1
 have p2 := b1.cell 2
 have p3 := b1.cell 3
 have p4 := b1.cell 4
 have p5 := b1.cell 5
 have HPA := Lib.hid (hp.below g1)
 have HB1 := Lib.hid b1
 have HB2 := Lib.hid b2
 have HB3 := Lib.hid b3
 have G1 := Lib.hid g1
 have HW1 := Lib.hid hW1
 have hb3l := HB3.out.lt
 have T := refCheck_any p A1 A2 A3 n1 c1 n2 c2 n3 c3 W1 HPA.out
 rw [hok, show err false 13 = 13 from rfl] at T
 have HT := Lib.hid T
 clear T hp g1 b1 b2 b3 hW1 hok
 go_enter Tryz.func61, Tryz.ntmps61
 go_upto_region 1 with fail
 rw [HW1.out]
 go_upto_region 2 with (go_at_call 66; (with_reducible refine (HT.out).mono ?_); rintro e V2 ⟨rfl, hg⟩; have G2 := Lib.hid hg; clear hg)
 have HB9 := Lib.hid (HB3.out.ext G2.out)
 have GALL := Lib.hid (G1.out.trans (G2.out.mono G1.out.size))
 clear p0 p1 p2 p3 p4 p5
 have m0 := HB9.out.cell 0
 have z0 := HB9.out.frozen 0
 have m1 := HB9.out.cell 1
 have z1 := HB9.out.frozen 1
 have m2 := HB9.out.cell 2
 have z2 := HB9.out.frozen 2
 have m3 := HB9.out.cell 3
 have z3 := HB9.out.frozen 3
 have m4 := HB9.out.cell 4
 have z4 := HB9.out.frozen 4
 have m5 := HB9.out.cell 5
 have z5 := HB9.out.frozen 5
 go_wp2_with fail
 have hb9 := HB9.out.setAll6 (.int .i64 0) (.int .i64 0) (.slice none 0 0) (.slice none 0 0) (.slice none 0 0) (.int .i64 0)
 have HG9 := Lib.hid (below_setAll6 (b := w.heap.size + 1 + 1) GALL.out (by omega) (.int .i64 0) (.int .i64 0) (.slice none 0 0) (.slice none 0 0) (.slice none 0 0) (.int .i64 0))
 have t0 := hb9.cell 0
 have t1 := hb9.cell 1
 have t2 := hb9.cell 2
 have t3 := hb9.cell 3
 have t4 := hb9.cell 4
 have t5 := hb9.cell 5
 clear hb9
 refine bodyPost_ret (v := .tuple #[plv zeroPl none none none 0 0 0 0 0 0, .int .i64 13]) ?_ rfl ⟨⟨none, 0, 0, none, 0, 0, none, 0, 0, rfl, OwnP.zero _ _⟩, HG9.out⟩
 simp [results, Tryz.results61, go_sem, t0, t1, t2, t3, t4, t5, zeroPl]
set_option maxRecDepth 100000 in
set_option maxHeartbeats 8000000 in
theorem refStInv_any (p : Pl) (A1 A2 A3 : Option Addr) (n1 c1 n2 c2 n3 c3 : Nat) (x : Six) (w : World) (hp : Pa w p A1 A2 A3 n1 c1 n2 c2 n3 c3) (hok : okPl p = true) (hx : isLoad x = false) :
  Calls Tryz.prog 61 #[plv p A1 A2 A3 n1 c1 n2 c2 n3 c3, sv x] w (RStEnd zeroPl 11 w) := by
 unfold RStEnd
 obtain ⟨W1, hW1⟩ : ∃ W1, ((w.alloc (.cells (plb p A1 A2 A3 n1 c1 n2 c2 n3 c3) 38)).alloc (.cells #[.int .i64 x.a, .int .i64 x.b, .int .i64 x.c, .int .i64 x.d, .int .i64 x.e, .int .i64 x.f] 105)).alloc (.cells #[.int .i64 0, .int .i64 0, .slice none 0 0, .slice none 0 0, .slice none 0 0, .int .i64 0] 38) = W1 := ⟨_, rfl⟩
 have g1 : Below w.heap.size w W1 := by rw [← hW1]; exact three_more _ _ _ _
 have b1 : Blk W1 w.heap.size 38 (plb p A1 A2 A3 n1 c1 n2 c2 n3 c3) := by rw [← hW1]; exact ((Blk.new _ _ _).alloc _).alloc _
 have b2 : Blk W1 (w.heap.size + 1) 105 #[.int .i64 x.a, .int .i64 x.b, .int .i64 x.c, .int .i64 x.d, .int .i64 x.e, .int .i64 x.f] := by rw [← hW1]; exact blk3_2 _ _ _ _ _
 have b3 : Blk W1 (w.heap.size + 1 + 1) 38 #[.int .i64 0, .int .i64 0, .slice none 0 0, .slice none 0 0, .slice none 0 0, .int .i64 0] := by rw [← hW1]; exact blk3_3 _ _ _ _ _
 have p0 := b1.cell 0
 have p1 := b1.cell 1
 have p2 := b1.cell 2
 have p3 := b1.cell 3
 have p4 := b1.cell 4
 have p5 := b1.cell 5
 have HPA := Lib.hid (hp.below g1)
 have HB1 := Lib.hid b1
 have HB2 := Lib.hid b2
 have HB3 := Lib.hid b3
 have G1 := Lib.hid g1
 have HW1 := Lib.hid hW1
 have hb3l := HB3.out.lt
 have T := refCheck_any p A1 A2 A3 n1 c1 n2 c2 n3 c3 W1 HPA.out
 rw [hok, show err true 13 = 0 from rfl] at T
 have HT := Lib.hid T
 have HSX := Lib.hid (fun W => by have := refStand_any x W; rwa [hx, show err false 11 = 11 from rfl] at this)
 clear T hp g1 b1 b2 b3 hW1 hok hx
 go_enter Tryz.func61, Tryz.ntmps61
 go_upto_region 1 with fail
 rw [HW1.out]
 go_upto_region 3 with (go_at_call 66; (with_reducible refine (HT.out).mono ?_); rintro e V2 ⟨rfl, hg⟩; have G2 := Lib.hid hg; clear hg)
 clear p0 p1 p2 p3 p4 p5
 have y2 := HB2.out.ext G2.out
 have y6 := cellW (y2.cell 0)
 have y7 := cellW (y2.cell 1)
 have y8 := cellW (y2.cell 2)
 have y9 := cellW (y2.cell 3)
 have ya := cellW (y2.cell 4)
 have yb := cellW (y2.cell 5)
 clear y2
 go_cut [22] from 13 to 22 (fun s22 wx => s22 = .bool true ∧ Below W1.heap.size W1 wx)
 case first =>
  refine wp_region_calm V2 (by kernel_rfl) (by kernel_rfl) (Below.refl _ _) ?_
  repeat (go_big_quiet_step (first | (go_at_call 70; exact callsCalm (HSX.out _))))
  refine wpQuiet_nil ?_
  rintro _ ⟨z, rfl⟩
  have GZ := Lib.hid (G2.out.trans (z.ok.mono G2.out.size))
  all_goals (try go_wp2_with fail)
  all_goals go_meet
  all_goals exact ⟨rfl, GZ.out⟩
 case rest =>
  obtain ⟨rfl, hg⟩ := hcut
  have HB9 := Lib.hid (HB3.out.ext hg)
  have GALL := Lib.hid (G1.out.trans (hg.mono G1.out.size))
  clear hg
  have m0 := HB9.out.cell 0
  have z0 := HB9.out.frozen 0
  have m1 := HB9.out.cell 1
  have z1 := HB9.out.frozen 1
  have m2 := HB9.out.cell 2
  have z2 := HB9.out.frozen 2
  have m3 := HB9.out.cell 3
  have z3 := HB9.out.frozen 3
  have m4 := HB9.out.cell 4
  have z4 := HB9.out.frozen 4
  have m5 := HB9.out.cell 5
  have z5 := HB9.out.frozen 5
  go_wp2_with fail
  have hb9 := HB9.out.setAll6 (.int .i64 0) (.int .i64 0) (.slice none 0 0) (.slice none 0 0) (.slice none 0 0) (.int .i64 0)
  have HG9 := Lib.hid (below_setAll6 (b := w.heap.size + 1 + 1) GALL.out (by omega) (.int .i64 0) (.int .i64 0) (.slice none 0 0) (.slice none 0 0) (.slice none 0 0) (.int .i64 0))
  have t0 := hb9.cell 0
  have t1 := hb9.cell 1
  have t2 := hb9.cell 2
  have t3 := hb9.cell 3
  have t4 := hb9.cell 4
  have t5 := hb9.cell 5
  clear hb9
  refine bodyPost_ret (v := .tuple #[plv zeroPl none none none 0 0 0 0 0 0, .int .i64 11]) ?_ rfl ⟨⟨none, 0, 0, none, 0, 0, none, 0, 0, rfl, OwnP.zero _ _⟩, HG9.out⟩
  simp [results, Tryz.results61, go_sem, t0, t1, t2, t3, t4, t5, zeroPl]
set_option maxRecDepth 100000 in
set_option maxHeartbeats 8000000 in
theorem refStHas_any (p : Pl) (A1 A2 A3 : Option Addr) (n1 c1 n2 c2 n3 c3 : Nat) (x : Six) (w : World) (hp : Pa w p A1 A2 A3 n1 c1 n2 c2 n3 c3) (hok : okPl p = true) (hx : isLoad x = true) (hh : hasI (srcsAll p) x.a = true) :
  Calls Tryz.prog 61 #[plv p A1 A2 A3 n1 c1 n2 c2 n3 c3, sv x] w (RStEnd zeroPl 11 w) := by
 unfold RStEnd
 obtain ⟨W1, hW1⟩ : ∃ W1, ((w.alloc (.cells (plb p A1 A2 A3 n1 c1 n2 c2 n3 c3) 38)).alloc (.cells #[.int .i64 x.a, .int .i64 x.b, .int .i64 x.c, .int .i64 x.d, .int .i64 x.e, .int .i64 x.f] 105)).alloc (.cells #[.int .i64 0, .int .i64 0, .slice none 0 0, .slice none 0 0, .slice none 0 0, .int .i64 0] 38) = W1 := ⟨_, rfl⟩
 have g1 : Below w.heap.size w W1 := by rw [← hW1]; exact three_more _ _ _ _
 have b1 : Blk W1 w.heap.size 38 (plb p A1 A2 A3 n1 c1 n2 c2 n3 c3) := by rw [← hW1]; exact ((Blk.new _ _ _).alloc _).alloc _
 have b2 : Blk W1 (w.heap.size + 1) 105 #[.int .i64 x.a, .int .i64 x.b, .int .i64 x.c, .int .i64 x.d, .int .i64 x.e, .int .i64 x.f] := by rw [← hW1]; exact blk3_2 _ _ _ _ _
 have b3 : Blk W1 (w.heap.size + 1 + 1) 38 #[.int .i64 0, .int .i64 0, .slice none 0 0, .slice none 0 0, .slice none 0 0, .int .i64 0] := by rw [← hW1]; exact blk3_3 _ _ _ _ _
 have p0 := b1.cell 0
 have p1 := b1.cell 1
 have p2 := b1.cell 2
 have p3 := b1.cell 3
 have p4 := b1.cell 4
 have p5 := b1.cell 5
 have HPA := Lib.hid (hp.below g1)
 have HB1 := Lib.hid b1
 have HB2 := Lib.hid b2
 have HB3 := Lib.hid b3
 have G1 := Lib.hid g1
 have HW1 := Lib.hid hW1
 have hb3l := HB3.out.lt
 have T := refCheck_any p A1 A2 A3 n1 c1 n2 c2 n3 c3 W1 HPA.out
 rw [hok, show err true 13 = 0 from rfl] at T
 have HT := Lib.hid T
 have HPO := Lib.hid (ok_parts hok)
 have HN := Lib.hid (show n1 ≤ 1000 ∧ n2 ≤ 1000 ∧ n3 ≤ 1000 by
  have h1 := HPO.out.2.2.2.2.2.1
  have h2 := HPO.out.2.2.2.2.2.2.1
  have h3 := HPO.out.2.2.2.2.2.2.2.1
  have k1 := HPA.out.l1.1
  have k2 := HPA.out.l2.1
  have k3 := HPA.out.l3.1
  omega)
 have HSL := Lib.hid (show (srcs3 p).length ≤ 1000000 by
  have h1 := HPO.out.2.2.2.2.2.1
  have h2 := HPO.out.2.2.2.2.2.2.1
  have h3 := HPO.out.2.2.2.2.2.2.2.1
  unfold srcs3 srcs
  rw [List.length_append, List.length_append, List.length_map, List.length_map, List.length_map]
  omega)
 have HSX := Lib.hid (fun W => by have := refStand_any x W; rwa [hx, show err true 11 = 0 from rfl] at this)
 have HSR := Lib.hid (fun W (g : Below W1.heap.size W1 W) => refSources_any p A1 A2 A3 n1 c1 n2 c2 n3 c3 W (HPA.out.below g) HN.out)
 have HHH := Lib.hid (show hasI (srcs3 p) x.a = _ from (src_all p x.a).trans hh)
 clear T hp g1 b1 b2 b3 hW1 hok hx hh
 go_enter Tryz.func61, Tryz.ntmps61
 go_upto_region 1 with fail
 rw [HW1.out]
 go_upto_region 3 with (go_at_call 66; (with_reducible refine (HT.out).mono ?_); rintro e V2 ⟨rfl, hg⟩; have G2 := Lib.hid hg; clear hg)
 clear p0 p1 p2 p3 p4 p5
 have HKP := Lib.hid (fun X (g : Below V2.heap.size V2 X) => (⟨((HB1.out.ext G2.out).ext g).cell 0, ((HB1.out.ext G2.out).ext g).cell 1, ((HB1.out.ext G2.out).ext g).cell 2, ((HB1.out.ext G2.out).ext g).cell 3, ((HB1.out.ext G2.out).ext g).cell 4, ((HB1.out.ext G2.out).ext g).cell 5, ((HB2.out.ext G2.out).ext g).cell 0, ((HB2.out.ext G2.out).ext g).cell 1, ((HB2.out.ext G2.out).ext g).cell 2, ((HB2.out.ext G2.out).ext g).cell 3, ((HB2.out.ext G2.out).ext g).cell 4, ((HB2.out.ext G2.out).ext g).cell 5⟩ : X.cell? ⟨w.heap.size, 0, none⟩ = some (.int .i64 p.lo) ∧ X.cell? ⟨w.heap.size, 1, none⟩ = some (.int .i64 p.hi) ∧ X.cell? ⟨w.heap.size, 2, none⟩ = some (.slice A1 n1 c1) ∧ X.cell? ⟨w.heap.size, 3, none⟩ = some (.slice A2 n2 c2) ∧ X.cell? ⟨w.heap.size, 4, none⟩ = some (.slice A3 n3 c3) ∧ X.cell? ⟨w.heap.size, 5, none⟩ = some (.int .i64 p.geese) ∧ X.cell? ⟨w.heap.size + 1, 0, none⟩ = some (.int .i64 x.a) ∧ X.cell? ⟨w.heap.size + 1, 1, none⟩ = some (.int .i64 x.b) ∧ X.cell? ⟨w.heap.size + 1, 2, none⟩ = some (.int .i64 x.c) ∧ X.cell? ⟨w.heap.size + 1, 3, none⟩ = some (.int .i64 x.d) ∧ X.cell? ⟨w.heap.size + 1, 4, none⟩ = some (.int .i64 x.e) ∧ X.cell? ⟨w.heap.size + 1, 5, none⟩ = some (.int .i64 x.f)))
 obtain ⟨y0, y1, y2, y3, y4, y5, y6, y7, y8, y9, ya, yb⟩ := HKP.out V2 (Below.refl _ _)
 go_cut [22] from 13 to 22 (fun s22 wx => s22 = .bool true ∧ Below W1.heap.size W1 wx)
 case first =>
  go_region_held3 (fun X => X.cell? ⟨w.heap.size, 0, none⟩ = some (.int .i64 p.lo) ∧ X.cell? ⟨w.heap.size, 1, none⟩ = some (.int .i64 p.hi) ∧ X.cell? ⟨w.heap.size, 2, none⟩ = some (.slice A1 n1 c1) ∧ X.cell? ⟨w.heap.size, 3, none⟩ = some (.slice A2 n2 c2) ∧ X.cell? ⟨w.heap.size, 4, none⟩ = some (.slice A3 n3 c3) ∧ X.cell? ⟨w.heap.size, 5, none⟩ = some (.int .i64 p.geese) ∧ X.cell? ⟨w.heap.size + 1, 0, none⟩ = some (.int .i64 x.a) ∧ X.cell? ⟨w.heap.size + 1, 1, none⟩ = some (.int .i64 x.b) ∧ X.cell? ⟨w.heap.size + 1, 2, none⟩ = some (.int .i64 x.c) ∧ X.cell? ⟨w.heap.size + 1, 3, none⟩ = some (.int .i64 x.d) ∧ X.cell? ⟨w.heap.size + 1, 4, none⟩ = some (.int .i64 x.e) ∧ X.cell? ⟨w.heap.size + 1, 5, none⟩ = some (.int .i64 x.f))
   (with_reducible refine HKP.out _ ?_; repeat' first | (with_reducible exact Below.refl _ _) | (with_reducible exact GB.out) | (with_reducible exact GA.out) | (with_reducible refine Below.drew ?_))
   (first
    | (go_at_call 70; (with_reducible refine (HSX.out _).mono ?_); rintro e VA ⟨rfl, hg⟩; have GA := Lib.hid (show Below V2.heap.size V2 VA from (Below.refl _ _).drew.trans hg); clear hg)
    | (go_at_call 137; (with_reducible refine (HSR.out _ (G2.out.trans (GA.out.mono G2.out.size))).mono ?_); rintro e VB ⟨⟨v, rfl, ho⟩, hg⟩; obtain ⟨D, c, hv, -, -, hi, -⟩ := OwnL.arr kdI ho; subst hv; have HI := Lib.hid hi; have GB := Lib.hid (show Below V2.heap.size V2 VB from GA.out.trans (hg.mono GA.out.size)); clear ho hg hi)
    | (go_at_call 47; (with_reducible refine (refHas_any _ _ _ _ x.a _ HI.out (by have := HSL.out; omega)).mono ?_); rintro e V4 ⟨rfl, rfl⟩; rw [HHH.out]))
  all_goals (try go_wp2_with fail)
  all_goals go_meet
  all_goals exact ⟨rfl, G2.out.trans (GB.out.mono G2.out.size)⟩
 case rest =>
  obtain ⟨rfl, hg⟩ := hcut
  have HB9 := Lib.hid (HB3.out.ext hg)
  have GALL := Lib.hid (G1.out.trans (hg.mono G1.out.size))
  clear hg y0 y1 y2 y3 y4 y5 y6 y7 y8 y9 ya yb
  have m0 := HB9.out.cell 0
  have z0 := HB9.out.frozen 0
  have m1 := HB9.out.cell 1
  have z1 := HB9.out.frozen 1
  have m2 := HB9.out.cell 2
  have z2 := HB9.out.frozen 2
  have m3 := HB9.out.cell 3
  have z3 := HB9.out.frozen 3
  have m4 := HB9.out.cell 4
  have z4 := HB9.out.frozen 4
  have m5 := HB9.out.cell 5
  have z5 := HB9.out.frozen 5
  go_wp2_with fail
  have hb9 := HB9.out.setAll6 (.int .i64 0) (.int .i64 0) (.slice none 0 0) (.slice none 0 0) (.slice none 0 0) (.int .i64 0)
  have HG9 := Lib.hid (below_setAll6 (b := w.heap.size + 1 + 1) GALL.out (by omega) (.int .i64 0) (.int .i64 0) (.slice none 0 0) (.slice none 0 0) (.slice none 0 0) (.int .i64 0))
  have t0 := hb9.cell 0
  have t1 := hb9.cell 1
  have t2 := hb9.cell 2
  have t3 := hb9.cell 3
  have t4 := hb9.cell 4
  have t5 := hb9.cell 5
  clear hb9
  refine bodyPost_ret (v := .tuple #[plv zeroPl none none none 0 0 0 0 0 0, .int .i64 11]) ?_ rfl ⟨⟨none, 0, 0, none, 0, 0, none, 0, 0, rfl, OwnP.zero _ _⟩, HG9.out⟩
  simp [results, Tryz.results61, go_sem, t0, t1, t2, t3, t4, t5, zeroPl]
set_option maxRecDepth 100000 in
set_option maxHeartbeats 8000000 in
theorem refStFull_any (p : Pl) (A1 A2 A3 : Option Addr) (n1 c1 n2 c2 n3 c3 : Nat) (x : Six) (w : World) (hp : Pa w p A1 A2 A3 n1 c1 n2 c2 n3 c3) (hok : okPl p = true) (hx : isLoad x = true) (hh : hasI (srcsAll p) x.a = false) (hl : p.stands.length = 60) :
  Calls Tryz.prog 61 #[plv p A1 A2 A3 n1 c1 n2 c2 n3 c3, sv x] w (RStEnd zeroPl 2 w) := by
 unfold RStEnd
 obtain ⟨W1, hW1⟩ : ∃ W1, ((w.alloc (.cells (plb p A1 A2 A3 n1 c1 n2 c2 n3 c3) 38)).alloc (.cells #[.int .i64 x.a, .int .i64 x.b, .int .i64 x.c, .int .i64 x.d, .int .i64 x.e, .int .i64 x.f] 105)).alloc (.cells #[.int .i64 0, .int .i64 0, .slice none 0 0, .slice none 0 0, .slice none 0 0, .int .i64 0] 38) = W1 := ⟨_, rfl⟩
 have g1 : Below w.heap.size w W1 := by rw [← hW1]; exact three_more _ _ _ _
 have b1 : Blk W1 w.heap.size 38 (plb p A1 A2 A3 n1 c1 n2 c2 n3 c3) := by rw [← hW1]; exact ((Blk.new _ _ _).alloc _).alloc _
 have b2 : Blk W1 (w.heap.size + 1) 105 #[.int .i64 x.a, .int .i64 x.b, .int .i64 x.c, .int .i64 x.d, .int .i64 x.e, .int .i64 x.f] := by rw [← hW1]; exact blk3_2 _ _ _ _ _
 have b3 : Blk W1 (w.heap.size + 1 + 1) 38 #[.int .i64 0, .int .i64 0, .slice none 0 0, .slice none 0 0, .slice none 0 0, .int .i64 0] := by rw [← hW1]; exact blk3_3 _ _ _ _ _
 have p0 := b1.cell 0
 have p1 := b1.cell 1
 have p2 := b1.cell 2
 have p3 := b1.cell 3
 have p4 := b1.cell 4
 have p5 := b1.cell 5
 have HPA := Lib.hid (hp.below g1)
 have HB1 := Lib.hid b1
 have HB2 := Lib.hid b2
 have HB3 := Lib.hid b3
 have G1 := Lib.hid g1
 have HW1 := Lib.hid hW1
 have hb3l := HB3.out.lt
 have T := refCheck_any p A1 A2 A3 n1 c1 n2 c2 n3 c3 W1 HPA.out
 rw [hok, show err true 13 = 0 from rfl] at T
 have HT := Lib.hid T
 have HPO := Lib.hid (ok_parts hok)
 have HN := Lib.hid (show n1 ≤ 1000 ∧ n2 ≤ 1000 ∧ n3 ≤ 1000 by
  have h1 := HPO.out.2.2.2.2.2.1
  have h2 := HPO.out.2.2.2.2.2.2.1
  have h3 := HPO.out.2.2.2.2.2.2.2.1
  have k1 := HPA.out.l1.1
  have k2 := HPA.out.l2.1
  have k3 := HPA.out.l3.1
  omega)
 have HSL := Lib.hid (show (srcs3 p).length ≤ 1000000 by
  have h1 := HPO.out.2.2.2.2.2.1
  have h2 := HPO.out.2.2.2.2.2.2.1
  have h3 := HPO.out.2.2.2.2.2.2.2.1
  unfold srcs3 srcs
  rw [List.length_append, List.length_append, List.length_map, List.length_map, List.length_map]
  omega)
 have HSX := Lib.hid (fun W => by have := refStand_any x W; rwa [hx, show err true 11 = 0 from rfl] at this)
 have HSR := Lib.hid (fun W (g : Below W1.heap.size W1 W) => refSources_any p A1 A2 A3 n1 c1 n2 c2 n3 c3 W (HPA.out.below g) HN.out)
 have HHH := Lib.hid (show hasI (srcs3 p) x.a = _ from (src_all p x.a).trans hh)
 have hn2 := Lib.hid (show n2 = 60 by rw [← HPA.out.l2.1]; exact hl)
 clear T hp g1 b1 b2 b3 hW1 hok hx hh hl
 go_enter Tryz.func61, Tryz.ntmps61
 go_upto_region 1 with fail
 rw [HW1.out]
 go_upto_region 3 with (go_at_call 66; (with_reducible refine (HT.out).mono ?_); rintro e V2 ⟨rfl, hg⟩; have G2 := Lib.hid hg; clear hg)
 clear p0 p1 p2 p3 p4 p5
 have HKP := Lib.hid (fun X (g : Below V2.heap.size V2 X) => (⟨((HB1.out.ext G2.out).ext g).cell 0, ((HB1.out.ext G2.out).ext g).cell 1, ((HB1.out.ext G2.out).ext g).cell 2, ((HB1.out.ext G2.out).ext g).cell 3, ((HB1.out.ext G2.out).ext g).cell 4, ((HB1.out.ext G2.out).ext g).cell 5, ((HB2.out.ext G2.out).ext g).cell 0, ((HB2.out.ext G2.out).ext g).cell 1, ((HB2.out.ext G2.out).ext g).cell 2, ((HB2.out.ext G2.out).ext g).cell 3, ((HB2.out.ext G2.out).ext g).cell 4, ((HB2.out.ext G2.out).ext g).cell 5⟩ : X.cell? ⟨w.heap.size, 0, none⟩ = some (.int .i64 p.lo) ∧ X.cell? ⟨w.heap.size, 1, none⟩ = some (.int .i64 p.hi) ∧ X.cell? ⟨w.heap.size, 2, none⟩ = some (.slice A1 n1 c1) ∧ X.cell? ⟨w.heap.size, 3, none⟩ = some (.slice A2 n2 c2) ∧ X.cell? ⟨w.heap.size, 4, none⟩ = some (.slice A3 n3 c3) ∧ X.cell? ⟨w.heap.size, 5, none⟩ = some (.int .i64 p.geese) ∧ X.cell? ⟨w.heap.size + 1, 0, none⟩ = some (.int .i64 x.a) ∧ X.cell? ⟨w.heap.size + 1, 1, none⟩ = some (.int .i64 x.b) ∧ X.cell? ⟨w.heap.size + 1, 2, none⟩ = some (.int .i64 x.c) ∧ X.cell? ⟨w.heap.size + 1, 3, none⟩ = some (.int .i64 x.d) ∧ X.cell? ⟨w.heap.size + 1, 4, none⟩ = some (.int .i64 x.e) ∧ X.cell? ⟨w.heap.size + 1, 5, none⟩ = some (.int .i64 x.f)))
 obtain ⟨y0, y1, y2, y3, y4, y5, y6, y7, y8, y9, ya, yb⟩ := HKP.out V2 (Below.refl _ _)
 go_cut [22] from 13 to 22 (fun s22 wx => s22 = .bool false ∧ Below W1.heap.size W1 wx)
 case first =>
  go_region_held3 (fun X => X.cell? ⟨w.heap.size, 0, none⟩ = some (.int .i64 p.lo) ∧ X.cell? ⟨w.heap.size, 1, none⟩ = some (.int .i64 p.hi) ∧ X.cell? ⟨w.heap.size, 2, none⟩ = some (.slice A1 n1 c1) ∧ X.cell? ⟨w.heap.size, 3, none⟩ = some (.slice A2 n2 c2) ∧ X.cell? ⟨w.heap.size, 4, none⟩ = some (.slice A3 n3 c3) ∧ X.cell? ⟨w.heap.size, 5, none⟩ = some (.int .i64 p.geese) ∧ X.cell? ⟨w.heap.size + 1, 0, none⟩ = some (.int .i64 x.a) ∧ X.cell? ⟨w.heap.size + 1, 1, none⟩ = some (.int .i64 x.b) ∧ X.cell? ⟨w.heap.size + 1, 2, none⟩ = some (.int .i64 x.c) ∧ X.cell? ⟨w.heap.size + 1, 3, none⟩ = some (.int .i64 x.d) ∧ X.cell? ⟨w.heap.size + 1, 4, none⟩ = some (.int .i64 x.e) ∧ X.cell? ⟨w.heap.size + 1, 5, none⟩ = some (.int .i64 x.f))
   (with_reducible refine HKP.out _ ?_; repeat' first | (with_reducible exact Below.refl _ _) | (with_reducible exact GB.out) | (with_reducible exact GA.out) | (with_reducible refine Below.drew ?_))
   (first
    | (go_at_call 70; (with_reducible refine (HSX.out _).mono ?_); rintro e VA ⟨rfl, hg⟩; have GA := Lib.hid (show Below V2.heap.size V2 VA from (Below.refl _ _).drew.trans hg); clear hg)
    | (go_at_call 137; (with_reducible refine (HSR.out _ (G2.out.trans (GA.out.mono G2.out.size))).mono ?_); rintro e VB ⟨⟨v, rfl, ho⟩, hg⟩; obtain ⟨D, c, hv, -, -, hi, -⟩ := OwnL.arr kdI ho; subst hv; have HI := Lib.hid hi; have GB := Lib.hid (show Below V2.heap.size V2 VB from GA.out.trans (hg.mono GA.out.size)); clear ho hg hi)
    | (go_at_call 47; (with_reducible refine (refHas_any _ _ _ _ x.a _ HI.out (by have := HSL.out; omega)).mono ?_); rintro e V4 ⟨rfl, rfl⟩; rw [HHH.out]))
  all_goals (try go_wp2_with fail)
  all_goals go_meet
  all_goals exact ⟨rfl, G2.out.trans (GB.out.mono G2.out.size)⟩
 case rest =>
  obtain ⟨rfl, hg⟩ := hcut
  have HB9 := Lib.hid (HB3.out.ext hg)
  have GALL := Lib.hid (G1.out.trans (hg.mono G1.out.size))
  have hz : ((n2 : Int) == 60) = true := by rw [hn2.out]; rfl
  have q6 := (HB1.out.ext hg).cell 3
  clear hg y0 y1 y2 y3 y4 y5 y6 y7 y8 y9 ya yb
  have m0 := HB9.out.cell 0
  have z0 := HB9.out.frozen 0
  have m1 := HB9.out.cell 1
  have z1 := HB9.out.frozen 1
  have m2 := HB9.out.cell 2
  have z2 := HB9.out.frozen 2
  have m3 := HB9.out.cell 3
  have z3 := HB9.out.frozen 3
  have m4 := HB9.out.cell 4
  have z4 := HB9.out.frozen 4
  have m5 := HB9.out.cell 5
  have z5 := HB9.out.frozen 5
  go_wp2_with fail
  have hb9 := HB9.out.setAll6 (.int .i64 0) (.int .i64 0) (.slice none 0 0) (.slice none 0 0) (.slice none 0 0) (.int .i64 0)
  have HG9 := Lib.hid (below_setAll6 (b := w.heap.size + 1 + 1) GALL.out (by omega) (.int .i64 0) (.int .i64 0) (.slice none 0 0) (.slice none 0 0) (.slice none 0 0) (.int .i64 0))
  have t0 := hb9.cell 0
  have t1 := hb9.cell 1
  have t2 := hb9.cell 2
  have t3 := hb9.cell 3
  have t4 := hb9.cell 4
  have t5 := hb9.cell 5
  clear hb9
  refine bodyPost_ret (v := .tuple #[plv zeroPl none none none 0 0 0 0 0 0, .int .i64 2]) ?_ rfl ⟨⟨none, 0, 0, none, 0, 0, none, 0, 0, rfl, OwnP.zero _ _⟩, HG9.out⟩
  simp [results, Tryz.results61, go_sem, t0, t1, t2, t3, t4, t5, zeroPl]
end Go.Proofs.YtkoejeghihcmlaaGreat

namespace Go.Proofs.YtkoejeghihcmlaaGreat
open Go.RowKit Go.Shelf
/-- The days of some elements, put into a list one by one. -/
def rdF (l : List Six) (Z : List Int) : List Int := l.foldl (fun z x => putL (putL z x.e) (max x.e x.f)) Z
theorem rdF_zero (l : List Six) (Z : List Int) : rdF (l.take 0) Z = Z := rfl
theorem rdF_succ {l : List Six} {k : Nat} (hk : k < l.length) (Z : List Int) : rdF (l.take (k + 1)) Z = putL (putL (rdF (l.take k) Z) (l.getD k z6).e) (max (l.getD k z6).e (l.getD k z6).f) := by
 unfold rdF
 rw [six_get hk, List.take_succ_eq_append_getElem hk, List.foldl_append]
 rfl
theorem rdF_len : ∀ (l : List Six) (Z : List Int), (rdF l Z).length ≤ Z.length + 2 * l.length
 | [], _ => by simp [rdF]
 | x :: l, Z => by
  have h1 := rdF_len l (putL (putL Z x.e) (max x.e x.f))
  have h2 := putL_len (putL Z x.e) (max x.e x.f)
  have h3 := putL_len Z x.e
  show (rdF l (putL (putL Z x.e) (max x.e x.f))).length ≤ _
  rw [List.length_cons]
  omega
theorem rdF_up : ∀ (l : List Six) (Z : List Int), Z.Pairwise (· < ·) → (rdF l Z).Pairwise (· < ·)
 | [], _, h => h
 | _ :: l, _, h => rdF_up l _ (putL_up (putL_up h))
theorem rdF_mem {d : Int} : ∀ (l : List Six) (Z : List Int), Z.Pairwise (· < ·) → (d ∈ rdF l Z ↔ d ∈ Z ∨ ∃ x ∈ l, d = x.e ∨ d = max x.e x.f)
 | [], Z, _ => by simp [rdF]
 | x :: l, Z, h => by
  have h1 := rdF_mem (d := d) l (putL (putL Z x.e) (max x.e x.f)) (putL_up (putL_up h))
  show d ∈ rdF l (putL (putL Z x.e) (max x.e x.f)) ↔ _
  rw [h1, putL_mem (putL_up h), putL_mem h]
  constructor
  ·rintro ((h2 | h2 | h2) | ⟨y, hy, h2⟩)
   ·exact .inr ⟨x, by simp, .inr h2⟩
   ·exact .inr ⟨x, by simp, .inl h2⟩
   ·exact .inl h2
   ·exact .inr ⟨y, List.mem_cons_of_mem _ hy, h2⟩
  ·rintro (h2 | ⟨y, hy, h2⟩)
   ·exact .inl (.inr (.inr h2))
   ·rcases List.mem_cons.1 hy with rfl | hy
    ·rcases h2 with h2 | h2
     ·exact .inl (.inr (.inl h2))
     ·exact .inl (.inl h2)
    ·exact .inr ⟨y, hy, h2⟩
/-- A valid element's times. -/
def TimeOk (x : Six) : Prop := x.f = 0 ∨ x.e < x.f
def rdL (p : Pl) : List Int := rdF p.spells (rdF p.stands (rdF p.loads []))
theorem mem_datesT {l : List Six} {d : Int} (h : ∀ x ∈ l, 0 ≤ x.e ∧ TimeOk x) : d ∈ dates l ↔ ∃ x ∈ l, d = x.e ∨ d = max x.e x.f := by
 unfold dates
 rw [List.mem_flatMap]
 constructor
 ·rintro ⟨x, hx, hd⟩
  refine ⟨x, hx, ?_⟩
  have ht := h x hx
  unfold TimeOk at ht
  unfold datL at hd
  split at hd
  ·left; simpa using hd
  ·rcases List.mem_cons.1 hd with e | e
   ·left; exact e
   ·right
    have : d = x.f := by simpa using e
    omega
 ·rintro ⟨x, hx, hd⟩
  refine ⟨x, hx, ?_⟩
  have ht := h x hx
  unfold TimeOk at ht
  unfold datL
  split
  ·rename_i e
   have : d = x.e := by omega
   simp [this]
  ·rename_i e
   have : d = x.e ∨ d = x.f := by omega
   rcases this with e2 | e2 <;> simp [e2]
theorem time_ok {k u : Int} (h : okTimes k u = true) : 0 ≤ k ∧ (u = 0 ∨ k < u) := by
 unfold okTimes at h
 rw [Bool.and_eq_true, Bool.or_eq_true, decide_eq_true_eq, rng_iff, rng_iff] at h
 omega
theorem dates_ref {p : Pl} (hok : okPl p = true) : rdL p = datesL p := by
 have hp := okPl_ref.1 hok
 have hl : ∀ x ∈ p.loads, 0 ≤ x.e ∧ TimeOk x := fun x hx => by
  obtain ⟨j, hj, rfl⟩ := List.getElem_of_mem hx
  have h := hp.2.1 j hj
  unfold okR at h
  rw [Bool.and_eq_true, six_get hj] at h
  have h2 := h.1
  unfold isLoad at h2
  simp only [Bool.and_eq_true] at h2
  exact time_ok (by first | exact h2.2 | exact h2.2.2)
 have hs : ∀ x ∈ p.stands, 0 ≤ x.e ∧ TimeOk x := fun x hx => by
  obtain ⟨j, hj, rfl⟩ := List.getElem_of_mem hx
  have h := hp.2.2.1 j hj
  unfold okR at h
  rw [Bool.and_eq_true, six_get hj] at h
  have h2 := h.1
  unfold isLoad at h2
  simp only [Bool.and_eq_true] at h2
  exact time_ok (by first | exact h2.2 | exact h2.2.2)
 have hq : ∀ x ∈ p.spells, 0 ≤ x.e ∧ TimeOk x := fun x hx => by
  obtain ⟨j, hj, rfl⟩ := List.getElem_of_mem hx
  have h := hp.2.2.2.1 j hj
  unfold okR at h
  rw [Bool.and_eq_true, six_get hj] at h
  have h2 := h.1
  rw [spell_eq] at h2
  simp only [Bool.and_eq_true] at h2
  exact time_ok (by first | exact h2.2 | exact h2.2.2)
 have u1 := rdF_up p.loads [] List.Pairwise.nil
 have u2 := rdF_up p.stands _ u1
 have u3 := rdF_up p.spells _ u2
 refine rise_ext u3 (compact_up (srt_up _)) (fun d => ?_)
 show d ∈ rdF p.spells _ ↔ d ∈ datesL p
 rw [mem_datesL]
 unfold datesAll
 rw [rdF_mem _ _ u2, rdF_mem _ _ u1, rdF_mem _ _ List.Pairwise.nil, List.mem_append, List.mem_append, mem_datesT hl, mem_datesT hs, mem_datesT hq]
 simp
/-- What Dates returns. -/
def DatesEnd (ok : Bool) (l : List Int) (w : World) (e : Ending) (w' : World) : Prop :=
 (∃ D m c, e = .returned (.tuple #[.slice D m c, .int .i64 (err ok 13)]) ∧ Ints w' D m (if ok = true then l else [])) ∧ Below w.heap.size w w'
set_option maxRecDepth 100000 in
set_option maxHeartbeats 8000000 in
theorem refDates_any (p : Pl) (A1 A2 A3 : Option Addr) (n1 c1 n2 c2 n3 c3 : Nat) (w : World) (hp : Pa w p A1 A2 A3 n1 c1 n2 c2 n3 c3) :
  Calls Tryz.prog 63 #[plv p A1 A2 A3 n1 c1 n2 c2 n3 c3] w (DatesEnd (okPl p) (datesL p) w) := by
 obtain ⟨W0, hW0⟩ : ∃ W0, w.alloc (.cells (plb p A1 A2 A3 n1 c1 n2 c2 n3 c3) 38) = W0 := ⟨_, rfl⟩
 have g0 : Below w.heap.size w W0 := by rw [← hW0]; exact one_more _ _
 have b0 : Blk W0 w.heap.size 38 (plb p A1 A2 A3 n1 c1 n2 c2 n3 c3) := by rw [← hW0]; exact Blk.new _ _ _
 have T1 := refCheck_any p A1 A2 A3 n1 c1 n2 c2 n3 c3 W0 (hp.below g0)
 have HFO := Lib.hid (fun h : okPl p = true => ok_parts h)
 have HDR := Lib.hid (fun h : okPl p = true => dates_ref h)
 obtain ⟨ok, hok⟩ : ∃ b, okPl p = b := ⟨_, rfl⟩
 rw [hok] at T1 HFO HDR ⊢
 have HT1 := Lib.hid T1
 have HPA := Lib.hid (hp.below g0)
 have HB0 := Lib.hid b0
 have GA := Lib.hid g0
 have HW0 := Lib.hid hW0
 have r0 := b0.cell 0
 have r1 := b0.cell 1
 have r2 := b0.cell 2
 have r3 := b0.cell 3
 have r4 := b0.cell 4
 have r5 := b0.cell 5
 clear T1 hp g0 b0 hW0 hok
 cases ok with
 | false =>
  go_enter Tryz.func63, Tryz.ntmps63
  go_upto_region 1 with fail
  rw [HW0.out]
  go_wp2_with (go_at_call 66; (with_reducible refine (HT1.out).mono ?_); rintro e V ⟨rfl, hg⟩; have HG1 := Lib.hid hg; clear hg)
  go_ret2
  exact ⟨⟨none, 0, 0, rfl, noNums _⟩, GA.out.trans (HG1.out.mono GA.out.size)⟩
 | true =>
  have HDR2 := Lib.hid (HDR.out rfl)
  have HN60 := Lib.hid (show n1 ≤ 60 ∧ n2 ≤ 60 ∧ n3 ≤ 60 by
   have h1 := HFO.out rfl
   have h2 := HPA.out.l1.1
   have h3 := HPA.out.l2.1
   have h4 := HPA.out.l3.1
   omega)
  clear HFO HDR
  go_enter Tryz.func63, Tryz.ntmps63
  go_upto_region 1 with fail
  rw [HW0.out]
  go_upto_region 3 with (go_at_call 66; (with_reducible refine (HT1.out).mono ?_); rintro e V ⟨rfl, hg⟩; rw [show err true 13 = 0 from rfl]; have HG1 := Lib.hid hg; clear hg)
  have OS0 := Lib.hid (OwnL.nil (f := icells) (size := 1) (e := 3) V V.heap.size)
  have HGE0 := Lib.hid (Below.refl V.heap.size V)
  have HPV := Lib.hid (HPA.out.below HG1.out)
  have BPV := Lib.hid (HB0.out.ext HG1.out)
  have HEND0 := Lib.hid (show OwnL icells 1 3 V V.heap.size (.slice none 0 0) ([] : List Int) from OS0.out)
  clear r0 r1 r2 r3 r4 r5
  go_wp2_with fail
  go_loopw [4, 5] (fun v i wr => ∃ (k : Nat) (u : Value), u = v ∧ i = .int .i64 k ∧ k ≤ n1 ∧ Below V.heap.size V wr ∧ OwnL icells 1 3 wr V.heap.size v (rdF (p.loads.take k) ([] : List Int))) (fun _ i _ => n1 - (intOf i).toNat)
  case atStart => exact ⟨0, _, rfl, rfl, Nat.zero_le _, HGE0.out, by rw [rdF_zero]; exact HEND0.out⟩
  case round =>
   obtain ⟨k, u, rfl, rfl, hk, hg, hown⟩ := hrel
   obtain ⟨wo, rfl⟩ : ∃ wo : World, wo = wr := ⟨_, rfl⟩
   have HG := Lib.hid hg
   have HO := Lib.hid hown
   have q1 := (BPV.out.ext hg).cell 2
   obtain ⟨A, c, hve, -, -, hal, -⟩ := OwnL.arr kdI HO.out
   have HRL := Lib.hid (show (rdF (p.loads.take k) ([] : List Int)).length ≤ 900 by
    have h1 := rdF_len (p.loads.take k) ([] : List Int)
    have h2 := rdF_len p.loads []
    have h3 := rdF_len p.stands (rdF p.loads [])
    have h4 := HPV.out.l1.1
    have h5 := HPV.out.l2.1
    have h6 := HPV.out.l3.1
    have h7 := HN60.out
    rw [List.length_take] at h1
    simp only [List.length_nil] at h1 h2
    omega)
   obtain ⟨rl, hrl⟩ : ∃ l, (rdF (p.loads.take k) ([] : List Int)).length = l := ⟨_, rfl⟩
   rw [hrl] at hve hal HRL
   subst hve
   have HAL := Lib.hid hal
   clear hal hrl hg hown
   by_cases hkn : k < n1
   ·have hki : (k : Int) < (n1 : Int) := by omega
    have HKN := Lib.hid hkn
    have HWK := Lib.hid (show wrap64 ((k : Int) + 1) = (k : Int) + 1 by have h1 := HN60.out; have h2 := HKN.out; unfold wrap64; omega)
    obtain ⟨b0, o0, e0, -, -, hc⟩ := six_at HPV.out.l1 hkn
    have HRS := Lib.hid (rdF_succ (l := p.loads) (k := k) (by rw [HPV.out.l1.1]; exact hkn) ([] : List Int))
    have HCE := Lib.hid (fun X g => (hc X g).2.2.2.2)
    obtain ⟨x, hxg⟩ : ∃ x, p.loads.getD k z6 = x := ⟨_, rfl⟩
    rw [hxg] at HCE HRS
    obtain ⟨R, hR⟩ : ∃ R, rdF (p.loads.take k) ([] : List Int) = R := ⟨_, rfl⟩
    rw [hR] at HRS HO HAL
    subst e0
    clear hc hxg hR
    go_upto_region 7 with fail
    have HKK := Lib.hid (fun X (g : Below wo.heap.size wo X) => (⟨(BPV.out.ext (HG.out.trans (g.mono HG.out.size))).cell 2, (HCE.out X (HG.out.trans (g.mono HG.out.size))).1, (HCE.out X (HG.out.trans (g.mono HG.out.size))).2⟩ : X.cell? ⟨w.heap.size, 2, none⟩ = some (.slice (some ⟨b0, o0, none⟩) n1 c1) ∧ X.cell? ⟨b0, o0 + k * 6 + 4, none⟩ = some (.int .i64 x.e) ∧ X.cell? ⟨b0, o0 + k * 6 + 5, none⟩ = some (.int .i64 x.f)))
    obtain ⟨k0, k1, k2⟩ := HKK.out wo (Below.refl _ _)
    have HTP := Lib.hid (refPut_any A rl c R x.e)
    have HRN := Lib.hid (show R.length = rl from HAL.out.1)
    go_region_held3 (fun X => X.cell? ⟨w.heap.size, 2, none⟩ = some (.slice (some ⟨b0, o0, none⟩) n1 c1) ∧ X.cell? ⟨b0, o0 + k * 6 + 4, none⟩ = some (.int .i64 x.e) ∧ X.cell? ⟨b0, o0 + k * 6 + 5, none⟩ = some (.int .i64 x.f))
     (first | (with_reducible exact HKK.out _ (Below.refl _ _)) | exact HKK.out _ (by exact (Below.refl _ _).drew) | (with_reducible exact HKK.out _ G1.out) | (with_reducible exact HKK.out _ G2.out))
     (first
     | (go_at_call 126; (with_reducible refine (HTP.out _ (HAL.out.below (Below.refl _ _).drew) (Nat.le_trans HRL.out (by decide))).mono ?_); rintro e X1 ⟨⟨vv, rfl, ho⟩, g1⟩; have G1 := Lib.hid (show Below wo.heap.size wo X1 from ((Below.refl _ _).drew).trans (g1.mono (Nat.le_refl _))); have HP1 := Lib.hid (putL_len R x.e); obtain ⟨A9, c9, hv9, -, -, hi9, -⟩ := OwnL.arr kdI ho; obtain ⟨pl, hpl⟩ : ∃ l, (putL R x.e).length = l := ⟨_, rfl⟩; rw [hpl] at hv9 hi9 HP1; subst hv9; have HI9 := Lib.hid hi9; clear ho hi9 hpl g1; obtain ⟨j0, j1, j2⟩ := HKK.out X1 G1.out)
     | (go_at_call 126; (with_reducible refine (refPut_any A9 pl c9 (putL R x.e) (max x.e x.f) _ (HI9.out) (by have h1 := HP1.out; have h2 := HRN.out; have h3 := HRL.out; omega)).mono ?_); rintro e X2 ⟨⟨vv, rfl, ho2⟩, g2⟩; have HO2 := Lib.hid ho2; have G2 := Lib.hid (show Below wo.heap.size wo X2 from G1.out.trans (g2.mono G1.out.size)); clear ho2 g2))
    all_goals
     have hwk := HWK.out
     have hkn9 := HKN.out
     have hn60 := HN60.out
     (try go_wp2_with fail)
     go_roundw
     case rel => exact ⟨k + 1, _, rfl, by go_num, (by have := HKN.out; omega), HG.out.trans (G2.out.mono HG.out.size), by rw [HRS.out]; exact HO2.out.mono (Nat.le_trans HG.out.size G1.out.size)⟩
     case measure => simp [intOf]; omega
   ·obtain rfl : n1 = k := by omega
    have HEND1 := Lib.hid (show OwnL icells 1 3 wo V.heap.size (.slice A rl c) (rdF p.loads ([] : List Int)) by have := HO.out; rwa [List.take_of_length_le (by rw [HPV.out.l1.1]; exact Nat.le_refl _)] at this)
    have HGE1 := Lib.hid HG.out
    obtain ⟨V1, hV1⟩ : ∃ V, wo = V := ⟨_, rfl⟩
    obtain ⟨v1, hv1⟩ : ∃ v, Value.slice A rl c = v := ⟨_, rfl⟩
    rw [hV1] at HEND1 HGE1 ⊢
    rw [hv1] at HEND1 ⊢
    clear HG HO HRL HAL q1 hV1 hv1 hkn hk
    have qy := (BPV.out.ext HGE1.out).cell 2
    go_wp2_with fail
    clear qy
    go_loopw [4, 6] (fun v i wr => ∃ (k : Nat) (u : Value), u = v ∧ i = .int .i64 k ∧ k ≤ n2 ∧ Below V.heap.size V wr ∧ OwnL icells 1 3 wr V.heap.size v (rdF (p.stands.take k) (rdF p.loads []))) (fun _ i _ => n2 - (intOf i).toNat)
    case atStart => exact ⟨0, _, rfl, rfl, Nat.zero_le _, HGE1.out, by rw [rdF_zero]; exact HEND1.out⟩
    case round =>
     obtain ⟨k, u, rfl, rfl, hk, hg, hown⟩ := hrel
     obtain ⟨wo, rfl⟩ : ∃ wo : World, wo = wr := ⟨_, rfl⟩
     have HG := Lib.hid hg
     have HO := Lib.hid hown
     have q1 := (BPV.out.ext hg).cell 3
     obtain ⟨A, c, hve, -, -, hal, -⟩ := OwnL.arr kdI HO.out
     have HRL := Lib.hid (show (rdF (p.stands.take k) (rdF p.loads [])).length ≤ 900 by
      have h1 := rdF_len (p.stands.take k) (rdF p.loads [])
      have h2 := rdF_len p.loads []
      have h3 := rdF_len p.stands (rdF p.loads [])
      have h4 := HPV.out.l1.1
      have h5 := HPV.out.l2.1
      have h6 := HPV.out.l3.1
      have h7 := HN60.out
      rw [List.length_take] at h1
      simp only [List.length_nil] at h1 h2
      omega)
     obtain ⟨rl, hrl⟩ : ∃ l, (rdF (p.stands.take k) (rdF p.loads [])).length = l := ⟨_, rfl⟩
     rw [hrl] at hve hal HRL
     subst hve
     have HAL := Lib.hid hal
     clear hal hrl hg hown
     by_cases hkn : k < n2
     ·have hki : (k : Int) < (n2 : Int) := by omega
      have HKN := Lib.hid hkn
      have HWK := Lib.hid (show wrap64 ((k : Int) + 1) = (k : Int) + 1 by have h1 := HN60.out; have h2 := HKN.out; unfold wrap64; omega)
      obtain ⟨b0, o0, e0, -, -, hc⟩ := six_at HPV.out.l2 hkn
      have HRS := Lib.hid (rdF_succ (l := p.stands) (k := k) (by rw [HPV.out.l2.1]; exact hkn) (rdF p.loads []))
      have HCE := Lib.hid (fun X g => (hc X g).2.2.2.2)
      obtain ⟨x, hxg⟩ : ∃ x, p.stands.getD k z6 = x := ⟨_, rfl⟩
      rw [hxg] at HCE HRS
      obtain ⟨R, hR⟩ : ∃ R, rdF (p.stands.take k) (rdF p.loads []) = R := ⟨_, rfl⟩
      rw [hR] at HRS HO HAL
      subst e0
      clear hc hxg hR
      go_upto_region 11 with fail
      have HKK := Lib.hid (fun X (g : Below wo.heap.size wo X) => (⟨(BPV.out.ext (HG.out.trans (g.mono HG.out.size))).cell 3, (HCE.out X (HG.out.trans (g.mono HG.out.size))).1, (HCE.out X (HG.out.trans (g.mono HG.out.size))).2⟩ : X.cell? ⟨w.heap.size, 3, none⟩ = some (.slice (some ⟨b0, o0, none⟩) n2 c2) ∧ X.cell? ⟨b0, o0 + k * 6 + 4, none⟩ = some (.int .i64 x.e) ∧ X.cell? ⟨b0, o0 + k * 6 + 5, none⟩ = some (.int .i64 x.f)))
      obtain ⟨k0, k1, k2⟩ := HKK.out wo (Below.refl _ _)
      have HTP := Lib.hid (refPut_any A rl c R x.e)
      have HRN := Lib.hid (show R.length = rl from HAL.out.1)
      go_region_held3 (fun X => X.cell? ⟨w.heap.size, 3, none⟩ = some (.slice (some ⟨b0, o0, none⟩) n2 c2) ∧ X.cell? ⟨b0, o0 + k * 6 + 4, none⟩ = some (.int .i64 x.e) ∧ X.cell? ⟨b0, o0 + k * 6 + 5, none⟩ = some (.int .i64 x.f))
       (first | (with_reducible exact HKK.out _ (Below.refl _ _)) | exact HKK.out _ (by exact (Below.refl _ _).drew) | (with_reducible exact HKK.out _ G1.out) | (with_reducible exact HKK.out _ G2.out))
       (first
       | (go_at_call 126; (with_reducible refine (HTP.out _ (HAL.out.below (Below.refl _ _).drew) (Nat.le_trans HRL.out (by decide))).mono ?_); rintro e X1 ⟨⟨vv, rfl, ho⟩, g1⟩; have G1 := Lib.hid (show Below wo.heap.size wo X1 from ((Below.refl _ _).drew).trans (g1.mono (Nat.le_refl _))); have HP1 := Lib.hid (putL_len R x.e); obtain ⟨A9, c9, hv9, -, -, hi9, -⟩ := OwnL.arr kdI ho; obtain ⟨pl, hpl⟩ : ∃ l, (putL R x.e).length = l := ⟨_, rfl⟩; rw [hpl] at hv9 hi9 HP1; subst hv9; have HI9 := Lib.hid hi9; clear ho hi9 hpl g1; obtain ⟨j0, j1, j2⟩ := HKK.out X1 G1.out)
       | (go_at_call 126; (with_reducible refine (refPut_any A9 pl c9 (putL R x.e) (max x.e x.f) _ (HI9.out) (by have h1 := HP1.out; have h2 := HRN.out; have h3 := HRL.out; omega)).mono ?_); rintro e X2 ⟨⟨vv, rfl, ho2⟩, g2⟩; have HO2 := Lib.hid ho2; have G2 := Lib.hid (show Below wo.heap.size wo X2 from G1.out.trans (g2.mono G1.out.size)); clear ho2 g2))
      all_goals
       have hwk := HWK.out
       have hkn9 := HKN.out
       have hn60 := HN60.out
       (try go_wp2_with fail)
       go_roundw
       case rel => exact ⟨k + 1, _, rfl, by go_num, (by have := HKN.out; omega), HG.out.trans (G2.out.mono HG.out.size), by rw [HRS.out]; exact HO2.out.mono (Nat.le_trans HG.out.size G1.out.size)⟩
       case measure => simp [intOf]; omega
     ·obtain rfl : n2 = k := by omega
      have HEND2 := Lib.hid (show OwnL icells 1 3 wo V.heap.size (.slice A rl c) (rdF p.stands (rdF p.loads [])) by have := HO.out; rwa [List.take_of_length_le (by rw [HPV.out.l2.1]; exact Nat.le_refl _)] at this)
      have HGE2 := Lib.hid HG.out
      obtain ⟨V2, hV2⟩ : ∃ V, wo = V := ⟨_, rfl⟩
      obtain ⟨v2, hv2⟩ : ∃ v, Value.slice A rl c = v := ⟨_, rfl⟩
      rw [hV2] at HEND2 HGE2 ⊢
      rw [hv2] at HEND2 ⊢
      clear HG HO HRL HAL q1 hV2 hv2 hkn hk
      have qy := (BPV.out.ext HGE2.out).cell 3
      go_wp2_with fail
      clear qy
      go_loopw [4, 7] (fun v i wr => ∃ (k : Nat) (u : Value), u = v ∧ i = .int .i64 k ∧ k ≤ n3 ∧ Below V.heap.size V wr ∧ OwnL icells 1 3 wr V.heap.size v (rdF (p.spells.take k) (rdF p.stands (rdF p.loads [])))) (fun _ i _ => n3 - (intOf i).toNat)
      case atStart => exact ⟨0, _, rfl, rfl, Nat.zero_le _, HGE2.out, by rw [rdF_zero]; exact HEND2.out⟩
      case round =>
       obtain ⟨k, u, rfl, rfl, hk, hg, hown⟩ := hrel
       obtain ⟨wo, rfl⟩ : ∃ wo : World, wo = wr := ⟨_, rfl⟩
       have HG := Lib.hid hg
       have HO := Lib.hid hown
       have q1 := (BPV.out.ext hg).cell 4
       obtain ⟨A, c, hve, -, -, hal, -⟩ := OwnL.arr kdI HO.out
       have HRL := Lib.hid (show (rdF (p.spells.take k) (rdF p.stands (rdF p.loads []))).length ≤ 900 by
        have h1 := rdF_len (p.spells.take k) (rdF p.stands (rdF p.loads []))
        have h2 := rdF_len p.loads []
        have h3 := rdF_len p.stands (rdF p.loads [])
        have h4 := HPV.out.l1.1
        have h5 := HPV.out.l2.1
        have h6 := HPV.out.l3.1
        have h7 := HN60.out
        rw [List.length_take] at h1
        simp only [List.length_nil] at h1 h2
        omega)
       obtain ⟨rl, hrl⟩ : ∃ l, (rdF (p.spells.take k) (rdF p.stands (rdF p.loads []))).length = l := ⟨_, rfl⟩
       rw [hrl] at hve hal HRL
       subst hve
       have HAL := Lib.hid hal
       clear hal hrl hg hown
       by_cases hkn : k < n3
       ·have hki : (k : Int) < (n3 : Int) := by omega
        have HKN := Lib.hid hkn
        have HWK := Lib.hid (show wrap64 ((k : Int) + 1) = (k : Int) + 1 by have h1 := HN60.out; have h2 := HKN.out; unfold wrap64; omega)
        obtain ⟨b0, o0, e0, -, -, hc⟩ := six_at HPV.out.l3 hkn
        have HRS := Lib.hid (rdF_succ (l := p.spells) (k := k) (by rw [HPV.out.l3.1]; exact hkn) (rdF p.stands (rdF p.loads [])))
        have HCE := Lib.hid (fun X g => (hc X g).2.2.2.2)
        obtain ⟨x, hxg⟩ : ∃ x, p.spells.getD k z6 = x := ⟨_, rfl⟩
        rw [hxg] at HCE HRS
        obtain ⟨R, hR⟩ : ∃ R, rdF (p.spells.take k) (rdF p.stands (rdF p.loads [])) = R := ⟨_, rfl⟩
        rw [hR] at HRS HO HAL
        subst e0
        clear hc hxg hR
        go_upto_region 15 with fail
        have HKK := Lib.hid (fun X (g : Below wo.heap.size wo X) => (⟨(BPV.out.ext (HG.out.trans (g.mono HG.out.size))).cell 4, (HCE.out X (HG.out.trans (g.mono HG.out.size))).1, (HCE.out X (HG.out.trans (g.mono HG.out.size))).2⟩ : X.cell? ⟨w.heap.size, 4, none⟩ = some (.slice (some ⟨b0, o0, none⟩) n3 c3) ∧ X.cell? ⟨b0, o0 + k * 6 + 4, none⟩ = some (.int .i64 x.e) ∧ X.cell? ⟨b0, o0 + k * 6 + 5, none⟩ = some (.int .i64 x.f)))
        obtain ⟨k0, k1, k2⟩ := HKK.out wo (Below.refl _ _)
        have HTP := Lib.hid (refPut_any A rl c R x.e)
        have HRN := Lib.hid (show R.length = rl from HAL.out.1)
        go_region_held3 (fun X => X.cell? ⟨w.heap.size, 4, none⟩ = some (.slice (some ⟨b0, o0, none⟩) n3 c3) ∧ X.cell? ⟨b0, o0 + k * 6 + 4, none⟩ = some (.int .i64 x.e) ∧ X.cell? ⟨b0, o0 + k * 6 + 5, none⟩ = some (.int .i64 x.f))
         (first | (with_reducible exact HKK.out _ (Below.refl _ _)) | exact HKK.out _ (by exact (Below.refl _ _).drew) | (with_reducible exact HKK.out _ G1.out) | (with_reducible exact HKK.out _ G2.out))
         (first
         | (go_at_call 126; (with_reducible refine (HTP.out _ (HAL.out.below (Below.refl _ _).drew) (Nat.le_trans HRL.out (by decide))).mono ?_); rintro e X1 ⟨⟨vv, rfl, ho⟩, g1⟩; have G1 := Lib.hid (show Below wo.heap.size wo X1 from ((Below.refl _ _).drew).trans (g1.mono (Nat.le_refl _))); have HP1 := Lib.hid (putL_len R x.e); obtain ⟨A9, c9, hv9, -, -, hi9, -⟩ := OwnL.arr kdI ho; obtain ⟨pl, hpl⟩ : ∃ l, (putL R x.e).length = l := ⟨_, rfl⟩; rw [hpl] at hv9 hi9 HP1; subst hv9; have HI9 := Lib.hid hi9; clear ho hi9 hpl g1; obtain ⟨j0, j1, j2⟩ := HKK.out X1 G1.out)
         | (go_at_call 126; (with_reducible refine (refPut_any A9 pl c9 (putL R x.e) (max x.e x.f) _ (HI9.out) (by have h1 := HP1.out; have h2 := HRN.out; have h3 := HRL.out; omega)).mono ?_); rintro e X2 ⟨⟨vv, rfl, ho2⟩, g2⟩; have HO2 := Lib.hid ho2; have G2 := Lib.hid (show Below wo.heap.size wo X2 from G1.out.trans (g2.mono G1.out.size)); clear ho2 g2))
        all_goals
         have hwk := HWK.out
         have hkn9 := HKN.out
         have hn60 := HN60.out
         (try go_wp2_with fail)
         go_roundw
         case rel => exact ⟨k + 1, _, rfl, by go_num, (by have := HKN.out; omega), HG.out.trans (G2.out.mono HG.out.size), by rw [HRS.out]; exact HO2.out.mono (Nat.le_trans HG.out.size G1.out.size)⟩
         case measure => simp [intOf]; omega
       ·obtain rfl : n3 = k := by omega
        have HEND3 := Lib.hid (show OwnL icells 1 3 wo V.heap.size (.slice A rl c) (rdF p.spells (rdF p.stands (rdF p.loads []))) by have := HO.out; rwa [List.take_of_length_le (by rw [HPV.out.l3.1]; exact Nat.le_refl _)] at this)
        have HGE3 := Lib.hid HG.out
        go_wp2_with fail
        go_ret2
        have HAE := Lib.hid (show Ints wo A rl (datesL p) by
         obtain ⟨A9, c9, hv9, -, -, hi9, -⟩ := OwnL.arr kdI HEND3.out
         cases hv9
         rw [← HDR2.out]
         exact hi9)
        exact ⟨⟨A, _, c, rfl, HAE.out⟩, GA.out.trans ((HG1.out.trans (HG.out.mono HG1.out.size)).mono GA.out.size)⟩
end Go.Proofs.YtkoejeghihcmlaaGreat

namespace Go.Proofs.YtkoejeghihcmlaaGreat
open Go.RowKit Go.Shelf
set_option maxRecDepth 100000 in
theorem eqlSix103 (x : Six) (w : World) : (binOp .eql 103 (sv x) (sv x)).run Tryz.prog w = .ok (.bool true) w := by
 obtain ⟨a, b, c, d, e, f⟩ := x
 simp [go_sem]
set_option maxRecDepth 100000 in
theorem eqlSix105 (x : Six) (w : World) : (binOp .eql 105 (sv x) (sv x)).run Tryz.prog w = .ok (.bool true) w := by
 obtain ⟨a, b, c, d, e, f⟩ := x
 simp [go_sem]
set_option maxRecDepth 100000 in
theorem eqlSix107 (x : Six) (w : World) : (binOp .eql 107 (sv x) (sv x)).run Tryz.prog w = .ok (.bool true) w := by
 obtain ⟨a, b, c, d, e, f⟩ := x
 simp [go_sem]
set_option maxRecDepth 100000 in
set_option maxHeartbeats 8000000 in
theorem samePlot_any (p : Pl) (A1 A2 A3 B1 B2 B3 : Option Addr) (n1 c1 n2 c2 n3 c3 m1 d1 m2 d2 m3 d3 : Nat) (w : World) (hp : Pa w p A1 A2 A3 n1 c1 n2 c2 n3 c3) (hq : Pa w p B1 B2 B3 m1 d1 m2 d2 m3 d3) :
  Calls Tryz.prog 64 #[plv p A1 A2 A3 n1 c1 n2 c2 n3 c3, plv p B1 B2 B3 m1 d1 m2 d2 m3 d3] w fun e w' => e = .returned (.bool true) ∧ Below w.heap.size w w' := by
 obtain rfl : n1 = m1 := hp.l1.1.symm.trans hq.l1.1
 obtain rfl : n2 = m2 := hp.l2.1.symm.trans hq.l2.1
 obtain rfl : n3 = m3 := hp.l3.1.symm.trans hq.l3.1
 obtain ⟨W1, hW1⟩ : ∃ W1, (w.alloc (.cells (plb p A1 A2 A3 n1 c1 n2 c2 n3 c3) 38)).alloc (.cells (plb p B1 B2 B3 n1 d1 n2 d2 n3 d3) 38) = W1 := ⟨_, rfl⟩
 have g0 : Below w.heap.size w W1 := by rw [← hW1]; exact two_more _ _ _
 have b0 : Blk W1 w.heap.size 38 (plb p A1 A2 A3 n1 c1 n2 c2 n3 c3) := by rw [← hW1]; exact (Blk.new _ _ _).alloc _
 have b1 : Blk W1 (w.heap.size + 1) 38 (plb p B1 B2 B3 n1 d1 n2 d2 n3 d3) := by
  rw [← hW1]
  have := Blk.new (w.alloc (.cells (plb p A1 A2 A3 n1 c1 n2 c2 n3 c3) 38)) 38 (plb p B1 B2 B3 n1 d1 n2 d2 n3 d3)
  rwa [World.size_alloc] at this
 have HPA := Lib.hid (hp.below g0)
 have HQA := Lib.hid (hq.below g0)
 have HB0 := Lib.hid b0
 have HB1 := Lib.hid b1
 have GA := Lib.hid g0
 have HW1 := Lib.hid hW1
 have r0 := b0.cell 0
 have r1 := b0.cell 1
 have r2 := b0.cell 2
 have r3 := b0.cell 3
 have r4 := b0.cell 4
 have r5 := b0.cell 5
 have s0 := b1.cell 0
 have s1 := b1.cell 1
 have s2 := b1.cell 2
 have s3 := b1.cell 3
 have s4 := b1.cell 4
 have s5 := b1.cell 5
 have hm1 := hp.m1.2
 have hm2 := hp.m2.2
 have hm3 := hp.m3.2
 have hq := eqlRg (⟨p.lo, p.hi⟩ : Rg) ⟨p.lo, p.hi⟩
 rw [decide_eq_true rfl] at hq
 clear hp g0 b0 b1 hW1
 go_enter Tryz.func64, Tryz.ntmps64
 go_upto_region 1 with fail
 rw [HW1.out]
 go_wp2_with fail
 clear hq
 go_loopw [5, 6] (fun s i wr => ∃ k : Nat, s = .bool true ∧ i = .int .i64 k ∧ k ≤ n1 ∧ Below W1.heap.size W1 wr) (fun _ i _ => n1 - (intOf i).toNat)
 case atStart => exact ⟨0, rfl, rfl, Nat.zero_le _, Below.refl _ _⟩
 case round =>
  obtain ⟨k, rfl, rfl, hk, hg⟩ := hrel
  obtain ⟨wo, rfl⟩ : ∃ wo : World, wo = wr := ⟨_, rfl⟩
  have HG := Lib.hid hg
  have q1 := (HB0.out.ext hg).cell 2
  have q2 := (HB1.out.ext hg).cell 2
  clear hg
  by_cases hkn : k < n1
  ·have hki : (k : Int) < (n1 : Int) := by omega
   obtain ⟨b0, o0, e0, -, -, hc⟩ := six_at (HPA.out.l1.below HG.out) hkn
   obtain ⟨b9, o9, e9, -, -, hd⟩ := six_at (HQA.out.l1.below HG.out) hkn
   obtain ⟨x, hxg⟩ : ∃ x, p.loads.getD k z6 = x := ⟨_, rfl⟩
   rw [hxg] at hc hd
   obtain ⟨x0, x1, x2, x3, x4, x5⟩ := hc wo (Below.refl _ _)
   obtain ⟨y0, y1, y2, y3, y4, y5⟩ := hd wo (Below.refl _ _)
   subst e0 e9
   have hq := eqlSix103 x
   clear hc hd hxg
   go_upto_region 5 with fail
   go_quiet (fail)
   all_goals
    (try go_wp2_with fail)
    go_roundw
    case rel => exact ⟨k + 1, rfl, by go_num, by omega, ⟨HG.out.os, HG.out.tape, HG.out.output, HG.out.size, HG.out.block⟩⟩
    case measure => simp [intOf]; omega
  ·obtain rfl : n1 = k := by omega
   have HGE1 := Lib.hid HG.out
   obtain ⟨V1, hV1⟩ : ∃ V, wo = V := ⟨_, rfl⟩
   rw [hV1] at HGE1 q1 q2 ⊢
   clear HG hV1 hkn hk
   have qy := (HB0.out.ext HGE1.out).cell 3
   go_wp2_with fail
   clear qy
   go_loopw [5, 7] (fun s i wr => ∃ k : Nat, s = .bool true ∧ i = .int .i64 k ∧ k ≤ n2 ∧ Below W1.heap.size W1 wr) (fun _ i _ => n2 - (intOf i).toNat)
   case atStart => exact ⟨0, rfl, rfl, Nat.zero_le _, HGE1.out⟩
   case round =>
    obtain ⟨k, rfl, rfl, hk, hg⟩ := hrel
    obtain ⟨wo, rfl⟩ : ∃ wo : World, wo = wr := ⟨_, rfl⟩
    have HG := Lib.hid hg
    have q1 := (HB0.out.ext hg).cell 3
    have q2 := (HB1.out.ext hg).cell 3
    clear hg
    by_cases hkn : k < n2
    ·have hki : (k : Int) < (n2 : Int) := by omega
     obtain ⟨b0, o0, e0, -, -, hc⟩ := six_at (HPA.out.l2.below HG.out) hkn
     obtain ⟨b9, o9, e9, -, -, hd⟩ := six_at (HQA.out.l2.below HG.out) hkn
     obtain ⟨x, hxg⟩ : ∃ x, p.stands.getD k z6 = x := ⟨_, rfl⟩
     rw [hxg] at hc hd
     obtain ⟨x0, x1, x2, x3, x4, x5⟩ := hc wo (Below.refl _ _)
     obtain ⟨y0, y1, y2, y3, y4, y5⟩ := hd wo (Below.refl _ _)
     subst e0 e9
     have hq := eqlSix105 x
     clear hc hd hxg
     go_upto_region 9 with fail
     go_quiet (fail)
     all_goals
      (try go_wp2_with fail)
      go_roundw
      case rel => exact ⟨k + 1, rfl, by go_num, by omega, ⟨HG.out.os, HG.out.tape, HG.out.output, HG.out.size, HG.out.block⟩⟩
      case measure => simp [intOf]; omega
    ·obtain rfl : n2 = k := by omega
     have HGE2 := Lib.hid HG.out
     obtain ⟨V2, hV2⟩ : ∃ V, wo = V := ⟨_, rfl⟩
     rw [hV2] at HGE2 q1 q2 ⊢
     clear HG hV2 hkn hk
     have qy := (HB0.out.ext HGE2.out).cell 4
     go_wp2_with fail
     clear qy
     go_loopw [5, 8] (fun s i wr => ∃ k : Nat, s = .bool true ∧ i = .int .i64 k ∧ k ≤ n3 ∧ Below W1.heap.size W1 wr) (fun _ i _ => n3 - (intOf i).toNat)
     case atStart => exact ⟨0, rfl, rfl, Nat.zero_le _, HGE2.out⟩
     case round =>
      obtain ⟨k, rfl, rfl, hk, hg⟩ := hrel
      obtain ⟨wo, rfl⟩ : ∃ wo : World, wo = wr := ⟨_, rfl⟩
      have HG := Lib.hid hg
      have q1 := (HB0.out.ext hg).cell 4
      have q2 := (HB1.out.ext hg).cell 4
      clear hg
      by_cases hkn : k < n3
      ·have hki : (k : Int) < (n3 : Int) := by omega
       obtain ⟨b0, o0, e0, -, -, hc⟩ := six_at (HPA.out.l3.below HG.out) hkn
       obtain ⟨b9, o9, e9, -, -, hd⟩ := six_at (HQA.out.l3.below HG.out) hkn
       obtain ⟨x, hxg⟩ : ∃ x, p.spells.getD k z6 = x := ⟨_, rfl⟩
       rw [hxg] at hc hd
       obtain ⟨x0, x1, x2, x3, x4, x5⟩ := hc wo (Below.refl _ _)
       obtain ⟨y0, y1, y2, y3, y4, y5⟩ := hd wo (Below.refl _ _)
       subst e0 e9
       have hq := eqlSix107 x
       clear hc hd hxg
       go_upto_region 13 with fail
       go_quiet (fail)
       all_goals
        (try go_wp2_with fail)
        go_roundw
        case rel => exact ⟨k + 1, rfl, by go_num, by omega, ⟨HG.out.os, HG.out.tape, HG.out.output, HG.out.size, HG.out.block⟩⟩
        case measure => simp [intOf]; omega
      ·obtain rfl : n3 = k := by omega
       have HGE3 := Lib.hid HG.out
       go_wp2_with fail
       go_ret
       exact ⟨rfl, GA.out.trans (HG.out.mono GA.out.size)⟩
end Go.Proofs.YtkoejeghihcmlaaGreat
