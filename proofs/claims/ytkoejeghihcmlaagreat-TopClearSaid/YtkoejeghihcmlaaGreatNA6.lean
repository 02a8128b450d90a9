/- Part of the proof: DS, DT, WQ, WR, XK. -/
import Derived.Test.YtkoejeghihcmlaaGreatNA0
import Derived.Test.YtkoejeghihcmlaaGreatNA4
import Derived.Test.YtkoejeghihcmlaaGreatNA5
namespace Go.Proofs.YtkoejeghihcmlaaGreat
open Go.RowKit Go.Shelf
attribute [local go_sem] Oper.semAt_some
theorem t3_at {w : World} {A : Option Addr} {n : Nat} {xs : List T3} (h : Arr t3cells 3 w A n xs) {k : Nat} (hk : k < n) :
  ∃ b o, A = some ⟨b, o, none⟩ ∧ ∀ w', Below w.heap.size w w' → w'.cell? ⟨b, o + k * 3, none⟩ = some (.int .i64 (tAt xs k).a) ∧ w'.cell? ⟨b, o + k * 3 + 1, none⟩ = some (.int .i64 (tAt xs k).b) ∧ w'.cell? ⟨b, o + k * 3 + 2, none⟩ = some (.int .i64 (tAt xs k).c) := by
 obtain ⟨b, o, x, rfl, hb, hx, hc⟩ := h.at hk
 have e : tAt xs k = x := by unfold tAt; rw [List.getD_eq_getElem?_getD, hx]; rfl
 rw [e]
 exact ⟨b, o, rfl, fun w' hw => ⟨hc w' hw 0 _ rfl, hc w' hw 1 _ rfl, hc w' hw 2 _ rfl⟩⟩
theorem q_at {w : World} {A : Option Addr} {n : Nat} {xs : List (Int × Int)} (h : Arr dcells 2 w A n xs) {k : Nat} (hk : k < n) :
  ∃ b o, A = some ⟨b, o, none⟩ ∧ ∀ w', Below w.heap.size w w' → w'.cell? ⟨b, o + k * 2, none⟩ = some (.int .i64 (qAt xs k).1) ∧ w'.cell? ⟨b, o + k * 2 + 1, none⟩ = some (.int .i64 (qAt xs k).2) := by
 obtain ⟨b, o, x, rfl, hb, hx, hc⟩ := h.at hk
 have e : qAt xs k = x := by unfold qAt; rw [List.getD_eq_getElem?_getD, hx]; rfl
 rw [e]
 exact ⟨b, o, rfl, fun w' hw => ⟨hc w' hw 0 _ rfl, hc w' hw 1 _ rfl⟩⟩
/-- The memory while Made runs. -/
structure Mk4 (w : World) (s : Nat) (raw : Array Value) (vC vE : Value) (lc : List Ch) (le : List Ce) (W : World) : Prop where
 g : Below w.heap.size w W
 sz : s + 3 ≤ W.heap.size
 b0 : Blk W s 28 raw
 b1 : Blk W (s + 1) 47 #[.slice none 0 0, .slice none 0 0]
 b2 : Blk W (s + 1 + 1) 47 #[vC, vE]
 c : OwnL hcells 3 130 W (s + 3) vC lc
 e : OwnL ecells 3 132 W (s + 3) vE le
theorem Mk4.ext {w : World} {s : Nat} {raw : Array Value} {vC vE : Value} {lc : List Ch} {le : List Ce} {W W' : World} (h : Mk4 w s raw vC vE lc le W) (hb : Below W.heap.size W W') : Mk4 w s raw vC vE lc le W' :=
 ⟨h.g.trans (hb.mono h.g.size), Nat.le_trans h.sz hb.size, h.b0.ext hb, h.b1.ext hb, h.b2.ext hb, h.c.ext hb, h.e.ext hb⟩
/-- a chain more, stored -/
theorem Mk4.addC {w : World} {s : Nat} {raw : Array Value} {vC vE v' : Value} {lc lc' : List Ch} {le : List Ce} {W W' : World} (h : Mk4 w s raw vC vE lc le W) (hs : w.heap.size ≤ s) (hg : W.grownBy W' vC.ownBlock) (ho : OwnL hcells 3 130 W' (s + 3) v' lc') : Mk4 w s raw v' vE lc' le (W'.setCell ⟨s + 1 + 1, 0, none⟩ v') := by
 have hob : ∀ g, vC.ownBlock = some g → s + 3 ≤ g := fun g e => (own_cells h.c e).1
 have hG : Below w.heap.size w W' := h.g.grown hg h.g.size (fun k hk => by have := hob k hk; omega)
 refine ⟨hG.setCell (p := ⟨s + 1 + 1, 0, none⟩) (by show w.heap.size ≤ s + 1 + 1; omega) _, by have h1 := hg.size; have h2 := h.sz; simp; omega, ?_, ?_, ?_, ?_, ?_⟩
 ·exact (h.b0.grown hg (fun e => by have := hob _ e; omega)).far (p := ⟨s + 1 + 1, 0, none⟩) (by show s ≠ s + 1 + 1; omega) _
 ·exact (h.b1.grown hg (fun e => by have := hob _ e; omega)).far (p := ⟨s + 1 + 1, 0, none⟩) (by show s + 1 ≠ s + 1 + 1; omega) _
 ·exact (h.b2.grown hg (fun e => by have := hob _ e; omega)).set_ 0 _
 ·exact own_farD ho (fun r e => by have := (own_cells ho e).1; show r ≠ s + 1 + 1; omega) _
 ·have he : OwnL ecells 3 132 W' (s + 3) vE le := own_fw h.e (F := fun k => vC.ownBlock = some k) (Fw.of_grown hg (fun r e => .inl e)) (fun r e e2 => by
   obtain ⟨-, -, cur, h1⟩ := own_cells h.e e
   obtain ⟨-, -, cur2, h2⟩ := own_cells h.c e2
   rw [h1] at h2; injection h2 with h2; injection h2 with _ h2; cases h2)
  exact own_farD he (fun r e => by have := (own_cells he e).1; show r ≠ s + 1 + 1; omega) _
theorem Mk4.addE {w : World} {s : Nat} {raw : Array Value} {vC vE v' : Value} {lc : List Ch} {le le' : List Ce} {W W' : World} (h : Mk4 w s raw vC vE lc le W) (hs : w.heap.size ≤ s) (hg : W.grownBy W' vE.ownBlock) (ho : OwnL ecells 3 132 W' (s + 3) v' le') : Mk4 w s raw vC v' lc le' (W'.setCell ⟨s + 1 + 1, 1, none⟩ v') := by
 have hob : ∀ g, vE.ownBlock = some g → s + 3 ≤ g := fun g e => (own_cells h.e e).1
 have hG : Below w.heap.size w W' := h.g.grown hg h.g.size (fun k hk => by have := hob k hk; omega)
 refine ⟨hG.setCell (p := ⟨s + 1 + 1, 1, none⟩) (by show w.heap.size ≤ s + 1 + 1; omega) _, by have h1 := hg.size; have h2 := h.sz; simp; omega, ?_, ?_, ?_, ?_, ?_⟩
 ·exact (h.b0.grown hg (fun e => by have := hob _ e; omega)).far (p := ⟨s + 1 + 1, 1, none⟩) (by show s ≠ s + 1 + 1; omega) _
 ·exact (h.b1.grown hg (fun e => by have := hob _ e; omega)).far (p := ⟨s + 1 + 1, 1, none⟩) (by show s + 1 ≠ s + 1 + 1; omega) _
 ·exact (h.b2.grown hg (fun e => by have := hob _ e; omega)).set_ 1 _
 ·have he : OwnL hcells 3 130 W' (s + 3) vC lc := own_fw h.c (F := fun k => vE.ownBlock = some k) (Fw.of_grown hg (fun r e => .inl e)) (fun r e e2 => by
   obtain ⟨-, -, cur, h1⟩ := own_cells h.c e
   obtain ⟨-, -, cur2, h2⟩ := own_cells h.e e2
   rw [h1] at h2; injection h2 with h2; injection h2 with _ h2; cases h2)
  exact own_farD he (fun r e => by have := (own_cells he e).1; show r ≠ s + 1 + 1; omega) _
 ·exact own_farD ho (fun r e => by have := (own_cells ho e).1; show r ≠ s + 1 + 1; omega) _
theorem Mk4.turn4 {w : World} {s : Nat} {raw : Array Value} {vC vE v : Value} {lc : List Ch} {le : List Ce} {l : List Cm} {W W' : World} (h : Mk4 w s raw vC vE lc le W) (hs : w.heap.size ≤ s) (hg : W.grownBy W' v.ownBlock) (hv : OwnL ccells 4 87 W (s + 3) v l) : Mk4 w s raw vC vE lc le W' := by
 have hob : ∀ g, v.ownBlock = some g → s + 3 ≤ g := fun g e => (own_cells hv e).1
 have hf := Fw.of_grown (F := fun k => v.ownBlock = some k) hg (fun r e => .inl e)
 refine ⟨h.g.grown hg h.g.size (fun k hk => by have := hob k hk; omega), Nat.le_trans h.sz hg.size, h.b0.grown hg (fun e => by have := hob _ e; omega), h.b1.grown hg (fun e => by have := hob _ e; omega), h.b2.grown hg (fun e => by have := hob _ e; omega), own_fw h.c hf (fun r e e2 => ?_), own_fw h.e hf (fun r e e2 => ?_)⟩
 ·obtain ⟨-, -, cur, h1⟩ := own_cells h.c e
  obtain ⟨-, -, cur2, h2⟩ := own_cells hv e2
  rw [h1] at h2; injection h2 with h2; injection h2 with _ h2; cases h2
 ·obtain ⟨-, -, cur, h1⟩ := own_cells h.e e
  obtain ⟨-, -, cur2, h2⟩ := own_cells hv e2
  rw [h1] at h2; injection h2 with h2; injection h2 with _ h2; cases h2
/-- What Made returns. -/
def Made4End (r : Gra) (w : World) (e : Ending) (w' : World) : Prop :=
 (∃ vC vE vL, e = .returned (.tuple #[.agg #[vC, vE], vL]) ∧ OwnL hcells 3 130 w' w.heap.size vC (madeG r).chains ∧ OwnL ecells 3 132 w' w.heap.size vE (madeG r).cells ∧ OwnL ccells 4 87 w' w.heap.size vL (madeC r)) ∧ Below w.heap.size w w'
set_option maxRecDepth 100000 in
set_option maxHeartbeats 16000000 in
theorem made4_any (r : Gra) (R1 R2 R3 : Option Addr) (k1 q1 k2 q2 k3 q3 : Nat) (w : World) (h1 : Arr dcells 2 w R1 k1 r.ch) (h2 : Arr t3cells 3 w R2 k2 r.ce) (h3 : Arr t3cells 3 w R3 k3 r.cl) (hn : k1 ≤ 9223372036854775807 ∧ k2 ≤ 9223372036854775807 ∧ k3 ≤ 9223372036854775807) :
  Calls Tryz.prog 16 #[.agg #[.slice R1 k1 q1, .slice R2 k2 q2, .slice R3 k3 q3]] w (Made4End r w) := by
 obtain ⟨W1, hW1⟩ : ∃ X, ((w.alloc (.cells #[.slice R1 k1 q1, .slice R2 k2 q2, .slice R3 k3 q3] 28)).alloc (.cells #[.slice none 0 0, .slice none 0 0] 47)).alloc (.cells #[.slice none 0 0, .slice none 0 0] 47) = X := ⟨_, rfl⟩
 have GW1 := Lib.hid (show Below w.heap.size w W1 by rw [← hW1]; exact ((one_more _ _).alloc (by simp <;> omega) _).alloc (by simp <;> omega) _)
 have BW1_0 := Lib.hid (show Blk W1 (w.heap.size) 28 #[.slice R1 k1 q1, .slice R2 k2 q2, .slice R3 k3 q3] by
  rw [← hW1]
  have := Blk.new w 28 #[.slice R1 k1 q1, .slice R2 k2 q2, .slice R3 k3 q3]
  (try simp only [World.size_alloc] at this)
  exact ((this).alloc _).alloc _)
 have BW1_1 := Lib.hid (show Blk W1 (w.heap.size + 1) 47 #[.slice none 0 0, .slice none 0 0] by
  rw [← hW1]
  have := Blk.new (w.alloc (.cells #[.slice R1 k1 q1, .slice R2 k2 q2, .slice R3 k3 q3] 28)) 47 #[.slice none 0 0, .slice none 0 0]
  (try simp only [World.size_alloc] at this)
  exact (this).alloc _)
 have BW1_2 := Lib.hid (show Blk W1 (w.heap.size + 1 + 1) 47 #[.slice none 0 0, .slice none 0 0] by
  rw [← hW1]
  have := Blk.new ((w.alloc (.cells #[.slice R1 k1 q1, .slice R2 k2 q2, .slice R3 k3 q3] 28)).alloc (.cells #[.slice none 0 0, .slice none 0 0] 47)) 47 #[.slice none 0 0, .slice none 0 0]
  (try simp only [World.size_alloc] at this)
  exact this)
 have HW1 := Lib.hid hW1
 clear hW1
 have hs1 : W1.heap.size = w.heap.size + 3 := by rw [← HW1.out]; simp
 have HM0 := Lib.hid (show Mk4 w w.heap.size #[.slice R1 k1 q1, .slice R2 k2 q2, .slice R3 k3 q3] (.slice none 0 0) (.slice none 0 0) [] [] W1 from ⟨GW1.out, by omega, BW1_0.out, BW1_1.out, BW1_2.out, OwnL.nil _ _, OwnL.nil _ _⟩)
 have H1 := Lib.hid h1
 have H2 := Lib.hid h2
 have H3 := Lib.hid h3
 have e1 := h1.1
 have e2 := h2.1
 have e3 := h3.1
 obtain ⟨hn1, hn2, hn3⟩ := hn
 have hb1 := many_bd (n := k1) (m := 3) (by omega)
 have hb2 := many_bd (n := k2) (m := 10) (by omega)
 have hb3 := many_bd (n := k3) (m := 6) (by omega)
 obtain ⟨M1, hM1⟩ : ∃ m, many k1 3 = m := ⟨_, rfl⟩
 have HL1 := Lib.hid (fun k => many_lt (n := k1) (m := 3) (k := k) (by omega))
 rw [hM1] at hb1 HL1
 have HME := Lib.hid (fun (e : Ending) (w' : World) => (show Made4End r w e w' ↔ Made4End r w e w' from Iff.rfl))
 clear h1 h2 h3 hs1
 go_enter Tryz.func16, Tryz.ntmps16
 go_upto_region 2 with fail
 rw [HW1.out]
 go_wp2_with fail
 go_loopw [5] (fun i wr => ∃ (k : Nat) (A : Option Addr) (n c : Nat), i = .int .i64 k ∧ k ≤ M1 ∧ Mk4 w w.heap.size #[.slice R1 k1 q1, .slice R2 k2 q2, .slice R3 k3 q3] (.slice A n c) (.slice none 0 0) (chs r k) [] wr) (fun i _ => 1000 - (intOf i).toNat)
 case atStart => exact ⟨0, none, 0, 0, rfl, Nat.zero_le _, HM0.out⟩
 case round =>
  obtain ⟨k, A, n, c, rfl, hk, hm⟩ := hrel
  have HM := Lib.hid hm
  have d0 := hm.b0.cell 0
  by_cases hkm : k < M1
  ·obtain ⟨qx, hqx⟩ : ∃ q, qAt r.ch k = q := ⟨_, rfl⟩
   have HSU := Lib.hid (show chs r (k + 1) = chs r k ++ [mkCh k qx] by rw [chs_succ, hqx])
   obtain ⟨W6, hW6⟩ : ∃ X, wr.alloc (.cells #[.int .i64 qx.1, .int .i64 qx.2] 85) = X := ⟨_, rfl⟩
   have GW6 := Lib.hid (show Below wr.heap.size wr W6 by rw [← hW6]; exact one_more _ _)
   have BW6_0 := Lib.hid (show Blk W6 (wr.heap.size) 85 #[.int .i64 qx.1, .int .i64 qx.2] by
    rw [← hW6]
    have := Blk.new wr 85 #[.int .i64 qx.1, .int .i64 qx.2]
    (try simp only [World.size_alloc] at this)
    exact this)
   have HW6 := Lib.hid hW6
   clear hW6
   have hx1 : 0 ≤ qx.1 % 20 ∧ qx.1 % 20 ≤ 19 := by omega
   have hx2 : 0 ≤ qx.2 % 12 ∧ qx.2 % 12 ≤ 11 := by omega
   have hcase : (k < k1 ∧ k < 3) ∨ k = 0 := (HL1.out k).1 hkm
   by_cases hlt : k < k1
   ·have hk3 : k < 3 := by omega
    obtain ⟨bb, oo, hA, hc⟩ := q_at H1.out hlt
    subst hA
    rw [hqx] at hc
    have z0 : (k : Int) < (k1 : Int) := by omega
    have z1 : (k : Int) < 3 := by omega
    have hc0 := hc (wr.alloc (.cells #[.int .i64 0, .int .i64 0] 85)) (hm.g.trans ((one_more wr _).mono hm.g.size))
    obtain ⟨v0, v1⟩ := hc0
    have d1 := (hm.b0.alloc (.cells #[.int .i64 0, .int .i64 0] 85)).cell 0
    clear hm hc hqx hcase
    go_upto_region 8 with fail
    rw [HW6.out]
    clear v0 v1 d0 d1 z0 z1
    have M6 := Lib.hid (HM.out.ext GW6.out)
    have u0 := BW6_0.out.cell 0
    go_upto_region 9 with (go_at_call 73; (with_reducible refine (mod4_any _ _ _ (by omega) (by omega)).mono ?_); rintro e V ⟨rfl, rfl⟩)
    obtain ⟨W7, hW7⟩ : ∃ X, W6.alloc (.cells #[.int .i64 (1 + (k : Int)), .int .i64 (90 + qx.1 % 20), .int .i64 0] 130) = X := ⟨_, rfl⟩
    have GW7 := Lib.hid (show Below W6.heap.size W6 W7 by rw [← hW7]; exact one_more _ _)
    have BW7_0 := Lib.hid (show Blk W7 (W6.heap.size) 130 #[.int .i64 (1 + (k : Int)), .int .i64 (90 + qx.1 % 20), .int .i64 0] by
     rw [← hW7]
     have := Blk.new W6 130 #[.int .i64 (1 + (k : Int)), .int .i64 (90 + qx.1 % 20), .int .i64 0]
     (try simp only [World.size_alloc] at this)
     exact this)
    have HW7 := Lib.hid hW7
    clear hW7
    rw [HW7.out]
    have M7 := Lib.hid (M6.out.ext GW7.out)
    have y0 := cellW (BW7_0.out.cell 1)
    have y1 := cellW ((BW6_0.out.ext GW7.out).cell 1)
    clear u0
    refine wp_region_calm_tail W7 9 (by kernel_rfl) (by kernel_rfl) (Below.refl _ _) ?_
    simp only [List.take_succ_cons, List.take_zero, List.drop_succ_cons, List.drop_zero]
    repeat (go_big_quiet_step ((go_at_call 73; exact callsCalmSame (mod4_any _ _ _ (by omega) (by omega)))))
    refine wpQuiet_nil ?_
    rintro _ ⟨z, rfl⟩
    have M8 := M7.out.ext z.ok
    have B8 := BW7_0.out.ext z.ok
    have hzok := z.ok
    generalize z.val = V8 at M8 B8 hzok ⊢
    clear y0 y1
    have f0 := B8.frozen 2
    have f1 := B8.cell 2
    have hb2b : Below W6.heap.size W6 V8 := GW7.out.trans (hzok.mono GW7.out.size)
    obtain ⟨V9, hV9⟩ : ∃ X, V8.setCell ⟨W6.heap.size, 2, none⟩ (.int .i64 (90 + qx.1 % 20 + qx.2 % 12)) = X := ⟨_, rfl⟩
    have g69 : Below W6.heap.size W6 V9 := by rw [← hV9]; exact hb2b.setCell (p := ⟨W6.heap.size, 2, none⟩) (Nat.le_refl _) _
    have B9 := Lib.hid (show Blk V9 W6.heap.size 130 #[.int .i64 (1 + (k : Int)), .int .i64 (90 + qx.1 % 20), .int .i64 (90 + qx.1 % 20 + qx.2 % 12)] by rw [← hV9]; exact B8.set_ 2 _)
    have M9 := Lib.hid (M6.out.ext g69)
    go_upto_region 10 with fail
    (try rw [hV9])
    clear hV9 f0 f1 B8 hb2b g69 hzok M8
    have r0 := M9.out.b2.cell 0
    have s0 := B9.out.cell 0
    have s1 := B9.out.cell 1
    have s2 := B9.out.cell 2
    have MA := Lib.hid (M9.out.ext (one_more V9 (.cells #[.int .i64 (1 + (k : Int)), .int .i64 (90 + qx.1 % 20), .int .i64 (90 + qx.1 % 20 + qx.2 % 12)] 130)))
    have IX := Lib.hid (show Arr hcells 3 (V9.alloc (.cells #[.int .i64 (1 + (k : Int)), .int .i64 (90 + qx.1 % 20), .int .i64 (90 + qx.1 % 20 + qx.2 % 12)] 130)) (some ⟨V9.heap.size, 0, none⟩) 1 [mkCh k qx] from (Blk.new V9 130 #[.int .i64 (1 + (k : Int)), .int .i64 (90 + qx.1 % 20), .int .i64 (90 + qx.1 % 20 + qx.2 % 12)]).arr1 (f := hcells) (x := mkCh k qx))
    have HLEN := Lib.hid (show (chs r k).length + 1 ≤ 1000000 by rw [chs_len]; omega)
    have HOB := Lib.hid (fun g (e : (Value.slice A n c).ownBlock = some g) => (own_cells MA.out.c e).1)
    have HSZ := Lib.hid MA.out.sz
    go_wp2_with (at_builtin; go_loud (refine wpList_app kdCh (by rfl) _ _ (by rfl) (w.heap.size + 3) (.slice A n c) (chs r k) (by rfl) MA.out.c _ 1 1 [mkCh k qx] (by rfl) IX.out HLEN.out HSZ.out ?_); intro v' w' ho hbw hz; obtain ⟨Av, cv, hve, -⟩ := OwnL.arr kdCh ho; obtain ⟨nv, hnv⟩ : ∃ nv, (chs r k ++ [mkCh k qx]).length = nv := ⟨_, rfl⟩; rw [hnv] at hve; subst hve; clear hnv; have b9 := MA.out.b2.grown hbw (fun e => by have := HOB.out _ e; omega); have m0 := b9.cell 0; have m1 := b9.frozen 0; have MF := Lib.hid (MA.out.addC (Nat.le_refl _) hbw ho); clear ho hbw hz b9)
    go_roundw
    case rel => exact ⟨k + 1, Av, nv, cv, by go_num, by omega, by rw [HSU.out]; exact MF.out⟩
    case measure => simp [intOf]; omega
   ·have hk0 : k = 0 := by omega
    subst hk0
    have hq0 : qx = (0, 0) := by
     rw [← hqx]
     unfold qAt
     rw [List.getD_eq_getElem?_getD, List.getElem?_eq_none (by omega)]; rfl
    have hk10 : k1 = 0 := by omega
    subst hq0
    subst hk10
    have d1 := (hm.b0.alloc (.cells #[.int .i64 0, .int .i64 0] 85)).cell 0
    have z0 : ((0 : Nat) : Int) = 0 := rfl
    clear hm hqx hcase
    go_upto_region 8 with fail
    rw [HW6.out]
    clear d0 d1 z0
    have M6 := Lib.hid (HM.out.ext GW6.out)
    have u0 := BW6_0.out.cell 0
    go_upto_region 9 with (go_at_call 73; (with_reducible refine (mod4_any _ _ _ (by omega) (by omega)).mono ?_); rintro e V ⟨rfl, rfl⟩)
    obtain ⟨W7, hW7⟩ : ∃ X, W6.alloc (.cells #[.int .i64 (1), .int .i64 (90), .int .i64 0] 130) = X := ⟨_, rfl⟩
    have GW7 := Lib.hid (show Below W6.heap.size W6 W7 by rw [← hW7]; exact one_more _ _)
    have BW7_0 := Lib.hid (show Blk W7 (W6.heap.size) 130 #[.int .i64 (1), .int .i64 (90), .int .i64 0] by
     rw [← hW7]
     have := Blk.new W6 130 #[.int .i64 (1), .int .i64 (90), .int .i64 0]
     (try simp only [World.size_alloc] at this)
     exact this)
    have HW7 := Lib.hid hW7
    clear hW7
    rw [HW7.out]
    have M7 := Lib.hid (M6.out.ext GW7.out)
    have y0 := cellW (BW7_0.out.cell 1)
    have y1 := cellW ((BW6_0.out.ext GW7.out).cell 1)
    clear u0
    refine wp_region_calm_tail W7 9 (by kernel_rfl) (by kernel_rfl) (Below.refl _ _) ?_
    simp only [List.take_succ_cons, List.take_zero, List.drop_succ_cons, List.drop_zero]
    repeat (go_big_quiet_step ((go_at_call 73; exact callsCalmSame (mod4_any _ _ _ (by omega) (by omega)))))
    refine wpQuiet_nil ?_
    rintro _ ⟨z, rfl⟩
    have M8 := M7.out.ext z.ok
    have B8 := BW7_0.out.ext z.ok
    have hzok := z.ok
    generalize z.val = V8 at M8 B8 hzok ⊢
    clear y0 y1
    have f0 := B8.frozen 2
    have f1 := B8.cell 2
    have hb2b : Below W6.heap.size W6 V8 := GW7.out.trans (hzok.mono GW7.out.size)
    obtain ⟨V9, hV9⟩ : ∃ X, V8.setCell ⟨W6.heap.size, 2, none⟩ (.int .i64 (90)) = X := ⟨_, rfl⟩
    have g69 : Below W6.heap.size W6 V9 := by rw [← hV9]; exact hb2b.setCell (p := ⟨W6.heap.size, 2, none⟩) (Nat.le_refl _) _
    have B9 := Lib.hid (show Blk V9 W6.heap.size 130 #[.int .i64 (1), .int .i64 (90), .int .i64 (90)] by rw [← hV9]; exact B8.set_ 2 _)
    have M9 := Lib.hid (M6.out.ext g69)
    go_upto_region 10 with fail
    (try rw [hV9])
    clear hV9 f0 f1 B8 hb2b g69 hzok M8
    have r0 := M9.out.b2.cell 0
    have s0 := B9.out.cell 0
    have s1 := B9.out.cell 1
    have s2 := B9.out.cell 2
    have MA := Lib.hid (M9.out.ext (one_more V9 (.cells #[.int .i64 (1), .int .i64 (90), .int .i64 (90)] 130)))
    have IX := Lib.hid (show Arr hcells 3 (V9.alloc (.cells #[.int .i64 (1), .int .i64 (90), .int .i64 (90)] 130)) (some ⟨V9.heap.size, 0, none⟩) 1 [mkCh 0 (0, 0)] from (Blk.new V9 130 #[.int .i64 (1), .int .i64 (90), .int .i64 (90)]).arr1 (f := hcells) (x := mkCh 0 (0, 0)))
    have HLEN := Lib.hid (show (chs r 0).length + 1 ≤ 1000000 by rw [chs_len]; omega)
    have HOB := Lib.hid (fun g (e : (Value.slice A n c).ownBlock = some g) => (own_cells MA.out.c e).1)
    have HSZ := Lib.hid MA.out.sz
    go_wp2_with (at_builtin; go_loud (refine wpList_app kdCh (by rfl) _ _ (by rfl) (w.heap.size + 3) (.slice A n c) (chs r 0) (by rfl) MA.out.c _ 1 1 [mkCh 0 (0, 0)] (by rfl) IX.out HLEN.out HSZ.out ?_); intro v' w' ho hbw hz; obtain ⟨Av, cv, hve, -⟩ := OwnL.arr kdCh ho; obtain ⟨nv, hnv⟩ : ∃ nv, (chs r 0 ++ [mkCh 0 (0, 0)]).length = nv := ⟨_, rfl⟩; rw [hnv] at hve; subst hve; clear hnv; have b9 := MA.out.b2.grown hbw (fun e => by have := HOB.out _ e; omega); have m0 := b9.cell 0; have m1 := b9.frozen 0; have MF := Lib.hid (MA.out.addC (Nat.le_refl _) hbw ho); clear ho hbw hz b9)
    go_roundw
    case rel => exact ⟨0 + 1, Av, nv, cv, by go_num, by omega, by rw [HSU.out]; exact MF.out⟩
    case measure => simp [intOf]
  ·have hkE : k = M1 := by omega
   subst hkE
   have hd6 : ¬ (k < k1 ∧ k < 3) ∧ k ≠ 0 := by
    have h := HL1.out k
    omega
   obtain ⟨A9, c9, e9, -⟩ := OwnL.arr kdCh hm.c
   have e9b : n = (chs r k).length := by injection e9
   rw [chs_len] at e9b
   clear e9
   subst e9b
   have e0 : ((n : Int) == 0) = false := beq_eq_false_iff_ne.2 (by omega)
   clear hm
   go_upto_region 3 with fail
   go_cut [26] from 14 to 26 (fun cc wx => cc = .bool false ∧ wx = wr)
   case first =>
    by_cases c1 : n < k1
    ·have e1 : decide ((n : Int) < (k1 : Int)) = true := decide_eq_true (by omega)
     have e2 : decide ((n : Int) < 3) = false := decide_eq_false (by omega)
     go_wp2_with fail
     go_meet
     exact ⟨rfl, rfl⟩
    ·have e1 : decide ((n : Int) < (k1 : Int)) = false := decide_eq_false (by omega)
     go_wp2_with fail
     go_meet
     exact ⟨rfl, rfl⟩
   case rest =>
   obtain ⟨rfl, rfl⟩ := hcut
   rename World => V1
   obtain ⟨M2, hM2⟩ : ∃ m, many k2 10 = m := ⟨_, rfl⟩
   have HL2 := Lib.hid (fun k => many_lt (n := k2) (m := 10) (k := k) (by omega))
   rw [hM2] at hb2 HL2
   clear hkm hk hd6 d0 e0
   go_wp2_with fail
   go_loopw [8] (fun i wr => ∃ (k : Nat) (A' : Option Addr) (n' c' : Nat), i = .int .i64 k ∧ k ≤ M2 ∧ Mk4 w w.heap.size #[.slice R1 k1 q1, .slice R2 k2 q2, .slice R3 k3 q3] (.slice A n c) (.slice A' n' c') (chs r n) (ces r k) wr) (fun i _ => 1000 - (intOf i).toNat)
   case atStart => exact ⟨0, none, 0, 0, rfl, Nat.zero_le _, HM.out⟩
   case round =>
    clear HM
    obtain ⟨k, A', n', c', rfl, hk, hm⟩ := hrel
    have HM := Lib.hid hm
    have d0 := hm.b0.cell 1
    by_cases hkm : k < M2
    ·obtain ⟨qx, hqx⟩ : ∃ q, tAt r.ce k = q := ⟨_, rfl⟩
     have HSU := Lib.hid (show ces r (k + 1) = ces r k ++ [mkCe n qx] by rw [ces_succ, hqx, e1, hM1])
     obtain ⟨W6, hW6⟩ : ∃ X, wr.alloc (.cells #[.int .i64 qx.a, .int .i64 qx.b, .int .i64 qx.c] 93) = X := ⟨_, rfl⟩
     have GW6 := Lib.hid (show Below wr.heap.size wr W6 by rw [← hW6]; exact one_more _ _)
     have BW6_0 := Lib.hid (show Blk W6 (wr.heap.size) 93 #[.int .i64 qx.a, .int .i64 qx.b, .int .i64 qx.c] by
      rw [← hW6]
      have := Blk.new wr 93 #[.int .i64 qx.a, .int .i64 qx.b, .int .i64 qx.c]
      (try simp only [World.size_alloc] at this)
      exact this)
     have HW6 := Lib.hid hW6
     clear hW6
     have hx1 := Int.emod_lt_of_pos qx.a (show (0 : Int) < (n : Int) by omega)
     have hx2 := Int.emod_nonneg qx.a (show (n : Int) ≠ 0 by omega)
     have hcase : (k < k2 ∧ k < 10) ∨ k = 0 := (HL2.out k).1 hkm
     by_cases hlt : k < k2
     ·have hk3 : k < 10 := by omega
      obtain ⟨bb, oo, hA, hc⟩ := t3_at H2.out hlt
      subst hA
      rw [hqx] at hc
      have z0 : (k : Int) < (k2 : Int) := by omega
      have z1 : (k : Int) < 10 := by omega
      have hc0 := hc (wr.alloc (.cells #[.int .i64 0, .int .i64 0, .int .i64 0] 93)) (hm.g.trans ((one_more wr _).mono hm.g.size))
      obtain ⟨v0, v1, v2⟩ := hc0
      have d1 := (hm.b0.alloc (.cells #[.int .i64 0, .int .i64 0, .int .i64 0] 93)).cell 1
      clear hm hc hqx hcase
      go_upto_region 17 with fail
      rw [HW6.out]
      clear v0 v1 v2 d0 d1 z0 z1
-- L2A
      have M6 := Lib.hid (HM.out.ext GW6.out)
      have HS6 := Lib.hid (show (fun X => X.cell? ⟨w.heap.size + 1 + 1, 0, none⟩ = some (.slice A n c) ∧ X.cell? ⟨w.heap.size + 1 + 1, 1, none⟩ = some (.slice A' n' c') ∧ X.cell? ⟨wr.heap.size, 0, none⟩ = some (.int .i64 qx.a) ∧ X.cell? ⟨wr.heap.size, 1, none⟩ = some (.int .i64 qx.b) ∧ X.cell? ⟨wr.heap.size, 2, none⟩ = some (.int .i64 qx.c)) W6.drew from ⟨M6.out.b2.cell 0, M6.out.b2.cell 1, BW6_0.out.cell 0, BW6_0.out.cell 1, BW6_0.out.cell 2⟩)
      have ga : Below W6.heap.size W6 (W6.drew.alloc (.cells #[.int .i64 (1 + qx.a % (n : Int)), .int .i64 (1 + qx.b % 9), .int .i64 (qx.c % 12)] 132)) := (Below.refl _ _).drew.alloc (by show W6.heap.size ≤ W6.drew.heap.size; exact Nat.le_refl _) _
      have MA := Lib.hid (M6.out.ext ga)
      have HXA := Lib.hid (BW6_0.out.ext ga)
      have HJ := Lib.hid (show (fun X => X.cell? ⟨w.heap.size + 1 + 1, 0, none⟩ = some (.slice A n c) ∧ X.cell? ⟨w.heap.size + 1 + 1, 1, none⟩ = some (.slice A' n' c') ∧ X.cell? ⟨wr.heap.size, 0, none⟩ = some (.int .i64 qx.a) ∧ X.cell? ⟨wr.heap.size, 1, none⟩ = some (.int .i64 qx.b) ∧ X.cell? ⟨wr.heap.size, 2, none⟩ = some (.int .i64 qx.c)) (W6.drew.alloc (.cells #[.int .i64 (1 + qx.a % (n : Int)), .int .i64 (1 + qx.b % 9), .int .i64 (qx.c % 12)] 132)) from ⟨MA.out.b2.cell 0, MA.out.b2.cell 1, HXA.out.cell 0, HXA.out.cell 1, HXA.out.cell 2⟩)
      have IX := Lib.hid (show Arr ecells 3 (W6.drew.alloc (.cells #[.int .i64 (1 + qx.a % (n : Int)), .int .i64 (1 + qx.b % 9), .int .i64 (qx.c % 12)] 132)) (some ⟨W6.drew.heap.size, 0, none⟩) 1 [mkCe n qx] from (Blk.new W6.drew 132 #[.int .i64 (1 + qx.a % (n : Int)), .int .i64 (1 + qx.b % 9), .int .i64 (qx.c % 12)]).arr1 (f := ecells) (x := mkCe n qx))
      have HLEN := Lib.hid (show (ces r k).length + 1 ≤ 1000000 by rw [ces_len]; omega)
      have HOB := Lib.hid (fun g (e : (Value.slice A' n' c').ownBlock = some g) => (own_cells MA.out.e e).1)
      have HXN := Lib.hid (fun g (e : (Value.slice A' n' c').ownBlock = some g) => (own_apart MA.out.e e HXA.out (by decide)))
      have hwA : IntKind.i64.wrap (1 + qx.a % (n : Int)) = 1 + qx.a % (n : Int) := by rw [IntKind.wrap_i64]; omega
      have hwB : IntKind.i64.wrap (1 + qx.b % 9) = 1 + qx.b % 9 := by rw [IntKind.wrap_i64]; omega
      clear ga
      refine wp_region_till (S := fun X => X.cell? ⟨w.heap.size + 1 + 1, 0, none⟩ = some (.slice A n c) ∧ X.cell? ⟨w.heap.size + 1 + 1, 1, none⟩ = some (.slice A' n' c') ∧ X.cell? ⟨wr.heap.size, 0, none⟩ = some (.int .i64 qx.a) ∧ X.cell? ⟨wr.heap.size, 1, none⟩ = some (.int .i64 qx.b) ∧ X.cell? ⟨wr.heap.size, 2, none⟩ = some (.int .i64 qx.c)) 20 (by kernel_rfl) (HS6.out) (fun hHeld => ?_)
      (refine till_take [1, 18, 20] (i := 0) (oi := ⟨_, _, _, _, _, _⟩) (d := some 89) (v := ?_) rfl rfl (by kernel_rfl) (by kernel_rfl) (fun _ _ _ h => h) (by rfl) ?_ (by assumption) ?_; rotate_left; (focus (intro w hSw; (try dsimp only at hSw); go_simp; try with_reducible rfl)); (try simp only [Act.put, List.setIfInBounds_toArray, List.set_cons_zero, List.set_cons_succ]))
      (refine till_take [18, 20] (i := 1) (oi := ⟨_, _, _, _, _, _⟩) (d := some 90) (v := ?_) rfl rfl (by kernel_rfl) (by kernel_rfl) (fun _ _ _ h => h) (by rfl) ?_ (by assumption) ?_; rotate_left; (focus (intro w hSw; (try dsimp only at hSw); go_simp; try with_reducible rfl)); (try simp only [Act.put, List.setIfInBounds_toArray, List.set_cons_zero, List.set_cons_succ]))
      (refine till_take [3, 7, 11, 15, 18, 20] (i := 2) (oi := ⟨_, _, _, _, _, _⟩) (d := some 91) (v := ?_) rfl rfl (by kernel_rfl) (by kernel_rfl) (fun _ _ _ h => h) (by rfl) ?_ (by assumption) ?_; rotate_left; (focus (intro w hSw; (try dsimp only at hSw); go_simp; try with_reducible rfl)); (try simp only [Act.put, List.setIfInBounds_toArray, List.set_cons_zero, List.set_cons_succ]))
      (refine till_take [7, 11, 15, 18, 20] (i := 3) (oi := ⟨_, _, _, _, _, _⟩) (d := some 92) (v := ?_) rfl rfl (by kernel_rfl) (by kernel_rfl) (fun _ _ _ h => h) (by rfl) ?_ (by assumption) ?_; rotate_left; (focus (intro w hSw; (try dsimp only at hSw); go_simp; try with_reducible rfl)); (try simp only [Act.put, List.setIfInBounds_toArray, List.set_cons_zero, List.set_cons_succ]))
      (refine till_take [5, 6, 7, 11, 15, 18, 20] (i := 4) (oi := ⟨_, _, _, _, _, _⟩) (d := some 93) (v := ?_) rfl rfl (by kernel_rfl) (by kernel_rfl) (fun _ _ _ h => h) (by rfl) ?_ (by assumption) ?_; rotate_left; (focus (intro w hSw; (try dsimp only at hSw); go_simp; try with_reducible rfl)); (try simp only [Act.put, List.setIfInBounds_toArray, List.set_cons_zero, List.set_cons_succ]))
      (refine till_take [6, 7, 11, 15, 18, 20] (i := 5) (oi := ⟨_, _, _, _, _, _⟩) (d := some 94) (v := ?_) rfl rfl (by kernel_rfl) (by kernel_rfl) (fun _ _ _ h => h) (by rfl) ?_ (by assumption) ?_; rotate_left; (focus (intro w hSw; (try dsimp only at hSw); go_simp; try with_reducible rfl)); (try simp only [Act.put, List.setIfInBounds_toArray, List.set_cons_zero, List.set_cons_succ]))
      (refine till_take [7, 11, 15, 18, 20] (i := 6) (oi := ⟨_, _, _, _, _, _⟩) (d := some 95) (v := ?_) rfl rfl (by kernel_rfl) (by kernel_rfl) (fun _ _ _ h => h) (by rfl) ?_ (by assumption) ?_; rotate_left; (focus (intro w hSw; (try dsimp only at hSw); go_simp; try with_reducible rfl)); (try simp only [Act.put, List.setIfInBounds_toArray, List.set_cons_zero, List.set_cons_succ]))
      (refine till_take [10, 11, 15, 18, 20] (i := 9) (oi := ⟨_, _, _, _, _, _⟩) (d := some 98) (v := ?_) rfl rfl (by kernel_rfl) (by kernel_rfl) (fun _ _ _ h => h) (by rfl) ?_ (by assumption) ?_; rotate_left; (focus (intro w hSw; (try dsimp only at hSw); go_simp; try with_reducible rfl)); (try simp only [Act.put, List.setIfInBounds_toArray, List.set_cons_zero, List.set_cons_succ]))
      (refine till_take [11, 15, 18, 20] (i := 10) (oi := ⟨_, _, _, _, _, _⟩) (d := some 99) (v := ?_) rfl rfl (by kernel_rfl) (by kernel_rfl) (fun _ _ _ h => h) (by rfl) ?_ (by assumption) ?_; rotate_left; (focus (intro w hSw; (try dsimp only at hSw); go_simp; try with_reducible rfl)); (try simp only [Act.put, List.setIfInBounds_toArray, List.set_cons_zero, List.set_cons_succ]))
      (refine till_take [14, 15, 18, 20] (i := 13) (oi := ⟨_, _, _, _, _, _⟩) (d := some 102) (v := ?_) rfl rfl (by kernel_rfl) (by kernel_rfl) (fun _ _ _ h => h) (by rfl) ?_ (by assumption) ?_; rotate_left; (focus (intro w hSw; (try dsimp only at hSw); go_simp; try with_reducible rfl)); (try simp only [Act.put, List.setIfInBounds_toArray, List.set_cons_zero, List.set_cons_succ]))
      (refine till_take [15, 18, 20] (i := 14) (oi := ⟨_, _, _, _, _, _⟩) (d := some 103) (v := ?_) rfl rfl (by kernel_rfl) (by kernel_rfl) (fun _ _ _ h => h) (by rfl) ?_ (by assumption) ?_; rotate_left; (focus (intro w hSw; (try dsimp only at hSw); go_simp; try with_reducible rfl)); (try simp only [Act.put, List.setIfInBounds_toArray, List.set_cons_zero, List.set_cons_succ]))
      refine till_one 7 (o := ⟨_, _, _, _, _, _⟩) rfl (by kernel_rfl) (by decide) (fun K hK => ?_)
      (go_simp; go_at_call 73; refine (mod4_any _ _ _ (by omega) (by omega)).mono ?_; rintro e w' ⟨rfl, rfl⟩; (try dsimp only))
      refine hK.out _ _ ?_ (fun hHeld => ?_)
      ·exact hHeld
      clear hK K
      (try simp only [Act.put, List.setIfInBounds_toArray, List.set_cons_zero, List.set_cons_succ])
      (refine till_take [16, 17, 18, 20] (i := 8) (oi := ⟨_, _, _, _, _, _⟩) (d := some 97) (v := ?_) rfl rfl (by kernel_rfl) (by kernel_rfl) (fun _ _ _ h => h) (by rfl) ?_ (by assumption) ?_; rotate_left; (focus (intro w hSw; (try dsimp only at hSw); go_simp; try with_reducible rfl)); (try simp only [Act.put, List.setIfInBounds_toArray, List.set_cons_zero, List.set_cons_succ]))
      refine till_one 11 (o := ⟨_, _, _, _, _, _⟩) rfl (by kernel_rfl) (by decide) (fun K hK => ?_)
      (go_simp; go_at_call 73; refine (mod4_any _ _ _ (by omega) (by omega)).mono ?_; rintro e w' ⟨rfl, rfl⟩; (try dsimp only))
      refine hK.out _ _ ?_ (fun hHeld => ?_)
      ·exact hHeld
      clear hK K
      (try simp only [Act.put, List.setIfInBounds_toArray, List.set_cons_zero, List.set_cons_succ])
      (refine till_take [16, 17, 18, 20] (i := 12) (oi := ⟨_, _, _, _, _, _⟩) (d := some 101) (v := ?_) rfl rfl (by kernel_rfl) (by kernel_rfl) (fun _ _ _ h => h) (by rfl) ?_ (by assumption) ?_; rotate_left; (focus (intro w hSw; (try dsimp only at hSw); go_simp; try with_reducible rfl)); (try simp only [Act.put, List.setIfInBounds_toArray, List.set_cons_zero, List.set_cons_succ]))
      refine till_one 15 (o := ⟨_, _, _, _, _, _⟩) rfl (by kernel_rfl) (by decide) (fun K hK => ?_)
      (go_simp; go_at_call 73; refine (mod4_any _ _ _ (by omega) (by omega)).mono ?_; rintro e w' ⟨rfl, rfl⟩; (try dsimp only))
      refine hK.out _ _ ?_ (fun hHeld => ?_)
      ·exact hHeld
      clear hK K
      (try simp only [Act.put, List.setIfInBounds_toArray, List.set_cons_zero, List.set_cons_succ])
      (refine till_take [17, 18, 20] (i := 16) (oi := ⟨_, _, _, _, _, _⟩) (d := some 105) (v := ?_) rfl rfl (by kernel_rfl) (by kernel_rfl) (fun _ _ _ h => h) (by rfl) ?_ (by assumption) ?_; rotate_left; (focus (intro w hSw; (try dsimp only at hSw); go_simp; try with_reducible rfl)); (try simp only [Act.put, List.setIfInBounds_toArray, List.set_cons_zero, List.set_cons_succ]))
      refine till_one 17 (o := ⟨_, _, _, _, _, _⟩) rfl (by kernel_rfl) (by decide) (fun K hK => ?_)
      go_simp
      refine hK.out _ _ ?_ (fun hHeld => ?_)
      ·exact HJ.out
      clear hK K
      (try simp only [Act.put, List.setIfInBounds_toArray, List.set_cons_zero, List.set_cons_succ])
      refine till_one 18 (o := ⟨_, _, _, _, _, _⟩) rfl (by kernel_rfl) (by decide) (fun K hK => ?_)
      (refine step_app kdCe (by rfl) _ _ (by rfl) (w.heap.size + 3) (.slice A' n' c') (ces r k) (by rfl) MA.out.e _ 1 1 [mkCe n qx] (by rfl) IX.out HLEN.out MA.out.sz ?_; intro v' w1 ho hgr hz; obtain ⟨A7, c7, e7, -, -, -, -⟩ := OwnL.arr kdCe ho; obtain ⟨m7, hm7⟩ : ∃ m7, (ces r k ++ [mkCe n qx]).length = m7 := ⟨_, rfl⟩; rw [hm7] at e7; clear hm7; subst e7; have b9 := MA.out.b2.grown hgr (fun e => by have := HOB.out _ e; omega); have x9 := HXA.out.grown hgr (fun e => HXN.out _ e rfl); have j0 := b9.cell 0; have j1 := b9.cell 1; have fz := b9.frozen 1; have j2 := x9.cell 0; have j3 := x9.cell 1; have j4 := x9.cell 2; have MF := Lib.hid (MA.out.addE (Nat.le_refl _) hgr ho); clear ho hgr hz b9 x9)
      refine hK.out _ _ ?_ (fun hHeld => ?_)
      ·exact ⟨j0, j1, j2, j3, j4⟩
      clear hK K
      (try simp only [Act.put, List.setIfInBounds_toArray, List.set_cons_zero, List.set_cons_succ])
      (refine till_take [20] (i := 19) (oi := ⟨_, _, _, _, _, _⟩) (d := some 108) (v := ?_) rfl rfl (by kernel_rfl) (by kernel_rfl) (fun _ _ _ h => h) (by rfl) ?_ (by assumption) ?_; rotate_left; (focus (intro w hSw; (try dsimp only at hSw); go_simp; try with_reducible rfl)); (try simp only [Act.put, List.setIfInBounds_toArray, List.set_cons_zero, List.set_cons_succ]))
      refine till_last (o := ⟨_, _, _, _, _, _⟩) rfl (by kernel_rfl) (by kernel_rfl) (fun K hK => ?_)
      go_simp
      refine hK.out _ _ ?_
      clear hK K
      go_wp2_with fail
      go_roundw
      case rel => exact ⟨k + 1, A7, m7, c7, by go_num, by omega, by rw [HSU.out]; exact MF.out⟩
      case measure => simp [intOf]; omega
-- L2AE
     ·have hk0 : k = 0 := by omega
      have hq0 : qx = ⟨0, 0, 0⟩ := by
       rw [← hqx]
       unfold tAt
       rw [List.getD_eq_getElem?_getD, List.getElem?_eq_none (by omega)]; rfl
      have d1 := (hm.b0.alloc (.cells #[.int .i64 0, .int .i64 0, .int .i64 0] 93)).cell 1
      have z0 : ((k : Int) == 0) = true := by simp; omega
      have z1 : decide ((k : Int) < (k2 : Int)) = false := decide_eq_false (by omega)
      have hzw := Lib.hid (show wr.alloc (.cells #[.int .i64 0, .int .i64 0, .int .i64 0] 93) = W6 by rw [← HW6.out, hq0])
      clear hm hqx hcase hq0
      go_upto_region 17 with fail
      rw [hzw.out]
      clear d0 d1 z0 z1 hzw
-- L2B
      have M6 := Lib.hid (HM.out.ext GW6.out)
      have HS6 := Lib.hid (show (fun X => X.cell? ⟨w.heap.size + 1 + 1, 0, none⟩ = some (.slice A n c) ∧ X.cell? ⟨w.heap.size + 1 + 1, 1, none⟩ = some (.slice A' n' c') ∧ X.cell? ⟨wr.heap.size, 0, none⟩ = some (.int .i64 qx.a) ∧ X.cell? ⟨wr.heap.size, 1, none⟩ = some (.int .i64 qx.b) ∧ X.cell? ⟨wr.heap.size, 2, none⟩ = some (.int .i64 qx.c)) W6.drew from ⟨M6.out.b2.cell 0, M6.out.b2.cell 1, BW6_0.out.cell 0, BW6_0.out.cell 1, BW6_0.out.cell 2⟩)
      have ga : Below W6.heap.size W6 (W6.drew.alloc (.cells #[.int .i64 (1 + qx.a % (n : Int)), .int .i64 (1 + qx.b % 9), .int .i64 (qx.c % 12)] 132)) := (Below.refl _ _).drew.alloc (by show W6.heap.size ≤ W6.drew.heap.size; exact Nat.le_refl _) _
      have MA := Lib.hid (M6.out.ext ga)
      have HXA := Lib.hid (BW6_0.out.ext ga)
      have HJ := Lib.hid (show (fun X => X.cell? ⟨w.heap.size + 1 + 1, 0, none⟩ = some (.slice A n c) ∧ X.cell? ⟨w.heap.size + 1 + 1, 1, none⟩ = some (.slice A' n' c') ∧ X.cell? ⟨wr.heap.size, 0, none⟩ = some (.int .i64 qx.a) ∧ X.cell? ⟨wr.heap.size, 1, none⟩ = some (.int .i64 qx.b) ∧ X.cell? ⟨wr.heap.size, 2, none⟩ = some (.int .i64 qx.c)) (W6.drew.alloc (.cells #[.int .i64 (1 + qx.a % (n : Int)), .int .i64 (1 + qx.b % 9), .int .i64 (qx.c % 12)] 132)) from ⟨MA.out.b2.cell 0, MA.out.b2.cell 1, HXA.out.cell 0, HXA.out.cell 1, HXA.out.cell 2⟩)
      have IX := Lib.hid (show Arr ecells 3 (W6.drew.alloc (.cells #[.int .i64 (1 + qx.a % (n : Int)), .int .i64 (1 + qx.b % 9), .int .i64 (qx.c % 12)] 132)) (some ⟨W6.drew.heap.size, 0, none⟩) 1 [mkCe n qx] from (Blk.new W6.drew 132 #[.int .i64 (1 + qx.a % (n : Int)), .int .i64 (1 + qx.b % 9), .int .i64 (qx.c % 12)]).arr1 (f := ecells) (x := mkCe n qx))
      have HLEN := Lib.hid (show (ces r k).length + 1 ≤ 1000000 by rw [ces_len]; omega)
      have HOB := Lib.hid (fun g (e : (Value.slice A' n' c').ownBlock = some g) => (own_cells MA.out.e e).1)
      have HXN := Lib.hid (fun g (e : (Value.slice A' n' c').ownBlock = some g) => (own_apart MA.out.e e HXA.out (by decide)))
      have hwA : IntKind.i64.wrap (1 + qx.a % (n : Int)) = 1 + qx.a % (n : Int) := by rw [IntKind.wrap_i64]; omega
      have hwB : IntKind.i64.wrap (1 + qx.b % 9) = 1 + qx.b % 9 := by rw [IntKind.wrap_i64]; omega
      clear ga
      refine wp_region_till (S := fun X => X.cell? ⟨w.heap.size + 1 + 1, 0, none⟩ = some (.slice A n c) ∧ X.cell? ⟨w.heap.size + 1 + 1, 1, none⟩ = some (.slice A' n' c') ∧ X.cell? ⟨wr.heap.size, 0, none⟩ = some (.int .i64 qx.a) ∧ X.cell? ⟨wr.heap.size, 1, none⟩ = some (.int .i64 qx.b) ∧ X.cell? ⟨wr.heap.size, 2, none⟩ = some (.int .i64 qx.c)) 20 (by kernel_rfl) (HS6.out) (fun hHeld => ?_)
      (refine till_take [1, 18, 20] (i := 0) (oi := ⟨_, _, _, _, _, _⟩) (d := some 89) (v := ?_) rfl rfl (by kernel_rfl) (by kernel_rfl) (fun _ _ _ h => h) (by rfl) ?_ (by assumption) ?_; rotate_left; (focus (intro w hSw; (try dsimp only at hSw); go_simp; try with_reducible rfl)); (try simp only [Act.put, List.setIfInBounds_toArray, List.set_cons_zero, List.set_cons_succ]))
      (refine till_take [18, 20] (i := 1) (oi := ⟨_, _, _, _, _, _⟩) (d := some 90) (v := ?_) rfl rfl (by kernel_rfl) (by kernel_rfl) (fun _ _ _ h => h) (by rfl) ?_ (by assumption) ?_; rotate_left; (focus (intro w hSw; (try dsimp only at hSw); go_simp; try with_reducible rfl)); (try simp only [Act.put, List.setIfInBounds_toArray, List.set_cons_zero, List.set_cons_succ]))
      (refine till_take [3, 7, 11, 15, 18, 20] (i := 2) (oi := ⟨_, _, _, _, _, _⟩) (d := some 91) (v := ?_) rfl rfl (by kernel_rfl) (by kernel_rfl) (fun _ _ _ h => h) (by rfl) ?_ (by assumption) ?_; rotate_left; (focus (intro w hSw; (try dsimp only at hSw); go_simp; try with_reducible rfl)); (try simp only [Act.put, List.setIfInBounds_toArray, List.set_cons_zero, List.set_cons_succ]))
      (refine till_take [7, 11, 15, 18, 20] (i := 3) (oi := ⟨_, _, _, _, _, _⟩) (d := some 92) (v := ?_) rfl rfl (by kernel_rfl) (by kernel_rfl) (fun _ _ _ h => h) (by rfl) ?_ (by assumption) ?_; rotate_left; (focus (intro w hSw; (try dsimp only at hSw); go_simp; try with_reducible rfl)); (try simp only [Act.put, List.setIfInBounds_toArray, List.set_cons_zero, List.set_cons_succ]))
      (refine till_take [5, 6, 7, 11, 15, 18, 20] (i := 4) (oi := ⟨_, _, _, _, _, _⟩) (d := some 93) (v := ?_) rfl rfl (by kernel_rfl) (by kernel_rfl) (fun _ _ _ h => h) (by rfl) ?_ (by assumption) ?_; rotate_left; (focus (intro w hSw; (try dsimp only at hSw); go_simp; try with_reducible rfl)); (try simp only [Act.put, List.setIfInBounds_toArray, List.set_cons_zero, List.set_cons_succ]))
      (refine till_take [6, 7, 11, 15, 18, 20] (i := 5) (oi := ⟨_, _, _, _, _, _⟩) (d := some 94) (v := ?_) rfl rfl (by kernel_rfl) (by kernel_rfl) (fun _ _ _ h => h) (by rfl) ?_ (by assumption) ?_; rotate_left; (focus (intro w hSw; (try dsimp only at hSw); go_simp; try with_reducible rfl)); (try simp only [Act.put, List.setIfInBounds_toArray, List.set_cons_zero, List.set_cons_succ]))
      (refine till_take [7, 11, 15, 18, 20] (i := 6) (oi := ⟨_, _, _, _, _, _⟩) (d := some 95) (v := ?_) rfl rfl (by kernel_rfl) (by kernel_rfl) (fun _ _ _ h => h) (by rfl) ?_ (by assumption) ?_; rotate_left; (focus (intro w hSw; (try dsimp only at hSw); go_simp; try with_reducible rfl)); (try simp only [Act.put, List.setIfInBounds_toArray, List.set_cons_zero, List.set_cons_succ]))
      (refine till_take [10, 11, 15, 18, 20] (i := 9) (oi := ⟨_, _, _, _, _, _⟩) (d := some 98) (v := ?_) rfl rfl (by kernel_rfl) (by kernel_rfl) (fun _ _ _ h => h) (by rfl) ?_ (by assumption) ?_; rotate_left; (focus (intro w hSw; (try dsimp only at hSw); go_simp; try with_reducible rfl)); (try simp only [Act.put, List.setIfInBounds_toArray, List.set_cons_zero, List.set_cons_succ]))
      (refine till_take [11, 15, 18, 20] (i := 10) (oi := ⟨_, _, _, _, _, _⟩) (d := some 99) (v := ?_) rfl rfl (by kernel_rfl) (by kernel_rfl) (fun _ _ _ h => h) (by rfl) ?_ (by assumption) ?_; rotate_left; (focus (intro w hSw; (try dsimp only at hSw); go_simp; try with_reducible rfl)); (try simp only [Act.put, List.setIfInBounds_toArray, List.set_cons_zero, List.set_cons_succ]))
      (refine till_take [14, 15, 18, 20] (i := 13) (oi := ⟨_, _, _, _, _, _⟩) (d := some 102) (v := ?_) rfl rfl (by kernel_rfl) (by kernel_rfl) (fun _ _ _ h => h) (by rfl) ?_ (by assumption) ?_; rotate_left; (focus (intro w hSw; (try dsimp only at hSw); go_simp; try with_reducible rfl)); (try simp only [Act.put, List.setIfInBounds_toArray, List.set_cons_zero, List.set_cons_succ]))
      (refine till_take [15, 18, 20] (i := 14) (oi := ⟨_, _, _, _, _, _⟩) (d := some 103) (v := ?_) rfl rfl (by kernel_rfl) (by kernel_rfl) (fun _ _ _ h => h) (by rfl) ?_ (by assumption) ?_; rotate_left; (focus (intro w hSw; (try dsimp only at hSw); go_simp; try with_reducible rfl)); (try simp only [Act.put, List.setIfInBounds_toArray, List.set_cons_zero, List.set_cons_succ]))
      refine till_one 7 (o := ⟨_, _, _, _, _, _⟩) rfl (by kernel_rfl) (by decide) (fun K hK => ?_)
      (go_simp; go_at_call 73; refine (mod4_any _ _ _ (by omega) (by omega)).mono ?_; rintro e w' ⟨rfl, rfl⟩; (try dsimp only))
      refine hK.out _ _ ?_ (fun hHeld => ?_)
      ·exact hHeld
      clear hK K
      (try simp only [Act.put, List.setIfInBounds_toArray, List.set_cons_zero, List.set_cons_succ])
      (refine till_take [16, 17, 18, 20] (i := 8) (oi := ⟨_, _, _, _, _, _⟩) (d := some 97) (v := ?_) rfl rfl (by kernel_rfl) (by kernel_rfl) (fun _ _ _ h => h) (by rfl) ?_ (by assumption) ?_; rotate_left; (focus (intro w hSw; (try dsimp only at hSw); go_simp; try with_reducible rfl)); (try simp only [Act.put, List.setIfInBounds_toArray, List.set_cons_zero, List.set_cons_succ]))
      refine till_one 11 (o := ⟨_, _, _, _, _, _⟩) rfl (by kernel_rfl) (by decide) (fun K hK => ?_)
      (go_simp; go_at_call 73; refine (mod4_any _ _ _ (by omega) (by omega)).mono ?_; rintro e w' ⟨rfl, rfl⟩; (try dsimp only))
      refine hK.out _ _ ?_ (fun hHeld => ?_)
      ·exact hHeld
      clear hK K
      (try simp only [Act.put, List.setIfInBounds_toArray, List.set_cons_zero, List.set_cons_succ])
      (refine till_take [16, 17, 18, 20] (i := 12) (oi := ⟨_, _, _, _, _, _⟩) (d := some 101) (v := ?_) rfl rfl (by kernel_rfl) (by kernel_rfl) (fun _ _ _ h => h) (by rfl) ?_ (by assumption) ?_; rotate_left; (focus (intro w hSw; (try dsimp only at hSw); go_simp; try with_reducible rfl)); (try simp only [Act.put, List.setIfInBounds_toArray, List.set_cons_zero, List.set_cons_succ]))
      refine till_one 15 (o := ⟨_, _, _, _, _, _⟩) rfl (by kernel_rfl) (by decide) (fun K hK => ?_)
      (go_simp; go_at_call 73; refine (mod4_any _ _ _ (by omega) (by omega)).mono ?_; rintro e w' ⟨rfl, rfl⟩; (try dsimp only))
      refine hK.out _ _ ?_ (fun hHeld => ?_)
      ·exact hHeld
      clear hK K
      (try simp only [Act.put, List.setIfInBounds_toArray, List.set_cons_zero, List.set_cons_succ])
      (refine till_take [17, 18, 20] (i := 16) (oi := ⟨_, _, _, _, _, _⟩) (d := some 105) (v := ?_) rfl rfl (by kernel_rfl) (by kernel_rfl) (fun _ _ _ h => h) (by rfl) ?_ (by assumption) ?_; rotate_left; (focus (intro w hSw; (try dsimp only at hSw); go_simp; try with_reducible rfl)); (try simp only [Act.put, List.setIfInBounds_toArray, List.set_cons_zero, List.set_cons_succ]))
      refine till_one 17 (o := ⟨_, _, _, _, _, _⟩) rfl (by kernel_rfl) (by decide) (fun K hK => ?_)
      go_simp
      refine hK.out _ _ ?_ (fun hHeld => ?_)
      ·exact HJ.out
      clear hK K
      (try simp only [Act.put, List.setIfInBounds_toArray, List.set_cons_zero, List.set_cons_succ])
      refine till_one 18 (o := ⟨_, _, _, _, _, _⟩) rfl (by kernel_rfl) (by decide) (fun K hK => ?_)
      (refine step_app kdCe (by rfl) _ _ (by rfl) (w.heap.size + 3) (.slice A' n' c') (ces r k) (by rfl) MA.out.e _ 1 1 [mkCe n qx] (by rfl) IX.out HLEN.out MA.out.sz ?_; intro v' w1 ho hgr hz; obtain ⟨A7, c7, e7, -, -, -, -⟩ := OwnL.arr kdCe ho; obtain ⟨m7, hm7⟩ : ∃ m7, (ces r k ++ [mkCe n qx]).length = m7 := ⟨_, rfl⟩; rw [hm7] at e7; clear hm7; subst e7; have b9 := MA.out.b2.grown hgr (fun e => by have := HOB.out _ e; omega); have x9 := HXA.out.grown hgr (fun e => HXN.out _ e rfl); have j0 := b9.cell 0; have j1 := b9.cell 1; have fz := b9.frozen 1; have j2 := x9.cell 0; have j3 := x9.cell 1; have j4 := x9.cell 2; have MF := Lib.hid (MA.out.addE (Nat.le_refl _) hgr ho); clear ho hgr hz b9 x9)
      refine hK.out _ _ ?_ (fun hHeld => ?_)
      ·exact ⟨j0, j1, j2, j3, j4⟩
      clear hK K
      (try simp only [Act.put, List.setIfInBounds_toArray, List.set_cons_zero, List.set_cons_succ])
      (refine till_take [20] (i := 19) (oi := ⟨_, _, _, _, _, _⟩) (d := some 108) (v := ?_) rfl rfl (by kernel_rfl) (by kernel_rfl) (fun _ _ _ h => h) (by rfl) ?_ (by assumption) ?_; rotate_left; (focus (intro w hSw; (try dsimp only at hSw); go_simp; try with_reducible rfl)); (try simp only [Act.put, List.setIfInBounds_toArray, List.set_cons_zero, List.set_cons_succ]))
      refine till_last (o := ⟨_, _, _, _, _, _⟩) rfl (by kernel_rfl) (by kernel_rfl) (fun K hK => ?_)
      go_simp
      refine hK.out _ _ ?_
      clear hK K
      go_wp2_with fail
      go_roundw
      case rel => exact ⟨k + 1, A7, m7, c7, by go_num, by omega, by rw [HSU.out]; exact MF.out⟩
      case measure => simp [intOf]; omega
-- L2BE
    ·have hkE : k = M2 := by omega
     subst hkE
     have hd6 : ¬ (k < k2 ∧ k < 10) ∧ k ≠ 0 := by
      have h := HL2.out k
      omega
     obtain ⟨A9, c9, e9, -⟩ := OwnL.arr kdCe hm.e
     have e9b : n' = (ces r k).length := by injection e9
     rw [ces_len] at e9b
     clear e9
     subst e9b
     have e0 : ((n' : Int) == 0) = false := beq_eq_false_iff_ne.2 (by omega)
     clear hm
     go_upto_region 12 with fail
     go_cut [75] from 63 to 75 (fun cc wx => cc = .bool false ∧ wx = wr)
     case first =>
      by_cases c1 : n' < k2
      ·have e1 : decide ((n' : Int) < (k2 : Int)) = true := decide_eq_true (by omega)
       have e2 : decide ((n' : Int) < 10) = false := decide_eq_false (by omega)
       go_wp2_with fail
       go_meet
       exact ⟨rfl, rfl⟩
      ·have e1 : decide ((n' : Int) < (k2 : Int)) = false := decide_eq_false (by omega)
       go_wp2_with fail
       go_meet
       exact ⟨rfl, rfl⟩
     case rest =>
     obtain ⟨rfl, rfl⟩ := hcut
     obtain ⟨M3, hM3⟩ : ∃ m, many k3 6 = m := ⟨_, rfl⟩
     have HL3 := Lib.hid (fun k => many_lt (n := k3) (m := 6) (k := k) (by omega))
     rw [hM3] at hb3 HL3
     clear hkm hk hd6 d0 e0
     have HMB := Lib.hid HM.out
     clear HM
     rename World => V2
     go_wp2_with fail
     go_loopw [10, 11] (fun v i wr => ∃ (k : Nat) (u : Value), u = v ∧ i = .int .i64 k ∧ k ≤ M3 ∧ Mk4 w w.heap.size #[.slice R1 k1 q1, .slice R2 k2 q2, .slice R3 k3 q3] (.slice A n c) (.slice A' n' c') (chs r n) (ces r n') wr ∧ OwnL ccells 4 87 wr (w.heap.size + 3) v (cls r k)) (fun _ i _ => 1000 - (intOf i).toNat)
     case atStart => exact ⟨0, _, rfl, rfl, Nat.zero_le _, HMB.out, OwnL.nil _ _⟩
     case round =>
     clear HMB
     obtain ⟨k, u, rfl, rfl, hk, hm, hv⟩ := hrel
     have HM := Lib.hid hm
     have HV := Lib.hid hv
     clear hv
     have d0 := hm.b0.cell 2
     by_cases hkm : k < M3
     ·obtain ⟨qx, hqx⟩ : ∃ q, tAt r.cl k = q := ⟨_, rfl⟩
      have HSU := Lib.hid (show cls r (k + 1) = cls r k ++ [mkCl k n' qx] by rw [cls_succ, hqx, e2, hM2])
      obtain ⟨W6, hW6⟩ : ∃ X, wr.alloc (.cells #[.int .i64 qx.a, .int .i64 qx.b, .int .i64 qx.c] 93) = X := ⟨_, rfl⟩
      have GW6 := Lib.hid (show Below wr.heap.size wr W6 by rw [← hW6]; exact one_more _ _)
      have BW6_0 := Lib.hid (show Blk W6 (wr.heap.size) 93 #[.int .i64 qx.a, .int .i64 qx.b, .int .i64 qx.c] by
       rw [← hW6]
       have := Blk.new wr 93 #[.int .i64 qx.a, .int .i64 qx.b, .int .i64 qx.c]
       (try simp only [World.size_alloc] at this)
       exact this)
      have HW6 := Lib.hid hW6
      clear hW6
      have hcase : (k < k3 ∧ k < 6) ∨ k = 0 := (HL3.out k).1 hkm
      by_cases hlt : k < k3
      ·have hk3 : k < 6 := by omega
       obtain ⟨bb, oo, hA, hc⟩ := t3_at H3.out hlt
       subst hA
       rw [hqx] at hc
       have z0 : (k : Int) < (k3 : Int) := by omega
       have z1 : (k : Int) < 6 := by omega
       have hc0 := hc (wr.alloc (.cells #[.int .i64 0, .int .i64 0, .int .i64 0] 93)) (hm.g.trans ((one_more wr _).mono hm.g.size))
       obtain ⟨v0, v1, v2⟩ := hc0
       have d1 := (hm.b0.alloc (.cells #[.int .i64 0, .int .i64 0, .int .i64 0] 93)).cell 2
       clear hm hc hqx hcase
       go_upto_region 25 with fail
       rw [HW6.out]
       clear v0 v1 v2 d0 d1 z0 z1
       have M6 := Lib.hid (HM.out.ext GW6.out)
       have HV6 := Lib.hid (HV.out.ext GW6.out)
       have HK := Lib.hid (fun X (hx : Below W6.heap.size W6 X) => (show X.cell? ⟨w.heap.size + 1 + 1, 1, none⟩ = some (.slice A' n' c') ∧ X.cell? ⟨wr.heap.size, 0, none⟩ = some (.int .i64 qx.a) ∧ X.cell? ⟨wr.heap.size, 1, none⟩ = some (.int .i64 qx.b) from ⟨(M6.out.b2.ext hx).cell 1, (BW6_0.out.ext hx).cell 0, (BW6_0.out.ext hx).cell 1⟩))
       obtain ⟨t0, t1, t2⟩ := HK.out _ (Below.refl _ _)
       have hw0 : IntKind.i64.wrap (2 * (k : Int)) = 2 * (k : Int) := by rw [IntKind.wrap_i64]; omega
       have hw1 : IntKind.i64.wrap (3 + 2 * (k : Int)) = 3 + 2 * (k : Int) := by rw [IntKind.wrap_i64]; omega
       have hw2 : IntKind.i64.wrap (1 + qx.a % 4) = 1 + qx.a % 4 := by rw [IntKind.wrap_i64]; omega
       go_cut [13] from 135 to 148 (fun s13 wx => ∃ b9, s13 = .pointer (some ⟨b9, 0, none⟩) ∧ Below W6.heap.size W6 wx ∧ W6.heap.size ≤ b9 ∧ Blk wx b9 87 #[.int .i64 (3 + 2 * (k : Int)), .int .i64 (1 + qx.a % 4), .int .i64 (qx.b % (n' : Int)), .int .i64 0])
       case first =>
        go_region_held3 (fun X => X.cell? ⟨w.heap.size + 1 + 1, 1, none⟩ = some (.slice A' n' c') ∧ X.cell? ⟨wr.heap.size, 0, none⟩ = some (.int .i64 qx.a) ∧ X.cell? ⟨wr.heap.size, 1, none⟩ = some (.int .i64 qx.b))
         (first | exact HK.out _ (by exact (Below.refl _ _).drew) | exact HK.out _ (by exact (one_more _ _).drew) | exact HK.out _ (by exact (one_more _ _)))
         ((go_at_call 73; (with_reducible refine (mod4_any _ _ _ (by omega) (by omega)).mono ?_); rintro e w' ⟨rfl, rfl⟩))
        all_goals (try go_wp2_with fail)
        all_goals go_meet
        all_goals first
         | exact ⟨_, rfl, (one_more _ _).drew, Nat.le_refl _, (Blk.new _ _ _).ext ((Below.refl _ _).drew)⟩
         | exact ⟨_, rfl, one_more _ _, Nat.le_refl _, Blk.new _ _ _⟩
       case rest =>
       obtain ⟨b9, rfl, hg9, hle9, hb9⟩ := hcut
       rename World => V9
       have M9 := Lib.hid (M6.out.ext hg9)
       have HV9 := Lib.hid (HV6.out.ext hg9)
       have BX := Lib.hid (BW6_0.out.ext hg9)
       have BY := Lib.hid hb9
       have HG9 := Lib.hid hg9
       have y0 := cellW (M9.out.b2.cell 1)
       have y1 := cellW (BX.out.cell 2)
       have y2 := cellW (hb9.cell 2)
       have hy1 := Int.emod_lt_of_pos qx.b (show (0 : Int) < (n' : Int) by omega)
       have hy2 := Int.emod_nonneg qx.b (show (n' : Int) ≠ 0 by omega)
       have hy3 := Int.emod_lt_of_pos qx.c (show (0 : Int) < (n' : Int) - qx.b % (n' : Int) by omega)
       have hy4 := Int.emod_nonneg qx.c (show (n' : Int) - qx.b % (n' : Int) ≠ 0 by omega)
       have hwA : IntKind.i64.wrap ((n' : Int) - qx.b % (n' : Int)) = (n' : Int) - qx.b % (n' : Int) := by rw [IntKind.wrap_i64]; omega
       have hwB : IntKind.i64.wrap (qx.b % (n' : Int) + qx.c % ((n' : Int) - qx.b % (n' : Int))) = qx.b % (n' : Int) + qx.c % ((n' : Int) - qx.b % (n' : Int)) := by rw [IntKind.wrap_i64]; omega
       clear t0 t1 t2 hb9 hg9
       go_upto_region 26 with fail
       refine wp_region_calm_tail V9 13 (by kernel_rfl) (by kernel_rfl) (Below.refl _ _) ?_
       simp only [List.take_succ_cons, List.take_zero, List.drop_succ_cons, List.drop_zero]
       repeat (go_big_quiet_step ((go_at_call 73; exact callsCalmSame (mod4_any _ _ _ (by omega) (by omega)))))
       refine wpQuiet_nil ?_
       rintro _ ⟨z, rfl⟩
       have hgz := HG9.out.trans (z.ok.mono HG9.out.size)
       have B8 := BY.out.ext z.ok
       have V8o := HV9.out.ext z.ok
       generalize z.val = V8 at hgz B8 V8o ⊢
       clear y0 y1 y2
       have f0 := B8.frozen 3
       have f1 := B8.cell 3
       obtain ⟨V7, hV7⟩ : ∃ X, V8.setCell ⟨b9, 3, none⟩ (.int .i64 (qx.b % (n' : Int) + qx.c % ((n' : Int) - qx.b % (n' : Int)))) = X := ⟨_, rfl⟩
       have hg7 : Below W6.heap.size W6 V7 := by rw [← hV7]; exact hgz.setCell (p := ⟨b9, 3, none⟩) hle9 _
       have B7 := Lib.hid (show Blk V7 b9 87 #[.int .i64 (3 + 2 * (k : Int)), .int .i64 (1 + qx.a % 4), .int .i64 (qx.b % (n' : Int)), .int .i64 (qx.b % (n' : Int) + qx.c % ((n' : Int) - qx.b % (n' : Int)))] by rw [← hV7]; exact B8.set_ 3 _)
       have V7o := Lib.hid (show OwnL ccells 4 87 V7 (w.heap.size + 3) u (cls r k) by rw [← hV7]; exact own_farD V8o (fun g e => by have h1 := (own_cells HV.out e).2.1; have h2 := GW6.out.size; show g ≠ b9; omega) _)
       have M7 := Lib.hid (M6.out.ext hg7)
       go_upto_region 27 with fail
       (try rw [hV7])
       clear hV7 f0 f1 B8 V8o hgz hg7
       have r0 := B7.out.cell 0
       have r1 := B7.out.cell 1
       have r2 := B7.out.cell 2
       have r3 := B7.out.cell 3
       have MA := Lib.hid (M7.out.ext (one_more V7 (.cells #[.int .i64 (3 + 2 * (k : Int)), .int .i64 (1 + qx.a % 4), .int .i64 (qx.b % (n' : Int)), .int .i64 (qx.b % (n' : Int) + qx.c % ((n' : Int) - qx.b % (n' : Int)))] 87)))
       have OA := Lib.hid (V7o.out.ext (one_more V7 (.cells #[.int .i64 (3 + 2 * (k : Int)), .int .i64 (1 + qx.a % 4), .int .i64 (qx.b % (n' : Int)), .int .i64 (qx.b % (n' : Int) + qx.c % ((n' : Int) - qx.b % (n' : Int)))] 87)))
       have IX := Lib.hid (show Arr ccells 4 (V7.alloc (.cells #[.int .i64 (3 + 2 * (k : Int)), .int .i64 (1 + qx.a % 4), .int .i64 (qx.b % (n' : Int)), .int .i64 (qx.b % (n' : Int) + qx.c % ((n' : Int) - qx.b % (n' : Int)))] 87)) (some ⟨V7.heap.size, 0, none⟩) 1 [mkCl k n' qx] from (Blk.new V7 87 #[.int .i64 (3 + 2 * (k : Int)), .int .i64 (1 + qx.a % 4), .int .i64 (qx.b % (n' : Int)), .int .i64 (qx.b % (n' : Int) + qx.c % ((n' : Int) - qx.b % (n' : Int)))]).arr1 (f := ccells) (x := mkCl k n' qx))
       have HLEN := Lib.hid (show (cls r k).length + 1 ≤ 1000000 by rw [cls_len]; omega)
       have HSZ := Lib.hid MA.out.sz
       go_wp2_with (at_builtin; go_loud (refine wpList_app kdCm (by rfl) _ _ (by rfl) (w.heap.size + 3) u (cls r k) (by rfl) OA.out _ 1 1 [mkCl k n' qx] (by rfl) IX.out HLEN.out HSZ.out ?_); intro v' w' ho hbw hz; have HO9 := Lib.hid ho; have MF := Lib.hid (MA.out.turn4 (Nat.le_refl _) hbw OA.out); clear ho hbw hz)
       go_roundw
       case rel => exact ⟨k + 1, _, rfl, by go_num, by omega, MF.out, by rw [HSU.out]; exact HO9.out⟩
       case measure => simp [intOf]; omega
      ·have hk0 : k = 0 := by omega
       have hq0 : qx = ⟨0, 0, 0⟩ := by
        rw [← hqx]
        unfold tAt
        rw [List.getD_eq_getElem?_getD, List.getElem?_eq_none (by omega)]; rfl
       have d1 := (hm.b0.alloc (.cells #[.int .i64 0, .int .i64 0, .int .i64 0] 93)).cell 2
       have z0 : ((k : Int) == 0) = true := by simp; omega
       have z1 : decide ((k : Int) < (k3 : Int)) = false := decide_eq_false (by omega)
       have hzw := Lib.hid (show wr.alloc (.cells #[.int .i64 0, .int .i64 0, .int .i64 0] 93) = W6 by rw [← HW6.out, hq0])
       clear hm hqx hcase hq0 hk0
       go_upto_region 25 with fail
       rw [hzw.out]
       clear d0 d1 z0 z1 hzw
       have M6 := Lib.hid (HM.out.ext GW6.out)
       have HV6 := Lib.hid (HV.out.ext GW6.out)
       have HK := Lib.hid (fun X (hx : Below W6.heap.size W6 X) => (show X.cell? ⟨w.heap.size + 1 + 1, 1, none⟩ = some (.slice A' n' c') ∧ X.cell? ⟨wr.heap.size, 0, none⟩ = some (.int .i64 qx.a) ∧ X.cell? ⟨wr.heap.size, 1, none⟩ = some (.int .i64 qx.b) from ⟨(M6.out.b2.ext hx).cell 1, (BW6_0.out.ext hx).cell 0, (BW6_0.out.ext hx).cell 1⟩))
       obtain ⟨t0, t1, t2⟩ := HK.out _ (Below.refl _ _)
       have hw0 : IntKind.i64.wrap (2 * (k : Int)) = 2 * (k : Int) := by rw [IntKind.wrap_i64]; omega
       have hw1 : IntKind.i64.wrap (3 + 2 * (k : Int)) = 3 + 2 * (k : Int) := by rw [IntKind.wrap_i64]; omega
       have hw2 : IntKind.i64.wrap (1 + qx.a % 4) = 1 + qx.a % 4 := by rw [IntKind.wrap_i64]; omega
       go_cut [13] from 135 to 148 (fun s13 wx => ∃ b9, s13 = .pointer (some ⟨b9, 0, none⟩) ∧ Below W6.heap.size W6 wx ∧ W6.heap.size ≤ b9 ∧ Blk wx b9 87 #[.int .i64 (3 + 2 * (k : Int)), .int .i64 (1 + qx.a % 4), .int .i64 (qx.b % (n' : Int)), .int .i64 0])
       case first =>
        go_region_held3 (fun X => X.cell? ⟨w.heap.size + 1 + 1, 1, none⟩ = some (.slice A' n' c') ∧ X.cell? ⟨wr.heap.size, 0, none⟩ = some (.int .i64 qx.a) ∧ X.cell? ⟨wr.heap.size, 1, none⟩ = some (.int .i64 qx.b))
         (first | exact HK.out _ (by exact (Below.refl _ _).drew) | exact HK.out _ (by exact (one_more _ _).drew) | exact HK.out _ (by exact (one_more _ _)))
         ((go_at_call 73; (with_reducible refine (mod4_any _ _ _ (by omega) (by omega)).mono ?_); rintro e w' ⟨rfl, rfl⟩))
        all_goals (try go_wp2_with fail)
        all_goals go_meet
        all_goals first
         | exact ⟨_, rfl, (one_more _ _).drew, Nat.le_refl _, (Blk.new _ _ _).ext ((Below.refl _ _).drew)⟩
         | exact ⟨_, rfl, one_more _ _, Nat.le_refl _, Blk.new _ _ _⟩
       case rest =>
       obtain ⟨b9, rfl, hg9, hle9, hb9⟩ := hcut
       rename World => V9
       have M9 := Lib.hid (M6.out.ext hg9)
       have HV9 := Lib.hid (HV6.out.ext hg9)
       have BX := Lib.hid (BW6_0.out.ext hg9)
       have BY := Lib.hid hb9
       have HG9 := Lib.hid hg9
       have y0 := cellW (M9.out.b2.cell 1)
       have y1 := cellW (BX.out.cell 2)
       have y2 := cellW (hb9.cell 2)
       have hy1 := Int.emod_lt_of_pos qx.b (show (0 : Int) < (n' : Int) by omega)
       have hy2 := Int.emod_nonneg qx.b (show (n' : Int) ≠ 0 by omega)
       have hy3 := Int.emod_lt_of_pos qx.c (show (0 : Int) < (n' : Int) - qx.b % (n' : Int) by omega)
       have hy4 := Int.emod_nonneg qx.c (show (n' : Int) - qx.b % (n' : Int) ≠ 0 by omega)
       have hwA : IntKind.i64.wrap ((n' : Int) - qx.b % (n' : Int)) = (n' : Int) - qx.b % (n' : Int) := by rw [IntKind.wrap_i64]; omega
       have hwB : IntKind.i64.wrap (qx.b % (n' : Int) + qx.c % ((n' : Int) - qx.b % (n' : Int))) = qx.b % (n' : Int) + qx.c % ((n' : Int) - qx.b % (n' : Int)) := by rw [IntKind.wrap_i64]; omega
       clear t0 t1 t2 hb9 hg9
       go_upto_region 26 with fail
       refine wp_region_calm_tail V9 13 (by kernel_rfl) (by kernel_rfl) (Below.refl _ _) ?_
       simp only [List.take_succ_cons, List.take_zero, List.drop_succ_cons, List.drop_zero]
       repeat (go_big_quiet_step ((go_at_call 73; exact callsCalmSame (mod4_any _ _ _ (by omega) (by omega)))))
       refine wpQuiet_nil ?_
       rintro _ ⟨z, rfl⟩
       have hgz := HG9.out.trans (z.ok.mono HG9.out.size)
       have B8 := BY.out.ext z.ok
       have V8o := HV9.out.ext z.ok
       generalize z.val = V8 at hgz B8 V8o ⊢
       clear y0 y1 y2
       have f0 := B8.frozen 3
       have f1 := B8.cell 3
       obtain ⟨V7, hV7⟩ : ∃ X, V8.setCell ⟨b9, 3, none⟩ (.int .i64 (qx.b % (n' : Int) + qx.c % ((n' : Int) - qx.b % (n' : Int)))) = X := ⟨_, rfl⟩
       have hg7 : Below W6.heap.size W6 V7 := by rw [← hV7]; exact hgz.setCell (p := ⟨b9, 3, none⟩) hle9 _
       have B7 := Lib.hid (show Blk V7 b9 87 #[.int .i64 (3 + 2 * (k : Int)), .int .i64 (1 + qx.a % 4), .int .i64 (qx.b % (n' : Int)), .int .i64 (qx.b % (n' : Int) + qx.c % ((n' : Int) - qx.b % (n' : Int)))] by rw [← hV7]; exact B8.set_ 3 _)
       have V7o := Lib.hid (show OwnL ccells 4 87 V7 (w.heap.size + 3) u (cls r k) by rw [← hV7]; exact own_farD V8o (fun g e => by have h1 := (own_cells HV.out e).2.1; have h2 := GW6.out.size; show g ≠ b9; omega) _)
       have M7 := Lib.hid (M6.out.ext hg7)
       go_upto_region 27 with fail
       (try rw [hV7])
       clear hV7 f0 f1 B8 V8o hgz hg7
       have r0 := B7.out.cell 0
       have r1 := B7.out.cell 1
       have r2 := B7.out.cell 2
       have r3 := B7.out.cell 3
       have MA := Lib.hid (M7.out.ext (one_more V7 (.cells #[.int .i64 (3 + 2 * (k : Int)), .int .i64 (1 + qx.a % 4), .int .i64 (qx.b % (n' : Int)), .int .i64 (qx.b % (n' : Int) + qx.c % ((n' : Int) - qx.b % (n' : Int)))] 87)))
       have OA := Lib.hid (V7o.out.ext (one_more V7 (.cells #[.int .i64 (3 + 2 * (k : Int)), .int .i64 (1 + qx.a % 4), .int .i64 (qx.b % (n' : Int)), .int .i64 (qx.b % (n' : Int) + qx.c % ((n' : Int) - qx.b % (n' : Int)))] 87)))
       have IX := Lib.hid (show Arr ccells 4 (V7.alloc (.cells #[.int .i64 (3 + 2 * (k : Int)), .int .i64 (1 + qx.a % 4), .int .i64 (qx.b % (n' : Int)), .int .i64 (qx.b % (n' : Int) + qx.c % ((n' : Int) - qx.b % (n' : Int)))] 87)) (some ⟨V7.heap.size, 0, none⟩) 1 [mkCl k n' qx] from (Blk.new V7 87 #[.int .i64 (3 + 2 * (k : Int)), .int .i64 (1 + qx.a % 4), .int .i64 (qx.b % (n' : Int)), .int .i64 (qx.b % (n' : Int) + qx.c % ((n' : Int) - qx.b % (n' : Int)))]).arr1 (f := ccells) (x := mkCl k n' qx))
       have HLEN := Lib.hid (show (cls r k).length + 1 ≤ 1000000 by rw [cls_len]; omega)
       have HSZ := Lib.hid MA.out.sz
       go_wp2_with (at_builtin; go_loud (refine wpList_app kdCm (by rfl) _ _ (by rfl) (w.heap.size + 3) u (cls r k) (by rfl) OA.out _ 1 1 [mkCl k n' qx] (by rfl) IX.out HLEN.out HSZ.out ?_); intro v' w' ho hbw hz; have HO9 := Lib.hid ho; have MF := Lib.hid (MA.out.turn4 (Nat.le_refl _) hbw OA.out); clear ho hbw hz)
       go_roundw
       case rel => exact ⟨k + 1, _, rfl, by go_num, by omega, MF.out, by rw [HSU.out]; exact HO9.out⟩
       case measure => simp [intOf]; omega
     ·have hkE : k = M3 := by omega
      subst hkE
      have hd6 : ¬ (k < k3 ∧ k < 6) ∧ k ≠ 0 := by
       have h := HL3.out k
       omega
      have e0 : ((k : Int) == 0) = false := beq_eq_false_iff_ne.2 (by omega)
      clear hm
      go_upto_region 20 with fail
      go_cut [121] from 109 to 121 (fun cc wx => cc = .bool false ∧ wx = wr)
      case first =>
       by_cases c1 : k < k3
       ·have e1 : decide ((k : Int) < (k3 : Int)) = true := decide_eq_true (by omega)
        have e2 : decide ((k : Int) < 6) = false := decide_eq_false (by omega)
        go_wp2_with fail
        go_meet
        exact ⟨rfl, rfl⟩
       ·have e1 : decide ((k : Int) < (k3 : Int)) = false := decide_eq_false (by omega)
        go_wp2_with fail
        go_meet
        exact ⟨rfl, rfl⟩
      case rest =>
      obtain ⟨rfl, rfl⟩ := hcut
      rename World => V3
      clear hkm hk hd6 d0 e0
      have x0 := HM.out.b2.cell 0
      have x1 := HM.out.b2.cell 1
      have f0 := HM.out.b1.frozen 0
      have f1 := HM.out.b1.frozen 1
      have r0 := HM.out.b1.cell 0
      have r1 := HM.out.b1.cell 1
      have hb2 := (HM.out.b1.set_ 0 (.slice A n c)).set_ 1 (.slice A' n' c')
      have t0 := hb2.cell 0
      have t1 := hb2.cell 1
      have HGF := Lib.hid ((HM.out.g.setCell (p := ⟨w.heap.size + 1, 0, none⟩) (by show w.heap.size ≤ w.heap.size + 1; omega) (.slice A n c)).setCell (p := ⟨w.heap.size + 1, 1, none⟩) (by show w.heap.size ≤ w.heap.size + 1; omega) (.slice A' n' c'))
      have far : ∀ i r, w.heap.size + 3 ≤ r → r ≠ (⟨w.heap.size + 1, i, none⟩ : Addr).block := fun i r h => by show r ≠ w.heap.size + 1; omega
      have HOC := Lib.hid (own_farD (own_farD HM.out.c (p := ⟨w.heap.size + 1, 0, none⟩) (fun r e => far 0 r (own_cells HM.out.c e).1) (.slice A n c)) (p := ⟨w.heap.size + 1, 1, none⟩) (fun r e => far 1 r (own_cells HM.out.c e).1) (.slice A' n' c'))
      have HOE := Lib.hid (own_farD (own_farD HM.out.e (p := ⟨w.heap.size + 1, 0, none⟩) (fun r e => far 0 r (own_cells HM.out.e e).1) (.slice A n c)) (p := ⟨w.heap.size + 1, 1, none⟩) (fun r e => far 1 r (own_cells HM.out.e e).1) (.slice A' n' c'))
      have HOL := Lib.hid (own_farD (own_farD HV.out (p := ⟨w.heap.size + 1, 0, none⟩) (fun r e => far 0 r (own_cells HV.out e).1) (.slice A n c)) (p := ⟨w.heap.size + 1, 1, none⟩) (fun r e => far 1 r (own_cells HV.out e).1) (.slice A' n' c'))
      clear hb2 far
      go_wp2_with fail
      refine bodyPost_ret (v := .tuple #[.agg #[.slice A n c, .slice A' n' c'], u]) ?_ rfl ?_
      ·simp [results, Tryz.results16, go_sem, t0, t1]
      ·have g1 : (madeG r).chains = chs r n := by unfold madeG; rw [e1, hM1]
       have g2 : (madeG r).cells = ces r n' := by unfold madeG; rw [e2, hM2]
       have g3 : madeC r = cls r k := by unfold madeC; rw [e3, hM3]
       refine ⟨⟨_, _, _, rfl, ?_, ?_, ?_⟩, HGF.out⟩
       ·rw [g1]; exact HOC.out.mono (by omega)
       ·rw [g2]; exact HOE.out.mono (by omega)
       ·rw [g3]; exact HOL.out.mono (by omega)
end Go.Proofs.YtkoejeghihcmlaaGreat

namespace Go.Proofs.YtkoejeghihcmlaaGreat
open Go.RowKit Go.Shelf
def fxP : Pl := ⟨10, 12, [⟨1, 30, 8, 12, 0, 0⟩], [⟨2, 30, 0, 0, 5, 0⟩], [], 0⟩
def fxG : Gd := ⟨[⟨1, 9, 9⟩], [⟨1, 1, 6⟩, ⟨1, 1, 2⟩]⟩
set_option maxRecDepth 100000 in
theorem fx_ask4 : askE fxP [33] 4 = 0 := by decide +kernel
set_option maxRecDepth 100000 in
theorem fx_ask5 : askE fxP [33] 5 = 0 := by decide +kernel
set_option maxRecDepth 100000 in
theorem fx_clear : clearA fxP 33 4 = 2 := by decide +kernel
set_option maxRecDepth 100000 in
theorem fx_open : openA fxP 33 5 = 1 := by decide +kernel
theorem fx_okG : OkG fxG := by
 refine ⟨by decide, by decide, fun c hc => ?_, fun i hi => ?_, fun c hc => ?_, fun c hc => ?_⟩
 ·simp only [fxG, List.mem_cons, List.not_mem_nil, or_false] at hc; subst hc; unfold okH; decide
 ·simp [fxG] at hi
 ·simp only [fxG, List.mem_cons, List.not_mem_nil, or_false] at hc
  rcases hc with rfl | rfl <;> (unfold okE; decide)
 ·simp only [fxG, List.mem_cons, List.not_mem_nil, or_false] at hc
  refine ⟨⟨1, 9, 9⟩, by simp [fxG], ?_⟩
  rcases hc with rfl | rfl <;> rfl
theorem fx_okL : OkL fxG exL := by
 refine ⟨by decide, fun c hc => ?_, by decide⟩
 simp only [exL, List.mem_cons, List.not_mem_nil, or_false] at hc
 rcases hc with rfl | rfl <;> (unfold okC; decide)
theorem fx_ws : wsG fxG = exWs := rfl
theorem fx_c (V : World) (A1 A2 A3 : Option Addr) (n1 c1 n2 c2 n3 c3 : Nat) (hp : Pa V fxP A1 A2 A3 n1 c1 n2 c2 n3 c3) : Calls Tryz.prog 36 #[.agg #[.int .i64 10, .int .i64 12, .slice A1 n1 c1, .slice A2 n2 c2, .slice A3 n3 c3, .int .i64 0], .int .i64 33, .int .i64 4] V fun e w' => e = .returned (.tuple #[.int .i64 2, .int .i64 0]) ∧ Below V.heap.size V w' := by
 have := clear_any fxP A1 A2 A3 n1 c1 n2 c2 n3 c3 33 4 V hp (by decide)
 rw [fx_ask4, fx_clear] at this; exact this
theorem fx_o (V : World) (A1 A2 A3 : Option Addr) (n1 c1 n2 c2 n3 c3 : Nat) (hp : Pa V fxP A1 A2 A3 n1 c1 n2 c2 n3 c3) : Calls Tryz.prog 18 #[.agg #[.int .i64 10, .int .i64 12, .slice A1 n1 c1, .slice A2 n2 c2, .slice A3 n3 c3, .int .i64 0], .int .i64 33, .int .i64 5] V fun e w' => e = .returned (.tuple #[.int .i64 1, .int .i64 0]) ∧ Below V.heap.size V w' := by
 have := openP_any fxP A1 A2 A3 n1 c1 n2 c2 n3 c3 33 5 V hp (by decide)
 rw [fx_ask5, fx_open] at this; exact this
theorem fx_k1 : (mo (wsG fxG) exL 1).all = false := by rw [fx_ws]; exact ex_1
theorem fx_k0 : ∀ j < 1, (mo (wsG fxG) exL j).all = true := fun j hj => by
 have : j = 0 := by omega
 subst this; rw [fx_ws]; exact ex_0
theorem fx_l (V : World) (A1 A2 A3 : Option Addr) (n1 c1 n2 c2 n3 c3 : Nat) (hg : Ga V fxG A1 A2 n1 c1 n2 c2) (hl : Sl ccells 4 V A3 n3 c3 exL) : Calls Tryz.prog 25 #[gv A1 A2 n1 c1 n2 c2, .slice A3 n3 c3] V (LeastFEnd (wsG fxG) exL 1 V) :=
 leastF_any fxG A1 A2 A3 n1 c1 n2 c2 n3 c3 exL 1 V hg fx_okG hl fx_okL fx_k1 fx_k0
theorem fx_arr2 {w : World} {g : Nat} (h : Blk w g 132 #[.int .i64 1, .int .i64 1, .int .i64 6, .int .i64 1, .int .i64 1, .int .i64 2]) : Arr ecells 3 w (some ⟨g, 0, none⟩) 2 [⟨1, 1, 6⟩, ⟨1, 1, 2⟩] :=
 ⟨rfl, fun _ => ⟨g, 0, rfl, h.lt, fun k x hx j u hu => by
  rw [Nat.zero_add]
  match k, hx with
  | 0, hx =>
   simp only [List.getElem?_cons_zero, Option.some.injEq] at hx
   subst hx
   match j, hu with
   | 0, hu => (simp [ecells] at hu; subst hu; exact h.cell 0)
   | 1, hu => (simp [ecells] at hu; subst hu; exact h.cell 1)
   | 2, hu => (simp [ecells] at hu; subst hu; exact h.cell 2)
   | j + 3, hu => simp [ecells] at hu
  | 1, hx =>
   simp only [List.getElem?_cons_succ, List.getElem?_cons_zero, Option.some.injEq] at hx
   subst hx
   match j, hu with
   | 0, hu => (simp [ecells] at hu; subst hu; exact h.cell 3)
   | 1, hu => (simp [ecells] at hu; subst hu; exact h.cell 4)
   | 2, hu => (simp [ecells] at hu; subst hu; exact h.cell 5)
   | j + 3, hu => simp [ecells] at hu
  | k + 2, hx => simp at hx⟩⟩
theorem fx_arrC {w : World} {g : Nat} (h : Blk w g 87 #[.int .i64 3, .int .i64 2, .int .i64 0, .int .i64 1, .int .i64 5, .int .i64 1, .int .i64 0, .int .i64 1]) : Arr ccells 4 w (some ⟨g, 0, none⟩) 2 exL :=
 ⟨rfl, fun _ => ⟨g, 0, rfl, h.lt, fun k x hx j u hu => by
  rw [Nat.zero_add]
  unfold exL at hx
  match k, hx with
  | 0, hx =>
   simp only [List.getElem?_cons_zero, Option.some.injEq] at hx
   subst hx
   match j, hu with
   | 0, hu => (simp [ccells] at hu; subst hu; exact h.cell 0)
   | 1, hu => (simp [ccells] at hu; subst hu; exact h.cell 1)
   | 2, hu => (simp [ccells] at hu; subst hu; exact h.cell 2)
   | 3, hu => (simp [ccells] at hu; subst hu; exact h.cell 3)
   | j + 4, hu => simp [ccells] at hu
  | 1, hx =>
   simp only [List.getElem?_cons_succ, List.getElem?_cons_zero, Option.some.injEq] at hx
   subst hx
   match j, hu with
   | 0, hu => (simp [ccells] at hu; subst hu; exact h.cell 4)
   | 1, hu => (simp [ccells] at hu; subst hu; exact h.cell 5)
   | 2, hu => (simp [ccells] at hu; subst hu; exact h.cell 6)
   | 3, hu => (simp [ccells] at hu; subst hu; exact h.cell 7)
   | j + 4, hu => simp [ccells] at hu
  | k + 2, hx => simp at hx⟩⟩
set_option maxRecDepth 100000 in
set_option maxHeartbeats 8000000 in
theorem fields_any (w : World) : Calls Tryz.prog 14 #[] w fun e w' => e = .returned (.bool true) ∧ Below w.heap.size w w' := by
 obtain ⟨W1, hW1⟩ : ∃ X, ((w.alloc (.cells #[.int .i64 1, .int .i64 30, .int .i64 8, .int .i64 12, .int .i64 0, .int .i64 0] 103)).alloc (.cells #[.int .i64 2, .int .i64 30, .int .i64 0, .int .i64 0, .int .i64 5, .int .i64 0] 105)).alloc (.cells #[.int .i64 10, .int .i64 12, .slice (some ⟨w.heap.size, 0, none⟩) 1 1, .slice (some ⟨w.heap.size + 1, 0, none⟩) 1 1, .slice none 0 0, .int .i64 0] 38) = X := ⟨_, rfl⟩
 have GW1 := Lib.hid (show Below w.heap.size w W1 by rw [← hW1]; exact ((one_more _ _).alloc (by simp <;> omega) _).alloc (by simp <;> omega) _)
 have BW1_0 := Lib.hid (show Blk W1 (w.heap.size) 103 #[.int .i64 1, .int .i64 30, .int .i64 8, .int .i64 12, .int .i64 0, .int .i64 0] by
  rw [← hW1]
  have := Blk.new w 103 #[.int .i64 1, .int .i64 30, .int .i64 8, .int .i64 12, .int .i64 0, .int .i64 0]
  (try simp only [World.size_alloc] at this)
  exact ((this).alloc _).alloc _)
 have BW1_1 := Lib.hid (show Blk W1 (w.heap.size + 1) 105 #[.int .i64 2, .int .i64 30, .int .i64 0, .int .i64 0, .int .i64 5, .int .i64 0] by
  rw [← hW1]
  have := Blk.new (w.alloc (.cells #[.int .i64 1, .int .i64 30, .int .i64 8, .int .i64 12, .int .i64 0, .int .i64 0] 103)) 105 #[.int .i64 2, .int .i64 30, .int .i64 0, .int .i64 0, .int .i64 5, .int .i64 0]
  (try simp only [World.size_alloc] at this)
  exact (this).alloc _)
 have BW1_2 := Lib.hid (show Blk W1 (w.heap.size + 1 + 1) 38 #[.int .i64 10, .int .i64 12, .slice (some ⟨w.heap.size, 0, none⟩) 1 1, .slice (some ⟨w.heap.size + 1, 0, none⟩) 1 1, .slice none 0 0, .int .i64 0] by
  rw [← hW1]
  have := Blk.new ((w.alloc (.cells #[.int .i64 1, .int .i64 30, .int .i64 8, .int .i64 12, .int .i64 0, .int .i64 0] 103)).alloc (.cells #[.int .i64 2, .int .i64 30, .int .i64 0, .int .i64 0, .int .i64 5, .int .i64 0] 105)) 38 #[.int .i64 10, .int .i64 12, .slice (some ⟨w.heap.size, 0, none⟩) 1 1, .slice (some ⟨w.heap.size + 1, 0, none⟩) 1 1, .slice none 0 0, .int .i64 0]
  (try simp only [World.size_alloc] at this)
  exact this)
 have HW1 := Lib.hid hW1
 clear hW1
 have HPA := Lib.hid (show Pa W1 fxP (some ⟨w.heap.size, 0, none⟩) (some ⟨w.heap.size + 1, 0, none⟩) none 1 1 1 1 0 0 from
  ⟨Blk.arr1 (f := scells) (x := ⟨1, 30, 8, 12, 0, 0⟩) BW1_0.out, Blk.arr1 (f := scells) (x := ⟨2, 30, 0, 0, 5, 0⟩) BW1_1.out, Arr.nil_, ⟨by omega, by omega⟩, ⟨by omega, by omega⟩, ⟨by omega, by omega⟩⟩)
 have HC := Lib.hid (fx_c W1 _ _ _ _ _ _ _ _ _ HPA.out)
 have HO := Lib.hid (fun V (hb : Below W1.heap.size W1 V) => fx_o V _ _ _ _ _ _ _ _ _ (HPA.out.below hb))
 have d0 := BW1_2.out.cell 0
 have d1 := BW1_2.out.cell 1
 have d2 := BW1_2.out.cell 2
 have d3 := BW1_2.out.cell 3
 have d4 := BW1_2.out.cell 4
 have d5 := BW1_2.out.cell 5
 go_enter Tryz.func14, Tryz.ntmps14
 go_upto_region 2 with fail
 rw [HW1.out]
 go_upto_region 3 with (go_at_call 36; (with_reducible refine (HC.out).mono ?_); rintro e V2 ⟨rfl, hg2⟩; have G2 := Lib.hid hg2; clear hg2)
 have HO2 := Lib.hid (HO.out V2 G2.out)
 have e0 := (BW1_2.out.ext G2.out).cell 0
 have e1 := (BW1_2.out.ext G2.out).cell 1
 have e2 := (BW1_2.out.ext G2.out).cell 2
 have e3 := (BW1_2.out.ext G2.out).cell 3
 have e4 := (BW1_2.out.ext G2.out).cell 4
 have e5 := (BW1_2.out.ext G2.out).cell 5
 clear d0 d1 d2 d3 d4 d5
 go_upto_region 4 with (go_at_call 18; (with_reducible refine (HO2.out).mono ?_); rintro e V3 ⟨rfl, hg3⟩; have G3 := Lib.hid (G2.out.trans (hg3.mono G2.out.size)); clear hg3)
 clear e0 e1 e2 e3 e4 e5
 obtain ⟨W4, hW4⟩ : ∃ X, ((V3.alloc (.cells #[.int .i64 1, .int .i64 9, .int .i64 9] 130)).alloc (.cells #[.int .i64 1, .int .i64 1, .int .i64 6, .int .i64 1, .int .i64 1, .int .i64 2] 132)).alloc (.cells #[.slice (some ⟨V3.heap.size, 0, none⟩) 1 1, .slice (some ⟨V3.heap.size + 1, 0, none⟩) 2 2] 47) = X := ⟨_, rfl⟩
 have GW4 := Lib.hid (show Below V3.heap.size V3 W4 by rw [← hW4]; exact ((one_more _ _).alloc (by simp <;> omega) _).alloc (by simp <;> omega) _)
 have BW4_0 := Lib.hid (show Blk W4 (V3.heap.size) 130 #[.int .i64 1, .int .i64 9, .int .i64 9] by
  rw [← hW4]
  have := Blk.new V3 130 #[.int .i64 1, .int .i64 9, .int .i64 9]
  (try simp only [World.size_alloc] at this)
  exact ((this).alloc _).alloc _)
 have BW4_1 := Lib.hid (show Blk W4 (V3.heap.size + 1) 132 #[.int .i64 1, .int .i64 1, .int .i64 6, .int .i64 1, .int .i64 1, .int .i64 2] by
  rw [← hW4]
  have := Blk.new (V3.alloc (.cells #[.int .i64 1, .int .i64 9, .int .i64 9] 130)) 132 #[.int .i64 1, .int .i64 1, .int .i64 6, .int .i64 1, .int .i64 1, .int .i64 2]
  (try simp only [World.size_alloc] at this)
  exact (this).alloc _)
 have BW4_2 := Lib.hid (show Blk W4 (V3.heap.size + 1 + 1) 47 #[.slice (some ⟨V3.heap.size, 0, none⟩) 1 1, .slice (some ⟨V3.heap.size + 1, 0, none⟩) 2 2] by
  rw [← hW4]
  have := Blk.new ((V3.alloc (.cells #[.int .i64 1, .int .i64 9, .int .i64 9] 130)).alloc (.cells #[.int .i64 1, .int .i64 1, .int .i64 6, .int .i64 1, .int .i64 1, .int .i64 2] 132)) 47 #[.slice (some ⟨V3.heap.size, 0, none⟩) 1 1, .slice (some ⟨V3.heap.size + 1, 0, none⟩) 2 2]
  (try simp only [World.size_alloc] at this)
  exact this)
 have HW4 := Lib.hid hW4
 clear hW4
 have f0 := BW4_2.out.cell 0
 have f1 := BW4_2.out.cell 1
 go_upto_region 5 with fail
 rw [HW4.out]
 obtain ⟨W5, hW5⟩ : ∃ X, W4.alloc (.cells #[.int .i64 3, .int .i64 2, .int .i64 0, .int .i64 1, .int .i64 5, .int .i64 1, .int .i64 0, .int .i64 1] 87) = X := ⟨_, rfl⟩
 have GW5 := Lib.hid (show Below W4.heap.size W4 W5 by rw [← hW5]; exact one_more _ _)
 have BW5_0 := Lib.hid (show Blk W5 (W4.heap.size) 87 #[.int .i64 3, .int .i64 2, .int .i64 0, .int .i64 1, .int .i64 5, .int .i64 1, .int .i64 0, .int .i64 1] by
  rw [← hW5]
  have := Blk.new W4 87 #[.int .i64 3, .int .i64 2, .int .i64 0, .int .i64 1, .int .i64 5, .int .i64 1, .int .i64 0, .int .i64 1]
  (try simp only [World.size_alloc] at this)
  exact this)
 have HW5 := Lib.hid hW5
 clear hW5
 have HGA := Lib.hid (show Ga W4 fxG (some ⟨V3.heap.size, 0, none⟩) (some ⟨V3.heap.size + 1, 0, none⟩) 1 1 2 2 from ⟨⟨Blk.arr1 (f := hcells) (x := ⟨1, 9, 9⟩) BW4_0.out, by omega, by omega⟩, ⟨fx_arr2 BW4_1.out, by omega, by omega⟩⟩)
 have HCL := Lib.hid (show Sl ccells 4 W5 (some ⟨W4.heap.size, 0, none⟩) 2 2 exL from ⟨fx_arrC BW5_0.out, by omega, by omega⟩)
 have HL := Lib.hid (fx_l W5 _ _ _ _ _ _ _ _ _ (HGA.out.below GW5.out) HCL.out)
 have GX := Lib.hid (GW1.out.trans ((G3.out.trans ((GW4.out.trans (GW5.out.mono GW4.out.size)).mono G3.out.size)).mono GW1.out.size))
 have HEX := Lib.hid (show lea (wsG fxG) exL (1 - 1) = (2, 1) by rw [fx_ws]; exact ex_lea)
 unfold LeastFEnd at HL
 go_wp2_with (go_at_call 25; rw [HW5.out]; (with_reducible refine (HL.out).mono ?_); rintro e V6 ⟨⟨gn, rfl, hgn⟩, hg6⟩; have hgn2 := (hgn (by omega)).trans HEX.out; subst hgn2; have G6 := Lib.hid (GX.out.trans (hg6.mono GX.out.size)); clear hg6 hgn)
 go_ret
 exact ⟨rfl, G6.out.trans ((one_more V6 _).mono G6.out.size)⟩
end Go.Proofs.YtkoejeghihcmlaaGreat

namespace Go.Proofs.YtkoejeghihcmlaaGreat
open Go.RowKit Go.Shelf Go.Maps
attribute [local go_sem] Oper.semAt_some
theorem run_make_int (n : Nat) (hn : n ≤ 1000) (w : World) : (Instr.makeSlice 39 (.int .i64 n) (.int .i64 n)).run Tryz.prog w = .ok (.slice (some ⟨w.heap.size, 0, none⟩) n n) (w.alloc (.cells (vals (List.replicate n 0)) 3)) := by
 obtain ⟨i, hi, hzz⟩ := Option.map_eq_some_iff.1 info3
 simp only [Prod.mk.injEq] at hzz
 obtain ⟨hz, hs, hb⟩ := hzz
 have hr := run_make (P := Tryz.prog) w 39 3 i _ (by kernel_rfl) hi hz .i64 .i64 n n (by omega) (Int.le_refl _) (by rw [hb]; omega) (by omega)
 rw [hs] at hr
 simp only [Int.toNat_natCast, Nat.mul_one] at hr
 rw [hr, ← made_vals]
 rfl
/-- Steps of pick, forwards: what is known of the numbers. -/
def PF (ls : List Six) (st : List Rg) (at_ : Nat) (v : Int) (n k : Nat) (l : List Int) : Prop := l.length = n + 1 ∧ ∀ j, at_ ≤ j → j ≤ at_ + k → l.getD j 0 = pickF ls st at_ v (j - at_)
/-- Steps back. -/
def PB (ls : List Six) (st : List Rg) (at_ : Nat) (v : Int) (n k : Nat) (l : List Int) : Prop := l.length = n + 1 ∧ (∀ j, at_ ≤ j → j ≤ n → l.getD j 0 = pickF ls st at_ v (j - at_)) ∧ ∀ j, j < at_ → at_ ≤ j + k → l.getD j 0 = pickB ls st at_ v (at_ - j)
theorem getD_set_int {l : List Int} {i j : Nat} {v : Int} (hi : i < l.length) : (l.set i v).getD j 0 = if j = i then v else l.getD j 0 := by
 rw [List.getD_eq_getElem?_getD, List.getElem?_set, List.getD_eq_getElem?_getD]
 by_cases e : i = j
 ·rw [if_pos e, if_pos e.symm, if_pos hi]; rfl
 ·rw [if_neg e, if_neg (fun c => e c.symm)]
theorem PF.start {ls : List Six} {st : List Rg} {at_ n : Nat} {v : Int} (h : at_ ≤ n) : PF ls st at_ v n 0 ((List.replicate (n + 1) 0).set at_ v) := by
 refine ⟨by rw [List.length_set, List.length_replicate], fun j h1 h2 => ?_⟩
 have : j = at_ := by omega
 subst this
 rw [getD_set_int (by rw [List.length_replicate]; omega), if_pos rfl, Nat.sub_self]; rfl
theorem PF.next {ls : List Six} {st : List Rg} {at_ n k : Nat} {v : Int} {l : List Int} (h : PF ls st at_ v n k l) (hk : at_ + k < n) : PF ls st at_ v n (k + 1) (l.set (at_ + k + 1) (max (Lo st (at_ + k + 1)) (l.getD (at_ + k) 0 - Gr ls (at_ + k)))) := by
 refine ⟨by rw [List.length_set]; exact h.1, fun j h1 h2 => ?_⟩
 rw [getD_set_int (by rw [h.1]; omega)]
 by_cases e : j = at_ + k + 1
 ·subst e
  rw [if_pos rfl, h.2 (at_ + k) (by omega) (by omega), show at_ + k + 1 - at_ = k + 1 by omega, show at_ + k - at_ = k by omega, pickF_succ]
 ·rw [if_neg e, h.2 j h1 (by omega)]
theorem PB.start {ls : List Six} {st : List Rg} {at_ n k : Nat} {v : Int} {l : List Int} (h : PF ls st at_ v n k l) (hk : at_ + k = n) : PB ls st at_ v n 0 l :=
 ⟨h.1, fun j h1 h2 => h.2 j h1 (by omega), fun j h1 h2 => absurd h1 (by omega)⟩
theorem PB.at_ {ls : List Six} {st : List Rg} {at_ n k : Nat} {v : Int} {l : List Int} (h : PB ls st at_ v n k l) (ha : at_ ≤ n) (hk : k ≤ at_) : l.getD (at_ - k) 0 = pickB ls st at_ v k := by
 by_cases e : k = 0
 ·subst e
  rw [Nat.sub_zero, h.2.1 at_ (Nat.le_refl _) ha, Nat.sub_self]; rfl
 ·rw [h.2.2 (at_ - k) (by omega) (by omega), show at_ - (at_ - k) = k by omega]
theorem PB.next {ls : List Six} {st : List Rg} {at_ n k : Nat} {v : Int} {l : List Int} (h : PB ls st at_ v n k l) (ha : at_ ≤ n) (hk : k < at_) : PB ls st at_ v n (k + 1) (l.set (at_ - 1 - k) (max (Lo st (at_ - 1 - k)) (l.getD (at_ - k) 0 + Ls ls (at_ - 1 - k)))) := by
 have hl := h.at_ ha (Nat.le_of_lt hk)
 refine ⟨by rw [List.length_set]; exact h.1, fun j h1 h2 => ?_, fun j h1 h2 => ?_⟩
 ·rw [getD_set_int (by rw [h.1]; omega), if_neg (by omega), h.2.1 j h1 h2]
 ·rw [getD_set_int (by rw [h.1]; omega)]
  by_cases e : j = at_ - 1 - k
  ·rw [if_pos e, hl, show at_ - j = k + 1 by omega, pickB_succ]
  ·rw [if_neg e, h.2.2 j h1 (by omega)]
theorem PB.all {ls : List Six} {st : List Rg} {at_ : Nat} {v : Int} {l : List Int} (h : PB ls st at_ v ls.length at_ l) : l = pickS ls st at_ v := by
 refine list_getD_ext (by rw [h.1]; unfold pickS; rw [List.length_map, List.length_range]) fun i hi => ?_
 rw [h.1] at hi
 rw [pickS_at (by omega)]
 by_cases e : i < at_
 ·rw [if_pos e, h.2.2 i e (by omega)]
 ·rw [if_neg e, h.2.1 i (by omega) (by omega)]
theorem hpf_next {ls : List Six} {st : List Rg} {at_ n k ix : Nat} {v : Int} {l : List Int} (h : PF ls st at_ v n k l) (e : ix = at_ + k) (hk : ix < n) : PF ls st at_ v n (k + 1) (l.set (ix + 1) (max (Lo st (ix + 1)) (l.getD ix 0 - Gr ls ix))) := by
 subst e
 exact h.next hk
theorem PF.start' {ls : List Six} {st : List Rg} {at_ n k : Nat} {v : Int} {l : List Int} (h : PF ls st at_ v n k l) (hk : at_ + k = n) : PB ls st at_ v n 0 l := PB.start h hk
def diffs (l : List Int) (n : Nat) : List Int := (List.range n).map fun i => l.getD i 0 - l.getD (i + 1) 0
theorem diffs_at {l : List Int} {n i : Nat} (hi : i < n) : (diffs l n).getD i 0 = l.getD i 0 - l.getD (i + 1) 0 := by
 unfold diffs
 rw [List.getD_eq_getElem?_getD, List.getElem?_map, List.getElem?_range hi]
 rfl
theorem src_fresh {l : List Six} {s : Int} {k : Nat} (h : srcIx l s = k) : s ∉ srcs (l.take k) := fun hm => by
 obtain ⟨y, hy, e⟩ := List.mem_map.1 hm
 obtain ⟨i, hi, rfl⟩ := List.mem_take_iff_getElem.1 hy
 have hlt : i < l.findIdx (isSrc s) := by
  have : l.findIdx (isSrc s) = k := h
  omega
 have := List.not_of_lt_findIdx hlt
 rw [isSrc_iff.2 e] at this
 cases this
theorem gK_next {ls : List Six} {ds : List Int} {k : Nat} (hk : k < ls.length) (h : srcIx ls (ls.getD k z6).a = k) (s : Int) : gK (ls.take (k + 1)) ds s = if s = (ls.getD k z6).a then ds.getD k 0 else gK (ls.take k) ds s := by
 rw [List.take_succ_eq_append_getElem hk, ← six_get hk, gK_snoc (src_fresh h), List.length_take, Nat.min_eq_left (Nat.le_of_lt hk)]
theorem gK_full {ls : List Six} {ds : List Int} (hd : ds.length = ls.length) (s : Int) : gK ls ds s = ds.getD (srcIx ls s) 0 := by
 unfold gK
 by_cases h : srcIx ls s < ls.length
 ·rw [if_pos h]
 ·rw [if_neg h, List.getD_eq_getElem?_getD, List.getElem?_eq_none (by omega)]; rfl
/-- What pick returns. -/
def PickEnd (p : Pl) (known : Int) (s : List Int) (w : World) (e : Ending) (w' : World) : Prop :=
 (∃ v, e = .returned (.agg #[.int .i64 (s.getD 0 0), v]) ∧ OwnL icells 1 3 w' w.heap.size v (pickC p known s)) ∧ Below w.heap.size w w'
set_option maxRecDepth 100000 in
set_option maxHeartbeats 16000000 in
theorem pick_any (p : Pl) (A1 A2 A3 : Option Addr) (n1 c1 n2 c2 n3 c3 pb bf bs : Nat) (known : Int) (A : Option Addr) (n c at_ : Nat) (v : Int) (w : World)
  (hP : Blk w pb 38 (plb p A1 A2 A3 n1 c1 n2 c2 n3 c3)) (hp : Pa w p A1 A2 A3 n1 c1 n2 c2 n3 c3) (hok : okPl p = true) (h60 : n ≤ 100) (hs : sound (lookS p known every) = true)
  (hf : Fd w bf bs (.pointer (some ⟨pb, 0, none⟩)) known A n c (n + 1) (lookS p known every)) (ha : Arr scells 6 w A n (lookL p known every)) (hat : at_ ≤ n) (h1 : Lo (lookS p known every) at_ ≤ v) (h2 : v ≤ Hi (lookS p known every) at_) :
  Calls Tryz.prog 84 #[.pointer (some ⟨bf, 0, none⟩), .int .i64 at_, .int .i64 v] w (PickEnd p known (pickS (lookL p known every) (lookS p known every) at_ v) w) := by
 have hrw := look_rw hok hs
 have hln := ha.1
 have hpos := fun i (hi : i ≤ n) => hrw.pos i (by rw [hln]; exact hi)
 have hhi := fun i (hi : i ≤ n) => look_hi hok known every (i := i) (by rw [hln]; exact hi)
 have hwid := fun i (hi : i < n) => (show 0 ≤ Ls (lookL p known every) i ∧ Ls (lookL p known every) i ≤ 10000 ∧ 0 ≤ Gr (lookL p known every) i ∧ Gr (lookL p known every) i ≤ 10000 from by
  have := lookL_num hok known every _ (getD_mem (show i < (lookL p known every).length by rw [hln]; exact hi))
  unfold Num at this
  unfold Ls Gr
  omega)
 have hpf := fun k (hk : at_ + k ≤ n) => pickF_in hrw.arc hrw.snd h1 h2 k (by rw [hln]; exact hk)
 have hpb := fun k (hk : k ≤ at_) => pickB_in hrw.arc hrw.snd (by rw [hln]; exact hat) h1 h2 k hk
 have hpt := (pick_tru hrw.arc (fun i hi => (hrw.wid i hi).2) hrw.snd (at_ := at_) (v := v) (by rw [hln]; exact hat) h1 h2).1
 have hsd := fun i (hi : i < n) => (show 0 ≤ (lookS p known every).length from Nat.zero_le _)
 have q3 := hf.f.cell 3
 obtain ⟨m, hm⟩ : ∃ m, n + 1 = m := ⟨_, rfl⟩
 rw [hm] at hf q3
 obtain ⟨W1, hW1⟩ : ∃ W1, ((w.alloc (.cells #[.int .i64 0, .slice none 0 0] 41)).alloc (.cells (vals (List.replicate m 0)) 3)).alloc (.cells #[.slice (some ⟨w.heap.size + 1, 0, none⟩) m m] 39) = W1 := ⟨_, rfl⟩
 have g1 : Below w.heap.size w W1 := by rw [← hW1]; exact three_more _ _ _ _
 have HB6 := Lib.hid (show Blk W1 w.heap.size 41 #[.int .i64 0, .slice none 0 0] by rw [← hW1]; exact ((Blk.new _ _ _).alloc _).alloc _)
 have hbS : Blk W1 (w.heap.size + 1) 3 (vals (List.replicate m 0)) := by rw [← hW1]; have := Blk.new (w.alloc (.cells #[.int .i64 0, .slice none 0 0] 41)) 3 (vals (List.replicate m 0)); rw [World.size_alloc] at this; exact this.alloc _
 have HB7 := Lib.hid (show Blk W1 (w.heap.size + 1 + 1) 39 #[.slice (some ⟨w.heap.size + 1, 0, none⟩) m m] by rw [← hW1]; have := Blk.new ((w.alloc (.cells #[.int .i64 0, .slice none 0 0] 41)).alloc (.cells (vals (List.replicate m 0)) 3)) 39 #[.slice (some ⟨w.heap.size + 1, 0, none⟩) m m]; simp only [World.size_alloc] at this; exact this)
 have G1 := Lib.hid g1
 have HP1 := Lib.hid (hP.ext g1)
 have HPA1 := Lib.hid (hp.below g1)
 have HF1 := Lib.hid (hf.ext g1)
 have HA1 := Lib.hid (ha.below g1)
 have HA := Lib.hid ha
 have HPA := Lib.hid hp
 have hpl := hP.lt
 have hfl := hf.f.lt
 have hsl := hf.s.lt
 have hfs := hf.ne
 have HOK := Lib.hid hok
 have HLN := Lib.hid hln
 have hb7l := HB7.out.lt
 have HBS := Lib.hid hbS
 have hmk := run_make_int m (by omega)
 have HMK := Lib.hid hmk
 have HPOS := Lib.hid hpos
 have HHI := Lib.hid hhi
 have HWID := Lib.hid hwid
 have HPF := Lib.hid hpf
 have HPB := Lib.hid hpb
 have HPT := Lib.hid hpt
 have HW1 := Lib.hid hW1
 obtain ⟨st, hst⟩ : ∃ s, lookS p known every = s := ⟨_, rfl⟩
 obtain ⟨ls, hls⟩ : ∃ s, lookL p known every = s := ⟨_, rfl⟩
 have HSRC := Lib.hid (fun x (hx : x ∈ lookL p known every) => look_src hok hx)
 have HIX := Lib.hid (fun i (hi : i < (lookL p known every).length) => srcIx_cart hok hi)
 have HCT := Lib.hid (fun x (hx : x ∈ countL p known) => mem_count.1 hx)
 have HPC := Lib.hid (show pickC p known (pickS (lookL p known every) (lookS p known every) at_ v) = (countL p known).map fun x => (pickS (lookL p known every) (lookS p known every) at_ v).getD (srcIx (lookL p known every) x.a) 0 - (pickS (lookL p known every) (lookS p known every) at_ v).getD (srcIx (lookL p known every) x.a + 1) 0 from rfl)
 rw [hst, hls] at HPF HPB HPT HPC
 rw [hst] at HPOS HHI HF1
 rw [hls] at HWID HA1 HA HLN HSRC HIX HCT
 rw [hst, hls]
 clear hrw hpos hhi hwid hpf hpb hpt hsd g1 hbS hW1 hP hp hok hs hf ha hln h1 h2 hst hls
 have HM := Lib.hid hm
 have hmn : n < m := by omega
 have hm60 : m ≤ 101 := by omega
 clear hm
 refine (callsIn_wide (n := 4)).1 (callsIn_of_wp_marks Tryz.func84 rfl trivial ?_ rfl)
 simp only [Tryz.ntmps84, List.size_toArray, List.length_cons, List.length_nil, Nat.reduceAdd, Nat.reduceSub, Array.replicate_succ, Array.replicate_zero, List.push_toArray, List.append_toArray, List.nil_append, List.cons_append]
 refine wpIn_wide.2 ?_
 go_upto_region 2 with fail
 rw [HW1.out]
 clear hmk q3
 obtain ⟨bS, hbSe⟩ : ∃ b, w.heap.size + 1 = b := ⟨_, rfl⟩
 rw [hbSe] at HBS HB7 hb7l ⊢
 have q0 := HB7.out.cell 0
 have q1 : W1.cell? ⟨bS, at_, none⟩ = some (.int .i64 0) := by rw [HBS.out.cell, vals_get, List.getElem?_replicate, if_pos (by omega)]; rfl
 have q2 := HBS.out.frozen at_
 have hati : (at_ : Int) < (m : Int) := by omega
 go_upto_region 3 with fail
 clear q0 q1 q2
 obtain ⟨W2, hW2⟩ : ∃ W, W1.setCell ⟨bS, at_, none⟩ (.int .i64 v) = W := ⟨_, rfl⟩
 rw [hW2]
 have HX2 := Lib.hid (show Fix bS bS W1 W2 by rw [← hW2]; exact (Fix.refl _ _ _).setCell (p := ⟨bS, at_, none⟩) (.inl rfl) _)
 have HS2 := Lib.hid (show Blk W2 bS 3 (vals ((List.replicate m 0).set at_ v)) by rw [← hW2, ← vals_set]; exact HBS.out.set_ at_ _)
 have HS0 := Lib.hid (show PF ls st at_ v n 0 ((List.replicate m 0).set at_ v) by rw [← HM.out]; exact PF.start hat)
 clear hW2
 go_upto_region 4 with fail
 go_loopw [8] (fun i wr => ∃ (ix k : Nat) (l : List Int), i = .int .i64 ix ∧ ix = at_ + k ∧ ix ≤ n ∧ Fix bS bS W1 wr ∧ Blk wr bS 3 (vals l) ∧ PF ls st at_ v n k l) (fun i _ => n - (intOf i).toNat)
 case atStart => exact ⟨at_, 0, _, rfl, rfl, hat, HX2.out, HS2.out, HS0.out⟩
 case round =>
  obtain ⟨ix, k, l, rfl, hixk, hix, hfx, hbl, hpf⟩ := hrel
  obtain ⟨V, rfl⟩ : ∃ V : World, V = wr := ⟨_, rfl⟩
  have HFX := Lib.hid hfx
  have HBL := Lib.hid hbl
  have HPFk := Lib.hid hpf
  have HIK := Lib.hid hixk
  have hfd := hfx.blk HF1.out.f (by omega) (by omega)
  have HFV := Lib.hid hfd
  have f2 := hfd.cell 2
  have hvs := hfx.size
  clear hfx hbl hpf hfd hixk
  by_cases hlt : ix < n
  ·obtain ⟨b0, o0, e0, -, -, hc⟩ := six_at (HA1.out.fix HFX.out (fun b o e h0 => by have := HA.out.lt_of e h0; omega)) hlt
   obtain ⟨-, -, -, l3, -, -⟩ := hc V (Below.refl _ _)
   have HSV := Lib.hid (HFX.out.blk HF1.out.s (by omega) (by omega))
   obtain ⟨v0, -⟩ := rvals_at (st := st) (i := ix + 1) (by rw [HF1.out.len]; omega)
   have s0 : V.cell? ⟨bs, (ix + 1) * 2, none⟩ = some (.int .i64 (Lo st (ix + 1))) := by rw [HSV.out.cell, v0]
   have hl := HPFk.out.1
   have hlv := HPFk.out.2 ix (by have := HIK.out; omega) (by have := HIK.out; omega)
   have r0 : V.cell? ⟨bS, ix, none⟩ = some (.int .i64 (l.getD ix 0)) := by rw [HBL.out.cell, vals_get, getD_int1 (by omega)]; rfl
   have r1 : V.cell? ⟨bS, ix + 1, none⟩ = some (.int .i64 (l.getD (ix + 1) 0)) := by rw [HBL.out.cell, vals_get, getD_int1 (by omega)]; rfl
   have hpb := HPF.out k (by have := HIK.out; omega)
   have hdw := HWID.out ix hlt
   have hlo1 := HPOS.out (ix + 1) (by omega)
   have hlo2 := HHI.out (ix + 1) (by omega)
   have hp0 := HPOS.out (at_ + k) (by have := HIK.out; omega)
   have hp1 := HHI.out (at_ + k) (by have := HIK.out; omega)
   have e9 : ix - at_ = k := by have := HIK.out; omega
   rw [e9] at hlv
   have HNX := Lib.hid (hpf_next HPFk.out HIK.out hlt)
   obtain ⟨lo, hlo⟩ : ∃ lo, Lo st (ix + 1) = lo := ⟨_, rfl⟩
   obtain ⟨sv, hsv⟩ : ∃ v, l.getD ix 0 = v := ⟨_, rfl⟩
   obtain ⟨y, hy⟩ : ∃ y, ls.getD ix z6 = y := ⟨_, rfl⟩
   unfold Gr at HNX hdw
   rw [hlo] at s0 HNX
   rw [hsv] at r0 HNX hlv
   rw [hy] at l3 HNX hdw
   have hsb : 0 ≤ sv ∧ sv ≤ 10000 := by omega
   have w0 := cellW ((HFX.out.blk HB7.out (by omega) (by omega)).cell 0)
   have w1 := cellW f2
   have w2 := cellW (HFV.out.cell 3)
   have w3 := cellW l3
   have w4 := cellW s0
   have w5 := cellW r0
   have HR1 := Lib.hid r1
   have hwr1 : IntKind.i64.wrap ((ix : Int) + 1) = (ix : Int) + 1 := by rw [IntKind.wrap_i64]; omega
   have hwr2 : IntKind.i64.wrap (sv - y.d) = sv - y.d := by rw [IntKind.wrap_i64]; omega
   have hx0 : (0 : Int) ≤ (ix : Int) + 1 := by omega
   have hx1 : (ix : Int) + 1 < (m : Int) := by omega
   have hx2 : (ix : Int) < (m : Int) := by omega
   have hx3 : (ix : Int) < (n : Int) := by omega
   have hx4 : ((ix : Int) + 1).toNat = ix + 1 := by omega
   subst e0
   clear hc v0 s0 r0 r1 hlv hlo hsv hy hl e9 hp0 hp1 hlo1 hlo2 hpb l3
   go_upto_region 6 with fail
   refine wp_region_calm_tail V 28 (by kernel_rfl) (by kernel_rfl) (Below.refl _ _) ?_
   simp only [List.take_succ_cons, List.take_zero, List.drop_succ_cons, List.drop_zero]
   repeat (go_big_quiet_step (fail))
   refine wpQuiet_nil ?_
   rintro _ ⟨z, rfl⟩
   have GZ := Lib.hid z.ok
   obtain ⟨Z, hZ⟩ : ∃ Z, z.val = Z := ⟨_, rfl⟩
   rw [hZ] at GZ ⊢
   clear hZ z w0 w1 w2 w3 w4 w5
   have KB := Lib.hid (HBL.out.ext GZ.out)
   have r1 := (GZ.out.cell (p := ⟨bS, ix + 1, none⟩) (World.block_lt_of_cell? V _ HR1.out)).trans HR1.out
   have r2 := KB.out.frozen (ix + 1)
   go_wp2_with fail
   go_roundw
   case rel =>
    refine ⟨ix + 1, k + 1, _, by go_num, by have := HIK.out; omega, by omega, (HFX.out.trans (Fix.of_below GZ.out)).setCell (p := ⟨bS, ix + 1, none⟩) (.inl rfl) _, ?_, HNX.out⟩
    rw [← vals_set]
    exact KB.out.set_ (ix + 1) _
   case measure => simp [intOf]; omega
  ·obtain rfl : ix = n := by omega
   have HB0 := Lib.hid (HPFk.out.start' HIK.out.symm)
   clear f2
   have f2 := HFV.out.cell 2
   go_upto_region 8 with fail
   clear f2
   go_loopw [9] (fun i wr => ∃ (k : Nat) (l : List Int), i = .int .i64 ((at_ : Int) - 1 - (k : Int)) ∧ k ≤ at_ ∧ Fix bS bS W1 wr ∧ Blk wr bS 3 (vals l) ∧ PB ls st at_ v ix k l) (fun i _ => (intOf i + 1).toNat)
   case atStart => exact ⟨0, l, by simp, Nat.zero_le _, HFX.out, HBL.out, HB0.out⟩
   case round =>
    clear HFX HBL HPFk HIK HFV hvs HB0
    obtain ⟨k, l, rfl, hk, hfx, hbl, hpb⟩ := hrel
    obtain ⟨V, rfl⟩ : ∃ V : World, V = wr := ⟨_, rfl⟩
    have HFX := Lib.hid hfx
    have HBL := Lib.hid hbl
    have HPBk := Lib.hid hpb
    have HFV := Lib.hid (hfx.blk HF1.out.f (by omega) (by omega))
    have hvs := hfx.size
    clear hfx hbl hpb
    by_cases hlt : k < at_
    ·obtain ⟨jx, hjx⟩ : ∃ j, at_ - 1 - k = j := ⟨_, rfl⟩
     have hjxe : (at_ : Int) - 1 - (k : Int) = (jx : Nat) := by omega
     rw [hjxe]
     have hjn : jx < ix := by omega
     obtain ⟨b0, o0, e0, -, -, hc⟩ := six_at (HA1.out.fix HFX.out (fun b o e h0 => by have := HA.out.lt_of e h0; omega)) hjn
     obtain ⟨-, -, l2, -, -, -⟩ := hc V (Below.refl _ _)
     have HSV := Lib.hid (HFX.out.blk HF1.out.s (by omega) (by omega))
     obtain ⟨v0, -⟩ := rvals_at (st := st) (i := jx) (by rw [HF1.out.len]; omega)
     have s0 : V.cell? ⟨bs, jx * 2, none⟩ = some (.int .i64 (Lo st jx)) := by rw [HSV.out.cell, v0]
     have hl := HPBk.out.1
     have hlv := HPBk.out.at_ hat (Nat.le_of_lt hlt)
     have HNX := Lib.hid (HPBk.out.next hat hlt)
     have e9 : at_ - k = jx + 1 := by omega
     rw [e9] at hlv HNX
     rw [hjx] at HNX
     have r0 : V.cell? ⟨bS, jx + 1, none⟩ = some (.int .i64 (l.getD (jx + 1) 0)) := by rw [HBL.out.cell, vals_get, getD_int1 (by omega)]; rfl
     have r1 : V.cell? ⟨bS, jx, none⟩ = some (.int .i64 (l.getD jx 0)) := by rw [HBL.out.cell, vals_get, getD_int1 (by omega)]; rfl
     have hpb := HPB.out k (by omega)
     have hdw := HWID.out jx hjn
     have hlo1 := HPOS.out jx (by omega)
     have hlo2 := HHI.out jx (by omega)
     have hp0 := HPOS.out (at_ - k) (by omega)
     have hp1 := HHI.out (at_ - k) (by omega)
     obtain ⟨lo, hlo⟩ : ∃ lo, Lo st jx = lo := ⟨_, rfl⟩
     obtain ⟨sv, hsv⟩ : ∃ v, l.getD (jx + 1) 0 = v := ⟨_, rfl⟩
     obtain ⟨y, hy⟩ : ∃ y, ls.getD jx z6 = y := ⟨_, rfl⟩
     unfold Ls at HNX hdw
     rw [hlo] at s0 HNX
     rw [hsv] at r0 HNX hlv
     rw [hy] at l2 HNX hdw
     have hsb : 0 ≤ sv ∧ sv ≤ 10000 := by omega
     have w0 := cellW ((HFX.out.blk HB7.out (by omega) (by omega)).cell 0)
     have w1 := cellW (HFV.out.cell 2)
     have w2 := cellW (HFV.out.cell 3)
     have w3 := cellW l2
     have w4 := cellW s0
     have w5 := cellW r0
     have HR1 := Lib.hid r1
     have hwr1 : IntKind.i64.wrap ((jx : Int) + 1) = (jx : Int) + 1 := by rw [IntKind.wrap_i64]; omega
     have hwr2 : IntKind.i64.wrap (sv + y.c) = sv + y.c := by rw [IntKind.wrap_i64]; omega
     have hx0 : (0 : Int) ≤ (jx : Int) + 1 := by omega
     have hx1 : (jx : Int) + 1 < (m : Int) := by omega
     have hx2 : (jx : Int) < (m : Int) := by omega
     have hx3 : (jx : Int) < (ix : Int) := by omega
     have hx4 : ((jx : Int) + 1).toNat = jx + 1 := by omega
     have HJX := Lib.hid hjxe
     subst e0
     clear hc v0 s0 r0 r1 hlv hlo hsv hy hl e9 hp0 hp1 hlo1 hlo2 hpb l2 hjxe
     go_upto_region 10 with fail
     refine wp_region_calm_tail V 27 (by kernel_rfl) (by kernel_rfl) (Below.refl _ _) ?_
     simp only [List.take_succ_cons, List.take_zero, List.drop_succ_cons, List.drop_zero]
     repeat (go_big_quiet_step (fail))
     refine wpQuiet_nil ?_
     rintro _ ⟨z, rfl⟩
     have GZ := Lib.hid z.ok
     obtain ⟨Z, hZ⟩ : ∃ Z, z.val = Z := ⟨_, rfl⟩
     rw [hZ] at GZ ⊢
     clear hZ z w0 w1 w2 w3 w4 w5
     have KB := Lib.hid (HBL.out.ext GZ.out)
     have r1 := (GZ.out.cell (p := ⟨bS, jx, none⟩) (World.block_lt_of_cell? V _ HR1.out)).trans HR1.out
     have r2 := KB.out.frozen jx
     go_wp2_with fail
     go_roundw
     case rel =>
      refine ⟨k + 1, _, by have := HJX.out; go_num, by omega, (HFX.out.trans (Fix.of_below GZ.out)).setCell (p := ⟨bS, jx, none⟩) (.inl rfl) _, ?_, HNX.out⟩
      rw [← vals_set]
      exact KB.out.set_ jx _
     case measure => simp [intOf]
    ·obtain rfl : k = at_ := by omega
     have he : (k : Int) - 1 - (k : Int) = -1 := by omega
     rw [he]
     have HALL := Lib.hid (show l = pickS ls st k v from PB.all (by rw [HLN.out]; exact HPBk.out))
     have HTR := Lib.hid (show Tru ls st l by rw [HALL.out]; exact HPT.out)
     have HVB := Lib.hid (show ∀ j, j ≤ ix → 0 ≤ l.getD j 0 ∧ l.getD j 0 ≤ 10000 from fun j hj => by
      have a := HTR.out.2.2 j (by rw [HLN.out]; exact hj)
      have b := HPOS.out j hj
      have c := HHI.out j hj
      omega)
     have HLL := Lib.hid HPBk.out.1
     have HB7V := Lib.hid (HFX.out.blk HB7.out (by omega) (by omega))
     have HB6V := Lib.hid (HFX.out.blk HB6.out (by omega) (by omega))
     have HPV := Lib.hid (HFX.out.blk HP1.out (by omega) (by omega))
     have HAV := Lib.hid (HA1.out.fix HFX.out (fun b o e h0 => by have := HA.out.lt_of e h0; omega))
     have HPAV := Lib.hid (show Arr scells 6 V A1 n1 p.loads from HPA1.out.l1.fix HFX.out (fun b o e h0 => by have := HPA.out.l1.lt_of e h0; omega))
     have GV := Lib.hid (show Below w.heap.size w V from G1.out.trans (HFX.out.below (B := w.heap.size) (by omega) G1.out.size))
     have hgv := GV.out.size
     have hmm := @run_makeMap Tryz.prog
     go_upto_region 12 with fail
     clear hmm
     obtain ⟨W3, hW3⟩ : ∃ W, (V.alloc (.map #[] 0)).alloc (.cells #[.map (some V.heap.size)] 230) = W := ⟨_, rfl⟩
     rw [hW3]
     have g3 : Below V.heap.size V W3 := by rw [← hW3]; exact two_more _ _ _
     have nm3 : NumMap W3 V.heap.size 0 (gK (ls.take 0) (diffs l ix)) := by rw [← hW3]; exact ((NumMap.new V).ext (one_more _ _)).congr (fun i => by rfl)
     have bb3 : Blk W3 (V.heap.size + 1) 230 #[.map (some V.heap.size)] := by rw [← hW3]; have := Blk.new (V.alloc (.map #[] 0)) 230 #[.map (some V.heap.size)]; rwa [World.size_alloc] at this
     have hs3 : W3.heap.size = V.heap.size + 2 := by rw [← hW3]; simp
     clear hW3
     go_wp2_with fail
     refine (carted_any _ _).mono ?_
     rintro e w' ⟨rfl, hw'⟩
     have hbQ : Blk w' W3.heap.size 134 #[.pointer (some ⟨bf, 0, none⟩)] := by rw [← hw']; exact Blk.new _ _ _
     have g4 : Below W3.heap.size W3 w' := by rw [← hw']; exact one_more _ _
     have hs4 : w'.heap.size = W3.heap.size + 1 := by rw [← hw']; simp
     clear hw'
     rename World => W0
     have g5 : Below V.heap.size V W0 := g3.trans (g4.mono g3.size)
     have HNM := Lib.hid (nm3.ext g4)
     have HBB := Lib.hid (bb3.ext g4)
     have HB70 := Lib.hid (HB7V.out.ext g5)
     have HB60 := Lib.hid (HB6V.out.ext g5)
     have HS0' := Lib.hid (HBL.out.ext g5)
     have HF0 := Lib.hid (HFV.out.ext g5)
     have HP0 := Lib.hid (HPV.out.ext g5)
     have HA0 := Lib.hid (HAV.out.below g5)
     have HPA0 := Lib.hid (HPAV.out.below g5)
     have G0 := Lib.hid (GV.out.trans (g5.mono hgv))
     have hbsl := HBL.out.lt
     obtain ⟨bm, hbm⟩ : ∃ b, V.heap.size = b := ⟨_, rfl⟩
     have HQ0 := Lib.hid (show Blk W0 (bm + 2) 134 #[.pointer (some ⟨bf, 0, none⟩)] by rw [← hbm, ← hs3]; exact hbQ)
     have h0s : bm + 3 ≤ W0.heap.size := by omega
     rw [show W3.heap.size = bm + 2 by omega]
     have HVM := Lib.hid hbm
     have hvm1 : W1.heap.size ≤ bm := by omega
     rw [hbm] at HNM HBB hgv hbsl ⊢
     clear g3 g4 g5 nm3 bb3 hs3 hs4 hbQ hbm
     have HAD := Lib.hid (show ∀ b o, A = some ⟨b, o, none⟩ → 0 < ix → b ≠ bm ∧ b ≠ bm ∧ b < W0.heap.size from fun b o e h0 => by
      have := HA.out.lt_of e h0
      omega)
     have HSQ := Lib.hid (carted_seqP 3 W0 W0.heap.size (bm + 2) bf bm bm A ix c ls (HQ0.out.cell 0) (HF0.out.cell 2) HA0.out (by omega) HAD.out)
     go_wp2_with fail
     refine (wpIn_wide (n := 4)).1 ?_
     refine wp_rangeP (α := Cx ix) (n := 4) (by omega) (gf := 202) (lb := #[.pointer (some ⟨bm + 2, 0, none⟩)]) rfl (enters_of Tryz.func202 (by kernel_rfl) rfl) HSQ.out (Below.refl _ _) (fun _ => rfl)
      (fun pre W => FixU W0.heap.size bm bm W0 W ∧ NumMap W bm pre.length (gK (ls.take pre.length) (diffs l ix)) ∧ Oto W0 W) (fun _ _ _ => False) ?hI ?hIx ?h0
      (fun x a' W => ∃ Bx, W0.heap.size ≤ Bx ∧ Blk W Bx 103 #[.int .i64 (ls.getD x.1 z6).a, .int .i64 (ls.getD x.1 z6).b, .int .i64 (ls.getD x.1 z6).c, .int .i64 (ls.getD x.1 z6).d, .int .i64 (ls.getD x.1 z6).e, .int .i64 (ls.getD x.1 z6).f] ∧
       a' = (?F : Cx ix → Nat → Act) x Bx) ?hAx ?assign ?body ?done ?stop
     case assign =>
      rintro l' pre x W K ⟨hfx, hnm, hto⟩ hK
      unfold encC
      gi_wp2
      refine hK _ _ ((KeepsOthers.alloc _ _).from _) (FixU.of_below (one_more _ _)) ⟨hfx.trans (FixU.of_below (one_more _ _)), hnm.ext (one_more _ _), hto.below (one_more _ _)⟩ ⟨W.heap.size, hfx.size, Blk.new _ _ _, ?_⟩
      generalize W.heap.size = B
      rfl
     case hI =>
      rintro pre X Y row ⟨hfx, hnm, hto⟩ hg hr
      have hr1 : ∀ r, row = some r → ∃ o : Obj, X.heap[r]? = some o ∧ o.isCells = false := fun r e => (hr r e).2
      exact ⟨(FixU.own (α := Nat) (Nat.le_refl _)) [] _ _ _ hfx hg hr, hnm.same (hg.block bm hnm.lt (fun e => by have := (hr bm e.symm).1; omega)), hto.grown hg⟩
     case hIx => exact fun _ _ _ _ _ hs _ _ => hs
     case h0 => exact ⟨FixU.refl _ _ _ _, HNM.out, Oto.refl _⟩
     case hAx =>
      rintro x a' _ X Y row ⟨Bx, h1, h2, h3⟩ hg hr
      exact ⟨Bx, h1, h2.own hg (fun r e => (hr r e).2), h3⟩
     case body =>
      rintro l' pre x a' W hl - ⟨hfx, hnm, hto⟩ ⟨Bx, hBx, hB, rfl⟩ hpl hG
      have hXs := hfx.size
      obtain ⟨xi, hxi⟩ : ∃ xi, x.1 = xi := ⟨_, rfl⟩
      have hxn : xi < ix := by rw [← hxi]; exact x.2
      rw [hxi] at hB hG ⊢
      have HPN := Lib.hid (show (pre ++ [x]).length = xi + 1 by rw [List.length_append, List.length_singleton, hG])
      rw [← hG] at hnm
      have HGN := Lib.hid (fun s => gK_next (ds := diffs l ix) (show xi < ls.length by rw [HLN.out]; exact hxn) (HIX.out xi (by rw [HLN.out]; exact hxn)) s)
      have HDA := Lib.hid (diffs_at (l := l) hxn)
      have hys := HSRC.out _ (getD_mem (show xi < ls.length by rw [HLN.out]; exact hxn))
      obtain ⟨y, hy⟩ : ∃ y, ls.getD xi z6 = y := ⟨_, rfl⟩
      rw [hy] at hB HGN hys
      have hv1 := HVB.out xi (by omega)
      have hv2 := HVB.out (xi + 1) (by omega)
      have hll := HLL.out
      have hSW := hfx.blk HS0'.out (by omega) (by omega) (.inl (by omega))
      have r0 : W.cell? ⟨bS, xi, none⟩ = some (.int .i64 (l.getD xi 0)) := by rw [hSW.cell, vals_get, getD_int1 (by omega)]; rfl
      have r1 : W.cell? ⟨bS, xi + 1, none⟩ = some (.int .i64 (l.getD (xi + 1) 0)) := by rw [hSW.cell, vals_get, getD_int1 (by omega)]; rfl
      obtain ⟨s1, hs1⟩ : ∃ v, l.getD xi 0 = v := ⟨_, rfl⟩
      obtain ⟨s2, hs2⟩ : ∃ v, l.getD (xi + 1) 0 = v := ⟨_, rfl⟩
      rw [hs1] at r0 hv1 HDA
      rw [hs2] at r1 hv2 HDA
      have w0 := cellW r0
      have w1 := cellW r1
      have w2 := cellW ((hfx.blk HB70.out (by omega) (by omega) (.inl (by omega))).cell 0)
      have w3 := cellW ((hfx.blk HBB.out (by omega) (by omega) (.inl (by omega))).cell 0)
      have w4 := cellW (hB.cell 0)
      have hwr1 : IntKind.i64.wrap ((xi : Int) + 1) = (xi : Int) + 1 := by rw [IntKind.wrap_i64]; omega
      have hwr2 : IntKind.i64.wrap (s1 - s2) = s1 - s2 := by rw [IntKind.wrap_i64]; omega
      have hx0 : (0 : Int) ≤ (xi : Int) + 1 := by omega
      have hx1 : (xi : Int) + 1 < (m : Int) := by omega
      have hx2 : (xi : Int) < (m : Int) := by omega
      have hx4 : ((xi : Int) + 1).toNat = xi + 1 := by omega
      have HFXW := Lib.hid hfx
      have HNMW := Lib.hid hnm
      have HTO := Lib.hid hto
      clear hfx hnm hto hB hG hy hs1 hs2 r0 r1 hll hxi
      gi_wp2_with fail
      refine wpIn_region_quiet_tail (Open.round l') (C := fun w' => ∃ x : Wd W, w' = x.val) 13 (by kernel_rfl) (by kernel_rfl) (by kernel_rfl) (Wd.of (Below.refl _ _).drew) ?_
      simp only [List.take_succ_cons, List.take_zero, List.drop_succ_cons, List.drop_zero]
      repeat (go_big_quiet_step (fail))
      refine wpQuiet_nil ?_
      rintro _ ⟨z, rfl⟩
      clear w0 w1 w2 w3 w4
      have GZ := Lib.hid z.ok
      obtain ⟨Z, hZ⟩ : ∃ Z, z.val = Z := ⟨_, rfl⟩
      rw [hZ] at GZ ⊢
      clear hZ z
      obtain ⟨nD, D, hD1, hD2, hD3⟩ := HNMW.out.ext GZ.out
      have HD3 := Lib.hid hD3
      have HD2 := Lib.hid hD2
      clear hD2 hD3
      refine wpListIn_mapUpdate_own _ rfl _ _ _ 230 rfl 3 3 (int_keyed Tryz.underlying3) Tryz.underlying230 _ bm nD D (by rfl) HD2.out (by unfold maxLen; omega) _ _ (.int .i64 y.a) (by rfl) (by rfl) (keyOf_int_mk Tryz.underlying3 (lit_wf (by omega) (by omega))) (.lit (.int .i64 (s1 - s2))) [] (plainElem_int Tryz.underlying3 (wf_i64 (by omega))) ?_
      intro Vu hown1 hgrow1
      have HNU := Lib.hid (NumMap.put (by omega) (by omega) hD1 HD2.out.isMap HD3.out hown1)
      have FU := Lib.hid (FixU.of_fix (B := W0.heap.size) (fix_turn hgrow1))
      have HGW := Lib.hid hgrow1
      clear hown1 hgrow1
      gi_wp2_with fail
      refine ⟨⟨Nat.le_trans GZ.out.size HGW.out.size, fun k o hk hko ho => (HGW.out.block k (Nat.lt_of_lt_of_le (Array.getElem?_eq_some_iff.1 hko).1 GZ.out.size) (fun e => by cases e; omega)).trans ((GZ.out.block k (Array.getElem?_eq_some_iff.1 hko).1).trans hko)⟩, (FixU.of_below GZ.out).trans FU.out, HFXW.out.trans ((FixU.of_below GZ.out).trans FU.out), ?_, ?_⟩
      ·rw [HPN.out]
       refine HNU.out.congr fun s => ?_
       rw [HGN.out s, HDA.out]
      ·exact (HTO.out.below GZ.out).grown HGW.out
     case done =>
      rintro E xs W hD hS ⟨hfx, hnm, hto⟩ hK
      have hxl : xs.length = ix := by
       have := congrArg List.length hS
       rw [List.length_map, List.length_range] at this
       exact this
      rw [hxl, List.take_of_length_le (by rw [HLN.out]; exact Nat.le_refl _)] at hnm
      have hXs := hfx.size
      have hdl : (diffs l ix).length = ls.length := by unfold diffs; rw [List.length_map, List.length_range, HLN.out]
      have HNM2 := Lib.hid (hnm.congr (fun s => gK_full hdl s))
      have hgd : ∀ x ∈ countL p known, (diffs l ix).getD (srcIx ls x.a) 0 = l.getD (srcIx ls x.a) 0 - l.getD (srcIx ls x.a + 1) 0 := fun x hx => diffs_at (by have := (srcIx_spec (HCT.out x hx)).1; rw [HLN.out] at this; exact this)
      obtain ⟨g, hg⟩ : ∃ g : Int → Int, (fun s => (diffs l ix).getD (srcIx ls s) 0) = g := ⟨_, rfl⟩
      rw [hg] at HNM2
      have HPC2 := Lib.hid (show pickC p known (pickS ls st k v) = (countL p known).map fun x => g x.a by
       have e1 : (countL p known).map (fun x => g x.a) = (countL p known).map fun x => l.getD (srcIx ls x.a) 0 - l.getD (srcIx ls x.a + 1) 0 := List.map_congr_left fun x hx => by rw [← hg]; exact hgd x hx
       rw [e1, HALL.out]
       exact HPC.out)
      have HS00 := Lib.hid (show (pickS ls st k v).getD 0 0 = l.getD 0 0 by rw [HALL.out])
      have hll := HLL.out
      have hSW := hfx.blk HS0'.out (by omega) (by omega) (.inl (by omega))
      have r0 : W.cell? ⟨bS, 0, none⟩ = some (.int .i64 (l.getD 0 0)) := by rw [hSW.cell, vals_get, getD_int1 (by omega)]; rfl
      obtain ⟨s0, hs0⟩ : ∃ v, l.getD 0 0 = v := ⟨_, rfl⟩
      rw [hs0] at r0 HS00
      have q7 := (hfx.blk HB70.out (by omega) (by omega) (.inl (by omega))).cell 0
      have HBBW := Lib.hid (hfx.blk HBB.out (by omega) (by omega) (.inl (by omega)))
      have HB6W := Lib.hid (hfx.blk HB60.out (by omega) (by omega) (.inl (by omega)))
      have HFW := Lib.hid (hfx.blk HF0.out (by omega) (by omega) (.inl (by omega)))
      have HPW := Lib.hid (hfx.blk HP0.out (by omega) (by omega) (.inl (by omega)))
      have HLW := Lib.hid (hfx.arr HPA0.out (fun b o e h0 => by have := HPA.out.l1.lt_of e h0; omega))
      have GW := Lib.hid (show Below w.heap.size w W from G0.out.trans (hfx.below (D := w.heap.size) hto (by omega) (by omega) (by omega) (by omega)))
      have HK := Lib.hid hK
      have hEl := (Array.getElem?_eq_some_iff.1 hK).1
      have hb6l := HB6W.out.lt
      have hbbl := HBBW.out.lt
      have hfl2 := HFW.out.lt
      have hpl2 := HPW.out.lt
      have hl1n := HLW.out.1
      have HL1N := Lib.hid hl1n
      have hn60 : n1 ≤ 60 := by have := (ok_parts HOK.out).2.2.2.2.2.1; omega
      have f0 := HFW.out.cell 0
      have p2 := HPW.out.cell 1
      have p3 := HPW.out.cell 2
      have hm0 : (0 : Int) < (m : Int) := by omega
      clear hfx hnm hto hK hS hgd hg hdl hSW hll hs0 hxl hl1n
      go_upto_region 17 with fail
      obtain ⟨W4, hW4⟩ : ∃ V, W.alloc (.cells #[.int .i64 s0, .slice none 0 0] 41) = V := ⟨_, rfl⟩
      rw [hW4]
      have GA := Lib.hid (show Below W.heap.size W W4 by rw [← hW4]; exact one_more _ _)
      have HR4 := Lib.hid (show Blk W4 W.heap.size 41 #[.int .i64 s0, .slice none 0 0] by rw [← hW4]; exact Blk.new _ _ _)
      clear hW4 r0 q7 f0 p2 p3
      have f0 := (HFW.out.ext GA.out).cell 0
      have p3 := (HPW.out.ext GA.out).cell 2
      obtain ⟨b13, hb13⟩ : ∃ b, W.heap.size = b := ⟨_, rfl⟩
      have HB13 := Lib.hid hb13
      rw [hb13] at HR4 ⊢
      have hr4l := HR4.out.lt
      have he13 : E < b13 := by omega
      have h613 : w.heap.size < b13 := by omega
      clear hb13
      go_upto_region 18 with fail
      clear f0 p3
      go_loopw [127] (fun i wr => ∃ (q : Nat) (u : Value), q ≤ n1 ∧ i = .int .i64 q ∧ Below W.heap.size W wr ∧ Blk wr b13 41 #[.int .i64 s0, u] ∧ OwnL icells 1 3 wr (b13 + 1) u ((cntK p known q).map fun x => g x.a)) (fun i _ => n1 - (intOf i).toNat)
      case atStart => exact ⟨0, _, Nat.zero_le _, rfl, GA.out, HR4.out, OwnL.nil _ _⟩
      case round =>
       obtain ⟨q, u, hq, rfl, hgw, hbr, hou⟩ := hrel
       have HGQ := Lib.hid hgw
       have HBR := Lib.hid hbr
       have HOU := Lib.hid hou
       have hws := hgw.size
       have hbrl := hbr.lt
       clear hgw hbr hou
       by_cases hqn : q < n1
       ·obtain ⟨b0, o0, e0, -, -, hc⟩ := six_at (HLW.out.below HGQ.out) hqn
        obtain ⟨x0, x1, x2, x3, x4, x5⟩ := hc wr (Below.refl _ _)
        have hkl1 : q < p.loads.length := by rw [HL1N.out]; exact hqn
        have HSU := Lib.hid (cntK_succ (p := p) (known := known) (k := q) hkl1)
        have hnx := load_num HOK.out (getD_mem hkl1)
        obtain ⟨x, hxg⟩ : ∃ x, p.loads.getD q z6 = x := ⟨_, rfl⟩
        rw [hxg] at x0 x1 x2 x3 x4 x5 HSU hnx
        subst e0
        obtain ⟨cb, hcb⟩ : ∃ cb, cnt x known = cb := ⟨_, rfl⟩
        have TC := fun V => cnt_any x known V
        rw [hcb] at TC HSU
        have HTC := Lib.hid TC
        clear hc hxg hcb TC
        go_upto_region 20 with fail
        obtain ⟨W5, hW5⟩ : ∃ V, wr.alloc (.cells #[.int .i64 x.a, .int .i64 x.b, .int .i64 x.c, .int .i64 x.d, .int .i64 x.e, .int .i64 x.f] 103) = V := ⟨_, rfl⟩
        rw [hW5]
        have HX5 := Lib.hid (show Blk W5 wr.heap.size 103 #[.int .i64 x.a, .int .i64 x.b, .int .i64 x.c, .int .i64 x.d, .int .i64 x.e, .int .i64 x.f] by rw [← hW5]; exact Blk.new _ _ _)
        have G5 := Lib.hid (show Below wr.heap.size wr W5 by rw [← hW5]; exact one_more _ _)
        have v1 := cellW (HX5.out.cell 3)
        have v2 := cellW (HX5.out.cell 4)
        have v3 := cellW (HX5.out.cell 5)
        have v4 := cellW ((HFW.out.ext (HGQ.out.trans (G5.out.mono hws))).cell 1)
        clear hW5 x0 x1 x2 x3 x4 x5
        refine wp_region_calm W5 (by kernel_rfl) (by kernel_rfl) (Below.refl _ _) ?_
        repeat (go_big_quiet_step (first | (go_at_call 159; exact callsCalmSame (HTC.out _))))
        refine wpQuiet_nil ?_
        rintro _ ⟨z, rfl⟩
        have GZ := Lib.hid (G5.out.trans (z.ok.mono G5.out.size))
        have HXZ := Lib.hid (HX5.out.ext z.ok)
        obtain ⟨Z, hZ⟩ : ∃ Z, z.val = Z := ⟨_, rfl⟩
        rw [hZ] at GZ HXZ ⊢
        clear hZ z v1 v2 v3 v4
        have GWZ := Lib.hid (HGQ.out.trans (GZ.out.mono hws))
        cases cb with
        | false =>
         have HS2 := Lib.hid (show cntK p known (q + 1) = cntK p known q by rw [HSU.out]; simp)
         go_wp2_with fail
         go_roundw
         case rel => exact ⟨q + 1, u, by omega, by go_num, GWZ.out, HBR.out.ext GZ.out, by rw [HS2.out]; exact HOU.out.ext GZ.out⟩
         case measure => simp [intOf]; omega
        | true =>
         have HS2 := Lib.hid (show (cntK p known (q + 1)).map (fun x => g x.a) = (cntK p known q).map (fun x => g x.a) ++ [g x.a] by rw [HSU.out, if_pos rfl, List.map_append]; rfl)
         have hlk := (HNM2.out.ext GWZ.out).look (i := x.a) (by omega) (by omega)
         obtain ⟨gv, hgv⟩ : ∃ v, g x.a = v := ⟨_, rfl⟩
         rw [hgv] at hlk HS2
         obtain ⟨pl, hpl'⟩ : ∃ l, (cntK p known q).map (fun x => g x.a) = l := ⟨_, rfl⟩
         have HPL := Lib.hid (show pl.length + 1 ≤ 1000000 by rw [← hpl', List.length_map]; have := cntK_len (p := p) (known := known) (k := q); omega)
         rw [hpl'] at HS2 HOU
         obtain ⟨Au, cu, hue, -⟩ := OwnL.arr kdI HOU.out
         obtain ⟨nu, hnu⟩ : ∃ q, pl.length = q := ⟨_, rfl⟩
         rw [hnu] at hue
         subst hue
         have KB := Lib.hid (HBR.out.ext GZ.out)
         have KO := Lib.hid (HOU.out.ext GZ.out)
         have y0 := KB.out.cell 1
         have y1 := KB.out.frozen 1
         have y2 := (HBBW.out.ext GWZ.out).cell 0
         have y3 := HXZ.out.cell 0
         have OX := Lib.hid (KO.out.ext (one_more Z (.cells #[.int .i64 gv] 3)))
         have IX := Lib.hid (one_int (Blk.new Z 3 #[.int .i64 gv]))
         have HOBK := Lib.hid (fun (k : Nat) (e : (Value.slice Au nu cu).ownBlock = some k) => (own_cells KO.out e).1)
         have hzs := GZ.out.size
         clear hgv hpl' hnu
         go_wp2_with (at_builtin; go_loud (refine wpList_app kdI (by rfl) _ _ (by rfl) (b13 + 1) (.slice Au nu cu) pl (by rfl) OX.out _ 1 1 [gv] (by rfl) IX.out HPL.out (by simp; omega) ?_); intro v' w2 ho2 hg2 hz2; obtain ⟨Av2, cv2, hve, -⟩ := OwnL.arr kdI ho2; obtain ⟨nv2, hnv⟩ : ∃ q, (pl ++ [gv]).length = q := ⟨_, rfl⟩; rw [hnv] at hve; subst hve; clear hnv; have k9 := ((KB.out.alloc (.cells #[.int .i64 gv] 3)).grown hg2 (fun e => by have := HOBK.out _ e; omega)); have m0 := k9.cell 1; have m1 := k9.frozen 1; have K9 := Lib.hid k9; have HO2 := Lib.hid ho2; have HGB := Lib.hid ((OX.out).below hg2 (B := b13) (by omega) (by simp; omega)); clear ho2 hg2 hz2 k9)
         go_roundw
         case rel =>
          refine ⟨q + 1, _, by omega, by go_num, ?_, K9.out.set_ 1 _, by rw [HS2.out]; exact HO2.out.far (p := ⟨b13, 1, none⟩) (by show b13 < b13 + 1; omega) _⟩
          have e13 := HB13.out
          have gg : Below b13 W w2 := by
           have g1 : Below b13 W Z := e13 ▸ GWZ.out
           exact (g1.trans ((one_more Z _).mono (by omega))).trans HGB.out
          exact e13 ▸ (gg.setCell (p := ⟨b13, 1, none⟩) (Nat.le_refl _) _)
         case measure => simp [intOf]; omega
       ·obtain rfl : n1 = q := by omega
        have HEND := Lib.hid (show (cntK p known n1).map (fun x => g x.a) = pickC p known (pickS ls st k v) by rw [HPC2.out, cntK_all (by rw [HL1N.out]; exact Nat.le_refl _)])
        rw [HEND.out] at HOU
        obtain ⟨Au, cu, hue, -⟩ := OwnL.arr kdI HOU.out
        obtain ⟨nu, hnu⟩ : ∃ q, (pickC p known (pickS ls st k v)).length = q := ⟨_, rfl⟩
        rw [hnu] at hue
        subst hue
        have K6 := Lib.hid (HB6W.out.ext HGQ.out)
        have y0 := HBR.out.cell 0
        have y1 := HBR.out.cell 1
        have y2 := K6.out.cell 0
        have y3 := K6.out.cell 1
        have y4 := K6.out.frozen 0
        have y5 := K6.out.frozen 1
        have HKZ := Lib.hid ((HGQ.out.block E hEl).trans HK.out)
        clear hnu
        go_wp2_with fail
        have k6 := (K6.out.set_ 0 (.int .i64 s0)).set_ 1 (.slice Au nu cu)
        have t0 := (k6.putObj (D := E) (by omega) (.deferred none)).cell 0
        have t1 := (k6.putObj (D := E) (by omega) (.deferred none)).cell 1
        have HKF := Lib.hid (show ((wr.setCell ⟨w.heap.size, 0, none⟩ (.int .i64 s0)).setCell ⟨w.heap.size, 1, none⟩ (.slice Au nu cu)).heap[E]? = some (.deferred (some [])) from (Below.heap_setCell _ _ _ _ (by show E ≠ w.heap.size; omega)).trans ((Below.heap_setCell _ _ _ _ (by show E ≠ w.heap.size; omega)).trans HKZ.out))
        refine ⟨by simp, .inl ⟨_, _, rfl, run_takeDeferred HKF.out, ?_⟩⟩
        refine ⟨.agg #[.int .i64 s0, .slice Au nu cu], ?_, ⟨⟨_, by rw [HS00.out], ?_⟩, ?_⟩⟩
        ·simp [results, Tryz.results84, go_sem, t0, t1]
        ·exact (((HOU.out.far (p := ⟨w.heap.size, 0, none⟩) (by show w.heap.size < b13 + 1; omega) _).far (p := ⟨w.heap.size, 1, none⟩) (by show w.heap.size < b13 + 1; omega) _).held (grownBy_putObj' _ E _) (fun r e => by cases e; exact ⟨_, HKF.out, rfl⟩)).mono (by omega)
        ·have gx := ((GW.out.trans (HGQ.out.mono GW.out.size)).setCell (p := ⟨w.heap.size, 0, none⟩) (Nat.le_refl _) (.int .i64 s0)).setCell (p := ⟨w.heap.size, 1, none⟩) (Nat.le_refl _) (.slice Au nu cu)
         exact gx.grown (grownBy_putObj' _ E _) gx.size (fun k hk => by cases hk; omega)
     case stop =>
      rintro D cd pre X _ _ h _
      exact h.elim
end Go.Proofs.YtkoejeghihcmlaaGreat

namespace Go.Proofs.YtkoejeghihcmlaaGreat
open Go.RowKit Go.Shelf
def attS (p : Pl) (hour known : Int) (high : Bool) : List Int :=
 pickS (lookL p known every) (lookS p known every) (after (lookL p known every) hour) (if high = true then Hi (lookS p known every) (after (lookL p known every) hour) else Lo (lookS p known every) (after (lookL p known every) hour))
/-- What Attain returns. -/
def AttEnd (p : Pl) (hour known : Int) (high : Bool) (w : World) (e : Ending) (w' : World) : Prop :=
 (∃ sv v, e = .returned (.tuple #[.agg #[.int .i64 sv, v], .int .i64 (askE p [hour] known)]) ∧ (askE p [hour] known = 0 → sv = (attS p hour known high).getD 0 0 ∧ OwnL icells 1 3 w' w.heap.size v (pickC p known (attS p hour known high))) ∧
  (askE p [hour] known ≠ 0 → sv = 0 ∧ v = .slice none 0 0)) ∧ Below w.heap.size w w'
set_option maxRecDepth 100000 in
set_option maxHeartbeats 8000000 in
theorem attain_any (p : Pl) (A1 A2 A3 : Option Addr) (n1 c1 n2 c2 n3 c3 : Nat) (hour known : Int) (high : Bool) (w : World) (hp : Pa w p A1 A2 A3 n1 c1 n2 c2 n3 c3) (h19 : p.loads.length ≤ 60) :
  Calls Tryz.prog 22 #[plv p A1 A2 A3 n1 c1 n2 c2 n3 c3, .int .i64 hour, .int .i64 known, .bool high] w (AttEnd p hour known high w) := by
 obtain ⟨W2, hW2⟩ : ∃ W2, (w.alloc (.cells (plb p A1 A2 A3 n1 c1 n2 c2 n3 c3) 38)).alloc (.cells #[.int .i64 0, .slice none 0 0] 41) = W2 := ⟨_, rfl⟩
 have g2 : Below w.heap.size w W2 := by rw [← hW2]; exact two_more _ _ _
 have b1 : Blk W2 w.heap.size 38 (plb p A1 A2 A3 n1 c1 n2 c2 n3 c3) := by rw [← hW2]; exact (Blk.new _ _ _).alloc _
 have b2 : Blk W2 (w.heap.size + 1) 41 #[.int .i64 0, .slice none 0 0] := by
  rw [← hW2]
  have := Blk.new (w.alloc (.cells (plb p A1 A2 A3 n1 c1 n2 c2 n3 c3) 38)) 41 #[.int .i64 0, .slice none 0 0]
  rwa [World.size_alloc] at this
 have T := Lib.hid (asked_any p A1 A2 A3 n1 c1 n2 c2 n3 c3 w.heap.size hour known W2 b1 (hp.below g2) h19)
 have HL19 := Lib.hid (lookL_len h19 known every)
 have G2 := Lib.hid g2
 have B1 := Lib.hid b1
 have B2 := Lib.hid b2
 have HPA := Lib.hid (hp.below g2)
 have hz2 := g2.size
 have hb2l := b2.lt
 obtain ⟨ae, hae⟩ : ∃ ae, askE p [hour] known = ae := ⟨_, rfl⟩
 have HAP := Lib.hid (show ae = 0 → okPl p = true ∧ sound (lookS p known every) = true from fun e => ⟨(ask_parts (hae.trans e)).1, (ask_parts (hae.trans e)).2.1⟩)
 rw [hae] at T
 have HAE := Lib.hid hae
 have HW2 := Lib.hid hW2
 clear hp g2 b1 b2 hae h19 hW2
 by_cases he : ae = 0
 ·subst he
  obtain ⟨hok, hs⟩ := HAP.out rfl
  have HOK := Lib.hid hok
  have HS := Lib.hid hs
  have hrw := look_rw hok hs
  obtain ⟨av, hav2⟩ : ∃ av, after (lookL p known every) hour = av := ⟨_, rfl⟩
  have hav := after_le (lookL p known every) hour
  rw [hav2] at hav
  have HSND := Lib.hid (hrw.snd av hav)
  have HATT := Lib.hid (show attS p hour known high = pickS (lookL p known every) (lookS p known every) av (if high = true then Hi (lookS p known every) av else Lo (lookS p known every) av) by unfold attS; rw [hav2])
  have HAV := Lib.hid hav2
  clear hok hs hrw hav2
  go_enter Tryz.func22, Tryz.ntmps22
  go_upto_region 1 with fail
  rw [HW2.out]
  go_upto_region 4 with (go_at_call 74; (with_reducible refine (T.out).mono ?_); rintro e W3 ⟨r, rfl, hg, hl⟩; obtain ⟨bf, bs, A, n, c, rfl, hl2⟩ := hl (by trivial); have G3 := Lib.hid hg; have HL := Lib.hid hl2; clear hg hl hl2)
  have hnn := HL.out.num
  have hn19 : n ≤ 60 := by rw [hnn]; exact HL19.out
  have havn : av ≤ n := by rw [hnn]; exact hav
  have T79 := after_any bf A n c (lookL p known every) hour W3 (HL.out.fd.f.lt) (HL.out.fd.f.cell 2) HL.out.ar (by omega)
  rw [HAV.out] at T79
  have HT79 := Lib.hid T79
  clear T79 hnn hav
  go_upto_region 5 with (go_at_call 79; (with_reducible refine (HT79.out).mono ?_); rintro e W4 ⟨rfl, hg⟩; have G4 := Lib.hid hg; clear hg)
  have HLf := Lib.hid (HL.out.fd.ext G4.out)
  have G34 := Lib.hid (G3.out.trans (G4.out.mono G3.out.size))
  have f3 := HLf.out.f.cell 3
  obtain ⟨s0, s1⟩ := HLf.out.cells (show av < n + 1 by omega)
  have hsd := HSND.out
  have TP := fun v h1 h2 => pick_any p A1 A2 A3 n1 c1 n2 c2 n3 c3 w.heap.size bf bs known A n c av v W4 (B1.out.ext G34.out) (HPA.out.below G34.out) HOK.out (by omega) HS.out HLf.out (HL.out.ar.below G4.out) havn h1 h2
  obtain ⟨lo, hlo⟩ : ∃ v, Lo (lookS p known every) av = v := ⟨_, rfl⟩
  obtain ⟨hi, hhi⟩ : ∃ v, Hi (lookS p known every) av = v := ⟨_, rfl⟩
  rw [hlo, hhi] at TP HATT hsd
  rw [hlo] at s0
  rw [hhi] at s1
  have HTP := Lib.hid TP
  have HB2 := Lib.hid (B2.out.ext G34.out)
  have hgs := G34.out.size
  have m0 := HB2.out.cell 0
  have m1 := HB2.out.cell 1
  have m2 := HB2.out.frozen 0
  have m3 := HB2.out.frozen 1
  obtain ⟨m, hm⟩ : ∃ m, n + 1 = m := ⟨_, rfl⟩
  rw [hm] at f3
  have havm : (av : Int) < (m : Int) := by omega
  have HSD := Lib.hid hsd
  clear TP hm hlo hhi hsd
  cases high with
  | false =>
   have HATT2 := Lib.hid (show attS p hour known false = pickS (lookL p known every) (lookS p known every) av lo from HATT.out)
   have HT84 := Lib.hid (HTP.out lo (Int.le_refl _) HSD.out)
   go_wp2_with (go_at_call 84; (with_reducible refine (HT84.out).mono ?_); rintro e W5 ⟨⟨v, rfl, ho⟩, hg⟩; obtain ⟨D, c', hv, -, -, -, -⟩ := OwnL.arr kdI ho; obtain ⟨nv, hnv⟩ : ∃ q, (pickC p known (pickS (lookL p known every) (lookS p known every) av lo)).length = q := ⟨_, rfl⟩; rw [hnv] at hv; subst hv; have G5 := Lib.hid hg; have HO := Lib.hid ho; have KB := Lib.hid (HB2.out.ext hg); obtain ⟨sw, hsw⟩ : ∃ q, (pickS (lookL p known every) (lookS p known every) av lo).getD 0 0 = q := ⟨_, rfl⟩; rw [hsw]; have HSW := Lib.hid hsw; have y0 := KB.out.cell 0; have y1 := KB.out.cell 1; have y2 := KB.out.frozen 0; have y3 := KB.out.frozen 1; clear hg ho hnv hsw m0 m1 m2 m3 f3 s0 s1)
   have k6 := (KB.out.set_ 0 (.int .i64 sw)).set_ 1 (.slice D nv c')
   have t0 := k6.cell 0
   have t1 := k6.cell 1
   have hg5 := G5.out.size
   refine bodyPost_ret (v := .tuple #[.agg #[.int .i64 sw, .slice D nv c'], .int .i64 0]) ?_ rfl ⟨⟨_, _, by rw [HAE.out], fun _ => ⟨by rw [HATT2.out, HSW.out], ?_⟩, fun h => absurd HAE.out h⟩, ?_⟩
   ·simp [results, Tryz.results22, go_sem, t0, t1]
   ·rw [HATT2.out]
    exact ((HO.out.far (p := ⟨w.heap.size + 1, 0, none⟩) (by show w.heap.size + 1 < W4.heap.size; omega) _).far (p := ⟨w.heap.size + 1, 1, none⟩) (by show w.heap.size + 1 < W4.heap.size; omega) _).mono (by omega)
   ·exact ((G2.out.trans ((G34.out.trans (G5.out.mono hgs)).mono hz2)).setCell (p := ⟨w.heap.size + 1, 0, none⟩) (by show w.heap.size ≤ w.heap.size + 1; omega) _).setCell (p := ⟨w.heap.size + 1, 1, none⟩) (by show w.heap.size ≤ w.heap.size + 1; omega) _
  | true =>
   have HATT2 := Lib.hid (show attS p hour known true = pickS (lookL p known every) (lookS p known every) av hi from HATT.out)
   have HT84 := Lib.hid (HTP.out hi HSD.out (Int.le_refl _))
   go_wp2_with (go_at_call 84; (with_reducible refine (HT84.out).mono ?_); rintro e W5 ⟨⟨v, rfl, ho⟩, hg⟩; obtain ⟨D, c', hv, -, -, -, -⟩ := OwnL.arr kdI ho; obtain ⟨nv, hnv⟩ : ∃ q, (pickC p known (pickS (lookL p known every) (lookS p known every) av hi)).length = q := ⟨_, rfl⟩; rw [hnv] at hv; subst hv; have G5 := Lib.hid hg; have HO := Lib.hid ho; have KB := Lib.hid (HB2.out.ext hg); obtain ⟨sw, hsw⟩ : ∃ q, (pickS (lookL p known every) (lookS p known every) av hi).getD 0 0 = q := ⟨_, rfl⟩; rw [hsw]; have HSW := Lib.hid hsw; have y0 := KB.out.cell 0; have y1 := KB.out.cell 1; have y2 := KB.out.frozen 0; have y3 := KB.out.frozen 1; clear hg ho hnv hsw m0 m1 m2 m3 f3 s0 s1)
   have k6 := (KB.out.set_ 0 (.int .i64 sw)).set_ 1 (.slice D nv c')
   have t0 := k6.cell 0
   have t1 := k6.cell 1
   have hg5 := G5.out.size
   refine bodyPost_ret (v := .tuple #[.agg #[.int .i64 sw, .slice D nv c'], .int .i64 0]) ?_ rfl ⟨⟨_, _, by rw [HAE.out], fun _ => ⟨by rw [HATT2.out, HSW.out], ?_⟩, fun h => absurd HAE.out h⟩, ?_⟩
   ·simp [results, Tryz.results22, go_sem, t0, t1]
   ·rw [HATT2.out]
    exact ((HO.out.far (p := ⟨w.heap.size + 1, 0, none⟩) (by show w.heap.size + 1 < W4.heap.size; omega) _).far (p := ⟨w.heap.size + 1, 1, none⟩) (by show w.heap.size + 1 < W4.heap.size; omega) _).mono (by omega)
   ·exact ((G2.out.trans ((G34.out.trans (G5.out.mono hgs)).mono hz2)).setCell (p := ⟨w.heap.size + 1, 0, none⟩) (by show w.heap.size ≤ w.heap.size + 1; omega) _).setCell (p := ⟨w.heap.size + 1, 1, none⟩) (by show w.heap.size ≤ w.heap.size + 1; omega) _
 ·have hne : (ae != 0) = true := by simpa using he
  go_enter Tryz.func22, Tryz.ntmps22
  go_upto_region 1 with fail
  rw [HW2.out]
  go_wp2_with (go_at_call 74; (with_reducible refine (T.out).mono ?_); rintro e W3 ⟨r, rfl, hg, -⟩; have G3 := Lib.hid hg; have KB := Lib.hid (B2.out.ext hg); have m0 := KB.out.cell 0; have m1 := KB.out.cell 1; have m2 := KB.out.frozen 0; have m3 := KB.out.frozen 1; clear hg)
  have k6 := (KB.out.set_ 0 (.int .i64 0)).set_ 1 (.slice none 0 0)
  have t0 := k6.cell 0
  have t1 := k6.cell 1
  refine bodyPost_ret (v := .tuple #[.agg #[.int .i64 0, .slice none 0 0], .int .i64 ae]) ?_ rfl ⟨⟨_, _, by rw [HAE.out], fun h => absurd (HAE.out.symm.trans h) he, fun _ => ⟨rfl, rfl⟩⟩, ?_⟩
  ·simp [results, Tryz.results22, go_sem, t0, t1]
  ·exact ((G2.out.trans (G3.out.mono hz2)).setCell (p := ⟨w.heap.size + 1, 0, none⟩) (by show w.heap.size ≤ w.heap.size + 1; omega) _).setCell (p := ⟨w.heap.size + 1, 1, none⟩) (by show w.heap.size ≤ w.heap.size + 1; omega) _
end Go.Proofs.YtkoejeghihcmlaaGreat

namespace Go.Proofs.YtkoejeghihcmlaaGreat
open Go.RowKit Go.Shelf
/-- A plot whose three rows lie at base or behind. -/
def Ow (w : World) (base : Nat) (p : Pl) (D1 D2 D3 : Option Addr) (m1 d1 m2 d2 m3 d3 : Nat) : Prop :=
 ∃ v1 v2 v3, v1 = Value.slice D1 m1 d1 ∧ v2 = .slice D2 m2 d2 ∧ v3 = .slice D3 m3 d3 ∧ OwnL scells 6 103 w base v1 p.loads ∧ OwnL scells 6 105 w base v2 p.stands ∧ OwnL scells 6 107 w base v3 p.spells
theorem own_far {α : Type} {f : α → List Value} {size : Nat} {e : TypeId} {w : World} {base : Nat} {v : Value} {xs : List α} (h : OwnL f size e w base v xs) (b i : Nat) (hb : b < base) (u : Value) : OwnL f size e (w.setCell ⟨b, i, none⟩ u) base v xs := by
 obtain ⟨h1, h2 | ⟨g, cap, cur, rfl, hb', hg, h4⟩⟩ := h
 ·exact ⟨h1, .inl h2⟩
 ·exact ⟨h1, .inr ⟨g, cap, cur, rfl, hb', (Below.heap_setCell w ⟨b, i, none⟩ u g (by dsimp only; omega)).trans hg, h4⟩⟩
theorem Ow.far {w : World} {base : Nat} {p : Pl} {D1 D2 D3 : Option Addr} {m1 d1 m2 d2 m3 d3 : Nat} (h : Ow w base p D1 D2 D3 m1 d1 m2 d2 m3 d3) (b i : Nat) (hb : b < base) (u : Value) : Ow (w.setCell ⟨b, i, none⟩ u) base p D1 D2 D3 m1 d1 m2 d2 m3 d3 := by
 obtain ⟨v1, v2, v3, e1, e2, e3, o1, o2, o3⟩ := h
 exact ⟨v1, v2, v3, e1, e2, e3, own_far o1 b i hb u, own_far o2 b i hb u, own_far o3 b i hb u⟩
theorem Ow.pa {w : World} {base : Nat} {p : Pl} {D1 D2 D3 : Option Addr} {m1 d1 m2 d2 m3 d3 : Nat} (h : Ow w base p D1 D2 D3 m1 d1 m2 d2 m3 d3) : Pa w p D1 D2 D3 m1 d1 m2 d2 m3 d3 := by
 obtain ⟨v1, v2, v3, q1, q2, q3, o1, o2, o3⟩ := h
 obtain ⟨E1, x1, e1, k1, j1, l1, -⟩ := OwnL.arr kdL o1
 obtain ⟨E2, x2, e2, k2, j2, l2, -⟩ := OwnL.arr kdS o2
 obtain ⟨E3, x3, e3, k3, j3, l3, -⟩ := OwnL.arr kdP o3
 unfold maxLen at j1 j2 j3
 rw [q1] at e1; rw [q2] at e2; rw [q3] at e3
 cases e1; cases e2; cases e3
 exact ⟨l1, l2, l3, ⟨k1, Nat.le_trans k1 j1⟩, ⟨k2, Nat.le_trans k2 j2⟩, ⟨k3, Nat.le_trans k3 j3⟩⟩
theorem att_tru {p : Pl} {hour known : Int} (a : askE p [hour] known = 0) (high : Bool) : Tru (lookL p known every) (lookS p known every) (attS p hour known high) ∧ (attS p hour known high).getD (after (lookL p known every) hour) 0 = if high = true then (stoodR p hour known).hi else (stoodR p hour known).lo := by
 have hp := ask_parts a
 have hr := look_rw hp.1 hp.2.1
 have ha := after_len (lookL p known every) hour
 unfold attS
 rw [stoodR_of a]
 cases high
 ·exact pick_tru hr.arc (fun i hi => (hr.wid i hi).2) hr.snd ha (Int.le_refl _) (hr.snd _ ha)
 ·exact pick_tru hr.arc (fun i hi => (hr.wid i hi).2) hr.snd ha (hr.snd _ ha) (Int.le_refl _)
theorem att_bd {p : Pl} {hour known : Int} (a : askE p [hour] known = 0) (high : Bool) : ∀ x ∈ pickC p known (attS p hour known high), -9223372036854775808 ≤ x ∧ x ≤ 9223372036854775807 := by
 have hp := ask_parts a
 have hr := look_rw hp.1 hp.2.1
 have ht := (att_tru a high).1
 have hb : ∀ i, 0 ≤ (attS p hour known high).getD i 0 ∧ (attS p hour known high).getD i 0 ≤ 10000 := fun i => by
  by_cases hi : i ≤ (lookL p known every).length
  ·have h1 := ht.2.2 i hi
   have h2 := hr.pos i hi
   have h3 := look_hi hp.1 known every hi
   omega
  ·rw [List.getD_eq_getElem?_getD, List.getElem?_eq_none (by rw [ht.1]; omega)]
   exact ⟨Int.le_refl _, by decide⟩
 intro x hx
 unfold pickC at hx
 obtain ⟨y, -, rfl⟩ := List.mem_map.1 hx
 have h1 := hb (srcIx (lookL p known every) y.a)
 have h2 := hb (srcIx (lookL p known every) y.a + 1)
 omega
theorem att_left {p : Pl} {hour known : Int} (a : askE p [hour] known = 0) (hf : firstE p [hour] [known] = 0) (high : Bool) : leftE p [hour] known ((attS p hour known high).getD 0 0) (pickC p known (attS p hour known high)) = 0 ∧
  leftV p hour known ((attS p hour known high).getD 0 0) (pickC p known (attS p hour known high)) = if high = true then (stoodR p hour known).hi else (stoodR p hour known).lo := by
 have hp := ask_parts a
 have ht := att_tru a high
 have h1 : leftE p [hour] known ((attS p hour known high).getD 0 0) (pickC p known (attS p hour known high)) = 0 := by
  unfold leftE
  rw [if_pos hf, pick_truth hp.1 ht.1]
  rfl
 refine ⟨h1, ?_⟩
 unfold leftV
 rw [if_pos h1, pick_truS hp.1 ht.1.1]
 exact ht.2
end Go.Proofs.YtkoejeghihcmlaaGreat
