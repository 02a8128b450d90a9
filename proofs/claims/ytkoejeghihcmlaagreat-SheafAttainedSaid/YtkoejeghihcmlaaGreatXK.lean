/- The law SheafAttained. -/
import Derived.Test.YtkoejeghihcmlaaGreatXB
import Derived.Test.YtkoejeghihcmlaaGreatWN
import Derived.Test.YtkoejeghihcmlaaGreatWR
import Derived.Test.YtkoejeghihcmlaaGreatWF
import Derived.Test.YtkoejeghihcmlaaGreatXG
import Derived.Test.YtkoejeghihcmlaaGreatWD
namespace Go.Proofs.YtkoejeghihcmlaaGreat
open Go.RowKit Go.Shelf

theorem blk_two2 {V V9 : World} {o : Obj} {t : TypeId} {cs : Array Value} (hg : Below (((V.alloc o).alloc (.cells cs t)).drew).heap.size ((V.alloc o).alloc (.cells cs t)).drew V9) : Blk V9 (V.heap.size + 1) t cs :=
  (blk_second V o t cs).ext hg
theorem Below.allo {B : Nat} {V X : World} (h : Below B V X) (hB : B ≤ X.heap.size) (o : Obj) : Below B V (X.alloc o) := h.trans ((one_more X o).mono hB)
theorem Blk.far_ {w : World} {g : Nat} {t : TypeId} {cs : Array Value} (h : Blk w g t cs) (b i : Nat) (hp : g ≠ b) (u : Value) : Blk (w.setCell ⟨b, i, none⟩ u) g t cs := h.far (p := ⟨b, i, none⟩) hp u
/-- A plot whose three rows lie at base or behind. -/
def Ow (w : World) (base : Nat) (p : Pl) (D1 D2 D3 : Option Addr) (m1 d1 m2 d2 m3 d3 : Nat) : Prop :=
  ∃ v1 v2 v3, v1 = Value.slice D1 m1 d1 ∧ v2 = .slice D2 m2 d2 ∧ v3 = .slice D3 m3 d3 ∧ OwnL scells 6 103 w base v1 p.loads ∧ OwnL scells 6 105 w base v2 p.stands ∧ OwnL scells 6 107 w base v3 p.spells
theorem own_far {α : Type} {f : α → List Value} {size : Nat} {e : TypeId} {w : World} {base : Nat} {v : Value} {xs : List α} (h : OwnL f size e w base v xs) (b i : Nat) (hb : b < base) (u : Value) : OwnL f size e (w.setCell ⟨b, i, none⟩ u) base v xs := by
  obtain ⟨h1, h2 | ⟨g, cap, cur, rfl, hb', hg, h4⟩⟩ := h
  · exact ⟨h1, .inl h2⟩
  · exact ⟨h1, .inr ⟨g, cap, cur, rfl, hb', (Below.heap_setCell w ⟨b, i, none⟩ u g (by dsimp only; omega)).trans hg, h4⟩⟩
theorem Ow.far {w : World} {base : Nat} {p : Pl} {D1 D2 D3 : Option Addr} {m1 d1 m2 d2 m3 d3 : Nat} (h : Ow w base p D1 D2 D3 m1 d1 m2 d2 m3 d3) (b i : Nat) (hb : b < base) (u : Value) : Ow (w.setCell ⟨b, i, none⟩ u) base p D1 D2 D3 m1 d1 m2 d2 m3 d3 := by
  obtain ⟨v1, v2, v3, e1, e2, e3, o1, o2, o3⟩ := h
  exact ⟨v1, v2, v3, e1, e2, e3, own_far o1 b i hb u, own_far o2 b i hb u, own_far o3 b i hb u⟩
theorem Ow.allo {w : World} {base : Nat} {p : Pl} {D1 D2 D3 : Option Addr} {m1 d1 m2 d2 m3 d3 : Nat} (h : Ow w base p D1 D2 D3 m1 d1 m2 d2 m3 d3) (o : Obj) : Ow (w.alloc o) base p D1 D2 D3 m1 d1 m2 d2 m3 d3 := by
  obtain ⟨v1, v2, v3, e1, e2, e3, o1, o2, o3⟩ := h
  exact ⟨v1, v2, v3, e1, e2, e3, o1.ext (one_more _ _), o2.ext (one_more _ _), o3.ext (one_more _ _)⟩
theorem Ow.pa {w : World} {base : Nat} {p : Pl} {D1 D2 D3 : Option Addr} {m1 d1 m2 d2 m3 d3 : Nat} (h : Ow w base p D1 D2 D3 m1 d1 m2 d2 m3 d3) : Pa w p D1 D2 D3 m1 d1 m2 d2 m3 d3 := by
  obtain ⟨v1, v2, v3, q1, q2, q3, o1, o2, o3⟩ := h
  obtain ⟨E1, x1, e1, k1, j1, l1, -⟩ := OwnL.arr kdL o1
  obtain ⟨E2, x2, e2, k2, j2, l2, -⟩ := OwnL.arr kdS o2
  obtain ⟨E3, x3, e3, k3, j3, l3, -⟩ := OwnL.arr kdP o3
  unfold maxLen at j1 j2 j3
  rw [q1] at e1; rw [q2] at e2; rw [q3] at e3
  cases e1; cases e2; cases e3
  exact ⟨l1, l2, l3, ⟨k1, Nat.le_trans k1 j1⟩, ⟨k2, Nat.le_trans k2 j2⟩, ⟨k3, Nat.le_trans k3 j3⟩⟩
def MadeEnd2 (r : Raw) (right : Bool) (w : World) (e : Ending) (w' : World) : Prop :=
  (∃ D1 d1 D2 d2 D3 d3 Dn dn m1 m2 m3 mn, e = .returned (.tuple #[plv (madeP r right) D1 D2 D3 m1 d1 m2 d2 m3 d3, .agg #[.int .i64 (r.sown % 200), .slice Dn mn dn]]) ∧ Ow w' w.heap.size (madeP r right) D1 D2 D3 m1 d1 m2 d2 m3 d3) ∧ Below w.heap.size w w'
theorem Ow.name {w : World} {base : Nat} {p : Pl} {D1 D2 D3 : Option Addr} {m1 d1 m2 d2 m3 d3 : Nat} (h : Ow w base p D1 D2 D3 m1 d1 m2 d2 m3 d3) (n : Nat) (e : base = n) : ∃ BB, BB = n ∧ Ow w BB p D1 D2 D3 m1 d1 m2 d2 m3 d3 := ⟨base, e, h⟩
theorem plb_set6 {V : World} {b : Nat} {c0 c1 c2 c3 c4 c5 : Value} (h : Blk V b 38 #[c0, c1, c2, c3, c4, c5]) (p : Pl) (D1 D2 D3 : Option Addr) (m1 d1 m2 d2 m3 d3 : Nat) :
    Blk ((((((V.setCell ⟨b, 0, none⟩ (.int .i64 p.lo)).setCell ⟨b, 1, none⟩ (.int .i64 p.hi)).setCell ⟨b, 2, none⟩ (.slice D1 m1 d1)).setCell ⟨b, 3, none⟩ (.slice D2 m2 d2)).setCell ⟨b, 4, none⟩ (.slice D3 m3 d3)).setCell ⟨b, 5, none⟩ (.int .i64 p.geese)) b 38 (plb p D1 D2 D3 m1 d1 m2 d2 m3 d3) := h.setAll6 _ _ _ _ _ _
theorem blk_snd (V : World) (o : Obj) (t : TypeId) (cs : Array Value) : Blk ((V.alloc o).alloc (.cells cs t)) (V.heap.size + 1) t cs := by
  have := Blk.new (V.alloc o) t cs
  rwa [World.size_alloc] at this
theorem plb_new (V : World) (p : Pl) (D1 D2 D3 : Option Addr) (m1 d1 m2 d2 m3 d3 : Nat) : Blk (V.alloc (.cells #[.int .i64 p.lo, .int .i64 p.hi, .slice D1 m1 d1, .slice D2 m2 d2, .slice D3 m3 d3, .int .i64 p.geese] 38)) V.heap.size 38 (plb p D1 D2 D3 m1 d1 m2 d2 m3 d3) := Blk.new _ _ _
theorem plb_newE (V : World) (p : Pl) (D1 D2 D3 : Option Addr) (m1 d1 m2 d2 m3 d3 : Nat) {b : Nat} (e : V.heap.size = b) : Blk (V.alloc (.cells #[.int .i64 p.lo, .int .i64 p.hi, .slice D1 m1 d1, .slice D2 m2 d2, .slice D3 m3 d3, .int .i64 p.geese] 38)) b 38 (plb p D1 D2 D3 m1 d1 m2 d2 m3 d3) := by subst e; exact Blk.new _ _ _
theorem plb_snd (V : World) (o : Obj) (p : Pl) (D1 D2 D3 : Option Addr) (m1 d1 m2 d2 m3 d3 : Nat) : Blk ((V.alloc o).alloc (.cells #[.int .i64 p.lo, .int .i64 p.hi, .slice D1 m1 d1, .slice D2 m2 d2, .slice D3 m3 d3, .int .i64 p.geese] 38)) (V.heap.size + 1) 38 (plb p D1 D2 D3 m1 d1 m2 d2 m3 d3) := blk_snd _ _ _ _
theorem made_call2 (r : Raw) (right : Bool) (A1 A2 A3 : Option Addr) (n1 c1 n2 c2 n3 c3 : Nat) (w : World) (h1 : Arr q4cells 4 w A1 n1 r.loads) (h2 : Arr q4cells 4 w A2 n2 r.stands) (h3 : Arr q4cells 4 w A3 n3 r.spells)
    (hn : n1 ≤ 9223372036854775807 ∧ n2 ≤ 9223372036854775807 ∧ n3 ≤ 9223372036854775807) (hr : RawOk r) :
    Calls Tryz.prog 15 #[.agg (rawv r A1 A2 A3 n1 c1 n2 c2 n3 c3), .bool right] w (MadeEnd2 r right w) := by
  refine (made_any r right A1 A2 A3 n1 c1 n2 c2 n3 c3 w h1 h2 h3 hn hr).mono ?_
  rintro e w' ⟨⟨v1, v2, v3, vn, rfl, o1, o2, o3, on⟩, hg⟩
  obtain ⟨D1, d1, e1, -⟩ := OwnL.arr kdL o1
  obtain ⟨D2, d2, e2, -⟩ := OwnL.arr kdS o2
  obtain ⟨D3, d3, e3, -⟩ := OwnL.arr kdP o3
  obtain ⟨Dn, dn, e4, -⟩ := OwnL.arr kdI on
  subst e1 e2 e3 e4
  exact ⟨⟨D1, d1, D2, d2, D3, d3, Dn, dn, _, _, _, _, rfl, _, _, _, rfl, rfl, rfl, o1, o2, o3⟩, hg⟩
theorem att_tru {p : Pl} {hour known : Int} (a : askE p [hour] known = 0) (high : Bool) : Tru (lookL p known every) (lookS p known every) (attS p hour known high) ∧ (attS p hour known high).getD (after (lookL p known every) hour) 0 = if high = true then (stoodR p hour known).hi else (stoodR p hour known).lo := by
  have hp := ask_parts a
  have hr := look_rw hp.1 hp.2.1
  have ha := after_len (lookL p known every) hour
  unfold attS
  rw [stoodR_of a]
  cases high
  · exact pick_tru hr.arc (fun i hi => (hr.wid i hi).2) hr.snd ha (Int.le_refl _) (hr.snd _ ha)
  · exact pick_tru hr.arc (fun i hi => (hr.wid i hi).2) hr.snd ha (hr.snd _ ha) (Int.le_refl _)
theorem att_bd {p : Pl} {hour known : Int} (a : askE p [hour] known = 0) (high : Bool) : ∀ x ∈ pickC p known (attS p hour known high), -9223372036854775808 ≤ x ∧ x ≤ 9223372036854775807 := by
  have hp := ask_parts a
  have hr := look_rw hp.1 hp.2.1
  have ht := (att_tru a high).1
  have hb : ∀ i, 0 ≤ (attS p hour known high).getD i 0 ∧ (attS p hour known high).getD i 0 ≤ 10000 := fun i => by
    by_cases hi : i ≤ (lookL p known every).length
    · have h1 := ht.2.2 i hi
      have h2 := hr.pos i hi
      have h3 := look_hi hp.1 known every hi
      omega
    · rw [List.getD_eq_getElem?_getD, List.getElem?_eq_none (by rw [ht.1]; omega)]
      exact ⟨Int.le_refl _, by decide⟩
  intro x hx
  unfold pickC at hx
  obtain ⟨y, -, rfl⟩ := List.mem_map.1 hx
  have h1 := hb (srcIx (lookL p known every) y.a)
  have h2 := hb (srcIx (lookL p known every) y.a + 1)
  omega
theorem att_left {p : Pl} {hour known : Int} (a : askE p [hour] known = 0) (hf : firstE p [hour] [known] = 0) (high : Bool) : leftE p [hour] known ((attS p hour known high).getD 0 0) (pickC p known (attS p hour known high)) = 0 ∧
    leftV p hour known ((attS p hour known high).getD 0 0) (pickC p known (attS p hour known high)) = if high = true then (stoodR p hour known).hi else (stoodR p hour known).lo := by
  have hp := ask_parts a
  have ht := att_tru a high
  have h1 : leftE p [hour] known ((attS p hour known high).getD 0 0) (pickC p known (attS p hour known high)) = 0 := by
    unfold leftE
    rw [if_pos hf, pick_truth hp.1 ht.1]
    rfl
  refine ⟨h1, ?_⟩
  unfold leftV
  rw [if_pos h1, pick_truS hp.1 ht.1.1]
  exact ht.2
set_option maxRecDepth 100000 in
set_option maxHeartbeats 16000000 in
theorem law10_any (r : Raw) (A1 A2 A3 : Option Addr) (n1 c1 n2 c2 n3 c3 : Nat) (x y : Int) (w : World) (h1 : Arr q4cells 4 w A1 n1 r.loads) (h2 : Arr q4cells 4 w A2 n2 r.stands) (h3 : Arr q4cells 4 w A3 n3 r.spells)
    (hn : n1 ≤ 9223372036854775807 ∧ n2 ≤ 9223372036854775807 ∧ n3 ≤ 9223372036854775807) (hr : RawOk r) (_ix : I64 x) (_iy : I64 y) :
    Calls Tryz.prog 10 #[.agg (rawv r A1 A2 A3 n1 c1 n2 c2 n3 c3), .agg #[.int .i64 x, .int .i64 y]] w fun e w' => e = .returned (.bool true) ∧ Below w.heap.size w w' := by
  have H1 := Lib.hid h1
  have H2 := Lib.hid h2
  have H3 := Lib.hid h3
  have HN := Lib.hid hn
  have HR := Lib.hid hr
  clear h1 h2 h3 hn hr
  obtain ⟨W1, hW1⟩ : ∃ W1, (w.alloc (.cells (rawv r A1 A2 A3 n1 c1 n2 c2 n3 c3) 24)).alloc (.cells #[.int .i64 x, .int .i64 y] 85) = W1 := ⟨_, rfl⟩
  have G1 := Lib.hid (show Below w.heap.size w W1 by rw [← hW1]; exact two_more _ _ _)
  have B2 := Lib.hid (show Blk W1 w.heap.size 24 (rawv r A1 A2 A3 n1 c1 n2 c2 n3 c3) by rw [← hW1]; exact (Blk.new _ _ _).alloc _)
  have B3 := Lib.hid (show Blk W1 (w.heap.size + 1) 85 #[.int .i64 x, .int .i64 y] by rw [← hW1]; have := Blk.new (w.alloc (.cells (rawv r A1 A2 A3 n1 c1 n2 c2 n3 c3) 24)) 85 #[.int .i64 x, .int .i64 y]; rwa [World.size_alloc] at this)
  have HW1 := Lib.hid hW1
  clear hW1
  obtain ⟨t3, ht3⟩ : ∃ t, y % 3 = t := ⟨_, rfl⟩
  obtain ⟨rb, hrb⟩ : ∃ b, decide (0 < t3) = b := ⟨_, rfl⟩
  have ht30 : 0 ≤ t3 := by omega
  obtain ⟨P, hP⟩ : ∃ P, madeP r rb = P := ⟨_, rfl⟩
  have H19 := Lib.hid (show P.loads.length ≤ 19 by rw [← hP]; exact made_19 r rb)
  obtain ⟨hh, hhh⟩ : ∃ h, 15 + x % 130 = h := ⟨_, rfl⟩
  have hh0 : 15 ≤ hh := by omega
  have hh1 : hh ≤ 144 := by omega
  obtain ⟨kn, hkn⟩ : ∃ h, y % 24 = h := ⟨_, rfl⟩
  have hk0 : 0 ≤ kn := by omega
  have hk1 : kn ≤ 23 := by omega
  have HT3 := Lib.hid ht3
  have HRB := Lib.hid hrb
  have HP := Lib.hid hP
  have HHH := Lib.hid hhh
  have HKN := Lib.hid hkn
  clear ht3 hrb hP hhh hkn
  have TM := Lib.hid (fun n m V h0 h1 => mod_any n m V h0 h1)
  go_enter Tryz.func10, Tryz.ntmps10
  go_upto_region 1 with fail
  rw [HW1.out]
  have kb3_0 := B3.out.cell 0
  have kb3_1 := B3.out.cell 1
  have kb2_0 := B2.out.cell 0
  have kb2_1 := B2.out.cell 1
  have kb2_2 := B2.out.cell 2
  have kb2_3 := B2.out.cell 3
  have kb2_4 := B2.out.cell 4
  go_upto_region 2 with (go_at_call 34; (with_reducible refine (sane_any _).mono ?_); rintro e V2 ⟨rfl, hg⟩)
  clear kb3_0 kb3_1 kb2_0 kb2_1 kb2_2 kb2_3 kb2_4
  have G2 := Lib.hid (G1.out.trans (hg.mono G1.out.size))
  have B3 := Lib.hid (B3.out.ext hg)
  have B2 := Lib.hid (B2.out.ext hg)
  clear hg
  have kb3_0 := B3.out.cell 0
  have kb3_1 := B3.out.cell 1
  have kb2_0 := B2.out.cell 0
  have kb2_1 := B2.out.cell 1
  have kb2_2 := B2.out.cell 2
  have kb2_3 := B2.out.cell 3
  have kb2_4 := B2.out.cell 4
  have HMD := Lib.hid (fun X (g : Below V2.heap.size V2 X) => made_call2 r rb A1 A2 A3 n1 c1 n2 c2 n3 c3 X (H1.out.below (G2.out.trans (g.mono G2.out.size))) (H2.out.below (G2.out.trans (g.mono G2.out.size))) (H3.out.below (G2.out.trans (g.mono G2.out.size))) HN.out HR.out)
  have HKP := Lib.hid (fun X (g : Below V2.heap.size V2 X) => (⟨(B2.out.ext g).cell 0, (B2.out.ext g).cell 1, (B2.out.ext g).cell 2, (B2.out.ext g).cell 3, (B2.out.ext g).cell 4, (B3.out.ext g).cell 1⟩ : X.cell? ⟨w.heap.size, 0, none⟩ = some (.int .i64 r.sown) ∧ X.cell? ⟨w.heap.size, 1, none⟩ = some (.int .i64 r.geese) ∧ X.cell? ⟨w.heap.size, 2, none⟩ = some (.slice A1 n1 c1) ∧ X.cell? ⟨w.heap.size, 3, none⟩ = some (.slice A2 n2 c2) ∧ X.cell? ⟨w.heap.size, 4, none⟩ = some (.slice A3 n3 c3) ∧ X.cell? ⟨w.heap.size + 1, 1, none⟩ = some (.int .i64 y)))
  have HTM := Lib.hid (fun X => show Calls Tryz.prog 17 #[.int .i64 y, .int .i64 3] X fun e w' => e = .returned (.int .i64 t3) ∧ X = w' from by rw [← HT3.out]; exact TM.out y 3 X (by omega) (by omega))
  have hrb := HRB.out
  go_cut [6, 7] from 25 to 33 (fun s6 s7 wx => ∃ b6 b7 D1 d1 D2 d2 D3 d3 m1 m2 m3, s6 = .pointer (some ⟨b6, 0, none⟩) ∧ s7 = .pointer (some ⟨b7, 0, none⟩) ∧ Below V2.heap.size V2 wx ∧ Blk wx b6 38 (plb (madeP r rb) D1 D2 D3 m1 d1 m2 d2 m3 d3) ∧ Pa wx (madeP r rb) D1 D2 D3 m1 d1 m2 d2 m3 d3)
  case first =>
    go_region_held3 (fun X => X.cell? ⟨w.heap.size, 0, none⟩ = some (.int .i64 r.sown) ∧ X.cell? ⟨w.heap.size, 1, none⟩ = some (.int .i64 r.geese) ∧ X.cell? ⟨w.heap.size, 2, none⟩ = some (.slice A1 n1 c1) ∧ X.cell? ⟨w.heap.size, 3, none⟩ = some (.slice A2 n2 c2) ∧ X.cell? ⟨w.heap.size, 4, none⟩ = some (.slice A3 n3 c3) ∧ X.cell? ⟨w.heap.size + 1, 1, none⟩ = some (.int .i64 y))
      (with_reducible refine HKP.out _ ?_; repeat' first | (with_reducible exact Below.refl _ _) | (with_reducible exact G9.out) | (with_reducible refine Below.drew ?_) | (with_reducible refine Below.allo ?_ (by first | (simp; done) | (simp; omega) | omega) _) | (with_reducible refine Below.setCell ?_ (by dsimp only; omega) _))
      (first
        | (go_at_call 17; (with_reducible refine (HTM.out _).mono ?_); rintro e w' ⟨rfl, rfl⟩)
        | (go_at_call 15; (with_reducible refine (HMD.out _ (Below.refl _ _).drew).mono ?_); rintro e V9 ⟨⟨D1, d1, D2, d2, D3, d3, Dn, dn, m1, m2, m3, mn, rfl, hpa⟩, hg⟩; obtain ⟨BB, hBB, hpa⟩ := hpa.name (V2.heap.size + 0) (by first | rfl | (simp; done) | (simp; omega)); have HPA9 := Lib.hid hpa; have G9 := Lib.hid (show Below V2.heap.size V2 V9 from (Below.refl V2.heap.size V2).drew.trans hg); clear hpa hg; have hv9 : V2.heap.size ≤ V9.heap.size := G9.out.size)
        | (go_at_call 15; (with_reducible refine (HMD.out _ (one_more _ (.cells #[.int .i64 0, .int .i64 0, .slice none 0 0, .slice none 0 0, .slice none 0 0, .int .i64 0] 38)).drew).mono ?_); rintro e V9 ⟨⟨D1, d1, D2, d2, D3, d3, Dn, dn, m1, m2, m3, mn, rfl, hpa⟩, hg⟩; obtain ⟨BB, hBB, hpa⟩ := hpa.name (V2.heap.size + 1) (by first | rfl | (simp; done) | (simp; omega)); have HPA9 := Lib.hid hpa; have G9 := Lib.hid (show Below V2.heap.size V2 V9 from (one_more V2 (.cells #[.int .i64 0, .int .i64 0, .slice none 0 0, .slice none 0 0, .slice none 0 0, .int .i64 0] 38)).drew.trans (hg.mono (by simp))); have KA := Lib.hid ((Blk.new V2 38 #[.int .i64 0, .int .i64 0, .slice none 0 0, .slice none 0 0, .slice none 0 0, .int .i64 0]).drew_.ext hg); clear hpa hg; have hv9 : V2.heap.size ≤ V9.heap.size := G9.out.size; have hza := KA.out.lt; have ya0 := KA.out.cell 0; have ya1 := KA.out.cell 1; have ya2 := KA.out.cell 2; have ya3 := KA.out.cell 3; have ya4 := KA.out.cell 4; have ya5 := KA.out.cell 5; have yb0 := KA.out.frozen 0; have yb1 := KA.out.frozen 1; have yb2 := KA.out.frozen 2; have yb3 := KA.out.frozen 3; have yb4 := KA.out.frozen 4; have yb5 := KA.out.frozen 5)
        | (go_at_call 15; (with_reducible refine (HMD.out _ (one_more _ (.cells #[.int .i64 0, .slice none 0 0] 41)).drew).mono ?_); rintro e V9 ⟨⟨D1, d1, D2, d2, D3, d3, Dn, dn, m1, m2, m3, mn, rfl, hpa⟩, hg⟩; obtain ⟨BB, hBB, hpa⟩ := hpa.name (V2.heap.size + 1) (by first | rfl | (simp; done) | (simp; omega)); have HPA9 := Lib.hid hpa; have G9 := Lib.hid (show Below V2.heap.size V2 V9 from (one_more V2 (.cells #[.int .i64 0, .slice none 0 0] 41)).drew.trans (hg.mono (by simp))); have KB := Lib.hid ((Blk.new V2 41 #[.int .i64 0, .slice none 0 0]).drew_.ext hg); clear hpa hg; have hv9 : V2.heap.size ≤ V9.heap.size := G9.out.size; have hzb := KB.out.lt; have yc0 := KB.out.cell 0; have yc1 := KB.out.cell 1; have yd0 := KB.out.frozen 0; have yd1 := KB.out.frozen 1)
        | (go_at_call 15; (with_reducible refine (HMD.out _ (two_more _ (.cells #[.int .i64 0, .int .i64 0, .slice none 0 0, .slice none 0 0, .slice none 0 0, .int .i64 0] 38) (.cells #[.int .i64 0, .slice none 0 0] 41)).drew).mono ?_); rintro e V9 ⟨⟨D1, d1, D2, d2, D3, d3, Dn, dn, m1, m2, m3, mn, rfl, hpa⟩, hg⟩; obtain ⟨BB, hBB, hpa⟩ := hpa.name (V2.heap.size + 2) (by first | rfl | (simp; done) | (simp; omega)); have HPA9 := Lib.hid hpa; have G9 := Lib.hid (show Below V2.heap.size V2 V9 from (two_more V2 (.cells #[.int .i64 0, .int .i64 0, .slice none 0 0, .slice none 0 0, .slice none 0 0, .int .i64 0] 38) (.cells #[.int .i64 0, .slice none 0 0] 41)).drew.trans (hg.mono (by simp; omega))); have KA := Lib.hid (((Blk.new V2 38 #[.int .i64 0, .int .i64 0, .slice none 0 0, .slice none 0 0, .slice none 0 0, .int .i64 0]).alloc (.cells #[.int .i64 0, .slice none 0 0] 41)).drew_.ext hg); have KB := Lib.hid (blk_two2 hg); clear hpa hg; have hv9 : V2.heap.size ≤ V9.heap.size := G9.out.size; have hza := KA.out.lt; have ya0 := KA.out.cell 0; have ya1 := KA.out.cell 1; have ya2 := KA.out.cell 2; have ya3 := KA.out.cell 3; have ya4 := KA.out.cell 4; have ya5 := KA.out.cell 5; have yb0 := KA.out.frozen 0; have yb1 := KA.out.frozen 1; have yb2 := KA.out.frozen 2; have yb3 := KA.out.frozen 3; have yb4 := KA.out.frozen 4; have yb5 := KA.out.frozen 5; have hzb := KB.out.lt; have yc0 := KB.out.cell 0; have yc1 := KB.out.cell 1; have yd0 := KB.out.frozen 0; have yd1 := KB.out.frozen 1)
        | (go_at_call 15; (with_reducible refine (HMD.out _ (two_more _ (.cells #[.int .i64 0, .slice none 0 0] 41) (.cells #[.int .i64 0, .int .i64 0, .slice none 0 0, .slice none 0 0, .slice none 0 0, .int .i64 0] 38)).drew).mono ?_); rintro e V9 ⟨⟨D1, d1, D2, d2, D3, d3, Dn, dn, m1, m2, m3, mn, rfl, hpa⟩, hg⟩; obtain ⟨BB, hBB, hpa⟩ := hpa.name (V2.heap.size + 2) (by first | rfl | (simp; done) | (simp; omega)); have HPA9 := Lib.hid hpa; have G9 := Lib.hid (show Below V2.heap.size V2 V9 from (two_more V2 (.cells #[.int .i64 0, .slice none 0 0] 41) (.cells #[.int .i64 0, .int .i64 0, .slice none 0 0, .slice none 0 0, .slice none 0 0, .int .i64 0] 38)).drew.trans (hg.mono (by simp; omega))); have KB := Lib.hid (((Blk.new V2 41 #[.int .i64 0, .slice none 0 0]).alloc (.cells #[.int .i64 0, .int .i64 0, .slice none 0 0, .slice none 0 0, .slice none 0 0, .int .i64 0] 38)).drew_.ext hg); have KA := Lib.hid (blk_two2 hg); clear hpa hg; have hv9 : V2.heap.size ≤ V9.heap.size := G9.out.size; have hza := KA.out.lt; have ya0 := KA.out.cell 0; have ya1 := KA.out.cell 1; have ya2 := KA.out.cell 2; have ya3 := KA.out.cell 3; have ya4 := KA.out.cell 4; have ya5 := KA.out.cell 5; have yb0 := KA.out.frozen 0; have yb1 := KA.out.frozen 1; have yb2 := KA.out.frozen 2; have yb3 := KA.out.frozen 3; have yb4 := KA.out.frozen 4; have yb5 := KA.out.frozen 5; have hzb := KB.out.lt; have yc0 := KB.out.cell 0; have yc1 := KB.out.cell 1; have yd0 := KB.out.frozen 0; have yd1 := KB.out.frozen 1))
    all_goals (try go_wp2_with fail)
    all_goals go_meet
    all_goals (refine ⟨_, _, D1, d1, D2, d2, D3, d3, m1, m2, m3, rfl, rfl, ?_, ?_, ?_⟩)
    all_goals (repeat' first | (with_reducible exact Below.refl _ _) | (with_reducible exact G9.out) | (with_reducible refine Below.drew ?_) | (with_reducible refine Below.allo ?_ (by first | (simp; done) | (simp; omega) | omega) _) | (with_reducible refine Below.setCell ?_ (by dsimp only; omega) _) | (with_reducible exact Blk.new _ _ _) | (with_reducible exact plb_new _ _ _ _ _ _ _ _ _ _ _) | (with_reducible exact plb_snd _ _ _ _ _ _ _ _ _ _ _ _) | (with_reducible exact plb_set6 KA.out _ _ _ _ _ _ _ _ _ _) | (with_reducible refine plb_newE _ _ _ _ _ _ _ _ _ _ _ (by first | (simp; done) | (simp; omega))) | (with_reducible refine Blk.alloc ?_ _) | (with_reducible refine Blk.far_ ?_ _ _ (by first | (simp; done) | (simp; omega) | omega) _) | (with_reducible refine Ow.pa (base := BB) ?_) | (with_reducible exact HPA9.out) | (with_reducible refine Ow.allo ?_ _) | (with_reducible refine Ow.far ?_ _ _ (by first | (simp; done) | (simp; omega) | omega) _))
  case rest =>
    obtain ⟨b6, b7, D1, d1, D2, d2, D3, d3, m1, m2, m3, rfl, rfl, hg, hb6, hpa⟩ := hcut
    rw [HP.out] at hb6 hpa
    obtain ⟨V3, rfl⟩ : ∃ V : World, V = wc := ⟨_, rfl⟩
    have G3 := Lib.hid (G2.out.trans (hg.mono G2.out.size))
    have B3 := Lib.hid (B3.out.ext hg)
    have BP := Lib.hid hb6
    have HPA := Lib.hid hpa
    clear hb6 hpa hg kb3_0 kb3_1 kb2_0 kb2_1 kb2_2 kb2_3 kb2_4
    clear HMD HKP HTM
    have hok : okPl P = true := by rw [← HP.out]; exact made_ok r rb
    have f1 : firstE P [hh] [kn] = 0 := first_of hok (fun h hh' => by rw [List.mem_singleton.1 hh']; omega) (by omega) (by omega)
    have f0 : firstE P [] [kn] = 0 := first_of hok (fun h hh => (by cases hh)) (by omega) (by omega)
    have kb3_0 := B3.out.cell 0
    have kb3_1 := B3.out.cell 1
    go_upto_region 4 with (first | (go_at_call 17; (with_reducible refine (TM.out _ _ _ (by omega) (by omega)).mono ?_); rintro e w' ⟨rfl, rfl⟩))
    rw [HHH.out]
    go_upto_region 5 with (first | (go_at_call 17; (with_reducible refine (TM.out _ _ _ (by omega) (by omega)).mono ?_); rintro e w' ⟨rfl, rfl⟩))
    rw [HKN.out]
    clear kb3_0 kb3_1
    by_cases hs : sound (lookS P kn every) = true
    · have a : askE P [hh] kn = 0 := by unfold askE; rw [if_pos f1, hs]; rfl
      have T37 := Lib.hid (fun W (hp : Pa W P D1 D2 D3 m1 d1 m2 d2 m3 d3) => (soundP_any P D1 D2 D3 m1 d1 m2 d2 m3 d3 kn W hp H19.out))
      have T35 := Lib.hid (fun W (hp : Pa W P D1 D2 D3 m1 d1 m2 d2 m3 d3) => (stood_any P D1 D2 D3 m1 d1 m2 d2 m3 d3 hh kn W hp H19.out))
      have T36 := Lib.hid (fun W (hp : Pa W P D1 D2 D3 m1 d1 m2 d2 m3 d3) => (clear_any P D1 D2 D3 m1 d1 m2 d2 m3 d3 hh kn W hp H19.out))
      have T22 := Lib.hid (fun high W (hp : Pa W P D1 D2 D3 m1 d1 m2 d2 m3 d3) => (attain_any P D1 D2 D3 m1 d1 m2 d2 m3 d3 hh kn high W hp H19.out))
      unfold AttEnd at T22
      have hsb : soundB P kn = true := by unfold soundB; rw [if_pos f0, hs]
      rw [hsb, f0] at T37
      rw [a] at T35 T36 T22
      obtain ⟨⟨s0, s1⟩, hst⟩ : ∃ s, stoodR P hh kn = s := ⟨_, rfl⟩
      obtain ⟨ca, hca⟩ : ∃ c, clearA P hh kn = c := ⟨_, rfl⟩
      rw [hst] at T35
      rw [hca] at T36
      have hbd := stoodR_bd a
      have hcs := clearA_of a
      have hl0 := att_left a f1 false
      have hl1 := att_left a f1 true
      rw [hst] at hbd hcs hl0 hl1
      rw [hca] at hcs
      rw [if_neg (by decide)] at hl0
      rw [if_pos rfl] at hl1
      dsimp only at hbd hl0 hl1
      have HI0 := Lib.hid (att_bd a false)
      have HI1 := Lib.hid (att_bd a true)
      obtain ⟨t0, ht0⟩ : ∃ v, (attS P hh kn false).getD 0 0 = v := ⟨_, rfl⟩
      obtain ⟨t1, ht1⟩ : ∃ v, (attS P hh kn true).getD 0 0 = v := ⟨_, rfl⟩
      obtain ⟨l0, hl⟩ : ∃ v, pickC P kn (attS P hh kn false) = v := ⟨_, rfl⟩
      obtain ⟨l1, hl'⟩ : ∃ v, pickC P kn (attS P hh kn true) = v := ⟨_, rfl⟩
      rw [ht0, hl] at hl0
      rw [ht1, hl'] at hl1
      have T220 := Lib.hid (T22.out false)
      have T221 := Lib.hid (T22.out true)
      rw [ht0, hl] at T220
      rw [ht1, hl'] at T221
      rw [hl] at HI0
      rw [hl'] at HI1
      have T190 := Lib.hid (fun N nn cn W (hp : Pa W P D1 D2 D3 m1 d1 m2 d2 m3 d3) (hi : Ints W N nn l0) hn => left_any P D1 D2 D3 m1 d1 m2 d2 m3 d3 hh kn N nn cn l0 t0 W hp H19.out hi HI0.out hn)
      have T191 := Lib.hid (fun N nn cn W (hp : Pa W P D1 D2 D3 m1 d1 m2 d2 m3 d3) (hi : Ints W N nn l1) hn => left_any P D1 D2 D3 m1 d1 m2 d2 m3 d3 hh kn N nn cn l1 t1 W hp H19.out hi HI1.out hn)
      rw [hl0.1, hl0.2] at T190
      rw [hl1.1, hl1.2] at T191
      have hb0 := hbd.1
      have hb1 := hbd.2.1
      have hb2 := hbd.2.2
      have HCS := Lib.hid hcs
      clear T22 hl0 hl1 ht0 ht1 hl hl' hbd hcs
      clear a hst hca
      have kbp_0 := BP.out.cell 0
      have kbp_1 := BP.out.cell 1
      have kbp_2 := BP.out.cell 2
      have kbp_3 := BP.out.cell 3
      have kbp_4 := BP.out.cell 4
      have kbp_5 := BP.out.cell 5
      go_upto_region 6 with (go_at_call 37; (with_reducible refine (T37.out _ HPA.out).mono ?_); rintro e V4 ⟨rfl, hg⟩)
      clear kbp_0 kbp_1 kbp_2 kbp_3 kbp_4 kbp_5
      have G4 := Lib.hid (G3.out.trans (hg.mono G3.out.size))
      have BP := Lib.hid (BP.out.ext hg)
      have HPA := Lib.hid (HPA.out.below hg)
      clear hg
      have kbp_0 := BP.out.cell 0
      have kbp_1 := BP.out.cell 1
      have kbp_2 := BP.out.cell 2
      have kbp_3 := BP.out.cell 3
      have kbp_4 := BP.out.cell 4
      have kbp_5 := BP.out.cell 5
      go_upto_region 7 with (go_at_call 35; (with_reducible refine (T35.out _ HPA.out).mono ?_); rintro e V5 ⟨rfl, hg⟩)
      clear kbp_0 kbp_1 kbp_2 kbp_3 kbp_4 kbp_5
      obtain ⟨W5, hW5⟩ : ∃ W, (V5.alloc (.cells (#[.int .i64 s0, .int .i64 s1]) 33)) = W := ⟨_, rfl⟩
      have ga : Below V5.heap.size V5 W5 := by rw [← hW5]; exact one_more _ _
      have gb := hg.trans (ga.mono hg.size)
      have G5 := Lib.hid (G4.out.trans (gb.mono G4.out.size))
      have BP := Lib.hid (BP.out.ext gb)
      have HPA := Lib.hid (HPA.out.below gb)
      have BS := Lib.hid (show Blk W5 (V5.heap.size) 33 (#[.int .i64 s0, .int .i64 s1]) by rw [← hW5]; exact Blk.new _ _ _)
      rw [hW5]
      clear hg ga gb hW5
      have kbp_0 := BP.out.cell 0
      have kbp_1 := BP.out.cell 1
      have kbp_2 := BP.out.cell 2
      have kbp_3 := BP.out.cell 3
      have kbp_4 := BP.out.cell 4
      have kbp_5 := BP.out.cell 5
      have kbs_0 := BS.out.cell 0
      have kbs_1 := BS.out.cell 1
      go_upto_region 8 with (go_at_call 36; (with_reducible refine (T36.out _ HPA.out).mono ?_); rintro e V6 ⟨rfl, hg⟩)
      clear kbp_0 kbp_1 kbp_2 kbp_3 kbp_4 kbp_5 kbs_0 kbs_1
      have G6 := Lib.hid (G5.out.trans (hg.mono G5.out.size))
      have BP := Lib.hid (BP.out.ext hg)
      have BS := Lib.hid (BS.out.ext hg)
      have HPA := Lib.hid (HPA.out.below hg)
      clear hg
      have kbp_0 := BP.out.cell 0
      have kbp_1 := BP.out.cell 1
      have kbp_2 := BP.out.cell 2
      have kbp_3 := BP.out.cell 3
      have kbp_4 := BP.out.cell 4
      have kbp_5 := BP.out.cell 5
      have kbs_0 := BS.out.cell 0
      have kbs_1 := BS.out.cell 1
      go_upto_region 9 with (go_at_call 22; (with_reducible refine (T220.out _ HPA.out).mono ?_); rintro e V7 ⟨⟨sv, v, rfl, h0, -⟩, hg⟩; obtain ⟨e0, ho⟩ := h0 (by first | rfl | trivial); rw [e0]; clear e0; obtain ⟨N0, cn0, rfl, hk, hq, hin, -⟩ := OwnL.arr kdI ho; have HI9 := Lib.hid hin; have HQ9 := Lib.hid (Nat.le_trans hk hq); clear h0 ho hin hq hk)
      clear kbp_0 kbp_1 kbp_2 kbp_3 kbp_4 kbp_5 kbs_0 kbs_1
      obtain ⟨W7, hW7⟩ : ∃ W, (V7.alloc (.cells (#[.int .i64 t0, .slice N0 l0.length cn0]) 41)) = W := ⟨_, rfl⟩
      have ga : Below V7.heap.size V7 W7 := by rw [← hW7]; exact one_more _ _
      have gb := hg.trans (ga.mono hg.size)
      have G7 := Lib.hid (G6.out.trans (gb.mono G6.out.size))
      have BP := Lib.hid (BP.out.ext gb)
      have BS := Lib.hid (BS.out.ext gb)
      have HPA := Lib.hid (HPA.out.below gb)
      have HI9 := Lib.hid (HI9.out.below ga)
      have BA := Lib.hid (show Blk W7 (V7.heap.size) 41 (#[.int .i64 t0, .slice N0 l0.length cn0]) by rw [← hW7]; exact Blk.new _ _ _)
      rw [hW7]
      clear hg ga gb hW7
      have kbp_0 := BP.out.cell 0
      have kbp_1 := BP.out.cell 1
      have kbp_2 := BP.out.cell 2
      have kbp_3 := BP.out.cell 3
      have kbp_4 := BP.out.cell 4
      have kbp_5 := BP.out.cell 5
      have kbs_0 := BS.out.cell 0
      have kbs_1 := BS.out.cell 1
      have kba_0 := BA.out.cell 0
      have kba_1 := BA.out.cell 1
      go_upto_region 10 with (go_at_call 22; (with_reducible refine (T221.out _ HPA.out).mono ?_); rintro e V8 ⟨⟨sv, v, rfl, h0, -⟩, hg⟩; obtain ⟨e0, ho⟩ := h0 (by first | rfl | trivial); rw [e0]; clear e0; obtain ⟨N1, cn1, rfl, hk, hq, hin, -⟩ := OwnL.arr kdI ho; have HJ9 := Lib.hid hin; have HQ8 := Lib.hid (Nat.le_trans hk hq); clear h0 ho hin hq hk)
      clear kbp_0 kbp_1 kbp_2 kbp_3 kbp_4 kbp_5 kbs_0 kbs_1 kba_0 kba_1
      obtain ⟨W8, hW8⟩ : ∃ W, (V8.alloc (.cells (#[.int .i64 t1, .slice N1 l1.length cn1]) 41)) = W := ⟨_, rfl⟩
      have ga : Below V8.heap.size V8 W8 := by rw [← hW8]; exact one_more _ _
      have gb := hg.trans (ga.mono hg.size)
      have G8 := Lib.hid (G7.out.trans (gb.mono G7.out.size))
      have BP := Lib.hid (BP.out.ext gb)
      have BS := Lib.hid (BS.out.ext gb)
      have BA := Lib.hid (BA.out.ext gb)
      have HPA := Lib.hid (HPA.out.below gb)
      have HI9 := Lib.hid (HI9.out.below gb)
      have HJ9 := Lib.hid (HJ9.out.below ga)
      have BB := Lib.hid (show Blk W8 (V8.heap.size) 41 (#[.int .i64 t1, .slice N1 l1.length cn1]) by rw [← hW8]; exact Blk.new _ _ _)
      rw [hW8]
      clear hg ga gb hW8
      have kbp_0 := BP.out.cell 0
      have kbp_1 := BP.out.cell 1
      have kbp_2 := BP.out.cell 2
      have kbp_3 := BP.out.cell 3
      have kbp_4 := BP.out.cell 4
      have kbp_5 := BP.out.cell 5
      have kbs_0 := BS.out.cell 0
      have kbs_1 := BS.out.cell 1
      have kba_0 := BA.out.cell 0
      have kba_1 := BA.out.cell 1
      have kbb_0 := BB.out.cell 0
      have kbb_1 := BB.out.cell 1
      go_upto_region 14 with fail
      clear kbp_0 kbp_1 kbp_2 kbp_3 kbp_4 kbp_5 kbs_0 kbs_1 kba_0 kba_1 kbb_0 kbb_1
      have HNL0 := Lib.hid (show l0.length ≤ 9223372036854775807 by have := HQ9.out; unfold maxLen at this; exact this)
      have HNL1 := Lib.hid (show l1.length ≤ 9223372036854775807 by have := HQ8.out; unfold maxLen at this; exact this)
      have kbp_0 := BP.out.cell 0
      have kbp_1 := BP.out.cell 1
      have kbp_2 := BP.out.cell 2
      have kbp_3 := BP.out.cell 3
      have kbp_4 := BP.out.cell 4
      have kbp_5 := BP.out.cell 5
      have kbs_0 := BS.out.cell 0
      have kbs_1 := BS.out.cell 1
      have kba_0 := BA.out.cell 0
      have kba_1 := BA.out.cell 1
      have kbb_0 := BB.out.cell 0
      have kbb_1 := BB.out.cell 1
      go_upto_region 15 with (go_at_call 19; (with_reducible refine (T190.out _ _ _ _ HPA.out HI9.out HNL0.out).mono ?_); rintro e V9 ⟨rfl, hg⟩)
      clear kbp_0 kbp_1 kbp_2 kbp_3 kbp_4 kbp_5 kbs_0 kbs_1 kba_0 kba_1 kbb_0 kbb_1
      have G9 := Lib.hid (G8.out.trans (hg.mono G8.out.size))
      have BP := Lib.hid (BP.out.ext hg)
      have BS := Lib.hid (BS.out.ext hg)
      have BA := Lib.hid (BA.out.ext hg)
      have BB := Lib.hid (BB.out.ext hg)
      have HPA := Lib.hid (HPA.out.below hg)
      have HI9 := Lib.hid (HI9.out.below hg)
      have HJ9 := Lib.hid (HJ9.out.below hg)
      clear hg
      have kbp_0 := BP.out.cell 0
      have kbp_1 := BP.out.cell 1
      have kbp_2 := BP.out.cell 2
      have kbp_3 := BP.out.cell 3
      have kbp_4 := BP.out.cell 4
      have kbp_5 := BP.out.cell 5
      have kbs_0 := BS.out.cell 0
      have kbs_1 := BS.out.cell 1
      have kba_0 := BA.out.cell 0
      have kba_1 := BA.out.cell 1
      have kbb_0 := BB.out.cell 0
      have kbb_1 := BB.out.cell 1
      go_upto_region 16 with (go_at_call 19; (with_reducible refine (T191.out _ _ _ _ HPA.out HJ9.out HNL1.out).mono ?_); rintro e V10 ⟨rfl, hg⟩)
      clear kbp_0 kbp_1 kbp_2 kbp_3 kbp_4 kbp_5 kbs_0 kbs_1 kba_0 kba_1 kbb_0 kbb_1
      have G10 := Lib.hid (G9.out.trans (hg.mono G9.out.size))
      have BP := Lib.hid (BP.out.ext hg)
      have BS := Lib.hid (BS.out.ext hg)
      have BA := Lib.hid (BA.out.ext hg)
      have BB := Lib.hid (BB.out.ext hg)
      have HPA := Lib.hid (HPA.out.below hg)
      have HI9 := Lib.hid (HI9.out.below hg)
      have HJ9 := Lib.hid (HJ9.out.below hg)
      clear hg
      have e1 : decide (s1 < s0) = false := decide_eq_false (by omega)
      have kbp_0 := BP.out.cell 0
      have kbp_1 := BP.out.cell 1
      have kbp_2 := BP.out.cell 2
      have kbp_3 := BP.out.cell 3
      have kbp_4 := BP.out.cell 4
      have kbp_5 := BP.out.cell 5
      have kbs_0 := BS.out.cell 0
      have kbs_1 := BS.out.cell 1
      have kba_0 := BA.out.cell 0
      have kba_1 := BA.out.cell 1
      have kbb_0 := BB.out.cell 0
      have kbb_1 := BB.out.cell 1
      go_upto_region 18 with fail
      clear kbp_0 kbp_1 kbp_2 kbp_3 kbp_4 kbp_5 kbs_0 kbs_1 kba_0 kba_1 kbb_0 kbb_1
      have hcs := HCS.out
      unfold clearS ans at hcs
      dsimp only at hcs
      rcases (by omega : (s1 = 0 ∧ s0 = 0) ∨ (0 < s1 ∧ s0 = 0) ∨ (0 < s1 ∧ 0 < s0)) with ⟨rfl, rfl⟩ | ⟨q1, rfl⟩ | ⟨q1, q2⟩
      · rw [decide_eq_false (by omega : ¬ (0:Int) < 0), if_pos rfl] at hcs
        subst hcs
        go_wp2_with fail
        go_ret
        exact ⟨rfl, G10.out⟩
      · rw [decide_eq_true q1, if_neg (by decide), decide_eq_true (rfl : (0:Int) = 0), if_neg (by decide)] at hcs
        subst hcs
        have y1 : decide (0 < s1) = true := decide_eq_true q1
        have y2 : (s1 == 0) = false := by simp; omega
        go_wp2_with fail
        go_ret
        exact ⟨rfl, G10.out⟩
      · rw [decide_eq_true q1, if_neg (by decide), decide_eq_false (by omega : ¬ s0 = 0), if_pos rfl] at hcs
        subst hcs
        have y1 : decide (0 < s1) = true := decide_eq_true q1
        have y2 : (s1 == 0) = false := by simp; omega
        have y3 : decide (0 < s0) = true := decide_eq_true q2
        have y4 : (s0 == 0) = false := by simp; omega
        go_wp2_with fail
        go_ret
        exact ⟨rfl, G10.out⟩
    · have hs : sound (lookS P kn every) = false := Bool.eq_false_iff.2 hs
      have a : askE P [hh] kn = 14 := by unfold askE; rw [if_pos f1, hs]; rfl
      have T37 := Lib.hid (fun W (hp : Pa W P D1 D2 D3 m1 d1 m2 d2 m3 d3) => (soundP_any P D1 D2 D3 m1 d1 m2 d2 m3 d3 kn W hp H19.out))
      have T35 := Lib.hid (fun W (hp : Pa W P D1 D2 D3 m1 d1 m2 d2 m3 d3) => (stood_any P D1 D2 D3 m1 d1 m2 d2 m3 d3 hh kn W hp H19.out))
      have T36 := Lib.hid (fun W (hp : Pa W P D1 D2 D3 m1 d1 m2 d2 m3 d3) => (clear_any P D1 D2 D3 m1 d1 m2 d2 m3 d3 hh kn W hp H19.out))
      have T22 := Lib.hid (fun high W (hp : Pa W P D1 D2 D3 m1 d1 m2 d2 m3 d3) => (attain_any P D1 D2 D3 m1 d1 m2 d2 m3 d3 hh kn high W hp H19.out))
      unfold AttEnd at T22
      have hsb : soundB P kn = false := by unfold soundB; rw [if_pos f0, hs]
      rw [hsb, f0] at T37
      rw [a] at T35 T36 T22
      obtain ⟨⟨s0, s1⟩, hst⟩ : ∃ s, stoodR P hh kn = s := ⟨_, rfl⟩
      obtain ⟨ca, hca⟩ : ∃ c, clearA P hh kn = c := ⟨_, rfl⟩
      rw [hst] at T35
      rw [hca] at T36
      clear a hst hca
      have kbp_0 := BP.out.cell 0
      have kbp_1 := BP.out.cell 1
      have kbp_2 := BP.out.cell 2
      have kbp_3 := BP.out.cell 3
      have kbp_4 := BP.out.cell 4
      have kbp_5 := BP.out.cell 5
      go_upto_region 6 with (go_at_call 37; (with_reducible refine (T37.out _ HPA.out).mono ?_); rintro e V4 ⟨rfl, hg⟩)
      clear kbp_0 kbp_1 kbp_2 kbp_3 kbp_4 kbp_5
      have G4 := Lib.hid (G3.out.trans (hg.mono G3.out.size))
      have BP := Lib.hid (BP.out.ext hg)
      have HPA := Lib.hid (HPA.out.below hg)
      clear hg
      have kbp_0 := BP.out.cell 0
      have kbp_1 := BP.out.cell 1
      have kbp_2 := BP.out.cell 2
      have kbp_3 := BP.out.cell 3
      have kbp_4 := BP.out.cell 4
      have kbp_5 := BP.out.cell 5
      go_upto_region 7 with (go_at_call 35; (with_reducible refine (T35.out _ HPA.out).mono ?_); rintro e V5 ⟨rfl, hg⟩)
      clear kbp_0 kbp_1 kbp_2 kbp_3 kbp_4 kbp_5
      obtain ⟨W5, hW5⟩ : ∃ W, (V5.alloc (.cells (#[.int .i64 s0, .int .i64 s1]) 33)) = W := ⟨_, rfl⟩
      have ga : Below V5.heap.size V5 W5 := by rw [← hW5]; exact one_more _ _
      have gb := hg.trans (ga.mono hg.size)
      have G5 := Lib.hid (G4.out.trans (gb.mono G4.out.size))
      have BP := Lib.hid (BP.out.ext gb)
      have HPA := Lib.hid (HPA.out.below gb)
      have BS := Lib.hid (show Blk W5 (V5.heap.size) 33 (#[.int .i64 s0, .int .i64 s1]) by rw [← hW5]; exact Blk.new _ _ _)
      rw [hW5]
      clear hg ga gb hW5
      have kbp_0 := BP.out.cell 0
      have kbp_1 := BP.out.cell 1
      have kbp_2 := BP.out.cell 2
      have kbp_3 := BP.out.cell 3
      have kbp_4 := BP.out.cell 4
      have kbp_5 := BP.out.cell 5
      have kbs_0 := BS.out.cell 0
      have kbs_1 := BS.out.cell 1
      go_upto_region 8 with (go_at_call 36; (with_reducible refine (T36.out _ HPA.out).mono ?_); rintro e V6 ⟨rfl, hg⟩)
      clear kbp_0 kbp_1 kbp_2 kbp_3 kbp_4 kbp_5 kbs_0 kbs_1
      have G6 := Lib.hid (G5.out.trans (hg.mono G5.out.size))
      have BP := Lib.hid (BP.out.ext hg)
      have BS := Lib.hid (BS.out.ext hg)
      have HPA := Lib.hid (HPA.out.below hg)
      clear hg
      have kbp_0 := BP.out.cell 0
      have kbp_1 := BP.out.cell 1
      have kbp_2 := BP.out.cell 2
      have kbp_3 := BP.out.cell 3
      have kbp_4 := BP.out.cell 4
      have kbp_5 := BP.out.cell 5
      have kbs_0 := BS.out.cell 0
      have kbs_1 := BS.out.cell 1
      go_upto_region 9 with (go_at_call 22; (with_reducible refine (T22.out _ _ HPA.out).mono ?_); rintro e V7 ⟨⟨sv, v, rfl, -, h0⟩, hg⟩; obtain ⟨rfl, rfl⟩ := h0 (by decide); clear h0)
      clear kbp_0 kbp_1 kbp_2 kbp_3 kbp_4 kbp_5 kbs_0 kbs_1
      obtain ⟨W7, hW7⟩ : ∃ W, (V7.alloc (.cells (#[.int .i64 0, .slice none 0 0]) 41)) = W := ⟨_, rfl⟩
      have ga : Below V7.heap.size V7 W7 := by rw [← hW7]; exact one_more _ _
      have gb := hg.trans (ga.mono hg.size)
      have G7 := Lib.hid (G6.out.trans (gb.mono G6.out.size))
      have BP := Lib.hid (BP.out.ext gb)
      have BS := Lib.hid (BS.out.ext gb)
      have HPA := Lib.hid (HPA.out.below gb)
      have BA := Lib.hid (show Blk W7 (V7.heap.size) 41 (#[.int .i64 0, .slice none 0 0]) by rw [← hW7]; exact Blk.new _ _ _)
      rw [hW7]
      clear hg ga gb hW7
      have kbp_0 := BP.out.cell 0
      have kbp_1 := BP.out.cell 1
      have kbp_2 := BP.out.cell 2
      have kbp_3 := BP.out.cell 3
      have kbp_4 := BP.out.cell 4
      have kbp_5 := BP.out.cell 5
      have kbs_0 := BS.out.cell 0
      have kbs_1 := BS.out.cell 1
      have kba_0 := BA.out.cell 0
      have kba_1 := BA.out.cell 1
      go_upto_region 10 with (go_at_call 22; (with_reducible refine (T22.out _ _ HPA.out).mono ?_); rintro e V8 ⟨⟨sv, v, rfl, -, h0⟩, hg⟩; obtain ⟨rfl, rfl⟩ := h0 (by decide); clear h0)
      clear kbp_0 kbp_1 kbp_2 kbp_3 kbp_4 kbp_5 kbs_0 kbs_1 kba_0 kba_1
      obtain ⟨W8, hW8⟩ : ∃ W, (V8.alloc (.cells (#[.int .i64 0, .slice none 0 0]) 41)) = W := ⟨_, rfl⟩
      have ga : Below V8.heap.size V8 W8 := by rw [← hW8]; exact one_more _ _
      have gb := hg.trans (ga.mono hg.size)
      have G8 := Lib.hid (G7.out.trans (gb.mono G7.out.size))
      have BP := Lib.hid (BP.out.ext gb)
      have BS := Lib.hid (BS.out.ext gb)
      have BA := Lib.hid (BA.out.ext gb)
      have HPA := Lib.hid (HPA.out.below gb)
      have BB := Lib.hid (show Blk W8 (V8.heap.size) 41 (#[.int .i64 0, .slice none 0 0]) by rw [← hW8]; exact Blk.new _ _ _)
      rw [hW8]
      clear hg ga gb hW8
      go_wp2_with fail
      go_ret
      exact ⟨rfl, G8.out⟩
end Go.Proofs.YtkoejeghihcmlaaGreat
