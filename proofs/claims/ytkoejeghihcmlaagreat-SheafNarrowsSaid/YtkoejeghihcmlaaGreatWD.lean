/- Without. -/
import Derived.Test.YtkoejeghihcmlaaGreatWC
namespace Go.Proofs.YtkoejeghihcmlaaGreat
open Go.RowKit Go.Shelf

def zeroPl : Pl := ⟨0, 0, [], [], [], 0⟩
def wioE (p : Pl) (s : Int) : Int := if okPl p = true then err (hasI (srcsAll p) s) 3 else 13
def wioP (p : Pl) (s : Int) : Pl := if wioE p s = 0 then withoutP p s else zeroPl
/-- What Without returns. -/
def WioEnd (p : Pl) (s : Int) (w : World) (e : Ending) (w' : World) : Prop :=
  (∃ v1 v2 v3, e = .returned (.tuple #[.agg (plw (wioP p s) v1 v2 v3), .int .i64 (wioE p s)]) ∧ Cp w' w.heap.size (wioP p s) v1 v2 v3) ∧ Below w.heap.size w w'
theorem Blk.setAll6 {W : World} {b : Nat} {t : TypeId} {c0 c1 c2 c3 c4 c5 : Value} (h : Blk W b t #[c0, c1, c2, c3, c4, c5]) (a0 a1 a2 a3 a4 a5 : Value) :
    Blk ((((((W.setCell ⟨b, 0, none⟩ a0).setCell ⟨b, 1, none⟩ a1).setCell ⟨b, 2, none⟩ a2).setCell ⟨b, 3, none⟩ a3).setCell ⟨b, 4, none⟩ a4).setCell ⟨b, 5, none⟩ a5) b t #[a0, a1, a2, a3, a4, a5] :=
  (((((h.set_ 0 a0).set_ 1 a1).set_ 2 a2).set_ 3 a3).set_ 4 a4).set_ 5 a5
theorem below_setAll6 {B : Nat} {w W : World} {b : Nat} (h : Below B w W) (hb : B ≤ b) (a0 a1 a2 a3 a4 a5 : Value) :
    Below B w ((((((W.setCell ⟨b, 0, none⟩ a0).setCell ⟨b, 1, none⟩ a1).setCell ⟨b, 2, none⟩ a2).setCell ⟨b, 3, none⟩ a3).setCell ⟨b, 4, none⟩ a4).setCell ⟨b, 5, none⟩ a5) :=
  (((((h.setCell (p := ⟨b, 0, none⟩) hb a0).setCell (p := ⟨b, 1, none⟩) hb a1).setCell (p := ⟨b, 2, none⟩) hb a2).setCell (p := ⟨b, 3, none⟩) hb a3).setCell (p := ⟨b, 4, none⟩) hb a4).setCell (p := ⟨b, 5, none⟩) hb a5
theorem Cp.setAll6 {W : World} {B b : Nat} {p : Pl} {v1 v2 v3 : Value} (h : Cp W B p v1 v2 v3) (hb : b < B) (a0 a1 a2 a3 a4 a5 : Value) :
    Cp ((((((W.setCell ⟨b, 0, none⟩ a0).setCell ⟨b, 1, none⟩ a1).setCell ⟨b, 2, none⟩ a2).setCell ⟨b, 3, none⟩ a3).setCell ⟨b, 4, none⟩ a4).setCell ⟨b, 5, none⟩ a5) B p v1 v2 v3 :=
  (((((h.far (a := ⟨b, 0, none⟩) hb a0).far (a := ⟨b, 1, none⟩) hb a1).far (a := ⟨b, 2, none⟩) hb a2).far (a := ⟨b, 3, none⟩) hb a3).far (a := ⟨b, 4, none⟩) hb a4).far (a := ⟨b, 5, none⟩) hb a5
theorem Cp.nil (W : World) (B : Nat) : Cp W B zeroPl (.slice none 0 0) (.slice none 0 0) (.slice none 0 0) := ⟨OwnL.nil _ _, OwnL.nil _ _, OwnL.nil _ _, fun k e => (by cases e), fun k e => (by cases e), fun k e => (by cases e)⟩

set_option maxRecDepth 100000 in
set_option maxHeartbeats 8000000 in
theorem wio_any (p : Pl) (A1 A2 A3 : Option Addr) (n1 c1 n2 c2 n3 c3 : Nat) (source : Int) (w : World) (hp : Pa w p A1 A2 A3 n1 c1 n2 c2 n3 c3) :
    Calls Tryz.prog 46 #[plv p A1 A2 A3 n1 c1 n2 c2 n3 c3, .int .i64 source] w (WioEnd p source w) := by
  obtain ⟨W1, hW1⟩ : ∃ W1, (w.alloc (.cells (plb p A1 A2 A3 n1 c1 n2 c2 n3 c3) 38)).alloc (.cells #[.int .i64 0, .int .i64 0, .slice none 0 0, .slice none 0 0, .slice none 0 0, .int .i64 0] 38) = W1 := ⟨_, rfl⟩
  have g1 : Below w.heap.size w W1 := by rw [← hW1]; exact two_more _ _ _
  have b1 : Blk W1 w.heap.size 38 (plb p A1 A2 A3 n1 c1 n2 c2 n3 c3) := by rw [← hW1]; exact (Blk.new _ _ _).alloc _
  have b2 : Blk W1 (w.heap.size + 1) 38 #[.int .i64 0, .int .i64 0, .slice none 0 0, .slice none 0 0, .slice none 0 0, .int .i64 0] := by
    rw [← hW1]; have := Blk.new (w.alloc (.cells (plb p A1 A2 A3 n1 c1 n2 c2 n3 c3) 38)) 38 #[.int .i64 0, .int .i64 0, .slice none 0 0, .slice none 0 0, .slice none 0 0, .int .i64 0]; rwa [World.size_alloc] at this
  have p0 := b1.cell 0
  have p1 := b1.cell 1
  have p2 := b1.cell 2
  have p3 := b1.cell 3
  have p4 := b1.cell 4
  have p5 := b1.cell 5
  have T := check_any p A1 A2 A3 n1 c1 n2 c2 n3 c3 W1 (hp.below g1)
  have HPA := Lib.hid (hp.below g1)
  have HB := Lib.hid b1
  have HB2 := Lib.hid b2
  have G1 := Lib.hid g1
  have HE := Lib.hid (show wioE p source = if okPl p = true then err (hasI (srcsAll p) source) 3 else 13 from rfl)
  have HWP := Lib.hid (show wioP p source = if wioE p source = 0 then withoutP p source else zeroPl from rfl)
  have HPP := Lib.hid (fun h : okPl p = true => ok_parts h)
  have T2 := Lib.hid (fun (h : okPl p = true) W (g : Below W1.heap.size W1 W) => sources_any p A1 A2 A3 n1 c1 n2 c2 n3 c3 W (HPA.out.below g) h)
  obtain ⟨ok, hok⟩ : ∃ b, okPl p = b := ⟨_, rfl⟩
  rw [hok] at T HE HPP T2
  have HT := Lib.hid T
  have HW1 := Lib.hid hW1
  clear T hp g1 b1 b2 hW1 hok
  have hbl := HB2.out.lt
  have hlt1 : w.heap.size ≤ w.heap.size + 1 := Nat.le_succ _
  have HLT1 := Lib.hid hlt1
  clear hlt1
  unfold WioEnd
  cases ok with
  | false =>
    have HE1 := Lib.hid (show wioE p source = 13 from HE.out)
    have HP1 := Lib.hid (show wioP p source = zeroPl by rw [HWP.out, HE1.out]; rfl)
    have HER := Lib.hid (show err false 13 = 13 from rfl)
    rw [HER.out] at HT
    rw [HE1.out, HP1.out]
    go_enter Tryz.func46, Tryz.ntmps46
    go_upto_region 1 with fail
    rw [HW1.out]
    go_upto_region 3 with (go_at_call 65; (with_reducible refine (HT.out).mono ?_); rintro e V2 ⟨rfl, hg⟩; have G2 := Lib.hid hg; clear hg)
    have HB3 := Lib.hid (HB2.out.ext G2.out)
    have m0 := HB3.out.cell 0
    have z0 := HB3.out.frozen 0
    have m1 := HB3.out.cell 1
    have z1 := HB3.out.frozen 1
    have m2 := HB3.out.cell 2
    have z2 := HB3.out.frozen 2
    have m3 := HB3.out.cell 3
    have z3 := HB3.out.frozen 3
    have m4 := HB3.out.cell 4
    have z4 := HB3.out.frozen 4
    have m5 := HB3.out.cell 5
    have z5 := HB3.out.frozen 5
    go_wp2_with fail
    have hb9 := HB3.out.setAll6 (.int .i64 0) (.int .i64 0) (.slice none 0 0) (.slice none 0 0) (.slice none 0 0) (.int .i64 0)
    have HG9 := Lib.hid (below_setAll6 (G1.out.trans (G2.out.mono G1.out.size)) HLT1.out (.int .i64 0) (.int .i64 0) (.slice none 0 0) (.slice none 0 0) (.slice none 0 0) (.int .i64 0))
    have t0 := hb9.cell 0
    have t1 := hb9.cell 1
    have t2 := hb9.cell 2
    have t3 := hb9.cell 3
    have t4 := hb9.cell 4
    have t5 := hb9.cell 5
    clear hb9
    refine bodyPost_ret (v := .tuple #[.agg (plw zeroPl (.slice none 0 0) (.slice none 0 0) (.slice none 0 0)), .int .i64 13]) ?_ rfl ⟨⟨_, _, _, rfl, Cp.nil _ _⟩, HG9.out⟩
    simp [results, Tryz.results46, go_sem, t0, t1, t2, t3, t4, t5, zeroPl]
  | true =>
    have HPO := Lib.hid (HPP.out rfl)
    have HN := Lib.hid (show n1 ≤ 1000 ∧ n2 ≤ 1000 ∧ n3 ≤ 1000 by
      have h1 := HPO.out.2.2.2.2.2.1
      have h2 := HPO.out.2.2.2.2.2.2.1
      have h3 := HPO.out.2.2.2.2.2.2.2.1
      have k1 := HPA.out.l1.1
      have k2 := HPA.out.l2.1
      have k3 := HPA.out.l3.1
      omega)
    have HSL := Lib.hid (show (srcsAll p).length ≤ 1000 by
      have h1 := HPO.out.2.2.2.2.2.1
      have h2 := HPO.out.2.2.2.2.2.2.1
      have h3 := HPO.out.2.2.2.2.2.2.2.1
      unfold srcsAll srt srcs
      rw [List.length_mergeSort, List.length_append, List.length_append, List.length_map, List.length_map, List.length_map]
      omega)
    have T3 := Lib.hid (T2.out rfl)
    have HE0 := Lib.hid (show wioE p source = err (hasI (srcsAll p) source) 3 from HE.out)
    obtain ⟨sl, hsl⟩ : ∃ l, srcsAll p = l := ⟨_, rfl⟩
    rw [hsl] at HE0 T3 HSL
    obtain ⟨hs, hhs⟩ : ∃ b, hasI sl source = b := ⟨_, rfl⟩
    rw [hhs] at HE0
    have HHS := Lib.hid hhs
    have HER := Lib.hid (show err true 13 = 0 from rfl)
    rw [HER.out] at HT
    clear hsl hhs
    cases hs with
    | false =>
      have HE1 := Lib.hid (show wioE p source = 3 from HE0.out)
      have HP1 := Lib.hid (show wioP p source = zeroPl by rw [HWP.out, HE1.out]; rfl)
      rw [HE1.out, HP1.out]
      go_enter Tryz.func46, Tryz.ntmps46
      go_upto_region 1 with fail
      rw [HW1.out]
      go_upto_region 4 with (go_at_call 65; (with_reducible refine (HT.out).mono ?_); rintro e V2 ⟨rfl, hg⟩; have G2 := Lib.hid hg; clear hg)
      have y0 := (HB.out.ext G2.out).cell 0
      have y1 := (HB.out.ext G2.out).cell 1
      have y2 := (HB.out.ext G2.out).cell 2
      have y3 := (HB.out.ext G2.out).cell 3
      have y4 := (HB.out.ext G2.out).cell 4
      have y5 := (HB.out.ext G2.out).cell 5
      clear p0 p1 p2 p3 p4 p5
      go_upto_region 5 with (first
        | (go_at_call 113; (with_reducible refine (T3.out _ G2.out).mono ?_); rintro e V3 ⟨⟨v, rfl, ho⟩, hg⟩; obtain ⟨D, c, hv, -, -, hi, -⟩ := OwnL.arr kdI ho; subst hv; have HI := Lib.hid hi; have G3 := Lib.hid (G2.out.trans (hg.mono G2.out.size)); clear ho hg hi)
        | (go_at_call 109; (with_reducible refine (has_any _ _ _ _ source _ HI.out (by have := HSL.out; omega)).mono ?_); rintro e V4 ⟨rfl, rfl⟩; rw [HHS.out]))
      have HB3 := Lib.hid (HB2.out.ext G3.out)
      clear y0 y1 y2 y3 y4 y5
      have m0 := HB3.out.cell 0
      have z0 := HB3.out.frozen 0
      have m1 := HB3.out.cell 1
      have z1 := HB3.out.frozen 1
      have m2 := HB3.out.cell 2
      have z2 := HB3.out.frozen 2
      have m3 := HB3.out.cell 3
      have z3 := HB3.out.frozen 3
      have m4 := HB3.out.cell 4
      have z4 := HB3.out.frozen 4
      have m5 := HB3.out.cell 5
      have z5 := HB3.out.frozen 5
      go_wp2_with fail
      have hb9 := HB3.out.setAll6 (.int .i64 0) (.int .i64 0) (.slice none 0 0) (.slice none 0 0) (.slice none 0 0) (.int .i64 0)
      have HG9 := Lib.hid (below_setAll6 (G1.out.trans (G3.out.mono G1.out.size)) HLT1.out (.int .i64 0) (.int .i64 0) (.slice none 0 0) (.slice none 0 0) (.slice none 0 0) (.int .i64 0))
      have t0 := hb9.cell 0
      have t1 := hb9.cell 1
      have t2 := hb9.cell 2
      have t3 := hb9.cell 3
      have t4 := hb9.cell 4
      have t5 := hb9.cell 5
      clear hb9
      refine bodyPost_ret (v := .tuple #[.agg (plw zeroPl (.slice none 0 0) (.slice none 0 0) (.slice none 0 0)), .int .i64 3]) ?_ rfl ⟨⟨_, _, _, rfl, Cp.nil _ _⟩, HG9.out⟩
      simp [results, Tryz.results46, go_sem, t0, t1, t2, t3, t4, t5, zeroPl]
    | true =>
      have HE1 := Lib.hid (show wioE p source = 0 from HE0.out)
      have HP1 := Lib.hid (show wioP p source = withoutP p source by rw [HWP.out, HE1.out]; rfl)
      rw [HE1.out, HP1.out]
      go_enter Tryz.func46, Tryz.ntmps46
      go_upto_region 1 with fail
      rw [HW1.out]
      go_upto_region 4 with (go_at_call 65; (with_reducible refine (HT.out).mono ?_); rintro e V2 ⟨rfl, hg⟩; have G2 := Lib.hid hg; clear hg)
      have y0 := (HB.out.ext G2.out).cell 0
      have y1 := (HB.out.ext G2.out).cell 1
      have y2 := (HB.out.ext G2.out).cell 2
      have y3 := (HB.out.ext G2.out).cell 3
      have y4 := (HB.out.ext G2.out).cell 4
      have y5 := (HB.out.ext G2.out).cell 5
      clear p0 p1 p2 p3 p4 p5
      go_upto_region 6 with (first
        | (go_at_call 113; (with_reducible refine (T3.out _ G2.out).mono ?_); rintro e V3 ⟨⟨v, rfl, ho⟩, hg⟩; obtain ⟨D, c, hv, -, -, hi, -⟩ := OwnL.arr kdI ho; subst hv; have HI := Lib.hid hi; have G3 := Lib.hid (G2.out.trans (hg.mono G2.out.size)); clear ho hg hi)
        | (go_at_call 109; (with_reducible refine (has_any _ _ _ _ source _ HI.out (by have := HSL.out; omega)).mono ?_); rintro e V4 ⟨rfl, rfl⟩; rw [HHS.out]))
      clear y0 y1 y2 y3 y4 y5
      have y0 := (HB.out.ext G3.out).cell 0
      have y1 := (HB.out.ext G3.out).cell 1
      have y2 := (HB.out.ext G3.out).cell 2
      have y3 := (HB.out.ext G3.out).cell 3
      have y4 := (HB.out.ext G3.out).cell 4
      have y5 := (HB.out.ext G3.out).cell 5
      have TW := Lib.hid (without_any p A1 A2 A3 n1 c1 n2 c2 n3 c3 source V3 (HPA.out.below G3.out) HN.out)
      have HZ3 := Lib.hid (show w.heap.size + 1 < V3.heap.size by have := HB2.out.lt; have := G3.out.size; omega)
      go_wp2_with (go_at_call 114; (with_reducible refine (TW.out).mono ?_); rintro e V5 ⟨⟨v1, v2, v3, rfl, hc⟩, hg⟩; obtain ⟨R1, f1, R2, f2, R3, f3, e1, e2, e3, -, -, -, -⟩ := Cp.parts hc; obtain ⟨r1, hr1⟩ : ∃ n, (withoutP p source).loads.length = n := ⟨_, rfl⟩; obtain ⟨r2, hr2⟩ : ∃ n, (withoutP p source).stands.length = n := ⟨_, rfl⟩; obtain ⟨r3, hr3⟩ : ∃ n, (withoutP p source).spells.length = n := ⟨_, rfl⟩; rw [hr1] at e1; rw [hr2] at e2; rw [hr3] at e3; subst e1 e2 e3; have HC5 := Lib.hid hc; have G5 := Lib.hid (G3.out.trans (hg.mono G3.out.size)); have hb3 := HB2.out.ext G5.out; have m0 := hb3.cell 0; have z0 := hb3.frozen 0; have m1 := hb3.cell 1; have z1 := hb3.frozen 1; have m2 := hb3.cell 2; have z2 := hb3.frozen 2; have m3 := hb3.cell 3; have z3 := hb3.frozen 3; have m4 := hb3.cell 4; have z4 := hb3.frozen 4; have m5 := hb3.cell 5; have z5 := hb3.frozen 5; have HB3 := Lib.hid hb3; clear hc hg hr1 hr2 hr3 hb3)
      have hb9 := HB3.out.setAll6 (.int .i64 p.lo) (.int .i64 p.hi) (.slice R1 r1 f1) (.slice R2 r2 f2) (.slice R3 r3 f3) (.int .i64 p.geese)
      have HC9 := Lib.hid (HC5.out.setAll6 HZ3.out (.int .i64 p.lo) (.int .i64 p.hi) (.slice R1 r1 f1) (.slice R2 r2 f2) (.slice R3 r3 f3) (.int .i64 p.geese))
      have HG9 := Lib.hid (below_setAll6 (G1.out.trans (G5.out.mono G1.out.size)) HLT1.out (.int .i64 p.lo) (.int .i64 p.hi) (.slice R1 r1 f1) (.slice R2 r2 f2) (.slice R3 r3 f3) (.int .i64 p.geese))
      have t0 := hb9.cell 0
      have t1 := hb9.cell 1
      have t2 := hb9.cell 2
      have t3 := hb9.cell 3
      have t4 := hb9.cell 4
      have t5 := hb9.cell 5
      clear hb9
      refine bodyPost_ret (v := .tuple #[.agg (plw p (.slice R1 r1 f1) (.slice R2 r2 f2) (.slice R3 r3 f3)), .int .i64 0]) ?_ rfl ⟨⟨_, _, _, rfl, HC9.out.mono (by have := HZ3.out; omega)⟩, HG9.out⟩
      simp [results, Tryz.results46, go_sem, t0, t1, t2, t3, t4, t5]
end Go.Proofs.YtkoejeghihcmlaaGreat
