/- Part of the proof: MF. -/
import Derived.Shelf.SlSortFuncK.RowK2
import Derived.Ground.NamesProg
import Derived.Shelf.Lay
import Derived.Shelf.Slices.In.SortNone
import Derived.Shelf.Sort.Plain
import Derived.Sort.OwnSortedInts
import Derived.Lib.OwnBridge
import Derived.Ground.Names2Prog
import Derived.Shelf.Slices.Delete
import Derived.Shelf.Slices.CompactI
import Derived.Test.YtkoejeghihcmlaaGreatQA1
import Derived.Test.YtkoejeghihcmlaaGreatQA4
import Derived.Test.YtkoejeghihcmlaaGreatQA5
namespace Go.Proofs.YtkoejeghihcmlaaGreat
open Go.RowKit Go.Shelf
def isSrc (s : Int) (x : Six) : Bool := decide (x.a = s)
def cartIx (p : Pl) (s known : Int) : Nat := (lookL p known every).findIdx (isSrc s)
def cartE (p : Pl) (s known : Int) : Int := if firstE p [] [known] = 0 then (if cartIx p s known = (lookL p known every).length then 17 else err (sound (lookS p known every)) 14) else firstE p [] [known]
def cartV (ls : List Six) (st : List Rg) (i : Nat) : Rg := ⟨max (Ls ls i) (Lo st i - Hi st (i + 1)), min (Gr ls i) (Hi st i - Lo st (i + 1))⟩
def cartR (p : Pl) (s known : Int) : Rg := if cartE p s known = 0 then cartV (lookL p known every) (lookS p known every) (cartIx p s known) else zR
theorem six_get {l : List Six} {k : Nat} (hk : k < l.length) : l.getD k z6 = l[k] := by rw [List.getD_eq_getElem?_getD, List.getElem?_eq_getElem hk]; rfl
theorem findIdx_at {q : Six → Bool} {l : List Six} {k : Nat} (hk : k < l.length) (hq : q (l.getD k z6) = true) (hn : ∀ j, j < k → q (l.getD j z6) = false) : l.findIdx q = k := by
 rw [List.findIdx_eq hk]
 refine ⟨by rw [← six_get hk]; exact hq, fun j hj => ?_⟩
 have := hn j hj
 rwa [six_get (by omega)] at this
theorem findIdx_no {q : Six → Bool} {l : List Six} (hn : ∀ j, j < l.length → q (l.getD j z6) = false) : l.findIdx q = l.length := by
 rw [List.findIdx_eq_length]
 intro x hx
 obtain ⟨j, hj, rfl⟩ := List.getElem_of_mem hx
 have := hn j hj
 rwa [six_get hj] at this
theorem three_more (w : World) (o o' o'' : Obj) : Below w.heap.size w (((w.alloc o).alloc o').alloc o'') := (two_more w o o').alloc (by simp; omega) _
theorem blk3_1 (V : World) (t : TypeId) (cs : Array Value) (o o' : Obj) : Blk (((V.alloc (.cells cs t)).alloc o).alloc o').drew V.heap.size t cs := ((Blk.new V t cs).alloc o).alloc o'
theorem blk3_2 (V : World) (t : TypeId) (cs : Array Value) (o o' : Obj) : Blk (((V.alloc o).alloc (.cells cs t)).alloc o').drew (V.heap.size + 1) t cs := by
 have := Blk.new (V.alloc o) t cs
 rw [World.size_alloc] at this
 exact this.alloc o'
theorem blk3_3 (V : World) (t : TypeId) (cs : Array Value) (o o' : Obj) : Blk (((V.alloc o).alloc o').alloc (.cells cs t)).drew (V.heap.size + 1 + 1) t cs := by
 have := Blk.new ((V.alloc o).alloc o') t cs
 simp only [World.size_alloc] at this
 exact this
theorem isSrc_any (b : Nat) (s : Int) (x : Six) (w : World) (hb : w.cell? ⟨b, 0, none⟩ = some (.int .i64 s)) :
  Calls Tryz.prog 128 #[sv x, .pointer (some ⟨b, 0, none⟩)] w fun e w' => e = .returned (.bool (isSrc s x)) ∧ Below w.heap.size w w' := by
 have HI := Lib.hid (show isSrc s x = decide (x.a = s) from rfl)
 obtain ⟨r, hr⟩ : ∃ r, isSrc s x = r := ⟨_, rfl⟩
 rw [hr] at HI ⊢
 clear hr
 have hb2 := keepAlloc hb (.cells #[.int .i64 x.a, .int .i64 x.b, .int .i64 x.c, .int .i64 x.d, .int .i64 x.e, .int .i64 x.f] 103)
 go_enter Tryz.func128, Tryz.ntmps128
 go_wp2_with fail
 go_ret
 exact ⟨by rw [HI.out]; rfl, one_more _ _⟩
set_option maxRecDepth 100000 in
set_option maxHeartbeats 4000000 in
theorem cartedP_any (p : Pl) (A1 A2 A3 : Option Addr) (n1 c1 n2 c2 n3 c3 : Nat) (source known : Int) (w : World) (hp : Pa w p A1 A2 A3 n1 c1 n2 c2 n3 c3) (h19 : p.loads.length ≤ 60) :
  Calls Tryz.prog 55 #[plv p A1 A2 A3 n1 c1 n2 c2 n3 c3, .int .i64 source, .int .i64 known] w fun e w' => e = .returned (.tuple #[rv (cartR p source known), .int .i64 (cartE p source known)]) ∧ Below w.heap.size w w' := by
 obtain ⟨W1, hW1⟩ : ∃ W1, ((w.alloc (.cells (plb p A1 A2 A3 n1 c1 n2 c2 n3 c3) 38)).alloc (.cells #[.int .i64 source] 3)).alloc (.cells #[.int .i64 0, .int .i64 0] 33) = W1 := ⟨_, rfl⟩
 have g1 : Below w.heap.size w W1 := by rw [← hW1]; exact (two_more w _ _).alloc (by simp; omega) _
 have b1 : Blk W1 w.heap.size 38 (plb p A1 A2 A3 n1 c1 n2 c2 n3 c3) := by rw [← hW1]; exact ((Blk.new _ _ _).alloc _).alloc _
 have b2 : Blk W1 (w.heap.size + 1) 3 #[.int .i64 source] := by
  rw [← hW1]
  have := Blk.new (w.alloc (.cells (plb p A1 A2 A3 n1 c1 n2 c2 n3 c3) 38)) 3 #[.int .i64 source]
  rw [World.size_alloc] at this
  exact this.alloc _
 have b3 : Blk W1 (w.heap.size + 1 + 1) 33 #[.int .i64 0, .int .i64 0] := by
  rw [← hW1]
  have := Blk.new ((w.alloc (.cells (plb p A1 A2 A3 n1 c1 n2 c2 n3 c3) 38)).alloc (.cells #[.int .i64 source] 3)) 33 #[.int .i64 0, .int .i64 0]
  simp only [World.size_alloc] at this
  exact this
 have hz1 : W1.heap.size = w.heap.size + 3 := by rw [← hW1]; simp
 have p0 := b1.cell 0
 have p1 := b1.cell 1
 have p2 := b1.cell 2
 have p3 := b1.cell 3
 have p4 := b1.cell 4
 have p5 := b1.cell 5
 have HPA := Lib.hid (hp.below g1)
 have HB := Lib.hid b1
 have HB2 := Lib.hid b2
 have HB3 := Lib.hid b3
 have G1 := Lib.hid g1
 have H19 := Lib.hid h19
 have T := Lib.hid (fun W (g : Below W1.heap.size W1 W) (i1 : Ints W (some ⟨W1.heap.size, 0, none⟩) 1 [known]) => first_any p A1 A2 A3 n1 c1 n2 c2 n3 c3 none (some ⟨W1.heap.size, 0, none⟩) 0 0 1 1 [] [known] W (HPA.out.below g) Arr.nil_ i1 (by decide) (by decide))
 have HI := Lib.hid (one_int (Blk.new W1 3 #[.int .i64 known]))
 have HG := Lib.hid (one_more W1 (.cells #[.int .i64 known] 3))
 have HR := Lib.hid (show cartR p source known = if cartE p source known = 0 then cartV (lookL p known every) (lookS p known every) (cartIx p source known) else zR from rfl)
 have HE := Lib.hid (show cartE p source known = if firstE p [] [known] = 0 then (if cartIx p source known = (lookL p known every).length then 17 else err (sound (lookS p known every)) 14) else firstE p [] [known] from rfl)
 have HN := Lib.hid (no_hours p known)
 obtain ⟨rr, hrr⟩ : ∃ rr, cartR p source known = rr := ⟨_, rfl⟩
 obtain ⟨ce, hce⟩ : ∃ ce, cartE p source known = ce := ⟨_, rfl⟩
 rw [hrr, hce] at HR
 rw [hce] at HE
 rw [hrr, hce]
 obtain ⟨fe, hfe⟩ : ∃ fe, firstE p [] [known] = fe := ⟨_, rfl⟩
 rw [hfe] at HE HN T
 have HW1 := Lib.hid hW1
 have HZ := Lib.hid hz1
 clear hrr hfe hce hp g1 b1 b2 b3 h19 hW1 hz1
 obtain ⟨bR, hbR⟩ : ∃ bR, w.heap.size + 1 + 1 = bR := ⟨_, rfl⟩
 rw [hbR] at HB3
 by_cases he : fe = 0
 ·subst he
  have HOK := Lib.hid (HN.out rfl).1
  have T2 := Lib.hid (fun W (g : Below W1.heap.size W1 W) => look_lk p A1 A2 A3 n1 c1 n2 c2 n3 c3 w.heap.size known every .nilFunc W (HB.out.ext g) (HPA.out.below g) HOK.out H19.out (sm_nil W))
  have HLL := Lib.hid (lookL_len H19.out known every)
  go_enter Tryz.func55, Tryz.ntmps55
  go_upto_region 1 with fail
  rw [HW1.out]
  have HBRE := Lib.hid hbR
  clear hbR
  go_upto_region 5 with (first
   | (go_at_call 80; (with_reducible refine (T.out _ HG.out HI.out).mono ?_); rintro e W3 ⟨rfl, hg⟩; have G3 := Lib.hid (HG.out.trans (hg.mono HG.out.size)); clear hg)
   | (go_at_call 81; (with_reducible refine (T2.out _ G3.out).mono ?_); rintro e W4 ⟨bf, bs, A, n, c, rfl, hg, hl⟩; have G4 := Lib.hid (G3.out.trans (hg.mono G3.out.size)); have HL := Lib.hid hl; clear hg hl))
  have f2 := HL.out.fd.f.cell 2
  have hn19 : n ≤ 60 := by have := HL.out.num; have := HLL.out; omega
  have T3 := Lib.hid (idxLoad_any 128 #[.pointer (some ⟨w.heap.size + 1, 0, none⟩)] (isSrc source) A n c (lookL p known every) W4 HL.out.ar (by omega) (enters_of Tryz.func128 (by kernel_rfl) rfl) (fun x W g => isSrc_any (w.heap.size + 1) source x W (((HB2.out.ext G4.out).ext g).cell 0)))
  go_upto_region 6 with (go_at_call 127; (with_reducible refine (T3.out).mono ?_); rintro e W5 ⟨⟨ix, rfl, hix⟩, hg⟩; have G5 := Lib.hid hg; have HIX := Lib.hid hix; clear hg hix)
  have hb5 := (HB3.out.ext G4.out).ext G5.out
  have q0 := hb5.cell 0
  have q1 := hb5.cell 1
  have q2 := hb5.frozen 0
  have q3 := hb5.frozen 1
  have HL5 := Lib.hid (HL.out.ext G5.out)
  have HBR := Lib.hid hb5
  have G5b := Lib.hid (G4.out.trans (G5.out.mono G4.out.size))
  clear f2 hb5
  rcases HIX.out with ⟨k, rfl, hk, hq, hno⟩ | ⟨rfl, hno⟩
  ·have HK := Lib.hid (show cartIx p source known = k from findIdx_at (by rw [← HL.out.num]; exact hk) hq hno)
   have hkn : ¬ k = (lookL p known every).length := by rw [← HL.out.num]; omega
   have HS := Lib.hid (fun W (g : Below W5.heap.size W5 W) => sound_any bf bs _ known A n c (n + 1) (lookS p known every) W (HL5.out.ext g).fd (by omega))
   have HE2 := Lib.hid (show ce = err (sound (lookS p known every)) 14 by have h := HE.out; rw [HK.out, if_neg hkn] at h; exact h)
   have hk0 : decide ((k : Int) < 0) = false := decide_eq_false (by omega)
   clear hno hq hkn
   obtain ⟨sb, hsb⟩ : ∃ sb, sound (lookS p known every) = sb := ⟨_, rfl⟩
   rw [hsb] at HS HE2
   have HSB := Lib.hid hsb
   clear hsb
   cases sb with
   | false =>
    have HR2 := Lib.hid (show rr = zR by rw [HR.out, HE2.out]; rfl)
    go_wp2_with (go_at_call 100; (with_reducible refine (HS.out _ (Below.refl _ _)).mono ?_); rintro e W6 ⟨rfl, hg⟩; have G6 := Lib.hid hg; have hb6 := HBR.out.ext hg; have t0 := hb6.cell 0; have t1 := hb6.cell 1; have t2 := hb6.frozen 0; have t3 := hb6.frozen 1; clear hg hb6)
    have hb9 := ((HBR.out.ext G6.out).set_ 0 (.int .i64 0)).set_ 1 (.int .i64 0)
    have r0 := hb9.cell 0
    have r1 := hb9.cell 1
    have GG := Lib.hid (((G1.out.trans ((G5b.out.trans (G6.out.mono G5b.out.size)).mono G1.out.size)).setCell (p := ⟨bR, 0, none⟩) (by rw [← HBRE.out]; show w.heap.size ≤ w.heap.size + 1 + 1; omega) (.int .i64 0)).setCell (p := ⟨bR, 1, none⟩) (by rw [← HBRE.out]; show w.heap.size ≤ w.heap.size + 1 + 1; omega) (.int .i64 0))
    clear hb9
    refine bodyPost_ret (v := .tuple #[rv rr, .int .i64 ce]) ?_ rfl ⟨rfl, GG.out⟩
    rw [HR2.out, HE2.out]
    simp [results, Tryz.results55, go_sem, r0, r1]
    first | exact ⟨⟨rfl, rfl⟩, rfl⟩ | exact ⟨rfl, rfl⟩
   | true =>
    have HR2 := Lib.hid (show rr = cartV (lookL p known every) (lookS p known every) k by rw [HR.out, HE2.out, HK.out]; rfl)
    go_upto_region 10 with (go_at_call 100; (with_reducible refine (HS.out _ (Below.refl _ _)).mono ?_); rintro e W6 ⟨rfl, hg⟩; have G6 := Lib.hid hg; have HB6 := Lib.hid (HBR.out.ext hg); have HL6 := Lib.hid (HL5.out.ext hg); clear hg)
    clear q0 q1 q2 q3
    have f2 := HL6.out.fd.f.cell 2
    have f3 := HL6.out.fd.f.cell 3
    have hslen := HL6.out.fd.len
    obtain ⟨s0, s1⟩ := HL6.out.fd.cells (i := k) (by omega)
    obtain ⟨s2, s3⟩ := HL6.out.fd.cells (i := k + 1) (by omega)
    obtain ⟨ba, oa, e0, -, -, hc⟩ := six_at HL6.out.ar hk
    obtain ⟨-, -, l2, l3, -, -⟩ := hc W6 (Below.refl _ _)
    have HCV := Lib.hid (show cartV (lookL p known every) (lookS p known every) k = ⟨max (Ls (lookL p known every) k) (Lo (lookS p known every) k - Hi (lookS p known every) (k + 1)), min (Gr (lookL p known every) k) (Hi (lookS p known every) k - Lo (lookS p known every) (k + 1))⟩ from rfl)
    have hrw := look_rw HOK.out HSB.out
    have hnl := HL.out.num
    have hp0 := hrw.pos k (by omega)
    have hp1 := hrw.snd k (by omega)
    have hp2 := look_hi HOK.out known every (i := k) (by omega)
    have hp3 := hrw.pos (k + 1) (by omega)
    have hp4 := hrw.snd (k + 1) (by omega)
    have hp5 := look_hi HOK.out known every (i := k + 1) (by omega)
    clear hrw hnl
    unfold Gr Ls at HCV
    obtain ⟨x, hx⟩ : ∃ x, (lookL p known every).getD k z6 = x := ⟨_, rfl⟩
    obtain ⟨u0, hu0⟩ : ∃ v, Lo (lookS p known every) k = v := ⟨_, rfl⟩
    obtain ⟨u1, hu1⟩ : ∃ v, Hi (lookS p known every) k = v := ⟨_, rfl⟩
    obtain ⟨u2, hu2⟩ : ∃ v, Lo (lookS p known every) (k + 1) = v := ⟨_, rfl⟩
    obtain ⟨u3, hu3⟩ : ∃ v, Hi (lookS p known every) (k + 1) = v := ⟨_, rfl⟩
    rw [hx] at l2 l3 HCV
    rw [hu0] at s0 HCV hp0 hp1
    rw [hu1] at s1 HCV hp1 hp2
    rw [hu2] at s2 HCV hp3 hp4
    rw [hu3] at s3 HCV hp4 hp5
    subst e0
    obtain ⟨m, hm⟩ : ∃ m, n + 1 = m := ⟨_, rfl⟩
    rw [hm] at f3
    have hki : (k : Int) < (n : Int) := by omega
    have hki2 : (k : Int) < (m : Int) := by omega
    have hki3 : (k : Int) + 1 < (m : Int) := by omega
    have hki4 : (0 : Int) ≤ (k : Int) + 1 := by omega
    have hki5 : (0 : Int) ≤ (k : Int) := by omega
    have hwr := wrap_succ k (by omega)
    have HKP := Lib.hid (fun W (g : Below W6.heap.size W6 W) => (⟨(g.cell (World.block_lt_of_cell? W6 _ f2)).trans f2, (g.cell (World.block_lt_of_cell? W6 _ f3)).trans f3, (g.cell (World.block_lt_of_cell? W6 _ s0)).trans s0, (g.cell (World.block_lt_of_cell? W6 _ s1)).trans s1, (g.cell (World.block_lt_of_cell? W6 _ s2)).trans s2, (g.cell (World.block_lt_of_cell? W6 _ s3)).trans s3, (g.cell (World.block_lt_of_cell? W6 _ l2)).trans l2, (g.cell (World.block_lt_of_cell? W6 _ l3)).trans l3⟩ :
     W.cell? ⟨bf, 2, none⟩ = some (.slice (some ⟨ba, oa, none⟩) n c) ∧ W.cell? ⟨bf, 3, none⟩ = some (.slice (some ⟨bs, 0, none⟩) m m) ∧ W.cell? ⟨bs, k * 2, none⟩ = some (.int .i64 u0) ∧ W.cell? ⟨bs, k * 2 + 1, none⟩ = some (.int .i64 u1) ∧ W.cell? ⟨bs, (k + 1) * 2, none⟩ = some (.int .i64 u2) ∧ W.cell? ⟨bs, (k + 1) * 2 + 1, none⟩ = some (.int .i64 u3) ∧ W.cell? ⟨ba, oa + k * 6 + 2, none⟩ = some (.int .i64 x.c) ∧ W.cell? ⟨ba, oa + k * 6 + 3, none⟩ = some (.int .i64 x.d)))
    clear hc hx hu0 hu1 hu2 hu3 hm hslen
    go_cut [11, 12, 13] from 39 to 61 (fun s11 s12 s13 wx => ∃ b11 b12 b13, s11 = .pointer (some ⟨b11, 0, none⟩) ∧ s12 = .pointer (some ⟨b12, 0, none⟩) ∧ s13 = .pointer (some ⟨b13, 0, none⟩) ∧ Below W6.heap.size W6 wx ∧ Blk wx b11 33 #[.int .i64 x.c, .int .i64 x.d] ∧ Blk wx b12 33 #[.int .i64 u0, .int .i64 u1] ∧ Blk wx b13 33 #[.int .i64 u2, .int .i64 u3])
    case first =>
     go_region_held3 (fun w' => w'.cell? ⟨bf, 2, none⟩ = some (.slice (some ⟨ba, oa, none⟩) n c) ∧ w'.cell? ⟨bf, 3, none⟩ = some (.slice (some ⟨bs, 0, none⟩) m m) ∧ w'.cell? ⟨bs, k * 2, none⟩ = some (.int .i64 u0) ∧ w'.cell? ⟨bs, k * 2 + 1, none⟩ = some (.int .i64 u1) ∧ w'.cell? ⟨bs, (k + 1) * 2, none⟩ = some (.int .i64 u2) ∧ w'.cell? ⟨bs, (k + 1) * 2 + 1, none⟩ = some (.int .i64 u3) ∧ w'.cell? ⟨ba, oa + k * 6 + 2, none⟩ = some (.int .i64 x.c) ∧ w'.cell? ⟨ba, oa + k * 6 + 3, none⟩ = some (.int .i64 x.d))
      (first | exact HKP.out _ (by exact (Below.refl _ _).drew) | exact HKP.out _ (by exact (one_more _ _).drew) | exact HKP.out _ (by exact (two_more _ _ _).drew) | exact HKP.out _ (by exact (three_more _ _ _ _).drew))
      (fail)
     all_goals (try go_wp2_with fail)
     all_goals go_meet
     all_goals exact ⟨_, _, _, rfl, rfl, rfl, (three_more _ _ _ _).drew, by first | exact blk3_1 _ _ _ _ _ | exact blk3_2 _ _ _ _ _ | exact blk3_3 _ _ _ _ _, by first | exact blk3_1 _ _ _ _ _ | exact blk3_2 _ _ _ _ _ | exact blk3_3 _ _ _ _ _, by first | exact blk3_1 _ _ _ _ _ | exact blk3_2 _ _ _ _ _ | exact blk3_3 _ _ _ _ _⟩
    case rest =>
     obtain ⟨b11, b12, b13, rfl, rfl, rfl, hg, hb11, hb12, hb13⟩ := hcut
     rename World => W9
     have HB9 := Lib.hid (HB6.out.ext hg)
     have G9 := Lib.hid (G5b.out.trans ((G6.out.trans (hg.mono G6.out.size)).mono G5b.out.size))
     have a0 := hb11.cell 0
     have a1 := hb11.cell 1
     have a2 := hb12.cell 0
     have a3 := hb12.cell 1
     have a4 := hb13.cell 0
     have a5 := hb13.cell 1
     have q2 := HB9.out.frozen 0
     have q3 := HB9.out.frozen 1
     have q0 := HB9.out.cell 0
     have q1 := HB9.out.cell 1
     clear hg hb11 hb12 hb13 f2 f3 s0 s1 s2 s3 l2 l3
     go_wp2_with fail
     have hb9 := ((HB9.out).set_ 0 (.int .i64 (max x.c (u0 - u3)))).set_ 1 (.int .i64 (min x.d (u1 - u2)))
     have r0 := hb9.cell 0
     have r1 := hb9.cell 1
     have GG := Lib.hid (((G1.out.trans (G9.out.mono G1.out.size)).setCell (p := ⟨bR, 0, none⟩) (by rw [← HBRE.out]; show w.heap.size ≤ w.heap.size + 1 + 1; omega) (.int .i64 (max x.c (u0 - u3)))).setCell (p := ⟨bR, 1, none⟩) (by rw [← HBRE.out]; show w.heap.size ≤ w.heap.size + 1 + 1; omega) (.int .i64 (min x.d (u1 - u2))))
     clear hb9
     refine bodyPost_ret (v := .tuple #[rv rr, .int .i64 ce]) ?_ rfl ⟨rfl, GG.out⟩
     rw [HR2.out, HE2.out, HCV.out]
     simp [results, Tryz.results55, go_sem, r0, r1]
     rfl
  ·have HK := Lib.hid (show cartIx p source known = (lookL p known every).length from findIdx_no (by rw [← HL.out.num]; exact hno))
   have HE2 := Lib.hid (show ce = 17 by have h := HE.out; rw [HK.out, if_pos rfl] at h; exact h)
   have HR2 := Lib.hid (show rr = zR by rw [HR.out, HE2.out]; rfl)
   clear hno
   go_wp2_with fail
   have hb9 := ((HBR.out).set_ 0 (.int .i64 0)).set_ 1 (.int .i64 0)
   have r0 := hb9.cell 0
   have r1 := hb9.cell 1
   have GG := Lib.hid (((G1.out.trans (G5b.out.mono G1.out.size)).setCell (p := ⟨bR, 0, none⟩) (by rw [← HBRE.out]; show w.heap.size ≤ w.heap.size + 1 + 1; omega) (.int .i64 0)).setCell (p := ⟨bR, 1, none⟩) (by rw [← HBRE.out]; show w.heap.size ≤ w.heap.size + 1 + 1; omega) (.int .i64 0))
   clear hb9
   refine bodyPost_ret (v := .tuple #[rv rr, .int .i64 ce]) ?_ rfl ⟨rfl, GG.out⟩
   rw [HR2.out, HE2.out]
   simp [results, Tryz.results55, go_sem, r0, r1]
   first | done | exact ⟨rfl, rfl⟩ | exact ⟨⟨rfl, rfl⟩, rfl⟩
   
 ·have HE2 := Lib.hid (show ce = fe by rw [HE.out, if_neg he])
  have HR2 := Lib.hid (show rr = zR by rw [HR.out, HE2.out, if_neg he])
  have hne : (fe != 0) = true := by simpa using he
  go_enter Tryz.func55, Tryz.ntmps55
  go_upto_region 1 with fail
  rw [HW1.out]
  have HBRE := Lib.hid hbR
  clear hbR
  go_upto_region 2 with (go_at_call 80; (with_reducible refine (T.out _ HG.out HI.out).mono ?_); rintro e W3 ⟨rfl, hg⟩; have G3 := Lib.hid (HG.out.trans (hg.mono HG.out.size)); clear hg)
  have hb5 := HB3.out.ext G3.out
  have q0 := hb5.cell 0
  have q1 := hb5.cell 1
  have q2 := hb5.frozen 0
  have q3 := hb5.frozen 1
  clear hb5
  go_wp2_with fail
  have hb9 := ((HB3.out.ext G3.out).set_ 0 (.int .i64 0)).set_ 1 (.int .i64 0)
  have r0 := hb9.cell 0
  have r1 := hb9.cell 1
  have GG := Lib.hid (((G1.out.trans (G3.out.mono G1.out.size)).setCell (p := ⟨bR, 0, none⟩) (by rw [← HBRE.out]; show w.heap.size ≤ w.heap.size + 1 + 1; omega) (.int .i64 0)).setCell (p := ⟨bR, 1, none⟩) (by rw [← HBRE.out]; show w.heap.size ≤ w.heap.size + 1 + 1; omega) (.int .i64 0))
  clear hb9
  refine bodyPost_ret (v := .tuple #[rv rr, .int .i64 ce]) ?_ rfl ⟨rfl, GG.out⟩
  rw [HR2.out, HE2.out]
  simp [results, Tryz.results55, go_sem, r0, r1]
  first | done | exact ⟨rfl, rfl⟩ | exact ⟨⟨rfl, rfl⟩, rfl⟩
end Go.Proofs.YtkoejeghihcmlaaGreat
namespace Go.Proofs.YtkoejeghihcmlaaGreat
open Go.RowKit Go.Shelf
/-- Values laid into a list from a place on. -/
def lput (l : List Value) (o : Nat) (vs : List Value) : List Value := l.take o ++ vs ++ l.drop (o + vs.length)
theorem lput_len {l vs : List Value} {o : Nat} (h : o + vs.length ≤ l.length) : (lput l o vs).length = l.length := by
 unfold lput
 simp only [List.length_append, List.length_take, List.length_drop]
 omega
theorem lput_cons {l vs : List Value} {o : Nat} {v : Value} (h : o + (v :: vs).length ≤ l.length) : lput (l.set o v) (o + 1) vs = lput l o (v :: vs) := by
 rw [List.length_cons] at h
 unfold lput
 rw [List.length_cons, show o + (vs.length + 1) = o + 1 + vs.length by omega, List.drop_set_of_lt (by omega), List.take_add_one, List.take_set_of_le (by omega), List.getElem?_set_self (by omega)]
 simp
theorem blk_setCells {g : Nat} {t : TypeId} : ∀ {vs : List Value} {o : Nat} {w : World} {cur : Array Value}, Blk w g t cur → o + vs.length ≤ cur.size → Blk (w.setCells g o vs) g t (lput cur.toList o vs).toArray
 | [], o, w, cur, h, _ => by
  unfold lput
  simp only [World.setCells, List.append_nil, List.length_nil, Nat.add_zero, List.take_append_drop, Array.toArray_toList]
  exact h
 | v :: vs, o, w, cur, h, hl => by
  have hl' : o + 1 + vs.length ≤ (cur.setIfInBounds o v).size := by rw [Array.size_setIfInBounds, List.length_cons] at *; omega
  have := blk_setCells (vs := vs) (o := o + 1) (h.set_ o v) hl'
  rw [Array.toList_setIfInBounds, lput_cons (by rw [Array.length_toList]; exact hl)] at this
  exact this
theorem fix_setCells {g : Nat} : ∀ (vs : List Value) (o : Nat) (w : World), Fix g g w (w.setCells g o vs)
 | [], _, _ => Fix.refl _ _ _
 | v :: vs, o, w => ((Fix.refl g g w).setCell (p := ⟨g, o, none⟩) (.inl rfl) v).trans (fix_setCells vs (o + 1) _)
section
variable {α : Type} {f : α → List Value} {size : Nat} {e : TypeId}
theorem own_inv {w : World} {base g n cap : Nat} {ys : List α} (h : OwnL f size e w base (.slice (some ⟨g, 0, none⟩) n cap) ys) :
  n = ys.length ∧ base ≤ g ∧ ∃ cur, Blk w g e cur ∧ n ≤ cap ∧ cap ≤ maxLen ∧ cur.size = cap * size ∧ cur.toList.take (n * size) = ys.flatMap f := by
 obtain ⟨h1, ⟨e0, _⟩ | ⟨g', cap', cur, e1, hb, hg, hn, hm, hs, ht⟩⟩ := h
 ·cases e0
 ·cases e1
  exact ⟨rfl, hb, cur, hg, hn, hm, hs, ht⟩
theorem own_mk (hf : ∀ x, (f x).length = size) {w : World} {base g n cap : Nat} {ys : List α} {cur : Array Value} (hn0 : n = ys.length) (hb : base ≤ g) (hg : Blk w g e cur) (hn : n ≤ cap) (hm : cap ≤ maxLen) (hs : cur.size = cap * size) (ht : cur.toList.take (n * size) = ys.flatMap f) :
  OwnL f size e w base (.slice (some ⟨g, 0, none⟩) n cap) ys := by
 subst hn0
 exact ⟨flat_len hf ys, .inr ⟨g, cap, cur, rfl, hb, hg, hn, hm, hs, ht⟩⟩
theorem flat_take (hf : ∀ x, (f x).length = size) : ∀ (ys : List α) (k : Nat), (ys.flatMap f).take (k * size) = (ys.take k).flatMap f
 | [], k => by simp
 | y :: ys, 0 => by simp
 | y :: ys, k + 1 => by
  rw [List.flatMap_cons, List.take_succ_cons, List.flatMap_cons, ← flat_take hf ys k, List.take_append, hf, Nat.succ_mul, Nat.add_sub_cancel, List.take_of_length_le (by rw [hf]; omega)]
theorem flat_drop (hf : ∀ x, (f x).length = size) : ∀ (ys : List α) (k : Nat), (ys.flatMap f).drop (k * size) = (ys.drop k).flatMap f
 | [], k => by simp
 | y :: ys, 0 => by simp
 | y :: ys, k + 1 => by
  rw [List.flatMap_cons, List.drop_succ_cons, ← flat_drop hf ys k, List.drop_append, hf, Nat.succ_mul, Nat.add_sub_cancel, List.drop_of_length_le (by rw [hf]; omega)]
  rfl
theorem flat_lput (hf : ∀ x, (f x).length = size) {ys : List α} {i : Nat} (hi : i < ys.length) (x : α) : lput (ys.flatMap f) (i * size) (f x) = (ys.set i x).flatMap f := by
 unfold lput
 rw [hf, flat_take hf, show i * size + size = (i + 1) * size by rw [Nat.succ_mul], flat_drop hf, List.set_eq_take_append_cons_drop, if_pos hi, List.flatMap_append, List.flatMap_cons, List.append_assoc]
theorem take_lput {l vs : List Value} {o m : Nat} (h : o + vs.length ≤ m) : (lput l o vs).take m = lput (l.take m) o vs := by
 unfold lput
 rw [List.append_assoc, List.append_assoc, List.take_append, List.take_append, List.take_take, List.take_take, Nat.min_eq_right (by omega), Nat.min_eq_left (by omega)]
 by_cases hl : o ≤ l.length
 ·rw [List.length_take, Nat.min_eq_left hl, List.take_of_length_le (l := vs) (by omega), List.drop_take, show m - o - vs.length = m - (o + vs.length) by omega]
 ·rw [List.drop_of_length_le (by omega), List.drop_of_length_le (by rw [List.length_take]; omega)]
  rw [List.length_take, Nat.min_eq_right (by omega), List.take_of_length_le (l := vs) (by omega), List.take_nil]
/-- A store of one element. -/
theorem OwnL.put (hf : ∀ x, (f x).length = size) {w : World} {base g n cap i : Nat} {ys : List α} (h : OwnL f size e w base (.slice (some ⟨g, 0, none⟩) n cap) ys) (hi : i < n) (x : α) :
  OwnL f size e (w.setCells g (i * size) (f x)) base (.slice (some ⟨g, 0, none⟩) n cap) (ys.set i x) := by
 obtain ⟨hn0, hb, cur, hg, hn, hm, hs, ht⟩ := own_inv h
 have hle : (i + 1) * size ≤ n * size := Nat.mul_le_mul_right _ hi
 have hle2 : n * size ≤ cap * size := Nat.mul_le_mul_right _ hn
 rw [Nat.succ_mul] at hle
 have hbd : i * size + (f x).length ≤ cur.size := by rw [hf, hs]; omega
 refine own_mk hf (by rw [List.length_set]; exact hn0) hb (blk_setCells hg hbd) hn hm ?_ ?_
 ·rw [List.size_toArray, lput_len (by rw [Array.length_toList]; exact hbd), Array.length_toList, hs]
 ·rw [take_lput (by rw [hf]; omega), ht, flat_lput hf (by omega)]
/-- Its beginning. -/
theorem OwnL.front (hf : ∀ x, (f x).length = size) {w : World} {base g n cap i : Nat} {ys : List α} (h : OwnL f size e w base (.slice (some ⟨g, 0, none⟩) n cap) ys) (hi : i ≤ n) :
  OwnL f size e w base (.slice (some ⟨g, 0, none⟩) i cap) (ys.take i) := by
 obtain ⟨hn0, hb, cur, hg, hn, hm, hs, ht⟩ := own_inv h
 have hle : i * size ≤ n * size := Nat.mul_le_mul_right _ hi
 refine own_mk hf (by rw [List.length_take]; omega) hb hg (by omega) hm hs ?_
 rw [← flat_take hf, ← ht, List.take_take, Nat.min_eq_left hle]
/-- Stores behind its beginning. -/
theorem OwnL.behind (hf : ∀ x, (f x).length = size) {w : World} {base g i cap o : Nat} {ys : List α} {vs : List Value} (h : OwnL f size e w base (.slice (some ⟨g, 0, none⟩) i cap) ys) (ho : i * size ≤ o) (hv : o + vs.length ≤ cap * size) :
  OwnL f size e (w.setCells g o vs) base (.slice (some ⟨g, 0, none⟩) i cap) ys := by
 obtain ⟨hn0, hb, cur, hg, hn, hm, hs, ht⟩ := own_inv h
 refine own_mk hf hn0 hb (blk_setCells hg (by rw [hs]; exact hv)) hn hm ?_ ?_
 ·rw [List.size_toArray, lput_len (by rw [Array.length_toList (xs := cur), hs]; exact hv), Array.length_toList, hs]
 ·show (lput cur.toList o vs).take (i * size) = _
  unfold lput
  rw [← ht, List.append_assoc, List.take_append_of_le_length (by rw [List.length_take, Array.length_toList, hs]; have : i * size ≤ cap * size := Nat.mul_le_mul_right _ hn; omega), List.take_take, Nat.min_eq_left ho]
end
end Go.Proofs.YtkoejeghihcmlaaGreat
namespace Go.Proofs.YtkoejeghihcmlaaGreat
open Go.RowKit Go.Shelf
theorem zeroCells_len (z : Array Value) (m : Nat) : (Builtin.zeroCells z m).toList.length = m * z.size := by simp [Builtin.zeroCells]
theorem zeroCells_one {z : Array Value} (hz : 0 < z.size) (h1 : ∀ v ∈ z, v.oneCell' = true) (m : Nat) : ∀ v ∈ (Builtin.zeroCells z m).toList, v.oneCell' = true := by
 intro v hv
 simp only [Builtin.zeroCells, Array.toList_map, List.mem_map] at hv
 obtain ⟨i, -, rfl⟩ := hv
 have hi : i % z.size < z.size := Nat.mod_lt _ hz
 rw [getElem!_pos z (i % z.size) hi]
 exact h1 _ (Array.getElem_mem hi)
theorem run_clear_gen (w : World) (t e ty : TypeId) (z : Value) (size b o m c : Nat) (ht : Tryz.prog.underlying t = some (.slice e)) (hv : ∀ w, (zeroValue e).run Tryz.prog w = .ok z w) (hm : 0 < m) (hsz : z.cells.size = size) (h0 : 0 < size) (h1 : ∀ v ∈ z.cells, v.oneCell' = true)
  (hc : ∀ j, j < m * size → (w.cell? ⟨b, o + j, none⟩).isSome = true) (hf : ∀ j, j < m * size → w.frozen? ⟨b, o + j, none⟩ = false) :
  (Builtin.clear_ #[t] ty #[.slice (some ⟨b, o, none⟩) m c]).run Tryz.prog w = .ok (.tuple #[]) (w.setCells b o (Builtin.zeroCells z.cells m).toList) := by
 have hl := zeroCells_len z.cells m
 rw [hsz] at hl
 have hst := run_storeCells_cells (P := Tryz.prog) b o (Builtin.zeroCells z.cells m).toList 0 w (by rw [hl]; simpa using hc) (by rw [hl]; simpa using hf) (zeroCells_one (by omega) h1 m)
 simp only [Nat.add_zero] at hst
 obtain ⟨k, rfl⟩ : ∃ k, m = k + 1 := ⟨m - 1, by omega⟩
 simp [Builtin.clear_, run_underlying ht, hv, hst]
end Go.Proofs.YtkoejeghihcmlaaGreat
namespace Go.Proofs.YtkoejeghihcmlaaGreat
open Go.RowKit Go.Shelf
set_option maxRecDepth 100000 in
set_option maxHeartbeats 4000000 in
theorem idxStand_any (g : FuncId) (cl : Array Value) (q : Six → Bool) (A : Option Addr) (n c : Nat) (l : List Six) (w : World) (ha : Arr scells 6 w A n l) (hn : n ≤ 1000000)
  (eg : ∀ args W, (callFunc g args).run Tryz.prog W = .ok (.enter g args) W) (hq : ∀ x W, Below w.heap.size w W → Calls Tryz.prog g (#[sv x] ++ cl) W fun e W' => e = .returned (.bool (q x)) ∧ Below W.heap.size W W') :
  Calls Tryz.prog 226 #[.slice A n c, .func (.func g) #[] cl] w fun e w' => (∃ i : Int, e = .returned (.int .i64 i) ∧ ((∃ k : Nat, i = k ∧ k < n ∧ q (l.getD k z6) = true ∧ ∀ j, j < k → q (l.getD j z6) = false) ∨ (i = -1 ∧ ∀ j, j < n → q (l.getD j z6) = false))) ∧ Below w.heap.size w w' := by
 have HA := Lib.hid ha
 have HQ := Lib.hid hq
 clear ha hq
 go_enter Tryz.func226, Tryz.ntmps226
 go_wp2_with fail
 go_loopw [8] (fun i wr => ∃ k : Nat, k ≤ n ∧ i = .int .i64 k ∧ Below w.heap.size w wr ∧ ∀ j, j < k → q (l.getD j z6) = false) (fun i _ => n - (intOf i).toNat)
 case atStart => exact ⟨0, Nat.zero_le _, rfl, Below.refl _ _, fun j hj => absurd hj (by omega)⟩
 case round =>
  obtain ⟨k, hk, rfl, hg, hno⟩ := hrel
  have HNO := Lib.hid hno
  have HG := Lib.hid hg
  clear hno
  by_cases hkn : k < n
  ·obtain ⟨b, o, rfl, -, -, hc⟩ := six_at (HA.out.below hg) hkn
   obtain ⟨d0, d1, d2, d3, d4, d5⟩ := hc _ (Below.refl _ _)
   obtain ⟨y, hy⟩ : ∃ y, l.getD k z6 = y := ⟨_, rfl⟩
   rw [hy] at d0 d1 d2 d3 d4 d5
   obtain ⟨pb, hpb⟩ : ∃ pb, q y = pb := ⟨_, rfl⟩
   have T := HQ.out y wr hg
   rw [hpb] at T
   have HT := Lib.hid T
   have HY := Lib.hid hy
   have HPB := Lib.hid hpb
   clear hc hy T hpb hg
   cases pb with
   | true =>
    go_wp2_with (go_at_fn g; (with_reducible refine (HT.out).mono ?_); rintro e w' ⟨rfl, hg2⟩; have G2 := Lib.hid (HG.out.trans (hg2.mono HG.out.size)); clear hg2)
    go_ret
    exact ⟨⟨k, rfl, .inl ⟨k, rfl, hkn, by rw [HY.out]; exact HPB.out, HNO.out⟩⟩, G2.out⟩
   | false =>
    go_wp2_with (go_at_fn g; (with_reducible refine (HT.out).mono ?_); rintro e w' ⟨rfl, hg2⟩; have G2 := Lib.hid (HG.out.trans (hg2.mono HG.out.size)); clear hg2)
    go_roundw
    case rel => exact ⟨k + 1, by omega, by go_num, G2.out, fun j hj => by
     by_cases e : j = k
     ·subst e; rw [HY.out]; exact HPB.out
     ·exact HNO.out j (by omega)⟩
    case measure => simp [intOf]; omega
  ·obtain rfl : n = k := by omega
   go_wp2_with fail
   go_ret
   exact ⟨⟨-1, rfl, .inr ⟨rfl, HNO.out⟩⟩, HG.out⟩
set_option maxRecDepth 100000 in
set_option maxHeartbeats 4000000 in
theorem delLoad_any (g0 : FuncId) (cl : Array Value) (q : Six → Bool) (base g n c : Nat) (xs : List Six) (w : World) (h : OwnL scells 6 103 w base (.slice (some ⟨g, 0, none⟩) n c) xs) (hn : n ≤ 1000000)
  (eg : ∀ args W, (callFunc g0 args).run Tryz.prog W = .ok (.enter g0 args) W) (hq : ∀ x W, Fix g g w W → Calls Tryz.prog g0 (#[sv x] ++ cl) W fun e W' => e = .returned (.bool (q x)) ∧ Below W.heap.size W W') :
  Calls Tryz.prog 187 #[.slice (some ⟨g, 0, none⟩) n c, .func (.func g0) #[] cl] w fun e w' => ∃ m, e = .returned (.slice (some ⟨g, 0, none⟩) m c) ∧ OwnL scells 6 103 w' base (.slice (some ⟨g, 0, none⟩) m c) (xs.filter fun x => !q x) ∧ Fix g g w w' := by
 obtain ⟨hn0, hbg, cur0, hb0, hnc, hcm, -, -⟩ := own_inv h
 obtain ⟨A', c', hv', -, -, ha, -⟩ := OwnL.arr kdL h
 cases hv'
 have hgl := hb0.lt
 have T := Lib.hid (idxLoad_any g0 cl q (some ⟨g, 0, none⟩) xs.length c xs w ha (by omega) eg (fun x W gg => hq x W (Fix.of_below gg)))
 have HQ := Lib.hid hq
 have HOW := Lib.hid h
 have HN0 := Lib.hid hn0
 have hxl : xs.length ≤ 1000000 := by omega
 have hxc : xs.length ≤ c := by omega
 unfold maxLen at hcm
 clear h hq ha hb0 hn0 hbg cur0
 obtain ⟨n, hnn⟩ : ∃ n, xs.length = n := ⟨_, rfl⟩
 rw [hnn] at T HOW hxl hxc ⊢
 have HNN := Lib.hid hnn
 clear hnn hn hnc HN0
 go_enter Tryz.func187, Tryz.ntmps187
 go_upto_region 2 with (go_at_call 127; (with_reducible refine T.out.mono ?_); rintro e W1 ⟨⟨ix, rfl, hix⟩, hg⟩; have G1 := Lib.hid hg; have HIX := Lib.hid hix; clear hg hix)
 rcases HIX.out with ⟨k0, rfl, hk0, hq0, hno0⟩ | ⟨rfl, hno0⟩
 ·have hne : ((k0 : Int) == -1) = false := by simp
  have HQ0 := Lib.hid hq0
  have HNO := Lib.hid hno0
  clear hq0 hno0
  have HST := Lib.hid (show (xs.take k0).filter (fun x => !q x) = xs.take k0 from List.filter_eq_self.2 (fun x hx => by
   obtain ⟨j, hj, rfl⟩ := List.getElem_of_mem hx
   have hj' : j < k0 := by rw [List.length_take] at hj; omega
   have hjn : j < xs.length := by rw [HNN.out]; omega
   have := HNO.out j hj'
   rw [List.getElem_take]
   rw [List.getD_eq_getElem?_getD, List.getElem?_eq_getElem hjn] at this
   simpa using this))
  go_upto_region 4 with fail
  go_wp2_with fail
  go_loopw [5, 6] (fun i j wr => ∃ (a b : Nat) (ys : List Six), i = .int .i64 a ∧ j = .int .i64 b ∧ a < b ∧ b ≤ n ∧ OwnL scells 6 103 wr base (.slice (some ⟨g, 0, none⟩) n c) ys ∧ Fix g g w wr ∧ ys.take a = (xs.take b).filter (fun x => !q x) ∧ ys.drop b = xs.drop b) (fun _ j _ => n - (intOf j).toNat)
  case atStart =>
   refine ⟨k0, k0 + 1, xs, rfl, by go_num, by omega, by omega, HOW.out.ext G1.out, Fix.of_below G1.out, ?_, rfl⟩
   rw [List.take_succ_eq_append_getElem (by rw [HNN.out]; omega), List.filter_append, HST.out]
   have := HQ0.out
   rw [List.getD_eq_getElem?_getD, List.getElem?_eq_getElem (by rw [HNN.out]; omega)] at this
   have hk0' : k0 < xs.length := by rw [HNN.out]; omega
   have this2 : q xs[k0] = true := this
   simp [this2]
  case round =>
   obtain ⟨a, b, ys, rfl, rfl, hab, hbn, ho, hfx, htk, hdr⟩ := hrel
   obtain ⟨hyl, -, cur, hcb, -, -, -, -⟩ := own_inv ho
   obtain ⟨A', c', hv', -, -, har, -⟩ := OwnL.arr kdL ho
   have hA' : A' = some ⟨g, 0, none⟩ := by cases hv'; rfl
   subst hA'
   rw [← hyl] at har
   clear hv'
   have HO := Lib.hid ho
   have HFX := Lib.hid hfx
   have HTK := Lib.hid htk
   have HDR := Lib.hid hdr
   have HYL := Lib.hid hyl
   have HCB := Lib.hid hcb
   have HAR := Lib.hid har
   clear ho hfx htk hdr hyl hcb har
   by_cases hbl : b < n
   ·obtain ⟨b', o', e', -, hmem, hc⟩ := six_at HAR.out hbl
    cases e'
    have hcs := hc _ (Below.refl _ _)
    obtain ⟨x0, x1, x2, x3, x4, x5⟩ := hcs
    rw [Nat.zero_add] at x0 x1 x2 x3 x4 x5
    have hxy : ys.getD b z6 = xs.getD b z6 := by
     have h1 : (ys.drop b)[0]? = (xs.drop b)[0]? := by rw [HDR.out]
     rw [List.getElem?_drop, List.getElem?_drop, Nat.add_zero] at h1
     rw [List.getD_eq_getElem?_getD, List.getD_eq_getElem?_getD, h1]
    have hxs : xs[b]? = some (xs.getD b z6) := getD_six (by rw [HNN.out]; exact hbl)
    obtain ⟨x, hx⟩ : ∃ x, xs.getD b z6 = x := ⟨_, rfl⟩
    rw [hxy, hx] at x0 x1 x2 x3 x4 x5
    rw [hx] at hxs
    have HTN := Lib.hid (show (xs.take (b + 1)).filter (fun x => !q x) = ys.take a ++ (if q x = true then [] else [x]) by
     rw [HTK.out, List.take_add_one, hxs, List.filter_append]
     by_cases hqx : q x = true <;> simp [hqx])
    have HDN := Lib.hid (show ys.drop (b + 1) = xs.drop (b + 1) by rw [← List.drop_drop, HDR.out, List.drop_drop])
    have TQ := Lib.hid (fun W (g : Fix g g w W) => HQ.out x W g)
    obtain ⟨W3, hW3⟩ : ∃ W3, wr.alloc (.cells #[.int .i64 x.a, .int .i64 x.b, .int .i64 x.c, .int .i64 x.d, .int .i64 x.e, .int .i64 x.f] 103) = W3 := ⟨_, rfl⟩
    have g3 : Below wr.heap.size wr W3 := by rw [← hW3]; exact one_more _ _
    have b3 : Blk W3 wr.heap.size 103 #[.int .i64 x.a, .int .i64 x.b, .int .i64 x.c, .int .i64 x.d, .int .i64 x.e, .int .i64 x.f] := by rw [← hW3]; exact Blk.new _ _ _
    have hWs : wr.heap.size < W3.heap.size := b3.lt
    have T3 := Lib.hid (TQ.out W3 (HFX.out.trans (Fix.of_below g3)))
    have HKK := Lib.hid (fun W (gg : Below W3.heap.size W3 W) => (show Below wr.heap.size wr W from g3.trans (gg.mono (Nat.le_of_lt hWs))))
    have HB3 := Lib.hid b3
    have y0 := b3.cell 0
    have y1 := b3.cell 1
    have y2 := b3.cell 2
    have y3 := b3.cell 3
    have y4 := b3.cell 4
    have y5 := b3.cell 5
    obtain ⟨qb, hqb⟩ : ∃ qb, q x = qb := ⟨_, rfl⟩
    rw [hqb] at T3 HTN
    have hab2 : (a : Int) < (n : Int) := by omega
    have HG3 := Lib.hid g3
    have HW3 := Lib.hid hW3
    clear hc hxy hxs hx hqb hmem b3 g3 hW3
    cases qb with
    | true =>
     go_upto_region 8 with fail
     rw [HW3.out]
     go_wp2_with (go_at_fn g0; (with_reducible refine (T3.out).mono ?_); rintro e W4 ⟨rfl, hg4⟩; have G4 := Lib.hid hg4; clear hg4)
     go_roundw
     case rel =>
      refine ⟨a, b + 1, ys, rfl, by go_num, by omega, by omega, HO.out.ext (HKK.out _ G4.out), HFX.out.trans (Fix.of_below (HKK.out _ G4.out)), ?_, HDN.out⟩
      rw [HTN.out]; simp
     case measure => simp [intOf]; omega
    | false =>
     go_upto_region 8 with fail
     rw [HW3.out]
     go_upto_region 9 with (go_at_fn g0; (with_reducible refine (T3.out).mono ?_); rintro e W4 ⟨rfl, hg4⟩; have G4 := Lib.hid hg4; clear hg4)
     have HB4 := Lib.hid (HB3.out.ext G4.out)
     have HO4 := Lib.hid (HO.out.ext (HKK.out _ G4.out))
     obtain ⟨-, -, cur4, hcb4, -, -, hsz4, -⟩ := own_inv HO4.out
     have hc6 : a * 6 + 6 ≤ c * 6 := by omega
     have z0 := HB4.out.cell 0
     have z1 := HB4.out.cell 1
     have z2 := HB4.out.cell 2
     have z3 := HB4.out.cell 3
     have z4 := HB4.out.cell 4
     have z5 := HB4.out.cell 5
     have hcc : ∀ j, j < c * 6 → W4.cell? ⟨g, j, none⟩ = some (cur4[j]!) := fun j hj => by rw [hcb4.cell, Array.getElem?_eq_getElem (by omega), getElem!_pos cur4 j (by omega)]
     have w0 := hcc (a * 6) (by omega)
     have w1 := hcc (a * 6 + 1) (by omega)
     have w2 := hcc (a * 6 + 2) (by omega)
     have w3 := hcc (a * 6 + 3) (by omega)
     have w4 := hcc (a * 6 + 4) (by omega)
     have w5 := hcc (a * 6 + 5) (by omega)
     have v0 := hcb4.frozen (a * 6)
     have v1 := hcb4.frozen (a * 6 + 1)
     have v2 := hcb4.frozen (a * 6 + 2)
     have v3 := hcb4.frozen (a * 6 + 3)
     have v4 := hcb4.frozen (a * 6 + 4)
     have v5 := hcb4.frozen (a * 6 + 5)
     clear hcc hcb4 hsz4 y0 y1 y2 y3 y4 y5 x0 x1 x2 x3 x4 x5
     go_wp2_with fail
     go_roundw
     case rel =>
      have hput := HO4.out.put scells_len (i := a) (by omega) x
      have hfix : Fix g g W4 (W4.setCells g (a * 6) (scells x)) := fix_setCells _ _ _
      refine ⟨a + 1, b + 1, ys.set a x, by go_num, by go_num, by omega, by omega, hput, (HFX.out.trans (Fix.of_below (HKK.out _ G4.out))).trans hfix, ?_, ?_⟩
      ·rw [HTN.out, List.take_set]
       have hal : a < ys.length := by rw [← HYL.out]; omega
       rw [List.take_succ_eq_append_getElem hal, List.set_append_right _ _ (by rw [List.length_take]; omega)]
       rw [List.length_take, Nat.min_eq_left (by omega), Nat.sub_self]
       simp
      ·rw [List.drop_set_of_lt (by omega)]; exact HDN.out
     case measure => simp [intOf]; omega
   ·obtain rfl : n = b := by omega
    have HTK2 := Lib.hid (show ys.take a = xs.filter (fun x => !q x) by rw [HTK.out, List.take_of_length_le (by rw [HNN.out]; exact Nat.le_refl _)])
    have hca : ¬ c = a := by omega
    obtain ⟨m, hm⟩ : ∃ m, n - a = m := ⟨_, rfl⟩
    obtain ⟨-, -, curn, hcbn, -, -, hszn, -⟩ := own_inv HO.out
    obtain ⟨i0, hi0, hz0, hz1, hz2⟩ := info_parts info103
    have hclr := Lib.hid (fun ty => run_clear_gen wr 34 103 ty (.agg #[.int .i64 0, .int .i64 0, .int .i64 0, .int .i64 0, .int .i64 0, .int .i64 0]) 6 g (a * 6) (n - a) (c - a) Tryz.underlying34 (fun w => by simp [zeroValue, typeInfo, hi0, hz0]) (by omega) rfl (by decide) (by intro v hv; simp [Value.cells] at hv; subst hv; rfl)
     (fun j hj => by rw [hcbn.cell, Array.getElem?_eq_getElem (by rw [hszn]; omega)]; rfl) (fun j _ => hcbn.frozen _))
    have hclr2 := hclr.out
    clear hcbn hszn hi0 hz0 hz1 hz2
    have hac : (a : Int) ≤ (n : Int) := by omega
    have hac2 : (a : Int) ≤ (c : Int) := by omega
    obtain ⟨vs, hvs⟩ : ∃ vs, (Builtin.zeroCells (Value.agg #[.int .i64 0, .int .i64 0, .int .i64 0, .int .i64 0, .int .i64 0, .int .i64 0]).cells (n - a)).toList = vs := ⟨_, rfl⟩
    have HVL := Lib.hid (show vs.length = (n - a) * 6 by rw [← hvs]; exact zeroCells_len _ _)
    rw [hvs] at hclr2
    clear hvs hclr hm
    go_wp2_with fail
    go_ret
    refine ⟨a, rfl, ?_, HFX.out.trans (fix_setCells _ _ _)⟩
    have hfr := HO.out.front scells_len (i := a) (by omega)
    rw [HTK2.out] at hfr
    exact hfr.behind scells_len (Nat.le_refl _) (by rw [HVL.out]; omega)
 ·have HFI := Lib.hid (show xs.filter (fun x => !q x) = xs from List.filter_eq_self.2 (fun x hx => by
   obtain ⟨j, hj, rfl⟩ := List.getElem_of_mem hx
   have := hno0 j (by rw [← HNN.out]; exact hj)
   rw [List.getD_eq_getElem?_getD, List.getElem?_eq_getElem hj] at this
   simpa using this))
  clear hno0
  go_wp2_with fail
  go_ret
  exact ⟨n, rfl, by rw [HFI.out]; exact HOW.out.ext G1.out, Fix.of_below G1.out⟩
set_option maxRecDepth 100000 in
set_option maxHeartbeats 4000000 in
theorem delStand_any (g0 : FuncId) (cl : Array Value) (q : Six → Bool) (base g n c : Nat) (xs : List Six) (w : World) (h : OwnL scells 6 105 w base (.slice (some ⟨g, 0, none⟩) n c) xs) (hn : n ≤ 1000000)
  (eg : ∀ args W, (callFunc g0 args).run Tryz.prog W = .ok (.enter g0 args) W) (hq : ∀ x W, Fix g g w W → Calls Tryz.prog g0 (#[sv x] ++ cl) W fun e W' => e = .returned (.bool (q x)) ∧ Below W.heap.size W W') :
  Calls Tryz.prog 189 #[.slice (some ⟨g, 0, none⟩) n c, .func (.func g0) #[] cl] w fun e w' => ∃ m, e = .returned (.slice (some ⟨g, 0, none⟩) m c) ∧ OwnL scells 6 105 w' base (.slice (some ⟨g, 0, none⟩) m c) (xs.filter fun x => !q x) ∧ Fix g g w w' := by
 obtain ⟨hn0, hbg, cur0, hb0, hnc, hcm, -, -⟩ := own_inv h
 obtain ⟨A', c', hv', -, -, ha, -⟩ := OwnL.arr kdS h
 cases hv'
 have hgl := hb0.lt
 have T := Lib.hid (idxStand_any g0 cl q (some ⟨g, 0, none⟩) xs.length c xs w ha (by omega) eg (fun x W gg => hq x W (Fix.of_below gg)))
 have HQ := Lib.hid hq
 have HOW := Lib.hid h
 have HN0 := Lib.hid hn0
 have hxl : xs.length ≤ 1000000 := by omega
 have hxc : xs.length ≤ c := by omega
 unfold maxLen at hcm
 clear h hq ha hb0 hn0 hbg cur0
 obtain ⟨n, hnn⟩ : ∃ n, xs.length = n := ⟨_, rfl⟩
 rw [hnn] at T HOW hxl hxc ⊢
 have HNN := Lib.hid hnn
 clear hnn hn hnc HN0
 go_enter Tryz.func189, Tryz.ntmps189
 go_upto_region 2 with (go_at_call 226; (with_reducible refine T.out.mono ?_); rintro e W1 ⟨⟨ix, rfl, hix⟩, hg⟩; have G1 := Lib.hid hg; have HIX := Lib.hid hix; clear hg hix)
 rcases HIX.out with ⟨k0, rfl, hk0, hq0, hno0⟩ | ⟨rfl, hno0⟩
 ·have hne : ((k0 : Int) == -1) = false := by simp
  have HQ0 := Lib.hid hq0
  have HNO := Lib.hid hno0
  clear hq0 hno0
  have HST := Lib.hid (show (xs.take k0).filter (fun x => !q x) = xs.take k0 from List.filter_eq_self.2 (fun x hx => by
   obtain ⟨j, hj, rfl⟩ := List.getElem_of_mem hx
   have hj' : j < k0 := by rw [List.length_take] at hj; omega
   have hjn : j < xs.length := by rw [HNN.out]; omega
   have := HNO.out j hj'
   rw [List.getElem_take]
   rw [List.getD_eq_getElem?_getD, List.getElem?_eq_getElem hjn] at this
   simpa using this))
  go_upto_region 4 with fail
  go_wp2_with fail
  go_loopw [5, 6] (fun i j wr => ∃ (a b : Nat) (ys : List Six), i = .int .i64 a ∧ j = .int .i64 b ∧ a < b ∧ b ≤ n ∧ OwnL scells 6 105 wr base (.slice (some ⟨g, 0, none⟩) n c) ys ∧ Fix g g w wr ∧ ys.take a = (xs.take b).filter (fun x => !q x) ∧ ys.drop b = xs.drop b) (fun _ j _ => n - (intOf j).toNat)
  case atStart =>
   refine ⟨k0, k0 + 1, xs, rfl, by go_num, by omega, by omega, HOW.out.ext G1.out, Fix.of_below G1.out, ?_, rfl⟩
   rw [List.take_succ_eq_append_getElem (by rw [HNN.out]; omega), List.filter_append, HST.out]
   have := HQ0.out
   rw [List.getD_eq_getElem?_getD, List.getElem?_eq_getElem (by rw [HNN.out]; omega)] at this
   have hk0' : k0 < xs.length := by rw [HNN.out]; omega
   have this2 : q xs[k0] = true := this
   simp [this2]
  case round =>
   obtain ⟨a, b, ys, rfl, rfl, hab, hbn, ho, hfx, htk, hdr⟩ := hrel
   obtain ⟨hyl, -, cur, hcb, -, -, -, -⟩ := own_inv ho
   obtain ⟨A', c', hv', -, -, har, -⟩ := OwnL.arr kdS ho
   have hA' : A' = some ⟨g, 0, none⟩ := by cases hv'; rfl
   subst hA'
   rw [← hyl] at har
   clear hv'
   have HO := Lib.hid ho
   have HFX := Lib.hid hfx
   have HTK := Lib.hid htk
   have HDR := Lib.hid hdr
   have HYL := Lib.hid hyl
   have HCB := Lib.hid hcb
   have HAR := Lib.hid har
   clear ho hfx htk hdr hyl hcb har
   by_cases hbl : b < n
   ·obtain ⟨b', o', e', -, hmem, hc⟩ := six_at HAR.out hbl
    cases e'
    have hcs := hc _ (Below.refl _ _)
    obtain ⟨x0, x1, x2, x3, x4, x5⟩ := hcs
    rw [Nat.zero_add] at x0 x1 x2 x3 x4 x5
    have hxy : ys.getD b z6 = xs.getD b z6 := by
     have h1 : (ys.drop b)[0]? = (xs.drop b)[0]? := by rw [HDR.out]
     rw [List.getElem?_drop, List.getElem?_drop, Nat.add_zero] at h1
     rw [List.getD_eq_getElem?_getD, List.getD_eq_getElem?_getD, h1]
    have hxs : xs[b]? = some (xs.getD b z6) := getD_six (by rw [HNN.out]; exact hbl)
    obtain ⟨x, hx⟩ : ∃ x, xs.getD b z6 = x := ⟨_, rfl⟩
    rw [hxy, hx] at x0 x1 x2 x3 x4 x5
    rw [hx] at hxs
    have HTN := Lib.hid (show (xs.take (b + 1)).filter (fun x => !q x) = ys.take a ++ (if q x = true then [] else [x]) by
     rw [HTK.out, List.take_add_one, hxs, List.filter_append]
     by_cases hqx : q x = true <;> simp [hqx])
    have HDN := Lib.hid (show ys.drop (b + 1) = xs.drop (b + 1) by rw [← List.drop_drop, HDR.out, List.drop_drop])
    have TQ := Lib.hid (fun W (g : Fix g g w W) => HQ.out x W g)
    obtain ⟨W3, hW3⟩ : ∃ W3, wr.alloc (.cells #[.int .i64 x.a, .int .i64 x.b, .int .i64 x.c, .int .i64 x.d, .int .i64 x.e, .int .i64 x.f] 105) = W3 := ⟨_, rfl⟩
    have g3 : Below wr.heap.size wr W3 := by rw [← hW3]; exact one_more _ _
    have b3 : Blk W3 wr.heap.size 105 #[.int .i64 x.a, .int .i64 x.b, .int .i64 x.c, .int .i64 x.d, .int .i64 x.e, .int .i64 x.f] := by rw [← hW3]; exact Blk.new _ _ _
    have hWs : wr.heap.size < W3.heap.size := b3.lt
    have T3 := Lib.hid (TQ.out W3 (HFX.out.trans (Fix.of_below g3)))
    have HKK := Lib.hid (fun W (gg : Below W3.heap.size W3 W) => (show Below wr.heap.size wr W from g3.trans (gg.mono (Nat.le_of_lt hWs))))
    have HB3 := Lib.hid b3
    have y0 := b3.cell 0
    have y1 := b3.cell 1
    have y2 := b3.cell 2
    have y3 := b3.cell 3
    have y4 := b3.cell 4
    have y5 := b3.cell 5
    obtain ⟨qb, hqb⟩ : ∃ qb, q x = qb := ⟨_, rfl⟩
    rw [hqb] at T3 HTN
    have hab2 : (a : Int) < (n : Int) := by omega
    have HG3 := Lib.hid g3
    have HW3 := Lib.hid hW3
    clear hc hxy hxs hx hqb hmem b3 g3 hW3
    cases qb with
    | true =>
     go_upto_region 8 with fail
     rw [HW3.out]
     go_wp2_with (go_at_fn g0; (with_reducible refine (T3.out).mono ?_); rintro e W4 ⟨rfl, hg4⟩; have G4 := Lib.hid hg4; clear hg4)
     go_roundw
     case rel =>
      refine ⟨a, b + 1, ys, rfl, by go_num, by omega, by omega, HO.out.ext (HKK.out _ G4.out), HFX.out.trans (Fix.of_below (HKK.out _ G4.out)), ?_, HDN.out⟩
      rw [HTN.out]; simp
     case measure => simp [intOf]; omega
    | false =>
     go_upto_region 8 with fail
     rw [HW3.out]
     go_upto_region 9 with (go_at_fn g0; (with_reducible refine (T3.out).mono ?_); rintro e W4 ⟨rfl, hg4⟩; have G4 := Lib.hid hg4; clear hg4)
     have HB4 := Lib.hid (HB3.out.ext G4.out)
     have HO4 := Lib.hid (HO.out.ext (HKK.out _ G4.out))
     obtain ⟨-, -, cur4, hcb4, -, -, hsz4, -⟩ := own_inv HO4.out
     have hc6 : a * 6 + 6 ≤ c * 6 := by omega
     have z0 := HB4.out.cell 0
     have z1 := HB4.out.cell 1
     have z2 := HB4.out.cell 2
     have z3 := HB4.out.cell 3
     have z4 := HB4.out.cell 4
     have z5 := HB4.out.cell 5
     have hcc : ∀ j, j < c * 6 → W4.cell? ⟨g, j, none⟩ = some (cur4[j]!) := fun j hj => by rw [hcb4.cell, Array.getElem?_eq_getElem (by omega), getElem!_pos cur4 j (by omega)]
     have w0 := hcc (a * 6) (by omega)
     have w1 := hcc (a * 6 + 1) (by omega)
     have w2 := hcc (a * 6 + 2) (by omega)
     have w3 := hcc (a * 6 + 3) (by omega)
     have w4 := hcc (a * 6 + 4) (by omega)
     have w5 := hcc (a * 6 + 5) (by omega)
     have v0 := hcb4.frozen (a * 6)
     have v1 := hcb4.frozen (a * 6 + 1)
     have v2 := hcb4.frozen (a * 6 + 2)
     have v3 := hcb4.frozen (a * 6 + 3)
     have v4 := hcb4.frozen (a * 6 + 4)
     have v5 := hcb4.frozen (a * 6 + 5)
     clear hcc hcb4 hsz4 y0 y1 y2 y3 y4 y5 x0 x1 x2 x3 x4 x5
     go_wp2_with fail
     go_roundw
     case rel =>
      have hput := HO4.out.put scells_len (i := a) (by omega) x
      have hfix : Fix g g W4 (W4.setCells g (a * 6) (scells x)) := fix_setCells _ _ _
      refine ⟨a + 1, b + 1, ys.set a x, by go_num, by go_num, by omega, by omega, hput, (HFX.out.trans (Fix.of_below (HKK.out _ G4.out))).trans hfix, ?_, ?_⟩
      ·rw [HTN.out, List.take_set]
       have hal : a < ys.length := by rw [← HYL.out]; omega
       rw [List.take_succ_eq_append_getElem hal, List.set_append_right _ _ (by rw [List.length_take]; omega)]
       rw [List.length_take, Nat.min_eq_left (by omega), Nat.sub_self]
       simp
      ·rw [List.drop_set_of_lt (by omega)]; exact HDN.out
     case measure => simp [intOf]; omega
   ·obtain rfl : n = b := by omega
    have HTK2 := Lib.hid (show ys.take a = xs.filter (fun x => !q x) by rw [HTK.out, List.take_of_length_le (by rw [HNN.out]; exact Nat.le_refl _)])
    have hca : ¬ c = a := by omega
    obtain ⟨m, hm⟩ : ∃ m, n - a = m := ⟨_, rfl⟩
    obtain ⟨-, -, curn, hcbn, -, -, hszn, -⟩ := own_inv HO.out
    obtain ⟨i0, hi0, hz0, hz1, hz2⟩ := info_parts info105
    have hclr := Lib.hid (fun ty => run_clear_gen wr 35 105 ty (.agg #[.int .i64 0, .int .i64 0, .int .i64 0, .int .i64 0, .int .i64 0, .int .i64 0]) 6 g (a * 6) (n - a) (c - a) Tryz.underlying35 (fun w => by simp [zeroValue, typeInfo, hi0, hz0]) (by omega) rfl (by decide) (by intro v hv; simp [Value.cells] at hv; subst hv; rfl)
     (fun j hj => by rw [hcbn.cell, Array.getElem?_eq_getElem (by rw [hszn]; omega)]; rfl) (fun j _ => hcbn.frozen _))
    have hclr2 := hclr.out
    clear hcbn hszn hi0 hz0 hz1 hz2
    have hac : (a : Int) ≤ (n : Int) := by omega
    have hac2 : (a : Int) ≤ (c : Int) := by omega
    obtain ⟨vs, hvs⟩ : ∃ vs, (Builtin.zeroCells (Value.agg #[.int .i64 0, .int .i64 0, .int .i64 0, .int .i64 0, .int .i64 0, .int .i64 0]).cells (n - a)).toList = vs := ⟨_, rfl⟩
    have HVL := Lib.hid (show vs.length = (n - a) * 6 by rw [← hvs]; exact zeroCells_len _ _)
    rw [hvs] at hclr2
    clear hvs hclr hm
    go_wp2_with fail
    go_ret
    refine ⟨a, rfl, ?_, HFX.out.trans (fix_setCells _ _ _)⟩
    have hfr := HO.out.front scells_len (i := a) (by omega)
    rw [HTK2.out] at hfr
    exact hfr.behind scells_len (Nat.le_refl _) (by rw [HVL.out]; omega)
 ·have HFI := Lib.hid (show xs.filter (fun x => !q x) = xs from List.filter_eq_self.2 (fun x hx => by
   obtain ⟨j, hj, rfl⟩ := List.getElem_of_mem hx
   have := hno0 j (by rw [← HNN.out]; exact hj)
   rw [List.getD_eq_getElem?_getD, List.getElem?_eq_getElem hj] at this
   simpa using this))
  clear hno0
  go_wp2_with fail
  go_ret
  exact ⟨n, rfl, by rw [HFI.out]; exact HOW.out.ext G1.out, Fix.of_below G1.out⟩
set_option maxRecDepth 100000 in
set_option maxHeartbeats 4000000 in
theorem delSpell_any (g0 : FuncId) (cl : Array Value) (q : Six → Bool) (base g n c : Nat) (xs : List Six) (w : World) (h : OwnL scells 6 107 w base (.slice (some ⟨g, 0, none⟩) n c) xs) (hn : n ≤ 1000000)
  (eg : ∀ args W, (callFunc g0 args).run Tryz.prog W = .ok (.enter g0 args) W) (hq : ∀ x W, Fix g g w W → Calls Tryz.prog g0 (#[sv x] ++ cl) W fun e W' => e = .returned (.bool (q x)) ∧ Below W.heap.size W W') :
  Calls Tryz.prog 191 #[.slice (some ⟨g, 0, none⟩) n c, .func (.func g0) #[] cl] w fun e w' => ∃ m, e = .returned (.slice (some ⟨g, 0, none⟩) m c) ∧ OwnL scells 6 107 w' base (.slice (some ⟨g, 0, none⟩) m c) (xs.filter fun x => !q x) ∧ Fix g g w w' := by
 obtain ⟨hn0, hbg, cur0, hb0, hnc, hcm, -, -⟩ := own_inv h
 obtain ⟨A', c', hv', -, -, ha, -⟩ := OwnL.arr kdP h
 cases hv'
 have hgl := hb0.lt
 have T := Lib.hid (idxSpell_any g0 cl q (some ⟨g, 0, none⟩) xs.length c xs w ha (by omega) eg (fun x W gg => hq x W (Fix.of_below gg)))
 have HQ := Lib.hid hq
 have HOW := Lib.hid h
 have HN0 := Lib.hid hn0
 have hxl : xs.length ≤ 1000000 := by omega
 have hxc : xs.length ≤ c := by omega
 unfold maxLen at hcm
 clear h hq ha hb0 hn0 hbg cur0
 obtain ⟨n, hnn⟩ : ∃ n, xs.length = n := ⟨_, rfl⟩
 rw [hnn] at T HOW hxl hxc ⊢
 have HNN := Lib.hid hnn
 clear hnn hn hnc HN0
 go_enter Tryz.func191, Tryz.ntmps191
 go_upto_region 2 with (go_at_call 204; (with_reducible refine T.out.mono ?_); rintro e W1 ⟨⟨ix, rfl, hix⟩, hg⟩; have G1 := Lib.hid hg; have HIX := Lib.hid hix; clear hg hix)
 rcases HIX.out with ⟨k0, rfl, hk0, hq0, hno0⟩ | ⟨rfl, hno0⟩
 ·have hne : ((k0 : Int) == -1) = false := by simp
  have HQ0 := Lib.hid hq0
  have HNO := Lib.hid hno0
  clear hq0 hno0
  have HST := Lib.hid (show (xs.take k0).filter (fun x => !q x) = xs.take k0 from List.filter_eq_self.2 (fun x hx => by
   obtain ⟨j, hj, rfl⟩ := List.getElem_of_mem hx
   have hj' : j < k0 := by rw [List.length_take] at hj; omega
   have hjn : j < xs.length := by rw [HNN.out]; omega
   have := HNO.out j hj'
   rw [List.getElem_take]
   rw [List.getD_eq_getElem?_getD, List.getElem?_eq_getElem hjn] at this
   simpa using this))
  go_upto_region 4 with fail
  go_wp2_with fail
  go_loopw [5, 6] (fun i j wr => ∃ (a b : Nat) (ys : List Six), i = .int .i64 a ∧ j = .int .i64 b ∧ a < b ∧ b ≤ n ∧ OwnL scells 6 107 wr base (.slice (some ⟨g, 0, none⟩) n c) ys ∧ Fix g g w wr ∧ ys.take a = (xs.take b).filter (fun x => !q x) ∧ ys.drop b = xs.drop b) (fun _ j _ => n - (intOf j).toNat)
  case atStart =>
   refine ⟨k0, k0 + 1, xs, rfl, by go_num, by omega, by omega, HOW.out.ext G1.out, Fix.of_below G1.out, ?_, rfl⟩
   rw [List.take_succ_eq_append_getElem (by rw [HNN.out]; omega), List.filter_append, HST.out]
   have := HQ0.out
   rw [List.getD_eq_getElem?_getD, List.getElem?_eq_getElem (by rw [HNN.out]; omega)] at this
   have hk0' : k0 < xs.length := by rw [HNN.out]; omega
   have this2 : q xs[k0] = true := this
   simp [this2]
  case round =>
   obtain ⟨a, b, ys, rfl, rfl, hab, hbn, ho, hfx, htk, hdr⟩ := hrel
   obtain ⟨hyl, -, cur, hcb, -, -, -, -⟩ := own_inv ho
   obtain ⟨A', c', hv', -, -, har, -⟩ := OwnL.arr kdP ho
   have hA' : A' = some ⟨g, 0, none⟩ := by cases hv'; rfl
   subst hA'
   rw [← hyl] at har
   clear hv'
   have HO := Lib.hid ho
   have HFX := Lib.hid hfx
   have HTK := Lib.hid htk
   have HDR := Lib.hid hdr
   have HYL := Lib.hid hyl
   have HCB := Lib.hid hcb
   have HAR := Lib.hid har
   clear ho hfx htk hdr hyl hcb har
   by_cases hbl : b < n
   ·obtain ⟨b', o', e', -, hmem, hc⟩ := six_at HAR.out hbl
    cases e'
    have hcs := hc _ (Below.refl _ _)
    obtain ⟨x0, x1, x2, x3, x4, x5⟩ := hcs
    rw [Nat.zero_add] at x0 x1 x2 x3 x4 x5
    have hxy : ys.getD b z6 = xs.getD b z6 := by
     have h1 : (ys.drop b)[0]? = (xs.drop b)[0]? := by rw [HDR.out]
     rw [List.getElem?_drop, List.getElem?_drop, Nat.add_zero] at h1
     rw [List.getD_eq_getElem?_getD, List.getD_eq_getElem?_getD, h1]
    have hxs : xs[b]? = some (xs.getD b z6) := getD_six (by rw [HNN.out]; exact hbl)
    obtain ⟨x, hx⟩ : ∃ x, xs.getD b z6 = x := ⟨_, rfl⟩
    rw [hxy, hx] at x0 x1 x2 x3 x4 x5
    rw [hx] at hxs
    have HTN := Lib.hid (show (xs.take (b + 1)).filter (fun x => !q x) = ys.take a ++ (if q x = true then [] else [x]) by
     rw [HTK.out, List.take_add_one, hxs, List.filter_append]
     by_cases hqx : q x = true <;> simp [hqx])
    have HDN := Lib.hid (show ys.drop (b + 1) = xs.drop (b + 1) by rw [← List.drop_drop, HDR.out, List.drop_drop])
    have TQ := Lib.hid (fun W (g : Fix g g w W) => HQ.out x W g)
    obtain ⟨W3, hW3⟩ : ∃ W3, wr.alloc (.cells #[.int .i64 x.a, .int .i64 x.b, .int .i64 x.c, .int .i64 x.d, .int .i64 x.e, .int .i64 x.f] 107) = W3 := ⟨_, rfl⟩
    have g3 : Below wr.heap.size wr W3 := by rw [← hW3]; exact one_more _ _
    have b3 : Blk W3 wr.heap.size 107 #[.int .i64 x.a, .int .i64 x.b, .int .i64 x.c, .int .i64 x.d, .int .i64 x.e, .int .i64 x.f] := by rw [← hW3]; exact Blk.new _ _ _
    have hWs : wr.heap.size < W3.heap.size := b3.lt
    have T3 := Lib.hid (TQ.out W3 (HFX.out.trans (Fix.of_below g3)))
    have HKK := Lib.hid (fun W (gg : Below W3.heap.size W3 W) => (show Below wr.heap.size wr W from g3.trans (gg.mono (Nat.le_of_lt hWs))))
    have HB3 := Lib.hid b3
    have y0 := b3.cell 0
    have y1 := b3.cell 1
    have y2 := b3.cell 2
    have y3 := b3.cell 3
    have y4 := b3.cell 4
    have y5 := b3.cell 5
    obtain ⟨qb, hqb⟩ : ∃ qb, q x = qb := ⟨_, rfl⟩
    rw [hqb] at T3 HTN
    have hab2 : (a : Int) < (n : Int) := by omega
    have HG3 := Lib.hid g3
    have HW3 := Lib.hid hW3
    clear hc hxy hxs hx hqb hmem b3 g3 hW3
    cases qb with
    | true =>
     go_upto_region 8 with fail
     rw [HW3.out]
     go_wp2_with (go_at_fn g0; (with_reducible refine (T3.out).mono ?_); rintro e W4 ⟨rfl, hg4⟩; have G4 := Lib.hid hg4; clear hg4)
     go_roundw
     case rel =>
      refine ⟨a, b + 1, ys, rfl, by go_num, by omega, by omega, HO.out.ext (HKK.out _ G4.out), HFX.out.trans (Fix.of_below (HKK.out _ G4.out)), ?_, HDN.out⟩
      rw [HTN.out]; simp
     case measure => simp [intOf]; omega
    | false =>
     go_upto_region 8 with fail
     rw [HW3.out]
     go_upto_region 9 with (go_at_fn g0; (with_reducible refine (T3.out).mono ?_); rintro e W4 ⟨rfl, hg4⟩; have G4 := Lib.hid hg4; clear hg4)
     have HB4 := Lib.hid (HB3.out.ext G4.out)
     have HO4 := Lib.hid (HO.out.ext (HKK.out _ G4.out))
     obtain ⟨-, -, cur4, hcb4, -, -, hsz4, -⟩ := own_inv HO4.out
     have hc6 : a * 6 + 6 ≤ c * 6 := by omega
     have z0 := HB4.out.cell 0
     have z1 := HB4.out.cell 1
     have z2 := HB4.out.cell 2
     have z3 := HB4.out.cell 3
     have z4 := HB4.out.cell 4
     have z5 := HB4.out.cell 5
     have hcc : ∀ j, j < c * 6 → W4.cell? ⟨g, j, none⟩ = some (cur4[j]!) := fun j hj => by rw [hcb4.cell, Array.getElem?_eq_getElem (by omega), getElem!_pos cur4 j (by omega)]
     have w0 := hcc (a * 6) (by omega)
     have w1 := hcc (a * 6 + 1) (by omega)
     have w2 := hcc (a * 6 + 2) (by omega)
     have w3 := hcc (a * 6 + 3) (by omega)
     have w4 := hcc (a * 6 + 4) (by omega)
     have w5 := hcc (a * 6 + 5) (by omega)
     have v0 := hcb4.frozen (a * 6)
     have v1 := hcb4.frozen (a * 6 + 1)
     have v2 := hcb4.frozen (a * 6 + 2)
     have v3 := hcb4.frozen (a * 6 + 3)
     have v4 := hcb4.frozen (a * 6 + 4)
     have v5 := hcb4.frozen (a * 6 + 5)
     clear hcc hcb4 hsz4 y0 y1 y2 y3 y4 y5 x0 x1 x2 x3 x4 x5
     go_wp2_with fail
     go_roundw
     case rel =>
      have hput := HO4.out.put scells_len (i := a) (by omega) x
      have hfix : Fix g g W4 (W4.setCells g (a * 6) (scells x)) := fix_setCells _ _ _
      refine ⟨a + 1, b + 1, ys.set a x, by go_num, by go_num, by omega, by omega, hput, (HFX.out.trans (Fix.of_below (HKK.out _ G4.out))).trans hfix, ?_, ?_⟩
      ·rw [HTN.out, List.take_set]
       have hal : a < ys.length := by rw [← HYL.out]; omega
       rw [List.take_succ_eq_append_getElem hal, List.set_append_right _ _ (by rw [List.length_take]; omega)]
       rw [List.length_take, Nat.min_eq_left (by omega), Nat.sub_self]
       simp
      ·rw [List.drop_set_of_lt (by omega)]; exact HDN.out
     case measure => simp [intOf]; omega
   ·obtain rfl : n = b := by omega
    have HTK2 := Lib.hid (show ys.take a = xs.filter (fun x => !q x) by rw [HTK.out, List.take_of_length_le (by rw [HNN.out]; exact Nat.le_refl _)])
    have hca : ¬ c = a := by omega
    obtain ⟨m, hm⟩ : ∃ m, n - a = m := ⟨_, rfl⟩
    obtain ⟨-, -, curn, hcbn, -, -, hszn, -⟩ := own_inv HO.out
    obtain ⟨i0, hi0, hz0, hz1, hz2⟩ := info_parts info107
    have hclr := Lib.hid (fun ty => run_clear_gen wr 36 107 ty (.agg #[.int .i64 0, .int .i64 0, .int .i64 0, .int .i64 0, .int .i64 0, .int .i64 0]) 6 g (a * 6) (n - a) (c - a) Tryz.underlying36 (fun w => by simp [zeroValue, typeInfo, hi0, hz0]) (by omega) rfl (by decide) (by intro v hv; simp [Value.cells] at hv; subst hv; rfl)
     (fun j hj => by rw [hcbn.cell, Array.getElem?_eq_getElem (by rw [hszn]; omega)]; rfl) (fun j _ => hcbn.frozen _))
    have hclr2 := hclr.out
    clear hcbn hszn hi0 hz0 hz1 hz2
    have hac : (a : Int) ≤ (n : Int) := by omega
    have hac2 : (a : Int) ≤ (c : Int) := by omega
    obtain ⟨vs, hvs⟩ : ∃ vs, (Builtin.zeroCells (Value.agg #[.int .i64 0, .int .i64 0, .int .i64 0, .int .i64 0, .int .i64 0, .int .i64 0]).cells (n - a)).toList = vs := ⟨_, rfl⟩
    have HVL := Lib.hid (show vs.length = (n - a) * 6 by rw [← hvs]; exact zeroCells_len _ _)
    rw [hvs] at hclr2
    clear hvs hclr hm
    go_wp2_with fail
    go_ret
    refine ⟨a, rfl, ?_, HFX.out.trans (fix_setCells _ _ _)⟩
    have hfr := HO.out.front scells_len (i := a) (by omega)
    rw [HTK2.out] at hfr
    exact hfr.behind scells_len (Nat.le_refl _) (by rw [HVL.out]; omega)
 ·have HFI := Lib.hid (show xs.filter (fun x => !q x) = xs from List.filter_eq_self.2 (fun x hx => by
   obtain ⟨j, hj, rfl⟩ := List.getElem_of_mem hx
   have := hno0 j (by rw [← HNN.out]; exact hj)
   rw [List.getD_eq_getElem?_getD, List.getElem?_eq_getElem hj] at this
   simpa using this))
  clear hno0
  go_wp2_with fail
  go_ret
  exact ⟨n, rfl, by rw [HFI.out]; exact HOW.out.ext G1.out, Fix.of_below G1.out⟩
end Go.Proofs.YtkoejeghihcmlaaGreat
namespace Go.Proofs.YtkoejeghihcmlaaGreat
open Go.RowKit Go.Shelf
theorem icells_len (x : Int) : (icells x).length = 1 := rfl
theorem getD_int1 {l : List Int} {i : Nat} (hi : i < l.length) : l[i]? = some (l.getD i 0) := by rw [List.getD_eq_getElem?_getD, List.getElem?_eq_getElem hi]; rfl
set_option maxRecDepth 100000 in
set_option maxHeartbeats 4000000 in
theorem idxI_any (g : FuncId) (cl : Array Value) (q : Int → Bool) (A : Option Addr) (n c : Nat) (l : List Int) (w : World) (ha : Ints w A n l) (hn : n ≤ 1000000)
  (eg : ∀ args W, (callFunc g args).run Tryz.prog W = .ok (.enter g args) W) (hq : ∀ x W, Below w.heap.size w W → Calls Tryz.prog g (#[.int .i64 x] ++ cl) W fun e W' => e = .returned (.bool (q x)) ∧ Below W.heap.size W W') :
  Calls Tryz.prog 193 #[.slice A n c, .func (.func g) #[] cl] w fun e w' => (∃ i : Int, e = .returned (.int .i64 i) ∧ ((∃ k : Nat, i = k ∧ k < n ∧ q (l.getD k 0) = true ∧ ∀ j, j < k → q (l.getD j 0) = false) ∨ (i = -1 ∧ ∀ j, j < n → q (l.getD j 0) = false))) ∧ Below w.heap.size w w' := by
 have HA := Lib.hid ha
 have HQ := Lib.hid hq
 clear ha hq
 go_enter Tryz.func193, Tryz.ntmps193
 go_wp2_with fail
 go_loopw [8] (fun i wr => ∃ k : Nat, k ≤ n ∧ i = .int .i64 k ∧ Below w.heap.size w wr ∧ ∀ j, j < k → q (l.getD j 0) = false) (fun i _ => n - (intOf i).toNat)
 case atStart => exact ⟨0, Nat.zero_le _, rfl, Below.refl _ _, fun j hj => absurd hj (by omega)⟩
 case round =>
  obtain ⟨k, hk, rfl, hg, hno⟩ := hrel
  have HNO := Lib.hid hno
  have HG := Lib.hid hg
  clear hno
  by_cases hkn : k < n
  ·obtain ⟨b, o, rfl, -, -, hc⟩ := ints_at (HA.out.below hg) hkn
   have d0 := hc _ (Below.refl _ _)
   obtain ⟨y, hy⟩ : ∃ y, l.getD k 0 = y := ⟨_, rfl⟩
   rw [hy] at d0
   obtain ⟨pb, hpb⟩ : ∃ pb, q y = pb := ⟨_, rfl⟩
   have T := HQ.out y wr hg
   rw [hpb] at T
   have HT := Lib.hid T
   have HY := Lib.hid hy
   have HPB := Lib.hid hpb
   clear hc hy T hpb hg
   cases pb with
   | true =>
    go_wp2_with (go_at_fn g; (with_reducible refine (HT.out).mono ?_); rintro e w' ⟨rfl, hg2⟩; have G2 := Lib.hid (HG.out.trans (hg2.mono HG.out.size)); clear hg2)
    go_ret
    exact ⟨⟨k, rfl, .inl ⟨k, rfl, hkn, by rw [HY.out]; exact HPB.out, HNO.out⟩⟩, G2.out⟩
   | false =>
    go_wp2_with (go_at_fn g; (with_reducible refine (HT.out).mono ?_); rintro e w' ⟨rfl, hg2⟩; have G2 := Lib.hid (HG.out.trans (hg2.mono HG.out.size)); clear hg2)
    go_roundw
    case rel => exact ⟨k + 1, by omega, by go_num, G2.out, fun j hj => by
     by_cases e : j = k
     ·subst e; rw [HY.out]; exact HPB.out
     ·exact HNO.out j (by omega)⟩
    case measure => simp [intOf]; omega
  ·obtain rfl : n = k := by omega
   go_wp2_with fail
   go_ret
   exact ⟨⟨-1, rfl, .inr ⟨rfl, HNO.out⟩⟩, HG.out⟩
set_option maxRecDepth 100000 in
set_option maxHeartbeats 4000000 in
theorem delInts_any (g0 : FuncId) (cl : Array Value) (q : Int → Bool) (base g n c : Nat) (xs : List Int) (w : World) (h : OwnL icells 1 3 w base (.slice (some ⟨g, 0, none⟩) n c) xs) (hn : n ≤ 1000000)
  (eg : ∀ args W, (callFunc g0 args).run Tryz.prog W = .ok (.enter g0 args) W) (hq : ∀ x W, Fix g g w W → Calls Tryz.prog g0 (#[.int .i64 x] ++ cl) W fun e W' => e = .returned (.bool (q x)) ∧ Below W.heap.size W W') :
  Calls Tryz.prog 115 #[.slice (some ⟨g, 0, none⟩) n c, .func (.func g0) #[] cl] w fun e w' => ∃ m, e = .returned (.slice (some ⟨g, 0, none⟩) m c) ∧ OwnL icells 1 3 w' base (.slice (some ⟨g, 0, none⟩) m c) (xs.filter fun x => !q x) ∧ Fix g g w w' := by
 obtain ⟨hn0, hbg, cur0, hb0, hnc, hcm, -, -⟩ := own_inv h
 obtain ⟨A', c', hv', -, -, ha, -⟩ := OwnL.arr kdI h
 cases hv'
 have hgl := hb0.lt
 have T := Lib.hid (idxI_any g0 cl q (some ⟨g, 0, none⟩) xs.length c xs w ha (by omega) eg (fun x W gg => hq x W (Fix.of_below gg)))
 have HQ := Lib.hid hq
 have HOW := Lib.hid h
 have HN0 := Lib.hid hn0
 have hxl : xs.length ≤ 1000000 := by omega
 have hxc : xs.length ≤ c := by omega
 unfold maxLen at hcm
 clear h hq ha hb0 hn0 hbg cur0
 obtain ⟨n, hnn⟩ : ∃ n, xs.length = n := ⟨_, rfl⟩
 rw [hnn] at T HOW hxl hxc ⊢
 have HNN := Lib.hid hnn
 clear hnn hn hnc HN0
 go_enter Tryz.func115, Tryz.ntmps115
 go_upto_region 2 with (go_at_call 193; (with_reducible refine T.out.mono ?_); rintro e W1 ⟨⟨ix, rfl, hix⟩, hg⟩; have G1 := Lib.hid hg; have HIX := Lib.hid hix; clear hg hix)
 rcases HIX.out with ⟨k0, rfl, hk0, hq0, hno0⟩ | ⟨rfl, hno0⟩
 ·have hne : ((k0 : Int) == -1) = false := by simp
  have HQ0 := Lib.hid hq0
  have HNO := Lib.hid hno0
  clear hq0 hno0
  have HST := Lib.hid (show (xs.take k0).filter (fun x => !q x) = xs.take k0 from List.filter_eq_self.2 (fun x hx => by
   obtain ⟨j, hj, rfl⟩ := List.getElem_of_mem hx
   have hj' : j < k0 := by rw [List.length_take] at hj; omega
   have hjn : j < xs.length := by rw [HNN.out]; omega
   have := HNO.out j hj'
   rw [List.getElem_take]
   rw [List.getD_eq_getElem?_getD, List.getElem?_eq_getElem hjn] at this
   simpa using this))
  go_upto_region 4 with fail
  go_wp2_with fail
  go_loopw [5, 6] (fun i j wr => ∃ (a b : Nat) (ys : List Int), i = .int .i64 a ∧ j = .int .i64 b ∧ a < b ∧ b ≤ n ∧ OwnL icells 1 3 wr base (.slice (some ⟨g, 0, none⟩) n c) ys ∧ Fix g g w wr ∧ ys.take a = (xs.take b).filter (fun x => !q x) ∧ ys.drop b = xs.drop b) (fun _ j _ => n - (intOf j).toNat)
  case atStart =>
   refine ⟨k0, k0 + 1, xs, rfl, by go_num, by omega, by omega, HOW.out.ext G1.out, Fix.of_below G1.out, ?_, rfl⟩
   rw [List.take_succ_eq_append_getElem (by rw [HNN.out]; omega), List.filter_append, HST.out]
   have := HQ0.out
   rw [List.getD_eq_getElem?_getD, List.getElem?_eq_getElem (by rw [HNN.out]; omega)] at this
   have hk0' : k0 < xs.length := by rw [HNN.out]; omega
   have this2 : q xs[k0] = true := this
   simp [this2]
  case round =>
   obtain ⟨a, b, ys, rfl, rfl, hab, hbn, ho, hfx, htk, hdr⟩ := hrel
   obtain ⟨hyl, -, cur, hcb, -, -, -, -⟩ := own_inv ho
   obtain ⟨A', c', hv', -, -, har, -⟩ := OwnL.arr kdI ho
   have hA' : A' = some ⟨g, 0, none⟩ := by cases hv'; rfl
   subst hA'
   rw [← hyl] at har
   clear hv'
   have HO := Lib.hid ho
   have HFX := Lib.hid hfx
   have HTK := Lib.hid htk
   have HDR := Lib.hid hdr
   have HYL := Lib.hid hyl
   have HCB := Lib.hid hcb
   have HAR := Lib.hid har
   clear ho hfx htk hdr hyl hcb har
   by_cases hbl : b < n
   ·obtain ⟨b', o', e', -, hmem, hc⟩ := ints_at HAR.out hbl
    cases e'
    have hcs := hc _ (Below.refl _ _)
    have x0 := hcs
    rw [Nat.zero_add] at x0
    have hxy : ys.getD b 0 = xs.getD b 0 := by
     have h1 : (ys.drop b)[0]? = (xs.drop b)[0]? := by rw [HDR.out]
     rw [List.getElem?_drop, List.getElem?_drop, Nat.add_zero] at h1
     rw [List.getD_eq_getElem?_getD, List.getD_eq_getElem?_getD, h1]
    have hxs : xs[b]? = some (xs.getD b 0) := getD_int1 (by rw [HNN.out]; exact hbl)
    obtain ⟨x, hx⟩ : ∃ x, xs.getD b 0 = x := ⟨_, rfl⟩
    rw [hxy, hx] at x0
    rw [hx] at hxs
    have HTN := Lib.hid (show (xs.take (b + 1)).filter (fun x => !q x) = ys.take a ++ (if q x = true then [] else [x]) by
     rw [HTK.out, List.take_add_one, hxs, List.filter_append]
     by_cases hqx : q x = true <;> simp [hqx])
    have HDN := Lib.hid (show ys.drop (b + 1) = xs.drop (b + 1) by rw [← List.drop_drop, HDR.out, List.drop_drop])
    have TQ := Lib.hid (fun W (g : Fix g g w W) => HQ.out x W g)
    have T3 := Lib.hid (TQ.out wr HFX.out)
    obtain ⟨qb, hqb⟩ : ∃ qb, q x = qb := ⟨_, rfl⟩
    rw [hqb] at T3 HTN
    have hab2 : (a : Int) < (n : Int) := by omega
    clear hc hxy hxs hx hqb hmem
    cases qb with
    | true =>
     go_wp2_with (go_at_fn g0; (with_reducible refine (T3.out).mono ?_); rintro e W4 ⟨rfl, hg4⟩; have G4 := Lib.hid hg4; clear hg4)
     go_roundw
     case rel =>
      refine ⟨a, b + 1, ys, rfl, by go_num, by omega, by omega, HO.out.ext (G4.out), HFX.out.trans (Fix.of_below (G4.out)), ?_, HDN.out⟩
      rw [HTN.out]; simp
     case measure => simp [intOf]; omega
    | false =>
     go_upto_region 9 with (go_at_fn g0; (with_reducible refine (T3.out).mono ?_); rintro e W4 ⟨rfl, hg4⟩; have G4 := Lib.hid hg4; clear hg4)
     have HO4 := Lib.hid (HO.out.ext (G4.out))
     obtain ⟨-, -, cur4, hcb4, -, -, hsz4, -⟩ := own_inv HO4.out
     have hc6 : a + 1 ≤ c := by omega
     have hcc : ∀ j, j < c → W4.cell? ⟨g, j, none⟩ = some (cur4[j]!) := fun j hj => by rw [hcb4.cell, Array.getElem?_eq_getElem (by omega), getElem!_pos cur4 j (by omega)]
     have w0 := hcc a (by omega)
     have v0 := hcb4.frozen a
     clear hcc hcb4 hsz4 x0
     go_wp2_with fail
     go_roundw
     case rel =>
      have hput := HO4.out.put icells_len (i := a) (by omega) x
      rw [Nat.mul_one] at hput
      have hfix : Fix g g W4 (W4.setCells g a (icells x)) := fix_setCells _ _ _
      refine ⟨a + 1, b + 1, ys.set a x, by go_num, by go_num, by omega, by omega, hput, (HFX.out.trans (Fix.of_below (G4.out))).trans hfix, ?_, ?_⟩
      ·rw [HTN.out, List.take_set]
       have hal : a < ys.length := by rw [← HYL.out]; omega
       rw [List.take_succ_eq_append_getElem hal, List.set_append_right _ _ (by rw [List.length_take]; omega)]
       rw [List.length_take, Nat.min_eq_left (by omega), Nat.sub_self]
       simp
      ·rw [List.drop_set_of_lt (by omega)]; exact HDN.out
     case measure => simp [intOf]; omega
   ·obtain rfl : n = b := by omega
    have HTK2 := Lib.hid (show ys.take a = xs.filter (fun x => !q x) by rw [HTK.out, List.take_of_length_le (by rw [HNN.out]; exact Nat.le_refl _)])
    have hca : ¬ c = a := by omega
    obtain ⟨m, hm⟩ : ∃ m, n - a = m := ⟨_, rfl⟩
    obtain ⟨-, -, curn, hcbn, -, -, hszn, -⟩ := own_inv HO.out
    obtain ⟨i0, hi0, hz0, hz1, hz2⟩ := info_parts info3
    have hclr := Lib.hid (fun ty => run_clear_gen wr 39 3 ty (.int .i64 0) 1 g a (n - a) (c - a) Tryz.underlying39 (fun w => by simp [zeroValue, typeInfo, hi0, hz0]) (by omega) rfl (by decide) (by intro v hv; simp [Value.cells] at hv; subst hv; rfl)
     (fun j hj => by rw [hcbn.cell, Array.getElem?_eq_getElem (by rw [hszn]; omega)]; rfl) (fun j _ => hcbn.frozen _))
    have hclr2 := hclr.out
    clear hcbn hszn hi0 hz0 hz1 hz2
    have hac : (a : Int) ≤ (n : Int) := by omega
    have hac2 : (a : Int) ≤ (c : Int) := by omega
    obtain ⟨vs, hvs⟩ : ∃ vs, (Builtin.zeroCells (Value.int .i64 0).cells (n - a)).toList = vs := ⟨_, rfl⟩
    have HVL := Lib.hid (show vs.length = (n - a) * 1 by rw [← hvs]; exact zeroCells_len _ _)
    rw [hvs] at hclr2
    clear hvs hclr hm
    go_wp2_with fail
    go_ret
    refine ⟨a, rfl, ?_, HFX.out.trans (fix_setCells _ _ _)⟩
    have hfr := HO.out.front icells_len (i := a) (by omega)
    rw [HTK2.out] at hfr
    exact hfr.behind icells_len (by omega) (by rw [HVL.out]; omega)
 ·have HFI := Lib.hid (show xs.filter (fun x => !q x) = xs from List.filter_eq_self.2 (fun x hx => by
   obtain ⟨j, hj, rfl⟩ := List.getElem_of_mem hx
   have := hno0 j (by rw [← HNN.out]; exact hj)
   rw [List.getD_eq_getElem?_getD, List.getElem?_eq_getElem hj] at this
   simpa using this))
  clear hno0
  go_wp2_with fail
  go_ret
  exact ⟨n, rfl, by rw [HFI.out]; exact HOW.out.ext G1.out, Fix.of_below G1.out⟩
end Go.Proofs.YtkoejeghihcmlaaGreat
namespace Go.Proofs.YtkoejeghihcmlaaGreat
open Go.RowKit Go.Shelf Go.Sort
shelf_lay Lays.n189 Nm 189 at Tryz as laysSort
/-- Sorted. -/
def srt (l : List Int) : List Int := l.mergeSort fun x y => decide (x ≤ y)
theorem sort_any (base : Nat) (v : Value) (l : List Int) (w : World) (h : OwnL icells 1 3 w base v l) (hl : l.length ≤ 1000000) (hb : base ≤ w.heap.size) :
  Calls Tryz.prog 111 #[v] w fun e w' => e = .returned (.tuple #[]) ∧ OwnL icells 1 3 w' base v (srt l) ∧ Below base w w' := by
 have h : w.ownsRow base 3 1 v l.length (l.map (Value.int .i64)) := by
  unfold OwnL at h
  rwa [flat_icells] at h
 by_cases hv : v = .slice none 0 0
 ·subst hv
  have e : l = [] := by
   obtain ⟨h1, h2 | ⟨g, cap, cur, h3, -⟩⟩ := h
   ·exact List.eq_nil_of_length_eq_zero h2.2
   ·cases h3
  subst e
  refine (Any.slices_Sort_int_none laysSort none 0 w).mono ?_
  rintro e w' ⟨rfl, rfl⟩
  exact ⟨rfl, (show OwnL icells 1 3 _ base _ (srt []) by rw [show srt [] = [] by simp [srt]]; exact OwnL.nil _ _), Below.refl _ _⟩
 ·obtain ⟨g, cap, rfl, hbg, hgl, hncap, hcm, hlen, hH⟩ := Lib.holds_of_ownsRow h hv
  refine (Any.slices_Sort_int laysSort g 0 cap l w hH hgl (by omega)).mono ?_
  rintro e w' ⟨rfl, n, os, rfl⟩
  have hl2 : (srt l).length = l.length := List.length_mergeSort l
  rcases h.2 with ⟨h0, _⟩ | ⟨g', cap', cur, hv', hbase, hcur, h1, h2, h3, h4⟩
  ·cases h0
  ·cases hv'
   refine ⟨rfl, ?_, (Below.refl _ _).grown (grownBy_sortedI _) hb (fun j hj => by cases hj; exact hbase)⟩
   have := ownsRow_sortedI (n := n) (os := os) (ts := srt l) hl2 hbase hcur h1 h2 h3
   unfold OwnL
   rw [hl2, flat_icells]
   exact this
theorem hasBy_any (b : Nat) (A : Option Addr) (n c : Nat) (by_ : List Int) (x : Int) (w : World) (hb : w.cell? ⟨b, 0, none⟩ = some (.slice A n c)) (ha : Ints w A n by_) (hn : n ≤ 1000000) :
  Calls Tryz.prog 182 #[.int .i64 x, .pointer (some ⟨b, 0, none⟩)] w fun e w' => e = .returned (.bool (hasI by_ x)) ∧ w = w' := by
 have T := Lib.hid (has_any A n c by_ x w ha hn)
 clear ha
 go_enter Tryz.func182, Tryz.ntmps182
 go_wp2_with (go_at_call 109; (with_reducible refine T.out.mono ?_); rintro e w' ⟨rfl, rfl⟩)
 go_ret
 exact ⟨rfl, rfl⟩
/-- Whether there are no true numbers by some loads and stands. -/
def contraB (p : Pl) (known : Int) (by_ : List Int) : Bool := !sound (lookS p known (hasI by_))
set_option maxRecDepth 100000 in
theorem contra_any (p : Pl) (A1 A2 A3 : Option Addr) (n1 c1 n2 c2 n3 c3 pb : Nat) (known : Int) (A : Option Addr) (n c : Nat) (by_ : List Int) (w : World) (hP : Blk w pb 38 (plb p A1 A2 A3 n1 c1 n2 c2 n3 c3))
  (hp : Pa w p A1 A2 A3 n1 c1 n2 c2 n3 c3) (hok : okPl p = true) (h19 : p.loads.length ≤ 60) (ha : Ints w A n by_) (hn : n ≤ 1000000) :
  Calls Tryz.prog 104 #[.pointer (some ⟨pb, 0, none⟩), .int .i64 known, .slice A n c] w fun e w' => e = .returned (.bool (contraB p known by_)) ∧ Below w.heap.size w w' := by
 obtain ⟨W1, hW1⟩ : ∃ W1, w.alloc (.cells #[.slice A n c] 39) = W1 := ⟨_, rfl⟩
 have g1 : Below w.heap.size w W1 := by rw [← hW1]; exact one_more _ _
 have b1 : Blk W1 w.heap.size 39 #[.slice A n c] := by rw [← hW1]; exact Blk.new _ _ _
 have T := Lib.hid (look_lk p A1 A2 A3 n1 c1 n2 c2 n3 c3 pb known (hasI by_) (.func (.func 182) #[] #[.pointer (some ⟨w.heap.size, 0, none⟩)]) W1 (hP.ext g1) (hp.below g1) hok h19
  (.inr ⟨182, #[.pointer (some ⟨w.heap.size, 0, none⟩)], rfl, enters_of Tryz.func182 (by kernel_rfl) rfl, fun x W g => (hasBy_any w.heap.size A n c by_ x W ((b1.ext g).cell 0) ((ha.below g1).below g) hn).mono fun e W' ⟨h1, h2⟩ => ⟨h1, by subst h2; exact Below.refl _ _⟩⟩))
 have G1 := Lib.hid g1
 have HLL := Lib.hid (lookL_len h19 known (hasI by_))
 have HR := Lib.hid (show contraB p known by_ = !sound (lookS p known (hasI by_)) from rfl)
 obtain ⟨rb, hrb⟩ : ∃ rb, contraB p known by_ = rb := ⟨_, rfl⟩
 rw [hrb] at HR ⊢
 have HW1 := Lib.hid hW1
 clear hrb hP hp ha g1 b1 hW1
 go_enter Tryz.func104, Tryz.ntmps104
 go_upto_region 1 with fail
 rw [HW1.out]
 go_wp2_with (first
  | (go_at_call 81; (with_reducible refine (T.out).mono ?_); rintro e W4 ⟨bf, bs, B, m, d, rfl, hg, hl⟩; have G4 := Lib.hid hg; have HL := Lib.hid hl; clear hg hl)
  | (go_at_call 100; (with_reducible refine (sound_any bf bs _ known B m d (m + 1) (lookS p known (hasI by_)) W4 HL.out.fd (by have := HL.out.num; have := HLL.out; omega)).mono ?_); rintro e W5 ⟨rfl, hg⟩; have G5 := Lib.hid hg; clear hg))
 go_ret
 exact ⟨by rw [HR.out]; rfl, G1.out.trans ((G4.out.trans (G5.out.mono G4.out.size)).mono G1.out.size)⟩
end Go.Proofs.YtkoejeghihcmlaaGreat
namespace Go.Proofs.YtkoejeghihcmlaaGreat
open Go.RowKit Go.Shelf
/-- A number of each element that is meant. -/
def colL (c : Six → Bool) (f : Six → Int) (l : List Six) : List Int := (l.filter c).map f
theorem colL_nil (c : Six → Bool) (f : Six → Int) {l : List Int} {xs : List Six} : l ++ colL c f (xs.take 0) = l := by unfold colL; simp
theorem colL_snoc (c : Six → Bool) (f : Six → Int) {l : List Six} {k : Nat} (hk : k < l.length) : colL c f (l.take (k + 1)) = colL c f (l.take k) ++ (if c (l.getD k z6) = true then [f (l.getD k z6)] else []) := by
 unfold colL
 rw [List.take_succ_eq_append_getElem hk, List.filter_append, List.map_append, six_get hk]
 by_cases h : c l[k] = true
 ·rw [if_pos h, List.filter_cons, if_pos h]; rfl
 ·rw [if_neg h, List.filter_cons, if_neg h]; rfl
theorem colL_len (c : Six → Bool) (f : Six → Int) (l : List Six) : (colL c f l).length ≤ l.length := by unfold colL; rw [List.length_map]; exact List.length_filter_le _ _
/-- All sources, rising. -/
def srcsAll (p : Pl) : List Int := srt (srcs p.loads ++ srcs p.stands ++ srcs p.spells)
theorem srcs_col (l : List Six) : colL (fun _ => true) Six.a l = srcs l := by unfold colL srcs; rw [List.filter_eq_self.2 (fun _ _ => rfl)]
/-- Those of the loads and stands that count. -/
def tellL (p : Pl) (known : Int) : List Int := srt (colL (fun x => cnt x known) Six.a p.loads ++ colL (fun x => cnt x known) Six.a p.stands)
set_option maxRecDepth 100000 in
set_option maxHeartbeats 4000000 in
theorem sources_any (p : Pl) (A1 A2 A3 : Option Addr) (n1 c1 n2 c2 n3 c3 : Nat) (w : World) (hp : Pa w p A1 A2 A3 n1 c1 n2 c2 n3 c3) (hok : okPl p = true) :
  Calls Tryz.prog 113 #[plv p A1 A2 A3 n1 c1 n2 c2 n3 c3] w fun e w' => (∃ v, e = .returned v ∧ OwnL icells 1 3 w' w.heap.size v (srcsAll p)) ∧ Below w.heap.size w w' := by
 obtain ⟨W0, hW0⟩ : ∃ W0, w.alloc (.cells (plb p A1 A2 A3 n1 c1 n2 c2 n3 c3) 38) = W0 := ⟨_, rfl⟩
 have g0 : Below w.heap.size w W0 := by rw [← hW0]; exact one_more _ _
 have b0 : Blk W0 w.heap.size 38 (plb p A1 A2 A3 n1 c1 n2 c2 n3 c3) := by rw [← hW0]; exact Blk.new _ _ _
 have hpar := ok_parts hok
 have HNB1 := Lib.hid (show n1 ≤ 60 by rw [← hp.l1.1]; exact hpar.2.2.2.2.2.1)
 have HNB2 := Lib.hid (show n2 ≤ 60 by rw [← hp.l2.1]; exact hpar.2.2.2.2.2.2.1)
 have HNB3 := Lib.hid (show n3 ≤ 60 by rw [← hp.l3.1]; exact hpar.2.2.2.2.2.2.2.1)
 have HLT := Lib.hid (show (([] : List Int) ++ colL (fun _ => true) Six.a p.loads ++ colL (fun _ => true) Six.a p.stands ++ colL (fun _ => true) Six.a p.spells).length ≤ 1000000 by
  have h1 := colL_len (fun _ => true) Six.a p.loads
  have h2 := colL_len (fun _ => true) Six.a p.stands
  have h3 := colL_len (fun _ => true) Six.a p.spells
  simp only [List.length_append, List.length_nil]
  omega)
 have HP0 := Lib.hid (show ([] : List Int).length ≤ 1000 by decide)
 have HP1 := Lib.hid (show (([] : List Int) ++ colL (fun _ => true) Six.a p.loads).length ≤ 1000 by
  have h1 := colL_len (fun _ => true) Six.a p.loads
  simp only [List.length_append, List.length_nil]
  omega)
 have HP2 := Lib.hid (show (([] : List Int) ++ colL (fun _ => true) Six.a p.loads ++ colL (fun _ => true) Six.a p.stands).length ≤ 1000 by
  have h1 := colL_len (fun _ => true) Six.a p.loads
  have h2 := colL_len (fun _ => true) Six.a p.stands
  simp only [List.length_append, List.length_nil]
  omega)
 have HL1 := Lib.hid (hp.l1.below g0)
 have HL2 := Lib.hid (hp.l2.below g0)
 have HL3 := Lib.hid (hp.l3.below g0)
 have GA := Lib.hid g0
 have HB0 := Lib.hid b0
 have HW0 := Lib.hid hW0
 have q1 := b0.cell 2
 have HGZ := Lib.hid (Below.refl W0.heap.size W0)
 have OS0 := Lib.hid (OwnL.nil (f := icells) (size := 1) (e := 3) W0 W0.heap.size)
 have hbl := b0.lt
 clear hp hok hpar g0 b0 hW0
 go_enter Tryz.func113, Tryz.ntmps113
 go_upto_region 2 with fail
 rw [HW0.out]
 go_wp2_with fail
 go_loopw [3, 13] (fun v i wr => ∃ (k : Nat) (u : Value), u = v ∧ i = .int .i64 k ∧ k ≤ n1 ∧ Below W0.heap.size W0 wr ∧ OwnL icells 1 3 wr W0.heap.size v (([] : List Int) ++ colL (fun _ => true) Six.a (p.loads.take k))) (fun _ i _ => n1 - (intOf i).toNat)
 case atStart => exact ⟨0, _, rfl, rfl, Nat.zero_le _, HGZ.out, by rw [colL_nil]; exact OS0.out⟩
 case round =>
  obtain ⟨k, u, rfl, rfl, hk, hg, hown⟩ := hrel
  have hnb := HNB1.out
  have HG := Lib.hid hg
  have HO := Lib.hid hown
  by_cases hkn : k < n1
  ·obtain ⟨b0, o0, e0, -, -, hc⟩ := six_at (HL1.out.below hg) hkn
   obtain ⟨x0, x1, x2, x3, x4, x5⟩ := hc _ (Below.refl _ _)
   have HN := Lib.hid (colL_snoc (fun _ => true) Six.a (l := p.loads) (k := k) (by rw [HL1.out.1]; exact hkn))
   have HCL := Lib.hid (colL_len (fun _ => true) Six.a (p.loads.take k))
   obtain ⟨x, hxg⟩ : ∃ x, p.loads.getD k z6 = x := ⟨_, rfl⟩
   rw [hxg] at x0 x1 x2 x3 x4 x5 HN
   subst e0
   obtain ⟨W1, hW1⟩ : ∃ W1, wr.alloc (.cells #[.int .i64 x.a, .int .i64 x.b, .int .i64 x.c, .int .i64 x.d, .int .i64 x.e, .int .i64 x.f] 103) = W1 := ⟨_, rfl⟩
   have b1 : Blk W1 wr.heap.size 103 #[.int .i64 x.a, .int .i64 x.b, .int .i64 x.c, .int .i64 x.d, .int .i64 x.e, .int .i64 x.f] := by rw [← hW1]; exact Blk.new _ _ _
   have g1 : Below wr.heap.size wr W1 := by rw [← hW1]; exact one_more _ _
   have hwz := HG.out.size
   have O1 := Lib.hid (HO.out.ext g1)
   have G1 := Lib.hid (HG.out.trans (g1.mono hwz))
   have hgs := g1.size
   have q0 := b1.cell 0
   have q1 := b1.cell 1
   have q2 := b1.cell 2
   have q3 := b1.cell 3
   have q4 := b1.cell 4
   have q5 := b1.cell 5
   have HLEN := Lib.hid (show (([] : List Int) ++ colL (fun _ => true) Six.a (p.loads.take k)).length + 1 ≤ 1000000 by
    have h1 := HCL.out
    have h2 := HP0.out
    have h3 := HNB1.out
    rw [List.length_take] at h1
    rw [List.length_append]
    omega)
   have OX := Lib.hid (O1.out.ext (one_more W1 (.cells #[.int .i64 x.a] 3)))
   have IX := Lib.hid (one_int (Blk.new W1 3 #[.int .i64 x.a]))
   clear hc hxg hg hown b1 g1
   have HW1 := Lib.hid hW1
   clear hW1
   have HN2 := Lib.hid (show colL (fun _ => true) Six.a (p.loads.take (k + 1)) = colL (fun _ => true) Six.a (p.loads.take k) ++ [x.a] by rw [HN.out]; rfl)
   go_upto_region 5 with fail
   rw [HW1.out]
   go_wp2_with (at_builtin; go_loud (refine wpList_app kdI (by rfl) _ _ (by rfl) W0.heap.size _ (([] : List Int) ++ colL (fun _ => true) Six.a (p.loads.take k)) (by rfl) OX.out _ 1 1 [x.a] (by rfl) IX.out HLEN.out (by simp; omega) ?_); intro v' w' ho hbw hz; have HO2 := Lib.hid ho; have HB2 := Lib.hid ((OX.out).below hbw (B := W0.heap.size) (Nat.le_refl _) (by simp; omega)); clear ho hbw hz)
   go_roundw
   case rel => exact ⟨k + 1, _, rfl, by go_num, by omega, (G1.out.trans ((one_more W1 _).mono G1.out.size)).trans HB2.out, by rw [HN2.out, ← List.append_assoc]; exact HO2.out⟩
   case measure => simp [intOf]; omega
  ·obtain rfl : n1 = k := by omega
   have HEND1 := Lib.hid (show OwnL icells 1 3 wr W0.heap.size u (([] : List Int) ++ colL (fun _ => true) Six.a p.loads) by have := HO.out; rwa [List.take_of_length_le (by rw [HL1.out.1]; exact Nat.le_refl _)] at this)
   have HGE1 := Lib.hid (show Below W0.heap.size W0 wr from HG.out)
   clear HG HO hg hown
   obtain ⟨V1, hV1⟩ : ∃ V, wr = V := ⟨_, rfl⟩
   obtain ⟨v1, hv1⟩ : ∃ v1, u = v1 := ⟨_, rfl⟩
   rw [hV1] at HEND1 HGE1 ⊢
   rw [hv1] at HEND1 ⊢
   clear hV1 hv1 hkn hk hnb
   have q2 := (HB0.out.ext HGE1.out).cell 3
   go_upto_region 7 with fail
   go_wp2_with fail
   go_loopw [3, 26] (fun v i wr => ∃ (k : Nat) (u : Value), u = v ∧ i = .int .i64 k ∧ k ≤ n2 ∧ Below W0.heap.size W0 wr ∧ OwnL icells 1 3 wr W0.heap.size v (([] ++ colL (fun _ => true) Six.a p.loads) ++ colL (fun _ => true) Six.a (p.stands.take k))) (fun _ i _ => n2 - (intOf i).toNat)
   case atStart => exact ⟨0, _, rfl, rfl, Nat.zero_le _, HGE1.out, by rw [colL_nil]; exact HEND1.out⟩
   case round =>
    obtain ⟨k, u, rfl, rfl, hk, hg, hown⟩ := hrel
    have hnb := HNB2.out
    have HG := Lib.hid hg
    have HO := Lib.hid hown
    by_cases hkn : k < n2
    ·obtain ⟨b0, o0, e0, -, -, hc⟩ := six_at (HL2.out.below hg) hkn
     obtain ⟨x0, x1, x2, x3, x4, x5⟩ := hc _ (Below.refl _ _)
     have HN := Lib.hid (colL_snoc (fun _ => true) Six.a (l := p.stands) (k := k) (by rw [HL2.out.1]; exact hkn))
     have HCL := Lib.hid (colL_len (fun _ => true) Six.a (p.stands.take k))
     obtain ⟨x, hxg⟩ : ∃ x, p.stands.getD k z6 = x := ⟨_, rfl⟩
     rw [hxg] at x0 x1 x2 x3 x4 x5 HN
     subst e0
     obtain ⟨W1, hW1⟩ : ∃ W1, wr.alloc (.cells #[.int .i64 x.a, .int .i64 x.b, .int .i64 x.c, .int .i64 x.d, .int .i64 x.e, .int .i64 x.f] 105) = W1 := ⟨_, rfl⟩
     have b1 : Blk W1 wr.heap.size 105 #[.int .i64 x.a, .int .i64 x.b, .int .i64 x.c, .int .i64 x.d, .int .i64 x.e, .int .i64 x.f] := by rw [← hW1]; exact Blk.new _ _ _
     have g1 : Below wr.heap.size wr W1 := by rw [← hW1]; exact one_more _ _
     have hwz := HG.out.size
     have O1 := Lib.hid (HO.out.ext g1)
     have G1 := Lib.hid (HG.out.trans (g1.mono hwz))
     have hgs := g1.size
     have q0 := b1.cell 0
     have q1 := b1.cell 1
     have q2 := b1.cell 2
     have q3 := b1.cell 3
     have q4 := b1.cell 4
     have q5 := b1.cell 5
     have HLEN := Lib.hid (show (([] ++ colL (fun _ => true) Six.a p.loads) ++ colL (fun _ => true) Six.a (p.stands.take k)).length + 1 ≤ 1000000 by
      have h1 := HCL.out
      have h2 := HP1.out
      have h3 := HNB2.out
      rw [List.length_take] at h1
      rw [List.length_append]
      omega)
     have OX := Lib.hid (O1.out.ext (one_more W1 (.cells #[.int .i64 x.a] 3)))
     have IX := Lib.hid (one_int (Blk.new W1 3 #[.int .i64 x.a]))
     clear hc hxg hg hown b1 g1
     have HW1 := Lib.hid hW1
     clear hW1
     have HN2 := Lib.hid (show colL (fun _ => true) Six.a (p.stands.take (k + 1)) = colL (fun _ => true) Six.a (p.stands.take k) ++ [x.a] by rw [HN.out]; rfl)
     go_upto_region 10 with fail
     rw [HW1.out]
     go_wp2_with (at_builtin; go_loud (refine wpList_app kdI (by rfl) _ _ (by rfl) W0.heap.size _ (([] ++ colL (fun _ => true) Six.a p.loads) ++ colL (fun _ => true) Six.a (p.stands.take k)) (by rfl) OX.out _ 1 1 [x.a] (by rfl) IX.out HLEN.out (by simp; omega) ?_); intro v' w' ho hbw hz; have HO2 := Lib.hid ho; have HB2 := Lib.hid ((OX.out).below hbw (B := W0.heap.size) (Nat.le_refl _) (by simp; omega)); clear ho hbw hz)
     go_roundw
     case rel => exact ⟨k + 1, _, rfl, by go_num, by omega, (G1.out.trans ((one_more W1 _).mono G1.out.size)).trans HB2.out, by rw [HN2.out, ← List.append_assoc]; exact HO2.out⟩
     case measure => simp [intOf]; omega
    ·obtain rfl : n2 = k := by omega
     have HEND2 := Lib.hid (show OwnL icells 1 3 wr W0.heap.size u (([] ++ colL (fun _ => true) Six.a p.loads) ++ colL (fun _ => true) Six.a p.stands) by have := HO.out; rwa [List.take_of_length_le (by rw [HL2.out.1]; exact Nat.le_refl _)] at this)
     have HGE2 := Lib.hid (show Below W0.heap.size W0 wr from HG.out)
     clear HG HO hg hown
     obtain ⟨V2, hV2⟩ : ∃ V, wr = V := ⟨_, rfl⟩
     obtain ⟨v2, hv2⟩ : ∃ v1, u = v1 := ⟨_, rfl⟩
     rw [hV2] at HEND2 HGE2 ⊢
     rw [hv2] at HEND2 ⊢
     clear hV2 hv2 hkn hk hnb
     have q2 := (HB0.out.ext HGE2.out).cell 4
     go_upto_region 12 with fail
     go_wp2_with fail
     go_loopw [3, 39] (fun v i wr => ∃ (k : Nat) (u : Value), u = v ∧ i = .int .i64 k ∧ k ≤ n3 ∧ Below W0.heap.size W0 wr ∧ OwnL icells 1 3 wr W0.heap.size v (([] ++ colL (fun _ => true) Six.a p.loads ++ colL (fun _ => true) Six.a p.stands) ++ colL (fun _ => true) Six.a (p.spells.take k))) (fun _ i _ => n3 - (intOf i).toNat)
     case atStart => exact ⟨0, _, rfl, rfl, Nat.zero_le _, HGE2.out, by rw [colL_nil]; exact HEND2.out⟩
     case round =>
      obtain ⟨k, u, rfl, rfl, hk, hg, hown⟩ := hrel
      have hnb := HNB3.out
      have HG := Lib.hid hg
      have HO := Lib.hid hown
      by_cases hkn : k < n3
      ·obtain ⟨b0, o0, e0, -, -, hc⟩ := six_at (HL3.out.below hg) hkn
       obtain ⟨x0, x1, x2, x3, x4, x5⟩ := hc _ (Below.refl _ _)
       have HN := Lib.hid (colL_snoc (fun _ => true) Six.a (l := p.spells) (k := k) (by rw [HL3.out.1]; exact hkn))
       have HCL := Lib.hid (colL_len (fun _ => true) Six.a (p.spells.take k))
       obtain ⟨x, hxg⟩ : ∃ x, p.spells.getD k z6 = x := ⟨_, rfl⟩
       rw [hxg] at x0 x1 x2 x3 x4 x5 HN
       subst e0
       obtain ⟨W1, hW1⟩ : ∃ W1, wr.alloc (.cells #[.int .i64 x.a, .int .i64 x.b, .int .i64 x.c, .int .i64 x.d, .int .i64 x.e, .int .i64 x.f] 107) = W1 := ⟨_, rfl⟩
       have b1 : Blk W1 wr.heap.size 107 #[.int .i64 x.a, .int .i64 x.b, .int .i64 x.c, .int .i64 x.d, .int .i64 x.e, .int .i64 x.f] := by rw [← hW1]; exact Blk.new _ _ _
       have g1 : Below wr.heap.size wr W1 := by rw [← hW1]; exact one_more _ _
       have hwz := HG.out.size
       have O1 := Lib.hid (HO.out.ext g1)
       have G1 := Lib.hid (HG.out.trans (g1.mono hwz))
       have hgs := g1.size
       have q0 := b1.cell 0
       have q1 := b1.cell 1
       have q2 := b1.cell 2
       have q3 := b1.cell 3
       have q4 := b1.cell 4
       have q5 := b1.cell 5
       have HLEN := Lib.hid (show (([] ++ colL (fun _ => true) Six.a p.loads ++ colL (fun _ => true) Six.a p.stands) ++ colL (fun _ => true) Six.a (p.spells.take k)).length + 1 ≤ 1000000 by
        have h1 := HCL.out
        have h2 := HP2.out
        have h3 := HNB3.out
        rw [List.length_take] at h1
        rw [List.length_append]
        omega)
       have OX := Lib.hid (O1.out.ext (one_more W1 (.cells #[.int .i64 x.a] 3)))
       have IX := Lib.hid (one_int (Blk.new W1 3 #[.int .i64 x.a]))
       clear hc hxg hg hown b1 g1
       have HW1 := Lib.hid hW1
       clear hW1
       have HN2 := Lib.hid (show colL (fun _ => true) Six.a (p.spells.take (k + 1)) = colL (fun _ => true) Six.a (p.spells.take k) ++ [x.a] by rw [HN.out]; rfl)
       go_upto_region 15 with fail
       rw [HW1.out]
       go_wp2_with (at_builtin; go_loud (refine wpList_app kdI (by rfl) _ _ (by rfl) W0.heap.size _ (([] ++ colL (fun _ => true) Six.a p.loads ++ colL (fun _ => true) Six.a p.stands) ++ colL (fun _ => true) Six.a (p.spells.take k)) (by rfl) OX.out _ 1 1 [x.a] (by rfl) IX.out HLEN.out (by simp; omega) ?_); intro v' w' ho hbw hz; have HO2 := Lib.hid ho; have HB2 := Lib.hid ((OX.out).below hbw (B := W0.heap.size) (Nat.le_refl _) (by simp; omega)); clear ho hbw hz)
       go_roundw
       case rel => exact ⟨k + 1, _, rfl, by go_num, by omega, (G1.out.trans ((one_more W1 _).mono G1.out.size)).trans HB2.out, by rw [HN2.out, ← List.append_assoc]; exact HO2.out⟩
       case measure => simp [intOf]; omega
      ·obtain rfl : n3 = k := by omega
       have HEND3 := Lib.hid (show OwnL icells 1 3 wr W0.heap.size u (([] ++ colL (fun _ => true) Six.a p.loads ++ colL (fun _ => true) Six.a p.stands) ++ colL (fun _ => true) Six.a p.spells) by have := HO.out; rwa [List.take_of_length_le (by rw [HL3.out.1]; exact Nat.le_refl _)] at this)
       have HGE3 := Lib.hid (show Below W0.heap.size W0 wr from HG.out)
       clear HG HO hg hown
       obtain ⟨V3, hV3⟩ : ∃ V, wr = V := ⟨_, rfl⟩
       obtain ⟨v3, hv3⟩ : ∃ v1, u = v1 := ⟨_, rfl⟩
       rw [hV3] at HEND3 HGE3 ⊢
       rw [hv3] at HEND3 ⊢
       clear hV3 hv3 hkn hk hnb
       have HSO := Lib.hid (sort_any W0.heap.size _ _ V3 HEND3.out (by have := HLT.out; exact this) HGE3.out.size)
       go_wp2_with (go_at_call 111; (with_reducible refine HSO.out.mono ?_); rintro e w' ⟨rfl, ho, hg⟩; have HO9 := Lib.hid ho; have HG9 := Lib.hid hg; clear ho hg)
       go_ret
       refine ⟨⟨_, rfl, ?_⟩, GA.out.trans ((HGE3.out.trans HG9.out).mono GA.out.size)⟩
       have := HO9.out
       rw [List.nil_append, srcs_col, srcs_col, srcs_col] at this
       exact this.mono GA.out.size
end Go.Proofs.YtkoejeghihcmlaaGreat
namespace Go.Proofs.YtkoejeghihcmlaaGreat
open Go.RowKit Go.Shelf
set_option maxRecDepth 100000 in
set_option maxHeartbeats 4000000 in
theorem telling_any (p : Pl) (A1 A2 A3 : Option Addr) (n1 c1 n2 c2 n3 c3 : Nat) (known : Int) (w : World) (hp : Pa w p A1 A2 A3 n1 c1 n2 c2 n3 c3) (hok : okPl p = true) :
  Calls Tryz.prog 103 #[plv p A1 A2 A3 n1 c1 n2 c2 n3 c3, .int .i64 known] w fun e w' => (∃ v, e = .returned v ∧ OwnL icells 1 3 w' w.heap.size v (tellL p known)) ∧ Below w.heap.size w w' := by
 obtain ⟨W0, hW0⟩ : ∃ W0, w.alloc (.cells (plb p A1 A2 A3 n1 c1 n2 c2 n3 c3) 38) = W0 := ⟨_, rfl⟩
 have g0 : Below w.heap.size w W0 := by rw [← hW0]; exact one_more _ _
 have b0 : Blk W0 w.heap.size 38 (plb p A1 A2 A3 n1 c1 n2 c2 n3 c3) := by rw [← hW0]; exact Blk.new _ _ _
 have hpar := ok_parts hok
 have HNB1 := Lib.hid (show n1 ≤ 60 by rw [← hp.l1.1]; exact hpar.2.2.2.2.2.1)
 have HNB2 := Lib.hid (show n2 ≤ 60 by rw [← hp.l2.1]; exact hpar.2.2.2.2.2.2.1)
 have HLT := Lib.hid (show (([] : List Int) ++ colL (fun x => cnt x known) Six.a p.loads ++ colL (fun x => cnt x known) Six.a p.stands).length ≤ 1000000 by
  have h1 := colL_len (fun x => cnt x known) Six.a p.loads
  have h2 := colL_len (fun x => cnt x known) Six.a p.stands
  simp only [List.length_append, List.length_nil]
  omega)
 have HP0 := Lib.hid (show ([] : List Int).length ≤ 1000 by decide)
 have HP1 := Lib.hid (show (([] : List Int) ++ colL (fun x => cnt x known) Six.a p.loads).length ≤ 1000 by
  have h1 := colL_len (fun x => cnt x known) Six.a p.loads
  simp only [List.length_append, List.length_nil]
  omega)
 have HL1 := Lib.hid (hp.l1.below g0)
 have HL2 := Lib.hid (hp.l2.below g0)
 have GA := Lib.hid g0
 have HB0 := Lib.hid b0
 have HW0 := Lib.hid hW0
 have q1 := b0.cell 2
 have HGZ := Lib.hid (Below.refl W0.heap.size W0)
 have OS0 := Lib.hid (OwnL.nil (f := icells) (size := 1) (e := 3) W0 W0.heap.size)
 have hbl := b0.lt
 clear hp hok hpar g0 b0 hW0
 go_enter Tryz.func103, Tryz.ntmps103
 go_upto_region 2 with fail
 rw [HW0.out]
 go_wp2_with fail
 go_loopw [5, 13] (fun v i wr => ∃ (k : Nat) (u : Value), u = v ∧ i = .int .i64 k ∧ k ≤ n1 ∧ Below W0.heap.size W0 wr ∧ OwnL icells 1 3 wr W0.heap.size v (([] : List Int) ++ colL (fun x => cnt x known) Six.a (p.loads.take k))) (fun _ i _ => n1 - (intOf i).toNat)
 case atStart => exact ⟨0, _, rfl, rfl, Nat.zero_le _, HGZ.out, by rw [colL_nil]; exact OS0.out⟩
 case round =>
  obtain ⟨k, u, rfl, rfl, hk, hg, hown⟩ := hrel
  have hnb := HNB1.out
  have HG := Lib.hid hg
  have HO := Lib.hid hown
  by_cases hkn : k < n1
  ·obtain ⟨b0, o0, e0, -, -, hc⟩ := six_at (HL1.out.below hg) hkn
   obtain ⟨x0, x1, x2, x3, x4, x5⟩ := hc _ (Below.refl _ _)
   have HN := Lib.hid (colL_snoc (fun x => cnt x known) Six.a (l := p.loads) (k := k) (by rw [HL1.out.1]; exact hkn))
   have HCL := Lib.hid (colL_len (fun x => cnt x known) Six.a (p.loads.take k))
   obtain ⟨x, hxg⟩ : ∃ x, p.loads.getD k z6 = x := ⟨_, rfl⟩
   rw [hxg] at x0 x1 x2 x3 x4 x5 HN
   subst e0
   obtain ⟨W1, hW1⟩ : ∃ W1, wr.alloc (.cells #[.int .i64 x.a, .int .i64 x.b, .int .i64 x.c, .int .i64 x.d, .int .i64 x.e, .int .i64 x.f] 103) = W1 := ⟨_, rfl⟩
   have b1 : Blk W1 wr.heap.size 103 #[.int .i64 x.a, .int .i64 x.b, .int .i64 x.c, .int .i64 x.d, .int .i64 x.e, .int .i64 x.f] := by rw [← hW1]; exact Blk.new _ _ _
   have g1 : Below wr.heap.size wr W1 := by rw [← hW1]; exact one_more _ _
   have hwz := HG.out.size
   have O1 := Lib.hid (HO.out.ext g1)
   have G1 := Lib.hid (HG.out.trans (g1.mono hwz))
   have hgs := g1.size
   have q0 := b1.cell 0
   have q1 := b1.cell 1
   have q2 := b1.cell 2
   have q3 := b1.cell 3
   have q4 := b1.cell 4
   have q5 := b1.cell 5
   have HLEN := Lib.hid (show (([] : List Int) ++ colL (fun x => cnt x known) Six.a (p.loads.take k)).length + 1 ≤ 1000000 by
    have h1 := HCL.out
    have h2 := HP0.out
    have h3 := HNB1.out
    rw [List.length_take] at h1
    rw [List.length_append]
    omega)
   have OX := Lib.hid (O1.out.ext (one_more W1 (.cells #[.int .i64 x.a] 3)))
   have IX := Lib.hid (one_int (Blk.new W1 3 #[.int .i64 x.a]))
   obtain ⟨cb, hcb⟩ : ∃ cb, cnt x known = cb := ⟨_, rfl⟩
   have T := fun W => cnt_any x known W
   rw [hcb] at T HN
   have HT := Lib.hid T
   clear hcb T hc hxg hg hown b1 g1
   have HW1 := Lib.hid hW1
   clear hW1
   cases cb with
   | false =>
    have HN2 := Lib.hid (show colL (fun x => cnt x known) Six.a (p.loads.take (k + 1)) = colL (fun x => cnt x known) Six.a (p.loads.take k) by rw [HN.out]; simp)
    go_upto_region 5 with fail
    rw [HW1.out]
    go_wp2_with (go_at_call 159; (with_reducible refine (HT.out _).mono ?_); rintro e w' ⟨rfl, rfl⟩)
    go_roundw
    case rel => exact ⟨k + 1, _, rfl, by go_num, by omega, G1.out, by rw [HN2.out]; exact O1.out⟩
    case measure => simp [intOf]; omega
   | true =>
    have HN2 := Lib.hid (show colL (fun x => cnt x known) Six.a (p.loads.take (k + 1)) = colL (fun x => cnt x known) Six.a (p.loads.take k) ++ [x.a] by rw [HN.out]; rfl)
    go_upto_region 5 with fail
    rw [HW1.out]
    go_wp2_with (first | (go_at_call 159; (with_reducible refine (HT.out _).mono ?_); rintro e w' ⟨rfl, rfl⟩) | (at_builtin; go_loud (refine wpList_app kdI (by rfl) _ _ (by rfl) W0.heap.size _ (([] : List Int) ++ colL (fun x => cnt x known) Six.a (p.loads.take k)) (by rfl) OX.out _ 1 1 [x.a] (by rfl) IX.out HLEN.out (by simp; omega) ?_); intro v' w' ho hbw hz; have HO2 := Lib.hid ho; have HB2 := Lib.hid ((OX.out).below hbw (B := W0.heap.size) (Nat.le_refl _) (by simp; omega)); clear ho hbw hz))
    go_roundw
    case rel => exact ⟨k + 1, _, rfl, by go_num, by omega, (G1.out.trans ((one_more W1 _).mono G1.out.size)).trans HB2.out, by rw [HN2.out, ← List.append_assoc]; exact HO2.out⟩
    case measure => simp [intOf]; omega
  ·obtain rfl : n1 = k := by omega
   have HEND1 := Lib.hid (show OwnL icells 1 3 wr W0.heap.size u (([] : List Int) ++ colL (fun x => cnt x known) Six.a p.loads) by have := HO.out; rwa [List.take_of_length_le (by rw [HL1.out.1]; exact Nat.le_refl _)] at this)
   have HGE1 := Lib.hid (show Below W0.heap.size W0 wr from HG.out)
   clear HG HO hg hown
   obtain ⟨V1, hV1⟩ : ∃ V, wr = V := ⟨_, rfl⟩
   obtain ⟨v1, hv1⟩ : ∃ v1, u = v1 := ⟨_, rfl⟩
   rw [hV1] at HEND1 HGE1 ⊢
   rw [hv1] at HEND1 ⊢
   clear hV1 hv1 hkn hk hnb
   have q2 := (HB0.out.ext HGE1.out).cell 3
   go_upto_region 8 with fail
   go_wp2_with fail
   go_loopw [5, 32] (fun v i wr => ∃ (k : Nat) (u : Value), u = v ∧ i = .int .i64 k ∧ k ≤ n2 ∧ Below W0.heap.size W0 wr ∧ OwnL icells 1 3 wr W0.heap.size v (([] ++ colL (fun x => cnt x known) Six.a p.loads) ++ colL (fun x => cnt x known) Six.a (p.stands.take k))) (fun _ i _ => n2 - (intOf i).toNat)
   case atStart => exact ⟨0, _, rfl, rfl, Nat.zero_le _, HGE1.out, by rw [colL_nil]; exact HEND1.out⟩
   case round =>
    obtain ⟨k, u, rfl, rfl, hk, hg, hown⟩ := hrel
    have hnb := HNB2.out
    have HG := Lib.hid hg
    have HO := Lib.hid hown
    by_cases hkn : k < n2
    ·obtain ⟨b0, o0, e0, -, -, hc⟩ := six_at (HL2.out.below hg) hkn
     obtain ⟨x0, x1, x2, x3, x4, x5⟩ := hc _ (Below.refl _ _)
     have HN := Lib.hid (colL_snoc (fun x => cnt x known) Six.a (l := p.stands) (k := k) (by rw [HL2.out.1]; exact hkn))
     have HCL := Lib.hid (colL_len (fun x => cnt x known) Six.a (p.stands.take k))
     obtain ⟨x, hxg⟩ : ∃ x, p.stands.getD k z6 = x := ⟨_, rfl⟩
     rw [hxg] at x0 x1 x2 x3 x4 x5 HN
     subst e0
     obtain ⟨W1, hW1⟩ : ∃ W1, wr.alloc (.cells #[.int .i64 x.a, .int .i64 x.b, .int .i64 x.c, .int .i64 x.d, .int .i64 x.e, .int .i64 x.f] 105) = W1 := ⟨_, rfl⟩
     have b1 : Blk W1 wr.heap.size 105 #[.int .i64 x.a, .int .i64 x.b, .int .i64 x.c, .int .i64 x.d, .int .i64 x.e, .int .i64 x.f] := by rw [← hW1]; exact Blk.new _ _ _
     have g1 : Below wr.heap.size wr W1 := by rw [← hW1]; exact one_more _ _
     have hwz := HG.out.size
     have O1 := Lib.hid (HO.out.ext g1)
     have G1 := Lib.hid (HG.out.trans (g1.mono hwz))
     have hgs := g1.size
     have q0 := b1.cell 0
     have q1 := b1.cell 1
     have q2 := b1.cell 2
     have q3 := b1.cell 3
     have q4 := b1.cell 4
     have q5 := b1.cell 5
     have HLEN := Lib.hid (show (([] ++ colL (fun x => cnt x known) Six.a p.loads) ++ colL (fun x => cnt x known) Six.a (p.stands.take k)).length + 1 ≤ 1000000 by
      have h1 := HCL.out
      have h2 := HP1.out
      have h3 := HNB2.out
      rw [List.length_take] at h1
      rw [List.length_append]
      omega)
     have OX := Lib.hid (O1.out.ext (one_more W1 (.cells #[.int .i64 x.a] 3)))
     have IX := Lib.hid (one_int (Blk.new W1 3 #[.int .i64 x.a]))
     obtain ⟨cb, hcb⟩ : ∃ cb, cnt x known = cb := ⟨_, rfl⟩
     have T := fun W => cnt_any x known W
     rw [hcb] at T HN
     have HT := Lib.hid T
     clear hcb T hc hxg hg hown b1 g1
     have HW1 := Lib.hid hW1
     clear hW1
     cases cb with
     | false =>
      have HN2 := Lib.hid (show colL (fun x => cnt x known) Six.a (p.stands.take (k + 1)) = colL (fun x => cnt x known) Six.a (p.stands.take k) by rw [HN.out]; simp)
      go_upto_region 11 with fail
      rw [HW1.out]
      go_wp2_with (go_at_call 159; (with_reducible refine (HT.out _).mono ?_); rintro e w' ⟨rfl, rfl⟩)
      go_roundw
      case rel => exact ⟨k + 1, _, rfl, by go_num, by omega, G1.out, by rw [HN2.out]; exact O1.out⟩
      case measure => simp [intOf]; omega
     | true =>
      have HN2 := Lib.hid (show colL (fun x => cnt x known) Six.a (p.stands.take (k + 1)) = colL (fun x => cnt x known) Six.a (p.stands.take k) ++ [x.a] by rw [HN.out]; rfl)
      go_upto_region 11 with fail
      rw [HW1.out]
      go_wp2_with (first | (go_at_call 159; (with_reducible refine (HT.out _).mono ?_); rintro e w' ⟨rfl, rfl⟩) | (at_builtin; go_loud (refine wpList_app kdI (by rfl) _ _ (by rfl) W0.heap.size _ (([] ++ colL (fun x => cnt x known) Six.a p.loads) ++ colL (fun x => cnt x known) Six.a (p.stands.take k)) (by rfl) OX.out _ 1 1 [x.a] (by rfl) IX.out HLEN.out (by simp; omega) ?_); intro v' w' ho hbw hz; have HO2 := Lib.hid ho; have HB2 := Lib.hid ((OX.out).below hbw (B := W0.heap.size) (Nat.le_refl _) (by simp; omega)); clear ho hbw hz))
      go_roundw
      case rel => exact ⟨k + 1, _, rfl, by go_num, by omega, (G1.out.trans ((one_more W1 _).mono G1.out.size)).trans HB2.out, by rw [HN2.out, ← List.append_assoc]; exact HO2.out⟩
      case measure => simp [intOf]; omega
    ·obtain rfl : n2 = k := by omega
     have HEND2 := Lib.hid (show OwnL icells 1 3 wr W0.heap.size u (([] ++ colL (fun x => cnt x known) Six.a p.loads) ++ colL (fun x => cnt x known) Six.a p.stands) by have := HO.out; rwa [List.take_of_length_le (by rw [HL2.out.1]; exact Nat.le_refl _)] at this)
     have HGE2 := Lib.hid (show Below W0.heap.size W0 wr from HG.out)
     clear HG HO hg hown
     obtain ⟨V2, hV2⟩ : ∃ V, wr = V := ⟨_, rfl⟩
     obtain ⟨v2, hv2⟩ : ∃ v1, u = v1 := ⟨_, rfl⟩
     rw [hV2] at HEND2 HGE2 ⊢
     rw [hv2] at HEND2 ⊢
     clear hV2 hv2 hkn hk hnb
     have HSO := Lib.hid (sort_any W0.heap.size _ _ V2 HEND2.out (by have := HLT.out; exact this) HGE2.out.size)
     go_wp2_with (go_at_call 111; (with_reducible refine HSO.out.mono ?_); rintro e w' ⟨rfl, ho, hg⟩; have HO9 := Lib.hid ho; have HG9 := Lib.hid hg; clear ho hg)
     go_ret
     refine ⟨⟨_, rfl, ?_⟩, GA.out.trans ((HGE2.out.trans HG9.out).mono GA.out.size)⟩
     have := HO9.out
     rw [List.nil_append] at this
     exact this.mono GA.out.size
end Go.Proofs.YtkoejeghihcmlaaGreat
namespace Go.Proofs.YtkoejeghihcmlaaGreat
open Go.RowKit Go.Shelf Go.Sort
shelf_lay Lays2.n23 Nm2 23 at Tryz as laysDelete
shelf_lay Lays2.n20 Nm2 20 at Tryz as laysCompact
theorem grow_none (w : World) : grow w #[] = w := by
 cases w; simp [grow]
theorem own_ints {w : World} {base : Nat} {v : Value} {l : List Int} (h : OwnL icells 1 3 w base v l) : w.ownsRow base 3 1 v l.length (l.map (Value.int .i64)) := by
 unfold OwnL at h
 rwa [flat_icells] at h
theorem own_ints' {w : World} {base : Nat} {v : Value} {l : List Int} (h : w.ownsRow base 3 1 v l.length (l.map (Value.int .i64))) : OwnL icells 1 3 w base v l := by
 unfold OwnL
 rwa [flat_icells]
/-- One's own row laid anew. -/
theorem own_laid {w : World} {base g n c q : Nat} {l ts : List Int} (h : OwnL icells 1 3 w base (.slice (some ⟨g, 0, none⟩) n c) l) (ht : ts.length = l.length) :
  OwnL icells 1 3 (putRow (Value.int .i64) (Sort.ahead w q) g 0 ts.toArray) base (.slice (some ⟨g, 0, none⟩) n c) ts ∧ Fix g g w (putRow (Value.int .i64) (Sort.ahead w q) g 0 ts.toArray) := by
 obtain ⟨hn0, hb, cur, hg, hn, hm, hs, -⟩ := own_inv h
 have h1 := ownsRow_sortedI (w := w) (base := base) (g := g) (cap := c) (n := q) (e := 3) (os := #[]) (cur := cur) (ss := l) (ts := ts) ht hb hg (by omega) hm hs
 rw [grow_none, ← hn0] at h1
 refine ⟨own_ints' (by rw [ht, ← hn0]; exact h1), ?_⟩
 have h2 := grownBy_sortedI (w := w) (g := g) (n := q) (os := #[]) ts.toArray
 rw [grow_none] at h2
 exact fix_turn h2
theorem delInt_any (base g n c i : Nat) (l : List Int) (w : World) (h : OwnL icells 1 3 w base (.slice (some ⟨g, 0, none⟩) n c) l) (hi : i < n) (hn : n ≤ 1000000) :
  Calls Tryz.prog 105 #[.slice (some ⟨g, 0, none⟩) n c, .int .i64 i, .int .i64 ((i : Int) + 1)] w fun e w' => e = .returned (.slice (some ⟨g, 0, none⟩) (n - 1) c) ∧ OwnL icells 1 3 w' base (.slice (some ⟨g, 0, none⟩) (n - 1) c) (l.eraseIdx i) ∧ Fix g g w w' := by
 have hx := own_inv h
 obtain ⟨hn0, hb, cur, hg, hnc, hm, hs, -⟩ := hx
 obtain ⟨g', cap, hv, -, -, -, -, -, hH⟩ := Lib.holds_of_ownsRow (own_ints h) (by simp)
 cases hv
 refine (Any.slices_Delete_int laysDelete g 0 c i (i + 1) l w hH hnc (by unfold maxLen at hm; omega) (by omega) (by omega)).mono ?_
 rintro e w' ⟨rfl, q, rfl⟩
 obtain ⟨h1, h2⟩ := own_laid (q := q) h (ts := l.take i ++ l.drop (i + 1) ++ List.replicate (i + 1 - i) 0) (by simp; omega)
 refine ⟨by rw [show i + 1 - i = 1 by omega], ?_, h2⟩
 have h3 := h1.front icells_len (i := l.length - 1) (by omega)
 have e : (l.take i ++ l.drop (i + 1) ++ List.replicate (i + 1 - i) 0).take (l.length - 1) = l.eraseIdx i := by
  rw [List.take_append_of_le_length (by rw [List.length_append, List.length_take, List.length_drop]; omega), List.take_of_length_le (by rw [List.length_append, List.length_take, List.length_drop]; omega), List.eraseIdx_eq_take_drop_succ]
 rw [e] at h3
 exact h3
theorem compactUpTo_le (d : Array Int) : ∀ m, (Lib.compactUpTo d m).length ≤ m
 | 0 => by simp [Lib.compactUpTo]
 | m + 1 => by
  have := compactUpTo_le d m
  rw [Lib.compactUpTo_succ, List.length_append]
  split
  ·rw [List.length_singleton]; omega
  ·rw [List.length_nil]; omega
theorem compact_any (base : Nat) (v : Value) (l : List Int) (w : World) (h : OwnL icells 1 3 w base v l) (hn : l.length ≤ 1000000) (hb0 : base ≤ w.heap.size) :
  Calls Tryz.prog 112 #[v] w fun e w' => (∃ v', e = .returned v' ∧ OwnL icells 1 3 w' base v' (Lib.compact l) ∧ (v'.ownBlock = v.ownBlock)) ∧ w.grownBy w' v.ownBlock := by
 by_cases hv : v = .slice none 0 0
 ·subst hv
  have e : l = [] := by
   obtain ⟨h1, h2 | ⟨g, cap, cur, h3, -⟩⟩ := h
   ·exact List.eq_nil_of_length_eq_zero (by
     have := h1; rw [flat_len icells_len] at this; omega)
   ·cases h3
  subst e
  refine (Any.slices_Compact_int_empty laysCompact none 0 w).mono ?_
  rintro e w' ⟨rfl, rfl⟩
  exact ⟨⟨_, rfl, OwnL.nil _ _, rfl⟩, ⟨rfl, rfl, rfl, Nat.le_refl _, fun _ _ _ => rfl⟩⟩
 ·obtain ⟨g, cap, rfl, -, -, hncap, hcm, -, hH⟩ := Lib.holds_of_ownsRow (own_ints h) hv
  have hle : (Lib.compact l).length ≤ l.length := compactUpTo_le l.toArray l.length
  refine (Any.slices_Compact_int laysCompact g 0 cap l w hH (by omega) hncap).mono ?_
  rintro e w' ⟨rfl, q, rfl⟩
  obtain ⟨h1, h2⟩ := own_laid (q := q) h (ts := Lib.compact l ++ List.replicate (l.length - (Lib.compact l).length) 0) (by simp; omega)
  have h3 := h1.front icells_len (i := (Lib.compact l).length) hle
  rw [List.take_append_of_le_length (Nat.le_refl _), List.take_length] at h3
  rw [show Lib.compact l ++ List.replicate (l.length - (Lib.compact l).length) 0 = Lib.compact l ++ List.replicate (l.length - (Lib.compact l).length) (0 : Int) from rfl] at h2 h3
  exact ⟨⟨_, rfl, h3, rfl⟩, fix_grown h2⟩
end Go.Proofs.YtkoejeghihcmlaaGreat
namespace Go.Proofs.YtkoejeghihcmlaaGreat
open Go.RowKit Go.Shelf
/-- What is left of contradicting ones: from the last one on, one is left out if the others contradict each other without it. -/
def clashD (p : Pl) (known : Int) : Nat → List Int → List Int
 | 0, l => l
 | k + 1, l => clashD p known k (if contraB p known (l.eraseIdx k) = true then l.eraseIdx k else l)
def clashE (p : Pl) (known : Int) : Int := if firstE p [] [known] = 0 then err (contraB p known (tellL p known)) 15 else firstE p [] [known]
def clashL (p : Pl) (known : Int) : List Int := if clashE p known = 0 then clashD p known (tellL p known).length (tellL p known) else []
theorem tell_len {p : Pl} (h : okPl p = true) (known : Int) : (tellL p known).length ≤ 120 := by
 have h1 := ok_parts h
 unfold tellL srt
 rw [List.length_mergeSort, List.length_append]
 have h2 := colL_len (fun x => cnt x known) Six.a p.loads
 have h3 := colL_len (fun x => cnt x known) Six.a p.stands
 omega
set_option maxRecDepth 100000 in
set_option maxHeartbeats 4000000 in
theorem clash_any (p : Pl) (A1 A2 A3 : Option Addr) (n1 c1 n2 c2 n3 c3 : Nat) (known : Int) (w : World) (hp : Pa w p A1 A2 A3 n1 c1 n2 c2 n3 c3) (h19 : p.loads.length ≤ 60) :
  Calls Tryz.prog 39 #[plv p A1 A2 A3 n1 c1 n2 c2 n3 c3, .int .i64 known] w fun e w' => (∃ D m c, e = .returned (.tuple #[.slice D m c, .int .i64 (clashE p known)]) ∧ Ints w' D m (clashL p known)) ∧ Below w.heap.size w w' := by
 obtain ⟨W1, hW1⟩ : ∃ W1, w.alloc (.cells (plb p A1 A2 A3 n1 c1 n2 c2 n3 c3) 38) = W1 := ⟨_, rfl⟩
 have g1 : Below w.heap.size w W1 := by rw [← hW1]; exact one_more _ _
 have b1 : Blk W1 w.heap.size 38 (plb p A1 A2 A3 n1 c1 n2 c2 n3 c3) := by rw [← hW1]; exact Blk.new _ _ _
 have p0 := b1.cell 0
 have p1 := b1.cell 1
 have p2 := b1.cell 2
 have p3 := b1.cell 3
 have p4 := b1.cell 4
 have p5 := b1.cell 5
 have HPA := Lib.hid (hp.below g1)
 have HB := Lib.hid b1
 have G1 := Lib.hid g1
 have H19 := Lib.hid h19
 have T := Lib.hid (fun W (g : Below W1.heap.size W1 W) (i1 : Ints W (some ⟨W1.heap.size, 0, none⟩) 1 [known]) => first_any p A1 A2 A3 n1 c1 n2 c2 n3 c3 none (some ⟨W1.heap.size, 0, none⟩) 0 0 1 1 [] [known] W (HPA.out.below g) Arr.nil_ i1 (by decide) (by decide))
 have HI := Lib.hid (one_int (Blk.new W1 3 #[.int .i64 known]))
 have HG := Lib.hid (one_more W1 (.cells #[.int .i64 known] 3))
 have HR := Lib.hid (show clashL p known = if clashE p known = 0 then clashD p known (tellL p known).length (tellL p known) else [] from rfl)
 have HE := Lib.hid (show clashE p known = if firstE p [] [known] = 0 then err (contraB p known (tellL p known)) 15 else firstE p [] [known] from rfl)
 have HN := Lib.hid (no_hours p known)
 obtain ⟨rr, hrr⟩ : ∃ rr, clashL p known = rr := ⟨_, rfl⟩
 obtain ⟨ce, hce⟩ : ∃ ce, clashE p known = ce := ⟨_, rfl⟩
 rw [hrr, hce] at HR
 rw [hce] at HE
 rw [hrr, hce]
 obtain ⟨fe, hfe⟩ : ∃ fe, firstE p [] [known] = fe := ⟨_, rfl⟩
 rw [hfe] at HE HN T
 have HW1 := Lib.hid hW1
 clear hrr hfe hce hp g1 b1 h19 hW1
 by_cases he : fe = 0
 ·subst he
  have HOK := Lib.hid (HN.out rfl).1
  have HTL := Lib.hid (tell_len HOK.out known)
  have T2 := Lib.hid (fun W (g : Below W1.heap.size W1 W) => telling_any p A1 A2 A3 n1 c1 n2 c2 n3 c3 known W (HPA.out.below g) HOK.out)
  have T3 := Lib.hid (fun W (g : Below W1.heap.size W1 W) A n c l (ha : Ints W A n l) (hn : n ≤ 1000000) => contra_any p A1 A2 A3 n1 c1 n2 c2 n3 c3 w.heap.size known A n c l W (HB.out.ext g) (HPA.out.below g) HOK.out H19.out ha hn)
  have HE1 := Lib.hid (show ce = err (contraB p known (tellL p known)) 15 from HE.out)
  obtain ⟨tl, htl⟩ : ∃ tl, tellL p known = tl := ⟨_, rfl⟩
  rw [htl] at HE1 HR HTL T2
  clear htl
  go_enter Tryz.func39, Tryz.ntmps39
  go_upto_region 1 with fail
  rw [HW1.out]
  go_upto_region 5 with (first
   | (go_at_call 80; (with_reducible refine (T.out _ HG.out HI.out).mono ?_); rintro e W3 ⟨rfl, hg⟩; have G3 := Lib.hid (HG.out.trans (hg.mono HG.out.size)); have y0 := (HB.out.ext G3.out).cell 0; have y1 := (HB.out.ext G3.out).cell 1; have y2 := (HB.out.ext G3.out).cell 2; have y3 := (HB.out.ext G3.out).cell 3; have y4 := (HB.out.ext G3.out).cell 4; have y5 := (HB.out.ext G3.out).cell 5; clear hg)
   | (go_at_call 103; (with_reducible refine (T2.out _ G3.out).mono ?_); rintro e W4 ⟨⟨v, rfl, ho⟩, hg⟩; obtain ⟨D, c, hv, -, -, hia, -⟩ := OwnL.arr kdI ho; subst hv; have HO := Lib.hid hia; have G4 := Lib.hid (G3.out.trans (hg.mono G3.out.size)); clear hg ho hia))
  obtain ⟨m, hm⟩ : ∃ m, tl.length = m := ⟨_, rfl⟩
  rw [hm] at HO HTL HR ⊢
  have hm120 := HTL.out
  clear y0 y1 y2 y3 y4 y5 p0 p1 p2 p3 p4 p5
  have T4 := Lib.hid (T3.out W4 G4.out D m c tl HO.out (by omega))
  obtain ⟨cb, hcb⟩ : ∃ cb, contraB p known tl = cb := ⟨_, rfl⟩
  rw [hcb] at T4 HE1
  clear hcb
  cases cb with
  | false =>
   have HR2 := Lib.hid (show rr = [] by rw [HR.out, HE1.out]; rfl)
   have HM := Lib.hid hm
   clear hm
   go_wp2_with (go_at_call 104; (with_reducible refine (T4.out).mono ?_); rintro e W5 ⟨rfl, hg⟩; have G5 := Lib.hid hg; clear hg)
   go_ret2
   exact ⟨⟨none, 0, 0, by rw [HE1.out]; rfl, by rw [HR2.out]; exact Arr.nil_⟩, G1.out.trans ((G4.out.trans (G5.out.mono G4.out.size)).mono G1.out.size)⟩
  | true =>
   have HR2 := Lib.hid (show rr = clashD p known m tl by rw [HR.out, HE1.out]; rfl)
   have HM := Lib.hid hm
   clear hm
   go_upto_region 7 with (go_at_call 104; (with_reducible refine (T4.out).mono ?_); rintro e W5 ⟨rfl, hg⟩; have G5 := Lib.hid (G4.out.trans (hg.mono G4.out.size)); have HO5 := Lib.hid (HO.out.below hg); clear hg)
   go_wp2_with fail
   go_loopw [7, 8] (fun b i wr => ∃ (k mm cc : Nat) (DD : Option Addr) (bl : List Int), .slice DD mm cc = b ∧ i = .int .i64 ((k : Int) - 1) ∧ k ≤ mm ∧ mm ≤ 120 ∧ Ints wr DD mm bl ∧ Below W1.heap.size W1 wr ∧ clashD p known k bl = rr) (fun _ i _ => (intOf i + 1).toNat)
   case atStart => exact ⟨m, m, c, D, tl, rfl, by simp, Nat.le_refl _, hm120, HO5.out, G5.out, HR2.out.symm⟩
   case round =>
    obtain ⟨k, mm, cc, DD, bl, rfl, rfl, hk, hmm, hi, hg, hcl⟩ := hrel
    have HI2 := Lib.hid hi
    have HGR := Lib.hid hg
    have HCL := Lib.hid hcl
    have hbl := Lib.hid hi.1
    clear hi hg hcl
    by_cases hk0 : 0 < k
    ·obtain ⟨ix, hix⟩ : ∃ ix, k - 1 = ix := ⟨_, rfl⟩
     have hixe : (k : Int) - 1 = (ix : Int) := by omega
     rw [hixe]
     have HKE := Lib.hid (show k = ix + 1 by omega)
     have hixm : ix < mm := by omega
     have hxw := wrap_succ ix (by omega)
     have HCX := Lib.hid (show clashD p known ix (if contraB p known (bl.eraseIdx ix) = true then bl.eraseIdx ix else bl) = rr by have := HCL.out; rw [HKE.out] at this; exact this)
     have TC := Lib.hid (cloneI_any DD mm cc bl wr HI2.out (by omega))
     clear hixe hix hk0
     go_upto_region 11 with (first
      | (go_at_call 106; (with_reducible refine (TC.out).mono ?_); rintro e W6 ⟨⟨v, rfl, ho⟩, hg⟩; obtain ⟨D6, c6, hv, -, -, hia, hgb⟩ := OwnL.arr kdI ho; subst hv; rw [hbl.out] at ho hia ⊢; obtain ⟨g6, o6, hD6, -, -⟩ := hia.2 (by omega); subst hD6; obtain ⟨-, hg6, rfl⟩ := hgb g6 o6 rfl; have G6 := Lib.hid (HGR.out.trans (hg.mono HGR.out.size)); have HO6 := Lib.hid ho; have HWR := Lib.hid hg; have HG6 := Lib.hid hg6; have HI6 := Lib.hid (HI2.out.below hg); clear hg ho hia hgb hg6)
      | (go_at_call 105; (with_reducible refine (delInt_any _ _ _ _ _ _ _ HO6.out hixm (by omega)).mono ?_); rintro e W7 ⟨rfl, ho, hf⟩; obtain ⟨D7, c7, hv7, -, -, hia, -⟩ := OwnL.arr kdI ho; have HO7 := Lib.hid hia; have HV7 := Lib.hid hv7; have HFX := Lib.hid hf; clear ho hf hia hv7))
     have HI7 := Lib.hid (show Ints W7 (some ⟨g6, 0, none⟩) (mm - 1) (bl.eraseIdx ix) by
      have h1 := HO7.out
      have h2 := HV7.out
      have hl : (bl.eraseIdx ix).length = mm - 1 := by rw [List.length_eraseIdx, if_pos (by rw [hbl.out]; exact hixm), hbl.out]
      rw [hl] at h1 h2
      cases h2
      exact h1)
     have G7 := Lib.hid (show Below W1.heap.size W1 W7 from G6.out.trans (HFX.out.below (by have := HG6.out; have := HGR.out.size; omega) G6.out.size))
     have HI8 := Lib.hid (show Ints W7 DD mm bl from (HI6.out.fix HFX.out (fun b o e h0 => by
      obtain ⟨b', o', e', hlt, -⟩ := HI2.out.2 h0
      rw [e] at e'; cases e'
      have := HG6.out
      exact ⟨by omega, by omega⟩)))
     have T5 := Lib.hid (T3.out W7 G7.out (some ⟨g6, 0, none⟩) (mm - 1) c6 (bl.eraseIdx ix) HI7.out (by omega))
     obtain ⟨cb, hcb⟩ : ∃ cb, contraB p known (bl.eraseIdx ix) = cb := ⟨_, rfl⟩
     rw [hcb] at T5 HCX
     clear hcb
     cases cb with
     | true =>
      have HCX2 := Lib.hid (show clashD p known ix (bl.eraseIdx ix) = rr from HCX.out)
      go_wp2_with (go_at_call 104; (with_reducible refine (T5.out).mono ?_); rintro e W8 ⟨rfl, hg⟩; have G8 := Lib.hid (G7.out.trans (hg.mono G7.out.size)); have HI9 := Lib.hid (HI7.out.below hg); clear hg)
      go_roundw
      case rel => exact ⟨ix, mm - 1, c6, some ⟨g6, 0, none⟩, bl.eraseIdx ix, rfl, by simp, by omega, by omega, HI9.out, G8.out, HCX2.out⟩
      case measure => simp [intOf]
     | false =>
      have HCX2 := Lib.hid (show clashD p known ix bl = rr from HCX.out)
      go_wp2_with (go_at_call 104; (with_reducible refine (T5.out).mono ?_); rintro e W8 ⟨rfl, hg⟩; have G8 := Lib.hid (G7.out.trans (hg.mono G7.out.size)); have HI9 := Lib.hid (HI8.out.below hg); clear hg)
      go_roundw
      case rel => exact ⟨ix, mm, cc, DD, bl, rfl, by simp, by omega, by omega, HI9.out, G8.out, HCX2.out⟩
      case measure => simp [intOf]
    ·obtain rfl : k = 0 := by omega
     have HCX2 := Lib.hid (show rr = bl from HCL.out.symm)
     rw [show ((0 : Nat) : Int) - 1 = -1 from rfl]
     go_wp2_with fail
     go_ret2
     exact ⟨⟨DD, mm, cc, by rw [HE1.out]; rfl, by rw [HCX2.out]; exact HI2.out⟩, G1.out.trans (HGR.out.mono G1.out.size)⟩
 ·have HE2 := Lib.hid (show ce = fe by rw [HE.out, if_neg he])
  have HR2 := Lib.hid (show rr = [] by rw [HR.out, HE2.out, if_neg he])
  have hne : (fe != 0) = true := by simpa using he
  go_enter Tryz.func39, Tryz.ntmps39
  go_upto_region 1 with fail
  rw [HW1.out]
  go_wp2_with (go_at_call 80; (with_reducible refine (T.out _ HG.out HI.out).mono ?_); rintro e W3 ⟨rfl, hg⟩; have G3 := Lib.hid (HG.out.trans (hg.mono HG.out.size)); clear hg)
  go_ret2
  exact ⟨⟨none, 0, 0, by rw [HE2.out]; rfl, by rw [HR2.out]; exact Arr.nil_⟩, G1.out.trans (G3.out.mono G1.out.size)⟩
end Go.Proofs.YtkoejeghihcmlaaGreat
