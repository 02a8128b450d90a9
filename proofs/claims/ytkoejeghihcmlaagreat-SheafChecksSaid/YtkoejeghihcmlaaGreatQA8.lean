/- Part of the proof: WC, WD, WT, YD, YE, YF, WH, WS, WU, UH, XR, VN. -/
import Derived.Shelf.RegionOpenPlain
import Derived.Lib.Overlaps
import Derived.Laws.IdiomCopy
import Derived.Laws.Externs
import Derived.Lib.AppendZerosOnto
import Derived.Laws.NewBlocks
import Derived.Test.YtkoejeghihcmlaaGreatQA2
import Derived.Test.YtkoejeghihcmlaaGreatQA4
import Derived.Test.YtkoejeghihcmlaaGreatQA7
namespace Go.Proofs.YtkoejeghihcmlaaGreat
open Go.RowKit Go.Shelf
/-- The days of something. -/
def datL (k u : Int) : List Int := if u = 0 then [k] else [k, u]
def dates (l : List Six) : List Int := l.flatMap fun x => datL x.e x.f
theorem dates_snoc {l : List Six} {k : Nat} (hk : k < l.length) : dates (l.take (k + 1)) = dates (l.take k) ++ datL (l.getD k z6).e (l.getD k z6).f := by
 unfold dates
 rw [List.take_succ_eq_append_getElem hk, List.flatMap_append, six_get hk]
 simp
theorem datL_len (k u : Int) : (datL k u).length ≤ 2 := by unfold datL; split <;> simp
theorem dates_len : ∀ l : List Six, (dates l).length ≤ 2 * l.length
 | [] => Nat.zero_le _
 | x :: l => by
  have h1 := dates_len l
  have h2 := datL_len x.e x.f
  show (datL x.e x.f ++ dates l).length ≤ _
  rw [List.length_append, List.length_cons]
  omega
def datesAll (p : Pl) : List Int := dates p.loads ++ dates p.stands ++ dates p.spells
def datesL (p : Pl) : List Int := Lib.compact (srt (datesAll p))
/-- A variable that holds one's own integers. -/
structure Ad (bo : Nat) (W : World) (v : Value) (l : List Int) : Prop where
 b : Blk W bo 39 #[v]
 o : OwnL icells 1 3 W (bo + 1) v l
theorem Ad.ext {bo : Nat} {W W' : World} {v : Value} {l : List Int} (h : Ad bo W v l) (g : Below W.heap.size W W') : Ad bo W' v l := ⟨h.b.ext g, h.o.ext g⟩
theorem Ad.put {bo : Nat} {W W' : World} {v v' : Value} {l l' : List Int} (h : Ad bo W v l) (g : W.grownBy W' v.ownBlock) (ho : OwnL icells 1 3 W' (bo + 1) v' l') : Ad bo (W'.setCell ⟨bo, 0, none⟩ v') v' l' :=
 ⟨(h.b.grown g (fun e => by have := (own_lt h.o e).1; omega)).set_ 0 v', ho.far (p := ⟨bo, 0, none⟩) (Nat.lt_succ_self bo) _⟩
theorem Ad.below {bo : Nat} {W W' : World} {v : Value} {l : List Int} (h : Ad bo W v l) (g : W.grownBy W' v.ownBlock) (u : Value) : Below bo W (W'.setCell ⟨bo, 0, none⟩ u) :=
 ((Below.refl _ _).grown g (Nat.le_of_lt h.b.lt) (fun k e => by have := (own_lt h.o e).1; omega)).setCell (p := ⟨bo, 0, none⟩) (Nat.le_refl _) _
set_option maxRecDepth 100000 in
set_option maxHeartbeats 2000000 in
theorem add_any (bo : Nat) (k u : Int) (v : Value) (l : List Int) (w : World) (h : Ad bo w v l) (hl : l.length ≤ 1000) :
  Calls Tryz.prog 110 #[.int .i64 k, .int .i64 u, .pointer (some ⟨bo, 0, none⟩)] w fun e w' => e = .returned (.tuple #[]) ∧ (∃ v', Ad bo w' v' (l ++ datL k u)) ∧ Below bo w w' := by
 obtain ⟨A, c, hv, -, -, -, -⟩ := OwnL.arr kdI h.o
 obtain ⟨n, hn⟩ : ∃ n, l.length = n := ⟨_, rfl⟩
 rw [hn] at hv hl
 subst hv
 have H := Lib.hid h
 have HN := Lib.hid hn
 have q0 := h.b.cell 0
 have HL := Lib.hid (show l.length + 1 ≤ 1000000 by omega)
 have HX := Lib.hid (H.out.ext (one_more w (.cells #[.int .i64 k] 3)))
 have IX := Lib.hid (one_int (Blk.new w 3 #[.int .i64 k]))
 have HBS := Lib.hid (show bo + 1 ≤ (w.alloc (.cells #[.int .i64 k] 3)).heap.size by have := HX.out.b.lt; omega)
 have hD : datL k u = if u = 0 then [k] else [k, u] := rfl
 clear h hn
 by_cases hu : u = 0
 ·subst hu
  have HD := Lib.hid (show datL k 0 = [k] from rfl)
  clear hD
  go_enter Tryz.func110, Tryz.ntmps110
  go_wp2_with (at_builtin; go_loud (refine wpList_app kdI (by rfl) _ _ (by rfl) (bo + 1) _ l (by rfl) HX.out.o _ 1 1 [k] (by rfl) IX.out HL.out HBS.out ?_); intro v' w' ho hgr hz; obtain ⟨A6, c6, e6, -, -, -, -⟩ := OwnL.arr kdI ho; obtain ⟨m6, hm6⟩ : ∃ m6, (l ++ [k]).length = m6 := ⟨_, rfl⟩; rw [hm6] at e6; clear hm6; subst e6; have HP := Lib.hid (HX.out.put hgr ho); have HQ := Lib.hid ((one_more w (.cells #[.int .i64 k] 3)).mono (Nat.le_of_lt H.out.b.lt) |>.trans (HX.out.below hgr (.slice A6 m6 c6))); have hpg := (HX.out.b.grown hgr (fun e => by have := (own_lt HX.out.o e).1; omega)); have f1 := hpg.frozen 0; have e1 := hpg.cell 0; clear ho hgr hz hpg)
  go_end0
  exact ⟨rfl, ⟨_, by rw [HD.out]; exact HP.out⟩, HQ.out⟩
 ·have HD := Lib.hid (show datL k u = [k] ++ [u] by rw [hD, if_neg hu]; rfl)
  have hne : (u != 0) = true := by simpa using hu
  clear hD
  go_enter Tryz.func110, Tryz.ntmps110
  go_upto_region 1 with (at_builtin; go_loud (refine wpList_app kdI (by rfl) _ _ (by rfl) (bo + 1) _ (l) (by rfl) HX.out.o _ 1 1 [k] (by rfl) IX.out HL.out HBS.out ?_); intro v' w' ho hgr hz; obtain ⟨A6, c6, e6, -, -, -, -⟩ := OwnL.arr kdI ho; obtain ⟨m6, hm6⟩ : ∃ m6, (l ++ [k]).length = m6 := ⟨_, rfl⟩; rw [hm6] at e6; clear hm6; subst e6; have HP := Lib.hid (HX.out.put hgr ho); have HQ := Lib.hid ((one_more _ (.cells #[.int .i64 k] 3)).mono (Nat.le_of_lt H.out.b.lt) |>.trans (HX.out.below hgr (.slice A6 m6 c6))); have hpg := (HX.out.b.grown hgr (fun e => by have := (own_lt HX.out.o e).1; omega)); have f1 := hpg.frozen 0; have e1 := hpg.cell 0; clear ho hgr hz hpg)
  obtain ⟨W1, hW1⟩ : ∃ W, w'.setCell ⟨bo, 0, none⟩ (.slice A6 m6 c6) = W := ⟨_, rfl⟩
  rw [hW1] at HP HQ ⊢
  clear hW1 f1 e1 q0
  have q0 := HP.out.b.cell 0
  have HLm := Lib.hid (show (l ++ [k]).length = m6 from by
   obtain ⟨_, _, e, -⟩ := OwnL.arr kdI HP.out.o
   cases e
   rfl)
  have HX2 := Lib.hid (HP.out.ext (one_more W1 (.cells #[.int .i64 u] 3)))
  have IX2 := Lib.hid (one_int (Blk.new W1 3 #[.int .i64 u]))
  have HBS2 := Lib.hid (show bo + 1 ≤ (W1.alloc (.cells #[.int .i64 u] 3)).heap.size by have := HX2.out.b.lt; omega)
  have HL2 := Lib.hid (show (l ++ [k]).length + 1 ≤ 1000000 by rw [List.length_append, HN.out]; show n + 1 + 1 ≤ _; omega)
  go_wp2_with (at_builtin; go_loud (refine wpList_app kdI (by rfl) _ _ (by rfl) (bo + 1) _ (l ++ [k]) (by rfl) HX2.out.o _ 1 1 [u] (by rfl) IX2.out HL2.out HBS2.out ?_); intro v' w' ho hgr hz; obtain ⟨A7, c7, e7, -, -, -, -⟩ := OwnL.arr kdI ho; obtain ⟨m7, hm7⟩ : ∃ m7, (l ++ [k] ++ [u]).length = m7 := ⟨_, rfl⟩; rw [hm7] at e7; clear hm7; subst e7; have HP2 := Lib.hid (HX2.out.put hgr ho); have HQ2 := Lib.hid ((one_more _ (.cells #[.int .i64 u] 3)).mono (Nat.le_of_lt HP.out.b.lt) |>.trans (HX2.out.below hgr (.slice A7 m7 c7))); have hpg := (HX2.out.b.grown hgr (fun e => by have := (own_lt HX2.out.o e).1; omega)); have f1 := hpg.frozen 0; have e1 := hpg.cell 0; clear ho hgr hz hpg)
  go_end0
  exact ⟨rfl, ⟨_, by rw [HD.out, ← List.append_assoc]; exact HP2.out⟩, HQ.out.trans HQ2.out⟩
set_option maxRecDepth 100000 in
set_option maxHeartbeats 8000000 in
theorem dates_any (p : Pl) (A1 A2 A3 : Option Addr) (n1 c1 n2 c2 n3 c3 : Nat) (w : World) (hp : Pa w p A1 A2 A3 n1 c1 n2 c2 n3 c3) :
  Calls Tryz.prog 44 #[plv p A1 A2 A3 n1 c1 n2 c2 n3 c3] w fun e w' => (∃ D m c, e = .returned (.tuple #[.slice D m c, .int .i64 (err (okPl p) 13)]) ∧ Ints w' D m (if okPl p = true then datesL p else [])) ∧ Below w.heap.size w w' := by
 obtain ⟨W1, hW1⟩ : ∃ W1, w.alloc (.cells (plb p A1 A2 A3 n1 c1 n2 c2 n3 c3) 38) = W1 := ⟨_, rfl⟩
 have g1 : Below w.heap.size w W1 := by rw [← hW1]; exact one_more _ _
 have b1 : Blk W1 w.heap.size 38 (plb p A1 A2 A3 n1 c1 n2 c2 n3 c3) := by rw [← hW1]; exact Blk.new _ _ _
 have p0 := b1.cell 0
 have p1 := b1.cell 1
 have p2 := b1.cell 2
 have p3 := b1.cell 3
 have p4 := b1.cell 4
 have p5 := b1.cell 5
 have T := check_any p A1 A2 A3 n1 c1 n2 c2 n3 c3 W1 (hp.below g1)
 have HPA := Lib.hid (hp.below g1)
 have HB := Lib.hid b1
 have G1 := Lib.hid g1
 have HOKP := Lib.hid (fun h : okPl p = true => ok_parts h)
 obtain ⟨ok, hok⟩ : ∃ b, okPl p = b := ⟨_, rfl⟩
 rw [hok] at T HOKP ⊢
 have HT := Lib.hid T
 obtain ⟨rr, hrr⟩ : ∃ l, (if ok = true then datesL p else []) = l := ⟨_, rfl⟩
 have HR := Lib.hid hrr
 rw [hrr]
 have HW1 := Lib.hid hW1
 clear T hp g1 b1 hW1 hok hrr
 cases ok with
 | false =>
  have HRR := Lib.hid (show rr = [] from HR.out.symm)
  have HER := Lib.hid (show err false 13 = 13 from rfl)
  rw [HER.out] at HT ⊢
  go_enter Tryz.func44, Tryz.ntmps44
  go_upto_region 1 with fail
  rw [HW1.out]
  go_wp2_with (go_at_call 65; (with_reducible refine (HT.out).mono ?_); rintro e V2 ⟨rfl, hg⟩; have G2 := Lib.hid hg; clear hg)
  go_ret2
  exact ⟨⟨none, 0, 0, rfl, by rw [HRR.out]; exact Arr.nil_⟩, G1.out.trans (G2.out.mono G1.out.size)⟩
 | true =>
  have HRR := Lib.hid (show rr = datesL p from HR.out.symm)
  have HER := Lib.hid (show err true 13 = 0 from rfl)
  rw [HER.out] at HT
  have HPP := Lib.hid (HOKP.out rfl)
  have HL1' := Lib.hid HPA.out.l1
  have HN1 := Lib.hid (show n1 ≤ 60 by rw [← HPA.out.l1.1]; exact HPP.out.2.2.2.2.2.1)
  have HN2 := Lib.hid (show n2 ≤ 60 by rw [← HPA.out.l2.1]; exact HPP.out.2.2.2.2.2.2.1)
  have HN3 := Lib.hid (show n3 ≤ 60 by rw [← HPA.out.l3.1]; exact HPP.out.2.2.2.2.2.2.2.1)
  go_enter Tryz.func44, Tryz.ntmps44
  go_upto_region 1 with fail
  rw [HW1.out]
  go_upto_region 4 with (go_at_call 65; (with_reducible refine (HT.out).mono ?_); rintro e W3 ⟨rfl, hg⟩; have G2 := Lib.hid hg; clear hg)
  have G3 := Lib.hid (G1.out.trans (G2.out.mono G1.out.size))
  have HB0 := Lib.hid (HB.out.ext G2.out)
  have HPA3 := Lib.hid (HPA.out.below G2.out)
  have HL1 := Lib.hid HPA3.out.l1
  have HL2 := Lib.hid HPA3.out.l2
  have HL3 := Lib.hid HPA3.out.l3
  have HPR1 := Lib.hid (show ([] : List Int).length ≤ 500 by decide)
  have HPR2 := Lib.hid (show (dates p.loads).length ≤ 500 by have h1 := dates_len p.loads; have l1 := HL1.out.1; have k1 := HN1.out; omega)
  have HPR3 := Lib.hid (show (dates p.loads ++ dates p.stands).length ≤ 500 by have h1 := dates_len p.loads; have h2 := dates_len p.stands; have l1 := HL1.out.1; have k1 := HN1.out; have l2 := HL2.out.1; have k2 := HN2.out; rw [List.length_append]; omega)
  have q1 := HB0.out.cell 2
  have hbl := HB0.out.lt
  clear p0 p1 p2 p3 p4 p5
  have AD0 := Lib.hid (show Ad W3.heap.size (W3.alloc (.cells #[.slice none 0 0] 39)) (.slice none 0 0) ([] ++ dates (p.loads.take 0)) from ⟨Blk.new _ _ _, OwnL.nil _ _⟩)
  go_wp2_with fail
  clear q1
  go_loopw [22] (fun i wr => ∃ (k : Nat) (v : Value), i = .int .i64 k ∧ k ≤ n1 ∧ Below W3.heap.size W3 wr ∧ Ad W3.heap.size wr v ([] ++ dates (p.loads.take k))) (fun i _ => n1 - (intOf i).toNat)
  case atStart => exact ⟨0, _, rfl, Nat.zero_le _, one_more _ _, AD0.out⟩
  case round =>
   obtain ⟨k, v, rfl, hk, hg, had⟩ := hrel
   have HG := Lib.hid hg
   have HA := Lib.hid had
   have hnb := HN1.out
   clear hg had
   by_cases hkn : k < n1
   ·obtain ⟨b0, o0, e0, -, -, hc⟩ := six_at (HL1.out.below HG.out) hkn
    obtain ⟨x0, x1, x2, x3, x4, x5⟩ := hc _ (Below.refl _ _)
    have HN := Lib.hid (dates_snoc (l := p.loads) (k := k) (by rw [HL1.out.1]; exact hkn))
    have HLL := Lib.hid (show ([] ++ dates (p.loads.take k)).length ≤ 1000 by
     have h1 := dates_len (p.loads.take k)
     have h2 := HPR1.out
     rw [List.length_take] at h1
     rw [List.length_append]
     omega)
    obtain ⟨x, hxg⟩ : ∃ x, p.loads.getD k z6 = x := ⟨_, rfl⟩
    rw [hxg] at x0 x1 x2 x3 x4 x5 HN
    subst e0
    obtain ⟨W5, hW5⟩ : ∃ W, wr.alloc (.cells #[.int .i64 x.a, .int .i64 x.b, .int .i64 x.c, .int .i64 x.d, .int .i64 x.e, .int .i64 x.f] 103) = W := ⟨_, rfl⟩
    have b5 : Blk W5 wr.heap.size 103 #[.int .i64 x.a, .int .i64 x.b, .int .i64 x.c, .int .i64 x.d, .int .i64 x.e, .int .i64 x.f] := by rw [← hW5]; exact Blk.new _ _ _
    have g5 : Below wr.heap.size wr W5 := by rw [← hW5]; exact one_more _ _
    have HA5 := Lib.hid (HA.out.ext g5)
    have HG5 := Lib.hid (HG.out.trans (g5.mono HG.out.size))
    have q4 := b5.cell 4
    have q5 := b5.cell 5
    have TA := Lib.hid (add_any W3.heap.size x.e x.f v _ W5 HA5.out HLL.out)
    have HW5 := Lib.hid hW5
    clear hc hxg b5 g5 hW5
    go_upto_region 9 with fail
    rw [HW5.out]
    go_wp2_with (go_at_call 110; (with_reducible refine (TA.out).mono ?_); rintro e V ⟨rfl, ⟨v6, had6⟩, hg6⟩; have HA6 := Lib.hid had6; have HG6 := Lib.hid (HG5.out.trans hg6); clear had6 hg6)
    go_roundw
    case rel => exact ⟨k + 1, v6, by go_num, by omega, HG6.out, by rw [HN.out, ← List.append_assoc]; exact HA6.out⟩
    case measure => simp [intOf]; omega
   ·obtain rfl : n1 = k := by omega
    have HE1 := Lib.hid (show Ad W3.heap.size wr v ([] ++ dates p.loads) by have := HA.out; rwa [List.take_of_length_le (by rw [HL1.out.1]; exact Nat.le_refl _)] at this)
    have HGE1 := HG
    obtain ⟨V1, hV⟩ : ∃ V, wr = V := ⟨_, rfl⟩
    obtain ⟨v1, hv⟩ : ∃ V, v = V := ⟨_, rfl⟩
    rw [hV] at HE1 HGE1 ⊢
    rw [hv] at HE1
    clear HG HA hnb hkn hk hV hv
    have q2 := (HB0.out.ext HGE1.out).cell 3
    go_wp2_with fail
    clear q2
    go_loopw [36] (fun i wr => ∃ (k : Nat) (v : Value), i = .int .i64 k ∧ k ≤ n2 ∧ Below W3.heap.size W3 wr ∧ Ad W3.heap.size wr v (dates p.loads ++ dates (p.stands.take k))) (fun i _ => n2 - (intOf i).toNat)
    case atStart => exact ⟨0, _, rfl, Nat.zero_le _, HGE1.out, by show Ad _ _ _ (_ ++ dates []); rw [show dates [] = [] from rfl, List.append_nil]; exact HE1.out⟩
    case round =>
     obtain ⟨k, v, rfl, hk, hg, had⟩ := hrel
     have HG := Lib.hid hg
     have HA := Lib.hid had
     have hnb := HN2.out
     clear hg had
     by_cases hkn : k < n2
     ·obtain ⟨b0, o0, e0, -, -, hc⟩ := six_at (HL2.out.below HG.out) hkn
      obtain ⟨x0, x1, x2, x3, x4, x5⟩ := hc _ (Below.refl _ _)
      have HN := Lib.hid (dates_snoc (l := p.stands) (k := k) (by rw [HL2.out.1]; exact hkn))
      have HLL := Lib.hid (show (dates p.loads ++ dates (p.stands.take k)).length ≤ 1000 by
       have h1 := dates_len (p.stands.take k)
       have h2 := HPR2.out
       rw [List.length_take] at h1
       rw [List.length_append]
       omega)
      obtain ⟨x, hxg⟩ : ∃ x, p.stands.getD k z6 = x := ⟨_, rfl⟩
      rw [hxg] at x0 x1 x2 x3 x4 x5 HN
      subst e0
      obtain ⟨W5, hW5⟩ : ∃ W, wr.alloc (.cells #[.int .i64 x.a, .int .i64 x.b, .int .i64 x.c, .int .i64 x.d, .int .i64 x.e, .int .i64 x.f] 105) = W := ⟨_, rfl⟩
      have b5 : Blk W5 wr.heap.size 105 #[.int .i64 x.a, .int .i64 x.b, .int .i64 x.c, .int .i64 x.d, .int .i64 x.e, .int .i64 x.f] := by rw [← hW5]; exact Blk.new _ _ _
      have g5 : Below wr.heap.size wr W5 := by rw [← hW5]; exact one_more _ _
      have HA5 := Lib.hid (HA.out.ext g5)
      have HG5 := Lib.hid (HG.out.trans (g5.mono HG.out.size))
      have q4 := b5.cell 4
      have q5 := b5.cell 5
      have TA := Lib.hid (add_any W3.heap.size x.e x.f v _ W5 HA5.out HLL.out)
      have HW5 := Lib.hid hW5
      clear hc hxg b5 g5 hW5
      go_upto_region 14 with fail
      rw [HW5.out]
      go_wp2_with (go_at_call 110; (with_reducible refine (TA.out).mono ?_); rintro e V ⟨rfl, ⟨v6, had6⟩, hg6⟩; have HA6 := Lib.hid had6; have HG6 := Lib.hid (HG5.out.trans hg6); clear had6 hg6)
      go_roundw
      case rel => exact ⟨k + 1, v6, by go_num, by omega, HG6.out, by rw [HN.out, ← List.append_assoc]; exact HA6.out⟩
      case measure => simp [intOf]; omega
     ·obtain rfl : n2 = k := by omega
      have HE2 := Lib.hid (show Ad W3.heap.size wr v (dates p.loads ++ dates p.stands) by have := HA.out; rwa [List.take_of_length_le (by rw [HL2.out.1]; exact Nat.le_refl _)] at this)
      have HGE2 := HG
      obtain ⟨V2, hV⟩ : ∃ V, wr = V := ⟨_, rfl⟩
      obtain ⟨v2, hv⟩ : ∃ V, v = V := ⟨_, rfl⟩
      rw [hV] at HE2 HGE2 ⊢
      rw [hv] at HE2
      clear HG HA hnb hkn hk hV hv
      have q3 := (HB0.out.ext HGE2.out).cell 4
      go_wp2_with fail
      clear q3
      go_loopw [50] (fun i wr => ∃ (k : Nat) (v : Value), i = .int .i64 k ∧ k ≤ n3 ∧ Below W3.heap.size W3 wr ∧ Ad W3.heap.size wr v (dates p.loads ++ dates p.stands ++ dates (p.spells.take k))) (fun i _ => n3 - (intOf i).toNat)
      case atStart => exact ⟨0, _, rfl, Nat.zero_le _, HGE2.out, by show Ad _ _ _ (_ ++ dates []); rw [show dates [] = [] from rfl, List.append_nil]; exact HE2.out⟩
      case round =>
       obtain ⟨k, v, rfl, hk, hg, had⟩ := hrel
       have HG := Lib.hid hg
       have HA := Lib.hid had
       have hnb := HN3.out
       clear hg had
       by_cases hkn : k < n3
       ·obtain ⟨b0, o0, e0, -, -, hc⟩ := six_at (HL3.out.below HG.out) hkn
        obtain ⟨x0, x1, x2, x3, x4, x5⟩ := hc _ (Below.refl _ _)
        have HN := Lib.hid (dates_snoc (l := p.spells) (k := k) (by rw [HL3.out.1]; exact hkn))
        have HLL := Lib.hid (show (dates p.loads ++ dates p.stands ++ dates (p.spells.take k)).length ≤ 1000 by
         have h1 := dates_len (p.spells.take k)
         have h2 := HPR3.out
         rw [List.length_take] at h1
         rw [List.length_append]
         omega)
        obtain ⟨x, hxg⟩ : ∃ x, p.spells.getD k z6 = x := ⟨_, rfl⟩
        rw [hxg] at x0 x1 x2 x3 x4 x5 HN
        subst e0
        obtain ⟨W5, hW5⟩ : ∃ W, wr.alloc (.cells #[.int .i64 x.a, .int .i64 x.b, .int .i64 x.c, .int .i64 x.d, .int .i64 x.e, .int .i64 x.f] 107) = W := ⟨_, rfl⟩
        have b5 : Blk W5 wr.heap.size 107 #[.int .i64 x.a, .int .i64 x.b, .int .i64 x.c, .int .i64 x.d, .int .i64 x.e, .int .i64 x.f] := by rw [← hW5]; exact Blk.new _ _ _
        have g5 : Below wr.heap.size wr W5 := by rw [← hW5]; exact one_more _ _
        have HA5 := Lib.hid (HA.out.ext g5)
        have HG5 := Lib.hid (HG.out.trans (g5.mono HG.out.size))
        have q4 := b5.cell 4
        have q5 := b5.cell 5
        have TA := Lib.hid (add_any W3.heap.size x.e x.f v _ W5 HA5.out HLL.out)
        have HW5 := Lib.hid hW5
        clear hc hxg b5 g5 hW5
        go_upto_region 19 with fail
        rw [HW5.out]
        go_wp2_with (go_at_call 110; (with_reducible refine (TA.out).mono ?_); rintro e V ⟨rfl, ⟨v6, had6⟩, hg6⟩; have HA6 := Lib.hid had6; have HG6 := Lib.hid (HG5.out.trans hg6); clear had6 hg6)
        go_roundw
        case rel => exact ⟨k + 1, v6, by go_num, by omega, HG6.out, by rw [HN.out, ← List.append_assoc]; exact HA6.out⟩
        case measure => simp [intOf]; omega
       ·obtain rfl : n3 = k := by omega
        have HE3 := Lib.hid (show Ad W3.heap.size wr v (dates p.loads ++ dates p.stands ++ dates p.spells) by have := HA.out; rwa [List.take_of_length_le (by rw [HL3.out.1]; exact Nat.le_refl _)] at this)
        have HGE3 := HG
        obtain ⟨V3, hV⟩ : ∃ V, wr = V := ⟨_, rfl⟩
        obtain ⟨v3, hv⟩ : ∃ V, v = V := ⟨_, rfl⟩
        rw [hV] at HE3 HGE3 ⊢
        rw [hv] at HE3
        clear HG HA hnb hkn hk hV hv
        have HDA := Lib.hid (show Ad W3.heap.size V3 v3 (datesAll p) from HE3.out)
        have HLA := Lib.hid (show (datesAll p).length ≤ 1000 by
         have h1 := dates_len p.loads
         have h2 := dates_len p.stands
         have h3 := dates_len p.spells
         have l1 := HL1.out.1
         have l2 := HL2.out.1
         have l3 := HL3.out.1
         have k1 := HN1.out
         have k2 := HN2.out
         have k3 := HN3.out
         unfold datesAll
         rw [List.length_append, List.length_append]
         omega)
        have HD := Lib.hid (show datesL p = Lib.compact (srt (datesAll p)) from rfl)
        obtain ⟨da, hda⟩ : ∃ d, datesAll p = d := ⟨_, rfl⟩
        rw [hda] at HDA HLA HD
        obtain ⟨A, c, hv, -, -, -, -⟩ := OwnL.arr kdI HDA.out.o
        obtain ⟨n, hn⟩ : ∃ n, da.length = n := ⟨_, rfl⟩
        rw [hn] at hv
        subst hv
        have hbw := HDA.out.b.lt
        have TS := Lib.hid (sort_any (W3.heap.size + 1) _ da V3 HDA.out.o (by have := HLA.out; omega) hbw)
        have q6 := HDA.out.b.cell 0
        have HBW := Lib.hid hbw
        clear hda hn hbw
        go_upto_region 22 with (go_at_call 111; (with_reducible refine (TS.out).mono ?_); rintro e V4 ⟨rfl, ho, hg⟩; have HO4 := Lib.hid ho; have HG4 := Lib.hid hg; clear ho hg)
        have HB4 := Lib.hid (show Blk V4 W3.heap.size 39 #[.slice A n c] from (HG4.out.block _ (Nat.lt_succ_self _)).trans HDA.out.b)
        have q7 := HB4.out.cell 0
        have TC := Lib.hid (compact_any (W3.heap.size + 1) _ (srt da) V4 HO4.out (by rw [show (srt da).length = da.length from List.length_mergeSort _]; have := HLA.out; omega) HB4.out.lt)
        clear q6
        go_wp2_with (go_at_call 112; (with_reducible refine (TC.out).mono ?_); rintro e V5 ⟨⟨u, rfl, ho, -⟩, hgr⟩; have HO5 := Lib.hid ho; have HG5 := Lib.hid hgr; clear ho hgr)
        obtain ⟨A5, c5, hv5, -, -, hi5, -⟩ := OwnL.arr kdI HO5.out
        subst hv5
        go_ret2
        exact ⟨⟨_, _, _, by rw [HER.out]; rfl, by rw [HRR.out, HD.out]; exact hi5⟩, (G3.out.trans ((HGE3.out.trans (HG4.out.mono (Nat.le_succ _))).mono G3.out.size)).grown HG5.out (by have := HB4.out.lt; have := G3.out.size; omega) (fun k e => by have := (own_lt HO4.out e).1; have := G3.out.size; omega)⟩
end Go.Proofs.YtkoejeghihcmlaaGreat

namespace Go.Proofs.YtkoejeghihcmlaaGreat
open Go.RowKit Go.Shelf
def zeroPl : Pl := ⟨0, 0, [], [], [], 0⟩
def wioE (p : Pl) (s : Int) : Int := if okPl p = true then err (hasI (srcsAll p) s) 3 else 13
def wioP (p : Pl) (s : Int) : Pl := if wioE p s = 0 then withoutP p s else zeroPl
/-- What Without returns. -/
def WioEnd (p : Pl) (s : Int) (w : World) (e : Ending) (w' : World) : Prop :=
 (∃ v1 v2 v3, e = .returned (.tuple #[.agg (plw (wioP p s) v1 v2 v3), .int .i64 (wioE p s)]) ∧ Cp w' w.heap.size (wioP p s) v1 v2 v3) ∧ Below w.heap.size w w'
theorem Blk.setAll6 {W : World} {b : Nat} {t : TypeId} {c0 c1 c2 c3 c4 c5 : Value} (h : Blk W b t #[c0, c1, c2, c3, c4, c5]) (a0 a1 a2 a3 a4 a5 : Value) :
  Blk ((((((W.setCell ⟨b, 0, none⟩ a0).setCell ⟨b, 1, none⟩ a1).setCell ⟨b, 2, none⟩ a2).setCell ⟨b, 3, none⟩ a3).setCell ⟨b, 4, none⟩ a4).setCell ⟨b, 5, none⟩ a5) b t #[a0, a1, a2, a3, a4, a5] :=
 (((((h.set_ 0 a0).set_ 1 a1).set_ 2 a2).set_ 3 a3).set_ 4 a4).set_ 5 a5
theorem below_setAll6 {B : Nat} {w W : World} {b : Nat} (h : Below B w W) (hb : B ≤ b) (a0 a1 a2 a3 a4 a5 : Value) :
  Below B w ((((((W.setCell ⟨b, 0, none⟩ a0).setCell ⟨b, 1, none⟩ a1).setCell ⟨b, 2, none⟩ a2).setCell ⟨b, 3, none⟩ a3).setCell ⟨b, 4, none⟩ a4).setCell ⟨b, 5, none⟩ a5) :=
 (((((h.setCell (p := ⟨b, 0, none⟩) hb a0).setCell (p := ⟨b, 1, none⟩) hb a1).setCell (p := ⟨b, 2, none⟩) hb a2).setCell (p := ⟨b, 3, none⟩) hb a3).setCell (p := ⟨b, 4, none⟩) hb a4).setCell (p := ⟨b, 5, none⟩) hb a5
theorem Cp.setAll6 {W : World} {B b : Nat} {p : Pl} {v1 v2 v3 : Value} (h : Cp W B p v1 v2 v3) (hb : b < B) (a0 a1 a2 a3 a4 a5 : Value) :
  Cp ((((((W.setCell ⟨b, 0, none⟩ a0).setCell ⟨b, 1, none⟩ a1).setCell ⟨b, 2, none⟩ a2).setCell ⟨b, 3, none⟩ a3).setCell ⟨b, 4, none⟩ a4).setCell ⟨b, 5, none⟩ a5) B p v1 v2 v3 :=
 (((((h.far (a := ⟨b, 0, none⟩) hb a0).far (a := ⟨b, 1, none⟩) hb a1).far (a := ⟨b, 2, none⟩) hb a2).far (a := ⟨b, 3, none⟩) hb a3).far (a := ⟨b, 4, none⟩) hb a4).far (a := ⟨b, 5, none⟩) hb a5
theorem Cp.nil (W : World) (B : Nat) : Cp W B zeroPl (.slice none 0 0) (.slice none 0 0) (.slice none 0 0) := ⟨OwnL.nil _ _, OwnL.nil _ _, OwnL.nil _ _, fun k e => (by cases e), fun k e => (by cases e), fun k e => (by cases e)⟩
set_option maxRecDepth 100000 in
set_option maxHeartbeats 8000000 in
theorem wio_any (p : Pl) (A1 A2 A3 : Option Addr) (n1 c1 n2 c2 n3 c3 : Nat) (source : Int) (w : World) (hp : Pa w p A1 A2 A3 n1 c1 n2 c2 n3 c3) :
  Calls Tryz.prog 46 #[plv p A1 A2 A3 n1 c1 n2 c2 n3 c3, .int .i64 source] w (WioEnd p source w) := by
 obtain ⟨W1, hW1⟩ : ∃ W1, (w.alloc (.cells (plb p A1 A2 A3 n1 c1 n2 c2 n3 c3) 38)).alloc (.cells #[.int .i64 0, .int .i64 0, .slice none 0 0, .slice none 0 0, .slice none 0 0, .int .i64 0] 38) = W1 := ⟨_, rfl⟩
 have g1 : Below w.heap.size w W1 := by rw [← hW1]; exact two_more _ _ _
 have b1 : Blk W1 w.heap.size 38 (plb p A1 A2 A3 n1 c1 n2 c2 n3 c3) := by rw [← hW1]; exact (Blk.new _ _ _).alloc _
 have b2 : Blk W1 (w.heap.size + 1) 38 #[.int .i64 0, .int .i64 0, .slice none 0 0, .slice none 0 0, .slice none 0 0, .int .i64 0] := by
  rw [← hW1]; have := Blk.new (w.alloc (.cells (plb p A1 A2 A3 n1 c1 n2 c2 n3 c3) 38)) 38 #[.int .i64 0, .int .i64 0, .slice none 0 0, .slice none 0 0, .slice none 0 0, .int .i64 0]; rwa [World.size_alloc] at this
 have p0 := b1.cell 0
 have p1 := b1.cell 1
 have p2 := b1.cell 2
 have p3 := b1.cell 3
 have p4 := b1.cell 4
 have p5 := b1.cell 5
 have T := check_any p A1 A2 A3 n1 c1 n2 c2 n3 c3 W1 (hp.below g1)
 have HPA := Lib.hid (hp.below g1)
 have HB := Lib.hid b1
 have HB2 := Lib.hid b2
 have G1 := Lib.hid g1
 have HE := Lib.hid (show wioE p source = if okPl p = true then err (hasI (srcsAll p) source) 3 else 13 from rfl)
 have HWP := Lib.hid (show wioP p source = if wioE p source = 0 then withoutP p source else zeroPl from rfl)
 have HPP := Lib.hid (fun h : okPl p = true => ok_parts h)
 have T2 := Lib.hid (fun (h : okPl p = true) W (g : Below W1.heap.size W1 W) => sources_any p A1 A2 A3 n1 c1 n2 c2 n3 c3 W (HPA.out.below g) h)
 obtain ⟨ok, hok⟩ : ∃ b, okPl p = b := ⟨_, rfl⟩
 rw [hok] at T HE HPP T2
 have HT := Lib.hid T
 have HW1 := Lib.hid hW1
 clear T hp g1 b1 b2 hW1 hok
 have hbl := HB2.out.lt
 have hlt1 : w.heap.size ≤ w.heap.size + 1 := Nat.le_succ _
 have HLT1 := Lib.hid hlt1
 clear hlt1
 unfold WioEnd
 cases ok with
 | false =>
  have HE1 := Lib.hid (show wioE p source = 13 from HE.out)
  have HP1 := Lib.hid (show wioP p source = zeroPl by rw [HWP.out, HE1.out]; rfl)
  have HER := Lib.hid (show err false 13 = 13 from rfl)
  rw [HER.out] at HT
  rw [HE1.out, HP1.out]
  go_enter Tryz.func46, Tryz.ntmps46
  go_upto_region 1 with fail
  rw [HW1.out]
  go_upto_region 3 with (go_at_call 65; (with_reducible refine (HT.out).mono ?_); rintro e V2 ⟨rfl, hg⟩; have G2 := Lib.hid hg; clear hg)
  have HB3 := Lib.hid (HB2.out.ext G2.out)
  have m0 := HB3.out.cell 0
  have z0 := HB3.out.frozen 0
  have m1 := HB3.out.cell 1
  have z1 := HB3.out.frozen 1
  have m2 := HB3.out.cell 2
  have z2 := HB3.out.frozen 2
  have m3 := HB3.out.cell 3
  have z3 := HB3.out.frozen 3
  have m4 := HB3.out.cell 4
  have z4 := HB3.out.frozen 4
  have m5 := HB3.out.cell 5
  have z5 := HB3.out.frozen 5
  go_wp2_with fail
  have hb9 := HB3.out.setAll6 (.int .i64 0) (.int .i64 0) (.slice none 0 0) (.slice none 0 0) (.slice none 0 0) (.int .i64 0)
  have HG9 := Lib.hid (below_setAll6 (G1.out.trans (G2.out.mono G1.out.size)) HLT1.out (.int .i64 0) (.int .i64 0) (.slice none 0 0) (.slice none 0 0) (.slice none 0 0) (.int .i64 0))
  have t0 := hb9.cell 0
  have t1 := hb9.cell 1
  have t2 := hb9.cell 2
  have t3 := hb9.cell 3
  have t4 := hb9.cell 4
  have t5 := hb9.cell 5
  clear hb9
  refine bodyPost_ret (v := .tuple #[.agg (plw zeroPl (.slice none 0 0) (.slice none 0 0) (.slice none 0 0)), .int .i64 13]) ?_ rfl ⟨⟨_, _, _, rfl, Cp.nil _ _⟩, HG9.out⟩
  simp [results, Tryz.results46, go_sem, t0, t1, t2, t3, t4, t5, zeroPl]
 | true =>
  have HPO := Lib.hid (HPP.out rfl)
  have HN := Lib.hid (show n1 ≤ 1000 ∧ n2 ≤ 1000 ∧ n3 ≤ 1000 by
   have h1 := HPO.out.2.2.2.2.2.1
   have h2 := HPO.out.2.2.2.2.2.2.1
   have h3 := HPO.out.2.2.2.2.2.2.2.1
   have k1 := HPA.out.l1.1
   have k2 := HPA.out.l2.1
   have k3 := HPA.out.l3.1
   omega)
  have HSL := Lib.hid (show (srcsAll p).length ≤ 1000 by
   have h1 := HPO.out.2.2.2.2.2.1
   have h2 := HPO.out.2.2.2.2.2.2.1
   have h3 := HPO.out.2.2.2.2.2.2.2.1
   unfold srcsAll srt srcs
   rw [List.length_mergeSort, List.length_append, List.length_append, List.length_map, List.length_map, List.length_map]
   omega)
  have T3 := Lib.hid (T2.out rfl)
  have HE0 := Lib.hid (show wioE p source = err (hasI (srcsAll p) source) 3 from HE.out)
  obtain ⟨sl, hsl⟩ : ∃ l, srcsAll p = l := ⟨_, rfl⟩
  rw [hsl] at HE0 T3 HSL
  obtain ⟨hs, hhs⟩ : ∃ b, hasI sl source = b := ⟨_, rfl⟩
  rw [hhs] at HE0
  have HHS := Lib.hid hhs
  have HER := Lib.hid (show err true 13 = 0 from rfl)
  rw [HER.out] at HT
  clear hsl hhs
  cases hs with
  | false =>
   have HE1 := Lib.hid (show wioE p source = 3 from HE0.out)
   have HP1 := Lib.hid (show wioP p source = zeroPl by rw [HWP.out, HE1.out]; rfl)
   rw [HE1.out, HP1.out]
   go_enter Tryz.func46, Tryz.ntmps46
   go_upto_region 1 with fail
   rw [HW1.out]
   go_upto_region 4 with (go_at_call 65; (with_reducible refine (HT.out).mono ?_); rintro e V2 ⟨rfl, hg⟩; have G2 := Lib.hid hg; clear hg)
   have y0 := (HB.out.ext G2.out).cell 0
   have y1 := (HB.out.ext G2.out).cell 1
   have y2 := (HB.out.ext G2.out).cell 2
   have y3 := (HB.out.ext G2.out).cell 3
   have y4 := (HB.out.ext G2.out).cell 4
   have y5 := (HB.out.ext G2.out).cell 5
   clear p0 p1 p2 p3 p4 p5
   go_upto_region 5 with (first
    | (go_at_call 113; (with_reducible refine (T3.out _ G2.out).mono ?_); rintro e V3 ⟨⟨v, rfl, ho⟩, hg⟩; obtain ⟨D, c, hv, -, -, hi, -⟩ := OwnL.arr kdI ho; subst hv; have HI := Lib.hid hi; have G3 := Lib.hid (G2.out.trans (hg.mono G2.out.size)); clear ho hg hi)
    | (go_at_call 109; (with_reducible refine (has_any _ _ _ _ source _ HI.out (by have := HSL.out; omega)).mono ?_); rintro e V4 ⟨rfl, rfl⟩; rw [HHS.out]))
   have HB3 := Lib.hid (HB2.out.ext G3.out)
   clear y0 y1 y2 y3 y4 y5
   have m0 := HB3.out.cell 0
   have z0 := HB3.out.frozen 0
   have m1 := HB3.out.cell 1
   have z1 := HB3.out.frozen 1
   have m2 := HB3.out.cell 2
   have z2 := HB3.out.frozen 2
   have m3 := HB3.out.cell 3
   have z3 := HB3.out.frozen 3
   have m4 := HB3.out.cell 4
   have z4 := HB3.out.frozen 4
   have m5 := HB3.out.cell 5
   have z5 := HB3.out.frozen 5
   go_wp2_with fail
   have hb9 := HB3.out.setAll6 (.int .i64 0) (.int .i64 0) (.slice none 0 0) (.slice none 0 0) (.slice none 0 0) (.int .i64 0)
   have HG9 := Lib.hid (below_setAll6 (G1.out.trans (G3.out.mono G1.out.size)) HLT1.out (.int .i64 0) (.int .i64 0) (.slice none 0 0) (.slice none 0 0) (.slice none 0 0) (.int .i64 0))
   have t0 := hb9.cell 0
   have t1 := hb9.cell 1
   have t2 := hb9.cell 2
   have t3 := hb9.cell 3
   have t4 := hb9.cell 4
   have t5 := hb9.cell 5
   clear hb9
   refine bodyPost_ret (v := .tuple #[.agg (plw zeroPl (.slice none 0 0) (.slice none 0 0) (.slice none 0 0)), .int .i64 3]) ?_ rfl ⟨⟨_, _, _, rfl, Cp.nil _ _⟩, HG9.out⟩
   simp [results, Tryz.results46, go_sem, t0, t1, t2, t3, t4, t5, zeroPl]
  | true =>
   have HE1 := Lib.hid (show wioE p source = 0 from HE0.out)
   have HP1 := Lib.hid (show wioP p source = withoutP p source by rw [HWP.out, HE1.out]; rfl)
   rw [HE1.out, HP1.out]
   go_enter Tryz.func46, Tryz.ntmps46
   go_upto_region 1 with fail
   rw [HW1.out]
   go_upto_region 4 with (go_at_call 65; (with_reducible refine (HT.out).mono ?_); rintro e V2 ⟨rfl, hg⟩; have G2 := Lib.hid hg; clear hg)
   have y0 := (HB.out.ext G2.out).cell 0
   have y1 := (HB.out.ext G2.out).cell 1
   have y2 := (HB.out.ext G2.out).cell 2
   have y3 := (HB.out.ext G2.out).cell 3
   have y4 := (HB.out.ext G2.out).cell 4
   have y5 := (HB.out.ext G2.out).cell 5
   clear p0 p1 p2 p3 p4 p5
   go_upto_region 6 with (first
    | (go_at_call 113; (with_reducible refine (T3.out _ G2.out).mono ?_); rintro e V3 ⟨⟨v, rfl, ho⟩, hg⟩; obtain ⟨D, c, hv, -, -, hi, -⟩ := OwnL.arr kdI ho; subst hv; have HI := Lib.hid hi; have G3 := Lib.hid (G2.out.trans (hg.mono G2.out.size)); clear ho hg hi)
    | (go_at_call 109; (with_reducible refine (has_any _ _ _ _ source _ HI.out (by have := HSL.out; omega)).mono ?_); rintro e V4 ⟨rfl, rfl⟩; rw [HHS.out]))
   clear y0 y1 y2 y3 y4 y5
   have y0 := (HB.out.ext G3.out).cell 0
   have y1 := (HB.out.ext G3.out).cell 1
   have y2 := (HB.out.ext G3.out).cell 2
   have y3 := (HB.out.ext G3.out).cell 3
   have y4 := (HB.out.ext G3.out).cell 4
   have y5 := (HB.out.ext G3.out).cell 5
   have TW := Lib.hid (without_any p A1 A2 A3 n1 c1 n2 c2 n3 c3 source V3 (HPA.out.below G3.out) HN.out)
   have HZ3 := Lib.hid (show w.heap.size + 1 < V3.heap.size by have := HB2.out.lt; have := G3.out.size; omega)
   go_wp2_with (go_at_call 114; (with_reducible refine (TW.out).mono ?_); rintro e V5 ⟨⟨v1, v2, v3, rfl, hc⟩, hg⟩; obtain ⟨R1, f1, R2, f2, R3, f3, e1, e2, e3, -, -, -, -⟩ := Cp.parts hc; obtain ⟨r1, hr1⟩ : ∃ n, (withoutP p source).loads.length = n := ⟨_, rfl⟩; obtain ⟨r2, hr2⟩ : ∃ n, (withoutP p source).stands.length = n := ⟨_, rfl⟩; obtain ⟨r3, hr3⟩ : ∃ n, (withoutP p source).spells.length = n := ⟨_, rfl⟩; rw [hr1] at e1; rw [hr2] at e2; rw [hr3] at e3; subst e1 e2 e3; have HC5 := Lib.hid hc; have G5 := Lib.hid (G3.out.trans (hg.mono G3.out.size)); have hb3 := HB2.out.ext G5.out; have m0 := hb3.cell 0; have z0 := hb3.frozen 0; have m1 := hb3.cell 1; have z1 := hb3.frozen 1; have m2 := hb3.cell 2; have z2 := hb3.frozen 2; have m3 := hb3.cell 3; have z3 := hb3.frozen 3; have m4 := hb3.cell 4; have z4 := hb3.frozen 4; have m5 := hb3.cell 5; have z5 := hb3.frozen 5; have HB3 := Lib.hid hb3; clear hc hg hr1 hr2 hr3 hb3)
   have hb9 := HB3.out.setAll6 (.int .i64 p.lo) (.int .i64 p.hi) (.slice R1 r1 f1) (.slice R2 r2 f2) (.slice R3 r3 f3) (.int .i64 p.geese)
   have HC9 := Lib.hid (HC5.out.setAll6 HZ3.out (.int .i64 p.lo) (.int .i64 p.hi) (.slice R1 r1 f1) (.slice R2 r2 f2) (.slice R3 r3 f3) (.int .i64 p.geese))
   have HG9 := Lib.hid (below_setAll6 (G1.out.trans (G5.out.mono G1.out.size)) HLT1.out (.int .i64 p.lo) (.int .i64 p.hi) (.slice R1 r1 f1) (.slice R2 r2 f2) (.slice R3 r3 f3) (.int .i64 p.geese))
   have t0 := hb9.cell 0
   have t1 := hb9.cell 1
   have t2 := hb9.cell 2
   have t3 := hb9.cell 3
   have t4 := hb9.cell 4
   have t5 := hb9.cell 5
   clear hb9
   refine bodyPost_ret (v := .tuple #[.agg (plw p (.slice R1 r1 f1) (.slice R2 r2 f2) (.slice R3 r3 f3)), .int .i64 0]) ?_ rfl ⟨⟨_, _, _, rfl, HC9.out.mono (by have := HZ3.out; omega)⟩, HG9.out⟩
   simp [results, Tryz.results46, go_sem, t0, t1, t2, t3, t4, t5]
end Go.Proofs.YtkoejeghihcmlaaGreat

namespace Go.Proofs.YtkoejeghihcmlaaGreat
open Go.RowKit Go.Shelf
theorem bySrc_any (x y : Six) (w : World) : Calls Tryz.prog 134 #[sv x, sv y] w fun e w' => e = .returned (.int .i64 (cmpI x.a y.a)) ∧ Below w.heap.size w w' := by
 have T := fun W => cmp_any x.a y.a W
 generalize cmpI x.a y.a = r at T ⊢
 have HT := Lib.hid T
 clear T
 go_enter Tryz.func134, Tryz.ntmps134
 go_wp2_with (go_at_call 135; (with_reducible refine (HT.out _).mono ?_); rintro e w' ⟨rfl, rfl⟩)
 go_ret
 exact ⟨rfl, two_more _ _ _⟩
set_option maxRecDepth 100000 in
set_option maxHeartbeats 4000000 in
theorem insert_last {base bx : Nat} {v : Value} {l : List Six} (x : Six) (w : World) (h : OwnL scells 6 105 w base v l) (hl : l.length ≤ 1000) (hx : Arr scells 6 w (some ⟨bx, 0, none⟩) 1 [x]) (hb : base ≤ w.heap.size) :
  Calls Tryz.prog 136 #[v, .int .i64 l.length, .slice (some ⟨bx, 0, none⟩) 1 1] w fun e w' => ∃ v', e = .returned v' ∧ OwnL scells 6 105 w' base v' (l ++ [x]) ∧ w.grownBy w' v.ownBlock := by
 obtain ⟨A, c, hv, hk, hq, -, -⟩ := OwnL.arr kdS h
 obtain ⟨n, hn⟩ : ∃ n, l.length = n := ⟨_, rfl⟩
 unfold maxLen at hq
 have HLL := Lib.hid (show l.length + 1 ≤ 1000000 by omega)
 rw [hn] at hv hk hl ⊢
 subst hv
 have H := Lib.hid h
 have HX := Lib.hid hx
 have HB := Lib.hid hb
 clear h hx hb hn
 go_enter Tryz.func136, Tryz.ntmps136
 go_upto_region 7 with fail
 go_wp2_with (at_builtin; go_loud (refine wpList_app kdS (by rfl) _ _ (by rfl) base _ l (by rfl) H.out _ 1 1 [x] (by rfl) HX.out HLL.out HB.out ?_); intro v' w' ho hgr hz; have HO := Lib.hid ho; have HGR := Lib.hid hgr; clear ho hgr hz)
 all_goals (go_ret)
 all_goals first | exact ⟨_, rfl, HO.out, HGR.out⟩ | (cases ‹c = n›; exact ⟨_, rfl, HO.out, HGR.out⟩)
end Go.Proofs.YtkoejeghihcmlaaGreat

namespace Go.Proofs.YtkoejeghihcmlaaGreat
open Go.RowKit Go.Shelf
/-- How many elements have a lesser source. -/
def insAt (l : List Six) (s : Int) : Nat := l.countP fun y => decide (y.a < s)
theorem insAt_eq {s : Int} : ∀ {l : List Six} {t : Nat}, t ≤ l.length → (∀ j, j < t → (l.getD j z6).a < s) → (∀ j, t ≤ j → j < l.length → ¬ (l.getD j z6).a < s) → insAt l s = t
 | [], t, ht, _, _ => by simp at ht; subst ht; rfl
 | x :: l, 0, _, _, h2 => by
  have h0 : ¬ x.a < s := h2 0 (Nat.le_refl _) (by simp)
  have ih := insAt_eq (l := l) (t := 0) (Nat.zero_le _) (fun j h => absurd h (by omega)) (fun j _ hj => h2 (j + 1) (by omega) (by simpa using hj))
  unfold insAt at ih ⊢
  rw [List.countP_cons, ih]
  simp [h0]
 | x :: l, t + 1, ht, h1, h2 => by
  have h0 : x.a < s := h1 0 (by omega)
  have ih := insAt_eq (l := l) (t := t) (by simpa using ht) (fun j h => h1 (j + 1) (by omega)) (fun j h hj => h2 (j + 1) (by omega) (by simpa using hj))
  unfold insAt at ih ⊢
  rw [List.countP_cons, ih]
  simp [h0]
theorem insAt_le (l : List Six) (s : Int) : insAt l s ≤ l.length := List.countP_le_length
theorem cmp_neg (a b : Int) : decide (cmpI a b < 0) = decide (a < b) := by
 unfold cmpI
 by_cases h : a < b
 ·rw [if_pos h, decide_eq_true h]; rfl
 ·rw [if_neg h, decide_eq_false h]
  by_cases h2 : b < a
  ·rw [if_pos h2]; rfl
  ·rw [if_neg h2]; rfl
set_option maxRecDepth 100000 in
set_option maxHeartbeats 8000000 in
theorem bsearchG_any (A : Option Addr) (n c : Nat) (l : List Six) (s : Six) (w : World) (ha : Arr scells 6 w A n l) (hn : n ≤ 1000) (hl : ∀ i j, i < j → j < l.length → (l.getD i z6).a < (l.getD j z6).a) :
  Calls Tryz.prog 133 #[.slice A n c, sv s, .func (.func 134) #[] #[]] w fun e w' => (∃ b, e = .returned (.tuple #[.int .i64 (insAt l s.a), .bool b])) ∧ Below w.heap.size w w' := by
 obtain ⟨W1, hW1⟩ : ∃ W1, w.alloc (.cells #[.int .i64 s.a, .int .i64 s.b, .int .i64 s.c, .int .i64 s.d, .int .i64 s.e, .int .i64 s.f] 105) = W1 := ⟨_, rfl⟩
 have G1 := Lib.hid (show Below w.heap.size w W1 by rw [← hW1]; exact one_more _ _)
 have B1 := Lib.hid (show Blk W1 w.heap.size 105 #[.int .i64 s.a, .int .i64 s.b, .int .i64 s.c, .int .i64 s.d, .int .i64 s.e, .int .i64 s.f] by rw [← hW1]; exact Blk.new _ _ _)
 have HA := Lib.hid (ha.below G1.out)
 have HLN := Lib.hid (show l.length = n from ha.1)
 have HL := Lib.hid hl
 have HW1 := Lib.hid hW1
 have HIE := Lib.hid (fun t ht h1 h2 => insAt_eq (l := l) (s := s.a) (t := t) ht h1 h2)
 obtain ⟨ia, hia⟩ : ∃ i, insAt l s.a = i := ⟨_, rfl⟩
 rw [hia] at HIE ⊢
 clear ha hl hW1 hia
 go_enter Tryz.func133, Tryz.ntmps133
 go_upto_region 1 with fail
 rw [HW1.out]
 go_wp2_with fail
 go_loopw [9, 10] (fun i j wr => ∃ k m : Nat, k ≤ m ∧ m ≤ n ∧ i = .int .i64 k ∧ j = .int .i64 m ∧ Below W1.heap.size W1 wr ∧ (∀ t, t < k → (l.getD t z6).a < s.a) ∧ ∀ t, m ≤ t → t < n → ¬ (l.getD t z6).a < s.a) (fun i j _ => (intOf j).toNat - (intOf i).toNat)
 case atStart => exact ⟨0, n, Nat.zero_le _, Nat.le_refl _, rfl, rfl, Below.refl _ _, fun t h => absurd h (by omega), fun t h1 h2 => absurd h1 (by omega)⟩
 case round =>
  obtain ⟨k, m, hkm, hmn, rfl, rfl, hg, hlo, hhi⟩ := hrel
  have HG := Lib.hid hg
  have HLO := Lib.hid hlo
  have HHI := Lib.hid hhi
  clear hg hlo hhi
  by_cases hkn : k < m
  ·obtain ⟨h, hh⟩ : ∃ h, (k + m) / 2 = h := ⟨_, rfl⟩
   have h1 : k ≤ h := by omega
   have h2 : h < m := by omega
   have h3 : h < n := by omega
   have hhi : ((k : Int) + (m : Int)) / 2 = (h : Int) := by omega
   obtain ⟨b0, o0, e0, -, hxq, hc⟩ := six_at (HA.out.below HG.out) h3
   have HMO := Lib.hid (fun t (ht : t < h) => HL.out t h ht (by rw [HLN.out]; exact h3))
   have HMU := Lib.hid (fun t (ht : h < t) (htn : t < n) => HL.out h t ht (by rw [HLN.out]; exact htn))
   obtain ⟨x, hxg⟩ : ∃ x, l.getD h z6 = x := ⟨_, rfl⟩
   rw [hxg] at hc hxq HMO HMU
   have HXG := Lib.hid hxg
   have T := fun W => bySrc_any x s W
   have HCN := Lib.hid (cmp_neg x.a s.a)
   obtain ⟨cm, hcm⟩ : ∃ r, cmpI x.a s.a = r := ⟨_, rfl⟩
   rw [hcm] at T HCN
   have HT := Lib.hid T
   obtain ⟨x0, x1, x2, x3, x4, x5⟩ := hc _ (Below.refl _ _)
   subst e0
   have v0 := cellW x0
   have v1 := cellW x1
   have v2 := cellW x2
   have v3 := cellW x3
   have v4 := cellW x4
   have v5 := cellW x5
   have b1 := B1.out.ext HG.out
   have u0 := cellW (b1.cell 0)
   have u1 := cellW (b1.cell 1)
   have u2 := cellW (b1.cell 2)
   have u3 := cellW (b1.cell 3)
   have u4 := cellW (b1.cell 4)
   have u5 := cellW (b1.cell 5)
   have hk2 : (h : Int) < (n : Int) := by omega
   clear hc hxq hxg T x0 x1 x2 x3 x4 x5 b1 hcm hh
   by_cases hxs : x.a < s.a
   ·have hcd : decide (cm < 0) = true := by rw [HCN.out]; exact decide_eq_true hxs
    have hcd2 : cm < 0 := of_decide_eq_true hcd
    have HXS := Lib.hid hxs
    clear hxs
    go_upto_region 5 with fail
    clear hhi
    refine wp_region_calm wr (by kernel_rfl) (by kernel_rfl) (Below.refl _ _) ?_
    repeat (go_big_quiet_step (first | (go_at_call 134; exact callsCalm (HT.out _))))
    refine wpQuiet_nil ?_
    rintro _ ⟨z, rfl⟩
    have GZ := Lib.hid (HG.out.trans (z.ok.mono HG.out.size))
    clear v0 v1 v2 v3 v4 v5 u0 u1 u2 u3 u4 u5
    go_wp2_with fail
    go_roundw
    case rel => exact ⟨h + 1, m, by omega, by omega, by go_num, rfl, GZ.out, fun t ht => by
     by_cases e : t = h
     ·subst e; rw [HXG.out]; exact HXS.out
     ·exact Int.lt_trans (HMO.out t (by omega)) HXS.out, HHI.out⟩
    case measure => simp [intOf]; omega
   ·have hcd : decide (cm < 0) = false := by rw [HCN.out]; exact decide_eq_false hxs
    have hcd2 : ¬ cm < 0 := of_decide_eq_false hcd
    have HXS := Lib.hid hxs
    clear hxs
    go_upto_region 5 with fail
    clear hhi
    refine wp_region_calm wr (by kernel_rfl) (by kernel_rfl) (Below.refl _ _) ?_
    repeat (go_big_quiet_step (first | (go_at_call 134; exact callsCalm (HT.out _))))
    refine wpQuiet_nil ?_
    rintro _ ⟨z, rfl⟩
    have GZ := Lib.hid (HG.out.trans (z.ok.mono HG.out.size))
    clear v0 v1 v2 v3 v4 v5 u0 u1 u2 u3 u4 u5
    go_wp2_with fail
    go_roundw
    case rel => exact ⟨k, h, h1, by omega, rfl, rfl, GZ.out, HLO.out, fun t ht htn => by
     by_cases e : t = h
     ·subst e; rw [HXG.out]; exact HXS.out
     ·have h9 := HMU.out t (by omega) htn
      have h8 := HXS.out
      omega⟩
    case measure => simp [intOf]; omega
  ·obtain rfl : m = k := by omega
   obtain rfl : m = ia := (HIE.out m (by rw [HLN.out]; exact hmn) HLO.out (fun j h1 h2 => by have h3 := HLN.out; have h4 := HHI.out j h1 (by omega); omega)).symm
   clear HIE
   by_cases hme : m < n
   ·obtain ⟨b0, o0, e0, -, hxq, hc⟩ := six_at (HA.out.below HG.out) hme
    obtain ⟨x, hxg⟩ : ∃ x, l.getD m z6 = x := ⟨_, rfl⟩
    rw [hxg] at hc
    have T := fun W => bySrc_any x s W
    obtain ⟨cm, hcm⟩ : ∃ r, cmpI x.a s.a = r := ⟨_, rfl⟩
    rw [hcm] at T
    have HT := Lib.hid T
    obtain ⟨x0, x1, x2, x3, x4, x5⟩ := hc _ (Below.refl _ _)
    subst e0
    have v0 := cellW x0
    have v1 := cellW x1
    have v2 := cellW x2
    have v3 := cellW x3
    have v4 := cellW x4
    have v5 := cellW x5
    have b1 := B1.out.ext HG.out
    have u0 := cellW (b1.cell 0)
    have u1 := cellW (b1.cell 1)
    have u2 := cellW (b1.cell 2)
    have u3 := cellW (b1.cell 3)
    have u4 := cellW (b1.cell 4)
    have u5 := cellW (b1.cell 5)
    have hk2 : (m : Int) < (n : Int) := by omega
    have hkd : decide (m < n) = true := decide_eq_true hme
    clear hc hxq hxg T x0 x1 x2 x3 x4 x5 b1 hcm
    go_upto_region 8 with fail
    refine wp_region_calm wr (by kernel_rfl) (by kernel_rfl) (Below.refl _ _) ?_
    repeat (go_big_quiet_step (first | (go_at_call 134; exact callsCalm (HT.out _))))
    refine wpQuiet_nil ?_
    rintro _ ⟨z, rfl⟩
    have GZ := Lib.hid (G1.out.trans ((HG.out.trans (z.ok.mono HG.out.size)).mono G1.out.size))
    clear v0 v1 v2 v3 v4 v5 u0 u1 u2 u3 u4 u5
    go_wp2_with fail
    go_ret2
    refine ⟨?_, GZ.out⟩
    first | exact .inl rfl | exact .inr rfl | (generalize (cm == 0) = bb; cases bb <;> first | exact .inl rfl | exact .inr rfl)
   ·have hkd : decide (m < n) = false := decide_eq_false hme
    have hk2 : ¬ (m : Int) < (n : Int) := by omega
    go_upto_region 8 with fail
    refine wp_region_calm wr (by kernel_rfl) (by kernel_rfl) (Below.refl _ _) ?_
    repeat (go_big_quiet_step (fail))
    refine wpQuiet_nil ?_
    rintro _ ⟨z, rfl⟩
    have GZ := Lib.hid (G1.out.trans ((HG.out.trans (z.ok.mono HG.out.size)).mono G1.out.size))
    go_wp2_with fail
    go_ret2
    refine ⟨?_, GZ.out⟩
    first | exact .inl rfl | exact .inr rfl | (generalize (cm == 0) = bb; cases bb <;> first | exact .inl rfl | exact .inr rfl)
end Go.Proofs.YtkoejeghihcmlaaGreat

namespace Go.Proofs.YtkoejeghihcmlaaGreat
open Go.RowKit Go.Shelf
theorem run_copy_many (w : World) (dT sT ty elem : TypeId) (size b o dLen dCap : Nat) (a : Addr) (sLen sCap : Nat) (cs : List Value)
  (hu : Tryz.prog.underlying dT = some (.slice elem)) (hs : (Tryz.prog.info? elem).map (·.size) = some size) (hn : cs.length = Nat.min sLen dLen * size)
  (hsrc : ∀ j v, cs[j]? = some v → w.cell? (a.add j) = some v) (hc : ∀ j, j < cs.length → (w.cell? ⟨b, o + j, none⟩).isSome = true) (hf : ∀ j, j < cs.length → w.frozen? ⟨b, o + j, none⟩ = false) (h1 : ∀ v ∈ cs, v.oneCell' = true) :
  (Builtin.copy_ #[dT, sT] ty #[.slice (some ⟨b, o, none⟩) dLen dCap, .slice (some a) sLen sCap]).run Tryz.prog w = .ok (goInt (Nat.min sLen dLen)) (w.setCells b o cs) := by
 have hl := run_loadCells_list (P := Tryz.prog) w a cs hsrc
 have hst := run_storeCells_cells (P := Tryz.prog) b o cs 0 w (by simpa using hc) (by simpa using hf) h1
 cases hq : Tryz.prog.info? elem with
 | none => simp [hq] at hs
 | some i =>
  have hi : i.size = size := by simpa [hq] using hs
  simp [Builtin.copy_, run_underlying hu, Builtin.lenOf, Builtin.firstCells, sizeOf, typeInfo, hq, hi, ← hn, hl, hst]
theorem blk_cell {w : World} {g : Nat} {t : TypeId} {cur : Array Value} (h : Blk w g t cur) {j : Nat} {v : Value} (hj : cur.toList[j]? = some v) : w.cell? ⟨g, j, none⟩ = some v := by
 have h2 : cur[j]? = some v := by simpa using hj
 unfold Blk at h
 simp [World.cell?, h, h2]
theorem blk_frozen {w : World} {g : Nat} {t : TypeId} {cur : Array Value} (h : Blk w g t cur) (j : Nat) : w.frozen? ⟨g, j, none⟩ = false := by
 unfold Blk at h
 simp [World.frozen?, h]
theorem blk_some {w : World} {g : Nat} {t : TypeId} {cur : Array Value} (h : Blk w g t cur) {j : Nat} (hj : j < cur.size) : (w.cell? ⟨g, j, none⟩).isSome = true := by
 rw [blk_cell h (v := cur[j]) (by simp [hj])]; rfl
theorem blk_shape {w : World} {g : Nat} {t : TypeId} {cur : Array Value} (h : Blk w g t cur) : w.shape? g = some (t, cur.size) := by
 unfold Blk at h
 simp [World.shape?, h]
theorem blk_drew {w : World} {g : Nat} {t : TypeId} {cur : Array Value} (h : Blk w g t cur) : Blk w.drew g t cur := h
theorem wp_copy_runQ (w : World) {o : Oper} {a : Act} {K : Act → World → Prop} {Q : Exit → Act → World → Prop} (d s : Operand) (t t' : TypeId)
  (ho : o.op = .call { callee := .builtin .copy, args := #[d, s], argTypes := #[t, t'] }) (v u : Value) (hd : a.eval d = v) (hs : a.eval s = u) {v' : Value} {w' : World}
  (hr : (Builtin.copy_ #[t, t'] o.type #[v, u]).run Tryz.prog w = .ok v' w') (h : K (a.put o.dst v') w') : o.wp Tryz.prog a w K Q := by
 unfold Oper.wp execOp
 simp only [ho, resolve, invoke, builtin, Sem.run_bind, Sem.run_pure, Result.andThen_ok, List.map_toArray, List.map_cons, List.map_nil, hd, hs, hr]
 exact h
theorem wpList_copy_runQ (w : World) {ops : Array Oper} {rest : List Oper} {o : Oper} {a : Act} {Q : Exit → Act → World → Prop} (hgd : o.guard = none) (d s : Operand) (t t' : TypeId)
  (ho : o.op = .call { callee := .builtin .copy, args := #[d, s], argTypes := #[t, t'] }) (v u : Value) (hd : a.eval d = v) (hs : a.eval s = u) {v' : Value} {w' : World}
  (hr : (Builtin.copy_ #[t, t'] o.type #[v, u]).run Tryz.prog w = .ok v' w') (h : wpList Tryz.prog ops Q rest (a.put o.dst v') w') : wpList Tryz.prog ops Q (o :: rest) a w :=
 wpList_plain hgd fun _ hK => wp_copy_runQ w d s t t' ho v u hd hs hr (hK _ _ h)
theorem step_copy_runQ {ops : Array Oper} {o : Oper} {a : Act} {w : World} {K : Act → World → Prop} {Q : Exit → Act → World → Prop} {E : Prop}
  (hg : o.guard = none) (d x : Operand) (dT sT : TypeId) (hop : o.op = Op.call { callee := Callee.builtin Builtin.copy, args := #[d, x], argTypes := #[dT, sT] })
  (v u : Value) (hd : a.eval d = v) (hx : a.eval x = u) {v' : Value} {w' : World} (hr : (Builtin.copy_ #[dT, sT] o.type #[v, u]).run Tryz.prog w = .ok v' w') (hK : K (a.put o.dst v') w') :
  if Region.wanted o (yielded ops a.tmps) = true then Oper.wp Tryz.prog o a w K Q else E := by
 have hw : Region.wanted o (yielded ops a.tmps) = true := by simp [Region.wanted, hg]
 rw [if_pos hw]
 unfold Oper.wp
 simp [execOp, hop, resolve, invoke, builtin, hd, hx, hr, Result.andThen]
 exact hK
set_option maxRecDepth 100000 in
set_option maxHeartbeats 8000000 in
theorem insRoom_any {base g n c bx : Nat} {l : List Six} (x : Six) (i : Nat) (w : World) (h : OwnL scells 6 105 w base (.slice (some ⟨g, 0, none⟩) n c) l) (hl : n ≤ 1000) (hx : Blk w bx 105 #[.int .i64 x.a, .int .i64 x.b, .int .i64 x.c, .int .i64 x.d, .int .i64 x.e, .int .i64 x.f]) (hne : bx ≠ g) (hi : i < n) (hroom : n + 1 ≤ c) :
  Calls Tryz.prog 136 #[.slice (some ⟨g, 0, none⟩) n c, .int .i64 i, .slice (some ⟨bx, 0, none⟩) 1 1] w fun e w' => e = .returned (.slice (some ⟨g, 0, none⟩) (n + 1 : Nat) c) ∧ OwnL scells 6 105 w' base (.slice (some ⟨g, 0, none⟩) (n + 1) c) (l.take i ++ x :: l.drop i) ∧ Fix g g w w' := by
 obtain ⟨hn0, hb, cur, hg, hnc, hcm, hs, ht⟩ := own_inv h
 unfold maxLen at hcm
 have hz1 : ¬ ((1 : Int) = 0) := by omega
 have hz2 : ¬ ((i : Int) = (n : Int)) := by omega
 have hw1 : wrap64 ((i : Int) + 1) = (i : Int) + 1 := by unfold wrap64; omega
 have hw2 : wrap64 ((n : Int) + 1) = (n : Int) + 1 := by unfold wrap64; omega
 have hb1 : (0 : Int) ≤ (i : Int) + 1 := by omega
 have htn : ((i : Int) + 1).toNat = i + 1 := by omega
 have htn2 : ((n : Int) + 1).toNat = n + 1 := by omega
 have hb3 : (i : Int) ≤ (n : Int) + 1 := by omega
 have hb4 : ¬ (c = i) := by omega
 have hb2 : ¬ (c = i + 1) := by omega
 have hw3 : IntKind.i64.wrap ((i : Int) + 1) = (i : Int) + 1 := by rw [IntKind.wrap_i64]; omega
 have mixed : Tryz.prog.follows Departure.mixedOrders = true := by kernel_rfl
 have hc1 : ((n : Int) + 1) ≤ (c : Int) := by omega
 have hc2 : ¬ (c : Int) < (n : Int) + 1 := by omega
 have hin : i ≤ n := by omega
 have hshx := blk_shape hx
 have hshg := blk_shape hg
 have hfx := blk_frozen hx
 have hov : ∀ lb cb, (callFunc 199 #[.slice (some ⟨bx, 0, none⟩) 1 1, .slice (some ⟨g, (i + 1) * 6, none⟩) lb cb]).run Tryz.prog w = .ok (.value (.bool false)) w := fun lb cb => by
  rw [run_callFunc_extern (f := 199) (fn := Tryz.prog.funcs[199]) (by kernel_rfl) (by kernel_rfl) (by kernel_rfl) (by kernel_rfl) (e := Extern.SlicesOverlaps.overlaps #[35, 35] #[4]) (by kernel_rfl),
   Lib.run_overlaps_apart w 35 4 105 kdS.ht 6 (fun w => by obtain ⟨j, hj, h0, h1, h2⟩ := info_parts kdS.hi; simp [sizeOf, typeInfo, hj, h1]) ⟨bx, 0, none⟩ ⟨g, (i + 1) * 6, none⟩ 1 1 lb cb hne 105 105 6 cur.size hshx hshg (by omega) (hfx 0) (hfx 6)]
  rfl
 have hsz : (Tryz.prog.info? 105).map (·.size) = some 6 := by
  obtain ⟨j, hj, h0, h1, h2⟩ := info_parts kdS.hi
  rw [hj]; simp [h1]
 obtain ⟨cs, hcs⟩ : ∃ cs, (l.drop i).flatMap scells = cs := ⟨_, rfl⟩
 have hcl : cs.length = (n - i) * 6 := by rw [← hcs, flat_len scells_len, List.length_drop, hn0]
 have hcat : ∀ j v, cs[j]? = some v → cur.toList[i * 6 + j]? = some v := fun j v hj => by
  rw [← hcs, ← flat_drop scells_len, ← ht, List.getElem?_drop] at hj
  rw [List.getElem?_take] at hj
  split at hj
  ·exact hj
  ·cases hj
 have h1cs : ∀ v ∈ cs, v.oneCell' = true := fun v hv => by
  rw [← hcs] at hv
  obtain ⟨y, -, hy⟩ := List.mem_flatMap.1 hv
  exact scells_one y v hy
 have hfit : (i + 1) * 6 + cs.length ≤ cur.size := by rw [hcl, hs]; omega
 have hgd := blk_drew hg
 have hcp1 : ∀ ty dc sc, (Builtin.copy_ #[35, 35] ty #[.slice (some ⟨g, (i + 1) * 6, none⟩) (n - i) dc, .slice (some ⟨g, i * 6, none⟩) (n + 1 - i) sc]).run Tryz.prog w.drew = .ok (goInt (n - i : Nat)) (w.drew.setCells g ((i + 1) * 6) cs) := fun ty dc sc => by
  have := run_copy_many w.drew 35 35 ty 105 6 g ((i + 1) * 6) (n - i) dc ⟨g, i * 6, none⟩ (n + 1 - i) sc cs kdS.ht hsz (by rw [hcl]; congr 1; simp only [Nat.min_def]; split <;> omega)
   (fun j v hj => by rw [Addr.add_lit]; exact blk_cell hgd (hcat j v hj)) (fun j hj => blk_some hgd (by omega)) (fun j _ => blk_frozen hgd _) h1cs
  rwa [show Nat.min (n + 1 - i) (n - i) = n - i by simp only [Nat.min_def]; split <;> omega] at this
 obtain ⟨W1, hW1⟩ : ∃ W1, w.drew.setCells g ((i + 1) * 6) cs = W1 := ⟨_, rfl⟩
 have hB1 : Blk W1 g 105 (lput cur.toList ((i + 1) * 6) cs).toArray := by rw [← hW1]; exact blk_setCells hgd hfit
 have hF1 : Fix g g w W1 := by
  rw [← hW1]
  have h1 := fix_setCells (g := g) cs ((i + 1) * 6) w.drew
  exact ⟨h1.os, h1.tape, h1.output, h1.size, h1.block⟩
 have hX1 : Blk W1 bx 105 #[.int .i64 x.a, .int .i64 x.b, .int .i64 x.c, .int .i64 x.d, .int .i64 x.e, .int .i64 x.f] := by
  unfold Blk
  rw [hF1.block bx hx.lt hne hne]
  exact hx
 have hsz1 : (lput cur.toList ((i + 1) * 6) cs).toArray.size = c * 6 := by rw [List.size_toArray, lput_len (by rw [Array.length_toList]; exact hfit), Array.length_toList, hs]
 have hfit2 : i * 6 + (scells x).length ≤ (lput cur.toList ((i + 1) * 6) cs).toArray.size := by rw [hsz1, scells_len]; omega
 have hcp2 : ∀ ty dc, (Builtin.copy_ #[35, 35] ty #[.slice (some ⟨g, i * 6, none⟩) (n + 1 - i) dc, .slice (some ⟨bx, 0, none⟩) 1 1]).run Tryz.prog W1 = .ok (goInt (1 : Nat)) (W1.setCells g (i * 6) (scells x)) := fun ty dc => by
  have := run_copy_many W1 35 35 ty 105 6 g (i * 6) (n + 1 - i) dc ⟨bx, 0, none⟩ 1 1 (scells x) kdS.ht hsz (by rw [scells_len]; simp only [Nat.min_def]; split <;> omega)
   (fun j v hj => by rw [Addr.add_lit, Nat.zero_add]; exact blk_cell hX1 hj) (fun j hj => blk_some hB1 (by omega)) (fun j _ => blk_frozen hB1 _) (scells_one x)
  rwa [show Nat.min 1 (n + 1 - i) = 1 by simp only [Nat.min_def]; split <;> omega] at this
 have HEND := Lib.hid (show OwnL scells 6 105 (W1.setCells g (i * 6) (scells x)) base (.slice (some ⟨g, 0, none⟩) (n + 1) c) (l.take i ++ x :: l.drop i) by
  refine own_mk scells_len (by rw [List.length_append, List.length_take, List.length_cons, List.length_drop]; omega) hb (blk_setCells hB1 hfit2) hroom (by unfold maxLen; omega) ?_ ?_
  ·rw [List.size_toArray, lput_len (by simpa using hfit2), ← List.size_toArray, hsz1]
  ·show (lput (lput cur.toList ((i + 1) * 6) cs) (i * 6) (scells x)).take ((n + 1) * 6) = _
   rw [List.flatMap_append, List.flatMap_cons, hcs, ← flat_take scells_len, ← ht]
   have e1 : (lput cur.toList ((i + 1) * 6) cs).take (i * 6) = cur.toList.take (i * 6) := by
    unfold lput
    rw [List.append_assoc, List.take_append_of_le_length (by rw [List.length_take, Array.length_toList, hs]; omega), List.take_take, Nat.min_eq_left (by omega)]
   have e2 : ((lput cur.toList ((i + 1) * 6) cs).drop (i * 6 + 6)).take ((n - i) * 6) = cs := by
    unfold lput
    rw [show i * 6 + 6 = (cur.toList.take ((i + 1) * 6)).length by rw [List.length_take, Array.length_toList, hs]; omega, List.append_assoc, List.drop_left, ← hcl, List.take_left]
   rw [show lput (lput cur.toList ((i + 1) * 6) cs) (i * 6) (scells x) = (lput cur.toList ((i + 1) * 6) cs).take (i * 6) ++ (scells x ++ (lput cur.toList ((i + 1) * 6) cs).drop (i * 6 + 6)) by unfold lput; rw [scells_len, List.append_assoc], e1, List.take_take, Nat.min_eq_left (by omega), List.take_append, List.take_of_length_le (by rw [List.length_take, Array.length_toList, hs]; omega), List.take_append, List.take_of_length_le (l := scells x) (by rw [scells_len, List.length_take, Array.length_toList, hs]; omega), scells_len, List.length_take, Array.length_toList, hs, show (n + 1) * 6 - min (i * 6) (c * 6) - 6 = (n - i) * 6 by omega, e2])
 have HFX := Lib.hid (show Fix g g w (W1.setCells g (i * 6) (scells x)) from hF1.trans (fix_setCells _ _ _))
 rw [hW1] at hcp1
 clear h hx hg ht hs hn0 hcat h1cs hfit hgd hW1 hB1 hF1 hX1 hsz1 hfit2 hcs hcl
 go_enter Tryz.func136, Tryz.ntmps136
 go_wp2_with (simp only [hov])
 go_region_law_o (refine step_copy_runQ rfl _ _ 35 35 rfl _ _ (by simp [Act.eval, Act.put]) (by simp [Act.eval, Act.put]) (hcp1 _ _ _) ?_)
 go_wp2_with (at_builtin; refine wpList_copy_runQ _ rfl _ _ 35 35 rfl _ _ rfl rfl (hcp2 _ _) ?_)
 go_ret
 exact ⟨rfl, HEND.out, HFX.out⟩
end Go.Proofs.YtkoejeghihcmlaaGreat

namespace Go.Proofs.YtkoejeghihcmlaaGreat
open Go.RowKit Go.Shelf
set_option maxRecDepth 100000 in
set_option maxHeartbeats 8000000 in
theorem insGrow_any {base g n bx : Nat} {l : List Six} (x : Six) (i : Nat) (w : World) (h : OwnL scells 6 105 w base (.slice (some ⟨g, 0, none⟩) n n) l) (hl : n ≤ 1000) (hx : Blk w bx 105 #[.int .i64 x.a, .int .i64 x.b, .int .i64 x.c, .int .i64 x.d, .int .i64 x.e, .int .i64 x.f]) (hi : i < n) (hbase : base ≤ w.heap.size) :
  Calls Tryz.prog 136 #[.slice (some ⟨g, 0, none⟩) n n, .int .i64 i, .slice (some ⟨bx, 0, none⟩) 1 1] w fun e w' => ∃ G : Nat, e = .returned (.slice (some ⟨w.heap.size, 0, none⟩) (n + 1 : Nat) G) ∧ OwnL scells 6 105 w' base (.slice (some ⟨w.heap.size, 0, none⟩) (n + 1) G) (l.take i ++ x :: l.drop i) ∧ Fix g g w w' := by
 obtain ⟨hn0, hb, cur, hg, hnc, hcm, hs, ht⟩ := own_inv h
 unfold maxLen at hcm
 obtain ⟨i0, hi0, hz0, hzs, hzb⟩ := info_parts kdS.hi
 have hz1 : ¬ ((1 : Int) = 0) := by omega
 have hz2 : ¬ ((i : Int) = (n : Int)) := by omega
 have hw2 : wrap64 ((n : Int) + 1) = (n : Int) + 1 := by unfold wrap64; omega
 have hw5 : wrap64 ((n : Int) + 1 - (i : Int)) = (n : Int) + 1 - (i : Int) := by unfold wrap64; omega
 have hw3 : IntKind.i64.wrap ((i : Int) + 1) = (i : Int) + 1 := by rw [IntKind.wrap_i64]; omega
 have hb1 : (0 : Int) ≤ (i : Int) + 1 := by omega
 have htn : ((i : Int) + 1).toNat = i + 1 := by omega
 have hin : i ≤ n := by omega
 have hb3 : (i : Int) ≤ (n : Int) := by omega
 have mixed : Tryz.prog.follows Departure.mixedOrders = true := by kernel_rfl
 have hsz : (Tryz.prog.info? 105).map (·.size) = some 6 := by rw [hi0]; simp [hzs]
 have hbw : g < w.heap.size := hg.lt
 have hvw : bx < w.heap.size := hx.lt
 have hkk : (n : Int) + 1 - (i : Int) = ((n + 1 - i : Nat) : Int) := by omega
 have hik : i + (n + 1 - i) = n + 1 := by omega
 obtain ⟨F, hF⟩ : ∃ F, (l.take i).flatMap scells = F := ⟨_, rfl⟩
 have hFl : F.length = i * 6 := by rw [← hF, flat_len scells_len, List.length_take]; congr 1; omega
 have hold : (Builtin.firstCells i0.size i (.slice (some ⟨g, 0, none⟩) i n)).run Tryz.prog w.drew = .ok F.toArray w.drew := by
  rw [hzs]
  exact run_firstCells_some w.drew 6 i ⟨g, 0, none⟩ i n F (by rw [hFl]) (fun j v hj => by
   rw [Addr.add_lit, Nat.zero_add]
   refine blk_cell (blk_drew hg) ?_
   rw [← hF, ← flat_take scells_len, ← ht, List.take_take, List.getElem?_take] at hj
   split at hj
   ·exact hj
   ·cases hj)
 obtain ⟨Z, hZ⟩ : ∃ Z, (Value.agg #[.int .i64 0, .int .i64 0, .int .i64 0, .int .i64 0, .int .i64 0, .int .i64 0]).cells = Z := ⟨_, rfl⟩
 have hZs : Z.size = 6 := by rw [← hZ]; exact kdS.hz
 have hrz : ∀ ty, (Builtin.append_ #[35, 3] ty #[.slice (some ⟨g, 0, none⟩) i n, .int .i64 ((n : Int) + 1 - (i : Int))]).run Tryz.prog w =
   .ok (.slice (some ⟨w.heap.size, 0, none⟩) (n + 1) (grownCap w (n + 1) n 105)) (w.drew.alloc (.cells (F.toArray ++ Builtin.zeroCells Z (n + 1 - i) ++ Builtin.zeroCells Z (grownCap w (n + 1) n 105 - (n + 1))) 105)) := fun ty => by
  have h := Lib.run_append_grow_zeros w 35 3 ty 105 i0 _ .i64 .i64 kdS.ht (by kernel_rfl) hi0 hz0 (some ⟨g, 0, none⟩) i n F hold (n + 1 - i) (by omega) (by omega) (by omega) (by omega) (by rw [hzb]; omega) (by rw [hzb, hik]; exact growslice_fits (by omega) (by omega))
  rw [hik, hZ] at h
  rw [hkk]
  exact h
 obtain ⟨G, hG⟩ : ∃ G, G = grownCap w (n + 1) n 105 := ⟨_, rfl⟩
 obtain ⟨ROW, hROW⟩ : ∃ ROW : Array Value, ROW = F.toArray ++ Builtin.zeroCells Z (n + 1 - i) ++ Builtin.zeroCells Z (G - (n + 1)) := ⟨_, rfl⟩
 rw [← hG, ← hROW] at hrz
 have hGn : n + 1 ≤ G := by rw [hG]; exact grownCap_ge w _ _ _
 have hGm : G ≤ maxLen := by rw [hG]; exact grownCap_le_maxLen w (n + 1) n 105 (by unfold maxLen; omega)
 have hG63 : G ≤ 9223372036854775807 := by
  have := hGm
  unfold maxLen at this
  omega
 have hRs : ROW.size = G * 6 := by
  rw [hROW]
  simp [Builtin.zeroCells, hFl, hZs]
  omega
 have hRF : ROW.toList.take (i * 6) = F := by
  rw [hROW, Array.toList_append, Array.toList_append, List.append_assoc, ← hFl]
  exact List.take_left
 obtain ⟨cs, hcs⟩ : ∃ cs, (l.drop i).flatMap scells = cs := ⟨_, rfl⟩
 have hcl : cs.length = (n - i) * 6 := by rw [← hcs, flat_len scells_len, List.length_drop, hn0]
 have hcat : ∀ j v, cs[j]? = some v → cur.toList[i * 6 + j]? = some v := fun j v hj => by
  rw [← hcs, ← flat_drop scells_len, ← ht, List.getElem?_drop] at hj
  rw [List.getElem?_take] at hj
  split at hj
  ·exact hj
  ·cases hj
 have h1cs : ∀ v ∈ cs, v.oneCell' = true := fun v hv => by
  rw [← hcs] at hv
  obtain ⟨y, -, hy⟩ := List.mem_flatMap.1 hv
  exact scells_one y v hy
 have hBW : Blk (w.drew.alloc (.cells ROW 105)) w.heap.size 105 ROW := Blk.new w.drew _ _
 have hXW : Blk (w.drew.alloc (.cells ROW 105)) bx 105 #[.int .i64 x.a, .int .i64 x.b, .int .i64 x.c, .int .i64 x.d, .int .i64 x.e, .int .i64 x.f] := (blk_drew hx).alloc _
 have hGW : Blk (w.drew.alloc (.cells ROW 105)) g 105 cur := (blk_drew hg).alloc _
 have hf1 : i * 6 + (scells x).length ≤ ROW.size := by rw [scells_len, hRs]; omega
 have hcpA : ∀ ty dc, (Builtin.copy_ #[35, 35] ty #[.slice (some ⟨w.heap.size, i * 6, none⟩) (n + 1 - i) dc, .slice (some ⟨bx, 0, none⟩) 1 1]).run Tryz.prog (w.alloc (.cells ROW 105)).drew = .ok (goInt (1 : Nat)) ((w.alloc (.cells ROW 105)).drew.setCells w.heap.size (i * 6) (scells x)) := fun ty dc => by
  have := run_copy_many (w.alloc (.cells ROW 105)).drew 35 35 ty 105 6 w.heap.size (i * 6) (n + 1 - i) dc ⟨bx, 0, none⟩ 1 1 (scells x) kdS.ht hsz (by rw [scells_len]; simp only [Nat.min_def]; split <;> omega)
   (fun j v hj => by rw [Addr.add_lit, Nat.zero_add]; exact blk_cell hXW hj) (fun j hj => blk_some hBW (by omega)) (fun j _ => blk_frozen hBW _) (scells_one x)
  rwa [show Nat.min 1 (n + 1 - i) = 1 by simp only [Nat.min_def]; split <;> omega] at this
 obtain ⟨W1, hW1⟩ : ∃ W1, (w.alloc (.cells ROW 105)).drew.setCells w.heap.size (i * 6) (scells x) = W1 := ⟨_, rfl⟩
 have hB1 : Blk W1 w.heap.size 105 (lput ROW.toList (i * 6) (scells x)).toArray := by rw [← hW1]; exact blk_setCells hBW hf1
 have hs1 : (lput ROW.toList (i * 6) (scells x)).toArray.size = G * 6 := by rw [List.size_toArray, lput_len (by rw [Array.length_toList]; exact hf1), Array.length_toList, hRs]
 have hfA := fix_setCells (g := w.heap.size) (scells x) (i * 6) (w.alloc (.cells ROW 105)).drew
 rw [hW1] at hfA
 have hG1 : Blk W1 g 105 cur := by
  unfold Blk
  rw [hfA.block g (by have := hGW.lt; exact this) (by omega) (by omega)]
  exact hGW
 have hf2 : (i + 1) * 6 + cs.length ≤ (lput ROW.toList (i * 6) (scells x)).toArray.size := by rw [hs1, hcl]; omega
 have hcpB : ∀ ty dc sc, (Builtin.copy_ #[35, 35] ty #[.slice (some ⟨w.heap.size, (i + 1) * 6, none⟩) (n - i) dc, .slice (some ⟨g, i * 6, none⟩) (n - i) sc]).run Tryz.prog W1.drew = .ok (goInt (n - i : Nat)) (W1.drew.setCells w.heap.size ((i + 1) * 6) cs) := fun ty dc sc => by
  have := run_copy_many W1.drew 35 35 ty 105 6 w.heap.size ((i + 1) * 6) (n - i) dc ⟨g, i * 6, none⟩ (n - i) sc cs kdS.ht hsz (by rw [hcl]; congr 1; simp only [Nat.min_def]; split <;> omega)
   (fun j v hj => by rw [Addr.add_lit]; exact blk_cell (blk_drew hG1) (hcat j v hj)) (fun j hj => blk_some (blk_drew hB1) (by omega)) (fun j _ => blk_frozen (blk_drew hB1) _) h1cs
  rwa [show Nat.min (n - i) (n - i) = n - i from Nat.min_self _] at this
 have HEND := Lib.hid (show OwnL scells 6 105 (W1.drew.setCells w.heap.size ((i + 1) * 6) cs) base (.slice (some ⟨w.heap.size, 0, none⟩) (n + 1) G) (l.take i ++ x :: l.drop i) by
  refine own_mk scells_len (by rw [List.length_append, List.length_take, List.length_cons, List.length_drop]; omega) hbase (blk_setCells (blk_drew hB1) hf2) hGn hGm ?_ ?_
  ·rw [List.size_toArray, lput_len (by simpa using hf2), ← List.size_toArray, hs1]
  ·show (lput (lput ROW.toList (i * 6) (scells x)) ((i + 1) * 6) cs).take ((n + 1) * 6) = _
   have e1 : (lput ROW.toList (i * 6) (scells x)).take ((i + 1) * 6) = F ++ scells x := by
    unfold lput
    rw [hRF, List.take_left' (by rw [List.length_append, hFl, scells_len]; omega)]
   rw [List.flatMap_append, List.flatMap_cons, hcs, hF]
   unfold lput at e1 ⊢
   rw [e1, List.take_left' (by rw [List.length_append, List.length_append, hFl, scells_len, hcl]; omega), List.append_assoc])
 have HFX := Lib.hid (show Fix g g w (W1.drew.setCells w.heap.size ((i + 1) * 6) cs) from by
  have h2 := fix_setCells (g := w.heap.size) cs ((i + 1) * 6) W1.drew
  refine ⟨h2.os.trans hfA.os, h2.tape.trans hfA.tape, h2.output.trans hfA.output, ?_, fun k hk h3 _ => ?_⟩
  ·have e1 := hfA.size
   have e2 := h2.size
   have e3 : (w.alloc (.cells ROW 105)).drew.heap.size = w.heap.size + 1 := Array.size_push _
   have e4 : W1.drew.heap.size = W1.heap.size := rfl
   omega
  ·have e1 := hfA.size
   have e3 : (w.alloc (.cells ROW 105)).drew.heap.size = w.heap.size + 1 := Array.size_push _
   rw [h2.block k (show k < W1.heap.size by omega) (by omega) (by omega)]
   show W1.heap[k]? = _
   rw [hfA.block k (by omega) (by omega) (by omega)]
   exact (one_more w (.cells ROW 105)).block k hk)
 have hci : ¬ (n = i) := by omega
 have hGi : ¬ (G = i) := by omega
 have hGim : ¬ (G = i + 1) := by omega
 clear h hx hg ht hs hn0 hkk hik hold hROW hG hRs hRF hcat h1cs hBW hXW hGW hf1 hf2 hB1 hs1 hfA hG1 hF hFl hZ hZs hz0 hzs hzb hi0 hcl hcs
 go_enter Tryz.func136, Tryz.ntmps136
 go_wp2_with (first
  | (at_builtin; refine Lib.wpList_append_run _ rfl _ _ _ _ rfl _ _ rfl rfl _ _ (hrz _) ?_)
  | (at_builtin; refine wpList_copy_runQ _ rfl _ _ 35 35 rfl _ _ rfl rfl (hcpA _ _) ?_; rw [hW1]))
 go_region_law_o (refine step_copy_runQ rfl _ _ 35 35 rfl _ _ (by simp [Act.eval, Act.put]) (by simp [Act.eval, Act.put]) (hcpB _ _ _) ?_)
 go_wp2
 go_ret
 exact ⟨_, rfl, HEND.out, HFX.out⟩
/-- slices.Insert of one stand, at any place. -/
theorem insert_any {base bx : Nat} {v : Value} {l : List Six} (x : Six) (i : Nat) (w : World) (h : OwnL scells 6 105 w base v l) (hl : l.length ≤ 1000) (hx : Blk w bx 105 #[.int .i64 x.a, .int .i64 x.b, .int .i64 x.c, .int .i64 x.d, .int .i64 x.e, .int .i64 x.f]) (hq : Arr scells 6 w (some ⟨bx, 0, none⟩) 1 [x]) (hne : v.ownBlock ≠ some bx) (hi : i ≤ l.length) (hb : base ≤ w.heap.size) :
  Calls Tryz.prog 136 #[v, .int .i64 i, .slice (some ⟨bx, 0, none⟩) 1 1] w fun e w' => ∃ v', e = .returned v' ∧ OwnL scells 6 105 w' base v' (l.take i ++ x :: l.drop i) ∧ w.grownBy w' v.ownBlock := by
 rcases Nat.lt_or_ge i l.length with h1 | h1
 ·obtain ⟨h2, ⟨e0, h3⟩ | ⟨g, c, cur, rfl, h3, h4, h5, h6, h7, h8⟩⟩ := h
  ·exfalso; omega
  ·have h9 : OwnL scells 6 105 w base (.slice (some ⟨g, 0, none⟩) l.length c) l := ⟨h2, .inr ⟨g, c, cur, rfl, h3, h4, h5, h6, h7, h8⟩⟩
   have hng : bx ≠ g := fun e => hne (by rw [e]; rfl)
   rcases Nat.lt_or_ge l.length c with h10 | h10
   ·refine (insRoom_any x i w h9 hl hx hng h1 h10).mono ?_
    rintro e w' ⟨rfl, ho, hf⟩
    exact ⟨_, rfl, ho, hf.os, hf.tape, hf.output, hf.size, fun k hk h => hf.block k hk (fun e => h (by rw [e]; rfl)) (fun e => h (by rw [e]; rfl))⟩
   ·obtain rfl : c = l.length := by omega
    refine (insGrow_any x i w h9 hl hx h1 hb).mono ?_
    rintro e w' ⟨G, rfl, ho, hf⟩
    exact ⟨_, rfl, ho, hf.os, hf.tape, hf.output, hf.size, fun k hk h => hf.block k hk (fun e => h (by rw [e]; rfl)) (fun e => h (by rw [e]; rfl))⟩
 ·obtain rfl : i = l.length := by omega
  rw [List.take_length, List.drop_length]
  exact insert_last x w h hl hq hb
end Go.Proofs.YtkoejeghihcmlaaGreat

namespace Go.Proofs.YtkoejeghihcmlaaGreat
open Go.RowKit Go.Shelf
theorem compact_sub (l : List Int) : (Lib.compact l).Sublist l := by
 unfold Lib.compact Lib.compactUpTo
 have h : ((List.range l.length).filter (Lib.keeps l.toArray)).Sublist (List.range l.length) := List.filter_sublist
 have h2 := h.map (fun i => l.toArray[i]!)
 have e : (List.range l.length).map (fun i => l.toArray[i]!) = l := by
  have := Lib.range_map_get l.toArray
  simpa using this
 rw [e] at h2
 exact h2
theorem toArray_get {l : List Int} {i : Nat} (hi : i < l.length) : l.toArray[i]! = l[i] := by
 rw [getElem!_pos l.toArray i (by simpa using hi)]
 simp
theorem mem_compactUp {l : List Int} {x : Int} : ∀ m, m ≤ l.length → x ∈ l.take m → x ∈ Lib.compactUpTo l.toArray m
 | 0, _, h => by rw [List.take_zero] at h; cases h
 | m + 1, hm, h => by
  rw [Lib.compactUpTo_succ]
  rw [List.take_succ_eq_append_getElem (show m < l.length by omega), List.mem_append] at h
  rcases h with h | h
  ·exact List.mem_append_left _ (mem_compactUp m (by omega) h)
  ·rw [List.mem_singleton] at h
   cases hk : Lib.keeps l.toArray m with
   | true =>
    rw [if_pos rfl, toArray_get (show m < l.length by omega), ← h]
    exact List.mem_append_right _ (List.mem_singleton.2 rfl)
   | false =>
    have hk' : ¬ (m = 0 ∨ l.toArray[m]! ≠ l.toArray[m - 1]!) := by
     unfold Lib.keeps at hk
     exact of_decide_eq_false hk
    have hm0 : m ≠ 0 := fun e => hk' (.inl e)
    have he : l.toArray[m]! = l.toArray[m - 1]! := Classical.not_not.1 fun e => hk' (.inr e)
    rw [toArray_get (show m < l.length by omega), toArray_get (show m - 1 < l.length by omega)] at he
    refine List.mem_append_left _ (mem_compactUp m (by omega) ?_)
    rw [h, he]
    rw [List.mem_take_iff_getElem]
    exact ⟨m - 1, by omega, rfl⟩
theorem mem_compact {l : List Int} {x : Int} : x ∈ Lib.compact l ↔ x ∈ l :=
 ⟨fun h => (compact_sub l).subset h, fun h => mem_compactUp l.length (Nat.le_refl _) (by rw [List.take_of_length_le (Nat.le_refl _)]; exact h)⟩
theorem mem_datesL {p : Pl} {d : Int} : d ∈ datesL p ↔ d ∈ datesAll p := by unfold datesL; rw [mem_compact, mem_srt]
/-- Two plots, on two days, of which the same loads and stands count, and spells alike. -/
structure Alike (p q : Pl) (k k' : Int) : Prop where
 lo : q.lo = p.lo
 hi : q.hi = p.hi
 geese : q.geese = p.geese
 loads : q.loads.filter (fun x => cnt x k') = p.loads.filter (fun x => cnt x k)
 stands : q.stands.filter (fun x => cnt x k') = p.stands.filter (fun x => cnt x k)
 spells : q.spells.filter (fun x => cnt x k') = p.spells.filter (fun x => cnt x k)
theorem standsF_filter (known : Int) (m : Int → Bool) (ls : List Six) : ∀ (l : List Six) (st : List Rg), standsF known m ls l st = (l.filter fun x => cnt x known).foldl (fun st s => if m s.a then nar st (after ls s.b) ⟨s.c, s.d⟩ else st) st
 | [], st => rfl
 | x :: l, st => by
  have e : standsF known m ls (x :: l) st = standsF known m ls l (if (cnt x known && m x.a) = true then nar st (after ls x.b) ⟨x.c, x.d⟩ else st) := rfl
  rw [e, standsF_filter known m ls l, List.filter_cons]
  cases hc : cnt x known with
  | false => simp
  | true => simp
theorem any_filter_cnt (known hour : Int) (l : List Six) : l.any (inSpell known hour) = (l.filter fun x => cnt x known).any fun s => rng hour s.c s.d := by
 rw [List.any_filter]
 rfl
theorem Alike.look {p q : Pl} {k k' : Int} (h : Alike p q k k') : lookL q k' every = lookL p k every ∧ lookS q k' every = lookS p k every := by
 have e1 : lookL q k' every = lookL p k every := by
  rw [cart_every, cart_every]
  unfold cartL
  rw [h.loads]
 refine ⟨e1, ?_⟩
 unfold lookS
 rw [e1, standsF_filter, standsF_filter, h.stands]
 unfold stood0
 rw [h.lo, h.hi]
theorem Alike.openB_ {p q : Pl} {k k' : Int} (h : Alike p q k k') (hour f : Int) : openB q k' hour f = openB p k hour f := by
 have : shutB q k' hour = shutB p k hour := by unfold shutB; rw [any_filter_cnt, any_filter_cnt, h.spells]
 unfold Go.Proofs.YtkoejeghihcmlaaGreat.openB
 rw [this, h.geese]
theorem Alike.same {p q : Pl} {k k' hour : Int} (h : Alike p q k k') (hp : okPl p = true) (hq : okPl q = true) (h0 : 0 ≤ hour ∧ hour ≤ 99999) (hk : 0 ≤ k ∧ k ≤ 4166) (hk' : 0 ≤ k' ∧ k' ≤ 4166) : askE q [hour] k' = askE p [hour] k ∧ openA q hour k' = openA p hour k := by
 have l := h.look
 have f1 : firstE p [hour] [k] = 0 := first_of hp (fun x hx => by rw [List.mem_singleton.1 hx]; exact h0) hk.1 hk.2
 have f2 : firstE q [hour] [k'] = 0 := first_of hq (fun x hx => by rw [List.mem_singleton.1 hx]; exact h0) hk'.1 hk'.2
 have e : askE q [hour] k' = askE p [hour] k := by
  unfold askE
  rw [if_pos f1, if_pos f2, l.2]
 refine ⟨e, ?_⟩
 have hf : fromsP q k' = fromsP p k := by unfold fromsP; rw [l.1, l.2]
 have ho : openB q k' hour = openB p k hour := funext fun f => h.openB_ hour f
 unfold openA
 rw [e, hf, ho]
end Go.Proofs.YtkoejeghihcmlaaGreat

namespace Go.Proofs.YtkoejeghihcmlaaGreat
open Go.RowKit Go.Shelf
/-- The plot at block b, whose rows are one's own, behind b. -/
structure Nw (w0 : World) (b : Nat) (lo hi geese : Int) (W : World) (v1 v2 v3 : Value) (l1 l2 l3 : List Six) : Prop where
 g : Below b w0 W
 p : Blk W b 38 #[.int .i64 lo, .int .i64 hi, v1, v2, v3, .int .i64 geese]
 o1 : OwnL scells 6 103 W (b + 1) v1 l1
 o2 : OwnL scells 6 105 W (b + 1) v2 l2
 o3 : OwnL scells 6 107 W (b + 1) v3 l3
section
variable {w0 W W2 : World} {b : Nat} {lo hi geese : Int} {v1 v2 v3 v' : Value} {l1 l2 l3 l' : List Six}
theorem Nw.new (w0 : World) (lo hi geese : Int) : Nw w0 w0.heap.size lo hi geese (w0.alloc (.cells #[.int .i64 lo, .int .i64 hi, .slice none 0 0, .slice none 0 0, .slice none 0 0, .int .i64 geese] 38)) (.slice none 0 0) (.slice none 0 0) (.slice none 0 0) [] [] [] :=
 ⟨one_more _ _, Blk.new _ _ _, OwnL.nil _ _, OwnL.nil _ _, OwnL.nil _ _⟩
theorem Nw.ext (h : Nw w0 b lo hi geese W v1 v2 v3 l1 l2 l3) (k : Below W.heap.size W W2) : Nw w0 b lo hi geese W2 v1 v2 v3 l1 l2 l3 :=
 ⟨h.g.trans (k.mono (Nat.le_of_lt h.p.lt)), h.p.ext k, h.o1.ext k, h.o2.ext k, h.o3.ext k⟩
theorem own_apart {e e' : TypeId} (he : e ≠ e') {v v' : Value} {xs ys : List Six} {base : Nat} (h : OwnL scells 6 e W base v xs) (h' : OwnL scells 6 e' W base v' ys) : ∀ k, v.ownBlock = some k → v'.ownBlock ≠ some k := fun k e1 e2 => by
 obtain ⟨-, -, cur, hc⟩ := own_cells h e1
 obtain ⟨-, -, cur', hc'⟩ := own_cells h' e2
 rw [hc] at hc'
 simp only [Option.some.injEq, Obj.cells.injEq] at hc'
 exact he hc'.2.1
theorem Nw.put1 (h : Nw w0 b lo hi geese W v1 v2 v3 l1 l2 l3) (hg : W.grownBy W2 v1.ownBlock) (ho : OwnL scells 6 103 W2 (b + 1) v' l') : Nw w0 b lo hi geese (W2.setCell ⟨b, 2, none⟩ v') v' v2 v3 l' l2 l3 :=
 ⟨(h.g.grown hg (Nat.le_of_lt h.p.lt) (fun k e => by have := (own_lt h.o1 e).1; omega)).setCell (p := ⟨b, 2, none⟩) (Nat.le_refl _) _,
  (h.p.grown hg (fun e => by have := (own_lt h.o1 e).1; omega)).set_ 2 v', ho.far (p := ⟨b, 2, none⟩) (Nat.lt_succ_self b) _,
  (h.o2.grown hg (fun k e e2 => own_apart (by decide) h.o1 h.o2 k e2 e)).far (p := ⟨b, 2, none⟩) (Nat.lt_succ_self b) _,
  (h.o3.grown hg (fun k e e2 => own_apart (by decide) h.o1 h.o3 k e2 e)).far (p := ⟨b, 2, none⟩) (Nat.lt_succ_self b) _⟩
theorem Nw.put2 (h : Nw w0 b lo hi geese W v1 v2 v3 l1 l2 l3) (hg : W.grownBy W2 v2.ownBlock) (ho : OwnL scells 6 105 W2 (b + 1) v' l') : Nw w0 b lo hi geese (W2.setCell ⟨b, 3, none⟩ v') v1 v' v3 l1 l' l3 :=
 ⟨(h.g.grown hg (Nat.le_of_lt h.p.lt) (fun k e => by have := (own_lt h.o2 e).1; omega)).setCell (p := ⟨b, 3, none⟩) (Nat.le_refl _) _,
  (h.p.grown hg (fun e => by have := (own_lt h.o2 e).1; omega)).set_ 3 v',
  (h.o1.grown hg (fun k e e2 => own_apart (by decide) h.o2 h.o1 k e2 e)).far (p := ⟨b, 3, none⟩) (Nat.lt_succ_self b) _, ho.far (p := ⟨b, 3, none⟩) (Nat.lt_succ_self b) _,
  (h.o3.grown hg (fun k e e2 => own_apart (by decide) h.o2 h.o3 k e2 e)).far (p := ⟨b, 3, none⟩) (Nat.lt_succ_self b) _⟩
theorem Nw.put3 (h : Nw w0 b lo hi geese W v1 v2 v3 l1 l2 l3) (hg : W.grownBy W2 v3.ownBlock) (ho : OwnL scells 6 107 W2 (b + 1) v' l') : Nw w0 b lo hi geese (W2.setCell ⟨b, 4, none⟩ v') v1 v2 v' l1 l2 l' :=
 ⟨(h.g.grown hg (Nat.le_of_lt h.p.lt) (fun k e => by have := (own_lt h.o3 e).1; omega)).setCell (p := ⟨b, 4, none⟩) (Nat.le_refl _) _,
  (h.p.grown hg (fun e => by have := (own_lt h.o3 e).1; omega)).set_ 4 v',
  (h.o1.grown hg (fun k e e2 => own_apart (by decide) h.o3 h.o1 k e2 e)).far (p := ⟨b, 4, none⟩) (Nat.lt_succ_self b) _,
  (h.o2.grown hg (fun k e e2 => own_apart (by decide) h.o3 h.o2 k e2 e)).far (p := ⟨b, 4, none⟩) (Nat.lt_succ_self b) _, ho.far (p := ⟨b, 4, none⟩) (Nat.lt_succ_self b) _⟩
/-- As a plot. -/
theorem Nw.plot {p : Pl} (h : Nw w0 b p.lo p.hi p.geese W v1 v2 v3 p.loads p.stands p.spells) : ∃ D1 m1 d1 D2 m2 d2 D3 m3 d3, Blk W b 38 (plb p D1 D2 D3 m1 d1 m2 d2 m3 d3) ∧ Pa W p D1 D2 D3 m1 d1 m2 d2 m3 d3 := by
 obtain ⟨D1, d1, e1, k1, j1, i1, -⟩ := OwnL.arr kdL h.o1
 obtain ⟨D2, d2, e2, k2, j2, i2, -⟩ := OwnL.arr kdS h.o2
 obtain ⟨D3, d3, e3, k3, j3, i3, -⟩ := OwnL.arr kdP h.o3
 unfold maxLen at j1 j2 j3
 have hp := h.p
 rw [e1, e2, e3] at hp
 exact ⟨D1, _, d1, D2, _, d2, D3, _, d3, hp, ⟨i1, i2, i3, ⟨k1, Nat.le_trans k1 j1⟩, ⟨k2, Nat.le_trans k2 j2⟩, ⟨k3, Nat.le_trans k3 j3⟩⟩⟩
end
theorem Cp.slices {W : World} {B : Nat} {p : Pl} {v1 v2 v3 : Value} (h : Cp W B p v1 v2 v3) : ∃ D1 m1 d1 D2 m2 d2 D3 m3 d3, v1 = .slice D1 m1 d1 ∧ v2 = .slice D2 m2 d2 ∧ v3 = .slice D3 m3 d3 ∧ Pa W p D1 D2 D3 m1 d1 m2 d2 m3 d3 := by
 obtain ⟨D1, d1, e1, k1, j1, i1, -⟩ := OwnL.arr kdL h.l1
 obtain ⟨D2, d2, e2, k2, j2, i2, -⟩ := OwnL.arr kdS h.l2
 obtain ⟨D3, d3, e3, k3, j3, i3, -⟩ := OwnL.arr kdP h.l3
 unfold maxLen at j1 j2 j3
 exact ⟨D1, _, d1, D2, _, d2, D3, _, d3, e1, e2, e3, ⟨i1, i2, i3, ⟨k1, Nat.le_trans k1 j1⟩, ⟨k2, Nat.le_trans k2 j2⟩, ⟨k3, Nat.le_trans k3 j3⟩⟩⟩
theorem six_one (W : World) (t : TypeId) (x : Six) : Arr scells 6 (W.alloc (.cells #[.int .i64 x.a, .int .i64 x.b, .int .i64 x.c, .int .i64 x.d, .int .i64 x.e, .int .i64 x.f] t)) (some ⟨W.heap.size, 0, none⟩) 1 [x] := Blk.arr1 (Blk.new W t _)
end Go.Proofs.YtkoejeghihcmlaaGreat

namespace Go.Proofs.YtkoejeghihcmlaaGreat
open Go.RowKit Go.Shelf
theorem own_far1 {W : World} {B : Nat} {v v' : Value} {xs ys : List Six} (h : OwnL scells 6 103 W B v xs) (h' : OwnL scells 6 105 W B v' ys) : ∀ k, v.ownBlock = some k → v'.ownBlock ≠ some k := own_apart (by decide) h h'
theorem own_far2 {W : World} {B : Nat} {v v' : Value} {xs ys : List Six} (h : OwnL scells 6 103 W B v xs) (h' : OwnL scells 6 107 W B v' ys) : ∀ k, v.ownBlock = some k → v'.ownBlock ≠ some k := own_apart (by decide) h h'
theorem own_far3 {W : World} {B : Nat} {v v' : Value} {xs ys : List Six} (h : OwnL scells 6 105 W B v xs) (h' : OwnL scells 6 107 W B v' ys) : ∀ k, v.ownBlock = some k → v'.ownBlock ≠ some k := own_apart (by decide) h h'
end Go.Proofs.YtkoejeghihcmlaaGreat

namespace Go.Proofs.YtkoejeghihcmlaaGreat
open Go.RowKit Go.Shelf
/-- All sources, list by list. -/
def srcs3 (p : Pl) : List Int := srcs p.loads ++ srcs p.stands ++ srcs p.spells
theorem srcs_zero (l : List Int) (xs : List Six) : l ++ srcs (xs.take 0) = l := by unfold srcs; simp
theorem srcs_len (l : List Six) : (srcs l).length = l.length := List.length_map _
theorem srcs_snoc {l : List Six} {k : Nat} (hk : k < l.length) : srcs (l.take (k + 1)) = srcs (l.take k) ++ [(l.getD k z6).a] := srcs_take (getD_six hk)
set_option maxRecDepth 100000 in
set_option maxHeartbeats 4000000 in
theorem refSources_any (p : Pl) (A1 A2 A3 : Option Addr) (n1 c1 n2 c2 n3 c3 : Nat) (w : World) (hp : Pa w p A1 A2 A3 n1 c1 n2 c2 n3 c3) (hnb : n1 ≤ 1000 ∧ n2 ≤ 1000 ∧ n3 ≤ 1000) :
  Calls Tryz.prog 137 #[plv p A1 A2 A3 n1 c1 n2 c2 n3 c3] w fun e w' => (∃ v, e = .returned v ∧ OwnL icells 1 3 w' w.heap.size v (srcs3 p)) ∧ Below w.heap.size w w' := by
 obtain ⟨W0, hW0⟩ : ∃ W0, w.alloc (.cells (plb p A1 A2 A3 n1 c1 n2 c2 n3 c3) 38) = W0 := ⟨_, rfl⟩
 have g0 : Below w.heap.size w W0 := by rw [← hW0]; exact one_more _ _
 have b0 : Blk W0 w.heap.size 38 (plb p A1 A2 A3 n1 c1 n2 c2 n3 c3) := by rw [← hW0]; exact Blk.new _ _ _
 have HNB := Lib.hid hnb
 have HL1 := Lib.hid (hp.l1.below g0)
 have HL2 := Lib.hid (hp.l2.below g0)
 have HL3 := Lib.hid (hp.l3.below g0)
 have GA := Lib.hid g0
 have HB0 := Lib.hid b0
 have HW0 := Lib.hid hW0
 have HGZ := Lib.hid (Below.refl W0.heap.size W0)
 have OS0 := Lib.hid (OwnL.nil (f := icells) (size := 1) (e := 3) W0 W0.heap.size)
 clear hp g0 b0 hW0 hnb
 go_enter Tryz.func137, Tryz.ntmps137
 go_upto_region 1 with fail
 rw [HW0.out]
 go_wp2_with fail
 go_loopw [3, 4] (fun v i wr => ∃ (k : Nat) (u : Value), u = v ∧ i = .int .i64 k ∧ k ≤ n1 ∧ Below W0.heap.size W0 wr ∧ OwnL icells 1 3 wr W0.heap.size v (([] : List Int) ++ srcs (p.loads.take k))) (fun _ i _ => n1 - (intOf i).toNat)
 case atStart => exact ⟨0, _, rfl, rfl, Nat.zero_le _, HGZ.out, by rw [srcs_zero]; exact OS0.out⟩
 case round =>
  obtain ⟨k, u, rfl, rfl, hk, hg, hown⟩ := hrel
  have HG := Lib.hid hg
  have HO := Lib.hid hown
  have q1 := (HB0.out.ext hg).cell 2
  by_cases hkn : k < n1
  ·obtain ⟨b0, o0, e0, -, -, hc⟩ := six_at (HL1.out.below hg) hkn
   obtain ⟨x0, x1, x2, x3, x4, x5⟩ := hc _ (Below.refl _ _)
   have HN := Lib.hid (srcs_snoc (l := p.loads) (k := k) (by rw [HL1.out.1]; exact hkn))
   obtain ⟨x, hxg⟩ : ∃ x, p.loads.getD k z6 = x := ⟨_, rfl⟩
   rw [hxg] at x0 x1 x2 x3 x4 x5 HN
   subst e0
   have hki : (k : Int) < (n1 : Int) := by omega
   have HLEN := Lib.hid (show (([] : List Int) ++ srcs (p.loads.take k)).length + 1 ≤ 1000000 by
    have hb := HNB.out
    have h1 := HL1.out.1
    have e1 := HL1.out.1
    have e2 := HL2.out.1
    have e3 := HL3.out.1
    simp only [List.length_append, srcs_len, List.length_take, List.length_nil]
    omega)
   have OX := Lib.hid (HO.out.ext (one_more wr (.cells #[.int .i64 x.a] 3)))
   have IX := Lib.hid (one_int (Blk.new wr 3 #[.int .i64 x.a]))
   have hws := HG.out.size
   have hk9 : k < 1000 := by have := HNB.out; omega
   clear hc hxg hg hown
   go_wp2_with (at_builtin; go_loud (refine wpList_app kdI (by rfl) _ _ (by rfl) W0.heap.size _ (([] : List Int) ++ srcs (p.loads.take k)) (by rfl) OX.out _ 1 1 [x.a] (by rfl) IX.out HLEN.out (by simp; omega) ?_); intro v' w' ho hbw hz; have HO2 := Lib.hid ho; have HB2 := Lib.hid ((OX.out).below hbw (B := W0.heap.size) (Nat.le_refl _) (by simp; omega)); clear ho hbw hz)
   go_roundw
   case rel => exact ⟨k + 1, _, rfl, by go_num, by omega, (HG.out.trans ((one_more wr _).mono HG.out.size)).trans HB2.out, by rw [HN.out, ← List.append_assoc]; exact HO2.out⟩
   case measure => simp [intOf]; omega
  ·obtain rfl : n1 = k := by omega
   have HEND1 := Lib.hid (show OwnL icells 1 3 wr W0.heap.size u (([] : List Int) ++ srcs p.loads) by have := HO.out; rwa [List.take_of_length_le (by rw [HL1.out.1]; exact Nat.le_refl _)] at this)
   have HGE1 := Lib.hid (show Below W0.heap.size W0 wr from HG.out)
   clear HG HO hg hown
   obtain ⟨V1, hV1⟩ : ∃ V, wr = V := ⟨_, rfl⟩
   obtain ⟨v1, hv1⟩ : ∃ v1, u = v1 := ⟨_, rfl⟩
   rw [hV1] at HEND1 HGE1 q1 ⊢
   rw [hv1] at HEND1 ⊢
   clear hV1 hv1 hkn hk
   go_wp2_with fail
   go_loopw [3, 5] (fun v i wr => ∃ (k : Nat) (u : Value), u = v ∧ i = .int .i64 k ∧ k ≤ n2 ∧ Below W0.heap.size W0 wr ∧ OwnL icells 1 3 wr W0.heap.size v (([] ++ srcs p.loads) ++ srcs (p.stands.take k))) (fun _ i _ => n2 - (intOf i).toNat)
   case atStart => exact ⟨0, _, rfl, rfl, Nat.zero_le _, HGE1.out, by rw [srcs_zero]; exact HEND1.out⟩
   case round =>
    obtain ⟨k, u, rfl, rfl, hk, hg, hown⟩ := hrel
    have HG := Lib.hid hg
    have HO := Lib.hid hown
    have q1 := (HB0.out.ext hg).cell 3
    by_cases hkn : k < n2
    ·obtain ⟨b0, o0, e0, -, -, hc⟩ := six_at (HL2.out.below hg) hkn
     obtain ⟨x0, x1, x2, x3, x4, x5⟩ := hc _ (Below.refl _ _)
     have HN := Lib.hid (srcs_snoc (l := p.stands) (k := k) (by rw [HL2.out.1]; exact hkn))
     obtain ⟨x, hxg⟩ : ∃ x, p.stands.getD k z6 = x := ⟨_, rfl⟩
     rw [hxg] at x0 x1 x2 x3 x4 x5 HN
     subst e0
     have hki : (k : Int) < (n2 : Int) := by omega
     have HLEN := Lib.hid (show (([] ++ srcs p.loads) ++ srcs (p.stands.take k)).length + 1 ≤ 1000000 by
      have hb := HNB.out
      have h1 := HL2.out.1
      have e1 := HL1.out.1
      have e2 := HL2.out.1
      have e3 := HL3.out.1
      simp only [List.length_append, srcs_len, List.length_take, List.length_nil]
      omega)
     have OX := Lib.hid (HO.out.ext (one_more wr (.cells #[.int .i64 x.a] 3)))
     have IX := Lib.hid (one_int (Blk.new wr 3 #[.int .i64 x.a]))
     have hws := HG.out.size
     have hk9 : k < 1000 := by have := HNB.out; omega
     clear hc hxg hg hown
     go_wp2_with (at_builtin; go_loud (refine wpList_app kdI (by rfl) _ _ (by rfl) W0.heap.size _ (([] ++ srcs p.loads) ++ srcs (p.stands.take k)) (by rfl) OX.out _ 1 1 [x.a] (by rfl) IX.out HLEN.out (by simp; omega) ?_); intro v' w' ho hbw hz; have HO2 := Lib.hid ho; have HB2 := Lib.hid ((OX.out).below hbw (B := W0.heap.size) (Nat.le_refl _) (by simp; omega)); clear ho hbw hz)
     go_roundw
     case rel => exact ⟨k + 1, _, rfl, by go_num, by omega, (HG.out.trans ((one_more wr _).mono HG.out.size)).trans HB2.out, by rw [HN.out, ← List.append_assoc]; exact HO2.out⟩
     case measure => simp [intOf]; omega
    ·obtain rfl : n2 = k := by omega
     have HEND2 := Lib.hid (show OwnL icells 1 3 wr W0.heap.size u (([] ++ srcs p.loads) ++ srcs p.stands) by have := HO.out; rwa [List.take_of_length_le (by rw [HL2.out.1]; exact Nat.le_refl _)] at this)
     have HGE2 := Lib.hid (show Below W0.heap.size W0 wr from HG.out)
     clear HG HO hg hown
     obtain ⟨V2, hV2⟩ : ∃ V, wr = V := ⟨_, rfl⟩
     obtain ⟨v2, hv2⟩ : ∃ v1, u = v1 := ⟨_, rfl⟩
     rw [hV2] at HEND2 HGE2 q1 ⊢
     rw [hv2] at HEND2 ⊢
     clear hV2 hv2 hkn hk
     go_wp2_with fail
     go_loopw [3, 6] (fun v i wr => ∃ (k : Nat) (u : Value), u = v ∧ i = .int .i64 k ∧ k ≤ n3 ∧ Below W0.heap.size W0 wr ∧ OwnL icells 1 3 wr W0.heap.size v (([] ++ srcs p.loads ++ srcs p.stands) ++ srcs (p.spells.take k))) (fun _ i _ => n3 - (intOf i).toNat)
     case atStart => exact ⟨0, _, rfl, rfl, Nat.zero_le _, HGE2.out, by rw [srcs_zero]; exact HEND2.out⟩
     case round =>
      obtain ⟨k, u, rfl, rfl, hk, hg, hown⟩ := hrel
      have HG := Lib.hid hg
      have HO := Lib.hid hown
      have q1 := (HB0.out.ext hg).cell 4
      by_cases hkn : k < n3
      ·obtain ⟨b0, o0, e0, -, -, hc⟩ := six_at (HL3.out.below hg) hkn
       obtain ⟨x0, x1, x2, x3, x4, x5⟩ := hc _ (Below.refl _ _)
       have HN := Lib.hid (srcs_snoc (l := p.spells) (k := k) (by rw [HL3.out.1]; exact hkn))
       obtain ⟨x, hxg⟩ : ∃ x, p.spells.getD k z6 = x := ⟨_, rfl⟩
       rw [hxg] at x0 x1 x2 x3 x4 x5 HN
       subst e0
       have hki : (k : Int) < (n3 : Int) := by omega
       have HLEN := Lib.hid (show (([] ++ srcs p.loads ++ srcs p.stands) ++ srcs (p.spells.take k)).length + 1 ≤ 1000000 by
        have hb := HNB.out
        have h1 := HL3.out.1
        have e1 := HL1.out.1
        have e2 := HL2.out.1
        have e3 := HL3.out.1
        simp only [List.length_append, srcs_len, List.length_take, List.length_nil]
        omega)
       have OX := Lib.hid (HO.out.ext (one_more wr (.cells #[.int .i64 x.a] 3)))
       have IX := Lib.hid (one_int (Blk.new wr 3 #[.int .i64 x.a]))
       have hws := HG.out.size
       have hk9 : k < 1000 := by have := HNB.out; omega
       clear hc hxg hg hown
       go_wp2_with (at_builtin; go_loud (refine wpList_app kdI (by rfl) _ _ (by rfl) W0.heap.size _ (([] ++ srcs p.loads ++ srcs p.stands) ++ srcs (p.spells.take k)) (by rfl) OX.out _ 1 1 [x.a] (by rfl) IX.out HLEN.out (by simp; omega) ?_); intro v' w' ho hbw hz; have HO2 := Lib.hid ho; have HB2 := Lib.hid ((OX.out).below hbw (B := W0.heap.size) (Nat.le_refl _) (by simp; omega)); clear ho hbw hz)
       go_roundw
       case rel => exact ⟨k + 1, _, rfl, by go_num, by omega, (HG.out.trans ((one_more wr _).mono HG.out.size)).trans HB2.out, by rw [HN.out, ← List.append_assoc]; exact HO2.out⟩
       case measure => simp [intOf]; omega
      ·obtain rfl : n3 = k := by omega
       have HEND3 := Lib.hid (show OwnL icells 1 3 wr W0.heap.size u (([] ++ srcs p.loads ++ srcs p.stands) ++ srcs p.spells) by have := HO.out; rwa [List.take_of_length_le (by rw [HL3.out.1]; exact Nat.le_refl _)] at this)
       have HGE3 := Lib.hid (show Below W0.heap.size W0 wr from HG.out)
       clear HG HO hg hown
       obtain ⟨V3, hV3⟩ : ∃ V, wr = V := ⟨_, rfl⟩
       obtain ⟨v3, hv3⟩ : ∃ v1, u = v1 := ⟨_, rfl⟩
       rw [hV3] at HEND3 HGE3 q1 ⊢
       rw [hv3] at HEND3 ⊢
       clear hV3 hv3 hkn hk
       go_wp2_with fail
       go_ret
       refine ⟨⟨_, rfl, ?_⟩, GA.out.trans (HGE3.out.mono GA.out.size)⟩
       have := HEND3.out
       rw [List.nil_append] at this
       exact this.mono GA.out.size
end Go.Proofs.YtkoejeghihcmlaaGreat

namespace Go.Proofs.YtkoejeghihcmlaaGreat
open Go.ChangeShapes Go.WideShapes Go.ChangeAt Go.RowKit
theorem cells33 : Tryz.prog.cellsOf 33 = 2 := by kernel_rfl
theorem cells103 : Tryz.prog.cellsOf 103 = 6 := by kernel_rfl
theorem cells105 : Tryz.prog.cellsOf 105 = 6 := by kernel_rfl
theorem cells107 : Tryz.prog.cellsOf 107 = 6 := by kernel_rfl
theorem cells34 : Tryz.prog.cellsOf 34 = 1 := by kernel_rfl
theorem cells35 : Tryz.prog.cellsOf 35 = 1 := by kernel_rfl
theorem cells36 : Tryz.prog.cellsOf 36 = 1 := by kernel_rfl
theorem cells38 : Tryz.prog.cellsOf 38 = 6 := by kernel_rfl
section
variable {H : Type} {enc : TypeId × Value → H} {w : World} {base : Nat} {sp : Nat → Bool} {held : Bool} {fuel : Nat} {x : DataW H × List MemPlace}
set_option maxRecDepth 100000 in
theorem openRg {cs : List Value} (h : DataW.trod enc Tryz.prog w base sp held fuel 33 cs = some x) : ∃ a b : Int, cs = [.int .i64 a, .int .i64 b] := by
 obtain ⟨xs, n, -, -, hl, hxl, hf⟩ := DataW.trod_struct Tryz.underlying33 h
 have hxl' : xs.length = 2 := hxl
 have h0 : DataW.trod enc Tryz.prog w base sp held n 3 ((cs.drop 0).take (Tryz.prog.cellsOf 3)) = xs[0]? := hf 0 _ rfl
 have h1 : DataW.trod enc Tryz.prog w base sp held n 3 ((cs.drop 1).take (Tryz.prog.cellsOf 3)) = xs[1]? := hf 1 _ rfl
 rw [cells3] at h0 h1
 rw [cells33] at hl
 match cs, hl with
 | [c0, c1], _ =>
  obtain ⟨a0, e0, -⟩ := openInt (h0.trans (List.getElem?_eq_getElem (by omega)))
  obtain ⟨a1, e1, -⟩ := openInt (h1.trans (List.getElem?_eq_getElem (by omega)))
  simp at e0 e1
  subst e0 e1
  exact ⟨a0, a1, rfl⟩
set_option maxRecDepth 100000 in
theorem openSix103 {cs : List Value} (h : DataW.trod enc Tryz.prog w base sp held fuel 103 cs = some x) : ∃ q : Six, cs = scells q := by
 obtain ⟨xs, n, -, -, hl, hxl, hf⟩ := DataW.trod_struct Tryz.underlying103 h
 have hxl' : xs.length = 5 := hxl
 have h0 : DataW.trod enc Tryz.prog w base sp held n 3 ((cs.drop 0).take (Tryz.prog.cellsOf 3)) = xs[0]? := hf 0 _ rfl
 have h1 : DataW.trod enc Tryz.prog w base sp held n 3 ((cs.drop 1).take (Tryz.prog.cellsOf 3)) = xs[1]? := hf 1 _ rfl
 have h2 : DataW.trod enc Tryz.prog w base sp held n 33 ((cs.drop 2).take (Tryz.prog.cellsOf 33)) = xs[2]? := hf 2 _ rfl
 have h3 : DataW.trod enc Tryz.prog w base sp held n 3 ((cs.drop 4).take (Tryz.prog.cellsOf 3)) = xs[3]? := hf 3 _ rfl
 have h4 : DataW.trod enc Tryz.prog w base sp held n 3 ((cs.drop 5).take (Tryz.prog.cellsOf 3)) = xs[4]? := hf 4 _ rfl
 rw [cells3] at h0 h1 h3 h4
 rw [cells33] at h2
 rw [cells103] at hl
 match cs, hl with
 | [c0, c1, c2, c3, c4, c5], _ =>
  obtain ⟨a0, e0, -⟩ := openInt (h0.trans (List.getElem?_eq_getElem (by omega)))
  obtain ⟨a1, e1, -⟩ := openInt (h1.trans (List.getElem?_eq_getElem (by omega)))
  obtain ⟨a2, a3, e2⟩ := openRg (h2.trans (List.getElem?_eq_getElem (by omega)))
  obtain ⟨a4, e4, -⟩ := openInt (h3.trans (List.getElem?_eq_getElem (by omega)))
  obtain ⟨a5, e5, -⟩ := openInt (h4.trans (List.getElem?_eq_getElem (by omega)))
  simp at e0 e1 e2 e4 e5
  obtain ⟨e2, e3⟩ := e2
  subst e0 e1 e2 e3 e4 e5
  exact ⟨⟨a0, a1, a2, a3, a4, a5⟩, rfl⟩
set_option maxRecDepth 100000 in
theorem openSix105 {cs : List Value} (h : DataW.trod enc Tryz.prog w base sp held fuel 105 cs = some x) : ∃ q : Six, cs = scells q := by
 obtain ⟨xs, n, -, -, hl, hxl, hf⟩ := DataW.trod_struct Tryz.underlying105 h
 have hxl' : xs.length = 5 := hxl
 have h0 : DataW.trod enc Tryz.prog w base sp held n 3 ((cs.drop 0).take (Tryz.prog.cellsOf 3)) = xs[0]? := hf 0 _ rfl
 have h1 : DataW.trod enc Tryz.prog w base sp held n 3 ((cs.drop 1).take (Tryz.prog.cellsOf 3)) = xs[1]? := hf 1 _ rfl
 have h2 : DataW.trod enc Tryz.prog w base sp held n 33 ((cs.drop 2).take (Tryz.prog.cellsOf 33)) = xs[2]? := hf 2 _ rfl
 have h3 : DataW.trod enc Tryz.prog w base sp held n 3 ((cs.drop 4).take (Tryz.prog.cellsOf 3)) = xs[3]? := hf 3 _ rfl
 have h4 : DataW.trod enc Tryz.prog w base sp held n 3 ((cs.drop 5).take (Tryz.prog.cellsOf 3)) = xs[4]? := hf 4 _ rfl
 rw [cells3] at h0 h1 h3 h4
 rw [cells33] at h2
 rw [cells105] at hl
 match cs, hl with
 | [c0, c1, c2, c3, c4, c5], _ =>
  obtain ⟨a0, e0, -⟩ := openInt (h0.trans (List.getElem?_eq_getElem (by omega)))
  obtain ⟨a1, e1, -⟩ := openInt (h1.trans (List.getElem?_eq_getElem (by omega)))
  obtain ⟨a2, a3, e2⟩ := openRg (h2.trans (List.getElem?_eq_getElem (by omega)))
  obtain ⟨a4, e4, -⟩ := openInt (h3.trans (List.getElem?_eq_getElem (by omega)))
  obtain ⟨a5, e5, -⟩ := openInt (h4.trans (List.getElem?_eq_getElem (by omega)))
  simp at e0 e1 e2 e4 e5
  obtain ⟨e2, e3⟩ := e2
  subst e0 e1 e2 e3 e4 e5
  exact ⟨⟨a0, a1, a2, a3, a4, a5⟩, rfl⟩
set_option maxRecDepth 100000 in
theorem openSix107 {cs : List Value} (h : DataW.trod enc Tryz.prog w base sp held fuel 107 cs = some x) : ∃ q : Six, cs = scells q := by
 obtain ⟨xs, n, -, -, hl, hxl, hf⟩ := DataW.trod_struct Tryz.underlying107 h
 have hxl' : xs.length = 6 := hxl
 have h0 : DataW.trod enc Tryz.prog w base sp held n 3 ((cs.drop 0).take (Tryz.prog.cellsOf 3)) = xs[0]? := hf 0 _ rfl
 have h1 : DataW.trod enc Tryz.prog w base sp held n 3 ((cs.drop 1).take (Tryz.prog.cellsOf 3)) = xs[1]? := hf 1 _ rfl
 have h2 : DataW.trod enc Tryz.prog w base sp held n 3 ((cs.drop 2).take (Tryz.prog.cellsOf 3)) = xs[2]? := hf 2 _ rfl
 have h3 : DataW.trod enc Tryz.prog w base sp held n 3 ((cs.drop 3).take (Tryz.prog.cellsOf 3)) = xs[3]? := hf 3 _ rfl
 have h4 : DataW.trod enc Tryz.prog w base sp held n 3 ((cs.drop 4).take (Tryz.prog.cellsOf 3)) = xs[4]? := hf 4 _ rfl
 have h5 : DataW.trod enc Tryz.prog w base sp held n 3 ((cs.drop 5).take (Tryz.prog.cellsOf 3)) = xs[5]? := hf 5 _ rfl
 rw [cells3] at h0 h1 h2 h3 h4 h5
 rw [cells107] at hl
 match cs, hl with
 | [c0, c1, c2, c3, c4, c5], _ =>
  obtain ⟨a0, e0, -⟩ := openInt (h0.trans (List.getElem?_eq_getElem (by omega)))
  obtain ⟨a1, e1, -⟩ := openInt (h1.trans (List.getElem?_eq_getElem (by omega)))
  obtain ⟨a2, e2, -⟩ := openInt (h2.trans (List.getElem?_eq_getElem (by omega)))
  obtain ⟨a3, e3, -⟩ := openInt (h3.trans (List.getElem?_eq_getElem (by omega)))
  obtain ⟨a4, e4, -⟩ := openInt (h4.trans (List.getElem?_eq_getElem (by omega)))
  obtain ⟨a5, e5, -⟩ := openInt (h5.trans (List.getElem?_eq_getElem (by omega)))
  simp at e0 e1 e2 e3 e4 e5
  subst e0 e1 e2 e3 e4 e5
  exact ⟨⟨a0, a1, a2, a3, a4, a5⟩, rfl⟩
variable {r : Reach} {b0 : Nat} {v : Value} {d : DataW H} {p : List MemPlace}
set_option maxRecDepth 100000 in
theorem openPlot (hv : Value.okWide Tryz.prog w r b0 38 v) (h : DataW.Trod enc Tryz.prog w base sp held 38 v d p) :
  ∃ (q : Pl) (A1 A2 A3 : Option Addr) (n1 c1 n2 c2 n3 c3 : Nat), v = plv q A1 A2 A3 n1 c1 n2 c2 n3 c3 ∧ Pa w q A1 A2 A3 n1 c1 n2 c2 n3 c3 := by
 obtain ⟨cs, rfl, hsz⟩ := okWide_struct Tryz.underlying38 hv
 obtain ⟨fuel, hf⟩ := h
 rw [cells38] at hsz
 obtain ⟨u0, u1, u2, u3, u4, u5, rfl⟩ : ∃ u0 u1 u2 u3 u4 u5, cs = #[u0, u1, u2, u3, u4, u5] := by
  obtain ⟨l⟩ := cs
  match l, hsz with
  | [u0, u1, u2, u3, u4, u5], _ => exact ⟨u0, u1, u2, u3, u4, u5, rfl⟩
 obtain ⟨xs, n, -, -, hl, hxl, hf⟩ := DataW.trod_struct Tryz.underlying38 hf
 have hxl' : xs.length = 5 := hxl
 have h0 : DataW.trod enc Tryz.prog w base sp held n 33 (((Value.agg #[u0, u1, u2, u3, u4, u5]).cells.toList.drop 0).take (Tryz.prog.cellsOf 33)) = xs[0]? := hf 0 _ rfl
 have h1 : DataW.trod enc Tryz.prog w base sp held n 34 (((Value.agg #[u0, u1, u2, u3, u4, u5]).cells.toList.drop 2).take (Tryz.prog.cellsOf 34)) = xs[1]? := hf 1 _ rfl
 have h2 : DataW.trod enc Tryz.prog w base sp held n 35 (((Value.agg #[u0, u1, u2, u3, u4, u5]).cells.toList.drop 3).take (Tryz.prog.cellsOf 35)) = xs[2]? := hf 2 _ rfl
 have h3 : DataW.trod enc Tryz.prog w base sp held n 36 (((Value.agg #[u0, u1, u2, u3, u4, u5]).cells.toList.drop 4).take (Tryz.prog.cellsOf 36)) = xs[3]? := hf 3 _ rfl
 have h4 : DataW.trod enc Tryz.prog w base sp held n 3 (((Value.agg #[u0, u1, u2, u3, u4, u5]).cells.toList.drop 5).take (Tryz.prog.cellsOf 3)) = xs[4]? := hf 4 _ rfl
 rw [cells33] at h0
 rw [cells34] at h1
 rw [cells35] at h2
 rw [cells36] at h3
 rw [cells3] at h4
 obtain ⟨a, b, ha⟩ := openRg (h0.trans (List.getElem?_eq_getElem (by omega)))
 obtain ⟨g, hg, -⟩ := openInt (h4.trans (List.getElem?_eq_getElem (by omega)))
 obtain ⟨A1, n1, c1, x1, e1, l1, m1, r1⟩ := openSlice (f := scells) Tryz.underlying34 cells103 (by decide) (fun _ _ _ hq => openSix103 hq) (h1.trans (List.getElem?_eq_getElem (by omega)))
 obtain ⟨A2, n2, c2, x2, e2, l2, m2, r2⟩ := openSlice (f := scells) Tryz.underlying35 cells105 (by decide) (fun _ _ _ hq => openSix105 hq) (h2.trans (List.getElem?_eq_getElem (by omega)))
 obtain ⟨A3, n3, c3, x3, e3, l3, m3, r3⟩ := openSlice (f := scells) Tryz.underlying36 cells107 (by decide) (fun _ _ _ hq => openSix107 hq) (h3.trans (List.getElem?_eq_getElem (by omega)))
 simp [Value.cells] at ha hg e1 e2 e3
 obtain ⟨ha, hb⟩ := ha
 subst ha hb hg e1 e2 e3
 unfold maxLen at m1 m2 m3
 exact ⟨⟨a, b, x1, x2, x3, g⟩, A1, A2, A3, n1, c1, n2, c2, n3, c3, rfl, ⟨r1, r2, r3, ⟨l1, by omega⟩, ⟨l2, by omega⟩, ⟨l3, by omega⟩⟩⟩
end
end Go.Proofs.YtkoejeghihcmlaaGreat

namespace Go.Proofs.YtkoejeghihcmlaaGreat
open Go.ChangeShapes Go.WideShapes Go.ChangeAt Go.RowKit
theorem cells121 : Tryz.prog.cellsOf 121 = 18 := by kernel_rfl
instance : Inhabited {x : Int // I64 x} := ⟨⟨0, by unfold I64; decide⟩⟩
section
variable {H : Type} {enc : TypeId × Value → H} {w : World} {base : Nat} {sp : Nat → Bool} {held : Bool} {fuel : Nat} {x : DataW H × List MemPlace}
variable {r : Reach} {b0 : Nat} {v : Value} {d : DataW H} {p : List MemPlace}
set_option maxRecDepth 100000 in
theorem openOne (hv : Value.okWide Tryz.prog w r b0 121 v) (h : DataW.Trod enc Tryz.prog w base sp held 121 v d p) :
  ∃ x y z : Six, v = .agg ((scells x ++ scells y ++ scells z).toArray) := by
 obtain ⟨cs, rfl, hsz⟩ := okWide_struct Tryz.underlying121 hv
 obtain ⟨fuel, hf⟩ := h
 rw [cells121] at hsz
 obtain ⟨u0, u1, u2, u3, u4, u5, u6, u7, u8, u9, u10, u11, u12, u13, u14, u15, u16, u17, rfl⟩ : ∃ u0 u1 u2 u3 u4 u5 u6 u7 u8 u9 u10 u11 u12 u13 u14 u15 u16 u17, cs = #[u0, u1, u2, u3, u4, u5, u6, u7, u8, u9, u10, u11, u12, u13, u14, u15, u16, u17] := by
  obtain ⟨l⟩ := cs
  match l, hsz with
  | [u0, u1, u2, u3, u4, u5, u6, u7, u8, u9, u10, u11, u12, u13, u14, u15, u16, u17], _ => exact ⟨u0, u1, u2, u3, u4, u5, u6, u7, u8, u9, u10, u11, u12, u13, u14, u15, u16, u17, rfl⟩
 obtain ⟨xs, n, -, -, hl, hxl, hf⟩ := DataW.trod_struct Tryz.underlying121 hf
 have hxl' : xs.length = 3 := hxl
 have h0 : DataW.trod enc Tryz.prog w base sp held n 103 (((Value.agg #[u0, u1, u2, u3, u4, u5, u6, u7, u8, u9, u10, u11, u12, u13, u14, u15, u16, u17]).cells.toList.drop 0).take (Tryz.prog.cellsOf 103)) = xs[0]? := hf 0 _ rfl
 have h1 : DataW.trod enc Tryz.prog w base sp held n 105 (((Value.agg #[u0, u1, u2, u3, u4, u5, u6, u7, u8, u9, u10, u11, u12, u13, u14, u15, u16, u17]).cells.toList.drop 6).take (Tryz.prog.cellsOf 105)) = xs[1]? := hf 1 _ rfl
 have h2 : DataW.trod enc Tryz.prog w base sp held n 107 (((Value.agg #[u0, u1, u2, u3, u4, u5, u6, u7, u8, u9, u10, u11, u12, u13, u14, u15, u16, u17]).cells.toList.drop 12).take (Tryz.prog.cellsOf 107)) = xs[2]? := hf 2 _ rfl
 rw [cells103] at h0
 rw [cells105] at h1
 rw [cells107] at h2
 obtain ⟨x, e0⟩ := openSix103 (h0.trans (List.getElem?_eq_getElem (by omega)))
 obtain ⟨y, e1⟩ := openSix105 (h1.trans (List.getElem?_eq_getElem (by omega)))
 obtain ⟨z, e2⟩ := openSix107 (h2.trans (List.getElem?_eq_getElem (by omega)))
 simp [Value.cells, scells] at e0 e1 e2
 obtain ⟨a0, a1, a2, a3, a4, a5⟩ := e0
 obtain ⟨b0', b1, b2, b3, b4, b5⟩ := e1
 obtain ⟨c0, c1, c2, c3, c4, c5⟩ := e2
 subst a0 a1 a2 a3 a4 a5 b0' b1 b2 b3 b4 b5 c0 c1 c2 c3 c4 c5
 exact ⟨x, y, z, rfl⟩
end
end Go.Proofs.YtkoejeghihcmlaaGreat
