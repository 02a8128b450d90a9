/- Part of the proof: WG, WC, WD, WH, WS, XR, VN. -/
import Derived.Test.YtkoejeghihcmlaaGreatZA2
import Derived.Test.YtkoejeghihcmlaaGreatZA7
import Derived.Test.YtkoejeghihcmlaaGreatZA9
import Derived.Test.YtkoejeghihcmlaaGreatZB1
namespace Go.Proofs.YtkoejeghihcmlaaGreat
open Go.RowKit Go.Shelf
/-- A plot that is narrower: the same loads, no more true numbers. -/
structure Nrw (p q : Pl) (known : Int) : Prop where
 ls : lookL q known every = lookL p known every
 okp : okPl p = true
 okq : okPl q = true
 sp : sound (lookS p known every) = true
 sq : sound (lookS q known every) = true
 le : ∀ s, Tru (lookL q known every) (lookS q known every) s → Tru (lookL p known every) (lookS p known every) s
theorem Nrw.bd {p q : Pl} {known : Int} (h : Nrw p q known) {i : Nat} (hi : i ≤ (lookL p known every).length) : Lo (lookS p known every) i ≤ Lo (lookS q known every) i ∧ Hi (lookS q known every) i ≤ Hi (lookS p known every) i := by
 have rq := look_rw h.okq h.sq
 have hs := rq.snd i (by rw [h.ls]; exact hi)
 obtain ⟨s, t1, e1⟩ := rq.attain (i := i) (v := Lo (lookS q known every) i) (by rw [h.ls]; exact hi) (Int.le_refl _) hs
 obtain ⟨s', t2, e2⟩ := rq.attain (i := i) (v := Hi (lookS q known every) i) (by rw [h.ls]; exact hi) hs (Int.le_refl _)
 have a := (h.le s t1).2.2 i hi
 have b := (h.le s' t2).2.2 i hi
 omega
theorem Nrw.stood {p q : Pl} {known hour : Int} (h : Nrw p q known) (hp : askE p [hour] known = 0) (hq : askE q [hour] known = 0) : (stoodR p hour known).lo ≤ (stoodR q hour known).lo ∧ (stoodR q hour known).hi ≤ (stoodR p hour known).hi := by
 rw [stoodR_of hp, stoodR_of hq, h.ls]
 exact h.bd (after_len _ _)
theorem Nrw.froms {p q : Pl} {known : Int} (h : Nrw p q known) : ∀ f ∈ fromsP q known, f ∈ fromsP p known := fun f hf => by
 obtain ⟨s, t, e⟩ := (look_rw h.okq h.sq).mem_froms.1 hf
 refine (look_rw h.okp h.sp).mem_froms.2 ⟨s, h.le s t, ?_⟩
 rw [← e, h.ls]
end Go.Proofs.YtkoejeghihcmlaaGreat

namespace Go.Proofs.YtkoejeghihcmlaaGreat
open Go.RowKit Go.Shelf
/-- The days of something. -/
def datL (k u : Int) : List Int := if u = 0 then [k] else [k, u]
def dates (l : List Six) : List Int := l.flatMap fun x => datL x.e x.f
theorem dates_snoc {l : List Six} {k : Nat} (hk : k < l.length) : dates (l.take (k + 1)) = dates (l.take k) ++ datL (l.getD k z6).e (l.getD k z6).f := by
 unfold dates
 rw [List.take_succ_eq_append_getElem hk, List.flatMap_append, six_get hk]
 simp
theorem datL_len (k u : Int) : (datL k u).length ≤ 2 := by unfold datL; split <;> simp
theorem dates_len : ∀ l : List Six, (dates l).length ≤ 2 * l.length
 | [] => Nat.zero_le _
 | x :: l => by
  have h1 := dates_len l
  have h2 := datL_len x.e x.f
  show (datL x.e x.f ++ dates l).length ≤ _
  rw [List.length_append, List.length_cons]
  omega
def datesAll (p : Pl) : List Int := dates p.loads ++ dates p.stands ++ dates p.spells
def datesL (p : Pl) : List Int := Lib.compact (srt (datesAll p))
/-- A variable that holds one's own integers. -/
structure Ad (bo : Nat) (W : World) (v : Value) (l : List Int) : Prop where
 b : Blk W bo 39 #[v]
 o : OwnL icells 1 3 W (bo + 1) v l
theorem Ad.ext {bo : Nat} {W W' : World} {v : Value} {l : List Int} (h : Ad bo W v l) (g : Below W.heap.size W W') : Ad bo W' v l := ⟨h.b.ext g, h.o.ext g⟩
theorem Ad.put {bo : Nat} {W W' : World} {v v' : Value} {l l' : List Int} (h : Ad bo W v l) (g : W.grownBy W' v.ownBlock) (ho : OwnL icells 1 3 W' (bo + 1) v' l') : Ad bo (W'.setCell ⟨bo, 0, none⟩ v') v' l' :=
 ⟨(h.b.grown g (fun e => by have := (own_lt h.o e).1; omega)).set_ 0 v', ho.far (p := ⟨bo, 0, none⟩) (Nat.lt_succ_self bo) _⟩
theorem Ad.below {bo : Nat} {W W' : World} {v : Value} {l : List Int} (h : Ad bo W v l) (g : W.grownBy W' v.ownBlock) (u : Value) : Below bo W (W'.setCell ⟨bo, 0, none⟩ u) :=
 ((Below.refl _ _).grown g (Nat.le_of_lt h.b.lt) (fun k e => by have := (own_lt h.o e).1; omega)).setCell (p := ⟨bo, 0, none⟩) (Nat.le_refl _) _
set_option maxRecDepth 100000 in
set_option maxHeartbeats 2000000 in
theorem add_any (bo : Nat) (k u : Int) (v : Value) (l : List Int) (w : World) (h : Ad bo w v l) (hl : l.length ≤ 1000) :
  Calls Tryz.prog 110 #[.int .i64 k, .int .i64 u, .pointer (some ⟨bo, 0, none⟩)] w fun e w' => e = .returned (.tuple #[]) ∧ (∃ v', Ad bo w' v' (l ++ datL k u)) ∧ Below bo w w' := by
 obtain ⟨A, c, hv, -, -, -, -⟩ := OwnL.arr kdI h.o
 obtain ⟨n, hn⟩ : ∃ n, l.length = n := ⟨_, rfl⟩
 rw [hn] at hv hl
 subst hv
 have H := Lib.hid h
 have HN := Lib.hid hn
 have q0 := h.b.cell 0
 have HL := Lib.hid (show l.length + 1 ≤ 1000000 by omega)
 have HX := Lib.hid (H.out.ext (one_more w (.cells #[.int .i64 k] 3)))
 have IX := Lib.hid (one_int (Blk.new w 3 #[.int .i64 k]))
 have HBS := Lib.hid (show bo + 1 ≤ (w.alloc (.cells #[.int .i64 k] 3)).heap.size by have := HX.out.b.lt; omega)
 have hD : datL k u = if u = 0 then [k] else [k, u] := rfl
 clear h hn
 by_cases hu : u = 0
 ·subst hu
  have HD := Lib.hid (show datL k 0 = [k] from rfl)
  clear hD
  go_enter Tryz.func110, Tryz.ntmps110
  go_wp2_with (at_builtin; go_loud (refine wpList_app kdI (by rfl) _ _ (by rfl) (bo + 1) _ l (by rfl) HX.out.o _ 1 1 [k] (by rfl) IX.out HL.out HBS.out ?_); intro v' w' ho hgr hz; obtain ⟨A6, c6, e6, -, -, -, -⟩ := OwnL.arr kdI ho; obtain ⟨m6, hm6⟩ : ∃ m6, (l ++ [k]).length = m6 := ⟨_, rfl⟩; rw [hm6] at e6; clear hm6; subst e6; have HP := Lib.hid (HX.out.put hgr ho); have HQ := Lib.hid ((one_more w (.cells #[.int .i64 k] 3)).mono (Nat.le_of_lt H.out.b.lt) |>.trans (HX.out.below hgr (.slice A6 m6 c6))); have hpg := (HX.out.b.grown hgr (fun e => by have := (own_lt HX.out.o e).1; omega)); have f1 := hpg.frozen 0; have e1 := hpg.cell 0; clear ho hgr hz hpg)
  go_end0
  exact ⟨rfl, ⟨_, by rw [HD.out]; exact HP.out⟩, HQ.out⟩
 ·have HD := Lib.hid (show datL k u = [k] ++ [u] by rw [hD, if_neg hu]; rfl)
  have hne : (u != 0) = true := by simpa using hu
  clear hD
  go_enter Tryz.func110, Tryz.ntmps110
  go_upto_region 1 with (at_builtin; go_loud (refine wpList_app kdI (by rfl) _ _ (by rfl) (bo + 1) _ (l) (by rfl) HX.out.o _ 1 1 [k] (by rfl) IX.out HL.out HBS.out ?_); intro v' w' ho hgr hz; obtain ⟨A6, c6, e6, -, -, -, -⟩ := OwnL.arr kdI ho; obtain ⟨m6, hm6⟩ : ∃ m6, (l ++ [k]).length = m6 := ⟨_, rfl⟩; rw [hm6] at e6; clear hm6; subst e6; have HP := Lib.hid (HX.out.put hgr ho); have HQ := Lib.hid ((one_more _ (.cells #[.int .i64 k] 3)).mono (Nat.le_of_lt H.out.b.lt) |>.trans (HX.out.below hgr (.slice A6 m6 c6))); have hpg := (HX.out.b.grown hgr (fun e => by have := (own_lt HX.out.o e).1; omega)); have f1 := hpg.frozen 0; have e1 := hpg.cell 0; clear ho hgr hz hpg)
  obtain ⟨W1, hW1⟩ : ∃ W, w'.setCell ⟨bo, 0, none⟩ (.slice A6 m6 c6) = W := ⟨_, rfl⟩
  rw [hW1] at HP HQ ⊢
  clear hW1 f1 e1 q0
  have q0 := HP.out.b.cell 0
  have HLm := Lib.hid (show (l ++ [k]).length = m6 from by
   obtain ⟨_, _, e, -⟩ := OwnL.arr kdI HP.out.o
   cases e
   rfl)
  have HX2 := Lib.hid (HP.out.ext (one_more W1 (.cells #[.int .i64 u] 3)))
  have IX2 := Lib.hid (one_int (Blk.new W1 3 #[.int .i64 u]))
  have HBS2 := Lib.hid (show bo + 1 ≤ (W1.alloc (.cells #[.int .i64 u] 3)).heap.size by have := HX2.out.b.lt; omega)
  have HL2 := Lib.hid (show (l ++ [k]).length + 1 ≤ 1000000 by rw [List.length_append, HN.out]; show n + 1 + 1 ≤ _; omega)
  go_wp2_with (at_builtin; go_loud (refine wpList_app kdI (by rfl) _ _ (by rfl) (bo + 1) _ (l ++ [k]) (by rfl) HX2.out.o _ 1 1 [u] (by rfl) IX2.out HL2.out HBS2.out ?_); intro v' w' ho hgr hz; obtain ⟨A7, c7, e7, -, -, -, -⟩ := OwnL.arr kdI ho; obtain ⟨m7, hm7⟩ : ∃ m7, (l ++ [k] ++ [u]).length = m7 := ⟨_, rfl⟩; rw [hm7] at e7; clear hm7; subst e7; have HP2 := Lib.hid (HX2.out.put hgr ho); have HQ2 := Lib.hid ((one_more _ (.cells #[.int .i64 u] 3)).mono (Nat.le_of_lt HP.out.b.lt) |>.trans (HX2.out.below hgr (.slice A7 m7 c7))); have hpg := (HX2.out.b.grown hgr (fun e => by have := (own_lt HX2.out.o e).1; omega)); have f1 := hpg.frozen 0; have e1 := hpg.cell 0; clear ho hgr hz hpg)
  go_end0
  exact ⟨rfl, ⟨_, by rw [HD.out, ← List.append_assoc]; exact HP2.out⟩, HQ.out.trans HQ2.out⟩
set_option maxRecDepth 100000 in
set_option maxHeartbeats 8000000 in
theorem dates_any (p : Pl) (A1 A2 A3 : Option Addr) (n1 c1 n2 c2 n3 c3 : Nat) (w : World) (hp : Pa w p A1 A2 A3 n1 c1 n2 c2 n3 c3) :
  Calls Tryz.prog 44 #[plv p A1 A2 A3 n1 c1 n2 c2 n3 c3] w fun e w' => (∃ D m c, e = .returned (.tuple #[.slice D m c, .int .i64 (err (okPl p) 13)]) ∧ Ints w' D m (if okPl p = true then datesL p else [])) ∧ Below w.heap.size w w' := by
 obtain ⟨W1, hW1⟩ : ∃ W1, w.alloc (.cells (plb p A1 A2 A3 n1 c1 n2 c2 n3 c3) 38) = W1 := ⟨_, rfl⟩
 have g1 : Below w.heap.size w W1 := by rw [← hW1]; exact one_more _ _
 have b1 : Blk W1 w.heap.size 38 (plb p A1 A2 A3 n1 c1 n2 c2 n3 c3) := by rw [← hW1]; exact Blk.new _ _ _
 have p0 := b1.cell 0
 have p1 := b1.cell 1
 have p2 := b1.cell 2
 have p3 := b1.cell 3
 have p4 := b1.cell 4
 have p5 := b1.cell 5
 have T := check_any p A1 A2 A3 n1 c1 n2 c2 n3 c3 W1 (hp.below g1)
 have HPA := Lib.hid (hp.below g1)
 have HB := Lib.hid b1
 have G1 := Lib.hid g1
 have HOKP := Lib.hid (fun h : okPl p = true => ok_parts h)
 obtain ⟨ok, hok⟩ : ∃ b, okPl p = b := ⟨_, rfl⟩
 rw [hok] at T HOKP ⊢
 have HT := Lib.hid T
 obtain ⟨rr, hrr⟩ : ∃ l, (if ok = true then datesL p else []) = l := ⟨_, rfl⟩
 have HR := Lib.hid hrr
 rw [hrr]
 have HW1 := Lib.hid hW1
 clear T hp g1 b1 hW1 hok hrr
 cases ok with
 | false =>
  have HRR := Lib.hid (show rr = [] from HR.out.symm)
  have HER := Lib.hid (show err false 13 = 13 from rfl)
  rw [HER.out] at HT ⊢
  go_enter Tryz.func44, Tryz.ntmps44
  go_upto_region 1 with fail
  rw [HW1.out]
  go_wp2_with (go_at_call 65; (with_reducible refine (HT.out).mono ?_); rintro e V2 ⟨rfl, hg⟩; have G2 := Lib.hid hg; clear hg)
  go_ret2
  exact ⟨⟨none, 0, 0, rfl, by rw [HRR.out]; exact Arr.nil_⟩, G1.out.trans (G2.out.mono G1.out.size)⟩
 | true =>
  have HRR := Lib.hid (show rr = datesL p from HR.out.symm)
  have HER := Lib.hid (show err true 13 = 0 from rfl)
  rw [HER.out] at HT
  have HPP := Lib.hid (HOKP.out rfl)
  have HL1' := Lib.hid HPA.out.l1
  have HN1 := Lib.hid (show n1 ≤ 60 by rw [← HPA.out.l1.1]; exact HPP.out.2.2.2.2.2.1)
  have HN2 := Lib.hid (show n2 ≤ 60 by rw [← HPA.out.l2.1]; exact HPP.out.2.2.2.2.2.2.1)
  have HN3 := Lib.hid (show n3 ≤ 60 by rw [← HPA.out.l3.1]; exact HPP.out.2.2.2.2.2.2.2.1)
  go_enter Tryz.func44, Tryz.ntmps44
  go_upto_region 1 with fail
  rw [HW1.out]
  go_upto_region 4 with (go_at_call 65; (with_reducible refine (HT.out).mono ?_); rintro e W3 ⟨rfl, hg⟩; have G2 := Lib.hid hg; clear hg)
  have G3 := Lib.hid (G1.out.trans (G2.out.mono G1.out.size))
  have HB0 := Lib.hid (HB.out.ext G2.out)
  have HPA3 := Lib.hid (HPA.out.below G2.out)
  have HL1 := Lib.hid HPA3.out.l1
  have HL2 := Lib.hid HPA3.out.l2
  have HL3 := Lib.hid HPA3.out.l3
  have HPR1 := Lib.hid (show ([] : List Int).length ≤ 500 by decide)
  have HPR2 := Lib.hid (show (dates p.loads).length ≤ 500 by have h1 := dates_len p.loads; have l1 := HL1.out.1; have k1 := HN1.out; omega)
  have HPR3 := Lib.hid (show (dates p.loads ++ dates p.stands).length ≤ 500 by have h1 := dates_len p.loads; have h2 := dates_len p.stands; have l1 := HL1.out.1; have k1 := HN1.out; have l2 := HL2.out.1; have k2 := HN2.out; rw [List.length_append]; omega)
  have q1 := HB0.out.cell 2
  have hbl := HB0.out.lt
  clear p0 p1 p2 p3 p4 p5
  have AD0 := Lib.hid (show Ad W3.heap.size (W3.alloc (.cells #[.slice none 0 0] 39)) (.slice none 0 0) ([] ++ dates (p.loads.take 0)) from ⟨Blk.new _ _ _, OwnL.nil _ _⟩)
  go_wp2_with fail
  clear q1
  go_loopw [22] (fun i wr => ∃ (k : Nat) (v : Value), i = .int .i64 k ∧ k ≤ n1 ∧ Below W3.heap.size W3 wr ∧ Ad W3.heap.size wr v ([] ++ dates (p.loads.take k))) (fun i _ => n1 - (intOf i).toNat)
  case atStart => exact ⟨0, _, rfl, Nat.zero_le _, one_more _ _, AD0.out⟩
  case round =>
   obtain ⟨k, v, rfl, hk, hg, had⟩ := hrel
   have HG := Lib.hid hg
   have HA := Lib.hid had
   have hnb := HN1.out
   clear hg had
   by_cases hkn : k < n1
   ·obtain ⟨b0, o0, e0, -, -, hc⟩ := six_at (HL1.out.below HG.out) hkn
    obtain ⟨x0, x1, x2, x3, x4, x5⟩ := hc _ (Below.refl _ _)
    have HN := Lib.hid (dates_snoc (l := p.loads) (k := k) (by rw [HL1.out.1]; exact hkn))
    have HLL := Lib.hid (show ([] ++ dates (p.loads.take k)).length ≤ 1000 by
     have h1 := dates_len (p.loads.take k)
     have h2 := HPR1.out
     rw [List.length_take] at h1
     rw [List.length_append]
     omega)
    obtain ⟨x, hxg⟩ : ∃ x, p.loads.getD k z6 = x := ⟨_, rfl⟩
    rw [hxg] at x0 x1 x2 x3 x4 x5 HN
    subst e0
    obtain ⟨W5, hW5⟩ : ∃ W, wr.alloc (.cells #[.int .i64 x.a, .int .i64 x.b, .int .i64 x.c, .int .i64 x.d, .int .i64 x.e, .int .i64 x.f] 103) = W := ⟨_, rfl⟩
    have b5 : Blk W5 wr.heap.size 103 #[.int .i64 x.a, .int .i64 x.b, .int .i64 x.c, .int .i64 x.d, .int .i64 x.e, .int .i64 x.f] := by rw [← hW5]; exact Blk.new _ _ _
    have g5 : Below wr.heap.size wr W5 := by rw [← hW5]; exact one_more _ _
    have HA5 := Lib.hid (HA.out.ext g5)
    have HG5 := Lib.hid (HG.out.trans (g5.mono HG.out.size))
    have q4 := b5.cell 4
    have q5 := b5.cell 5
    have TA := Lib.hid (add_any W3.heap.size x.e x.f v _ W5 HA5.out HLL.out)
    have HW5 := Lib.hid hW5
    clear hc hxg b5 g5 hW5
    go_upto_region 9 with fail
    rw [HW5.out]
    go_wp2_with (go_at_call 110; (with_reducible refine (TA.out).mono ?_); rintro e V ⟨rfl, ⟨v6, had6⟩, hg6⟩; have HA6 := Lib.hid had6; have HG6 := Lib.hid (HG5.out.trans hg6); clear had6 hg6)
    go_roundw
    case rel => exact ⟨k + 1, v6, by go_num, by omega, HG6.out, by rw [HN.out, ← List.append_assoc]; exact HA6.out⟩
    case measure => simp [intOf]; omega
   ·obtain rfl : n1 = k := by omega
    have HE1 := Lib.hid (show Ad W3.heap.size wr v ([] ++ dates p.loads) by have := HA.out; rwa [List.take_of_length_le (by rw [HL1.out.1]; exact Nat.le_refl _)] at this)
    have HGE1 := HG
    obtain ⟨V1, hV⟩ : ∃ V, wr = V := ⟨_, rfl⟩
    obtain ⟨v1, hv⟩ : ∃ V, v = V := ⟨_, rfl⟩
    rw [hV] at HE1 HGE1 ⊢
    rw [hv] at HE1
    clear HG HA hnb hkn hk hV hv
    have q2 := (HB0.out.ext HGE1.out).cell 3
    go_wp2_with fail
    clear q2
    go_loopw [36] (fun i wr => ∃ (k : Nat) (v : Value), i = .int .i64 k ∧ k ≤ n2 ∧ Below W3.heap.size W3 wr ∧ Ad W3.heap.size wr v (dates p.loads ++ dates (p.stands.take k))) (fun i _ => n2 - (intOf i).toNat)
    case atStart => exact ⟨0, _, rfl, Nat.zero_le _, HGE1.out, by show Ad _ _ _ (_ ++ dates []); rw [show dates [] = [] from rfl, List.append_nil]; exact HE1.out⟩
    case round =>
     obtain ⟨k, v, rfl, hk, hg, had⟩ := hrel
     have HG := Lib.hid hg
     have HA := Lib.hid had
     have hnb := HN2.out
     clear hg had
     by_cases hkn : k < n2
     ·obtain ⟨b0, o0, e0, -, -, hc⟩ := six_at (HL2.out.below HG.out) hkn
      obtain ⟨x0, x1, x2, x3, x4, x5⟩ := hc _ (Below.refl _ _)
      have HN := Lib.hid (dates_snoc (l := p.stands) (k := k) (by rw [HL2.out.1]; exact hkn))
      have HLL := Lib.hid (show (dates p.loads ++ dates (p.stands.take k)).length ≤ 1000 by
       have h1 := dates_len (p.stands.take k)
       have h2 := HPR2.out
       rw [List.length_take] at h1
       rw [List.length_append]
       omega)
      obtain ⟨x, hxg⟩ : ∃ x, p.stands.getD k z6 = x := ⟨_, rfl⟩
      rw [hxg] at x0 x1 x2 x3 x4 x5 HN
      subst e0
      obtain ⟨W5, hW5⟩ : ∃ W, wr.alloc (.cells #[.int .i64 x.a, .int .i64 x.b, .int .i64 x.c, .int .i64 x.d, .int .i64 x.e, .int .i64 x.f] 105) = W := ⟨_, rfl⟩
      have b5 : Blk W5 wr.heap.size 105 #[.int .i64 x.a, .int .i64 x.b, .int .i64 x.c, .int .i64 x.d, .int .i64 x.e, .int .i64 x.f] := by rw [← hW5]; exact Blk.new _ _ _
      have g5 : Below wr.heap.size wr W5 := by rw [← hW5]; exact one_more _ _
      have HA5 := Lib.hid (HA.out.ext g5)
      have HG5 := Lib.hid (HG.out.trans (g5.mono HG.out.size))
      have q4 := b5.cell 4
      have q5 := b5.cell 5
      have TA := Lib.hid (add_any W3.heap.size x.e x.f v _ W5 HA5.out HLL.out)
      have HW5 := Lib.hid hW5
      clear hc hxg b5 g5 hW5
      go_upto_region 14 with fail
      rw [HW5.out]
      go_wp2_with (go_at_call 110; (with_reducible refine (TA.out).mono ?_); rintro e V ⟨rfl, ⟨v6, had6⟩, hg6⟩; have HA6 := Lib.hid had6; have HG6 := Lib.hid (HG5.out.trans hg6); clear had6 hg6)
      go_roundw
      case rel => exact ⟨k + 1, v6, by go_num, by omega, HG6.out, by rw [HN.out, ← List.append_assoc]; exact HA6.out⟩
      case measure => simp [intOf]; omega
     ·obtain rfl : n2 = k := by omega
      have HE2 := Lib.hid (show Ad W3.heap.size wr v (dates p.loads ++ dates p.stands) by have := HA.out; rwa [List.take_of_length_le (by rw [HL2.out.1]; exact Nat.le_refl _)] at this)
      have HGE2 := HG
      obtain ⟨V2, hV⟩ : ∃ V, wr = V := ⟨_, rfl⟩
      obtain ⟨v2, hv⟩ : ∃ V, v = V := ⟨_, rfl⟩
      rw [hV] at HE2 HGE2 ⊢
      rw [hv] at HE2
      clear HG HA hnb hkn hk hV hv
      have q3 := (HB0.out.ext HGE2.out).cell 4
      go_wp2_with fail
      clear q3
      go_loopw [50] (fun i wr => ∃ (k : Nat) (v : Value), i = .int .i64 k ∧ k ≤ n3 ∧ Below W3.heap.size W3 wr ∧ Ad W3.heap.size wr v (dates p.loads ++ dates p.stands ++ dates (p.spells.take k))) (fun i _ => n3 - (intOf i).toNat)
      case atStart => exact ⟨0, _, rfl, Nat.zero_le _, HGE2.out, by show Ad _ _ _ (_ ++ dates []); rw [show dates [] = [] from rfl, List.append_nil]; exact HE2.out⟩
      case round =>
       obtain ⟨k, v, rfl, hk, hg, had⟩ := hrel
       have HG := Lib.hid hg
       have HA := Lib.hid had
       have hnb := HN3.out
       clear hg had
       by_cases hkn : k < n3
       ·obtain ⟨b0, o0, e0, -, -, hc⟩ := six_at (HL3.out.below HG.out) hkn
        obtain ⟨x0, x1, x2, x3, x4, x5⟩ := hc _ (Below.refl _ _)
        have HN := Lib.hid (dates_snoc (l := p.spells) (k := k) (by rw [HL3.out.1]; exact hkn))
        have HLL := Lib.hid (show (dates p.loads ++ dates p.stands ++ dates (p.spells.take k)).length ≤ 1000 by
         have h1 := dates_len (p.spells.take k)
         have h2 := HPR3.out
         rw [List.length_take] at h1
         rw [List.length_append]
         omega)
        obtain ⟨x, hxg⟩ : ∃ x, p.spells.getD k z6 = x := ⟨_, rfl⟩
        rw [hxg] at x0 x1 x2 x3 x4 x5 HN
        subst e0
        obtain ⟨W5, hW5⟩ : ∃ W, wr.alloc (.cells #[.int .i64 x.a, .int .i64 x.b, .int .i64 x.c, .int .i64 x.d, .int .i64 x.e, .int .i64 x.f] 107) = W := ⟨_, rfl⟩
        have b5 : Blk W5 wr.heap.size 107 #[.int .i64 x.a, .int .i64 x.b, .int .i64 x.c, .int .i64 x.d, .int .i64 x.e, .int .i64 x.f] := by rw [← hW5]; exact Blk.new _ _ _
        have g5 : Below wr.heap.size wr W5 := by rw [← hW5]; exact one_more _ _
        have HA5 := Lib.hid (HA.out.ext g5)
        have HG5 := Lib.hid (HG.out.trans (g5.mono HG.out.size))
        have q4 := b5.cell 4
        have q5 := b5.cell 5
        have TA := Lib.hid (add_any W3.heap.size x.e x.f v _ W5 HA5.out HLL.out)
        have HW5 := Lib.hid hW5
        clear hc hxg b5 g5 hW5
        go_upto_region 19 with fail
        rw [HW5.out]
        go_wp2_with (go_at_call 110; (with_reducible refine (TA.out).mono ?_); rintro e V ⟨rfl, ⟨v6, had6⟩, hg6⟩; have HA6 := Lib.hid had6; have HG6 := Lib.hid (HG5.out.trans hg6); clear had6 hg6)
        go_roundw
        case rel => exact ⟨k + 1, v6, by go_num, by omega, HG6.out, by rw [HN.out, ← List.append_assoc]; exact HA6.out⟩
        case measure => simp [intOf]; omega
       ·obtain rfl : n3 = k := by omega
        have HE3 := Lib.hid (show Ad W3.heap.size wr v (dates p.loads ++ dates p.stands ++ dates p.spells) by have := HA.out; rwa [List.take_of_length_le (by rw [HL3.out.1]; exact Nat.le_refl _)] at this)
        have HGE3 := HG
        obtain ⟨V3, hV⟩ : ∃ V, wr = V := ⟨_, rfl⟩
        obtain ⟨v3, hv⟩ : ∃ V, v = V := ⟨_, rfl⟩
        rw [hV] at HE3 HGE3 ⊢
        rw [hv] at HE3
        clear HG HA hnb hkn hk hV hv
        have HDA := Lib.hid (show Ad W3.heap.size V3 v3 (datesAll p) from HE3.out)
        have HLA := Lib.hid (show (datesAll p).length ≤ 1000 by
         have h1 := dates_len p.loads
         have h2 := dates_len p.stands
         have h3 := dates_len p.spells
         have l1 := HL1.out.1
         have l2 := HL2.out.1
         have l3 := HL3.out.1
         have k1 := HN1.out
         have k2 := HN2.out
         have k3 := HN3.out
         unfold datesAll
         rw [List.length_append, List.length_append]
         omega)
        have HD := Lib.hid (show datesL p = Lib.compact (srt (datesAll p)) from rfl)
        obtain ⟨da, hda⟩ : ∃ d, datesAll p = d := ⟨_, rfl⟩
        rw [hda] at HDA HLA HD
        obtain ⟨A, c, hv, -, -, -, -⟩ := OwnL.arr kdI HDA.out.o
        obtain ⟨n, hn⟩ : ∃ n, da.length = n := ⟨_, rfl⟩
        rw [hn] at hv
        subst hv
        have hbw := HDA.out.b.lt
        have TS := Lib.hid (sort_any (W3.heap.size + 1) _ da V3 HDA.out.o (by have := HLA.out; omega) hbw)
        have q6 := HDA.out.b.cell 0
        have HBW := Lib.hid hbw
        clear hda hn hbw
        go_upto_region 22 with (go_at_call 111; (with_reducible refine (TS.out).mono ?_); rintro e V4 ⟨rfl, ho, hg⟩; have HO4 := Lib.hid ho; have HG4 := Lib.hid hg; clear ho hg)
        have HB4 := Lib.hid (show Blk V4 W3.heap.size 39 #[.slice A n c] from (HG4.out.block _ (Nat.lt_succ_self _)).trans HDA.out.b)
        have q7 := HB4.out.cell 0
        have TC := Lib.hid (compact_any (W3.heap.size + 1) _ (srt da) V4 HO4.out (by rw [show (srt da).length = da.length from List.length_mergeSort _]; have := HLA.out; omega) HB4.out.lt)
        clear q6
        go_wp2_with (go_at_call 112; (with_reducible refine (TC.out).mono ?_); rintro e V5 ⟨⟨u, rfl, ho, -⟩, hgr⟩; have HO5 := Lib.hid ho; have HG5 := Lib.hid hgr; clear ho hgr)
        obtain ⟨A5, c5, hv5, -, -, hi5, -⟩ := OwnL.arr kdI HO5.out
        subst hv5
        go_ret2
        exact ⟨⟨_, _, _, by rw [HER.out]; rfl, by rw [HRR.out, HD.out]; exact hi5⟩, (G3.out.trans ((HGE3.out.trans (HG4.out.mono (Nat.le_succ _))).mono G3.out.size)).grown HG5.out (by have := HB4.out.lt; have := G3.out.size; omega) (fun k e => by have := (own_lt HO4.out e).1; have := G3.out.size; omega)⟩
end Go.Proofs.YtkoejeghihcmlaaGreat

namespace Go.Proofs.YtkoejeghihcmlaaGreat
open Go.RowKit Go.Shelf
def zeroPl : Pl := ⟨0, 0, [], [], [], 0⟩
def wioE (p : Pl) (s : Int) : Int := if okPl p = true then err (hasI (srcsAll p) s) 3 else 13
def wioP (p : Pl) (s : Int) : Pl := if wioE p s = 0 then withoutP p s else zeroPl
/-- What Without returns. -/
def WioEnd (p : Pl) (s : Int) (w : World) (e : Ending) (w' : World) : Prop :=
 (∃ v1 v2 v3, e = .returned (.tuple #[.agg (plw (wioP p s) v1 v2 v3), .int .i64 (wioE p s)]) ∧ Cp w' w.heap.size (wioP p s) v1 v2 v3) ∧ Below w.heap.size w w'
theorem Blk.setAll6 {W : World} {b : Nat} {t : TypeId} {c0 c1 c2 c3 c4 c5 : Value} (h : Blk W b t #[c0, c1, c2, c3, c4, c5]) (a0 a1 a2 a3 a4 a5 : Value) :
  Blk ((((((W.setCell ⟨b, 0, none⟩ a0).setCell ⟨b, 1, none⟩ a1).setCell ⟨b, 2, none⟩ a2).setCell ⟨b, 3, none⟩ a3).setCell ⟨b, 4, none⟩ a4).setCell ⟨b, 5, none⟩ a5) b t #[a0, a1, a2, a3, a4, a5] :=
 (((((h.set_ 0 a0).set_ 1 a1).set_ 2 a2).set_ 3 a3).set_ 4 a4).set_ 5 a5
theorem below_setAll6 {B : Nat} {w W : World} {b : Nat} (h : Below B w W) (hb : B ≤ b) (a0 a1 a2 a3 a4 a5 : Value) :
  Below B w ((((((W.setCell ⟨b, 0, none⟩ a0).setCell ⟨b, 1, none⟩ a1).setCell ⟨b, 2, none⟩ a2).setCell ⟨b, 3, none⟩ a3).setCell ⟨b, 4, none⟩ a4).setCell ⟨b, 5, none⟩ a5) :=
 (((((h.setCell (p := ⟨b, 0, none⟩) hb a0).setCell (p := ⟨b, 1, none⟩) hb a1).setCell (p := ⟨b, 2, none⟩) hb a2).setCell (p := ⟨b, 3, none⟩) hb a3).setCell (p := ⟨b, 4, none⟩) hb a4).setCell (p := ⟨b, 5, none⟩) hb a5
theorem Cp.setAll6 {W : World} {B b : Nat} {p : Pl} {v1 v2 v3 : Value} (h : Cp W B p v1 v2 v3) (hb : b < B) (a0 a1 a2 a3 a4 a5 : Value) :
  Cp ((((((W.setCell ⟨b, 0, none⟩ a0).setCell ⟨b, 1, none⟩ a1).setCell ⟨b, 2, none⟩ a2).setCell ⟨b, 3, none⟩ a3).setCell ⟨b, 4, none⟩ a4).setCell ⟨b, 5, none⟩ a5) B p v1 v2 v3 :=
 (((((h.far (a := ⟨b, 0, none⟩) hb a0).far (a := ⟨b, 1, none⟩) hb a1).far (a := ⟨b, 2, none⟩) hb a2).far (a := ⟨b, 3, none⟩) hb a3).far (a := ⟨b, 4, none⟩) hb a4).far (a := ⟨b, 5, none⟩) hb a5
theorem Cp.nil (W : World) (B : Nat) : Cp W B zeroPl (.slice none 0 0) (.slice none 0 0) (.slice none 0 0) := ⟨OwnL.nil _ _, OwnL.nil _ _, OwnL.nil _ _, fun k e => (by cases e), fun k e => (by cases e), fun k e => (by cases e)⟩
set_option maxRecDepth 100000 in
set_option maxHeartbeats 8000000 in
theorem wio_any (p : Pl) (A1 A2 A3 : Option Addr) (n1 c1 n2 c2 n3 c3 : Nat) (source : Int) (w : World) (hp : Pa w p A1 A2 A3 n1 c1 n2 c2 n3 c3) :
  Calls Tryz.prog 46 #[plv p A1 A2 A3 n1 c1 n2 c2 n3 c3, .int .i64 source] w (WioEnd p source w) := by
 obtain ⟨W1, hW1⟩ : ∃ W1, (w.alloc (.cells (plb p A1 A2 A3 n1 c1 n2 c2 n3 c3) 38)).alloc (.cells #[.int .i64 0, .int .i64 0, .slice none 0 0, .slice none 0 0, .slice none 0 0, .int .i64 0] 38) = W1 := ⟨_, rfl⟩
 have g1 : Below w.heap.size w W1 := by rw [← hW1]; exact two_more _ _ _
 have b1 : Blk W1 w.heap.size 38 (plb p A1 A2 A3 n1 c1 n2 c2 n3 c3) := by rw [← hW1]; exact (Blk.new _ _ _).alloc _
 have b2 : Blk W1 (w.heap.size + 1) 38 #[.int .i64 0, .int .i64 0, .slice none 0 0, .slice none 0 0, .slice none 0 0, .int .i64 0] := by
  rw [← hW1]; have := Blk.new (w.alloc (.cells (plb p A1 A2 A3 n1 c1 n2 c2 n3 c3) 38)) 38 #[.int .i64 0, .int .i64 0, .slice none 0 0, .slice none 0 0, .slice none 0 0, .int .i64 0]; rwa [World.size_alloc] at this
 have p0 := b1.cell 0
 have p1 := b1.cell 1
 have p2 := b1.cell 2
 have p3 := b1.cell 3
 have p4 := b1.cell 4
 have p5 := b1.cell 5
 have T := check_any p A1 A2 A3 n1 c1 n2 c2 n3 c3 W1 (hp.below g1)
 have HPA := Lib.hid (hp.below g1)
 have HB := Lib.hid b1
 have HB2 := Lib.hid b2
 have G1 := Lib.hid g1
 have HE := Lib.hid (show wioE p source = if okPl p = true then err (hasI (srcsAll p) source) 3 else 13 from rfl)
 have HWP := Lib.hid (show wioP p source = if wioE p source = 0 then withoutP p source else zeroPl from rfl)
 have HPP := Lib.hid (fun h : okPl p = true => ok_parts h)
 have T2 := Lib.hid (fun (h : okPl p = true) W (g : Below W1.heap.size W1 W) => sources_any p A1 A2 A3 n1 c1 n2 c2 n3 c3 W (HPA.out.below g) h)
 obtain ⟨ok, hok⟩ : ∃ b, okPl p = b := ⟨_, rfl⟩
 rw [hok] at T HE HPP T2
 have HT := Lib.hid T
 have HW1 := Lib.hid hW1
 clear T hp g1 b1 b2 hW1 hok
 have hbl := HB2.out.lt
 have hlt1 : w.heap.size ≤ w.heap.size + 1 := Nat.le_succ _
 have HLT1 := Lib.hid hlt1
 clear hlt1
 unfold WioEnd
 cases ok with
 | false =>
  have HE1 := Lib.hid (show wioE p source = 13 from HE.out)
  have HP1 := Lib.hid (show wioP p source = zeroPl by rw [HWP.out, HE1.out]; rfl)
  have HER := Lib.hid (show err false 13 = 13 from rfl)
  rw [HER.out] at HT
  rw [HE1.out, HP1.out]
  go_enter Tryz.func46, Tryz.ntmps46
  go_upto_region 1 with fail
  rw [HW1.out]
  go_upto_region 3 with (go_at_call 65; (with_reducible refine (HT.out).mono ?_); rintro e V2 ⟨rfl, hg⟩; have G2 := Lib.hid hg; clear hg)
  have HB3 := Lib.hid (HB2.out.ext G2.out)
  have m0 := HB3.out.cell 0
  have z0 := HB3.out.frozen 0
  have m1 := HB3.out.cell 1
  have z1 := HB3.out.frozen 1
  have m2 := HB3.out.cell 2
  have z2 := HB3.out.frozen 2
  have m3 := HB3.out.cell 3
  have z3 := HB3.out.frozen 3
  have m4 := HB3.out.cell 4
  have z4 := HB3.out.frozen 4
  have m5 := HB3.out.cell 5
  have z5 := HB3.out.frozen 5
  go_wp2_with fail
  have hb9 := HB3.out.setAll6 (.int .i64 0) (.int .i64 0) (.slice none 0 0) (.slice none 0 0) (.slice none 0 0) (.int .i64 0)
  have HG9 := Lib.hid (below_setAll6 (G1.out.trans (G2.out.mono G1.out.size)) HLT1.out (.int .i64 0) (.int .i64 0) (.slice none 0 0) (.slice none 0 0) (.slice none 0 0) (.int .i64 0))
  have t0 := hb9.cell 0
  have t1 := hb9.cell 1
  have t2 := hb9.cell 2
  have t3 := hb9.cell 3
  have t4 := hb9.cell 4
  have t5 := hb9.cell 5
  clear hb9
  refine bodyPost_ret (v := .tuple #[.agg (plw zeroPl (.slice none 0 0) (.slice none 0 0) (.slice none 0 0)), .int .i64 13]) ?_ rfl ⟨⟨_, _, _, rfl, Cp.nil _ _⟩, HG9.out⟩
  simp [results, Tryz.results46, go_sem, t0, t1, t2, t3, t4, t5, zeroPl]
 | true =>
  have HPO := Lib.hid (HPP.out rfl)
  have HN := Lib.hid (show n1 ≤ 1000 ∧ n2 ≤ 1000 ∧ n3 ≤ 1000 by
   have h1 := HPO.out.2.2.2.2.2.1
   have h2 := HPO.out.2.2.2.2.2.2.1
   have h3 := HPO.out.2.2.2.2.2.2.2.1
   have k1 := HPA.out.l1.1
   have k2 := HPA.out.l2.1
   have k3 := HPA.out.l3.1
   omega)
  have HSL := Lib.hid (show (srcsAll p).length ≤ 1000 by
   have h1 := HPO.out.2.2.2.2.2.1
   have h2 := HPO.out.2.2.2.2.2.2.1
   have h3 := HPO.out.2.2.2.2.2.2.2.1
   unfold srcsAll srt srcs
   rw [List.length_mergeSort, List.length_append, List.length_append, List.length_map, List.length_map, List.length_map]
   omega)
  have T3 := Lib.hid (T2.out rfl)
  have HE0 := Lib.hid (show wioE p source = err (hasI (srcsAll p) source) 3 from HE.out)
  obtain ⟨sl, hsl⟩ : ∃ l, srcsAll p = l := ⟨_, rfl⟩
  rw [hsl] at HE0 T3 HSL
  obtain ⟨hs, hhs⟩ : ∃ b, hasI sl source = b := ⟨_, rfl⟩
  rw [hhs] at HE0
  have HHS := Lib.hid hhs
  have HER := Lib.hid (show err true 13 = 0 from rfl)
  rw [HER.out] at HT
  clear hsl hhs
  cases hs with
  | false =>
   have HE1 := Lib.hid (show wioE p source = 3 from HE0.out)
   have HP1 := Lib.hid (show wioP p source = zeroPl by rw [HWP.out, HE1.out]; rfl)
   rw [HE1.out, HP1.out]
   go_enter Tryz.func46, Tryz.ntmps46
   go_upto_region 1 with fail
   rw [HW1.out]
   go_upto_region 4 with (go_at_call 65; (with_reducible refine (HT.out).mono ?_); rintro e V2 ⟨rfl, hg⟩; have G2 := Lib.hid hg; clear hg)
   have y0 := (HB.out.ext G2.out).cell 0
   have y1 := (HB.out.ext G2.out).cell 1
   have y2 := (HB.out.ext G2.out).cell 2
   have y3 := (HB.out.ext G2.out).cell 3
   have y4 := (HB.out.ext G2.out).cell 4
   have y5 := (HB.out.ext G2.out).cell 5
   clear p0 p1 p2 p3 p4 p5
   go_upto_region 5 with (first
    | (go_at_call 113; (with_reducible refine (T3.out _ G2.out).mono ?_); rintro e V3 ⟨⟨v, rfl, ho⟩, hg⟩; obtain ⟨D, c, hv, -, -, hi, -⟩ := OwnL.arr kdI ho; subst hv; have HI := Lib.hid hi; have G3 := Lib.hid (G2.out.trans (hg.mono G2.out.size)); clear ho hg hi)
    | (go_at_call 109; (with_reducible refine (has_any _ _ _ _ source _ HI.out (by have := HSL.out; omega)).mono ?_); rintro e V4 ⟨rfl, rfl⟩; rw [HHS.out]))
   have HB3 := Lib.hid (HB2.out.ext G3.out)
   clear y0 y1 y2 y3 y4 y5
   have m0 := HB3.out.cell 0
   have z0 := HB3.out.frozen 0
   have m1 := HB3.out.cell 1
   have z1 := HB3.out.frozen 1
   have m2 := HB3.out.cell 2
   have z2 := HB3.out.frozen 2
   have m3 := HB3.out.cell 3
   have z3 := HB3.out.frozen 3
   have m4 := HB3.out.cell 4
   have z4 := HB3.out.frozen 4
   have m5 := HB3.out.cell 5
   have z5 := HB3.out.frozen 5
   go_wp2_with fail
   have hb9 := HB3.out.setAll6 (.int .i64 0) (.int .i64 0) (.slice none 0 0) (.slice none 0 0) (.slice none 0 0) (.int .i64 0)
   have HG9 := Lib.hid (below_setAll6 (G1.out.trans (G3.out.mono G1.out.size)) HLT1.out (.int .i64 0) (.int .i64 0) (.slice none 0 0) (.slice none 0 0) (.slice none 0 0) (.int .i64 0))
   have t0 := hb9.cell 0
   have t1 := hb9.cell 1
   have t2 := hb9.cell 2
   have t3 := hb9.cell 3
   have t4 := hb9.cell 4
   have t5 := hb9.cell 5
   clear hb9
   refine bodyPost_ret (v := .tuple #[.agg (plw zeroPl (.slice none 0 0) (.slice none 0 0) (.slice none 0 0)), .int .i64 3]) ?_ rfl ⟨⟨_, _, _, rfl, Cp.nil _ _⟩, HG9.out⟩
   simp [results, Tryz.results46, go_sem, t0, t1, t2, t3, t4, t5, zeroPl]
  | true =>
   have HE1 := Lib.hid (show wioE p source = 0 from HE0.out)
   have HP1 := Lib.hid (show wioP p source = withoutP p source by rw [HWP.out, HE1.out]; rfl)
   rw [HE1.out, HP1.out]
   go_enter Tryz.func46, Tryz.ntmps46
   go_upto_region 1 with fail
   rw [HW1.out]
   go_upto_region 4 with (go_at_call 65; (with_reducible refine (HT.out).mono ?_); rintro e V2 ⟨rfl, hg⟩; have G2 := Lib.hid hg; clear hg)
   have y0 := (HB.out.ext G2.out).cell 0
   have y1 := (HB.out.ext G2.out).cell 1
   have y2 := (HB.out.ext G2.out).cell 2
   have y3 := (HB.out.ext G2.out).cell 3
   have y4 := (HB.out.ext G2.out).cell 4
   have y5 := (HB.out.ext G2.out).cell 5
   clear p0 p1 p2 p3 p4 p5
   go_upto_region 6 with (first
    | (go_at_call 113; (with_reducible refine (T3.out _ G2.out).mono ?_); rintro e V3 ⟨⟨v, rfl, ho⟩, hg⟩; obtain ⟨D, c, hv, -, -, hi, -⟩ := OwnL.arr kdI ho; subst hv; have HI := Lib.hid hi; have G3 := Lib.hid (G2.out.trans (hg.mono G2.out.size)); clear ho hg hi)
    | (go_at_call 109; (with_reducible refine (has_any _ _ _ _ source _ HI.out (by have := HSL.out; omega)).mono ?_); rintro e V4 ⟨rfl, rfl⟩; rw [HHS.out]))
   clear y0 y1 y2 y3 y4 y5
   have y0 := (HB.out.ext G3.out).cell 0
   have y1 := (HB.out.ext G3.out).cell 1
   have y2 := (HB.out.ext G3.out).cell 2
   have y3 := (HB.out.ext G3.out).cell 3
   have y4 := (HB.out.ext G3.out).cell 4
   have y5 := (HB.out.ext G3.out).cell 5
   have TW := Lib.hid (without_any p A1 A2 A3 n1 c1 n2 c2 n3 c3 source V3 (HPA.out.below G3.out) HN.out)
   have HZ3 := Lib.hid (show w.heap.size + 1 < V3.heap.size by have := HB2.out.lt; have := G3.out.size; omega)
   go_wp2_with (go_at_call 114; (with_reducible refine (TW.out).mono ?_); rintro e V5 ⟨⟨v1, v2, v3, rfl, hc⟩, hg⟩; obtain ⟨R1, f1, R2, f2, R3, f3, e1, e2, e3, -, -, -, -⟩ := Cp.parts hc; obtain ⟨r1, hr1⟩ : ∃ n, (withoutP p source).loads.length = n := ⟨_, rfl⟩; obtain ⟨r2, hr2⟩ : ∃ n, (withoutP p source).stands.length = n := ⟨_, rfl⟩; obtain ⟨r3, hr3⟩ : ∃ n, (withoutP p source).spells.length = n := ⟨_, rfl⟩; rw [hr1] at e1; rw [hr2] at e2; rw [hr3] at e3; subst e1 e2 e3; have HC5 := Lib.hid hc; have G5 := Lib.hid (G3.out.trans (hg.mono G3.out.size)); have hb3 := HB2.out.ext G5.out; have m0 := hb3.cell 0; have z0 := hb3.frozen 0; have m1 := hb3.cell 1; have z1 := hb3.frozen 1; have m2 := hb3.cell 2; have z2 := hb3.frozen 2; have m3 := hb3.cell 3; have z3 := hb3.frozen 3; have m4 := hb3.cell 4; have z4 := hb3.frozen 4; have m5 := hb3.cell 5; have z5 := hb3.frozen 5; have HB3 := Lib.hid hb3; clear hc hg hr1 hr2 hr3 hb3)
   have hb9 := HB3.out.setAll6 (.int .i64 p.lo) (.int .i64 p.hi) (.slice R1 r1 f1) (.slice R2 r2 f2) (.slice R3 r3 f3) (.int .i64 p.geese)
   have HC9 := Lib.hid (HC5.out.setAll6 HZ3.out (.int .i64 p.lo) (.int .i64 p.hi) (.slice R1 r1 f1) (.slice R2 r2 f2) (.slice R3 r3 f3) (.int .i64 p.geese))
   have HG9 := Lib.hid (below_setAll6 (G1.out.trans (G5.out.mono G1.out.size)) HLT1.out (.int .i64 p.lo) (.int .i64 p.hi) (.slice R1 r1 f1) (.slice R2 r2 f2) (.slice R3 r3 f3) (.int .i64 p.geese))
   have t0 := hb9.cell 0
   have t1 := hb9.cell 1
   have t2 := hb9.cell 2
   have t3 := hb9.cell 3
   have t4 := hb9.cell 4
   have t5 := hb9.cell 5
   clear hb9
   refine bodyPost_ret (v := .tuple #[.agg (plw p (.slice R1 r1 f1) (.slice R2 r2 f2) (.slice R3 r3 f3)), .int .i64 0]) ?_ rfl ⟨⟨_, _, _, rfl, HC9.out.mono (by have := HZ3.out; omega)⟩, HG9.out⟩
   simp [results, Tryz.results46, go_sem, t0, t1, t2, t3, t4, t5]
end Go.Proofs.YtkoejeghihcmlaaGreat

namespace Go.Proofs.YtkoejeghihcmlaaGreat
open Go.RowKit Go.Shelf
theorem compact_sub (l : List Int) : (Lib.compact l).Sublist l := by
 unfold Lib.compact Lib.compactUpTo
 have h : ((List.range l.length).filter (Lib.keeps l.toArray)).Sublist (List.range l.length) := List.filter_sublist
 have h2 := h.map (fun i => l.toArray[i]!)
 have e : (List.range l.length).map (fun i => l.toArray[i]!) = l := by
  have := Lib.range_map_get l.toArray
  simpa using this
 rw [e] at h2
 exact h2
theorem toArray_get {l : List Int} {i : Nat} (hi : i < l.length) : l.toArray[i]! = l[i] := by
 rw [getElem!_pos l.toArray i (by simpa using hi)]
 simp
theorem mem_compactUp {l : List Int} {x : Int} : ∀ m, m ≤ l.length → x ∈ l.take m → x ∈ Lib.compactUpTo l.toArray m
 | 0, _, h => by rw [List.take_zero] at h; cases h
 | m + 1, hm, h => by
  rw [Lib.compactUpTo_succ]
  rw [List.take_succ_eq_append_getElem (show m < l.length by omega), List.mem_append] at h
  rcases h with h | h
  ·exact List.mem_append_left _ (mem_compactUp m (by omega) h)
  ·rw [List.mem_singleton] at h
   cases hk : Lib.keeps l.toArray m with
   | true =>
    rw [if_pos rfl, toArray_get (show m < l.length by omega), ← h]
    exact List.mem_append_right _ (List.mem_singleton.2 rfl)
   | false =>
    have hk' : ¬ (m = 0 ∨ l.toArray[m]! ≠ l.toArray[m - 1]!) := by
     unfold Lib.keeps at hk
     exact of_decide_eq_false hk
    have hm0 : m ≠ 0 := fun e => hk' (.inl e)
    have he : l.toArray[m]! = l.toArray[m - 1]! := Classical.not_not.1 fun e => hk' (.inr e)
    rw [toArray_get (show m < l.length by omega), toArray_get (show m - 1 < l.length by omega)] at he
    refine List.mem_append_left _ (mem_compactUp m (by omega) ?_)
    rw [h, he]
    rw [List.mem_take_iff_getElem]
    exact ⟨m - 1, by omega, rfl⟩
theorem mem_compact {l : List Int} {x : Int} : x ∈ Lib.compact l ↔ x ∈ l :=
 ⟨fun h => (compact_sub l).subset h, fun h => mem_compactUp l.length (Nat.le_refl _) (by rw [List.take_of_length_le (Nat.le_refl _)]; exact h)⟩
theorem mem_datesL {p : Pl} {d : Int} : d ∈ datesL p ↔ d ∈ datesAll p := by unfold datesL; rw [mem_compact, mem_srt]
/-- Two plots, on two days, of which the same loads and stands count, and spells alike. -/
structure Alike (p q : Pl) (k k' : Int) : Prop where
 lo : q.lo = p.lo
 hi : q.hi = p.hi
 geese : q.geese = p.geese
 loads : q.loads.filter (fun x => cnt x k') = p.loads.filter (fun x => cnt x k)
 stands : q.stands.filter (fun x => cnt x k') = p.stands.filter (fun x => cnt x k)
 spells : q.spells.filter (fun x => cnt x k') = p.spells.filter (fun x => cnt x k)
theorem standsF_filter (known : Int) (m : Int → Bool) (ls : List Six) : ∀ (l : List Six) (st : List Rg), standsF known m ls l st = (l.filter fun x => cnt x known).foldl (fun st s => if m s.a then nar st (after ls s.b) ⟨s.c, s.d⟩ else st) st
 | [], st => rfl
 | x :: l, st => by
  have e : standsF known m ls (x :: l) st = standsF known m ls l (if (cnt x known && m x.a) = true then nar st (after ls x.b) ⟨x.c, x.d⟩ else st) := rfl
  rw [e, standsF_filter known m ls l, List.filter_cons]
  cases hc : cnt x known with
  | false => simp
  | true => simp
theorem any_filter_cnt (known hour : Int) (l : List Six) : l.any (inSpell known hour) = (l.filter fun x => cnt x known).any fun s => rng hour s.c s.d := by
 rw [List.any_filter]
 rfl
theorem Alike.look {p q : Pl} {k k' : Int} (h : Alike p q k k') : lookL q k' every = lookL p k every ∧ lookS q k' every = lookS p k every := by
 have e1 : lookL q k' every = lookL p k every := by
  rw [cart_every, cart_every]
  unfold cartL
  rw [h.loads]
 refine ⟨e1, ?_⟩
 unfold lookS
 rw [e1, standsF_filter, standsF_filter, h.stands]
 unfold stood0
 rw [h.lo, h.hi]
theorem Alike.openB_ {p q : Pl} {k k' : Int} (h : Alike p q k k') (hour f : Int) : openB q k' hour f = openB p k hour f := by
 have : shutB q k' hour = shutB p k hour := by unfold shutB; rw [any_filter_cnt, any_filter_cnt, h.spells]
 unfold Go.Proofs.YtkoejeghihcmlaaGreat.openB
 rw [this, h.geese]
theorem Alike.same {p q : Pl} {k k' hour : Int} (h : Alike p q k k') (hp : okPl p = true) (hq : okPl q = true) (h0 : 0 ≤ hour ∧ hour ≤ 99999) (hk : 0 ≤ k ∧ k ≤ 4166) (hk' : 0 ≤ k' ∧ k' ≤ 4166) : askE q [hour] k' = askE p [hour] k ∧ openA q hour k' = openA p hour k := by
 have l := h.look
 have f1 : firstE p [hour] [k] = 0 := first_of hp (fun x hx => by rw [List.mem_singleton.1 hx]; exact h0) hk.1 hk.2
 have f2 : firstE q [hour] [k'] = 0 := first_of hq (fun x hx => by rw [List.mem_singleton.1 hx]; exact h0) hk'.1 hk'.2
 have e : askE q [hour] k' = askE p [hour] k := by
  unfold askE
  rw [if_pos f1, if_pos f2, l.2]
 refine ⟨e, ?_⟩
 have hf : fromsP q k' = fromsP p k := by unfold fromsP; rw [l.1, l.2]
 have ho : openB q k' hour = openB p k hour := funext fun f => h.openB_ hour f
 unfold openA
 rw [e, hf, ho]
theorem hour_in {p : Pl} {i : Nat} (hi : i < p.loads.length) : (p.loads.getD i z6).b ∈ hoursL p := by
 unfold hoursL
 rw [mem_compact, mem_srt]
 unfold colL
 exact List.mem_map.2 ⟨_, List.mem_filter.2 ⟨getD_mem hi, rfl⟩, rfl⟩
end Go.Proofs.YtkoejeghihcmlaaGreat

namespace Go.Proofs.YtkoejeghihcmlaaGreat
open Go.RowKit Go.Shelf
/-- The plot at block b, whose rows are one's own, behind b. -/
structure Nw (w0 : World) (b : Nat) (lo hi geese : Int) (W : World) (v1 v2 v3 : Value) (l1 l2 l3 : List Six) : Prop where
 g : Below b w0 W
 p : Blk W b 38 #[.int .i64 lo, .int .i64 hi, v1, v2, v3, .int .i64 geese]
 o1 : OwnL scells 6 103 W (b + 1) v1 l1
 o2 : OwnL scells 6 105 W (b + 1) v2 l2
 o3 : OwnL scells 6 107 W (b + 1) v3 l3
section
variable {w0 W W2 : World} {b : Nat} {lo hi geese : Int} {v1 v2 v3 v' : Value} {l1 l2 l3 l' : List Six}
theorem Nw.new (w0 : World) (lo hi geese : Int) : Nw w0 w0.heap.size lo hi geese (w0.alloc (.cells #[.int .i64 lo, .int .i64 hi, .slice none 0 0, .slice none 0 0, .slice none 0 0, .int .i64 geese] 38)) (.slice none 0 0) (.slice none 0 0) (.slice none 0 0) [] [] [] :=
 ⟨one_more _ _, Blk.new _ _ _, OwnL.nil _ _, OwnL.nil _ _, OwnL.nil _ _⟩
theorem Nw.ext (h : Nw w0 b lo hi geese W v1 v2 v3 l1 l2 l3) (k : Below W.heap.size W W2) : Nw w0 b lo hi geese W2 v1 v2 v3 l1 l2 l3 :=
 ⟨h.g.trans (k.mono (Nat.le_of_lt h.p.lt)), h.p.ext k, h.o1.ext k, h.o2.ext k, h.o3.ext k⟩
theorem own_apart {e e' : TypeId} (he : e ≠ e') {v v' : Value} {xs ys : List Six} {base : Nat} (h : OwnL scells 6 e W base v xs) (h' : OwnL scells 6 e' W base v' ys) : ∀ k, v.ownBlock = some k → v'.ownBlock ≠ some k := fun k e1 e2 => by
 obtain ⟨-, -, cur, hc⟩ := own_cells h e1
 obtain ⟨-, -, cur', hc'⟩ := own_cells h' e2
 rw [hc] at hc'
 simp only [Option.some.injEq, Obj.cells.injEq] at hc'
 exact he hc'.2.1
theorem Nw.put1 (h : Nw w0 b lo hi geese W v1 v2 v3 l1 l2 l3) (hg : W.grownBy W2 v1.ownBlock) (ho : OwnL scells 6 103 W2 (b + 1) v' l') : Nw w0 b lo hi geese (W2.setCell ⟨b, 2, none⟩ v') v' v2 v3 l' l2 l3 :=
 ⟨(h.g.grown hg (Nat.le_of_lt h.p.lt) (fun k e => by have := (own_lt h.o1 e).1; omega)).setCell (p := ⟨b, 2, none⟩) (Nat.le_refl _) _,
  (h.p.grown hg (fun e => by have := (own_lt h.o1 e).1; omega)).set_ 2 v', ho.far (p := ⟨b, 2, none⟩) (Nat.lt_succ_self b) _,
  (h.o2.grown hg (fun k e e2 => own_apart (by decide) h.o1 h.o2 k e2 e)).far (p := ⟨b, 2, none⟩) (Nat.lt_succ_self b) _,
  (h.o3.grown hg (fun k e e2 => own_apart (by decide) h.o1 h.o3 k e2 e)).far (p := ⟨b, 2, none⟩) (Nat.lt_succ_self b) _⟩
theorem Nw.put2 (h : Nw w0 b lo hi geese W v1 v2 v3 l1 l2 l3) (hg : W.grownBy W2 v2.ownBlock) (ho : OwnL scells 6 105 W2 (b + 1) v' l') : Nw w0 b lo hi geese (W2.setCell ⟨b, 3, none⟩ v') v1 v' v3 l1 l' l3 :=
 ⟨(h.g.grown hg (Nat.le_of_lt h.p.lt) (fun k e => by have := (own_lt h.o2 e).1; omega)).setCell (p := ⟨b, 3, none⟩) (Nat.le_refl _) _,
  (h.p.grown hg (fun e => by have := (own_lt h.o2 e).1; omega)).set_ 3 v',
  (h.o1.grown hg (fun k e e2 => own_apart (by decide) h.o2 h.o1 k e2 e)).far (p := ⟨b, 3, none⟩) (Nat.lt_succ_self b) _, ho.far (p := ⟨b, 3, none⟩) (Nat.lt_succ_self b) _,
  (h.o3.grown hg (fun k e e2 => own_apart (by decide) h.o2 h.o3 k e2 e)).far (p := ⟨b, 3, none⟩) (Nat.lt_succ_self b) _⟩
theorem Nw.put3 (h : Nw w0 b lo hi geese W v1 v2 v3 l1 l2 l3) (hg : W.grownBy W2 v3.ownBlock) (ho : OwnL scells 6 107 W2 (b + 1) v' l') : Nw w0 b lo hi geese (W2.setCell ⟨b, 4, none⟩ v') v1 v2 v' l1 l2 l' :=
 ⟨(h.g.grown hg (Nat.le_of_lt h.p.lt) (fun k e => by have := (own_lt h.o3 e).1; omega)).setCell (p := ⟨b, 4, none⟩) (Nat.le_refl _) _,
  (h.p.grown hg (fun e => by have := (own_lt h.o3 e).1; omega)).set_ 4 v',
  (h.o1.grown hg (fun k e e2 => own_apart (by decide) h.o3 h.o1 k e2 e)).far (p := ⟨b, 4, none⟩) (Nat.lt_succ_self b) _,
  (h.o2.grown hg (fun k e e2 => own_apart (by decide) h.o3 h.o2 k e2 e)).far (p := ⟨b, 4, none⟩) (Nat.lt_succ_self b) _, ho.far (p := ⟨b, 4, none⟩) (Nat.lt_succ_self b) _⟩
theorem Nw.drew_ (h : Nw w0 b lo hi geese W v1 v2 v3 l1 l2 l3) : Nw w0 b lo hi geese W.drew v1 v2 v3 l1 l2 l3 := h.ext (Below.refl _ _).drew
/-- As a plot. -/
theorem Nw.plot {p : Pl} (h : Nw w0 b p.lo p.hi p.geese W v1 v2 v3 p.loads p.stands p.spells) : ∃ D1 m1 d1 D2 m2 d2 D3 m3 d3, Blk W b 38 (plb p D1 D2 D3 m1 d1 m2 d2 m3 d3) ∧ Pa W p D1 D2 D3 m1 d1 m2 d2 m3 d3 := by
 obtain ⟨D1, d1, e1, k1, j1, i1, -⟩ := OwnL.arr kdL h.o1
 obtain ⟨D2, d2, e2, k2, j2, i2, -⟩ := OwnL.arr kdS h.o2
 obtain ⟨D3, d3, e3, k3, j3, i3, -⟩ := OwnL.arr kdP h.o3
 unfold maxLen at j1 j2 j3
 have hp := h.p
 rw [e1, e2, e3] at hp
 exact ⟨D1, _, d1, D2, _, d2, D3, _, d3, hp, ⟨i1, i2, i3, ⟨k1, Nat.le_trans k1 j1⟩, ⟨k2, Nat.le_trans k2 j2⟩, ⟨k3, Nat.le_trans k3 j3⟩⟩⟩
end
theorem Cp.slices {W : World} {B : Nat} {p : Pl} {v1 v2 v3 : Value} (h : Cp W B p v1 v2 v3) : ∃ D1 m1 d1 D2 m2 d2 D3 m3 d3, v1 = .slice D1 m1 d1 ∧ v2 = .slice D2 m2 d2 ∧ v3 = .slice D3 m3 d3 ∧ Pa W p D1 D2 D3 m1 d1 m2 d2 m3 d3 := by
 obtain ⟨D1, d1, e1, k1, j1, i1, -⟩ := OwnL.arr kdL h.l1
 obtain ⟨D2, d2, e2, k2, j2, i2, -⟩ := OwnL.arr kdS h.l2
 obtain ⟨D3, d3, e3, k3, j3, i3, -⟩ := OwnL.arr kdP h.l3
 unfold maxLen at j1 j2 j3
 exact ⟨D1, _, d1, D2, _, d2, D3, _, d3, e1, e2, e3, ⟨i1, i2, i3, ⟨k1, Nat.le_trans k1 j1⟩, ⟨k2, Nat.le_trans k2 j2⟩, ⟨k3, Nat.le_trans k3 j3⟩⟩⟩
set_option maxRecDepth 100000 in
theorem neqRg (x y : Rg) (w : World) : (binOp .neq 33 (.agg #[.int .i64 x.lo, .int .i64 x.hi]) (.agg #[.int .i64 y.lo, .int .i64 y.hi])).run Tryz.prog w = .ok (.bool (!decide (x = y))) w := by
 obtain ⟨a, b⟩ := x
 obtain ⟨a', b'⟩ := y
 by_cases h1 : a = a' <;> by_cases h2 : b = b' <;> simp [go_sem, h1, h2]
theorem six_one (W : World) (t : TypeId) (x : Six) : Arr scells 6 (W.alloc (.cells #[.int .i64 x.a, .int .i64 x.b, .int .i64 x.c, .int .i64 x.d, .int .i64 x.e, .int .i64 x.f] t)) (some ⟨W.heap.size, 0, none⟩) 1 [x] := Blk.arr1 (Blk.new W t _)
end Go.Proofs.YtkoejeghihcmlaaGreat

namespace Go.Proofs.YtkoejeghihcmlaaGreat
open Go.ChangeShapes Go.WideShapes Go.ChangeAt Go.RowKit
theorem cells33 : Tryz.prog.cellsOf 33 = 2 := by kernel_rfl
theorem cells103 : Tryz.prog.cellsOf 103 = 6 := by kernel_rfl
theorem cells105 : Tryz.prog.cellsOf 105 = 6 := by kernel_rfl
theorem cells107 : Tryz.prog.cellsOf 107 = 6 := by kernel_rfl
theorem cells34 : Tryz.prog.cellsOf 34 = 1 := by kernel_rfl
theorem cells35 : Tryz.prog.cellsOf 35 = 1 := by kernel_rfl
theorem cells36 : Tryz.prog.cellsOf 36 = 1 := by kernel_rfl
theorem cells38 : Tryz.prog.cellsOf 38 = 6 := by kernel_rfl
section
variable {H : Type} {enc : TypeId × Value → H} {w : World} {base : Nat} {sp : Nat → Bool} {held : Bool} {fuel : Nat} {x : DataW H × List MemPlace}
set_option maxRecDepth 100000 in
theorem openRg {cs : List Value} (h : DataW.trod enc Tryz.prog w base sp held fuel 33 cs = some x) : ∃ a b : Int, cs = [.int .i64 a, .int .i64 b] := by
 obtain ⟨xs, n, -, -, hl, hxl, hf⟩ := DataW.trod_struct Tryz.underlying33 h
 have hxl' : xs.length = 2 := hxl
 have h0 : DataW.trod enc Tryz.prog w base sp held n 3 ((cs.drop 0).take (Tryz.prog.cellsOf 3)) = xs[0]? := hf 0 _ rfl
 have h1 : DataW.trod enc Tryz.prog w base sp held n 3 ((cs.drop 1).take (Tryz.prog.cellsOf 3)) = xs[1]? := hf 1 _ rfl
 rw [cells3] at h0 h1
 rw [cells33] at hl
 match cs, hl with
 | [c0, c1], _ =>
  obtain ⟨a0, e0, -⟩ := openInt (h0.trans (List.getElem?_eq_getElem (by omega)))
  obtain ⟨a1, e1, -⟩ := openInt (h1.trans (List.getElem?_eq_getElem (by omega)))
  simp at e0 e1
  subst e0 e1
  exact ⟨a0, a1, rfl⟩
set_option maxRecDepth 100000 in
theorem openSix103 {cs : List Value} (h : DataW.trod enc Tryz.prog w base sp held fuel 103 cs = some x) : ∃ q : Six, cs = scells q := by
 obtain ⟨xs, n, -, -, hl, hxl, hf⟩ := DataW.trod_struct Tryz.underlying103 h
 have hxl' : xs.length = 5 := hxl
 have h0 : DataW.trod enc Tryz.prog w base sp held n 3 ((cs.drop 0).take (Tryz.prog.cellsOf 3)) = xs[0]? := hf 0 _ rfl
 have h1 : DataW.trod enc Tryz.prog w base sp held n 3 ((cs.drop 1).take (Tryz.prog.cellsOf 3)) = xs[1]? := hf 1 _ rfl
 have h2 : DataW.trod enc Tryz.prog w base sp held n 33 ((cs.drop 2).take (Tryz.prog.cellsOf 33)) = xs[2]? := hf 2 _ rfl
 have h3 : DataW.trod enc Tryz.prog w base sp held n 3 ((cs.drop 4).take (Tryz.prog.cellsOf 3)) = xs[3]? := hf 3 _ rfl
 have h4 : DataW.trod enc Tryz.prog w base sp held n 3 ((cs.drop 5).take (Tryz.prog.cellsOf 3)) = xs[4]? := hf 4 _ rfl
 rw [cells3] at h0 h1 h3 h4
 rw [cells33] at h2
 rw [cells103] at hl
 match cs, hl with
 | [c0, c1, c2, c3, c4, c5], _ =>
  obtain ⟨a0, e0, -⟩ := openInt (h0.trans (List.getElem?_eq_getElem (by omega)))
  obtain ⟨a1, e1, -⟩ := openInt (h1.trans (List.getElem?_eq_getElem (by omega)))
  obtain ⟨a2, a3, e2⟩ := openRg (h2.trans (List.getElem?_eq_getElem (by omega)))
  obtain ⟨a4, e4, -⟩ := openInt (h3.trans (List.getElem?_eq_getElem (by omega)))
  obtain ⟨a5, e5, -⟩ := openInt (h4.trans (List.getElem?_eq_getElem (by omega)))
  simp at e0 e1 e2 e4 e5
  obtain ⟨e2, e3⟩ := e2
  subst e0 e1 e2 e3 e4 e5
  exact ⟨⟨a0, a1, a2, a3, a4, a5⟩, rfl⟩
set_option maxRecDepth 100000 in
theorem openSix105 {cs : List Value} (h : DataW.trod enc Tryz.prog w base sp held fuel 105 cs = some x) : ∃ q : Six, cs = scells q := by
 obtain ⟨xs, n, -, -, hl, hxl, hf⟩ := DataW.trod_struct Tryz.underlying105 h
 have hxl' : xs.length = 5 := hxl
 have h0 : DataW.trod enc Tryz.prog w base sp held n 3 ((cs.drop 0).take (Tryz.prog.cellsOf 3)) = xs[0]? := hf 0 _ rfl
 have h1 : DataW.trod enc Tryz.prog w base sp held n 3 ((cs.drop 1).take (Tryz.prog.cellsOf 3)) = xs[1]? := hf 1 _ rfl
 have h2 : DataW.trod enc Tryz.prog w base sp held n 33 ((cs.drop 2).take (Tryz.prog.cellsOf 33)) = xs[2]? := hf 2 _ rfl
 have h3 : DataW.trod enc Tryz.prog w base sp held n 3 ((cs.drop 4).take (Tryz.prog.cellsOf 3)) = xs[3]? := hf 3 _ rfl
 have h4 : DataW.trod enc Tryz.prog w base sp held n 3 ((cs.drop 5).take (Tryz.prog.cellsOf 3)) = xs[4]? := hf 4 _ rfl
 rw [cells3] at h0 h1 h3 h4
 rw [cells33] at h2
 rw [cells105] at hl
 match cs, hl with
 | [c0, c1, c2, c3, c4, c5], _ =>
  obtain ⟨a0, e0, -⟩ := openInt (h0.trans (List.getElem?_eq_getElem (by omega)))
  obtain ⟨a1, e1, -⟩ := openInt (h1.trans (List.getElem?_eq_getElem (by omega)))
  obtain ⟨a2, a3, e2⟩ := openRg (h2.trans (List.getElem?_eq_getElem (by omega)))
  obtain ⟨a4, e4, -⟩ := openInt (h3.trans (List.getElem?_eq_getElem (by omega)))
  obtain ⟨a5, e5, -⟩ := openInt (h4.trans (List.getElem?_eq_getElem (by omega)))
  simp at e0 e1 e2 e4 e5
  obtain ⟨e2, e3⟩ := e2
  subst e0 e1 e2 e3 e4 e5
  exact ⟨⟨a0, a1, a2, a3, a4, a5⟩, rfl⟩
set_option maxRecDepth 100000 in
theorem openSix107 {cs : List Value} (h : DataW.trod enc Tryz.prog w base sp held fuel 107 cs = some x) : ∃ q : Six, cs = scells q := by
 obtain ⟨xs, n, -, -, hl, hxl, hf⟩ := DataW.trod_struct Tryz.underlying107 h
 have hxl' : xs.length = 6 := hxl
 have h0 : DataW.trod enc Tryz.prog w base sp held n 3 ((cs.drop 0).take (Tryz.prog.cellsOf 3)) = xs[0]? := hf 0 _ rfl
 have h1 : DataW.trod enc Tryz.prog w base sp held n 3 ((cs.drop 1).take (Tryz.prog.cellsOf 3)) = xs[1]? := hf 1 _ rfl
 have h2 : DataW.trod enc Tryz.prog w base sp held n 3 ((cs.drop 2).take (Tryz.prog.cellsOf 3)) = xs[2]? := hf 2 _ rfl
 have h3 : DataW.trod enc Tryz.prog w base sp held n 3 ((cs.drop 3).take (Tryz.prog.cellsOf 3)) = xs[3]? := hf 3 _ rfl
 have h4 : DataW.trod enc Tryz.prog w base sp held n 3 ((cs.drop 4).take (Tryz.prog.cellsOf 3)) = xs[4]? := hf 4 _ rfl
 have h5 : DataW.trod enc Tryz.prog w base sp held n 3 ((cs.drop 5).take (Tryz.prog.cellsOf 3)) = xs[5]? := hf 5 _ rfl
 rw [cells3] at h0 h1 h2 h3 h4 h5
 rw [cells107] at hl
 match cs, hl with
 | [c0, c1, c2, c3, c4, c5], _ =>
  obtain ⟨a0, e0, -⟩ := openInt (h0.trans (List.getElem?_eq_getElem (by omega)))
  obtain ⟨a1, e1, -⟩ := openInt (h1.trans (List.getElem?_eq_getElem (by omega)))
  obtain ⟨a2, e2, -⟩ := openInt (h2.trans (List.getElem?_eq_getElem (by omega)))
  obtain ⟨a3, e3, -⟩ := openInt (h3.trans (List.getElem?_eq_getElem (by omega)))
  obtain ⟨a4, e4, -⟩ := openInt (h4.trans (List.getElem?_eq_getElem (by omega)))
  obtain ⟨a5, e5, -⟩ := openInt (h5.trans (List.getElem?_eq_getElem (by omega)))
  simp at e0 e1 e2 e3 e4 e5
  subst e0 e1 e2 e3 e4 e5
  exact ⟨⟨a0, a1, a2, a3, a4, a5⟩, rfl⟩
variable {r : Reach} {b0 : Nat} {v : Value} {d : DataW H} {p : List MemPlace}
set_option maxRecDepth 100000 in
theorem openPlot (hv : Value.okWide Tryz.prog w r b0 38 v) (h : DataW.Trod enc Tryz.prog w base sp held 38 v d p) :
  ∃ (q : Pl) (A1 A2 A3 : Option Addr) (n1 c1 n2 c2 n3 c3 : Nat), v = plv q A1 A2 A3 n1 c1 n2 c2 n3 c3 ∧ Pa w q A1 A2 A3 n1 c1 n2 c2 n3 c3 := by
 obtain ⟨cs, rfl, hsz⟩ := okWide_struct Tryz.underlying38 hv
 obtain ⟨fuel, hf⟩ := h
 rw [cells38] at hsz
 obtain ⟨u0, u1, u2, u3, u4, u5, rfl⟩ : ∃ u0 u1 u2 u3 u4 u5, cs = #[u0, u1, u2, u3, u4, u5] := by
  obtain ⟨l⟩ := cs
  match l, hsz with
  | [u0, u1, u2, u3, u4, u5], _ => exact ⟨u0, u1, u2, u3, u4, u5, rfl⟩
 obtain ⟨xs, n, -, -, hl, hxl, hf⟩ := DataW.trod_struct Tryz.underlying38 hf
 have hxl' : xs.length = 5 := hxl
 have h0 : DataW.trod enc Tryz.prog w base sp held n 33 (((Value.agg #[u0, u1, u2, u3, u4, u5]).cells.toList.drop 0).take (Tryz.prog.cellsOf 33)) = xs[0]? := hf 0 _ rfl
 have h1 : DataW.trod enc Tryz.prog w base sp held n 34 (((Value.agg #[u0, u1, u2, u3, u4, u5]).cells.toList.drop 2).take (Tryz.prog.cellsOf 34)) = xs[1]? := hf 1 _ rfl
 have h2 : DataW.trod enc Tryz.prog w base sp held n 35 (((Value.agg #[u0, u1, u2, u3, u4, u5]).cells.toList.drop 3).take (Tryz.prog.cellsOf 35)) = xs[2]? := hf 2 _ rfl
 have h3 : DataW.trod enc Tryz.prog w base sp held n 36 (((Value.agg #[u0, u1, u2, u3, u4, u5]).cells.toList.drop 4).take (Tryz.prog.cellsOf 36)) = xs[3]? := hf 3 _ rfl
 have h4 : DataW.trod enc Tryz.prog w base sp held n 3 (((Value.agg #[u0, u1, u2, u3, u4, u5]).cells.toList.drop 5).take (Tryz.prog.cellsOf 3)) = xs[4]? := hf 4 _ rfl
 rw [cells33] at h0
 rw [cells34] at h1
 rw [cells35] at h2
 rw [cells36] at h3
 rw [cells3] at h4
 obtain ⟨a, b, ha⟩ := openRg (h0.trans (List.getElem?_eq_getElem (by omega)))
 obtain ⟨g, hg, -⟩ := openInt (h4.trans (List.getElem?_eq_getElem (by omega)))
 obtain ⟨A1, n1, c1, x1, e1, l1, m1, r1⟩ := openSlice (f := scells) Tryz.underlying34 cells103 (by decide) (fun _ _ _ hq => openSix103 hq) (h1.trans (List.getElem?_eq_getElem (by omega)))
 obtain ⟨A2, n2, c2, x2, e2, l2, m2, r2⟩ := openSlice (f := scells) Tryz.underlying35 cells105 (by decide) (fun _ _ _ hq => openSix105 hq) (h2.trans (List.getElem?_eq_getElem (by omega)))
 obtain ⟨A3, n3, c3, x3, e3, l3, m3, r3⟩ := openSlice (f := scells) Tryz.underlying36 cells107 (by decide) (fun _ _ _ hq => openSix107 hq) (h3.trans (List.getElem?_eq_getElem (by omega)))
 simp [Value.cells] at ha hg e1 e2 e3
 obtain ⟨ha, hb⟩ := ha
 subst ha hb hg e1 e2 e3
 unfold maxLen at m1 m2 m3
 exact ⟨⟨a, b, x1, x2, x3, g⟩, A1, A2, A3, n1, c1, n2, c2, n3, c3, rfl, ⟨r1, r2, r3, ⟨l1, by omega⟩, ⟨l2, by omega⟩, ⟨l3, by omega⟩⟩⟩
end
end Go.Proofs.YtkoejeghihcmlaaGreat

namespace Go.Proofs.YtkoejeghihcmlaaGreat
open Go.ChangeShapes Go.WideShapes Go.ChangeAt Go.RowKit
theorem cells39 : Tryz.prog.cellsOf 39 = 1 := by kernel_rfl
theorem cells41 : Tryz.prog.cellsOf 41 = 2 := by kernel_rfl
theorem cells114 : Tryz.prog.cellsOf 114 = 5 := by kernel_rfl
theorem cells121 : Tryz.prog.cellsOf 121 = 18 := by kernel_rfl
instance : Inhabited {x : Int // I64 x} := ⟨⟨0, by unfold I64; decide⟩⟩
section
variable {H : Type} {enc : TypeId × Value → H} {w : World} {base : Nat} {sp : Nat → Bool} {held : Bool} {fuel : Nat} {x : DataW H × List MemPlace}
set_option maxRecDepth 100000 in
theorem openIntL {cs : List Value} (h : DataW.trod enc Tryz.prog w base sp held fuel 39 cs = some x) : ∃ A n c xs, cs = [.slice A n c] ∧ n ≤ c ∧ c ≤ maxLen ∧ Ints w A n xs ∧ ∀ q ∈ xs, I64 q := by
 obtain ⟨A, n, c, xs, e, h1, h2, h3⟩ := openSlice (f := fun q : {x : Int // I64 x} => icells q.val) Tryz.underlying39 cells3 (by decide) (fun _ _ _ hq => by obtain ⟨a, e, b⟩ := openInt hq; exact ⟨⟨a, b⟩, e⟩) h
 refine ⟨A, n, c, xs.map Subtype.val, e, h1, h2, h3.vals_, fun q hq => ?_⟩
 obtain ⟨y, -, rfl⟩ := List.mem_map.1 hq
 exact y.property
set_option maxRecDepth 100000 in
theorem openCarting {cs : List Value} (h : DataW.trod enc Tryz.prog w base sp held fuel 41 cs = some x) : ∃ sown A n c xs, cs = [.int .i64 sown, .slice A n c] ∧ n ≤ c ∧ c ≤ maxLen ∧ Ints w A n xs ∧ ∀ q ∈ xs, I64 q := by
 obtain ⟨xs, n, -, -, hl, hxl, hf⟩ := DataW.trod_struct Tryz.underlying41 h
 have hxl' : xs.length = 2 := hxl
 have h0 : DataW.trod enc Tryz.prog w base sp held n 3 ((cs.drop 0).take (Tryz.prog.cellsOf 3)) = xs[0]? := hf 0 _ rfl
 have h1 : DataW.trod enc Tryz.prog w base sp held n 39 ((cs.drop 1).take (Tryz.prog.cellsOf 39)) = xs[1]? := hf 1 _ rfl
 rw [cells3] at h0
 rw [cells39] at h1
 rw [cells41] at hl
 match cs, hl with
 | [c0, c1], _ =>
  obtain ⟨a0, e0, -⟩ := openInt (h0.trans (List.getElem?_eq_getElem (by omega)))
  obtain ⟨A, n1, d1, l, e1, r1, r2, r3, r4⟩ := openIntL (h1.trans (List.getElem?_eq_getElem (by omega)))
  simp at e0 e1
  subst e0 e1
  exact ⟨a0, A, n1, d1, l, rfl, r1, r2, r3, r4⟩
variable {r : Reach} {b0 : Nat} {v : Value} {d : DataW H} {p : List MemPlace}
set_option maxRecDepth 100000 in
theorem openAsked (hv : Value.okWide Tryz.prog w r b0 114 v) (h : DataW.Trod enc Tryz.prog w base sp held 114 v d p) :
  ∃ (sown : Int) (A : Option Addr) (n c : Nat) (xs : List Int) (hour source known : Int), v = .agg #[.int .i64 sown, .slice A n c, .int .i64 hour, .int .i64 source, .int .i64 known] ∧ n ≤ c ∧ c ≤ 9223372036854775807 ∧ Ints w A n xs ∧ ∀ q ∈ xs, I64 q := by
 obtain ⟨cs, rfl, hsz⟩ := okWide_struct Tryz.underlying114 hv
 obtain ⟨fuel, hf⟩ := h
 rw [cells114] at hsz
 obtain ⟨u0, u1, u2, u3, u4, rfl⟩ : ∃ u0 u1 u2 u3 u4, cs = #[u0, u1, u2, u3, u4] := by
  obtain ⟨l⟩ := cs
  match l, hsz with
  | [u0, u1, u2, u3, u4], _ => exact ⟨u0, u1, u2, u3, u4, rfl⟩
 obtain ⟨xs, n, -, -, hl, hxl, hf⟩ := DataW.trod_struct Tryz.underlying114 hf
 have hxl' : xs.length = 4 := hxl
 have h0 : DataW.trod enc Tryz.prog w base sp held n 41 (((Value.agg #[u0, u1, u2, u3, u4]).cells.toList.drop 0).take (Tryz.prog.cellsOf 41)) = xs[0]? := hf 0 _ rfl
 have h1 : DataW.trod enc Tryz.prog w base sp held n 3 (((Value.agg #[u0, u1, u2, u3, u4]).cells.toList.drop 2).take (Tryz.prog.cellsOf 3)) = xs[1]? := hf 1 _ rfl
 have h2 : DataW.trod enc Tryz.prog w base sp held n 3 (((Value.agg #[u0, u1, u2, u3, u4]).cells.toList.drop 3).take (Tryz.prog.cellsOf 3)) = xs[2]? := hf 2 _ rfl
 have h3 : DataW.trod enc Tryz.prog w base sp held n 3 (((Value.agg #[u0, u1, u2, u3, u4]).cells.toList.drop 4).take (Tryz.prog.cellsOf 3)) = xs[3]? := hf 3 _ rfl
 rw [cells41] at h0
 rw [cells3] at h1 h2 h3
 obtain ⟨sown, A, n1, d1, l, e0, r1, r2, r3, r4⟩ := openCarting (h0.trans (List.getElem?_eq_getElem (by omega)))
 obtain ⟨hh, e1, -⟩ := openInt (h1.trans (List.getElem?_eq_getElem (by omega)))
 obtain ⟨so, e2, -⟩ := openInt (h2.trans (List.getElem?_eq_getElem (by omega)))
 obtain ⟨kn, e3, -⟩ := openInt (h3.trans (List.getElem?_eq_getElem (by omega)))
 simp [Value.cells] at e0 e1 e2 e3
 obtain ⟨e0, e0'⟩ := e0
 subst e0 e0' e1 e2 e3
 unfold maxLen at r2
 exact ⟨sown, A, n1, d1, l, hh, so, kn, rfl, r1, by omega, r3, r4⟩
set_option maxRecDepth 100000 in
theorem openOne (hv : Value.okWide Tryz.prog w r b0 121 v) (h : DataW.Trod enc Tryz.prog w base sp held 121 v d p) :
  ∃ x y z : Six, v = .agg ((scells x ++ scells y ++ scells z).toArray) := by
 obtain ⟨cs, rfl, hsz⟩ := okWide_struct Tryz.underlying121 hv
 obtain ⟨fuel, hf⟩ := h
 rw [cells121] at hsz
 obtain ⟨u0, u1, u2, u3, u4, u5, u6, u7, u8, u9, u10, u11, u12, u13, u14, u15, u16, u17, rfl⟩ : ∃ u0 u1 u2 u3 u4 u5 u6 u7 u8 u9 u10 u11 u12 u13 u14 u15 u16 u17, cs = #[u0, u1, u2, u3, u4, u5, u6, u7, u8, u9, u10, u11, u12, u13, u14, u15, u16, u17] := by
  obtain ⟨l⟩ := cs
  match l, hsz with
  | [u0, u1, u2, u3, u4, u5, u6, u7, u8, u9, u10, u11, u12, u13, u14, u15, u16, u17], _ => exact ⟨u0, u1, u2, u3, u4, u5, u6, u7, u8, u9, u10, u11, u12, u13, u14, u15, u16, u17, rfl⟩
 obtain ⟨xs, n, -, -, hl, hxl, hf⟩ := DataW.trod_struct Tryz.underlying121 hf
 have hxl' : xs.length = 3 := hxl
 have h0 : DataW.trod enc Tryz.prog w base sp held n 103 (((Value.agg #[u0, u1, u2, u3, u4, u5, u6, u7, u8, u9, u10, u11, u12, u13, u14, u15, u16, u17]).cells.toList.drop 0).take (Tryz.prog.cellsOf 103)) = xs[0]? := hf 0 _ rfl
 have h1 : DataW.trod enc Tryz.prog w base sp held n 105 (((Value.agg #[u0, u1, u2, u3, u4, u5, u6, u7, u8, u9, u10, u11, u12, u13, u14, u15, u16, u17]).cells.toList.drop 6).take (Tryz.prog.cellsOf 105)) = xs[1]? := hf 1 _ rfl
 have h2 : DataW.trod enc Tryz.prog w base sp held n 107 (((Value.agg #[u0, u1, u2, u3, u4, u5, u6, u7, u8, u9, u10, u11, u12, u13, u14, u15, u16, u17]).cells.toList.drop 12).take (Tryz.prog.cellsOf 107)) = xs[2]? := hf 2 _ rfl
 rw [cells103] at h0
 rw [cells105] at h1
 rw [cells107] at h2
 obtain ⟨x, e0⟩ := openSix103 (h0.trans (List.getElem?_eq_getElem (by omega)))
 obtain ⟨y, e1⟩ := openSix105 (h1.trans (List.getElem?_eq_getElem (by omega)))
 obtain ⟨z, e2⟩ := openSix107 (h2.trans (List.getElem?_eq_getElem (by omega)))
 simp [Value.cells, scells] at e0 e1 e2
 obtain ⟨a0, a1, a2, a3, a4, a5⟩ := e0
 obtain ⟨b0', b1, b2, b3, b4, b5⟩ := e1
 obtain ⟨c0, c1, c2, c3, c4, c5⟩ := e2
 subst a0 a1 a2 a3 a4 a5 b0' b1 b2 b3 b4 b5 c0 c1 c2 c3 c4 c5
 exact ⟨x, y, z, rfl⟩
end
end Go.Proofs.YtkoejeghihcmlaaGreat
