/- Dates, Without. -/
import Derived.Test.YtkoejeghihcmlaaGreatXB
import Derived.Test.YtkoejeghihcmlaaGreatWB
namespace Go.Proofs.YtkoejeghihcmlaaGreat
open Go.RowKit Go.Shelf

/-- The days of something. -/
def datL (k u : Int) : List Int := if u = 0 then [k] else [k, u]
def dates (l : List Six) : List Int := l.flatMap fun x => datL x.e x.f
theorem dates_snoc {l : List Six} {k : Nat} (hk : k < l.length) : dates (l.take (k + 1)) = dates (l.take k) ++ datL (l.getD k z6).e (l.getD k z6).f := by
  unfold dates
  rw [List.take_succ_eq_append_getElem hk, List.flatMap_append, six_get hk]
  simp
theorem datL_len (k u : Int) : (datL k u).length ≤ 2 := by unfold datL; split <;> simp
theorem dates_len : ∀ l : List Six, (dates l).length ≤ 2 * l.length
  | [] => Nat.zero_le _
  | x :: l => by
    have h1 := dates_len l
    have h2 := datL_len x.e x.f
    show (datL x.e x.f ++ dates l).length ≤ _
    rw [List.length_append, List.length_cons]
    omega
def datesAll (p : Pl) : List Int := dates p.loads ++ dates p.stands ++ dates p.spells
def datesL (p : Pl) : List Int := Lib.compact (srt (datesAll p))

/-- A variable that holds one's own integers. -/
structure Ad (bo : Nat) (W : World) (v : Value) (l : List Int) : Prop where
  b : Blk W bo 39 #[v]
  o : OwnL icells 1 3 W (bo + 1) v l
theorem Ad.ext {bo : Nat} {W W' : World} {v : Value} {l : List Int} (h : Ad bo W v l) (g : Below W.heap.size W W') : Ad bo W' v l := ⟨h.b.ext g, h.o.ext g⟩
theorem Ad.put {bo : Nat} {W W' : World} {v v' : Value} {l l' : List Int} (h : Ad bo W v l) (g : W.grownBy W' v.ownBlock) (ho : OwnL icells 1 3 W' (bo + 1) v' l') : Ad bo (W'.setCell ⟨bo, 0, none⟩ v') v' l' :=
  ⟨(h.b.grown g (fun e => by have := (own_lt h.o e).1; omega)).set_ 0 v', ho.far (p := ⟨bo, 0, none⟩) (Nat.lt_succ_self bo) _⟩
theorem Ad.below {bo : Nat} {W W' : World} {v : Value} {l : List Int} (h : Ad bo W v l) (g : W.grownBy W' v.ownBlock) (u : Value) : Below bo W (W'.setCell ⟨bo, 0, none⟩ u) :=
  ((Below.refl _ _).grown g (Nat.le_of_lt h.b.lt) (fun k e => by have := (own_lt h.o e).1; omega)).setCell (p := ⟨bo, 0, none⟩) (Nat.le_refl _) _

set_option maxRecDepth 100000 in
set_option maxHeartbeats 2000000 in
theorem add_any (bo : Nat) (k u : Int) (v : Value) (l : List Int) (w : World) (h : Ad bo w v l) (hl : l.length ≤ 1000) :
    Calls Tryz.prog 110 #[.int .i64 k, .int .i64 u, .pointer (some ⟨bo, 0, none⟩)] w fun e w' => e = .returned (.tuple #[]) ∧ (∃ v', Ad bo w' v' (l ++ datL k u)) ∧ Below bo w w' := by
  obtain ⟨A, c, hv, -, -, -, -⟩ := OwnL.arr kdI h.o
  obtain ⟨n, hn⟩ : ∃ n, l.length = n := ⟨_, rfl⟩
  rw [hn] at hv hl
  subst hv
  have H := Lib.hid h
  have HN := Lib.hid hn
  have q0 := h.b.cell 0
  have HL := Lib.hid (show l.length + 1 ≤ 1000000 by omega)
  have HX := Lib.hid (H.out.ext (one_more w (.cells #[.int .i64 k] 3)))
  have IX := Lib.hid (one_int (Blk.new w 3 #[.int .i64 k]))
  have HBS := Lib.hid (show bo + 1 ≤ (w.alloc (.cells #[.int .i64 k] 3)).heap.size by have := HX.out.b.lt; omega)
  have hD : datL k u = if u = 0 then [k] else [k, u] := rfl
  clear h hn
  by_cases hu : u = 0
  · subst hu
    have HD := Lib.hid (show datL k 0 = [k] from rfl)
    clear hD
    go_enter Tryz.func110, Tryz.ntmps110
    go_wp2_with (at_builtin; go_loud (refine wpList_app kdI (by rfl) _ _ (by rfl) (bo + 1) _ l (by rfl) HX.out.o _ 1 1 [k] (by rfl) IX.out HL.out HBS.out ?_); intro v' w' ho hgr hz; obtain ⟨A6, c6, e6, -, -, -, -⟩ := OwnL.arr kdI ho; obtain ⟨m6, hm6⟩ : ∃ m6, (l ++ [k]).length = m6 := ⟨_, rfl⟩; rw [hm6] at e6; clear hm6; subst e6; have HP := Lib.hid (HX.out.put hgr ho); have HQ := Lib.hid ((one_more w (.cells #[.int .i64 k] 3)).mono (Nat.le_of_lt H.out.b.lt) |>.trans (HX.out.below hgr (.slice A6 m6 c6))); have hpg := (HX.out.b.grown hgr (fun e => by have := (own_lt HX.out.o e).1; omega)); have f1 := hpg.frozen 0; have e1 := hpg.cell 0; clear ho hgr hz hpg)
    go_end0
    exact ⟨rfl, ⟨_, by rw [HD.out]; exact HP.out⟩, HQ.out⟩
  · have HD := Lib.hid (show datL k u = [k] ++ [u] by rw [hD, if_neg hu]; rfl)
    have hne : (u != 0) = true := by simpa using hu
    clear hD
    go_enter Tryz.func110, Tryz.ntmps110
    go_upto_region 1 with (at_builtin; go_loud (refine wpList_app kdI (by rfl) _ _ (by rfl) (bo + 1) _ (l) (by rfl) HX.out.o _ 1 1 [k] (by rfl) IX.out HL.out HBS.out ?_); intro v' w' ho hgr hz; obtain ⟨A6, c6, e6, -, -, -, -⟩ := OwnL.arr kdI ho; obtain ⟨m6, hm6⟩ : ∃ m6, (l ++ [k]).length = m6 := ⟨_, rfl⟩; rw [hm6] at e6; clear hm6; subst e6; have HP := Lib.hid (HX.out.put hgr ho); have HQ := Lib.hid ((one_more _ (.cells #[.int .i64 k] 3)).mono (Nat.le_of_lt H.out.b.lt) |>.trans (HX.out.below hgr (.slice A6 m6 c6))); have hpg := (HX.out.b.grown hgr (fun e => by have := (own_lt HX.out.o e).1; omega)); have f1 := hpg.frozen 0; have e1 := hpg.cell 0; clear ho hgr hz hpg)
    obtain ⟨W1, hW1⟩ : ∃ W, w'.setCell ⟨bo, 0, none⟩ (.slice A6 m6 c6) = W := ⟨_, rfl⟩
    rw [hW1] at HP HQ ⊢
    clear hW1 f1 e1 q0
    have q0 := HP.out.b.cell 0
    have HLm := Lib.hid (show (l ++ [k]).length = m6 from by
      obtain ⟨_, _, e, -⟩ := OwnL.arr kdI HP.out.o
      cases e
      rfl)
    have HX2 := Lib.hid (HP.out.ext (one_more W1 (.cells #[.int .i64 u] 3)))
    have IX2 := Lib.hid (one_int (Blk.new W1 3 #[.int .i64 u]))
    have HBS2 := Lib.hid (show bo + 1 ≤ (W1.alloc (.cells #[.int .i64 u] 3)).heap.size by have := HX2.out.b.lt; omega)
    have HL2 := Lib.hid (show (l ++ [k]).length + 1 ≤ 1000000 by rw [List.length_append, HN.out]; show n + 1 + 1 ≤ _; omega)
    go_wp2_with (at_builtin; go_loud (refine wpList_app kdI (by rfl) _ _ (by rfl) (bo + 1) _ (l ++ [k]) (by rfl) HX2.out.o _ 1 1 [u] (by rfl) IX2.out HL2.out HBS2.out ?_); intro v' w' ho hgr hz; obtain ⟨A7, c7, e7, -, -, -, -⟩ := OwnL.arr kdI ho; obtain ⟨m7, hm7⟩ : ∃ m7, (l ++ [k] ++ [u]).length = m7 := ⟨_, rfl⟩; rw [hm7] at e7; clear hm7; subst e7; have HP2 := Lib.hid (HX2.out.put hgr ho); have HQ2 := Lib.hid ((one_more _ (.cells #[.int .i64 u] 3)).mono (Nat.le_of_lt HP.out.b.lt) |>.trans (HX2.out.below hgr (.slice A7 m7 c7))); have hpg := (HX2.out.b.grown hgr (fun e => by have := (own_lt HX2.out.o e).1; omega)); have f1 := hpg.frozen 0; have e1 := hpg.cell 0; clear ho hgr hz hpg)
    go_end0
    exact ⟨rfl, ⟨_, by rw [HD.out, ← List.append_assoc]; exact HP2.out⟩, HQ.out.trans HQ2.out⟩
set_option maxRecDepth 100000 in
set_option maxHeartbeats 8000000 in
theorem dates_any (p : Pl) (A1 A2 A3 : Option Addr) (n1 c1 n2 c2 n3 c3 : Nat) (w : World) (hp : Pa w p A1 A2 A3 n1 c1 n2 c2 n3 c3) :
    Calls Tryz.prog 44 #[plv p A1 A2 A3 n1 c1 n2 c2 n3 c3] w fun e w' => (∃ D m c, e = .returned (.tuple #[.slice D m c, .int .i64 (err (okPl p) 13)]) ∧ Ints w' D m (if okPl p = true then datesL p else [])) ∧ Below w.heap.size w w' := by
  obtain ⟨W1, hW1⟩ : ∃ W1, w.alloc (.cells (plb p A1 A2 A3 n1 c1 n2 c2 n3 c3) 38) = W1 := ⟨_, rfl⟩
  have g1 : Below w.heap.size w W1 := by rw [← hW1]; exact one_more _ _
  have b1 : Blk W1 w.heap.size 38 (plb p A1 A2 A3 n1 c1 n2 c2 n3 c3) := by rw [← hW1]; exact Blk.new _ _ _
  have p0 := b1.cell 0
  have p1 := b1.cell 1
  have p2 := b1.cell 2
  have p3 := b1.cell 3
  have p4 := b1.cell 4
  have p5 := b1.cell 5
  have T := check_any p A1 A2 A3 n1 c1 n2 c2 n3 c3 W1 (hp.below g1)
  have HPA := Lib.hid (hp.below g1)
  have HB := Lib.hid b1
  have G1 := Lib.hid g1
  have HOKP := Lib.hid (fun h : okPl p = true => ok_parts h)
  obtain ⟨ok, hok⟩ : ∃ b, okPl p = b := ⟨_, rfl⟩
  rw [hok] at T HOKP ⊢
  have HT := Lib.hid T
  obtain ⟨rr, hrr⟩ : ∃ l, (if ok = true then datesL p else []) = l := ⟨_, rfl⟩
  have HR := Lib.hid hrr
  rw [hrr]
  have HW1 := Lib.hid hW1
  clear T hp g1 b1 hW1 hok hrr
  cases ok with
  | false =>
    have HRR := Lib.hid (show rr = [] from HR.out.symm)
    have HER := Lib.hid (show err false 13 = 13 from rfl)
    rw [HER.out] at HT ⊢
    go_enter Tryz.func44, Tryz.ntmps44
    go_upto_region 1 with fail
    rw [HW1.out]
    go_wp2_with (go_at_call 65; (with_reducible refine (HT.out).mono ?_); rintro e V2 ⟨rfl, hg⟩; have G2 := Lib.hid hg; clear hg)
    go_ret2
    exact ⟨⟨none, 0, 0, rfl, by rw [HRR.out]; exact Arr.nil_⟩, G1.out.trans (G2.out.mono G1.out.size)⟩
  | true =>
    have HRR := Lib.hid (show rr = datesL p from HR.out.symm)
    have HER := Lib.hid (show err true 13 = 0 from rfl)
    rw [HER.out] at HT
    have HPP := Lib.hid (HOKP.out rfl)
    have HL1' := Lib.hid HPA.out.l1
    have HN1 := Lib.hid (show n1 ≤ 60 by rw [← HPA.out.l1.1]; exact HPP.out.2.2.2.2.2.1)
    have HN2 := Lib.hid (show n2 ≤ 60 by rw [← HPA.out.l2.1]; exact HPP.out.2.2.2.2.2.2.1)
    have HN3 := Lib.hid (show n3 ≤ 60 by rw [← HPA.out.l3.1]; exact HPP.out.2.2.2.2.2.2.2.1)
    go_enter Tryz.func44, Tryz.ntmps44
    go_upto_region 1 with fail
    rw [HW1.out]
    go_upto_region 4 with (go_at_call 65; (with_reducible refine (HT.out).mono ?_); rintro e W3 ⟨rfl, hg⟩; have G2 := Lib.hid hg; clear hg)
    have G3 := Lib.hid (G1.out.trans (G2.out.mono G1.out.size))
    have HB0 := Lib.hid (HB.out.ext G2.out)
    have HPA3 := Lib.hid (HPA.out.below G2.out)
    have HL1 := Lib.hid HPA3.out.l1
    have HL2 := Lib.hid HPA3.out.l2
    have HL3 := Lib.hid HPA3.out.l3
    have HPR1 := Lib.hid (show ([] : List Int).length ≤ 500 by decide)
    have HPR2 := Lib.hid (show (dates p.loads).length ≤ 500 by have h1 := dates_len p.loads; have l1 := HL1.out.1; have k1 := HN1.out; omega)
    have HPR3 := Lib.hid (show (dates p.loads ++ dates p.stands).length ≤ 500 by have h1 := dates_len p.loads; have h2 := dates_len p.stands; have l1 := HL1.out.1; have k1 := HN1.out; have l2 := HL2.out.1; have k2 := HN2.out; rw [List.length_append]; omega)
    have q1 := HB0.out.cell 2
    have hbl := HB0.out.lt
    clear p0 p1 p2 p3 p4 p5
    have AD0 := Lib.hid (show Ad W3.heap.size (W3.alloc (.cells #[.slice none 0 0] 39)) (.slice none 0 0) ([] ++ dates (p.loads.take 0)) from ⟨Blk.new _ _ _, OwnL.nil _ _⟩)
    go_wp2_with fail
    clear q1
    go_loopw [22] (fun i wr => ∃ (k : Nat) (v : Value), i = .int .i64 k ∧ k ≤ n1 ∧ Below W3.heap.size W3 wr ∧ Ad W3.heap.size wr v ([] ++ dates (p.loads.take k))) (fun i _ => n1 - (intOf i).toNat)
    case atStart => exact ⟨0, _, rfl, Nat.zero_le _, one_more _ _, AD0.out⟩
    case round =>
      obtain ⟨k, v, rfl, hk, hg, had⟩ := hrel
      have HG := Lib.hid hg
      have HA := Lib.hid had
      have hnb := HN1.out
      clear hg had
      by_cases hkn : k < n1
      · obtain ⟨b0, o0, e0, -, -, hc⟩ := six_at (HL1.out.below HG.out) hkn
        obtain ⟨x0, x1, x2, x3, x4, x5⟩ := hc _ (Below.refl _ _)
        have HN := Lib.hid (dates_snoc (l := p.loads) (k := k) (by rw [HL1.out.1]; exact hkn))
        have HLL := Lib.hid (show ([] ++ dates (p.loads.take k)).length ≤ 1000 by
          have h1 := dates_len (p.loads.take k)
          have h2 := HPR1.out
          rw [List.length_take] at h1
          rw [List.length_append]
          omega)
        obtain ⟨x, hxg⟩ : ∃ x, p.loads.getD k z6 = x := ⟨_, rfl⟩
        rw [hxg] at x0 x1 x2 x3 x4 x5 HN
        subst e0
        obtain ⟨W5, hW5⟩ : ∃ W, wr.alloc (.cells #[.int .i64 x.a, .int .i64 x.b, .int .i64 x.c, .int .i64 x.d, .int .i64 x.e, .int .i64 x.f] 103) = W := ⟨_, rfl⟩
        have b5 : Blk W5 wr.heap.size 103 #[.int .i64 x.a, .int .i64 x.b, .int .i64 x.c, .int .i64 x.d, .int .i64 x.e, .int .i64 x.f] := by rw [← hW5]; exact Blk.new _ _ _
        have g5 : Below wr.heap.size wr W5 := by rw [← hW5]; exact one_more _ _
        have HA5 := Lib.hid (HA.out.ext g5)
        have HG5 := Lib.hid (HG.out.trans (g5.mono HG.out.size))
        have q4 := b5.cell 4
        have q5 := b5.cell 5
        have TA := Lib.hid (add_any W3.heap.size x.e x.f v _ W5 HA5.out HLL.out)
        have HW5 := Lib.hid hW5
        clear hc hxg b5 g5 hW5
        go_upto_region 9 with fail
        rw [HW5.out]
        go_wp2_with (go_at_call 110; (with_reducible refine (TA.out).mono ?_); rintro e V ⟨rfl, ⟨v6, had6⟩, hg6⟩; have HA6 := Lib.hid had6; have HG6 := Lib.hid (HG5.out.trans hg6); clear had6 hg6)
        go_roundw
        case rel => exact ⟨k + 1, v6, by go_num, by omega, HG6.out, by rw [HN.out, ← List.append_assoc]; exact HA6.out⟩
        case measure => simp [intOf]; omega
      · obtain rfl : n1 = k := by omega
        have HE1 := Lib.hid (show Ad W3.heap.size wr v ([] ++ dates p.loads) by have := HA.out; rwa [List.take_of_length_le (by rw [HL1.out.1]; exact Nat.le_refl _)] at this)
        have HGE1 := HG
        obtain ⟨V1, hV⟩ : ∃ V, wr = V := ⟨_, rfl⟩
        obtain ⟨v1, hv⟩ : ∃ V, v = V := ⟨_, rfl⟩
        rw [hV] at HE1 HGE1 ⊢
        rw [hv] at HE1
        clear HG HA hnb hkn hk hV hv
        have q2 := (HB0.out.ext HGE1.out).cell 3
        go_wp2_with fail
        clear q2
        go_loopw [36] (fun i wr => ∃ (k : Nat) (v : Value), i = .int .i64 k ∧ k ≤ n2 ∧ Below W3.heap.size W3 wr ∧ Ad W3.heap.size wr v (dates p.loads ++ dates (p.stands.take k))) (fun i _ => n2 - (intOf i).toNat)
        case atStart => exact ⟨0, _, rfl, Nat.zero_le _, HGE1.out, by show Ad _ _ _ (_ ++ dates []); rw [show dates [] = [] from rfl, List.append_nil]; exact HE1.out⟩
        case round =>
          obtain ⟨k, v, rfl, hk, hg, had⟩ := hrel
          have HG := Lib.hid hg
          have HA := Lib.hid had
          have hnb := HN2.out
          clear hg had
          by_cases hkn : k < n2
          · obtain ⟨b0, o0, e0, -, -, hc⟩ := six_at (HL2.out.below HG.out) hkn
            obtain ⟨x0, x1, x2, x3, x4, x5⟩ := hc _ (Below.refl _ _)
            have HN := Lib.hid (dates_snoc (l := p.stands) (k := k) (by rw [HL2.out.1]; exact hkn))
            have HLL := Lib.hid (show (dates p.loads ++ dates (p.stands.take k)).length ≤ 1000 by
              have h1 := dates_len (p.stands.take k)
              have h2 := HPR2.out
              rw [List.length_take] at h1
              rw [List.length_append]
              omega)
            obtain ⟨x, hxg⟩ : ∃ x, p.stands.getD k z6 = x := ⟨_, rfl⟩
            rw [hxg] at x0 x1 x2 x3 x4 x5 HN
            subst e0
            obtain ⟨W5, hW5⟩ : ∃ W, wr.alloc (.cells #[.int .i64 x.a, .int .i64 x.b, .int .i64 x.c, .int .i64 x.d, .int .i64 x.e, .int .i64 x.f] 105) = W := ⟨_, rfl⟩
            have b5 : Blk W5 wr.heap.size 105 #[.int .i64 x.a, .int .i64 x.b, .int .i64 x.c, .int .i64 x.d, .int .i64 x.e, .int .i64 x.f] := by rw [← hW5]; exact Blk.new _ _ _
            have g5 : Below wr.heap.size wr W5 := by rw [← hW5]; exact one_more _ _
            have HA5 := Lib.hid (HA.out.ext g5)
            have HG5 := Lib.hid (HG.out.trans (g5.mono HG.out.size))
            have q4 := b5.cell 4
            have q5 := b5.cell 5
            have TA := Lib.hid (add_any W3.heap.size x.e x.f v _ W5 HA5.out HLL.out)
            have HW5 := Lib.hid hW5
            clear hc hxg b5 g5 hW5
            go_upto_region 14 with fail
            rw [HW5.out]
            go_wp2_with (go_at_call 110; (with_reducible refine (TA.out).mono ?_); rintro e V ⟨rfl, ⟨v6, had6⟩, hg6⟩; have HA6 := Lib.hid had6; have HG6 := Lib.hid (HG5.out.trans hg6); clear had6 hg6)
            go_roundw
            case rel => exact ⟨k + 1, v6, by go_num, by omega, HG6.out, by rw [HN.out, ← List.append_assoc]; exact HA6.out⟩
            case measure => simp [intOf]; omega
          · obtain rfl : n2 = k := by omega
            have HE2 := Lib.hid (show Ad W3.heap.size wr v (dates p.loads ++ dates p.stands) by have := HA.out; rwa [List.take_of_length_le (by rw [HL2.out.1]; exact Nat.le_refl _)] at this)
            have HGE2 := HG
            obtain ⟨V2, hV⟩ : ∃ V, wr = V := ⟨_, rfl⟩
            obtain ⟨v2, hv⟩ : ∃ V, v = V := ⟨_, rfl⟩
            rw [hV] at HE2 HGE2 ⊢
            rw [hv] at HE2
            clear HG HA hnb hkn hk hV hv
            have q3 := (HB0.out.ext HGE2.out).cell 4
            go_wp2_with fail
            clear q3
            go_loopw [50] (fun i wr => ∃ (k : Nat) (v : Value), i = .int .i64 k ∧ k ≤ n3 ∧ Below W3.heap.size W3 wr ∧ Ad W3.heap.size wr v (dates p.loads ++ dates p.stands ++ dates (p.spells.take k))) (fun i _ => n3 - (intOf i).toNat)
            case atStart => exact ⟨0, _, rfl, Nat.zero_le _, HGE2.out, by show Ad _ _ _ (_ ++ dates []); rw [show dates [] = [] from rfl, List.append_nil]; exact HE2.out⟩
            case round =>
              obtain ⟨k, v, rfl, hk, hg, had⟩ := hrel
              have HG := Lib.hid hg
              have HA := Lib.hid had
              have hnb := HN3.out
              clear hg had
              by_cases hkn : k < n3
              · obtain ⟨b0, o0, e0, -, -, hc⟩ := six_at (HL3.out.below HG.out) hkn
                obtain ⟨x0, x1, x2, x3, x4, x5⟩ := hc _ (Below.refl _ _)
                have HN := Lib.hid (dates_snoc (l := p.spells) (k := k) (by rw [HL3.out.1]; exact hkn))
                have HLL := Lib.hid (show (dates p.loads ++ dates p.stands ++ dates (p.spells.take k)).length ≤ 1000 by
                  have h1 := dates_len (p.spells.take k)
                  have h2 := HPR3.out
                  rw [List.length_take] at h1
                  rw [List.length_append]
                  omega)
                obtain ⟨x, hxg⟩ : ∃ x, p.spells.getD k z6 = x := ⟨_, rfl⟩
                rw [hxg] at x0 x1 x2 x3 x4 x5 HN
                subst e0
                obtain ⟨W5, hW5⟩ : ∃ W, wr.alloc (.cells #[.int .i64 x.a, .int .i64 x.b, .int .i64 x.c, .int .i64 x.d, .int .i64 x.e, .int .i64 x.f] 107) = W := ⟨_, rfl⟩
                have b5 : Blk W5 wr.heap.size 107 #[.int .i64 x.a, .int .i64 x.b, .int .i64 x.c, .int .i64 x.d, .int .i64 x.e, .int .i64 x.f] := by rw [← hW5]; exact Blk.new _ _ _
                have g5 : Below wr.heap.size wr W5 := by rw [← hW5]; exact one_more _ _
                have HA5 := Lib.hid (HA.out.ext g5)
                have HG5 := Lib.hid (HG.out.trans (g5.mono HG.out.size))
                have q4 := b5.cell 4
                have q5 := b5.cell 5
                have TA := Lib.hid (add_any W3.heap.size x.e x.f v _ W5 HA5.out HLL.out)
                have HW5 := Lib.hid hW5
                clear hc hxg b5 g5 hW5
                go_upto_region 19 with fail
                rw [HW5.out]
                go_wp2_with (go_at_call 110; (with_reducible refine (TA.out).mono ?_); rintro e V ⟨rfl, ⟨v6, had6⟩, hg6⟩; have HA6 := Lib.hid had6; have HG6 := Lib.hid (HG5.out.trans hg6); clear had6 hg6)
                go_roundw
                case rel => exact ⟨k + 1, v6, by go_num, by omega, HG6.out, by rw [HN.out, ← List.append_assoc]; exact HA6.out⟩
                case measure => simp [intOf]; omega
              · obtain rfl : n3 = k := by omega
                have HE3 := Lib.hid (show Ad W3.heap.size wr v (dates p.loads ++ dates p.stands ++ dates p.spells) by have := HA.out; rwa [List.take_of_length_le (by rw [HL3.out.1]; exact Nat.le_refl _)] at this)
                have HGE3 := HG
                obtain ⟨V3, hV⟩ : ∃ V, wr = V := ⟨_, rfl⟩
                obtain ⟨v3, hv⟩ : ∃ V, v = V := ⟨_, rfl⟩
                rw [hV] at HE3 HGE3 ⊢
                rw [hv] at HE3
                clear HG HA hnb hkn hk hV hv
                have HDA := Lib.hid (show Ad W3.heap.size V3 v3 (datesAll p) from HE3.out)
                have HLA := Lib.hid (show (datesAll p).length ≤ 1000 by
                  have h1 := dates_len p.loads
                  have h2 := dates_len p.stands
                  have h3 := dates_len p.spells
                  have l1 := HL1.out.1
                  have l2 := HL2.out.1
                  have l3 := HL3.out.1
                  have k1 := HN1.out
                  have k2 := HN2.out
                  have k3 := HN3.out
                  unfold datesAll
                  rw [List.length_append, List.length_append]
                  omega)
                have HD := Lib.hid (show datesL p = Lib.compact (srt (datesAll p)) from rfl)
                obtain ⟨da, hda⟩ : ∃ d, datesAll p = d := ⟨_, rfl⟩
                rw [hda] at HDA HLA HD
                obtain ⟨A, c, hv, -, -, -, -⟩ := OwnL.arr kdI HDA.out.o
                obtain ⟨n, hn⟩ : ∃ n, da.length = n := ⟨_, rfl⟩
                rw [hn] at hv
                subst hv
                have hbw := HDA.out.b.lt
                have TS := Lib.hid (sort_any (W3.heap.size + 1) _ da V3 HDA.out.o (by have := HLA.out; omega) hbw)
                have q6 := HDA.out.b.cell 0
                have HBW := Lib.hid hbw
                clear hda hn hbw
                go_upto_region 22 with (go_at_call 111; (with_reducible refine (TS.out).mono ?_); rintro e V4 ⟨rfl, ho, hg⟩; have HO4 := Lib.hid ho; have HG4 := Lib.hid hg; clear ho hg)
                have HB4 := Lib.hid (show Blk V4 W3.heap.size 39 #[.slice A n c] from (HG4.out.block _ (Nat.lt_succ_self _)).trans HDA.out.b)
                have q7 := HB4.out.cell 0
                have TC := Lib.hid (compact_any (W3.heap.size + 1) _ (srt da) V4 HO4.out (by rw [show (srt da).length = da.length from List.length_mergeSort _]; have := HLA.out; omega) HB4.out.lt)
                clear q6
                go_wp2_with (go_at_call 112; (with_reducible refine (TC.out).mono ?_); rintro e V5 ⟨⟨u, rfl, ho, -⟩, hgr⟩; have HO5 := Lib.hid ho; have HG5 := Lib.hid hgr; clear ho hgr)
                obtain ⟨A5, c5, hv5, -, -, hi5, -⟩ := OwnL.arr kdI HO5.out
                subst hv5
                go_ret2
                exact ⟨⟨_, _, _, by rw [HER.out]; rfl, by rw [HRR.out, HD.out]; exact hi5⟩, (G3.out.trans ((HGE3.out.trans (HG4.out.mono (Nat.le_succ _))).mono G3.out.size)).grown HG5.out (by have := HB4.out.lt; have := G3.out.size; omega) (fun k e => by have := (own_lt HO4.out e).1; have := G3.out.size; omega)⟩
end Go.Proofs.YtkoejeghihcmlaaGreat
