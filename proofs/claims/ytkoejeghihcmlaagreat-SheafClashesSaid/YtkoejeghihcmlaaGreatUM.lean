/- The reference: a row, settled. -/
import Derived.Test.YtkoejeghihcmlaaGreatUL
namespace Go.Proofs.YtkoejeghihcmlaaGreat
open Go.RowKit Go.Shelf

theorem own_ne_blk {w : World} {base b : Nat} {t : TypeId} {cs : Array Value} {v : Value} {xs : List Rg} (h : OwnL rcells 2 33 w base v xs) (hb : Blk w b t cs) (ht : t ≠ 33) : v.ownBlock ≠ some b := fun e => by
  obtain ⟨-, -, cur, hc⟩ := own_cells h e
  unfold Blk at hb
  rw [hb] at hc
  simp at hc
  exact ht hc.2
theorem emptyR (V : World) : OwnL rcells 2 33 (V.alloc (.cells #[] 33)).drew V.heap.size (.slice (some ⟨V.heap.size, 0, none⟩) 0 0) [] := World.ownsRow_made (e := 33) (size := 2) V #[] 0 (Nat.le_refl _) (by decide) rfl
theorem emptyR2 (V : World) (o : Obj) : OwnL rcells 2 33 ((V.alloc o).alloc (.cells #[] 33)).drew V.heap.size (.slice (some ⟨V.heap.size + 1, 0, none⟩) 0 0) [] := by
  have := World.ownsRow_made (e := 33) (size := 2) (base := V.heap.size) (V.alloc o) #[] 0 (by simp) (by decide) rfl
  rw [World.size_alloc] at this
  exact this
theorem fwdK_succ (ls : List Six) (st : List Rg) (k : Nat) : fwdK ls st (k + 1) = nar (fwdK ls st k) (k + 1) ⟨((fwdK ls st k).getD k zR).lo - (ls.getD k z6).d, ((fwdK ls st k).getD k zR).hi - (ls.getD k z6).c⟩ := rfl
theorem bwdK_succ (ls : List Six) (st : List Rg) (k : Nat) : bwdK ls st (k + 1) = nar (bwdK ls st k) (ls.length - 1 - k) ⟨((bwdK ls st k).getD (ls.length - k) zR).lo + (ls.getD (ls.length - 1 - k) z6).c, ((bwdK ls st k).getD (ls.length - k) zR).hi + (ls.getD (ls.length - 1 - k) z6).d⟩ := rfl
theorem fwdK_bd {ls : List Six} {st : List Rg} (hw : Wb ls) (hl : st.length = ls.length + 1) (hb : Bd st 10000000) : ∀ k, k ≤ ls.length → Bd (fwdK ls st k) (10000000 + 10000 * (k : Int))
  | 0, _ => by simpa [fwdK] using hb
  | k + 1, hk => by
    have ih := fwdK_bd hw hl hb k (by omega)
    have := ih.fwd hw (by rw [fwd_len]; exact hl) (i := k) (by omega)
    exact (show Bd (fwdK ls st (k + 1)) _ from this).mono (by omega)
theorem bwdK_bd {ls : List Six} {st : List Rg} (hw : Wb ls) (hl : st.length = ls.length + 1) (hb : Bd st 20000000) : ∀ k, k ≤ ls.length → Bd (bwdK ls st k) (20000000 + 10000 * (k : Int))
  | 0, _ => by simpa [bwdK] using hb
  | k + 1, hk => by
    have ih := bwdK_bd hw hl hb k (by omega)
    have hlen := bwd_len ls st k
    have h1 := ih (ls.length - k) (by omega)
    have h2 := hw (ls.length - 1 - k) (by omega)
    rw [bwdK_succ]
    refine (ih.nar (D := 10000) (by decide) ?_ (by omega)).mono (by omega)
    dsimp only
    unfold Ls Gr at h2
    unfold Lo Hi at h1
    omega
set_option maxRecDepth 100000 in
set_option maxHeartbeats 16000000 in
theorem refSettled_any (A : Option Addr) (n c : Nat) (L : List Six) (B : Option Addr) (q d : Nat) (st : List Rg) (w : World) (ha : Arr scells 6 w A n L) (hs : Arr rcells 2 w B q st) (hn : n ≤ 1000) (hq : q = n + 1) (hw : Wb L) (hb : Bd st 10000000) :
    Calls Tryz.prog 122 #[.agg #[.slice A n c, .slice B q d]] w fun e w' => (∃ B' d', e = .returned (.tuple #[.agg #[.slice A n c, .slice B' q d'], .bool (sound (settle L st))]) ∧ OwnL rcells 2 33 w' w.heap.size (.slice B' q d') (settle L st)) ∧ Below w.heap.size w w' := by
  obtain ⟨W2, hW2⟩ : ∃ W2, (w.alloc (.cells #[.slice A n c, .slice B q d] 191)).alloc (.cells #[.slice none 0 0, .slice none 0 0] 191) = W2 := ⟨_, rfl⟩
  have g0 : Below w.heap.size w W2 := by rw [← hW2]; exact two_more _ _ _
  have b1 : Blk W2 w.heap.size 191 #[.slice A n c, .slice B q d] := by rw [← hW2]; exact (Blk.new _ _ _).alloc _
  have b2 : Blk W2 (w.heap.size + 1) 191 #[.slice none 0 0, .slice none 0 0] := by
    rw [← hW2]
    have := Blk.new (w.alloc (.cells #[.slice A n c, .slice B q d] 191)) 191 #[.slice none 0 0, .slice none 0 0]
    rwa [World.size_alloc] at this
  have HA := Lib.hid (ha.below g0)
  have HS := Lib.hid (hs.below g0)
  have HLN := Lib.hid ha.1
  have HSL := Lib.hid (show st.length = L.length + 1 by rw [hs.1, ha.1]; exact hq)
  have HFB := Lib.hid (fun k hk => fwdK_bd hw HSL.out hb k hk)
  have HBB := Lib.hid (show ∀ k, k ≤ L.length → Bd (bwdK L (fwdK L st L.length) k) (20000000 + 10000 * (k : Int)) from fun k hk => bwdK_bd hw (by rw [fwd_len]; exact HSL.out) ((fwdK_bd hw HSL.out hb L.length (Nat.le_refl _)).mono (by have := ha.1; omega)) k hk)
  have HWB := Lib.hid hw
  have HQ := Lib.hid hq
  have HN9 := Lib.hid hn
  have GA := Lib.hid g0
  have HB1 := Lib.hid b1
  have HB2 := Lib.hid b2
  have HW2 := Lib.hid hW2
  have HSZ := Lib.hid b2.lt
  have k0 := b1.cell 0
  have k1 := b1.cell 1
  have HKP := Lib.hid (fun X (g : Below W2.heap.size W2 X) => (⟨(HB1.out.ext g).cell 0, (HB1.out.ext g).cell 1⟩ : X.cell? ⟨w.heap.size, 0, none⟩ = some (.slice A n c) ∧ X.cell? ⟨w.heap.size, 1, none⟩ = some (.slice B q d)))
  clear ha hs g0 b1 b2 hW2 hw hb hq
  go_enter Tryz.func122, Tryz.ntmps122
  go_upto_region 1 with fail
  rw [HW2.out]
  have GE1 := Lib.hid (show Below W2.heap.size W2 (W2.alloc (.cells #[] 33)).drew from (one_more _ _).drew)
  have GE2 := Lib.hid (show Below W2.heap.size W2 ((W2.alloc (.cells #[] 33)).alloc (.cells #[.slice none 0 0, .slice none 0 0] 191)).drew from (two_more _ _ _).drew)
  have GE3 := Lib.hid (show Below W2.heap.size W2 ((W2.alloc (.cells #[.slice none 0 0, .slice none 0 0] 191)).alloc (.cells #[] 33)).drew from (two_more _ _ _).drew)
  have OE1 := Lib.hid (emptyR W2)
  have OE2 := Lib.hid (OwnL.ext (w := W2.alloc (.cells #[] 33)) (emptyR W2) ((one_more (W2.alloc (.cells #[] 33)) (.cells #[.slice none 0 0, .slice none 0 0] 191)).drew))
  have OE3 := Lib.hid (emptyR2 W2 (.cells #[.slice none 0 0, .slice none 0 0] 191))
  have BX2 := Lib.hid (show Blk ((W2.alloc (.cells #[] 33)).alloc (.cells #[.slice none 0 0, .slice none 0 0] 191)).drew (W2.heap.size + 1) 191 #[.slice none 0 0, .slice none 0 0] by
    have := Blk.new (W2.alloc (.cells #[] 33)) 191 #[.slice none 0 0, .slice none 0 0]
    rw [World.size_alloc] at this
    exact this)
  have BX3 := Lib.hid (show Blk ((W2.alloc (.cells #[.slice none 0 0, .slice none 0 0] 191)).alloc (.cells #[] 33)).drew W2.heap.size 191 #[.slice none 0 0, .slice none 0 0] from (Blk.new W2 191 _).alloc _)
  obtain ⟨base, hbase⟩ : ∃ base, W2.heap.size = base := ⟨_, rfl⟩
  rw [hbase] at OE1 OE2 OE3 BX2 BX3
  have HBS := Lib.hid hbase
  have hq9 : q ≤ 1001 := by have := HQ.out; have := HN9.out; omega
  go_cut [4] from 10 to 16 (fun s wx => ∃ b4 B' d', s = .pointer (some ⟨b4, 0, none⟩) ∧ base ≤ b4 ∧ Below base W2 wx ∧ Blk wx b4 191 #[.slice A n c, .slice B' q d'] ∧ OwnL rcells 2 33 wx base (.slice B' q d') st)
  case first =>
    go_region_held3 (fun X => X.cell? ⟨w.heap.size, 0, none⟩ = some (.slice A n c) ∧ X.cell? ⟨w.heap.size, 1, none⟩ = some (.slice B q d))
      (with_reducible refine HKP.out _ ?_; repeat' first | (with_reducible exact Below.refl _ _) | (with_reducible exact HGA.out) | (with_reducible refine Below.drew ?_) | (with_reducible refine Below.allo9 ?_ (by first | (simp; done) | (simp; omega) | omega) _) | (with_reducible refine Below.setCell ?_ (by dsimp only; omega) _))
      (first
        | (refine step_app kdR (by rfl) _ _ (by rfl) base _ [] (by rfl) OE1.out B q d st (by rfl) (HS.out.below GE1.out) (by simp; omega) (by have := GE1.out.size; have := HBS.out; omega) ?_; intro v1 w1 ho1 hg1 hat1; have hbw := OE1.out.below hg1 (Nat.le_refl base) (by have := GE1.out.size; have := HBS.out; omega); have HGA := Lib.hid (show Below W2.heap.size W2 w1 from GE1.out.trans (hbw.mono (by have := HBS.out; omega))); have HO1 := Lib.hid (show OwnL rcells 2 33 w1 base v1 st by simpa using ho1); have hsa : base ≤ w1.heap.size := (by have := HGA.out.size; have := HBS.out; omega); obtain ⟨B', d', hv', -, -, -, -⟩ := OwnL.arr kdR HO1.out; rw [HS.out.1] at hv'; subst hv'; clear hbw ho1 hg1 hat1)
        | (refine step_app kdR (by rfl) _ _ (by rfl) base _ [] (by rfl) OE2.out B q d st (by rfl) (HS.out.below GE2.out) (by simp; omega) (by have := GE2.out.size; have := HBS.out; omega) ?_; intro v1 w1 ho1 hg1 hat1; have hbw := OE2.out.below hg1 (Nat.le_refl base) (by have := GE2.out.size; have := HBS.out; omega); have HGA := Lib.hid (show Below W2.heap.size W2 w1 from GE2.out.trans (hbw.mono (by have := HBS.out; omega))); have HO1 := Lib.hid (show OwnL rcells 2 33 w1 base v1 st by simpa using ho1); have hsa : base ≤ w1.heap.size := (by have := HGA.out.size; have := HBS.out; omega); obtain ⟨B', d', hv', -, -, -, -⟩ := OwnL.arr kdR HO1.out; rw [HS.out.1] at hv'; subst hv'; have KN := Lib.hid (show Blk w1 (base + 1) 191 #[.slice none 0 0, .slice none 0 0] from (hg1.block (base + 1) BX2.out.lt (by simp [Value.ownBlock])).trans BX2.out); have a0 := KN.out.cell 0; have a1 := KN.out.cell 1; have a2 := KN.out.frozen 0; have a3 := KN.out.frozen 1; clear hbw ho1 hg1 hat1)
        | (refine step_app kdR (by rfl) _ _ (by rfl) base _ [] (by rfl) OE3.out B q d st (by rfl) (HS.out.below GE3.out) (by simp; omega) (by have := GE3.out.size; have := HBS.out; omega) ?_; intro v1 w1 ho1 hg1 hat1; have hbw := OE3.out.below hg1 (Nat.le_refl base) (by have := GE3.out.size; have := HBS.out; omega); have HGA := Lib.hid (show Below W2.heap.size W2 w1 from GE3.out.trans (hbw.mono (by have := HBS.out; omega))); have HO1 := Lib.hid (show OwnL rcells 2 33 w1 base v1 st by simpa using ho1); have hsa : base ≤ w1.heap.size := (by have := HGA.out.size; have := HBS.out; omega); obtain ⟨B', d', hv', -, -, -, -⟩ := OwnL.arr kdR HO1.out; rw [HS.out.1] at hv'; subst hv'; have KN := Lib.hid (show Blk w1 base 191 #[.slice none 0 0, .slice none 0 0] from (hg1.block base BX3.out.lt (by simp [Value.ownBlock])).trans BX3.out); have a0 := KN.out.cell 0; have a1 := KN.out.cell 1; have a2 := KN.out.frozen 0; have a3 := KN.out.frozen 1; clear hbw ho1 hg1 hat1))
    all_goals (try go_wp2_with fail)
    all_goals go_meet
    all_goals first
      | exact ⟨_, _, _, rfl, hsa, by rw [← HBS.out]; exact HGA.out.trans ((one_more w1 _).mono HGA.out.size), Blk.new _ _ _, HO1.out.ext (one_more w1 _)⟩
      | exact ⟨_, _, _, rfl, by omega, ((by rw [← HBS.out]; exact HGA.out : Below base W2 w1).setCell (p := ⟨base + 1, 0, none⟩) (by dsimp only; omega) _).setCell (p := ⟨base + 1, 1, none⟩) (by dsimp only; omega) _, (KN.out.set_ 0 _).set_ 1 _, (HO1.out.apart (p := ⟨base + 1, 0, none⟩) (own_ne_blk HO1.out KN.out (by decide)) _).apart (p := ⟨base + 1, 1, none⟩) (own_ne_blk HO1.out KN.out (by decide)) _⟩
      | exact ⟨_, _, _, rfl, by omega, ((by rw [← HBS.out]; exact HGA.out : Below base W2 w1).setCell (p := ⟨base, 0, none⟩) (by dsimp only; omega) _).setCell (p := ⟨base, 1, none⟩) (by dsimp only; omega) _, (KN.out.set_ 0 _).set_ 1 _, (HO1.out.apart (p := ⟨base, 0, none⟩) (own_ne_blk HO1.out KN.out (by decide)) _).apart (p := ⟨base, 1, none⟩) (own_ne_blk HO1.out KN.out (by decide)) _⟩
  case rest =>
    obtain ⟨b4, B4, d4, rfl, hb4, hg, hbl, hso⟩ := hcut
    obtain ⟨gB, hB⟩ := own_someR hso (by have := HQ.out; omega)
    subst hB
    have GC := Lib.hid hg
    have BC := Lib.hid hbl
    have SC := Lib.hid (show OwnL rcells 2 33 wc base (.slice (some ⟨gB, 0, none⟩) q d4) (fwdK L st 0) from hso)
    have HB4 := Lib.hid hb4
    have c1' := hbl.cell 1
    obtain ⟨V4, hV4⟩ : ∃ V4, wc = V4 := ⟨_, rfl⟩
    rw [hV4] at GC BC SC ⊢
    clear hV4 hg hbl hso k0 k1 c1' hb4
    go_wp2_with fail
    go_loopw [5] (fun i wr => ∃ k : Nat, i = .int .i64 k ∧ k ≤ n ∧ Below base W2 wr ∧ Blk wr b4 191 #[.slice A n c, .slice (some ⟨gB, 0, none⟩) q d4] ∧ OwnL rcells 2 33 wr base (.slice (some ⟨gB, 0, none⟩) q d4) (fwdK L st k)) (fun i _ => n - (intOf i).toNat)
    case atStart => exact ⟨0, rfl, Nat.zero_le _, GC.out, BC.out, SC.out⟩
    case round =>
      clear GC BC SC
      obtain ⟨k, rfl, hk, hg, hbl, hso⟩ := hrel
      obtain ⟨V, rfl⟩ : ∃ V : World, V = wr := ⟨_, rfl⟩
      have GV := Lib.hid hg
      have BV := Lib.hid hbl
      have SV := Lib.hid hso
      have hvb : W2.heap.size ≤ V.heap.size := hg.size
      have GW := Lib.hid (show Below W2.heap.size W2 V by rw [HBS.out]; exact hg)
      have m0 := (HB1.out.ext GW.out).cell 0
      have t1 := hbl.cell 1
      have hk9 : k ≤ 1000 := by have := HN9.out; omega
      clear hg hbl hso
      by_cases hkn : k < n
      · obtain ⟨b9, o9, e9, -, -, hc9⟩ := six_at (HA.out.below GW.out) hkn
        obtain ⟨x0, x1, x2, x3, x4, x5⟩ := hc9 _ (Below.refl _ _)
        obtain ⟨sp, hsp⟩ : ∃ l, fwdK L st k = l := ⟨_, rfl⟩
        have HFS := Lib.hid (fwdK_succ L st k)
        have HBD := Lib.hid (HFB.out k (by rw [HLN.out]; omega))
        have HSP := Lib.hid (show sp.length = n + 1 by rw [← hsp, fwd_len, HSL.out, HLN.out])
        have hwx := HWB.out k (by rw [HLN.out]; exact hkn)
        unfold Ls Gr at hwx
        rw [hsp] at HFS HBD SV
        obtain ⟨s, hs⟩ : ∃ s, L.getD k z6 = s := ⟨_, rfl⟩
        rw [hs] at x2 x3 HFS hwx
        subst e9
        have hki : (k : Int) < (n : Int) := by omega
        clear hc9 hs hsp x0 x1 x4 x5
        go_upto_region 6 with fail
        obtain ⟨V1, hV1⟩ : ∃ V1, V.alloc (.cells #[.int .i64 s.c, .int .i64 s.d] 33) = V1 := ⟨_, rfl⟩
        have g1 : Below V.heap.size V V1 := by rw [← hV1]; exact one_more _ _
        have BS := Lib.hid (show Blk V1 V.heap.size 33 #[.int .i64 s.c, .int .i64 s.d] by rw [← hV1]; exact Blk.new _ _ _)
        rw [hV1]
        have G1 := Lib.hid (GV.out.trans (g1.mono (by have := HBS.out; omega)))
        have B1' := Lib.hid (BV.out.ext g1)
        have S1' := Lib.hid (SV.out.ext g1)
        clear hV1 g1 x2 x3 m0 t1
        obtain ⟨b8, o8, e8, -, hc8⟩ := rg_at9 (own_arrR S1'.out) (k := k) (by have := HQ.out; omega)
        cases e8
        obtain ⟨b8, o8, e8, -, hd8⟩ := rg_at9 (own_arrR S1'.out) (k := k + 1) (by have := HQ.out; omega)
        cases e8
        simp only [Nat.zero_add] at hc8 hd8
        obtain ⟨ra, hra⟩ : ∃ r, sp.getD k zR = r := ⟨_, rfl⟩
        obtain ⟨rb, hrb⟩ : ∃ r, sp.getD (k + 1) zR = r := ⟨_, rfl⟩
        have hbd := HBD.out k (by have := HSP.out; omega)
        unfold Lo Hi at hbd
        rw [hra] at hc8 HFS hbd
        rw [hrb] at hd8
        have HRB := Lib.hid hrb
        clear hra hrb
        have u0 := cellW (B1'.out.cell 1)
        have u1 := cellW (hc8 _ (Below.refl _ _)).1
        have u2 := cellW (hc8 _ (Below.refl _ _)).2
        have u3 := cellW (hd8 _ (Below.refl _ _)).1
        have u4 := cellW (hd8 _ (Below.refl _ _)).2
        have u5 := cellW (BS.out.cell 0)
        have u6 := cellW (BS.out.cell 1)
        have hw1 : IntKind.i64.wrap (ra.lo - s.d) = ra.lo - s.d := by rw [IntKind.wrap_i64]; omega
        have hw2 : IntKind.i64.wrap (ra.hi - s.c) = ra.hi - s.c := by rw [IntKind.wrap_i64]; omega
        have hw3 : IntKind.i64.wrap ((k : Int) + 1) = (k : Int) + 1 := by rw [IntKind.wrap_i64]; omega
        have hq1 : (k : Int) < (q : Int) := by have := HQ.out; omega
        have hq2 : (k : Int) + 1 < (q : Int) := by have := HQ.out; omega
        have hq3 : ((k : Int) + 1).toNat = k + 1 := by omega
        have hq4 : (0 : Int) ≤ (k : Int) + 1 := by omega
        clear hc8 hd8 hbd hwx
        refine wp_region_calm_tail V1 31 (by kernel_rfl) (by kernel_rfl) (Below.refl _ _) ?_
        simp only [List.take_succ_cons, List.take_zero, List.drop_succ_cons, List.drop_zero]
        repeat (go_big_quiet_step ((go_at_call 121; exact callsCalm (cut_any _ _ _ _ _))))
        refine wpQuiet_nil ?_
        rintro _ ⟨z, rfl⟩
        obtain ⟨V9, hV9⟩ : ∃ V9, z.val = V9 := ⟨_, rfl⟩
        have g9 := z.ok
        rw [hV9] at g9 ⊢
        have G9 := Lib.hid g9
        clear g9 hV9 z u0 u1 u2 u3 u4 u5 u6
        have i0 := (B1'.out.ext G9.out).cell 1
        have HC9 := rg_at9 (own_arrR (S1'.out.ext G9.out)) (k := k + 1) (by have := HQ.out; omega)
        obtain ⟨b8, o8, e8, hx8, hc8⟩ := HC9
        cases e8
        simp only [Nat.zero_add] at hc8
        rw [HRB.out] at hc8 hx8
        obtain ⟨i1, i2⟩ := hc8 _ (Below.refl _ _)
        have f0 := own_freeR (S1'.out.ext G9.out) ((k + 1) * 2)
        have f1 := own_freeR (S1'.out.ext G9.out) ((k + 1) * 2 + 1)
        have HX8 := Lib.hid hx8
        clear hc8 hx8
        go_wp2_with fail
        have hO := (S1'.out.ext G9.out)
        have hp1 := hO.put1 rcells_len (x := rb) (x' := ⟨max rb.lo (ra.lo - s.d), rb.hi⟩) (u := .int .i64 (max rb.lo (ra.lo - s.d))) (j := 0) HX8.out (by decide) rfl
        have hlt : k + 1 < sp.length := (List.getElem?_eq_some_iff.1 HX8.out).1
        have hp2 := hp1.put1 rcells_len (x := ⟨max rb.lo (ra.lo - s.d), rb.hi⟩) (x' := ⟨max rb.lo (ra.lo - s.d), min rb.hi (ra.hi - s.c)⟩) (u := .int .i64 (min rb.hi (ra.hi - s.c))) (j := 1) (i := k + 1) (by rw [List.getElem?_set_self hlt]) (by decide) rfl
        rw [List.set_set] at hp2
        have hgb := (own_lt hO (k := gB) rfl).1
        have hne := own_ne_blk hO (B1'.out.ext G9.out) (by decide)
        have hneb : gB ≠ b4 := fun e => hne (by rw [← e]; rfl)
        go_roundw
        case rel => exact ⟨k + 1, by go_num, by omega, ((G1.out.trans (G9.out.mono (by have := G1.out.size; have := HBS.out; omega))).setCell (p := ⟨gB, (k + 1) * 2, none⟩) hgb _).setCell (p := ⟨gB, (k + 1) * 2 + 1, none⟩) hgb _,
          ((B1'.out.ext G9.out).far (p := ⟨gB, (k + 1) * 2, none⟩) (fun e => hneb e.symm) _).far (p := ⟨gB, (k + 1) * 2 + 1, none⟩) (fun e => hneb e.symm) _,
          by rw [HFS.out]; unfold nar; rw [HRB.out]; exact hp2⟩
        case measure => simp [intOf]; omega
      · obtain rfl : n = k := by omega
        have HFN := Lib.hid (show settle L st = bwdK L (fwdK L st n) n by unfold settle; rw [HLN.out])
        rw [HLN.out] at HBB
        obtain ⟨fw, hfw⟩ : ∃ l, fwdK L st n = l := ⟨_, rfl⟩
        rw [hfw] at HFN HBB SV
        have HFL := Lib.hid (show fw.length = n + 1 by rw [← hfw, fwd_len, HSL.out, HLN.out])
        clear hfw
        have S9 := Lib.hid (show OwnL rcells 2 33 V base (.slice (some ⟨gB, 0, none⟩) q d4) (bwdK L fw 0) from SV.out)
        have hw7 : IntKind.i64.wrap ((n : Int) - 1) = (n : Int) - 1 := by rw [IntKind.wrap_i64]; omega
        clear SV
        go_wp2_with fail
        go_loopw [7] (fun i wr => ∃ k : Nat, k ≤ n ∧ i = .int .i64 ((n : Int) - 1 - (k : Int)) ∧ Below base W2 wr ∧ Blk wr b4 191 #[.slice A n c, .slice (some ⟨gB, 0, none⟩) q d4] ∧ OwnL rcells 2 33 wr base (.slice (some ⟨gB, 0, none⟩) q d4) (bwdK L fw k)) (fun i _ => (intOf i + 1).toNat)
        case atStart => exact ⟨0, Nat.zero_le _, by simp, GV.out, BV.out, S9.out⟩
        case round =>
          clear S9 GV BV GW m0 t1
          obtain ⟨k, hk, rfl, hg, hbl, hso⟩ := hrel
          obtain ⟨V, rfl⟩ : ∃ V : World, V = wr := ⟨_, rfl⟩
          have GV := Lib.hid hg
          have BV := Lib.hid hbl
          have SV := Lib.hid hso
          have hvb : W2.heap.size ≤ V.heap.size := hg.size
          have GW := Lib.hid (show Below W2.heap.size W2 V by rw [HBS.out]; exact hg)
          have m0 := (HB1.out.ext GW.out).cell 0
          have t1 := hbl.cell 1
          have hk9 : k ≤ 1000 := by have := HN9.out; omega
          clear hg hbl hso
          by_cases hkn : k < n
          · obtain ⟨t, ht⟩ : ∃ t, n - 1 - k = t := ⟨_, rfl⟩
            have HT := Lib.hid (show t + k + 1 = n by omega)
            have et : ((n : Int) - 1 - (k : Int)) = (t : Int) := by omega
            have htn : t < n := by omega
            rw [et]
            obtain ⟨b9, o9, e9, -, -, hc9⟩ := six_at (HA.out.below GW.out) htn
            obtain ⟨x0, x1, x2, x3, x4, x5⟩ := hc9 _ (Below.refl _ _)
            obtain ⟨sp, hsp⟩ : ∃ l, bwdK L fw k = l := ⟨_, rfl⟩
            have HFS := Lib.hid (show bwdK L fw (k + 1) = nar (bwdK L fw k) t ⟨((bwdK L fw k).getD (t + 1) zR).lo + (L.getD t z6).c, ((bwdK L fw k).getD (t + 1) zR).hi + (L.getD t z6).d⟩ by
              rw [bwdK_succ, HLN.out, ht, show n - k = t + 1 by omega])
            have HBD := Lib.hid (HBB.out k (by omega))
            have HSP := Lib.hid (show sp.length = n + 1 by rw [← hsp, bwd_len, HFL.out])
            have hwx := HWB.out t (by rw [HLN.out]; exact htn)
            unfold Ls Gr at hwx
            rw [hsp] at HFS HBD SV
            obtain ⟨s, hs⟩ : ∃ s, L.getD t z6 = s := ⟨_, rfl⟩
            rw [hs] at x2 x3 HFS hwx
            subst e9
            have hti : (t : Int) < (n : Int) := by omega
            have ht9 : t ≤ 1000 := by omega
            have htp : (0 : Int) ≤ (t : Int) := by omega
            have hw9 : IntKind.i64.wrap ((t : Int) - 1) = (t : Int) - 1 := by rw [IntKind.wrap_i64]; omega
            clear hc9 hs hsp x0 x1 x4 x5 et ht
            go_upto_region 11 with fail
            obtain ⟨V1, hV1⟩ : ∃ V1, V.alloc (.cells #[.int .i64 s.c, .int .i64 s.d] 33) = V1 := ⟨_, rfl⟩
            have g1 : Below V.heap.size V V1 := by rw [← hV1]; exact one_more _ _
            have BS := Lib.hid (show Blk V1 V.heap.size 33 #[.int .i64 s.c, .int .i64 s.d] by rw [← hV1]; exact Blk.new _ _ _)
            rw [hV1]
            have G1 := Lib.hid (GV.out.trans (g1.mono (by have := HBS.out; omega)))
            have B1' := Lib.hid (BV.out.ext g1)
            have S1' := Lib.hid (SV.out.ext g1)
            clear hV1 g1 x2 x3 m0 t1
            obtain ⟨b8, o8, e8, -, hc8⟩ := rg_at9 (own_arrR S1'.out) (k := t + 1) (by have := HQ.out; omega)
            cases e8
            obtain ⟨b8, o8, e8, -, hd8⟩ := rg_at9 (own_arrR S1'.out) (k := t) (by have := HQ.out; omega)
            cases e8
            simp only [Nat.zero_add] at hc8 hd8
            obtain ⟨ra, hra⟩ : ∃ r, sp.getD (t + 1) zR = r := ⟨_, rfl⟩
            obtain ⟨rb, hrb⟩ : ∃ r, sp.getD t zR = r := ⟨_, rfl⟩
            have hbd := HBD.out (t + 1) (by have := HSP.out; omega)
            unfold Lo Hi at hbd
            rw [hra] at hc8 HFS hbd
            rw [hrb] at hd8
            have HRB := Lib.hid hrb
            clear hra hrb
            have u0 := cellW (B1'.out.cell 1)
            have u1 := cellW (hc8 _ (Below.refl _ _)).1
            have u2 := cellW (hc8 _ (Below.refl _ _)).2
            have u3 := cellW (hd8 _ (Below.refl _ _)).1
            have u4 := cellW (hd8 _ (Below.refl _ _)).2
            have u5 := cellW (BS.out.cell 0)
            have u6 := cellW (BS.out.cell 1)
            have hw1 : IntKind.i64.wrap (ra.lo + s.c) = ra.lo + s.c := by rw [IntKind.wrap_i64]; omega
            have hw2 : IntKind.i64.wrap (ra.hi + s.d) = ra.hi + s.d := by rw [IntKind.wrap_i64]; omega
            have hw3 : IntKind.i64.wrap ((t : Int) + 1) = (t : Int) + 1 := by rw [IntKind.wrap_i64]; omega
            have hq1 : (t : Int) < (q : Int) := by have := HQ.out; omega
            have hq2 : (t : Int) + 1 < (q : Int) := by have := HQ.out; omega
            have hq3 : ((t : Int) + 1).toNat = t + 1 := by omega
            have hq4 : (0 : Int) ≤ (t : Int) + 1 := by omega
            clear hc8 hd8 hbd hwx
            refine wp_region_calm_tail V1 31 (by kernel_rfl) (by kernel_rfl) (Below.refl _ _) ?_
            simp only [List.take_succ_cons, List.take_zero, List.drop_succ_cons, List.drop_zero]
            repeat (go_big_quiet_step ((go_at_call 121; exact callsCalm (cut_any _ _ _ _ _))))
            refine wpQuiet_nil ?_
            rintro _ ⟨z, rfl⟩
            obtain ⟨V9, hV9⟩ : ∃ V9, z.val = V9 := ⟨_, rfl⟩
            have g9 := z.ok
            rw [hV9] at g9 ⊢
            have G9 := Lib.hid g9
            clear g9 hV9 z u0 u1 u2 u3 u4 u5 u6
            have i0 := (B1'.out.ext G9.out).cell 1
            have HC9 := rg_at9 (own_arrR (S1'.out.ext G9.out)) (k := t) (by have := HQ.out; omega)
            obtain ⟨b8, o8, e8, hx8, hc8⟩ := HC9
            cases e8
            simp only [Nat.zero_add] at hc8
            rw [HRB.out] at hc8 hx8
            obtain ⟨i1, i2⟩ := hc8 _ (Below.refl _ _)
            have f0 := own_freeR (S1'.out.ext G9.out) (t * 2)
            have f1 := own_freeR (S1'.out.ext G9.out) (t * 2 + 1)
            have HX8 := Lib.hid hx8
            clear hc8 hx8
            go_wp2_with fail
            have hO := (S1'.out.ext G9.out)
            have hp1 := hO.put1 rcells_len (x := rb) (x' := ⟨max rb.lo (ra.lo + s.c), rb.hi⟩) (u := .int .i64 (max rb.lo (ra.lo + s.c))) (j := 0) HX8.out (by decide) rfl
            have hlt : t < sp.length := (List.getElem?_eq_some_iff.1 HX8.out).1
            have hp2 := hp1.put1 rcells_len (x := ⟨max rb.lo (ra.lo + s.c), rb.hi⟩) (x' := ⟨max rb.lo (ra.lo + s.c), min rb.hi (ra.hi + s.d)⟩) (u := .int .i64 (min rb.hi (ra.hi + s.d))) (j := 1) (i := t) (by rw [List.getElem?_set_self hlt]) (by decide) rfl
            rw [List.set_set] at hp2
            have hgb := (own_lt hO (k := gB) rfl).1
            have hne := own_ne_blk hO (B1'.out.ext G9.out) (by decide)
            have hneb : gB ≠ b4 := fun e => hne (by rw [← e]; rfl)
            go_roundw
            case rel => exact ⟨k + 1, by omega, by (have := HT.out; first | (simp; done) | (simp; omega) | (congr 1; omega)), ((G1.out.trans (G9.out.mono (by have := G1.out.size; have := HBS.out; omega))).setCell (p := ⟨gB, t * 2, none⟩) hgb _).setCell (p := ⟨gB, t * 2 + 1, none⟩) hgb _,
              ((B1'.out.ext G9.out).far (p := ⟨gB, t * 2, none⟩) (fun e => hneb e.symm) _).far (p := ⟨gB, t * 2 + 1, none⟩) (fun e => hneb e.symm) _,
              by rw [HFS.out]; unfold nar; rw [HRB.out]; exact hp2⟩
            case measure => (have := HT.out; first | (simp [intOf]; done) | (simp [intOf]; omega))
          · obtain rfl : n = k := by omega
            have em : (n : Int) - 1 - (n : Int) = -1 := by omega
            rw [em, ]
            rw [← HFN.out] at SV
            obtain ⟨sl, hsl⟩ : ∃ l, settle L st = l := ⟨_, rfl⟩
            rw [hsl] at SV
            have HSE := Lib.hid hsl
            have HSLn := Lib.hid (show sl.length = q by rw [← hsl, settle_len, HSL.out, HLN.out]; exact HQ.out.symm)
            have S9 := Lib.hid SV.out
            clear SV hsl em
            go_wp2_with fail
            go_loopw [9] (fun i wr => ∃ j : Nat, i = .int .i64 j ∧ j ≤ q ∧ Below base W2 wr ∧ Blk wr b4 191 #[.slice A n c, .slice (some ⟨gB, 0, none⟩) q d4] ∧ OwnL rcells 2 33 wr base (.slice (some ⟨gB, 0, none⟩) q d4) sl ∧ ∀ r, r < j → Lo sl r ≤ Hi sl r) (fun i _ => q - (intOf i).toNat)
            case atStart => exact ⟨0, rfl, Nat.zero_le _, GV.out, BV.out, S9.out, fun r hr => absurd hr (by omega)⟩
            case round =>
              clear S9 GV BV GW m0 t1
              obtain ⟨j, rfl, hj, hg, hbl, hso, hall⟩ := hrel
              obtain ⟨V, rfl⟩ : ∃ V : World, V = wr := ⟨_, rfl⟩
              have GV := Lib.hid hg
              have BV := Lib.hid hbl
              have SV := Lib.hid hso
              have HALL := Lib.hid hall
              have GW := Lib.hid (show Below W2.heap.size W2 V by rw [HBS.out]; exact hg)
              have t1 := hbl.cell 1
              clear hg hbl hso hall
              by_cases hjq : j < q
              · obtain ⟨b8, o8, e8, hx8, hc8⟩ := rg_at9 (own_arrR SV.out) (k := j) hjq
                cases e8
                simp only [Nat.zero_add] at hc8
                obtain ⟨r, hr⟩ : ∃ r, sl.getD j zR = r := ⟨_, rfl⟩
                rw [hr] at hc8
                have u0 := cellW t1
                have u1 := cellW (hc8 _ (Below.refl _ _)).1
                have u2 := cellW (hc8 _ (Below.refl _ _)).2
                have HR := Lib.hid hr
                have hji : (j : Int) < (q : Int) := by omega
                clear hc8 hx8 hr
                by_cases hle : r.hi < r.lo
                · have hd := decide_eq_true hle
                  have HSN := Lib.hid (show sound sl = false by
                    rw [← Bool.not_eq_true, sound_iff]
                    intro h
                    have := h j (by rw [HSLn.out]; exact hjq)
                    unfold Lo Hi at this
                    rw [HR.out] at this
                    omega)
                  go_upto_region 15 with fail
                  refine wp_region_calm V (by kernel_rfl) (by kernel_rfl) (Below.refl _ _) ?_
                  repeat (go_big_quiet_step (fail))
                  refine wpQuiet_nil ?_
                  rintro _ ⟨z, rfl⟩
                  obtain ⟨V9, hV9⟩ : ∃ V9, z.val = V9 := ⟨_, rfl⟩
                  have g9 := z.ok
                  rw [hV9] at g9 ⊢
                  have GW := Lib.hid (GW.out.trans (g9.mono GW.out.size))
                  have BV := Lib.hid (BV.out.ext g9)
                  have SV := Lib.hid (SV.out.ext g9)
                  clear g9 hV9 z u0 u1 u2 t1
                  have HBR := Lib.hid (HB2.out.ext GW.out)
                  have m1 := HBR.out.cell 0
                  have m2 := HBR.out.cell 1
                  have z0 := HBR.out.frozen 0
                  have z1 := HBR.out.frozen 1
                  have c0 := BV.out.cell 0
                  have c1 := BV.out.cell 1
                  have hne4 : b4 ≠ w.heap.size + 1 := by have := HSZ.out; have := HB4.out; have := HBS.out; omega
                  go_wp2_with fail
                  have hb9 := (HBR.out.set_ 0 (.slice A n c)).set_ 1 (.slice (some ⟨gB, 0, none⟩) q d4)
                  have v0 := hb9.cell 0
                  have v1 := hb9.cell 1
                  have h3 := HSZ.out
                  have h4 := HBS.out
                  have hws : w.heap.size ≤ W2.heap.size := GA.out.size
                  have HG9 := Lib.hid (((GA.out.trans (GW.out.mono GA.out.size)).setCell (p := ⟨w.heap.size + 1, 0, none⟩) (by dsimp only; omega) (.slice A n c)).setCell (p := ⟨w.heap.size + 1, 1, none⟩) (by dsimp only; omega) (.slice (some ⟨gB, 0, none⟩) q d4))
                  have HS9 := Lib.hid ((SV.out.far (p := ⟨w.heap.size + 1, 0, none⟩) (by dsimp only; omega) (.slice A n c)).far (p := ⟨w.heap.size + 1, 1, none⟩) (by dsimp only; omega) (.slice (some ⟨gB, 0, none⟩) q d4))
                  clear hb9
                  refine bodyPost_ret (v := .tuple #[.agg #[.slice A n c, .slice (some ⟨gB, 0, none⟩) q d4], .bool false]) ?_ rfl ⟨⟨_, _, by rw [HSE.out, HSN.out], by rw [HSE.out]; exact HS9.out.mono (by omega)⟩, HG9.out⟩
                  simp [results, Tryz.results122, go_sem, v0, v1]
                · have hd := decide_eq_false hle
                  go_upto_region 15 with fail
                  refine wp_region_calm V (by kernel_rfl) (by kernel_rfl) (Below.refl _ _) ?_
                  repeat (go_big_quiet_step (fail))
                  refine wpQuiet_nil ?_
                  rintro _ ⟨z, rfl⟩
                  have GZ := Lib.hid (GV.out.trans (z.ok.mono (by have := GV.out.size; have := HBS.out; omega)))
                  have BZ := Lib.hid (BV.out.ext z.ok)
                  have SZ := Lib.hid (SV.out.ext z.ok)
                  clear u0 u1 u2 t1
                  go_wp2_with fail
                  go_roundw
                  case rel => exact ⟨j + 1, by go_num, by omega, GZ.out, BZ.out, SZ.out, fun r' hr' => by
                    by_cases e : r' = j
                    · subst e
                      unfold Lo Hi
                      rw [HR.out]
                      omega
                    · exact HALL.out r' (by omega)⟩
                  case measure => simp [intOf]; omega
              · obtain rfl : q = j := by omega
                have HSN := Lib.hid (show sound sl = true from sound_iff.2 (by rw [HSLn.out]; exact HALL.out))
                have HBR := Lib.hid (HB2.out.ext GW.out)
                have m1 := HBR.out.cell 0
                have m2 := HBR.out.cell 1
                have z0 := HBR.out.frozen 0
                have z1 := HBR.out.frozen 1
                have c0 := BV.out.cell 0
                have c1 := BV.out.cell 1
                have hne4 : b4 ≠ w.heap.size + 1 := by have := HSZ.out; have := HB4.out; have := HBS.out; omega
                go_wp2_with fail
                have hb9 := (HBR.out.set_ 0 (.slice A n c)).set_ 1 (.slice (some ⟨gB, 0, none⟩) q d4)
                have v0 := hb9.cell 0
                have v1 := hb9.cell 1
                have h3 := HSZ.out
                have h4 := HBS.out
                have hws : w.heap.size ≤ W2.heap.size := GA.out.size
                have HG9 := Lib.hid (((GA.out.trans (GW.out.mono GA.out.size)).setCell (p := ⟨w.heap.size + 1, 0, none⟩) (by dsimp only; omega) (.slice A n c)).setCell (p := ⟨w.heap.size + 1, 1, none⟩) (by dsimp only; omega) (.slice (some ⟨gB, 0, none⟩) q d4))
                have HS9 := Lib.hid ((SV.out.far (p := ⟨w.heap.size + 1, 0, none⟩) (by dsimp only; omega) (.slice A n c)).far (p := ⟨w.heap.size + 1, 1, none⟩) (by dsimp only; omega) (.slice (some ⟨gB, 0, none⟩) q d4))
                clear hb9
                refine bodyPost_ret (v := .tuple #[.agg #[.slice A n c, .slice (some ⟨gB, 0, none⟩) q d4], .bool true]) ?_ rfl ⟨⟨_, _, by rw [HSE.out, HSN.out], by rw [HSE.out]; exact HS9.out.mono (by omega)⟩, HG9.out⟩
                simp [results, Tryz.results122, go_sem, v0, v1]
end Go.Proofs.YtkoejeghihcmlaaGreat
