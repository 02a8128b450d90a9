/- Part of the proof: DC, DD, EB, ED, EF. -/
import Derived.Test.YtehhlgdkhecacaaGreatXA1
import Derived.Test.YtehhlgdkhecacaaGreatXA2
import Derived.Test.YtehhlgdkhecacaaGreatXA3
namespace Go.Proofs.YtehhlgdkhecacaaGreat
open Go.RowKit Go.Shelf
theorem wtd4 {n : Int} (h : I64 n) : IntKind.i64.wrap (n.tdiv 4) = n.tdiv 4 := by
 have h1 : (n.tdiv 4).natAbs = n.natAbs / 4 := Int.natAbs_tdiv n 4
 rw [IntKind.wrap_i64]
 unfold I64 at h
 omega
/-- A proof while a round makes it. -/
def qB (y : Ra) (m : Nat) (l : List Int) (oth par thr unt : Int) : Qf := ⟨3 * (m : Int) + 2, 1 + y.kind % 8, l, oth, par, y.day % 2000, thr, y.kno % 40, unt⟩
def qA (y : Ra) (m : Nat) (l : List Int) : Qf := qB y m l 0 0 0 0
theorem mkQ_B (y : Ra) (m op : Nat) : mkQ y m op = qB y m (perK op y.ots (whoR y) 5) (if 1 + y.kind % 8 = 2 then 1 + y.oth % 5 else 0) (if 1 + y.kind % 8 = 2 then 0 else y.par % 3) (if lastsB (1 + y.kind % 8) = true then y.day % 2000 + y.long % 450 else 0) (if y.unt % 4 = 0 then y.kno % 40 + 1 + y.unt.tdiv 4 % 30 else 0) := rfl
theorem bx_new {W X : World} {b bs : Nat} {y : Ra} {m : Nat} {z : Int} (g : Below W.heap.size W X) (hb : Blk X b 56 (pb ⟨qA y m [z], some ⟨bs, 0, none⟩, 1, 1⟩)) (ho : Blk X bs 3 #[.int .i64 z]) (h1 : W.heap.size ≤ b) (h2 : W.heap.size ≤ bs) : Bx W X b ⟨qA y m [z], some ⟨bs, 0, none⟩, 1, 1⟩ :=
 ⟨g, hb, own_mk icells_len rfl h2 ho (Nat.le_refl _) (by unfold maxLen; show 1 ≤ 9223372036854775807; omega) rfl rfl, h1⟩
theorem bxA (W : World) (y : Ra) (m : Nat) (z : Int) : Bx W ((W.alloc (.cells #[.int .i64 z] 3)).alloc (.cells (pb ⟨qA y m [z], some ⟨W.heap.size, 0, none⟩, 1, 1⟩) 56)).drew (W.heap.size + 1) ⟨qA y m [z], some ⟨W.heap.size, 0, none⟩, 1, 1⟩ :=
 bx_new (two_more _ _ _).drew (blk_second _ _ _ _) (blk_drew ((Blk.new W 3 #[.int .i64 z]).alloc _)) (Nat.le_succ _) (Nat.le_refl _)
theorem bxB (W : World) (y : Ra) (m : Nat) (z : Int) : Bx W ((W.alloc (.cells (pb ⟨qA y m [z], some ⟨W.heap.size + 1, 0, none⟩, 1, 1⟩) 56)).alloc (.cells #[.int .i64 z] 3)).drew W.heap.size ⟨qA y m [z], some ⟨W.heap.size + 1, 0, none⟩, 1, 1⟩ :=
 bx_new (two_more _ _ _).drew (blk_drew ((Blk.new W 56 (pb ⟨qA y m [z], some ⟨W.heap.size + 1, 0, none⟩, 1, 1⟩)).alloc _)) (blk_second _ _ _ _) (Nat.le_refl _) (Nat.le_succ _)
set_option maxRecDepth 100000 in
set_option maxHeartbeats 40000000 in
theorem made_any (A : Option Addr) (n c : Nat) (x : List Ra) (w : World) (ha : Arr rcells 9 w A n x) (hn : n ≤ 9223372036854775807) (hx : ∀ r ∈ x, RaOk r) :
  Calls Tryz.prog 37 #[.slice A n c] w fun e w' => ∃ v u ls, e = .returned (.tuple #[v, u]) ∧ Md w w' v u ls (whoL x) ∧ ls.map Pf.q = madeL x := by
 have HA := Lib.hid ha
 have HLN := Lib.hid ha.1
 have HXO := Lib.hid hx
 have TM := Lib.hid refMod_any
 have HMN := Lib.hid (show madeN x = min n 10 by unfold madeN; rw [ha.1])
 have HND := Lib.hid (And.intro (show madeL x = (madeP x (madeN x)).1 from rfl) (show whoL x = whoP x (madeN x) from rfl))
 have HM0 := Lib.hid (Md.nil w)
 obtain ⟨mn, hmn⟩ : ∃ k, madeN x = k := ⟨_, rfl⟩
 rw [hmn] at HMN HND
 obtain ⟨ml, hml⟩ : ∃ k, madeL x = k := ⟨_, rfl⟩
 obtain ⟨wl, hwl⟩ : ∃ k, whoL x = k := ⟨_, rfl⟩
 rw [hml, hwl] at HND
 rw [hml, hwl]
 clear hmn hml hwl ha hx
 go_enter Tryz.func37, Tryz.ntmps37
 go_wp2_with fail
 go_loopw [4, 5, 6, 7] (fun v u o i wr => ∃ (m : Nat) (ls : List Pf), m ≤ mn ∧ i = .int .i64 m ∧ o = .int .i64 (((madeP x m).2 : Nat) : Int) ∧ Md w wr v u ls (whoP x m) ∧ ls.map Pf.q = (madeP x m).1) (fun _ _ _ i _ => 10 - (intOf i).toNat)
 case atStart => exact ⟨0, [], Nat.zero_le _, rfl, rfl, HM0.out, rfl⟩
 case round =>
  obtain ⟨m, ls, hm, rfl, rfl, hmd, hlq⟩ := hrel
  have HMD := Lib.hid hmd
  have HLQ := Lib.hid hlq
  have HM10 := Lib.hid (show mn ≤ n ∧ mn ≤ 10 by have := HMN.out; omega)
  have hm1000 : m ≤ 10 := by have := HM10.out; omega
  have HSP := Lib.hid (madeP_spec x m (by omega))
  clear hmd hlq
  by_cases hk : m < mn
  ·have hkn : (m : Int) < (n : Int) := by have := HM10.out; omega
   have hk10 : (m : Int) < 10 := by have := HM10.out; omega
   have HKN := Lib.hid (show m < n by have := HM10.out; omega)
   obtain ⟨b0, o0, rfl, hc⟩ := raw_at (HA.out.below HMD.out.g) HKN.out
   obtain ⟨r0', r1', r2', r3', r4', r5', r6', r7', r8'⟩ := hc _ (Below.refl _ _)
   obtain ⟨y, hy⟩ : ∃ y, x.getD m r0 = y := ⟨_, rfl⟩
   rw [hy] at r0' r1' r2' r3' r4' r5' r6' r7' r8'
   have HY := Lib.hid hy
   have HYO := Lib.hid (HXO.out y (by rw [← hy, List.getD_eq_getElem?_getD, List.getElem?_eq_getElem (by rw [HLN.out]; exact HKN.out)]; exact List.getElem_mem _))
   obtain ⟨op, hop⟩ : ∃ o, (madeP x m).2 = o := ⟨_, rfl⟩
   have HOP := Lib.hid hop
   rw [hop] at HSP ⊢
   have HOB := Lib.hid HSP.out.2.1
   obtain ⟨W1, hW1⟩ : ∃ X, wr.alloc (.cells #[.int .i64 y.kind, .int .i64 y.per, .int .i64 y.ots, .int .i64 y.oth, .int .i64 y.par, .int .i64 y.day, .int .i64 y.long, .int .i64 y.kno, .int .i64 y.unt] 121) = X := ⟨_, rfl⟩
   have GW1 := Lib.hid (show Below wr.heap.size wr W1 by rw [← hW1]; exact one_more _ _)
   have BX := Lib.hid (show Blk W1 wr.heap.size 121 #[.int .i64 y.kind, .int .i64 y.per, .int .i64 y.ots, .int .i64 y.oth, .int .i64 y.par, .int .i64 y.day, .int .i64 y.long, .int .i64 y.kno, .int .i64 y.unt] by rw [← hW1]; exact Blk.new _ _ _)
   have HW1 := Lib.hid hW1
   have HBX := Lib.hid BX.out.lt
   clear hc hy hop hW1
   go_upto_region 8 with fail
   rw [HW1.out]
   obtain ⟨bX, hbX⟩ : ∃ b, wr.heap.size = b := ⟨_, rfl⟩
   rw [hbX] at BX HBX ⊢
   have HBXE := Lib.hid hbX
   clear hbX r0' r1' r2' r3' r4' r5' r6' r7' r8'
   have d1 := BX.out.cell 1
   have hwho : wrap64 (1 + y.per % 5) = 1 + y.per % 5 := wrap_in (by omega)
   go_upto_region 9 with (go_at_call 38; (with_reducible refine (TM.out _ _ _ (by omega) (by omega)).mono ?_); rintro e w' ⟨rfl, rfl⟩)
   obtain ⟨who, hwho2⟩ : ∃ z, 1 + y.per % 5 = z := ⟨_, rfl⟩
   have HWHO := Lib.hid (show whoR y = who from hwho2)
   rw [hwho2] at hwho ⊢
   clear hwho hwho2 d1
   have d0 := BX.out.cell 0
   have d5 := BX.out.cell 5
   have d7 := BX.out.cell 7
   have hw1 : IntKind.i64.wrap (3 * (m : Int)) = 3 * (m : Int) := by rw [IntKind.wrap_i64]; omega
   have hw2 : IntKind.i64.wrap (3 * (m : Int) + 2) = 3 * (m : Int) + 2 := by rw [IntKind.wrap_i64]; omega
   have hw3 : IntKind.i64.wrap (1 + y.kind % 8) = 1 + y.kind % 8 := by rw [IntKind.wrap_i64]; omega
   have HKP := Lib.hid (fun W (g : Below W1.heap.size W1 W) => (⟨(BX.out.ext g).cell 0, (BX.out.ext g).cell 5, (BX.out.ext g).cell 7⟩ : W.cell? ⟨bX, 0, none⟩ = some (.int .i64 y.kind) ∧ W.cell? ⟨bX, 5, none⟩ = some (.int .i64 y.day) ∧ W.cell? ⟨bX, 7, none⟩ = some (.int .i64 y.kno)))
   go_cut [10] from 30 to 45 (fun s10 wx => ∃ b10 bs, s10 = .pointer (some ⟨b10, 0, none⟩) ∧ Bx W1 wx b10 ⟨qA y m [who], some ⟨bs, 0, none⟩, 1, 1⟩)
   case first =>
    go_region_held3 (fun W => W.cell? ⟨bX, 0, none⟩ = some (.int .i64 y.kind) ∧ W.cell? ⟨bX, 5, none⟩ = some (.int .i64 y.day) ∧ W.cell? ⟨bX, 7, none⟩ = some (.int .i64 y.kno))
     (first | (with_reducible exact HKP.out _ (Below.refl _ _).drew) | (with_reducible exact HKP.out _ (one_more _ _).drew) | (with_reducible exact HKP.out _ (two_more _ _ _).drew))
     ((go_at_call 38; (with_reducible refine (TM.out _ _ _ (by omega) (by omega)).mono ?_); rintro e w' ⟨rfl, rfl⟩))
    all_goals (try go_wp2_with fail)
    all_goals go_meet
    all_goals first
     | (with_reducible exact ⟨_, _, rfl, bxA W1 y m who⟩)
     | (with_reducible exact ⟨_, _, rfl, bxB W1 y m who⟩)
     | exact ⟨_, _, rfl, bxA W1 y m who⟩
     | exact ⟨_, _, rfl, bxB W1 y m who⟩
   case rest =>
    obtain ⟨b10, bs, rfl, hbx⟩ := hcut
    have HB0 := Lib.hid hbx
    have HQ0 := Lib.hid (show perK op y.ots who 0 = [who] from rfl)
    have HPK := Lib.hid (fun j (hj : j ≤ 5) => (show (perK op y.ots who j).Pairwise (· < ·) ∧ (perK op y.ots who j).length ≤ 3 from by
     have := perK_spec (opn := op) (ots := y.ots) (who := who) (by rw [← HWHO.out]; exact whoR_bd y) j hj
     exact ⟨this.1, this.2.2.2.2⟩))
    have HPS := Lib.hid (fun j => (show perK op y.ots who (j + 1) = if (decide (op < 5) && decide ((perK op y.ots who j).length < 3) && bitB y.ots (j + 1)) = true then putI (perK op y.ots who j) ((j : Int) + 1) else perK op y.ots who j from rfl))
    have HBIT := Lib.hid (fun j => (show bitB y.ots (j + 1) = (bits .and .i64 (y.ots % 32) (2 ^ j) != 0) from rfl))
    clear d0 d5 d7 hw1 hw2 hw3 hbx HKP
    go_wp2_with fail
    go_loopw [11] (fun k wz => ∃ (j : Nat) (p : Pf), j ≤ 5 ∧ k = .int .i64 ((j : Int) + 1) ∧ Bx W1 wz b10 p ∧ p.q = qA y m (perK op y.ots who j)) (fun k _ => 6 - (intOf k).toNat)
    case atStart => exact ⟨0, _, Nat.zero_le _, rfl, HB0.out, by rw [HQ0.out]⟩
    case round =>
     obtain ⟨j, p, hj, rfl, hb, hpq⟩ := hrel
     have HB := Lib.hid hb
     have HPQ := Lib.hid hpq
     by_cases hj5 : j < 5
     ·have hle : (j : Int) + 1 ≤ 5 := by omega
      have hwj : wrap64 ((j : Int) + 1 + 1) = (j : Int) + 1 + 1 := wrap_in (by omega)
      obtain ⟨A5, c5, hv5, h51, h52, h53, -⟩ := OwnL.arr kdI hb.o
      have hpn : p.n = (perK op y.ots who j).length := by
       simp only [Value.slice.injEq] at hv5
       rw [hv5.2.1, hpq]; rfl
      have HPN := Lib.hid hpn
      have HP3 := Lib.hid (HPK.out j (by omega))
      have HS := Lib.hid (HPS.out j)
      have HBT := Lib.hid (HBIT.out j)
      have hps := hb.pi (by rw [hpq]; show (perK op y.ots who j).length ≤ 1000; have := HP3.out.2; omega)
      have HPI := Lib.hid hps.1
      have TP := Lib.hid (refPut_any p.A p.n p.c p.q.per ((j : Int) + 1) _ hps.1.i (by rw [hpn]; have := HP3.out.2; omega) (by rw [hpq]; exact HP3.out.1))
      obtain ⟨pr, hpr⟩ : ∃ l, perK op y.ots who j = l := ⟨_, rfl⟩
      rw [hpr] at HS HP3 HPQ HPN
      have HPP := Lib.hid (show p.q.per = pr by rw [HPQ.out]; rfl)
      have HBXX := Lib.hid (BX.out.ext hb.g)
      clear hb hpq hv5 h51 h52 h53 hpn hps hpr
      go_upto_region 13 with fail
      have e2 := cellW (HB.out.bk.cell 2)
      have x2 := cellW (HBXX.out.cell 2)
      have hsb : IntKind.i64.wrap ((j : Int) + 1 - 1) = (j : Int) := by rw [IntKind.wrap_i64]; omega
      have hsh : IntKind.i64.wrap ((2 : Int) ^ j) = (2 : Int) ^ j := by
       have : j = 0 ∨ j = 1 ∨ j = 2 ∨ j = 3 ∨ j = 4 := by omega
       rcases this with rfl | rfl | rfl | rfl | rfl <;> decide
      have hsh1 : IntKind.i64.wrap (1 * (2 : Int) ^ j) = (2 : Int) ^ j := by rw [Int.one_mul]; exact hsh
      by_cases hop : op < 5
      ·have hob : (op : Int) < 5 := by omega
       by_cases hl3 : pr.length < 3
       ·have hnb : (p.n : Int) < 3 := by rw [HPN.out]; omega
        obtain ⟨bt, hbt⟩ : ∃ b, (bits .and .i64 (y.ots % 32) (2 ^ j) != 0) = b := ⟨_, rfl⟩
        rw [hbt] at HBT
        cases bt with
        | true =>
         have HS2 := Lib.hid (show perK op y.ots who (j + 1) = putI pr ((j : Int) + 1) by rw [HS.out, decide_eq_true hop, decide_eq_true hl3, HBT.out]; rfl)
         refine wp_region_calm wr (by kernel_rfl) (by kernel_rfl) (Below.refl _ _) ?_
         repeat (go_big_quiet_step ((go_at_call 38; exact callsCalmSame (TM.out _ _ _ (by omega) (by omega)))))
         refine wpQuiet_nil ?_
         rintro _ ⟨z, rfl⟩
         have HBZ := Lib.hid (HB.out.ext z.ok)
         have f2 := HBZ.out.bk.cell 2
         have TPZ := Lib.hid (refPut_any p.A p.n p.c p.q.per ((j : Int) + 1) z.val (HPI.out.below z.ok).i (by rw [HPN.out]; omega) (by rw [HPP.out]; exact HP3.out.1))
         rw [HPP.out] at TPZ
         clear e2 x2
         go_wp2_with (first | (go_at_call 42; go_loud ((with_reducible refine (TPZ.out).mono ?_); rintro e W5 ⟨⟨v5, rfl, ho5⟩, hg5⟩; obtain ⟨A5, c5, rfl, h51, h52, -, -⟩ := OwnL.arr kdI ho5; have HO5 := Lib.hid ho5; have HG5 := Lib.hid hg5; have f2' := (HBZ.out.bk.ext hg5).cell 2; have q2' := (HBZ.out.bk.ext hg5).frozen 2; clear ho5 hg5 h51 h52 f2)))
         go_roundw
         case rel => exact ⟨j + 1, ⟨{ p.q with per := putI pr ((j : Int) + 1) }, A5, _, c5⟩, by omega, rfl, HBZ.out.per HG5.out HO5.out, by rw [HPQ.out, HS2.out]; rfl⟩
         case measure => simp only [intOf]; omega
        | false =>
         have HS2 := Lib.hid (show perK op y.ots who (j + 1) = pr by rw [HS.out, HBT.out, Bool.and_false]; rfl)
         refine wp_region_calm wr (by kernel_rfl) (by kernel_rfl) (Below.refl _ _) ?_
         repeat (go_big_quiet_step ((go_at_call 38; exact callsCalmSame (TM.out _ _ _ (by omega) (by omega)))))
         refine wpQuiet_nil ?_
         rintro _ ⟨z, rfl⟩
         go_wp2_with fail
         go_roundw
         case rel => exact ⟨j + 1, p, by omega, rfl, HB.out.ext z.ok, by rw [HPQ.out, HS2.out]⟩
         case measure => simp only [intOf]; omega
       ·have hnb : ¬ (p.n : Int) < 3 := by rw [HPN.out]; omega
        have HS2 := Lib.hid (show perK op y.ots who (j + 1) = pr by rw [HS.out, decide_eq_false hl3, Bool.and_false, Bool.false_and]; rfl)
        refine wp_region_calm wr (by kernel_rfl) (by kernel_rfl) (Below.refl _ _) ?_
        repeat (go_big_quiet_step ((go_at_call 38; exact callsCalmSame (TM.out _ _ _ (by omega) (by omega)))))
        refine wpQuiet_nil ?_
        rintro _ ⟨z, rfl⟩
        go_wp2_with fail
        go_roundw
        case rel => exact ⟨j + 1, p, by omega, rfl, HB.out.ext z.ok, by rw [HPQ.out, HS2.out]⟩
        case measure => simp only [intOf]; omega
      ·have hob : ¬ (op : Int) < 5 := by omega
       have HS2 := Lib.hid (show perK op y.ots who (j + 1) = pr by rw [HS.out, decide_eq_false hop, Bool.false_and, Bool.false_and]; rfl)
       refine wp_region_calm wr (by kernel_rfl) (by kernel_rfl) (Below.refl _ _) ?_
       repeat (go_big_quiet_step ((go_at_call 38; exact callsCalmSame (TM.out _ _ _ (by omega) (by omega)))))
       refine wpQuiet_nil ?_
       rintro _ ⟨z, rfl⟩
       go_wp2_with fail
       go_roundw
       case rel => exact ⟨j + 1, p, by omega, rfl, HB.out.ext z.ok, by rw [HPQ.out, HS2.out]⟩
       case measure => simp only [intOf]; omega
     ·obtain rfl : j = 5 := by omega
      have hle : ¬ ((5 : Nat) : Int) + 1 ≤ 5 := by omega
      have HPE3 := Lib.hid (HPK.out 5 (by omega)).2
      obtain ⟨pe, hpe⟩ : ∃ l, perK op y.ots who 5 = l := ⟨_, rfl⟩
      have HPE := Lib.hid hpe
      rw [hpe] at HPQ HPE3
      obtain ⟨pq, pA, pn, pc⟩ := p
      obtain rfl : pq = qA y m pe := HPQ.out
      have HBA := Lib.hid (show Bx W1 wr b10 ⟨qB y m pe (0) (0) (0) (0), pA, pn, pc⟩ from HB.out)
      obtain ⟨A5, c5, hv5, -, -, -, -⟩ := OwnL.arr kdI HBA.out.o
      have hpn : pn = pe.length := by simp only [Value.slice.injEq] at hv5; exact hv5.2.1
      have HPN := Lib.hid hpn
      have HN1 := Lib.hid (show (madeP x (m + 1)).1 = (madeP x m).1 ++ [mkQ y m op] by rw [← HY.out, ← HOP.out]; rfl)
      have HN2 := Lib.hid (show (madeP x (m + 1)).2 = op + (if 1 < pe.length then 1 else 0) by rw [← HPE.out, ← HWHO.out, ← HY.out, ← HOP.out]; rfl)
      have HLS := Lib.hid (show ls.length = m by have := congrArg List.length HLQ.out; rw [List.length_map, HSP.out.1] at this; exact this)
      have HOL := Lib.hid (show ∀ k, (u4.ownBlock = some k ∨ u5.ownBlock = some k) → k < W1.heap.size from fun k e => e.elim (fun e => own_lt2 (HMD.out.ext GW1.out).o1 e) (fun e => own_lt2 (HMD.out.ext GW1.out).o2 e))
      have HW4 := Lib.hid (wtd4 HYO.out)
      have hwop : wrap64 ((op : Int) + 1) = (op : Int) + 1 := wrap_in (by have := HOB.out; omega)
      have hwm : wrap64 ((m : Int) + 1) = (m : Int) + 1 := wrap_in (by omega)
      have e2' : World.cell? wr ⟨b10, 2, none⟩ = some (.slice pA pn pc) := HBA.out.bk.cell 2
      clear hb hpq hv5 hpn hpe HB
      by_cases h1p : 1 < pe.length
      ·have hpb : (1 : Int) < (pn : Int) := by rw [HPN.out]; omega
       have HIP := Lib.hid (show (if 1 < pe.length then 1 else 0 : Nat) = 1 from if_pos h1p)
       clear h1p
       go_upto_region 17 with fail
       clear e2'
       have k1 : World.cell? wr ⟨b10, 1, none⟩ = some (.int .i64 (1 + y.kind % 8)) := HBA.out.bk.cell 1
       have k3 : World.cell? wr ⟨b10, 3, none⟩ = some (.int .i64 (0)) := HBA.out.bk.cell 3
       have k4 : World.cell? wr ⟨b10, 4, none⟩ = some (.int .i64 (0)) := HBA.out.bk.cell 4
       have kf3 := HBA.out.bk.frozen 3
       have kf4 := HBA.out.bk.frozen 4
       have x3 : World.cell? wr ⟨bX, 3, none⟩ = some (.int .i64 y.oth) := (BX.out.ext HBA.out.g).cell 3
       have x4 : World.cell? wr ⟨bX, 4, none⟩ = some (.int .i64 y.par) := (BX.out.ext HBA.out.g).cell 4
       have hwo : wrap64 (1 + y.oth % 5) = 1 + y.oth % 5 := wrap_in (by omega)
       by_cases h2 : 1 + y.kind % 8 = 2
       ·have h2b : (1 + y.kind % 8 == 2) = true := beq_iff_eq.2 h2
        have H2 := Lib.hid h2
        clear h2
        go_upto_region 20 with (go_at_call 38; (with_reducible refine (TM.out _ _ _ (by omega) (by omega)).mono ?_); rintro e w' ⟨rfl, rfl⟩)
        clear k1 k3 k4 kf3 kf4 x3 x4
        have HB1 := Lib.hid (HBA.out.set 3 (.int .i64 (1 + y.oth % 5)) (p' := ⟨qB y m pe (1 + y.oth % 5) (0) (0) (0), pA, pn, pc⟩) rfl ⟨rfl, rfl, rfl, rfl⟩)
        obtain ⟨Wn1, hWn1⟩ : ∃ X, World.setCell wr ⟨b10, 3, none⟩ (.int .i64 (1 + y.oth % 5)) = X := ⟨_, rfl⟩
        rw [hWn1] at HB1 ⊢
        clear hWn1
        have k1 : World.cell? Wn1 ⟨b10, 1, none⟩ = some (.int .i64 (1 + y.kind % 8)) := HB1.out.bk.cell 1
        have HLA := Lib.hid (refLasts_any (1 + y.kind % 8))
        obtain ⟨lb, hlb⟩ : ∃ b, lastsB (1 + y.kind % 8) = b := ⟨_, rfl⟩
        rw [hlb] at HLA
        cases lb with
        | true =>
         go_upto_region 21 with (go_at_call 99; (with_reducible refine (HLA.out _).mono ?_); rintro e w' ⟨rfl, rfl⟩)
         clear k1
         have k5 := cellW (show World.cell? Wn1 ⟨b10, 5, none⟩ = some (.int .i64 (y.day % 2000)) from HB1.out.bk.cell 5)
         have x6 := cellW (show World.cell? Wn1 ⟨bX, 6, none⟩ = some (.int .i64 y.long) from (BX.out.ext HB1.out.g).cell 6)
         have ha1 : IntKind.i64.wrap (y.day % 2000 + y.long % 450) = y.day % 2000 + y.long % 450 := by rw [IntKind.wrap_i64]; omega
         refine wp_region_calm_tail Wn1 7 (by kernel_rfl) (by kernel_rfl) (Below.refl _ _) ?_
         simp only [List.take_succ_cons, List.take_zero, List.drop_succ_cons, List.drop_zero]
         repeat (go_big_quiet_step (first | (go_at_call 38; exact callsCalmSame (TM.out _ _ _ (by omega) (by omega)))))
         refine wpQuiet_nil ?_
         rintro _ ⟨zl, rfl⟩
         have HZ2 := Lib.hid (HB1.out.ext zl.ok)
         clear k5 x6
         have q6 : World.cell? zl.val ⟨b10, 6, none⟩ = some (.int .i64 0) := HZ2.out.bk.cell 6
         have qf := HZ2.out.bk.frozen 6
         go_upto_region 22 with fail
         clear q6 qf ha1
         have HB3 := Lib.hid (HZ2.out.set 6 (.int .i64 (y.day % 2000 + y.long % 450)) (p' := ⟨qB y m pe (1 + y.oth % 5) (0) (y.day % 2000 + y.long % 450) (0), pA, pn, pc⟩) rfl ⟨rfl, rfl, rfl, rfl⟩)
         obtain ⟨Wn3, hWn3⟩ : ∃ X, World.setCell zl.val ⟨b10, 6, none⟩ (.int .i64 (y.day % 2000 + y.long % 450)) = X := ⟨_, rfl⟩
         rw [hWn3] at HB3 ⊢
         clear hWn3
         have xu : World.cell? Wn3 ⟨bX, 8, none⟩ = some (.int .i64 y.unt) := (BX.out.ext HB3.out.g).cell 8
         by_cases hu : y.unt % 4 = 0
         ·have hub : (y.unt % 4 == 0) = true := beq_iff_eq.2 hu
          go_upto_region 23 with (go_at_call 38; (with_reducible refine (TM.out _ _ _ (by omega) (by omega)).mono ?_); rintro e w' ⟨rfl, rfl⟩)
          have k7 := cellW (show World.cell? Wn3 ⟨b10, 7, none⟩ = some (.int .i64 (y.kno % 40)) from HB3.out.bk.cell 7)
          have x8 := cellW xu
          clear xu
          have ha1 : IntKind.i64.wrap (y.kno % 40 + 1) = y.kno % 40 + 1 := by rw [IntKind.wrap_i64]; omega
          have ha2 : IntKind.i64.wrap (y.unt.tdiv 4) = y.unt.tdiv 4 := HW4.out
          have ha3 : IntKind.i64.wrap (y.kno % 40 + 1 + y.unt.tdiv 4 % 30) = y.kno % 40 + 1 + y.unt.tdiv 4 % 30 := by
           generalize y.unt.tdiv 4 = u9
           rw [IntKind.wrap_i64]; omega
          refine wp_region_calm_tail Wn3 9 (by kernel_rfl) (by kernel_rfl) (Below.refl _ _) ?_
          simp only [List.take_succ_cons, List.take_zero, List.drop_succ_cons, List.drop_zero]
          repeat (go_big_quiet_step (first | (go_at_call 38; exact callsCalmSame (TM.out _ _ _ (by omega) (by omega)))))
          refine wpQuiet_nil ?_
          rintro _ ⟨zu, rfl⟩
          have HZ4 := Lib.hid (HB3.out.ext zu.ok)
          clear k7 x8
          have q8 : World.cell? zu.val ⟨b10, 8, none⟩ = some (.int .i64 0) := HZ4.out.bk.cell 8
          have qf := HZ4.out.bk.frozen 8
          go_upto_region 24 with fail
          clear q8 qf ha1 ha2 ha3
          have HB5 := Lib.hid (HZ4.out.set 8 (.int .i64 (y.kno % 40 + 1 + y.unt.tdiv 4 % 30)) (p' := ⟨qB y m pe (1 + y.oth % 5) (0) (y.day % 2000 + y.long % 450) (y.kno % 40 + 1 + y.unt.tdiv 4 % 30), pA, pn, pc⟩) rfl ⟨rfl, rfl, rfl, rfl⟩)
          obtain ⟨Wn5, hWn5⟩ : ∃ X, World.setCell zu.val ⟨b10, 8, none⟩ (.int .i64 (y.kno % 40 + 1 + y.unt.tdiv 4 % 30)) = X := ⟨_, rfl⟩
          rw [hWn5] at HB5 ⊢
          clear hWn5
          have e0 : World.cell? Wn5 ⟨b10, 0, none⟩ = some (.int .i64 (3 * (m : Int) + 2)) := HB5.out.bk.cell 0
          have e1 : World.cell? Wn5 ⟨b10, 1, none⟩ = some (.int .i64 (1 + y.kind % 8)) := HB5.out.bk.cell 1
          have e2 : World.cell? Wn5 ⟨b10, 2, none⟩ = some (.slice pA pn pc) := HB5.out.bk.cell 2
          have e3 : World.cell? Wn5 ⟨b10, 3, none⟩ = some (.int .i64 (1 + y.oth % 5)) := HB5.out.bk.cell 3
          have e4 : World.cell? Wn5 ⟨b10, 4, none⟩ = some (.int .i64 (0)) := HB5.out.bk.cell 4
          have e5 : World.cell? Wn5 ⟨b10, 5, none⟩ = some (.int .i64 (y.day % 2000)) := HB5.out.bk.cell 5
          have e6 : World.cell? Wn5 ⟨b10, 6, none⟩ = some (.int .i64 (y.day % 2000 + y.long % 450)) := HB5.out.bk.cell 6
          have e7 : World.cell? Wn5 ⟨b10, 7, none⟩ = some (.int .i64 (y.kno % 40)) := HB5.out.bk.cell 7
          have e8 : World.cell? Wn5 ⟨b10, 8, none⟩ = some (.int .i64 (y.kno % 40 + 1 + y.unt.tdiv 4 % 30)) := HB5.out.bk.cell 8
          have HMX := Lib.hid (((HMD.out.ext GW1.out).ext HB5.out.g).ext (one_more Wn5 (.cells #[.int .i64 (3 * (m : Int) + 2), .int .i64 (1 + y.kind % 8), .slice pA pn pc, .int .i64 (1 + y.oth % 5), .int .i64 (0), .int .i64 (y.day % 2000), .int .i64 (y.day % 2000 + y.long % 450), .int .i64 (y.kno % 40), .int .i64 (y.kno % 40 + 1 + y.unt.tdiv 4 % 30)] 56)))
          have IX := Lib.hid (one_pf (x := ⟨qB y m pe (1 + y.oth % 5) (0) (y.day % 2000 + y.long % 450) (y.kno % 40 + 1 + y.unt.tdiv 4 % 30), pA, pn, pc⟩) (Blk.new Wn5 56 #[.int .i64 (3 * (m : Int) + 2), .int .i64 (1 + y.kind % 8), .slice pA pn pc, .int .i64 (1 + y.oth % 5), .int .i64 (0), .int .i64 (y.day % 2000), .int .i64 (y.day % 2000 + y.long % 450), .int .i64 (y.kno % 40), .int .i64 (y.kno % 40 + 1 + y.unt.tdiv 4 % 30)]))
          have HPP := Lib.hid (HB5.out.pi (by show pe.length ≤ 1000; have := HPE3.out; omega))
          have HPX := Lib.hid (HPP.out.1.below (one_more Wn5 (.cells #[.int .i64 (3 * (m : Int) + 2), .int .i64 (1 + y.kind % 8), .slice pA pn pc, .int .i64 (1 + y.oth % 5), .int .i64 (0), .int .i64 (y.day % 2000), .int .i64 (y.day % 2000 + y.long % 450), .int .i64 (y.kno % 40), .int .i64 (y.kno % 40 + 1 + y.unt.tdiv 4 % 30)] 56)))
          have HSZ := Lib.hid (one_more Wn5 (.cells #[.int .i64 (3 * (m : Int) + 2), .int .i64 (1 + y.kind % 8), .slice pA pn pc, .int .i64 (1 + y.oth % 5), .int .i64 (0), .int .i64 (y.day % 2000), .int .i64 (y.day % 2000 + y.long % 450), .int .i64 (y.kno % 40), .int .i64 (y.kno % 40 + 1 + y.unt.tdiv 4 % 30)] 56)).size
          have HNE := Lib.hid (show ∀ a, pA = some a → u4.ownBlock ≠ some a.block ∧ u5.ownBlock ≠ some a.block ∧ a.block < (Wn5.alloc (.cells #[.int .i64 (3 * (m : Int) + 2), .int .i64 (1 + y.kind % 8), .slice pA pn pc, .int .i64 (1 + y.oth % 5), .int .i64 (0), .int .i64 (y.day % 2000), .int .i64 (y.day % 2000 + y.long % 450), .int .i64 (y.kno % 40), .int .i64 (y.kno % 40 + 1 + y.unt.tdiv 4 % 30)] 56)).heap.size from fun a e => by
           obtain ⟨k1, k2⟩ := HPP.out.2 a e
           have k3 := HSZ.out
           exact ⟨fun e2 => by have := HOL.out _ (.inl e2); omega, fun e2 => by have := HOL.out _ (.inr e2); omega, by omega⟩)
          have HLO := Lib.hid (show ∀ a, pA = some a → w.heap.size ≤ a.block from fun a e => by
           have k1 := (HPP.out.2 a e).1
           have k2 := (HMD.out.ext GW1.out).g.size
           omega)
          have HQF := Lib.hid (show mkQ y m op = qB y m pe (1 + y.oth % 5) (0) (y.day % 2000 + y.long % 450) (y.kno % 40 + 1 + y.unt.tdiv 4 % 30) by rw [mkQ_B, HWHO.out, HPE.out, if_pos H2.out, if_pos H2.out, if_pos hlb, if_pos hu])
          go_upto_region 25 with (first | (at_builtin; go_loud ((refine wpList_app kdQ (by rfl) _ _ (by rfl) w.heap.size _ ls (by rfl) HMX.out.o1 _ 1 1 [⟨qB y m pe (1 + y.oth % 5) (0) (y.day % 2000 + y.long % 450) (y.kno % 40 + 1 + y.unt.tdiv 4 % 30), pA, pn, pc⟩] (by rfl) IX.out (by have := HLS.out; omega) HMX.out.g.size ?_); intro v' w' ho hgr hz; have HM2 := Lib.hid (HMX.out.add1 HPX.out HNE.out HLO.out ho hgr hz); have HM3 := Lib.hid (HM2.out.ext (one_more w' (.cells #[.int .i64 who] 3))); have IW := Lib.hid (one_int (Blk.new w' 3 #[.int .i64 who])); clear ho hgr hz)))
          clear e0 e1 e2 e3 e4 e5 e6 e7 e8
          go_wp2_with (first | (at_builtin; go_loud ((refine wpList_app kdI (by rfl) _ _ (by rfl) w.heap.size _ (whoP x m) (by rfl) HM3.out.o2 _ 1 1 [who] (by rfl) IW.out (by rw [whoP_len]; omega) HM3.out.g.size ?_); intro v2 w2 ho hgr hz; have HM4 := Lib.hid (HM3.out.add2 ho hgr hz); clear ho hgr hz)))
          go_roundw
          case rel => exact ⟨m + 1, ls ++ [⟨qB y m pe (1 + y.oth % 5) (0) (y.day % 2000 + y.long % 450) (y.kno % 40 + 1 + y.unt.tdiv 4 % 30), pA, pn, pc⟩], by omega, rfl, by rw [HN2.out, HIP.out]; rfl, by rw [whoP_succ, HY.out, HWHO.out]; exact HM4.out, by rw [HN1.out, List.map_append, HLQ.out, HQF.out]; rfl⟩
          case measure => simp only [intOf]; omega
         ·have hub : (y.unt % 4 == 0) = false := beq_eq_false_iff_ne.2 hu
          go_upto_region 24 with (go_at_call 38; (with_reducible refine (TM.out _ _ _ (by omega) (by omega)).mono ?_); rintro e w' ⟨rfl, rfl⟩)
          clear xu
          have e0 : World.cell? Wn3 ⟨b10, 0, none⟩ = some (.int .i64 (3 * (m : Int) + 2)) := HB3.out.bk.cell 0
          have e1 : World.cell? Wn3 ⟨b10, 1, none⟩ = some (.int .i64 (1 + y.kind % 8)) := HB3.out.bk.cell 1
          have e2 : World.cell? Wn3 ⟨b10, 2, none⟩ = some (.slice pA pn pc) := HB3.out.bk.cell 2
          have e3 : World.cell? Wn3 ⟨b10, 3, none⟩ = some (.int .i64 (1 + y.oth % 5)) := HB3.out.bk.cell 3
          have e4 : World.cell? Wn3 ⟨b10, 4, none⟩ = some (.int .i64 (0)) := HB3.out.bk.cell 4
          have e5 : World.cell? Wn3 ⟨b10, 5, none⟩ = some (.int .i64 (y.day % 2000)) := HB3.out.bk.cell 5
          have e6 : World.cell? Wn3 ⟨b10, 6, none⟩ = some (.int .i64 (y.day % 2000 + y.long % 450)) := HB3.out.bk.cell 6
          have e7 : World.cell? Wn3 ⟨b10, 7, none⟩ = some (.int .i64 (y.kno % 40)) := HB3.out.bk.cell 7
          have e8 : World.cell? Wn3 ⟨b10, 8, none⟩ = some (.int .i64 (0)) := HB3.out.bk.cell 8
          have HMX := Lib.hid (((HMD.out.ext GW1.out).ext HB3.out.g).ext (one_more Wn3 (.cells #[.int .i64 (3 * (m : Int) + 2), .int .i64 (1 + y.kind % 8), .slice pA pn pc, .int .i64 (1 + y.oth % 5), .int .i64 (0), .int .i64 (y.day % 2000), .int .i64 (y.day % 2000 + y.long % 450), .int .i64 (y.kno % 40), .int .i64 (0)] 56)))
          have IX := Lib.hid (one_pf (x := ⟨qB y m pe (1 + y.oth % 5) (0) (y.day % 2000 + y.long % 450) (0), pA, pn, pc⟩) (Blk.new Wn3 56 #[.int .i64 (3 * (m : Int) + 2), .int .i64 (1 + y.kind % 8), .slice pA pn pc, .int .i64 (1 + y.oth % 5), .int .i64 (0), .int .i64 (y.day % 2000), .int .i64 (y.day % 2000 + y.long % 450), .int .i64 (y.kno % 40), .int .i64 (0)]))
          have HPP := Lib.hid (HB3.out.pi (by show pe.length ≤ 1000; have := HPE3.out; omega))
          have HPX := Lib.hid (HPP.out.1.below (one_more Wn3 (.cells #[.int .i64 (3 * (m : Int) + 2), .int .i64 (1 + y.kind % 8), .slice pA pn pc, .int .i64 (1 + y.oth % 5), .int .i64 (0), .int .i64 (y.day % 2000), .int .i64 (y.day % 2000 + y.long % 450), .int .i64 (y.kno % 40), .int .i64 (0)] 56)))
          have HSZ := Lib.hid (one_more Wn3 (.cells #[.int .i64 (3 * (m : Int) + 2), .int .i64 (1 + y.kind % 8), .slice pA pn pc, .int .i64 (1 + y.oth % 5), .int .i64 (0), .int .i64 (y.day % 2000), .int .i64 (y.day % 2000 + y.long % 450), .int .i64 (y.kno % 40), .int .i64 (0)] 56)).size
          have HNE := Lib.hid (show ∀ a, pA = some a → u4.ownBlock ≠ some a.block ∧ u5.ownBlock ≠ some a.block ∧ a.block < (Wn3.alloc (.cells #[.int .i64 (3 * (m : Int) + 2), .int .i64 (1 + y.kind % 8), .slice pA pn pc, .int .i64 (1 + y.oth % 5), .int .i64 (0), .int .i64 (y.day % 2000), .int .i64 (y.day % 2000 + y.long % 450), .int .i64 (y.kno % 40), .int .i64 (0)] 56)).heap.size from fun a e => by
           obtain ⟨k1, k2⟩ := HPP.out.2 a e
           have k3 := HSZ.out
           exact ⟨fun e2 => by have := HOL.out _ (.inl e2); omega, fun e2 => by have := HOL.out _ (.inr e2); omega, by omega⟩)
          have HLO := Lib.hid (show ∀ a, pA = some a → w.heap.size ≤ a.block from fun a e => by
           have k1 := (HPP.out.2 a e).1
           have k2 := (HMD.out.ext GW1.out).g.size
           omega)
          have HQF := Lib.hid (show mkQ y m op = qB y m pe (1 + y.oth % 5) (0) (y.day % 2000 + y.long % 450) (0) by rw [mkQ_B, HWHO.out, HPE.out, if_pos H2.out, if_pos H2.out, if_pos hlb, if_neg hu])
          go_upto_region 25 with (first | (at_builtin; go_loud ((refine wpList_app kdQ (by rfl) _ _ (by rfl) w.heap.size _ ls (by rfl) HMX.out.o1 _ 1 1 [⟨qB y m pe (1 + y.oth % 5) (0) (y.day % 2000 + y.long % 450) (0), pA, pn, pc⟩] (by rfl) IX.out (by have := HLS.out; omega) HMX.out.g.size ?_); intro v' w' ho hgr hz; have HM2 := Lib.hid (HMX.out.add1 HPX.out HNE.out HLO.out ho hgr hz); have HM3 := Lib.hid (HM2.out.ext (one_more w' (.cells #[.int .i64 who] 3))); have IW := Lib.hid (one_int (Blk.new w' 3 #[.int .i64 who])); clear ho hgr hz)))
          clear e0 e1 e2 e3 e4 e5 e6 e7 e8
          go_wp2_with (first | (at_builtin; go_loud ((refine wpList_app kdI (by rfl) _ _ (by rfl) w.heap.size _ (whoP x m) (by rfl) HM3.out.o2 _ 1 1 [who] (by rfl) IW.out (by rw [whoP_len]; omega) HM3.out.g.size ?_); intro v2 w2 ho hgr hz; have HM4 := Lib.hid (HM3.out.add2 ho hgr hz); clear ho hgr hz)))
          go_roundw
          case rel => exact ⟨m + 1, ls ++ [⟨qB y m pe (1 + y.oth % 5) (0) (y.day % 2000 + y.long % 450) (0), pA, pn, pc⟩], by omega, rfl, by rw [HN2.out, HIP.out]; rfl, by rw [whoP_succ, HY.out, HWHO.out]; exact HM4.out, by rw [HN1.out, List.map_append, HLQ.out, HQF.out]; rfl⟩
          case measure => simp only [intOf]; omega
        | false =>
         go_upto_region 22 with (go_at_call 99; (with_reducible refine (HLA.out _).mono ?_); rintro e w' ⟨rfl, rfl⟩)
         clear k1
         have xu : World.cell? Wn1 ⟨bX, 8, none⟩ = some (.int .i64 y.unt) := (BX.out.ext HB1.out.g).cell 8
         by_cases hu : y.unt % 4 = 0
         ·have hub : (y.unt % 4 == 0) = true := beq_iff_eq.2 hu
          go_upto_region 23 with (go_at_call 38; (with_reducible refine (TM.out _ _ _ (by omega) (by omega)).mono ?_); rintro e w' ⟨rfl, rfl⟩)
          have k7 := cellW (show World.cell? Wn1 ⟨b10, 7, none⟩ = some (.int .i64 (y.kno % 40)) from HB1.out.bk.cell 7)
          have x8 := cellW xu
          clear xu
          have ha1 : IntKind.i64.wrap (y.kno % 40 + 1) = y.kno % 40 + 1 := by rw [IntKind.wrap_i64]; omega
          have ha2 : IntKind.i64.wrap (y.unt.tdiv 4) = y.unt.tdiv 4 := HW4.out
          have ha3 : IntKind.i64.wrap (y.kno % 40 + 1 + y.unt.tdiv 4 % 30) = y.kno % 40 + 1 + y.unt.tdiv 4 % 30 := by
           generalize y.unt.tdiv 4 = u9
           rw [IntKind.wrap_i64]; omega
          refine wp_region_calm_tail Wn1 9 (by kernel_rfl) (by kernel_rfl) (Below.refl _ _) ?_
          simp only [List.take_succ_cons, List.take_zero, List.drop_succ_cons, List.drop_zero]
          repeat (go_big_quiet_step (first | (go_at_call 38; exact callsCalmSame (TM.out _ _ _ (by omega) (by omega)))))
          refine wpQuiet_nil ?_
          rintro _ ⟨zu, rfl⟩
          have HZ6 := Lib.hid (HB1.out.ext zu.ok)
          clear k7 x8
          have q8 : World.cell? zu.val ⟨b10, 8, none⟩ = some (.int .i64 0) := HZ6.out.bk.cell 8
          have qf := HZ6.out.bk.frozen 8
          go_upto_region 24 with fail
          clear q8 qf ha1 ha2 ha3
          have HB7 := Lib.hid (HZ6.out.set 8 (.int .i64 (y.kno % 40 + 1 + y.unt.tdiv 4 % 30)) (p' := ⟨qB y m pe (1 + y.oth % 5) (0) (0) (y.kno % 40 + 1 + y.unt.tdiv 4 % 30), pA, pn, pc⟩) rfl ⟨rfl, rfl, rfl, rfl⟩)
          obtain ⟨Wn7, hWn7⟩ : ∃ X, World.setCell zu.val ⟨b10, 8, none⟩ (.int .i64 (y.kno % 40 + 1 + y.unt.tdiv 4 % 30)) = X := ⟨_, rfl⟩
          rw [hWn7] at HB7 ⊢
          clear hWn7
          have e0 : World.cell? Wn7 ⟨b10, 0, none⟩ = some (.int .i64 (3 * (m : Int) + 2)) := HB7.out.bk.cell 0
          have e1 : World.cell? Wn7 ⟨b10, 1, none⟩ = some (.int .i64 (1 + y.kind % 8)) := HB7.out.bk.cell 1
          have e2 : World.cell? Wn7 ⟨b10, 2, none⟩ = some (.slice pA pn pc) := HB7.out.bk.cell 2
          have e3 : World.cell? Wn7 ⟨b10, 3, none⟩ = some (.int .i64 (1 + y.oth % 5)) := HB7.out.bk.cell 3
          have e4 : World.cell? Wn7 ⟨b10, 4, none⟩ = some (.int .i64 (0)) := HB7.out.bk.cell 4
          have e5 : World.cell? Wn7 ⟨b10, 5, none⟩ = some (.int .i64 (y.day % 2000)) := HB7.out.bk.cell 5
          have e6 : World.cell? Wn7 ⟨b10, 6, none⟩ = some (.int .i64 (0)) := HB7.out.bk.cell 6
          have e7 : World.cell? Wn7 ⟨b10, 7, none⟩ = some (.int .i64 (y.kno % 40)) := HB7.out.bk.cell 7
          have e8 : World.cell? Wn7 ⟨b10, 8, none⟩ = some (.int .i64 (y.kno % 40 + 1 + y.unt.tdiv 4 % 30)) := HB7.out.bk.cell 8
          have HMX := Lib.hid (((HMD.out.ext GW1.out).ext HB7.out.g).ext (one_more Wn7 (.cells #[.int .i64 (3 * (m : Int) + 2), .int .i64 (1 + y.kind % 8), .slice pA pn pc, .int .i64 (1 + y.oth % 5), .int .i64 (0), .int .i64 (y.day % 2000), .int .i64 (0), .int .i64 (y.kno % 40), .int .i64 (y.kno % 40 + 1 + y.unt.tdiv 4 % 30)] 56)))
          have IX := Lib.hid (one_pf (x := ⟨qB y m pe (1 + y.oth % 5) (0) (0) (y.kno % 40 + 1 + y.unt.tdiv 4 % 30), pA, pn, pc⟩) (Blk.new Wn7 56 #[.int .i64 (3 * (m : Int) + 2), .int .i64 (1 + y.kind % 8), .slice pA pn pc, .int .i64 (1 + y.oth % 5), .int .i64 (0), .int .i64 (y.day % 2000), .int .i64 (0), .int .i64 (y.kno % 40), .int .i64 (y.kno % 40 + 1 + y.unt.tdiv 4 % 30)]))
          have HPP := Lib.hid (HB7.out.pi (by show pe.length ≤ 1000; have := HPE3.out; omega))
          have HPX := Lib.hid (HPP.out.1.below (one_more Wn7 (.cells #[.int .i64 (3 * (m : Int) + 2), .int .i64 (1 + y.kind % 8), .slice pA pn pc, .int .i64 (1 + y.oth % 5), .int .i64 (0), .int .i64 (y.day % 2000), .int .i64 (0), .int .i64 (y.kno % 40), .int .i64 (y.kno % 40 + 1 + y.unt.tdiv 4 % 30)] 56)))
          have HSZ := Lib.hid (one_more Wn7 (.cells #[.int .i64 (3 * (m : Int) + 2), .int .i64 (1 + y.kind % 8), .slice pA pn pc, .int .i64 (1 + y.oth % 5), .int .i64 (0), .int .i64 (y.day % 2000), .int .i64 (0), .int .i64 (y.kno % 40), .int .i64 (y.kno % 40 + 1 + y.unt.tdiv 4 % 30)] 56)).size
          have HNE := Lib.hid (show ∀ a, pA = some a → u4.ownBlock ≠ some a.block ∧ u5.ownBlock ≠ some a.block ∧ a.block < (Wn7.alloc (.cells #[.int .i64 (3 * (m : Int) + 2), .int .i64 (1 + y.kind % 8), .slice pA pn pc, .int .i64 (1 + y.oth % 5), .int .i64 (0), .int .i64 (y.day % 2000), .int .i64 (0), .int .i64 (y.kno % 40), .int .i64 (y.kno % 40 + 1 + y.unt.tdiv 4 % 30)] 56)).heap.size from fun a e => by
           obtain ⟨k1, k2⟩ := HPP.out.2 a e
           have k3 := HSZ.out
           exact ⟨fun e2 => by have := HOL.out _ (.inl e2); omega, fun e2 => by have := HOL.out _ (.inr e2); omega, by omega⟩)
          have HLO := Lib.hid (show ∀ a, pA = some a → w.heap.size ≤ a.block from fun a e => by
           have k1 := (HPP.out.2 a e).1
           have k2 := (HMD.out.ext GW1.out).g.size
           omega)
          have HQF := Lib.hid (show mkQ y m op = qB y m pe (1 + y.oth % 5) (0) (0) (y.kno % 40 + 1 + y.unt.tdiv 4 % 30) by rw [mkQ_B, HWHO.out, HPE.out, if_pos H2.out, if_pos H2.out, if_neg (by rw [hlb]; decide), if_pos hu])
          go_upto_region 25 with (first | (at_builtin; go_loud ((refine wpList_app kdQ (by rfl) _ _ (by rfl) w.heap.size _ ls (by rfl) HMX.out.o1 _ 1 1 [⟨qB y m pe (1 + y.oth % 5) (0) (0) (y.kno % 40 + 1 + y.unt.tdiv 4 % 30), pA, pn, pc⟩] (by rfl) IX.out (by have := HLS.out; omega) HMX.out.g.size ?_); intro v' w' ho hgr hz; have HM2 := Lib.hid (HMX.out.add1 HPX.out HNE.out HLO.out ho hgr hz); have HM3 := Lib.hid (HM2.out.ext (one_more w' (.cells #[.int .i64 who] 3))); have IW := Lib.hid (one_int (Blk.new w' 3 #[.int .i64 who])); clear ho hgr hz)))
          clear e0 e1 e2 e3 e4 e5 e6 e7 e8
          go_wp2_with (first | (at_builtin; go_loud ((refine wpList_app kdI (by rfl) _ _ (by rfl) w.heap.size _ (whoP x m) (by rfl) HM3.out.o2 _ 1 1 [who] (by rfl) IW.out (by rw [whoP_len]; omega) HM3.out.g.size ?_); intro v2 w2 ho hgr hz; have HM4 := Lib.hid (HM3.out.add2 ho hgr hz); clear ho hgr hz)))
          go_roundw
          case rel => exact ⟨m + 1, ls ++ [⟨qB y m pe (1 + y.oth % 5) (0) (0) (y.kno % 40 + 1 + y.unt.tdiv 4 % 30), pA, pn, pc⟩], by omega, rfl, by rw [HN2.out, HIP.out]; rfl, by rw [whoP_succ, HY.out, HWHO.out]; exact HM4.out, by rw [HN1.out, List.map_append, HLQ.out, HQF.out]; rfl⟩
          case measure => simp only [intOf]; omega
         ·have hub : (y.unt % 4 == 0) = false := beq_eq_false_iff_ne.2 hu
          go_upto_region 24 with (go_at_call 38; (with_reducible refine (TM.out _ _ _ (by omega) (by omega)).mono ?_); rintro e w' ⟨rfl, rfl⟩)
          clear xu
          have e0 : World.cell? Wn1 ⟨b10, 0, none⟩ = some (.int .i64 (3 * (m : Int) + 2)) := HB1.out.bk.cell 0
          have e1 : World.cell? Wn1 ⟨b10, 1, none⟩ = some (.int .i64 (1 + y.kind % 8)) := HB1.out.bk.cell 1
          have e2 : World.cell? Wn1 ⟨b10, 2, none⟩ = some (.slice pA pn pc) := HB1.out.bk.cell 2
          have e3 : World.cell? Wn1 ⟨b10, 3, none⟩ = some (.int .i64 (1 + y.oth % 5)) := HB1.out.bk.cell 3
          have e4 : World.cell? Wn1 ⟨b10, 4, none⟩ = some (.int .i64 (0)) := HB1.out.bk.cell 4
          have e5 : World.cell? Wn1 ⟨b10, 5, none⟩ = some (.int .i64 (y.day % 2000)) := HB1.out.bk.cell 5
          have e6 : World.cell? Wn1 ⟨b10, 6, none⟩ = some (.int .i64 (0)) := HB1.out.bk.cell 6
          have e7 : World.cell? Wn1 ⟨b10, 7, none⟩ = some (.int .i64 (y.kno % 40)) := HB1.out.bk.cell 7
          have e8 : World.cell? Wn1 ⟨b10, 8, none⟩ = some (.int .i64 (0)) := HB1.out.bk.cell 8
          have HMX := Lib.hid (((HMD.out.ext GW1.out).ext HB1.out.g).ext (one_more Wn1 (.cells #[.int .i64 (3 * (m : Int) + 2), .int .i64 (1 + y.kind % 8), .slice pA pn pc, .int .i64 (1 + y.oth % 5), .int .i64 (0), .int .i64 (y.day % 2000), .int .i64 (0), .int .i64 (y.kno % 40), .int .i64 (0)] 56)))
          have IX := Lib.hid (one_pf (x := ⟨qB y m pe (1 + y.oth % 5) (0) (0) (0), pA, pn, pc⟩) (Blk.new Wn1 56 #[.int .i64 (3 * (m : Int) + 2), .int .i64 (1 + y.kind % 8), .slice pA pn pc, .int .i64 (1 + y.oth % 5), .int .i64 (0), .int .i64 (y.day % 2000), .int .i64 (0), .int .i64 (y.kno % 40), .int .i64 (0)]))
          have HPP := Lib.hid (HB1.out.pi (by show pe.length ≤ 1000; have := HPE3.out; omega))
          have HPX := Lib.hid (HPP.out.1.below (one_more Wn1 (.cells #[.int .i64 (3 * (m : Int) + 2), .int .i64 (1 + y.kind % 8), .slice pA pn pc, .int .i64 (1 + y.oth % 5), .int .i64 (0), .int .i64 (y.day % 2000), .int .i64 (0), .int .i64 (y.kno % 40), .int .i64 (0)] 56)))
          have HSZ := Lib.hid (one_more Wn1 (.cells #[.int .i64 (3 * (m : Int) + 2), .int .i64 (1 + y.kind % 8), .slice pA pn pc, .int .i64 (1 + y.oth % 5), .int .i64 (0), .int .i64 (y.day % 2000), .int .i64 (0), .int .i64 (y.kno % 40), .int .i64 (0)] 56)).size
          have HNE := Lib.hid (show ∀ a, pA = some a → u4.ownBlock ≠ some a.block ∧ u5.ownBlock ≠ some a.block ∧ a.block < (Wn1.alloc (.cells #[.int .i64 (3 * (m : Int) + 2), .int .i64 (1 + y.kind % 8), .slice pA pn pc, .int .i64 (1 + y.oth % 5), .int .i64 (0), .int .i64 (y.day % 2000), .int .i64 (0), .int .i64 (y.kno % 40), .int .i64 (0)] 56)).heap.size from fun a e => by
           obtain ⟨k1, k2⟩ := HPP.out.2 a e
           have k3 := HSZ.out
           exact ⟨fun e2 => by have := HOL.out _ (.inl e2); omega, fun e2 => by have := HOL.out _ (.inr e2); omega, by omega⟩)
          have HLO := Lib.hid (show ∀ a, pA = some a → w.heap.size ≤ a.block from fun a e => by
           have k1 := (HPP.out.2 a e).1
           have k2 := (HMD.out.ext GW1.out).g.size
           omega)
          have HQF := Lib.hid (show mkQ y m op = qB y m pe (1 + y.oth % 5) (0) (0) (0) by rw [mkQ_B, HWHO.out, HPE.out, if_pos H2.out, if_pos H2.out, if_neg (by rw [hlb]; decide), if_neg hu])
          go_upto_region 25 with (first | (at_builtin; go_loud ((refine wpList_app kdQ (by rfl) _ _ (by rfl) w.heap.size _ ls (by rfl) HMX.out.o1 _ 1 1 [⟨qB y m pe (1 + y.oth % 5) (0) (0) (0), pA, pn, pc⟩] (by rfl) IX.out (by have := HLS.out; omega) HMX.out.g.size ?_); intro v' w' ho hgr hz; have HM2 := Lib.hid (HMX.out.add1 HPX.out HNE.out HLO.out ho hgr hz); have HM3 := Lib.hid (HM2.out.ext (one_more w' (.cells #[.int .i64 who] 3))); have IW := Lib.hid (one_int (Blk.new w' 3 #[.int .i64 who])); clear ho hgr hz)))
          clear e0 e1 e2 e3 e4 e5 e6 e7 e8
          go_wp2_with (first | (at_builtin; go_loud ((refine wpList_app kdI (by rfl) _ _ (by rfl) w.heap.size _ (whoP x m) (by rfl) HM3.out.o2 _ 1 1 [who] (by rfl) IW.out (by rw [whoP_len]; omega) HM3.out.g.size ?_); intro v2 w2 ho hgr hz; have HM4 := Lib.hid (HM3.out.add2 ho hgr hz); clear ho hgr hz)))
          go_roundw
          case rel => exact ⟨m + 1, ls ++ [⟨qB y m pe (1 + y.oth % 5) (0) (0) (0), pA, pn, pc⟩], by omega, rfl, by rw [HN2.out, HIP.out]; rfl, by rw [whoP_succ, HY.out, HWHO.out]; exact HM4.out, by rw [HN1.out, List.map_append, HLQ.out, HQF.out]; rfl⟩
          case measure => simp only [intOf]; omega
       ·have h2b : (1 + y.kind % 8 == 2) = false := beq_eq_false_iff_ne.2 h2
        have H2 := Lib.hid h2
        clear h2
        go_upto_region 20 with (go_at_call 38; (with_reducible refine (TM.out _ _ _ (by omega) (by omega)).mono ?_); rintro e w' ⟨rfl, rfl⟩)
        clear k1 k3 k4 kf3 kf4 x3 x4
        have HB8 := Lib.hid (HBA.out.set 4 (.int .i64 (y.par % 3)) (p' := ⟨qB y m pe (0) (y.par % 3) (0) (0), pA, pn, pc⟩) rfl ⟨rfl, rfl, rfl, rfl⟩)
        obtain ⟨Wn8, hWn8⟩ : ∃ X, World.setCell wr ⟨b10, 4, none⟩ (.int .i64 (y.par % 3)) = X := ⟨_, rfl⟩
        rw [hWn8] at HB8 ⊢
        clear hWn8
        have k1 : World.cell? Wn8 ⟨b10, 1, none⟩ = some (.int .i64 (1 + y.kind % 8)) := HB8.out.bk.cell 1
        have HLA := Lib.hid (refLasts_any (1 + y.kind % 8))
        obtain ⟨lb, hlb⟩ : ∃ b, lastsB (1 + y.kind % 8) = b := ⟨_, rfl⟩
        rw [hlb] at HLA
        cases lb with
        | true =>
         go_upto_region 21 with (go_at_call 99; (with_reducible refine (HLA.out _).mono ?_); rintro e w' ⟨rfl, rfl⟩)
         clear k1
         have k5 := cellW (show World.cell? Wn8 ⟨b10, 5, none⟩ = some (.int .i64 (y.day % 2000)) from HB8.out.bk.cell 5)
         have x6 := cellW (show World.cell? Wn8 ⟨bX, 6, none⟩ = some (.int .i64 y.long) from (BX.out.ext HB8.out.g).cell 6)
         have ha1 : IntKind.i64.wrap (y.day % 2000 + y.long % 450) = y.day % 2000 + y.long % 450 := by rw [IntKind.wrap_i64]; omega
         refine wp_region_calm_tail Wn8 7 (by kernel_rfl) (by kernel_rfl) (Below.refl _ _) ?_
         simp only [List.take_succ_cons, List.take_zero, List.drop_succ_cons, List.drop_zero]
         repeat (go_big_quiet_step (first | (go_at_call 38; exact callsCalmSame (TM.out _ _ _ (by omega) (by omega)))))
         refine wpQuiet_nil ?_
         rintro _ ⟨zl, rfl⟩
         have HZ9 := Lib.hid (HB8.out.ext zl.ok)
         clear k5 x6
         have q6 : World.cell? zl.val ⟨b10, 6, none⟩ = some (.int .i64 0) := HZ9.out.bk.cell 6
         have qf := HZ9.out.bk.frozen 6
         go_upto_region 22 with fail
         clear q6 qf ha1
         have HB10 := Lib.hid (HZ9.out.set 6 (.int .i64 (y.day % 2000 + y.long % 450)) (p' := ⟨qB y m pe (0) (y.par % 3) (y.day % 2000 + y.long % 450) (0), pA, pn, pc⟩) rfl ⟨rfl, rfl, rfl, rfl⟩)
         obtain ⟨Wn10, hWn10⟩ : ∃ X, World.setCell zl.val ⟨b10, 6, none⟩ (.int .i64 (y.day % 2000 + y.long % 450)) = X := ⟨_, rfl⟩
         rw [hWn10] at HB10 ⊢
         clear hWn10
         have xu : World.cell? Wn10 ⟨bX, 8, none⟩ = some (.int .i64 y.unt) := (BX.out.ext HB10.out.g).cell 8
         by_cases hu : y.unt % 4 = 0
         ·have hub : (y.unt % 4 == 0) = true := beq_iff_eq.2 hu
          go_upto_region 23 with (go_at_call 38; (with_reducible refine (TM.out _ _ _ (by omega) (by omega)).mono ?_); rintro e w' ⟨rfl, rfl⟩)
          have k7 := cellW (show World.cell? Wn10 ⟨b10, 7, none⟩ = some (.int .i64 (y.kno % 40)) from HB10.out.bk.cell 7)
          have x8 := cellW xu
          clear xu
          have ha1 : IntKind.i64.wrap (y.kno % 40 + 1) = y.kno % 40 + 1 := by rw [IntKind.wrap_i64]; omega
          have ha2 : IntKind.i64.wrap (y.unt.tdiv 4) = y.unt.tdiv 4 := HW4.out
          have ha3 : IntKind.i64.wrap (y.kno % 40 + 1 + y.unt.tdiv 4 % 30) = y.kno % 40 + 1 + y.unt.tdiv 4 % 30 := by
           generalize y.unt.tdiv 4 = u9
           rw [IntKind.wrap_i64]; omega
          refine wp_region_calm_tail Wn10 9 (by kernel_rfl) (by kernel_rfl) (Below.refl _ _) ?_
          simp only [List.take_succ_cons, List.take_zero, List.drop_succ_cons, List.drop_zero]
          repeat (go_big_quiet_step (first | (go_at_call 38; exact callsCalmSame (TM.out _ _ _ (by omega) (by omega)))))
          refine wpQuiet_nil ?_
          rintro _ ⟨zu, rfl⟩
          have HZ11 := Lib.hid (HB10.out.ext zu.ok)
          clear k7 x8
          have q8 : World.cell? zu.val ⟨b10, 8, none⟩ = some (.int .i64 0) := HZ11.out.bk.cell 8
          have qf := HZ11.out.bk.frozen 8
          go_upto_region 24 with fail
          clear q8 qf ha1 ha2 ha3
          have HB12 := Lib.hid (HZ11.out.set 8 (.int .i64 (y.kno % 40 + 1 + y.unt.tdiv 4 % 30)) (p' := ⟨qB y m pe (0) (y.par % 3) (y.day % 2000 + y.long % 450) (y.kno % 40 + 1 + y.unt.tdiv 4 % 30), pA, pn, pc⟩) rfl ⟨rfl, rfl, rfl, rfl⟩)
          obtain ⟨Wn12, hWn12⟩ : ∃ X, World.setCell zu.val ⟨b10, 8, none⟩ (.int .i64 (y.kno % 40 + 1 + y.unt.tdiv 4 % 30)) = X := ⟨_, rfl⟩
          rw [hWn12] at HB12 ⊢
          clear hWn12
          have e0 : World.cell? Wn12 ⟨b10, 0, none⟩ = some (.int .i64 (3 * (m : Int) + 2)) := HB12.out.bk.cell 0
          have e1 : World.cell? Wn12 ⟨b10, 1, none⟩ = some (.int .i64 (1 + y.kind % 8)) := HB12.out.bk.cell 1
          have e2 : World.cell? Wn12 ⟨b10, 2, none⟩ = some (.slice pA pn pc) := HB12.out.bk.cell 2
          have e3 : World.cell? Wn12 ⟨b10, 3, none⟩ = some (.int .i64 (0)) := HB12.out.bk.cell 3
          have e4 : World.cell? Wn12 ⟨b10, 4, none⟩ = some (.int .i64 (y.par % 3)) := HB12.out.bk.cell 4
          have e5 : World.cell? Wn12 ⟨b10, 5, none⟩ = some (.int .i64 (y.day % 2000)) := HB12.out.bk.cell 5
          have e6 : World.cell? Wn12 ⟨b10, 6, none⟩ = some (.int .i64 (y.day % 2000 + y.long % 450)) := HB12.out.bk.cell 6
          have e7 : World.cell? Wn12 ⟨b10, 7, none⟩ = some (.int .i64 (y.kno % 40)) := HB12.out.bk.cell 7
          have e8 : World.cell? Wn12 ⟨b10, 8, none⟩ = some (.int .i64 (y.kno % 40 + 1 + y.unt.tdiv 4 % 30)) := HB12.out.bk.cell 8
          have HMX := Lib.hid (((HMD.out.ext GW1.out).ext HB12.out.g).ext (one_more Wn12 (.cells #[.int .i64 (3 * (m : Int) + 2), .int .i64 (1 + y.kind % 8), .slice pA pn pc, .int .i64 (0), .int .i64 (y.par % 3), .int .i64 (y.day % 2000), .int .i64 (y.day % 2000 + y.long % 450), .int .i64 (y.kno % 40), .int .i64 (y.kno % 40 + 1 + y.unt.tdiv 4 % 30)] 56)))
          have IX := Lib.hid (one_pf (x := ⟨qB y m pe (0) (y.par % 3) (y.day % 2000 + y.long % 450) (y.kno % 40 + 1 + y.unt.tdiv 4 % 30), pA, pn, pc⟩) (Blk.new Wn12 56 #[.int .i64 (3 * (m : Int) + 2), .int .i64 (1 + y.kind % 8), .slice pA pn pc, .int .i64 (0), .int .i64 (y.par % 3), .int .i64 (y.day % 2000), .int .i64 (y.day % 2000 + y.long % 450), .int .i64 (y.kno % 40), .int .i64 (y.kno % 40 + 1 + y.unt.tdiv 4 % 30)]))
          have HPP := Lib.hid (HB12.out.pi (by show pe.length ≤ 1000; have := HPE3.out; omega))
          have HPX := Lib.hid (HPP.out.1.below (one_more Wn12 (.cells #[.int .i64 (3 * (m : Int) + 2), .int .i64 (1 + y.kind % 8), .slice pA pn pc, .int .i64 (0), .int .i64 (y.par % 3), .int .i64 (y.day % 2000), .int .i64 (y.day % 2000 + y.long % 450), .int .i64 (y.kno % 40), .int .i64 (y.kno % 40 + 1 + y.unt.tdiv 4 % 30)] 56)))
          have HSZ := Lib.hid (one_more Wn12 (.cells #[.int .i64 (3 * (m : Int) + 2), .int .i64 (1 + y.kind % 8), .slice pA pn pc, .int .i64 (0), .int .i64 (y.par % 3), .int .i64 (y.day % 2000), .int .i64 (y.day % 2000 + y.long % 450), .int .i64 (y.kno % 40), .int .i64 (y.kno % 40 + 1 + y.unt.tdiv 4 % 30)] 56)).size
          have HNE := Lib.hid (show ∀ a, pA = some a → u4.ownBlock ≠ some a.block ∧ u5.ownBlock ≠ some a.block ∧ a.block < (Wn12.alloc (.cells #[.int .i64 (3 * (m : Int) + 2), .int .i64 (1 + y.kind % 8), .slice pA pn pc, .int .i64 (0), .int .i64 (y.par % 3), .int .i64 (y.day % 2000), .int .i64 (y.day % 2000 + y.long % 450), .int .i64 (y.kno % 40), .int .i64 (y.kno % 40 + 1 + y.unt.tdiv 4 % 30)] 56)).heap.size from fun a e => by
           obtain ⟨k1, k2⟩ := HPP.out.2 a e
           have k3 := HSZ.out
           exact ⟨fun e2 => by have := HOL.out _ (.inl e2); omega, fun e2 => by have := HOL.out _ (.inr e2); omega, by omega⟩)
          have HLO := Lib.hid (show ∀ a, pA = some a → w.heap.size ≤ a.block from fun a e => by
           have k1 := (HPP.out.2 a e).1
           have k2 := (HMD.out.ext GW1.out).g.size
           omega)
          have HQF := Lib.hid (show mkQ y m op = qB y m pe (0) (y.par % 3) (y.day % 2000 + y.long % 450) (y.kno % 40 + 1 + y.unt.tdiv 4 % 30) by rw [mkQ_B, HWHO.out, HPE.out, if_neg H2.out, if_neg H2.out, if_pos hlb, if_pos hu])
          go_upto_region 25 with (first | (at_builtin; go_loud ((refine wpList_app kdQ (by rfl) _ _ (by rfl) w.heap.size _ ls (by rfl) HMX.out.o1 _ 1 1 [⟨qB y m pe (0) (y.par % 3) (y.day % 2000 + y.long % 450) (y.kno % 40 + 1 + y.unt.tdiv 4 % 30), pA, pn, pc⟩] (by rfl) IX.out (by have := HLS.out; omega) HMX.out.g.size ?_); intro v' w' ho hgr hz; have HM2 := Lib.hid (HMX.out.add1 HPX.out HNE.out HLO.out ho hgr hz); have HM3 := Lib.hid (HM2.out.ext (one_more w' (.cells #[.int .i64 who] 3))); have IW := Lib.hid (one_int (Blk.new w' 3 #[.int .i64 who])); clear ho hgr hz)))
          clear e0 e1 e2 e3 e4 e5 e6 e7 e8
          go_wp2_with (first | (at_builtin; go_loud ((refine wpList_app kdI (by rfl) _ _ (by rfl) w.heap.size _ (whoP x m) (by rfl) HM3.out.o2 _ 1 1 [who] (by rfl) IW.out (by rw [whoP_len]; omega) HM3.out.g.size ?_); intro v2 w2 ho hgr hz; have HM4 := Lib.hid (HM3.out.add2 ho hgr hz); clear ho hgr hz)))
          go_roundw
          case rel => exact ⟨m + 1, ls ++ [⟨qB y m pe (0) (y.par % 3) (y.day % 2000 + y.long % 450) (y.kno % 40 + 1 + y.unt.tdiv 4 % 30), pA, pn, pc⟩], by omega, rfl, by rw [HN2.out, HIP.out]; rfl, by rw [whoP_succ, HY.out, HWHO.out]; exact HM4.out, by rw [HN1.out, List.map_append, HLQ.out, HQF.out]; rfl⟩
          case measure => simp only [intOf]; omega
         ·have hub : (y.unt % 4 == 0) = false := beq_eq_false_iff_ne.2 hu
          go_upto_region 24 with (go_at_call 38; (with_reducible refine (TM.out _ _ _ (by omega) (by omega)).mono ?_); rintro e w' ⟨rfl, rfl⟩)
          clear xu
          have e0 : World.cell? Wn10 ⟨b10, 0, none⟩ = some (.int .i64 (3 * (m : Int) + 2)) := HB10.out.bk.cell 0
          have e1 : World.cell? Wn10 ⟨b10, 1, none⟩ = some (.int .i64 (1 + y.kind % 8)) := HB10.out.bk.cell 1
          have e2 : World.cell? Wn10 ⟨b10, 2, none⟩ = some (.slice pA pn pc) := HB10.out.bk.cell 2
          have e3 : World.cell? Wn10 ⟨b10, 3, none⟩ = some (.int .i64 (0)) := HB10.out.bk.cell 3
          have e4 : World.cell? Wn10 ⟨b10, 4, none⟩ = some (.int .i64 (y.par % 3)) := HB10.out.bk.cell 4
          have e5 : World.cell? Wn10 ⟨b10, 5, none⟩ = some (.int .i64 (y.day % 2000)) := HB10.out.bk.cell 5
          have e6 : World.cell? Wn10 ⟨b10, 6, none⟩ = some (.int .i64 (y.day % 2000 + y.long % 450)) := HB10.out.bk.cell 6
          have e7 : World.cell? Wn10 ⟨b10, 7, none⟩ = some (.int .i64 (y.kno % 40)) := HB10.out.bk.cell 7
          have e8 : World.cell? Wn10 ⟨b10, 8, none⟩ = some (.int .i64 (0)) := HB10.out.bk.cell 8
          have HMX := Lib.hid (((HMD.out.ext GW1.out).ext HB10.out.g).ext (one_more Wn10 (.cells #[.int .i64 (3 * (m : Int) + 2), .int .i64 (1 + y.kind % 8), .slice pA pn pc, .int .i64 (0), .int .i64 (y.par % 3), .int .i64 (y.day % 2000), .int .i64 (y.day % 2000 + y.long % 450), .int .i64 (y.kno % 40), .int .i64 (0)] 56)))
          have IX := Lib.hid (one_pf (x := ⟨qB y m pe (0) (y.par % 3) (y.day % 2000 + y.long % 450) (0), pA, pn, pc⟩) (Blk.new Wn10 56 #[.int .i64 (3 * (m : Int) + 2), .int .i64 (1 + y.kind % 8), .slice pA pn pc, .int .i64 (0), .int .i64 (y.par % 3), .int .i64 (y.day % 2000), .int .i64 (y.day % 2000 + y.long % 450), .int .i64 (y.kno % 40), .int .i64 (0)]))
          have HPP := Lib.hid (HB10.out.pi (by show pe.length ≤ 1000; have := HPE3.out; omega))
          have HPX := Lib.hid (HPP.out.1.below (one_more Wn10 (.cells #[.int .i64 (3 * (m : Int) + 2), .int .i64 (1 + y.kind % 8), .slice pA pn pc, .int .i64 (0), .int .i64 (y.par % 3), .int .i64 (y.day % 2000), .int .i64 (y.day % 2000 + y.long % 450), .int .i64 (y.kno % 40), .int .i64 (0)] 56)))
          have HSZ := Lib.hid (one_more Wn10 (.cells #[.int .i64 (3 * (m : Int) + 2), .int .i64 (1 + y.kind % 8), .slice pA pn pc, .int .i64 (0), .int .i64 (y.par % 3), .int .i64 (y.day % 2000), .int .i64 (y.day % 2000 + y.long % 450), .int .i64 (y.kno % 40), .int .i64 (0)] 56)).size
          have HNE := Lib.hid (show ∀ a, pA = some a → u4.ownBlock ≠ some a.block ∧ u5.ownBlock ≠ some a.block ∧ a.block < (Wn10.alloc (.cells #[.int .i64 (3 * (m : Int) + 2), .int .i64 (1 + y.kind % 8), .slice pA pn pc, .int .i64 (0), .int .i64 (y.par % 3), .int .i64 (y.day % 2000), .int .i64 (y.day % 2000 + y.long % 450), .int .i64 (y.kno % 40), .int .i64 (0)] 56)).heap.size from fun a e => by
           obtain ⟨k1, k2⟩ := HPP.out.2 a e
           have k3 := HSZ.out
           exact ⟨fun e2 => by have := HOL.out _ (.inl e2); omega, fun e2 => by have := HOL.out _ (.inr e2); omega, by omega⟩)
          have HLO := Lib.hid (show ∀ a, pA = some a → w.heap.size ≤ a.block from fun a e => by
           have k1 := (HPP.out.2 a e).1
           have k2 := (HMD.out.ext GW1.out).g.size
           omega)
          have HQF := Lib.hid (show mkQ y m op = qB y m pe (0) (y.par % 3) (y.day % 2000 + y.long % 450) (0) by rw [mkQ_B, HWHO.out, HPE.out, if_neg H2.out, if_neg H2.out, if_pos hlb, if_neg hu])
          go_upto_region 25 with (first | (at_builtin; go_loud ((refine wpList_app kdQ (by rfl) _ _ (by rfl) w.heap.size _ ls (by rfl) HMX.out.o1 _ 1 1 [⟨qB y m pe (0) (y.par % 3) (y.day % 2000 + y.long % 450) (0), pA, pn, pc⟩] (by rfl) IX.out (by have := HLS.out; omega) HMX.out.g.size ?_); intro v' w' ho hgr hz; have HM2 := Lib.hid (HMX.out.add1 HPX.out HNE.out HLO.out ho hgr hz); have HM3 := Lib.hid (HM2.out.ext (one_more w' (.cells #[.int .i64 who] 3))); have IW := Lib.hid (one_int (Blk.new w' 3 #[.int .i64 who])); clear ho hgr hz)))
          clear e0 e1 e2 e3 e4 e5 e6 e7 e8
          go_wp2_with (first | (at_builtin; go_loud ((refine wpList_app kdI (by rfl) _ _ (by rfl) w.heap.size _ (whoP x m) (by rfl) HM3.out.o2 _ 1 1 [who] (by rfl) IW.out (by rw [whoP_len]; omega) HM3.out.g.size ?_); intro v2 w2 ho hgr hz; have HM4 := Lib.hid (HM3.out.add2 ho hgr hz); clear ho hgr hz)))
          go_roundw
          case rel => exact ⟨m + 1, ls ++ [⟨qB y m pe (0) (y.par % 3) (y.day % 2000 + y.long % 450) (0), pA, pn, pc⟩], by omega, rfl, by rw [HN2.out, HIP.out]; rfl, by rw [whoP_succ, HY.out, HWHO.out]; exact HM4.out, by rw [HN1.out, List.map_append, HLQ.out, HQF.out]; rfl⟩
          case measure => simp only [intOf]; omega
        | false =>
         go_upto_region 22 with (go_at_call 99; (with_reducible refine (HLA.out _).mono ?_); rintro e w' ⟨rfl, rfl⟩)
         clear k1
         have xu : World.cell? Wn8 ⟨bX, 8, none⟩ = some (.int .i64 y.unt) := (BX.out.ext HB8.out.g).cell 8
         by_cases hu : y.unt % 4 = 0
         ·have hub : (y.unt % 4 == 0) = true := beq_iff_eq.2 hu
          go_upto_region 23 with (go_at_call 38; (with_reducible refine (TM.out _ _ _ (by omega) (by omega)).mono ?_); rintro e w' ⟨rfl, rfl⟩)
          have k7 := cellW (show World.cell? Wn8 ⟨b10, 7, none⟩ = some (.int .i64 (y.kno % 40)) from HB8.out.bk.cell 7)
          have x8 := cellW xu
          clear xu
          have ha1 : IntKind.i64.wrap (y.kno % 40 + 1) = y.kno % 40 + 1 := by rw [IntKind.wrap_i64]; omega
          have ha2 : IntKind.i64.wrap (y.unt.tdiv 4) = y.unt.tdiv 4 := HW4.out
          have ha3 : IntKind.i64.wrap (y.kno % 40 + 1 + y.unt.tdiv 4 % 30) = y.kno % 40 + 1 + y.unt.tdiv 4 % 30 := by
           generalize y.unt.tdiv 4 = u9
           rw [IntKind.wrap_i64]; omega
          refine wp_region_calm_tail Wn8 9 (by kernel_rfl) (by kernel_rfl) (Below.refl _ _) ?_
          simp only [List.take_succ_cons, List.take_zero, List.drop_succ_cons, List.drop_zero]
          repeat (go_big_quiet_step (first | (go_at_call 38; exact callsCalmSame (TM.out _ _ _ (by omega) (by omega)))))
          refine wpQuiet_nil ?_
          rintro _ ⟨zu, rfl⟩
          have HZ13 := Lib.hid (HB8.out.ext zu.ok)
          clear k7 x8
          have q8 : World.cell? zu.val ⟨b10, 8, none⟩ = some (.int .i64 0) := HZ13.out.bk.cell 8
          have qf := HZ13.out.bk.frozen 8
          go_upto_region 24 with fail
          clear q8 qf ha1 ha2 ha3
          have HB14 := Lib.hid (HZ13.out.set 8 (.int .i64 (y.kno % 40 + 1 + y.unt.tdiv 4 % 30)) (p' := ⟨qB y m pe (0) (y.par % 3) (0) (y.kno % 40 + 1 + y.unt.tdiv 4 % 30), pA, pn, pc⟩) rfl ⟨rfl, rfl, rfl, rfl⟩)
          obtain ⟨Wn14, hWn14⟩ : ∃ X, World.setCell zu.val ⟨b10, 8, none⟩ (.int .i64 (y.kno % 40 + 1 + y.unt.tdiv 4 % 30)) = X := ⟨_, rfl⟩
          rw [hWn14] at HB14 ⊢
          clear hWn14
          have e0 : World.cell? Wn14 ⟨b10, 0, none⟩ = some (.int .i64 (3 * (m : Int) + 2)) := HB14.out.bk.cell 0
          have e1 : World.cell? Wn14 ⟨b10, 1, none⟩ = some (.int .i64 (1 + y.kind % 8)) := HB14.out.bk.cell 1
          have e2 : World.cell? Wn14 ⟨b10, 2, none⟩ = some (.slice pA pn pc) := HB14.out.bk.cell 2
          have e3 : World.cell? Wn14 ⟨b10, 3, none⟩ = some (.int .i64 (0)) := HB14.out.bk.cell 3
          have e4 : World.cell? Wn14 ⟨b10, 4, none⟩ = some (.int .i64 (y.par % 3)) := HB14.out.bk.cell 4
          have e5 : World.cell? Wn14 ⟨b10, 5, none⟩ = some (.int .i64 (y.day % 2000)) := HB14.out.bk.cell 5
          have e6 : World.cell? Wn14 ⟨b10, 6, none⟩ = some (.int .i64 (0)) := HB14.out.bk.cell 6
          have e7 : World.cell? Wn14 ⟨b10, 7, none⟩ = some (.int .i64 (y.kno % 40)) := HB14.out.bk.cell 7
          have e8 : World.cell? Wn14 ⟨b10, 8, none⟩ = some (.int .i64 (y.kno % 40 + 1 + y.unt.tdiv 4 % 30)) := HB14.out.bk.cell 8
          have HMX := Lib.hid (((HMD.out.ext GW1.out).ext HB14.out.g).ext (one_more Wn14 (.cells #[.int .i64 (3 * (m : Int) + 2), .int .i64 (1 + y.kind % 8), .slice pA pn pc, .int .i64 (0), .int .i64 (y.par % 3), .int .i64 (y.day % 2000), .int .i64 (0), .int .i64 (y.kno % 40), .int .i64 (y.kno % 40 + 1 + y.unt.tdiv 4 % 30)] 56)))
          have IX := Lib.hid (one_pf (x := ⟨qB y m pe (0) (y.par % 3) (0) (y.kno % 40 + 1 + y.unt.tdiv 4 % 30), pA, pn, pc⟩) (Blk.new Wn14 56 #[.int .i64 (3 * (m : Int) + 2), .int .i64 (1 + y.kind % 8), .slice pA pn pc, .int .i64 (0), .int .i64 (y.par % 3), .int .i64 (y.day % 2000), .int .i64 (0), .int .i64 (y.kno % 40), .int .i64 (y.kno % 40 + 1 + y.unt.tdiv 4 % 30)]))
          have HPP := Lib.hid (HB14.out.pi (by show pe.length ≤ 1000; have := HPE3.out; omega))
          have HPX := Lib.hid (HPP.out.1.below (one_more Wn14 (.cells #[.int .i64 (3 * (m : Int) + 2), .int .i64 (1 + y.kind % 8), .slice pA pn pc, .int .i64 (0), .int .i64 (y.par % 3), .int .i64 (y.day % 2000), .int .i64 (0), .int .i64 (y.kno % 40), .int .i64 (y.kno % 40 + 1 + y.unt.tdiv 4 % 30)] 56)))
          have HSZ := Lib.hid (one_more Wn14 (.cells #[.int .i64 (3 * (m : Int) + 2), .int .i64 (1 + y.kind % 8), .slice pA pn pc, .int .i64 (0), .int .i64 (y.par % 3), .int .i64 (y.day % 2000), .int .i64 (0), .int .i64 (y.kno % 40), .int .i64 (y.kno % 40 + 1 + y.unt.tdiv 4 % 30)] 56)).size
          have HNE := Lib.hid (show ∀ a, pA = some a → u4.ownBlock ≠ some a.block ∧ u5.ownBlock ≠ some a.block ∧ a.block < (Wn14.alloc (.cells #[.int .i64 (3 * (m : Int) + 2), .int .i64 (1 + y.kind % 8), .slice pA pn pc, .int .i64 (0), .int .i64 (y.par % 3), .int .i64 (y.day % 2000), .int .i64 (0), .int .i64 (y.kno % 40), .int .i64 (y.kno % 40 + 1 + y.unt.tdiv 4 % 30)] 56)).heap.size from fun a e => by
           obtain ⟨k1, k2⟩ := HPP.out.2 a e
           have k3 := HSZ.out
           exact ⟨fun e2 => by have := HOL.out _ (.inl e2); omega, fun e2 => by have := HOL.out _ (.inr e2); omega, by omega⟩)
          have HLO := Lib.hid (show ∀ a, pA = some a → w.heap.size ≤ a.block from fun a e => by
           have k1 := (HPP.out.2 a e).1
           have k2 := (HMD.out.ext GW1.out).g.size
           omega)
          have HQF := Lib.hid (show mkQ y m op = qB y m pe (0) (y.par % 3) (0) (y.kno % 40 + 1 + y.unt.tdiv 4 % 30) by rw [mkQ_B, HWHO.out, HPE.out, if_neg H2.out, if_neg H2.out, if_neg (by rw [hlb]; decide), if_pos hu])
          go_upto_region 25 with (first | (at_builtin; go_loud ((refine wpList_app kdQ (by rfl) _ _ (by rfl) w.heap.size _ ls (by rfl) HMX.out.o1 _ 1 1 [⟨qB y m pe (0) (y.par % 3) (0) (y.kno % 40 + 1 + y.unt.tdiv 4 % 30), pA, pn, pc⟩] (by rfl) IX.out (by have := HLS.out; omega) HMX.out.g.size ?_); intro v' w' ho hgr hz; have HM2 := Lib.hid (HMX.out.add1 HPX.out HNE.out HLO.out ho hgr hz); have HM3 := Lib.hid (HM2.out.ext (one_more w' (.cells #[.int .i64 who] 3))); have IW := Lib.hid (one_int (Blk.new w' 3 #[.int .i64 who])); clear ho hgr hz)))
          clear e0 e1 e2 e3 e4 e5 e6 e7 e8
          go_wp2_with (first | (at_builtin; go_loud ((refine wpList_app kdI (by rfl) _ _ (by rfl) w.heap.size _ (whoP x m) (by rfl) HM3.out.o2 _ 1 1 [who] (by rfl) IW.out (by rw [whoP_len]; omega) HM3.out.g.size ?_); intro v2 w2 ho hgr hz; have HM4 := Lib.hid (HM3.out.add2 ho hgr hz); clear ho hgr hz)))
          go_roundw
          case rel => exact ⟨m + 1, ls ++ [⟨qB y m pe (0) (y.par % 3) (0) (y.kno % 40 + 1 + y.unt.tdiv 4 % 30), pA, pn, pc⟩], by omega, rfl, by rw [HN2.out, HIP.out]; rfl, by rw [whoP_succ, HY.out, HWHO.out]; exact HM4.out, by rw [HN1.out, List.map_append, HLQ.out, HQF.out]; rfl⟩
          case measure => simp only [intOf]; omega
         ·have hub : (y.unt % 4 == 0) = false := beq_eq_false_iff_ne.2 hu
          go_upto_region 24 with (go_at_call 38; (with_reducible refine (TM.out _ _ _ (by omega) (by omega)).mono ?_); rintro e w' ⟨rfl, rfl⟩)
          clear xu
          have e0 : World.cell? Wn8 ⟨b10, 0, none⟩ = some (.int .i64 (3 * (m : Int) + 2)) := HB8.out.bk.cell 0
          have e1 : World.cell? Wn8 ⟨b10, 1, none⟩ = some (.int .i64 (1 + y.kind % 8)) := HB8.out.bk.cell 1
          have e2 : World.cell? Wn8 ⟨b10, 2, none⟩ = some (.slice pA pn pc) := HB8.out.bk.cell 2
          have e3 : World.cell? Wn8 ⟨b10, 3, none⟩ = some (.int .i64 (0)) := HB8.out.bk.cell 3
          have e4 : World.cell? Wn8 ⟨b10, 4, none⟩ = some (.int .i64 (y.par % 3)) := HB8.out.bk.cell 4
          have e5 : World.cell? Wn8 ⟨b10, 5, none⟩ = some (.int .i64 (y.day % 2000)) := HB8.out.bk.cell 5
          have e6 : World.cell? Wn8 ⟨b10, 6, none⟩ = some (.int .i64 (0)) := HB8.out.bk.cell 6
          have e7 : World.cell? Wn8 ⟨b10, 7, none⟩ = some (.int .i64 (y.kno % 40)) := HB8.out.bk.cell 7
          have e8 : World.cell? Wn8 ⟨b10, 8, none⟩ = some (.int .i64 (0)) := HB8.out.bk.cell 8
          have HMX := Lib.hid (((HMD.out.ext GW1.out).ext HB8.out.g).ext (one_more Wn8 (.cells #[.int .i64 (3 * (m : Int) + 2), .int .i64 (1 + y.kind % 8), .slice pA pn pc, .int .i64 (0), .int .i64 (y.par % 3), .int .i64 (y.day % 2000), .int .i64 (0), .int .i64 (y.kno % 40), .int .i64 (0)] 56)))
          have IX := Lib.hid (one_pf (x := ⟨qB y m pe (0) (y.par % 3) (0) (0), pA, pn, pc⟩) (Blk.new Wn8 56 #[.int .i64 (3 * (m : Int) + 2), .int .i64 (1 + y.kind % 8), .slice pA pn pc, .int .i64 (0), .int .i64 (y.par % 3), .int .i64 (y.day % 2000), .int .i64 (0), .int .i64 (y.kno % 40), .int .i64 (0)]))
          have HPP := Lib.hid (HB8.out.pi (by show pe.length ≤ 1000; have := HPE3.out; omega))
          have HPX := Lib.hid (HPP.out.1.below (one_more Wn8 (.cells #[.int .i64 (3 * (m : Int) + 2), .int .i64 (1 + y.kind % 8), .slice pA pn pc, .int .i64 (0), .int .i64 (y.par % 3), .int .i64 (y.day % 2000), .int .i64 (0), .int .i64 (y.kno % 40), .int .i64 (0)] 56)))
          have HSZ := Lib.hid (one_more Wn8 (.cells #[.int .i64 (3 * (m : Int) + 2), .int .i64 (1 + y.kind % 8), .slice pA pn pc, .int .i64 (0), .int .i64 (y.par % 3), .int .i64 (y.day % 2000), .int .i64 (0), .int .i64 (y.kno % 40), .int .i64 (0)] 56)).size
          have HNE := Lib.hid (show ∀ a, pA = some a → u4.ownBlock ≠ some a.block ∧ u5.ownBlock ≠ some a.block ∧ a.block < (Wn8.alloc (.cells #[.int .i64 (3 * (m : Int) + 2), .int .i64 (1 + y.kind % 8), .slice pA pn pc, .int .i64 (0), .int .i64 (y.par % 3), .int .i64 (y.day % 2000), .int .i64 (0), .int .i64 (y.kno % 40), .int .i64 (0)] 56)).heap.size from fun a e => by
           obtain ⟨k1, k2⟩ := HPP.out.2 a e
           have k3 := HSZ.out
           exact ⟨fun e2 => by have := HOL.out _ (.inl e2); omega, fun e2 => by have := HOL.out _ (.inr e2); omega, by omega⟩)
          have HLO := Lib.hid (show ∀ a, pA = some a → w.heap.size ≤ a.block from fun a e => by
           have k1 := (HPP.out.2 a e).1
           have k2 := (HMD.out.ext GW1.out).g.size
           omega)
          have HQF := Lib.hid (show mkQ y m op = qB y m pe (0) (y.par % 3) (0) (0) by rw [mkQ_B, HWHO.out, HPE.out, if_neg H2.out, if_neg H2.out, if_neg (by rw [hlb]; decide), if_neg hu])
          go_upto_region 25 with (first | (at_builtin; go_loud ((refine wpList_app kdQ (by rfl) _ _ (by rfl) w.heap.size _ ls (by rfl) HMX.out.o1 _ 1 1 [⟨qB y m pe (0) (y.par % 3) (0) (0), pA, pn, pc⟩] (by rfl) IX.out (by have := HLS.out; omega) HMX.out.g.size ?_); intro v' w' ho hgr hz; have HM2 := Lib.hid (HMX.out.add1 HPX.out HNE.out HLO.out ho hgr hz); have HM3 := Lib.hid (HM2.out.ext (one_more w' (.cells #[.int .i64 who] 3))); have IW := Lib.hid (one_int (Blk.new w' 3 #[.int .i64 who])); clear ho hgr hz)))
          clear e0 e1 e2 e3 e4 e5 e6 e7 e8
          go_wp2_with (first | (at_builtin; go_loud ((refine wpList_app kdI (by rfl) _ _ (by rfl) w.heap.size _ (whoP x m) (by rfl) HM3.out.o2 _ 1 1 [who] (by rfl) IW.out (by rw [whoP_len]; omega) HM3.out.g.size ?_); intro v2 w2 ho hgr hz; have HM4 := Lib.hid (HM3.out.add2 ho hgr hz); clear ho hgr hz)))
          go_roundw
          case rel => exact ⟨m + 1, ls ++ [⟨qB y m pe (0) (y.par % 3) (0) (0), pA, pn, pc⟩], by omega, rfl, by rw [HN2.out, HIP.out]; rfl, by rw [whoP_succ, HY.out, HWHO.out]; exact HM4.out, by rw [HN1.out, List.map_append, HLQ.out, HQF.out]; rfl⟩
          case measure => simp only [intOf]; omega
      ·have hpb : ¬ (1 : Int) < (pn : Int) := by rw [HPN.out]; omega
       have HIP := Lib.hid (show (if 1 < pe.length then 1 else 0 : Nat) = 0 from if_neg h1p)
       clear h1p
       go_upto_region 17 with fail
       clear e2'
       have k1 : World.cell? wr ⟨b10, 1, none⟩ = some (.int .i64 (1 + y.kind % 8)) := HBA.out.bk.cell 1
       have k3 : World.cell? wr ⟨b10, 3, none⟩ = some (.int .i64 (0)) := HBA.out.bk.cell 3
       have k4 : World.cell? wr ⟨b10, 4, none⟩ = some (.int .i64 (0)) := HBA.out.bk.cell 4
       have kf3 := HBA.out.bk.frozen 3
       have kf4 := HBA.out.bk.frozen 4
       have x3 : World.cell? wr ⟨bX, 3, none⟩ = some (.int .i64 y.oth) := (BX.out.ext HBA.out.g).cell 3
       have x4 : World.cell? wr ⟨bX, 4, none⟩ = some (.int .i64 y.par) := (BX.out.ext HBA.out.g).cell 4
       have hwo : wrap64 (1 + y.oth % 5) = 1 + y.oth % 5 := wrap_in (by omega)
       by_cases h2 : 1 + y.kind % 8 = 2
       ·have h2b : (1 + y.kind % 8 == 2) = true := beq_iff_eq.2 h2
        have H2 := Lib.hid h2
        clear h2
        go_upto_region 20 with (go_at_call 38; (with_reducible refine (TM.out _ _ _ (by omega) (by omega)).mono ?_); rintro e w' ⟨rfl, rfl⟩)
        clear k1 k3 k4 kf3 kf4 x3 x4
        have HB15 := Lib.hid (HBA.out.set 3 (.int .i64 (1 + y.oth % 5)) (p' := ⟨qB y m pe (1 + y.oth % 5) (0) (0) (0), pA, pn, pc⟩) rfl ⟨rfl, rfl, rfl, rfl⟩)
        obtain ⟨Wn15, hWn15⟩ : ∃ X, World.setCell wr ⟨b10, 3, none⟩ (.int .i64 (1 + y.oth % 5)) = X := ⟨_, rfl⟩
        rw [hWn15] at HB15 ⊢
        clear hWn15
        have k1 : World.cell? Wn15 ⟨b10, 1, none⟩ = some (.int .i64 (1 + y.kind % 8)) := HB15.out.bk.cell 1
        have HLA := Lib.hid (refLasts_any (1 + y.kind % 8))
        obtain ⟨lb, hlb⟩ : ∃ b, lastsB (1 + y.kind % 8) = b := ⟨_, rfl⟩
        rw [hlb] at HLA
        cases lb with
        | true =>
         go_upto_region 21 with (go_at_call 99; (with_reducible refine (HLA.out _).mono ?_); rintro e w' ⟨rfl, rfl⟩)
         clear k1
         have k5 := cellW (show World.cell? Wn15 ⟨b10, 5, none⟩ = some (.int .i64 (y.day % 2000)) from HB15.out.bk.cell 5)
         have x6 := cellW (show World.cell? Wn15 ⟨bX, 6, none⟩ = some (.int .i64 y.long) from (BX.out.ext HB15.out.g).cell 6)
         have ha1 : IntKind.i64.wrap (y.day % 2000 + y.long % 450) = y.day % 2000 + y.long % 450 := by rw [IntKind.wrap_i64]; omega
         refine wp_region_calm_tail Wn15 7 (by kernel_rfl) (by kernel_rfl) (Below.refl _ _) ?_
         simp only [List.take_succ_cons, List.take_zero, List.drop_succ_cons, List.drop_zero]
         repeat (go_big_quiet_step (first | (go_at_call 38; exact callsCalmSame (TM.out _ _ _ (by omega) (by omega)))))
         refine wpQuiet_nil ?_
         rintro _ ⟨zl, rfl⟩
         have HZ16 := Lib.hid (HB15.out.ext zl.ok)
         clear k5 x6
         have q6 : World.cell? zl.val ⟨b10, 6, none⟩ = some (.int .i64 0) := HZ16.out.bk.cell 6
         have qf := HZ16.out.bk.frozen 6
         go_upto_region 22 with fail
         clear q6 qf ha1
         have HB17 := Lib.hid (HZ16.out.set 6 (.int .i64 (y.day % 2000 + y.long % 450)) (p' := ⟨qB y m pe (1 + y.oth % 5) (0) (y.day % 2000 + y.long % 450) (0), pA, pn, pc⟩) rfl ⟨rfl, rfl, rfl, rfl⟩)
         obtain ⟨Wn17, hWn17⟩ : ∃ X, World.setCell zl.val ⟨b10, 6, none⟩ (.int .i64 (y.day % 2000 + y.long % 450)) = X := ⟨_, rfl⟩
         rw [hWn17] at HB17 ⊢
         clear hWn17
         have xu : World.cell? Wn17 ⟨bX, 8, none⟩ = some (.int .i64 y.unt) := (BX.out.ext HB17.out.g).cell 8
         by_cases hu : y.unt % 4 = 0
         ·have hub : (y.unt % 4 == 0) = true := beq_iff_eq.2 hu
          go_upto_region 23 with (go_at_call 38; (with_reducible refine (TM.out _ _ _ (by omega) (by omega)).mono ?_); rintro e w' ⟨rfl, rfl⟩)
          have k7 := cellW (show World.cell? Wn17 ⟨b10, 7, none⟩ = some (.int .i64 (y.kno % 40)) from HB17.out.bk.cell 7)
          have x8 := cellW xu
          clear xu
          have ha1 : IntKind.i64.wrap (y.kno % 40 + 1) = y.kno % 40 + 1 := by rw [IntKind.wrap_i64]; omega
          have ha2 : IntKind.i64.wrap (y.unt.tdiv 4) = y.unt.tdiv 4 := HW4.out
          have ha3 : IntKind.i64.wrap (y.kno % 40 + 1 + y.unt.tdiv 4 % 30) = y.kno % 40 + 1 + y.unt.tdiv 4 % 30 := by
           generalize y.unt.tdiv 4 = u9
           rw [IntKind.wrap_i64]; omega
          refine wp_region_calm_tail Wn17 9 (by kernel_rfl) (by kernel_rfl) (Below.refl _ _) ?_
          simp only [List.take_succ_cons, List.take_zero, List.drop_succ_cons, List.drop_zero]
          repeat (go_big_quiet_step (first | (go_at_call 38; exact callsCalmSame (TM.out _ _ _ (by omega) (by omega)))))
          refine wpQuiet_nil ?_
          rintro _ ⟨zu, rfl⟩
          have HZ18 := Lib.hid (HB17.out.ext zu.ok)
          clear k7 x8
          have q8 : World.cell? zu.val ⟨b10, 8, none⟩ = some (.int .i64 0) := HZ18.out.bk.cell 8
          have qf := HZ18.out.bk.frozen 8
          go_upto_region 24 with fail
          clear q8 qf ha1 ha2 ha3
          have HB19 := Lib.hid (HZ18.out.set 8 (.int .i64 (y.kno % 40 + 1 + y.unt.tdiv 4 % 30)) (p' := ⟨qB y m pe (1 + y.oth % 5) (0) (y.day % 2000 + y.long % 450) (y.kno % 40 + 1 + y.unt.tdiv 4 % 30), pA, pn, pc⟩) rfl ⟨rfl, rfl, rfl, rfl⟩)
          obtain ⟨Wn19, hWn19⟩ : ∃ X, World.setCell zu.val ⟨b10, 8, none⟩ (.int .i64 (y.kno % 40 + 1 + y.unt.tdiv 4 % 30)) = X := ⟨_, rfl⟩
          rw [hWn19] at HB19 ⊢
          clear hWn19
          have e0 : World.cell? Wn19 ⟨b10, 0, none⟩ = some (.int .i64 (3 * (m : Int) + 2)) := HB19.out.bk.cell 0
          have e1 : World.cell? Wn19 ⟨b10, 1, none⟩ = some (.int .i64 (1 + y.kind % 8)) := HB19.out.bk.cell 1
          have e2 : World.cell? Wn19 ⟨b10, 2, none⟩ = some (.slice pA pn pc) := HB19.out.bk.cell 2
          have e3 : World.cell? Wn19 ⟨b10, 3, none⟩ = some (.int .i64 (1 + y.oth % 5)) := HB19.out.bk.cell 3
          have e4 : World.cell? Wn19 ⟨b10, 4, none⟩ = some (.int .i64 (0)) := HB19.out.bk.cell 4
          have e5 : World.cell? Wn19 ⟨b10, 5, none⟩ = some (.int .i64 (y.day % 2000)) := HB19.out.bk.cell 5
          have e6 : World.cell? Wn19 ⟨b10, 6, none⟩ = some (.int .i64 (y.day % 2000 + y.long % 450)) := HB19.out.bk.cell 6
          have e7 : World.cell? Wn19 ⟨b10, 7, none⟩ = some (.int .i64 (y.kno % 40)) := HB19.out.bk.cell 7
          have e8 : World.cell? Wn19 ⟨b10, 8, none⟩ = some (.int .i64 (y.kno % 40 + 1 + y.unt.tdiv 4 % 30)) := HB19.out.bk.cell 8
          have HMX := Lib.hid (((HMD.out.ext GW1.out).ext HB19.out.g).ext (one_more Wn19 (.cells #[.int .i64 (3 * (m : Int) + 2), .int .i64 (1 + y.kind % 8), .slice pA pn pc, .int .i64 (1 + y.oth % 5), .int .i64 (0), .int .i64 (y.day % 2000), .int .i64 (y.day % 2000 + y.long % 450), .int .i64 (y.kno % 40), .int .i64 (y.kno % 40 + 1 + y.unt.tdiv 4 % 30)] 56)))
          have IX := Lib.hid (one_pf (x := ⟨qB y m pe (1 + y.oth % 5) (0) (y.day % 2000 + y.long % 450) (y.kno % 40 + 1 + y.unt.tdiv 4 % 30), pA, pn, pc⟩) (Blk.new Wn19 56 #[.int .i64 (3 * (m : Int) + 2), .int .i64 (1 + y.kind % 8), .slice pA pn pc, .int .i64 (1 + y.oth % 5), .int .i64 (0), .int .i64 (y.day % 2000), .int .i64 (y.day % 2000 + y.long % 450), .int .i64 (y.kno % 40), .int .i64 (y.kno % 40 + 1 + y.unt.tdiv 4 % 30)]))
          have HPP := Lib.hid (HB19.out.pi (by show pe.length ≤ 1000; have := HPE3.out; omega))
          have HPX := Lib.hid (HPP.out.1.below (one_more Wn19 (.cells #[.int .i64 (3 * (m : Int) + 2), .int .i64 (1 + y.kind % 8), .slice pA pn pc, .int .i64 (1 + y.oth % 5), .int .i64 (0), .int .i64 (y.day % 2000), .int .i64 (y.day % 2000 + y.long % 450), .int .i64 (y.kno % 40), .int .i64 (y.kno % 40 + 1 + y.unt.tdiv 4 % 30)] 56)))
          have HSZ := Lib.hid (one_more Wn19 (.cells #[.int .i64 (3 * (m : Int) + 2), .int .i64 (1 + y.kind % 8), .slice pA pn pc, .int .i64 (1 + y.oth % 5), .int .i64 (0), .int .i64 (y.day % 2000), .int .i64 (y.day % 2000 + y.long % 450), .int .i64 (y.kno % 40), .int .i64 (y.kno % 40 + 1 + y.unt.tdiv 4 % 30)] 56)).size
          have HNE := Lib.hid (show ∀ a, pA = some a → u4.ownBlock ≠ some a.block ∧ u5.ownBlock ≠ some a.block ∧ a.block < (Wn19.alloc (.cells #[.int .i64 (3 * (m : Int) + 2), .int .i64 (1 + y.kind % 8), .slice pA pn pc, .int .i64 (1 + y.oth % 5), .int .i64 (0), .int .i64 (y.day % 2000), .int .i64 (y.day % 2000 + y.long % 450), .int .i64 (y.kno % 40), .int .i64 (y.kno % 40 + 1 + y.unt.tdiv 4 % 30)] 56)).heap.size from fun a e => by
           obtain ⟨k1, k2⟩ := HPP.out.2 a e
           have k3 := HSZ.out
           exact ⟨fun e2 => by have := HOL.out _ (.inl e2); omega, fun e2 => by have := HOL.out _ (.inr e2); omega, by omega⟩)
          have HLO := Lib.hid (show ∀ a, pA = some a → w.heap.size ≤ a.block from fun a e => by
           have k1 := (HPP.out.2 a e).1
           have k2 := (HMD.out.ext GW1.out).g.size
           omega)
          have HQF := Lib.hid (show mkQ y m op = qB y m pe (1 + y.oth % 5) (0) (y.day % 2000 + y.long % 450) (y.kno % 40 + 1 + y.unt.tdiv 4 % 30) by rw [mkQ_B, HWHO.out, HPE.out, if_pos H2.out, if_pos H2.out, if_pos hlb, if_pos hu])
          go_upto_region 25 with (first | (at_builtin; go_loud ((refine wpList_app kdQ (by rfl) _ _ (by rfl) w.heap.size _ ls (by rfl) HMX.out.o1 _ 1 1 [⟨qB y m pe (1 + y.oth % 5) (0) (y.day % 2000 + y.long % 450) (y.kno % 40 + 1 + y.unt.tdiv 4 % 30), pA, pn, pc⟩] (by rfl) IX.out (by have := HLS.out; omega) HMX.out.g.size ?_); intro v' w' ho hgr hz; have HM2 := Lib.hid (HMX.out.add1 HPX.out HNE.out HLO.out ho hgr hz); have HM3 := Lib.hid (HM2.out.ext (one_more w' (.cells #[.int .i64 who] 3))); have IW := Lib.hid (one_int (Blk.new w' 3 #[.int .i64 who])); clear ho hgr hz)))
          clear e0 e1 e2 e3 e4 e5 e6 e7 e8
          go_wp2_with (first | (at_builtin; go_loud ((refine wpList_app kdI (by rfl) _ _ (by rfl) w.heap.size _ (whoP x m) (by rfl) HM3.out.o2 _ 1 1 [who] (by rfl) IW.out (by rw [whoP_len]; omega) HM3.out.g.size ?_); intro v2 w2 ho hgr hz; have HM4 := Lib.hid (HM3.out.add2 ho hgr hz); clear ho hgr hz)))
          go_roundw
          case rel => exact ⟨m + 1, ls ++ [⟨qB y m pe (1 + y.oth % 5) (0) (y.day % 2000 + y.long % 450) (y.kno % 40 + 1 + y.unt.tdiv 4 % 30), pA, pn, pc⟩], by omega, rfl, by rw [HN2.out, HIP.out]; rfl, by rw [whoP_succ, HY.out, HWHO.out]; exact HM4.out, by rw [HN1.out, List.map_append, HLQ.out, HQF.out]; rfl⟩
          case measure => simp only [intOf]; omega
         ·have hub : (y.unt % 4 == 0) = false := beq_eq_false_iff_ne.2 hu
          go_upto_region 24 with (go_at_call 38; (with_reducible refine (TM.out _ _ _ (by omega) (by omega)).mono ?_); rintro e w' ⟨rfl, rfl⟩)
          clear xu
          have e0 : World.cell? Wn17 ⟨b10, 0, none⟩ = some (.int .i64 (3 * (m : Int) + 2)) := HB17.out.bk.cell 0
          have e1 : World.cell? Wn17 ⟨b10, 1, none⟩ = some (.int .i64 (1 + y.kind % 8)) := HB17.out.bk.cell 1
          have e2 : World.cell? Wn17 ⟨b10, 2, none⟩ = some (.slice pA pn pc) := HB17.out.bk.cell 2
          have e3 : World.cell? Wn17 ⟨b10, 3, none⟩ = some (.int .i64 (1 + y.oth % 5)) := HB17.out.bk.cell 3
          have e4 : World.cell? Wn17 ⟨b10, 4, none⟩ = some (.int .i64 (0)) := HB17.out.bk.cell 4
          have e5 : World.cell? Wn17 ⟨b10, 5, none⟩ = some (.int .i64 (y.day % 2000)) := HB17.out.bk.cell 5
          have e6 : World.cell? Wn17 ⟨b10, 6, none⟩ = some (.int .i64 (y.day % 2000 + y.long % 450)) := HB17.out.bk.cell 6
          have e7 : World.cell? Wn17 ⟨b10, 7, none⟩ = some (.int .i64 (y.kno % 40)) := HB17.out.bk.cell 7
          have e8 : World.cell? Wn17 ⟨b10, 8, none⟩ = some (.int .i64 (0)) := HB17.out.bk.cell 8
          have HMX := Lib.hid (((HMD.out.ext GW1.out).ext HB17.out.g).ext (one_more Wn17 (.cells #[.int .i64 (3 * (m : Int) + 2), .int .i64 (1 + y.kind % 8), .slice pA pn pc, .int .i64 (1 + y.oth % 5), .int .i64 (0), .int .i64 (y.day % 2000), .int .i64 (y.day % 2000 + y.long % 450), .int .i64 (y.kno % 40), .int .i64 (0)] 56)))
          have IX := Lib.hid (one_pf (x := ⟨qB y m pe (1 + y.oth % 5) (0) (y.day % 2000 + y.long % 450) (0), pA, pn, pc⟩) (Blk.new Wn17 56 #[.int .i64 (3 * (m : Int) + 2), .int .i64 (1 + y.kind % 8), .slice pA pn pc, .int .i64 (1 + y.oth % 5), .int .i64 (0), .int .i64 (y.day % 2000), .int .i64 (y.day % 2000 + y.long % 450), .int .i64 (y.kno % 40), .int .i64 (0)]))
          have HPP := Lib.hid (HB17.out.pi (by show pe.length ≤ 1000; have := HPE3.out; omega))
          have HPX := Lib.hid (HPP.out.1.below (one_more Wn17 (.cells #[.int .i64 (3 * (m : Int) + 2), .int .i64 (1 + y.kind % 8), .slice pA pn pc, .int .i64 (1 + y.oth % 5), .int .i64 (0), .int .i64 (y.day % 2000), .int .i64 (y.day % 2000 + y.long % 450), .int .i64 (y.kno % 40), .int .i64 (0)] 56)))
          have HSZ := Lib.hid (one_more Wn17 (.cells #[.int .i64 (3 * (m : Int) + 2), .int .i64 (1 + y.kind % 8), .slice pA pn pc, .int .i64 (1 + y.oth % 5), .int .i64 (0), .int .i64 (y.day % 2000), .int .i64 (y.day % 2000 + y.long % 450), .int .i64 (y.kno % 40), .int .i64 (0)] 56)).size
          have HNE := Lib.hid (show ∀ a, pA = some a → u4.ownBlock ≠ some a.block ∧ u5.ownBlock ≠ some a.block ∧ a.block < (Wn17.alloc (.cells #[.int .i64 (3 * (m : Int) + 2), .int .i64 (1 + y.kind % 8), .slice pA pn pc, .int .i64 (1 + y.oth % 5), .int .i64 (0), .int .i64 (y.day % 2000), .int .i64 (y.day % 2000 + y.long % 450), .int .i64 (y.kno % 40), .int .i64 (0)] 56)).heap.size from fun a e => by
           obtain ⟨k1, k2⟩ := HPP.out.2 a e
           have k3 := HSZ.out
           exact ⟨fun e2 => by have := HOL.out _ (.inl e2); omega, fun e2 => by have := HOL.out _ (.inr e2); omega, by omega⟩)
          have HLO := Lib.hid (show ∀ a, pA = some a → w.heap.size ≤ a.block from fun a e => by
           have k1 := (HPP.out.2 a e).1
           have k2 := (HMD.out.ext GW1.out).g.size
           omega)
          have HQF := Lib.hid (show mkQ y m op = qB y m pe (1 + y.oth % 5) (0) (y.day % 2000 + y.long % 450) (0) by rw [mkQ_B, HWHO.out, HPE.out, if_pos H2.out, if_pos H2.out, if_pos hlb, if_neg hu])
          go_upto_region 25 with (first | (at_builtin; go_loud ((refine wpList_app kdQ (by rfl) _ _ (by rfl) w.heap.size _ ls (by rfl) HMX.out.o1 _ 1 1 [⟨qB y m pe (1 + y.oth % 5) (0) (y.day % 2000 + y.long % 450) (0), pA, pn, pc⟩] (by rfl) IX.out (by have := HLS.out; omega) HMX.out.g.size ?_); intro v' w' ho hgr hz; have HM2 := Lib.hid (HMX.out.add1 HPX.out HNE.out HLO.out ho hgr hz); have HM3 := Lib.hid (HM2.out.ext (one_more w' (.cells #[.int .i64 who] 3))); have IW := Lib.hid (one_int (Blk.new w' 3 #[.int .i64 who])); clear ho hgr hz)))
          clear e0 e1 e2 e3 e4 e5 e6 e7 e8
          go_wp2_with (first | (at_builtin; go_loud ((refine wpList_app kdI (by rfl) _ _ (by rfl) w.heap.size _ (whoP x m) (by rfl) HM3.out.o2 _ 1 1 [who] (by rfl) IW.out (by rw [whoP_len]; omega) HM3.out.g.size ?_); intro v2 w2 ho hgr hz; have HM4 := Lib.hid (HM3.out.add2 ho hgr hz); clear ho hgr hz)))
          go_roundw
          case rel => exact ⟨m + 1, ls ++ [⟨qB y m pe (1 + y.oth % 5) (0) (y.day % 2000 + y.long % 450) (0), pA, pn, pc⟩], by omega, rfl, by rw [HN2.out, HIP.out]; rfl, by rw [whoP_succ, HY.out, HWHO.out]; exact HM4.out, by rw [HN1.out, List.map_append, HLQ.out, HQF.out]; rfl⟩
          case measure => simp only [intOf]; omega
        | false =>
         go_upto_region 22 with (go_at_call 99; (with_reducible refine (HLA.out _).mono ?_); rintro e w' ⟨rfl, rfl⟩)
         clear k1
         have xu : World.cell? Wn15 ⟨bX, 8, none⟩ = some (.int .i64 y.unt) := (BX.out.ext HB15.out.g).cell 8
         by_cases hu : y.unt % 4 = 0
         ·have hub : (y.unt % 4 == 0) = true := beq_iff_eq.2 hu
          go_upto_region 23 with (go_at_call 38; (with_reducible refine (TM.out _ _ _ (by omega) (by omega)).mono ?_); rintro e w' ⟨rfl, rfl⟩)
          have k7 := cellW (show World.cell? Wn15 ⟨b10, 7, none⟩ = some (.int .i64 (y.kno % 40)) from HB15.out.bk.cell 7)
          have x8 := cellW xu
          clear xu
          have ha1 : IntKind.i64.wrap (y.kno % 40 + 1) = y.kno % 40 + 1 := by rw [IntKind.wrap_i64]; omega
          have ha2 : IntKind.i64.wrap (y.unt.tdiv 4) = y.unt.tdiv 4 := HW4.out
          have ha3 : IntKind.i64.wrap (y.kno % 40 + 1 + y.unt.tdiv 4 % 30) = y.kno % 40 + 1 + y.unt.tdiv 4 % 30 := by
           generalize y.unt.tdiv 4 = u9
           rw [IntKind.wrap_i64]; omega
          refine wp_region_calm_tail Wn15 9 (by kernel_rfl) (by kernel_rfl) (Below.refl _ _) ?_
          simp only [List.take_succ_cons, List.take_zero, List.drop_succ_cons, List.drop_zero]
          repeat (go_big_quiet_step (first | (go_at_call 38; exact callsCalmSame (TM.out _ _ _ (by omega) (by omega)))))
          refine wpQuiet_nil ?_
          rintro _ ⟨zu, rfl⟩
          have HZ20 := Lib.hid (HB15.out.ext zu.ok)
          clear k7 x8
          have q8 : World.cell? zu.val ⟨b10, 8, none⟩ = some (.int .i64 0) := HZ20.out.bk.cell 8
          have qf := HZ20.out.bk.frozen 8
          go_upto_region 24 with fail
          clear q8 qf ha1 ha2 ha3
          have HB21 := Lib.hid (HZ20.out.set 8 (.int .i64 (y.kno % 40 + 1 + y.unt.tdiv 4 % 30)) (p' := ⟨qB y m pe (1 + y.oth % 5) (0) (0) (y.kno % 40 + 1 + y.unt.tdiv 4 % 30), pA, pn, pc⟩) rfl ⟨rfl, rfl, rfl, rfl⟩)
          obtain ⟨Wn21, hWn21⟩ : ∃ X, World.setCell zu.val ⟨b10, 8, none⟩ (.int .i64 (y.kno % 40 + 1 + y.unt.tdiv 4 % 30)) = X := ⟨_, rfl⟩
          rw [hWn21] at HB21 ⊢
          clear hWn21
          have e0 : World.cell? Wn21 ⟨b10, 0, none⟩ = some (.int .i64 (3 * (m : Int) + 2)) := HB21.out.bk.cell 0
          have e1 : World.cell? Wn21 ⟨b10, 1, none⟩ = some (.int .i64 (1 + y.kind % 8)) := HB21.out.bk.cell 1
          have e2 : World.cell? Wn21 ⟨b10, 2, none⟩ = some (.slice pA pn pc) := HB21.out.bk.cell 2
          have e3 : World.cell? Wn21 ⟨b10, 3, none⟩ = some (.int .i64 (1 + y.oth % 5)) := HB21.out.bk.cell 3
          have e4 : World.cell? Wn21 ⟨b10, 4, none⟩ = some (.int .i64 (0)) := HB21.out.bk.cell 4
          have e5 : World.cell? Wn21 ⟨b10, 5, none⟩ = some (.int .i64 (y.day % 2000)) := HB21.out.bk.cell 5
          have e6 : World.cell? Wn21 ⟨b10, 6, none⟩ = some (.int .i64 (0)) := HB21.out.bk.cell 6
          have e7 : World.cell? Wn21 ⟨b10, 7, none⟩ = some (.int .i64 (y.kno % 40)) := HB21.out.bk.cell 7
          have e8 : World.cell? Wn21 ⟨b10, 8, none⟩ = some (.int .i64 (y.kno % 40 + 1 + y.unt.tdiv 4 % 30)) := HB21.out.bk.cell 8
          have HMX := Lib.hid (((HMD.out.ext GW1.out).ext HB21.out.g).ext (one_more Wn21 (.cells #[.int .i64 (3 * (m : Int) + 2), .int .i64 (1 + y.kind % 8), .slice pA pn pc, .int .i64 (1 + y.oth % 5), .int .i64 (0), .int .i64 (y.day % 2000), .int .i64 (0), .int .i64 (y.kno % 40), .int .i64 (y.kno % 40 + 1 + y.unt.tdiv 4 % 30)] 56)))
          have IX := Lib.hid (one_pf (x := ⟨qB y m pe (1 + y.oth % 5) (0) (0) (y.kno % 40 + 1 + y.unt.tdiv 4 % 30), pA, pn, pc⟩) (Blk.new Wn21 56 #[.int .i64 (3 * (m : Int) + 2), .int .i64 (1 + y.kind % 8), .slice pA pn pc, .int .i64 (1 + y.oth % 5), .int .i64 (0), .int .i64 (y.day % 2000), .int .i64 (0), .int .i64 (y.kno % 40), .int .i64 (y.kno % 40 + 1 + y.unt.tdiv 4 % 30)]))
          have HPP := Lib.hid (HB21.out.pi (by show pe.length ≤ 1000; have := HPE3.out; omega))
          have HPX := Lib.hid (HPP.out.1.below (one_more Wn21 (.cells #[.int .i64 (3 * (m : Int) + 2), .int .i64 (1 + y.kind % 8), .slice pA pn pc, .int .i64 (1 + y.oth % 5), .int .i64 (0), .int .i64 (y.day % 2000), .int .i64 (0), .int .i64 (y.kno % 40), .int .i64 (y.kno % 40 + 1 + y.unt.tdiv 4 % 30)] 56)))
          have HSZ := Lib.hid (one_more Wn21 (.cells #[.int .i64 (3 * (m : Int) + 2), .int .i64 (1 + y.kind % 8), .slice pA pn pc, .int .i64 (1 + y.oth % 5), .int .i64 (0), .int .i64 (y.day % 2000), .int .i64 (0), .int .i64 (y.kno % 40), .int .i64 (y.kno % 40 + 1 + y.unt.tdiv 4 % 30)] 56)).size
          have HNE := Lib.hid (show ∀ a, pA = some a → u4.ownBlock ≠ some a.block ∧ u5.ownBlock ≠ some a.block ∧ a.block < (Wn21.alloc (.cells #[.int .i64 (3 * (m : Int) + 2), .int .i64 (1 + y.kind % 8), .slice pA pn pc, .int .i64 (1 + y.oth % 5), .int .i64 (0), .int .i64 (y.day % 2000), .int .i64 (0), .int .i64 (y.kno % 40), .int .i64 (y.kno % 40 + 1 + y.unt.tdiv 4 % 30)] 56)).heap.size from fun a e => by
           obtain ⟨k1, k2⟩ := HPP.out.2 a e
           have k3 := HSZ.out
           exact ⟨fun e2 => by have := HOL.out _ (.inl e2); omega, fun e2 => by have := HOL.out _ (.inr e2); omega, by omega⟩)
          have HLO := Lib.hid (show ∀ a, pA = some a → w.heap.size ≤ a.block from fun a e => by
           have k1 := (HPP.out.2 a e).1
           have k2 := (HMD.out.ext GW1.out).g.size
           omega)
          have HQF := Lib.hid (show mkQ y m op = qB y m pe (1 + y.oth % 5) (0) (0) (y.kno % 40 + 1 + y.unt.tdiv 4 % 30) by rw [mkQ_B, HWHO.out, HPE.out, if_pos H2.out, if_pos H2.out, if_neg (by rw [hlb]; decide), if_pos hu])
          go_upto_region 25 with (first | (at_builtin; go_loud ((refine wpList_app kdQ (by rfl) _ _ (by rfl) w.heap.size _ ls (by rfl) HMX.out.o1 _ 1 1 [⟨qB y m pe (1 + y.oth % 5) (0) (0) (y.kno % 40 + 1 + y.unt.tdiv 4 % 30), pA, pn, pc⟩] (by rfl) IX.out (by have := HLS.out; omega) HMX.out.g.size ?_); intro v' w' ho hgr hz; have HM2 := Lib.hid (HMX.out.add1 HPX.out HNE.out HLO.out ho hgr hz); have HM3 := Lib.hid (HM2.out.ext (one_more w' (.cells #[.int .i64 who] 3))); have IW := Lib.hid (one_int (Blk.new w' 3 #[.int .i64 who])); clear ho hgr hz)))
          clear e0 e1 e2 e3 e4 e5 e6 e7 e8
          go_wp2_with (first | (at_builtin; go_loud ((refine wpList_app kdI (by rfl) _ _ (by rfl) w.heap.size _ (whoP x m) (by rfl) HM3.out.o2 _ 1 1 [who] (by rfl) IW.out (by rw [whoP_len]; omega) HM3.out.g.size ?_); intro v2 w2 ho hgr hz; have HM4 := Lib.hid (HM3.out.add2 ho hgr hz); clear ho hgr hz)))
          go_roundw
          case rel => exact ⟨m + 1, ls ++ [⟨qB y m pe (1 + y.oth % 5) (0) (0) (y.kno % 40 + 1 + y.unt.tdiv 4 % 30), pA, pn, pc⟩], by omega, rfl, by rw [HN2.out, HIP.out]; rfl, by rw [whoP_succ, HY.out, HWHO.out]; exact HM4.out, by rw [HN1.out, List.map_append, HLQ.out, HQF.out]; rfl⟩
          case measure => simp only [intOf]; omega
         ·have hub : (y.unt % 4 == 0) = false := beq_eq_false_iff_ne.2 hu
          go_upto_region 24 with (go_at_call 38; (with_reducible refine (TM.out _ _ _ (by omega) (by omega)).mono ?_); rintro e w' ⟨rfl, rfl⟩)
          clear xu
          have e0 : World.cell? Wn15 ⟨b10, 0, none⟩ = some (.int .i64 (3 * (m : Int) + 2)) := HB15.out.bk.cell 0
          have e1 : World.cell? Wn15 ⟨b10, 1, none⟩ = some (.int .i64 (1 + y.kind % 8)) := HB15.out.bk.cell 1
          have e2 : World.cell? Wn15 ⟨b10, 2, none⟩ = some (.slice pA pn pc) := HB15.out.bk.cell 2
          have e3 : World.cell? Wn15 ⟨b10, 3, none⟩ = some (.int .i64 (1 + y.oth % 5)) := HB15.out.bk.cell 3
          have e4 : World.cell? Wn15 ⟨b10, 4, none⟩ = some (.int .i64 (0)) := HB15.out.bk.cell 4
          have e5 : World.cell? Wn15 ⟨b10, 5, none⟩ = some (.int .i64 (y.day % 2000)) := HB15.out.bk.cell 5
          have e6 : World.cell? Wn15 ⟨b10, 6, none⟩ = some (.int .i64 (0)) := HB15.out.bk.cell 6
          have e7 : World.cell? Wn15 ⟨b10, 7, none⟩ = some (.int .i64 (y.kno % 40)) := HB15.out.bk.cell 7
          have e8 : World.cell? Wn15 ⟨b10, 8, none⟩ = some (.int .i64 (0)) := HB15.out.bk.cell 8
          have HMX := Lib.hid (((HMD.out.ext GW1.out).ext HB15.out.g).ext (one_more Wn15 (.cells #[.int .i64 (3 * (m : Int) + 2), .int .i64 (1 + y.kind % 8), .slice pA pn pc, .int .i64 (1 + y.oth % 5), .int .i64 (0), .int .i64 (y.day % 2000), .int .i64 (0), .int .i64 (y.kno % 40), .int .i64 (0)] 56)))
          have IX := Lib.hid (one_pf (x := ⟨qB y m pe (1 + y.oth % 5) (0) (0) (0), pA, pn, pc⟩) (Blk.new Wn15 56 #[.int .i64 (3 * (m : Int) + 2), .int .i64 (1 + y.kind % 8), .slice pA pn pc, .int .i64 (1 + y.oth % 5), .int .i64 (0), .int .i64 (y.day % 2000), .int .i64 (0), .int .i64 (y.kno % 40), .int .i64 (0)]))
          have HPP := Lib.hid (HB15.out.pi (by show pe.length ≤ 1000; have := HPE3.out; omega))
          have HPX := Lib.hid (HPP.out.1.below (one_more Wn15 (.cells #[.int .i64 (3 * (m : Int) + 2), .int .i64 (1 + y.kind % 8), .slice pA pn pc, .int .i64 (1 + y.oth % 5), .int .i64 (0), .int .i64 (y.day % 2000), .int .i64 (0), .int .i64 (y.kno % 40), .int .i64 (0)] 56)))
          have HSZ := Lib.hid (one_more Wn15 (.cells #[.int .i64 (3 * (m : Int) + 2), .int .i64 (1 + y.kind % 8), .slice pA pn pc, .int .i64 (1 + y.oth % 5), .int .i64 (0), .int .i64 (y.day % 2000), .int .i64 (0), .int .i64 (y.kno % 40), .int .i64 (0)] 56)).size
          have HNE := Lib.hid (show ∀ a, pA = some a → u4.ownBlock ≠ some a.block ∧ u5.ownBlock ≠ some a.block ∧ a.block < (Wn15.alloc (.cells #[.int .i64 (3 * (m : Int) + 2), .int .i64 (1 + y.kind % 8), .slice pA pn pc, .int .i64 (1 + y.oth % 5), .int .i64 (0), .int .i64 (y.day % 2000), .int .i64 (0), .int .i64 (y.kno % 40), .int .i64 (0)] 56)).heap.size from fun a e => by
           obtain ⟨k1, k2⟩ := HPP.out.2 a e
           have k3 := HSZ.out
           exact ⟨fun e2 => by have := HOL.out _ (.inl e2); omega, fun e2 => by have := HOL.out _ (.inr e2); omega, by omega⟩)
          have HLO := Lib.hid (show ∀ a, pA = some a → w.heap.size ≤ a.block from fun a e => by
           have k1 := (HPP.out.2 a e).1
           have k2 := (HMD.out.ext GW1.out).g.size
           omega)
          have HQF := Lib.hid (show mkQ y m op = qB y m pe (1 + y.oth % 5) (0) (0) (0) by rw [mkQ_B, HWHO.out, HPE.out, if_pos H2.out, if_pos H2.out, if_neg (by rw [hlb]; decide), if_neg hu])
          go_upto_region 25 with (first | (at_builtin; go_loud ((refine wpList_app kdQ (by rfl) _ _ (by rfl) w.heap.size _ ls (by rfl) HMX.out.o1 _ 1 1 [⟨qB y m pe (1 + y.oth % 5) (0) (0) (0), pA, pn, pc⟩] (by rfl) IX.out (by have := HLS.out; omega) HMX.out.g.size ?_); intro v' w' ho hgr hz; have HM2 := Lib.hid (HMX.out.add1 HPX.out HNE.out HLO.out ho hgr hz); have HM3 := Lib.hid (HM2.out.ext (one_more w' (.cells #[.int .i64 who] 3))); have IW := Lib.hid (one_int (Blk.new w' 3 #[.int .i64 who])); clear ho hgr hz)))
          clear e0 e1 e2 e3 e4 e5 e6 e7 e8
          go_wp2_with (first | (at_builtin; go_loud ((refine wpList_app kdI (by rfl) _ _ (by rfl) w.heap.size _ (whoP x m) (by rfl) HM3.out.o2 _ 1 1 [who] (by rfl) IW.out (by rw [whoP_len]; omega) HM3.out.g.size ?_); intro v2 w2 ho hgr hz; have HM4 := Lib.hid (HM3.out.add2 ho hgr hz); clear ho hgr hz)))
          go_roundw
          case rel => exact ⟨m + 1, ls ++ [⟨qB y m pe (1 + y.oth % 5) (0) (0) (0), pA, pn, pc⟩], by omega, rfl, by rw [HN2.out, HIP.out]; rfl, by rw [whoP_succ, HY.out, HWHO.out]; exact HM4.out, by rw [HN1.out, List.map_append, HLQ.out, HQF.out]; rfl⟩
          case measure => simp only [intOf]; omega
       ·have h2b : (1 + y.kind % 8 == 2) = false := beq_eq_false_iff_ne.2 h2
        have H2 := Lib.hid h2
        clear h2
        go_upto_region 20 with (go_at_call 38; (with_reducible refine (TM.out _ _ _ (by omega) (by omega)).mono ?_); rintro e w' ⟨rfl, rfl⟩)
        clear k1 k3 k4 kf3 kf4 x3 x4
        have HB22 := Lib.hid (HBA.out.set 4 (.int .i64 (y.par % 3)) (p' := ⟨qB y m pe (0) (y.par % 3) (0) (0), pA, pn, pc⟩) rfl ⟨rfl, rfl, rfl, rfl⟩)
        obtain ⟨Wn22, hWn22⟩ : ∃ X, World.setCell wr ⟨b10, 4, none⟩ (.int .i64 (y.par % 3)) = X := ⟨_, rfl⟩
        rw [hWn22] at HB22 ⊢
        clear hWn22
        have k1 : World.cell? Wn22 ⟨b10, 1, none⟩ = some (.int .i64 (1 + y.kind % 8)) := HB22.out.bk.cell 1
        have HLA := Lib.hid (refLasts_any (1 + y.kind % 8))
        obtain ⟨lb, hlb⟩ : ∃ b, lastsB (1 + y.kind % 8) = b := ⟨_, rfl⟩
        rw [hlb] at HLA
        cases lb with
        | true =>
         go_upto_region 21 with (go_at_call 99; (with_reducible refine (HLA.out _).mono ?_); rintro e w' ⟨rfl, rfl⟩)
         clear k1
         have k5 := cellW (show World.cell? Wn22 ⟨b10, 5, none⟩ = some (.int .i64 (y.day % 2000)) from HB22.out.bk.cell 5)
         have x6 := cellW (show World.cell? Wn22 ⟨bX, 6, none⟩ = some (.int .i64 y.long) from (BX.out.ext HB22.out.g).cell 6)
         have ha1 : IntKind.i64.wrap (y.day % 2000 + y.long % 450) = y.day % 2000 + y.long % 450 := by rw [IntKind.wrap_i64]; omega
         refine wp_region_calm_tail Wn22 7 (by kernel_rfl) (by kernel_rfl) (Below.refl _ _) ?_
         simp only [List.take_succ_cons, List.take_zero, List.drop_succ_cons, List.drop_zero]
         repeat (go_big_quiet_step (first | (go_at_call 38; exact callsCalmSame (TM.out _ _ _ (by omega) (by omega)))))
         refine wpQuiet_nil ?_
         rintro _ ⟨zl, rfl⟩
         have HZ23 := Lib.hid (HB22.out.ext zl.ok)
         clear k5 x6
         have q6 : World.cell? zl.val ⟨b10, 6, none⟩ = some (.int .i64 0) := HZ23.out.bk.cell 6
         have qf := HZ23.out.bk.frozen 6
         go_upto_region 22 with fail
         clear q6 qf ha1
         have HB24 := Lib.hid (HZ23.out.set 6 (.int .i64 (y.day % 2000 + y.long % 450)) (p' := ⟨qB y m pe (0) (y.par % 3) (y.day % 2000 + y.long % 450) (0), pA, pn, pc⟩) rfl ⟨rfl, rfl, rfl, rfl⟩)
         obtain ⟨Wn24, hWn24⟩ : ∃ X, World.setCell zl.val ⟨b10, 6, none⟩ (.int .i64 (y.day % 2000 + y.long % 450)) = X := ⟨_, rfl⟩
         rw [hWn24] at HB24 ⊢
         clear hWn24
         have xu : World.cell? Wn24 ⟨bX, 8, none⟩ = some (.int .i64 y.unt) := (BX.out.ext HB24.out.g).cell 8
         by_cases hu : y.unt % 4 = 0
         ·have hub : (y.unt % 4 == 0) = true := beq_iff_eq.2 hu
          go_upto_region 23 with (go_at_call 38; (with_reducible refine (TM.out _ _ _ (by omega) (by omega)).mono ?_); rintro e w' ⟨rfl, rfl⟩)
          have k7 := cellW (show World.cell? Wn24 ⟨b10, 7, none⟩ = some (.int .i64 (y.kno % 40)) from HB24.out.bk.cell 7)
          have x8 := cellW xu
          clear xu
          have ha1 : IntKind.i64.wrap (y.kno % 40 + 1) = y.kno % 40 + 1 := by rw [IntKind.wrap_i64]; omega
          have ha2 : IntKind.i64.wrap (y.unt.tdiv 4) = y.unt.tdiv 4 := HW4.out
          have ha3 : IntKind.i64.wrap (y.kno % 40 + 1 + y.unt.tdiv 4 % 30) = y.kno % 40 + 1 + y.unt.tdiv 4 % 30 := by
           generalize y.unt.tdiv 4 = u9
           rw [IntKind.wrap_i64]; omega
          refine wp_region_calm_tail Wn24 9 (by kernel_rfl) (by kernel_rfl) (Below.refl _ _) ?_
          simp only [List.take_succ_cons, List.take_zero, List.drop_succ_cons, List.drop_zero]
          repeat (go_big_quiet_step (first | (go_at_call 38; exact callsCalmSame (TM.out _ _ _ (by omega) (by omega)))))
          refine wpQuiet_nil ?_
          rintro _ ⟨zu, rfl⟩
          have HZ25 := Lib.hid (HB24.out.ext zu.ok)
          clear k7 x8
          have q8 : World.cell? zu.val ⟨b10, 8, none⟩ = some (.int .i64 0) := HZ25.out.bk.cell 8
          have qf := HZ25.out.bk.frozen 8
          go_upto_region 24 with fail
          clear q8 qf ha1 ha2 ha3
          have HB26 := Lib.hid (HZ25.out.set 8 (.int .i64 (y.kno % 40 + 1 + y.unt.tdiv 4 % 30)) (p' := ⟨qB y m pe (0) (y.par % 3) (y.day % 2000 + y.long % 450) (y.kno % 40 + 1 + y.unt.tdiv 4 % 30), pA, pn, pc⟩) rfl ⟨rfl, rfl, rfl, rfl⟩)
          obtain ⟨Wn26, hWn26⟩ : ∃ X, World.setCell zu.val ⟨b10, 8, none⟩ (.int .i64 (y.kno % 40 + 1 + y.unt.tdiv 4 % 30)) = X := ⟨_, rfl⟩
          rw [hWn26] at HB26 ⊢
          clear hWn26
          have e0 : World.cell? Wn26 ⟨b10, 0, none⟩ = some (.int .i64 (3 * (m : Int) + 2)) := HB26.out.bk.cell 0
          have e1 : World.cell? Wn26 ⟨b10, 1, none⟩ = some (.int .i64 (1 + y.kind % 8)) := HB26.out.bk.cell 1
          have e2 : World.cell? Wn26 ⟨b10, 2, none⟩ = some (.slice pA pn pc) := HB26.out.bk.cell 2
          have e3 : World.cell? Wn26 ⟨b10, 3, none⟩ = some (.int .i64 (0)) := HB26.out.bk.cell 3
          have e4 : World.cell? Wn26 ⟨b10, 4, none⟩ = some (.int .i64 (y.par % 3)) := HB26.out.bk.cell 4
          have e5 : World.cell? Wn26 ⟨b10, 5, none⟩ = some (.int .i64 (y.day % 2000)) := HB26.out.bk.cell 5
          have e6 : World.cell? Wn26 ⟨b10, 6, none⟩ = some (.int .i64 (y.day % 2000 + y.long % 450)) := HB26.out.bk.cell 6
          have e7 : World.cell? Wn26 ⟨b10, 7, none⟩ = some (.int .i64 (y.kno % 40)) := HB26.out.bk.cell 7
          have e8 : World.cell? Wn26 ⟨b10, 8, none⟩ = some (.int .i64 (y.kno % 40 + 1 + y.unt.tdiv 4 % 30)) := HB26.out.bk.cell 8
          have HMX := Lib.hid (((HMD.out.ext GW1.out).ext HB26.out.g).ext (one_more Wn26 (.cells #[.int .i64 (3 * (m : Int) + 2), .int .i64 (1 + y.kind % 8), .slice pA pn pc, .int .i64 (0), .int .i64 (y.par % 3), .int .i64 (y.day % 2000), .int .i64 (y.day % 2000 + y.long % 450), .int .i64 (y.kno % 40), .int .i64 (y.kno % 40 + 1 + y.unt.tdiv 4 % 30)] 56)))
          have IX := Lib.hid (one_pf (x := ⟨qB y m pe (0) (y.par % 3) (y.day % 2000 + y.long % 450) (y.kno % 40 + 1 + y.unt.tdiv 4 % 30), pA, pn, pc⟩) (Blk.new Wn26 56 #[.int .i64 (3 * (m : Int) + 2), .int .i64 (1 + y.kind % 8), .slice pA pn pc, .int .i64 (0), .int .i64 (y.par % 3), .int .i64 (y.day % 2000), .int .i64 (y.day % 2000 + y.long % 450), .int .i64 (y.kno % 40), .int .i64 (y.kno % 40 + 1 + y.unt.tdiv 4 % 30)]))
          have HPP := Lib.hid (HB26.out.pi (by show pe.length ≤ 1000; have := HPE3.out; omega))
          have HPX := Lib.hid (HPP.out.1.below (one_more Wn26 (.cells #[.int .i64 (3 * (m : Int) + 2), .int .i64 (1 + y.kind % 8), .slice pA pn pc, .int .i64 (0), .int .i64 (y.par % 3), .int .i64 (y.day % 2000), .int .i64 (y.day % 2000 + y.long % 450), .int .i64 (y.kno % 40), .int .i64 (y.kno % 40 + 1 + y.unt.tdiv 4 % 30)] 56)))
          have HSZ := Lib.hid (one_more Wn26 (.cells #[.int .i64 (3 * (m : Int) + 2), .int .i64 (1 + y.kind % 8), .slice pA pn pc, .int .i64 (0), .int .i64 (y.par % 3), .int .i64 (y.day % 2000), .int .i64 (y.day % 2000 + y.long % 450), .int .i64 (y.kno % 40), .int .i64 (y.kno % 40 + 1 + y.unt.tdiv 4 % 30)] 56)).size
          have HNE := Lib.hid (show ∀ a, pA = some a → u4.ownBlock ≠ some a.block ∧ u5.ownBlock ≠ some a.block ∧ a.block < (Wn26.alloc (.cells #[.int .i64 (3 * (m : Int) + 2), .int .i64 (1 + y.kind % 8), .slice pA pn pc, .int .i64 (0), .int .i64 (y.par % 3), .int .i64 (y.day % 2000), .int .i64 (y.day % 2000 + y.long % 450), .int .i64 (y.kno % 40), .int .i64 (y.kno % 40 + 1 + y.unt.tdiv 4 % 30)] 56)).heap.size from fun a e => by
           obtain ⟨k1, k2⟩ := HPP.out.2 a e
           have k3 := HSZ.out
           exact ⟨fun e2 => by have := HOL.out _ (.inl e2); omega, fun e2 => by have := HOL.out _ (.inr e2); omega, by omega⟩)
          have HLO := Lib.hid (show ∀ a, pA = some a → w.heap.size ≤ a.block from fun a e => by
           have k1 := (HPP.out.2 a e).1
           have k2 := (HMD.out.ext GW1.out).g.size
           omega)
          have HQF := Lib.hid (show mkQ y m op = qB y m pe (0) (y.par % 3) (y.day % 2000 + y.long % 450) (y.kno % 40 + 1 + y.unt.tdiv 4 % 30) by rw [mkQ_B, HWHO.out, HPE.out, if_neg H2.out, if_neg H2.out, if_pos hlb, if_pos hu])
          go_upto_region 25 with (first | (at_builtin; go_loud ((refine wpList_app kdQ (by rfl) _ _ (by rfl) w.heap.size _ ls (by rfl) HMX.out.o1 _ 1 1 [⟨qB y m pe (0) (y.par % 3) (y.day % 2000 + y.long % 450) (y.kno % 40 + 1 + y.unt.tdiv 4 % 30), pA, pn, pc⟩] (by rfl) IX.out (by have := HLS.out; omega) HMX.out.g.size ?_); intro v' w' ho hgr hz; have HM2 := Lib.hid (HMX.out.add1 HPX.out HNE.out HLO.out ho hgr hz); have HM3 := Lib.hid (HM2.out.ext (one_more w' (.cells #[.int .i64 who] 3))); have IW := Lib.hid (one_int (Blk.new w' 3 #[.int .i64 who])); clear ho hgr hz)))
          clear e0 e1 e2 e3 e4 e5 e6 e7 e8
          go_wp2_with (first | (at_builtin; go_loud ((refine wpList_app kdI (by rfl) _ _ (by rfl) w.heap.size _ (whoP x m) (by rfl) HM3.out.o2 _ 1 1 [who] (by rfl) IW.out (by rw [whoP_len]; omega) HM3.out.g.size ?_); intro v2 w2 ho hgr hz; have HM4 := Lib.hid (HM3.out.add2 ho hgr hz); clear ho hgr hz)))
          go_roundw
          case rel => exact ⟨m + 1, ls ++ [⟨qB y m pe (0) (y.par % 3) (y.day % 2000 + y.long % 450) (y.kno % 40 + 1 + y.unt.tdiv 4 % 30), pA, pn, pc⟩], by omega, rfl, by rw [HN2.out, HIP.out]; rfl, by rw [whoP_succ, HY.out, HWHO.out]; exact HM4.out, by rw [HN1.out, List.map_append, HLQ.out, HQF.out]; rfl⟩
          case measure => simp only [intOf]; omega
         ·have hub : (y.unt % 4 == 0) = false := beq_eq_false_iff_ne.2 hu
          go_upto_region 24 with (go_at_call 38; (with_reducible refine (TM.out _ _ _ (by omega) (by omega)).mono ?_); rintro e w' ⟨rfl, rfl⟩)
          clear xu
          have e0 : World.cell? Wn24 ⟨b10, 0, none⟩ = some (.int .i64 (3 * (m : Int) + 2)) := HB24.out.bk.cell 0
          have e1 : World.cell? Wn24 ⟨b10, 1, none⟩ = some (.int .i64 (1 + y.kind % 8)) := HB24.out.bk.cell 1
          have e2 : World.cell? Wn24 ⟨b10, 2, none⟩ = some (.slice pA pn pc) := HB24.out.bk.cell 2
          have e3 : World.cell? Wn24 ⟨b10, 3, none⟩ = some (.int .i64 (0)) := HB24.out.bk.cell 3
          have e4 : World.cell? Wn24 ⟨b10, 4, none⟩ = some (.int .i64 (y.par % 3)) := HB24.out.bk.cell 4
          have e5 : World.cell? Wn24 ⟨b10, 5, none⟩ = some (.int .i64 (y.day % 2000)) := HB24.out.bk.cell 5
          have e6 : World.cell? Wn24 ⟨b10, 6, none⟩ = some (.int .i64 (y.day % 2000 + y.long % 450)) := HB24.out.bk.cell 6
          have e7 : World.cell? Wn24 ⟨b10, 7, none⟩ = some (.int .i64 (y.kno % 40)) := HB24.out.bk.cell 7
          have e8 : World.cell? Wn24 ⟨b10, 8, none⟩ = some (.int .i64 (0)) := HB24.out.bk.cell 8
          have HMX := Lib.hid (((HMD.out.ext GW1.out).ext HB24.out.g).ext (one_more Wn24 (.cells #[.int .i64 (3 * (m : Int) + 2), .int .i64 (1 + y.kind % 8), .slice pA pn pc, .int .i64 (0), .int .i64 (y.par % 3), .int .i64 (y.day % 2000), .int .i64 (y.day % 2000 + y.long % 450), .int .i64 (y.kno % 40), .int .i64 (0)] 56)))
          have IX := Lib.hid (one_pf (x := ⟨qB y m pe (0) (y.par % 3) (y.day % 2000 + y.long % 450) (0), pA, pn, pc⟩) (Blk.new Wn24 56 #[.int .i64 (3 * (m : Int) + 2), .int .i64 (1 + y.kind % 8), .slice pA pn pc, .int .i64 (0), .int .i64 (y.par % 3), .int .i64 (y.day % 2000), .int .i64 (y.day % 2000 + y.long % 450), .int .i64 (y.kno % 40), .int .i64 (0)]))
          have HPP := Lib.hid (HB24.out.pi (by show pe.length ≤ 1000; have := HPE3.out; omega))
          have HPX := Lib.hid (HPP.out.1.below (one_more Wn24 (.cells #[.int .i64 (3 * (m : Int) + 2), .int .i64 (1 + y.kind % 8), .slice pA pn pc, .int .i64 (0), .int .i64 (y.par % 3), .int .i64 (y.day % 2000), .int .i64 (y.day % 2000 + y.long % 450), .int .i64 (y.kno % 40), .int .i64 (0)] 56)))
          have HSZ := Lib.hid (one_more Wn24 (.cells #[.int .i64 (3 * (m : Int) + 2), .int .i64 (1 + y.kind % 8), .slice pA pn pc, .int .i64 (0), .int .i64 (y.par % 3), .int .i64 (y.day % 2000), .int .i64 (y.day % 2000 + y.long % 450), .int .i64 (y.kno % 40), .int .i64 (0)] 56)).size
          have HNE := Lib.hid (show ∀ a, pA = some a → u4.ownBlock ≠ some a.block ∧ u5.ownBlock ≠ some a.block ∧ a.block < (Wn24.alloc (.cells #[.int .i64 (3 * (m : Int) + 2), .int .i64 (1 + y.kind % 8), .slice pA pn pc, .int .i64 (0), .int .i64 (y.par % 3), .int .i64 (y.day % 2000), .int .i64 (y.day % 2000 + y.long % 450), .int .i64 (y.kno % 40), .int .i64 (0)] 56)).heap.size from fun a e => by
           obtain ⟨k1, k2⟩ := HPP.out.2 a e
           have k3 := HSZ.out
           exact ⟨fun e2 => by have := HOL.out _ (.inl e2); omega, fun e2 => by have := HOL.out _ (.inr e2); omega, by omega⟩)
          have HLO := Lib.hid (show ∀ a, pA = some a → w.heap.size ≤ a.block from fun a e => by
           have k1 := (HPP.out.2 a e).1
           have k2 := (HMD.out.ext GW1.out).g.size
           omega)
          have HQF := Lib.hid (show mkQ y m op = qB y m pe (0) (y.par % 3) (y.day % 2000 + y.long % 450) (0) by rw [mkQ_B, HWHO.out, HPE.out, if_neg H2.out, if_neg H2.out, if_pos hlb, if_neg hu])
          go_upto_region 25 with (first | (at_builtin; go_loud ((refine wpList_app kdQ (by rfl) _ _ (by rfl) w.heap.size _ ls (by rfl) HMX.out.o1 _ 1 1 [⟨qB y m pe (0) (y.par % 3) (y.day % 2000 + y.long % 450) (0), pA, pn, pc⟩] (by rfl) IX.out (by have := HLS.out; omega) HMX.out.g.size ?_); intro v' w' ho hgr hz; have HM2 := Lib.hid (HMX.out.add1 HPX.out HNE.out HLO.out ho hgr hz); have HM3 := Lib.hid (HM2.out.ext (one_more w' (.cells #[.int .i64 who] 3))); have IW := Lib.hid (one_int (Blk.new w' 3 #[.int .i64 who])); clear ho hgr hz)))
          clear e0 e1 e2 e3 e4 e5 e6 e7 e8
          go_wp2_with (first | (at_builtin; go_loud ((refine wpList_app kdI (by rfl) _ _ (by rfl) w.heap.size _ (whoP x m) (by rfl) HM3.out.o2 _ 1 1 [who] (by rfl) IW.out (by rw [whoP_len]; omega) HM3.out.g.size ?_); intro v2 w2 ho hgr hz; have HM4 := Lib.hid (HM3.out.add2 ho hgr hz); clear ho hgr hz)))
          go_roundw
          case rel => exact ⟨m + 1, ls ++ [⟨qB y m pe (0) (y.par % 3) (y.day % 2000 + y.long % 450) (0), pA, pn, pc⟩], by omega, rfl, by rw [HN2.out, HIP.out]; rfl, by rw [whoP_succ, HY.out, HWHO.out]; exact HM4.out, by rw [HN1.out, List.map_append, HLQ.out, HQF.out]; rfl⟩
          case measure => simp only [intOf]; omega
        | false =>
         go_upto_region 22 with (go_at_call 99; (with_reducible refine (HLA.out _).mono ?_); rintro e w' ⟨rfl, rfl⟩)
         clear k1
         have xu : World.cell? Wn22 ⟨bX, 8, none⟩ = some (.int .i64 y.unt) := (BX.out.ext HB22.out.g).cell 8
         by_cases hu : y.unt % 4 = 0
         ·have hub : (y.unt % 4 == 0) = true := beq_iff_eq.2 hu
          go_upto_region 23 with (go_at_call 38; (with_reducible refine (TM.out _ _ _ (by omega) (by omega)).mono ?_); rintro e w' ⟨rfl, rfl⟩)
          have k7 := cellW (show World.cell? Wn22 ⟨b10, 7, none⟩ = some (.int .i64 (y.kno % 40)) from HB22.out.bk.cell 7)
          have x8 := cellW xu
          clear xu
          have ha1 : IntKind.i64.wrap (y.kno % 40 + 1) = y.kno % 40 + 1 := by rw [IntKind.wrap_i64]; omega
          have ha2 : IntKind.i64.wrap (y.unt.tdiv 4) = y.unt.tdiv 4 := HW4.out
          have ha3 : IntKind.i64.wrap (y.kno % 40 + 1 + y.unt.tdiv 4 % 30) = y.kno % 40 + 1 + y.unt.tdiv 4 % 30 := by
           generalize y.unt.tdiv 4 = u9
           rw [IntKind.wrap_i64]; omega
          refine wp_region_calm_tail Wn22 9 (by kernel_rfl) (by kernel_rfl) (Below.refl _ _) ?_
          simp only [List.take_succ_cons, List.take_zero, List.drop_succ_cons, List.drop_zero]
          repeat (go_big_quiet_step (first | (go_at_call 38; exact callsCalmSame (TM.out _ _ _ (by omega) (by omega)))))
          refine wpQuiet_nil ?_
          rintro _ ⟨zu, rfl⟩
          have HZ27 := Lib.hid (HB22.out.ext zu.ok)
          clear k7 x8
          have q8 : World.cell? zu.val ⟨b10, 8, none⟩ = some (.int .i64 0) := HZ27.out.bk.cell 8
          have qf := HZ27.out.bk.frozen 8
          go_upto_region 24 with fail
          clear q8 qf ha1 ha2 ha3
          have HB28 := Lib.hid (HZ27.out.set 8 (.int .i64 (y.kno % 40 + 1 + y.unt.tdiv 4 % 30)) (p' := ⟨qB y m pe (0) (y.par % 3) (0) (y.kno % 40 + 1 + y.unt.tdiv 4 % 30), pA, pn, pc⟩) rfl ⟨rfl, rfl, rfl, rfl⟩)
          obtain ⟨Wn28, hWn28⟩ : ∃ X, World.setCell zu.val ⟨b10, 8, none⟩ (.int .i64 (y.kno % 40 + 1 + y.unt.tdiv 4 % 30)) = X := ⟨_, rfl⟩
          rw [hWn28] at HB28 ⊢
          clear hWn28
          have e0 : World.cell? Wn28 ⟨b10, 0, none⟩ = some (.int .i64 (3 * (m : Int) + 2)) := HB28.out.bk.cell 0
          have e1 : World.cell? Wn28 ⟨b10, 1, none⟩ = some (.int .i64 (1 + y.kind % 8)) := HB28.out.bk.cell 1
          have e2 : World.cell? Wn28 ⟨b10, 2, none⟩ = some (.slice pA pn pc) := HB28.out.bk.cell 2
          have e3 : World.cell? Wn28 ⟨b10, 3, none⟩ = some (.int .i64 (0)) := HB28.out.bk.cell 3
          have e4 : World.cell? Wn28 ⟨b10, 4, none⟩ = some (.int .i64 (y.par % 3)) := HB28.out.bk.cell 4
          have e5 : World.cell? Wn28 ⟨b10, 5, none⟩ = some (.int .i64 (y.day % 2000)) := HB28.out.bk.cell 5
          have e6 : World.cell? Wn28 ⟨b10, 6, none⟩ = some (.int .i64 (0)) := HB28.out.bk.cell 6
          have e7 : World.cell? Wn28 ⟨b10, 7, none⟩ = some (.int .i64 (y.kno % 40)) := HB28.out.bk.cell 7
          have e8 : World.cell? Wn28 ⟨b10, 8, none⟩ = some (.int .i64 (y.kno % 40 + 1 + y.unt.tdiv 4 % 30)) := HB28.out.bk.cell 8
          have HMX := Lib.hid (((HMD.out.ext GW1.out).ext HB28.out.g).ext (one_more Wn28 (.cells #[.int .i64 (3 * (m : Int) + 2), .int .i64 (1 + y.kind % 8), .slice pA pn pc, .int .i64 (0), .int .i64 (y.par % 3), .int .i64 (y.day % 2000), .int .i64 (0), .int .i64 (y.kno % 40), .int .i64 (y.kno % 40 + 1 + y.unt.tdiv 4 % 30)] 56)))
          have IX := Lib.hid (one_pf (x := ⟨qB y m pe (0) (y.par % 3) (0) (y.kno % 40 + 1 + y.unt.tdiv 4 % 30), pA, pn, pc⟩) (Blk.new Wn28 56 #[.int .i64 (3 * (m : Int) + 2), .int .i64 (1 + y.kind % 8), .slice pA pn pc, .int .i64 (0), .int .i64 (y.par % 3), .int .i64 (y.day % 2000), .int .i64 (0), .int .i64 (y.kno % 40), .int .i64 (y.kno % 40 + 1 + y.unt.tdiv 4 % 30)]))
          have HPP := Lib.hid (HB28.out.pi (by show pe.length ≤ 1000; have := HPE3.out; omega))
          have HPX := Lib.hid (HPP.out.1.below (one_more Wn28 (.cells #[.int .i64 (3 * (m : Int) + 2), .int .i64 (1 + y.kind % 8), .slice pA pn pc, .int .i64 (0), .int .i64 (y.par % 3), .int .i64 (y.day % 2000), .int .i64 (0), .int .i64 (y.kno % 40), .int .i64 (y.kno % 40 + 1 + y.unt.tdiv 4 % 30)] 56)))
          have HSZ := Lib.hid (one_more Wn28 (.cells #[.int .i64 (3 * (m : Int) + 2), .int .i64 (1 + y.kind % 8), .slice pA pn pc, .int .i64 (0), .int .i64 (y.par % 3), .int .i64 (y.day % 2000), .int .i64 (0), .int .i64 (y.kno % 40), .int .i64 (y.kno % 40 + 1 + y.unt.tdiv 4 % 30)] 56)).size
          have HNE := Lib.hid (show ∀ a, pA = some a → u4.ownBlock ≠ some a.block ∧ u5.ownBlock ≠ some a.block ∧ a.block < (Wn28.alloc (.cells #[.int .i64 (3 * (m : Int) + 2), .int .i64 (1 + y.kind % 8), .slice pA pn pc, .int .i64 (0), .int .i64 (y.par % 3), .int .i64 (y.day % 2000), .int .i64 (0), .int .i64 (y.kno % 40), .int .i64 (y.kno % 40 + 1 + y.unt.tdiv 4 % 30)] 56)).heap.size from fun a e => by
           obtain ⟨k1, k2⟩ := HPP.out.2 a e
           have k3 := HSZ.out
           exact ⟨fun e2 => by have := HOL.out _ (.inl e2); omega, fun e2 => by have := HOL.out _ (.inr e2); omega, by omega⟩)
          have HLO := Lib.hid (show ∀ a, pA = some a → w.heap.size ≤ a.block from fun a e => by
           have k1 := (HPP.out.2 a e).1
           have k2 := (HMD.out.ext GW1.out).g.size
           omega)
          have HQF := Lib.hid (show mkQ y m op = qB y m pe (0) (y.par % 3) (0) (y.kno % 40 + 1 + y.unt.tdiv 4 % 30) by rw [mkQ_B, HWHO.out, HPE.out, if_neg H2.out, if_neg H2.out, if_neg (by rw [hlb]; decide), if_pos hu])
          go_upto_region 25 with (first | (at_builtin; go_loud ((refine wpList_app kdQ (by rfl) _ _ (by rfl) w.heap.size _ ls (by rfl) HMX.out.o1 _ 1 1 [⟨qB y m pe (0) (y.par % 3) (0) (y.kno % 40 + 1 + y.unt.tdiv 4 % 30), pA, pn, pc⟩] (by rfl) IX.out (by have := HLS.out; omega) HMX.out.g.size ?_); intro v' w' ho hgr hz; have HM2 := Lib.hid (HMX.out.add1 HPX.out HNE.out HLO.out ho hgr hz); have HM3 := Lib.hid (HM2.out.ext (one_more w' (.cells #[.int .i64 who] 3))); have IW := Lib.hid (one_int (Blk.new w' 3 #[.int .i64 who])); clear ho hgr hz)))
          clear e0 e1 e2 e3 e4 e5 e6 e7 e8
          go_wp2_with (first | (at_builtin; go_loud ((refine wpList_app kdI (by rfl) _ _ (by rfl) w.heap.size _ (whoP x m) (by rfl) HM3.out.o2 _ 1 1 [who] (by rfl) IW.out (by rw [whoP_len]; omega) HM3.out.g.size ?_); intro v2 w2 ho hgr hz; have HM4 := Lib.hid (HM3.out.add2 ho hgr hz); clear ho hgr hz)))
          go_roundw
          case rel => exact ⟨m + 1, ls ++ [⟨qB y m pe (0) (y.par % 3) (0) (y.kno % 40 + 1 + y.unt.tdiv 4 % 30), pA, pn, pc⟩], by omega, rfl, by rw [HN2.out, HIP.out]; rfl, by rw [whoP_succ, HY.out, HWHO.out]; exact HM4.out, by rw [HN1.out, List.map_append, HLQ.out, HQF.out]; rfl⟩
          case measure => simp only [intOf]; omega
         ·have hub : (y.unt % 4 == 0) = false := beq_eq_false_iff_ne.2 hu
          go_upto_region 24 with (go_at_call 38; (with_reducible refine (TM.out _ _ _ (by omega) (by omega)).mono ?_); rintro e w' ⟨rfl, rfl⟩)
          clear xu
          have e0 : World.cell? Wn22 ⟨b10, 0, none⟩ = some (.int .i64 (3 * (m : Int) + 2)) := HB22.out.bk.cell 0
          have e1 : World.cell? Wn22 ⟨b10, 1, none⟩ = some (.int .i64 (1 + y.kind % 8)) := HB22.out.bk.cell 1
          have e2 : World.cell? Wn22 ⟨b10, 2, none⟩ = some (.slice pA pn pc) := HB22.out.bk.cell 2
          have e3 : World.cell? Wn22 ⟨b10, 3, none⟩ = some (.int .i64 (0)) := HB22.out.bk.cell 3
          have e4 : World.cell? Wn22 ⟨b10, 4, none⟩ = some (.int .i64 (y.par % 3)) := HB22.out.bk.cell 4
          have e5 : World.cell? Wn22 ⟨b10, 5, none⟩ = some (.int .i64 (y.day % 2000)) := HB22.out.bk.cell 5
          have e6 : World.cell? Wn22 ⟨b10, 6, none⟩ = some (.int .i64 (0)) := HB22.out.bk.cell 6
          have e7 : World.cell? Wn22 ⟨b10, 7, none⟩ = some (.int .i64 (y.kno % 40)) := HB22.out.bk.cell 7
          have e8 : World.cell? Wn22 ⟨b10, 8, none⟩ = some (.int .i64 (0)) := HB22.out.bk.cell 8
          have HMX := Lib.hid (((HMD.out.ext GW1.out).ext HB22.out.g).ext (one_more Wn22 (.cells #[.int .i64 (3 * (m : Int) + 2), .int .i64 (1 + y.kind % 8), .slice pA pn pc, .int .i64 (0), .int .i64 (y.par % 3), .int .i64 (y.day % 2000), .int .i64 (0), .int .i64 (y.kno % 40), .int .i64 (0)] 56)))
          have IX := Lib.hid (one_pf (x := ⟨qB y m pe (0) (y.par % 3) (0) (0), pA, pn, pc⟩) (Blk.new Wn22 56 #[.int .i64 (3 * (m : Int) + 2), .int .i64 (1 + y.kind % 8), .slice pA pn pc, .int .i64 (0), .int .i64 (y.par % 3), .int .i64 (y.day % 2000), .int .i64 (0), .int .i64 (y.kno % 40), .int .i64 (0)]))
          have HPP := Lib.hid (HB22.out.pi (by show pe.length ≤ 1000; have := HPE3.out; omega))
          have HPX := Lib.hid (HPP.out.1.below (one_more Wn22 (.cells #[.int .i64 (3 * (m : Int) + 2), .int .i64 (1 + y.kind % 8), .slice pA pn pc, .int .i64 (0), .int .i64 (y.par % 3), .int .i64 (y.day % 2000), .int .i64 (0), .int .i64 (y.kno % 40), .int .i64 (0)] 56)))
          have HSZ := Lib.hid (one_more Wn22 (.cells #[.int .i64 (3 * (m : Int) + 2), .int .i64 (1 + y.kind % 8), .slice pA pn pc, .int .i64 (0), .int .i64 (y.par % 3), .int .i64 (y.day % 2000), .int .i64 (0), .int .i64 (y.kno % 40), .int .i64 (0)] 56)).size
          have HNE := Lib.hid (show ∀ a, pA = some a → u4.ownBlock ≠ some a.block ∧ u5.ownBlock ≠ some a.block ∧ a.block < (Wn22.alloc (.cells #[.int .i64 (3 * (m : Int) + 2), .int .i64 (1 + y.kind % 8), .slice pA pn pc, .int .i64 (0), .int .i64 (y.par % 3), .int .i64 (y.day % 2000), .int .i64 (0), .int .i64 (y.kno % 40), .int .i64 (0)] 56)).heap.size from fun a e => by
           obtain ⟨k1, k2⟩ := HPP.out.2 a e
           have k3 := HSZ.out
           exact ⟨fun e2 => by have := HOL.out _ (.inl e2); omega, fun e2 => by have := HOL.out _ (.inr e2); omega, by omega⟩)
          have HLO := Lib.hid (show ∀ a, pA = some a → w.heap.size ≤ a.block from fun a e => by
           have k1 := (HPP.out.2 a e).1
           have k2 := (HMD.out.ext GW1.out).g.size
           omega)
          have HQF := Lib.hid (show mkQ y m op = qB y m pe (0) (y.par % 3) (0) (0) by rw [mkQ_B, HWHO.out, HPE.out, if_neg H2.out, if_neg H2.out, if_neg (by rw [hlb]; decide), if_neg hu])
          go_upto_region 25 with (first | (at_builtin; go_loud ((refine wpList_app kdQ (by rfl) _ _ (by rfl) w.heap.size _ ls (by rfl) HMX.out.o1 _ 1 1 [⟨qB y m pe (0) (y.par % 3) (0) (0), pA, pn, pc⟩] (by rfl) IX.out (by have := HLS.out; omega) HMX.out.g.size ?_); intro v' w' ho hgr hz; have HM2 := Lib.hid (HMX.out.add1 HPX.out HNE.out HLO.out ho hgr hz); have HM3 := Lib.hid (HM2.out.ext (one_more w' (.cells #[.int .i64 who] 3))); have IW := Lib.hid (one_int (Blk.new w' 3 #[.int .i64 who])); clear ho hgr hz)))
          clear e0 e1 e2 e3 e4 e5 e6 e7 e8
          go_wp2_with (first | (at_builtin; go_loud ((refine wpList_app kdI (by rfl) _ _ (by rfl) w.heap.size _ (whoP x m) (by rfl) HM3.out.o2 _ 1 1 [who] (by rfl) IW.out (by rw [whoP_len]; omega) HM3.out.g.size ?_); intro v2 w2 ho hgr hz; have HM4 := Lib.hid (HM3.out.add2 ho hgr hz); clear ho hgr hz)))
          go_roundw
          case rel => exact ⟨m + 1, ls ++ [⟨qB y m pe (0) (y.par % 3) (0) (0), pA, pn, pc⟩], by omega, rfl, by rw [HN2.out, HIP.out]; rfl, by rw [whoP_succ, HY.out, HWHO.out]; exact HM4.out, by rw [HN1.out, List.map_append, HLQ.out, HQF.out]; rfl⟩
          case measure => simp only [intOf]; omega
  ·obtain rfl : m = mn := by omega
   have HE := Lib.hid (show ls.map Pf.q = ml by rw [HLQ.out, HND.out.1])
   have HE2 := Lib.hid (show Md w wr u4 u5 ls wl by rw [HND.out.2]; exact HMD.out)
   by_cases hkn : m < n
   ·have hk1 : (m : Int) < (n : Int) := by omega
    have hk2 : ¬ (m : Int) < 10 := by have := HMN.out; omega
    go_wp2_with fail
    go_ret2
    exact ⟨_, _, rfl, ls, HE2.out, HE.out⟩
   ·have hk1 : ¬ (m : Int) < (n : Int) := by omega
    go_wp2_with fail
    go_ret2
    exact ⟨_, _, rfl, ls, HE2.out, HE.out⟩
end Go.Proofs.YtehhlgdkhecacaaGreat

namespace Go.Proofs.YtehhlgdkhecacaaGreat
open Go.RowKit Go.Shelf
theorem Below.allo9 {B : Nat} {V X : World} (h : Below B V X) (hB : B ≤ X.heap.size) (o : Obj) : Below B V (X.alloc o) := h.trans ((one_more X o).mono hB)
theorem one_pfc {w : World} {g : Nat} {y : Pf} (h : Blk w g 56 #[.int .i64 y.q.src, .int .i64 y.q.kind, .slice y.A y.n y.c, .int .i64 y.q.oth, .int .i64 y.q.par, .int .i64 y.q.day, .int .i64 y.q.thr, .int .i64 0, .int .i64 0]) : Arr pcells 9 w (some ⟨g, 0, none⟩) 1 [⟨clr y.q, y.A, y.n, y.c⟩] := one_pf (x := ⟨clr y.q, y.A, y.n, y.c⟩) h
theorem hon_len2 (x : List Ra) (m : Nat) (h : m ≤ madeN x) : (honP x m).1.length = (honP x m).2.length ∧ (honP x m).1.length ≤ m := by
 obtain ⟨h1, -, -, -, h5⟩ := hon_spec x m h
 have := h5.length_le
 rw [List.length_map, List.length_map, List.length_take] at this
 exact ⟨h1, by omega⟩
set_option maxRecDepth 100000 in
set_option maxHeartbeats 40000000 in
theorem honest_any (A : Option Addr) (n c : Nat) (x : List Ra) (w : World) (ha : Arr rcells 9 w A n x) (hn : n ≤ 9223372036854775807) (hx : ∀ r ∈ x, RaOk r) :
  Calls Tryz.prog 43 #[.slice A n c] w fun e w' => ∃ A1 n1 c1 A2 n2 c2 ls, e = .returned (.tuple #[.slice A1 n1 c1, .slice A2 n2 c2]) ∧ Prf w' A1 n1 ls ∧ ls.map Pf.q = honL x ∧ Ints w' A2 n2 (honW x) ∧ n1 ≤ 10 ∧ n2 ≤ c2 ∧ c2 ≤ maxLen ∧ Below w.heap.size w w' := by
 have TM := Lib.hid (made_any A n c x w ha hn hx)
 have HMN := Lib.hid (And.intro (madeN_le x) (And.intro (madeL_len x) (whoP_len x (madeN x))))
 have HHL := Lib.hid (fun m h => hon_len2 x m h)
 have HND := Lib.hid (And.intro (show honL x = (honP x (madeN x)).1 from rfl) (show honW x = (honP x (madeN x)).2 from rfl))
 have HS := Lib.hid (fun m => (show honP x (m + 1) = if fitB ((honP x m).1 ++ [clr ((madeL x).getD m q0)]) (honP x m).2 ((whoL x).getD m 0) = true then ((honP x m).1 ++ [clr ((madeL x).getD m q0)], (honP x m).2 ++ [(whoL x).getD m 0]) else honP x m from rfl))
 have HWL := Lib.hid (show whoL x = whoP x (madeN x) from rfl)
 obtain ⟨mn, hmn⟩ : ∃ k, madeN x = k := ⟨_, rfl⟩
 rw [hmn] at HMN HND HHL HWL
 obtain ⟨ml, hml⟩ : ∃ k, madeL x = k := ⟨_, rfl⟩
 obtain ⟨wl, hwl⟩ : ∃ k, whoL x = k := ⟨_, rfl⟩
 rw [hml, hwl] at TM HS
 rw [hml] at HMN
 rw [hwl] at HWL
 obtain ⟨rl, hrl⟩ : ∃ k, honL x = k := ⟨_, rfl⟩
 obtain ⟨rw_, hrw⟩ : ∃ k, honW x = k := ⟨_, rfl⟩
 rw [hrl, hrw] at HND ⊢
 clear hmn hml hwl hrl hrw ha hx
 go_enter Tryz.func43, Tryz.ntmps43
 go_upto_region 5 with (go_at_call 37; go_loud ((with_reducible refine (TM.out).mono ?_); rintro e V ⟨v, u, ls, rfl, hmd, hlq⟩; obtain ⟨A4, c4, rfl, h41, h42, hp4⟩ := hmd.prf; obtain ⟨A5, c5, rfl, h51, h52, hi5, -⟩ := OwnL.arr kdI hmd.o2; have HP4 := Lib.hid hp4; have HI5 := Lib.hid hi5; have HGV := Lib.hid hmd.g; have HLQ := Lib.hid hlq; clear hmd hlq h41 h42 hp4 h51 h52 hi5))
 obtain ⟨n4, hn4⟩ : ∃ k, ls.length = k := ⟨_, rfl⟩
 have HN4 := Lib.hid (show n4 = mn by rw [← hn4, ← HMN.out.2.1, ← HLQ.out, List.length_map])
 have HL4 := Lib.hid hn4
 obtain ⟨n5, hn5⟩ : ∃ k, wl.length = k := ⟨_, rfl⟩
 have HN5 := Lib.hid (show n5 = mn by rw [← hn5, HWL.out]; exact HMN.out.2.2)
 rw [hn4] at HP4 ⊢
 rw [hn5] at HI5 ⊢
 clear hn4 hn5
 have HM10 := Lib.hid (show mn ≤ 10 from HMN.out.1.1)
 have HP0 := Lib.hid (Prf.none V)
 have HI0 := Lib.hid (show Ints V none 0 [] from Arr.nil_)
 have HZ := Lib.hid (Below.refl V.heap.size V)
 go_loopw [6, 7, 8] (fun v u i wr => ∃ (m : Nat) (A6 : Option Addr) (n6 c6 : Nat) (A7 : Option Addr) (n7 c7 : Nat) (os : List Pf), m ≤ mn ∧ i = .int .i64 m ∧ v = .slice A6 n6 c6 ∧ u = .slice A7 n7 c7 ∧ Prf wr A6 n6 os ∧ os.map Pf.q = (honP x m).1 ∧ Ints wr A7 n7 (honP x m).2 ∧ n7 ≤ c7 ∧ c7 ≤ maxLen ∧ Below V.heap.size V wr) (fun _ _ i _ => 10 - (intOf i).toNat)
 case atStart => exact ⟨0, none, 0, 0, none, 0, 0, [], Nat.zero_le _, rfl, rfl, rfl, HP0.out, rfl, HI0.out, Nat.le_refl _, Nat.zero_le _, HZ.out⟩
 case round =>
  obtain ⟨m, A6, n6, c6, A7, n7, c7, os, hm, rfl, rfl, rfl, hp6, hq6, hi7, h71, h72, hg⟩ := hrel
  have HG := Lib.hid hg
  have HP6 := Lib.hid hp6
  have HQ6 := Lib.hid hq6
  have HI7 := Lib.hid hi7
  have H7 := Lib.hid (And.intro h71 h72)
  have HLM := Lib.hid (HHL.out m hm)
  have HSM := Lib.hid (HS.out m)
  have hm10 : m ≤ 10 := by have := HM10.out; omega
  have hwm : wrap64 ((m : Int) + 1) = (m : Int) + 1 := wrap_in (by omega)
  have HL6 := Lib.hid (show os.length = n6 from hp6.len)
  have HL7 := Lib.hid (show (honP x m).2.length = n7 from hi7.1)
  have HN6 := Lib.hid (show n6 = n7 ∧ n6 ≤ 10 by
   have h1 := congrArg List.length hq6
   rw [List.length_map] at h1
   have h2 := HLM.out; have h3 := HL6.out; have h4 := HL7.out; have h5 := HM10.out
   omega)
  obtain ⟨hw, hhw⟩ : ∃ l, (honP x m).2 = l := ⟨_, rfl⟩
  have HHW := Lib.hid hhw
  rw [hhw] at HI7 HSM HL7
  clear hp6 hq6 hi7 hg hhw h71 h72
  by_cases hk : m < mn
  ·have hk4 : (m : Int) < (n4 : Int) := by have := HN4.out; omega
   have hkn : m < n4 := by have := HN4.out; omega
   obtain ⟨b0, o0, rfl, -, hyi, -, hyc⟩ := (HP4.out.below HG.out).at hkn
   obtain ⟨y, hy⟩ : ∃ y, ls.getD m p0 = y := ⟨_, rfl⟩
   rw [hy] at hyi hyc
   obtain ⟨e0, e1, e2, e3, e4, e5, e6, e7, e8⟩ := hyc _ (Below.refl _ _)
   have HYQ := Lib.hid (show ml.getD m q0 = y.q by rw [← HLQ.out, map_pf (by rw [HL4.out]; exact hkn), hy])
   have HYI := Lib.hid hyi
   rw [HYQ.out] at HSM
   have hkn5 : m < n5 := by have := HN5.out; omega
   obtain ⟨b5, o5, rfl, -, -, hc5⟩ := ints_at (HI5.out.below HG.out) hkn5
   obtain ⟨t, ht⟩ : ∃ t, wl.getD m 0 = t := ⟨_, rfl⟩
   rw [ht] at hc5 HSM
   have HT5 := Lib.hid hc5
   have hk5 : (m : Int) < (n5 : Int) := by have := HN5.out; omega
   clear hyi hyc hy hc5 ht hkn hkn5
   obtain ⟨W1, hW1⟩ : ∃ X, wr.alloc (.cells #[.int .i64 y.q.src, .int .i64 y.q.kind, .slice y.A y.n y.c, .int .i64 y.q.oth, .int .i64 y.q.par, .int .i64 y.q.day, .int .i64 y.q.thr, .int .i64 y.q.kno, .int .i64 y.q.unt] 56) = X := ⟨_, rfl⟩
   have GW1 := Lib.hid (show Below wr.heap.size wr W1 by rw [← hW1]; exact one_more _ _)
   have BX := Lib.hid (show Blk W1 wr.heap.size 56 #[.int .i64 y.q.src, .int .i64 y.q.kind, .slice y.A y.n y.c, .int .i64 y.q.oth, .int .i64 y.q.par, .int .i64 y.q.day, .int .i64 y.q.thr, .int .i64 y.q.kno, .int .i64 y.q.unt] by rw [← hW1]; exact Blk.new _ _ _)
   have HW1 := Lib.hid hW1
   clear hW1
   go_upto_region 8 with fail
   rw [HW1.out]
   obtain ⟨bX, hbX⟩ : ∃ b, wr.heap.size = b := ⟨_, rfl⟩
   have HBXL := Lib.hid (show wr.heap.size ≤ bX by omega)
   rw [hbX] at BX ⊢
   clear hbX e0 e1 e2 e3 e4 e5 e6 e7 e8
   have d8 := BX.out.cell 8
   have f8 := BX.out.frozen 8
   have d7 := BX.out.cell 7
   have f7 := BX.out.frozen 7
   go_upto_region 10 with fail
   have BY_ := Lib.hid (show Blk ((W1.setCell ⟨bX, 8, none⟩ (.int .i64 0)).setCell ⟨bX, 7, none⟩ (.int .i64 0)) bX 56 #[.int .i64 y.q.src, .int .i64 y.q.kind, .slice y.A y.n y.c, .int .i64 y.q.oth, .int .i64 y.q.par, .int .i64 y.q.day, .int .i64 y.q.thr, .int .i64 0, .int .i64 0] from (BX.out.set_ 8 (.int .i64 0)).set_ 7 (.int .i64 0))
   have GY := Lib.hid (show Below wr.heap.size wr ((W1.setCell ⟨bX, 8, none⟩ (.int .i64 0)).setCell ⟨bX, 7, none⟩ (.int .i64 0)) from (GW1.out.setCell (p := ⟨bX, 8, none⟩) HBXL.out _).setCell (p := ⟨bX, 7, none⟩) HBXL.out _)
   obtain ⟨V2, hV2⟩ : ∃ X, (W1.setCell ⟨bX, 8, none⟩ (.int .i64 0)).setCell ⟨bX, 7, none⟩ (.int .i64 0) = X := ⟨_, rfl⟩
   rw [hV2] at BY_ GY ⊢
   clear hV2 d8 f8 d7 f7
   have d0 : World.cell? V2 ⟨bX, 0, none⟩ = some (.int .i64 y.q.src) := BY_.out.cell 0
   have d1 : World.cell? V2 ⟨bX, 1, none⟩ = some (.int .i64 y.q.kind) := BY_.out.cell 1
   have d2 : World.cell? V2 ⟨bX, 2, none⟩ = some (.slice y.A y.n y.c) := BY_.out.cell 2
   have d3 : World.cell? V2 ⟨bX, 3, none⟩ = some (.int .i64 y.q.oth) := BY_.out.cell 3
   have d4 : World.cell? V2 ⟨bX, 4, none⟩ = some (.int .i64 y.q.par) := BY_.out.cell 4
   have d5 : World.cell? V2 ⟨bX, 5, none⟩ = some (.int .i64 y.q.day) := BY_.out.cell 5
   have d6 : World.cell? V2 ⟨bX, 6, none⟩ = some (.int .i64 y.q.thr) := BY_.out.cell 6
   have d7 : World.cell? V2 ⟨bX, 7, none⟩ = some (.int .i64 0) := BY_.out.cell 7
   have d8 : World.cell? V2 ⟨bX, 8, none⟩ = some (.int .i64 0) := BY_.out.cell 8
   have HA6 := Lib.hid (HP6.out.below GY.out).a
   have HLL := Lib.hid (show os.length + 2 ≤ 1000000 ∧ os.length = n6 by have := HL6.out; have := HN6.out; omega)
   go_cut [10] from 28 to 33 (fun s wx => ∃ A8 c8, s = .slice A8 (n6 + 1) c8 ∧ Arr pcells 9 wx A8 (n6 + 1) (os ++ [⟨clr y.q, y.A, y.n, y.c⟩]) ∧ Below V2.heap.size V2 wx)
   case first =>
    have HKPn := Lib.hid (fun X (g : Below V2.heap.size V2 X) => (⟨(BY_.out.ext g).cell 0, (BY_.out.ext g).cell 1, (BY_.out.ext g).cell 2, (BY_.out.ext g).cell 3, (BY_.out.ext g).cell 4, (BY_.out.ext g).cell 5, (BY_.out.ext g).cell 6, (BY_.out.ext g).cell 7, (BY_.out.ext g).cell 8⟩ : X.cell? ⟨bX, 0, none⟩ = some (.int .i64 y.q.src) ∧ X.cell? ⟨bX, 1, none⟩ = some (.int .i64 y.q.kind) ∧ X.cell? ⟨bX, 2, none⟩ = some (.slice y.A y.n y.c) ∧ X.cell? ⟨bX, 3, none⟩ = some (.int .i64 y.q.oth) ∧ X.cell? ⟨bX, 4, none⟩ = some (.int .i64 y.q.par) ∧ X.cell? ⟨bX, 5, none⟩ = some (.int .i64 y.q.day) ∧ X.cell? ⟨bX, 6, none⟩ = some (.int .i64 y.q.thr) ∧ X.cell? ⟨bX, 7, none⟩ = some (.int .i64 0) ∧ X.cell? ⟨bX, 8, none⟩ = some (.int .i64 0)))
    have GE1 := Lib.hid (show Below V2.heap.size V2 (V2.alloc (.cells #[] 56)).drew from (one_more _ _).drew)
    have GE2 := Lib.hid (show Below V2.heap.size V2 ((V2.alloc (.cells #[] 56)).alloc (.cells #[.int .i64 y.q.src, .int .i64 y.q.kind, .slice y.A y.n y.c, .int .i64 y.q.oth, .int .i64 y.q.par, .int .i64 y.q.day, .int .i64 y.q.thr, .int .i64 0, .int .i64 0] 56)).drew from (two_more _ _ _).drew)
    have GE3 := Lib.hid (show Below V2.heap.size V2 ((V2.alloc (.cells #[.int .i64 y.q.src, .int .i64 y.q.kind, .slice y.A y.n y.c, .int .i64 y.q.oth, .int .i64 y.q.par, .int .i64 y.q.day, .int .i64 y.q.thr, .int .i64 0, .int .i64 0] 56)).alloc (.cells #[] 56)).drew from (two_more _ _ _).drew)
    have OE1 := Lib.hid (show OwnL pcells 9 56 (V2.alloc (.cells #[] 56)).drew V2.heap.size (.slice (some ⟨V2.heap.size, 0, none⟩) 0 0) [] from own_empty pcells_len V2 (Nat.le_refl _))
    have OE2 := Lib.hid (show OwnL pcells 9 56 ((V2.alloc (.cells #[] 56)).alloc (.cells #[.int .i64 y.q.src, .int .i64 y.q.kind, .slice y.A y.n y.c, .int .i64 y.q.oth, .int .i64 y.q.par, .int .i64 y.q.day, .int .i64 y.q.thr, .int .i64 0, .int .i64 0] 56)).drew V2.heap.size (.slice (some ⟨V2.heap.size, 0, none⟩) 0 0) [] from OwnL.ext (w := V2.alloc (.cells #[] 56)) (own_empty pcells_len V2 (Nat.le_refl _)) ((one_more (V2.alloc (.cells #[] 56)) (.cells #[.int .i64 y.q.src, .int .i64 y.q.kind, .slice y.A y.n y.c, .int .i64 y.q.oth, .int .i64 y.q.par, .int .i64 y.q.day, .int .i64 y.q.thr, .int .i64 0, .int .i64 0] 56)).drew))
    have OE3 := Lib.hid (show OwnL pcells 9 56 ((V2.alloc (.cells #[.int .i64 y.q.src, .int .i64 y.q.kind, .slice y.A y.n y.c, .int .i64 y.q.oth, .int .i64 y.q.par, .int .i64 y.q.day, .int .i64 y.q.thr, .int .i64 0, .int .i64 0] 56)).alloc (.cells #[] 56)).drew V2.heap.size (.slice (some ⟨V2.heap.size + 1, 0, none⟩) 0 0) [] by
     have := own_empty (f := pcells) (size := 9) (e := 56) pcells_len (V2.alloc (.cells #[.int .i64 y.q.src, .int .i64 y.q.kind, .slice y.A y.n y.c, .int .i64 y.q.oth, .int .i64 y.q.par, .int .i64 y.q.day, .int .i64 y.q.thr, .int .i64 0, .int .i64 0] 56)) (base := V2.heap.size) (by rw [World.size_alloc]; omega)
     rw [World.size_alloc] at this
     exact this)
    have BX2 := Lib.hid (show Blk ((V2.alloc (.cells #[] 56)).alloc (.cells #[.int .i64 y.q.src, .int .i64 y.q.kind, .slice y.A y.n y.c, .int .i64 y.q.oth, .int .i64 y.q.par, .int .i64 y.q.day, .int .i64 y.q.thr, .int .i64 0, .int .i64 0] 56)).drew (V2.heap.size + 1) 56 #[.int .i64 y.q.src, .int .i64 y.q.kind, .slice y.A y.n y.c, .int .i64 y.q.oth, .int .i64 y.q.par, .int .i64 y.q.day, .int .i64 y.q.thr, .int .i64 0, .int .i64 0] from blk_second _ _ _ _)
    have BX3 := Lib.hid (show Blk ((V2.alloc (.cells #[.int .i64 y.q.src, .int .i64 y.q.kind, .slice y.A y.n y.c, .int .i64 y.q.oth, .int .i64 y.q.par, .int .i64 y.q.day, .int .i64 y.q.thr, .int .i64 0, .int .i64 0] 56)).alloc (.cells #[] 56)).drew V2.heap.size 56 #[.int .i64 y.q.src, .int .i64 y.q.kind, .slice y.A y.n y.c, .int .i64 y.q.oth, .int .i64 y.q.par, .int .i64 y.q.day, .int .i64 y.q.thr, .int .i64 0, .int .i64 0] from (Blk.new V2 56 #[.int .i64 y.q.src, .int .i64 y.q.kind, .slice y.A y.n y.c, .int .i64 y.q.oth, .int .i64 y.q.par, .int .i64 y.q.day, .int .i64 y.q.thr, .int .i64 0, .int .i64 0]).alloc _)
    obtain ⟨base, hbase⟩ : ∃ base, V2.heap.size = base := ⟨_, rfl⟩
    rw [hbase] at OE1 OE2 OE3 BX2 BX3
    have HBS := Lib.hid hbase
    go_region_held3 (fun X => X.cell? ⟨bX, 0, none⟩ = some (.int .i64 y.q.src) ∧ X.cell? ⟨bX, 1, none⟩ = some (.int .i64 y.q.kind) ∧ X.cell? ⟨bX, 2, none⟩ = some (.slice y.A y.n y.c) ∧ X.cell? ⟨bX, 3, none⟩ = some (.int .i64 y.q.oth) ∧ X.cell? ⟨bX, 4, none⟩ = some (.int .i64 y.q.par) ∧ X.cell? ⟨bX, 5, none⟩ = some (.int .i64 y.q.day) ∧ X.cell? ⟨bX, 6, none⟩ = some (.int .i64 y.q.thr) ∧ X.cell? ⟨bX, 7, none⟩ = some (.int .i64 0) ∧ X.cell? ⟨bX, 8, none⟩ = some (.int .i64 0))
     (with_reducible refine HKPn.out _ ?_; repeat' first | (with_reducible exact Below.refl _ _) | (with_reducible exact HGA.out) | (with_reducible exact HGB.out) | (with_reducible refine Below.drew ?_) | (with_reducible refine Below.allo9 ?_ (by first | (simp; done) | (simp; omega) | omega) _))
     (first
      | (refine step_app kdQ (by rfl) _ _ (by rfl) base _ [] (by rfl) OE1.out A6 n6 c6 os (by rfl) (HA6.out.below GE1.out) (by have := HLL.out; simp; omega) (by have := GE1.out.size; have := HBS.out; omega) ?_; intro v1 w1 ho1 hg1 hat1; have hbw := OE1.out.below hg1 (Nat.le_refl base) (by have := GE1.out.size; have := HBS.out; omega); have HGA := Lib.hid (show Below V2.heap.size V2 w1 from GE1.out.trans (hbw.mono (by have := HBS.out; omega))); have HO1 := Lib.hid (show OwnL pcells 9 56 w1 base v1 os by simpa using ho1); have hsa : base ≤ w1.heap.size := (by have := HGA.out.size; have := HBS.out; omega); have HSA := Lib.hid hsa; clear hbw ho1 hg1 hat1)
      | (refine step_app kdQ (by rfl) _ _ (by rfl) base _ [] (by rfl) OE2.out A6 n6 c6 os (by rfl) (HA6.out.below GE2.out) (by have := HLL.out; simp; omega) (by have := GE2.out.size; have := HBS.out; omega) ?_; intro v1 w1 ho1 hg1 hat1; have hbw := OE2.out.below hg1 (Nat.le_refl base) (by have := GE2.out.size; have := HBS.out; omega); have HGA := Lib.hid (show Below V2.heap.size V2 w1 from GE2.out.trans (hbw.mono (by have := HBS.out; omega))); have HO1 := Lib.hid (show OwnL pcells 9 56 w1 base v1 os by simpa using ho1); have hsa : base ≤ w1.heap.size := (by have := HGA.out.size; have := HBS.out; omega); have HSA := Lib.hid hsa; have HBX := Lib.hid (show Blk w1 (base + 1) 56 _ from (hg1.block (base + 1) BX2.out.lt (by simp [Value.ownBlock])).trans BX2.out); clear hbw ho1 hg1 hat1)
      | (refine step_app kdQ (by rfl) _ _ (by rfl) base _ [] (by rfl) OE3.out A6 n6 c6 os (by rfl) (HA6.out.below GE3.out) (by have := HLL.out; simp; omega) (by have := GE3.out.size; have := HBS.out; omega) ?_; intro v1 w1 ho1 hg1 hat1; have hbw := OE3.out.below hg1 (Nat.le_refl base) (by have := GE3.out.size; have := HBS.out; omega); have HGA := Lib.hid (show Below V2.heap.size V2 w1 from GE3.out.trans (hbw.mono (by have := HBS.out; omega))); have HO1 := Lib.hid (show OwnL pcells 9 56 w1 base v1 os by simpa using ho1); have hsa : base ≤ w1.heap.size := (by have := HGA.out.size; have := HBS.out; omega); have HSA := Lib.hid hsa; have HBX := Lib.hid (show Blk w1 base 56 _ from (hg1.block base BX3.out.lt (by simp [Value.ownBlock])).trans BX3.out); clear hbw ho1 hg1 hat1)
      | (refine step_app kdQ (by rfl) _ _ (by rfl) base v1 os (by rfl) (HO1.out.ext (one_more w1 (.cells #[.int .i64 y.q.src, .int .i64 y.q.kind, .slice y.A y.n y.c, .int .i64 y.q.oth, .int .i64 y.q.par, .int .i64 y.q.day, .int .i64 y.q.thr, .int .i64 0, .int .i64 0] 56))) _ _ _ [⟨clr y.q, y.A, y.n, y.c⟩] (by rfl) (one_pfc (Blk.new w1 56 _)) (by have := HLL.out; omega) (by have := HSA.out; rw [World.size_alloc]; omega) ?_; intro v2 w2 ho2 hg2 hat2; have hbw := (HO1.out.ext (one_more w1 (.cells #[.int .i64 y.q.src, .int .i64 y.q.kind, .slice y.A y.n y.c, .int .i64 y.q.oth, .int .i64 y.q.par, .int .i64 y.q.day, .int .i64 y.q.thr, .int .i64 0, .int .i64 0] 56))).below hg2 (Nat.le_refl base) (by have := HSA.out; rw [World.size_alloc]; omega); have HGB := Lib.hid (show Below V2.heap.size V2 w2 from (HGA.out.trans ((one_more w1 _).mono (by have := HSA.out; have := HBS.out; omega))).trans (hbw.mono (by have := HBS.out; omega))); have HO2 := Lib.hid ho2; have hsb : base ≤ w2.heap.size := (by have := HGB.out.size; have := HBS.out; omega); have HSB := Lib.hid hsb; clear hbw ho2 hg2 hat2)
      | (refine step_app kdQ (by rfl) _ _ (by rfl) base v1 os (by rfl) HO1.out _ _ _ [⟨clr y.q, y.A, y.n, y.c⟩] (by rfl) (one_pfc HBX.out) (by have := HLL.out; omega) (by have := HSA.out; omega) ?_; intro v2 w2 ho2 hg2 hat2; have hbw := HO1.out.below hg2 (Nat.le_refl base) (by have := HSA.out; omega); have HGB := Lib.hid (show Below V2.heap.size V2 w2 from HGA.out.trans (hbw.mono (by have := HBS.out; omega))); have HO2 := Lib.hid ho2; have hsb : base ≤ w2.heap.size := (by have := HGB.out.size; have := HBS.out; omega); have HSB := Lib.hid hsb; clear hbw ho2 hg2 hat2))
    all_goals (try go_wp2_with fail)
    all_goals go_meet
    all_goals (obtain ⟨A8, c8, rfl, -, -, har, -⟩ := OwnL.arr kdQ HO2.out; rw [List.length_append, List.length_singleton, HLL.out.2] at har; exact ⟨A8, c8, by rw [List.length_append, List.length_singleton, HLL.out.2], har, HGB.out⟩)
   case rest =>
    obtain ⟨A8, c8, rfl, ha8, hg8⟩ := hcut
    obtain ⟨V3, rfl⟩ : ∃ V : World, V = wc := ⟨_, rfl⟩
    have HG8 := Lib.hid (GY.out.trans (hg8.mono GY.out.size))
    have HG9 := Lib.hid (HG.out.trans (HG8.out.mono HG.out.size))
    have HP8 := Lib.hid (show Prf V3 A8 (n6 + 1) (os ++ [⟨clr y.q, y.A, y.n, y.c⟩]) from ⟨ha8, fun p hp => by
     rw [List.mem_append, List.mem_singleton] at hp
     rcases hp with hp | rfl
     ·exact (HP6.out.p p hp).below HG8.out
     ·exact ⟨(HYI.out.below HG8.out).i, (HYI.out.below HG8.out).m⟩⟩)
    have HQ8 := Lib.hid (show (os ++ [(⟨clr y.q, y.A, y.n, y.c⟩ : Pf)]).map Pf.q = (honP x m).1 ++ [clr y.q] by rw [List.map_append, HQ6.out]; rfl)
    have TF := Lib.hid (refFits_any A8 (n6 + 1) c8 (os ++ [⟨clr y.q, y.A, y.n, y.c⟩]) A7 n7 c7 hw t V3 HP8.out (by have := HN6.out; omega) (HI7.out.below HG8.out) (by have := HN6.out; omega))
    rw [HQ8.out] at TF
    obtain ⟨fb, hfb⟩ : ∃ b, fitB ((honP x m).1 ++ [clr y.q]) hw t = b := ⟨_, rfl⟩
    rw [hfb] at TF HSM
    have t0 := HT5.out V3 HG8.out
    clear hfb ha8 hg8 d0 d1 d2 d3 d4 d5 d6 d7 d8 HLL
    rename_i hK9
    refine hK9 _ _ ?_
    clear hK9
    cases fb with
    | false =>
     have HS2 := Lib.hid (show honP x (m + 1) = honP x m by rw [HSM.out, if_neg (by decide)])
     go_wp2_with (go_at_call 101; (with_reducible refine (TF.out).mono ?_); rintro e V4 ⟨rfl, hg4⟩; have HG4 := Lib.hid (HG8.out.trans (hg4.mono HG8.out.size)); clear hg4)
     go_roundw
     case rel => exact ⟨m + 1, A6, n6, c6, A7, n7, c7, os, by omega, rfl, rfl, rfl, HP6.out.below HG4.out, by rw [HS2.out]; exact HQ6.out, by rw [HS2.out, HHW.out]; exact HI7.out.below HG4.out, H7.out.1, H7.out.2, HG.out.trans (HG4.out.mono HG.out.size)⟩
     case measure => simp only [intOf]; have := HM10.out; omega
    | true =>
     have HS2 := Lib.hid (show honP x (m + 1) = ((honP x m).1 ++ [clr y.q], hw ++ [t]) by rw [HSM.out, if_pos rfl])
     go_upto_region 13 with (go_at_call 101; (with_reducible refine (TF.out).mono ?_); rintro e V4 ⟨rfl, hg4⟩; have HG4 := Lib.hid (HG8.out.trans (hg4.mono HG8.out.size)); have HG34 := Lib.hid hg4; clear hg4)
     clear t0
     have t0 := HT5.out V4 HG4.out
     have HA7 := Lib.hid (HI7.out.below HG4.out)
     have HLL := Lib.hid (show hw.length + 2 ≤ 1000000 ∧ hw.length = n7 by have := HL7.out; have := HN6.out; omega)
     have HKPn := Lib.hid (fun X (g : Below V4.heap.size V4 X) => (HT5.out X (HG4.out.trans (g.mono HG4.out.size)) : X.cell? ⟨b5, o5 + m, none⟩ = some (.int .i64 t)))
     have GE1 := Lib.hid (show Below V4.heap.size V4 (V4.alloc (.cells #[] 3)).drew from (one_more _ _).drew)
     have GE2 := Lib.hid (show Below V4.heap.size V4 ((V4.alloc (.cells #[] 3)).alloc (.cells #[.int .i64 t] 3)).drew from (two_more _ _ _).drew)
     have GE3 := Lib.hid (show Below V4.heap.size V4 ((V4.alloc (.cells #[.int .i64 t] 3)).alloc (.cells #[] 3)).drew from (two_more _ _ _).drew)
     have OE1 := Lib.hid (show OwnL icells 1 3 (V4.alloc (.cells #[] 3)).drew V4.heap.size (.slice (some ⟨V4.heap.size, 0, none⟩) 0 0) [] from own_empty icells_len V4 (Nat.le_refl _))
     have OE2 := Lib.hid (show OwnL icells 1 3 ((V4.alloc (.cells #[] 3)).alloc (.cells #[.int .i64 t] 3)).drew V4.heap.size (.slice (some ⟨V4.heap.size, 0, none⟩) 0 0) [] from OwnL.ext (w := V4.alloc (.cells #[] 3)) (own_empty icells_len V4 (Nat.le_refl _)) ((one_more (V4.alloc (.cells #[] 3)) (.cells #[.int .i64 t] 3)).drew))
     have OE3 := Lib.hid (show OwnL icells 1 3 ((V4.alloc (.cells #[.int .i64 t] 3)).alloc (.cells #[] 3)).drew V4.heap.size (.slice (some ⟨V4.heap.size + 1, 0, none⟩) 0 0) [] by
      have := own_empty (f := icells) (size := 1) (e := 3) icells_len (V4.alloc (.cells #[.int .i64 t] 3)) (base := V4.heap.size) (by rw [World.size_alloc]; omega)
      rw [World.size_alloc] at this
      exact this)
     have BX2 := Lib.hid (show Blk ((V4.alloc (.cells #[] 3)).alloc (.cells #[.int .i64 t] 3)).drew (V4.heap.size + 1) 3 #[.int .i64 t] from blk_second _ _ _ _)
     have BX3 := Lib.hid (show Blk ((V4.alloc (.cells #[.int .i64 t] 3)).alloc (.cells #[] 3)).drew V4.heap.size 3 #[.int .i64 t] from (Blk.new V4 3 #[.int .i64 t]).alloc _)
     obtain ⟨base, hbase⟩ : ∃ base, V4.heap.size = base := ⟨_, rfl⟩
     rw [hbase] at OE1 OE2 OE3 BX2 BX3
     have HBS := Lib.hid hbase
     go_region_held3 (fun X => X.cell? ⟨b5, o5 + m, none⟩ = some (.int .i64 t))
      (with_reducible refine HKPn.out _ ?_; repeat' first | (with_reducible exact Below.refl _ _) | (with_reducible exact HGA.out) | (with_reducible exact HGB.out) | (with_reducible refine Below.drew ?_) | (with_reducible refine Below.allo9 ?_ (by first | (simp; done) | (simp; omega) | omega) _))
      (first
       | (refine step_app kdI (by rfl) _ _ (by rfl) base _ [] (by rfl) OE1.out A7 n7 c7 hw (by rfl) (HA7.out.below GE1.out) (by have := HLL.out; simp; omega) (by have := GE1.out.size; have := HBS.out; omega) ?_; intro v1 w1 ho1 hg1 hat1; have hbw := OE1.out.below hg1 (Nat.le_refl base) (by have := GE1.out.size; have := HBS.out; omega); have HGA := Lib.hid (show Below V4.heap.size V4 w1 from GE1.out.trans (hbw.mono (by have := HBS.out; omega))); have HO1 := Lib.hid (show OwnL icells 1 3 w1 base v1 hw by simpa using ho1); have hsa : base ≤ w1.heap.size := (by have := HGA.out.size; have := HBS.out; omega); have HSA := Lib.hid hsa; clear hbw ho1 hg1 hat1)
       | (refine step_app kdI (by rfl) _ _ (by rfl) base _ [] (by rfl) OE2.out A7 n7 c7 hw (by rfl) (HA7.out.below GE2.out) (by have := HLL.out; simp; omega) (by have := GE2.out.size; have := HBS.out; omega) ?_; intro v1 w1 ho1 hg1 hat1; have hbw := OE2.out.below hg1 (Nat.le_refl base) (by have := GE2.out.size; have := HBS.out; omega); have HGA := Lib.hid (show Below V4.heap.size V4 w1 from GE2.out.trans (hbw.mono (by have := HBS.out; omega))); have HO1 := Lib.hid (show OwnL icells 1 3 w1 base v1 hw by simpa using ho1); have hsa : base ≤ w1.heap.size := (by have := HGA.out.size; have := HBS.out; omega); have HSA := Lib.hid hsa; have HBX := Lib.hid (show Blk w1 (base + 1) 3 _ from (hg1.block (base + 1) BX2.out.lt (by simp [Value.ownBlock])).trans BX2.out); clear hbw ho1 hg1 hat1)
       | (refine step_app kdI (by rfl) _ _ (by rfl) base _ [] (by rfl) OE3.out A7 n7 c7 hw (by rfl) (HA7.out.below GE3.out) (by have := HLL.out; simp; omega) (by have := GE3.out.size; have := HBS.out; omega) ?_; intro v1 w1 ho1 hg1 hat1; have hbw := OE3.out.below hg1 (Nat.le_refl base) (by have := GE3.out.size; have := HBS.out; omega); have HGA := Lib.hid (show Below V4.heap.size V4 w1 from GE3.out.trans (hbw.mono (by have := HBS.out; omega))); have HO1 := Lib.hid (show OwnL icells 1 3 w1 base v1 hw by simpa using ho1); have hsa : base ≤ w1.heap.size := (by have := HGA.out.size; have := HBS.out; omega); have HSA := Lib.hid hsa; have HBX := Lib.hid (show Blk w1 base 3 _ from (hg1.block base BX3.out.lt (by simp [Value.ownBlock])).trans BX3.out); clear hbw ho1 hg1 hat1)
       | (refine step_app kdI (by rfl) _ _ (by rfl) base v1 hw (by rfl) (HO1.out.ext (one_more w1 (.cells #[.int .i64 t] 3))) _ _ _ [t] (by rfl) (one_int (Blk.new w1 3 _)) (by have := HLL.out; omega) (by have := HSA.out; rw [World.size_alloc]; omega) ?_; intro v2 w2 ho2 hg2 hat2; have hbw := (HO1.out.ext (one_more w1 (.cells #[.int .i64 t] 3))).below hg2 (Nat.le_refl base) (by have := HSA.out; rw [World.size_alloc]; omega); have HGB := Lib.hid (show Below V4.heap.size V4 w2 from (HGA.out.trans ((one_more w1 _).mono (by have := HSA.out; have := HBS.out; omega))).trans (hbw.mono (by have := HBS.out; omega))); have HO2 := Lib.hid ho2; have hsb : base ≤ w2.heap.size := (by have := HGB.out.size; have := HBS.out; omega); have HSB := Lib.hid hsb; clear hbw ho2 hg2 hat2)
       | (refine step_app kdI (by rfl) _ _ (by rfl) base v1 hw (by rfl) HO1.out _ _ _ [t] (by rfl) (one_int HBX.out) (by have := HLL.out; omega) (by have := HSA.out; omega) ?_; intro v2 w2 ho2 hg2 hat2; have hbw := HO1.out.below hg2 (Nat.le_refl base) (by have := HSA.out; omega); have HGB := Lib.hid (show Below V4.heap.size V4 w2 from HGA.out.trans (hbw.mono (by have := HBS.out; omega))); have HO2 := Lib.hid ho2; have hsb : base ≤ w2.heap.size := (by have := HGB.out.size; have := HBS.out; omega); have HSB := Lib.hid hsb; clear hbw ho2 hg2 hat2))
     all_goals (try go_wp2_with fail)
     all_goals (
      obtain ⟨A9, c9, rfl, k1, k2, har, -⟩ := OwnL.arr kdI HO2.out
      rw [List.length_append, List.length_singleton, HLL.out.2] at har k1
      go_roundw
      case rel => exact ⟨m + 1, A8, n6 + 1, c8, A9, n7 + 1, c9, _, by omega, rfl, rfl, by rw [List.length_append, List.length_singleton, HLL.out.2], (HP8.out.below HG34.out).below HGB.out, by rw [HS2.out]; exact HQ8.out, by rw [HS2.out]; exact har, k1, k2, HG.out.trans ((HG4.out.trans (HGB.out.mono HG4.out.size)).mono HG.out.size)⟩
      case measure => simp only [intOf]; have := HM10.out; omega)
  ·obtain rfl : m = mn := by omega
   have HE := Lib.hid (show os.map Pf.q = rl by rw [HQ6.out, HND.out.1])
   have HE2 := Lib.hid (show hw = rw_ by rw [HND.out.2, HHW.out])
   have hk4 : ¬ (m : Int) < (n4 : Int) := by have := HN4.out; omega
   go_wp2_with fail
   go_ret2
   rw [HE2.out] at HI7
   exact ⟨_, _, _, _, _, _, rfl, os, HP6.out, HE.out, HI7.out, HN6.out.2, H7.out.1, H7.out.2, HGV.out.trans (HG.out.mono HGV.out.size)⟩
end Go.Proofs.YtehhlgdkhecacaaGreat

namespace Go.Proofs.YtehhlgdkhecacaaGreat
open Go.RowKit Go.Shelf
theorem rng_of {n lo hi : Int} (h1 : lo ≤ n) (h2 : n ≤ hi) : rng n lo hi = true := by unfold rng; simp [h1, h2]
theorem lookE_ok {l : List Qf} (h : okL l = true) {days : List Int} (hd : ∀ d ∈ days, 0 ≤ d ∧ d ≤ 4166) : lookE l days = 0 := by
 unfold lookE
 rw [if_pos h, if_neg]
 rw [Bool.not_eq_true, List.any_eq_false]
 intro d hm
 have := hd d hm
 unfold badDay
 rw [rng_of this.1 this.2]
 decide
theorem askE_of {l : List Qf} (h : okL l = true) {person parish : Int} (hp : 1 ≤ person ∧ person ≤ 999) (hq : 0 ≤ parish ∧ parish ≤ 5) {days : List Int} (hd : ∀ d ∈ days, 0 ≤ d ∧ d ≤ 4166) : askE l person parish days = 0 := by
 unfold askE
 rw [if_pos h, if_pos (rng_of hp.1 hp.2), if_pos (rng_of hq.1 hq.2)]
 exact lookE_ok h hd
theorem readE_of {l : List Qf} (h : okL l = true) {person parish known : Int} (hp : 1 ≤ person ∧ person ≤ 999) (hq : 0 ≤ parish ∧ parish ≤ 5) {days : List Int} (hd : ∀ d ∈ days, 0 ≤ d ∧ d ≤ 4166) : readE l person parish days known = if isRead (cntL l known) = true then 0 else 24 := by
 unfold readE
 rw [if_pos (askE_of h hp hq hd)]
end Go.Proofs.YtehhlgdkhecacaaGreat

namespace Go.Proofs.YtehhlgdkhecacaaGreat
open Go.RowKit Go.Shelf
theorem setL_len (l : List Int) : (setL l).length ≤ l.length := by
 have := putF_len l []
 rw [List.length_nil, Nat.zero_add] at this
 exact this
theorem wher_len {l : List Qf} (h : okL l = true) (known person day : Int) : (wherS (cntL l known) person day).length ≤ 2000 := by
 unfold wherS
 have h1 := setL_len ((reads (cntL l known)).map fun r => setS (cntL l known) r person day)
 rw [List.length_map] at h1
 exact Nat.le_trans h1 (reads_len h known)
/-- A short list without an error. -/
def ListSh (L : List Int) (w : World) (e : Ending) (w' : World) : Prop := ∃ D m d, e = .returned (.tuple #[.slice D m d, .int .i64 0]) ∧ Ints w' D m L ∧ m ≤ 3000 ∧ m ≤ d ∧ d ≤ 9223372036854775807 ∧ Below w.heap.size w w'
theorem ListEnd.sh {l : List Int} {E : Int} {w : World} {e : Ending} {w' : World} (h : ListEnd l E w e w') (hE : E = 0) (hl : l.length ≤ 3000) : ListSh l w e w' := by
 subst hE
 obtain ⟨D, m, d, rfl, hi, h1, h2, hg⟩ := h
 rw [if_pos rfl] at hi
 unfold maxLen at h2
 exact ⟨D, m, d, rfl, hi, by have := hi.1; omega, h1, by omega, hg⟩
end Go.Proofs.YtehhlgdkhecacaaGreat

namespace Go.Proofs.YtehhlgdkhecacaaGreat
open Go.RowKit Go.Shelf
theorem ckRd_of {l : List Qf} (h : okL l = true) {known : Int} (hk : 0 ≤ known ∧ known ≤ 4166) (r : List Int) : ckRdE l known r = err (isRd (cntL l known) r) 23 := by
 unfold ckRdE
 rw [lookE_ok h (fun d hd => by rw [List.mem_singleton] at hd; subst hd; exact hk), if_pos rfl]
theorem two_days {day known : Int} (hd : 0 ≤ day ∧ day ≤ 4166) (hk : 0 ≤ known ∧ known ≤ 4166) : ∀ d ∈ ([day, known] : List Int), 0 ≤ d ∧ d ≤ 4166 := fun d h => by
 rw [List.mem_cons, List.mem_singleton] at h
 rcases h with rfl | rfl
 ·exact hd
 ·exact hk
theorem one_day {known : Int} (hk : 0 ≤ known ∧ known ≤ 4166) : ∀ d ∈ ([known] : List Int), 0 ≤ d ∧ d ≤ 4166 := fun d h => by
 rw [List.mem_singleton] at h
 subst h; exact hk
section
variable {W : World} {A : Option Addr} {n c : Nat} {ls : List Pf} {ml : List Qf} {known day person parish : Int}
theorem c41 (hp : Prf W A n ls) (hq : ls.map Pf.q = ml) (hok : okL ml = true) (hn : n ≤ 1000) (hk : 0 ≤ known ∧ known ≤ 4166) :
  Calls Tryz.prog 41 #[.slice A n c, .int .i64 known] W fun e w' => e = .returned (.tuple #[.int .i64 ((reads (cntL ml known)).length : Int), .int .i64 0]) ∧ Below W.heap.size W w' := by
 have := readingsF_any A n c ls known W hp (by omega)
 rw [hq] at this
 unfold rdsN at this
 rwa [lookE_ok hok (one_day hk), if_pos rfl] at this
theorem c26 (hp : Prf W A n ls) (hq : ls.map Pf.q = ml) (hok : okL ml = true) (hn : n ≤ 1000) (hpr : 1 ≤ person ∧ person ≤ 999) (hd : 0 ≤ day ∧ day ≤ 4166) (hk : 0 ≤ known ∧ known ≤ 4166) (hr : isRead (cntL ml known) = true) :
  Calls Tryz.prog 26 #[.slice A n c, .int .i64 person, .int .i64 day, .int .i64 known] W (ListSh (wherS (cntL ml known) person day) W) := by
 have := whereF_any A n c ls person day known W hp (by omega)
 rw [hq] at this
 exact this.mono fun e w' h => h.sh (by rw [readE_of hok hpr ⟨by omega, by omega⟩ (two_days hd hk), if_pos hr]) (Nat.le_trans (wher_len hok _ _ _) (by omega))
theorem c28 (hp : Prf W A n ls) (hq : ls.map Pf.q = ml) (hok : okL ml = true) (hn : n ≤ 1000) (hpr : 1 ≤ person ∧ person ≤ 999) (hpa : 0 ≤ parish ∧ parish ≤ 5) (hd : 0 ≤ day ∧ day ≤ 4166) (hk : 0 ≤ known ∧ known ≤ 4166) :
  Calls Tryz.prog 28 #[.slice A n c, .int .i64 person, .int .i64 parish, .int .i64 day, .int .i64 known] W fun e w' => e = .returned (.tuple #[.int .i64 (if isRead (cntL ml known) = true then righN (wherS (cntL ml known) person day) parish else 0), .int .i64 (if isRead (cntL ml known) = true then 0 else 24)]) ∧ Below W.heap.size W w' := by
 have := rightF_any A n c ls person parish day known W hp (by omega)
 rw [hq, readE_of hok hpr hpa (two_days hd hk)] at this
 unfold NumEnd at this
 by_cases h : isRead (cntL ml known) = true
 ·rw [if_pos h, if_pos rfl] at this
  rwa [if_pos h, if_pos h]
 ·rw [if_neg h, if_neg (by decide)] at this
  rwa [if_neg h, if_neg h]
theorem c45 {B : Option Addr} {m d : Nat} {r : List Int} (hp : Prf W A n ls) (hq : ls.map Pf.q = ml) (hok : okL ml = true) (hn : n ≤ 1000) (hi : Ints W B m r) (hmd : m ≤ d) (hdc : d ≤ 9223372036854775807) (hk : 0 ≤ known ∧ known ≤ 4166) :
  Calls Tryz.prog 45 #[.slice A n c, .int .i64 known, .slice B m d] W fun e w' => e = .returned (.int .i64 (err (isRd (cntL ml known) r) 23)) ∧ Below W.heap.size W w' := by
 have := checkReading_any A n c ls known B m d r W hp (by omega) hi hmd hdc
 rwa [hq, ckRd_of hok hk] at this
theorem isRd_len {l : List Qf} {r : List Int} (h : isRd l r = true) : r.length = l.length := (isRd_zip.1 h).1
theorem cnt_len {l : List Qf} (h : okL l = true) (known : Int) : (cntL l known).length ≤ 60 := Nat.le_trans (List.length_filter_le _ _) (okL_len h)
theorem rd_at {l : List Qf} {k : Nat} (hk : k < (reads l).length) : isRd l ((reads l).getD k []) = true := by
 rw [List.getD_eq_getElem?_getD, List.getElem?_eq_getElem hk]
 exact mem_reads.1 (List.getElem_mem hk)
theorem c44 {k : Nat} (hp : Prf W A n ls) (hq : ls.map Pf.q = ml) (hok : okL ml = true) (hn : n ≤ 1000) (hk : 0 ≤ known ∧ known ≤ 4166) (hlt : k < (reads (cntL ml known)).length) :
  Calls Tryz.prog 44 #[.slice A n c, .int .i64 known, .int .i64 k] W (ListSh ((reads (cntL ml known)).getD k []) W) := by
 have := readingF_any A n c ls known k W hp (by omega)
 rw [hq] at this
 refine this.mono ?_
 rintro e w' ⟨⟨D, m, d, rfl, h1, h2, hi⟩, hg⟩
 have hE : rdE ml known k = 0 := by
  unfold rdE
  rw [lookE_ok hok (one_day hk), if_pos rfl, if_pos ⟨by omega, by omega⟩]
 unfold rdV at hi
 rw [hE, if_pos rfl, Int.toNat_natCast] at hi
 unfold maxLen at h2
 have hl := isRd_len (rd_at hlt)
 have hc := cnt_len hok known
 exact ⟨D, m, d, by rw [hE], hi, by have := hi.1; omega, h1, by omega, hg⟩
end
end Go.Proofs.YtehhlgdkhecacaaGreat
