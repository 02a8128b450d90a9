/- Part of the proof: DC. -/
import Derived.Test.YtehhlgdkhecacaaGreatYA1
import Derived.Test.YtehhlgdkhecacaaGreatYA8
namespace Go.Proofs.YtehhlgdkhecacaaGreat
open Go.RowKit Go.Shelf
theorem wtd4 {n : Int} (h : I64 n) : IntKind.i64.wrap (n.tdiv 4) = n.tdiv 4 := by
 have h1 : (n.tdiv 4).natAbs = n.natAbs / 4 := Int.natAbs_tdiv n 4
 rw [IntKind.wrap_i64]
 unfold I64 at h
 omega
/-- A proof while a round makes it. -/
def qB (y : Ra) (m : Nat) (l : List Int) (oth par thr unt : Int) : Qf := ⟨3 * (m : Int) + 2, 1 + y.kind % 8, l, oth, par, y.day % 2000, thr, y.kno % 40, unt⟩
def qA (y : Ra) (m : Nat) (l : List Int) : Qf := qB y m l 0 0 0 0
theorem mkQ_B (y : Ra) (m op : Nat) : mkQ y m op = qB y m (perK op y.ots (whoR y) 5) (if 1 + y.kind % 8 = 2 then 1 + y.oth % 5 else 0) (if 1 + y.kind % 8 = 2 then 0 else y.par % 3) (if lastsB (1 + y.kind % 8) = true then y.day % 2000 + y.long % 450 else 0) (if y.unt % 4 = 0 then y.kno % 40 + 1 + y.unt.tdiv 4 % 30 else 0) := rfl
theorem bx_new {W X : World} {b bs : Nat} {y : Ra} {m : Nat} {z : Int} (g : Below W.heap.size W X) (hb : Blk X b 56 (pb ⟨qA y m [z], some ⟨bs, 0, none⟩, 1, 1⟩)) (ho : Blk X bs 3 #[.int .i64 z]) (h1 : W.heap.size ≤ b) (h2 : W.heap.size ≤ bs) : Bx W X b ⟨qA y m [z], some ⟨bs, 0, none⟩, 1, 1⟩ :=
 ⟨g, hb, own_mk icells_len rfl h2 ho (Nat.le_refl _) (by unfold maxLen; show 1 ≤ 9223372036854775807; omega) rfl rfl, h1⟩
theorem bxA (W : World) (y : Ra) (m : Nat) (z : Int) : Bx W ((W.alloc (.cells #[.int .i64 z] 3)).alloc (.cells (pb ⟨qA y m [z], some ⟨W.heap.size, 0, none⟩, 1, 1⟩) 56)).drew (W.heap.size + 1) ⟨qA y m [z], some ⟨W.heap.size, 0, none⟩, 1, 1⟩ :=
 bx_new (two_more _ _ _).drew (blk_second _ _ _ _) (blk_drew ((Blk.new W 3 #[.int .i64 z]).alloc _)) (Nat.le_succ _) (Nat.le_refl _)
theorem bxB (W : World) (y : Ra) (m : Nat) (z : Int) : Bx W ((W.alloc (.cells (pb ⟨qA y m [z], some ⟨W.heap.size + 1, 0, none⟩, 1, 1⟩) 56)).alloc (.cells #[.int .i64 z] 3)).drew W.heap.size ⟨qA y m [z], some ⟨W.heap.size + 1, 0, none⟩, 1, 1⟩ :=
 bx_new (two_more _ _ _).drew (blk_drew ((Blk.new W 56 (pb ⟨qA y m [z], some ⟨W.heap.size + 1, 0, none⟩, 1, 1⟩)).alloc _)) (blk_second _ _ _ _) (Nat.le_refl _) (Nat.le_succ _)
set_option maxRecDepth 100000 in
set_option maxHeartbeats 40000000 in
theorem made_any (A : Option Addr) (n c : Nat) (x : List Ra) (w : World) (ha : Arr rcells 9 w A n x) (hn : n ≤ 9223372036854775807) (hx : ∀ r ∈ x, RaOk r) :
  Calls Tryz.prog 37 #[.slice A n c] w fun e w' => ∃ v u ls, e = .returned (.tuple #[v, u]) ∧ Md w w' v u ls (whoL x) ∧ ls.map Pf.q = madeL x := by
 have HA := Lib.hid ha
 have HLN := Lib.hid ha.1
 have HXO := Lib.hid hx
 have TM := Lib.hid refMod_any
 have HMN := Lib.hid (show madeN x = min n 10 by unfold madeN; rw [ha.1])
 have HND := Lib.hid (And.intro (show madeL x = (madeP x (madeN x)).1 from rfl) (show whoL x = whoP x (madeN x) from rfl))
 have HM0 := Lib.hid (Md.nil w)
 obtain ⟨mn, hmn⟩ : ∃ k, madeN x = k := ⟨_, rfl⟩
 rw [hmn] at HMN HND
 obtain ⟨ml, hml⟩ : ∃ k, madeL x = k := ⟨_, rfl⟩
 obtain ⟨wl, hwl⟩ : ∃ k, whoL x = k := ⟨_, rfl⟩
 rw [hml, hwl] at HND
 rw [hml, hwl]
 clear hmn hml hwl ha hx
 go_enter Tryz.func37, Tryz.ntmps37
 go_wp2_with fail
 go_loopw [4, 5, 6, 7] (fun v u o i wr => ∃ (m : Nat) (ls : List Pf), m ≤ mn ∧ i = .int .i64 m ∧ o = .int .i64 (((madeP x m).2 : Nat) : Int) ∧ Md w wr v u ls (whoP x m) ∧ ls.map Pf.q = (madeP x m).1) (fun _ _ _ i _ => 10 - (intOf i).toNat)
 case atStart => exact ⟨0, [], Nat.zero_le _, rfl, rfl, HM0.out, rfl⟩
 case round =>
  obtain ⟨m, ls, hm, rfl, rfl, hmd, hlq⟩ := hrel
  have HMD := Lib.hid hmd
  have HLQ := Lib.hid hlq
  have HM10 := Lib.hid (show mn ≤ n ∧ mn ≤ 10 by have := HMN.out; omega)
  have hm1000 : m ≤ 10 := by have := HM10.out; omega
  have HSP := Lib.hid (madeP_spec x m (by omega))
  clear hmd hlq
  by_cases hk : m < mn
  ·have hkn : (m : Int) < (n : Int) := by have := HM10.out; omega
   have hk10 : (m : Int) < 10 := by have := HM10.out; omega
   have HKN := Lib.hid (show m < n by have := HM10.out; omega)
   obtain ⟨b0, o0, rfl, hc⟩ := raw_at (HA.out.below HMD.out.g) HKN.out
   obtain ⟨r0', r1', r2', r3', r4', r5', r6', r7', r8'⟩ := hc _ (Below.refl _ _)
   obtain ⟨y, hy⟩ : ∃ y, x.getD m r0 = y := ⟨_, rfl⟩
   rw [hy] at r0' r1' r2' r3' r4' r5' r6' r7' r8'
   have HY := Lib.hid hy
   have HYO := Lib.hid (HXO.out y (by rw [← hy, List.getD_eq_getElem?_getD, List.getElem?_eq_getElem (by rw [HLN.out]; exact HKN.out)]; exact List.getElem_mem _))
   obtain ⟨op, hop⟩ : ∃ o, (madeP x m).2 = o := ⟨_, rfl⟩
   have HOP := Lib.hid hop
   rw [hop] at HSP ⊢
   have HOB := Lib.hid HSP.out.2.1
   obtain ⟨W1, hW1⟩ : ∃ X, wr.alloc (.cells #[.int .i64 y.kind, .int .i64 y.per, .int .i64 y.ots, .int .i64 y.oth, .int .i64 y.par, .int .i64 y.day, .int .i64 y.long, .int .i64 y.kno, .int .i64 y.unt] 121) = X := ⟨_, rfl⟩
   have GW1 := Lib.hid (show Below wr.heap.size wr W1 by rw [← hW1]; exact one_more _ _)
   have BX := Lib.hid (show Blk W1 wr.heap.size 121 #[.int .i64 y.kind, .int .i64 y.per, .int .i64 y.ots, .int .i64 y.oth, .int .i64 y.par, .int .i64 y.day, .int .i64 y.long, .int .i64 y.kno, .int .i64 y.unt] by rw [← hW1]; exact Blk.new _ _ _)
   have HW1 := Lib.hid hW1
   have HBX := Lib.hid BX.out.lt
   clear hc hy hop hW1
   go_upto_region 8 with fail
   rw [HW1.out]
   obtain ⟨bX, hbX⟩ : ∃ b, wr.heap.size = b := ⟨_, rfl⟩
   rw [hbX] at BX HBX ⊢
   have HBXE := Lib.hid hbX
   clear hbX r0' r1' r2' r3' r4' r5' r6' r7' r8'
   have d1 := BX.out.cell 1
   have hwho : wrap64 (1 + y.per % 5) = 1 + y.per % 5 := wrap_in (by omega)
   go_upto_region 9 with (go_at_call 38; (with_reducible refine (TM.out _ _ _ (by omega) (by omega)).mono ?_); rintro e w' ⟨rfl, rfl⟩)
   obtain ⟨who, hwho2⟩ : ∃ z, 1 + y.per % 5 = z := ⟨_, rfl⟩
   have HWHO := Lib.hid (show whoR y = who from hwho2)
   rw [hwho2] at hwho ⊢
   clear hwho hwho2 d1
   have d0 := BX.out.cell 0
   have d5 := BX.out.cell 5
   have d7 := BX.out.cell 7
   have hw1 : IntKind.i64.wrap (3 * (m : Int)) = 3 * (m : Int) := by rw [IntKind.wrap_i64]; omega
   have hw2 : IntKind.i64.wrap (3 * (m : Int) + 2) = 3 * (m : Int) + 2 := by rw [IntKind.wrap_i64]; omega
   have hw3 : IntKind.i64.wrap (1 + y.kind % 8) = 1 + y.kind % 8 := by rw [IntKind.wrap_i64]; omega
   have HKP := Lib.hid (fun W (g : Below W1.heap.size W1 W) => (⟨(BX.out.ext g).cell 0, (BX.out.ext g).cell 5, (BX.out.ext g).cell 7⟩ : W.cell? ⟨bX, 0, none⟩ = some (.int .i64 y.kind) ∧ W.cell? ⟨bX, 5, none⟩ = some (.int .i64 y.day) ∧ W.cell? ⟨bX, 7, none⟩ = some (.int .i64 y.kno)))
   go_cut [10] from 30 to 45 (fun s10 wx => ∃ b10 bs, s10 = .pointer (some ⟨b10, 0, none⟩) ∧ Bx W1 wx b10 ⟨qA y m [who], some ⟨bs, 0, none⟩, 1, 1⟩)
   case first =>
    go_region_held3 (fun W => W.cell? ⟨bX, 0, none⟩ = some (.int .i64 y.kind) ∧ W.cell? ⟨bX, 5, none⟩ = some (.int .i64 y.day) ∧ W.cell? ⟨bX, 7, none⟩ = some (.int .i64 y.kno))
     (first | (with_reducible exact HKP.out _ (Below.refl _ _).drew) | (with_reducible exact HKP.out _ (one_more _ _).drew) | (with_reducible exact HKP.out _ (two_more _ _ _).drew))
     ((go_at_call 38; (with_reducible refine (TM.out _ _ _ (by omega) (by omega)).mono ?_); rintro e w' ⟨rfl, rfl⟩))
    all_goals (try go_wp2_with fail)
    all_goals go_meet
    all_goals first
     | (with_reducible exact ⟨_, _, rfl, bxA W1 y m who⟩)
     | (with_reducible exact ⟨_, _, rfl, bxB W1 y m who⟩)
     | exact ⟨_, _, rfl, bxA W1 y m who⟩
     | exact ⟨_, _, rfl, bxB W1 y m who⟩
   case rest =>
    obtain ⟨b10, bs, rfl, hbx⟩ := hcut
    have HB0 := Lib.hid hbx
    have HQ0 := Lib.hid (show perK op y.ots who 0 = [who] from rfl)
    have HPK := Lib.hid (fun j (hj : j ≤ 5) => (show (perK op y.ots who j).Pairwise (· < ·) ∧ (perK op y.ots who j).length ≤ 3 from by
     have := perK_spec (opn := op) (ots := y.ots) (who := who) (by rw [← HWHO.out]; exact whoR_bd y) j hj
     exact ⟨this.1, this.2.2.2.2⟩))
    have HPS := Lib.hid (fun j => (show perK op y.ots who (j + 1) = if (decide (op < 5) && decide ((perK op y.ots who j).length < 3) && bitB y.ots (j + 1)) = true then putI (perK op y.ots who j) ((j : Int) + 1) else perK op y.ots who j from rfl))
    have HBIT := Lib.hid (fun j => (show bitB y.ots (j + 1) = (bits .and .i64 (y.ots % 32) (2 ^ j) != 0) from rfl))
    clear d0 d5 d7 hw1 hw2 hw3 hbx HKP
    go_wp2_with fail
    go_loopw [11] (fun k wz => ∃ (j : Nat) (p : Pf), j ≤ 5 ∧ k = .int .i64 ((j : Int) + 1) ∧ Bx W1 wz b10 p ∧ p.q = qA y m (perK op y.ots who j)) (fun k _ => 6 - (intOf k).toNat)
    case atStart => exact ⟨0, _, Nat.zero_le _, rfl, HB0.out, by rw [HQ0.out]⟩
    case round =>
     obtain ⟨j, p, hj, rfl, hb, hpq⟩ := hrel
     have HB := Lib.hid hb
     have HPQ := Lib.hid hpq
     by_cases hj5 : j < 5
     ·have hle : (j : Int) + 1 ≤ 5 := by omega
      have hwj : wrap64 ((j : Int) + 1 + 1) = (j : Int) + 1 + 1 := wrap_in (by omega)
      obtain ⟨A5, c5, hv5, h51, h52, h53, -⟩ := OwnL.arr kdI hb.o
      have hpn : p.n = (perK op y.ots who j).length := by
       simp only [Value.slice.injEq] at hv5
       rw [hv5.2.1, hpq]; rfl
      have HPN := Lib.hid hpn
      have HP3 := Lib.hid (HPK.out j (by omega))
      have HS := Lib.hid (HPS.out j)
      have HBT := Lib.hid (HBIT.out j)
      have hps := hb.pi (by rw [hpq]; show (perK op y.ots who j).length ≤ 1000; have := HP3.out.2; omega)
      have HPI := Lib.hid hps.1
      have TP := Lib.hid (refPut_any p.A p.n p.c p.q.per ((j : Int) + 1) _ hps.1.i (by rw [hpn]; have := HP3.out.2; omega) (by rw [hpq]; exact HP3.out.1))
      obtain ⟨pr, hpr⟩ : ∃ l, perK op y.ots who j = l := ⟨_, rfl⟩
      rw [hpr] at HS HP3 HPQ HPN
      have HPP := Lib.hid (show p.q.per = pr by rw [HPQ.out]; rfl)
      have HBXX := Lib.hid (BX.out.ext hb.g)
      clear hb hpq hv5 h51 h52 h53 hpn hps hpr
      go_upto_region 13 with fail
      have e2 := cellW (HB.out.bk.cell 2)
      have x2 := cellW (HBXX.out.cell 2)
      have hsb : IntKind.i64.wrap ((j : Int) + 1 - 1) = (j : Int) := by rw [IntKind.wrap_i64]; omega
      have hsh : IntKind.i64.wrap ((2 : Int) ^ j) = (2 : Int) ^ j := by
       have : j = 0 ∨ j = 1 ∨ j = 2 ∨ j = 3 ∨ j = 4 := by omega
       rcases this with rfl | rfl | rfl | rfl | rfl <;> decide
      have hsh1 : IntKind.i64.wrap (1 * (2 : Int) ^ j) = (2 : Int) ^ j := by rw [Int.one_mul]; exact hsh
      by_cases hop : op < 5
      ·have hob : (op : Int) < 5 := by omega
       by_cases hl3 : pr.length < 3
       ·have hnb : (p.n : Int) < 3 := by rw [HPN.out]; omega
        obtain ⟨bt, hbt⟩ : ∃ b, (bits .and .i64 (y.ots % 32) (2 ^ j) != 0) = b := ⟨_, rfl⟩
        rw [hbt] at HBT
        cases bt with
        | true =>
         have HS2 := Lib.hid (show perK op y.ots who (j + 1) = putI pr ((j : Int) + 1) by rw [HS.out, decide_eq_true hop, decide_eq_true hl3, HBT.out]; rfl)
         refine wp_region_calm wr (by kernel_rfl) (by kernel_rfl) (Below.refl _ _) ?_
         repeat (go_big_quiet_step ((go_at_call 38; exact callsCalmSame (TM.out _ _ _ (by omega) (by omega)))))
         refine wpQuiet_nil ?_
         rintro _ ⟨z, rfl⟩
         have HBZ := Lib.hid (HB.out.ext z.ok)
         have f2 := HBZ.out.bk.cell 2
         have TPZ := Lib.hid (refPut_any p.A p.n p.c p.q.per ((j : Int) + 1) z.val (HPI.out.below z.ok).i (by rw [HPN.out]; omega) (by rw [HPP.out]; exact HP3.out.1))
         rw [HPP.out] at TPZ
         clear e2 x2
         go_wp2_with (first | (go_at_call 42; go_loud ((with_reducible refine (TPZ.out).mono ?_); rintro e W5 ⟨⟨v5, rfl, ho5⟩, hg5⟩; obtain ⟨A5, c5, rfl, h51, h52, -, -⟩ := OwnL.arr kdI ho5; have HO5 := Lib.hid ho5; have HG5 := Lib.hid hg5; have f2' := (HBZ.out.bk.ext hg5).cell 2; have q2' := (HBZ.out.bk.ext hg5).frozen 2; clear ho5 hg5 h51 h52 f2)))
         go_roundw
         case rel => exact ⟨j + 1, ⟨{ p.q with per := putI pr ((j : Int) + 1) }, A5, _, c5⟩, by omega, rfl, HBZ.out.per HG5.out HO5.out, by rw [HPQ.out, HS2.out]; rfl⟩
         case measure => simp only [intOf]; omega
        | false =>
         have HS2 := Lib.hid (show perK op y.ots who (j + 1) = pr by rw [HS.out, HBT.out, Bool.and_false]; rfl)
         refine wp_region_calm wr (by kernel_rfl) (by kernel_rfl) (Below.refl _ _) ?_
         repeat (go_big_quiet_step ((go_at_call 38; exact callsCalmSame (TM.out _ _ _ (by omega) (by omega)))))
         refine wpQuiet_nil ?_
         rintro _ ⟨z, rfl⟩
         go_wp2_with fail
         go_roundw
         case rel => exact ⟨j + 1, p, by omega, rfl, HB.out.ext z.ok, by rw [HPQ.out, HS2.out]⟩
         case measure => simp only [intOf]; omega
       ·have hnb : ¬ (p.n : Int) < 3 := by rw [HPN.out]; omega
        have HS2 := Lib.hid (show perK op y.ots who (j + 1) = pr by rw [HS.out, decide_eq_false hl3, Bool.and_false, Bool.false_and]; rfl)
        refine wp_region_calm wr (by kernel_rfl) (by kernel_rfl) (Below.refl _ _) ?_
        repeat (go_big_quiet_step ((go_at_call 38; exact callsCalmSame (TM.out _ _ _ (by omega) (by omega)))))
        refine wpQuiet_nil ?_
        rintro _ ⟨z, rfl⟩
        go_wp2_with fail
        go_roundw
        case rel => exact ⟨j + 1, p, by omega, rfl, HB.out.ext z.ok, by rw [HPQ.out, HS2.out]⟩
        case measure => simp only [intOf]; omega
      ·have hob : ¬ (op : Int) < 5 := by omega
       have HS2 := Lib.hid (show perK op y.ots who (j + 1) = pr by rw [HS.out, decide_eq_false hop, Bool.false_and, Bool.false_and]; rfl)
       refine wp_region_calm wr (by kernel_rfl) (by kernel_rfl) (Below.refl _ _) ?_
       repeat (go_big_quiet_step ((go_at_call 38; exact callsCalmSame (TM.out _ _ _ (by omega) (by omega)))))
       refine wpQuiet_nil ?_
       rintro _ ⟨z, rfl⟩
       go_wp2_with fail
       go_roundw
       case rel => exact ⟨j + 1, p, by omega, rfl, HB.out.ext z.ok, by rw [HPQ.out, HS2.out]⟩
       case measure => simp only [intOf]; omega
     ·obtain rfl : j = 5 := by omega
      have hle : ¬ ((5 : Nat) : Int) + 1 ≤ 5 := by omega
      have HPE3 := Lib.hid (HPK.out 5 (by omega)).2
      obtain ⟨pe, hpe⟩ : ∃ l, perK op y.ots who 5 = l := ⟨_, rfl⟩
      have HPE := Lib.hid hpe
      rw [hpe] at HPQ HPE3
      obtain ⟨pq, pA, pn, pc⟩ := p
      obtain rfl : pq = qA y m pe := HPQ.out
      have HBA := Lib.hid (show Bx W1 wr b10 ⟨qB y m pe (0) (0) (0) (0), pA, pn, pc⟩ from HB.out)
      obtain ⟨A5, c5, hv5, -, -, -, -⟩ := OwnL.arr kdI HBA.out.o
      have hpn : pn = pe.length := by simp only [Value.slice.injEq] at hv5; exact hv5.2.1
      have HPN := Lib.hid hpn
      have HN1 := Lib.hid (show (madeP x (m + 1)).1 = (madeP x m).1 ++ [mkQ y m op] by rw [← HY.out, ← HOP.out]; rfl)
      have HN2 := Lib.hid (show (madeP x (m + 1)).2 = op + (if 1 < pe.length then 1 else 0) by rw [← HPE.out, ← HWHO.out, ← HY.out, ← HOP.out]; rfl)
      have HLS := Lib.hid (show ls.length = m by have := congrArg List.length HLQ.out; rw [List.length_map, HSP.out.1] at this; exact this)
      have HOL := Lib.hid (show ∀ k, (u4.ownBlock = some k ∨ u5.ownBlock = some k) → k < W1.heap.size from fun k e => e.elim (fun e => own_lt2 (HMD.out.ext GW1.out).o1 e) (fun e => own_lt2 (HMD.out.ext GW1.out).o2 e))
      have HW4 := Lib.hid (wtd4 HYO.out)
      have hwop : wrap64 ((op : Int) + 1) = (op : Int) + 1 := wrap_in (by have := HOB.out; omega)
      have hwm : wrap64 ((m : Int) + 1) = (m : Int) + 1 := wrap_in (by omega)
      have e2' : World.cell? wr ⟨b10, 2, none⟩ = some (.slice pA pn pc) := HBA.out.bk.cell 2
      clear hb hpq hv5 hpn hpe HB
      by_cases h1p : 1 < pe.length
      ·have hpb : (1 : Int) < (pn : Int) := by rw [HPN.out]; omega
       have HIP := Lib.hid (show (if 1 < pe.length then 1 else 0 : Nat) = 1 from if_pos h1p)
       clear h1p
       go_upto_region 17 with fail
       clear e2'
       have k1 : World.cell? wr ⟨b10, 1, none⟩ = some (.int .i64 (1 + y.kind % 8)) := HBA.out.bk.cell 1
       have k3 : World.cell? wr ⟨b10, 3, none⟩ = some (.int .i64 (0)) := HBA.out.bk.cell 3
       have k4 : World.cell? wr ⟨b10, 4, none⟩ = some (.int .i64 (0)) := HBA.out.bk.cell 4
       have kf3 := HBA.out.bk.frozen 3
       have kf4 := HBA.out.bk.frozen 4
       have x3 : World.cell? wr ⟨bX, 3, none⟩ = some (.int .i64 y.oth) := (BX.out.ext HBA.out.g).cell 3
       have x4 : World.cell? wr ⟨bX, 4, none⟩ = some (.int .i64 y.par) := (BX.out.ext HBA.out.g).cell 4
       have hwo : wrap64 (1 + y.oth % 5) = 1 + y.oth % 5 := wrap_in (by omega)
       by_cases h2 : 1 + y.kind % 8 = 2
       ·have h2b : (1 + y.kind % 8 == 2) = true := beq_iff_eq.2 h2
        have H2 := Lib.hid h2
        clear h2
        go_upto_region 20 with (go_at_call 38; (with_reducible refine (TM.out _ _ _ (by omega) (by omega)).mono ?_); rintro e w' ⟨rfl, rfl⟩)
        clear k1 k3 k4 kf3 kf4 x3 x4
        have HB1 := Lib.hid (HBA.out.set 3 (.int .i64 (1 + y.oth % 5)) (p' := ⟨qB y m pe (1 + y.oth % 5) (0) (0) (0), pA, pn, pc⟩) rfl ⟨rfl, rfl, rfl, rfl⟩)
        obtain ⟨Wn1, hWn1⟩ : ∃ X, World.setCell wr ⟨b10, 3, none⟩ (.int .i64 (1 + y.oth % 5)) = X := ⟨_, rfl⟩
        rw [hWn1] at HB1 ⊢
        clear hWn1
        have k1 : World.cell? Wn1 ⟨b10, 1, none⟩ = some (.int .i64 (1 + y.kind % 8)) := HB1.out.bk.cell 1
        have HLA := Lib.hid (refLasts_any (1 + y.kind % 8))
        obtain ⟨lb, hlb⟩ : ∃ b, lastsB (1 + y.kind % 8) = b := ⟨_, rfl⟩
        rw [hlb] at HLA
        cases lb with
        | true =>
         go_upto_region 21 with (go_at_call 99; (with_reducible refine (HLA.out _).mono ?_); rintro e w' ⟨rfl, rfl⟩)
         clear k1
         have k5 := cellW (show World.cell? Wn1 ⟨b10, 5, none⟩ = some (.int .i64 (y.day % 2000)) from HB1.out.bk.cell 5)
         have x6 := cellW (show World.cell? Wn1 ⟨bX, 6, none⟩ = some (.int .i64 y.long) from (BX.out.ext HB1.out.g).cell 6)
         have ha1 : IntKind.i64.wrap (y.day % 2000 + y.long % 450) = y.day % 2000 + y.long % 450 := by rw [IntKind.wrap_i64]; omega
         refine wp_region_calm_tail Wn1 7 (by kernel_rfl) (by kernel_rfl) (Below.refl _ _) ?_
         simp only [List.take_succ_cons, List.take_zero, List.drop_succ_cons, List.drop_zero]
         repeat (go_big_quiet_step (first | (go_at_call 38; exact callsCalmSame (TM.out _ _ _ (by omega) (by omega)))))
         refine wpQuiet_nil ?_
         rintro _ ⟨zl, rfl⟩
         have HZ2 := Lib.hid (HB1.out.ext zl.ok)
         clear k5 x6
         have q6 : World.cell? zl.val ⟨b10, 6, none⟩ = some (.int .i64 0) := HZ2.out.bk.cell 6
         have qf := HZ2.out.bk.frozen 6
         go_upto_region 22 with fail
         clear q6 qf ha1
         have HB3 := Lib.hid (HZ2.out.set 6 (.int .i64 (y.day % 2000 + y.long % 450)) (p' := ⟨qB y m pe (1 + y.oth % 5) (0) (y.day % 2000 + y.long % 450) (0), pA, pn, pc⟩) rfl ⟨rfl, rfl, rfl, rfl⟩)
         obtain ⟨Wn3, hWn3⟩ : ∃ X, World.setCell zl.val ⟨b10, 6, none⟩ (.int .i64 (y.day % 2000 + y.long % 450)) = X := ⟨_, rfl⟩
         rw [hWn3] at HB3 ⊢
         clear hWn3
         have xu : World.cell? Wn3 ⟨bX, 8, none⟩ = some (.int .i64 y.unt) := (BX.out.ext HB3.out.g).cell 8
         by_cases hu : y.unt % 4 = 0
         ·have hub : (y.unt % 4 == 0) = true := beq_iff_eq.2 hu
          go_upto_region 23 with (go_at_call 38; (with_reducible refine (TM.out _ _ _ (by omega) (by omega)).mono ?_); rintro e w' ⟨rfl, rfl⟩)
          have k7 := cellW (show World.cell? Wn3 ⟨b10, 7, none⟩ = some (.int .i64 (y.kno % 40)) from HB3.out.bk.cell 7)
          have x8 := cellW xu
          clear xu
          have ha1 : IntKind.i64.wrap (y.kno % 40 + 1) = y.kno % 40 + 1 := by rw [IntKind.wrap_i64]; omega
          have ha2 : IntKind.i64.wrap (y.unt.tdiv 4) = y.unt.tdiv 4 := HW4.out
          have ha3 : IntKind.i64.wrap (y.kno % 40 + 1 + y.unt.tdiv 4 % 30) = y.kno % 40 + 1 + y.unt.tdiv 4 % 30 := by
           generalize y.unt.tdiv 4 = u9
           rw [IntKind.wrap_i64]; omega
          refine wp_region_calm_tail Wn3 9 (by kernel_rfl) (by kernel_rfl) (Below.refl _ _) ?_
          simp only [List.take_succ_cons, List.take_zero, List.drop_succ_cons, List.drop_zero]
          repeat (go_big_quiet_step (first | (go_at_call 38; exact callsCalmSame (TM.out _ _ _ (by omega) (by omega)))))
          refine wpQuiet_nil ?_
          rintro _ ⟨zu, rfl⟩
          have HZ4 := Lib.hid (HB3.out.ext zu.ok)
          clear k7 x8
          have q8 : World.cell? zu.val ⟨b10, 8, none⟩ = some (.int .i64 0) := HZ4.out.bk.cell 8
          have qf := HZ4.out.bk.frozen 8
          go_upto_region 24 with fail
          clear q8 qf ha1 ha2 ha3
          have HB5 := Lib.hid (HZ4.out.set 8 (.int .i64 (y.kno % 40 + 1 + y.unt.tdiv 4 % 30)) (p' := ⟨qB y m pe (1 + y.oth % 5) (0) (y.day % 2000 + y.long % 450) (y.kno % 40 + 1 + y.unt.tdiv 4 % 30), pA, pn, pc⟩) rfl ⟨rfl, rfl, rfl, rfl⟩)
          obtain ⟨Wn5, hWn5⟩ : ∃ X, World.setCell zu.val ⟨b10, 8, none⟩ (.int .i64 (y.kno % 40 + 1 + y.unt.tdiv 4 % 30)) = X := ⟨_, rfl⟩
          rw [hWn5] at HB5 ⊢
          clear hWn5
          have e0 : World.cell? Wn5 ⟨b10, 0, none⟩ = some (.int .i64 (3 * (m : Int) + 2)) := HB5.out.bk.cell 0
          have e1 : World.cell? Wn5 ⟨b10, 1, none⟩ = some (.int .i64 (1 + y.kind % 8)) := HB5.out.bk.cell 1
          have e2 : World.cell? Wn5 ⟨b10, 2, none⟩ = some (.slice pA pn pc) := HB5.out.bk.cell 2
          have e3 : World.cell? Wn5 ⟨b10, 3, none⟩ = some (.int .i64 (1 + y.oth % 5)) := HB5.out.bk.cell 3
          have e4 : World.cell? Wn5 ⟨b10, 4, none⟩ = some (.int .i64 (0)) := HB5.out.bk.cell 4
          have e5 : World.cell? Wn5 ⟨b10, 5, none⟩ = some (.int .i64 (y.day % 2000)) := HB5.out.bk.cell 5
          have e6 : World.cell? Wn5 ⟨b10, 6, none⟩ = some (.int .i64 (y.day % 2000 + y.long % 450)) := HB5.out.bk.cell 6
          have e7 : World.cell? Wn5 ⟨b10, 7, none⟩ = some (.int .i64 (y.kno % 40)) := HB5.out.bk.cell 7
          have e8 : World.cell? Wn5 ⟨b10, 8, none⟩ = some (.int .i64 (y.kno % 40 + 1 + y.unt.tdiv 4 % 30)) := HB5.out.bk.cell 8
          have HMX := Lib.hid (((HMD.out.ext GW1.out).ext HB5.out.g).ext (one_more Wn5 (.cells #[.int .i64 (3 * (m : Int) + 2), .int .i64 (1 + y.kind % 8), .slice pA pn pc, .int .i64 (1 + y.oth % 5), .int .i64 (0), .int .i64 (y.day % 2000), .int .i64 (y.day % 2000 + y.long % 450), .int .i64 (y.kno % 40), .int .i64 (y.kno % 40 + 1 + y.unt.tdiv 4 % 30)] 56)))
          have IX := Lib.hid (one_pf (x := ⟨qB y m pe (1 + y.oth % 5) (0) (y.day % 2000 + y.long % 450) (y.kno % 40 + 1 + y.unt.tdiv 4 % 30), pA, pn, pc⟩) (Blk.new Wn5 56 #[.int .i64 (3 * (m : Int) + 2), .int .i64 (1 + y.kind % 8), .slice pA pn pc, .int .i64 (1 + y.oth % 5), .int .i64 (0), .int .i64 (y.day % 2000), .int .i64 (y.day % 2000 + y.long % 450), .int .i64 (y.kno % 40), .int .i64 (y.kno % 40 + 1 + y.unt.tdiv 4 % 30)]))
          have HPP := Lib.hid (HB5.out.pi (by show pe.length ≤ 1000; have := HPE3.out; omega))
          have HPX := Lib.hid (HPP.out.1.below (one_more Wn5 (.cells #[.int .i64 (3 * (m : Int) + 2), .int .i64 (1 + y.kind % 8), .slice pA pn pc, .int .i64 (1 + y.oth % 5), .int .i64 (0), .int .i64 (y.day % 2000), .int .i64 (y.day % 2000 + y.long % 450), .int .i64 (y.kno % 40), .int .i64 (y.kno % 40 + 1 + y.unt.tdiv 4 % 30)] 56)))
          have HSZ := Lib.hid (one_more Wn5 (.cells #[.int .i64 (3 * (m : Int) + 2), .int .i64 (1 + y.kind % 8), .slice pA pn pc, .int .i64 (1 + y.oth % 5), .int .i64 (0), .int .i64 (y.day % 2000), .int .i64 (y.day % 2000 + y.long % 450), .int .i64 (y.kno % 40), .int .i64 (y.kno % 40 + 1 + y.unt.tdiv 4 % 30)] 56)).size
          have HNE := Lib.hid (show ∀ a, pA = some a → u4.ownBlock ≠ some a.block ∧ u5.ownBlock ≠ some a.block ∧ a.block < (Wn5.alloc (.cells #[.int .i64 (3 * (m : Int) + 2), .int .i64 (1 + y.kind % 8), .slice pA pn pc, .int .i64 (1 + y.oth % 5), .int .i64 (0), .int .i64 (y.day % 2000), .int .i64 (y.day % 2000 + y.long % 450), .int .i64 (y.kno % 40), .int .i64 (y.kno % 40 + 1 + y.unt.tdiv 4 % 30)] 56)).heap.size from fun a e => by
           obtain ⟨k1, k2⟩ := HPP.out.2 a e
           have k3 := HSZ.out
           exact ⟨fun e2 => by have := HOL.out _ (.inl e2); omega, fun e2 => by have := HOL.out _ (.inr e2); omega, by omega⟩)
          have HLO := Lib.hid (show ∀ a, pA = some a → w.heap.size ≤ a.block from fun a e => by
           have k1 := (HPP.out.2 a e).1
           have k2 := (HMD.out.ext GW1.out).g.size
           omega)
          have HQF := Lib.hid (show mkQ y m op = qB y m pe (1 + y.oth % 5) (0) (y.day % 2000 + y.long % 450) (y.kno % 40 + 1 + y.unt.tdiv 4 % 30) by rw [mkQ_B, HWHO.out, HPE.out, if_pos H2.out, if_pos H2.out, if_pos hlb, if_pos hu])
          go_upto_region 25 with (first | (at_builtin; go_loud ((refine wpList_app kdQ (by rfl) _ _ (by rfl) w.heap.size _ ls (by rfl) HMX.out.o1 _ 1 1 [⟨qB y m pe (1 + y.oth % 5) (0) (y.day % 2000 + y.long % 450) (y.kno % 40 + 1 + y.unt.tdiv 4 % 30), pA, pn, pc⟩] (by rfl) IX.out (by have := HLS.out; omega) HMX.out.g.size ?_); intro v' w' ho hgr hz; have HM2 := Lib.hid (HMX.out.add1 HPX.out HNE.out HLO.out ho hgr hz); have HM3 := Lib.hid (HM2.out.ext (one_more w' (.cells #[.int .i64 who] 3))); have IW := Lib.hid (one_int (Blk.new w' 3 #[.int .i64 who])); clear ho hgr hz)))
          clear e0 e1 e2 e3 e4 e5 e6 e7 e8
          go_wp2_with (first | (at_builtin; go_loud ((refine wpList_app kdI (by rfl) _ _ (by rfl) w.heap.size _ (whoP x m) (by rfl) HM3.out.o2 _ 1 1 [who] (by rfl) IW.out (by rw [whoP_len]; omega) HM3.out.g.size ?_); intro v2 w2 ho hgr hz; have HM4 := Lib.hid (HM3.out.add2 ho hgr hz); clear ho hgr hz)))
          go_roundw
          case rel => exact ⟨m + 1, ls ++ [⟨qB y m pe (1 + y.oth % 5) (0) (y.day % 2000 + y.long % 450) (y.kno % 40 + 1 + y.unt.tdiv 4 % 30), pA, pn, pc⟩], by omega, rfl, by rw [HN2.out, HIP.out]; rfl, by rw [whoP_succ, HY.out, HWHO.out]; exact HM4.out, by rw [HN1.out, List.map_append, HLQ.out, HQF.out]; rfl⟩
          case measure => simp only [intOf]; omega
         ·have hub : (y.unt % 4 == 0) = false := beq_eq_false_iff_ne.2 hu
          go_upto_region 24 with (go_at_call 38; (with_reducible refine (TM.out _ _ _ (by omega) (by omega)).mono ?_); rintro e w' ⟨rfl, rfl⟩)
          clear xu
          have e0 : World.cell? Wn3 ⟨b10, 0, none⟩ = some (.int .i64 (3 * (m : Int) + 2)) := HB3.out.bk.cell 0
          have e1 : World.cell? Wn3 ⟨b10, 1, none⟩ = some (.int .i64 (1 + y.kind % 8)) := HB3.out.bk.cell 1
          have e2 : World.cell? Wn3 ⟨b10, 2, none⟩ = some (.slice pA pn pc) := HB3.out.bk.cell 2
          have e3 : World.cell? Wn3 ⟨b10, 3, none⟩ = some (.int .i64 (1 + y.oth % 5)) := HB3.out.bk.cell 3
          have e4 : World.cell? Wn3 ⟨b10, 4, none⟩ = some (.int .i64 (0)) := HB3.out.bk.cell 4
          have e5 : World.cell? Wn3 ⟨b10, 5, none⟩ = some (.int .i64 (y.day % 2000)) := HB3.out.bk.cell 5
          have e6 : World.cell? Wn3 ⟨b10, 6, none⟩ = some (.int .i64 (y.day % 2000 + y.long % 450)) := HB3.out.bk.cell 6
          have e7 : World.cell? Wn3 ⟨b10, 7, none⟩ = some (.int .i64 (y.kno % 40)) := HB3.out.bk.cell 7
          have e8 : World.cell? Wn3 ⟨b10, 8, none⟩ = some (.int .i64 (0)) := HB3.out.bk.cell 8
          have HMX := Lib.hid (((HMD.out.ext GW1.out).ext HB3.out.g).ext (one_more Wn3 (.cells #[.int .i64 (3 * (m : Int) + 2), .int .i64 (1 + y.kind % 8), .slice pA pn pc, .int .i64 (1 + y.oth % 5), .int .i64 (0), .int .i64 (y.day % 2000), .int .i64 (y.day % 2000 + y.long % 450), .int .i64 (y.kno % 40), .int .i64 (0)] 56)))
          have IX := Lib.hid (one_pf (x := ⟨qB y m pe (1 + y.oth % 5) (0) (y.day % 2000 + y.long % 450) (0), pA, pn, pc⟩) (Blk.new Wn3 56 #[.int .i64 (3 * (m : Int) + 2), .int .i64 (1 + y.kind % 8), .slice pA pn pc, .int .i64 (1 + y.oth % 5), .int .i64 (0), .int .i64 (y.day % 2000), .int .i64 (y.day % 2000 + y.long % 450), .int .i64 (y.kno % 40), .int .i64 (0)]))
          have HPP := Lib.hid (HB3.out.pi (by show pe.length ≤ 1000; have := HPE3.out; omega))
          have HPX := Lib.hid (HPP.out.1.below (one_more Wn3 (.cells #[.int .i64 (3 * (m : Int) + 2), .int .i64 (1 + y.kind % 8), .slice pA pn pc, .int .i64 (1 + y.oth % 5), .int .i64 (0), .int .i64 (y.day % 2000), .int .i64 (y.day % 2000 + y.long % 450), .int .i64 (y.kno % 40), .int .i64 (0)] 56)))
          have HSZ := Lib.hid (one_more Wn3 (.cells #[.int .i64 (3 * (m : Int) + 2), .int .i64 (1 + y.kind % 8), .slice pA pn pc, .int .i64 (1 + y.oth % 5), .int .i64 (0), .int .i64 (y.day % 2000), .int .i64 (y.day % 2000 + y.long % 450), .int .i64 (y.kno % 40), .int .i64 (0)] 56)).size
          have HNE := Lib.hid (show ∀ a, pA = some a → u4.ownBlock ≠ some a.block ∧ u5.ownBlock ≠ some a.block ∧ a.block < (Wn3.alloc (.cells #[.int .i64 (3 * (m : Int) + 2), .int .i64 (1 + y.kind % 8), .slice pA pn pc, .int .i64 (1 + y.oth % 5), .int .i64 (0), .int .i64 (y.day % 2000), .int .i64 (y.day % 2000 + y.long % 450), .int .i64 (y.kno % 40), .int .i64 (0)] 56)).heap.size from fun a e => by
           obtain ⟨k1, k2⟩ := HPP.out.2 a e
           have k3 := HSZ.out
           exact ⟨fun e2 => by have := HOL.out _ (.inl e2); omega, fun e2 => by have := HOL.out _ (.inr e2); omega, by omega⟩)
          have HLO := Lib.hid (show ∀ a, pA = some a → w.heap.size ≤ a.block from fun a e => by
           have k1 := (HPP.out.2 a e).1
           have k2 := (HMD.out.ext GW1.out).g.size
           omega)
          have HQF := Lib.hid (show mkQ y m op = qB y m pe (1 + y.oth % 5) (0) (y.day % 2000 + y.long % 450) (0) by rw [mkQ_B, HWHO.out, HPE.out, if_pos H2.out, if_pos H2.out, if_pos hlb, if_neg hu])
          go_upto_region 25 with (first | (at_builtin; go_loud ((refine wpList_app kdQ (by rfl) _ _ (by rfl) w.heap.size _ ls (by rfl) HMX.out.o1 _ 1 1 [⟨qB y m pe (1 + y.oth % 5) (0) (y.day % 2000 + y.long % 450) (0), pA, pn, pc⟩] (by rfl) IX.out (by have := HLS.out; omega) HMX.out.g.size ?_); intro v' w' ho hgr hz; have HM2 := Lib.hid (HMX.out.add1 HPX.out HNE.out HLO.out ho hgr hz); have HM3 := Lib.hid (HM2.out.ext (one_more w' (.cells #[.int .i64 who] 3))); have IW := Lib.hid (one_int (Blk.new w' 3 #[.int .i64 who])); clear ho hgr hz)))
          clear e0 e1 e2 e3 e4 e5 e6 e7 e8
          go_wp2_with (first | (at_builtin; go_loud ((refine wpList_app kdI (by rfl) _ _ (by rfl) w.heap.size _ (whoP x m) (by rfl) HM3.out.o2 _ 1 1 [who] (by rfl) IW.out (by rw [whoP_len]; omega) HM3.out.g.size ?_); intro v2 w2 ho hgr hz; have HM4 := Lib.hid (HM3.out.add2 ho hgr hz); clear ho hgr hz)))
          go_roundw
          case rel => exact ⟨m + 1, ls ++ [⟨qB y m pe (1 + y.oth % 5) (0) (y.day % 2000 + y.long % 450) (0), pA, pn, pc⟩], by omega, rfl, by rw [HN2.out, HIP.out]; rfl, by rw [whoP_succ, HY.out, HWHO.out]; exact HM4.out, by rw [HN1.out, List.map_append, HLQ.out, HQF.out]; rfl⟩
          case measure => simp only [intOf]; omega
        | false =>
         go_upto_region 22 with (go_at_call 99; (with_reducible refine (HLA.out _).mono ?_); rintro e w' ⟨rfl, rfl⟩)
         clear k1
         have xu : World.cell? Wn1 ⟨bX, 8, none⟩ = some (.int .i64 y.unt) := (BX.out.ext HB1.out.g).cell 8
         by_cases hu : y.unt % 4 = 0
         ·have hub : (y.unt % 4 == 0) = true := beq_iff_eq.2 hu
          go_upto_region 23 with (go_at_call 38; (with_reducible refine (TM.out _ _ _ (by omega) (by omega)).mono ?_); rintro e w' ⟨rfl, rfl⟩)
          have k7 := cellW (show World.cell? Wn1 ⟨b10, 7, none⟩ = some (.int .i64 (y.kno % 40)) from HB1.out.bk.cell 7)
          have x8 := cellW xu
          clear xu
          have ha1 : IntKind.i64.wrap (y.kno % 40 + 1) = y.kno % 40 + 1 := by rw [IntKind.wrap_i64]; omega
          have ha2 : IntKind.i64.wrap (y.unt.tdiv 4) = y.unt.tdiv 4 := HW4.out
          have ha3 : IntKind.i64.wrap (y.kno % 40 + 1 + y.unt.tdiv 4 % 30) = y.kno % 40 + 1 + y.unt.tdiv 4 % 30 := by
           generalize y.unt.tdiv 4 = u9
           rw [IntKind.wrap_i64]; omega
          refine wp_region_calm_tail Wn1 9 (by kernel_rfl) (by kernel_rfl) (Below.refl _ _) ?_
          simp only [List.take_succ_cons, List.take_zero, List.drop_succ_cons, List.drop_zero]
          repeat (go_big_quiet_step (first | (go_at_call 38; exact callsCalmSame (TM.out _ _ _ (by omega) (by omega)))))
          refine wpQuiet_nil ?_
          rintro _ ⟨zu, rfl⟩
          have HZ6 := Lib.hid (HB1.out.ext zu.ok)
          clear k7 x8
          have q8 : World.cell? zu.val ⟨b10, 8, none⟩ = some (.int .i64 0) := HZ6.out.bk.cell 8
          have qf := HZ6.out.bk.frozen 8
          go_upto_region 24 with fail
          clear q8 qf ha1 ha2 ha3
          have HB7 := Lib.hid (HZ6.out.set 8 (.int .i64 (y.kno % 40 + 1 + y.unt.tdiv 4 % 30)) (p' := ⟨qB y m pe (1 + y.oth % 5) (0) (0) (y.kno % 40 + 1 + y.unt.tdiv 4 % 30), pA, pn, pc⟩) rfl ⟨rfl, rfl, rfl, rfl⟩)
          obtain ⟨Wn7, hWn7⟩ : ∃ X, World.setCell zu.val ⟨b10, 8, none⟩ (.int .i64 (y.kno % 40 + 1 + y.unt.tdiv 4 % 30)) = X := ⟨_, rfl⟩
          rw [hWn7] at HB7 ⊢
          clear hWn7
          have e0 : World.cell? Wn7 ⟨b10, 0, none⟩ = some (.int .i64 (3 * (m : Int) + 2)) := HB7.out.bk.cell 0
          have e1 : World.cell? Wn7 ⟨b10, 1, none⟩ = some (.int .i64 (1 + y.kind % 8)) := HB7.out.bk.cell 1
          have e2 : World.cell? Wn7 ⟨b10, 2, none⟩ = some (.slice pA pn pc) := HB7.out.bk.cell 2
          have e3 : World.cell? Wn7 ⟨b10, 3, none⟩ = some (.int .i64 (1 + y.oth % 5)) := HB7.out.bk.cell 3
          have e4 : World.cell? Wn7 ⟨b10, 4, none⟩ = some (.int .i64 (0)) := HB7.out.bk.cell 4
          have e5 : World.cell? Wn7 ⟨b10, 5, none⟩ = some (.int .i64 (y.day % 2000)) := HB7.out.bk.cell 5
          have e6 : World.cell? Wn7 ⟨b10, 6, none⟩ = some (.int .i64 (0)) := HB7.out.bk.cell 6
          have e7 : World.cell? Wn7 ⟨b10, 7, none⟩ = some (.int .i64 (y.kno % 40)) := HB7.out.bk.cell 7
          have e8 : World.cell? Wn7 ⟨b10, 8, none⟩ = some (.int .i64 (y.kno % 40 + 1 + y.unt.tdiv 4 % 30)) := HB7.out.bk.cell 8
          have HMX := Lib.hid (((HMD.out.ext GW1.out).ext HB7.out.g).ext (one_more Wn7 (.cells #[.int .i64 (3 * (m : Int) + 2), .int .i64 (1 + y.kind % 8), .slice pA pn pc, .int .i64 (1 + y.oth % 5), .int .i64 (0), .int .i64 (y.day % 2000), .int .i64 (0), .int .i64 (y.kno % 40), .int .i64 (y.kno % 40 + 1 + y.unt.tdiv 4 % 30)] 56)))
          have IX := Lib.hid (one_pf (x := ⟨qB y m pe (1 + y.oth % 5) (0) (0) (y.kno % 40 + 1 + y.unt.tdiv 4 % 30), pA, pn, pc⟩) (Blk.new Wn7 56 #[.int .i64 (3 * (m : Int) + 2), .int .i64 (1 + y.kind % 8), .slice pA pn pc, .int .i64 (1 + y.oth % 5), .int .i64 (0), .int .i64 (y.day % 2000), .int .i64 (0), .int .i64 (y.kno % 40), .int .i64 (y.kno % 40 + 1 + y.unt.tdiv 4 % 30)]))
          have HPP := Lib.hid (HB7.out.pi (by show pe.length ≤ 1000; have := HPE3.out; omega))
          have HPX := Lib.hid (HPP.out.1.below (one_more Wn7 (.cells #[.int .i64 (3 * (m : Int) + 2), .int .i64 (1 + y.kind % 8), .slice pA pn pc, .int .i64 (1 + y.oth % 5), .int .i64 (0), .int .i64 (y.day % 2000), .int .i64 (0), .int .i64 (y.kno % 40), .int .i64 (y.kno % 40 + 1 + y.unt.tdiv 4 % 30)] 56)))
          have HSZ := Lib.hid (one_more Wn7 (.cells #[.int .i64 (3 * (m : Int) + 2), .int .i64 (1 + y.kind % 8), .slice pA pn pc, .int .i64 (1 + y.oth % 5), .int .i64 (0), .int .i64 (y.day % 2000), .int .i64 (0), .int .i64 (y.kno % 40), .int .i64 (y.kno % 40 + 1 + y.unt.tdiv 4 % 30)] 56)).size
          have HNE := Lib.hid (show ∀ a, pA = some a → u4.ownBlock ≠ some a.block ∧ u5.ownBlock ≠ some a.block ∧ a.block < (Wn7.alloc (.cells #[.int .i64 (3 * (m : Int) + 2), .int .i64 (1 + y.kind % 8), .slice pA pn pc, .int .i64 (1 + y.oth % 5), .int .i64 (0), .int .i64 (y.day % 2000), .int .i64 (0), .int .i64 (y.kno % 40), .int .i64 (y.kno % 40 + 1 + y.unt.tdiv 4 % 30)] 56)).heap.size from fun a e => by
           obtain ⟨k1, k2⟩ := HPP.out.2 a e
           have k3 := HSZ.out
           exact ⟨fun e2 => by have := HOL.out _ (.inl e2); omega, fun e2 => by have := HOL.out _ (.inr e2); omega, by omega⟩)
          have HLO := Lib.hid (show ∀ a, pA = some a → w.heap.size ≤ a.block from fun a e => by
           have k1 := (HPP.out.2 a e).1
           have k2 := (HMD.out.ext GW1.out).g.size
           omega)
          have HQF := Lib.hid (show mkQ y m op = qB y m pe (1 + y.oth % 5) (0) (0) (y.kno % 40 + 1 + y.unt.tdiv 4 % 30) by rw [mkQ_B, HWHO.out, HPE.out, if_pos H2.out, if_pos H2.out, if_neg (by rw [hlb]; decide), if_pos hu])
          go_upto_region 25 with (first | (at_builtin; go_loud ((refine wpList_app kdQ (by rfl) _ _ (by rfl) w.heap.size _ ls (by rfl) HMX.out.o1 _ 1 1 [⟨qB y m pe (1 + y.oth % 5) (0) (0) (y.kno % 40 + 1 + y.unt.tdiv 4 % 30), pA, pn, pc⟩] (by rfl) IX.out (by have := HLS.out; omega) HMX.out.g.size ?_); intro v' w' ho hgr hz; have HM2 := Lib.hid (HMX.out.add1 HPX.out HNE.out HLO.out ho hgr hz); have HM3 := Lib.hid (HM2.out.ext (one_more w' (.cells #[.int .i64 who] 3))); have IW := Lib.hid (one_int (Blk.new w' 3 #[.int .i64 who])); clear ho hgr hz)))
          clear e0 e1 e2 e3 e4 e5 e6 e7 e8
          go_wp2_with (first | (at_builtin; go_loud ((refine wpList_app kdI (by rfl) _ _ (by rfl) w.heap.size _ (whoP x m) (by rfl) HM3.out.o2 _ 1 1 [who] (by rfl) IW.out (by rw [whoP_len]; omega) HM3.out.g.size ?_); intro v2 w2 ho hgr hz; have HM4 := Lib.hid (HM3.out.add2 ho hgr hz); clear ho hgr hz)))
          go_roundw
          case rel => exact ⟨m + 1, ls ++ [⟨qB y m pe (1 + y.oth % 5) (0) (0) (y.kno % 40 + 1 + y.unt.tdiv 4 % 30), pA, pn, pc⟩], by omega, rfl, by rw [HN2.out, HIP.out]; rfl, by rw [whoP_succ, HY.out, HWHO.out]; exact HM4.out, by rw [HN1.out, List.map_append, HLQ.out, HQF.out]; rfl⟩
          case measure => simp only [intOf]; omega
         ·have hub : (y.unt % 4 == 0) = false := beq_eq_false_iff_ne.2 hu
          go_upto_region 24 with (go_at_call 38; (with_reducible refine (TM.out _ _ _ (by omega) (by omega)).mono ?_); rintro e w' ⟨rfl, rfl⟩)
          clear xu
          have e0 : World.cell? Wn1 ⟨b10, 0, none⟩ = some (.int .i64 (3 * (m : Int) + 2)) := HB1.out.bk.cell 0
          have e1 : World.cell? Wn1 ⟨b10, 1, none⟩ = some (.int .i64 (1 + y.kind % 8)) := HB1.out.bk.cell 1
          have e2 : World.cell? Wn1 ⟨b10, 2, none⟩ = some (.slice pA pn pc) := HB1.out.bk.cell 2
          have e3 : World.cell? Wn1 ⟨b10, 3, none⟩ = some (.int .i64 (1 + y.oth % 5)) := HB1.out.bk.cell 3
          have e4 : World.cell? Wn1 ⟨b10, 4, none⟩ = some (.int .i64 (0)) := HB1.out.bk.cell 4
          have e5 : World.cell? Wn1 ⟨b10, 5, none⟩ = some (.int .i64 (y.day % 2000)) := HB1.out.bk.cell 5
          have e6 : World.cell? Wn1 ⟨b10, 6, none⟩ = some (.int .i64 (0)) := HB1.out.bk.cell 6
          have e7 : World.cell? Wn1 ⟨b10, 7, none⟩ = some (.int .i64 (y.kno % 40)) := HB1.out.bk.cell 7
          have e8 : World.cell? Wn1 ⟨b10, 8, none⟩ = some (.int .i64 (0)) := HB1.out.bk.cell 8
          have HMX := Lib.hid (((HMD.out.ext GW1.out).ext HB1.out.g).ext (one_more Wn1 (.cells #[.int .i64 (3 * (m : Int) + 2), .int .i64 (1 + y.kind % 8), .slice pA pn pc, .int .i64 (1 + y.oth % 5), .int .i64 (0), .int .i64 (y.day % 2000), .int .i64 (0), .int .i64 (y.kno % 40), .int .i64 (0)] 56)))
          have IX := Lib.hid (one_pf (x := ⟨qB y m pe (1 + y.oth % 5) (0) (0) (0), pA, pn, pc⟩) (Blk.new Wn1 56 #[.int .i64 (3 * (m : Int) + 2), .int .i64 (1 + y.kind % 8), .slice pA pn pc, .int .i64 (1 + y.oth % 5), .int .i64 (0), .int .i64 (y.day % 2000), .int .i64 (0), .int .i64 (y.kno % 40), .int .i64 (0)]))
          have HPP := Lib.hid (HB1.out.pi (by show pe.length ≤ 1000; have := HPE3.out; omega))
          have HPX := Lib.hid (HPP.out.1.below (one_more Wn1 (.cells #[.int .i64 (3 * (m : Int) + 2), .int .i64 (1 + y.kind % 8), .slice pA pn pc, .int .i64 (1 + y.oth % 5), .int .i64 (0), .int .i64 (y.day % 2000), .int .i64 (0), .int .i64 (y.kno % 40), .int .i64 (0)] 56)))
          have HSZ := Lib.hid (one_more Wn1 (.cells #[.int .i64 (3 * (m : Int) + 2), .int .i64 (1 + y.kind % 8), .slice pA pn pc, .int .i64 (1 + y.oth % 5), .int .i64 (0), .int .i64 (y.day % 2000), .int .i64 (0), .int .i64 (y.kno % 40), .int .i64 (0)] 56)).size
          have HNE := Lib.hid (show ∀ a, pA = some a → u4.ownBlock ≠ some a.block ∧ u5.ownBlock ≠ some a.block ∧ a.block < (Wn1.alloc (.cells #[.int .i64 (3 * (m : Int) + 2), .int .i64 (1 + y.kind % 8), .slice pA pn pc, .int .i64 (1 + y.oth % 5), .int .i64 (0), .int .i64 (y.day % 2000), .int .i64 (0), .int .i64 (y.kno % 40), .int .i64 (0)] 56)).heap.size from fun a e => by
           obtain ⟨k1, k2⟩ := HPP.out.2 a e
           have k3 := HSZ.out
           exact ⟨fun e2 => by have := HOL.out _ (.inl e2); omega, fun e2 => by have := HOL.out _ (.inr e2); omega, by omega⟩)
          have HLO := Lib.hid (show ∀ a, pA = some a → w.heap.size ≤ a.block from fun a e => by
           have k1 := (HPP.out.2 a e).1
           have k2 := (HMD.out.ext GW1.out).g.size
           omega)
          have HQF := Lib.hid (show mkQ y m op = qB y m pe (1 + y.oth % 5) (0) (0) (0) by rw [mkQ_B, HWHO.out, HPE.out, if_pos H2.out, if_pos H2.out, if_neg (by rw [hlb]; decide), if_neg hu])
          go_upto_region 25 with (first | (at_builtin; go_loud ((refine wpList_app kdQ (by rfl) _ _ (by rfl) w.heap.size _ ls (by rfl) HMX.out.o1 _ 1 1 [⟨qB y m pe (1 + y.oth % 5) (0) (0) (0), pA, pn, pc⟩] (by rfl) IX.out (by have := HLS.out; omega) HMX.out.g.size ?_); intro v' w' ho hgr hz; have HM2 := Lib.hid (HMX.out.add1 HPX.out HNE.out HLO.out ho hgr hz); have HM3 := Lib.hid (HM2.out.ext (one_more w' (.cells #[.int .i64 who] 3))); have IW := Lib.hid (one_int (Blk.new w' 3 #[.int .i64 who])); clear ho hgr hz)))
          clear e0 e1 e2 e3 e4 e5 e6 e7 e8
          go_wp2_with (first | (at_builtin; go_loud ((refine wpList_app kdI (by rfl) _ _ (by rfl) w.heap.size _ (whoP x m) (by rfl) HM3.out.o2 _ 1 1 [who] (by rfl) IW.out (by rw [whoP_len]; omega) HM3.out.g.size ?_); intro v2 w2 ho hgr hz; have HM4 := Lib.hid (HM3.out.add2 ho hgr hz); clear ho hgr hz)))
          go_roundw
          case rel => exact ⟨m + 1, ls ++ [⟨qB y m pe (1 + y.oth % 5) (0) (0) (0), pA, pn, pc⟩], by omega, rfl, by rw [HN2.out, HIP.out]; rfl, by rw [whoP_succ, HY.out, HWHO.out]; exact HM4.out, by rw [HN1.out, List.map_append, HLQ.out, HQF.out]; rfl⟩
          case measure => simp only [intOf]; omega
       ·have h2b : (1 + y.kind % 8 == 2) = false := beq_eq_false_iff_ne.2 h2
        have H2 := Lib.hid h2
        clear h2
        go_upto_region 20 with (go_at_call 38; (with_reducible refine (TM.out _ _ _ (by omega) (by omega)).mono ?_); rintro e w' ⟨rfl, rfl⟩)
        clear k1 k3 k4 kf3 kf4 x3 x4
        have HB8 := Lib.hid (HBA.out.set 4 (.int .i64 (y.par % 3)) (p' := ⟨qB y m pe (0) (y.par % 3) (0) (0), pA, pn, pc⟩) rfl ⟨rfl, rfl, rfl, rfl⟩)
        obtain ⟨Wn8, hWn8⟩ : ∃ X, World.setCell wr ⟨b10, 4, none⟩ (.int .i64 (y.par % 3)) = X := ⟨_, rfl⟩
        rw [hWn8] at HB8 ⊢
        clear hWn8
        have k1 : World.cell? Wn8 ⟨b10, 1, none⟩ = some (.int .i64 (1 + y.kind % 8)) := HB8.out.bk.cell 1
        have HLA := Lib.hid (refLasts_any (1 + y.kind % 8))
        obtain ⟨lb, hlb⟩ : ∃ b, lastsB (1 + y.kind % 8) = b := ⟨_, rfl⟩
        rw [hlb] at HLA
        cases lb with
        | true =>
         go_upto_region 21 with (go_at_call 99; (with_reducible refine (HLA.out _).mono ?_); rintro e w' ⟨rfl, rfl⟩)
         clear k1
         have k5 := cellW (show World.cell? Wn8 ⟨b10, 5, none⟩ = some (.int .i64 (y.day % 2000)) from HB8.out.bk.cell 5)
         have x6 := cellW (show World.cell? Wn8 ⟨bX, 6, none⟩ = some (.int .i64 y.long) from (BX.out.ext HB8.out.g).cell 6)
         have ha1 : IntKind.i64.wrap (y.day % 2000 + y.long % 450) = y.day % 2000 + y.long % 450 := by rw [IntKind.wrap_i64]; omega
         refine wp_region_calm_tail Wn8 7 (by kernel_rfl) (by kernel_rfl) (Below.refl _ _) ?_
         simp only [List.take_succ_cons, List.take_zero, List.drop_succ_cons, List.drop_zero]
         repeat (go_big_quiet_step (first | (go_at_call 38; exact callsCalmSame (TM.out _ _ _ (by omega) (by omega)))))
         refine wpQuiet_nil ?_
         rintro _ ⟨zl, rfl⟩
         have HZ9 := Lib.hid (HB8.out.ext zl.ok)
         clear k5 x6
         have q6 : World.cell? zl.val ⟨b10, 6, none⟩ = some (.int .i64 0) := HZ9.out.bk.cell 6
         have qf := HZ9.out.bk.frozen 6
         go_upto_region 22 with fail
         clear q6 qf ha1
         have HB10 := Lib.hid (HZ9.out.set 6 (.int .i64 (y.day % 2000 + y.long % 450)) (p' := ⟨qB y m pe (0) (y.par % 3) (y.day % 2000 + y.long % 450) (0), pA, pn, pc⟩) rfl ⟨rfl, rfl, rfl, rfl⟩)
         obtain ⟨Wn10, hWn10⟩ : ∃ X, World.setCell zl.val ⟨b10, 6, none⟩ (.int .i64 (y.day % 2000 + y.long % 450)) = X := ⟨_, rfl⟩
         rw [hWn10] at HB10 ⊢
         clear hWn10
         have xu : World.cell? Wn10 ⟨bX, 8, none⟩ = some (.int .i64 y.unt) := (BX.out.ext HB10.out.g).cell 8
         by_cases hu : y.unt % 4 = 0
         ·have hub : (y.unt % 4 == 0) = true := beq_iff_eq.2 hu
          go_upto_region 23 with (go_at_call 38; (with_reducible refine (TM.out _ _ _ (by omega) (by omega)).mono ?_); rintro e w' ⟨rfl, rfl⟩)
          have k7 := cellW (show World.cell? Wn10 ⟨b10, 7, none⟩ = some (.int .i64 (y.kno % 40)) from HB10.out.bk.cell 7)
          have x8 := cellW xu
          clear xu
          have ha1 : IntKind.i64.wrap (y.kno % 40 + 1) = y.kno % 40 + 1 := by rw [IntKind.wrap_i64]; omega
          have ha2 : IntKind.i64.wrap (y.unt.tdiv 4) = y.unt.tdiv 4 := HW4.out
          have ha3 : IntKind.i64.wrap (y.kno % 40 + 1 + y.unt.tdiv 4 % 30) = y.kno % 40 + 1 + y.unt.tdiv 4 % 30 := by
           generalize y.unt.tdiv 4 = u9
           rw [IntKind.wrap_i64]; omega
          refine wp_region_calm_tail Wn10 9 (by kernel_rfl) (by kernel_rfl) (Below.refl _ _) ?_
          simp only [List.take_succ_cons, List.take_zero, List.drop_succ_cons, List.drop_zero]
          repeat (go_big_quiet_step (first | (go_at_call 38; exact callsCalmSame (TM.out _ _ _ (by omega) (by omega)))))
          refine wpQuiet_nil ?_
          rintro _ ⟨zu, rfl⟩
          have HZ11 := Lib.hid (HB10.out.ext zu.ok)
          clear k7 x8
          have q8 : World.cell? zu.val ⟨b10, 8, none⟩ = some (.int .i64 0) := HZ11.out.bk.cell 8
          have qf := HZ11.out.bk.frozen 8
          go_upto_region 24 with fail
          clear q8 qf ha1 ha2 ha3
          have HB12 := Lib.hid (HZ11.out.set 8 (.int .i64 (y.kno % 40 + 1 + y.unt.tdiv 4 % 30)) (p' := ⟨qB y m pe (0) (y.par % 3) (y.day % 2000 + y.long % 450) (y.kno % 40 + 1 + y.unt.tdiv 4 % 30), pA, pn, pc⟩) rfl ⟨rfl, rfl, rfl, rfl⟩)
          obtain ⟨Wn12, hWn12⟩ : ∃ X, World.setCell zu.val ⟨b10, 8, none⟩ (.int .i64 (y.kno % 40 + 1 + y.unt.tdiv 4 % 30)) = X := ⟨_, rfl⟩
          rw [hWn12] at HB12 ⊢
          clear hWn12
          have e0 : World.cell? Wn12 ⟨b10, 0, none⟩ = some (.int .i64 (3 * (m : Int) + 2)) := HB12.out.bk.cell 0
          have e1 : World.cell? Wn12 ⟨b10, 1, none⟩ = some (.int .i64 (1 + y.kind % 8)) := HB12.out.bk.cell 1
          have e2 : World.cell? Wn12 ⟨b10, 2, none⟩ = some (.slice pA pn pc) := HB12.out.bk.cell 2
          have e3 : World.cell? Wn12 ⟨b10, 3, none⟩ = some (.int .i64 (0)) := HB12.out.bk.cell 3
          have e4 : World.cell? Wn12 ⟨b10, 4, none⟩ = some (.int .i64 (y.par % 3)) := HB12.out.bk.cell 4
          have e5 : World.cell? Wn12 ⟨b10, 5, none⟩ = some (.int .i64 (y.day % 2000)) := HB12.out.bk.cell 5
          have e6 : World.cell? Wn12 ⟨b10, 6, none⟩ = some (.int .i64 (y.day % 2000 + y.long % 450)) := HB12.out.bk.cell 6
          have e7 : World.cell? Wn12 ⟨b10, 7, none⟩ = some (.int .i64 (y.kno % 40)) := HB12.out.bk.cell 7
          have e8 : World.cell? Wn12 ⟨b10, 8, none⟩ = some (.int .i64 (y.kno % 40 + 1 + y.unt.tdiv 4 % 30)) := HB12.out.bk.cell 8
          have HMX := Lib.hid (((HMD.out.ext GW1.out).ext HB12.out.g).ext (one_more Wn12 (.cells #[.int .i64 (3 * (m : Int) + 2), .int .i64 (1 + y.kind % 8), .slice pA pn pc, .int .i64 (0), .int .i64 (y.par % 3), .int .i64 (y.day % 2000), .int .i64 (y.day % 2000 + y.long % 450), .int .i64 (y.kno % 40), .int .i64 (y.kno % 40 + 1 + y.unt.tdiv 4 % 30)] 56)))
          have IX := Lib.hid (one_pf (x := ⟨qB y m pe (0) (y.par % 3) (y.day % 2000 + y.long % 450) (y.kno % 40 + 1 + y.unt.tdiv 4 % 30), pA, pn, pc⟩) (Blk.new Wn12 56 #[.int .i64 (3 * (m : Int) + 2), .int .i64 (1 + y.kind % 8), .slice pA pn pc, .int .i64 (0), .int .i64 (y.par % 3), .int .i64 (y.day % 2000), .int .i64 (y.day % 2000 + y.long % 450), .int .i64 (y.kno % 40), .int .i64 (y.kno % 40 + 1 + y.unt.tdiv 4 % 30)]))
          have HPP := Lib.hid (HB12.out.pi (by show pe.length ≤ 1000; have := HPE3.out; omega))
          have HPX := Lib.hid (HPP.out.1.below (one_more Wn12 (.cells #[.int .i64 (3 * (m : Int) + 2), .int .i64 (1 + y.kind % 8), .slice pA pn pc, .int .i64 (0), .int .i64 (y.par % 3), .int .i64 (y.day % 2000), .int .i64 (y.day % 2000 + y.long % 450), .int .i64 (y.kno % 40), .int .i64 (y.kno % 40 + 1 + y.unt.tdiv 4 % 30)] 56)))
          have HSZ := Lib.hid (one_more Wn12 (.cells #[.int .i64 (3 * (m : Int) + 2), .int .i64 (1 + y.kind % 8), .slice pA pn pc, .int .i64 (0), .int .i64 (y.par % 3), .int .i64 (y.day % 2000), .int .i64 (y.day % 2000 + y.long % 450), .int .i64 (y.kno % 40), .int .i64 (y.kno % 40 + 1 + y.unt.tdiv 4 % 30)] 56)).size
          have HNE := Lib.hid (show ∀ a, pA = some a → u4.ownBlock ≠ some a.block ∧ u5.ownBlock ≠ some a.block ∧ a.block < (Wn12.alloc (.cells #[.int .i64 (3 * (m : Int) + 2), .int .i64 (1 + y.kind % 8), .slice pA pn pc, .int .i64 (0), .int .i64 (y.par % 3), .int .i64 (y.day % 2000), .int .i64 (y.day % 2000 + y.long % 450), .int .i64 (y.kno % 40), .int .i64 (y.kno % 40 + 1 + y.unt.tdiv 4 % 30)] 56)).heap.size from fun a e => by
           obtain ⟨k1, k2⟩ := HPP.out.2 a e
           have k3 := HSZ.out
           exact ⟨fun e2 => by have := HOL.out _ (.inl e2); omega, fun e2 => by have := HOL.out _ (.inr e2); omega, by omega⟩)
          have HLO := Lib.hid (show ∀ a, pA = some a → w.heap.size ≤ a.block from fun a e => by
           have k1 := (HPP.out.2 a e).1
           have k2 := (HMD.out.ext GW1.out).g.size
           omega)
          have HQF := Lib.hid (show mkQ y m op = qB y m pe (0) (y.par % 3) (y.day % 2000 + y.long % 450) (y.kno % 40 + 1 + y.unt.tdiv 4 % 30) by rw [mkQ_B, HWHO.out, HPE.out, if_neg H2.out, if_neg H2.out, if_pos hlb, if_pos hu])
          go_upto_region 25 with (first | (at_builtin; go_loud ((refine wpList_app kdQ (by rfl) _ _ (by rfl) w.heap.size _ ls (by rfl) HMX.out.o1 _ 1 1 [⟨qB y m pe (0) (y.par % 3) (y.day % 2000 + y.long % 450) (y.kno % 40 + 1 + y.unt.tdiv 4 % 30), pA, pn, pc⟩] (by rfl) IX.out (by have := HLS.out; omega) HMX.out.g.size ?_); intro v' w' ho hgr hz; have HM2 := Lib.hid (HMX.out.add1 HPX.out HNE.out HLO.out ho hgr hz); have HM3 := Lib.hid (HM2.out.ext (one_more w' (.cells #[.int .i64 who] 3))); have IW := Lib.hid (one_int (Blk.new w' 3 #[.int .i64 who])); clear ho hgr hz)))
          clear e0 e1 e2 e3 e4 e5 e6 e7 e8
          go_wp2_with (first | (at_builtin; go_loud ((refine wpList_app kdI (by rfl) _ _ (by rfl) w.heap.size _ (whoP x m) (by rfl) HM3.out.o2 _ 1 1 [who] (by rfl) IW.out (by rw [whoP_len]; omega) HM3.out.g.size ?_); intro v2 w2 ho hgr hz; have HM4 := Lib.hid (HM3.out.add2 ho hgr hz); clear ho hgr hz)))
          go_roundw
          case rel => exact ⟨m + 1, ls ++ [⟨qB y m pe (0) (y.par % 3) (y.day % 2000 + y.long % 450) (y.kno % 40 + 1 + y.unt.tdiv 4 % 30), pA, pn, pc⟩], by omega, rfl, by rw [HN2.out, HIP.out]; rfl, by rw [whoP_succ, HY.out, HWHO.out]; exact HM4.out, by rw [HN1.out, List.map_append, HLQ.out, HQF.out]; rfl⟩
          case measure => simp only [intOf]; omega
         ·have hub : (y.unt % 4 == 0) = false := beq_eq_false_iff_ne.2 hu
          go_upto_region 24 with (go_at_call 38; (with_reducible refine (TM.out _ _ _ (by omega) (by omega)).mono ?_); rintro e w' ⟨rfl, rfl⟩)
          clear xu
          have e0 : World.cell? Wn10 ⟨b10, 0, none⟩ = some (.int .i64 (3 * (m : Int) + 2)) := HB10.out.bk.cell 0
          have e1 : World.cell? Wn10 ⟨b10, 1, none⟩ = some (.int .i64 (1 + y.kind % 8)) := HB10.out.bk.cell 1
          have e2 : World.cell? Wn10 ⟨b10, 2, none⟩ = some (.slice pA pn pc) := HB10.out.bk.cell 2
          have e3 : World.cell? Wn10 ⟨b10, 3, none⟩ = some (.int .i64 (0)) := HB10.out.bk.cell 3
          have e4 : World.cell? Wn10 ⟨b10, 4, none⟩ = some (.int .i64 (y.par % 3)) := HB10.out.bk.cell 4
          have e5 : World.cell? Wn10 ⟨b10, 5, none⟩ = some (.int .i64 (y.day % 2000)) := HB10.out.bk.cell 5
          have e6 : World.cell? Wn10 ⟨b10, 6, none⟩ = some (.int .i64 (y.day % 2000 + y.long % 450)) := HB10.out.bk.cell 6
          have e7 : World.cell? Wn10 ⟨b10, 7, none⟩ = some (.int .i64 (y.kno % 40)) := HB10.out.bk.cell 7
          have e8 : World.cell? Wn10 ⟨b10, 8, none⟩ = some (.int .i64 (0)) := HB10.out.bk.cell 8
          have HMX := Lib.hid (((HMD.out.ext GW1.out).ext HB10.out.g).ext (one_more Wn10 (.cells #[.int .i64 (3 * (m : Int) + 2), .int .i64 (1 + y.kind % 8), .slice pA pn pc, .int .i64 (0), .int .i64 (y.par % 3), .int .i64 (y.day % 2000), .int .i64 (y.day % 2000 + y.long % 450), .int .i64 (y.kno % 40), .int .i64 (0)] 56)))
          have IX := Lib.hid (one_pf (x := ⟨qB y m pe (0) (y.par % 3) (y.day % 2000 + y.long % 450) (0), pA, pn, pc⟩) (Blk.new Wn10 56 #[.int .i64 (3 * (m : Int) + 2), .int .i64 (1 + y.kind % 8), .slice pA pn pc, .int .i64 (0), .int .i64 (y.par % 3), .int .i64 (y.day % 2000), .int .i64 (y.day % 2000 + y.long % 450), .int .i64 (y.kno % 40), .int .i64 (0)]))
          have HPP := Lib.hid (HB10.out.pi (by show pe.length ≤ 1000; have := HPE3.out; omega))
          have HPX := Lib.hid (HPP.out.1.below (one_more Wn10 (.cells #[.int .i64 (3 * (m : Int) + 2), .int .i64 (1 + y.kind % 8), .slice pA pn pc, .int .i64 (0), .int .i64 (y.par % 3), .int .i64 (y.day % 2000), .int .i64 (y.day % 2000 + y.long % 450), .int .i64 (y.kno % 40), .int .i64 (0)] 56)))
          have HSZ := Lib.hid (one_more Wn10 (.cells #[.int .i64 (3 * (m : Int) + 2), .int .i64 (1 + y.kind % 8), .slice pA pn pc, .int .i64 (0), .int .i64 (y.par % 3), .int .i64 (y.day % 2000), .int .i64 (y.day % 2000 + y.long % 450), .int .i64 (y.kno % 40), .int .i64 (0)] 56)).size
          have HNE := Lib.hid (show ∀ a, pA = some a → u4.ownBlock ≠ some a.block ∧ u5.ownBlock ≠ some a.block ∧ a.block < (Wn10.alloc (.cells #[.int .i64 (3 * (m : Int) + 2), .int .i64 (1 + y.kind % 8), .slice pA pn pc, .int .i64 (0), .int .i64 (y.par % 3), .int .i64 (y.day % 2000), .int .i64 (y.day % 2000 + y.long % 450), .int .i64 (y.kno % 40), .int .i64 (0)] 56)).heap.size from fun a e => by
           obtain ⟨k1, k2⟩ := HPP.out.2 a e
           have k3 := HSZ.out
           exact ⟨fun e2 => by have := HOL.out _ (.inl e2); omega, fun e2 => by have := HOL.out _ (.inr e2); omega, by omega⟩)
          have HLO := Lib.hid (show ∀ a, pA = some a → w.heap.size ≤ a.block from fun a e => by
           have k1 := (HPP.out.2 a e).1
           have k2 := (HMD.out.ext GW1.out).g.size
           omega)
          have HQF := Lib.hid (show mkQ y m op = qB y m pe (0) (y.par % 3) (y.day % 2000 + y.long % 450) (0) by rw [mkQ_B, HWHO.out, HPE.out, if_neg H2.out, if_neg H2.out, if_pos hlb, if_neg hu])
          go_upto_region 25 with (first | (at_builtin; go_loud ((refine wpList_app kdQ (by rfl) _ _ (by rfl) w.heap.size _ ls (by rfl) HMX.out.o1 _ 1 1 [⟨qB y m pe (0) (y.par % 3) (y.day % 2000 + y.long % 450) (0), pA, pn, pc⟩] (by rfl) IX.out (by have := HLS.out; omega) HMX.out.g.size ?_); intro v' w' ho hgr hz; have HM2 := Lib.hid (HMX.out.add1 HPX.out HNE.out HLO.out ho hgr hz); have HM3 := Lib.hid (HM2.out.ext (one_more w' (.cells #[.int .i64 who] 3))); have IW := Lib.hid (one_int (Blk.new w' 3 #[.int .i64 who])); clear ho hgr hz)))
          clear e0 e1 e2 e3 e4 e5 e6 e7 e8
          go_wp2_with (first | (at_builtin; go_loud ((refine wpList_app kdI (by rfl) _ _ (by rfl) w.heap.size _ (whoP x m) (by rfl) HM3.out.o2 _ 1 1 [who] (by rfl) IW.out (by rw [whoP_len]; omega) HM3.out.g.size ?_); intro v2 w2 ho hgr hz; have HM4 := Lib.hid (HM3.out.add2 ho hgr hz); clear ho hgr hz)))
          go_roundw
          case rel => exact ⟨m + 1, ls ++ [⟨qB y m pe (0) (y.par % 3) (y.day % 2000 + y.long % 450) (0), pA, pn, pc⟩], by omega, rfl, by rw [HN2.out, HIP.out]; rfl, by rw [whoP_succ, HY.out, HWHO.out]; exact HM4.out, by rw [HN1.out, List.map_append, HLQ.out, HQF.out]; rfl⟩
          case measure => simp only [intOf]; omega
        | false =>
         go_upto_region 22 with (go_at_call 99; (with_reducible refine (HLA.out _).mono ?_); rintro e w' ⟨rfl, rfl⟩)
         clear k1
         have xu : World.cell? Wn8 ⟨bX, 8, none⟩ = some (.int .i64 y.unt) := (BX.out.ext HB8.out.g).cell 8
         by_cases hu : y.unt % 4 = 0
         ·have hub : (y.unt % 4 == 0) = true := beq_iff_eq.2 hu
          go_upto_region 23 with (go_at_call 38; (with_reducible refine (TM.out _ _ _ (by omega) (by omega)).mono ?_); rintro e w' ⟨rfl, rfl⟩)
          have k7 := cellW (show World.cell? Wn8 ⟨b10, 7, none⟩ = some (.int .i64 (y.kno % 40)) from HB8.out.bk.cell 7)
          have x8 := cellW xu
          clear xu
          have ha1 : IntKind.i64.wrap (y.kno % 40 + 1) = y.kno % 40 + 1 := by rw [IntKind.wrap_i64]; omega
          have ha2 : IntKind.i64.wrap (y.unt.tdiv 4) = y.unt.tdiv 4 := HW4.out
          have ha3 : IntKind.i64.wrap (y.kno % 40 + 1 + y.unt.tdiv 4 % 30) = y.kno % 40 + 1 + y.unt.tdiv 4 % 30 := by
           generalize y.unt.tdiv 4 = u9
           rw [IntKind.wrap_i64]; omega
          refine wp_region_calm_tail Wn8 9 (by kernel_rfl) (by kernel_rfl) (Below.refl _ _) ?_
          simp only [List.take_succ_cons, List.take_zero, List.drop_succ_cons, List.drop_zero]
          repeat (go_big_quiet_step (first | (go_at_call 38; exact callsCalmSame (TM.out _ _ _ (by omega) (by omega)))))
          refine wpQuiet_nil ?_
          rintro _ ⟨zu, rfl⟩
          have HZ13 := Lib.hid (HB8.out.ext zu.ok)
          clear k7 x8
          have q8 : World.cell? zu.val ⟨b10, 8, none⟩ = some (.int .i64 0) := HZ13.out.bk.cell 8
          have qf := HZ13.out.bk.frozen 8
          go_upto_region 24 with fail
          clear q8 qf ha1 ha2 ha3
          have HB14 := Lib.hid (HZ13.out.set 8 (.int .i64 (y.kno % 40 + 1 + y.unt.tdiv 4 % 30)) (p' := ⟨qB y m pe (0) (y.par % 3) (0) (y.kno % 40 + 1 + y.unt.tdiv 4 % 30), pA, pn, pc⟩) rfl ⟨rfl, rfl, rfl, rfl⟩)
          obtain ⟨Wn14, hWn14⟩ : ∃ X, World.setCell zu.val ⟨b10, 8, none⟩ (.int .i64 (y.kno % 40 + 1 + y.unt.tdiv 4 % 30)) = X := ⟨_, rfl⟩
          rw [hWn14] at HB14 ⊢
          clear hWn14
          have e0 : World.cell? Wn14 ⟨b10, 0, none⟩ = some (.int .i64 (3 * (m : Int) + 2)) := HB14.out.bk.cell 0
          have e1 : World.cell? Wn14 ⟨b10, 1, none⟩ = some (.int .i64 (1 + y.kind % 8)) := HB14.out.bk.cell 1
          have e2 : World.cell? Wn14 ⟨b10, 2, none⟩ = some (.slice pA pn pc) := HB14.out.bk.cell 2
          have e3 : World.cell? Wn14 ⟨b10, 3, none⟩ = some (.int .i64 (0)) := HB14.out.bk.cell 3
          have e4 : World.cell? Wn14 ⟨b10, 4, none⟩ = some (.int .i64 (y.par % 3)) := HB14.out.bk.cell 4
          have e5 : World.cell? Wn14 ⟨b10, 5, none⟩ = some (.int .i64 (y.day % 2000)) := HB14.out.bk.cell 5
          have e6 : World.cell? Wn14 ⟨b10, 6, none⟩ = some (.int .i64 (0)) := HB14.out.bk.cell 6
          have e7 : World.cell? Wn14 ⟨b10, 7, none⟩ = some (.int .i64 (y.kno % 40)) := HB14.out.bk.cell 7
          have e8 : World.cell? Wn14 ⟨b10, 8, none⟩ = some (.int .i64 (y.kno % 40 + 1 + y.unt.tdiv 4 % 30)) := HB14.out.bk.cell 8
          have HMX := Lib.hid (((HMD.out.ext GW1.out).ext HB14.out.g).ext (one_more Wn14 (.cells #[.int .i64 (3 * (m : Int) + 2), .int .i64 (1 + y.kind % 8), .slice pA pn pc, .int .i64 (0), .int .i64 (y.par % 3), .int .i64 (y.day % 2000), .int .i64 (0), .int .i64 (y.kno % 40), .int .i64 (y.kno % 40 + 1 + y.unt.tdiv 4 % 30)] 56)))
          have IX := Lib.hid (one_pf (x := ⟨qB y m pe (0) (y.par % 3) (0) (y.kno % 40 + 1 + y.unt.tdiv 4 % 30), pA, pn, pc⟩) (Blk.new Wn14 56 #[.int .i64 (3 * (m : Int) + 2), .int .i64 (1 + y.kind % 8), .slice pA pn pc, .int .i64 (0), .int .i64 (y.par % 3), .int .i64 (y.day % 2000), .int .i64 (0), .int .i64 (y.kno % 40), .int .i64 (y.kno % 40 + 1 + y.unt.tdiv 4 % 30)]))
          have HPP := Lib.hid (HB14.out.pi (by show pe.length ≤ 1000; have := HPE3.out; omega))
          have HPX := Lib.hid (HPP.out.1.below (one_more Wn14 (.cells #[.int .i64 (3 * (m : Int) + 2), .int .i64 (1 + y.kind % 8), .slice pA pn pc, .int .i64 (0), .int .i64 (y.par % 3), .int .i64 (y.day % 2000), .int .i64 (0), .int .i64 (y.kno % 40), .int .i64 (y.kno % 40 + 1 + y.unt.tdiv 4 % 30)] 56)))
          have HSZ := Lib.hid (one_more Wn14 (.cells #[.int .i64 (3 * (m : Int) + 2), .int .i64 (1 + y.kind % 8), .slice pA pn pc, .int .i64 (0), .int .i64 (y.par % 3), .int .i64 (y.day % 2000), .int .i64 (0), .int .i64 (y.kno % 40), .int .i64 (y.kno % 40 + 1 + y.unt.tdiv 4 % 30)] 56)).size
          have HNE := Lib.hid (show ∀ a, pA = some a → u4.ownBlock ≠ some a.block ∧ u5.ownBlock ≠ some a.block ∧ a.block < (Wn14.alloc (.cells #[.int .i64 (3 * (m : Int) + 2), .int .i64 (1 + y.kind % 8), .slice pA pn pc, .int .i64 (0), .int .i64 (y.par % 3), .int .i64 (y.day % 2000), .int .i64 (0), .int .i64 (y.kno % 40), .int .i64 (y.kno % 40 + 1 + y.unt.tdiv 4 % 30)] 56)).heap.size from fun a e => by
           obtain ⟨k1, k2⟩ := HPP.out.2 a e
           have k3 := HSZ.out
           exact ⟨fun e2 => by have := HOL.out _ (.inl e2); omega, fun e2 => by have := HOL.out _ (.inr e2); omega, by omega⟩)
          have HLO := Lib.hid (show ∀ a, pA = some a → w.heap.size ≤ a.block from fun a e => by
           have k1 := (HPP.out.2 a e).1
           have k2 := (HMD.out.ext GW1.out).g.size
           omega)
          have HQF := Lib.hid (show mkQ y m op = qB y m pe (0) (y.par % 3) (0) (y.kno % 40 + 1 + y.unt.tdiv 4 % 30) by rw [mkQ_B, HWHO.out, HPE.out, if_neg H2.out, if_neg H2.out, if_neg (by rw [hlb]; decide), if_pos hu])
          go_upto_region 25 with (first | (at_builtin; go_loud ((refine wpList_app kdQ (by rfl) _ _ (by rfl) w.heap.size _ ls (by rfl) HMX.out.o1 _ 1 1 [⟨qB y m pe (0) (y.par % 3) (0) (y.kno % 40 + 1 + y.unt.tdiv 4 % 30), pA, pn, pc⟩] (by rfl) IX.out (by have := HLS.out; omega) HMX.out.g.size ?_); intro v' w' ho hgr hz; have HM2 := Lib.hid (HMX.out.add1 HPX.out HNE.out HLO.out ho hgr hz); have HM3 := Lib.hid (HM2.out.ext (one_more w' (.cells #[.int .i64 who] 3))); have IW := Lib.hid (one_int (Blk.new w' 3 #[.int .i64 who])); clear ho hgr hz)))
          clear e0 e1 e2 e3 e4 e5 e6 e7 e8
          go_wp2_with (first | (at_builtin; go_loud ((refine wpList_app kdI (by rfl) _ _ (by rfl) w.heap.size _ (whoP x m) (by rfl) HM3.out.o2 _ 1 1 [who] (by rfl) IW.out (by rw [whoP_len]; omega) HM3.out.g.size ?_); intro v2 w2 ho hgr hz; have HM4 := Lib.hid (HM3.out.add2 ho hgr hz); clear ho hgr hz)))
          go_roundw
          case rel => exact ⟨m + 1, ls ++ [⟨qB y m pe (0) (y.par % 3) (0) (y.kno % 40 + 1 + y.unt.tdiv 4 % 30), pA, pn, pc⟩], by omega, rfl, by rw [HN2.out, HIP.out]; rfl, by rw [whoP_succ, HY.out, HWHO.out]; exact HM4.out, by rw [HN1.out, List.map_append, HLQ.out, HQF.out]; rfl⟩
          case measure => simp only [intOf]; omega
         ·have hub : (y.unt % 4 == 0) = false := beq_eq_false_iff_ne.2 hu
          go_upto_region 24 with (go_at_call 38; (with_reducible refine (TM.out _ _ _ (by omega) (by omega)).mono ?_); rintro e w' ⟨rfl, rfl⟩)
          clear xu
          have e0 : World.cell? Wn8 ⟨b10, 0, none⟩ = some (.int .i64 (3 * (m : Int) + 2)) := HB8.out.bk.cell 0
          have e1 : World.cell? Wn8 ⟨b10, 1, none⟩ = some (.int .i64 (1 + y.kind % 8)) := HB8.out.bk.cell 1
          have e2 : World.cell? Wn8 ⟨b10, 2, none⟩ = some (.slice pA pn pc) := HB8.out.bk.cell 2
          have e3 : World.cell? Wn8 ⟨b10, 3, none⟩ = some (.int .i64 (0)) := HB8.out.bk.cell 3
          have e4 : World.cell? Wn8 ⟨b10, 4, none⟩ = some (.int .i64 (y.par % 3)) := HB8.out.bk.cell 4
          have e5 : World.cell? Wn8 ⟨b10, 5, none⟩ = some (.int .i64 (y.day % 2000)) := HB8.out.bk.cell 5
          have e6 : World.cell? Wn8 ⟨b10, 6, none⟩ = some (.int .i64 (0)) := HB8.out.bk.cell 6
          have e7 : World.cell? Wn8 ⟨b10, 7, none⟩ = some (.int .i64 (y.kno % 40)) := HB8.out.bk.cell 7
          have e8 : World.cell? Wn8 ⟨b10, 8, none⟩ = some (.int .i64 (0)) := HB8.out.bk.cell 8
          have HMX := Lib.hid (((HMD.out.ext GW1.out).ext HB8.out.g).ext (one_more Wn8 (.cells #[.int .i64 (3 * (m : Int) + 2), .int .i64 (1 + y.kind % 8), .slice pA pn pc, .int .i64 (0), .int .i64 (y.par % 3), .int .i64 (y.day % 2000), .int .i64 (0), .int .i64 (y.kno % 40), .int .i64 (0)] 56)))
          have IX := Lib.hid (one_pf (x := ⟨qB y m pe (0) (y.par % 3) (0) (0), pA, pn, pc⟩) (Blk.new Wn8 56 #[.int .i64 (3 * (m : Int) + 2), .int .i64 (1 + y.kind % 8), .slice pA pn pc, .int .i64 (0), .int .i64 (y.par % 3), .int .i64 (y.day % 2000), .int .i64 (0), .int .i64 (y.kno % 40), .int .i64 (0)]))
          have HPP := Lib.hid (HB8.out.pi (by show pe.length ≤ 1000; have := HPE3.out; omega))
          have HPX := Lib.hid (HPP.out.1.below (one_more Wn8 (.cells #[.int .i64 (3 * (m : Int) + 2), .int .i64 (1 + y.kind % 8), .slice pA pn pc, .int .i64 (0), .int .i64 (y.par % 3), .int .i64 (y.day % 2000), .int .i64 (0), .int .i64 (y.kno % 40), .int .i64 (0)] 56)))
          have HSZ := Lib.hid (one_more Wn8 (.cells #[.int .i64 (3 * (m : Int) + 2), .int .i64 (1 + y.kind % 8), .slice pA pn pc, .int .i64 (0), .int .i64 (y.par % 3), .int .i64 (y.day % 2000), .int .i64 (0), .int .i64 (y.kno % 40), .int .i64 (0)] 56)).size
          have HNE := Lib.hid (show ∀ a, pA = some a → u4.ownBlock ≠ some a.block ∧ u5.ownBlock ≠ some a.block ∧ a.block < (Wn8.alloc (.cells #[.int .i64 (3 * (m : Int) + 2), .int .i64 (1 + y.kind % 8), .slice pA pn pc, .int .i64 (0), .int .i64 (y.par % 3), .int .i64 (y.day % 2000), .int .i64 (0), .int .i64 (y.kno % 40), .int .i64 (0)] 56)).heap.size from fun a e => by
           obtain ⟨k1, k2⟩ := HPP.out.2 a e
           have k3 := HSZ.out
           exact ⟨fun e2 => by have := HOL.out _ (.inl e2); omega, fun e2 => by have := HOL.out _ (.inr e2); omega, by omega⟩)
          have HLO := Lib.hid (show ∀ a, pA = some a → w.heap.size ≤ a.block from fun a e => by
           have k1 := (HPP.out.2 a e).1
           have k2 := (HMD.out.ext GW1.out).g.size
           omega)
          have HQF := Lib.hid (show mkQ y m op = qB y m pe (0) (y.par % 3) (0) (0) by rw [mkQ_B, HWHO.out, HPE.out, if_neg H2.out, if_neg H2.out, if_neg (by rw [hlb]; decide), if_neg hu])
          go_upto_region 25 with (first | (at_builtin; go_loud ((refine wpList_app kdQ (by rfl) _ _ (by rfl) w.heap.size _ ls (by rfl) HMX.out.o1 _ 1 1 [⟨qB y m pe (0) (y.par % 3) (0) (0), pA, pn, pc⟩] (by rfl) IX.out (by have := HLS.out; omega) HMX.out.g.size ?_); intro v' w' ho hgr hz; have HM2 := Lib.hid (HMX.out.add1 HPX.out HNE.out HLO.out ho hgr hz); have HM3 := Lib.hid (HM2.out.ext (one_more w' (.cells #[.int .i64 who] 3))); have IW := Lib.hid (one_int (Blk.new w' 3 #[.int .i64 who])); clear ho hgr hz)))
          clear e0 e1 e2 e3 e4 e5 e6 e7 e8
          go_wp2_with (first | (at_builtin; go_loud ((refine wpList_app kdI (by rfl) _ _ (by rfl) w.heap.size _ (whoP x m) (by rfl) HM3.out.o2 _ 1 1 [who] (by rfl) IW.out (by rw [whoP_len]; omega) HM3.out.g.size ?_); intro v2 w2 ho hgr hz; have HM4 := Lib.hid (HM3.out.add2 ho hgr hz); clear ho hgr hz)))
          go_roundw
          case rel => exact ⟨m + 1, ls ++ [⟨qB y m pe (0) (y.par % 3) (0) (0), pA, pn, pc⟩], by omega, rfl, by rw [HN2.out, HIP.out]; rfl, by rw [whoP_succ, HY.out, HWHO.out]; exact HM4.out, by rw [HN1.out, List.map_append, HLQ.out, HQF.out]; rfl⟩
          case measure => simp only [intOf]; omega
      ·have hpb : ¬ (1 : Int) < (pn : Int) := by rw [HPN.out]; omega
       have HIP := Lib.hid (show (if 1 < pe.length then 1 else 0 : Nat) = 0 from if_neg h1p)
       clear h1p
       go_upto_region 17 with fail
       clear e2'
       have k1 : World.cell? wr ⟨b10, 1, none⟩ = some (.int .i64 (1 + y.kind % 8)) := HBA.out.bk.cell 1
       have k3 : World.cell? wr ⟨b10, 3, none⟩ = some (.int .i64 (0)) := HBA.out.bk.cell 3
       have k4 : World.cell? wr ⟨b10, 4, none⟩ = some (.int .i64 (0)) := HBA.out.bk.cell 4
       have kf3 := HBA.out.bk.frozen 3
       have kf4 := HBA.out.bk.frozen 4
       have x3 : World.cell? wr ⟨bX, 3, none⟩ = some (.int .i64 y.oth) := (BX.out.ext HBA.out.g).cell 3
       have x4 : World.cell? wr ⟨bX, 4, none⟩ = some (.int .i64 y.par) := (BX.out.ext HBA.out.g).cell 4
       have hwo : wrap64 (1 + y.oth % 5) = 1 + y.oth % 5 := wrap_in (by omega)
       by_cases h2 : 1 + y.kind % 8 = 2
       ·have h2b : (1 + y.kind % 8 == 2) = true := beq_iff_eq.2 h2
        have H2 := Lib.hid h2
        clear h2
        go_upto_region 20 with (go_at_call 38; (with_reducible refine (TM.out _ _ _ (by omega) (by omega)).mono ?_); rintro e w' ⟨rfl, rfl⟩)
        clear k1 k3 k4 kf3 kf4 x3 x4
        have HB15 := Lib.hid (HBA.out.set 3 (.int .i64 (1 + y.oth % 5)) (p' := ⟨qB y m pe (1 + y.oth % 5) (0) (0) (0), pA, pn, pc⟩) rfl ⟨rfl, rfl, rfl, rfl⟩)
        obtain ⟨Wn15, hWn15⟩ : ∃ X, World.setCell wr ⟨b10, 3, none⟩ (.int .i64 (1 + y.oth % 5)) = X := ⟨_, rfl⟩
        rw [hWn15] at HB15 ⊢
        clear hWn15
        have k1 : World.cell? Wn15 ⟨b10, 1, none⟩ = some (.int .i64 (1 + y.kind % 8)) := HB15.out.bk.cell 1
        have HLA := Lib.hid (refLasts_any (1 + y.kind % 8))
        obtain ⟨lb, hlb⟩ : ∃ b, lastsB (1 + y.kind % 8) = b := ⟨_, rfl⟩
        rw [hlb] at HLA
        cases lb with
        | true =>
         go_upto_region 21 with (go_at_call 99; (with_reducible refine (HLA.out _).mono ?_); rintro e w' ⟨rfl, rfl⟩)
         clear k1
         have k5 := cellW (show World.cell? Wn15 ⟨b10, 5, none⟩ = some (.int .i64 (y.day % 2000)) from HB15.out.bk.cell 5)
         have x6 := cellW (show World.cell? Wn15 ⟨bX, 6, none⟩ = some (.int .i64 y.long) from (BX.out.ext HB15.out.g).cell 6)
         have ha1 : IntKind.i64.wrap (y.day % 2000 + y.long % 450) = y.day % 2000 + y.long % 450 := by rw [IntKind.wrap_i64]; omega
         refine wp_region_calm_tail Wn15 7 (by kernel_rfl) (by kernel_rfl) (Below.refl _ _) ?_
         simp only [List.take_succ_cons, List.take_zero, List.drop_succ_cons, List.drop_zero]
         repeat (go_big_quiet_step (first | (go_at_call 38; exact callsCalmSame (TM.out _ _ _ (by omega) (by omega)))))
         refine wpQuiet_nil ?_
         rintro _ ⟨zl, rfl⟩
         have HZ16 := Lib.hid (HB15.out.ext zl.ok)
         clear k5 x6
         have q6 : World.cell? zl.val ⟨b10, 6, none⟩ = some (.int .i64 0) := HZ16.out.bk.cell 6
         have qf := HZ16.out.bk.frozen 6
         go_upto_region 22 with fail
         clear q6 qf ha1
         have HB17 := Lib.hid (HZ16.out.set 6 (.int .i64 (y.day % 2000 + y.long % 450)) (p' := ⟨qB y m pe (1 + y.oth % 5) (0) (y.day % 2000 + y.long % 450) (0), pA, pn, pc⟩) rfl ⟨rfl, rfl, rfl, rfl⟩)
         obtain ⟨Wn17, hWn17⟩ : ∃ X, World.setCell zl.val ⟨b10, 6, none⟩ (.int .i64 (y.day % 2000 + y.long % 450)) = X := ⟨_, rfl⟩
         rw [hWn17] at HB17 ⊢
         clear hWn17
         have xu : World.cell? Wn17 ⟨bX, 8, none⟩ = some (.int .i64 y.unt) := (BX.out.ext HB17.out.g).cell 8
         by_cases hu : y.unt % 4 = 0
         ·have hub : (y.unt % 4 == 0) = true := beq_iff_eq.2 hu
          go_upto_region 23 with (go_at_call 38; (with_reducible refine (TM.out _ _ _ (by omega) (by omega)).mono ?_); rintro e w' ⟨rfl, rfl⟩)
          have k7 := cellW (show World.cell? Wn17 ⟨b10, 7, none⟩ = some (.int .i64 (y.kno % 40)) from HB17.out.bk.cell 7)
          have x8 := cellW xu
          clear xu
          have ha1 : IntKind.i64.wrap (y.kno % 40 + 1) = y.kno % 40 + 1 := by rw [IntKind.wrap_i64]; omega
          have ha2 : IntKind.i64.wrap (y.unt.tdiv 4) = y.unt.tdiv 4 := HW4.out
          have ha3 : IntKind.i64.wrap (y.kno % 40 + 1 + y.unt.tdiv 4 % 30) = y.kno % 40 + 1 + y.unt.tdiv 4 % 30 := by
           generalize y.unt.tdiv 4 = u9
           rw [IntKind.wrap_i64]; omega
          refine wp_region_calm_tail Wn17 9 (by kernel_rfl) (by kernel_rfl) (Below.refl _ _) ?_
          simp only [List.take_succ_cons, List.take_zero, List.drop_succ_cons, List.drop_zero]
          repeat (go_big_quiet_step (first | (go_at_call 38; exact callsCalmSame (TM.out _ _ _ (by omega) (by omega)))))
          refine wpQuiet_nil ?_
          rintro _ ⟨zu, rfl⟩
          have HZ18 := Lib.hid (HB17.out.ext zu.ok)
          clear k7 x8
          have q8 : World.cell? zu.val ⟨b10, 8, none⟩ = some (.int .i64 0) := HZ18.out.bk.cell 8
          have qf := HZ18.out.bk.frozen 8
          go_upto_region 24 with fail
          clear q8 qf ha1 ha2 ha3
          have HB19 := Lib.hid (HZ18.out.set 8 (.int .i64 (y.kno % 40 + 1 + y.unt.tdiv 4 % 30)) (p' := ⟨qB y m pe (1 + y.oth % 5) (0) (y.day % 2000 + y.long % 450) (y.kno % 40 + 1 + y.unt.tdiv 4 % 30), pA, pn, pc⟩) rfl ⟨rfl, rfl, rfl, rfl⟩)
          obtain ⟨Wn19, hWn19⟩ : ∃ X, World.setCell zu.val ⟨b10, 8, none⟩ (.int .i64 (y.kno % 40 + 1 + y.unt.tdiv 4 % 30)) = X := ⟨_, rfl⟩
          rw [hWn19] at HB19 ⊢
          clear hWn19
          have e0 : World.cell? Wn19 ⟨b10, 0, none⟩ = some (.int .i64 (3 * (m : Int) + 2)) := HB19.out.bk.cell 0
          have e1 : World.cell? Wn19 ⟨b10, 1, none⟩ = some (.int .i64 (1 + y.kind % 8)) := HB19.out.bk.cell 1
          have e2 : World.cell? Wn19 ⟨b10, 2, none⟩ = some (.slice pA pn pc) := HB19.out.bk.cell 2
          have e3 : World.cell? Wn19 ⟨b10, 3, none⟩ = some (.int .i64 (1 + y.oth % 5)) := HB19.out.bk.cell 3
          have e4 : World.cell? Wn19 ⟨b10, 4, none⟩ = some (.int .i64 (0)) := HB19.out.bk.cell 4
          have e5 : World.cell? Wn19 ⟨b10, 5, none⟩ = some (.int .i64 (y.day % 2000)) := HB19.out.bk.cell 5
          have e6 : World.cell? Wn19 ⟨b10, 6, none⟩ = some (.int .i64 (y.day % 2000 + y.long % 450)) := HB19.out.bk.cell 6
          have e7 : World.cell? Wn19 ⟨b10, 7, none⟩ = some (.int .i64 (y.kno % 40)) := HB19.out.bk.cell 7
          have e8 : World.cell? Wn19 ⟨b10, 8, none⟩ = some (.int .i64 (y.kno % 40 + 1 + y.unt.tdiv 4 % 30)) := HB19.out.bk.cell 8
          have HMX := Lib.hid (((HMD.out.ext GW1.out).ext HB19.out.g).ext (one_more Wn19 (.cells #[.int .i64 (3 * (m : Int) + 2), .int .i64 (1 + y.kind % 8), .slice pA pn pc, .int .i64 (1 + y.oth % 5), .int .i64 (0), .int .i64 (y.day % 2000), .int .i64 (y.day % 2000 + y.long % 450), .int .i64 (y.kno % 40), .int .i64 (y.kno % 40 + 1 + y.unt.tdiv 4 % 30)] 56)))
          have IX := Lib.hid (one_pf (x := ⟨qB y m pe (1 + y.oth % 5) (0) (y.day % 2000 + y.long % 450) (y.kno % 40 + 1 + y.unt.tdiv 4 % 30), pA, pn, pc⟩) (Blk.new Wn19 56 #[.int .i64 (3 * (m : Int) + 2), .int .i64 (1 + y.kind % 8), .slice pA pn pc, .int .i64 (1 + y.oth % 5), .int .i64 (0), .int .i64 (y.day % 2000), .int .i64 (y.day % 2000 + y.long % 450), .int .i64 (y.kno % 40), .int .i64 (y.kno % 40 + 1 + y.unt.tdiv 4 % 30)]))
          have HPP := Lib.hid (HB19.out.pi (by show pe.length ≤ 1000; have := HPE3.out; omega))
          have HPX := Lib.hid (HPP.out.1.below (one_more Wn19 (.cells #[.int .i64 (3 * (m : Int) + 2), .int .i64 (1 + y.kind % 8), .slice pA pn pc, .int .i64 (1 + y.oth % 5), .int .i64 (0), .int .i64 (y.day % 2000), .int .i64 (y.day % 2000 + y.long % 450), .int .i64 (y.kno % 40), .int .i64 (y.kno % 40 + 1 + y.unt.tdiv 4 % 30)] 56)))
          have HSZ := Lib.hid (one_more Wn19 (.cells #[.int .i64 (3 * (m : Int) + 2), .int .i64 (1 + y.kind % 8), .slice pA pn pc, .int .i64 (1 + y.oth % 5), .int .i64 (0), .int .i64 (y.day % 2000), .int .i64 (y.day % 2000 + y.long % 450), .int .i64 (y.kno % 40), .int .i64 (y.kno % 40 + 1 + y.unt.tdiv 4 % 30)] 56)).size
          have HNE := Lib.hid (show ∀ a, pA = some a → u4.ownBlock ≠ some a.block ∧ u5.ownBlock ≠ some a.block ∧ a.block < (Wn19.alloc (.cells #[.int .i64 (3 * (m : Int) + 2), .int .i64 (1 + y.kind % 8), .slice pA pn pc, .int .i64 (1 + y.oth % 5), .int .i64 (0), .int .i64 (y.day % 2000), .int .i64 (y.day % 2000 + y.long % 450), .int .i64 (y.kno % 40), .int .i64 (y.kno % 40 + 1 + y.unt.tdiv 4 % 30)] 56)).heap.size from fun a e => by
           obtain ⟨k1, k2⟩ := HPP.out.2 a e
           have k3 := HSZ.out
           exact ⟨fun e2 => by have := HOL.out _ (.inl e2); omega, fun e2 => by have := HOL.out _ (.inr e2); omega, by omega⟩)
          have HLO := Lib.hid (show ∀ a, pA = some a → w.heap.size ≤ a.block from fun a e => by
           have k1 := (HPP.out.2 a e).1
           have k2 := (HMD.out.ext GW1.out).g.size
           omega)
          have HQF := Lib.hid (show mkQ y m op = qB y m pe (1 + y.oth % 5) (0) (y.day % 2000 + y.long % 450) (y.kno % 40 + 1 + y.unt.tdiv 4 % 30) by rw [mkQ_B, HWHO.out, HPE.out, if_pos H2.out, if_pos H2.out, if_pos hlb, if_pos hu])
          go_upto_region 25 with (first | (at_builtin; go_loud ((refine wpList_app kdQ (by rfl) _ _ (by rfl) w.heap.size _ ls (by rfl) HMX.out.o1 _ 1 1 [⟨qB y m pe (1 + y.oth % 5) (0) (y.day % 2000 + y.long % 450) (y.kno % 40 + 1 + y.unt.tdiv 4 % 30), pA, pn, pc⟩] (by rfl) IX.out (by have := HLS.out; omega) HMX.out.g.size ?_); intro v' w' ho hgr hz; have HM2 := Lib.hid (HMX.out.add1 HPX.out HNE.out HLO.out ho hgr hz); have HM3 := Lib.hid (HM2.out.ext (one_more w' (.cells #[.int .i64 who] 3))); have IW := Lib.hid (one_int (Blk.new w' 3 #[.int .i64 who])); clear ho hgr hz)))
          clear e0 e1 e2 e3 e4 e5 e6 e7 e8
          go_wp2_with (first | (at_builtin; go_loud ((refine wpList_app kdI (by rfl) _ _ (by rfl) w.heap.size _ (whoP x m) (by rfl) HM3.out.o2 _ 1 1 [who] (by rfl) IW.out (by rw [whoP_len]; omega) HM3.out.g.size ?_); intro v2 w2 ho hgr hz; have HM4 := Lib.hid (HM3.out.add2 ho hgr hz); clear ho hgr hz)))
          go_roundw
          case rel => exact ⟨m + 1, ls ++ [⟨qB y m pe (1 + y.oth % 5) (0) (y.day % 2000 + y.long % 450) (y.kno % 40 + 1 + y.unt.tdiv 4 % 30), pA, pn, pc⟩], by omega, rfl, by rw [HN2.out, HIP.out]; rfl, by rw [whoP_succ, HY.out, HWHO.out]; exact HM4.out, by rw [HN1.out, List.map_append, HLQ.out, HQF.out]; rfl⟩
          case measure => simp only [intOf]; omega
         ·have hub : (y.unt % 4 == 0) = false := beq_eq_false_iff_ne.2 hu
          go_upto_region 24 with (go_at_call 38; (with_reducible refine (TM.out _ _ _ (by omega) (by omega)).mono ?_); rintro e w' ⟨rfl, rfl⟩)
          clear xu
          have e0 : World.cell? Wn17 ⟨b10, 0, none⟩ = some (.int .i64 (3 * (m : Int) + 2)) := HB17.out.bk.cell 0
          have e1 : World.cell? Wn17 ⟨b10, 1, none⟩ = some (.int .i64 (1 + y.kind % 8)) := HB17.out.bk.cell 1
          have e2 : World.cell? Wn17 ⟨b10, 2, none⟩ = some (.slice pA pn pc) := HB17.out.bk.cell 2
          have e3 : World.cell? Wn17 ⟨b10, 3, none⟩ = some (.int .i64 (1 + y.oth % 5)) := HB17.out.bk.cell 3
          have e4 : World.cell? Wn17 ⟨b10, 4, none⟩ = some (.int .i64 (0)) := HB17.out.bk.cell 4
          have e5 : World.cell? Wn17 ⟨b10, 5, none⟩ = some (.int .i64 (y.day % 2000)) := HB17.out.bk.cell 5
          have e6 : World.cell? Wn17 ⟨b10, 6, none⟩ = some (.int .i64 (y.day % 2000 + y.long % 450)) := HB17.out.bk.cell 6
          have e7 : World.cell? Wn17 ⟨b10, 7, none⟩ = some (.int .i64 (y.kno % 40)) := HB17.out.bk.cell 7
          have e8 : World.cell? Wn17 ⟨b10, 8, none⟩ = some (.int .i64 (0)) := HB17.out.bk.cell 8
          have HMX := Lib.hid (((HMD.out.ext GW1.out).ext HB17.out.g).ext (one_more Wn17 (.cells #[.int .i64 (3 * (m : Int) + 2), .int .i64 (1 + y.kind % 8), .slice pA pn pc, .int .i64 (1 + y.oth % 5), .int .i64 (0), .int .i64 (y.day % 2000), .int .i64 (y.day % 2000 + y.long % 450), .int .i64 (y.kno % 40), .int .i64 (0)] 56)))
          have IX := Lib.hid (one_pf (x := ⟨qB y m pe (1 + y.oth % 5) (0) (y.day % 2000 + y.long % 450) (0), pA, pn, pc⟩) (Blk.new Wn17 56 #[.int .i64 (3 * (m : Int) + 2), .int .i64 (1 + y.kind % 8), .slice pA pn pc, .int .i64 (1 + y.oth % 5), .int .i64 (0), .int .i64 (y.day % 2000), .int .i64 (y.day % 2000 + y.long % 450), .int .i64 (y.kno % 40), .int .i64 (0)]))
          have HPP := Lib.hid (HB17.out.pi (by show pe.length ≤ 1000; have := HPE3.out; omega))
          have HPX := Lib.hid (HPP.out.1.below (one_more Wn17 (.cells #[.int .i64 (3 * (m : Int) + 2), .int .i64 (1 + y.kind % 8), .slice pA pn pc, .int .i64 (1 + y.oth % 5), .int .i64 (0), .int .i64 (y.day % 2000), .int .i64 (y.day % 2000 + y.long % 450), .int .i64 (y.kno % 40), .int .i64 (0)] 56)))
          have HSZ := Lib.hid (one_more Wn17 (.cells #[.int .i64 (3 * (m : Int) + 2), .int .i64 (1 + y.kind % 8), .slice pA pn pc, .int .i64 (1 + y.oth % 5), .int .i64 (0), .int .i64 (y.day % 2000), .int .i64 (y.day % 2000 + y.long % 450), .int .i64 (y.kno % 40), .int .i64 (0)] 56)).size
          have HNE := Lib.hid (show ∀ a, pA = some a → u4.ownBlock ≠ some a.block ∧ u5.ownBlock ≠ some a.block ∧ a.block < (Wn17.alloc (.cells #[.int .i64 (3 * (m : Int) + 2), .int .i64 (1 + y.kind % 8), .slice pA pn pc, .int .i64 (1 + y.oth % 5), .int .i64 (0), .int .i64 (y.day % 2000), .int .i64 (y.day % 2000 + y.long % 450), .int .i64 (y.kno % 40), .int .i64 (0)] 56)).heap.size from fun a e => by
           obtain ⟨k1, k2⟩ := HPP.out.2 a e
           have k3 := HSZ.out
           exact ⟨fun e2 => by have := HOL.out _ (.inl e2); omega, fun e2 => by have := HOL.out _ (.inr e2); omega, by omega⟩)
          have HLO := Lib.hid (show ∀ a, pA = some a → w.heap.size ≤ a.block from fun a e => by
           have k1 := (HPP.out.2 a e).1
           have k2 := (HMD.out.ext GW1.out).g.size
           omega)
          have HQF := Lib.hid (show mkQ y m op = qB y m pe (1 + y.oth % 5) (0) (y.day % 2000 + y.long % 450) (0) by rw [mkQ_B, HWHO.out, HPE.out, if_pos H2.out, if_pos H2.out, if_pos hlb, if_neg hu])
          go_upto_region 25 with (first | (at_builtin; go_loud ((refine wpList_app kdQ (by rfl) _ _ (by rfl) w.heap.size _ ls (by rfl) HMX.out.o1 _ 1 1 [⟨qB y m pe (1 + y.oth % 5) (0) (y.day % 2000 + y.long % 450) (0), pA, pn, pc⟩] (by rfl) IX.out (by have := HLS.out; omega) HMX.out.g.size ?_); intro v' w' ho hgr hz; have HM2 := Lib.hid (HMX.out.add1 HPX.out HNE.out HLO.out ho hgr hz); have HM3 := Lib.hid (HM2.out.ext (one_more w' (.cells #[.int .i64 who] 3))); have IW := Lib.hid (one_int (Blk.new w' 3 #[.int .i64 who])); clear ho hgr hz)))
          clear e0 e1 e2 e3 e4 e5 e6 e7 e8
          go_wp2_with (first | (at_builtin; go_loud ((refine wpList_app kdI (by rfl) _ _ (by rfl) w.heap.size _ (whoP x m) (by rfl) HM3.out.o2 _ 1 1 [who] (by rfl) IW.out (by rw [whoP_len]; omega) HM3.out.g.size ?_); intro v2 w2 ho hgr hz; have HM4 := Lib.hid (HM3.out.add2 ho hgr hz); clear ho hgr hz)))
          go_roundw
          case rel => exact ⟨m + 1, ls ++ [⟨qB y m pe (1 + y.oth % 5) (0) (y.day % 2000 + y.long % 450) (0), pA, pn, pc⟩], by omega, rfl, by rw [HN2.out, HIP.out]; rfl, by rw [whoP_succ, HY.out, HWHO.out]; exact HM4.out, by rw [HN1.out, List.map_append, HLQ.out, HQF.out]; rfl⟩
          case measure => simp only [intOf]; omega
        | false =>
         go_upto_region 22 with (go_at_call 99; (with_reducible refine (HLA.out _).mono ?_); rintro e w' ⟨rfl, rfl⟩)
         clear k1
         have xu : World.cell? Wn15 ⟨bX, 8, none⟩ = some (.int .i64 y.unt) := (BX.out.ext HB15.out.g).cell 8
         by_cases hu : y.unt % 4 = 0
         ·have hub : (y.unt % 4 == 0) = true := beq_iff_eq.2 hu
          go_upto_region 23 with (go_at_call 38; (with_reducible refine (TM.out _ _ _ (by omega) (by omega)).mono ?_); rintro e w' ⟨rfl, rfl⟩)
          have k7 := cellW (show World.cell? Wn15 ⟨b10, 7, none⟩ = some (.int .i64 (y.kno % 40)) from HB15.out.bk.cell 7)
          have x8 := cellW xu
          clear xu
          have ha1 : IntKind.i64.wrap (y.kno % 40 + 1) = y.kno % 40 + 1 := by rw [IntKind.wrap_i64]; omega
          have ha2 : IntKind.i64.wrap (y.unt.tdiv 4) = y.unt.tdiv 4 := HW4.out
          have ha3 : IntKind.i64.wrap (y.kno % 40 + 1 + y.unt.tdiv 4 % 30) = y.kno % 40 + 1 + y.unt.tdiv 4 % 30 := by
           generalize y.unt.tdiv 4 = u9
           rw [IntKind.wrap_i64]; omega
          refine wp_region_calm_tail Wn15 9 (by kernel_rfl) (by kernel_rfl) (Below.refl _ _) ?_
          simp only [List.take_succ_cons, List.take_zero, List.drop_succ_cons, List.drop_zero]
          repeat (go_big_quiet_step (first | (go_at_call 38; exact callsCalmSame (TM.out _ _ _ (by omega) (by omega)))))
          refine wpQuiet_nil ?_
          rintro _ ⟨zu, rfl⟩
          have HZ20 := Lib.hid (HB15.out.ext zu.ok)
          clear k7 x8
          have q8 : World.cell? zu.val ⟨b10, 8, none⟩ = some (.int .i64 0) := HZ20.out.bk.cell 8
          have qf := HZ20.out.bk.frozen 8
          go_upto_region 24 with fail
          clear q8 qf ha1 ha2 ha3
          have HB21 := Lib.hid (HZ20.out.set 8 (.int .i64 (y.kno % 40 + 1 + y.unt.tdiv 4 % 30)) (p' := ⟨qB y m pe (1 + y.oth % 5) (0) (0) (y.kno % 40 + 1 + y.unt.tdiv 4 % 30), pA, pn, pc⟩) rfl ⟨rfl, rfl, rfl, rfl⟩)
          obtain ⟨Wn21, hWn21⟩ : ∃ X, World.setCell zu.val ⟨b10, 8, none⟩ (.int .i64 (y.kno % 40 + 1 + y.unt.tdiv 4 % 30)) = X := ⟨_, rfl⟩
          rw [hWn21] at HB21 ⊢
          clear hWn21
          have e0 : World.cell? Wn21 ⟨b10, 0, none⟩ = some (.int .i64 (3 * (m : Int) + 2)) := HB21.out.bk.cell 0
          have e1 : World.cell? Wn21 ⟨b10, 1, none⟩ = some (.int .i64 (1 + y.kind % 8)) := HB21.out.bk.cell 1
          have e2 : World.cell? Wn21 ⟨b10, 2, none⟩ = some (.slice pA pn pc) := HB21.out.bk.cell 2
          have e3 : World.cell? Wn21 ⟨b10, 3, none⟩ = some (.int .i64 (1 + y.oth % 5)) := HB21.out.bk.cell 3
          have e4 : World.cell? Wn21 ⟨b10, 4, none⟩ = some (.int .i64 (0)) := HB21.out.bk.cell 4
          have e5 : World.cell? Wn21 ⟨b10, 5, none⟩ = some (.int .i64 (y.day % 2000)) := HB21.out.bk.cell 5
          have e6 : World.cell? Wn21 ⟨b10, 6, none⟩ = some (.int .i64 (0)) := HB21.out.bk.cell 6
          have e7 : World.cell? Wn21 ⟨b10, 7, none⟩ = some (.int .i64 (y.kno % 40)) := HB21.out.bk.cell 7
          have e8 : World.cell? Wn21 ⟨b10, 8, none⟩ = some (.int .i64 (y.kno % 40 + 1 + y.unt.tdiv 4 % 30)) := HB21.out.bk.cell 8
          have HMX := Lib.hid (((HMD.out.ext GW1.out).ext HB21.out.g).ext (one_more Wn21 (.cells #[.int .i64 (3 * (m : Int) + 2), .int .i64 (1 + y.kind % 8), .slice pA pn pc, .int .i64 (1 + y.oth % 5), .int .i64 (0), .int .i64 (y.day % 2000), .int .i64 (0), .int .i64 (y.kno % 40), .int .i64 (y.kno % 40 + 1 + y.unt.tdiv 4 % 30)] 56)))
          have IX := Lib.hid (one_pf (x := ⟨qB y m pe (1 + y.oth % 5) (0) (0) (y.kno % 40 + 1 + y.unt.tdiv 4 % 30), pA, pn, pc⟩) (Blk.new Wn21 56 #[.int .i64 (3 * (m : Int) + 2), .int .i64 (1 + y.kind % 8), .slice pA pn pc, .int .i64 (1 + y.oth % 5), .int .i64 (0), .int .i64 (y.day % 2000), .int .i64 (0), .int .i64 (y.kno % 40), .int .i64 (y.kno % 40 + 1 + y.unt.tdiv 4 % 30)]))
          have HPP := Lib.hid (HB21.out.pi (by show pe.length ≤ 1000; have := HPE3.out; omega))
          have HPX := Lib.hid (HPP.out.1.below (one_more Wn21 (.cells #[.int .i64 (3 * (m : Int) + 2), .int .i64 (1 + y.kind % 8), .slice pA pn pc, .int .i64 (1 + y.oth % 5), .int .i64 (0), .int .i64 (y.day % 2000), .int .i64 (0), .int .i64 (y.kno % 40), .int .i64 (y.kno % 40 + 1 + y.unt.tdiv 4 % 30)] 56)))
          have HSZ := Lib.hid (one_more Wn21 (.cells #[.int .i64 (3 * (m : Int) + 2), .int .i64 (1 + y.kind % 8), .slice pA pn pc, .int .i64 (1 + y.oth % 5), .int .i64 (0), .int .i64 (y.day % 2000), .int .i64 (0), .int .i64 (y.kno % 40), .int .i64 (y.kno % 40 + 1 + y.unt.tdiv 4 % 30)] 56)).size
          have HNE := Lib.hid (show ∀ a, pA = some a → u4.ownBlock ≠ some a.block ∧ u5.ownBlock ≠ some a.block ∧ a.block < (Wn21.alloc (.cells #[.int .i64 (3 * (m : Int) + 2), .int .i64 (1 + y.kind % 8), .slice pA pn pc, .int .i64 (1 + y.oth % 5), .int .i64 (0), .int .i64 (y.day % 2000), .int .i64 (0), .int .i64 (y.kno % 40), .int .i64 (y.kno % 40 + 1 + y.unt.tdiv 4 % 30)] 56)).heap.size from fun a e => by
           obtain ⟨k1, k2⟩ := HPP.out.2 a e
           have k3 := HSZ.out
           exact ⟨fun e2 => by have := HOL.out _ (.inl e2); omega, fun e2 => by have := HOL.out _ (.inr e2); omega, by omega⟩)
          have HLO := Lib.hid (show ∀ a, pA = some a → w.heap.size ≤ a.block from fun a e => by
           have k1 := (HPP.out.2 a e).1
           have k2 := (HMD.out.ext GW1.out).g.size
           omega)
          have HQF := Lib.hid (show mkQ y m op = qB y m pe (1 + y.oth % 5) (0) (0) (y.kno % 40 + 1 + y.unt.tdiv 4 % 30) by rw [mkQ_B, HWHO.out, HPE.out, if_pos H2.out, if_pos H2.out, if_neg (by rw [hlb]; decide), if_pos hu])
          go_upto_region 25 with (first | (at_builtin; go_loud ((refine wpList_app kdQ (by rfl) _ _ (by rfl) w.heap.size _ ls (by rfl) HMX.out.o1 _ 1 1 [⟨qB y m pe (1 + y.oth % 5) (0) (0) (y.kno % 40 + 1 + y.unt.tdiv 4 % 30), pA, pn, pc⟩] (by rfl) IX.out (by have := HLS.out; omega) HMX.out.g.size ?_); intro v' w' ho hgr hz; have HM2 := Lib.hid (HMX.out.add1 HPX.out HNE.out HLO.out ho hgr hz); have HM3 := Lib.hid (HM2.out.ext (one_more w' (.cells #[.int .i64 who] 3))); have IW := Lib.hid (one_int (Blk.new w' 3 #[.int .i64 who])); clear ho hgr hz)))
          clear e0 e1 e2 e3 e4 e5 e6 e7 e8
          go_wp2_with (first | (at_builtin; go_loud ((refine wpList_app kdI (by rfl) _ _ (by rfl) w.heap.size _ (whoP x m) (by rfl) HM3.out.o2 _ 1 1 [who] (by rfl) IW.out (by rw [whoP_len]; omega) HM3.out.g.size ?_); intro v2 w2 ho hgr hz; have HM4 := Lib.hid (HM3.out.add2 ho hgr hz); clear ho hgr hz)))
          go_roundw
          case rel => exact ⟨m + 1, ls ++ [⟨qB y m pe (1 + y.oth % 5) (0) (0) (y.kno % 40 + 1 + y.unt.tdiv 4 % 30), pA, pn, pc⟩], by omega, rfl, by rw [HN2.out, HIP.out]; rfl, by rw [whoP_succ, HY.out, HWHO.out]; exact HM4.out, by rw [HN1.out, List.map_append, HLQ.out, HQF.out]; rfl⟩
          case measure => simp only [intOf]; omega
         ·have hub : (y.unt % 4 == 0) = false := beq_eq_false_iff_ne.2 hu
          go_upto_region 24 with (go_at_call 38; (with_reducible refine (TM.out _ _ _ (by omega) (by omega)).mono ?_); rintro e w' ⟨rfl, rfl⟩)
          clear xu
          have e0 : World.cell? Wn15 ⟨b10, 0, none⟩ = some (.int .i64 (3 * (m : Int) + 2)) := HB15.out.bk.cell 0
          have e1 : World.cell? Wn15 ⟨b10, 1, none⟩ = some (.int .i64 (1 + y.kind % 8)) := HB15.out.bk.cell 1
          have e2 : World.cell? Wn15 ⟨b10, 2, none⟩ = some (.slice pA pn pc) := HB15.out.bk.cell 2
          have e3 : World.cell? Wn15 ⟨b10, 3, none⟩ = some (.int .i64 (1 + y.oth % 5)) := HB15.out.bk.cell 3
          have e4 : World.cell? Wn15 ⟨b10, 4, none⟩ = some (.int .i64 (0)) := HB15.out.bk.cell 4
          have e5 : World.cell? Wn15 ⟨b10, 5, none⟩ = some (.int .i64 (y.day % 2000)) := HB15.out.bk.cell 5
          have e6 : World.cell? Wn15 ⟨b10, 6, none⟩ = some (.int .i64 (0)) := HB15.out.bk.cell 6
          have e7 : World.cell? Wn15 ⟨b10, 7, none⟩ = some (.int .i64 (y.kno % 40)) := HB15.out.bk.cell 7
          have e8 : World.cell? Wn15 ⟨b10, 8, none⟩ = some (.int .i64 (0)) := HB15.out.bk.cell 8
          have HMX := Lib.hid (((HMD.out.ext GW1.out).ext HB15.out.g).ext (one_more Wn15 (.cells #[.int .i64 (3 * (m : Int) + 2), .int .i64 (1 + y.kind % 8), .slice pA pn pc, .int .i64 (1 + y.oth % 5), .int .i64 (0), .int .i64 (y.day % 2000), .int .i64 (0), .int .i64 (y.kno % 40), .int .i64 (0)] 56)))
          have IX := Lib.hid (one_pf (x := ⟨qB y m pe (1 + y.oth % 5) (0) (0) (0), pA, pn, pc⟩) (Blk.new Wn15 56 #[.int .i64 (3 * (m : Int) + 2), .int .i64 (1 + y.kind % 8), .slice pA pn pc, .int .i64 (1 + y.oth % 5), .int .i64 (0), .int .i64 (y.day % 2000), .int .i64 (0), .int .i64 (y.kno % 40), .int .i64 (0)]))
          have HPP := Lib.hid (HB15.out.pi (by show pe.length ≤ 1000; have := HPE3.out; omega))
          have HPX := Lib.hid (HPP.out.1.below (one_more Wn15 (.cells #[.int .i64 (3 * (m : Int) + 2), .int .i64 (1 + y.kind % 8), .slice pA pn pc, .int .i64 (1 + y.oth % 5), .int .i64 (0), .int .i64 (y.day % 2000), .int .i64 (0), .int .i64 (y.kno % 40), .int .i64 (0)] 56)))
          have HSZ := Lib.hid (one_more Wn15 (.cells #[.int .i64 (3 * (m : Int) + 2), .int .i64 (1 + y.kind % 8), .slice pA pn pc, .int .i64 (1 + y.oth % 5), .int .i64 (0), .int .i64 (y.day % 2000), .int .i64 (0), .int .i64 (y.kno % 40), .int .i64 (0)] 56)).size
          have HNE := Lib.hid (show ∀ a, pA = some a → u4.ownBlock ≠ some a.block ∧ u5.ownBlock ≠ some a.block ∧ a.block < (Wn15.alloc (.cells #[.int .i64 (3 * (m : Int) + 2), .int .i64 (1 + y.kind % 8), .slice pA pn pc, .int .i64 (1 + y.oth % 5), .int .i64 (0), .int .i64 (y.day % 2000), .int .i64 (0), .int .i64 (y.kno % 40), .int .i64 (0)] 56)).heap.size from fun a e => by
           obtain ⟨k1, k2⟩ := HPP.out.2 a e
           have k3 := HSZ.out
           exact ⟨fun e2 => by have := HOL.out _ (.inl e2); omega, fun e2 => by have := HOL.out _ (.inr e2); omega, by omega⟩)
          have HLO := Lib.hid (show ∀ a, pA = some a → w.heap.size ≤ a.block from fun a e => by
           have k1 := (HPP.out.2 a e).1
           have k2 := (HMD.out.ext GW1.out).g.size
           omega)
          have HQF := Lib.hid (show mkQ y m op = qB y m pe (1 + y.oth % 5) (0) (0) (0) by rw [mkQ_B, HWHO.out, HPE.out, if_pos H2.out, if_pos H2.out, if_neg (by rw [hlb]; decide), if_neg hu])
          go_upto_region 25 with (first | (at_builtin; go_loud ((refine wpList_app kdQ (by rfl) _ _ (by rfl) w.heap.size _ ls (by rfl) HMX.out.o1 _ 1 1 [⟨qB y m pe (1 + y.oth % 5) (0) (0) (0), pA, pn, pc⟩] (by rfl) IX.out (by have := HLS.out; omega) HMX.out.g.size ?_); intro v' w' ho hgr hz; have HM2 := Lib.hid (HMX.out.add1 HPX.out HNE.out HLO.out ho hgr hz); have HM3 := Lib.hid (HM2.out.ext (one_more w' (.cells #[.int .i64 who] 3))); have IW := Lib.hid (one_int (Blk.new w' 3 #[.int .i64 who])); clear ho hgr hz)))
          clear e0 e1 e2 e3 e4 e5 e6 e7 e8
          go_wp2_with (first | (at_builtin; go_loud ((refine wpList_app kdI (by rfl) _ _ (by rfl) w.heap.size _ (whoP x m) (by rfl) HM3.out.o2 _ 1 1 [who] (by rfl) IW.out (by rw [whoP_len]; omega) HM3.out.g.size ?_); intro v2 w2 ho hgr hz; have HM4 := Lib.hid (HM3.out.add2 ho hgr hz); clear ho hgr hz)))
          go_roundw
          case rel => exact ⟨m + 1, ls ++ [⟨qB y m pe (1 + y.oth % 5) (0) (0) (0), pA, pn, pc⟩], by omega, rfl, by rw [HN2.out, HIP.out]; rfl, by rw [whoP_succ, HY.out, HWHO.out]; exact HM4.out, by rw [HN1.out, List.map_append, HLQ.out, HQF.out]; rfl⟩
          case measure => simp only [intOf]; omega
       ·have h2b : (1 + y.kind % 8 == 2) = false := beq_eq_false_iff_ne.2 h2
        have H2 := Lib.hid h2
        clear h2
        go_upto_region 20 with (go_at_call 38; (with_reducible refine (TM.out _ _ _ (by omega) (by omega)).mono ?_); rintro e w' ⟨rfl, rfl⟩)
        clear k1 k3 k4 kf3 kf4 x3 x4
        have HB22 := Lib.hid (HBA.out.set 4 (.int .i64 (y.par % 3)) (p' := ⟨qB y m pe (0) (y.par % 3) (0) (0), pA, pn, pc⟩) rfl ⟨rfl, rfl, rfl, rfl⟩)
        obtain ⟨Wn22, hWn22⟩ : ∃ X, World.setCell wr ⟨b10, 4, none⟩ (.int .i64 (y.par % 3)) = X := ⟨_, rfl⟩
        rw [hWn22] at HB22 ⊢
        clear hWn22
        have k1 : World.cell? Wn22 ⟨b10, 1, none⟩ = some (.int .i64 (1 + y.kind % 8)) := HB22.out.bk.cell 1
        have HLA := Lib.hid (refLasts_any (1 + y.kind % 8))
        obtain ⟨lb, hlb⟩ : ∃ b, lastsB (1 + y.kind % 8) = b := ⟨_, rfl⟩
        rw [hlb] at HLA
        cases lb with
        | true =>
         go_upto_region 21 with (go_at_call 99; (with_reducible refine (HLA.out _).mono ?_); rintro e w' ⟨rfl, rfl⟩)
         clear k1
         have k5 := cellW (show World.cell? Wn22 ⟨b10, 5, none⟩ = some (.int .i64 (y.day % 2000)) from HB22.out.bk.cell 5)
         have x6 := cellW (show World.cell? Wn22 ⟨bX, 6, none⟩ = some (.int .i64 y.long) from (BX.out.ext HB22.out.g).cell 6)
         have ha1 : IntKind.i64.wrap (y.day % 2000 + y.long % 450) = y.day % 2000 + y.long % 450 := by rw [IntKind.wrap_i64]; omega
         refine wp_region_calm_tail Wn22 7 (by kernel_rfl) (by kernel_rfl) (Below.refl _ _) ?_
         simp only [List.take_succ_cons, List.take_zero, List.drop_succ_cons, List.drop_zero]
         repeat (go_big_quiet_step (first | (go_at_call 38; exact callsCalmSame (TM.out _ _ _ (by omega) (by omega)))))
         refine wpQuiet_nil ?_
         rintro _ ⟨zl, rfl⟩
         have HZ23 := Lib.hid (HB22.out.ext zl.ok)
         clear k5 x6
         have q6 : World.cell? zl.val ⟨b10, 6, none⟩ = some (.int .i64 0) := HZ23.out.bk.cell 6
         have qf := HZ23.out.bk.frozen 6
         go_upto_region 22 with fail
         clear q6 qf ha1
         have HB24 := Lib.hid (HZ23.out.set 6 (.int .i64 (y.day % 2000 + y.long % 450)) (p' := ⟨qB y m pe (0) (y.par % 3) (y.day % 2000 + y.long % 450) (0), pA, pn, pc⟩) rfl ⟨rfl, rfl, rfl, rfl⟩)
         obtain ⟨Wn24, hWn24⟩ : ∃ X, World.setCell zl.val ⟨b10, 6, none⟩ (.int .i64 (y.day % 2000 + y.long % 450)) = X := ⟨_, rfl⟩
         rw [hWn24] at HB24 ⊢
         clear hWn24
         have xu : World.cell? Wn24 ⟨bX, 8, none⟩ = some (.int .i64 y.unt) := (BX.out.ext HB24.out.g).cell 8
         by_cases hu : y.unt % 4 = 0
         ·have hub : (y.unt % 4 == 0) = true := beq_iff_eq.2 hu
          go_upto_region 23 with (go_at_call 38; (with_reducible refine (TM.out _ _ _ (by omega) (by omega)).mono ?_); rintro e w' ⟨rfl, rfl⟩)
          have k7 := cellW (show World.cell? Wn24 ⟨b10, 7, none⟩ = some (.int .i64 (y.kno % 40)) from HB24.out.bk.cell 7)
          have x8 := cellW xu
          clear xu
          have ha1 : IntKind.i64.wrap (y.kno % 40 + 1) = y.kno % 40 + 1 := by rw [IntKind.wrap_i64]; omega
          have ha2 : IntKind.i64.wrap (y.unt.tdiv 4) = y.unt.tdiv 4 := HW4.out
          have ha3 : IntKind.i64.wrap (y.kno % 40 + 1 + y.unt.tdiv 4 % 30) = y.kno % 40 + 1 + y.unt.tdiv 4 % 30 := by
           generalize y.unt.tdiv 4 = u9
           rw [IntKind.wrap_i64]; omega
          refine wp_region_calm_tail Wn24 9 (by kernel_rfl) (by kernel_rfl) (Below.refl _ _) ?_
          simp only [List.take_succ_cons, List.take_zero, List.drop_succ_cons, List.drop_zero]
          repeat (go_big_quiet_step (first | (go_at_call 38; exact callsCalmSame (TM.out _ _ _ (by omega) (by omega)))))
          refine wpQuiet_nil ?_
          rintro _ ⟨zu, rfl⟩
          have HZ25 := Lib.hid (HB24.out.ext zu.ok)
          clear k7 x8
          have q8 : World.cell? zu.val ⟨b10, 8, none⟩ = some (.int .i64 0) := HZ25.out.bk.cell 8
          have qf := HZ25.out.bk.frozen 8
          go_upto_region 24 with fail
          clear q8 qf ha1 ha2 ha3
          have HB26 := Lib.hid (HZ25.out.set 8 (.int .i64 (y.kno % 40 + 1 + y.unt.tdiv 4 % 30)) (p' := ⟨qB y m pe (0) (y.par % 3) (y.day % 2000 + y.long % 450) (y.kno % 40 + 1 + y.unt.tdiv 4 % 30), pA, pn, pc⟩) rfl ⟨rfl, rfl, rfl, rfl⟩)
          obtain ⟨Wn26, hWn26⟩ : ∃ X, World.setCell zu.val ⟨b10, 8, none⟩ (.int .i64 (y.kno % 40 + 1 + y.unt.tdiv 4 % 30)) = X := ⟨_, rfl⟩
          rw [hWn26] at HB26 ⊢
          clear hWn26
          have e0 : World.cell? Wn26 ⟨b10, 0, none⟩ = some (.int .i64 (3 * (m : Int) + 2)) := HB26.out.bk.cell 0
          have e1 : World.cell? Wn26 ⟨b10, 1, none⟩ = some (.int .i64 (1 + y.kind % 8)) := HB26.out.bk.cell 1
          have e2 : World.cell? Wn26 ⟨b10, 2, none⟩ = some (.slice pA pn pc) := HB26.out.bk.cell 2
          have e3 : World.cell? Wn26 ⟨b10, 3, none⟩ = some (.int .i64 (0)) := HB26.out.bk.cell 3
          have e4 : World.cell? Wn26 ⟨b10, 4, none⟩ = some (.int .i64 (y.par % 3)) := HB26.out.bk.cell 4
          have e5 : World.cell? Wn26 ⟨b10, 5, none⟩ = some (.int .i64 (y.day % 2000)) := HB26.out.bk.cell 5
          have e6 : World.cell? Wn26 ⟨b10, 6, none⟩ = some (.int .i64 (y.day % 2000 + y.long % 450)) := HB26.out.bk.cell 6
          have e7 : World.cell? Wn26 ⟨b10, 7, none⟩ = some (.int .i64 (y.kno % 40)) := HB26.out.bk.cell 7
          have e8 : World.cell? Wn26 ⟨b10, 8, none⟩ = some (.int .i64 (y.kno % 40 + 1 + y.unt.tdiv 4 % 30)) := HB26.out.bk.cell 8
          have HMX := Lib.hid (((HMD.out.ext GW1.out).ext HB26.out.g).ext (one_more Wn26 (.cells #[.int .i64 (3 * (m : Int) + 2), .int .i64 (1 + y.kind % 8), .slice pA pn pc, .int .i64 (0), .int .i64 (y.par % 3), .int .i64 (y.day % 2000), .int .i64 (y.day % 2000 + y.long % 450), .int .i64 (y.kno % 40), .int .i64 (y.kno % 40 + 1 + y.unt.tdiv 4 % 30)] 56)))
          have IX := Lib.hid (one_pf (x := ⟨qB y m pe (0) (y.par % 3) (y.day % 2000 + y.long % 450) (y.kno % 40 + 1 + y.unt.tdiv 4 % 30), pA, pn, pc⟩) (Blk.new Wn26 56 #[.int .i64 (3 * (m : Int) + 2), .int .i64 (1 + y.kind % 8), .slice pA pn pc, .int .i64 (0), .int .i64 (y.par % 3), .int .i64 (y.day % 2000), .int .i64 (y.day % 2000 + y.long % 450), .int .i64 (y.kno % 40), .int .i64 (y.kno % 40 + 1 + y.unt.tdiv 4 % 30)]))
          have HPP := Lib.hid (HB26.out.pi (by show pe.length ≤ 1000; have := HPE3.out; omega))
          have HPX := Lib.hid (HPP.out.1.below (one_more Wn26 (.cells #[.int .i64 (3 * (m : Int) + 2), .int .i64 (1 + y.kind % 8), .slice pA pn pc, .int .i64 (0), .int .i64 (y.par % 3), .int .i64 (y.day % 2000), .int .i64 (y.day % 2000 + y.long % 450), .int .i64 (y.kno % 40), .int .i64 (y.kno % 40 + 1 + y.unt.tdiv 4 % 30)] 56)))
          have HSZ := Lib.hid (one_more Wn26 (.cells #[.int .i64 (3 * (m : Int) + 2), .int .i64 (1 + y.kind % 8), .slice pA pn pc, .int .i64 (0), .int .i64 (y.par % 3), .int .i64 (y.day % 2000), .int .i64 (y.day % 2000 + y.long % 450), .int .i64 (y.kno % 40), .int .i64 (y.kno % 40 + 1 + y.unt.tdiv 4 % 30)] 56)).size
          have HNE := Lib.hid (show ∀ a, pA = some a → u4.ownBlock ≠ some a.block ∧ u5.ownBlock ≠ some a.block ∧ a.block < (Wn26.alloc (.cells #[.int .i64 (3 * (m : Int) + 2), .int .i64 (1 + y.kind % 8), .slice pA pn pc, .int .i64 (0), .int .i64 (y.par % 3), .int .i64 (y.day % 2000), .int .i64 (y.day % 2000 + y.long % 450), .int .i64 (y.kno % 40), .int .i64 (y.kno % 40 + 1 + y.unt.tdiv 4 % 30)] 56)).heap.size from fun a e => by
           obtain ⟨k1, k2⟩ := HPP.out.2 a e
           have k3 := HSZ.out
           exact ⟨fun e2 => by have := HOL.out _ (.inl e2); omega, fun e2 => by have := HOL.out _ (.inr e2); omega, by omega⟩)
          have HLO := Lib.hid (show ∀ a, pA = some a → w.heap.size ≤ a.block from fun a e => by
           have k1 := (HPP.out.2 a e).1
           have k2 := (HMD.out.ext GW1.out).g.size
           omega)
          have HQF := Lib.hid (show mkQ y m op = qB y m pe (0) (y.par % 3) (y.day % 2000 + y.long % 450) (y.kno % 40 + 1 + y.unt.tdiv 4 % 30) by rw [mkQ_B, HWHO.out, HPE.out, if_neg H2.out, if_neg H2.out, if_pos hlb, if_pos hu])
          go_upto_region 25 with (first | (at_builtin; go_loud ((refine wpList_app kdQ (by rfl) _ _ (by rfl) w.heap.size _ ls (by rfl) HMX.out.o1 _ 1 1 [⟨qB y m pe (0) (y.par % 3) (y.day % 2000 + y.long % 450) (y.kno % 40 + 1 + y.unt.tdiv 4 % 30), pA, pn, pc⟩] (by rfl) IX.out (by have := HLS.out; omega) HMX.out.g.size ?_); intro v' w' ho hgr hz; have HM2 := Lib.hid (HMX.out.add1 HPX.out HNE.out HLO.out ho hgr hz); have HM3 := Lib.hid (HM2.out.ext (one_more w' (.cells #[.int .i64 who] 3))); have IW := Lib.hid (one_int (Blk.new w' 3 #[.int .i64 who])); clear ho hgr hz)))
          clear e0 e1 e2 e3 e4 e5 e6 e7 e8
          go_wp2_with (first | (at_builtin; go_loud ((refine wpList_app kdI (by rfl) _ _ (by rfl) w.heap.size _ (whoP x m) (by rfl) HM3.out.o2 _ 1 1 [who] (by rfl) IW.out (by rw [whoP_len]; omega) HM3.out.g.size ?_); intro v2 w2 ho hgr hz; have HM4 := Lib.hid (HM3.out.add2 ho hgr hz); clear ho hgr hz)))
          go_roundw
          case rel => exact ⟨m + 1, ls ++ [⟨qB y m pe (0) (y.par % 3) (y.day % 2000 + y.long % 450) (y.kno % 40 + 1 + y.unt.tdiv 4 % 30), pA, pn, pc⟩], by omega, rfl, by rw [HN2.out, HIP.out]; rfl, by rw [whoP_succ, HY.out, HWHO.out]; exact HM4.out, by rw [HN1.out, List.map_append, HLQ.out, HQF.out]; rfl⟩
          case measure => simp only [intOf]; omega
         ·have hub : (y.unt % 4 == 0) = false := beq_eq_false_iff_ne.2 hu
          go_upto_region 24 with (go_at_call 38; (with_reducible refine (TM.out _ _ _ (by omega) (by omega)).mono ?_); rintro e w' ⟨rfl, rfl⟩)
          clear xu
          have e0 : World.cell? Wn24 ⟨b10, 0, none⟩ = some (.int .i64 (3 * (m : Int) + 2)) := HB24.out.bk.cell 0
          have e1 : World.cell? Wn24 ⟨b10, 1, none⟩ = some (.int .i64 (1 + y.kind % 8)) := HB24.out.bk.cell 1
          have e2 : World.cell? Wn24 ⟨b10, 2, none⟩ = some (.slice pA pn pc) := HB24.out.bk.cell 2
          have e3 : World.cell? Wn24 ⟨b10, 3, none⟩ = some (.int .i64 (0)) := HB24.out.bk.cell 3
          have e4 : World.cell? Wn24 ⟨b10, 4, none⟩ = some (.int .i64 (y.par % 3)) := HB24.out.bk.cell 4
          have e5 : World.cell? Wn24 ⟨b10, 5, none⟩ = some (.int .i64 (y.day % 2000)) := HB24.out.bk.cell 5
          have e6 : World.cell? Wn24 ⟨b10, 6, none⟩ = some (.int .i64 (y.day % 2000 + y.long % 450)) := HB24.out.bk.cell 6
          have e7 : World.cell? Wn24 ⟨b10, 7, none⟩ = some (.int .i64 (y.kno % 40)) := HB24.out.bk.cell 7
          have e8 : World.cell? Wn24 ⟨b10, 8, none⟩ = some (.int .i64 (0)) := HB24.out.bk.cell 8
          have HMX := Lib.hid (((HMD.out.ext GW1.out).ext HB24.out.g).ext (one_more Wn24 (.cells #[.int .i64 (3 * (m : Int) + 2), .int .i64 (1 + y.kind % 8), .slice pA pn pc, .int .i64 (0), .int .i64 (y.par % 3), .int .i64 (y.day % 2000), .int .i64 (y.day % 2000 + y.long % 450), .int .i64 (y.kno % 40), .int .i64 (0)] 56)))
          have IX := Lib.hid (one_pf (x := ⟨qB y m pe (0) (y.par % 3) (y.day % 2000 + y.long % 450) (0), pA, pn, pc⟩) (Blk.new Wn24 56 #[.int .i64 (3 * (m : Int) + 2), .int .i64 (1 + y.kind % 8), .slice pA pn pc, .int .i64 (0), .int .i64 (y.par % 3), .int .i64 (y.day % 2000), .int .i64 (y.day % 2000 + y.long % 450), .int .i64 (y.kno % 40), .int .i64 (0)]))
          have HPP := Lib.hid (HB24.out.pi (by show pe.length ≤ 1000; have := HPE3.out; omega))
          have HPX := Lib.hid (HPP.out.1.below (one_more Wn24 (.cells #[.int .i64 (3 * (m : Int) + 2), .int .i64 (1 + y.kind % 8), .slice pA pn pc, .int .i64 (0), .int .i64 (y.par % 3), .int .i64 (y.day % 2000), .int .i64 (y.day % 2000 + y.long % 450), .int .i64 (y.kno % 40), .int .i64 (0)] 56)))
          have HSZ := Lib.hid (one_more Wn24 (.cells #[.int .i64 (3 * (m : Int) + 2), .int .i64 (1 + y.kind % 8), .slice pA pn pc, .int .i64 (0), .int .i64 (y.par % 3), .int .i64 (y.day % 2000), .int .i64 (y.day % 2000 + y.long % 450), .int .i64 (y.kno % 40), .int .i64 (0)] 56)).size
          have HNE := Lib.hid (show ∀ a, pA = some a → u4.ownBlock ≠ some a.block ∧ u5.ownBlock ≠ some a.block ∧ a.block < (Wn24.alloc (.cells #[.int .i64 (3 * (m : Int) + 2), .int .i64 (1 + y.kind % 8), .slice pA pn pc, .int .i64 (0), .int .i64 (y.par % 3), .int .i64 (y.day % 2000), .int .i64 (y.day % 2000 + y.long % 450), .int .i64 (y.kno % 40), .int .i64 (0)] 56)).heap.size from fun a e => by
           obtain ⟨k1, k2⟩ := HPP.out.2 a e
           have k3 := HSZ.out
           exact ⟨fun e2 => by have := HOL.out _ (.inl e2); omega, fun e2 => by have := HOL.out _ (.inr e2); omega, by omega⟩)
          have HLO := Lib.hid (show ∀ a, pA = some a → w.heap.size ≤ a.block from fun a e => by
           have k1 := (HPP.out.2 a e).1
           have k2 := (HMD.out.ext GW1.out).g.size
           omega)
          have HQF := Lib.hid (show mkQ y m op = qB y m pe (0) (y.par % 3) (y.day % 2000 + y.long % 450) (0) by rw [mkQ_B, HWHO.out, HPE.out, if_neg H2.out, if_neg H2.out, if_pos hlb, if_neg hu])
          go_upto_region 25 with (first | (at_builtin; go_loud ((refine wpList_app kdQ (by rfl) _ _ (by rfl) w.heap.size _ ls (by rfl) HMX.out.o1 _ 1 1 [⟨qB y m pe (0) (y.par % 3) (y.day % 2000 + y.long % 450) (0), pA, pn, pc⟩] (by rfl) IX.out (by have := HLS.out; omega) HMX.out.g.size ?_); intro v' w' ho hgr hz; have HM2 := Lib.hid (HMX.out.add1 HPX.out HNE.out HLO.out ho hgr hz); have HM3 := Lib.hid (HM2.out.ext (one_more w' (.cells #[.int .i64 who] 3))); have IW := Lib.hid (one_int (Blk.new w' 3 #[.int .i64 who])); clear ho hgr hz)))
          clear e0 e1 e2 e3 e4 e5 e6 e7 e8
          go_wp2_with (first | (at_builtin; go_loud ((refine wpList_app kdI (by rfl) _ _ (by rfl) w.heap.size _ (whoP x m) (by rfl) HM3.out.o2 _ 1 1 [who] (by rfl) IW.out (by rw [whoP_len]; omega) HM3.out.g.size ?_); intro v2 w2 ho hgr hz; have HM4 := Lib.hid (HM3.out.add2 ho hgr hz); clear ho hgr hz)))
          go_roundw
          case rel => exact ⟨m + 1, ls ++ [⟨qB y m pe (0) (y.par % 3) (y.day % 2000 + y.long % 450) (0), pA, pn, pc⟩], by omega, rfl, by rw [HN2.out, HIP.out]; rfl, by rw [whoP_succ, HY.out, HWHO.out]; exact HM4.out, by rw [HN1.out, List.map_append, HLQ.out, HQF.out]; rfl⟩
          case measure => simp only [intOf]; omega
        | false =>
         go_upto_region 22 with (go_at_call 99; (with_reducible refine (HLA.out _).mono ?_); rintro e w' ⟨rfl, rfl⟩)
         clear k1
         have xu : World.cell? Wn22 ⟨bX, 8, none⟩ = some (.int .i64 y.unt) := (BX.out.ext HB22.out.g).cell 8
         by_cases hu : y.unt % 4 = 0
         ·have hub : (y.unt % 4 == 0) = true := beq_iff_eq.2 hu
          go_upto_region 23 with (go_at_call 38; (with_reducible refine (TM.out _ _ _ (by omega) (by omega)).mono ?_); rintro e w' ⟨rfl, rfl⟩)
          have k7 := cellW (show World.cell? Wn22 ⟨b10, 7, none⟩ = some (.int .i64 (y.kno % 40)) from HB22.out.bk.cell 7)
          have x8 := cellW xu
          clear xu
          have ha1 : IntKind.i64.wrap (y.kno % 40 + 1) = y.kno % 40 + 1 := by rw [IntKind.wrap_i64]; omega
          have ha2 : IntKind.i64.wrap (y.unt.tdiv 4) = y.unt.tdiv 4 := HW4.out
          have ha3 : IntKind.i64.wrap (y.kno % 40 + 1 + y.unt.tdiv 4 % 30) = y.kno % 40 + 1 + y.unt.tdiv 4 % 30 := by
           generalize y.unt.tdiv 4 = u9
           rw [IntKind.wrap_i64]; omega
          refine wp_region_calm_tail Wn22 9 (by kernel_rfl) (by kernel_rfl) (Below.refl _ _) ?_
          simp only [List.take_succ_cons, List.take_zero, List.drop_succ_cons, List.drop_zero]
          repeat (go_big_quiet_step (first | (go_at_call 38; exact callsCalmSame (TM.out _ _ _ (by omega) (by omega)))))
          refine wpQuiet_nil ?_
          rintro _ ⟨zu, rfl⟩
          have HZ27 := Lib.hid (HB22.out.ext zu.ok)
          clear k7 x8
          have q8 : World.cell? zu.val ⟨b10, 8, none⟩ = some (.int .i64 0) := HZ27.out.bk.cell 8
          have qf := HZ27.out.bk.frozen 8
          go_upto_region 24 with fail
          clear q8 qf ha1 ha2 ha3
          have HB28 := Lib.hid (HZ27.out.set 8 (.int .i64 (y.kno % 40 + 1 + y.unt.tdiv 4 % 30)) (p' := ⟨qB y m pe (0) (y.par % 3) (0) (y.kno % 40 + 1 + y.unt.tdiv 4 % 30), pA, pn, pc⟩) rfl ⟨rfl, rfl, rfl, rfl⟩)
          obtain ⟨Wn28, hWn28⟩ : ∃ X, World.setCell zu.val ⟨b10, 8, none⟩ (.int .i64 (y.kno % 40 + 1 + y.unt.tdiv 4 % 30)) = X := ⟨_, rfl⟩
          rw [hWn28] at HB28 ⊢
          clear hWn28
          have e0 : World.cell? Wn28 ⟨b10, 0, none⟩ = some (.int .i64 (3 * (m : Int) + 2)) := HB28.out.bk.cell 0
          have e1 : World.cell? Wn28 ⟨b10, 1, none⟩ = some (.int .i64 (1 + y.kind % 8)) := HB28.out.bk.cell 1
          have e2 : World.cell? Wn28 ⟨b10, 2, none⟩ = some (.slice pA pn pc) := HB28.out.bk.cell 2
          have e3 : World.cell? Wn28 ⟨b10, 3, none⟩ = some (.int .i64 (0)) := HB28.out.bk.cell 3
          have e4 : World.cell? Wn28 ⟨b10, 4, none⟩ = some (.int .i64 (y.par % 3)) := HB28.out.bk.cell 4
          have e5 : World.cell? Wn28 ⟨b10, 5, none⟩ = some (.int .i64 (y.day % 2000)) := HB28.out.bk.cell 5
          have e6 : World.cell? Wn28 ⟨b10, 6, none⟩ = some (.int .i64 (0)) := HB28.out.bk.cell 6
          have e7 : World.cell? Wn28 ⟨b10, 7, none⟩ = some (.int .i64 (y.kno % 40)) := HB28.out.bk.cell 7
          have e8 : World.cell? Wn28 ⟨b10, 8, none⟩ = some (.int .i64 (y.kno % 40 + 1 + y.unt.tdiv 4 % 30)) := HB28.out.bk.cell 8
          have HMX := Lib.hid (((HMD.out.ext GW1.out).ext HB28.out.g).ext (one_more Wn28 (.cells #[.int .i64 (3 * (m : Int) + 2), .int .i64 (1 + y.kind % 8), .slice pA pn pc, .int .i64 (0), .int .i64 (y.par % 3), .int .i64 (y.day % 2000), .int .i64 (0), .int .i64 (y.kno % 40), .int .i64 (y.kno % 40 + 1 + y.unt.tdiv 4 % 30)] 56)))
          have IX := Lib.hid (one_pf (x := ⟨qB y m pe (0) (y.par % 3) (0) (y.kno % 40 + 1 + y.unt.tdiv 4 % 30), pA, pn, pc⟩) (Blk.new Wn28 56 #[.int .i64 (3 * (m : Int) + 2), .int .i64 (1 + y.kind % 8), .slice pA pn pc, .int .i64 (0), .int .i64 (y.par % 3), .int .i64 (y.day % 2000), .int .i64 (0), .int .i64 (y.kno % 40), .int .i64 (y.kno % 40 + 1 + y.unt.tdiv 4 % 30)]))
          have HPP := Lib.hid (HB28.out.pi (by show pe.length ≤ 1000; have := HPE3.out; omega))
          have HPX := Lib.hid (HPP.out.1.below (one_more Wn28 (.cells #[.int .i64 (3 * (m : Int) + 2), .int .i64 (1 + y.kind % 8), .slice pA pn pc, .int .i64 (0), .int .i64 (y.par % 3), .int .i64 (y.day % 2000), .int .i64 (0), .int .i64 (y.kno % 40), .int .i64 (y.kno % 40 + 1 + y.unt.tdiv 4 % 30)] 56)))
          have HSZ := Lib.hid (one_more Wn28 (.cells #[.int .i64 (3 * (m : Int) + 2), .int .i64 (1 + y.kind % 8), .slice pA pn pc, .int .i64 (0), .int .i64 (y.par % 3), .int .i64 (y.day % 2000), .int .i64 (0), .int .i64 (y.kno % 40), .int .i64 (y.kno % 40 + 1 + y.unt.tdiv 4 % 30)] 56)).size
          have HNE := Lib.hid (show ∀ a, pA = some a → u4.ownBlock ≠ some a.block ∧ u5.ownBlock ≠ some a.block ∧ a.block < (Wn28.alloc (.cells #[.int .i64 (3 * (m : Int) + 2), .int .i64 (1 + y.kind % 8), .slice pA pn pc, .int .i64 (0), .int .i64 (y.par % 3), .int .i64 (y.day % 2000), .int .i64 (0), .int .i64 (y.kno % 40), .int .i64 (y.kno % 40 + 1 + y.unt.tdiv 4 % 30)] 56)).heap.size from fun a e => by
           obtain ⟨k1, k2⟩ := HPP.out.2 a e
           have k3 := HSZ.out
           exact ⟨fun e2 => by have := HOL.out _ (.inl e2); omega, fun e2 => by have := HOL.out _ (.inr e2); omega, by omega⟩)
          have HLO := Lib.hid (show ∀ a, pA = some a → w.heap.size ≤ a.block from fun a e => by
           have k1 := (HPP.out.2 a e).1
           have k2 := (HMD.out.ext GW1.out).g.size
           omega)
          have HQF := Lib.hid (show mkQ y m op = qB y m pe (0) (y.par % 3) (0) (y.kno % 40 + 1 + y.unt.tdiv 4 % 30) by rw [mkQ_B, HWHO.out, HPE.out, if_neg H2.out, if_neg H2.out, if_neg (by rw [hlb]; decide), if_pos hu])
          go_upto_region 25 with (first | (at_builtin; go_loud ((refine wpList_app kdQ (by rfl) _ _ (by rfl) w.heap.size _ ls (by rfl) HMX.out.o1 _ 1 1 [⟨qB y m pe (0) (y.par % 3) (0) (y.kno % 40 + 1 + y.unt.tdiv 4 % 30), pA, pn, pc⟩] (by rfl) IX.out (by have := HLS.out; omega) HMX.out.g.size ?_); intro v' w' ho hgr hz; have HM2 := Lib.hid (HMX.out.add1 HPX.out HNE.out HLO.out ho hgr hz); have HM3 := Lib.hid (HM2.out.ext (one_more w' (.cells #[.int .i64 who] 3))); have IW := Lib.hid (one_int (Blk.new w' 3 #[.int .i64 who])); clear ho hgr hz)))
          clear e0 e1 e2 e3 e4 e5 e6 e7 e8
          go_wp2_with (first | (at_builtin; go_loud ((refine wpList_app kdI (by rfl) _ _ (by rfl) w.heap.size _ (whoP x m) (by rfl) HM3.out.o2 _ 1 1 [who] (by rfl) IW.out (by rw [whoP_len]; omega) HM3.out.g.size ?_); intro v2 w2 ho hgr hz; have HM4 := Lib.hid (HM3.out.add2 ho hgr hz); clear ho hgr hz)))
          go_roundw
          case rel => exact ⟨m + 1, ls ++ [⟨qB y m pe (0) (y.par % 3) (0) (y.kno % 40 + 1 + y.unt.tdiv 4 % 30), pA, pn, pc⟩], by omega, rfl, by rw [HN2.out, HIP.out]; rfl, by rw [whoP_succ, HY.out, HWHO.out]; exact HM4.out, by rw [HN1.out, List.map_append, HLQ.out, HQF.out]; rfl⟩
          case measure => simp only [intOf]; omega
         ·have hub : (y.unt % 4 == 0) = false := beq_eq_false_iff_ne.2 hu
          go_upto_region 24 with (go_at_call 38; (with_reducible refine (TM.out _ _ _ (by omega) (by omega)).mono ?_); rintro e w' ⟨rfl, rfl⟩)
          clear xu
          have e0 : World.cell? Wn22 ⟨b10, 0, none⟩ = some (.int .i64 (3 * (m : Int) + 2)) := HB22.out.bk.cell 0
          have e1 : World.cell? Wn22 ⟨b10, 1, none⟩ = some (.int .i64 (1 + y.kind % 8)) := HB22.out.bk.cell 1
          have e2 : World.cell? Wn22 ⟨b10, 2, none⟩ = some (.slice pA pn pc) := HB22.out.bk.cell 2
          have e3 : World.cell? Wn22 ⟨b10, 3, none⟩ = some (.int .i64 (0)) := HB22.out.bk.cell 3
          have e4 : World.cell? Wn22 ⟨b10, 4, none⟩ = some (.int .i64 (y.par % 3)) := HB22.out.bk.cell 4
          have e5 : World.cell? Wn22 ⟨b10, 5, none⟩ = some (.int .i64 (y.day % 2000)) := HB22.out.bk.cell 5
          have e6 : World.cell? Wn22 ⟨b10, 6, none⟩ = some (.int .i64 (0)) := HB22.out.bk.cell 6
          have e7 : World.cell? Wn22 ⟨b10, 7, none⟩ = some (.int .i64 (y.kno % 40)) := HB22.out.bk.cell 7
          have e8 : World.cell? Wn22 ⟨b10, 8, none⟩ = some (.int .i64 (0)) := HB22.out.bk.cell 8
          have HMX := Lib.hid (((HMD.out.ext GW1.out).ext HB22.out.g).ext (one_more Wn22 (.cells #[.int .i64 (3 * (m : Int) + 2), .int .i64 (1 + y.kind % 8), .slice pA pn pc, .int .i64 (0), .int .i64 (y.par % 3), .int .i64 (y.day % 2000), .int .i64 (0), .int .i64 (y.kno % 40), .int .i64 (0)] 56)))
          have IX := Lib.hid (one_pf (x := ⟨qB y m pe (0) (y.par % 3) (0) (0), pA, pn, pc⟩) (Blk.new Wn22 56 #[.int .i64 (3 * (m : Int) + 2), .int .i64 (1 + y.kind % 8), .slice pA pn pc, .int .i64 (0), .int .i64 (y.par % 3), .int .i64 (y.day % 2000), .int .i64 (0), .int .i64 (y.kno % 40), .int .i64 (0)]))
          have HPP := Lib.hid (HB22.out.pi (by show pe.length ≤ 1000; have := HPE3.out; omega))
          have HPX := Lib.hid (HPP.out.1.below (one_more Wn22 (.cells #[.int .i64 (3 * (m : Int) + 2), .int .i64 (1 + y.kind % 8), .slice pA pn pc, .int .i64 (0), .int .i64 (y.par % 3), .int .i64 (y.day % 2000), .int .i64 (0), .int .i64 (y.kno % 40), .int .i64 (0)] 56)))
          have HSZ := Lib.hid (one_more Wn22 (.cells #[.int .i64 (3 * (m : Int) + 2), .int .i64 (1 + y.kind % 8), .slice pA pn pc, .int .i64 (0), .int .i64 (y.par % 3), .int .i64 (y.day % 2000), .int .i64 (0), .int .i64 (y.kno % 40), .int .i64 (0)] 56)).size
          have HNE := Lib.hid (show ∀ a, pA = some a → u4.ownBlock ≠ some a.block ∧ u5.ownBlock ≠ some a.block ∧ a.block < (Wn22.alloc (.cells #[.int .i64 (3 * (m : Int) + 2), .int .i64 (1 + y.kind % 8), .slice pA pn pc, .int .i64 (0), .int .i64 (y.par % 3), .int .i64 (y.day % 2000), .int .i64 (0), .int .i64 (y.kno % 40), .int .i64 (0)] 56)).heap.size from fun a e => by
           obtain ⟨k1, k2⟩ := HPP.out.2 a e
           have k3 := HSZ.out
           exact ⟨fun e2 => by have := HOL.out _ (.inl e2); omega, fun e2 => by have := HOL.out _ (.inr e2); omega, by omega⟩)
          have HLO := Lib.hid (show ∀ a, pA = some a → w.heap.size ≤ a.block from fun a e => by
           have k1 := (HPP.out.2 a e).1
           have k2 := (HMD.out.ext GW1.out).g.size
           omega)
          have HQF := Lib.hid (show mkQ y m op = qB y m pe (0) (y.par % 3) (0) (0) by rw [mkQ_B, HWHO.out, HPE.out, if_neg H2.out, if_neg H2.out, if_neg (by rw [hlb]; decide), if_neg hu])
          go_upto_region 25 with (first | (at_builtin; go_loud ((refine wpList_app kdQ (by rfl) _ _ (by rfl) w.heap.size _ ls (by rfl) HMX.out.o1 _ 1 1 [⟨qB y m pe (0) (y.par % 3) (0) (0), pA, pn, pc⟩] (by rfl) IX.out (by have := HLS.out; omega) HMX.out.g.size ?_); intro v' w' ho hgr hz; have HM2 := Lib.hid (HMX.out.add1 HPX.out HNE.out HLO.out ho hgr hz); have HM3 := Lib.hid (HM2.out.ext (one_more w' (.cells #[.int .i64 who] 3))); have IW := Lib.hid (one_int (Blk.new w' 3 #[.int .i64 who])); clear ho hgr hz)))
          clear e0 e1 e2 e3 e4 e5 e6 e7 e8
          go_wp2_with (first | (at_builtin; go_loud ((refine wpList_app kdI (by rfl) _ _ (by rfl) w.heap.size _ (whoP x m) (by rfl) HM3.out.o2 _ 1 1 [who] (by rfl) IW.out (by rw [whoP_len]; omega) HM3.out.g.size ?_); intro v2 w2 ho hgr hz; have HM4 := Lib.hid (HM3.out.add2 ho hgr hz); clear ho hgr hz)))
          go_roundw
          case rel => exact ⟨m + 1, ls ++ [⟨qB y m pe (0) (y.par % 3) (0) (0), pA, pn, pc⟩], by omega, rfl, by rw [HN2.out, HIP.out]; rfl, by rw [whoP_succ, HY.out, HWHO.out]; exact HM4.out, by rw [HN1.out, List.map_append, HLQ.out, HQF.out]; rfl⟩
          case measure => simp only [intOf]; omega
  ·obtain rfl : m = mn := by omega
   have HE := Lib.hid (show ls.map Pf.q = ml by rw [HLQ.out, HND.out.1])
   have HE2 := Lib.hid (show Md w wr u4 u5 ls wl by rw [HND.out.2]; exact HMD.out)
   by_cases hkn : m < n
   ·have hk1 : (m : Int) < (n : Int) := by omega
    have hk2 : ¬ (m : Int) < 10 := by have := HMN.out; omega
    go_wp2_with fail
    go_ret2
    exact ⟨_, _, rfl, ls, HE2.out, HE.out⟩
   ·have hk1 : ¬ (m : Int) < (n : Int) := by omega
    go_wp2_with fail
    go_ret2
    exact ⟨_, _, rfl, ls, HE2.out, HE.out⟩
end Go.Proofs.YtehhlgdkhecacaaGreat
