/- Part of the proof: EN. -/
import Derived.Test.YtehhlgdkhecacaaGreatXA2
import Derived.Test.YtehhlgdkhecacaaGreatXA3
import Derived.Test.YtehhlgdkhecacaaGreatXA4
namespace Go.Proofs.YtehhlgdkhecacaaGreat
open Go.RowKit Go.Shelf
/-- A list of one's own of proofs whose persons lie elsewhere, laid behind a world. -/
structure Ls (V W : World) (v : Value) (os : List Pf) : Prop where
 g : Below V.heap.size V W
 o : OwnL pcells 9 56 W V.heap.size v os
 per : ∀ p ∈ os, PI W p ∧ ∀ a, p.A = some a → v.ownBlock ≠ some a.block ∧ a.block < W.heap.size
section
variable {V W W2 : World} {v v' : Value} {os : List Pf}
theorem Ls.nil (V : World) : Ls V V (.slice none 0 0) [] := ⟨Below.refl _ _, OwnL.nil _ _, fun p hp => by cases hp⟩
theorem Ls.ext (h : Ls V W v os) (k : Below W.heap.size W W2) : Ls V W2 v os :=
 ⟨h.g.trans (k.mono h.g.size), h.o.ext k, fun p hp => ⟨(h.per p hp).1.below k, fun a e => by
  obtain ⟨h1, h3⟩ := (h.per p hp).2 a e
  exact ⟨h1, Nat.lt_of_lt_of_le h3 k.size⟩⟩⟩
theorem Ls.add (h : Ls V W v os) {p : Pf} (hp : PI W p) (hne : ∀ a, p.A = some a → v.ownBlock ≠ some a.block ∧ a.block < W.heap.size) (ho : OwnL pcells 9 56 W2 V.heap.size v' (os ++ [p])) (hg : W.grownBy W2 v.ownBlock)
  (hz : v'.ownBlock = v.ownBlock ∨ v'.ownBlock = some W.heap.size) : Ls V W2 v' (os ++ [p]) := by
 refine ⟨h.g.trans (h.o.below hg (Nat.le_refl _) h.g.size), ho, fun q hq => ?_⟩
 have hall : PI W q ∧ ∀ a, q.A = some a → v.ownBlock ≠ some a.block ∧ a.block < W.heap.size := by
  rw [List.mem_append, List.mem_singleton] at hq
  rcases hq with hq | rfl
  ·exact h.per q hq
  ·exact ⟨hp, hne⟩
 obtain ⟨h1, h2⟩ := hall
 refine ⟨⟨ints_grown h1.i (fun a e => (h2 a e).1) hg, h1.m⟩, fun a e => ?_⟩
 obtain ⟨k1, k3⟩ := h2 a e
 refine ⟨?_, Nat.lt_of_lt_of_le k3 hg.size⟩
 rcases hz with hz | hz
 ·rw [hz]; exact k1
 ·rw [hz]; intro e2; have := Option.some.inj e2; omega
end
theorem les_cnt {l : List Qf} {k j : Nat} (h : ∀ q ∈ l, q.kno = 0 ∧ q.unt = 0) (hk : k < l.length) : cntL (lesL l k j) 0 = lesL l k j := cntL_all fun q hq => by
 rcases List.mem_or_eq_of_mem_set hq with hq | rfl
 ·obtain ⟨h1, h2⟩ := h q hq
  exact ⟨by omega, h2⟩
 ·have hm : l.getD k q0 ∈ l := by
   rw [List.getD_eq_getElem?_getD, List.getElem?_eq_getElem hk]
   exact List.getElem_mem hk
  obtain ⟨h1, h2⟩ := h _ hm
  exact ⟨by show (l.getD k q0).kno ≤ 0; omega, h2⟩
theorem hon_zero (x : List Ra) : ∀ q ∈ honL x, q.kno = 0 ∧ q.unt = 0 := fun q hq => ((hon_spec x (madeN x) (Nat.le_refl _)).2.2.1 q hq).2
set_option maxRecDepth 100000 in
set_option maxHeartbeats 16000000 in
theorem law7_any (A : Option Addr) (n c : Nat) (x : List Ra) (z0 z1 z2 z3 z4 : Int) (w : World) (ha : Arr rcells 9 w A n x) (hn : n ≤ 9223372036854775807) (hx : ∀ r ∈ x, RaOk r) :
  Calls Tryz.prog 7 #[.slice A n c, .agg #[.int .i64 z0, .int .i64 z1, .int .i64 z2, .int .i64 z3, .int .i64 z4]] w fun e w' => e = .returned (.bool true) ∧ Below w.heap.size w w' := by
 obtain ⟨W1, hW1⟩ : ∃ X, w.alloc (.cells #[.int .i64 z0, .int .i64 z1, .int .i64 z2, .int .i64 z3, .int .i64 z4] 51) = X := ⟨_, rfl⟩
 have G1 := Lib.hid (show Below w.heap.size w W1 by rw [← hW1]; exact one_more _ _)
 have B1 := Lib.hid (show Blk W1 w.heap.size 51 #[.int .i64 z0, .int .i64 z1, .int .i64 z2, .int .i64 z3, .int .i64 z4] by rw [← hW1]; exact Blk.new _ _ _)
 have HW1 := Lib.hid hW1
 have TM := Lib.hid refMod_any
 have TS := Lib.hid sane_any
 have TH := Lib.hid (honest_any A n c x W1 (ha.below G1.out) hn hx)
 have HOK := Lib.hid (hon_ok x)
 have HRD := Lib.hid (hon_rd x)
 have HCN := Lib.hid (hon_cnt x)
 have HLE := Lib.hid (hon_le x)
 have HZR := Lib.hid (hon_zero x)
 obtain ⟨hl, hhl⟩ : ∃ l, honL x = l := ⟨_, rfl⟩
 obtain ⟨hw, hhw⟩ : ∃ l, honW x = l := ⟨_, rfl⟩
 rw [hhl] at TH HOK HRD HCN HLE HZR
 rw [hhw] at TH HRD
 clear ha hx hhl hhw hW1
 go_enter Tryz.func7, Tryz.ntmps7
 go_upto_region 1 with fail
 rw [HW1.out]
 go_upto_region 2 with (go_at_call 43; (with_reducible refine (TH.out).mono ?_); rintro e V ⟨A1, n1, c1, A2, n2, c2, ls, rfl, hp, hq, hi, hn1, hn2, hc2, hg⟩; have HP := Lib.hid hp; have HQ := Lib.hid hq; have HN := Lib.hid (show n1 ≤ 1000 by omega); have GV := Lib.hid hg; have HG := Lib.hid (G1.out.trans (hg.mono G1.out.size)); clear hp hq hi hn1 hn2 hc2 hg)
 have HLN := Lib.hid (show hl.length = n1 by rw [← HQ.out, List.length_map]; exact HP.out.len)
 have HLS := Lib.hid (show ls.length = n1 from HP.out.len)
 have hn10 : n1 ≤ 10 := by have := HLE.out; have := HLN.out; omega
 have HBX := Lib.hid (B1.out.ext GV.out)
 obtain ⟨bX, hbX⟩ : ∃ b, w.heap.size = b := ⟨_, rfl⟩
 have HBXE := Lib.hid hbX
 rw [hbX] at HBX ⊢
 clear hbX
 by_cases h0 : n1 = 0
 ·have h0b : ((n1 : Int) == 0) = true := beq_iff_eq.2 (by omega)
  go_wp2_with (go_at_call 20; (with_reducible refine (TS.out _).mono ?_); rintro e V9 ⟨rfl, hg⟩; have GV9 := Lib.hid hg; clear hg)
  go_ret
  exact ⟨rfl, HG.out.trans (GV9.out.mono HG.out.size)⟩
 ·have h0b : ((n1 : Int) == 0) = false := beq_eq_false_iff_ne.2 (by omega)
  have d0 := HBX.out.cell 0
  have hz0 : 0 ≤ z0 % (n1 : Int) := Int.emod_nonneg _ (by omega)
  have hz1 : z0 % (n1 : Int) < (n1 : Int) := Int.emod_lt_of_pos _ (by omega)
  obtain ⟨kk, hkk⟩ : ∃ k : Nat, z0 % (n1 : Int) = k := ⟨(z0 % (n1 : Int)).toNat, by omega⟩
  have HKK := Lib.hid (show kk < n1 by omega)
  have TMk := Lib.hid (fun W => (show Calls Tryz.prog 38 #[.int .i64 z0, .int .i64 (n1 : Int)] W fun e w' => e = .returned (.int .i64 (kk : Int)) ∧ W = w' by rw [← hkk]; exact TM.out _ _ W (by omega) (by omega)))
  clear hz0 hz1 hkk
  obtain ⟨yk, hyk⟩ : ∃ y, ls.getD kk p0 = y := ⟨_, rfl⟩
  have HYKQ := Lib.hid (show hl.getD kk q0 = yk.q by rw [← HQ.out, map_pf (by rw [HLS.out]; exact HKK.out), hyk])
  have HYM := Lib.hid (show yk ∈ ls by rw [← hyk]; exact mem_pf (by rw [HLS.out]; exact HKK.out))
  have HP4 := Lib.hid (fun p (hp : p ∈ ls) => isQf_per4 (okL_all HOK.out p.q (by rw [← HQ.out]; exact List.mem_map.2 ⟨p, hp, rfl⟩)))
  have HPN := Lib.hid (fun p (hp : p ∈ ls) => (show 1 ≤ p.n ∧ p.n ≤ 4 by have h1 := HP4.out p hp; have h2 := (HP.out.p p hp).len; omega))
  have hyn := HPN.out yk HYM.out
  have hj0 : 0 ≤ z1 % (yk.n : Int) := Int.emod_nonneg _ (by omega)
  have hj1 : z1 % (yk.n : Int) < (yk.n : Int) := Int.emod_lt_of_pos _ (by omega)
  obtain ⟨jj, hjj⟩ : ∃ k : Nat, z1 % (yk.n : Int) = k := ⟨(z1 % (yk.n : Int)).toNat, by omega⟩
  have HJJ := Lib.hid (show jj < yk.n by omega)
  have TMj := Lib.hid (fun W => (show Calls Tryz.prog 38 #[.int .i64 z1, .int .i64 (yk.n : Int)] W fun e w' => e = .returned (.int .i64 (jj : Int)) ∧ W = w' by rw [← hjj]; exact TM.out _ _ W (by omega) (by omega)))
  have HJP := Lib.hid (show jj < (hl.getD kk q0).per.length by rw [HYKQ.out]; have := (HP.out.p yk HYM.out).len; have := HJJ.out; omega)
  clear hyn hj0 hj1 hjj
  have HYK := Lib.hid hyk
  have HLO := Lib.hid (les_ok HOK.out HJP.out (by rw [HLN.out]; exact HKK.out))
  have HLC := Lib.hid (les_cnt (k := kk) (j := jj) HZR.out (by rw [HLN.out]; exact HKK.out))
  have HLL := Lib.hid (les_len hl kk jj)
  have HLR := Lib.hid (les_reads HJP.out).length_le
  have HLI := Lib.hid (fun r (h : isRd (lesL hl kk jj) r = true) => les_isRd HJP.out h)
  have HLW := Lib.hid (fun p d v (h : v ∈ wherS (lesL hl kk jj) p d) => les_wher HJP.out h)
  have HLG := Lib.hid (fun p d v hr h => les_right (person := p) (day := d) (parish := v) HJP.out hr h)
  have HLA := Lib.hid (fun m (hm : m < n1) => (show (lesL hl kk jj).take (m + 1) = (lesL hl kk jj).take m ++ [(lesL hl kk jj).getD m q0] from take_snoc (by rw [HLL.out, HLN.out]; exact hm)))
  have HLB := Lib.hid (fun m (hm : m < n1) => (show (lesL hl kk jj).getD m q0 = if m = kk then lesQ yk.q jj else (ls.getD m p0).q by
   rw [les_at, HYKQ.out]
   by_cases e : m = kk
   ·rw [if_pos ⟨e, by rw [HLN.out]; exact hm⟩, if_pos e]
   ·rw [if_neg (fun h => e h.1), if_neg e, ← HQ.out, map_pf (by rw [HLS.out]; exact hm)]))
  have HLT := Lib.hid (show (lesL hl kk jj).take n1 = lesL hl kk jj from List.take_of_length_le (by rw [HLL.out, HLN.out]; exact Nat.le_refl _))
  obtain ⟨le, hle⟩ : ∃ l, lesL hl kk jj = l := ⟨_, rfl⟩
  rw [hle] at HLO HLC HLL HLR HLI HLW HLG HLT
  simp only [hle] at HLA HLB
  clear hyk hle
  have HL0 := Lib.hid (Ls.nil V)
  go_upto_region 5 with (go_at_call 38; (with_reducible refine (TMk.out _).mono ?_); rintro e w' ⟨rfl, rfl⟩)
  clear d0
  go_wp2_with fail
  go_loopw [8, 9] (fun v i wr => ∃ (m : Nat) (os : List Pf), m ≤ n1 ∧ i = .int .i64 m ∧ Ls V wr v os ∧ os.map Pf.q = le.take m) (fun _ i _ => n1 - (intOf i).toNat)
  case atStart => exact ⟨0, [], Nat.zero_le _, rfl, HL0.out, rfl⟩
  case round =>
   obtain ⟨m, os, hm, rfl, hls, hoq⟩ := hrel
   have HL := Lib.hid hls
   have HOQ := Lib.hid hoq
   have hg := hls.g
   have hwm : wrap64 ((m : Int) + 1) = (m : Int) + 1 := wrap_in (by omega)
   clear hls hoq
   by_cases hmn : m < n1
   ·obtain ⟨b, o, rfl, -, hyi, hym, hyc⟩ := (HP.out.below hg).at hmn
    obtain ⟨y, hy⟩ : ∃ y, ls.getD m p0 = y := ⟨_, rfl⟩
    have HTK := Lib.hid (HLA.out m hmn)
    have HTB := Lib.hid (HLB.out m hmn)
    rw [hy] at hyi hym hyc HTB
    obtain ⟨e0, e1, e2, e3, e4, e5, e6, e7, e8⟩ := hyc _ (Below.refl _ _)
    have HYI := Lib.hid hyi
    have HY := Lib.hid hy
    have HYN := Lib.hid (HPN.out y hym)
    have HYA := Lib.hid (show ∀ a, y.A = some a → a.block < V.heap.size from fun a e => by
     obtain ⟨b9, o9, e9, hb9, -⟩ := (HP.out.p y hym).i.2 (by have := HYN.out; omega)
     rw [e9] at e; cases e; exact hb9)
    have HOL := Lib.hid (show os.length ≤ 10 by
     have h1 := congrArg List.length HOQ.out
     rw [List.length_map, List.length_take] at h1
     omega)
    obtain ⟨W2, hW2⟩ : ∃ X, wr.alloc (.cells #[.int .i64 y.q.src, .int .i64 y.q.kind, .slice y.A y.n y.c, .int .i64 y.q.oth, .int .i64 y.q.par, .int .i64 y.q.day, .int .i64 y.q.thr, .int .i64 y.q.kno, .int .i64 y.q.unt] 56) = X := ⟨_, rfl⟩
    have GW2 := Lib.hid (show Below wr.heap.size wr W2 by rw [← hW2]; exact one_more _ _)
    have BW2 := Lib.hid (show Blk W2 wr.heap.size 56 #[.int .i64 y.q.src, .int .i64 y.q.kind, .slice y.A y.n y.c, .int .i64 y.q.oth, .int .i64 y.q.par, .int .i64 y.q.day, .int .i64 y.q.thr, .int .i64 y.q.kno, .int .i64 y.q.unt] by rw [← hW2]; exact Blk.new _ _ _)
    have HW2 := Lib.hid hW2
    clear hW2 hy hyi hym hyc
    go_upto_region 10 with fail
    rw [HW2.out]
    obtain ⟨bP, hbP⟩ : ∃ b, wr.heap.size = b := ⟨_, rfl⟩
    have HBPL := Lib.hid (show wr.heap.size ≤ bP by omega)
    rw [hbP] at BW2 ⊢
    clear hbP e0 e1 e2 e3 e4 e5 e6 e7 e8 hg
    by_cases hmk : m = kk
    ·have hmb : ((m : Int) == (kk : Int)) = true := beq_iff_eq.2 (by omega)
     have HYY := Lib.hid (show y = yk by rw [← HY.out, hmk, HYK.out])
     have HTE := Lib.hid (show le.getD m q0 = lesQ y.q jj by rw [HTB.out, if_pos hmk, HYY.out])
     have HJN := Lib.hid (show jj < y.n by rw [HYY.out]; exact HJJ.out)
     rw [← HYY.out] at TMj
     obtain ⟨bp, op, hpa, -, -, hpc⟩ := ints_at (HYI.out.below GW2.out).i HJN.out
     obtain ⟨pe, hpe⟩ : ∃ t, y.q.per.getD jj 0 = t := ⟨_, rfl⟩
     rw [hpe] at hpc
     have HPE := Lib.hid hpe
     have HPA := Lib.hid hpa
     have x2 := cellW (show W2.cell? ⟨bP, 2, none⟩ = some (.slice y.A y.n y.c) from BW2.out.cell 2)
     rw [hpa] at x2
     have x1 := cellW ((HBX.out.ext (HL.out.g.trans (GW2.out.mono HL.out.g.size))).cell 1)
     have xp := cellW (hpc _ (Below.refl _ _))
     have hjn : (jj : Int) < (y.n : Int) := by have := HJN.out; omega
     clear hmk hpe hpa hpc
     go_upto_region 11 with fail
     refine wp_region_calm_tail W2 10 (by kernel_rfl) (by kernel_rfl) (Below.refl _ _) ?_
     simp only [List.take_succ_cons, List.take_zero, List.drop_succ_cons, List.drop_zero]
     repeat (go_big_quiet_step (first | (go_at_call 38; exact callsCalmSame (TMj.out _))))
     refine wpQuiet_nil ?_
     rintro _ ⟨z, rfl⟩
     clear x2 x1 xp
     have HBZ := Lib.hid (BW2.out.ext z.ok)
     have BA := Lib.hid (HBZ.out.alloc (.cells #[.int .i64 pe] 3))
     have BN := Lib.hid (Blk.new z.val 3 #[.int .i64 pe])
     have q2 := BA.out.cell 2
     have qf := BA.out.frozen 2
     go_upto_region 12 with fail
     clear q2 qf
     obtain ⟨bs, hbs⟩ : ∃ b, z.val.heap.size = b := ⟨_, rfl⟩
     have HBSE := Lib.hid hbs
     have HSL := Lib.hid (show bP < bs by rw [← hbs]; exact HBZ.out.lt)
     rw [hbs] at BN ⊢
     have BS := Lib.hid (BA.out.set_ 2 (.slice (some ⟨bs, 0, none⟩) 1 1))
     have BM := Lib.hid (BN.out.far (p := ⟨bP, 2, none⟩) (show bs ≠ bP by have := HSL.out; omega) (.slice (some ⟨bs, 0, none⟩) 1 1))
     have GS := Lib.hid (show Below wr.heap.size wr ((z.val.alloc (.cells #[.int .i64 pe] 3)).setCell ⟨bP, 2, none⟩ (.slice (some ⟨bs, 0, none⟩) 1 1)) from (((GW2.out.trans (z.ok.mono GW2.out.size)).trans ((one_more z.val (.cells #[.int .i64 pe] 3)).mono (Nat.le_trans GW2.out.size z.ok.size)))).setCell (p := ⟨bP, 2, none⟩) HBPL.out _)
     have HBL := Lib.hid (show wr.heap.size ≤ bs by have := HBPL.out; have := HSL.out; omega)
     obtain ⟨Wf, hWf⟩ : ∃ X, (z.val.alloc (.cells #[.int .i64 pe] 3)).setCell ⟨bP, 2, none⟩ (.slice (some ⟨bs, 0, none⟩) 1 1) = X := ⟨_, rfl⟩
     rw [hWf] at BS BM GS ⊢
     clear hbs hWf
     have HBK := Lib.hid (show Blk Wf bP 56 #[.int .i64 y.q.src, .int .i64 y.q.kind, .slice (some ⟨bs, 0, none⟩) 1 1, .int .i64 y.q.oth, .int .i64 y.q.par, .int .i64 y.q.day, .int .i64 y.q.thr, .int .i64 y.q.kno, .int .i64 y.q.unt] from BS.out)
     have HPI := Lib.hid (show PI Wf ⟨lesQ y.q jj, some ⟨bs, 0, none⟩, 1, 1⟩ from ⟨by show Ints Wf (some ⟨bs, 0, none⟩) 1 [y.q.per.getD jj 0]; rw [HPE.out]; exact one_int BM.out, Nat.le_refl _, by show 1 ≤ 9223372036854775807; omega⟩)
     have HNE0 := Lib.hid (show ∀ a, (⟨lesQ y.q jj, some ⟨bs, 0, none⟩, 1, 1⟩ : Pf).A = some a → u8.ownBlock ≠ some a.block ∧ a.block < Wf.heap.size from fun a e => by
      have e := Option.some.inj e
      subst e
      have h1 := BM.out.lt
      exact ⟨fun e2 => by have := own_lt2 HL.out.o e2; have h2 := HBL.out; have h3 : bs < wr.heap.size := this; omega, h1⟩)
     have c0 : World.cell? Wf ⟨bP, 0, none⟩ = some (.int .i64 y.q.src) := HBK.out.cell 0
     have c1 : World.cell? Wf ⟨bP, 1, none⟩ = some (.int .i64 y.q.kind) := HBK.out.cell 1
     have c2 : World.cell? Wf ⟨bP, 2, none⟩ = some (.slice (some ⟨bs, 0, none⟩) 1 1) := HBK.out.cell 2
     have c3 : World.cell? Wf ⟨bP, 3, none⟩ = some (.int .i64 y.q.oth) := HBK.out.cell 3
     have c4 : World.cell? Wf ⟨bP, 4, none⟩ = some (.int .i64 y.q.par) := HBK.out.cell 4
     have c5 : World.cell? Wf ⟨bP, 5, none⟩ = some (.int .i64 y.q.day) := HBK.out.cell 5
     have c6 : World.cell? Wf ⟨bP, 6, none⟩ = some (.int .i64 y.q.thr) := HBK.out.cell 6
     have c7 : World.cell? Wf ⟨bP, 7, none⟩ = some (.int .i64 y.q.kno) := HBK.out.cell 7
     have c8 : World.cell? Wf ⟨bP, 8, none⟩ = some (.int .i64 y.q.unt) := HBK.out.cell 8
     have GX := Lib.hid (one_more Wf (.cells #[.int .i64 y.q.src, .int .i64 y.q.kind, .slice (some ⟨bs, 0, none⟩) 1 1, .int .i64 y.q.oth, .int .i64 y.q.par, .int .i64 y.q.day, .int .i64 y.q.thr, .int .i64 y.q.kno, .int .i64 y.q.unt] 56))
     have IX := Lib.hid (one_pf (x := ⟨lesQ y.q jj, some ⟨bs, 0, none⟩, 1, 1⟩) (Blk.new Wf 56 #[.int .i64 y.q.src, .int .i64 y.q.kind, .slice (some ⟨bs, 0, none⟩) 1 1, .int .i64 y.q.oth, .int .i64 y.q.par, .int .i64 y.q.day, .int .i64 y.q.thr, .int .i64 y.q.kno, .int .i64 y.q.unt]))
     have HLX := Lib.hid ((HL.out.ext GS.out).ext GX.out)
     have HPX := Lib.hid (HPI.out.below GX.out)
     have HNX := Lib.hid (fun a e => (⟨(HNE0.out a e).1, Nat.lt_of_lt_of_le (HNE0.out a e).2 GX.out.size⟩ : u8.ownBlock ≠ some a.block ∧ a.block < (Wf.alloc (.cells #[.int .i64 y.q.src, .int .i64 y.q.kind, .slice (some ⟨bs, 0, none⟩) 1 1, .int .i64 y.q.oth, .int .i64 y.q.par, .int .i64 y.q.day, .int .i64 y.q.thr, .int .i64 y.q.kno, .int .i64 y.q.unt] 56)).heap.size))
     go_wp2_with (first | (at_builtin; (refine wpList_app kdQ (by rfl) _ _ (by rfl) V.heap.size _ os (by rfl) HLX.out.o _ 1 1 [⟨lesQ y.q jj, some ⟨bs, 0, none⟩, 1, 1⟩] (by rfl) IX.out (by have := HOL.out; omega) HLX.out.g.size ?_); intro v1 w1 ho hgr hz; have HL1 := Lib.hid (HLX.out.add HPX.out HNX.out ho hgr hz); clear ho hgr hz))
     go_roundw
     case rel => exact ⟨m + 1, os ++ [⟨lesQ y.q jj, some ⟨bs, 0, none⟩, 1, 1⟩], by omega, rfl, HL1.out, by rw [List.map_append, HOQ.out, HTK.out, HTE.out]; rfl⟩
     case measure => simp only [intOf]; omega
    ·have hmb : ((m : Int) == (kk : Int)) = false := beq_eq_false_iff_ne.2 (by omega)
     have HTE := Lib.hid (show le.getD m q0 = y.q by rw [HTB.out, if_neg hmk])
     have HBK := BW2
     have GS := GW2
     have HPI := Lib.hid (HYI.out.below GW2.out)
     have HNE0 := Lib.hid (show ∀ a, y.A = some a → u8.ownBlock ≠ some a.block ∧ a.block < W2.heap.size from fun a e => by
      have h1 := HYA.out a e
      have h2 := HL.out.g.size
      have h3 := GW2.out.size
      exact ⟨fun e2 => by have := (own_block HL.out.o e2).1; omega, by omega⟩)
     clear hmk
     go_upto_region 12 with fail
     have c0 : World.cell? W2 ⟨bP, 0, none⟩ = some (.int .i64 y.q.src) := HBK.out.cell 0
     have c1 : World.cell? W2 ⟨bP, 1, none⟩ = some (.int .i64 y.q.kind) := HBK.out.cell 1
     have c2 : World.cell? W2 ⟨bP, 2, none⟩ = some (.slice y.A y.n y.c) := HBK.out.cell 2
     have c3 : World.cell? W2 ⟨bP, 3, none⟩ = some (.int .i64 y.q.oth) := HBK.out.cell 3
     have c4 : World.cell? W2 ⟨bP, 4, none⟩ = some (.int .i64 y.q.par) := HBK.out.cell 4
     have c5 : World.cell? W2 ⟨bP, 5, none⟩ = some (.int .i64 y.q.day) := HBK.out.cell 5
     have c6 : World.cell? W2 ⟨bP, 6, none⟩ = some (.int .i64 y.q.thr) := HBK.out.cell 6
     have c7 : World.cell? W2 ⟨bP, 7, none⟩ = some (.int .i64 y.q.kno) := HBK.out.cell 7
     have c8 : World.cell? W2 ⟨bP, 8, none⟩ = some (.int .i64 y.q.unt) := HBK.out.cell 8
     have GX := Lib.hid (one_more W2 (.cells #[.int .i64 y.q.src, .int .i64 y.q.kind, .slice y.A y.n y.c, .int .i64 y.q.oth, .int .i64 y.q.par, .int .i64 y.q.day, .int .i64 y.q.thr, .int .i64 y.q.kno, .int .i64 y.q.unt] 56))
     have IX := Lib.hid (one_pf (x := y) (Blk.new W2 56 #[.int .i64 y.q.src, .int .i64 y.q.kind, .slice y.A y.n y.c, .int .i64 y.q.oth, .int .i64 y.q.par, .int .i64 y.q.day, .int .i64 y.q.thr, .int .i64 y.q.kno, .int .i64 y.q.unt]))
     have HLX := Lib.hid ((HL.out.ext GS.out).ext GX.out)
     have HPX := Lib.hid (HPI.out.below GX.out)
     have HNX := Lib.hid (fun a e => (⟨(HNE0.out a e).1, Nat.lt_of_lt_of_le (HNE0.out a e).2 GX.out.size⟩ : u8.ownBlock ≠ some a.block ∧ a.block < (W2.alloc (.cells #[.int .i64 y.q.src, .int .i64 y.q.kind, .slice y.A y.n y.c, .int .i64 y.q.oth, .int .i64 y.q.par, .int .i64 y.q.day, .int .i64 y.q.thr, .int .i64 y.q.kno, .int .i64 y.q.unt] 56)).heap.size))
     go_wp2_with (first | (at_builtin; (refine wpList_app kdQ (by rfl) _ _ (by rfl) V.heap.size _ os (by rfl) HLX.out.o _ 1 1 [y] (by rfl) IX.out (by have := HOL.out; omega) HLX.out.g.size ?_); intro v1 w1 ho hgr hz; have HL1 := Lib.hid (HLX.out.add HPX.out HNX.out ho hgr hz); clear ho hgr hz))
     go_roundw
     case rel => exact ⟨m + 1, os ++ [y], by omega, rfl, HL1.out, by rw [List.map_append, HOQ.out, HTK.out, HTE.out]; rfl⟩
     case measure => simp only [intOf]; omega
   ·obtain rfl : m = n1 := by omega
    rw [HLT.out] at HOQ
    obtain ⟨A3, c3, rfl, -, -, hp3⟩ := own_prf HL.out.o (fun p hp => (HL.out.per p hp).1)
    have HN3 := Lib.hid (show os.length = m by have h1 := congrArg List.length HOQ.out; rw [List.length_map, HLL.out, HLN.out] at h1; exact h1)
    rw [HN3.out] at hp3 ⊢
    have HP3 := Lib.hid hp3
    have HG9 := Lib.hid hg
    obtain ⟨V2, hV2⟩ : ∃ X, wr = X := ⟨_, rfl⟩
    rw [hV2] at HP3 HG9 ⊢
    clear hp3 hg hV2 HL
    have HPV := Lib.hid (HP.out.below HG9.out)
    have HBV := Lib.hid (HBX.out.ext HG9.out)
    have T41a := Lib.hid (c41 (c := c1) HPV.out HQ.out HOK.out HN.out (known := 0) ⟨by omega, by omega⟩)
    have T41b := Lib.hid (fun W (g : Below V2.heap.size V2 W) => c41 (c := c3) (HP3.out.below g) HOQ.out HLO.out HN.out (known := 0) ⟨by omega, by omega⟩)
    rw [HCN.out] at T41a
    rw [HLC.out] at T41b
    have HIR := Lib.hid (show isRead le = decide (0 < (reads le).length) by
     unfold isRead
     cases reads le <;> simp)
    have HRE := Lib.hid (show isRead hl = true from isRead_iff.2 ⟨hw, HRD.out⟩)
    obtain ⟨N1, hN1⟩ : ∃ k, (reads hl).length = k := ⟨_, rfl⟩
    obtain ⟨N2, hN2⟩ : ∃ k, (reads le).length = k := ⟨_, rfl⟩
    have HNB := Lib.hid (show N2 ≤ 2000 by have := reads_len HLO.out 0; rw [HLC.out, hN2] at this; exact this)
    have HN2 := Lib.hid hN2
    rw [hN1] at T41a
    rw [hN2] at T41b HIR
    rw [hN1, hN2] at HLR
    have hle : ¬ (N1 : Int) < (N2 : Int) := by have := HLR.out; omega
    have hle2 : (N2 : Int) ≤ (N1 : Int) := by omega
    have hle3 : ¬ N1 < N2 := by omega
    have hle4 : N2 ≤ N1 := HLR.out
    clear hN1 hN2
    by_cases h20 : N2 = 0
    ·have h20b : ((N2 : Int) == 0) = true := beq_iff_eq.2 (by omega)
     go_wp2_with (first
      | (go_at_call 41; (with_reducible refine (T41a.out).mono ?_); rintro e X1 ⟨rfl, hg⟩; have Y1 := Lib.hid hg; clear hg)
      | (go_at_call 41; (with_reducible refine (T41b.out _ Y1.out).mono ?_); rintro e X2 ⟨rfl, hg⟩; have Y2 := Lib.hid (Y1.out.trans (hg.mono Y1.out.size)); clear hg)
      | (go_at_call 20; (with_reducible refine (TS.out _).mono ?_); rintro e V9 ⟨rfl, hg⟩; have GV9 := Lib.hid (HG9.out.trans ((Y2.out.trans (hg.mono Y2.out.size)).mono HG9.out.size)); clear hg))
     go_ret
     exact ⟨rfl, HG.out.trans (GV9.out.mono HG.out.size)⟩
    ·have h20b : ((N2 : Int) == 0) = false := beq_eq_false_iff_ne.2 (by omega)
     have HRL := Lib.hid (show isRead le = true by rw [HIR.out]; exact decide_eq_true (by omega))
     have hN2k : N2 ≤ 2000 := HNB.out
     go_upto_region 19 with (first
      | (go_at_call 41; (with_reducible refine (T41a.out).mono ?_); rintro e X1 ⟨rfl, hg⟩; have Y1 := Lib.hid hg; clear hg)
      | (go_at_call 41; (with_reducible refine (T41b.out _ Y1.out).mono ?_); rintro e X2 ⟨rfl, hg⟩; have Y2 := Lib.hid (Y1.out.trans (hg.mono Y1.out.size)); clear hg))
     have T44 := Lib.hid (fun W (g : Below V2.heap.size V2 W) k h => c44 (c := c3) (k := k) (HP3.out.below g) HOQ.out HLO.out HN.out (known := 0) ⟨by omega, by omega⟩ h)
     have T45 := Lib.hid (fun W (g : Below V2.heap.size V2 W) B m d r (hi : Ints W B m r) hmd hdc => c45 (c := c1) (d := d) (HPV.out.below g) HQ.out HOK.out HN.out hi hmd hdc (known := 0) ⟨by omega, by omega⟩)
     rw [HLC.out, HN2.out] at T44
     rw [HCN.out] at T45
     have HRA := Lib.hid (fun k (hk : k < N2) => HLI.out _ (rd_at (l := le) (k := k) (by rw [HN2.out]; exact hk)))
     go_wp2_with fail
     go_loopw [15] (fun i wz => ∃ q : Nat, q ≤ N2 + 6 ∧ i = .int .i64 q ∧ Below V2.heap.size V2 wz) (fun i _ => N2 + 7 - (intOf i).toNat)
     case atStart => exact ⟨0, Nat.zero_le _, rfl, Y2.out⟩
     case round =>
      obtain ⟨q, hq, rfl, hg⟩ := hrel
      have HGq := Lib.hid hg
      have hwq : wrap64 ((q : Int) + 7) = (q : Int) + 7 := wrap_in (by omega)
      clear hg
      by_cases hqN : q < N2
      ·have V44 := Lib.hid (T44.out _ HGq.out q hqN)
       have HRD2 := Lib.hid (HRA.out q hqN)
       obtain ⟨r, hr⟩ : ∃ t, (reads le).getD q [] = t := ⟨_, rfl⟩
       rw [hr] at V44 HRD2
       clear hr
       go_upto_region 23 with (go_at_call 44; (with_reducible refine (V44.out).mono ?_); rintro e X1 ⟨D, m2, d2, rfl, hi, hm2, hmd, hdc, hg⟩; have HI6 := Lib.hid hi; have HM6 := Lib.hid (And.intro hmd hdc); have GX1 := Lib.hid (HGq.out.trans (hg.mono HGq.out.size)); clear hi hm2 hmd hdc hg)
       have V45 := Lib.hid (T45.out X1 GX1.out D m2 d2 r HI6.out HM6.out.1 HM6.out.2)
       rw [HRD2.out, show err true 23 = 0 from rfl] at V45
       go_wp2_with (go_at_call 45; (with_reducible refine (V45.out).mono ?_); rintro e X2 ⟨rfl, hg⟩; have GX2 := Lib.hid (GX1.out.trans (hg.mono GX1.out.size)); clear hg)
       go_roundw
       case rel => exact ⟨q + 7, by omega, rfl, GX2.out⟩
       case measure => simp only [intOf]; omega
      ·have d2 := (HBV.out.ext HGq.out).cell 2
       have d3 := (HBV.out.ext HGq.out).cell 3
       have d4 := (HBV.out.ext HGq.out).cell 4
       have hw1 : wrap64 (1 + z3 % 5) = 1 + z3 % 5 := wrap_in (by omega)
       go_upto_region 28 with (go_at_call 38; (with_reducible refine (TM.out _ _ _ (by omega) (by omega)).mono ?_); rintro e w' ⟨rfl, rfl⟩)
       clear d2 d3 d4
       obtain ⟨day, hday⟩ : ∃ d, z2 % 2500 = d := ⟨_, rfl⟩
       obtain ⟨per, hper⟩ : ∃ d, 1 + z3 % 5 = d := ⟨_, rfl⟩
       obtain ⟨par, hpar⟩ : ∃ d, z4 % 3 = d := ⟨_, rfl⟩
       have HD := Lib.hid (show 0 ≤ day ∧ day ≤ 4166 by omega)
       have HPR := Lib.hid (show 1 ≤ per ∧ per ≤ 999 by omega)
       have HPA := Lib.hid (show 0 ≤ par ∧ par ≤ 5 by omega)
       rw [hday, hper, hpar]
       clear hday hper hpar hw1
       have T26a := Lib.hid (fun W (g : Below V2.heap.size V2 W) => c26 (c := c1) (person := per) (day := day) (known := 0) (HPV.out.below g) HQ.out HOK.out HN.out HPR.out HD.out ⟨by omega, by omega⟩ (by rw [HCN.out]; exact HRE.out))
       have T26b := Lib.hid (fun W (g : Below V2.heap.size V2 W) => c26 (c := c3) (person := per) (day := day) (known := 0) (HP3.out.below g) HOQ.out HLO.out HN.out HPR.out HD.out ⟨by omega, by omega⟩ (by rw [HLC.out]; exact HRL.out))
       have T28a := Lib.hid (fun W (g : Below V2.heap.size V2 W) => c28 (c := c1) (person := per) (parish := par) (day := day) (known := 0) (HPV.out.below g) HQ.out HOK.out HN.out HPR.out HPA.out HD.out ⟨by omega, by omega⟩)
       have T28b := Lib.hid (fun W (g : Below V2.heap.size V2 W) => c28 (c := c3) (person := per) (parish := par) (day := day) (known := 0) (HP3.out.below g) HOQ.out HLO.out HN.out HPR.out HPA.out HD.out ⟨by omega, by omega⟩)
       rw [HCN.out] at T26a
       rw [HLC.out] at T26b
       simp only [HCN.out, HRE.out, if_pos] at T28a
       simp only [HLC.out, HRL.out, if_pos] at T28b
       have HWW := Lib.hid (fun v h => HLW.out per day v h)
       have HRR := Lib.hid (fun h => HLG.out per day par HRL.out h)
       have E6 := righN_cases (wherS hl per day) par
       obtain ⟨wa, hwa⟩ : ∃ t, wherS hl per day = t := ⟨_, rfl⟩
       obtain ⟨wb, hwb⟩ : ∃ t, wherS le per day = t := ⟨_, rfl⟩
       rw [hwa] at T26a T28a HWW HRR E6
       rw [hwb] at T26b T28b HWW HRR
       obtain ⟨an, han⟩ : ∃ t, righN wa par = t := ⟨_, rfl⟩
       obtain ⟨dn, hdn⟩ : ∃ t, righN wb par = t := ⟨_, rfl⟩
       rw [han] at T28a HRR E6
       rw [hdn] at T28b HRR
       clear hwa hwb han hdn
       go_upto_region 32 with (first
        | (go_at_call 26; (with_reducible refine (T26a.out _ HGq.out).mono ?_); rintro e P1 ⟨D1, m1, d1, rfl, hi, hm1, -, -, hg⟩; have I1 := Lib.hid hi; have M1 := Lib.hid hm1; have Q1 := Lib.hid (HGq.out.trans (hg.mono HGq.out.size)); clear hi hm1 hg)
        | (go_at_call 26; (with_reducible refine (T26b.out _ Q1.out).mono ?_); rintro e P2 ⟨D2, m2, d2, rfl, hi, hm2, -, -, hg⟩; have I2 := Lib.hid hi; have M2 := Lib.hid hm2; have I1b := Lib.hid (I1.out.below hg); have Q2 := Lib.hid (Q1.out.trans (hg.mono Q1.out.size)); clear hi hm2 hg)
        | (go_at_call 28; (with_reducible refine (T28a.out _ Q2.out).mono ?_); rintro e P3 ⟨rfl, hg⟩; have I1c := Lib.hid (I1b.out.below hg); have I2c := Lib.hid (I2.out.below hg); have Q3 := Lib.hid (Q2.out.trans (hg.mono Q2.out.size)); clear hg)
        | (go_at_call 28; (with_reducible refine (T28b.out _ Q3.out).mono ?_); rintro e P4 ⟨rfl, hg⟩; have I1d := Lib.hid (I1c.out.below hg); have I2d := Lib.hid (I2c.out.below hg); have Q4 := Lib.hid (Q3.out.trans (hg.mono Q3.out.size)); clear hg))
       have hcase : an = 2 ∨ (an ≠ 2 ∧ dn = an) := by
        by_cases h : an = 2
        ·exact .inl h
        ·exact .inr ⟨h, HRR.out h⟩
       have hm2 : m2 ≤ 3000 := M2.out
       have LOOP := Lib.hid (show True from trivial)
       rcases hcase with h | ⟨h, h2⟩
       ·have ha1 : (an != 2) = false := by simpa using h
        clear h E6
        go_wp2_with fail
        go_loopw [29] (fun i wy => ∃ s : Nat, s ≤ m2 ∧ i = .int .i64 s ∧ Below P4.heap.size P4 wy) (fun i _ => m2 - (intOf i).toNat)
        case atStart => exact ⟨0, Nat.zero_le _, rfl, Below.refl _ _⟩
        case round =>
         obtain ⟨s, hs, rfl, hg⟩ := hrel
         have HGs := Lib.hid hg
         have hws : wrap64 ((s : Int) + 1) = (s : Int) + 1 := wrap_in (by omega)
         by_cases hsm : s < m2
         ·obtain ⟨b, o, rfl, -, hel, hc⟩ := ints_at (I2d.out.below hg) hsm
          have x0 := hc _ (Below.refl _ _)
          obtain ⟨vv, hvv⟩ : ∃ t, wb.getD s 0 = t := ⟨_, rfl⟩
          rw [hvv] at x0 hel
          have V40 := Lib.hid (refHas_any D1 m1 d1 wa vv _ (I1d.out.below hg) (by have := M1.out; omega))
          rw [hasI_true (HWW.out vv (List.mem_of_getElem? hel))] at V40
          clear hc hvv hel hg
          go_wp2_with (go_at_call 40; (with_reducible refine (V40.out).mono ?_); rintro e X9 ⟨rfl, rfl⟩)
          go_roundw
          case rel => exact ⟨s + 1, by omega, rfl, HGs.out⟩
          case measure => simp only [intOf]; omega
         ·obtain rfl : s = m2 := by omega
          clear hg
          go_wp2_with (go_at_call 20; (with_reducible refine (TS.out _).mono ?_); rintro e V9 ⟨rfl, hg⟩; have GV9 := Lib.hid (HG9.out.trans ((Q4.out.trans ((HGs.out.trans (hg.mono HGs.out.size)).mono Q4.out.size)).mono HG9.out.size)); clear hg)
          go_ret
          exact ⟨rfl, HG.out.trans (GV9.out.mono HG.out.size)⟩
       ·have ha1 : (an != 2) = true := by simpa using h
        have ha2 : (an != dn) = false := by rw [h2]; simp
        clear h h2 E6
        go_wp2_with fail
        go_loopw [29] (fun i wy => ∃ s : Nat, s ≤ m2 ∧ i = .int .i64 s ∧ Below P4.heap.size P4 wy) (fun i _ => m2 - (intOf i).toNat)
        case atStart => exact ⟨0, Nat.zero_le _, rfl, Below.refl _ _⟩
        case round =>
         obtain ⟨s, hs, rfl, hg⟩ := hrel
         have HGs := Lib.hid hg
         have hws : wrap64 ((s : Int) + 1) = (s : Int) + 1 := wrap_in (by omega)
         by_cases hsm : s < m2
         ·obtain ⟨b, o, rfl, -, hel, hc⟩ := ints_at (I2d.out.below hg) hsm
          have x0 := hc _ (Below.refl _ _)
          obtain ⟨vv, hvv⟩ : ∃ t, wb.getD s 0 = t := ⟨_, rfl⟩
          rw [hvv] at x0 hel
          have V40 := Lib.hid (refHas_any D1 m1 d1 wa vv _ (I1d.out.below hg) (by have := M1.out; omega))
          rw [hasI_true (HWW.out vv (List.mem_of_getElem? hel))] at V40
          clear hc hvv hel hg
          go_wp2_with (go_at_call 40; (with_reducible refine (V40.out).mono ?_); rintro e X9 ⟨rfl, rfl⟩)
          go_roundw
          case rel => exact ⟨s + 1, by omega, rfl, HGs.out⟩
          case measure => simp only [intOf]; omega
         ·obtain rfl : s = m2 := by omega
          clear hg
          go_wp2_with (go_at_call 20; (with_reducible refine (TS.out _).mono ?_); rintro e V9 ⟨rfl, hg⟩; have GV9 := Lib.hid (HG9.out.trans ((Q4.out.trans ((HGs.out.trans (hg.mono HGs.out.size)).mono Q4.out.size)).mono HG9.out.size)); clear hg)
          go_ret
          exact ⟨rfl, HG.out.trans (GV9.out.mono HG.out.size)⟩
end Go.Proofs.YtehhlgdkhecacaaGreat
