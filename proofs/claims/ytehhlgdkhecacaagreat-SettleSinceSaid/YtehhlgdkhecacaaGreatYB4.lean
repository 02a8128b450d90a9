/- Part of the proof: CC, EL. -/
import Derived.Test.YtehhlgdkhecacaaGreatYA2
import Derived.Test.YtehhlgdkhecacaaGreatYA7
import Derived.Test.YtehhlgdkhecacaaGreatYB2
namespace Go.Proofs.YtehhlgdkhecacaaGreat
open Go.RowKit Go.Shelf
theorem datL_len : ∀ c : List Qf, (datL c).length ≤ 2 * c.length
 | [] => by simp [datL]
 | q :: c => by
  have h1 := datL_len c
  unfold datL at h1 ⊢
  rw [List.flatMap_cons, List.length_append, List.length_cons]
  have h3 : (datQ q).length ≤ 2 := by
   unfold datQ
   split
   ·rw [List.length_cons, List.length_singleton]; omega
   ·rw [List.length_cons, List.length_nil]; omega
  omega
theorem datL_take {l : List Pf} {k : Nat} (hk : k < l.length) : datL ((l.take (k + 1)).map Pf.q) = datL ((l.take k).map Pf.q) ++ datQ (l.getD k p0).q := by
 rw [take_snoc (d := p0) hk, List.map_append]
 unfold datL
 rw [List.flatMap_append]
 simp
def datE (l : List Qf) : Int := if okL l = true then 0 else 21
set_option maxRecDepth 100000 in
set_option maxHeartbeats 8000000 in
theorem dates_any (A : Option Addr) (n c : Nat) (l : List Pf) (w : World) (ha : Prf w A n l) (hn : n ≤ 9223372036854775807) :
  Calls Tryz.prog 47 #[.slice A n c] w (ListEnd (datS (l.map Pf.q)) (datE (l.map Pf.q)) w) := by
 have TC0 := Lib.hid (check_any A n c l w ha hn)
 have HA := Lib.hid ha
 have hlen := Lib.hid ha.len
 have HN60 := Lib.hid (fun (h : okL (l.map Pf.q) = true) => (show n ≤ 60 by have := okL_len h; rw [List.length_map, ha.len] at this; exact this))
 have HDE := Lib.hid (show datE (l.map Pf.q) = if okL (l.map Pf.q) = true then 0 else 21 from rfl)
 have HNL := Lib.hid (show ∀ k, k ≤ n → (datL ((l.take k).map Pf.q)).length ≤ 2 * k from fun k hk => by
  have := datL_len ((l.take k).map Pf.q)
  rw [List.length_map, List.length_take] at this
  omega)
 obtain ⟨nm, hnm⟩ : ∃ f : Nat → List Int, (fun k => datL ((l.take k).map Pf.q)) = f := ⟨_, rfl⟩
 have HNM := Lib.hid (fun (k : Nat) => (show datL ((l.take k).map Pf.q) = nm k by rw [← hnm]))
 have HPS := Lib.hid (show datS (l.map Pf.q) = setL (nm n) by rw [← hnm]; show _ = setL (datL ((l.take n).map Pf.q)); rw [List.take_of_length_le (by rw [hlen.out]; exact Nat.le_refl _)]; rfl)
 have HN0 := Lib.hid (show nm 0 = [] by rw [← hnm]; rfl)
 obtain ⟨ps, hps⟩ : ∃ s, datS (l.map Pf.q) = s := ⟨_, rfl⟩
 rw [hps] at HPS ⊢
 obtain ⟨ok, hok⟩ : ∃ b, okL (l.map Pf.q) = b := ⟨_, rfl⟩
 rw [hok] at TC0 HN60 HDE
 clear ha hnm hps hok
 cases ok with
 | false =>
  go_enter Tryz.func47, Tryz.ntmps47
  go_wp2_with (first | (go_at_call 48; (with_reducible refine (TC0.out).mono ?_); rintro e W1 ⟨rfl, hg1⟩; rw [show err false 21 = 21 from rfl]; have HG1 := Lib.hid hg1; clear hg1))
  go_ret2
  rw [HDE.out, if_neg (by decide)]
  exact listEnd_no (by decide) HG1.out
 | true =>
 have hn60 := HN60.out rfl
 go_enter Tryz.func47, Tryz.ntmps47
 go_upto_region 5 with (first | (go_at_call 48; (with_reducible refine (TC0.out).mono ?_); rintro e W0 ⟨rfl, hg1⟩; rw [show err true 21 = 0 from rfl]; have HG1 := Lib.hid hg1; clear hg1))
 have HO0 := Lib.hid (OwnL.nil (f := icells) (size := 1) (e := 3) W0 w.heap.size)
 go_wp2_with fail
 go_loopw [5, 15] (fun v i wr => ∃ k : Nat, k ≤ n ∧ OwnL icells 1 3 wr w.heap.size v (nm k) ∧ i = .int .i64 k ∧ Below w.heap.size w wr) (fun _ i _ => n - (intOf i).toNat)
 case atStart => exact ⟨0, Nat.zero_le _, by rw [HN0.out]; exact HO0.out, rfl, HG1.out⟩
 case round =>
  obtain ⟨k, hk, ho, rfl, hg⟩ := hrel
  have HG := Lib.hid hg
  have HO := Lib.hid ho
  clear ho
  by_cases hkn : k < n
  ·have HTK := Lib.hid (datL_take (l := l) (k := k) (by rw [hlen.out]; exact hkn))
   obtain ⟨b, o, rfl, -, hyi, hym, hyc⟩ := (HA.out.below hg).at hkn
   obtain ⟨y, hy⟩ : ∃ y, l.getD k p0 = y := ⟨_, rfl⟩
   rw [hy] at hyi hym hyc HTK
   obtain ⟨e0, e1, e2, e3, e4, e5, e6, e7, e8⟩ := hyc _ (Below.refl _ _)
   have HTQ := Lib.hid (show nm (k + 1) = nm k ++ (y.q.kno :: (if y.q.unt ≠ 0 then [y.q.unt] else [])) by rw [← HNM.out, ← HNM.out, HTK.out]; rfl)
   have HNK := Lib.hid (show (nm k).length ≤ 120 by rw [← HNM.out]; have := HNL.out k hk; omega)
   obtain ⟨W2, hW2⟩ : ∃ X, wr.alloc (.cells #[.int .i64 y.q.src, .int .i64 y.q.kind, .slice y.A y.n y.c, .int .i64 y.q.oth, .int .i64 y.q.par, .int .i64 y.q.day, .int .i64 y.q.thr, .int .i64 y.q.kno, .int .i64 y.q.unt] 56) = X := ⟨_, rfl⟩
   have GW2 := Lib.hid (show Below wr.heap.size wr W2 by rw [← hW2]; exact one_more _ _)
   have BW2 := Lib.hid (show Blk W2 wr.heap.size 56 #[.int .i64 y.q.src, .int .i64 y.q.kind, .slice y.A y.n y.c, .int .i64 y.q.oth, .int .i64 y.q.par, .int .i64 y.q.day, .int .i64 y.q.thr, .int .i64 y.q.kno, .int .i64 y.q.unt] by rw [← hW2]; exact Blk.new _ _ _)
   have HW2 := Lib.hid hW2
   have hwr2 : wrap64 ((k : Int) + 1) = (k : Int) + 1 := wrap_in (by omega)
   clear hW2 hy hyi hym hyc hg
   go_upto_region 8 with fail
   rw [HW2.out]
   clear e0 e1 e2 e3 e4 e5 e6 e7 e8
   have d7 := BW2.out.cell 7
   have d8 := BW2.out.cell 8
   have GX := Lib.hid (one_more W2 (.cells #[.int .i64 y.q.kno] 3))
   have HOX := Lib.hid ((HO.out.ext GW2.out).ext GX.out)
   have HI := Lib.hid (one_int (Blk.new W2 3 #[.int .i64 y.q.kno]))
   have HTL := Lib.hid (show (nm k).length + 1 ≤ 1000000 by have := HNK.out; omega)
   have HBB := Lib.hid (show w.heap.size ≤ (W2.alloc (.cells #[.int .i64 y.q.kno] 3)).heap.size by have h1 := HG.out.size; have h2 := GW2.out.size; have h3 := GX.out.size; omega)
   have BWX := Lib.hid (BW2.out.ext GX.out)
   go_upto_region 9 with (first | (at_builtin; (refine wpList_app kdI (by rfl) _ _ (by rfl) w.heap.size _ (nm k) (by rfl) HOX.out _ 1 1 [y.q.kno] (by rfl) HI.out HTL.out HBB.out ?_); intro v' w' ho hgr hz; have HO2 := Lib.hid ho; have GV := Lib.hid ((HG.out.trans ((GW2.out.trans (GX.out.mono GW2.out.size)).mono HG.out.size)).trans (HOX.out.below hgr (Nat.le_refl _) HBB.out)); have BV := Lib.hid (show Blk w' wr.heap.size 56 #[.int .i64 y.q.src, .int .i64 y.q.kind, .slice y.A y.n y.c, .int .i64 y.q.oth, .int .i64 y.q.par, .int .i64 y.q.day, .int .i64 y.q.thr, .int .i64 y.q.kno, .int .i64 y.q.unt] from (hgr.block wr.heap.size BWX.out.lt (fun e => by obtain ⟨-, cur, hc⟩ := own_block HOX.out e.symm; exact absurd (blk_type hc BWX.out) (by decide))).trans BWX.out); clear ho hgr hz))
   have d8' := BV.out.cell 8
   clear d7 d8
   by_cases h2 : y.q.unt = 0
   ·have h2b : (y.q.unt != 0) = false := by simpa using h2
    have HT2 := Lib.hid (show nm (k + 1) = nm k ++ [y.q.kno] by rw [HTQ.out, if_neg (by simpa using h2)])
    clear h2
    go_wp2_with fail
    go_roundw
    case rel => exact ⟨k + 1, by omega, by rw [HT2.out]; exact HO2.out, rfl, GV.out⟩
    case measure => simp only [intOf]; omega
   ·have h2b : (y.q.unt != 0) = true := by simpa using h2
    have HT2 := Lib.hid (show nm (k + 1) = (nm k ++ [y.q.kno]) ++ [y.q.unt] by rw [HTQ.out, if_pos h2, List.append_assoc]; rfl)
    have GX2 := Lib.hid (one_more w' (.cells #[.int .i64 y.q.unt] 3))
    have HI2 := Lib.hid (one_int (Blk.new w' 3 #[.int .i64 y.q.unt]))
    have HOX2 := Lib.hid (HO2.out.ext GX2.out)
    have HTL2 := Lib.hid (show (nm k ++ [y.q.kno]).length + 1 ≤ 1000000 by rw [List.length_append, List.length_singleton]; have := HNK.out; omega)
    have HBB2 := Lib.hid (show w.heap.size ≤ (w'.alloc (.cells #[.int .i64 y.q.unt] 3)).heap.size by have h1 := GV.out.size; have h3 := GX2.out.size; omega)
    obtain ⟨ls, hls⟩ : ∃ s, nm k ++ [y.q.kno] = s := ⟨_, rfl⟩
    rw [hls] at HT2 HOX2 HTL2
    clear h2 hls
    go_wp2_with (first | (at_builtin; (refine wpList_app kdI (by rfl) _ _ (by rfl) w.heap.size _ ls (by rfl) HOX2.out _ 1 1 [y.q.unt] (by rfl) HI2.out HTL2.out HBB2.out ?_); intro v2 w2 ho hgr hz; have HO3 := Lib.hid ho; have GV3 := Lib.hid ((GV.out.trans (GX2.out.mono GV.out.size)).trans (HOX2.out.below hgr (Nat.le_refl _) HBB2.out)); clear ho hgr hz))
    go_roundw
    case rel => exact ⟨k + 1, by omega, by rw [HT2.out]; exact HO3.out, rfl, GV3.out⟩
    case measure => simp only [intOf]; omega
  ·obtain rfl : k = n := by omega
   have TS := Lib.hid (fun (v : Value) (h : OwnL icells 1 3 wr w.heap.size v (nm k)) => sortG_any w.heap.size v (nm k) wr h (by rw [← HNM.out]; have := HNL.out k (Nat.le_refl _); omega))
   have TC := Lib.hid (fun (v : Value) (W : World) (h : OwnL icells 1 3 W w.heap.size v (srt (nm k))) (hb : w.heap.size ≤ W.heap.size) => compact_any w.heap.size v (srt (nm k)) W h (by unfold srt; rw [List.length_mergeSort, ← HNM.out]; have := HNL.out k (Nat.le_refl _); omega) hb)
   have HSE := Lib.hid (show Lib.compact (srt (nm k)) = ps by rw [setL_compact]; exact HPS.out.symm)
   clear hg
   go_wp2_with (first
    | (go_at_call 103; (with_reducible refine (TS.out _ HO.out).mono ?_); rintro e V ⟨rfl, hown, hbel⟩; have HOV := Lib.hid hown; have GV := Lib.hid (HG.out.trans (HO.out.below hbel (Nat.le_refl _) HG.out.size)); clear hown hbel)
    | (go_at_call 104; (with_reducible refine (TC.out _ _ HOV.out GV.out.size).mono ?_); rintro e V2 ⟨⟨v2, rfl, hown, -⟩, hbel⟩; have HOV2 := Lib.hid hown; have GV2 := Lib.hid (GV.out.trans (HOV.out.below hbel (Nat.le_refl _) GV.out.size)); clear hown hbel))
   go_ret2
   rw [HDE.out, if_pos trivial]
   exact listEnd_ok (by rw [← HSE.out]; exact HOV2.out) GV2.out
end Go.Proofs.YtehhlgdkhecacaaGreat

namespace Go.Proofs.YtehhlgdkhecacaaGreat
open Go.RowKit Go.Shelf
section
variable {W : World} {A : Option Addr} {n c : Nat} {ls : List Pf} {ml : List Qf} {known day person parish : Int}
theorem c26g (hp : Prf W A n ls) (hq : ls.map Pf.q = ml) (hok : okL ml = true) (hn : n ≤ 1000) (hpr : 1 ≤ person ∧ person ≤ 999) (hd : 0 ≤ day ∧ day ≤ 4166) (hk : 0 ≤ known ∧ known ≤ 4166) :
  Calls Tryz.prog 26 #[.slice A n c, .int .i64 person, .int .i64 day, .int .i64 known] W fun e w' => ∃ D m d, e = .returned (.tuple #[.slice D m d, .int .i64 (if isRead (cntL ml known) = true then 0 else 24)]) ∧
   Ints w' D m (if isRead (cntL ml known) = true then wherS (cntL ml known) person day else []) ∧ m ≤ 3000 ∧ Below W.heap.size W w' := by
 have := whereF_any A n c ls person day known W hp (by omega)
 rw [hq, readE_of hok hpr ⟨by omega, by omega⟩ (two_days hd hk)] at this
 refine this.mono ?_
 rintro e w' ⟨D, m, d, rfl, hi, -, -, hg⟩
 have hw := wher_len hok known person day
 by_cases h : isRead (cntL ml known) = true
 ·rw [if_pos h, if_pos rfl] at hi
  exact ⟨D, m, d, rfl, by rw [if_pos h]; exact hi, by have := hi.1; omega, hg⟩
 ·rw [if_neg h, if_neg (by decide)] at hi
  exact ⟨D, m, d, rfl, by rw [if_neg h]; exact hi, by have := hi.1; rw [List.length_nil] at this; omega, hg⟩
theorem c46 (hp : Prf W A n ls) (hq : ls.map Pf.q = ml) (hok : okL ml = true) (hn : n ≤ 1000) (hk : 0 ≤ known ∧ known ≤ 4166) :
  Calls Tryz.prog 46 #[.slice A n c, .int .i64 known] W fun e w' => ∃ D m d, e = .returned (.tuple #[.slice D m d, .int .i64 0]) ∧ Ints w' D m (srcL (cntL ml known)) ∧ m ≤ 3000 ∧ Below W.heap.size W w' := by
 have := countingF_any A n c ls known W hp (by omega)
 rw [hq] at this
 unfold CntEnd at this
 rw [lookE_ok hok (one_day hk), if_pos rfl] at this
 refine this.mono ?_
 rintro e w' ⟨⟨D, m, d, rfl, hi⟩, hg⟩
 have hc := cnt_len hok known
 exact ⟨D, m, d, rfl, hi, by have := hi.1; unfold srcL at this; rw [List.length_map] at this; omega, hg⟩
theorem c47 (hp : Prf W A n ls) (hq : ls.map Pf.q = ml) (hok : okL ml = true) (hn : n ≤ 1000) :
  Calls Tryz.prog 47 #[.slice A n c] W fun e w' => ∃ D m d, e = .returned (.tuple #[.slice D m d, .int .i64 0]) ∧ Ints w' D m (datS ml) ∧ m ≤ 3000 ∧ Below W.heap.size W w' := by
 have := dates_any A n c ls W hp (by omega)
 rw [hq] at this
 refine this.mono ?_
 rintro e w' ⟨D, m, d, rfl, hi, -, -, hg⟩
 have hE : datE ml = 0 := by unfold datE; rw [if_pos hok]
 rw [hE, if_pos rfl] at hi
 have h1 := datL_len ml
 have h2 := setL_len (datL ml)
 have h3 := okL_len hok
 have h4 : (datS ml).length = m := hi.1
 unfold datS at h4
 exact ⟨D, m, d, by rw [hE], hi, by omega, hg⟩
end
theorem fewP_succ {l : List Pf} {k : Nat} (kn : Int) (hk : k < l.length) : (l.take (k + 1)).filter (fun p => decide (p.q.kno ≤ kn)) = (l.take k).filter (fun p => decide (p.q.kno ≤ kn)) ++ (if decide ((l.getD k p0).q.kno ≤ kn) = true then [l.getD k p0] else []) := filt_take (fun p => decide (p.q.kno ≤ kn)) hk
theorem lasD_take {l : List Int} {k : Nat} (hk : k < l.length) (kn : Int) : lasD (l.take (k + 1)) kn = if l.getD k 0 ≤ kn then l.getD k 0 else lasD (l.take k) kn := by
 rw [take_snoc (d := 0) hk, lasD_snoc]
set_option maxRecDepth 100000 in
set_option maxHeartbeats 16000000 in
theorem law10_any (A : Option Addr) (n c : Nat) (x : List Ra) (z0 z1 z2 : Int) (w : World) (ha : Arr rcells 9 w A n x) (hn : n ≤ 9223372036854775807) (hx : ∀ r ∈ x, RaOk r) :
  Calls Tryz.prog 10 #[.slice A n c, .agg #[.int .i64 z0, .int .i64 z1, .int .i64 z2]] w fun e w' => e = .returned (.bool true) ∧ Below w.heap.size w w' := by
 obtain ⟨W1, hW1⟩ : ∃ X, w.alloc (.cells #[.int .i64 z0, .int .i64 z1, .int .i64 z2] 71) = X := ⟨_, rfl⟩
 have G1 := Lib.hid (show Below w.heap.size w W1 by rw [← hW1]; exact one_more _ _)
 have B1 := Lib.hid (show Blk W1 w.heap.size 71 #[.int .i64 z0, .int .i64 z1, .int .i64 z2] by rw [← hW1]; exact Blk.new _ _ _)
 have HW1 := Lib.hid hW1
 have TM := Lib.hid refMod_any
 have TS := Lib.hid sane_any
 have TH := Lib.hid (made_any A n c x W1 (ha.below G1.out) hn hx)
 have HOK := Lib.hid (made_ok x)
 have HMO := Lib.hid (fun (W : World) v u ls (h : Md W1 W v u ls (whoL x)) hq => made_open h hq)
 obtain ⟨ml, hml⟩ : ∃ l, madeL x = l := ⟨_, rfl⟩
 obtain ⟨wl, hwl⟩ : ∃ l, whoL x = l := ⟨_, rfl⟩
 rw [hml, hwl] at TH HMO
 rw [hml] at HOK
 clear ha hx hml hwl hW1
 go_enter Tryz.func10, Tryz.ntmps10
 go_upto_region 1 with fail
 rw [HW1.out]
 go_upto_region 2 with (go_at_call 37; (with_reducible refine (TH.out).mono ?_); rintro e V ⟨v, u, ls, rfl, hmd, hq⟩; obtain ⟨A1, n1, c1, A2, n2, c2, rfl, rfl, hp, hn1, -, -, -, -, hg⟩ := HMO.out _ _ _ _ hmd hq; have HP := Lib.hid hp; have HQ := Lib.hid hq; have HN := Lib.hid (show n1 ≤ 1000 by omega); have GV := Lib.hid hg; have HG := Lib.hid (G1.out.trans (hg.mono G1.out.size)); clear hmd hp hq hn1 hg)
 have d0 := (B1.out.ext GV.out).cell 0
 have d1 := (B1.out.ext GV.out).cell 1
 have d2 := (B1.out.ext GV.out).cell 2
 have hw1 : wrap64 (1 + z2 % 5) = 1 + z2 % 5 := wrap_in (by omega)
 go_upto_region 5 with (go_at_call 38; (with_reducible refine (TM.out _ _ _ (by omega) (by omega)).mono ?_); rintro e w' ⟨rfl, rfl⟩)
 clear d0 d1 d2
 obtain ⟨kn, hkn⟩ : ∃ d, z0 % 80 = d := ⟨_, rfl⟩
 obtain ⟨day, hday⟩ : ∃ d, z1 % 2500 = d := ⟨_, rfl⟩
 obtain ⟨per, hper⟩ : ∃ d, 1 + z2 % 5 = d := ⟨_, rfl⟩
 have HK := Lib.hid (show 0 ≤ kn ∧ kn ≤ 4166 by omega)
 have HD := Lib.hid (show 0 ≤ day ∧ day ≤ 4166 by omega)
 have HPR := Lib.hid (show 1 ≤ per ∧ per ≤ 999 by omega)
 rw [hkn, hday, hper]
 clear hkn hday hper hw1
 have HLN := Lib.hid HP.out.len
 have hn1k : n1 ≤ 1000 := HN.out
 have HO0 := Lib.hid (OwnL.nil (f := pcells) (size := 9) (e := 56) V V.heap.size)
 have HFS := Lib.hid (fun k (hk : k < n1) => fewP_succ (l := ls) (k := k) kn (by rw [HP.out.len]; exact hk))
 have HFL := Lib.hid (fun k (hk : k ≤ n1) => (show ((ls.take k).filter fun p => decide (p.q.kno ≤ kn)).length ≤ k from by
  have h1 := List.length_filter_le (fun p : Pf => decide (p.q.kno ≤ kn)) (ls.take k)
  rw [List.length_take] at h1
  omega))
 have HFE := Lib.hid (show ((ls.take n1).filter fun p => decide (p.q.kno ≤ kn)) = ls.filter fun p => decide (p.q.kno ≤ kn) by rw [List.take_of_length_le (by rw [HLN.out]; exact Nat.le_refl _)])
 have HFQ := Lib.hid (show (ls.filter fun p => decide (p.q.kno ≤ kn)).map Pf.q = fewL ml kn by rw [← HQ.out]; exact filt_map ls fun q => decide (q.kno ≤ kn))
 have HFP := Lib.hid (fun p (hp : p ∈ ls.filter fun p => decide (p.q.kno ≤ kn)) => (show p ∈ ls from (List.mem_filter.1 hp).1))
 obtain ⟨fl, hfl⟩ : ∃ s, (ls.filter fun p => decide (p.q.kno ≤ kn)) = s := ⟨_, rfl⟩
 rw [hfl] at HFE HFQ HFP
 obtain ⟨nm, hnm⟩ : ∃ f : Nat → List Pf, (fun k => (ls.take k).filter fun p => decide (p.q.kno ≤ kn)) = f := ⟨_, rfl⟩
 have hnk : ∀ k, (ls.take k).filter (fun p => decide (p.q.kno ≤ kn)) = nm k := fun k => by rw [← hnm]
 rw [hnk] at HFE
 simp only [hnk] at HFS HFL
 have HF0 := Lib.hid (show nm 0 = [] by rw [← hnk]; rfl)
 clear hfl hnm hnk
 go_wp2_with fail
 go_loopw [10, 11] (fun v i wr => ∃ k : Nat, k ≤ n1 ∧ OwnL pcells 9 56 wr V.heap.size v (nm k) ∧ i = .int .i64 k ∧ Below V.heap.size V wr) (fun _ i _ => n1 - (intOf i).toNat)
 case atStart => exact ⟨0, Nat.zero_le _, by rw [HF0.out]; exact HO0.out, rfl, Below.refl _ _⟩
 case round =>
  obtain ⟨k, hk, ho, rfl, hg⟩ := hrel
  have HG9 := Lib.hid hg
  have HO := Lib.hid ho
  have hwk : wrap64 ((k : Int) + 1) = (k : Int) + 1 := wrap_in (by omega)
  clear ho
  by_cases hkn : k < n1
  ·obtain ⟨b, o, rfl, -, -, -, hyc⟩ := (HP.out.below hg).at hkn
   obtain ⟨y, hy⟩ : ∃ y, ls.getD k p0 = y := ⟨_, rfl⟩
   have HS := Lib.hid (HFS.out k hkn)
   rw [hy] at hyc HS
   obtain ⟨e0, e1, e2, e3, e4, e5, e6, e7, e8⟩ := hyc _ (Below.refl _ _)
   have HL := Lib.hid (HFL.out k hk)
   obtain ⟨ac, hac⟩ : ∃ s, nm k = s := ⟨_, rfl⟩
   rw [hac] at HO HS HL
   clear hyc hy hac hg
   by_cases hle : y.q.kno ≤ kn
   ·have HS2 := Lib.hid (show nm (k + 1) = ac ++ [y] by rw [HS.out, if_pos (decide_eq_true hle)])
    have GX := Lib.hid (one_more wr (.cells #[.int .i64 y.q.src, .int .i64 y.q.kind, .slice y.A y.n y.c, .int .i64 y.q.oth, .int .i64 y.q.par, .int .i64 y.q.day, .int .i64 y.q.thr, .int .i64 y.q.kno, .int .i64 y.q.unt] 56))
    have IX := Lib.hid (one_pf (Blk.new wr 56 #[.int .i64 y.q.src, .int .i64 y.q.kind, .slice y.A y.n y.c, .int .i64 y.q.oth, .int .i64 y.q.par, .int .i64 y.q.day, .int .i64 y.q.thr, .int .i64 y.q.kno, .int .i64 y.q.unt]))
    have OX := Lib.hid (HO.out.ext GX.out)
    have HSZ := Lib.hid (Nat.le_trans HG9.out.size GX.out.size)
    go_wp2_with (first | (at_builtin; (refine wpList_app kdQ (by rfl) _ _ (by rfl) V.heap.size _ ac (by rfl) OX.out _ 1 1 [y] (by rfl) IX.out (by have := HL.out; omega) HSZ.out ?_); intro v1 w1 ho hgr hz; have HO1 := Lib.hid ho; have GV1 := Lib.hid ((HG9.out.trans (GX.out.mono HG9.out.size)).trans (OX.out.below hgr (Nat.le_refl _) HSZ.out)); clear ho hgr hz))
    go_roundw
    case rel => exact ⟨k + 1, by omega, by rw [HS2.out]; exact HO1.out, rfl, GV1.out⟩
    case measure => simp only [intOf]; omega
   ·have HS2 := Lib.hid (show nm (k + 1) = ac by rw [HS.out, if_neg (by rw [decide_eq_false hle]; decide), List.append_nil])
    go_wp2_with fail
    go_roundw
    case rel => exact ⟨k + 1, by omega, by rw [HS2.out]; exact HO.out, rfl, HG9.out⟩
    case measure => simp only [intOf]; omega
  ·obtain rfl : k = n1 := by omega
   rw [HFE.out] at HO
   obtain ⟨A3, c3, rfl, -, -, hp3⟩ := own_prf HO.out (fun p hp => (HP.out.p p (HFP.out p hp)).below hg)
   have HFN := Lib.hid (show fl.length ≤ 1000 by have := HFL.out k (Nat.le_refl _); rw [HFE.out] at this; omega)
   have HFO := Lib.hid (few_ok HOK.out kn)
   have HFC := Lib.hid (few_cnt ml kn)
   have HP3 := Lib.hid hp3
   obtain ⟨n3, hn3⟩ : ∃ k, fl.length = k := ⟨_, rfl⟩
   rw [hn3] at HP3 HFN ⊢
   obtain ⟨V2, hV2⟩ : ∃ X, wr = X := ⟨_, rfl⟩
   rw [hV2] at HP3 HG9 ⊢
   clear hp3 hn3 hV2 hg HO
   have HPV := Lib.hid (HP.out.below HG9.out)
   have HQ2 := Lib.hid (show ml.all (fun q => isQf q) = true from by
    refine List.all_eq_true.2 fun q hq => okL_all HOK.out q hq)
   have HKN := Lib.hid (show ∀ q ∈ ml, 0 ≤ q.kno ∧ 0 ≤ q.unt from fun q hq => by have := isQf_known (okL_all HOK.out q hq); omega)
   have T26 := Lib.hid (fun W (g : Below V2.heap.size V2 W) => c26g (c := c1) (person := per) (day := day) (HPV.out.below g) HQ.out HOK.out HN.out HPR.out HD.out HK.out)
   have T26f := Lib.hid (fun W (g : Below V2.heap.size V2 W) => c26g (c := c3) (person := per) (day := day) (HP3.out.below g) HFQ.out HFO.out HFN.out HPR.out HD.out HK.out)
   have T46 := Lib.hid (fun W (g : Below V2.heap.size V2 W) => c46 (c := c1) (HPV.out.below g) HQ.out HOK.out HN.out HK.out)
   have T46f := Lib.hid (fun W (g : Below V2.heap.size V2 W) => c46 (c := c3) (HP3.out.below g) HFQ.out HFO.out HFN.out HK.out)
   have T47 := Lib.hid (fun W (g : Below V2.heap.size V2 W) => c47 (c := c1) (HPV.out.below g) HQ.out HOK.out HN.out)
   have T26l := Lib.hid (fun W (g : Below V2.heap.size V2 W) kn2 h => c26g (c := c1) (person := per) (day := day) (known := kn2) (HPV.out.below g) HQ.out HOK.out HN.out HPR.out HD.out h)
   have T46l := Lib.hid (fun W (g : Below V2.heap.size V2 W) kn2 h => c46 (c := c1) (known := kn2) (HPV.out.below g) HQ.out HOK.out HN.out h)
   have HLN2 := Lib.hid (fun h => las_none (l := ml) (known := kn) HKN.out h)
   have HLS2 := Lib.hid (fun h => las_same (l := ml) (known := kn) HKN.out h)
   rw [HFC.out] at T26f T46f
   obtain ⟨cq, hcq⟩ : ∃ l, cntL ml kn = l := ⟨_, rfl⟩
   rw [hcq] at T26 T26f T46 T46f HLN2 HLS2
   obtain ⟨ds, hds⟩ : ∃ l, datS ml = l := ⟨_, rfl⟩
   rw [hds] at T47 HLN2 HLS2
   obtain ⟨E, hE⟩ : ∃ e : Int, (if isRead cq = true then 0 else 24) = e := ⟨_, rfl⟩
   obtain ⟨WL, hWL⟩ : ∃ l, (if isRead cq = true then wherS cq per day else []) = l := ⟨_, rfl⟩
   rw [hE, hWL] at T26 T26f
   have HE := Lib.hid hE
   have HWL := Lib.hid hWL
   obtain ⟨SL, hSL⟩ : ∃ l, srcL cq = l := ⟨_, rfl⟩
   rw [hSL] at T46 T46f
   have HSL := Lib.hid hSL
   have HEb := Lib.hid (show (E != E) = false by simp)
   have heb := HEb.out
   clear hcq hds hE hWL hSL
   go_upto_region 16 with (first
    | (go_at_call 26; (with_reducible refine (T26.out _ (Below.refl _ _)).mono ?_); rintro e X1 ⟨D1, m1, d1, rfl, hi, hm, hg⟩; have I1 := Lib.hid hi; have M1 := Lib.hid hm; have Y1 := Lib.hid hg; clear hi hm hg)
    | (go_at_call 26; (with_reducible refine (T26f.out _ Y1.out).mono ?_); rintro e X2 ⟨D2, m2, d2, rfl, hi, hm, hg⟩; have I2 := Lib.hid hi; have M2 := Lib.hid hm; have Y2 := Lib.hid (Y1.out.trans (hg.mono Y1.out.size)); have I1b := Lib.hid (I1.out.below hg); clear hi hm hg)
    | (go_at_call 46; (with_reducible refine (T46.out _ Y2.out).mono ?_); rintro e X3 ⟨D3, m3, d3, rfl, hi, hm, hg⟩; have I3 := Lib.hid hi; have M3 := Lib.hid hm; have Y3 := Lib.hid (Y2.out.trans (hg.mono Y2.out.size)); have I1c := Lib.hid (I1b.out.below hg); have I2c := Lib.hid (I2.out.below hg); clear hi hm hg)
    | (go_at_call 46; (with_reducible refine (T46f.out _ Y3.out).mono ?_); rintro e X4 ⟨D4, m4, d4, rfl, hi, hm, hg⟩; have I4 := Lib.hid hi; have M4 := Lib.hid hm; have Y4 := Lib.hid (Y3.out.trans (hg.mono Y3.out.size)); have I1d := Lib.hid (I1c.out.below hg); have I2d := Lib.hid (I2c.out.below hg); have I3d := Lib.hid (I3.out.below hg); clear hi hm hg)
    | (go_at_call 47; (with_reducible refine (T47.out _ Y4.out).mono ?_); rintro e X5 ⟨D5, m5, d5, rfl, hi, hm, hg⟩; have I5 := Lib.hid hi; have M5 := Lib.hid hm; have Y5 := Lib.hid (Y4.out.trans (hg.mono Y4.out.size)); have I1e := Lib.hid (I1d.out.below hg); have I2e := Lib.hid (I2d.out.below hg); have I3e := Lib.hid (I3d.out.below hg); have I4e := Lib.hid (I4.out.below hg); clear hi hm hg))
   have S1 := Lib.hid (show Calls Tryz.prog 19 #[.slice D1 m1 d1, .slice D2 m2 d2] X5 fun e w' => e = .returned (.bool true) ∧ Below X5.heap.size X5 w' by have := sameInts_any D1 D2 m1 d1 m2 d2 _ _ X5 I1e.out I2e.out (by have := M1.out; omega) (by have := M2.out; omega); rwa [decide_eq_true rfl] at this)
   have S2 := Lib.hid (fun X (g : Below X5.heap.size X5 X) => (show Calls Tryz.prog 19 #[.slice D3 m3 d3, .slice D4 m4 d4] X fun e w' => e = .returned (.bool true) ∧ Below X.heap.size X w' by have := sameInts_any D3 D4 m3 d3 m4 d4 _ _ X (I3e.out.below g) (I4e.out.below g) (by have := M3.out; omega) (by have := M4.out; omega); rwa [decide_eq_true rfl] at this))
   go_upto_region 18 with (first
    | (go_at_call 19; (with_reducible refine (S1.out).mono ?_); rintro e X6 ⟨rfl, hg⟩; have Y6 := Lib.hid hg; clear hg)
    | (go_at_call 19; (with_reducible refine (S2.out _ Y6.out).mono ?_); rintro e X7 ⟨rfl, hg⟩; have Y7 := Lib.hid (Y6.out.trans (hg.mono Y6.out.size)); clear hg))
   have Z7 := Lib.hid (Y5.out.trans (Y7.out.mono Y5.out.size))
   have HDN := Lib.hid (show ds.length = m5 from I5.out.1)
   have hm5 : m5 ≤ 3000 := M5.out
   have HLT := Lib.hid (fun k (hk : k < m5) => lasD_take (l := ds) (k := k) (by rw [I5.out.1]; exact hk) kn)
   have HLE := Lib.hid (show lasD (ds.take m5) kn = lasD ds kn by rw [List.take_of_length_le (by rw [HDN.out]; exact Nat.le_refl _)])
   go_wp2_with fail
   go_loopw [22, 23] (fun v i wz => ∃ q : Nat, q ≤ m5 ∧ v = .int .i64 (lasD (ds.take q) kn) ∧ i = .int .i64 q ∧ Below X5.heap.size X5 wz) (fun _ i _ => m5 - (intOf i).toNat)
   case atStart => exact ⟨0, Nat.zero_le _, rfl, rfl, Y7.out⟩
   case round =>
    obtain ⟨q, hq, rfl, rfl, hg⟩ := hrel
    have HGq := Lib.hid hg
    have hwq : wrap64 ((q : Int) + 1) = (q : Int) + 1 := wrap_in (by omega)
    by_cases hqm : q < m5
    ·obtain ⟨b, o, rfl, -, -, hc⟩ := ints_at (I5.out.below hg) hqm
     have x0 := hc _ (Below.refl _ _)
     have HLq := Lib.hid (HLT.out q hqm)
     obtain ⟨dd, hdd⟩ : ∃ t, ds.getD q 0 = t := ⟨_, rfl⟩
     rw [hdd] at x0 HLq
     obtain ⟨ld, hld⟩ : ∃ t, lasD (ds.take q) kn = t := ⟨_, rfl⟩
     rw [hld] at HLq ⊢
     clear hc hdd hld hg
     by_cases hle : dd ≤ kn
     ·have HL2 := Lib.hid (show lasD (ds.take (q + 1)) kn = dd by rw [HLq.out, if_pos hle])
      go_wp2_with fail
      go_roundw
      case rel => exact ⟨q + 1, by omega, by rw [HL2.out], rfl, HGq.out⟩
      case measure => simp only [intOf]; omega
     ·have HL2 := Lib.hid (show lasD (ds.take (q + 1)) kn = ld by rw [HLq.out, if_neg hle])
      go_wp2_with fail
      go_roundw
      case rel => exact ⟨q + 1, by omega, by rw [HL2.out], rfl, HGq.out⟩
      case measure => simp only [intOf]; omega
    ·obtain rfl : q = m5 := by omega
     rw [HLE.out]
     have HG5 := Lib.hid (Y5.out.trans (hg.mono Y5.out.size))
     obtain ⟨la, hla⟩ : ∃ t, lasD ds kn = t := ⟨_, rfl⟩
     rw [hla] at HLN2 HLS2 ⊢
     clear hla hg
     have HGF := Lib.hid (HG.out.trans (HG9.out.mono HG.out.size))
     by_cases hneg : la < 0
     ·have hm3 : m3 = 0 := by
       have h1 := HLN2.out hneg
       have h2 := I3e.out.1
       rw [← HSL.out, h1] at h2
       exact h2.symm
      subst hm3
      go_wp2_with (go_at_call 20; (with_reducible refine (TS.out _).mono ?_); rintro e V9 ⟨rfl, hg⟩; have GV9 := Lib.hid (HG5.out.trans (hg.mono HG5.out.size)); clear hg)
      go_ret
      exact ⟨rfl, HGF.out.trans (GV9.out.mono HGF.out.size)⟩
     ·obtain ⟨hs1, hs2, hs3⟩ := HLS2.out (by omega)
      have HKL := Lib.hid (show 0 ≤ la ∧ la ≤ 4166 by have := HK.out; omega)
      have U26 := Lib.hid (fun W g => T26l.out W g la HKL.out)
      have U46 := Lib.hid (fun W g => T46l.out W g la HKL.out)
      rw [hs1] at U26 U46
      rw [HE.out, HWL.out] at U26
      rw [HSL.out] at U46
      have hee : (E == E) = true := by simp
      clear hs1 hs2 hs3
      go_upto_region 28 with (first
       | (go_at_call 26; (with_reducible refine (U26.out _ HG5.out).mono ?_); rintro e P1 ⟨D8, m8, d8, rfl, hi, hm, hg⟩; have I8 := Lib.hid hi; have M8 := Lib.hid hm; have Q1 := Lib.hid (HG5.out.trans (hg.mono HG5.out.size)); have R1 := Lib.hid hg; clear hi hm hg)
       | (go_at_call 46; (with_reducible refine (U46.out _ Q1.out).mono ?_); rintro e P2 ⟨D9, m9, d9, rfl, hi, hm, hg⟩; have I9 := Lib.hid hi; have M9 := Lib.hid hm; have I8b := Lib.hid (I8.out.below hg); have Q2 := Lib.hid (Q1.out.trans (hg.mono Q1.out.size)); have R2 := Lib.hid (R1.out.trans (hg.mono R1.out.size)); clear hi hm hg))
      have GX := Lib.hid (HGq.out.trans (R2.out.mono HGq.out.size))
      have S3 := Lib.hid (show Calls Tryz.prog 19 #[.slice D1 m1 d1, .slice D8 m8 d8] P2 fun e w' => e = .returned (.bool true) ∧ Below P2.heap.size P2 w' by have := sameInts_any D1 D8 m1 d1 m8 d8 _ _ P2 (I1e.out.below GX.out) I8b.out (by have := M1.out; omega) (by have := M8.out; omega); rwa [decide_eq_true rfl] at this)
      have S4 := Lib.hid (fun X (g : Below P2.heap.size P2 X) => (show Calls Tryz.prog 19 #[.slice D3 m3 d3, .slice D9 m9 d9] X fun e w' => e = .returned (.bool true) ∧ Below X.heap.size X w' by have := sameInts_any D3 D9 m3 d3 m9 d9 _ _ X ((I3e.out.below GX.out).below g) (I9.out.below g) (by have := M3.out; omega) (by have := M9.out; omega); rwa [decide_eq_true rfl] at this))
      go_wp2_with (first
       | (go_at_call 19; (with_reducible refine (S3.out).mono ?_); rintro e P3 ⟨rfl, hg⟩; have Q3 := Lib.hid hg; clear hg)
       | (go_at_call 19; (with_reducible refine (S4.out _ Q3.out).mono ?_); rintro e P4 ⟨rfl, hg⟩; have Q4_ := Lib.hid (Q3.out.trans (hg.mono Q3.out.size)); clear hg)
       | (go_at_call 20; (with_reducible refine (TS.out _).mono ?_); rintro e V9 ⟨rfl, hg⟩; have GV9 := Lib.hid (Q2.out.trans ((Q4_.out.trans (hg.mono Q4_.out.size)).mono Q2.out.size)); clear hg))
      go_ret
      exact ⟨rfl, HGF.out.trans (GV9.out.mono HGF.out.size)⟩
end Go.Proofs.YtehhlgdkhecacaaGreat
