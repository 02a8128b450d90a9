/- Part of the proof: WK, WN, TZ, WE, WF, WO, TX, XB, WC, WD, DE, DF, DR, XI, XA. -/
import Derived.Lib.AppendZeros
import Derived.Laws.NewBlocks
import Derived.Test.YtkoejeghihcmlaaGreatRows
import Derived.ProofKit
import Derived.Carry
import Derived.WideKeyArgs
import Derived.Below
import Derived.OpenShut
import Derived.Deep.Slices
import Derived.Test.YtkoejeghihcmlaaGreatNA0
import Derived.Test.YtkoejeghihcmlaaGreatNA2
import Derived.Test.YtkoejeghihcmlaaGreatNA3
namespace Go.Proofs.YtkoejeghihcmlaaGreat
open Go.RowKit Go.Shelf
attribute [local go_sem] Oper.semAt_some
theorem own_ne39 {W : World} {B b3 : Nat} {u v : Value} {xs : List Int} (hb : Blk W b3 39 #[u]) (ho : OwnL icells 1 3 W B v xs) : v.ownBlock ≠ some b3 := fun e => by
 obtain ⟨-, -, cur, e2⟩ := own_cells ho e
 have : W.heap[b3]? = some (.cells #[u] 39 (0, 0)) := hb
 rw [this] at e2
 cases e2
theorem app_step2 {B b3 : Nat} {W w2 : World} {v v' : Value} {xs : List Int} {x : Int} (bw : Nat) (hb : Blk W b3 39 #[v]) (ho : OwnL icells 1 3 W B v xs)
  (h2 : OwnL icells 1 3 w2 B v' (xs ++ [x])) (hg : (W.alloc (.cells #[.int .i64 x] 3)).grownBy w2 v.ownBlock) : Stp B bw b3 W (w2.setCell ⟨b3, 0, none⟩ v') v' (xs ++ [x]) := by
 have hob : ∀ g, v.ownBlock = some g → B ≤ g ∧ g < W.heap.size ∧ ∃ cur, W.heap[g]? = some (.cells cur 3 (0, 0)) := fun g e => own_cells ho e
 have hne : v.ownBlock ≠ some b3 := own_ne39 hb ho
 have hb2 : Blk w2 b3 39 #[v] := (hb.alloc _).grown hg hne
 refine ⟨⟨?_, fun k hk h1 h2' h3' => ?_⟩, fun D => ⟨?_, fun k o hD hk ho' => ?_⟩, by simpa using hb2.set_ 0 v', ?_, (((Oto.refl W).below (one_more W _)).grown hg).set _ _⟩
 ·have := hg.size; simp at this ⊢; omega
 ·refine (Below.heap_setCell _ _ _ _ (fun e => h2' (by rw [e]))).trans ?_
  refine (hg.block k (by simp; omega) (fun e => ?_)).trans (Below.heap_alloc _ _ _ hk)
  obtain ⟨e1, -, cur, e2⟩ := hob k e.symm
  rcases h3' with h3' | h3'
  ·omega
  ·exact h3' _ _ e2
 ·have := hg.size; simp at this ⊢; omega
 ·have hkl := (Array.getElem?_eq_some_iff.1 hk).1
  have hkb : k ≠ b3 := fun e => by
   subst e
   have : W.heap[k]? = some (.cells #[v] 39 (0, 0)) := hb
   rw [this] at hk; cases hk; cases ho'
  refine (Below.heap_setCell _ _ _ _ (fun e => hkb (by rw [e]))).trans ?_
  refine ((hg.block k (by simp; omega) (fun e => ?_)).trans (Below.heap_alloc _ _ _ hkl)).trans hk
  obtain ⟨-, -, cur, e2⟩ := hob k e.symm
  rw [e2] at hk; cases hk; cases ho'
 ·exact h2.apart (p := ⟨b3, 0, none⟩) (own_ne39 hb2 h2) _
theorem own_one (W : World) (x : Int) : OwnL icells 1 3 (W.alloc (.cells #[.int .i64 x] 3)) W.heap.size (.slice (some ⟨W.heap.size, 0, none⟩) 1 1) [x] :=
 own_mk icells_len rfl (Nat.le_refl _) (Blk.new _ _ _) (Nat.le_refl _) (by unfold maxLen; omega) rfl rfl
/-- What had stood after so many loads, so far. -/
def runP (sown : Int) (ns : List Int) (k : Nat) : List Int := (List.range (k + 1)).map (runK sown ns)
theorem runP_succ (sown : Int) (ns : List Int) (k : Nat) : runP sown ns (k + 1) = runP sown ns k ++ [runK sown ns (k + 1)] := by unfold runP; rw [List.range_succ, List.map_append]; rfl
theorem runP_len (sown : Int) (ns : List Int) (k : Nat) : (runP sown ns k).length = k + 1 := by unfold runP; rw [List.length_map, List.length_range]
theorem runP_at {sown : Int} {ns : List Int} {k i : Nat} (hi : i ≤ k) : (runP sown ns k).getD i 0 = runK sown ns i := by
 unfold runP
 rw [List.getD_eq_getElem?_getD, List.getElem?_map, List.getElem?_range (by omega)]
 rfl
theorem run_bd {ls : List Six} {ns : List Int} {sown : Int} (h0 : 0 ≤ sown ∧ sown ≤ 10000) (hw : ∀ i, i < ls.length → 0 ≤ (ls.getD i z6).c ∧ (ls.getD i z6).d ≤ 10000) : ∀ k, k ≤ ls.length → (∀ i, i < k → tookB ls ns i = true) → -(10000 * (k : Int)) ≤ runK sown ns k ∧ runK sown ns k ≤ 10000
 | 0, _, _ => by show -(10000 * ((0 : Nat) : Int)) ≤ sown ∧ sown ≤ 10000; omega
 | k + 1, hk, h => by
  have ih := run_bd h0 hw k (by omega) (fun i hi => h i (by omega))
  have h1 := h k (by omega)
  have h2 := hw k (by omega)
  unfold tookB at h1
  rw [rng_iff] at h1
  have e : runK sown ns (k + 1) = runK sown ns k - ns.getD k 0 := rfl
  omega
theorem Blk.drew_ {w : World} {g : Nat} {t : TypeId} {cs : Array Value} (h : Blk w g t cs) : Blk w.drew g t cs := h
/-- What truth returns. -/
def TruthEnd (p : Pl) (known sown : Int) (ns : List Int) (w : World) (e : Ending) (w' : World) : Prop :=
 (∃ v, e = .returned (.tuple #[v, .bool (truthB p known sown ns)]) ∧ (truthB p known sown ns = true → OwnL icells 1 3 w' w.heap.size v (truS p known sown ns))) ∧ Below w.heap.size w w'
set_option maxRecDepth 100000 in
set_option maxHeartbeats 16000000 in
theorem truth_any (p : Pl) (A1 A2 A3 : Option Addr) (n1 c1 n2 c2 n3 c3 pb bf : Nat) (known : Int) (A : Option Addr) (n c : Nat) (v3 : Value) (N : Option Addr) (nn cn : Nat) (ns : List Int) (sown : Int) (w : World)
  (hP : Blk w pb 38 (plb p A1 A2 A3 n1 c1 n2 c2 n3 c3)) (hp : Pa w p A1 A2 A3 n1 c1 n2 c2 n3 c3) (hok : okPl p = true) (h60 : n ≤ 100)
  (hF : Blk w bf 152 #[.pointer (some ⟨pb, 0, none⟩), .int .i64 known, .slice A n c, v3]) (ha : Arr scells 6 w A n (lookL p known every)) (hns : Ints w N nn ns)
  (hI : ∀ x ∈ ns, -9223372036854775808 ≤ x ∧ x ≤ 9223372036854775807) (hnn : nn ≤ 9223372036854775807) :
  Calls Tryz.prog 83 #[.pointer (some ⟨bf, 0, none⟩), .agg #[.int .i64 sown, .slice N nn cn]] w (TruthEnd p known sown ns w) := by
 obtain ⟨W1, hW1⟩ : ∃ W1, ((w.alloc (.cells #[.int .i64 sown, .slice N nn cn] 41)).alloc (.cells #[.slice none 0 0] 39)).alloc (.cells #[.bool false] 4) = W1 := ⟨_, rfl⟩
 have g1 : Below w.heap.size w W1 := by rw [← hW1]; exact three_more _ _ _ _
 have HB1 := Lib.hid (show Blk W1 w.heap.size 41 #[.int .i64 sown, .slice N nn cn] by rw [← hW1]; exact ((Blk.new _ _ _).alloc _).alloc _)
 have HB4 := Lib.hid (show Blk W1 (w.heap.size + 1) 39 #[.slice none 0 0] by rw [← hW1]; have := Blk.new (w.alloc (.cells #[.int .i64 sown, .slice N nn cn] 41)) 39 #[.slice none 0 0]; rw [World.size_alloc] at this; exact this.alloc _)
 have HB5 := Lib.hid (show Blk W1 (w.heap.size + 1 + 1) 4 #[.bool false] by rw [← hW1]; have := Blk.new ((w.alloc (.cells #[.int .i64 sown, .slice N nn cn] 41)).alloc (.cells #[.slice none 0 0] 39)) 4 #[.bool false]; simp only [World.size_alloc] at this; exact this)
 have hla := ha.1
 have HLN := Lib.hid hns.1
 have HLA := Lib.hid hla
 have hPs := hP.lt
 have hFs := hF.lt
 have G1 := Lib.hid g1
 have HP1 := Lib.hid (hP.ext g1)
 have HF1 := Lib.hid (hF.ext g1)
 have HPA := Lib.hid (hp.below g1)
 have HA1 := Lib.hid (ha.below g1)
 have HOK := Lib.hid hok
 have hpar := ok_parts hok
 have h260 : n2 ≤ 60 := by have := hpar.2.2.2.2.2.2.1; have := hp.l2.1; omega
 have HPH := Lib.hid (show 0 ≤ p.lo ∧ p.hi ≤ 10000 from ⟨hpar.2.2.1, hpar.2.2.2.2.1⟩)
 have HW := Lib.hid (show ∀ i, i < (lookL p known every).length → 0 ≤ ((lookL p known every).getD i z6).c ∧ ((lookL p known every).getD i z6).d ≤ 10000 from fun i hi => by
  have := lookL_num hok known every _ (getD_mem hi)
  unfold Num at this
  omega)
 have T1 := Lib.hid (numbers_any p A1 A2 A3 n1 c1 n2 c2 n3 c3 pb bf known A n c v3 N nn cn ns sown W1 (hP.ext g1) (hp.below g1) hok (by omega) (hF.ext g1) (ha.below g1) (hns.below g1) hI hnn)
 have u0 := HB1.out.cell 0
 have u1 := HB1.out.cell 1
 have HW1 := Lib.hid hW1
 have HSB := Lib.hid (show numsB p known sown ns = true → 0 ≤ sown ∧ sown ≤ 10000 from fun h => by
  unfold numsB at h
  rw [Bool.and_eq_true, rng_iff] at h
  have := HPH.out
  omega)
 have HNF := Lib.hid (show numsB p known sown ns = false → truthB p known sown ns = false from fun h => by unfold truthB; rw [h]; rfl)
 have HTF := Lib.hid (show ∀ i, i < (lookL p known every).length → tookB (lookL p known every) (numsL p known ns) i = false → truthB p known sown ns = false from fun i hi h => by
  unfold truthB
  rw [show ((List.range (lookL p known every).length).all (tookB (lookL p known every) (numsL p known ns))) = false from List.all_eq_false.2 ⟨i, List.mem_range.2 hi, by rw [h]; decide⟩, Bool.and_false]; rfl)
 have HSF := Lib.hid (show ∀ k, k < p.stands.length → standB known (lookL p known every) (truS p known sown ns) (p.stands.getD k z6) = false → truthB p known sown ns = false from fun k hk h => by
  unfold truthB
  rw [show (p.stands.all (standB known (lookL p known every) (truS p known sown ns))) = false from List.all_eq_false.2 ⟨_, getD_mem hk, by rw [h]; decide⟩, Bool.and_false]; rfl)
 have HTT := Lib.hid (show numsB p known sown ns = true → (∀ i, i < (lookL p known every).length → tookB (lookL p known every) (numsL p known ns) i = true) → (∀ k, k < p.stands.length → standB known (lookL p known every) (truS p known sown ns) (p.stands.getD k z6) = true) → truthB p known sown ns = decide (0 ≤ runK sown (numsL p known ns) (lookL p known every).length) from fun h1 h2 h3 => by
  unfold truthB
  rw [h1, List.all_eq_true.2 (fun i hi => h2 i (List.mem_range.1 hi)), List.all_eq_true.2 (fun x hx => by
   obtain ⟨i, hi, rfl⟩ := List.getElem_of_mem hx
   rw [← six_get hi]
   exact h3 i hi)]
  rfl)
 clear hP hp hF ha hns hI hok hW1 g1 hpar hla
 refine (callsIn_wide (n := 4)).1 (callsIn_of_wp_marks Tryz.func83 rfl trivial ?_ rfl)
 simp only [Tryz.ntmps83, List.size_toArray, List.length_cons, List.length_nil, Nat.reduceAdd, Nat.reduceSub, Array.replicate_succ, Array.replicate_zero, List.push_toArray, List.append_toArray, List.nil_append, List.cons_append]
 refine wpIn_wide.2 ?_
 go_upto_region 1 with fail
 rw [HW1.out]
 obtain ⟨nb, hnb⟩ : ∃ b, numsB p known sown ns = b := ⟨_, rfl⟩
 have HNB := Lib.hid hnb
 clear hnb
 cases nb with
 | false =>
  have HTF2 := Lib.hid (HNF.out HNB.out)
  go_upto_region 2 with (go_at_call 166; (with_reducible refine (T1.out).mono ?_); rintro e V2 ⟨⟨v, rfl, -, hv⟩, hg⟩; rw [HNB.out]; have hv := hv HNB.out; subst hv)
  have gx : Below W1.heap.size W1 (V2.alloc (.cells #[.slice none 0 0] 39)) := hg.trans ((one_more V2 _).mono hg.size)
  have HX4 := Lib.hid (HB4.out.ext gx)
  have HX5 := Lib.hid (HB5.out.ext gx)
  have m0 := HX4.out.cell 0
  have m1 := HX4.out.frozen 0
  have m2 := HX5.out.cell 0
  have m3 := HX5.out.frozen 0
  have GX := Lib.hid gx
  clear u0 u1 gx hg
  go_wp2_with fail
  have k4 := (HX4.out.set_ 0 (.slice none 0 0)).far (p := ⟨w.heap.size + 1 + 1, 0, none⟩) (by show w.heap.size + 1 ≠ w.heap.size + 1 + 1; omega) (.bool false)
  have k5 := (HX5.out.far (p := ⟨w.heap.size + 1, 0, none⟩) (by show w.heap.size + 1 + 1 ≠ w.heap.size + 1; omega) (.slice none 0 0)).set_ 0 (.bool false)
  have t0 := k4.cell 0
  have t1 := k5.cell 0
  refine ⟨.tuple #[.slice none 0 0, .bool false], ?_, ⟨⟨_, by rw [HTF2.out], fun h => (by rw [HTF2.out] at h; cases h)⟩, ?_⟩⟩
  ·simp [results, Tryz.results83, go_sem, t0, t1]
  ·exact ((G1.out.trans (GX.out.mono G1.out.size)).setCell (p := ⟨w.heap.size + 1, 0, none⟩) (by show w.heap.size ≤ w.heap.size + 1; omega) _).setCell (p := ⟨w.heap.size + 1 + 1, 0, none⟩) (by show w.heap.size ≤ w.heap.size + 1 + 1; omega) _
 | true =>
  go_upto_region 2 with (go_at_call 166; (with_reducible refine (T1.out).mono ?_); rintro e V2 ⟨⟨v, rfl, ho, -⟩, hg⟩; rw [HNB.out]; have HO := Lib.hid (ho HNB.out); clear ho; obtain ⟨D, c', hv, -, -, hin, -⟩ := OwnL.arr kdI HO.out; subst hv)
  have hls0 : (numsL p known ns).length = n := by rw [numsL_len]; exact HLA.out
  have HTS := Lib.hid (show truS p known sown ns = runP sown (numsL p known ns) n by
   have e : (numsL p known ns).length = n := hls0
   unfold truS runS runP
   rw [e])
  obtain ⟨nl, hnl⟩ : ∃ l, numsL p known ns = l := ⟨_, rfl⟩
  obtain ⟨ls, hlse⟩ : ∃ l, lookL p known every = l := ⟨_, rfl⟩
  have HSB2 := Lib.hid (HSB.out HNB.out)
  rw [hnl] at hls0 hin HTS HO ⊢
  rw [hnl, hlse] at HTF HTT
  rw [hlse] at HSF HW HLA HA1
  have HTT2 := Lib.hid (HTT.out HNB.out)
  rw [hls0] at hin ⊢
  have gx : Below W1.heap.size W1 (V2.alloc (.cells #[.slice D n c'] 39)) := hg.trans ((one_more V2 _).mono hg.size)
  obtain ⟨W2, hW2⟩ : ∃ W, V2.alloc (.cells #[.slice D n c'] 39) = W := ⟨_, rfl⟩
  have HB6 := Lib.hid (show Blk W2 V2.heap.size 39 #[.slice D n c'] by rw [← hW2]; exact Blk.new _ _ _)
  have HN2 := Lib.hid (show Ints W2 D n nl by rw [← hW2]; exact hin.below (one_more _ _))
  have HNV := Lib.hid (show ∀ b o, D = some ⟨b, o, none⟩ → 0 < n → b < V2.heap.size from fun b o e h0 => by
   obtain ⟨b', o', e', hlt, -⟩ := hin.2 h0
   rw [e] at e'; cases e'
   exact hlt)
  rw [hW2] at gx ⊢
  have G2 := Lib.hid (G1.out.trans (gx.mono G1.out.size))
  have HB12 := Lib.hid (HB1.out.ext gx)
  have HB42 := Lib.hid (HB4.out.ext gx)
  have HB52 := Lib.hid (HB5.out.ext gx)
  have HP2 := Lib.hid (HP1.out.ext gx)
  have HF2 := Lib.hid (HF1.out.ext gx)
  have HPA2 := Lib.hid (HPA.out.below gx)
  have HA2 := Lib.hid (HA1.out.below gx)
  have hv2s := hg.size
  have hb5l := HB5.out.lt
  have hb6l := HB6.out.lt
  have hfl2 := HF2.out.lt
  have hpl2 := HP2.out.lt
  have hw1s := G1.out.size
  have HLN0 := Lib.hid hls0
  clear hW2 hin hg gx hnl hlse u0 u1 hls0
  have v0 := HB12.out.cell 0
  go_upto_region 5 with fail
  obtain ⟨W3, hW3⟩ : ∃ W, (W2.alloc (.cells #[.int .i64 sown] 3)).alloc (.cells #[.slice (some ⟨W2.heap.size, 0, none⟩) 1 1] 39) = W := ⟨_, rfl⟩
  have g3 : Below W2.heap.size W2 W3 := by rw [← hW3]; exact two_more _ _ _
  have ho3 : OwnL icells 1 3 W3 W2.heap.size (.slice (some ⟨W2.heap.size, 0, none⟩) 1 1) (runP sown nl 0) := by rw [← hW3]; exact (own_one W2 sown).ext (one_more _ _)
  have hb8 : Blk W3 (W2.heap.size + 1) 39 #[.slice (some ⟨W2.heap.size, 0, none⟩) 1 1] := by rw [← hW3]; have := Blk.new (W2.alloc (.cells #[.int .i64 sown] 3)) 39 #[.slice (some ⟨W2.heap.size, 0, none⟩) 1 1]; rwa [World.size_alloc] at this
  have hs3 : W3.heap.size = W2.heap.size + 2 := by rw [← hW3]; simp
  rw [hW3]
  clear hW3 v0
  go_wp2_with fail
  refine (carted_any _ _).mono ?_
  rintro e w' ⟨rfl, hw'⟩
  have hbQ : Blk w' W3.heap.size 134 #[.pointer (some ⟨bf, 0, none⟩)] := by rw [← hw']; exact Blk.new _ _ _
  have g4 : Below W3.heap.size W3 w' := by rw [← hw']; exact one_more _ _
  have hs4 : w'.heap.size = W3.heap.size + 1 := by rw [← hw']; simp
  clear hw'
  rename World => W0
  have g5 : Below W2.heap.size W2 W0 := g3.trans (g4.mono g3.size)
  have HO0 := Lib.hid (ho3.ext g4)
  have HB80 := Lib.hid (hb8.ext g4)
  have HB10 := Lib.hid (HB12.out.ext g5)
  have HB40 := Lib.hid (HB42.out.ext g5)
  have HB50 := Lib.hid (HB52.out.ext g5)
  have HB60 := Lib.hid (HB6.out.ext g5)
  have HP0 := Lib.hid (HP2.out.ext g5)
  have HF0 := Lib.hid (HF2.out.ext g5)
  have HPA0 := Lib.hid (HPA2.out.below g5)
  have HA0 := Lib.hid (HA2.out.below g5)
  have HN0 := Lib.hid (HN2.out.below g5)
  have G0 := Lib.hid (G2.out.trans (g5.mono G2.out.size))
  have hg2s := G2.out.size
  obtain ⟨bS, hbS⟩ : ∃ b, W2.heap.size = b := ⟨_, rfl⟩
  have HQ0 := Lib.hid (show Blk W0 (bS + 2) 134 #[.pointer (some ⟨bf, 0, none⟩)] by rw [← hbS, ← hs3]; exact hbQ)
  have HAD := Lib.hid (show ∀ b o, A = some ⟨b, o, none⟩ → 0 < n → b ≠ bS + 1 ∧ b ≠ bS + 1 ∧ b < bS from fun b o e h0 => by
   obtain ⟨b', o', e', hlt, -⟩ := HA2.out.2 h0
   rw [e] at e'; cases e'
   omega)
  have HDD := Lib.hid (show ∀ b o, D = some ⟨b, o, none⟩ → 0 < n → b ≠ bS + 1 ∧ b ≠ bS + 1 ∧ b < bS from fun b o e h0 => by
   have := HNV.out b o e h0
   omega)
  have h0s : bS + 3 ≤ W0.heap.size := by omega
  have HNV0 := Lib.hid (show W2.heap.size = bS from hbS)
  rw [show W3.heap.size = bS + 2 by omega]
  rw [hbS] at HO0 HB80 hb6l hfl2 hpl2 hg2s ⊢
  obtain ⟨b6, hb6⟩ : ∃ b, V2.heap.size = b := ⟨_, rfl⟩
  rw [hb6] at HB60 hb6l hv2s ⊢
  have HSQ := Lib.hid (carted_seqP 3 W0 bS (bS + 2) bf (bS + 1) (bS + 1) A n c ls (HQ0.out.cell 0) (HF0.out.cell 2) HA0.out (by omega) HAD.out)
  clear g3 g4 g5 ho3 hb8 hs3 hs4 hbQ hbS hb6
  go_wp2_with fail
  refine (wpIn_wide (n := 4)).1 ?_
  refine wp_rangeP (α := Cx n) (n := 4) (by omega) (gf := 202) (lb := #[.pointer (some ⟨bS + 2, 0, none⟩)]) rfl (enters_of Tryz.func202 (by kernel_rfl) rfl) HSQ.out (Below.refl _ _) (fun _ => rfl)
   (fun pre W => FixU bS (bS + 1) (bS + 1) W0 W ∧ (∃ v, Blk W (bS + 1) 39 #[v] ∧ OwnL icells 1 3 W bS v (runP sown nl pre.length)) ∧ (∀ i, i < pre.length → tookB ls nl i = true) ∧ Oto W0 W)
   (fun cc _ W => cc = .ret ∧ Below w.heap.size w W ∧ Blk W (w.heap.size + 1) 39 #[.slice none 0 0] ∧ Blk W (w.heap.size + 1 + 1) 4 #[.bool false] ∧ ∃ i, i < ls.length ∧ tookB ls nl i = false) ?hI ?hIx ?h0
   (fun x a' W => ∃ Bx, W0.heap.size ≤ Bx ∧ Blk W Bx 103 #[.int .i64 (ls.getD x.1 z6).a, .int .i64 (ls.getD x.1 z6).b, .int .i64 (ls.getD x.1 z6).c, .int .i64 (ls.getD x.1 z6).d, .int .i64 (ls.getD x.1 z6).e, .int .i64 (ls.getD x.1 z6).f] ∧
    a' = (?F : Cx n → Nat → Act) x Bx) ?hAx ?assign ?body ?done ?stop
  case assign =>
   rintro l pre x W K ⟨hfx, ⟨v, hbo, ho⟩, htk, hto⟩ hK
   unfold encC
   gi_wp2
   refine hK _ _ ((KeepsOthers.alloc _ _).from _) (FixU.of_below (one_more _ _)) ⟨hfx.trans (FixU.of_below (one_more _ _)), ⟨v, hbo.alloc _, ho.ext (one_more _ _)⟩, htk, hto.below (one_more _ _)⟩ ⟨W.heap.size, hfx.size, Blk.new _ _ _, ?_⟩
   generalize W.heap.size = B
   rfl
  case hI =>
   rintro pre X Y row ⟨hfx, ⟨v, hbo, ho⟩, htk, hto⟩ hg hr
   have hr1 : ∀ r, row = some r → ∃ o : Obj, X.heap[r]? = some o ∧ o.isCells = false := fun r e => (hr r e).2
   exact ⟨(FixU.own (α := Nat) (Nat.le_refl _)) [] _ _ _ hfx hg hr, ⟨v, hbo.own hg hr1, ho.held hg hr1⟩, htk, hto.grown hg⟩
  case hIx =>
   rintro cc pre X Y row ⟨h1, h2, h3, h4, h5⟩ hg hr
   have hr1 : ∀ r, row = some r → ∃ o : Obj, X.heap[r]? = some o ∧ o.isCells = false := fun r e => (hr r e).2
   exact ⟨h1, h2.grown hg (by have := h2.size; omega) (fun k hk => by have := (hr k hk).1; omega), h3.own hg hr1, h4.own hg hr1, h5⟩
  case h0 => exact ⟨FixU.refl _ _ _ _, ⟨_, HB80.out, HO0.out⟩, fun i hi => absurd hi (Nat.not_lt_zero _), Oto.refl _⟩
  case hAx =>
   rintro x a' _ X Y row ⟨Bx, h1, h2, h3⟩ hg hr
   exact ⟨Bx, h1, h2.own hg (fun r e => (hr r e).2), h3⟩
  case body =>
   rintro l pre x a' W hl - ⟨hfx, ⟨v, hbo, ho⟩, htk, hto⟩ ⟨Bx, hBx, hB, rfl⟩ hpl hG
   have hXs := hfx.size
   obtain ⟨xi, hxi⟩ : ∃ xi, x.1 = xi := ⟨_, rfl⟩
   have hxn : xi < n := by rw [← hxi]; exact x.2
   rw [hxi] at hB hG ⊢
   have HPN := Lib.hid (show (pre ++ [x]).length = xi + 1 by rw [List.length_append, List.length_singleton, hG])
   rw [← hG] at ho htk
   obtain ⟨y, hy⟩ : ∃ y, ls.getD xi z6 = y := ⟨_, rfl⟩
   have HTK := Lib.hid htk
   have HTB := Lib.hid (show tookB ls nl xi = rng (nl.getD xi 0) y.c y.d by unfold tookB; rw [hy])
   have hwx := HW.out xi (by rw [HLA.out]; exact hxn)
   have HRB := Lib.hid (run_bd (ns := nl) HSB2.out HW.out xi (by rw [HLA.out]; omega) htk)
   have HRS := Lib.hid (show runK sown nl (xi + 1) = runK sown nl xi - nl.getD xi 0 from rfl)
   have HRP := Lib.hid (runP_succ sown nl xi)
   have HRA := Lib.hid (runP_at (sown := sown) (ns := nl) (k := xi) (i := xi) (Nat.le_refl _))
   rw [hy] at hB hwx
   obtain ⟨b9, o9, e9, -, -, hc9⟩ := ints_at (hfx.arr HN0.out HDD.out) hxn
   obtain ⟨nv, hnv⟩ : ∃ v, nl.getD xi 0 = v := ⟨_, rfl⟩
   rw [hnv] at hc9 HTB HRS
   have HB6W := Lib.hid (hfx.blk HB60.out (by omega) (by omega) (.inr (by decide)))
   obtain ⟨Av, cv, hve, -, -, hvi, -⟩ := OwnL.arr kdI ho
   rw [runP_len] at hve hvi
   subst hve
   obtain ⟨b7, o7, e7, -, -, hc7⟩ := ints_at hvi (show xi < xi + 1 by omega)
   rw [HRA.out] at hc7
   obtain ⟨rk, hrk⟩ : ∃ v, runK sown nl xi = v := ⟨_, rfl⟩
   rw [hrk] at hc7 HRS HRB
   obtain ⟨pv, hpv⟩ : ∃ l, runP sown nl xi = l := ⟨_, rfl⟩
   have HPL := Lib.hid (show pv.length + 1 ≤ 1000000 by rw [← hpv, runP_len]; omega)
   rw [hpv] at ho HRP
   have HFX := Lib.hid hfx
   have HBO := Lib.hid hbo
   have HO9 := Lib.hid ho
   have HTO := Lib.hid hto
   have HBX := Lib.hid hB
   have HGW := Lib.hid (show Below w.heap.size w W from G0.out.trans (hfx.below (D := w.heap.size) hto (by omega) (by omega) (by omega) (by omega)))
   have HB4W := Lib.hid (hfx.blk HB40.out (by omega) (by omega) (.inr (by decide)))
   have HB5W := Lib.hid (hfx.blk HB50.out (by omega) (by omega) (.inr (by decide)))
   obtain ⟨rv, hrv⟩ : ∃ b, rng nv y.c y.d = b := ⟨_, rfl⟩
   have TW := fun V => within_any nv y.c y.d V
   rw [hrv] at TW HTB
   have HTW := Lib.hid TW
   have HRV := Lib.hid hrv
   have u0 := cellW (HB6W.out.cell 0)
   have u1 := cellW (hc9 W (Below.refl _ _))
   have u2 := cellW (HBX.out.cell 2)
   have u3 := cellW (HBX.out.cell 3)
   have HC9 := Lib.hid hc9
   have HC7 := Lib.hid hc7
   have HTM := Lib.hid (fun (V : World) (g : Below W.heap.size W V) => (⟨g.size, fun k o _ hk _ => (g.block k (Array.getElem?_eq_some_iff.1 hk).1).trans hk⟩ : KeepsFrom W0.heap.size W V))
   subst e9 e7
   clear hy hG hxi htk hnv hrk hpv hfx hbo ho hto hB hvi hrv TW hc9 hc7
   have hxi1 : (xi : Int) < (xi : Int) + 1 := by omega
   have hxi2 : (xi : Int) < (n : Int) := by omega
   gi_wp2_with fail
   refine wpIn_region_quiet (Open.round l) (C := fun w' => ∃ x : Wd W, w' = x.val) (by kernel_rfl) (by kernel_rfl) (by kernel_rfl) (Wd.of (Below.refl _ _).drew) ?_
   repeat (go_big_quiet_step (first | (go_at_call 145; exact callsCalmSame (HTW.out _))))
   refine wpQuiet_nil ?_
   rintro _ ⟨z, rfl⟩
   clear u0 u1 u2 u3
   have GZ := Lib.hid z.ok
   obtain ⟨Z, hZ⟩ : ∃ Z, z.val = Z := ⟨_, rfl⟩
   rw [hZ] at GZ ⊢
   clear hZ z
   have hzs := GZ.out.size
   cases rv with
   | false =>
    have k4 := HB4W.out.ext GZ.out
    have k5 := HB5W.out.ext GZ.out
    have m0 := k4.cell 0
    have m1 := k4.frozen 0
    have m2 := k5.cell 0
    have m3 := k5.frozen 0
    have K4 := Lib.hid k4
    have K5 := Lib.hid k5
    have hb5w := k5.lt
    clear k4 k5
    gi_wp2_with fail
    refine ⟨(HTM.out _ GZ.out).trans (((KeepsOthers.setCell _ _ _).from _).trans ((KeepsOthers.setCell _ _ _).from _)), rfl, ?_, ?_, ?_, xi, by rw [HLA.out]; exact hxn, HTB.out⟩
    ·exact ((HGW.out.trans (GZ.out.mono HGW.out.size)).setCell (p := ⟨w.heap.size + 1, 0, none⟩) (by show w.heap.size ≤ w.heap.size + 1; omega) _).setCell (p := ⟨w.heap.size + 1 + 1, 0, none⟩) (by show w.heap.size ≤ w.heap.size + 1 + 1; omega) _
    ·exact (K4.out.set_ 0 (.slice none 0 0)).far (p := ⟨w.heap.size + 1 + 1, 0, none⟩) (by show w.heap.size + 1 ≠ w.heap.size + 1 + 1; omega) (.bool false)
    ·exact (K5.out.far (p := ⟨w.heap.size + 1, 0, none⟩) (by show w.heap.size + 1 + 1 ≠ w.heap.size + 1; omega) (.slice none 0 0)).set_ 0 (.bool false)
   | true =>
    have hrb := rng_iff.1 HRV.out
    have hrk := HRB.out
    have HBOZ := Lib.hid (HBO.out.ext GZ.out)
    have HOZ := Lib.hid (HO9.out.ext GZ.out)
    have u0 := HBOZ.out.cell 0
    have u1 := HC9.out Z GZ.out
    have u2 := (HB6W.out.ext GZ.out).cell 0
    have u3 := HC7.out Z GZ.out
    have HOX := Lib.hid (HOZ.out.ext (one_more Z (.cells #[.int .i64 (rk - nv)] 3)))
    have HI1 := Lib.hid (one_int (Blk.new Z 3 #[.int .i64 (rk - nv)]))
    have HOB := Lib.hid (own_ne39 HBOZ.out HOZ.out)
    have hwr : IntKind.i64.wrap (rk - nv) = rk - nv := by rw [IntKind.wrap_i64]; omega
    gi_wp2_with fail
    refine wpIn_region_upto (S := fun V => V.cell? ⟨bS + 1, 0, none⟩ = some (.slice (some ⟨b7, o7, none⟩) (xi + 1) cv) ∧ V.cell? ⟨b9, o9 + xi, none⟩ = some (.int .i64 nv) ∧ V.cell? ⟨b6, 0, none⟩ = some (.slice (some ⟨b9, o9, none⟩) n c') ∧ V.cell? ⟨b7, o7 + xi, none⟩ = some (.int .i64 rk)) 11 (by kernel_rfl) (by kernel_rfl) (⟨u0, u1, u2, u3⟩) (fun hHeld => ?_)
    (refine upto_take [11] (i := 0) (oi := ⟨_, _, _, _, _, _⟩) (d := some 40) (v := ?_) rfl rfl (by kernel_rfl) (by kernel_rfl) (fun _ _ _ h => h) (by rfl) ?_ (by assumption) ?_; rotate_left; (focus (intro w hSw; (try dsimp only at hSw); go_simp; try with_reducible rfl)); (try simp only [Act.put, List.setIfInBounds_toArray, List.set_cons_zero, List.set_cons_succ]))
    (refine upto_take [3, 4, 9, 10, 11] (i := 1) (oi := ⟨_, _, _, _, _, _⟩) (d := some 41) (v := ?_) rfl rfl (by kernel_rfl) (by kernel_rfl) (fun _ _ _ h => h) (by rfl) ?_ (by assumption) ?_; rotate_left; (focus (intro w hSw; (try dsimp only at hSw); go_simp; try with_reducible rfl)); (try simp only [Act.put, List.setIfInBounds_toArray, List.set_cons_zero, List.set_cons_succ]))
    (refine upto_take [3, 4, 9, 10, 11] (i := 2) (oi := ⟨_, _, _, _, _, _⟩) (d := some 42) (v := ?_) rfl rfl (by kernel_rfl) (by kernel_rfl) (fun _ _ _ h => h) (by rfl) ?_ (by assumption) ?_; rotate_left; (focus (intro w hSw; (try dsimp only at hSw); go_simp; try with_reducible rfl)); (try simp only [Act.put, List.setIfInBounds_toArray, List.set_cons_zero, List.set_cons_succ]))
    (refine upto_take [4, 9, 10, 11] (i := 3) (oi := ⟨_, _, _, _, _, _⟩) (d := some 43) (v := ?_) rfl rfl (by kernel_rfl) (by kernel_rfl) (fun _ _ _ h => h) (by rfl) ?_ (by assumption) ?_; rotate_left; (focus (intro w hSw; (try dsimp only at hSw); go_simp; try with_reducible rfl)); (try simp only [Act.put, List.setIfInBounds_toArray, List.set_cons_zero, List.set_cons_succ]))
    (refine upto_take [9, 10, 11] (i := 4) (oi := ⟨_, _, _, _, _, _⟩) (d := some 44) (v := ?_) rfl rfl (by kernel_rfl) (by kernel_rfl) (fun _ _ _ h => h) (by rfl) ?_ (by assumption) ?_; rotate_left; (focus (intro w hSw; (try dsimp only at hSw); go_simp; try with_reducible rfl)); (try simp only [Act.put, List.setIfInBounds_toArray, List.set_cons_zero, List.set_cons_succ]))
    (refine upto_take [7, 8, 9, 10, 11] (i := 5) (oi := ⟨_, _, _, _, _, _⟩) (d := some 45) (v := ?_) rfl rfl (by kernel_rfl) (by kernel_rfl) (fun _ _ _ h => h) (by rfl) ?_ (by assumption) ?_; rotate_left; (focus (intro w hSw; (try dsimp only at hSw); go_simp; try with_reducible rfl)); (try simp only [Act.put, List.setIfInBounds_toArray, List.set_cons_zero, List.set_cons_succ]))
    (refine upto_take [7, 8, 9, 10, 11] (i := 6) (oi := ⟨_, _, _, _, _, _⟩) (d := some 46) (v := ?_) rfl rfl (by kernel_rfl) (by kernel_rfl) (fun _ _ _ h => h) (by rfl) ?_ (by assumption) ?_; rotate_left; (focus (intro w hSw; (try dsimp only at hSw); go_simp; try with_reducible rfl)); (try simp only [Act.put, List.setIfInBounds_toArray, List.set_cons_zero, List.set_cons_succ]))
    (refine upto_take [8, 9, 10, 11] (i := 7) (oi := ⟨_, _, _, _, _, _⟩) (d := some 47) (v := ?_) rfl rfl (by kernel_rfl) (by kernel_rfl) (fun _ _ _ h => h) (by rfl) ?_ (by assumption) ?_; rotate_left; (focus (intro w hSw; (try dsimp only at hSw); go_simp; try with_reducible rfl)); (try simp only [Act.put, List.setIfInBounds_toArray, List.set_cons_zero, List.set_cons_succ]))
    (refine upto_take [9, 10, 11] (i := 8) (oi := ⟨_, _, _, _, _, _⟩) (d := some 48) (v := ?_) rfl rfl (by kernel_rfl) (by kernel_rfl) (fun _ _ _ h => h) (by rfl) ?_ (by assumption) ?_; rotate_left; (focus (intro w hSw; (try dsimp only at hSw); go_simp; try with_reducible rfl)); (try simp only [Act.put, List.setIfInBounds_toArray, List.set_cons_zero, List.set_cons_succ]))
    (refine upto_take [10, 11] (i := 9) (oi := ⟨_, _, _, _, _, _⟩) (d := some 49) (v := ?_) rfl rfl (by kernel_rfl) (by kernel_rfl) (fun _ _ _ h => h) (by rfl) ?_ (by assumption) ?_; rotate_left; (focus (intro w hSw; (try dsimp only at hSw); go_simp; try with_reducible rfl)); (try simp only [Act.put, List.setIfInBounds_toArray, List.set_cons_zero, List.set_cons_succ]))
    refine upto_one 10 (o := ⟨_, _, _, _, _, _⟩) rfl (by kernel_rfl) (by decide) (fun K hK => ?_)
    go_simp
    refine hK.out _ _ ?_ (fun hHeld => ?_)
    ·exact ⟨keepAlloc u0 _, keepAlloc u1 _, keepAlloc u2 _, keepAlloc u3 _⟩
    clear hK K
    (try simp only [Act.put, List.setIfInBounds_toArray, List.set_cons_zero, List.set_cons_succ])
    refine upto_last (o := ⟨_, _, _, _, _, _⟩) rfl (by kernel_rfl) (fun K hK => ?_)
    (go_loud (refine step_app kdI (by rfl) _ _ (by rfl) bS (.slice (some ⟨b7, o7, none⟩) (xi + 1) cv) pv (by rfl) HOX.out _ 1 1 [rk - nv] (by rfl) HI1.out HPL.out (by simp; omega) ?_); intro v' w2 ho2 hg2 hz2; have hg2 : (Z.alloc (.cells #[.int .i64 (rk - nv)] 3)).grownBy w2 (Value.slice (some ⟨b7, o7, none⟩) (xi + 1) cv).ownBlock := ⟨hg2.os, hg2.tape, hg2.output, hg2.size, hg2.block⟩; obtain ⟨Av2, cv2, hve, -⟩ := OwnL.arr kdI ho2; obtain ⟨nv2, hnv⟩ : ∃ q, (pv ++ [rk - nv]).length = q := ⟨_, rfl⟩; rw [hnv] at hve; subst hve; clear hnv; have b9' := ((HBOZ.out.alloc (.cells #[.int .i64 (rk - nv)] 3)).grown hg2 (fun e => HOB.out e)); have m0 := b9'.cell 0; have m1 := b9'.frozen 0; have HS := Lib.hid (app_step2 (bS + 1) HBOZ.out HOZ.out ho2 hg2); clear ho2 hg2 b9' hz2)
    refine hK.out _ _ ?_
    clear hK K
    (try simp only [Act.put, List.setIfInBounds_toArray, List.set_cons_zero, List.set_cons_succ])
    refine any_one 12 (o := ⟨_, _, _, _, _, _⟩) rfl (by kernel_rfl) (fun K hK => ?_)
    go_simp
    refine hK.out _ _ ?_
    clear hK K
    (try simp only [Act.put, List.setIfInBounds_toArray, List.set_cons_zero, List.set_cons_succ])
    refine any_done (by kernel_rfl) ?_
    have FZ := Lib.hid (FixU.of_below (B := bS) (bw := bS + 1) (bs := bS + 1) GZ.out)
    refine ⟨(HTM.out _ GZ.out).trans (HS.out.kf _), FZ.out.trans HS.out.fx, HFX.out.trans (FZ.out.trans HS.out.fx), ⟨_, HS.out.bx, ?_⟩, fun i hi => ?_, (HTO.out.below GZ.out).trans HS.out.oto⟩
    ·rw [HPN.out, HRP.out, HRS.out]
     exact HS.out.own
    ·rw [HPN.out] at hi
     by_cases e : i = xi
     ·rw [e]; exact HTB.out
     ·exact HTK.out i (by omega)
  case done =>
   rintro E xs W hD hS ⟨hfx, ⟨v, hbo, ho⟩, htk, hto⟩ hK
   have hxl : xs.length = n := by
    have := congrArg List.length hS
    rw [List.length_map, List.length_range] at this
    exact this
   rw [hxl] at ho htk
   have hXs := hfx.size
   have HTK := Lib.hid (show ∀ i, i < ls.length → tookB ls nl i = true from fun i hi => htk i (by rw [HLA.out] at hi; exact hi))
   have HTS2 := Lib.hid HTS.out
   have HRN := Lib.hid (show runP sown nl n = runP sown nl n ∧ (runP sown nl n).getD n 0 = runK sown nl n from ⟨rfl, runP_at (Nat.le_refl _)⟩)
   obtain ⟨Av, cv, hve, -, -, hvi, -⟩ := OwnL.arr kdI ho
   rw [runP_len] at hve hvi
   subst hve
   obtain ⟨ts, hts⟩ : ∃ l, runP sown nl n = l := ⟨_, rfl⟩
   rw [hts] at HTS2 HRN hvi ho
   rw [HTS2.out] at HSF HTT2
   have HTT3 := Lib.hid (fun h => HTT2.out HTK.out h)
   rw [HLA.out] at HTT3
   have HOW := Lib.hid ho
   have HVI := Lib.hid hvi
   have HB8W := Lib.hid hbo
   have HB4W := Lib.hid (hfx.blk HB40.out (by omega) (by omega) (.inr (by decide)))
   have HB5W := Lib.hid (hfx.blk HB50.out (by omega) (by omega) (.inr (by decide)))
   have HPW := Lib.hid (hfx.blk HP0.out (by omega) (by omega) (.inr (by decide)))
   have HFW := Lib.hid (hfx.blk HF0.out (by omega) (by omega) (.inr (by decide)))
   have HAW := Lib.hid (hfx.arr HA0.out HAD.out)
   have HL2 := Lib.hid (hfx.arr HPA0.out.l2 (fun b o e h0 => by
    obtain ⟨b', o', e', hlt, -⟩ := HPA2.out.l2.2 h0
    rw [e] at e'; cases e'
    have := HNV0.out
    omega))
   have GW := Lib.hid (show Below w.heap.size w W from G0.out.trans (hfx.below (D := w.heap.size) hto (by omega) (by omega) (by omega) (by omega)))
   have HK := Lib.hid hK
   have hbfl := HFW.out.lt
   have hb8l := hbo.lt
   have hb4l := HB4W.out.lt
   have hb5l := HB5W.out.lt
   have hEl := (Array.getElem?_eq_some_iff.1 hK).1
   have hl2n := HL2.out.1
   have HL2N := Lib.hid hl2n
   have q0 := HFW.out.cell 0
   have q1 := HPW.out.cell 3
   clear hfx hbo ho htk hto hK hS hvi hts hl2n hxl
   go_upto_region 12 with fail
   clear q0 q1
   go_loopw [60] (fun i wr => ∃ k : Nat, k ≤ n2 ∧ i = .int .i64 k ∧ Below W.heap.size W wr ∧ ∀ j, j < k → standB known ls ts (p.stands.getD j z6) = true) (fun i _ => n2 - (intOf i).toNat)
   case atStart => exact ⟨0, Nat.zero_le _, rfl, Below.refl _ _, fun j hj => absurd hj (Nat.not_lt_zero _)⟩
   case round =>
    obtain ⟨k, hk, rfl, hg, hok⟩ := hrel
    have HG := Lib.hid hg
    have HST := Lib.hid hok
    have hws := hg.size
    clear hg hok
    by_cases hkn : k < n2
    ·obtain ⟨b0, o0, e0, -, -, hc⟩ := six_at (HL2.out.below HG.out) hkn
     obtain ⟨x0, x1, x2, x3, x4, x5⟩ := hc wr (Below.refl _ _)
     have HSFk := Lib.hid (HSF.out k (by rw [HL2N.out]; exact hkn))
     obtain ⟨x, hxg⟩ : ∃ x, p.stands.getD k z6 = x := ⟨_, rfl⟩
     rw [hxg] at x0 x1 x2 x3 x4 x5 HSFk
     have HXG := Lib.hid hxg
     subst e0
     obtain ⟨cb, hcb⟩ : ∃ cb, cnt x known = cb := ⟨_, rfl⟩
     have HSD := Lib.hid (show standB known ls ts x = (!cb || rng (ts.getD (after ls x.b) 0) x.c x.d) by unfold standB; rw [hcb])
     have TC := fun V => cnt_any x known V
     rw [hcb] at TC
     have HTC := Lib.hid TC
     clear hc hxg hcb TC
     go_upto_region 14 with fail
     obtain ⟨W5, hW5⟩ : ∃ V, wr.alloc (.cells #[.int .i64 x.a, .int .i64 x.b, .int .i64 x.c, .int .i64 x.d, .int .i64 x.e, .int .i64 x.f] 105) = V := ⟨_, rfl⟩
     rw [hW5]
     have HX5 := Lib.hid (show Blk W5 wr.heap.size 105 #[.int .i64 x.a, .int .i64 x.b, .int .i64 x.c, .int .i64 x.d, .int .i64 x.e, .int .i64 x.f] by rw [← hW5]; exact Blk.new _ _ _)
     have G5 := Lib.hid (show Below W.heap.size W W5 from HG.out.trans ((show Below wr.heap.size wr W5 by rw [← hW5]; exact one_more _ _).mono hws))
     clear hW5 x0 x1 x2 x3 x4 x5
     have v1 := cellW (HX5.out.cell 1)
     have v2 := cellW (HX5.out.cell 2)
     have v3 := cellW (HX5.out.cell 3)
     have v4 := cellW (HX5.out.cell 4)
     have v5 := cellW (HX5.out.cell 5)
     have v6 := cellW ((HFW.out.ext G5.out).cell 1)
     have v7 := cellW ((HB8W.out.ext G5.out).cell 0)
     cases cb with
     | false =>
      have HSD2 := Lib.hid (show standB known ls ts x = true by rw [HSD.out]; rfl)
      refine wp_region_calm W5 (by kernel_rfl) (by kernel_rfl) (Below.refl _ _) ?_
      repeat (go_big_quiet_step (first | (go_at_call 159; exact callsCalmSame (HTC.out _))))
      refine wpQuiet_nil ?_
      rintro _ ⟨z, rfl⟩
      have GZ := Lib.hid (G5.out.trans (z.ok.mono G5.out.size))
      clear v1 v2 v3 v4 v5 v6 v7
      go_wp2_with fail
      go_roundw
      case rel => exact ⟨k + 1, by omega, by go_num, GZ.out, fun j hj => (Nat.lt_or_ge j k).elim (fun h => HST.out j h) (fun h => by rw [show j = k by omega, HXG.out]; exact HSD2.out)⟩
      case measure => simp [intOf]; omega
     | true =>
      have hav := after_len ls x.b
      rw [HLA.out] at hav
      have T79 := fun z : Wd W5 => after_any bf A n c ls x.b z.val (Nat.lt_of_lt_of_le hbfl (Nat.le_trans G5.out.size z.size)) ((HFW.out.ext (G5.out.trans (z.ok.mono G5.out.size))).cell 2) (HAW.out.below (G5.out.trans (z.ok.mono G5.out.size))) (by omega)
      obtain ⟨av, hav2⟩ : ∃ a, after ls x.b = a := ⟨_, rfl⟩
      rw [hav2] at T79 HSD hav
      have HT79 := Lib.hid T79
      obtain ⟨b7, o7, e7, -, -, hc7⟩ := ints_at HVI.out (show av < n + 1 by omega)
      obtain ⟨tv, htv⟩ : ∃ v, ts.getD av 0 = v := ⟨_, rfl⟩
      rw [htv] at hc7 HSD
      have v8 := cellW (hc7 W5 G5.out)
      obtain ⟨rv, hrv⟩ : ∃ b, rng tv x.c x.d = b := ⟨_, rfl⟩
      have TW := fun V => within_any tv x.c x.d V
      rw [hrv] at TW HSD
      have HTW := Lib.hid TW
      subst e7
      clear hav2 T79 htv hc7 hrv TW
      have havi : (av : Int) < (n : Int) + 1 := by omega
      cases rv with
      | true =>
       have HSD2 := Lib.hid (show standB known ls ts x = true by rw [HSD.out]; rfl)
       refine wp_region_calm W5 (by kernel_rfl) (by kernel_rfl) (Below.refl _ _) ?_
       repeat (go_big_quiet_step (first | (go_at_call 159; exact callsCalmSame (HTC.out _)) | (go_at_call 79; exact callsCalm (HT79.out _)) | (go_at_call 145; exact callsCalmSame (HTW.out _))))
       refine wpQuiet_nil ?_
       rintro _ ⟨z, rfl⟩
       have GZ := Lib.hid (G5.out.trans (z.ok.mono G5.out.size))
       clear v1 v2 v3 v4 v5 v6 v7 v8
       go_wp2_with fail
       go_roundw
       case rel => exact ⟨k + 1, by omega, by go_num, GZ.out, fun j hj => (Nat.lt_or_ge j k).elim (fun h => HST.out j h) (fun h => by rw [show j = k by omega, HXG.out]; exact HSD2.out)⟩
       case measure => simp [intOf]; omega
      | false =>
       have HF9 := Lib.hid (HSFk.out (by rw [HSD.out]; rfl))
       refine wp_region_calm W5 (by kernel_rfl) (by kernel_rfl) (Below.refl _ _) ?_
       repeat (go_big_quiet_step (first | (go_at_call 159; exact callsCalmSame (HTC.out _)) | (go_at_call 79; exact callsCalm (HT79.out _)) | (go_at_call 145; exact callsCalmSame (HTW.out _))))
       refine wpQuiet_nil ?_
       rintro _ ⟨z, rfl⟩
       have GZ := Lib.hid (G5.out.trans (z.ok.mono G5.out.size))
       clear v1 v2 v3 v4 v5 v6 v7 v8
       have K4 := Lib.hid (HB4W.out.ext GZ.out)
       have K5 := Lib.hid (HB5W.out.ext GZ.out)
       have m0 := K4.out.cell 0
       have m1 := K4.out.frozen 0
       have m2 := K5.out.cell 0
       have m3 := K5.out.frozen 0
       have HKZ := Lib.hid ((GZ.out.block E hEl).trans HK.out)
       go_wp2_with fail
       have k4 := (K4.out.set_ 0 (.slice none 0 0)).far (p := ⟨w.heap.size + 1 + 1, 0, none⟩) (by show w.heap.size + 1 ≠ w.heap.size + 1 + 1; omega) (.bool false)
       have k5 := (K5.out.far (p := ⟨w.heap.size + 1, 0, none⟩) (by show w.heap.size + 1 + 1 ≠ w.heap.size + 1; omega) (.slice none 0 0)).set_ 0 (.bool false)
       have t0 := (k4.putObj (D := E) (by omega) (.deferred none)).cell 0
       have t1 := (k5.putObj (D := E) (by omega) (.deferred none)).cell 0
       refine ⟨by simp, .inl ⟨_, _, rfl, run_takeDeferred ((Below.heap_setCell _ _ _ _ (by show E ≠ w.heap.size + 1 + 1; omega)).trans ((Below.heap_setCell _ _ _ _ (by show E ≠ w.heap.size + 1; omega)).trans HKZ.out)), ?_⟩⟩
       refine ⟨.tuple #[.slice none 0 0, .bool false], ?_, ⟨⟨_, by rw [HF9.out], fun h => (by rw [HF9.out] at h; cases h)⟩, ?_⟩⟩
       ·simp [results, Tryz.results83, go_sem, t0, t1]
       ·have gx := ((GW.out.trans (GZ.out.mono GW.out.size)).setCell (p := ⟨w.heap.size + 1, 0, none⟩) (by show w.heap.size ≤ w.heap.size + 1; omega) (.slice none 0 0)).setCell (p := ⟨w.heap.size + 1 + 1, 0, none⟩) (by show w.heap.size ≤ w.heap.size + 1 + 1; omega) (.bool false)
        exact gx.grown (grownBy_putObj' _ E _) gx.size (fun k hk => by cases hk; omega)
    ·obtain rfl : n2 = k := by omega
     have HTV := Lib.hid (HTT3.out (fun j hj => HST.out j (by rw [← HL2N.out]; exact hj)))
     have hRN := HRN.out.2
     obtain ⟨b7, o7, e7, -, -, hc7⟩ := ints_at HVI.out (show n < n + 1 by omega)
     rw [hRN] at hc7
     obtain ⟨rk, hrk⟩ : ∃ r, runK sown nl n = r := ⟨_, rfl⟩
     rw [hrk] at hc7 HTV
     have HC8 := Lib.hid hc7
     have HBN := Lib.hid (show bS ≤ b7 from (own_cells HOW.out (by rw [e7]; rfl)).1)
     subst e7
     clear hrk hRN hc7 hkn hk
     have hm1 : (n : Int) + 1 - 1 = n := by omega
     have hm3 : (n : Int) < (n : Int) + 1 := by omega
     have hm2 : IntKind.i64.wrap (n : Int) = (n : Int) := by rw [IntKind.wrap_i64]; omega
     go_wp2_with fail
     have K4 := Lib.hid (HB4W.out.ext HG.out)
     have K5 := Lib.hid (HB5W.out.ext HG.out)
     have v7 := (HB8W.out.ext HG.out).cell 0
     have v8 := HC8.out wr HG.out
     have m0 := K4.out.cell 0
     have m1 := K4.out.frozen 0
     have m2 := K5.out.cell 0
     have m3 := K5.out.frozen 0
     have HKZ := Lib.hid ((HG.out.block E hEl).trans HK.out)
     have HOZ := Lib.hid (HOW.out.ext HG.out)
     have GZ := HG
     have HB7 := Lib.hid (show b7 ≠ w.heap.size + 1 from fun e => by have := HBN.out; omega)
     have HKS := Lib.hid (show (wr.drew.setCell ⟨w.heap.size + 1, 0, none⟩ (.slice (some ⟨b7, o7, none⟩) (n + 1) cv)).cell? ⟨bS + 1, 0, none⟩ = some (.slice (some ⟨b7, o7, none⟩) (n + 1) cv) ∧ (wr.drew.setCell ⟨w.heap.size + 1, 0, none⟩ (.slice (some ⟨b7, o7, none⟩) (n + 1) cv)).cell? ⟨b7, o7 + n, none⟩ = some (.int .i64 rk) ∧ (wr.drew.setCell ⟨w.heap.size + 1, 0, none⟩ (.slice (some ⟨b7, o7, none⟩) (n + 1) cv)).cell? ⟨w.heap.size + 1 + 1, 0, none⟩ = some (.bool false) ∧ (wr.drew.setCell ⟨w.heap.size + 1, 0, none⟩ (.slice (some ⟨b7, o7, none⟩) (n + 1) cv)).frozen? ⟨w.heap.size + 1 + 1, 0, none⟩ = false from by
      have k5 := K5.out.far (p := ⟨w.heap.size + 1, 0, none⟩) (by show w.heap.size + 1 + 1 ≠ w.heap.size + 1; omega) (.slice (some ⟨b7, o7, none⟩) (n + 1) cv)
      have k8 := (HB8W.out.ext HG.out).far (p := ⟨w.heap.size + 1, 0, none⟩) (by show bS + 1 ≠ w.heap.size + 1; omega) (.slice (some ⟨b7, o7, none⟩) (n + 1) cv)
      exact ⟨k8.cell 0, (World.cell?_of_block (a := ⟨b7, o7 + n, none⟩) (Below.heap_setCell _ _ _ _ HB7.out)).trans v8, k5.cell 0, k5.frozen 0⟩)
     clear v7 v8 m0 m1 m2 m3
     have v7 := (HB8W.out.ext HG.out).cell 0
     have v8 := HC8.out wr HG.out
     have m0 := K4.out.cell 0
     have m1 := K4.out.frozen 0
     have m2 := K5.out.cell 0
     have m3 := K5.out.frozen 0
     refine wp_region_uptoQ (S := fun V => V.cell? ⟨bS + 1, 0, none⟩ = some (.slice (some ⟨b7, o7, none⟩) (n + 1) cv) ∧ V.cell? ⟨b7, o7 + n, none⟩ = some (.int .i64 rk) ∧ V.cell? ⟨w.heap.size + 1 + 1, 0, none⟩ = some (.bool false) ∧ V.frozen? ⟨w.heap.size + 1 + 1, 0, none⟩ = false) 9 (by kernel_rfl) (⟨v7, v8, m2, m3⟩) (fun hHeld => ?_)
     (refine upto_take [8, 9] (i := 0) (oi := ⟨_, _, _, _, _, _⟩) (d := some 91) (v := ?_) rfl rfl (by kernel_rfl) (by kernel_rfl) (fun _ _ _ h => h) (by rfl) ?_ (by assumption) ?_; rotate_left; (focus (intro w hSw; (try dsimp only at hSw); go_simp; try with_reducible rfl)); (try simp only [Act.put, List.setIfInBounds_toArray, List.set_cons_zero, List.set_cons_succ]))
     (refine upto_take [5, 6, 7, 9] (i := 1) (oi := ⟨_, _, _, _, _, _⟩) (d := some 92) (v := ?_) rfl rfl (by kernel_rfl) (by kernel_rfl) (fun _ _ _ h => h) (by rfl) ?_ (by assumption) ?_; rotate_left; (focus (intro w hSw; (try dsimp only at hSw); go_simp; try with_reducible rfl)); (try simp only [Act.put, List.setIfInBounds_toArray, List.set_cons_zero, List.set_cons_succ]))
     (refine upto_take [3, 4, 5, 6, 7, 9] (i := 2) (oi := ⟨_, _, _, _, _, _⟩) (d := some 93) (v := ?_) rfl rfl (by kernel_rfl) (by kernel_rfl) (fun _ _ _ h => h) (by rfl) ?_ (by assumption) ?_; rotate_left; (focus (intro w hSw; (try dsimp only at hSw); go_simp; try with_reducible rfl)); (try simp only [Act.put, List.setIfInBounds_toArray, List.set_cons_zero, List.set_cons_succ]))
     (refine upto_take [4, 5, 6, 7, 9] (i := 3) (oi := ⟨_, _, _, _, _, _⟩) (d := some 94) (v := ?_) rfl rfl (by kernel_rfl) (by kernel_rfl) (fun _ _ _ h => h) (by rfl) ?_ (by assumption) ?_; rotate_left; (focus (intro w hSw; (try dsimp only at hSw); go_simp; try with_reducible rfl)); (try simp only [Act.put, List.setIfInBounds_toArray, List.set_cons_zero, List.set_cons_succ]))
     (refine upto_take [5, 6, 7, 9] (i := 4) (oi := ⟨_, _, _, _, _, _⟩) (d := some 95) (v := ?_) rfl rfl (by kernel_rfl) (by kernel_rfl) (fun _ _ _ h => h) (by rfl) ?_ (by assumption) ?_; rotate_left; (focus (intro w hSw; (try dsimp only at hSw); go_simp; try with_reducible rfl)); (try simp only [Act.put, List.setIfInBounds_toArray, List.set_cons_zero, List.set_cons_succ]))
     (refine upto_take [6, 7, 9] (i := 5) (oi := ⟨_, _, _, _, _, _⟩) (d := some 96) (v := ?_) rfl rfl (by kernel_rfl) (by kernel_rfl) (fun _ _ _ h => h) (by rfl) ?_ (by assumption) ?_; rotate_left; (focus (intro w hSw; (try dsimp only at hSw); go_simp; try with_reducible rfl)); (try simp only [Act.put, List.setIfInBounds_toArray, List.set_cons_zero, List.set_cons_succ]))
     (refine upto_take [7, 9] (i := 6) (oi := ⟨_, _, _, _, _, _⟩) (d := some 97) (v := ?_) rfl rfl (by kernel_rfl) (by kernel_rfl) (fun _ _ _ h => h) (by rfl) ?_ (by assumption) ?_; rotate_left; (focus (intro w hSw; (try dsimp only at hSw); go_simp; try with_reducible rfl)); (try simp only [Act.put, List.setIfInBounds_toArray, List.set_cons_zero, List.set_cons_succ]))
     (refine upto_take [9] (i := 7) (oi := ⟨_, _, _, _, _, _⟩) (d := some 98) (v := ?_) rfl rfl (by kernel_rfl) (by kernel_rfl) (fun _ _ _ h => h) (by rfl) ?_ (by assumption) ?_; rotate_left; (focus (intro w hSw; (try dsimp only at hSw); go_simp; try with_reducible rfl)); (try simp only [Act.put, List.setIfInBounds_toArray, List.set_cons_zero, List.set_cons_succ]))
     refine upto_one 8 (o := ⟨_, _, _, _, _, _⟩) rfl (by kernel_rfl) (by decide) (fun K hK => ?_)
     go_simp
     refine hK.out _ _ ?_ (fun hHeld => ?_)
     ·exact HKS.out
     clear hK K
     (try simp only [Act.put, List.setIfInBounds_toArray, List.set_cons_zero, List.set_cons_succ])
     refine upto_last (o := ⟨_, _, _, _, _, _⟩) rfl (by kernel_rfl) (fun K hK => ?_)
     go_simp
     refine hK.out _ _ ?_
     clear hK K
     (try simp only [Act.put, List.setIfInBounds_toArray, List.set_cons_zero, List.set_cons_succ])
     refine any_done (by kernel_rfl) ?_
     simp only [onlyQ]
     go_wp2_with fail
     have k4 := (K4.out.set_ 0 (.slice (some ⟨b7, o7, none⟩) (n + 1) cv)).far (p := ⟨w.heap.size + 1 + 1, 0, none⟩) (by show w.heap.size + 1 ≠ w.heap.size + 1 + 1; omega) (.bool (decide (0 ≤ rk)))
     have k5 := (K5.out.far (p := ⟨w.heap.size + 1, 0, none⟩) (by show w.heap.size + 1 + 1 ≠ w.heap.size + 1; omega) (.slice (some ⟨b7, o7, none⟩) (n + 1) cv)).set_ 0 (.bool (decide (0 ≤ rk)))
     have t0 := (k4.drew_.putObj (D := E) (by omega) (.deferred none)).cell 0
     have t1 := (k5.drew_.putObj (D := E) (by omega) (.deferred none)).cell 0
     refine ⟨by simp, .inl ⟨_, _, rfl, run_takeDeferred ((Below.heap_setCell _ _ _ _ (by show E ≠ w.heap.size + 1 + 1; omega)).trans ((Below.heap_setCell _ _ _ _ (by show E ≠ w.heap.size + 1; omega)).trans HKZ.out)), ?_⟩⟩
     refine ⟨.tuple #[.slice (some ⟨b7, o7, none⟩) (n + 1) cv, .bool (decide (0 ≤ rk))], ?_, ⟨⟨_, by rw [HTV.out], fun _ => ?_⟩, ?_⟩⟩
     ·simp [results, Tryz.results83, go_sem, t0, t1]
     ·rw [HTS2.out]
      exact (((HOZ.out.far (p := ⟨w.heap.size + 1, 0, none⟩) (by show w.heap.size + 1 < bS; omega) _).far (p := ⟨w.heap.size + 1 + 1, 0, none⟩) (by show w.heap.size + 1 + 1 < bS; omega) _).held (grownBy_putObj' _ E _) (fun r e => by cases e; exact ⟨_, (Below.heap_setCell _ _ _ _ (by show E ≠ w.heap.size + 1 + 1; omega)).trans ((Below.heap_setCell _ _ _ _ (by show E ≠ w.heap.size + 1; omega)).trans HKZ.out), rfl⟩)).mono (by omega)
     ·have gx := ((GW.out.trans (GZ.out.mono GW.out.size)).setCell (p := ⟨w.heap.size + 1, 0, none⟩) (by show w.heap.size ≤ w.heap.size + 1; omega) (.slice (some ⟨b7, o7, none⟩) (n + 1) cv)).setCell (p := ⟨w.heap.size + 1 + 1, 0, none⟩) (by show w.heap.size ≤ w.heap.size + 1 + 1; omega) (.bool (decide (0 ≤ rk)))
      exact gx.drew.grown (grownBy_putObj' _ E _) gx.size (fun k hk => by cases hk; omega)
  case stop =>
   rintro E cd pre W hD hS ⟨rfl, hgw, hb4, hb5, i, hi, hti⟩ hK
   have hF9 := HTF.out i hi hti
   have hw1 := HB4.out.lt
   have hw2 := HB50.out.lt
   have t0 := (hb4.putObj (D := E) (by omega) (.deferred none)).cell 0
   have t1 := (hb5.putObj (D := E) (by omega) (.deferred none)).cell 0
   gi_wp2
   refine ⟨by simp, .inl ⟨_, _, rfl, run_takeDeferred hK, ?_⟩⟩
   refine ⟨.tuple #[.slice none 0 0, .bool false], ?_, ⟨⟨_, by rw [hF9], fun h => (by rw [hF9] at h; cases h)⟩, ?_⟩⟩
   ·simp [results, Tryz.results83, go_sem, t0, t1]
   ·exact hgw.grown (grownBy_putObj' _ E _) hgw.size (fun k hk => by cases hk; omega)
end Go.Proofs.YtkoejeghihcmlaaGreat

namespace Go.Proofs.YtkoejeghihcmlaaGreat
open Go.RowKit Go.Shelf
def leftE (p : Pl) (hours : List Int) (known sown : Int) (ns : List Int) : Int := if firstE p hours [known] = 0 then err (truthB p known sown ns) 16 else firstE p hours [known]
def leftV (p : Pl) (hour known sown : Int) (ns : List Int) : Int := if leftE p [hour] known sown ns = 0 then (truS p known sown ns).getD (after (lookL p known every) hour) 0 else 0
/-- What truly returns. -/
def TrulyEnd (p : Pl) (pb : Nat) (hour known sown : Int) (ns : List Int) (w : World) (e : Ending) (w' : World) : Prop :=
 ∃ r v, e = .returned (.tuple #[r, v, .int .i64 (leftE p [hour] known sown ns)]) ∧ Below w.heap.size w w' ∧
  (leftE p [hour] known sown ns = 0 → ∃ bf bs A n c, r = .pointer (some ⟨bf, 0, none⟩) ∧ Lk w.heap.size w' pb known (lookL p known every) (lookS p known every) bf bs A n c ∧ OwnL icells 1 3 w' w.heap.size v (truS p known sown ns)) ∧
  (leftE p [hour] known sown ns ≠ 0 → r = .pointer none ∧ v = .slice none 0 0)
set_option maxRecDepth 100000 in
set_option maxHeartbeats 4000000 in
theorem truly_any (p : Pl) (A1 A2 A3 : Option Addr) (n1 c1 n2 c2 n3 c3 pb : Nat) (hour known : Int) (N : Option Addr) (nn cn : Nat) (ns : List Int) (sown : Int) (w : World) (hP : Blk w pb 38 (plb p A1 A2 A3 n1 c1 n2 c2 n3 c3))
  (hp : Pa w p A1 A2 A3 n1 c1 n2 c2 n3 c3) (h19 : p.loads.length ≤ 60) (hns : Ints w N nn ns) (hI : ∀ x ∈ ns, -9223372036854775808 ≤ x ∧ x ≤ 9223372036854775807) (hnn : nn ≤ 9223372036854775807) :
  Calls Tryz.prog 78 #[.pointer (some ⟨pb, 0, none⟩), .agg #[.int .i64 sown, .slice N nn cn], .int .i64 hour, .int .i64 known] w (TrulyEnd p pb hour known sown ns w) := by
 obtain ⟨W1, hW1⟩ : ∃ W1, w.alloc (.cells #[.int .i64 sown, .slice N nn cn] 41) = W1 := ⟨_, rfl⟩
 have g1 : Below w.heap.size w W1 := by rw [← hW1]; exact one_more _ _
 have HC := Lib.hid (show Blk W1 w.heap.size 41 #[.int .i64 sown, .slice N nn cn] by rw [← hW1]; exact Blk.new _ _ _)
 have HP := Lib.hid (hP.ext g1)
 have HPA := Lib.hid (hp.below g1)
 have HN := Lib.hid (hns.below g1)
 have HI := Lib.hid hI
 have H19 := Lib.hid h19
 have HL19 := Lib.hid (lookL_len h19 known every)
 obtain ⟨W2, hW2⟩ : ∃ W2, (W1.alloc (.cells #[.int .i64 hour] 3)).alloc (.cells #[.int .i64 known] 3) = W2 := ⟨_, rfl⟩
 have g2 : Below W1.heap.size W1 W2 := by rw [← hW2]; exact two_more _ _ _
 have i1 : Ints W2 (some ⟨W1.heap.size, 0, none⟩) 1 [hour] := by rw [← hW2]; exact one_int ((Blk.new _ _ _).alloc _)
 have i2 : Ints W2 (some ⟨W1.heap.size + 1, 0, none⟩) 1 [known] := by
  rw [← hW2]
  have := Blk.new (W1.alloc (.cells #[.int .i64 hour] 3)) 3 #[.int .i64 known]
  rw [World.size_alloc] at this
  exact one_int this
 have T1 := Lib.hid (first_any p A1 A2 A3 n1 c1 n2 c2 n3 c3 _ _ 1 1 1 1 [hour] [known] W2 (HPA.out.below g2) i1 i2 (by decide) (by decide))
 have G1 := Lib.hid g1
 have G2 := Lib.hid g2
 have HE := Lib.hid (show leftE p [hour] known sown ns = if firstE p [hour] [known] = 0 then err (truthB p known sown ns) 16 else firstE p [hour] [known] from rfl)
 have HOK := Lib.hid (fun h => first_ok (p := p) (hours := [hour]) (days := [known]) h)
 obtain ⟨fe, hfe⟩ : ∃ fe, firstE p [hour] [known] = fe := ⟨_, rfl⟩
 rw [hfe] at T1 HE HOK
 have p0 := HP.out.cell 0
 have p1 := HP.out.cell 1
 have p2 := HP.out.cell 2
 have p3 := HP.out.cell 3
 have p4 := HP.out.cell 4
 have p5 := HP.out.cell 5
 clear hfe g1 g2 i1 i2 hP hp hns hI h19
 have HW1 := Lib.hid hW1
 have HW2 := Lib.hid hW2
 clear hW1 hW2
 by_cases hf0 : fe = 0
 ·subst hf0
  have HOK1 := Lib.hid (HOK.out rfl)
  have HE2 := Lib.hid (show leftE p [hour] known sown ns = err (truthB p known sown ns) 16 from HE.out)
  have T2 := Lib.hid (fun W (g : Below W1.heap.size W1 W) => look_lk p A1 A2 A3 n1 c1 n2 c2 n3 c3 pb known every .nilFunc W (HP.out.ext g) (HPA.out.below g) HOK1.out H19.out (sm_nil W))
  have T3 := Lib.hid (fun W bf bs A n c (g : Below W1.heap.size W1 W) (hl : Lk W1.heap.size W pb known (lookL p known every) (lookS p known every) bf bs A n c) => truth_any p A1 A2 A3 n1 c1 n2 c2 n3 c3 pb bf known A n c _ N nn cn ns sown W (HP.out.ext g) (HPA.out.below g) HOK1.out (by have := hl.num; have := HL19.out; omega) hl.fd.f hl.ar (HN.out.below g) HI.out hnn)
  obtain ⟨tb, htb⟩ : ∃ b, truthB p known sown ns = b := ⟨_, rfl⟩
  rw [htb] at HE2
  have HTB := Lib.hid htb
  clear htb
  go_enter Tryz.func78, Tryz.ntmps78
  go_upto_region 1 with fail
  rw [HW1.out]
  go_upto_region 4 with (go_at_call 80; (try rw [HW2.out]); (with_reducible refine (T1.out).mono ?_); rintro e W3 ⟨rfl, hg⟩; have G3 := Lib.hid (G2.out.trans (hg.mono G2.out.size)); clear hg)
  go_upto_region 5 with (go_at_call 81; (with_reducible refine (T2.out _ G3.out).mono ?_); rintro e W4 ⟨bf, bs, A, n, c, rfl, hg, hl⟩; have G4 := Lib.hid (G3.out.trans (hg.mono G3.out.size)); have HL := Lib.hid (hl.le G3.out.size); clear hg hl)
  have k0 := (HC.out.ext G4.out).cell 0
  have k1 := (HC.out.ext G4.out).cell 1
  clear p0 p1 p2 p3 p4 p5
  go_upto_region 6 with (go_at_call 83; (with_reducible refine (T3.out _ _ _ _ _ _ G4.out HL.out).mono ?_); rintro e W5 ⟨⟨v, rfl, ho⟩, hg⟩; have HO := Lib.hid ho; have HG := Lib.hid hg; clear ho hg; rw [HTB.out])
  have HLE := Lib.hid (HL.out.ext HG.out)
  have GE := Lib.hid (G1.out.trans ((G4.out.trans (HG.out.mono G4.out.size)).mono G1.out.size))
  cases tb with
  | false =>
   go_wp2_with fail
   go_ret3
   exact ⟨_, _, by rw [HE2.out]; rfl, GE.out, fun h => (by rw [HE2.out] at h; cases h), fun _ => ⟨rfl, rfl⟩⟩
  | true =>
   go_wp2_with fail
   go_ret3
   exact ⟨_, _, by rw [HE2.out]; rfl, GE.out, fun _ => ⟨bf, bs, A, n, c, rfl, HLE.out.le G1.out.size, (HO.out HTB.out).mono (Nat.le_trans G1.out.size G4.out.size)⟩, fun h => absurd (HE2.out.trans rfl) h⟩
 ·have HE2 := Lib.hid (show leftE p [hour] known sown ns = fe by rw [HE.out, if_neg hf0])
  have hne : (fe != 0) = true := by simpa using hf0
  go_enter Tryz.func78, Tryz.ntmps78
  go_upto_region 1 with fail
  rw [HW1.out]
  go_wp2_with (go_at_call 80; (try rw [HW2.out]); (with_reducible refine (T1.out).mono ?_); rintro e W3 ⟨rfl, hg⟩; have G3 := Lib.hid (G2.out.trans (hg.mono G2.out.size)); clear hg)
  go_ret3
  exact ⟨_, _, by rw [HE2.out]; rfl, G1.out.trans (G3.out.mono G1.out.size), fun h => absurd (HE2.out.symm.trans h) hf0, fun _ => ⟨rfl, rfl⟩⟩
set_option maxRecDepth 100000 in
set_option maxHeartbeats 4000000 in
theorem left_any (p : Pl) (A1 A2 A3 : Option Addr) (n1 c1 n2 c2 n3 c3 : Nat) (hour known : Int) (N : Option Addr) (nn cn : Nat) (ns : List Int) (sown : Int) (w : World)
  (hp : Pa w p A1 A2 A3 n1 c1 n2 c2 n3 c3) (h19 : p.loads.length ≤ 60) (hns : Ints w N nn ns) (hI : ∀ x ∈ ns, -9223372036854775808 ≤ x ∧ x ≤ 9223372036854775807) (hnn : nn ≤ 9223372036854775807) :
  Calls Tryz.prog 19 #[plv p A1 A2 A3 n1 c1 n2 c2 n3 c3, .agg #[.int .i64 sown, .slice N nn cn], .int .i64 hour, .int .i64 known] w fun e w' => e = .returned (.tuple #[.int .i64 (leftV p hour known sown ns), .int .i64 (leftE p [hour] known sown ns)]) ∧ Below w.heap.size w w' := by
 obtain ⟨W1, hW1⟩ : ∃ W1, (w.alloc (.cells (plb p A1 A2 A3 n1 c1 n2 c2 n3 c3) 38)).alloc (.cells #[.int .i64 sown, .slice N nn cn] 41) = W1 := ⟨_, rfl⟩
 have g1 : Below w.heap.size w W1 := by rw [← hW1]; exact two_more _ _ _
 have b1 : Blk W1 w.heap.size 38 (plb p A1 A2 A3 n1 c1 n2 c2 n3 c3) := by rw [← hW1]; exact (Blk.new _ _ _).alloc _
 have b2 : Blk W1 (w.heap.size + 1) 41 #[.int .i64 sown, .slice N nn cn] := by rw [← hW1]; have := Blk.new (w.alloc (.cells (plb p A1 A2 A3 n1 c1 n2 c2 n3 c3) 38)) 41 #[.int .i64 sown, .slice N nn cn]; rwa [World.size_alloc] at this
 have T := Lib.hid (truly_any p A1 A2 A3 n1 c1 n2 c2 n3 c3 w.heap.size hour known N nn cn ns sown W1 b1 (hp.below g1) h19 (hns.below g1) hI hnn)
 have HL19 := Lib.hid (lookL_len h19 known every)
 have G1 := Lib.hid g1
 have k0 := b2.cell 0
 have k1 := b2.cell 1
 have HV := Lib.hid (show leftV p hour known sown ns = if leftE p [hour] known sown ns = 0 then (truS p known sown ns).getD (after (lookL p known every) hour) 0 else 0 from rfl)
 have HLN := Lib.hid (truS_len p known sown ns)
 obtain ⟨lv, hlv⟩ : ∃ v, leftV p hour known sown ns = v := ⟨_, rfl⟩
 obtain ⟨le, hle⟩ : ∃ v, leftE p [hour] known sown ns = v := ⟨_, rfl⟩
 rw [hlv, hle] at HV ⊢
 have HLE := Lib.hid hle
 have HW1 := Lib.hid hW1
 clear hp h19 hns hI hW1 g1 b1 b2 hlv hle
 by_cases h0 : le = 0
 ·subst h0
  have HV2 := Lib.hid (show lv = (truS p known sown ns).getD (after (lookL p known every) hour) 0 from HV.out)
  go_enter Tryz.func19, Tryz.ntmps19
  go_upto_region 1 with fail
  rw [HW1.out]
  go_upto_region 4 with (go_at_call 78; (with_reducible refine (T.out).mono ?_); rintro e W2 ⟨r, v, rfl, hg, ht, -⟩; obtain ⟨bf, bs, A, n, c, rfl, hl, ho⟩ := ht HLE.out; rw [HLE.out]; have G2 := Lib.hid hg; have HL := Lib.hid hl; obtain ⟨D, c', hv, -, -, hi, -⟩ := OwnL.arr kdI ho; subst hv; have HI2 := Lib.hid hi; clear hg hl ho hi ht)
  rw [HLN.out]
  have hnum := HL.out.num
  rw [HLN.out] at HI2
  rw [← hnum] at HI2 ⊢
  have hn19 : n ≤ 60 := by rw [hnum]; exact HL19.out
  have hav := after_le (lookL p known every) hour
  rw [← hnum] at hav
  have T79 := after_any bf A n c (lookL p known every) hour W2 HL.out.fd.f.lt (HL.out.fd.f.cell 2) HL.out.ar (by omega)
  obtain ⟨av, hav2⟩ : ∃ av, after (lookL p known every) hour = av := ⟨_, rfl⟩
  rw [hav2] at T79 HV2 hav
  obtain ⟨b7, o7, e7, -, -, hc7⟩ := ints_at HI2.out (show av < n + 1 by omega)
  rw [← HV2.out] at hc7
  have HC7 := Lib.hid hc7
  have HT := Lib.hid T79
  have havi : (av : Int) < (n : Int) + 1 := by omega
  subst e7
  clear T79 hav2 hc7 hnum k0 k1
  go_wp2_with (go_at_call 79; (with_reducible refine (HT.out).mono ?_); rintro e W3 ⟨rfl, hg⟩; have k9 := HC7.out _ hg; have G3 := Lib.hid hg; clear hg)
  go_ret2
  exact ⟨rfl, G1.out.trans ((G2.out.trans (G3.out.mono G2.out.size)).mono G1.out.size)⟩
 ·have HV2 := Lib.hid (show lv = 0 by rw [HV.out, if_neg h0])
  have hne : (le != 0) = true := by simpa using h0
  rw [HV2.out]
  go_enter Tryz.func19, Tryz.ntmps19
  go_upto_region 1 with fail
  rw [HW1.out]
  go_wp2_with (go_at_call 78; (with_reducible refine (T.out).mono ?_); rintro e W2 ⟨r, v, rfl, hg, -, ht⟩; obtain ⟨rfl, rfl⟩ := ht (by rw [HLE.out]; exact h0); rw [HLE.out]; have G2 := Lib.hid hg; clear hg ht)
  go_ret2
  exact ⟨rfl, G1.out.trans (G2.out.mono G1.out.size)⟩
set_option maxRecDepth 100000 in
set_option maxHeartbeats 4000000 in
theorem checkCart_any (p : Pl) (A1 A2 A3 : Option Addr) (n1 c1 n2 c2 n3 c3 : Nat) (known : Int) (N : Option Addr) (nn cn : Nat) (ns : List Int) (sown : Int) (w : World)
  (hp : Pa w p A1 A2 A3 n1 c1 n2 c2 n3 c3) (h19 : p.loads.length ≤ 60) (hns : Ints w N nn ns) (hI : ∀ x ∈ ns, -9223372036854775808 ≤ x ∧ x ≤ 9223372036854775807) (hnn : nn ≤ 9223372036854775807) :
  Calls Tryz.prog 21 #[plv p A1 A2 A3 n1 c1 n2 c2 n3 c3, .int .i64 known, .agg #[.int .i64 sown, .slice N nn cn]] w fun e w' => e = .returned (.int .i64 (leftE p [] known sown ns)) ∧ Below w.heap.size w w' := by
 obtain ⟨W1, hW1⟩ : ∃ W1, (w.alloc (.cells (plb p A1 A2 A3 n1 c1 n2 c2 n3 c3) 38)).alloc (.cells #[.int .i64 sown, .slice N nn cn] 41) = W1 := ⟨_, rfl⟩
 have g1 : Below w.heap.size w W1 := by rw [← hW1]; exact two_more _ _ _
 have HP := Lib.hid (show Blk W1 w.heap.size 38 (plb p A1 A2 A3 n1 c1 n2 c2 n3 c3) by rw [← hW1]; exact (Blk.new _ _ _).alloc _)
 have HC := Lib.hid (show Blk W1 (w.heap.size + 1) 41 #[.int .i64 sown, .slice N nn cn] by rw [← hW1]; have := Blk.new (w.alloc (.cells (plb p A1 A2 A3 n1 c1 n2 c2 n3 c3) 38)) 41 #[.int .i64 sown, .slice N nn cn]; rwa [World.size_alloc] at this)
 have HPA := Lib.hid (hp.below g1)
 have HN := Lib.hid (hns.below g1)
 have HI := Lib.hid hI
 have H19 := Lib.hid h19
 have HL19 := Lib.hid (lookL_len h19 known every)
 have G1 := Lib.hid g1
 have T := Lib.hid (fun W (g : Below W1.heap.size W1 W) (i1 : Ints W (some ⟨W1.heap.size, 0, none⟩) 1 [known]) => first_any p A1 A2 A3 n1 c1 n2 c2 n3 c3 none (some ⟨W1.heap.size, 0, none⟩) 0 0 1 1 [] [known] W (HPA.out.below g) Arr.nil_ i1 (by decide) (by decide))
 have HI1 := Lib.hid (one_int (Blk.new W1 3 #[.int .i64 known]))
 have HG1 := Lib.hid (one_more W1 (.cells #[.int .i64 known] 3))
 have HE := Lib.hid (show leftE p [] known sown ns = if firstE p [] [known] = 0 then err (truthB p known sown ns) 16 else firstE p [] [known] from rfl)
 have HOK := Lib.hid (fun h => first_ok (p := p) (hours := []) (days := [known]) h)
 obtain ⟨fe, hfe⟩ : ∃ fe, firstE p [] [known] = fe := ⟨_, rfl⟩
 rw [hfe] at T HE HOK
 obtain ⟨le, hle⟩ : ∃ v, leftE p [] known sown ns = v := ⟨_, rfl⟩
 rw [hle] at HE ⊢
 have p0 := HP.out.cell 0
 have p1 := HP.out.cell 1
 have p2 := HP.out.cell 2
 have p3 := HP.out.cell 3
 have p4 := HP.out.cell 4
 have p5 := HP.out.cell 5
 have HW1 := Lib.hid hW1
 clear hp h19 hns hI hW1 g1 hfe hle
 by_cases hf0 : fe = 0
 ·subst hf0
  have HOK1 := Lib.hid (HOK.out rfl)
  have HE2 := Lib.hid (show le = err (truthB p known sown ns) 16 from HE.out)
  have T2 := Lib.hid (fun W (g : Below W1.heap.size W1 W) => look_lk p A1 A2 A3 n1 c1 n2 c2 n3 c3 w.heap.size known every .nilFunc W (HP.out.ext g) (HPA.out.below g) HOK1.out H19.out (sm_nil W))
  have T3 := Lib.hid (fun W bf bs A n c (g : Below W1.heap.size W1 W) (hl : Lk W1.heap.size W w.heap.size known (lookL p known every) (lookS p known every) bf bs A n c) => truth_any p A1 A2 A3 n1 c1 n2 c2 n3 c3 w.heap.size bf known A n c _ N nn cn ns sown W (HP.out.ext g) (HPA.out.below g) HOK1.out (by have := hl.num; have := HL19.out; omega) hl.fd.f hl.ar (HN.out.below g) HI.out hnn)
  obtain ⟨tb, htb⟩ : ∃ b, truthB p known sown ns = b := ⟨_, rfl⟩
  rw [htb] at HE2
  have HTB := Lib.hid htb
  clear htb
  go_enter Tryz.func21, Tryz.ntmps21
  go_upto_region 1 with fail
  rw [HW1.out]
  go_upto_region 4 with (go_at_call 80; (with_reducible refine (T.out _ HG1.out HI1.out).mono ?_); rintro e W3 ⟨rfl, hg⟩; have G3 := Lib.hid (HG1.out.trans (hg.mono HG1.out.size)); clear hg)
  have k0 := (HC.out.ext G3.out).cell 0
  have k1 := (HC.out.ext G3.out).cell 1
  clear p0 p1 p2 p3 p4 p5
  refine wp_region_uptoQ (S := fun V => V.cell? ⟨w.heap.size + 1, 0, none⟩ = some (.int .i64 sown) ∧ V.cell? ⟨w.heap.size + 1, 1, none⟩ = some (.slice N nn cn)) 8 (by kernel_rfl) (⟨k0, k1⟩) (fun hHeld => ?_)
  (refine upto_take [1, 3, 7, 8] (i := 0) (oi := ⟨_, _, _, _, _, _⟩) (d := some 18) (v := ?_) rfl rfl (by kernel_rfl) (by kernel_rfl) (fun _ _ _ h => h) (by rfl) ?_ (by assumption) ?_; rotate_left; (focus (intro w hSw; (try dsimp only at hSw); go_simp; try with_reducible rfl)); (try simp only [Act.put, List.setIfInBounds_toArray, List.set_cons_zero, List.set_cons_succ]))
  (refine upto_take [3, 7, 8] (i := 2) (oi := ⟨_, _, _, _, _, _⟩) (d := some 20) (v := ?_) rfl rfl (by kernel_rfl) (by kernel_rfl) (fun _ _ _ h => h) (by rfl) ?_ (by assumption) ?_; rotate_left; (focus (intro w hSw; (try dsimp only at hSw); go_simp; try with_reducible rfl)); (try simp only [Act.put, List.setIfInBounds_toArray, List.set_cons_zero, List.set_cons_succ]))
  refine upto_one 1 (o := ⟨_, _, _, _, _, _⟩) rfl (by kernel_rfl) (by decide) (fun K hK => ?_)
  (go_simp; go_at_call 81; (with_reducible refine (T2.out _ G3.out.drew).mono ?_); rintro e W4 ⟨bf, bs, A, n, c, rfl, hg, hl⟩; have G4 := Lib.hid (G3.out.drew.trans (hg.mono G3.out.size)); have HL := Lib.hid (hl.le G3.out.size); clear hg hl)
  refine hK.out _ _ ?_ (fun hHeld => ?_)
  ·exact ⟨(HC.out.ext G4.out).cell 0, (HC.out.ext G4.out).cell 1⟩
  clear hK K
  (try simp only [Act.put, List.setIfInBounds_toArray, List.set_cons_zero, List.set_cons_succ])
  refine upto_one 3 (o := ⟨_, _, _, _, _, _⟩) rfl (by kernel_rfl) (by decide) (fun K hK => ?_)
  (go_simp; go_at_call 83; (with_reducible refine (T3.out _ _ _ _ _ _ G4.out HL.out).mono ?_); rintro e W5 ⟨⟨v, rfl, ho⟩, hg⟩; have HG := Lib.hid hg; clear ho hg; rw [HTB.out])
  refine hK.out _ _ ?_ (fun hHeld => ?_)
  ·exact ⟨(HC.out.ext (G4.out.trans (HG.out.mono G4.out.size))).cell 0, (HC.out.ext (G4.out.trans (HG.out.mono G4.out.size))).cell 1⟩
  clear hK K
  (try simp only [Act.put, List.setIfInBounds_toArray, List.set_cons_zero, List.set_cons_succ])
  (refine upto_take [6, 8] (i := 4) (oi := ⟨_, _, _, _, _, _⟩) (d := some 17) (v := ?_) rfl rfl (by kernel_rfl) (by kernel_rfl) (fun _ _ _ h => h) (by rfl) ?_ (by assumption) ?_; rotate_left; (focus (intro w hSw; (try dsimp only at hSw); go_simp; try with_reducible rfl)); (try simp only [Act.put, List.setIfInBounds_toArray, List.set_cons_zero, List.set_cons_succ]))
  (refine upto_take [7, 8] (i := 5) (oi := ⟨_, _, _, _, _, _⟩) (d := some 22) (v := ?_) rfl rfl (by kernel_rfl) (by kernel_rfl) (fun _ _ _ h => h) (by rfl) ?_ (by assumption) ?_; rotate_left; (focus (intro w hSw; (try dsimp only at hSw); go_simp; try with_reducible rfl)); (try simp only [Act.put, List.setIfInBounds_toArray, List.set_cons_zero, List.set_cons_succ]))
  (refine upto_take [8] (i := 6) (oi := ⟨_, _, _, _, _, _⟩) (d := some 23) (v := ?_) rfl rfl (by kernel_rfl) (by kernel_rfl) (fun _ _ _ h => h) (by rfl) ?_ (by assumption) ?_; rotate_left; (focus (intro w hSw; (try dsimp only at hSw); go_simp; try with_reducible rfl)); (try simp only [Act.put, List.setIfInBounds_toArray, List.set_cons_zero, List.set_cons_succ]))
  (refine upto_take [8] (i := 7) (oi := ⟨_, _, _, _, _, _⟩) (d := some 8) (v := ?_) rfl rfl (by kernel_rfl) (by kernel_rfl) (fun _ _ _ h => h) (by rfl) ?_ (by assumption) ?_; rotate_left; (focus (intro w hSw; (try dsimp only at hSw); go_simp; try with_reducible rfl)); (try simp only [Act.put, List.setIfInBounds_toArray, List.set_cons_zero, List.set_cons_succ]))
  refine upto_last (o := ⟨_, _, _, _, _, _⟩) rfl (by kernel_rfl) (fun K hK => ?_)
  go_simp
  refine hK.out _ _ ?_
  clear hK K
  (try simp only [Act.put, List.setIfInBounds_toArray, List.set_cons_zero, List.set_cons_succ])
  refine any_done (by kernel_rfl) ?_
  simp only [onlyQ]
  have GE := Lib.hid (G1.out.trans ((G4.out.trans (HG.out.mono G4.out.size)).mono G1.out.size))
  cases tb with
  | false =>
   go_wp2_with fail
   go_ret
   exact ⟨by rw [HE2.out]; rfl, GE.out⟩
  | true =>
   go_wp2_with fail
   go_ret
   exact ⟨by rw [HE2.out]; rfl, GE.out⟩
 ·have HE2 := Lib.hid (show le = fe by rw [HE.out, if_neg hf0])
  have hne : (fe != 0) = true := by simpa using hf0
  go_enter Tryz.func21, Tryz.ntmps21
  go_upto_region 1 with fail
  rw [HW1.out]
  go_wp2_with (go_at_call 80; (with_reducible refine (T.out _ HG1.out HI1.out).mono ?_); rintro e W3 ⟨rfl, hg⟩; have G3 := Lib.hid (HG1.out.trans (hg.mono HG1.out.size)); clear hg)
  go_ret
  exact ⟨by rw [HE2.out]; rfl, G1.out.trans (G3.out.mono G1.out.size)⟩
end Go.Proofs.YtkoejeghihcmlaaGreat

namespace Go.Proofs.YtkoejeghihcmlaaGreat
open Go.RowKit Go.Shelf
theorem insH_map {f : Six → Six} (hf : ∀ x, (f x).b = x.b) (x : Six) : ∀ l : List Six, insH (f x) (l.map f) = (insH x l).map f
 | [] => rfl
 | y :: l => by
  rw [List.map_cons]
  unfold insH
  rw [hf, hf]
  split
  ·rfl
  ·rw [insH_map hf x l]; rfl
theorem srtH_map {f : Six → Six} (hf : ∀ x, (f x).b = x.b) (l : List Six) : srtH (l.map f) = (srtH l).map f := by
 have key : ∀ (l out : List Six), (l.map f).foldl (fun out x => insH x out) (out.map f) = (l.foldl (fun out x => insH x out) out).map f := by
  intro l
  induction l with
  | nil => intro out; rfl
  | cons x l ih => intro out; rw [List.map_cons, List.foldl_cons, List.foldl_cons, insH_map hf]; exact ih _
 exact key l []
/-- The loads that count, as they are carted. -/
def cartL (p : Pl) (known : Int) : List Six := srtH (p.loads.filter fun x => cnt x known)
theorem veil_b (m : Int → Bool) (x : Six) : (veil m x).b = x.b := by unfold veil; split <;> rfl
theorem lookL_cart (p : Pl) (known : Int) (m : Int → Bool) : lookL p known m = (cartL p known).map (veil m) := srtH_map (veil_b m) _
theorem after_veil (m : Int → Bool) (l : List Six) (h : Int) : after (l.map (veil m)) h = after l h := by
 unfold after
 rw [List.countP_map]
 congr 1
 funext x
 show decide ((veil m x).b ≤ h) = _
 rw [veil_b]
theorem cart_every (p : Pl) (known : Int) : lookL p known every = cartL p known := by
 rw [lookL_cart]
 have : veil every = id := by funext x; exact veil_every x
 rw [this, List.map_id]
theorem getD_map6 {f : Six → Six} {l : List Six} {i : Nat} (hi : i < l.length) : (l.map f).getD i z6 = f (l.getD i z6) := by
 rw [List.getD_eq_getElem?_getD, List.getElem?_map, List.getElem?_eq_getElem hi, List.getD_eq_getElem?_getD, List.getElem?_eq_getElem hi]; rfl
/-- True numbers by some loads and stands. -/
structure TruBy (p : Pl) (known : Int) (m : Int → Bool) (s : List Int) : Prop where
 len : s.length = (cartL p known).length + 1
 took : ∀ i, i < (cartL p known).length → (veil m ((cartL p known).getD i z6)).c ≤ s.getD i 0 - s.getD (i + 1) 0 ∧ s.getD i 0 - s.getD (i + 1) 0 ≤ (veil m ((cartL p known).getD i z6)).d
 bds : ∀ i, i ≤ (cartL p known).length → (if i = 0 then p.lo else 0) ≤ s.getD i 0 ∧ s.getD i 0 ≤ (if i = 0 then p.hi else 10000)
 stands : ∀ x ∈ p.stands, (cnt x known && m x.a) = true → x.c ≤ s.getD (after (cartL p known) x.b) 0 ∧ s.getD (after (cartL p known) x.b) 0 ≤ x.d
theorem truBy_iff {p : Pl} {known : Int} {m : Int → Bool} {s : List Int} : TruBy p known m s ↔ Tru (lookL p known m) (standsF known m (lookL p known m) p.stands (stood0 p (lookL p known m).length)) s := by
 rw [tru_stands (stood0_len p _)]
 have hlen : (lookL p known m).length = (cartL p known).length := by rw [lookL_cart, List.length_map]
 have hel : ∀ i, i < (cartL p known).length → (lookL p known m).getD i z6 = veil m ((cartL p known).getD i z6) := fun i hi => by rw [lookL_cart, getD_map6 hi]
 have haf : ∀ h, after (lookL p known m) h = after (cartL p known) h := fun h => by rw [lookL_cart, after_veil]
 constructor
 ·rintro ⟨h1, h2, h3, h4⟩
  refine ⟨⟨by rw [hlen]; exact h1, fun i hi => ?_, fun i hi => ?_⟩, fun x hx hc => ?_⟩
  ·unfold Ls Gr
   rw [hel i (by omega)]
   exact h2 i (by omega)
  ·rw [hlen] at hi
   obtain ⟨e1, e2⟩ := stood0_at p (lookL p known m).length (i := i) (by omega)
   rw [e1, e2]
   exact h3 i hi
  ·rw [haf]; exact h4 x hx hc
 ·rintro ⟨⟨h1, h2, h3⟩, h4⟩
  refine ⟨by rw [← hlen]; exact h1, fun i hi => ?_, fun i hi => ?_, fun x hx hc => ?_⟩
  ·have := h2 i (by omega)
   unfold Ls Gr at this
   rw [hel i hi] at this
   exact this
  ·obtain ⟨e1, e2⟩ := stood0_at p (lookL p known m).length (i := i) (by omega)
   have := h3 i (by omega)
   rw [e1, e2] at this
   exact this
  ·rw [← haf]; exact h4 x hx hc
theorem cart_num {p : Pl} (hok : okPl p = true) (known : Int) : ∀ x ∈ cartL p known, Num x := fun x hx => by rw [← cart_every] at hx; exact lookL_num hok known every x hx
theorem TruBy.bd {p : Pl} {known : Int} {m : Int → Bool} {s : List Int} (h : TruBy p known m s) (hok : okPl p = true) {i : Nat} (hi : i ≤ (cartL p known).length) : 0 ≤ s.getD i 0 ∧ s.getD i 0 ≤ 10000 := by
 have h1 := ok_parts hok
 have h2 := h.bds i hi
 by_cases h0 : i = 0
 ·rw [if_pos h0, if_pos h0] at h2; omega
 ·rw [if_neg h0, if_neg h0] at h2; exact h2
theorem veil_yes {m : Int → Bool} {x : Six} (h : m x.a = true) : veil m x = x := by unfold veil; rw [if_pos h]
theorem veil_no {m : Int → Bool} {x : Six} (h : m x.a = false) : (veil m x).c = 0 ∧ (veil m x).d = 10000 := by unfold veil; rw [if_neg (by rw [h]; decide)]; exact ⟨rfl, rfl⟩
theorem veil_wid {m : Int → Bool} {x : Six} (h : Num x) : 0 ≤ (veil m x).c ∧ (veil m x).c ≤ (veil m x).d := by
 have := veil_num (meant := m) h
 unfold Num at this
 exact ⟨this.2.2.1, this.2.2.2.1⟩
/-- Fewer of them contradict less. -/
theorem TruBy.less {p : Pl} {known : Int} {m m' : Int → Bool} {s : List Int} (h : TruBy p known m' s) (hok : okPl p = true) (hm : ∀ x, m x = true → m' x = true) : TruBy p known m s := by
 refine ⟨h.len, fun i hi => ?_, h.bds, fun x hx hc => ?_⟩
 ·have h1 := h.took i hi
  have h2 := h.bd hok (Nat.le_of_lt hi)
  have h3 := h.bd hok (show i + 1 ≤ _ from hi)
  obtain ⟨x, hx⟩ : ∃ x, (cartL p known).getD i z6 = x := ⟨_, rfl⟩
  have hn : Num x := by rw [← hx]; exact cart_num hok known _ (getD_mem hi)
  rw [hx] at h1 ⊢
  cases hc : m x.a with
  | true => rw [veil_yes hc]; rw [veil_yes (hm _ hc)] at h1; exact h1
  | false =>
   obtain ⟨e1, e2⟩ := veil_no (m := m) hc
   have := veil_wid (m := m') hn
   rw [e1, e2]
   omega
 ·rw [Bool.and_eq_true] at hc
  exact h.stands x hx (by rw [hc.1, hm _ hc.2]; rfl)
theorem mem_srtH {y : Six} (l : List Six) : y ∈ srtH l ↔ y ∈ l := (srtH_perm l).mem_iff
theorem mem_cart {p : Pl} {known : Int} {x : Six} : x ∈ cartL p known ↔ x ∈ p.loads ∧ cnt x known = true := by
 unfold cartL
 rw [mem_srtH, List.mem_filter]
/-- Sources are those of one thing alone. -/
theorem nodup_take {ks : List Int} {l : List Six} (h : ∀ j, j < l.length → (l.getD j z6).a ∉ ks ++ srcs (l.take j)) (hk : ks.Nodup) : ∀ k, k ≤ l.length → (ks ++ srcs (l.take k)).Nodup
 | 0, _ => by simpa [srcs] using hk
 | k + 1, hl => by
  have ih := nodup_take h hk k (by omega)
  have hlt : k < l.length := by omega
  have e : srcs (l.take (k + 1)) = srcs (l.take k) ++ [(l.getD k z6).a] := by
   unfold srcs
   rw [List.take_succ_eq_append_getElem hlt, List.map_append, List.getD_eq_getElem?_getD, List.getElem?_eq_getElem hlt]; rfl
  rw [e, ← List.append_assoc, List.nodup_append]
  refine ⟨ih, by simp, fun a ha b hb hab => ?_⟩
  rw [List.mem_singleton] at hb
  subst hab hb
  exact h k hlt ha
theorem okL_nodup {is : Six → Bool} {ks : List Int} {l : List Six} (h : okL is ks l = true) (hk : ks.Nodup) : (ks ++ srcs l).Nodup := by
 have := nodup_take (ks := ks) (l := l) (fun j hj => by
  unfold okL at h
  rw [Bool.and_eq_true, List.all_eq_true] at h
  have h1 := h.1 j (List.mem_range.2 hj)
  unfold okAt at h1
  rw [Bool.and_eq_true, Bool.not_eq_true', ← Bool.not_eq_true, List.contains_iff_mem] at h1
  exact h1.2) hk l.length (Nat.le_refl _)
 rwa [List.take_length] at this
theorem ok_nodup {p : Pl} (h : okPl p = true) : (srcs p.loads ++ srcs p.stands ++ srcs p.spells).Nodup := by
 unfold okPl at h
 simp only [Bool.and_eq_true] at h
 obtain ⟨⟨⟨⟨h1, h2⟩, h3⟩, -⟩, -⟩ := h
 have n1 := okL_nodup h1 List.nodup_nil
 rw [List.nil_append] at n1
 exact okL_nodup h3 (okL_nodup h2 n1)
theorem src_one {p : Pl} (hok : okPl p = true) {x y : Six} (hx : x ∈ p.loads) (hy : y ∈ p.loads) (h : x.a = y.a) : x = y := by
 have h1 := (List.nodup_append.1 (List.nodup_append.1 (ok_nodup hok)).1).1
 obtain ⟨i, hi, rfl⟩ := List.getElem_of_mem hx
 obtain ⟨j, hj, rfl⟩ := List.getElem_of_mem hy
 have : i = j := by
  refine (List.getElem_inj (xs := srcs p.loads) (h₀ := by unfold srcs; rwa [List.length_map]) (h₁ := by unfold srcs; rwa [List.length_map]) h1).1 ?_
  unfold srcs
  rw [List.getElem_map, List.getElem_map]
  exact h
 subst this; rfl
theorem cart_nodup {p : Pl} (hok : okPl p = true) (known : Int) : (cartL p known).Nodup := by
 have h1 := (List.nodup_append.1 (List.nodup_append.1 (ok_nodup hok)).1).1
 have h2 : p.loads.Nodup := (List.pairwise_map.1 h1).imp fun h e => h (by rw [e])
 exact (srtH_perm _).nodup_iff.2 (h2.sublist List.filter_sublist)
end Go.Proofs.YtkoejeghihcmlaaGreat

namespace Go.Proofs.YtkoejeghihcmlaaGreat
open Go.RowKit Go.Shelf
theorem truth_iff {p : Pl} (hok : okPl p = true) {known sown : Int} {ns : List Int} : truthB p known sown ns = true ↔ ns.length = (lookL p known every).length ∧ TruBy p known every (truS p known sown ns) := by
 have hpp := ok_parts hok
 have hnum := cart_num hok known
 rw [← cart_every] at hnum
 constructor
 ·intro h
  unfold truthB numsB at h
  rw [Bool.and_eq_true, Bool.and_eq_true, Bool.and_eq_true, Bool.and_eq_true, decide_eq_true_eq, rng_iff, List.all_eq_true, List.all_eq_true, decide_eq_true_eq] at h
  obtain ⟨⟨⟨⟨h1, h2⟩, h3⟩, h4⟩, h5⟩ := h
  have h3' : ∀ i, i < (lookL p known every).length → ((lookL p known every).getD i z6).c ≤ (numsL p known ns).getD i 0 ∧ (numsL p known ns).getD i 0 ≤ ((lookL p known every).getD i z6).d := fun i hi => by
   have := h3 i (List.mem_range.2 hi)
   unfold tookB at this
   exact rng_iff.1 this
  have hpos : ∀ i, i < (lookL p known every).length → 0 ≤ (numsL p known ns).getD i 0 := fun i hi => by
   have a := h3' i hi
   have b := hnum _ (getD_mem hi)
   unfold Num at b
   omega
  refine ⟨h1, ⟨by rw [truS_len, cart_every], fun i hi => ?_, fun i hi => ?_, fun x hx hc => ?_⟩⟩
  ·rw [← cart_every] at hi ⊢
   rw [truS_at (by omega), truS_at (by omega), veil_every]
   have e1 : runK sown (numsL p known ns) (i + 1) = runK sown (numsL p known ns) i - (numsL p known ns).getD i 0 := rfl
   have := h3' i hi
   omega
  ·rw [← cart_every] at hi
   rw [truS_at hi]
   have d1 := run_down (sown := sown) hpos ((lookL p known every).length - i) i (by omega)
   have d2 := run_le (sown := sown) hpos i hi
   by_cases hz : i = 0
   ·subst hz
    rw [if_pos rfl, if_pos rfl]
    exact h2
   ·rw [if_neg hz, if_neg hz]
    omega
  ·have := h4 x hx
   unfold standB at this
   have hcx : cnt x known = true := by rw [Bool.and_eq_true] at hc; exact hc.1
   rw [hcx] at this
   rw [← cart_every]
   exact rng_iff.1 (by simpa using this)
 ·rintro ⟨h1, ht⟩
  have t2 := ht.took
  have t3 := ht.bds
  have t4 := ht.stands
  rw [← cart_every] at t2 t3 t4
  have h3' : ∀ i, i < (lookL p known every).length → ((lookL p known every).getD i z6).c ≤ (numsL p known ns).getD i 0 ∧ (numsL p known ns).getD i 0 ≤ ((lookL p known every).getD i z6).d := fun i hi => by
   have := t2 i hi
   rw [truS_at (by omega), truS_at (by omega), veil_every] at this
   have e1 : runK sown (numsL p known ns) (i + 1) = runK sown (numsL p known ns) i - (numsL p known ns).getD i 0 := rfl
   omega
  unfold truthB numsB
  rw [Bool.and_eq_true, Bool.and_eq_true, Bool.and_eq_true, Bool.and_eq_true, decide_eq_true_eq, rng_iff, List.all_eq_true, List.all_eq_true, decide_eq_true_eq]
  refine ⟨⟨⟨⟨h1, ?_⟩, fun i hi => ?_⟩, fun x hx => ?_⟩, ?_⟩
  ·have := t3 0 (Nat.zero_le _)
   rw [truS_at (Nat.zero_le _), if_pos rfl, if_pos rfl] at this
   exact this
  ·unfold tookB
   exact rng_iff.2 (h3' i (List.mem_range.1 hi))
  ·unfold standB
   cases hc : cnt x known with
   | false => rfl
   | true =>
    have := t4 x hx (by rw [hc]; rfl)
    rw [rng_iff.2 this]; rfl
  ·have := ht.bd hok (i := (lookL p known every).length) (by rw [cart_every]; exact Nat.le_refl _)
   rw [truS_at (Nat.le_refl _)] at this
   exact this.1
theorem cart_src {p : Pl} (hok : okPl p = true) {known : Int} {i j : Nat} (hi : i < (lookL p known every).length) (hj : j < (lookL p known every).length) (h : ((lookL p known every).getD i z6).a = ((lookL p known every).getD j z6).a) : i = j := by
 have hn := cart_nodup hok known
 rw [← cart_every] at hn
 have mi : (lookL p known every).getD i z6 ∈ p.loads := (mem_cart.1 (by rw [← cart_every]; exact getD_mem hi)).1
 have mj : (lookL p known every).getD j z6 ∈ p.loads := (mem_cart.1 (by rw [← cart_every]; exact getD_mem hj)).1
 have e := src_one hok mi mj h
 rw [six_get hi, six_get hj] at e
 exact (List.getElem_inj hn).1 e
theorem srcIx_cart {p : Pl} (hok : okPl p = true) {known : Int} {i : Nat} (hi : i < (lookL p known every).length) : srcIx (lookL p known every) ((lookL p known every).getD i z6).a = i := by
 unfold srcIx
 refine findIdx_at hi (isSrc_iff.2 rfl) (fun j hj => ?_)
 cases h : isSrc ((lookL p known every).getD i z6).a ((lookL p known every).getD j z6) with
 | false => rfl
 | true =>
  have := cart_src hok (by omega) hi (isSrc_iff.1 h)
  omega
theorem srcIx_spec {l : List Six} {x : Six} (hx : x ∈ l) : srcIx l x.a < l.length ∧ (l.getD (srcIx l x.a) z6).a = x.a := by
 have hlt : srcIx l x.a < l.length := by
  unfold srcIx
  exact List.findIdx_lt_length_of_exists ⟨x, hx, isSrc_iff.2 rfl⟩
 refine ⟨hlt, ?_⟩
 rw [six_get hlt]
 exact isSrc_iff.1 (List.findIdx_getElem (w := hlt))
/-- True numbers, as they are handed out by the loads' sources. -/
def pickC (p : Pl) (known : Int) (s : List Int) : List Int := (countL p known).map fun x => s.getD (srcIx (lookL p known every) x.a) 0 - s.getD (srcIx (lookL p known every) x.a + 1) 0
theorem mem_count {p : Pl} {known : Int} {x : Six} : x ∈ countL p known ↔ x ∈ lookL p known every := by
 rw [cart_every, mem_cart]
 unfold countL
 rw [List.mem_filter]
theorem pickC_len (p : Pl) (known : Int) (s : List Int) : (pickC p known s).length = (lookL p known every).length := by unfold pickC; rw [List.length_map, count_len]
theorem numsL_at {p : Pl} {known : Int} {ns : List Int} {i : Nat} (hi : i < (lookL p known every).length) : (numsL p known ns).getD i 0 = numBy p known ns ((lookL p known every).getD i z6).a := by
 unfold numsL
 rw [List.getD_eq_getElem?_getD, List.getElem?_map, getD_six hi]
 rfl
theorem pick_at {p : Pl} (hok : okPl p = true) {known : Int} {s : List Int} {i : Nat} (hi : i < (lookL p known every).length) : (numsL p known (pickC p known s)).getD i 0 = s.getD i 0 - s.getD (i + 1) 0 := by
 rw [numsL_at hi]
 obtain ⟨h1, h2⟩ := srcIx_spec (mem_count.2 (getD_mem hi))
 unfold numBy pickC
 rw [List.getD_eq_getElem?_getD, List.getElem?_map, getD_six h1]
 show s.getD (srcIx (lookL p known every) ((countL p known).getD (srcIx (countL p known) ((lookL p known every).getD i z6).a) z6).a) 0 - _ = _
 rw [h2, srcIx_cart hok hi]
theorem list_getD_ext {l m : List Int} (h : l.length = m.length) (hg : ∀ i, i < l.length → l.getD i 0 = m.getD i 0) : l = m := by
 refine List.ext_getElem h fun i h1 h2 => ?_
 have := hg i h1
 rw [List.getD_eq_getElem?_getD, List.getD_eq_getElem?_getD, List.getElem?_eq_getElem h1, List.getElem?_eq_getElem h2] at this
 exact this
theorem pick_truS {p : Pl} (hok : okPl p = true) {known : Int} {s : List Int} (hs : s.length = (lookL p known every).length + 1) : truS p known (s.getD 0 0) (pickC p known s) = s := by
 refine list_getD_ext (by rw [truS_len, hs]) fun i hi => ?_
 rw [truS_len] at hi
 rw [truS_at (by omega)]
 have : ∀ k, k ≤ (lookL p known every).length → runK (s.getD 0 0) (numsL p known (pickC p known s)) k = s.getD k 0 := fun k => by
  induction k with
  | zero => intro _; rfl
  | succ k ih =>
   intro hk
   show runK (s.getD 0 0) (numsL p known (pickC p known s)) k - (numsL p known (pickC p known s)).getD k 0 = _
   rw [ih (by omega), pick_at hok (by omega)]
   omega
 exact this i (by omega)
theorem pick_truth {p : Pl} (hok : okPl p = true) {known : Int} {s : List Int} (ht : Tru (lookL p known every) (lookS p known every) s) : truthB p known (s.getD 0 0) (pickC p known s) = true := by
 have hs := ht.1
 refine (truth_iff hok).2 ⟨pickC_len _ _ _, ?_⟩
 rw [pick_truS hok hs]
 have := settle_tru (row_len p known every _ _ _) ht
 exact truBy_iff.2 this
end Go.Proofs.YtkoejeghihcmlaaGreat

namespace Go.Proofs.YtkoejeghihcmlaaGreat
open Go.RowKit Go.Shelf
theorem made_count (r : Raw) (right : Bool) {known : Int} (hk : 19 ≤ known) : countL (madeP r right) known = madeLoads r := by
 rw [← made_look20 r right hk, made_look]; rfl
theorem made_nlen (r : Raw) : (madeNums r).length = manyL r := (madeL_ok r).nlen
theorem made_nums (r : Raw) (right : Bool) : numsL (madeP r right) 20 (madeNums r) = madeNums r := by
 have e := made_look20 r right (known := 20) (by omega)
 refine list_getD_ext (by rw [numsL_len, e, made_len, made_nlen]) fun i hi => ?_
 rw [numsL_len] at hi
 rw [numsL_at hi]
 unfold numBy
 rw [made_count r right (by omega), ← e, srcIx_cart (made_ok r right) hi]
theorem made_truS (r : Raw) (right : Bool) : truS (madeP r right) 20 (r.sown % 200) (madeNums r) = leftS r := by
 have e := made_look20 r right (known := 20) (by omega)
 have hl : (leftS r).length = manyL r + 1 := by unfold leftS; rw [List.length_map, List.length_range]
 refine list_getD_ext (by rw [truS_len, e, made_len, hl]) fun i hi => ?_
 rw [truS_len, e, made_len] at hi
 rw [truS_at (by rw [e, made_len]; omega), made_nums, leftS_at (by omega)]
 have : ∀ k, k ≤ manyL r → runK (r.sown % 200) (madeNums r) k = (stL r k).left := fun k => by
  induction k with
  | zero => intro _; rfl
  | succ k ih =>
   intro hk
   show runK (r.sown % 200) (madeNums r) k - (madeNums r).getD k 0 = _
   rw [ih (by omega), left_num (by omega)]
 exact this i (by omega)
theorem made_truth (r : Raw) : truthB (madeP r true) 20 (r.sown % 200) (madeNums r) = true := by
 have e := made_look20 r true (known := 20) (by omega)
 refine (truth_iff (made_ok r true)).2 ⟨by rw [made_nlen, e, made_len], ?_⟩
 rw [made_truS]
 exact truBy_iff.2 (settle_tru (row_len _ _ _ _ _ _) (made_tru r))
def trulyV (p : Pl) (known hour : Int) (s : List Int) : Bool := openB p known hour (clrFrom (lookL p known every) s)
theorem ans_yes {a b : Bool} : ans a b = 1 ↔ b = false := by cases a <;> cases b <;> decide
theorem ans_no {a b : Bool} : ans a b = 0 ↔ b = true ∧ a = false := by cases a <;> cases b <;> decide
theorem from_mem {p : Pl} {h known : Int} {s : List Int} (ha : askE p [h] known = 0) (ht : Tru (lookL p known every) (lookS p known every) s) : clrFrom (lookL p known every) s ∈ fromsP p known :=
 (look_rw (ask_parts ha).1 (ask_parts ha).2.1).mem_froms.2 ⟨s, ht, rfl⟩
theorem open_true {p : Pl} {hour known : Int} {s : List Int} (h : askE p [hour] known = 0) (ht : Tru (lookL p known every) (lookS p known every) s) :
  (openA p hour known = 1 → trulyV p known hour s = true) ∧ (openA p hour known = 0 → trulyV p known hour s = false) := by
 have hm := from_mem h ht
 unfold openA
 rw [if_pos h, ans_yes, ans_no]
 constructor
 ·intro e
  rw [List.any_eq_false] at e
  have := e _ hm
  unfold trulyV
  simpa using this
 ·rintro ⟨-, e⟩
  rw [List.any_eq_false] at e
  have := e _ hm
  unfold trulyV
  simpa using this
theorem hour_of {p : Pl} {hour known : Int} (h : askE p [hour] known = 0) : 0 ≤ hour ∧ hour ≤ 99999 := by
 have := (ask_parts h).2.2.1
 simp only [List.any_cons, List.any_nil, Bool.or_false] at this
 unfold noHour at this
 rw [Bool.not_eq_false'] at this
 exact rng_iff.1 this
theorem open_from {p : Pl} {known hour f : Int} (h : openB p known hour f = true) : f ≤ hour := by
 unfold openB at h
 rw [Bool.and_eq_true, Bool.and_eq_true, decide_eq_true_eq] at h
 exact h.1.1
theorem truly_clear {p : Pl} {hour known : Int} {s : List Int} (h : askE p [hour] known = 0) (ht : Tru (lookL p known every) (lookS p known every) s) (hv : trulyV p known hour s = true) :
  s.getD (after (lookL p known every) hour) 0 = 0 :=
 ((look_rw (ask_parts h).1 (ask_parts h).2.1).clear_iff ht (hour_of h).1 (hour_of h).2).2 (open_from hv)
end Go.Proofs.YtkoejeghihcmlaaGreat

namespace Go.Proofs.YtkoejeghihcmlaaGreat
open Go.RowKit Go.Shelf
attribute [local go_sem] Oper.semAt_some
theorem Pa.lt {w : World} {p : Pl} {A1 A2 A3 : Option Addr} {n1 c1 n2 c2 n3 c3 : Nat} (h : Pa w p A1 A2 A3 n1 c1 n2 c2 n3 c3) : (∀ b o, A1 = some ⟨b, o, none⟩ → 0 < n1 → b < w.heap.size) ∧ (∀ b o, A2 = some ⟨b, o, none⟩ → 0 < n2 → b < w.heap.size) ∧ (∀ b o, A3 = some ⟨b, o, none⟩ → 0 < n3 → b < w.heap.size) :=
 ⟨fun _ _ e h0 => h.l1.lt_of e h0, fun _ _ e h0 => h.l2.lt_of e h0, fun _ _ e h0 => h.l3.lt_of e h0⟩
end Go.Proofs.YtkoejeghihcmlaaGreat

namespace Go.Proofs.YtkoejeghihcmlaaGreat
open Go.RowKit Go.Shelf
theorem q4_at {w : World} {A : Option Addr} {n : Nat} {xs : List Q4} (h : Arr q4cells 4 w A n xs) {k : Nat} (hk : k < n) :
  ∃ b o, A = some ⟨b, o, none⟩ ∧ b < w.heap.size ∧ ∀ w', Below w.heap.size w w' → w'.cell? ⟨b, o + k * 4, none⟩ = some (.int .i64 (xs.getD k z4).a) ∧ w'.cell? ⟨b, o + k * 4 + 1, none⟩ = some (.int .i64 (xs.getD k z4).b) ∧
   w'.cell? ⟨b, o + k * 4 + 2, none⟩ = some (.int .i64 (xs.getD k z4).c) ∧ w'.cell? ⟨b, o + k * 4 + 3, none⟩ = some (.int .i64 (xs.getD k z4).d) := by
 obtain ⟨b, o, x, rfl, hlt, hx, hc⟩ := h.at hk
 have e : xs.getD k z4 = x := by rw [List.getD_eq_getElem?_getD, hx]; rfl
 rw [e]
 refine ⟨b, o, rfl, hlt, fun w' g => ⟨?_, ?_, ?_, ?_⟩⟩
 ·exact hc w' g 0 _ rfl
 ·exact hc w' g 1 _ rfl
 ·exact hc w' g 2 _ rfl
 ·exact hc w' g 3 _ rfl
/-- A number of Go's. -/
def I64 (n : Int) : Prop := -9223372036854775808 ≤ n ∧ n ≤ 9223372036854775807
theorem wtd200 {n : Int} (h : I64 n) : wrap64 (n.tdiv 200) = n.tdiv 200 := by
 have h1 : (n.tdiv 200).natAbs = n.natAbs / 200 := Int.natAbs_tdiv n 200
 unfold I64 at h
 unfold wrap64
 omega
theorem wtd1800 {n : Int} (h : I64 n) : wrap64 (n.tdiv 1800) = n.tdiv 1800 := by
 have h1 : (n.tdiv 1800).natAbs = n.natAbs / 1800 := Int.natAbs_tdiv n 1800
 unfold I64 at h
 unfold wrap64
 omega
theorem wtd12 {n : Int} (h : I64 n) : wrap64 (n.tdiv 12) = n.tdiv 12 := by
 have h1 : (n.tdiv 12).natAbs = n.natAbs / 12 := Int.natAbs_tdiv n 12
 unfold I64 at h
 unfold wrap64
 omega
/-- Numbers of Go's throughout. -/
structure RawOk (r : Raw) : Prop where
 sown : I64 r.sown
 loads : ∀ x ∈ r.loads, I64 x.c
 stands : ∀ x ∈ r.stands, I64 x.c
 spells : ∀ x ∈ r.spells, I64 x.c
theorem stoodAt_bd (r : Raw) (h : Int) {k : Nat} (hk : k ≤ manyL r) : 0 ≤ stoodAt (madeLoads r) (madeNums r) (r.sown % 200) h k ∧ stoodAt (madeLoads r) (madeNums r) (r.sown % 200) h k ≤ 199 := by
 have hl := made_len r
 rw [stoodAt_left (r := r) (h := h) hk (fun j hj => after_spec (made_up r) j (by omega))]
 exact (stL_ok r _).left
theorem nums_bd (r : Raw) {j : Nat} (hj : j < manyL r) : 0 ≤ (madeNums r).getD j 0 ∧ (madeNums r).getD j 0 ≤ 210 := by
 have h := made_each (r := r) hj
 omega
set_option maxRecDepth 100000 in
set_option maxHeartbeats 40000000 in
theorem made_any (r : Raw) (right : Bool) (A1 A2 A3 : Option Addr) (n1 c1 n2 c2 n3 c3 : Nat) (w : World) (h1 : Arr q4cells 4 w A1 n1 r.loads) (h2 : Arr q4cells 4 w A2 n2 r.stands) (h3 : Arr q4cells 4 w A3 n3 r.spells)
  (hn : n1 ≤ 9223372036854775807 ∧ n2 ≤ 9223372036854775807 ∧ n3 ≤ 9223372036854775807) (hr : RawOk r) :
  Calls Tryz.prog 15 #[.agg (rawv r A1 A2 A3 n1 c1 n2 c2 n3 c3), .bool right] w fun e w' => (∃ v1 v2 v3 vn, e = .returned (.tuple #[.agg (plw (madeP r right) v1 v2 v3), .agg #[.int .i64 (r.sown % 200), vn]]) ∧
   OwnL scells 6 103 w' w.heap.size v1 (madeLoads r) ∧ OwnL scells 6 105 w' w.heap.size v2 (madeP r right).stands ∧ OwnL scells 6 107 w' w.heap.size v3 (madeP r right).spells ∧ OwnL icells 1 3 w' w.heap.size vn (madeNums r)) ∧ Below w.heap.size w w' := by
 obtain ⟨W1, hW1⟩ : ∃ W1, ((w.alloc (.cells (rawv r A1 A2 A3 n1 c1 n2 c2 n3 c3) 24)).alloc (.cells #[.int .i64 0, .int .i64 0, .slice none 0 0, .slice none 0 0, .slice none 0 0, .int .i64 0] 38)).alloc (.cells #[.int .i64 0, .slice none 0 0] 41) = W1 := ⟨_, rfl⟩
 have g1 : Below w.heap.size w W1 := by rw [← hW1]; exact three_more _ _ _ _
 have b2 : Blk W1 w.heap.size 24 (rawv r A1 A2 A3 n1 c1 n2 c2 n3 c3) := by rw [← hW1]; exact blk3_1 _ _ _ _ _
 have b4 : Blk W1 (w.heap.size + 1) 38 #[.int .i64 0, .int .i64 0, .slice none 0 0, .slice none 0 0, .slice none 0 0, .int .i64 0] := by rw [← hW1]; exact blk3_2 _ _ _ _ _
 have b5 : Blk W1 (w.heap.size + 1 + 1) 41 #[.int .i64 0, .slice none 0 0] := by rw [← hW1]; exact blk3_3 _ _ _ _ _
 have hz1 : W1.heap.size = w.heap.size + 1 + 1 + 1 := by rw [← hW1]; simp
 have r0 := b2.cell 0
 have r1 := b2.cell 1
 have HW1 := Lib.hid hW1
 have HB2 := Lib.hid b2
 have HB4 := Lib.hid b4
 have HB5 := Lib.hid b5
 have G1 := Lib.hid g1
 have HZ1 := Lib.hid hz1
 have H1 := Lib.hid h1
 have H2 := Lib.hid h2
 have H3 := Lib.hid h3
 have HN := Lib.hid hn
 have HRO := Lib.hid hr
 have TM := Lib.hid (fun n m V h0 h1 => mod_any n m V h0 h1)
 clear hW1 b2 b4 b5 g1 hz1 h1 h2 h3 hn hr
 go_enter Tryz.func15, Tryz.ntmps15
 go_upto_region 1 with fail
 rw [HW1.out]
 obtain ⟨bx, hbx⟩ : ∃ bx, w.heap.size = bx := ⟨_, rfl⟩
 rw [hbx] at HB2 HB4 HB5 G1 HZ1 r0 r1 ⊢
 have HBX := Lib.hid hbx
 clear hbx
 go_upto_region 2 with (go_at_call 17; (with_reducible refine (TM.out _ _ _ (by omega) (by omega)).mono ?_); rintro e w' ⟨rfl, rfl⟩)
 obtain ⟨W2, hW2⟩ : ∃ W2, W1.alloc (.cells #[.int .i64 0, .int .i64 0, .slice none 0 0, .slice none 0 0, .slice none 0 0, .int .i64 (r.geese % 4)] 38) = W2 := ⟨_, rfl⟩
 have g2 : Below W1.heap.size W1 W2 := by rw [← hW2]; exact one_more _ _
 have b6 : Blk W2 W1.heap.size 38 #[.int .i64 0, .int .i64 0, .slice none 0 0, .slice none 0 0, .slice none 0 0, .int .i64 (r.geese % 4)] := by rw [← hW2]; exact Blk.new _ _ _
 have HB6 := Lib.hid b6
 have s0 := (HB2.out.ext g2).cell 0
 have G2 := Lib.hid g2
 have HZ2 := Lib.hid (show W2.heap.size = W1.heap.size + 1 by rw [← hW2]; simp)
 have HW2 := Lib.hid hW2
 clear b6 g2 hW2 r0 r1
 rw [HW2.out]
 rw [HZ1.out] at HB6 HZ2 ⊢
 go_upto_region 4 with (go_at_call 17; (with_reducible refine (TM.out _ _ _ (by omega) (by omega)).mono ?_); rintro e w' ⟨rfl, rfl⟩)
 obtain ⟨W3, hW3⟩ : ∃ W3, W2.alloc (.cells #[.int .i64 (r.sown % 200), .slice none 0 0] 41) = W3 := ⟨_, rfl⟩
 have g3 : Below W2.heap.size W2 W3 := by rw [← hW3]; exact one_more _ _
 have b8 : Blk W3 W2.heap.size 41 #[.int .i64 (r.sown % 200), .slice none 0 0] := by rw [← hW3]; exact Blk.new _ _ _
 have HB8 := Lib.hid b8
 have q0 := ((HB2.out.ext G2.out).ext g3).cell 0
 have HC6 := Lib.hid (HB6.out.ext g3)
 have G3 := Lib.hid g3
 have HZ3 := Lib.hid (show W3.heap.size = W2.heap.size + 1 by rw [← hW3]; simp)
 have HW3 := Lib.hid hW3
 clear b8 g3 hW3 s0
 (try rw [HW3.out])
 rw [HZ2.out] at HB8 HZ3 ⊢
 have q1 := HC6.out.cell 0
 have q2 := HC6.out.cell 1
 have q3 := HC6.out.frozen 0
 have q4 := HC6.out.frozen 1
 have hl0 : 0 ≤ r.sown % 200 := by omega
 have hl1 : r.sown % 200 < 200 := by omega
 have ha0 : 0 ≤ r.sown.tdiv 200 % 9 := by omega
 have ha1 : r.sown.tdiv 200 % 9 < 9 := by omega
 have hb0 : 0 ≤ r.sown.tdiv 1800 % 9 := by omega
 have hb1 : r.sown.tdiv 1800 % 9 < 9 := by omega
 have qq0 := cellW (show W3.cell? ⟨bx, 0, none⟩ = some (.int .i64 r.sown) from q0)
 have hw1 := wtd200 HRO.out.sown
 have hw2 := wtd1800 HRO.out.sown
 refine wp_region_calm_tail W3 15 (by kernel_rfl) (by kernel_rfl) (Below.refl _ _) ?_
 simp only [List.take_succ_cons, List.take_zero, List.drop_succ_cons, List.drop_zero]
 repeat (go_big_quiet_step (first | (go_at_call 17; exact callsCalmSame (TM.out _ _ _ (by omega) (by omega)))))
 refine wpQuiet_nil ?_
 rintro _ ⟨z, rfl⟩
 clear q0 q1 q2 q3 q4 qq0 hw1 hw2
 have q1 := (HC6.out.ext z.ok).cell 0
 have q2 := (HC6.out.ext z.ok).cell 1
 have q3 := (HC6.out.ext z.ok).frozen 0
 have q4 := (HC6.out.ext z.ok).frozen 1
 go_upto_region 6 with fail
 obtain ⟨lo, hlo⟩ : ∃ lo, max 0 (r.sown % 200 - r.sown.tdiv 200 % 9) = lo := ⟨_, rfl⟩
 obtain ⟨hi, hhi⟩ : ∃ hi, r.sown % 200 + r.sown.tdiv 1800 % 9 = hi := ⟨_, rfl⟩
 obtain ⟨Z, hZ⟩ : ∃ Z, (z.val.setCell ⟨bx + 1 + 1 + 1, 0, none⟩ (.int .i64 lo)).setCell ⟨bx + 1 + 1 + 1, 1, none⟩ (.int .i64 hi) = Z := ⟨_, rfl⟩
 have gz3 : W3.heap.size = bx + 1 + 1 + 1 + 1 + 1 := HZ3.out
 have gz2 : W2.heap.size = bx + 1 + 1 + 1 + 1 := HZ2.out
 have gz1 : W1.heap.size = bx + 1 + 1 + 1 := HZ1.out
 have hzz := z.ok.size
 have GW := Lib.hid (show Below bx w z.val from G1.out.trans ((G2.out.trans ((G3.out.trans (z.ok.mono G3.out.size)).mono G2.out.size)).mono (by omega)))
 have M0 : Mk w (bx + 1 + 1 + 1 + 1 + 1) bx (bx + 1) (bx + 1 + 1) (bx + 1 + 1 + 1) (bx + 1 + 1 + 1 + 1) (rawv r A1 A2 A3 n1 c1 n2 c2 n3 c3) lo hi (r.geese % 4) (r.sown % 200) Z (.slice none 0 0) (.slice none 0 0) (.slice none 0 0) (.slice none 0 0) [] [] [] [] := by
  rw [← hZ]
  have e3 := G3.out.trans (z.ok.mono G3.out.size)
  have e2 := G2.out.trans (e3.mono G2.out.size)
  exact ⟨by omega, (GW.out.setCell (p := ⟨bx + 1 + 1 + 1, 0, none⟩) (by show bx ≤ bx + 1 + 1 + 1; omega) _).setCell (p := ⟨bx + 1 + 1 + 1, 1, none⟩) (by show bx ≤ bx + 1 + 1 + 1; omega) _,
   ((HB2.out.ext e2).far (by show bx ≠ bx + 1 + 1 + 1; omega) _).far (by show bx ≠ bx + 1 + 1 + 1; omega) _,
   ((HB4.out.ext e2).far (by show bx + 1 ≠ bx + 1 + 1 + 1; omega) _).far (by show bx + 1 ≠ bx + 1 + 1 + 1; omega) _,
   ((HB5.out.ext e2).far (by show bx + 1 + 1 ≠ bx + 1 + 1 + 1; omega) _).far (by show bx + 1 + 1 ≠ bx + 1 + 1 + 1; omega) _,
   ((HC6.out.ext z.ok).set_ 0 _).set_ 1 _,
   ((HB8.out.ext z.ok).far (by show bx + 1 + 1 + 1 + 1 ≠ bx + 1 + 1 + 1; omega) _).far (by show bx + 1 + 1 + 1 + 1 ≠ bx + 1 + 1 + 1; omega) _,
   OwnL.nil _ _, OwnL.nil _ _, OwnL.nil _ _, OwnL.nil _ _, fun k e => (by cases e), fun k e => (by cases e), fun k e => (by cases e), fun k e => (by cases e), fun k e => (by cases e), fun k e => (by cases e)⟩
 have HM0 := Lib.hid M0
 have HLO := Lib.hid hlo
 have HHI := Lib.hid hhi
 rw [hlo, hhi, hZ]
 clear q1 q2 q3 q4 hlo hhi hZ M0 gz1 gz2 gz3 hzz ha0 ha1 hb0 hb1
 obtain ⟨s0, hs0⟩ : ∃ s, stL r 0 = s := ⟨_, rfl⟩
 have HL := Lib.hid H1.out.1
 have HWS := Lib.hid (show bx = w.heap.size from HBX.out.symm)
 go_wp2_with fail
 go_loopw [7, 9, 10] (fun l h i wr => ∃ (k : Nat) (v1 vn : Value), i = .int .i64 k ∧ l = .int .i64 (stL r k).left ∧ h = .int .i64 (stL r k).hour ∧ k ≤ manyL r ∧ Mk w (bx + 1 + 1 + 1 + 1 + 1) bx (bx + 1) (bx + 1 + 1) (bx + 1 + 1 + 1) (bx + 1 + 1 + 1 + 1) (rawv r A1 A2 A3 n1 c1 n2 c2 n3 c3) lo hi (r.geese % 4) (r.sown % 200) wr v1 (.slice none 0 0) (.slice none 0 0) vn (stL r k).loads [] [] (stL r k).nums) (fun _ _ i _ => 6 - (intOf i).toNat)
 case atStart => exact ⟨0, _, _, rfl, rfl, rfl, Nat.zero_le _, HM0.out⟩
 case round =>
  obtain ⟨k, v1, vn, rfl, rfl, rfl, hk, hm⟩ := hrel
  have hk6 := manyL_le r
  have HM := Lib.hid hm
  have hord := hm.ord
  have raw2 := hm.r.cell 2
  by_cases hkm : k < manyL r
  ·have hkl : k < n1 := by rw [← HL.out]; unfold manyL at hkm; omega
   have hstep := Lib.hid (show stL r (k + 1) = stepL (stL r k) k (r.loads.getD k z4) from rfl)
   have hso := stL_ok r k
   obtain ⟨b0, o0, e0, hb0l, hc⟩ := q4_at H1.out hkl
   have hx := HRO.out.loads (r.loads.getD k z4) (by rw [List.getD_eq_getElem?_getD, List.getElem?_eq_getElem (by rw [HL.out]; exact hkl)]; exact List.getElem_mem _)
   obtain ⟨x, hxg⟩ : ∃ x, r.loads.getD k z4 = x := ⟨_, rfl⟩
   rw [hxg] at hc hstep hx
   obtain ⟨s, hs⟩ : ∃ s, stL r k = s := ⟨_, rfl⟩
   rw [hs] at HM hstep hso ⊢
   have hgw := hm.g
   obtain ⟨x0, x1, x2, x3⟩ := hc wr (by rw [← HWS.out]; exact hgw)
   subst e0
   have htk := took_bd hso.left.1 x
   have HTK := Lib.hid (show mkTook s.left x = if x.b % 5 = 0 then s.left else x.b % (s.left + 1) from rfl)
   have hk5 : decide ((k : Int) < 6) = true := decide_eq_true (by omega)
   have hl0 := hso.left
   have hh0 := hso.hour
   have hki : (k : Int) < (n1 : Int) := by omega
   have HSO := Lib.hid hso
   clear hc hxg hs hgw hm hso
   go_upto_region 10 with fail
   obtain ⟨Wa, hWa⟩ : ∃ Wa, wr.alloc (.cells #[.int .i64 x.a, .int .i64 x.b, .int .i64 x.c, .int .i64 x.d] 133) = Wa := ⟨_, rfl⟩
   have ga : Below wr.heap.size wr Wa := by rw [← hWa]; exact one_more _ _
   have b11 : Blk Wa wr.heap.size 133 #[.int .i64 x.a, .int .i64 x.b, .int .i64 x.c, .int .i64 x.d] := by rw [← hWa]; exact Blk.new _ _ _
   have HMa := Lib.hid (HM.out.ext ga)
   have HB11 := Lib.hid b11
   obtain ⟨bb, hbb⟩ : ∃ b, wr.heap.size = b := ⟨_, rfl⟩
   rw [hbb] at HB11 ⊢
   have hbbw := HB11.out.lt
   have hbbl : bx + 1 + 1 + 1 + 1 < bb := by have := HM.out.c.lt; omega
   have HWa := Lib.hid hWa
   have y0 := HB11.out.cell 0
   have y1 := HB11.out.cell 1
   have HBBE := Lib.hid hbb
   clear ga b11 hWa hbb x0 x1 x2 x3 raw2
   rw [HWa.out]
   go_upto_region 12 with (go_at_call 17; (with_reducible refine (TM.out _ _ _ (by omega) (by omega)).mono ?_); rintro e w' ⟨rfl, rfl⟩)
   have y2 := HB11.out.cell 2
   have y3 := HB11.out.cell 3
   have HBW := Lib.hid hbbw
   have HLB := Lib.hid hbbl
   by_cases hf : x.b % 5 = 0
   have hfd : decide (x.b % 5 = 0) = true := decide_eq_true hf
   obtain ⟨tk, hte⟩ : ∃ t, t = s.left := ⟨_, rfl⟩
   have HT := Lib.hid (show mkTook s.left x = tk from by rw [HTK.out, if_pos hf, hte])
   rotate_left
   have hfd : decide (x.b % 5 = 0) = false := decide_eq_false hf
   obtain ⟨tk, hte⟩ : ∃ t, t = x.b % (s.left + 1) := ⟨_, rfl⟩
   have HT := Lib.hid (show mkTook s.left x = tk from by rw [HTK.out, if_neg hf, hte])
   rotate_left
   all_goals
    rw [HT.out, hte] at htk
    have htk0 := htk.1
    have htk1 := htk.2
    have HE := Lib.hid hte
    clear htk hte
    go_upto_region 14 with (go_at_call 17; (with_reducible refine (TM.out _ _ _ (by omega) (by omega)).mono ?_); rintro e w' ⟨rfl, rfl⟩)
    go_upto_region 15 with fail
    have hn1 := HMa.out.c.cell 1
    obtain ⟨An, cn, hvn, -, -, -, -⟩ := OwnL.arr kdI HMa.out.on
    subst hvn
    have W5 := Lib.hid (show Below Wa.heap.size Wa (Wa.alloc (.cells #[.int .i64 tk] 3)) from one_more _ _)
    rw [HE.out] at W5
    have IX := Lib.hid (show ∀ W, W = Wa.alloc (.cells #[.int .i64 tk] 3) → Ints W (some ⟨Wa.heap.size, 0, none⟩) 1 [tk] from fun W e => e ▸ one_int (Blk.new _ _ _))
    have HMb := Lib.hid (HMa.out.ext W5.out)
    have HBb := Lib.hid (HB11.out.ext W5.out)
    have HLENN := Lib.hid (show s.nums.length + 1 ≤ 1000000 by have := HSO.out.nlen; omega)
    have HBAS := Lib.hid (show ∀ o, bx + 1 + 1 + 1 + 1 + 1 ≤ (Wa.alloc o).heap.size from fun o => by have := HMa.out.c.lt; have h2 : (Wa.alloc o).heap.size = Wa.heap.size + 1 := (by simp); omega)
    go_wp2_with (at_builtin; go_loud (refine wpList_app kdI (by rfl) _ _ (by rfl) (bx + 1 + 1 + 1 + 1 + 1) _ s.nums (by rfl) HMb.out.on _ 1 1 [tk] (by rfl) (IX.out _ (by rw [HE.out])) HLENN.out (HBAS.out _) ?_); intro v' w' ho hgr hz; obtain ⟨A6, c6, e6, -, -, -, -⟩ := OwnL.arr kdI ho; obtain ⟨m6, hm6⟩ : ∃ m6, (s.nums ++ [tk]).length = m6 := ⟨_, rfl⟩; rw [hm6] at e6; clear hm6; subst e6; have HMc := Lib.hid (HMb.out.turnn hgr ho hz); have HBc := Lib.hid ((HBb.out.grown hgr (fun e => by have := (own_lt HM.out.on e).2; have := HBBE.out; omega)).far (p := ⟨bx + 1 + 1 + 1 + 1, 1, none⟩) (by have := HLB.out; show bb ≠ bx + 1 + 1 + 1 + 1; omega) (.slice A6 m6 c6)); have f1 := (HMb.out.c.grown hgr (fun e => by have := (own_lt HM.out.on e).1; omega)).frozen 1; have e1 := (HMb.out.c.grown hgr (fun e => by have := (own_lt HM.out.on e).1; omega)).cell 1; clear ho hgr hz)
    obtain ⟨Wx, hWx⟩ : ∃ W, w'.setCell ⟨bx + 1 + 1 + 1 + 1, 1, none⟩ (.slice A6 m6 c6) = W := ⟨_, rfl⟩
    have HMd := HMc
    have HBd := HBc
    rw [hWx] at HMd HBd ⊢
    clear HMc HBc hWx hn1 f1 e1
    have HW12 := Lib.hid (show IntKind.i64.wrap (x.c.tdiv 12) = x.c.tdiv 12 from by have h := wtd12 hx; unfold wrap64 at h; rw [IntKind.wrap_i64]; exact h)
    have HMe := Lib.hid (HMd.out.ext ((Below.refl _ _).drew))
    have HMF := Lib.hid (fun o => HMe.out.ext (one_more _ o))
    have HJ := Lib.hid (fun o => (show ((fun w' => w'.cell? ⟨bx + 1 + 1 + 1, 2, none⟩ = some v1 ∧ w'.cell? ⟨bb, 2, none⟩ = some (.int .i64 x.c) ∧ w'.cell? ⟨bb, 3, none⟩ = some (.int .i64 x.d)) : World → Prop) (Wx.drew.alloc o) from ⟨(HMF.out o).p.cell 2, ((HBd.out.ext ((Below.refl _ _).drew)).ext (one_more _ o)).cell 2, ((HBd.out.ext ((Below.refl _ _).drew)).ext (one_more _ o)).cell 3⟩))
    have HLENL := Lib.hid (show s.loads.length + 1 ≤ 1000000 by have := HSO.out.len; omega)
    have HBAL := Lib.hid (show ∀ o, bx + 1 + 1 + 1 + 1 + 1 ≤ (Wx.drew.alloc o).heap.size from fun o => by have := HMe.out.c.lt; have h2 : (Wx.drew.alloc o).heap.size = Wx.drew.heap.size + 1 := (by simp); omega)
    have IXL := Lib.hid (show ∀ o a c d, o = .cells #[.int .i64 a, .int .i64 (s.hour + x.a % 9), .int .i64 c, .int .i64 d, .int .i64 (x.d % 20), .int .i64 0] 103 → a = 1 + (k : Int) → c = max 0 (tk - x.c % 12) → d = tk + x.c.tdiv 12 % 12 → Arr scells 6 (Wx.drew.alloc o) (some ⟨Wx.drew.heap.size, 0, none⟩) 1 [mkLoad k (s.hour + x.a % 9) tk x] from fun o a c d e e1 e2 e3 => by subst e e1 e2 e3; exact Blk.arr1 (f := scells) (x := mkLoad k (s.hour + x.a % 9) tk x) (Blk.new _ _ _))
    clear y0 y1 y2 y3
    refine wp_region_till (S := fun w' => w'.cell? ⟨bx + 1 + 1 + 1, 2, none⟩ = some v1 ∧ w'.cell? ⟨bb, 2, none⟩ = some (.int .i64 x.c) ∧ w'.cell? ⟨bb, 3, none⟩ = some (.int .i64 x.d)) 25 (by kernel_rfl) (⟨HMe.out.p.cell 2, (HBd.out.ext ((Below.refl _ _).drew)).cell 2, (HBd.out.ext ((Below.refl _ _).drew)).cell 3⟩) (fun hHeld => ?_)
    (refine till_take [25] (i := 0) (oi := ⟨_, _, _, _, _, _⟩) (d := some 85) (v := ?_) rfl rfl (by kernel_rfl) (by kernel_rfl) (fun _ _ _ h => h) (by rfl) ?_ (by assumption) ?_; rotate_left; (focus (intro w hSw; (try dsimp only at hSw); go_simp; try with_reducible rfl)); (try simp only [Act.put, List.setIfInBounds_toArray, List.set_cons_zero, List.set_cons_succ]))
    (refine till_take [25] (i := 1) (oi := ⟨_, _, _, _, _, _⟩) (d := some 86) (v := ?_) rfl rfl (by kernel_rfl) (by kernel_rfl) (fun _ _ _ h => h) (by rfl) ?_ (by assumption) ?_; rotate_left; (focus (intro w hSw; (try dsimp only at hSw); go_simp; try with_reducible rfl)); (try simp only [Act.put, List.setIfInBounds_toArray, List.set_cons_zero, List.set_cons_succ]))
    (refine till_take [25] (i := 2) (oi := ⟨_, _, _, _, _, _⟩) (d := some 87) (v := ?_) rfl rfl (by kernel_rfl) (by kernel_rfl) (fun _ _ _ h => h) (by rfl) ?_ (by assumption) ?_; rotate_left; (focus (intro w hSw; (try dsimp only at hSw); go_simp; try with_reducible rfl)); (try simp only [Act.put, List.setIfInBounds_toArray, List.set_cons_zero, List.set_cons_succ]))
    (refine till_take [25] (i := 3) (oi := ⟨_, _, _, _, _, _⟩) (d := some 88) (v := ?_) rfl rfl (by kernel_rfl) (by kernel_rfl) (fun _ _ _ h => h) (by rfl) ?_ (by assumption) ?_; rotate_left; (focus (intro w hSw; (try dsimp only at hSw); go_simp; try with_reducible rfl)); (try simp only [Act.put, List.setIfInBounds_toArray, List.set_cons_zero, List.set_cons_succ]))
    (refine till_take [25] (i := 4) (oi := ⟨_, _, _, _, _, _⟩) (d := some 89) (v := ?_) rfl rfl (by kernel_rfl) (by kernel_rfl) (fun _ _ _ h => h) (by rfl) ?_ (by assumption) ?_; rotate_left; (focus (intro w hSw; (try dsimp only at hSw); go_simp; try with_reducible rfl)); (try simp only [Act.put, List.setIfInBounds_toArray, List.set_cons_zero, List.set_cons_succ]))
    (refine till_take [25] (i := 5) (oi := ⟨_, _, _, _, _, _⟩) (d := some 90) (v := ?_) rfl rfl (by kernel_rfl) (by kernel_rfl) (fun _ _ _ h => h) (by rfl) ?_ (by assumption) ?_; rotate_left; (focus (intro w hSw; (try dsimp only at hSw); go_simp; try with_reducible rfl)); (try simp only [Act.put, List.setIfInBounds_toArray, List.set_cons_zero, List.set_cons_succ]))
    (refine till_take [25] (i := 6) (oi := ⟨_, _, _, _, _, _⟩) (d := some 91) (v := ?_) rfl rfl (by kernel_rfl) (by kernel_rfl) (fun _ _ _ h => h) (by rfl) ?_ (by assumption) ?_; rotate_left; (focus (intro w hSw; (try dsimp only at hSw); go_simp; try with_reducible rfl)); (try simp only [Act.put, List.setIfInBounds_toArray, List.set_cons_zero, List.set_cons_succ]))
    (refine till_take [25] (i := 7) (oi := ⟨_, _, _, _, _, _⟩) (d := some 92) (v := ?_) rfl rfl (by kernel_rfl) (by kernel_rfl) (fun _ _ _ h => h) (by rfl) ?_ (by assumption) ?_; rotate_left; (focus (intro w hSw; (try dsimp only at hSw); go_simp; try with_reducible rfl)); (try simp only [Act.put, List.setIfInBounds_toArray, List.set_cons_zero, List.set_cons_succ]))
    (refine till_take [25] (i := 11) (oi := ⟨_, _, _, _, _, _⟩) (d := some 96) (v := ?_) rfl rfl (by kernel_rfl) (by kernel_rfl) (fun _ _ _ h => h) (by rfl) ?_ (by assumption) ?_; rotate_left; (focus (intro w hSw; (try dsimp only at hSw); go_simp; try with_reducible rfl)); (try simp only [Act.put, List.setIfInBounds_toArray, List.set_cons_zero, List.set_cons_succ]))
    (refine till_take [25] (i := 12) (oi := ⟨_, _, _, _, _, _⟩) (d := some 97) (v := ?_) rfl rfl (by kernel_rfl) (by kernel_rfl) (fun _ _ _ h => h) (by rfl) ?_ (by assumption) ?_; rotate_left; (focus (intro w hSw; (try dsimp only at hSw); go_simp; try with_reducible rfl)); (try simp only [Act.put, List.setIfInBounds_toArray, List.set_cons_zero, List.set_cons_succ]))
    (refine till_take [25] (i := 13) (oi := ⟨_, _, _, _, _, _⟩) (d := some 98) (v := ?_) rfl rfl (by kernel_rfl) (by kernel_rfl) (fun _ _ _ h => h) (by rfl) ?_ (by assumption) ?_; rotate_left; (focus (intro w hSw; (try dsimp only at hSw); go_simp; try with_reducible rfl)); (try simp only [Act.put, List.setIfInBounds_toArray, List.set_cons_zero, List.set_cons_succ]))
    (refine till_take [25] (i := 14) (oi := ⟨_, _, _, _, _, _⟩) (d := some 99) (v := ?_) rfl rfl (by kernel_rfl) (by kernel_rfl) (fun _ _ _ h => h) (by rfl) ?_ (by assumption) ?_; rotate_left; (focus (intro w hSw; (try dsimp only at hSw); go_simp; try with_reducible rfl)); (try simp only [Act.put, List.setIfInBounds_toArray, List.set_cons_zero, List.set_cons_succ]))
    (refine till_take [25] (i := 18) (oi := ⟨_, _, _, _, _, _⟩) (d := some 103) (v := ?_) rfl rfl (by kernel_rfl) (by kernel_rfl) (fun _ _ _ h => h) (by rfl) ?_ (by assumption) ?_; rotate_left; (focus (intro w hSw; (try dsimp only at hSw); go_simp; try with_reducible rfl)); (try simp only [Act.put, List.setIfInBounds_toArray, List.set_cons_zero, List.set_cons_succ]))
    (refine till_take [25] (i := 19) (oi := ⟨_, _, _, _, _, _⟩) (d := some 104) (v := ?_) rfl rfl (by kernel_rfl) (by kernel_rfl) (fun _ _ _ h => h) (by rfl) ?_ (by assumption) ?_; rotate_left; (focus (intro w hSw; (try dsimp only at hSw); go_simp; try with_reducible rfl)); (try simp only [Act.put, List.setIfInBounds_toArray, List.set_cons_zero, List.set_cons_succ]))
    refine till_one 8 (o := ⟨_, _, _, _, _, _⟩) rfl (by kernel_rfl) (by decide) (fun K hK => ?_)
    (go_simp; go_at_call 17; refine (TM.out _ _ _ (by omega) (by omega)).mono ?_; rintro e w' ⟨rfl, rfl⟩; (try dsimp only))
    refine hK.out _ _ ?_ (fun hHeld => ?_)
    ·exact hHeld
    clear hK K
    (try simp only [Act.put, List.setIfInBounds_toArray, List.set_cons_zero, List.set_cons_succ])
    (refine till_take [25] (i := 9) (oi := ⟨_, _, _, _, _, _⟩) (d := some 94) (v := ?_) rfl rfl (by kernel_rfl) (by kernel_rfl) (fun _ _ _ h => h) (by rfl) ?_ (by assumption) ?_; rotate_left; (focus (intro w hSw; (try dsimp only at hSw); go_simp; try with_reducible rfl)); (try simp only [Act.put, List.setIfInBounds_toArray, List.set_cons_zero, List.set_cons_succ]))
    (refine till_take [25] (i := 10) (oi := ⟨_, _, _, _, _, _⟩) (d := some 95) (v := ?_) rfl rfl (by kernel_rfl) (by kernel_rfl) (fun _ _ _ h => h) (by rfl) ?_ (by assumption) ?_; rotate_left; (focus (intro w hSw; (try dsimp only at hSw); go_simp; try with_reducible rfl)); (try simp only [Act.put, List.setIfInBounds_toArray, List.set_cons_zero, List.set_cons_succ]))
    refine till_one 15 (o := ⟨_, _, _, _, _, _⟩) rfl (by kernel_rfl) (by decide) (fun K hK => ?_)
    (go_simp; go_at_call 17; refine (TM.out _ _ _ (by omega) (by omega)).mono ?_; rintro e w' ⟨rfl, rfl⟩; (try dsimp only))
    refine hK.out _ _ ?_ (fun hHeld => ?_)
    ·exact hHeld
    clear hK K
    (try simp only [Act.put, List.setIfInBounds_toArray, List.set_cons_zero, List.set_cons_succ])
    (refine till_take [25] (i := 16) (oi := ⟨_, _, _, _, _, _⟩) (d := some 101) (v := ?_) rfl rfl (by kernel_rfl) (by kernel_rfl) (fun _ _ _ h => h) (by rfl) ?_ (by assumption) ?_; rotate_left; (focus (intro w hSw; (try dsimp only at hSw); go_simp; try with_reducible rfl)); (try simp only [Act.put, List.setIfInBounds_toArray, List.set_cons_zero, List.set_cons_succ]))
    (refine till_take [25] (i := 17) (oi := ⟨_, _, _, _, _, _⟩) (d := some 102) (v := ?_) rfl rfl (by kernel_rfl) (by kernel_rfl) (fun _ _ _ h => h) (by rfl) ?_ (by assumption) ?_; rotate_left; (focus (intro w hSw; (try dsimp only at hSw); go_simp; try with_reducible rfl)); (try simp only [Act.put, List.setIfInBounds_toArray, List.set_cons_zero, List.set_cons_succ]))
    refine till_one 20 (o := ⟨_, _, _, _, _, _⟩) rfl (by kernel_rfl) (by decide) (fun K hK => ?_)
    (go_simp; go_at_call 17; refine (TM.out _ _ _ (by omega) (by omega)).mono ?_; rintro e w' ⟨rfl, rfl⟩; (try dsimp only))
    refine hK.out _ _ ?_ (fun hHeld => ?_)
    ·exact hHeld
    clear hK K
    (try simp only [Act.put, List.setIfInBounds_toArray, List.set_cons_zero, List.set_cons_succ])
    (refine till_take [25] (i := 21) (oi := ⟨_, _, _, _, _, _⟩) (d := some 106) (v := ?_) rfl rfl (by kernel_rfl) (by kernel_rfl) (fun _ _ _ h => h) (by rfl) ?_ (by assumption) ?_; rotate_left; (focus (intro w hSw; (try dsimp only at hSw); go_simp; try with_reducible rfl)); (try simp only [Act.put, List.setIfInBounds_toArray, List.set_cons_zero, List.set_cons_succ]))
    refine till_one 22 (o := ⟨_, _, _, _, _, _⟩) rfl (by kernel_rfl) (by decide) (fun K hK => ?_)
    go_simp
    refine hK.out _ _ ?_ (fun hHeld => ?_)
    ·exact HJ.out _
    clear hK K
    (try simp only [Act.put, List.setIfInBounds_toArray, List.set_cons_zero, List.set_cons_succ])
    refine till_one 23 (o := ⟨_, _, _, _, _, _⟩) rfl (by kernel_rfl) (by decide) (fun K hK => ?_)
    (refine step_app kdL (by rfl) _ _ (by rfl) (bx + 1 + 1 + 1 + 1 + 1) _ s.loads (by rfl) (HMF.out _).o1 _ 1 1 [mkLoad k (s.hour + x.a % 9) tk x] (by rfl) (IXL.out _ _ _ _ rfl (by (simp only [IntKind.wrap_i64]; omega)) (by (try rw [HE.out]); (simp only [IntKind.wrap_i64]; omega)) (by (try rw [HE.out]); rw [HW12.out]; (simp only [IntKind.wrap_i64]; omega))) HLENL.out (HBAL.out _) ?_; intro v' w' ho hgr hz; obtain ⟨A7, c7, e7, -, -, -, -⟩ := OwnL.arr kdL ho; obtain ⟨m7, hm7⟩ : ∃ m7, (s.loads ++ [mkLoad k (s.hour + x.a % 9) tk x]).length = m7 := ⟨_, rfl⟩; rw [hm7] at e7; clear hm7; subst e7; have HMG := Lib.hid ((HMF.out _).turn1 hgr ho hz); have hpg := ((HMF.out _).p.grown hgr (fun e => by have := (own_lt HMd.out.o1 e).1; omega)); have hbg := (((HBd.out.ext ((Below.refl _ _).drew)).ext (one_more _ _)).grown hgr (fun e => by have := (own_lt HM.out.o1 e).2; have := HBBE.out; omega)); have fz := hpg.frozen 2; have j2 := hpg.cell 2; have jc := hbg.cell 2; have jd := hbg.cell 3; clear ho hgr hz hpg hbg)
    refine hK.out _ _ ?_ (fun hHeld => ?_)
    ·exact ⟨j2, jc, jd⟩
    clear hK K
    (try simp only [Act.put, List.setIfInBounds_toArray, List.set_cons_zero, List.set_cons_succ])
    (refine till_take [25] (i := 24) (oi := ⟨_, _, _, _, _, _⟩) (d := some 109) (v := ?_) rfl rfl (by kernel_rfl) (by kernel_rfl) (fun _ _ _ h => h) (by rfl) ?_ (by assumption) ?_; rotate_left; (focus (intro w hSw; (try dsimp only at hSw); go_simp; try with_reducible rfl)); (try simp only [Act.put, List.setIfInBounds_toArray, List.set_cons_zero, List.set_cons_succ]))
    refine till_last (o := ⟨_, _, _, _, _, _⟩) rfl (by kernel_rfl) (by kernel_rfl) (fun K hK => ?_)
    go_simp
    refine hK.out _ _ ?_
    clear hK K
    go_wp2_with fail
    go_roundw
    case rel => exact ⟨k + 1, _, _, by go_num, congrArg (Value.int .i64) (by rw [hstep.out]; show _ = s.left - mkTook s.left x; rw [HT.out]; have := HE.out; omega), congrArg (Value.int .i64) (by rw [hstep.out]; rfl), by omega, by rw [hstep.out]; unfold stepL; dsimp only; rw [HT.out]; exact HMG.out⟩
    case measure => simp [intOf]; omega
  ·have HKE := Lib.hid (show k = manyL r by omega)
   have hd6 : ¬ (k < n1 ∧ k < 6) := by have := HL.out; unfold manyL at hkm; omega
   go_upto_region 7 with fail
   go_cut [53] from 45 to 53 (fun c wx => c = .bool false ∧ wx = wr)
   case first =>
    by_cases c1 : k < n1
    ·have e1 : decide ((k : Int) < (n1 : Int)) = true := decide_eq_true (by omega)
     have e2 : decide ((k : Int) < 6) = false := decide_eq_false (by omega)
     go_wp2_with fail
     go_meet
     exact ⟨rfl, rfl⟩
    ·have e1 : decide ((k : Int) < (n1 : Int)) = false := decide_eq_false (by omega)
     go_wp2_with fail
     go_meet
     exact ⟨rfl, rfl⟩
   case rest =>
    obtain ⟨rfl, rfl⟩ := hcut
    have HM1 := Lib.hid (show Mk w (bx + 1 + 1 + 1 + 1 + 1) bx (bx + 1) (bx + 1 + 1) (bx + 1 + 1 + 1) (bx + 1 + 1 + 1 + 1) (rawv r A1 A2 A3 n1 c1 n2 c2 n3 c3) lo hi (r.geese % 4) (r.sown % 200) wc v1 (.slice none 0 0) (.slice none 0 0) vn (madeLoads r) [] [] (madeNums r) by have := HM.out; rw [HKE.out] at this; exact this)
    have HL2 := Lib.hid H2.out.1
    have HL3 := Lib.hid H3.out.1
    obtain ⟨D1, d1, hv1, -, -, -, -⟩ := OwnL.arr kdL HM1.out.o1
    obtain ⟨Dn, dn, hvn, -, -, -, -⟩ := OwnL.arr kdI HM1.out.on
    subst hv1 hvn
    obtain ⟨nL, hnL⟩ : ∃ n, (madeLoads r).length = n := ⟨_, rfl⟩
    obtain ⟨nN, hnN⟩ : ∃ n, (madeNums r).length = n := ⟨_, rfl⟩
    rw [hnL, hnN] at HM1
    have HNL := Lib.hid hnL
    have hnN2 : nN = nL := by rw [← hnN, ← hnL, made_len]; exact (madeL_ok r).nlen
    have HNN := Lib.hid hnN
    have HNM := Lib.hid (show nL = manyL r by rw [← hnL]; exact made_len r)
    have hnL6 : nL ≤ 6 := by rw [HNM.out]; exact hk6
    subst hnN2
    clear hnL hnN hd6 hkm hk raw2 HM HM0
    go_wp2_with fail
    go_loopw [13] (fun i wr => ∃ (k2 : Nat) (v2 : Value), i = .int .i64 k2 ∧ k2 ≤ min n2 6 ∧ Mk w (bx + 1 + 1 + 1 + 1 + 1) bx (bx + 1) (bx + 1 + 1) (bx + 1 + 1 + 1) (bx + 1 + 1 + 1 + 1) (rawv r A1 A2 A3 n1 c1 n2 c2 n3 c3) lo hi (r.geese % 4) (r.sown % 200) wr (.slice D1 nN d1) v2 (.slice none 0 0) (.slice Dn nN dn) (madeLoads r) (madeStandsK r right k2) [] (madeNums r)) (fun i _ => 6 - (intOf i).toNat)
    case atStart => exact ⟨0, _, rfl, Nat.zero_le _, HM1.out⟩
    case round =>
     obtain ⟨k2, v2, rfl, hk2, hm2⟩ := hrel
     have HM2 := Lib.hid hm2
     have hord2 := hm2.ord
     have raw3 := hm2.r.cell 3
     by_cases hkm2 : k2 < min n2 6
     ·have hkl2 : k2 < n2 := by omega
      obtain ⟨b0, o0, e0, hb0l, hc⟩ := q4_at H2.out hkl2
      have hx := HRO.out.stands (r.stands.getD k2 z4) (by rw [List.getD_eq_getElem?_getD, List.getElem?_eq_getElem (by rw [HL2.out]; exact hkl2)]; exact List.getElem_mem _)
      have HST := Lib.hid (show madeStandsK r right (k2 + 1) = madeStandsK r right k2 ++ [mkStand r right k2 (r.stands.getD k2 z4)] from rfl)
      have HSL := Lib.hid (stands_len r right k2)
      obtain ⟨x, hxg⟩ : ∃ x, r.stands.getD k2 z4 = x := ⟨_, rfl⟩
      rw [hxg] at hc hx HST
      have hgw := hm2.g
      obtain ⟨x0, x1, x2, x3⟩ := hc wr (by rw [← HWS.out]; exact hgw)
      subst e0
      have hk5 : decide ((k2 : Int) < 6) = true := decide_eq_true (by omega)
      have hki : (k2 : Int) < (n2 : Int) := by omega
      have HXI := Lib.hid hx
      clear hc hxg hgw hm2 hx
      go_upto_region 21 with fail
      obtain ⟨Wa, hWa⟩ : ∃ Wa, wr.alloc (.cells #[.int .i64 x.a, .int .i64 x.b, .int .i64 x.c, .int .i64 x.d] 133) = Wa := ⟨_, rfl⟩
      have ga : Below wr.heap.size wr Wa := by rw [← hWa]; exact one_more _ _
      have b14 : Blk Wa wr.heap.size 133 #[.int .i64 x.a, .int .i64 x.b, .int .i64 x.c, .int .i64 x.d] := by rw [← hWa]; exact Blk.new _ _ _
      have HMa := Lib.hid (HM2.out.ext ga)
      have HB14 := Lib.hid b14
      have hbs : bx + 1 + 1 + 1 + 1 < wr.heap.size := HM2.out.c.lt
      obtain ⟨bb, hbb⟩ : ∃ b, wr.heap.size = b := ⟨_, rfl⟩
      rw [hbb] at HB14 hbs ⊢
      have HBBE := Lib.hid hbb
      have HWa := Lib.hid hWa
      clear ga b14 hWa hbb x0 x1 x2 x3 raw3
      rw [HWa.out]
      have y0 := HB14.out.cell 0
      have y1 := HB14.out.cell 1
      have y2 := HB14.out.cell 2
      have y3 := HB14.out.cell 3
      have hw1 : IntKind.i64.wrap (21 + (k2 : Int)) = 21 + (k2 : Int) := by rw [IntKind.wrap_i64]; omega
      have hw2 : IntKind.i64.wrap (18 + x.a % 50) = 18 + x.a % 50 := by rw [IntKind.wrap_i64]; omega
      have HKP := Lib.hid (fun W (g : Below Wa.heap.size Wa W) => (⟨(HB14.out.ext g).cell 0, (HB14.out.ext g).cell 3⟩ : W.cell? ⟨bb, 0, none⟩ = some (.int .i64 x.a) ∧ W.cell? ⟨bb, 3, none⟩ = some (.int .i64 x.d)))
      go_cut [15] from 126 to 135 (fun s15 wx => ∃ b15, s15 = .pointer (some ⟨b15, 0, none⟩) ∧ Below Wa.heap.size Wa wx ∧ Wa.heap.size ≤ b15 ∧ Blk wx b15 105 #[.int .i64 (21 + (k2 : Int)), .int .i64 (18 + x.a % 50), .int .i64 0, .int .i64 0, .int .i64 (x.d % 20), .int .i64 0])
      case first =>
       go_region_held3 (fun W => W.cell? ⟨bb, 0, none⟩ = some (.int .i64 x.a) ∧ W.cell? ⟨bb, 3, none⟩ = some (.int .i64 x.d))
        (first | exact HKP.out _ (by exact (Below.refl _ _).drew) | exact HKP.out _ (by exact (one_more _ _).drew))
        ((go_at_call 17; (with_reducible refine (TM.out _ _ _ (by omega) (by omega)).mono ?_); rintro e w' ⟨rfl, rfl⟩))
       all_goals (try go_wp2_with fail)
       all_goals go_meet
       all_goals exact ⟨_, rfl, (one_more _ _).drew, Nat.le_refl _, (Blk.new _ _ _).ext ((Below.refl _ _).drew)⟩
      case rest =>
       obtain ⟨b15, rfl, hg15, hb15, hB15⟩ := hcut
       have HG15 := Lib.hid hg15
       have HMb := Lib.hid (HMa.out.ext hg15)
       have HBb := Lib.hid (HB14.out.ext hg15)
       have HB15 := Lib.hid hB15
       have HB15L := Lib.hid hb15
       have hbl5 := hB15.lt
       have sw := HMb.out.c.cell 0
       clear y0 y1 y2 y3 hw1 hw2 hg15 hb15 hB15
       obtain ⟨D, c, hv, -, -, hla, -⟩ := OwnL.arr kdL HMb.out.o1
       rw [HNL.out] at hv hla
       cases hv
       obtain ⟨D', c', hv', -, -, hna, -⟩ := OwnL.arr kdI HMb.out.on
       rw [HNN.out] at hv' hna
       cases hv'
       have HLA := Lib.hid hla
       have HNA := Lib.hid hna
       clear hla hna
       obtain ⟨hq, hhq⟩ : ∃ h, 18 + x.a % 50 = h := ⟨_, rfl⟩
       have HHQ := Lib.hid hhq
       rw [hhq] at HB15
       have hq0 : 0 ≤ hq := by omega
       clear hhq
       go_wp2_with fail
       clear sw
       go_loopw [16, 17] (fun s i wv => ∃ j : Nat, i = .int .i64 j ∧ s = .int .i64 (stoodAt (madeLoads r) (madeNums r) (r.sown % 200) hq j) ∧ j ≤ nN ∧ Below wc.heap.size wc wv) (fun _ i _ => nN - (intOf i).toNat)
       case atStart => exact ⟨0, rfl, rfl, Nat.zero_le _, Below.refl _ _⟩
       case round =>
        obtain ⟨j, rfl, rfl, hj, hgv⟩ := hrel
        have HGV := Lib.hid hgv
        have HMv := Lib.hid (HMb.out.ext hgv)
        have m2 := HMv.out.p.cell 2
        have m1 := HMv.out.c.cell 1
        have z1 := (HB15.out.ext hgv).cell 1
        have hjw : (j : Int) ≤ 6 := by omega
        clear hgv
        by_cases hjn : j < nN
        ·obtain ⟨b0, o0, e0, -, -, hc⟩ := six_at (HLA.out.below HGV.out) hjn
         obtain ⟨u0, u1, u2, u3, u4, u5⟩ := hc _ (Below.refl _ _)
         obtain ⟨b1, o1, e1, -, -, hc1⟩ := ints_at (HNA.out.below HGV.out) hjn
         have v0 := hc1 _ (Below.refl _ _)
         have hbd := stoodAt_bd r hq (k := j) (by rw [← HNM.out]; exact hj)
         have hbn := nums_bd r (j := j) (by rw [← HNM.out]; exact hjn)
         have HSS := Lib.hid (show stoodAt (madeLoads r) (madeNums r) (r.sown % 200) hq (j + 1) = stoodAt (madeLoads r) (madeNums r) (r.sown % 200) hq j - (if ((madeLoads r).getD j z6).b ≤ hq then (madeNums r).getD j 0 else 0) from rfl)
         subst e0 e1
         obtain ⟨y, hy⟩ : ∃ y, (madeLoads r).getD j z6 = y := ⟨_, rfl⟩
         obtain ⟨nm, hnm⟩ : ∃ y, (madeNums r).getD j 0 = y := ⟨_, rfl⟩
         obtain ⟨sa, hsa⟩ : ∃ y, stoodAt (madeLoads r) (madeNums r) (r.sown % 200) hq j = y := ⟨_, rfl⟩
         rw [hy] at u1 HSS
         rw [hnm] at v0 hbn HSS
         rw [hsa] at hbd HSS ⊢
         have hji : (j : Int) < (nN : Int) := by omega
         clear hc hc1 u0 u2 u3 u4 u5 hy hnm hsa
         go_upto_region 26 with fail
         by_cases hle : y.b ≤ hq
         ·have hd : decide (y.b ≤ hq) = true := decide_eq_true hle
          have HLE := Lib.hid hle
          clear hle
          go_quiet (fail)
          have m1' := (HMv.out.ext ⟨rfl, rfl, rfl, Nat.le_refl _, fun _ _ => rfl⟩ : Mk w _ _ _ _ _ _ _ _ _ _ _ (World.drewN _ nq) _ _ _ _ _ _ _ _).c.cell 1
          go_wp2_with fail
          go_roundw
          case rel => exact ⟨j + 1, by go_num, congrArg (Value.int .i64) (by rw [HSS.out, if_pos HLE.out]), by omega, HGV.out.trans (⟨rfl, rfl, rfl, Nat.le_refl _, fun _ _ => rfl⟩)⟩
          case measure => simp [intOf]; omega
         ·have hd : decide (y.b ≤ hq) = false := decide_eq_false hle
          have HLE := Lib.hid hle
          clear hle
          go_quiet (fail)
          go_wp2_with fail
          go_roundw
          case rel => exact ⟨j + 1, by go_num, congrArg (Value.int .i64) (by rw [HSS.out, if_neg HLE.out]; omega), by omega, HGV.out.trans (⟨rfl, rfl, rfl, Nat.le_refl _, fun _ _ => rfl⟩)⟩
          case measure => simp [intOf]; omega
        ·obtain rfl : nN = j := by omega
         have HSV := Lib.hid (show stoodAt (madeLoads r) (madeNums r) (r.sown % 200) hq nN = stoodAt (madeLoads r) (madeNums r) (r.sown % 200) (18 + x.a % 50) (madeLoads r).length by rw [HNL.out, HHQ.out])
         have yc1 := (HBb.out.ext HGV.out).cell 1
         obtain ⟨sa, hsa⟩ : ∃ y, stoodAt (madeLoads r) (madeNums r) (r.sown % 200) hq nN = y := ⟨_, rfl⟩
         rw [hsa] at HSV ⊢
         have HSA := Lib.hid hsa
         clear hsa
         go_upto_if 162 with fail
         go_cut [16] from 163 to 165 (fun s16 wx => s16 = .int .i64 (standV r right x) ∧ wx = wr)
         case first =>
          have HV := Lib.hid (show standV r right x = if right = true then stoodAt (madeLoads r) (madeNums r) (r.sown % 200) (18 + x.a % 50) (madeLoads r).length else x.b % 200 from rfl)
          cases right with
          | true =>
           have HV2 := Lib.hid (show standV r true x = sa by rw [HV.out, if_pos rfl, ← HSV.out])
           go_wp2_with fail
           go_meet
           exact ⟨by rw [HV2.out], rfl⟩
          | false =>
           have HV2 := Lib.hid (show standV r false x = x.b % 200 by rw [HV.out]; rfl)
           go_wp2_with (go_at_call 17; (with_reducible refine (TM.out _ _ _ (by omega) (by omega)).mono ?_); rintro e w' ⟨rfl, rfl⟩)
           go_meet
           exact ⟨by rw [HV2.out], rfl⟩
         case rest =>
          obtain ⟨rfl, rfl⟩ := hcut
          obtain ⟨sv, hsv⟩ : ∃ v, standV r right x = v := ⟨_, rfl⟩
          have hsb := standV_bd r right x
          rw [hsv] at hsb ⊢
          have HSVV := Lib.hid hsv
          have hx12 := wtd12 HXI.out
          have ha0 : 0 ≤ x.c % 12 := by omega
          have ha1 : x.c % 12 < 12 := by omega
          have hb0 : 0 ≤ x.c.tdiv 12 % 12 := by omega
          have hb1 : x.c.tdiv 12 % 12 < 12 := by omega
          have hs0 := hsb.1
          have hs1 := hsb.2
          have yc2 := (HBb.out.ext HGV.out).cell 2
          have qq2 := cellW (show wc.cell? ⟨bb, 2, none⟩ = some (.int .i64 x.c) from yc2)
          have HB15v := Lib.hid (HB15.out.ext HGV.out)
          have z2 := HB15v.out.cell 2
          have z3 := HB15v.out.cell 3
          have zf2 := HB15v.out.frozen 2
          have zf3 := HB15v.out.frozen 3
          clear hsv hsb yc1 m1 m2 z1
          go_upto_region 30 with fail
          refine wp_region_calm_tail wc 14 (by kernel_rfl) (by kernel_rfl) (Below.refl _ _) ?_
          simp only [List.take_succ_cons, List.take_zero, List.drop_succ_cons, List.drop_zero]
          repeat (go_big_quiet_step (first | (go_at_call 17; exact callsCalmSame (TM.out _ _ _ (by omega) (by omega)))))
          refine wpQuiet_nil ?_
          rintro _ ⟨zz, rfl⟩
          clear yc2 qq2 z2 z3 zf2 zf3 hx12
          have z2 := (HB15v.out.ext zz.ok).cell 2
          have z3 := (HB15v.out.ext zz.ok).cell 3
          have zf2 := (HB15v.out.ext zz.ok).frozen 2
          have zf3 := (HB15v.out.ext zz.ok).frozen 3
          go_upto_region 31 with fail
          clear z2 z3 zf2 zf3
          obtain ⟨c2v, hc2v⟩ : ∃ v, max 0 (sv - x.c % 12) = v := ⟨_, rfl⟩
          obtain ⟨c3v, hc3v⟩ : ∃ v, sv + x.c.tdiv 12 % 12 = v := ⟨_, rfl⟩
          obtain ⟨Z, hZ⟩ : ∃ Z, (zz.val.setCell ⟨b15, 2, none⟩ (.int .i64 c2v)).setCell ⟨b15, 3, none⟩ (.int .i64 c3v) = Z := ⟨_, rfl⟩
          have GZ := Lib.hid (show Below Wa.heap.size Wa Z by rw [← hZ]; exact ((HG15.out.trans ((HGV.out.trans (zz.ok.mono HGV.out.size)).mono HG15.out.size)).setCell (p := ⟨b15, 2, none⟩) HB15L.out _).setCell (p := ⟨b15, 3, none⟩) HB15L.out _)
          have HBZ := Lib.hid (show Blk Z b15 105 #[.int .i64 (21 + (k2 : Int)), .int .i64 hq, .int .i64 c2v, .int .i64 c3v, .int .i64 (x.d % 20), .int .i64 0] by rw [← hZ]; exact ((HB15v.out.ext zz.ok).set_ 2 _).set_ 3 _)
          rw [hc2v, hc3v, hZ]
          have HMK := Lib.hid (show mkStand r right k2 x = ⟨21 + (k2 : Int), hq, c2v, c3v, x.d % 20, 0⟩ by rw [← hc2v, ← hc3v, ← HSVV.out, ← HHQ.out]; rfl)
          have HMz := Lib.hid (HMa.out.ext GZ.out)
          have p3 := HMz.out.p.cell 3
          have t0 := HBZ.out.cell 0
          have t1 := HBZ.out.cell 1
          have t2 := HBZ.out.cell 2
          have t3 := HBZ.out.cell 3
          have t4 := HBZ.out.cell 4
          have t5 := HBZ.out.cell 5
          obtain ⟨A2v, c2c, hv2, -, -, -, -⟩ := OwnL.arr kdS HMz.out.o2
          rw [HSL.out] at hv2
          subst hv2
          clear hZ hc2v hc3v ha0 ha1 hb0 hb1 hs0 hs1
          have HIX := Lib.hid (show ∀ W, W = Z.alloc (.cells #[.int .i64 (21 + (k2 : Int)), .int .i64 hq, .int .i64 c2v, .int .i64 c3v, .int .i64 (x.d % 20), .int .i64 0] 105) → Arr scells 6 W (some ⟨Z.heap.size, 0, none⟩) 1 [mkStand r right k2 x] from fun W e => by subst e; rw [HMK.out]; exact Blk.arr1 (f := scells) (x := ⟨21 + (k2 : Int), hq, c2v, c3v, x.d % 20, 0⟩) (Blk.new _ _ _))
          have HMy := Lib.hid (fun o => HMz.out.ext (one_more Z o))
          have HLENS := Lib.hid (show (madeStandsK r right k2).length + 1 ≤ 1000000 by rw [HSL.out]; omega)
          have HBAS := Lib.hid (show ∀ o, bx + 1 + 1 + 1 + 1 + 1 ≤ (Z.alloc o).heap.size from fun o => by have := HMz.out.c.lt; have h2 : (Z.alloc o).heap.size = Z.heap.size + 1 := (by simp); omega)
          go_wp2_with (at_builtin; go_loud (refine wpList_app kdS (by rfl) _ _ (by rfl) (bx + 1 + 1 + 1 + 1 + 1) _ (madeStandsK r right k2) (by rfl) (HMy.out _).o2 _ 1 1 [mkStand r right k2 x] (by rfl) (HIX.out _ rfl) HLENS.out (HBAS.out _) ?_); intro v' w' ho hgr hz; obtain ⟨A6, c6, e6, -, -, -, -⟩ := OwnL.arr kdS ho; obtain ⟨m6, hm6⟩ : ∃ m6, (madeStandsK r right k2 ++ [mkStand r right k2 x]).length = m6 := ⟨_, rfl⟩; rw [hm6] at e6; clear hm6; subst e6; have HMc := Lib.hid ((HMy.out _).turn2 hgr ho hz); have hpg := ((HMy.out _).p.grown hgr (fun e => by have := (own_lt HMz.out.o2 e).1; omega)); have f1 := hpg.frozen 3; have e1 := hpg.cell 3; clear ho hgr hz hpg)
          go_roundw
          case rel => exact ⟨k2 + 1, _, by go_num, by omega, by rw [HST.out]; exact HMc.out⟩
          case measure => simp [intOf]; omega
     ·have HKE2 := Lib.hid (show k2 = min n2 6 by omega)
      have hd6 : ¬ (k2 < n2 ∧ k2 < 6) := by omega
      go_upto_region 18 with fail
      go_cut [118] from 110 to 118 (fun c wx => c = .bool false ∧ wx = wr)
      case first =>
       by_cases c1 : k2 < n2
       ·have e1 : decide ((k2 : Int) < (n2 : Int)) = true := decide_eq_true (by omega)
        have e2 : decide ((k2 : Int) < 6) = false := decide_eq_false (by omega)
        go_wp2_with fail
        go_meet
        exact ⟨rfl, rfl⟩
       ·have e1 : decide ((k2 : Int) < (n2 : Int)) = false := decide_eq_false (by omega)
        go_wp2_with fail
        go_meet
        exact ⟨rfl, rfl⟩
      case rest =>
       obtain ⟨rfl, rfl⟩ := hcut
       have HSP := Lib.hid (show (madeP r right).stands = madeStandsK r right k2 by rw [HKE2.out, ← HL2.out]; rfl)
       rw [← HSP.out] at HM2
       clear hd6 hkm2 hk2 raw3 hm2
       go_wp2_with fail
       go_loopw [18] (fun i wr => ∃ (k3 : Nat) (v3 : Value), i = .int .i64 k3 ∧ k3 ≤ min n3 4 ∧ Mk w (bx + 1 + 1 + 1 + 1 + 1) bx (bx + 1) (bx + 1 + 1) (bx + 1 + 1 + 1) (bx + 1 + 1 + 1 + 1) (rawv r A1 A2 A3 n1 c1 n2 c2 n3 c3) lo hi (r.geese % 4) (r.sown % 200) wr (.slice D1 nN d1) v2 v3 (.slice Dn nN dn) (madeLoads r) (madeP r right).stands (madeSpellsK r k3) (madeNums r)) (fun i _ => 4 - (intOf i).toNat)
       case atStart => exact ⟨0, _, rfl, Nat.zero_le _, HM2.out⟩
       case round =>
        obtain ⟨k3, v3, rfl, hk3, hm3⟩ := hrel
        have HM3 := Lib.hid hm3
        have hord3 := hm3.ord
        have raw4 := hm3.r.cell 4
        by_cases hkm3 : k3 < min n3 4
        ·have hkl3 : k3 < n3 := by omega
         obtain ⟨b0, o0, e0, hb0l, hc⟩ := q4_at H3.out hkl3
         have HST := Lib.hid (show madeSpellsK r (k3 + 1) = madeSpellsK r k3 ++ [mkSpell k3 (r.spells.getD k3 z4)] from rfl)
         have HSL := Lib.hid (spells_len r k3)
         obtain ⟨x, hxg⟩ : ∃ x, r.spells.getD k3 z4 = x := ⟨_, rfl⟩
         rw [hxg] at hc HST
         have hgw := hm3.g
         obtain ⟨x0, x1, x2, x3⟩ := hc wr (by rw [← HWS.out]; exact hgw)
         subst e0
         have hk5 : decide ((k3 : Int) < 4) = true := decide_eq_true (by omega)
         have hki : (k3 : Int) < (n3 : Int) := by omega
         clear hc hxg hgw hm3
         go_upto_region 36 with fail
         obtain ⟨Wa, hWa⟩ : ∃ Wa, wr.alloc (.cells #[.int .i64 x.a, .int .i64 x.b, .int .i64 x.c, .int .i64 x.d] 133) = Wa := ⟨_, rfl⟩
         have ga : Below wr.heap.size wr Wa := by rw [← hWa]; exact one_more _ _
         have b14 : Blk Wa wr.heap.size 133 #[.int .i64 x.a, .int .i64 x.b, .int .i64 x.c, .int .i64 x.d] := by rw [← hWa]; exact Blk.new _ _ _
         have HMa := Lib.hid (HM3.out.ext ga)
         have HB14 := Lib.hid b14
         have hbs : bx + 1 + 1 + 1 + 1 < wr.heap.size := HM3.out.c.lt
         obtain ⟨bb, hbb⟩ : ∃ b, wr.heap.size = b := ⟨_, rfl⟩
         rw [hbb] at HB14 hbs ⊢
         have HWa := Lib.hid hWa
         clear ga b14 hWa hbb x0 x1 x2 x3 raw4
         rw [HWa.out]
         have y0 := HB14.out.cell 0
         have y1 := HB14.out.cell 1
         have y2 := HB14.out.cell 2
         have y3 := HB14.out.cell 3
         have hw1 : IntKind.i64.wrap (41 + (k3 : Int)) = 41 + (k3 : Int) := by rw [IntKind.wrap_i64]; omega
         have hw2 : IntKind.i64.wrap (1 + x.a % 2) = 1 + x.a % 2 := by rw [IntKind.wrap_i64]; omega
         have hw3 : IntKind.i64.wrap (20 + x.b % 90) = 20 + x.b % 90 := by rw [IntKind.wrap_i64]; omega
         have HKP := Lib.hid (fun W (g : Below Wa.heap.size Wa W) => (⟨(HB14.out.ext g).cell 0, (HB14.out.ext g).cell 1, (HB14.out.ext g).cell 3⟩ : W.cell? ⟨bb, 0, none⟩ = some (.int .i64 x.a) ∧ W.cell? ⟨bb, 1, none⟩ = some (.int .i64 x.b) ∧ W.cell? ⟨bb, 3, none⟩ = some (.int .i64 x.d)))
         go_cut [20] from 202 to 215 (fun s20 wx => ∃ b20, s20 = .pointer (some ⟨b20, 0, none⟩) ∧ Below Wa.heap.size Wa wx ∧ Wa.heap.size ≤ b20 ∧ Blk wx b20 107 #[.int .i64 (41 + (k3 : Int)), .int .i64 (1 + x.a % 2), .int .i64 (20 + x.b % 90), .int .i64 0, .int .i64 (x.d % 20), .int .i64 0])
         case first =>
          go_region_held3 (fun W => W.cell? ⟨bb, 0, none⟩ = some (.int .i64 x.a) ∧ W.cell? ⟨bb, 1, none⟩ = some (.int .i64 x.b) ∧ W.cell? ⟨bb, 3, none⟩ = some (.int .i64 x.d))
           (first | exact HKP.out _ (by exact (Below.refl _ _).drew) | exact HKP.out _ (by exact (one_more _ _).drew))
           ((go_at_call 17; (with_reducible refine (TM.out _ _ _ (by omega) (by omega)).mono ?_); rintro e w' ⟨rfl, rfl⟩))
          all_goals (try go_wp2_with fail)
          all_goals go_meet
          all_goals exact ⟨_, rfl, (one_more _ _).drew, Nat.le_refl _, (Blk.new _ _ _).ext ((Below.refl _ _).drew)⟩
         case rest =>
          obtain ⟨b20, rfl, hg15, hb15, hB15⟩ := hcut
          have HG15 := Lib.hid hg15
          have HBb := Lib.hid (HB14.out.ext hg15)
          have HB15 := Lib.hid hB15
          have HB15L := Lib.hid hb15
          have hbl5 := hB15.lt
          clear y0 y1 y2 y3 hw1 hw2 hw3 hg15 hb15 hB15
          obtain ⟨fr, hfr⟩ : ∃ h, 20 + x.b % 90 = h := ⟨_, rfl⟩
          have HFR := Lib.hid hfr
          rw [hfr] at HB15
          have hf0 : 20 ≤ fr := by omega
          have hf1 : fr < 110 := by omega
          have ha0 : 0 ≤ x.c % 12 := by omega
          have ha1 : x.c % 12 < 12 := by omega
          have yc2 := HBb.out.cell 2
          have qq2 := cellW (show wc.cell? ⟨bb, 2, none⟩ = some (.int .i64 x.c) from yc2)
          have z2 := HB15.out.cell 2
          have qq3 := cellW (show wc.cell? ⟨b20, 2, none⟩ = some (.int .i64 fr) from z2)
          have z3 := HB15.out.cell 3
          have zf3 := HB15.out.frozen 3
          clear hfr
          go_upto_region 37 with fail
          refine wp_region_calm_tail wc 7 (by kernel_rfl) (by kernel_rfl) (Below.refl _ _) ?_
          simp only [List.take_succ_cons, List.take_zero, List.drop_succ_cons, List.drop_zero]
          repeat (go_big_quiet_step (first | (go_at_call 17; exact callsCalmSame (TM.out _ _ _ (by omega) (by omega)))))
          refine wpQuiet_nil ?_
          rintro _ ⟨zz, rfl⟩
          clear yc2 qq2 qq3 z2 z3 zf3
          have z3 := (HB15.out.ext zz.ok).cell 3
          have zf3 := (HB15.out.ext zz.ok).frozen 3
          go_upto_region 38 with fail
          clear z3 zf3
          obtain ⟨c3v, hc3v⟩ : ∃ v, fr + x.c % 12 = v := ⟨_, rfl⟩
          obtain ⟨Z, hZ⟩ : ∃ Z, zz.val.setCell ⟨b20, 3, none⟩ (.int .i64 c3v) = Z := ⟨_, rfl⟩
          have GZ := Lib.hid (show Below Wa.heap.size Wa Z by rw [← hZ]; exact (HG15.out.trans (zz.ok.mono HG15.out.size)).setCell (p := ⟨b20, 3, none⟩) HB15L.out _)
          have HBZ := Lib.hid (show Blk Z b20 107 #[.int .i64 (41 + (k3 : Int)), .int .i64 (1 + x.a % 2), .int .i64 fr, .int .i64 c3v, .int .i64 (x.d % 20), .int .i64 0] by rw [← hZ]; exact (HB15.out.ext zz.ok).set_ 3 _)
          rw [hc3v, hZ]
          have HMK := Lib.hid (show mkSpell k3 x = ⟨41 + (k3 : Int), 1 + x.a % 2, fr, c3v, x.d % 20, 0⟩ by rw [← hc3v, ← HFR.out]; rfl)
          have HMz := Lib.hid (HMa.out.ext GZ.out)
          have p4 := HMz.out.p.cell 4
          have t0 := HBZ.out.cell 0
          have t1 := HBZ.out.cell 1
          have t2 := HBZ.out.cell 2
          have t3 := HBZ.out.cell 3
          have t4 := HBZ.out.cell 4
          have t5 := HBZ.out.cell 5
          obtain ⟨A3v, c3c, hv3, -, -, -, -⟩ := OwnL.arr kdP HMz.out.o3
          rw [HSL.out] at hv3
          subst hv3
          clear hZ hc3v ha0 ha1 hf0 hf1
          have HIX := Lib.hid (show ∀ W, W = Z.alloc (.cells #[.int .i64 (41 + (k3 : Int)), .int .i64 (1 + x.a % 2), .int .i64 fr, .int .i64 c3v, .int .i64 (x.d % 20), .int .i64 0] 107) → Arr scells 6 W (some ⟨Z.heap.size, 0, none⟩) 1 [mkSpell k3 x] from fun W e => by subst e; rw [HMK.out]; exact Blk.arr1 (f := scells) (x := ⟨41 + (k3 : Int), 1 + x.a % 2, fr, c3v, x.d % 20, 0⟩) (Blk.new _ _ _))
          have HMy := Lib.hid (fun o => HMz.out.ext (one_more Z o))
          have HLENS := Lib.hid (show (madeSpellsK r k3).length + 1 ≤ 1000000 by rw [HSL.out]; omega)
          have HBAS := Lib.hid (show ∀ o, bx + 1 + 1 + 1 + 1 + 1 ≤ (Z.alloc o).heap.size from fun o => by have := HMz.out.c.lt; have h2 : (Z.alloc o).heap.size = Z.heap.size + 1 := (by simp); omega)
          go_wp2_with (at_builtin; go_loud (refine wpList_app kdP (by rfl) _ _ (by rfl) (bx + 1 + 1 + 1 + 1 + 1) _ (madeSpellsK r k3) (by rfl) (HMy.out _).o3 _ 1 1 [mkSpell k3 x] (by rfl) (HIX.out _ rfl) HLENS.out (HBAS.out _) ?_); intro v' w' ho hgr hz; obtain ⟨A6, c6, e6, -, -, -, -⟩ := OwnL.arr kdP ho; obtain ⟨m6, hm6⟩ : ∃ m6, (madeSpellsK r k3 ++ [mkSpell k3 x]).length = m6 := ⟨_, rfl⟩; rw [hm6] at e6; clear hm6; subst e6; have HMc := Lib.hid ((HMy.out _).turn3 hgr ho hz); have hpg := ((HMy.out _).p.grown hgr (fun e => by have := (own_lt HMz.out.o3 e).1; omega)); have f1 := hpg.frozen 4; have e1 := hpg.cell 4; clear ho hgr hz hpg)
          go_roundw
          case rel => exact ⟨k3 + 1, _, by go_num, by omega, by rw [HST.out]; exact HMc.out⟩
          case measure => simp [intOf]; omega
        ·have HKE3 := Lib.hid (show k3 = min n3 4 by omega)
         have hd6 : ¬ (k3 < n3 ∧ k3 < 4) := by omega
         go_upto_region 33 with fail
         go_cut [194] from 186 to 194 (fun c wx => c = .bool false ∧ wx = wr)
         case first =>
          by_cases c1 : k3 < n3
          ·have e1 : decide ((k3 : Int) < (n3 : Int)) = true := decide_eq_true (by omega)
           have e2 : decide ((k3 : Int) < 4) = false := decide_eq_false (by omega)
           go_wp2_with fail
           go_meet
           exact ⟨rfl, rfl⟩
          ·have e1 : decide ((k3 : Int) < (n3 : Int)) = false := decide_eq_false (by omega)
           go_wp2_with fail
           go_meet
           exact ⟨rfl, rfl⟩
         case rest =>
          obtain ⟨rfl, rfl⟩ := hcut
          have HSPP := Lib.hid (show (madeP r right).spells = madeSpellsK r k3 by rw [HKE3.out, ← HL3.out]; rfl)
          have HLO2 := Lib.hid (show (madeP r right).lo = lo from HLO.out)
          have HHI2 := Lib.hid (show (madeP r right).hi = hi from HHI.out)
          rw [← HSPP.out] at HM3
          clear hd6 hkm3 hk3 raw4 hm3
          obtain ⟨A2v, c2c, hv2, -, -, -, -⟩ := OwnL.arr kdS HM3.out.o2
          obtain ⟨A3v, c3c, hv3, -, -, -, -⟩ := OwnL.arr kdP HM3.out.o3
          obtain ⟨ms, hms⟩ : ∃ n, (madeP r right).stands.length = n := ⟨_, rfl⟩
          obtain ⟨mp, hmp⟩ : ∃ n, (madeP r right).spells.length = n := ⟨_, rfl⟩
          rw [hms] at hv2
          rw [hmp] at hv3
          subst hv2 hv3
          clear hms hmp
          have a0 := HM3.out.p.cell 0
          have a1 := HM3.out.p.cell 1
          have a2 := HM3.out.p.cell 2
          have a3 := HM3.out.p.cell 3
          have a4 := HM3.out.p.cell 4
          have a5 := HM3.out.p.cell 5
          have e0 := HM3.out.c.cell 0
          have e1 := HM3.out.c.cell 1
          go_upto_region 39 with fail
          have qc0 := HM3.out.q4.cell 0
          have qc1 := HM3.out.q4.cell 1
          have qc2 := HM3.out.q4.cell 2
          have qc3 := HM3.out.q4.cell 3
          have qc4 := HM3.out.q4.cell 4
          have qc5 := HM3.out.q4.cell 5
          have qd0 := HM3.out.q5.cell 0
          have qd1 := HM3.out.q5.cell 1
          have z0 := HM3.out.q4.frozen 0
          have z1 := HM3.out.q4.frozen 1
          have z2 := HM3.out.q4.frozen 2
          have z3 := HM3.out.q4.frozen 3
          have z4 := HM3.out.q4.frozen 4
          have z5 := HM3.out.q4.frozen 5
          have z6' := HM3.out.q5.frozen 0
          have z7 := HM3.out.q5.frozen 1
          go_region
          have HPL := Lib.hid (show plw (madeP r right) (.slice D1 nN d1) (.slice A2v ms c2c) (.slice A3v mp c3c) = #[.int .i64 lo, .int .i64 hi, .slice D1 nN d1, .slice A2v ms c2c, .slice A3v mp c3c, .int .i64 (r.geese % 4)] by
           show #[Value.int .i64 (madeP r right).lo, Value.int .i64 (madeP r right).hi, _, _, _, Value.int .i64 (madeP r right).geese] = _
           rw [HLO2.out, HHI2.out]; rfl)
          have hf1 : bx + 1 < bx + 1 + 1 + 1 + 1 + 1 := by omega
          have hf2 : bx + 1 + 1 < bx + 1 + 1 + 1 + 1 + 1 := by omega
          have hf3 : bx ≤ bx + 1 := by omega
          have hf4 : bx ≤ bx + 1 + 1 := by omega
          have hf5 : bx + 1 ≠ bx + 1 + 1 := by omega
          have HF1 := Lib.hid hf1
          have HF2 := Lib.hid hf2
          have HF3 := Lib.hid hf3
          have HF4 := Lib.hid hf4
          have HF5 := Lib.hid hf5
          clear a0 a1 a2 a3 a4 a5 e0 e1 qc0 qc1 qc2 qc3 qc4 qc5 qd0 qd1 z0 z1 z2 z3 z4 z5 z6' z7 hf1 hf2 hf3 hf4 hf5
          have hb9 := (((((((((HM3.out.q4.set_ 0 (.int .i64 lo)).set_ 1 (.int .i64 hi)).set_ 2 (.slice D1 nN d1)).set_ 3 (.slice A2v ms c2c)).set_ 4 (.slice A3v mp c3c)).set_ 5 (.int .i64 (r.geese % 4))).far (p := ⟨bx + 1 + 1, 0, none⟩) HF5.out (.int .i64 (r.sown % 200))).far (p := ⟨bx + 1 + 1, 1, none⟩) HF5.out (.slice Dn nN dn))).ext ((Below.refl _ _).drew)
          have hb8 := ((((((((HM3.out.q5.far (p := ⟨bx + 1, 0, none⟩) (Ne.symm HF5.out) (.int .i64 lo)).far (p := ⟨bx + 1, 1, none⟩) (Ne.symm HF5.out) (.int .i64 hi)).far (p := ⟨bx + 1, 2, none⟩) (Ne.symm HF5.out) (.slice D1 nN d1)).far (p := ⟨bx + 1, 3, none⟩) (Ne.symm HF5.out) (.slice A2v ms c2c)).far (p := ⟨bx + 1, 4, none⟩) (Ne.symm HF5.out) (.slice A3v mp c3c)).far (p := ⟨bx + 1, 5, none⟩) (Ne.symm HF5.out) (.int .i64 (r.geese % 4))).set_ 0 (.int .i64 (r.sown % 200))).set_ 1 (.slice Dn nN dn)).ext ((Below.refl _ _).drew)
          have GF := Lib.hid (((((((((HM3.out.g.setCell (p := ⟨bx + 1, 0, none⟩) HF3.out (.int .i64 lo)).setCell (p := ⟨bx + 1, 1, none⟩) HF3.out (.int .i64 hi)).setCell (p := ⟨bx + 1, 2, none⟩) HF3.out (.slice D1 nN d1)).setCell (p := ⟨bx + 1, 3, none⟩) HF3.out (.slice A2v ms c2c)).setCell (p := ⟨bx + 1, 4, none⟩) HF3.out (.slice A3v mp c3c)).setCell (p := ⟨bx + 1, 5, none⟩) HF3.out (.int .i64 (r.geese % 4))).setCell (p := ⟨bx + 1 + 1, 0, none⟩) HF4.out (.int .i64 (r.sown % 200))).setCell (p := ⟨bx + 1 + 1, 1, none⟩) HF4.out (.slice Dn nN dn)).drew)
          have HFAN := Lib.hid ((((((((((HM3.out.on.far (p := ⟨bx + 1, 0, none⟩) HF1.out (.int .i64 lo)).far (p := ⟨bx + 1, 1, none⟩) HF1.out (.int .i64 hi)).far (p := ⟨bx + 1, 2, none⟩) HF1.out (.slice D1 nN d1)).far (p := ⟨bx + 1, 3, none⟩) HF1.out (.slice A2v ms c2c)).far (p := ⟨bx + 1, 4, none⟩) HF1.out (.slice A3v mp c3c)).far (p := ⟨bx + 1, 5, none⟩) HF1.out (.int .i64 (r.geese % 4))).far (p := ⟨bx + 1 + 1, 0, none⟩) HF2.out (.int .i64 (r.sown % 200))).far (p := ⟨bx + 1 + 1, 1, none⟩) HF2.out (.slice Dn nN dn)).ext ((Below.refl _ _).drew)).mono (show bx ≤ bx + 1 + 1 + 1 + 1 + 1 by omega))
          have O1 := Lib.hid ((((((((((HM3.out.o1.far (p := ⟨bx + 1, 0, none⟩) HF1.out (.int .i64 lo)).far (p := ⟨bx + 1, 1, none⟩) HF1.out (.int .i64 hi)).far (p := ⟨bx + 1, 2, none⟩) HF1.out (.slice D1 nN d1)).far (p := ⟨bx + 1, 3, none⟩) HF1.out (.slice A2v ms c2c)).far (p := ⟨bx + 1, 4, none⟩) HF1.out (.slice A3v mp c3c)).far (p := ⟨bx + 1, 5, none⟩) HF1.out (.int .i64 (r.geese % 4))).far (p := ⟨bx + 1 + 1, 0, none⟩) HF2.out (.int .i64 (r.sown % 200))).far (p := ⟨bx + 1 + 1, 1, none⟩) HF2.out (.slice Dn nN dn)).ext ((Below.refl _ _).drew)).mono (show bx ≤ bx + 1 + 1 + 1 + 1 + 1 by omega))
          have O2 := Lib.hid ((((((((((HM3.out.o2.far (p := ⟨bx + 1, 0, none⟩) HF1.out (.int .i64 lo)).far (p := ⟨bx + 1, 1, none⟩) HF1.out (.int .i64 hi)).far (p := ⟨bx + 1, 2, none⟩) HF1.out (.slice D1 nN d1)).far (p := ⟨bx + 1, 3, none⟩) HF1.out (.slice A2v ms c2c)).far (p := ⟨bx + 1, 4, none⟩) HF1.out (.slice A3v mp c3c)).far (p := ⟨bx + 1, 5, none⟩) HF1.out (.int .i64 (r.geese % 4))).far (p := ⟨bx + 1 + 1, 0, none⟩) HF2.out (.int .i64 (r.sown % 200))).far (p := ⟨bx + 1 + 1, 1, none⟩) HF2.out (.slice Dn nN dn)).ext ((Below.refl _ _).drew)).mono (show bx ≤ bx + 1 + 1 + 1 + 1 + 1 by omega))
          have O3 := Lib.hid ((((((((((HM3.out.o3.far (p := ⟨bx + 1, 0, none⟩) HF1.out (.int .i64 lo)).far (p := ⟨bx + 1, 1, none⟩) HF1.out (.int .i64 hi)).far (p := ⟨bx + 1, 2, none⟩) HF1.out (.slice D1 nN d1)).far (p := ⟨bx + 1, 3, none⟩) HF1.out (.slice A2v ms c2c)).far (p := ⟨bx + 1, 4, none⟩) HF1.out (.slice A3v mp c3c)).far (p := ⟨bx + 1, 5, none⟩) HF1.out (.int .i64 (r.geese % 4))).far (p := ⟨bx + 1 + 1, 0, none⟩) HF2.out (.int .i64 (r.sown % 200))).far (p := ⟨bx + 1 + 1, 1, none⟩) HF2.out (.slice Dn nN dn)).ext ((Below.refl _ _).drew)).mono (show bx ≤ bx + 1 + 1 + 1 + 1 + 1 by omega))
          obtain ⟨V, hV⟩ : ∃ V, ((((((((wc.setCell ⟨bx + 1, 0, none⟩ (.int .i64 lo)).setCell ⟨bx + 1, 1, none⟩ (.int .i64 hi)).setCell ⟨bx + 1, 2, none⟩ (.slice D1 nN d1)).setCell ⟨bx + 1, 3, none⟩ (.slice A2v ms c2c)).setCell ⟨bx + 1, 4, none⟩ (.slice A3v mp c3c)).setCell ⟨bx + 1, 5, none⟩ (.int .i64 (r.geese % 4))).setCell ⟨bx + 1 + 1, 0, none⟩ (.int .i64 (r.sown % 200))).setCell ⟨bx + 1 + 1, 1, none⟩ (.slice Dn nN dn)).drew = V := ⟨_, rfl⟩
          rw [hV] at hb9 hb8 GF HFAN O1 O2 O3 ⊢
          have t0 := hb9.cell 0
          have t1 := hb9.cell 1
          have t2 := hb9.cell 2
          have t3 := hb9.cell 3
          have t4 := hb9.cell 4
          have t5 := hb9.cell 5
          have u0 := hb8.cell 0
          have u1 := hb8.cell 1
          clear hb9 hb8 hV
          go_wp2_with fail
          rw [HBX.out]
          refine bodyPost_ret (v := .tuple #[.agg #[.int .i64 lo, .int .i64 hi, .slice D1 nN d1, .slice A2v ms c2c, .slice A3v mp c3c, .int .i64 (r.geese % 4)], .agg #[.int .i64 (r.sown % 200), .slice Dn nN dn]]) ?_ rfl ⟨⟨_, _, _, _, by rw [HPL.out], O1.out, O2.out, O3.out, HFAN.out⟩, GF.out⟩
          simp [results, Tryz.results15, go_sem, t0, t1, t2, t3, t4, t5, u0, u1]
end Go.Proofs.YtkoejeghihcmlaaGreat

namespace Go.Proofs.YtkoejeghihcmlaaGreat
open Go.RowKit Go.Shelf
/-- A plot and true numbers, as Made returns them. -/
def MadeEnd (r : Raw) (right : Bool) (w : World) (e : Ending) (w' : World) : Prop :=
 (∃ D1 d1 D2 d2 D3 d3 Dn dn m1 m2 m3 mn, m1 = (madeP r right).loads.length ∧ m2 = (madeP r right).stands.length ∧ m3 = (madeP r right).spells.length ∧ mn = (madeNums r).length ∧
  e = .returned (.tuple #[plv (madeP r right) D1 D2 D3 m1 d1 m2 d2 m3 d3, .agg #[.int .i64 (r.sown % 200), .slice Dn mn dn]]) ∧ Pa w' (madeP r right) D1 D2 D3 m1 d1 m2 d2 m3 d3 ∧ Ints w' Dn mn (madeNums r)) ∧ Below w.heap.size w w'
theorem made_call (r : Raw) (right : Bool) (A1 A2 A3 : Option Addr) (n1 c1 n2 c2 n3 c3 : Nat) (w : World) (h1 : Arr q4cells 4 w A1 n1 r.loads) (h2 : Arr q4cells 4 w A2 n2 r.stands) (h3 : Arr q4cells 4 w A3 n3 r.spells)
  (hn : n1 ≤ 9223372036854775807 ∧ n2 ≤ 9223372036854775807 ∧ n3 ≤ 9223372036854775807) (hr : RawOk r) :
  Calls Tryz.prog 15 #[.agg (rawv r A1 A2 A3 n1 c1 n2 c2 n3 c3), .bool right] w (MadeEnd r right w) := by
 refine (made_any r right A1 A2 A3 n1 c1 n2 c2 n3 c3 w h1 h2 h3 hn hr).mono ?_
 rintro e w' ⟨⟨v1, v2, v3, vn, rfl, o1, o2, o3, on⟩, hg⟩
 obtain ⟨D1, d1, e1, k1, j1, l1, -⟩ := OwnL.arr kdL o1
 obtain ⟨D2, d2, e2, k2, j2, l2, -⟩ := OwnL.arr kdS o2
 obtain ⟨D3, d3, e3, k3, j3, l3, -⟩ := OwnL.arr kdP o3
 obtain ⟨Dn, dn, e4, k4, j4, l4, -⟩ := OwnL.arr kdI on
 unfold maxLen at j1 j2 j3
 subst e1 e2 e3 e4
 exact ⟨⟨D1, d1, D2, d2, D3, d3, Dn, dn, _, _, _, _, rfl, rfl, rfl, rfl, rfl, ⟨l1, l2, l3, ⟨k1, Nat.le_trans k1 j1⟩, ⟨k2, Nat.le_trans k2 j2⟩, ⟨k3, Nat.le_trans k3 j3⟩⟩, l4⟩, hg⟩
end Go.Proofs.YtkoejeghihcmlaaGreat

namespace Go.Proofs.YtkoejeghihcmlaaGreat
open Go.RowKit Go.Shelf
/-- A variable that holds one's own integers. -/
structure Ad (bo : Nat) (W : World) (v : Value) (l : List Int) : Prop where
 b : Blk W bo 39 #[v]
 o : OwnL icells 1 3 W (bo + 1) v l
theorem Ad.ext {bo : Nat} {W W' : World} {v : Value} {l : List Int} (h : Ad bo W v l) (g : Below W.heap.size W W') : Ad bo W' v l := ⟨h.b.ext g, h.o.ext g⟩
theorem Ad.put {bo : Nat} {W W' : World} {v v' : Value} {l l' : List Int} (h : Ad bo W v l) (g : W.grownBy W' v.ownBlock) (ho : OwnL icells 1 3 W' (bo + 1) v' l') : Ad bo (W'.setCell ⟨bo, 0, none⟩ v') v' l' :=
 ⟨(h.b.grown g (fun e => by have := (own_lt h.o e).1; omega)).set_ 0 v', ho.far (p := ⟨bo, 0, none⟩) (Nat.lt_succ_self bo) _⟩
theorem Ad.below {bo : Nat} {W W' : World} {v : Value} {l : List Int} (h : Ad bo W v l) (g : W.grownBy W' v.ownBlock) (u : Value) : Below bo W (W'.setCell ⟨bo, 0, none⟩ u) :=
 ((Below.refl _ _).grown g (Nat.le_of_lt h.b.lt) (fun k e => by have := (own_lt h.o e).1; omega)).setCell (p := ⟨bo, 0, none⟩) (Nat.le_refl _) _
end Go.Proofs.YtkoejeghihcmlaaGreat

namespace Go.Proofs.YtkoejeghihcmlaaGreat
open Go.RowKit Go.Shelf
def zeroPl : Pl := ⟨0, 0, [], [], [], 0⟩
theorem Cp.nil (W : World) (B : Nat) : Cp W B zeroPl (.slice none 0 0) (.slice none 0 0) (.slice none 0 0) := ⟨OwnL.nil _ _, OwnL.nil _ _, OwnL.nil _ _, fun k e => (by cases e), fun k e => (by cases e), fun k e => (by cases e)⟩
end Go.Proofs.YtkoejeghihcmlaaGreat

namespace Go.Proofs.YtkoejeghihcmlaaGreat
open Go.RowKit Go.Shelf
theorem top_yes {p : Pl} {hour known : Int} {s : List Int} (h : askE p [hour] known = 0) (ht : Tru (lookL p known every) (lookS p known every) s) (ho : openA p hour known = 1) :
  s.getD (after (lookL p known every) hour) 0 = 0 ∧ shutB p known hour = false := by
 have hv := (open_true h ht).1 ho
 refine ⟨truly_clear h ht hv, ?_⟩
 unfold trulyV openB at hv
 cases hs : shutB p known hour with
 | false => rfl
 | true => rw [hs] at hv; simp at hv
theorem top_shut {p : Pl} {hour known : Int} (h : askE p [hour] known = 0) (hs : shutB p known hour = true) (_ho : openA p hour known ≠ 1) : openA p hour known = 0 := by
 unfold openA at *
 rw [if_pos h] at *
 have hn : (fromsP p known).any (openB p known hour) = false := by
  rw [List.any_eq_false]; intro f _
  unfold openB; rw [hs]; simp
 unfold ans at *
 rw [hn] at *
 split at _ho
 ·exact absurd rfl _ho
 ·rename_i hh; rw [if_neg hh, if_pos rfl]
theorem top_not {p : Pl} {hour known : Int} (h : askE p [hour] known = 0) (h0 : askE p [0] known = 0) (hb0 : 0 ≤ hour) (hb1 : hour ≤ 99999) (hg : 0 ≤ p.geese) (hs : shutB p known hour = false) (ho : openA p hour known ≠ 1) :
  0 < (stoodR p hour known).hi ∨ (0 < p.geese ∧ (firstR p known).lo + 24 * p.geese ≤ hour) := by
 have hr := look_rw (ask_parts h).1 (ask_parts h).2.1
 unfold openA ans at ho
 rw [if_pos h] at ho
 have hn : ¬ ((fromsP p known).any fun f => !openB p known hour f) = false := fun e => by rw [if_pos e] at ho; exact ho rfl
 rw [List.any_eq_false] at hn
 have : ∃ f ∈ fromsP p known, openB p known hour f = false := by
  apply Classical.byContradiction; intro hno
  apply hn; intro f hf hh
  exact hno ⟨f, hf, by simpa using hh⟩
 obtain ⟨f, hf, hf2⟩ := this
 by_cases hfh : f ≤ hour
 ·right
  unfold openB at hf2
  rw [hs, decide_eq_true hfh] at hf2
  simp only [Bool.not_false, Bool.and_true, Bool.true_and, Bool.or_eq_false_iff, decide_eq_false_iff_not] at hf2
  rw [firstR_of h0]
  have := (minI_spec (fromsP_ne h)).2 f hf
  dsimp only
  omega
 ·left
  have hy := hr.yes_iff hb0 hb1
  rw [stoodR_of h]
  have hlen := after_len (lookL p known every) hour
  have hb := stoodR_bd h
  rw [stoodR_of h] at hb
  have hne : ((lookS p known every).getD (after (lookL p known every) hour) zR).hi ≠ 0 := fun e => by
   exact hfh (hy.1 e f hf)
  omega
end Go.Proofs.YtkoejeghihcmlaaGreat

namespace Go.Proofs.YtkoejeghihcmlaaGreat
open Go.RowKit Go.Shelf
theorem info_partsD {e size bytes : Nat} {z : Value} (h : (Tryz.prog.info? e).map (fun i => (i.zero, i.size, i.bytes)) = some (some z, size, bytes)) :
  ∃ i, Tryz.prog.info? e = some i ∧ i.zero = some z ∧ i.size = size ∧ i.bytes = bytes := by
 cases hi : Tryz.prog.info? e with
 | none => rw [hi] at h; cases h
 | some i =>
  rw [hi] at h
  simp only [Option.map_some, Option.some.injEq, Prod.mk.injEq] at h
  exact ⟨i, rfl, h.1, h.2.1, h.2.2⟩
set_option maxRecDepth 100000 in
set_option maxHeartbeats 2000000 in
theorem growC_any (n : Nat) (w : World) (h0 : 0 < n) (hn : n ≤ 1000) :
  Calls Tryz.prog 171 #[.slice none 0 0, .int .i64 n] w fun e w' => (∃ v, e = .returned v ∧ OwnL ccells 4 87 w' w.heap.size v []) ∧ Below w.heap.size w w' := by
 obtain ⟨i0, hi0, hz0, hzs, hzb⟩ := info_partsD kdCm.hi
 have hrz : ∀ ty, (Builtin.append_ #[48, 3] ty #[.slice none 0 0, .int .i64 (n : Int)]).run Tryz.prog w =
   .ok (.slice (some ⟨w.heap.size, 0, none⟩) n (grownCap w n 0 87)) (w.drew.alloc (.cells (Builtin.zeroCells (Value.agg #[.int .i64 0, .int .i64 0, .int .i64 0, .int .i64 0]).cells n ++ Builtin.zeroCells (Value.agg #[.int .i64 0, .int .i64 0, .int .i64 0, .int .i64 0]).cells (grownCap w n 0 87 - n)) 87)) := fun ty =>
  Lib.run_append_nil_zeros w 48 3 ty 87 i0 _ .i64 .i64 kdCm.ht (by kernel_rfl) hi0 hz0 n h0 (by omega) (by omega) (by rw [hzb]; omega)
 obtain ⟨G, hG⟩ : ∃ G, G = grownCap w n 0 87 := ⟨_, rfl⟩
 have hGn : n ≤ G := by rw [hG]; exact grownCap_ge w _ _ _
 have hGm : G ≤ maxLen := by rw [hG]; exact grownCap_le_maxLen w n 0 87 (by unfold maxLen; omega)
 have hG63 : G ≤ 9223372036854775807 := by
  have := hGm
  unfold maxLen at this
  omega
 obtain ⟨ROW, hROW⟩ : ∃ ROW : Array Value, ROW = Builtin.zeroCells (Value.agg #[.int .i64 0, .int .i64 0, .int .i64 0, .int .i64 0]).cells n ++ Builtin.zeroCells (Value.agg #[.int .i64 0, .int .i64 0, .int .i64 0, .int .i64 0]).cells (G - n) := ⟨_, rfl⟩
 rw [← hG, ← hROW] at hrz
 have hRs : ROW.size = G * 4 := by
  rw [hROW]
  simp [Builtin.zeroCells, Value.cells]
  omega
 obtain ⟨W1, hW1⟩ : ∃ W1, w.drew.alloc (.cells ROW 87) = W1 := ⟨_, rfl⟩
 have hB : Blk W1 w.heap.size 87 ROW := by rw [← hW1]; exact Blk.new w.drew _ _
 have HO := Lib.hid (show OwnL ccells 4 87 W1 w.heap.size (.slice (some ⟨w.heap.size, 0, none⟩) 0 G) [] from ⟨rfl, .inr ⟨_, G, ROW, rfl, Nat.le_refl _, hB, Nat.zero_le _, hGm, hRs, by simp⟩⟩)
 have HG := Lib.hid (show Below w.heap.size w W1 by rw [← hW1]; exact (show Below w.heap.size w w.drew from (Below.refl _ _).drew).alloc (Nat.le_refl _) _)
 have hn0 : (0 : Int) < (n : Int) := by omega
 rw [hW1] at hrz
 clear hi0 hz0 hzs hzb hG hROW hRs hB hW1
 go_enter Tryz.func171, Tryz.ntmps171
 go_wp2_with (at_builtin; refine Lib.wpList_append_run _ rfl _ _ _ _ rfl _ _ rfl rfl _ _ (hrz _) ?_)
 go_ret
 exact ⟨⟨_, rfl, HO.out⟩, HG.out⟩
set_option maxRecDepth 100000 in
set_option maxHeartbeats 4000000 in
theorem concat_any (bb : Nat) (A1 A2 : Option Addr) (m1 c1 m2 c2 : Nat) (xs ys : List Cm) (w : World) (hb : Blk w bb 48 #[.slice A1 m1 c1, .slice A2 m2 c2]) (hx : Arr ccells 4 w A1 m1 xs) (hy : Arr ccells 4 w A2 m2 ys) (h0 : 0 < m1 + m2) (h1 : m1 + m2 ≤ 1000) :
  Calls Tryz.prog 89 #[.slice (some ⟨bb, 0, none⟩) 2 2] w fun e w' => (∃ v, e = .returned v ∧ OwnL ccells 4 87 w' w.heap.size v (xs ++ ys)) ∧ Below w.heap.size w w' := by
 have HX := Lib.hid hx
 have HY := Lib.hid hy
 have HB := Lib.hid hb
 have hl1 := hx.1
 have hl2 := hy.1
 have HGR := Lib.hid (show Calls Tryz.prog 171 #[.slice none 0 0, .int .i64 ((m1 : Int) + (m2 : Int))] w fun e w' => (∃ v, e = .returned v ∧ OwnL ccells 4 87 w' w.heap.size v []) ∧ Below w.heap.size w w' by have := growC_any (m1 + m2) w h0 h1; rwa [Int.natCast_add] at this)
 have d0 := hb.cell 0
 have d1 := hb.cell 1
 clear hx hy hb
 go_enter Tryz.func89, Tryz.ntmps89
 go_wp2_with fail
 go_loop [3, 11] (fun s i => ∃ k : Nat, k ≤ 2 ∧ i = .int .i64 k ∧ s = .int .i64 (if k = 0 then 0 else if k = 1 then (m1 : Int) else (m1 : Int) + m2)) (fun _ i => 2 - (intOf i).toNat)
 case atStart => exact ⟨0, by omega, rfl, rfl⟩
 case round =>
  obtain ⟨k, hk, rfl, rfl⟩ := hrel
  by_cases e0 : k = 0
  ·subst e0
   go_wp2_with fail
   go_round
   case rel => exact ⟨1, by omega, by go_num, by simp⟩
   case measure => simp [intOf]
  ·by_cases e1 : k = 1
   ·subst e1
    go_wp2_with fail
    go_round
    case rel => exact ⟨2, by omega, by go_num, by simp⟩
    case measure => simp [intOf]
   ·obtain rfl : k = 2 := by omega
    have hs : (if (2 : Nat) = 0 then (0 : Int) else if (2 : Nat) = 1 then (m1 : Int) else (m1 : Int) + m2) = (m1 : Int) + m2 := by rw [if_neg (by omega), if_neg (by omega)]
    rw [hs]
    go_wp2_with (go_at_call 171; (with_reducible refine (HGR.out).mono ?_); rintro e w' ⟨⟨v0, rfl, ho⟩, hg⟩; have HO0 := Lib.hid ho; have HG0 := Lib.hid hg; clear ho hg)
    rename World => W1
    go_loopw [6, 27] (fun v i wr => ∃ (k : Nat) (u : Value), u = v ∧ k ≤ 2 ∧ i = .int .i64 k ∧ Below w.heap.size w wr ∧ OwnL ccells 4 87 wr w.heap.size v (if k = 0 then [] else if k = 1 then xs else xs ++ ys)) (fun _ i _ => 2 - (intOf i).toNat)
    case atStart => exact ⟨0, _, rfl, by omega, rfl, HG0.out, HO0.out⟩
    case round =>
     obtain ⟨k, u, rfl, hk, rfl, hg, ho⟩ := hrel
     have HG := Lib.hid hg
     have hsz := hg.size
     have d0 := (HB.out.ext hg).cell 0
     have d1 := (HB.out.ext hg).cell 1
     have hxx := HX.out.below hg
     have hyy := HY.out.below hg
     have HXX := Lib.hid hxx
     have HYY := Lib.hid hyy
     clear hxx hyy hg
     by_cases e0 : k = 0
     ·subst e0
      have HO := Lib.hid (show OwnL ccells 4 87 wr w.heap.size u [] from ho)
      clear ho
      go_wp2_with (at_builtin; go_loud (refine wpList_app kdCm (by rfl) _ _ (by rfl) w.heap.size _ [] (by rfl) HO.out _ m1 _ xs (by rfl) HXX.out (by simp; omega) (by omega) ?_); intro v' w' ho hbw hz; have HO2 := Lib.hid ho; have HB2 := Lib.hid ((HO.out).below hbw (B := w.heap.size) (Nat.le_refl _) (by omega)); clear ho hbw hz)
      go_roundw
      case rel => exact ⟨1, _, rfl, by omega, by go_num, HG.out.trans HB2.out, HO2.out⟩
      case measure => simp [intOf]
     ·by_cases e1 : k = 1
      ·subst e1
       have HO := Lib.hid (show OwnL ccells 4 87 wr w.heap.size u xs from ho)
       clear ho
       go_wp2_with (at_builtin; go_loud (refine wpList_app kdCm (by rfl) _ _ (by rfl) w.heap.size _ xs (by rfl) HO.out _ m2 _ ys (by rfl) HYY.out (by omega) (by omega) ?_); intro v' w' ho hbw hz; have HO2 := Lib.hid ho; have HB2 := Lib.hid ((HO.out).below hbw (B := w.heap.size) (Nat.le_refl _) (by omega)); clear ho hbw hz)
       go_roundw
       case rel => exact ⟨2, _, rfl, by omega, by go_num, HG.out.trans HB2.out, HO2.out⟩
       case measure => simp [intOf]
      ·obtain rfl : k = 2 := by omega
       have HO := Lib.hid (show OwnL ccells 4 87 wr w.heap.size u (xs ++ ys) from ho)
       clear ho
       go_wp2_with fail
       go_ret
       exact ⟨⟨_, rfl, HO.out⟩, HG.out⟩
theorem arr_dropD {α : Type} {f : α → List Value} {size : Nat} {w : World} {b o n : Nat} {xs : List α} (h : Arr f size w (some ⟨b, o, none⟩) n xs) (k : Nat) : Arr f size w (some ⟨b, o + k * size, none⟩) (n - k) (xs.drop k) := by
 refine ⟨by rw [List.length_drop, h.1], fun hn => ?_⟩
 obtain ⟨b', o', e, hb, hc⟩ := h.2 (by omega)
 cases e
 refine ⟨b, o + k * size, rfl, hb, fun i x hx j u hu => ?_⟩
 rw [List.getElem?_drop] at hx
 have := hc (k + i) x hx j u hu
 rw [Nat.add_mul] at this
 rw [show o + k * size + i * size + j = o + (k * size + i * size) + j by omega]
 exact this
/-- the claims in the turn of a day -/
def turnL (l : List Cm) (day : Int) : List Cm := l.drop (day.toNat % l.length) ++ l.take (day.toNat % l.length)
set_option maxRecDepth 100000 in
set_option maxHeartbeats 4000000 in
theorem turn_any (g : Gd) (A1 A2 A3 : Option Addr) (n1 c1 n2 c2 n3 c3 : Nat) (l : List Cm) (day : Int) (w : World) (hg : Ga w g A1 A2 n1 c1 n2 c2) (ho : OkG g) (hl : Sl ccells 4 w A3 n3 c3 l) (hol : OkL g l) (hd0 : 0 ≤ day) (hd1 : day ≤ 4166) :
  Calls Tryz.prog 24 #[gv A1 A2 n1 c1 n2 c2, .slice A3 n3 c3, .int .i64 day] w fun e w' => (∃ v, e = .returned (.tuple #[v, .int .i64 0]) ∧ OwnL ccells 4 87 w' w.heap.size v (turnL l day)) ∧ Below w.heap.size w w' := by
 obtain ⟨W1, hW1⟩ : ∃ X, w.alloc (.cells #[.slice A1 n1 c1, .slice A2 n2 c2] 47) = X := ⟨_, rfl⟩
 have GW1 := Lib.hid (show Below w.heap.size w W1 by rw [← hW1]; exact one_more _ _)
 have BW1_0 := Lib.hid (show Blk W1 (w.heap.size) 47 #[.slice A1 n1 c1, .slice A2 n2 c2] by
  rw [← hW1]
  have := Blk.new w 47 #[.slice A1 n1 c1, .slice A2 n2 c2]
  (try simp only [World.size_alloc] at this)
  exact this)
 have HW1 := Lib.hid hW1
 clear hW1
 have HCC := Lib.hid (checkClaims_any g A1 A2 A3 n1 c1 n2 c2 n3 c3 l W1 (hg.below GW1.out) ho (hl.below GW1.out) hol)
 have hlen : l.length = n3 := hl.1.1
 have hc3 := hl.2.1
 have hc3' := hl.2.2
 have hn12 : 1 ≤ n3 ∧ n3 ≤ 12 := by have := hol.n; omega
 obtain ⟨hn121, hn122⟩ := hn12
 obtain ⟨d, rfl⟩ : ∃ d : Nat, (d : Int) = day := ⟨day.toNat, by omega⟩
 have HL := Lib.hid (hl.1.below GW1.out)
 obtain ⟨k, hk⟩ : ∃ k, d % n3 = k := ⟨_, rfl⟩
 have hkn : k < n3 := by rw [← hk]; exact Nat.mod_lt _ (by omega)
 have HT := Lib.hid (show turnL l (d : Int) = l.drop k ++ l.take k by unfold turnL; rw [hlen, ← hk]; rfl)
 have hmod : ((d : Int).tmod (n3 : Int)) = k := by rw [Int.tmod_eq_emod_of_nonneg (by omega), ← hk]; omega
 have d0 := BW1_0.out.cell 0
 have d1 := BW1_0.out.cell 1
 have hn0 : ¬ ((n3 : Int) = 0) := by omega
 have hk3 : (k : Int) ≤ n3 := by omega
 have hwk : IntKind.i64.wrap (k : Int) = k := by rw [IntKind.wrap_i64]; omega
 clear hg ho hl hol hk
 go_enter Tryz.func24, Tryz.ntmps24
 go_upto_region 1 with fail
 rw [HW1.out]
 go_wp2_with (first
  | (go_at_call 87; (with_reducible refine (HCC.out).mono ?_); rintro e V ⟨rfl, hgv⟩; have GV := Lib.hid hgv; clear hgv)
  | (go_at_call 88; (with_reducible refine (withinT (by omega) (by omega) _).mono ?_); rintro e V ⟨rfl, rfl⟩))
 rename World => V1
 obtain ⟨b3, o3, rfl, -, -, -⟩ := c_at HL.out (show 0 < n3 by omega)
 have hkc : (k : Int) ≤ c3 := by omega
 have hnc : (n3 : Int) ≤ c3 := by omega
 refine wp_region_calm_tail V1 6 (by kernel_rfl) (by kernel_rfl) (Below.refl _ _) ?_
 simp only [List.take_succ_cons, List.take_zero, List.drop_succ_cons, List.drop_zero]
 repeat (go_big_quiet_step (fail))
 refine wpQuiet_nil ?_
 rintro _ ⟨z, rfl⟩
 obtain ⟨V2, hV2⟩ : ∃ V, z.val.alloc (.cells #[.slice (some ⟨b3, o3 + k * 4, none⟩) (n3 - k) (c3 - k), .slice (some ⟨b3, o3, none⟩) k c3] 48) = V := ⟨_, rfl⟩
 have hB2 : Blk V2 z.val.heap.size 48 #[.slice (some ⟨b3, o3 + k * 4, none⟩) (n3 - k) (c3 - k), .slice (some ⟨b3, o3, none⟩) k c3] := by rw [← hV2]; exact Blk.new _ _ _
 have G2 : Below V1.heap.size V1 V2 := z.ok.trans ((show Below z.val.heap.size z.val V2 by rw [← hV2]; exact one_more _ _).mono z.ok.size)
 have hz2 : V2.heap.size = z.val.heap.size + 1 := by rw [← hV2]; simp
 have HG2 := Lib.hid (GV.out.trans (G2.mono GV.out.size))
 have hll := HL.out.below HG2.out
 have HCT := Lib.hid (concat_any z.val.heap.size _ _ (n3 - k) (c3 - k) k c3 _ _ V2 hB2 (arr_dropD hll k) (hll.take (by omega)) (by omega) (by omega))
 clear hB2 G2 hz2 hll d0 d1
 have HV2 := Lib.hid hV2
 have G1s := GW1.out.size
 have G2s := HG2.out.size
 clear hV2
 go_wp2_with (go_at_call 89; rw [HV2.out]; (with_reducible refine (HCT.out).mono ?_); rintro e V3 ⟨⟨v, rfl, ho⟩, hg⟩; have HO := Lib.hid ho; have G3 := Lib.hid hg; clear ho hg)
 go_ret2
 exact ⟨⟨_, rfl, by rw [HT.out]; exact HO.out.mono (Nat.le_trans G1s G2s)⟩, GW1.out.trans ((HG2.out.trans (G3.out.mono HG2.out.size)).mono GW1.out.size)⟩
/-- a ground and its claims, parted -/
structure Pt (w : World) (b : Nat) (g : Gd) (l : List Cm) (A1 A2 A3 : Option Addr) (n1 c1 n2 c2 n3 c3 : Nat) : Prop where
 b : Blk w b 170 #[.slice A1 n1 c1, .slice A2 n2 c2, .slice A3 n3 c3]
 g : Ga w g A1 A2 n1 c1 n2 c2
 l : Sl ccells 4 w A3 n3 c3 l
theorem Pt.below {w w' : World} {b : Nat} {g : Gd} {l : List Cm} {A1 A2 A3 : Option Addr} {n1 c1 n2 c2 n3 c3 : Nat} (h : Pt w b g l A1 A2 A3 n1 c1 n2 c2 n3 c3) (hb : Below w.heap.size w w') : Pt w' b g l A1 A2 A3 n1 c1 n2 c2 n3 c3 := ⟨h.b.ext hb, h.g.below hb, h.l.below hb⟩
set_option maxRecDepth 100000 in
set_option maxHeartbeats 2000000 in
theorem lookD_any (g : Gd) (A1 A2 A3 : Option Addr) (n1 c1 n2 c2 n3 c3 : Nat) (l : List Cm) (w : World) (hg : Ga w g A1 A2 n1 c1 n2 c2) (ho : OkG g) (hl : Sl ccells 4 w A3 n3 c3 l) (hol : OkL g l) :
  Calls Tryz.prog 90 #[gv A1 A2 n1 c1 n2 c2, .slice A3 n3 c3] w fun e w' => (∃ b, e = .returned (.tuple #[.pointer (some ⟨b, 0, none⟩), .int .i64 0]) ∧ w.heap.size ≤ b ∧ Pt w' b g l A1 A2 A3 n1 c1 n2 c2 n3 c3) ∧ Below w.heap.size w w' := by
 obtain ⟨W1, hW1⟩ : ∃ X, w.alloc (.cells #[.slice A1 n1 c1, .slice A2 n2 c2] 47) = X := ⟨_, rfl⟩
 have GW1 := Lib.hid (show Below w.heap.size w W1 by rw [← hW1]; exact one_more _ _)
 have BW1_0 := Lib.hid (show Blk W1 (w.heap.size) 47 #[.slice A1 n1 c1, .slice A2 n2 c2] by
  rw [← hW1]
  have := Blk.new w 47 #[.slice A1 n1 c1, .slice A2 n2 c2]
  (try simp only [World.size_alloc] at this)
  exact this)
 have HW1 := Lib.hid hW1
 clear hW1
 have HGA := Lib.hid (hg.below GW1.out)
 have HLA := Lib.hid (hl.below GW1.out)
 have HCC := Lib.hid (checkClaims_any g A1 A2 A3 n1 c1 n2 c2 n3 c3 l W1 HGA.out ho HLA.out hol)
 have d0 := BW1_0.out.cell 0
 have d1 := BW1_0.out.cell 1
 clear hg ho hl hol
 go_enter Tryz.func90, Tryz.ntmps90
 go_upto_region 1 with fail
 rw [HW1.out]
 go_upto_region 4 with (go_at_call 87; (with_reducible refine (HCC.out).mono ?_); rintro e V ⟨rfl, hgv⟩; have GV := Lib.hid hgv; clear hgv)
 rename World => V1
 have e0 := (BW1_0.out.ext GV.out).cell 0
 have e1 := (BW1_0.out.ext GV.out).cell 1
 clear d0 d1
 obtain ⟨W2, hW2⟩ : ∃ X, V1.alloc (.cells #[.slice A1 n1 c1, .slice A2 n2 c2, .slice A3 n3 c3] 170) = X := ⟨_, rfl⟩
 have GW2 := Lib.hid (show Below V1.heap.size V1 W2 by rw [← hW2]; exact one_more _ _)
 have BW2_0 := Lib.hid (show Blk W2 (V1.heap.size) 170 #[.slice A1 n1 c1, .slice A2 n2 c2, .slice A3 n3 c3] by
  rw [← hW2]
  have := Blk.new V1 170 #[.slice A1 n1 c1, .slice A2 n2 c2, .slice A3 n3 c3]
  (try simp only [World.size_alloc] at this)
  exact this)
 have HW2 := Lib.hid hW2
 clear hW2
 have HPT := Lib.hid (show Pt W2 V1.heap.size g l A1 A2 A3 n1 c1 n2 c2 n3 c3 from ⟨BW2_0.out, (HGA.out.below GV.out).below GW2.out, (HLA.out.below GV.out).below GW2.out⟩)
 have GX := Lib.hid (GW1.out.trans ((GV.out.trans (GW2.out.mono GV.out.size)).mono GW1.out.size))
 have hs := (GW1.out.trans (GV.out.mono GW1.out.size)).size
 go_wp2_with fail
 rw [HW2.out]
 go_ret2
 exact ⟨⟨_, rfl, hs, HPT.out⟩, GX.out⟩
theorem drop_cat {l : List Cm} {k : Nat} (h : k < l.length) : l.drop k = cat l k :: l.drop (k + 1) := by
 have e := cat_get h
 rw [List.getElem?_eq_getElem h] at e
 injection e with e
 rw [List.drop_eq_getElem_cons h, e]
theorem drop_dat {l : List (Int × Int)} {k : Nat} (h : k < l.length) : l.drop k = dat l k :: l.drop (k + 1) := by
 have e : dat l k = l[k] := dat_of (List.getElem?_eq_getElem h)
 rw [List.drop_eq_getElem_cons h, e]
theorem shr_cons (c : Cm) (l : List Cm) (d : Int × Int) (ds : List (Int × Int)) (last : Int) : shr (c :: l) (d :: ds) last = (decide (c.lo ≤ d.1 ∧ d.1 ≤ d.2 ∧ d.2 ≤ c.hi ∧ last < d.1) && shr l ds d.2) := rfl
set_option maxRecDepth 100000 in
set_option maxHeartbeats 4000000 in
theorem isSharing_any (b : Nat) (g : Gd) (l : List Cm) (A1 A2 A3 : Option Addr) (n1 c1 n2 c2 n3 c3 : Nat) (D : Option Addr) (m cd : Nat) (ds : List (Int × Int)) (w : World) (hp : Pt w b g l A1 A2 A3 n1 c1 n2 c2 n3 c3) (hd : Arr dcells 2 w D m ds) (h12 : n3 ≤ 1000) (hm : m ≤ 1000000) :
  Calls Tryz.prog 96 #[.pointer (some ⟨b, 0, none⟩), .slice D m cd] w fun e w' => e = .returned (.bool (shr l ds (-1))) ∧ Below w.heap.size w w' := by
 have HP := Lib.hid hp
 have HD := Lib.hid hd
 have hll := hp.l.1.1
 have hdl := hd.1
 have d2 := hp.b.cell 2
 clear hp hd
 by_cases hmn : m = n3
 ·subst hmn
  go_enter Tryz.func96, Tryz.ntmps96
  go_wp2_with fail
  go_loopw [5, 19] (fun v i wr => ∃ (k : Nat) (lv : Int), k ≤ m ∧ v = .int .i64 lv ∧ i = .int .i64 k ∧ Below w.heap.size w wr ∧ shr l ds (-1) = shr (l.drop k) (ds.drop k) lv) (fun _ i _ => m - (intOf i).toNat)
  case atStart => exact ⟨0, -1, Nat.zero_le _, rfl, rfl, Below.refl _ _, rfl⟩
  case round =>
   obtain ⟨k, lv, hk, rfl, rfl, hg, hsh⟩ := hrel
   have HG := Lib.hid hg
   have HSH := Lib.hid hsh
   by_cases hkn : k < m
   ·obtain ⟨b1, o1, e1, -, -, hc1⟩ := d_at (HD.out.below hg) hkn
    obtain ⟨x0, x1⟩ := hc1 _ (Below.refl _ _)
    obtain ⟨b0, o0, e0, -, -, hc0⟩ := c_at (HP.out.l.1.below hg) hkn
    rw [drop_cat (by omega), drop_dat (by omega), shr_cons] at hsh
    obtain ⟨x, hxe⟩ : ∃ x, dat ds k = x := ⟨_, rfl⟩
    obtain ⟨c, hce⟩ : ∃ x, cat l k = x := ⟨_, rfl⟩
    rw [hxe] at x0 x1 hsh
    rw [hce] at hc0 hsh
    have HSH := Lib.hid hsh
    obtain ⟨W2, hW2⟩ : ∃ X, wr.alloc (.cells #[.int .i64 x.1, .int .i64 x.2] 84) = X := ⟨_, rfl⟩
    have GW2 := Lib.hid (show Below wr.heap.size wr W2 by rw [← hW2]; exact one_more _ _)
    have BW2_0 := Lib.hid (show Blk W2 (wr.heap.size) 84 #[.int .i64 x.1, .int .i64 x.2] by
     rw [← hW2]
     have := Blk.new wr 84 #[.int .i64 x.1, .int .i64 x.2]
     (try simp only [World.size_alloc] at this)
     exact this)
    have HW2 := Lib.hid hW2
    clear hW2
    have y2 := (HP.out.b.ext (HG.out.trans (GW2.out.mono HG.out.size))).cell 2
    obtain ⟨y40, y41, y42, y43⟩ := hc0 _ GW2.out
    obtain ⟨W3, hW3⟩ : ∃ X, W2.alloc (.cells #[.int .i64 c.fam, .int .i64 c.hd, .int .i64 c.lo, .int .i64 c.hi] 87) = X := ⟨_, rfl⟩
    have GW3 := Lib.hid (show Below W2.heap.size W2 W3 by rw [← hW3]; exact one_more _ _)
    have BW3_0 := Lib.hid (show Blk W3 (W2.heap.size) 87 #[.int .i64 c.fam, .int .i64 c.hd, .int .i64 c.lo, .int .i64 c.hi] by
     rw [← hW3]
     have := Blk.new W2 87 #[.int .i64 c.fam, .int .i64 c.hd, .int .i64 c.lo, .int .i64 c.hi]
     (try simp only [World.size_alloc] at this)
     exact this)
    have HW3 := Lib.hid hW3
    clear hW3
    have GX := Lib.hid (HG.out.trans ((GW2.out.trans (GW3.out.mono GW2.out.size)).mono HG.out.size))
    have p0 := (BW2_0.out.ext GW3.out).cell 0
    have p1 := (BW2_0.out.ext GW3.out).cell 1
    have q2 := BW3_0.out.cell 2
    have q3 := BW3_0.out.cell 3
    subst e1
    cases e0
    clear hg hsh hc1 hc0 hxe hce d2
    go_upto_region 7 with fail
    rw [HW2.out]
    go_upto_region 8 with fail
    rw [HW3.out]
    clear x0 x1 y2 y40 y41 y42 y43
    by_cases h1 : x.1 < c.lo
    ·have HNO := Lib.hid (show shr l ds (-1) = false by rw [HSH.out, decide_eq_false (by omega)]; rfl)
     go_wp2_with fail
     go_ret
     exact ⟨ret_bool HNO.out.symm, GX.out⟩
    by_cases h2 : x.2 < x.1
    ·have HNO := Lib.hid (show shr l ds (-1) = false by rw [HSH.out, decide_eq_false (by omega)]; rfl)
     go_wp2_with fail
     go_ret
     exact ⟨ret_bool HNO.out.symm, GX.out⟩
    by_cases h3 : c.hi < x.2
    ·have HNO := Lib.hid (show shr l ds (-1) = false by rw [HSH.out, decide_eq_false (by omega)]; rfl)
     go_wp2_with fail
     go_ret
     exact ⟨ret_bool HNO.out.symm, GX.out⟩
    by_cases h4 : x.1 ≤ lv
    ·have HNO := Lib.hid (show shr l ds (-1) = false by rw [HSH.out, decide_eq_false (by omega)]; rfl)
     go_wp2_with fail
     go_ret
     exact ⟨ret_bool HNO.out.symm, GX.out⟩
    have HYS := Lib.hid (show shr l ds (-1) = shr (l.drop (k + 1)) (ds.drop (k + 1)) x.2 by rw [HSH.out, decide_eq_true (by omega)]; rfl)
    go_wp2_with fail
    go_roundw
    case rel => exact ⟨k + 1, x.2, by omega, rfl, by go_num, GX.out, HYS.out⟩
    case measure => simp [intOf]; omega
   ·obtain rfl : m = k := by omega
    have HYS := Lib.hid (show shr l ds (-1) = true by rw [hsh, List.drop_of_length_le (by omega), List.drop_of_length_le (by omega)]; rfl)
    clear hg hsh
    go_wp2_with fail
    go_ret
    exact ⟨ret_bool HYS.out.symm, HG.out⟩
 ·have hne : ((m : Int) != (n3 : Int)) = true := by simpa using (show ¬ (m : Int) = (n3 : Int) by omega)
  have HE := Lib.hid (show shr l ds (-1) = false by
   cases e : shr l ds (-1) with
   | false => rfl
   | true => have := (gns_len (ws := []) e).2; omega)
  go_enter Tryz.func96, Tryz.ntmps96
  go_wp2_with fail
  go_ret
  exact ⟨ret_bool HE.out.symm, Below.refl _ _⟩
end Go.Proofs.YtkoejeghihcmlaaGreat

namespace Go.Proofs.YtkoejeghihcmlaaGreat
open Go.RowKit Go.Shelf
theorem mod4_any (n m : Int) (w : World) (h0 : 0 < m) (h1 : m ≤ 1000000) :
  Calls Tryz.prog 73 #[.int .i64 n, .int .i64 m] w fun e w' => e = .returned (.int .i64 (n % m)) ∧ w = w' := by
 have HM := Lib.hid (tmod_mod n m)
 have b1 : -m < n.tmod m := by have := Int.lt_tmod_of_pos n h0; omega
 have b2 : n.tmod m < m := Int.tmod_lt_of_pos n h0
 have hne : (m == 0) = false := by simp; omega
 have hne2 : ¬ m = 0 := by omega
 go_enter Tryz.func73, Tryz.ntmps73
 go_wp2_with fail
 go_ret
 exact ⟨by rw [HM.out]; rfl, rfl⟩
structure T3 where
 a : Int
 b : Int
 c : Int
deriving Inhabited
def t3cells (x : T3) : List Value := [.int .i64 x.a, .int .i64 x.b, .int .i64 x.c]
/-- the numbers that a ground is made of -/
structure Gra where
 ch : List (Int × Int)
 ce : List T3
 cl : List T3
def many (n m : Nat) : Nat := if n = 0 then 1 else min n m
theorem many_lt {n m k : Nat} (hm : 1 ≤ m) : k < many n m ↔ (k < n ∧ k < m) ∨ k = 0 := by unfold many; split <;> omega
theorem many_bd {n m : Nat} (hm : 1 ≤ m) : 1 ≤ many n m ∧ many n m ≤ m := by unfold many; split <;> omega
def qAt (l : List (Int × Int)) (i : Nat) : Int × Int := l.getD i (0, 0)
def tAt (l : List T3) (i : Nat) : T3 := l.getD i ⟨0, 0, 0⟩
def mkCh (i : Nat) (q : Int × Int) : Ch := ⟨1 + (i : Int), 90 + q.1 % 20, 90 + q.1 % 20 + q.2 % 12⟩
def mkCe (n : Nat) (q : T3) : Ce := ⟨1 + q.a % (n : Int), 1 + q.b % 9, q.c % 12⟩
def mkCl (i n : Nat) (q : T3) : Cm := ⟨3 + 2 * (i : Int), 1 + q.a % 4, q.b % (n : Int), q.b % (n : Int) + q.c % ((n : Int) - q.b % (n : Int))⟩
def chs (r : Gra) (k : Nat) : List Ch := (List.range k).map fun i => mkCh i (qAt r.ch i)
def ces (r : Gra) (k : Nat) : List Ce := (List.range k).map fun i => mkCe (many r.ch.length 3) (tAt r.ce i)
def cls (r : Gra) (k : Nat) : List Cm := (List.range k).map fun i => mkCl i (many r.ce.length 10) (tAt r.cl i)
theorem chs_succ (r : Gra) (k : Nat) : chs r (k + 1) = chs r k ++ [mkCh k (qAt r.ch k)] := by unfold chs; rw [List.range_succ, List.map_append]; rfl
theorem ces_succ (r : Gra) (k : Nat) : ces r (k + 1) = ces r k ++ [mkCe (many r.ch.length 3) (tAt r.ce k)] := by unfold ces; rw [List.range_succ, List.map_append]; rfl
theorem cls_succ (r : Gra) (k : Nat) : cls r (k + 1) = cls r k ++ [mkCl k (many r.ce.length 10) (tAt r.cl k)] := by unfold cls; rw [List.range_succ, List.map_append]; rfl
theorem chs_len (r : Gra) (k : Nat) : (chs r k).length = k := by unfold chs; simp
theorem ces_len (r : Gra) (k : Nat) : (ces r k).length = k := by unfold ces; simp
theorem cls_len (r : Gra) (k : Nat) : (cls r k).length = k := by unfold cls; simp
def madeG (r : Gra) : Gd := ⟨chs r (many r.ch.length 3), ces r (many r.ce.length 10)⟩
def madeC (r : Gra) : List Cm := cls r (many r.cl.length 6)
theorem hat_chs {r : Gra} {k i : Nat} (h : i < k) : hat (chs r k) i = mkCh i (qAt r.ch i) := by
 apply hat_of
 unfold chs
 rw [List.getElem?_map, List.getElem?_range h]; rfl
theorem madeG_ok (r : Gra) : OkG (madeG r) := by
 have h1 := many_bd (n := r.ch.length) (m := 3) (by omega)
 have h2 := many_bd (n := r.ce.length) (m := 10) (by omega)
 refine ⟨?_, ?_, fun c hc => ?_, fun i hi => ?_, fun c hc => ?_, fun c hc => ?_⟩
 ·show 1 ≤ (chs r _).length ∧ (chs r _).length ≤ 6; rw [chs_len]; omega
 ·show 1 ≤ (ces r _).length ∧ (ces r _).length ≤ 24; rw [ces_len]; omega
 ·obtain ⟨i, hi, rfl⟩ := List.mem_map.1 (show c ∈ (List.range _).map _ from hc)
  have hi := List.mem_range.1 hi
  unfold mkCh okH
  dsimp only
  omega
 ·have hi : i + 1 < (chs r (many r.ch.length 3)).length := hi
  rw [chs_len] at hi
  show (hat (chs r _) i).id < (hat (chs r _) (i + 1)).id
  rw [hat_chs (by omega), hat_chs hi]
  unfold mkCh; dsimp only; omega
 ·obtain ⟨i, hi, rfl⟩ := List.mem_map.1 (show c ∈ (List.range _).map _ from hc)
  unfold mkCe okE
  dsimp only
  have := Int.emod_lt_of_pos (tAt r.ce i).a (show (0 : Int) < (many r.ch.length 3 : Nat) by omega)
  have := Int.emod_nonneg (tAt r.ce i).a (show ((many r.ch.length 3 : Nat) : Int) ≠ 0 by omega)
  omega
 ·obtain ⟨i, hi, rfl⟩ := List.mem_map.1 (show c ∈ (List.range _).map _ from hc)
  have b1 := Int.emod_lt_of_pos (tAt r.ce i).a (show (0 : Int) < (many r.ch.length 3 : Nat) by omega)
  have b2 := Int.emod_nonneg (tAt r.ce i).a (show ((many r.ch.length 3 : Nat) : Int) ≠ 0 by omega)
  refine ⟨mkCh ((tAt r.ce i).a % (many r.ch.length 3 : Nat)).toNat _, List.mem_map.2 ⟨((tAt r.ce i).a % (many r.ch.length 3 : Nat)).toNat, List.mem_range.2 (by omega), rfl⟩, ?_⟩
  unfold mkCh mkCe; dsimp only; omega
theorem madeC_ok (r : Gra) : OkL (madeG r) (madeC r) := by
 have h2 := many_bd (n := r.ce.length) (m := 10) (by omega)
 have h3 := many_bd (n := r.cl.length) (m := 6) (by omega)
 have hl : (madeG r).cells.length = many r.ce.length 10 := ces_len _ _
 refine ⟨by unfold madeC; rw [cls_len]; omega, fun c hc => ?_, ?_⟩
 ·obtain ⟨i, hi, rfl⟩ := List.mem_map.1 (show c ∈ (List.range _).map _ from hc)
  have hi := List.mem_range.1 hi
  rw [hl]
  unfold mkCl okC
  dsimp only
  have b1 := Int.emod_lt_of_pos (tAt r.cl i).b (show (0 : Int) < (many r.ce.length 10 : Nat) by omega)
  have b2 := Int.emod_nonneg (tAt r.cl i).b (show ((many r.ce.length 10 : Nat) : Int) ≠ 0 by omega)
  have b3 := Int.emod_lt_of_pos (tAt r.cl i).c (show (0 : Int) < (many r.ce.length 10 : Nat) - (tAt r.cl i).b % (many r.ce.length 10 : Nat) by omega)
  have b4 := Int.emod_nonneg (tAt r.cl i).c (show ((many r.ce.length 10 : Nat) : Int) - (tAt r.cl i).b % (many r.ce.length 10 : Nat) ≠ 0 by omega)
  omega
 ·unfold madeC cls
  rw [List.map_map]
  refine List.Pairwise.map _ ?_ List.pairwise_lt_range
  intro i j hij
  show (3 + 2 * (i : Int)) ≠ 3 + 2 * (j : Int)
  omega
end Go.Proofs.YtkoejeghihcmlaaGreat

namespace Go.Proofs.YtkoejeghihcmlaaGreat
open Go.RowKit Go.Shelf
theorem openA_vals (p : Pl) (hour known : Int) : openA p hour known = 0 ∨ openA p hour known = 1 ∨ openA p hour known = 2 := by
 unfold openA
 split
 ·unfold ans
  split
  ·exact .inr (.inl rfl)
  ·split
   ·exact .inl rfl
   ·exact .inr (.inr rfl)
 ·exact .inl rfl
end Go.Proofs.YtkoejeghihcmlaaGreat

namespace Go.Proofs.YtkoejeghihcmlaaGreat
open Go.ChangeShapes Go.WideShapes Go.ChangeAt Go.RowKit
theorem Tryz.own : ownKnob Tryz.prog.godebug = none := by kernel_rfl
theorem Tryz.laidOut : laidOutB Tryz.prog = true := by kernel_rfl
section
variable {H : Type} {enc : TypeId × Value → H} {P : Program}
/-- The arguments read behind the call as they read before. -/
theorem args_stay (hl : laidOutB P = true) {W W' : World} (hb : Below W.heap.size W W') {sp : Nat → Bool} :
  ∀ {ts : List TypeId} {vs : List Value} {ds : List (DataW H)} {ps : List MemPlace}, (ts.all fun t => P.readableRec t && decide (t < P.types.size)) = true → (∀ x ∈ ps, x.block < W.heap.size) → (∀ x ∈ ps, sp x.block = true) →
   DataW.TrodAll enc P W 0 (fun _ => true) true ts vs ds ps → DataW.TrodAll enc P W' 0 sp true ts vs ds ps
 | [], [], [], ps, _, _, _, h => h
 | t :: ts, v :: vs, d :: ds, ps, ht, hlt, hs, h => by
  obtain ⟨p, q, h1, h2, rfl⟩ := h
  simp only [List.all_cons, Bool.and_eq_true, decide_eq_true_eq] at ht
  exact ⟨p, q, WideElems.Trod_stays hl ht.1.1 ht.1.2 h1 (fun x hx => hb.same (hlt x (List.mem_append_left _ hx))) (fun x hx => hs x (List.mem_append_left _ hx)),
   args_stay hl hb ht.2 (fun x hx => hlt x (List.mem_append_right _ hx)) (fun x hx => hs x (List.mem_append_right _ hx)) h2, rfl⟩
 | [], [], _ :: _, _, _, _, _, h => h.elim
 | [], _ :: _, [], _, _, _, _, h => h.elim
 | [], _ :: _, _ :: _, _, _, _, _, h => h.elim
 | _ :: _, [], [], _, _, _, _, h => h.elim
 | _ :: _, [], _ :: _, _, _, _, _, h => h.elim
 | _ :: _, _ :: _, [], _, _, _, _, h => h.elim
/-- The end of a row: true came back; nothing that was there has turned. -/
theorem law_post {f : Func} {s : ChangeSpec} {apart fresh handsOn again : Bool} {W W' : World} {args : Array Value} {ds : List (DataW H)} {before : List MemPlace} (hl : laidOutB P = true)
  (hW : DataW.Whole enc P f.params.toList s.vars apart W args.toList ds [] before) (hA : DataW.TrodAll enc P W 0 (fun _ => true) true f.params.toList args.toList ds before) (hv : s.vars = [])
  (hrt : f.resultTypes = #[4]) (h4 : P.underlying 4 = some .bool) (hres : (s.fn H (ds ++ [])).results = [.lit (.bool true)]) (hargs : (s.fn H (ds ++ [])).args = ds) (hvars : (s.fn H (ds ++ [])).vars = [])
  (hp : (f.params.toList.all fun t => P.readableRec t && decide (t < P.types.size)) = true) (hb : Below W.heap.size W W') : s.post enc P f apart fresh handsOn again W args (.bool true) W' := by
 have hlt : ∀ p ∈ before, p.block < W.heap.size := fun p hp => hW.lt p hp
 have hA' : ∀ sp : Nat → Bool, (∀ p ∈ before, sp p.block = true) → DataW.TrodAll enc P W' 0 sp true f.params.toList args.toList (s.fn H (ds ++ [])).args before :=
  fun sp hsp => by rw [hargs]; exact args_stay hl hb hp hlt hsp hA
 have hV' : ∀ sp : Nat → Bool, DataW.TrodVars enc P W' sp s.vars (s.fn H (ds ++ [])).vars [] := fun sp => by rw [hv, hvars]; rfl
 have hR : ∀ (b : Nat) (sp : Nat → Bool) (hd : Bool), DataW.TrodAll enc P W' b sp hd f.resultTypes.toList ((Value.bool true).resultList f.resultTypes.size) (s.fn H (ds ++ [])).results [] := fun b sp hd => by
  rw [hres, hrt]; exact trodAll_mk1 (shut_bool h4 _)
 have hold : ∀ p ∈ before, (fun b => decide (b < W.heap.size)) p.block = true := fun p hp => by simpa using hlt p hp
 refine ⟨ds, [], before, [], before, [], hW, hR _ _ _, hA' _ hold, hV' _, World.keptBut_mono (fun p hp => ⟨hp, .inr (.inl hp)⟩) (hb.frame (· ∈ before)), fun _ => ?_⟩
 obtain ⟨_, _, _, _, _, hz, hn⟩ := hW
 refine ⟨?_, _, _, ([] ++ before) ++ [], ⟨[] ++ before, [], trodAll_append (hA' _ (fun _ _ => rfl)) (hR _ _ _), hV' _, rfl, ?_, ?_⟩, ?_⟩
 ·intro j t r hj hr
  exact ok_one hrt rfl (okWide_bool_mk h4 _) j t r hj hr
 ·intro b off hp
  have hin : MemPlace.cell b off ∈ before := by simpa using hp
  rw [hb.frozen (hlt _ hin)]
  exact hz b off hin
 ·intro ha
  have := hn ha
  simpa using this
 ·intro p hp _
  simpa using hp
end
theorem cells3 : Tryz.prog.cellsOf 3 = 1 := by kernel_rfl
theorem cells22 : Tryz.prog.cellsOf 22 = 1 := by kernel_rfl
theorem cells24 : Tryz.prog.cellsOf 24 = 5 := by kernel_rfl
theorem cells85 : Tryz.prog.cellsOf 85 = 2 := by kernel_rfl
theorem cells93 : Tryz.prog.cellsOf 93 = 3 := by kernel_rfl
theorem cells133 : Tryz.prog.cellsOf 133 = 4 := by kernel_rfl
section
variable {H : Type} {enc : TypeId × Value → H} {w : World} {base : Nat} {sp : Nat → Bool} {held : Bool} {fuel : Nat} {cs : List Value} {x : DataW H × List MemPlace}
theorem openInt (h : DataW.trod enc Tryz.prog w base sp held fuel 3 cs = some x) : ∃ a : Int, cs = [.int .i64 a] ∧ -9223372036854775808 ≤ a ∧ a ≤ 9223372036854775807 := by
 obtain ⟨a, ha, -, hw⟩ := DataW.trod_int Tryz.underlying3 h
 refine ⟨a, ha, ?_⟩
 have := hw
 simp [Lit.wf, IntKind.min, IntKind.max, IntKind.signed, IntKind.bits] at this
 omega
/-- A slice whose elements are known reads as a list. -/
theorem openSlice {α : Type} [Inhabited α] {f : α → List Value} {size : Nat} {t e : TypeId} (ht : Tryz.prog.underlying t = some (.slice e)) (he : Tryz.prog.cellsOf e = size) (hs : 0 < size)
  (hel : ∀ fuel cs x, DataW.trod enc Tryz.prog w base sp held fuel e cs = some x → ∃ a, cs = f a) (h : DataW.trod enc Tryz.prog w base sp held fuel t cs = some x) :
  ∃ A n c xs, cs = [.slice A n c] ∧ n ≤ c ∧ c ≤ maxLen ∧ Arr f size w A n xs := by
 rcases DataW.trod_slice ht h with ⟨h0, -⟩ | ⟨a, len, cap, elems, rest, n, -, rfl, -, hb, hl, hm, hlen, hel1, -, -⟩
 ·exact ⟨none, 0, 0, [], h0, Nat.le_refl _, Nat.zero_le _, Arr.nil_⟩
 ·have each : ∀ i, i < len → ∃ y, w.cells? base (a.add (i * size)) size = some (f y) := by
   intro i hi
   have h1 := hel1 i hi
   rw [List.getElem?_eq_getElem (by omega), he] at h1
   obtain ⟨cs', h2, h3⟩ := Option.bind_eq_some_iff.1 h1
   obtain ⟨y, rfl⟩ := hel _ _ _ h3
   exact ⟨y, h2⟩
  obtain ⟨q, hq⟩ := Go.Deep.choose_lt each
  refine ⟨some a, len, cap, (List.range len).map q, rfl, hl, hm, by simp, fun hn => ?_⟩
  obtain ⟨b, o, spot⟩ := a
  have h0 := World.cells?_some (hq 0 hn)
  have hne : ∃ c0, (f (q 0))[0]? = some c0 := ⟨_, List.getElem?_eq_getElem (by rw [h0.2.1]; exact hs)⟩
  obtain ⟨c0, hc0⟩ := hne
  have g0 := h0.2.2 0 hs
  rw [hc0] at g0
  have hspot : spot = none := by simpa [Addr.add] using World.cell?_spot g0
  subst hspot
  have hbl := World.block_lt_of_cell? w _ g0
  simp only [Nat.zero_mul, add_at, Nat.add_zero] at hbl
  refine ⟨b, o, rfl, hbl, fun k y hy j u hu => ?_⟩
  have hk : k < len := by have := (List.getElem?_eq_some_iff.1 hy).1; simpa using this
  have ey : y = q k := by rw [List.getElem?_map, List.getElem?_range hk] at hy; simpa using hy.symm
  subst ey
  have hk2 := World.cells?_some (hq k hk)
  have hj : j < size := by rw [← hk2.2.1]; exact (List.getElem?_eq_some_iff.1 hu).1
  have := hk2.2.2 j hj
  rw [add_at, add_at, hu] at this
  exact this
set_option maxRecDepth 100000 in
theorem openQ4 {cs : List Value} (h : DataW.trod enc Tryz.prog w base sp held fuel 133 cs = some x) : ∃ q : {q : Q4 // I64 q.a ∧ I64 q.b ∧ I64 q.c ∧ I64 q.d}, cs = q4cells q.val := by
 obtain ⟨xs, n, -, -, hl, hxl, hf⟩ := DataW.trod_array Tryz.underlying133 h
 rw [cells3] at hf
 rw [cells133] at hl
 match cs, hl with
 | [c0, c1, c2, c3], _ =>
  obtain ⟨a0, e0, b0⟩ := openInt ((hf 0 (by decide)).trans (List.getElem?_eq_getElem (by omega)))
  obtain ⟨a1, e1, b1⟩ := openInt ((hf 1 (by decide)).trans (List.getElem?_eq_getElem (by omega)))
  obtain ⟨a2, e2, b2⟩ := openInt ((hf 2 (by decide)).trans (List.getElem?_eq_getElem (by omega)))
  obtain ⟨a3, e3, b3⟩ := openInt ((hf 3 (by decide)).trans (List.getElem?_eq_getElem (by omega)))
  simp at e0 e1 e2 e3
  subst e0 e1 e2 e3
  exact ⟨⟨⟨a0, a1, a2, a3⟩, b0, b1, b2, b3⟩, rfl⟩
instance : Inhabited {q : Q4 // I64 q.a ∧ I64 q.b ∧ I64 q.c ∧ I64 q.d} := ⟨⟨z4, by unfold I64; decide⟩⟩
theorem Arr.vals_ {α β : Type} {f : α → List Value} {g : β → α} {size : Nat} {w : World} {A : Option Addr} {n : Nat} {xs : List β} (h : Arr (fun x => f (g x)) size w A n xs) : Arr f size w A n (xs.map g) := by
 refine ⟨by rw [List.length_map]; exact h.1, fun h0 => ?_⟩
 obtain ⟨b, o, e, hb, hc⟩ := h.2 h0
 refine ⟨b, o, e, hb, fun k y hy j u hu => ?_⟩
 rw [List.getElem?_map] at hy
 obtain ⟨z, hz, rfl⟩ := Option.map_eq_some_iff.1 hy
 exact hc k z hz j u hu
set_option maxRecDepth 100000 in
theorem openQs {cs : List Value} (h : DataW.trod enc Tryz.prog w base sp held fuel 22 cs = some x) : ∃ A n c xs, cs = [.slice A n c] ∧ n ≤ c ∧ c ≤ maxLen ∧ Arr q4cells 4 w A n xs ∧ ∀ q ∈ xs, I64 q.a ∧ I64 q.b ∧ I64 q.c ∧ I64 q.d := by
 obtain ⟨A, n, c, xs, e, h1, h2, h3⟩ := openSlice (f := fun q : {q : Q4 // I64 q.a ∧ I64 q.b ∧ I64 q.c ∧ I64 q.d} => q4cells q.val) Tryz.underlying22 cells133 (by decide) (fun _ _ _ hq => openQ4 hq) h
 refine ⟨A, n, c, xs.map Subtype.val, e, h1, h2, h3.vals_, fun q hq => ?_⟩
 obtain ⟨y, -, rfl⟩ := List.mem_map.1 hq
 exact y.property
variable {r : Reach} {b0 : Nat} {v : Value} {d : DataW H} {p : List MemPlace}
set_option maxRecDepth 100000 in
theorem openIntV (hv : Value.okWide Tryz.prog w r b0 3 v) (h : DataW.Trod enc Tryz.prog w base sp held 3 v d p) : ∃ a : Int, v = .int .i64 a ∧ -9223372036854775808 ≤ a ∧ a ≤ 9223372036854775807 := by
 obtain ⟨n, rfl, -⟩ := okWide_int Tryz.underlying3 hv
 obtain ⟨fuel, hf⟩ := h
 obtain ⟨a, e, h1⟩ := openInt hf
 simp [Value.cells] at e
 subst e
 exact ⟨n, rfl, h1⟩
end
end Go.Proofs.YtkoejeghihcmlaaGreat
