/- The field: truth. -/
import Derived.Test.YtkoejeghihcmlaaGreatWI
import Derived.Test.YtkoejeghihcmlaaGreatWL
import Derived.Test.YtkoejeghihcmlaaGreatWM
import Derived.Test.YtkoejeghihcmlaaGreatWM
import Derived.Test.YtkoejeghihcmlaaGreatWM
import Derived.Test.YtkoejeghihcmlaaGreatME
namespace Go.Proofs.YtkoejeghihcmlaaGreat
open Go.RowKit Go.Shelf
attribute [local go_sem] Oper.semAt_some

theorem own_ne39 {W : World} {B b3 : Nat} {u v : Value} {xs : List Int} (hb : Blk W b3 39 #[u]) (ho : OwnL icells 1 3 W B v xs) : v.ownBlock ≠ some b3 := fun e => by
  obtain ⟨-, -, cur, e2⟩ := own_cells ho e
  have : W.heap[b3]? = some (.cells #[u] 39 (0, 0)) := hb
  rw [this] at e2
  cases e2
theorem app_step2 {B b3 : Nat} {W w2 : World} {v v' : Value} {xs : List Int} {x : Int} (bw : Nat) (hb : Blk W b3 39 #[v]) (ho : OwnL icells 1 3 W B v xs)
    (h2 : OwnL icells 1 3 w2 B v' (xs ++ [x])) (hg : (W.alloc (.cells #[.int .i64 x] 3)).grownBy w2 v.ownBlock) : Stp B bw b3 W (w2.setCell ⟨b3, 0, none⟩ v') v' (xs ++ [x]) := by
  have hob : ∀ g, v.ownBlock = some g → B ≤ g ∧ g < W.heap.size ∧ ∃ cur, W.heap[g]? = some (.cells cur 3 (0, 0)) := fun g e => own_cells ho e
  have hne : v.ownBlock ≠ some b3 := own_ne39 hb ho
  have hb2 : Blk w2 b3 39 #[v] := (hb.alloc _).grown hg hne
  refine ⟨⟨?_, fun k hk h1 h2' h3' => ?_⟩, fun D => ⟨?_, fun k o hD hk ho' => ?_⟩, by simpa using hb2.set_ 0 v', ?_, (((Oto.refl W).below (one_more W _)).grown hg).set _ _⟩
  · have := hg.size; simp at this ⊢; omega
  · refine (Below.heap_setCell _ _ _ _ (fun e => h2' (by rw [e]))).trans ?_
    refine (hg.block k (by simp; omega) (fun e => ?_)).trans (Below.heap_alloc _ _ _ hk)
    obtain ⟨e1, -, cur, e2⟩ := hob k e.symm
    rcases h3' with h3' | h3'
    · omega
    · exact h3' _ _ e2
  · have := hg.size; simp at this ⊢; omega
  · have hkl := (Array.getElem?_eq_some_iff.1 hk).1
    have hkb : k ≠ b3 := fun e => by
      subst e
      have : W.heap[k]? = some (.cells #[v] 39 (0, 0)) := hb
      rw [this] at hk; cases hk; cases ho'
    refine (Below.heap_setCell _ _ _ _ (fun e => hkb (by rw [e]))).trans ?_
    refine ((hg.block k (by simp; omega) (fun e => ?_)).trans (Below.heap_alloc _ _ _ hkl)).trans hk
    obtain ⟨-, -, cur, e2⟩ := hob k e.symm
    rw [e2] at hk; cases hk; cases ho'
  · exact h2.apart (p := ⟨b3, 0, none⟩) (own_ne39 hb2 h2) _
theorem own_one (W : World) (x : Int) : OwnL icells 1 3 (W.alloc (.cells #[.int .i64 x] 3)) W.heap.size (.slice (some ⟨W.heap.size, 0, none⟩) 1 1) [x] :=
  own_mk icells_len rfl (Nat.le_refl _) (Blk.new _ _ _) (Nat.le_refl _) (by unfold maxLen; omega) rfl rfl
/-- What had stood after so many loads, so far. -/
def runP (sown : Int) (ns : List Int) (k : Nat) : List Int := (List.range (k + 1)).map (runK sown ns)
theorem runP_succ (sown : Int) (ns : List Int) (k : Nat) : runP sown ns (k + 1) = runP sown ns k ++ [runK sown ns (k + 1)] := by unfold runP; rw [List.range_succ, List.map_append]; rfl
theorem runP_len (sown : Int) (ns : List Int) (k : Nat) : (runP sown ns k).length = k + 1 := by unfold runP; rw [List.length_map, List.length_range]
theorem runP_at {sown : Int} {ns : List Int} {k i : Nat} (hi : i ≤ k) : (runP sown ns k).getD i 0 = runK sown ns i := by
  unfold runP
  rw [List.getD_eq_getElem?_getD, List.getElem?_map, List.getElem?_range (by omega)]
  rfl
theorem run_bd {ls : List Six} {ns : List Int} {sown : Int} (h0 : 0 ≤ sown ∧ sown ≤ 10000) (hw : ∀ i, i < ls.length → 0 ≤ (ls.getD i z6).c ∧ (ls.getD i z6).d ≤ 10000) : ∀ k, k ≤ ls.length → (∀ i, i < k → tookB ls ns i = true) → -(10000 * (k : Int)) ≤ runK sown ns k ∧ runK sown ns k ≤ 10000
  | 0, _, _ => by show -(10000 * ((0 : Nat) : Int)) ≤ sown ∧ sown ≤ 10000; omega
  | k + 1, hk, h => by
    have ih := run_bd h0 hw k (by omega) (fun i hi => h i (by omega))
    have h1 := h k (by omega)
    have h2 := hw k (by omega)
    unfold tookB at h1
    rw [rng_iff] at h1
    have e : runK sown ns (k + 1) = runK sown ns k - ns.getD k 0 := rfl
    omega
theorem Blk.drew_ {w : World} {g : Nat} {t : TypeId} {cs : Array Value} (h : Blk w g t cs) : Blk w.drew g t cs := h
/-- What truth returns. -/
def TruthEnd (p : Pl) (known sown : Int) (ns : List Int) (w : World) (e : Ending) (w' : World) : Prop :=
  (∃ v, e = .returned (.tuple #[v, .bool (truthB p known sown ns)]) ∧ (truthB p known sown ns = true → OwnL icells 1 3 w' w.heap.size v (truS p known sown ns))) ∧ Below w.heap.size w w'

set_option maxRecDepth 100000 in
set_option maxHeartbeats 16000000 in
theorem truth_any (p : Pl) (A1 A2 A3 : Option Addr) (n1 c1 n2 c2 n3 c3 pb bf : Nat) (known : Int) (A : Option Addr) (n c : Nat) (v3 : Value) (N : Option Addr) (nn cn : Nat) (ns : List Int) (sown : Int) (w : World)
    (hP : Blk w pb 38 (plb p A1 A2 A3 n1 c1 n2 c2 n3 c3)) (hp : Pa w p A1 A2 A3 n1 c1 n2 c2 n3 c3) (hok : okPl p = true) (h60 : n ≤ 100)
    (hF : Blk w bf 152 #[.pointer (some ⟨pb, 0, none⟩), .int .i64 known, .slice A n c, v3]) (ha : Arr scells 6 w A n (lookL p known every)) (hns : Ints w N nn ns)
    (hI : ∀ x ∈ ns, -9223372036854775808 ≤ x ∧ x ≤ 9223372036854775807) (hnn : nn ≤ 9223372036854775807) :
    Calls Tryz.prog 83 #[.pointer (some ⟨bf, 0, none⟩), .agg #[.int .i64 sown, .slice N nn cn]] w (TruthEnd p known sown ns w) := by
  obtain ⟨W1, hW1⟩ : ∃ W1, ((w.alloc (.cells #[.int .i64 sown, .slice N nn cn] 41)).alloc (.cells #[.slice none 0 0] 39)).alloc (.cells #[.bool false] 4) = W1 := ⟨_, rfl⟩
  have g1 : Below w.heap.size w W1 := by rw [← hW1]; exact three_more _ _ _ _
  have HB1 := Lib.hid (show Blk W1 w.heap.size 41 #[.int .i64 sown, .slice N nn cn] by rw [← hW1]; exact ((Blk.new _ _ _).alloc _).alloc _)
  have HB4 := Lib.hid (show Blk W1 (w.heap.size + 1) 39 #[.slice none 0 0] by rw [← hW1]; have := Blk.new (w.alloc (.cells #[.int .i64 sown, .slice N nn cn] 41)) 39 #[.slice none 0 0]; rw [World.size_alloc] at this; exact this.alloc _)
  have HB5 := Lib.hid (show Blk W1 (w.heap.size + 1 + 1) 4 #[.bool false] by rw [← hW1]; have := Blk.new ((w.alloc (.cells #[.int .i64 sown, .slice N nn cn] 41)).alloc (.cells #[.slice none 0 0] 39)) 4 #[.bool false]; simp only [World.size_alloc] at this; exact this)
  have hla := ha.1
  have HLN := Lib.hid hns.1
  have HLA := Lib.hid hla
  have hPs := hP.lt
  have hFs := hF.lt
  have G1 := Lib.hid g1
  have HP1 := Lib.hid (hP.ext g1)
  have HF1 := Lib.hid (hF.ext g1)
  have HPA := Lib.hid (hp.below g1)
  have HA1 := Lib.hid (ha.below g1)
  have HOK := Lib.hid hok
  have hpar := ok_parts hok
  have h260 : n2 ≤ 60 := by have := hpar.2.2.2.2.2.2.1; have := hp.l2.1; omega
  have HPH := Lib.hid (show 0 ≤ p.lo ∧ p.hi ≤ 10000 from ⟨hpar.2.2.1, hpar.2.2.2.2.1⟩)
  have HW := Lib.hid (show ∀ i, i < (lookL p known every).length → 0 ≤ ((lookL p known every).getD i z6).c ∧ ((lookL p known every).getD i z6).d ≤ 10000 from fun i hi => by
    have := lookL_num hok known every _ (getD_mem hi)
    unfold Num at this
    omega)
  have T1 := Lib.hid (numbers_any p A1 A2 A3 n1 c1 n2 c2 n3 c3 pb bf known A n c v3 N nn cn ns sown W1 (hP.ext g1) (hp.below g1) hok (by omega) (hF.ext g1) (ha.below g1) (hns.below g1) hI hnn)
  have u0 := HB1.out.cell 0
  have u1 := HB1.out.cell 1
  have HW1 := Lib.hid hW1
  have HSB := Lib.hid (show numsB p known sown ns = true → 0 ≤ sown ∧ sown ≤ 10000 from fun h => by
    unfold numsB at h
    rw [Bool.and_eq_true, rng_iff] at h
    have := HPH.out
    omega)
  have HNF := Lib.hid (show numsB p known sown ns = false → truthB p known sown ns = false from fun h => by unfold truthB; rw [h]; rfl)
  have HTF := Lib.hid (show ∀ i, i < (lookL p known every).length → tookB (lookL p known every) (numsL p known ns) i = false → truthB p known sown ns = false from fun i hi h => by
    unfold truthB
    rw [show ((List.range (lookL p known every).length).all (tookB (lookL p known every) (numsL p known ns))) = false from List.all_eq_false.2 ⟨i, List.mem_range.2 hi, by rw [h]; decide⟩, Bool.and_false]; rfl)
  have HSF := Lib.hid (show ∀ k, k < p.stands.length → standB known (lookL p known every) (truS p known sown ns) (p.stands.getD k z6) = false → truthB p known sown ns = false from fun k hk h => by
    unfold truthB
    rw [show (p.stands.all (standB known (lookL p known every) (truS p known sown ns))) = false from List.all_eq_false.2 ⟨_, getD_mem hk, by rw [h]; decide⟩, Bool.and_false]; rfl)
  have HTT := Lib.hid (show numsB p known sown ns = true → (∀ i, i < (lookL p known every).length → tookB (lookL p known every) (numsL p known ns) i = true) → (∀ k, k < p.stands.length → standB known (lookL p known every) (truS p known sown ns) (p.stands.getD k z6) = true) → truthB p known sown ns = decide (0 ≤ runK sown (numsL p known ns) (lookL p known every).length) from fun h1 h2 h3 => by
    unfold truthB
    rw [h1, List.all_eq_true.2 (fun i hi => h2 i (List.mem_range.1 hi)), List.all_eq_true.2 (fun x hx => by
      obtain ⟨i, hi, rfl⟩ := List.getElem_of_mem hx
      rw [← six_get hi]
      exact h3 i hi)]
    rfl)
  clear hP hp hF ha hns hI hok hW1 g1 hpar hla
  refine (callsIn_wide (n := 4)).1 (callsIn_of_wp_marks Tryz.func83 rfl trivial ?_ rfl)
  simp only [Tryz.ntmps83, List.size_toArray, List.length_cons, List.length_nil, Nat.reduceAdd, Nat.reduceSub, Array.replicate_succ, Array.replicate_zero, List.push_toArray, List.append_toArray, List.nil_append, List.cons_append]
  refine wpIn_wide.2 ?_
  go_upto_region 1 with fail
  rw [HW1.out]
  obtain ⟨nb, hnb⟩ : ∃ b, numsB p known sown ns = b := ⟨_, rfl⟩
  have HNB := Lib.hid hnb
  clear hnb
  cases nb with
  | false =>
    have HTF2 := Lib.hid (HNF.out HNB.out)
    go_upto_region 2 with (go_at_call 166; (with_reducible refine (T1.out).mono ?_); rintro e V2 ⟨⟨v, rfl, -, hv⟩, hg⟩; rw [HNB.out]; have hv := hv HNB.out; subst hv)
    have gx : Below W1.heap.size W1 (V2.alloc (.cells #[.slice none 0 0] 39)) := hg.trans ((one_more V2 _).mono hg.size)
    have HX4 := Lib.hid (HB4.out.ext gx)
    have HX5 := Lib.hid (HB5.out.ext gx)
    have m0 := HX4.out.cell 0
    have m1 := HX4.out.frozen 0
    have m2 := HX5.out.cell 0
    have m3 := HX5.out.frozen 0
    have GX := Lib.hid gx
    clear u0 u1 gx hg
    go_wp2_with fail
    have k4 := (HX4.out.set_ 0 (.slice none 0 0)).far (p := ⟨w.heap.size + 1 + 1, 0, none⟩) (by show w.heap.size + 1 ≠ w.heap.size + 1 + 1; omega) (.bool false)
    have k5 := (HX5.out.far (p := ⟨w.heap.size + 1, 0, none⟩) (by show w.heap.size + 1 + 1 ≠ w.heap.size + 1; omega) (.slice none 0 0)).set_ 0 (.bool false)
    have t0 := k4.cell 0
    have t1 := k5.cell 0
    refine ⟨.tuple #[.slice none 0 0, .bool false], ?_, ⟨⟨_, by rw [HTF2.out], fun h => (by rw [HTF2.out] at h; cases h)⟩, ?_⟩⟩
    · simp [results, Tryz.results83, go_sem, t0, t1]
    · exact ((G1.out.trans (GX.out.mono G1.out.size)).setCell (p := ⟨w.heap.size + 1, 0, none⟩) (by show w.heap.size ≤ w.heap.size + 1; omega) _).setCell (p := ⟨w.heap.size + 1 + 1, 0, none⟩) (by show w.heap.size ≤ w.heap.size + 1 + 1; omega) _
  | true =>
    go_upto_region 2 with (go_at_call 166; (with_reducible refine (T1.out).mono ?_); rintro e V2 ⟨⟨v, rfl, ho, -⟩, hg⟩; rw [HNB.out]; have HO := Lib.hid (ho HNB.out); clear ho; obtain ⟨D, c', hv, -, -, hin, -⟩ := OwnL.arr kdI HO.out; subst hv)
    have hls0 : (numsL p known ns).length = n := by rw [numsL_len]; exact HLA.out
    have HTS := Lib.hid (show truS p known sown ns = runP sown (numsL p known ns) n by
      have e : (numsL p known ns).length = n := hls0
      unfold truS runS runP
      rw [e])
    obtain ⟨nl, hnl⟩ : ∃ l, numsL p known ns = l := ⟨_, rfl⟩
    obtain ⟨ls, hlse⟩ : ∃ l, lookL p known every = l := ⟨_, rfl⟩
    have HSB2 := Lib.hid (HSB.out HNB.out)
    rw [hnl] at hls0 hin HTS HO ⊢
    rw [hnl, hlse] at HTF HTT
    rw [hlse] at HSF HW HLA HA1
    have HTT2 := Lib.hid (HTT.out HNB.out)
    rw [hls0] at hin ⊢
    have gx : Below W1.heap.size W1 (V2.alloc (.cells #[.slice D n c'] 39)) := hg.trans ((one_more V2 _).mono hg.size)
    obtain ⟨W2, hW2⟩ : ∃ W, V2.alloc (.cells #[.slice D n c'] 39) = W := ⟨_, rfl⟩
    have HB6 := Lib.hid (show Blk W2 V2.heap.size 39 #[.slice D n c'] by rw [← hW2]; exact Blk.new _ _ _)
    have HN2 := Lib.hid (show Ints W2 D n nl by rw [← hW2]; exact hin.below (one_more _ _))
    have HNV := Lib.hid (show ∀ b o, D = some ⟨b, o, none⟩ → 0 < n → b < V2.heap.size from fun b o e h0 => by
      obtain ⟨b', o', e', hlt, -⟩ := hin.2 h0
      rw [e] at e'; cases e'
      exact hlt)
    rw [hW2] at gx ⊢
    have G2 := Lib.hid (G1.out.trans (gx.mono G1.out.size))
    have HB12 := Lib.hid (HB1.out.ext gx)
    have HB42 := Lib.hid (HB4.out.ext gx)
    have HB52 := Lib.hid (HB5.out.ext gx)
    have HP2 := Lib.hid (HP1.out.ext gx)
    have HF2 := Lib.hid (HF1.out.ext gx)
    have HPA2 := Lib.hid (HPA.out.below gx)
    have HA2 := Lib.hid (HA1.out.below gx)
    have hv2s := hg.size
    have hb5l := HB5.out.lt
    have hb6l := HB6.out.lt
    have hfl2 := HF2.out.lt
    have hpl2 := HP2.out.lt
    have hw1s := G1.out.size
    have HLN0 := Lib.hid hls0
    clear hW2 hin hg gx hnl hlse u0 u1 hls0
    have v0 := HB12.out.cell 0
    go_upto_region 5 with fail
    obtain ⟨W3, hW3⟩ : ∃ W, (W2.alloc (.cells #[.int .i64 sown] 3)).alloc (.cells #[.slice (some ⟨W2.heap.size, 0, none⟩) 1 1] 39) = W := ⟨_, rfl⟩
    have g3 : Below W2.heap.size W2 W3 := by rw [← hW3]; exact two_more _ _ _
    have ho3 : OwnL icells 1 3 W3 W2.heap.size (.slice (some ⟨W2.heap.size, 0, none⟩) 1 1) (runP sown nl 0) := by rw [← hW3]; exact (own_one W2 sown).ext (one_more _ _)
    have hb8 : Blk W3 (W2.heap.size + 1) 39 #[.slice (some ⟨W2.heap.size, 0, none⟩) 1 1] := by rw [← hW3]; have := Blk.new (W2.alloc (.cells #[.int .i64 sown] 3)) 39 #[.slice (some ⟨W2.heap.size, 0, none⟩) 1 1]; rwa [World.size_alloc] at this
    have hs3 : W3.heap.size = W2.heap.size + 2 := by rw [← hW3]; simp
    rw [hW3]
    clear hW3 v0
    go_wp2_with fail
    refine (carted_any _ _).mono ?_
    rintro e w' ⟨rfl, hw'⟩
    have hbQ : Blk w' W3.heap.size 134 #[.pointer (some ⟨bf, 0, none⟩)] := by rw [← hw']; exact Blk.new _ _ _
    have g4 : Below W3.heap.size W3 w' := by rw [← hw']; exact one_more _ _
    have hs4 : w'.heap.size = W3.heap.size + 1 := by rw [← hw']; simp
    clear hw'
    rename World => W0
    have g5 : Below W2.heap.size W2 W0 := g3.trans (g4.mono g3.size)
    have HO0 := Lib.hid (ho3.ext g4)
    have HB80 := Lib.hid (hb8.ext g4)
    have HB10 := Lib.hid (HB12.out.ext g5)
    have HB40 := Lib.hid (HB42.out.ext g5)
    have HB50 := Lib.hid (HB52.out.ext g5)
    have HB60 := Lib.hid (HB6.out.ext g5)
    have HP0 := Lib.hid (HP2.out.ext g5)
    have HF0 := Lib.hid (HF2.out.ext g5)
    have HPA0 := Lib.hid (HPA2.out.below g5)
    have HA0 := Lib.hid (HA2.out.below g5)
    have HN0 := Lib.hid (HN2.out.below g5)
    have G0 := Lib.hid (G2.out.trans (g5.mono G2.out.size))
    have hg2s := G2.out.size
    obtain ⟨bS, hbS⟩ : ∃ b, W2.heap.size = b := ⟨_, rfl⟩
    have HQ0 := Lib.hid (show Blk W0 (bS + 2) 134 #[.pointer (some ⟨bf, 0, none⟩)] by rw [← hbS, ← hs3]; exact hbQ)
    have HAD := Lib.hid (show ∀ b o, A = some ⟨b, o, none⟩ → 0 < n → b ≠ bS + 1 ∧ b ≠ bS + 1 ∧ b < bS from fun b o e h0 => by
      obtain ⟨b', o', e', hlt, -⟩ := HA2.out.2 h0
      rw [e] at e'; cases e'
      omega)
    have HDD := Lib.hid (show ∀ b o, D = some ⟨b, o, none⟩ → 0 < n → b ≠ bS + 1 ∧ b ≠ bS + 1 ∧ b < bS from fun b o e h0 => by
      have := HNV.out b o e h0
      omega)
    have h0s : bS + 3 ≤ W0.heap.size := by omega
    have HNV0 := Lib.hid (show W2.heap.size = bS from hbS)
    rw [show W3.heap.size = bS + 2 by omega]
    rw [hbS] at HO0 HB80 hb6l hfl2 hpl2 hg2s ⊢
    obtain ⟨b6, hb6⟩ : ∃ b, V2.heap.size = b := ⟨_, rfl⟩
    rw [hb6] at HB60 hb6l hv2s ⊢
    have HSQ := Lib.hid (carted_seqP 3 W0 bS (bS + 2) bf (bS + 1) (bS + 1) A n c ls (HQ0.out.cell 0) (HF0.out.cell 2) HA0.out (by omega) HAD.out)
    clear g3 g4 g5 ho3 hb8 hs3 hs4 hbQ hbS hb6
    go_wp2_with fail
    refine (wpIn_wide (n := 4)).1 ?_
    refine wp_rangeP (α := Cx n) (n := 4) (by omega) (gf := 202) (lb := #[.pointer (some ⟨bS + 2, 0, none⟩)]) rfl (enters_of Tryz.func202 (by kernel_rfl) rfl) HSQ.out (Below.refl _ _) (fun _ => rfl)
      (fun pre W => FixU bS (bS + 1) (bS + 1) W0 W ∧ (∃ v, Blk W (bS + 1) 39 #[v] ∧ OwnL icells 1 3 W bS v (runP sown nl pre.length)) ∧ (∀ i, i < pre.length → tookB ls nl i = true) ∧ Oto W0 W)
      (fun cc _ W => cc = .ret ∧ Below w.heap.size w W ∧ Blk W (w.heap.size + 1) 39 #[.slice none 0 0] ∧ Blk W (w.heap.size + 1 + 1) 4 #[.bool false] ∧ ∃ i, i < ls.length ∧ tookB ls nl i = false) ?hI ?hIx ?h0
      (fun x a' W => ∃ Bx, W0.heap.size ≤ Bx ∧ Blk W Bx 103 #[.int .i64 (ls.getD x.1 z6).a, .int .i64 (ls.getD x.1 z6).b, .int .i64 (ls.getD x.1 z6).c, .int .i64 (ls.getD x.1 z6).d, .int .i64 (ls.getD x.1 z6).e, .int .i64 (ls.getD x.1 z6).f] ∧
        a' = (?F : Cx n → Nat → Act) x Bx) ?hAx ?assign ?body ?done ?stop
    case assign =>
      rintro l pre x W K ⟨hfx, ⟨v, hbo, ho⟩, htk, hto⟩ hK
      unfold encC
      gi_wp2
      refine hK _ _ ((KeepsOthers.alloc _ _).from _) (FixU.of_below (one_more _ _)) ⟨hfx.trans (FixU.of_below (one_more _ _)), ⟨v, hbo.alloc _, ho.ext (one_more _ _)⟩, htk, hto.below (one_more _ _)⟩ ⟨W.heap.size, hfx.size, Blk.new _ _ _, ?_⟩
      generalize W.heap.size = B
      rfl
    case hI =>
      rintro pre X Y row ⟨hfx, ⟨v, hbo, ho⟩, htk, hto⟩ hg hr
      have hr1 : ∀ r, row = some r → ∃ o : Obj, X.heap[r]? = some o ∧ o.isCells = false := fun r e => (hr r e).2
      exact ⟨(FixU.own (α := Nat) (Nat.le_refl _)) [] _ _ _ hfx hg hr, ⟨v, hbo.own hg hr1, ho.held hg hr1⟩, htk, hto.grown hg⟩
    case hIx =>
      rintro cc pre X Y row ⟨h1, h2, h3, h4, h5⟩ hg hr
      have hr1 : ∀ r, row = some r → ∃ o : Obj, X.heap[r]? = some o ∧ o.isCells = false := fun r e => (hr r e).2
      exact ⟨h1, h2.grown hg (by have := h2.size; omega) (fun k hk => by have := (hr k hk).1; omega), h3.own hg hr1, h4.own hg hr1, h5⟩
    case h0 => exact ⟨FixU.refl _ _ _ _, ⟨_, HB80.out, HO0.out⟩, fun i hi => absurd hi (Nat.not_lt_zero _), Oto.refl _⟩
    case hAx =>
      rintro x a' _ X Y row ⟨Bx, h1, h2, h3⟩ hg hr
      exact ⟨Bx, h1, h2.own hg (fun r e => (hr r e).2), h3⟩
    case body =>
      rintro l pre x a' W hl - ⟨hfx, ⟨v, hbo, ho⟩, htk, hto⟩ ⟨Bx, hBx, hB, rfl⟩ hpl hG
      have hXs := hfx.size
      obtain ⟨xi, hxi⟩ : ∃ xi, x.1 = xi := ⟨_, rfl⟩
      have hxn : xi < n := by rw [← hxi]; exact x.2
      rw [hxi] at hB hG ⊢
      have HPN := Lib.hid (show (pre ++ [x]).length = xi + 1 by rw [List.length_append, List.length_singleton, hG])
      rw [← hG] at ho htk
      obtain ⟨y, hy⟩ : ∃ y, ls.getD xi z6 = y := ⟨_, rfl⟩
      have HTK := Lib.hid htk
      have HTB := Lib.hid (show tookB ls nl xi = rng (nl.getD xi 0) y.c y.d by unfold tookB; rw [hy])
      have hwx := HW.out xi (by rw [HLA.out]; exact hxn)
      have HRB := Lib.hid (run_bd (ns := nl) HSB2.out HW.out xi (by rw [HLA.out]; omega) htk)
      have HRS := Lib.hid (show runK sown nl (xi + 1) = runK sown nl xi - nl.getD xi 0 from rfl)
      have HRP := Lib.hid (runP_succ sown nl xi)
      have HRA := Lib.hid (runP_at (sown := sown) (ns := nl) (k := xi) (i := xi) (Nat.le_refl _))
      rw [hy] at hB hwx
      obtain ⟨b9, o9, e9, -, -, hc9⟩ := ints_at (hfx.arr HN0.out HDD.out) hxn
      obtain ⟨nv, hnv⟩ : ∃ v, nl.getD xi 0 = v := ⟨_, rfl⟩
      rw [hnv] at hc9 HTB HRS
      have HB6W := Lib.hid (hfx.blk HB60.out (by omega) (by omega) (.inr (by decide)))
      obtain ⟨Av, cv, hve, -, -, hvi, -⟩ := OwnL.arr kdI ho
      rw [runP_len] at hve hvi
      subst hve
      obtain ⟨b7, o7, e7, -, -, hc7⟩ := ints_at hvi (show xi < xi + 1 by omega)
      rw [HRA.out] at hc7
      obtain ⟨rk, hrk⟩ : ∃ v, runK sown nl xi = v := ⟨_, rfl⟩
      rw [hrk] at hc7 HRS HRB
      obtain ⟨pv, hpv⟩ : ∃ l, runP sown nl xi = l := ⟨_, rfl⟩
      have HPL := Lib.hid (show pv.length + 1 ≤ 1000000 by rw [← hpv, runP_len]; omega)
      rw [hpv] at ho HRP
      have HFX := Lib.hid hfx
      have HBO := Lib.hid hbo
      have HO9 := Lib.hid ho
      have HTO := Lib.hid hto
      have HBX := Lib.hid hB
      have HGW := Lib.hid (show Below w.heap.size w W from G0.out.trans (hfx.below (D := w.heap.size) hto (by omega) (by omega) (by omega) (by omega)))
      have HB4W := Lib.hid (hfx.blk HB40.out (by omega) (by omega) (.inr (by decide)))
      have HB5W := Lib.hid (hfx.blk HB50.out (by omega) (by omega) (.inr (by decide)))
      obtain ⟨rv, hrv⟩ : ∃ b, rng nv y.c y.d = b := ⟨_, rfl⟩
      have TW := fun V => within_any nv y.c y.d V
      rw [hrv] at TW HTB
      have HTW := Lib.hid TW
      have HRV := Lib.hid hrv
      have u0 := cellW (HB6W.out.cell 0)
      have u1 := cellW (hc9 W (Below.refl _ _))
      have u2 := cellW (HBX.out.cell 2)
      have u3 := cellW (HBX.out.cell 3)
      have HC9 := Lib.hid hc9
      have HC7 := Lib.hid hc7
      have HTM := Lib.hid (fun (V : World) (g : Below W.heap.size W V) => (⟨g.size, fun k o _ hk _ => (g.block k (Array.getElem?_eq_some_iff.1 hk).1).trans hk⟩ : KeepsFrom W0.heap.size W V))
      subst e9 e7
      clear hy hG hxi htk hnv hrk hpv hfx hbo ho hto hB hvi hrv TW hc9 hc7
      have hxi1 : (xi : Int) < (xi : Int) + 1 := by omega
      have hxi2 : (xi : Int) < (n : Int) := by omega
      gi_wp2_with fail
      refine wpIn_region_quiet (Open.round l) (C := fun w' => ∃ x : Wd W, w' = x.val) (by kernel_rfl) (by kernel_rfl) (by kernel_rfl) (Wd.of (Below.refl _ _).drew) ?_
      repeat (go_big_quiet_step (first | (go_at_call 145; exact callsCalmSame (HTW.out _))))
      refine wpQuiet_nil ?_
      rintro _ ⟨z, rfl⟩
      clear u0 u1 u2 u3
      have GZ := Lib.hid z.ok
      obtain ⟨Z, hZ⟩ : ∃ Z, z.val = Z := ⟨_, rfl⟩
      rw [hZ] at GZ ⊢
      clear hZ z
      have hzs := GZ.out.size
      cases rv with
      | false =>
        have k4 := HB4W.out.ext GZ.out
        have k5 := HB5W.out.ext GZ.out
        have m0 := k4.cell 0
        have m1 := k4.frozen 0
        have m2 := k5.cell 0
        have m3 := k5.frozen 0
        have K4 := Lib.hid k4
        have K5 := Lib.hid k5
        have hb5w := k5.lt
        clear k4 k5
        gi_wp2_with fail
        refine ⟨(HTM.out _ GZ.out).trans (((KeepsOthers.setCell _ _ _).from _).trans ((KeepsOthers.setCell _ _ _).from _)), rfl, ?_, ?_, ?_, xi, by rw [HLA.out]; exact hxn, HTB.out⟩
        · exact ((HGW.out.trans (GZ.out.mono HGW.out.size)).setCell (p := ⟨w.heap.size + 1, 0, none⟩) (by show w.heap.size ≤ w.heap.size + 1; omega) _).setCell (p := ⟨w.heap.size + 1 + 1, 0, none⟩) (by show w.heap.size ≤ w.heap.size + 1 + 1; omega) _
        · exact (K4.out.set_ 0 (.slice none 0 0)).far (p := ⟨w.heap.size + 1 + 1, 0, none⟩) (by show w.heap.size + 1 ≠ w.heap.size + 1 + 1; omega) (.bool false)
        · exact (K5.out.far (p := ⟨w.heap.size + 1, 0, none⟩) (by show w.heap.size + 1 + 1 ≠ w.heap.size + 1; omega) (.slice none 0 0)).set_ 0 (.bool false)
      | true =>
        have hrb := rng_iff.1 HRV.out
        have hrk := HRB.out
        have HBOZ := Lib.hid (HBO.out.ext GZ.out)
        have HOZ := Lib.hid (HO9.out.ext GZ.out)
        have u0 := HBOZ.out.cell 0
        have u1 := HC9.out Z GZ.out
        have u2 := (HB6W.out.ext GZ.out).cell 0
        have u3 := HC7.out Z GZ.out
        have HOX := Lib.hid (HOZ.out.ext (one_more Z (.cells #[.int .i64 (rk - nv)] 3)))
        have HI1 := Lib.hid (one_int (Blk.new Z 3 #[.int .i64 (rk - nv)]))
        have HOB := Lib.hid (own_ne39 HBOZ.out HOZ.out)
        have hwr : IntKind.i64.wrap (rk - nv) = rk - nv := by rw [IntKind.wrap_i64]; omega
        gi_wp2_with fail
        refine wpIn_region_upto (S := fun V => V.cell? ⟨bS + 1, 0, none⟩ = some (.slice (some ⟨b7, o7, none⟩) (xi + 1) cv) ∧ V.cell? ⟨b9, o9 + xi, none⟩ = some (.int .i64 nv) ∧ V.cell? ⟨b6, 0, none⟩ = some (.slice (some ⟨b9, o9, none⟩) n c') ∧ V.cell? ⟨b7, o7 + xi, none⟩ = some (.int .i64 rk)) 11 (by kernel_rfl) (by kernel_rfl) (⟨u0, u1, u2, u3⟩) (fun hHeld => ?_)
        (refine upto_take [11] (i := 0) (oi := ⟨_, _, _, _, _, _⟩) (d := some 40) (v := ?_) rfl rfl (by kernel_rfl) (by kernel_rfl) (fun _ _ _ h => h) (by rfl) ?_ (by assumption) ?_; rotate_left; (focus (intro w hSw; (try dsimp only at hSw); go_simp; try with_reducible rfl)); (try simp only [Act.put, List.setIfInBounds_toArray, List.set_cons_zero, List.set_cons_succ]))
        (refine upto_take [3, 4, 9, 10, 11] (i := 1) (oi := ⟨_, _, _, _, _, _⟩) (d := some 41) (v := ?_) rfl rfl (by kernel_rfl) (by kernel_rfl) (fun _ _ _ h => h) (by rfl) ?_ (by assumption) ?_; rotate_left; (focus (intro w hSw; (try dsimp only at hSw); go_simp; try with_reducible rfl)); (try simp only [Act.put, List.setIfInBounds_toArray, List.set_cons_zero, List.set_cons_succ]))
        (refine upto_take [3, 4, 9, 10, 11] (i := 2) (oi := ⟨_, _, _, _, _, _⟩) (d := some 42) (v := ?_) rfl rfl (by kernel_rfl) (by kernel_rfl) (fun _ _ _ h => h) (by rfl) ?_ (by assumption) ?_; rotate_left; (focus (intro w hSw; (try dsimp only at hSw); go_simp; try with_reducible rfl)); (try simp only [Act.put, List.setIfInBounds_toArray, List.set_cons_zero, List.set_cons_succ]))
        (refine upto_take [4, 9, 10, 11] (i := 3) (oi := ⟨_, _, _, _, _, _⟩) (d := some 43) (v := ?_) rfl rfl (by kernel_rfl) (by kernel_rfl) (fun _ _ _ h => h) (by rfl) ?_ (by assumption) ?_; rotate_left; (focus (intro w hSw; (try dsimp only at hSw); go_simp; try with_reducible rfl)); (try simp only [Act.put, List.setIfInBounds_toArray, List.set_cons_zero, List.set_cons_succ]))
        (refine upto_take [9, 10, 11] (i := 4) (oi := ⟨_, _, _, _, _, _⟩) (d := some 44) (v := ?_) rfl rfl (by kernel_rfl) (by kernel_rfl) (fun _ _ _ h => h) (by rfl) ?_ (by assumption) ?_; rotate_left; (focus (intro w hSw; (try dsimp only at hSw); go_simp; try with_reducible rfl)); (try simp only [Act.put, List.setIfInBounds_toArray, List.set_cons_zero, List.set_cons_succ]))
        (refine upto_take [7, 8, 9, 10, 11] (i := 5) (oi := ⟨_, _, _, _, _, _⟩) (d := some 45) (v := ?_) rfl rfl (by kernel_rfl) (by kernel_rfl) (fun _ _ _ h => h) (by rfl) ?_ (by assumption) ?_; rotate_left; (focus (intro w hSw; (try dsimp only at hSw); go_simp; try with_reducible rfl)); (try simp only [Act.put, List.setIfInBounds_toArray, List.set_cons_zero, List.set_cons_succ]))
        (refine upto_take [7, 8, 9, 10, 11] (i := 6) (oi := ⟨_, _, _, _, _, _⟩) (d := some 46) (v := ?_) rfl rfl (by kernel_rfl) (by kernel_rfl) (fun _ _ _ h => h) (by rfl) ?_ (by assumption) ?_; rotate_left; (focus (intro w hSw; (try dsimp only at hSw); go_simp; try with_reducible rfl)); (try simp only [Act.put, List.setIfInBounds_toArray, List.set_cons_zero, List.set_cons_succ]))
        (refine upto_take [8, 9, 10, 11] (i := 7) (oi := ⟨_, _, _, _, _, _⟩) (d := some 47) (v := ?_) rfl rfl (by kernel_rfl) (by kernel_rfl) (fun _ _ _ h => h) (by rfl) ?_ (by assumption) ?_; rotate_left; (focus (intro w hSw; (try dsimp only at hSw); go_simp; try with_reducible rfl)); (try simp only [Act.put, List.setIfInBounds_toArray, List.set_cons_zero, List.set_cons_succ]))
        (refine upto_take [9, 10, 11] (i := 8) (oi := ⟨_, _, _, _, _, _⟩) (d := some 48) (v := ?_) rfl rfl (by kernel_rfl) (by kernel_rfl) (fun _ _ _ h => h) (by rfl) ?_ (by assumption) ?_; rotate_left; (focus (intro w hSw; (try dsimp only at hSw); go_simp; try with_reducible rfl)); (try simp only [Act.put, List.setIfInBounds_toArray, List.set_cons_zero, List.set_cons_succ]))
        (refine upto_take [10, 11] (i := 9) (oi := ⟨_, _, _, _, _, _⟩) (d := some 49) (v := ?_) rfl rfl (by kernel_rfl) (by kernel_rfl) (fun _ _ _ h => h) (by rfl) ?_ (by assumption) ?_; rotate_left; (focus (intro w hSw; (try dsimp only at hSw); go_simp; try with_reducible rfl)); (try simp only [Act.put, List.setIfInBounds_toArray, List.set_cons_zero, List.set_cons_succ]))
        refine upto_one 10 (o := ⟨_, _, _, _, _, _⟩) rfl (by kernel_rfl) (by decide) (fun K hK => ?_)
        go_simp
        refine hK.out _ _ ?_ (fun hHeld => ?_)
        · exact ⟨keepAlloc u0 _, keepAlloc u1 _, keepAlloc u2 _, keepAlloc u3 _⟩
        clear hK K
        (try simp only [Act.put, List.setIfInBounds_toArray, List.set_cons_zero, List.set_cons_succ])
        refine upto_last (o := ⟨_, _, _, _, _, _⟩) rfl (by kernel_rfl) (fun K hK => ?_)
        (go_loud (refine step_app kdI (by rfl) _ _ (by rfl) bS (.slice (some ⟨b7, o7, none⟩) (xi + 1) cv) pv (by rfl) HOX.out _ 1 1 [rk - nv] (by rfl) HI1.out HPL.out (by simp; omega) ?_); intro v' w2 ho2 hg2 hz2; have hg2 : (Z.alloc (.cells #[.int .i64 (rk - nv)] 3)).grownBy w2 (Value.slice (some ⟨b7, o7, none⟩) (xi + 1) cv).ownBlock := ⟨hg2.os, hg2.tape, hg2.output, hg2.size, hg2.block⟩; obtain ⟨Av2, cv2, hve, -⟩ := OwnL.arr kdI ho2; obtain ⟨nv2, hnv⟩ : ∃ q, (pv ++ [rk - nv]).length = q := ⟨_, rfl⟩; rw [hnv] at hve; subst hve; clear hnv; have b9' := ((HBOZ.out.alloc (.cells #[.int .i64 (rk - nv)] 3)).grown hg2 (fun e => HOB.out e)); have m0 := b9'.cell 0; have m1 := b9'.frozen 0; have HS := Lib.hid (app_step2 (bS + 1) HBOZ.out HOZ.out ho2 hg2); clear ho2 hg2 b9' hz2)
        refine hK.out _ _ ?_
        clear hK K
        (try simp only [Act.put, List.setIfInBounds_toArray, List.set_cons_zero, List.set_cons_succ])
        refine any_one 12 (o := ⟨_, _, _, _, _, _⟩) rfl (by kernel_rfl) (fun K hK => ?_)
        go_simp
        refine hK.out _ _ ?_
        clear hK K
        (try simp only [Act.put, List.setIfInBounds_toArray, List.set_cons_zero, List.set_cons_succ])
        refine any_done (by kernel_rfl) ?_
        have FZ := Lib.hid (FixU.of_below (B := bS) (bw := bS + 1) (bs := bS + 1) GZ.out)
        refine ⟨(HTM.out _ GZ.out).trans (HS.out.kf _), FZ.out.trans HS.out.fx, HFX.out.trans (FZ.out.trans HS.out.fx), ⟨_, HS.out.bx, ?_⟩, fun i hi => ?_, (HTO.out.below GZ.out).trans HS.out.oto⟩
        · rw [HPN.out, HRP.out, HRS.out]
          exact HS.out.own
        · rw [HPN.out] at hi
          by_cases e : i = xi
          · rw [e]; exact HTB.out
          · exact HTK.out i (by omega)
    case done =>
      rintro E xs W hD hS ⟨hfx, ⟨v, hbo, ho⟩, htk, hto⟩ hK
      have hxl : xs.length = n := by
        have := congrArg List.length hS
        rw [List.length_map, List.length_range] at this
        exact this
      rw [hxl] at ho htk
      have hXs := hfx.size
      have HTK := Lib.hid (show ∀ i, i < ls.length → tookB ls nl i = true from fun i hi => htk i (by rw [HLA.out] at hi; exact hi))
      have HTS2 := Lib.hid HTS.out
      have HRN := Lib.hid (show runP sown nl n = runP sown nl n ∧ (runP sown nl n).getD n 0 = runK sown nl n from ⟨rfl, runP_at (Nat.le_refl _)⟩)
      obtain ⟨Av, cv, hve, -, -, hvi, -⟩ := OwnL.arr kdI ho
      rw [runP_len] at hve hvi
      subst hve
      obtain ⟨ts, hts⟩ : ∃ l, runP sown nl n = l := ⟨_, rfl⟩
      rw [hts] at HTS2 HRN hvi ho
      rw [HTS2.out] at HSF HTT2
      have HTT3 := Lib.hid (fun h => HTT2.out HTK.out h)
      rw [HLA.out] at HTT3
      have HOW := Lib.hid ho
      have HVI := Lib.hid hvi
      have HB8W := Lib.hid hbo
      have HB4W := Lib.hid (hfx.blk HB40.out (by omega) (by omega) (.inr (by decide)))
      have HB5W := Lib.hid (hfx.blk HB50.out (by omega) (by omega) (.inr (by decide)))
      have HPW := Lib.hid (hfx.blk HP0.out (by omega) (by omega) (.inr (by decide)))
      have HFW := Lib.hid (hfx.blk HF0.out (by omega) (by omega) (.inr (by decide)))
      have HAW := Lib.hid (hfx.arr HA0.out HAD.out)
      have HL2 := Lib.hid (hfx.arr HPA0.out.l2 (fun b o e h0 => by
        obtain ⟨b', o', e', hlt, -⟩ := HPA2.out.l2.2 h0
        rw [e] at e'; cases e'
        have := HNV0.out
        omega))
      have GW := Lib.hid (show Below w.heap.size w W from G0.out.trans (hfx.below (D := w.heap.size) hto (by omega) (by omega) (by omega) (by omega)))
      have HK := Lib.hid hK
      have hbfl := HFW.out.lt
      have hb8l := hbo.lt
      have hb4l := HB4W.out.lt
      have hb5l := HB5W.out.lt
      have hEl := (Array.getElem?_eq_some_iff.1 hK).1
      have hl2n := HL2.out.1
      have HL2N := Lib.hid hl2n
      have q0 := HFW.out.cell 0
      have q1 := HPW.out.cell 3
      clear hfx hbo ho htk hto hK hS hvi hts hl2n hxl
      go_upto_region 12 with fail
      clear q0 q1
      go_loopw [60] (fun i wr => ∃ k : Nat, k ≤ n2 ∧ i = .int .i64 k ∧ Below W.heap.size W wr ∧ ∀ j, j < k → standB known ls ts (p.stands.getD j z6) = true) (fun i _ => n2 - (intOf i).toNat)
      case atStart => exact ⟨0, Nat.zero_le _, rfl, Below.refl _ _, fun j hj => absurd hj (Nat.not_lt_zero _)⟩
      case round =>
        obtain ⟨k, hk, rfl, hg, hok⟩ := hrel
        have HG := Lib.hid hg
        have HST := Lib.hid hok
        have hws := hg.size
        clear hg hok
        by_cases hkn : k < n2
        · obtain ⟨b0, o0, e0, -, -, hc⟩ := six_at (HL2.out.below HG.out) hkn
          obtain ⟨x0, x1, x2, x3, x4, x5⟩ := hc wr (Below.refl _ _)
          have HSFk := Lib.hid (HSF.out k (by rw [HL2N.out]; exact hkn))
          obtain ⟨x, hxg⟩ : ∃ x, p.stands.getD k z6 = x := ⟨_, rfl⟩
          rw [hxg] at x0 x1 x2 x3 x4 x5 HSFk
          have HXG := Lib.hid hxg
          subst e0
          obtain ⟨cb, hcb⟩ : ∃ cb, cnt x known = cb := ⟨_, rfl⟩
          have HSD := Lib.hid (show standB known ls ts x = (!cb || rng (ts.getD (after ls x.b) 0) x.c x.d) by unfold standB; rw [hcb])
          have TC := fun V => cnt_any x known V
          rw [hcb] at TC
          have HTC := Lib.hid TC
          clear hc hxg hcb TC
          go_upto_region 14 with fail
          obtain ⟨W5, hW5⟩ : ∃ V, wr.alloc (.cells #[.int .i64 x.a, .int .i64 x.b, .int .i64 x.c, .int .i64 x.d, .int .i64 x.e, .int .i64 x.f] 105) = V := ⟨_, rfl⟩
          rw [hW5]
          have HX5 := Lib.hid (show Blk W5 wr.heap.size 105 #[.int .i64 x.a, .int .i64 x.b, .int .i64 x.c, .int .i64 x.d, .int .i64 x.e, .int .i64 x.f] by rw [← hW5]; exact Blk.new _ _ _)
          have G5 := Lib.hid (show Below W.heap.size W W5 from HG.out.trans ((show Below wr.heap.size wr W5 by rw [← hW5]; exact one_more _ _).mono hws))
          clear hW5 x0 x1 x2 x3 x4 x5
          have v1 := cellW (HX5.out.cell 1)
          have v2 := cellW (HX5.out.cell 2)
          have v3 := cellW (HX5.out.cell 3)
          have v4 := cellW (HX5.out.cell 4)
          have v5 := cellW (HX5.out.cell 5)
          have v6 := cellW ((HFW.out.ext G5.out).cell 1)
          have v7 := cellW ((HB8W.out.ext G5.out).cell 0)
          cases cb with
          | false =>
            have HSD2 := Lib.hid (show standB known ls ts x = true by rw [HSD.out]; rfl)
            refine wp_region_calm W5 (by kernel_rfl) (by kernel_rfl) (Below.refl _ _) ?_
            repeat (go_big_quiet_step (first | (go_at_call 159; exact callsCalmSame (HTC.out _))))
            refine wpQuiet_nil ?_
            rintro _ ⟨z, rfl⟩
            have GZ := Lib.hid (G5.out.trans (z.ok.mono G5.out.size))
            clear v1 v2 v3 v4 v5 v6 v7
            go_wp2_with fail
            go_roundw
            case rel => exact ⟨k + 1, by omega, by go_num, GZ.out, fun j hj => (Nat.lt_or_ge j k).elim (fun h => HST.out j h) (fun h => by rw [show j = k by omega, HXG.out]; exact HSD2.out)⟩
            case measure => simp [intOf]; omega
          | true =>
            have hav := after_len ls x.b
            rw [HLA.out] at hav
            have T79 := fun z : Wd W5 => after_any bf A n c ls x.b z.val (Nat.lt_of_lt_of_le hbfl (Nat.le_trans G5.out.size z.size)) ((HFW.out.ext (G5.out.trans (z.ok.mono G5.out.size))).cell 2) (HAW.out.below (G5.out.trans (z.ok.mono G5.out.size))) (by omega)
            obtain ⟨av, hav2⟩ : ∃ a, after ls x.b = a := ⟨_, rfl⟩
            rw [hav2] at T79 HSD hav
            have HT79 := Lib.hid T79
            obtain ⟨b7, o7, e7, -, -, hc7⟩ := ints_at HVI.out (show av < n + 1 by omega)
            obtain ⟨tv, htv⟩ : ∃ v, ts.getD av 0 = v := ⟨_, rfl⟩
            rw [htv] at hc7 HSD
            have v8 := cellW (hc7 W5 G5.out)
            obtain ⟨rv, hrv⟩ : ∃ b, rng tv x.c x.d = b := ⟨_, rfl⟩
            have TW := fun V => within_any tv x.c x.d V
            rw [hrv] at TW HSD
            have HTW := Lib.hid TW
            subst e7
            clear hav2 T79 htv hc7 hrv TW
            have havi : (av : Int) < (n : Int) + 1 := by omega
            cases rv with
            | true =>
              have HSD2 := Lib.hid (show standB known ls ts x = true by rw [HSD.out]; rfl)
              refine wp_region_calm W5 (by kernel_rfl) (by kernel_rfl) (Below.refl _ _) ?_
              repeat (go_big_quiet_step (first | (go_at_call 159; exact callsCalmSame (HTC.out _)) | (go_at_call 79; exact callsCalm (HT79.out _)) | (go_at_call 145; exact callsCalmSame (HTW.out _))))
              refine wpQuiet_nil ?_
              rintro _ ⟨z, rfl⟩
              have GZ := Lib.hid (G5.out.trans (z.ok.mono G5.out.size))
              clear v1 v2 v3 v4 v5 v6 v7 v8
              go_wp2_with fail
              go_roundw
              case rel => exact ⟨k + 1, by omega, by go_num, GZ.out, fun j hj => (Nat.lt_or_ge j k).elim (fun h => HST.out j h) (fun h => by rw [show j = k by omega, HXG.out]; exact HSD2.out)⟩
              case measure => simp [intOf]; omega
            | false =>
              have HF9 := Lib.hid (HSFk.out (by rw [HSD.out]; rfl))
              refine wp_region_calm W5 (by kernel_rfl) (by kernel_rfl) (Below.refl _ _) ?_
              repeat (go_big_quiet_step (first | (go_at_call 159; exact callsCalmSame (HTC.out _)) | (go_at_call 79; exact callsCalm (HT79.out _)) | (go_at_call 145; exact callsCalmSame (HTW.out _))))
              refine wpQuiet_nil ?_
              rintro _ ⟨z, rfl⟩
              have GZ := Lib.hid (G5.out.trans (z.ok.mono G5.out.size))
              clear v1 v2 v3 v4 v5 v6 v7 v8
              have K4 := Lib.hid (HB4W.out.ext GZ.out)
              have K5 := Lib.hid (HB5W.out.ext GZ.out)
              have m0 := K4.out.cell 0
              have m1 := K4.out.frozen 0
              have m2 := K5.out.cell 0
              have m3 := K5.out.frozen 0
              have HKZ := Lib.hid ((GZ.out.block E hEl).trans HK.out)
              go_wp2_with fail
              have k4 := (K4.out.set_ 0 (.slice none 0 0)).far (p := ⟨w.heap.size + 1 + 1, 0, none⟩) (by show w.heap.size + 1 ≠ w.heap.size + 1 + 1; omega) (.bool false)
              have k5 := (K5.out.far (p := ⟨w.heap.size + 1, 0, none⟩) (by show w.heap.size + 1 + 1 ≠ w.heap.size + 1; omega) (.slice none 0 0)).set_ 0 (.bool false)
              have t0 := (k4.putObj (D := E) (by omega) (.deferred none)).cell 0
              have t1 := (k5.putObj (D := E) (by omega) (.deferred none)).cell 0
              refine ⟨by simp, .inl ⟨_, _, rfl, run_takeDeferred ((Below.heap_setCell _ _ _ _ (by show E ≠ w.heap.size + 1 + 1; omega)).trans ((Below.heap_setCell _ _ _ _ (by show E ≠ w.heap.size + 1; omega)).trans HKZ.out)), ?_⟩⟩
              refine ⟨.tuple #[.slice none 0 0, .bool false], ?_, ⟨⟨_, by rw [HF9.out], fun h => (by rw [HF9.out] at h; cases h)⟩, ?_⟩⟩
              · simp [results, Tryz.results83, go_sem, t0, t1]
              · have gx := ((GW.out.trans (GZ.out.mono GW.out.size)).setCell (p := ⟨w.heap.size + 1, 0, none⟩) (by show w.heap.size ≤ w.heap.size + 1; omega) (.slice none 0 0)).setCell (p := ⟨w.heap.size + 1 + 1, 0, none⟩) (by show w.heap.size ≤ w.heap.size + 1 + 1; omega) (.bool false)
                exact gx.grown (grownBy_putObj' _ E _) gx.size (fun k hk => by cases hk; omega)
        · obtain rfl : n2 = k := by omega
          have HTV := Lib.hid (HTT3.out (fun j hj => HST.out j (by rw [← HL2N.out]; exact hj)))
          have hRN := HRN.out.2
          obtain ⟨b7, o7, e7, -, -, hc7⟩ := ints_at HVI.out (show n < n + 1 by omega)
          rw [hRN] at hc7
          obtain ⟨rk, hrk⟩ : ∃ r, runK sown nl n = r := ⟨_, rfl⟩
          rw [hrk] at hc7 HTV
          have HC8 := Lib.hid hc7
          have HBN := Lib.hid (show bS ≤ b7 from (own_cells HOW.out (by rw [e7]; rfl)).1)
          subst e7
          clear hrk hRN hc7 hkn hk
          have hm1 : (n : Int) + 1 - 1 = n := by omega
          have hm3 : (n : Int) < (n : Int) + 1 := by omega
          have hm2 : IntKind.i64.wrap (n : Int) = (n : Int) := by rw [IntKind.wrap_i64]; omega
          go_wp2_with fail
          have K4 := Lib.hid (HB4W.out.ext HG.out)
          have K5 := Lib.hid (HB5W.out.ext HG.out)
          have v7 := (HB8W.out.ext HG.out).cell 0
          have v8 := HC8.out wr HG.out
          have m0 := K4.out.cell 0
          have m1 := K4.out.frozen 0
          have m2 := K5.out.cell 0
          have m3 := K5.out.frozen 0
          have HKZ := Lib.hid ((HG.out.block E hEl).trans HK.out)
          have HOZ := Lib.hid (HOW.out.ext HG.out)
          have GZ := HG
          have HB7 := Lib.hid (show b7 ≠ w.heap.size + 1 from fun e => by have := HBN.out; omega)
          have HKS := Lib.hid (show (wr.drew.setCell ⟨w.heap.size + 1, 0, none⟩ (.slice (some ⟨b7, o7, none⟩) (n + 1) cv)).cell? ⟨bS + 1, 0, none⟩ = some (.slice (some ⟨b7, o7, none⟩) (n + 1) cv) ∧ (wr.drew.setCell ⟨w.heap.size + 1, 0, none⟩ (.slice (some ⟨b7, o7, none⟩) (n + 1) cv)).cell? ⟨b7, o7 + n, none⟩ = some (.int .i64 rk) ∧ (wr.drew.setCell ⟨w.heap.size + 1, 0, none⟩ (.slice (some ⟨b7, o7, none⟩) (n + 1) cv)).cell? ⟨w.heap.size + 1 + 1, 0, none⟩ = some (.bool false) ∧ (wr.drew.setCell ⟨w.heap.size + 1, 0, none⟩ (.slice (some ⟨b7, o7, none⟩) (n + 1) cv)).frozen? ⟨w.heap.size + 1 + 1, 0, none⟩ = false from by
            have k5 := K5.out.far (p := ⟨w.heap.size + 1, 0, none⟩) (by show w.heap.size + 1 + 1 ≠ w.heap.size + 1; omega) (.slice (some ⟨b7, o7, none⟩) (n + 1) cv)
            have k8 := (HB8W.out.ext HG.out).far (p := ⟨w.heap.size + 1, 0, none⟩) (by show bS + 1 ≠ w.heap.size + 1; omega) (.slice (some ⟨b7, o7, none⟩) (n + 1) cv)
            exact ⟨k8.cell 0, (World.cell?_of_block (a := ⟨b7, o7 + n, none⟩) (Below.heap_setCell _ _ _ _ HB7.out)).trans v8, k5.cell 0, k5.frozen 0⟩)
          clear v7 v8 m0 m1 m2 m3
          have v7 := (HB8W.out.ext HG.out).cell 0
          have v8 := HC8.out wr HG.out
          have m0 := K4.out.cell 0
          have m1 := K4.out.frozen 0
          have m2 := K5.out.cell 0
          have m3 := K5.out.frozen 0
          refine wp_region_uptoQ (S := fun V => V.cell? ⟨bS + 1, 0, none⟩ = some (.slice (some ⟨b7, o7, none⟩) (n + 1) cv) ∧ V.cell? ⟨b7, o7 + n, none⟩ = some (.int .i64 rk) ∧ V.cell? ⟨w.heap.size + 1 + 1, 0, none⟩ = some (.bool false) ∧ V.frozen? ⟨w.heap.size + 1 + 1, 0, none⟩ = false) 9 (by kernel_rfl) (⟨v7, v8, m2, m3⟩) (fun hHeld => ?_)
          (refine upto_take [8, 9] (i := 0) (oi := ⟨_, _, _, _, _, _⟩) (d := some 91) (v := ?_) rfl rfl (by kernel_rfl) (by kernel_rfl) (fun _ _ _ h => h) (by rfl) ?_ (by assumption) ?_; rotate_left; (focus (intro w hSw; (try dsimp only at hSw); go_simp; try with_reducible rfl)); (try simp only [Act.put, List.setIfInBounds_toArray, List.set_cons_zero, List.set_cons_succ]))
          (refine upto_take [5, 6, 7, 9] (i := 1) (oi := ⟨_, _, _, _, _, _⟩) (d := some 92) (v := ?_) rfl rfl (by kernel_rfl) (by kernel_rfl) (fun _ _ _ h => h) (by rfl) ?_ (by assumption) ?_; rotate_left; (focus (intro w hSw; (try dsimp only at hSw); go_simp; try with_reducible rfl)); (try simp only [Act.put, List.setIfInBounds_toArray, List.set_cons_zero, List.set_cons_succ]))
          (refine upto_take [3, 4, 5, 6, 7, 9] (i := 2) (oi := ⟨_, _, _, _, _, _⟩) (d := some 93) (v := ?_) rfl rfl (by kernel_rfl) (by kernel_rfl) (fun _ _ _ h => h) (by rfl) ?_ (by assumption) ?_; rotate_left; (focus (intro w hSw; (try dsimp only at hSw); go_simp; try with_reducible rfl)); (try simp only [Act.put, List.setIfInBounds_toArray, List.set_cons_zero, List.set_cons_succ]))
          (refine upto_take [4, 5, 6, 7, 9] (i := 3) (oi := ⟨_, _, _, _, _, _⟩) (d := some 94) (v := ?_) rfl rfl (by kernel_rfl) (by kernel_rfl) (fun _ _ _ h => h) (by rfl) ?_ (by assumption) ?_; rotate_left; (focus (intro w hSw; (try dsimp only at hSw); go_simp; try with_reducible rfl)); (try simp only [Act.put, List.setIfInBounds_toArray, List.set_cons_zero, List.set_cons_succ]))
          (refine upto_take [5, 6, 7, 9] (i := 4) (oi := ⟨_, _, _, _, _, _⟩) (d := some 95) (v := ?_) rfl rfl (by kernel_rfl) (by kernel_rfl) (fun _ _ _ h => h) (by rfl) ?_ (by assumption) ?_; rotate_left; (focus (intro w hSw; (try dsimp only at hSw); go_simp; try with_reducible rfl)); (try simp only [Act.put, List.setIfInBounds_toArray, List.set_cons_zero, List.set_cons_succ]))
          (refine upto_take [6, 7, 9] (i := 5) (oi := ⟨_, _, _, _, _, _⟩) (d := some 96) (v := ?_) rfl rfl (by kernel_rfl) (by kernel_rfl) (fun _ _ _ h => h) (by rfl) ?_ (by assumption) ?_; rotate_left; (focus (intro w hSw; (try dsimp only at hSw); go_simp; try with_reducible rfl)); (try simp only [Act.put, List.setIfInBounds_toArray, List.set_cons_zero, List.set_cons_succ]))
          (refine upto_take [7, 9] (i := 6) (oi := ⟨_, _, _, _, _, _⟩) (d := some 97) (v := ?_) rfl rfl (by kernel_rfl) (by kernel_rfl) (fun _ _ _ h => h) (by rfl) ?_ (by assumption) ?_; rotate_left; (focus (intro w hSw; (try dsimp only at hSw); go_simp; try with_reducible rfl)); (try simp only [Act.put, List.setIfInBounds_toArray, List.set_cons_zero, List.set_cons_succ]))
          (refine upto_take [9] (i := 7) (oi := ⟨_, _, _, _, _, _⟩) (d := some 98) (v := ?_) rfl rfl (by kernel_rfl) (by kernel_rfl) (fun _ _ _ h => h) (by rfl) ?_ (by assumption) ?_; rotate_left; (focus (intro w hSw; (try dsimp only at hSw); go_simp; try with_reducible rfl)); (try simp only [Act.put, List.setIfInBounds_toArray, List.set_cons_zero, List.set_cons_succ]))
          refine upto_one 8 (o := ⟨_, _, _, _, _, _⟩) rfl (by kernel_rfl) (by decide) (fun K hK => ?_)
          go_simp
          refine hK.out _ _ ?_ (fun hHeld => ?_)
          · exact HKS.out
          clear hK K
          (try simp only [Act.put, List.setIfInBounds_toArray, List.set_cons_zero, List.set_cons_succ])
          refine upto_last (o := ⟨_, _, _, _, _, _⟩) rfl (by kernel_rfl) (fun K hK => ?_)
          go_simp
          refine hK.out _ _ ?_
          clear hK K
          (try simp only [Act.put, List.setIfInBounds_toArray, List.set_cons_zero, List.set_cons_succ])
          refine any_done (by kernel_rfl) ?_
          simp only [onlyQ]
          go_wp2_with fail
          have k4 := (K4.out.set_ 0 (.slice (some ⟨b7, o7, none⟩) (n + 1) cv)).far (p := ⟨w.heap.size + 1 + 1, 0, none⟩) (by show w.heap.size + 1 ≠ w.heap.size + 1 + 1; omega) (.bool (decide (0 ≤ rk)))
          have k5 := (K5.out.far (p := ⟨w.heap.size + 1, 0, none⟩) (by show w.heap.size + 1 + 1 ≠ w.heap.size + 1; omega) (.slice (some ⟨b7, o7, none⟩) (n + 1) cv)).set_ 0 (.bool (decide (0 ≤ rk)))
          have t0 := (k4.drew_.putObj (D := E) (by omega) (.deferred none)).cell 0
          have t1 := (k5.drew_.putObj (D := E) (by omega) (.deferred none)).cell 0
          refine ⟨by simp, .inl ⟨_, _, rfl, run_takeDeferred ((Below.heap_setCell _ _ _ _ (by show E ≠ w.heap.size + 1 + 1; omega)).trans ((Below.heap_setCell _ _ _ _ (by show E ≠ w.heap.size + 1; omega)).trans HKZ.out)), ?_⟩⟩
          refine ⟨.tuple #[.slice (some ⟨b7, o7, none⟩) (n + 1) cv, .bool (decide (0 ≤ rk))], ?_, ⟨⟨_, by rw [HTV.out], fun _ => ?_⟩, ?_⟩⟩
          · simp [results, Tryz.results83, go_sem, t0, t1]
          · rw [HTS2.out]
            exact (((HOZ.out.far (p := ⟨w.heap.size + 1, 0, none⟩) (by show w.heap.size + 1 < bS; omega) _).far (p := ⟨w.heap.size + 1 + 1, 0, none⟩) (by show w.heap.size + 1 + 1 < bS; omega) _).held (grownBy_putObj' _ E _) (fun r e => by cases e; exact ⟨_, (Below.heap_setCell _ _ _ _ (by show E ≠ w.heap.size + 1 + 1; omega)).trans ((Below.heap_setCell _ _ _ _ (by show E ≠ w.heap.size + 1; omega)).trans HKZ.out), rfl⟩)).mono (by omega)
          · have gx := ((GW.out.trans (GZ.out.mono GW.out.size)).setCell (p := ⟨w.heap.size + 1, 0, none⟩) (by show w.heap.size ≤ w.heap.size + 1; omega) (.slice (some ⟨b7, o7, none⟩) (n + 1) cv)).setCell (p := ⟨w.heap.size + 1 + 1, 0, none⟩) (by show w.heap.size ≤ w.heap.size + 1 + 1; omega) (.bool (decide (0 ≤ rk)))
            exact gx.drew.grown (grownBy_putObj' _ E _) gx.size (fun k hk => by cases hk; omega)
    case stop =>
      rintro E cd pre W hD hS ⟨rfl, hgw, hb4, hb5, i, hi, hti⟩ hK
      have hF9 := HTF.out i hi hti
      have hw1 := HB4.out.lt
      have hw2 := HB50.out.lt
      have t0 := (hb4.putObj (D := E) (by omega) (.deferred none)).cell 0
      have t1 := (hb5.putObj (D := E) (by omega) (.deferred none)).cell 0
      gi_wp2
      refine ⟨by simp, .inl ⟨_, _, rfl, run_takeDeferred hK, ?_⟩⟩
      refine ⟨.tuple #[.slice none 0 0, .bool false], ?_, ⟨⟨_, by rw [hF9], fun h => (by rw [hF9] at h; cases h)⟩, ?_⟩⟩
      · simp [results, Tryz.results83, go_sem, t0, t1]
      · exact hgw.grown (grownBy_putObj' _ E _) hgw.size (fun k hk => by cases hk; omega)
end Go.Proofs.YtkoejeghihcmlaaGreat
