/- Part of the proof: WE, UL, UM, UN, UW, UX. -/
import Derived.Test.YtkoejeghihcmlaaGreatZA7
import Derived.Test.YtkoejeghihcmlaaGreatZA9
namespace Go.Proofs.YtkoejeghihcmlaaGreat
open Go.RowKit Go.Shelf
theorem truth_iff {p : Pl} (hok : okPl p = true) {known sown : Int} {ns : List Int} : truthB p known sown ns = true ↔ ns.length = (lookL p known every).length ∧ TruBy p known every (truS p known sown ns) := by
 have hpp := ok_parts hok
 have hnum := cart_num hok known
 rw [← cart_every] at hnum
 constructor
 ·intro h
  unfold truthB numsB at h
  rw [Bool.and_eq_true, Bool.and_eq_true, Bool.and_eq_true, Bool.and_eq_true, decide_eq_true_eq, rng_iff, List.all_eq_true, List.all_eq_true, decide_eq_true_eq] at h
  obtain ⟨⟨⟨⟨h1, h2⟩, h3⟩, h4⟩, h5⟩ := h
  have h3' : ∀ i, i < (lookL p known every).length → ((lookL p known every).getD i z6).c ≤ (numsL p known ns).getD i 0 ∧ (numsL p known ns).getD i 0 ≤ ((lookL p known every).getD i z6).d := fun i hi => by
   have := h3 i (List.mem_range.2 hi)
   unfold tookB at this
   exact rng_iff.1 this
  have hpos : ∀ i, i < (lookL p known every).length → 0 ≤ (numsL p known ns).getD i 0 := fun i hi => by
   have a := h3' i hi
   have b := hnum _ (getD_mem hi)
   unfold Num at b
   omega
  refine ⟨h1, ⟨by rw [truS_len, cart_every], fun i hi => ?_, fun i hi => ?_, fun x hx hc => ?_⟩⟩
  ·rw [← cart_every] at hi ⊢
   rw [truS_at (by omega), truS_at (by omega), veil_every]
   have e1 : runK sown (numsL p known ns) (i + 1) = runK sown (numsL p known ns) i - (numsL p known ns).getD i 0 := rfl
   have := h3' i hi
   omega
  ·rw [← cart_every] at hi
   rw [truS_at hi]
   have d1 := run_down (sown := sown) hpos ((lookL p known every).length - i) i (by omega)
   have d2 := run_le (sown := sown) hpos i hi
   by_cases hz : i = 0
   ·subst hz
    rw [if_pos rfl, if_pos rfl]
    exact h2
   ·rw [if_neg hz, if_neg hz]
    omega
  ·have := h4 x hx
   unfold standB at this
   have hcx : cnt x known = true := by rw [Bool.and_eq_true] at hc; exact hc.1
   rw [hcx] at this
   rw [← cart_every]
   exact rng_iff.1 (by simpa using this)
 ·rintro ⟨h1, ht⟩
  have t2 := ht.took
  have t3 := ht.bds
  have t4 := ht.stands
  rw [← cart_every] at t2 t3 t4
  have h3' : ∀ i, i < (lookL p known every).length → ((lookL p known every).getD i z6).c ≤ (numsL p known ns).getD i 0 ∧ (numsL p known ns).getD i 0 ≤ ((lookL p known every).getD i z6).d := fun i hi => by
   have := t2 i hi
   rw [truS_at (by omega), truS_at (by omega), veil_every] at this
   have e1 : runK sown (numsL p known ns) (i + 1) = runK sown (numsL p known ns) i - (numsL p known ns).getD i 0 := rfl
   omega
  unfold truthB numsB
  rw [Bool.and_eq_true, Bool.and_eq_true, Bool.and_eq_true, Bool.and_eq_true, decide_eq_true_eq, rng_iff, List.all_eq_true, List.all_eq_true, decide_eq_true_eq]
  refine ⟨⟨⟨⟨h1, ?_⟩, fun i hi => ?_⟩, fun x hx => ?_⟩, ?_⟩
  ·have := t3 0 (Nat.zero_le _)
   rw [truS_at (Nat.zero_le _), if_pos rfl, if_pos rfl] at this
   exact this
  ·unfold tookB
   exact rng_iff.2 (h3' i (List.mem_range.1 hi))
  ·unfold standB
   cases hc : cnt x known with
   | false => rfl
   | true =>
    have := t4 x hx (by rw [hc]; rfl)
    rw [rng_iff.2 this]; rfl
  ·have := ht.bd hok (i := (lookL p known every).length) (by rw [cart_every]; exact Nat.le_refl _)
   rw [truS_at (Nat.le_refl _)] at this
   exact this.1
theorem cart_src {p : Pl} (hok : okPl p = true) {known : Int} {i j : Nat} (hi : i < (lookL p known every).length) (hj : j < (lookL p known every).length) (h : ((lookL p known every).getD i z6).a = ((lookL p known every).getD j z6).a) : i = j := by
 have hn := cart_nodup hok known
 rw [← cart_every] at hn
 have mi : (lookL p known every).getD i z6 ∈ p.loads := (mem_cart.1 (by rw [← cart_every]; exact getD_mem hi)).1
 have mj : (lookL p known every).getD j z6 ∈ p.loads := (mem_cart.1 (by rw [← cart_every]; exact getD_mem hj)).1
 have e := src_one hok mi mj h
 rw [six_get hi, six_get hj] at e
 exact (List.getElem_inj hn).1 e
theorem srcIx_cart {p : Pl} (hok : okPl p = true) {known : Int} {i : Nat} (hi : i < (lookL p known every).length) : srcIx (lookL p known every) ((lookL p known every).getD i z6).a = i := by
 unfold srcIx
 refine findIdx_at hi (isSrc_iff.2 rfl) (fun j hj => ?_)
 cases h : isSrc ((lookL p known every).getD i z6).a ((lookL p known every).getD j z6) with
 | false => rfl
 | true =>
  have := cart_src hok (by omega) hi (isSrc_iff.1 h)
  omega
theorem srcIx_spec {l : List Six} {x : Six} (hx : x ∈ l) : srcIx l x.a < l.length ∧ (l.getD (srcIx l x.a) z6).a = x.a := by
 have hlt : srcIx l x.a < l.length := by
  unfold srcIx
  exact List.findIdx_lt_length_of_exists ⟨x, hx, isSrc_iff.2 rfl⟩
 refine ⟨hlt, ?_⟩
 rw [six_get hlt]
 exact isSrc_iff.1 (List.findIdx_getElem (w := hlt))
/-- True numbers, as they are handed out by the loads' sources. -/
def pickC (p : Pl) (known : Int) (s : List Int) : List Int := (countL p known).map fun x => s.getD (srcIx (lookL p known every) x.a) 0 - s.getD (srcIx (lookL p known every) x.a + 1) 0
theorem mem_count {p : Pl} {known : Int} {x : Six} : x ∈ countL p known ↔ x ∈ lookL p known every := by
 rw [cart_every, mem_cart]
 unfold countL
 rw [List.mem_filter]
theorem pickC_len (p : Pl) (known : Int) (s : List Int) : (pickC p known s).length = (lookL p known every).length := by unfold pickC; rw [List.length_map, count_len]
theorem numsL_at {p : Pl} {known : Int} {ns : List Int} {i : Nat} (hi : i < (lookL p known every).length) : (numsL p known ns).getD i 0 = numBy p known ns ((lookL p known every).getD i z6).a := by
 unfold numsL
 rw [List.getD_eq_getElem?_getD, List.getElem?_map, getD_six hi]
 rfl
theorem pick_at {p : Pl} (hok : okPl p = true) {known : Int} {s : List Int} {i : Nat} (hi : i < (lookL p known every).length) : (numsL p known (pickC p known s)).getD i 0 = s.getD i 0 - s.getD (i + 1) 0 := by
 rw [numsL_at hi]
 obtain ⟨h1, h2⟩ := srcIx_spec (mem_count.2 (getD_mem hi))
 unfold numBy pickC
 rw [List.getD_eq_getElem?_getD, List.getElem?_map, getD_six h1]
 show s.getD (srcIx (lookL p known every) ((countL p known).getD (srcIx (countL p known) ((lookL p known every).getD i z6).a) z6).a) 0 - _ = _
 rw [h2, srcIx_cart hok hi]
theorem list_getD_ext {l m : List Int} (h : l.length = m.length) (hg : ∀ i, i < l.length → l.getD i 0 = m.getD i 0) : l = m := by
 refine List.ext_getElem h fun i h1 h2 => ?_
 have := hg i h1
 rw [List.getD_eq_getElem?_getD, List.getD_eq_getElem?_getD, List.getElem?_eq_getElem h1, List.getElem?_eq_getElem h2] at this
 exact this
theorem pick_truS {p : Pl} (hok : okPl p = true) {known : Int} {s : List Int} (hs : s.length = (lookL p known every).length + 1) : truS p known (s.getD 0 0) (pickC p known s) = s := by
 refine list_getD_ext (by rw [truS_len, hs]) fun i hi => ?_
 rw [truS_len] at hi
 rw [truS_at (by omega)]
 have : ∀ k, k ≤ (lookL p known every).length → runK (s.getD 0 0) (numsL p known (pickC p known s)) k = s.getD k 0 := fun k => by
  induction k with
  | zero => intro _; rfl
  | succ k ih =>
   intro hk
   show runK (s.getD 0 0) (numsL p known (pickC p known s)) k - (numsL p known (pickC p known s)).getD k 0 = _
   rw [ih (by omega), pick_at hok (by omega)]
   omega
 exact this i (by omega)
theorem pick_truth {p : Pl} (hok : okPl p = true) {known : Int} {s : List Int} (ht : Tru (lookL p known every) (lookS p known every) s) : truthB p known (s.getD 0 0) (pickC p known s) = true := by
 have hs := ht.1
 refine (truth_iff hok).2 ⟨pickC_len _ _ _, ?_⟩
 rw [pick_truS hok hs]
 have := settle_tru (row_len p known every _ _ _) ht
 exact truBy_iff.2 this
end Go.Proofs.YtkoejeghihcmlaaGreat

namespace Go.Proofs.YtkoejeghihcmlaaGreat
open Go.RowKit Go.Shelf
/-- All, or those of some sources. -/
def mB (all : Bool) (by_ : List Int) (s : Int) : Bool := all || hasI by_ s
theorem mB_all (by_ : List Int) : mB true by_ = every := by funext s; rfl
/-- The loads while the row is made: the first k are veiled. -/
def lkK (m : Int → Bool) (ls : List Six) (k : Nat) : List Six := (ls.take k).map (veil m) ++ ls.drop k
theorem lkK_end (m : Int → Bool) (ls : List Six) : lkK m ls ls.length = ls.map (veil m) := by unfold lkK; simp
theorem lkK_len (m : Int → Bool) (ls : List Six) (k : Nat) : (lkK m ls k).length = ls.length := by
 unfold lkK
 rw [List.length_append, List.length_map, List.length_take, List.length_drop]
 omega
theorem lkK_at {m : Int → Bool} {ls : List Six} {k : Nat} (hk : k < ls.length) : (lkK m ls k)[k]? = some (ls.getD k z6) := by
 unfold lkK
 rw [List.getElem?_append_right (by rw [List.length_map, List.length_take]; omega), List.length_map, List.length_take, List.getElem?_drop, show k + (k - min k ls.length) = k by omega]
 exact getD_six hk
theorem lkK_succ {m : Int → Bool} {ls : List Six} {k : Nat} (hk : k < ls.length) : (lkK m ls k).set k (veil m (ls.getD k z6)) = lkK m ls (k + 1) := by
 unfold lkK
 rw [take_succ_D hk, List.map_append, drop_cons_D hk, List.set_append_right _ _ (by rw [List.length_map, List.length_take]; omega), List.length_map, List.length_take, show k - min k ls.length = 0 by omega]
 simp
theorem lkK_same {m : Int → Bool} {ls : List Six} {k : Nat} (hk : k < ls.length) (h : m (ls.getD k z6).a = true) : lkK m ls (k + 1) = lkK m ls k := by
 rw [← lkK_succ hk, veil_yes h]
 unfold lkK
 rw [List.set_append_right _ _ (by rw [List.length_map, List.length_take]; omega), List.length_map, List.length_take, show k - min k ls.length = 0 by omega, drop_cons_D hk]
 rfl
theorem stood0_succ (p : Pl) (k : Nat) : stood0 p k ++ [⟨0, 10000⟩] = stood0 p (k + 1) := by
 unfold stood0
 rw [List.cons_append, ← List.replicate_succ']
theorem row_turn {W3 U V' : World} {o : Obj} {b7 : Nat} {A : Option Addr} {n c : Nat} {v v' : Value} {l : List Six} {st st' : List Rg} (hU : Below W3.heap.size W3 U) (hb : W3.heap.size ≤ b7) (B7 : Blk U b7 191 #[.slice A n c, v])
  (OL : OwnL scells 6 103 U W3.heap.size (.slice A n c) l) (hlt : ∀ k, (Value.slice A n c).ownBlock = some k → k < b7) (OS : OwnL rcells 2 33 U (b7 + 1) v st) (hgr : (U.alloc o).grownBy V' v.ownBlock) (ho : OwnL rcells 2 33 V' (b7 + 1) v' st') :
  Below W3.heap.size W3 (V'.setCell ⟨b7, 1, none⟩ v') ∧ Blk (V'.setCell ⟨b7, 1, none⟩ v') b7 191 #[.slice A n c, v'] ∧ OwnL scells 6 103 (V'.setCell ⟨b7, 1, none⟩ v') W3.heap.size (.slice A n c) l ∧ OwnL rcells 2 33 (V'.setCell ⟨b7, 1, none⟩ v') (b7 + 1) v' st' := by
 have hne : v.ownBlock ≠ some b7 := fun e => by have := (own_lt OS e).1; omega
 refine ⟨?_, ?_, ?_, ho.far (p := ⟨b7, 1, none⟩) (by dsimp only; omega) _⟩
 ·refine ((hU.trans ((one_more U o).mono hU.size)).grown hgr (by have := hU.size; simp; omega) (fun k e => by have := (own_lt OS e).1; omega)).setCell (p := ⟨b7, 1, none⟩) (by dsimp only; omega) _
 ·exact ((B7.alloc o).grown hgr hne).set_ 1 v'
 ·refine (((OL.ext (one_more U o)).grown hgr (fun k e e2 => ?_))).apart (p := ⟨b7, 1, none⟩) (fun e => ?_) _
  ·have h1 := hlt k e
   have h2 := (own_lt OS e2).1
   omega
  ·have h1 := hlt _ e
   dsimp only at h1
   omega
theorem six_own {w : World} {base n c : Nat} {A : Option Addr} {l : List Six} (h : OwnL scells 6 103 w base (.slice A n c) l) (hn : 0 < n) : ∃ b, A = some ⟨b, 0, none⟩ := by
 rcases own_head h with ⟨-, h0, -, -⟩ | h
 ·omega
 ·exact h
theorem own_arr {w : World} {base n c : Nat} {A : Option Addr} {l : List Six} (h : OwnL scells 6 103 w base (.slice A n c) l) : Arr scells 6 w A n l := by
 obtain ⟨A', c', e, -, -, hi, -⟩ := h.arr kdL
 obtain ⟨n', hn'⟩ : ∃ n', l.length = n' := ⟨_, rfl⟩
 rw [hn'] at e hi
 cases e
 exact hi
theorem own_arrR {w : World} {base n c : Nat} {A : Option Addr} {l : List Rg} (h : OwnL rcells 2 33 w base (.slice A n c) l) : Arr rcells 2 w A n l := by
 obtain ⟨A', c', e, -, -, hi, -⟩ := h.arr kdR
 obtain ⟨n', hn'⟩ : ∃ n', l.length = n' := ⟨_, rfl⟩
 rw [hn'] at e hi
 cases e
 exact hi
theorem own_free {w : World} {base g n cap : Nat} {l : List Six} (h : OwnL scells 6 103 w base (.slice (some ⟨g, 0, none⟩) n cap) l) (i : Nat) : w.frozen? ⟨g, i, none⟩ = false := by
 obtain ⟨-, -, cur, hg, -, -, -, -⟩ := own_inv h
 exact Blk.frozen hg i
theorem own_freeR {w : World} {base g n cap : Nat} {l : List Rg} (h : OwnL rcells 2 33 w base (.slice (some ⟨g, 0, none⟩) n cap) l) (i : Nat) : w.frozen? ⟨g, i, none⟩ = false := by
 obtain ⟨-, -, cur, hg, -, -, -, -⟩ := own_inv h
 exact Blk.frozen hg i
theorem own_someR {w : World} {base n c : Nat} {A : Option Addr} {l : List Rg} (h : OwnL rcells 2 33 w base (.slice A n c) l) (hn : 0 < n) : ∃ b, A = some ⟨b, 0, none⟩ := by
 obtain ⟨-, ⟨e, h0⟩ | ⟨g, cap, cur, e, -⟩⟩ := h
 ·cases e
  omega
 ·cases e
  exact ⟨_, rfl⟩
theorem rg_at9 {w : World} {A : Option Addr} {n : Nat} {xs : List Rg} (h : Arr rcells 2 w A n xs) {k : Nat} (hk : k < n) :
  ∃ b o, A = some ⟨b, o, none⟩ ∧ xs[k]? = some (xs.getD k zR) ∧ ∀ w', Below w.heap.size w w' → w'.cell? ⟨b, o + k * 2, none⟩ = some (.int .i64 (xs.getD k zR).lo) ∧ w'.cell? ⟨b, o + k * 2 + 1, none⟩ = some (.int .i64 (xs.getD k zR).hi) := by
 obtain ⟨b, o, x, rfl, hb, hx, hc⟩ := h.at hk
 have e : xs.getD k zR = x := by rw [List.getD_eq_getElem?_getD, hx]; rfl
 rw [e]
 exact ⟨b, o, rfl, hx, fun w' hw => ⟨hc w' hw 0 _ rfl, hc w' hw 1 _ rfl⟩⟩
def RowEnd (p : Pl) (known : Int) (m : Int → Bool) (w : World) (e : Ending) (w' : World) : Prop :=
 (∃ A n c B q d, e = .returned (.agg #[.slice A n c, .slice B q d]) ∧ OwnL scells 6 103 w' w.heap.size (.slice A n c) (lookL p known m) ∧ OwnL rcells 2 33 w' w.heap.size (.slice B q d) (standsF known m (lookL p known m) p.stands (stood0 p (lookL p known m).length)) ∧ (∀ k, (Value.slice A n c).ownBlock = some k → (Value.slice B q d).ownBlock ≠ some k)) ∧ Below w.heap.size w w'
set_option maxRecDepth 100000 in
set_option maxHeartbeats 16000000 in
theorem refRow_any (p : Pl) (A1 A2 A3 : Option Addr) (n1 c1 n2 c2 n3 c3 : Nat) (known : Int) (all : Bool) (N : Option Addr) (nn cn : Nat) (by_ : List Int) (w : World) (hp : Pa w p A1 A2 A3 n1 c1 n2 c2 n3 c3) (hnb : n1 ≤ 1000 ∧ n2 ≤ 1000) (hby : Ints w N nn by_) (hnn : nn ≤ 1000000) :
  Calls Tryz.prog 120 #[plv p A1 A2 A3 n1 c1 n2 c2 n3 c3, .int .i64 known, .agg #[.bool all, .slice N nn cn]] w (RowEnd p known (mB all by_) w) := by
 obtain ⟨W3, hW3⟩ : ∃ W3, ((w.alloc (.cells (plb p A1 A2 A3 n1 c1 n2 c2 n3 c3) 38)).alloc (.cells #[.bool all, .slice N nn cn] 179)).alloc (.cells #[.slice none 0 0, .slice none 0 0] 191) = W3 := ⟨_, rfl⟩
 have g0 : Below w.heap.size w W3 := by rw [← hW3]; exact three_more _ _ _ _
 have b0 : Blk W3 w.heap.size 38 (plb p A1 A2 A3 n1 c1 n2 c2 n3 c3) := by rw [← hW3]; exact ((Blk.new _ _ _).alloc _).alloc _
 have b1 : Blk W3 (w.heap.size + 1) 179 #[.bool all, .slice N nn cn] := by rw [← hW3]; exact blk3_2 _ _ _ _ _
 have b2 : Blk W3 (w.heap.size + 1 + 1) 191 #[.slice none 0 0, .slice none 0 0] := by rw [← hW3]; exact blk3_3 _ _ _ _ _
 have HNB := Lib.hid hnb
 have HNN := Lib.hid hnn
 have HPA := Lib.hid (hp.below g0)
 have HBY := Lib.hid (hby.below g0)
 have GA := Lib.hid g0
 have HB0 := Lib.hid b0
 have HB1 := Lib.hid b1
 have HB2 := Lib.hid b2
 have HW3 := Lib.hid hW3
 have HSZ := Lib.hid b2.lt
 obtain ⟨m, hm⟩ : ∃ m, mB all by_ = m := ⟨_, rfl⟩
 have HM := Lib.hid hm
 have HLC := Lib.hid (lookL_cart p known m)
 have HUP := Lib.hid (show Up (lookL p known m) from srtH_up _)
 rw [hm]
 obtain ⟨ls, hls⟩ : ∃ ls, cartL p known = ls := ⟨_, rfl⟩
 obtain ⟨n, hn⟩ : ∃ n, ls.length = n := ⟨_, rfl⟩
 have HN9 := Lib.hid (show n ≤ 1000 by
  have h1 : (cartL p known).length ≤ p.loads.length := by unfold cartL; rw [srtH_len]; exact List.length_filter_le _ _
  rw [hls, hn] at h1
  have h2 := HPA.out.l1.1
  have h3 := HNB.out
  omega)
 have HNL := Lib.hid hn
 have HLS := Lib.hid hls
 have HC := Lib.hid (fun V (g : Below W3.heap.size W3 V) => show Calls Tryz.prog 129 #[plv p A1 A2 A3 n1 c1 n2 c2 n3 c3, .int .i64 known] V fun e w' => (∃ v, e = .returned v ∧ OwnL scells 6 103 w' V.heap.size v ls) ∧ Below V.heap.size V w' from by
  have := refCarted_any p A1 A2 A3 n1 c1 n2 c2 n3 c3 known V (HPA.out.below g) hnb.1
  rw [← hls]
  exact this)
 rw [hls] at HLC
 clear hp hby g0 b0 b1 b2 hW3 hnb hnn hm hls hn
 go_enter Tryz.func120, Tryz.ntmps120
 go_upto_region 1 with fail
 rw [HW3.out]
 have r0 := HB0.out.cell 0
 have r1 := HB0.out.cell 1
 have r2 := HB0.out.cell 2
 have r3 := HB0.out.cell 3
 have r4 := HB0.out.cell 4
 have r5 := HB0.out.cell 5
 go_upto_region 2 with (go_at_call 129; (with_reducible refine (HC.out _ (Below.refl _ _)).mono ?_); rintro e V4 ⟨⟨v, rfl, ho⟩, hg⟩; obtain ⟨A, c, hv, hc1, hc2, hi, -⟩ := OwnL.arr kdL ho; rw [HNL.out] at hv hc1 hi; subst hv; have HO4 := Lib.hid ho; have HG4 := Lib.hid hg; have HI4 := Lib.hid hi; have HCC := Lib.hid hc1; have HCM := Lib.hid hc2; clear ho hg hi hc1 hc2)
 clear r0 r1 r2 r3 r4 r5
 obtain ⟨W5, hW5⟩ : ∃ W5, V4.alloc (.cells #[.slice A n c, .slice none 0 0] 191) = W5 := ⟨_, rfl⟩
 have g5 : Below V4.heap.size V4 W5 := by rw [← hW5]; exact one_more _ _
 have b7 : Blk W5 V4.heap.size 191 #[.slice A n c, .slice none 0 0] := by rw [← hW5]; exact Blk.new _ _ _
 have G5 := Lib.hid (HG4.out.trans (g5.mono HG4.out.size))
 have O5 := Lib.hid (HO4.out.ext g5)
 have B7 := Lib.hid b7
 have HLT := Lib.hid (fun k (h : (Value.slice A n c).ownBlock = some k) => (own_lt HO4.out h).2)
 have HV4 := Lib.hid HG4.out.size
 have HWB := Lib.hid (show w.heap.size ≤ W3.heap.size by rw [← HW3.out]; simp; omega)
 rw [hW5]
 clear g5 b7 hW5
 have HPO := Lib.hid (show Blk W5 w.heap.size 38 (plb p A1 A2 A3 n1 c1 n2 c2 n3 c3) from HB0.out.ext G5.out)
 -- the first range
 have q0 := HPO.out.cell 0
 have q1 := HPO.out.cell 1
 have t0 := B7.out.cell 0
 have t1 := B7.out.cell 1
 have z1 := B7.out.frozen 1
 have GU := Lib.hid G5.out
 have HB7 := Lib.hid (show W3.heap.size ≤ V4.heap.size from HV4.out)
 have BU := Lib.hid B7.out
 have OL := Lib.hid O5.out
 have OS := Lib.hid (OwnL.nil (f := rcells) (size := 2) (e := 33) W5 (V4.heap.size + 1))
 have XO := Lib.hid (OS.out.ext (one_more W5 (.cells #[.int .i64 p.lo, .int .i64 p.hi] 33)))
 have hb7 := B7.out.lt
 go_upto_region 3 with (at_builtin; go_loud ((refine wpList_app kdR (by rfl) _ _ (by rfl) (V4.heap.size + 1) _ [] (by rfl) XO.out _ _ _ [⟨p.lo, p.hi⟩] (by rfl) (Blk.arr1 (f := rcells) (size := 2) (e := 33) (x := (⟨p.lo, p.hi⟩ : Rg)) (Blk.new W5 33 _)) (by simp) (by rw [World.size_alloc]; omega) ?_); intro v6 V6 ho hgr hz; obtain ⟨B9, d9, hv6, -, -, -, -⟩ := OwnL.arr kdR ho; obtain ⟨q9, hq9⟩ : ∃ q, ([] ++ [(⟨p.lo, p.hi⟩ : Rg)]).length = q := ⟨_, rfl⟩; rw [hq9] at hv6; subst hv6; have HQ9 := Lib.hid hq9; have HTN := Lib.hid (row_turn (v' := .slice B9 q9 d9) GU.out HB7.out BU.out OL.out HLT.out OS.out hgr ho); have hbg := (BU.out.alloc (.cells #[.int .i64 p.lo, .int .i64 p.hi] 33)).grown hgr (fun e => by have := (own_lt OS.out e).1; omega); have l1 := hbg.cell 1; have f1 := hbg.frozen 1; clear ho hgr hz hbg hq9))
 obtain ⟨hT1, hT2, hT3, hT4⟩ := HTN.out
 obtain ⟨b7, hb7e⟩ : ∃ b, V4.heap.size = b := ⟨_, rfl⟩
 rw [hb7e] at hT1 hT2 hT3 hT4 HB7 HLT
 rw [hb7e]
 obtain ⟨W7, hW7⟩ : ∃ W, V6.setCell ⟨b7, 1, none⟩ (.slice B9 q9 d9) = W := ⟨_, rfl⟩
 rw [hW7] at hT1 hT2 hT3 hT4
 rw [hW7]
 have G7 := Lib.hid hT1
 have B77 := Lib.hid hT2
 have L7 := Lib.hid hT3
 have S7 := Lib.hid (show OwnL rcells 2 33 W7 (b7 + 1) (.slice B9 q9 d9) (stood0 p 0) from hT4)
 clear hT1 hT2 hT3 hT4 hb7e hW7 l1 f1 t0 t1 z1 q0 q1 hb7 HTN GU BU OL OS XO
 go_wp2_with fail
 go_loopw [8] (fun i wr => ∃ (k : Nat) (B : Option Addr) (q d : Nat), i = .int .i64 k ∧ k ≤ n ∧ Below W3.heap.size W3 wr ∧ Blk wr b7 191 #[.slice A n c, .slice B q d] ∧ OwnL scells 6 103 wr W3.heap.size (.slice A n c) (lkK m ls k) ∧ OwnL rcells 2 33 wr (b7 + 1) (.slice B q d) (stood0 p k)) (fun i _ => n - (intOf i).toNat)
 case atStart => exact ⟨0, _, _, _, rfl, Nat.zero_le _, G7.out, B77.out, L7.out, S7.out⟩
 case round =>
  clear G7 B77 L7 S7
  obtain ⟨k, B, q, d, rfl, hk, hg, hb, hl, hs⟩ := hrel
  obtain ⟨V, rfl⟩ : ∃ V : World, V = wr := ⟨_, rfl⟩
  have GV := Lib.hid hg
  have BV := Lib.hid hb
  have LV := Lib.hid hl
  have SV := Lib.hid hs
  have t0 := hb.cell 0
  have t1 := hb.cell 1
  have hk9 : k ≤ 1000 := by have := HN9.out; omega
  clear hg hb hl hs
  by_cases hkn : k < n
  ·obtain ⟨bA, hA⟩ := six_own LV.out (by omega)
   obtain ⟨x, hx⟩ : ∃ x, ls.getD k z6 = x := ⟨_, rfl⟩
   have hkl : k < ls.length := by rw [HNL.out]; exact hkn
   have HAT := Lib.hid (show (lkK m ls k)[k]? = some x by rw [lkK_at hkl, hx])
   have HX := Lib.hid hx
   have HKL := Lib.hid hkl
   obtain ⟨b9, o9, e9, -, -, hc9⟩ := six_at (own_arr LV.out) hkn
   rw [getD_six_of HAT.out] at hc9
   subst hA
   cases e9
   simp only [Nat.zero_add] at hc9
   have hki : (k : Int) < (n : Int) := by omega
   have u0 := cellW (hc9 V (Below.refl _ _)).1
   have u1 := cellW t0
   have u2 := cellW ((HB1.out.ext GV.out).cell 0)
   have u3 := cellW ((HB1.out.ext GV.out).cell 1)
   have TH := fun (z : Wd V) => refHas_any N nn cn by_ x.a z.val ((HBY.out.below GV.out).below z.ok) HNN.out
   obtain ⟨mx, hmx⟩ : ∃ b, m x.a = b := ⟨_, rfl⟩
   have HMX := Lib.hid hmx
   clear hx hkl hc9
   go_upto_region 6 with fail
   go_cut [44] from 30 to 44 (fun s wx => s = .bool (!mx) ∧ Below V.heap.size V wx)
   case first =>
    cases all with
    | true =>
     have e : mx = true := by rw [← HMX.out, ← HM.out]; rfl
     subst e
     clear TH hmx
     refine wp_region_calm V (by kernel_rfl) (by kernel_rfl) (Below.refl _ _) ?_
     repeat (go_big_quiet_step (fail))
     refine wpQuiet_nil ?_
     rintro _ ⟨z, rfl⟩
     go_wp2_with fail
     go_meet
     exact ⟨rfl, z.ok⟩
    | false =>
     have e : hasI by_ x.a = mx := by rw [← HMX.out, ← HM.out]; rfl
     rw [e] at TH
     have HTH := Lib.hid TH
     clear TH e hmx
     refine wp_region_calm V (by kernel_rfl) (by kernel_rfl) (Below.refl _ _) ?_
     repeat (go_big_quiet_step ((go_at_call 47; exact callsCalmSame (HTH.out _))))
     refine wpQuiet_nil ?_
     rintro _ ⟨z, rfl⟩
     go_wp2_with fail
     go_meet
     exact ⟨rfl, z.ok⟩
   case rest =>
    obtain ⟨rfl, hgc⟩ := hcut
    obtain ⟨U, rfl⟩ : ∃ U : World, U = wc := ⟨_, rfl⟩
    have HB7 := HB7
    have GU := Lib.hid (GV.out.trans (hgc.mono GV.out.size))
    have BU := Lib.hid (BV.out.ext hgc)
    have OL := Lib.hid (LV.out.ext hgc)
    have OS := Lib.hid (SV.out.ext hgc)
    clear hgc u0 u1 u2 u3 t0 t1 TH hmx
    cases mx with
    | true =>
     have HLK := Lib.hid (lkK_same (m := m) HKL.out (by rw [HX.out]; exact HMX.out))
     have t0 := BU.out.cell 0
     have t1 := BU.out.cell 1
     have hul := BU.out.lt
     have XO := Lib.hid (OS.out.ext (one_more U (.cells #[.int .i64 0, .int .i64 10000] 33)))
     go_wp2_with (at_builtin; go_loud ((refine wpList_app kdR (by rfl) _ _ (by rfl) (b7 + 1) _ (stood0 p k) (by rfl) XO.out _ _ _ [⟨0, 10000⟩] (by rfl) (Blk.arr1 (f := rcells) (size := 2) (e := 33) (x := (⟨0, 10000⟩ : Rg)) (Blk.new U 33 _)) (by unfold stood0; simp; omega) (by rw [World.size_alloc]; omega) ?_); intro v6 V6 ho hgr hz; obtain ⟨B9, d9, hv6, -, -, -, -⟩ := OwnL.arr kdR ho; obtain ⟨q9, hq9⟩ : ∃ q, ((stood0 p k) ++ [(⟨0, 10000⟩ : Rg)]).length = q := ⟨_, rfl⟩; rw [hq9] at hv6; subst hv6; have HQ9 := Lib.hid hq9; have HTN := Lib.hid (row_turn (v' := .slice B9 q9 d9) GU.out HB7.out BU.out OL.out HLT.out OS.out hgr ho); have hbg := (BU.out.alloc (.cells #[.int .i64 0, .int .i64 10000] 33)).grown hgr (fun e => by have := (own_lt OS.out e).1; omega); have l1 := hbg.cell 1; have f1 := hbg.frozen 1; clear ho hgr hz hbg hq9))
     obtain ⟨hT1, hT2, hT3, hT4⟩ := HTN.out
     go_roundw
     case rel => exact ⟨k + 1, B9, q9, d9, by go_num, by omega, hT1, hT2, by rw [HLK.out]; exact hT3, by rw [← stood0_succ]; exact hT4⟩
     case measure => simp [intOf]; omega
    | false =>
     have HSU := Lib.hid (lkK_succ (m := m) HKL.out)
     have t0 := BU.out.cell 0
     obtain ⟨b9, o9, e9, -, -, hc9⟩ := six_at (own_arr OL.out) hkn
     rw [getD_six_of HAT.out] at hc9
     cases e9
     simp only [Nat.zero_add] at hc9
     obtain ⟨-, -, y2, y3, -, -⟩ := hc9 U (Below.refl _ _)
     have f2 := own_free OL.out (k * 6 + 2)
     have f3 := own_free OL.out (k * 6 + 3)
     have hAb := HLT.out bA rfl
     have hv : veil m x = { x with c := 0, d := 10000 } := by unfold veil; rw [if_neg (by rw [HMX.out]; decide)]
     have HV := Lib.hid hv
     clear hc9 hv
     go_upto_region 8 with fail
     obtain ⟨U2, hU2⟩ : ∃ W, (U.setCell ⟨bA, k * 6 + 2, none⟩ (.int .i64 0)).setCell ⟨bA, k * 6 + 3, none⟩ (.int .i64 10000) = W := ⟨_, rfl⟩
     have hp1 := OL.out.put1 scells_len (x := x) (x' := { x with c := 0 }) (u := .int .i64 0) (j := 2) HAT.out (by decide) rfl
     have hp2 := hp1.put1 scells_len (x := { x with c := 0 }) (x' := { x with c := 0, d := 10000 }) (u := .int .i64 10000) (j := 3) (i := k) (by rw [List.getElem?_set_self (by rw [lkK_len]; exact HKL.out)]) (by decide) rfl
     rw [List.set_set, ← HV.out, ← HX.out, HSU.out, hU2] at hp2
     have GU := Lib.hid (show Below W3.heap.size W3 U2 by
      rw [← hU2]
      have hb := (own_lt OL.out (k := bA) rfl).1
      exact (GU.out.setCell (p := ⟨bA, k * 6 + 2, none⟩) hb _).setCell (p := ⟨bA, k * 6 + 3, none⟩) hb _)
     have BU := Lib.hid (show Blk U2 b7 191 #[.slice (some ⟨bA, 0, none⟩) n c, .slice B q d] by
      rw [← hU2]
      exact (BU.out.far (p := ⟨bA, k * 6 + 2, none⟩) (by dsimp only; omega) _).far (p := ⟨bA, k * 6 + 3, none⟩) (by dsimp only; omega) _)
     have OS := Lib.hid (show OwnL rcells 2 33 U2 (b7 + 1) (.slice B q d) (stood0 p k) by
      rw [← hU2]
      exact (OS.out.far (p := ⟨bA, k * 6 + 2, none⟩) (by dsimp only; omega) _).far (p := ⟨bA, k * 6 + 3, none⟩) (by dsimp only; omega) _)
     have OL := Lib.hid hp2
     rw [hU2]
     clear hp1 hp2 hU2 y2 y3 f2 f3 t0 hAb
     have t0 := BU.out.cell 0
     have t1 := BU.out.cell 1
     have hul := BU.out.lt
     have XO := Lib.hid (OS.out.ext (one_more U2 (.cells #[.int .i64 0, .int .i64 10000] 33)))
     go_wp2_with (at_builtin; go_loud ((refine wpList_app kdR (by rfl) _ _ (by rfl) (b7 + 1) _ (stood0 p k) (by rfl) XO.out _ _ _ [⟨0, 10000⟩] (by rfl) (Blk.arr1 (f := rcells) (size := 2) (e := 33) (x := (⟨0, 10000⟩ : Rg)) (Blk.new U2 33 _)) (by unfold stood0; simp; omega) (by rw [World.size_alloc]; omega) ?_); intro v6 V6 ho hgr hz; obtain ⟨B9, d9, hv6, -, -, -, -⟩ := OwnL.arr kdR ho; obtain ⟨q9, hq9⟩ : ∃ q, ((stood0 p k) ++ [(⟨0, 10000⟩ : Rg)]).length = q := ⟨_, rfl⟩; rw [hq9] at hv6; subst hv6; have HQ9 := Lib.hid hq9; have HTN := Lib.hid (row_turn (v' := .slice B9 q9 d9) GU.out HB7.out BU.out OL.out HLT.out OS.out hgr ho); have hbg := (BU.out.alloc (.cells #[.int .i64 0, .int .i64 10000] 33)).grown hgr (fun e => by have := (own_lt OS.out e).1; omega); have l1 := hbg.cell 1; have f1 := hbg.frozen 1; clear ho hgr hz hbg hq9))
     obtain ⟨hT1, hT2, hT3, hT4⟩ := HTN.out
     go_roundw
     case rel => exact ⟨k + 1, B9, q9, d9, by go_num, by omega, hT1, hT2, hT3, by rw [← stood0_succ]; exact hT4⟩
     case measure => simp [intOf]; omega
  ·obtain rfl : n = k := by omega
   have hq1 := (own_arrR SV.out).1
   have hq2 : (stood0 p n).length = n + 1 := by unfold stood0; simp
   obtain ⟨gB, hB⟩ := own_someR SV.out (by omega)
   have HQ := Lib.hid (show q = n + 1 by omega)
   have HLL := Lib.hid (show (lookL p known m).length = n by rw [HLC.out, List.length_map]; exact HNL.out)
   obtain ⟨LL, hLL⟩ : ∃ l, lookL p known m = l := ⟨_, rfl⟩
   have L8 := Lib.hid (show OwnL scells 6 103 V W3.heap.size (.slice A n c) LL by
    have h := LV.out
    rw [← hLL, HLC.out]
    have e := lkK_end m ls
    rw [HNL.out] at e
    rwa [e] at h)
   rw [hLL] at HLL HUP
   have HLLE := Lib.hid hLL
   have HF0 := Lib.hid (show OwnL rcells 2 33 V (b7 + 1) (.slice B q d) (standsF known m LL (p.stands.take 0) (stood0 p n)) from SV.out)
   subst hB
   have t1' := BV.out.cell 1
   clear hLL hq1 hq2 SV LV
   have h20 := (HB0.out.ext GV.out).cell 3
   have G0 := Lib.hid GV.out
   have BB := Lib.hid BV.out
   clear GV BV
   obtain ⟨V9, hV9⟩ : ∃ V9, V = V9 := ⟨_, rfl⟩
   rw [hV9] at G0 BB L8 HF0 t0 t1 h20 t1' ⊢
   clear hV9
   go_wp2_with fail
   clear t0 t1 h20 t1'
   go_loopw [9] (fun i wr => ∃ j : Nat, i = .int .i64 j ∧ j ≤ n2 ∧ Below W3.heap.size W3 wr ∧ Blk wr b7 191 #[.slice A n c, .slice (some ⟨gB, 0, none⟩) q d] ∧ OwnL scells 6 103 wr W3.heap.size (.slice A n c) LL ∧ OwnL rcells 2 33 wr (b7 + 1) (.slice (some ⟨gB, 0, none⟩) q d) (standsF known m LL (p.stands.take j) (stood0 p n))) (fun i _ => n2 - (intOf i).toNat)
   case atStart => exact ⟨0, rfl, Nat.zero_le _, G0.out, BB.out, L8.out, HF0.out⟩
   case round =>
    clear G0 BB L8 HF0
    obtain ⟨j, rfl, hj, hg, hb, hl, hs⟩ := hrel
    obtain ⟨V, rfl⟩ : ∃ V : World, V = wr := ⟨_, rfl⟩
    have GV := Lib.hid hg
    have BV := Lib.hid hb
    have LV := Lib.hid hl
    have SV := Lib.hid hs
    have t0 := hb.cell 0
    have t1 := hb.cell 1
    have h20 := (HB0.out.ext hg).cell 3
    have hj9 : j ≤ 1000 := by have := HNB.out; omega
    have hbl := hb.lt
    clear hg hb hl hs
    by_cases hjn : j < n2
    ·obtain ⟨b9, o9, e9, -, -, hc9⟩ := six_at (HPA.out.l2.below GV.out) hjn
     obtain ⟨x0, x1, x2, x3, x4, x5⟩ := hc9 _ (Below.refl _ _)
     have HSN := Lib.hid (standsF_snoc known m LL (l := p.stands) (k := j) (by rw [HPA.out.l2.1]; exact hjn) (stood0 p n))
     obtain ⟨s, hs⟩ : ∃ s, p.stands.getD j z6 = s := ⟨_, rfl⟩
     rw [hs] at x0 x1 x2 x3 x4 x5 HSN
     subst e9
     have hji : (j : Int) < (n2 : Int) := by omega
     clear hc9 hs
     go_upto_region 13 with fail
     obtain ⟨V1, hV1⟩ : ∃ V1, V.alloc (.cells #[.int .i64 s.a, .int .i64 s.b, .int .i64 s.c, .int .i64 s.d, .int .i64 s.e, .int .i64 s.f] 105) = V1 := ⟨_, rfl⟩
     have g1 : Below V.heap.size V V1 := by rw [← hV1]; exact one_more _ _
     have BS := Lib.hid (show Blk V1 V.heap.size 105 #[.int .i64 s.a, .int .i64 s.b, .int .i64 s.c, .int .i64 s.d, .int .i64 s.e, .int .i64 s.f] by rw [← hV1]; exact Blk.new _ _ _)
     rw [hV1]
     have G1 := Lib.hid (GV.out.trans (g1.mono GV.out.size))
     have B1' := Lib.hid (BV.out.ext g1)
     have L1' := Lib.hid (LV.out.ext g1)
     have S1' := Lib.hid (SV.out.ext g1)
     have HVB := Lib.hid hbl
     clear hV1 g1 x0 x1 x2 x3 x4 x5 t0 t1 h20
     have y0 := BS.out.cell 0
     have y1 := BS.out.cell 1
     have y2 := BS.out.cell 2
     have y3 := BS.out.cell 3
     have y4 := BS.out.cell 4
     have y5 := BS.out.cell 5
     have w0 := (HB1.out.ext G1.out).cell 0
     have w1 := (HB1.out.ext G1.out).cell 1
     obtain ⟨cs, hcs⟩ : ∃ b, cnt s known = b := ⟨_, rfl⟩
     obtain ⟨ms, hms⟩ : ∃ b, m s.a = b := ⟨_, rfl⟩
     rw [hcs, hms] at HSN
     have TC := fun X => refCnt_any s known X
     rw [hcs] at TC
     have HTC := Lib.hid TC
     have TH := fun (X : World) (g : Below V1.heap.size V1 X) => refHas_any N nn cn by_ s.a X ((HBY.out.below G1.out).below g) HNN.out
     have HMS := Lib.hid hms
     clear TC hcs
     go_cut [85] from 69 to 85 (fun q wx => q = .bool (cs && ms) ∧ V1 = wx)
     case first =>
      cases cs with
      | false =>
       clear TH hms
       go_wp2_with (go_at_call 183; (with_reducible refine (HTC.out _).mono ?_); rintro e w' ⟨rfl, rfl⟩)
       go_meet
       exact ⟨rfl, rfl⟩
      | true =>
       cases all with
       | true =>
        have e : ms = true := by rw [← HMS.out, ← HM.out]; rfl
        subst e
        clear TH hms
        go_wp2_with (go_at_call 183; (with_reducible refine (HTC.out _).mono ?_); rintro e w' ⟨rfl, rfl⟩)
        go_meet
        exact ⟨rfl, rfl⟩
       | false =>
        have e : hasI by_ s.a = ms := by rw [← HMS.out, ← HM.out]; rfl
        rw [e] at TH
        have HTH := Lib.hid (TH V1 (Below.refl _ _))
        clear TH e hms
        go_wp2_with (first
         | (go_at_call 183; (with_reducible refine (HTC.out _).mono ?_); rintro e w' ⟨rfl, rfl⟩)
         | (go_at_call 47; (with_reducible refine (HTH.out).mono ?_); rintro e w' ⟨rfl, rfl⟩))
        go_meet
        exact ⟨by simp, rfl⟩
     case rest =>
      obtain ⟨rfl, rfl⟩ := hcut
      clear TH hms w0 w1
      obtain ⟨cm, hcm⟩ : ∃ b, (cs && ms) = b := ⟨_, rfl⟩
      rw [hcm] at HSN
      rw [hcm]
      clear hcm
      cases cm with
      | false =>
       have HS2 := Lib.hid (show standsF known m LL (p.stands.take (j + 1)) (stood0 p n) = standsF known m LL (p.stands.take j) (stood0 p n) by rw [HSN.out]; rfl)
       go_wp2_with fail
       go_roundw
       case rel => exact ⟨j + 1, by go_num, by omega, G1.out, B1'.out, L1'.out, by rw [HS2.out]; exact S1'.out⟩
       case measure => simp [intOf]; omega
      | true =>
       obtain ⟨t, ht⟩ : ∃ t, after LL s.b = t := ⟨_, rfl⟩
       have HS2 := Lib.hid (show standsF known m LL (p.stands.take (j + 1)) (stood0 p n) = nar (standsF known m LL (p.stands.take j) (stood0 p n)) t ⟨s.c, s.d⟩ by rw [HSN.out, ← ht]; rfl)
       have TI := refIndex_any A n c LL (some ⟨gB, 0, none⟩) q d s.b V1 (own_arr L1'.out) HN9.out HUP.out
       rw [ht] at TI
       have HTI := Lib.hid TI
       have htn : t ≤ n := by rw [← ht, ← HLL.out]; exact after_len _ _
       obtain ⟨st, hst⟩ : ∃ l, standsF known m LL (p.stands.take j) (stood0 p n) = l := ⟨_, rfl⟩
       rw [hst] at HS2 S1'
       have t0 := B1'.out.cell 0
       have t1 := B1'.out.cell 1
       clear TI ht hst
       go_upto_region 15 with (go_at_call 118; (with_reducible refine (HTI.out).mono ?_); rintro e V2 ⟨rfl, hg⟩; have HG2 := Lib.hid hg; clear hg)
       have G2 := Lib.hid (G1.out.trans (HG2.out.mono G1.out.size))
       have B2' := Lib.hid (B1'.out.ext HG2.out)
       have L2' := Lib.hid (L1'.out.ext HG2.out)
       have S2' := Lib.hid (S1'.out.ext HG2.out)
       have BS2 := Lib.hid (BS.out.ext HG2.out)
       obtain ⟨b8, o8, e8, hx8, hc8⟩ := rg_at9 (own_arrR S2'.out) (k := t) (by have := HQ.out; omega)
       cases e8
       simp only [Nat.zero_add] at hc8
       obtain ⟨r, hr⟩ : ∃ r, st.getD t zR = r := ⟨_, rfl⟩
       rw [hr] at hx8 hc8
       have HX8 := Lib.hid hx8
       have HR := Lib.hid hr
       have HKP := Lib.hid (fun X (g : Below V2.heap.size V2 X) => (⟨(B2'.out.ext g).cell 1, (hc8 X g).1, (hc8 X g).2, (BS2.out.ext g).cell 2, (BS2.out.ext g).cell 3⟩ : X.cell? ⟨b7, 1, none⟩ = some (.slice (some ⟨gB, 0, none⟩) q d) ∧ X.cell? ⟨gB, t * 2, none⟩ = some (.int .i64 r.lo) ∧ X.cell? ⟨gB, t * 2 + 1, none⟩ = some (.int .i64 r.hi) ∧ X.cell? ⟨V.heap.size, 2, none⟩ = some (.int .i64 s.c) ∧ X.cell? ⟨V.heap.size, 3, none⟩ = some (.int .i64 s.d)))
       have htq : (t : Int) < (q : Int) := by have := HQ.out; omega
       clear t0 t1 y0 y1 y2 y3 y4 y5 hx8 hc8 hr
       obtain ⟨k0, k1, k2, k3, k4⟩ := HKP.out V2 (Below.refl _ _)
       have u0 := cellW k0
       have u1 := cellW k1
       have u2 := cellW k2
       have u3 := cellW k3
       have u4 := cellW k4
       refine wp_region_calm_tail V2 12 (by kernel_rfl) (by kernel_rfl) (Below.refl _ _) ?_
       simp only [List.take_succ_cons, List.take_zero, List.drop_succ_cons, List.drop_zero]
       repeat (go_big_quiet_step ((go_at_call 121; exact callsCalm (cut_any r.lo r.hi s.c s.d _))))
       refine wpQuiet_nil ?_
       rintro _ ⟨z, rfl⟩
       obtain ⟨V9, hV9⟩ : ∃ V9, z.val = V9 := ⟨_, rfl⟩
       have g9 := z.ok
       rw [hV9] at g9 ⊢
       have G9 := Lib.hid g9
       clear g9 hV9 u0 u1 u2 u3 u4 k0 k1 k2 k3 k4 z
       obtain ⟨i0, i1, i2, i3, i4⟩ := HKP.out V9 G9.out
       have f0 := own_freeR (S2'.out.ext G9.out) (t * 2)
       have f1 := own_freeR (S2'.out.ext G9.out) (t * 2 + 1)
       go_wp2_with fail
       have hO := (S2'.out.ext G9.out)
       have hp1 := hO.put1 rcells_len (x := r) (x' := ⟨max r.lo s.c, r.hi⟩) (u := .int .i64 (max r.lo s.c)) (j := 0) HX8.out (by decide) rfl
       have hlt : t < st.length := (List.getElem?_eq_some_iff.1 HX8.out).1
       have hp2 := hp1.put1 rcells_len (x := ⟨max r.lo s.c, r.hi⟩) (x' := ⟨max r.lo s.c, min r.hi s.d⟩) (u := .int .i64 (min r.hi s.d)) (j := 1) (i := t) (by rw [List.getElem?_set_self hlt]) (by decide) rfl
       rw [List.set_set] at hp2
       have hgb := (own_lt hO (k := gB) rfl).1
       have hA9 := HLT.out
       have h7 := HB7.out
       have hW := HWB.out
       go_roundw
       case rel => exact ⟨j + 1, by go_num, by omega, ((G2.out.trans (G9.out.mono G2.out.size)).setCell (p := ⟨gB, t * 2, none⟩) (by dsimp only; omega) _).setCell (p := ⟨gB, t * 2 + 1, none⟩) (by dsimp only; omega) _,
        ((B2'.out.ext G9.out).far (p := ⟨gB, t * 2, none⟩) (by dsimp only; omega) _).far (p := ⟨gB, t * 2 + 1, none⟩) (by dsimp only; omega) _,
        ((L2'.out.ext G9.out).apart (p := ⟨gB, t * 2, none⟩) (fun e => by have := hA9 _ e; dsimp only at this; omega) _).apart (p := ⟨gB, t * 2 + 1, none⟩) (fun e => by have := hA9 _ e; dsimp only at this; omega) _,
        by rw [HS2.out]; unfold nar; rw [HR.out]; exact hp2⟩
       case measure => simp [intOf]; omega
    ·obtain rfl : n2 = j := by omega
     have HEND := Lib.hid (show OwnL rcells 2 33 V (b7 + 1) (.slice (some ⟨gB, 0, none⟩) q d) (standsF known m LL p.stands (stood0 p n)) by have := SV.out; rwa [List.take_of_length_le (by rw [HPA.out.l2.1]; exact Nat.le_refl _)] at this)
     have HBR := Lib.hid (HB2.out.ext GV.out)
     have m0 := HBR.out.cell 0
     have m1 := HBR.out.cell 1
     have z0 := HBR.out.frozen 0
     have z1 := HBR.out.frozen 1
     go_wp2_with fail
     have hb9 := (HBR.out.set_ 0 (.slice A n c)).set_ 1 (.slice (some ⟨gB, 0, none⟩) q d)
     have v0 := hb9.cell 0
     have v1 := hb9.cell 1
     have h3 := HSZ.out
     have h7 := HB7.out
     have HG9 := Lib.hid (((GA.out.trans (GV.out.mono GA.out.size)).setCell (p := ⟨w.heap.size + 1 + 1, 0, none⟩) (by dsimp only; omega) (.slice A n c)).setCell (p := ⟨w.heap.size + 1 + 1, 1, none⟩) (by dsimp only; omega) (.slice (some ⟨gB, 0, none⟩) q d))
     have HL9 := Lib.hid ((LV.out.far (p := ⟨w.heap.size + 1 + 1, 0, none⟩) (by dsimp only; omega) (.slice A n c)).far (p := ⟨w.heap.size + 1 + 1, 1, none⟩) (by dsimp only; omega) (.slice (some ⟨gB, 0, none⟩) q d))
     have HS9 := Lib.hid ((HEND.out.far (p := ⟨w.heap.size + 1 + 1, 0, none⟩) (by dsimp only; omega) (.slice A n c)).far (p := ⟨w.heap.size + 1 + 1, 1, none⟩) (by dsimp only; omega) (.slice (some ⟨gB, 0, none⟩) q d))
     have HAP := Lib.hid (show ∀ k, (Value.slice A n c).ownBlock = some k → (Value.slice (some ⟨gB, 0, none⟩) q d).ownBlock ≠ some k from fun k e e2 => by
      have h1 := HLT.out k e
      have h2 := (own_lt HEND.out e2).1
      omega)
     clear hb9
     refine bodyPost_ret (v := .agg #[.slice A n c, .slice (some ⟨gB, 0, none⟩) q d]) ?_ rfl ⟨⟨A, n, c, some ⟨gB, 0, none⟩, q, d, rfl, ?_, ?_, HAP.out⟩, HG9.out⟩
     ·simp [results, Tryz.results120, go_sem, v0, v1]
     ·rw [HLLE.out]; exact HL9.out.mono GA.out.size
     ·rw [HLLE.out, HLL.out]; exact HS9.out.mono (by have := GA.out.size; omega)
end Go.Proofs.YtkoejeghihcmlaaGreat

namespace Go.Proofs.YtkoejeghihcmlaaGreat
open Go.RowKit Go.Shelf
theorem own_ne_blk {w : World} {base b : Nat} {t : TypeId} {cs : Array Value} {v : Value} {xs : List Rg} (h : OwnL rcells 2 33 w base v xs) (hb : Blk w b t cs) (ht : t ≠ 33) : v.ownBlock ≠ some b := fun e => by
 obtain ⟨-, -, cur, hc⟩ := own_cells h e
 unfold Blk at hb
 rw [hb] at hc
 simp at hc
 exact ht hc.2
theorem emptyR (V : World) : OwnL rcells 2 33 (V.alloc (.cells #[] 33)).drew V.heap.size (.slice (some ⟨V.heap.size, 0, none⟩) 0 0) [] := World.ownsRow_made (e := 33) (size := 2) V #[] 0 (Nat.le_refl _) (by decide) rfl
theorem emptyR2 (V : World) (o : Obj) : OwnL rcells 2 33 ((V.alloc o).alloc (.cells #[] 33)).drew V.heap.size (.slice (some ⟨V.heap.size + 1, 0, none⟩) 0 0) [] := by
 have := World.ownsRow_made (e := 33) (size := 2) (base := V.heap.size) (V.alloc o) #[] 0 (by simp) (by decide) rfl
 rw [World.size_alloc] at this
 exact this
theorem fwdK_succ (ls : List Six) (st : List Rg) (k : Nat) : fwdK ls st (k + 1) = nar (fwdK ls st k) (k + 1) ⟨((fwdK ls st k).getD k zR).lo - (ls.getD k z6).d, ((fwdK ls st k).getD k zR).hi - (ls.getD k z6).c⟩ := rfl
theorem bwdK_succ (ls : List Six) (st : List Rg) (k : Nat) : bwdK ls st (k + 1) = nar (bwdK ls st k) (ls.length - 1 - k) ⟨((bwdK ls st k).getD (ls.length - k) zR).lo + (ls.getD (ls.length - 1 - k) z6).c, ((bwdK ls st k).getD (ls.length - k) zR).hi + (ls.getD (ls.length - 1 - k) z6).d⟩ := rfl
theorem fwdK_bd {ls : List Six} {st : List Rg} (hw : Wb ls) (hl : st.length = ls.length + 1) (hb : Bd st 10000000) : ∀ k, k ≤ ls.length → Bd (fwdK ls st k) (10000000 + 10000 * (k : Int))
 | 0, _ => by simpa [fwdK] using hb
 | k + 1, hk => by
  have ih := fwdK_bd hw hl hb k (by omega)
  have := ih.fwd hw (by rw [fwd_len]; exact hl) (i := k) (by omega)
  exact (show Bd (fwdK ls st (k + 1)) _ from this).mono (by omega)
theorem bwdK_bd {ls : List Six} {st : List Rg} (hw : Wb ls) (hl : st.length = ls.length + 1) (hb : Bd st 20000000) : ∀ k, k ≤ ls.length → Bd (bwdK ls st k) (20000000 + 10000 * (k : Int))
 | 0, _ => by simpa [bwdK] using hb
 | k + 1, hk => by
  have ih := bwdK_bd hw hl hb k (by omega)
  have hlen := bwd_len ls st k
  have h1 := ih (ls.length - k) (by omega)
  have h2 := hw (ls.length - 1 - k) (by omega)
  rw [bwdK_succ]
  refine (ih.nar (D := 10000) (by decide) ?_ (by omega)).mono (by omega)
  dsimp only
  unfold Ls Gr at h2
  unfold Lo Hi at h1
  omega
set_option maxRecDepth 100000 in
set_option maxHeartbeats 16000000 in
theorem refSettled_any (A : Option Addr) (n c : Nat) (L : List Six) (B : Option Addr) (q d : Nat) (st : List Rg) (w : World) (ha : Arr scells 6 w A n L) (hs : Arr rcells 2 w B q st) (hn : n ≤ 1000) (hq : q = n + 1) (hw : Wb L) (hb : Bd st 10000000) :
  Calls Tryz.prog 122 #[.agg #[.slice A n c, .slice B q d]] w fun e w' => (∃ B' d', e = .returned (.tuple #[.agg #[.slice A n c, .slice B' q d'], .bool (sound (settle L st))]) ∧ OwnL rcells 2 33 w' w.heap.size (.slice B' q d') (settle L st)) ∧ Below w.heap.size w w' := by
 obtain ⟨W2, hW2⟩ : ∃ W2, (w.alloc (.cells #[.slice A n c, .slice B q d] 191)).alloc (.cells #[.slice none 0 0, .slice none 0 0] 191) = W2 := ⟨_, rfl⟩
 have g0 : Below w.heap.size w W2 := by rw [← hW2]; exact two_more _ _ _
 have b1 : Blk W2 w.heap.size 191 #[.slice A n c, .slice B q d] := by rw [← hW2]; exact (Blk.new _ _ _).alloc _
 have b2 : Blk W2 (w.heap.size + 1) 191 #[.slice none 0 0, .slice none 0 0] := by
  rw [← hW2]
  have := Blk.new (w.alloc (.cells #[.slice A n c, .slice B q d] 191)) 191 #[.slice none 0 0, .slice none 0 0]
  rwa [World.size_alloc] at this
 have HA := Lib.hid (ha.below g0)
 have HS := Lib.hid (hs.below g0)
 have HLN := Lib.hid ha.1
 have HSL := Lib.hid (show st.length = L.length + 1 by rw [hs.1, ha.1]; exact hq)
 have HFB := Lib.hid (fun k hk => fwdK_bd hw HSL.out hb k hk)
 have HBB := Lib.hid (show ∀ k, k ≤ L.length → Bd (bwdK L (fwdK L st L.length) k) (20000000 + 10000 * (k : Int)) from fun k hk => bwdK_bd hw (by rw [fwd_len]; exact HSL.out) ((fwdK_bd hw HSL.out hb L.length (Nat.le_refl _)).mono (by have := ha.1; omega)) k hk)
 have HWB := Lib.hid hw
 have HQ := Lib.hid hq
 have HN9 := Lib.hid hn
 have GA := Lib.hid g0
 have HB1 := Lib.hid b1
 have HB2 := Lib.hid b2
 have HW2 := Lib.hid hW2
 have HSZ := Lib.hid b2.lt
 have k0 := b1.cell 0
 have k1 := b1.cell 1
 have HKP := Lib.hid (fun X (g : Below W2.heap.size W2 X) => (⟨(HB1.out.ext g).cell 0, (HB1.out.ext g).cell 1⟩ : X.cell? ⟨w.heap.size, 0, none⟩ = some (.slice A n c) ∧ X.cell? ⟨w.heap.size, 1, none⟩ = some (.slice B q d)))
 clear ha hs g0 b1 b2 hW2 hw hb hq
 go_enter Tryz.func122, Tryz.ntmps122
 go_upto_region 1 with fail
 rw [HW2.out]
 have GE1 := Lib.hid (show Below W2.heap.size W2 (W2.alloc (.cells #[] 33)).drew from (one_more _ _).drew)
 have GE2 := Lib.hid (show Below W2.heap.size W2 ((W2.alloc (.cells #[] 33)).alloc (.cells #[.slice none 0 0, .slice none 0 0] 191)).drew from (two_more _ _ _).drew)
 have GE3 := Lib.hid (show Below W2.heap.size W2 ((W2.alloc (.cells #[.slice none 0 0, .slice none 0 0] 191)).alloc (.cells #[] 33)).drew from (two_more _ _ _).drew)
 have OE1 := Lib.hid (emptyR W2)
 have OE2 := Lib.hid (OwnL.ext (w := W2.alloc (.cells #[] 33)) (emptyR W2) ((one_more (W2.alloc (.cells #[] 33)) (.cells #[.slice none 0 0, .slice none 0 0] 191)).drew))
 have OE3 := Lib.hid (emptyR2 W2 (.cells #[.slice none 0 0, .slice none 0 0] 191))
 have BX2 := Lib.hid (show Blk ((W2.alloc (.cells #[] 33)).alloc (.cells #[.slice none 0 0, .slice none 0 0] 191)).drew (W2.heap.size + 1) 191 #[.slice none 0 0, .slice none 0 0] by
  have := Blk.new (W2.alloc (.cells #[] 33)) 191 #[.slice none 0 0, .slice none 0 0]
  rw [World.size_alloc] at this
  exact this)
 have BX3 := Lib.hid (show Blk ((W2.alloc (.cells #[.slice none 0 0, .slice none 0 0] 191)).alloc (.cells #[] 33)).drew W2.heap.size 191 #[.slice none 0 0, .slice none 0 0] from (Blk.new W2 191 _).alloc _)
 obtain ⟨base, hbase⟩ : ∃ base, W2.heap.size = base := ⟨_, rfl⟩
 rw [hbase] at OE1 OE2 OE3 BX2 BX3
 have HBS := Lib.hid hbase
 have hq9 : q ≤ 1001 := by have := HQ.out; have := HN9.out; omega
 go_cut [4] from 10 to 16 (fun s wx => ∃ b4 B' d', s = .pointer (some ⟨b4, 0, none⟩) ∧ base ≤ b4 ∧ Below base W2 wx ∧ Blk wx b4 191 #[.slice A n c, .slice B' q d'] ∧ OwnL rcells 2 33 wx base (.slice B' q d') st)
 case first =>
  go_region_held3 (fun X => X.cell? ⟨w.heap.size, 0, none⟩ = some (.slice A n c) ∧ X.cell? ⟨w.heap.size, 1, none⟩ = some (.slice B q d))
   (with_reducible refine HKP.out _ ?_; repeat' first | (with_reducible exact Below.refl _ _) | (with_reducible exact HGA.out) | (with_reducible refine Below.drew ?_) | (with_reducible refine Below.allo9 ?_ (by first | (simp; done) | (simp; omega) | omega) _) | (with_reducible refine Below.setCell ?_ (by dsimp only; omega) _))
   (first
    | (refine step_app kdR (by rfl) _ _ (by rfl) base _ [] (by rfl) OE1.out B q d st (by rfl) (HS.out.below GE1.out) (by simp; omega) (by have := GE1.out.size; have := HBS.out; omega) ?_; intro v1 w1 ho1 hg1 hat1; have hbw := OE1.out.below hg1 (Nat.le_refl base) (by have := GE1.out.size; have := HBS.out; omega); have HGA := Lib.hid (show Below W2.heap.size W2 w1 from GE1.out.trans (hbw.mono (by have := HBS.out; omega))); have HO1 := Lib.hid (show OwnL rcells 2 33 w1 base v1 st by simpa using ho1); have hsa : base ≤ w1.heap.size := (by have := HGA.out.size; have := HBS.out; omega); obtain ⟨B', d', hv', -, -, -, -⟩ := OwnL.arr kdR HO1.out; rw [HS.out.1] at hv'; subst hv'; clear hbw ho1 hg1 hat1)
    | (refine step_app kdR (by rfl) _ _ (by rfl) base _ [] (by rfl) OE2.out B q d st (by rfl) (HS.out.below GE2.out) (by simp; omega) (by have := GE2.out.size; have := HBS.out; omega) ?_; intro v1 w1 ho1 hg1 hat1; have hbw := OE2.out.below hg1 (Nat.le_refl base) (by have := GE2.out.size; have := HBS.out; omega); have HGA := Lib.hid (show Below W2.heap.size W2 w1 from GE2.out.trans (hbw.mono (by have := HBS.out; omega))); have HO1 := Lib.hid (show OwnL rcells 2 33 w1 base v1 st by simpa using ho1); have hsa : base ≤ w1.heap.size := (by have := HGA.out.size; have := HBS.out; omega); obtain ⟨B', d', hv', -, -, -, -⟩ := OwnL.arr kdR HO1.out; rw [HS.out.1] at hv'; subst hv'; have KN := Lib.hid (show Blk w1 (base + 1) 191 #[.slice none 0 0, .slice none 0 0] from (hg1.block (base + 1) BX2.out.lt (by simp [Value.ownBlock])).trans BX2.out); have a0 := KN.out.cell 0; have a1 := KN.out.cell 1; have a2 := KN.out.frozen 0; have a3 := KN.out.frozen 1; clear hbw ho1 hg1 hat1)
    | (refine step_app kdR (by rfl) _ _ (by rfl) base _ [] (by rfl) OE3.out B q d st (by rfl) (HS.out.below GE3.out) (by simp; omega) (by have := GE3.out.size; have := HBS.out; omega) ?_; intro v1 w1 ho1 hg1 hat1; have hbw := OE3.out.below hg1 (Nat.le_refl base) (by have := GE3.out.size; have := HBS.out; omega); have HGA := Lib.hid (show Below W2.heap.size W2 w1 from GE3.out.trans (hbw.mono (by have := HBS.out; omega))); have HO1 := Lib.hid (show OwnL rcells 2 33 w1 base v1 st by simpa using ho1); have hsa : base ≤ w1.heap.size := (by have := HGA.out.size; have := HBS.out; omega); obtain ⟨B', d', hv', -, -, -, -⟩ := OwnL.arr kdR HO1.out; rw [HS.out.1] at hv'; subst hv'; have KN := Lib.hid (show Blk w1 base 191 #[.slice none 0 0, .slice none 0 0] from (hg1.block base BX3.out.lt (by simp [Value.ownBlock])).trans BX3.out); have a0 := KN.out.cell 0; have a1 := KN.out.cell 1; have a2 := KN.out.frozen 0; have a3 := KN.out.frozen 1; clear hbw ho1 hg1 hat1))
  all_goals (try go_wp2_with fail)
  all_goals go_meet
  all_goals first
   | exact ⟨_, _, _, rfl, hsa, by rw [← HBS.out]; exact HGA.out.trans ((one_more w1 _).mono HGA.out.size), Blk.new _ _ _, HO1.out.ext (one_more w1 _)⟩
   | exact ⟨_, _, _, rfl, by omega, ((by rw [← HBS.out]; exact HGA.out : Below base W2 w1).setCell (p := ⟨base + 1, 0, none⟩) (by dsimp only; omega) _).setCell (p := ⟨base + 1, 1, none⟩) (by dsimp only; omega) _, (KN.out.set_ 0 _).set_ 1 _, (HO1.out.apart (p := ⟨base + 1, 0, none⟩) (own_ne_blk HO1.out KN.out (by decide)) _).apart (p := ⟨base + 1, 1, none⟩) (own_ne_blk HO1.out KN.out (by decide)) _⟩
   | exact ⟨_, _, _, rfl, by omega, ((by rw [← HBS.out]; exact HGA.out : Below base W2 w1).setCell (p := ⟨base, 0, none⟩) (by dsimp only; omega) _).setCell (p := ⟨base, 1, none⟩) (by dsimp only; omega) _, (KN.out.set_ 0 _).set_ 1 _, (HO1.out.apart (p := ⟨base, 0, none⟩) (own_ne_blk HO1.out KN.out (by decide)) _).apart (p := ⟨base, 1, none⟩) (own_ne_blk HO1.out KN.out (by decide)) _⟩
 case rest =>
  obtain ⟨b4, B4, d4, rfl, hb4, hg, hbl, hso⟩ := hcut
  obtain ⟨gB, hB⟩ := own_someR hso (by have := HQ.out; omega)
  subst hB
  have GC := Lib.hid hg
  have BC := Lib.hid hbl
  have SC := Lib.hid (show OwnL rcells 2 33 wc base (.slice (some ⟨gB, 0, none⟩) q d4) (fwdK L st 0) from hso)
  have HB4 := Lib.hid hb4
  have c1' := hbl.cell 1
  obtain ⟨V4, hV4⟩ : ∃ V4, wc = V4 := ⟨_, rfl⟩
  rw [hV4] at GC BC SC ⊢
  clear hV4 hg hbl hso k0 k1 c1' hb4
  go_wp2_with fail
  go_loopw [5] (fun i wr => ∃ k : Nat, i = .int .i64 k ∧ k ≤ n ∧ Below base W2 wr ∧ Blk wr b4 191 #[.slice A n c, .slice (some ⟨gB, 0, none⟩) q d4] ∧ OwnL rcells 2 33 wr base (.slice (some ⟨gB, 0, none⟩) q d4) (fwdK L st k)) (fun i _ => n - (intOf i).toNat)
  case atStart => exact ⟨0, rfl, Nat.zero_le _, GC.out, BC.out, SC.out⟩
  case round =>
   clear GC BC SC
   obtain ⟨k, rfl, hk, hg, hbl, hso⟩ := hrel
   obtain ⟨V, rfl⟩ : ∃ V : World, V = wr := ⟨_, rfl⟩
   have GV := Lib.hid hg
   have BV := Lib.hid hbl
   have SV := Lib.hid hso
   have hvb : W2.heap.size ≤ V.heap.size := hg.size
   have GW := Lib.hid (show Below W2.heap.size W2 V by rw [HBS.out]; exact hg)
   have m0 := (HB1.out.ext GW.out).cell 0
   have t1 := hbl.cell 1
   have hk9 : k ≤ 1000 := by have := HN9.out; omega
   clear hg hbl hso
   by_cases hkn : k < n
   ·obtain ⟨b9, o9, e9, -, -, hc9⟩ := six_at (HA.out.below GW.out) hkn
    obtain ⟨x0, x1, x2, x3, x4, x5⟩ := hc9 _ (Below.refl _ _)
    obtain ⟨sp, hsp⟩ : ∃ l, fwdK L st k = l := ⟨_, rfl⟩
    have HFS := Lib.hid (fwdK_succ L st k)
    have HBD := Lib.hid (HFB.out k (by rw [HLN.out]; omega))
    have HSP := Lib.hid (show sp.length = n + 1 by rw [← hsp, fwd_len, HSL.out, HLN.out])
    have hwx := HWB.out k (by rw [HLN.out]; exact hkn)
    unfold Ls Gr at hwx
    rw [hsp] at HFS HBD SV
    obtain ⟨s, hs⟩ : ∃ s, L.getD k z6 = s := ⟨_, rfl⟩
    rw [hs] at x2 x3 HFS hwx
    subst e9
    have hki : (k : Int) < (n : Int) := by omega
    clear hc9 hs hsp x0 x1 x4 x5
    go_upto_region 6 with fail
    obtain ⟨V1, hV1⟩ : ∃ V1, V.alloc (.cells #[.int .i64 s.c, .int .i64 s.d] 33) = V1 := ⟨_, rfl⟩
    have g1 : Below V.heap.size V V1 := by rw [← hV1]; exact one_more _ _
    have BS := Lib.hid (show Blk V1 V.heap.size 33 #[.int .i64 s.c, .int .i64 s.d] by rw [← hV1]; exact Blk.new _ _ _)
    rw [hV1]
    have G1 := Lib.hid (GV.out.trans (g1.mono (by have := HBS.out; omega)))
    have B1' := Lib.hid (BV.out.ext g1)
    have S1' := Lib.hid (SV.out.ext g1)
    clear hV1 g1 x2 x3 m0 t1
    obtain ⟨b8, o8, e8, -, hc8⟩ := rg_at9 (own_arrR S1'.out) (k := k) (by have := HQ.out; omega)
    cases e8
    obtain ⟨b8, o8, e8, -, hd8⟩ := rg_at9 (own_arrR S1'.out) (k := k + 1) (by have := HQ.out; omega)
    cases e8
    simp only [Nat.zero_add] at hc8 hd8
    obtain ⟨ra, hra⟩ : ∃ r, sp.getD k zR = r := ⟨_, rfl⟩
    obtain ⟨rb, hrb⟩ : ∃ r, sp.getD (k + 1) zR = r := ⟨_, rfl⟩
    have hbd := HBD.out k (by have := HSP.out; omega)
    unfold Lo Hi at hbd
    rw [hra] at hc8 HFS hbd
    rw [hrb] at hd8
    have HRB := Lib.hid hrb
    clear hra hrb
    have u0 := cellW (B1'.out.cell 1)
    have u1 := cellW (hc8 _ (Below.refl _ _)).1
    have u2 := cellW (hc8 _ (Below.refl _ _)).2
    have u3 := cellW (hd8 _ (Below.refl _ _)).1
    have u4 := cellW (hd8 _ (Below.refl _ _)).2
    have u5 := cellW (BS.out.cell 0)
    have u6 := cellW (BS.out.cell 1)
    have hw1 : IntKind.i64.wrap (ra.lo - s.d) = ra.lo - s.d := by rw [IntKind.wrap_i64]; omega
    have hw2 : IntKind.i64.wrap (ra.hi - s.c) = ra.hi - s.c := by rw [IntKind.wrap_i64]; omega
    have hw3 : IntKind.i64.wrap ((k : Int) + 1) = (k : Int) + 1 := by rw [IntKind.wrap_i64]; omega
    have hq1 : (k : Int) < (q : Int) := by have := HQ.out; omega
    have hq2 : (k : Int) + 1 < (q : Int) := by have := HQ.out; omega
    have hq3 : ((k : Int) + 1).toNat = k + 1 := by omega
    have hq4 : (0 : Int) ≤ (k : Int) + 1 := by omega
    clear hc8 hd8 hbd hwx
    refine wp_region_calm_tail V1 31 (by kernel_rfl) (by kernel_rfl) (Below.refl _ _) ?_
    simp only [List.take_succ_cons, List.take_zero, List.drop_succ_cons, List.drop_zero]
    repeat (go_big_quiet_step ((go_at_call 121; exact callsCalm (cut_any _ _ _ _ _))))
    refine wpQuiet_nil ?_
    rintro _ ⟨z, rfl⟩
    obtain ⟨V9, hV9⟩ : ∃ V9, z.val = V9 := ⟨_, rfl⟩
    have g9 := z.ok
    rw [hV9] at g9 ⊢
    have G9 := Lib.hid g9
    clear g9 hV9 z u0 u1 u2 u3 u4 u5 u6
    have i0 := (B1'.out.ext G9.out).cell 1
    have HC9 := rg_at9 (own_arrR (S1'.out.ext G9.out)) (k := k + 1) (by have := HQ.out; omega)
    obtain ⟨b8, o8, e8, hx8, hc8⟩ := HC9
    cases e8
    simp only [Nat.zero_add] at hc8
    rw [HRB.out] at hc8 hx8
    obtain ⟨i1, i2⟩ := hc8 _ (Below.refl _ _)
    have f0 := own_freeR (S1'.out.ext G9.out) ((k + 1) * 2)
    have f1 := own_freeR (S1'.out.ext G9.out) ((k + 1) * 2 + 1)
    have HX8 := Lib.hid hx8
    clear hc8 hx8
    go_wp2_with fail
    have hO := (S1'.out.ext G9.out)
    have hp1 := hO.put1 rcells_len (x := rb) (x' := ⟨max rb.lo (ra.lo - s.d), rb.hi⟩) (u := .int .i64 (max rb.lo (ra.lo - s.d))) (j := 0) HX8.out (by decide) rfl
    have hlt : k + 1 < sp.length := (List.getElem?_eq_some_iff.1 HX8.out).1
    have hp2 := hp1.put1 rcells_len (x := ⟨max rb.lo (ra.lo - s.d), rb.hi⟩) (x' := ⟨max rb.lo (ra.lo - s.d), min rb.hi (ra.hi - s.c)⟩) (u := .int .i64 (min rb.hi (ra.hi - s.c))) (j := 1) (i := k + 1) (by rw [List.getElem?_set_self hlt]) (by decide) rfl
    rw [List.set_set] at hp2
    have hgb := (own_lt hO (k := gB) rfl).1
    have hne := own_ne_blk hO (B1'.out.ext G9.out) (by decide)
    have hneb : gB ≠ b4 := fun e => hne (by rw [← e]; rfl)
    go_roundw
    case rel => exact ⟨k + 1, by go_num, by omega, ((G1.out.trans (G9.out.mono (by have := G1.out.size; have := HBS.out; omega))).setCell (p := ⟨gB, (k + 1) * 2, none⟩) hgb _).setCell (p := ⟨gB, (k + 1) * 2 + 1, none⟩) hgb _,
     ((B1'.out.ext G9.out).far (p := ⟨gB, (k + 1) * 2, none⟩) (fun e => hneb e.symm) _).far (p := ⟨gB, (k + 1) * 2 + 1, none⟩) (fun e => hneb e.symm) _,
     by rw [HFS.out]; unfold nar; rw [HRB.out]; exact hp2⟩
    case measure => simp [intOf]; omega
   ·obtain rfl : n = k := by omega
    have HFN := Lib.hid (show settle L st = bwdK L (fwdK L st n) n by unfold settle; rw [HLN.out])
    rw [HLN.out] at HBB
    obtain ⟨fw, hfw⟩ : ∃ l, fwdK L st n = l := ⟨_, rfl⟩
    rw [hfw] at HFN HBB SV
    have HFL := Lib.hid (show fw.length = n + 1 by rw [← hfw, fwd_len, HSL.out, HLN.out])
    clear hfw
    have S9 := Lib.hid (show OwnL rcells 2 33 V base (.slice (some ⟨gB, 0, none⟩) q d4) (bwdK L fw 0) from SV.out)
    have hw7 : IntKind.i64.wrap ((n : Int) - 1) = (n : Int) - 1 := by rw [IntKind.wrap_i64]; omega
    clear SV
    go_wp2_with fail
    go_loopw [7] (fun i wr => ∃ k : Nat, k ≤ n ∧ i = .int .i64 ((n : Int) - 1 - (k : Int)) ∧ Below base W2 wr ∧ Blk wr b4 191 #[.slice A n c, .slice (some ⟨gB, 0, none⟩) q d4] ∧ OwnL rcells 2 33 wr base (.slice (some ⟨gB, 0, none⟩) q d4) (bwdK L fw k)) (fun i _ => (intOf i + 1).toNat)
    case atStart => exact ⟨0, Nat.zero_le _, by simp, GV.out, BV.out, S9.out⟩
    case round =>
     clear S9 GV BV GW m0 t1
     obtain ⟨k, hk, rfl, hg, hbl, hso⟩ := hrel
     obtain ⟨V, rfl⟩ : ∃ V : World, V = wr := ⟨_, rfl⟩
     have GV := Lib.hid hg
     have BV := Lib.hid hbl
     have SV := Lib.hid hso
     have hvb : W2.heap.size ≤ V.heap.size := hg.size
     have GW := Lib.hid (show Below W2.heap.size W2 V by rw [HBS.out]; exact hg)
     have m0 := (HB1.out.ext GW.out).cell 0
     have t1 := hbl.cell 1
     have hk9 : k ≤ 1000 := by have := HN9.out; omega
     clear hg hbl hso
     by_cases hkn : k < n
     ·obtain ⟨t, ht⟩ : ∃ t, n - 1 - k = t := ⟨_, rfl⟩
      have HT := Lib.hid (show t + k + 1 = n by omega)
      have et : ((n : Int) - 1 - (k : Int)) = (t : Int) := by omega
      have htn : t < n := by omega
      rw [et]
      obtain ⟨b9, o9, e9, -, -, hc9⟩ := six_at (HA.out.below GW.out) htn
      obtain ⟨x0, x1, x2, x3, x4, x5⟩ := hc9 _ (Below.refl _ _)
      obtain ⟨sp, hsp⟩ : ∃ l, bwdK L fw k = l := ⟨_, rfl⟩
      have HFS := Lib.hid (show bwdK L fw (k + 1) = nar (bwdK L fw k) t ⟨((bwdK L fw k).getD (t + 1) zR).lo + (L.getD t z6).c, ((bwdK L fw k).getD (t + 1) zR).hi + (L.getD t z6).d⟩ by
       rw [bwdK_succ, HLN.out, ht, show n - k = t + 1 by omega])
      have HBD := Lib.hid (HBB.out k (by omega))
      have HSP := Lib.hid (show sp.length = n + 1 by rw [← hsp, bwd_len, HFL.out])
      have hwx := HWB.out t (by rw [HLN.out]; exact htn)
      unfold Ls Gr at hwx
      rw [hsp] at HFS HBD SV
      obtain ⟨s, hs⟩ : ∃ s, L.getD t z6 = s := ⟨_, rfl⟩
      rw [hs] at x2 x3 HFS hwx
      subst e9
      have hti : (t : Int) < (n : Int) := by omega
      have ht9 : t ≤ 1000 := by omega
      have htp : (0 : Int) ≤ (t : Int) := by omega
      have hw9 : IntKind.i64.wrap ((t : Int) - 1) = (t : Int) - 1 := by rw [IntKind.wrap_i64]; omega
      clear hc9 hs hsp x0 x1 x4 x5 et ht
      go_upto_region 11 with fail
      obtain ⟨V1, hV1⟩ : ∃ V1, V.alloc (.cells #[.int .i64 s.c, .int .i64 s.d] 33) = V1 := ⟨_, rfl⟩
      have g1 : Below V.heap.size V V1 := by rw [← hV1]; exact one_more _ _
      have BS := Lib.hid (show Blk V1 V.heap.size 33 #[.int .i64 s.c, .int .i64 s.d] by rw [← hV1]; exact Blk.new _ _ _)
      rw [hV1]
      have G1 := Lib.hid (GV.out.trans (g1.mono (by have := HBS.out; omega)))
      have B1' := Lib.hid (BV.out.ext g1)
      have S1' := Lib.hid (SV.out.ext g1)
      clear hV1 g1 x2 x3 m0 t1
      obtain ⟨b8, o8, e8, -, hc8⟩ := rg_at9 (own_arrR S1'.out) (k := t + 1) (by have := HQ.out; omega)
      cases e8
      obtain ⟨b8, o8, e8, -, hd8⟩ := rg_at9 (own_arrR S1'.out) (k := t) (by have := HQ.out; omega)
      cases e8
      simp only [Nat.zero_add] at hc8 hd8
      obtain ⟨ra, hra⟩ : ∃ r, sp.getD (t + 1) zR = r := ⟨_, rfl⟩
      obtain ⟨rb, hrb⟩ : ∃ r, sp.getD t zR = r := ⟨_, rfl⟩
      have hbd := HBD.out (t + 1) (by have := HSP.out; omega)
      unfold Lo Hi at hbd
      rw [hra] at hc8 HFS hbd
      rw [hrb] at hd8
      have HRB := Lib.hid hrb
      clear hra hrb
      have u0 := cellW (B1'.out.cell 1)
      have u1 := cellW (hc8 _ (Below.refl _ _)).1
      have u2 := cellW (hc8 _ (Below.refl _ _)).2
      have u3 := cellW (hd8 _ (Below.refl _ _)).1
      have u4 := cellW (hd8 _ (Below.refl _ _)).2
      have u5 := cellW (BS.out.cell 0)
      have u6 := cellW (BS.out.cell 1)
      have hw1 : IntKind.i64.wrap (ra.lo + s.c) = ra.lo + s.c := by rw [IntKind.wrap_i64]; omega
      have hw2 : IntKind.i64.wrap (ra.hi + s.d) = ra.hi + s.d := by rw [IntKind.wrap_i64]; omega
      have hw3 : IntKind.i64.wrap ((t : Int) + 1) = (t : Int) + 1 := by rw [IntKind.wrap_i64]; omega
      have hq1 : (t : Int) < (q : Int) := by have := HQ.out; omega
      have hq2 : (t : Int) + 1 < (q : Int) := by have := HQ.out; omega
      have hq3 : ((t : Int) + 1).toNat = t + 1 := by omega
      have hq4 : (0 : Int) ≤ (t : Int) + 1 := by omega
      clear hc8 hd8 hbd hwx
      refine wp_region_calm_tail V1 31 (by kernel_rfl) (by kernel_rfl) (Below.refl _ _) ?_
      simp only [List.take_succ_cons, List.take_zero, List.drop_succ_cons, List.drop_zero]
      repeat (go_big_quiet_step ((go_at_call 121; exact callsCalm (cut_any _ _ _ _ _))))
      refine wpQuiet_nil ?_
      rintro _ ⟨z, rfl⟩
      obtain ⟨V9, hV9⟩ : ∃ V9, z.val = V9 := ⟨_, rfl⟩
      have g9 := z.ok
      rw [hV9] at g9 ⊢
      have G9 := Lib.hid g9
      clear g9 hV9 z u0 u1 u2 u3 u4 u5 u6
      have i0 := (B1'.out.ext G9.out).cell 1
      have HC9 := rg_at9 (own_arrR (S1'.out.ext G9.out)) (k := t) (by have := HQ.out; omega)
      obtain ⟨b8, o8, e8, hx8, hc8⟩ := HC9
      cases e8
      simp only [Nat.zero_add] at hc8
      rw [HRB.out] at hc8 hx8
      obtain ⟨i1, i2⟩ := hc8 _ (Below.refl _ _)
      have f0 := own_freeR (S1'.out.ext G9.out) (t * 2)
      have f1 := own_freeR (S1'.out.ext G9.out) (t * 2 + 1)
      have HX8 := Lib.hid hx8
      clear hc8 hx8
      go_wp2_with fail
      have hO := (S1'.out.ext G9.out)
      have hp1 := hO.put1 rcells_len (x := rb) (x' := ⟨max rb.lo (ra.lo + s.c), rb.hi⟩) (u := .int .i64 (max rb.lo (ra.lo + s.c))) (j := 0) HX8.out (by decide) rfl
      have hlt : t < sp.length := (List.getElem?_eq_some_iff.1 HX8.out).1
      have hp2 := hp1.put1 rcells_len (x := ⟨max rb.lo (ra.lo + s.c), rb.hi⟩) (x' := ⟨max rb.lo (ra.lo + s.c), min rb.hi (ra.hi + s.d)⟩) (u := .int .i64 (min rb.hi (ra.hi + s.d))) (j := 1) (i := t) (by rw [List.getElem?_set_self hlt]) (by decide) rfl
      rw [List.set_set] at hp2
      have hgb := (own_lt hO (k := gB) rfl).1
      have hne := own_ne_blk hO (B1'.out.ext G9.out) (by decide)
      have hneb : gB ≠ b4 := fun e => hne (by rw [← e]; rfl)
      go_roundw
      case rel => exact ⟨k + 1, by omega, by (have := HT.out; first | (simp; done) | (simp; omega) | (congr 1; omega)), ((G1.out.trans (G9.out.mono (by have := G1.out.size; have := HBS.out; omega))).setCell (p := ⟨gB, t * 2, none⟩) hgb _).setCell (p := ⟨gB, t * 2 + 1, none⟩) hgb _,
       ((B1'.out.ext G9.out).far (p := ⟨gB, t * 2, none⟩) (fun e => hneb e.symm) _).far (p := ⟨gB, t * 2 + 1, none⟩) (fun e => hneb e.symm) _,
       by rw [HFS.out]; unfold nar; rw [HRB.out]; exact hp2⟩
      case measure => (have := HT.out; first | (simp [intOf]; done) | (simp [intOf]; omega))
     ·obtain rfl : n = k := by omega
      have em : (n : Int) - 1 - (n : Int) = -1 := by omega
      rw [em, ]
      rw [← HFN.out] at SV
      obtain ⟨sl, hsl⟩ : ∃ l, settle L st = l := ⟨_, rfl⟩
      rw [hsl] at SV
      have HSE := Lib.hid hsl
      have HSLn := Lib.hid (show sl.length = q by rw [← hsl, settle_len, HSL.out, HLN.out]; exact HQ.out.symm)
      have S9 := Lib.hid SV.out
      clear SV hsl em
      go_wp2_with fail
      go_loopw [9] (fun i wr => ∃ j : Nat, i = .int .i64 j ∧ j ≤ q ∧ Below base W2 wr ∧ Blk wr b4 191 #[.slice A n c, .slice (some ⟨gB, 0, none⟩) q d4] ∧ OwnL rcells 2 33 wr base (.slice (some ⟨gB, 0, none⟩) q d4) sl ∧ ∀ r, r < j → Lo sl r ≤ Hi sl r) (fun i _ => q - (intOf i).toNat)
      case atStart => exact ⟨0, rfl, Nat.zero_le _, GV.out, BV.out, S9.out, fun r hr => absurd hr (by omega)⟩
      case round =>
       clear S9 GV BV GW m0 t1
       obtain ⟨j, rfl, hj, hg, hbl, hso, hall⟩ := hrel
       obtain ⟨V, rfl⟩ : ∃ V : World, V = wr := ⟨_, rfl⟩
       have GV := Lib.hid hg
       have BV := Lib.hid hbl
       have SV := Lib.hid hso
       have HALL := Lib.hid hall
       have GW := Lib.hid (show Below W2.heap.size W2 V by rw [HBS.out]; exact hg)
       have t1 := hbl.cell 1
       clear hg hbl hso hall
       by_cases hjq : j < q
       ·obtain ⟨b8, o8, e8, hx8, hc8⟩ := rg_at9 (own_arrR SV.out) (k := j) hjq
        cases e8
        simp only [Nat.zero_add] at hc8
        obtain ⟨r, hr⟩ : ∃ r, sl.getD j zR = r := ⟨_, rfl⟩
        rw [hr] at hc8
        have u0 := cellW t1
        have u1 := cellW (hc8 _ (Below.refl _ _)).1
        have u2 := cellW (hc8 _ (Below.refl _ _)).2
        have HR := Lib.hid hr
        have hji : (j : Int) < (q : Int) := by omega
        clear hc8 hx8 hr
        by_cases hle : r.hi < r.lo
        ·have hd := decide_eq_true hle
         have HSN := Lib.hid (show sound sl = false by
          rw [← Bool.not_eq_true, sound_iff]
          intro h
          have := h j (by rw [HSLn.out]; exact hjq)
          unfold Lo Hi at this
          rw [HR.out] at this
          omega)
         go_upto_region 15 with fail
         refine wp_region_calm V (by kernel_rfl) (by kernel_rfl) (Below.refl _ _) ?_
         repeat (go_big_quiet_step (fail))
         refine wpQuiet_nil ?_
         rintro _ ⟨z, rfl⟩
         obtain ⟨V9, hV9⟩ : ∃ V9, z.val = V9 := ⟨_, rfl⟩
         have g9 := z.ok
         rw [hV9] at g9 ⊢
         have GW := Lib.hid (GW.out.trans (g9.mono GW.out.size))
         have BV := Lib.hid (BV.out.ext g9)
         have SV := Lib.hid (SV.out.ext g9)
         clear g9 hV9 z u0 u1 u2 t1
         have HBR := Lib.hid (HB2.out.ext GW.out)
         have m1 := HBR.out.cell 0
         have m2 := HBR.out.cell 1
         have z0 := HBR.out.frozen 0
         have z1 := HBR.out.frozen 1
         have c0 := BV.out.cell 0
         have c1 := BV.out.cell 1
         have hne4 : b4 ≠ w.heap.size + 1 := by have := HSZ.out; have := HB4.out; have := HBS.out; omega
         go_wp2_with fail
         have hb9 := (HBR.out.set_ 0 (.slice A n c)).set_ 1 (.slice (some ⟨gB, 0, none⟩) q d4)
         have v0 := hb9.cell 0
         have v1 := hb9.cell 1
         have h3 := HSZ.out
         have h4 := HBS.out
         have hws : w.heap.size ≤ W2.heap.size := GA.out.size
         have HG9 := Lib.hid (((GA.out.trans (GW.out.mono GA.out.size)).setCell (p := ⟨w.heap.size + 1, 0, none⟩) (by dsimp only; omega) (.slice A n c)).setCell (p := ⟨w.heap.size + 1, 1, none⟩) (by dsimp only; omega) (.slice (some ⟨gB, 0, none⟩) q d4))
         have HS9 := Lib.hid ((SV.out.far (p := ⟨w.heap.size + 1, 0, none⟩) (by dsimp only; omega) (.slice A n c)).far (p := ⟨w.heap.size + 1, 1, none⟩) (by dsimp only; omega) (.slice (some ⟨gB, 0, none⟩) q d4))
         clear hb9
         refine bodyPost_ret (v := .tuple #[.agg #[.slice A n c, .slice (some ⟨gB, 0, none⟩) q d4], .bool false]) ?_ rfl ⟨⟨_, _, by rw [HSE.out, HSN.out], by rw [HSE.out]; exact HS9.out.mono (by omega)⟩, HG9.out⟩
         simp [results, Tryz.results122, go_sem, v0, v1]
        ·have hd := decide_eq_false hle
         go_upto_region 15 with fail
         refine wp_region_calm V (by kernel_rfl) (by kernel_rfl) (Below.refl _ _) ?_
         repeat (go_big_quiet_step (fail))
         refine wpQuiet_nil ?_
         rintro _ ⟨z, rfl⟩
         have GZ := Lib.hid (GV.out.trans (z.ok.mono (by have := GV.out.size; have := HBS.out; omega)))
         have BZ := Lib.hid (BV.out.ext z.ok)
         have SZ := Lib.hid (SV.out.ext z.ok)
         clear u0 u1 u2 t1
         go_wp2_with fail
         go_roundw
         case rel => exact ⟨j + 1, by go_num, by omega, GZ.out, BZ.out, SZ.out, fun r' hr' => by
          by_cases e : r' = j
          ·subst e
           unfold Lo Hi
           rw [HR.out]
           omega
          ·exact HALL.out r' (by omega)⟩
         case measure => simp [intOf]; omega
       ·obtain rfl : q = j := by omega
        have HSN := Lib.hid (show sound sl = true from sound_iff.2 (by rw [HSLn.out]; exact HALL.out))
        have HBR := Lib.hid (HB2.out.ext GW.out)
        have m1 := HBR.out.cell 0
        have m2 := HBR.out.cell 1
        have z0 := HBR.out.frozen 0
        have z1 := HBR.out.frozen 1
        have c0 := BV.out.cell 0
        have c1 := BV.out.cell 1
        have hne4 : b4 ≠ w.heap.size + 1 := by have := HSZ.out; have := HB4.out; have := HBS.out; omega
        go_wp2_with fail
        have hb9 := (HBR.out.set_ 0 (.slice A n c)).set_ 1 (.slice (some ⟨gB, 0, none⟩) q d4)
        have v0 := hb9.cell 0
        have v1 := hb9.cell 1
        have h3 := HSZ.out
        have h4 := HBS.out
        have hws : w.heap.size ≤ W2.heap.size := GA.out.size
        have HG9 := Lib.hid (((GA.out.trans (GW.out.mono GA.out.size)).setCell (p := ⟨w.heap.size + 1, 0, none⟩) (by dsimp only; omega) (.slice A n c)).setCell (p := ⟨w.heap.size + 1, 1, none⟩) (by dsimp only; omega) (.slice (some ⟨gB, 0, none⟩) q d4))
        have HS9 := Lib.hid ((SV.out.far (p := ⟨w.heap.size + 1, 0, none⟩) (by dsimp only; omega) (.slice A n c)).far (p := ⟨w.heap.size + 1, 1, none⟩) (by dsimp only; omega) (.slice (some ⟨gB, 0, none⟩) q d4))
        clear hb9
        refine bodyPost_ret (v := .tuple #[.agg #[.slice A n c, .slice (some ⟨gB, 0, none⟩) q d4], .bool true]) ?_ rfl ⟨⟨_, _, by rw [HSE.out, HSN.out], by rw [HSE.out]; exact HS9.out.mono (by omega)⟩, HG9.out⟩
        simp [results, Tryz.results122, go_sem, v0, v1]
end Go.Proofs.YtkoejeghihcmlaaGreat

namespace Go.Proofs.YtkoejeghihcmlaaGreat
open Go.RowKit Go.Shelf
theorem look_num {p : Pl} (h : okPl p = true) (known : Int) (m : Int → Bool) : ∀ x ∈ lookL p known m, Num x := fun x hx => by
 have hp := ok_parts h
 rw [lookL_cart] at hx
 obtain ⟨y, hy, rfl⟩ := List.mem_map.1 hx
 exact veil_num (hp.1 y (mem_cart.1 hy).1)
theorem standsF_bd {p : Pl} (known : Int) (m : Int → Bool) (ls : List Six) : ∀ (l : List Six) (st : List Rg), (∀ x ∈ l, Num x) → st.length = ls.length + 1 → Bd st 10000000 → Bd (standsF known m ls l st) 10000000
 | [], _, _, _, hb => hb
 | x :: l, st, hx, hl, hb => by
  unfold standsF
  rw [List.foldl_cons]
  have ih := fun st' => standsF_bd (p := p) known m ls l st' (fun y hy => hx y (List.mem_cons_of_mem _ hy))
  have ha := after_len ls x.b
  split
  ·exact ih _ (by rw [nar_len]; exact hl) (bd_nar hb (by omega) (hx x List.mem_cons_self))
  ·exact ih _ hl hb
theorem look_st {p : Pl} (h : okPl p = true) (known : Int) (m : Int → Bool) : Bd (standsF known m (lookL p known m) p.stands (stood0 p (lookL p known m).length)) 10000000 :=
 standsF_bd (p := p) known m _ _ _ (ok_parts h).2.1 (by unfold stood0; simp) (stood0_bd h _)
theorem first_zero (p : Pl) (known : Int) : firstE p [0] [known] = firstE p [] [known] := by
 unfold firstE noHour
 simp [rng]
theorem noNums (w : World) : Ints w none 0 [] := Arr.nil_
end Go.Proofs.YtkoejeghihcmlaaGreat

namespace Go.Proofs.YtkoejeghihcmlaaGreat
open Go.RowKit Go.Shelf
set_option maxRecDepth 100000 in
set_option maxHeartbeats 4000000 in
theorem refSettle_any (p : Pl) (A1 A2 A3 : Option Addr) (n1 c1 n2 c2 n3 c3 : Nat) (hour known : Int) (w : World) (hp : Pa w p A1 A2 A3 n1 c1 n2 c2 n3 c3) :
  Calls Tryz.prog 117 #[plv p A1 A2 A3 n1 c1 n2 c2 n3 c3, .int .i64 hour, .int .i64 known] w fun e w' => (∃ A n c B q d, e = .returned (.tuple #[.agg #[.slice A n c, .slice B q d], .int .i64 (askE p [hour] known)]) ∧ (askE p [hour] known = 0 → okPl p = true ∧ Arr scells 6 w' A n (lookL p known every) ∧ Arr rcells 2 w' B q (lookS p known every))) ∧ Below w.heap.size w w' := by
 obtain ⟨W1, hW1⟩ : ∃ W1, (w.alloc (.cells (plb p A1 A2 A3 n1 c1 n2 c2 n3 c3) 38)).alloc (.cells #[.slice none 0 0, .slice none 0 0] 191) = W1 := ⟨_, rfl⟩
 have g0 : Below w.heap.size w W1 := by rw [← hW1]; exact two_more _ _ _
 have b0 : Blk W1 w.heap.size 38 (plb p A1 A2 A3 n1 c1 n2 c2 n3 c3) := by rw [← hW1]; exact (Blk.new _ _ _).alloc _
 have b1 : Blk W1 (w.heap.size + 1) 191 #[.slice none 0 0, .slice none 0 0] := by
  rw [← hW1]
  have := Blk.new (w.alloc (.cells (plb p A1 A2 A3 n1 c1 n2 c2 n3 c3) 38)) 191 #[.slice none 0 0, .slice none 0 0]
  rwa [World.size_alloc] at this
 have T1 := refAsked_any p A1 A2 A3 n1 c1 n2 c2 n3 c3 hour known W1 (hp.below g0)
 have HE := Lib.hid (show askE p [hour] known = if firstE p [hour] [known] = 0 then err (sound (lookS p known every)) 14 else firstE p [hour] [known] from rfl)
 have HOK := Lib.hid (fun h => first_ok (p := p) (hours := [hour]) (days := [known]) h)
 generalize askE p [hour] known = ae at HE ⊢
 generalize firstE p [hour] [known] = fe at T1 HE HOK
 have HT1 := Lib.hid T1
 have HPA := Lib.hid (hp.below g0)
 have HB0 := Lib.hid b0
 have HB1 := Lib.hid b1
 have GA := Lib.hid g0
 have HW1 := Lib.hid hW1
 have r0 := b0.cell 0
 have r1 := b0.cell 1
 have r2 := b0.cell 2
 have r3 := b0.cell 3
 have r4 := b0.cell 4
 have r5 := b0.cell 5
 clear T1 hp g0 b0 b1 hW1
 by_cases hz : fe = 0
 ·have hok := HOK.out hz
  have HOKK := Lib.hid hok
  have T2 := fun (V : World) (g : Below W1.heap.size W1 V) => refRow_any p A1 A2 A3 n1 c1 n2 c2 n3 c3 known true none 0 0 [] V (HPA.out.below g) (by
   have h1 := ok_parts hok
   have h2 := HPA.out.l1.1
   have h3 := HPA.out.l2.1
   omega) (noNums V) (by omega)
  rw [mB_all] at T2
  have HT2 := Lib.hid T2
  have hll : (lookL p known every).length ≤ 60 := by
   rw [lookL_cart, List.length_map]
   unfold cartL
   rw [srtH_len]
   exact Nat.le_trans (List.length_filter_le _ _) (ok_parts hok).2.2.2.2.2.1
  have HLL := Lib.hid hll
  have HNU := Lib.hid (wb_of (look_num hok known every))
  have HBD := Lib.hid (look_st hok known every)
  have HLS := Lib.hid (show lookS p known every = settle (lookL p known every) (standsF known every (lookL p known every) p.stands (stood0 p (lookL p known every).length)) from rfl)
  have HSN := Lib.hid (show (standsF known every (lookL p known every) p.stands (stood0 p (lookL p known every).length)).length = (lookL p known every).length + 1 by rw [standsF_len]; unfold stood0; simp)
  obtain ⟨rs, hrs⟩ : ∃ r, sound (lookS p known every) = r := ⟨_, rfl⟩
  have HRS := Lib.hid hrs
  rw [hrs] at HE
  subst hz
  clear T2 hll hrs hok
  go_enter Tryz.func117, Tryz.ntmps117
  go_upto_region 1 with fail
  rw [HW1.out]
  go_upto_region 5 with (first
   | (go_at_call 101; (with_reducible refine (HT1.out).mono ?_); rintro e V ⟨rfl, hg⟩; have HG1 := Lib.hid hg; have m0 := (HB0.out.ext hg).cell 0; have m1 := (HB0.out.ext hg).cell 1; have m2 := (HB0.out.ext hg).cell 2; have m3 := (HB0.out.ext hg).cell 3; have m4 := (HB0.out.ext hg).cell 4; have m5 := (HB0.out.ext hg).cell 5; clear hg)
   | (go_at_call 120; (with_reducible refine (HT2.out _ HG1.out).mono ?_); rintro e V3 ⟨⟨A, n, c, B, q, d, rfl, hl, hs, -⟩, hg⟩; have HG3 := Lib.hid hg; have HAL := Lib.hid hl; have HT3 := Lib.hid (refSettled_any A n c _ B q d _ V3 (own_arr hl) (own_arrR hs) (by have h := (own_arr hl).1; have := HLL.out; omega) (by have h1 := (own_arr hl).1; have h2 := (own_arrR hs).1; have h3 := HSN.out; omega) HNU.out HBD.out); clear hl hs hg)
   | (go_at_call 122; (with_reducible refine (HT3.out).mono ?_); rintro e V4 ⟨⟨B', d', rfl, ho⟩, hg⟩; have HG4 := Lib.hid hg; have HRO := Lib.hid ho; rw [← HLS.out] at HRO; rw [← HLS.out, HRS.out]; clear hg ho))
  obtain ⟨V5, hV5⟩ : ∃ V, V4.alloc (.cells #[.slice A n c, .slice B' q d'] 191) = V := ⟨_, rfl⟩
  have g5 : Below V4.heap.size V4 V5 := by rw [← hV5]; exact one_more _ _
  have HG5 := Lib.hid (GA.out.trans ((HG1.out.trans ((HG3.out.trans ((HG4.out.trans (g5.mono HG4.out.size)).mono HG3.out.size)).mono HG1.out.size)).mono GA.out.size))
  have HB5 := Lib.hid ((((HB1.out.ext HG1.out).ext HG3.out).ext HG4.out).ext g5)
  have BN := (show Blk V5 V4.heap.size 191 #[.slice A n c, .slice B' q d'] by rw [← hV5]; exact Blk.new _ _ _)
  have hlt1 := (HB1.out.ext HG1.out).lt
  have hlt3 := HG3.out.size
  have HA5 := Lib.hid (fun (v v' : Value) => own_arr ((((HAL.out.ext HG4.out).ext g5).far (p := ⟨w.heap.size + 1, 0, none⟩) (by dsimp only; omega) v).far (p := ⟨w.heap.size + 1, 1, none⟩) (by dsimp only; omega) v'))
  have HS5 := Lib.hid (fun (v v' : Value) => own_arrR (((HRO.out.ext g5).far (p := ⟨w.heap.size + 1, 0, none⟩) (by dsimp only; omega) v).far (p := ⟨w.heap.size + 1, 1, none⟩) (by dsimp only; omega) v'))
  clear hlt1 hlt3
  have n0 := BN.cell 0
  have n1' := BN.cell 1
  have f0 := HB5.out.frozen 0
  have s0 := HB5.out.cell 0
  rw [hV5]
  clear hV5 g5 BN m0 m1 m2 m3 m4 m5 r0 r1 r2 r3 r4 r5
  cases rs with
  | false =>
   have HE2 := Lib.hid (show ae = 14 from HE.out)
   have z1 := (HB5.out.set_ 0 (.slice none 0 0)).cell 1
   have zf := (HB5.out.set_ 0 (.slice none 0 0)).frozen 1
   have y0 := ((HB5.out.set_ 0 (.slice none 0 0)).set_ 1 (.slice none 0 0)).cell 0
   have y1 := ((HB5.out.set_ 0 (.slice none 0 0)).set_ 1 (.slice none 0 0)).cell 1
   go_wp2_with fail
   refine bodyPost_ret (v := .tuple #[.agg #[.slice none 0 0, .slice none 0 0], .int .i64 14]) ?_ rfl ⟨⟨_, _, _, _, _, _, by rw [HE2.out], fun h => by rw [HE2.out] at h; cases h⟩, (HG5.out.setCell (p := ⟨w.heap.size + 1, 0, none⟩) (by dsimp only; omega) _).setCell (p := ⟨w.heap.size + 1, 1, none⟩) (by dsimp only; omega) _⟩
   simp [results, Tryz.results117, go_sem, y0, y1]
  | true =>
   have HE2 := Lib.hid (show ae = 0 from HE.out)
   have z1 := (HB5.out.set_ 0 (.slice A n c)).cell 1
   have zf := (HB5.out.set_ 0 (.slice A n c)).frozen 1
   have y0 := ((HB5.out.set_ 0 (.slice A n c)).set_ 1 (.slice B' q d')).cell 0
   have y1 := ((HB5.out.set_ 0 (.slice A n c)).set_ 1 (.slice B' q d')).cell 1
   go_wp2_with fail
   refine bodyPost_ret (v := .tuple #[.agg #[.slice A n c, .slice B' q d'], .int .i64 0]) ?_ rfl ⟨⟨_, _, _, _, _, _, by rw [HE2.out], fun _ => ⟨HOKK.out, HA5.out _ _, HS5.out _ _⟩⟩, (HG5.out.setCell (p := ⟨w.heap.size + 1, 0, none⟩) (by dsimp only; omega) _).setCell (p := ⟨w.heap.size + 1, 1, none⟩) (by dsimp only; omega) _⟩
   simp [results, Tryz.results117, go_sem, y0, y1]
 ·have HE2 := Lib.hid (show ae = fe by rw [HE.out, if_neg hz])
  have hz2 : (fe != 0) = true := by simpa using hz
  have hz3 := Lib.hid hz
  clear hz HOK HE
  go_enter Tryz.func117, Tryz.ntmps117
  go_upto_region 1 with fail
  rw [HW1.out]
  go_upto_region 2 with (go_at_call 101; (with_reducible refine (HT1.out).mono ?_); rintro e V ⟨rfl, hg⟩; have HG1 := Lib.hid hg; clear hg)
  have HB5 := Lib.hid (HB1.out.ext HG1.out)
  have HG5 := Lib.hid (GA.out.trans (HG1.out.mono GA.out.size))
  have f0 := HB5.out.frozen 0
  have s0 := HB5.out.cell 0
  have z1 := (HB5.out.set_ 0 (.slice none 0 0)).cell 1
  have zf := (HB5.out.set_ 0 (.slice none 0 0)).frozen 1
  have y0 := ((HB5.out.set_ 0 (.slice none 0 0)).set_ 1 (.slice none 0 0)).cell 0
  have y1 := ((HB5.out.set_ 0 (.slice none 0 0)).set_ 1 (.slice none 0 0)).cell 1
  go_wp2_with fail
  refine bodyPost_ret (v := .tuple #[.agg #[.slice none 0 0, .slice none 0 0], .int .i64 fe]) ?_ rfl ⟨⟨_, _, _, _, _, _, by rw [HE2.out], fun h => absurd (HE2.out.symm.trans h) hz3.out⟩, (HG5.out.setCell (p := ⟨w.heap.size + 1, 0, none⟩) (by dsimp only; omega) _).setCell (p := ⟨w.heap.size + 1, 1, none⟩) (by dsimp only; omega) _⟩
  simp [results, Tryz.results117, go_sem, y0, y1]
end Go.Proofs.YtkoejeghihcmlaaGreat

namespace Go.Proofs.YtkoejeghihcmlaaGreat
open Go.RowKit Go.Shelf
set_option maxRecDepth 100000 in
set_option maxHeartbeats 4000000 in
theorem refStood_any (p : Pl) (A1 A2 A3 : Option Addr) (n1 c1 n2 c2 n3 c3 : Nat) (hour known : Int) (w : World) (hp : Pa w p A1 A2 A3 n1 c1 n2 c2 n3 c3) :
  Calls Tryz.prog 56 #[plv p A1 A2 A3 n1 c1 n2 c2 n3 c3, .int .i64 hour, .int .i64 known] w fun e w' => e = .returned (.tuple #[rv (stoodR p hour known), .int .i64 (askE p [hour] known)]) ∧ Below w.heap.size w w' := by
 obtain ⟨W1, hW1⟩ : ∃ W1, (w.alloc (.cells (plb p A1 A2 A3 n1 c1 n2 c2 n3 c3) 38)).alloc (.cells #[.int .i64 0, .int .i64 0] 33) = W1 := ⟨_, rfl⟩
 have g0 : Below w.heap.size w W1 := by rw [← hW1]; exact two_more _ _ _
 have b0 : Blk W1 w.heap.size 38 (plb p A1 A2 A3 n1 c1 n2 c2 n3 c3) := by rw [← hW1]; exact (Blk.new _ _ _).alloc _
 have b1 : Blk W1 (w.heap.size + 1) 33 #[.int .i64 0, .int .i64 0] := by
  rw [← hW1]
  have := Blk.new (w.alloc (.cells (plb p A1 A2 A3 n1 c1 n2 c2 n3 c3) 38)) 33 #[.int .i64 0, .int .i64 0]
  rwa [World.size_alloc] at this
 have T1 := refSettle_any p A1 A2 A3 n1 c1 n2 c2 n3 c3 hour known W1 (hp.below g0)
 have HR := Lib.hid (show stoodR p hour known = if askE p [hour] known = 0 then (lookS p known every).getD (after (lookL p known every) hour) zR else zR from rfl)
 obtain ⟨rr, hrr⟩ : ∃ rr, stoodR p hour known = rr := ⟨_, rfl⟩
 obtain ⟨ae, hae⟩ : ∃ ae, askE p [hour] known = ae := ⟨_, rfl⟩
 rw [hae] at T1 HR
 rw [hrr] at HR
 rw [hrr, hae]
 have HT1 := Lib.hid T1
 have HB1 := Lib.hid b1
 have GA := Lib.hid g0
 have HW1 := Lib.hid hW1
 have r0 := b0.cell 0
 have r1 := b0.cell 1
 have r2 := b0.cell 2
 have r3 := b0.cell 3
 have r4 := b0.cell 4
 have r5 := b0.cell 5
 clear T1 hp g0 b0 b1 hW1 hrr hae
 by_cases hz : ae = 0
 ·subst hz
  have HR2 := Lib.hid (show rr = (lookS p known every).getD (after (lookL p known every) hour) zR from HR.out)
  go_enter Tryz.func56, Tryz.ntmps56
  go_upto_region 1 with fail
  rw [HW1.out]
  go_upto_region 4 with (go_at_call 117; (with_reducible refine (HT1.out).mono ?_); rintro e V ⟨⟨A, n, c, B, q, d, rfl, hq⟩, hg⟩; have HG1 := Lib.hid hg; have HQ := Lib.hid (hq rfl); clear hg hq)
  obtain ⟨V5, hV5⟩ : ∃ X, V.alloc (.cells #[.slice A n c, .slice B q d] 191) = X := ⟨_, rfl⟩
  have g5 : Below V.heap.size V V5 := by rw [← hV5]; exact one_more _ _
  have BN := Lib.hid (show Blk V5 V.heap.size 191 #[.slice A n c, .slice B q d] by rw [← hV5]; exact Blk.new _ _ _)
  have HG5 := Lib.hid (GA.out.trans ((HG1.out.trans (g5.mono HG1.out.size)).mono GA.out.size))
  have HB5 := Lib.hid ((HB1.out.ext HG1.out).ext g5)
  have HA5 := Lib.hid (HQ.out.2.1.below g5)
  have HS5 := Lib.hid (HQ.out.2.2.below g5)
  have hnn := HA5.out.1
  have hqq := HS5.out.1
  have hl60 : (lookL p known every).length ≤ 60 := by
   rw [lookL_cart, List.length_map]
   unfold cartL
   rw [srtH_len]
   exact Nat.le_trans (List.length_filter_le _ _) (ok_parts HQ.out.1).2.2.2.2.2.1
  have hsl : (lookS p known every).length = (lookL p known every).length + 1 := by
   show (settle _ _).length = _
   rw [settle_len, standsF_len]; unfold stood0; simp
  have hav := after_le (lookL p known every) hour
  have HIX := Lib.hid (fun (X : World) (g : Below V5.heap.size V5 X) => refIndex_any A n c (lookL p known every) B q d hour X (HA5.out.below g) (by omega) (show Up (lookL p known every) from srtH_up _))
  obtain ⟨av, hav2⟩ : ∃ av, after (lookL p known every) hour = av := ⟨_, rfl⟩
  rw [hav2] at HIX HR2 hav
  have havq : av < q := by omega
  have havi : (av : Int) < (q : Int) := by omega
  obtain ⟨b9, o9, rfl, -, hc9⟩ := rg_at9 HS5.out havq
  have HK := Lib.hid (fun X (g : Below V5.heap.size V5 X) => (show X.cell? ⟨V.heap.size, 0, none⟩ = some (.slice A n c) ∧ X.cell? ⟨V.heap.size, 1, none⟩ = some (.slice (some ⟨b9, o9, none⟩) q d) ∧ X.cell? ⟨b9, o9 + av * 2, none⟩ = some (.int .i64 rr.lo) ∧ X.cell? ⟨b9, o9 + av * 2 + 1, none⟩ = some (.int .i64 rr.hi) ∧ X.cell? ⟨w.heap.size + 1, 0, none⟩ = some (.int .i64 0) ∧ X.cell? ⟨w.heap.size + 1, 1, none⟩ = some (.int .i64 0) ∧ X.frozen? ⟨w.heap.size + 1, 0, none⟩ = false ∧ X.frozen? ⟨w.heap.size + 1, 1, none⟩ = false from by
   have hB := HB5.out.ext g
   have hN := BN.out.ext g
   refine ⟨hN.cell 0, hN.cell 1, ?_, ?_, hB.cell 0, hB.cell 1, hB.frozen 0, hB.frozen 1⟩
   ·rw [(hc9 X g).1, HR2.out]
   ·rw [(hc9 X g).2, HR2.out]))
  obtain ⟨k0, k1, k2, k3, k4, k5, k6, k7⟩ := HK.out V5 (Below.refl _ _)
  rw [hV5]
  clear hV5 g5 hav hav2 hnn hqq hl60 hsl hc9 r0 r1 r2 r3 r4 r5
  go_region_with (first | (go_at_call 118; (with_reducible refine (HIX.out _ (Below.refl _ _).drew).mono ?_); rintro e W8 ⟨rfl, g79⟩; have G79 := Lib.hid (show Below V5.heap.size V5 W8 from ((Below.refl _ _).drew).trans (g79.mono (Nat.le_refl _))); clear g79; obtain ⟨j0, j1, j2, j3, j4, j5, j6, j7⟩ := HK.out W8 G79.out))
  all_goals
   have hb9 := ((HB5.out.ext G79.out).set_ 0 (.int .i64 rr.lo)).set_ 1 (.int .i64 rr.hi)
   have q0 := hb9.cell 0
   have q1 := hb9.cell 1
   have GG := Lib.hid (((HG5.out.trans (G79.out.mono HG5.out.size)).setCell (p := ⟨w.heap.size + 1, 0, none⟩) (Nat.le_succ _) (.int .i64 rr.lo)).setCell (p := ⟨w.heap.size + 1, 1, none⟩) (Nat.le_succ _) (.int .i64 rr.hi))
   clear hb9
   (try go_wp2_with fail)
   refine bodyPost_ret (v := .tuple #[rv rr, .int .i64 0]) ?_ rfl ⟨rfl, GG.out⟩
   simp [results, Tryz.results56, go_sem, q0, q1]
 ·have HR2 := Lib.hid (show rr = zR by rw [HR.out, if_neg hz])
  have hz2 : (ae != 0) = true := by simpa using hz
  clear hz HR
  go_enter Tryz.func56, Tryz.ntmps56
  go_upto_region 1 with fail
  rw [HW1.out]
  go_upto_region 2 with (go_at_call 117; (with_reducible refine (HT1.out).mono ?_); rintro e V ⟨⟨A, n, c, B, q, d, rfl, -⟩, hg⟩; have HG1 := Lib.hid hg; clear hg)
  obtain ⟨V5, hV5⟩ : ∃ X, V.alloc (.cells #[.slice A n c, .slice B q d] 191) = X := ⟨_, rfl⟩
  have g5 : Below V.heap.size V V5 := by rw [← hV5]; exact one_more _ _
  have HB5 := Lib.hid ((HB1.out.ext HG1.out).ext g5)
  have HG5 := Lib.hid (GA.out.trans ((HG1.out.trans (g5.mono HG1.out.size)).mono GA.out.size))
  have f0 := HB5.out.frozen 0
  have s0 := HB5.out.cell 0
  have z1 := (HB5.out.set_ 0 (.int .i64 0)).cell 1
  have zf := (HB5.out.set_ 0 (.int .i64 0)).frozen 1
  have y0 := ((HB5.out.set_ 0 (.int .i64 0)).set_ 1 (.int .i64 0)).cell 0
  have y1 := ((HB5.out.set_ 0 (.int .i64 0)).set_ 1 (.int .i64 0)).cell 1
  rw [hV5]
  clear hV5 g5
  go_wp2_with fail
  refine bodyPost_ret (v := .tuple #[rv zR, .int .i64 ae]) ?_ rfl ⟨by rw [HR2.out], (HG5.out.setCell (p := ⟨w.heap.size + 1, 0, none⟩) (by dsimp only; omega) _).setCell (p := ⟨w.heap.size + 1, 1, none⟩) (by dsimp only; omega) _⟩
  simp [results, Tryz.results56, go_sem, y0, y1, zR]
end Go.Proofs.YtkoejeghihcmlaaGreat
