/- Part of the proof: WQ, WR, VS, VI. -/
import Derived.Test.YtkoejeghihcmlaaGreatZA8
import Derived.Test.YtkoejeghihcmlaaGreatZB0
import Derived.Test.YtkoejeghihcmlaaGreatZB1
import Derived.Test.YtkoejeghihcmlaaGreatZB2
namespace Go.Proofs.YtkoejeghihcmlaaGreat
open Go.RowKit Go.Shelf Go.Maps
attribute [local go_sem] Oper.semAt_some
theorem run_make_int (n : Nat) (hn : n ≤ 1000) (w : World) : (Instr.makeSlice 39 (.int .i64 n) (.int .i64 n)).run Tryz.prog w = .ok (.slice (some ⟨w.heap.size, 0, none⟩) n n) (w.alloc (.cells (vals (List.replicate n 0)) 3)) := by
 obtain ⟨i, hi, hzz⟩ := Option.map_eq_some_iff.1 info3
 simp only [Prod.mk.injEq] at hzz
 obtain ⟨hz, hs, hb⟩ := hzz
 have hr := run_make (P := Tryz.prog) w 39 3 i _ (by kernel_rfl) hi hz .i64 .i64 n n (by omega) (Int.le_refl _) (by rw [hb]; omega) (by omega)
 rw [hs] at hr
 simp only [Int.toNat_natCast, Nat.mul_one] at hr
 rw [hr, ← made_vals]
 rfl
/-- Steps of pick, forwards: what is known of the numbers. -/
def PF (ls : List Six) (st : List Rg) (at_ : Nat) (v : Int) (n k : Nat) (l : List Int) : Prop := l.length = n + 1 ∧ ∀ j, at_ ≤ j → j ≤ at_ + k → l.getD j 0 = pickF ls st at_ v (j - at_)
/-- Steps back. -/
def PB (ls : List Six) (st : List Rg) (at_ : Nat) (v : Int) (n k : Nat) (l : List Int) : Prop := l.length = n + 1 ∧ (∀ j, at_ ≤ j → j ≤ n → l.getD j 0 = pickF ls st at_ v (j - at_)) ∧ ∀ j, j < at_ → at_ ≤ j + k → l.getD j 0 = pickB ls st at_ v (at_ - j)
theorem getD_set_int {l : List Int} {i j : Nat} {v : Int} (hi : i < l.length) : (l.set i v).getD j 0 = if j = i then v else l.getD j 0 := by
 rw [List.getD_eq_getElem?_getD, List.getElem?_set, List.getD_eq_getElem?_getD]
 by_cases e : i = j
 ·rw [if_pos e, if_pos e.symm, if_pos hi]; rfl
 ·rw [if_neg e, if_neg (fun c => e c.symm)]
theorem PF.start {ls : List Six} {st : List Rg} {at_ n : Nat} {v : Int} (h : at_ ≤ n) : PF ls st at_ v n 0 ((List.replicate (n + 1) 0).set at_ v) := by
 refine ⟨by rw [List.length_set, List.length_replicate], fun j h1 h2 => ?_⟩
 have : j = at_ := by omega
 subst this
 rw [getD_set_int (by rw [List.length_replicate]; omega), if_pos rfl, Nat.sub_self]; rfl
theorem PF.next {ls : List Six} {st : List Rg} {at_ n k : Nat} {v : Int} {l : List Int} (h : PF ls st at_ v n k l) (hk : at_ + k < n) : PF ls st at_ v n (k + 1) (l.set (at_ + k + 1) (max (Lo st (at_ + k + 1)) (l.getD (at_ + k) 0 - Gr ls (at_ + k)))) := by
 refine ⟨by rw [List.length_set]; exact h.1, fun j h1 h2 => ?_⟩
 rw [getD_set_int (by rw [h.1]; omega)]
 by_cases e : j = at_ + k + 1
 ·subst e
  rw [if_pos rfl, h.2 (at_ + k) (by omega) (by omega), show at_ + k + 1 - at_ = k + 1 by omega, show at_ + k - at_ = k by omega, pickF_succ]
 ·rw [if_neg e, h.2 j h1 (by omega)]
theorem PB.start {ls : List Six} {st : List Rg} {at_ n k : Nat} {v : Int} {l : List Int} (h : PF ls st at_ v n k l) (hk : at_ + k = n) : PB ls st at_ v n 0 l :=
 ⟨h.1, fun j h1 h2 => h.2 j h1 (by omega), fun j h1 h2 => absurd h1 (by omega)⟩
theorem PB.at_ {ls : List Six} {st : List Rg} {at_ n k : Nat} {v : Int} {l : List Int} (h : PB ls st at_ v n k l) (ha : at_ ≤ n) (hk : k ≤ at_) : l.getD (at_ - k) 0 = pickB ls st at_ v k := by
 by_cases e : k = 0
 ·subst e
  rw [Nat.sub_zero, h.2.1 at_ (Nat.le_refl _) ha, Nat.sub_self]; rfl
 ·rw [h.2.2 (at_ - k) (by omega) (by omega), show at_ - (at_ - k) = k by omega]
theorem PB.next {ls : List Six} {st : List Rg} {at_ n k : Nat} {v : Int} {l : List Int} (h : PB ls st at_ v n k l) (ha : at_ ≤ n) (hk : k < at_) : PB ls st at_ v n (k + 1) (l.set (at_ - 1 - k) (max (Lo st (at_ - 1 - k)) (l.getD (at_ - k) 0 + Ls ls (at_ - 1 - k)))) := by
 have hl := h.at_ ha (Nat.le_of_lt hk)
 refine ⟨by rw [List.length_set]; exact h.1, fun j h1 h2 => ?_, fun j h1 h2 => ?_⟩
 ·rw [getD_set_int (by rw [h.1]; omega), if_neg (by omega), h.2.1 j h1 h2]
 ·rw [getD_set_int (by rw [h.1]; omega)]
  by_cases e : j = at_ - 1 - k
  ·rw [if_pos e, hl, show at_ - j = k + 1 by omega, pickB_succ]
  ·rw [if_neg e, h.2.2 j h1 (by omega)]
theorem PB.all {ls : List Six} {st : List Rg} {at_ : Nat} {v : Int} {l : List Int} (h : PB ls st at_ v ls.length at_ l) : l = pickS ls st at_ v := by
 refine list_getD_ext (by rw [h.1]; unfold pickS; rw [List.length_map, List.length_range]) fun i hi => ?_
 rw [h.1] at hi
 rw [pickS_at (by omega)]
 by_cases e : i < at_
 ·rw [if_pos e, h.2.2 i e (by omega)]
 ·rw [if_neg e, h.2.1 i (by omega) (by omega)]
theorem hpf_next {ls : List Six} {st : List Rg} {at_ n k ix : Nat} {v : Int} {l : List Int} (h : PF ls st at_ v n k l) (e : ix = at_ + k) (hk : ix < n) : PF ls st at_ v n (k + 1) (l.set (ix + 1) (max (Lo st (ix + 1)) (l.getD ix 0 - Gr ls ix))) := by
 subst e
 exact h.next hk
theorem PF.start' {ls : List Six} {st : List Rg} {at_ n k : Nat} {v : Int} {l : List Int} (h : PF ls st at_ v n k l) (hk : at_ + k = n) : PB ls st at_ v n 0 l := PB.start h hk
def diffs (l : List Int) (n : Nat) : List Int := (List.range n).map fun i => l.getD i 0 - l.getD (i + 1) 0
theorem diffs_at {l : List Int} {n i : Nat} (hi : i < n) : (diffs l n).getD i 0 = l.getD i 0 - l.getD (i + 1) 0 := by
 unfold diffs
 rw [List.getD_eq_getElem?_getD, List.getElem?_map, List.getElem?_range hi]
 rfl
theorem src_fresh {l : List Six} {s : Int} {k : Nat} (h : srcIx l s = k) : s ∉ srcs (l.take k) := fun hm => by
 obtain ⟨y, hy, e⟩ := List.mem_map.1 hm
 obtain ⟨i, hi, rfl⟩ := List.mem_take_iff_getElem.1 hy
 have hlt : i < l.findIdx (isSrc s) := by
  have : l.findIdx (isSrc s) = k := h
  omega
 have := List.not_of_lt_findIdx hlt
 rw [isSrc_iff.2 e] at this
 cases this
theorem gK_next {ls : List Six} {ds : List Int} {k : Nat} (hk : k < ls.length) (h : srcIx ls (ls.getD k z6).a = k) (s : Int) : gK (ls.take (k + 1)) ds s = if s = (ls.getD k z6).a then ds.getD k 0 else gK (ls.take k) ds s := by
 rw [List.take_succ_eq_append_getElem hk, ← six_get hk, gK_snoc (src_fresh h), List.length_take, Nat.min_eq_left (Nat.le_of_lt hk)]
theorem gK_full {ls : List Six} {ds : List Int} (hd : ds.length = ls.length) (s : Int) : gK ls ds s = ds.getD (srcIx ls s) 0 := by
 unfold gK
 by_cases h : srcIx ls s < ls.length
 ·rw [if_pos h]
 ·rw [if_neg h, List.getD_eq_getElem?_getD, List.getElem?_eq_none (by omega)]; rfl
/-- What pick returns. -/
def PickEnd (p : Pl) (known : Int) (s : List Int) (w : World) (e : Ending) (w' : World) : Prop :=
 (∃ v, e = .returned (.agg #[.int .i64 (s.getD 0 0), v]) ∧ OwnL icells 1 3 w' w.heap.size v (pickC p known s)) ∧ Below w.heap.size w w'
set_option maxRecDepth 100000 in
set_option maxHeartbeats 16000000 in
theorem pick_any (p : Pl) (A1 A2 A3 : Option Addr) (n1 c1 n2 c2 n3 c3 pb bf bs : Nat) (known : Int) (A : Option Addr) (n c at_ : Nat) (v : Int) (w : World)
  (hP : Blk w pb 38 (plb p A1 A2 A3 n1 c1 n2 c2 n3 c3)) (hp : Pa w p A1 A2 A3 n1 c1 n2 c2 n3 c3) (hok : okPl p = true) (h60 : n ≤ 100) (hs : sound (lookS p known every) = true)
  (hf : Fd w bf bs (.pointer (some ⟨pb, 0, none⟩)) known A n c (n + 1) (lookS p known every)) (ha : Arr scells 6 w A n (lookL p known every)) (hat : at_ ≤ n) (h1 : Lo (lookS p known every) at_ ≤ v) (h2 : v ≤ Hi (lookS p known every) at_) :
  Calls Tryz.prog 84 #[.pointer (some ⟨bf, 0, none⟩), .int .i64 at_, .int .i64 v] w (PickEnd p known (pickS (lookL p known every) (lookS p known every) at_ v) w) := by
 have hrw := look_rw hok hs
 have hln := ha.1
 have hpos := fun i (hi : i ≤ n) => hrw.pos i (by rw [hln]; exact hi)
 have hhi := fun i (hi : i ≤ n) => look_hi hok known every (i := i) (by rw [hln]; exact hi)
 have hwid := fun i (hi : i < n) => (show 0 ≤ Ls (lookL p known every) i ∧ Ls (lookL p known every) i ≤ 10000 ∧ 0 ≤ Gr (lookL p known every) i ∧ Gr (lookL p known every) i ≤ 10000 from by
  have := lookL_num hok known every _ (getD_mem (show i < (lookL p known every).length by rw [hln]; exact hi))
  unfold Num at this
  unfold Ls Gr
  omega)
 have hpf := fun k (hk : at_ + k ≤ n) => pickF_in hrw.arc hrw.snd h1 h2 k (by rw [hln]; exact hk)
 have hpb := fun k (hk : k ≤ at_) => pickB_in hrw.arc hrw.snd (by rw [hln]; exact hat) h1 h2 k hk
 have hpt := (pick_tru hrw.arc (fun i hi => (hrw.wid i hi).2) hrw.snd (at_ := at_) (v := v) (by rw [hln]; exact hat) h1 h2).1
 have hsd := fun i (hi : i < n) => (show 0 ≤ (lookS p known every).length from Nat.zero_le _)
 have q3 := hf.f.cell 3
 obtain ⟨m, hm⟩ : ∃ m, n + 1 = m := ⟨_, rfl⟩
 rw [hm] at hf q3
 obtain ⟨W1, hW1⟩ : ∃ W1, ((w.alloc (.cells #[.int .i64 0, .slice none 0 0] 41)).alloc (.cells (vals (List.replicate m 0)) 3)).alloc (.cells #[.slice (some ⟨w.heap.size + 1, 0, none⟩) m m] 39) = W1 := ⟨_, rfl⟩
 have g1 : Below w.heap.size w W1 := by rw [← hW1]; exact three_more _ _ _ _
 have HB6 := Lib.hid (show Blk W1 w.heap.size 41 #[.int .i64 0, .slice none 0 0] by rw [← hW1]; exact ((Blk.new _ _ _).alloc _).alloc _)
 have hbS : Blk W1 (w.heap.size + 1) 3 (vals (List.replicate m 0)) := by rw [← hW1]; have := Blk.new (w.alloc (.cells #[.int .i64 0, .slice none 0 0] 41)) 3 (vals (List.replicate m 0)); rw [World.size_alloc] at this; exact this.alloc _
 have HB7 := Lib.hid (show Blk W1 (w.heap.size + 1 + 1) 39 #[.slice (some ⟨w.heap.size + 1, 0, none⟩) m m] by rw [← hW1]; have := Blk.new ((w.alloc (.cells #[.int .i64 0, .slice none 0 0] 41)).alloc (.cells (vals (List.replicate m 0)) 3)) 39 #[.slice (some ⟨w.heap.size + 1, 0, none⟩) m m]; simp only [World.size_alloc] at this; exact this)
 have G1 := Lib.hid g1
 have HP1 := Lib.hid (hP.ext g1)
 have HPA1 := Lib.hid (hp.below g1)
 have HF1 := Lib.hid (hf.ext g1)
 have HA1 := Lib.hid (ha.below g1)
 have HA := Lib.hid ha
 have HPA := Lib.hid hp
 have hpl := hP.lt
 have hfl := hf.f.lt
 have hsl := hf.s.lt
 have hfs := hf.ne
 have HOK := Lib.hid hok
 have HLN := Lib.hid hln
 have hb7l := HB7.out.lt
 have HBS := Lib.hid hbS
 have hmk := run_make_int m (by omega)
 have HMK := Lib.hid hmk
 have HPOS := Lib.hid hpos
 have HHI := Lib.hid hhi
 have HWID := Lib.hid hwid
 have HPF := Lib.hid hpf
 have HPB := Lib.hid hpb
 have HPT := Lib.hid hpt
 have HW1 := Lib.hid hW1
 obtain ⟨st, hst⟩ : ∃ s, lookS p known every = s := ⟨_, rfl⟩
 obtain ⟨ls, hls⟩ : ∃ s, lookL p known every = s := ⟨_, rfl⟩
 have HSRC := Lib.hid (fun x (hx : x ∈ lookL p known every) => look_src hok hx)
 have HIX := Lib.hid (fun i (hi : i < (lookL p known every).length) => srcIx_cart hok hi)
 have HCT := Lib.hid (fun x (hx : x ∈ countL p known) => mem_count.1 hx)
 have HPC := Lib.hid (show pickC p known (pickS (lookL p known every) (lookS p known every) at_ v) = (countL p known).map fun x => (pickS (lookL p known every) (lookS p known every) at_ v).getD (srcIx (lookL p known every) x.a) 0 - (pickS (lookL p known every) (lookS p known every) at_ v).getD (srcIx (lookL p known every) x.a + 1) 0 from rfl)
 rw [hst, hls] at HPF HPB HPT HPC
 rw [hst] at HPOS HHI HF1
 rw [hls] at HWID HA1 HA HLN HSRC HIX HCT
 rw [hst, hls]
 clear hrw hpos hhi hwid hpf hpb hpt hsd g1 hbS hW1 hP hp hok hs hf ha hln h1 h2 hst hls
 have HM := Lib.hid hm
 have hmn : n < m := by omega
 have hm60 : m ≤ 101 := by omega
 clear hm
 refine (callsIn_wide (n := 4)).1 (callsIn_of_wp_marks Tryz.func84 rfl trivial ?_ rfl)
 simp only [Tryz.ntmps84, List.size_toArray, List.length_cons, List.length_nil, Nat.reduceAdd, Nat.reduceSub, Array.replicate_succ, Array.replicate_zero, List.push_toArray, List.append_toArray, List.nil_append, List.cons_append]
 refine wpIn_wide.2 ?_
 go_upto_region 2 with fail
 rw [HW1.out]
 clear hmk q3
 obtain ⟨bS, hbSe⟩ : ∃ b, w.heap.size + 1 = b := ⟨_, rfl⟩
 rw [hbSe] at HBS HB7 hb7l ⊢
 have q0 := HB7.out.cell 0
 have q1 : W1.cell? ⟨bS, at_, none⟩ = some (.int .i64 0) := by rw [HBS.out.cell, vals_get, List.getElem?_replicate, if_pos (by omega)]; rfl
 have q2 := HBS.out.frozen at_
 have hati : (at_ : Int) < (m : Int) := by omega
 go_upto_region 3 with fail
 clear q0 q1 q2
 obtain ⟨W2, hW2⟩ : ∃ W, W1.setCell ⟨bS, at_, none⟩ (.int .i64 v) = W := ⟨_, rfl⟩
 rw [hW2]
 have HX2 := Lib.hid (show Fix bS bS W1 W2 by rw [← hW2]; exact (Fix.refl _ _ _).setCell (p := ⟨bS, at_, none⟩) (.inl rfl) _)
 have HS2 := Lib.hid (show Blk W2 bS 3 (vals ((List.replicate m 0).set at_ v)) by rw [← hW2, ← vals_set]; exact HBS.out.set_ at_ _)
 have HS0 := Lib.hid (show PF ls st at_ v n 0 ((List.replicate m 0).set at_ v) by rw [← HM.out]; exact PF.start hat)
 clear hW2
 go_upto_region 4 with fail
 go_loopw [8] (fun i wr => ∃ (ix k : Nat) (l : List Int), i = .int .i64 ix ∧ ix = at_ + k ∧ ix ≤ n ∧ Fix bS bS W1 wr ∧ Blk wr bS 3 (vals l) ∧ PF ls st at_ v n k l) (fun i _ => n - (intOf i).toNat)
 case atStart => exact ⟨at_, 0, _, rfl, rfl, hat, HX2.out, HS2.out, HS0.out⟩
 case round =>
  obtain ⟨ix, k, l, rfl, hixk, hix, hfx, hbl, hpf⟩ := hrel
  obtain ⟨V, rfl⟩ : ∃ V : World, V = wr := ⟨_, rfl⟩
  have HFX := Lib.hid hfx
  have HBL := Lib.hid hbl
  have HPFk := Lib.hid hpf
  have HIK := Lib.hid hixk
  have hfd := hfx.blk HF1.out.f (by omega) (by omega)
  have HFV := Lib.hid hfd
  have f2 := hfd.cell 2
  have hvs := hfx.size
  clear hfx hbl hpf hfd hixk
  by_cases hlt : ix < n
  ·obtain ⟨b0, o0, e0, -, -, hc⟩ := six_at (HA1.out.fix HFX.out (fun b o e h0 => by have := HA.out.lt_of e h0; omega)) hlt
   obtain ⟨-, -, -, l3, -, -⟩ := hc V (Below.refl _ _)
   have HSV := Lib.hid (HFX.out.blk HF1.out.s (by omega) (by omega))
   obtain ⟨v0, -⟩ := rvals_at (st := st) (i := ix + 1) (by rw [HF1.out.len]; omega)
   have s0 : V.cell? ⟨bs, (ix + 1) * 2, none⟩ = some (.int .i64 (Lo st (ix + 1))) := by rw [HSV.out.cell, v0]
   have hl := HPFk.out.1
   have hlv := HPFk.out.2 ix (by have := HIK.out; omega) (by have := HIK.out; omega)
   have r0 : V.cell? ⟨bS, ix, none⟩ = some (.int .i64 (l.getD ix 0)) := by rw [HBL.out.cell, vals_get, getD_int1 (by omega)]; rfl
   have r1 : V.cell? ⟨bS, ix + 1, none⟩ = some (.int .i64 (l.getD (ix + 1) 0)) := by rw [HBL.out.cell, vals_get, getD_int1 (by omega)]; rfl
   have hpb := HPF.out k (by have := HIK.out; omega)
   have hdw := HWID.out ix hlt
   have hlo1 := HPOS.out (ix + 1) (by omega)
   have hlo2 := HHI.out (ix + 1) (by omega)
   have hp0 := HPOS.out (at_ + k) (by have := HIK.out; omega)
   have hp1 := HHI.out (at_ + k) (by have := HIK.out; omega)
   have e9 : ix - at_ = k := by have := HIK.out; omega
   rw [e9] at hlv
   have HNX := Lib.hid (hpf_next HPFk.out HIK.out hlt)
   obtain ⟨lo, hlo⟩ : ∃ lo, Lo st (ix + 1) = lo := ⟨_, rfl⟩
   obtain ⟨sv, hsv⟩ : ∃ v, l.getD ix 0 = v := ⟨_, rfl⟩
   obtain ⟨y, hy⟩ : ∃ y, ls.getD ix z6 = y := ⟨_, rfl⟩
   unfold Gr at HNX hdw
   rw [hlo] at s0 HNX
   rw [hsv] at r0 HNX hlv
   rw [hy] at l3 HNX hdw
   have hsb : 0 ≤ sv ∧ sv ≤ 10000 := by omega
   have w0 := cellW ((HFX.out.blk HB7.out (by omega) (by omega)).cell 0)
   have w1 := cellW f2
   have w2 := cellW (HFV.out.cell 3)
   have w3 := cellW l3
   have w4 := cellW s0
   have w5 := cellW r0
   have HR1 := Lib.hid r1
   have hwr1 : IntKind.i64.wrap ((ix : Int) + 1) = (ix : Int) + 1 := by rw [IntKind.wrap_i64]; omega
   have hwr2 : IntKind.i64.wrap (sv - y.d) = sv - y.d := by rw [IntKind.wrap_i64]; omega
   have hx0 : (0 : Int) ≤ (ix : Int) + 1 := by omega
   have hx1 : (ix : Int) + 1 < (m : Int) := by omega
   have hx2 : (ix : Int) < (m : Int) := by omega
   have hx3 : (ix : Int) < (n : Int) := by omega
   have hx4 : ((ix : Int) + 1).toNat = ix + 1 := by omega
   subst e0
   clear hc v0 s0 r0 r1 hlv hlo hsv hy hl e9 hp0 hp1 hlo1 hlo2 hpb l3
   go_upto_region 6 with fail
   refine wp_region_calm_tail V 28 (by kernel_rfl) (by kernel_rfl) (Below.refl _ _) ?_
   simp only [List.take_succ_cons, List.take_zero, List.drop_succ_cons, List.drop_zero]
   repeat (go_big_quiet_step (fail))
   refine wpQuiet_nil ?_
   rintro _ ⟨z, rfl⟩
   have GZ := Lib.hid z.ok
   obtain ⟨Z, hZ⟩ : ∃ Z, z.val = Z := ⟨_, rfl⟩
   rw [hZ] at GZ ⊢
   clear hZ z w0 w1 w2 w3 w4 w5
   have KB := Lib.hid (HBL.out.ext GZ.out)
   have r1 := (GZ.out.cell (p := ⟨bS, ix + 1, none⟩) (World.block_lt_of_cell? V _ HR1.out)).trans HR1.out
   have r2 := KB.out.frozen (ix + 1)
   go_wp2_with fail
   go_roundw
   case rel =>
    refine ⟨ix + 1, k + 1, _, by go_num, by have := HIK.out; omega, by omega, (HFX.out.trans (Fix.of_below GZ.out)).setCell (p := ⟨bS, ix + 1, none⟩) (.inl rfl) _, ?_, HNX.out⟩
    rw [← vals_set]
    exact KB.out.set_ (ix + 1) _
   case measure => simp [intOf]; omega
  ·obtain rfl : ix = n := by omega
   have HB0 := Lib.hid (HPFk.out.start' HIK.out.symm)
   clear f2
   have f2 := HFV.out.cell 2
   go_upto_region 8 with fail
   clear f2
   go_loopw [9] (fun i wr => ∃ (k : Nat) (l : List Int), i = .int .i64 ((at_ : Int) - 1 - (k : Int)) ∧ k ≤ at_ ∧ Fix bS bS W1 wr ∧ Blk wr bS 3 (vals l) ∧ PB ls st at_ v ix k l) (fun i _ => (intOf i + 1).toNat)
   case atStart => exact ⟨0, l, by simp, Nat.zero_le _, HFX.out, HBL.out, HB0.out⟩
   case round =>
    clear HFX HBL HPFk HIK HFV hvs HB0
    obtain ⟨k, l, rfl, hk, hfx, hbl, hpb⟩ := hrel
    obtain ⟨V, rfl⟩ : ∃ V : World, V = wr := ⟨_, rfl⟩
    have HFX := Lib.hid hfx
    have HBL := Lib.hid hbl
    have HPBk := Lib.hid hpb
    have HFV := Lib.hid (hfx.blk HF1.out.f (by omega) (by omega))
    have hvs := hfx.size
    clear hfx hbl hpb
    by_cases hlt : k < at_
    ·obtain ⟨jx, hjx⟩ : ∃ j, at_ - 1 - k = j := ⟨_, rfl⟩
     have hjxe : (at_ : Int) - 1 - (k : Int) = (jx : Nat) := by omega
     rw [hjxe]
     have hjn : jx < ix := by omega
     obtain ⟨b0, o0, e0, -, -, hc⟩ := six_at (HA1.out.fix HFX.out (fun b o e h0 => by have := HA.out.lt_of e h0; omega)) hjn
     obtain ⟨-, -, l2, -, -, -⟩ := hc V (Below.refl _ _)
     have HSV := Lib.hid (HFX.out.blk HF1.out.s (by omega) (by omega))
     obtain ⟨v0, -⟩ := rvals_at (st := st) (i := jx) (by rw [HF1.out.len]; omega)
     have s0 : V.cell? ⟨bs, jx * 2, none⟩ = some (.int .i64 (Lo st jx)) := by rw [HSV.out.cell, v0]
     have hl := HPBk.out.1
     have hlv := HPBk.out.at_ hat (Nat.le_of_lt hlt)
     have HNX := Lib.hid (HPBk.out.next hat hlt)
     have e9 : at_ - k = jx + 1 := by omega
     rw [e9] at hlv HNX
     rw [hjx] at HNX
     have r0 : V.cell? ⟨bS, jx + 1, none⟩ = some (.int .i64 (l.getD (jx + 1) 0)) := by rw [HBL.out.cell, vals_get, getD_int1 (by omega)]; rfl
     have r1 : V.cell? ⟨bS, jx, none⟩ = some (.int .i64 (l.getD jx 0)) := by rw [HBL.out.cell, vals_get, getD_int1 (by omega)]; rfl
     have hpb := HPB.out k (by omega)
     have hdw := HWID.out jx hjn
     have hlo1 := HPOS.out jx (by omega)
     have hlo2 := HHI.out jx (by omega)
     have hp0 := HPOS.out (at_ - k) (by omega)
     have hp1 := HHI.out (at_ - k) (by omega)
     obtain ⟨lo, hlo⟩ : ∃ lo, Lo st jx = lo := ⟨_, rfl⟩
     obtain ⟨sv, hsv⟩ : ∃ v, l.getD (jx + 1) 0 = v := ⟨_, rfl⟩
     obtain ⟨y, hy⟩ : ∃ y, ls.getD jx z6 = y := ⟨_, rfl⟩
     unfold Ls at HNX hdw
     rw [hlo] at s0 HNX
     rw [hsv] at r0 HNX hlv
     rw [hy] at l2 HNX hdw
     have hsb : 0 ≤ sv ∧ sv ≤ 10000 := by omega
     have w0 := cellW ((HFX.out.blk HB7.out (by omega) (by omega)).cell 0)
     have w1 := cellW (HFV.out.cell 2)
     have w2 := cellW (HFV.out.cell 3)
     have w3 := cellW l2
     have w4 := cellW s0
     have w5 := cellW r0
     have HR1 := Lib.hid r1
     have hwr1 : IntKind.i64.wrap ((jx : Int) + 1) = (jx : Int) + 1 := by rw [IntKind.wrap_i64]; omega
     have hwr2 : IntKind.i64.wrap (sv + y.c) = sv + y.c := by rw [IntKind.wrap_i64]; omega
     have hx0 : (0 : Int) ≤ (jx : Int) + 1 := by omega
     have hx1 : (jx : Int) + 1 < (m : Int) := by omega
     have hx2 : (jx : Int) < (m : Int) := by omega
     have hx3 : (jx : Int) < (ix : Int) := by omega
     have hx4 : ((jx : Int) + 1).toNat = jx + 1 := by omega
     have HJX := Lib.hid hjxe
     subst e0
     clear hc v0 s0 r0 r1 hlv hlo hsv hy hl e9 hp0 hp1 hlo1 hlo2 hpb l2 hjxe
     go_upto_region 10 with fail
     refine wp_region_calm_tail V 27 (by kernel_rfl) (by kernel_rfl) (Below.refl _ _) ?_
     simp only [List.take_succ_cons, List.take_zero, List.drop_succ_cons, List.drop_zero]
     repeat (go_big_quiet_step (fail))
     refine wpQuiet_nil ?_
     rintro _ ⟨z, rfl⟩
     have GZ := Lib.hid z.ok
     obtain ⟨Z, hZ⟩ : ∃ Z, z.val = Z := ⟨_, rfl⟩
     rw [hZ] at GZ ⊢
     clear hZ z w0 w1 w2 w3 w4 w5
     have KB := Lib.hid (HBL.out.ext GZ.out)
     have r1 := (GZ.out.cell (p := ⟨bS, jx, none⟩) (World.block_lt_of_cell? V _ HR1.out)).trans HR1.out
     have r2 := KB.out.frozen jx
     go_wp2_with fail
     go_roundw
     case rel =>
      refine ⟨k + 1, _, by have := HJX.out; go_num, by omega, (HFX.out.trans (Fix.of_below GZ.out)).setCell (p := ⟨bS, jx, none⟩) (.inl rfl) _, ?_, HNX.out⟩
      rw [← vals_set]
      exact KB.out.set_ jx _
     case measure => simp [intOf]
    ·obtain rfl : k = at_ := by omega
     have he : (k : Int) - 1 - (k : Int) = -1 := by omega
     rw [he]
     have HALL := Lib.hid (show l = pickS ls st k v from PB.all (by rw [HLN.out]; exact HPBk.out))
     have HTR := Lib.hid (show Tru ls st l by rw [HALL.out]; exact HPT.out)
     have HVB := Lib.hid (show ∀ j, j ≤ ix → 0 ≤ l.getD j 0 ∧ l.getD j 0 ≤ 10000 from fun j hj => by
      have a := HTR.out.2.2 j (by rw [HLN.out]; exact hj)
      have b := HPOS.out j hj
      have c := HHI.out j hj
      omega)
     have HLL := Lib.hid HPBk.out.1
     have HB7V := Lib.hid (HFX.out.blk HB7.out (by omega) (by omega))
     have HB6V := Lib.hid (HFX.out.blk HB6.out (by omega) (by omega))
     have HPV := Lib.hid (HFX.out.blk HP1.out (by omega) (by omega))
     have HAV := Lib.hid (HA1.out.fix HFX.out (fun b o e h0 => by have := HA.out.lt_of e h0; omega))
     have HPAV := Lib.hid (show Arr scells 6 V A1 n1 p.loads from HPA1.out.l1.fix HFX.out (fun b o e h0 => by have := HPA.out.l1.lt_of e h0; omega))
     have GV := Lib.hid (show Below w.heap.size w V from G1.out.trans (HFX.out.below (B := w.heap.size) (by omega) G1.out.size))
     have hgv := GV.out.size
     have hmm := @run_makeMap Tryz.prog
     go_upto_region 12 with fail
     clear hmm
     obtain ⟨W3, hW3⟩ : ∃ W, (V.alloc (.map #[] 0)).alloc (.cells #[.map (some V.heap.size)] 230) = W := ⟨_, rfl⟩
     rw [hW3]
     have g3 : Below V.heap.size V W3 := by rw [← hW3]; exact two_more _ _ _
     have nm3 : NumMap W3 V.heap.size 0 (gK (ls.take 0) (diffs l ix)) := by rw [← hW3]; exact ((NumMap.new V).ext (one_more _ _)).congr (fun i => by rfl)
     have bb3 : Blk W3 (V.heap.size + 1) 230 #[.map (some V.heap.size)] := by rw [← hW3]; have := Blk.new (V.alloc (.map #[] 0)) 230 #[.map (some V.heap.size)]; rwa [World.size_alloc] at this
     have hs3 : W3.heap.size = V.heap.size + 2 := by rw [← hW3]; simp
     clear hW3
     go_wp2_with fail
     refine (carted_any _ _).mono ?_
     rintro e w' ⟨rfl, hw'⟩
     have hbQ : Blk w' W3.heap.size 134 #[.pointer (some ⟨bf, 0, none⟩)] := by rw [← hw']; exact Blk.new _ _ _
     have g4 : Below W3.heap.size W3 w' := by rw [← hw']; exact one_more _ _
     have hs4 : w'.heap.size = W3.heap.size + 1 := by rw [← hw']; simp
     clear hw'
     rename World => W0
     have g5 : Below V.heap.size V W0 := g3.trans (g4.mono g3.size)
     have HNM := Lib.hid (nm3.ext g4)
     have HBB := Lib.hid (bb3.ext g4)
     have HB70 := Lib.hid (HB7V.out.ext g5)
     have HB60 := Lib.hid (HB6V.out.ext g5)
     have HS0' := Lib.hid (HBL.out.ext g5)
     have HF0 := Lib.hid (HFV.out.ext g5)
     have HP0 := Lib.hid (HPV.out.ext g5)
     have HA0 := Lib.hid (HAV.out.below g5)
     have HPA0 := Lib.hid (HPAV.out.below g5)
     have G0 := Lib.hid (GV.out.trans (g5.mono hgv))
     have hbsl := HBL.out.lt
     obtain ⟨bm, hbm⟩ : ∃ b, V.heap.size = b := ⟨_, rfl⟩
     have HQ0 := Lib.hid (show Blk W0 (bm + 2) 134 #[.pointer (some ⟨bf, 0, none⟩)] by rw [← hbm, ← hs3]; exact hbQ)
     have h0s : bm + 3 ≤ W0.heap.size := by omega
     rw [show W3.heap.size = bm + 2 by omega]
     have HVM := Lib.hid hbm
     have hvm1 : W1.heap.size ≤ bm := by omega
     rw [hbm] at HNM HBB hgv hbsl ⊢
     clear g3 g4 g5 nm3 bb3 hs3 hs4 hbQ hbm
     have HAD := Lib.hid (show ∀ b o, A = some ⟨b, o, none⟩ → 0 < ix → b ≠ bm ∧ b ≠ bm ∧ b < W0.heap.size from fun b o e h0 => by
      have := HA.out.lt_of e h0
      omega)
     have HSQ := Lib.hid (carted_seqP 3 W0 W0.heap.size (bm + 2) bf bm bm A ix c ls (HQ0.out.cell 0) (HF0.out.cell 2) HA0.out (by omega) HAD.out)
     go_wp2_with fail
     refine (wpIn_wide (n := 4)).1 ?_
     refine wp_rangeP (α := Cx ix) (n := 4) (by omega) (gf := 202) (lb := #[.pointer (some ⟨bm + 2, 0, none⟩)]) rfl (enters_of Tryz.func202 (by kernel_rfl) rfl) HSQ.out (Below.refl _ _) (fun _ => rfl)
      (fun pre W => FixU W0.heap.size bm bm W0 W ∧ NumMap W bm pre.length (gK (ls.take pre.length) (diffs l ix)) ∧ Oto W0 W) (fun _ _ _ => False) ?hI ?hIx ?h0
      (fun x a' W => ∃ Bx, W0.heap.size ≤ Bx ∧ Blk W Bx 103 #[.int .i64 (ls.getD x.1 z6).a, .int .i64 (ls.getD x.1 z6).b, .int .i64 (ls.getD x.1 z6).c, .int .i64 (ls.getD x.1 z6).d, .int .i64 (ls.getD x.1 z6).e, .int .i64 (ls.getD x.1 z6).f] ∧
       a' = (?F : Cx ix → Nat → Act) x Bx) ?hAx ?assign ?body ?done ?stop
     case assign =>
      rintro l' pre x W K ⟨hfx, hnm, hto⟩ hK
      unfold encC
      gi_wp2
      refine hK _ _ ((KeepsOthers.alloc _ _).from _) (FixU.of_below (one_more _ _)) ⟨hfx.trans (FixU.of_below (one_more _ _)), hnm.ext (one_more _ _), hto.below (one_more _ _)⟩ ⟨W.heap.size, hfx.size, Blk.new _ _ _, ?_⟩
      generalize W.heap.size = B
      rfl
     case hI =>
      rintro pre X Y row ⟨hfx, hnm, hto⟩ hg hr
      have hr1 : ∀ r, row = some r → ∃ o : Obj, X.heap[r]? = some o ∧ o.isCells = false := fun r e => (hr r e).2
      exact ⟨(FixU.own (α := Nat) (Nat.le_refl _)) [] _ _ _ hfx hg hr, hnm.same (hg.block bm hnm.lt (fun e => by have := (hr bm e.symm).1; omega)), hto.grown hg⟩
     case hIx => exact fun _ _ _ _ _ hs _ _ => hs
     case h0 => exact ⟨FixU.refl _ _ _ _, HNM.out, Oto.refl _⟩
     case hAx =>
      rintro x a' _ X Y row ⟨Bx, h1, h2, h3⟩ hg hr
      exact ⟨Bx, h1, h2.own hg (fun r e => (hr r e).2), h3⟩
     case body =>
      rintro l' pre x a' W hl - ⟨hfx, hnm, hto⟩ ⟨Bx, hBx, hB, rfl⟩ hpl hG
      have hXs := hfx.size
      obtain ⟨xi, hxi⟩ : ∃ xi, x.1 = xi := ⟨_, rfl⟩
      have hxn : xi < ix := by rw [← hxi]; exact x.2
      rw [hxi] at hB hG ⊢
      have HPN := Lib.hid (show (pre ++ [x]).length = xi + 1 by rw [List.length_append, List.length_singleton, hG])
      rw [← hG] at hnm
      have HGN := Lib.hid (fun s => gK_next (ds := diffs l ix) (show xi < ls.length by rw [HLN.out]; exact hxn) (HIX.out xi (by rw [HLN.out]; exact hxn)) s)
      have HDA := Lib.hid (diffs_at (l := l) hxn)
      have hys := HSRC.out _ (getD_mem (show xi < ls.length by rw [HLN.out]; exact hxn))
      obtain ⟨y, hy⟩ : ∃ y, ls.getD xi z6 = y := ⟨_, rfl⟩
      rw [hy] at hB HGN hys
      have hv1 := HVB.out xi (by omega)
      have hv2 := HVB.out (xi + 1) (by omega)
      have hll := HLL.out
      have hSW := hfx.blk HS0'.out (by omega) (by omega) (.inl (by omega))
      have r0 : W.cell? ⟨bS, xi, none⟩ = some (.int .i64 (l.getD xi 0)) := by rw [hSW.cell, vals_get, getD_int1 (by omega)]; rfl
      have r1 : W.cell? ⟨bS, xi + 1, none⟩ = some (.int .i64 (l.getD (xi + 1) 0)) := by rw [hSW.cell, vals_get, getD_int1 (by omega)]; rfl
      obtain ⟨s1, hs1⟩ : ∃ v, l.getD xi 0 = v := ⟨_, rfl⟩
      obtain ⟨s2, hs2⟩ : ∃ v, l.getD (xi + 1) 0 = v := ⟨_, rfl⟩
      rw [hs1] at r0 hv1 HDA
      rw [hs2] at r1 hv2 HDA
      have w0 := cellW r0
      have w1 := cellW r1
      have w2 := cellW ((hfx.blk HB70.out (by omega) (by omega) (.inl (by omega))).cell 0)
      have w3 := cellW ((hfx.blk HBB.out (by omega) (by omega) (.inl (by omega))).cell 0)
      have w4 := cellW (hB.cell 0)
      have hwr1 : IntKind.i64.wrap ((xi : Int) + 1) = (xi : Int) + 1 := by rw [IntKind.wrap_i64]; omega
      have hwr2 : IntKind.i64.wrap (s1 - s2) = s1 - s2 := by rw [IntKind.wrap_i64]; omega
      have hx0 : (0 : Int) ≤ (xi : Int) + 1 := by omega
      have hx1 : (xi : Int) + 1 < (m : Int) := by omega
      have hx2 : (xi : Int) < (m : Int) := by omega
      have hx4 : ((xi : Int) + 1).toNat = xi + 1 := by omega
      have HFXW := Lib.hid hfx
      have HNMW := Lib.hid hnm
      have HTO := Lib.hid hto
      clear hfx hnm hto hB hG hy hs1 hs2 r0 r1 hll hxi
      gi_wp2_with fail
      refine wpIn_region_quiet_tail (Open.round l') (C := fun w' => ∃ x : Wd W, w' = x.val) 13 (by kernel_rfl) (by kernel_rfl) (by kernel_rfl) (Wd.of (Below.refl _ _).drew) ?_
      simp only [List.take_succ_cons, List.take_zero, List.drop_succ_cons, List.drop_zero]
      repeat (go_big_quiet_step (fail))
      refine wpQuiet_nil ?_
      rintro _ ⟨z, rfl⟩
      clear w0 w1 w2 w3 w4
      have GZ := Lib.hid z.ok
      obtain ⟨Z, hZ⟩ : ∃ Z, z.val = Z := ⟨_, rfl⟩
      rw [hZ] at GZ ⊢
      clear hZ z
      obtain ⟨nD, D, hD1, hD2, hD3⟩ := HNMW.out.ext GZ.out
      have HD3 := Lib.hid hD3
      have HD2 := Lib.hid hD2
      clear hD2 hD3
      refine wpListIn_mapUpdate_own _ rfl _ _ _ 230 rfl 3 3 (int_keyed Tryz.underlying3) Tryz.underlying230 _ bm nD D (by rfl) HD2.out (by unfold maxLen; omega) _ _ (.int .i64 y.a) (by rfl) (by rfl) (keyOf_int_mk Tryz.underlying3 (lit_wf (by omega) (by omega))) (.lit (.int .i64 (s1 - s2))) [] (plainElem_int Tryz.underlying3 (wf_i64 (by omega))) ?_
      intro Vu hown1 hgrow1
      have HNU := Lib.hid (NumMap.put (by omega) (by omega) hD1 HD2.out.isMap HD3.out hown1)
      have FU := Lib.hid (FixU.of_fix (B := W0.heap.size) (fix_turn hgrow1))
      have HGW := Lib.hid hgrow1
      clear hown1 hgrow1
      gi_wp2_with fail
      refine ⟨⟨Nat.le_trans GZ.out.size HGW.out.size, fun k o hk hko ho => (HGW.out.block k (Nat.lt_of_lt_of_le (Array.getElem?_eq_some_iff.1 hko).1 GZ.out.size) (fun e => by cases e; omega)).trans ((GZ.out.block k (Array.getElem?_eq_some_iff.1 hko).1).trans hko)⟩, (FixU.of_below GZ.out).trans FU.out, HFXW.out.trans ((FixU.of_below GZ.out).trans FU.out), ?_, ?_⟩
      ·rw [HPN.out]
       refine HNU.out.congr fun s => ?_
       rw [HGN.out s, HDA.out]
      ·exact (HTO.out.below GZ.out).grown HGW.out
     case done =>
      rintro E xs W hD hS ⟨hfx, hnm, hto⟩ hK
      have hxl : xs.length = ix := by
       have := congrArg List.length hS
       rw [List.length_map, List.length_range] at this
       exact this
      rw [hxl, List.take_of_length_le (by rw [HLN.out]; exact Nat.le_refl _)] at hnm
      have hXs := hfx.size
      have hdl : (diffs l ix).length = ls.length := by unfold diffs; rw [List.length_map, List.length_range, HLN.out]
      have HNM2 := Lib.hid (hnm.congr (fun s => gK_full hdl s))
      have hgd : ∀ x ∈ countL p known, (diffs l ix).getD (srcIx ls x.a) 0 = l.getD (srcIx ls x.a) 0 - l.getD (srcIx ls x.a + 1) 0 := fun x hx => diffs_at (by have := (srcIx_spec (HCT.out x hx)).1; rw [HLN.out] at this; exact this)
      obtain ⟨g, hg⟩ : ∃ g : Int → Int, (fun s => (diffs l ix).getD (srcIx ls s) 0) = g := ⟨_, rfl⟩
      rw [hg] at HNM2
      have HPC2 := Lib.hid (show pickC p known (pickS ls st k v) = (countL p known).map fun x => g x.a by
       have e1 : (countL p known).map (fun x => g x.a) = (countL p known).map fun x => l.getD (srcIx ls x.a) 0 - l.getD (srcIx ls x.a + 1) 0 := List.map_congr_left fun x hx => by rw [← hg]; exact hgd x hx
       rw [e1, HALL.out]
       exact HPC.out)
      have HS00 := Lib.hid (show (pickS ls st k v).getD 0 0 = l.getD 0 0 by rw [HALL.out])
      have hll := HLL.out
      have hSW := hfx.blk HS0'.out (by omega) (by omega) (.inl (by omega))
      have r0 : W.cell? ⟨bS, 0, none⟩ = some (.int .i64 (l.getD 0 0)) := by rw [hSW.cell, vals_get, getD_int1 (by omega)]; rfl
      obtain ⟨s0, hs0⟩ : ∃ v, l.getD 0 0 = v := ⟨_, rfl⟩
      rw [hs0] at r0 HS00
      have q7 := (hfx.blk HB70.out (by omega) (by omega) (.inl (by omega))).cell 0
      have HBBW := Lib.hid (hfx.blk HBB.out (by omega) (by omega) (.inl (by omega)))
      have HB6W := Lib.hid (hfx.blk HB60.out (by omega) (by omega) (.inl (by omega)))
      have HFW := Lib.hid (hfx.blk HF0.out (by omega) (by omega) (.inl (by omega)))
      have HPW := Lib.hid (hfx.blk HP0.out (by omega) (by omega) (.inl (by omega)))
      have HLW := Lib.hid (hfx.arr HPA0.out (fun b o e h0 => by have := HPA.out.l1.lt_of e h0; omega))
      have GW := Lib.hid (show Below w.heap.size w W from G0.out.trans (hfx.below (D := w.heap.size) hto (by omega) (by omega) (by omega) (by omega)))
      have HK := Lib.hid hK
      have hEl := (Array.getElem?_eq_some_iff.1 hK).1
      have hb6l := HB6W.out.lt
      have hbbl := HBBW.out.lt
      have hfl2 := HFW.out.lt
      have hpl2 := HPW.out.lt
      have hl1n := HLW.out.1
      have HL1N := Lib.hid hl1n
      have hn60 : n1 ≤ 60 := by have := (ok_parts HOK.out).2.2.2.2.2.1; omega
      have f0 := HFW.out.cell 0
      have p2 := HPW.out.cell 1
      have p3 := HPW.out.cell 2
      have hm0 : (0 : Int) < (m : Int) := by omega
      clear hfx hnm hto hK hS hgd hg hdl hSW hll hs0 hxl hl1n
      go_upto_region 17 with fail
      obtain ⟨W4, hW4⟩ : ∃ V, W.alloc (.cells #[.int .i64 s0, .slice none 0 0] 41) = V := ⟨_, rfl⟩
      rw [hW4]
      have GA := Lib.hid (show Below W.heap.size W W4 by rw [← hW4]; exact one_more _ _)
      have HR4 := Lib.hid (show Blk W4 W.heap.size 41 #[.int .i64 s0, .slice none 0 0] by rw [← hW4]; exact Blk.new _ _ _)
      clear hW4 r0 q7 f0 p2 p3
      have f0 := (HFW.out.ext GA.out).cell 0
      have p3 := (HPW.out.ext GA.out).cell 2
      obtain ⟨b13, hb13⟩ : ∃ b, W.heap.size = b := ⟨_, rfl⟩
      have HB13 := Lib.hid hb13
      rw [hb13] at HR4 ⊢
      have hr4l := HR4.out.lt
      have he13 : E < b13 := by omega
      have h613 : w.heap.size < b13 := by omega
      clear hb13
      go_upto_region 18 with fail
      clear f0 p3
      go_loopw [127] (fun i wr => ∃ (q : Nat) (u : Value), q ≤ n1 ∧ i = .int .i64 q ∧ Below W.heap.size W wr ∧ Blk wr b13 41 #[.int .i64 s0, u] ∧ OwnL icells 1 3 wr (b13 + 1) u ((cntK p known q).map fun x => g x.a)) (fun i _ => n1 - (intOf i).toNat)
      case atStart => exact ⟨0, _, Nat.zero_le _, rfl, GA.out, HR4.out, OwnL.nil _ _⟩
      case round =>
       obtain ⟨q, u, hq, rfl, hgw, hbr, hou⟩ := hrel
       have HGQ := Lib.hid hgw
       have HBR := Lib.hid hbr
       have HOU := Lib.hid hou
       have hws := hgw.size
       have hbrl := hbr.lt
       clear hgw hbr hou
       by_cases hqn : q < n1
       ·obtain ⟨b0, o0, e0, -, -, hc⟩ := six_at (HLW.out.below HGQ.out) hqn
        obtain ⟨x0, x1, x2, x3, x4, x5⟩ := hc wr (Below.refl _ _)
        have hkl1 : q < p.loads.length := by rw [HL1N.out]; exact hqn
        have HSU := Lib.hid (cntK_succ (p := p) (known := known) (k := q) hkl1)
        have hnx := load_num HOK.out (getD_mem hkl1)
        obtain ⟨x, hxg⟩ : ∃ x, p.loads.getD q z6 = x := ⟨_, rfl⟩
        rw [hxg] at x0 x1 x2 x3 x4 x5 HSU hnx
        subst e0
        obtain ⟨cb, hcb⟩ : ∃ cb, cnt x known = cb := ⟨_, rfl⟩
        have TC := fun V => cnt_any x known V
        rw [hcb] at TC HSU
        have HTC := Lib.hid TC
        clear hc hxg hcb TC
        go_upto_region 20 with fail
        obtain ⟨W5, hW5⟩ : ∃ V, wr.alloc (.cells #[.int .i64 x.a, .int .i64 x.b, .int .i64 x.c, .int .i64 x.d, .int .i64 x.e, .int .i64 x.f] 103) = V := ⟨_, rfl⟩
        rw [hW5]
        have HX5 := Lib.hid (show Blk W5 wr.heap.size 103 #[.int .i64 x.a, .int .i64 x.b, .int .i64 x.c, .int .i64 x.d, .int .i64 x.e, .int .i64 x.f] by rw [← hW5]; exact Blk.new _ _ _)
        have G5 := Lib.hid (show Below wr.heap.size wr W5 by rw [← hW5]; exact one_more _ _)
        have v1 := cellW (HX5.out.cell 3)
        have v2 := cellW (HX5.out.cell 4)
        have v3 := cellW (HX5.out.cell 5)
        have v4 := cellW ((HFW.out.ext (HGQ.out.trans (G5.out.mono hws))).cell 1)
        clear hW5 x0 x1 x2 x3 x4 x5
        refine wp_region_calm W5 (by kernel_rfl) (by kernel_rfl) (Below.refl _ _) ?_
        repeat (go_big_quiet_step (first | (go_at_call 159; exact callsCalmSame (HTC.out _))))
        refine wpQuiet_nil ?_
        rintro _ ⟨z, rfl⟩
        have GZ := Lib.hid (G5.out.trans (z.ok.mono G5.out.size))
        have HXZ := Lib.hid (HX5.out.ext z.ok)
        obtain ⟨Z, hZ⟩ : ∃ Z, z.val = Z := ⟨_, rfl⟩
        rw [hZ] at GZ HXZ ⊢
        clear hZ z v1 v2 v3 v4
        have GWZ := Lib.hid (HGQ.out.trans (GZ.out.mono hws))
        cases cb with
        | false =>
         have HS2 := Lib.hid (show cntK p known (q + 1) = cntK p known q by rw [HSU.out]; simp)
         go_wp2_with fail
         go_roundw
         case rel => exact ⟨q + 1, u, by omega, by go_num, GWZ.out, HBR.out.ext GZ.out, by rw [HS2.out]; exact HOU.out.ext GZ.out⟩
         case measure => simp [intOf]; omega
        | true =>
         have HS2 := Lib.hid (show (cntK p known (q + 1)).map (fun x => g x.a) = (cntK p known q).map (fun x => g x.a) ++ [g x.a] by rw [HSU.out, if_pos rfl, List.map_append]; rfl)
         have hlk := (HNM2.out.ext GWZ.out).look (i := x.a) (by omega) (by omega)
         obtain ⟨gv, hgv⟩ : ∃ v, g x.a = v := ⟨_, rfl⟩
         rw [hgv] at hlk HS2
         obtain ⟨pl, hpl'⟩ : ∃ l, (cntK p known q).map (fun x => g x.a) = l := ⟨_, rfl⟩
         have HPL := Lib.hid (show pl.length + 1 ≤ 1000000 by rw [← hpl', List.length_map]; have := cntK_len (p := p) (known := known) (k := q); omega)
         rw [hpl'] at HS2 HOU
         obtain ⟨Au, cu, hue, -⟩ := OwnL.arr kdI HOU.out
         obtain ⟨nu, hnu⟩ : ∃ q, pl.length = q := ⟨_, rfl⟩
         rw [hnu] at hue
         subst hue
         have KB := Lib.hid (HBR.out.ext GZ.out)
         have KO := Lib.hid (HOU.out.ext GZ.out)
         have y0 := KB.out.cell 1
         have y1 := KB.out.frozen 1
         have y2 := (HBBW.out.ext GWZ.out).cell 0
         have y3 := HXZ.out.cell 0
         have OX := Lib.hid (KO.out.ext (one_more Z (.cells #[.int .i64 gv] 3)))
         have IX := Lib.hid (one_int (Blk.new Z 3 #[.int .i64 gv]))
         have HOBK := Lib.hid (fun (k : Nat) (e : (Value.slice Au nu cu).ownBlock = some k) => (own_cells KO.out e).1)
         have hzs := GZ.out.size
         clear hgv hpl' hnu
         go_wp2_with (at_builtin; go_loud (refine wpList_app kdI (by rfl) _ _ (by rfl) (b13 + 1) (.slice Au nu cu) pl (by rfl) OX.out _ 1 1 [gv] (by rfl) IX.out HPL.out (by simp; omega) ?_); intro v' w2 ho2 hg2 hz2; obtain ⟨Av2, cv2, hve, -⟩ := OwnL.arr kdI ho2; obtain ⟨nv2, hnv⟩ : ∃ q, (pl ++ [gv]).length = q := ⟨_, rfl⟩; rw [hnv] at hve; subst hve; clear hnv; have k9 := ((KB.out.alloc (.cells #[.int .i64 gv] 3)).grown hg2 (fun e => by have := HOBK.out _ e; omega)); have m0 := k9.cell 1; have m1 := k9.frozen 1; have K9 := Lib.hid k9; have HO2 := Lib.hid ho2; have HGB := Lib.hid ((OX.out).below hg2 (B := b13) (by omega) (by simp; omega)); clear ho2 hg2 hz2 k9)
         go_roundw
         case rel =>
          refine ⟨q + 1, _, by omega, by go_num, ?_, K9.out.set_ 1 _, by rw [HS2.out]; exact HO2.out.far (p := ⟨b13, 1, none⟩) (by show b13 < b13 + 1; omega) _⟩
          have e13 := HB13.out
          have gg : Below b13 W w2 := by
           have g1 : Below b13 W Z := e13 ▸ GWZ.out
           exact (g1.trans ((one_more Z _).mono (by omega))).trans HGB.out
          exact e13 ▸ (gg.setCell (p := ⟨b13, 1, none⟩) (Nat.le_refl _) _)
         case measure => simp [intOf]; omega
       ·obtain rfl : n1 = q := by omega
        have HEND := Lib.hid (show (cntK p known n1).map (fun x => g x.a) = pickC p known (pickS ls st k v) by rw [HPC2.out, cntK_all (by rw [HL1N.out]; exact Nat.le_refl _)])
        rw [HEND.out] at HOU
        obtain ⟨Au, cu, hue, -⟩ := OwnL.arr kdI HOU.out
        obtain ⟨nu, hnu⟩ : ∃ q, (pickC p known (pickS ls st k v)).length = q := ⟨_, rfl⟩
        rw [hnu] at hue
        subst hue
        have K6 := Lib.hid (HB6W.out.ext HGQ.out)
        have y0 := HBR.out.cell 0
        have y1 := HBR.out.cell 1
        have y2 := K6.out.cell 0
        have y3 := K6.out.cell 1
        have y4 := K6.out.frozen 0
        have y5 := K6.out.frozen 1
        have HKZ := Lib.hid ((HGQ.out.block E hEl).trans HK.out)
        clear hnu
        go_wp2_with fail
        have k6 := (K6.out.set_ 0 (.int .i64 s0)).set_ 1 (.slice Au nu cu)
        have t0 := (k6.putObj (D := E) (by omega) (.deferred none)).cell 0
        have t1 := (k6.putObj (D := E) (by omega) (.deferred none)).cell 1
        have HKF := Lib.hid (show ((wr.setCell ⟨w.heap.size, 0, none⟩ (.int .i64 s0)).setCell ⟨w.heap.size, 1, none⟩ (.slice Au nu cu)).heap[E]? = some (.deferred (some [])) from (Below.heap_setCell _ _ _ _ (by show E ≠ w.heap.size; omega)).trans ((Below.heap_setCell _ _ _ _ (by show E ≠ w.heap.size; omega)).trans HKZ.out))
        refine ⟨by simp, .inl ⟨_, _, rfl, run_takeDeferred HKF.out, ?_⟩⟩
        refine ⟨.agg #[.int .i64 s0, .slice Au nu cu], ?_, ⟨⟨_, by rw [HS00.out], ?_⟩, ?_⟩⟩
        ·simp [results, Tryz.results84, go_sem, t0, t1]
        ·exact (((HOU.out.far (p := ⟨w.heap.size, 0, none⟩) (by show w.heap.size < b13 + 1; omega) _).far (p := ⟨w.heap.size, 1, none⟩) (by show w.heap.size < b13 + 1; omega) _).held (grownBy_putObj' _ E _) (fun r e => by cases e; exact ⟨_, HKF.out, rfl⟩)).mono (by omega)
        ·have gx := ((GW.out.trans (HGQ.out.mono GW.out.size)).setCell (p := ⟨w.heap.size, 0, none⟩) (Nat.le_refl _) (.int .i64 s0)).setCell (p := ⟨w.heap.size, 1, none⟩) (Nat.le_refl _) (.slice Au nu cu)
         exact gx.grown (grownBy_putObj' _ E _) gx.size (fun k hk => by cases hk; omega)
     case stop =>
      rintro D cd pre X _ _ h _
      exact h.elim
end Go.Proofs.YtkoejeghihcmlaaGreat

namespace Go.Proofs.YtkoejeghihcmlaaGreat
open Go.RowKit Go.Shelf
def attS (p : Pl) (hour known : Int) (high : Bool) : List Int :=
 pickS (lookL p known every) (lookS p known every) (after (lookL p known every) hour) (if high = true then Hi (lookS p known every) (after (lookL p known every) hour) else Lo (lookS p known every) (after (lookL p known every) hour))
/-- What Attain returns. -/
def AttEnd (p : Pl) (hour known : Int) (high : Bool) (w : World) (e : Ending) (w' : World) : Prop :=
 (∃ sv v, e = .returned (.tuple #[.agg #[.int .i64 sv, v], .int .i64 (askE p [hour] known)]) ∧ (askE p [hour] known = 0 → sv = (attS p hour known high).getD 0 0 ∧ OwnL icells 1 3 w' w.heap.size v (pickC p known (attS p hour known high))) ∧
  (askE p [hour] known ≠ 0 → sv = 0 ∧ v = .slice none 0 0)) ∧ Below w.heap.size w w'
set_option maxRecDepth 100000 in
set_option maxHeartbeats 8000000 in
theorem attain_any (p : Pl) (A1 A2 A3 : Option Addr) (n1 c1 n2 c2 n3 c3 : Nat) (hour known : Int) (high : Bool) (w : World) (hp : Pa w p A1 A2 A3 n1 c1 n2 c2 n3 c3) (h19 : p.loads.length ≤ 60) :
  Calls Tryz.prog 22 #[plv p A1 A2 A3 n1 c1 n2 c2 n3 c3, .int .i64 hour, .int .i64 known, .bool high] w (AttEnd p hour known high w) := by
 obtain ⟨W2, hW2⟩ : ∃ W2, (w.alloc (.cells (plb p A1 A2 A3 n1 c1 n2 c2 n3 c3) 38)).alloc (.cells #[.int .i64 0, .slice none 0 0] 41) = W2 := ⟨_, rfl⟩
 have g2 : Below w.heap.size w W2 := by rw [← hW2]; exact two_more _ _ _
 have b1 : Blk W2 w.heap.size 38 (plb p A1 A2 A3 n1 c1 n2 c2 n3 c3) := by rw [← hW2]; exact (Blk.new _ _ _).alloc _
 have b2 : Blk W2 (w.heap.size + 1) 41 #[.int .i64 0, .slice none 0 0] := by
  rw [← hW2]
  have := Blk.new (w.alloc (.cells (plb p A1 A2 A3 n1 c1 n2 c2 n3 c3) 38)) 41 #[.int .i64 0, .slice none 0 0]
  rwa [World.size_alloc] at this
 have T := Lib.hid (asked_any p A1 A2 A3 n1 c1 n2 c2 n3 c3 w.heap.size hour known W2 b1 (hp.below g2) h19)
 have HL19 := Lib.hid (lookL_len h19 known every)
 have G2 := Lib.hid g2
 have B1 := Lib.hid b1
 have B2 := Lib.hid b2
 have HPA := Lib.hid (hp.below g2)
 have hz2 := g2.size
 have hb2l := b2.lt
 obtain ⟨ae, hae⟩ : ∃ ae, askE p [hour] known = ae := ⟨_, rfl⟩
 have HAP := Lib.hid (show ae = 0 → okPl p = true ∧ sound (lookS p known every) = true from fun e => ⟨(ask_parts (hae.trans e)).1, (ask_parts (hae.trans e)).2.1⟩)
 rw [hae] at T
 have HAE := Lib.hid hae
 have HW2 := Lib.hid hW2
 clear hp g2 b1 b2 hae h19 hW2
 by_cases he : ae = 0
 ·subst he
  obtain ⟨hok, hs⟩ := HAP.out rfl
  have HOK := Lib.hid hok
  have HS := Lib.hid hs
  have hrw := look_rw hok hs
  obtain ⟨av, hav2⟩ : ∃ av, after (lookL p known every) hour = av := ⟨_, rfl⟩
  have hav := after_le (lookL p known every) hour
  rw [hav2] at hav
  have HSND := Lib.hid (hrw.snd av hav)
  have HATT := Lib.hid (show attS p hour known high = pickS (lookL p known every) (lookS p known every) av (if high = true then Hi (lookS p known every) av else Lo (lookS p known every) av) by unfold attS; rw [hav2])
  have HAV := Lib.hid hav2
  clear hok hs hrw hav2
  go_enter Tryz.func22, Tryz.ntmps22
  go_upto_region 1 with fail
  rw [HW2.out]
  go_upto_region 4 with (go_at_call 74; (with_reducible refine (T.out).mono ?_); rintro e W3 ⟨r, rfl, hg, hl⟩; obtain ⟨bf, bs, A, n, c, rfl, hl2⟩ := hl (by trivial); have G3 := Lib.hid hg; have HL := Lib.hid hl2; clear hg hl hl2)
  have hnn := HL.out.num
  have hn19 : n ≤ 60 := by rw [hnn]; exact HL19.out
  have havn : av ≤ n := by rw [hnn]; exact hav
  have T79 := after_any bf A n c (lookL p known every) hour W3 (HL.out.fd.f.lt) (HL.out.fd.f.cell 2) HL.out.ar (by omega)
  rw [HAV.out] at T79
  have HT79 := Lib.hid T79
  clear T79 hnn hav
  go_upto_region 5 with (go_at_call 79; (with_reducible refine (HT79.out).mono ?_); rintro e W4 ⟨rfl, hg⟩; have G4 := Lib.hid hg; clear hg)
  have HLf := Lib.hid (HL.out.fd.ext G4.out)
  have G34 := Lib.hid (G3.out.trans (G4.out.mono G3.out.size))
  have f3 := HLf.out.f.cell 3
  obtain ⟨s0, s1⟩ := HLf.out.cells (show av < n + 1 by omega)
  have hsd := HSND.out
  have TP := fun v h1 h2 => pick_any p A1 A2 A3 n1 c1 n2 c2 n3 c3 w.heap.size bf bs known A n c av v W4 (B1.out.ext G34.out) (HPA.out.below G34.out) HOK.out (by omega) HS.out HLf.out (HL.out.ar.below G4.out) havn h1 h2
  obtain ⟨lo, hlo⟩ : ∃ v, Lo (lookS p known every) av = v := ⟨_, rfl⟩
  obtain ⟨hi, hhi⟩ : ∃ v, Hi (lookS p known every) av = v := ⟨_, rfl⟩
  rw [hlo, hhi] at TP HATT hsd
  rw [hlo] at s0
  rw [hhi] at s1
  have HTP := Lib.hid TP
  have HB2 := Lib.hid (B2.out.ext G34.out)
  have hgs := G34.out.size
  have m0 := HB2.out.cell 0
  have m1 := HB2.out.cell 1
  have m2 := HB2.out.frozen 0
  have m3 := HB2.out.frozen 1
  obtain ⟨m, hm⟩ : ∃ m, n + 1 = m := ⟨_, rfl⟩
  rw [hm] at f3
  have havm : (av : Int) < (m : Int) := by omega
  have HSD := Lib.hid hsd
  clear TP hm hlo hhi hsd
  cases high with
  | false =>
   have HATT2 := Lib.hid (show attS p hour known false = pickS (lookL p known every) (lookS p known every) av lo from HATT.out)
   have HT84 := Lib.hid (HTP.out lo (Int.le_refl _) HSD.out)
   go_wp2_with (go_at_call 84; (with_reducible refine (HT84.out).mono ?_); rintro e W5 ⟨⟨v, rfl, ho⟩, hg⟩; obtain ⟨D, c', hv, -, -, -, -⟩ := OwnL.arr kdI ho; obtain ⟨nv, hnv⟩ : ∃ q, (pickC p known (pickS (lookL p known every) (lookS p known every) av lo)).length = q := ⟨_, rfl⟩; rw [hnv] at hv; subst hv; have G5 := Lib.hid hg; have HO := Lib.hid ho; have KB := Lib.hid (HB2.out.ext hg); obtain ⟨sw, hsw⟩ : ∃ q, (pickS (lookL p known every) (lookS p known every) av lo).getD 0 0 = q := ⟨_, rfl⟩; rw [hsw]; have HSW := Lib.hid hsw; have y0 := KB.out.cell 0; have y1 := KB.out.cell 1; have y2 := KB.out.frozen 0; have y3 := KB.out.frozen 1; clear hg ho hnv hsw m0 m1 m2 m3 f3 s0 s1)
   have k6 := (KB.out.set_ 0 (.int .i64 sw)).set_ 1 (.slice D nv c')
   have t0 := k6.cell 0
   have t1 := k6.cell 1
   have hg5 := G5.out.size
   refine bodyPost_ret (v := .tuple #[.agg #[.int .i64 sw, .slice D nv c'], .int .i64 0]) ?_ rfl ⟨⟨_, _, by rw [HAE.out], fun _ => ⟨by rw [HATT2.out, HSW.out], ?_⟩, fun h => absurd HAE.out h⟩, ?_⟩
   ·simp [results, Tryz.results22, go_sem, t0, t1]
   ·rw [HATT2.out]
    exact ((HO.out.far (p := ⟨w.heap.size + 1, 0, none⟩) (by show w.heap.size + 1 < W4.heap.size; omega) _).far (p := ⟨w.heap.size + 1, 1, none⟩) (by show w.heap.size + 1 < W4.heap.size; omega) _).mono (by omega)
   ·exact ((G2.out.trans ((G34.out.trans (G5.out.mono hgs)).mono hz2)).setCell (p := ⟨w.heap.size + 1, 0, none⟩) (by show w.heap.size ≤ w.heap.size + 1; omega) _).setCell (p := ⟨w.heap.size + 1, 1, none⟩) (by show w.heap.size ≤ w.heap.size + 1; omega) _
  | true =>
   have HATT2 := Lib.hid (show attS p hour known true = pickS (lookL p known every) (lookS p known every) av hi from HATT.out)
   have HT84 := Lib.hid (HTP.out hi HSD.out (Int.le_refl _))
   go_wp2_with (go_at_call 84; (with_reducible refine (HT84.out).mono ?_); rintro e W5 ⟨⟨v, rfl, ho⟩, hg⟩; obtain ⟨D, c', hv, -, -, -, -⟩ := OwnL.arr kdI ho; obtain ⟨nv, hnv⟩ : ∃ q, (pickC p known (pickS (lookL p known every) (lookS p known every) av hi)).length = q := ⟨_, rfl⟩; rw [hnv] at hv; subst hv; have G5 := Lib.hid hg; have HO := Lib.hid ho; have KB := Lib.hid (HB2.out.ext hg); obtain ⟨sw, hsw⟩ : ∃ q, (pickS (lookL p known every) (lookS p known every) av hi).getD 0 0 = q := ⟨_, rfl⟩; rw [hsw]; have HSW := Lib.hid hsw; have y0 := KB.out.cell 0; have y1 := KB.out.cell 1; have y2 := KB.out.frozen 0; have y3 := KB.out.frozen 1; clear hg ho hnv hsw m0 m1 m2 m3 f3 s0 s1)
   have k6 := (KB.out.set_ 0 (.int .i64 sw)).set_ 1 (.slice D nv c')
   have t0 := k6.cell 0
   have t1 := k6.cell 1
   have hg5 := G5.out.size
   refine bodyPost_ret (v := .tuple #[.agg #[.int .i64 sw, .slice D nv c'], .int .i64 0]) ?_ rfl ⟨⟨_, _, by rw [HAE.out], fun _ => ⟨by rw [HATT2.out, HSW.out], ?_⟩, fun h => absurd HAE.out h⟩, ?_⟩
   ·simp [results, Tryz.results22, go_sem, t0, t1]
   ·rw [HATT2.out]
    exact ((HO.out.far (p := ⟨w.heap.size + 1, 0, none⟩) (by show w.heap.size + 1 < W4.heap.size; omega) _).far (p := ⟨w.heap.size + 1, 1, none⟩) (by show w.heap.size + 1 < W4.heap.size; omega) _).mono (by omega)
   ·exact ((G2.out.trans ((G34.out.trans (G5.out.mono hgs)).mono hz2)).setCell (p := ⟨w.heap.size + 1, 0, none⟩) (by show w.heap.size ≤ w.heap.size + 1; omega) _).setCell (p := ⟨w.heap.size + 1, 1, none⟩) (by show w.heap.size ≤ w.heap.size + 1; omega) _
 ·have hne : (ae != 0) = true := by simpa using he
  go_enter Tryz.func22, Tryz.ntmps22
  go_upto_region 1 with fail
  rw [HW2.out]
  go_wp2_with (go_at_call 74; (with_reducible refine (T.out).mono ?_); rintro e W3 ⟨r, rfl, hg, -⟩; have G3 := Lib.hid hg; have KB := Lib.hid (B2.out.ext hg); have m0 := KB.out.cell 0; have m1 := KB.out.cell 1; have m2 := KB.out.frozen 0; have m3 := KB.out.frozen 1; clear hg)
  have k6 := (KB.out.set_ 0 (.int .i64 0)).set_ 1 (.slice none 0 0)
  have t0 := k6.cell 0
  have t1 := k6.cell 1
  refine bodyPost_ret (v := .tuple #[.agg #[.int .i64 0, .slice none 0 0], .int .i64 ae]) ?_ rfl ⟨⟨_, _, by rw [HAE.out], fun h => absurd (HAE.out.symm.trans h) he, fun _ => ⟨rfl, rfl⟩⟩, ?_⟩
  ·simp [results, Tryz.results22, go_sem, t0, t1]
  ·exact ((G2.out.trans (G3.out.mono hz2)).setCell (p := ⟨w.heap.size + 1, 0, none⟩) (by show w.heap.size ≤ w.heap.size + 1; omega) _).setCell (p := ⟨w.heap.size + 1, 1, none⟩) (by show w.heap.size ≤ w.heap.size + 1; omega) _
end Go.Proofs.YtkoejeghihcmlaaGreat

namespace Go.Proofs.YtkoejeghihcmlaaGreat
open Go.RowKit Go.Shelf
set_option maxRecDepth 100000 in
set_option maxHeartbeats 4000000 in
theorem attain_nok (p : Pl) (A1 A2 A3 : Option Addr) (n1 c1 n2 c2 n3 c3 : Nat) (hour known : Int) (high : Bool) (w : World) (hp : Pa w p A1 A2 A3 n1 c1 n2 c2 n3 c3) (hno : okPl p = false) :
  Calls Tryz.prog 22 #[plv p A1 A2 A3 n1 c1 n2 c2 n3 c3, .int .i64 hour, .int .i64 known, .bool high] w (AttEnd p hour known high w) := by
 have HNZ := Lib.hid (show askE p [hour] known ≠ 0 from ask_no hno _ _)
 obtain ⟨W2, hW2⟩ : ∃ W2, (w.alloc (.cells (plb p A1 A2 A3 n1 c1 n2 c2 n3 c3) 38)).alloc (.cells #[.int .i64 0, .slice none 0 0] 41) = W2 := ⟨_, rfl⟩
 have g2 : Below w.heap.size w W2 := by rw [← hW2]; exact two_more _ _ _
 have b1 : Blk W2 w.heap.size 38 (plb p A1 A2 A3 n1 c1 n2 c2 n3 c3) := by rw [← hW2]; exact (Blk.new _ _ _).alloc _
 have b2 : Blk W2 (w.heap.size + 1) 41 #[.int .i64 0, .slice none 0 0] := by
  rw [← hW2]
  have := Blk.new (w.alloc (.cells (plb p A1 A2 A3 n1 c1 n2 c2 n3 c3) 38)) 41 #[.int .i64 0, .slice none 0 0]
  rwa [World.size_alloc] at this
 have T := Lib.hid (asked_nok p A1 A2 A3 n1 c1 n2 c2 n3 c3 w.heap.size hour known W2 b1 (hp.below g2) hno)
 have G2 := Lib.hid g2
 have B1 := Lib.hid b1
 have B2 := Lib.hid b2
 have HPA := Lib.hid (hp.below g2)
 have hz2 := g2.size
 have hb2l := b2.lt
 obtain ⟨ae, hae⟩ : ∃ ae, askE p [hour] known = ae := ⟨_, rfl⟩
 rw [hae] at HNZ
 have HAP := Lib.hid (show ae = 0 → okPl p = true ∧ sound (lookS p known every) = true from fun e => ⟨(ask_parts (hae.trans e)).1, (ask_parts (hae.trans e)).2.1⟩)
 rw [hae] at T
 have HAE := Lib.hid hae
 have HW2 := Lib.hid hW2
 clear hp g2 b1 b2 hae hno hW2
 have he : ¬ ae = 0 := HNZ.out
 have hne : (ae != 0) = true := by simpa using he
 go_enter Tryz.func22, Tryz.ntmps22
 go_upto_region 1 with fail
 rw [HW2.out]
 go_wp2_with (go_at_call 74; (with_reducible refine (T.out).mono ?_); rintro e W3 ⟨r, rfl, hg, -⟩; have G3 := Lib.hid hg; have KB := Lib.hid (B2.out.ext hg); have m0 := KB.out.cell 0; have m1 := KB.out.cell 1; have m2 := KB.out.frozen 0; have m3 := KB.out.frozen 1; clear hg)
 have k6 := (KB.out.set_ 0 (.int .i64 0)).set_ 1 (.slice none 0 0)
 have t0 := k6.cell 0
 have t1 := k6.cell 1
 refine bodyPost_ret (v := .tuple #[.agg #[.int .i64 0, .slice none 0 0], .int .i64 ae]) ?_ rfl ⟨⟨_, _, by rw [HAE.out], fun h => absurd (HAE.out.symm.trans h) he, fun _ => ⟨rfl, rfl⟩⟩, ?_⟩
 ·simp [results, Tryz.results22, go_sem, t0, t1]
 ·exact ((G2.out.trans (G3.out.mono hz2)).setCell (p := ⟨w.heap.size + 1, 0, none⟩) (by show w.heap.size ≤ w.heap.size + 1; omega) _).setCell (p := ⟨w.heap.size + 1, 1, none⟩) (by show w.heap.size ≤ w.heap.size + 1; omega) _
theorem attainQ_any (p : Pl) (A1 A2 A3 : Option Addr) (n1 c1 n2 c2 n3 c3 : Nat) (hour known : Int) (high : Bool) (w : World) (hp : Pa w p A1 A2 A3 n1 c1 n2 c2 n3 c3) :
  Calls Tryz.prog 22 #[plv p A1 A2 A3 n1 c1 n2 c2 n3 c3, .int .i64 hour, .int .i64 known, .bool high] w (AttEnd p hour known high w) := by
 by_cases h : p.loads.length ≤ 60
 ·exact attain_any p A1 A2 A3 n1 c1 n2 c2 n3 c3 hour known high w hp h
 ·exact attain_nok p A1 A2 A3 n1 c1 n2 c2 n3 c3 hour known high w hp (many_no h)
end Go.Proofs.YtkoejeghihcmlaaGreat

namespace Go.Proofs.YtkoejeghihcmlaaGreat
open Go.RowKit Go.Shelf
/-- The index of a source, as a loop that keeps the last one finds it. -/
def atV (L : List Six) (s : Int) (k : Nat) : Int := if srcIx L s < k then (srcIx L s : Int) else -1
theorem atV_zero (L : List Six) (s : Int) : atV L s 0 = -1 := rfl
theorem cart_one {p : Pl} (hok : okPl p = true) {known s : Int} {k : Nat} (hk : k < (lookL p known every).length) : ((lookL p known every).getD k z6).a = s ↔ srcIx (lookL p known every) s = k := by
 constructor
 ·rintro rfl; exact srcIx_cart hok hk
 ·intro e
  have h : srcIx (lookL p known every) s < (lookL p known every).length := by omega
  unfold srcIx at h e
  have h2 := List.findIdx_getElem (w := h)
  have h3 := isSrc_iff.1 h2
  subst e
  rw [List.getD_eq_getElem?_getD, List.getElem?_eq_getElem h]
  exact h3
theorem atV_yes {p : Pl} (hok : okPl p = true) {known s : Int} {k : Nat} (hk : k < (lookL p known every).length) (h : ((lookL p known every).getD k z6).a = s) : atV (lookL p known every) s (k + 1) = k := by
 have := (cart_one hok hk).1 h
 unfold atV
 rw [this, if_pos (by omega)]
theorem atV_no {p : Pl} (hok : okPl p = true) {known s : Int} {k : Nat} (hk : k < (lookL p known every).length) (h : ¬ ((lookL p known every).getD k z6).a = s) : atV (lookL p known every) s (k + 1) = atV (lookL p known every) s k := by
 have h1 : ¬ srcIx (lookL p known every) s = k := fun e => h ((cart_one hok hk).2 e)
 unfold atV
 by_cases e : srcIx (lookL p known every) s < k
 ·rw [if_pos e, if_pos (by omega)]
 ·rw [if_neg e, if_neg (by omega)]
set_option maxRecDepth 100000 in
set_option maxHeartbeats 8000000 in
theorem refCartedP_any (p : Pl) (A1 A2 A3 : Option Addr) (n1 c1 n2 c2 n3 c3 : Nat) (source known : Int) (w : World) (hp : Pa w p A1 A2 A3 n1 c1 n2 c2 n3 c3) :
  Calls Tryz.prog 57 #[plv p A1 A2 A3 n1 c1 n2 c2 n3 c3, .int .i64 source, .int .i64 known] w fun e w' => e = .returned (.tuple #[rv (cartR p source known), .int .i64 (cartE p source known)]) ∧ Below w.heap.size w w' := by
 obtain ⟨W1, hW1⟩ : ∃ W1, (w.alloc (.cells (plb p A1 A2 A3 n1 c1 n2 c2 n3 c3) 38)).alloc (.cells #[.int .i64 0, .int .i64 0] 33) = W1 := ⟨_, rfl⟩
 have g0 : Below w.heap.size w W1 := by rw [← hW1]; exact two_more _ _ _
 have b0 : Blk W1 w.heap.size 38 (plb p A1 A2 A3 n1 c1 n2 c2 n3 c3) := by rw [← hW1]; exact (Blk.new _ _ _).alloc _
 have b1 : Blk W1 (w.heap.size + 1) 33 #[.int .i64 0, .int .i64 0] := by
  rw [← hW1]
  have := Blk.new (w.alloc (.cells (plb p A1 A2 A3 n1 c1 n2 c2 n3 c3) 38)) 33 #[.int .i64 0, .int .i64 0]
  rwa [World.size_alloc] at this
 have T1 := refAsked_any p A1 A2 A3 n1 c1 n2 c2 n3 c3 0 known W1 (hp.below g0)
 rw [first_zero] at T1
 have HCE := Lib.hid (show cartE p source known = if firstE p [] [known] = 0 then (if srcIx (lookL p known every) source = (lookL p known every).length then 17 else err (sound (lookS p known every)) 14) else firstE p [] [known] from rfl)
 have HCR := Lib.hid (show cartR p source known = if cartE p source known = 0 then cartV (lookL p known every) (lookS p known every) (srcIx (lookL p known every) source) else zR from rfl)
 have HFO := Lib.hid (fun h => first_ok (p := p) (hours := []) (days := [known]) h)
 have HAE := Lib.hid (show askE p [0] known = if firstE p [] [known] = 0 then err (sound (lookS p known every)) 14 else firstE p [] [known] from by rw [← first_zero]; rfl)
 have T3 := fun (V : World) (g : Below W1.heap.size W1 V) => refSettle_any p A1 A2 A3 n1 c1 n2 c2 n3 c3 0 known V ((hp.below g0).below g)
 obtain ⟨fe, hfe⟩ : ∃ fe, firstE p [] [known] = fe := ⟨_, rfl⟩
 obtain ⟨ce, hce⟩ : ∃ x, cartE p source known = x := ⟨_, rfl⟩
 obtain ⟨cr, hcr⟩ : ∃ x, cartR p source known = x := ⟨_, rfl⟩
 obtain ⟨ae, hae⟩ : ∃ x, askE p [0] known = x := ⟨_, rfl⟩
 rw [hfe] at T1 HCE HFO HAE
 rw [hce] at HCE HCR
 rw [hcr] at HCR
 rw [hae] at HAE T3
 rw [hcr, hce]
 have HT1 := Lib.hid T1
 have HT3 := Lib.hid T3
 have HPA := Lib.hid (hp.below g0)
 have HB0 := Lib.hid b0
 have HB1 := Lib.hid b1
 have GA := Lib.hid g0
 have HW1 := Lib.hid hW1
 have HSL := Lib.hid (lookS_len p known every)
 have r0 := b0.cell 0
 have r1 := b0.cell 1
 have r2 := b0.cell 2
 have r3 := b0.cell 3
 have r4 := b0.cell 4
 have r5 := b0.cell 5
 clear T1 T3 hp g0 b0 b1 hW1 hfe hce hcr hae
 by_cases hz : fe = 0
 ·subst hz
  have HOK := Lib.hid (HFO.out rfl)
  have HCE2 := Lib.hid (show ce = (if srcIx (lookL p known every) source = (lookL p known every).length then 17 else err (sound (lookS p known every)) 14) from HCE.out)
  have HAE2 := Lib.hid (show ae = err (sound (lookS p known every)) 14 from HAE.out)
  have HNB := Lib.hid (show n1 ≤ 1000 by have h1 := ok_parts HOK.out; have h2 := HPA.out.l1.1; omega)
  have H60 := Lib.hid (look60 HOK.out known)
  have HNUM := Lib.hid (look_num HOK.out known every)
  have HAY := Lib.hid (fun k (hk : k < (lookL p known every).length) h => atV_yes (s := source) HOK.out hk h)
  have HAN := Lib.hid (fun k (hk : k < (lookL p known every).length) h => atV_no (s := source) HOK.out hk h)
  have HA0 := Lib.hid (atV_zero (lookL p known every) source)
  have HAV := Lib.hid (show ∀ k, atV (lookL p known every) source k = if srcIx (lookL p known every) source < k then (srcIx (lookL p known every) source : Int) else -1 from fun _ => rfl)
  have HSX := Lib.hid (srcIx_le (lookL p known every) source)
  have HLK := Lib.hid (fun (h : sound (lookS p known every) = true) (i : Nat) (hi : i ≤ (lookL p known every).length) => (⟨(look_rw HOK.out h).pos i hi, (look_rw HOK.out h).snd i hi, look_hi HOK.out known every hi⟩ : 0 ≤ Lo (lookS p known every) i ∧ Lo (lookS p known every) i ≤ Hi (lookS p known every) i ∧ Hi (lookS p known every) i ≤ 10000))
  clear HCE HAE HFO
  go_enter Tryz.func57, Tryz.ntmps57
  go_upto_region 1 with fail
  rw [HW1.out]
  go_upto_region 4 with (go_at_call 101; (with_reducible refine (HT1.out).mono ?_); rintro e V ⟨rfl, hg⟩; have HG1 := Lib.hid hg; clear hg)
  have HT2 := Lib.hid (show Calls Tryz.prog 129 #[plv p A1 A2 A3 n1 c1 n2 c2 n3 c3, .int .i64 known] V (fun e w' => (∃ v, e = .returned v ∧ OwnL scells 6 103 w' V.heap.size v (lookL p known every)) ∧ Below V.heap.size V w') from by
   have h := refCarted_any p A1 A2 A3 n1 c1 n2 c2 n3 c3 known V (HPA.out.below HG1.out) HNB.out
   have e : lookL p known every = srtH (p.loads.filter fun x => cnt x known) := by rw [cart_every]; rfl
   rw [e]
   exact h)
  have m0 := (HB0.out.ext HG1.out).cell 0
  have m1 := (HB0.out.ext HG1.out).cell 1
  have m2 := (HB0.out.ext HG1.out).cell 2
  have m3 := (HB0.out.ext HG1.out).cell 3
  have m4 := (HB0.out.ext HG1.out).cell 4
  have m5 := (HB0.out.ext HG1.out).cell 5
  clear r0 r1 r2 r3 r4 r5
  go_upto_region 5 with (go_at_call 129; (with_reducible refine (HT2.out).mono ?_); rintro e V3 ⟨⟨v, rfl, ho⟩, hg⟩; have HG3 := Lib.hid hg; obtain ⟨A, c, rfl, -, -, hal2, -⟩ := OwnL.arr kdL ho; have HAL := Lib.hid hal2; clear hg ho hal2)
  have G3 := Lib.hid (HG1.out.trans (HG3.out.mono HG1.out.size))
  obtain ⟨L, hL⟩ : ∃ L, lookL p known every = L := ⟨_, rfl⟩
  rw [hL] at HAL HCE2 HCR HSL H60 HNUM HAY HAN HA0 HAV HSX HLK HT3 ⊢
  obtain ⟨n, hn⟩ : ∃ n, L.length = n := ⟨_, rfl⟩
  rw [hn] at HAL HCE2 HSL H60 HAY HAN HSX HLK ⊢
  have HN := Lib.hid hn
  have hn60 : n ≤ 60 := H60.out
  clear hL hn m0 m1 m2 m3 m4 m5
  go_wp2_with fail
  go_loopw [10, 11] (fun a i wr => ∃ k : Nat, k ≤ n ∧ i = .int .i64 k ∧ a = .int .i64 (atV L source k) ∧ V3 = wr) (fun _ i _ => n - (intOf i).toNat)
  case atStart => exact ⟨0, Nat.zero_le _, rfl, by rw [HA0.out], by first | rfl | trivial⟩
  case round =>
   obtain ⟨k, hk, rfl, rfl, rfl⟩ := hrel
   by_cases hkn : k < n
   ·have hki : (k : Int) < (n : Int) := by omega
    obtain ⟨bA, oA, eA, -, -, hcA⟩ := six_at HAL.out hkn
    have xa := (hcA V3 (Below.refl _ _)).1
    have HY1 := Lib.hid (HAY.out k hkn)
    have HN1 := Lib.hid (HAN.out k hkn)
    obtain ⟨x, hxg⟩ : ∃ x, L.getD k z6 = x := ⟨_, rfl⟩
    rw [hxg] at xa HY1 HN1
    subst eA
    obtain ⟨av, hav⟩ : ∃ a, atV L source k = a := ⟨_, rfl⟩
    rw [hav] at HN1 ⊢
    clear hcA hxg hav
    by_cases hxs : x.a = source
    ·have hxd : (x.a == source) = true := by simp [hxs]
     have HNX := Lib.hid (HY1.out hxs)
     clear hxs
     go_wp2_with fail
     go_roundw
     case rel => exact ⟨k + 1, by omega, by go_num, by rw [HNX.out], by first | rfl | trivial⟩
     case measure => simp [intOf]; omega
    ·have hxd : (x.a == source) = false := by simpa using hxs
     have HNX := Lib.hid (HN1.out hxs)
     clear hxs
     go_wp2_with fail
     go_roundw
     case rel => exact ⟨k + 1, by omega, by go_num, by rw [HNX.out], by first | rfl | trivial⟩
     case measure => simp [intOf]; omega
   ·obtain rfl : n = k := by omega
    have HAVn := Lib.hid (HAV.out n)
    obtain ⟨ix, hix⟩ : ∃ i, srcIx L source = i := ⟨_, rfl⟩
    rw [hix] at HAVn HCE2 HCR HSX
    clear hix
    by_cases hin : ix < n
    ·have hav : atV L source n = (ix : Int) := by rw [HAVn.out, if_pos hin]
     rw [hav]
     have HCE3 := Lib.hid (show ce = err (sound (lookS p known every)) 14 by rw [HCE2.out, if_neg (by omega)])
     clear hav
     have HT4 := Lib.hid (HT3.out V3 G3.out)
     have m0 := (HB0.out.ext G3.out).cell 0
     have m1 := (HB0.out.ext G3.out).cell 1
     have m2 := (HB0.out.ext G3.out).cell 2
     have m3 := (HB0.out.ext G3.out).cell 3
     have m4 := (HB0.out.ext G3.out).cell 4
     have m5 := (HB0.out.ext G3.out).cell 5
     have hi0 : ¬ (ix : Int) < 0 := by omega
     have hid : decide ((ix : Int) < 0) = false := decide_eq_false hi0
     go_upto_region 14 with (go_at_call 117; (with_reducible refine (HT4.out).mono ?_); rintro e V4 ⟨⟨A', n', c', B', q, d', rfl, hq⟩, hg⟩; have HQ := Lib.hid hq; have HG4 := Lib.hid hg; clear hg hq)
     obtain ⟨V5, hV5⟩ : ∃ X, V4.alloc (.cells #[.slice A' n' c', .slice B' q d'] 191) = X := ⟨_, rfl⟩
     have g5 : Below V4.heap.size V4 V5 := by rw [← hV5]; exact one_more _ _
     have BN := Lib.hid (show Blk V5 V4.heap.size 191 #[.slice A' n' c', .slice B' q d'] by rw [← hV5]; exact Blk.new _ _ _)
     have GX := Lib.hid (HG4.out.trans (g5.mono HG4.out.size))
     have G5 := Lib.hid (G3.out.trans (GX.out.mono G3.out.size))
     have GXA := Lib.hid g5
     have HB5 := Lib.hid (HB1.out.ext G5.out)
     have HG5 := Lib.hid (GA.out.trans (G5.out.mono GA.out.size))
     rw [hV5]
     clear hV5 g5 m0 m1 m2 m3 m4 m5
     obtain ⟨sd, hsd⟩ : ∃ s, sound (lookS p known every) = s := ⟨_, rfl⟩
     rw [hsd] at HCE3 HAE2 HLK
     clear hsd
     cases sd with
     | false =>
      have HCE4 := Lib.hid (show ce = 14 from HCE3.out)
      have HCR2 := Lib.hid (show cr = zR by rw [HCR.out, HCE4.out]; rfl)
      obtain rfl : ae = 14 := HAE2.out
      have f0 := HB5.out.frozen 0
      have s0 := HB5.out.cell 0
      have z1 := (HB5.out.set_ 0 (.int .i64 0)).cell 1
      have zf := (HB5.out.set_ 0 (.int .i64 0)).frozen 1
      have y0 := ((HB5.out.set_ 0 (.int .i64 0)).set_ 1 (.int .i64 0)).cell 0
      have y1 := ((HB5.out.set_ 0 (.int .i64 0)).set_ 1 (.int .i64 0)).cell 1
      go_wp2_with fail
      refine bodyPost_ret (v := .tuple #[rv zR, .int .i64 14]) ?_ rfl ⟨by rw [HCR2.out, HCE4.out], (HG5.out.setCell (p := ⟨w.heap.size + 1, 0, none⟩) (by dsimp only; omega) _).setCell (p := ⟨w.heap.size + 1, 1, none⟩) (by dsimp only; omega) _⟩
      simp [results, Tryz.results57, go_sem, y0, y1, zR]
     | true =>
      have HCE4 := Lib.hid (show ce = 0 from HCE3.out)
      have HCR2 := Lib.hid (show cr = cartV L (lookS p known every) ix by rw [HCR.out, HCE4.out]; rfl)
      obtain rfl : ae = 0 := HAE2.out
      have HS5 := Lib.hid ((HQ.out rfl).2.2.below GXA.out)
      have hqn : q = n + 1 := by have h1 := HS5.out.1; have h2 := HSL.out; omega
      have hb1 := HLK.out rfl ix (by omega)
      have hb2 := HLK.out rfl (ix + 1) (by omega)
      have hnm := HNUM.out _ (getD_mem (l := L) (i := ix) (by rw [HN.out]; exact hin))
      obtain ⟨bA, oA, eA, -, -, hcA⟩ := six_at (HAL.out.below GX.out) hin
      have hxx := hcA V5 (Below.refl _ _)
      have xc := hxx.2.2.1
      have xd := hxx.2.2.2.1
      obtain ⟨b9, o9, rfl, -, hc9⟩ := rg_at9 HS5.out (k := ix) (by omega)
      obtain ⟨b9', o9', e9', -, hc9'⟩ := rg_at9 HS5.out (k := ix + 1) (by omega)
      cases e9'
      have HCV := Lib.hid (show cartV L (lookS p known every) ix = ⟨max (L.getD ix z6).c (((lookS p known every).getD ix zR).lo - ((lookS p known every).getD (ix + 1) zR).hi), min (L.getD ix z6).d (((lookS p known every).getD ix zR).hi - ((lookS p known every).getD (ix + 1) zR).lo)⟩ from rfl)
      have k0 := BN.out.cell 0
      have k1 := BN.out.cell 1
      have u0 := (hc9 V5 (Below.refl _ _)).1
      have u1 := (hc9 V5 (Below.refl _ _)).2
      have v0 := (hc9' V5 (Below.refl _ _)).1
      have v1 := (hc9' V5 (Below.refl _ _)).2
      unfold Lo Hi at hb1 hb2
      unfold Num at hnm
      obtain ⟨x, hxg⟩ : ∃ x, L.getD ix z6 = x := ⟨_, rfl⟩
      obtain ⟨ra, hra⟩ : ∃ r, (lookS p known every).getD ix zR = r := ⟨_, rfl⟩
      obtain ⟨rb, hrb⟩ : ∃ r, (lookS p known every).getD (ix + 1) zR = r := ⟨_, rfl⟩
      rw [hxg] at xc xd HCV hnm
      rw [hra] at u0 u1 HCV hb1
      rw [hrb] at v0 v1 HCV hb2
      subst eA
      obtain ⟨ha1, ha2, ha3⟩ := hb1
      obtain ⟨hb1', hb2', hb3'⟩ := hb2
      have hiq : (ix : Int) < (q : Int) := by omega
      have hiq1 : (ix : Int) + 1 < (q : Int) := by omega
      have hini : (ix : Int) < (n : Int) := by omega
      have hw1 : IntKind.i64.wrap ((ix : Int) + 1) = ((ix + 1 : Nat) : Int) := by rw [IntKind.wrap_i64]; omega
      have hw2 : IntKind.i64.wrap (ra.lo - rb.hi) = ra.lo - rb.hi := by rw [IntKind.wrap_i64]; omega
      have hw3 : IntKind.i64.wrap (ra.hi - rb.lo) = ra.hi - rb.lo := by rw [IntKind.wrap_i64]; omega
      have TC := Lib.hid (fun (X : Wd V5) => cut_any x.c x.d (ra.lo - rb.hi) (ra.hi - rb.lo) X.val)
      have k0' := cellW k0
      have k1' := cellW k1
      have xc' := cellW xc
      have xd' := cellW xd
      have u0' := cellW u0
      have u1' := cellW u1
      have v0' := cellW v0
      have v1' := cellW v1
      clear hxx hcA hc9 hc9' hxg hra hrb hqn hnm k0 k1 xc xd u0 u1 v0 v1
      go_upto_region 16 with fail
      refine wp_region_calm_tail V5 35 (by kernel_rfl) (by kernel_rfl) (Below.refl _ _) ?_
      simp only [List.take_succ_cons, List.take_zero, List.drop_succ_cons, List.drop_zero]
      repeat (go_big_quiet_step ((go_at_call 121; exact callsCalm (TC.out _))))
      refine wpQuiet_nil ?_
      rintro _ ⟨z, rfl⟩
      obtain ⟨V9, hV9⟩ : ∃ V9, z.val = V9 := ⟨_, rfl⟩
      have g9 := z.ok
      rw [hV9] at g9 ⊢
      have HB9 := Lib.hid (HB5.out.ext g9)
      have HG9 := Lib.hid (HG5.out.trans (g9.mono HG5.out.size))
      clear g9 hV9 z k0' k1' xc' xd' u0' u1' v0' v1' hw1 hw2 hw3
      obtain ⟨lo, hlo⟩ : ∃ l, max x.c (ra.lo - rb.hi) = l := ⟨_, rfl⟩
      obtain ⟨hi, hhi⟩ : ∃ l, min x.d (ra.hi - rb.lo) = l := ⟨_, rfl⟩
      rw [hlo, hhi] at HCV
      (try rw [hlo, hhi])
      have f0 := HB9.out.frozen 0
      have s0 := HB9.out.cell 0
      have z1 := (HB9.out.set_ 0 (.int .i64 lo)).cell 1
      have zf := (HB9.out.set_ 0 (.int .i64 lo)).frozen 1
      have y0 := ((HB9.out.set_ 0 (.int .i64 lo)).set_ 1 (.int .i64 hi)).cell 0
      have y1 := ((HB9.out.set_ 0 (.int .i64 lo)).set_ 1 (.int .i64 hi)).cell 1
      go_wp2_with fail
      refine bodyPost_ret (v := .tuple #[rv ⟨lo, hi⟩, .int .i64 0]) ?_ rfl ⟨by rw [HCR2.out, HCE4.out, HCV.out], (HG9.out.setCell (p := ⟨w.heap.size + 1, 0, none⟩) (by dsimp only; omega) _).setCell (p := ⟨w.heap.size + 1, 1, none⟩) (by dsimp only; omega) _⟩
      simp [results, Tryz.results57, go_sem, y0, y1]
    ·have hav : atV L source n = -1 := by rw [HAVn.out, if_neg hin]
     rw [hav]
     have HCE3 := Lib.hid (show ce = 17 by rw [HCE2.out, if_pos (by have := HSX.out; omega)])
     have HCR2 := Lib.hid (show cr = zR by rw [HCR.out, HCE3.out]; rfl)
     have HB5 := Lib.hid (HB1.out.ext G3.out)
     have HG5 := Lib.hid (GA.out.trans (G3.out.mono GA.out.size))
     have f0 := HB5.out.frozen 0
     have s0 := HB5.out.cell 0
     have z1 := (HB5.out.set_ 0 (.int .i64 0)).cell 1
     have zf := (HB5.out.set_ 0 (.int .i64 0)).frozen 1
     have y0 := ((HB5.out.set_ 0 (.int .i64 0)).set_ 1 (.int .i64 0)).cell 0
     have y1 := ((HB5.out.set_ 0 (.int .i64 0)).set_ 1 (.int .i64 0)).cell 1
     clear hav
     go_wp2_with fail
     refine bodyPost_ret (v := .tuple #[rv zR, .int .i64 17]) ?_ rfl ⟨by rw [HCR2.out, HCE3.out], (HG5.out.setCell (p := ⟨w.heap.size + 1, 0, none⟩) (by dsimp only; omega) _).setCell (p := ⟨w.heap.size + 1, 1, none⟩) (by dsimp only; omega) _⟩
     simp [results, Tryz.results57, go_sem, y0, y1, zR]
 ·have HCE2 := Lib.hid (show ce = fe by rw [HCE.out, if_neg hz])
  have HCR2 := Lib.hid (show cr = zR by rw [HCR.out, HCE2.out, if_neg hz])
  have hz2 : (fe != 0) = true := by simpa using hz
  clear hz HCE HAE HFO
  go_enter Tryz.func57, Tryz.ntmps57
  go_upto_region 1 with fail
  rw [HW1.out]
  go_upto_region 2 with (go_at_call 101; (with_reducible refine (HT1.out).mono ?_); rintro e V ⟨rfl, hg⟩; have HG1 := Lib.hid hg; clear hg)
  have HB5 := Lib.hid (HB1.out.ext HG1.out)
  have HG5 := Lib.hid (GA.out.trans (HG1.out.mono GA.out.size))
  have f0 := HB5.out.frozen 0
  have s0 := HB5.out.cell 0
  have z1 := (HB5.out.set_ 0 (.int .i64 0)).cell 1
  have zf := (HB5.out.set_ 0 (.int .i64 0)).frozen 1
  have y0 := ((HB5.out.set_ 0 (.int .i64 0)).set_ 1 (.int .i64 0)).cell 0
  have y1 := ((HB5.out.set_ 0 (.int .i64 0)).set_ 1 (.int .i64 0)).cell 1
  go_wp2_with fail
  refine bodyPost_ret (v := .tuple #[rv zR, .int .i64 fe]) ?_ rfl ⟨by rw [HCR2.out, HCE2.out], (HG5.out.setCell (p := ⟨w.heap.size + 1, 0, none⟩) (by dsimp only; omega) _).setCell (p := ⟨w.heap.size + 1, 1, none⟩) (by dsimp only; omega) _⟩
  simp [results, Tryz.results57, go_sem, y0, y1, zR]
end Go.Proofs.YtkoejeghihcmlaaGreat
