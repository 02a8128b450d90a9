/- The field: pick. -/
import Derived.Test.YtkoejeghihcmlaaGreatWK
import Derived.Test.YtkoejeghihcmlaaGreatWE
namespace Go.Proofs.YtkoejeghihcmlaaGreat
open Go.RowKit Go.Shelf Go.Maps
attribute [local go_sem] Oper.semAt_some

theorem run_make_int (n : Nat) (hn : n ≤ 1000) (w : World) : (Instr.makeSlice 39 (.int .i64 n) (.int .i64 n)).run Tryz.prog w = .ok (.slice (some ⟨w.heap.size, 0, none⟩) n n) (w.alloc (.cells (vals (List.replicate n 0)) 3)) := by
  obtain ⟨i, hi, hzz⟩ := Option.map_eq_some_iff.1 info3
  simp only [Prod.mk.injEq] at hzz
  obtain ⟨hz, hs, hb⟩ := hzz
  have hr := run_make (P := Tryz.prog) w 39 3 i _ (by kernel_rfl) hi hz .i64 .i64 n n (by omega) (Int.le_refl _) (by rw [hb]; omega) (by omega)
  rw [hs] at hr
  simp only [Int.toNat_natCast, Nat.mul_one] at hr
  rw [hr, ← made_vals]
  rfl
/-- Steps of pick, forwards: what is known of the numbers. -/
def PF (ls : List Six) (st : List Rg) (at_ : Nat) (v : Int) (n k : Nat) (l : List Int) : Prop := l.length = n + 1 ∧ ∀ j, at_ ≤ j → j ≤ at_ + k → l.getD j 0 = pickF ls st at_ v (j - at_)
/-- Steps back. -/
def PB (ls : List Six) (st : List Rg) (at_ : Nat) (v : Int) (n k : Nat) (l : List Int) : Prop := l.length = n + 1 ∧ (∀ j, at_ ≤ j → j ≤ n → l.getD j 0 = pickF ls st at_ v (j - at_)) ∧ ∀ j, j < at_ → at_ ≤ j + k → l.getD j 0 = pickB ls st at_ v (at_ - j)
theorem getD_set_int {l : List Int} {i j : Nat} {v : Int} (hi : i < l.length) : (l.set i v).getD j 0 = if j = i then v else l.getD j 0 := by
  rw [List.getD_eq_getElem?_getD, List.getElem?_set, List.getD_eq_getElem?_getD]
  by_cases e : i = j
  · rw [if_pos e, if_pos e.symm, if_pos hi]; rfl
  · rw [if_neg e, if_neg (fun c => e c.symm)]
theorem PF.start {ls : List Six} {st : List Rg} {at_ n : Nat} {v : Int} (h : at_ ≤ n) : PF ls st at_ v n 0 ((List.replicate (n + 1) 0).set at_ v) := by
  refine ⟨by rw [List.length_set, List.length_replicate], fun j h1 h2 => ?_⟩
  have : j = at_ := by omega
  subst this
  rw [getD_set_int (by rw [List.length_replicate]; omega), if_pos rfl, Nat.sub_self]; rfl
theorem PF.next {ls : List Six} {st : List Rg} {at_ n k : Nat} {v : Int} {l : List Int} (h : PF ls st at_ v n k l) (hk : at_ + k < n) : PF ls st at_ v n (k + 1) (l.set (at_ + k + 1) (max (Lo st (at_ + k + 1)) (l.getD (at_ + k) 0 - Gr ls (at_ + k)))) := by
  refine ⟨by rw [List.length_set]; exact h.1, fun j h1 h2 => ?_⟩
  rw [getD_set_int (by rw [h.1]; omega)]
  by_cases e : j = at_ + k + 1
  · subst e
    rw [if_pos rfl, h.2 (at_ + k) (by omega) (by omega), show at_ + k + 1 - at_ = k + 1 by omega, show at_ + k - at_ = k by omega, pickF_succ]
  · rw [if_neg e, h.2 j h1 (by omega)]
theorem PB.start {ls : List Six} {st : List Rg} {at_ n k : Nat} {v : Int} {l : List Int} (h : PF ls st at_ v n k l) (hk : at_ + k = n) : PB ls st at_ v n 0 l :=
  ⟨h.1, fun j h1 h2 => h.2 j h1 (by omega), fun j h1 h2 => absurd h1 (by omega)⟩
theorem PB.at_ {ls : List Six} {st : List Rg} {at_ n k : Nat} {v : Int} {l : List Int} (h : PB ls st at_ v n k l) (ha : at_ ≤ n) (hk : k ≤ at_) : l.getD (at_ - k) 0 = pickB ls st at_ v k := by
  by_cases e : k = 0
  · subst e
    rw [Nat.sub_zero, h.2.1 at_ (Nat.le_refl _) ha, Nat.sub_self]; rfl
  · rw [h.2.2 (at_ - k) (by omega) (by omega), show at_ - (at_ - k) = k by omega]
theorem PB.next {ls : List Six} {st : List Rg} {at_ n k : Nat} {v : Int} {l : List Int} (h : PB ls st at_ v n k l) (ha : at_ ≤ n) (hk : k < at_) : PB ls st at_ v n (k + 1) (l.set (at_ - 1 - k) (max (Lo st (at_ - 1 - k)) (l.getD (at_ - k) 0 + Ls ls (at_ - 1 - k)))) := by
  have hl := h.at_ ha (Nat.le_of_lt hk)
  refine ⟨by rw [List.length_set]; exact h.1, fun j h1 h2 => ?_, fun j h1 h2 => ?_⟩
  · rw [getD_set_int (by rw [h.1]; omega), if_neg (by omega), h.2.1 j h1 h2]
  · rw [getD_set_int (by rw [h.1]; omega)]
    by_cases e : j = at_ - 1 - k
    · rw [if_pos e, hl, show at_ - j = k + 1 by omega, pickB_succ]
    · rw [if_neg e, h.2.2 j h1 (by omega)]
theorem PB.all {ls : List Six} {st : List Rg} {at_ : Nat} {v : Int} {l : List Int} (h : PB ls st at_ v ls.length at_ l) : l = pickS ls st at_ v := by
  refine list_getD_ext (by rw [h.1]; unfold pickS; rw [List.length_map, List.length_range]) fun i hi => ?_
  rw [h.1] at hi
  rw [pickS_at (by omega)]
  by_cases e : i < at_
  · rw [if_pos e, h.2.2 i e (by omega)]
  · rw [if_neg e, h.2.1 i (by omega) (by omega)]
theorem hpf_next {ls : List Six} {st : List Rg} {at_ n k ix : Nat} {v : Int} {l : List Int} (h : PF ls st at_ v n k l) (e : ix = at_ + k) (hk : ix < n) : PF ls st at_ v n (k + 1) (l.set (ix + 1) (max (Lo st (ix + 1)) (l.getD ix 0 - Gr ls ix))) := by
  subst e
  exact h.next hk
theorem PF.start' {ls : List Six} {st : List Rg} {at_ n k : Nat} {v : Int} {l : List Int} (h : PF ls st at_ v n k l) (hk : at_ + k = n) : PB ls st at_ v n 0 l := PB.start h hk
def diffs (l : List Int) (n : Nat) : List Int := (List.range n).map fun i => l.getD i 0 - l.getD (i + 1) 0
theorem diffs_at {l : List Int} {n i : Nat} (hi : i < n) : (diffs l n).getD i 0 = l.getD i 0 - l.getD (i + 1) 0 := by
  unfold diffs
  rw [List.getD_eq_getElem?_getD, List.getElem?_map, List.getElem?_range hi]
  rfl
theorem src_fresh {l : List Six} {s : Int} {k : Nat} (h : srcIx l s = k) : s ∉ srcs (l.take k) := fun hm => by
  obtain ⟨y, hy, e⟩ := List.mem_map.1 hm
  obtain ⟨i, hi, rfl⟩ := List.mem_take_iff_getElem.1 hy
  have hlt : i < l.findIdx (isSrc s) := by
    have : l.findIdx (isSrc s) = k := h
    omega
  have := List.not_of_lt_findIdx hlt
  rw [isSrc_iff.2 e] at this
  cases this
theorem gK_next {ls : List Six} {ds : List Int} {k : Nat} (hk : k < ls.length) (h : srcIx ls (ls.getD k z6).a = k) (s : Int) : gK (ls.take (k + 1)) ds s = if s = (ls.getD k z6).a then ds.getD k 0 else gK (ls.take k) ds s := by
  rw [List.take_succ_eq_append_getElem hk, ← six_get hk, gK_snoc (src_fresh h), List.length_take, Nat.min_eq_left (Nat.le_of_lt hk)]
theorem gK_full {ls : List Six} {ds : List Int} (hd : ds.length = ls.length) (s : Int) : gK ls ds s = ds.getD (srcIx ls s) 0 := by
  unfold gK
  by_cases h : srcIx ls s < ls.length
  · rw [if_pos h]
  · rw [if_neg h, List.getD_eq_getElem?_getD, List.getElem?_eq_none (by omega)]; rfl
/-- What pick returns. -/
def PickEnd (p : Pl) (known : Int) (s : List Int) (w : World) (e : Ending) (w' : World) : Prop :=
  (∃ v, e = .returned (.agg #[.int .i64 (s.getD 0 0), v]) ∧ OwnL icells 1 3 w' w.heap.size v (pickC p known s)) ∧ Below w.heap.size w w'

set_option maxRecDepth 100000 in
set_option maxHeartbeats 16000000 in
theorem pick_any (p : Pl) (A1 A2 A3 : Option Addr) (n1 c1 n2 c2 n3 c3 pb bf bs : Nat) (known : Int) (A : Option Addr) (n c at_ : Nat) (v : Int) (w : World)
    (hP : Blk w pb 38 (plb p A1 A2 A3 n1 c1 n2 c2 n3 c3)) (hp : Pa w p A1 A2 A3 n1 c1 n2 c2 n3 c3) (hok : okPl p = true) (h60 : n ≤ 100) (hs : sound (lookS p known every) = true)
    (hf : Fd w bf bs (.pointer (some ⟨pb, 0, none⟩)) known A n c (n + 1) (lookS p known every)) (ha : Arr scells 6 w A n (lookL p known every)) (hat : at_ ≤ n) (h1 : Lo (lookS p known every) at_ ≤ v) (h2 : v ≤ Hi (lookS p known every) at_) :
    Calls Tryz.prog 84 #[.pointer (some ⟨bf, 0, none⟩), .int .i64 at_, .int .i64 v] w (PickEnd p known (pickS (lookL p known every) (lookS p known every) at_ v) w) := by
  have hrw := look_rw hok hs
  have hln := ha.1
  have hpos := fun i (hi : i ≤ n) => hrw.pos i (by rw [hln]; exact hi)
  have hhi := fun i (hi : i ≤ n) => look_hi hok known every (i := i) (by rw [hln]; exact hi)
  have hwid := fun i (hi : i < n) => (show 0 ≤ Ls (lookL p known every) i ∧ Ls (lookL p known every) i ≤ 10000 ∧ 0 ≤ Gr (lookL p known every) i ∧ Gr (lookL p known every) i ≤ 10000 from by
    have := lookL_num hok known every _ (getD_mem (show i < (lookL p known every).length by rw [hln]; exact hi))
    unfold Num at this
    unfold Ls Gr
    omega)
  have hpf := fun k (hk : at_ + k ≤ n) => pickF_in hrw.arc hrw.snd h1 h2 k (by rw [hln]; exact hk)
  have hpb := fun k (hk : k ≤ at_) => pickB_in hrw.arc hrw.snd (by rw [hln]; exact hat) h1 h2 k hk
  have hpt := (pick_tru hrw.arc (fun i hi => (hrw.wid i hi).2) hrw.snd (at_ := at_) (v := v) (by rw [hln]; exact hat) h1 h2).1
  have hsd := fun i (hi : i < n) => (show 0 ≤ (lookS p known every).length from Nat.zero_le _)
  have q3 := hf.f.cell 3
  obtain ⟨m, hm⟩ : ∃ m, n + 1 = m := ⟨_, rfl⟩
  rw [hm] at hf q3
  obtain ⟨W1, hW1⟩ : ∃ W1, ((w.alloc (.cells #[.int .i64 0, .slice none 0 0] 41)).alloc (.cells (vals (List.replicate m 0)) 3)).alloc (.cells #[.slice (some ⟨w.heap.size + 1, 0, none⟩) m m] 39) = W1 := ⟨_, rfl⟩
  have g1 : Below w.heap.size w W1 := by rw [← hW1]; exact three_more _ _ _ _
  have HB6 := Lib.hid (show Blk W1 w.heap.size 41 #[.int .i64 0, .slice none 0 0] by rw [← hW1]; exact ((Blk.new _ _ _).alloc _).alloc _)
  have hbS : Blk W1 (w.heap.size + 1) 3 (vals (List.replicate m 0)) := by rw [← hW1]; have := Blk.new (w.alloc (.cells #[.int .i64 0, .slice none 0 0] 41)) 3 (vals (List.replicate m 0)); rw [World.size_alloc] at this; exact this.alloc _
  have HB7 := Lib.hid (show Blk W1 (w.heap.size + 1 + 1) 39 #[.slice (some ⟨w.heap.size + 1, 0, none⟩) m m] by rw [← hW1]; have := Blk.new ((w.alloc (.cells #[.int .i64 0, .slice none 0 0] 41)).alloc (.cells (vals (List.replicate m 0)) 3)) 39 #[.slice (some ⟨w.heap.size + 1, 0, none⟩) m m]; simp only [World.size_alloc] at this; exact this)
  have G1 := Lib.hid g1
  have HP1 := Lib.hid (hP.ext g1)
  have HPA1 := Lib.hid (hp.below g1)
  have HF1 := Lib.hid (hf.ext g1)
  have HA1 := Lib.hid (ha.below g1)
  have HA := Lib.hid ha
  have HPA := Lib.hid hp
  have hpl := hP.lt
  have hfl := hf.f.lt
  have hsl := hf.s.lt
  have hfs := hf.ne
  have HOK := Lib.hid hok
  have HLN := Lib.hid hln
  have hb7l := HB7.out.lt
  have HBS := Lib.hid hbS
  have hmk := run_make_int m (by omega)
  have HMK := Lib.hid hmk
  have HPOS := Lib.hid hpos
  have HHI := Lib.hid hhi
  have HWID := Lib.hid hwid
  have HPF := Lib.hid hpf
  have HPB := Lib.hid hpb
  have HPT := Lib.hid hpt
  have HW1 := Lib.hid hW1
  obtain ⟨st, hst⟩ : ∃ s, lookS p known every = s := ⟨_, rfl⟩
  obtain ⟨ls, hls⟩ : ∃ s, lookL p known every = s := ⟨_, rfl⟩
  have HSRC := Lib.hid (fun x (hx : x ∈ lookL p known every) => look_src hok hx)
  have HIX := Lib.hid (fun i (hi : i < (lookL p known every).length) => srcIx_cart hok hi)
  have HCT := Lib.hid (fun x (hx : x ∈ countL p known) => mem_count.1 hx)
  have HPC := Lib.hid (show pickC p known (pickS (lookL p known every) (lookS p known every) at_ v) = (countL p known).map fun x => (pickS (lookL p known every) (lookS p known every) at_ v).getD (srcIx (lookL p known every) x.a) 0 - (pickS (lookL p known every) (lookS p known every) at_ v).getD (srcIx (lookL p known every) x.a + 1) 0 from rfl)
  rw [hst, hls] at HPF HPB HPT HPC
  rw [hst] at HPOS HHI HF1
  rw [hls] at HWID HA1 HA HLN HSRC HIX HCT
  rw [hst, hls]
  clear hrw hpos hhi hwid hpf hpb hpt hsd g1 hbS hW1 hP hp hok hs hf ha hln h1 h2 hst hls
  have HM := Lib.hid hm
  have hmn : n < m := by omega
  have hm60 : m ≤ 101 := by omega
  clear hm
  refine (callsIn_wide (n := 4)).1 (callsIn_of_wp_marks Tryz.func84 rfl trivial ?_ rfl)
  simp only [Tryz.ntmps84, List.size_toArray, List.length_cons, List.length_nil, Nat.reduceAdd, Nat.reduceSub, Array.replicate_succ, Array.replicate_zero, List.push_toArray, List.append_toArray, List.nil_append, List.cons_append]
  refine wpIn_wide.2 ?_
  go_upto_region 2 with fail
  rw [HW1.out]
  clear hmk q3
  obtain ⟨bS, hbSe⟩ : ∃ b, w.heap.size + 1 = b := ⟨_, rfl⟩
  rw [hbSe] at HBS HB7 hb7l ⊢
  have q0 := HB7.out.cell 0
  have q1 : W1.cell? ⟨bS, at_, none⟩ = some (.int .i64 0) := by rw [HBS.out.cell, vals_get, List.getElem?_replicate, if_pos (by omega)]; rfl
  have q2 := HBS.out.frozen at_
  have hati : (at_ : Int) < (m : Int) := by omega
  go_upto_region 3 with fail
  clear q0 q1 q2
  obtain ⟨W2, hW2⟩ : ∃ W, W1.setCell ⟨bS, at_, none⟩ (.int .i64 v) = W := ⟨_, rfl⟩
  rw [hW2]
  have HX2 := Lib.hid (show Fix bS bS W1 W2 by rw [← hW2]; exact (Fix.refl _ _ _).setCell (p := ⟨bS, at_, none⟩) (.inl rfl) _)
  have HS2 := Lib.hid (show Blk W2 bS 3 (vals ((List.replicate m 0).set at_ v)) by rw [← hW2, ← vals_set]; exact HBS.out.set_ at_ _)
  have HS0 := Lib.hid (show PF ls st at_ v n 0 ((List.replicate m 0).set at_ v) by rw [← HM.out]; exact PF.start hat)
  clear hW2
  go_upto_region 4 with fail
  go_loopw [8] (fun i wr => ∃ (ix k : Nat) (l : List Int), i = .int .i64 ix ∧ ix = at_ + k ∧ ix ≤ n ∧ Fix bS bS W1 wr ∧ Blk wr bS 3 (vals l) ∧ PF ls st at_ v n k l) (fun i _ => n - (intOf i).toNat)
  case atStart => exact ⟨at_, 0, _, rfl, rfl, hat, HX2.out, HS2.out, HS0.out⟩
  case round =>
    obtain ⟨ix, k, l, rfl, hixk, hix, hfx, hbl, hpf⟩ := hrel
    obtain ⟨V, rfl⟩ : ∃ V : World, V = wr := ⟨_, rfl⟩
    have HFX := Lib.hid hfx
    have HBL := Lib.hid hbl
    have HPFk := Lib.hid hpf
    have HIK := Lib.hid hixk
    have hfd := hfx.blk HF1.out.f (by omega) (by omega)
    have HFV := Lib.hid hfd
    have f2 := hfd.cell 2
    have hvs := hfx.size
    clear hfx hbl hpf hfd hixk
    by_cases hlt : ix < n
    · obtain ⟨b0, o0, e0, -, -, hc⟩ := six_at (HA1.out.fix HFX.out (fun b o e h0 => by have := HA.out.lt_of e h0; omega)) hlt
      obtain ⟨-, -, -, l3, -, -⟩ := hc V (Below.refl _ _)
      have HSV := Lib.hid (HFX.out.blk HF1.out.s (by omega) (by omega))
      obtain ⟨v0, -⟩ := rvals_at (st := st) (i := ix + 1) (by rw [HF1.out.len]; omega)
      have s0 : V.cell? ⟨bs, (ix + 1) * 2, none⟩ = some (.int .i64 (Lo st (ix + 1))) := by rw [HSV.out.cell, v0]
      have hl := HPFk.out.1
      have hlv := HPFk.out.2 ix (by have := HIK.out; omega) (by have := HIK.out; omega)
      have r0 : V.cell? ⟨bS, ix, none⟩ = some (.int .i64 (l.getD ix 0)) := by rw [HBL.out.cell, vals_get, getD_int1 (by omega)]; rfl
      have r1 : V.cell? ⟨bS, ix + 1, none⟩ = some (.int .i64 (l.getD (ix + 1) 0)) := by rw [HBL.out.cell, vals_get, getD_int1 (by omega)]; rfl
      have hpb := HPF.out k (by have := HIK.out; omega)
      have hdw := HWID.out ix hlt
      have hlo1 := HPOS.out (ix + 1) (by omega)
      have hlo2 := HHI.out (ix + 1) (by omega)
      have hp0 := HPOS.out (at_ + k) (by have := HIK.out; omega)
      have hp1 := HHI.out (at_ + k) (by have := HIK.out; omega)
      have e9 : ix - at_ = k := by have := HIK.out; omega
      rw [e9] at hlv
      have HNX := Lib.hid (hpf_next HPFk.out HIK.out hlt)
      obtain ⟨lo, hlo⟩ : ∃ lo, Lo st (ix + 1) = lo := ⟨_, rfl⟩
      obtain ⟨sv, hsv⟩ : ∃ v, l.getD ix 0 = v := ⟨_, rfl⟩
      obtain ⟨y, hy⟩ : ∃ y, ls.getD ix z6 = y := ⟨_, rfl⟩
      unfold Gr at HNX hdw
      rw [hlo] at s0 HNX
      rw [hsv] at r0 HNX hlv
      rw [hy] at l3 HNX hdw
      have hsb : 0 ≤ sv ∧ sv ≤ 10000 := by omega
      have w0 := cellW ((HFX.out.blk HB7.out (by omega) (by omega)).cell 0)
      have w1 := cellW f2
      have w2 := cellW (HFV.out.cell 3)
      have w3 := cellW l3
      have w4 := cellW s0
      have w5 := cellW r0
      have HR1 := Lib.hid r1
      have hwr1 : IntKind.i64.wrap ((ix : Int) + 1) = (ix : Int) + 1 := by rw [IntKind.wrap_i64]; omega
      have hwr2 : IntKind.i64.wrap (sv - y.d) = sv - y.d := by rw [IntKind.wrap_i64]; omega
      have hx0 : (0 : Int) ≤ (ix : Int) + 1 := by omega
      have hx1 : (ix : Int) + 1 < (m : Int) := by omega
      have hx2 : (ix : Int) < (m : Int) := by omega
      have hx3 : (ix : Int) < (n : Int) := by omega
      have hx4 : ((ix : Int) + 1).toNat = ix + 1 := by omega
      subst e0
      clear hc v0 s0 r0 r1 hlv hlo hsv hy hl e9 hp0 hp1 hlo1 hlo2 hpb l3
      go_upto_region 6 with fail
      refine wp_region_calm_tail V 28 (by kernel_rfl) (by kernel_rfl) (Below.refl _ _) ?_
      simp only [List.take_succ_cons, List.take_zero, List.drop_succ_cons, List.drop_zero]
      repeat (go_big_quiet_step (fail))
      refine wpQuiet_nil ?_
      rintro _ ⟨z, rfl⟩
      have GZ := Lib.hid z.ok
      obtain ⟨Z, hZ⟩ : ∃ Z, z.val = Z := ⟨_, rfl⟩
      rw [hZ] at GZ ⊢
      clear hZ z w0 w1 w2 w3 w4 w5
      have KB := Lib.hid (HBL.out.ext GZ.out)
      have r1 := (GZ.out.cell (p := ⟨bS, ix + 1, none⟩) (World.block_lt_of_cell? V _ HR1.out)).trans HR1.out
      have r2 := KB.out.frozen (ix + 1)
      go_wp2_with fail
      go_roundw
      case rel =>
        refine ⟨ix + 1, k + 1, _, by go_num, by have := HIK.out; omega, by omega, (HFX.out.trans (Fix.of_below GZ.out)).setCell (p := ⟨bS, ix + 1, none⟩) (.inl rfl) _, ?_, HNX.out⟩
        rw [← vals_set]
        exact KB.out.set_ (ix + 1) _
      case measure => simp [intOf]; omega
    · obtain rfl : ix = n := by omega
      have HB0 := Lib.hid (HPFk.out.start' HIK.out.symm)
      clear f2
      have f2 := HFV.out.cell 2
      go_upto_region 8 with fail
      clear f2
      go_loopw [9] (fun i wr => ∃ (k : Nat) (l : List Int), i = .int .i64 ((at_ : Int) - 1 - (k : Int)) ∧ k ≤ at_ ∧ Fix bS bS W1 wr ∧ Blk wr bS 3 (vals l) ∧ PB ls st at_ v ix k l) (fun i _ => (intOf i + 1).toNat)
      case atStart => exact ⟨0, l, by simp, Nat.zero_le _, HFX.out, HBL.out, HB0.out⟩
      case round =>
        clear HFX HBL HPFk HIK HFV hvs HB0
        obtain ⟨k, l, rfl, hk, hfx, hbl, hpb⟩ := hrel
        obtain ⟨V, rfl⟩ : ∃ V : World, V = wr := ⟨_, rfl⟩
        have HFX := Lib.hid hfx
        have HBL := Lib.hid hbl
        have HPBk := Lib.hid hpb
        have HFV := Lib.hid (hfx.blk HF1.out.f (by omega) (by omega))
        have hvs := hfx.size
        clear hfx hbl hpb
        by_cases hlt : k < at_
        · obtain ⟨jx, hjx⟩ : ∃ j, at_ - 1 - k = j := ⟨_, rfl⟩
          have hjxe : (at_ : Int) - 1 - (k : Int) = (jx : Nat) := by omega
          rw [hjxe]
          have hjn : jx < ix := by omega
          obtain ⟨b0, o0, e0, -, -, hc⟩ := six_at (HA1.out.fix HFX.out (fun b o e h0 => by have := HA.out.lt_of e h0; omega)) hjn
          obtain ⟨-, -, l2, -, -, -⟩ := hc V (Below.refl _ _)
          have HSV := Lib.hid (HFX.out.blk HF1.out.s (by omega) (by omega))
          obtain ⟨v0, -⟩ := rvals_at (st := st) (i := jx) (by rw [HF1.out.len]; omega)
          have s0 : V.cell? ⟨bs, jx * 2, none⟩ = some (.int .i64 (Lo st jx)) := by rw [HSV.out.cell, v0]
          have hl := HPBk.out.1
          have hlv := HPBk.out.at_ hat (Nat.le_of_lt hlt)
          have HNX := Lib.hid (HPBk.out.next hat hlt)
          have e9 : at_ - k = jx + 1 := by omega
          rw [e9] at hlv HNX
          rw [hjx] at HNX
          have r0 : V.cell? ⟨bS, jx + 1, none⟩ = some (.int .i64 (l.getD (jx + 1) 0)) := by rw [HBL.out.cell, vals_get, getD_int1 (by omega)]; rfl
          have r1 : V.cell? ⟨bS, jx, none⟩ = some (.int .i64 (l.getD jx 0)) := by rw [HBL.out.cell, vals_get, getD_int1 (by omega)]; rfl
          have hpb := HPB.out k (by omega)
          have hdw := HWID.out jx hjn
          have hlo1 := HPOS.out jx (by omega)
          have hlo2 := HHI.out jx (by omega)
          have hp0 := HPOS.out (at_ - k) (by omega)
          have hp1 := HHI.out (at_ - k) (by omega)
          obtain ⟨lo, hlo⟩ : ∃ lo, Lo st jx = lo := ⟨_, rfl⟩
          obtain ⟨sv, hsv⟩ : ∃ v, l.getD (jx + 1) 0 = v := ⟨_, rfl⟩
          obtain ⟨y, hy⟩ : ∃ y, ls.getD jx z6 = y := ⟨_, rfl⟩
          unfold Ls at HNX hdw
          rw [hlo] at s0 HNX
          rw [hsv] at r0 HNX hlv
          rw [hy] at l2 HNX hdw
          have hsb : 0 ≤ sv ∧ sv ≤ 10000 := by omega
          have w0 := cellW ((HFX.out.blk HB7.out (by omega) (by omega)).cell 0)
          have w1 := cellW (HFV.out.cell 2)
          have w2 := cellW (HFV.out.cell 3)
          have w3 := cellW l2
          have w4 := cellW s0
          have w5 := cellW r0
          have HR1 := Lib.hid r1
          have hwr1 : IntKind.i64.wrap ((jx : Int) + 1) = (jx : Int) + 1 := by rw [IntKind.wrap_i64]; omega
          have hwr2 : IntKind.i64.wrap (sv + y.c) = sv + y.c := by rw [IntKind.wrap_i64]; omega
          have hx0 : (0 : Int) ≤ (jx : Int) + 1 := by omega
          have hx1 : (jx : Int) + 1 < (m : Int) := by omega
          have hx2 : (jx : Int) < (m : Int) := by omega
          have hx3 : (jx : Int) < (ix : Int) := by omega
          have hx4 : ((jx : Int) + 1).toNat = jx + 1 := by omega
          have HJX := Lib.hid hjxe
          subst e0
          clear hc v0 s0 r0 r1 hlv hlo hsv hy hl e9 hp0 hp1 hlo1 hlo2 hpb l2 hjxe
          go_upto_region 10 with fail
          refine wp_region_calm_tail V 27 (by kernel_rfl) (by kernel_rfl) (Below.refl _ _) ?_
          simp only [List.take_succ_cons, List.take_zero, List.drop_succ_cons, List.drop_zero]
          repeat (go_big_quiet_step (fail))
          refine wpQuiet_nil ?_
          rintro _ ⟨z, rfl⟩
          have GZ := Lib.hid z.ok
          obtain ⟨Z, hZ⟩ : ∃ Z, z.val = Z := ⟨_, rfl⟩
          rw [hZ] at GZ ⊢
          clear hZ z w0 w1 w2 w3 w4 w5
          have KB := Lib.hid (HBL.out.ext GZ.out)
          have r1 := (GZ.out.cell (p := ⟨bS, jx, none⟩) (World.block_lt_of_cell? V _ HR1.out)).trans HR1.out
          have r2 := KB.out.frozen jx
          go_wp2_with fail
          go_roundw
          case rel =>
            refine ⟨k + 1, _, by have := HJX.out; go_num, by omega, (HFX.out.trans (Fix.of_below GZ.out)).setCell (p := ⟨bS, jx, none⟩) (.inl rfl) _, ?_, HNX.out⟩
            rw [← vals_set]
            exact KB.out.set_ jx _
          case measure => simp [intOf]
        · obtain rfl : k = at_ := by omega
          have he : (k : Int) - 1 - (k : Int) = -1 := by omega
          rw [he]
          have HALL := Lib.hid (show l = pickS ls st k v from PB.all (by rw [HLN.out]; exact HPBk.out))
          have HTR := Lib.hid (show Tru ls st l by rw [HALL.out]; exact HPT.out)
          have HVB := Lib.hid (show ∀ j, j ≤ ix → 0 ≤ l.getD j 0 ∧ l.getD j 0 ≤ 10000 from fun j hj => by
            have a := HTR.out.2.2 j (by rw [HLN.out]; exact hj)
            have b := HPOS.out j hj
            have c := HHI.out j hj
            omega)
          have HLL := Lib.hid HPBk.out.1
          have HB7V := Lib.hid (HFX.out.blk HB7.out (by omega) (by omega))
          have HB6V := Lib.hid (HFX.out.blk HB6.out (by omega) (by omega))
          have HPV := Lib.hid (HFX.out.blk HP1.out (by omega) (by omega))
          have HAV := Lib.hid (HA1.out.fix HFX.out (fun b o e h0 => by have := HA.out.lt_of e h0; omega))
          have HPAV := Lib.hid (show Arr scells 6 V A1 n1 p.loads from HPA1.out.l1.fix HFX.out (fun b o e h0 => by have := HPA.out.l1.lt_of e h0; omega))
          have GV := Lib.hid (show Below w.heap.size w V from G1.out.trans (HFX.out.below (B := w.heap.size) (by omega) G1.out.size))
          have hgv := GV.out.size
          have hmm := @run_makeMap Tryz.prog
          go_upto_region 12 with fail
          clear hmm
          obtain ⟨W3, hW3⟩ : ∃ W, (V.alloc (.map #[] 0)).alloc (.cells #[.map (some V.heap.size)] 230) = W := ⟨_, rfl⟩
          rw [hW3]
          have g3 : Below V.heap.size V W3 := by rw [← hW3]; exact two_more _ _ _
          have nm3 : NumMap W3 V.heap.size 0 (gK (ls.take 0) (diffs l ix)) := by rw [← hW3]; exact ((NumMap.new V).ext (one_more _ _)).congr (fun i => by rfl)
          have bb3 : Blk W3 (V.heap.size + 1) 230 #[.map (some V.heap.size)] := by rw [← hW3]; have := Blk.new (V.alloc (.map #[] 0)) 230 #[.map (some V.heap.size)]; rwa [World.size_alloc] at this
          have hs3 : W3.heap.size = V.heap.size + 2 := by rw [← hW3]; simp
          clear hW3
          go_wp2_with fail
          refine (carted_any _ _).mono ?_
          rintro e w' ⟨rfl, hw'⟩
          have hbQ : Blk w' W3.heap.size 134 #[.pointer (some ⟨bf, 0, none⟩)] := by rw [← hw']; exact Blk.new _ _ _
          have g4 : Below W3.heap.size W3 w' := by rw [← hw']; exact one_more _ _
          have hs4 : w'.heap.size = W3.heap.size + 1 := by rw [← hw']; simp
          clear hw'
          rename World => W0
          have g5 : Below V.heap.size V W0 := g3.trans (g4.mono g3.size)
          have HNM := Lib.hid (nm3.ext g4)
          have HBB := Lib.hid (bb3.ext g4)
          have HB70 := Lib.hid (HB7V.out.ext g5)
          have HB60 := Lib.hid (HB6V.out.ext g5)
          have HS0' := Lib.hid (HBL.out.ext g5)
          have HF0 := Lib.hid (HFV.out.ext g5)
          have HP0 := Lib.hid (HPV.out.ext g5)
          have HA0 := Lib.hid (HAV.out.below g5)
          have HPA0 := Lib.hid (HPAV.out.below g5)
          have G0 := Lib.hid (GV.out.trans (g5.mono hgv))
          have hbsl := HBL.out.lt
          obtain ⟨bm, hbm⟩ : ∃ b, V.heap.size = b := ⟨_, rfl⟩
          have HQ0 := Lib.hid (show Blk W0 (bm + 2) 134 #[.pointer (some ⟨bf, 0, none⟩)] by rw [← hbm, ← hs3]; exact hbQ)
          have h0s : bm + 3 ≤ W0.heap.size := by omega
          rw [show W3.heap.size = bm + 2 by omega]
          have HVM := Lib.hid hbm
          have hvm1 : W1.heap.size ≤ bm := by omega
          rw [hbm] at HNM HBB hgv hbsl ⊢
          clear g3 g4 g5 nm3 bb3 hs3 hs4 hbQ hbm
          have HAD := Lib.hid (show ∀ b o, A = some ⟨b, o, none⟩ → 0 < ix → b ≠ bm ∧ b ≠ bm ∧ b < W0.heap.size from fun b o e h0 => by
            have := HA.out.lt_of e h0
            omega)
          have HSQ := Lib.hid (carted_seqP 3 W0 W0.heap.size (bm + 2) bf bm bm A ix c ls (HQ0.out.cell 0) (HF0.out.cell 2) HA0.out (by omega) HAD.out)
          go_wp2_with fail
          refine (wpIn_wide (n := 4)).1 ?_
          refine wp_rangeP (α := Cx ix) (n := 4) (by omega) (gf := 202) (lb := #[.pointer (some ⟨bm + 2, 0, none⟩)]) rfl (enters_of Tryz.func202 (by kernel_rfl) rfl) HSQ.out (Below.refl _ _) (fun _ => rfl)
            (fun pre W => FixU W0.heap.size bm bm W0 W ∧ NumMap W bm pre.length (gK (ls.take pre.length) (diffs l ix)) ∧ Oto W0 W) (fun _ _ _ => False) ?hI ?hIx ?h0
            (fun x a' W => ∃ Bx, W0.heap.size ≤ Bx ∧ Blk W Bx 103 #[.int .i64 (ls.getD x.1 z6).a, .int .i64 (ls.getD x.1 z6).b, .int .i64 (ls.getD x.1 z6).c, .int .i64 (ls.getD x.1 z6).d, .int .i64 (ls.getD x.1 z6).e, .int .i64 (ls.getD x.1 z6).f] ∧
              a' = (?F : Cx ix → Nat → Act) x Bx) ?hAx ?assign ?body ?done ?stop
          case assign =>
            rintro l' pre x W K ⟨hfx, hnm, hto⟩ hK
            unfold encC
            gi_wp2
            refine hK _ _ ((KeepsOthers.alloc _ _).from _) (FixU.of_below (one_more _ _)) ⟨hfx.trans (FixU.of_below (one_more _ _)), hnm.ext (one_more _ _), hto.below (one_more _ _)⟩ ⟨W.heap.size, hfx.size, Blk.new _ _ _, ?_⟩
            generalize W.heap.size = B
            rfl
          case hI =>
            rintro pre X Y row ⟨hfx, hnm, hto⟩ hg hr
            have hr1 : ∀ r, row = some r → ∃ o : Obj, X.heap[r]? = some o ∧ o.isCells = false := fun r e => (hr r e).2
            exact ⟨(FixU.own (α := Nat) (Nat.le_refl _)) [] _ _ _ hfx hg hr, hnm.same (hg.block bm hnm.lt (fun e => by have := (hr bm e.symm).1; omega)), hto.grown hg⟩
          case hIx => exact fun _ _ _ _ _ hs _ _ => hs
          case h0 => exact ⟨FixU.refl _ _ _ _, HNM.out, Oto.refl _⟩
          case hAx =>
            rintro x a' _ X Y row ⟨Bx, h1, h2, h3⟩ hg hr
            exact ⟨Bx, h1, h2.own hg (fun r e => (hr r e).2), h3⟩
          case body =>
            rintro l' pre x a' W hl - ⟨hfx, hnm, hto⟩ ⟨Bx, hBx, hB, rfl⟩ hpl hG
            have hXs := hfx.size
            obtain ⟨xi, hxi⟩ : ∃ xi, x.1 = xi := ⟨_, rfl⟩
            have hxn : xi < ix := by rw [← hxi]; exact x.2
            rw [hxi] at hB hG ⊢
            have HPN := Lib.hid (show (pre ++ [x]).length = xi + 1 by rw [List.length_append, List.length_singleton, hG])
            rw [← hG] at hnm
            have HGN := Lib.hid (fun s => gK_next (ds := diffs l ix) (show xi < ls.length by rw [HLN.out]; exact hxn) (HIX.out xi (by rw [HLN.out]; exact hxn)) s)
            have HDA := Lib.hid (diffs_at (l := l) hxn)
            have hys := HSRC.out _ (getD_mem (show xi < ls.length by rw [HLN.out]; exact hxn))
            obtain ⟨y, hy⟩ : ∃ y, ls.getD xi z6 = y := ⟨_, rfl⟩
            rw [hy] at hB HGN hys
            have hv1 := HVB.out xi (by omega)
            have hv2 := HVB.out (xi + 1) (by omega)
            have hll := HLL.out
            have hSW := hfx.blk HS0'.out (by omega) (by omega) (.inl (by omega))
            have r0 : W.cell? ⟨bS, xi, none⟩ = some (.int .i64 (l.getD xi 0)) := by rw [hSW.cell, vals_get, getD_int1 (by omega)]; rfl
            have r1 : W.cell? ⟨bS, xi + 1, none⟩ = some (.int .i64 (l.getD (xi + 1) 0)) := by rw [hSW.cell, vals_get, getD_int1 (by omega)]; rfl
            obtain ⟨s1, hs1⟩ : ∃ v, l.getD xi 0 = v := ⟨_, rfl⟩
            obtain ⟨s2, hs2⟩ : ∃ v, l.getD (xi + 1) 0 = v := ⟨_, rfl⟩
            rw [hs1] at r0 hv1 HDA
            rw [hs2] at r1 hv2 HDA
            have w0 := cellW r0
            have w1 := cellW r1
            have w2 := cellW ((hfx.blk HB70.out (by omega) (by omega) (.inl (by omega))).cell 0)
            have w3 := cellW ((hfx.blk HBB.out (by omega) (by omega) (.inl (by omega))).cell 0)
            have w4 := cellW (hB.cell 0)
            have hwr1 : IntKind.i64.wrap ((xi : Int) + 1) = (xi : Int) + 1 := by rw [IntKind.wrap_i64]; omega
            have hwr2 : IntKind.i64.wrap (s1 - s2) = s1 - s2 := by rw [IntKind.wrap_i64]; omega
            have hx0 : (0 : Int) ≤ (xi : Int) + 1 := by omega
            have hx1 : (xi : Int) + 1 < (m : Int) := by omega
            have hx2 : (xi : Int) < (m : Int) := by omega
            have hx4 : ((xi : Int) + 1).toNat = xi + 1 := by omega
            have HFXW := Lib.hid hfx
            have HNMW := Lib.hid hnm
            have HTO := Lib.hid hto
            clear hfx hnm hto hB hG hy hs1 hs2 r0 r1 hll hxi
            gi_wp2_with fail
            refine wpIn_region_quiet_tail (Open.round l') (C := fun w' => ∃ x : Wd W, w' = x.val) 13 (by kernel_rfl) (by kernel_rfl) (by kernel_rfl) (Wd.of (Below.refl _ _).drew) ?_
            simp only [List.take_succ_cons, List.take_zero, List.drop_succ_cons, List.drop_zero]
            repeat (go_big_quiet_step (fail))
            refine wpQuiet_nil ?_
            rintro _ ⟨z, rfl⟩
            clear w0 w1 w2 w3 w4
            have GZ := Lib.hid z.ok
            obtain ⟨Z, hZ⟩ : ∃ Z, z.val = Z := ⟨_, rfl⟩
            rw [hZ] at GZ ⊢
            clear hZ z
            obtain ⟨nD, D, hD1, hD2, hD3⟩ := HNMW.out.ext GZ.out
            have HD3 := Lib.hid hD3
            have HD2 := Lib.hid hD2
            clear hD2 hD3
            refine wpListIn_mapUpdate_own _ rfl _ _ _ 230 rfl 3 3 (int_keyed Tryz.underlying3) Tryz.underlying230 _ bm nD D (by rfl) HD2.out (by unfold maxLen; omega) _ _ (.int .i64 y.a) (by rfl) (by rfl) (keyOf_int_mk Tryz.underlying3 (lit_wf (by omega) (by omega))) (.lit (.int .i64 (s1 - s2))) [] (plainElem_int Tryz.underlying3 (wf_i64 (by omega))) ?_
            intro Vu hown1 hgrow1
            have HNU := Lib.hid (NumMap.put (by omega) (by omega) hD1 HD2.out.isMap HD3.out hown1)
            have FU := Lib.hid (FixU.of_fix (B := W0.heap.size) (fix_turn hgrow1))
            have HGW := Lib.hid hgrow1
            clear hown1 hgrow1
            gi_wp2_with fail
            refine ⟨⟨Nat.le_trans GZ.out.size HGW.out.size, fun k o hk hko ho => (HGW.out.block k (Nat.lt_of_lt_of_le (Array.getElem?_eq_some_iff.1 hko).1 GZ.out.size) (fun e => by cases e; omega)).trans ((GZ.out.block k (Array.getElem?_eq_some_iff.1 hko).1).trans hko)⟩, (FixU.of_below GZ.out).trans FU.out, HFXW.out.trans ((FixU.of_below GZ.out).trans FU.out), ?_, ?_⟩
            · rw [HPN.out]
              refine HNU.out.congr fun s => ?_
              rw [HGN.out s, HDA.out]
            · exact (HTO.out.below GZ.out).grown HGW.out
          case done =>
            rintro E xs W hD hS ⟨hfx, hnm, hto⟩ hK
            have hxl : xs.length = ix := by
              have := congrArg List.length hS
              rw [List.length_map, List.length_range] at this
              exact this
            rw [hxl, List.take_of_length_le (by rw [HLN.out]; exact Nat.le_refl _)] at hnm
            have hXs := hfx.size
            have hdl : (diffs l ix).length = ls.length := by unfold diffs; rw [List.length_map, List.length_range, HLN.out]
            have HNM2 := Lib.hid (hnm.congr (fun s => gK_full hdl s))
            have hgd : ∀ x ∈ countL p known, (diffs l ix).getD (srcIx ls x.a) 0 = l.getD (srcIx ls x.a) 0 - l.getD (srcIx ls x.a + 1) 0 := fun x hx => diffs_at (by have := (srcIx_spec (HCT.out x hx)).1; rw [HLN.out] at this; exact this)
            obtain ⟨g, hg⟩ : ∃ g : Int → Int, (fun s => (diffs l ix).getD (srcIx ls s) 0) = g := ⟨_, rfl⟩
            rw [hg] at HNM2
            have HPC2 := Lib.hid (show pickC p known (pickS ls st k v) = (countL p known).map fun x => g x.a by
              have e1 : (countL p known).map (fun x => g x.a) = (countL p known).map fun x => l.getD (srcIx ls x.a) 0 - l.getD (srcIx ls x.a + 1) 0 := List.map_congr_left fun x hx => by rw [← hg]; exact hgd x hx
              rw [e1, HALL.out]
              exact HPC.out)
            have HS00 := Lib.hid (show (pickS ls st k v).getD 0 0 = l.getD 0 0 by rw [HALL.out])
            have hll := HLL.out
            have hSW := hfx.blk HS0'.out (by omega) (by omega) (.inl (by omega))
            have r0 : W.cell? ⟨bS, 0, none⟩ = some (.int .i64 (l.getD 0 0)) := by rw [hSW.cell, vals_get, getD_int1 (by omega)]; rfl
            obtain ⟨s0, hs0⟩ : ∃ v, l.getD 0 0 = v := ⟨_, rfl⟩
            rw [hs0] at r0 HS00
            have q7 := (hfx.blk HB70.out (by omega) (by omega) (.inl (by omega))).cell 0
            have HBBW := Lib.hid (hfx.blk HBB.out (by omega) (by omega) (.inl (by omega)))
            have HB6W := Lib.hid (hfx.blk HB60.out (by omega) (by omega) (.inl (by omega)))
            have HFW := Lib.hid (hfx.blk HF0.out (by omega) (by omega) (.inl (by omega)))
            have HPW := Lib.hid (hfx.blk HP0.out (by omega) (by omega) (.inl (by omega)))
            have HLW := Lib.hid (hfx.arr HPA0.out (fun b o e h0 => by have := HPA.out.l1.lt_of e h0; omega))
            have GW := Lib.hid (show Below w.heap.size w W from G0.out.trans (hfx.below (D := w.heap.size) hto (by omega) (by omega) (by omega) (by omega)))
            have HK := Lib.hid hK
            have hEl := (Array.getElem?_eq_some_iff.1 hK).1
            have hb6l := HB6W.out.lt
            have hbbl := HBBW.out.lt
            have hfl2 := HFW.out.lt
            have hpl2 := HPW.out.lt
            have hl1n := HLW.out.1
            have HL1N := Lib.hid hl1n
            have hn60 : n1 ≤ 60 := by have := (ok_parts HOK.out).2.2.2.2.2.1; omega
            have f0 := HFW.out.cell 0
            have p2 := HPW.out.cell 1
            have p3 := HPW.out.cell 2
            have hm0 : (0 : Int) < (m : Int) := by omega
            clear hfx hnm hto hK hS hgd hg hdl hSW hll hs0 hxl hl1n
            go_upto_region 17 with fail
            obtain ⟨W4, hW4⟩ : ∃ V, W.alloc (.cells #[.int .i64 s0, .slice none 0 0] 41) = V := ⟨_, rfl⟩
            rw [hW4]
            have GA := Lib.hid (show Below W.heap.size W W4 by rw [← hW4]; exact one_more _ _)
            have HR4 := Lib.hid (show Blk W4 W.heap.size 41 #[.int .i64 s0, .slice none 0 0] by rw [← hW4]; exact Blk.new _ _ _)
            clear hW4 r0 q7 f0 p2 p3
            have f0 := (HFW.out.ext GA.out).cell 0
            have p3 := (HPW.out.ext GA.out).cell 2
            obtain ⟨b13, hb13⟩ : ∃ b, W.heap.size = b := ⟨_, rfl⟩
            have HB13 := Lib.hid hb13
            rw [hb13] at HR4 ⊢
            have hr4l := HR4.out.lt
            have he13 : E < b13 := by omega
            have h613 : w.heap.size < b13 := by omega
            clear hb13
            go_upto_region 18 with fail
            clear f0 p3
            go_loopw [127] (fun i wr => ∃ (q : Nat) (u : Value), q ≤ n1 ∧ i = .int .i64 q ∧ Below W.heap.size W wr ∧ Blk wr b13 41 #[.int .i64 s0, u] ∧ OwnL icells 1 3 wr (b13 + 1) u ((cntK p known q).map fun x => g x.a)) (fun i _ => n1 - (intOf i).toNat)
            case atStart => exact ⟨0, _, Nat.zero_le _, rfl, GA.out, HR4.out, OwnL.nil _ _⟩
            case round =>
              obtain ⟨q, u, hq, rfl, hgw, hbr, hou⟩ := hrel
              have HGQ := Lib.hid hgw
              have HBR := Lib.hid hbr
              have HOU := Lib.hid hou
              have hws := hgw.size
              have hbrl := hbr.lt
              clear hgw hbr hou
              by_cases hqn : q < n1
              · obtain ⟨b0, o0, e0, -, -, hc⟩ := six_at (HLW.out.below HGQ.out) hqn
                obtain ⟨x0, x1, x2, x3, x4, x5⟩ := hc wr (Below.refl _ _)
                have hkl1 : q < p.loads.length := by rw [HL1N.out]; exact hqn
                have HSU := Lib.hid (cntK_succ (p := p) (known := known) (k := q) hkl1)
                have hnx := load_num HOK.out (getD_mem hkl1)
                obtain ⟨x, hxg⟩ : ∃ x, p.loads.getD q z6 = x := ⟨_, rfl⟩
                rw [hxg] at x0 x1 x2 x3 x4 x5 HSU hnx
                subst e0
                obtain ⟨cb, hcb⟩ : ∃ cb, cnt x known = cb := ⟨_, rfl⟩
                have TC := fun V => cnt_any x known V
                rw [hcb] at TC HSU
                have HTC := Lib.hid TC
                clear hc hxg hcb TC
                go_upto_region 20 with fail
                obtain ⟨W5, hW5⟩ : ∃ V, wr.alloc (.cells #[.int .i64 x.a, .int .i64 x.b, .int .i64 x.c, .int .i64 x.d, .int .i64 x.e, .int .i64 x.f] 103) = V := ⟨_, rfl⟩
                rw [hW5]
                have HX5 := Lib.hid (show Blk W5 wr.heap.size 103 #[.int .i64 x.a, .int .i64 x.b, .int .i64 x.c, .int .i64 x.d, .int .i64 x.e, .int .i64 x.f] by rw [← hW5]; exact Blk.new _ _ _)
                have G5 := Lib.hid (show Below wr.heap.size wr W5 by rw [← hW5]; exact one_more _ _)
                have v1 := cellW (HX5.out.cell 3)
                have v2 := cellW (HX5.out.cell 4)
                have v3 := cellW (HX5.out.cell 5)
                have v4 := cellW ((HFW.out.ext (HGQ.out.trans (G5.out.mono hws))).cell 1)
                clear hW5 x0 x1 x2 x3 x4 x5
                refine wp_region_calm W5 (by kernel_rfl) (by kernel_rfl) (Below.refl _ _) ?_
                repeat (go_big_quiet_step (first | (go_at_call 159; exact callsCalmSame (HTC.out _))))
                refine wpQuiet_nil ?_
                rintro _ ⟨z, rfl⟩
                have GZ := Lib.hid (G5.out.trans (z.ok.mono G5.out.size))
                have HXZ := Lib.hid (HX5.out.ext z.ok)
                obtain ⟨Z, hZ⟩ : ∃ Z, z.val = Z := ⟨_, rfl⟩
                rw [hZ] at GZ HXZ ⊢
                clear hZ z v1 v2 v3 v4
                have GWZ := Lib.hid (HGQ.out.trans (GZ.out.mono hws))
                cases cb with
                | false =>
                  have HS2 := Lib.hid (show cntK p known (q + 1) = cntK p known q by rw [HSU.out]; simp)
                  go_wp2_with fail
                  go_roundw
                  case rel => exact ⟨q + 1, u, by omega, by go_num, GWZ.out, HBR.out.ext GZ.out, by rw [HS2.out]; exact HOU.out.ext GZ.out⟩
                  case measure => simp [intOf]; omega
                | true =>
                  have HS2 := Lib.hid (show (cntK p known (q + 1)).map (fun x => g x.a) = (cntK p known q).map (fun x => g x.a) ++ [g x.a] by rw [HSU.out, if_pos rfl, List.map_append]; rfl)
                  have hlk := (HNM2.out.ext GWZ.out).look (i := x.a) (by omega) (by omega)
                  obtain ⟨gv, hgv⟩ : ∃ v, g x.a = v := ⟨_, rfl⟩
                  rw [hgv] at hlk HS2
                  obtain ⟨pl, hpl'⟩ : ∃ l, (cntK p known q).map (fun x => g x.a) = l := ⟨_, rfl⟩
                  have HPL := Lib.hid (show pl.length + 1 ≤ 1000000 by rw [← hpl', List.length_map]; have := cntK_len (p := p) (known := known) (k := q); omega)
                  rw [hpl'] at HS2 HOU
                  obtain ⟨Au, cu, hue, -⟩ := OwnL.arr kdI HOU.out
                  obtain ⟨nu, hnu⟩ : ∃ q, pl.length = q := ⟨_, rfl⟩
                  rw [hnu] at hue
                  subst hue
                  have KB := Lib.hid (HBR.out.ext GZ.out)
                  have KO := Lib.hid (HOU.out.ext GZ.out)
                  have y0 := KB.out.cell 1
                  have y1 := KB.out.frozen 1
                  have y2 := (HBBW.out.ext GWZ.out).cell 0
                  have y3 := HXZ.out.cell 0
                  have OX := Lib.hid (KO.out.ext (one_more Z (.cells #[.int .i64 gv] 3)))
                  have IX := Lib.hid (one_int (Blk.new Z 3 #[.int .i64 gv]))
                  have HOBK := Lib.hid (fun (k : Nat) (e : (Value.slice Au nu cu).ownBlock = some k) => (own_cells KO.out e).1)
                  have hzs := GZ.out.size
                  clear hgv hpl' hnu
                  go_wp2_with (at_builtin; go_loud (refine wpList_app kdI (by rfl) _ _ (by rfl) (b13 + 1) (.slice Au nu cu) pl (by rfl) OX.out _ 1 1 [gv] (by rfl) IX.out HPL.out (by simp; omega) ?_); intro v' w2 ho2 hg2 hz2; obtain ⟨Av2, cv2, hve, -⟩ := OwnL.arr kdI ho2; obtain ⟨nv2, hnv⟩ : ∃ q, (pl ++ [gv]).length = q := ⟨_, rfl⟩; rw [hnv] at hve; subst hve; clear hnv; have k9 := ((KB.out.alloc (.cells #[.int .i64 gv] 3)).grown hg2 (fun e => by have := HOBK.out _ e; omega)); have m0 := k9.cell 1; have m1 := k9.frozen 1; have K9 := Lib.hid k9; have HO2 := Lib.hid ho2; have HGB := Lib.hid ((OX.out).below hg2 (B := b13) (by omega) (by simp; omega)); clear ho2 hg2 hz2 k9)
                  go_roundw
                  case rel =>
                    refine ⟨q + 1, _, by omega, by go_num, ?_, K9.out.set_ 1 _, by rw [HS2.out]; exact HO2.out.far (p := ⟨b13, 1, none⟩) (by show b13 < b13 + 1; omega) _⟩
                    have e13 := HB13.out
                    have gg : Below b13 W w2 := by
                      have g1 : Below b13 W Z := e13 ▸ GWZ.out
                      exact (g1.trans ((one_more Z _).mono (by omega))).trans HGB.out
                    exact e13 ▸ (gg.setCell (p := ⟨b13, 1, none⟩) (Nat.le_refl _) _)
                  case measure => simp [intOf]; omega
              · obtain rfl : n1 = q := by omega
                have HEND := Lib.hid (show (cntK p known n1).map (fun x => g x.a) = pickC p known (pickS ls st k v) by rw [HPC2.out, cntK_all (by rw [HL1N.out]; exact Nat.le_refl _)])
                rw [HEND.out] at HOU
                obtain ⟨Au, cu, hue, -⟩ := OwnL.arr kdI HOU.out
                obtain ⟨nu, hnu⟩ : ∃ q, (pickC p known (pickS ls st k v)).length = q := ⟨_, rfl⟩
                rw [hnu] at hue
                subst hue
                have K6 := Lib.hid (HB6W.out.ext HGQ.out)
                have y0 := HBR.out.cell 0
                have y1 := HBR.out.cell 1
                have y2 := K6.out.cell 0
                have y3 := K6.out.cell 1
                have y4 := K6.out.frozen 0
                have y5 := K6.out.frozen 1
                have HKZ := Lib.hid ((HGQ.out.block E hEl).trans HK.out)
                clear hnu
                go_wp2_with fail
                have k6 := (K6.out.set_ 0 (.int .i64 s0)).set_ 1 (.slice Au nu cu)
                have t0 := (k6.putObj (D := E) (by omega) (.deferred none)).cell 0
                have t1 := (k6.putObj (D := E) (by omega) (.deferred none)).cell 1
                have HKF := Lib.hid (show ((wr.setCell ⟨w.heap.size, 0, none⟩ (.int .i64 s0)).setCell ⟨w.heap.size, 1, none⟩ (.slice Au nu cu)).heap[E]? = some (.deferred (some [])) from (Below.heap_setCell _ _ _ _ (by show E ≠ w.heap.size; omega)).trans ((Below.heap_setCell _ _ _ _ (by show E ≠ w.heap.size; omega)).trans HKZ.out))
                refine ⟨by simp, .inl ⟨_, _, rfl, run_takeDeferred HKF.out, ?_⟩⟩
                refine ⟨.agg #[.int .i64 s0, .slice Au nu cu], ?_, ⟨⟨_, by rw [HS00.out], ?_⟩, ?_⟩⟩
                · simp [results, Tryz.results84, go_sem, t0, t1]
                · exact (((HOU.out.far (p := ⟨w.heap.size, 0, none⟩) (by show w.heap.size < b13 + 1; omega) _).far (p := ⟨w.heap.size, 1, none⟩) (by show w.heap.size < b13 + 1; omega) _).held (grownBy_putObj' _ E _) (fun r e => by cases e; exact ⟨_, HKF.out, rfl⟩)).mono (by omega)
                · have gx := ((GW.out.trans (HGQ.out.mono GW.out.size)).setCell (p := ⟨w.heap.size, 0, none⟩) (Nat.le_refl _) (.int .i64 s0)).setCell (p := ⟨w.heap.size, 1, none⟩) (Nat.le_refl _) (.slice Au nu cu)
                  exact gx.grown (grownBy_putObj' _ E _) gx.size (fun k hk => by cases hk; omega)
          case stop =>
            rintro D cd pre X _ _ h _
            exact h.elim
end Go.Proofs.YtkoejeghihcmlaaGreat
