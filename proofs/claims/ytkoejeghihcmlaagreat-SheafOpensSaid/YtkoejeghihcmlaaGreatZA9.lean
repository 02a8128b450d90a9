/- Part of the proof: TZ, UH, UI, UJ, UK, XA. -/
import Derived.Test.YtkoejeghihcmlaaGreatRows
import Derived.ProofKit
import Derived.Carry
import Derived.WideKeyArgs
import Derived.Below
import Derived.OpenShut
import Derived.Deep.Slices
import Derived.Test.YtkoejeghihcmlaaGreatZA2
import Derived.Test.YtkoejeghihcmlaaGreatZA4
import Derived.Test.YtkoejeghihcmlaaGreatZA5
import Derived.Test.YtkoejeghihcmlaaGreatZA6
import Derived.Test.YtkoejeghihcmlaaGreatZA7
namespace Go.Proofs.YtkoejeghihcmlaaGreat
open Go.RowKit Go.Shelf
theorem insH_map {f : Six → Six} (hf : ∀ x, (f x).b = x.b) (x : Six) : ∀ l : List Six, insH (f x) (l.map f) = (insH x l).map f
 | [] => rfl
 | y :: l => by
  rw [List.map_cons]
  unfold insH
  rw [hf, hf]
  split
  ·rfl
  ·rw [insH_map hf x l]; rfl
theorem srtH_map {f : Six → Six} (hf : ∀ x, (f x).b = x.b) (l : List Six) : srtH (l.map f) = (srtH l).map f := by
 have key : ∀ (l out : List Six), (l.map f).foldl (fun out x => insH x out) (out.map f) = (l.foldl (fun out x => insH x out) out).map f := by
  intro l
  induction l with
  | nil => intro out; rfl
  | cons x l ih => intro out; rw [List.map_cons, List.foldl_cons, List.foldl_cons, insH_map hf]; exact ih _
 exact key l []
/-- The loads that count, as they are carted. -/
def cartL (p : Pl) (known : Int) : List Six := srtH (p.loads.filter fun x => cnt x known)
theorem veil_b (m : Int → Bool) (x : Six) : (veil m x).b = x.b := by unfold veil; split <;> rfl
theorem lookL_cart (p : Pl) (known : Int) (m : Int → Bool) : lookL p known m = (cartL p known).map (veil m) := srtH_map (veil_b m) _
theorem after_veil (m : Int → Bool) (l : List Six) (h : Int) : after (l.map (veil m)) h = after l h := by
 unfold after
 rw [List.countP_map]
 congr 1
 funext x
 show decide ((veil m x).b ≤ h) = _
 rw [veil_b]
theorem cart_every (p : Pl) (known : Int) : lookL p known every = cartL p known := by
 rw [lookL_cart]
 have : veil every = id := by funext x; exact veil_every x
 rw [this, List.map_id]
theorem getD_map6 {f : Six → Six} {l : List Six} {i : Nat} (hi : i < l.length) : (l.map f).getD i z6 = f (l.getD i z6) := by
 rw [List.getD_eq_getElem?_getD, List.getElem?_map, List.getElem?_eq_getElem hi, List.getD_eq_getElem?_getD, List.getElem?_eq_getElem hi]; rfl
/-- True numbers by some loads and stands. -/
structure TruBy (p : Pl) (known : Int) (m : Int → Bool) (s : List Int) : Prop where
 len : s.length = (cartL p known).length + 1
 took : ∀ i, i < (cartL p known).length → (veil m ((cartL p known).getD i z6)).c ≤ s.getD i 0 - s.getD (i + 1) 0 ∧ s.getD i 0 - s.getD (i + 1) 0 ≤ (veil m ((cartL p known).getD i z6)).d
 bds : ∀ i, i ≤ (cartL p known).length → (if i = 0 then p.lo else 0) ≤ s.getD i 0 ∧ s.getD i 0 ≤ (if i = 0 then p.hi else 10000)
 stands : ∀ x ∈ p.stands, (cnt x known && m x.a) = true → x.c ≤ s.getD (after (cartL p known) x.b) 0 ∧ s.getD (after (cartL p known) x.b) 0 ≤ x.d
theorem truBy_iff {p : Pl} {known : Int} {m : Int → Bool} {s : List Int} : TruBy p known m s ↔ Tru (lookL p known m) (standsF known m (lookL p known m) p.stands (stood0 p (lookL p known m).length)) s := by
 rw [tru_stands (stood0_len p _)]
 have hlen : (lookL p known m).length = (cartL p known).length := by rw [lookL_cart, List.length_map]
 have hel : ∀ i, i < (cartL p known).length → (lookL p known m).getD i z6 = veil m ((cartL p known).getD i z6) := fun i hi => by rw [lookL_cart, getD_map6 hi]
 have haf : ∀ h, after (lookL p known m) h = after (cartL p known) h := fun h => by rw [lookL_cart, after_veil]
 constructor
 ·rintro ⟨h1, h2, h3, h4⟩
  refine ⟨⟨by rw [hlen]; exact h1, fun i hi => ?_, fun i hi => ?_⟩, fun x hx hc => ?_⟩
  ·unfold Ls Gr
   rw [hel i (by omega)]
   exact h2 i (by omega)
  ·rw [hlen] at hi
   obtain ⟨e1, e2⟩ := stood0_at p (lookL p known m).length (i := i) (by omega)
   rw [e1, e2]
   exact h3 i hi
  ·rw [haf]; exact h4 x hx hc
 ·rintro ⟨⟨h1, h2, h3⟩, h4⟩
  refine ⟨by rw [← hlen]; exact h1, fun i hi => ?_, fun i hi => ?_, fun x hx hc => ?_⟩
  ·have := h2 i (by omega)
   unfold Ls Gr at this
   rw [hel i hi] at this
   exact this
  ·obtain ⟨e1, e2⟩ := stood0_at p (lookL p known m).length (i := i) (by omega)
   have := h3 i (by omega)
   rw [e1, e2] at this
   exact this
  ·rw [← haf]; exact h4 x hx hc
theorem cart_num {p : Pl} (hok : okPl p = true) (known : Int) : ∀ x ∈ cartL p known, Num x := fun x hx => by rw [← cart_every] at hx; exact lookL_num hok known every x hx
theorem TruBy.bd {p : Pl} {known : Int} {m : Int → Bool} {s : List Int} (h : TruBy p known m s) (hok : okPl p = true) {i : Nat} (hi : i ≤ (cartL p known).length) : 0 ≤ s.getD i 0 ∧ s.getD i 0 ≤ 10000 := by
 have h1 := ok_parts hok
 have h2 := h.bds i hi
 by_cases h0 : i = 0
 ·rw [if_pos h0, if_pos h0] at h2; omega
 ·rw [if_neg h0, if_neg h0] at h2; exact h2
theorem veil_yes {m : Int → Bool} {x : Six} (h : m x.a = true) : veil m x = x := by unfold veil; rw [if_pos h]
theorem veil_no {m : Int → Bool} {x : Six} (h : m x.a = false) : (veil m x).c = 0 ∧ (veil m x).d = 10000 := by unfold veil; rw [if_neg (by rw [h]; decide)]; exact ⟨rfl, rfl⟩
theorem veil_wid {m : Int → Bool} {x : Six} (h : Num x) : 0 ≤ (veil m x).c ∧ (veil m x).c ≤ (veil m x).d := by
 have := veil_num (meant := m) h
 unfold Num at this
 exact ⟨this.2.2.1, this.2.2.2.1⟩
/-- Fewer of them contradict less. -/
theorem TruBy.less {p : Pl} {known : Int} {m m' : Int → Bool} {s : List Int} (h : TruBy p known m' s) (hok : okPl p = true) (hm : ∀ x, m x = true → m' x = true) : TruBy p known m s := by
 refine ⟨h.len, fun i hi => ?_, h.bds, fun x hx hc => ?_⟩
 ·have h1 := h.took i hi
  have h2 := h.bd hok (Nat.le_of_lt hi)
  have h3 := h.bd hok (show i + 1 ≤ _ from hi)
  obtain ⟨x, hx⟩ : ∃ x, (cartL p known).getD i z6 = x := ⟨_, rfl⟩
  have hn : Num x := by rw [← hx]; exact cart_num hok known _ (getD_mem hi)
  rw [hx] at h1 ⊢
  cases hc : m x.a with
  | true => rw [veil_yes hc]; rw [veil_yes (hm _ hc)] at h1; exact h1
  | false =>
   obtain ⟨e1, e2⟩ := veil_no (m := m) hc
   have := veil_wid (m := m') hn
   rw [e1, e2]
   omega
 ·rw [Bool.and_eq_true] at hc
  exact h.stands x hx (by rw [hc.1, hm _ hc.2]; rfl)
theorem mem_srt {l : List Int} {x : Int} : x ∈ srt l ↔ x ∈ l := by unfold srt; exact List.mem_mergeSort
theorem mem_srtH {y : Six} (l : List Six) : y ∈ srtH l ↔ y ∈ l := (srtH_perm l).mem_iff
theorem mem_cart {p : Pl} {known : Int} {x : Six} : x ∈ cartL p known ↔ x ∈ p.loads ∧ cnt x known = true := by
 unfold cartL
 rw [mem_srtH, List.mem_filter]
/-- Sources are those of one thing alone. -/
theorem nodup_take {ks : List Int} {l : List Six} (h : ∀ j, j < l.length → (l.getD j z6).a ∉ ks ++ srcs (l.take j)) (hk : ks.Nodup) : ∀ k, k ≤ l.length → (ks ++ srcs (l.take k)).Nodup
 | 0, _ => by simpa [srcs] using hk
 | k + 1, hl => by
  have ih := nodup_take h hk k (by omega)
  have hlt : k < l.length := by omega
  have e : srcs (l.take (k + 1)) = srcs (l.take k) ++ [(l.getD k z6).a] := by
   unfold srcs
   rw [List.take_succ_eq_append_getElem hlt, List.map_append, List.getD_eq_getElem?_getD, List.getElem?_eq_getElem hlt]; rfl
  rw [e, ← List.append_assoc, List.nodup_append]
  refine ⟨ih, by simp, fun a ha b hb hab => ?_⟩
  rw [List.mem_singleton] at hb
  subst hab hb
  exact h k hlt ha
theorem okL_nodup {is : Six → Bool} {ks : List Int} {l : List Six} (h : okL is ks l = true) (hk : ks.Nodup) : (ks ++ srcs l).Nodup := by
 have := nodup_take (ks := ks) (l := l) (fun j hj => by
  unfold okL at h
  rw [Bool.and_eq_true, List.all_eq_true] at h
  have h1 := h.1 j (List.mem_range.2 hj)
  unfold okAt at h1
  rw [Bool.and_eq_true, Bool.not_eq_true', ← Bool.not_eq_true, List.contains_iff_mem] at h1
  exact h1.2) hk l.length (Nat.le_refl _)
 rwa [List.take_length] at this
theorem ok_nodup {p : Pl} (h : okPl p = true) : (srcs p.loads ++ srcs p.stands ++ srcs p.spells).Nodup := by
 unfold okPl at h
 simp only [Bool.and_eq_true] at h
 obtain ⟨⟨⟨⟨h1, h2⟩, h3⟩, -⟩, -⟩ := h
 have n1 := okL_nodup h1 List.nodup_nil
 rw [List.nil_append] at n1
 exact okL_nodup h3 (okL_nodup h2 n1)
theorem srt_up (l : List Int) : (srt l).Pairwise (· ≤ ·) := by
 have := List.pairwise_mergeSort (le := fun x y : Int => decide (x ≤ y)) (fun a b c h1 h2 => by simp at *; omega) (fun a b => by simp; omega) l
 unfold srt
 exact this.imp fun h => of_decide_eq_true h
theorem src_one {p : Pl} (hok : okPl p = true) {x y : Six} (hx : x ∈ p.loads) (hy : y ∈ p.loads) (h : x.a = y.a) : x = y := by
 have h1 := (List.nodup_append.1 (List.nodup_append.1 (ok_nodup hok)).1).1
 obtain ⟨i, hi, rfl⟩ := List.getElem_of_mem hx
 obtain ⟨j, hj, rfl⟩ := List.getElem_of_mem hy
 have : i = j := by
  refine (List.getElem_inj (xs := srcs p.loads) (h₀ := by unfold srcs; rwa [List.length_map]) (h₁ := by unfold srcs; rwa [List.length_map]) h1).1 ?_
  unfold srcs
  rw [List.getElem_map, List.getElem_map]
  exact h
 subst this; rfl
theorem cart_nodup {p : Pl} (hok : okPl p = true) (known : Int) : (cartL p known).Nodup := by
 have h1 := (List.nodup_append.1 (List.nodup_append.1 (ok_nodup hok)).1).1
 have h2 : p.loads.Nodup := (List.pairwise_map.1 h1).imp fun h e => h (by rw [e])
 exact (srtH_perm _).nodup_iff.2 (h2.sublist List.filter_sublist)
end Go.Proofs.YtkoejeghihcmlaaGreat

namespace Go.Proofs.YtkoejeghihcmlaaGreat
open Go.RowKit Go.Shelf
/-- All sources, list by list. -/
def srcs3 (p : Pl) : List Int := srcs p.loads ++ srcs p.stands ++ srcs p.spells
theorem srcs_zero (l : List Int) (xs : List Six) : l ++ srcs (xs.take 0) = l := by unfold srcs; simp
theorem srcs_len (l : List Six) : (srcs l).length = l.length := List.length_map _
theorem srcs_snoc {l : List Six} {k : Nat} (hk : k < l.length) : srcs (l.take (k + 1)) = srcs (l.take k) ++ [(l.getD k z6).a] := srcs_take (getD_six hk)
set_option maxRecDepth 100000 in
set_option maxHeartbeats 4000000 in
theorem refSources_any (p : Pl) (A1 A2 A3 : Option Addr) (n1 c1 n2 c2 n3 c3 : Nat) (w : World) (hp : Pa w p A1 A2 A3 n1 c1 n2 c2 n3 c3) (hnb : n1 ≤ 1000 ∧ n2 ≤ 1000 ∧ n3 ≤ 1000) :
  Calls Tryz.prog 137 #[plv p A1 A2 A3 n1 c1 n2 c2 n3 c3] w fun e w' => (∃ v, e = .returned v ∧ OwnL icells 1 3 w' w.heap.size v (srcs3 p)) ∧ Below w.heap.size w w' := by
 obtain ⟨W0, hW0⟩ : ∃ W0, w.alloc (.cells (plb p A1 A2 A3 n1 c1 n2 c2 n3 c3) 38) = W0 := ⟨_, rfl⟩
 have g0 : Below w.heap.size w W0 := by rw [← hW0]; exact one_more _ _
 have b0 : Blk W0 w.heap.size 38 (plb p A1 A2 A3 n1 c1 n2 c2 n3 c3) := by rw [← hW0]; exact Blk.new _ _ _
 have HNB := Lib.hid hnb
 have HL1 := Lib.hid (hp.l1.below g0)
 have HL2 := Lib.hid (hp.l2.below g0)
 have HL3 := Lib.hid (hp.l3.below g0)
 have GA := Lib.hid g0
 have HB0 := Lib.hid b0
 have HW0 := Lib.hid hW0
 have HGZ := Lib.hid (Below.refl W0.heap.size W0)
 have OS0 := Lib.hid (OwnL.nil (f := icells) (size := 1) (e := 3) W0 W0.heap.size)
 clear hp g0 b0 hW0 hnb
 go_enter Tryz.func137, Tryz.ntmps137
 go_upto_region 1 with fail
 rw [HW0.out]
 go_wp2_with fail
 go_loopw [3, 4] (fun v i wr => ∃ (k : Nat) (u : Value), u = v ∧ i = .int .i64 k ∧ k ≤ n1 ∧ Below W0.heap.size W0 wr ∧ OwnL icells 1 3 wr W0.heap.size v (([] : List Int) ++ srcs (p.loads.take k))) (fun _ i _ => n1 - (intOf i).toNat)
 case atStart => exact ⟨0, _, rfl, rfl, Nat.zero_le _, HGZ.out, by rw [srcs_zero]; exact OS0.out⟩
 case round =>
  obtain ⟨k, u, rfl, rfl, hk, hg, hown⟩ := hrel
  have HG := Lib.hid hg
  have HO := Lib.hid hown
  have q1 := (HB0.out.ext hg).cell 2
  by_cases hkn : k < n1
  ·obtain ⟨b0, o0, e0, -, -, hc⟩ := six_at (HL1.out.below hg) hkn
   obtain ⟨x0, x1, x2, x3, x4, x5⟩ := hc _ (Below.refl _ _)
   have HN := Lib.hid (srcs_snoc (l := p.loads) (k := k) (by rw [HL1.out.1]; exact hkn))
   obtain ⟨x, hxg⟩ : ∃ x, p.loads.getD k z6 = x := ⟨_, rfl⟩
   rw [hxg] at x0 x1 x2 x3 x4 x5 HN
   subst e0
   have hki : (k : Int) < (n1 : Int) := by omega
   have HLEN := Lib.hid (show (([] : List Int) ++ srcs (p.loads.take k)).length + 1 ≤ 1000000 by
    have hb := HNB.out
    have h1 := HL1.out.1
    have e1 := HL1.out.1
    have e2 := HL2.out.1
    have e3 := HL3.out.1
    simp only [List.length_append, srcs_len, List.length_take, List.length_nil]
    omega)
   have OX := Lib.hid (HO.out.ext (one_more wr (.cells #[.int .i64 x.a] 3)))
   have IX := Lib.hid (one_int (Blk.new wr 3 #[.int .i64 x.a]))
   have hws := HG.out.size
   have hk9 : k < 1000 := by have := HNB.out; omega
   clear hc hxg hg hown
   go_wp2_with (at_builtin; go_loud (refine wpList_app kdI (by rfl) _ _ (by rfl) W0.heap.size _ (([] : List Int) ++ srcs (p.loads.take k)) (by rfl) OX.out _ 1 1 [x.a] (by rfl) IX.out HLEN.out (by simp; omega) ?_); intro v' w' ho hbw hz; have HO2 := Lib.hid ho; have HB2 := Lib.hid ((OX.out).below hbw (B := W0.heap.size) (Nat.le_refl _) (by simp; omega)); clear ho hbw hz)
   go_roundw
   case rel => exact ⟨k + 1, _, rfl, by go_num, by omega, (HG.out.trans ((one_more wr _).mono HG.out.size)).trans HB2.out, by rw [HN.out, ← List.append_assoc]; exact HO2.out⟩
   case measure => simp [intOf]; omega
  ·obtain rfl : n1 = k := by omega
   have HEND1 := Lib.hid (show OwnL icells 1 3 wr W0.heap.size u (([] : List Int) ++ srcs p.loads) by have := HO.out; rwa [List.take_of_length_le (by rw [HL1.out.1]; exact Nat.le_refl _)] at this)
   have HGE1 := Lib.hid (show Below W0.heap.size W0 wr from HG.out)
   clear HG HO hg hown
   obtain ⟨V1, hV1⟩ : ∃ V, wr = V := ⟨_, rfl⟩
   obtain ⟨v1, hv1⟩ : ∃ v1, u = v1 := ⟨_, rfl⟩
   rw [hV1] at HEND1 HGE1 q1 ⊢
   rw [hv1] at HEND1 ⊢
   clear hV1 hv1 hkn hk
   go_wp2_with fail
   go_loopw [3, 5] (fun v i wr => ∃ (k : Nat) (u : Value), u = v ∧ i = .int .i64 k ∧ k ≤ n2 ∧ Below W0.heap.size W0 wr ∧ OwnL icells 1 3 wr W0.heap.size v (([] ++ srcs p.loads) ++ srcs (p.stands.take k))) (fun _ i _ => n2 - (intOf i).toNat)
   case atStart => exact ⟨0, _, rfl, rfl, Nat.zero_le _, HGE1.out, by rw [srcs_zero]; exact HEND1.out⟩
   case round =>
    obtain ⟨k, u, rfl, rfl, hk, hg, hown⟩ := hrel
    have HG := Lib.hid hg
    have HO := Lib.hid hown
    have q1 := (HB0.out.ext hg).cell 3
    by_cases hkn : k < n2
    ·obtain ⟨b0, o0, e0, -, -, hc⟩ := six_at (HL2.out.below hg) hkn
     obtain ⟨x0, x1, x2, x3, x4, x5⟩ := hc _ (Below.refl _ _)
     have HN := Lib.hid (srcs_snoc (l := p.stands) (k := k) (by rw [HL2.out.1]; exact hkn))
     obtain ⟨x, hxg⟩ : ∃ x, p.stands.getD k z6 = x := ⟨_, rfl⟩
     rw [hxg] at x0 x1 x2 x3 x4 x5 HN
     subst e0
     have hki : (k : Int) < (n2 : Int) := by omega
     have HLEN := Lib.hid (show (([] ++ srcs p.loads) ++ srcs (p.stands.take k)).length + 1 ≤ 1000000 by
      have hb := HNB.out
      have h1 := HL2.out.1
      have e1 := HL1.out.1
      have e2 := HL2.out.1
      have e3 := HL3.out.1
      simp only [List.length_append, srcs_len, List.length_take, List.length_nil]
      omega)
     have OX := Lib.hid (HO.out.ext (one_more wr (.cells #[.int .i64 x.a] 3)))
     have IX := Lib.hid (one_int (Blk.new wr 3 #[.int .i64 x.a]))
     have hws := HG.out.size
     have hk9 : k < 1000 := by have := HNB.out; omega
     clear hc hxg hg hown
     go_wp2_with (at_builtin; go_loud (refine wpList_app kdI (by rfl) _ _ (by rfl) W0.heap.size _ (([] ++ srcs p.loads) ++ srcs (p.stands.take k)) (by rfl) OX.out _ 1 1 [x.a] (by rfl) IX.out HLEN.out (by simp; omega) ?_); intro v' w' ho hbw hz; have HO2 := Lib.hid ho; have HB2 := Lib.hid ((OX.out).below hbw (B := W0.heap.size) (Nat.le_refl _) (by simp; omega)); clear ho hbw hz)
     go_roundw
     case rel => exact ⟨k + 1, _, rfl, by go_num, by omega, (HG.out.trans ((one_more wr _).mono HG.out.size)).trans HB2.out, by rw [HN.out, ← List.append_assoc]; exact HO2.out⟩
     case measure => simp [intOf]; omega
    ·obtain rfl : n2 = k := by omega
     have HEND2 := Lib.hid (show OwnL icells 1 3 wr W0.heap.size u (([] ++ srcs p.loads) ++ srcs p.stands) by have := HO.out; rwa [List.take_of_length_le (by rw [HL2.out.1]; exact Nat.le_refl _)] at this)
     have HGE2 := Lib.hid (show Below W0.heap.size W0 wr from HG.out)
     clear HG HO hg hown
     obtain ⟨V2, hV2⟩ : ∃ V, wr = V := ⟨_, rfl⟩
     obtain ⟨v2, hv2⟩ : ∃ v1, u = v1 := ⟨_, rfl⟩
     rw [hV2] at HEND2 HGE2 q1 ⊢
     rw [hv2] at HEND2 ⊢
     clear hV2 hv2 hkn hk
     go_wp2_with fail
     go_loopw [3, 6] (fun v i wr => ∃ (k : Nat) (u : Value), u = v ∧ i = .int .i64 k ∧ k ≤ n3 ∧ Below W0.heap.size W0 wr ∧ OwnL icells 1 3 wr W0.heap.size v (([] ++ srcs p.loads ++ srcs p.stands) ++ srcs (p.spells.take k))) (fun _ i _ => n3 - (intOf i).toNat)
     case atStart => exact ⟨0, _, rfl, rfl, Nat.zero_le _, HGE2.out, by rw [srcs_zero]; exact HEND2.out⟩
     case round =>
      obtain ⟨k, u, rfl, rfl, hk, hg, hown⟩ := hrel
      have HG := Lib.hid hg
      have HO := Lib.hid hown
      have q1 := (HB0.out.ext hg).cell 4
      by_cases hkn : k < n3
      ·obtain ⟨b0, o0, e0, -, -, hc⟩ := six_at (HL3.out.below hg) hkn
       obtain ⟨x0, x1, x2, x3, x4, x5⟩ := hc _ (Below.refl _ _)
       have HN := Lib.hid (srcs_snoc (l := p.spells) (k := k) (by rw [HL3.out.1]; exact hkn))
       obtain ⟨x, hxg⟩ : ∃ x, p.spells.getD k z6 = x := ⟨_, rfl⟩
       rw [hxg] at x0 x1 x2 x3 x4 x5 HN
       subst e0
       have hki : (k : Int) < (n3 : Int) := by omega
       have HLEN := Lib.hid (show (([] ++ srcs p.loads ++ srcs p.stands) ++ srcs (p.spells.take k)).length + 1 ≤ 1000000 by
        have hb := HNB.out
        have h1 := HL3.out.1
        have e1 := HL1.out.1
        have e2 := HL2.out.1
        have e3 := HL3.out.1
        simp only [List.length_append, srcs_len, List.length_take, List.length_nil]
        omega)
       have OX := Lib.hid (HO.out.ext (one_more wr (.cells #[.int .i64 x.a] 3)))
       have IX := Lib.hid (one_int (Blk.new wr 3 #[.int .i64 x.a]))
       have hws := HG.out.size
       have hk9 : k < 1000 := by have := HNB.out; omega
       clear hc hxg hg hown
       go_wp2_with (at_builtin; go_loud (refine wpList_app kdI (by rfl) _ _ (by rfl) W0.heap.size _ (([] ++ srcs p.loads ++ srcs p.stands) ++ srcs (p.spells.take k)) (by rfl) OX.out _ 1 1 [x.a] (by rfl) IX.out HLEN.out (by simp; omega) ?_); intro v' w' ho hbw hz; have HO2 := Lib.hid ho; have HB2 := Lib.hid ((OX.out).below hbw (B := W0.heap.size) (Nat.le_refl _) (by simp; omega)); clear ho hbw hz)
       go_roundw
       case rel => exact ⟨k + 1, _, rfl, by go_num, by omega, (HG.out.trans ((one_more wr _).mono HG.out.size)).trans HB2.out, by rw [HN.out, ← List.append_assoc]; exact HO2.out⟩
       case measure => simp [intOf]; omega
      ·obtain rfl : n3 = k := by omega
       have HEND3 := Lib.hid (show OwnL icells 1 3 wr W0.heap.size u (([] ++ srcs p.loads ++ srcs p.stands) ++ srcs p.spells) by have := HO.out; rwa [List.take_of_length_le (by rw [HL3.out.1]; exact Nat.le_refl _)] at this)
       have HGE3 := Lib.hid (show Below W0.heap.size W0 wr from HG.out)
       clear HG HO hg hown
       obtain ⟨V3, hV3⟩ : ∃ V, wr = V := ⟨_, rfl⟩
       obtain ⟨v3, hv3⟩ : ∃ v1, u = v1 := ⟨_, rfl⟩
       rw [hV3] at HEND3 HGE3 q1 ⊢
       rw [hv3] at HEND3 ⊢
       clear hV3 hv3 hkn hk
       go_wp2_with fail
       go_ret
       refine ⟨⟨_, rfl, ?_⟩, GA.out.trans (HGE3.out.mono GA.out.size)⟩
       have := HEND3.out
       rw [List.nil_append] at this
       exact this.mono GA.out.size
end Go.Proofs.YtkoejeghihcmlaaGreat

namespace Go.Proofs.YtkoejeghihcmlaaGreat
open Go.RowKit Go.Shelf
def okR (is : Six → Bool) (l : List Six) (j : Nat) : Bool := is (l.getD j z6) && (decide (j = 0) || decide ((l.getD (j - 1) z6).a < (l.getD j z6).a))
/-- No number twice. -/
def Once (l : List Int) : Prop := ∀ j, j < l.length → l.getD j 0 ∉ l.take j
theorem getD_src {l : List Six} {j : Nat} (h : j < l.length) : (srcs l).getD j 0 = (l.getD j z6).a := by
 unfold srcs
 rw [List.getD_eq_getElem?_getD, List.getD_eq_getElem?_getD, List.getElem?_map, List.getElem?_eq_getElem h]; rfl
theorem take_src (l : List Six) (j : Nat) : srcs (l.take j) = (srcs l).take j := by unfold srcs; rw [List.map_take]
theorem once_app {a b : List Int} : Once (a ++ b) ↔ Once a ∧ ∀ j, j < b.length → b.getD j 0 ∉ a ++ b.take j := by
 unfold Once
 constructor
 ·intro h
  refine ⟨fun j hj => ?_, fun j hj => ?_⟩
  ·have := h j (by rw [List.length_append]; omega)
   rw [List.take_append_of_le_length (by omega), List.getD_eq_getElem?_getD, List.getElem?_append_left hj, ← List.getD_eq_getElem?_getD] at this
   exact this
  ·have := h (a.length + j) (by rw [List.length_append]; omega)
   rw [List.take_append, List.take_of_length_le (by omega), show a.length + j - a.length = j by omega, List.getD_eq_getElem?_getD, List.getElem?_append_right (by omega), show a.length + j - a.length = j by omega, ← List.getD_eq_getElem?_getD] at this
   exact this
 ·rintro ⟨h1, h2⟩ j hj
  rw [List.length_append] at hj
  by_cases hc : j < a.length
  ·rw [List.take_append_of_le_length (by omega), List.getD_eq_getElem?_getD, List.getElem?_append_left hc, ← List.getD_eq_getElem?_getD]
   exact h1 j hc
  ·have := h2 (j - a.length) (by omega)
   rw [List.take_append, List.take_of_length_le (by omega), List.getD_eq_getElem?_getD, List.getElem?_append_right (by omega), ← List.getD_eq_getElem?_getD]
   exact this
theorem okL_parts {is : Six → Bool} {ks : List Int} {l : List Six} : okL is ks l = true ↔ l.length ≤ 60 ∧ (∀ j, j < l.length → okR is l j = true) ∧ ∀ j, j < (srcs l).length → (srcs l).getD j 0 ∉ ks ++ (srcs l).take j := by
 unfold okL
 rw [Bool.and_eq_true, List.all_eq_true, decide_eq_true_eq]
 have e : ∀ j, j < l.length → (okAt is ks l j = true ↔ okR is l j = true ∧ (srcs l).getD j 0 ∉ ks ++ (srcs l).take j) := fun j hj => by
  unfold okAt okR
  rw [Bool.and_eq_true, Bool.not_eq_true', getD_src hj, take_src, ← Bool.not_eq_true, List.contains_iff_mem]
 constructor
 ·rintro ⟨h1, h2⟩
  refine ⟨h2, fun j hj => ((e j hj).1 (h1 j (List.mem_range.2 hj))).1, fun j hj => ?_⟩
  rw [srcs_len] at hj
  exact ((e j hj).1 (h1 j (List.mem_range.2 hj))).2
 ·rintro ⟨h2, h1, h3⟩
  exact ⟨fun j hj => (e j (List.mem_range.1 hj)).2 ⟨h1 j (List.mem_range.1 hj), h3 j (by rw [srcs_len]; exact List.mem_range.1 hj)⟩, h2⟩
theorem okPl_ref {p : Pl} : okPl p = true ↔ (okSh p.lo p.hi = true ∧ rng p.geese 0 60 = true ∧ p.loads.length ≤ 60 ∧ p.stands.length ≤ 60 ∧ p.spells.length ≤ 60) ∧ (∀ j, j < p.loads.length → okR isLoad p.loads j = true) ∧ (∀ j, j < p.stands.length → okR isLoad p.stands j = true) ∧ (∀ j, j < p.spells.length → okR isSpell p.spells j = true) ∧ Once (srcs3 p) := by
 unfold okPl srcs3
 rw [Bool.and_eq_true, Bool.and_eq_true, Bool.and_eq_true, Bool.and_eq_true, okL_parts, okL_parts, okL_parts, once_app, once_app]
 constructor
 ·rintro ⟨⟨⟨⟨⟨a1, a2, a3⟩, b1, b2, b3⟩, c1, c2, c3⟩, d⟩, e⟩
  exact ⟨⟨d, e, a1, b1, c1⟩, a2, b2, c2, ⟨fun j hj => by have := a3 j hj; rwa [List.nil_append] at this, b3⟩, c3⟩
 ·rintro ⟨⟨d, e, a1, b1, c1⟩, a2, b2, c2, ⟨a3, b3⟩, c3⟩
  exact ⟨⟨⟨⟨⟨a1, a2, fun j hj => by rw [List.nil_append]; exact a3 j hj⟩, b1, b2, b3⟩, c1, c2, c3⟩, d⟩, e⟩
theorem okPl_no {p : Pl} (h : ¬ okPl p = true) : okPl p = false := by rwa [Bool.not_eq_true] at h
set_option maxRecDepth 100000 in
set_option maxHeartbeats 16000000 in
theorem refCheck_any (p : Pl) (A1 A2 A3 : Option Addr) (n1 c1 n2 c2 n3 c3 : Nat) (w : World) (hp : Pa w p A1 A2 A3 n1 c1 n2 c2 n3 c3) :
  Calls Tryz.prog 66 #[plv p A1 A2 A3 n1 c1 n2 c2 n3 c3] w fun e w' => e = .returned (.int .i64 (err (okPl p) 13)) ∧ Below w.heap.size w w' := by
 obtain ⟨W0, hW0⟩ : ∃ W0, w.alloc (.cells (plb p A1 A2 A3 n1 c1 n2 c2 n3 c3) 38) = W0 := ⟨_, rfl⟩
 have g0 : Below w.heap.size w W0 := by rw [← hW0]; exact one_more _ _
 have b0 : Blk W0 w.heap.size 38 (plb p A1 A2 A3 n1 c1 n2 c2 n3 c3) := by rw [← hW0]; exact Blk.new _ _ _
 have HL1 := Lib.hid (hp.l1.below g0)
 have HL2 := Lib.hid (hp.l2.below g0)
 have HL3 := Lib.hid (hp.l3.below g0)
 have HPA := Lib.hid (hp.below g0)
 have GA := Lib.hid g0
 have HB0 := Lib.hid b0
 have HW0 := Lib.hid hW0
 have r0 := b0.cell 0
 have r1 := b0.cell 1
 have r2 := b0.cell 2
 have r3 := b0.cell 3
 have r4 := b0.cell 4
 have r5 := b0.cell 5
 have TS := refSheaves_any p.lo p.hi W0
 have TG := fun V => in_any p.geese 0 60 V
 obtain ⟨s1, hs1⟩ : ∃ b, okSh p.lo p.hi = b := ⟨_, rfl⟩
 obtain ⟨s2, hs2⟩ : ∃ b, rng p.geese 0 60 = b := ⟨_, rfl⟩
 rw [hs1] at TS
 rw [hs2] at TG
 have HTS := Lib.hid TS
 have HTG := Lib.hid TG
 have hno : ∀ (V : World), Below W0.heap.size W0 V → ¬ (s1 = true ∧ s2 = true ∧ n1 ≤ 60 ∧ n2 ≤ 60 ∧ n3 ≤ 60) → Ending.returned (.int .i64 13) = .returned (.int .i64 (err (okPl p) 13)) ∧ Below w.heap.size w V := fun V g h => by
  have e : okPl p = false := okPl_no (fun h2 => h (by have := (okPl_ref.1 h2).1; rw [hs1, hs2, HL1.out.1, HL2.out.1, HL3.out.1] at this; exact this))
  rw [e]
  exact ⟨rfl, GA.out.trans (g.mono GA.out.size)⟩
 have HNO := Lib.hid hno
 have hyes : (s1 = true ∧ s2 = true ∧ n1 ≤ 60 ∧ n2 ≤ 60 ∧ n3 ≤ 60) → (okSh p.lo p.hi = true ∧ rng p.geese 0 60 = true ∧ p.loads.length ≤ 60 ∧ p.stands.length ≤ 60 ∧ p.spells.length ≤ 60) := fun h => by
  rw [hs1, hs2, HL1.out.1, HL2.out.1, HL3.out.1]; exact h
 have HYES := Lib.hid hyes
 clear TS TG hno hyes hs1 hs2 hp g0 b0 hW0
 go_enter Tryz.func66, Tryz.ntmps66
 go_upto_region 1 with fail
 rw [HW0.out]
 cases s1 with
 | false =>
  go_wp2_with (first
   | (go_at_call 146; (with_reducible refine (HTS.out).mono ?_); rintro e V ⟨rfl, hg⟩; have HG1 := Lib.hid hg; have m2 := (HB0.out.ext hg).cell 2; have m3 := (HB0.out.ext hg).cell 3; have m4 := (HB0.out.ext hg).cell 4; have m5 := (HB0.out.ext hg).cell 5; clear hg)
   | (go_at_call 131; (with_reducible refine (HTG.out _).mono ?_); rintro e w' ⟨rfl, rfl⟩))
  go_ret
  exact HNO.out _ HG1.out (by simp; try omega)
 | true =>
  cases s2 with
  | false =>
   go_wp2_with (first
    | (go_at_call 146; (with_reducible refine (HTS.out).mono ?_); rintro e V ⟨rfl, hg⟩; have HG1 := Lib.hid hg; have m2 := (HB0.out.ext hg).cell 2; have m3 := (HB0.out.ext hg).cell 3; have m4 := (HB0.out.ext hg).cell 4; have m5 := (HB0.out.ext hg).cell 5; clear hg)
    | (go_at_call 131; (with_reducible refine (HTG.out _).mono ?_); rintro e w' ⟨rfl, rfl⟩))
   go_ret
   exact HNO.out _ HG1.out (by simp; try omega)
  | true =>
   by_cases k1 : n1 ≤ 60
   ·have k1z : decide ((60 : Int) < (n1 : Int)) = false := decide_eq_false (by omega)
    by_cases k2 : n2 ≤ 60
    ·have k2z : decide ((60 : Int) < (n2 : Int)) = false := decide_eq_false (by omega)
     by_cases k3 : n3 ≤ 60
     ·have k3z : decide ((60 : Int) < (n3 : Int)) = false := decide_eq_false (by omega)
      have HNB := Lib.hid (show n1 ≤ 60 ∧ n2 ≤ 60 ∧ n3 ≤ 60 from ⟨k1, k2, k3⟩)
      have HALL := Lib.hid (HYES.out ⟨rfl, rfl, k1, k2, k3⟩)
      go_upto_region 4 with (first
       | (go_at_call 146; (with_reducible refine (HTS.out).mono ?_); rintro e V ⟨rfl, hg⟩; have HG1 := Lib.hid hg; have m2 := (HB0.out.ext hg).cell 2; have m3 := (HB0.out.ext hg).cell 3; have m4 := (HB0.out.ext hg).cell 4; have m5 := (HB0.out.ext hg).cell 5; clear hg)
       | (go_at_call 131; (with_reducible refine (HTG.out _).mono ?_); rintro e w' ⟨rfl, rfl⟩))
      clear m2 m3 m4 m5 r0 r1 r2 r3 r4 r5 HNO HYES
      go_loopw [3] (fun i wr => ∃ k : Nat, k ≤ n1 ∧ i = .int .i64 k ∧ Below W0.heap.size W0 wr ∧ ∀ j, j < k → okR isLoad p.loads j = true) (fun i _ => n1 - (intOf i).toNat)
      case atStart => exact ⟨0, Nat.zero_le _, rfl, HG1.out, fun j hj => absurd hj (by omega)⟩
      case round =>
       obtain ⟨k, hk, rfl, hg, hok⟩ := hrel
       have HG := Lib.hid hg
       have HOK := Lib.hid hok
       have q1 := cellW ((HB0.out.ext hg).cell 2)
       have q2 := (HB0.out.ext hg).cell 2
       clear hok
       by_cases hkn : k < n1
       ·obtain ⟨b0, o0, e0, -, -, hc⟩ := six_at (HL1.out.below hg) hkn
        obtain ⟨x, hxg⟩ : ∃ x, p.loads.getD k z6 = x := ⟨_, rfl⟩
        rw [hxg] at hc
        obtain ⟨x0, x1, x2, x3, x4, x5⟩ := hc wr (Below.refl _ _)
        have u0 := cellW x0
        have u1 := cellW x1
        have u2 := cellW x2
        have u3 := cellW x3
        have u4 := cellW x4
        have u5 := cellW x5
        have HXG := Lib.hid hxg
        have hkl : k < p.loads.length := by rw [HL1.out.1]; exact hkn
        obtain ⟨y, hy⟩ : ∃ y, p.loads.getD (k - 1) z6 = y := ⟨_, rfl⟩
        have HY := Lib.hid (fun (h0 : 0 < k) (z : Wd wr) => (show z.val.cell? ⟨b0, o0 + (k - 1) * 6, none⟩ = some (.int .i64 y.a) from by
         obtain ⟨b2, o2, e2, -, -, hc2⟩ := six_at (HL1.out.below hg) (show k - 1 < n1 by omega)
         rw [e0] at e2
         cases e2
         rw [hy] at hc2
         exact (hc2 z.val z.ok).1))
        subst e0
        have hki : (k : Int) < (n1 : Int) := by omega
        have hk9 : k < 1000 := by have := HNB.out; omega
        clear hc hxg x0 x1 x2 x3 x4 x5 hg
        obtain ⟨iv, hiv⟩ : ∃ iv, isLoad x = iv := ⟨_, rfl⟩
        have TCK := fun W => refLoad_any x W
        rw [hiv] at TCK
        cases iv with
        | false =>
         rw [show err false 10 = 10 from rfl] at TCK
         have HCK := Lib.hid TCK
         have HNO := Lib.hid (okPl_no (p := p) (fun h => by have h2 := (okPl_ref.1 h).2.1 k hkl; unfold okR at h2; rw [HXG.out, hiv] at h2; cases h2))
         clear TCK hiv hy
         go_wp2_with fail
         refine wp_region_calm wr (by kernel_rfl) (by kernel_rfl) (Below.refl _ _) ?_
         repeat (go_big_quiet_step ((go_at_call 68; exact callsCalm (HCK.out _))))
         refine wpQuiet_nil ?_
         rintro _ ⟨z, rfl⟩
         have GZ := Lib.hid (GA.out.trans ((HG.out.trans (z.ok.mono HG.out.size)).mono GA.out.size))
         go_wp2_with fail
         go_ret
         exact ⟨by rw [HNO.out]; rfl, GZ.out⟩
        | true =>
         rw [show err true 10 = 0 from rfl] at TCK
         have HCK := Lib.hid TCK
         by_cases hk0 : k = 0
         ·have e1 : decide ((0 : Int) < (k : Int)) = false := decide_eq_false (by omega)
          have e1' : ¬ (0 : Int) < (k : Int) := by omega
          have e2 : decide (0 < k) = false := decide_eq_false (by omega)
          have HAT := Lib.hid (show okR isLoad p.loads k = true by unfold okR; rw [HXG.out, hiv, decide_eq_true hk0]; rfl)
          clear hk0
          clear TCK hiv hy
          go_wp2_with fail
          refine wp_region_calm wr (by kernel_rfl) (by kernel_rfl) (Below.refl _ _) ?_
          repeat (go_big_quiet_step ((go_at_call 68; exact callsCalm (HCK.out _))))
          refine wpQuiet_nil ?_
          rintro _ ⟨z, rfl⟩
          have GZ := Lib.hid (HG.out.trans (z.ok.mono HG.out.size))
          go_wp2_with fail
          go_roundw
          case rel => exact ⟨k + 1, by omega, by go_num, GZ.out, fun j hj => by
           by_cases e : j = k
           ·subst e; exact HAT.out
           ·exact HOK.out j (by omega)⟩
          case measure => simp [intOf]; omega
         ·obtain ⟨k', rfl⟩ : ∃ k', k = k' + 1 := ⟨k - 1, by omega⟩
          have e1 : decide ((0 : Int) < ((k' + 1 : Nat) : Int)) = true := decide_eq_true (by omega)
          have e2 : decide (0 < k' + 1) = true := decide_eq_true (by omega)
          have y0 := HY.out (by omega)
          have hk1 : (k' : Int) < (n1 : Int) := by omega
          have hk2 : IntKind.i64.wrap (((k' + 1 : Nat) : Int) - 1) = (k' : Int) := by rw [IntKind.wrap_i64]; have := HNB.out; omega
          have hk3 : (((k' + 1 : Nat) : Int) - 1) = (k' : Int) := by omega
          rw [Nat.add_sub_cancel] at y0 hy
          by_cases hr : y.a < x.a
          ·have e3 : decide (x.a ≤ y.a) = false := decide_eq_false (by omega)
           have HAT := Lib.hid (show okR isLoad p.loads (k' + 1) = true by unfold okR; rw [HXG.out, hiv, Nat.add_sub_cancel, hy, decide_eq_true hr]; simp)
           clear hk0 hr HY
           clear TCK hiv hy
           go_wp2_with fail
           refine wp_region_calm wr (by kernel_rfl) (by kernel_rfl) (Below.refl _ _) ?_
           repeat (go_big_quiet_step ((go_at_call 68; exact callsCalm (HCK.out _))))
           refine wpQuiet_nil ?_
           rintro _ ⟨z, rfl⟩
           have GZ := Lib.hid (HG.out.trans (z.ok.mono HG.out.size))
           go_wp2_with fail
           go_roundw
           case rel => exact ⟨k' + 1 + 1, by omega, by go_num, GZ.out, fun j hj => by
            by_cases e : j = k' + 1
            ·subst e; exact HAT.out
            ·exact HOK.out j (by omega)⟩
           case measure => simp [intOf]; omega
          ·have e3 : decide (x.a ≤ y.a) = true := decide_eq_true (by omega)
           have hr2 := decide_eq_false hr
           clear hk0 HY
           have HNO := Lib.hid (okPl_no (p := p) (fun h => by have h2 := (okPl_ref.1 h).2.1 (k' + 1) hkl; unfold okR at h2; rw [HXG.out, hiv, Nat.add_sub_cancel, hy, hr2] at h2; simp at h2))
           clear TCK hiv hy
           go_wp2_with fail
           refine wp_region_calm wr (by kernel_rfl) (by kernel_rfl) (Below.refl _ _) ?_
           repeat (go_big_quiet_step ((go_at_call 68; exact callsCalm (HCK.out _))))
           refine wpQuiet_nil ?_
           rintro _ ⟨z, rfl⟩
           have GZ := Lib.hid (GA.out.trans ((HG.out.trans (z.ok.mono HG.out.size)).mono GA.out.size))
           go_wp2_with fail
           go_ret
           exact ⟨by rw [HNO.out]; rfl, GZ.out⟩
       ·obtain rfl : n1 = k := by omega
        have HEND1 := Lib.hid (show ∀ j, j < p.loads.length → okR isLoad p.loads j = true by rw [HL1.out.1]; exact HOK.out)
        have HGE1 := Lib.hid (show Below W0.heap.size W0 wr from HG.out)
        clear HG HOK hg q1
        obtain ⟨V1, hV1⟩ : ∃ V, wr = V := ⟨_, rfl⟩
        rw [hV1] at HGE1 q2 ⊢
        clear hV1 hkn hk
        go_wp2_with fail
        clear q2
        go_loopw [4] (fun i wr => ∃ k : Nat, k ≤ n2 ∧ i = .int .i64 k ∧ Below W0.heap.size W0 wr ∧ ∀ j, j < k → okR isLoad p.stands j = true) (fun i _ => n2 - (intOf i).toNat)
        case atStart => exact ⟨0, Nat.zero_le _, rfl, HGE1.out, fun j hj => absurd hj (by omega)⟩
        case round =>
         obtain ⟨k, hk, rfl, hg, hok⟩ := hrel
         have HG := Lib.hid hg
         have HOK := Lib.hid hok
         have q1 := cellW ((HB0.out.ext hg).cell 3)
         have q2 := (HB0.out.ext hg).cell 3
         clear hok
         by_cases hkn : k < n2
         ·obtain ⟨b0, o0, e0, -, -, hc⟩ := six_at (HL2.out.below hg) hkn
          obtain ⟨x, hxg⟩ : ∃ x, p.stands.getD k z6 = x := ⟨_, rfl⟩
          rw [hxg] at hc
          obtain ⟨x0, x1, x2, x3, x4, x5⟩ := hc wr (Below.refl _ _)
          have u0 := cellW x0
          have u1 := cellW x1
          have u2 := cellW x2
          have u3 := cellW x3
          have u4 := cellW x4
          have u5 := cellW x5
          have HXG := Lib.hid hxg
          have hkl : k < p.stands.length := by rw [HL2.out.1]; exact hkn
          obtain ⟨y, hy⟩ : ∃ y, p.stands.getD (k - 1) z6 = y := ⟨_, rfl⟩
          have HY := Lib.hid (fun (h0 : 0 < k) (z : Wd wr) => (show z.val.cell? ⟨b0, o0 + (k - 1) * 6, none⟩ = some (.int .i64 y.a) from by
           obtain ⟨b2, o2, e2, -, -, hc2⟩ := six_at (HL2.out.below hg) (show k - 1 < n2 by omega)
           rw [e0] at e2
           cases e2
           rw [hy] at hc2
           exact (hc2 z.val z.ok).1))
          subst e0
          have hki : (k : Int) < (n2 : Int) := by omega
          have hk9 : k < 1000 := by have := HNB.out; omega
          clear hc hxg x0 x1 x2 x3 x4 x5 hg
          obtain ⟨iv, hiv⟩ : ∃ iv, isLoad x = iv := ⟨_, rfl⟩
          have TCK := fun W => refStand_any x W
          rw [hiv] at TCK
          cases iv with
          | false =>
           rw [show err false 11 = 11 from rfl] at TCK
           have HCK := Lib.hid TCK
           have HNO := Lib.hid (okPl_no (p := p) (fun h => by have h2 := (okPl_ref.1 h).2.2.1 k hkl; unfold okR at h2; rw [HXG.out, hiv] at h2; cases h2))
           clear TCK hiv hy
           go_wp2_with fail
           refine wp_region_calm wr (by kernel_rfl) (by kernel_rfl) (Below.refl _ _) ?_
           repeat (go_big_quiet_step ((go_at_call 70; exact callsCalm (HCK.out _))))
           refine wpQuiet_nil ?_
           rintro _ ⟨z, rfl⟩
           have GZ := Lib.hid (GA.out.trans ((HG.out.trans (z.ok.mono HG.out.size)).mono GA.out.size))
           go_wp2_with fail
           go_ret
           exact ⟨by rw [HNO.out]; rfl, GZ.out⟩
          | true =>
           rw [show err true 11 = 0 from rfl] at TCK
           have HCK := Lib.hid TCK
           by_cases hk0 : k = 0
           ·have e1 : decide ((0 : Int) < (k : Int)) = false := decide_eq_false (by omega)
            have e1' : ¬ (0 : Int) < (k : Int) := by omega
            have e2 : decide (0 < k) = false := decide_eq_false (by omega)
            have HAT := Lib.hid (show okR isLoad p.stands k = true by unfold okR; rw [HXG.out, hiv, decide_eq_true hk0]; rfl)
            clear hk0
            clear TCK hiv hy
            go_wp2_with fail
            refine wp_region_calm wr (by kernel_rfl) (by kernel_rfl) (Below.refl _ _) ?_
            repeat (go_big_quiet_step ((go_at_call 70; exact callsCalm (HCK.out _))))
            refine wpQuiet_nil ?_
            rintro _ ⟨z, rfl⟩
            have GZ := Lib.hid (HG.out.trans (z.ok.mono HG.out.size))
            go_wp2_with fail
            go_roundw
            case rel => exact ⟨k + 1, by omega, by go_num, GZ.out, fun j hj => by
             by_cases e : j = k
             ·subst e; exact HAT.out
             ·exact HOK.out j (by omega)⟩
            case measure => simp [intOf]; omega
           ·obtain ⟨k', rfl⟩ : ∃ k', k = k' + 1 := ⟨k - 1, by omega⟩
            have e1 : decide ((0 : Int) < ((k' + 1 : Nat) : Int)) = true := decide_eq_true (by omega)
            have e2 : decide (0 < k' + 1) = true := decide_eq_true (by omega)
            have y0 := HY.out (by omega)
            have hk1 : (k' : Int) < (n2 : Int) := by omega
            have hk2 : IntKind.i64.wrap (((k' + 1 : Nat) : Int) - 1) = (k' : Int) := by rw [IntKind.wrap_i64]; have := HNB.out; omega
            have hk3 : (((k' + 1 : Nat) : Int) - 1) = (k' : Int) := by omega
            rw [Nat.add_sub_cancel] at y0 hy
            by_cases hr : y.a < x.a
            ·have e3 : decide (x.a ≤ y.a) = false := decide_eq_false (by omega)
             have HAT := Lib.hid (show okR isLoad p.stands (k' + 1) = true by unfold okR; rw [HXG.out, hiv, Nat.add_sub_cancel, hy, decide_eq_true hr]; simp)
             clear hk0 hr HY
             clear TCK hiv hy
             go_wp2_with fail
             refine wp_region_calm wr (by kernel_rfl) (by kernel_rfl) (Below.refl _ _) ?_
             repeat (go_big_quiet_step ((go_at_call 70; exact callsCalm (HCK.out _))))
             refine wpQuiet_nil ?_
             rintro _ ⟨z, rfl⟩
             have GZ := Lib.hid (HG.out.trans (z.ok.mono HG.out.size))
             go_wp2_with fail
             go_roundw
             case rel => exact ⟨k' + 1 + 1, by omega, by go_num, GZ.out, fun j hj => by
              by_cases e : j = k' + 1
              ·subst e; exact HAT.out
              ·exact HOK.out j (by omega)⟩
             case measure => simp [intOf]; omega
            ·have e3 : decide (x.a ≤ y.a) = true := decide_eq_true (by omega)
             have hr2 := decide_eq_false hr
             clear hk0 HY
             have HNO := Lib.hid (okPl_no (p := p) (fun h => by have h2 := (okPl_ref.1 h).2.2.1 (k' + 1) hkl; unfold okR at h2; rw [HXG.out, hiv, Nat.add_sub_cancel, hy, hr2] at h2; simp at h2))
             clear TCK hiv hy
             go_wp2_with fail
             refine wp_region_calm wr (by kernel_rfl) (by kernel_rfl) (Below.refl _ _) ?_
             repeat (go_big_quiet_step ((go_at_call 70; exact callsCalm (HCK.out _))))
             refine wpQuiet_nil ?_
             rintro _ ⟨z, rfl⟩
             have GZ := Lib.hid (GA.out.trans ((HG.out.trans (z.ok.mono HG.out.size)).mono GA.out.size))
             go_wp2_with fail
             go_ret
             exact ⟨by rw [HNO.out]; rfl, GZ.out⟩
         ·obtain rfl : n2 = k := by omega
          have HEND2 := Lib.hid (show ∀ j, j < p.stands.length → okR isLoad p.stands j = true by rw [HL2.out.1]; exact HOK.out)
          have HGE2 := Lib.hid (show Below W0.heap.size W0 wr from HG.out)
          clear HG HOK hg q1
          obtain ⟨V2, hV2⟩ : ∃ V, wr = V := ⟨_, rfl⟩
          rw [hV2] at HGE2 q2 ⊢
          clear hV2 hkn hk
          go_wp2_with fail
          clear q2
          go_loopw [5] (fun i wr => ∃ k : Nat, k ≤ n3 ∧ i = .int .i64 k ∧ Below W0.heap.size W0 wr ∧ ∀ j, j < k → okR isSpell p.spells j = true) (fun i _ => n3 - (intOf i).toNat)
          case atStart => exact ⟨0, Nat.zero_le _, rfl, HGE2.out, fun j hj => absurd hj (by omega)⟩
          case round =>
           obtain ⟨k, hk, rfl, hg, hok⟩ := hrel
           have HG := Lib.hid hg
           have HOK := Lib.hid hok
           have q1 := cellW ((HB0.out.ext hg).cell 4)
           have q2 := (HB0.out.ext hg).cell 4
           clear hok
           by_cases hkn : k < n3
           ·obtain ⟨b0, o0, e0, -, -, hc⟩ := six_at (HL3.out.below hg) hkn
            obtain ⟨x, hxg⟩ : ∃ x, p.spells.getD k z6 = x := ⟨_, rfl⟩
            rw [hxg] at hc
            obtain ⟨x0, x1, x2, x3, x4, x5⟩ := hc wr (Below.refl _ _)
            have u0 := cellW x0
            have u1 := cellW x1
            have u2 := cellW x2
            have u3 := cellW x3
            have u4 := cellW x4
            have u5 := cellW x5
            have HXG := Lib.hid hxg
            have hkl : k < p.spells.length := by rw [HL3.out.1]; exact hkn
            obtain ⟨y, hy⟩ : ∃ y, p.spells.getD (k - 1) z6 = y := ⟨_, rfl⟩
            have HY := Lib.hid (fun (h0 : 0 < k) (z : Wd wr) => (show z.val.cell? ⟨b0, o0 + (k - 1) * 6, none⟩ = some (.int .i64 y.a) from by
             obtain ⟨b2, o2, e2, -, -, hc2⟩ := six_at (HL3.out.below hg) (show k - 1 < n3 by omega)
             rw [e0] at e2
             cases e2
             rw [hy] at hc2
             exact (hc2 z.val z.ok).1))
            subst e0
            have hki : (k : Int) < (n3 : Int) := by omega
            have hk9 : k < 1000 := by have := HNB.out; omega
            clear hc hxg x0 x1 x2 x3 x4 x5 hg
            obtain ⟨iv, hiv⟩ : ∃ iv, isSpell x = iv := ⟨_, rfl⟩
            have TCK := fun W => refSpell_any x W
            rw [hiv] at TCK
            cases iv with
            | false =>
             rw [show err false 12 = 12 from rfl] at TCK
             have HCK := Lib.hid TCK
             have HNO := Lib.hid (okPl_no (p := p) (fun h => by have h2 := (okPl_ref.1 h).2.2.2.1 k hkl; unfold okR at h2; rw [HXG.out, hiv] at h2; cases h2))
             clear TCK hiv hy
             go_wp2_with fail
             refine wp_region_calm wr (by kernel_rfl) (by kernel_rfl) (Below.refl _ _) ?_
             repeat (go_big_quiet_step ((go_at_call 72; exact callsCalm (HCK.out _))))
             refine wpQuiet_nil ?_
             rintro _ ⟨z, rfl⟩
             have GZ := Lib.hid (GA.out.trans ((HG.out.trans (z.ok.mono HG.out.size)).mono GA.out.size))
             go_wp2_with fail
             go_ret
             exact ⟨by rw [HNO.out]; rfl, GZ.out⟩
            | true =>
             rw [show err true 12 = 0 from rfl] at TCK
             have HCK := Lib.hid TCK
             by_cases hk0 : k = 0
             ·have e1 : decide ((0 : Int) < (k : Int)) = false := decide_eq_false (by omega)
              have e1' : ¬ (0 : Int) < (k : Int) := by omega
              have e2 : decide (0 < k) = false := decide_eq_false (by omega)
              have HAT := Lib.hid (show okR isSpell p.spells k = true by unfold okR; rw [HXG.out, hiv, decide_eq_true hk0]; rfl)
              clear hk0
              clear TCK hiv hy
              go_wp2_with fail
              refine wp_region_calm wr (by kernel_rfl) (by kernel_rfl) (Below.refl _ _) ?_
              repeat (go_big_quiet_step ((go_at_call 72; exact callsCalm (HCK.out _))))
              refine wpQuiet_nil ?_
              rintro _ ⟨z, rfl⟩
              have GZ := Lib.hid (HG.out.trans (z.ok.mono HG.out.size))
              go_wp2_with fail
              go_roundw
              case rel => exact ⟨k + 1, by omega, by go_num, GZ.out, fun j hj => by
               by_cases e : j = k
               ·subst e; exact HAT.out
               ·exact HOK.out j (by omega)⟩
              case measure => simp [intOf]; omega
             ·obtain ⟨k', rfl⟩ : ∃ k', k = k' + 1 := ⟨k - 1, by omega⟩
              have e1 : decide ((0 : Int) < ((k' + 1 : Nat) : Int)) = true := decide_eq_true (by omega)
              have e2 : decide (0 < k' + 1) = true := decide_eq_true (by omega)
              have y0 := HY.out (by omega)
              have hk1 : (k' : Int) < (n3 : Int) := by omega
              have hk2 : IntKind.i64.wrap (((k' + 1 : Nat) : Int) - 1) = (k' : Int) := by rw [IntKind.wrap_i64]; have := HNB.out; omega
              have hk3 : (((k' + 1 : Nat) : Int) - 1) = (k' : Int) := by omega
              rw [Nat.add_sub_cancel] at y0 hy
              by_cases hr : y.a < x.a
              ·have e3 : decide (x.a ≤ y.a) = false := decide_eq_false (by omega)
               have HAT := Lib.hid (show okR isSpell p.spells (k' + 1) = true by unfold okR; rw [HXG.out, hiv, Nat.add_sub_cancel, hy, decide_eq_true hr]; simp)
               clear hk0 hr HY
               clear TCK hiv hy
               go_wp2_with fail
               refine wp_region_calm wr (by kernel_rfl) (by kernel_rfl) (Below.refl _ _) ?_
               repeat (go_big_quiet_step ((go_at_call 72; exact callsCalm (HCK.out _))))
               refine wpQuiet_nil ?_
               rintro _ ⟨z, rfl⟩
               have GZ := Lib.hid (HG.out.trans (z.ok.mono HG.out.size))
               go_wp2_with fail
               go_roundw
               case rel => exact ⟨k' + 1 + 1, by omega, by go_num, GZ.out, fun j hj => by
                by_cases e : j = k' + 1
                ·subst e; exact HAT.out
                ·exact HOK.out j (by omega)⟩
               case measure => simp [intOf]; omega
              ·have e3 : decide (x.a ≤ y.a) = true := decide_eq_true (by omega)
               have hr2 := decide_eq_false hr
               clear hk0 HY
               have HNO := Lib.hid (okPl_no (p := p) (fun h => by have h2 := (okPl_ref.1 h).2.2.2.1 (k' + 1) hkl; unfold okR at h2; rw [HXG.out, hiv, Nat.add_sub_cancel, hy, hr2] at h2; simp at h2))
               clear TCK hiv hy
               go_wp2_with fail
               refine wp_region_calm wr (by kernel_rfl) (by kernel_rfl) (Below.refl _ _) ?_
               repeat (go_big_quiet_step ((go_at_call 72; exact callsCalm (HCK.out _))))
               refine wpQuiet_nil ?_
               rintro _ ⟨z, rfl⟩
               have GZ := Lib.hid (GA.out.trans ((HG.out.trans (z.ok.mono HG.out.size)).mono GA.out.size))
               go_wp2_with fail
               go_ret
               exact ⟨by rw [HNO.out]; rfl, GZ.out⟩
           ·obtain rfl : n3 = k := by omega
            have HEND3 := Lib.hid (show ∀ j, j < p.spells.length → okR isSpell p.spells j = true by rw [HL3.out.1]; exact HOK.out)
            have HGE3 := Lib.hid (show Below W0.heap.size W0 wr from HG.out)
            clear HG HOK hg q1
            obtain ⟨V3, hV3⟩ : ∃ V, wr = V := ⟨_, rfl⟩
            rw [hV3] at HGE3 q2 ⊢
            clear hV3 hkn hk
            have HSR := Lib.hid (refSources_any p A1 A2 A3 n1 c1 n2 c2 n3 c3 V3 (HPA.out.below HGE3.out) ⟨by have := HNB.out; omega, by have := HNB.out; omega, by have := HNB.out; omega⟩)
            have t0 := (HB0.out.ext HGE3.out).cell 0
            have t1 := (HB0.out.ext HGE3.out).cell 1
            have t2 := (HB0.out.ext HGE3.out).cell 2
            have t3 := (HB0.out.ext HGE3.out).cell 3
            have t4 := (HB0.out.ext HGE3.out).cell 4
            have t5 := (HB0.out.ext HGE3.out).cell 5
            go_upto_region 19 with (go_at_call 137; (with_reducible refine (HSR.out).mono ?_); rintro e V4 ⟨⟨v4, rfl, ho⟩, hg⟩; obtain ⟨A4, c4, hv4, hc4, hm4, hi4, -⟩ := OwnL.arr kdI ho; obtain ⟨n4, hn4⟩ : ∃ n, (srcs3 p).length = n := ⟨_, rfl⟩; rw [hn4] at hv4 hc4 hi4; subst hv4; have HI4 := Lib.hid hi4; have HN4 := Lib.hid hn4; have HC4 := Lib.hid hc4; have HM4 := Lib.hid hm4; have HG4 := Lib.hid (HGE3.out.trans (hg.mono HGE3.out.size)); clear ho hg hi4 hn4 hc4 hm4)
            clear t0 t1 t2 t3 t4 t5 q2
            have hn4b : n4 ≤ 1000 := by
             have h1 := HN4.out
             have h2 := HNB.out
             have e1 := HL1.out.1
             have e2 := HL2.out.1
             have e3 := HL3.out.1
             unfold srcs3 at h1
             simp only [List.length_append, srcs_len] at h1
             omega
            have hc4 : n4 ≤ c4 := HC4.out
            have hm4 : c4 ≤ 9223372036854775807 := by have := HM4.out; unfold maxLen at this; omega
            go_wp2_with fail
            go_loopw [7] (fun i wr => ∃ k : Nat, k ≤ n4 ∧ i = .int .i64 k ∧ Below V4.heap.size V4 wr ∧ ∀ j, j < k → (srcs3 p).getD j 0 ∉ (srcs3 p).take j) (fun i _ => n4 - (intOf i).toNat)
            case atStart => exact ⟨0, Nat.zero_le _, rfl, Below.refl _ _, fun j hj => absurd hj (by omega)⟩
            case round =>
             obtain ⟨k, hk, rfl, hg, hok⟩ := hrel
             have HG := Lib.hid hg
             have HOK := Lib.hid hok
             clear hok
             by_cases hkn : k < n4
             ·obtain ⟨b9, o9, e9, -, -, hc9⟩ := ints_at (HI4.out.below hg) hkn
              obtain ⟨s, hs⟩ : ∃ s, (srcs3 p).getD k 0 = s := ⟨_, rfl⟩
              rw [hs] at hc9
              have u1 := cellW (hc9 _ (Below.refl _ _))
              have TH := fun (z : Wd wr) => refHas_any A4 k c4 ((srcs3 p).take k) s z.val (((HI4.out.below hg).below z.ok).take (by omega)) (by omega)
              obtain ⟨hb, hhb⟩ : ∃ b, hasI ((srcs3 p).take k) s = b := ⟨_, rfl⟩
              rw [hhb] at TH
              subst e9
              have HTH := Lib.hid TH
              have hki : (k : Int) < (n4 : Int) := by omega
              have hk9 : k < 1000 := by omega
              have hkc : (k : Int) ≤ (c4 : Int) := by omega
              have HS := Lib.hid hs
              have HHB := Lib.hid hhb
              clear TH hc9 hg hs hhb
              cases hb with
              | true =>
               have HNX := Lib.hid (okPl_no (p := p) (fun h => by
                have h2 := (okPl_ref.1 h).2.2.2.2 k (by rw [HN4.out]; exact hkn)
                rw [HS.out] at h2
                exact h2 (hasI_iff.1 HHB.out)))
               go_wp2_with fail
               refine wp_region_calm wr (by kernel_rfl) (by kernel_rfl) (Below.refl _ _) ?_
               repeat (go_big_quiet_step ((go_at_call 47; exact callsCalmSame (HTH.out _))))
               refine wpQuiet_nil ?_
               rintro _ ⟨z, rfl⟩
               have GZ := Lib.hid (GA.out.trans ((HG4.out.trans ((HG.out.trans (z.ok.mono HG.out.size)).mono HG4.out.size)).mono GA.out.size))
               go_wp2_with fail
               go_ret
               exact ⟨by rw [HNX.out]; rfl, GZ.out⟩
              | false =>
               have HAT := Lib.hid (show (srcs3 p).getD k 0 ∉ (srcs3 p).take k by
                rw [HS.out]
                intro h
                have := hasI_true h
                rw [HHB.out] at this
                cases this)
               go_wp2_with fail
               refine wp_region_calm wr (by kernel_rfl) (by kernel_rfl) (Below.refl _ _) ?_
               repeat (go_big_quiet_step ((go_at_call 47; exact callsCalmSame (HTH.out _))))
               refine wpQuiet_nil ?_
               rintro _ ⟨z, rfl⟩
               have GZ := Lib.hid (HG.out.trans (z.ok.mono HG.out.size))
               go_wp2_with fail
               go_roundw
               case rel => exact ⟨k + 1, by omega, by go_num, GZ.out, fun j hj => by
                by_cases e : j = k
                ·subst e; exact HAT.out
                ·exact HOK.out j (by omega)⟩
               case measure => simp [intOf]; omega
             ·obtain rfl : n4 = k := by omega
              have HYS := Lib.hid (show okPl p = true from okPl_ref.2 ⟨HALL.out, HEND1.out, HEND2.out, HEND3.out, fun j hj => HOK.out j (by rw [← HN4.out]; exact hj)⟩)
              have GZ := Lib.hid (GA.out.trans ((HG4.out.trans (HG.out.mono HG4.out.size)).mono GA.out.size))
              go_wp2_with fail
              go_ret
              exact ⟨by rw [HYS.out]; rfl, GZ.out⟩
     ·have k3z : decide ((60 : Int) < (n3 : Int)) = true := decide_eq_true (by omega)
      go_wp2_with (first
       | (go_at_call 146; (with_reducible refine (HTS.out).mono ?_); rintro e V ⟨rfl, hg⟩; have HG1 := Lib.hid hg; have m2 := (HB0.out.ext hg).cell 2; have m3 := (HB0.out.ext hg).cell 3; have m4 := (HB0.out.ext hg).cell 4; have m5 := (HB0.out.ext hg).cell 5; clear hg)
       | (go_at_call 131; (with_reducible refine (HTG.out _).mono ?_); rintro e w' ⟨rfl, rfl⟩))
      go_ret
      exact HNO.out _ HG1.out (by simp; try omega)
    ·have k2z : decide ((60 : Int) < (n2 : Int)) = true := decide_eq_true (by omega)
     go_wp2_with (first
      | (go_at_call 146; (with_reducible refine (HTS.out).mono ?_); rintro e V ⟨rfl, hg⟩; have HG1 := Lib.hid hg; have m2 := (HB0.out.ext hg).cell 2; have m3 := (HB0.out.ext hg).cell 3; have m4 := (HB0.out.ext hg).cell 4; have m5 := (HB0.out.ext hg).cell 5; clear hg)
      | (go_at_call 131; (with_reducible refine (HTG.out _).mono ?_); rintro e w' ⟨rfl, rfl⟩))
     go_ret
     exact HNO.out _ HG1.out (by simp; try omega)
   ·have k1z : decide ((60 : Int) < (n1 : Int)) = true := decide_eq_true (by omega)
    go_wp2_with (first
     | (go_at_call 146; (with_reducible refine (HTS.out).mono ?_); rintro e V ⟨rfl, hg⟩; have HG1 := Lib.hid hg; have m2 := (HB0.out.ext hg).cell 2; have m3 := (HB0.out.ext hg).cell 3; have m4 := (HB0.out.ext hg).cell 4; have m5 := (HB0.out.ext hg).cell 5; clear hg)
     | (go_at_call 131; (with_reducible refine (HTG.out _).mono ?_); rintro e w' ⟨rfl, rfl⟩))
    go_ret
    exact HNO.out _ HG1.out (by simp; try omega)
theorem refAsked_any (p : Pl) (A1 A2 A3 : Option Addr) (n1 c1 n2 c2 n3 c3 : Nat) (hour known : Int) (w : World) (hp : Pa w p A1 A2 A3 n1 c1 n2 c2 n3 c3) :
  Calls Tryz.prog 101 #[plv p A1 A2 A3 n1 c1 n2 c2 n3 c3, .int .i64 hour, .int .i64 known] w fun e w' => e = .returned (.int .i64 (firstE p [hour] [known])) ∧ Below w.heap.size w w' := by
 obtain ⟨W0, hW0⟩ : ∃ W0, w.alloc (.cells (plb p A1 A2 A3 n1 c1 n2 c2 n3 c3) 38) = W0 := ⟨_, rfl⟩
 have g0 : Below w.heap.size w W0 := by rw [← hW0]; exact one_more _ _
 have b0 : Blk W0 w.heap.size 38 (plb p A1 A2 A3 n1 c1 n2 c2 n3 c3) := by rw [← hW0]; exact Blk.new _ _ _
 have TC := refCheck_any p A1 A2 A3 n1 c1 n2 c2 n3 c3 W0 (hp.below g0)
 have TH := fun V => in_any hour 0 99999 V
 have TD := fun V => refDay_any known V
 have hE : firstE p [hour] [known] = if okPl p = true then (if rng hour 0 99999 = false then 7 else if rng known 0 4166 = false then 6 else 0) else 13 := by
  unfold firstE noHour noDay
  cases okPl p <;> cases h1 : rng hour 0 99999 <;> cases h2 : rng known 0 4166 <;> simp [h1, h2]
 rw [hE]
 obtain ⟨s1, hs1⟩ : ∃ b, okPl p = b := ⟨_, rfl⟩
 obtain ⟨s2, hs2⟩ : ∃ b, rng hour 0 99999 = b := ⟨_, rfl⟩
 obtain ⟨s3, hs3⟩ : ∃ b, rng known 0 4166 = b := ⟨_, rfl⟩
 rw [hs1] at TC ⊢
 rw [hs2] at TH ⊢
 rw [hs3] at TD ⊢
 have GA := Lib.hid g0
 have HW0 := Lib.hid hW0
 have r0 := b0.cell 0
 have r1 := b0.cell 1
 have r2 := b0.cell 2
 have r3 := b0.cell 3
 have r4 := b0.cell 4
 have r5 := b0.cell 5
 clear hs1 hs2 hs3 hE hp g0 b0 hW0
 cases s1 <;> cases s2 <;> cases s3
 all_goals
  have HTC := Lib.hid TC
  have HTH := Lib.hid TH
  have HTD := Lib.hid TD
  clear TC TH TD
  go_enter Tryz.func101, Tryz.ntmps101
  go_upto_region 1 with fail
  rw [HW0.out]
  go_wp2_with (first
   | (go_at_call 66; (with_reducible refine (HTC.out).mono ?_); rintro e V ⟨rfl, hg⟩; have HG1 := Lib.hid hg; clear hg)
   | (go_at_call 131; (with_reducible refine (HTH.out _).mono ?_); rintro e w' ⟨rfl, rfl⟩)
   | (go_at_call 181; (with_reducible refine (HTD.out _).mono ?_); rintro e w' ⟨rfl, rfl⟩))
  go_ret
  exact ⟨rfl, GA.out.trans (HG1.out.mono GA.out.size)⟩
end Go.Proofs.YtkoejeghihcmlaaGreat

namespace Go.Proofs.YtkoejeghihcmlaaGreat
open Go.RowKit Go.Shelf
theorem Below.allo9 {B : Nat} {V X : World} (h : Below B V X) (hB : B ≤ X.heap.size) (o : Obj) : Below B V (X.alloc o) := h.trans ((one_more X o).mono hB)
theorem Arr.drop {α : Type} {f : α → List Value} {size : Nat} {w : World} {b o n : Nat} {xs : List α} (h : Arr f size w (some ⟨b, o, none⟩) n xs) (k : Nat) : Arr f size w (some ⟨b, o + k * size, none⟩) (n - k) (xs.drop k) := by
 refine ⟨by rw [List.length_drop, h.1], fun hn => ?_⟩
 obtain ⟨b', o', e, hb, hc⟩ := h.2 (by omega)
 cases e
 refine ⟨b, o + k * size, rfl, hb, fun i x hx j u hu => ?_⟩
 rw [List.getElem?_drop] at hx
 have := hc (k + i) x hx j u hu
 rw [Nat.add_mul] at this
 rw [show o + k * size + i * size + j = o + (k * size + i * size) + j by omega]
 exact this
theorem insH_at {x : Six} : ∀ {l : List Six} {t : Nat}, t ≤ l.length → (∀ j, j < t → (l.getD j z6).b ≤ x.b) → (t < l.length → x.b < (l.getD t z6).b) → insH x l = l.take t ++ x :: l.drop t
 | [], t, ht, _, _ => by
  have : t = 0 := by simpa using ht
  subst this; rfl
 | y :: l, 0, _, _, h2 => by
  have := h2 (by simp)
  have h3 : x.b < y.b := by simpa using this
  unfold insH
  rw [if_pos h3]; rfl
 | y :: l, t + 1, ht, h1, h2 => by
  have h0 := h1 0 (by omega)
  have h3 : ¬ x.b < y.b := by
   have : (y :: l).getD 0 z6 = y := rfl
   rw [this] at h0; omega
  unfold insH
  rw [if_neg h3, insH_at (l := l) (t := t) (by simpa using ht) (fun j hj => by have := h1 (j + 1) (by omega); simpa using this) (fun h => by have := h2 (by simpa using h); simpa using this)]
  rfl
/-- The loads that count among the first k ones, in order. -/
def cartK (p : Pl) (known : Int) (k : Nat) : List Six := srtH ((p.loads.take k).filter fun x => cnt x known)
theorem cartK_zero (p : Pl) (known : Int) : cartK p known 0 = [] := rfl
theorem cartK_succ {p : Pl} {known : Int} {k : Nat} (hk : k < p.loads.length) : cartK p known (k + 1) = if cnt (p.loads.getD k z6) known = true then insH (p.loads.getD k z6) (cartK p known k) else cartK p known k := by
 unfold cartK
 rw [List.take_succ_eq_append_getElem hk, List.filter_append, six_get hk]
 by_cases h : cnt p.loads[k] known = true
 ·rw [if_pos h, List.filter_cons, if_pos h]
  unfold srtH
  rw [List.foldl_append]
  rfl
 ·rw [if_neg h, List.filter_cons, if_neg h]
  simp
theorem cartK_len (p : Pl) (known : Int) (k : Nat) : (cartK p known k).length ≤ k := by
 unfold cartK
 rw [srtH_len]
 refine Nat.le_trans (List.length_filter_le _ _) ?_
 rw [List.length_take]
 omega
theorem own_head {w : World} {base : Nat} {A : Option Addr} {n c : Nat} {L : List Six} (h : OwnL scells 6 103 w base (.slice A n c) L) : (A = none ∧ n = 0 ∧ c = 0 ∧ L = []) ∨ ∃ b, A = some ⟨b, 0, none⟩ := by
 obtain ⟨-, ⟨e, h0⟩ | ⟨g, cap, cur, e, -⟩⟩ := h
 ·cases e
  exact .inl ⟨rfl, rfl, rfl, List.eq_nil_of_length_eq_zero h0⟩
 ·cases e
  exact .inr ⟨_, rfl⟩
theorem empty_own (V : World) : OwnL scells 6 103 (V.alloc (.cells #[] 103)).drew V.heap.size (.slice (some ⟨V.heap.size, 0, none⟩) 0 0) [] := World.ownsRow_made (e := 103) (size := 6) V #[] 0 (Nat.le_refl _) (by decide) rfl
theorem empty_own2 (V : World) (cs : Array Value) : OwnL scells 6 103 ((V.alloc (.cells cs 103)).alloc (.cells #[] 103)).drew V.heap.size (.slice (some ⟨V.heap.size + 1, 0, none⟩) 0 0) [] := by
 have := World.ownsRow_made (e := 103) (size := 6) (base := V.heap.size) (V.alloc (.cells cs 103)) #[] 0 (by simp) (by decide) rfl
 rw [World.size_alloc] at this
 exact this
set_option maxRecDepth 100000 in
set_option maxHeartbeats 8000000 in
theorem refCarted_any (p : Pl) (A1 A2 A3 : Option Addr) (n1 c1 n2 c2 n3 c3 : Nat) (known : Int) (w : World) (hp : Pa w p A1 A2 A3 n1 c1 n2 c2 n3 c3) (hnb : n1 ≤ 1000) :
  Calls Tryz.prog 129 #[plv p A1 A2 A3 n1 c1 n2 c2 n3 c3, .int .i64 known] w fun e w' => (∃ v, e = .returned v ∧ OwnL scells 6 103 w' w.heap.size v (srtH (p.loads.filter fun x => cnt x known))) ∧ Below w.heap.size w w' := by
 obtain ⟨W0, hW0⟩ : ∃ W0, w.alloc (.cells (plb p A1 A2 A3 n1 c1 n2 c2 n3 c3) 38) = W0 := ⟨_, rfl⟩
 have g0 : Below w.heap.size w W0 := by rw [← hW0]; exact one_more _ _
 have b0 : Blk W0 w.heap.size 38 (plb p A1 A2 A3 n1 c1 n2 c2 n3 c3) := by rw [← hW0]; exact Blk.new _ _ _
 have HNB := Lib.hid hnb
 have HL1 := Lib.hid (hp.l1.below g0)
 have GA := Lib.hid g0
 have HB0 := Lib.hid b0
 have HW0 := Lib.hid hW0
 clear hp g0 b0 hW0 hnb
 go_enter Tryz.func129, Tryz.ntmps129
 go_upto_region 1 with fail
 rw [HW0.out]
 go_wp2_with fail
 go_loopw [5, 6] (fun v i wr => ∃ (k : Nat) (u : Value), u = v ∧ i = .int .i64 k ∧ k ≤ n1 ∧ Below W0.heap.size W0 wr ∧ OwnL scells 6 103 wr W0.heap.size v (cartK p known k)) (fun _ i _ => n1 - (intOf i).toNat)
 case atStart => exact ⟨0, _, rfl, rfl, Nat.zero_le _, Below.refl _ _, by rw [cartK_zero]; exact OwnL.nil _ _⟩
 case round =>
  obtain ⟨k, u, rfl, rfl, hk, hg, hown⟩ := hrel
  obtain ⟨V0, rfl⟩ : ∃ V : World, V = wr := ⟨_, rfl⟩
  have HG := Lib.hid hg
  have HO := Lib.hid hown
  have q1 := (HB0.out.ext hg).cell 2
  have hk9 : k ≤ 1000 := by have := HNB.out; omega
  by_cases hkn : k < n1
  ·obtain ⟨b9, o9, e9, -, -, hc⟩ := six_at (HL1.out.below hg) hkn
   obtain ⟨x0, x1, x2, x3, x4, x5⟩ := hc _ (Below.refl _ _)
   have HN := Lib.hid (cartK_succ (p := p) (known := known) (k := k) (by rw [HL1.out.1]; exact hkn))
   have HCL := Lib.hid (cartK_len p known k)
   obtain ⟨x, hxg⟩ : ∃ x, p.loads.getD k z6 = x := ⟨_, rfl⟩
   rw [hxg] at x0 x1 x2 x3 x4 x5 HN
   subst e9
   have hki : (k : Int) < (n1 : Int) := by omega
   obtain ⟨L, hL⟩ : ∃ L, cartK p known k = L := ⟨_, rfl⟩
   rw [hL] at HO HN HCL
   have HLE := Lib.hid hL
   clear hc hxg hg hown hL
   go_upto_region 6 with fail
   obtain ⟨V1, hV1⟩ : ∃ V1, V0.alloc (.cells #[.int .i64 x.a, .int .i64 x.b, .int .i64 x.c, .int .i64 x.d, .int .i64 x.e, .int .i64 x.f] 103) = V1 := ⟨_, rfl⟩
   have g1 : Below V0.heap.size V0 V1 := by rw [← hV1]; exact one_more _ _
   have BX := Lib.hid (show Blk V1 V0.heap.size 103 #[.int .i64 x.a, .int .i64 x.b, .int .i64 x.c, .int .i64 x.d, .int .i64 x.e, .int .i64 x.f] by rw [← hV1]; exact Blk.new _ _ _)
   rw [hV1]
   have hvs0 := HG.out.size
   have hvs1 : V1.heap.size = V0.heap.size + 1 := by rw [← hV1]; simp
   have HG1 := Lib.hid (HG.out.trans (g1.mono hvs0))
   have HO1 := Lib.hid (HO.out.ext g1)
   have HVS := Lib.hid hvs1
   clear hV1 g1 x0 x1 x2 x3 x4 x5 q1 hvs1
   have s0 := BX.out.cell 0
   have s1 := BX.out.cell 1
   have s2 := BX.out.cell 2
   have s3 := BX.out.cell 3
   have s4 := BX.out.cell 4
   have s5 := BX.out.cell 5
   obtain ⟨cb, hcb⟩ : ∃ cb, cnt x known = cb := ⟨_, rfl⟩
   have T := fun W => refCnt_any x known W
   rw [hcb] at T HN
   have HT := Lib.hid T
   clear hcb T
   cases cb with
   | false =>
    have HN2 := Lib.hid (show cartK p known (k + 1) = L by rw [HN.out]; rfl)
    go_wp2_with (go_at_call 183; (with_reducible refine (HT.out _).mono ?_); rintro e w' ⟨rfl, rfl⟩)
    go_roundw
    case rel => exact ⟨k + 1, _, rfl, by go_num, by omega, HG1.out, by rw [HN2.out]; exact HO1.out⟩
    case measure => simp [intOf]; omega
   | true =>
    have HN2 := Lib.hid (show cartK p known (k + 1) = insH x L by rw [HN.out]; rfl)
    obtain ⟨A, c, hv, hc1, hc2, hi, -⟩ := HO1.out.arr kdL
    obtain ⟨n, hn⟩ : ∃ n, L.length = n := ⟨_, rfl⟩
    rw [hn] at hv hc1 hi
    subst hv
    have HI := Lib.hid hi
    have HNL := Lib.hid hn
    have hn9 : n ≤ 1000 := by have := HCL.out; omega
    have hcm : c ≤ 9223372036854775807 := by unfold maxLen at hc2; omega
    clear hi hn hc2
    go_upto_region 7 with (go_at_call 183; (with_reducible refine (HT.out _).mono ?_); rintro e w' ⟨rfl, rfl⟩)
    go_cut [8] from 28 to 43 (fun s wx => s = .int .i64 0 ∧ V1 = wx)
    case first =>
     go_wp2_with fail
     go_meet
     exact ⟨rfl, rfl⟩
    case rest =>
    obtain ⟨rfl, rfl⟩ := hcut
    rename_i hK9
    refine hK9 _ _ ?_
    clear hK9
    go_step
    go_cut [8] from 28 to 43 (fun s wx => ∃ t : Nat, s = .int .i64 t ∧ t ≤ n ∧ Hid (insH x L = L.take t ++ x :: L.drop t) ∧ Below V1.heap.size V1 wx)
    case first =>
     go_step
     go_loopw [8] (fun i wr => ∃ t : Nat, t ≤ n ∧ i = .int .i64 t ∧ Below V1.heap.size V1 wr ∧ ∀ j, j < t → (L.getD j z6).b ≤ x.b) (fun i _ => n - (intOf i).toNat)
     case atStart => exact ⟨0, Nat.zero_le _, rfl, Below.refl _ _, fun j hj => absurd hj (by omega)⟩
     case round =>
      obtain ⟨t, ht, rfl, hg2, hall⟩ := hrel
      have HG2 := Lib.hid hg2
      have HALL := Lib.hid hall
      have z1 := cellW ((BX.out.ext hg2).cell 1)
      clear hall
      have hvs2 := hg2.size
      by_cases htn : t < n
      ·obtain ⟨b8, o8, e8, -, -, hc8⟩ := six_at (HI.out.below hg2) htn
       obtain ⟨y, hyg⟩ : ∃ y, L.getD t z6 = y := ⟨_, rfl⟩
       rw [hyg] at hc8
       have u1 := cellW (hc8 _ (Below.refl _ _)).2.1
       have hti : (t : Int) < (n : Int) := by omega
       have htd : decide (t < n) = true := decide_eq_true htn
       subst e8
       have HY := Lib.hid hyg
       clear hc8 hyg hg2
       by_cases hle : y.b ≤ x.b
       ·have hled := decide_eq_true hle
        have HLE2 := Lib.hid hle
        go_upto_region 8 with fail
        refine wp_region_calm wr (by kernel_rfl) (by kernel_rfl) (Below.refl _ _) ?_
        repeat (go_big_quiet_step (fail))
        refine wpQuiet_nil ?_
        rintro _ ⟨z, rfl⟩
        have GZ := Lib.hid (HG2.out.trans (z.ok.mono HG2.out.size))
        go_wp2_with fail
        go_roundw
        case rel => exact ⟨t + 1, by omega, by go_num, GZ.out, fun j hj => by
         by_cases e : j = t
         ·subst e; rw [HY.out]; exact HLE2.out
         ·exact HALL.out j (by omega)⟩
        case measure => simp [intOf]; omega
       ·have hled := decide_eq_false hle
        have HIN := Lib.hid (insH_at (x := x) (l := L) (t := t) (by rw [HNL.out]; omega) HALL.out (fun _ => by rw [HY.out]; omega))
        go_upto_region 8 with fail
        refine wp_region_calm wr (by kernel_rfl) (by kernel_rfl) (Below.refl _ _) ?_
        repeat (go_big_quiet_step (fail))
        refine wpQuiet_nil ?_
        rintro _ ⟨z, rfl⟩
        have GZ := Lib.hid (HG2.out.trans (z.ok.mono HG2.out.size))
        go_wp2_with fail
        go_meet
        exact ⟨t, rfl, ht, HIN, GZ.out⟩
      ·obtain rfl : n = t := by omega
       have htd : decide (n < n) = false := decide_eq_false (by omega)
       have HIN := Lib.hid (insH_at (x := x) (l := L) (t := n) (by rw [HNL.out]; exact Nat.le_refl _) HALL.out (fun h => by rw [HNL.out] at h; omega))
       go_upto_region 8 with fail
       refine wp_region_calm wr (by kernel_rfl) (by kernel_rfl) (Below.refl _ _) ?_
       repeat (go_big_quiet_step (fail))
       refine wpQuiet_nil ?_
       rintro _ ⟨z, rfl⟩
       have GZ := Lib.hid (HG2.out.trans (z.ok.mono HG2.out.size))
       go_wp2_with fail
       go_meet
       exact ⟨n, rfl, Nat.le_refl _, HIN, GZ.out⟩
    case rest =>
     obtain ⟨t, rfl, ht, HIN, hg2⟩ := hcut
     obtain ⟨V, rfl⟩ : ∃ V : World, V = wc := ⟨_, rfl⟩
     have HG2 := Lib.hid hg2
     have hvs2 := hg2.size
     have HBXV := Lib.hid (BX.out.ext hg2)
     have HAV := Lib.hid (HI.out.below hg2)
     have hti : (t : Int) ≤ (n : Int) := by omega
     have htc : (t : Int) ≤ (c : Int) := by omega
     have hnc : (n : Int) ≤ (c : Int) := by omega
     have w0 := HBXV.out.cell 0
     have w1 := HBXV.out.cell 1
     have w2 := HBXV.out.cell 2
     have w3 := HBXV.out.cell 3
     have w4 := HBXV.out.cell 4
     have w5 := HBXV.out.cell 5
     clear hg2
     rename_i hK9
     refine hK9 _ _ ?_
     clear hK9
     go_upto_region 10 with fail
     have HKP := Lib.hid (fun X (g : Below V.heap.size V X) => (⟨(HBXV.out.ext g).cell 0, (HBXV.out.ext g).cell 1, (HBXV.out.ext g).cell 2, (HBXV.out.ext g).cell 3, (HBXV.out.ext g).cell 4, (HBXV.out.ext g).cell 5⟩ : X.cell? ⟨V0.heap.size, 0, none⟩ = some (.int .i64 x.a) ∧ X.cell? ⟨V0.heap.size, 1, none⟩ = some (.int .i64 x.b) ∧ X.cell? ⟨V0.heap.size, 2, none⟩ = some (.int .i64 x.c) ∧ X.cell? ⟨V0.heap.size, 3, none⟩ = some (.int .i64 x.d) ∧ X.cell? ⟨V0.heap.size, 4, none⟩ = some (.int .i64 x.e) ∧ X.cell? ⟨V0.heap.size, 5, none⟩ = some (.int .i64 x.f)))
     obtain ⟨base, hbase⟩ : ∃ base, V.heap.size = base := ⟨_, rfl⟩
     have GE1 := Lib.hid (show Below V.heap.size V (V.alloc (.cells #[] 103)).drew from (one_more _ _).drew)
     have GE2 := Lib.hid (show Below V.heap.size V ((V.alloc (.cells #[] 103)).alloc (.cells #[.int .i64 x.a, .int .i64 x.b, .int .i64 x.c, .int .i64 x.d, .int .i64 x.e, .int .i64 x.f] 103)).drew from (two_more _ _ _).drew)
     have GE3 := Lib.hid (show Below V.heap.size V ((V.alloc (.cells #[.int .i64 x.a, .int .i64 x.b, .int .i64 x.c, .int .i64 x.d, .int .i64 x.e, .int .i64 x.f] 103)).alloc (.cells #[] 103)).drew from (two_more _ _ _).drew)
     have OE1 := Lib.hid (empty_own V)
     have OE2 := Lib.hid (OwnL.ext (w := V.alloc (.cells #[] 103)) (empty_own V) ((one_more (V.alloc (.cells #[] 103)) (.cells #[.int .i64 x.a, .int .i64 x.b, .int .i64 x.c, .int .i64 x.d, .int .i64 x.e, .int .i64 x.f] 103)).drew))
     have OE3 := Lib.hid (empty_own2 V #[.int .i64 x.a, .int .i64 x.b, .int .i64 x.c, .int .i64 x.d, .int .i64 x.e, .int .i64 x.f])
     have BX2 := Lib.hid (show Blk ((V.alloc (.cells #[] 103)).alloc (.cells #[.int .i64 x.a, .int .i64 x.b, .int .i64 x.c, .int .i64 x.d, .int .i64 x.e, .int .i64 x.f] 103)).drew (V.heap.size + 1) 103 #[.int .i64 x.a, .int .i64 x.b, .int .i64 x.c, .int .i64 x.d, .int .i64 x.e, .int .i64 x.f] by
      have := Blk.new (V.alloc (.cells #[] 103)) 103 #[.int .i64 x.a, .int .i64 x.b, .int .i64 x.c, .int .i64 x.d, .int .i64 x.e, .int .i64 x.f]
      rw [World.size_alloc] at this
      exact this)
     have BX3 := Lib.hid (show Blk ((V.alloc (.cells #[.int .i64 x.a, .int .i64 x.b, .int .i64 x.c, .int .i64 x.d, .int .i64 x.e, .int .i64 x.f] 103)).alloc (.cells #[] 103)).drew V.heap.size 103 #[.int .i64 x.a, .int .i64 x.b, .int .i64 x.c, .int .i64 x.d, .int .i64 x.e, .int .i64 x.f] from (Blk.new V 103 #[.int .i64 x.a, .int .i64 x.b, .int .i64 x.c, .int .i64 x.d, .int .i64 x.e, .int .i64 x.f]).alloc _)
     rw [hbase] at OE1 OE2 OE3 BX2 BX3
     have HBS := Lib.hid hbase
     rcases own_head HO1.out with ⟨rfl, rfl, rfl, rfl⟩ | ⟨b7, rfl⟩
     ·obtain rfl : t = 0 := by omega
      go_region_held3 (fun X => X.cell? ⟨V0.heap.size, 0, none⟩ = some (.int .i64 x.a) ∧ X.cell? ⟨V0.heap.size, 1, none⟩ = some (.int .i64 x.b) ∧ X.cell? ⟨V0.heap.size, 2, none⟩ = some (.int .i64 x.c) ∧ X.cell? ⟨V0.heap.size, 3, none⟩ = some (.int .i64 x.d) ∧ X.cell? ⟨V0.heap.size, 4, none⟩ = some (.int .i64 x.e) ∧ X.cell? ⟨V0.heap.size, 5, none⟩ = some (.int .i64 x.f))
       (with_reducible refine HKP.out _ ?_; repeat' first | (with_reducible exact Below.refl _ _) | (with_reducible exact HGA.out) | (with_reducible exact HGB.out) | (with_reducible exact HGC.out) | (with_reducible refine Below.drew ?_) | (with_reducible refine Below.allo9 ?_ (by first | (simp; done) | (simp; omega) | omega) _))
       (first
        | (refine step_app kdL (by rfl) _ _ (by rfl) base _ [] (by rfl) OE1.out none 0 0 [] (by rfl) Arr.nil_ (by first | (simp; done) | (simp; omega)) (by have := GE1.out.size; have := HBS.out; omega) ?_; intro v1 w1 ho1 hg1 hat1; have hbw := OE1.out.below hg1 (Nat.le_refl base) (by have := GE1.out.size; have := HBS.out; omega); have HGA := Lib.hid (show Below V.heap.size V w1 from GE1.out.trans (hbw.mono (by have := HBS.out; omega))); have HO1 := Lib.hid (show OwnL scells 6 103 w1 base v1 [] by simpa using ho1); have hsa : base ≤ w1.heap.size := (by have := HGA.out.size; have := HBS.out; omega); have HSA := Lib.hid hsa; clear hbw ho1 hg1 hat1)
        | (refine step_app kdL (by rfl) _ _ (by rfl) base _ [] (by rfl) OE2.out none 0 0 [] (by rfl) Arr.nil_ (by first | (simp; done) | (simp; omega)) (by have := GE2.out.size; have := HBS.out; omega) ?_; intro v1 w1 ho1 hg1 hat1; have hbw := OE2.out.below hg1 (Nat.le_refl base) (by have := GE2.out.size; have := HBS.out; omega); have HGA := Lib.hid (show Below V.heap.size V w1 from GE2.out.trans (hbw.mono (by have := HBS.out; omega))); have HO1 := Lib.hid (show OwnL scells 6 103 w1 base v1 [] by simpa using ho1); have hsa : base ≤ w1.heap.size := (by have := HGA.out.size; have := HBS.out; omega); have HSA := Lib.hid hsa; have HBX := Lib.hid (show Blk w1 (base + 1) 103 _ from (hg1.block (base + 1) BX2.out.lt (by simp [Value.ownBlock])).trans BX2.out); clear hbw ho1 hg1 hat1)
        | (refine step_app kdL (by rfl) _ _ (by rfl) base _ [] (by rfl) OE3.out none 0 0 [] (by rfl) Arr.nil_ (by first | (simp; done) | (simp; omega)) (by have := GE3.out.size; have := HBS.out; omega) ?_; intro v1 w1 ho1 hg1 hat1; have hbw := OE3.out.below hg1 (Nat.le_refl base) (by have := GE3.out.size; have := HBS.out; omega); have HGA := Lib.hid (show Below V.heap.size V w1 from GE3.out.trans (hbw.mono (by have := HBS.out; omega))); have HO1 := Lib.hid (show OwnL scells 6 103 w1 base v1 [] by simpa using ho1); have hsa : base ≤ w1.heap.size := (by have := HGA.out.size; have := HBS.out; omega); have HSA := Lib.hid hsa; have HBX := Lib.hid (show Blk w1 base 103 _ from (hg1.block base BX3.out.lt (by simp [Value.ownBlock])).trans BX3.out); clear hbw ho1 hg1 hat1)
        | (refine step_app kdL (by rfl) _ _ (by rfl) base v1 [] (by rfl) (HO1.out.ext (one_more w1 (.cells #[.int .i64 x.a, .int .i64 x.b, .int .i64 x.c, .int .i64 x.d, .int .i64 x.e, .int .i64 x.f] 103))) _ _ _ [x] (by rfl) (Blk.arr1 (f := scells) (size := 6) (x := x) (Blk.new w1 103 _)) (by simp) (by have := HSA.out; rw [World.size_alloc]; omega) ?_; intro v2 w2 ho2 hg2 hat2; have hbw := (HO1.out.ext (one_more w1 (.cells #[.int .i64 x.a, .int .i64 x.b, .int .i64 x.c, .int .i64 x.d, .int .i64 x.e, .int .i64 x.f] 103))).below hg2 (Nat.le_refl base) (by have := HSA.out; rw [World.size_alloc]; omega); have HGB := Lib.hid (show Below V.heap.size V w2 from (HGA.out.trans ((one_more w1 _).mono (by have := HSA.out; have := HBS.out; omega))).trans (hbw.mono (by have := HBS.out; omega))); have HO2 := Lib.hid ho2; have hsb : base ≤ w2.heap.size := (by have := HGB.out.size; have := HBS.out; omega); have HSB := Lib.hid hsb; clear hbw ho2 hg2 hat2)
        | (refine step_app kdL (by rfl) _ _ (by rfl) base v1 [] (by rfl) HO1.out _ _ _ [x] (by rfl) (Blk.arr1 (f := scells) (size := 6) (x := x) HBX.out) (by simp) (by have := HSA.out; omega) ?_; intro v2 w2 ho2 hg2 hat2; have hbw := HO1.out.below hg2 (Nat.le_refl base) (by have := HSA.out; omega); have HGB := Lib.hid (show Below V.heap.size V w2 from HGA.out.trans (hbw.mono (by have := HBS.out; omega))); have HO2 := Lib.hid ho2; have hsb : base ≤ w2.heap.size := (by have := HGB.out.size; have := HBS.out; omega); have HSB := Lib.hid hsb; clear hbw ho2 hg2 hat2)
        | (go_loud (refine step_app kdL (by rfl) _ _ (by rfl) base v2 ([] ++ [x]) (by rfl) HO2.out none 0 0 [] (by rfl) Arr.nil_ (by simp) (by have := HSB.out; omega) ?_); intro v3 w3 ho3 hg3 hat3; have hbw := HO2.out.below hg3 (Nat.le_refl base) (by have := HSB.out; omega); have HGC := Lib.hid (show Below V.heap.size V w3 from HGB.out.trans (hbw.mono (by have := HBS.out; omega))); have HO3 := Lib.hid ho3; clear hbw ho3 hg3 hat3))
      all_goals (try go_wp2_with fail)
      all_goals (
       go_roundw
       case rel => exact ⟨k + 1, v3, rfl, by go_num, by omega, HG1.out.trans ((HG2.out.trans (HGC.out.mono hvs2)).mono HG1.out.size), by
        rw [HN2.out, HIN.out]
        have h3 := HO3.out
        exact h3.mono (by have := HG1.out.size; have := HBS.out; omega)⟩
       case measure => simp [intOf]; omega)
     ·have HA1 := Lib.hid (HAV.out.take ht)
      have HA2 := Lib.hid (show Arr scells 6 V (if c = t then some ⟨b7, 0, none⟩ else some ⟨b7, t * 6, none⟩) (n - t) (L.drop t) by
       have h2 := Arr.drop HAV.out t
       rw [Nat.zero_add] at h2
       split
       ·exact ⟨h2.1, fun h => by omega⟩
       ·exact h2)
      obtain ⟨L1, hL1⟩ : ∃ l, L.take t = l := ⟨_, rfl⟩
      obtain ⟨L2, hL2⟩ : ∃ l, L.drop t = l := ⟨_, rfl⟩
      rw [hL1] at HA1 HIN
      rw [hL2] at HA2 HIN
      have HLL := Lib.hid (show L1.length ≤ 1000 by rw [HA1.out.1]; omega)
      clear hL1 hL2
      go_region_held3 (fun X => X.cell? ⟨V0.heap.size, 0, none⟩ = some (.int .i64 x.a) ∧ X.cell? ⟨V0.heap.size, 1, none⟩ = some (.int .i64 x.b) ∧ X.cell? ⟨V0.heap.size, 2, none⟩ = some (.int .i64 x.c) ∧ X.cell? ⟨V0.heap.size, 3, none⟩ = some (.int .i64 x.d) ∧ X.cell? ⟨V0.heap.size, 4, none⟩ = some (.int .i64 x.e) ∧ X.cell? ⟨V0.heap.size, 5, none⟩ = some (.int .i64 x.f))
       (with_reducible refine HKP.out _ ?_; repeat' first | (with_reducible exact Below.refl _ _) | (with_reducible exact HGA.out) | (with_reducible exact HGB.out) | (with_reducible exact HGC.out) | (with_reducible refine Below.drew ?_) | (with_reducible refine Below.allo9 ?_ (by first | (simp; done) | (simp; omega) | omega) _))
       (first
        | (refine step_app kdL (by rfl) _ _ (by rfl) base _ [] (by rfl) OE1.out (some ⟨b7, 0, none⟩) t c L1 (by rfl) (HA1.out.below GE1.out) (by simp; omega) (by have := GE1.out.size; have := HBS.out; omega) ?_; intro v1 w1 ho1 hg1 hat1; have hbw := OE1.out.below hg1 (Nat.le_refl base) (by have := GE1.out.size; have := HBS.out; omega); have HGA := Lib.hid (show Below V.heap.size V w1 from GE1.out.trans (hbw.mono (by have := HBS.out; omega))); have HO1 := Lib.hid (show OwnL scells 6 103 w1 base v1 L1 by simpa using ho1); have hsa : base ≤ w1.heap.size := (by have := HGA.out.size; have := HBS.out; omega); have HSA := Lib.hid hsa; clear hbw ho1 hg1 hat1)
        | (refine step_app kdL (by rfl) _ _ (by rfl) base _ [] (by rfl) OE2.out (some ⟨b7, 0, none⟩) t c L1 (by rfl) (HA1.out.below GE2.out) (by simp; omega) (by have := GE2.out.size; have := HBS.out; omega) ?_; intro v1 w1 ho1 hg1 hat1; have hbw := OE2.out.below hg1 (Nat.le_refl base) (by have := GE2.out.size; have := HBS.out; omega); have HGA := Lib.hid (show Below V.heap.size V w1 from GE2.out.trans (hbw.mono (by have := HBS.out; omega))); have HO1 := Lib.hid (show OwnL scells 6 103 w1 base v1 L1 by simpa using ho1); have hsa : base ≤ w1.heap.size := (by have := HGA.out.size; have := HBS.out; omega); have HSA := Lib.hid hsa; have HBX := Lib.hid (show Blk w1 (base + 1) 103 _ from (hg1.block (base + 1) BX2.out.lt (by simp [Value.ownBlock])).trans BX2.out); clear hbw ho1 hg1 hat1)
        | (refine step_app kdL (by rfl) _ _ (by rfl) base _ [] (by rfl) OE3.out (some ⟨b7, 0, none⟩) t c L1 (by rfl) (HA1.out.below GE3.out) (by simp; omega) (by have := GE3.out.size; have := HBS.out; omega) ?_; intro v1 w1 ho1 hg1 hat1; have hbw := OE3.out.below hg1 (Nat.le_refl base) (by have := GE3.out.size; have := HBS.out; omega); have HGA := Lib.hid (show Below V.heap.size V w1 from GE3.out.trans (hbw.mono (by have := HBS.out; omega))); have HO1 := Lib.hid (show OwnL scells 6 103 w1 base v1 L1 by simpa using ho1); have hsa : base ≤ w1.heap.size := (by have := HGA.out.size; have := HBS.out; omega); have HSA := Lib.hid hsa; have HBX := Lib.hid (show Blk w1 base 103 _ from (hg1.block base BX3.out.lt (by simp [Value.ownBlock])).trans BX3.out); clear hbw ho1 hg1 hat1)
        | (refine step_app kdL (by rfl) _ _ (by rfl) base v1 L1 (by rfl) (HO1.out.ext (one_more w1 (.cells #[.int .i64 x.a, .int .i64 x.b, .int .i64 x.c, .int .i64 x.d, .int .i64 x.e, .int .i64 x.f] 103))) _ _ _ [x] (by rfl) (Blk.arr1 (f := scells) (size := 6) (x := x) (Blk.new w1 103 _)) (by have := HLL.out; omega) (by have := HSA.out; rw [World.size_alloc]; omega) ?_; intro v2 w2 ho2 hg2 hat2; have hbw := (HO1.out.ext (one_more w1 (.cells #[.int .i64 x.a, .int .i64 x.b, .int .i64 x.c, .int .i64 x.d, .int .i64 x.e, .int .i64 x.f] 103))).below hg2 (Nat.le_refl base) (by have := HSA.out; rw [World.size_alloc]; omega); have HGB := Lib.hid (show Below V.heap.size V w2 from (HGA.out.trans ((one_more w1 _).mono (by have := HSA.out; have := HBS.out; omega))).trans (hbw.mono (by have := HBS.out; omega))); have HO2 := Lib.hid ho2; have hsb : base ≤ w2.heap.size := (by have := HGB.out.size; have := HBS.out; omega); have HSB := Lib.hid hsb; clear hbw ho2 hg2 hat2)
        | (refine step_app kdL (by rfl) _ _ (by rfl) base v1 L1 (by rfl) HO1.out _ _ _ [x] (by rfl) (Blk.arr1 (f := scells) (size := 6) (x := x) HBX.out) (by have := HLL.out; omega) (by have := HSA.out; omega) ?_; intro v2 w2 ho2 hg2 hat2; have hbw := HO1.out.below hg2 (Nat.le_refl base) (by have := HSA.out; omega); have HGB := Lib.hid (show Below V.heap.size V w2 from HGA.out.trans (hbw.mono (by have := HBS.out; omega))); have HO2 := Lib.hid ho2; have hsb : base ≤ w2.heap.size := (by have := HGB.out.size; have := HBS.out; omega); have HSB := Lib.hid hsb; clear hbw ho2 hg2 hat2)
        | (go_loud (refine step_app kdL (by rfl) _ _ (by rfl) base v2 (L1 ++ [x]) (by rfl) HO2.out (if c = t then some ⟨b7, 0, none⟩ else some ⟨b7, t * 6, none⟩) (n - t) (c - t) L2 (by rfl) (HA2.out.below HGB.out) (by have := HLL.out; simp; omega) (by have := HSB.out; omega) ?_); intro v3 w3 ho3 hg3 hat3; have hbw := HO2.out.below hg3 (Nat.le_refl base) (by have := HSB.out; omega); have HGC := Lib.hid (show Below V.heap.size V w3 from HGB.out.trans (hbw.mono (by have := HBS.out; omega))); have HO3 := Lib.hid ho3; clear hbw ho3 hg3 hat3))
      all_goals (try go_wp2_with fail)
      all_goals (
       go_roundw
       case rel => exact ⟨k + 1, v3, rfl, by go_num, by omega, HG1.out.trans ((HG2.out.trans (HGC.out.mono hvs2)).mono HG1.out.size), by
        rw [HN2.out, HIN.out]
        have h3 := HO3.out
        rw [List.append_assoc] at h3
        exact h3.mono (by have := HG1.out.size; have := HBS.out; omega)⟩
       case measure => simp [intOf]; omega)
  ·obtain rfl : n1 = k := by omega
   have HEND := Lib.hid (show OwnL scells 6 103 V0 W0.heap.size u (srtH (p.loads.filter fun x => cnt x known)) by have := HO.out; unfold cartK at this; rwa [List.take_of_length_le (by rw [HL1.out.1]; exact Nat.le_refl _)] at this)
   go_wp2_with fail
   go_ret
   exact ⟨⟨_, rfl, HEND.out.mono GA.out.size⟩, GA.out.trans (HG.out.mono GA.out.size)⟩
end Go.Proofs.YtkoejeghihcmlaaGreat

namespace Go.Proofs.YtkoejeghihcmlaaGreat
open Go.RowKit Go.Shelf
section
variable {α : Type} {f : α → List Value} {size : Nat} {e : TypeId}
theorem flat_set (hf : ∀ x, (f x).length = size) {ys : List α} {i j : Nat} {x x' : α} {u : Value} (hx : ys[i]? = some x) (hj : j < size) (hx' : f x' = (f x).set j u) : (ys.flatMap f).set (i * size + j) u = (ys.set i x').flatMap f := by
 have hi : i < ys.length := (List.getElem?_eq_some_iff.1 hx).1
 have hlen : i * size + j < (ys.flatMap f).length := by
  rw [flat_len hf]
  have : (i + 1) * size ≤ ys.length * size := Nat.mul_le_mul_right _ hi
  rw [Nat.succ_mul] at this
  omega
 apply List.ext_getElem?
 intro q
 have hq : q = q / size * size + q % size := (Nat.div_add_mod' q size).symm
 have hr : q % size < size := Nat.mod_lt _ (by omega)
 generalize q / size = k at hq
 generalize q % size = r at hq hr
 subst hq
 rw [flat_get hf _ k r hr, List.getElem?_set, List.getElem?_set]
 by_cases e1 : i = k
 ·subst e1
  rw [if_pos rfl, if_pos hi]
  show _ = (f x')[r]?
  rw [hx', List.getElem?_set]
  by_cases e2 : j = r
  ·subst e2
   rw [if_pos rfl, if_pos hlen, if_pos rfl, if_pos (by rw [hf]; exact hj)]
  ·rw [if_neg (by omega), if_neg e2, flat_get hf _ i r hr, hx]
   rfl
 ·rw [if_neg e1]
  have hne : ¬ i * size + j = k * size + r := by
   intro h
   rcases Nat.lt_or_gt_of_ne e1 with c | c
   ·have := Nat.mul_le_mul_right size c
    rw [Nat.succ_mul] at this
    omega
   ·have := Nat.mul_le_mul_right size c
    rw [Nat.succ_mul] at this
    omega
  rw [if_neg hne, flat_get hf _ k r hr]
/-- A store of one cell of an element. -/
theorem OwnL.put1 (hf : ∀ x, (f x).length = size) {w : World} {base g n cap i j : Nat} {ys : List α} {x x' : α} {u : Value} (h : OwnL f size e w base (.slice (some ⟨g, 0, none⟩) n cap) ys) (hx : ys[i]? = some x) (hj : j < size) (hx' : f x' = (f x).set j u) :
  OwnL f size e (w.setCell ⟨g, i * size + j, none⟩ u) base (.slice (some ⟨g, 0, none⟩) n cap) (ys.set i x') := by
 obtain ⟨hn0, hb, cur, hg, hn, hm, hs, ht⟩ := own_inv h
 refine own_mk hf (by rw [List.length_set]; exact hn0) hb (hg.set_ _ _) hn hm (by rw [Array.size_setIfInBounds]; exact hs) ?_
 rw [Array.toList_setIfInBounds, List.take_set, ht]
 exact flat_set hf hx hj hx'
end
theorem after_at {h : Int} {ls : List Six} {t : Nat} (hu : Up ls) (ht : t ≤ ls.length) (h1 : ∀ j, j < t → (ls.getD j z6).b ≤ h) (h2 : t < ls.length → h < (ls.getD t z6).b) : after ls h = t := by
 rcases Nat.lt_trichotomy (after ls h) t with c | c | c
 ·have := (after_spec hu (after ls h) (h := h) (by omega)).1 (h1 _ c)
  omega
 ·exact c
 ·have hl := after_len ls h
  have := (after_spec hu t (h := h) (by omega)).2 c
  have := h2 (by omega)
  omega
set_option maxRecDepth 100000 in
set_option maxHeartbeats 4000000 in
theorem refIndex_any (A : Option Addr) (n c : Nat) (L : List Six) (B : Option Addr) (m d : Nat) (hour : Int) (w : World) (ha : Arr scells 6 w A n L) (hn : n ≤ 1000) (hu : Up L) :
  Calls Tryz.prog 118 #[.agg #[.slice A n c, .slice B m d], .int .i64 hour] w fun e w' => e = .returned (.int .i64 (after L hour)) ∧ Below w.heap.size w w' := by
 obtain ⟨W0, hW0⟩ : ∃ W0, w.alloc (.cells #[.slice A n c, .slice B m d] 191) = W0 := ⟨_, rfl⟩
 have g0 : Below w.heap.size w W0 := by rw [← hW0]; exact one_more _ _
 have b0 : Blk W0 w.heap.size 191 #[.slice A n c, .slice B m d] := by rw [← hW0]; exact Blk.new _ _ _
 have HA := Lib.hid (ha.below g0)
 have hlen := Lib.hid ha.1
 have HU := Lib.hid hu
 have GA := Lib.hid g0
 have HW0 := Lib.hid hW0
 have q0 := b0.cell 0
 clear ha hu g0 b0 hW0
 go_enter Tryz.func118, Tryz.ntmps118
 go_upto_region 1 with fail
 rw [HW0.out]
 go_wp2_with fail
 go_loopw [5] (fun i wr => ∃ k : Nat, k ≤ n ∧ i = .int .i64 k ∧ W0 = wr ∧ ∀ j, j < k → (L.getD j z6).b ≤ hour) (fun i _ => n - (intOf i).toNat)
 case atStart => exact ⟨0, Nat.zero_le _, rfl, rfl, fun j hj => absurd hj (by omega)⟩
 case round =>
  obtain ⟨k, hk, rfl, rfl, hall⟩ := hrel
  have HALL := Lib.hid hall
  clear hall
  by_cases hkn : k < n
  ·obtain ⟨b8, o8, e8, -, -, hc8⟩ := six_at HA.out hkn
   obtain ⟨y, hyg⟩ : ∃ y, L.getD k z6 = y := ⟨_, rfl⟩
   rw [hyg] at hc8
   have u1 := (hc8 _ (Below.refl _ _)).2.1
   have hti : (k : Int) < (n : Int) := by omega
   have htd : decide (k < n) = true := decide_eq_true hkn
   subst e8
   have HY := Lib.hid hyg
   clear hc8 hyg
   by_cases hle : y.b ≤ hour
   ·have hled := decide_eq_true hle
    have HLE := Lib.hid hle
    go_wp2_with fail
    go_roundw
    case rel => exact ⟨k + 1, by omega, by go_num, by first | rfl | trivial, fun j hj => by
     by_cases e : j = k
     ·subst e; rw [HY.out]; exact HLE.out
     ·exact HALL.out j (by omega)⟩
    case measure => simp [intOf]; omega
   ·have hled := decide_eq_false hle
    have HR := Lib.hid (after_at (h := hour) (t := k) HU.out (by rw [hlen.out]; omega) HALL.out (fun _ => by rw [HY.out]; omega))
    go_wp2_with fail
    go_ret
    exact ⟨by rw [HR.out]; rfl, GA.out⟩
  ·obtain rfl : n = k := by omega
   have htd : decide (n < n) = false := decide_eq_false (by omega)
   have HR := Lib.hid (after_at (h := hour) (t := n) HU.out (by rw [hlen.out]; exact Nat.le_refl _) HALL.out (fun h => by rw [hlen.out] at h; omega))
   go_wp2_with fail
   go_ret
   exact ⟨by rw [HR.out]; rfl, GA.out⟩
end Go.Proofs.YtkoejeghihcmlaaGreat

namespace Go.Proofs.YtkoejeghihcmlaaGreat
open Go.ChangeShapes Go.WideShapes Go.ChangeAt Go.RowKit
theorem Tryz.own : ownKnob Tryz.prog.godebug = none := by kernel_rfl
theorem Tryz.laidOut : laidOutB Tryz.prog = true := by kernel_rfl
section
variable {H : Type} {enc : TypeId × Value → H} {P : Program}
/-- The arguments read behind the call as they read before. -/
theorem args_stay (hl : laidOutB P = true) {W W' : World} (hb : Below W.heap.size W W') {sp : Nat → Bool} :
  ∀ {ts : List TypeId} {vs : List Value} {ds : List (DataW H)} {ps : List MemPlace}, (ts.all fun t => P.readableRec t && decide (t < P.types.size)) = true → (∀ x ∈ ps, x.block < W.heap.size) → (∀ x ∈ ps, sp x.block = true) →
   DataW.TrodAll enc P W 0 (fun _ => true) true ts vs ds ps → DataW.TrodAll enc P W' 0 sp true ts vs ds ps
 | [], [], [], ps, _, _, _, h => h
 | t :: ts, v :: vs, d :: ds, ps, ht, hlt, hs, h => by
  obtain ⟨p, q, h1, h2, rfl⟩ := h
  simp only [List.all_cons, Bool.and_eq_true, decide_eq_true_eq] at ht
  exact ⟨p, q, WideElems.Trod_stays hl ht.1.1 ht.1.2 h1 (fun x hx => hb.same (hlt x (List.mem_append_left _ hx))) (fun x hx => hs x (List.mem_append_left _ hx)),
   args_stay hl hb ht.2 (fun x hx => hlt x (List.mem_append_right _ hx)) (fun x hx => hs x (List.mem_append_right _ hx)) h2, rfl⟩
 | [], [], _ :: _, _, _, _, _, h => h.elim
 | [], _ :: _, [], _, _, _, _, h => h.elim
 | [], _ :: _, _ :: _, _, _, _, _, h => h.elim
 | _ :: _, [], [], _, _, _, _, h => h.elim
 | _ :: _, [], _ :: _, _, _, _, _, h => h.elim
 | _ :: _, _ :: _, [], _, _, _, _, h => h.elim
/-- The end of a row: true came back; nothing that was there has turned. -/
theorem law_post {f : Func} {s : ChangeSpec} {apart fresh handsOn again : Bool} {W W' : World} {args : Array Value} {ds : List (DataW H)} {before : List MemPlace} (hl : laidOutB P = true)
  (hW : DataW.Whole enc P f.params.toList s.vars apart W args.toList ds [] before) (hA : DataW.TrodAll enc P W 0 (fun _ => true) true f.params.toList args.toList ds before) (hv : s.vars = [])
  (hrt : f.resultTypes = #[4]) (h4 : P.underlying 4 = some .bool) (hres : (s.fn H (ds ++ [])).results = [.lit (.bool true)]) (hargs : (s.fn H (ds ++ [])).args = ds) (hvars : (s.fn H (ds ++ [])).vars = [])
  (hp : (f.params.toList.all fun t => P.readableRec t && decide (t < P.types.size)) = true) (hb : Below W.heap.size W W') : s.post enc P f apart fresh handsOn again W args (.bool true) W' := by
 have hlt : ∀ p ∈ before, p.block < W.heap.size := fun p hp => hW.lt p hp
 have hA' : ∀ sp : Nat → Bool, (∀ p ∈ before, sp p.block = true) → DataW.TrodAll enc P W' 0 sp true f.params.toList args.toList (s.fn H (ds ++ [])).args before :=
  fun sp hsp => by rw [hargs]; exact args_stay hl hb hp hlt hsp hA
 have hV' : ∀ sp : Nat → Bool, DataW.TrodVars enc P W' sp s.vars (s.fn H (ds ++ [])).vars [] := fun sp => by rw [hv, hvars]; rfl
 have hR : ∀ (b : Nat) (sp : Nat → Bool) (hd : Bool), DataW.TrodAll enc P W' b sp hd f.resultTypes.toList ((Value.bool true).resultList f.resultTypes.size) (s.fn H (ds ++ [])).results [] := fun b sp hd => by
  rw [hres, hrt]; exact trodAll_mk1 (shut_bool h4 _)
 have hold : ∀ p ∈ before, (fun b => decide (b < W.heap.size)) p.block = true := fun p hp => by simpa using hlt p hp
 refine ⟨ds, [], before, [], before, [], hW, hR _ _ _, hA' _ hold, hV' _, World.keptBut_mono (fun p hp => ⟨hp, .inr (.inl hp)⟩) (hb.frame (· ∈ before)), fun _ => ?_⟩
 obtain ⟨_, _, _, _, _, hz, hn⟩ := hW
 refine ⟨?_, _, _, ([] ++ before) ++ [], ⟨[] ++ before, [], trodAll_append (hA' _ (fun _ _ => rfl)) (hR _ _ _), hV' _, rfl, ?_, ?_⟩, ?_⟩
 ·intro j t r hj hr
  exact ok_one hrt rfl (okWide_bool_mk h4 _) j t r hj hr
 ·intro b off hp
  have hin : MemPlace.cell b off ∈ before := by simpa using hp
  rw [hb.frozen (hlt _ hin)]
  exact hz b off hin
 ·intro ha
  have := hn ha
  simpa using this
 ·intro p hp _
  simpa using hp
end
theorem cells3 : Tryz.prog.cellsOf 3 = 1 := by kernel_rfl
section
variable {H : Type} {enc : TypeId × Value → H} {w : World} {base : Nat} {sp : Nat → Bool} {held : Bool} {fuel : Nat} {cs : List Value} {x : DataW H × List MemPlace}
theorem openInt (h : DataW.trod enc Tryz.prog w base sp held fuel 3 cs = some x) : ∃ a : Int, cs = [.int .i64 a] ∧ -9223372036854775808 ≤ a ∧ a ≤ 9223372036854775807 := by
 obtain ⟨a, ha, -, hw⟩ := DataW.trod_int Tryz.underlying3 h
 refine ⟨a, ha, ?_⟩
 have := hw
 simp [Lit.wf, IntKind.min, IntKind.max, IntKind.signed, IntKind.bits] at this
 omega
/-- A slice whose elements are known reads as a list. -/
theorem openSlice {α : Type} [Inhabited α] {f : α → List Value} {size : Nat} {t e : TypeId} (ht : Tryz.prog.underlying t = some (.slice e)) (he : Tryz.prog.cellsOf e = size) (hs : 0 < size)
  (hel : ∀ fuel cs x, DataW.trod enc Tryz.prog w base sp held fuel e cs = some x → ∃ a, cs = f a) (h : DataW.trod enc Tryz.prog w base sp held fuel t cs = some x) :
  ∃ A n c xs, cs = [.slice A n c] ∧ n ≤ c ∧ c ≤ maxLen ∧ Arr f size w A n xs := by
 rcases DataW.trod_slice ht h with ⟨h0, -⟩ | ⟨a, len, cap, elems, rest, n, -, rfl, -, hb, hl, hm, hlen, hel1, -, -⟩
 ·exact ⟨none, 0, 0, [], h0, Nat.le_refl _, Nat.zero_le _, Arr.nil_⟩
 ·have each : ∀ i, i < len → ∃ y, w.cells? base (a.add (i * size)) size = some (f y) := by
   intro i hi
   have h1 := hel1 i hi
   rw [List.getElem?_eq_getElem (by omega), he] at h1
   obtain ⟨cs', h2, h3⟩ := Option.bind_eq_some_iff.1 h1
   obtain ⟨y, rfl⟩ := hel _ _ _ h3
   exact ⟨y, h2⟩
  obtain ⟨q, hq⟩ := Go.Deep.choose_lt each
  refine ⟨some a, len, cap, (List.range len).map q, rfl, hl, hm, by simp, fun hn => ?_⟩
  obtain ⟨b, o, spot⟩ := a
  have h0 := World.cells?_some (hq 0 hn)
  have hne : ∃ c0, (f (q 0))[0]? = some c0 := ⟨_, List.getElem?_eq_getElem (by rw [h0.2.1]; exact hs)⟩
  obtain ⟨c0, hc0⟩ := hne
  have g0 := h0.2.2 0 hs
  rw [hc0] at g0
  have hspot : spot = none := by simpa [Addr.add] using World.cell?_spot g0
  subst hspot
  have hbl := World.block_lt_of_cell? w _ g0
  simp only [Nat.zero_mul, add_at, Nat.add_zero] at hbl
  refine ⟨b, o, rfl, hbl, fun k y hy j u hu => ?_⟩
  have hk : k < len := by have := (List.getElem?_eq_some_iff.1 hy).1; simpa using this
  have ey : y = q k := by rw [List.getElem?_map, List.getElem?_range hk] at hy; simpa using hy.symm
  subst ey
  have hk2 := World.cells?_some (hq k hk)
  have hj : j < size := by rw [← hk2.2.1]; exact (List.getElem?_eq_some_iff.1 hu).1
  have := hk2.2.2 j hj
  rw [add_at, add_at, hu] at this
  exact this
instance : Inhabited {q : Q4 // I64 q.a ∧ I64 q.b ∧ I64 q.c ∧ I64 q.d} := ⟨⟨z4, by unfold I64; decide⟩⟩
theorem Arr.vals_ {α β : Type} {f : α → List Value} {g : β → α} {size : Nat} {w : World} {A : Option Addr} {n : Nat} {xs : List β} (h : Arr (fun x => f (g x)) size w A n xs) : Arr f size w A n (xs.map g) := by
 refine ⟨by rw [List.length_map]; exact h.1, fun h0 => ?_⟩
 obtain ⟨b, o, e, hb, hc⟩ := h.2 h0
 refine ⟨b, o, e, hb, fun k y hy j u hu => ?_⟩
 rw [List.getElem?_map] at hy
 obtain ⟨z, hz, rfl⟩ := Option.map_eq_some_iff.1 hy
 exact hc k z hz j u hu
variable {r : Reach} {b0 : Nat} {v : Value} {d : DataW H} {p : List MemPlace}
end
end Go.Proofs.YtkoejeghihcmlaaGreat
