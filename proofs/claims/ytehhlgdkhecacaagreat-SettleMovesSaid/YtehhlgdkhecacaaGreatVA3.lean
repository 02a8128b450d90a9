/- Part of the proof: BN, BO, BP, BQ, BR, BS, BV, BW, PD, PE, BX, BY, BZ, CB, DA, DB, FI, ED. -/
import Derived.Laws.OwnMore
import Derived.Laws.MakeOwn
import Derived.Test.YtehhlgdkhecacaaGreatVA0
import Derived.Test.YtehhlgdkhecacaaGreatVA1
import Derived.Test.YtehhlgdkhecacaaGreatVA2
namespace Go.Proofs.YtehhlgdkhecacaaGreat
open Go.RowKit Go.Shelf
attribute [local go_sem] Oper.semAt_some
/-- The blocks of Pb lie as they lay. -/
structure Ag (Pb : Nat → Prop) (w0 W : World) : Prop where
 size : w0.heap.size ≤ W.heap.size
 same : ∀ k, Pb k → W.heap[k]? = w0.heap[k]?
theorem Ag.refl (Pb : Nat → Prop) (w0 : World) : Ag Pb w0 w0 := ⟨Nat.le_refl _, fun _ _ => rfl⟩
theorem Ag.below {Pb : Nat → Prop} {w0 W W' : World} (h : Ag Pb w0 W) (hl : ∀ k, Pb k → k < w0.heap.size) (g : Below W.heap.size W W') : Ag Pb w0 W' :=
 ⟨Nat.le_trans h.size g.size, fun k hk => (g.block k (Nat.lt_of_lt_of_le (hl k hk) h.size)).trans (h.same k hk)⟩
theorem Arr.ag {α : Type} {f : α → List Value} {size : Nat} {Pb : Nat → Prop} {w0 W : World} {A : Option Addr} {n : Nat} {xs : List α} (h : Arr f size w0 A n xs) (hA : ∀ b o, A = some ⟨b, o, none⟩ → 0 < n → Pb b) (g : Ag Pb w0 W) : Arr f size W A n xs :=
 ⟨h.1, fun hn => by
  obtain ⟨b, o, rfl, hb, hh⟩ := h.2 hn
  have hp := hA b o rfl hn
  exact ⟨b, o, rfl, Nat.lt_of_lt_of_le hb g.size, fun k x hx j u hu => (World.cell?_of_block (a := ⟨b, o + k * size + j, none⟩) (g.same b hp)).trans (hh k x hx j u hu)⟩⟩
/-- The iterator's memory: its three boxes, the row of the reading so far (b). -/
structure SJ (Pb : Nat → Prop) (w0 : World) (D bq bR bY bS l : Nat) (A : Option Addr) (n c : Nat) (F : Nat → Prop) (W : World) (v : Value) (b : List Int) : Prop where
 data : Ag Pb w0 W
 lt : ∀ k, Pb k → k < w0.heap.size
 q : Blk W bq 22 #[.slice A n c]
 r : Blk W bR 25 #[v]
 y : Blk W bY 149 #[.func (.yield l) #[] #[]]
 s : Blk W bS 33 #[stepF bR bq bY bS]
 o : OwnL icells 1 3 W D v b
 fq : ¬ F bq
 fR : ¬ F bR
 fY : ¬ F bY
 fS : ¬ F bS
 fo : ∀ k, v.ownBlock = some k → ¬ F k
 lo : ∀ k, F k → ¬ Pb k
 up : ∀ k, F k → k < W.heap.size
section
variable {Pb : Nat → Prop} {w0 : World} {D bq bR bY bS l : Nat} {A : Option Addr} {n c : Nat} {F F' : Nat → Prop} {W W' : World} {v : Value} {b : List Int}
theorem SJ.below (h : SJ Pb w0 D bq bR bY bS l A n c F W v b) (g : Below W.heap.size W W') : SJ Pb w0 D bq bR bY bS l A n c F W' v b :=
 ⟨h.data.below h.lt g, h.lt, h.q.ext g, h.r.ext g, h.y.ext g, h.s.ext g, h.o.ext g, h.fq, h.fR, h.fY, h.fS, h.fo, h.lo, fun k hk => Nat.lt_of_lt_of_le (h.up k hk) g.size⟩
theorem SJ.round (h : SJ Pb w0 D bq bR bY bS l A n c F W v b) (g : Ro F F' W W') : SJ Pb w0 D bq bR bY bS l A n c F' W' v b := by
 have nf : ∀ k, k < W.heap.size → ¬ F k → ¬ F' k := fun k hk hf e => by
  rcases g.foot k e with e | e
  ·exact hf e
  ·omega
 have ho : W.grownBy W' none → True := fun _ => trivial
 refine ⟨⟨Nat.le_trans h.data.size g.size, fun k hk => (g.keep k (Nat.lt_of_lt_of_le (h.lt k hk) h.data.size) (fun e => h.lo k e hk)).trans (h.data.same k hk)⟩, h.lt,
  (g.keep _ h.q.lt h.fq).trans h.q, (g.keep _ h.r.lt h.fR).trans h.r, (g.keep _ h.y.lt h.fY).trans h.y, (g.keep _ h.s.lt h.fS).trans h.s, ?_, nf _ h.q.lt h.fq, nf _ h.r.lt h.fR, nf _ h.y.lt h.fY, nf _ h.s.lt h.fS, fun k hk => ?_, fun k hk => ?_, fun k hk => ?_⟩
 ·obtain ⟨h1, h2 | ⟨g', cap, cur, hv, hb, hg, h4⟩⟩ := h.o
  ·exact ⟨h1, .inl h2⟩
  ·refine ⟨h1, .inr ⟨g', cap, cur, hv, hb, ?_, h4⟩⟩
   have hlt : g' < W.heap.size := (Array.getElem?_eq_some_iff.1 hg).1
   exact (g.keep g' hlt (h.fo g' (by rw [hv]; rfl))).trans hg
 ·obtain ⟨-, cur, hb⟩ := own_block h.o hk
  exact nf k hb.lt (h.fo k hk)
 ·rcases g.foot k hk with e | e
  ·exact h.lo k e
  ·intro hp
   have h1 := h.lt k hp
   have h2 := h.data.size
   omega
 ·rcases g.foot k hk with e | e
  ·exact Nat.lt_of_lt_of_le (h.up k e) g.size
  ·exact e.2
/-- Blocks are apart. -/
theorem SJ.ne (h : SJ Pb w0 D bq bR bY bS l A n c F W v b) : bq ≠ bR ∧ bY ≠ bR ∧ bS ≠ bR ∧ ∀ k, v.ownBlock = some k → k ≠ bq ∧ k ≠ bR ∧ k ≠ bY ∧ k ≠ bS := by
 refine ⟨fun e => ?_, fun e => ?_, fun e => ?_, fun k hk => ?_⟩
 ·exact absurd (blk_type (e ▸ h.q) h.r) (by decide)
 ·exact absurd (blk_type (e ▸ h.y) h.r) (by decide)
 ·exact absurd (blk_type (e ▸ h.s) h.r) (by decide)
 ·obtain ⟨-, cur, hb⟩ := own_block h.o hk
  refine ⟨fun e => ?_, fun e => ?_, fun e => ?_, fun e => ?_⟩
  ·exact absurd (blk_type (e ▸ hb) h.q) (by decide)
  ·exact absurd (blk_type (e ▸ hb) h.r) (by decide)
  ·exact absurd (blk_type (e ▸ hb) h.y) (by decide)
  ·exact absurd (blk_type (e ▸ hb) h.s) (by decide)
/-- A new value in the reading's box. -/
theorem SJ.store (h : SJ Pb w0 D bq bR bY bS l A n c F W v b) (hR : w0.heap.size ≤ bR) {V : World} {v2 : Value} {b2 : List Int} (hg : W.grownBy V v.ownBlock) (hD : w0.heap.size ≤ D) (ho : OwnL icells 1 3 V D v2 b2) (hz : v2.ownBlock = none ∨ v2.ownBlock = v.ownBlock ∨ ∃ k, v2.ownBlock = some k ∧ W.heap.size ≤ k) : SJ Pb w0 D bq bR bY bS l A n c F (V.setCell ⟨bR, 0, none⟩ v2) v2 b2 := by
 obtain ⟨n1, n2, n3, n4⟩ := h.ne
 have keep : ∀ {g : Nat} {t : TypeId} {cs : Array Value}, Blk W g t cs → (∀ k, v.ownBlock = some k → k ≠ g) → Blk V g t cs := fun {g t cs} hb hne => (hg.block g hb.lt (fun e => hne g e.symm rfl)).trans hb
 have vq := keep h.q (fun k hk => (n4 k hk).1)
 have vr := keep h.r (fun k hk => (n4 k hk).2.1)
 have vy := keep h.y (fun k hk => (n4 k hk).2.2.1)
 have vs := keep h.s (fun k hk => (n4 k hk).2.2.2)
 have vd : Ag Pb w0 V := ⟨Nat.le_trans h.data.size hg.size, fun k hk => (hg.block k (Nat.lt_of_lt_of_le (h.lt k hk) h.data.size) (fun e => by
  have h1 := (own_block h.o e.symm).1
  have h2 := h.lt k hk
  omega)).trans (h.data.same k hk)⟩
 refine ⟨⟨by simpa [World.setCell] using vd.size, fun k hk => (Below.heap_setCell _ _ _ _ (by have := h.lt k hk; show k ≠ bR; omega)).trans (vd.same k hk)⟩, h.lt, vq.far n1 v2, ?_, vy.far n2 v2, vs.far n3 v2, ?_, h.fq, h.fR, h.fY, h.fS, fun k hk hf => ?_, h.lo, fun k hk => ?_⟩
 ·have := vr.set_ 0 v2
  exact this
 ·obtain ⟨h1, h2 | ⟨g', cap, cur, hv, hb, hg', h4⟩⟩ := ho
  ·exact ⟨h1, .inl h2⟩
  ·refine ⟨h1, .inr ⟨g', cap, cur, hv, hb, ?_, h4⟩⟩
   exact Blk.far (p := ⟨bR, 0, none⟩) (show Blk V g' 3 cur from hg') (fun e => absurd (blk_type (show Blk V g' 3 cur from hg') (show Blk V g' 25 #[v] from (show g' = bR from e) ▸ vr)) (by decide)) v2
 ·rcases hz with e | e | ⟨k', e, hk'⟩
  ·rw [e] at hk; cases hk
  ·exact h.fo k (e ▸ hk) hf
  ·rw [e] at hk
   cases hk
   have := h.up k hf
   omega
 ·have := h.up k hk
  have := hg.size
  simp [World.setCell]
  omega
end
/-- What the closure comes to. -/
def StepJ (Pb : Nat → Prop) (w0 : World) (D bq bR bY bS l : Nat) (A : Option Addr) (n c : Nat) (J Jx : (Nat → Prop) → List Rd → World → Prop) (pre : List Rd) (ms : List (List Int)) (b : List Int) (e : Ending) (W' : World) : Prop :=
 ∃ F' v' rb, SJ Pb w0 D bq bR bY bS l A n c F' W' v' b ∧ e = .returned (.bool rb) ∧ (rb = true → ∃ xs, xs.map Rd.r = ms ∧ J F' (pre ++ xs) W') ∧ (rb = false → ∃ xs, (∃ post, xs.map Rd.r ++ post = ms) ∧ Jx F' (pre ++ xs) W')
set_option maxRecDepth 100000 in
set_option maxHeartbeats 8000000 in
theorem stepJ_leaf (Pb : Nat → Prop) (w0 : World) (A : Option Addr) (n c : Nat) (lp : List Pf) (D bq bR bY bS l : Nat)
  (J Jx : (Nat → Prop) → List Rd → World → Prop)
  (hY : ∀ m F pre x A, J F pre A → GwR (lp.map Pf.q) pre x A → YieldAt Fence.wide m Tryz.prog l (encR x) A fun e B => ∃ F', Ro F F' A B ∧ ((e = .returned (.bool true) ∧ J F' (pre ++ [x]) B) ∨ (e = .returned (.bool false) ∧ Jx F' (pre ++ [x]) B)))
  (b : List Int) (pre : List Rd) (F : Nat → Prop) (v : Value) (W : World) (m : Nat) (hb : b.length = n) (hs : SJ Pb w0 D bq bR bY bS l A n c F W v b) (hj : J F pre W) (hp : ∃ post, pre.map Rd.r ++ [b] ++ post = reads (lp.map Pf.q)) :
  CallsIn Fence.wide m Tryz.prog 137 #[ptr bR, ptr bq, ptr bY, ptr bS] W (StepJ Pb w0 D bq bR bY bS l A n c J Jx pre [b] b) := by
 obtain ⟨Av, cv, rfl, hle, hcm, harr, hob⟩ := OwnL.arr kdI hs.o
 obtain ⟨post, hpost⟩ := hp
 obtain ⟨fn, tmps, assign, body, hy, hR⟩ := hY (m - 1) F pre ⟨Av, b.length, cv, b⟩ W hj ⟨harr, hle, hcm, post, by rw [← hpost, List.append_assoc]; rfl⟩
 have HS := Lib.hid hs
 have c0 := hs.r.cell 0
 have c1 := hs.q.cell 0
 have c2 := hs.y.cell 0
 have HB := Lib.hid hb
 obtain ⟨bl, hbl⟩ : ∃ k, b.length = k := ⟨_, rfl⟩
 rw [hbl] at hb c0 hy hR
 unfold encR at hy
 dsimp only at hy
 subst hb
 clear hs hj hpost hle hcm harr hob hY
 refine callsIn_of_wp Tryz.func137 rfl trivial ?_ rfl
 simp only [Tryz.ntmps137, List.size_toArray, List.length_cons, List.length_nil, Nat.reduceAdd, Nat.reduceSub, Array.replicate_succ, Array.replicate_zero, List.push_toArray, List.append_toArray, List.nil_append, List.cons_append]
 gi_wp2
 refine ⟨fun h => (by simp [Fence.wide] at h), hR.mono ?_⟩
 rintro e B ⟨F', hro, ⟨rfl, hj2⟩ | ⟨rfl, hj2⟩⟩
 ·have HRO := Lib.hid hro
  clear hR hy hro c0 c1 c2
  gi_wp2
  go_ret
  exact ⟨F', _, true, HS.out.round HRO.out, rfl, fun _ => ⟨_, rfl, hj2⟩, fun h => absurd h (by decide)⟩
 ·have HRO := Lib.hid hro
  clear hR hy hro c0 c1 c2
  gi_wp2
  go_ret
  exact ⟨F', _, false, HS.out.round HRO.out, rfl, fun h => absurd h (by decide), fun _ => ⟨_, ⟨[], rfl⟩, hj2⟩⟩
set_option maxRecDepth 100000 in
set_option maxHeartbeats 16000000 in
theorem stepJ_any (Pb : Nat → Prop) (w0 : World) (A : Option Addr) (n c : Nat) (lp : List Pf) (hpr : ∀ W, Ag Pb w0 W → Prf W A n lp) (hn : n ≤ 1000) (D bq bR bY bS l : Nat) (hD : w0.heap.size ≤ D) (hR0 : w0.heap.size ≤ bR) (hRD : D ≤ bR)
  (J Jx : (Nat → Prop) → List Rd → World → Prop) (hJ : Abide D J) (hJx : Abide D Jx)
  (hY : ∀ m F pre x A, J F pre A → GwR (lp.map Pf.q) pre x A → YieldAt Fence.wide m Tryz.prog l (encR x) A fun e B => ∃ F', Ro F F' A B ∧ ((e = .returned (.bool true) ∧ J F' (pre ++ [x]) B) ∨ (e = .returned (.bool false) ∧ Jx F' (pre ++ [x]) B))) :
  ∀ (k : Nat) (b : List Int) (pre : List Rd) (F : Nat → Prop) (v : Value) (W : World) (m : Nat), b.length + k = n → SJ Pb w0 D bq bR bY bS l A n c F W v b → J F pre W → (∃ post, pre.map Rd.r ++ moreK (lp.map Pf.q) k b ++ post = reads (lp.map Pf.q)) →
  CallsIn Fence.wide m Tryz.prog 137 #[ptr bR, ptr bq, ptr bY, ptr bS] W (StepJ Pb w0 D bq bR bY bS l A n c J Jx pre (moreK (lp.map Pf.q) k b) b)
 | 0, b, pre, F, v, W, m, hb, hs, hj, hp => stepJ_leaf Pb w0 A n c lp D bq bR bY bS l J Jx hY b pre F v W m (by omega) hs hj hp
 | k + 1, b, pre, F, v, W, m, hb, hs, hj, hp => by
  have IH := fun (y : Int) (pre' : List Rd) (F' : Nat → Prop) (v' : Value) (W' : World) (m' : Nat) (h1 : SJ Pb w0 D bq bR bY bS l A n c F' W' v' (b ++ [y])) (h2 : J F' pre' W') (h3 : ∃ post, pre'.map Rd.r ++ moreK (lp.map Pf.q) k (b ++ [y]) ++ post = reads (lp.map Pf.q)) =>
   stepJ_any Pb w0 A n c lp hpr hn D bq bR bY bS l hD hR0 hRD J Jx hJ hJx hY k (b ++ [y]) pre' F' v' W' m' (by simp; omega) h1 h2 h3
  have hLen := (hpr _ hs.data).len
  have hbn : b.length < n := by omega
  obtain ⟨Av, cv, rfl, hle, hcm, harr, hob⟩ := OwnL.arr kdI hs.o
  obtain ⟨post, hpost⟩ := hp
  have hPRW := hpr _ hs.data
  obtain ⟨pb0, po0, rfl, -, hpi, hpm, hpc⟩ := hPRW.at hbn
  obtain ⟨p, hpp⟩ : ∃ p, lp.getD b.length p0 = p := ⟨_, rfl⟩
  rw [hpp] at hpi hpm hpc
  have hpq : ((lp.map Pf.q).getD b.length q0) = p.q := by rw [map_pf (by rw [hLen]; exact hbn), hpp]
  obtain ⟨e0, e1, e2, e3, e4, e5, e6, e7, e8⟩ := hpc _ (Below.refl _ _)
  obtain ⟨pA, hpA⟩ : ∃ a, p.A = a := ⟨_, rfl⟩
  rw [hpA] at e2
  have HPI := Lib.hid ((hpr _ hs.data).p p hpm)
  have HPA := Lib.hid (show ∀ W', Ag Pb w0 W' → Ints W' pA p.n p.q.per by intro W' gW; rw [← hpA]; exact ((hpr W' gW).p p hpm).i)
  have hmk : moreK (lp.map Pf.q) (k + 1) b = (p.q.per.filter fun n => fitB (lp.map Pf.q) b n).flatMap fun n => moreK (lp.map Pf.q) k (b ++ [n]) := by
   show ((((lp.map Pf.q).getD b.length q0).per).filter _).flatMap _ = _
   rw [hpq]
  rw [hmk] at hpost ⊢
  have hplen := HPI.out.len
  have hpm2 := HPI.out.m
  have HS := Lib.hid hs
  have HJ0 := Lib.hid hj
  have HPOST := Lib.hid hpost
  have HIH := Lib.hid IH
  have HJA := Lib.hid hJ
  have HJXA := Lib.hid hJx
  have HPR := Lib.hid hpr
  have HPL := Lib.hid hplen
  have c0 := hs.r.cell 0
  have c1 := hs.q.cell 0
  have hbl : (b.length : Int) < (n : Int) := by omega
  have hbne : ((b.length : Int) == (n : Int)) = false := by simp; omega
  obtain ⟨bl, hbl2⟩ : ∃ k, b.length = k := ⟨_, rfl⟩
  have HBL := Lib.hid hbl2
  rw [hbl2] at c0 hbl hbne e0 e1 e2 e3 e4 e5 e6 e7 e8 hbn
  clear hs hj hpost hle hcm harr hob hY hJ hJx IH hpi hpm hpc hpp hpq hmk hpA hplen hbl2 hpr hPRW hb
  refine callsIn_of_wp Tryz.func137 rfl trivial ?_ rfl
  simp only [Tryz.ntmps137, List.size_toArray, List.length_cons, List.length_nil, Nat.reduceAdd, Nat.reduceSub, Array.replicate_succ, Array.replicate_zero, List.push_toArray, List.append_toArray, List.nil_append, List.cons_append]
  gi_wp2
  gi_loopw [23] (fun i wr => ∃ (j : Nat) (F' : Nat → Prop) (v' : Value) (xs : List Rd), i = .int .i64 j ∧ j ≤ p.n ∧ SJ Pb w0 D bq bR bY bS l (some ⟨pb0, po0, none⟩) n c F' wr v' b ∧ J F' (pre ++ xs) wr ∧ xs.map Rd.r = ((p.q.per.take j).filter fun n => fitB (lp.map Pf.q) b n).flatMap fun n => moreK (lp.map Pf.q) k (b ++ [n])) (fun i _ => p.n - (intOf i).toNat)
  case atStart => exact ⟨0, F, _, [], rfl, Nat.zero_le _, HS.out, by simpa using HJ0.out, by simp⟩
  case round =>
   obtain ⟨j, F', v', xs, rfl, hj, hs, hjj, hxs⟩ := hrel
   have HSR := Lib.hid hs
   have HJJ := Lib.hid hjj
   have HXS := Lib.hid hxs
   clear hxs hjj
   by_cases hjn : j < p.n
   ·have hwr2 : wrap64 ((j : Int) + 1) = (j : Int) + 1 := wrap_in (by omega)
    obtain ⟨b2, o2, rfl, -, -, hc2⟩ := ints_at (HPA.out _ hs.data) hjn
    have d0 := hc2 _ (Below.refl _ _)
    obtain ⟨y, hy⟩ : ∃ y, p.q.per.getD j 0 = y := ⟨_, rfl⟩
    rw [hy] at d0
    have HFT := Lib.hid (flatR_take (c := lp.map Pf.q) (k := k) (b := b) (per := p.q.per) (j := j) (by rw [HPL.out]; exact hjn))
    have HFS := Lib.hid (flatR_split (c := lp.map Pf.q) (k := k) (b := b) (per := p.q.per) (j := j) (by rw [HPL.out]; exact hjn))
    rw [hy] at HFT HFS
    obtain ⟨Av', cv', rfl, hle', hcm', harr', hob'⟩ := OwnL.arr kdI hs.o
    have c0 := hs.r.cell 0
    have c1 := hs.q.cell 0
    rw [HBL.out] at c0
    have TF := fits_any (some ⟨pb0, po0, none⟩) n c lp Av' bl cv' b y wr (HPR.out _ hs.data) hn (by rw [HBL.out] at harr'; exact harr') hbn
    obtain ⟨fv, hfv⟩ : ∃ s, fitB (lp.map Pf.q) b y = s := ⟨_, rfl⟩
    rw [hfv] at TF HFT HFS
    have HTF := Lib.hid TF
    clear hs hc2 hy TF hle' hcm' harr' hob' hfv e0 e1 e2 e3 e4 e5 e6 e7 e8
    have HN4 := Lib.hid (show (b ++ [y]).length = bl + 1 by rw [List.length_append, HBL.out]; rfl)
    have hw4 : wrap64 (((bl + 1 : Nat) : Int) - 1) = (bl : Int) := by rw [wrap_in (by omega)]; omega
    cases fv with
    | false =>
     gi_wp2_with (refine ⟨trivial, fun h => (by simp [Fence.wide] at h), ?_⟩; gi_at_call 127; refine (callsIn_wide.2 HTF.out).mono ?_; rintro e V ⟨rfl, hg⟩; have HG := Lib.hid hg; have HSV := Lib.hid (HSR.out.below hg); have HJV := Lib.hid (HJA.out _ _ _ _ HJJ.out (It.of_below hg)); clear hg c0 c1 d0)
     go_roundw
     case rel => exact ⟨j + 1, F', _, xs, by go_num, by omega, HSR.out.below HG.out, HJA.out _ _ _ _ HJJ.out (It.of_below HG.out), by rw [HXS.out, HFT.out, if_neg (by decide), List.append_nil]⟩
     case measure => simp [intOf]; omega
    | true =>
     have HPP := Lib.hid (show ∃ post, (pre ++ xs).map Rd.r ++ moreK (lp.map Pf.q) k (b ++ [y]) ++ post = reads (lp.map Pf.q) from ⟨_, by
      rw [List.map_append, HXS.out, ← HPOST.out, HFS.out, if_pos rfl]
      simp only [List.append_assoc]
      rfl⟩)
     gi_wp2_with (first
      | (refine ⟨trivial, fun h => (by simp [Fence.wide] at h), ?_⟩; gi_at_call 127; refine (callsIn_wide.2 HTF.out).mono ?_; rintro e V ⟨rfl, hg⟩; have HG := Lib.hid hg; have HSV := Lib.hid (HSR.out.below hg); have HJV := Lib.hid (HJA.out _ _ _ _ HJJ.out (It.of_below hg)); clear hg c0 c1 d0; have c0 := HSV.out.r.cell 0; have g1 := one_more V (.cells #[.int .i64 y] 3); have HSX := Lib.hid (HSV.out.below g1); have HJX := Lib.hid (HJA.out _ _ _ _ HJV.out (It.of_below g1)); have HI1 := Lib.hid (one_int (Blk.new V 3 #[.int .i64 y])); have HBL2 := Lib.hid (show b.length + 1 ≤ 1000000 by have := HBL.out; omega); have HDV := Lib.hid (show D ≤ (V.alloc (.cells #[.int .i64 y] 3)).heap.size by have := HSX.out.r.lt; omega); rw [HBL.out] at c0; clear g1)
      | (gi_at_builtin; go_loud (refine wpListIn_app kdI (by rfl) _ _ (by rfl) D _ b (by rfl) (by rw [← HBL.out]; exact HSX.out.o) _ 1 1 [y] (by rfl) HI1.out HBL2.out HDV.out ?_); intro v2 V2 ho2 hg2 hz2; obtain ⟨A2, k2, hv2, -, -, -, -⟩ := OwnL.arr kdI ho2; obtain ⟨n2, hn2⟩ : ∃ q, (b ++ [y]).length = q := ⟨_, rfl⟩; rw [hn2] at hv2; subst hv2; have HS3 := Lib.hid (HSX.out.store hR0 (by rw [HBL.out]; exact hg2) hD ho2 (by rw [HBL.out]; rcases hz2 with e | e; exact .inr (.inl e); exact .inr (.inr ⟨_, e, Nat.le_refl _⟩))); have HJ3 := Lib.hid (HJA.out _ _ _ _ HJX.out ((It.of_grown hg2 (fun r e => ⟨(own_block HSX.out.o (by rw [HBL.out]; exact e)).1, HSX.out.fo r (by rw [HBL.out]; exact e)⟩)).trans (It.setCell (p := ⟨bR, 0, none⟩) hRD HSX.out.fR (.slice A2 n2 k2)))); have b9 : Blk V2 bR 25 _ := (hg2.block bR HSX.out.r.lt (fun e => (HSX.out.ne.2.2.2 bR (by rw [HBL.out]; exact e.symm)).2.1 rfl)).trans HSX.out.r; have m0 := b9.cell 0; have m1 := b9.frozen 0; have m2 := HS3.out.s.cell 0; clear ho2 hg2 hz2 hn2 b9 c0)
      | (refine ⟨trivial, fun h => (by simp [Fence.wide] at h), ?_⟩; gi_at_call 137; refine (HIH.out y (pre ++ xs) F' _ _ _ HS3.out HJ3.out HPP.out).mono ?_; rintro e V4 ⟨F2, v3, rb, hs4, rfl, ht, hf⟩; have HS4 := Lib.hid hs4; have HRT := Lib.hid ht; have HRF := Lib.hid hf; obtain ⟨g3, k3, hv3, hk3⟩ := own_some hs4.o (by simp); subst hv3; have c0 := HS4.out.r.cell 0; have c1 := HS4.out.r.frozen 0; rw [HN4.out] at c0; have hkk : (bl : Int) ≤ (k3 : Int) := (by have h1 := hk3; rw [HN4.out] at h1; omega); clear hs4 ht hf hk3 m0 m1 m2))
     all_goals
      have HO5 := OwnL.front icells_len HS4.out.o (i := bl) (by rw [HN4.out]; omega)
      rw [show (b ++ [y]).take bl = b by rw [← HBL.out, List.take_left']; rfl] at HO5
      have HS5 := Lib.hid (HS4.out.store hR0 (World.grownBy.refl V4 _) hD HO5 (.inr (.inl rfl)))
      have HI5 := Lib.hid (It.setCell (D := D) (F := F2) (A := V4) (p := ⟨bR, 0, none⟩) hRD HS4.out.fR (.slice (some ⟨g3, 0, none⟩) bl k3))
      clear HO5
     ·have hrb : rb = false := by
       cases rb with
       | false => rfl
       | true => exfalso; simp at *
      obtain ⟨xs2, ⟨post2, hx2⟩, hj2⟩ := HRF.out hrb
      have HX2 := Lib.hid hx2
      have HJ5 := Lib.hid (HJXA.out _ _ _ _ hj2 HI5.out)
      clear hx2 hj2
      go_ret
      refine ⟨F2, _, false, HS5.out, rfl, fun h => absurd h (by decide), fun _ => ⟨xs ++ xs2, ⟨post2 ++ ((p.q.per.drop (j + 1)).filter fun n => fitB (lp.map Pf.q) b n).flatMap (fun n => moreK (lp.map Pf.q) k (b ++ [n])), ?_⟩, by rw [← List.append_assoc]; exact HJ5.out⟩⟩
      rw [List.map_append, HXS.out, HFS.out, if_pos trivial, ← HX2.out]
      simp only [List.append_assoc]
     ·have hrb : rb = true := by
       cases rb with
       | true => rfl
       | false => exfalso; simp at *
      obtain ⟨xs2, hx2, hj2⟩ := HRT.out hrb
      have HX2 := Lib.hid hx2
      have HJ5 := Lib.hid (HJA.out _ _ _ _ hj2 HI5.out)
      clear hx2 hj2
      go_roundw
      case rel => exact ⟨j + 1, F2, _, xs ++ xs2, by go_num, by omega, HS5.out, by rw [← List.append_assoc]; exact HJ5.out, by rw [List.map_append, HXS.out, HX2.out, HFT.out, if_pos trivial]⟩
      case measure => simp [intOf]; omega
   ·obtain rfl : j = p.n := by omega
    have HT := Lib.hid (show p.q.per.take p.n = p.q.per from List.take_of_length_le (by rw [HPL.out]; exact Nat.le_refl _))
    clear hs e0 e1 e2 e3 e4 e5 e6 e7 e8
    gi_wp2
    go_ret
    exact ⟨F', _, true, HSR.out, rfl, fun _ => ⟨xs, by rw [HXS.out, HT.out], HJJ.out⟩, fun h => absurd h (by decide)⟩
set_option maxRecDepth 100000 in
set_option maxHeartbeats 8000000 in
theorem readingsJ_seq (Pb : Nat → Prop) (w0 : World) (hlt : ∀ k, Pb k → k < w0.heap.size) (A : Option Addr) (n c : Nat) (lp : List Pf) (hpr : ∀ W, Ag Pb w0 W → Prf W A n lp) (hn : n ≤ 1000) (bq : Nat) (w : World) (hb : Below w0.heap.size w0 w) (hq : Blk w bq 22 #[.slice A n c]) :
  SeqW 136 #[ptr bq] encR (GwR (lp.map Pf.q)) (fun k => ¬ Pb k ∧ k ≠ bq) (fun xs => xs.map Rd.r = reads (lp.map Pf.q)) (fun pre => ∃ post, pre.map Rd.r ++ post = reads (lp.map Pf.q)) w := by
 intro m l J Jx W hW hJ hJx hY F0 hF0 hj0
 obtain ⟨W3, hW3⟩ : ∃ X, ((W.alloc (.cells #[.func (.yield l) #[] #[]] 149)).alloc (.cells #[.slice none 0 0] 25)).alloc (.cells #[stepF (W.heap.size + 1) bq W.heap.size (W.heap.size + 1 + 1)] 33) = X := ⟨_, rfl⟩
 have g3 : Below W.heap.size W W3 := by rw [← hW3]; exact three_more _ _ _ _
 have bY : Blk W3 W.heap.size 149 #[.func (.yield l) #[] #[]] := by rw [← hW3]; exact ((Blk.new _ _ _).alloc _).alloc _
 have bR : Blk W3 (W.heap.size + 1) 25 #[.slice none 0 0] := by
  rw [← hW3]; have := Blk.new (W.alloc (.cells #[.func (.yield l) #[] #[]] 149)) 25 #[.slice none 0 0]; rw [World.size_alloc] at this; exact this.alloc _
 have bS : Blk W3 (W.heap.size + 1 + 1) 33 #[stepF (W.heap.size + 1) bq W.heap.size (W.heap.size + 1 + 1)] := by
  rw [← hW3]; have := Blk.new ((W.alloc (.cells #[.func (.yield l) #[] #[]] 149)).alloc (.cells #[.slice none 0 0] 25)) 33 #[stepF (W.heap.size + 1) bq W.heap.size (W.heap.size + 1 + 1)]; rw [World.size_alloc, World.size_alloc] at this; exact this
 have hq' := hq.ext hW
 have hql := hq'.lt
 have hsi : SJ Pb w0 W.heap.size bq (W.heap.size + 1) W.heap.size (W.heap.size + 1 + 1) l A n c F0 W3 (.slice none 0 0) [] := by
  have hw0 : w0.heap.size ≤ W.heap.size := Nat.le_trans hb.size hW.size
  have h2 := g3.size
  have hbb := (hb.trans (hW.mono hb.size)).trans (g3.mono hw0)
  exact ⟨⟨hbb.size, fun k hk => hbb.block k (hlt k hk)⟩, hlt, hq'.ext g3, bR, bY, bS, OwnL.nil _ _, fun h => (hF0 _ h).2.2 rfl, fun h => by have := (hF0 _ h).1; omega, fun h => by have := (hF0 _ h).1; omega, fun h => by have := (hF0 _ h).1; omega, fun k hk => (by cases hk), fun k hk => (hF0 k hk).2.1, fun k hk => by have h1 := (hF0 k hk).1; omega⟩
 have hj3 : J F0 [] W3 := hJ _ _ _ _ hj0 (It.of_below g3)
 have T := stepJ_any Pb w0 A n c lp hpr hn W.heap.size bq (W.heap.size + 1) W.heap.size (W.heap.size + 1 + 1) l (Nat.le_trans hb.size hW.size) (by have := hb.size; have := hW.size; omega) (by omega) J Jx hJ hJx (fun m' F pre x X h1 h2 => yieldAt_wide (hY F pre x X h1 h2)) n [] [] F0 _ _ (m - 1) (by simp) hsi hj3 ⟨[], by
  have : (lp.map Pf.q).length = n := by rw [List.length_map]; exact (hpr _ (Ag.refl _ _)).len
  unfold reads
  rw [this]; simp⟩
 have HML := Lib.hid (show moreK (lp.map Pf.q) n [] = reads (lp.map Pf.q) by
  unfold reads
  rw [List.length_map, (hpr _ (Ag.refl _ _)).len])
 rw [HML.out] at T
 have HT := Lib.hid T
 have m3 := hsi.s.cell 0
 have HW3 := Lib.hid hW3
 clear hW3 g3 bY bR bS hq' hql hsi hj3 T hpr hq hb hW hJ hJx hY hF0 hj0 HML
 refine callsIn_of_wp Tryz.func136 rfl trivial ?_ rfl
 simp only [Tryz.ntmps136, List.size_toArray, List.length_cons, List.length_nil, Nat.reduceAdd, Nat.reduceSub, Array.replicate_succ, Array.replicate_zero, List.push_toArray, List.append_toArray, List.nil_append, List.cons_append]
 gi_wp2
 refine ⟨trivial, fun h => (by simp [Fence.wide] at h), ?_⟩
 rw [HW3.out]
 refine (HT.out).mono ?_
 rintro e V ⟨F, v, rb, -, rfl, ht, hf⟩
 have HF := Lib.hid hf
 have HTT := Lib.hid ht
 clear ht hf m3
 gi_wp2
 go_end0
 refine ⟨⟨_, rfl⟩, F, ?_⟩
 cases rb with
 | true => 
  obtain ⟨xs, h1, h2⟩ := HTT.out rfl
  exact .inl ⟨xs, h1, h2⟩
 | false =>
  obtain ⟨xs, h1, h2⟩ := HF.out rfl
  exact .inr ⟨xs, h1, h2⟩
end Go.Proofs.YtehhlgdkhecacaaGreat

namespace Go.Proofs.YtehhlgdkhecacaaGreat
open Go.RowKit Go.Shelf
attribute [local go_sem] Oper.semAt_some
/-- Is a person settled in the parish by a reading, or is he not, as is asked? -/
def shB (c : List Qf) (person parish day : Int) (iv : Bool) (r : List Int) : Bool := (setS c r person day == parish) == iv
/-- The reading that Show finds; its error. -/
def shL (c : List Qf) (person parish day : Int) (iv : Bool) : List Int := ((reads c).find? (shB c person parish day iv)).getD []
def shE (l : List Qf) (person parish day known : Int) (iv : Bool) : Int :=
 if readE l person parish [day, known] known = 0 then (if ((reads (cntL l known)).find? (shB (cntL l known) person parish day iv)).isSome = true then 0 else 3) else readE l person parish [day, known] known
theorem Ag.it {Pb : Nat → Prop} {w0 A B : World} {D : Nat} {F : Nat → Prop} (h : Ag Pb w0 A) (hl : ∀ k, Pb k → k < w0.heap.size) (hD : w0.heap.size ≤ D) (hi : It D F A B) : Ag Pb w0 B :=
 ⟨Nat.le_trans h.size hi.size, fun k hk => (hi.low k (Nat.lt_of_lt_of_le (hl k hk) h.size) (Nat.lt_of_lt_of_le (hl k hk) hD)).trans (h.same k hk)⟩
theorem Ag.set {Pb : Nat → Prop} {w0 W : World} (h : Ag Pb w0 W) {p : Addr} (hp : ¬ Pb p.block) (u : Value) : Ag Pb w0 (W.setCell p u) :=
 ⟨by simpa [World.setCell] using h.size, fun k hk => (Below.heap_setCell _ _ _ _ (fun e => hp (e ▸ hk))).trans (h.same k hk)⟩
theorem Ag.blk {Pb : Nat → Prop} {w0 W : World} (h : Ag Pb w0 W) {g : Nat} {t : TypeId} {cs : Array Value} (hb : Blk w0 g t cs) (hg : Pb g) : Blk W g t cs := (h.same g hg).trans hb
/-- What a round that says 'no more' leaves. -/
def ShStop (f : List Int → Bool) (B r1 r2 : Nat) (F : Nat → Prop) (pre : List Rd) (W : World) : Prop :=
 F r1 ∧ F r2 ∧ Blk W r2 26 #[.int .i64 0] ∧ ∃ x pre0 D m d, pre = pre0 ++ [x] ∧ (∀ y ∈ pre0, f y.r = false) ∧ f x.r = true ∧ Blk W r1 25 #[.slice D m d] ∧ OwnL icells 1 3 W B (.slice D m d) x.r ∧ ∀ k, Value.ownBlock (.slice D m d) = some k → F k
theorem ShStop.it {f : List Int → Bool} {B r1 r2 D0 : Nat} {F : Nat → Prop} {pre : List Rd} {X Y : World} (h : ShStop f B r1 r2 F pre X) (hi : It D0 F X Y) : ShStop f B r1 r2 F pre Y := by
 obtain ⟨h1, h2, h3, x, pre0, D, m, d, h4, h5, h6, h7, h8, h9⟩ := h
 exact ⟨h1, h2, hi.blk h3 (.inr h2), x, pre0, D, m, d, h4, h5, h6, hi.blk h7 (.inr h1), own_it h8 hi h9, h9⟩
theorem find_first {c : List Qf} {f : List Int → Bool} {pre0 : List Rd} {x : Rd} {post : List (List Int)} (h : (pre0 ++ [x]).map Rd.r ++ post = reads c) (h0 : ∀ y ∈ pre0, f y.r = false) (hx : f x.r = true) : (reads c).find? f = some x.r := by
 rw [← h, List.map_append, List.append_assoc, List.find?_append]
 have e : (pre0.map Rd.r).find? f = none := List.find?_eq_none.2 fun r hr => by
  obtain ⟨y, hy, rfl⟩ := List.mem_map.1 hr
  rw [h0 y hy]; decide
 rw [e]
 simp [hx]
theorem find_none {c : List Qf} {f : List Int → Bool} {xs : List Rd} (h : xs.map Rd.r = reads c) (h0 : ∀ y ∈ xs, f y.r = false) : (reads c).find? f = none := by
 rw [← h]
 refine List.find?_eq_none.2 fun r hr => ?_
 obtain ⟨y, hy, rfl⟩ := List.mem_map.1 hr
 rw [h0 y hy]; decide
set_option maxRecDepth 100000 in
set_option maxHeartbeats 8000000 in
theorem show_any (A : Option Addr) (n c : Nat) (l : List Pf) (person parish day known : Int) (iv : Bool) (w : World) (ha : Prf w A n l) (hn : n ≤ 9223372036854775807) :
  Calls Tryz.prog 30 #[.slice A n c, .int .i64 person, .int .i64 parish, .int .i64 day, .int .i64 known, .bool iv] w (ListEnd (shL (cntL (l.map Pf.q) known) person parish day iv) (shE (l.map Pf.q) person parish day known iv) w) := by
 obtain ⟨W1, hW1⟩ : ∃ X, (((((w.alloc (.cells #[.int .i64 person] 3)).alloc (.cells #[.int .i64 parish] 3)).alloc (.cells #[.int .i64 day] 3)).alloc (.cells #[.bool iv] 4)).alloc (.cells #[.slice none 0 0] 25)).alloc (.cells #[.int .i64 0] 26) = X := ⟨_, rfl⟩
 have g1 : Below w.heap.size w W1 := by
  rw [← hW1]
  exact ((three_more _ _ _ _).trans ((three_more _ _ _ _).mono (by simp; omega)))
 have bp : Blk W1 w.heap.size 3 #[.int .i64 person] := by rw [← hW1]; exact (((((Blk.new _ _ _).alloc _).alloc _).alloc _).alloc _).alloc _
 have bq' : Blk W1 (w.heap.size + 1) 3 #[.int .i64 parish] := by rw [← hW1]; exact ((((blk_second2 _ _ _ _).alloc _).alloc _).alloc _).alloc _
 have bd : Blk W1 (w.heap.size + 1 + 1) 3 #[.int .i64 day] := by
  rw [← hW1]; have := Blk.new ((w.alloc (.cells #[.int .i64 person] 3)).alloc (.cells #[.int .i64 parish] 3)) 3 #[.int .i64 day]; rw [World.size_alloc, World.size_alloc] at this; exact ((this.alloc _).alloc _).alloc _
 have bi : Blk W1 (w.heap.size + 1 + 1 + 1) 4 #[.bool iv] := by
  rw [← hW1]; have := Blk.new (((w.alloc (.cells #[.int .i64 person] 3)).alloc (.cells #[.int .i64 parish] 3)).alloc (.cells #[.int .i64 day] 3)) 4 #[.bool iv]; rw [World.size_alloc, World.size_alloc, World.size_alloc] at this; exact (this.alloc _).alloc _
 have br : Blk W1 (w.heap.size + 1 + 1 + 1 + 1) 25 #[.slice none 0 0] := by
  rw [← hW1]; have := Blk.new ((((w.alloc (.cells #[.int .i64 person] 3)).alloc (.cells #[.int .i64 parish] 3)).alloc (.cells #[.int .i64 day] 3)).alloc (.cells #[.bool iv] 4)) 25 #[.slice none 0 0]; rw [World.size_alloc, World.size_alloc, World.size_alloc, World.size_alloc] at this; exact this.alloc _
 have be : Blk W1 (w.heap.size + 1 + 1 + 1 + 1 + 1) 26 #[.int .i64 0] := by
  rw [← hW1]; have := Blk.new (((((w.alloc (.cells #[.int .i64 person] 3)).alloc (.cells #[.int .i64 parish] 3)).alloc (.cells #[.int .i64 day] 3)).alloc (.cells #[.bool iv] 4)).alloc (.cells #[.slice none 0 0] 25)) 26 #[.int .i64 0]; rw [World.size_alloc, World.size_alloc, World.size_alloc, World.size_alloc, World.size_alloc] at this; exact this
 have s1 : W1.heap.size = w.heap.size + 1 + 1 + 1 + 1 + 1 + 1 := by rw [← hW1]; simp
 obtain ⟨W2, hW2⟩ : ∃ X, W1.alloc (.cells #[.int .i64 day, .int .i64 known] 3) = X := ⟨_, rfl⟩
 have g2 : Below W1.heap.size W1 W2 := by rw [← hW2]; exact one_more _ _
 have b2 : Blk W2 W1.heap.size 3 #[.int .i64 day, .int .i64 known] := by rw [← hW2]; exact Blk.new _ _ _
 have T := askRead_any person parish (some ⟨W1.heap.size, 0, none⟩) 2 2 [day, known] known A n c l W2 (ha.below (extTrans g1 g2)) hn (two_ints b2) (by decide) (by decide) rfl
 rw [s1] at T
 have HFM := Lib.hid (show (l.filter fun p => cnt p.q known).map Pf.q = cntL (l.map Pf.q) known from filt_map l (fun q => cnt q known))
 have HOK := Lib.hid (fun (h : readE (l.map Pf.q) person parish [day, known] known = 0) => (askE_ok (readE_ask h)))
 have HSE := Lib.hid (show shE (l.map Pf.q) person parish day known iv = if readE (l.map Pf.q) person parish [day, known] known = 0 then (if ((reads (cntL (l.map Pf.q) known)).find? (shB (cntL (l.map Pf.q) known) person parish day iv)).isSome = true then 0 else 3) else readE (l.map Pf.q) person parish [day, known] known from rfl)
 have HSL := Lib.hid (show shL (cntL (l.map Pf.q) known) person parish day iv = ((reads (cntL (l.map Pf.q) known)).find? (shB (cntL (l.map Pf.q) known) person parish day iv)).getD [] from rfl)
 have HPI := Lib.hid (fun p (hp : p ∈ l.filter fun p => cnt p.q known) => ha.p p (List.mem_filter.1 hp).1)
 obtain ⟨re, hre⟩ : ∃ s, readE (l.map Pf.q) person parish [day, known] known = s := ⟨_, rfl⟩
 rw [hre] at HOK T HSE
 obtain ⟨se, hse⟩ : ∃ s, shE (l.map Pf.q) person parish day known iv = s := ⟨_, rfl⟩
 obtain ⟨sl, hsl⟩ : ∃ s, shL (cntL (l.map Pf.q) known) person parish day iv = s := ⟨_, rfl⟩
 rw [hse] at HSE ⊢
 rw [hsl] at HSL ⊢
 have G1 := Lib.hid g1
 have G2 := Lib.hid (extTrans g1 g2)
 have G12 := Lib.hid g2
 have BP := Lib.hid bp
 have BQ := Lib.hid bq'
 have BD := Lib.hid bd
 have BI := Lib.hid bi
 have BR := Lib.hid br
 have BE := Lib.hid be
 have p0 := bp.cell 0
 have q0' := bq'.cell 0
 have d0 := bd.cell 0
 have HW1 := Lib.hid hW1
 have HW2 := Lib.hid hW2
 have S1 := Lib.hid s1
 have HT := Lib.hid T
 clear ha hre hse hsl g1 g2 bp bq' bd bi br be b2 s1 hW1 hW2 T
 by_cases hz : re = 0
 ·subst hz
  refine (callsIn_wide (n := 4)).1 (callsIn_of_wp_marks Tryz.func30 rfl trivial ?_ rfl)
  simp only [Tryz.ntmps30, List.size_toArray, List.length_cons, List.length_nil, Nat.reduceAdd, Nat.reduceSub, Array.replicate_succ, Array.replicate_zero, List.push_toArray, List.append_toArray, List.nil_append, List.cons_append]
  gi_wp2_with fail
  rw [HW1.out]
  gi_wp2_with fail
  rw [HW2.out]
  refine ⟨trivial, (callsIn_wide.2 HT.out).mono ?_⟩
  rintro e V ⟨D, k, d, rfl, ho, -, hg⟩
  have HO := Lib.hid (ho rfl)
  have GV := Lib.hid (show Below W1.heap.size W1 V from G12.out.trans (hg.mono G12.out.size))
  obtain ⟨hok, hper, -, hdays⟩ := HOK.out (by trivial)
  have HCN := Lib.hid (cn_of hok HO.out.1 HO.out.2.1)
  have HP64 := Lib.hid (And.intro (in64_person hper) (in64_day (hdays day (by simp))))
  obtain ⟨V2, hV2⟩ : ∃ X, V.alloc (.cells #[.slice D k d] 22) = X := ⟨_, rfl⟩
  have gv2 : Below V.heap.size V V2 := by rw [← hV2]; exact one_more _ _
  have bt : Blk V2 V.heap.size 22 #[.slice D k d] := by rw [← hV2]; exact Blk.new _ _ _
  have sv2 : V2.heap.size = V.heap.size + 1 := by rw [← hV2]; simp
  obtain ⟨V3, hV3⟩ : ∃ X, V2.alloc (.cells #[.slice D k d] 22) = X := ⟨_, rfl⟩
  have gv3 : Below V2.heap.size V2 V3 := by rw [← hV3]; exact one_more _ _
  have bq3 : Blk V3 V2.heap.size 22 #[.slice D k d] := by rw [← hV3]; exact Blk.new _ _ _
  have sv3 : V3.heap.size = V2.heap.size + 1 := by rw [← hV3]; simp
  have GW := Lib.hid (show Below W1.heap.size W1 V2 from GV.out.trans (gv2.mono GV.out.size))
  have HSZ := Lib.hid (show W1.heap.size ≤ V.heap.size from GV.out.size)
  have HPR := Lib.hid (show ∀ W, Ag (fun k => k < V2.heap.size ∧ k ≠ w.heap.size + 1 + 1 + 1 + 1 ∧ k ≠ w.heap.size + 1 + 1 + 1 + 1 + 1) V2 W → Prf W D k (l.filter fun p => cnt p.q known) from fun W gW => by
   have h1 := S1.out
   have h2 := HSZ.out
   have h3 := sv2
   refine ⟨(HO.out.1.below gv2).a.ag (fun b o e _ => ?_) gW, fun p hp => ?_⟩
   ·have h4 := HO.out.2.2.2.2 b o e
    have h5 := G12.out.size
    have h6 : b < V2.heap.size ∨ ¬ b < V2.heap.size := Classical.em _
    rcases h6 with h6 | h6
    ·exact ⟨h6, by omega, by omega⟩
    ·exfalso
     obtain ⟨b', o', e', hb', -⟩ := (HO.out.1.below gv2).a.2 (by omega)
     rw [e] at e'
     cases e'
     exact h6 hb'
   ·have hpi := HPI.out p hp
    have hpV := (hpi.below G1.out).below GW.out
    refine ⟨hpV.i.ag (fun b o e hn0 => ?_) gW, hpV.m⟩
    obtain ⟨b', o', e', hb', -⟩ := hpi.i.2 hn0
    rw [e] at e'
    cases e'
    exact ⟨by omega, by omega, by omega⟩)
  have HLT := Lib.hid (show ∀ k, (fun k => k < V2.heap.size ∧ k ≠ w.heap.size + 1 + 1 + 1 + 1 ∧ k ≠ w.heap.size + 1 + 1 + 1 + 1 + 1) k → k < V2.heap.size from fun k h => h.1)
  have HSQ := Lib.hid (readingsJ_seq (fun k => k < V2.heap.size ∧ k ≠ w.heap.size + 1 + 1 + 1 + 1 ∧ k ≠ w.heap.size + 1 + 1 + 1 + 1 + 1) V2 HLT.out D k d (l.filter fun p => cnt p.q known) HPR.out (by have := HO.out.2.1; omega) V2.heap.size V3 gv3 bq3)
  rw [HFM.out] at HSQ
  have GV2 := Lib.hid gv2
  have GV3 := Lib.hid gv3
  have BT := Lib.hid bt
  have SV2 := Lib.hid sv2
  have SV3 := Lib.hid sv3
  have HV2 := Lib.hid hV2
  have HV3 := Lib.hid hV3
  have HFQ := Lib.hid (show ((l.filter fun p => cnt p.q known).map Pf.q) = cntL (l.map Pf.q) known from HFM.out)
  obtain ⟨cq, hcq⟩ : ∃ q, cntL (l.map Pf.q) known = q := ⟨_, rfl⟩
  rw [hcq] at HSQ HSL HSE HFQ
  obtain ⟨sf, hsf⟩ : ∃ f, shB cq person parish day iv = f := ⟨_, rfl⟩
  rw [hsf] at HSL HSE
  have HSF := Lib.hid hsf
  have HSE2 := Lib.hid (show se = if ((reads cq).find? sf).isSome = true then 0 else 3 by have := HSE.out; rwa [if_pos (by trivial)] at this)
  clear hg ho hok hper hdays hV2 gv2 bt sv2 hV3 gv3 bq3 sv3 hcq hsf p0 q0' d0
  gi_wp2_with fail
  rw [HV2.out]
  refine ⟨trivial, (callsIn_wide.2 (readings_any _ _ _ _)).mono ?_⟩
  rintro e w' ⟨rfl, hw'⟩
  rw [HV3.out] at hw'
  subst hw'
  gi_wp2_with fail
  have HRS := Lib.hid (And.intro S1.out (And.intro HSZ.out (And.intro SV2.out SV3.out)))
  have HBR3 := Lib.hid (show Blk V3 (w.heap.size + 1 + 1 + 1 + 1) 25 #[.slice none 0 0] from (BR.out.ext GW.out).ext GV3.out)
  have HBE3 := Lib.hid (show Blk V3 (w.heap.size + 1 + 1 + 1 + 1 + 1) 26 #[.int .i64 0] from (BE.out.ext GW.out).ext GV3.out)
  have HGW3 := Lib.hid (show Below w.heap.size w V3 from (G1.out.trans (GW.out.mono G1.out.size)).trans (GV3.out.mono (Nat.le_trans G1.out.size GW.out.size)))
  refine wp_rangeW (α := Rd) (n := 4) (by omega) (gf := 136) (lb := #[ptr V2.heap.size]) rfl (enters_of Tryz.func136 (by kernel_rfl) rfl) HSQ.out (Below.refl _ _) (fun _ => rfl)
   (fun F pre W => F (w.heap.size + 1 + 1 + 1 + 1) ∧ F (w.heap.size + 1 + 1 + 1 + 1 + 1) ∧ Ag (fun k => k < V2.heap.size ∧ k ≠ w.heap.size + 1 + 1 + 1 + 1 ∧ k ≠ w.heap.size + 1 + 1 + 1 + 1 + 1) V2 W ∧ Blk W (w.heap.size + 1 + 1 + 1 + 1) 25 #[.slice none 0 0] ∧ Blk W (w.heap.size + 1 + 1 + 1 + 1 + 1) 26 #[.int .i64 0] ∧ Below w.heap.size w W ∧ ∀ y ∈ pre, sf y.r = false)
   (fun cd F pre W => cd = .ret ∧ Below w.heap.size w W ∧ ShStop sf w.heap.size (w.heap.size + 1 + 1 + 1 + 1) (w.heap.size + 1 + 1 + 1 + 1 + 1) F pre W) ?hI ?hIx
   (fun pre x l o A hl h hr => gwR_put o h hr) (fun j hj => by obtain ⟨h1, h2, h3, h4⟩ := HRS.out; exact ⟨fun h => by have := h.1; omega, by omega⟩) (fun j => j = w.heap.size + 1 + 1 + 1 + 1 ∨ j = w.heap.size + 1 + 1 + 1 + 1 + 1) (fun j hj => by obtain ⟨h1, h2, h3, h4⟩ := HRS.out; exact ⟨by omega, fun h => by have := h.2; omega, by omega⟩)
   ⟨.inl rfl, .inr rfl, ⟨GV3.out.size, fun j hj => GV3.out.block j hj.1⟩, HBR3.out, HBE3.out, HGW3.out, fun y hy => absurd hy (by simp)⟩
   (fun x a' => a' = { tmps := #[.slice A n c, .int .i64 person, .int .i64 parish, .int .i64 day, .int .i64 known, .bool iv, undef, ptr w.heap.size, ptr (w.heap.size + 1), ptr (w.heap.size + 1 + 1), undef, ptr (w.heap.size + 1 + 1 + 1), ptr (w.heap.size + 1 + 1 + 1 + 1), ptr (w.heap.size + 1 + 1 + 1 + 1 + 1), ptr V.heap.size, .int .i64 0, .slice x.A x.n x.c, .tuple #[.slice D k d, .int .i64 0], .int .i64 person, .int .i64 parish, .int .i64 day, .int .i64 known, .slice (some ⟨w.heap.size + 1 + 1 + 1 + 1 + 1 + 1, 0, none⟩) 2 2, .agg #[.int .i64 person, .int .i64 parish, .slice (some ⟨w.heap.size + 1 + 1 + 1 + 1 + 1 + 1, 0, none⟩) 2 2], .slice A n c, .tuple #[.slice D k d, .int .i64 0], .slice D k d, .int .i64 0, .int .i64 0, .bool false, undef, .slice D k d, .func (.func 136) #[] #[ptr V2.heap.size], .slice x.A x.n x.c, undef, undef, undef, undef, undef, undef, undef, undef, undef, undef, undef], defers := [] }) ?assign ?body ?done ?stop
  case hI =>
   rintro F t X Y ⟨h1, h2, h3, h4, h5, h6, h7⟩ hi
   exact ⟨h1, h2, h3.it HLT.out (by have := SV3.out; omega) hi, hi.blk h4 (.inr h1), hi.blk h5 (.inr h2), hi.below h6 (by obtain ⟨h1, h2, h3, h4⟩ := HRS.out; omega) (Nat.le_refl _), h7⟩
  case hIx =>
   rintro cd F t X Y ⟨h1, h2, h3⟩ hi
   exact ⟨h1, hi.below h2 (by obtain ⟨h1, h2, h3, h4⟩ := HRS.out; omega) (Nat.le_refl _), h3.it hi⟩
  case assign =>
   rintro lr x X K hK
   unfold encR
   gi_wp2
   simp
  case body =>
   rintro lr F pre x a' X hl - ⟨h1, h2, h3, h4, h5, h6, h7⟩ ⟨hgi, hgn, hgm, post, hpo⟩ rfl
   have hxr : isRd cq x.r = true := mem_reads.1 (by rw [← hpo]; simp)
   have hxn : x.n = k := by
    have e1 := (isRd_zip.1 hxr).1
    rw [← HFQ.out, List.length_map, HCN.out.prf.len] at e1
    rw [← e1, hgi.1]
   have TS := Lib.hid (fun (z : Wd X) => settledBy_any D k d x.A x.c (l.filter fun p => cnt p.q known) x.r person day z.val ⟨(HPR.out _ (h3.below HLT.out z.ok)), by rw [← hxn]; exact hgi.below z.ok, by have := HCN.out.n; omega, HCN.out.q, HCN.out.src⟩ HP64.out.1 HP64.out.2)
   rw [HFQ.out] at TS
   obtain ⟨sv, hsv⟩ : ∃ q, setS cq x.r person day = q := ⟨_, rfl⟩
   rw [hsv] at TS
   obtain ⟨bv, hbv⟩ : ∃ q, ((sv == parish) == iv) = q := ⟨_, rfl⟩
   have HBV := Lib.hid (show sf x.r = bv by rw [← HSF.out, ← hbv, ← hsv]; rfl)
   have HPN := Lib.hid (show x.n ≤ 1000000 by have := HCN.out.n; omega)
   have TC := Lib.hid (fun (W : World) (g : Below X.heap.size X W) => cloneI_any x.A x.n x.c x.r W (hgi.below g) (by have := HPN.out; omega))
   have HB1 := Lib.hid h1
   have HB2 := Lib.hid h2
   have HAG := Lib.hid h3
   have HR1 := Lib.hid h4
   have HR2 := Lib.hid h5
   have HGX := Lib.hid h6
   have H7 := Lib.hid h7
   obtain ⟨z1, z2, z3, z4⟩ := HRS.out
   have u0 := cellW ((HAG.out.blk BT.out ⟨by omega, by omega, by omega⟩).cell 0)
   have u1 := cellW ((HAG.out.blk (BP.out.ext GW.out) ⟨by omega, by omega, by omega⟩).cell 0)
   have u2 := cellW ((HAG.out.blk (BQ.out.ext GW.out) ⟨by omega, by omega, by omega⟩).cell 0)
   have u3 := cellW ((HAG.out.blk (BD.out.ext GW.out) ⟨by omega, by omega, by omega⟩).cell 0)
   have u4 := cellW ((HAG.out.blk (BI.out.ext GW.out) ⟨by omega, by omega, by omega⟩).cell 0)
   rw [hxn] at TC ⊢
   clear h1 h2 h3 h4 h5 h6 h7 hgi hgn hgm hpo hxr hxn hsv z1 z2 z3 z4
   gi_wp2_with fail
   refine wpIn_region_quiet (Open.round lr) (C := fun w' => ∃ x : Wd X, w' = x.val) (by kernel_rfl) (by kernel_rfl) (by kernel_rfl) (Wd.of (Below.refl _ _).drew) ?_
   repeat (go_big_quiet_step (first | (go_at_call 89; exact callsCalm (TS.out _))))
   refine wpQuiet_nil ?_
   rintro _ ⟨z, rfl⟩
   clear u0 u1 u2 u3 u4
   have GZ := Lib.hid z.ok
   obtain ⟨Z, hZ⟩ : ∃ Z, z.val = Z := ⟨_, rfl⟩
   rw [hZ] at GZ ⊢
   clear hZ z
   cases bv with
   | false =>
    gi_wp2
    refine ⟨F, Ro.of_below GZ.out, HB1.out, HB2.out, HAG.out.below HLT.out GZ.out, HR1.out.ext GZ.out, HR2.out.ext GZ.out, HGX.out.trans (GZ.out.mono HGX.out.size), fun y hy => ?_⟩
    rcases List.mem_append.1 hy with hy | hy
    ·exact H7.out y hy
    ·rw [List.mem_singleton.1 hy]; exact HBV.out
   | true =>
    have HZ1 := Lib.hid (HR1.out.ext GZ.out)
    have HZ2 := Lib.hid (HR2.out.ext GZ.out)
    gi_wp2_with (refine ⟨trivial, (CallsIn.inRound lr (callsIn_wide.2 (TC.out Z GZ.out))).mono ?_⟩; rintro e V5 ⟨⟨v, rfl, ho⟩, hg⟩; obtain ⟨D5, d5, hv5, hd3, hd4, -, -⟩ := OwnL.arr kdI ho; obtain ⟨k5, hk5⟩ : ∃ q, x.r.length = q := ⟨_, rfl⟩; rw [hk5] at hv5; subst hv5; have HO5 := Lib.hid ho; have HG5 := Lib.hid hg; have r0 := (HZ1.out.ext hg).cell 0; have r1 := (HZ1.out.ext hg).frozen 0; have s0 := ((HZ2.out.ext hg).far (p := ⟨w.heap.size + 1 + 1 + 1 + 1, 0, none⟩) (by show w.heap.size + 1 + 1 + 1 + 1 + 1 ≠ w.heap.size + 1 + 1 + 1 + 1; omega) (.slice D5 k5 d5)).cell 0; have s1 := ((HZ2.out.ext hg).far (p := ⟨w.heap.size + 1 + 1 + 1 + 1, 0, none⟩) (by show w.heap.size + 1 + 1 + 1 + 1 + 1 ≠ w.heap.size + 1 + 1 + 1 + 1; omega) (.slice D5 k5 d5)).frozen 0; clear ho hg hd3 hd4 hk5)
    have HOB := Lib.hid (fun (j : Nat) (e : Value.ownBlock (.slice D5 k5 d5) = some j) => (⟨(own_block HO5.out e).1, by obtain ⟨-, cur, hb⟩ := own_block HO5.out e; exact hb.lt⟩ : Z.heap.size ≤ j ∧ j < V5.heap.size))
    have hx1 := HZ1.out.lt
    have hx2 := HZ2.out.lt
    have hgs := GZ.out.size
    refine ⟨fun j => F j ∨ Value.ownBlock (.slice D5 k5 d5) = some j, ro_more (((Ro.of_below (GZ.out.trans (HG5.out.mono GZ.out.size))).trans (Ro.setCell (p := ⟨w.heap.size + 1 + 1 + 1 + 1, 0, none⟩) HB1.out _)).trans (Ro.setCell (p := ⟨w.heap.size + 1 + 1 + 1 + 1 + 1, 0, none⟩) HB2.out _)) (fun j hj => ?_), rfl, ?_, .inl HB1.out, .inl HB2.out, ?_, x, pre, D5, k5, d5, rfl, H7.out, HBV.out, ?_, ?_, fun j hj => .inr hj⟩
    ·have h1 := HOB.out j hj
     simp [World.setCell]
     omega
    ·exact (((HGX.out.trans (GZ.out.mono HGX.out.size)).trans (HG5.out.mono (Nat.le_trans HGX.out.size GZ.out.size))).setCell (p := ⟨w.heap.size + 1 + 1 + 1 + 1, 0, none⟩) (by show w.heap.size ≤ w.heap.size + 1 + 1 + 1 + 1; omega) _).setCell (p := ⟨w.heap.size + 1 + 1 + 1 + 1 + 1, 0, none⟩) (by show w.heap.size ≤ w.heap.size + 1 + 1 + 1 + 1 + 1; omega) _
    ·have := (((HZ2.out.ext HG5.out).far (p := ⟨w.heap.size + 1 + 1 + 1 + 1, 0, none⟩) (by show w.heap.size + 1 + 1 + 1 + 1 + 1 ≠ w.heap.size + 1 + 1 + 1 + 1; omega) (.slice D5 k5 d5)).set_ 0 (.int .i64 0))
     exact this
    ·have := ((HZ1.out.ext HG5.out).set_ 0 (.slice D5 k5 d5)).far (p := ⟨w.heap.size + 1 + 1 + 1 + 1 + 1, 0, none⟩) (by show w.heap.size + 1 + 1 + 1 + 1 ≠ w.heap.size + 1 + 1 + 1 + 1 + 1; omega) (.int .i64 0)
     exact this
    ·refine OwnL.mono (own_far (own_far HO5.out (fun j hj => ?_) _) (fun j hj => ?_) _) (Nat.le_trans HGX.out.size GZ.out.size)
     ·have := (HOB.out j hj).1
      show j ≠ w.heap.size + 1 + 1 + 1 + 1
      omega
     ·have := (HOB.out j hj).1
      show j ≠ w.heap.size + 1 + 1 + 1 + 1 + 1
      omega
  case done =>
   rintro E F xs X hD hS ⟨h1, h2, h3, h4, h5, h6, h7⟩ hK
   have hnone := find_none hS h7
   have e1 : se = 3 := by rw [HSE2.out, hnone]; rfl
   have e2 : sl = [] := by rw [HSL.out, hnone]; rfl
   subst e1 e2
   obtain ⟨z1, z2, z3, z4⟩ := HRS.out
   have hne1 : w.heap.size + 1 + 1 + 1 + 1 ≠ E := by omega
   have hne2 : w.heap.size + 1 + 1 + 1 + 1 + 1 ≠ E := by omega
   have c0 := h4.cell 0
   have c1 := h4.frozen 0
   have B2' := h5.far (p := ⟨w.heap.size + 1 + 1 + 1 + 1, 0, none⟩) (by show w.heap.size + 1 + 1 + 1 + 1 + 1 ≠ w.heap.size + 1 + 1 + 1 + 1; omega) (.slice none 0 0)
   have c2 := B2'.cell 0
   have c3 := B2'.frozen 0
   have t0 := (((h4.set_ 0 (.slice none 0 0)).far (p := ⟨w.heap.size + 1 + 1 + 1 + 1 + 1, 0, none⟩) (by show w.heap.size + 1 + 1 + 1 + 1 ≠ w.heap.size + 1 + 1 + 1 + 1 + 1; omega) (.int .i64 3)).putObj hne1 (.deferred none)).cell 0
   have t1 := ((B2'.set_ 0 (.int .i64 3)).putObj hne2 (.deferred none)).cell 0
   have HK := Lib.hid (show ((X.setCell ⟨w.heap.size + 1 + 1 + 1 + 1, 0, none⟩ (.slice none 0 0)).setCell ⟨w.heap.size + 1 + 1 + 1 + 1 + 1, 0, none⟩ (.int .i64 3)).heap[E]? = some (.deferred (some [])) from (Below.heap_setCell _ _ _ _ (fun e => hne2 e.symm)).trans ((Below.heap_setCell _ _ _ _ (fun e => hne1 e.symm)).trans hK))
   have HG5 := Lib.hid (put_below ((h6.setCell (p := ⟨w.heap.size + 1 + 1 + 1 + 1, 0, none⟩) (by show w.heap.size ≤ w.heap.size + 1 + 1 + 1 + 1; omega) (.slice none 0 0)).setCell (p := ⟨w.heap.size + 1 + 1 + 1 + 1 + 1, 0, none⟩) (by show w.heap.size ≤ w.heap.size + 1 + 1 + 1 + 1 + 1; omega) (.int .i64 3)) (D := E) (by omega) (.deferred none))
   clear h1 h2 h3 h4 h5 h6 h7 hK hS hnone B2' z1 z2 z3 z4
   gi_wp2
   refine ⟨by simp, .inl ⟨_, _, rfl, run_takeDeferred HK.out, ?_⟩⟩
   refine ⟨.tuple #[.slice none 0 0, .int .i64 3], ?_, listEnd_no (by decide) HG5.out⟩
   simp [results, Tryz.results30, go_sem, t0, t1]
  case stop =>
   rintro E F cd pre X hD ⟨post, hS⟩ ⟨rfl, h5, h6⟩ hK
   obtain ⟨-, -, h2, x, pre0, D5, k5, d5, rfl, h3, h4, h7, h8, -⟩ := h6
   have hfind := find_first hS h3 h4
   have e1 : se = 0 := by rw [HSE2.out, hfind]; rfl
   have e2 : sl = x.r := by rw [HSL.out, hfind]; rfl
   subst e1 e2
   obtain ⟨z1, z2, z3, z4⟩ := HRS.out
   have hne1 : w.heap.size + 1 + 1 + 1 + 1 ≠ E := by omega
   have hne2 : w.heap.size + 1 + 1 + 1 + 1 + 1 ≠ E := by omega
   have t0 := (h7.putObj hne1 (.deferred none)).cell 0
   have t1 := (h2.putObj hne2 (.deferred none)).cell 0
   have hne : ∀ j, Value.ownBlock (.slice D5 k5 d5) = some j → j ≠ E := fun j hj e => by
    obtain ⟨-, cur, hb⟩ := own_block h8 hj
    rw [e] at hb
    have := (show X.heap[E]? = _ from hb).symm.trans hK
    cases this
   have HOP := Lib.hid (own_put h8 hne (.deferred none))
   have HK := Lib.hid hK
   have HG5 := Lib.hid (put_below h5 (D := E) (by omega) (.deferred none))
   clear h2 h3 h4 h5 h7 h8 hK hS hfind hne z1 z2 z3 z4
   gi_wp2
   refine ⟨by simp, .inl ⟨_, _, rfl, run_takeDeferred HK.out, ?_⟩⟩
   refine ⟨.tuple #[.slice D5 k5 d5, .int .i64 0], ?_, listEnd_ok HOP.out HG5.out⟩
   simp [results, Tryz.results30, go_sem, t0, t1]
 ·have hzb : (re != 0) = true := by simpa using hz
  have HZ := Lib.hid hz
  have e : se = re := by have := HSE.out; rwa [if_neg hz] at this
  subst e
  clear hz
  go_enter Tryz.func30, Tryz.ntmps30
  go_upto_region 1 with fail
  rw [HW1.out]
  go_upto_region 2 with (go_at_call 66; rw [HW2.out, S1.out]; (with_reducible refine (HT.out).mono ?_); rintro e V ⟨A2, n2, c2, rfl, -, ho, hg⟩; obtain ⟨rfl, rfl, rfl⟩ := ho HZ.out; have GV := Lib.hid (show Below W1.heap.size W1 V from G12.out.trans (hg.mono G12.out.size)); clear ho hg)
  obtain ⟨V2, hV2⟩ : ∃ X, V.alloc (.cells #[.slice none 0 0] 22) = X := ⟨_, rfl⟩
  have gv2 : Below V.heap.size V V2 := by rw [← hV2]; exact one_more _ _
  have GW := Lib.hid (show Below W1.heap.size W1 V2 from GV.out.trans (gv2.mono GV.out.size))
  have B1' := BR.out.ext GW.out
  have B2' := BE.out.ext GW.out
  have c0 := B1'.cell 0
  have c1 := B1'.frozen 0
  have B3' := B2'.far (p := ⟨w.heap.size + 1 + 1 + 1 + 1, 0, none⟩) (by show w.heap.size + 1 + 1 + 1 + 1 + 1 ≠ w.heap.size + 1 + 1 + 1 + 1; omega) (.slice none 0 0)
  have c2 := B3'.cell 0
  have c3 := B3'.frozen 0
  have t0 := ((B1'.set_ 0 (.slice none 0 0)).far (p := ⟨w.heap.size + 1 + 1 + 1 + 1 + 1, 0, none⟩) (by show w.heap.size + 1 + 1 + 1 + 1 ≠ w.heap.size + 1 + 1 + 1 + 1 + 1; omega) (.int .i64 se)).cell 0
  have t1 := (B3'.set_ 0 (.int .i64 se)).cell 0
  have HG5 := Lib.hid (((G1.out.trans (GW.out.mono G1.out.size)).setCell (p := ⟨w.heap.size + 1 + 1 + 1 + 1, 0, none⟩) (by show w.heap.size ≤ w.heap.size + 1 + 1 + 1 + 1; omega) (.slice none 0 0)).setCell (p := ⟨w.heap.size + 1 + 1 + 1 + 1 + 1, 0, none⟩) (by show w.heap.size ≤ w.heap.size + 1 + 1 + 1 + 1 + 1; omega) (.int .i64 se))
  rw [hV2]
  clear hV2 gv2 B1' B2' B3'
  go_wp2_with fail
  refine bodyPost_ret (v := .tuple #[.slice none 0 0, .int .i64 se]) ?_ rfl (listEnd_no HZ.out HG5.out)
  simp [results, Tryz.results30, go_sem, t0, t1]
end Go.Proofs.YtehhlgdkhecacaaGreat

namespace Go.Proofs.YtehhlgdkhecacaaGreat
open Go.RowKit Go.Shelf
set_option maxRecDepth 100000 in
theorem eqNil22 (a : Option Addr) (n c : Nat) (w : World) : (binOp .eql 22 (.slice a n c) (.slice none 0 0)).run Tryz.prog w = .ok (.bool a.isNone) w := by
 cases a <;> rfl
set_option maxRecDepth 100000 in
set_option maxHeartbeats 1000000 in
theorem cloneP_any (A : Option Addr) (n c : Nat) (xs : List Pf) (w : World) (ha : Arr pcells 9 w A n xs) (hn : n ≤ 1000000) :
  Calls Tryz.prog 69 #[.slice A n c] w fun e w' => (∃ v, e = .returned v ∧ OwnL pcells 9 56 w' w.heap.size v xs) ∧ Below w.heap.size w w' := by
 cases A with
 | none =>
  have h0 : n = 0 := by
   rcases Nat.eq_zero_or_pos n with h | h
   ·exact h
   ·obtain ⟨b, o, e, _⟩ := ha.2 h; cases e
  subst h0
  have : xs = [] := List.eq_nil_of_length_eq_zero ha.1
  subst this
  have heq := fun w => eqNil22 none 0 c w
  clear ha
  go_enter Tryz.func69, Tryz.ntmps69
  go_wp2_with fail
  go_ret
  exact ⟨⟨_, rfl, OwnL.nil _ _⟩, Below.refl _ _⟩
 | some a =>
  have heq := fun w => eqNil22 (some a) n c w
  have HOW := Lib.hid (show OwnL pcells 9 56 (w.alloc (.cells #[] 56)) w.heap.size (.slice (some ⟨w.heap.size, 0, none⟩) 0 0) [] from World.ownsRow_made (e := 56) (size := 9) w #[] 0 (Nat.le_refl w.heap.size) (by decide) rfl)
  have HAA := Lib.hid (ha.below (one_more w (.cells #[] 56)))
  clear ha
  go_enter Tryz.func69, Tryz.ntmps69
  go_wp2_with (first | (at_builtin; go_loud (refine wpList_app kdQ (by rfl) _ _ (by rfl) w.heap.size _ [] (by rfl) HOW.out (some a) n c xs (by rfl) HAA.out (by simpa using hn) (by simp) ?_); intro v' w' ho hbw hz; have HO := Lib.hid ho; have HB := Lib.hid (HOW.out.below hbw (Nat.le_refl _) (by simp)); clear ho hbw hz))
  go_ret
  exact ⟨⟨_, rfl, by have := HO.out; rwa [List.nil_append] at this⟩, (one_more w _).trans HB.out⟩
end Go.Proofs.YtehhlgdkhecacaaGreat

namespace Go.Proofs.YtehhlgdkhecacaaGreat
open Go.RowKit Go.Shelf
abbrev zP : Value := .agg #[.int .i64 0, .int .i64 0, .slice none 0 0, .int .i64 0, .int .i64 0, .int .i64 0, .int .i64 0, .int .i64 0, .int .i64 0]
/-- An append whose run is known. -/
theorem step_runA {w w' : World} {o : Oper} {ops : Array Oper} {a : Act} {K1 : Act → World → Prop} {Q : Exit → Act → World → Prop} {E : Prop} {t : TypeId} (hgd : o.guard = none) (s x : Operand)
  (ho : o.op = .call { callee := .builtin .append, args := #[s, x], argTypes := #[t, t] }) (v u : Value) {v' : Value} (hs : a.eval s = v) (hx : a.eval x = u)
  (hrun : (Builtin.append_ #[t, t] o.type #[v, u]).run Tryz.prog w = .ok v' w') (h : K1 (a.put o.dst v') w') :
  if Region.wanted o (yielded ops a.tmps) = true then Oper.wp Tryz.prog o a w K1 Q else E := by
 have hw : Region.wanted o (yielded ops a.tmps) = true := by simp [Region.wanted, hgd]
 rw [if_pos hw]
 unfold Oper.wp execOp
 simp only [ho, resolve, invoke, builtin, Sem.run_bind, Sem.run_pure, Result.andThen_ok, List.map_toArray, List.map_cons, List.map_nil, hs, hx, hrun]
 exact h
set_option maxRecDepth 100000 in
set_option maxHeartbeats 8000000 in
theorem delP_any (base g n c i : Nat) (l : List Pf) (w : World) (h : OwnL pcells 9 56 w base (.slice (some ⟨g, 0, none⟩) n c) l) (hi : i < n) (hn : n ≤ 1000) :
  Calls Tryz.prog 68 #[.slice (some ⟨g, 0, none⟩) n c, .int .i64 i, .int .i64 ((i : Int) + 1)] w fun e w' => e = .returned (.slice (some ⟨g, 0, none⟩) (n - 1) c) ∧ OwnL pcells 9 56 w' base (.slice (some ⟨g, 0, none⟩) (n - 1) c) (l.eraseIdx i) ∧ Fix g g w w' := by
 obtain ⟨hn0, hb, cur, hg, hnc, hm, hs, -⟩ := own_inv h
 have hfr := h.front pcells_len (i := i) (by omega)
 obtain ⟨A', c', hv', -, -, har, -⟩ := OwnL.arr kdQ h
 have hA' : A' = some ⟨g, 0, none⟩ := by cases hv'; rfl
 subst hA'
 rw [← hn0] at har
 clear hv'
 obtain ⟨i0, hi0, hz0, hz1, hz2⟩ := info_parts info56
 have hnews : ∀ j u, ((l.drop (i + 1)).flatMap pcells)[j]? = some u → w.cell? ((⟨g, if c = i + 1 then 0 else 0 + (i + 1) * 9, none⟩ : Addr).add j) = some u := by
  intro j u hu
  have hjl : j < ((l.drop (i + 1)).flatMap pcells).length := (List.getElem?_eq_some_iff.1 hu).1
  rw [flat_len pcells_len, List.length_drop] at hjl
  have hne : ¬ c = i + 1 := by omega
  rw [if_neg hne, add_at]
  have hjm : i + 1 + j / 9 < n := by omega
  obtain ⟨b', o', x, e1, -, hx, hc⟩ := har.at hjm
  cases e1
  have hd := Nat.div_add_mod j 9
  rw [← hd, Nat.mul_comm, flat_get pcells_len _ _ _ (Nat.mod_lt _ (by decide)), List.getElem?_drop, hx] at hu
  have := hc w (Below.refl _ _) (j % 9) u hu
  rw [show 0 + (i + 1) * 9 + j = 0 + (i + 1 + j / 9) * 9 + j % 9 by omega]
  exact this
 have happ := fun ty => run_append_fits (P := Tryz.prog) w.drew base 22 ty 56 i0 9 kdQ.ht hi0 hz1 g i c ((l.take i).flatMap pcells) (by have := hfr; unfold OwnL at this; rwa [List.length_take, Nat.min_eq_left (by omega)] at this) ⟨g, if c = i + 1 then 0 else 0 + (i + 1) * 9, none⟩ (n - (i + 1)) (c - (i + 1)) ((l.drop (i + 1)).flatMap pcells) (by rw [flat_len pcells_len, List.length_drop]; omega) hnews
  (fun u hu => by obtain ⟨x, -, hx⟩ := List.mem_flatMap.1 hu; exact pcells_one x u hx) (by omega)
 have HAP := Lib.hid happ
 have HN0 := Lib.hid hn0
 have HCM := Lib.hid hm
 have hw1 : i + (n - (i + 1)) = n - 1 := by omega
 rw [hw1] at HAP
 have hc1 : ¬ c < n := by omega
 have HB := Lib.hid hg
 have HH := Lib.hid h
 unfold maxLen at hm
 have hne : ((i : Int) == (i : Int) + 1) = false := by simp; omega
 have hq3 : ((i : Int) + 1).toNat = i + 1 := by omega
 have hq4 : (0 : Int) ≤ (i : Int) + 1 := by omega
 clear h hfr har hi0 hz0 hz1 hz2 hnews happ hg hb hs hn0
 have b1 : (0 : Int) ≤ (i : Int) := by omega
 have b2 : (i : Int) ≤ (c : Int) := by omega
 have b3 : (i : Int) + 1 ≤ (n : Int) := by omega
 have b4 : (n : Int) ≤ (c : Int) := by omega
 have b5 : (i : Int) ≤ (n : Int) := by omega
 by_cases hcl : c = i + 1
 ·have HAPc := Lib.hid (show n = i + 1 by omega)
  have hnn := HAPc.out
  subst hcl
  subst hnn
  rw [if_pos rfl] at HAP
  have b6 : (i : Int) ≤ (i : Int) + 1 := by omega
  go_enter Tryz.func68, Tryz.ntmps68
  go_upto_region 5 with fail
  obtain ⟨w1, hrun, how, hgr⟩ := HAP.out 22
  have HOW := Lib.hid how
  have HGR := Lib.hid hgr
  clear how hgr
  go_region_held3 (fun _ => True) (trivial) (fail)
  have hel : l.eraseIdx i = l.take i := by rw [List.eraseIdx_eq_take_drop_succ, List.drop_of_length_le (by rw [← HN0.out]; exact Nat.le_refl _), List.append_nil]
  have h2 : OwnL pcells 9 56 w base (.slice (some ⟨g, 0, none⟩) i (i + 1)) (l.take i) := HH.out.front pcells_len (i := i) (by omega)
  obtain ⟨-, -, cur2, hg2, -, -, hs2, -⟩ := own_inv h2
  obtain ⟨i1, hi1, hy0, hy1, hy2⟩ := info_parts info56
  have hclr := Lib.hid (fun ty => run_clear_gen w.drew 22 56 ty zP 9 g (i * 9) 1 1 Tryz.underlying22 (fun w => by simp [zeroValue, typeInfo, hi1, hy0]) (by omega) rfl (by decide) (by intro v hv; simp [Value.cells] at hv; rcases hv with rfl | rfl | rfl <;> rfl)
   (fun j hj => by
    have e1 := hg2.cell (i * 9 + j)
    rw [Array.getElem?_eq_getElem (by rw [hs2]; omega)] at e1
    exact Option.isSome_iff_exists.2 ⟨_, e1⟩) (fun j _ => hg2.frozen _))
  have hclr2 := hclr.out
  obtain ⟨vs, hvs⟩ : ∃ vs, (Builtin.zeroCells zP.cells 1).toList = vs := ⟨_, rfl⟩
  have HVL := Lib.hid (show vs.length = 1 * 9 by rw [← hvs]; exact zeroCells_len _ _)
  rw [hvs] at hclr2
  have HEL := Lib.hid hel
  have HO2 := Lib.hid h2
  clear hvs hclr hg2 hi1 hy0 hy1 hy2 hel h2
  go_wp2_with fail
  go_ret
  refine ⟨rfl, ?_, (show Fix g g w w.drew from ⟨rfl, rfl, rfl, Nat.le_refl _, fun _ _ _ _ => rfl⟩).trans (fix_setCells _ _ _)⟩
  rw [HEL.out]
  exact OwnL.behind pcells_len (w := w.drew) HO2.out (Nat.le_refl _) (by rw [HVL.out]; omega)
 ·rw [if_neg hcl, Nat.zero_add] at HAP
  go_enter Tryz.func68, Tryz.ntmps68
  go_upto_region 5 with fail
  obtain ⟨w1, hrun, how, hgr⟩ := HAP.out 22
  have HOW := Lib.hid how
  have HGR := Lib.hid hgr
  clear how hgr
  have HRU := Lib.hid hrun
  clear hrun
  go_region_held3 (fun _ => True) (trivial) (go_loud (refine step_runA (t := 22) (by rfl) _ _ (by rfl) _ _ (by rfl) (by rfl) HRU.out ?_))
  obtain ⟨-, -, cur2, hg2, -, -, hs2, -⟩ := own_inv (show OwnL pcells 9 56 w1 base (.slice (some ⟨g, 0, none⟩) (n - 1) c) (l.eraseIdx i) by
   have h1 := HOW.out
   rw [← List.flatMap_append, ← List.eraseIdx_eq_take_drop_succ] at h1
   unfold OwnL
   rw [show (l.eraseIdx i).length = n - 1 by rw [List.length_eraseIdx_of_lt (by rw [← HN0.out]; exact hi), ← HN0.out]]
   exact h1)
  obtain ⟨i1, hi1, hy0, hy1, hy2⟩ := info_parts info56
  have hclr := Lib.hid (fun ty => run_clear_gen w1 22 56 ty zP 9 g ((n - 1) * 9) (n - (n - 1)) (c - (n - 1)) Tryz.underlying22 (fun w => by simp [zeroValue, typeInfo, hi1, hy0]) (by omega) rfl (by decide) (by intro v hv; simp [Value.cells] at hv; rcases hv with rfl | rfl | rfl <;> rfl)
   (fun j hj => by rw [hg2.cell, Array.getElem?_eq_getElem (by rw [hs2]; omega)]; rfl) (fun j _ => hg2.frozen _))
  have hclr2 := hclr.out
  obtain ⟨vs, hvs⟩ : ∃ vs, (Builtin.zeroCells zP.cells (n - (n - 1))).toList = vs := ⟨_, rfl⟩
  have HVL := Lib.hid (show vs.length = (n - (n - 1)) * 9 by rw [← hvs]; exact zeroCells_len _ _)
  rw [hvs] at hclr2
  have HG2 := Lib.hid hg2
  have hca : ¬ c = n - 1 := by omega
  have q1 : ((n - 1 : Nat) : Int) ≤ (n : Int) := by omega
  have q2 : (0 : Int) ≤ (n : Int) := by omega
  have q3 : (0 : Int) ≤ ((n - 1 : Nat) : Int) := by omega
  clear hvs hclr hg2 hi1 hy0 hy1 hy2 hcl
  go_wp2_with fail
  go_ret
  have hel : (l.eraseIdx i).length = n - 1 := by rw [List.length_eraseIdx_of_lt (by rw [← HN0.out]; exact hi), ← HN0.out]
  have h1 := HOW.out
  rw [← List.flatMap_append, ← List.eraseIdx_eq_take_drop_succ] at h1
  have h2 : OwnL pcells 9 56 w1 base (.slice (some ⟨g, 0, none⟩) (n - 1) c) (l.eraseIdx i) := by unfold OwnL; rw [hel]; exact h1
  refine ⟨rfl, h2.behind pcells_len (Nat.le_refl _) (by rw [HVL.out]; omega), (show Fix g g w w1 from ⟨HGR.out.os, HGR.out.tape, HGR.out.output, HGR.out.size, fun k hk h3 _ => HGR.out.block k hk (by intro e; cases e; exact h3 rfl)⟩).trans (fix_setCells _ _ _)⟩
end Go.Proofs.YtehhlgdkhecacaaGreat

namespace Go.Proofs.YtehhlgdkhecacaaGreat
open Go.RowKit Go.Shelf
theorem many_sub : ∀ {c l : List Qf}, c.Sublist l → (∀ q ∈ l, 1 ≤ q.per.length) → (c.map fun q => q.per.length).foldr (· * ·) 1 ≤ (l.map fun q => q.per.length).foldr (· * ·) 1
 | _, _, .slnil, _ => Nat.le_refl _
 | _, _, .cons q h, hq => by
  rw [List.map_cons, List.foldr_cons]
  exact Nat.le_trans (many_sub h fun x hx => hq x (List.mem_cons_of_mem _ hx)) (Nat.le_mul_of_pos_left _ (hq q (by simp)))
 | _, _, .cons_cons q h, hq => by
  rw [List.map_cons, List.map_cons, List.foldr_cons, List.foldr_cons]
  exact Nat.mul_le_mul_left _ (many_sub h fun x hx => hq x (List.mem_cons_of_mem _ hx))
theorem reads_len_sub {c l : List Qf} (h : okL l = true) (hs : c.Sublist l) : (reads c).length ≤ 2000 := by
 have hall := okL_all h
 have h1 : manyL l ≤ 2000 := by
  unfold okL at h
  simp only [Bool.and_eq_true, decide_eq_true_eq] at h
  exact h.1.2
 unfold manyL at h1
 rw [foldr_mul, Nat.one_mul] at h1
 have h2 := more_len (c := c) c.length [] (by simp) (fun q hq => (isQf_per (hall q (hs.subset hq))).2)
 unfold reads
 exact Nat.le_trans h2 (Nat.le_trans (many_sub hs fun q hq => (isQf_per (hall q hq)).1) h1)
theorem cn_sub {l fl : List Pf} (h : okL (l.map Pf.q) = true) (hs : fl.Sublist l) {w : World} {A : Option Addr} {n : Nat} (hp : Prf w A n fl) (hn : n ≤ 60) : Cn w A n fl :=
 ⟨hp, hn, fun p hp => okL_all h _ (List.mem_map.2 ⟨p, hs.subset hp, rfl⟩), ((hs.map Pf.q).map Qf.src).nodup ((okL_src h).imp fun hlt => by omega), reads_len_sub h (hs.map Pf.q)⟩
/-- Does the answer rest on the proof? -/
def rstB (c : List Qf) (person parish day : Int) (i : Nat) : Bool := decide (righN (wherS (c.eraseIdx i) person day) parish ≠ righN (wherS c person day) parish)
def rstP (c : List Qf) (person parish day : Int) (m : Nat) : List Int := ((List.range m).filter fun i => rstB c person parish day i).map fun i => (c.getD i q0).src
def rstS (c : List Qf) (person parish day : Int) : List Int := rstP c person parish day c.length
theorem rstP_succ (c : List Qf) (person parish day : Int) (m : Nat) : rstP c person parish day (m + 1) = rstP c person parish day m ++ (if rstB c person parish day m = true then [(c.getD m q0).src] else []) := by
 unfold rstP
 rw [List.range_succ, List.filter_append, List.map_append]
 congr 1
 by_cases h : rstB c person parish day m = true
 ·rw [if_pos h, List.filter_cons_of_pos h]; rfl
 ·rw [if_neg h, List.filter_cons_of_neg h]; rfl
theorem rstP_len (c : List Qf) (person parish day : Int) (m : Nat) : (rstP c person parish day m).length ≤ m := by
 unfold rstP
 rw [List.length_map]
 have := List.length_filter_le (fun i => rstB c person parish day i) (List.range m)
 rwa [List.length_range] at this
set_option maxRecDepth 100000 in
set_option maxHeartbeats 8000000 in
theorem rests_any (A : Option Addr) (n c : Nat) (l : List Pf) (person parish day known : Int) (w : World) (ha : Prf w A n l) (hn : n ≤ 9223372036854775807) :
  Calls Tryz.prog 15 #[.slice A n c, .int .i64 person, .int .i64 parish, .int .i64 day, .int .i64 known] w (ListEnd (rstS (cntL (l.map Pf.q) known) person parish day) (readE (l.map Pf.q) person parish [day, known] known) w) := by
 obtain ⟨W1, hW1⟩ : ∃ X, w.alloc (.cells #[.int .i64 day, .int .i64 known] 3) = X := ⟨_, rfl⟩
 have g1 : Below w.heap.size w W1 := by rw [← hW1]; exact one_more _ _
 have b1 : Blk W1 w.heap.size 3 #[.int .i64 day, .int .i64 known] := by rw [← hW1]; exact Blk.new _ _ _
 have T := askRead_any person parish (some ⟨w.heap.size, 0, none⟩) 2 2 [day, known] known A n c l W1 (ha.below g1) hn (two_ints b1) (by decide) (by decide) rfl
 have HFM := Lib.hid (show (l.filter fun p => cnt p.q known).map Pf.q = cntL (l.map Pf.q) known from filt_map l (fun q => cnt q known))
 have HOK := Lib.hid (fun (h : readE (l.map Pf.q) person parish [day, known] known = 0) => (askE_ok (readE_ask h)))
 obtain ⟨re, hre⟩ : ∃ s, readE (l.map Pf.q) person parish [day, known] known = s := ⟨_, rfl⟩
 rw [hre] at HOK T ⊢
 have HFS := Lib.hid (show (l.filter fun p => cnt p.q known).Sublist l from List.filter_sublist)
 obtain ⟨fl, hfl⟩ : ∃ s, (l.filter fun p => cnt p.q known) = s := ⟨_, rfl⟩
 have G1 := Lib.hid g1
 have HW1 := Lib.hid hW1
 unfold AskEnd at T
 rw [hfl] at T HFM HFS
 obtain ⟨cq, hcq⟩ : ∃ s, cntL (l.map Pf.q) known = s := ⟨_, rfl⟩
 rw [hcq] at HFM ⊢
 obtain ⟨rs, hrs⟩ : ∃ s, rstS cq person parish day = s := ⟨_, rfl⟩
 rw [hrs]
 have HRS := Lib.hid hrs
 have HT := Lib.hid T
 clear ha hre hfl hcq hrs g1 b1 hW1 T
 by_cases hz : re = 0
 ·subst hz
  go_enter Tryz.func15, Tryz.ntmps15
  go_upto_region 2 with (go_at_call 66; rw [HW1.out]; (with_reducible refine (HT.out).mono ?_); rintro e V ⟨A2, n2, c2, rfl, ho, -, hg⟩; have HO := Lib.hid (ho rfl); have GV := Lib.hid (G1.out.trans (hg.mono G1.out.size)); clear ho hg)
  obtain ⟨hok, hper, -, hdays⟩ := HOK.out (by trivial)
  have HCS := Lib.hid (fun (f : List Pf) (hs : f.Sublist l) (W : World) (A : Option Addr) (n : Nat) (hp : Prf W A n f) (hn : n ≤ 60) => cn_sub hok hs hp hn)
  have HCN := Lib.hid (HCS.out fl HFS.out V A2 n2 HO.out.1 HO.out.2.1)
  have HP64 := Lib.hid (And.intro (in64_person hper) (in64_day (hdays day (by simp))))
  have TW := right_any A2 n2 c2 fl person parish day V HCN.out HP64.out.1 HP64.out.2
  rw [HFM.out] at TW
  obtain ⟨was, hwas⟩ : ∃ s, righN (wherS cq person day) parish = s := ⟨_, rfl⟩
  rw [hwas] at TW
  have HWAS := Lib.hid hwas
  have HTW := Lib.hid TW
  have HLM := Lib.hid (show fl.length = n2 from HCN.out.prf.len)
  have HCL := Lib.hid (show cq.length = n2 by rw [← HFM.out, List.length_map, HLM.out])
  have HO0 := Lib.hid (fun (W : World) => OwnL.nil (f := icells) (size := 1) (e := 3) W V.heap.size)
  clear TW hok hper hdays hwas
  go_upto_region 7 with (go_at_call 67; (with_reducible refine (HTW.out).mono ?_); rintro e V2 ⟨rfl, hg⟩; have GV2 := Lib.hid hg; clear hg)
  go_loopw [15, 39] (fun v i wr => ∃ k : Nat, k ≤ n2 ∧ OwnL icells 1 3 wr V.heap.size v (rstP cq person parish day k) ∧ i = .int .i64 k ∧ Below V.heap.size V wr) (fun _ i _ => n2 - (intOf i).toNat)
  case atStart => exact ⟨0, Nat.zero_le _, HO0.out _, rfl, GV2.out⟩
  case round =>
   obtain ⟨k, hk, ho, rfl, hg⟩ := hrel
   have HG := Lib.hid hg
   have HOX := Lib.hid ho
   clear ho
   by_cases hkn : k < n2
   ·have HSU := Lib.hid (rstP_succ cq person parish day k)
    have HPK := Lib.hid (map_pf (l := fl) (k := k) (by rw [HLM.out]; exact hkn))
    obtain ⟨b, o, rfl, -, -, -, hyc⟩ := (HCN.out.prf.below hg).at hkn
    obtain ⟨y, hy⟩ : ∃ y, fl.getD k p0 = y := ⟨_, rfl⟩
    rw [hy] at hyc HPK
    rw [HFM.out] at HPK
    obtain ⟨e0, e1, e2, e3, e4, e5, e6, e7, e8⟩ := hyc _ (Below.refl _ _)
    obtain ⟨W2, hW2⟩ : ∃ X, wr.alloc (.cells #[.int .i64 y.q.src, .int .i64 y.q.kind, .slice y.A y.n y.c, .int .i64 y.q.oth, .int .i64 y.q.par, .int .i64 y.q.day, .int .i64 y.q.thr, .int .i64 y.q.kno, .int .i64 y.q.unt] 56) = X := ⟨_, rfl⟩
    have GW2 := Lib.hid (show Below wr.heap.size wr W2 by rw [← hW2]; exact one_more _ _)
    have BW2 := Lib.hid (show Blk W2 wr.heap.size 56 #[.int .i64 y.q.src, .int .i64 y.q.kind, .slice y.A y.n y.c, .int .i64 y.q.oth, .int .i64 y.q.par, .int .i64 y.q.day, .int .i64 y.q.thr, .int .i64 y.q.kno, .int .i64 y.q.unt] by rw [← hW2]; exact Blk.new _ _ _)
    have HW2 := Lib.hid hW2
    have HGW := Lib.hid (HG.out.trans (GW2.out.mono HG.out.size))
    have hn60 := HCN.out.n
    have hwr2 : wrap64 ((k : Int) + 1) = (k : Int) + 1 := wrap_in (by omega)
    have hki : (k : Int) < (n2 : Int) := by omega
    have TC := Lib.hid (cloneP_any (some ⟨b, o, none⟩) n2 c2 fl W2 (HCN.out.prf.below HGW.out).a (by omega))
    have hmq : (fl.eraseIdx k).map Pf.q = cq.eraseIdx k := by rw [← HFM.out, List.eraseIdx_eq_take_drop_succ, List.eraseIdx_eq_take_drop_succ, List.map_append, List.map_take, List.map_drop]
    have HEL := Lib.hid (show (fl.eraseIdx k).length = n2 - 1 by rw [List.length_eraseIdx_of_lt (by rw [HLM.out]; exact hkn), HLM.out])
    obtain ⟨rv, hrv⟩ : ∃ s, righN (wherS (cq.eraseIdx k) person day) parish = s := ⟨_, rfl⟩
    have HTR := Lib.hid (fun (W : World) (g5 c5 : Nat) (gW : Below V.heap.size V W) (ho : OwnL pcells 9 56 W W2.heap.size (.slice (some ⟨g5, 0, none⟩) (n2 - 1) c5) (fl.eraseIdx k)) => (show Calls Tryz.prog 67 #[.slice (some ⟨g5, 0, none⟩) (n2 - 1) c5, .int .i64 person, .int .i64 parish, .int .i64 day] W fun e w' => e = .returned (.int .i64 rv) ∧ Below W.heap.size W w' by
     obtain ⟨A9, c9, e9, -, -, hp9⟩ := own_prf ho (fun p hp => (HCN.out.prf.p p ((List.eraseIdx_sublist fl k).subset hp)).below gW)
     rw [HEL.out] at e9 hp9
     cases e9
     have := right_any (some ⟨g5, 0, none⟩) (n2 - 1) c5 (fl.eraseIdx k) person parish day W (HCS.out _ ((List.eraseIdx_sublist fl k).trans HFS.out) W _ _ hp9 (by have := HCN.out.n; omega)) HP64.out.1 HP64.out.2
     rw [hmq, hrv] at this
     exact this))
    have HRB := Lib.hid (show rstB cq person parish day k = decide (rv ≠ was) by unfold rstB; rw [hrv, HWAS.out])
    rw [HRB.out, HPK.out] at HSU
    obtain ⟨rp, hrp⟩ : ∃ s, rstP cq person parish day k = s := ⟨_, rfl⟩
    have HTL := Lib.hid (show rp.length + 1 ≤ 1000000 by rw [← hrp]; have := rstP_len cq person parish day k; omega)
    rw [hrp] at HSU HOX
    clear hW2 hy hyc hg hmq hrv hrp
    go_upto_region 9 with fail
    rw [HW2.out]
    clear e0 e1 e2 e3 e4 e5 e6 e7 e8
    have d0 := BW2.out.cell 0
    by_cases hne : rv = was
    ·have hnb : (rv != was) = false := by simpa using hne
     have HS3 := Lib.hid (show rstP cq person parish day (k + 1) = rp by rw [HSU.out, if_neg (by simpa using hne), List.append_nil])
     clear hne
     go_wp2_with (first 
      | (go_at_call 69; (with_reducible refine (TC.out).mono ?_); rintro e W5 ⟨⟨v5, rfl, ho5⟩, hg5⟩; obtain ⟨g5, c5, hv5, hb5⟩ := own_head ho5 (by rw [HLM.out]; omega); rw [HLM.out] at hv5; subst hv5; have HG5 := Lib.hid hg5; have HB5 := Lib.hid hb5; have TD := Lib.hid (delP_any W2.heap.size g5 n2 c5 k fl W5 ho5 hkn (by omega)); clear ho5 hg5 hb5)
      | (go_at_call 68; (with_reducible refine (TD.out).mono ?_); rintro e W6 ⟨rfl, ho6, hf6⟩; have HG6 := Lib.hid (show Below W2.heap.size W2 W6 from HG5.out.trans (hf6.low HB5.out HG5.out.size)); have TR := Lib.hid (HTR.out W6 g5 c5 (HGW.out.trans (HG6.out.mono HGW.out.size)) ho6); clear ho6 hf6)
      | (go_at_call 67; (with_reducible refine (TR.out).mono ?_); rintro e W7 ⟨rfl, hg7⟩; have HG7 := Lib.hid (HG6.out.trans (hg7.mono HG6.out.size)); clear hg7))
     go_roundw
     case rel => exact ⟨k + 1, by omega, by rw [HS3.out]; exact HOX.out.ext (GW2.out.trans (HG7.out.mono GW2.out.size)), rfl, HGW.out.trans (HG7.out.mono HGW.out.size)⟩
     case measure => simp only [intOf]; omega
    ·have hnb : (rv != was) = true := by simpa using hne
     have HS3 := Lib.hid (show rstP cq person parish day (k + 1) = rp ++ [y.q.src] by rw [HSU.out, if_pos (by simpa using hne)])
     clear hne
     go_upto_region 10 with (first 
      | (go_at_call 69; (with_reducible refine (TC.out).mono ?_); rintro e W5 ⟨⟨v5, rfl, ho5⟩, hg5⟩; obtain ⟨g5, c5, hv5, hb5⟩ := own_head ho5 (by rw [HLM.out]; omega); rw [HLM.out] at hv5; subst hv5; have HG5 := Lib.hid hg5; have HB5 := Lib.hid hb5; have TD := Lib.hid (delP_any W2.heap.size g5 n2 c5 k fl W5 ho5 hkn (by omega)); clear ho5 hg5 hb5)
      | (go_at_call 68; (with_reducible refine (TD.out).mono ?_); rintro e W6 ⟨rfl, ho6, hf6⟩; have HG6 := Lib.hid (show Below W2.heap.size W2 W6 from HG5.out.trans (hf6.low HB5.out HG5.out.size)); have TR := Lib.hid (HTR.out W6 g5 c5 (HGW.out.trans (HG6.out.mono HGW.out.size)) ho6); clear ho6 hf6)
      | (go_at_call 67; (with_reducible refine (TR.out).mono ?_); rintro e W7 ⟨rfl, hg7⟩; have HG7 := Lib.hid (HG6.out.trans (hg7.mono HG6.out.size)); clear hg7))
     rename_i W7
     have d0' := (BW2.out.ext HG7.out).cell 0
     have GX := Lib.hid (one_more W7 (.cells #[.int .i64 y.q.src] 3))
     have HI := Lib.hid (one_int (Blk.new W7 3 #[.int .i64 y.q.src]))
     have HO7 := Lib.hid ((HOX.out.ext (GW2.out.trans (HG7.out.mono GW2.out.size))).ext GX.out)
     have HGZ := Lib.hid ((HGW.out.trans (HG7.out.mono HGW.out.size)).trans (GX.out.mono (Nat.le_trans HGW.out.size HG7.out.size)))
     clear d0
     go_wp2_with (first | (at_builtin; go_loud (refine wpList_app kdI (by rfl) _ _ (by rfl) V.heap.size _ rp (by rfl) HO7.out _ 1 1 [y.q.src] (by rfl) HI.out HTL.out HGZ.out.size ?_); intro v' w' ho hgr hz; have HO8 := Lib.hid ho; have GV8 := Lib.hid (HGZ.out.trans (HO7.out.below hgr (Nat.le_refl _) HGZ.out.size)); clear ho hgr hz))
     go_roundw
     case rel => exact ⟨k + 1, by omega, by rw [HS3.out]; exact HO8.out, rfl, GV8.out⟩
     case measure => simp only [intOf]; omega
   ·obtain rfl : k = n2 := by omega
    have HRE := Lib.hid (show rstP cq person parish day k = rs by rw [← HRS.out]; unfold rstS; rw [HCL.out])
    clear hg
    go_wp2_with fail
    go_ret2
    exact listEnd_ok (by rw [← HRE.out]; exact HOX.out) (GV.out.trans (HG.out.mono GV.out.size))
 ·have hzb : (re != 0) = true := by simpa using hz
  have HZ := Lib.hid hz
  clear hz
  go_enter Tryz.func15, Tryz.ntmps15
  go_wp2_with (go_at_call 66; rw [HW1.out]; (with_reducible refine (HT.out).mono ?_); rintro e V ⟨A2, n2, c2, rfl, -, ho, hg⟩; obtain ⟨rfl, rfl, rfl⟩ := ho HZ.out; have GV := Lib.hid (G1.out.trans (hg.mono G1.out.size)); clear ho hg)
  go_ret2
  exact listEnd_no HZ.out GV.out
end Go.Proofs.YtehhlgdkhecacaaGreat

namespace Go.Proofs.YtehhlgdkhecacaaGreat
open Go.RowKit Go.Shelf
theorem cmp_neg (a b : Int) : decide (cmpI a b < 0) = decide (a < b) := by
 unfold cmpI
 by_cases h : a < b
 ·rw [if_pos h, decide_eq_true h]; rfl
 ·rw [if_neg h, decide_eq_false h]
  by_cases h2 : b < a
  ·rw [if_pos h2]; rfl
  ·rw [if_neg h2]; rfl
theorem cmp_zero (a b : Int) : (cmpI a b == 0) = decide (a = b) := by
 unfold cmpI
 by_cases h : a < b
 ·rw [if_pos h, decide_eq_false (by omega)]; rfl
 ·rw [if_neg h]
  by_cases h2 : b < a
  ·rw [if_pos h2, decide_eq_false (by omega)]; rfl
  ·rw [if_neg h2, decide_eq_true (by omega)]; rfl
set_option maxRecDepth 100000 in
theorem bySrc_any (p : Pf) (s : Int) (w : World) : Calls Tryz.prog 146 #[pv p, .int .i64 s] w fun e w' => e = .returned (.int .i64 (cmpI p.q.src s)) ∧ Below w.heap.size w w' := by
 have T := fun W => cmp_any p.q.src s W
 generalize cmpI p.q.src s = r at T ⊢
 have HT := Lib.hid T
 clear T
 go_enter Tryz.func146, Tryz.ntmps146
 go_wp2_with (go_at_call 132; (with_reducible refine (HT.out _).mono ?_); rintro e w' ⟨rfl, rfl⟩)
 go_ret
 exact ⟨rfl, one_more _ _⟩
/-- How many elements have a lesser source; is the next one the one sought? -/
def insP (l : List Pf) (s : Int) : Nat := l.countP fun y => decide (y.q.src < s)
def fndP (l : List Pf) (s : Int) : Bool := decide (insP l s < l.length) && decide ((l.getD (insP l s) p0).q.src = s)
theorem insP_eq {s : Int} : ∀ {l : List Pf} {t : Nat}, t ≤ l.length → (∀ j, j < t → (l.getD j p0).q.src < s) → (∀ j, t ≤ j → j < l.length → ¬ (l.getD j p0).q.src < s) → insP l s = t
 | [], t, ht, _, _ => by simp at ht; subst ht; rfl
 | x :: l, 0, _, _, h2 => by
  have h0 : ¬ x.q.src < s := h2 0 (Nat.le_refl _) (by simp)
  have ih := insP_eq (l := l) (t := 0) (Nat.zero_le _) (fun j h => absurd h (by omega)) (fun j _ hj => h2 (j + 1) (by omega) (by simpa using hj))
  unfold insP at ih ⊢
  rw [List.countP_cons, ih]
  simp [h0]
 | x :: l, t + 1, ht, h1, h2 => by
  have h0 : x.q.src < s := h1 0 (by omega)
  have ih := insP_eq (l := l) (t := t) (by simpa using ht) (fun j h => h1 (j + 1) (by omega)) (fun j h hj => h2 (j + 1) (by omega) (by simpa using hj))
  unfold insP at ih ⊢
  rw [List.countP_cons, ih]
  simp [h0]
set_option maxRecDepth 100000 in
set_option maxHeartbeats 8000000 in
theorem bsearchP_any (A : Option Addr) (n c : Nat) (l : List Pf) (s : Int) (w : World) (ha : Prf w A n l) (hn : n ≤ 1000) (hl : ∀ i j, i < j → j < l.length → (l.getD i p0).q.src < (l.getD j p0).q.src) :
  Calls Tryz.prog 145 #[.slice A n c, .int .i64 s, .func (.func 146) #[] #[]] w fun e w' => e = .returned (.tuple #[.int .i64 (insP l s), .bool (fndP l s)]) ∧ Below w.heap.size w w' := by
 have HA := Lib.hid ha
 have HLN := Lib.hid (show l.length = n from ha.len)
 have HL := Lib.hid hl
 have HIE := Lib.hid (fun t ht h1 h2 => insP_eq (l := l) (s := s) (t := t) ht h1 h2)
 have HFD := Lib.hid (show fndP l s = (decide (insP l s < l.length) && decide ((l.getD (insP l s) p0).q.src = s)) from rfl)
 obtain ⟨ia, hia⟩ : ∃ i, insP l s = i := ⟨_, rfl⟩
 rw [hia] at HIE HFD ⊢
 obtain ⟨fd, hfd⟩ : ∃ i, fndP l s = i := ⟨_, rfl⟩
 rw [hfd] at HFD ⊢
 clear ha hl hia hfd
 go_enter Tryz.func145, Tryz.ntmps145
 go_wp2_with fail
 go_loopw [9, 10] (fun i j wr => ∃ k m : Nat, k ≤ m ∧ m ≤ n ∧ i = .int .i64 k ∧ j = .int .i64 m ∧ Below w.heap.size w wr ∧ (∀ t, t < k → (l.getD t p0).q.src < s) ∧ ∀ t, m ≤ t → t < n → ¬ (l.getD t p0).q.src < s) (fun i j _ => (intOf j).toNat - (intOf i).toNat)
 case atStart => exact ⟨0, n, Nat.zero_le _, Nat.le_refl _, rfl, rfl, Below.refl _ _, fun t h => absurd h (by omega), fun t h1 h2 => absurd h1 (by omega)⟩
 case round =>
  obtain ⟨k, m, hkm, hmn, rfl, rfl, hg, hlo, hhi⟩ := hrel
  have HG := Lib.hid hg
  have HLO := Lib.hid hlo
  have HHI := Lib.hid hhi
  clear hg hlo hhi
  by_cases hkn : k < m
  ·obtain ⟨h, hh⟩ : ∃ h, (k + m) / 2 = h := ⟨_, rfl⟩
   have h1 : k ≤ h := by omega
   have h2 : h < m := by omega
   have h3 : h < n := by omega
   have hhi : ((k : Int) + (m : Int)) / 2 = (h : Int) := by omega
   obtain ⟨b0, o0, e0, -, -, -, hc⟩ := (HA.out.below HG.out).at h3
   have HMO := Lib.hid (fun t (ht : t < h) => HL.out t h ht (by rw [HLN.out]; exact h3))
   have HMU := Lib.hid (fun t (ht : h < t) (htn : t < n) => HL.out h t ht (by rw [HLN.out]; exact htn))
   obtain ⟨x, hxg⟩ : ∃ x, l.getD h p0 = x := ⟨_, rfl⟩
   rw [hxg] at hc HMO HMU
   have HXG := Lib.hid hxg
   have T := fun W => bySrc_any x s W
   have HCN := Lib.hid (cmp_neg x.q.src s)
   obtain ⟨cm, hcm⟩ : ∃ r, cmpI x.q.src s = r := ⟨_, rfl⟩
   rw [hcm] at T HCN
   have HT := Lib.hid T
   obtain ⟨x0, x1, x2, x3, x4, x5, x6, x7, x8⟩ := hc _ (Below.refl _ _)
   subst e0
   have hk2 : (h : Int) < (n : Int) := by omega
   clear hc hxg T hcm hh
   by_cases hxs : x.q.src < s
   ·have hcd : decide (cm < 0) = true := by rw [HCN.out]; exact decide_eq_true hxs
    have HXS := Lib.hid hxs
    clear hxs
    go_wp2_with (go_at_call 146; (with_reducible refine (HT.out _).mono ?_); rintro e W2 ⟨rfl, hg2⟩; have GZ := Lib.hid (HG.out.trans (hg2.mono HG.out.size)); clear hg2)
    go_roundw
    case rel => exact ⟨h + 1, m, by omega, by omega, by go_num, rfl, GZ.out, fun t ht => by
     by_cases e : t = h
     ·subst e; rw [HXG.out]; exact HXS.out
     ·exact Int.lt_trans (HMO.out t (by omega)) HXS.out, fun t h1 h2 => by have := HHI.out t h1 h2; omega⟩
    case measure => simp only [intOf]; omega
   ·have hcd : decide (cm < 0) = false := by rw [HCN.out]; exact decide_eq_false hxs
    have HXS := Lib.hid hxs
    clear hxs
    go_wp2_with (go_at_call 146; (with_reducible refine (HT.out _).mono ?_); rintro e W2 ⟨rfl, hg2⟩; have GZ := Lib.hid (HG.out.trans (hg2.mono HG.out.size)); clear hg2)
    go_roundw
    case rel => exact ⟨k, h, h1, by omega, rfl, rfl, GZ.out, HLO.out, fun t ht htn => by
     by_cases e : t = h
     ·subst e; rw [HXG.out]; have := HXS.out; omega
     ·have h9 := HMU.out t (by omega) htn
      have h8 := HXS.out
      omega⟩
    case measure => simp only [intOf]; omega
  ·obtain rfl : m = k := by omega
   obtain rfl : m = ia := (HIE.out m (by rw [HLN.out]; exact hmn) HLO.out (fun j h1 h2 => by have h3 := HLN.out; have h4 := HHI.out j h1 (by omega); omega)).symm
   clear HIE
   by_cases hme : m < n
   ·obtain ⟨b0, o0, e0, -, -, -, hc⟩ := (HA.out.below HG.out).at hme
    obtain ⟨x, hxg⟩ : ∃ x, l.getD m p0 = x := ⟨_, rfl⟩
    rw [hxg] at hc HFD
    have T := fun W => bySrc_any x s W
    have HCZ := Lib.hid (cmp_zero x.q.src s)
    obtain ⟨cm, hcm⟩ : ∃ r, cmpI x.q.src s = r := ⟨_, rfl⟩
    rw [hcm] at T HCZ
    have HT := Lib.hid T
    obtain ⟨x0, x1, x2, x3, x4, x5, x6, x7, x8⟩ := hc _ (Below.refl _ _)
    subst e0
    have hk2 : (m : Int) < (n : Int) := by omega
    have HF2 := Lib.hid (show fd = (cm == 0) by rw [HFD.out, HLN.out, decide_eq_true hme, Bool.true_and, HCZ.out])
    clear hc hxg T hcm
    go_wp2_with (go_at_call 146; (with_reducible refine (HT.out _).mono ?_); rintro e W2 ⟨rfl, hg2⟩; have GZ := Lib.hid (HG.out.trans (hg2.mono HG.out.size)); clear hg2)
    go_ret2
    have e := HF2.out
    subst e
    exact ⟨rfl, GZ.out⟩
   ·have hk2 : ¬ (m : Int) < (n : Int) := by omega
    have e : fd = false := by rw [HFD.out, HLN.out, decide_eq_false hme, Bool.false_and]
    subst e
    go_wp2_with fail
    go_ret2
    exact ⟨rfl, HG.out⟩
theorem find_any (A : Option Addr) (n c : Nat) (l : List Pf) (s : Int) (w : World) (ha : Prf w A n l) (hn : n ≤ 1000) (hl : ∀ i j, i < j → j < l.length → (l.getD i p0).q.src < (l.getD j p0).q.src) :
  Calls Tryz.prog 114 #[.slice A n c, .int .i64 s] w fun e w' => e = .returned (.tuple #[.int .i64 (insP l s), .bool (fndP l s)]) ∧ Below w.heap.size w w' := by
 have HT := Lib.hid (bsearchP_any A n c l s w ha hn hl)
 generalize insP l s = ia at HT ⊢
 generalize fndP l s = fd at HT ⊢
 clear ha hl
 go_enter Tryz.func114, Tryz.ntmps114
 go_wp2_with (go_at_call 145; (with_reducible refine (HT.out).mono ?_); rintro e W2 ⟨rfl, hg2⟩; have GZ := Lib.hid hg2; clear hg2)
 go_ret2
 exact ⟨rfl, GZ.out⟩
end Go.Proofs.YtehhlgdkhecacaaGreat

namespace Go.Proofs.YtehhlgdkhecacaaGreat
open Go.RowKit Go.Shelf
theorem flat_set1 {α : Type} {f : α → List Value} {size : Nat} (hf : ∀ x, (f x).length = size) {ys : List α} {i j : Nat} {y x : α} {u : Value} (hy : ys[i]? = some y) (hx : f x = (f y).set j u) (hj : j < size) :
  (ys.set i x).flatMap f = (ys.flatMap f).set (i * size + j) u := by
 refine List.ext_getElem? fun m => ?_
 have hi : i < ys.length := (List.getElem?_eq_some_iff.1 hy).1
 have hd := Nat.div_add_mod m size
 have hmod : m % size < size := Nat.mod_lt _ (by omega)
 have hm : m / size * size + m % size = m := by rw [Nat.mul_comm]; exact hd
 rw [List.getElem?_set]
 have hlen : i * size + j < (ys.flatMap f).length := by
  rw [flat_len hf]
  have : (i + 1) * size ≤ ys.length * size := Nat.mul_le_mul_right _ hi
  rw [Nat.succ_mul] at this
  omega
 conv => lhs; rw [← hm]
 rw [flat_get hf _ _ _ hmod]
 by_cases e : i = m / size
 ·subst e
  rw [List.getElem?_set_self hi, Option.bind_some, hx, List.getElem?_set, hf]
  by_cases e2 : j = m % size
  ·rw [if_pos e2, if_pos hj, if_pos (by rw [e2]; exact hm), if_pos hlen]
  ·rw [if_neg e2, if_neg (by omega)]
   conv => rhs; rw [← hm]
   rw [flat_get hf _ _ _ hmod, hy]
   rfl
 ·have hne : ¬ i * size + j = m := by
   intro h
   apply e
   rw [← h, Nat.mul_comm, Nat.mul_add_div (by omega), Nat.div_eq_of_lt hj, Nat.add_zero]
  rw [if_neg hne, List.getElem?_set_ne e]
  conv => rhs; rw [← hm]
  rw [flat_get hf _ _ _ hmod]
theorem OwnL.set1 {α : Type} {f : α → List Value} {size : Nat} {e : TypeId} (hf : ∀ x, (f x).length = size) {w : World} {base g n cap i j : Nat} {ys : List α} {y x : α} {u : Value} (h : OwnL f size e w base (.slice (some ⟨g, 0, none⟩) n cap) ys) (hy : ys[i]? = some y) (hx : f x = (f y).set j u) (hj : j < size) :
  OwnL f size e (w.setCell ⟨g, i * size + j, none⟩ u) base (.slice (some ⟨g, 0, none⟩) n cap) (ys.set i x) := by
 obtain ⟨hn0, hb, cur, hg, hn, hm, hs, ht⟩ := own_inv h
 refine own_mk hf (by rw [List.length_set]; exact hn0) hb (hg.set_ _ _) hn hm (by rw [Array.size_setIfInBounds]; exact hs) ?_
 rw [Array.toList_setIfInBounds, flat_set1 hf hy hx hj, ← ht, List.take_set]
theorem ints_fix {w w' : World} {g n : Nat} {A : Option Addr} {l : List Int} (h : Ints w A n l) (hne : ∀ a, A = some a → a.block ≠ g) (f : Fix g g w w') : Ints w' A n l := by
 refine ⟨h.1, fun h0 => ?_⟩
 obtain ⟨b, o, rfl, hb, hc⟩ := h.2 h0
 have hbg : b ≠ g := hne _ rfl
 exact ⟨b, o, rfl, Nat.lt_of_lt_of_le hb f.size, fun k x hx j u hu => f.cell (hc k x hx j u hu) hbg hbg⟩
/-- A slice of one's own of proofs, whose persons lie elsewhere. -/
structure OwnP (w : World) (base g n c : Nat) (l : List Pf) : Prop where
 own : OwnL pcells 9 56 w base (.slice (some ⟨g, 0, none⟩) n c) l
 per : ∀ p ∈ l, PI w p ∧ ∀ a, p.A = some a → a.block ≠ g
theorem OwnP.ext {w w' : World} {base g n c : Nat} {l : List Pf} (h : OwnP w base g n c l) (k : Below w.heap.size w w') : OwnP w' base g n c l := ⟨h.own.ext k, fun p hp => ⟨(h.per p hp).1.below k, (h.per p hp).2⟩⟩
theorem OwnP.prf {w : World} {base g n c : Nat} {l : List Pf} (h : OwnP w base g n c l) : Prf w (some ⟨g, 0, none⟩) n l := by
 obtain ⟨A, c', e, -, -, har, -⟩ := OwnL.arr kdQ h.own
 cases e
 exact ⟨har, fun p hp => (h.per p hp).1⟩
theorem run_copy_none (w : World) (ty : TypeId) (b : Addr) (dCap sCap : Nat) :
  (Builtin.copy_ #[22, 22] ty #[.slice (some b) 0 dCap, .slice none 0 sCap]).run Tryz.prog w = .ok (goInt (0 : Nat)) w := by
 have hsz : (Tryz.prog.info? 56).map (·.size) = some 9 := by
  obtain ⟨j, hj, h0, h1, h2⟩ := info_parts kdQ.hi
  rw [hj]; simp [h1]
 cases hq : Tryz.prog.info? 56 with
 | none => rw [hq] at hsz; cases hsz
 | some i =>
  simp [Builtin.copy_, run_underlying kdQ.ht, Builtin.lenOf, Builtin.firstCells, sizeOf, typeInfo, hq, storeCells]
end Go.Proofs.YtehhlgdkhecacaaGreat

namespace Go.Proofs.YtehhlgdkhecacaaGreat
open Go.RowKit Go.Shelf
theorem run_copy_many (w : World) (dT sT ty elem : TypeId) (size b o dLen dCap : Nat) (a : Addr) (sLen sCap : Nat) (cs : List Value)
  (hu : Tryz.prog.underlying dT = some (.slice elem)) (hs : (Tryz.prog.info? elem).map (·.size) = some size) (hn : cs.length = Nat.min sLen dLen * size)
  (hsrc : ∀ j v, cs[j]? = some v → w.cell? (a.add j) = some v) (hc : ∀ j, j < cs.length → (w.cell? ⟨b, o + j, none⟩).isSome = true) (hf : ∀ j, j < cs.length → w.frozen? ⟨b, o + j, none⟩ = false) (h1 : ∀ v ∈ cs, v.oneCell' = true) :
  (Builtin.copy_ #[dT, sT] ty #[.slice (some ⟨b, o, none⟩) dLen dCap, .slice (some a) sLen sCap]).run Tryz.prog w = .ok (goInt (Nat.min sLen dLen)) (w.setCells b o cs) := by
 have hl := run_loadCells_list (P := Tryz.prog) w a cs hsrc
 have hst := run_storeCells_cells (P := Tryz.prog) b o cs 0 w (by simpa using hc) (by simpa using hf) h1
 cases hq : Tryz.prog.info? elem with
 | none => simp [hq] at hs
 | some i =>
  have hi : i.size = size := by simpa [hq] using hs
  simp [Builtin.copy_, run_underlying hu, Builtin.lenOf, Builtin.firstCells, sizeOf, typeInfo, hq, hi, ← hn, hl, hst]
theorem blk_cell {w : World} {g : Nat} {t : TypeId} {cur : Array Value} (h : Blk w g t cur) {j : Nat} {v : Value} (hj : cur.toList[j]? = some v) : w.cell? ⟨g, j, none⟩ = some v := by
 have h2 : cur[j]? = some v := by simpa using hj
 unfold Blk at h
 simp [World.cell?, h, h2]
theorem blk_frozen {w : World} {g : Nat} {t : TypeId} {cur : Array Value} (h : Blk w g t cur) (j : Nat) : w.frozen? ⟨g, j, none⟩ = false := by
 unfold Blk at h
 simp [World.frozen?, h]
theorem blk_some {w : World} {g : Nat} {t : TypeId} {cur : Array Value} (h : Blk w g t cur) {j : Nat} (hj : j < cur.size) : (w.cell? ⟨g, j, none⟩).isSome = true := by
 rw [blk_cell h (v := cur[j]) (by simp [hj])]; rfl
theorem blk_drew {w : World} {g : Nat} {t : TypeId} {cur : Array Value} (h : Blk w g t cur) : Blk w.drew g t cur := h
theorem wp_copy_runQ (w : World) {o : Oper} {a : Act} {K : Act → World → Prop} {Q : Exit → Act → World → Prop} (d s : Operand) (t t' : TypeId)
  (ho : o.op = .call { callee := .builtin .copy, args := #[d, s], argTypes := #[t, t'] }) (v u : Value) (hd : a.eval d = v) (hs : a.eval s = u) {v' : Value} {w' : World}
  (hr : (Builtin.copy_ #[t, t'] o.type #[v, u]).run Tryz.prog w = .ok v' w') (h : K (a.put o.dst v') w') : o.wp Tryz.prog a w K Q := by
 unfold Oper.wp execOp
 simp only [ho, resolve, invoke, builtin, Sem.run_bind, Sem.run_pure, Result.andThen_ok, List.map_toArray, List.map_cons, List.map_nil, hd, hs, hr]
 exact h
theorem wpList_copy_runQ (w : World) {ops : Array Oper} {rest : List Oper} {o : Oper} {a : Act} {Q : Exit → Act → World → Prop} (hgd : o.guard = none) (d s : Operand) (t t' : TypeId)
  (ho : o.op = .call { callee := .builtin .copy, args := #[d, s], argTypes := #[t, t'] }) (v u : Value) (hd : a.eval d = v) (hs : a.eval s = u) {v' : Value} {w' : World}
  (hr : (Builtin.copy_ #[t, t'] o.type #[v, u]).run Tryz.prog w = .ok v' w') (h : wpList Tryz.prog ops Q rest (a.put o.dst v') w') : wpList Tryz.prog ops Q (o :: rest) a w :=
 wpList_plain hgd fun _ hK => wp_copy_runQ w d s t t' ho v u hd hs hr (hK _ _ h)
/-- The same proofs. -/
def CopP (w : World) (base g n c : Nat) (l : List Qf) : Prop := ∃ l', OwnP w base g n c l' ∧ l'.map Pf.q = l
theorem size56 : (Tryz.prog.info? 56).map (·.size) = some 9 := by
 obtain ⟨j, hj, h0, h1, h2⟩ := info_parts kdQ.hi
 rw [hj]; simp [h1]
/-- The row as make and copy leave it. -/
theorem copied_row (A : Option Addr) (n c : Nat) (l : List Pf) (w : World) (ha : Prf w A n l) (hn : n ≤ 1000) (hq : ∀ p ∈ l, 1 ≤ p.n) : ∃ W2, Below w.heap.size w W2 ∧
  (Instr.makeSlice 22 (.int .i64 (n : Int)) (.int .i64 (n : Int))).run Tryz.prog w = .ok (.slice (some ⟨w.heap.size, 0, none⟩) n n) (w.alloc (.cells (madeCells zP.cells (n * 9)) 56)) ∧
  (∀ ty, (Builtin.copy_ #[22, 22] ty #[.slice (some ⟨w.heap.size, 0, none⟩) n n, .slice A n c]).run Tryz.prog (w.alloc (.cells (madeCells zP.cells (n * 9)) 56)) = .ok (goInt (n : Nat)) W2) ∧
  OwnP W2 w.heap.size w.heap.size n n l := by
 obtain ⟨i0, hi0, hz0, hz1, hz2⟩ := info_parts info56
 have hmk := run_make (P := Tryz.prog) w 22 56 i0 zP kdQ.ht hi0 hz0 .i64 .i64 n n (by omega) (Int.le_refl _) (by rw [hz2]; omega) (by omega)
 simp only [Int.toNat_natCast, hz1] at hmk
 obtain ⟨W1, hW1⟩ : ∃ W1, w.alloc (.cells (madeCells zP.cells (n * 9)) 56) = W1 := ⟨_, rfl⟩
 have hb : Blk W1 w.heap.size 56 (madeCells zP.cells (n * 9)) := by rw [← hW1]; exact Blk.new _ _ _
 have hsz : (madeCells zP.cells (n * 9)).size = n * 9 := size_madeCells _ _
 have hg : Below w.heap.size w W1 := by rw [← hW1]; exact one_more _ _
 have hper : ∀ (W : World), Fix w.heap.size w.heap.size W1 W → ∀ p ∈ l, PI W p ∧ ∀ a, p.A = some a → a.block ≠ w.heap.size := fun W f p hp => by
  have hi := ha.p p hp
  obtain ⟨b, o, e, hlt, hc⟩ := hi.i.2 (hq p hp)
  have hne : ∀ a, p.A = some a → a.block ≠ w.heap.size := fun a e2 => by
   rw [e] at e2; cases e2; exact Nat.ne_of_lt hlt
  exact ⟨⟨ints_fix (hi.i.below hg) hne f, hi.m⟩, hne⟩
 rw [hW1] at hmk ⊢
 obtain ⟨cs, hcs⟩ : ∃ cs, l.flatMap pcells = cs := ⟨_, rfl⟩
 have hcl : cs.length = n * 9 := by rw [← hcs, flat_len pcells_len, ha.len]
 obtain ⟨cur, hcur⟩ : ∃ cur, madeCells zP.cells (n * 9) = cur := ⟨_, rfl⟩
 rw [hcur] at hb hsz
 have hfit : 0 + cs.length ≤ cur.size := by omega
 refine ⟨W1.setCells w.heap.size 0 cs, hg.trans ((fix_setCells (g := w.heap.size) cs 0 W1).low (Nat.le_refl _) hg.size), hmk, fun ty => ?_, ?_⟩
 ·by_cases h0 : n = 0
  ·subst h0
   have : cs = [] := List.length_eq_zero_iff.1 (by omega)
   rw [this]
   cases A with
   | none => exact run_copy_none _ _ _ _ _
   | some a => exact run_copy_many W1 22 22 ty 56 9 w.heap.size 0 0 0 a 0 c [] kdQ.ht size56 (by simp) (fun j v hj => by simp at hj) (fun j hj => absurd hj (by simp)) (fun j hj => absurd hj (by simp)) (fun v hv => by cases hv)
  ·obtain ⟨b, o, rfl, hlt, -⟩ := ha.a.2 (by omega)
   have := run_copy_many W1 22 22 ty 56 9 w.heap.size 0 n n ⟨b, o, none⟩ n c cs kdQ.ht size56 (by rw [hcl, show Nat.min n n = n from Nat.min_self n]) (fun j v hj => ?_) (fun j hj => blk_some hb (by omega)) (fun j _ => blk_frozen hb _) (fun v hv => ?_)
   ·rwa [show Nat.min n n = n from Nat.min_self n] at this
   ·rw [add_at]
    have hj9 : j / 9 < n := by
     have := (List.getElem?_eq_some_iff.1 hj).1
     omega
    obtain ⟨b', o', x, e, -, hx, hc⟩ := ha.a.at hj9
    cases e
    have hd := Nat.div_add_mod j 9
    rw [← hcs] at hj
    have hj2 : (l.flatMap pcells)[j / 9 * 9 + j % 9]? = some v := by rw [Nat.mul_comm, hd]; exact hj
    rw [flat_get pcells_len _ _ _ (Nat.mod_lt _ (by decide)), hx] at hj2
    have := hc W1 hg (j % 9) v hj2
    rwa [show o + j / 9 * 9 + j % 9 = o + j by omega] at this
   ·rw [← hcs] at hv
    obtain ⟨x, -, hx⟩ := List.mem_flatMap.1 hv
    exact pcells_one x v hx
 ·refine ⟨own_mk pcells_len ha.len.symm (Nat.le_refl _) (blk_setCells hb hfit) (Nat.le_refl _) (by unfold maxLen; omega) ?_ ?_, hper _ (fix_setCells _ _ _)⟩
  ·rw [List.size_toArray, lput_len (by rw [Array.length_toList]; exact hfit), Array.length_toList, hsz]
  ·show (lput cur.toList 0 cs).take (n * 9) = _
   unfold lput
   rw [List.take_zero, List.nil_append, ← hcl, List.take_left, hcs]
theorem set_q (lk : List Pf) (k : Nat) (y' : Pf) (hy : y'.q = (lk.getD k p0).q) : (lk.set k y').map Pf.q = lk.map Pf.q := by
 rw [List.map_set, hy]
 refine List.ext_getElem? fun i => ?_
 rw [List.getElem?_set]
 split
 ·next h =>
  subst h
  split
  ·next h2 =>
   rw [List.length_map] at h2
   rw [List.getElem?_map, getD_pf h2]
   rfl
  ·next h2 => rw [List.getElem?_eq_none (by omega)]
 ·rfl
/-- A proof gets another slice of the same persons. -/
theorem OwnP.setPer {w W5 : World} {base g n c k : Nat} {lk : List Pf} {y : Pf} (ho : OwnP w base g n c lk) (hk : k < n) (hy : lk.getD k p0 = y) (g5 : Below w.heap.size w W5) {A5 : Option Addr} {c5 : Nat} (har : Ints W5 A5 y.q.per.length y.q.per)
  (hne : ∀ a, A5 = some a → a.block ≠ g) (hm : y.q.per.length ≤ c5 ∧ y.q.per.length ≤ 9223372036854775807) : OwnP (W5.setCell ⟨g, k * 9 + 2, none⟩ (.slice A5 y.q.per.length c5)) base g n c (lk.set k ⟨y.q, A5, y.q.per.length, c5⟩) := by
 have hl : k < lk.length := by rw [ho.prf.len]; exact hk
 have f : Fix g g W5 (W5.setCell ⟨g, k * 9 + 2, none⟩ (.slice A5 y.q.per.length c5)) := (Fix.refl g g W5).setCell (p := ⟨g, k * 9 + 2, none⟩) (.inl rfl) _
 refine ⟨(ho.own.ext g5).set1 pcells_len (y := y) (by rw [← hy]; exact getD_pf hl) (x := ⟨y.q, A5, y.q.per.length, c5⟩) rfl (by decide), fun p hp => ?_⟩
 rcases List.mem_or_eq_of_mem_set hp with h | rfl
 ·obtain ⟨h1, h2⟩ := ho.per p h
  exact ⟨⟨ints_fix (h1.i.below g5) h2 f, h1.m⟩, h2⟩
 ·exact ⟨⟨ints_fix har hne f, hm⟩, hne⟩
set_option maxRecDepth 100000 in
set_option maxHeartbeats 4000000 in
theorem copied_any (A : Option Addr) (n c : Nat) (l : List Pf) (w : World) (ha : Prf w A n l) (hn : n ≤ 1000) (hq : ∀ p ∈ l, 1 ≤ p.n ∧ p.n ≤ 1000000) :
  Calls Tryz.prog 116 #[.slice A n c] w fun e w' => (∃ g, e = .returned (.slice (some ⟨g, 0, none⟩) n n) ∧ CopP w' w.heap.size g n n (l.map Pf.q)) ∧ Below w.heap.size w w' := by
 obtain ⟨W2, hg2, hmk, hcp, hop⟩ := copied_row A n c l w ha hn fun p hp => (hq p hp).1
 obtain ⟨W1, hW1⟩ : ∃ W1, w.alloc (.cells (madeCells zP.cells (n * 9)) 56) = W1 := ⟨_, rfl⟩
 rw [hW1] at hmk hcp
 obtain ⟨g, hg⟩ : ∃ g, w.heap.size = g := ⟨_, rfl⟩
 have HLN := Lib.hid ha.len
 rw [hg] at hop hmk hcp hg2 ⊢
 have HG := Lib.hid hg
 have G2 := Lib.hid hg2
 have HOP := Lib.hid hop
 have HQ := Lib.hid hq
 clear ha hg hg2 hop hW1 hq
 go_enter Tryz.func116, Tryz.ntmps116
 go_upto_region 2 with fail
 go_upto_region 3 with (at_builtin; refine wpList_copy_runQ _ rfl _ _ 22 22 rfl _ _ rfl rfl (hcp _) ?_)
 clear hmk hcp
 go_wp2_with fail
 go_loopw [13] (fun i wr => ∃ k : Nat, k ≤ n ∧ i = .int .i64 k ∧ (∃ lk, OwnP wr g g n n lk ∧ lk.map Pf.q = l.map Pf.q ∧ ∀ p ∈ lk, 1 ≤ p.n ∧ p.n ≤ 1000000) ∧ Below g w wr) (fun i _ => n - (intOf i).toNat)
 case atStart => exact ⟨0, Nat.zero_le _, rfl, ⟨l, HOP.out, rfl, fun p hp => HQ.out p hp⟩, G2.out⟩
 case round =>
  obtain ⟨k, hk, rfl, ⟨lk, ho, hlq, hqk⟩, hgw⟩ := hrel
  have HO := Lib.hid ho
  have HGW := Lib.hid hgw
  have HLQ := Lib.hid hlq
  have HQK := Lib.hid hqk
  have hwr2 : wrap64 ((k : Int) + 1) = (k : Int) + 1 := wrap_in (by omega)
  clear hlq hqk hgw
  by_cases hkn : k < n
  ·obtain ⟨b, o, e0, hbl, hyi, hym, hyc⟩ := ho.prf.at hkn
   cases e0
   obtain ⟨y, hy⟩ : ∃ y, lk.getD k p0 = y := ⟨_, rfl⟩
   rw [hy] at hyi hym hyc
   obtain ⟨-, -, e2, -⟩ := hyc _ (Below.refl _ _)
   rw [Nat.zero_add] at e2
   have HY := Lib.hid hy
   have TC := Lib.hid (cloneI_any y.A y.n y.c y.q.per wr hyi.i (HQK.out y hym).2)
   have HYL := Lib.hid (And.intro hyi.len (HQK.out y hym))
   have HBK := Lib.hid hbl
   obtain ⟨-, -, cur, hcur, -, -, -, -⟩ := own_inv ho.own
   have HCU := Lib.hid hcur
   clear ho hy hyi hym hyc hcur hbl
   go_wp2_with (first | (go_at_call 95; go_loud ((with_reducible refine (TC.out).mono ?_); rintro e W5 ⟨⟨v5, rfl, ho5⟩, hg5⟩; obtain ⟨A5, c5, rfl, h51, h52, har5, hbk5⟩ := OwnL.arr kdI ho5; have HA5 := Lib.hid har5; have HB5 := Lib.hid hbk5; have H51 := Lib.hid h51; have HG5 := Lib.hid hg5; have e2' := (hg5.cell (show (⟨g, k * 9 + 2, none⟩ : Addr).block < wr.heap.size from HBK.out)).trans e2; have f2' := (HCU.out.ext hg5).frozen (k * 9 + 2); clear ho5 hg5 har5 hbk5 h51 h52 e2)))
   go_roundw
   case rel =>
    have hl := HYL.out
    obtain ⟨b5, o5, e5, -, -⟩ := HA5.out.2 (by omega)
    have ho2 := HO.out.setPer hkn HY.out HG5.out HA5.out (fun a e => by
     rw [e5] at e
     cases e
     have h1 := (HB5.out b5 o5 e5).2.1
     have h2 : g < wr.heap.size := HBK.out
     show b5 ≠ g
     omega) ⟨H51.out, by omega⟩
    exact ⟨k + 1, by omega, rfl, ⟨_, ho2, by rw [set_q _ _ _ (by rw [HY.out]), HLQ.out], fun p hp => by
     rcases List.mem_or_eq_of_mem_set hp with h | rfl
     ·exact HQK.out p h
     ·show 1 ≤ y.q.per.length ∧ y.q.per.length ≤ 1000000
      omega⟩, (HGW.out.trans (HG5.out.mono (Nat.le_of_lt HBK.out))).setCell (p := ⟨g, k * 9 + 2, none⟩) (Nat.le_refl _) _⟩
   case measure => simp only [intOf]; omega
  ·obtain rfl : k = n := by omega
   clear ho
   go_wp2_with fail
   go_ret
   exact ⟨⟨g, rfl, lk, HO.out, HLQ.out⟩, HGW.out⟩
end Go.Proofs.YtehhlgdkhecacaaGreat

namespace Go.Proofs.YtehhlgdkhecacaaGreat
def datQ (q : Qf) : List Int := q.kno :: (if q.unt ≠ 0 then [q.unt] else [])
def datL (l : List Qf) : List Int := l.flatMap datQ
/-- The dates of proofs, rising. -/
def datS (l : List Qf) : List Int := setL (datL l)
end Go.Proofs.YtehhlgdkhecacaaGreat

namespace Go.Proofs.YtehhlgdkhecacaaGreat
def lssL (l : List Qf) (s : Int) : List Qf := l.filter fun q => decide (q.src ≠ s)
theorem lss_sub (l : List Qf) (s : Int) : (lssL l s).Sublist l := List.filter_sublist
theorem lss_split {a b : List Qf} {q : Qf} (h : (srcL (a ++ q :: b)).Pairwise (· < ·)) : lssL (a ++ q :: b) q.src = a ++ b := by
 unfold srcL at h
 rw [List.map_append, List.map_cons, List.pairwise_append, List.pairwise_cons] at h
 obtain ⟨h1, ⟨h2, h3⟩, h4⟩ := h
 unfold lssL
 rw [List.filter_append, List.filter_cons_of_neg (by simp)]
 rw [List.filter_eq_self.2, List.filter_eq_self.2]
 ·intro x hx
  have := h2 x.src (List.mem_map.2 ⟨x, hx, rfl⟩)
  simp; omega
 ·intro x hx
  have := h4 x.src (List.mem_map.2 ⟨x, hx, rfl⟩) q.src (by simp)
  simp; omega
theorem split_at {l : List Qf} {i : Nat} (h : i < l.length) : l = l.take i ++ l.getD i q0 :: l.drop (i + 1) := by
 have : l.getD i q0 = l[i] := by rw [List.getD_eq_getElem?_getD, List.getElem?_eq_getElem h]; rfl
 rw [this, ← List.drop_eq_getElem_cons h, List.take_append_drop]
theorem lss_at {l : List Qf} {i : Nat} (h : i < l.length) (hs : (srcL l).Pairwise (· < ·)) : lssL l (l.getD i q0).src = l.eraseIdx i := by
 have e := split_at h
 have hs2 := hs
 rw [e] at hs2
 have := lss_split hs2
 rw [← e] at this
 rw [this, List.eraseIdx_eq_take_drop_succ]
def Shut (l : List Qf) (N : List Int) : Prop := ∀ q ∈ l, q.kind = 2 → q.oth ∈ N → ∀ n ∈ q.per, n ∈ N
end Go.Proofs.YtehhlgdkhecacaaGreat

namespace Go.Proofs.YtehhlgdkhecacaaGreat
open Go.RowKit Go.Shelf
theorem ok_rise {l : List Pf} (h : okL (l.map Pf.q) = true) : ∀ i j, i < j → j < l.length → (l.getD i p0).q.src < (l.getD j p0).q.src := by
 intro i j hij hj
 have hs := okL_src h
 unfold srcL at hs
 rw [List.pairwise_iff_getElem] at hs
 have := hs i j (by simp; omega) (by simp; omega) hij
 have g : ∀ k (hk : k < l.length), (l.getD k p0).q.src = l[k].q.src := fun k hk => by rw [List.getD_eq_getElem?_getD, List.getElem?_eq_getElem hk]; rfl
 rw [g i (by omega), g j hj]
 simpa using this
theorem insP_at {l : List Pf} {s : Int} (h : okL (l.map Pf.q) = true) {j : Nat} (hj : j < l.length) (hs : (l.getD j p0).q.src = s) : insP l s = j :=
 insP_eq (by omega) (fun i hi => by have := ok_rise h i j hi hj; omega) (fun i hi hl => by
  rcases Nat.eq_or_lt_of_le hi with e | e
  ·subst e; omega
  ·have := ok_rise h j i e hl; omega)
theorem fndP_iff {l : List Pf} {s : Int} (h : okL (l.map Pf.q) = true) : fndP l s = decide (s ∈ srcL (l.map Pf.q)) := by
 rw [Bool.eq_iff_iff, decide_eq_true_eq]
 unfold fndP srcL
 simp only [Bool.and_eq_true, decide_eq_true_eq, List.map_map, List.mem_map, Function.comp]
 constructor
 ·rintro ⟨h1, h2⟩
  exact ⟨_, mem_pf h1, h2⟩
 ·rintro ⟨p, hp, rfl⟩
  obtain ⟨j, hj, e⟩ := List.getElem_of_mem hp
  have e2 : l.getD j p0 = p := by rw [List.getD_eq_getElem?_getD, List.getElem?_eq_getElem hj, e]; rfl
  have := insP_at h hj (by rw [e2])
  rw [this, e2]
  exact ⟨hj, rfl⟩
theorem lssP_erase {l : List Pf} {s : Int} (h : okL (l.map Pf.q) = true) (hf : fndP l s = true) : insP l s < l.length ∧ (l.map Pf.q).eraseIdx (insP l s) = lssL (l.map Pf.q) s := by
 unfold fndP at hf
 simp only [Bool.and_eq_true, decide_eq_true_eq] at hf
 refine ⟨hf.1, ?_⟩
 rw [← lss_at (by simpa using hf.1) (okL_src h), map_pf hf.1, hf.2]
theorem OwnP.del {w w' : World} {base g n c : Nat} {l : List Pf} {i : Nat} (h : OwnP w base g n c l) (ho : OwnL pcells 9 56 w' base (.slice (some ⟨g, 0, none⟩) (n - 1) c) (l.eraseIdx i)) (f : Fix g g w w') : OwnP w' base g (n - 1) c (l.eraseIdx i) :=
 ⟨ho, fun p hp => by
  obtain ⟨h1, h2⟩ := h.per p ((List.eraseIdx_sublist l i).subset hp)
  exact ⟨⟨ints_fix h1.i h2 f, h1.m⟩, h2⟩⟩
/-- What without returns. -/
def WoEnd (l : List Qf) (s : Int) (w : World) (e : Ending) (w' : World) : Prop :=
 (∃ A n c, e = .returned (.tuple #[.slice A n c, .bool (decide (s ∈ srcL l))]) ∧ (s ∈ srcL l → ∃ l', Prf w' A n l' ∧ l'.map Pf.q = lssL l s ∧ n ≤ 60) ∧ (s ∉ srcL l → A = none ∧ n = 0 ∧ c = 0)) ∧ Below w.heap.size w w'
set_option maxRecDepth 100000 in
set_option maxHeartbeats 4000000 in
theorem without_any (A : Option Addr) (n c : Nat) (l : List Pf) (s : Int) (w : World) (ha : Prf w A n l) (hok : okL (l.map Pf.q) = true) :
  Calls Tryz.prog 74 #[.slice A n c, .int .i64 s] w (WoEnd (l.map Pf.q) s w) := by
 have hlen := ha.len
 have hn : n ≤ 60 := by have := okL_len hok; rw [List.length_map] at this; omega
 have TF := Lib.hid (find_any A n c l s w ha (by omega) (ok_rise hok))
 have hfd := fndP_iff (s := s) hok
 have HER := Lib.hid (fun h => lssP_erase (s := s) hok h)
 have HQ4 := Lib.hid (fun p (hp : p ∈ l) => isQf_per4 (okL_all hok _ (List.mem_map.2 ⟨p, hp, rfl⟩)))
 have TC := Lib.hid (fun W (g : Below w.heap.size w W) => copied_any A n c l W (ha.below g) (by omega) fun p hp => by have h1 := HQ4.out p hp; have h2 := (ha.p p hp).len; omega)
 have HMQ := Lib.hid (fun i (l' : List Pf) (h : l'.map Pf.q = l.map Pf.q) => (show (l'.eraseIdx i).map Pf.q = (l.map Pf.q).eraseIdx i by rw [← h, List.eraseIdx_eq_take_drop_succ, List.eraseIdx_eq_take_drop_succ, List.map_append, List.map_take, List.map_drop]))
 obtain ⟨lq, hlq⟩ : ∃ s, l.map Pf.q = s := ⟨_, rfl⟩
 have HLQ := Lib.hid hlq
 rw [hlq] at hfd HMQ HER ⊢
 have HLN := Lib.hid hlen
 obtain ⟨ip, hip⟩ : ∃ i, insP l s = i := ⟨_, rfl⟩
 have HIP := Lib.hid (show fndP l s = true → ip < n ∧ lq.eraseIdx ip = lssL lq s from fun h => by rw [← hip, ← hlen]; exact HER.out h)
 rw [hip] at TF
 by_cases hm : s ∈ srcL lq
 ·rw [decide_eq_true hm] at hfd
  rw [hfd] at TF
  obtain ⟨hin, her⟩ := HIP.out hfd
  have HM := Lib.hid hm
  have HE := Lib.hid her
  have hwr2 : wrap64 ((ip : Int) + 1) = (ip : Int) + 1 := wrap_in (by omega)
  clear ha hok hfd hlq hip hm her hlen HER HIP
  go_enter Tryz.func74, Tryz.ntmps74
  go_wp2_with (first
   | (go_at_call 114; (with_reducible refine (TF.out).mono ?_); rintro e W1 ⟨rfl, hg1⟩; have HG1 := Lib.hid hg1; clear hg1)
   | (go_at_call 116; (with_reducible refine (TC.out _ HG1.out).mono ?_); rintro e W2 ⟨⟨g2, rfl, ⟨l2, ho2, hq2⟩⟩, hg2⟩; rw [HLQ.out] at hq2; have HG2 := Lib.hid (HG1.out.trans (hg2.mono HG1.out.size)); have HO2 := Lib.hid ho2; have HQ2 := Lib.hid hq2; have HB2 := Lib.hid (show W1.heap.size ≤ g2 from (own_inv ho2.own).2.1); have TD := Lib.hid (delP_any W1.heap.size g2 n n ip l2 W2 ho2.own hin (by omega)); clear ho2 hq2 hg2)
   | (go_at_call 68; (with_reducible refine (TD.out).mono ?_); rintro e W3 ⟨rfl, ho3, hf3⟩; have HO3 := Lib.hid (HO2.out.del ho3 hf3); have HG3 := Lib.hid (HG2.out.trans (hf3.low (Nat.le_trans HG1.out.size HB2.out) HG2.out.size)); clear ho3 hf3))
  go_ret2
  exact ⟨⟨_, _, _, by rw [decide_eq_true HM.out]; rfl, fun _ => ⟨_, HO3.out.prf, by rw [HMQ.out _ _ HQ2.out]; exact HE.out, by omega⟩, fun h => absurd HM.out h⟩, HG3.out⟩
 ·rw [decide_eq_false hm] at hfd
  rw [hfd] at TF
  have HM := Lib.hid hm
  clear ha hok hfd hlq hip hm hlen HER HIP
  go_enter Tryz.func74, Tryz.ntmps74
  go_wp2_with (first
   | (go_at_call 114; (with_reducible refine (TF.out).mono ?_); rintro e W1 ⟨rfl, hg1⟩; have HG1 := Lib.hid hg1; clear hg1))
  go_ret2
  exact ⟨⟨_, _, _, by rw [decide_eq_false HM.out]; rfl, fun h => absurd h HM.out, fun _ => ⟨rfl, rfl, rfl⟩⟩, HG1.out⟩
def woE (l : List Qf) (s : Int) : Int := if okL l = true then (if s ∈ srcL l then 0 else 3) else 21
/-- A list of proofs, and an error. -/
def PrfEnd (l : List Qf) (E : Int) (w : World) (e : Ending) (w' : World) : Prop :=
 ∃ A n c l', e = .returned (.tuple #[.slice A n c, .int .i64 E]) ∧ Prf w' A n l' ∧ l'.map Pf.q = (if E = 0 then l else []) ∧ n ≤ 1000 ∧ Below w.heap.size w w'
theorem Prf.none (w : World) : Prf w none 0 [] := ⟨Arr.nil_, fun p hp => by cases hp⟩
theorem prfEnd_no {l : List Qf} {E : Int} {w V : World} (h : E ≠ 0) (hg : Below w.heap.size w V) : PrfEnd l E w (.returned (.tuple #[.slice none 0 0, .int .i64 E])) V :=
 ⟨_, _, _, [], rfl, Prf.none _, by rw [if_neg h]; rfl, by omega, hg⟩
set_option maxRecDepth 100000 in
set_option maxHeartbeats 4000000 in
theorem withoutF_any (A : Option Addr) (n c : Nat) (l : List Pf) (s : Int) (w : World) (ha : Prf w A n l) (hn : n ≤ 9223372036854775807) :
  Calls Tryz.prog 39 #[.slice A n c, .int .i64 s] w (PrfEnd (lssL (l.map Pf.q) s) (woE (l.map Pf.q) s) w) := by
 have TC := Lib.hid (check_any A n c l w ha hn)
 by_cases hok : okL (l.map Pf.q) = true
 ·have TW := Lib.hid (fun W (g : Below w.heap.size w W) => without_any A n c l s W (ha.below g) hok)
  have HE := Lib.hid (show woE (l.map Pf.q) s = if s ∈ srcL (l.map Pf.q) then 0 else 3 by unfold woE; rw [if_pos hok])
  rw [hok] at TC
  obtain ⟨lq, hlq⟩ : ∃ s, l.map Pf.q = s := ⟨_, rfl⟩
  rw [hlq] at TW HE ⊢
  clear ha hok hlq
  by_cases hm : s ∈ srcL lq
  ·have HM := Lib.hid hm
   have HE0 := Lib.hid (show woE lq s = 0 by rw [HE.out, if_pos hm])
   clear hm HE
   go_enter Tryz.func39, Tryz.ntmps39
   go_wp2_with (first
    | (go_at_call 48; (with_reducible refine (TC.out).mono ?_); rintro e W1 ⟨rfl, hg1⟩; rw [show err true 21 = 0 from rfl]; have HG1 := Lib.hid hg1; clear hg1)
    | (go_at_call 74; (with_reducible refine (TW.out _ HG1.out).mono ?_); rintro e W2 ⟨⟨A2, n2, c2, rfl, hp2, -⟩, hg2⟩; rw [decide_eq_true HM.out]; have HP2 := Lib.hid (hp2 HM.out); have HG2 := Lib.hid (HG1.out.trans (hg2.mono HG1.out.size)); clear hp2 hg2))
   go_ret2
   rw [HE0.out]
   obtain ⟨l', h1, h2, h3⟩ := HP2.out
   exact ⟨_, _, _, l', rfl, h1, by rw [if_pos rfl]; exact h2, by omega, HG2.out⟩
  ·have HM := Lib.hid hm
   have HE0 := Lib.hid (show woE lq s = 3 by rw [HE.out, if_neg hm])
   clear hm HE
   go_enter Tryz.func39, Tryz.ntmps39
   go_wp2_with (first
    | (go_at_call 48; (with_reducible refine (TC.out).mono ?_); rintro e W1 ⟨rfl, hg1⟩; rw [show err true 21 = 0 from rfl]; have HG1 := Lib.hid hg1; clear hg1)
    | (go_at_call 74; (with_reducible refine (TW.out _ HG1.out).mono ?_); rintro e W2 ⟨⟨A2, n2, c2, rfl, -, hp2⟩, hg2⟩; rw [decide_eq_false HM.out]; have HP2 := Lib.hid (hp2 HM.out); have HG2 := Lib.hid (HG1.out.trans (hg2.mono HG1.out.size)); clear hp2 hg2))
   go_ret2
   rw [HE0.out]
   exact prfEnd_no (by decide) HG2.out
 ·have HE0 := Lib.hid (show woE (l.map Pf.q) s = 21 by unfold woE; rw [if_neg hok])
  have hokf : okL (l.map Pf.q) = false := by simpa using hok
  rw [hokf] at TC
  clear ha hok hokf
  go_enter Tryz.func39, Tryz.ntmps39
  go_wp2_with (first
   | (go_at_call 48; (with_reducible refine (TC.out).mono ?_); rintro e W1 ⟨rfl, hg1⟩; rw [show err false 21 = 21 from rfl]; have HG1 := Lib.hid hg1; clear hg1))
  go_ret2
  rw [HE0.out]
  exact prfEnd_no (by decide) HG1.out
end Go.Proofs.YtehhlgdkhecacaaGreat

namespace Go.Proofs.YtehhlgdkhecacaaGreat
open Go.RowKit Go.Shelf
/-- Where a person is settled, as Where says it. -/
def whE (l : List Qf) (day known n : Int) : Int := readE l n 0 [day, known] known
def whA (l : List Qf) (day known n : Int) : List Int := if whE l day known n = 0 then wherS (cntL l known) n day else []
def movB (l less : List Qf) (day known n : Int) : Bool := decide (whE l day known n ≠ whE less day known n) || decide (whA l day known n ≠ whA less day known n)
def movS (l : List Qf) (s day known : Int) : List Int := (persS (cntL l known)).filter (movB l (lssL l s) day known)
def movE (l : List Qf) (s day known : Int) : Int := if lookE l [day, known] = 0 then (if s ∈ srcL l then 0 else 3) else lookE l [day, known]
theorem movE_no {l : List Qf} {s day known x : Int} (h : lookE l [day, known] = x) (hx : x ≠ 0) : movE l s day known = x := by unfold movE; rw [h, if_neg hx]
theorem filt_succ (l : List Int) (f : Int → Bool) {k : Nat} (hk : k < l.length) : (l.take (k + 1)).filter f = (l.take k).filter f ++ (if f (l.getD k 0) = true then [l.getD k 0] else []) := by
 rw [take_snoc (d := 0) hk, List.filter_append]
 congr 1
 by_cases h : f (l.getD k 0) = true
 ·rw [if_pos h, List.filter_cons_of_pos h]; rfl
 ·rw [if_neg h, List.filter_cons_of_neg h]; rfl
theorem putF_len : ∀ (l out : List Int), (l.foldl putI out).length ≤ out.length + l.length
 | [], out => Nat.le_refl _
 | x :: l, out => by
  rw [List.foldl_cons, List.length_cons]
  have h1 := putF_len l (putI out x)
  have h2 := putI_len out x
  omega
theorem persS_len {c : List Qf} (h : ∀ q ∈ c, q.per.length ≤ 4) : (persS c).length ≤ 5 * c.length := by
 have h1 := putF_len (namL c) []
 have h2 := namL_len c h
 rw [List.length_nil, Nat.zero_add] at h1
 exact Nat.le_trans h1 h2
theorem whereN_any (A : Option Addr) (n c : Nat) (l : List Pf) (person day known : Int) (w : World) (ha : Prf w A n l) (hn : n ≤ 9223372036854775807) :
  Calls Tryz.prog 26 #[.slice A n c, .int .i64 person, .int .i64 day, .int .i64 known] w fun e w' => ∃ A' n' c', e = .returned (.tuple #[.slice A' n' c', .int .i64 (whE (l.map Pf.q) day known person)]) ∧ Ints w' A' n' (whA (l.map Pf.q) day known person) ∧ n' ≤ 9223372036854775807 ∧ Below w.heap.size w w' := by
 refine (whereF_any A n c l person day known w ha hn).mono ?_
 rintro e w' ⟨A', n', k, rfl, hi, h1, h2, hg⟩
 unfold maxLen at h2
 exact ⟨A', n', k, rfl, hi, by omega, hg⟩
set_option maxRecDepth 100000 in
set_option maxHeartbeats 8000000 in
theorem moved_any (A : Option Addr) (n c : Nat) (l : List Pf) (s day known : Int) (w : World) (ha : Prf w A n l) (hn : n ≤ 9223372036854775807) :
  Calls Tryz.prog 17 #[.slice A n c, .int .i64 s, .int .i64 day, .int .i64 known] w (ListEnd (movS (l.map Pf.q) s day known) (movE (l.map Pf.q) s day known) w) := by
 obtain ⟨W1, hW1⟩ : ∃ X, w.alloc (.cells #[.int .i64 day, .int .i64 known] 3) = X := ⟨_, rfl⟩
 have g1 : Below w.heap.size w W1 := by rw [← hW1]; exact one_more _ _
 have b1 : Blk W1 w.heap.size 3 #[.int .i64 day, .int .i64 known] := by rw [← hW1]; exact Blk.new _ _ _
 have T := look_any A n c l (some ⟨w.heap.size, 0, none⟩) 2 2 [day, known] W1 (ha.below g1) hn (two_ints b1) (by decide) (by decide)
 unfold LookEnd at T
 rw [show ([day, known] : List Int).getD (([day, known] : List Int).length - 1) 0 = known from rfl] at T
 have HLE := Lib.hid (show ∀ x, lookE (l.map Pf.q) [day, known] = x → x ≠ 0 → movE (l.map Pf.q) s day known = x from fun x h hx => movE_no h hx)
 have HME := Lib.hid (show lookE (l.map Pf.q) [day, known] = 0 → movE (l.map Pf.q) s day known = if s ∈ srcL (l.map Pf.q) then 0 else 3 from fun h => by unfold movE; rw [if_pos h])
 have HOK := Lib.hid (show lookE (l.map Pf.q) [day, known] = 0 → okL (l.map Pf.q) = true from fun h => by
  unfold lookE at h
  by_cases ho : okL (l.map Pf.q) = true
  ·exact ho
  ·rw [if_neg ho] at h; cases h)
 obtain ⟨le, hle⟩ : ∃ x, lookE (l.map Pf.q) [day, known] = x := ⟨_, rfl⟩
 rw [hle] at T HLE HME HOK
 have G1 := Lib.hid g1
 have HW1 := Lib.hid hW1
 have HT := Lib.hid T
 have HA := Lib.hid ha
 clear g1 b1 hW1 T hle ha
 by_cases hz : le = 0
 ·subst hz
  have hok := HOK.out rfl
  have hl60 : l.length ≤ 60 := by have := okL_len hok; rwa [List.length_map] at this
  have HN60 := Lib.hid (show n ≤ 60 by rw [← HA.out.len]; exact hl60)
  have HFM := Lib.hid (show (l.filter fun p => cnt p.q known).map Pf.q = cntL (l.map Pf.q) known from filt_map l (fun q => cnt q known))
  have HCN := Lib.hid (fun (W : World) (A : Option Addr) (m : Nat) (hp : Prf W A m (l.filter fun p => cnt p.q known)) (hm : m ≤ 60) => cn_of hok hp hm)
  have HFL := Lib.hid (show (l.filter fun p => cnt p.q known).length ≤ 60 from Nat.le_trans (List.length_filter_le _ _) hl60)
  have HPI := Lib.hid (fun p (hp : p ∈ l.filter fun p => cnt p.q known) => (show p ∈ l from (List.mem_filter.1 hp).1))
  have HPE := Lib.hid (show (persS (cntL (l.map Pf.q) known)).length ≤ 300 from by
   have h1 := persS_len (c := cntL (l.map Pf.q) known) fun q hq => (isQf_per4 (okL_all hok q (List.mem_filter.1 hq).1)).2
   have h2 := HFL.out
   rw [← HFM.out, List.length_map] at h1
   rw [← HFM.out]
   omega)
  obtain ⟨fl, hfl⟩ : ∃ s, (l.filter fun p => cnt p.q known) = s := ⟨_, rfl⟩
  rw [hfl] at HFM HCN HFL HT HPI
  have TW := Lib.hid (fun W (g : Below w.heap.size w W) => without_any A n c l s W (HA.out.below g) hok)
  have HME2 := Lib.hid (HME.out rfl)
  have TA := Lib.hid (fun W (g : Below w.heap.size w W) x => whereN_any A n c l x day known W (HA.out.below g) hn)
  have HMS := Lib.hid (show movS (l.map Pf.q) s day known = (persS (cntL (l.map Pf.q) known)).filter (movB (l.map Pf.q) (lssL (l.map Pf.q) s) day known) from rfl)
  obtain ⟨lq, hlq⟩ : ∃ s, l.map Pf.q = s := ⟨_, rfl⟩
  rw [hlq] at TW HME2 HMS TA HFM HPE ⊢
  clear hok hl60 hfl hlq HLE HME HOK
  obtain ⟨ps, hps⟩ : ∃ x, persS (cntL lq known) = x := ⟨_, rfl⟩
  rw [hps] at HMS HPE
  obtain ⟨ms, hms⟩ : ∃ x, movS lq s day known = x := ⟨_, rfl⟩
  rw [hms] at HMS ⊢
  have HPS := Lib.hid hps
  clear hms hps
  by_cases hm : s ∈ srcL lq
  ·have HM := Lib.hid hm
   have HME3 := Lib.hid (show movE lq s day known = 0 by rw [HME2.out, if_pos hm])
   clear HME2 hm
   go_enter Tryz.func17, Tryz.ntmps17
   go_upto_region 2 with (go_at_call 73; rw [HW1.out]; (with_reducible refine (HT.out).mono ?_); rintro e V ⟨⟨v, rfl, ho, -⟩, hg⟩; have GV := Lib.hid (G1.out.trans (hg.mono G1.out.size)); obtain ⟨A2, c2, rfl, hp1, hp2, hp3⟩ := own_prf (ho rfl) (fun p hp => (HA.out.p p (HPI.out p hp)).below GV.out); have HP := Lib.hid (And.intro hp1 (And.intro hp2 hp3)); clear ho hp1 hp2 hp3 hg)
   go_upto_region 5 with (go_at_call 74; (with_reducible refine (TW.out _ GV.out).mono ?_); rintro e V2 ⟨⟨A3, n3, c3, rfl, hp3, -⟩, hg3⟩; rw [decide_eq_true HM.out]; have HP3 := Lib.hid (hp3 HM.out); have GV2 := Lib.hid (GV.out.trans (hg3.mono GV.out.size)); have GVV := Lib.hid hg3; clear hp3 hg3)
   obtain ⟨l3, hl3, hq3, hn3⟩ := HP3.out
   have TB := Lib.hid (fun W (g : Below V2.heap.size V2 W) x => whereN_any A3 n3 c3 l3 x day known W (hl3.below g) (by omega))
   rw [hq3] at TB
   have TP := persons_any A2 fl.length c2 fl V2 (HCN.out V2 A2 _ (HP.out.2.2.below GVV.out) HFL.out)
   rw [HFM.out, HPS.out] at TP
   have HTP := Lib.hid TP
   clear TP hl3 hq3 hn3 HP3
   go_upto_region 9 with (go_at_call 75; (with_reducible refine (HTP.out).mono ?_); rintro e V3 ⟨⟨v, rfl, ho⟩, hg⟩; obtain ⟨A4, c4, rfl, h41, h42, har4, -⟩ := OwnL.arr kdI ho; have HI4 := Lib.hid har4; have GV3 := Lib.hid (GV2.out.trans (hg.mono GV2.out.size)); have GVW := Lib.hid hg; clear ho hg har4 h41 h42)
   have HO0 := Lib.hid (fun (W : World) => OwnL.nil (f := icells) (size := 1) (e := 3) W V3.heap.size)
   obtain ⟨less, hless⟩ : ∃ x, lssL lq s = x := ⟨_, rfl⟩
   rw [hless] at TB HMS
   clear hless
   obtain ⟨m, hm⟩ : ∃ m, ps.length = m := ⟨_, rfl⟩
   have HPL := Lib.hid hm
   rw [hm] at HI4 HPE ⊢
   have hm300 := HPE.out
   have HNL := Lib.hid (fun k => (show ((ps.take k).filter (movB lq less day known)).length ≤ 300 from by
    have h1 := List.length_filter_le (movB lq less day known) (ps.take k)
    rw [List.length_take] at h1
    omega))
   have HFS := Lib.hid (fun k (hk : k < m) => filt_succ ps (movB lq less day known) (k := k) (by rw [HPL.out]; exact hk))
   have HFE := Lib.hid (show (ps.take m).filter (movB lq less day known) = ms by rw [List.take_of_length_le (by rw [HPL.out]; exact Nat.le_refl _), HMS.out])
   have HF0 := Lib.hid (show (ps.take 0).filter (movB lq less day known) = [] from rfl)
   obtain ⟨nm, hnm⟩ : ∃ f : Nat → List Int, (fun k => (ps.take k).filter (movB lq less day known)) = f := ⟨_, rfl⟩
   have hnk : ∀ k, (ps.take k).filter (movB lq less day known) = nm k := fun k => by rw [← hnm]
   rw [hnk] at HFE HF0
   simp only [hnk] at HNL HFS
   clear hm hnm hnk
   go_loopw [14, 43] (fun v i wr => ∃ k : Nat, k ≤ m ∧ OwnL icells 1 3 wr V3.heap.size v (nm k) ∧ i = .int .i64 k ∧ Below V3.heap.size V3 wr) (fun _ i _ => m - (intOf i).toNat)
   case atStart => exact ⟨0, Nat.zero_le _, by rw [HF0.out]; exact HO0.out _, rfl, Below.refl _ _⟩
   case round =>
    obtain ⟨k, hk, ho, rfl, hg⟩ := hrel
    have HG := Lib.hid hg
    have HOX := Lib.hid ho
    clear ho
    by_cases hkn : k < m
    ·obtain ⟨b, o, rfl, -, -, hc⟩ := ints_at (HI4.out.below hg) hkn
     have hx0 := hc wr (Below.refl _ _)
     obtain ⟨x, hx⟩ : ∃ x, ps.getD k 0 = x := ⟨_, rfl⟩
     rw [hx] at hx0
     have hwr2 : wrap64 ((k : Int) + 1) = (k : Int) + 1 := wrap_in (by omega)
     have HSU := HFS.out k hkn
     rw [hx] at HSU
     have GA := Lib.hid (GV3.out.trans (hg.mono GV3.out.size))
     have GB := Lib.hid (GVW.out.trans (hg.mono GVW.out.size))
     have TAx := TA.out wr GA.out x
     have TBx := fun W g => TB.out W g x
     have HMB := Lib.hid (show movB lq less day known x = (decide (whE lq day known x ≠ whE less day known x) || decide (whA lq day known x ≠ whA less day known x)) from rfl)
     obtain ⟨ex, hex⟩ : ∃ y, whE lq day known x = y := ⟨_, rfl⟩
     obtain ⟨fx, hfx⟩ : ∃ y, whE less day known x = y := ⟨_, rfl⟩
     obtain ⟨wa, has⟩ : ∃ y, whA lq day known x = y := ⟨_, rfl⟩
     obtain ⟨wb, hbs⟩ : ∃ y, whA less day known x = y := ⟨_, rfl⟩
     rw [hex, has] at TAx
     rw [hex, hfx, has, hbs] at HMB
     simp only [hfx, hbs] at TBx
     rw [HMB.out] at HSU
     have HTA := Lib.hid TAx
     have HTB := Lib.hid TBx
     have HS := Lib.hid HSU
     have HNK := Lib.hid (HNL.out k)
     obtain ⟨nk, hnk⟩ : ∃ y, nm k = y := ⟨_, rfl⟩
     rw [hnk] at HS HNK HOX
     clear hex hfx has hbs TAx TBx HSU HMB hx hc hg hnk
     go_upto_region 13 with (first
      | (go_at_call 26; (with_reducible refine (HTA.out).mono ?_); rintro e W5 ⟨A5, n5, c5, rfl, hi5, h51, hg5⟩; have HI5 := Lib.hid hi5; have H51 := Lib.hid h51; have HG5 := Lib.hid hg5; clear hi5 h51 hg5)
      | (go_at_call 26; (with_reducible refine (HTB.out _ (GB.out.trans (HG5.out.mono GB.out.size))).mono ?_); rintro e W6 ⟨A6, n6, c6, rfl, hi6, h61, hg6⟩; have HI6 := Lib.hid hi6; have H61 := Lib.hid h61; have HG6 := Lib.hid hg6; clear hi6 h61 hg6))
     have G56 := Lib.hid (show Below wr.heap.size wr W6 from HG5.out.trans (HG6.out.mono HG5.out.size))
     have HI5b := Lib.hid (HI5.out.below HG6.out)
     by_cases hee : ex = fx
     ·have heb : (ex != fx) = false := by simpa using hee
      have TE := Lib.hid (equal_any A5 A6 n5 c5 n6 c6 wa wb W6 HI5b.out HI6.out H51.out H61.out)
      by_cases hab : wa = wb
      ·rw [decide_eq_true hab] at TE
       have HS3 := Lib.hid (show nm (k + 1) = nk by rw [HS.out, if_neg (by simp [hee, hab]), List.append_nil])
       clear hee hab
       go_wp2_with (first | (go_at_call 76; (with_reducible refine (TE.out).mono ?_); rintro e W7 ⟨rfl, hg7⟩; have HG7 := Lib.hid (G56.out.trans (hg7.mono G56.out.size)); clear hg7))
       go_roundw
       case rel => exact ⟨k + 1, by omega, by rw [HS3.out]; exact HOX.out.ext HG7.out, rfl, HG.out.trans (HG7.out.mono HG.out.size)⟩
       case measure => simp only [intOf]; omega
      ·rw [decide_eq_false hab] at TE
       have HS3 := Lib.hid (show nm (k + 1) = nk ++ [x] by rw [HS.out, if_pos (by simp [hab])])
       clear hee hab
       go_upto_region 14 with (first | (go_at_call 76; (with_reducible refine (TE.out).mono ?_); rintro e W7 ⟨rfl, hg7⟩; have HG7 := Lib.hid (G56.out.trans (hg7.mono G56.out.size)); clear hg7))
       have GX := Lib.hid (one_more W7 (.cells #[.int .i64 x] 3))
       have HI := Lib.hid (one_int (Blk.new W7 3 #[.int .i64 x]))
       have HO7 := Lib.hid ((HOX.out.ext HG7.out).ext GX.out)
       have HGZ := Lib.hid ((HG.out.trans (HG7.out.mono HG.out.size)).trans (GX.out.mono (Nat.le_trans HG.out.size HG7.out.size)))
       have HTL := Lib.hid (show nk.length + 1 ≤ 1000000 by have := HNK.out; omega)
       go_wp2_with (first | (at_builtin; go_loud (refine wpList_app kdI (by rfl) _ _ (by rfl) V3.heap.size _ nk (by rfl) HO7.out _ 1 1 [x] (by rfl) HI.out HTL.out HGZ.out.size ?_); intro v' w' ho hgr hz; have HO8 := Lib.hid ho; have GV8 := Lib.hid (HGZ.out.trans (HO7.out.below hgr (Nat.le_refl _) HGZ.out.size)); clear ho hgr hz))
       go_roundw
       case rel => exact ⟨k + 1, by omega, by rw [HS3.out]; exact HO8.out, rfl, GV8.out⟩
       case measure => simp only [intOf]; omega
     ·have heb : (ex != fx) = true := by simpa using hee
      have HS3 := Lib.hid (show nm (k + 1) = nk ++ [x] by rw [HS.out, if_pos (by simp [hee])])
      clear hee
      go_upto_region 14 with fail
      have GX := Lib.hid (one_more W6 (.cells #[.int .i64 x] 3))
      have HI := Lib.hid (one_int (Blk.new W6 3 #[.int .i64 x]))
      have HO7 := Lib.hid ((HOX.out.ext G56.out).ext GX.out)
      have HGZ := Lib.hid ((HG.out.trans (G56.out.mono HG.out.size)).trans (GX.out.mono (Nat.le_trans HG.out.size G56.out.size)))
      have HTL := Lib.hid (show nk.length + 1 ≤ 1000000 by have := HNK.out; omega)
      go_wp2_with (first | (at_builtin; go_loud (refine wpList_app kdI (by rfl) _ _ (by rfl) V3.heap.size _ nk (by rfl) HO7.out _ 1 1 [x] (by rfl) HI.out HTL.out HGZ.out.size ?_); intro v' w' ho hgr hz; have HO8 := Lib.hid ho; have GV8 := Lib.hid (HGZ.out.trans (HO7.out.below hgr (Nat.le_refl _) HGZ.out.size)); clear ho hgr hz))
      go_roundw
      case rel => exact ⟨k + 1, by omega, by rw [HS3.out]; exact HO8.out, rfl, GV8.out⟩
      case measure => simp only [intOf]; omega
    ·obtain rfl : k = m := by omega
     clear hg
     go_wp2_with fail
     go_ret2
     rw [HME3.out]
     exact listEnd_ok (by rw [← HFE.out]; exact HOX.out) (GV3.out.trans (HG.out.mono GV3.out.size))
  ·have HM := Lib.hid hm
   have HME3 := Lib.hid (show movE lq s day known = 3 by rw [HME2.out, if_neg hm])
   clear HME2 hm
   go_enter Tryz.func17, Tryz.ntmps17
   go_wp2_with (first
    | (go_at_call 73; rw [HW1.out]; (with_reducible refine (HT.out).mono ?_); rintro e V ⟨⟨v, rfl, ho, -⟩, hg⟩; have GV := Lib.hid (G1.out.trans (hg.mono G1.out.size)); obtain ⟨A2, c2, rfl, hp1, hp2, hp3⟩ := own_prf (ho rfl) (fun p hp => (HA.out.p p (HPI.out p hp)).below GV.out); have HP := Lib.hid (And.intro hp1 (And.intro hp2 hp3)); clear ho hp1 hp2 hp3 hg)
    | (go_at_call 74; (with_reducible refine (TW.out _ GV.out).mono ?_); rintro e V2 ⟨⟨A3, n3, c3, rfl, -, hp3⟩, hg3⟩; rw [decide_eq_false HM.out]; have GV2 := Lib.hid (GV.out.trans (hg3.mono GV.out.size)); clear hp3 hg3))
   go_ret2
   rw [HME3.out]
   exact listEnd_no (by decide) GV2.out
 ·have hzb : (le != 0) = true := by simpa using hz
  have HZ := Lib.hid hz
  have HE := Lib.hid (HLE.out le rfl hz)
  clear hz HLE HME HOK
  go_enter Tryz.func17, Tryz.ntmps17
  go_wp2_with (go_at_call 73; rw [HW1.out]; (with_reducible refine (HT.out).mono ?_); rintro e V ⟨⟨v, rfl, -, ho⟩, hg⟩; obtain rfl := ho HZ.out; have GV := Lib.hid (G1.out.trans (hg.mono G1.out.size)); clear ho hg)
  go_ret2
  rw [HE.out]
  exact listEnd_no HZ.out GV.out
end Go.Proofs.YtehhlgdkhecacaaGreat

namespace Go.Proofs.YtehhlgdkhecacaaGreat
open Go.RowKit Go.Shelf
def exL : List Qf := [⟨1, 1, [5, 6], 0, 0, 10, 0, 0, 0⟩, ⟨2, 1, [6], 0, 1, 30, 0, 0, 0⟩, ⟨3, 3, [5], 0, 2, 100, 464, 0, 0⟩, ⟨4, 2, [7], 5, 0, 500, 0, 0, 0⟩, ⟨5, 7, [5, 7], 0, 3, 600, 0, 610, 700⟩, ⟨6, 8, [5, 6], 0, 4, 200, 0, 650, 0⟩]
def exM : List Qf := exL ++ [⟨7, 1, [5], 0, 5, 1, 0, 0, 0⟩]
theorem ex1 : lookE exL [610] = 0 ∧ (reads (cntL exL 610)).length = 2 := by decide +kernel
theorem ex2 : lookE exL [0] = 0 ∧ (reads (cntL exL 0)).getD 0 [] = [5, 6, 5, 7] ∧ (0 : Nat) < (reads (cntL exL 0)).length := by decide +kernel
theorem ex3 : byRdE exL 5 0 [0] [5, 6, 5, 7] = 0 ∧ titlesS (cntL exL 0) [5, 6, 5, 7] 5 = [⟨10, 0, 1⟩, ⟨465, 2, 3⟩] := by decide +kernel
theorem ex4 : readE exL 7 0 [600, 610] 610 = 0 ∧ wherS (cntL exL 610) 7 600 = [2, 3] := by decide +kernel
theorem ex5 : readE exL 7 2 [600, 700] 700 = 0 ∧ righN (wherS (cntL exL 700) 7 600) 2 = 1 := by decide +kernel
theorem ex6 : shE exL 7 3 600 610 true = 0 ∧ shL (cntL exL 610) 7 3 600 true = [5, 6, 5, 7, 7] := by decide +kernel
theorem ex7 : readE exL 1 2 [500, 0] 0 = 0 ∧ belS (cntL exL 0) 2 500 = [5, 7] := by decide +kernel
theorem ex8 : readE exL 7 2 [500, 0] 0 = 0 ∧ rstS (cntL exL 0) 7 2 500 = [3, 4] := by decide +kernel
theorem ex9 : movE exL 3 500 0 = 0 ∧ movS exL 3 500 0 = [5, 7] := by decide +kernel
theorem ex10 : clE exM 0 = 0 ∧ clashL (cntL exM 0) = [1, 2, 7] := by decide +kernel
/-- The examples in memory. -/
def exP (s : Nat) : List Pf := [⟨exL.getD 0 q0, some ⟨s, 0, none⟩, 2, 2⟩, ⟨exL.getD 1 q0, some ⟨s + 1, 0, none⟩, 1, 1⟩, ⟨exL.getD 2 q0, some ⟨s + 1 + 1, 0, none⟩, 1, 1⟩, ⟨exL.getD 3 q0, some ⟨s + 1 + 1 + 1, 0, none⟩, 1, 1⟩, ⟨exL.getD 4 q0, some ⟨s + 1 + 1 + 1 + 1, 0, none⟩, 2, 2⟩, ⟨exL.getD 5 q0, some ⟨s + 1 + 1 + 1 + 1 + 1, 0, none⟩, 2, 2⟩]
theorem exP_q (s : Nat) : (exP s).map Pf.q = exL := rfl
theorem size_al (w : World) (o : Obj) : (w.alloc o).heap.size = w.heap.size + 1 := World.size_alloc w o
theorem blk_next {w : World} {o : Obj} {s : Nat} (h : w.heap.size = s) {t : TypeId} {cs : Array Value} : Blk ((w.alloc o).alloc (.cells cs t)) (s + 1) t cs := by
 have := Blk.new (w.alloc o) t cs
 rwa [size_al, h] at this
theorem ex_own (w W1 W2 W3 W4 W5 W6 W7 : World) (h1 : W1 = w.alloc (.cells #[.int .i64 5, .int .i64 6] 3)) (h2 : W2 = W1.alloc (.cells #[.int .i64 6] 3)) (h3 : W3 = W2.alloc (.cells #[.int .i64 5] 3)) (h4 : W4 = W3.alloc (.cells #[.int .i64 7] 3)) (h5 : W5 = W4.alloc (.cells #[.int .i64 5, .int .i64 7] 3)) (h6 : W6 = W5.alloc (.cells #[.int .i64 5, .int .i64 6] 3)) (h7 : W7 = W6.alloc (.cells ((exP w.heap.size).flatMap pcells).toArray 56)) :
  OwnP W7 w.heap.size (w.heap.size + 1 + 1 + 1 + 1 + 1 + 1) 6 6 (exP w.heap.size) ∧ Below w.heap.size w W7 := by
 have s0 : w.heap.size = w.heap.size := rfl
 have s1 : W1.heap.size = w.heap.size + 1 := by rw [h1, size_al, s0]
 have s2 : W2.heap.size = w.heap.size + 1 + 1 := by rw [h2, size_al, s1]
 have s3 : W3.heap.size = w.heap.size + 1 + 1 + 1 := by rw [h3, size_al, s2]
 have s4 : W4.heap.size = w.heap.size + 1 + 1 + 1 + 1 := by rw [h4, size_al, s3]
 have s5 : W5.heap.size = w.heap.size + 1 + 1 + 1 + 1 + 1 := by rw [h5, size_al, s4]
 have s6 : W6.heap.size = w.heap.size + 1 + 1 + 1 + 1 + 1 + 1 := by rw [h6, size_al, s5]
 have b0 : Blk W1 (w.heap.size) 3 #[.int .i64 5, .int .i64 6] := by
  have := Blk.new w 3 #[.int .i64 5, .int .i64 6]
  rwa [s0, ← h1] at this
 have b1 : Blk W2 (w.heap.size + 1) 3 #[.int .i64 6] := by
  have := Blk.new W1 3 #[.int .i64 6]
  rwa [s1, ← h2] at this
 have b2 : Blk W3 (w.heap.size + 1 + 1) 3 #[.int .i64 5] := by
  have := Blk.new W2 3 #[.int .i64 5]
  rwa [s2, ← h3] at this
 have b3 : Blk W4 (w.heap.size + 1 + 1 + 1) 3 #[.int .i64 7] := by
  have := Blk.new W3 3 #[.int .i64 7]
  rwa [s3, ← h4] at this
 have b4 : Blk W5 (w.heap.size + 1 + 1 + 1 + 1) 3 #[.int .i64 5, .int .i64 7] := by
  have := Blk.new W4 3 #[.int .i64 5, .int .i64 7]
  rwa [s4, ← h5] at this
 have b5 : Blk W6 (w.heap.size + 1 + 1 + 1 + 1 + 1) 3 #[.int .i64 5, .int .i64 6] := by
  have := Blk.new W5 3 #[.int .i64 5, .int .i64 6]
  rwa [s5, ← h6] at this
 have g1 : Below w.heap.size w W1 := by rw [h1]; exact one_more _ _
 have g2 : Below W1.heap.size W1 W2 := by rw [h2]; exact one_more _ _
 have g3 : Below W2.heap.size W2 W3 := by rw [h3]; exact one_more _ _
 have g4 : Below W3.heap.size W3 W4 := by rw [h4]; exact one_more _ _
 have g5 : Below W4.heap.size W4 W5 := by rw [h5]; exact one_more _ _
 have g6 : Below W5.heap.size W5 W6 := by rw [h6]; exact one_more _ _
 have g7 : Below W6.heap.size W6 W7 := by rw [h7]; exact one_more _ _
 have b6 : Blk W7 (w.heap.size + 1 + 1 + 1 + 1 + 1 + 1) 56 ((exP w.heap.size).flatMap pcells).toArray := by
  have := Blk.new W6 56 ((exP w.heap.size).flatMap pcells).toArray
  rwa [s6, ← h7] at this
 have c0 := ((((((b0.ext g2).ext g3).ext g4).ext g5).ext g6).ext g7)
 have c1 := (((((b1.ext g3).ext g4).ext g5).ext g6).ext g7)
 have c2 := ((((b2.ext g4).ext g5).ext g6).ext g7)
 have c3 := (((b3.ext g5).ext g6).ext g7)
 have c4 := ((b4.ext g6).ext g7)
 have c5 := (b5.ext g7)
 refine ⟨⟨own_mk pcells_len rfl (by omega) b6 (by decide) (by unfold maxLen; decide) rfl rfl, fun p hp => ?_⟩, ?_⟩
 ·have hp : p ∈ exP w.heap.size := hp
  unfold exP at hp
  simp only [List.mem_cons, List.not_mem_nil, or_false] at hp
  rcases hp with rfl | rfl | rfl | rfl | rfl | rfl
  ·exact ⟨⟨two_ints c0, ⟨Nat.le_refl _, (by show 2 ≤ 9223372036854775807; omega)⟩⟩, fun a e => by cases e; show w.heap.size ≠ w.heap.size + 1 + 1 + 1 + 1 + 1 + 1; omega⟩
  ·exact ⟨⟨one_int c1, ⟨Nat.le_refl _, (by show 1 ≤ 9223372036854775807; omega)⟩⟩, fun a e => by cases e; show w.heap.size + 1 ≠ w.heap.size + 1 + 1 + 1 + 1 + 1 + 1; omega⟩
  ·exact ⟨⟨one_int c2, ⟨Nat.le_refl _, (by show 1 ≤ 9223372036854775807; omega)⟩⟩, fun a e => by cases e; show w.heap.size + 1 + 1 ≠ w.heap.size + 1 + 1 + 1 + 1 + 1 + 1; omega⟩
  ·exact ⟨⟨one_int c3, ⟨Nat.le_refl _, (by show 1 ≤ 9223372036854775807; omega)⟩⟩, fun a e => by cases e; show w.heap.size + 1 + 1 + 1 ≠ w.heap.size + 1 + 1 + 1 + 1 + 1 + 1; omega⟩
  ·exact ⟨⟨two_ints c4, ⟨Nat.le_refl _, (by show 2 ≤ 9223372036854775807; omega)⟩⟩, fun a e => by cases e; show w.heap.size + 1 + 1 + 1 + 1 ≠ w.heap.size + 1 + 1 + 1 + 1 + 1 + 1; omega⟩
  ·exact ⟨⟨two_ints c5, ⟨Nat.le_refl _, (by show 2 ≤ 9223372036854775807; omega)⟩⟩, fun a e => by cases e; show w.heap.size + 1 + 1 + 1 + 1 + 1 ≠ w.heap.size + 1 + 1 + 1 + 1 + 1 + 1; omega⟩
 ·exact ((((((g1).trans (g2.mono (by omega))).trans (g3.mono (by omega))).trans (g4.mono (by omega))).trans (g5.mono (by omega))).trans (g6.mono (by omega))).trans (g7.mono (by omega))
set_option maxRecDepth 100000 in
set_option maxHeartbeats 4000000 in
theorem proofs_any (w : World) : Calls Tryz.prog 82 #[] w fun e w' => (∃ g l, e = .returned (.slice (some ⟨g, 0, none⟩) 6 6) ∧ OwnP w' w.heap.size g 6 6 l ∧ l.map Pf.q = exL) ∧ Below w.heap.size w w' := by
 go_enter Tryz.func82, Tryz.ntmps82
 go_wp2_with fail
 go_ret
 obtain ⟨h1, h2⟩ := ex_own w _ _ _ _ _ _ _ rfl rfl rfl rfl rfl rfl rfl
 exact ⟨⟨_, _, rfl, h1, exP_q _⟩, h2⟩
end Go.Proofs.YtehhlgdkhecacaaGreat

namespace Go.Proofs.YtehhlgdkhecacaaGreat
open Go.RowKit Go.Shelf
/-- A list without an error. -/
def ListIs (L : List Int) (w : World) (e : Ending) (w' : World) : Prop := ∃ D m d, e = .returned (.tuple #[.slice D m d, .int .i64 0]) ∧ Ints w' D m L ∧ m ≤ 9223372036854775807 ∧ Below w.heap.size w w'
theorem ListEnd.is {l : List Int} {E : Int} {w : World} {e : Ending} {w' : World} (h : ListEnd l E w e w') (hE : E = 0) {L : List Int} (hL : l = L) : ListIs L w e w' := by
 subst hE hL
 obtain ⟨D, m, d, rfl, hi, h1, h2, hg⟩ := h
 unfold maxLen at h2
 exact ⟨D, m, d, rfl, hi, by omega, hg⟩
theorem RdEnd.is {l : List Qf} {known k : Int} {w : World} {e : Ending} {w' : World} (h : RdEnd l known k w e w') (hE : rdE l known k = 0) {L : List Int} (hL : rdV l known k = L) : ListIs L w e w' := by
 obtain ⟨⟨D, m, d, rfl, h1, h2, hi⟩, hg⟩ := h
 rw [hE]
 rw [hL] at hi
 unfold maxLen at h2
 exact ⟨D, m, d, rfl, hi, by omega, hg⟩
theorem same_is {L : List Int} {D : Option Addr} {m d : Nat} {V : World} (hi : Ints V D m L) (hm : m ≤ 9223372036854775807) : ∀ (W : World) (_ : Below V.heap.size V W) (B : Option Addr) (n c : Nat) (_ : Ints W B n L) (_ : n ≤ 9223372036854775807),
  Calls Tryz.prog 19 #[.slice D m d, .slice B n c] W fun e w' => e = .returned (.bool true) ∧ Below W.heap.size W w' := fun W g B n c hb hn => by
 have := sameInts_any D B m d n c L L W (hi.below g) hb hm hn
 rwa [decide_eq_true rfl] at this
theorem tits_is {L : List Tt} {D : Option Addr} {m d : Nat} {V : World} (hi : Arr tcells 3 V D m L) (hm : m ≤ 9223372036854775807) : ∀ (W : World) (_ : Below V.heap.size V W) (B : Option Addr) (n c : Nat) (_ : Arr tcells 3 W B n L) (_ : n ≤ 9223372036854775807),
  Calls Tryz.prog 25 #[.slice D m d, .slice B n c] W fun e w' => e = .returned (.bool true) ∧ Below W.heap.size W w' := fun W g B n c hb hn => by
 have := sameTits_any D B m d n c L L W (hi.below g) hb hm hn
 rwa [decide_eq_true rfl] at this
theorem two_tits {w : World} {b : Nat} {x y : Tt} (h : Blk w b 67 #[.int .i64 x.day, .int .i64 x.par, .int .i64 x.src, .int .i64 y.day, .int .i64 y.par, .int .i64 y.src]) : Arr tcells 3 w (some ⟨b, 0, none⟩) 2 [x, y] := by
 refine ⟨rfl, fun _ => ⟨b, 0, rfl, h.lt, fun k z hz j u hu => ?_⟩⟩
 rcases k with _ | _ | k
 ·cases hz
  rcases j with _ | _ | _ | j
  ·cases hu; exact h.cell 0
  ·cases hu; exact h.cell 1
  ·cases hu; exact h.cell 2
  ·simp [tcells] at hu
 ·cases hz
  rcases j with _ | _ | _ | j
  ·cases hu; exact h.cell 3
  ·cases hu; exact h.cell 4
  ·cases hu; exact h.cell 5
  ·simp [tcells] at hu
 ·simp at hz
theorem rd_ex : rdE exL 0 0 = 0 ∧ rdV exL 0 0 = [5, 6, 5, 7] := by
 have h : rdE exL 0 0 = 0 := by
  unfold rdE
  rw [ex2.1, if_pos rfl, if_pos ⟨by omega, by have := ex2.2.2; omega⟩]
 refine ⟨h, ?_⟩
 unfold rdV
 rw [h, if_pos rfl]
 exact ex2.2.1
/-- The persons of the examples and of one more. -/
theorem ex_per {V V2 W : World} {base g n c s : Nat} {l : List Pf} {q : Qf} (h : OwnP V base g n c l) (G2 : Below V.heap.size V V2) (b : Blk V2 s 3 #[.int .i64 5]) (f : Fix g g V2 W) (hs : s = V.heap.size) (hq : q.per = [5]) :
  ∀ p ∈ l ++ [(⟨q, some ⟨s, 0, none⟩, 1, 1⟩ : Pf)], PI W p := by
 intro p hp
 rw [List.mem_append, List.mem_singleton] at hp
 rcases hp with hp | rfl
 ·obtain ⟨h1, h2⟩ := h.per p hp
  exact ⟨ints_fix (h1.i.below G2) h2 f, h1.m⟩
 ·obtain ⟨-, -, cur, hg, -⟩ := own_inv h.own
  have hlt := hg.lt
  refine ⟨ints_fix (by rw [hq]; exact one_int b) (fun a e => by cases e; show s ≠ g; omega) f, ⟨Nat.le_refl _, by show 1 ≤ 9223372036854775807; omega⟩⟩
set_option maxRecDepth 100000 in
theorem clash_ex {W : World} {A : Option Addr} {c : Nat} {l : List Pf} {a : Addr} (h : Prf W A (l ++ [(⟨⟨7, 1, [5], 0, 5, 1, 0, 0, 0⟩, some a, 1, 1⟩ : Pf)]).length (l ++ [⟨⟨7, 1, [5], 0, 5, 1, 0, 0, 0⟩, some a, 1, 1⟩])) (hq : l.map Pf.q = exL) :
  Calls Tryz.prog 51 #[.slice A (l.length + 1) c, .int .i64 0] W (ListIs [1, 2, 7] W) := by
 have hm : (l ++ [(⟨⟨7, 1, [5], 0, 5, 1, 0, 0, 0⟩, some a, 1, 1⟩ : Pf)]).map Pf.q = exM := by rw [List.map_append, hq]; rfl
 have hl : l.length = 6 := by have := congrArg List.length hq; rw [List.length_map] at this; exact this
 have t := clash_any A _ c _ 0 W h (by rw [List.length_append, hl, List.length_singleton]; decide)
 rw [hm, List.length_append, List.length_singleton] at t
 exact t.mono fun e w' h => h.is ex10.1 ex10.2
set_option maxRecDepth 100000 in
set_option maxHeartbeats 16000000 in
theorem sane_any (w : World) : Calls Tryz.prog 20 #[] w fun e w' => e = .returned (.bool true) ∧ Below w.heap.size w w' := by
 have HEX := Lib.hid ex1
 go_enter Tryz.func20, Tryz.ntmps20
 go_upto_region 2 with (go_at_call 82; (with_reducible refine (proofs_any w).mono ?_); rintro e V1 ⟨⟨g, l, rfl, ho, hq⟩, hg⟩; have HP := Lib.hid ho.prf; have HQ := Lib.hid hq; have HG0 := Lib.hid hg; clear ho hq hg)
 have GC1 := Lib.hid (Below.refl V1.heap.size V1)
 have T2 := Lib.hid (show Calls Tryz.prog 41 #[.slice (some ⟨g, 0, none⟩) 6 6, .int .i64 610] V1 (fun e w' => e = .returned (.tuple #[.int .i64 2, .int .i64 0]) ∧ Below V1.heap.size V1 w') from by
  have t := readingsF_any (some ⟨g, 0, none⟩) 6 6 l 610 V1 (HP.out.below GC1.out) (by decide)
  rw [HQ.out, show rdsN exL 610 = 2 by unfold rdsN; rw [HEX.out.1, if_pos rfl, HEX.out.2]; rfl, HEX.out.1] at t
  exact t)
 go_upto_region 3 with (go_at_call 41; (with_reducible refine (T2.out).mono ?_); rintro e V2 ⟨rfl, hg⟩; have GS2 := Lib.hid hg; clear hg)
 have GC2 := Lib.hid (GC1.out.trans (GS2.out.mono GC1.out.size))
 have T3 := Lib.hid (show Calls Tryz.prog 44 #[.slice (some ⟨g, 0, none⟩) 6 6, .int .i64 0, .int .i64 0] V2 (ListIs [5, 6, 5, 7] V2) from by
  have t := readingF_any (some ⟨g, 0, none⟩) 6 6 l 0 0 V2 (HP.out.below GC2.out) (by decide)
  rw [HQ.out] at t
  exact t.mono fun e w' h => h.is rd_ex.1 rd_ex.2)
 go_upto_region 4 with (go_at_call 44; (with_reducible refine (T3.out).mono ?_); rintro e V3 ⟨D3, m3, d3, rfl, hi, hm, hg⟩; have HI3 := Lib.hid hi; have HM3 := Lib.hid hm; have GS3 := Lib.hid hg; clear hi hm hg)
 have GC3 := Lib.hid (GC2.out.trans (GS3.out.mono GC2.out.size))
 have XI4 := Lib.hid (Blk.intsN (l := [5, 6, 5, 7]) (n := 4) (Blk.new V3 3 #[.int .i64 5, .int .i64 6, .int .i64 5, .int .i64 7]) rfl)
 have XG4 := Lib.hid (one_more V3 (.cells #[.int .i64 5, .int .i64 6, .int .i64 5, .int .i64 7] 3))
 have T4 := Lib.hid (show Calls Tryz.prog 21 #[.slice (some ⟨g, 0, none⟩) 6 6, .slice (some ⟨V3.heap.size, 0, none⟩) 4 4, .int .i64 5, .int .i64 0] (V3.alloc (.cells #[.int .i64 5, .int .i64 6, .int .i64 5, .int .i64 7] 3)) (fun e w' => (∃ D m d, e = .returned (.tuple #[.slice D m d, .int .i64 0]) ∧ Arr tcells 3 w' D m [⟨10, 0, 1⟩, ⟨465, 2, 3⟩] ∧ m ≤ 9223372036854775807 ∧ Below V3.heap.size V3 w')) from by
  have t := titlesF_any (some ⟨g, 0, none⟩) 6 6 l (some ⟨V3.heap.size, 0, none⟩) 4 4 [5, 6, 5, 7] 5 0 _ ((HP.out.below GC3.out).below XG4.out) (by decide) XI4.out (by decide) (by decide)
  rw [HQ.out] at t
  refine t.mono ?_
  rintro e w' ⟨D, m, d, rfl, hi, hg⟩
  rw [ex3.1, if_pos rfl, ex3.2] at hi
  refine ⟨D, m, d, by rw [ex3.1], hi, by have := hi.1; simp at this; omega, XG4.out.trans (hg.mono XG4.out.size)⟩)
 go_upto_region 5 with (go_at_call 21; (with_reducible refine (T4.out).mono ?_); rintro e V4 ⟨D4, m4, d4, rfl, hi, hm, hg⟩; have HI4 := Lib.hid hi; have HM4 := Lib.hid hm; have GS4 := Lib.hid hg; clear hi hm hg)
 have HI3 := Lib.hid (HI3.out.below GS4.out)
 have GC4 := Lib.hid (GC3.out.trans (GS4.out.mono GC3.out.size))
 have T5 := Lib.hid (show Calls Tryz.prog 26 #[.slice (some ⟨g, 0, none⟩) 6 6, .int .i64 7, .int .i64 600, .int .i64 610] V4 (ListIs [2, 3] V4) from by
  have t := whereF_any (some ⟨g, 0, none⟩) 6 6 l 7 600 610 V4 (HP.out.below GC4.out) (by decide)
  rw [HQ.out] at t
  exact t.mono fun e w' h => h.is ex4.1 ex4.2)
 go_upto_region 6 with (go_at_call 26; (with_reducible refine (T5.out).mono ?_); rintro e V5 ⟨D5, m5, d5, rfl, hi, hm, hg⟩; have HI5 := Lib.hid hi; have HM5 := Lib.hid hm; have GS5 := Lib.hid hg; clear hi hm hg)
 have HI3 := Lib.hid (HI3.out.below GS5.out)
 have HI4 := Lib.hid (HI4.out.below GS5.out)
 have GC5 := Lib.hid (GC4.out.trans (GS5.out.mono GC4.out.size))
 have T6 := Lib.hid (show Calls Tryz.prog 28 #[.slice (some ⟨g, 0, none⟩) 6 6, .int .i64 7, .int .i64 2, .int .i64 600, .int .i64 700] V5 (fun e w' => e = .returned (.tuple #[.int .i64 1, .int .i64 0]) ∧ Below V5.heap.size V5 w') from by
  have t := rightF_any (some ⟨g, 0, none⟩) 6 6 l 7 2 600 700 V5 (HP.out.below GC5.out) (by decide)
  rw [HQ.out] at t
  unfold NumEnd at t
  rw [ex5.1, ex5.2, if_pos rfl] at t
  exact t)
 go_upto_region 7 with (go_at_call 28; (with_reducible refine (T6.out).mono ?_); rintro e V6 ⟨rfl, hg⟩; have GS6 := Lib.hid hg; clear hg)
 have HI3 := Lib.hid (HI3.out.below GS6.out)
 have HI4 := Lib.hid (HI4.out.below GS6.out)
 have HI5 := Lib.hid (HI5.out.below GS6.out)
 have GC6 := Lib.hid (GC5.out.trans (GS6.out.mono GC5.out.size))
 have T7 := Lib.hid (show Calls Tryz.prog 30 #[.slice (some ⟨g, 0, none⟩) 6 6, .int .i64 7, .int .i64 3, .int .i64 600, .int .i64 610, .bool true] V6 (ListIs [5, 6, 5, 7, 7] V6) from by
  have t := show_any (some ⟨g, 0, none⟩) 6 6 l 7 3 600 610 true V6 (HP.out.below GC6.out) (by decide)
  rw [HQ.out] at t
  exact t.mono fun e w' h => h.is ex6.1 ex6.2)
 go_upto_region 8 with (go_at_call 30; (with_reducible refine (T7.out).mono ?_); rintro e V7 ⟨D7, m7, d7, rfl, hi, hm, hg⟩; have HI7 := Lib.hid hi; have HM7 := Lib.hid hm; have GS7 := Lib.hid hg; clear hi hm hg)
 have HI3 := Lib.hid (HI3.out.below GS7.out)
 have HI4 := Lib.hid (HI4.out.below GS7.out)
 have HI5 := Lib.hid (HI5.out.below GS7.out)
 have GC7 := Lib.hid (GC6.out.trans (GS7.out.mono GC6.out.size))
 have T8 := Lib.hid (show Calls Tryz.prog 34 #[.slice (some ⟨g, 0, none⟩) 6 6, .int .i64 2, .int .i64 500, .int .i64 0] V7 (ListIs [5, 7] V7) from by
  have t := belong_any (some ⟨g, 0, none⟩) 6 6 l 2 500 0 V7 (HP.out.below GC7.out) (by decide)
  rw [HQ.out] at t
  exact t.mono fun e w' h => h.is ex7.1 ex7.2)
 go_upto_region 9 with (go_at_call 34; (with_reducible refine (T8.out).mono ?_); rintro e V8 ⟨D8, m8, d8, rfl, hi, hm, hg⟩; have HI8 := Lib.hid hi; have HM8 := Lib.hid hm; have GS8 := Lib.hid hg; clear hi hm hg)
 have HI3 := Lib.hid (HI3.out.below GS8.out)
 have HI4 := Lib.hid (HI4.out.below GS8.out)
 have HI5 := Lib.hid (HI5.out.below GS8.out)
 have HI7 := Lib.hid (HI7.out.below GS8.out)
 have GC8 := Lib.hid (GC7.out.trans (GS8.out.mono GC7.out.size))
 have T9 := Lib.hid (show Calls Tryz.prog 15 #[.slice (some ⟨g, 0, none⟩) 6 6, .int .i64 7, .int .i64 2, .int .i64 500, .int .i64 0] V8 (ListIs [3, 4] V8) from by
  have t := rests_any (some ⟨g, 0, none⟩) 6 6 l 7 2 500 0 V8 (HP.out.below GC8.out) (by decide)
  rw [HQ.out] at t
  exact t.mono fun e w' h => h.is ex8.1 ex8.2)
 go_upto_region 10 with (go_at_call 15; (with_reducible refine (T9.out).mono ?_); rintro e V9 ⟨D9, m9, d9, rfl, hi, hm, hg⟩; have HI9 := Lib.hid hi; have HM9 := Lib.hid hm; have GS9 := Lib.hid hg; clear hi hm hg)
 have HI3 := Lib.hid (HI3.out.below GS9.out)
 have HI4 := Lib.hid (HI4.out.below GS9.out)
 have HI5 := Lib.hid (HI5.out.below GS9.out)
 have HI7 := Lib.hid (HI7.out.below GS9.out)
 have HI8 := Lib.hid (HI8.out.below GS9.out)
 have GC9 := Lib.hid (GC8.out.trans (GS9.out.mono GC8.out.size))
 have T10 := Lib.hid (show Calls Tryz.prog 17 #[.slice (some ⟨g, 0, none⟩) 6 6, .int .i64 3, .int .i64 500, .int .i64 0] V9 (ListIs [5, 7] V9) from by
  have t := moved_any (some ⟨g, 0, none⟩) 6 6 l 3 500 0 V9 (HP.out.below GC9.out) (by decide)
  rw [HQ.out] at t
  exact t.mono fun e w' h => h.is ex9.1 ex9.2)
 go_upto_region 11 with (go_at_call 17; (with_reducible refine (T10.out).mono ?_); rintro e V10 ⟨D10, m10, d10, rfl, hi, hm, hg⟩; have HI10 := Lib.hid hi; have HM10 := Lib.hid hm; have GS10 := Lib.hid hg; clear hi hm hg)
 have HI3 := Lib.hid (HI3.out.below GS10.out)
 have HI4 := Lib.hid (HI4.out.below GS10.out)
 have HI5 := Lib.hid (HI5.out.below GS10.out)
 have HI7 := Lib.hid (HI7.out.below GS10.out)
 have HI8 := Lib.hid (HI8.out.below GS10.out)
 have HI9 := Lib.hid (HI9.out.below GS10.out)
 have GC10 := Lib.hid (GC9.out.trans (GS10.out.mono GC9.out.size))
 go_upto_region 12 with (first
  | (go_at_call 82; (with_reducible refine (proofs_any _).mono ?_); rintro e VP ⟨⟨g2, l2, rfl, ho, hq⟩, hg⟩; have HO2 := Lib.hid ho; have HQ2 := Lib.hid hq; have GP := Lib.hid hg; have G1 := Lib.hid (one_more VP (.cells #[.int .i64 5] 3)); have G2 := Lib.hid (two_more VP (.cells #[.int .i64 5] 3) (.cells #[.int .i64 7, .int .i64 1, .slice (some ⟨VP.heap.size, 0, none⟩) 1 1, .int .i64 0, .int .i64 5, .int .i64 1, .int .i64 0, .int .i64 0, .int .i64 0] 56)); have B1 := Lib.hid ((Blk.new VP 3 #[.int .i64 5]).alloc (.cells #[.int .i64 7, .int .i64 1, .slice (some ⟨VP.heap.size, 0, none⟩) 1 1, .int .i64 0, .int .i64 5, .int .i64 1, .int .i64 0, .int .i64 0, .int .i64 0] 56)); have B2 := Lib.hid (one_pf (x := ⟨⟨7, 1, [5], 0, 5, 1, 0, 0, 0⟩, some ⟨VP.heap.size, 0, none⟩, 1, 1⟩) (blk_next (w := VP) (o := (.cells #[.int .i64 5] 3)) rfl (cs := #[.int .i64 7, .int .i64 1, .slice (some ⟨VP.heap.size, 0, none⟩) 1 1, .int .i64 0, .int .i64 5, .int .i64 1, .int .i64 0, .int .i64 0, .int .i64 0]))); have HOX := Lib.hid (ho.own.ext G2.out); have HS := Lib.hid (Nat.le_trans hg.size G2.out.size); have HLL := Lib.hid ho.prf.len; clear ho hq hg)
  | (at_builtin; go_loud ((refine wpList_app kdQ (by rfl) _ _ (by rfl) V10.heap.size _ l2 (by rfl) HOX.out _ 1 1 [⟨⟨7, 1, [5], 0, 5, 1, 0, 0, 0⟩, some ⟨VP.heap.size, 0, none⟩, 1, 1⟩] (by rfl) B2.out (by rw [HLL.out]; decide) HS.out ?_; intro v' w' ho hgr hz; have GQ := Lib.hid (GP.out.trans ((G2.out.mono GP.out.size).trans (HOX.out.below hgr (Nat.le_refl _) HS.out))); have HF := Lib.hid (fix_turn hgr); have HPR := ex_per (q := ⟨7, 1, [5], 0, 5, 1, 0, 0, 0⟩) HO2.out G2.out B1.out HF.out rfl rfl; obtain ⟨A9, c9, rfl, hc1, hc2, hp9⟩ := own_prf ho HPR; clear HPR; have HP9 := Lib.hid hp9; have T51 := Lib.hid (clash_ex (c := c9) hp9 HQ2.out); clear ho hgr hz hc1 hc2 hp9)))
  | (go_at_call 51; (with_reducible refine (T51.out).mono ?_); rintro e VC ⟨DC, mC, dC, rfl, hi, hm, hg⟩; have HIC := Lib.hid hi; have HMC := Lib.hid hm; have GSC := Lib.hid (GQ.out.trans (hg.mono GQ.out.size)); clear hi hm hg))
 have HI3 := Lib.hid (HI3.out.below GSC.out)
 have HI4 := Lib.hid (HI4.out.below GSC.out)
 have HI5 := Lib.hid (HI5.out.below GSC.out)
 have HI7 := Lib.hid (HI7.out.below GSC.out)
 have HI8 := Lib.hid (HI8.out.below GSC.out)
 have HI9 := Lib.hid (HI9.out.below GSC.out)
 have HI10 := Lib.hid (HI10.out.below GSC.out)
 have GCC := Lib.hid (GC10.out.trans (GSC.out.mono GC10.out.size))
 go_upto_region 13 with fail
 have GX0 := Lib.hid (Below.refl VC.heap.size VC)
 have I0 := Lib.hid (Blk.intsN (l := [5, 6, 5, 7]) (n := 4) (Blk.new VC 3 #[.int .i64 5, .int .i64 6, .int .i64 5, .int .i64 7]) rfl)
 have GA0 := Lib.hid (GX0.out.trans ((one_more VC (.cells #[.int .i64 5, .int .i64 6, .int .i64 5, .int .i64 7] 3)).mono GX0.out.size))
 have S0 := Lib.hid (same_is (D := D3) (m := m3) (d := d3) HI3.out HM3.out _ GA0.out _ 4 4 I0.out (by decide))
 go_wp2_with fail
 refine (S0.out).mono ?_
 rintro e X1 ⟨rfl, hg⟩
 have GX1 := Lib.hid (GA0.out.trans (hg.mono GA0.out.size))
 clear hg
 have I1 := Lib.hid (two_tits (x := ⟨10, 0, 1⟩) (y := ⟨465, 2, 3⟩) (Blk.new X1 67 #[.int .i64 10, .int .i64 0, .int .i64 1, .int .i64 465, .int .i64 2, .int .i64 3]))
 have GA1 := Lib.hid (GX1.out.trans ((one_more X1 (.cells #[.int .i64 10, .int .i64 0, .int .i64 1, .int .i64 465, .int .i64 2, .int .i64 3] 67)).mono GX1.out.size))
 have S1 := Lib.hid (tits_is (D := D4) (m := m4) (d := d4) HI4.out HM4.out _ GA1.out _ 2 2 I1.out (by decide))
 go_wp2_with fail
 refine (S1.out).mono ?_
 rintro e X2 ⟨rfl, hg⟩
 have GX2 := Lib.hid (GA1.out.trans (hg.mono GA1.out.size))
 clear hg
 have I2 := Lib.hid (Blk.intsN (l := [2, 3]) (n := 2) (Blk.new X2 3 #[.int .i64 2, .int .i64 3]) rfl)
 have GA2 := Lib.hid (GX2.out.trans ((one_more X2 (.cells #[.int .i64 2, .int .i64 3] 3)).mono GX2.out.size))
 have S2 := Lib.hid (same_is (D := D5) (m := m5) (d := d5) HI5.out HM5.out _ GA2.out _ 2 2 I2.out (by decide))
 go_wp2_with fail
 refine (S2.out).mono ?_
 rintro e X3 ⟨rfl, hg⟩
 have GX3 := Lib.hid (GA2.out.trans (hg.mono GA2.out.size))
 clear hg
 have I3 := Lib.hid (Blk.intsN (l := [5, 6, 5, 7, 7]) (n := 5) (Blk.new X3 3 #[.int .i64 5, .int .i64 6, .int .i64 5, .int .i64 7, .int .i64 7]) rfl)
 have GA3 := Lib.hid (GX3.out.trans ((one_more X3 (.cells #[.int .i64 5, .int .i64 6, .int .i64 5, .int .i64 7, .int .i64 7] 3)).mono GX3.out.size))
 have S3 := Lib.hid (same_is (D := D7) (m := m7) (d := d7) HI7.out HM7.out _ GA3.out _ 5 5 I3.out (by decide))
 go_wp2_with fail
 refine (S3.out).mono ?_
 rintro e X4 ⟨rfl, hg⟩
 have GX4 := Lib.hid (GA3.out.trans (hg.mono GA3.out.size))
 clear hg
 have I4 := Lib.hid (Blk.intsN (l := [5, 7]) (n := 2) (Blk.new X4 3 #[.int .i64 5, .int .i64 7]) rfl)
 have GA4 := Lib.hid (GX4.out.trans ((one_more X4 (.cells #[.int .i64 5, .int .i64 7] 3)).mono GX4.out.size))
 have S4 := Lib.hid (same_is (D := D8) (m := m8) (d := d8) HI8.out HM8.out _ GA4.out _ 2 2 I4.out (by decide))
 go_wp2_with fail
 refine (S4.out).mono ?_
 rintro e X5 ⟨rfl, hg⟩
 have GX5 := Lib.hid (GA4.out.trans (hg.mono GA4.out.size))
 clear hg
 have I5 := Lib.hid (Blk.intsN (l := [3, 4]) (n := 2) (Blk.new X5 3 #[.int .i64 3, .int .i64 4]) rfl)
 have GA5 := Lib.hid (GX5.out.trans ((one_more X5 (.cells #[.int .i64 3, .int .i64 4] 3)).mono GX5.out.size))
 have S5 := Lib.hid (same_is (D := D9) (m := m9) (d := d9) HI9.out HM9.out _ GA5.out _ 2 2 I5.out (by decide))
 go_wp2_with fail
 refine (S5.out).mono ?_
 rintro e X6 ⟨rfl, hg⟩
 have GX6 := Lib.hid (GA5.out.trans (hg.mono GA5.out.size))
 clear hg
 have I6 := Lib.hid (Blk.intsN (l := [5, 7]) (n := 2) (Blk.new X6 3 #[.int .i64 5, .int .i64 7]) rfl)
 have GA6 := Lib.hid (GX6.out.trans ((one_more X6 (.cells #[.int .i64 5, .int .i64 7] 3)).mono GX6.out.size))
 have S6 := Lib.hid (same_is (D := D10) (m := m10) (d := d10) HI10.out HM10.out _ GA6.out _ 2 2 I6.out (by decide))
 go_wp2_with fail
 refine (S6.out).mono ?_
 rintro e X7 ⟨rfl, hg⟩
 have GX7 := Lib.hid (GA6.out.trans (hg.mono GA6.out.size))
 clear hg
 have I7 := Lib.hid (Blk.intsN (l := [1, 2, 7]) (n := 3) (Blk.new X7 3 #[.int .i64 1, .int .i64 2, .int .i64 7]) rfl)
 have GA7 := Lib.hid (GX7.out.trans ((one_more X7 (.cells #[.int .i64 1, .int .i64 2, .int .i64 7] 3)).mono GX7.out.size))
 have S7 := Lib.hid (same_is (D := DC) (m := mC) (d := dC) HIC.out HMC.out _ GA7.out _ 3 3 I7.out (by decide))
 go_wp2_with fail
 refine (S7.out).mono ?_
 rintro e X8 ⟨rfl, hg⟩
 have GX8 := Lib.hid (GA7.out.trans (hg.mono GA7.out.size))
 clear hg
 go_wp2_with fail
 go_ret
 exact ⟨rfl, HG0.out.trans ((GCC.out.trans (GX8.out.mono GCC.out.size)).mono HG0.out.size)⟩
end Go.Proofs.YtehhlgdkhecacaaGreat

namespace Go.Proofs.YtehhlgdkhecacaaGreat
open Go.RowKit Go.Shelf
def putP (l : List Int) (x : Int) (k : Nat) (d : Bool) : List Int := if d = true then (l.take k).filter (· < x) ++ x :: (l.take k).filter (x < ·) else l.take k
structure PutI (l : List Int) (x : Int) (k : Nat) (d : Bool) : Prop where
 ne : ∀ y ∈ l.take k, y ≠ x
 yes : d = true → ∃ y, y ∈ l.take k ∧ x < y
 no : d = false → ∀ y ∈ l.take k, y < x
theorem PutI.nil (l : List Int) (x : Int) : PutI l x 0 false := ⟨fun y h => (by simp at h), fun h => (by cases h), fun _ y h => (by simp at h)⟩
section
variable {l : List Int} {x : Int} {k : Nat}
theorem fil_lt (h : ∀ y ∈ l, y < x) : l.filter (· < x) = l ∧ l.filter (x < ·) = [] :=
 ⟨List.filter_eq_self.2 fun y hy => by simpa using h y hy, List.filter_eq_nil_iff.2 fun y hy => by have := h y hy; simp; omega⟩
theorem PutI.s1 (h : PutI l x k false) (hk : k < l.length) (hx : x < l.getD k 0) : PutI l x (k + 1) true ∧ putP l x (k + 1) true = (putP l x k false ++ [x]) ++ [l.getD k 0] := by
 have ht := take_snoc (d := 0) hk
 obtain ⟨e1, e2⟩ := fil_lt (h.no rfl)
 constructor
 ·refine ⟨fun y hy => ?_, fun _ => ⟨l.getD k 0, by rw [ht]; simp, hx⟩, fun h => (by cases h)⟩
  rw [ht, List.mem_append, List.mem_singleton] at hy
  rcases hy with hy | rfl
  ·exact h.ne y hy
  ·omega
 ·unfold putP
  rw [if_pos rfl, if_neg (by decide), ht, List.filter_append, List.filter_append, e1, e2, List.filter_cons_of_neg (by rw [decide_eq_true_eq]; omega), List.filter_cons_of_pos (by rw [decide_eq_true_eq]; omega)]
  simp
theorem PutI.s2 (h : PutI l x k false) (hk : k < l.length) (hx : l.getD k 0 < x) : PutI l x (k + 1) false ∧ putP l x (k + 1) false = putP l x k false ++ [l.getD k 0] := by
 have ht := take_snoc (d := 0) hk
 refine ⟨⟨fun y hy => ?_, fun h => (by cases h), fun _ y hy => ?_⟩, by unfold putP; rw [if_neg (by decide), if_neg (by decide), ht]⟩
 ·rw [ht, List.mem_append, List.mem_singleton] at hy
  rcases hy with hy | rfl
  ·exact h.ne y hy
  ·omega
 ·rw [ht, List.mem_append, List.mem_singleton] at hy
  rcases hy with hy | rfl
  ·exact h.no rfl y hy
  ·exact hx
theorem PutI.s3 (hp : l.Pairwise (· < ·)) (h : PutI l x k true) (hk : k < l.length) : PutI l x (k + 1) true ∧ putP l x (k + 1) true = putP l x k true ++ [l.getD k 0] ∧ x < l.getD k 0 := by
 have ht := take_snoc (d := 0) hk
 obtain ⟨z, hz, hxz⟩ := h.yes rfl
 have hzl : z < l.getD k 0 := by
  have h2 := hp
  rw [← List.take_append_drop k l, List.pairwise_append] at h2
  refine h2.2.2 z hz _ ?_
  rw [List.drop_eq_getElem_cons hk, List.getD_eq_getElem?_getD, List.getElem?_eq_getElem hk]
  exact List.mem_cons_self
 refine ⟨⟨fun y hy => ?_, fun _ => ⟨z, by rw [ht]; simp [hz], hxz⟩, fun h => (by cases h)⟩, ?_, by omega⟩
 ·rw [ht, List.mem_append, List.mem_singleton] at hy
  rcases hy with hy | rfl
  ·exact h.ne y hy
  ·omega
 ·unfold putP
  rw [if_pos rfl, if_pos rfl, ht, List.filter_append, List.filter_append, List.filter_cons_of_neg (by rw [decide_eq_true_eq]; omega), List.filter_cons_of_pos (by rw [decide_eq_true_eq]; omega)]
  simp
theorem PutI.fin (h : PutI l x l.length true) : putP l x l.length true = putI l x := by
 have hm : x ∉ l := fun hm => h.ne x (by rw [List.take_length]; exact hm) rfl
 unfold putP putI
 rw [if_pos rfl, if_neg hm, List.take_length]
theorem PutI.fin0 (h : PutI l x l.length false) : putP l x l.length false ++ [x] = putI l x := by
 have hm : x ∉ l := fun hm => h.ne x (by rw [List.take_length]; exact hm) rfl
 have h2 := h.no rfl
 rw [List.take_length] at h2
 obtain ⟨e1, e2⟩ := fil_lt h2
 unfold putP putI
 rw [if_neg (by decide), if_neg hm, List.take_length, e1, e2]
theorem putI_in (h : x ∈ l) : putI l x = l := by unfold putI; rw [if_pos h]
theorem putP_len (hk : k ≤ l.length) (d : Bool) : (putP l x k d).length ≤ 2 * l.length + 1 := by
 unfold putP
 split
 ·rw [List.length_append, List.length_cons]
  have h1 := List.length_filter_le (· < x) (l.take k)
  have h2 := List.length_filter_le (x < ·) (l.take k)
  rw [List.length_take] at h1 h2
  omega
 ·rw [List.length_take]; omega
end
theorem own_empty {α : Type} {f : α → List Value} {size : Nat} {e : TypeId} (hf : ∀ x, (f x).length = size) (W : World) {base : Nat} (hb : base ≤ W.heap.size) : OwnL f size e (W.alloc (.cells #[] e)) base (.slice (some ⟨W.heap.size, 0, none⟩) 0 0) [] :=
 own_mk hf rfl hb (Blk.new W e #[]) (Nat.le_refl _) (Nat.zero_le _) (by simp) (by simp)
set_option maxRecDepth 100000 in
set_option maxHeartbeats 8000000 in
theorem refPut_any (A : Option Addr) (n c : Nat) (l : List Int) (x : Int) (w : World) (ha : Ints w A n l) (hn : n ≤ 1000) (hp : l.Pairwise (· < ·)) :
  Calls Tryz.prog 42 #[.slice A n c, .int .i64 x] w fun e w' => (∃ v, e = .returned v ∧ OwnL icells 1 3 w' w.heap.size v (putI l x)) ∧ Below w.heap.size w w' := by
 have HA := Lib.hid ha
 have HLN := Lib.hid ha.1
 have HUP := Lib.hid hp
 have HIN := Lib.hid (fun (h : x ∈ l) => putI_in h)
 have HF1 := Lib.hid (fun (h : PutI l x n true) => (show putP l x n true = putI l x by have := ha.1; subst this; exact h.fin))
 have HF0 := Lib.hid (fun (h : PutI l x n false) => (show putP l x n false ++ [x] = putI l x by have := ha.1; subst this; exact h.fin0))
 have HPL := Lib.hid (fun k d (hk : k ≤ n) => (show (putP l x k d).length ≤ 2001 by have := putP_len (l := l) (x := x) (k := k) (by rw [ha.1]; exact hk) d; have := ha.1; omega))
 have HO0 := Lib.hid (OwnL.nil (f := icells) (size := 1) (e := 3) w w.heap.size)
 have HZ := Lib.hid (Below.refl w.heap.size w)
 obtain ⟨rs, hrs⟩ : ∃ r, putI l x = r := ⟨_, rfl⟩
 rw [hrs] at HIN HF1 HF0 ⊢
 clear hrs ha hp
 go_enter Tryz.func42, Tryz.ntmps42
 go_wp2_with fail
 go_loopw [5, 6, 7] (fun v d i wr => ∃ (k : Nat) (b : Bool), d = .bool b ∧ i = .int .i64 k ∧ k ≤ n ∧ Below w.heap.size w wr ∧ OwnL icells 1 3 wr w.heap.size v (putP l x k b) ∧ PutI l x k b) (fun _ _ i _ => n - (intOf i).toNat)
 case atStart => exact ⟨0, false, rfl, rfl, Nat.zero_le _, HZ.out, HO0.out, PutI.nil l x⟩
 case round =>
  obtain ⟨k, d, rfl, rfl, hk, hg, ho, hi⟩ := hrel
  have HG := Lib.hid hg
  have HO := Lib.hid ho
  have HI := Lib.hid hi
  have HL := Lib.hid (HPL.out k d hk)
  have hwr2 : wrap64 ((k : Int) + 1) = (k : Int) + 1 := wrap_in (by omega)
  obtain ⟨acc, hacc⟩ : ∃ a, putP l x k d = a := ⟨_, rfl⟩
  have HACC := Lib.hid hacc
  rw [hacc] at HO HL
  clear ho hi hacc
  by_cases hkn : k < n
  ·obtain ⟨b0, o0, rfl, -, hm, hc⟩ := ints_at (HA.out.below hg) hkn
   have HM := Lib.hid hm
   obtain ⟨y, hy⟩ : ∃ y, l.getD k 0 = y := ⟨_, rfl⟩
   have HKL := Lib.hid (show k < l.length by rw [HLN.out]; exact hkn)
   rw [hy] at hc HM
   have HY := Lib.hid hy
   have x0 := hc _ (Below.refl _ _)
   have YV := Lib.hid (fun (V : World) (g : Below w.heap.size w V) => (show V.cell? ⟨b0, o0 + k, none⟩ = some (.int .i64 y) by
    obtain ⟨b9, o9, e9, -, -, h9⟩ := ints_at (HA.out.below g) hkn
    cases e9
    have := h9 _ (Below.refl _ _)
    rwa [HY.out] at this))
   clear hc hy hm
   by_cases hxy : y = x
   ·have e1 : (y == x) = true := beq_iff_eq.2 hxy
    have HR := Lib.hid (HIN.out (by rw [← hxy]; exact List.mem_of_getElem? HM.out))
    have OE := Lib.hid (own_empty (f := icells) (size := 1) (e := 3) icells_len wr (base := w.heap.size) hg.size)
    have GE := Lib.hid (one_more wr (.cells #[] 3))
    have HAE := Lib.hid ((HA.out.below hg).below GE.out)
    clear hxy hg
    go_wp2_with (first | (at_builtin; (refine wpList_app kdI (by rfl) _ _ (by rfl) w.heap.size _ [] (by rfl) OE.out _ n c l (by rfl) HAE.out (by show 0 + n ≤ 1000000; omega) (Nat.le_trans HG.out.size GE.out.size) ?_); intro v' w' ho hgr hz; have HO2 := Lib.hid ho; have GV := Lib.hid ((HG.out.trans (GE.out.mono HG.out.size)).trans (OE.out.below hgr (Nat.le_refl _) (Nat.le_trans HG.out.size GE.out.size))); clear ho hgr hz))
    go_ret
    exact ⟨⟨_, rfl, by rw [HR.out]; exact HO2.out⟩, GV.out⟩
   ·have e1 : (y == x) = false := beq_eq_false_iff_ne.2 hxy
    have HNE := Lib.hid hxy
    clear hxy hg
    cases d with
    | false =>
     by_cases hlt : x < y
     ·have S := Lib.hid (show PutI l x (k + 1) true ∧ putP l x (k + 1) true = (acc ++ [x]) ++ [y] by have := HI.out.s1 HKL.out (by rw [HY.out]; exact hlt); rwa [HACC.out, HY.out] at this)
      have GX := Lib.hid (one_more wr (.cells #[.int .i64 x] 3))
      have IX := Lib.hid (one_int (Blk.new wr 3 #[.int .i64 x]))
      have OX := Lib.hid (HO.out.ext GX.out)
      have HS := Lib.hid (Nat.le_trans HG.out.size GX.out.size)
      go_wp2_with (first
       | (at_builtin; (refine wpList_app kdI (by rfl) _ _ (by rfl) w.heap.size _ acc (by rfl) OX.out _ 1 1 [x] (by rfl) IX.out (by have := HL.out; omega) HS.out ?_); intro v1 w1 ho hgr hz; have HO1 := Lib.hid ho; have GV1 := Lib.hid ((HG.out.trans (GX.out.mono HG.out.size)).trans (OX.out.below hgr (Nat.le_refl _) HS.out)); have x1 := YV.out w1 GV1.out; have GY := Lib.hid (one_more w1 (.cells #[.int .i64 y] 3)); have IY := Lib.hid (one_int (Blk.new w1 3 #[.int .i64 y])); have OY := Lib.hid (ho.ext GY.out); have HS2 := Lib.hid (Nat.le_trans GV1.out.size GY.out.size); clear ho hgr hz)
       | (at_builtin; (refine wpList_app kdI (by rfl) _ _ (by rfl) w.heap.size _ (acc ++ [x]) (by rfl) OY.out _ 1 1 [y] (by rfl) IY.out (by have := HL.out; rw [List.length_append, List.length_singleton]; omega) HS2.out ?_); intro v2 w2 ho hgr hz; have HO2 := Lib.hid ho; have GV2 := Lib.hid ((GV1.out.trans (GY.out.mono GV1.out.size)).trans (OY.out.below hgr (Nat.le_refl _) HS2.out)); clear ho hgr hz))
      go_roundw
      case rel => exact ⟨k + 1, true, rfl, rfl, by omega, GV2.out, by rw [S.out.2]; exact HO2.out, S.out.1⟩
      case measure => simp only [intOf]; omega
     ·have S := Lib.hid (show PutI l x (k + 1) false ∧ putP l x (k + 1) false = acc ++ [y] by have := HI.out.s2 HKL.out (by rw [HY.out]; have := HNE.out; omega); rwa [HACC.out, HY.out] at this)
      have GX := Lib.hid (one_more wr (.cells #[.int .i64 y] 3))
      have IX := Lib.hid (one_int (Blk.new wr 3 #[.int .i64 y]))
      have OX := Lib.hid (HO.out.ext GX.out)
      have HS := Lib.hid (Nat.le_trans HG.out.size GX.out.size)
      go_wp2_with (first
       | (at_builtin; (refine wpList_app kdI (by rfl) _ _ (by rfl) w.heap.size _ acc (by rfl) OX.out _ 1 1 [y] (by rfl) IX.out (by have := HL.out; omega) HS.out ?_); intro v1 w1 ho hgr hz; have HO2 := Lib.hid ho; have GV2 := Lib.hid ((HG.out.trans (GX.out.mono HG.out.size)).trans (OX.out.below hgr (Nat.le_refl _) HS.out)); clear ho hgr hz))
      go_roundw
      case rel => exact ⟨k + 1, false, rfl, rfl, by omega, GV2.out, by rw [S.out.2]; exact HO2.out, S.out.1⟩
      case measure => simp only [intOf]; omega
    | true =>
      have S := Lib.hid (show PutI l x (k + 1) true ∧ putP l x (k + 1) true = acc ++ [y] by have := HI.out.s3 HUP.out HKL.out; rw [HACC.out, HY.out] at this; exact ⟨this.1, this.2.1⟩)
      have GX := Lib.hid (one_more wr (.cells #[.int .i64 y] 3))
      have IX := Lib.hid (one_int (Blk.new wr 3 #[.int .i64 y]))
      have OX := Lib.hid (HO.out.ext GX.out)
      have HS := Lib.hid (Nat.le_trans HG.out.size GX.out.size)
      go_wp2_with (first
       | (at_builtin; (refine wpList_app kdI (by rfl) _ _ (by rfl) w.heap.size _ acc (by rfl) OX.out _ 1 1 [y] (by rfl) IX.out (by have := HL.out; omega) HS.out ?_); intro v1 w1 ho hgr hz; have HO2 := Lib.hid ho; have GV2 := Lib.hid ((HG.out.trans (GX.out.mono HG.out.size)).trans (OX.out.below hgr (Nat.le_refl _) HS.out)); clear ho hgr hz))
      go_roundw
      case rel => exact ⟨k + 1, true, rfl, rfl, by omega, GV2.out, by rw [S.out.2]; exact HO2.out, S.out.1⟩
      case measure => simp only [intOf]; omega
  ·obtain rfl : k = n := by omega
   clear hg
   cases d with
   | true =>
    have HR := Lib.hid (show acc = rs by rw [← HACC.out]; exact HF1.out HI.out)
    go_wp2_with fail
    go_ret
    exact ⟨⟨_, rfl, by rw [← HR.out]; exact HO.out⟩, HG.out⟩
   | false =>
    have HR := Lib.hid (show acc ++ [x] = rs by rw [← HACC.out]; exact HF0.out HI.out)
    have GX := Lib.hid (one_more wr (.cells #[.int .i64 x] 3))
    have IX := Lib.hid (one_int (Blk.new wr 3 #[.int .i64 x]))
    have OX := Lib.hid (HO.out.ext GX.out)
    have HS := Lib.hid (Nat.le_trans HG.out.size GX.out.size)
    go_wp2_with (first
       | (at_builtin; (refine wpList_app kdI (by rfl) _ _ (by rfl) w.heap.size _ acc (by rfl) OX.out _ 1 1 [x] (by rfl) IX.out (by have := HL.out; omega) HS.out ?_); intro v1 w1 ho hgr hz; have HO1 := Lib.hid ho; have GV1 := Lib.hid ((HG.out.trans (GX.out.mono HG.out.size)).trans (OX.out.below hgr (Nat.le_refl _) HS.out)); clear ho hgr hz))
    go_ret
    exact ⟨⟨_, rfl, by rw [← HR.out]; exact HO1.out⟩, GV1.out⟩
end Go.Proofs.YtehhlgdkhecacaaGreat

namespace Go.Proofs.YtehhlgdkhecacaaGreat
open Go.RowKit Go.Shelf
abbrev rb (x : Ra) : Array Value := #[.int .i64 x.kind, .int .i64 x.per, .int .i64 x.ots, .int .i64 x.oth, .int .i64 x.par, .int .i64 x.day, .int .i64 x.long, .int .i64 x.kno, .int .i64 x.unt]
/-- A number of Go's. -/
def I64 (n : Int) : Prop := -9223372036854775808 ≤ n ∧ n ≤ 9223372036854775807
/-- Numbers of Go's throughout: one of them is divided. -/
def RaOk (x : Ra) : Prop := I64 x.unt
theorem ints_grown {w w' : World} {n : Nat} {A : Option Addr} {l : List Int} {row : Option Nat} (h : Ints w A n l) (hne : ∀ a, A = some a → row ≠ some a.block) (g : w.grownBy w' row) : Ints w' A n l := by
 refine ⟨h.1, fun h0 => ?_⟩
 obtain ⟨b, o, rfl, hb, hc⟩ := h.2 h0
 have hbg : row ≠ some b := hne _ rfl
 exact ⟨b, o, rfl, Nat.lt_of_lt_of_le hb g.size, fun k x hx j u hu => (World.cell?_of_block (a := ⟨b, o + k * 1 + j, none⟩) (g.block b hb fun e => hbg e.symm)).trans (hc k x hx j u hu)⟩
/-- Two lists of one's own: proofs whose persons lie elsewhere, and numbers. -/
structure Md (w W : World) (v u : Value) (ls : List Pf) (ts : List Int) : Prop where
 g : Below w.heap.size w W
 o1 : OwnL pcells 9 56 W w.heap.size v ls
 o2 : OwnL icells 1 3 W w.heap.size u ts
 per : ∀ p ∈ ls, PI W p ∧ ∀ a, p.A = some a → v.ownBlock ≠ some a.block ∧ u.ownBlock ≠ some a.block ∧ a.block < W.heap.size
 low : ∀ p ∈ ls, ∀ a, p.A = some a → w.heap.size ≤ a.block
section
variable {w W W2 : World} {v u v' : Value} {ls : List Pf} {ts : List Int}
theorem Md.nil (w : World) : Md w w (.slice none 0 0) (.slice none 0 0) [] [] := ⟨Below.refl _ _, OwnL.nil _ _, OwnL.nil _ _, fun p hp => (by cases hp), fun p hp => (by cases hp)⟩
theorem Md.ext (h : Md w W v u ls ts) (k : Below W.heap.size W W2) : Md w W2 v u ls ts :=
 ⟨h.g.trans (k.mono h.g.size), h.o1.ext k, h.o2.ext k, fun p hp => ⟨(h.per p hp).1.below k, fun a e => by
  obtain ⟨h1, h2, h3⟩ := (h.per p hp).2 a e
  exact ⟨h1, h2, Nat.lt_of_lt_of_le h3 k.size⟩⟩, h.low⟩
theorem own_lt2 {α : Type} {f : α → List Value} {size : Nat} {e : TypeId} {w : World} {base : Nat} {v : Value} {xs : List α} (h : OwnL f size e w base v xs) {k : Nat} (hk : v.ownBlock = some k) : k < w.heap.size := by
 obtain ⟨-, cur, hc⟩ := own_block h hk
 exact hc.lt
theorem Md.diff (h : Md w W v u ls ts) : ∀ k, v.ownBlock = some k → u.ownBlock ≠ some k := fun k h1 h2 => by
 obtain ⟨-, c1, b1⟩ := own_block h.o1 h1
 obtain ⟨-, c2, b2⟩ := own_block h.o2 h2
 exact absurd (blk_type b1 b2) (by decide)
theorem Md.add1 (h : Md w W v u ls ts) {p : Pf} (hp : PI W p) (hne : ∀ a, p.A = some a → v.ownBlock ≠ some a.block ∧ u.ownBlock ≠ some a.block ∧ a.block < W.heap.size) (hlo : ∀ a, p.A = some a → w.heap.size ≤ a.block) (ho : OwnL pcells 9 56 W2 w.heap.size v' (ls ++ [p])) (hg : W.grownBy W2 v.ownBlock)
  (hz : v'.ownBlock = v.ownBlock ∨ v'.ownBlock = some W.heap.size) : Md w W2 v' u (ls ++ [p]) ts := by
 have hall : ∀ q ∈ ls ++ [p], PI W q ∧ ∀ a, q.A = some a → v.ownBlock ≠ some a.block ∧ u.ownBlock ≠ some a.block ∧ a.block < W.heap.size := fun q hq => by
  rw [List.mem_append, List.mem_singleton] at hq
  rcases hq with hq | rfl
  ·exact h.per q hq
  ·exact ⟨hp, hne⟩
 refine ⟨h.g.trans (h.o1.below hg (Nat.le_refl _) h.g.size), ho, World.ownsRow.kept h.o2 hg ?_, fun q hq => ?_, fun q hq => ?_⟩
 ·cases e : u.ownBlock with
  | none => exact .inl rfl
  | some k => exact .inr fun e2 => h.diff k e2.symm e
 ·obtain ⟨h1, h2⟩ := hall q hq
  refine ⟨⟨ints_grown h1.i (fun a e => (h2 a e).1) hg, h1.m⟩, fun a e => ?_⟩
  obtain ⟨k1, k2, k3⟩ := h2 a e
  refine ⟨?_, k2, Nat.lt_of_lt_of_le k3 hg.size⟩
  rcases hz with hz | hz
  ·rw [hz]; exact k1
  ·rw [hz]; intro e2; have := Option.some.inj e2; omega
 ·rw [List.mem_append, List.mem_singleton] at hq
  rcases hq with hq | rfl
  ·exact h.low q hq
  ·exact hlo
theorem Md.prf (h : Md w W v u ls ts) : ∃ A c, v = .slice A ls.length c ∧ ls.length ≤ c ∧ c ≤ maxLen ∧ Prf W A ls.length ls := own_prf h.o1 fun p hp => (h.per p hp).1
end
/-- A store elsewhere. -/
theorem OwnL.off {α : Type} {f : α → List Value} {size : Nat} {e : TypeId} {w : World} {base : Nat} {v : Value} {xs : List α} (h : OwnL f size e w base v xs) {b o : Nat} (hb : v.ownBlock ≠ some b) (u : Value) : OwnL f size e (w.setCell ⟨b, o, none⟩ u) base v xs :=
 World.ownsRow.kept h (fix_grown ((Fix.refl b b w).setCell (p := ⟨b, o, none⟩) (.inl rfl) u)) (.inr hb)
theorem own_ne {α : Type} {f : α → List Value} {size : Nat} {e t : TypeId} {w : World} {base : Nat} {v : Value} {xs : List α} (h : OwnL f size e w base v xs) {b : Nat} {cs : Array Value} (hb : Blk w b t cs) (hne : e ≠ t) : v.ownBlock ≠ some b := fun e2 => by
 obtain ⟨-, c1, b1⟩ := own_block h e2
 exact hne (blk_type b1 hb)
/-- A proof in a box, its persons a list of one's own. -/
structure Bx (w W : World) (b : Nat) (p : Pf) : Prop where
 g : Below w.heap.size w W
 bk : Blk W b 56 (pb p)
 o : OwnL icells 1 3 W w.heap.size (.slice p.A p.n p.c) p.q.per
 lo : w.heap.size ≤ b
theorem Bx.ext {w W W2 : World} {b : Nat} {p : Pf} (h : Bx w W b p) (k : Below W.heap.size W W2) : Bx w W2 b p := ⟨h.g.trans (k.mono h.g.size), h.bk.ext k, h.o.ext k, h.lo⟩
/-- A store into the box. -/
theorem Bx.set {w W : World} {b : Nat} {p p' : Pf} (h : Bx w W b p) (i : Nat) (u : Value) (hc : (pb p).setIfInBounds i u = pb p') (hA : p'.A = p.A ∧ p'.n = p.n ∧ p'.c = p.c ∧ p'.q.per = p.q.per) : Bx w (W.setCell ⟨b, i, none⟩ u) b p' :=
 ⟨h.g.setCell (p := ⟨b, i, none⟩) h.lo u, by rw [← hc]; exact h.bk.set_ i u, by rw [hA.1, hA.2.1, hA.2.2.1, hA.2.2.2]; exact h.o.off (own_ne h.o h.bk (by decide)) u, h.lo⟩
/-- Another list of persons. -/
theorem Bx.per {w W W2 : World} {b : Nat} {p : Pf} (h : Bx w W b p) (k : Below W.heap.size W W2) {A : Option Addr} {n c : Nat} {l : List Int} (o : OwnL icells 1 3 W2 W.heap.size (.slice A n c) l) :
  Bx w (W2.setCell ⟨b, 2, none⟩ (.slice A n c)) b ⟨{ p.q with per := l }, A, n, c⟩ :=
 ⟨(h.g.trans (k.mono h.g.size)).setCell (p := ⟨b, 2, none⟩) h.lo _, (h.bk.ext k).set_ 2 _, (o.mono h.g.size).off (own_ne o (h.bk.ext k) (by decide)) _, h.lo⟩
end Go.Proofs.YtehhlgdkhecacaaGreat

namespace Go.Proofs.YtehhlgdkhecacaaGreat
open Go.RowKit Go.Shelf
abbrev S9 (V : World) (R : Nat) (p : Pf) : World :=
 ((((((((V.setCell ⟨R, 0, none⟩ (.int .i64 p.q.src)).setCell ⟨R, 1, none⟩ (.int .i64 p.q.kind)).setCell ⟨R, 2, none⟩ (.slice p.A p.n p.c)).setCell ⟨R, 3, none⟩ (.int .i64 p.q.oth)).setCell ⟨R, 4, none⟩ (.int .i64 p.q.par)).setCell ⟨R, 5, none⟩ (.int .i64 p.q.day)).setCell ⟨R, 6, none⟩ (.int .i64 p.q.thr)).setCell ⟨R, 7, none⟩ (.int .i64 p.q.kno)).setCell ⟨R, 8, none⟩ (.int .i64 p.q.unt)
theorem Blk.s9 {V : World} {R : Nat} {a0 a1 a2 a3 a4 a5 a6 a7 a8 : Value} (h : Blk V R 56 #[a0, a1, a2, a3, a4, a5, a6, a7, a8]) (p : Pf) : Blk (S9 V R p) R 56 (pb p) := by
 have h0 : Blk (V.setCell ⟨R, 0, none⟩ (.int .i64 p.q.src)) R 56 #[.int .i64 p.q.src, a1, a2, a3, a4, a5, a6, a7, a8] := h.set_ 0 _
 have h1 : Blk ((V.setCell ⟨R, 0, none⟩ (.int .i64 p.q.src)).setCell ⟨R, 1, none⟩ (.int .i64 p.q.kind)) R 56 #[.int .i64 p.q.src, .int .i64 p.q.kind, a2, a3, a4, a5, a6, a7, a8] := h0.set_ 1 _
 have h2 : Blk (((V.setCell ⟨R, 0, none⟩ (.int .i64 p.q.src)).setCell ⟨R, 1, none⟩ (.int .i64 p.q.kind)).setCell ⟨R, 2, none⟩ (.slice p.A p.n p.c)) R 56 #[.int .i64 p.q.src, .int .i64 p.q.kind, .slice p.A p.n p.c, a3, a4, a5, a6, a7, a8] := h1.set_ 2 _
 have h3 : Blk ((((V.setCell ⟨R, 0, none⟩ (.int .i64 p.q.src)).setCell ⟨R, 1, none⟩ (.int .i64 p.q.kind)).setCell ⟨R, 2, none⟩ (.slice p.A p.n p.c)).setCell ⟨R, 3, none⟩ (.int .i64 p.q.oth)) R 56 #[.int .i64 p.q.src, .int .i64 p.q.kind, .slice p.A p.n p.c, .int .i64 p.q.oth, a4, a5, a6, a7, a8] := h2.set_ 3 _
 have h4 : Blk (((((V.setCell ⟨R, 0, none⟩ (.int .i64 p.q.src)).setCell ⟨R, 1, none⟩ (.int .i64 p.q.kind)).setCell ⟨R, 2, none⟩ (.slice p.A p.n p.c)).setCell ⟨R, 3, none⟩ (.int .i64 p.q.oth)).setCell ⟨R, 4, none⟩ (.int .i64 p.q.par)) R 56 #[.int .i64 p.q.src, .int .i64 p.q.kind, .slice p.A p.n p.c, .int .i64 p.q.oth, .int .i64 p.q.par, a5, a6, a7, a8] := h3.set_ 4 _
 have h5 : Blk ((((((V.setCell ⟨R, 0, none⟩ (.int .i64 p.q.src)).setCell ⟨R, 1, none⟩ (.int .i64 p.q.kind)).setCell ⟨R, 2, none⟩ (.slice p.A p.n p.c)).setCell ⟨R, 3, none⟩ (.int .i64 p.q.oth)).setCell ⟨R, 4, none⟩ (.int .i64 p.q.par)).setCell ⟨R, 5, none⟩ (.int .i64 p.q.day)) R 56 #[.int .i64 p.q.src, .int .i64 p.q.kind, .slice p.A p.n p.c, .int .i64 p.q.oth, .int .i64 p.q.par, .int .i64 p.q.day, a6, a7, a8] := h4.set_ 5 _
 have h6 : Blk (((((((V.setCell ⟨R, 0, none⟩ (.int .i64 p.q.src)).setCell ⟨R, 1, none⟩ (.int .i64 p.q.kind)).setCell ⟨R, 2, none⟩ (.slice p.A p.n p.c)).setCell ⟨R, 3, none⟩ (.int .i64 p.q.oth)).setCell ⟨R, 4, none⟩ (.int .i64 p.q.par)).setCell ⟨R, 5, none⟩ (.int .i64 p.q.day)).setCell ⟨R, 6, none⟩ (.int .i64 p.q.thr)) R 56 #[.int .i64 p.q.src, .int .i64 p.q.kind, .slice p.A p.n p.c, .int .i64 p.q.oth, .int .i64 p.q.par, .int .i64 p.q.day, .int .i64 p.q.thr, a7, a8] := h5.set_ 6 _
 have h7 : Blk ((((((((V.setCell ⟨R, 0, none⟩ (.int .i64 p.q.src)).setCell ⟨R, 1, none⟩ (.int .i64 p.q.kind)).setCell ⟨R, 2, none⟩ (.slice p.A p.n p.c)).setCell ⟨R, 3, none⟩ (.int .i64 p.q.oth)).setCell ⟨R, 4, none⟩ (.int .i64 p.q.par)).setCell ⟨R, 5, none⟩ (.int .i64 p.q.day)).setCell ⟨R, 6, none⟩ (.int .i64 p.q.thr)).setCell ⟨R, 7, none⟩ (.int .i64 p.q.kno)) R 56 #[.int .i64 p.q.src, .int .i64 p.q.kind, .slice p.A p.n p.c, .int .i64 p.q.oth, .int .i64 p.q.par, .int .i64 p.q.day, .int .i64 p.q.thr, .int .i64 p.q.kno, a8] := h6.set_ 7 _
 have h8 : Blk (((((((((V.setCell ⟨R, 0, none⟩ (.int .i64 p.q.src)).setCell ⟨R, 1, none⟩ (.int .i64 p.q.kind)).setCell ⟨R, 2, none⟩ (.slice p.A p.n p.c)).setCell ⟨R, 3, none⟩ (.int .i64 p.q.oth)).setCell ⟨R, 4, none⟩ (.int .i64 p.q.par)).setCell ⟨R, 5, none⟩ (.int .i64 p.q.day)).setCell ⟨R, 6, none⟩ (.int .i64 p.q.thr)).setCell ⟨R, 7, none⟩ (.int .i64 p.q.kno)).setCell ⟨R, 8, none⟩ (.int .i64 p.q.unt)) R 56 #[.int .i64 p.q.src, .int .i64 p.q.kind, .slice p.A p.n p.c, .int .i64 p.q.oth, .int .i64 p.q.par, .int .i64 p.q.day, .int .i64 p.q.thr, .int .i64 p.q.kno, .int .i64 p.q.unt] := h7.set_ 8 _
 exact h8
theorem own_s9 {W : World} {R base : Nat} {v : Value} {xs : List Int} {cs : Array Value} (h : OwnL icells 1 3 W base v xs) (hb : Blk W R 56 cs) (p : Pf) : OwnL icells 1 3 (S9 W R p) base v xs := by
 have e := own_ne h hb (by decide)
 exact ((((((((h.off e _).off e _).off e _).off e _).off e _).off e _).off e _).off e _).off e _
theorem below_s9 {W V : World} {B R : Nat} (h : Below B W V) (hR : B ≤ R) (p : Pf) : Below B W (S9 V R p) :=
 ((((((((h.setCell (p := ⟨R, 0, none⟩) hR _).setCell (p := ⟨R, 1, none⟩) hR _).setCell (p := ⟨R, 2, none⟩) hR _).setCell (p := ⟨R, 3, none⟩) hR _).setCell (p := ⟨R, 4, none⟩) hR _).setCell (p := ⟨R, 5, none⟩) hR _).setCell (p := ⟨R, 6, none⟩) hR _).setCell (p := ⟨R, 7, none⟩) hR _).setCell (p := ⟨R, 8, none⟩) hR _
/-- A proof whose persons are a list of one's own. -/
def Cpd (q : Qf) (n : Nat) (w : World) (e : Ending) (w' : World) : Prop :=
 (∃ A c, e = .returned (pv ⟨q, A, n, c⟩) ∧ OwnL icells 1 3 w' w.heap.size (.slice A n c) q.per) ∧ Below w.heap.size w w'
set_option maxRecDepth 100000 in
set_option maxHeartbeats 8000000 in
theorem refCopied_any (p : Pf) (w : World) (hp : PI w p) (hn : p.n ≤ 1000000) : Calls Tryz.prog 117 #[pv p] w (Cpd p.q p.n w) := by
 obtain ⟨b, hb⟩ : ∃ b, w.heap.size = b := ⟨_, rfl⟩
 obtain ⟨W1, hW1⟩ : ∃ X, w.alloc (.cells #[.int .i64 p.q.src, .int .i64 p.q.kind, .slice p.A p.n p.c, .int .i64 p.q.oth, .int .i64 p.q.par, .int .i64 p.q.day, .int .i64 p.q.thr, .int .i64 p.q.kno, .int .i64 p.q.unt] 56) = X := ⟨_, rfl⟩
 have g1 : Below w.heap.size w W1 := by rw [← hW1]; exact one_more _ _
 have s1 : W1.heap.size = b + 1 := by rw [← hW1, ← hb]; simp
 have b1 : Blk W1 b 56 #[.int .i64 p.q.src, .int .i64 p.q.kind, .slice p.A p.n p.c, .int .i64 p.q.oth, .int .i64 p.q.par, .int .i64 p.q.day, .int .i64 p.q.thr, .int .i64 p.q.kno, .int .i64 p.q.unt] := by rw [← hW1, ← hb]; exact Blk.new _ _ _
 obtain ⟨W2, hW2⟩ : ∃ X, W1.alloc (.cells #[.int .i64 0, .int .i64 0, .slice none 0 0, .int .i64 0, .int .i64 0, .int .i64 0, .int .i64 0, .int .i64 0, .int .i64 0] 56) = X := ⟨_, rfl⟩
 have g2 : Below W1.heap.size W1 W2 := by rw [← hW2]; exact one_more _ _
 have s2 : W2.heap.size = b + 2 := by rw [← hW2]; simp [s1]
 have b2 : Blk W2 (b + 1) 56 #[.int .i64 0, .int .i64 0, .slice none 0 0, .int .i64 0, .int .i64 0, .int .i64 0, .int .i64 0, .int .i64 0, .int .i64 0] := by rw [← hW2, ← s1]; exact Blk.new _ _ _
 have G2 := Lib.hid (extTrans g1 g2)
 have g3 : Below W2.heap.size W2 (W2.alloc (.cells #[] 3)) := one_more _ _
 have OE := Lib.hid (show OwnL icells 1 3 (W2.alloc (.cells #[] 3)) W2.heap.size (.slice (some ⟨W2.heap.size, 0, none⟩) 0 0) [] from own_empty icells_len W2 (Nat.le_refl _))
 have G3 := Lib.hid g3
 have B2o := Lib.hid (b1.ext g2)
 have R2o := Lib.hid b2
 have B3 := Lib.hid ((b1.ext g2).ext g3)
 have R3 := Lib.hid (b2.ext g3)
 have HI := Lib.hid (((hp.below g1).below g2).below g3)
 have HL := Lib.hid hp.len
 have HS2 := Lib.hid s2
 have HS1 := Lib.hid s1
 have HW1 := Lib.hid hW1
 have HW2 := Lib.hid hW2
 have HB := Lib.hid hb
 clear g1 g2 g3 s1 s2 b1 b2 hp hW1 hW2 hb
 go_enter Tryz.func117, Tryz.ntmps117
 go_upto_region 1 with fail
 rw [HW1.out, HB.out]
 rw [HW2.out]
 have k2 : World.cell? (W2.alloc (.cells #[] 3)) ⟨b, 2, none⟩ = some (.slice p.A p.n p.c) := B3.out.cell 2
 have HBS := Lib.hid (show W2.heap.size ≤ (W2.alloc (.cells #[] 3)).heap.size from G3.out.size)
 go_upto_region 2 with (first
  | (at_builtin; go_loud (refine wpList_app kdI (by rfl) _ _ (by rfl) W2.heap.size _ [] (by rfl) OE.out _ p.n p.c p.q.per (by rfl) HI.out.i (by rw [List.length_nil]; omega) HBS.out ?_); intro v' w' ho hgr hz; rw [List.nil_append] at ho; obtain ⟨A5, c5, rfl, -, -, -, -⟩ := OwnL.arr kdI ho; rw [HL.out] at ho ⊢; have GX := Lib.hid (G3.out.trans (OE.out.below hgr (Nat.le_refl _) HBS.out)); have HO := Lib.hid ho; have BX := Lib.hid ((show Blk w' b 56 _ from (((B2o.out.ext GX.out))))); have RX := Lib.hid (R2o.out.ext GX.out); clear ho hgr hz k2; have f2 := BX.out.frozen 2; have k2 := BX.out.cell 2))
 clear k2 f2
 have BP := Lib.hid (show Blk (w'.setCell ⟨b, 2, none⟩ (.slice A5 p.n c5)) b 56 (pb ⟨p.q, A5, p.n, c5⟩) from BX.out.set_ 2 _)
 have RZ := Lib.hid (RX.out.far (p := ⟨b, 2, none⟩) (show b + 1 ≠ b by omega) (.slice A5 p.n c5))
 have OX := Lib.hid (HO.out.off (own_ne HO.out BX.out (by decide)) (o := 2) (.slice A5 p.n c5))
 have GXX := Lib.hid ((G2.out.trans (GX.out.mono G2.out.size)).setCell (p := ⟨b, 2, none⟩) (show w.heap.size ≤ b by have := HB.out; omega) (.slice A5 p.n c5))
 obtain ⟨X, hX⟩ : ∃ X, w'.setCell ⟨b, 2, none⟩ (.slice A5 p.n c5) = X := ⟨_, rfl⟩
 rw [hX] at BP RZ OX GXX ⊢
 clear hX
 have k0 := BP.out.cell 0
 have k1 := BP.out.cell 1
 have k2 := BP.out.cell 2
 have k3 := BP.out.cell 3
 have k4 := BP.out.cell 4
 have k5 := BP.out.cell 5
 have k6 := BP.out.cell 6
 have k7 := BP.out.cell 7
 have k8 := BP.out.cell 8
 have z0 := RZ.out.cell 0
 have q0 := RZ.out.frozen 0
 have z1 := RZ.out.cell 1
 have q1 := RZ.out.frozen 1
 have z2 := RZ.out.cell 2
 have q2 := RZ.out.frozen 2
 have z3 := RZ.out.cell 3
 have q3 := RZ.out.frozen 3
 have z4 := RZ.out.cell 4
 have q4 := RZ.out.frozen 4
 have z5 := RZ.out.cell 5
 have q5 := RZ.out.frozen 5
 have z6 := RZ.out.cell 6
 have q6 := RZ.out.frozen 6
 have z7 := RZ.out.cell 7
 have q7 := RZ.out.frozen 7
 have z8 := RZ.out.cell 8
 have q8 := RZ.out.frozen 8
 go_wp2_with fail
 have RS := RZ.out.s9 ⟨p.q, A5, p.n, c5⟩
 have y0 := RS.cell 0
 have y1 := RS.cell 1
 have y2 := RS.cell 2
 have y3 := RS.cell 3
 have y4 := RS.cell 4
 have y5 := RS.cell 5
 have y6 := RS.cell 6
 have y7 := RS.cell 7
 have y8 := RS.cell 8
 refine bodyPost_ret (v := pv ⟨p.q, A5, p.n, c5⟩) ?_ rfl ⟨⟨A5, c5, rfl, (own_s9 OX.out RZ.out ⟨p.q, A5, p.n, c5⟩).mono G2.out.size⟩, below_s9 GXX.out (by have := HB.out; omega) ⟨p.q, A5, p.n, c5⟩⟩
 simp [results, Tryz.results117, go_sem, y0, y1, y2, y3, y4, y5, y6, y7, y8]
/-- A copy is put behind proofs of one's own. -/
theorem Md.push {w W0 W1 Wx W2 : World} {v v' : Value} {ls : List Pf} {q : Qf} {A : Option Addr} {n c : Nat} (h : Md w W0 v (.slice none 0 0) ls []) (g : Below W0.heap.size W0 W1) (o : OwnL icells 1 3 W1 W0.heap.size (.slice A n c) q.per) (g2 : Below W1.heap.size W1 Wx)
  (ho : OwnL pcells 9 56 W2 w.heap.size v' (ls ++ [⟨q, A, n, c⟩])) (hg : Wx.grownBy W2 v.ownBlock) (hz : v'.ownBlock = v.ownBlock ∨ v'.ownBlock = some Wx.heap.size) : Md w W2 v' (.slice none 0 0) (ls ++ [⟨q, A, n, c⟩]) [] := by
 have o2 := o.ext g2
 obtain ⟨A', c', e, h1, h2, h3, -⟩ := OwnL.arr kdI o2
 simp only [Value.slice.injEq] at e
 obtain ⟨e1, e2, e3⟩ := e
 rw [← e1, ← e2] at h3
 have hb : ∀ a, A = some a → W0.heap.size ≤ a.block ∧ a.block < Wx.heap.size := fun a e => by
  have hob : (Value.slice A n c).ownBlock = some a.block := by rw [e]; rfl
  exact ⟨(own_block o hob).1, own_lt2 o2 hob⟩
 refine ((h.ext g).ext g2).add1 ⟨h3, ⟨show n ≤ c by omega, show n ≤ 9223372036854775807 by unfold maxLen at h2; omega⟩⟩ (fun a e => ⟨fun e2 => ?_, fun e2 => ?_, (hb a e).2⟩) (fun a e => Nat.le_trans h.g.size (hb a e).1) ho hg hz
 ·have := own_lt2 h.o1 e2
  have := (hb a e).1
  omega
 ·cases e2
theorem lss_snoc (l : List Qf) (q : Qf) (s : Int) : lssL (l ++ [q]) s = lssL l s ++ (if q.src = s then [] else [q]) := by
 unfold lssL
 rw [List.filter_append]
 congr 1
 by_cases h : q.src = s
 ·rw [if_pos h, List.filter_cons_of_neg (by simpa using h)]; rfl
 ·rw [if_neg h, List.filter_cons_of_pos (by simpa using h)]; rfl
set_option maxRecDepth 100000 in
set_option maxHeartbeats 8000000 in
theorem refLess_any (A : Option Addr) (n c : Nat) (l : List Pf) (s : Int) (w : World) (ha : Prf w A n l) (hn : n ≤ 1000) (hq : ∀ p ∈ l, p.n ≤ 1000000) :
  Calls Tryz.prog 72 #[.slice A n c, .int .i64 s] w fun e w' => ∃ v ls, e = .returned v ∧ Md w w' v (.slice none 0 0) ls [] ∧ ls.map Pf.q = lssL (l.map Pf.q) s := by
 have HA := Lib.hid ha
 have hlen := Lib.hid ha.len
 have HQ := Lib.hid hq
 have HST := Lib.hid (fun k (hk : k < n) => (show lssL ((l.take (k + 1)).map Pf.q) s = lssL ((l.take k).map Pf.q) s ++ (if (l.getD k p0).q.src = s then [] else [(l.getD k p0).q]) by
  rw [take_snoc (d := p0) (by rw [ha.len]; exact hk), List.map_append, List.map_singleton, lss_snoc]))
 have HLN := Lib.hid (fun k (hk : k ≤ n) => (show (lssL ((l.take k).map Pf.q) s).length ≤ 1000 by
  have h1 := (lss_sub ((l.take k).map Pf.q) s).length_le
  rw [List.length_map, List.length_take] at h1
  omega))
 have HTF := Lib.hid (show lssL ((l.take n).map Pf.q) s = lssL (l.map Pf.q) s by rw [List.take_of_length_le (by rw [ha.len]; exact Nat.le_refl _)])
 obtain ⟨nm, hnm⟩ : ∃ f : Nat → List Qf, (fun k => lssL ((l.take k).map Pf.q) s) = f := ⟨_, rfl⟩
 have hnk : ∀ k, lssL ((l.take k).map Pf.q) s = nm k := fun k => by rw [← hnm]
 have HN0 := Lib.hid (show nm 0 = [] by rw [← hnm]; rfl)
 simp only [hnk] at HST HLN HTF
 obtain ⟨fin, hfin⟩ : ∃ f, lssL (l.map Pf.q) s = f := ⟨_, rfl⟩
 rw [hfin] at HTF ⊢
 clear ha hq hnm hnk hfin
 go_enter Tryz.func72, Tryz.ntmps72
 go_wp2_with fail
 go_loopw [5, 6] (fun v i wr => ∃ (k : Nat) (ls : List Pf), k ≤ n ∧ i = .int .i64 k ∧ Md w wr v (.slice none 0 0) ls [] ∧ ls.map Pf.q = nm k) (fun _ i _ => n - (intOf i).toNat)
 case atStart => exact ⟨0, [], Nat.zero_le _, rfl, Md.nil _, by rw [HN0.out]; rfl⟩
 case round =>
  obtain ⟨k, ls, hk, rfl, hmd, hls⟩ := hrel
  have HMD := Lib.hid hmd
  have HG := Lib.hid hmd.g
  have HLS := Lib.hid hls
  clear hmd hls
  by_cases hkn : k < n
  ·have HS := Lib.hid (HST.out k hkn)
   have HLL := Lib.hid (show ls.length ≤ 1000 by have := HLN.out k hk; rw [← HLS.out, List.length_map] at this; exact this)
   obtain ⟨b, o, rfl, -, hyi, hym, hyc⟩ := (HA.out.below HG.out).at hkn
   have hyn := HQ.out _ hym
   obtain ⟨y, hy⟩ : ∃ y, l.getD k p0 = y := ⟨_, rfl⟩
   rw [hy] at hyi hyc HS hyn
   have hwr2 : wrap64 ((k : Int) + 1) = (k : Int) + 1 := wrap_in (by omega)
   obtain ⟨e0, e1, e2, e3, e4, e5, e6, e7, e8⟩ := hyc _ (Below.refl _ _)
   by_cases hs : y.q.src = s
   ·have hsb : (y.q.src != s) = false := by simpa using hs
    have HS2 := Lib.hid (show nm (k + 1) = nm k by rw [HS.out, if_pos hs, List.append_nil])
    clear hyi hym hyc hy hs
    go_wp2_with fail
    go_roundw
    case rel => exact ⟨k + 1, ls, by omega, rfl, HMD.out, by rw [HS2.out]; exact HLS.out⟩
    case measure => simp only [intOf]; omega
   ·have hsb : (y.q.src != s) = true := by simpa using hs
    have HS2 := Lib.hid (show nm (k + 1) = nm k ++ [y.q] by rw [HS.out, if_neg hs])
    have TC := Lib.hid (refCopied_any y wr hyi hyn)
    clear hyi hym hyc hy hs hyn
    go_upto_region 6 with fail
    go_wp2_with (first
     | (go_at_call 117; (with_reducible refine (TC.out).mono ?_); rintro e W1 ⟨⟨A2, c2, rfl, ho2⟩, hg2⟩; have HO2 := Lib.hid ho2; have HG2 := Lib.hid hg2; clear ho2 hg2 e0 e1 e2 e3 e4 e5 e6 e7 e8; have GX := Lib.hid (one_more W1 (.cells #[.int .i64 y.q.src, .int .i64 y.q.kind, .slice A2 y.n c2, .int .i64 y.q.oth, .int .i64 y.q.par, .int .i64 y.q.day, .int .i64 y.q.thr, .int .i64 y.q.kno, .int .i64 y.q.unt] 56)); have IX := Lib.hid (one_pf (x := ⟨y.q, A2, y.n, c2⟩) (Blk.new W1 56 #[.int .i64 y.q.src, .int .i64 y.q.kind, .slice A2 y.n c2, .int .i64 y.q.oth, .int .i64 y.q.par, .int .i64 y.q.day, .int .i64 y.q.thr, .int .i64 y.q.kno, .int .i64 y.q.unt])); have HMX := Lib.hid ((HMD.out.ext HG2.out).ext GX.out))
     | (at_builtin; go_loud ((refine wpList_app kdQ (by rfl) _ _ (by rfl) w.heap.size _ ls (by rfl) HMX.out.o1 _ 1 1 [⟨y.q, A2, y.n, c2⟩] (by rfl) IX.out (by have := HLL.out; omega) HMX.out.g.size ?_); intro v' w' ho hgr hz; have HM2 := Lib.hid (HMD.out.push HG2.out HO2.out GX.out ho hgr hz); clear ho hgr hz)))
    go_roundw
    case rel => exact ⟨k + 1, _, by omega, by go_num, HM2.out, by rw [List.map_append, HLS.out, HS2.out]; rfl⟩
    case measure => simp [intOf]; omega
  ·obtain rfl : k = n := by omega
   go_wp2_with fail
   go_ret
   exact ⟨_, ls, rfl, HMD.out, by rw [HLS.out, HTF.out]⟩
set_option maxRecDepth 100000 in
set_option maxHeartbeats 8000000 in
theorem refWithout_any (A : Option Addr) (n c : Nat) (l : List Pf) (s : Int) (w : World) (ha : Prf w A n l) (hn : n ≤ 9223372036854775807) :
  Calls Tryz.prog 59 #[.slice A n c, .int .i64 s] w (PrfEnd (lssL (l.map Pf.q) s) (woE (l.map Pf.q) s) w) := by
 have TC := refCheck_any A n c l w ha hn
 have HOK := Lib.hid (fun (h : okL (l.map Pf.q) = true) => (show n ≤ 1000 ∧ ∀ p ∈ l, p.n ≤ 1000000 by
  have h1 := okL_len h
  rw [List.length_map, ha.len] at h1
  exact ⟨by omega, fun p hp => by
   have h2 := isQf_per (okL_all h _ (List.mem_map.2 ⟨p, hp, rfl⟩))
   have h3 := (ha.p p hp).len
   omega⟩))
 have TA := Lib.hid (fun (h : n ≤ 1000) W (g : Below w.heap.size w W) => at_any A n c l s W (ha.below g) h)
 have TL := Lib.hid (fun (h : n ≤ 1000) (h2 : ∀ p ∈ l, p.n ≤ 1000000) W (g : Below w.heap.size w W) => refLess_any A n c l s W (ha.below g) h h2)
 have HWE := Lib.hid (show woE (l.map Pf.q) s = if okL (l.map Pf.q) = true then (if s ∈ srcL (l.map Pf.q) then 0 else 3) else 21 from rfl)
 have HAT := Lib.hid (show atN (l.map Pf.q) s < 0 ↔ s ∉ srcL (l.map Pf.q) from atN_neg)
 obtain ⟨ok, hok⟩ : ∃ b, okL (l.map Pf.q) = b := ⟨_, rfl⟩
 rw [hok] at TC HOK HWE
 obtain ⟨ix, hix⟩ : ∃ b, atN (l.map Pf.q) s = b := ⟨_, rfl⟩
 rw [hix] at TA HAT
 obtain ⟨we, hwe⟩ : ∃ b, woE (l.map Pf.q) s = b := ⟨_, rfl⟩
 rw [hwe] at HWE ⊢
 have HLL := Lib.hid (show (lssL (l.map Pf.q) s).length ≤ n by have := (lss_sub (l.map Pf.q) s).length_le; rw [List.length_map, ha.len] at this; exact this)
 obtain ⟨lq, hlq⟩ : ∃ b, lssL (l.map Pf.q) s = b := ⟨_, rfl⟩
 rw [hlq] at TL HLL ⊢
 clear ha hok hix hwe hlq
 cases ok with
 | false =>
  rw [show err false 21 = 21 from rfl] at TC
  have C := Lib.hid TC
  obtain rfl : we = 21 := by rw [HWE.out, if_neg (by decide)]
  clear TC
  go_enter Tryz.func59, Tryz.ntmps59
  go_wp2_with (go_at_call 65; (with_reducible refine (C.out).mono ?_); rintro e V ⟨rfl, hg⟩; have GV := Lib.hid hg; clear hg)
  go_ret2
  exact prfEnd_no (by decide) GV.out
 | true =>
  rw [show err true 21 = 0 from rfl] at TC
  have C := Lib.hid TC
  obtain ⟨hn1, hp1⟩ := HOK.out rfl
  have HP1 := Lib.hid hp1
  have HWE2 := Lib.hid (show we = if s ∈ srcL (l.map Pf.q) then 0 else 3 by rw [HWE.out, if_pos rfl])
  clear TC hp1
  by_cases hs : s ∈ srcL (l.map Pf.q)
  ·obtain rfl : we = 0 := by rw [HWE2.out, if_pos hs]
   have hd : decide (ix < 0) = false := decide_eq_false (fun h => HAT.out.1 h hs)
   have hd2 : ¬ ix < 0 := fun h => HAT.out.1 h hs
   clear hs
   go_enter Tryz.func59, Tryz.ntmps59
   go_wp2_with (first
    | (go_at_call 65; (with_reducible refine (C.out).mono ?_); rintro e V ⟨rfl, hg⟩; have GV := Lib.hid hg; clear hg)
    | (go_at_call 78; (with_reducible refine (TA.out hn1 _ GV.out).mono ?_); rintro e V2 ⟨rfl, hg⟩; have GV2 := Lib.hid (GV.out.trans (hg.mono GV.out.size)); clear hg)
    | (go_at_call 72; (with_reducible refine (TL.out hn1 HP1.out _ GV2.out).mono ?_); rintro e V3 ⟨v, ls, rfl, hmd, hls⟩; have HM := Lib.hid hmd; have HL := Lib.hid hls; clear hmd hls))
   go_ret2
   obtain ⟨A3, c3, rfl, -, -, hp3⟩ := HM.out.prf
   exact ⟨A3, _, c3, ls, rfl, hp3, by rw [if_pos rfl]; exact HL.out, by have h1 := HLL.out; rw [← HL.out, List.length_map] at h1; omega, GV2.out.trans (HM.out.g.mono GV2.out.size)⟩
  ·obtain rfl : we = 3 := by rw [HWE2.out, if_neg hs]
   have hd : decide (ix < 0) = true := decide_eq_true (HAT.out.2 hs)
   have hd2 : ix < 0 := HAT.out.2 hs
   clear hs
   go_enter Tryz.func59, Tryz.ntmps59
   go_wp2_with (first
    | (go_at_call 65; (with_reducible refine (C.out).mono ?_); rintro e V ⟨rfl, hg⟩; have GV := Lib.hid hg; clear hg)
    | (go_at_call 78; (with_reducible refine (TA.out hn1 _ GV.out).mono ?_); rintro e V2 ⟨rfl, hg⟩; have GV2 := Lib.hid (GV.out.trans (hg.mono GV.out.size)); clear hg))
   go_ret2
   exact prfEnd_no (by decide) GV2.out
end Go.Proofs.YtehhlgdkhecacaaGreat

namespace Go.Proofs.YtehhlgdkhecacaaGreat
open Go.RowKit Go.Shelf
theorem setL_len (l : List Int) : (setL l).length ≤ l.length := by
 have := putF_len l []
 rw [List.length_nil, Nat.zero_add] at this
 exact this
end Go.Proofs.YtehhlgdkhecacaaGreat
