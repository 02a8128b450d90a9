/- Part of the proof: BN, BO, BP, BQ, BR, BS. -/
import Derived.Laws.OwnMore
import Derived.Test.YtehhlgdkhecacaaGreatYA3
namespace Go.Proofs.YtehhlgdkhecacaaGreat
open Go.RowKit Go.Shelf
attribute [local go_sem] Oper.semAt_some
/-- The blocks of Pb lie as they lay. -/
structure Ag (Pb : Nat → Prop) (w0 W : World) : Prop where
 size : w0.heap.size ≤ W.heap.size
 same : ∀ k, Pb k → W.heap[k]? = w0.heap[k]?
theorem Ag.refl (Pb : Nat → Prop) (w0 : World) : Ag Pb w0 w0 := ⟨Nat.le_refl _, fun _ _ => rfl⟩
theorem Ag.below {Pb : Nat → Prop} {w0 W W' : World} (h : Ag Pb w0 W) (hl : ∀ k, Pb k → k < w0.heap.size) (g : Below W.heap.size W W') : Ag Pb w0 W' :=
 ⟨Nat.le_trans h.size g.size, fun k hk => (g.block k (Nat.lt_of_lt_of_le (hl k hk) h.size)).trans (h.same k hk)⟩
theorem Arr.ag {α : Type} {f : α → List Value} {size : Nat} {Pb : Nat → Prop} {w0 W : World} {A : Option Addr} {n : Nat} {xs : List α} (h : Arr f size w0 A n xs) (hA : ∀ b o, A = some ⟨b, o, none⟩ → 0 < n → Pb b) (g : Ag Pb w0 W) : Arr f size W A n xs :=
 ⟨h.1, fun hn => by
  obtain ⟨b, o, rfl, hb, hh⟩ := h.2 hn
  have hp := hA b o rfl hn
  exact ⟨b, o, rfl, Nat.lt_of_lt_of_le hb g.size, fun k x hx j u hu => (World.cell?_of_block (a := ⟨b, o + k * size + j, none⟩) (g.same b hp)).trans (hh k x hx j u hu)⟩⟩
/-- The iterator's memory: its three boxes, the row of the reading so far (b). -/
structure SJ (Pb : Nat → Prop) (w0 : World) (D bq bR bY bS l : Nat) (A : Option Addr) (n c : Nat) (F : Nat → Prop) (W : World) (v : Value) (b : List Int) : Prop where
 data : Ag Pb w0 W
 lt : ∀ k, Pb k → k < w0.heap.size
 q : Blk W bq 22 #[.slice A n c]
 r : Blk W bR 25 #[v]
 y : Blk W bY 149 #[.func (.yield l) #[] #[]]
 s : Blk W bS 33 #[stepF bR bq bY bS]
 o : OwnL icells 1 3 W D v b
 fq : ¬ F bq
 fR : ¬ F bR
 fY : ¬ F bY
 fS : ¬ F bS
 fo : ∀ k, v.ownBlock = some k → ¬ F k
 lo : ∀ k, F k → ¬ Pb k
 up : ∀ k, F k → k < W.heap.size
section
variable {Pb : Nat → Prop} {w0 : World} {D bq bR bY bS l : Nat} {A : Option Addr} {n c : Nat} {F F' : Nat → Prop} {W W' : World} {v : Value} {b : List Int}
theorem SJ.below (h : SJ Pb w0 D bq bR bY bS l A n c F W v b) (g : Below W.heap.size W W') : SJ Pb w0 D bq bR bY bS l A n c F W' v b :=
 ⟨h.data.below h.lt g, h.lt, h.q.ext g, h.r.ext g, h.y.ext g, h.s.ext g, h.o.ext g, h.fq, h.fR, h.fY, h.fS, h.fo, h.lo, fun k hk => Nat.lt_of_lt_of_le (h.up k hk) g.size⟩
theorem SJ.round (h : SJ Pb w0 D bq bR bY bS l A n c F W v b) (g : Ro F F' W W') : SJ Pb w0 D bq bR bY bS l A n c F' W' v b := by
 have nf : ∀ k, k < W.heap.size → ¬ F k → ¬ F' k := fun k hk hf e => by
  rcases g.foot k e with e | e
  ·exact hf e
  ·omega
 have ho : W.grownBy W' none → True := fun _ => trivial
 refine ⟨⟨Nat.le_trans h.data.size g.size, fun k hk => (g.keep k (Nat.lt_of_lt_of_le (h.lt k hk) h.data.size) (fun e => h.lo k e hk)).trans (h.data.same k hk)⟩, h.lt,
  (g.keep _ h.q.lt h.fq).trans h.q, (g.keep _ h.r.lt h.fR).trans h.r, (g.keep _ h.y.lt h.fY).trans h.y, (g.keep _ h.s.lt h.fS).trans h.s, ?_, nf _ h.q.lt h.fq, nf _ h.r.lt h.fR, nf _ h.y.lt h.fY, nf _ h.s.lt h.fS, fun k hk => ?_, fun k hk => ?_, fun k hk => ?_⟩
 ·obtain ⟨h1, h2 | ⟨g', cap, cur, hv, hb, hg, h4⟩⟩ := h.o
  ·exact ⟨h1, .inl h2⟩
  ·refine ⟨h1, .inr ⟨g', cap, cur, hv, hb, ?_, h4⟩⟩
   have hlt : g' < W.heap.size := (Array.getElem?_eq_some_iff.1 hg).1
   exact (g.keep g' hlt (h.fo g' (by rw [hv]; rfl))).trans hg
 ·obtain ⟨-, cur, hb⟩ := own_block h.o hk
  exact nf k hb.lt (h.fo k hk)
 ·rcases g.foot k hk with e | e
  ·exact h.lo k e
  ·intro hp
   have h1 := h.lt k hp
   have h2 := h.data.size
   omega
 ·rcases g.foot k hk with e | e
  ·exact Nat.lt_of_lt_of_le (h.up k e) g.size
  ·exact e.2
/-- Blocks are apart. -/
theorem SJ.ne (h : SJ Pb w0 D bq bR bY bS l A n c F W v b) : bq ≠ bR ∧ bY ≠ bR ∧ bS ≠ bR ∧ ∀ k, v.ownBlock = some k → k ≠ bq ∧ k ≠ bR ∧ k ≠ bY ∧ k ≠ bS := by
 refine ⟨fun e => ?_, fun e => ?_, fun e => ?_, fun k hk => ?_⟩
 ·exact absurd (blk_type (e ▸ h.q) h.r) (by decide)
 ·exact absurd (blk_type (e ▸ h.y) h.r) (by decide)
 ·exact absurd (blk_type (e ▸ h.s) h.r) (by decide)
 ·obtain ⟨-, cur, hb⟩ := own_block h.o hk
  refine ⟨fun e => ?_, fun e => ?_, fun e => ?_, fun e => ?_⟩
  ·exact absurd (blk_type (e ▸ hb) h.q) (by decide)
  ·exact absurd (blk_type (e ▸ hb) h.r) (by decide)
  ·exact absurd (blk_type (e ▸ hb) h.y) (by decide)
  ·exact absurd (blk_type (e ▸ hb) h.s) (by decide)
/-- A new value in the reading's box. -/
theorem SJ.store (h : SJ Pb w0 D bq bR bY bS l A n c F W v b) (hR : w0.heap.size ≤ bR) {V : World} {v2 : Value} {b2 : List Int} (hg : W.grownBy V v.ownBlock) (hD : w0.heap.size ≤ D) (ho : OwnL icells 1 3 V D v2 b2) (hz : v2.ownBlock = none ∨ v2.ownBlock = v.ownBlock ∨ ∃ k, v2.ownBlock = some k ∧ W.heap.size ≤ k) : SJ Pb w0 D bq bR bY bS l A n c F (V.setCell ⟨bR, 0, none⟩ v2) v2 b2 := by
 obtain ⟨n1, n2, n3, n4⟩ := h.ne
 have keep : ∀ {g : Nat} {t : TypeId} {cs : Array Value}, Blk W g t cs → (∀ k, v.ownBlock = some k → k ≠ g) → Blk V g t cs := fun {g t cs} hb hne => (hg.block g hb.lt (fun e => hne g e.symm rfl)).trans hb
 have vq := keep h.q (fun k hk => (n4 k hk).1)
 have vr := keep h.r (fun k hk => (n4 k hk).2.1)
 have vy := keep h.y (fun k hk => (n4 k hk).2.2.1)
 have vs := keep h.s (fun k hk => (n4 k hk).2.2.2)
 have vd : Ag Pb w0 V := ⟨Nat.le_trans h.data.size hg.size, fun k hk => (hg.block k (Nat.lt_of_lt_of_le (h.lt k hk) h.data.size) (fun e => by
  have h1 := (own_block h.o e.symm).1
  have h2 := h.lt k hk
  omega)).trans (h.data.same k hk)⟩
 refine ⟨⟨by simpa [World.setCell] using vd.size, fun k hk => (Below.heap_setCell _ _ _ _ (by have := h.lt k hk; show k ≠ bR; omega)).trans (vd.same k hk)⟩, h.lt, vq.far n1 v2, ?_, vy.far n2 v2, vs.far n3 v2, ?_, h.fq, h.fR, h.fY, h.fS, fun k hk hf => ?_, h.lo, fun k hk => ?_⟩
 ·have := vr.set_ 0 v2
  exact this
 ·obtain ⟨h1, h2 | ⟨g', cap, cur, hv, hb, hg', h4⟩⟩ := ho
  ·exact ⟨h1, .inl h2⟩
  ·refine ⟨h1, .inr ⟨g', cap, cur, hv, hb, ?_, h4⟩⟩
   exact Blk.far (p := ⟨bR, 0, none⟩) (show Blk V g' 3 cur from hg') (fun e => absurd (blk_type (show Blk V g' 3 cur from hg') (show Blk V g' 25 #[v] from (show g' = bR from e) ▸ vr)) (by decide)) v2
 ·rcases hz with e | e | ⟨k', e, hk'⟩
  ·rw [e] at hk; cases hk
  ·exact h.fo k (e ▸ hk) hf
  ·rw [e] at hk
   cases hk
   have := h.up k hf
   omega
 ·have := h.up k hk
  have := hg.size
  simp [World.setCell]
  omega
end
/-- What the closure comes to. -/
def StepJ (Pb : Nat → Prop) (w0 : World) (D bq bR bY bS l : Nat) (A : Option Addr) (n c : Nat) (J Jx : (Nat → Prop) → List Rd → World → Prop) (pre : List Rd) (ms : List (List Int)) (b : List Int) (e : Ending) (W' : World) : Prop :=
 ∃ F' v' rb, SJ Pb w0 D bq bR bY bS l A n c F' W' v' b ∧ e = .returned (.bool rb) ∧ (rb = true → ∃ xs, xs.map Rd.r = ms ∧ J F' (pre ++ xs) W') ∧ (rb = false → ∃ xs, (∃ post, xs.map Rd.r ++ post = ms) ∧ Jx F' (pre ++ xs) W')
set_option maxRecDepth 100000 in
set_option maxHeartbeats 8000000 in
theorem stepJ_leaf (Pb : Nat → Prop) (w0 : World) (A : Option Addr) (n c : Nat) (lp : List Pf) (D bq bR bY bS l : Nat)
  (J Jx : (Nat → Prop) → List Rd → World → Prop)
  (hY : ∀ m F pre x A, J F pre A → GwR (lp.map Pf.q) pre x A → YieldAt Fence.wide m Tryz.prog l (encR x) A fun e B => ∃ F', Ro F F' A B ∧ ((e = .returned (.bool true) ∧ J F' (pre ++ [x]) B) ∨ (e = .returned (.bool false) ∧ Jx F' (pre ++ [x]) B)))
  (b : List Int) (pre : List Rd) (F : Nat → Prop) (v : Value) (W : World) (m : Nat) (hb : b.length = n) (hs : SJ Pb w0 D bq bR bY bS l A n c F W v b) (hj : J F pre W) (hp : ∃ post, pre.map Rd.r ++ [b] ++ post = reads (lp.map Pf.q)) :
  CallsIn Fence.wide m Tryz.prog 137 #[ptr bR, ptr bq, ptr bY, ptr bS] W (StepJ Pb w0 D bq bR bY bS l A n c J Jx pre [b] b) := by
 obtain ⟨Av, cv, rfl, hle, hcm, harr, hob⟩ := OwnL.arr kdI hs.o
 obtain ⟨post, hpost⟩ := hp
 obtain ⟨fn, tmps, assign, body, hy, hR⟩ := hY (m - 1) F pre ⟨Av, b.length, cv, b⟩ W hj ⟨harr, hle, hcm, post, by rw [← hpost, List.append_assoc]; rfl⟩
 have HS := Lib.hid hs
 have c0 := hs.r.cell 0
 have c1 := hs.q.cell 0
 have c2 := hs.y.cell 0
 have HB := Lib.hid hb
 obtain ⟨bl, hbl⟩ : ∃ k, b.length = k := ⟨_, rfl⟩
 rw [hbl] at hb c0 hy hR
 unfold encR at hy
 dsimp only at hy
 subst hb
 clear hs hj hpost hle hcm harr hob hY
 refine callsIn_of_wp Tryz.func137 rfl trivial ?_ rfl
 simp only [Tryz.ntmps137, List.size_toArray, List.length_cons, List.length_nil, Nat.reduceAdd, Nat.reduceSub, Array.replicate_succ, Array.replicate_zero, List.push_toArray, List.append_toArray, List.nil_append, List.cons_append]
 gi_wp2
 refine ⟨fun h => (by simp [Fence.wide] at h), hR.mono ?_⟩
 rintro e B ⟨F', hro, ⟨rfl, hj2⟩ | ⟨rfl, hj2⟩⟩
 ·have HRO := Lib.hid hro
  clear hR hy hro c0 c1 c2
  gi_wp2
  go_ret
  exact ⟨F', _, true, HS.out.round HRO.out, rfl, fun _ => ⟨_, rfl, hj2⟩, fun h => absurd h (by decide)⟩
 ·have HRO := Lib.hid hro
  clear hR hy hro c0 c1 c2
  gi_wp2
  go_ret
  exact ⟨F', _, false, HS.out.round HRO.out, rfl, fun h => absurd h (by decide), fun _ => ⟨_, ⟨[], rfl⟩, hj2⟩⟩
set_option maxRecDepth 100000 in
set_option maxHeartbeats 16000000 in
theorem stepJ_any (Pb : Nat → Prop) (w0 : World) (A : Option Addr) (n c : Nat) (lp : List Pf) (hpr : ∀ W, Ag Pb w0 W → Prf W A n lp) (hn : n ≤ 1000) (D bq bR bY bS l : Nat) (hD : w0.heap.size ≤ D) (hR0 : w0.heap.size ≤ bR) (hRD : D ≤ bR)
  (J Jx : (Nat → Prop) → List Rd → World → Prop) (hJ : Abide D J) (hJx : Abide D Jx)
  (hY : ∀ m F pre x A, J F pre A → GwR (lp.map Pf.q) pre x A → YieldAt Fence.wide m Tryz.prog l (encR x) A fun e B => ∃ F', Ro F F' A B ∧ ((e = .returned (.bool true) ∧ J F' (pre ++ [x]) B) ∨ (e = .returned (.bool false) ∧ Jx F' (pre ++ [x]) B))) :
  ∀ (k : Nat) (b : List Int) (pre : List Rd) (F : Nat → Prop) (v : Value) (W : World) (m : Nat), b.length + k = n → SJ Pb w0 D bq bR bY bS l A n c F W v b → J F pre W → (∃ post, pre.map Rd.r ++ moreK (lp.map Pf.q) k b ++ post = reads (lp.map Pf.q)) →
  CallsIn Fence.wide m Tryz.prog 137 #[ptr bR, ptr bq, ptr bY, ptr bS] W (StepJ Pb w0 D bq bR bY bS l A n c J Jx pre (moreK (lp.map Pf.q) k b) b)
 | 0, b, pre, F, v, W, m, hb, hs, hj, hp => stepJ_leaf Pb w0 A n c lp D bq bR bY bS l J Jx hY b pre F v W m (by omega) hs hj hp
 | k + 1, b, pre, F, v, W, m, hb, hs, hj, hp => by
  have IH := fun (y : Int) (pre' : List Rd) (F' : Nat → Prop) (v' : Value) (W' : World) (m' : Nat) (h1 : SJ Pb w0 D bq bR bY bS l A n c F' W' v' (b ++ [y])) (h2 : J F' pre' W') (h3 : ∃ post, pre'.map Rd.r ++ moreK (lp.map Pf.q) k (b ++ [y]) ++ post = reads (lp.map Pf.q)) =>
   stepJ_any Pb w0 A n c lp hpr hn D bq bR bY bS l hD hR0 hRD J Jx hJ hJx hY k (b ++ [y]) pre' F' v' W' m' (by simp; omega) h1 h2 h3
  have hLen := (hpr _ hs.data).len
  have hbn : b.length < n := by omega
  obtain ⟨Av, cv, rfl, hle, hcm, harr, hob⟩ := OwnL.arr kdI hs.o
  obtain ⟨post, hpost⟩ := hp
  have hPRW := hpr _ hs.data
  obtain ⟨pb0, po0, rfl, -, hpi, hpm, hpc⟩ := hPRW.at hbn
  obtain ⟨p, hpp⟩ : ∃ p, lp.getD b.length p0 = p := ⟨_, rfl⟩
  rw [hpp] at hpi hpm hpc
  have hpq : ((lp.map Pf.q).getD b.length q0) = p.q := by rw [map_pf (by rw [hLen]; exact hbn), hpp]
  obtain ⟨e0, e1, e2, e3, e4, e5, e6, e7, e8⟩ := hpc _ (Below.refl _ _)
  obtain ⟨pA, hpA⟩ : ∃ a, p.A = a := ⟨_, rfl⟩
  rw [hpA] at e2
  have HPI := Lib.hid ((hpr _ hs.data).p p hpm)
  have HPA := Lib.hid (show ∀ W', Ag Pb w0 W' → Ints W' pA p.n p.q.per by intro W' gW; rw [← hpA]; exact ((hpr W' gW).p p hpm).i)
  have hmk : moreK (lp.map Pf.q) (k + 1) b = (p.q.per.filter fun n => fitB (lp.map Pf.q) b n).flatMap fun n => moreK (lp.map Pf.q) k (b ++ [n]) := by
   show ((((lp.map Pf.q).getD b.length q0).per).filter _).flatMap _ = _
   rw [hpq]
  rw [hmk] at hpost ⊢
  have hplen := HPI.out.len
  have hpm2 := HPI.out.m
  have HS := Lib.hid hs
  have HJ0 := Lib.hid hj
  have HPOST := Lib.hid hpost
  have HIH := Lib.hid IH
  have HJA := Lib.hid hJ
  have HJXA := Lib.hid hJx
  have HPR := Lib.hid hpr
  have HPL := Lib.hid hplen
  have c0 := hs.r.cell 0
  have c1 := hs.q.cell 0
  have hbl : (b.length : Int) < (n : Int) := by omega
  have hbne : ((b.length : Int) == (n : Int)) = false := by simp; omega
  obtain ⟨bl, hbl2⟩ : ∃ k, b.length = k := ⟨_, rfl⟩
  have HBL := Lib.hid hbl2
  rw [hbl2] at c0 hbl hbne e0 e1 e2 e3 e4 e5 e6 e7 e8 hbn
  clear hs hj hpost hle hcm harr hob hY hJ hJx IH hpi hpm hpc hpp hpq hmk hpA hplen hbl2 hpr hPRW hb
  refine callsIn_of_wp Tryz.func137 rfl trivial ?_ rfl
  simp only [Tryz.ntmps137, List.size_toArray, List.length_cons, List.length_nil, Nat.reduceAdd, Nat.reduceSub, Array.replicate_succ, Array.replicate_zero, List.push_toArray, List.append_toArray, List.nil_append, List.cons_append]
  gi_wp2
  gi_loopw [23] (fun i wr => ∃ (j : Nat) (F' : Nat → Prop) (v' : Value) (xs : List Rd), i = .int .i64 j ∧ j ≤ p.n ∧ SJ Pb w0 D bq bR bY bS l (some ⟨pb0, po0, none⟩) n c F' wr v' b ∧ J F' (pre ++ xs) wr ∧ xs.map Rd.r = ((p.q.per.take j).filter fun n => fitB (lp.map Pf.q) b n).flatMap fun n => moreK (lp.map Pf.q) k (b ++ [n])) (fun i _ => p.n - (intOf i).toNat)
  case atStart => exact ⟨0, F, _, [], rfl, Nat.zero_le _, HS.out, by simpa using HJ0.out, by simp⟩
  case round =>
   obtain ⟨j, F', v', xs, rfl, hj, hs, hjj, hxs⟩ := hrel
   have HSR := Lib.hid hs
   have HJJ := Lib.hid hjj
   have HXS := Lib.hid hxs
   clear hxs hjj
   by_cases hjn : j < p.n
   ·have hwr2 : wrap64 ((j : Int) + 1) = (j : Int) + 1 := wrap_in (by omega)
    obtain ⟨b2, o2, rfl, -, -, hc2⟩ := ints_at (HPA.out _ hs.data) hjn
    have d0 := hc2 _ (Below.refl _ _)
    obtain ⟨y, hy⟩ : ∃ y, p.q.per.getD j 0 = y := ⟨_, rfl⟩
    rw [hy] at d0
    have HFT := Lib.hid (flatR_take (c := lp.map Pf.q) (k := k) (b := b) (per := p.q.per) (j := j) (by rw [HPL.out]; exact hjn))
    have HFS := Lib.hid (flatR_split (c := lp.map Pf.q) (k := k) (b := b) (per := p.q.per) (j := j) (by rw [HPL.out]; exact hjn))
    rw [hy] at HFT HFS
    obtain ⟨Av', cv', rfl, hle', hcm', harr', hob'⟩ := OwnL.arr kdI hs.o
    have c0 := hs.r.cell 0
    have c1 := hs.q.cell 0
    rw [HBL.out] at c0
    have TF := fits_any (some ⟨pb0, po0, none⟩) n c lp Av' bl cv' b y wr (HPR.out _ hs.data) hn (by rw [HBL.out] at harr'; exact harr') hbn
    obtain ⟨fv, hfv⟩ : ∃ s, fitB (lp.map Pf.q) b y = s := ⟨_, rfl⟩
    rw [hfv] at TF HFT HFS
    have HTF := Lib.hid TF
    clear hs hc2 hy TF hle' hcm' harr' hob' hfv e0 e1 e2 e3 e4 e5 e6 e7 e8
    have HN4 := Lib.hid (show (b ++ [y]).length = bl + 1 by rw [List.length_append, HBL.out]; rfl)
    have hw4 : wrap64 (((bl + 1 : Nat) : Int) - 1) = (bl : Int) := by rw [wrap_in (by omega)]; omega
    cases fv with
    | false =>
     gi_wp2_with (refine ⟨trivial, fun h => (by simp [Fence.wide] at h), ?_⟩; gi_at_call 127; refine (callsIn_wide.2 HTF.out).mono ?_; rintro e V ⟨rfl, hg⟩; have HG := Lib.hid hg; have HSV := Lib.hid (HSR.out.below hg); have HJV := Lib.hid (HJA.out _ _ _ _ HJJ.out (It.of_below hg)); clear hg c0 c1 d0)
     go_roundw
     case rel => exact ⟨j + 1, F', _, xs, by go_num, by omega, HSR.out.below HG.out, HJA.out _ _ _ _ HJJ.out (It.of_below HG.out), by rw [HXS.out, HFT.out, if_neg (by decide), List.append_nil]⟩
     case measure => simp [intOf]; omega
    | true =>
     have HPP := Lib.hid (show ∃ post, (pre ++ xs).map Rd.r ++ moreK (lp.map Pf.q) k (b ++ [y]) ++ post = reads (lp.map Pf.q) from ⟨_, by
      rw [List.map_append, HXS.out, ← HPOST.out, HFS.out, if_pos rfl]
      simp only [List.append_assoc]
      rfl⟩)
     gi_wp2_with (first
      | (refine ⟨trivial, fun h => (by simp [Fence.wide] at h), ?_⟩; gi_at_call 127; refine (callsIn_wide.2 HTF.out).mono ?_; rintro e V ⟨rfl, hg⟩; have HG := Lib.hid hg; have HSV := Lib.hid (HSR.out.below hg); have HJV := Lib.hid (HJA.out _ _ _ _ HJJ.out (It.of_below hg)); clear hg c0 c1 d0; have c0 := HSV.out.r.cell 0; have g1 := one_more V (.cells #[.int .i64 y] 3); have HSX := Lib.hid (HSV.out.below g1); have HJX := Lib.hid (HJA.out _ _ _ _ HJV.out (It.of_below g1)); have HI1 := Lib.hid (one_int (Blk.new V 3 #[.int .i64 y])); have HBL2 := Lib.hid (show b.length + 1 ≤ 1000000 by have := HBL.out; omega); have HDV := Lib.hid (show D ≤ (V.alloc (.cells #[.int .i64 y] 3)).heap.size by have := HSX.out.r.lt; omega); rw [HBL.out] at c0; clear g1)
      | (gi_at_builtin; go_loud (refine wpListIn_app kdI (by rfl) _ _ (by rfl) D _ b (by rfl) (by rw [← HBL.out]; exact HSX.out.o) _ 1 1 [y] (by rfl) HI1.out HBL2.out HDV.out ?_); intro v2 V2 ho2 hg2 hz2; obtain ⟨A2, k2, hv2, -, -, -, -⟩ := OwnL.arr kdI ho2; obtain ⟨n2, hn2⟩ : ∃ q, (b ++ [y]).length = q := ⟨_, rfl⟩; rw [hn2] at hv2; subst hv2; have HS3 := Lib.hid (HSX.out.store hR0 (by rw [HBL.out]; exact hg2) hD ho2 (by rw [HBL.out]; rcases hz2 with e | e; exact .inr (.inl e); exact .inr (.inr ⟨_, e, Nat.le_refl _⟩))); have HJ3 := Lib.hid (HJA.out _ _ _ _ HJX.out ((It.of_grown hg2 (fun r e => ⟨(own_block HSX.out.o (by rw [HBL.out]; exact e)).1, HSX.out.fo r (by rw [HBL.out]; exact e)⟩)).trans (It.setCell (p := ⟨bR, 0, none⟩) hRD HSX.out.fR (.slice A2 n2 k2)))); have b9 : Blk V2 bR 25 _ := (hg2.block bR HSX.out.r.lt (fun e => (HSX.out.ne.2.2.2 bR (by rw [HBL.out]; exact e.symm)).2.1 rfl)).trans HSX.out.r; have m0 := b9.cell 0; have m1 := b9.frozen 0; have m2 := HS3.out.s.cell 0; clear ho2 hg2 hz2 hn2 b9 c0)
      | (refine ⟨trivial, fun h => (by simp [Fence.wide] at h), ?_⟩; gi_at_call 137; refine (HIH.out y (pre ++ xs) F' _ _ _ HS3.out HJ3.out HPP.out).mono ?_; rintro e V4 ⟨F2, v3, rb, hs4, rfl, ht, hf⟩; have HS4 := Lib.hid hs4; have HRT := Lib.hid ht; have HRF := Lib.hid hf; obtain ⟨g3, k3, hv3, hk3⟩ := own_some hs4.o (by simp); subst hv3; have c0 := HS4.out.r.cell 0; have c1 := HS4.out.r.frozen 0; rw [HN4.out] at c0; have hkk : (bl : Int) ≤ (k3 : Int) := (by have h1 := hk3; rw [HN4.out] at h1; omega); clear hs4 ht hf hk3 m0 m1 m2))
     all_goals
      have HO5 := OwnL.front icells_len HS4.out.o (i := bl) (by rw [HN4.out]; omega)
      rw [show (b ++ [y]).take bl = b by rw [← HBL.out, List.take_left']; rfl] at HO5
      have HS5 := Lib.hid (HS4.out.store hR0 (World.grownBy.refl V4 _) hD HO5 (.inr (.inl rfl)))
      have HI5 := Lib.hid (It.setCell (D := D) (F := F2) (A := V4) (p := ⟨bR, 0, none⟩) hRD HS4.out.fR (.slice (some ⟨g3, 0, none⟩) bl k3))
      clear HO5
     ·have hrb : rb = false := by
       cases rb with
       | false => rfl
       | true => exfalso; simp at *
      obtain ⟨xs2, ⟨post2, hx2⟩, hj2⟩ := HRF.out hrb
      have HX2 := Lib.hid hx2
      have HJ5 := Lib.hid (HJXA.out _ _ _ _ hj2 HI5.out)
      clear hx2 hj2
      go_ret
      refine ⟨F2, _, false, HS5.out, rfl, fun h => absurd h (by decide), fun _ => ⟨xs ++ xs2, ⟨post2 ++ ((p.q.per.drop (j + 1)).filter fun n => fitB (lp.map Pf.q) b n).flatMap (fun n => moreK (lp.map Pf.q) k (b ++ [n])), ?_⟩, by rw [← List.append_assoc]; exact HJ5.out⟩⟩
      rw [List.map_append, HXS.out, HFS.out, if_pos trivial, ← HX2.out]
      simp only [List.append_assoc]
     ·have hrb : rb = true := by
       cases rb with
       | true => rfl
       | false => exfalso; simp at *
      obtain ⟨xs2, hx2, hj2⟩ := HRT.out hrb
      have HX2 := Lib.hid hx2
      have HJ5 := Lib.hid (HJA.out _ _ _ _ hj2 HI5.out)
      clear hx2 hj2
      go_roundw
      case rel => exact ⟨j + 1, F2, _, xs ++ xs2, by go_num, by omega, HS5.out, by rw [← List.append_assoc]; exact HJ5.out, by rw [List.map_append, HXS.out, HX2.out, HFT.out, if_pos trivial]⟩
      case measure => simp [intOf]; omega
   ·obtain rfl : j = p.n := by omega
    have HT := Lib.hid (show p.q.per.take p.n = p.q.per from List.take_of_length_le (by rw [HPL.out]; exact Nat.le_refl _))
    clear hs e0 e1 e2 e3 e4 e5 e6 e7 e8
    gi_wp2
    go_ret
    exact ⟨F', _, true, HSR.out, rfl, fun _ => ⟨xs, by rw [HXS.out, HT.out], HJJ.out⟩, fun h => absurd h (by decide)⟩
set_option maxRecDepth 100000 in
set_option maxHeartbeats 8000000 in
theorem readingsJ_seq (Pb : Nat → Prop) (w0 : World) (hlt : ∀ k, Pb k → k < w0.heap.size) (A : Option Addr) (n c : Nat) (lp : List Pf) (hpr : ∀ W, Ag Pb w0 W → Prf W A n lp) (hn : n ≤ 1000) (bq : Nat) (w : World) (hb : Below w0.heap.size w0 w) (hq : Blk w bq 22 #[.slice A n c]) :
  SeqW 136 #[ptr bq] encR (GwR (lp.map Pf.q)) (fun k => ¬ Pb k ∧ k ≠ bq) (fun xs => xs.map Rd.r = reads (lp.map Pf.q)) (fun pre => ∃ post, pre.map Rd.r ++ post = reads (lp.map Pf.q)) w := by
 intro m l J Jx W hW hJ hJx hY F0 hF0 hj0
 obtain ⟨W3, hW3⟩ : ∃ X, ((W.alloc (.cells #[.func (.yield l) #[] #[]] 149)).alloc (.cells #[.slice none 0 0] 25)).alloc (.cells #[stepF (W.heap.size + 1) bq W.heap.size (W.heap.size + 1 + 1)] 33) = X := ⟨_, rfl⟩
 have g3 : Below W.heap.size W W3 := by rw [← hW3]; exact three_more _ _ _ _
 have bY : Blk W3 W.heap.size 149 #[.func (.yield l) #[] #[]] := by rw [← hW3]; exact ((Blk.new _ _ _).alloc _).alloc _
 have bR : Blk W3 (W.heap.size + 1) 25 #[.slice none 0 0] := by
  rw [← hW3]; have := Blk.new (W.alloc (.cells #[.func (.yield l) #[] #[]] 149)) 25 #[.slice none 0 0]; rw [World.size_alloc] at this; exact this.alloc _
 have bS : Blk W3 (W.heap.size + 1 + 1) 33 #[stepF (W.heap.size + 1) bq W.heap.size (W.heap.size + 1 + 1)] := by
  rw [← hW3]; have := Blk.new ((W.alloc (.cells #[.func (.yield l) #[] #[]] 149)).alloc (.cells #[.slice none 0 0] 25)) 33 #[stepF (W.heap.size + 1) bq W.heap.size (W.heap.size + 1 + 1)]; rw [World.size_alloc, World.size_alloc] at this; exact this
 have hq' := hq.ext hW
 have hql := hq'.lt
 have hsi : SJ Pb w0 W.heap.size bq (W.heap.size + 1) W.heap.size (W.heap.size + 1 + 1) l A n c F0 W3 (.slice none 0 0) [] := by
  have hw0 : w0.heap.size ≤ W.heap.size := Nat.le_trans hb.size hW.size
  have h2 := g3.size
  have hbb := (hb.trans (hW.mono hb.size)).trans (g3.mono hw0)
  exact ⟨⟨hbb.size, fun k hk => hbb.block k (hlt k hk)⟩, hlt, hq'.ext g3, bR, bY, bS, OwnL.nil _ _, fun h => (hF0 _ h).2.2 rfl, fun h => by have := (hF0 _ h).1; omega, fun h => by have := (hF0 _ h).1; omega, fun h => by have := (hF0 _ h).1; omega, fun k hk => (by cases hk), fun k hk => (hF0 k hk).2.1, fun k hk => by have h1 := (hF0 k hk).1; omega⟩
 have hj3 : J F0 [] W3 := hJ _ _ _ _ hj0 (It.of_below g3)
 have T := stepJ_any Pb w0 A n c lp hpr hn W.heap.size bq (W.heap.size + 1) W.heap.size (W.heap.size + 1 + 1) l (Nat.le_trans hb.size hW.size) (by have := hb.size; have := hW.size; omega) (by omega) J Jx hJ hJx (fun m' F pre x X h1 h2 => yieldAt_wide (hY F pre x X h1 h2)) n [] [] F0 _ _ (m - 1) (by simp) hsi hj3 ⟨[], by
  have : (lp.map Pf.q).length = n := by rw [List.length_map]; exact (hpr _ (Ag.refl _ _)).len
  unfold reads
  rw [this]; simp⟩
 have HML := Lib.hid (show moreK (lp.map Pf.q) n [] = reads (lp.map Pf.q) by
  unfold reads
  rw [List.length_map, (hpr _ (Ag.refl _ _)).len])
 rw [HML.out] at T
 have HT := Lib.hid T
 have m3 := hsi.s.cell 0
 have HW3 := Lib.hid hW3
 clear hW3 g3 bY bR bS hq' hql hsi hj3 T hpr hq hb hW hJ hJx hY hF0 hj0 HML
 refine callsIn_of_wp Tryz.func136 rfl trivial ?_ rfl
 simp only [Tryz.ntmps136, List.size_toArray, List.length_cons, List.length_nil, Nat.reduceAdd, Nat.reduceSub, Array.replicate_succ, Array.replicate_zero, List.push_toArray, List.append_toArray, List.nil_append, List.cons_append]
 gi_wp2
 refine ⟨trivial, fun h => (by simp [Fence.wide] at h), ?_⟩
 rw [HW3.out]
 refine (HT.out).mono ?_
 rintro e V ⟨F, v, rb, -, rfl, ht, hf⟩
 have HF := Lib.hid hf
 have HTT := Lib.hid ht
 clear ht hf m3
 gi_wp2
 go_end0
 refine ⟨⟨_, rfl⟩, F, ?_⟩
 cases rb with
 | true => 
  obtain ⟨xs, h1, h2⟩ := HTT.out rfl
  exact .inl ⟨xs, h1, h2⟩
 | false =>
  obtain ⟨xs, h1, h2⟩ := HF.out rfl
  exact .inr ⟨xs, h1, h2⟩
end Go.Proofs.YtehhlgdkhecacaaGreat

namespace Go.Proofs.YtehhlgdkhecacaaGreat
open Go.RowKit Go.Shelf
attribute [local go_sem] Oper.semAt_some
/-- Is a person settled in the parish by a reading, or is he not, as is asked? -/
def shB (c : List Qf) (person parish day : Int) (iv : Bool) (r : List Int) : Bool := (setS c r person day == parish) == iv
/-- The reading that Show finds; its error. -/
def shL (c : List Qf) (person parish day : Int) (iv : Bool) : List Int := ((reads c).find? (shB c person parish day iv)).getD []
def shE (l : List Qf) (person parish day known : Int) (iv : Bool) : Int :=
 if readE l person parish [day, known] known = 0 then (if ((reads (cntL l known)).find? (shB (cntL l known) person parish day iv)).isSome = true then 0 else 3) else readE l person parish [day, known] known
theorem Ag.it {Pb : Nat → Prop} {w0 A B : World} {D : Nat} {F : Nat → Prop} (h : Ag Pb w0 A) (hl : ∀ k, Pb k → k < w0.heap.size) (hD : w0.heap.size ≤ D) (hi : It D F A B) : Ag Pb w0 B :=
 ⟨Nat.le_trans h.size hi.size, fun k hk => (hi.low k (Nat.lt_of_lt_of_le (hl k hk) h.size) (Nat.lt_of_lt_of_le (hl k hk) hD)).trans (h.same k hk)⟩
theorem Ag.set {Pb : Nat → Prop} {w0 W : World} (h : Ag Pb w0 W) {p : Addr} (hp : ¬ Pb p.block) (u : Value) : Ag Pb w0 (W.setCell p u) :=
 ⟨by simpa [World.setCell] using h.size, fun k hk => (Below.heap_setCell _ _ _ _ (fun e => hp (e ▸ hk))).trans (h.same k hk)⟩
theorem Ag.blk {Pb : Nat → Prop} {w0 W : World} (h : Ag Pb w0 W) {g : Nat} {t : TypeId} {cs : Array Value} (hb : Blk w0 g t cs) (hg : Pb g) : Blk W g t cs := (h.same g hg).trans hb
/-- What a round that says 'no more' leaves. -/
def ShStop (f : List Int → Bool) (B r1 r2 : Nat) (F : Nat → Prop) (pre : List Rd) (W : World) : Prop :=
 F r1 ∧ F r2 ∧ Blk W r2 26 #[.int .i64 0] ∧ ∃ x pre0 D m d, pre = pre0 ++ [x] ∧ (∀ y ∈ pre0, f y.r = false) ∧ f x.r = true ∧ Blk W r1 25 #[.slice D m d] ∧ OwnL icells 1 3 W B (.slice D m d) x.r ∧ ∀ k, Value.ownBlock (.slice D m d) = some k → F k
theorem ShStop.it {f : List Int → Bool} {B r1 r2 D0 : Nat} {F : Nat → Prop} {pre : List Rd} {X Y : World} (h : ShStop f B r1 r2 F pre X) (hi : It D0 F X Y) : ShStop f B r1 r2 F pre Y := by
 obtain ⟨h1, h2, h3, x, pre0, D, m, d, h4, h5, h6, h7, h8, h9⟩ := h
 exact ⟨h1, h2, hi.blk h3 (.inr h2), x, pre0, D, m, d, h4, h5, h6, hi.blk h7 (.inr h1), own_it h8 hi h9, h9⟩
theorem find_first {c : List Qf} {f : List Int → Bool} {pre0 : List Rd} {x : Rd} {post : List (List Int)} (h : (pre0 ++ [x]).map Rd.r ++ post = reads c) (h0 : ∀ y ∈ pre0, f y.r = false) (hx : f x.r = true) : (reads c).find? f = some x.r := by
 rw [← h, List.map_append, List.append_assoc, List.find?_append]
 have e : (pre0.map Rd.r).find? f = none := List.find?_eq_none.2 fun r hr => by
  obtain ⟨y, hy, rfl⟩ := List.mem_map.1 hr
  rw [h0 y hy]; decide
 rw [e]
 simp [hx]
theorem find_none {c : List Qf} {f : List Int → Bool} {xs : List Rd} (h : xs.map Rd.r = reads c) (h0 : ∀ y ∈ xs, f y.r = false) : (reads c).find? f = none := by
 rw [← h]
 refine List.find?_eq_none.2 fun r hr => ?_
 obtain ⟨y, hy, rfl⟩ := List.mem_map.1 hr
 rw [h0 y hy]; decide
set_option maxRecDepth 100000 in
set_option maxHeartbeats 8000000 in
theorem show_any (A : Option Addr) (n c : Nat) (l : List Pf) (person parish day known : Int) (iv : Bool) (w : World) (ha : Prf w A n l) (hn : n ≤ 9223372036854775807) :
  Calls Tryz.prog 30 #[.slice A n c, .int .i64 person, .int .i64 parish, .int .i64 day, .int .i64 known, .bool iv] w (ListEnd (shL (cntL (l.map Pf.q) known) person parish day iv) (shE (l.map Pf.q) person parish day known iv) w) := by
 obtain ⟨W1, hW1⟩ : ∃ X, (((((w.alloc (.cells #[.int .i64 person] 3)).alloc (.cells #[.int .i64 parish] 3)).alloc (.cells #[.int .i64 day] 3)).alloc (.cells #[.bool iv] 4)).alloc (.cells #[.slice none 0 0] 25)).alloc (.cells #[.int .i64 0] 26) = X := ⟨_, rfl⟩
 have g1 : Below w.heap.size w W1 := by
  rw [← hW1]
  exact ((three_more _ _ _ _).trans ((three_more _ _ _ _).mono (by simp; omega)))
 have bp : Blk W1 w.heap.size 3 #[.int .i64 person] := by rw [← hW1]; exact (((((Blk.new _ _ _).alloc _).alloc _).alloc _).alloc _).alloc _
 have bq' : Blk W1 (w.heap.size + 1) 3 #[.int .i64 parish] := by rw [← hW1]; exact ((((blk_second2 _ _ _ _).alloc _).alloc _).alloc _).alloc _
 have bd : Blk W1 (w.heap.size + 1 + 1) 3 #[.int .i64 day] := by
  rw [← hW1]; have := Blk.new ((w.alloc (.cells #[.int .i64 person] 3)).alloc (.cells #[.int .i64 parish] 3)) 3 #[.int .i64 day]; rw [World.size_alloc, World.size_alloc] at this; exact ((this.alloc _).alloc _).alloc _
 have bi : Blk W1 (w.heap.size + 1 + 1 + 1) 4 #[.bool iv] := by
  rw [← hW1]; have := Blk.new (((w.alloc (.cells #[.int .i64 person] 3)).alloc (.cells #[.int .i64 parish] 3)).alloc (.cells #[.int .i64 day] 3)) 4 #[.bool iv]; rw [World.size_alloc, World.size_alloc, World.size_alloc] at this; exact (this.alloc _).alloc _
 have br : Blk W1 (w.heap.size + 1 + 1 + 1 + 1) 25 #[.slice none 0 0] := by
  rw [← hW1]; have := Blk.new ((((w.alloc (.cells #[.int .i64 person] 3)).alloc (.cells #[.int .i64 parish] 3)).alloc (.cells #[.int .i64 day] 3)).alloc (.cells #[.bool iv] 4)) 25 #[.slice none 0 0]; rw [World.size_alloc, World.size_alloc, World.size_alloc, World.size_alloc] at this; exact this.alloc _
 have be : Blk W1 (w.heap.size + 1 + 1 + 1 + 1 + 1) 26 #[.int .i64 0] := by
  rw [← hW1]; have := Blk.new (((((w.alloc (.cells #[.int .i64 person] 3)).alloc (.cells #[.int .i64 parish] 3)).alloc (.cells #[.int .i64 day] 3)).alloc (.cells #[.bool iv] 4)).alloc (.cells #[.slice none 0 0] 25)) 26 #[.int .i64 0]; rw [World.size_alloc, World.size_alloc, World.size_alloc, World.size_alloc, World.size_alloc] at this; exact this
 have s1 : W1.heap.size = w.heap.size + 1 + 1 + 1 + 1 + 1 + 1 := by rw [← hW1]; simp
 obtain ⟨W2, hW2⟩ : ∃ X, W1.alloc (.cells #[.int .i64 day, .int .i64 known] 3) = X := ⟨_, rfl⟩
 have g2 : Below W1.heap.size W1 W2 := by rw [← hW2]; exact one_more _ _
 have b2 : Blk W2 W1.heap.size 3 #[.int .i64 day, .int .i64 known] := by rw [← hW2]; exact Blk.new _ _ _
 have T := askRead_any person parish (some ⟨W1.heap.size, 0, none⟩) 2 2 [day, known] known A n c l W2 (ha.below (extTrans g1 g2)) hn (two_ints b2) (by decide) (by decide) rfl
 rw [s1] at T
 have HFM := Lib.hid (show (l.filter fun p => cnt p.q known).map Pf.q = cntL (l.map Pf.q) known from filt_map l (fun q => cnt q known))
 have HOK := Lib.hid (fun (h : readE (l.map Pf.q) person parish [day, known] known = 0) => (askE_ok (readE_ask h)))
 have HSE := Lib.hid (show shE (l.map Pf.q) person parish day known iv = if readE (l.map Pf.q) person parish [day, known] known = 0 then (if ((reads (cntL (l.map Pf.q) known)).find? (shB (cntL (l.map Pf.q) known) person parish day iv)).isSome = true then 0 else 3) else readE (l.map Pf.q) person parish [day, known] known from rfl)
 have HSL := Lib.hid (show shL (cntL (l.map Pf.q) known) person parish day iv = ((reads (cntL (l.map Pf.q) known)).find? (shB (cntL (l.map Pf.q) known) person parish day iv)).getD [] from rfl)
 have HPI := Lib.hid (fun p (hp : p ∈ l.filter fun p => cnt p.q known) => ha.p p (List.mem_filter.1 hp).1)
 obtain ⟨re, hre⟩ : ∃ s, readE (l.map Pf.q) person parish [day, known] known = s := ⟨_, rfl⟩
 rw [hre] at HOK T HSE
 obtain ⟨se, hse⟩ : ∃ s, shE (l.map Pf.q) person parish day known iv = s := ⟨_, rfl⟩
 obtain ⟨sl, hsl⟩ : ∃ s, shL (cntL (l.map Pf.q) known) person parish day iv = s := ⟨_, rfl⟩
 rw [hse] at HSE ⊢
 rw [hsl] at HSL ⊢
 have G1 := Lib.hid g1
 have G2 := Lib.hid (extTrans g1 g2)
 have G12 := Lib.hid g2
 have BP := Lib.hid bp
 have BQ := Lib.hid bq'
 have BD := Lib.hid bd
 have BI := Lib.hid bi
 have BR := Lib.hid br
 have BE := Lib.hid be
 have p0 := bp.cell 0
 have q0' := bq'.cell 0
 have d0 := bd.cell 0
 have HW1 := Lib.hid hW1
 have HW2 := Lib.hid hW2
 have S1 := Lib.hid s1
 have HT := Lib.hid T
 clear ha hre hse hsl g1 g2 bp bq' bd bi br be b2 s1 hW1 hW2 T
 by_cases hz : re = 0
 ·subst hz
  refine (callsIn_wide (n := 4)).1 (callsIn_of_wp_marks Tryz.func30 rfl trivial ?_ rfl)
  simp only [Tryz.ntmps30, List.size_toArray, List.length_cons, List.length_nil, Nat.reduceAdd, Nat.reduceSub, Array.replicate_succ, Array.replicate_zero, List.push_toArray, List.append_toArray, List.nil_append, List.cons_append]
  gi_wp2_with fail
  rw [HW1.out]
  gi_wp2_with fail
  rw [HW2.out]
  refine ⟨trivial, (callsIn_wide.2 HT.out).mono ?_⟩
  rintro e V ⟨D, k, d, rfl, ho, -, hg⟩
  have HO := Lib.hid (ho rfl)
  have GV := Lib.hid (show Below W1.heap.size W1 V from G12.out.trans (hg.mono G12.out.size))
  obtain ⟨hok, hper, -, hdays⟩ := HOK.out (by trivial)
  have HCN := Lib.hid (cn_of hok HO.out.1 HO.out.2.1)
  have HP64 := Lib.hid (And.intro (in64_person hper) (in64_day (hdays day (by simp))))
  obtain ⟨V2, hV2⟩ : ∃ X, V.alloc (.cells #[.slice D k d] 22) = X := ⟨_, rfl⟩
  have gv2 : Below V.heap.size V V2 := by rw [← hV2]; exact one_more _ _
  have bt : Blk V2 V.heap.size 22 #[.slice D k d] := by rw [← hV2]; exact Blk.new _ _ _
  have sv2 : V2.heap.size = V.heap.size + 1 := by rw [← hV2]; simp
  obtain ⟨V3, hV3⟩ : ∃ X, V2.alloc (.cells #[.slice D k d] 22) = X := ⟨_, rfl⟩
  have gv3 : Below V2.heap.size V2 V3 := by rw [← hV3]; exact one_more _ _
  have bq3 : Blk V3 V2.heap.size 22 #[.slice D k d] := by rw [← hV3]; exact Blk.new _ _ _
  have sv3 : V3.heap.size = V2.heap.size + 1 := by rw [← hV3]; simp
  have GW := Lib.hid (show Below W1.heap.size W1 V2 from GV.out.trans (gv2.mono GV.out.size))
  have HSZ := Lib.hid (show W1.heap.size ≤ V.heap.size from GV.out.size)
  have HPR := Lib.hid (show ∀ W, Ag (fun k => k < V2.heap.size ∧ k ≠ w.heap.size + 1 + 1 + 1 + 1 ∧ k ≠ w.heap.size + 1 + 1 + 1 + 1 + 1) V2 W → Prf W D k (l.filter fun p => cnt p.q known) from fun W gW => by
   have h1 := S1.out
   have h2 := HSZ.out
   have h3 := sv2
   refine ⟨(HO.out.1.below gv2).a.ag (fun b o e _ => ?_) gW, fun p hp => ?_⟩
   ·have h4 := HO.out.2.2.2.2 b o e
    have h5 := G12.out.size
    have h6 : b < V2.heap.size ∨ ¬ b < V2.heap.size := Classical.em _
    rcases h6 with h6 | h6
    ·exact ⟨h6, by omega, by omega⟩
    ·exfalso
     obtain ⟨b', o', e', hb', -⟩ := (HO.out.1.below gv2).a.2 (by omega)
     rw [e] at e'
     cases e'
     exact h6 hb'
   ·have hpi := HPI.out p hp
    have hpV := (hpi.below G1.out).below GW.out
    refine ⟨hpV.i.ag (fun b o e hn0 => ?_) gW, hpV.m⟩
    obtain ⟨b', o', e', hb', -⟩ := hpi.i.2 hn0
    rw [e] at e'
    cases e'
    exact ⟨by omega, by omega, by omega⟩)
  have HLT := Lib.hid (show ∀ k, (fun k => k < V2.heap.size ∧ k ≠ w.heap.size + 1 + 1 + 1 + 1 ∧ k ≠ w.heap.size + 1 + 1 + 1 + 1 + 1) k → k < V2.heap.size from fun k h => h.1)
  have HSQ := Lib.hid (readingsJ_seq (fun k => k < V2.heap.size ∧ k ≠ w.heap.size + 1 + 1 + 1 + 1 ∧ k ≠ w.heap.size + 1 + 1 + 1 + 1 + 1) V2 HLT.out D k d (l.filter fun p => cnt p.q known) HPR.out (by have := HO.out.2.1; omega) V2.heap.size V3 gv3 bq3)
  rw [HFM.out] at HSQ
  have GV2 := Lib.hid gv2
  have GV3 := Lib.hid gv3
  have BT := Lib.hid bt
  have SV2 := Lib.hid sv2
  have SV3 := Lib.hid sv3
  have HV2 := Lib.hid hV2
  have HV3 := Lib.hid hV3
  have HFQ := Lib.hid (show ((l.filter fun p => cnt p.q known).map Pf.q) = cntL (l.map Pf.q) known from HFM.out)
  obtain ⟨cq, hcq⟩ : ∃ q, cntL (l.map Pf.q) known = q := ⟨_, rfl⟩
  rw [hcq] at HSQ HSL HSE HFQ
  obtain ⟨sf, hsf⟩ : ∃ f, shB cq person parish day iv = f := ⟨_, rfl⟩
  rw [hsf] at HSL HSE
  have HSF := Lib.hid hsf
  have HSE2 := Lib.hid (show se = if ((reads cq).find? sf).isSome = true then 0 else 3 by have := HSE.out; rwa [if_pos (by trivial)] at this)
  clear hg ho hok hper hdays hV2 gv2 bt sv2 hV3 gv3 bq3 sv3 hcq hsf p0 q0' d0
  gi_wp2_with fail
  rw [HV2.out]
  refine ⟨trivial, (callsIn_wide.2 (readings_any _ _ _ _)).mono ?_⟩
  rintro e w' ⟨rfl, hw'⟩
  rw [HV3.out] at hw'
  subst hw'
  gi_wp2_with fail
  have HRS := Lib.hid (And.intro S1.out (And.intro HSZ.out (And.intro SV2.out SV3.out)))
  have HBR3 := Lib.hid (show Blk V3 (w.heap.size + 1 + 1 + 1 + 1) 25 #[.slice none 0 0] from (BR.out.ext GW.out).ext GV3.out)
  have HBE3 := Lib.hid (show Blk V3 (w.heap.size + 1 + 1 + 1 + 1 + 1) 26 #[.int .i64 0] from (BE.out.ext GW.out).ext GV3.out)
  have HGW3 := Lib.hid (show Below w.heap.size w V3 from (G1.out.trans (GW.out.mono G1.out.size)).trans (GV3.out.mono (Nat.le_trans G1.out.size GW.out.size)))
  refine wp_rangeW (α := Rd) (n := 4) (by omega) (gf := 136) (lb := #[ptr V2.heap.size]) rfl (enters_of Tryz.func136 (by kernel_rfl) rfl) HSQ.out (Below.refl _ _) (fun _ => rfl)
   (fun F pre W => F (w.heap.size + 1 + 1 + 1 + 1) ∧ F (w.heap.size + 1 + 1 + 1 + 1 + 1) ∧ Ag (fun k => k < V2.heap.size ∧ k ≠ w.heap.size + 1 + 1 + 1 + 1 ∧ k ≠ w.heap.size + 1 + 1 + 1 + 1 + 1) V2 W ∧ Blk W (w.heap.size + 1 + 1 + 1 + 1) 25 #[.slice none 0 0] ∧ Blk W (w.heap.size + 1 + 1 + 1 + 1 + 1) 26 #[.int .i64 0] ∧ Below w.heap.size w W ∧ ∀ y ∈ pre, sf y.r = false)
   (fun cd F pre W => cd = .ret ∧ Below w.heap.size w W ∧ ShStop sf w.heap.size (w.heap.size + 1 + 1 + 1 + 1) (w.heap.size + 1 + 1 + 1 + 1 + 1) F pre W) ?hI ?hIx
   (fun pre x l o A hl h hr => gwR_put o h hr) (fun j hj => by obtain ⟨h1, h2, h3, h4⟩ := HRS.out; exact ⟨fun h => by have := h.1; omega, by omega⟩) (fun j => j = w.heap.size + 1 + 1 + 1 + 1 ∨ j = w.heap.size + 1 + 1 + 1 + 1 + 1) (fun j hj => by obtain ⟨h1, h2, h3, h4⟩ := HRS.out; exact ⟨by omega, fun h => by have := h.2; omega, by omega⟩)
   ⟨.inl rfl, .inr rfl, ⟨GV3.out.size, fun j hj => GV3.out.block j hj.1⟩, HBR3.out, HBE3.out, HGW3.out, fun y hy => absurd hy (by simp)⟩
   (fun x a' => a' = { tmps := #[.slice A n c, .int .i64 person, .int .i64 parish, .int .i64 day, .int .i64 known, .bool iv, undef, ptr w.heap.size, ptr (w.heap.size + 1), ptr (w.heap.size + 1 + 1), undef, ptr (w.heap.size + 1 + 1 + 1), ptr (w.heap.size + 1 + 1 + 1 + 1), ptr (w.heap.size + 1 + 1 + 1 + 1 + 1), ptr V.heap.size, .int .i64 0, .slice x.A x.n x.c, .tuple #[.slice D k d, .int .i64 0], .int .i64 person, .int .i64 parish, .int .i64 day, .int .i64 known, .slice (some ⟨w.heap.size + 1 + 1 + 1 + 1 + 1 + 1, 0, none⟩) 2 2, .agg #[.int .i64 person, .int .i64 parish, .slice (some ⟨w.heap.size + 1 + 1 + 1 + 1 + 1 + 1, 0, none⟩) 2 2], .slice A n c, .tuple #[.slice D k d, .int .i64 0], .slice D k d, .int .i64 0, .int .i64 0, .bool false, undef, .slice D k d, .func (.func 136) #[] #[ptr V2.heap.size], .slice x.A x.n x.c, undef, undef, undef, undef, undef, undef, undef, undef, undef, undef, undef], defers := [] }) ?assign ?body ?done ?stop
  case hI =>
   rintro F t X Y ⟨h1, h2, h3, h4, h5, h6, h7⟩ hi
   exact ⟨h1, h2, h3.it HLT.out (by have := SV3.out; omega) hi, hi.blk h4 (.inr h1), hi.blk h5 (.inr h2), hi.below h6 (by obtain ⟨h1, h2, h3, h4⟩ := HRS.out; omega) (Nat.le_refl _), h7⟩
  case hIx =>
   rintro cd F t X Y ⟨h1, h2, h3⟩ hi
   exact ⟨h1, hi.below h2 (by obtain ⟨h1, h2, h3, h4⟩ := HRS.out; omega) (Nat.le_refl _), h3.it hi⟩
  case assign =>
   rintro lr x X K hK
   unfold encR
   gi_wp2
   simp
  case body =>
   rintro lr F pre x a' X hl - ⟨h1, h2, h3, h4, h5, h6, h7⟩ ⟨hgi, hgn, hgm, post, hpo⟩ rfl
   have hxr : isRd cq x.r = true := mem_reads.1 (by rw [← hpo]; simp)
   have hxn : x.n = k := by
    have e1 := (isRd_zip.1 hxr).1
    rw [← HFQ.out, List.length_map, HCN.out.prf.len] at e1
    rw [← e1, hgi.1]
   have TS := Lib.hid (fun (z : Wd X) => settledBy_any D k d x.A x.c (l.filter fun p => cnt p.q known) x.r person day z.val ⟨(HPR.out _ (h3.below HLT.out z.ok)), by rw [← hxn]; exact hgi.below z.ok, by have := HCN.out.n; omega, HCN.out.q, HCN.out.src⟩ HP64.out.1 HP64.out.2)
   rw [HFQ.out] at TS
   obtain ⟨sv, hsv⟩ : ∃ q, setS cq x.r person day = q := ⟨_, rfl⟩
   rw [hsv] at TS
   obtain ⟨bv, hbv⟩ : ∃ q, ((sv == parish) == iv) = q := ⟨_, rfl⟩
   have HBV := Lib.hid (show sf x.r = bv by rw [← HSF.out, ← hbv, ← hsv]; rfl)
   have HPN := Lib.hid (show x.n ≤ 1000000 by have := HCN.out.n; omega)
   have TC := Lib.hid (fun (W : World) (g : Below X.heap.size X W) => cloneI_any x.A x.n x.c x.r W (hgi.below g) (by have := HPN.out; omega))
   have HB1 := Lib.hid h1
   have HB2 := Lib.hid h2
   have HAG := Lib.hid h3
   have HR1 := Lib.hid h4
   have HR2 := Lib.hid h5
   have HGX := Lib.hid h6
   have H7 := Lib.hid h7
   obtain ⟨z1, z2, z3, z4⟩ := HRS.out
   have u0 := cellW ((HAG.out.blk BT.out ⟨by omega, by omega, by omega⟩).cell 0)
   have u1 := cellW ((HAG.out.blk (BP.out.ext GW.out) ⟨by omega, by omega, by omega⟩).cell 0)
   have u2 := cellW ((HAG.out.blk (BQ.out.ext GW.out) ⟨by omega, by omega, by omega⟩).cell 0)
   have u3 := cellW ((HAG.out.blk (BD.out.ext GW.out) ⟨by omega, by omega, by omega⟩).cell 0)
   have u4 := cellW ((HAG.out.blk (BI.out.ext GW.out) ⟨by omega, by omega, by omega⟩).cell 0)
   rw [hxn] at TC ⊢
   clear h1 h2 h3 h4 h5 h6 h7 hgi hgn hgm hpo hxr hxn hsv z1 z2 z3 z4
   gi_wp2_with fail
   refine wpIn_region_quiet (Open.round lr) (C := fun w' => ∃ x : Wd X, w' = x.val) (by kernel_rfl) (by kernel_rfl) (by kernel_rfl) (Wd.of (Below.refl _ _).drew) ?_
   repeat (go_big_quiet_step (first | (go_at_call 89; exact callsCalm (TS.out _))))
   refine wpQuiet_nil ?_
   rintro _ ⟨z, rfl⟩
   clear u0 u1 u2 u3 u4
   have GZ := Lib.hid z.ok
   obtain ⟨Z, hZ⟩ : ∃ Z, z.val = Z := ⟨_, rfl⟩
   rw [hZ] at GZ ⊢
   clear hZ z
   cases bv with
   | false =>
    gi_wp2
    refine ⟨F, Ro.of_below GZ.out, HB1.out, HB2.out, HAG.out.below HLT.out GZ.out, HR1.out.ext GZ.out, HR2.out.ext GZ.out, HGX.out.trans (GZ.out.mono HGX.out.size), fun y hy => ?_⟩
    rcases List.mem_append.1 hy with hy | hy
    ·exact H7.out y hy
    ·rw [List.mem_singleton.1 hy]; exact HBV.out
   | true =>
    have HZ1 := Lib.hid (HR1.out.ext GZ.out)
    have HZ2 := Lib.hid (HR2.out.ext GZ.out)
    gi_wp2_with (refine ⟨trivial, (CallsIn.inRound lr (callsIn_wide.2 (TC.out Z GZ.out))).mono ?_⟩; rintro e V5 ⟨⟨v, rfl, ho⟩, hg⟩; obtain ⟨D5, d5, hv5, hd3, hd4, -, -⟩ := OwnL.arr kdI ho; obtain ⟨k5, hk5⟩ : ∃ q, x.r.length = q := ⟨_, rfl⟩; rw [hk5] at hv5; subst hv5; have HO5 := Lib.hid ho; have HG5 := Lib.hid hg; have r0 := (HZ1.out.ext hg).cell 0; have r1 := (HZ1.out.ext hg).frozen 0; have s0 := ((HZ2.out.ext hg).far (p := ⟨w.heap.size + 1 + 1 + 1 + 1, 0, none⟩) (by show w.heap.size + 1 + 1 + 1 + 1 + 1 ≠ w.heap.size + 1 + 1 + 1 + 1; omega) (.slice D5 k5 d5)).cell 0; have s1 := ((HZ2.out.ext hg).far (p := ⟨w.heap.size + 1 + 1 + 1 + 1, 0, none⟩) (by show w.heap.size + 1 + 1 + 1 + 1 + 1 ≠ w.heap.size + 1 + 1 + 1 + 1; omega) (.slice D5 k5 d5)).frozen 0; clear ho hg hd3 hd4 hk5)
    have HOB := Lib.hid (fun (j : Nat) (e : Value.ownBlock (.slice D5 k5 d5) = some j) => (⟨(own_block HO5.out e).1, by obtain ⟨-, cur, hb⟩ := own_block HO5.out e; exact hb.lt⟩ : Z.heap.size ≤ j ∧ j < V5.heap.size))
    have hx1 := HZ1.out.lt
    have hx2 := HZ2.out.lt
    have hgs := GZ.out.size
    refine ⟨fun j => F j ∨ Value.ownBlock (.slice D5 k5 d5) = some j, ro_more (((Ro.of_below (GZ.out.trans (HG5.out.mono GZ.out.size))).trans (Ro.setCell (p := ⟨w.heap.size + 1 + 1 + 1 + 1, 0, none⟩) HB1.out _)).trans (Ro.setCell (p := ⟨w.heap.size + 1 + 1 + 1 + 1 + 1, 0, none⟩) HB2.out _)) (fun j hj => ?_), rfl, ?_, .inl HB1.out, .inl HB2.out, ?_, x, pre, D5, k5, d5, rfl, H7.out, HBV.out, ?_, ?_, fun j hj => .inr hj⟩
    ·have h1 := HOB.out j hj
     simp [World.setCell]
     omega
    ·exact (((HGX.out.trans (GZ.out.mono HGX.out.size)).trans (HG5.out.mono (Nat.le_trans HGX.out.size GZ.out.size))).setCell (p := ⟨w.heap.size + 1 + 1 + 1 + 1, 0, none⟩) (by show w.heap.size ≤ w.heap.size + 1 + 1 + 1 + 1; omega) _).setCell (p := ⟨w.heap.size + 1 + 1 + 1 + 1 + 1, 0, none⟩) (by show w.heap.size ≤ w.heap.size + 1 + 1 + 1 + 1 + 1; omega) _
    ·have := (((HZ2.out.ext HG5.out).far (p := ⟨w.heap.size + 1 + 1 + 1 + 1, 0, none⟩) (by show w.heap.size + 1 + 1 + 1 + 1 + 1 ≠ w.heap.size + 1 + 1 + 1 + 1; omega) (.slice D5 k5 d5)).set_ 0 (.int .i64 0))
     exact this
    ·have := ((HZ1.out.ext HG5.out).set_ 0 (.slice D5 k5 d5)).far (p := ⟨w.heap.size + 1 + 1 + 1 + 1 + 1, 0, none⟩) (by show w.heap.size + 1 + 1 + 1 + 1 ≠ w.heap.size + 1 + 1 + 1 + 1 + 1; omega) (.int .i64 0)
     exact this
    ·refine OwnL.mono (own_far (own_far HO5.out (fun j hj => ?_) _) (fun j hj => ?_) _) (Nat.le_trans HGX.out.size GZ.out.size)
     ·have := (HOB.out j hj).1
      show j ≠ w.heap.size + 1 + 1 + 1 + 1
      omega
     ·have := (HOB.out j hj).1
      show j ≠ w.heap.size + 1 + 1 + 1 + 1 + 1
      omega
  case done =>
   rintro E F xs X hD hS ⟨h1, h2, h3, h4, h5, h6, h7⟩ hK
   have hnone := find_none hS h7
   have e1 : se = 3 := by rw [HSE2.out, hnone]; rfl
   have e2 : sl = [] := by rw [HSL.out, hnone]; rfl
   subst e1 e2
   obtain ⟨z1, z2, z3, z4⟩ := HRS.out
   have hne1 : w.heap.size + 1 + 1 + 1 + 1 ≠ E := by omega
   have hne2 : w.heap.size + 1 + 1 + 1 + 1 + 1 ≠ E := by omega
   have c0 := h4.cell 0
   have c1 := h4.frozen 0
   have B2' := h5.far (p := ⟨w.heap.size + 1 + 1 + 1 + 1, 0, none⟩) (by show w.heap.size + 1 + 1 + 1 + 1 + 1 ≠ w.heap.size + 1 + 1 + 1 + 1; omega) (.slice none 0 0)
   have c2 := B2'.cell 0
   have c3 := B2'.frozen 0
   have t0 := (((h4.set_ 0 (.slice none 0 0)).far (p := ⟨w.heap.size + 1 + 1 + 1 + 1 + 1, 0, none⟩) (by show w.heap.size + 1 + 1 + 1 + 1 ≠ w.heap.size + 1 + 1 + 1 + 1 + 1; omega) (.int .i64 3)).putObj hne1 (.deferred none)).cell 0
   have t1 := ((B2'.set_ 0 (.int .i64 3)).putObj hne2 (.deferred none)).cell 0
   have HK := Lib.hid (show ((X.setCell ⟨w.heap.size + 1 + 1 + 1 + 1, 0, none⟩ (.slice none 0 0)).setCell ⟨w.heap.size + 1 + 1 + 1 + 1 + 1, 0, none⟩ (.int .i64 3)).heap[E]? = some (.deferred (some [])) from (Below.heap_setCell _ _ _ _ (fun e => hne2 e.symm)).trans ((Below.heap_setCell _ _ _ _ (fun e => hne1 e.symm)).trans hK))
   have HG5 := Lib.hid (put_below ((h6.setCell (p := ⟨w.heap.size + 1 + 1 + 1 + 1, 0, none⟩) (by show w.heap.size ≤ w.heap.size + 1 + 1 + 1 + 1; omega) (.slice none 0 0)).setCell (p := ⟨w.heap.size + 1 + 1 + 1 + 1 + 1, 0, none⟩) (by show w.heap.size ≤ w.heap.size + 1 + 1 + 1 + 1 + 1; omega) (.int .i64 3)) (D := E) (by omega) (.deferred none))
   clear h1 h2 h3 h4 h5 h6 h7 hK hS hnone B2' z1 z2 z3 z4
   gi_wp2
   refine ⟨by simp, .inl ⟨_, _, rfl, run_takeDeferred HK.out, ?_⟩⟩
   refine ⟨.tuple #[.slice none 0 0, .int .i64 3], ?_, listEnd_no (by decide) HG5.out⟩
   simp [results, Tryz.results30, go_sem, t0, t1]
  case stop =>
   rintro E F cd pre X hD ⟨post, hS⟩ ⟨rfl, h5, h6⟩ hK
   obtain ⟨-, -, h2, x, pre0, D5, k5, d5, rfl, h3, h4, h7, h8, -⟩ := h6
   have hfind := find_first hS h3 h4
   have e1 : se = 0 := by rw [HSE2.out, hfind]; rfl
   have e2 : sl = x.r := by rw [HSL.out, hfind]; rfl
   subst e1 e2
   obtain ⟨z1, z2, z3, z4⟩ := HRS.out
   have hne1 : w.heap.size + 1 + 1 + 1 + 1 ≠ E := by omega
   have hne2 : w.heap.size + 1 + 1 + 1 + 1 + 1 ≠ E := by omega
   have t0 := (h7.putObj hne1 (.deferred none)).cell 0
   have t1 := (h2.putObj hne2 (.deferred none)).cell 0
   have hne : ∀ j, Value.ownBlock (.slice D5 k5 d5) = some j → j ≠ E := fun j hj e => by
    obtain ⟨-, cur, hb⟩ := own_block h8 hj
    rw [e] at hb
    have := (show X.heap[E]? = _ from hb).symm.trans hK
    cases this
   have HOP := Lib.hid (own_put h8 hne (.deferred none))
   have HK := Lib.hid hK
   have HG5 := Lib.hid (put_below h5 (D := E) (by omega) (.deferred none))
   clear h2 h3 h4 h5 h7 h8 hK hS hfind hne z1 z2 z3 z4
   gi_wp2
   refine ⟨by simp, .inl ⟨_, _, rfl, run_takeDeferred HK.out, ?_⟩⟩
   refine ⟨.tuple #[.slice D5 k5 d5, .int .i64 0], ?_, listEnd_ok HOP.out HG5.out⟩
   simp [results, Tryz.results30, go_sem, t0, t1]
 ·have hzb : (re != 0) = true := by simpa using hz
  have HZ := Lib.hid hz
  have e : se = re := by have := HSE.out; rwa [if_neg hz] at this
  subst e
  clear hz
  go_enter Tryz.func30, Tryz.ntmps30
  go_upto_region 1 with fail
  rw [HW1.out]
  go_upto_region 2 with (go_at_call 66; rw [HW2.out, S1.out]; (with_reducible refine (HT.out).mono ?_); rintro e V ⟨A2, n2, c2, rfl, -, ho, hg⟩; obtain ⟨rfl, rfl, rfl⟩ := ho HZ.out; have GV := Lib.hid (show Below W1.heap.size W1 V from G12.out.trans (hg.mono G12.out.size)); clear ho hg)
  obtain ⟨V2, hV2⟩ : ∃ X, V.alloc (.cells #[.slice none 0 0] 22) = X := ⟨_, rfl⟩
  have gv2 : Below V.heap.size V V2 := by rw [← hV2]; exact one_more _ _
  have GW := Lib.hid (show Below W1.heap.size W1 V2 from GV.out.trans (gv2.mono GV.out.size))
  have B1' := BR.out.ext GW.out
  have B2' := BE.out.ext GW.out
  have c0 := B1'.cell 0
  have c1 := B1'.frozen 0
  have B3' := B2'.far (p := ⟨w.heap.size + 1 + 1 + 1 + 1, 0, none⟩) (by show w.heap.size + 1 + 1 + 1 + 1 + 1 ≠ w.heap.size + 1 + 1 + 1 + 1; omega) (.slice none 0 0)
  have c2 := B3'.cell 0
  have c3 := B3'.frozen 0
  have t0 := ((B1'.set_ 0 (.slice none 0 0)).far (p := ⟨w.heap.size + 1 + 1 + 1 + 1 + 1, 0, none⟩) (by show w.heap.size + 1 + 1 + 1 + 1 ≠ w.heap.size + 1 + 1 + 1 + 1 + 1; omega) (.int .i64 se)).cell 0
  have t1 := (B3'.set_ 0 (.int .i64 se)).cell 0
  have HG5 := Lib.hid (((G1.out.trans (GW.out.mono G1.out.size)).setCell (p := ⟨w.heap.size + 1 + 1 + 1 + 1, 0, none⟩) (by show w.heap.size ≤ w.heap.size + 1 + 1 + 1 + 1; omega) (.slice none 0 0)).setCell (p := ⟨w.heap.size + 1 + 1 + 1 + 1 + 1, 0, none⟩) (by show w.heap.size ≤ w.heap.size + 1 + 1 + 1 + 1 + 1; omega) (.int .i64 se))
  rw [hV2]
  clear hV2 gv2 B1' B2' B3'
  go_wp2_with fail
  refine bodyPost_ret (v := .tuple #[.slice none 0 0, .int .i64 se]) ?_ rfl (listEnd_no HZ.out HG5.out)
  simp [results, Tryz.results30, go_sem, t0, t1]
end Go.Proofs.YtehhlgdkhecacaaGreat

namespace Go.Proofs.YtehhlgdkhecacaaGreat
open Go.RowKit Go.Shelf
set_option maxRecDepth 100000 in
theorem eqNil22 (a : Option Addr) (n c : Nat) (w : World) : (binOp .eql 22 (.slice a n c) (.slice none 0 0)).run Tryz.prog w = .ok (.bool a.isNone) w := by
 cases a <;> rfl
set_option maxRecDepth 100000 in
set_option maxHeartbeats 1000000 in
theorem cloneP_any (A : Option Addr) (n c : Nat) (xs : List Pf) (w : World) (ha : Arr pcells 9 w A n xs) (hn : n ≤ 1000000) :
  Calls Tryz.prog 69 #[.slice A n c] w fun e w' => (∃ v, e = .returned v ∧ OwnL pcells 9 56 w' w.heap.size v xs) ∧ Below w.heap.size w w' := by
 cases A with
 | none =>
  have h0 : n = 0 := by
   rcases Nat.eq_zero_or_pos n with h | h
   ·exact h
   ·obtain ⟨b, o, e, _⟩ := ha.2 h; cases e
  subst h0
  have : xs = [] := List.eq_nil_of_length_eq_zero ha.1
  subst this
  have heq := fun w => eqNil22 none 0 c w
  clear ha
  go_enter Tryz.func69, Tryz.ntmps69
  go_wp2_with fail
  go_ret
  exact ⟨⟨_, rfl, OwnL.nil _ _⟩, Below.refl _ _⟩
 | some a =>
  have heq := fun w => eqNil22 (some a) n c w
  have HOW := Lib.hid (show OwnL pcells 9 56 (w.alloc (.cells #[] 56)) w.heap.size (.slice (some ⟨w.heap.size, 0, none⟩) 0 0) [] from World.ownsRow_made (e := 56) (size := 9) w #[] 0 (Nat.le_refl w.heap.size) (by decide) rfl)
  have HAA := Lib.hid (ha.below (one_more w (.cells #[] 56)))
  clear ha
  go_enter Tryz.func69, Tryz.ntmps69
  go_wp2_with (first | (at_builtin; go_loud (refine wpList_app kdQ (by rfl) _ _ (by rfl) w.heap.size _ [] (by rfl) HOW.out (some a) n c xs (by rfl) HAA.out (by simpa using hn) (by simp) ?_); intro v' w' ho hbw hz; have HO := Lib.hid ho; have HB := Lib.hid (HOW.out.below hbw (Nat.le_refl _) (by simp)); clear ho hbw hz))
  go_ret
  exact ⟨⟨_, rfl, by have := HO.out; rwa [List.nil_append] at this⟩, (one_more w _).trans HB.out⟩
end Go.Proofs.YtehhlgdkhecacaaGreat

namespace Go.Proofs.YtehhlgdkhecacaaGreat
open Go.RowKit Go.Shelf
abbrev zP : Value := .agg #[.int .i64 0, .int .i64 0, .slice none 0 0, .int .i64 0, .int .i64 0, .int .i64 0, .int .i64 0, .int .i64 0, .int .i64 0]
/-- An append whose run is known. -/
theorem step_runA {w w' : World} {o : Oper} {ops : Array Oper} {a : Act} {K1 : Act → World → Prop} {Q : Exit → Act → World → Prop} {E : Prop} {t : TypeId} (hgd : o.guard = none) (s x : Operand)
  (ho : o.op = .call { callee := .builtin .append, args := #[s, x], argTypes := #[t, t] }) (v u : Value) {v' : Value} (hs : a.eval s = v) (hx : a.eval x = u)
  (hrun : (Builtin.append_ #[t, t] o.type #[v, u]).run Tryz.prog w = .ok v' w') (h : K1 (a.put o.dst v') w') :
  if Region.wanted o (yielded ops a.tmps) = true then Oper.wp Tryz.prog o a w K1 Q else E := by
 have hw : Region.wanted o (yielded ops a.tmps) = true := by simp [Region.wanted, hgd]
 rw [if_pos hw]
 unfold Oper.wp execOp
 simp only [ho, resolve, invoke, builtin, Sem.run_bind, Sem.run_pure, Result.andThen_ok, List.map_toArray, List.map_cons, List.map_nil, hs, hx, hrun]
 exact h
set_option maxRecDepth 100000 in
set_option maxHeartbeats 8000000 in
theorem delP_any (base g n c i : Nat) (l : List Pf) (w : World) (h : OwnL pcells 9 56 w base (.slice (some ⟨g, 0, none⟩) n c) l) (hi : i < n) (hn : n ≤ 1000) :
  Calls Tryz.prog 68 #[.slice (some ⟨g, 0, none⟩) n c, .int .i64 i, .int .i64 ((i : Int) + 1)] w fun e w' => e = .returned (.slice (some ⟨g, 0, none⟩) (n - 1) c) ∧ OwnL pcells 9 56 w' base (.slice (some ⟨g, 0, none⟩) (n - 1) c) (l.eraseIdx i) ∧ Fix g g w w' := by
 obtain ⟨hn0, hb, cur, hg, hnc, hm, hs, -⟩ := own_inv h
 have hfr := h.front pcells_len (i := i) (by omega)
 obtain ⟨A', c', hv', -, -, har, -⟩ := OwnL.arr kdQ h
 have hA' : A' = some ⟨g, 0, none⟩ := by cases hv'; rfl
 subst hA'
 rw [← hn0] at har
 clear hv'
 obtain ⟨i0, hi0, hz0, hz1, hz2⟩ := info_parts info56
 have hnews : ∀ j u, ((l.drop (i + 1)).flatMap pcells)[j]? = some u → w.cell? ((⟨g, if c = i + 1 then 0 else 0 + (i + 1) * 9, none⟩ : Addr).add j) = some u := by
  intro j u hu
  have hjl : j < ((l.drop (i + 1)).flatMap pcells).length := (List.getElem?_eq_some_iff.1 hu).1
  rw [flat_len pcells_len, List.length_drop] at hjl
  have hne : ¬ c = i + 1 := by omega
  rw [if_neg hne, add_at]
  have hjm : i + 1 + j / 9 < n := by omega
  obtain ⟨b', o', x, e1, -, hx, hc⟩ := har.at hjm
  cases e1
  have hd := Nat.div_add_mod j 9
  rw [← hd, Nat.mul_comm, flat_get pcells_len _ _ _ (Nat.mod_lt _ (by decide)), List.getElem?_drop, hx] at hu
  have := hc w (Below.refl _ _) (j % 9) u hu
  rw [show 0 + (i + 1) * 9 + j = 0 + (i + 1 + j / 9) * 9 + j % 9 by omega]
  exact this
 have happ := fun ty => run_append_fits (P := Tryz.prog) w.drew base 22 ty 56 i0 9 kdQ.ht hi0 hz1 g i c ((l.take i).flatMap pcells) (by have := hfr; unfold OwnL at this; rwa [List.length_take, Nat.min_eq_left (by omega)] at this) ⟨g, if c = i + 1 then 0 else 0 + (i + 1) * 9, none⟩ (n - (i + 1)) (c - (i + 1)) ((l.drop (i + 1)).flatMap pcells) (by rw [flat_len pcells_len, List.length_drop]; omega) hnews
  (fun u hu => by obtain ⟨x, -, hx⟩ := List.mem_flatMap.1 hu; exact pcells_one x u hx) (by omega)
 have HAP := Lib.hid happ
 have HN0 := Lib.hid hn0
 have HCM := Lib.hid hm
 have hw1 : i + (n - (i + 1)) = n - 1 := by omega
 rw [hw1] at HAP
 have hc1 : ¬ c < n := by omega
 have HB := Lib.hid hg
 have HH := Lib.hid h
 unfold maxLen at hm
 have hne : ((i : Int) == (i : Int) + 1) = false := by simp; omega
 have hq3 : ((i : Int) + 1).toNat = i + 1 := by omega
 have hq4 : (0 : Int) ≤ (i : Int) + 1 := by omega
 clear h hfr har hi0 hz0 hz1 hz2 hnews happ hg hb hs hn0
 have b1 : (0 : Int) ≤ (i : Int) := by omega
 have b2 : (i : Int) ≤ (c : Int) := by omega
 have b3 : (i : Int) + 1 ≤ (n : Int) := by omega
 have b4 : (n : Int) ≤ (c : Int) := by omega
 have b5 : (i : Int) ≤ (n : Int) := by omega
 by_cases hcl : c = i + 1
 ·have HAPc := Lib.hid (show n = i + 1 by omega)
  have hnn := HAPc.out
  subst hcl
  subst hnn
  rw [if_pos rfl] at HAP
  have b6 : (i : Int) ≤ (i : Int) + 1 := by omega
  go_enter Tryz.func68, Tryz.ntmps68
  go_upto_region 5 with fail
  obtain ⟨w1, hrun, how, hgr⟩ := HAP.out 22
  have HOW := Lib.hid how
  have HGR := Lib.hid hgr
  clear how hgr
  go_region_held3 (fun _ => True) (trivial) (fail)
  have hel : l.eraseIdx i = l.take i := by rw [List.eraseIdx_eq_take_drop_succ, List.drop_of_length_le (by rw [← HN0.out]; exact Nat.le_refl _), List.append_nil]
  have h2 : OwnL pcells 9 56 w base (.slice (some ⟨g, 0, none⟩) i (i + 1)) (l.take i) := HH.out.front pcells_len (i := i) (by omega)
  obtain ⟨-, -, cur2, hg2, -, -, hs2, -⟩ := own_inv h2
  obtain ⟨i1, hi1, hy0, hy1, hy2⟩ := info_parts info56
  have hclr := Lib.hid (fun ty => run_clear_gen w.drew 22 56 ty zP 9 g (i * 9) 1 1 Tryz.underlying22 (fun w => by simp [zeroValue, typeInfo, hi1, hy0]) (by omega) rfl (by decide) (by intro v hv; simp [Value.cells] at hv; rcases hv with rfl | rfl | rfl <;> rfl)
   (fun j hj => by
    have e1 := hg2.cell (i * 9 + j)
    rw [Array.getElem?_eq_getElem (by rw [hs2]; omega)] at e1
    exact Option.isSome_iff_exists.2 ⟨_, e1⟩) (fun j _ => hg2.frozen _))
  have hclr2 := hclr.out
  obtain ⟨vs, hvs⟩ : ∃ vs, (Builtin.zeroCells zP.cells 1).toList = vs := ⟨_, rfl⟩
  have HVL := Lib.hid (show vs.length = 1 * 9 by rw [← hvs]; exact zeroCells_len _ _)
  rw [hvs] at hclr2
  have HEL := Lib.hid hel
  have HO2 := Lib.hid h2
  clear hvs hclr hg2 hi1 hy0 hy1 hy2 hel h2
  go_wp2_with fail
  go_ret
  refine ⟨rfl, ?_, (show Fix g g w w.drew from ⟨rfl, rfl, rfl, Nat.le_refl _, fun _ _ _ _ => rfl⟩).trans (fix_setCells _ _ _)⟩
  rw [HEL.out]
  exact OwnL.behind pcells_len (w := w.drew) HO2.out (Nat.le_refl _) (by rw [HVL.out]; omega)
 ·rw [if_neg hcl, Nat.zero_add] at HAP
  go_enter Tryz.func68, Tryz.ntmps68
  go_upto_region 5 with fail
  obtain ⟨w1, hrun, how, hgr⟩ := HAP.out 22
  have HOW := Lib.hid how
  have HGR := Lib.hid hgr
  clear how hgr
  have HRU := Lib.hid hrun
  clear hrun
  go_region_held3 (fun _ => True) (trivial) (go_loud (refine step_runA (t := 22) (by rfl) _ _ (by rfl) _ _ (by rfl) (by rfl) HRU.out ?_))
  obtain ⟨-, -, cur2, hg2, -, -, hs2, -⟩ := own_inv (show OwnL pcells 9 56 w1 base (.slice (some ⟨g, 0, none⟩) (n - 1) c) (l.eraseIdx i) by
   have h1 := HOW.out
   rw [← List.flatMap_append, ← List.eraseIdx_eq_take_drop_succ] at h1
   unfold OwnL
   rw [show (l.eraseIdx i).length = n - 1 by rw [List.length_eraseIdx_of_lt (by rw [← HN0.out]; exact hi), ← HN0.out]]
   exact h1)
  obtain ⟨i1, hi1, hy0, hy1, hy2⟩ := info_parts info56
  have hclr := Lib.hid (fun ty => run_clear_gen w1 22 56 ty zP 9 g ((n - 1) * 9) (n - (n - 1)) (c - (n - 1)) Tryz.underlying22 (fun w => by simp [zeroValue, typeInfo, hi1, hy0]) (by omega) rfl (by decide) (by intro v hv; simp [Value.cells] at hv; rcases hv with rfl | rfl | rfl <;> rfl)
   (fun j hj => by rw [hg2.cell, Array.getElem?_eq_getElem (by rw [hs2]; omega)]; rfl) (fun j _ => hg2.frozen _))
  have hclr2 := hclr.out
  obtain ⟨vs, hvs⟩ : ∃ vs, (Builtin.zeroCells zP.cells (n - (n - 1))).toList = vs := ⟨_, rfl⟩
  have HVL := Lib.hid (show vs.length = (n - (n - 1)) * 9 by rw [← hvs]; exact zeroCells_len _ _)
  rw [hvs] at hclr2
  have HG2 := Lib.hid hg2
  have hca : ¬ c = n - 1 := by omega
  have q1 : ((n - 1 : Nat) : Int) ≤ (n : Int) := by omega
  have q2 : (0 : Int) ≤ (n : Int) := by omega
  have q3 : (0 : Int) ≤ ((n - 1 : Nat) : Int) := by omega
  clear hvs hclr hg2 hi1 hy0 hy1 hy2 hcl
  go_wp2_with fail
  go_ret
  have hel : (l.eraseIdx i).length = n - 1 := by rw [List.length_eraseIdx_of_lt (by rw [← HN0.out]; exact hi), ← HN0.out]
  have h1 := HOW.out
  rw [← List.flatMap_append, ← List.eraseIdx_eq_take_drop_succ] at h1
  have h2 : OwnL pcells 9 56 w1 base (.slice (some ⟨g, 0, none⟩) (n - 1) c) (l.eraseIdx i) := by unfold OwnL; rw [hel]; exact h1
  refine ⟨rfl, h2.behind pcells_len (Nat.le_refl _) (by rw [HVL.out]; omega), (show Fix g g w w1 from ⟨HGR.out.os, HGR.out.tape, HGR.out.output, HGR.out.size, fun k hk h3 _ => HGR.out.block k hk (by intro e; cases e; exact h3 rfl)⟩).trans (fix_setCells _ _ _)⟩
end Go.Proofs.YtehhlgdkhecacaaGreat

namespace Go.Proofs.YtehhlgdkhecacaaGreat
open Go.RowKit Go.Shelf
theorem many_sub : ∀ {c l : List Qf}, c.Sublist l → (∀ q ∈ l, 1 ≤ q.per.length) → (c.map fun q => q.per.length).foldr (· * ·) 1 ≤ (l.map fun q => q.per.length).foldr (· * ·) 1
 | _, _, .slnil, _ => Nat.le_refl _
 | _, _, .cons q h, hq => by
  rw [List.map_cons, List.foldr_cons]
  exact Nat.le_trans (many_sub h fun x hx => hq x (List.mem_cons_of_mem _ hx)) (Nat.le_mul_of_pos_left _ (hq q (by simp)))
 | _, _, .cons_cons q h, hq => by
  rw [List.map_cons, List.map_cons, List.foldr_cons, List.foldr_cons]
  exact Nat.mul_le_mul_left _ (many_sub h fun x hx => hq x (List.mem_cons_of_mem _ hx))
theorem reads_len_sub {c l : List Qf} (h : okL l = true) (hs : c.Sublist l) : (reads c).length ≤ 2000 := by
 have hall := okL_all h
 have h1 : manyL l ≤ 2000 := by
  unfold okL at h
  simp only [Bool.and_eq_true, decide_eq_true_eq] at h
  exact h.1.2
 unfold manyL at h1
 rw [foldr_mul, Nat.one_mul] at h1
 have h2 := more_len (c := c) c.length [] (by simp) (fun q hq => (isQf_per (hall q (hs.subset hq))).2)
 unfold reads
 exact Nat.le_trans h2 (Nat.le_trans (many_sub hs fun q hq => (isQf_per (hall q hq)).1) h1)
theorem cn_sub {l fl : List Pf} (h : okL (l.map Pf.q) = true) (hs : fl.Sublist l) {w : World} {A : Option Addr} {n : Nat} (hp : Prf w A n fl) (hn : n ≤ 60) : Cn w A n fl :=
 ⟨hp, hn, fun p hp => okL_all h _ (List.mem_map.2 ⟨p, hs.subset hp, rfl⟩), ((hs.map Pf.q).map Qf.src).nodup ((okL_src h).imp fun hlt => by omega), reads_len_sub h (hs.map Pf.q)⟩
/-- Does the answer rest on the proof? -/
def rstB (c : List Qf) (person parish day : Int) (i : Nat) : Bool := decide (righN (wherS (c.eraseIdx i) person day) parish ≠ righN (wherS c person day) parish)
def rstP (c : List Qf) (person parish day : Int) (m : Nat) : List Int := ((List.range m).filter fun i => rstB c person parish day i).map fun i => (c.getD i q0).src
def rstS (c : List Qf) (person parish day : Int) : List Int := rstP c person parish day c.length
theorem rstP_succ (c : List Qf) (person parish day : Int) (m : Nat) : rstP c person parish day (m + 1) = rstP c person parish day m ++ (if rstB c person parish day m = true then [(c.getD m q0).src] else []) := by
 unfold rstP
 rw [List.range_succ, List.filter_append, List.map_append]
 congr 1
 by_cases h : rstB c person parish day m = true
 ·rw [if_pos h, List.filter_cons_of_pos h]; rfl
 ·rw [if_neg h, List.filter_cons_of_neg h]; rfl
theorem rstP_len (c : List Qf) (person parish day : Int) (m : Nat) : (rstP c person parish day m).length ≤ m := by
 unfold rstP
 rw [List.length_map]
 have := List.length_filter_le (fun i => rstB c person parish day i) (List.range m)
 rwa [List.length_range] at this
set_option maxRecDepth 100000 in
set_option maxHeartbeats 8000000 in
theorem rests_any (A : Option Addr) (n c : Nat) (l : List Pf) (person parish day known : Int) (w : World) (ha : Prf w A n l) (hn : n ≤ 9223372036854775807) :
  Calls Tryz.prog 15 #[.slice A n c, .int .i64 person, .int .i64 parish, .int .i64 day, .int .i64 known] w (ListEnd (rstS (cntL (l.map Pf.q) known) person parish day) (readE (l.map Pf.q) person parish [day, known] known) w) := by
 obtain ⟨W1, hW1⟩ : ∃ X, w.alloc (.cells #[.int .i64 day, .int .i64 known] 3) = X := ⟨_, rfl⟩
 have g1 : Below w.heap.size w W1 := by rw [← hW1]; exact one_more _ _
 have b1 : Blk W1 w.heap.size 3 #[.int .i64 day, .int .i64 known] := by rw [← hW1]; exact Blk.new _ _ _
 have T := askRead_any person parish (some ⟨w.heap.size, 0, none⟩) 2 2 [day, known] known A n c l W1 (ha.below g1) hn (two_ints b1) (by decide) (by decide) rfl
 have HFM := Lib.hid (show (l.filter fun p => cnt p.q known).map Pf.q = cntL (l.map Pf.q) known from filt_map l (fun q => cnt q known))
 have HOK := Lib.hid (fun (h : readE (l.map Pf.q) person parish [day, known] known = 0) => (askE_ok (readE_ask h)))
 obtain ⟨re, hre⟩ : ∃ s, readE (l.map Pf.q) person parish [day, known] known = s := ⟨_, rfl⟩
 rw [hre] at HOK T ⊢
 have HFS := Lib.hid (show (l.filter fun p => cnt p.q known).Sublist l from List.filter_sublist)
 obtain ⟨fl, hfl⟩ : ∃ s, (l.filter fun p => cnt p.q known) = s := ⟨_, rfl⟩
 have G1 := Lib.hid g1
 have HW1 := Lib.hid hW1
 unfold AskEnd at T
 rw [hfl] at T HFM HFS
 obtain ⟨cq, hcq⟩ : ∃ s, cntL (l.map Pf.q) known = s := ⟨_, rfl⟩
 rw [hcq] at HFM ⊢
 obtain ⟨rs, hrs⟩ : ∃ s, rstS cq person parish day = s := ⟨_, rfl⟩
 rw [hrs]
 have HRS := Lib.hid hrs
 have HT := Lib.hid T
 clear ha hre hfl hcq hrs g1 b1 hW1 T
 by_cases hz : re = 0
 ·subst hz
  go_enter Tryz.func15, Tryz.ntmps15
  go_upto_region 2 with (go_at_call 66; rw [HW1.out]; (with_reducible refine (HT.out).mono ?_); rintro e V ⟨A2, n2, c2, rfl, ho, -, hg⟩; have HO := Lib.hid (ho rfl); have GV := Lib.hid (G1.out.trans (hg.mono G1.out.size)); clear ho hg)
  obtain ⟨hok, hper, -, hdays⟩ := HOK.out (by trivial)
  have HCS := Lib.hid (fun (f : List Pf) (hs : f.Sublist l) (W : World) (A : Option Addr) (n : Nat) (hp : Prf W A n f) (hn : n ≤ 60) => cn_sub hok hs hp hn)
  have HCN := Lib.hid (HCS.out fl HFS.out V A2 n2 HO.out.1 HO.out.2.1)
  have HP64 := Lib.hid (And.intro (in64_person hper) (in64_day (hdays day (by simp))))
  have TW := right_any A2 n2 c2 fl person parish day V HCN.out HP64.out.1 HP64.out.2
  rw [HFM.out] at TW
  obtain ⟨was, hwas⟩ : ∃ s, righN (wherS cq person day) parish = s := ⟨_, rfl⟩
  rw [hwas] at TW
  have HWAS := Lib.hid hwas
  have HTW := Lib.hid TW
  have HLM := Lib.hid (show fl.length = n2 from HCN.out.prf.len)
  have HCL := Lib.hid (show cq.length = n2 by rw [← HFM.out, List.length_map, HLM.out])
  have HO0 := Lib.hid (fun (W : World) => OwnL.nil (f := icells) (size := 1) (e := 3) W V.heap.size)
  clear TW hok hper hdays hwas
  go_upto_region 7 with (go_at_call 67; (with_reducible refine (HTW.out).mono ?_); rintro e V2 ⟨rfl, hg⟩; have GV2 := Lib.hid hg; clear hg)
  go_loopw [15, 39] (fun v i wr => ∃ k : Nat, k ≤ n2 ∧ OwnL icells 1 3 wr V.heap.size v (rstP cq person parish day k) ∧ i = .int .i64 k ∧ Below V.heap.size V wr) (fun _ i _ => n2 - (intOf i).toNat)
  case atStart => exact ⟨0, Nat.zero_le _, HO0.out _, rfl, GV2.out⟩
  case round =>
   obtain ⟨k, hk, ho, rfl, hg⟩ := hrel
   have HG := Lib.hid hg
   have HOX := Lib.hid ho
   clear ho
   by_cases hkn : k < n2
   ·have HSU := Lib.hid (rstP_succ cq person parish day k)
    have HPK := Lib.hid (map_pf (l := fl) (k := k) (by rw [HLM.out]; exact hkn))
    obtain ⟨b, o, rfl, -, -, -, hyc⟩ := (HCN.out.prf.below hg).at hkn
    obtain ⟨y, hy⟩ : ∃ y, fl.getD k p0 = y := ⟨_, rfl⟩
    rw [hy] at hyc HPK
    rw [HFM.out] at HPK
    obtain ⟨e0, e1, e2, e3, e4, e5, e6, e7, e8⟩ := hyc _ (Below.refl _ _)
    obtain ⟨W2, hW2⟩ : ∃ X, wr.alloc (.cells #[.int .i64 y.q.src, .int .i64 y.q.kind, .slice y.A y.n y.c, .int .i64 y.q.oth, .int .i64 y.q.par, .int .i64 y.q.day, .int .i64 y.q.thr, .int .i64 y.q.kno, .int .i64 y.q.unt] 56) = X := ⟨_, rfl⟩
    have GW2 := Lib.hid (show Below wr.heap.size wr W2 by rw [← hW2]; exact one_more _ _)
    have BW2 := Lib.hid (show Blk W2 wr.heap.size 56 #[.int .i64 y.q.src, .int .i64 y.q.kind, .slice y.A y.n y.c, .int .i64 y.q.oth, .int .i64 y.q.par, .int .i64 y.q.day, .int .i64 y.q.thr, .int .i64 y.q.kno, .int .i64 y.q.unt] by rw [← hW2]; exact Blk.new _ _ _)
    have HW2 := Lib.hid hW2
    have HGW := Lib.hid (HG.out.trans (GW2.out.mono HG.out.size))
    have hn60 := HCN.out.n
    have hwr2 : wrap64 ((k : Int) + 1) = (k : Int) + 1 := wrap_in (by omega)
    have hki : (k : Int) < (n2 : Int) := by omega
    have TC := Lib.hid (cloneP_any (some ⟨b, o, none⟩) n2 c2 fl W2 (HCN.out.prf.below HGW.out).a (by omega))
    have hmq : (fl.eraseIdx k).map Pf.q = cq.eraseIdx k := by rw [← HFM.out, List.eraseIdx_eq_take_drop_succ, List.eraseIdx_eq_take_drop_succ, List.map_append, List.map_take, List.map_drop]
    have HEL := Lib.hid (show (fl.eraseIdx k).length = n2 - 1 by rw [List.length_eraseIdx_of_lt (by rw [HLM.out]; exact hkn), HLM.out])
    obtain ⟨rv, hrv⟩ : ∃ s, righN (wherS (cq.eraseIdx k) person day) parish = s := ⟨_, rfl⟩
    have HTR := Lib.hid (fun (W : World) (g5 c5 : Nat) (gW : Below V.heap.size V W) (ho : OwnL pcells 9 56 W W2.heap.size (.slice (some ⟨g5, 0, none⟩) (n2 - 1) c5) (fl.eraseIdx k)) => (show Calls Tryz.prog 67 #[.slice (some ⟨g5, 0, none⟩) (n2 - 1) c5, .int .i64 person, .int .i64 parish, .int .i64 day] W fun e w' => e = .returned (.int .i64 rv) ∧ Below W.heap.size W w' by
     obtain ⟨A9, c9, e9, -, -, hp9⟩ := own_prf ho (fun p hp => (HCN.out.prf.p p ((List.eraseIdx_sublist fl k).subset hp)).below gW)
     rw [HEL.out] at e9 hp9
     cases e9
     have := right_any (some ⟨g5, 0, none⟩) (n2 - 1) c5 (fl.eraseIdx k) person parish day W (HCS.out _ ((List.eraseIdx_sublist fl k).trans HFS.out) W _ _ hp9 (by have := HCN.out.n; omega)) HP64.out.1 HP64.out.2
     rw [hmq, hrv] at this
     exact this))
    have HRB := Lib.hid (show rstB cq person parish day k = decide (rv ≠ was) by unfold rstB; rw [hrv, HWAS.out])
    rw [HRB.out, HPK.out] at HSU
    obtain ⟨rp, hrp⟩ : ∃ s, rstP cq person parish day k = s := ⟨_, rfl⟩
    have HTL := Lib.hid (show rp.length + 1 ≤ 1000000 by rw [← hrp]; have := rstP_len cq person parish day k; omega)
    rw [hrp] at HSU HOX
    clear hW2 hy hyc hg hmq hrv hrp
    go_upto_region 9 with fail
    rw [HW2.out]
    clear e0 e1 e2 e3 e4 e5 e6 e7 e8
    have d0 := BW2.out.cell 0
    by_cases hne : rv = was
    ·have hnb : (rv != was) = false := by simpa using hne
     have HS3 := Lib.hid (show rstP cq person parish day (k + 1) = rp by rw [HSU.out, if_neg (by simpa using hne), List.append_nil])
     clear hne
     go_wp2_with (first 
      | (go_at_call 69; (with_reducible refine (TC.out).mono ?_); rintro e W5 ⟨⟨v5, rfl, ho5⟩, hg5⟩; obtain ⟨g5, c5, hv5, hb5⟩ := own_head ho5 (by rw [HLM.out]; omega); rw [HLM.out] at hv5; subst hv5; have HG5 := Lib.hid hg5; have HB5 := Lib.hid hb5; have TD := Lib.hid (delP_any W2.heap.size g5 n2 c5 k fl W5 ho5 hkn (by omega)); clear ho5 hg5 hb5)
      | (go_at_call 68; (with_reducible refine (TD.out).mono ?_); rintro e W6 ⟨rfl, ho6, hf6⟩; have HG6 := Lib.hid (show Below W2.heap.size W2 W6 from HG5.out.trans (hf6.low HB5.out HG5.out.size)); have TR := Lib.hid (HTR.out W6 g5 c5 (HGW.out.trans (HG6.out.mono HGW.out.size)) ho6); clear ho6 hf6)
      | (go_at_call 67; (with_reducible refine (TR.out).mono ?_); rintro e W7 ⟨rfl, hg7⟩; have HG7 := Lib.hid (HG6.out.trans (hg7.mono HG6.out.size)); clear hg7))
     go_roundw
     case rel => exact ⟨k + 1, by omega, by rw [HS3.out]; exact HOX.out.ext (GW2.out.trans (HG7.out.mono GW2.out.size)), rfl, HGW.out.trans (HG7.out.mono HGW.out.size)⟩
     case measure => simp only [intOf]; omega
    ·have hnb : (rv != was) = true := by simpa using hne
     have HS3 := Lib.hid (show rstP cq person parish day (k + 1) = rp ++ [y.q.src] by rw [HSU.out, if_pos (by simpa using hne)])
     clear hne
     go_upto_region 10 with (first 
      | (go_at_call 69; (with_reducible refine (TC.out).mono ?_); rintro e W5 ⟨⟨v5, rfl, ho5⟩, hg5⟩; obtain ⟨g5, c5, hv5, hb5⟩ := own_head ho5 (by rw [HLM.out]; omega); rw [HLM.out] at hv5; subst hv5; have HG5 := Lib.hid hg5; have HB5 := Lib.hid hb5; have TD := Lib.hid (delP_any W2.heap.size g5 n2 c5 k fl W5 ho5 hkn (by omega)); clear ho5 hg5 hb5)
      | (go_at_call 68; (with_reducible refine (TD.out).mono ?_); rintro e W6 ⟨rfl, ho6, hf6⟩; have HG6 := Lib.hid (show Below W2.heap.size W2 W6 from HG5.out.trans (hf6.low HB5.out HG5.out.size)); have TR := Lib.hid (HTR.out W6 g5 c5 (HGW.out.trans (HG6.out.mono HGW.out.size)) ho6); clear ho6 hf6)
      | (go_at_call 67; (with_reducible refine (TR.out).mono ?_); rintro e W7 ⟨rfl, hg7⟩; have HG7 := Lib.hid (HG6.out.trans (hg7.mono HG6.out.size)); clear hg7))
     rename_i W7
     have d0' := (BW2.out.ext HG7.out).cell 0
     have GX := Lib.hid (one_more W7 (.cells #[.int .i64 y.q.src] 3))
     have HI := Lib.hid (one_int (Blk.new W7 3 #[.int .i64 y.q.src]))
     have HO7 := Lib.hid ((HOX.out.ext (GW2.out.trans (HG7.out.mono GW2.out.size))).ext GX.out)
     have HGZ := Lib.hid ((HGW.out.trans (HG7.out.mono HGW.out.size)).trans (GX.out.mono (Nat.le_trans HGW.out.size HG7.out.size)))
     clear d0
     go_wp2_with (first | (at_builtin; go_loud (refine wpList_app kdI (by rfl) _ _ (by rfl) V.heap.size _ rp (by rfl) HO7.out _ 1 1 [y.q.src] (by rfl) HI.out HTL.out HGZ.out.size ?_); intro v' w' ho hgr hz; have HO8 := Lib.hid ho; have GV8 := Lib.hid (HGZ.out.trans (HO7.out.below hgr (Nat.le_refl _) HGZ.out.size)); clear ho hgr hz))
     go_roundw
     case rel => exact ⟨k + 1, by omega, by rw [HS3.out]; exact HO8.out, rfl, GV8.out⟩
     case measure => simp only [intOf]; omega
   ·obtain rfl : k = n2 := by omega
    have HRE := Lib.hid (show rstP cq person parish day k = rs by rw [← HRS.out]; unfold rstS; rw [HCL.out])
    clear hg
    go_wp2_with fail
    go_ret2
    exact listEnd_ok (by rw [← HRE.out]; exact HOX.out) (GV.out.trans (HG.out.mono GV.out.size))
 ·have hzb : (re != 0) = true := by simpa using hz
  have HZ := Lib.hid hz
  clear hz
  go_enter Tryz.func15, Tryz.ntmps15
  go_wp2_with (go_at_call 66; rw [HW1.out]; (with_reducible refine (HT.out).mono ?_); rintro e V ⟨A2, n2, c2, rfl, -, ho, hg⟩; obtain ⟨rfl, rfl, rfl⟩ := ho HZ.out; have GV := Lib.hid (G1.out.trans (hg.mono G1.out.size)); clear ho hg)
  go_ret2
  exact listEnd_no HZ.out GV.out
end Go.Proofs.YtehhlgdkhecacaaGreat

namespace Go.Proofs.YtehhlgdkhecacaaGreat
open Go.RowKit Go.Shelf
theorem cmp_neg (a b : Int) : decide (cmpI a b < 0) = decide (a < b) := by
 unfold cmpI
 by_cases h : a < b
 ·rw [if_pos h, decide_eq_true h]; rfl
 ·rw [if_neg h, decide_eq_false h]
  by_cases h2 : b < a
  ·rw [if_pos h2]; rfl
  ·rw [if_neg h2]; rfl
theorem cmp_zero (a b : Int) : (cmpI a b == 0) = decide (a = b) := by
 unfold cmpI
 by_cases h : a < b
 ·rw [if_pos h, decide_eq_false (by omega)]; rfl
 ·rw [if_neg h]
  by_cases h2 : b < a
  ·rw [if_pos h2, decide_eq_false (by omega)]; rfl
  ·rw [if_neg h2, decide_eq_true (by omega)]; rfl
set_option maxRecDepth 100000 in
theorem bySrc_any (p : Pf) (s : Int) (w : World) : Calls Tryz.prog 146 #[pv p, .int .i64 s] w fun e w' => e = .returned (.int .i64 (cmpI p.q.src s)) ∧ Below w.heap.size w w' := by
 have T := fun W => cmp_any p.q.src s W
 generalize cmpI p.q.src s = r at T ⊢
 have HT := Lib.hid T
 clear T
 go_enter Tryz.func146, Tryz.ntmps146
 go_wp2_with (go_at_call 132; (with_reducible refine (HT.out _).mono ?_); rintro e w' ⟨rfl, rfl⟩)
 go_ret
 exact ⟨rfl, one_more _ _⟩
/-- How many elements have a lesser source; is the next one the one sought? -/
def insP (l : List Pf) (s : Int) : Nat := l.countP fun y => decide (y.q.src < s)
def fndP (l : List Pf) (s : Int) : Bool := decide (insP l s < l.length) && decide ((l.getD (insP l s) p0).q.src = s)
theorem insP_eq {s : Int} : ∀ {l : List Pf} {t : Nat}, t ≤ l.length → (∀ j, j < t → (l.getD j p0).q.src < s) → (∀ j, t ≤ j → j < l.length → ¬ (l.getD j p0).q.src < s) → insP l s = t
 | [], t, ht, _, _ => by simp at ht; subst ht; rfl
 | x :: l, 0, _, _, h2 => by
  have h0 : ¬ x.q.src < s := h2 0 (Nat.le_refl _) (by simp)
  have ih := insP_eq (l := l) (t := 0) (Nat.zero_le _) (fun j h => absurd h (by omega)) (fun j _ hj => h2 (j + 1) (by omega) (by simpa using hj))
  unfold insP at ih ⊢
  rw [List.countP_cons, ih]
  simp [h0]
 | x :: l, t + 1, ht, h1, h2 => by
  have h0 : x.q.src < s := h1 0 (by omega)
  have ih := insP_eq (l := l) (t := t) (by simpa using ht) (fun j h => h1 (j + 1) (by omega)) (fun j h hj => h2 (j + 1) (by omega) (by simpa using hj))
  unfold insP at ih ⊢
  rw [List.countP_cons, ih]
  simp [h0]
set_option maxRecDepth 100000 in
set_option maxHeartbeats 8000000 in
theorem bsearchP_any (A : Option Addr) (n c : Nat) (l : List Pf) (s : Int) (w : World) (ha : Prf w A n l) (hn : n ≤ 1000) (hl : ∀ i j, i < j → j < l.length → (l.getD i p0).q.src < (l.getD j p0).q.src) :
  Calls Tryz.prog 145 #[.slice A n c, .int .i64 s, .func (.func 146) #[] #[]] w fun e w' => e = .returned (.tuple #[.int .i64 (insP l s), .bool (fndP l s)]) ∧ Below w.heap.size w w' := by
 have HA := Lib.hid ha
 have HLN := Lib.hid (show l.length = n from ha.len)
 have HL := Lib.hid hl
 have HIE := Lib.hid (fun t ht h1 h2 => insP_eq (l := l) (s := s) (t := t) ht h1 h2)
 have HFD := Lib.hid (show fndP l s = (decide (insP l s < l.length) && decide ((l.getD (insP l s) p0).q.src = s)) from rfl)
 obtain ⟨ia, hia⟩ : ∃ i, insP l s = i := ⟨_, rfl⟩
 rw [hia] at HIE HFD ⊢
 obtain ⟨fd, hfd⟩ : ∃ i, fndP l s = i := ⟨_, rfl⟩
 rw [hfd] at HFD ⊢
 clear ha hl hia hfd
 go_enter Tryz.func145, Tryz.ntmps145
 go_wp2_with fail
 go_loopw [9, 10] (fun i j wr => ∃ k m : Nat, k ≤ m ∧ m ≤ n ∧ i = .int .i64 k ∧ j = .int .i64 m ∧ Below w.heap.size w wr ∧ (∀ t, t < k → (l.getD t p0).q.src < s) ∧ ∀ t, m ≤ t → t < n → ¬ (l.getD t p0).q.src < s) (fun i j _ => (intOf j).toNat - (intOf i).toNat)
 case atStart => exact ⟨0, n, Nat.zero_le _, Nat.le_refl _, rfl, rfl, Below.refl _ _, fun t h => absurd h (by omega), fun t h1 h2 => absurd h1 (by omega)⟩
 case round =>
  obtain ⟨k, m, hkm, hmn, rfl, rfl, hg, hlo, hhi⟩ := hrel
  have HG := Lib.hid hg
  have HLO := Lib.hid hlo
  have HHI := Lib.hid hhi
  clear hg hlo hhi
  by_cases hkn : k < m
  ·obtain ⟨h, hh⟩ : ∃ h, (k + m) / 2 = h := ⟨_, rfl⟩
   have h1 : k ≤ h := by omega
   have h2 : h < m := by omega
   have h3 : h < n := by omega
   have hhi : ((k : Int) + (m : Int)) / 2 = (h : Int) := by omega
   obtain ⟨b0, o0, e0, -, -, -, hc⟩ := (HA.out.below HG.out).at h3
   have HMO := Lib.hid (fun t (ht : t < h) => HL.out t h ht (by rw [HLN.out]; exact h3))
   have HMU := Lib.hid (fun t (ht : h < t) (htn : t < n) => HL.out h t ht (by rw [HLN.out]; exact htn))
   obtain ⟨x, hxg⟩ : ∃ x, l.getD h p0 = x := ⟨_, rfl⟩
   rw [hxg] at hc HMO HMU
   have HXG := Lib.hid hxg
   have T := fun W => bySrc_any x s W
   have HCN := Lib.hid (cmp_neg x.q.src s)
   obtain ⟨cm, hcm⟩ : ∃ r, cmpI x.q.src s = r := ⟨_, rfl⟩
   rw [hcm] at T HCN
   have HT := Lib.hid T
   obtain ⟨x0, x1, x2, x3, x4, x5, x6, x7, x8⟩ := hc _ (Below.refl _ _)
   subst e0
   have hk2 : (h : Int) < (n : Int) := by omega
   clear hc hxg T hcm hh
   by_cases hxs : x.q.src < s
   ·have hcd : decide (cm < 0) = true := by rw [HCN.out]; exact decide_eq_true hxs
    have HXS := Lib.hid hxs
    clear hxs
    go_wp2_with (go_at_call 146; (with_reducible refine (HT.out _).mono ?_); rintro e W2 ⟨rfl, hg2⟩; have GZ := Lib.hid (HG.out.trans (hg2.mono HG.out.size)); clear hg2)
    go_roundw
    case rel => exact ⟨h + 1, m, by omega, by omega, by go_num, rfl, GZ.out, fun t ht => by
     by_cases e : t = h
     ·subst e; rw [HXG.out]; exact HXS.out
     ·exact Int.lt_trans (HMO.out t (by omega)) HXS.out, fun t h1 h2 => by have := HHI.out t h1 h2; omega⟩
    case measure => simp only [intOf]; omega
   ·have hcd : decide (cm < 0) = false := by rw [HCN.out]; exact decide_eq_false hxs
    have HXS := Lib.hid hxs
    clear hxs
    go_wp2_with (go_at_call 146; (with_reducible refine (HT.out _).mono ?_); rintro e W2 ⟨rfl, hg2⟩; have GZ := Lib.hid (HG.out.trans (hg2.mono HG.out.size)); clear hg2)
    go_roundw
    case rel => exact ⟨k, h, h1, by omega, rfl, rfl, GZ.out, HLO.out, fun t ht htn => by
     by_cases e : t = h
     ·subst e; rw [HXG.out]; have := HXS.out; omega
     ·have h9 := HMU.out t (by omega) htn
      have h8 := HXS.out
      omega⟩
    case measure => simp only [intOf]; omega
  ·obtain rfl : m = k := by omega
   obtain rfl : m = ia := (HIE.out m (by rw [HLN.out]; exact hmn) HLO.out (fun j h1 h2 => by have h3 := HLN.out; have h4 := HHI.out j h1 (by omega); omega)).symm
   clear HIE
   by_cases hme : m < n
   ·obtain ⟨b0, o0, e0, -, -, -, hc⟩ := (HA.out.below HG.out).at hme
    obtain ⟨x, hxg⟩ : ∃ x, l.getD m p0 = x := ⟨_, rfl⟩
    rw [hxg] at hc HFD
    have T := fun W => bySrc_any x s W
    have HCZ := Lib.hid (cmp_zero x.q.src s)
    obtain ⟨cm, hcm⟩ : ∃ r, cmpI x.q.src s = r := ⟨_, rfl⟩
    rw [hcm] at T HCZ
    have HT := Lib.hid T
    obtain ⟨x0, x1, x2, x3, x4, x5, x6, x7, x8⟩ := hc _ (Below.refl _ _)
    subst e0
    have hk2 : (m : Int) < (n : Int) := by omega
    have HF2 := Lib.hid (show fd = (cm == 0) by rw [HFD.out, HLN.out, decide_eq_true hme, Bool.true_and, HCZ.out])
    clear hc hxg T hcm
    go_wp2_with (go_at_call 146; (with_reducible refine (HT.out _).mono ?_); rintro e W2 ⟨rfl, hg2⟩; have GZ := Lib.hid (HG.out.trans (hg2.mono HG.out.size)); clear hg2)
    go_ret2
    have e := HF2.out
    subst e
    exact ⟨rfl, GZ.out⟩
   ·have hk2 : ¬ (m : Int) < (n : Int) := by omega
    have e : fd = false := by rw [HFD.out, HLN.out, decide_eq_false hme, Bool.false_and]
    subst e
    go_wp2_with fail
    go_ret2
    exact ⟨rfl, HG.out⟩
theorem find_any (A : Option Addr) (n c : Nat) (l : List Pf) (s : Int) (w : World) (ha : Prf w A n l) (hn : n ≤ 1000) (hl : ∀ i j, i < j → j < l.length → (l.getD i p0).q.src < (l.getD j p0).q.src) :
  Calls Tryz.prog 114 #[.slice A n c, .int .i64 s] w fun e w' => e = .returned (.tuple #[.int .i64 (insP l s), .bool (fndP l s)]) ∧ Below w.heap.size w w' := by
 have HT := Lib.hid (bsearchP_any A n c l s w ha hn hl)
 generalize insP l s = ia at HT ⊢
 generalize fndP l s = fd at HT ⊢
 clear ha hl
 go_enter Tryz.func114, Tryz.ntmps114
 go_wp2_with (go_at_call 145; (with_reducible refine (HT.out).mono ?_); rintro e W2 ⟨rfl, hg2⟩; have GZ := Lib.hid hg2; clear hg2)
 go_ret2
 exact ⟨rfl, GZ.out⟩
end Go.Proofs.YtehhlgdkhecacaaGreat
