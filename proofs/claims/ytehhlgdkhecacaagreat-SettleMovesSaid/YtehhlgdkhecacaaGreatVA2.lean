/- Part of the proof: BA, BB, BC, BD, BE, FH, BF, BG, BH, BI, BJ, BK, BL, CA. -/
import Derived.OrdersIn
import Derived.Test.YtehhlgdkhecacaaGreatVA1
namespace Go.Proofs.YtehhlgdkhecacaaGreat
open Go.RowKit Go.Shelf Go.Sort
structure Kp (M : Nat) (A B : World) : Prop where
 os : B.os = A.os
 tape : B.tape = A.tape
 output : B.output = A.output
 size : A.heap.size ≤ B.heap.size
 keep : ∀ k, k < A.heap.size → k ≠ M → B.heap[k]? = A.heap[k]?
section
variable {M : Nat} {A B C : World}
theorem Kp.refl (M : Nat) (A : World) : Kp M A A := ⟨rfl, rfl, rfl, Nat.le_refl _, fun _ _ _ => rfl⟩
theorem Kp.trans (h : Kp M A B) (k : Kp M B C) : Kp M A C :=
 ⟨k.os.trans h.os, k.tape.trans h.tape, k.output.trans h.output, Nat.le_trans h.size k.size, fun i hi hm => (k.keep i (Nat.lt_of_lt_of_le hi h.size) hm).trans (h.keep i hi hm)⟩
theorem Kp.of_below (h : Below A.heap.size A B) : Kp M A B := ⟨h.os, h.tape, h.output, h.size, fun k hk _ => h.block k hk⟩
theorem Kp.below (h : Kp M A B) (hM : M ≤ A.heap.size) : Below M A B := ⟨h.os, h.tape, h.output, h.size, fun k hk => h.keep k (Nat.lt_of_lt_of_le hk hM) (Nat.ne_of_lt hk)⟩
theorem Kp.put (h : Kp M A B) (o : Obj) : Kp M A (B.putObj M o) :=
 ⟨h.os, h.tape, h.output, by simpa using h.size, fun k hk hm => (World.putObj_heap_other (by omega)).trans (h.keep k hk hm)⟩
theorem Kp.blk {g : Nat} {t : TypeId} {cs : Array Value} (h : Kp M A B) (b : Blk A g t cs) (hg : g ≠ M) : Blk B g t cs := (h.keep g b.lt hg).trans b
theorem Kp.drew (h : Kp M A B) : Kp M A B.drew := ⟨h.os, h.tape, h.output, h.size, h.keep⟩
theorem OwnL.kp {α : Type} {f : α → List Value} {size : Nat} {e : TypeId} {base : Nat} {v : Value} {xs : List α} (h : OwnL f size e A base v xs) (k : Kp M A B) (hM : M < base) : OwnL f size e B base v xs := by
 obtain ⟨h1, h2 | ⟨g, cap, cur, hv, hb, hg, rest⟩⟩ := h
 ·exact ⟨h1, .inl h2⟩
 ·exact ⟨h1, .inr ⟨g, cap, cur, hv, hb, (k.keep g (Array.getElem?_eq_some_iff.1 hg).1 (by omega)).trans hg, rest⟩⟩
end
/-- The proofs, the reading, and where they lie: the map's block is the first one that was new then. -/
structure Li where
 W0 : World
 Lb : Nat
 A : Option Addr
 n : Nat
 c : Nat
 B : Option Addr
 d : Nat
 l : List Pf
 r : List Int
/-- The proofs themselves. -/
abbrev Li.qs (x : Li) : List Qf := x.l.map Pf.q
structure Li.Ok (x : Li) : Prop where
 prf : Prf x.W0 x.A x.n x.l
 rd : Ints x.W0 x.B x.n x.r
 n : x.n ≤ 1000
 q : ∀ p ∈ x.l, isQf p.q = true
 src : (x.qs.map Qf.src).Nodup
 ne : x.W0.heap.size < x.Lb
structure Li.At (x : Li) (w : World) : Prop where
 low : Below x.W0.heap.size x.W0 w
 blk : Blk w x.Lb 141 #[.slice x.A x.n x.c, .slice x.B x.n x.d, .map (some x.W0.heap.size)]
 map : ∃ es clock, MapAt w x.W0.heap.size es clock ∧ Good x.qs x.r es
theorem Li.At.ext {x : Li} {w w' : World} (h : x.At w) (g : Below w.heap.size w w') : x.At w' := by
 obtain ⟨es, clock, hm, hg⟩ := h.map
 exact ⟨h.low.trans (g.mono h.low.size), h.blk.ext g, es, clock, hm.ext g, hg⟩
theorem Li.At.put {x : Li} (hx : x.Ok) {w : World} (h : x.At w) {es : Array MapEntry} (clock : Nat) (hg : Good x.qs x.r es) : x.At (w.putObj x.W0.heap.size (.map es clock)) := by
 obtain ⟨es', clock', hm, -⟩ := h.map
 exact ⟨below_putObj h.low (Nat.le_refl _) _, (World.putObj_heap_other (by have := hx.ne; omega)).trans h.blk, es, clock, hm.put es clock, hg⟩
theorem Li.At.prf {x : Li} (hx : x.Ok) {w : World} (h : x.At w) : Prf w x.A x.n x.l := hx.prf.below h.low
theorem Li.At.rd {x : Li} (hx : x.Ok) {w : World} (h : x.At w) : Ints w x.B x.n x.r := hx.rd.below h.low
theorem Li.At.lt {x : Li} {w : World} (h : x.At w) : x.W0.heap.size < w.heap.size := by
 obtain ⟨es, clock, hm, -⟩ := h.map
 exact hm.lt
theorem Li.Ok.len {x : Li} (hx : x.Ok) : x.l.length = x.n := hx.prf.len
theorem needs_any (k : Int) (w : World) : Calls Tryz.prog 151 #[.int .i64 k] w fun e w' => e = .returned (.int .i64 (needs k)) ∧ w = w' := by
 unfold needs
 by_cases h3 : k = 3
 ·subst h3
  go_enter Tryz.func151, Tryz.ntmps151
  go_wp2
  go_ret
  exact ⟨rfl, rfl⟩
 ·by_cases h4 : k = 4
  ·subst h4
   go_enter Tryz.func151, Tryz.ntmps151
   go_wp2
   go_ret
   exact ⟨rfl, rfl⟩
  ·by_cases h5 : k = 5
   ·subst h5
    go_enter Tryz.func151, Tryz.ntmps151
    go_wp2
    go_ret
    exact ⟨rfl, rfl⟩
   ·have e3 : (k == 3) = false := beq_eq_false_iff_ne.2 h3
    have e4 : (k == 4) = false := beq_eq_false_iff_ne.2 h4
    have e5 : (k == 5) = false := beq_eq_false_iff_ne.2 h5
    go_enter Tryz.func151, Tryz.ntmps151
    go_wp2
    go_ret
    exact ⟨rfl, rfl⟩
theorem cert_true {c : List Qf} {r : List Int} {person day : Int} {k : Nat} (hk : k < c.length) (h1 : (c.getD k q0).kind = 6) (h2 : r.getD k 0 = person) (h3 : (c.getD k q0).day ≤ day) : certB c r person day = true := by
 unfold certB
 rw [List.any_eq_true]
 exact ⟨k, List.mem_range.2 hk, by rw [decide_eq_true h1, decide_eq_true h2, decide_eq_true h3]; rfl⟩
theorem cert_false {c : List Qf} {r : List Int} {person day : Int} (h : ∀ k, k < c.length → ¬ ((c.getD k q0).kind = 6 ∧ r.getD k 0 = person ∧ (c.getD k q0).day ≤ day)) : certB c r person day = false := by
 unfold certB
 rw [List.any_eq_false]
 intro k hk
 have := h k (List.mem_range.1 hk)
 simp only [Bool.and_eq_true, decide_eq_true_eq]
 exact fun h => this ⟨h.1.1, h.1.2, h.2⟩
set_option maxRecDepth 100000 in
set_option maxHeartbeats 8000000 in
theorem certified_any (x : Li) (person day : Int) (w : World) (hx : x.Ok) (ha : x.At w) :
  Calls Tryz.prog 152 #[.pointer (some ⟨x.Lb, 0, none⟩), .int .i64 person, .int .i64 day] w fun e w' => e = .returned (.bool (certB x.qs x.r person day)) ∧ Below w.heap.size w w' := by
 obtain ⟨cb, hcb⟩ : ∃ s, certB x.qs x.r person day = s := ⟨_, rfl⟩
 rw [hcb]
 have HCB := Lib.hid hcb
 have HA := Lib.hid (ha.prf hx)
 have HR := Lib.hid (ha.rd hx)
 have HLM := Lib.hid (show x.l.length = x.n from hx.len)
 have HBL := Lib.hid ha.blk
 have HN := Lib.hid hx.n
 obtain ⟨Lb, hLb⟩ : ∃ b, x.Lb = b := ⟨_, rfl⟩
 obtain ⟨A, hA⟩ : ∃ b, x.A = b := ⟨_, rfl⟩
 obtain ⟨B, hB⟩ : ∃ b, x.B = b := ⟨_, rfl⟩
 obtain ⟨n, hn⟩ : ∃ b, x.n = b := ⟨_, rfl⟩
 obtain ⟨c, hc⟩ : ∃ b, x.c = b := ⟨_, rfl⟩
 obtain ⟨d, hd⟩ : ∃ b, x.d = b := ⟨_, rfl⟩
 obtain ⟨M, hM⟩ : ∃ b, x.W0.heap.size = b := ⟨_, rfl⟩
 rw [hLb]
 rw [hLb, hA, hB, hn, hc, hd, hM] at HBL
 rw [hA, hn] at HA
 rw [hB, hn] at HR
 rw [hn] at HLM HN
 have b0 := HBL.out.cell 0
 have b1 := HBL.out.cell 1
 have b2 := HBL.out.cell 2
 clear hcb ha hLb hA hB hn hc hd hM
 go_enter Tryz.func152, Tryz.ntmps152
 go_wp2_with fail
 clear b0 b1 b2
 go_loopw [14] (fun i wr => ∃ k : Nat, k ≤ n ∧ i = .int .i64 k ∧ Below w.heap.size w wr ∧ ∀ j, j < k → ¬ ((x.qs.getD j q0).kind = 6 ∧ x.r.getD j 0 = person ∧ (x.qs.getD j q0).day ≤ day)) (fun i _ => n - (intOf i).toNat)
 case atStart => exact ⟨0, Nat.zero_le _, rfl, Below.refl _ _, fun j hj => absurd hj (by omega)⟩
 case round =>
  obtain ⟨k, hk, rfl, hg, hall⟩ := hrel
  have HG := Lib.hid hg
  have HALL := Lib.hid hall
  clear hall
  by_cases hkn : k < n
  ·obtain ⟨b2, o2, rfl, -, -, hc2⟩ := ints_at (HR.out.below hg) hkn
   have hc2w := hc2
   obtain ⟨rr, hrr⟩ : ∃ s, x.r.getD k 0 = s := ⟨_, rfl⟩
   rw [hrr] at hc2
   have HRR := Lib.hid hrr
   have HPK := Lib.hid (map_pf (l := x.l) (k := k) (by rw [HLM.out]; exact hkn))
   obtain ⟨b, o, rfl, -, -, -, hyc⟩ := (HA.out.below hg).at hkn
   obtain ⟨y, hy⟩ : ∃ y, x.l.getD k p0 = y := ⟨_, rfl⟩
   rw [hy] at hyc HPK
   obtain ⟨e0, e1, e2, e3, e4, e5, e6, e7, e8⟩ := hyc _ (Below.refl _ _)
   obtain ⟨W2, hW2⟩ : ∃ X, wr.alloc (.cells #[.int .i64 y.q.src, .int .i64 y.q.kind, .slice y.A y.n y.c, .int .i64 y.q.oth, .int .i64 y.q.par, .int .i64 y.q.day, .int .i64 y.q.thr, .int .i64 y.q.kno, .int .i64 y.q.unt] 56) = X := ⟨_, rfl⟩
   have GW2 := Lib.hid (show Below wr.heap.size wr W2 by rw [← hW2]; exact one_more _ _)
   have BW2 := Lib.hid (show Blk W2 wr.heap.size 56 #[.int .i64 y.q.src, .int .i64 y.q.kind, .slice y.A y.n y.c, .int .i64 y.q.oth, .int .i64 y.q.par, .int .i64 y.q.day, .int .i64 y.q.thr, .int .i64 y.q.kno, .int .i64 y.q.unt] by rw [← hW2]; exact Blk.new _ _ _)
   have BL2 := Lib.hid ((HBL.out.ext hg).ext GW2.out)
   have r0 := hc2 W2 GW2.out
   have HW2 := Lib.hid hW2
   have hwr2 : wrap64 ((k : Int) + 1) = (k : Int) + 1 := wrap_in (by have := HN.out; omega)
   have hki : (k : Int) < (n : Int) := by omega
   clear hW2 hrr hy hyc hc2 hc2w hg
   have HQK := Lib.hid (show x.qs.getD k q0 = y.q from HPK.out)
   go_upto_region 4 with fail
   rw [HW2.out]
   clear e0 e1 e2 e3 e4 e5 e6 e7 e8
   have b0 := BL2.out.cell 0
   have b1 := BL2.out.cell 1
   have d1 := BW2.out.cell 1
   have d5 := BW2.out.cell 5
   have GZ := Lib.hid (HG.out.trans (GW2.out.mono HG.out.size))
   by_cases h1 : y.q.kind = 6
   ·have h1b : (y.q.kind == 6) = true := by simpa using h1
    by_cases h2 : rr = person
    ·have h2b : (rr == person) = true := by simpa using h2
     by_cases h3 : y.q.day ≤ day
     ·have h3b := decide_eq_true h3
      have hf : cb = true := HCB.out.symm.trans (cert_true (k := k) (by rw [List.length_map, HLM.out]; exact hkn) (by rw [HQK.out]; exact h1) (HRR.out.trans h2) (by rw [HQK.out]; exact h3))
      subst hf
      clear h1 h2 h3
      go_wp2_with fail
      go_ret
      exact ⟨rfl, GZ.out⟩
     ·have h3b := decide_eq_false h3
      have HNO := Lib.hid h3
      clear h1 h2 h3
      go_wp2_with fail
      go_roundw
      case rel => exact ⟨k + 1, by omega, by rw [hwr2]; rfl, GZ.out, fun j hj => by
       by_cases e : j = k
       ·subst e; rintro ⟨-, -, h⟩; rw [HQK.out] at h; exact HNO.out h
       ·exact HALL.out j (by omega)⟩
      case measure => rw [hwr2]; simp only [intOf]; omega
    ·have h2b : (rr == person) = false := by simpa using h2
     have HNO := Lib.hid h2
     clear h1 h2
     go_wp2_with fail
     go_roundw
     case rel => exact ⟨k + 1, by omega, by rw [hwr2]; rfl, GZ.out, fun j hj => by
      by_cases e : j = k
      ·subst e; rintro ⟨-, h, -⟩; exact HNO.out (HRR.out.symm.trans h)
      ·exact HALL.out j (by omega)⟩
     case measure => rw [hwr2]; simp only [intOf]; omega
   ·have h1b : (y.q.kind == 6) = false := by simpa using h1
    have HNO := Lib.hid h1
    clear h1
    go_wp2_with fail
    go_roundw
    case rel => exact ⟨k + 1, by omega, by rw [hwr2]; rfl, GZ.out, fun j hj => by
     by_cases e : j = k
     ·subst e; rintro ⟨h, -, -⟩; rw [HQK.out] at h; exact HNO.out h
     ·exact HALL.out j (by omega)⟩
    case measure => rw [hwr2]; simp only [intOf]; omega
  ·obtain rfl : k = n := by omega
   have hf : cb = false := HCB.out.symm.trans (cert_false fun j hj => HALL.out j (by rw [List.length_map, HLM.out] at hj; exact hj))
   subst hf
   clear hg
   go_wp2_with fail
   go_ret
   exact ⟨rfl, HG.out⟩
end Go.Proofs.YtehhlgdkhecacaaGreat

namespace Go.Proofs.YtehhlgdkhecacaaGreat
open Go.RowKit Go.Shelf Go.Sort
/-- What is known of where persons are settled on days before one. -/
def SetC (x : Li) (k : Nat) : Prop := ∀ (person day : Int) (w : World), In64 person → In64 day → (day + 1).toNat ≤ k → x.At w →
 Calls Tryz.prog 135 #[.pointer (some ⟨x.Lb, 0, none⟩), .int .i64 person, .int .i64 day] w fun e w' => e = .returned (.int .i64 (setS x.qs x.r person day)) ∧ x.At w' ∧ Kp x.W0.heap.size w w'
/-- What a call of title hands back. -/
def TitEnd (x : Li) (t : Tt) (is : Bool) (w : World) (e : Ending) (w' : World) : Prop := e = .returned (.tuple #[tv t, .bool is]) ∧ x.At w' ∧ Kp x.W0.heap.size w w'
theorem titS_8 {s : Int → Int → Int} {c : List Qf} {r : List Int} {i : Nat} {q : Qf} (hq : c.getD i q0 = q) (h : q.kind = 8) : titS s c r i = (⟨q.day, q.par, q.src⟩, false) := by
 unfold titS
 rw [hq, if_pos h]
theorem titS_2 {s : Int → Int → Int} {c : List Qf} {r : List Int} {i : Nat} {q : Qf} (hq : c.getD i q0 = q) (h : q.kind = 2) : titS s c r i = (⟨q.day, s q.oth (q.day - 1), q.src⟩, decide (s q.oth (q.day - 1) ≠ -1)) := by
 unfold titS
 rw [hq, if_neg (by omega), if_pos h]
theorem titS_n {s : Int → Int → Int} {c : List Qf} {r : List Int} {i : Nat} {q : Qf} (hq : c.getD i q0 = q) (h : q.kind ≠ 8) (h2 : q.kind ≠ 2) (h3 : 0 < needs q.kind) : titS s c r i = (⟨q.day + needs q.kind, q.par, q.src⟩, decide (needs q.kind ≤ q.thr - q.day + 1) && !certB c r (r.getD i 0) q.day) := by
 unfold titS
 rw [hq, if_neg h, if_neg h2, if_pos h3]
theorem titS_o {s : Int → Int → Int} {c : List Qf} {r : List Int} {i : Nat} {q : Qf} (hq : c.getD i q0 = q) (h : q.kind ≠ 8) (h2 : q.kind ≠ 2) (h3 : ¬ 0 < needs q.kind) : titS s c r i = (⟨q.day, q.par, q.src⟩, true) := by
 unfold titS
 rw [hq, if_neg h, if_neg h2, if_neg h3]
theorem needs_bd (k : Int) : 0 ≤ needs k ∧ needs k ≤ 365 := by
 unfold needs
 split
 ·decide
 ·split <;> decide
theorem day_bd {q : Qf} (h : isQf q = true) : 0 ≤ q.day ∧ q.day ≤ 4166 ∧ 0 ≤ q.thr ∧ q.thr ≤ 4166 ∧ 0 ≤ q.oth ∧ q.oth ≤ 999 := by
 unfold isQf at h
 simp only [Bool.and_eq_true] at h
 obtain ⟨⟨⟨⟨⟨⟨⟨⟨⟨-, -⟩, -⟩, -⟩, -⟩, h1⟩, -⟩, -⟩, h2⟩, h3⟩ := h
 simp only [rng, Bool.and_eq_true, decide_eq_true_eq] at h1
 have h4 : 0 ≤ q.thr ∧ q.thr ≤ 4166 := by
  split at h2
  ·simp only [rng, Bool.and_eq_true, decide_eq_true_eq] at h2; omega
  ·simp only [decide_eq_true_eq] at h2; omega
 have h5 : 0 ≤ q.oth ∧ q.oth ≤ 999 := by
  split at h3
  ·simp only [rng, Bool.and_eq_true, decide_eq_true_eq] at h3; omega
  ·simp only [Bool.and_eq_true, decide_eq_true_eq] at h3; omega
 exact ⟨h1.1, h1.2, h4.1, h4.2, h5.1, h5.2⟩
/-- A load, or what yields anyhow, may be taken first: the slot written out. -/
theorem held_take {P : Program} {md : Region.Mode} {ops : Array Oper} {Q : Exit → Act → World → Prop} {S : World → Prop} {i : Nat} {oi : Oper} {d : Option Tmp} {v : Value} {fuel : Nat} {listed : Array Bool} {a : Act} {w : World} (hi : ops[i]? = some oi) (hd : oi.dst = d)
  (hs : Region.noSelect ops = true) (hf : Region.free md ops listed i = true) (hr : (Region.ready md ops listed).contains i = true)
  (hQ : ∀ c a w, Q (.panic c) (a.put oi.dst v) w → Q (.panic c) a w) (hg : Region.wanted oi (yielded ops a.tmps) = true) (hy : ∀ w, S w → (execOp a.eval oi).run P w = .ok (.value v) w) (hS : S w)
  (h : wpAnyH P md ops Q S fuel (listed.setIfInBounds i true) (a.put d v) w) : wpAnyH P md ops Q S (fuel + 1) listed a w := by
 subst hd
 exact wpAnyH_take hi hs hf hr hQ (.inl ⟨hg, hy⟩) hS h
/-- A skipped operation may be taken first. -/
theorem held_skip {P : Program} {md : Region.Mode} {ops : Array Oper} {Q : Exit → Act → World → Prop} {S : World → Prop} {i : Nat} {oi : Oper} {d : Option Tmp} {fuel : Nat} {listed : Array Bool} {a : Act} {w : World} (hi : ops[i]? = some oi) (hd : oi.dst = d)
  (hs : Region.noSelect ops = true) (hf : Region.free md ops listed i = true) (hr : (Region.ready md ops listed).contains i = true)
  (hQ : ∀ c a w, Q (.panic c) (a.put oi.dst undef) w → Q (.panic c) a w) (hg : Region.wanted oi (yielded ops a.tmps) = false) (hS : S w)
  (h : wpAnyH P md ops Q S fuel (listed.setIfInBounds i true) (a.put d undef) w) : wpAnyH P md ops Q S (fuel + 1) listed a w := by
 subst hd
 exact wpAnyH_take hi hs hf hr hQ (.inr ⟨hg, rfl⟩) hS h
/-- Three cells stored. -/
abbrev S3 (V : World) (R : Nat) (t : Tt) : World := ((V.setCell ⟨R, 0, none⟩ (.int .i64 t.day)).setCell ⟨R, 1, none⟩ (.int .i64 t.par)).setCell ⟨R, 2, none⟩ (.int .i64 t.src)
theorem Li.At.set {x : Li} (_hx : x.Ok) {w : World} (h : x.At w) {p : Addr} (hp : x.W0.heap.size < p.block) (hl : p.block ≠ x.Lb) (u : Value) : x.At (w.setCell p u) := by
 obtain ⟨es, clock, hm, hg⟩ := h.map
 exact ⟨h.low.setCell (by omega) u, h.blk.far (fun e => hl e.symm) u, es, clock, (Below.heap_setCell _ _ _ _ (by omega)).trans hm, hg⟩
theorem Kp.set {M : Nat} {A B : World} (h : Kp M A B) {p : Addr} (hp : A.heap.size ≤ p.block) (u : Value) : Kp M A (B.setCell p u) :=
 ⟨h.os, h.tape, h.output, by simpa [World.setCell] using h.size, fun k hk hm => (Below.heap_setCell _ _ _ _ (by omega)).trans (h.keep k hk hm)⟩
theorem Li.At.drew {x : Li} {w : World} (h : x.At w) : x.At w.drew := ⟨h.low.drew, h.blk, h.map⟩
theorem Blk.s3 {V : World} {R : Nat} {cs : Array Value} (h : Blk V R 67 cs) (hc : cs.size = 3) (t : Tt) : Blk (S3 V R t) R 67 #[.int .i64 t.day, .int .i64 t.par, .int .i64 t.src] := by
 have := ((h.set_ 0 (.int .i64 t.day)).set_ 1 (.int .i64 t.par)).set_ 2 (.int .i64 t.src)
 obtain ⟨l⟩ := cs
 simp only [List.size_toArray] at hc
 match l, hc with
 | [a, b, c], _ => exact this
theorem TitEnd.drew {x : Li} {t : Tt} {is : Bool} {w V : World} {e : Ending} (h : TitEnd x t is w e V) : TitEnd x t is w e V.drew := ⟨h.1, h.2.1.drew, h.2.2.drew⟩
theorem tit_end {x : Li} (hx : x.Ok) {w V : World} {R : Nat} {t : Tt} {is : Bool} (ha : x.At w) (hV : x.At V) (hk : Kp x.W0.heap.size w V) (hR : w.heap.size ≤ R) : TitEnd x t is w (.returned (.tuple #[tv t, .bool is])) (S3 V R t) := by
 have h1 := ha.lt
 have h2 := ha.blk.lt
 exact ⟨rfl, ((hV.set hx (by show _ < R; omega) (by show R ≠ _; omega) _).set hx (by show _ < R; omega) (by show R ≠ _; omega) _).set hx (by show _ < R; omega) (by show R ≠ _; omega) _, ((hk.set hR _).set hR _).set hR _⟩
set_option maxRecDepth 100000 in
set_option maxHeartbeats 8000000 in
theorem title_any (x : Li) (k : Nat) (hs : SetC x k) (i : Nat) (w : World) (hx : x.Ok) (ha : x.At w) (hi : i < x.n) (hd : (x.qs.getD i q0).day ≤ k) :
  Calls Tryz.prog 128 #[.pointer (some ⟨x.Lb, 0, none⟩), .int .i64 i] w (TitEnd x (titS (setS x.qs x.r) x.qs x.r i).1 (titS (setS x.qs x.r) x.qs x.r i).2 w) := by
 have HS := Lib.hid hs
 have HX := Lib.hid hx
 have HLM := Lib.hid (show x.l.length = x.n from hx.len)
 have HPK := Lib.hid (map_pf (l := x.l) (k := i) (by rw [HLM.out]; exact hi))
 have HIN := Lib.hid (show i < x.n from hi)
 have hP := ha.prf hx
 have hmem : x.l.getD i p0 ∈ x.l := mem_pf (by rw [HLM.out]; exact hi)
 have HB := Lib.hid (day_bd (hx.q _ hmem))
 obtain ⟨b, o, eA, -, -, -, hyc⟩ := hP.at hi
 have HR := Lib.hid (ha.rd hx)
 have HBL := Lib.hid ha.blk
 have HN := Lib.hid hx.n
 have HAT := Lib.hid ha
 obtain ⟨y, hy⟩ : ∃ y, x.l.getD i p0 = y := ⟨_, rfl⟩
 rw [hy] at hyc HPK HB
 have HD := Lib.hid (show y.q.day ≤ k by rw [← HPK.out]; exact hd)
 obtain ⟨tt, htt⟩ : ∃ tt, titS (setS x.qs x.r) x.qs x.r i = tt := ⟨_, rfl⟩
 rw [htt]
 have HTT := Lib.hid htt
 rw [eA] at HBL
 obtain ⟨Lb, hLb⟩ : ∃ b, x.Lb = b := ⟨_, rfl⟩
 obtain ⟨B, hB⟩ : ∃ b, x.B = b := ⟨_, rfl⟩
 obtain ⟨n, hn⟩ : ∃ b, x.n = b := ⟨_, rfl⟩
 obtain ⟨c, hc⟩ : ∃ b, x.c = b := ⟨_, rfl⟩
 obtain ⟨d, hd'⟩ : ∃ b, x.d = b := ⟨_, rfl⟩
 obtain ⟨M, hM⟩ : ∃ b, x.W0.heap.size = b := ⟨_, rfl⟩
 rw [hLb]
 rw [hLb, hB, hn, hc, hd', hM] at HBL
 rw [hB, hn] at HR
 rw [hn] at HN HIN
 have hML := Lib.hid (show M < Lb by rw [← hM, ← hLb]; exact hx.ne)
 have hMw := Lib.hid (show M < w.heap.size by rw [← hM]; exact ha.lt)
 have HSC := Lib.hid (show ∀ (w : World), y.q.kind = 2 → x.At w → Calls Tryz.prog 135 #[.pointer (some ⟨Lb, 0, none⟩), .int .i64 y.q.oth, .int .i64 (y.q.day - 1)] w fun e w' => e = .returned (.int .i64 (setS x.qs x.r y.q.oth (y.q.day - 1))) ∧ x.At w' ∧ Kp M w w' by
  intro w' hk hat
  rw [← hLb, ← hM]
  exact HS.out _ _ _ (in64_of (by have := HB.out; omega)) (in64_of (by have := HB.out; omega)) (by have := HB.out; have := HD.out; omega) hat)
 have HCE := Lib.hid (show ∀ (w : World), x.At w → Calls Tryz.prog 152 #[.pointer (some ⟨Lb, 0, none⟩), .int .i64 (x.r.getD i 0), .int .i64 y.q.day] w fun e w' => e = .returned (.bool (certB x.qs x.r (x.r.getD i 0) y.q.day)) ∧ Below w.heap.size w w' by
  intro w' hat
  rw [← hLb]
  exact certified_any x _ _ w' HX.out hat)
 obtain ⟨R, hR⟩ : ∃ R, w.heap.size = R := ⟨_, rfl⟩
 obtain ⟨W1, hW1⟩ : ∃ X, w.alloc (.cells #[.int .i64 0, .int .i64 0, .int .i64 0] 67) = X := ⟨_, rfl⟩
 have g1 : Below w.heap.size w W1 := by rw [← hW1]; exact one_more _ _
 have s1 : W1.heap.size = R + 1 := by rw [← hW1, ← hR]; simp
 have b1 : Blk W1 R 67 #[.int .i64 0, .int .i64 0, .int .i64 0] := by rw [← hW1, ← hR]; exact Blk.new _ _ _
 obtain ⟨W2, hW2⟩ : ∃ X, W1.alloc (.cells #[.int .i64 y.q.src, .int .i64 y.q.kind, .slice y.A y.n y.c, .int .i64 y.q.oth, .int .i64 y.q.par, .int .i64 y.q.day, .int .i64 y.q.thr, .int .i64 y.q.kno, .int .i64 y.q.unt] 56) = X := ⟨_, rfl⟩
 have g2 : Below W1.heap.size W1 W2 := by rw [← hW2]; exact one_more _ _
 have s2 : W2.heap.size = R + 2 := by rw [← hW2]; simp [s1]
 have b2 : Blk W2 (R + 1) 56 #[.int .i64 y.q.src, .int .i64 y.q.kind, .slice y.A y.n y.c, .int .i64 y.q.oth, .int .i64 y.q.par, .int .i64 y.q.day, .int .i64 y.q.thr, .int .i64 y.q.kno, .int .i64 y.q.unt] := by rw [← hW2, ← s1]; exact Blk.new _ _ _
 obtain ⟨W3, hW3⟩ : ∃ X, W2.alloc (.cells #[.int .i64 y.q.day, .int .i64 y.q.par, .int .i64 y.q.src] 67) = X := ⟨_, rfl⟩
 have g3 : Below W2.heap.size W2 W3 := by rw [← hW3]; exact one_more _ _
 have b3 : Blk W3 (R + 2) 67 #[.int .i64 y.q.day, .int .i64 y.q.par, .int .i64 y.q.src] := by rw [← hW3, ← s2]; exact Blk.new _ _ _
 have G3 := Lib.hid ((extTrans (extTrans g1 g2) g3))
 have HAT3 := Lib.hid (HAT.out.ext G3.out)
 have BR := Lib.hid ((b1.ext g2).ext g3)
 have BP := Lib.hid (b2.ext g3)
 have BT := Lib.hid b3
 have BL3 := Lib.hid (HBL.out.ext G3.out)
 have BL1 := Lib.hid (HBL.out.ext g1)
 obtain ⟨e0, e1, e2, e3, e4, e5, e6, e7, e8⟩ := hyc _ g1
 have l0 := BL1.out.cell 0
 have d0 := b2.cell 0
 have d4 := b2.cell 4
 have d5 := b2.cell 5
 have hii : (i : Int) < (n : Int) := by have := HIN.out; omega
 have HR3 := Lib.hid (HR.out.below G3.out)
 have HSZ := Lib.hid (show W3.heap.size = R + 3 by rw [← hW3]; simp [s2])
 have HW1 := Lib.hid hW1
 have HW2 := Lib.hid hW2
 have HW3 := Lib.hid hW3
 have HRR := Lib.hid hR
 have HS1 := Lib.hid s1
 have HS2 := Lib.hid s2
 have HXLB := Lib.hid hLb
 have HXM := Lib.hid hM
 obtain ⟨nd, hnd⟩ : ∃ s, needs y.q.kind = s := ⟨_, rfl⟩
 have HND := Lib.hid hnd
 have TN := Lib.hid (show ∀ w : World, Calls Tryz.prog 151 #[.int .i64 y.q.kind] w fun e w' => e = .returned (.int .i64 nd) ∧ w = w' by intro w; rw [← hnd]; exact needs_any _ _)
 clear hs hx ha hi hd hP hmem hyc hy htt hLb hB hn hc hd' hM hR hW1 hW2 hW3 g1 g2 g3 s1 s2 b1 b2 b3 eA hnd
 go_enter Tryz.func128, Tryz.ntmps128
 go_upto_region 1 with fail
 rw [HW1.out, HRR.out]
 go_upto_region 2 with fail
 rw [HW2.out, HS1.out]
 clear e0 e1 e2 e3 e4 e5 e6 e7 e8 l0
 go_upto_region 3 with fail
 rw [HW3.out, HS2.out]
 clear d0 d4 d5
 have p1 := BP.out.cell 1
 have p3 := BP.out.cell 3
 have p5 := BP.out.cell 5
 have p6 := BP.out.cell 6
 have r0 := BR.out.cell 0
 have r1 := BR.out.cell 1
 have r2 := BR.out.cell 2
 have q0' := BR.out.frozen 0
 have q1' := BR.out.frozen 1
 have q2' := BR.out.frozen 2
 have t0' := BT.out.cell 0
 have t1' := BT.out.cell 1
 have t2' := BT.out.cell 2
 by_cases h8 : y.q.kind = 8
 ·have h8b : (y.q.kind == 8) = true := by simpa using h8
  have HT8 := Lib.hid (titS_8 (s := setS x.qs x.r) (r := x.r) HPK.out h8)
  rw [HTT.out] at HT8
  have e := HT8.out
  subst e
  clear h8
  go_wp2_with (go_at_call 151; (with_reducible refine (TN.out _).mono ?_); rintro e w' ⟨rfl, rfl⟩)
  have y0 := (BR.out.s3 rfl ⟨y.q.day, y.q.par, y.q.src⟩).cell 0
  have y1 := (BR.out.s3 rfl ⟨y.q.day, y.q.par, y.q.src⟩).cell 1
  have y2 := (BR.out.s3 rfl ⟨y.q.day, y.q.par, y.q.src⟩).cell 2
  refine bodyPost_ret (v := .tuple #[tv ⟨y.q.day, y.q.par, y.q.src⟩, .bool false]) ?_ rfl (tit_end HX.out HAT.out HAT3.out (HXM.out ▸ Kp.of_below G3.out) (by have := HRR.out; omega))
  simp [results, Tryz.results128, go_sem, y0, y1, y2]
 ·have h8b : (y.q.kind == 8) = false := by simpa using h8
  by_cases h2 : y.q.kind = 2
  ·have h2b : (y.q.kind == 2) = true := by simpa using h2
   have HT2 := Lib.hid (HTT.out.symm.trans (titS_2 (s := setS x.qs x.r) (r := x.r) HPK.out h2))
   obtain ⟨sv, hsv⟩ : ∃ s, setS x.qs x.r y.q.oth (y.q.day - 1) = s := ⟨_, rfl⟩
   rw [hsv] at HT2 HSC
   have e := HT2.out
   subst e
   have hwd : wrap64 (y.q.day - 1) = y.q.day - 1 := wrap_in (by have := HB.out; omega)
   have T2 := Lib.hid (HSC.out W3 h2 HAT3.out)
   clear h8 h2 hsv HTT
   go_upto_region 8 with (first | (go_at_call 151; (with_reducible refine (TN.out _).mono ?_); rintro e w' ⟨rfl, rfl⟩) | (go_at_call 135; (with_reducible refine (T2.out).mono ?_); rintro e V ⟨rfl, hat, hkp⟩; have HATV := Lib.hid hat; have HKV := Lib.hid hkp; have BTV := Lib.hid (hkp.blk BT.out (by have h1 := hMw.out; have h2 := HRR.out; omega)); have BRV := Lib.hid (hkp.blk BR.out (by have h1 := hMw.out; have h2 := HRR.out; omega)); have u1 := BTV.out.cell 1; have uf := BTV.out.frozen 1; clear hat hkp))
   obtain ⟨V1, hV1⟩ : ∃ X, V.setCell ⟨R + 2, 1, none⟩ (.int .i64 sv) = X := ⟨_, rfl⟩
   have BT1 := Lib.hid (show Blk V1 (R + 2) 67 #[.int .i64 y.q.day, .int .i64 sv, .int .i64 y.q.src] by rw [← hV1]; exact BTV.out.set_ 1 _)
   have BR1 := Lib.hid (show Blk V1 R 67 #[.int .i64 0, .int .i64 0, .int .i64 0] by rw [← hV1]; exact BRV.out.far (by show R ≠ R + 2; omega) _)
   have HAT1 := Lib.hid (show x.At V1 by rw [← hV1]; exact HATV.out.set HX.out (by have h1 := hMw.out; have h2 := HRR.out; have h3 := HXM.out; show _ < R + 2; omega) (by have h1 := HAT.out.blk.lt; have h2 := HRR.out; show R + 2 ≠ _; omega) _)
   have HK1 := Lib.hid (show Kp x.W0.heap.size w V1 by rw [← hV1]; exact ((Kp.of_below G3.out).trans (HXM.out ▸ HKV.out)).set (by have h2 := HRR.out; show _ ≤ R + 2; omega) _)
   rw [hV1]
   clear hV1 p1 p3 p5 p6 r0 r1 r2 q0' q1' q2' t0' t1' t2' u1 uf
   have t0' := BT1.out.cell 0
   have t1' := BT1.out.cell 1
   have t2' := BT1.out.cell 2
   have r0 := BR1.out.cell 0
   have r1 := BR1.out.cell 1
   have r2 := BR1.out.cell 2
   have q0' := BR1.out.frozen 0
   have q1' := BR1.out.frozen 1
   have q2' := BR1.out.frozen 2
   go_region_held3 (fun W => W.cell? ⟨R + 2, 0, none⟩ = some (.int .i64 y.q.day) ∧ W.cell? ⟨R + 2, 1, none⟩ = some (.int .i64 sv) ∧ W.cell? ⟨R + 2, 2, none⟩ = some (.int .i64 y.q.src)) (go_keep) (fail)
   have y0 := (BR1.out.s3 rfl ⟨y.q.day, sv, y.q.src⟩).cell 0
   have y1 := (BR1.out.s3 rfl ⟨y.q.day, sv, y.q.src⟩).cell 1
   have y2 := (BR1.out.s3 rfl ⟨y.q.day, sv, y.q.src⟩).cell 2
   have hsb : (sv != -1) = !decide (sv = -1) := by
    by_cases e : sv = -1 <;> simp [e]
   rw [hsb]
   go_wp2_with fail
   refine bodyPost_ret (v := .tuple #[tv ⟨y.q.day, sv, y.q.src⟩, .bool (!decide (sv = -1))]) ?_ rfl (TitEnd.drew (tit_end (R := R) HX.out HAT.out HAT1.out HK1.out (by have := HRR.out; omega)))
   simp [results, Tryz.results128, go_sem, y0, y1, y2]
  ·have h2b : (y.q.kind == 2) = false := by simpa using h2
   by_cases hn0 : 0 < nd
   ·have hn0b : decide (0 < nd) = true := decide_eq_true hn0
    have HTN := Lib.hid (HTT.out.symm.trans (titS_n (s := setS x.qs x.r) (r := x.r) HPK.out h8 h2 (by rw [HND.out]; exact hn0)))
    rw [HND.out] at HTN
    obtain ⟨cb, hcb⟩ : ∃ s, certB x.qs x.r (x.r.getD i 0) y.q.day = s := ⟨_, rfl⟩
    rw [hcb] at HTN HCE
    have e := HTN.out
    subst e
    obtain ⟨rr, hrr⟩ : ∃ s, x.r.getD i 0 = s := ⟨_, rfl⟩
    rw [hrr] at HCE
    have HND2 := Lib.hid (show 0 ≤ nd ∧ nd ≤ 365 by rw [← HND.out]; exact needs_bd _)
    have hwd : wrap64 (y.q.day + nd) = y.q.day + nd := wrap_in (by have := HB.out; have := HND2.out; omega)
    obtain ⟨bi, oi, eB, hbi, -, hci⟩ := ints_at HR.out HIN.out
    rw [hrr] at hci
    subst eB
    have tf0 := BT.out.frozen 0
    clear h8 h2 hcb hrr HTT hn0
    go_upto_region 11 with (first | (go_at_call 151; (with_reducible refine (TN.out _).mono ?_); rintro e w' ⟨rfl, rfl⟩))
    obtain ⟨V1, hV1⟩ : ∃ X, W3.setCell ⟨R + 2, 0, none⟩ (.int .i64 (y.q.day + nd)) = X := ⟨_, rfl⟩
    have BT1 := Lib.hid (show Blk V1 (R + 2) 67 #[.int .i64 (y.q.day + nd), .int .i64 y.q.par, .int .i64 y.q.src] by rw [← hV1]; exact BT.out.set_ 0 _)
    have BR1 := Lib.hid (show Blk V1 R 67 #[.int .i64 0, .int .i64 0, .int .i64 0] by rw [← hV1]; exact BR.out.far (by show R ≠ R + 2; omega) _)
    have BP1 := Lib.hid (show Blk V1 (R + 1) 56 #[.int .i64 y.q.src, .int .i64 y.q.kind, .slice y.A y.n y.c, .int .i64 y.q.oth, .int .i64 y.q.par, .int .i64 y.q.day, .int .i64 y.q.thr, .int .i64 y.q.kno, .int .i64 y.q.unt] by rw [← hV1]; exact BP.out.far (by show R + 1 ≠ R + 2; omega) _)
    have HAT1 := Lib.hid (show x.At V1 by rw [← hV1]; exact HAT3.out.set HX.out (by have h1 := hMw.out; have h2 := HRR.out; have h3 := HXM.out; show _ < R + 2; omega) (by have h1 := HAT.out.blk.lt; have h2 := HRR.out; show R + 2 ≠ _; omega) _)
    have HK1 := Lib.hid (show Kp x.W0.heap.size w V1 by rw [← hV1]; exact Kp.set (A := w) (Kp.of_below G3.out) (by have h2 := HRR.out; show w.heap.size ≤ R + 2; omega) _)
    have BL1' := Lib.hid (show Blk V1 Lb 141 #[.slice (some ⟨b, o, none⟩) n c, .slice (some ⟨bi, oi, none⟩) n d, .map (some M)] by rw [← hV1]; exact BL3.out.far (by have h1 := HBL.out.lt; have h2 := HRR.out; show Lb ≠ R + 2; omega) _)
    rw [hV1]
    have GV1 := Lib.hid (show Below w.heap.size w V1 by rw [← hV1]; exact G3.out.setCell (by have h2 := HRR.out; show _ ≤ R + 2; omega) _)
    have HKS := Lib.hid (show ∀ W, Below V1.heap.size V1 W → (W.cell? ⟨R + 2, 0, none⟩ = some (.int .i64 (y.q.day + nd)) ∧ W.cell? ⟨R + 2, 1, none⟩ = some (.int .i64 y.q.par) ∧ W.cell? ⟨R + 2, 2, none⟩ = some (.int .i64 y.q.src) ∧ W.cell? ⟨R + 1, 5, none⟩ = some (.int .i64 y.q.day) ∧ W.cell? ⟨R + 1, 6, none⟩ = some (.int .i64 y.q.thr) ∧ W.cell? ⟨Lb, 1, none⟩ = some (.slice (some ⟨bi, oi, none⟩) n d) ∧ W.cell? ⟨bi, oi + i, none⟩ = some (.int .i64 rr)) from fun W g =>
     ⟨(BT1.out.ext g).cell 0, (BT1.out.ext g).cell 1, (BT1.out.ext g).cell 2, (BP1.out.ext g).cell 5, (BP1.out.ext g).cell 6, (BL1'.out.ext g).cell 1, hci W (GV1.out.trans (g.mono GV1.out.size))⟩)
    have HBI := Lib.hid hbi
    clear hV1 hci hbi p1 p3 p5 p6 r0 r1 r2 q0' q1' q2' t0' t1' t2' tf0 hwd
    have hi2 : ¬ (i : Int) < 0 := by omega
    have hw3 : IntKind.i64.wrap (y.q.thr - y.q.day) = y.q.thr - y.q.day := IntWalk.i64_in _ (by have := HB.out; omega)
    have hw4 : IntKind.i64.wrap (y.q.thr - y.q.day + 1) = y.q.thr - y.q.day + 1 := IntWalk.i64_in _ (by have := HB.out; omega)
    have hw5 : wrap64 (y.q.thr - y.q.day) = y.q.thr - y.q.day := wrap_in (by have := HB.out; omega)
    have hw6 : wrap64 (y.q.thr - y.q.day + 1) = y.q.thr - y.q.day + 1 := wrap_in (by have := HB.out; omega)
    obtain ⟨c0, c1, c2, c3, c4, c5, c6⟩ := HKS.out V1 (Below.refl _ _)
    have hne1 : R ≠ Lb := by have h1 := HBL.out.lt; have h2 := HRR.out; omega
    have hne2 : Lb ≠ R := fun e => hne1 e.symm
    have hne3 : R ≠ bi := by have h1 := HBI.out; have h2 := HRR.out; omega
    have hne4 : bi ≠ R := fun e => hne3 e.symm
    by_cases hg : nd ≤ y.q.thr - y.q.day + 1
    ·have hgb := decide_eq_true hg
     rw [hgb, Bool.true_and]
     clear hg
     go_region_held3 (fun W => W.cell? ⟨R + 2, 0, none⟩ = some (.int .i64 (y.q.day + nd)) ∧ W.cell? ⟨R + 2, 1, none⟩ = some (.int .i64 y.q.par) ∧ W.cell? ⟨R + 2, 2, none⟩ = some (.int .i64 y.q.src) ∧ W.cell? ⟨R + 1, 5, none⟩ = some (.int .i64 y.q.day) ∧ W.cell? ⟨R + 1, 6, none⟩ = some (.int .i64 y.q.thr) ∧ W.cell? ⟨Lb, 1, none⟩ = some (.slice (some ⟨bi, oi, none⟩) n d) ∧ W.cell? ⟨bi, oi + i, none⟩ = some (.int .i64 rr))
      (first
       | exact HKS.out _ (Below.refl _ _)
       | exact HKS.out _ (Below.refl _ _).drew
       | exact HKS.out _ GV.out
       | go_keep)
      (first
       | (go_at_call 152; (with_reducible refine (HCE.out _ HAT1.out.drew).mono ?_); rintro e V ⟨rfl, hgv⟩; have GV := Lib.hid (show Below V1.heap.size V1 V from (Below.refl _ V1).drew.trans hgv); have y0 := (BR1.out.ext GV.out).cell 0; have y1 := (BR1.out.ext GV.out).cell 1; have y2 := (BR1.out.ext GV.out).cell 2; have z0 := (BR1.out.ext GV.out).frozen 0; have z1 := (BR1.out.ext GV.out).frozen 1; have z2 := (BR1.out.ext GV.out).frozen 2; clear hgv)
       | (go_at_call 152; (with_reducible refine (HCE.out _ HAT1.out).mono ?_); rintro e V ⟨rfl, hgv⟩; have GV := Lib.hid hgv; have y0 := (BR1.out.ext GV.out).cell 0; have y1 := (BR1.out.ext GV.out).cell 1; have y2 := (BR1.out.ext GV.out).cell 2; have z0 := (BR1.out.ext GV.out).frozen 0; have z1 := (BR1.out.ext GV.out).frozen 1; have z2 := (BR1.out.ext GV.out).frozen 2; clear hgv))
     all_goals go_wp2_with fail
     all_goals
      refine bodyPost_ret (v := .tuple #[tv ⟨y.q.day + nd, y.q.par, y.q.src⟩, .bool (!cb)]) ?_ rfl ?_
      ·have Y0 := ((BR1.out.ext GV.out).s3 rfl ⟨y.q.day + nd, y.q.par, y.q.src⟩).cell 0
       have Y1 := ((BR1.out.ext GV.out).s3 rfl ⟨y.q.day + nd, y.q.par, y.q.src⟩).cell 1
       have Y2 := ((BR1.out.ext GV.out).s3 rfl ⟨y.q.day + nd, y.q.par, y.q.src⟩).cell 2
       simp [results, Tryz.results128, go_sem, Y0, Y1, Y2]
      ·show TitEnd x ⟨y.q.day + nd, y.q.par, y.q.src⟩ (decide (nd ≤ y.q.thr - y.q.day + 1) && !cb) w _ _
       rw [hgb, Bool.true_and]
       exact tit_end (R := R) HX.out HAT.out (HAT1.out.ext GV.out) (HK1.out.trans (Kp.of_below GV.out)) (by have := HRR.out; omega)
    ·have hgb := decide_eq_false hg
     clear hg
     have r0 := BR1.out.cell 0
     have r1 := BR1.out.cell 1
     have r2 := BR1.out.cell 2
     have q0' := BR1.out.frozen 0
     have q1' := BR1.out.frozen 1
     have q2' := BR1.out.frozen 2
     refine wp_region_held_drew (S := fun W => W.cell? ⟨R + 2, 0, none⟩ = some (.int .i64 (y.q.day + nd)) ∧ W.cell? ⟨R + 2, 1, none⟩ = some (.int .i64 y.q.par) ∧ W.cell? ⟨R + 2, 2, none⟩ = some (.int .i64 y.q.src) ∧ W.cell? ⟨R + 1, 5, none⟩ = some (.int .i64 y.q.day) ∧ W.cell? ⟨R + 1, 6, none⟩ = some (.int .i64 y.q.thr)) (by kernel_rfl) (⟨c0, c1, c2, c3, c4⟩) (fun hHeld => ?_)
     (refine held_take (i := 0) (oi := ⟨_, _, _, _, _, _⟩) (d := some 55) (v := ?_) rfl rfl (by kernel_rfl) (by kernel_rfl) (by kernel_rfl) (fun _ _ _ h => h) (by rfl) ?_ (by assumption) ?_; rotate_left; (focus (intro w hSw; (try dsimp only at hSw); go_simp; try with_reducible rfl)); (try simp only [Act.put, List.setIfInBounds_toArray, List.set_cons_zero, List.set_cons_succ]))
     (refine held_take (i := 1) (oi := ⟨_, _, _, _, _, _⟩) (d := some 56) (v := ?_) rfl rfl (by kernel_rfl) (by kernel_rfl) (by kernel_rfl) (fun _ _ _ h => h) (by rfl) ?_ (by assumption) ?_; rotate_left; (focus (intro w hSw; (try dsimp only at hSw); go_simp; try with_reducible rfl)); (try simp only [Act.put, List.setIfInBounds_toArray, List.set_cons_zero, List.set_cons_succ]))
     (refine held_take (i := 2) (oi := ⟨_, _, _, _, _, _⟩) (d := some 57) (v := ?_) rfl rfl (by kernel_rfl) (by kernel_rfl) (by kernel_rfl) (fun _ _ _ h => h) (by rfl) ?_ (by assumption) ?_; rotate_left; (focus (intro w hSw; (try dsimp only at hSw); go_simp; try with_reducible rfl)); (try simp only [Act.put, List.setIfInBounds_toArray, List.set_cons_zero, List.set_cons_succ]))
     (refine held_take (i := 3) (oi := ⟨_, _, _, _, _, _⟩) (d := some 58) (v := ?_) rfl rfl (by kernel_rfl) (by kernel_rfl) (by kernel_rfl) (fun _ _ _ h => h) (by rfl) ?_ (by assumption) ?_; rotate_left; (focus (intro w hSw; (try dsimp only at hSw); go_simp; try with_reducible rfl)); (try simp only [Act.put, List.setIfInBounds_toArray, List.set_cons_zero, List.set_cons_succ]))
     (refine held_take (i := 4) (oi := ⟨_, _, _, _, _, _⟩) (d := some 59) (v := ?_) rfl rfl (by kernel_rfl) (by kernel_rfl) (by kernel_rfl) (fun _ _ _ h => h) (by rfl) ?_ (by assumption) ?_; rotate_left; (focus (intro w hSw; (try dsimp only at hSw); go_simp; try with_reducible rfl)); (try simp only [Act.put, List.setIfInBounds_toArray, List.set_cons_zero, List.set_cons_succ]))
     (refine held_take (i := 5) (oi := ⟨_, _, _, _, _, _⟩) (d := some 60) (v := ?_) rfl rfl (by kernel_rfl) (by kernel_rfl) (by kernel_rfl) (fun _ _ _ h => h) (by rfl) ?_ (by assumption) ?_; rotate_left; (focus (intro w hSw; (try dsimp only at hSw); go_simp; try with_reducible rfl)); (try simp only [Act.put, List.setIfInBounds_toArray, List.set_cons_zero, List.set_cons_succ]))
     (refine held_take (i := 6) (oi := ⟨_, _, _, _, _, _⟩) (d := some 61) (v := ?_) rfl rfl (by kernel_rfl) (by kernel_rfl) (by kernel_rfl) (fun _ _ _ h => h) (by rfl) ?_ (by assumption) ?_; rotate_left; (focus (intro w hSw; (try dsimp only at hSw); go_simp; try with_reducible rfl)); (try simp only [Act.put, List.setIfInBounds_toArray, List.set_cons_zero, List.set_cons_succ]))
     (refine held_take (i := 7) (oi := ⟨_, _, _, _, _, _⟩) (d := some 62) (v := ?_) rfl rfl (by kernel_rfl) (by kernel_rfl) (by kernel_rfl) (fun _ _ _ h => h) (by rfl) ?_ (by assumption) ?_; rotate_left; (focus (intro w hSw; (try dsimp only at hSw); go_simp; try with_reducible rfl)); (try simp only [Act.put, List.setIfInBounds_toArray, List.set_cons_zero, List.set_cons_succ]))
     (refine held_take (i := 8) (oi := ⟨_, _, _, _, _, _⟩) (d := some 63) (v := ?_) rfl rfl (by kernel_rfl) (by kernel_rfl) (by kernel_rfl) (fun _ _ _ h => h) (by rfl) ?_ (by assumption) ?_; rotate_left; (focus (intro w hSw; (try dsimp only at hSw); go_simp; try with_reducible rfl)); (try simp only [Act.put, List.setIfInBounds_toArray, List.set_cons_zero, List.set_cons_succ]))
     (refine held_take (i := 9) (oi := ⟨_, _, _, _, _, _⟩) (d := some 64) (v := ?_) rfl rfl (by kernel_rfl) (by kernel_rfl) (by kernel_rfl) (fun _ _ _ h => h) (by rfl) ?_ (by assumption) ?_; rotate_left; (focus (intro w hSw; (try dsimp only at hSw); go_simp; try with_reducible rfl)); (try simp only [Act.put, List.setIfInBounds_toArray, List.set_cons_zero, List.set_cons_succ]))
     (refine held_skip (i := 10) (oi := ⟨_, _, _, _, _, _⟩) (d := some 65) rfl rfl (by kernel_rfl) (by kernel_rfl) (by kernel_rfl) (fun _ _ _ h => h) (by rfl) (by assumption) ?_; (try simp only [Act.put, List.setIfInBounds_toArray, List.set_cons_zero, List.set_cons_succ]))
     (refine held_skip (i := 11) (oi := ⟨_, _, _, _, _, _⟩) (d := some 66) rfl rfl (by kernel_rfl) (by kernel_rfl) (by kernel_rfl) (fun _ _ _ h => h) (by rfl) (by assumption) ?_; (try simp only [Act.put, List.setIfInBounds_toArray, List.set_cons_zero, List.set_cons_succ]))
     (refine held_skip (i := 12) (oi := ⟨_, _, _, _, _, _⟩) (d := some 67) rfl rfl (by kernel_rfl) (by kernel_rfl) (by kernel_rfl) (fun _ _ _ h => h) (by rfl) (by assumption) ?_; (try simp only [Act.put, List.setIfInBounds_toArray, List.set_cons_zero, List.set_cons_succ]))
     (refine held_skip (i := 13) (oi := ⟨_, _, _, _, _, _⟩) (d := some 68) rfl rfl (by kernel_rfl) (by kernel_rfl) (by kernel_rfl) (fun _ _ _ h => h) (by rfl) (by assumption) ?_; (try simp only [Act.put, List.setIfInBounds_toArray, List.set_cons_zero, List.set_cons_succ]))
     (refine held_skip (i := 14) (oi := ⟨_, _, _, _, _, _⟩) (d := some 69) rfl rfl (by kernel_rfl) (by kernel_rfl) (by kernel_rfl) (fun _ _ _ h => h) (by rfl) (by assumption) ?_; (try simp only [Act.put, List.setIfInBounds_toArray, List.set_cons_zero, List.set_cons_succ]))
     (refine held_skip (i := 15) (oi := ⟨_, _, _, _, _, _⟩) (d := some 70) rfl rfl (by kernel_rfl) (by kernel_rfl) (by kernel_rfl) (fun _ _ _ h => h) (by rfl) (by assumption) ?_; (try simp only [Act.put, List.setIfInBounds_toArray, List.set_cons_zero, List.set_cons_succ]))
     (refine held_skip (i := 16) (oi := ⟨_, _, _, _, _, _⟩) (d := some 71) rfl rfl (by kernel_rfl) (by kernel_rfl) (by kernel_rfl) (fun _ _ _ h => h) (by rfl) (by assumption) ?_; (try simp only [Act.put, List.setIfInBounds_toArray, List.set_cons_zero, List.set_cons_succ]))
     (refine held_skip (i := 17) (oi := ⟨_, _, _, _, _, _⟩) (d := some 72) rfl rfl (by kernel_rfl) (by kernel_rfl) (by kernel_rfl) (fun _ _ _ h => h) (by rfl) (by assumption) ?_; (try simp only [Act.put, List.setIfInBounds_toArray, List.set_cons_zero, List.set_cons_succ]))
     (refine held_skip (i := 18) (oi := ⟨_, _, _, _, _, _⟩) (d := some 73) rfl rfl (by kernel_rfl) (by kernel_rfl) (by kernel_rfl) (fun _ _ _ h => h) (by rfl) (by assumption) ?_; (try simp only [Act.put, List.setIfInBounds_toArray, List.set_cons_zero, List.set_cons_succ]))
     (refine held_skip (i := 19) (oi := ⟨_, _, _, _, _, _⟩) (d := some 74) rfl rfl (by kernel_rfl) (by kernel_rfl) (by kernel_rfl) (fun _ _ _ h => h) (by rfl) (by assumption) ?_; (try simp only [Act.put, List.setIfInBounds_toArray, List.set_cons_zero, List.set_cons_succ]))
     (refine held_skip (i := 20) (oi := ⟨_, _, _, _, _, _⟩) (d := some 75) rfl rfl (by kernel_rfl) (by kernel_rfl) (by kernel_rfl) (fun _ _ _ h => h) (by rfl) (by assumption) ?_; (try simp only [Act.put, List.setIfInBounds_toArray, List.set_cons_zero, List.set_cons_succ]))
     (refine held_skip (i := 21) (oi := ⟨_, _, _, _, _, _⟩) (d := some 76) rfl rfl (by kernel_rfl) (by kernel_rfl) (by kernel_rfl) (fun _ _ _ h => h) (by rfl) (by assumption) ?_; (try simp only [Act.put, List.setIfInBounds_toArray, List.set_cons_zero, List.set_cons_succ]))
     (refine held_take (i := 22) (oi := ⟨_, _, _, _, _, _⟩) (d := some 77) (v := ?_) rfl rfl (by kernel_rfl) (by kernel_rfl) (by kernel_rfl) (fun _ _ _ h => h) (by rfl) ?_ (by assumption) ?_; rotate_left; (focus (intro w hSw; (try dsimp only at hSw); go_simp; try with_reducible rfl)); (try simp only [Act.put, List.setIfInBounds_toArray, List.set_cons_zero, List.set_cons_succ]))
     refine wpAnyH_ready (rs := [23]) (by kernel_rfl) (by simp) ?_
     refine AllReadyH.cons (o := ⟨_, _, _, _, _, _⟩) rfl (fun K hK => ?_) AllReadyH.nil
     go_simp
     refine hK.out _ _ (by refine ⟨?_, ?_, ?_, ?_, ?_⟩ <;> go_keep) (fun hHeld => ?_)
     clear hK K
     (try simp only [Act.put, List.setIfInBounds_toArray, List.set_cons_zero, List.set_cons_succ])
     (refine held_take (i := 24) (oi := ⟨_, _, _, _, _, _⟩) (d := some 5) (v := ?_) rfl rfl (by kernel_rfl) (by kernel_rfl) (by kernel_rfl) (fun _ _ _ h => h) (by rfl) ?_ (by assumption) ?_; rotate_left; (focus (intro w hSw; (try dsimp only at hSw); go_simp; try with_reducible rfl)); (try simp only [Act.put, List.setIfInBounds_toArray, List.set_cons_zero, List.set_cons_succ]))
     refine wpAnyH_done (by kernel_rfl) ?_ _
     go_wp2_with fail
     refine bodyPost_ret (v := .tuple #[tv ⟨y.q.day + nd, y.q.par, y.q.src⟩, .bool false]) ?_ rfl ?_
     ·have Y0 := (BR1.out.s3 rfl ⟨y.q.day + nd, y.q.par, y.q.src⟩).cell 0
      have Y1 := (BR1.out.s3 rfl ⟨y.q.day + nd, y.q.par, y.q.src⟩).cell 1
      have Y2 := (BR1.out.s3 rfl ⟨y.q.day + nd, y.q.par, y.q.src⟩).cell 2
      simp [results, Tryz.results128, go_sem, Y0, Y1, Y2]
     ·exact TitEnd.drew (tit_end (R := R) HX.out HAT.out HAT1.out HK1.out (by have := HRR.out; omega))
   ·have hn0b : decide (0 < nd) = false := decide_eq_false hn0
    have HTN := Lib.hid (HTT.out.symm.trans (titS_o (s := setS x.qs x.r) (r := x.r) HPK.out h8 h2 (by rw [HND.out]; exact hn0)))
    have e := HTN.out
    subst e
    clear h8 h2 HTT hn0
    go_wp2_with (go_at_call 151; (with_reducible refine (TN.out _).mono ?_); rintro e w' ⟨rfl, rfl⟩)
    have y0 := (BR.out.s3 rfl ⟨y.q.day, y.q.par, y.q.src⟩).cell 0
    have y1 := (BR.out.s3 rfl ⟨y.q.day, y.q.par, y.q.src⟩).cell 1
    have y2 := (BR.out.s3 rfl ⟨y.q.day, y.q.par, y.q.src⟩).cell 2
    refine bodyPost_ret (v := .tuple #[tv ⟨y.q.day, y.q.par, y.q.src⟩, .bool true]) ?_ rfl (tit_end HX.out HAT.out HAT3.out (HXM.out ▸ Kp.of_below G3.out) (by have := HRR.out; omega))
    simp [results, Tryz.results128, go_sem, y0, y1, y2]
end Go.Proofs.YtehhlgdkhecacaaGreat

namespace Go.Proofs.YtehhlgdkhecacaaGreat
open Go.RowKit Go.Shelf Go.Sort
/-- The titles by the first so many proofs. -/
def titP (s : Int → Int → Int) (c : List Qf) (r : List Int) (person day : Int) (m : Nat) : List Tt := ((List.range m).filter fun i => hasT s c r person day i).map fun i => (titS s c r i).1
theorem titP_succ (s : Int → Int → Int) (c : List Qf) (r : List Int) (person day : Int) (m : Nat) :
  titP s c r person day (m + 1) = titP s c r person day m ++ (if hasT s c r person day m = true then [(titS s c r m).1] else []) := by
 unfold titP
 rw [List.range_succ, List.filter_append, List.map_append]
 congr 1
 by_cases h : hasT s c r person day m = true
 ·rw [if_pos h, List.filter_cons_of_pos h]; rfl
 ·rw [if_neg h, List.filter_cons_of_neg h]; rfl
theorem titP_len (s : Int → Int → Int) (c : List Qf) (r : List Int) (person day : Int) (m : Nat) : (titP s c r person day m).length ≤ m := by
 unfold titP
 rw [List.length_map]
 have := List.length_filter_le (fun i => hasT s c r person day i) (List.range m)
 rwa [List.length_range] at this
theorem titS_src (s : Int → Int → Int) (c : List Qf) (r : List Int) (i : Nat) : (titS s c r i).1.src = (c.getD i q0).src := by
 unfold titS
 split
 ·rfl
 ·split
  ·rfl
  ·split <;> rfl
theorem titL_apart {s : Int → Int → Int} {c : List Qf} {r : List Int} {person day : Int} (h : (c.map Qf.src).Nodup) : Apart (titL s c r person day) := by
 unfold Apart titL
 rw [List.map_map]
 have e : (List.range c.length).map (fun i => (c.getD i q0).src) = c.map Qf.src := by
  apply List.ext_getElem
  ·simp
  ·intro i h1 h2
   have h3 : i < c.length := by simpa using h2
   simp [List.getD_eq_getElem?_getD, List.getElem?_eq_getElem h3]
 have e2 : (Tt.src ∘ fun i => (titS s c r i).1) = fun i => (c.getD i q0).src := by
  funext i
  exact titS_src s c r i
 rw [e2]
 rw [← e] at h
 exact (List.filter_sublist.map _).nodup h
theorem one_tt {W : World} {g : Nat} {t : Tt} (h : Blk W g 67 (tb t)) : Arr tcells 3 W (some ⟨g, 0, none⟩) 1 [t] := Blk.arr1 (f := tcells) (size := 3) (x := t) h
theorem Li.At.lowB {x : Li} {w V : World} {B : Nat} (h : x.At w) (g : Below B w V) (hM : x.W0.heap.size < B) (hL : x.Lb < B) : x.At V := by
 obtain ⟨es, clock, hm, hg⟩ := h.map
 exact ⟨h.low.trans (g.mono (Nat.le_of_lt hM)), (g.block _ hL).trans h.blk, es, clock, (g.block _ hM).trans hm, hg⟩
theorem Kp.lowB {M : Nat} {w A V : World} (h : Kp M w A) (g : Below w.heap.size A V) : Kp M w V :=
 ⟨g.os.trans h.os, g.tape.trans h.tape, g.output.trans h.output, Nat.le_trans h.size g.size, fun k hk hm => (g.block k hk).trans (h.keep k hk hm)⟩
theorem Li.At.lb {x : Li} {w : World} (h : x.At w) : x.Lb < w.heap.size := h.blk.lt
/-- What a call of titles hands back. -/
def TitsEnd (x : Li) (l : List Tt) (w : World) (e : Ending) (w' : World) : Prop := (∃ v, e = .returned v ∧ OwnL tcells 3 67 w' w.heap.size v l) ∧ x.At w' ∧ Kp x.W0.heap.size w w'
set_option maxRecDepth 100000 in
set_option maxHeartbeats 8000000 in
theorem titles_any (x : Li) (person day : Int) (w : World) (hx : x.Ok) (ha : x.At w) (hT : ∀ (i : Nat) (W : World), x.At W → i < x.n → (x.qs.getD i q0).day ≤ day → Calls Tryz.prog 128 #[.pointer (some ⟨x.Lb, 0, none⟩), .int .i64 i] W (TitEnd x (titS (setS x.qs x.r) x.qs x.r i).1 (titS (setS x.qs x.r) x.qs x.r i).2 W)) :
  Calls Tryz.prog 86 #[.pointer (some ⟨x.Lb, 0, none⟩), .int .i64 person, .int .i64 day] w (TitsEnd x (srtT (titL (setS x.qs x.r) x.qs x.r person day)) w) := by
 have HX := Lib.hid hx
 have HLM := Lib.hid (show x.l.length = x.n from hx.len)
 have HAP := Lib.hid (titL_apart (s := setS x.qs x.r) (r := x.r) (person := person) (day := day) hx.src)
 have HTE := Lib.hid (show titL (setS x.qs x.r) x.qs x.r person day = titP (setS x.qs x.r) x.qs x.r person day x.n by unfold titL titP; rw [List.length_map, hx.len])
 have HBL := Lib.hid ha.blk
 have HN := Lib.hid hx.n
 have HAT := Lib.hid ha
 have HMW := Lib.hid ha.lt
 have HTI := Lib.hid hT
 obtain ⟨Lb, hLb⟩ : ∃ b, x.Lb = b := ⟨_, rfl⟩
 obtain ⟨A, hA⟩ : ∃ b, x.A = b := ⟨_, rfl⟩
 obtain ⟨B, hB⟩ : ∃ b, x.B = b := ⟨_, rfl⟩
 obtain ⟨n, hn⟩ : ∃ b, x.n = b := ⟨_, rfl⟩
 obtain ⟨c, hc⟩ : ∃ b, x.c = b := ⟨_, rfl⟩
 obtain ⟨d, hd'⟩ : ∃ b, x.d = b := ⟨_, rfl⟩
 obtain ⟨M, hM⟩ : ∃ b, x.W0.heap.size = b := ⟨_, rfl⟩
 have HPR := Lib.hid (show ∀ W, x.At W → Prf W A n x.l ∧ Ints W B n x.r ∧ Blk W Lb 141 #[.slice A n c, .slice B n d, .map (some M)] by
  intro W h
  have h3 := h.blk
  rw [hLb, hA, hB, hn, hc, hd', hM] at h3
  exact ⟨by have := h.prf hx; rwa [hA, hn] at this, by have := h.rd hx; rwa [hB, hn] at this, h3⟩)
 rw [hLb]
 rw [hLb, hA, hB, hn, hc, hd', hM] at HBL
 rw [hn] at HLM HN HTE HTI
 rw [hLb] at HTI
 have HXM := Lib.hid hM
 have HO0 := Lib.hid (OwnL.nil (f := tcells) (size := 3) (e := 67) w w.heap.size)
 have b0 := HBL.out.cell 0
 have b1 := HBL.out.cell 1
 obtain ⟨sl, hsl⟩ : ∃ l, srtT (titL (setS x.qs x.r) x.qs x.r person day) = l := ⟨_, rfl⟩
 have HSL := Lib.hid hsl
 rw [hsl]
 obtain ⟨tp, htp⟩ : ∃ f, titP (setS x.qs x.r) x.qs x.r person day = f := ⟨_, rfl⟩
 have HTP := Lib.hid htp
 clear hT hx ha hLb hA hB hn hc hd' hM hsl htp
 go_enter Tryz.func86, Tryz.ntmps86
 go_wp2_with fail
 clear b0 b1
 go_loopw [7, 17] (fun v i wr => ∃ k : Nat, k ≤ n ∧ OwnL tcells 3 67 wr w.heap.size v (tp k) ∧ i = .int .i64 k ∧ x.At wr ∧ Kp x.W0.heap.size w wr) (fun _ i _ => n - (intOf i).toNat)
 case atStart => exact ⟨0, Nat.zero_le _, by rw [← HTP.out]; exact HO0.out, rfl, HAT.out, Kp.refl _ _⟩
 case round =>
  obtain ⟨k, hk, ho, rfl, hat, hkp⟩ := hrel
  have HO := Lib.hid ho
  have HA' := Lib.hid hat
  have HK := Lib.hid hkp
  obtain ⟨hpr, hrd, hbl⟩ := HPR.out wr hat
  have HPRr := Lib.hid hpr
  have HRD := Lib.hid hrd
  have HBLr := Lib.hid hbl
  clear ho hat hkp hpr hrd hbl
  by_cases hkn : k < n
  ·obtain ⟨b2, o2, rfl, -, -, hc2⟩ := ints_at HRD.out hkn
   obtain ⟨rr, hrr⟩ : ∃ s, x.r.getD k 0 = s := ⟨_, rfl⟩
   rw [hrr] at hc2
   have HRR := Lib.hid hrr
   have HPK := Lib.hid (map_pf (l := x.l) (k := k) (by rw [HLM.out]; exact hkn))
   obtain ⟨b, o, rfl, -, -, -, hyc⟩ := HPRr.out.at hkn
   obtain ⟨y, hy⟩ : ∃ y, x.l.getD k p0 = y := ⟨_, rfl⟩
   rw [hy] at hyc HPK
   obtain ⟨e0, e1, e2, e3, e4, e5, e6, e7, e8⟩ := hyc _ (Below.refl _ _)
   obtain ⟨W2, hW2⟩ : ∃ X, wr.alloc (.cells #[.int .i64 y.q.src, .int .i64 y.q.kind, .slice y.A y.n y.c, .int .i64 y.q.oth, .int .i64 y.q.par, .int .i64 y.q.day, .int .i64 y.q.thr, .int .i64 y.q.kno, .int .i64 y.q.unt] 56) = X := ⟨_, rfl⟩
   have GW2 := Lib.hid (show Below wr.heap.size wr W2 by rw [← hW2]; exact one_more _ _)
   have BW2 := Lib.hid (show Blk W2 wr.heap.size 56 #[.int .i64 y.q.src, .int .i64 y.q.kind, .slice y.A y.n y.c, .int .i64 y.q.oth, .int .i64 y.q.par, .int .i64 y.q.day, .int .i64 y.q.thr, .int .i64 y.q.kno, .int .i64 y.q.unt] by rw [← hW2]; exact Blk.new _ _ _)
   have BL2 := Lib.hid (HBLr.out.ext GW2.out)
   have r0 := hc2 W2 GW2.out
   have HW2 := Lib.hid hW2
   have HQK := Lib.hid (show x.qs.getD k q0 = y.q from HPK.out)
   have hwr2 : wrap64 ((k : Int) + 1) = (k : Int) + 1 := wrap_in (by have := HN.out; omega)
   have hki : (k : Int) < (n : Int) := by omega
   have HA2 := Lib.hid (HA'.out.ext GW2.out)
   have HK2 := Lib.hid (HK.out.trans (Kp.of_below GW2.out))
   have HSU := Lib.hid (titP_succ (setS x.qs x.r) x.qs x.r person day k)
   have HHT := Lib.hid (show hasT (setS x.qs x.r) x.qs x.r person day k = (decide (rr = person) && decide (y.q.day ≤ day) && (titS (setS x.qs x.r) x.qs x.r k).2) by unfold hasT; rw [HRR.out, HQK.out])
   rw [HHT.out, HTP.out] at HSU
   obtain ⟨tt, htt⟩ : ∃ t, titS (setS x.qs x.r) x.qs x.r k = t := ⟨_, rfl⟩
   have T2 := fun (h3 : y.q.day ≤ day) => HTI.out k W2 HA2.out hkn (by rw [HQK.out]; exact h3)
   rw [htt] at HSU T2
   have HT2 := Lib.hid T2
   obtain ⟨tt, is⟩ := tt
   dsimp only at HSU HT2
   have HTL := Lib.hid (show (tp k).length + 1 ≤ 1000000 by rw [← HTP.out]; have := titP_len (setS x.qs x.r) x.qs x.r person day k; have := HN.out; omega)
   clear hW2 hrr hy hyc hc2 htt T2
   go_upto_region 5 with fail
   rw [HW2.out]
   clear e0 e1 e2 e3 e4 e5 e6 e7 e8
   have b0 := BL2.out.cell 0
   have b1 := BL2.out.cell 1
   have d5 := BW2.out.cell 5
   by_cases h1 : rr = person
   ·have h1b : (rr != person) = false := by simpa using h1
    by_cases h2 : y.q.day ≤ day
    ·have h2b : decide (day < y.q.day) = false := decide_eq_false (by omega)
     have T3 := Lib.hid (HT2.out h2)
     have HS3 := Lib.hid (show tp (k + 1) = tp k ++ (if is = true then [tt] else []) by rw [HSU.out, decide_eq_true h1, decide_eq_true h2]; rfl)
     clear h1 h2
     go_upto_region 7 with (go_at_call 128; (with_reducible refine (T3.out).mono ?_); rintro e V ⟨rfl, hat, hkp⟩; have HAV := Lib.hid hat; have HKV := Lib.hid (HK2.out.trans hkp); have HOV := Lib.hid (((HO.out.ext GW2.out).kp hkp HMW.out)); clear hat hkp)
     obtain ⟨V3, hV3⟩ : ∃ X, V.alloc (.cells #[.int .i64 tt.day, .int .i64 tt.par, .int .i64 tt.src] 67) = X := ⟨_, rfl⟩
     have G3 := Lib.hid (show Below V.heap.size V V3 by rw [← hV3]; exact one_more _ _)
     have B3 := Lib.hid (show Blk V3 V.heap.size 67 #[.int .i64 tt.day, .int .i64 tt.par, .int .i64 tt.src] by rw [← hV3]; exact Blk.new _ _ _)
     have H3 := Lib.hid hV3
     clear hV3
     rw [H3.out]
     have t0' := B3.out.cell 0
     have t1' := B3.out.cell 1
     have t2' := B3.out.cell 2
     cases is with
     | false =>
      go_wp2_with fail
      go_roundw
      case rel => exact ⟨k + 1, by omega, by rw [HS3.out]; simpa using HOV.out.ext G3.out, by rw [hwr2]; rfl, HAV.out.ext G3.out, HKV.out.trans (Kp.of_below G3.out)⟩
      case measure => rw [hwr2]; simp only [intOf]; omega
     | true =>
      have GX := Lib.hid (one_more V3 (.cells #[.int .i64 tt.day, .int .i64 tt.par, .int .i64 tt.src] 67))
      have HI := Lib.hid (one_tt (t := tt) (Blk.new V3 67 #[.int .i64 tt.day, .int .i64 tt.par, .int .i64 tt.src]))
      have HOX := Lib.hid ((HOV.out.ext G3.out).ext GX.out)
      have HBB := Lib.hid (show w.heap.size ≤ (V3.alloc (.cells #[.int .i64 tt.day, .int .i64 tt.par, .int .i64 tt.src] 67)).heap.size by have h1 := HKV.out.size; have h2 := G3.out.size; have h3 := GX.out.size; omega)
      go_wp2_with (first | (at_builtin; go_loud (refine wpList_app kdT (by rfl) _ _ (by rfl) w.heap.size _ (tp k) (by rfl) HOX.out _ 1 1 [tt] (by rfl) HI.out HTL.out HBB.out ?_); intro v' w' ho hgr hz; have HO2 := Lib.hid ho; have GV := Lib.hid (HOX.out.below hgr (Nat.le_refl _) HBB.out); clear ho hgr hz))
      go_roundw
      case rel => exact ⟨k + 1, by omega, by rw [HS3.out]; exact HO2.out, by rw [hwr2]; rfl, ((HAV.out.ext G3.out).ext GX.out).lowB GV.out HMW.out HAT.out.lb, Kp.lowB ((HKV.out.trans (Kp.of_below G3.out)).trans (Kp.of_below GX.out)) GV.out⟩
      case measure => rw [hwr2]; simp only [intOf]; omega
    ·have h2b : decide (day < y.q.day) = true := decide_eq_true (by omega)
     have HS3 := Lib.hid (show tp (k + 1) = tp k by rw [HSU.out, decide_eq_false h2, Bool.and_false, Bool.false_and]; simp)
     clear h1 h2
     go_wp2_with fail
     go_roundw
     case rel => exact ⟨k + 1, by omega, by rw [HS3.out]; exact HO.out.ext GW2.out, by rw [hwr2]; rfl, HA2.out, HK2.out⟩
     case measure => rw [hwr2]; simp only [intOf]; omega
   ·have h1b : (rr != person) = true := by simpa using h1
    have HS3 := Lib.hid (show tp (k + 1) = tp k by rw [HSU.out, decide_eq_false h1, Bool.false_and, Bool.false_and]; simp)
    clear h1
    go_wp2_with fail
    go_roundw
    case rel => exact ⟨k + 1, by omega, by rw [HS3.out]; exact HO.out.ext GW2.out, by rw [hwr2]; rfl, HA2.out, HK2.out⟩
    case measure => rw [hwr2]; simp only [intOf]; omega
  ·obtain rfl : k = n := by omega
   have HSZ := Lib.hid (show w.heap.size ≤ wr.heap.size from HK.out.size)
   have TS := Lib.hid (fun (v : Value) (h : OwnL tcells 3 67 wr w.heap.size v (tp k)) => sortT_any w.heap.size v (tp k) wr h (by rw [← HTP.out]; have := titP_len (setS x.qs x.r) x.qs x.r person day k; have := HN.out; omega) HSZ.out (by rw [← HTP.out, ← HTE.out]; exact HAP.out))
   have HSE := Lib.hid (show srtT (tp k) = sl by rw [← HSL.out, HTE.out, HTP.out])
   go_wp2_with (go_at_call 129; (with_reducible refine (TS.out _ HO.out).mono ?_); rintro e V ⟨rfl, hown, hbel⟩; have HOV := Lib.hid hown; have GV := Lib.hid hbel; clear hown hbel)
   go_ret
   exact ⟨⟨_, rfl, by rw [← HSE.out]; exact HOV.out⟩, HA'.out.lowB GV.out HMW.out HAT.out.lb, HK.out.lowB GV.out⟩
end Go.Proofs.YtehhlgdkhecacaaGreat

namespace Go.Proofs.YtehhlgdkhecacaaGreat
open Go.RowKit Go.Shelf Go.Sort
theorem lastT_snoc (l : List Tt) (t : Tt) (day : Int) : lastT (l ++ [t]) day = if t.day ≤ day then t.par else lastT l day := by
 unfold lastT
 rw [List.foldl_append]
 rfl
theorem Li.Ok.days {x : Li} (hx : x.Ok) : Days x.qs := fun i hi => by
 have h1 : i < x.l.length := by rwa [List.length_map] at hi
 rw [map_pf h1]
 exact (day_bd (hx.q _ (mem_pf h1))).1
set_option maxRecDepth 100000 in
set_option maxHeartbeats 8000000 in
theorem life_any (x : Li) (person day : Int) (w : World) (hx : x.Ok) (ha : x.At w) (hp : In64 person) (hd : In64 day)
  (hT : ∀ (i : Nat) (W : World), x.At W → i < x.n → (x.qs.getD i q0).day ≤ day → Calls Tryz.prog 128 #[.pointer (some ⟨x.Lb, 0, none⟩), .int .i64 i] W (TitEnd x (titS (setS x.qs x.r) x.qs x.r i).1 (titS (setS x.qs x.r) x.qs x.r i).2 W)) :
  Calls Tryz.prog 135 #[.pointer (some ⟨x.Lb, 0, none⟩), .int .i64 person, .int .i64 day] w fun e w' => e = .returned (.int .i64 (setS x.qs x.r person day)) ∧ x.At w' ∧ Kp x.W0.heap.size w w' := by
 have HX := Lib.hid hx
 have HPP := Lib.hid hp
 have HDD := Lib.hid hd
 have HAT := Lib.hid ha
 have HMW := Lib.hid ha.lt
 have HTL := Lib.hid (fun (W : World) (h : x.At W) => titles_any x person day W hx h hT)
 have HSS := Lib.hid (setS_eq (r := x.r) hx.days person day)
 obtain ⟨sv, hsv⟩ : ∃ s, setS x.qs x.r person day = s := ⟨_, rfl⟩
 obtain ⟨tl, htl⟩ : ∃ s, srtT (titL (setS x.qs x.r) x.qs x.r person day) = s := ⟨_, rfl⟩
 rw [htl] at HTL HSS
 rw [hsv] at HSS
 rw [hsv]
 have HSV := Lib.hid hsv
 have htlen : tl.length ≤ 1000 := by
  rw [← htl, (srtT_perm _).length_eq]
  unfold titL
  rw [List.length_map]
  have := List.length_filter_le (fun i => hasT (setS x.qs x.r) x.qs x.r person day i) (List.range x.qs.length)
  rw [List.length_range] at this
  have h2 := hx.n
  have h3 : x.qs.length = x.n := by rw [List.length_map, hx.len]
  omega
 have HLEN := Lib.hid htlen
 obtain ⟨W1, hW1⟩ : ∃ X, w.alloc (.cells #[.int .i64 person, .int .i64 day] 65) = X := ⟨_, rfl⟩
 have GW1 := Lib.hid (show Below w.heap.size w W1 by rw [← hW1]; exact one_more _ _)
 have BW1 := Lib.hid (show Blk W1 w.heap.size 65 #[.int .i64 person, .int .i64 day] by rw [← hW1]; exact Blk.new _ _ _)
 have HW1 := Lib.hid hW1
 have HA1 := Lib.hid (ha.ext GW1.out)
 obtain ⟨es, clock, hm, hg⟩ := HA1.out.map
 obtain ⟨is, v, hv, hlook⟩ := run_look (w := W1.drew) hm hg hp hd
 have HV := Lib.hid hv
 have HSN := Lib.hid (fun (V : World) (h : x.At V) => h.map)
 obtain ⟨Lb, hLb⟩ : ∃ b, x.Lb = b := ⟨_, rfl⟩
 obtain ⟨A, hA⟩ : ∃ b, x.A = b := ⟨_, rfl⟩
 obtain ⟨B, hB⟩ : ∃ b, x.B = b := ⟨_, rfl⟩
 obtain ⟨n, hn⟩ : ∃ b, x.n = b := ⟨_, rfl⟩
 obtain ⟨c, hc⟩ : ∃ b, x.c = b := ⟨_, rfl⟩
 obtain ⟨d, hd'⟩ : ∃ b, x.d = b := ⟨_, rfl⟩
 obtain ⟨M, hM⟩ : ∃ b, x.W0.heap.size = b := ⟨_, rfl⟩
 have HBL := Lib.hid (show ∀ W, x.At W → Blk W Lb 141 #[.slice A n c, .slice B n d, .map (some M)] by
  intro W h
  have h3 := h.blk
  rwa [hLb, hA, hB, hn, hc, hd', hM] at h3)
 rw [hLb]
 rw [hLb] at HTL
 rw [hM] at hlook
 have HXM := Lib.hid hM
 have b2 := (HBL.out _ HA1.out).cell 2
 have k0 := BW1.out.cell 0
 have k1 := BW1.out.cell 1
 have HLO := Lib.hid hlook
 clear hT hx ha hp hd hsv htl htlen hW1 hm hg hv hlook hLb hA hB hn hc hd' hM
 go_enter Tryz.func135, Tryz.ntmps135
 go_upto_region 2 with fail
 rw [HW1.out]
 have L2 := HLO.out
 go_region_held3 (fun W => W.cell? ⟨Lb, 2, none⟩ = some (.map (some M)) ∧ W.cell? ⟨w.heap.size, 0, none⟩ = some (.int .i64 person) ∧ W.cell? ⟨w.heap.size, 1, none⟩ = some (.int .i64 day) ∧ (Instr.lookup 139 (.map (some M)) (.agg #[.int .i64 person, .int .i64 day]) true).run Tryz.prog W = .ok (.tuple #[.int .i64 v, .bool is]) W)
  (exact ⟨b2, k0, k1, L2⟩) (fail)
 clear b2 k0 k1 L2
 cases is with
 | true =>
  have e : v = sv := by rw [HV.out rfl, HSV.out]
  subst e
  go_wp2_with fail
  go_ret
  exact ⟨rfl, HA1.out.drew, (Kp.of_below GW1.out).drew⟩
 | false =>
  have T := Lib.hid (HTL.out _ HA1.out.drew)
  go_upto_region 7 with (go_at_call 86; (with_reducible refine (T.out).mono ?_); rintro e V ⟨⟨vv, rfl, hown⟩, hat, hkp⟩; obtain ⟨A', c', rfl, -, -, harr, -⟩ := OwnL.arr kdT hown; have HAV := Lib.hid hat; have HKV := Lib.hid (((Kp.of_below GW1.out).drew).trans hkp); have HKD := Lib.hid (Kp.trans ((Kp.refl _ W1).drew) hkp); have HARR := Lib.hid harr; clear hown hat hkp harr)
  go_loopw [10, 32] (fun o i wr => ∃ k : Nat, k ≤ tl.length ∧ o = .int .i64 (lastT (tl.take k) day) ∧ i = .int .i64 k ∧ Below V.heap.size V wr) (fun _ i _ => tl.length - (intOf i).toNat)
  case atStart => exact ⟨0, Nat.zero_le _, rfl, rfl, Below.refl _ _⟩
  case round =>
   obtain ⟨k, hk, rfl, rfl, hg⟩ := hrel
   have HG := Lib.hid hg
   clear hg
   by_cases hkn : k < tl.length
   ·obtain ⟨b2, o2, tt, eA, -, hx2, hc2⟩ := HARR.out.at hkn
    subst eA
    have e0 := hc2 wr HG.out 0 _ rfl
    have e1 := hc2 wr HG.out 1 _ rfl
    have e2 := hc2 wr HG.out 2 _ rfl
    simp only [Nat.add_zero] at e0
    have HSN := Lib.hid (show lastT (tl.take (k + 1)) day = if tt.day ≤ day then tt.par else lastT (tl.take k) day by
     rw [take_snoc (d := tt) hkn, lastT_snoc, List.getD_eq_getElem?_getD, hx2]; rfl)
    obtain ⟨W2, hW2⟩ : ∃ X, wr.alloc (.cells #[.int .i64 tt.day, .int .i64 tt.par, .int .i64 tt.src] 67) = X := ⟨_, rfl⟩
    have GW2 := Lib.hid (show Below wr.heap.size wr W2 by rw [← hW2]; exact one_more _ _)
    have BW2 := Lib.hid (show Blk W2 wr.heap.size 67 #[.int .i64 tt.day, .int .i64 tt.par, .int .i64 tt.src] by rw [← hW2]; exact Blk.new _ _ _)
    have HW2 := Lib.hid hW2
    have GX := Lib.hid (HG.out.trans (GW2.out.mono HG.out.size))
    have hwr2 : wrap64 ((k : Int) + 1) = (k : Int) + 1 := wrap_in (by have := HLEN.out; omega)
    have hki : (k : Int) < (tl.length : Int) := by omega
    obtain ⟨lk, hlk⟩ : ∃ s, lastT (tl.take k) day = s := ⟨_, rfl⟩
    rw [hlk] at HSN
    rw [hlk]
    clear hW2 hx2 hc2 hlk
    go_upto_region 9 with fail
    rw [HW2.out]
    clear e0 e1 e2
    have d0 := BW2.out.cell 0
    have d1 := BW2.out.cell 1
    by_cases h1 : tt.day ≤ day
    ·have h1b := decide_eq_true h1
     have HS2 := Lib.hid (HSN.out.trans (if_pos h1))
     clear h1
     go_wp2_with fail
     go_roundw
     case rel => exact ⟨k + 1, by omega, by rw [HS2.out], by rw [hwr2]; rfl, GX.out⟩
     case measure => rw [hwr2]; simp only [intOf]; omega
    ·have h1b := decide_eq_false h1
     have HS2 := Lib.hid (HSN.out.trans (if_neg h1))
     clear h1
     go_wp2_with fail
     go_roundw
     case rel => exact ⟨k + 1, by omega, by rw [HS2.out], by rw [hwr2]; rfl, GX.out⟩
     case measure => rw [hwr2]; simp only [intOf]; omega
   ·have e : k = tl.length := by omega
    subst e
    have HSE := Lib.hid (show lastT (tl.take tl.length) day = sv by rw [List.take_of_length_le (Nat.le_refl _)]; exact HSS.out.symm)
    rw [HSE.out]
    have HAR := Lib.hid (HAV.out.ext HG.out)
    obtain ⟨es2, clock2, hm2, hg2⟩ := HAR.out.map
    obtain ⟨es3, clock3, hup, hg3⟩ := run_seen (w := wr.drew) hm2 hg2 HPP.out HDD.out
    rw [HXM.out, HSV.out] at hup
    have HUP := Lib.hid hup
    have HG3 := Lib.hid hg3
    have BKR := Lib.hid (((HKD.out.blk BW1.out (by have h1 := HMW.out; omega)).ext HG.out))
    have b2 := (HBL.out _ HAR.out).cell 2
    have k0 := BKR.out.cell 0
    have k1 := BKR.out.cell 1
    have HAP := Lib.hid (show x.At (wr.drew.putObj M (.map es3 clock3)) by rw [← HXM.out]; exact HAR.out.drew.put HX.out clock3 HG3.out)
    have BKP := Lib.hid (show Blk (wr.drew.putObj M (.map es3 clock3)) w.heap.size 65 #[.int .i64 person, .int .i64 day] from (World.putObj_heap_other (by have h1 := HMW.out; have h2 := HXM.out; omega)).trans BKR.out)
    have p2 := (HBL.out _ HAP.out).cell 2
    have q0' := BKP.out.cell 0
    have q1' := BKP.out.cell 1
    clear hm2 hg2 hup hg3
    go_upto_region 12 with fail
    have L2 := HUP.out
    go_region_held3 (fun W => W.cell? ⟨Lb, 2, none⟩ = some (.map (some M)) ∧ W.cell? ⟨w.heap.size, 0, none⟩ = some (.int .i64 person) ∧ W.cell? ⟨w.heap.size, 1, none⟩ = some (.int .i64 day)) (first | exact ⟨b2, k0, k1⟩ | exact ⟨p2, q0', q1'⟩) (fail)
    all_goals go_wp2_with fail
    all_goals go_ret
    all_goals exact ⟨rfl, HAP.out, by rw [← HXM.out]; exact ((HKV.out.trans (Kp.of_below HG.out)).drew).put _⟩
theorem set_all (x : Li) (hx : x.Ok) : ∀ k : Nat, SetC x k
 | 0 => fun person day w hp hd hk ha => life_any x person day w hx ha hp hd fun i W _ hi hdi => by
  have h1 := hx.days i (by rw [List.length_map, hx.len]; exact hi)
  omega
 | k + 1 => fun person day w hp hd hk ha => life_any x person day w hx ha hp hd fun i W h hi hdi => title_any x k (set_all x hx k) i W hx h hi (by omega)
theorem settled_any (x : Li) (person day : Int) (w : World) (hx : x.Ok) (ha : x.At w) (hp : In64 person) (hd : In64 day) :
  Calls Tryz.prog 135 #[.pointer (some ⟨x.Lb, 0, none⟩), .int .i64 person, .int .i64 day] w fun e w' => e = .returned (.int .i64 (setS x.qs x.r person day)) ∧ x.At w' ∧ Kp x.W0.heap.size w w' :=
 set_all x hx (day + 1).toNat person day w hp hd (Nat.le_refl _) ha
theorem titlesT_any (x : Li) (person day : Int) (w : World) (hx : x.Ok) (ha : x.At w) :
  Calls Tryz.prog 86 #[.pointer (some ⟨x.Lb, 0, none⟩), .int .i64 person, .int .i64 day] w (TitsEnd x (srtT (titL (setS x.qs x.r) x.qs x.r person day)) w) :=
 titles_any x person day w hx ha fun i W h hi hdi => title_any x (day.toNat) (set_all x hx _) i W hx h hi (by omega)
/-- What is asked of proofs and a reading. -/
structure Rdg (w : World) (A : Option Addr) (n : Nat) (B : Option Addr) (l : List Pf) (r : List Int) : Prop where
 prf : Prf w A n l
 rd : Ints w B n r
 n : n ≤ 1000
 q : ∀ p ∈ l, isQf p.q = true
 src : ((l.map Pf.q).map Qf.src).Nodup
theorem live_any (A : Option Addr) (n c : Nat) (B : Option Addr) (d : Nat) (l : List Pf) (r : List Int) (w : World) (h : Rdg w A n B l r) :
  Calls Tryz.prog 85 #[.slice A n c, .slice B n d] w fun e w' => ∃ x : Li, e = .returned (.pointer (some ⟨x.Lb, 0, none⟩)) ∧ x.Ok ∧ x.At w' ∧ x.W0 = w ∧ x.l = l ∧ x.r = r ∧ Below w.heap.size w w' := by
 have HR := Lib.hid h
 have hmk : (Instr.makeMap 139 none).run Tryz.prog w = .ok (.map (some w.heap.size)) (w.alloc (.map #[] 0)) := by simp [Instr.makeMap, go_sem]
 obtain ⟨W1, hW1⟩ : ∃ X, w.alloc (.map #[] 0) = X := ⟨_, rfl⟩
 have g1 : Below w.heap.size w W1 := by rw [← hW1]; exact one_more _ _
 have m1 : MapAt W1 w.heap.size #[] 0 := by rw [← hW1]; exact World.alloc_heap_new w _
 have s1 : W1.heap.size = w.heap.size + 1 := by rw [← hW1]; simp
 rw [hW1] at hmk
 have G1 := Lib.hid g1
 have M1 := Lib.hid m1
 have S1 := Lib.hid s1
 clear hW1 g1 m1 s1 h
 go_enter Tryz.func85, Tryz.ntmps85
 go_wp2_with fail
 go_ret
 have g2 := one_more W1 (.cells #[.slice A n c, .slice B n d, .map (some w.heap.size)] 141)
 refine ⟨⟨w, W1.heap.size, A, n, c, B, d, l, r⟩, rfl, ⟨HR.out.prf, HR.out.rd, HR.out.n, HR.out.q, HR.out.src, by show w.heap.size < W1.heap.size; have := S1.out; omega⟩, ⟨extTrans G1.out g2, Blk.new W1 _ _, #[], 0, M1.out.ext g2, Good.nil _ _⟩, rfl, rfl, rfl, extTrans G1.out g2⟩
theorem settledBy_any (A : Option Addr) (n c : Nat) (B : Option Addr) (d : Nat) (l : List Pf) (r : List Int) (person day : Int) (w : World) (h : Rdg w A n B l r) (hp : In64 person) (hd : In64 day) :
  Calls Tryz.prog 89 #[.slice A n c, .slice B n d, .int .i64 person, .int .i64 day] w fun e w' => e = .returned (.int .i64 (setS (l.map Pf.q) r person day)) ∧ Below w.heap.size w w' := by
 have TL := Lib.hid (live_any A n c B d l r w h)
 have TS := Lib.hid (fun (x : Li) (W : World) (hx : x.Ok) (ha : x.At W) => settled_any x person day W hx ha hp hd)
 clear h hp hd
 go_enter Tryz.func89, Tryz.ntmps89
 go_wp2_with (first
  | (go_at_call 85; (with_reducible refine (TL.out).mono ?_); rintro e W1 ⟨x, rfl, hx, ha, e1, e2, e3, hg⟩; have HX := Lib.hid hx; have HA := Lib.hid ha; have HE := Lib.hid (And.intro e1 (And.intro e2 e3)); have HG := Lib.hid hg; clear hx ha e1 e2 e3 hg)
  | (go_at_call 135; (with_reducible refine (TS.out _ _ HX.out HA.out).mono ?_); rintro e W2 ⟨rfl, ha2, hk2⟩; have HK2 := Lib.hid hk2; clear ha2 hk2))
 go_ret
 obtain ⟨e1, e2, e3⟩ := HE.out
 refine ⟨?_, ?_⟩
 ·show _ = Ending.returned (.int .i64 (setS (l.map Pf.q) r person day))
  rw [← e2, ← e3]
  rfl
 ·have h2 := HK2.out
  rw [e1] at h2
  exact HG.out.trans (h2.below HG.out.size)
end Go.Proofs.YtehhlgdkhecacaaGreat

namespace Go.Proofs.YtehhlgdkhecacaaGreat
open Go.RowKit Go.Shelf Go.Sort
/-- The error of what is asked for of a person, a parish, on days. -/
def askE (l : List Qf) (person parish : Int) (days : List Int) : Int := if okL l = true then (if rng person 1 999 = true then (if rng parish 0 5 = true then lookE l days else 27) else 26) else 21
/-- .. if a reading is wanted. -/
def readE (l : List Qf) (person parish : Int) (days : List Int) (known : Int) : Int := if askE l person parish days = 0 then (if isRead (cntL l known) = true then 0 else 24) else askE l person parish days
/-- What look and read hand back. -/
def AskEnd (l : List Pf) (known E : Int) (w : World) (e : Ending) (w' : World) : Prop :=
 ∃ A n c, e = .returned (.tuple #[.slice A n c, .int .i64 E]) ∧ (E = 0 → Prf w' A n (l.filter fun p => cnt p.q known) ∧ n ≤ 60 ∧ n ≤ c ∧ c ≤ maxLen ∧ ∀ b o, A = some ⟨b, o, none⟩ → w.heap.size ≤ b) ∧ (E ≠ 0 → A = none ∧ n = 0 ∧ c = 0) ∧ Below w.heap.size w w'
theorem askEnd_no {l : List Pf} {known E : Int} {w V : World} (h : E ≠ 0) (hg : Below w.heap.size w V) : AskEnd l known E w (.returned (.tuple #[.slice none 0 0, .int .i64 E])) V :=
 ⟨none, 0, 0, rfl, fun e => absurd e h, fun _ => ⟨rfl, rfl, rfl⟩, hg⟩
theorem askEnd_ok {l : List Pf} {known : Int} {w V : World} {A : Option Addr} {n c : Nat} (h : Prf V A n (l.filter fun p => cnt p.q known)) (hn : n ≤ 60) (hc : n ≤ c) (hm : c ≤ maxLen) (hA : ∀ b o, A = some ⟨b, o, none⟩ → w.heap.size ≤ b) (hg : Below w.heap.size w V) : AskEnd l known 0 w (.returned (.tuple #[.slice A n c, .int .i64 0])) V :=
 ⟨A, n, c, rfl, fun _ => ⟨h, hn, hc, hm, hA⟩, fun e => absurd rfl e, hg⟩
theorem askE_ok {l : List Qf} {person parish : Int} {days : List Int} (h : askE l person parish days = 0) : okL l = true ∧ rng person 1 999 = true ∧ rng parish 0 5 = true ∧ ∀ d ∈ days, rng d 0 4166 = true := by
 unfold askE at h
 by_cases h1 : okL l = true
 ·rw [if_pos h1] at h
  by_cases h2 : rng person 1 999 = true
  ·rw [if_pos h2] at h
   by_cases h3 : rng parish 0 5 = true
   ·rw [if_pos h3] at h
    unfold lookE at h
    rw [if_pos h1] at h
    refine ⟨h1, h2, h3, fun d hd => ?_⟩
    by_cases h4 : days.any badDay = true
    ·rw [if_pos h4] at h; exact absurd h (by decide)
    ·rw [List.any_eq_true] at h4
     cases h5 : rng d 0 4166 with
     | true => rfl
     | false => exact absurd ⟨d, hd, by unfold badDay; rw [h5]; rfl⟩ h4
   ·rw [if_neg h3] at h; exact absurd h (by decide)
  ·rw [if_neg h2] at h; exact absurd h (by decide)
 ·rw [if_neg h1] at h; exact absurd h (by decide)
theorem rdg_of {l : List Pf} (h : okL (l.map Pf.q) = true) {known : Int} {w : World} {A B : Option Addr} {n : Nat} {r : List Int} (hp : Prf w A n (l.filter fun p => cnt p.q known)) (hr : Ints w B n r) (hn : n ≤ 60) : Rdg w A n B (l.filter fun p => cnt p.q known) r := by
 refine ⟨hp, hr, by omega, fun p hp => ?_, ?_⟩
 ·exact okL_all h _ (List.mem_map.2 ⟨p, (List.mem_filter.1 hp).1, rfl⟩)
 ·have h1 : ((l.map Pf.q).map Qf.src).Nodup := ((okL_src h).imp fun hlt => by omega)
  rw [List.map_map] at h1 ⊢
  exact (List.filter_sublist.map _).nodup h1
/-- The record of what is asked. -/
abbrev askV (person parish : Int) (D : Option Addr) (m k : Nat) : Value := .agg #[.int .i64 person, .int .i64 parish, .slice D m k]
set_option maxRecDepth 100000 in
set_option maxHeartbeats 8000000 in
theorem askLook_any (person parish : Int) (D : Option Addr) (m k : Nat) (days : List Int) (known : Int) (A : Option Addr) (n c : Nat) (l : List Pf) (w : World) (ha : Prf w A n l) (hn : n ≤ 9223372036854775807) (hd : Ints w D m days) (hm : m ≤ 1000) (h1m : 1 ≤ m) (hk : days.getD (days.length - 1) 0 = known) :
  Calls Tryz.prog 83 #[askV person parish D m k, .slice A n c] w (AskEnd l known (askE (l.map Pf.q) person parish days) w) := by
 obtain ⟨W1, hW1⟩ : ∃ X, w.alloc (.cells #[.int .i64 person, .int .i64 parish, .slice D m k] 84) = X := ⟨_, rfl⟩
 have g1 : Below w.heap.size w W1 := by rw [← hW1]; exact one_more _ _
 have b1 : Blk W1 w.heap.size 84 #[.int .i64 person, .int .i64 parish, .slice D m k] := by rw [← hW1]; exact Blk.new _ _ _
 have T := check_any A n c l W1 (ha.below g1) hn
 have HTL := Lib.hid (fun (W : World) (g : Below w.heap.size w W) => look_any A n c l D m k days W (ha.below g) hn (hd.below g) hm h1m)
 have HPI := Lib.hid (fun (W : World) (g : Below w.heap.size w W) p (hp : p ∈ l.filter fun p => cnt p.q known) => (ha.p p (List.mem_filter.1 hp).1).below g)
 have HLEN := Lib.hid (show okL (l.map Pf.q) = true → (l.filter fun p => cnt p.q known).length ≤ 60 from fun h => by
  have h1 := okL_len h
  have h2 := List.length_filter_le (fun p : Pf => cnt p.q known) l
  rw [List.length_map] at h1
  omega)
 have HKN := Lib.hid hk
 have HAE := Lib.hid (show askE (l.map Pf.q) person parish days = if okL (l.map Pf.q) = true then (if rng person 1 999 = true then (if rng parish 0 5 = true then lookE (l.map Pf.q) days else 27) else 26) else 21 from rfl)
 have TP := isPerson_any person
 have TQ := isParish_any parish
 obtain ⟨ae, hae⟩ : ∃ s, askE (l.map Pf.q) person parish days = s := ⟨_, rfl⟩
 rw [hae] at HAE ⊢
 obtain ⟨ok, hok⟩ : ∃ s, okL (l.map Pf.q) = s := ⟨_, rfl⟩
 obtain ⟨op, hop⟩ : ∃ s, rng person 1 999 = s := ⟨_, rfl⟩
 obtain ⟨oq, hoq⟩ : ∃ s, rng parish 0 5 = s := ⟨_, rfl⟩
 rw [hok] at HAE HLEN T
 rw [hop] at HAE TP
 rw [hoq] at HAE TQ
 have G1 := Lib.hid g1
 have B1 := Lib.hid b1
 have HW1 := Lib.hid hW1
 have HTP := Lib.hid TP
 have HTQ := Lib.hid TQ
 clear ha hd hk hae hok hop hoq g1 b1 hW1 TP TQ
 cases ok with
 | false =>
  have T' := Lib.hid T
  clear T
  rw [show err false 21 = 21 from rfl] at T'
  have e : ae = 21 := HAE.out
  subst e
  go_enter Tryz.func83, Tryz.ntmps83
  go_upto_region 1 with fail
  rw [HW1.out]
  go_wp2_with (go_at_call 48; (with_reducible refine (T'.out).mono ?_); rintro e V ⟨rfl, hg⟩; have GV := Lib.hid (G1.out.trans (hg.mono G1.out.size)); clear hg)
  go_ret2
  exact askEnd_no (by decide) GV.out
 | true =>
  have T' := Lib.hid T
  clear T
  rw [show err true 21 = 0 from rfl] at T'
  go_enter Tryz.func83, Tryz.ntmps83
  go_upto_region 1 with fail
  rw [HW1.out]
  go_upto_region 3 with (go_at_call 48; (with_reducible refine (T'.out).mono ?_); rintro e V ⟨rfl, hg⟩; have GV := Lib.hid (G1.out.trans (hg.mono G1.out.size)); have BV := Lib.hid (B1.out.ext hg); clear hg)
  have d0 := BV.out.cell 0
  have d1 := BV.out.cell 1
  have d2 := BV.out.cell 2
  cases op with
  | false =>
   have e : ae = 26 := HAE.out
   subst e
   go_wp2_with (go_at_call 125; (with_reducible refine (HTP.out _).mono ?_); rintro e w' ⟨rfl, rfl⟩)
   go_ret2
   exact askEnd_no (by decide) GV.out
  | true =>
   cases oq with
   | false =>
    have e : ae = 27 := HAE.out
    subst e
    go_wp2_with (first | (go_at_call 125; (with_reducible refine (HTP.out _).mono ?_); rintro e w' ⟨rfl, rfl⟩) | (go_at_call 126; (with_reducible refine (HTQ.out _).mono ?_); rintro e w' ⟨rfl, rfl⟩))
    go_ret2
    exact askEnd_no (by decide) GV.out
   | true =>
    have e : ae = lookE (l.map Pf.q) days := HAE.out
    have HE := Lib.hid e
    clear e
    go_wp2_with (first
     | (go_at_call 125; (with_reducible refine (HTP.out _).mono ?_); rintro e w' ⟨rfl, rfl⟩)
     | (go_at_call 126; (with_reducible refine (HTQ.out _).mono ?_); rintro e w' ⟨rfl, rfl⟩)
     | (go_at_call 73; (with_reducible refine (HTL.out _ GV.out).mono ?_); rintro e V2 ⟨⟨v, rfl, ho, hz⟩, hg⟩; have HO := Lib.hid ho; have HZ := Lib.hid hz; have G2 := Lib.hid (GV.out.trans (hg.mono GV.out.size)); have GV2 := Lib.hid hg; clear ho hz hg))
    go_ret2
    have HO2 := HO.out
    have HZ2 := HZ.out
    rw [← HE.out] at HO2 HZ2 ⊢
    by_cases hz : ae = 0
    ·subst hz
     have ho := HO2 rfl
     rw [HKN.out] at ho
     obtain ⟨A2, c2, rfl, hc1, hc2, hpr⟩ := own_prf ho (HPI.out V2 G2.out)
     exact askEnd_ok hpr (HLEN.out (by trivial)) hc1 hc2 (fun b o e => by
      subst e
      have h1 := (own_block ho (k := b) rfl).1
      exact Nat.le_trans GV.out.size h1) G2.out
    ·have e2 := HZ2 hz
     subst e2
     exact askEnd_no hz G2.out
set_option maxRecDepth 100000 in
set_option maxHeartbeats 8000000 in
theorem askRead_any (person parish : Int) (D : Option Addr) (m k : Nat) (days : List Int) (known : Int) (A : Option Addr) (n c : Nat) (l : List Pf) (w : World) (ha : Prf w A n l) (hn : n ≤ 9223372036854775807) (hd : Ints w D m days) (hm : m ≤ 1000) (h1m : 1 ≤ m) (hk : days.getD (days.length - 1) 0 = known) :
  Calls Tryz.prog 66 #[askV person parish D m k, .slice A n c] w (AskEnd l known (readE (l.map Pf.q) person parish days known) w) := by
 obtain ⟨W1, hW1⟩ : ∃ X, w.alloc (.cells #[.int .i64 person, .int .i64 parish, .slice D m k] 84) = X := ⟨_, rfl⟩
 have g1 : Below w.heap.size w W1 := by rw [← hW1]; exact one_more _ _
 have b1 : Blk W1 w.heap.size 84 #[.int .i64 person, .int .i64 parish, .slice D m k] := by rw [← hW1]; exact Blk.new _ _ _
 have T := askLook_any person parish D m k days known A n c l W1 (ha.below g1) hn (hd.below g1) hm h1m hk
 have HRE := Lib.hid (show readE (l.map Pf.q) person parish days known = if askE (l.map Pf.q) person parish days = 0 then (if isRead (cntL (l.map Pf.q) known) = true then 0 else 24) else askE (l.map Pf.q) person parish days from rfl)
 have HFM := Lib.hid (show (l.filter fun p => cnt p.q known).map Pf.q = cntL (l.map Pf.q) known from filt_map l (fun q => cnt q known))
 obtain ⟨re, hre⟩ : ∃ s, readE (l.map Pf.q) person parish days known = s := ⟨_, rfl⟩
 rw [hre] at HRE ⊢
 obtain ⟨ae, hae⟩ : ∃ s, askE (l.map Pf.q) person parish days = s := ⟨_, rfl⟩
 rw [hae] at HRE T
 obtain ⟨ir, hir⟩ : ∃ s, isRead (cntL (l.map Pf.q) known) = s := ⟨_, rfl⟩
 rw [hir] at HRE
 have HIR := Lib.hid hir
 have G1 := Lib.hid g1
 have B1 := Lib.hid b1
 have HW1 := Lib.hid hW1
 have HT := Lib.hid T
 have d0 := b1.cell 0
 have d1 := b1.cell 1
 have d2 := b1.cell 2
 clear ha hd hk hre hae hir g1 b1 hW1 T
 by_cases hz : ae = 0
 ·subst hz
  go_enter Tryz.func66, Tryz.ntmps66
  go_upto_region 1 with fail
  rw [HW1.out]
  go_upto_region 2 with (go_at_call 83; (with_reducible refine (HT.out).mono ?_); rintro e V ⟨A2, n2, c2, rfl, ho, -, hg⟩; have HO := Lib.hid (ho rfl); have GV := Lib.hid (G1.out.trans (hg.mono G1.out.size)); clear ho hg)
  have TR := Lib.hid (isRead_any A2 n2 c2 _ V HO.out.1 (by have := HO.out.2.1; omega))
  rw [HFM.out, HIR.out] at TR
  cases ir with
  | true =>
   have e : re = 0 := HRE.out
   subst e
   go_wp2_with (go_at_call 109; (with_reducible refine (TR.out).mono ?_); rintro e V2 ⟨rfl, hg⟩; have GV2 := Lib.hid hg; clear hg)
   go_ret2
   exact askEnd_ok (HO.out.1.below GV2.out) HO.out.2.1 HO.out.2.2.1 HO.out.2.2.2.1 (fun b o e => Nat.le_trans G1.out.size (HO.out.2.2.2.2 b o e)) (GV.out.trans (GV2.out.mono GV.out.size))
  | false =>
   have e : re = 24 := HRE.out
   subst e
   go_wp2_with (go_at_call 109; (with_reducible refine (TR.out).mono ?_); rintro e V2 ⟨rfl, hg⟩; have GV2 := Lib.hid hg; clear hg)
   go_ret2
   exact askEnd_no (by decide) (GV.out.trans (GV2.out.mono GV.out.size))
 ·have hzb : (ae == 0) = false := by simpa using hz
  have HZ := Lib.hid hz
  have e : re = ae := by have := HRE.out; rwa [if_neg hz] at this
  subst e
  clear hz
  go_enter Tryz.func66, Tryz.ntmps66
  go_upto_region 1 with fail
  rw [HW1.out]
  go_wp2_with (go_at_call 83; (with_reducible refine (HT.out).mono ?_); rintro e V ⟨A2, n2, c2, rfl, -, ho, hg⟩; obtain ⟨rfl, rfl, rfl⟩ := ho HZ.out; have GV := Lib.hid (G1.out.trans (hg.mono G1.out.size)); clear ho hg)
  go_ret2
  exact askEnd_no HZ.out GV.out
end Go.Proofs.YtehhlgdkhecacaaGreat

namespace Go.Proofs.YtehhlgdkhecacaaGreat
open Go.RowKit Go.Shelf
/-- The first error of what is asked for. -/
def rAskE (l : List Qf) (a b d k : Int) (per par : Bool) : Int :=
 if okL l = true then (if (per && !rng a 1 999) = true then 26 else if (par && !rng b 0 5) = true then 27 else if (rng d 0 4166 && rng k 0 4166) = true then 0 else 6) else 21
theorem rAsk_one (l : List Qf) (k : Int) : rAskE l 0 0 0 k false false = lookE l [k] := by
 unfold rAskE lookE
 by_cases h : okL l = true
 ·rw [if_pos h, if_pos h, show rng 0 0 4166 = true by decide, Bool.false_and, Bool.false_and, if_neg (by decide), if_neg (by decide), Bool.true_and, List.any_cons, List.any_nil, Bool.or_false]
  unfold badDay
  cases rng k 0 4166 <;> simp
 ·rw [if_neg h, if_neg h]
set_option maxRecDepth 100000 in
set_option maxHeartbeats 8000000 in
theorem refAsked_any (A : Option Addr) (n c : Nat) (l : List Pf) (a b d k : Int) (per par : Bool) (w : World) (ha : Prf w A n l) (hn : n ≤ 9223372036854775807) :
  Calls Tryz.prog 77 #[.slice A n c, .agg #[.int .i64 a, .int .i64 b, .int .i64 d, .int .i64 k], .bool per, .bool par] w fun e w' => e = .returned (.int .i64 (rAskE (l.map Pf.q) a b d k per par)) ∧ Below w.heap.size w w' := by
 obtain ⟨W1, hW1⟩ : ∃ W1, w.alloc (.cells #[.int .i64 a, .int .i64 b, .int .i64 d, .int .i64 k] 24) = W1 := ⟨_, rfl⟩
 have G1 := Lib.hid (show Below w.heap.size w W1 by rw [← hW1]; exact one_more _ _)
 have B1 := Lib.hid (show Blk W1 w.heap.size 24 #[.int .i64 a, .int .i64 b, .int .i64 d, .int .i64 k] by rw [← hW1]; exact Blk.new _ _ _)
 have HW1 := Lib.hid hW1
 have T := refCheck_any A n c l W1 (ha.below G1.out) hn
 have T1 := refPerson_any a
 have T2 := in_any b 0 5
 have T3 := refDay_any d
 have T4 := refDay_any k
 unfold rAskE
 generalize okL (l.map Pf.q) = ok at T ⊢
 generalize rng a 1 999 = b1 at T1 ⊢
 generalize rng b 0 5 = b2 at T2 ⊢
 generalize rng d 0 4166 = b3 at T3 ⊢
 generalize rng k 0 4166 = b4 at T4 ⊢
 have C1 := Lib.hid T1
 have C2 := Lib.hid T2
 have C3 := Lib.hid T3
 have C4 := Lib.hid T4
 clear ha hW1 T1 T2 T3 T4
 cases ok with
 | false =>
  rw [show err false 21 = 21 from rfl] at T
  have C := Lib.hid T
  clear T
  go_enter Tryz.func77, Tryz.ntmps77
  go_upto_region 1 with fail
  rw [HW1.out]
  go_wp2_with (go_at_call 65; (with_reducible refine (C.out).mono ?_); rintro e V ⟨rfl, hg⟩; have GV := Lib.hid (G1.out.trans (hg.mono G1.out.size)); clear hg)
  go_ret
  exact ⟨rfl, GV.out⟩
 | true =>
  rw [show err true 21 = 0 from rfl] at T
  have C := Lib.hid T
  clear T
  go_enter Tryz.func77, Tryz.ntmps77
  go_upto_region 1 with fail
  rw [HW1.out]
  go_upto_region 3 with (go_at_call 65; (with_reducible refine (C.out).mono ?_); rintro e V ⟨rfl, hg⟩; have GV := Lib.hid (G1.out.trans (hg.mono G1.out.size)); have BV := Lib.hid (B1.out.ext hg); clear hg)
  have k0 := BV.out.cell 0
  have k1 := BV.out.cell 1
  have k2 := BV.out.cell 2
  have k3 := BV.out.cell 3
  cases per <;> cases par <;> cases b1 <;> cases b2 <;> cases b3 <;> cases b4
  all_goals
   go_wp2_with (first
    | (go_at_call 120; (with_reducible refine (C1.out _).mono ?_); rintro e w' ⟨rfl, rfl⟩)
    | (go_at_call 108; (with_reducible refine (C2.out _).mono ?_); rintro e w' ⟨rfl, rfl⟩)
    | (go_at_call 119; (with_reducible refine (C3.out _).mono ?_); rintro e w' ⟨rfl, rfl⟩)
    | (go_at_call 119; (with_reducible refine (C4.out _).mono ?_); rintro e w' ⟨rfl, rfl⟩))
   go_ret
   exact ⟨rfl, GV.out⟩
set_option maxRecDepth 100000 in
set_option maxHeartbeats 8000000 in
theorem refCountingF_any (A : Option Addr) (n c : Nat) (l : List Pf) (d : Int) (w : World) (ha : Prf w A n l) (hn : n ≤ 9223372036854775807) :
  Calls Tryz.prog 61 #[.slice A n c, .int .i64 d] w (CntEnd (l.map Pf.q) d w) := by
 have TA := Lib.hid (by have := refAsked_any A n c l 0 0 0 d false false w ha hn; rwa [rAsk_one] at this)
 have HOK := Lib.hid (fun (h : lookE (l.map Pf.q) [d] = 0) => (show okL (l.map Pf.q) = true by
  unfold lookE at h
  by_cases e : okL (l.map Pf.q) = true
  ·exact e
  ·rw [if_neg e] at h; exact absurd h (by decide)))
 have HN6 := Lib.hid (fun (h : okL (l.map Pf.q) = true) => (show n ≤ 60 by have := okL_len h; rw [List.length_map, ha.len] at this; exact this))
 have TC := Lib.hid (fun (h : n ≤ 60) W (g : Below w.heap.size w W) => refCounting_any A n c l d W (ha.below g) (by omega))
 have HPF := Lib.hid (fun W (g : Below w.heap.size w W) p (hp : p ∈ l.filter fun p => cnt p.q d) => (ha.p p (List.mem_filter.1 hp).1).below g)
 have HFL := Lib.hid (fun (h : n ≤ 60) => (show (l.filter fun p => cnt p.q d).length ≤ 1000 by have h1 := List.length_filter_le (fun p : Pf => cnt p.q d) l; have h2 := ha.len; omega))
 have HSL := Lib.hid (show ((l.filter fun p => cnt p.q d).map fun p => p.q.src) = srcL (cntL (l.map Pf.q) d) by
  rw [← srcL_map]; unfold cntL; rw [← filt_map])
 obtain ⟨le, hle⟩ : ∃ e, lookE (l.map Pf.q) [d] = e := ⟨_, rfl⟩
 have HLE := Lib.hid hle
 rw [hle] at TA HOK
 obtain ⟨fl, hfl⟩ : ∃ s, (l.filter fun p => cnt p.q d) = s := ⟨_, rfl⟩
 rw [hfl] at TC HPF HFL HSL
 clear ha hle hfl
 by_cases h0 : le = 0
 ·have hn6 := HN6.out (HOK.out h0)
  subst h0
  go_enter Tryz.func61, Tryz.ntmps61
  go_wp2_with (first
   | (go_at_call 77; (with_reducible refine (TA.out).mono ?_); rintro e V ⟨rfl, hg⟩; have GV := Lib.hid hg; clear hg)
   | (go_at_call 71; (with_reducible refine (TC.out hn6 _ GV.out).mono ?_); rintro e V2 ⟨⟨v, rfl, ho⟩, hg⟩; obtain ⟨A2, c2, rfl, -, -, hp2⟩ := own_prf ho (fun p hp => (HPF.out _ (GV.out.trans (hg.mono GV.out.size)) p hp)); have HP2 := Lib.hid hp2; have G2 := Lib.hid (GV.out.trans (hg.mono GV.out.size)); clear ho hg hp2)
   | (go_at_call 70; (with_reducible refine (refSources_any _ _ _ _ _ HP2.out (HFL.out hn6)).mono ?_); rintro e V3 ⟨⟨v, rfl, ho⟩, hg⟩; obtain ⟨A3, c3, rfl, h31, h32, har3, hbk3⟩ := OwnL.arr kdI ho; have HA3 := Lib.hid har3; have G3 := Lib.hid (G2.out.trans (hg.mono G2.out.size)); clear ho hg har3 hbk3 h31 h32))
  go_ret2
  refine cntEnd_ok HLE.out ?_ G3.out
  have := HA3.out
  rw [show (fl.map fun p => p.q.src).length = fl.length from List.length_map _, HSL.out] at this
  exact this
 ·have hne : (le != 0) = true := by simpa using h0
  have HNE := Lib.hid h0
  clear h0
  go_enter Tryz.func61, Tryz.ntmps61
  go_wp2_with (first
   | (go_at_call 77; (with_reducible refine (TA.out).mono ?_); rintro e V ⟨rfl, hg⟩; have GV := Lib.hid hg; clear hg))
  go_ret2
  exact cntEnd_no HLE.out HNE.out GV.out
end Go.Proofs.YtehhlgdkhecacaaGreat

namespace Go.Proofs.YtehhlgdkhecacaaGreat
open Go.RowKit Go.Shelf Go.Sort
/-- The error of what is asked for by a reading. -/
def byRdE (l : List Qf) (person known : Int) (days : List Int) (r : List Int) : Int := if askE l person 0 days = 0 then (if isRd (cntL l known) r = true then 0 else 23) else askE l person 0 days
/-- The titles of a person by a reading. -/
def titlesS (c : List Qf) (r : List Int) (person : Int) : List Tt := srtT (titL (setS c r) c r person 4166)
def TitlesEnd (c : List Qf) (r : List Int) (person E : Int) (w : World) (e : Ending) (w' : World) : Prop :=
 ∃ A n k, e = .returned (.tuple #[.slice A n k, .int .i64 E]) ∧ Arr tcells 3 w' A n (if E = 0 then titlesS c r person else []) ∧ Below w.heap.size w w'
theorem titlesEnd_no {c : List Qf} {r : List Int} {person E : Int} {w V : World} (h : E ≠ 0) (hg : Below w.heap.size w V) : TitlesEnd c r person E w (.returned (.tuple #[.slice none 0 0, .int .i64 E])) V :=
 ⟨none, 0, 0, rfl, by rw [if_neg h]; exact Arr.nil_, hg⟩
theorem titlesEnd_ok {c : List Qf} {r : List Int} {person : Int} {w V : World} {v : Value} {base : Nat} (h : OwnL tcells 3 67 V base v (titlesS c r person)) (hg : Below w.heap.size w V) : TitlesEnd c r person 0 w (.returned (.tuple #[v, .int .i64 0])) V := by
 obtain ⟨A, c', rfl, -, -, ha, -⟩ := OwnL.arr kdT h
 exact ⟨A, _, c', rfl, by rw [if_pos rfl]; exact ha, hg⟩
theorem two_ints {w : World} {b : Nat} {x y : Int} (h : Blk w b 3 #[.int .i64 x, .int .i64 y]) : Ints w (some ⟨b, 0, none⟩) 2 [x, y] := by
 refine ⟨rfl, fun _ => ⟨b, 0, rfl, h.lt, fun k z hz j u hu => ?_⟩⟩
 have hj : j = 0 := by
  rcases j with _ | j
  ·rfl
  ·simp [icells] at hu
 subst hj
 have hu2 : u = .int .i64 z := by simpa [icells] using hu.symm
 subst hu2
 rcases k with _ | _ | k
 ·simp at hz; subst hz; exact h.cell 0
 ·simp at hz; subst hz; exact h.cell 1
 ·simp at hz
set_option maxRecDepth 100000 in
set_option maxHeartbeats 8000000 in
theorem titlesF_any (A : Option Addr) (n c : Nat) (l : List Pf) (B : Option Addr) (m d : Nat) (rd : List Int) (person known : Int) (w : World) (ha : Prf w A n l) (hn : n ≤ 9223372036854775807) (hb : Ints w B m rd) (hmd : m ≤ d) (hd : d ≤ 9223372036854775807) :
  Calls Tryz.prog 21 #[.slice A n c, .slice B m d, .int .i64 person, .int .i64 known] w (TitlesEnd (cntL (l.map Pf.q) known) rd person (byRdE (l.map Pf.q) person known [known] rd) w) := by
 obtain ⟨W1, hW1⟩ : ∃ X, w.alloc (.cells #[.int .i64 known] 3) = X := ⟨_, rfl⟩
 have g1 : Below w.heap.size w W1 := by rw [← hW1]; exact one_more _ _
 have b1 : Blk W1 w.heap.size 3 #[.int .i64 known] := by rw [← hW1]; exact Blk.new _ _ _
 have T := askLook_any person 0 (some ⟨w.heap.size, 0, none⟩) 1 1 [known] known A n c l W1 (ha.below g1) hn (one_int b1) (by decide) (by decide) rfl
 have HRE := Lib.hid (show byRdE (l.map Pf.q) person known [known] rd = if askE (l.map Pf.q) person 0 [known] = 0 then (if isRd (cntL (l.map Pf.q) known) rd = true then 0 else 23) else askE (l.map Pf.q) person 0 [known] from rfl)
 have HFM := Lib.hid (show (l.filter fun p => cnt p.q known).map Pf.q = cntL (l.map Pf.q) known from filt_map l (fun q => cnt q known))
 have HOK := Lib.hid (fun (h : askE (l.map Pf.q) person 0 [known] = 0) => (askE_ok h).1)
 have HRD := Lib.hid (fun (W : World) (g : Below w.heap.size w W) => hb.below g)
 have HMD := Lib.hid (And.intro hmd hd)
 obtain ⟨re, hre⟩ : ∃ s, byRdE (l.map Pf.q) person known [known] rd = s := ⟨_, rfl⟩
 rw [hre] at HRE ⊢
 obtain ⟨ae, hae⟩ : ∃ s, askE (l.map Pf.q) person 0 [known] = s := ⟨_, rfl⟩
 rw [hae] at HRE T HOK
 obtain ⟨ir, hir⟩ : ∃ s, isRd (cntL (l.map Pf.q) known) rd = s := ⟨_, rfl⟩
 rw [hir] at HRE
 have HIR := Lib.hid hir
 have G1 := Lib.hid g1
 have HW1 := Lib.hid hW1
 have HT := Lib.hid T
 clear ha hb hmd hd hre hae hir g1 b1 hW1 T
 by_cases hz : ae = 0
 ·subst hz
  go_enter Tryz.func21, Tryz.ntmps21
  go_upto_region 2 with (go_at_call 83; rw [HW1.out]; (with_reducible refine (HT.out).mono ?_); rintro e V ⟨A2, n2, c2, rfl, ho, -, hg⟩; have HO := Lib.hid (ho rfl); have GV := Lib.hid (G1.out.trans (hg.mono G1.out.size)); clear ho hg)
  have TR := Lib.hid (isReading_any A2 n2 c2 _ B m d rd V HO.out.1 (by have := HO.out.2.1; omega) (HRD.out V GV.out) HMD.out.1 HMD.out.2)
  rw [HFM.out, HIR.out] at TR
  cases ir with
  | false =>
   have e : re = 23 := HRE.out
   subst e
   go_wp2_with (go_at_call 84; (with_reducible refine (TR.out).mono ?_); rintro e V2 ⟨rfl, hg⟩; have GV2 := Lib.hid (GV.out.trans (hg.mono GV.out.size)); clear hg)
   go_ret2
   exact titlesEnd_no (by decide) GV2.out
  | true =>
   have e : re = 0 := HRE.out
   subst e
   have HLEN := Lib.hid (show rd.length = n2 by
    have h1 := HIR.out
    unfold isRd at h1
    rw [Bool.and_eq_true, decide_eq_true_eq] at h1
    rw [h1.1, ← HFM.out, List.length_map, HO.out.1.len])
   have hmn : m = n2 := by rw [← HLEN.out, (HRD.out V GV.out).1]
   subst hmn
   have TL := Lib.hid (fun (W : World) (g : Below V.heap.size V W) => live_any A2 m c2 B d _ rd W (rdg_of (HOK.out (by trivial)) (HO.out.1.below g) ((HRD.out V GV.out).below g) HO.out.2.1))
   have TT := Lib.hid (fun (x : Li) (W : World) (hx : x.Ok) (ha : x.At W) => titlesT_any x person 4166 W hx ha)
   go_wp2_with (first
    | (go_at_call 84; (with_reducible refine (TR.out).mono ?_); rintro e V2 ⟨rfl, hg⟩; have GV2 := Lib.hid hg; clear hg)
    | (go_at_call 85; (with_reducible refine (TL.out _ GV2.out).mono ?_); rintro e V3 ⟨x, rfl, hx, ha, e1, e2, e3, hg⟩; have HX := Lib.hid hx; have HA := Lib.hid ha; have HE := Lib.hid (And.intro e1 (And.intro e2 e3)); have HG := Lib.hid hg; clear hx ha e1 e2 e3 hg)
    | (go_at_call 86; (with_reducible refine (TT.out _ _ HX.out HA.out).mono ?_); rintro e V4 ⟨⟨v, rfl, hown⟩, -, hk⟩; have HO4 := Lib.hid hown; have HK := Lib.hid hk; clear hown hk))
   go_ret2
   obtain ⟨e1, e2, e3⟩ := HE.out
   have h2 := HK.out
   rw [e1] at h2
   have h3 := HO4.out
   have e4 : x.qs = cntL (l.map Pf.q) known := by show x.l.map Pf.q = _; rw [e2]; exact HFM.out
   rw [e4, e3] at h3
   exact titlesEnd_ok h3 (GV.out.trans ((GV2.out.trans ((HG.out.trans (h2.below HG.out.size)).mono GV2.out.size)).mono GV.out.size))
 ·have hzb : (ae != 0) = true := by simpa using hz
  have HZ := Lib.hid hz
  have e : re = ae := by have := HRE.out; rwa [if_neg hz] at this
  subst e
  clear hz
  go_enter Tryz.func21, Tryz.ntmps21
  go_wp2_with (go_at_call 83; rw [HW1.out]; (with_reducible refine (HT.out).mono ?_); rintro e V ⟨A2, n2, c2, rfl, -, ho, hg⟩; obtain ⟨rfl, rfl, rfl⟩ := ho HZ.out; have GV := Lib.hid (G1.out.trans (hg.mono G1.out.size)); clear ho hg)
  go_ret2
  exact titlesEnd_no HZ.out GV.out
end Go.Proofs.YtehhlgdkhecacaaGreat

namespace Go.Proofs.YtehhlgdkhecacaaGreat
section
variable {P : Program} {ops : Array Oper} {Q : Exit → Act → World → Prop} {md : Region.Mode} {S : World → Prop} {last : Nat}
theorem waits_not {m i : Nat} {listed : Array Bool} (hw : Region.waitsFor md ops m i = true) (hun : listed.getD i true = false) : m ∉ Region.ready md ops listed := fun hm => by
 obtain ⟨oj, hoj, e, he, hb, hon⟩ := Region.waitsFor_spec hw
 obtain ⟨-, o2, ho2, hall⟩ := mem_ready.1 hm
 cases hoj.symm.trans ho2
 have := hall e he hb
 rw [hon, getD_both hun] at this
 cases this
/-- A way from 'i' to the last operation: each waits for the one ahead, none has come up. -/
def pathB (md : Region.Mode) (ops : Array Oper) (last : Nat) (listed : Array Bool) : Nat → List Nat → Bool
 | i, [] => decide (i = last)
 | i, m :: ms => Region.waitsFor md ops m i && (!(listed.getD m true) && pathB md ops last listed m ms)
theorem path_not {listed : Array Bool} : ∀ (ms : List Nat) (i : Nat), pathB md ops last listed i ms = true → listed.getD i true = false → i ≠ last → last ∉ Region.ready md ops listed
 | [], i, h, _, hil => absurd (of_decide_eq_true h) hil
 | m :: ms, i, h, hun, _ => by
  simp only [pathB, Bool.and_eq_true, Bool.not_eq_true'] at h
  by_cases e : m = last
  ·subst e; exact waits_not h.1 hun
  ·exact path_not ms m h.2.2 h.2.1 e
theorem path_step {listed : Array Bool} {j : Nat} (hj : j ∈ Region.ready md ops listed) : ∀ (ms : List Nat) (i : Nat), pathB md ops last listed i ms = true → listed.getD i true = false → pathB md ops last (listed.setIfInBounds j true) i ms = true
 | [], _, h, _ => h
 | m :: ms, i, h, hun => by
  simp only [pathB, Bool.and_eq_true, Bool.not_eq_true'] at h ⊢
  have : j ≠ m := fun e => by subst e; exact waits_not h.1 hun hj
  exact ⟨h.1, by rw [getD_set_ne true this]; exact h.2.1, path_step hj ms m h.2.2 h.2.1⟩
end
section
variable {P : Program} {ops : Array Oper} {Q : Exit → Act → World → Prop} {md : Region.Mode} {S : World → Prop} {last : Nat}
def wpAnyU (P : Program) (md : Region.Mode) (ops : Array Oper) (Q : Exit → Act → World → Prop) (S : World → Prop) (last : Nat) : Nat → Array Bool → Act → World → Prop
 | 0, listed, a, w => Region.ready md ops listed = [] ∧ Q .normal a w
 | fuel + 1, listed, a, w =>
  (Region.ready md ops listed = [] → Q .normal a w) ∧
  ∀ i ∈ Region.ready md ops listed, wpOp P ops Q i (fun a' w' => if i = last then wpAny P md ops Q fuel (listed.setIfInBounds i true) a' w' else S w' ∧ wpAnyU P md ops Q S last fuel (listed.setIfInBounds i true) a' w') a w
theorem wpAny_of_upto : ∀ (fuel : Nat) (listed : Array Bool) (a : Act) (w : World), wpAnyU P md ops Q S last fuel listed a w → wpAny P md ops Q fuel listed a w
 | 0, _, _, _, h => h
 | fuel + 1, _, _, _, h => ⟨h.1, fun i hi => wpOp_mono (fun a' w' h' => by
   by_cases e : i = last
   ·rw [if_pos e] at h'; exact h'
   ·rw [if_neg e] at h'; exact wpAny_of_upto fuel _ a' w' h'.2) (h.2 i hi)⟩
theorem wpAnyU_first {i : Nat} (ms : List Nat) {oi : Oper} {v : Value} (hi : ops[i]? = some oi) (hsel : ∀ (j : Nat) (o : Oper) cs b, ops[j]? = some o → o.op ≠ .select cs b)
  (hQ : ∀ c a w, Q (.panic c) (a.put oi.dst v) w → Q (.panic c) a w) :
  ∀ (fuel : Nat) (listed : Array Bool) (a : Act) (w : World),
   (∀ j oj, ops[j]? = some oj → j ≠ i → listed.getD j true = false → (∀ e ∈ oj.after, Region.binds md e = true → e.on ≠ i) → oi.apart ops oj = true) →
   i ∈ Region.ready md ops listed → i ≠ last → pathB md ops last listed i ms = true → YieldsIf P ops S oi v a → S w →
   wpAnyU P md ops Q S last fuel (listed.setIfInBounds i true) (a.put oi.dst v) w → wpAnyU P md ops Q S last (fuel + 1) listed a w := by
 intro fuel
 induction fuel with
 | zero =>
  intro listed a w _ hr hil hla hy hS H
  refine ⟨fun h => (by rw [h] at hr; cases hr), fun j hj => ?_⟩
  by_cases hji : j = i
  ·subst hji; exact hy.wpOp hi hS (by rw [if_neg hil]; exact ⟨hS, H⟩)
  ·have := ready_mono hj hji
   rw [H.1] at this
   cases this
 | succ fuel ih =>
  intro listed a w hfree hr hil hla hy hS H
  refine ⟨fun h => (by rw [h] at hr; cases hr), fun j hj => ?_⟩
  by_cases hji : j = i
  ·subst hji; exact hy.wpOp hi hS (by rw [if_neg hil]; exact ⟨hS, H⟩)
  ·have h1 := H.2 j (ready_mono hj hji)
   obtain ⟨hjun, oj, hoj, hall⟩ := mem_ready.1 hj
   have h0 := (mem_ready.1 hr).1
   have hnot : ∀ e ∈ oj.after, Region.binds md e = true → e.on ≠ i := fun e he hb heq => by
    have h1 := hall e he hb
    rw [heq, getD_both h0] at h1; cases h1
   have hjl : j ≠ last := fun e => path_not ms i hla h0 hil (e ▸ hj)
   have h2 := wpOp_putIf hoj (hfree j oj hoj hji hjun hnot) (fun cs b => hsel i oi cs b hi) (fun cs b => hsel j oj cs b hoj) hQ hy h1
   have hfree' : ∀ k ok, ops[k]? = some ok → k ≠ i → (listed.setIfInBounds j true).getD k true = false →
     (∀ e ∈ ok.after, Region.binds md e = true → e.on ≠ i) → oi.apart ops ok = true := fun k ok hk hki hun hno => by
    refine hfree k ok hk hki ?_ hno
    by_cases hjk : j = k
    ·subst hjk; exact hjun
    ·rw [getD_set_ne true hjk] at hun; exact hun
   refine wpOp_mono (fun a' w' h3 => ?_) h2
   obtain ⟨h3a, h3b⟩ := h3
   rw [if_neg hjl] at h3b ⊢
   refine ⟨h3b.1, ih (listed.setIfInBounds j true) a' w' hfree' (ready_mono hr (Ne.symm hji)) hil (path_step hj ms i hla h0) h3a h3b.1 ?_⟩
   rw [Array.setIfInBounds_comm _ _ hji]
   exact h3b.2
/-- A load, or what yields anyhow, may be taken first: 'ms' leads from it to the last operation. -/
theorem upto_take (ms : List Nat) {i : Nat} {oi : Oper} {d : Option Tmp} {v : Value} {fuel : Nat} {listed : Array Bool} {a : Act} {w : World} (hi : ops[i]? = some oi) (hd : oi.dst = d)
  (hs : Region.noSelect ops = true) (hf : (Region.free md ops listed i && ((Region.ready md ops listed).contains i && (decide (i ≠ last) && pathB md ops last listed i ms))) = true)
  (hQ : ∀ c a w, Q (.panic c) (a.put oi.dst v) w → Q (.panic c) a w) (hg : Region.wanted oi (yielded ops a.tmps) = true) (hy : ∀ w, S w → (execOp a.eval oi).run P w = .ok (.value v) w) (hS : S w)
  (h : wpAnyU P md ops Q S last fuel (listed.setIfInBounds i true) (a.put d v) w) : wpAnyU P md ops Q S last (fuel + 1) listed a w := by
 subst hd
 simp only [Bool.and_eq_true, decide_eq_true_eq] at hf
 obtain ⟨hf, hr, hil, hw⟩ := hf
 exact wpAnyU_first ms hi (Region.noSelect_spec hs) hQ fuel listed a w (Region.free_spec hi hf) (by simpa using hr) hil hw (.inl ⟨hg, hy⟩) hS h
/-- One operation alone may come up. -/
theorem upto_one (i : Nat) {o : Oper} {fuel : Nat} {listed : Array Bool} {a : Act} {w : World} (ho : ops[i]? = some o) (hr : Region.ready md ops listed = [i]) (hil : i ≠ last)
  (h : ∀ K' : Act → World → Prop, Shut (∀ a w, S w → (S w → wpAnyU P md ops Q S last fuel (listed.setIfInBounds i true) a w) → K' a w) → if Region.wanted o (yielded ops a.tmps) = true then Oper.wp P o a w K' Q else K' (a.put o.dst undef) w) :
  wpAnyU P md ops Q S last (fuel + 1) listed a w :=
 ⟨fun h0 => (by rw [hr] at h0; cases h0), fun j hj => by
  rw [hr] at hj
  obtain rfl : j = i := by simpa using hj
  exact wpOp_step ho (fun K' hK => h K' (fun a w hS hW => hK a w (by rw [if_neg hil]; exact ⟨hS, hW hS⟩)))⟩
/-- The one up to which it holds. -/
theorem upto_last {o : Oper} {fuel : Nat} {listed : Array Bool} {a : Act} {w : World} (ho : ops[last]? = some o) (hr : Region.ready md ops listed = [last])
  (h : ∀ K' : Act → World → Prop, Shut (∀ a w, wpAny P md ops Q fuel (listed.setIfInBounds last true) a w → K' a w) → if Region.wanted o (yielded ops a.tmps) = true then Oper.wp P o a w K' Q else K' (a.put o.dst undef) w) :
  wpAnyU P md ops Q S last (fuel + 1) listed a w :=
 ⟨fun h0 => (by rw [hr] at h0; cases h0), fun j hj => by
  rw [hr] at hj
  obtain rfl : j = last := by simpa using hj
  exact wpOp_step ho (fun K' hK => h K' (fun a w hW => hK a w (by rw [if_pos rfl]; exact hW)))⟩
/-- Behind it: one operation alone may come up. -/
theorem any_one (i : Nat) {o : Oper} {fuel : Nat} {listed : Array Bool} {a : Act} {w : World} (ho : ops[i]? = some o) (hr : Region.ready md ops listed = [i])
  (h : ∀ K' : Act → World → Prop, Shut (∀ a w, wpAny P md ops Q fuel (listed.setIfInBounds i true) a w → K' a w) → if Region.wanted o (yielded ops a.tmps) = true then Oper.wp P o a w K' Q else K' (a.put o.dst undef) w) :
  wpAny P md ops Q (fuel + 1) listed a w :=
 ⟨fun h0 => (by rw [hr] at h0; cases h0), fun j hj => by
  rw [hr] at hj
  obtain rfl : j = i := by simpa using hj
  exact wpOp_step ho (fun K' hK => h K' (fun a w hW => hK a w hW))⟩
theorem any_done {fuel : Nat} {listed : Array Bool} {a : Act} {w : World} (hr : Region.ready md ops listed = []) (h : Q .normal a w) : wpAny P md ops Q fuel listed a w := by
 cases fuel with
 | zero => exact ⟨hr, h⟩
 | succ f => exact ⟨fun _ => h, by rw [hr]; simp⟩
/-- Nothing but the region's end. -/
def onlyQ (Q : Exit → Act → World → Prop) : Exit → Act → World → Prop
 | .normal, a, w => Q .normal a w
 | _, _, _ => False
theorem onlyQ_lets : ¬ LetsOut (onlyQ Q) := fun ⟨_, _, h⟩ => h
theorem rowsIn_round {l n : Nat} {row : String} {args : Array Value} {w : World} {R : Value → World → Prop} (h : Rows P row args w R) : RowsIn (Fence.wide.inRound l) n P row args w R :=
 fun c cs _ => let ⟨v, w', r, s⟩ := h c cs; ⟨v, w', r, stepsIn_wide.2 s⟩
theorem operWpIn_of_wp {l n : Nat} {o : Oper} (hnd : ∀ c, o.op ≠ .defer c) {a : Act} {K K' : Act → World → Prop} {Q' : Exit → Act → World → Prop} {w : World} (hK : ∀ a w, K a w → K' a w) (h : o.wp P a w K (onlyQ Q)) : o.wpIn (Fence.wide.inRound l) n P a w K' Q' := by
 unfold Oper.wp at h
 unfold Oper.wpIn
 rw [Oper.semAt_eq _ _ _ hnd]
 refine ⟨fun f _ => trivial, ?_⟩
 generalize (execOp a.eval o).run P w = r at *
 cases r with
 | ok x w' =>
  cases x <;> simp only [Oper.upon] at h <;> simp only [Oper.uponIn]
  case value u => exact hK _ _ h
  case skip => exact hK _ _ h
  case defer d => exact hK _ _ h
  case enter f args =>
   refine ⟨fun hd => (by cases hd), CallsIn.inRound l (callsIn_wide.2 (h.mono ?_))⟩
   intro e w'' he
   cases e with
   | returned v => exact hK _ _ he
   | panicked c => exact he.elim
   | outgrown => exact (onlyQ_lets he).elim
  case row rw_ args => exact ⟨fun hd => (by cases hd), rowsIn_round (h.mono fun v w'' hv => hK _ _ hv)⟩
 | halt x w' =>
  cases x <;> simp only [Oper.upon] at h
  exact h.elim
theorem wpAnyIn_of_wp {l n : Nat} (hnd : noDefer ops = true) : ∀ (fuel : Nat) (listed : Array Bool) (a : Act) (w : World), wpAny P md ops (onlyQ Q) fuel listed a w → wpAnyIn (Fence.wide.inRound l) n P md ops Q fuel listed a w
 | 0, _, _, _, h => h
 | fuel + 1, listed, a, w, h => ⟨h.1, fun i hi => by
   have h1 := h.2 i hi
   unfold wpOp at h1
   unfold wpOpIn
   split
   ·rename_i ho; simp only [ho] at h1; exact wpAnyIn_of_wp hnd fuel _ _ _ h1
   ·rename_i o ho
    simp only [ho] at h1
    split
    ·rename_i hw
     simp only [hw, if_true] at h1
     rcases h1 with h1 | ⟨-, h1⟩
     ·exact operWpIn_of_wp (noDefer_spec hnd ho) (fun a w hk => wpAnyIn_of_wp hnd fuel _ a w hk) h1
     ·exact (onlyQ_lets h1).elim
    ·rename_i hw
     simp only [hw] at h1
     exact ⟨fun f _ => trivial, wpAnyIn_of_wp hnd fuel _ _ _ h1⟩⟩
theorem wpIn_region_upto {l n id : Nat} {a : Act} {w : World} (last : Nat) (hm : P.follows .mixedOrders = true) (hnd : noDefer ops = true) (hS : S w.drew)
  (h : S w.drew → wpAnyU P .any ops (onlyQ Q) S last ops.size (Array.replicate ops.size false) a w.drew) : (Code.region id ops true).wpIn (Fence.wide.inRound l) n P Q a w :=
 wpIn_region_any hm (wpAnyIn_of_wp hnd _ _ _ _ (wpAny_of_upto _ _ _ _ (h hS)))
end
end Go.Proofs.YtehhlgdkhecacaaGreat

namespace Go.Proofs.YtehhlgdkhecacaaGreat
open Go.RowKit Go.Shelf
attribute [local go_sem] Oper.semAt_some
theorem mem_srt {l : List Int} {x : Int} : x ∈ srt l ↔ x ∈ l := (List.mergeSort_perm l _).mem_iff
theorem toArray_get {l : List Int} {i : Nat} (hi : i < l.length) : l.toArray[i]! = l[i] := by
 rw [getElem!_pos l.toArray i (by simpa using hi)]
 simp
theorem mem_compactUp {l : List Int} {x : Int} : ∀ m, m ≤ l.length → x ∈ l.take m → x ∈ Lib.compactUpTo l.toArray m
 | 0, _, h => by rw [List.take_zero] at h; cases h
 | m + 1, hm, h => by
  rw [Lib.compactUpTo_succ]
  rw [List.take_succ_eq_append_getElem (show m < l.length by omega), List.mem_append] at h
  rcases h with h | h
  ·exact List.mem_append_left _ (mem_compactUp m (by omega) h)
  ·rw [List.mem_singleton] at h
   cases hk : Lib.keeps l.toArray m with
   | true =>
    rw [if_pos rfl, toArray_get (show m < l.length by omega), ← h]
    exact List.mem_append_right _ (List.mem_singleton.2 rfl)
   | false =>
    have hk' : ¬ (m = 0 ∨ l.toArray[m]! ≠ l.toArray[m - 1]!) := by
     unfold Lib.keeps at hk
     exact of_decide_eq_false hk
    have hm0 : m ≠ 0 := fun e => hk' (.inl e)
    have he : l.toArray[m]! = l.toArray[m - 1]! := Classical.not_not.1 fun e => hk' (.inr e)
    rw [toArray_get (show m < l.length by omega), toArray_get (show m - 1 < l.length by omega)] at he
    refine List.mem_append_left _ (mem_compactUp m (by omega) ?_)
    rw [h, he]
    rw [List.mem_take_iff_getElem]
    exact ⟨m - 1, by omega, rfl⟩
theorem mem_compact {l : List Int} {x : Int} : x ∈ Lib.compact l ↔ x ∈ l :=
 ⟨fun h => (compact_sub l).subset h, fun h => mem_compactUp l.length (Nat.le_refl _) (by rw [List.take_of_length_le (Nat.le_refl _)]; exact h)⟩
theorem setL_compact (l : List Int) : Lib.compact (srt l) = setL l := setL_eq (compact_up (srt_up l)) fun x => by rw [mem_compact, mem_srt]
theorem ro_grown {F : Nat → Prop} {A B : World} {row : Option Nat} (h : A.grownBy B row) (hr : ∀ r, row = some r → F r) : Ro F F A B :=
 ⟨h.os, h.tape, h.output, h.size, fun k hk hf => h.block k hk (fun e => hf (hr k e.symm)), fun _ h => .inl h⟩
/-- Sorting turns the slice's own block alone. -/
theorem sortG_any (base : Nat) (v : Value) (l : List Int) (w : World) (h : OwnL icells 1 3 w base v l) (hl : l.length ≤ 1000000) :
  Calls Tryz.prog 103 #[v] w fun e w' => e = .returned (.tuple #[]) ∧ OwnL icells 1 3 w' base v (srt l) ∧ w.grownBy w' v.ownBlock := by
 have h : w.ownsRow base 3 1 v l.length (l.map (Value.int .i64)) := by
  unfold OwnL at h
  rwa [flat_icells] at h
 by_cases hv : v = .slice none 0 0
 ·subst hv
  have e : l = [] := by
   obtain ⟨h1, h2 | ⟨g, cap, cur, h3, -⟩⟩ := h
   ·exact List.eq_nil_of_length_eq_zero h2.2
   ·cases h3
  subst e
  refine (Any.slices_Sort_int_none laysSort none 0 w).mono ?_
  rintro e w' ⟨rfl, rfl⟩
  exact ⟨rfl, (show OwnL icells 1 3 _ base _ (srt []) by rw [show srt [] = [] by simp [srt]]; exact OwnL.nil _ _), ⟨rfl, rfl, rfl, Nat.le_refl _, fun _ _ _ => rfl⟩⟩
 ·obtain ⟨g, cap, rfl, hbg, hgl, hncap, hcm, hlen, hH⟩ := Lib.holds_of_ownsRow h hv
  refine (Any.slices_Sort_int laysSort g 0 cap l w hH hgl (by omega)).mono ?_
  rintro e w' ⟨rfl, n, os, rfl⟩
  have hl2 : (srt l).length = l.length := List.length_mergeSort l
  rcases h.2 with ⟨h0, _⟩ | ⟨g', cap', cur, hv', hbase, hcur, h1, h2, h3, h4⟩
  ·cases h0
  ·cases hv'
   refine ⟨rfl, ?_, grownBy_sortedI _⟩
   have := ownsRow_sortedI (n := n) (os := os) (ts := srt l) hl2 hbase hcur h1 h2 h3
   unfold OwnL
   rw [hl2, flat_icells]
   exact this
/-- An element pushed onto the list in a box. -/
theorem push_own {F : Nat → Prop} {X V w2 : World} {bo B : Nat} {v v' : Value} {xs : List Int} {y : Int} (hF : F bo) (hb : Blk X bo 25 #[v]) (ho : OwnL icells 1 3 X B v xs) (hf : ∀ k, v.ownBlock = some k → F k) (gV : Below X.heap.size X V)
  (h2 : OwnL icells 1 3 w2 B v' (xs ++ [y])) (hg : (V.alloc (.cells #[.int .i64 y] 3)).grownBy w2 v.ownBlock) (hz : v'.ownBlock = v.ownBlock ∨ v'.ownBlock = some (V.alloc (.cells #[.int .i64 y] 3)).heap.size) :
  Ro F (fun k => F k ∨ v'.ownBlock = some k) X (w2.setCell ⟨bo, 0, none⟩ v') ∧ Blk (w2.setCell ⟨bo, 0, none⟩ v') bo 25 #[v'] ∧ OwnL icells 1 3 (w2.setCell ⟨bo, 0, none⟩ v') B v' (xs ++ [y]) ∧ ∀ W0 : World, W0.heap.size ≤ bo → W0.heap.size ≤ B → Below W0.heap.size W0 X → Below W0.heap.size W0 (w2.setCell ⟨bo, 0, none⟩ v') := by
 have gA : Below X.heap.size X (V.alloc (.cells #[.int .i64 y] 3)) := gV.trans ((one_more V _).mono gV.size)
 have hne : ∀ k, v.ownBlock = some k → k ≠ bo := fun k hk e => by
  obtain ⟨-, cur, hc⟩ := own_block ho hk
  rw [e] at hc
  exact absurd (blk_type hc hb) (by decide)
 have b2 : Blk w2 bo 25 #[v] := (hg.block bo (hb.ext gA).lt (fun e => hne bo e.symm rfl)).trans (hb.ext gA)
 have hne2 : ∀ k, v'.ownBlock = some k → k ≠ bo := fun k hk e => by
  obtain ⟨-, cur, hc⟩ := own_block h2 hk
  rw [e] at hc
  exact absurd (blk_type hc b2) (by decide)
 have r0 : Ro F F X (w2.setCell ⟨bo, 0, none⟩ v') := ((Ro.of_below gA).trans (ro_grown hg (fun r hr => hf r hr))).trans (Ro.setCell (p := ⟨bo, 0, none⟩) hF v')
 refine ⟨⟨r0.os, r0.tape, r0.output, r0.size, r0.keep, fun k hk => ?_⟩, ?_, own_far h2 (fun k hk => hne2 k hk) _, fun W0 h0 h1 h3 => ?_⟩
 ·rcases hk with hk | hk
  ·exact .inl hk
  ·rcases hz with e | e
   ·exact .inl (hf k (by rw [← e]; exact hk))
   ·rw [e] at hk
    cases hk
    obtain ⟨-, cur, hc⟩ := own_block h2 e
    have h4 := hc.lt
    have h5 := gA.size
    right
    simp [World.setCell]
    simp at h4 h5
    omega
 ·have := b2.set_ 0 v'
  exact this
 ·exact ((h3.trans (gA.mono h3.size)).grown hg (Nat.le_trans h3.size gA.size) (fun k hk => by have := (own_block ho hk).1; omega)).setCell (p := ⟨bo, 0, none⟩) h0 v'
/-- Proofs that hold, with all that a walk asks of them. -/
structure Cn (w : World) (A : Option Addr) (n : Nat) (l : List Pf) : Prop where
 prf : Prf w A n l
 n : n ≤ 60
 q : ∀ p ∈ l, isQf p.q = true
 src : ((l.map Pf.q).map Qf.src).Nodup
 many : (reads (l.map Pf.q)).length ≤ 2000
theorem Cn.below {w w' : World} {A : Option Addr} {n : Nat} {l : List Pf} (h : Cn w A n l) (g : Below w.heap.size w w') : Cn w' A n l := ⟨h.prf.below g, h.n, h.q, h.src, h.many⟩
set_option maxRecDepth 100000 in
set_option maxHeartbeats 8000000 in
theorem where_any (A : Option Addr) (n c : Nat) (l : List Pf) (person day : Int) (w : World) (h : Cn w A n l) (hp : In64 person) (hd : In64 day) :
  Calls Tryz.prog 91 #[.slice A n c, .int .i64 person, .int .i64 day] w fun e w' => (∃ v, e = .returned v ∧ OwnL icells 1 3 w' w.heap.size v (wherS (l.map Pf.q) person day)) ∧ Below w.heap.size w w' := by
 have HC := Lib.hid h
 have HP := Lib.hid (And.intro hp hd)
 have HWS := Lib.hid (show setL ((reads (l.map Pf.q)).map fun r => setS (l.map Pf.q) r person day) = wherS (l.map Pf.q) person day from rfl)
 obtain ⟨ws, hws⟩ : ∃ s, wherS (l.map Pf.q) person day = s := ⟨_, rfl⟩
 rw [hws] at HWS ⊢
 obtain ⟨W1, hW1⟩ : ∃ X, ((w.alloc (.cells #[.slice A n c] 22)).alloc (.cells #[.int .i64 person] 3)).alloc (.cells #[.int .i64 day] 3) = X := ⟨_, rfl⟩
 have g1 : Below w.heap.size w W1 := by rw [← hW1]; exact three_more _ _ _ _
 have b1 : Blk W1 w.heap.size 22 #[.slice A n c] := by rw [← hW1]; exact ((Blk.new _ _ _).alloc _).alloc _
 have b2 : Blk W1 (w.heap.size + 1) 3 #[.int .i64 person] := by rw [← hW1]; exact (blk_second2 _ _ _ _).alloc _
 have b3 : Blk W1 (w.heap.size + 1 + 1) 3 #[.int .i64 day] := by
  rw [← hW1]; have := Blk.new ((w.alloc (.cells #[.slice A n c] 22)).alloc (.cells #[.int .i64 person] 3)) 3 #[.int .i64 day]; rw [World.size_alloc, World.size_alloc] at this; exact this
 have s1 : W1.heap.size = w.heap.size + 3 := by rw [← hW1]; simp
 obtain ⟨W2, hW2⟩ : ∃ X, W1.alloc (.cells #[.slice none 0 0] 25) = X := ⟨_, rfl⟩
 have g2 : Below W1.heap.size W1 W2 := by rw [← hW2]; exact one_more _ _
 have bo : Blk W2 W1.heap.size 25 #[.slice none 0 0] := by rw [← hW2]; exact Blk.new _ _ _
 have s2 : W2.heap.size = w.heap.size + 4 := by rw [← hW2]; simp [s1]
 obtain ⟨W3, hW3⟩ : ∃ X, W2.alloc (.cells #[.slice A n c] 22) = X := ⟨_, rfl⟩
 have g3 : Below W2.heap.size W2 W3 := by rw [← hW3]; exact one_more _ _
 have bq : Blk W3 W2.heap.size 22 #[.slice A n c] := by rw [← hW3]; exact Blk.new _ _ _
 have s3 : W3.heap.size = w.heap.size + 5 := by rw [← hW3]; simp [s2]
 have HSQ := Lib.hid (readings_seq W1 A n c l (h.prf.below g1) (by have := h.n; omega) W2.heap.size W3 (extTrans g2 g3) bq)
 have G1 := Lib.hid g1
 have G2 := Lib.hid g2
 have G3 := Lib.hid g3
 have G13 := Lib.hid (extTrans g2 g3)
 have B1 := Lib.hid b1
 have B2 := Lib.hid b2
 have B3 := Lib.hid b3
 have BO := Lib.hid bo
 have BO3 := Lib.hid (bo.ext g3)
 have HW1 := Lib.hid hW1
 have HW2 := Lib.hid hW2
 have HW3 := Lib.hid hW3
 have S1 := Lib.hid s1
 have S2 := Lib.hid s2
 have S3' := Lib.hid s3
 have d0 := (b1.ext g2).cell 0
 clear h hp hd hws hW1 hW2 hW3 g1 g2 g3 b1 b2 b3 bo bq s1 s2 s3
 refine (callsIn_wide (n := 4)).1 (callsIn_of_wp_marks Tryz.func91 rfl trivial ?_ rfl)
 simp only [Tryz.ntmps91, List.size_toArray, List.length_cons, List.length_nil, Nat.reduceAdd, Nat.reduceSub, Array.replicate_succ, Array.replicate_zero, List.push_toArray, List.append_toArray, List.nil_append, List.cons_append]
 gi_wp2_with fail
 rw [HW1.out]
 gi_wp2_with fail
 refine ⟨trivial, (callsIn_wide.2 (readings_any _ _ _ _)).mono ?_⟩
 rintro e w' ⟨rfl, hw'⟩
 rw [HW2.out, HW3.out] at hw'
 subst hw'
 rw [HW2.out]
 gi_wp2_with fail
 refine wp_rangeW (α := Rd) (n := 4) (by omega) (gf := 136) (lb := #[ptr W2.heap.size]) rfl (enters_of Tryz.func136 (by kernel_rfl) rfl) HSQ.out (Below.refl _ _) (fun _ => rfl)
  (fun F pre W => F (w.heap.size + 1 + 1 + 1) ∧ (∃ v, Blk W (w.heap.size + 1 + 1 + 1) 25 #[v] ∧ OwnL icells 1 3 W (w.heap.size + 1 + 1 + 1 + 1) v (pre.map fun x => setS (l.map Pf.q) x.r person day) ∧ ∀ k, v.ownBlock = some k → F k) ∧ Below W1.heap.size W1 W) (fun cd F pre W => False) ?hI ?hIx
  (fun pre x l o A hl h hr => gwR_put o h hr) (fun k hk => by have := S3'.out; have := S1.out; have := S2.out; omega) (fun k => k = w.heap.size + 1 + 1 + 1) (fun k hk => by have := S3'.out; have := S1.out; have := S2.out; omega) ⟨rfl, ⟨_, by have := BO3.out; rw [S1.out] at this; exact this, OwnL.nil _ _, fun k hk => (by cases hk)⟩, G13.out⟩
  (fun x a' => a' = { tmps := #[.slice A n c, .int .i64 person, .int .i64 day, ptr w.heap.size, ptr (w.heap.size + 1), ptr (w.heap.size + 1 + 1), .slice none 0 0, ptr (w.heap.size + 1 + 1 + 1), .slice x.A x.n x.c, .slice A n c, .func (.func 136) #[] #[ptr W2.heap.size], .slice x.A x.n x.c, undef, undef, undef, undef, undef, undef, undef, undef, undef, undef, undef, undef], defers := [] }) ?assign ?body ?done ?stop
 case hI =>
  rintro F s X Y ⟨h1, ⟨v, h2, h3, h4⟩, h5⟩ hi
  exact ⟨h1, ⟨v, hi.blk h2 (.inr h1), own_it h3 hi h4, h4⟩, hi.below h5 (by have := S3'.out; have := S1.out; omega) (Nat.le_refl _)⟩
 case hIx => exact fun cd F s X Y h _ => h
 case assign =>
  rintro l x X K hK
  unfold encR
  gi_wp2
  simp
 case body =>
  rintro lr F pre x a' X hl - ⟨h1, ⟨v, h2, h3, h4⟩, h5⟩ ⟨hgi, hgn, -, post, hpo⟩ rfl
  have hxr : isRd (l.map Pf.q) x.r = true := mem_reads.1 (by rw [← hpo]; simp)
  have hxn : x.n = n := by
   have e1 := (isRd_zip.1 hxr).1
   rw [List.length_map, HC.out.prf.len] at e1
   rw [← e1, hgi.1]
  have hlen : pre.length + 1 ≤ 2000 := by
   have := congrArg List.length hpo
   rw [List.length_append, List.length_map, List.length_cons] at this
   have := HC.out.many
   omega
  have TS := Lib.hid (settledBy_any A n c x.A x.c l x.r person day X.drew ⟨(HC.out.prf.below G1.out).below (h5.drew), by rw [← hxn]; exact hgi, by have := HC.out.n; omega, HC.out.q, HC.out.src⟩ HP.out.1 HP.out.2)
  obtain ⟨sv, hsv⟩ : ∃ s, setS (l.map Pf.q) x.r person day = s := ⟨_, rfl⟩
  rw [hsv] at TS
  obtain ⟨xs, hxs⟩ : ∃ s, pre.map (fun x => setS (l.map Pf.q) x.r person day) = s := ⟨_, rfl⟩
  have HXS := Lib.hid (show (pre ++ [x]).map (fun x => setS (l.map Pf.q) x.r person day) = xs ++ [sv] by rw [List.map_append, hxs, ← hsv]; rfl)
  have HXL := Lib.hid (show xs.length + 1 ≤ 1000000 by rw [← hxs, List.length_map]; omega)
  rw [hxs] at h3
  have hbx : w.heap.size + 1 + 1 + 1 < X.heap.size := h2.lt
  have HBX := Lib.hid hbx
  have HF := Lib.hid h1
  have HB2 := Lib.hid h2
  have HO3 := Lib.hid h3
  have HF4 := Lib.hid h4
  have HG5 := Lib.hid h5
  have u0 := h2.cell 0
  have u1 := (B1.out.ext h5).cell 0
  have u2 := (B2.out.ext h5).cell 0
  have u3 := (B3.out.ext h5).cell 0
  rw [hxn]
  clear h1 h2 h3 h4 h5 hgi hgn hpo hxr hlen hsv hxs hbx hxn
  gi_wp2_with fail
  refine wpIn_region_upto (S := fun W => W.cell? ⟨w.heap.size + 1 + 1 + 1, 0, none⟩ = some v ∧ W.cell? ⟨w.heap.size, 0, none⟩ = some (.slice A n c) ∧ W.cell? ⟨w.heap.size + 1, 0, none⟩ = some (.int .i64 person) ∧ W.cell? ⟨w.heap.size + 1 + 1, 0, none⟩ = some (.int .i64 day)) 7 (by kernel_rfl) (by kernel_rfl) (⟨u0, u1, u2, u3⟩) (fun hHeld => ?_)
  (refine upto_take [7] (i := 0) (oi := ⟨_, _, _, _, _, _⟩) (d := some 12) (v := ?_) rfl rfl (by kernel_rfl) (by kernel_rfl) (fun _ _ _ h => h) (by rfl) ?_ (by assumption) ?_; rotate_left; (focus (intro w hSw; (try dsimp only at hSw); go_simp; try with_reducible rfl)); (try simp only [Act.put, List.setIfInBounds_toArray, List.set_cons_zero, List.set_cons_succ]))
  (refine upto_take [5, 7] (i := 1) (oi := ⟨_, _, _, _, _, _⟩) (d := some 13) (v := ?_) rfl rfl (by kernel_rfl) (by kernel_rfl) (fun _ _ _ h => h) (by rfl) ?_ (by assumption) ?_; rotate_left; (focus (intro w hSw; (try dsimp only at hSw); go_simp; try with_reducible rfl)); (try simp only [Act.put, List.setIfInBounds_toArray, List.set_cons_zero, List.set_cons_succ]))
  (refine upto_take [5, 7] (i := 2) (oi := ⟨_, _, _, _, _, _⟩) (d := some 14) (v := ?_) rfl rfl (by kernel_rfl) (by kernel_rfl) (fun _ _ _ h => h) (by rfl) ?_ (by assumption) ?_; rotate_left; (focus (intro w hSw; (try dsimp only at hSw); go_simp; try with_reducible rfl)); (try simp only [Act.put, List.setIfInBounds_toArray, List.set_cons_zero, List.set_cons_succ]))
  (refine upto_take [5, 7] (i := 3) (oi := ⟨_, _, _, _, _, _⟩) (d := some 15) (v := ?_) rfl rfl (by kernel_rfl) (by kernel_rfl) (fun _ _ _ h => h) (by rfl) ?_ (by assumption) ?_; rotate_left; (focus (intro w hSw; (try dsimp only at hSw); go_simp; try with_reducible rfl)); (try simp only [Act.put, List.setIfInBounds_toArray, List.set_cons_zero, List.set_cons_succ]))
  (refine upto_take [5, 7] (i := 4) (oi := ⟨_, _, _, _, _, _⟩) (d := some 16) (v := ?_) rfl rfl (by kernel_rfl) (by kernel_rfl) (fun _ _ _ h => h) (by rfl) ?_ (by assumption) ?_; rotate_left; (focus (intro w hSw; (try dsimp only at hSw); go_simp; try with_reducible rfl)); (try simp only [Act.put, List.setIfInBounds_toArray, List.set_cons_zero, List.set_cons_succ]))
  refine upto_one 5 (o := ⟨_, _, _, _, _, _⟩) rfl (by kernel_rfl) (by decide) (fun K hK => ?_)
  (go_simp; go_at_call 89; (with_reducible refine (TS.out).mono ?_); rintro e V ⟨rfl, hg⟩; have HGV := Lib.hid (show Below X.heap.size X V from (Below.refl _ X).drew.trans hg); clear hg)
  refine hK.out _ _ ?_ (fun hHeld => ?_)
  ·exact ⟨(HB2.out.ext HGV.out).cell 0, ((B1.out.ext HG5.out).ext HGV.out).cell 0, ((B2.out.ext HG5.out).ext HGV.out).cell 0, ((B3.out.ext HG5.out).ext HGV.out).cell 0⟩
  clear hK K
  (try simp only [Act.put, List.setIfInBounds_toArray, List.set_cons_zero, List.set_cons_succ])
  refine upto_one 6 (o := ⟨_, _, _, _, _, _⟩) rfl (by kernel_rfl) (by decide) (fun K hK => ?_)
  go_simp
  refine hK.out _ _ ?_ (fun hHeld => ?_)
  ·exact ⟨keepAlloc ((HB2.out.ext HGV.out).cell 0) _, keepAlloc (((B1.out.ext HG5.out).ext HGV.out).cell 0) _, keepAlloc (((B2.out.ext HG5.out).ext HGV.out).cell 0) _, keepAlloc (((B3.out.ext HG5.out).ext HGV.out).cell 0) _⟩
  clear hK K
  (try simp only [Act.put, List.setIfInBounds_toArray, List.set_cons_zero, List.set_cons_succ])
  refine upto_last (o := ⟨_, _, _, _, _, _⟩) rfl (by kernel_rfl) (fun K hK => ?_)
  (have HOX := Lib.hid ((HO3.out.ext HGV.out).ext (one_more V (.cells #[.int .i64 sv] 3))); have HI1 := Lib.hid (one_int (Blk.new V 3 #[.int .i64 sv])); have HBB := Lib.hid (show w.heap.size + 1 + 1 + 1 + 1 ≤ (V.alloc (.cells #[.int .i64 sv] 3)).heap.size by have h1 := HBX.out; have h2 := HGV.out.size; simp; omega); go_loud (refine step_app kdI (by rfl) _ _ (by rfl) (w.heap.size + 1 + 1 + 1 + 1) v xs (by rfl) HOX.out _ 1 1 [sv] (by rfl) HI1.out HXL.out HBB.out ?_); intro v' w2 ho2 hg2 hz2; obtain ⟨Av2, cv2, hve, -⟩ := OwnL.arr kdI ho2; obtain ⟨nv2, hnv⟩ : ∃ q, (xs ++ [sv]).length = q := ⟨_, rfl⟩; rw [hnv] at hve; subst hve; clear hnv; have HPU := Lib.hid (push_own HF.out HB2.out HO3.out HF4.out HGV.out ho2 hg2 hz2); have B9 : Blk w2 (w.heap.size + 1 + 1 + 1) 25 #[v] := (hg2.block (w.heap.size + 1 + 1 + 1) (by have h1 := HBX.out; have h2 := HGV.out.size; simp; omega) (fun e => by obtain ⟨-, cur, hc⟩ := own_block HO3.out e.symm; exact absurd (blk_type hc HB2.out) (by decide))).trans ((HB2.out.ext HGV.out).alloc (.cells #[.int .i64 sv] 3)); have m0 := B9.cell 0; have m1 := B9.frozen 0; clear B9 ho2 hg2 hz2)
  refine hK.out _ _ ?_
  clear hK K
  (try simp only [Act.put, List.setIfInBounds_toArray, List.set_cons_zero, List.set_cons_succ])
  refine any_one 8 (o := ⟨_, _, _, _, _, _⟩) rfl (by kernel_rfl) (fun K hK => ?_)
  go_simp
  refine hK.out _ _ ?_
  clear hK K
  (try simp only [Act.put, List.setIfInBounds_toArray, List.set_cons_zero, List.set_cons_succ])
  refine any_done (by kernel_rfl) ?_
  obtain ⟨r1, r2, r3, r4⟩ := HPU.out
  rw [← HXS.out] at r3
  exact ⟨_, r1, .inl HF.out, ⟨_, r2, r3, fun k hk => .inr hk⟩, r4 W1 (by have := S1.out; omega) (by have := S1.out; omega) HG5.out⟩
 case done =>
  rintro E F xs X hD hS ⟨h1, ⟨v, h2, h3, h4⟩, h5⟩ hK
  have hxl : xs.length ≤ 2000 := by
   have := congrArg List.length hS
   rw [List.length_map] at this
   have := HC.out.many
   omega
  have hll : xs.map (fun x => setS (l.map Pf.q) x.r person day) = (reads (l.map Pf.q)).map fun r => setS (l.map Pf.q) r person day := by rw [← hS, List.map_map]; rfl
  rw [hll] at h3
  obtain ⟨ll, hll2⟩ : ∃ s, ((reads (l.map Pf.q)).map fun r => setS (l.map Pf.q) r person day) = s := ⟨_, rfl⟩
  have HLL := Lib.hid (show ll.length ≤ 1000000 by rw [← hll2, ← hll, List.length_map]; omega)
  have HW4 := Lib.hid (show Lib.compact (srt ll) = ws by rw [setL_compact, ← hll2]; exact HWS.out)
  rw [hll2] at h3
  have hown : ∀ k, v.ownBlock = some k → k ≠ E ∧ k ≠ w.heap.size + 1 + 1 + 1 := fun k hk => by
   obtain ⟨h6, cur, hb⟩ := own_block h3 hk
   refine ⟨fun e => ?_, by omega⟩
   rw [e] at hb
   have := (show X.heap[E]? = _ from hb).symm.trans hK
   cases this
  have TS := Lib.hid (sortG_any _ v ll X h3 HLL.out)
  have HOW := Lib.hid hown
  have HB2 := Lib.hid h2
  have HG5 := Lib.hid h5
  have HK := Lib.hid hK
  have HO3 := Lib.hid h3
  have c0 := h2.cell 0
  clear h1 h2 h3 h4 h5 hK hS hxl hll hll2 hown
  gi_wp2_with fail
  refine ⟨trivial, (callsIn_wide.2 TS.out).mono ?_⟩
  rintro e V5 ⟨rfl, ho5, hg5⟩
  have HO5 := Lib.hid ho5
  have hlt := HB2.out.lt
  have HB5 := Lib.hid (show Blk V5 (w.heap.size + 1 + 1 + 1) 25 #[v] from (hg5.block (w.heap.size + 1 + 1 + 1) hlt (fun e => (HOW.out _ e.symm).2 rfl)).trans HB2.out)
  have HK5 := Lib.hid (show V5.heap[E]? = some (.deferred (some [])) from (hg5.block E (Array.getElem?_eq_some_iff.1 HK.out).1 (fun e => (HOW.out _ e.symm).1 rfl)).trans HK.out)
  have HG6 := Lib.hid (show Below W1.heap.size W1 V5 from HG5.out.grown hg5 HG5.out.size (fun k hk => by have h6 := (own_block HO3.out hk).1; have h7 := S1.out; omega))
  have TC := Lib.hid (compact_any _ v (srt ll) V5 ho5 (by have := HLL.out; unfold srt; rw [List.length_mergeSort]; exact this) (by have := HB5.out.lt; omega))
  have c1 := HB5.out.cell 0
  clear ho5 hg5 c0
  gi_wp2_with fail
  refine ⟨trivial, (callsIn_wide.2 TC.out).mono ?_⟩
  rintro e V6 ⟨⟨v6, rfl, ho6, he6⟩, hg6⟩
  rw [HW4.out] at ho6
  have HK6 := Lib.hid (show V6.heap[E]? = some (.deferred (some [])) from (hg6.block E (Array.getElem?_eq_some_iff.1 HK5.out).1 (fun e => (HOW.out _ e.symm).1 rfl)).trans HK5.out)
  have HG7 := Lib.hid (show Below W1.heap.size W1 V6 from HG6.out.grown hg6 HG6.out.size (fun k hk => by have h6 := (own_block HO3.out hk).1; have h7 := S1.out; omega))
  have HO6 := Lib.hid (own_put ho6 (D := E) (fun k hk => (HOW.out k (by rw [← he6]; exact hk)).1) (.deferred none))
  have HG8 := Lib.hid (G1.out.trans ((put_below HG7.out (D := E) (by have := S3'.out; have := S1.out; omega) (.deferred none)).mono G1.out.size))
  clear ho6 he6 hg6 c1
  gi_wp2_with fail
  refine ⟨by simp, .inl ⟨_, _, rfl, run_takeDeferred HK6.out, ?_⟩⟩
  refine ⟨v6, ?_, ⟨v6, rfl, HO6.out.mono (by omega)⟩, HG8.out⟩
  simp [results, Tryz.results91, go_sem]
 case stop => exact fun E F cd pre X _ _ h _ => h.elim
end Go.Proofs.YtehhlgdkhecacaaGreat

namespace Go.Proofs.YtehhlgdkhecacaaGreat
open Go.RowKit Go.Shelf
theorem cn_of {l : List Pf} (h : okL (l.map Pf.q) = true) {known : Int} {w : World} {A : Option Addr} {n : Nat} (hp : Prf w A n (l.filter fun p => cnt p.q known)) (hn : n ≤ 60) : Cn w A n (l.filter fun p => cnt p.q known) := by
 have h1 := rdg_of h hp (r := []) (B := none) (n := n) (w := w)
 refine ⟨hp, hn, fun p hp => okL_all h _ (List.mem_map.2 ⟨p, (List.mem_filter.1 hp).1, rfl⟩), ?_, ?_⟩
 ·have h1 : ((l.map Pf.q).map Qf.src).Nodup := ((okL_src h).imp fun hlt => by omega)
  rw [List.map_map] at h1 ⊢
  exact (List.filter_sublist.map _).nodup h1
 ·rw [show (l.filter fun p => cnt p.q known).map Pf.q = cntL (l.map Pf.q) known from filt_map l (fun q => cnt q known)]
  exact reads_len h known
theorem in64_person {n : Int} (h : rng n 1 999 = true) : In64 n := in64_of (by simp only [rng, Bool.and_eq_true, decide_eq_true_eq] at h; omega)
theorem in64_day {n : Int} (h : rng n 0 4166 = true) : In64 n := in64_of (by simp only [rng, Bool.and_eq_true, decide_eq_true_eq] at h; omega)
theorem readE_ask {l : List Qf} {person parish : Int} {days : List Int} {known : Int} (h : readE l person parish days known = 0) : askE l person parish days = 0 := by
 unfold readE at h
 by_cases h1 : askE l person parish days = 0
 ·exact h1
 ·rw [if_neg h1] at h; exact h
/-- A list and an error. -/
def ListEnd (l : List Int) (E : Int) (w : World) (e : Ending) (w' : World) : Prop :=
 ∃ A n k, e = .returned (.tuple #[.slice A n k, .int .i64 E]) ∧ Ints w' A n (if E = 0 then l else []) ∧ n ≤ k ∧ k ≤ maxLen ∧ Below w.heap.size w w'
theorem listEnd_no {l : List Int} {E : Int} {w V : World} (h : E ≠ 0) (hg : Below w.heap.size w V) : ListEnd l E w (.returned (.tuple #[.slice none 0 0, .int .i64 E])) V :=
 ⟨none, 0, 0, rfl, by rw [if_neg h]; exact Arr.nil_, Nat.le_refl _, Nat.zero_le _, hg⟩
theorem listEnd_ok {l : List Int} {w V : World} {v : Value} {base : Nat} (h : OwnL icells 1 3 V base v l) (hg : Below w.heap.size w V) : ListEnd l 0 w (.returned (.tuple #[v, .int .i64 0])) V := by
 obtain ⟨A, c', rfl, h1, h2, ha, -⟩ := OwnL.arr kdI h
 exact ⟨A, _, c', rfl, by rw [if_pos rfl]; exact ha, h1, h2, hg⟩
set_option maxRecDepth 100000 in
set_option maxHeartbeats 8000000 in
theorem whereF_any (A : Option Addr) (n c : Nat) (l : List Pf) (person day known : Int) (w : World) (ha : Prf w A n l) (hn : n ≤ 9223372036854775807) :
  Calls Tryz.prog 26 #[.slice A n c, .int .i64 person, .int .i64 day, .int .i64 known] w (ListEnd (wherS (cntL (l.map Pf.q) known) person day) (readE (l.map Pf.q) person 0 [day, known] known) w) := by
 obtain ⟨W1, hW1⟩ : ∃ X, w.alloc (.cells #[.int .i64 day, .int .i64 known] 3) = X := ⟨_, rfl⟩
 have g1 : Below w.heap.size w W1 := by rw [← hW1]; exact one_more _ _
 have b1 : Blk W1 w.heap.size 3 #[.int .i64 day, .int .i64 known] := by rw [← hW1]; exact Blk.new _ _ _
 have T := askRead_any person 0 (some ⟨w.heap.size, 0, none⟩) 2 2 [day, known] known A n c l W1 (ha.below g1) hn (two_ints b1) (by decide) (by decide) rfl
 have HFM := Lib.hid (show (l.filter fun p => cnt p.q known).map Pf.q = cntL (l.map Pf.q) known from filt_map l (fun q => cnt q known))
 have HOK := Lib.hid (fun (h : readE (l.map Pf.q) person 0 [day, known] known = 0) => (askE_ok (readE_ask h)))
 obtain ⟨re, hre⟩ : ∃ s, readE (l.map Pf.q) person 0 [day, known] known = s := ⟨_, rfl⟩
 rw [hre] at HOK T ⊢
 obtain ⟨ws, hws⟩ : ∃ s, wherS (cntL (l.map Pf.q) known) person day = s := ⟨_, rfl⟩
 rw [hws]
 have HWS := Lib.hid hws
 have G1 := Lib.hid g1
 have HW1 := Lib.hid hW1
 have HT := Lib.hid T
 clear ha hre hws g1 b1 hW1 T
 by_cases hz : re = 0
 ·subst hz
  go_enter Tryz.func26, Tryz.ntmps26
  go_upto_region 2 with (go_at_call 66; rw [HW1.out]; (with_reducible refine (HT.out).mono ?_); rintro e V ⟨A2, n2, c2, rfl, ho, -, hg⟩; have HO := Lib.hid (ho rfl); have GV := Lib.hid (G1.out.trans (hg.mono G1.out.size)); clear ho hg)
  obtain ⟨hok, hper, -, hdays⟩ := HOK.out (by trivial)
  have TW := where_any A2 n2 c2 _ person day V (cn_of hok HO.out.1 HO.out.2.1) (in64_person hper) (in64_day (hdays day (by simp)))
  rw [HFM.out, HWS.out] at TW
  have HTW := Lib.hid TW
  clear TW hok hper hdays
  go_wp2_with (go_at_call 91; (with_reducible refine (HTW.out).mono ?_); rintro e V2 ⟨⟨v, rfl, ho⟩, hg⟩; have HO2 := Lib.hid ho; have GV2 := Lib.hid (GV.out.trans (hg.mono GV.out.size)); clear ho hg)
  go_ret2
  exact listEnd_ok HO2.out GV2.out
 ·have hzb : (re != 0) = true := by simpa using hz
  have HZ := Lib.hid hz
  clear hz
  go_enter Tryz.func26, Tryz.ntmps26
  go_wp2_with (go_at_call 66; rw [HW1.out]; (with_reducible refine (HT.out).mono ?_); rintro e V ⟨A2, n2, c2, rfl, -, ho, hg⟩; obtain ⟨rfl, rfl, rfl⟩ := ho HZ.out; have GV := Lib.hid (G1.out.trans (hg.mono G1.out.size)); clear ho hg)
  go_ret2
  exact listEnd_no HZ.out GV.out
set_option maxRecDepth 100000 in
set_option maxHeartbeats 8000000 in
theorem right_any (A : Option Addr) (n c : Nat) (l : List Pf) (person parish day : Int) (w : World) (h : Cn w A n l) (hp : In64 person) (hd : In64 day) :
  Calls Tryz.prog 67 #[.slice A n c, .int .i64 person, .int .i64 parish, .int .i64 day] w fun e w' => e = .returned (.int .i64 (righN (wherS (l.map Pf.q) person day) parish)) ∧ Below w.heap.size w w' := by
 have HT := Lib.hid (where_any A n c l person day w h hp hd)
 have HLN := Lib.hid (show (wherS (l.map Pf.q) person day).length ≤ 2000 by
  have h1 : (wherS (l.map Pf.q) person day).length ≤ ((reads (l.map Pf.q)).map fun r => setS (l.map Pf.q) r person day).length := by
   rw [show wherS (l.map Pf.q) person day = setL ((reads (l.map Pf.q)).map fun r => setS (l.map Pf.q) r person day) from rfl, ← setL_compact]
   have h2 := (compact_sub (srt ((reads (l.map Pf.q)).map fun r => setS (l.map Pf.q) r person day))).length_le
   unfold srt at h2 ⊢
   rwa [List.length_mergeSort] at h2
  rw [List.length_map] at h1
  have := h.many
  omega)
 obtain ⟨ws, hws⟩ : ∃ s, wherS (l.map Pf.q) person day = s := ⟨_, rfl⟩
 rw [hws] at HT HLN ⊢
 have HRN := Lib.hid (show righN ws parish = if parish ∈ ws then (if ws.length = 1 then 1 else 2) else 0 from rfl)
 obtain ⟨rn, hrn⟩ : ∃ s, righN ws parish = s := ⟨_, rfl⟩
 rw [hrn] at HRN ⊢
 clear h hp hd hws hrn
 go_enter Tryz.func67, Tryz.ntmps67
 go_upto_region 2 with (go_at_call 91; (with_reducible refine (HT.out).mono ?_); rintro e V ⟨⟨v, rfl, ho⟩, hg⟩; obtain ⟨A2, c2, rfl, -, -, ha, -⟩ := OwnL.arr kdI ho; have HA := Lib.hid ha; have GV := Lib.hid hg; clear ho hg ha)
 obtain ⟨m, hm⟩ : ∃ m, ws.length = m := ⟨_, rfl⟩
 rw [hm] at HA HLN HRN ⊢
 have TH := Lib.hid (fun W (g : Below V.heap.size V W) => has_any A2 m c2 ws parish W (HA.out.below g) (by have := HLN.out; omega))
 by_cases h1 : parish ∈ ws
 ·have hh : hasI ws parish = true := hasI_true h1
  rw [hh] at TH
  by_cases h2 : m = 1
  ·have e : rn = 1 := by rw [HRN.out, if_pos h1, if_pos h2]
   subst e
   subst h2
   clear h1 hh
   go_wp2_with (go_at_call 121; (with_reducible refine (TH.out _ (Below.refl _ _)).mono ?_); rintro e w' ⟨rfl, rfl⟩)
   go_ret
   exact ⟨rfl, GV.out⟩
  ·have e : rn = 2 := by rw [HRN.out, if_pos h1, if_neg h2]
   subst e
   have h2b : ((m : Int) == 1) = false := beq_eq_false_iff_ne.2 (by omega)
   clear h1 hh h2
   go_wp2_with (go_at_call 121; (with_reducible refine (TH.out _ (Below.refl _ _)).mono ?_); rintro e w' ⟨rfl, rfl⟩)
   go_ret
   exact ⟨rfl, GV.out⟩
 ·have hh : hasI ws parish = false := by
   refine hasI_false fun j hj e => h1 ?_
   rw [← e, List.getD_eq_getElem?_getD, List.getElem?_eq_getElem hj]
   exact List.getElem_mem _
  rw [hh] at TH
  have e : rn = 0 := by rw [HRN.out, if_neg h1]
  subst e
  clear h1 hh
  go_wp2_with (go_at_call 121; (with_reducible refine (TH.out _ (Below.refl _ _)).mono ?_); rintro e w' ⟨rfl, rfl⟩)
  go_ret
  exact ⟨rfl, GV.out⟩
def NumEnd (x E : Int) (w : World) (e : Ending) (w' : World) : Prop := e = .returned (.tuple #[.int .i64 (if E = 0 then x else 0), .int .i64 E]) ∧ Below w.heap.size w w'
theorem numEnd_no {x E : Int} {w V : World} (h : E ≠ 0) (hg : Below w.heap.size w V) : NumEnd x E w (.returned (.tuple #[.int .i64 0, .int .i64 E])) V := ⟨by rw [if_neg h], hg⟩
theorem numEnd_ok {x : Int} {w V : World} (hg : Below w.heap.size w V) : NumEnd x 0 w (.returned (.tuple #[.int .i64 x, .int .i64 0])) V := ⟨by rw [if_pos rfl], hg⟩
set_option maxRecDepth 100000 in
set_option maxHeartbeats 8000000 in
theorem rightF_any (A : Option Addr) (n c : Nat) (l : List Pf) (person parish day known : Int) (w : World) (ha : Prf w A n l) (hn : n ≤ 9223372036854775807) :
  Calls Tryz.prog 28 #[.slice A n c, .int .i64 person, .int .i64 parish, .int .i64 day, .int .i64 known] w (NumEnd (righN (wherS (cntL (l.map Pf.q) known) person day) parish) (readE (l.map Pf.q) person parish [day, known] known) w) := by
 obtain ⟨W1, hW1⟩ : ∃ X, w.alloc (.cells #[.int .i64 day, .int .i64 known] 3) = X := ⟨_, rfl⟩
 have g1 : Below w.heap.size w W1 := by rw [← hW1]; exact one_more _ _
 have b1 : Blk W1 w.heap.size 3 #[.int .i64 day, .int .i64 known] := by rw [← hW1]; exact Blk.new _ _ _
 have T := askRead_any person parish (some ⟨w.heap.size, 0, none⟩) 2 2 [day, known] known A n c l W1 (ha.below g1) hn (two_ints b1) (by decide) (by decide) rfl
 have HFM := Lib.hid (show (l.filter fun p => cnt p.q known).map Pf.q = cntL (l.map Pf.q) known from filt_map l (fun q => cnt q known))
 have HOK := Lib.hid (fun (h : readE (l.map Pf.q) person parish [day, known] known = 0) => (askE_ok (readE_ask h)))
 obtain ⟨re, hre⟩ : ∃ s, readE (l.map Pf.q) person parish [day, known] known = s := ⟨_, rfl⟩
 rw [hre] at HOK T ⊢
 obtain ⟨ws, hws⟩ : ∃ s, righN (wherS (cntL (l.map Pf.q) known) person day) parish = s := ⟨_, rfl⟩
 rw [hws]
 have HWS := Lib.hid hws
 have G1 := Lib.hid g1
 have HW1 := Lib.hid hW1
 have HT := Lib.hid T
 clear ha hre hws g1 b1 hW1 T
 by_cases hz : re = 0
 ·subst hz
  go_enter Tryz.func28, Tryz.ntmps28
  go_upto_region 2 with (go_at_call 66; rw [HW1.out]; (with_reducible refine (HT.out).mono ?_); rintro e V ⟨A2, n2, c2, rfl, ho, -, hg⟩; have HO := Lib.hid (ho rfl); have GV := Lib.hid (G1.out.trans (hg.mono G1.out.size)); clear ho hg)
  obtain ⟨hok, hper, -, hdays⟩ := HOK.out (by trivial)
  have TW := right_any A2 n2 c2 _ person parish day V (cn_of hok HO.out.1 HO.out.2.1) (in64_person hper) (in64_day (hdays day (by simp)))
  rw [HFM.out, HWS.out] at TW
  have HTW := Lib.hid TW
  clear TW hok hper hdays
  go_wp2_with (go_at_call 67; (with_reducible refine (HTW.out).mono ?_); rintro e V2 ⟨rfl, hg⟩; have GV2 := Lib.hid (GV.out.trans (hg.mono GV.out.size)); clear hg)
  go_ret2
  exact numEnd_ok GV2.out
 ·have hzb : (re != 0) = true := by simpa using hz
  have HZ := Lib.hid hz
  clear hz
  go_enter Tryz.func28, Tryz.ntmps28
  go_wp2_with (go_at_call 66; rw [HW1.out]; (with_reducible refine (HT.out).mono ?_); rintro e V ⟨A2, n2, c2, rfl, -, ho, hg⟩; obtain ⟨rfl, rfl, rfl⟩ := ho HZ.out; have GV := Lib.hid (G1.out.trans (hg.mono G1.out.size)); clear ho hg)
  go_ret2
  exact numEnd_no HZ.out GV.out
end Go.Proofs.YtehhlgdkhecacaaGreat

namespace Go.Proofs.YtehhlgdkhecacaaGreat
open Go.RowKit Go.Shelf
/-- Whom a proof names. -/
def namQ (q : Qf) : List Int := q.per ++ (if q.kind = 2 then [q.oth] else [])
def namL (c : List Qf) : List Int := c.flatMap namQ
/-- The persons whom proofs name, rising. -/
def persS (c : List Qf) : List Int := setL (namL c)
theorem namL_len : ∀ (c : List Qf), (∀ q ∈ c, q.per.length ≤ 4) → (namL c).length ≤ 5 * c.length
 | [], _ => by simp [namL]
 | q :: c, h => by
  have h1 := namL_len c (fun x hx => h x (List.mem_cons_of_mem _ hx))
  have h2 := h q (by simp)
  unfold namL at h1 ⊢
  rw [List.flatMap_cons, List.length_append, List.length_cons]
  have h3 : (namQ q).length ≤ 5 := by
   unfold namQ
   rw [List.length_append]
   split
   ·rw [List.length_singleton]; omega
   ·rw [List.length_nil]; omega
  omega
theorem namL_take {l : List Pf} {k : Nat} (hk : k < l.length) : namL ((l.take (k + 1)).map Pf.q) = namL ((l.take k).map Pf.q) ++ namQ (l.getD k p0).q := by
 rw [take_snoc (d := p0) hk, List.map_append]
 unfold namL
 rw [List.flatMap_append]
 simp
theorem isQf_per4 {q : Qf} (h : isQf q = true) : 1 ≤ q.per.length ∧ q.per.length ≤ 4 := by
 unfold isQf at h
 simp only [Bool.and_eq_true] at h
 have h1 := h.1.1.1.1.1.1.1.2
 simp only [rng, Bool.and_eq_true, decide_eq_true_eq] at h1
 omega
set_option maxRecDepth 100000 in
set_option maxHeartbeats 8000000 in
theorem persons_any (A : Option Addr) (n c : Nat) (l : List Pf) (w : World) (h : Cn w A n l) :
  Calls Tryz.prog 75 #[.slice A n c] w fun e w' => (∃ v, e = .returned v ∧ OwnL icells 1 3 w' w.heap.size v (persS (l.map Pf.q))) ∧ Below w.heap.size w w' := by
 have HA := Lib.hid h.prf
 have hlen := Lib.hid h.prf.len
 have HN := Lib.hid h.n
 have HQ := Lib.hid h.q
 have HO0 := Lib.hid (OwnL.nil (f := icells) (size := 1) (e := 3) w w.heap.size)
 have HNL := Lib.hid (show ∀ k, k ≤ n → (namL ((l.take k).map Pf.q)).length ≤ 5 * k from fun k hk => by
  have := namL_len ((l.take k).map Pf.q) (fun q hq => by
   obtain ⟨p, hp, rfl⟩ := List.mem_map.1 hq
   exact (isQf_per4 (h.q p (List.take_sublist _ _ |>.subset hp))).2)
  rw [List.length_map, List.length_take] at this
  omega)
 obtain ⟨nm, hnm⟩ : ∃ f : Nat → List Int, (fun k => namL ((l.take k).map Pf.q)) = f := ⟨_, rfl⟩
 have HNM := Lib.hid (fun (k : Nat) => (show namL ((l.take k).map Pf.q) = nm k by rw [← hnm]))
 have HPS := Lib.hid (show persS (l.map Pf.q) = setL (nm n) by rw [← hnm]; show _ = setL (namL ((l.take n).map Pf.q)); rw [List.take_of_length_le (by rw [hlen.out]; exact Nat.le_refl _)]; rfl)
 have HN0 := Lib.hid (show nm 0 = [] by rw [← hnm]; rfl)
 obtain ⟨ps, hps⟩ : ∃ s, persS (l.map Pf.q) = s := ⟨_, rfl⟩
 rw [hps] at HPS ⊢
 clear h hnm hps
 go_enter Tryz.func75, Tryz.ntmps75
 go_wp2_with fail
 go_loopw [3, 8] (fun v i wr => ∃ k : Nat, k ≤ n ∧ OwnL icells 1 3 wr w.heap.size v (nm k) ∧ i = .int .i64 k ∧ Below w.heap.size w wr) (fun _ i _ => n - (intOf i).toNat)
 case atStart => exact ⟨0, Nat.zero_le _, by rw [HN0.out]; exact HO0.out, rfl, Below.refl _ _⟩
 case round =>
  obtain ⟨k, hk, ho, rfl, hg⟩ := hrel
  have HG := Lib.hid hg
  have HO := Lib.hid ho
  clear ho
  by_cases hkn : k < n
  ·have HTK := Lib.hid (namL_take (l := l) (k := k) (by rw [hlen.out]; exact hkn))
   obtain ⟨b, o, rfl, -, hyi, hym, hyc⟩ := (HA.out.below hg).at hkn
   obtain ⟨y, hy⟩ : ∃ y, l.getD k p0 = y := ⟨_, rfl⟩
   rw [hy] at hyi hym hyc HTK
   obtain ⟨e0, e1, e2, e3, e4, e5, e6, e7, e8⟩ := hyc _ (Below.refl _ _)
   have HyI := Lib.hid hyi
   have HTQ := Lib.hid (show nm (k + 1) = nm k ++ (y.q.per ++ (if y.q.kind = 2 then [y.q.oth] else [])) by rw [← HNM.out, ← HNM.out, HTK.out]; rfl)
   have HP4 := Lib.hid (isQf_per4 (HQ.out y hym))
   have HPL := Lib.hid hyi.len
   have HNK := Lib.hid (show (nm k).length ≤ 300 by rw [← HNM.out]; have := HNL.out k hk; have := HN.out; omega)
   obtain ⟨W2, hW2⟩ : ∃ X, wr.alloc (.cells #[.int .i64 y.q.src, .int .i64 y.q.kind, .slice y.A y.n y.c, .int .i64 y.q.oth, .int .i64 y.q.par, .int .i64 y.q.day, .int .i64 y.q.thr, .int .i64 y.q.kno, .int .i64 y.q.unt] 56) = X := ⟨_, rfl⟩
   have GW2 := Lib.hid (show Below wr.heap.size wr W2 by rw [← hW2]; exact one_more _ _)
   have BW2 := Lib.hid (show Blk W2 wr.heap.size 56 #[.int .i64 y.q.src, .int .i64 y.q.kind, .slice y.A y.n y.c, .int .i64 y.q.oth, .int .i64 y.q.par, .int .i64 y.q.day, .int .i64 y.q.thr, .int .i64 y.q.kno, .int .i64 y.q.unt] by rw [← hW2]; exact Blk.new _ _ _)
   have HW2 := Lib.hid hW2
   have hwr2 : wrap64 ((k : Int) + 1) = (k : Int) + 1 := wrap_in (by have := HN.out; omega)
   clear hW2 hy hyi hym hyc hg
   go_upto_region 5 with fail
   rw [HW2.out]
   clear e0 e1 e2 e3 e4 e5 e6 e7 e8
   have d1 := BW2.out.cell 1
   have d2 := BW2.out.cell 2
   have d3 := BW2.out.cell 3
   have HOX := Lib.hid (HO.out.ext GW2.out)
   have HI := Lib.hid (HyI.out.below GW2.out).i
   have HTL := Lib.hid (show (nm k).length + y.n ≤ 1000000 by have := HNK.out; have := HP4.out; have := HPL.out; omega)
   have HBB := Lib.hid (show w.heap.size ≤ W2.heap.size by have h1 := HG.out.size; have h2 := GW2.out.size; omega)
   have hu1 : ¬ wr.heap.size < w.heap.size := by have := HG.out.size; omega
   go_upto_region 6 with (first | (at_builtin; go_loud (refine wpList_app kdI (by rfl) _ _ (by rfl) w.heap.size _ (nm k) (by rfl) HOX.out y.A y.n y.c y.q.per (by rfl) HI.out HTL.out HBB.out ?_); intro v' w' ho hgr hz; have HO2 := Lib.hid ho; have GV := Lib.hid (HG.out.trans ((GW2.out.mono HG.out.size)) |>.trans (HOX.out.below hgr (Nat.le_refl _) HBB.out)); have BV := Lib.hid (show Blk w' wr.heap.size 56 #[.int .i64 y.q.src, .int .i64 y.q.kind, .slice y.A y.n y.c, .int .i64 y.q.oth, .int .i64 y.q.par, .int .i64 y.q.day, .int .i64 y.q.thr, .int .i64 y.q.kno, .int .i64 y.q.unt] from (hgr.block wr.heap.size BW2.out.lt (fun e => by obtain ⟨-, cur, hc⟩ := own_block HOX.out e.symm; exact absurd (blk_type hc BW2.out) (by decide))).trans BW2.out); clear ho hgr hz))
   have d1' := BV.out.cell 1
   have d3' := BV.out.cell 3
   clear d1 d2 d3
   by_cases h2 : y.q.kind = 2
   ·have h2b : (y.q.kind == 2) = true := by simpa using h2
    have HT2 := Lib.hid (show nm (k + 1) = (nm k ++ y.q.per) ++ [y.q.oth] by rw [HTQ.out, if_pos h2, List.append_assoc])
    have GX := Lib.hid (one_more w' (.cells #[.int .i64 y.q.oth] 3))
    have HI2 := Lib.hid (one_int (Blk.new w' 3 #[.int .i64 y.q.oth]))
    have HOX2 := Lib.hid (HO2.out.ext GX.out)
    have HTL2 := Lib.hid (show (nm k ++ y.q.per).length + 1 ≤ 1000000 by rw [List.length_append]; have := HNK.out; have := HP4.out; omega)
    have HBB2 := Lib.hid (show w.heap.size ≤ (w'.alloc (.cells #[.int .i64 y.q.oth] 3)).heap.size by have h1 := GV.out.size; have h3 := GX.out.size; omega)
    obtain ⟨ls, hls⟩ : ∃ s, nm k ++ y.q.per = s := ⟨_, rfl⟩
    rw [hls] at HT2 HOX2 HTL2
    clear h2 hls
    go_wp2_with (first | (at_builtin; go_loud (refine wpList_app kdI (by rfl) _ _ (by rfl) w.heap.size _ ls (by rfl) HOX2.out _ 1 1 [y.q.oth] (by rfl) HI2.out HTL2.out HBB2.out ?_); intro v2 w2 ho hgr hz; have HO3 := Lib.hid ho; have GV3 := Lib.hid ((GV.out.trans (GX.out.mono GV.out.size)).trans (HOX2.out.below hgr (Nat.le_refl _) HBB2.out)); clear ho hgr hz))
    go_roundw
    case rel => exact ⟨k + 1, by omega, by rw [HT2.out]; exact HO3.out, by rw [hwr2]; rfl, GV3.out⟩
    case measure => rw [hwr2]; simp only [intOf]; omega
   ·have h2b : (y.q.kind == 2) = false := by simpa using h2
    have HT2 := Lib.hid (show nm (k + 1) = nm k ++ y.q.per by rw [HTQ.out, if_neg h2, List.append_nil])
    clear h2
    go_wp2_with fail
    go_roundw
    case rel => exact ⟨k + 1, by omega, by rw [HT2.out]; exact HO2.out, by rw [hwr2]; rfl, GV.out⟩
    case measure => rw [hwr2]; simp only [intOf]; omega
  ·obtain rfl : k = n := by omega
   have TS := Lib.hid (fun (v : Value) (h : OwnL icells 1 3 wr w.heap.size v (nm k)) => sortG_any w.heap.size v (nm k) wr h (by rw [← HNM.out]; have := HNL.out k (Nat.le_refl _); have := HN.out; omega))
   have TC := Lib.hid (fun (v : Value) (W : World) (h : OwnL icells 1 3 W w.heap.size v (srt (nm k))) (hb : w.heap.size ≤ W.heap.size) => compact_any w.heap.size v (srt (nm k)) W h (by unfold srt; rw [List.length_mergeSort, ← HNM.out]; have := HNL.out k (Nat.le_refl _); have := HN.out; omega) hb)
   have HSE := Lib.hid (show Lib.compact (srt (nm k)) = ps by rw [setL_compact]; exact HPS.out.symm)
   clear hg
   go_wp2_with (first
    | (go_at_call 103; (with_reducible refine (TS.out _ HO.out).mono ?_); rintro e V ⟨rfl, hown, hbel⟩; have HOV := Lib.hid hown; have GV := Lib.hid (HG.out.trans (HO.out.below hbel (Nat.le_refl _) HG.out.size)); clear hown hbel)
    | (go_at_call 104; (with_reducible refine (TC.out _ _ HOV.out GV.out.size).mono ?_); rintro e V2 ⟨⟨v2, rfl, hown, -⟩, hbel⟩; have HOV2 := Lib.hid hown; have GV2 := Lib.hid (GV.out.trans (HOV.out.below hbel (Nat.le_refl _) GV.out.size)); clear hown hbel))
   go_ret
   exact ⟨⟨_, rfl, by rw [← HSE.out]; exact HOV2.out⟩, GV2.out⟩
end Go.Proofs.YtehhlgdkhecacaaGreat

namespace Go.Proofs.YtehhlgdkhecacaaGreat
open Go.RowKit Go.Shelf
set_option maxRecDepth 100000 in
set_option maxHeartbeats 4000000 in
theorem idxM_any (g : FuncId) (cl : Array Value) (q : Int → Bool) (A : Option Addr) (n c : Nat) (l : List Int) (w : World) (ha : Ints w A n l) (hn : n ≤ 1000000)
  (eg : ∀ args W, (callFunc g args).run Tryz.prog W = .ok (.enter g args) W) (hq : ∀ x ∈ l, ∀ W, Below w.heap.size w W → Calls Tryz.prog g (#[.int .i64 x] ++ cl) W fun e W' => e = .returned (.bool (q x)) ∧ Below W.heap.size W W') :
  Calls Tryz.prog 156 #[.slice A n c, .func (.func g) #[] cl] w fun e w' => (∃ i : Int, e = .returned (.int .i64 i) ∧ ((∃ k : Nat, i = k ∧ k < n ∧ q (l.getD k 0) = true ∧ ∀ j, j < k → q (l.getD j 0) = false) ∨ (i = -1 ∧ ∀ j, j < n → q (l.getD j 0) = false))) ∧ Below w.heap.size w w' := by
 have HA := Lib.hid ha
 have HQ := Lib.hid hq
 clear ha hq
 go_enter Tryz.func156, Tryz.ntmps156
 go_wp2_with fail
 go_loopw [8] (fun i wr => ∃ k : Nat, k ≤ n ∧ i = .int .i64 k ∧ Below w.heap.size w wr ∧ ∀ j, j < k → q (l.getD j 0) = false) (fun i _ => n - (intOf i).toNat)
 case atStart => exact ⟨0, Nat.zero_le _, rfl, Below.refl _ _, fun j hj => absurd hj (by omega)⟩
 case round =>
  obtain ⟨k, hk, rfl, hg, hno⟩ := hrel
  have HNO := Lib.hid hno
  have HG := Lib.hid hg
  clear hno
  by_cases hkn : k < n
  ·obtain ⟨b, o, rfl, -, hmm, hc⟩ := ints_at (HA.out.below hg) hkn
   have d0 := hc _ (Below.refl _ _)
   obtain ⟨y, hy⟩ : ∃ y, l.getD k 0 = y := ⟨_, rfl⟩
   rw [hy] at d0
   obtain ⟨pb, hpb⟩ : ∃ pb, q y = pb := ⟨_, rfl⟩
   have T := HQ.out y (by rw [← hy]; exact List.mem_of_getElem? hmm) wr hg
   clear hmm
   rw [hpb] at T
   have HT := Lib.hid T
   have HY := Lib.hid hy
   have HPB := Lib.hid hpb
   clear hc hy T hpb hg
   cases pb with
   | true =>
    go_wp2_with (go_at_fn g; (with_reducible refine (HT.out).mono ?_); rintro e w' ⟨rfl, hg2⟩; have G2 := Lib.hid (HG.out.trans (hg2.mono HG.out.size)); clear hg2)
    go_ret
    exact ⟨⟨k, rfl, .inl ⟨k, rfl, hkn, by rw [HY.out]; exact HPB.out, HNO.out⟩⟩, G2.out⟩
   | false =>
    go_wp2_with (go_at_fn g; (with_reducible refine (HT.out).mono ?_); rintro e w' ⟨rfl, hg2⟩; have G2 := Lib.hid (HG.out.trans (hg2.mono HG.out.size)); clear hg2)
    go_roundw
    case rel => exact ⟨k + 1, by omega, by go_num, G2.out, fun j hj => by
     by_cases e : j = k
     ·subst e; rw [HY.out]; exact HPB.out
     ·exact HNO.out j (by omega)⟩
    case measure => simp [intOf]; omega
  ·obtain rfl : n = k := by omega
   go_wp2_with fail
   go_ret
   exact ⟨⟨-1, rfl, .inr ⟨rfl, HNO.out⟩⟩, HG.out⟩
set_option maxRecDepth 100000 in
set_option maxHeartbeats 4000000 in
theorem delMs_any (g0 : FuncId) (cl : Array Value) (q : Int → Bool) (base g n c : Nat) (xs : List Int) (w : World) (h : OwnL icells 1 3 w base (.slice (some ⟨g, 0, none⟩) n c) xs) (hn : n ≤ 1000000)
  (eg : ∀ args W, (callFunc g0 args).run Tryz.prog W = .ok (.enter g0 args) W) (hq : ∀ x ∈ xs, ∀ W, Fix g g w W → Calls Tryz.prog g0 (#[.int .i64 x] ++ cl) W fun e W' => e = .returned (.bool (q x)) ∧ Below W.heap.size W W') :
  Calls Tryz.prog 138 #[.slice (some ⟨g, 0, none⟩) n c, .func (.func g0) #[] cl] w fun e w' => ∃ m, e = .returned (.slice (some ⟨g, 0, none⟩) m c) ∧ OwnL icells 1 3 w' base (.slice (some ⟨g, 0, none⟩) m c) (xs.filter fun x => !q x) ∧ Fix g g w w' := by
 obtain ⟨hn0, hbg, cur0, hb0, hnc, hcm, -, -⟩ := own_inv h
 obtain ⟨A', c', hv', -, -, ha, -⟩ := OwnL.arr kdI h
 cases hv'
 have hgl := hb0.lt
 have T := Lib.hid (idxM_any g0 cl q (some ⟨g, 0, none⟩) xs.length c xs w ha (by omega) eg (fun x hx W gg => hq x hx W (Fix.of_below gg)))
 have HQ := Lib.hid hq
 have HOW := Lib.hid h
 have HN0 := Lib.hid hn0
 have hxl : xs.length ≤ 1000000 := by omega
 have hxc : xs.length ≤ c := by omega
 unfold maxLen at hcm
 clear h hq ha hb0 hn0 hbg cur0
 obtain ⟨n, hnn⟩ : ∃ n, xs.length = n := ⟨_, rfl⟩
 rw [hnn] at T HOW hxl hxc ⊢
 have HNN := Lib.hid hnn
 clear hnn hn hnc HN0
 go_enter Tryz.func138, Tryz.ntmps138
 go_upto_region 2 with (go_at_call 156; (with_reducible refine T.out.mono ?_); rintro e W1 ⟨⟨ix, rfl, hix⟩, hg⟩; have G1 := Lib.hid hg; have HIX := Lib.hid hix; clear hg hix)
 rcases HIX.out with ⟨k0, rfl, hk0, hq0, hno0⟩ | ⟨rfl, hno0⟩
 ·have hne : ((k0 : Int) == -1) = false := by simp
  have HQ0 := Lib.hid hq0
  have HNO := Lib.hid hno0
  clear hq0 hno0
  have HST := Lib.hid (show (xs.take k0).filter (fun x => !q x) = xs.take k0 from List.filter_eq_self.2 (fun x hx => by
   obtain ⟨j, hj, rfl⟩ := List.getElem_of_mem hx
   have hj' : j < k0 := by rw [List.length_take] at hj; omega
   have hjn : j < xs.length := by rw [HNN.out]; omega
   have := HNO.out j hj'
   rw [List.getElem_take]
   rw [List.getD_eq_getElem?_getD, List.getElem?_eq_getElem hjn] at this
   simpa using this))
  go_upto_region 4 with fail
  go_wp2_with fail
  go_loopw [5, 6] (fun i j wr => ∃ (a b : Nat) (ys : List Int), i = .int .i64 a ∧ j = .int .i64 b ∧ a < b ∧ b ≤ n ∧ OwnL icells 1 3 wr base (.slice (some ⟨g, 0, none⟩) n c) ys ∧ Fix g g w wr ∧ ys.take a = (xs.take b).filter (fun x => !q x) ∧ ys.drop b = xs.drop b) (fun _ j _ => n - (intOf j).toNat)
  case atStart =>
   refine ⟨k0, k0 + 1, xs, rfl, by go_num, by omega, by omega, HOW.out.ext G1.out, Fix.of_below G1.out, ?_, rfl⟩
   rw [List.take_succ_eq_append_getElem (by rw [HNN.out]; omega), List.filter_append, HST.out]
   have := HQ0.out
   rw [List.getD_eq_getElem?_getD, List.getElem?_eq_getElem (by rw [HNN.out]; omega)] at this
   have hk0' : k0 < xs.length := by rw [HNN.out]; omega
   have this2 : q xs[k0] = true := this
   simp [this2]
  case round =>
   obtain ⟨a, b, ys, rfl, rfl, hab, hbn, ho, hfx, htk, hdr⟩ := hrel
   obtain ⟨hyl, -, cur, hcb, -, -, -, -⟩ := own_inv ho
   obtain ⟨A', c', hv', -, -, har, -⟩ := OwnL.arr kdI ho
   have hA' : A' = some ⟨g, 0, none⟩ := by cases hv'; rfl
   subst hA'
   rw [← hyl] at har
   clear hv'
   have HO := Lib.hid ho
   have HFX := Lib.hid hfx
   have HTK := Lib.hid htk
   have HDR := Lib.hid hdr
   have HYL := Lib.hid hyl
   have HCB := Lib.hid hcb
   have HAR := Lib.hid har
   clear ho hfx htk hdr hyl hcb har
   by_cases hbl : b < n
   ·obtain ⟨b', o', e', -, hmem, hc⟩ := ints_at HAR.out hbl
    cases e'
    have hcs := hc _ (Below.refl _ _)
    have x0 := hcs
    rw [Nat.zero_add] at x0
    have hxy : ys.getD b 0 = xs.getD b 0 := by
     have h1 : (ys.drop b)[0]? = (xs.drop b)[0]? := by rw [HDR.out]
     rw [List.getElem?_drop, List.getElem?_drop, Nat.add_zero] at h1
     rw [List.getD_eq_getElem?_getD, List.getD_eq_getElem?_getD, h1]
    have hxs : xs[b]? = some (xs.getD b 0) := getD_int1 (by rw [HNN.out]; exact hbl)
    obtain ⟨x, hx⟩ : ∃ x, xs.getD b 0 = x := ⟨_, rfl⟩
    rw [hxy, hx] at x0
    rw [hx] at hxs
    have HTN := Lib.hid (show (xs.take (b + 1)).filter (fun x => !q x) = ys.take a ++ (if q x = true then [] else [x]) by
     rw [HTK.out, List.take_add_one, hxs, List.filter_append]
     by_cases hqx : q x = true <;> simp [hqx])
    have HDN := Lib.hid (show ys.drop (b + 1) = xs.drop (b + 1) by rw [← List.drop_drop, HDR.out, List.drop_drop])
    have TQ := Lib.hid (fun W (g : Fix g g w W) => HQ.out x (List.mem_of_getElem? hxs) W g)
    have T3 := Lib.hid (TQ.out wr HFX.out)
    obtain ⟨qb, hqb⟩ : ∃ qb, q x = qb := ⟨_, rfl⟩
    rw [hqb] at T3 HTN
    have hab2 : (a : Int) < (n : Int) := by omega
    clear hc hxy hxs hx hqb hmem
    cases qb with
    | true =>
     go_wp2_with (go_at_fn g0; (with_reducible refine (T3.out).mono ?_); rintro e W4 ⟨rfl, hg4⟩; have G4 := Lib.hid hg4; clear hg4)
     go_roundw
     case rel =>
      refine ⟨a, b + 1, ys, rfl, by go_num, by omega, by omega, HO.out.ext (G4.out), HFX.out.trans (Fix.of_below (G4.out)), ?_, HDN.out⟩
      rw [HTN.out]; simp
     case measure => simp [intOf]; omega
    | false =>
     go_upto_region 9 with (go_at_fn g0; (with_reducible refine (T3.out).mono ?_); rintro e W4 ⟨rfl, hg4⟩; have G4 := Lib.hid hg4; clear hg4)
     have HO4 := Lib.hid (HO.out.ext (G4.out))
     obtain ⟨-, -, cur4, hcb4, -, -, hsz4, -⟩ := own_inv HO4.out
     have hc6 : a + 1 ≤ c := by omega
     have hcc : ∀ j, j < c → W4.cell? ⟨g, j, none⟩ = some (cur4[j]!) := fun j hj => by rw [hcb4.cell, Array.getElem?_eq_getElem (by omega), getElem!_pos cur4 j (by omega)]
     have w0 := hcc a (by omega)
     have v0 := hcb4.frozen a
     clear hcc hcb4 hsz4 x0
     go_wp2_with fail
     go_roundw
     case rel =>
      have hput := HO4.out.put icells_len (i := a) (by omega) x
      rw [Nat.mul_one] at hput
      have hfix : Fix g g W4 (W4.setCells g a (icells x)) := fix_setCells _ _ _
      refine ⟨a + 1, b + 1, ys.set a x, by go_num, by go_num, by omega, by omega, hput, (HFX.out.trans (Fix.of_below (G4.out))).trans hfix, ?_, ?_⟩
      ·rw [HTN.out, List.take_set]
       have hal : a < ys.length := by rw [← HYL.out]; omega
       rw [List.take_succ_eq_append_getElem hal, List.set_append_right _ _ (by rw [List.length_take]; omega)]
       rw [List.length_take, Nat.min_eq_left (by omega), Nat.sub_self]
       simp
      ·rw [List.drop_set_of_lt (by omega)]; exact HDN.out
     case measure => simp [intOf]; omega
   ·obtain rfl : n = b := by omega
    have HTK2 := Lib.hid (show ys.take a = xs.filter (fun x => !q x) by rw [HTK.out, List.take_of_length_le (by rw [HNN.out]; exact Nat.le_refl _)])
    have hca : ¬ c = a := by omega
    obtain ⟨m, hm⟩ : ∃ m, n - a = m := ⟨_, rfl⟩
    obtain ⟨-, -, curn, hcbn, -, -, hszn, -⟩ := own_inv HO.out
    obtain ⟨i0, hi0, hz0, hz1, hz2⟩ := info_parts info3
    have hclr := Lib.hid (fun ty => run_clear_gen wr 25 3 ty (.int .i64 0) 1 g a (n - a) (c - a) Tryz.underlying25 (fun w => by simp [zeroValue, typeInfo, hi0, hz0]) (by omega) rfl (by decide) (by intro v hv; simp [Value.cells] at hv; subst hv; rfl)
     (fun j hj => by rw [hcbn.cell, Array.getElem?_eq_getElem (by rw [hszn]; omega)]; rfl) (fun j _ => hcbn.frozen _))
    have hclr2 := hclr.out
    clear hcbn hszn hi0 hz0 hz1 hz2
    have hac : (a : Int) ≤ (n : Int) := by omega
    have hac2 : (a : Int) ≤ (c : Int) := by omega
    obtain ⟨vs, hvs⟩ : ∃ vs, (Builtin.zeroCells (Value.int .i64 0).cells (n - a)).toList = vs := ⟨_, rfl⟩
    have HVL := Lib.hid (show vs.length = (n - a) * 1 by rw [← hvs]; exact zeroCells_len _ _)
    rw [hvs] at hclr2
    clear hvs hclr hm
    go_wp2_with fail
    go_ret
    refine ⟨a, rfl, ?_, HFX.out.trans (fix_setCells _ _ _)⟩
    have hfr := HO.out.front icells_len (i := a) (by omega)
    rw [HTK2.out] at hfr
    exact hfr.behind icells_len (by omega) (by rw [HVL.out]; omega)
 ·have HFI := Lib.hid (show xs.filter (fun x => !q x) = xs from List.filter_eq_self.2 (fun x hx => by
   obtain ⟨j, hj, rfl⟩ := List.getElem_of_mem hx
   have := hno0 j (by rw [← HNN.out]; exact hj)
   rw [List.getD_eq_getElem?_getD, List.getElem?_eq_getElem hj] at this
   simpa using this))
  clear hno0
  go_wp2_with fail
  go_ret
  exact ⟨n, rfl, by rw [HFI.out]; exact HOW.out.ext G1.out, Fix.of_below G1.out⟩
set_option maxRecDepth 100000 in
theorem delM_nil (g0 : FuncId) (cl : Array Value) (q : Int → Bool) (w : World) (eg : ∀ args W, (callFunc g0 args).run Tryz.prog W = .ok (.enter g0 args) W) :
  Calls Tryz.prog 138 #[.slice none 0 0, .func (.func g0) #[] cl] w fun e w' => e = .returned (.slice none 0 0) ∧ Below w.heap.size w w' := by
 have T := Lib.hid (idxM_any g0 cl q none 0 0 [] w Arr.nil_ (by decide) eg (fun x hx => absurd hx (by simp)))
 go_enter Tryz.func138, Tryz.ntmps138
 go_upto_region 2 with (go_at_call 156; (with_reducible refine T.out.mono ?_); rintro e W1 ⟨⟨ix, rfl, hix⟩, hg⟩; have G1 := Lib.hid hg; have HIX := Lib.hid hix; clear hg hix)
 rcases HIX.out with ⟨k0, rfl, hk0, hq0, hno0⟩ | ⟨rfl, hno0⟩
 ·omega
 ·clear hno0
  go_wp2_with fail
  go_ret
  exact ⟨rfl, G1.out⟩
theorem delM_any (g0 : FuncId) (cl : Array Value) (q : Int → Bool) (base : Nat) (v : Value) (xs : List Int) (w : World) (h : OwnL icells 1 3 w base v xs) (hn : xs.length ≤ 1000000)
  (eg : ∀ args W, (callFunc g0 args).run Tryz.prog W = .ok (.enter g0 args) W) (hq : ∀ x ∈ xs, ∀ W, w.grownBy W v.ownBlock → Calls Tryz.prog g0 (#[.int .i64 x] ++ cl) W fun e W' => e = .returned (.bool (q x)) ∧ Below W.heap.size W W') :
  Calls Tryz.prog 138 #[v, .func (.func g0) #[] cl] w fun e w' => ∃ v', e = .returned v' ∧ OwnL icells 1 3 w' base v' (xs.filter fun x => !q x) ∧ w.grownBy w' v.ownBlock ∧ v'.ownBlock = v.ownBlock := by
 obtain ⟨A, c, hv, hnc, -, -, hgb⟩ := OwnL.arr kdI h
 cases A with
 | none =>
  have h2 : v = .slice none 0 0 ∧ xs = [] := by
   obtain ⟨h1, ⟨e0, h3⟩ | ⟨g, cap, cur, e0, -⟩⟩ := h
   ·exact ⟨e0, List.eq_nil_of_length_eq_zero h3⟩
   ·rw [e0] at hv; cases hv
  obtain ⟨rfl, rfl⟩ := h2
  refine (delM_nil g0 cl q w eg).mono ?_
  rintro e w' ⟨rfl, hg⟩
  exact ⟨_, rfl, OwnL.nil _ _, ⟨hg.os, hg.tape, hg.output, hg.size, fun k hk _ => hg.block k hk⟩, rfl⟩
 | some a =>
  obtain ⟨g, o, sp⟩ := a
  have h2 : v = .slice (some ⟨g, 0, none⟩) xs.length c := by
   obtain ⟨h1, ⟨e0, h3⟩ | ⟨g', cap, cur, e0, -⟩⟩ := h
   ·rw [e0] at hv; cases hv
   ·rw [e0] at hv; cases hv; exact e0
  subst h2
  refine (delMs_any g0 cl q base g xs.length c xs w h hn eg (fun x hx W gg => hq x hx W (fix_grown gg))).mono ?_
  rintro e w' ⟨m, rfl, ho, hf⟩
  exact ⟨_, rfl, ho, fix_grown hf, rfl⟩
theorem yes_any (n : Int) (w : World) : Calls Tryz.prog 97 #[.int .i64 n] w fun e w' => e = .returned (.bool (decide (n = 1))) ∧ w = w' := by
 go_enter Tryz.func97, Tryz.ntmps97
 go_wp2
 go_ret
 exact ⟨by by_cases h : n = 1 <;> simp [h], rfl⟩
/-- The members for whom the answer is one that is wanted. -/
def memS (g : Int → Bool) (c : List Qf) (parish day : Int) : List Int := (persS c).filter fun n => g (righN (wherS c n day) parish)
set_option maxRecDepth 100000 in
set_option maxHeartbeats 8000000 in
theorem member_any (f : FuncId) (g : Int → Bool) (eg : ∀ args W, (callFunc f args).run Tryz.prog W = .ok (.enter f args) W) (hg : ∀ n W, Calls Tryz.prog f #[.int .i64 n] W fun e w' => e = .returned (.bool (g n)) ∧ W = w')
  (A : Option Addr) (n c : Nat) (l : List Pf) (x parish day : Int) (bf bc bp bd : Nat) (w : World) (h : Cn w A n l) (hp : In64 x) (hd : In64 day)
  (h1 : Blk w bf 119 #[.func (.func f) #[] #[]]) (h2 : Blk w bc 22 #[.slice A n c]) (h3 : Blk w bp 3 #[.int .i64 parish]) (h4 : Blk w bd 3 #[.int .i64 day]) :
  Calls Tryz.prog 139 #[.int .i64 x, ptr bf, ptr bc, ptr bp, ptr bd] w fun e w' => e = .returned (.bool (!g (righN (wherS (l.map Pf.q) x day) parish))) ∧ Below w.heap.size w w' := by
 have T := fun (X : Wd w) => right_any A n c l x parish day X.val (h.below X.ok) hp hd
 obtain ⟨rn, hrn⟩ : ∃ s, righN (wherS (l.map Pf.q) x day) parish = s := ⟨_, rfl⟩
 rw [hrn] at T ⊢
 have TG := fun (X : Wd w) => hg rn X.val
 obtain ⟨gb, hgb⟩ : ∃ s, g rn = s := ⟨_, rfl⟩
 rw [hgb] at TG ⊢
 have HT := Lib.hid T
 have HTG := Lib.hid TG
 have d1 := cellW (h1.cell 0)
 have d2 := cellW (h2.cell 0)
 have d3 := cellW (h3.cell 0)
 have d4 := cellW (h4.cell 0)
 clear h hp hd h1 h2 h3 h4 hrn hgb hg T TG
 go_enter Tryz.func139, Tryz.ntmps139
 go_upto_region 1 with fail
 refine wp_region_calm w (by kernel_rfl) (by kernel_rfl) (Below.refl _ _) ?_
 repeat (go_big_quiet_step ((first | (go_at_call 67; exact callsCalm (HT.out _)) | (go_at_fn f; exact callsCalmSame (HTG.out _)))))
 refine wpQuiet_nil ?_
 rintro _ ⟨zz, rfl⟩
 have GZ := Lib.hid zz.ok
 go_wp2_with fail
 go_ret
 exact ⟨rfl, GZ.out⟩
theorem persS_rng {l : List Pf} (h : ∀ p ∈ l, isQf p.q = true) {x : Int} (hx : x ∈ persS (l.map Pf.q)) : rng x 1 999 = true := by
 unfold persS at hx
 rw [setL_mem] at hx
 unfold namL at hx
 obtain ⟨q, hq, hxq⟩ := List.mem_flatMap.1 hx
 obtain ⟨p, hp, rfl⟩ := List.mem_map.1 hq
 have h1 := h p hp
 unfold isQf at h1
 simp only [Bool.and_eq_true] at h1
 obtain ⟨⟨⟨⟨⟨⟨⟨⟨⟨-, -⟩, -⟩, -⟩, h2⟩, -⟩, -⟩, -⟩, -⟩, h3⟩ := h1
 unfold namQ at hxq
 rcases List.mem_append.1 hxq with h4 | h4
 ·exact List.all_eq_true.1 h2 x h4
 ·by_cases hk : p.q.kind = 2
  ·rw [if_pos hk] at h4 h3
   rw [List.mem_singleton] at h4
   rw [h4]
   rw [Bool.and_eq_true] at h3
   exact h3.1
  ·rw [if_neg hk] at h4
   cases h4
set_option maxRecDepth 100000 in
set_option maxHeartbeats 8000000 in
theorem members_any (f : FuncId) (g : Int → Bool) (eg : ∀ args W, (callFunc f args).run Tryz.prog W = .ok (.enter f args) W) (hg : ∀ n W, Calls Tryz.prog f #[.int .i64 n] W fun e w' => e = .returned (.bool (g n)) ∧ W = w')
  (A : Option Addr) (n c : Nat) (l : List Pf) (parish day known : Int) (w : World) (ha : Prf w A n l) (hn : n ≤ 9223372036854775807) :
  Calls Tryz.prog 96 #[.slice A n c, .int .i64 parish, .int .i64 day, .int .i64 known, .func (.func f) #[] #[]] w (ListEnd (memS g (cntL (l.map Pf.q) known) parish day) (readE (l.map Pf.q) 1 parish [day, known] known) w) := by
 obtain ⟨W1, hW1⟩ : ∃ X, ((w.alloc (.cells #[.int .i64 parish] 3)).alloc (.cells #[.int .i64 day] 3)).alloc (.cells #[.func (.func f) #[] #[]] 119) = X := ⟨_, rfl⟩
 have g1 : Below w.heap.size w W1 := by rw [← hW1]; exact three_more _ _ _ _
 have bp : Blk W1 w.heap.size 3 #[.int .i64 parish] := by rw [← hW1]; exact ((Blk.new _ _ _).alloc _).alloc _
 have bd : Blk W1 (w.heap.size + 1) 3 #[.int .i64 day] := by rw [← hW1]; exact (blk_second2 _ _ _ _).alloc _
 have bf : Blk W1 (w.heap.size + 1 + 1) 119 #[.func (.func f) #[] #[]] := by
  rw [← hW1]; have := Blk.new ((w.alloc (.cells #[.int .i64 parish] 3)).alloc (.cells #[.int .i64 day] 3)) 119 #[.func (.func f) #[] #[]]; rw [World.size_alloc, World.size_alloc] at this; exact this
 have s1 : W1.heap.size = w.heap.size + 1 + 1 + 1 := by rw [← hW1]; simp
 obtain ⟨W2, hW2⟩ : ∃ X, W1.alloc (.cells #[.int .i64 day, .int .i64 known] 3) = X := ⟨_, rfl⟩
 have g2 : Below W1.heap.size W1 W2 := by rw [← hW2]; exact one_more _ _
 have b2 : Blk W2 (w.heap.size + 1 + 1 + 1) 3 #[.int .i64 day, .int .i64 known] := by rw [← hW2, ← s1]; exact Blk.new _ _ _
 have T := askRead_any 1 parish (some ⟨w.heap.size + 1 + 1 + 1, 0, none⟩) 2 2 [day, known] known A n c l W2 (ha.below (extTrans g1 g2)) hn (two_ints b2) (by decide) (by decide) rfl
 have HFM := Lib.hid (show (l.filter fun p => cnt p.q known).map Pf.q = cntL (l.map Pf.q) known from filt_map l (fun q => cnt q known))
 have HOK := Lib.hid (fun (h : readE (l.map Pf.q) 1 parish [day, known] known = 0) => (askE_ok (readE_ask h)))
 have HMS := Lib.hid (show memS g (cntL (l.map Pf.q) known) parish day = (persS (cntL (l.map Pf.q) known)).filter fun n => g (righN (wherS (cntL (l.map Pf.q) known) n day) parish) from rfl)
 obtain ⟨re, hre⟩ : ∃ s, readE (l.map Pf.q) 1 parish [day, known] known = s := ⟨_, rfl⟩
 rw [hre] at HOK T ⊢
 obtain ⟨ms, hms⟩ : ∃ s, memS g (cntL (l.map Pf.q) known) parish day = s := ⟨_, rfl⟩
 rw [hms] at HMS ⊢
 have G1 := Lib.hid g1
 have G2 := Lib.hid (extTrans g1 g2)
 have BP := Lib.hid (bp.ext g2)
 have BD := Lib.hid (bd.ext g2)
 have BF := Lib.hid (bf.ext g2)
 have p0 := bp.cell 0
 have d0 := bd.cell 0
 have HW1 := Lib.hid hW1
 have HW2 := Lib.hid hW2
 have S1 := Lib.hid s1
 have HT := Lib.hid T
 have HG := Lib.hid hg
 clear ha hre hms g1 g2 bp bd bf b2 s1 hW1 hW2 T hg
 by_cases hz : re = 0
 ·subst hz
  go_enter Tryz.func96, Tryz.ntmps96
  go_upto_region 1 with fail
  rw [HW1.out]
  go_upto_region 2 with (go_at_call 66; rw [HW2.out, S1.out]; (with_reducible refine (HT.out).mono ?_); rintro e V ⟨A2, n2, c2, rfl, ho, -, hg⟩; have HO := Lib.hid (ho rfl); have GV := Lib.hid (hg); clear ho hg)
  obtain ⟨hok, -, -, hdays⟩ := HOK.out (by trivial)
  have hcn := cn_of hok HO.out.1 HO.out.2.1
  obtain ⟨V2, hV2⟩ : ∃ X, V.alloc (.cells #[.slice A2 n2 c2] 22) = X := ⟨_, rfl⟩
  have gv2 : Below V.heap.size V V2 := by rw [← hV2]; exact one_more _ _
  have bc : Blk V2 V.heap.size 22 #[.slice A2 n2 c2] := by rw [← hV2]; exact Blk.new _ _ _
  have gt : Below W2.heap.size W2 V2 := GV.out.trans (gv2.mono GV.out.size)
  have TP := persons_any A2 n2 c2 _ V2 (hcn.below gv2)
  have TM := Lib.hid (fun (W : World) (gW : Below V2.heap.size V2 W) (x : Int) (hx : x ∈ persS ((l.filter fun p => cnt p.q known).map Pf.q)) => member_any f g eg HG.out A2 n2 c2 _ x parish day (w.heap.size + 1 + 1) V.heap.size w.heap.size (w.heap.size + 1) W (hcn.below (gv2.trans (gW.mono gv2.size))) (in64_person (persS_rng hcn.q hx)) (in64_day (hdays day (by simp))) ((BF.out.ext gt).ext gW) (bc.ext gW) ((BP.out.ext gt).ext gW) ((BD.out.ext gt).ext gW))
  have HPL := Lib.hid (show (persS ((l.filter fun p => cnt p.q known).map Pf.q)).length ≤ 1000000 by
   have h1 : (persS ((l.filter fun p => cnt p.q known).map Pf.q)).length ≤ (namL ((l.filter fun p => cnt p.q known).map Pf.q)).length := by
    unfold persS
    rw [← setL_compact]
    have h2 := (compact_sub (srt (namL ((l.filter fun p => cnt p.q known).map Pf.q)))).length_le
    unfold srt at h2 ⊢
    rwa [List.length_mergeSort] at h2
   have h3 := namL_len ((l.filter fun p => cnt p.q known).map Pf.q) (fun q hq => by
    obtain ⟨p, hp, rfl⟩ := List.mem_map.1 hq
    exact (isQf_per4 (hcn.q p hp)).2)
   rw [List.length_map, hcn.prf.len] at h3
   have := hcn.n
   omega)
  rw [HFM.out] at TP TM HPL
  have HTP := Lib.hid TP
  have HMS2 := Lib.hid HMS.out
  obtain ⟨ps, hps⟩ : ∃ s, persS (cntL (l.map Pf.q) known) = s := ⟨_, rfl⟩
  rw [hps] at HTP TM HPL HMS2
  have c0 := bc.cell 0
  have HV2 := Lib.hid hV2
  have GVV := Lib.hid (G2.out.trans (gt.mono G2.out.size))
  clear hok hdays hcn hV2 gv2 bc gt TP hps p0 d0
  rw [HV2.out]
  go_wp2_with (first
   | (go_at_call 75; (with_reducible refine (HTP.out).mono ?_); rintro e V3 ⟨⟨v, rfl, ho⟩, hg3⟩; have HO3 := Lib.hid ho; have GV3 := Lib.hid hg3; have TD := Lib.hid (delM_any 139 #[ptr (w.heap.size + 1 + 1), ptr V.heap.size, ptr w.heap.size, ptr (w.heap.size + 1)] _ _ v ps V3 ho HPL.out (enters_of Tryz.func139 (by kernel_rfl) rfl) (fun x hx W gW => TM.out W (hg3.grown gW hg3.size (fun k hk => (own_block ho hk).1)) x hx)); clear ho hg3)
   | (go_at_call 138; (with_reducible refine (TD.out).mono ?_); rintro e V4 ⟨v4, rfl, ho4, hg4, -⟩; have HO4 := Lib.hid ho4; have GV4 := Lib.hid (GV3.out.grown hg4 GV3.out.size (fun k hk => (own_block HO3.out hk).1)); clear ho4 hg4))
  go_ret2
  refine listEnd_ok (base := V2.heap.size) ?_ (GVV.out.trans (GV4.out.mono GVV.out.size))
  have h5 := HO4.out
  rw [HMS2.out]
  simpa using h5
 ·have hzb : (re != 0) = true := by simpa using hz
  have HZ := Lib.hid hz
  clear hz
  go_enter Tryz.func96, Tryz.ntmps96
  go_upto_region 1 with fail
  rw [HW1.out]
  go_wp2_with (go_at_call 66; rw [HW2.out, S1.out]; (with_reducible refine (HT.out).mono ?_); rintro e V ⟨A2, n2, c2, rfl, -, ho, hg⟩; obtain ⟨rfl, rfl, rfl⟩ := ho HZ.out; have GV := Lib.hid (G2.out.trans (hg.mono G2.out.size)); clear ho hg)
  go_ret2
  exact listEnd_no HZ.out (GV.out.trans ((one_more _ _).mono GV.out.size))
/-- Belong and May. -/
def belS (c : List Qf) (parish day : Int) : List Int := memS (fun n => decide (n = 1)) c parish day
theorem belong_any (A : Option Addr) (n c : Nat) (l : List Pf) (parish day known : Int) (w : World) (ha : Prf w A n l) (hn : n ≤ 9223372036854775807) :
  Calls Tryz.prog 34 #[.slice A n c, .int .i64 parish, .int .i64 day, .int .i64 known] w (ListEnd (belS (cntL (l.map Pf.q) known) parish day) (readE (l.map Pf.q) 1 parish [day, known] known) w) := by
 have T := Lib.hid (members_any 97 (fun n => decide (n = 1)) (enters_of Tryz.func97 (by kernel_rfl) rfl) yes_any A n c l parish day known w ha hn)
 rw [show memS (fun n => decide (n = 1)) (cntL (l.map Pf.q) known) parish day = belS (cntL (l.map Pf.q) known) parish day from rfl] at T
 generalize belS (cntL (l.map Pf.q) known) parish day = ms at T ⊢
 generalize readE (l.map Pf.q) 1 parish [day, known] known = re at T ⊢
 clear ha hn
 go_enter Tryz.func34, Tryz.ntmps34
 go_wp2_with (go_at_call 96; (with_reducible refine (T.out).mono ?_); rintro e V ⟨A2, n2, c2, rfl, h1, h2, h3, h4⟩; have H := Lib.hid (And.intro h1 (And.intro h2 (And.intro h3 h4))); clear h1 h2 h3 h4)
 go_ret2
 exact ⟨A2, n2, c2, rfl, H.out⟩
end Go.Proofs.YtehhlgdkhecacaaGreat

namespace Go.Proofs.YtehhlgdkhecacaaGreat
open Go.RowKit Go.Shelf
theorem own_head {α : Type} {f : α → List Value} {size : Nat} {e : TypeId} {w : World} {base : Nat} {v : Value} {xs : List α} (h : OwnL f size e w base v xs) (hx : 0 < xs.length) : ∃ g c, v = .slice (some ⟨g, 0, none⟩) xs.length c ∧ base ≤ g := by
 obtain ⟨h1, ⟨rfl, h2⟩ | ⟨g, cap, cur, rfl, hb, -⟩⟩ := h
 ·omega
 ·exact ⟨g, cap, rfl, hb⟩
theorem Fix.low {w w' : World} {g B : Nat} (h : Fix g g w w') (hB : B ≤ g) (_hw : B ≤ w.heap.size) : Below B w w' := by
 have := h.size
 refine ⟨h.os, h.tape, h.output, h.size, fun k hk => ?_⟩
 exact h.block k (by omega) (by omega) (by omega)
theorem of_map (l : List Pf) (b : List Int) : (l.filter fun p => hasI b p.q.src).map Pf.q = ofL (l.map Pf.q) b := by
 unfold ofL
 rw [List.filter_map]
 congr 1
 refine List.filter_congr fun p _ => ?_
 show hasI b p.q.src = decide (p.q.src ∈ b)
 by_cases h : p.q.src ∈ b
 ·rw [hasI_true h, decide_eq_true h]
 ·rw [decide_eq_false h, Bool.eq_false_iff]
  exact fun e => h (hasI_iff.1 e)
/-- Whether there is a reading of the proofs with some sources: of, then isRead. -/
theorem ofRead_any (A : Option Addr) (n : Nat) (l : List Pf) (b : List Int) (w : World) (h : Cn w A n l) (V : World) (v : Value) (g : Below w.heap.size w V) (ho : OwnL pcells 9 56 V w.heap.size v (l.filter fun p => hasI b p.q.src)) :
  ∃ A2 n2 c2, v = .slice A2 n2 c2 ∧ n2 = (ofL (l.map Pf.q) b).length ∧ Calls Tryz.prog 109 #[.slice A2 n2 c2] V fun e w' => e = .returned (.bool (isRead (ofL (l.map Pf.q) b))) ∧ Below V.heap.size V w' := by
 obtain ⟨A2, c2, rfl, -, -, hp⟩ := own_prf ho (fun p hp => (h.prf.p p (List.mem_filter.1 hp).1).below g)
 have hl := List.length_filter_le (fun p : Pf => hasI b p.q.src) l
 rw [h.prf.len] at hl
 have T := isRead_any A2 _ c2 _ V hp (by have := h.n; omega)
 rw [of_map] at T
 exact ⟨A2, _, c2, rfl, by rw [← of_map, List.length_map], T⟩
/-- The error of Clash. -/
def clE (l : List Qf) (known : Int) : Int := if lookE l [known] = 0 then (if isRead (cntL l known) = true then 25 else 0) else lookE l [known]
set_option maxRecDepth 100000 in
set_option maxHeartbeats 8000000 in
theorem clash_any (A : Option Addr) (n c : Nat) (l : List Pf) (known : Int) (w : World) (ha : Prf w A n l) (hn : n ≤ 9223372036854775807) :
  Calls Tryz.prog 51 #[.slice A n c, .int .i64 known] w (ListEnd (clashL (cntL (l.map Pf.q) known)) (clE (l.map Pf.q) known) w) := by
 have T := look_one A n c l known w ha hn
 have HCE := Lib.hid (show clE (l.map Pf.q) known = if lookE (l.map Pf.q) [known] = 0 then (if isRead (cntL (l.map Pf.q) known) = true then 25 else 0) else lookE (l.map Pf.q) [known] from rfl)
 have HCN := Lib.hid (fun (V : World) (D : Option Addr) (k : Nat) (fl : List Pf) (h : okL (l.map Pf.q) = true) (hs : fl.Sublist l) (hq : fl.map Pf.q = cntL (l.map Pf.q) known) (hp : Prf V D k fl) (h60 : k ≤ 60) =>
  (⟨hp, h60, fun p hp => okL_all h _ (List.mem_map.2 ⟨p, hs.subset hp, rfl⟩), (((hs.map Pf.q).map Qf.src).nodup ((okL_src h).imp fun hlt => by omega)), by rw [hq]; exact reads_len h known⟩ : Cn V D k fl))
 obtain ⟨ce, hce⟩ : ∃ s, clE (l.map Pf.q) known = s := ⟨_, rfl⟩
 rw [hce] at HCE ⊢
 obtain ⟨le, hle⟩ : ∃ s, lookE (l.map Pf.q) [known] = s := ⟨_, rfl⟩
 rw [hle] at T HCE
 obtain ⟨cq, hcq⟩ : ∃ s, cntL (l.map Pf.q) known = s := ⟨_, rfl⟩
 rw [hcq] at T HCE HCN ⊢
 have HT := Lib.hid T
 clear T ha hce hle hcq
 by_cases hz : le = 0
 ·subst hz
  go_enter Tryz.func51, Tryz.ntmps51
  go_upto_region 2 with (go_at_call 73; (with_reducible refine (HT.out).mono ?_); rintro e V ⟨v, rfl, hg, h1, -⟩; obtain ⟨D, k, d, fl, rfl, hfq, hp, h60, -, -, hsub, hok⟩ := h1 (by trivial); have GV := Lib.hid hg; have CN := Lib.hid (HCN.out V D k fl hok hsub hfq hp h60); have HFQ := Lib.hid hfq; clear hg h1 hfq hp h60 hsub hok)
  have TR := isRead_any D k d fl V CN.out.prf (by have := CN.out.n; omega)
  rw [HFQ.out] at TR
  have HCE2 := HCE.out
  rw [if_pos (by trivial)] at HCE2
  obtain ⟨rb, hrb⟩ : ∃ s, isRead cq = s := ⟨_, rfl⟩
  rw [hrb] at TR HCE2
  have HTR := Lib.hid TR
  have HRB := Lib.hid hrb
  clear TR hrb HCE
  cases rb with
  | true =>
   have e : ce = 25 := HCE2
   subst e
   clear HCE2
   go_wp2_with (go_at_call 109; (with_reducible refine (HTR.out).mono ?_); rintro e V2 ⟨rfl, hg⟩; have GV2 := Lib.hid (GV.out.trans (hg.mono GV.out.size)); clear hg)
   go_ret2
   exact listEnd_no (by decide) GV2.out
  | false =>
   have e : ce = 0 := HCE2
   subst e
   clear HCE2
   have TS := Lib.hid (fun (W : World) (g : Below V.heap.size V W) => sources_any D k d fl W (CN.out.prf.below g) (by have := CN.out.n; omega))
   rw [HFQ.out] at TS
   go_upto_region 7 with (first
    | (go_at_call 109; (with_reducible refine (HTR.out).mono ?_); rintro e V2 ⟨rfl, hg⟩; have GV2 := Lib.hid hg; clear hg)
    | (go_at_call 102; (with_reducible refine (TS.out _ GV2.out).mono ?_); rintro e V3 ⟨⟨v3, rfl, ho⟩, hg⟩; have HO3 := Lib.hid ho; have GV3 := Lib.hid (GV2.out.trans (hg.mono GV2.out.size)); have HB3 := Lib.hid (show V.heap.size ≤ V2.heap.size from GV2.out.size); clear ho hg))
   have HO0 := Lib.hid (HO3.out.mono HB3.out)
   obtain ⟨A3, c3, e3, -, -, -, -⟩ := OwnL.arr kdI HO0.out
   have hsl : (srcL cq).length = k := by unfold srcL; rw [List.length_map, ← HFQ.out, List.length_map, CN.out.prf.len]
   have hcl : cq.length = k := by rw [← HFQ.out, List.length_map, CN.out.prf.len]
   have HSL := Lib.hid hsl
   have HCL := Lib.hid hcl
   rw [hsl] at e3
   subst e3
   have hk60 := CN.out.n
   have hwm : wrap64 ((k : Int) - 1) = (k : Int) - 1 := wrap_in (by omega)
   clear hsl hcl
   go_upto_region 8 with fail
   go_loopw [8, 9] (fun v i wr => ∃ (j : Nat) (b : List Int), j ≤ b.length ∧ b.length ≤ 60 ∧ OwnL icells 1 3 wr V.heap.size v b ∧ i = .int .i64 ((j : Int) - 1) ∧ clF cq j b = clashL cq ∧ Below V.heap.size V wr) (fun _ i _ => (intOf i + 1).toNat)
   case atStart => exact ⟨k, srcL cq, by rw [HSL.out]; exact Nat.le_refl _, by rw [HSL.out]; exact hk60, HO0.out, by first | rfl | rw [hwm], by unfold clashL; rw [HCL.out], GV3.out⟩
   case round =>
    obtain ⟨j, b, hjb, hb60, ho, rfl, hcf, hg⟩ := hrel
    have HG := Lib.hid hg
    have HO := Lib.hid ho
    have HCF := Lib.hid hcf
    obtain ⟨A4, c4, e4, hc41, hc42, ha4, -⟩ := OwnL.arr kdI ho
    subst e4
    have HA4 := Lib.hid ha4
    clear ho hcf ha4 hg
    by_cases hj : j = 0
    ·subst hj
     have HCF2 := Lib.hid (show b = clashL cq from HCF.out)
     have hb : decide ((0 : Int) ≤ ((0 : Nat) : Int) - 1) = false := by decide
     go_wp2_with fail
     go_ret2
     exact listEnd_ok (base := V.heap.size) (by rw [← HCF2.out]; exact HO.out) (GV.out.trans (HG.out.mono GV.out.size))
    ·obtain ⟨j', rfl⟩ : ∃ q, j = q + 1 := ⟨j - 1, by omega⟩
     rw [show (((j' + 1 : Nat) : Int) - 1) = (j' : Int) by omega]
     have hjlt : j' < b.length := by omega
     obtain ⟨rb, hrb⟩ : ∃ s, isRead (ofL cq (b.eraseIdx j')) = s := ⟨_, rfl⟩
     have HCF2 := Lib.hid (show clF cq j' (if rb = true then b else b.eraseIdx j') = clashL cq by rw [← hrb]; exact HCF.out)
     have HRB2 := Lib.hid hrb
     have HEL := Lib.hid (show (b.eraseIdx j').length = b.length - 1 from List.length_eraseIdx_of_lt hjlt)
     have TC := Lib.hid (cloneI_any A4 b.length c4 b wr HA4.out (by omega))
     have hb : decide ((0 : Int) ≤ (j' : Int)) = true := decide_eq_true (by omega)
     have hw1 : wrap64 ((j' : Int) + 1) = (j' : Int) + 1 := wrap_in (by omega)
     have hw2 : wrap64 ((j' : Int) - 1) = (j' : Int) - 1 := wrap_in (by omega)
     clear hrb
     go_upto_region 11 with (first
      | (go_at_call 95; (with_reducible refine (TC.out).mono ?_); rintro e W5 ⟨⟨v5, rfl, ho5⟩, hg5⟩; obtain ⟨g5, c5, hv5, hb5⟩ := own_head ho5 (by omega); subst hv5; have HO5 := Lib.hid ho5; have HG5 := Lib.hid hg5; have HB5 := Lib.hid hb5; have TD := Lib.hid (delInt_any wr.heap.size g5 b.length c5 j' b W5 ho5 (by omega) (by omega)); clear ho5 hg5 hb5)
      | (go_at_call 110; (with_reducible refine (TD.out).mono ?_); rintro e W6 ⟨rfl, ho6, hf6⟩; have HO6 := Lib.hid ho6; have HG6 := Lib.hid (show Below wr.heap.size wr W6 from HG5.out.trans (hf6.low HB5.out HG5.out.size)); clear ho6 hf6))
     have HG7 := Lib.hid (HG.out.trans (HG6.out.mono HG.out.size))
     have CN6 := Lib.hid (CN.out.below HG7.out)
     obtain ⟨A6, c6, e6, -, -, ha6, -⟩ := OwnL.arr kdI HO6.out
     rw [HEL.out] at e6 ha6
     cases e6
     have TOF := Lib.hid (of_any D k d fl (some ⟨g5, 0, none⟩) (b.length - 1) c5 (b.eraseIdx j') W6 CN6.out.prf (by omega) ha6 (by omega))
     clear ha6
     cases rb with
     | true =>
      go_wp2_with (first
       | (go_at_call 111; (with_reducible refine (TOF.out).mono ?_); rintro e W7 ⟨⟨v7, rfl, ho7⟩, hg7⟩; obtain ⟨A8, n8, c8, hv8, -, T8⟩ := ofRead_any D k fl (b.eraseIdx j') W6 CN6.out W7 v7 hg7 ho7; subst hv8; rw [HFQ.out, HRB2.out] at T8; have HT8 := Lib.hid T8; have HG8 := Lib.hid (HG7.out.trans (hg7.mono HG7.out.size)); have HG86 := Lib.hid (HG6.out.trans (hg7.mono HG6.out.size)); clear ho7 hg7 T8)
       | (go_at_call 109; (with_reducible refine (HT8.out).mono ?_); rintro e W8 ⟨rfl, hg8⟩; have HG9 := Lib.hid (HG8.out.trans (hg8.mono HG8.out.size)); have HG96 := Lib.hid (HG86.out.trans (hg8.mono HG86.out.size)); clear hg8))
      go_roundw
      case rel => exact ⟨j', b, by omega, hb60, HO.out.ext HG96.out, rfl, HCF2.out, HG9.out⟩
      case measure => simp only [intOf]; omega
     | false =>
      go_wp2_with (first
       | (go_at_call 111; (with_reducible refine (TOF.out).mono ?_); rintro e W7 ⟨⟨v7, rfl, ho7⟩, hg7⟩; obtain ⟨A8, n8, c8, hv8, -, T8⟩ := ofRead_any D k fl (b.eraseIdx j') W6 CN6.out W7 v7 hg7 ho7; subst hv8; rw [HFQ.out, HRB2.out] at T8; have HT8 := Lib.hid T8; have HG8 := Lib.hid (HG7.out.trans (hg7.mono HG7.out.size)); have HO8 := Lib.hid (HO6.out.ext hg7); clear ho7 hg7 T8)
       | (go_at_call 109; (with_reducible refine (HT8.out).mono ?_); rintro e W8 ⟨rfl, hg8⟩; have HG9 := Lib.hid (HG8.out.trans (hg8.mono HG8.out.size)); have HO9 := Lib.hid (HO8.out.ext hg8); clear hg8))
      go_roundw
      case rel => exact ⟨j', b.eraseIdx j', by rw [HEL.out]; omega, by rw [HEL.out]; omega, HO9.out.mono HG.out.size, rfl, HCF2.out, HG9.out⟩
      case measure => simp only [intOf]; omega
 ·have hzb : (le != 0) = true := by simpa using hz
  have HZ := Lib.hid hz
  have e : ce = le := by have := HCE.out; rwa [if_neg hz] at this
  subst e
  clear hz
  go_enter Tryz.func51, Tryz.ntmps51
  go_wp2_with (go_at_call 73; (with_reducible refine (HT.out).mono ?_); rintro e V ⟨v, rfl, hg, -, h2⟩; have e2 := h2 HZ.out; subst e2; have GV := Lib.hid hg; clear hg h2)
  go_ret2
  exact listEnd_no HZ.out GV.out
end Go.Proofs.YtehhlgdkhecacaaGreat

namespace Go.Proofs.YtehhlgdkhecacaaGreat
open Go.RowKit Go.Shelf
theorem neqT (x y : Tt) (w : World) : (binOp .neq 67 (.agg #[.int .i64 x.day, .int .i64 x.par, .int .i64 x.src]) (.agg #[.int .i64 y.day, .int .i64 y.par, .int .i64 y.src])).run Tryz.prog w = .ok (.bool (!decide (x = y))) w := by
 obtain ⟨a, b, c⟩ := x
 obtain ⟨a', b', c'⟩ := y
 by_cases h1 : a = a' <;> by_cases h2 : b = b' <;> by_cases h3 : c = c' <;> simp [go_sem, h1, h2, h3]
def t1 (l : List Tt) (k : Nat) : Tt := l.getD k t0
theorem tit_at {w : World} {A : Option Addr} {n : Nat} {l : List Tt} (h : Arr tcells 3 w A n l) {k : Nat} (hk : k < n) : ∃ b o, A = some ⟨b, o, none⟩ ∧ ∀ w', Below w.heap.size w w' → w'.cell? ⟨b, o + k * 3, none⟩ = some (.int .i64 (t1 l k).day) ∧ w'.cell? ⟨b, o + k * 3 + 1, none⟩ = some (.int .i64 (t1 l k).par) ∧ w'.cell? ⟨b, o + k * 3 + 2, none⟩ = some (.int .i64 (t1 l k).src) := by
 obtain ⟨b, o, x, rfl, -, hx, hc⟩ := h.at hk
 have e : t1 l k = x := by unfold t1; rw [List.getD_eq_getElem?_getD, hx]; rfl
 rw [e]
 exact ⟨b, o, rfl, fun w' hw => ⟨hc w' hw 0 _ rfl, hc w' hw 1 _ rfl, hc w' hw 2 _ rfl⟩⟩
theorem eq_of_t1 {l l' : List Tt} (hl : l.length = l'.length) (h : ∀ j, j < l.length → t1 l j = t1 l' j) : l = l' := by
 apply List.ext_getElem hl
 intro j h1 h2
 have := h j h1
 unfold t1 at this
 rw [List.getD_eq_getElem?_getD, List.getD_eq_getElem?_getD, List.getElem?_eq_getElem h1, List.getElem?_eq_getElem h2] at this
 exact this
set_option maxRecDepth 100000 in
theorem sameTits_any (A B : Option Addr) (n c m c' : Nat) (l l' : List Tt) (w : World) (ha : Arr tcells 3 w A n l) (hb : Arr tcells 3 w B m l') (hn : n ≤ 9223372036854775807) (hm : m ≤ 9223372036854775807) :
  Calls Tryz.prog 25 #[.slice A n c, .slice B m c'] w fun e w' => e = .returned (.bool (decide (l = l'))) ∧ Below w.heap.size w w' := by
 have HA := Lib.hid ha
 have HB := Lib.hid hb
 have hl := Lib.hid ha.1
 have hl' := Lib.hid hb.1
 clear ha hb
 by_cases hmn : n = m
 ·subst hmn
  go_enter Tryz.func25, Tryz.ntmps25
  go_wp2_with fail
  all_goals first
   | (exfalso; omega)
   | skip
  go_loopw [5] (fun i wr => ∃ k : Nat, k ≤ n ∧ i = .int .i64 k ∧ (∀ j, j < k → t1 l j = t1 l' j) ∧ Below w.heap.size w wr) (fun i _ => n - (intOf i).toNat)
  case atStart => exact ⟨0, Nat.zero_le _, rfl, by omega, Below.refl _ _⟩
  case round =>
   obtain ⟨k, hk, rfl, hno, hg⟩ := hrel
   have HN := Lib.hid hno
   have HG := Lib.hid hg
   clear hno
   by_cases hlt : k < n
   ·obtain ⟨b, o, rfl, hc⟩ := tit_at HA.out hlt
    obtain ⟨b', o', rfl, hc'⟩ := tit_at HB.out hlt
    obtain ⟨c0, c1, c2⟩ := hc wr hg
    obtain ⟨d0, d1, d2⟩ := hc' wr hg
    obtain ⟨x, hx⟩ : ∃ x, t1 l k = x := ⟨_, rfl⟩
    obtain ⟨y, hy⟩ : ∃ y, t1 l' k = y := ⟨_, rfl⟩
    have HX := Lib.hid hx
    have HY := Lib.hid hy
    rw [hx] at c0 c1 c2
    rw [hy] at d0 d1 d2
    clear hc hc' hx hy hg
    go_wp2_with fail
    replace c0 := cellW c0
    replace c1 := cellW c1
    replace c2 := cellW c2
    replace d0 := cellW d0
    replace d1 := cellW d1
    replace d2 := cellW d2
    by_cases hxy : x = y
    ·have hne : ∀ w, (binOp .neq 67 (.agg #[.int .i64 x.day, .int .i64 x.par, .int .i64 x.src]) (.agg #[.int .i64 y.day, .int .i64 y.par, .int .i64 y.src])).run Tryz.prog w = .ok (.bool false) w := fun w => by rw [neqT, decide_eq_true hxy]; rfl
     have HXY := Lib.hid hxy
     clear hxy
     refine wp_region_calm wr (by kernel_rfl) (by kernel_rfl) (Below.refl _ _) ?_
     repeat (go_big_quiet_step (fail))
     refine wpQuiet_nil ?_
     rintro _ ⟨z, rfl⟩
     go_wp2_with fail
     all_goals first
      | (exfalso; simp at *; done)
      | skip
     go_roundw
     case rel =>
      refine ⟨k + 1, by omega, by go_num, fun j hj => ?_, HG.out.trans (z.ok.mono HG.out.size)⟩
      by_cases hjk : j < k
      ·exact HN.out j hjk
      ·obtain rfl : j = k := by omega
       rw [HX.out, HY.out, HXY.out]
     case measure => simp [intOf]; omega
    ·have hne : ∀ w, (binOp .neq 67 (.agg #[.int .i64 x.day, .int .i64 x.par, .int .i64 x.src]) (.agg #[.int .i64 y.day, .int .i64 y.par, .int .i64 y.src])).run Tryz.prog w = .ok (.bool true) w := fun w => by rw [neqT, decide_eq_false hxy]; rfl
     have HXY := Lib.hid hxy
     clear hxy
     refine wp_region_calm wr (by kernel_rfl) (by kernel_rfl) (Below.refl _ _) ?_
     repeat (go_big_quiet_step (fail))
     refine wpQuiet_nil ?_
     rintro _ ⟨z, rfl⟩
     go_wp2_with fail
     all_goals first
      | (exfalso; omega)
      | skip
     go_ret
     have : decide (l = l') = false := by
      simp; rintro rfl; exact HXY.out (HX.out.symm.trans HY.out)
     rw [this]
     exact ⟨rfl, HG.out.trans (z.ok.mono HG.out.size)⟩
   ·obtain rfl : k = n := by omega
    clear hg
    go_wp2_with fail
    go_ret
    have : decide (l = l') = true := by
     simp; exact eq_of_t1 (by rw [hl.out, hl'.out]) (fun j hj => HN.out j (by rw [← hl.out]; exact hj))
    rw [this]
    exact ⟨rfl, HG.out⟩
 ·go_enter Tryz.func25, Tryz.ntmps25
  have hne : ((n : Int) != (m : Int)) = true := by simp; omega
  go_wp2_with fail
  all_goals first
   | (exfalso; omega)
   | skip
  go_ret
  have : decide (l = l') = false := by
   simp; rintro rfl; exact hmn (by rw [← hl.out, ← hl'.out])
  rw [this]
  exact ⟨rfl, Below.refl _ _⟩
end Go.Proofs.YtehhlgdkhecacaaGreat
