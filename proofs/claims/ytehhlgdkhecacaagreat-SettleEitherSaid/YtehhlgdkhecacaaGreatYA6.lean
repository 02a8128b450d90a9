/- Part of the proof: BU, BV, BW. -/
import Derived.Laws.MakeOwn
import Derived.Test.YtehhlgdkhecacaaGreatYA4
import Derived.Test.YtehhlgdkhecacaaGreatYA5
namespace Go.Proofs.YtehhlgdkhecacaaGreat
open Go.RowKit Go.Shelf
theorem tmod_bd (n m : Int) (hm : 0 < m) : -m < n.tmod m ∧ n.tmod m < m := by
 have h1 := Int.tmod_lt_of_pos n hm
 have h2 := Int.lt_tmod_of_pos n hm
 exact ⟨h2, h1⟩
theorem mod_eq (n m : Int) : (n.tmod m + m) % m = n % m := by
 have h := Int.mul_tdiv_add_tmod n m
 rw [Int.add_emod_right]
 have h2 : n % m = (m * n.tdiv m + n.tmod m) % m := by rw [h]
 rw [h2, Int.add_comm, Int.add_mul_emod_self_left]
theorem refMod_any (n m : Int) (w : World) (hm : 1 ≤ m) (hm2 : m ≤ 100000) :
  Calls Tryz.prog 38 #[.int .i64 n, .int .i64 m] w fun e w' => e = .returned (.int .i64 (n % m)) ∧ w = w' := by
 have h1 := tmod_bd n m (by omega)
 have hz : (m == 0) = false := by simpa using (show m ≠ 0 by omega)
 have hz2 : ¬ m = 0 := by omega
 have hw : wrap64 (n.tmod m + m) = n.tmod m + m := wrap_in (by omega)
 have HE := Lib.hid (mod_eq n m)
 go_enter Tryz.func38, Tryz.ntmps38
 go_wp2_with fail
 go_ret
 exact ⟨by rw [← HE.out]; rfl, rfl⟩
end Go.Proofs.YtehhlgdkhecacaaGreat

namespace Go.Proofs.YtehhlgdkhecacaaGreat
open Go.RowKit Go.Shelf
theorem flat_set1 {α : Type} {f : α → List Value} {size : Nat} (hf : ∀ x, (f x).length = size) {ys : List α} {i j : Nat} {y x : α} {u : Value} (hy : ys[i]? = some y) (hx : f x = (f y).set j u) (hj : j < size) :
  (ys.set i x).flatMap f = (ys.flatMap f).set (i * size + j) u := by
 refine List.ext_getElem? fun m => ?_
 have hi : i < ys.length := (List.getElem?_eq_some_iff.1 hy).1
 have hd := Nat.div_add_mod m size
 have hmod : m % size < size := Nat.mod_lt _ (by omega)
 have hm : m / size * size + m % size = m := by rw [Nat.mul_comm]; exact hd
 rw [List.getElem?_set]
 have hlen : i * size + j < (ys.flatMap f).length := by
  rw [flat_len hf]
  have : (i + 1) * size ≤ ys.length * size := Nat.mul_le_mul_right _ hi
  rw [Nat.succ_mul] at this
  omega
 conv => lhs; rw [← hm]
 rw [flat_get hf _ _ _ hmod]
 by_cases e : i = m / size
 ·subst e
  rw [List.getElem?_set_self hi, Option.bind_some, hx, List.getElem?_set, hf]
  by_cases e2 : j = m % size
  ·rw [if_pos e2, if_pos hj, if_pos (by rw [e2]; exact hm), if_pos hlen]
  ·rw [if_neg e2, if_neg (by omega)]
   conv => rhs; rw [← hm]
   rw [flat_get hf _ _ _ hmod, hy]
   rfl
 ·have hne : ¬ i * size + j = m := by
   intro h
   apply e
   rw [← h, Nat.mul_comm, Nat.mul_add_div (by omega), Nat.div_eq_of_lt hj, Nat.add_zero]
  rw [if_neg hne, List.getElem?_set_ne e]
  conv => rhs; rw [← hm]
  rw [flat_get hf _ _ _ hmod]
theorem OwnL.set1 {α : Type} {f : α → List Value} {size : Nat} {e : TypeId} (hf : ∀ x, (f x).length = size) {w : World} {base g n cap i j : Nat} {ys : List α} {y x : α} {u : Value} (h : OwnL f size e w base (.slice (some ⟨g, 0, none⟩) n cap) ys) (hy : ys[i]? = some y) (hx : f x = (f y).set j u) (hj : j < size) :
  OwnL f size e (w.setCell ⟨g, i * size + j, none⟩ u) base (.slice (some ⟨g, 0, none⟩) n cap) (ys.set i x) := by
 obtain ⟨hn0, hb, cur, hg, hn, hm, hs, ht⟩ := own_inv h
 refine own_mk hf (by rw [List.length_set]; exact hn0) hb (hg.set_ _ _) hn hm (by rw [Array.size_setIfInBounds]; exact hs) ?_
 rw [Array.toList_setIfInBounds, flat_set1 hf hy hx hj, ← ht, List.take_set]
theorem ints_fix {w w' : World} {g n : Nat} {A : Option Addr} {l : List Int} (h : Ints w A n l) (hne : ∀ a, A = some a → a.block ≠ g) (f : Fix g g w w') : Ints w' A n l := by
 refine ⟨h.1, fun h0 => ?_⟩
 obtain ⟨b, o, rfl, hb, hc⟩ := h.2 h0
 have hbg : b ≠ g := hne _ rfl
 exact ⟨b, o, rfl, Nat.lt_of_lt_of_le hb f.size, fun k x hx j u hu => f.cell (hc k x hx j u hu) hbg hbg⟩
/-- A slice of one's own of proofs, whose persons lie elsewhere. -/
structure OwnP (w : World) (base g n c : Nat) (l : List Pf) : Prop where
 own : OwnL pcells 9 56 w base (.slice (some ⟨g, 0, none⟩) n c) l
 per : ∀ p ∈ l, PI w p ∧ ∀ a, p.A = some a → a.block ≠ g
theorem OwnP.ext {w w' : World} {base g n c : Nat} {l : List Pf} (h : OwnP w base g n c l) (k : Below w.heap.size w w') : OwnP w' base g n c l := ⟨h.own.ext k, fun p hp => ⟨(h.per p hp).1.below k, (h.per p hp).2⟩⟩
theorem OwnP.prf {w : World} {base g n c : Nat} {l : List Pf} (h : OwnP w base g n c l) : Prf w (some ⟨g, 0, none⟩) n l := by
 obtain ⟨A, c', e, -, -, har, -⟩ := OwnL.arr kdQ h.own
 cases e
 exact ⟨har, fun p hp => (h.per p hp).1⟩
theorem run_copy_none (w : World) (ty : TypeId) (b : Addr) (dCap sCap : Nat) :
  (Builtin.copy_ #[22, 22] ty #[.slice (some b) 0 dCap, .slice none 0 sCap]).run Tryz.prog w = .ok (goInt (0 : Nat)) w := by
 have hsz : (Tryz.prog.info? 56).map (·.size) = some 9 := by
  obtain ⟨j, hj, h0, h1, h2⟩ := info_parts kdQ.hi
  rw [hj]; simp [h1]
 cases hq : Tryz.prog.info? 56 with
 | none => rw [hq] at hsz; cases hsz
 | some i =>
  simp [Builtin.copy_, run_underlying kdQ.ht, Builtin.lenOf, Builtin.firstCells, sizeOf, typeInfo, hq, storeCells]
end Go.Proofs.YtehhlgdkhecacaaGreat

namespace Go.Proofs.YtehhlgdkhecacaaGreat
open Go.RowKit Go.Shelf
theorem run_copy_many (w : World) (dT sT ty elem : TypeId) (size b o dLen dCap : Nat) (a : Addr) (sLen sCap : Nat) (cs : List Value)
  (hu : Tryz.prog.underlying dT = some (.slice elem)) (hs : (Tryz.prog.info? elem).map (·.size) = some size) (hn : cs.length = Nat.min sLen dLen * size)
  (hsrc : ∀ j v, cs[j]? = some v → w.cell? (a.add j) = some v) (hc : ∀ j, j < cs.length → (w.cell? ⟨b, o + j, none⟩).isSome = true) (hf : ∀ j, j < cs.length → w.frozen? ⟨b, o + j, none⟩ = false) (h1 : ∀ v ∈ cs, v.oneCell' = true) :
  (Builtin.copy_ #[dT, sT] ty #[.slice (some ⟨b, o, none⟩) dLen dCap, .slice (some a) sLen sCap]).run Tryz.prog w = .ok (goInt (Nat.min sLen dLen)) (w.setCells b o cs) := by
 have hl := run_loadCells_list (P := Tryz.prog) w a cs hsrc
 have hst := run_storeCells_cells (P := Tryz.prog) b o cs 0 w (by simpa using hc) (by simpa using hf) h1
 cases hq : Tryz.prog.info? elem with
 | none => simp [hq] at hs
 | some i =>
  have hi : i.size = size := by simpa [hq] using hs
  simp [Builtin.copy_, run_underlying hu, Builtin.lenOf, Builtin.firstCells, sizeOf, typeInfo, hq, hi, ← hn, hl, hst]
theorem blk_cell {w : World} {g : Nat} {t : TypeId} {cur : Array Value} (h : Blk w g t cur) {j : Nat} {v : Value} (hj : cur.toList[j]? = some v) : w.cell? ⟨g, j, none⟩ = some v := by
 have h2 : cur[j]? = some v := by simpa using hj
 unfold Blk at h
 simp [World.cell?, h, h2]
theorem blk_frozen {w : World} {g : Nat} {t : TypeId} {cur : Array Value} (h : Blk w g t cur) (j : Nat) : w.frozen? ⟨g, j, none⟩ = false := by
 unfold Blk at h
 simp [World.frozen?, h]
theorem blk_some {w : World} {g : Nat} {t : TypeId} {cur : Array Value} (h : Blk w g t cur) {j : Nat} (hj : j < cur.size) : (w.cell? ⟨g, j, none⟩).isSome = true := by
 rw [blk_cell h (v := cur[j]) (by simp [hj])]; rfl
theorem blk_drew {w : World} {g : Nat} {t : TypeId} {cur : Array Value} (h : Blk w g t cur) : Blk w.drew g t cur := h
theorem wp_copy_runQ (w : World) {o : Oper} {a : Act} {K : Act → World → Prop} {Q : Exit → Act → World → Prop} (d s : Operand) (t t' : TypeId)
  (ho : o.op = .call { callee := .builtin .copy, args := #[d, s], argTypes := #[t, t'] }) (v u : Value) (hd : a.eval d = v) (hs : a.eval s = u) {v' : Value} {w' : World}
  (hr : (Builtin.copy_ #[t, t'] o.type #[v, u]).run Tryz.prog w = .ok v' w') (h : K (a.put o.dst v') w') : o.wp Tryz.prog a w K Q := by
 unfold Oper.wp execOp
 simp only [ho, resolve, invoke, builtin, Sem.run_bind, Sem.run_pure, Result.andThen_ok, List.map_toArray, List.map_cons, List.map_nil, hd, hs, hr]
 exact h
theorem wpList_copy_runQ (w : World) {ops : Array Oper} {rest : List Oper} {o : Oper} {a : Act} {Q : Exit → Act → World → Prop} (hgd : o.guard = none) (d s : Operand) (t t' : TypeId)
  (ho : o.op = .call { callee := .builtin .copy, args := #[d, s], argTypes := #[t, t'] }) (v u : Value) (hd : a.eval d = v) (hs : a.eval s = u) {v' : Value} {w' : World}
  (hr : (Builtin.copy_ #[t, t'] o.type #[v, u]).run Tryz.prog w = .ok v' w') (h : wpList Tryz.prog ops Q rest (a.put o.dst v') w') : wpList Tryz.prog ops Q (o :: rest) a w :=
 wpList_plain hgd fun _ hK => wp_copy_runQ w d s t t' ho v u hd hs hr (hK _ _ h)
/-- The same proofs. -/
def CopP (w : World) (base g n c : Nat) (l : List Qf) : Prop := ∃ l', OwnP w base g n c l' ∧ l'.map Pf.q = l
theorem size56 : (Tryz.prog.info? 56).map (·.size) = some 9 := by
 obtain ⟨j, hj, h0, h1, h2⟩ := info_parts kdQ.hi
 rw [hj]; simp [h1]
/-- The row as make and copy leave it. -/
theorem copied_row (A : Option Addr) (n c : Nat) (l : List Pf) (w : World) (ha : Prf w A n l) (hn : n ≤ 1000) (hq : ∀ p ∈ l, 1 ≤ p.n) : ∃ W2, Below w.heap.size w W2 ∧
  (Instr.makeSlice 22 (.int .i64 (n : Int)) (.int .i64 (n : Int))).run Tryz.prog w = .ok (.slice (some ⟨w.heap.size, 0, none⟩) n n) (w.alloc (.cells (madeCells zP.cells (n * 9)) 56)) ∧
  (∀ ty, (Builtin.copy_ #[22, 22] ty #[.slice (some ⟨w.heap.size, 0, none⟩) n n, .slice A n c]).run Tryz.prog (w.alloc (.cells (madeCells zP.cells (n * 9)) 56)) = .ok (goInt (n : Nat)) W2) ∧
  OwnP W2 w.heap.size w.heap.size n n l := by
 obtain ⟨i0, hi0, hz0, hz1, hz2⟩ := info_parts info56
 have hmk := run_make (P := Tryz.prog) w 22 56 i0 zP kdQ.ht hi0 hz0 .i64 .i64 n n (by omega) (Int.le_refl _) (by rw [hz2]; omega) (by omega)
 simp only [Int.toNat_natCast, hz1] at hmk
 obtain ⟨W1, hW1⟩ : ∃ W1, w.alloc (.cells (madeCells zP.cells (n * 9)) 56) = W1 := ⟨_, rfl⟩
 have hb : Blk W1 w.heap.size 56 (madeCells zP.cells (n * 9)) := by rw [← hW1]; exact Blk.new _ _ _
 have hsz : (madeCells zP.cells (n * 9)).size = n * 9 := size_madeCells _ _
 have hg : Below w.heap.size w W1 := by rw [← hW1]; exact one_more _ _
 have hper : ∀ (W : World), Fix w.heap.size w.heap.size W1 W → ∀ p ∈ l, PI W p ∧ ∀ a, p.A = some a → a.block ≠ w.heap.size := fun W f p hp => by
  have hi := ha.p p hp
  obtain ⟨b, o, e, hlt, hc⟩ := hi.i.2 (hq p hp)
  have hne : ∀ a, p.A = some a → a.block ≠ w.heap.size := fun a e2 => by
   rw [e] at e2; cases e2; exact Nat.ne_of_lt hlt
  exact ⟨⟨ints_fix (hi.i.below hg) hne f, hi.m⟩, hne⟩
 rw [hW1] at hmk ⊢
 obtain ⟨cs, hcs⟩ : ∃ cs, l.flatMap pcells = cs := ⟨_, rfl⟩
 have hcl : cs.length = n * 9 := by rw [← hcs, flat_len pcells_len, ha.len]
 obtain ⟨cur, hcur⟩ : ∃ cur, madeCells zP.cells (n * 9) = cur := ⟨_, rfl⟩
 rw [hcur] at hb hsz
 have hfit : 0 + cs.length ≤ cur.size := by omega
 refine ⟨W1.setCells w.heap.size 0 cs, hg.trans ((fix_setCells (g := w.heap.size) cs 0 W1).low (Nat.le_refl _) hg.size), hmk, fun ty => ?_, ?_⟩
 ·by_cases h0 : n = 0
  ·subst h0
   have : cs = [] := List.length_eq_zero_iff.1 (by omega)
   rw [this]
   cases A with
   | none => exact run_copy_none _ _ _ _ _
   | some a => exact run_copy_many W1 22 22 ty 56 9 w.heap.size 0 0 0 a 0 c [] kdQ.ht size56 (by simp) (fun j v hj => by simp at hj) (fun j hj => absurd hj (by simp)) (fun j hj => absurd hj (by simp)) (fun v hv => by cases hv)
  ·obtain ⟨b, o, rfl, hlt, -⟩ := ha.a.2 (by omega)
   have := run_copy_many W1 22 22 ty 56 9 w.heap.size 0 n n ⟨b, o, none⟩ n c cs kdQ.ht size56 (by rw [hcl, show Nat.min n n = n from Nat.min_self n]) (fun j v hj => ?_) (fun j hj => blk_some hb (by omega)) (fun j _ => blk_frozen hb _) (fun v hv => ?_)
   ·rwa [show Nat.min n n = n from Nat.min_self n] at this
   ·rw [add_at]
    have hj9 : j / 9 < n := by
     have := (List.getElem?_eq_some_iff.1 hj).1
     omega
    obtain ⟨b', o', x, e, -, hx, hc⟩ := ha.a.at hj9
    cases e
    have hd := Nat.div_add_mod j 9
    rw [← hcs] at hj
    have hj2 : (l.flatMap pcells)[j / 9 * 9 + j % 9]? = some v := by rw [Nat.mul_comm, hd]; exact hj
    rw [flat_get pcells_len _ _ _ (Nat.mod_lt _ (by decide)), hx] at hj2
    have := hc W1 hg (j % 9) v hj2
    rwa [show o + j / 9 * 9 + j % 9 = o + j by omega] at this
   ·rw [← hcs] at hv
    obtain ⟨x, -, hx⟩ := List.mem_flatMap.1 hv
    exact pcells_one x v hx
 ·refine ⟨own_mk pcells_len ha.len.symm (Nat.le_refl _) (blk_setCells hb hfit) (Nat.le_refl _) (by unfold maxLen; omega) ?_ ?_, hper _ (fix_setCells _ _ _)⟩
  ·rw [List.size_toArray, lput_len (by rw [Array.length_toList]; exact hfit), Array.length_toList, hsz]
  ·show (lput cur.toList 0 cs).take (n * 9) = _
   unfold lput
   rw [List.take_zero, List.nil_append, ← hcl, List.take_left, hcs]
theorem set_q (lk : List Pf) (k : Nat) (y' : Pf) (hy : y'.q = (lk.getD k p0).q) : (lk.set k y').map Pf.q = lk.map Pf.q := by
 rw [List.map_set, hy]
 refine List.ext_getElem? fun i => ?_
 rw [List.getElem?_set]
 split
 ·next h =>
  subst h
  split
  ·next h2 =>
   rw [List.length_map] at h2
   rw [List.getElem?_map, getD_pf h2]
   rfl
  ·next h2 => rw [List.getElem?_eq_none (by omega)]
 ·rfl
/-- A proof gets another slice of the same persons. -/
theorem OwnP.setPer {w W5 : World} {base g n c k : Nat} {lk : List Pf} {y : Pf} (ho : OwnP w base g n c lk) (hk : k < n) (hy : lk.getD k p0 = y) (g5 : Below w.heap.size w W5) {A5 : Option Addr} {c5 : Nat} (har : Ints W5 A5 y.q.per.length y.q.per)
  (hne : ∀ a, A5 = some a → a.block ≠ g) (hm : y.q.per.length ≤ c5 ∧ y.q.per.length ≤ 9223372036854775807) : OwnP (W5.setCell ⟨g, k * 9 + 2, none⟩ (.slice A5 y.q.per.length c5)) base g n c (lk.set k ⟨y.q, A5, y.q.per.length, c5⟩) := by
 have hl : k < lk.length := by rw [ho.prf.len]; exact hk
 have f : Fix g g W5 (W5.setCell ⟨g, k * 9 + 2, none⟩ (.slice A5 y.q.per.length c5)) := (Fix.refl g g W5).setCell (p := ⟨g, k * 9 + 2, none⟩) (.inl rfl) _
 refine ⟨(ho.own.ext g5).set1 pcells_len (y := y) (by rw [← hy]; exact getD_pf hl) (x := ⟨y.q, A5, y.q.per.length, c5⟩) rfl (by decide), fun p hp => ?_⟩
 rcases List.mem_or_eq_of_mem_set hp with h | rfl
 ·obtain ⟨h1, h2⟩ := ho.per p h
  exact ⟨⟨ints_fix (h1.i.below g5) h2 f, h1.m⟩, h2⟩
 ·exact ⟨⟨ints_fix har hne f, hm⟩, hne⟩
set_option maxRecDepth 100000 in
set_option maxHeartbeats 4000000 in
theorem copied_any (A : Option Addr) (n c : Nat) (l : List Pf) (w : World) (ha : Prf w A n l) (hn : n ≤ 1000) (hq : ∀ p ∈ l, 1 ≤ p.n ∧ p.n ≤ 1000000) :
  Calls Tryz.prog 116 #[.slice A n c] w fun e w' => (∃ g, e = .returned (.slice (some ⟨g, 0, none⟩) n n) ∧ CopP w' w.heap.size g n n (l.map Pf.q)) ∧ Below w.heap.size w w' := by
 obtain ⟨W2, hg2, hmk, hcp, hop⟩ := copied_row A n c l w ha hn fun p hp => (hq p hp).1
 obtain ⟨W1, hW1⟩ : ∃ W1, w.alloc (.cells (madeCells zP.cells (n * 9)) 56) = W1 := ⟨_, rfl⟩
 rw [hW1] at hmk hcp
 obtain ⟨g, hg⟩ : ∃ g, w.heap.size = g := ⟨_, rfl⟩
 have HLN := Lib.hid ha.len
 rw [hg] at hop hmk hcp hg2 ⊢
 have HG := Lib.hid hg
 have G2 := Lib.hid hg2
 have HOP := Lib.hid hop
 have HQ := Lib.hid hq
 clear ha hg hg2 hop hW1 hq
 go_enter Tryz.func116, Tryz.ntmps116
 go_upto_region 2 with fail
 go_upto_region 3 with (at_builtin; refine wpList_copy_runQ _ rfl _ _ 22 22 rfl _ _ rfl rfl (hcp _) ?_)
 clear hmk hcp
 go_wp2_with fail
 go_loopw [13] (fun i wr => ∃ k : Nat, k ≤ n ∧ i = .int .i64 k ∧ (∃ lk, OwnP wr g g n n lk ∧ lk.map Pf.q = l.map Pf.q ∧ ∀ p ∈ lk, 1 ≤ p.n ∧ p.n ≤ 1000000) ∧ Below g w wr) (fun i _ => n - (intOf i).toNat)
 case atStart => exact ⟨0, Nat.zero_le _, rfl, ⟨l, HOP.out, rfl, fun p hp => HQ.out p hp⟩, G2.out⟩
 case round =>
  obtain ⟨k, hk, rfl, ⟨lk, ho, hlq, hqk⟩, hgw⟩ := hrel
  have HO := Lib.hid ho
  have HGW := Lib.hid hgw
  have HLQ := Lib.hid hlq
  have HQK := Lib.hid hqk
  have hwr2 : wrap64 ((k : Int) + 1) = (k : Int) + 1 := wrap_in (by omega)
  clear hlq hqk hgw
  by_cases hkn : k < n
  ·obtain ⟨b, o, e0, hbl, hyi, hym, hyc⟩ := ho.prf.at hkn
   cases e0
   obtain ⟨y, hy⟩ : ∃ y, lk.getD k p0 = y := ⟨_, rfl⟩
   rw [hy] at hyi hym hyc
   obtain ⟨-, -, e2, -⟩ := hyc _ (Below.refl _ _)
   rw [Nat.zero_add] at e2
   have HY := Lib.hid hy
   have TC := Lib.hid (cloneI_any y.A y.n y.c y.q.per wr hyi.i (HQK.out y hym).2)
   have HYL := Lib.hid (And.intro hyi.len (HQK.out y hym))
   have HBK := Lib.hid hbl
   obtain ⟨-, -, cur, hcur, -, -, -, -⟩ := own_inv ho.own
   have HCU := Lib.hid hcur
   clear ho hy hyi hym hyc hcur hbl
   go_wp2_with (first | (go_at_call 95; go_loud ((with_reducible refine (TC.out).mono ?_); rintro e W5 ⟨⟨v5, rfl, ho5⟩, hg5⟩; obtain ⟨A5, c5, rfl, h51, h52, har5, hbk5⟩ := OwnL.arr kdI ho5; have HA5 := Lib.hid har5; have HB5 := Lib.hid hbk5; have H51 := Lib.hid h51; have HG5 := Lib.hid hg5; have e2' := (hg5.cell (show (⟨g, k * 9 + 2, none⟩ : Addr).block < wr.heap.size from HBK.out)).trans e2; have f2' := (HCU.out.ext hg5).frozen (k * 9 + 2); clear ho5 hg5 har5 hbk5 h51 h52 e2)))
   go_roundw
   case rel =>
    have hl := HYL.out
    obtain ⟨b5, o5, e5, -, -⟩ := HA5.out.2 (by omega)
    have ho2 := HO.out.setPer hkn HY.out HG5.out HA5.out (fun a e => by
     rw [e5] at e
     cases e
     have h1 := (HB5.out b5 o5 e5).2.1
     have h2 : g < wr.heap.size := HBK.out
     show b5 ≠ g
     omega) ⟨H51.out, by omega⟩
    exact ⟨k + 1, by omega, rfl, ⟨_, ho2, by rw [set_q _ _ _ (by rw [HY.out]), HLQ.out], fun p hp => by
     rcases List.mem_or_eq_of_mem_set hp with h | rfl
     ·exact HQK.out p h
     ·show 1 ≤ y.q.per.length ∧ y.q.per.length ≤ 1000000
      omega⟩, (HGW.out.trans (HG5.out.mono (Nat.le_of_lt HBK.out))).setCell (p := ⟨g, k * 9 + 2, none⟩) (Nat.le_refl _) _⟩
   case measure => simp only [intOf]; omega
  ·obtain rfl : k = n := by omega
   clear ho
   go_wp2_with fail
   go_ret
   exact ⟨⟨g, rfl, lk, HO.out, HLQ.out⟩, HGW.out⟩
end Go.Proofs.YtehhlgdkhecacaaGreat
