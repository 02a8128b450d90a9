/- A range over the loads as they are carted, each at its place. -/
import Derived.Test.YtkoejeghihcmlaaGreatMD
namespace Go.Proofs.YtkoejeghihcmlaaGreat
open Go.RowKit Go.Shelf

/-- The contract of such an iterator. -/
def SeqP {α : Type} (m : Nat) (g : Nat) (lb : Array Value) (encs : α → Array Value) (G : List α → α → Prop) (Kp : World → World → Prop) (S Sp : List α → Prop) (N : Nat) (w : World) : Prop :=
  ∀ (l : Nat) (J Jx : List α → World → Prop) (W : World), Below w.heap.size w W → OwnFrom W.heap.size J → OwnFrom W.heap.size Jx →
    (∀ pre x W1, J pre W1 → pre.length < N → G pre x → YieldAt Fence.wide (m - 1) Tryz.prog l (encs x) W1 fun e W' =>
      ((e = .returned (.bool true) ∧ J (pre ++ [x]) W' ∧ Kp W1 W') ∨ (e = .returned (.bool false) ∧ Jx (pre ++ [x]) W')) ∧ KeepsFrom W.heap.size W1 W') →
    J [] W →
    CallsIn Fence.wide m Tryz.prog g (#[.func (.yield l) #[] #[]] ++ lb) W fun e W' => (∃ v, e = .returned v) ∧ ((∃ xs, S xs ∧ J xs W') ∨ (∃ pre, Sp pre ∧ Jx pre W'))

set_option maxHeartbeats 1000000 in
/-- The law of a range over it, at the wide fence, in no round. -/
theorem wp_rangeP {α : Type} {n : Nat} {g : Operand} {ps : Array Tmp} {assign body : Code} {Q : Exit → Act → World → Prop} {a : Act} {w : World}
    (h1 : 1 ≤ n) {gf : Nat} {lb : Array Value} (hg : a.eval g = .func (.func gf) #[] lb) (eg : ∀ args w, (callFunc gf args).run Tryz.prog w = .ok (.enter gf args) w)
    {encs : α → Array Value} {G : List α → α → Prop} {B bw bs : Nat} {S Sp : List α → Prop} {N : Nat} {w0 : World} (hseq : SeqP (n - 1) gf lb encs G (FixU B bw bs) S Sp N w0)
    (hb0 : Below w0.heap.size w0 w) (hps : ∀ x, (encs x).size = ps.size)
    (I : List α → World → Prop) (Ix : Code → List α → World → Prop) (hI : OwnFrom w.heap.size I) (hIx : ∀ c, OwnFrom w.heap.size (Ix c)) (h0 : I [] w) (Ax : α → Act → World → Prop) (hAx : ∀ x a', OwnFrom w.heap.size (fun (_ : Unit) W => Ax x a' W))
    (hassign : ∀ (l : Nat) (pre : List α) (x : α) (W : World) (K : Act → World → Prop), I pre W → (∀ a' W', KeepsFrom w.heap.size W W' → FixU B bw bs W W' → I pre W' → Ax x a' W' → K a' W') →
      assign.wpIn (Fence.wide.inRound l) (n - 1 - 1) Tryz.prog (Exit.then K (fun _ _ _ => False)) { tmps := (ps.zip (encs x)).foldl (fun t (p, v) => t.setIfInBounds p v) a.tmps, defers := [] } W)
    (hbody : ∀ (l : Nat) (pre : List α) (x : α) (a' : Act) (W : World), w.heap.size ≤ l → (∃ r, W.heap[l]? = some (.loop r)) → I pre W → Ax x a' W → pre.length < N → G pre x → body.wpIn (Fence.wide.inRound l) (n - 1 - 1) Tryz.prog (ownPostG w.heap.size (FixU B bw bs) I Ix (pre ++ [x]) W) a' W)
    (hdone : ∀ (D : Nat) (xs : List α) (W : World), w.heap.size ≤ D → S xs → I xs W → W.heap[D]? = some (.deferred (some [])) → Q .normal { a with defers := { target := .collected D, args := #[] } :: a.defers } W)
    (hstop : ∀ (D : Nat) (c : Code) (pre : List α) (W : World), w.heap.size ≤ D → Sp pre → Ix c pre W → W.heap[D]? = some (.deferred (some [])) → c.wpIn Fence.wide n Tryz.prog Q { a with defers := { target := .collected D, args := #[] } :: a.defers } W) :
    (Code.rangeFunc g ps assign body).wpIn Fence.wide n Tryz.prog Q a w := by
  refine wpIn_rangeFunc fun fn hfn => ?_
  rw [show Fence.wide.round = none from rfl]
  -- the loop's record, in a state
  let rc : LoopState → Option Code → Loop := fun st pe => { state := st, pending := pe, fn, tmps := a.tmps, params := ps, assign, body, defers := w.heap.size }
  obtain ⟨V, hV⟩ : ∃ V, (w.alloc (.deferred (some []))).alloc (.loop (rc .ready none)) = V := ⟨_, rfl⟩
  have hVs : V.heap.size = w.heap.size + 2 := by rw [← hV]; simp
  have vl : V.heap[w.heap.size + 1]? = some (.loop (rc .ready none)) := by
    rw [← hV]; have := World.alloc_heap_new (w.alloc (.deferred (some []))) (.loop (rc .ready none)); rwa [World.size_alloc] at this
  have vk : V.heap[w.heap.size]? = some (.deferred (some [])) := by rw [← hV]; exact (Below.heap_alloc _ _ _ (by simp)).trans (World.alloc_heap_new w _)
  have vi : I [] V := by rw [← hV]; exact hI.alloc _ (hI.alloc _ h0)
  have vb : Below w0.heap.size w0 V := by rw [← hV]; exact hb0.trans ((two_more w _ _).mono hb0.size)
  refine ⟨w.heap.size + 1, [{ target := .collected w.heap.size, args := #[] }], V, { target := .fn (.func gf) lb, args := #[.func (.yield (w.heap.size + 1)) #[] #[]] }, V, gf, #[.func (.yield (w.heap.size + 1)) #[] #[]] ++ lb, V,
    by rw [← hV]; exact run_enterLoop_outer _ _ _ _ _, by (simp only [resolve, hg]; simp [go_sem]), fun f' hf' => trivial, by simp [invoke, go_sem, eg], fun _ => h1, ?_⟩
  have own : ∀ {s : List α} {A B : World} {row : Option Nat} {st : LoopState} {pe : Option Code} {T : List α → World → Prop}, OwnFrom w.heap.size T → (T s A ∧ A.heap[w.heap.size + 1]? = some (.loop (rc st pe)) ∧ A.heap[w.heap.size]? = some (.deferred (some []))) →
      A.grownBy B row → (∀ r, row = some r → V.heap.size ≤ r ∧ ∃ o : Obj, A.heap[r]? = some o ∧ o.isCells = false) → (T s B ∧ B.heap[w.heap.size + 1]? = some (.loop (rc st pe)) ∧ B.heap[w.heap.size]? = some (.deferred (some []))) :=
    fun hT ht hgr hr => ⟨hT _ _ _ _ ht.1 hgr (fun r e => ⟨by have := (hr r e).1; omega, (hr r e).2⟩), grown_lt hgr ht.2.1 (B := V.heap.size) (by omega) (fun r e => (hr r e).1), grown_lt hgr ht.2.2 (B := V.heap.size) (by omega) (fun r e => (hr r e).1)⟩
  refine (hseq (w.heap.size + 1)
    (fun pre W => I pre W ∧ W.heap[w.heap.size + 1]? = some (.loop (rc .ready none)) ∧ W.heap[w.heap.size]? = some (.deferred (some [])))
    (fun pre W => ∃ c, Ix c pre W ∧ W.heap[w.heap.size + 1]? = some (.loop (rc .done (some c))) ∧ W.heap[w.heap.size]? = some (.deferred (some [])))
    V vb (fun s A B row hs hgr hr => own hI hs hgr hr) (fun s A B row ⟨c, hs⟩ hgr hr => ⟨c, own (hIx c) hs hgr hr⟩) ?_ ⟨vi, vl, vk⟩).mono ?_
  · -- one round
    rintro pre x W ⟨hi, hl, hk⟩ hlen hG
    refine ⟨fn, _, assign, body, run_yield hl (hps x), roundIn_of_wpIn hfn (hassign _ pre x W _ hi ?_)⟩
    intro a' X kf kp xi xa
    have xl := kf.same _ _ (by omega) hl rfl
    have xk := kf.same _ _ (Nat.le_refl _) hk rfl
    have xlt := (Array.getElem?_eq_some_iff.1 xl).1
    refine ⟨_, run_beginRound xl rfl, ?_⟩
    obtain ⟨Y, hY⟩ : ∃ Y, X.putObj (w.heap.size + 1) (.loop { rc .ready none with state := .busy }) = Y := ⟨_, rfl⟩
    have yl : Y.heap[w.heap.size + 1]? = some (.loop { rc .ready none with state := .busy }) := by rw [← hY]; exact World.putObj_heap_same xlt
    have yk : Y.heap[w.heap.size]? = some (.deferred (some [])) := by rw [← hY]; exact (World.putObj_heap_other (by omega)).trans xk
    have yi : I pre Y := by rw [← hY]; exact hI.putObj _ xi (by omega) xl rfl
    have ya : Ax x a' Y := by rw [← hY]; exact (hAx x a').putObj (s := ()) _ xa (by omega) xl rfl
    have ykf : KeepsFrom V.heap.size W Y := by rw [← hY]; exact (keeps_mono kf (by omega)).trans (keeps_put _ _ (by omega))
    rw [hY]
    refine wpIn_mono (hbody _ pre x a' Y (by omega) ⟨_, yl⟩ yi ya hlen hG) ?_
    have fin : ∀ (jump : Option Code) (Z : World), KeepsFrom w.heap.size Y Z →
        ∃ Z', (Instr.endRound (w.heap.size + 1) jump).run Tryz.prog Z = .ok (.bool jump.isNone) Z' ∧ Z' = Z.putObj (w.heap.size + 1) (.loop (rc (if jump.isNone then .ready else .done) jump)) ∧ Z.heap[w.heap.size + 1]? = some (.loop { rc .ready none with state := .busy }) ∧
          Z'.heap[w.heap.size + 1]? = some (.loop (rc (if jump.isNone then .ready else .done) jump)) ∧ Z'.heap[w.heap.size]? = some (.deferred (some [])) ∧ KeepsFrom V.heap.size W Z' := fun jump Z kz => by
      have zl := kz.same _ _ (by omega) yl rfl
      refine ⟨_, run_endRound jump zl, rfl, zl, World.putObj_heap_same (Array.getElem?_eq_some_iff.1 zl).1, (World.putObj_heap_other (by omega)).trans (kz.same _ _ (Nat.le_refl _) yk rfl), (ykf.trans (keeps_mono kz (by omega))).trans (keeps_put _ _ (by omega))⟩
    rintro e a3 Z hp
    cases e with
    | normal =>
      obtain ⟨Z', hr, hz, zl, zl', zk', kk⟩ := fin none Z hp.1
      refine ⟨_, _, hr, .inl ⟨rfl, ⟨?_, zl', zk'⟩, ?_⟩, kk⟩
      · rw [hz]; exact hI.putObj _ hp.2.2 (by omega) zl rfl
      · refine ⟨kk.size, fun k hk h1 h2 h3 => ?_⟩
        by_cases e : k = w.heap.size + 1
        · subst e; exact zl'.trans hl.symm
        · rw [hz, World.putObj_heap_other (fun e' => e (by omega))]
          have hy : Y.heap[k]? = X.heap[k]? := by rw [← hY]; exact World.putObj_heap_other (fun e' => e (by omega))
          have hky : k < Y.heap.size := by rw [← hY]; simp; exact Nat.lt_of_lt_of_le hk kp.size
          have hyw : Y.heap[k]? = W.heap[k]? := hy.trans (kp.block k hk h1 h2 h3)
          exact (hp.2.1.block k hky h1 h2 (by rw [hyw]; exact h3)).trans hyw
    | ret =>
      obtain ⟨Z', hr, hz, zl, zl', zk', kk⟩ := fin (some .ret) Z hp.1
      exact ⟨_, _, hr, .inr ⟨rfl, .ret, by rw [hz]; exact (hIx _).putObj _ hp.2 (by omega) zl rfl, zl', zk'⟩, kk⟩
    | exit id =>
      obtain ⟨Z', hr, hz, zl, zl', zk', kk⟩ := fin (some (.exit id)) Z hp.1
      exact ⟨_, _, hr, .inr ⟨rfl, .exit id, by rw [hz]; exact (hIx _).putObj _ hp.2 (by omega) zl rfl, zl', zk'⟩, kk⟩
    | goto t =>
      obtain ⟨Z', hr, hz, zl, zl', zk', kk⟩ := fin (some (.goto t)) Z hp.1
      exact ⟨_, _, hr, .inr ⟨rfl, .goto t, by rw [hz]; exact (hIx _).putObj _ hp.2 (by omega) zl rfl, zl', zk'⟩, kk⟩
    | panic ch => exact hp.elim
    | outgrown => exact hp.elim
  · -- behind the iterator
    rintro e W2 ⟨⟨v, rfl⟩, (⟨xs, hS, hi, hl, hk⟩ | ⟨pre, hSp, c, hi, hl, hk⟩)⟩
    · exact ⟨none, _, run_endLoop hl (by simp [rc]), hdone _ xs _ (Nat.le_refl _) hS (hI.putObj _ hi (by omega) hl rfl) ((World.putObj_heap_other (by omega)).trans hk)⟩
    · exact ⟨some c, _, run_endLoop hl (by simp [rc]), hstop _ c pre _ (Nat.le_refl _) hSp ((hIx c).putObj _ hi (by omega) hl rfl) ((World.putObj_heap_other (by omega)).trans hk)⟩

attribute [local go_sem] Oper.semAt_some
set_option maxRecDepth 100000 in
set_option maxHeartbeats 4000000 in
theorem carted_seqP (m : Nat) (W0 : World) (B bq bf bw bs : Nat) (A : Option Addr) (n c : Nat) (ls : List Six)
    (hq : W0.cell? ⟨bq, 0, none⟩ = some (.pointer (some ⟨bf, 0, none⟩))) (hf : W0.cell? ⟨bf, 2, none⟩ = some (.slice A n c)) (ha : Arr scells 6 W0 A n ls) (hn : n ≤ 1000000)
    (hd : ∀ b o, A = some ⟨b, o, none⟩ → 0 < n → b ≠ bw ∧ b ≠ bs ∧ b < B) :
    SeqP m 202 #[.pointer (some ⟨bq, 0, none⟩)] (encC n ls) (fun pre x => x.1 = pre.length) (FixU B bw bs)
      (fun l => l.map (·.1) = List.range n) (fun l => l.map (·.1) = List.range l.length) (n + 1) W0 := by
  intro l J Jx W hW hJ hJx hY hJ0
  refine callsIn_of_wp Tryz.func202 rfl trivial ?_ rfl
  simp only [Tryz.ntmps202, List.size_toArray, List.length_cons, List.length_nil, Nat.reduceAdd, Nat.reduceSub, Array.replicate_succ, Array.replicate_zero, List.push_toArray, List.append_toArray, List.nil_append, List.cons_append]
  have hq := (hW.cell (p := ⟨bq, 0, none⟩) (World.block_lt_of_cell? W0 _ hq)).trans hq
  have hf := (hW.cell (p := ⟨bf, 2, none⟩) (World.block_lt_of_cell? W0 _ hf)).trans hf
  have HAW := Lib.hid (ha.below hW)
  have HJ := Lib.hid hJ
  have HY := Lib.hid hY
  clear hJ hJx hY hW ha
  gi_wp2
  gi_loopw [10] (fun i wr => ∃ (k : Nat) (pre : List (Cx n)), i = .int .i64 k ∧ k ≤ n ∧ FixU B bw bs W wr ∧ J pre wr ∧ pre.map (·.1) = List.range k) (fun i _ => n - (intOf i).toNat)
  case atStart => exact ⟨0, [], rfl, Nat.zero_le _, FixU.refl _ _ _ _, hJ0, rfl⟩
  case round =>
    obtain ⟨k, pre, rfl, hk, hfix, hj, hpre⟩ := hrel
    have HP := Lib.hid hpre
    have hpl : pre.length = k := by
      have := congrArg List.length hpre
      rw [List.length_map, List.length_range] at this
      exact this
    have HPL := Lib.hid hpl
    have HFX := Lib.hid hfix
    have HAr := Lib.hid (hfix.arr HAW.out hd)
    clear hpre hpl hfix
    by_cases hkn : k < n
    · obtain ⟨b0, o0, e0, -, -, hc⟩ := six_at HAr.out hkn
      obtain ⟨x0, x1, x2, x3, x4, x5⟩ := hc _ (Below.refl _ _)
      obtain ⟨x, hxg⟩ : ∃ x, ls.getD k z6 = x := ⟨_, rfl⟩
      rw [hxg] at x0 x1 x2 x3 x4 x5
      subst e0
      obtain ⟨W1, hW1⟩ : ∃ W1, wr.alloc (.cells #[.int .i64 x.a, .int .i64 x.b, .int .i64 x.c, .int .i64 x.d, .int .i64 x.e, .int .i64 x.f] 103) = W1 := ⟨_, rfl⟩
      have b1 : Blk W1 wr.heap.size 103 #[.int .i64 x.a, .int .i64 x.b, .int .i64 x.c, .int .i64 x.d, .int .i64 x.e, .int .i64 x.f] := by rw [← hW1]; exact Blk.new _ _ _
      have hj1 : J pre W1 := by rw [← hW1]; exact HJ.out pre wr _ none hj (World.grownBy_alloc wr _ none) (fun r e => by cases e)
      have f1 : FixU B bw bs wr W1 := by rw [← hW1]; exact FixU.of_below (one_more _ _)
      obtain ⟨fn, tmps, assign, body, hy, hR⟩ := HY.out pre ⟨k, hkn⟩ W1 hj1 (by rw [HPL.out]; omega) HPL.out.symm
      have w0 := b1.cell 0
      have w1 := b1.cell 1
      have w2 := b1.cell 2
      have w3 := b1.cell 3
      have w4 := b1.cell 4
      have w5 := b1.cell 5
      unfold encC at hy
      dsimp only at hy
      rw [hxg] at hy
      clear hc hxg b1
      gi_wp2
      refine ⟨fun h => (by simp [Fence.wide] at h), hR.mono ?_⟩
      rintro e W' ⟨⟨rfl, hJ', hk'⟩ | ⟨rfl, hJx'⟩, hkf⟩
      · have Hfx := Lib.hid (HFX.out.trans (f1.trans hk'))
        clear hR hk' hj1 hy f1 hW1 hkf
        gi_wp2
        go_roundw
        case rel => exact ⟨k + 1, pre ++ [⟨k, hkn⟩], by go_num, by omega, Hfx.out, hJ', by rw [List.map_append, HP.out, List.range_succ]; rfl⟩
        case measure => simp [intOf]; omega
      · clear hR hj1 hy f1 hW1 hkf
        gi_wp2
        refine bodyPost_ret (results_none rfl _ _ _) rfl ?_
        exact ⟨⟨_, rfl⟩, .inr ⟨_, by rw [List.map_append, HP.out, List.length_append, HPL.out, List.length_singleton, List.range_succ]; rfl, hJx'⟩⟩
    · obtain rfl : k = n := by omega
      gi_wp2
      go_end0
      exact ⟨⟨_, rfl⟩, .inl ⟨pre, HP.out, hj⟩⟩
end Go.Proofs.YtkoejeghihcmlaaGreat
