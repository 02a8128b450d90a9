/- The mill's plan: the hours of a comer, as an iterator. -/
import Derived.Test.YtdhhneflhmkonaaRound
import Derived.Test.YtdhhneflhmkonaaW1
namespace Go.Proofs.Ytdhhneflhmkonaa
open Go.RowKit Go.Shelf
attribute [local go_sem] Oper.semAt_some

/-- What a world keeps while the plan's two blocks (whose each hour is; the hours that were tried) may turn. -/
structure Fix (bw bs : Nat) (W W' : World) : Prop where
  os : W'.os = W.os
  tape : W'.tape = W.tape
  output : W'.output = W.output
  size : W.heap.size ≤ W'.heap.size
  block : ∀ k, k < W.heap.size → k ≠ bw → k ≠ bs → W'.heap[k]? = W.heap[k]?

section
variable {bw bs : Nat} {W W' W'' : World}
theorem Fix.refl (bw bs : Nat) (W : World) : Fix bw bs W W := ⟨rfl, rfl, rfl, Nat.le_refl _, fun _ _ _ _ => rfl⟩
theorem Fix.trans (h : Fix bw bs W W') (k : Fix bw bs W' W'') : Fix bw bs W W'' :=
  ⟨k.os.trans h.os, k.tape.trans h.tape, k.output.trans h.output, Nat.le_trans h.size k.size, fun i hi h1 h2 => (k.block i (Nat.lt_of_lt_of_le hi h.size) h1 h2).trans (h.block i hi h1 h2)⟩
theorem Fix.of_below (h : Below W.heap.size W W') : Fix bw bs W W' := ⟨h.os, h.tape, h.output, h.size, fun k hk _ _ => h.block k hk⟩
theorem Fix.cell (h : Fix bw bs W W') {b o : Nat} {v : Value} (hc : W.cell? ⟨b, o, none⟩ = some v) (h1 : b ≠ bw) (h2 : b ≠ bs) : W'.cell? ⟨b, o, none⟩ = some v :=
  (World.cell?_of_block (a := ⟨b, o, none⟩) (h.block b (World.block_lt_of_cell? W _ hc) h1 h2)).trans hc
theorem Fix.blk (h : Fix bw bs W W') {g : Nat} {t : TypeId} {cs : Array Value} (hc : Blk W g t cs) (h1 : g ≠ bw) (h2 : g ≠ bs) : Blk W' g t cs := (h.block g hc.lt h1 h2).trans hc
theorem Fix.setCell (h : Fix bw bs W W') {p : Addr} (hp : p.block = bw ∨ p.block = bs ∨ W.heap.size ≤ p.block) (u : Value) : Fix bw bs W (W'.setCell p u) :=
  ⟨h.os, h.tape, h.output, by simpa [World.setCell] using h.size, fun k hk h1 h2 => (Below.heap_setCell _ _ _ _ (by
    rintro rfl
    rcases hp with hp | hp | hp
    · exact h1 hp
    · exact h2 hp
    · omega)).trans (h.block k hk h1 h2)⟩
end

/-- The same of the blocks below B alone: what an iterator over the plan asks of the rounds. -/
structure FixTo (B bw bs : Nat) (W W' : World) : Prop where
  size : W.heap.size ≤ W'.heap.size
  block : ∀ k, k < B → k < W.heap.size → k ≠ bw → k ≠ bs → W'.heap[k]? = W.heap[k]?
section
variable {B bw bs : Nat} {W W' W'' : World}
theorem FixTo.refl (B bw bs : Nat) (W : World) : FixTo B bw bs W W := ⟨Nat.le_refl _, fun _ _ _ _ _ => rfl⟩
theorem FixTo.trans (h : FixTo B bw bs W W') (k : FixTo B bw bs W' W'') : FixTo B bw bs W W'' :=
  ⟨Nat.le_trans h.size k.size, fun i hB hi h1 h2 => (k.block i hB (Nat.lt_of_lt_of_le hi h.size) h1 h2).trans (h.block i hB hi h1 h2)⟩
theorem FixTo.cell (h : FixTo B bw bs W W') {b o : Nat} {v : Value} (hc : W.cell? ⟨b, o, none⟩ = some v) (hb : b < B) (h1 : b ≠ bw) (h2 : b ≠ bs) : W'.cell? ⟨b, o, none⟩ = some v :=
  (World.cell?_of_block (a := ⟨b, o, none⟩) (h.block b hb (World.block_lt_of_cell? W _ hc) h1 h2)).trans hc
theorem Fix.to (h : Fix bw bs W W') (B : Nat) : FixTo B bw bs W W' := ⟨h.size, fun k _ hk h1 h2 => h.block k hk h1 h2⟩
theorem FixTo.putObj (B bw bs : Nat) (W : World) {l : Nat} (hl : B ≤ l) (o : Obj) : FixTo B bw bs W (W.putObj l o) :=
  ⟨by simp, fun k hB hk _ _ => World.putObj_heap_other (by omega)⟩
end

theorem ofInt64 (a : Nat) (ha : a < 9223372036854775808) : (BitVec.ofInt 64 (a : Int)).toNat = a := by
  rw [BitVec.ofInt_natCast, BitVec.toNat_ofNat]; exact Nat.mod_eq_of_lt (by omega)
theorem and64 (a b : Nat) (ha : a < 9223372036854775808) (hb : b < 9223372036854775808) : bits .and .i64 (a : Int) (b : Int) = ((a &&& b : Nat) : Int) := by
  have hx : a &&& b < 2 ^ 63 := Nat.and_lt_two_pow _ (by omega)
  show IntKind.i64.wrap ((BitVec.ofInt 64 (a : Int) &&& BitVec.ofInt 64 (b : Int)).toNat : Int) = _
  rw [BitVec.toNat_and, ofInt64 a ha, ofInt64 b hb, IntKind.wrap_i64]
  omega
theorem or64 (a b : Nat) (ha : a < 9223372036854775808) (hb : b < 9223372036854775808) : bits .or .i64 (a : Int) (b : Int) = ((a ||| b : Nat) : Int) := by
  have hx : a ||| b < 2 ^ 63 := Nat.or_lt_two_pow (by omega) (by omega)
  show IntKind.i64.wrap ((BitVec.ofInt 64 (a : Int) ||| BitVec.ofInt 64 (b : Int)).toNat : Int) = _
  rw [BitVec.toNat_or, ofInt64 a ha, ofInt64 b hb, IntKind.wrap_i64]
  omega
/-- A bit, as the code asks for it. -/
theorem bit64 (a k : Nat) (ha : a < 9223372036854775808) : (bits .and .i64 ((a : Int) / 2 ^ k) 1 == 1) = a.testBit k := by
  have e : (a : Int) / 2 ^ k = ((a >>> k : Nat) : Int) := by
    rw [Nat.shiftRight_eq_div_pow]; simp
  have hlt : a >>> k < 9223372036854775808 := by rw [Nat.shiftRight_eq_div_pow]; exact Nat.lt_of_le_of_lt (Nat.div_le_self _ _) ha
  rw [e, show (1 : Int) = ((1 : Nat) : Int) from rfl, and64 _ _ hlt (by decide), Nat.testBit, Nat.and_comm]
  have h2 := Nat.and_le_left (n := 1) (m := a >>> k)
  cases h : (1 &&& a >>> k) with
  | zero => rfl
  | succ m => have : m = 0 := by omega
              subst this; rfl

/-- The hours at which someone with the hours hc (by bits) can come. -/
abbrev Hr (H hc : Nat) := { h : Nat // h < H ∧ hc.testBit h = true }
def encHr {H hc : Nat} (x : Hr H hc) : Array Value := #[.int .i64 x.1]

theorem filter_snoc (f : Nat → Bool) (k : Nat) : (List.range (k + 1)).filter f = (List.range k).filter f ++ if f k then [k] else [] := by
  rw [List.range_succ, List.filter_append]
  cases h : f k <;> simp [h]

/-- '(*plan).hours': the iterator yields the hours at which the comer can come, one after the other. -/
theorem hours1_stops (m : Nat) (W0 : World) (bq bc bp bw bs co b o n c : Nat) (H : Nat) (hc left : Nat)
    (hq : W0.cell? ⟨bq, 0, none⟩ = some (.pointer (some ⟨bp, 0, none⟩))) (hco : W0.cell? ⟨bc, 0, none⟩ = some (.int .i64 co))
    (h0 : W0.cell? ⟨bp, 0, none⟩ = some (.int .i64 H)) (h1 : W0.cell? ⟨bp, 1, none⟩ = some (.slice (some ⟨b, o, none⟩) n c)) (h3 : W0.cell? ⟨bp, 3, none⟩ = some (.int .i64 left))
    (hx : W0.cell? ⟨b, o + co * 3 + 1, none⟩ = some (.int .i64 hc)) (hlt : co < n) (hH : H ≤ 24) (hhc : hc < 16777216) (hl : left < 16777216)
    (e1 : bq ≠ bw) (e2 : bq ≠ bs) (e3 : bc ≠ bw) (e4 : bc ≠ bs) (e5 : bp ≠ bw) (e6 : bp ≠ bs) (e7 : b ≠ bw) (e8 : b ≠ bs) :
    SeqStopsK Fence.wide m Try.prog 123 #[.pointer (some ⟨bq, 0, none⟩), .pointer (some ⟨bc, 0, none⟩)] (encHr (H := H) (hc := hc &&& left)) (FixTo W0.heap.size bw bs)
      (fun l => l.map (·.1) = (List.range H).filter ((hc &&& left).testBit ·)) (fun _ => True) (H + 1) W0 := by
  intro l J Jx W hW hJ hJx hY hJ0
  refine callsIn_of_wp Try.func123 rfl trivial ?_ rfl
  simp only [Try.ntmps123, List.size_toArray, List.length_cons, List.length_nil, Nat.reduceAdd, Nat.reduceSub, Array.replicate_succ, Array.replicate_zero, List.push_toArray, List.append_toArray, List.nil_append, List.cons_append]
  have L1 := World.block_lt_of_cell? W0 _ hq
  have L2 := World.block_lt_of_cell? W0 _ hco
  have L3 := World.block_lt_of_cell? W0 _ h0
  have L4 := World.block_lt_of_cell? W0 _ hx
  dsimp only at L1 L2 L3 L4
  have hq := (hW.cell (p := ⟨bq, 0, none⟩) (World.block_lt_of_cell? W0 _ hq)).trans hq
  have hco := (hW.cell (p := ⟨bc, 0, none⟩) (World.block_lt_of_cell? W0 _ hco)).trans hco
  have h0 := (hW.cell (p := ⟨bp, 0, none⟩) (World.block_lt_of_cell? W0 _ h0)).trans h0
  have h1 := (hW.cell (p := ⟨bp, 1, none⟩) (World.block_lt_of_cell? W0 _ h1)).trans h1
  have h3 := (hW.cell (p := ⟨bp, 3, none⟩) (World.block_lt_of_cell? W0 _ h3)).trans h3
  have hx := (hW.cell (p := ⟨b, o + co * 3 + 1, none⟩) (World.block_lt_of_cell? W0 _ hx)).trans hx
  have HA := Lib.hid (and64 hc left (by omega) (by omega))
  have Hand := Lib.hid (show hc &&& left < 16777216 from Nat.lt_of_le_of_lt Nat.and_le_left hhc)
  have HJ := Lib.hid hJ
  have HY := Lib.hid hY
  clear hJ hJx hY hW
  gi_wp2
  gi_loopw [10] (fun i wr => ∃ (k : Nat) (pre : List (Hr H (hc &&& left))), i = .int .i64 k ∧ k ≤ H ∧ FixTo W0.heap.size bw bs W wr ∧ J pre wr ∧ pre.map (·.1) = (List.range k).filter ((hc &&& left).testBit ·)) (fun i _ => H - (intOf i).toNat)
  case atStart => exact ⟨0, [], rfl, Nat.zero_le _, FixTo.refl _ _ _ _, hJ0, rfl⟩
  case round =>
    obtain ⟨k, pre, rfl, hk, hfix, hj, hpre⟩ := hrel
    have hq := hfix.cell hq L1 e1 e2
    have hco := hfix.cell hco L2 e3 e4
    have h0 := hfix.cell h0 L3 e5 e6
    have h1 := hfix.cell h1 L3 e5 e6
    have h3 := hfix.cell h3 L3 e5 e6
    have hx := hfix.cell hx L4 e7 e8
    have Hpre := Lib.hid hpre
    have hb := bit64 (hc &&& left) k (by have := Hand.out; omega)
    rw [← HA.out] at hb
    have Hb := Lib.hid hb
    clear hpre hb
    by_cases hkH : k < H
    · cases ht : (hc &&& left).testBit k with
      | true =>
        have hbit : (bits .and .i64 (bits .and .i64 (hc : Int) (left : Int) / 2 ^ k) 1 == 1) = true := Hb.out.trans ht
        have Hit := Lib.hid hbit
        have Hlen : pre.length < H + 1 := by
          have := congrArg List.length Hpre.out
          rw [List.length_map] at this
          have h2 := List.length_filter_le ((hc &&& left).testBit ·) (List.range k)
          rw [List.length_range] at h2
          omega
        have HYk := fun W1 hj1 => HY.out pre ⟨k, hkH, ht⟩ W1 hj1 Hlen
        have HYk := Lib.hid HYk
        clear Hlen
        gi_wp2
        refine wpIn_region_quiet_tail Open.wide 21 (C := fun w' => ∃ n, w' = wr.drewN n) (by kernel_rfl) (by kernel_rfl) (by kernel_rfl) ⟨1, rfl⟩ ?_
        simp only [List.take_succ_cons, List.take_zero, List.drop_succ_cons, List.drop_zero]
        repeat (go_big_quiet_step (fail))
        refine wpQuiet_nil ?_
        rintro _ ⟨d, rfl⟩
        have hjd : J pre (wr.drewN d) := HJ.out pre wr _ none hj ⟨rfl, rfl, rfl, Nat.le_refl _, fun _ _ _ => rfl⟩ (fun r e => by cases e)
        obtain ⟨fn, tmps, assign, body, hy, hR⟩ := HYk.out _ hjd
        dsimp only [encHr] at hy
        gi_wp2
        refine ⟨fun h => (by simp [Fence.wide] at h), hR.mono ?_⟩
        rintro e W' (⟨rfl, hJ', hk'⟩ | ⟨rfl, hJx'⟩)
        · have Hfx := Lib.hid (hfix.trans ((⟨Nat.le_refl _, fun _ _ _ _ _ => rfl⟩ : FixTo W0.heap.size bw bs wr (wr.drewN d)).trans hk'))
          clear hR hk' hjd hy
          gi_wp2
          go_roundw
          case rel => exact ⟨k + 1, pre ++ [⟨k, hkH, ht⟩], by go_num, by omega, Hfx.out, hJ', by rw [List.map_append, Hpre.out, filter_snoc]; simp [ht]⟩
          case measure => simp [intOf]; omega
        · clear hR hjd hy
          gi_wp2
          refine bodyPost_ret (results_none rfl _ _ _) rfl ?_
          exact ⟨⟨_, rfl⟩, .inr ⟨_, trivial, hJx'⟩⟩
      | false =>
        have hbit : (bits .and .i64 (bits .and .i64 (hc : Int) (left : Int) / 2 ^ k) 1 == 1) = false := Hb.out.trans ht
        gi_wp2
        refine wpIn_region_quiet_tail Open.wide 21 (C := fun w' => ∃ n, w' = wr.drewN n) (by kernel_rfl) (by kernel_rfl) (by kernel_rfl) ⟨1, rfl⟩ ?_
        simp only [List.take_succ_cons, List.take_zero, List.drop_succ_cons, List.drop_zero]
        repeat (go_big_quiet_step (fail))
        refine wpQuiet_nil ?_
        rintro _ ⟨d, rfl⟩
        have hjd : J pre (wr.drewN d) := HJ.out pre wr _ none hj ⟨rfl, rfl, rfl, Nat.le_refl _, fun _ _ _ => rfl⟩ (fun r e => by cases e)
        have Hfx := Lib.hid (hfix.trans (⟨Nat.le_refl _, fun _ _ _ _ _ => rfl⟩ : FixTo W0.heap.size bw bs wr (wr.drewN d)))
        gi_wp2
        refine ⟨fun _ h => (by cases h), ?_⟩
        gi_wp2
        go_roundw
        case rel => exact ⟨k + 1, pre, by go_num, by omega, Hfx.out, hjd, by rw [Hpre.out, filter_snoc, ht]; simp⟩
        case measure => simp [intOf]; omega
    · obtain rfl : k = H := by omega
      gi_wp2
      go_end0
      exact ⟨⟨_, rfl⟩, .inl ⟨pre, Hpre.out, hj⟩⟩
end Go.Proofs.Ytdhhneflhmkonaa
