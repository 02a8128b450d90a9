/- The mill's plan: hours, give, open, serve; what a search shows. -/
import Derived.Test.YtdhhneflhmkonaaKA
import Derived.Laws.EntriesVeiled
import Derived.Deep.OwnRows
import Derived.WalkMore
import Derived.Laws.AppendOwn
import Derived.OwnWalk

/- Plain: one step of the search for an hour: what it may do to whose each hour is, and to the hours that were tried. -/
namespace Go.Proofs.Ytdhhneflhmkonaa

/-- The hours below H that are not in a set. -/
def unseen (H s : Nat) : Nat := ((List.range H).filter (fun h => !s.testBit h)).length

/-- A set grows. -/
def Sub (s s' : Nat) : Prop := ∀ h, s.testBit h = true → s'.testBit h = true
theorem Sub.refl (s : Nat) : Sub s s := fun _ h => h
theorem Sub.trans {a b c : Nat} (h : Sub a b) (k : Sub b c) : Sub a c := fun x hx => k x (h x hx)
theorem Sub.or (s t : Nat) : Sub s (s ||| t) := fun h hh => by rw [Nat.testBit_or, hh]; rfl

theorem filter_lt {α : Type} {p q : α → Bool} {l : List α} (h : ∀ x, p x = true → q x = true) {a : α} (ha : a ∈ l) (hq : q a = true) (hp : p a = false) : (l.filter p).length < (l.filter q).length := by
  induction l with
  | nil => cases ha
  | cons y l ih =>
    have hle : (l.filter p).length ≤ (l.filter q).length := by
      clear ih ha
      induction l with
      | nil => simp
      | cons z l ih =>
        simp only [List.filter_cons]
        cases hpz : p z
        · cases hqz : q z <;> simp <;> omega
        · rw [h z hpz]; simp; omega
    simp only [List.filter_cons]
    rcases List.mem_cons.1 ha with rfl | ha
    · rw [hp, hq]; simp; omega
    · have := ih ha
      cases hpy : p y
      · cases hqy : q y <;> simp <;> omega
      · rw [h y hpy]; simp; omega

theorem unseen_lt {H s s' h : Nat} (hs : Sub s s') (hh : h < H) (h0 : s.testBit h = false) (h1 : s'.testBit h = true) : unseen H s' < unseen H s := by
  refine filter_lt (a := h) (fun x hx => ?_) (List.mem_range.2 hh) (by simp [h0]) (by simp [h1])
  cases hb : s.testBit x
  · rfl
  · rw [hs x hb] at hx; cases hx

theorem filter_le {α : Type} {p q : α → Bool} (l : List α) (h : ∀ x, p x = true → q x = true) : (l.filter p).length ≤ (l.filter q).length := by
  induction l with
  | nil => simp
  | cons z l ih =>
    simp only [List.filter_cons]
    cases hpz : p z
    · cases hqz : q z <;> simp <;> omega
    · rw [h z hpz]; simp; omega
theorem unseen_le {H s s' : Nat} (hs : Sub s s') : unseen H s' ≤ unseen H s := by
  refine filter_le _ (fun x hx => ?_)
  cases hb : s.testBit x
  · rfl
  · rw [hs x hb] at hx; cases hx

/-- What a step that found an hour for c may have done. 'adj i h': whether i can come at h. -/
structure StepT (nc H : Nat) (adj : Nat → Nat → Bool) (c s : Nat) (wh wh' : List Int) : Prop where
  len : wh'.length = wh.length
  kept : ∀ h : Nat, s.testBit h = true → wh'[h]? = wh[h]?
  count : ∀ x : Nat, wh'.count (x : Int) = wh.count (x : Int) + if x = c then 1 else 0
  right : ∀ (h : Nat) (x : Int), wh'[h]? = some x → wh[h]? = some x ∨ ∃ i : Nat, x = i ∧ i < nc ∧ adj i h = true

/-- What a step that found none shows. -/
structure StepF (nc H : Nat) (adj : Nat → Nat → Bool) (c s : Nat) (wh : List Int) (s' : Nat) : Prop where
  sub : Sub s s'
  lt : s' < 2 ^ H
  all : ∀ h : Nat, h < H → adj c h = true → s'.testBit h = true
  shut : ∀ h : Nat, s'.testBit h = true → s.testBit h = false → ∃ i : Nat, wh[h]? = some (i : Int) ∧ i < nc ∧ ∀ h', h' < H → adj i h' = true → s'.testBit h' = true

/-- Where the search stands when the hours of 'pre' were tried. -/
structure StepI (nc H : Nat) (adj : Nat → Nat → Bool) (s : Nat) (wh : List Int) (pre : List Nat) (s' : Nat) : Prop where
  sub : Sub s s'
  lt : s' < 2 ^ H
  all : ∀ h : Nat, h ∈ pre → s'.testBit h = true
  shut : ∀ h : Nat, s'.testBit h = true → s.testBit h = false → ∃ i : Nat, wh[h]? = some (i : Int) ∧ i < nc ∧ ∀ h', h' < H → adj i h' = true → s'.testBit h' = true

section
variable {nc H c s : Nat} {adj : Nat → Nat → Bool} {wh : List Int}
theorem StepI.start (h : s < 2 ^ H) : StepI nc H adj s wh [] s := ⟨Sub.refl s, h, fun _ h => (by cases h), fun h h1 h2 => (by rw [h1] at h2; cases h2)⟩
theorem StepI.again {pre : List Nat} {s' h : Nat} (k : StepI nc H adj s wh pre s') (hh : s'.testBit h = true) : StepI nc H adj s wh (pre ++ [h]) s' :=
  ⟨k.sub, k.lt, fun x hx => (List.mem_append.1 hx).elim (k.all x) (fun hx => by rw [List.mem_singleton.1 hx]; exact hh), k.shut⟩
theorem StepI.done {pre : List Nat} {s' : Nat} (k : StepI nc H adj s wh pre s') (hp : ∀ h, h < H → adj c h = true → h ∈ pre) : StepF nc H adj c s wh s' :=
  ⟨k.sub, k.lt, fun h hh ha => k.all h (hp h hh ha), k.shut⟩

theorem pow_bit (h x : Nat) : (2 ^ h).testBit x = decide (h = x) := Nat.testBit_two_pow

theorem put_lt {s' h : Nat} (hs : s' < 2 ^ H) (hh : h < H) : s' ||| 2 ^ h < 2 ^ H := Nat.or_lt_two_pow hs (Nat.pow_lt_pow_right (by decide) hh)
theorem put_bit {s' h : Nat} : (s' ||| 2 ^ h).testBit h = true := by rw [Nat.testBit_or, pow_bit]; simp

/-- The step on behalf of the one who has the hour found none either. -/
theorem StepI.more {pre : List Nat} {s' s2 h i : Nat} (k : StepI nc H adj s wh pre s') (hwh : wh[h]? = some (i : Int)) (hi : i < nc) (f : StepF nc H adj i (s' ||| 2 ^ h) wh s2) : StepI nc H adj s wh (pre ++ [h]) s2 := by
  have hb : s2.testBit h = true := f.sub h put_bit
  refine ⟨(k.sub.trans (Sub.or s' _)).trans f.sub, f.lt, fun x hx => ?_, fun x h1 h2 => ?_⟩
  · rcases List.mem_append.1 hx with hx | hx
    · exact f.sub x (Sub.or s' _ x (k.all x hx))
    · rw [List.mem_singleton.1 hx]; exact hb
  · cases h3 : s'.testBit x
    · by_cases hxh : x = h
      · subst hxh; exact ⟨i, hwh, hi, f.all⟩
      · refine f.shut x h1 ?_
        rw [Nat.testBit_or, h3, pow_bit]; simp; omega
    · obtain ⟨j, e1, e2, e3⟩ := k.shut x h3 h2
      exact ⟨j, e1, e2, fun h' hh' ha => f.sub h' (Sub.or s' _ h' (e3 h' hh' ha))⟩

theorem count_set {l : List Int} {h : Nat} {a : Int} (ha : l[h]? = some a) (v x : Int) : (l.set h v).count x + (if a = x then 1 else 0) = l.count x + if v = x then 1 else 0 := by
  induction l generalizing h with
  | nil => simp at ha
  | cons y l ih =>
    cases h with
    | zero =>
      simp at ha; subst ha
      simp only [List.set_cons_zero, List.count_cons, beq_iff_eq]
      omega
    | succ h =>
      simp at ha
      have := ih ha
      simp only [List.set_cons_succ, List.count_cons]
      omega

/-- The hour was nobody's. -/
theorem StepT.free {s' h : Nat} (hs : Sub s s') (hb : s'.testBit h = false) (hwh : wh[h]? = some (-1)) (hc : c < nc) (ha : adj c h = true) : StepT nc H adj c s wh (wh.set h c) := by
  refine ⟨by simp, fun x hx => ?_, fun x => ?_, fun x y hy => ?_⟩
  · rw [List.getElem?_set_ne]
    rintro rfl
    rw [hs _ hx] at hb; cases hb
  · have := count_set hwh (c : Int) (x : Int)
    rw [if_neg (by omega)] at this
    by_cases hxc : x = c
    · subst hxc; simpa using this
    · rw [if_neg (by omega)] at this
      rw [if_neg hxc]; simpa using this
  · by_cases hxh : x = h
    · subst hxh
      rw [List.getElem?_set] at hy
      simp at hy
      exact .inr ⟨c, by omega, hc, ha⟩
    · rw [List.getElem?_set_ne (by omega)] at hy
      exact .inl hy

/-- The one who had the hour got another one. -/
theorem StepT.moved {s' h i : Nat} {wh1 : List Int} (hs : Sub s s') (hb : s'.testBit h = false) (hwh : wh[h]? = some (i : Int)) (hc : c < nc) (ha : adj c h = true) (t : StepT nc H adj i (s' ||| 2 ^ h) wh wh1) :
    StepT nc H adj c s wh (wh1.set h c) := by
  have h1 : wh1[h]? = some (i : Int) := (t.kept h put_bit).trans hwh
  refine ⟨by rw [List.length_set, t.len], fun x hx => ?_, fun x => ?_, fun x y hy => ?_⟩
  · rw [List.getElem?_set_ne, t.kept x (Sub.or s' _ x (hs x hx))]
    rintro rfl
    rw [hs _ hx] at hb; cases hb
  · have e := count_set h1 (c : Int) (x : Int)
    have e2 := t.count x
    by_cases hxc : x = c <;> by_cases hxi : x = i
    · rw [if_pos (by omega), if_pos (by omega)] at e; rw [if_pos hxi] at e2; rw [if_pos hxc]; omega
    · rw [if_neg (by omega), if_pos (by omega)] at e; rw [if_neg hxi] at e2; rw [if_pos hxc]; omega
    · rw [if_pos (by omega), if_neg (by omega)] at e; rw [if_pos hxi] at e2; rw [if_neg hxc]; omega
    · rw [if_neg (by omega), if_neg (by omega)] at e; rw [if_neg hxi] at e2; rw [if_neg hxc]; omega
  · by_cases hxh : x = h
    · subst hxh
      rw [List.getElem?_set] at hy
      simp at hy
      exact .inr ⟨c, by omega, hc, ha⟩
    · rw [List.getElem?_set_ne (by omega)] at hy
      exact t.right x y hy
end
end Go.Proofs.Ytdhhneflhmkonaa

/- The mill's plan: the hours of a comer, as an iterator. -/
namespace Go.Proofs.Ytdhhneflhmkonaa
open Go.RowKit Go.Shelf
attribute [local go_sem] Oper.semAt_some

/-- What a world keeps while the plan's two blocks (whose each hour is; the hours that were tried) may turn. -/
structure Fix (bw bs : Nat) (W W' : World) : Prop where
  os : W'.os = W.os
  tape : W'.tape = W.tape
  output : W'.output = W.output
  size : W.heap.size ≤ W'.heap.size
  block : ∀ k, k < W.heap.size → k ≠ bw → k ≠ bs → W'.heap[k]? = W.heap[k]?

section
variable {bw bs : Nat} {W W' W'' : World}
theorem Fix.refl (bw bs : Nat) (W : World) : Fix bw bs W W := ⟨rfl, rfl, rfl, Nat.le_refl _, fun _ _ _ _ => rfl⟩
theorem Fix.trans (h : Fix bw bs W W') (k : Fix bw bs W' W'') : Fix bw bs W W'' :=
  ⟨k.os.trans h.os, k.tape.trans h.tape, k.output.trans h.output, Nat.le_trans h.size k.size, fun i hi h1 h2 => (k.block i (Nat.lt_of_lt_of_le hi h.size) h1 h2).trans (h.block i hi h1 h2)⟩
theorem Fix.of_below (h : Below W.heap.size W W') : Fix bw bs W W' := ⟨h.os, h.tape, h.output, h.size, fun k hk _ _ => h.block k hk⟩
theorem Fix.cell (h : Fix bw bs W W') {b o : Nat} {v : Value} (hc : W.cell? ⟨b, o, none⟩ = some v) (h1 : b ≠ bw) (h2 : b ≠ bs) : W'.cell? ⟨b, o, none⟩ = some v :=
  (World.cell?_of_block (a := ⟨b, o, none⟩) (h.block b (World.block_lt_of_cell? W _ hc) h1 h2)).trans hc
theorem Fix.blk (h : Fix bw bs W W') {g : Nat} {t : TypeId} {cs : Array Value} (hc : Blk W g t cs) (h1 : g ≠ bw) (h2 : g ≠ bs) : Blk W' g t cs := (h.block g hc.lt h1 h2).trans hc
theorem Fix.setCell (h : Fix bw bs W W') {p : Addr} (hp : p.block = bw ∨ p.block = bs ∨ W.heap.size ≤ p.block) (u : Value) : Fix bw bs W (W'.setCell p u) :=
  ⟨h.os, h.tape, h.output, by simpa [World.setCell] using h.size, fun k hk h1 h2 => (Below.heap_setCell _ _ _ _ (by
    rintro rfl
    rcases hp with hp | hp | hp
    · exact h1 hp
    · exact h2 hp
    · omega)).trans (h.block k hk h1 h2)⟩
end

/-- The same of the blocks below B alone: what an iterator over the plan asks of the rounds. -/
structure FixTo (B bw bs : Nat) (W W' : World) : Prop where
  size : W.heap.size ≤ W'.heap.size
  block : ∀ k, k < B → k < W.heap.size → k ≠ bw → k ≠ bs → W'.heap[k]? = W.heap[k]?
section
variable {B bw bs : Nat} {W W' W'' : World}
theorem FixTo.refl (B bw bs : Nat) (W : World) : FixTo B bw bs W W := ⟨Nat.le_refl _, fun _ _ _ _ _ => rfl⟩
theorem FixTo.trans (h : FixTo B bw bs W W') (k : FixTo B bw bs W' W'') : FixTo B bw bs W W'' :=
  ⟨Nat.le_trans h.size k.size, fun i hB hi h1 h2 => (k.block i hB (Nat.lt_of_lt_of_le hi h.size) h1 h2).trans (h.block i hB hi h1 h2)⟩
theorem FixTo.cell (h : FixTo B bw bs W W') {b o : Nat} {v : Value} (hc : W.cell? ⟨b, o, none⟩ = some v) (hb : b < B) (h1 : b ≠ bw) (h2 : b ≠ bs) : W'.cell? ⟨b, o, none⟩ = some v :=
  (World.cell?_of_block (a := ⟨b, o, none⟩) (h.block b hb (World.block_lt_of_cell? W _ hc) h1 h2)).trans hc
theorem Fix.to (h : Fix bw bs W W') (B : Nat) : FixTo B bw bs W W' := ⟨h.size, fun k _ hk h1 h2 => h.block k hk h1 h2⟩
theorem FixTo.putObj (B bw bs : Nat) (W : World) {l : Nat} (hl : B ≤ l) (o : Obj) : FixTo B bw bs W (W.putObj l o) :=
  ⟨by simp, fun k hB hk _ _ => World.putObj_heap_other (by omega)⟩
end

theorem ofInt64 (a : Nat) (ha : a < 9223372036854775808) : (BitVec.ofInt 64 (a : Int)).toNat = a := by
  rw [BitVec.ofInt_natCast, BitVec.toNat_ofNat]; exact Nat.mod_eq_of_lt (by omega)
theorem and64 (a b : Nat) (ha : a < 9223372036854775808) (hb : b < 9223372036854775808) : bits .and .i64 (a : Int) (b : Int) = ((a &&& b : Nat) : Int) := by
  have hx : a &&& b < 2 ^ 63 := Nat.and_lt_two_pow _ (by omega)
  show IntKind.i64.wrap ((BitVec.ofInt 64 (a : Int) &&& BitVec.ofInt 64 (b : Int)).toNat : Int) = _
  rw [BitVec.toNat_and, ofInt64 a ha, ofInt64 b hb, IntKind.wrap_i64]
  omega
theorem or64 (a b : Nat) (ha : a < 9223372036854775808) (hb : b < 9223372036854775808) : bits .or .i64 (a : Int) (b : Int) = ((a ||| b : Nat) : Int) := by
  have hx : a ||| b < 2 ^ 63 := Nat.or_lt_two_pow (by omega) (by omega)
  show IntKind.i64.wrap ((BitVec.ofInt 64 (a : Int) ||| BitVec.ofInt 64 (b : Int)).toNat : Int) = _
  rw [BitVec.toNat_or, ofInt64 a ha, ofInt64 b hb, IntKind.wrap_i64]
  omega
/-- A bit, as the code asks for it. -/
theorem bit64 (a k : Nat) (ha : a < 9223372036854775808) : (bits .and .i64 ((a : Int) / 2 ^ k) 1 == 1) = a.testBit k := by
  have e : (a : Int) / 2 ^ k = ((a >>> k : Nat) : Int) := by
    rw [Nat.shiftRight_eq_div_pow]; simp
  have hlt : a >>> k < 9223372036854775808 := by rw [Nat.shiftRight_eq_div_pow]; exact Nat.lt_of_le_of_lt (Nat.div_le_self _ _) ha
  rw [e, show (1 : Int) = ((1 : Nat) : Int) from rfl, and64 _ _ hlt (by decide), Nat.testBit, Nat.and_comm]
  have h2 := Nat.and_le_left (n := 1) (m := a >>> k)
  cases h : (1 &&& a >>> k) with
  | zero => rfl
  | succ m => have : m = 0 := by omega
              subst this; rfl

/-- The hours at which someone with the hours hc (by bits) can come. -/
abbrev Hr (H hc : Nat) := { h : Nat // h < H ∧ hc.testBit h = true }
def encHr {H hc : Nat} (x : Hr H hc) : Array Value := #[.int .i64 x.1]

theorem filter_snoc (f : Nat → Bool) (k : Nat) : (List.range (k + 1)).filter f = (List.range k).filter f ++ if f k then [k] else [] := by
  rw [List.range_succ, List.filter_append]
  cases h : f k <;> simp [h]

/-- '(*plan).hours': the iterator yields the hours at which the comer can come, one after the other. -/
theorem hours1_stops (m : Nat) (W0 : World) (bq bc bp bw bs co b o n c : Nat) (H : Nat) (hc left : Nat)
    (hq : W0.cell? ⟨bq, 0, none⟩ = some (.pointer (some ⟨bp, 0, none⟩))) (hco : W0.cell? ⟨bc, 0, none⟩ = some (.int .i64 co))
    (h0 : W0.cell? ⟨bp, 0, none⟩ = some (.int .i64 H)) (h1 : W0.cell? ⟨bp, 1, none⟩ = some (.slice (some ⟨b, o, none⟩) n c)) (h3 : W0.cell? ⟨bp, 3, none⟩ = some (.int .i64 left))
    (hx : W0.cell? ⟨b, o + co * 3 + 1, none⟩ = some (.int .i64 hc)) (hlt : co < n) (hH : H ≤ 24) (hhc : hc < 16777216) (hl : left < 16777216)
    (e1 : bq ≠ bw) (e2 : bq ≠ bs) (e3 : bc ≠ bw) (e4 : bc ≠ bs) (e5 : bp ≠ bw) (e6 : bp ≠ bs) (e7 : b ≠ bw) (e8 : b ≠ bs) :
    SeqStopsK Fence.wide m Try.prog 123 #[.pointer (some ⟨bq, 0, none⟩), .pointer (some ⟨bc, 0, none⟩)] (encHr (H := H) (hc := hc &&& left)) (FixTo W0.heap.size bw bs)
      (fun l => l.map (·.1) = (List.range H).filter ((hc &&& left).testBit ·)) (fun _ => True) (H + 1) W0 := by
  intro l J Jx W hW hJ hJx hY hJ0
  refine callsIn_of_wp Try.func123 rfl trivial ?_ rfl
  simp only [Try.ntmps123, List.size_toArray, List.length_cons, List.length_nil, Nat.reduceAdd, Nat.reduceSub, Array.replicate_succ, Array.replicate_zero, List.push_toArray, List.append_toArray, List.nil_append, List.cons_append]
  have L1 := World.block_lt_of_cell? W0 _ hq
  have L2 := World.block_lt_of_cell? W0 _ hco
  have L3 := World.block_lt_of_cell? W0 _ h0
  have L4 := World.block_lt_of_cell? W0 _ hx
  dsimp only at L1 L2 L3 L4
  have hq := (hW.cell (p := ⟨bq, 0, none⟩) (World.block_lt_of_cell? W0 _ hq)).trans hq
  have hco := (hW.cell (p := ⟨bc, 0, none⟩) (World.block_lt_of_cell? W0 _ hco)).trans hco
  have h0 := (hW.cell (p := ⟨bp, 0, none⟩) (World.block_lt_of_cell? W0 _ h0)).trans h0
  have h1 := (hW.cell (p := ⟨bp, 1, none⟩) (World.block_lt_of_cell? W0 _ h1)).trans h1
  have h3 := (hW.cell (p := ⟨bp, 3, none⟩) (World.block_lt_of_cell? W0 _ h3)).trans h3
  have hx := (hW.cell (p := ⟨b, o + co * 3 + 1, none⟩) (World.block_lt_of_cell? W0 _ hx)).trans hx
  have HA := Lib.hid (and64 hc left (by omega) (by omega))
  have Hand := Lib.hid (show hc &&& left < 16777216 from Nat.lt_of_le_of_lt Nat.and_le_left hhc)
  have HJ := Lib.hid hJ
  have HY := Lib.hid hY
  clear hJ hJx hY hW
  gi_wp2
  gi_loopw [10] (fun i wr => ∃ (k : Nat) (pre : List (Hr H (hc &&& left))), i = .int .i64 k ∧ k ≤ H ∧ FixTo W0.heap.size bw bs W wr ∧ J pre wr ∧ pre.map (·.1) = (List.range k).filter ((hc &&& left).testBit ·)) (fun i _ => H - (intOf i).toNat)
  case atStart => exact ⟨0, [], rfl, Nat.zero_le _, FixTo.refl _ _ _ _, hJ0, rfl⟩
  case round =>
    obtain ⟨k, pre, rfl, hk, hfix, hj, hpre⟩ := hrel
    have hq := hfix.cell hq L1 e1 e2
    have hco := hfix.cell hco L2 e3 e4
    have h0 := hfix.cell h0 L3 e5 e6
    have h1 := hfix.cell h1 L3 e5 e6
    have h3 := hfix.cell h3 L3 e5 e6
    have hx := hfix.cell hx L4 e7 e8
    have Hpre := Lib.hid hpre
    have hb := bit64 (hc &&& left) k (by have := Hand.out; omega)
    rw [← HA.out] at hb
    have Hb := Lib.hid hb
    clear hpre hb
    by_cases hkH : k < H
    · cases ht : (hc &&& left).testBit k with
      | true =>
        have hbit : (bits .and .i64 (bits .and .i64 (hc : Int) (left : Int) / 2 ^ k) 1 == 1) = true := Hb.out.trans ht
        have Hit := Lib.hid hbit
        have Hlen : pre.length < H + 1 := by
          have := congrArg List.length Hpre.out
          rw [List.length_map] at this
          have h2 := List.length_filter_le ((hc &&& left).testBit ·) (List.range k)
          rw [List.length_range] at h2
          omega
        have HYk := fun W1 hj1 => HY.out pre ⟨k, hkH, ht⟩ W1 hj1 Hlen
        have HYk := Lib.hid HYk
        clear Hlen
        gi_wp2
        refine wpIn_region_quiet_tail Open.wide 21 (C := fun w' => ∃ n, w' = wr.drewN n) (by kernel_rfl) (by kernel_rfl) (by kernel_rfl) ⟨1, rfl⟩ ?_
        simp only [List.take_succ_cons, List.take_zero, List.drop_succ_cons, List.drop_zero]
        repeat (go_big_quiet_step (fail))
        refine wpQuiet_nil ?_
        rintro _ ⟨d, rfl⟩
        have hjd : J pre (wr.drewN d) := HJ.out pre wr _ none hj ⟨rfl, rfl, rfl, Nat.le_refl _, fun _ _ _ => rfl⟩ (fun r e => by cases e)
        obtain ⟨fn, tmps, assign, body, hy, hR⟩ := HYk.out _ hjd
        dsimp only [encHr] at hy
        gi_wp2
        refine ⟨fun h => (by simp [Fence.wide] at h), hR.mono ?_⟩
        rintro e W' (⟨rfl, hJ', hk'⟩ | ⟨rfl, hJx'⟩)
        · have Hfx := Lib.hid (hfix.trans ((⟨Nat.le_refl _, fun _ _ _ _ _ => rfl⟩ : FixTo W0.heap.size bw bs wr (wr.drewN d)).trans hk'))
          clear hR hk' hjd hy
          gi_wp2
          go_roundw
          case rel => exact ⟨k + 1, pre ++ [⟨k, hkH, ht⟩], by go_num, by omega, Hfx.out, hJ', by rw [List.map_append, Hpre.out, filter_snoc]; simp [ht]⟩
          case measure => simp [intOf]; omega
        · clear hR hjd hy
          gi_wp2
          refine bodyPost_ret (results_none rfl _ _ _) rfl ?_
          exact ⟨⟨_, rfl⟩, .inr ⟨_, trivial, hJx'⟩⟩
      | false =>
        have hbit : (bits .and .i64 (bits .and .i64 (hc : Int) (left : Int) / 2 ^ k) 1 == 1) = false := Hb.out.trans ht
        gi_wp2
        refine wpIn_region_quiet_tail Open.wide 21 (C := fun w' => ∃ n, w' = wr.drewN n) (by kernel_rfl) (by kernel_rfl) (by kernel_rfl) ⟨1, rfl⟩ ?_
        simp only [List.take_succ_cons, List.take_zero, List.drop_succ_cons, List.drop_zero]
        repeat (go_big_quiet_step (fail))
        refine wpQuiet_nil ?_
        rintro _ ⟨d, rfl⟩
        have hjd : J pre (wr.drewN d) := HJ.out pre wr _ none hj ⟨rfl, rfl, rfl, Nat.le_refl _, fun _ _ _ => rfl⟩ (fun r e => by cases e)
        have Hfx := Lib.hid (hfix.trans (⟨Nat.le_refl _, fun _ _ _ _ _ => rfl⟩ : FixTo W0.heap.size bw bs wr (wr.drewN d)))
        gi_wp2
        refine ⟨fun _ h => (by cases h), ?_⟩
        gi_wp2
        go_roundw
        case rel => exact ⟨k + 1, pre, by go_num, by omega, Hfx.out, hjd, by rw [Hpre.out, filter_snoc, ht]; simp⟩
        case measure => simp [intOf]; omega
    · obtain rfl : k = H := by omega
      gi_wp2
      go_end0
      exact ⟨⟨_, rfl⟩, .inl ⟨pre, Hpre.out, hj⟩⟩
end Go.Proofs.Ytdhhneflhmkonaa

/- The mill's plan: the step of the search ('give'). -/
namespace Go.Proofs.Ytdhhneflhmkonaa
open Go.RowKit Go.Shelf
attribute [local go_sem] Oper.semAt_some

theorem Blk.own {W W' : World} {g : Nat} {t : TypeId} {cs : Array Value} {row : Option Nat} (h : Blk W g t cs) (hg : W.grownBy W' row) (hr : ∀ r, row = some r → ∃ o : Obj, W.heap[r]? = some o ∧ o.isCells = false) : Blk W' g t cs := by
  refine (hg.block g h.lt ?_).trans h
  intro e
  obtain ⟨o, ho, hc⟩ := hr g e.symm
  rw [show W.heap[g]? = _ from h] at ho
  cases ho; cases hc
theorem Fix.own {A W W' : World} {bw bs : Nat} {row : Option Nat} (h : Fix bw bs A W) (hg : W.grownBy W' row) (hr : ∀ r, row = some r → A.heap.size ≤ r) : Fix bw bs A W' :=
  ⟨hg.os.trans h.os, hg.tape.trans h.tape, hg.output.trans h.output, Nat.le_trans h.size hg.size, fun k hk h1 h2 =>
    (hg.block k (Nat.lt_of_lt_of_le hk h.size) (fun e => by have := hr k e.symm; omega)).trans (h.block k hk h1 h2)⟩

def hrs (xs : List Comer) (i : Nat) : Nat := (xs.getD i ⟨0, 0, 0⟩).hours.toNat
/-- Whether comer i can come at hour h, of the hours that are left. -/
def adj (xs : List Comer) (left : Nat) (i h : Nat) : Bool := (hrs xs i &&& left).testBit h
def vals (l : List Int) : Array Value := (l.map (Value.int .i64)).toArray

theorem vals_get (l : List Int) (i : Nat) : (vals l)[i]? = (l[i]?).map (Value.int .i64) := by simp [vals]
theorem vals_set (l : List Int) (i : Nat) (v : Int) : (vals l).setIfInBounds i (.int .i64 v) = vals (l.set i v) := by
  simp [vals, List.map_set]

/-- What stands still while a plan is searched. -/
structure PC (W : World) (bpp bps bst bp bw bs b o n cc H left : Nat) (xs : List Comer) : Prop where
  pp : W.cell? ⟨bpp, 0, none⟩ = some (.pointer (some ⟨bp, 0, none⟩))
  ps : W.cell? ⟨bps, 0, none⟩ = some (.pointer (some ⟨bs, 0, none⟩))
  st : W.cell? ⟨bst, 0, none⟩ = some (.func (.func 108) #[] #[.pointer (some ⟨bpp, 0, none⟩), .pointer (some ⟨bps, 0, none⟩), .pointer (some ⟨bst, 0, none⟩)])
  h0 : W.cell? ⟨bp, 0, none⟩ = some (.int .i64 H)
  h1 : W.cell? ⟨bp, 1, none⟩ = some (.slice (some ⟨b, o, none⟩) n cc)
  h2 : W.cell? ⟨bp, 2, none⟩ = some (.slice (some ⟨bw, 0, none⟩) H H)
  h3 : W.cell? ⟨bp, 3, none⟩ = some (.int .i64 left)
  hx : ∀ i, i < n → W.cell? ⟨b, o + i * 3 + 1, none⟩ = some (.int .i64 (hrs xs i : Nat))
  n1 : bpp ≠ bw
  n2 : bpp ≠ bs
  n3 : bps ≠ bw
  n4 : bps ≠ bs
  n5 : bst ≠ bw
  n6 : bst ≠ bs
  n7 : bp ≠ bw
  n8 : bp ≠ bs
  n9 : b ≠ bw
  n10 : b ≠ bs
  n11 : bw ≠ bs

theorem PC.fix {W W' : World} {bpp bps bst bp bw bs b o n cc H left : Nat} {xs : List Comer} (h : PC W bpp bps bst bp bw bs b o n cc H left xs) (f : Fix bw bs W W') : PC W' bpp bps bst bp bw bs b o n cc H left xs :=
  ⟨f.cell h.pp h.n1 h.n2, f.cell h.ps h.n3 h.n4, f.cell h.st h.n5 h.n6, f.cell h.h0 h.n7 h.n8, f.cell h.h1 h.n7 h.n8, f.cell h.h2 h.n7 h.n8, f.cell h.h3 h.n7 h.n8, fun i hi => f.cell (h.hx i hi) h.n9 h.n10,
   h.n1, h.n2, h.n3, h.n4, h.n5, h.n6, h.n7, h.n8, h.n9, h.n10, h.n11⟩

theorem keepsFrom_of_fix {W W' : World} {bw bs : Nat} (B : Nat) {t t' : TypeId} {cs cs' : Array Value} (h : Fix bw bs W W') (hw : Blk W bw t cs) (hs : Blk W bs t' cs') : KeepsFrom B W W' :=
  ⟨h.size, fun k o _ hk ho => by
    refine (h.block k (Array.getElem?_eq_some_iff.1 hk).1 ?_ ?_).trans hk
    · rintro rfl; rw [show W.heap[k]? = _ from hw] at hk; cases hk; cases ho
    · rintro rfl; rw [show W.heap[k]? = _ from hs] at hk; cases hk; cases ho⟩
theorem zip1 (p : Nat) (v : Value) (t : Array Value) : (#[p].zip #[v]).foldl (fun t (x : Nat × Value) => match x with | (p, v) => t.setIfInBounds p v) t = t.setIfInBounds p v := by simp
theorem Blk.drewN {w : World} {g : Nat} {t : TypeId} {cs : Array Value} (h : Blk w g t cs) (n : Nat) : Blk (w.drewN n) g t cs := h
theorem Fix.drewN {w W : World} {bw bs : Nat} (h : Fix bw bs W w) (n : Nat) : Fix bw bs W (w.drewN n) := ⟨h.os, h.tape, h.output, h.size, h.block⟩
theorem orbit (sc h : Nat) (hs : sc < 16777216) (hh : h < 24) : bits .or .i64 (sc : Int) (wrap64 (2 ^ h)) = ((sc ||| 2 ^ h : Nat) : Int) := by
  have h1 : 2 ^ h < 2 ^ 24 := Nat.pow_lt_pow_right (by decide) hh
  have e : wrap64 ((2 : Int) ^ h) = ((2 ^ h : Nat) : Int) := by
    rw [show (2 : Int) ^ h = ((2 ^ h : Nat) : Int) by simp]; generalize 2 ^ h = q at h1 ⊢; exact IntWalk.wrap64_in _ ⟨by omega, by omega⟩
  rw [e]; exact or64 sc (2 ^ h) (by omega) (by omega)

theorem Fix.putObj {A W : World} {bw bs : Nat} (h : Fix bw bs A W) {D : Nat} (hD : A.heap.size ≤ D) (o : Obj) : Fix bw bs A (W.putObj D o) :=
  ⟨h.os, h.tape, h.output, by simpa using h.size, fun k hk h1 h2 => (World.putObj_heap_other (by omega)).trans (h.block k hk h1 h2)⟩
theorem Blk.putObj {W : World} {g : Nat} {t : TypeId} {cs : Array Value} (h : Blk W g t cs) {D : Nat} (hD : g ≠ D) (o : Obj) : Blk (W.putObj D o) g t cs := (World.putObj_heap_other hD).trans h

/-- How a step leaves the world. -/
def StepPost (bw bs n H left : Nat) (xs : List Comer) (c s : Nat) (wh : List Int) (W : World) (e : Ending) (W' : World) : Prop :=
  ∃ (ok : Bool) (s' : Nat) (wh' : List Int), e = .returned (.bool ok) ∧ Fix bw bs W W' ∧ Blk W' bw 3 (vals wh') ∧ Blk W' bs 3 #[.int .i64 s'] ∧ s' < 2 ^ H ∧ Sub s s' ∧
    (ok = true → StepT n H (adj xs left) c s wh wh') ∧ (ok = false → wh' = wh ∧ StepF n H (adj xs left) c s wh s')

/-- Between two rounds. -/
def StepR (bw bs n H left : Nat) (xs : List Comer) (s : Nat) (wh : List Int) (W4 : World) (pre : List Nat) (W' : World) : Prop :=
  Fix bw bs W4 W' ∧ Blk W' bw 3 (vals wh) ∧ ∃ sc : Nat, Blk W' bs 3 #[.int .i64 sc] ∧ StepI n H (adj xs left) s wh pre sc
/-- A round has returned. -/
def StepX (bw bs br n H left : Nat) (xs : List Comer) (c s : Nat) (wh : List Int) (W : World) (W' : World) : Prop :=
  Fix bw bs W W' ∧ Blk W' br 4 #[.bool true] ∧ ∃ (s' : Nat) (wh' : List Int), Blk W' bw 3 (vals wh') ∧ Blk W' bs 3 #[.int .i64 s'] ∧ s' < 2 ^ H ∧ Sub s s' ∧ StepT n H (adj xs left) c s wh wh'

theorem plan_hours_any (a : Addr) (c : Int) (w : World) :
    Calls Try.prog 109 #[.pointer (some a), .int .i64 c] w fun e w' => e = .returned (.func (.func 123) #[] #[.pointer (some ⟨w.heap.size, 0, none⟩), .pointer (some ⟨w.heap.size + 1, 0, none⟩)]) ∧
      (w.alloc (.cells #[.pointer (some a)] 84)).alloc (.cells #[.int .i64 c] 3) = w' := by
  go_enter Try.func109, Try.ntmps109
  go_wp2
  go_ret
  exact ⟨rfl, rfl⟩

theorem ret_end {bw bs n H left : Nat} {xs : List Comer} {c s s1 hq d3 B : Nat} {wh wh1 : List Int} {W Wr W6 : World} {b : Bool} (hbwlt : bw < W.heap.size) (hbslt : bs < W.heap.size) (_hB : W.heap.size + 1 < B)
    (hr : Fix bw bs W Wr) (F6 : Fix bw bs Wr W6) (hbw : Blk Wr bw 3 (vals wh)) {sc : Value} (hbs : Blk Wr bs 3 #[sc]) (B6 : Blk W6 bw 3 (vals wh1)) (S6 : Blk W6 bs 3 #[.int .i64 s1]) (M2 : Blk W6 (W.heap.size + 1) 4 #[.bool b]) (hne : bw ≠ bs)
    (hlt : s1 < 2 ^ H) (hsub : Sub s s1) (hT : StepT n H (adj xs left) c s wh (wh1.set hq c)) :
    KeepsFrom B Wr (((W6.drewN d3).setCell ⟨bw, hq, none⟩ (.int .i64 c)).setCell ⟨W.heap.size + 1, 0, none⟩ (.bool true)) ∧
    (Code.ret = Code.ret ∧ StepX bw bs (W.heap.size + 1) n H left xs c s wh W (((W6.drewN d3).setCell ⟨bw, hq, none⟩ (.int .i64 c)).setCell ⟨W.heap.size + 1, 0, none⟩ (.bool true))) := by
  have f1 : Fix bw bs Wr ((W6.drewN d3).setCell ⟨bw, hq, none⟩ (.int .i64 c)) := (F6.drewN d3).setCell (.inl rfl) _
  refine ⟨(keepsFrom_of_fix B f1 hbw hbs).trans ((KeepsOthers.setCell _ _ _).from _), rfl, (hr.trans f1).setCell (.inr (.inr (by simp))) _, ?_, s1, wh1.set hq c, ?_, ?_, hlt, hsub, hT⟩
  · exact ((M2.drewN d3).far (p := ⟨bw, hq, none⟩) (by simp; omega) _).set_ 0 _
  · have := (B6.drewN d3).set_ hq (.int .i64 c)
    rw [vals_set] at this
    exact this.far (by simp; omega) _
  · exact ((S6.drewN d3).far (p := ⟨bw, hq, none⟩) (fun e => hne e.symm) _).far (by simp; omega) _

set_option maxRecDepth 100000 in
set_option maxHeartbeats 4000000 in
theorem step_any (bpp bps bst bp bw bs b o n cc H left : Nat) (xs : List Comer) (hH : H ≤ 24) (hl : left < 16777216) (hhr : ∀ i, i < n → hrs xs i < 16777216) :
    ∀ (N : Nat) (W : World) (c s : Nat) (wh : List Int), unseen H s ≤ N → PC W bpp bps bst bp bw bs b o n cc H left xs → Blk W bw 3 (vals wh) → Blk W bs 3 #[.int .i64 s] → wh.length = H →
      (∀ (h : Nat) (x : Int), wh[h]? = some x → x = -1 ∨ ∃ i : Nat, x = i ∧ i < n) → s < 2 ^ H → c < n →
      Calls Try.prog 108 #[.int .i64 c, .pointer (some ⟨bpp, 0, none⟩), .pointer (some ⟨bps, 0, none⟩), .pointer (some ⟨bst, 0, none⟩)] W (StepPost bw bs n H left xs c s wh W) := by
  intro N
  induction N using Nat.strongRecOn with
  | _ N ih =>
  intro W c s wh hN hpc hbw hbs hwl hwv hs hc
  have IH := Lib.hid ih
  have PC0 := Lib.hid hpc
  have p0 := hpc.pp
  have l0 := World.block_lt_of_cell? W _ p0
  dsimp only at l0
  have l1 : bpp < W.heap.size + 1 := by omega
  have BW := Lib.hid hbw
  have BS := Lib.hid hbs
  have WV := Lib.hid hwv
  have HN := Lib.hid hN
  have HS := Lib.hid hs
  have HWL := Lib.hid hwl
  have HHR := Lib.hid hhr
  clear ih hpc hbw hbs hwv hN hs hwl hhr
  refine (callsIn_wide (n := 4)).1 (callsIn_of_wp_marks Try.func108 rfl trivial ?_ rfl)
  simp only [Try.ntmps108, List.size_toArray, List.length_cons, List.length_nil, Nat.reduceAdd, Nat.reduceSub, Array.replicate_succ, Array.replicate_zero, List.push_toArray, List.append_toArray, List.nil_append, List.cons_append]
  gi_wp2_with fail
  refine ⟨trivial, (callsIn_wide.2 (plan_hours_any _ _ _)).mono ?_⟩
  rintro e w' ⟨rfl, hw'⟩
  have hb1 : Blk w' W.heap.size 3 #[.int .i64 c] := by rw [← hw']; exact (((Blk.new _ _ _).alloc _).alloc _).alloc _
  have hb2 : Blk w' (W.heap.size + 1) 4 #[.bool false] := by
    rw [← hw']; have := Blk.new (W.alloc (.cells #[.int .i64 c] 3)) 4 #[.bool false]; rw [World.size_alloc] at this; exact (this.alloc _).alloc _
  have hb3 : Blk w' (W.heap.size + 1 + 1) 84 #[.pointer (some ⟨bp, 0, none⟩)] := by
    rw [← hw']; have := Blk.new ((W.alloc (.cells #[.int .i64 c] 3)).alloc (.cells #[.bool false] 4)) 84 #[.pointer (some ⟨bp, 0, none⟩)]; simp only [World.size_alloc] at this; exact this.alloc _
  have hb4 : Blk w' (W.heap.size + 1 + 1 + 1) 3 #[.int .i64 c] := by
    rw [← hw']; have := Blk.new (((W.alloc (.cells #[.int .i64 c] 3)).alloc (.cells #[.bool false] 4)).alloc (.cells #[.pointer (some ⟨bp, 0, none⟩)] 84)) 3 #[.int .i64 c]; simp only [World.size_alloc] at this; exact this
  have hsz : w'.heap.size = W.heap.size + 4 := by rw [← hw']; simp
  have hbel : Below W.heap.size W w' := by rw [← hw']; exact ((((Below.refl _ _).alloc (Nat.le_refl _) _).alloc (by simp) _).alloc (by simp; omega) _).alloc (by simp; omega) _
  clear hw'
  rename World => W4
  gi_wp2_with fail
  have PC4 := (PC0.out.fix (Fix.of_below hbel))
  have hFb : Fix bw bs W W4 := Fix.of_below hbel
  have hbwlt := BW.out.lt
  have hbslt := BS.out.lt
  have Hsz := Lib.hid hsz
  have Hbel := Lib.hid hbel
  have Hfb := Lib.hid hFb
  have PC4' := Lib.hid PC4
  have hseq := hours1_stops 3 W4 (W.heap.size + 1 + 1) (W.heap.size + 1 + 1 + 1) bp bw bs c b o n cc H (hrs xs c) left (hb3.cell 0) (hb4.cell 0) PC4.h0 PC4.h1 PC4.h3 (PC4.hx c hc) hc hH (HHR.out c hc) hl
    (by omega) (by omega) (by omega) (by omega) PC4.n7 PC4.n8 PC4.n9 PC4.n10
  have HSQ := Lib.hid hseq
  clear hseq PC4 hFb hbel hsz
  refine wpIn_rangeFunc_ownG (α := Hr H (hrs xs c &&& left)) (F := Fence.wide) (n := 4) rfl (by omega) (gf := 123) (lb := #[.pointer (some ⟨W.heap.size + 1 + 1, 0, none⟩), .pointer (some ⟨W.heap.size + 1 + 1 + 1, 0, none⟩)]) rfl trivial
    (enters_of Try.func123 (by kernel_rfl) rfl) HSQ.out (fun h k => FixTo.trans h k) ?hKb (Below.refl _ _) (fun _ => rfl)
    (fun pre W' => StepR bw bs n H left xs s wh W4 (pre.map (·.1)) W') (fun cde _ W' => cde = .ret ∧ StepX bw bs (W.heap.size + 1) n H left xs c s wh W W') ?hI ?hIx ?h0 (fun x => { tmps := #[.int .i64 c, .pointer (some ⟨bpp, 0, none⟩), .pointer (some ⟨bps, 0, none⟩), .pointer (some ⟨bst, 0, none⟩), .pointer (some ⟨W.heap.size, 0, none⟩), .pointer (some ⟨W.heap.size + 1, 0, none⟩), .int .i64 x.1, .pointer (some ⟨bp, 0, none⟩), .int .i64 c, .func (.func 123) #[] #[.pointer (some ⟨W.heap.size + 1 + 1, 0, none⟩), .pointer (some ⟨W.heap.size + 1 + 1 + 1, 0, none⟩)], .int .i64 x.1, undef, undef, undef, undef, undef, undef, undef, undef, undef, undef, undef, undef, undef, undef, undef, undef, undef, undef, undef, undef, undef, undef, undef, undef, undef, undef, undef, undef, undef, undef, undef, undef, undef, undef, undef, undef, undef, undef, undef, undef], defers := [] }) ?assign ?body ?done ?stop
  case assign =>
    intro l x Wa K hK
    unfold encHr
    rw [zip1]
    simp only [List.setIfInBounds_toArray, List.set_cons_zero, List.set_cons_succ]
    gi_wp2
    exact hK
  case hKb =>
    intro Wb l o o' hl ho _ _
    exact FixTo.putObj _ _ _ _ (by omega) _
  case hI =>
    rintro pre A B row ⟨hfx, hbw, sc, hbs, hi⟩ hg hr
    have hr1 : ∀ r, row = some r → ∃ o : Obj, A.heap[r]? = some o ∧ o.isCells = false := fun r e => (hr r e).2
    exact ⟨hfx.own hg (fun r e => (hr r e).1), hbw.own hg hr1, sc, hbs.own hg hr1, hi⟩
  case hIx =>
    rintro cde pre A B row ⟨e, hfx, hbr, s2, wh2, hbw, hbs, rest⟩ hg hr
    have hr1 : ∀ r, row = some r → ∃ o : Obj, A.heap[r]? = some o ∧ o.isCells = false := fun r e => (hr r e).2
    have hWn := Hbel.out.size
    exact ⟨e, hfx.own hg (fun r e => Nat.le_trans hWn (hr r e).1), hbr.own hg hr1, s2, wh2, hbw.own hg hr1, hbs.own hg hr1, rest⟩
  case h0 => exact ⟨Fix.refl _ _ _, BW.out.ext Hbel.out, s, BS.out.ext Hbel.out, StepI.start HS.out⟩
  case body =>
    rintro l pre x Wr ⟨hfx, hbw, sc, hbs, hi⟩ _
    have HB1 := Lib.hid (hfx.blk hb1 (by omega) (by omega))
    have HB2 := Lib.hid (hfx.blk hb2 (by omega) (by omega))
    have PCr := PC4'.out.fix hfx
    have p0 := PCr.pp
    have p1 := PCr.ps
    have p2 := PCr.st
    have p3 := PCr.h0
    have p4 := PCr.h2
    have c0 : Wr.cell? ⟨bs, 0, none⟩ = some (.int .i64 sc) := hbs.cell 0
    have f0 := hbs.frozen 0
    have hxH := x.2.1
    have Hx2 := Lib.hid x.2.2
    have HI := Lib.hid hi
    have hsc : sc < 16777216 := Nat.lt_of_lt_of_le hi.lt (Nat.pow_le_pow_right (by decide) hH)
    have Hb := Lib.hid (bit64 sc x.1 (by omega))
    have Hfx := Lib.hid hfx
    have HBW := Lib.hid hbw
    have HBS := Lib.hid hbs
    have HPC := Lib.hid PCr
    clear hfx hbw hbs hi PCr
    obtain ⟨hq, hh⟩ : ∃ hq, x.1 = hq := ⟨_, rfl⟩
    rw [hh] at Hb hxH Hx2 ⊢
    cases ht : sc.testBit hq with
    | true =>
      have hbit : (bits .and .i64 ((sc : Int) / 2 ^ hq) 1 == 1) = true := Hb.out.trans ht
      gi_wp2
      exact ⟨KeepsFrom.refl _ _, FixTo.refl _ _ _ _, Hfx.out, HBW.out, sc, HBS.out, by rw [List.map_append, List.map_cons, List.map_nil, hh]; exact HI.out.again ht⟩
    | false =>
      have hbit : (bits .and .i64 ((sc : Int) / 2 ^ hq) 1 == 1) = false := Hb.out.trans ht
      gi_wp2
      refine wpIn_region_quiet_tail (Open.round l) 7 (C := fun w' => ∃ n, w' = Wr.drewN n) (by kernel_rfl) (by kernel_rfl) (by kernel_rfl) ⟨1, rfl⟩ ?_
      simp only [List.take_succ_cons, List.take_zero, List.drop_succ_cons, List.drop_zero]
      repeat (go_big_quiet_step (fail))
      refine wpQuiet_nil ?_
      rintro _ ⟨d, rfl⟩
      gi_wp2
      have ev := orbit sc hq hsc (by omega)
      rw [ev]
      have hbs5 : Blk ((Wr.drewN d).setCell ⟨bs, 0, none⟩ (.int .i64 ((sc ||| 2 ^ hq : Nat) : Int))) bs 3 #[.int .i64 ((sc ||| 2 ^ hq : Nat) : Int)] := (HBS.out.drewN d).set_ 0 _
      have hbw5 : Blk ((Wr.drewN d).setCell ⟨bs, 0, none⟩ (.int .i64 ((sc ||| 2 ^ hq : Nat) : Int))) bw 3 (vals wh) := (HBW.out.drewN d).far HPC.out.n11 _
      have hf5 : Fix bw bs Wr ((Wr.drewN d).setCell ⟨bs, 0, none⟩ (.int .i64 ((sc ||| 2 ^ hq : Nat) : Int))) := ((Fix.refl bw bs Wr).drewN d).setCell (.inr (.inl rfl)) _
      generalize (Wr.drewN d).setCell ⟨bs, 0, none⟩ (.int .i64 ((sc ||| 2 ^ hq : Nat) : Int)) = W5 at hbs5 hbw5 hf5 ⊢
      have hlt1 : sc ||| 2 ^ hq < 2 ^ H := put_lt HI.out.lt hxH
      have hsub1 : Sub s (sc ||| 2 ^ hq) := HI.out.sub.trans (Sub.or _ _)
      have hun : unseen H (sc ||| 2 ^ hq) < N := Nat.lt_of_lt_of_le (Nat.lt_of_lt_of_le (unseen_lt (Sub.or sc (2 ^ hq)) hxH ht put_bit) (unseen_le HI.out.sub)) HN.out
      obtain ⟨s1, hs1⟩ : ∃ s1, sc ||| 2 ^ hq = s1 := ⟨_, rfl⟩
      have Hs1 := Lib.hid hs1
      rw [hs1] at hbs5 hlt1 hsub1 hun ⊢
      have HPC5 := Lib.hid (HPC.out.fix hf5)
      clear p0 p1 p2 p3 p4 c0 f0 hbit ev hs1
      have p0 := HPC5.out.pp
      have p1 := HPC5.out.ps
      have p2 := HPC5.out.st
      have p4 := HPC5.out.h2
      have Hbs5 := Lib.hid hbs5
      have Hbw5 := Lib.hid hbw5
      have Hf5 := Lib.hid hf5
      have Hlt1 := Lib.hid hlt1
      have Hsub1 := Lib.hid hsub1
      have Hun := Lib.hid hun
      have hwlt : hq < wh.length := by have := HWL.out; omega
      obtain ⟨a, ha⟩ : ∃ a, wh[hq]? = some a := ⟨_, List.getElem?_eq_getElem hwlt⟩
      have q0 : W5.cell? ⟨bw, hq, none⟩ = some (.int .i64 a) := by rw [hbw5.cell hq, vals_get, ha]; rfl
      have q1 := hbw5.frozen hq
      have Ha := Lib.hid ha
      clear hbs5 hbw5 hf5 hlt1 hsub1 hun ha hwlt
      rcases WV.out hq a Ha.out with rfl | ⟨i, rfl, hi⟩
      · refine wpIn_region_quiet_tail (Open.round l) 17 (C := fun w' => ∃ n, w' = W5.drewN n) (by kernel_rfl) (by kernel_rfl) (by kernel_rfl) ⟨1, rfl⟩ ?_
        simp only [List.take_succ_cons, List.take_zero, List.drop_succ_cons, List.drop_zero]
        repeat (go_big_quiet_step (fail))
        refine wpQuiet_nil ?_
        rintro _ ⟨d2, rfl⟩
        gi_wp2
        refine ⟨fun _ h => (by cases h), ?_⟩
        have F6 := Hf5.out.drewN d2
        have PC6 := HPC5.out.fix ((Fix.refl bw bs W5).drewN d2)
        have B6 := Hbw5.out.drewN d2
        have S6 := Hbs5.out.drewN d2
        have m1 := F6.blk HB1.out (by omega) (by omega)
        have m2 := F6.blk HB2.out (by omega) (by omega)
        generalize W5.drewN d2 = W6 at F6 PC6 B6 S6 m1 m2 ⊢
        have q0 : W6.cell? ⟨bw, hq, none⟩ = some (.int .i64 (-1)) := by rw [B6.cell hq, vals_get, Ha.out]; rfl
        have q1 := B6.frozen hq
        have p0 := PC6.pp
        have p4 := PC6.h2
        have m1c : W6.cell? ⟨W.heap.size, 0, none⟩ = some (.int .i64 c) := m1.cell 0
        have m2c : W6.cell? ⟨W.heap.size + 1, 0, none⟩ = some (.bool false) := m2.cell 0
        have m2f := m2.frozen 0
        have hT := StepT.free (nc := n) (H := H) (adj := adj xs left) HI.out.sub ht Ha.out hc Hx2.out
        have HTT := Lib.hid hT
        have M2 := Lib.hid m2
        have B6' := Lib.hid B6
        have S6' := Lib.hid S6
        have F6' := Lib.hid F6
        have N11 := Lib.hid PC6.n11
        clear hT m1 m2 B6 S6 F6 PC6
        gi_wp2
        refine wpIn_region_quiet_tail (Open.round l) 7 (C := fun w' => ∃ n, w' = W6.drewN n) (by kernel_rfl) (by kernel_rfl) (by kernel_rfl) ⟨1, rfl⟩ ?_
        simp only [List.take_succ_cons, List.take_zero, List.drop_succ_cons, List.drop_zero]
        repeat (go_big_quiet_step (fail))
        refine wpQuiet_nil ?_
        rintro _ ⟨d3, rfl⟩
        gi_wp2
        exact ret_end hbwlt hbslt (by have := Hsz.out; omega) (Hfb.out.trans Hfx.out) F6'.out HBW.out HBS.out B6'.out S6'.out M2.out N11.out Hlt1.out Hsub1.out HTT.out
      · have hne : ((i : Int) == -1) = false := by simp
        refine wpIn_region_quiet_tail (Open.round l) 17 (C := fun w' => ∃ n, w' = W5.drewN n) (by kernel_rfl) (by kernel_rfl) (by kernel_rfl) ⟨1, rfl⟩ ?_
        simp only [List.take_succ_cons, List.take_zero, List.drop_succ_cons, List.drop_zero]
        repeat (go_big_quiet_step (fail))
        refine wpQuiet_nil ?_
        rintro _ ⟨d2, rfl⟩
        gi_wp2_with fail
        have F6 := Hf5.out.drewN d2
        have PC6 := HPC5.out.fix ((Fix.refl bw bs W5).drewN d2)
        have B6 := Hbw5.out.drewN d2
        have S6 := Hbs5.out.drewN d2
        generalize W5.drewN d2 = W6 at F6 PC6 B6 S6 ⊢
        refine ⟨trivial, (CallsIn.inRound l (callsIn_wide.2 (IH.out _ Hun.out W6 i s1 wh (Nat.le_refl _) PC6 B6 S6 HWL.out WV.out Hlt1.out hi))).mono ?_⟩
        rintro e W7 ⟨ok, s2, wh2, rfl, f7, b7, t7, hlt2, hsub2, hyes, hno⟩
        cases ok with
        | false =>
          obtain ⟨rfl, hF⟩ := hno rfl
          have Hend := Lib.hid (F6.trans f7)
          have HbW := Lib.hid b7
          have HbS := Lib.hid t7
          have HFF := Lib.hid hF
          clear f7 b7 t7 hyes hno hF hlt2 hsub2 F6 PC6 B6 S6
          gi_wp2
          have hMore := HI.out.more Ha.out hi (by rw [Hs1.out]; exact HFF.out)
          exact ⟨keepsFrom_of_fix _ Hend.out HBW.out HBS.out, Hend.out.to _, Hfx.out.trans Hend.out, HbW.out, s2, HbS.out, by rw [List.map_append, List.map_cons, List.map_nil, hh]; exact hMore⟩
        | true =>
          have hT := hyes rfl
          have F7 := F6.trans f7
          have PC7 := PC6.fix f7
          have m1 := F7.blk HB1.out (by omega) (by omega)
          have m2 := F7.blk HB2.out (by omega) (by omega)
          have hk : wh2[hq]? = some (i : Int) := (hT.kept hq (by rw [← Hs1.out]; exact put_bit)).trans Ha.out
          have q0 : W7.cell? ⟨bw, hq, none⟩ = some (.int .i64 i) := by rw [b7.cell hq, vals_get, hk]; rfl
          have q1 := b7.frozen hq
          have p0 := PC7.pp
          have p4 := PC7.h2
          have m1c : W7.cell? ⟨W.heap.size, 0, none⟩ = some (.int .i64 c) := m1.cell 0
          have m2c : W7.cell? ⟨W.heap.size + 1, 0, none⟩ = some (.bool false) := m2.cell 0
          have m2f := m2.frozen 0
          have hTM := StepT.moved (H := H) (adj := adj xs left) HI.out.sub ht Ha.out hc Hx2.out (by rw [Hs1.out]; exact hT)
          have HTT := Lib.hid hTM
          have M2 := Lib.hid m2
          have B7' := Lib.hid b7
          have S7' := Lib.hid t7
          have F7' := Lib.hid F7
          have N11 := Lib.hid PC7.n11
          have Hlt2 := Lib.hid hlt2
          have Hsub2 := Lib.hid hsub2
          clear hT hk hTM m1 m2 b7 t7 F7 PC7 f7 F6 PC6 B6 S6 hyes hno hlt2 hsub2
          gi_wp2
          refine wpIn_region_quiet_tail (Open.round l) 7 (C := fun w' => ∃ n, w' = W7.drewN n) (by kernel_rfl) (by kernel_rfl) (by kernel_rfl) ⟨1, rfl⟩ ?_
          simp only [List.take_succ_cons, List.take_zero, List.drop_succ_cons, List.drop_zero]
          repeat (go_big_quiet_step (fail))
          refine wpQuiet_nil ?_
          rintro _ ⟨d3, rfl⟩
          gi_wp2
          exact ret_end hbwlt hbslt (by have := Hsz.out; omega) (Hfb.out.trans Hfx.out) F7'.out HBW.out HBS.out B7'.out S7'.out M2.out N11.out Hlt2.out (Hsub1.out.trans Hsub2.out) HTT.out
  case done =>
    rintro D ys Wd hD hS ⟨hfx, hbw, sc, hbs, hi⟩ hK
    have hb2d := hfx.blk hb2 (by omega) (by omega)
    have m2c : Wd.cell? ⟨W.heap.size + 1, 0, none⟩ = some (.bool false) := hb2d.cell 0
    have m2f := hb2d.frozen 0
    have HK := Lib.hid ((KeepsOthers.setCell Wd ⟨W.heap.size + 1, 0, none⟩ (.bool false)).same D _ hK rfl)
    have hres : (((Wd.setCell ⟨W.heap.size + 1, 0, none⟩ (.bool false)).putObj D (.deferred none)).cell? ⟨W.heap.size + 1, 0, none⟩) = some (.bool false) :=
      (cell_kept (a := ⟨W.heap.size + 1, 0, none⟩) ((hb2d.set_ 0 (.bool false)).cell 0) (grownBy_putObj' _ D (.deferred none)) (fun r e => by cases e; exact ⟨_, HK.out, rfl⟩))
    have HB := Lib.hid hbw
    have HSs := Lib.hid hbs
    have HFX := Lib.hid hfx
    have HII := Lib.hid hi
    have hDn := Hsz.out
    have HDw := Lib.hid (show D ≠ bw ∧ D ≠ bs ∧ W.heap.size ≤ D from by omega)
    clear hbw hbs hfx hi hK hDn
    gi_wp2
    refine ⟨by simp, .inl ⟨_, _, rfl, run_takeDeferred HK.out, ?_⟩⟩
    refine ⟨.bool false, ?_, ?_⟩
    · simp [results, Try.results108, go_sem, hres]
    · refine ⟨false, sc, wh, rfl, ?_, ?_, ?_, HII.out.lt, HII.out.sub, (fun h => by cases h), fun _ => ⟨rfl, HII.out.done (fun h hh ha => ?_)⟩⟩
      · exact ((Hfb.out.trans HFX.out).setCell (.inr (.inr (by simp))) _).putObj HDw.out.2.2 _
      · exact (HB.out.far (by simp; omega) _).putObj (fun e => HDw.out.1 e.symm) _
      · exact (HSs.out.far (by simp; omega) _).putObj (fun e => HDw.out.2.1 e.symm) _
      · rw [hS]; exact List.mem_filter.2 ⟨List.mem_range.2 hh, ha⟩
  case stop =>
    rintro D cde pre Wd hD _ ⟨rfl, hfx, hbr, s2, wh2, hbw, hbs, hlt2, hsub2, hT⟩ hK
    have hres : ((Wd.putObj D (.deferred none)).cell? ⟨W.heap.size + 1, 0, none⟩) = some (.bool true) :=
      (cell_kept (a := ⟨W.heap.size + 1, 0, none⟩) (hbr.cell 0) (grownBy_putObj' _ D (.deferred none)) (fun r e => by cases e; exact ⟨_, hK, rfl⟩))
    have HK := Lib.hid hK
    have HB := Lib.hid hbw
    have HSs := Lib.hid hbs
    have HFX := Lib.hid hfx
    have HT := Lib.hid hT
    have hDn := Hsz.out
    have HDw := Lib.hid (show D ≠ bw ∧ D ≠ bs ∧ W.heap.size ≤ D from by omega)
    clear hbw hbs hfx hT hK hDn hbr
    gi_wp2
    refine ⟨by simp, .inl ⟨_, _, rfl, run_takeDeferred HK.out, ?_⟩⟩
    refine ⟨.bool true, ?_, ?_⟩
    · simp [results, Try.results108, go_sem, hres]
    · refine ⟨true, s2, wh2, rfl, ?_, ?_, ?_, hlt2, hsub2, fun _ => HT.out, (fun h => by cases h)⟩
      · exact HFX.out.putObj HDw.out.2.2 _
      · exact HB.out.putObj (fun e => HDw.out.1 e.symm) _
      · exact HSs.out.putObj (fun e => HDw.out.2.1 e.symm) _
end Go.Proofs.Ytdhhneflhmkonaa

/- The mill's plan: 'give': one more hour for a comer. -/
namespace Go.Proofs.Ytdhhneflhmkonaa
open Go.RowKit Go.Shelf

/-- A plan that stands: what a search leaves as it is. -/
structure Plan (W : World) (bp bw b o n cc H left : Nat) (xs : List Comer) : Prop where
  h0 : W.cell? ⟨bp, 0, none⟩ = some (.int .i64 H)
  h1 : W.cell? ⟨bp, 1, none⟩ = some (.slice (some ⟨b, o, none⟩) n cc)
  h2 : W.cell? ⟨bp, 2, none⟩ = some (.slice (some ⟨bw, 0, none⟩) H H)
  h3 : W.cell? ⟨bp, 3, none⟩ = some (.int .i64 left)
  hx : ∀ i, i < n → W.cell? ⟨b, o + i * 3 + 1, none⟩ = some (.int .i64 (hrs xs i : Nat))
  n1 : bp ≠ bw
  n2 : b ≠ bw

theorem Plan.fix {W W' : World} {bp bw bs b o n cc H left : Nat} {xs : List Comer} (h : Plan W bp bw b o n cc H left xs) (f : Fix bw bs W W') (e1 : bp ≠ bs) (e2 : b ≠ bs) : Plan W' bp bw b o n cc H left xs :=
  ⟨f.cell h.h0 h.n1 e1, f.cell h.h1 h.n1 e1, f.cell h.h2 h.n1 e1, f.cell h.h3 h.n1 e1, fun i hi => f.cell (h.hx i hi) h.n2 e2, h.n1, h.n2⟩
theorem Plan.ext {W W' : World} {bp bw b o n cc H left : Nat} {xs : List Comer} (h : Plan W bp bw b o n cc H left xs) (f : Below W.heap.size W W') : Plan W' bp bw b o n cc H left xs :=
  ⟨(f.cell (World.block_lt_of_cell? W _ h.h0)).trans h.h0, (f.cell (World.block_lt_of_cell? W _ h.h1)).trans h.h1, (f.cell (World.block_lt_of_cell? W _ h.h2)).trans h.h2, (f.cell (World.block_lt_of_cell? W _ h.h3)).trans h.h3,
   fun i hi => (f.cell (World.block_lt_of_cell? W _ (h.hx i hi))).trans (h.hx i hi), h.n1, h.n2⟩
theorem Plan.far {W : World} {bp bw b o n cc H left : Nat} {xs : List Comer} (h : Plan W bp bw b o n cc H left xs) {p : Addr} (e0 : bp ≠ p.block) (e1 : b ≠ p.block) (u : Value) : Plan (W.setCell p u) bp bw b o n cc H left xs := by
  have k : ∀ a : Addr, a.block ≠ p.block → (W.setCell p u).cell? a = W.cell? a := fun a ha => World.cell?_of_block (Below.heap_setCell _ _ _ _ ha)
  exact ⟨(k _ e0).trans h.h0, (k _ e0).trans h.h1, (k _ e0).trans h.h2, (k _ e0).trans h.h3, fun i hi => (k _ e1).trans (h.hx i hi), h.n1, h.n2⟩

set_option maxRecDepth 100000 in
theorem give_any (bp bw bs b o n cc H left : Nat) (xs : List Comer) (hH : H ≤ 24) (hl : left < 16777216) (hhr : ∀ i, i < n → hrs xs i < 16777216) 
    (W : World) (c s : Nat) (wh : List Int) (hp : Plan W bp bw b o n cc H left xs) (e1 : bp ≠ bs) (e2 : b ≠ bs) (e3 : bw ≠ bs) (hbw : Blk W bw 3 (vals wh)) (hbs : Blk W bs 3 #[.int .i64 s]) (hwl : wh.length = H)
    (hwv : ∀ (h : Nat) (x : Int), wh[h]? = some x → x = -1 ∨ ∃ i : Nat, x = i ∧ i < n) (hs : s < 2 ^ H) (hc : c < n) :
    Calls Try.prog 100 #[.pointer (some ⟨bp, 0, none⟩), .int .i64 c, .pointer (some ⟨bs, 0, none⟩)] W (StepPost bw bs n H left xs c s wh W) := by
  have hbwlt := hbw.lt
  have hbslt := hbs.lt
  have l1 : bp < W.heap.size := World.block_lt_of_cell? W _ hp.h0
  have l2 : b < W.heap.size := World.block_lt_of_cell? W _ (hp.hx c hc)
  go_enter Try.func100, Try.ntmps100
  go_wp2_with fail
  generalize hW1 : W.alloc (.cells #[.pointer (some ⟨bp, 0, none⟩)] 84) = W1
  obtain ⟨g1, c1⟩ := box1 hW1
  rw [← boxSize hW1]
  generalize hW2 : W1.alloc (.cells #[.pointer (some ⟨bs, 0, none⟩)] 111) = W2
  obtain ⟨g2, c2⟩ := box1 hW2
  rw [← boxSize hW2]
  generalize hW3 : W2.alloc (.cells #[.func (.func 108) #[] #[.pointer (some ⟨W.heap.size, 0, none⟩), .pointer (some ⟨W1.heap.size, 0, none⟩), .pointer (some ⟨W2.heap.size, 0, none⟩)]] 120) = W3
  obtain ⟨g3, c3⟩ := box1 hW3
  have s1 := boxSize hW1
  have s2 := boxSize hW2
  have hg := extTrans g1 (extTrans g2 g3)
  have hn1 := hp.n1
  have hn2 := hp.n2
  have C1 := (extTrans g2 g3).cell (p := ⟨W.heap.size, 0, none⟩) (by simp; omega) |>.trans c1
  have C2 := g3.cell (p := ⟨W1.heap.size, 0, none⟩) (by simp; omega) |>.trans c2
  have hp3 := hp.ext hg
  have hPC : PC W3 W.heap.size W1.heap.size W2.heap.size bp bw bs b o n cc H left xs :=
    ⟨C1, C2, c3, hp3.h0, hp3.h1, hp3.h2, hp3.h3, hp3.hx, by omega, by omega, by omega, by omega, by omega, by omega, hn1, e1, hn2, e2, e3⟩
  have hb1 := hbw.ext hg
  have hb2 := hbs.ext hg
  have HF := Lib.hid (Fix.of_below (bw := bw) (bs := bs) hg)
  clear hW1 hW2 hW3 c1 c2 c3 g1 g2 g3 s1 s2 hp hbw hbs hn1 hn2 hbwlt hbslt l1 l2 hg C1 C2 hp3
  refine (step_any W.heap.size W1.heap.size W2.heap.size bp bw bs b o n cc H left xs hH hl hhr _ W3 c s wh (Nat.le_refl _) hPC hb1 hb2 hwl hwv hs hc).mono ?_
  rintro e w' ⟨ok, s2, wh2, rfl, f2, rest⟩
  have hR := Lib.hid rest
  have hF2 := Lib.hid f2
  clear rest f2 hPC hb1 hb2
  go_wp2_with fail
  go_ret
  exact ⟨ok, s2, wh2, rfl, HF.out.trans hF2.out, hR.out⟩
end Go.Proofs.Ytdhhneflhmkonaa

/- Plain: whose each hour is; which demands can be met; a search that fails shows that they cannot. -/
namespace Go.Proofs.Ytdhhneflhmkonaa

/-- Each hour is nobody's, or that of one who can come then. -/
structure Asg (n H : Nat) (adj : Nat → Nat → Bool) (wh : List Int) : Prop where
  len : wh.length = H
  ok : ∀ (h : Nat) (x : Int), wh[h]? = some x → x = -1 ∨ ∃ i : Nat, x = i ∧ i < n ∧ adj i h = true

/-- The demands can be met. -/
def Feas (n H : Nat) (adj : Nat → Nat → Bool) (d : Nat → Int) : Prop := ∃ wh, Asg n H adj wh ∧ ∀ i, i < n → d i ≤ wh.count (i : Int)

theorem Asg.free (n H : Nat) (adj : Nat → Nat → Bool) : Asg n H adj (List.replicate H (-1)) := by
  refine ⟨by simp, fun h x hx => .inl ?_⟩
  rw [List.getElem?_replicate] at hx
  split at hx <;> simp at hx
  exact hx.symm
theorem count_free (H i : Nat) : (List.replicate H (-1 : Int)).count (i : Int) = 0 := by
  rw [List.count_replicate]; simp

section
variable {n H : Nat} {adj : Nat → Nat → Bool} {wh wh' : List Int} {c s s' : Nat}
theorem Asg.weak (h : Asg n H adj wh) (k : Nat) (x : Int) (hx : wh[k]? = some x) : x = -1 ∨ ∃ i : Nat, x = i ∧ i < n := (h.ok k x hx).imp id (fun ⟨i, e, l, _⟩ => ⟨i, e, l⟩)
theorem Asg.step (h : Asg n H adj wh) (t : StepT n H adj c s wh wh') : Asg n H adj wh' :=
  ⟨t.len.trans h.len, fun k x hx => by
    rcases t.right k x hx with h1 | ⟨i, e, l, a⟩
    · exact h.ok k x h1
    · exact .inr ⟨i, e, l, a⟩⟩

/-! ### Counting -/
def inS (n : Nat) (S : Nat → Bool) (x : Int) : Bool := decide (0 ≤ x) && decide (x < n) && S x.toNat
def sumS (n : Nat) (S : Nat → Bool) (f : Nat → Nat) : Nat := (((List.range n).filter S).map f).sum

theorem sumS_succ (n : Nat) (S : Nat → Bool) (f : Nat → Nat) : sumS (n + 1) S f = sumS n S f + if S n then f n else 0 := by
  unfold sumS
  rw [List.range_succ, List.filter_append, List.map_append, List.sum_append]
  cases h : S n <;> simp [h]
theorem sumS_zero (n : Nat) (S : Nat → Bool) : sumS n S (fun _ => 0) = 0 := by
  induction n with
  | zero => rfl
  | succ n ih => rw [sumS_succ, ih]; split <;> rfl
theorem sumS_add (n : Nat) (S : Nat → Bool) (f g : Nat → Nat) : sumS n S (fun i => f i + g i) = sumS n S f + sumS n S g := by
  induction n with
  | zero => rfl
  | succ n ih => rw [sumS_succ, sumS_succ, sumS_succ, ih]; split <;> omega
theorem sumS_le {n : Nat} {S : Nat → Bool} {f g : Nat → Nat} (h : ∀ i, i < n → S i = true → f i ≤ g i) : sumS n S f ≤ sumS n S g := by
  induction n with
  | zero => exact Nat.le_refl _
  | succ n ih =>
    rw [sumS_succ, sumS_succ]
    have := ih (fun i hi => h i (by omega))
    split
    · rename_i hS; have := h n (by omega) hS; omega
    · omega
theorem sumS_lt {n : Nat} {S : Nat → Bool} {f g : Nat → Nat} (h : ∀ i, i < n → S i = true → f i ≤ g i) {c : Nat} (hc : c < n) (hS : S c = true) (hl : f c < g c) : sumS n S f < sumS n S g := by
  induction n with
  | zero => omega
  | succ n ih =>
    rw [sumS_succ, sumS_succ]
    by_cases e : c = n
    · subst e
      have := sumS_le (n := c) (S := S) (f := f) (g := g) (fun i hi => h i (by omega))
      rw [if_pos hS, if_pos hS]; omega
    · have := ih (fun i hi => h i (by omega)) (by omega)
      split
      · rename_i hS'; have := h n (by omega) hS'; omega
      · omega
theorem sumS_one (n : Nat) (S : Nat → Bool) (x : Int) : sumS n S (fun j => if x = (j : Int) then 1 else 0) = if inS n S x then 1 else 0 := by
  induction n with
  | zero => simp [sumS, inS]; omega
  | succ n ih =>
    rw [sumS_succ, ih]
    by_cases e : x = n
    · subst e
      have e1 : inS n S (n : Int) = false := by simp [inS]
      rw [e1]
      cases hS : S n
      · simp [inS, hS]
      · simp [inS, hS]; omega
    · have e2 : inS (n + 1) S x = inS n S x := by
        unfold inS
        congr 2
        simp; omega
      rw [e2, if_neg e]
      simp
theorem sum_count (n : Nat) (S : Nat → Bool) (wh : List Int) : sumS n S (fun j => wh.count (j : Int)) = wh.countP (inS n S) := by
  induction wh with
  | nil => simpa using sumS_zero n S
  | cons x wh ih =>
    have : (fun j : Nat => (x :: wh).count (j : Int)) = fun j : Nat => wh.count (j : Int) + if x = (j : Int) then 1 else 0 := by
      funext j; rw [List.count_cons]; simp
    rw [this, sumS_add, ih, sumS_one, List.countP_cons]
theorem countP_range (p : Int → Bool) (wh : List Int) (x0 : Int) : wh.countP p = ((List.range wh.length).filter (fun h => p (wh.getD h x0))).length := by
  have e : wh = (List.range wh.length).map (fun h => wh.getD h x0) := by
    apply List.ext_getElem?
    intro i
    rw [List.getElem?_map]
    by_cases hi : i < wh.length
    · rw [List.getElem?_range hi]; simp [hi]
    · rw [List.getElem?_eq_none (by omega), List.getElem?_eq_none (by simp; omega)]; rfl
  conv => lhs; rw [e]
  rw [List.countP_map, List.countP_eq_length_filter]
  rfl
theorem filter_le_on {α : Type} {p q : α → Bool} {l : List α} (h : ∀ x, x ∈ l → p x = true → q x = true) : (l.filter p).length ≤ (l.filter q).length := by
  induction l with
  | nil => simp
  | cons z l ih =>
    have := ih (fun x hx => h x (List.mem_cons_of_mem _ hx))
    simp only [List.filter_cons]
    cases hpz : p z
    · cases hqz : q z <;> simp <;> omega
    · rw [h z List.mem_cons_self hpz]; simp; omega

/-- How many hours below H a set has. -/
def nbits (H s : Nat) : Nat := ((List.range H).filter (fun h => s.testBit h)).length

/-- The comers all of whose hours are in a set. -/
def inside (H : Nat) (adj : Nat → Nat → Bool) (s j : Nat) : Bool := (List.range H).all fun h => !adj j h || s.testBit h
theorem inside_iff {j : Nat} : inside H adj s j = true ↔ ∀ h, h < H → adj j h = true → s.testBit h = true := by
  unfold inside
  rw [List.all_eq_true]
  constructor
  · intro h k hk ha; have := h k (List.mem_range.2 hk); rw [ha] at this; simpa using this
  · intro h k hk
    cases ha : adj j k
    · rfl
    · rw [h k (List.mem_range.1 hk) ha]; rfl

/-- Those who have all their hours in a set have no more of them than the set has. -/
theorem held_le (h : Asg n H adj wh) (s : Nat) : sumS n (inside H adj s) (fun j => wh.count (j : Int)) ≤ nbits H s := by
  rw [sum_count, countP_range _ _ (-1), h.len]
  refine filter_le_on fun k hk hx => ?_
  have hk' : k < wh.length := by rw [h.len]; exact List.mem_range.1 hk
  have e : wh[k]? = some (wh.getD k (-1)) := by rw [List.getD_eq_getElem?_getD, List.getElem?_eq_getElem hk']; rfl
  rcases h.ok k _ e with e1 | ⟨i, e1, hi, ha⟩
  · rw [e1] at hx; simp [inS] at hx
  · rw [e1] at hx
    simp [inS] at hx
    exact inside_iff.1 hx.2 k (by rw [← h.len]; exact hk') ha
/-- A search that failed: all the hours that it tried are held by those who can come at no others. -/
theorem tried_le (h : Asg n H adj wh) (f : StepF n H adj c 0 wh s) : nbits H s ≤ sumS n (inside H adj s) (fun j => wh.count (j : Int)) := by
  rw [sum_count, countP_range _ _ (-1), h.len]
  refine filter_le_on fun k hk hx => ?_
  obtain ⟨i, e, hi, ha⟩ := f.shut k hx (by simp)
  rw [List.getD_eq_getElem?_getD, e]
  simp [inS, hi]
  exact inside_iff.2 ha

theorem StepF.no {d : Nat → Int} (h : Asg n H adj wh) (f : StepF n H adj c 0 wh s) (hd : ∀ i, i < n → (wh.count (i : Int) : Int) ≤ max (d i) 0) (hc : c < n) (hl : (wh.count (c : Int) : Int) < d c) : ¬ Feas n H adj d := by
  rintro ⟨wh2, h2, hc2⟩
  have a1 := held_le h2 s
  have a2 := tried_le h f
  have a3 : sumS n (inside H adj s) (fun j => wh.count (j : Int)) < sumS n (inside H adj s) (fun j => wh2.count (j : Int)) :=
    sumS_lt (fun i hi _ => by have := hd i hi; have := hc2 i hi; omega) hc (inside_iff.2 f.all) (by have := hc2 c hc; omega)
  omega
end

/-! ### A way to reckon it -/
def feasB (n : Nat) (adj : Nat → Nat → Bool) : Nat → List Int → Bool
  | 0, d => (List.range n).all fun i => decide (d.getD i 0 ≤ 0)
  | h + 1, d => feasB n adj h d || (List.range n).any fun i => adj i h && decide (0 < d.getD i 0) && feasB n adj h (d.set i (d.getD i 0 - 1))

theorem Feas.mono {n H : Nat} {adj : Nat → Nat → Bool} {d d' : Nat → Int} (h : Feas n H adj d) (hd : ∀ i, i < n → d' i ≤ d i) : Feas n H adj d' := by
  obtain ⟨wh, h1, h2⟩ := h
  exact ⟨wh, h1, fun i hi => Int.le_trans (hd i hi) (h2 i hi)⟩

theorem getD_set {l : List Int} {i j : Nat} {v : Int} (hi : i < l.length) : (l.set i v).getD j 0 = if j = i then v else l.getD j 0 := by
  rw [List.getD_eq_getElem?_getD, List.getD_eq_getElem?_getD, List.getElem?_set]
  by_cases e : i = j
  · subst e; simp [hi]
  · rw [if_neg e, if_neg (by omega)]

theorem Asg.snoc {n H : Nat} {adj : Nat → Nat → Bool} {wh : List Int} {x : Int} (h : Asg n H adj wh) (hx : x = -1 ∨ ∃ i : Nat, x = i ∧ i < n ∧ adj i H = true) : Asg n (H + 1) adj (wh ++ [x]) := by
  refine ⟨by simp [h.len], fun k y hy => ?_⟩
  by_cases hk : k < H
  · rw [List.getElem?_append_left (by rw [h.len]; exact hk)] at hy; exact h.ok k y hy
  · rw [List.getElem?_append_right (by rw [h.len]; omega), h.len] at hy
    have : k = H := by
      rcases Nat.lt_or_ge (k - H) 1 with h1 | h1
      · omega
      · rw [List.getElem?_eq_none (by simp; omega)] at hy; cases hy
    subst this
    simp at hy; subst hy; exact hx
theorem Asg.init {n H : Nat} {adj : Nat → Nat → Bool} {wh : List Int} (h : Asg n (H + 1) adj wh) : ∃ (wh' : List Int) (x : Int), wh = wh' ++ [x] ∧ Asg n H adj wh' ∧ (x = -1 ∨ ∃ i : Nat, x = i ∧ i < n ∧ adj i H = true) := by
  have hne : wh ≠ [] := by intro e; have := h.len; rw [e] at this; simp at this
  obtain ⟨wh', x, rfl⟩ : ∃ (wh' : List Int) (x : Int), wh = wh' ++ [x] := ⟨wh.dropLast, wh.getLast hne, (List.dropLast_concat_getLast hne).symm⟩
  have hl : wh'.length = H := by have := h.len; simp at this; exact this
  refine ⟨wh', x, rfl, ⟨hl, fun k y hy => h.ok k y ?_⟩, h.ok H x ?_⟩
  · have : k < wh'.length := (List.getElem?_eq_some_iff.1 hy).1
    rw [List.getElem?_append_left this]; exact hy
  · rw [List.getElem?_append_right (by omega), hl]; simp

theorem feasB_iff (n : Nat) (adj : Nat → Nat → Bool) : ∀ (H : Nat) (d : List Int), d.length = n → (feasB n adj H d = true ↔ Feas n H adj (fun i => d.getD i 0))
  | 0, d, hd => by
    unfold feasB
    rw [List.all_eq_true]
    constructor
    · intro h; exact ⟨[], ⟨rfl, fun _ _ h => by simp at h⟩, fun i hi => by have := h i (List.mem_range.2 hi); simpa using this⟩
    · rintro ⟨wh, h1, h2⟩ i hi
      have : wh = [] := List.eq_nil_of_length_eq_zero h1.len
      subst this
      have := h2 i (List.mem_range.1 hi)
      simpa using this
  | H + 1, d, hd => by
    unfold feasB
    rw [Bool.or_eq_true, List.any_eq_true]
    constructor
    · rintro (h | ⟨i, hi, h⟩)
      · obtain ⟨wh, h1, h2⟩ := (feasB_iff n adj H d hd).1 h
        exact ⟨wh ++ [-1], h1.snoc (.inl rfl), fun j hj => by have := h2 j hj; rw [List.count_append]; omega⟩
      · simp only [Bool.and_eq_true, decide_eq_true_eq] at h
        obtain ⟨⟨ha, hp⟩, h⟩ := h
        have hi' := List.mem_range.1 hi
        obtain ⟨wh, h1, h2⟩ := (feasB_iff n adj H _ (by simpa using hd)).1 h
        refine ⟨wh ++ [(i : Int)], h1.snoc (.inr ⟨i, rfl, hi', ha⟩), fun j hj => ?_⟩
        have := h2 j hj
        dsimp only at this ⊢
        rw [getD_set (by omega)] at this
        rw [List.count_append, List.count_singleton]
        by_cases e : j = i
        · subst e; simp at this ⊢; omega
        · rw [if_neg e] at this; omega
    · rintro ⟨wh, h1, h2⟩
      obtain ⟨wh', x, rfl, h3, hx⟩ := h1.init
      rcases hx with rfl | ⟨i, rfl, hi, ha⟩
      · left
        refine (feasB_iff n adj H d hd).2 ⟨wh', h3, fun j hj => ?_⟩
        have := h2 j hj
        rw [List.count_append, List.count_singleton] at this
        simpa using this
      · by_cases hp : 0 < d.getD i 0
        · right
          refine ⟨i, List.mem_range.2 hi, ?_⟩
          simp only [Bool.and_eq_true, decide_eq_true_eq]
          refine ⟨⟨ha, hp⟩, (feasB_iff n adj H _ (by simpa using hd)).2 ⟨wh', h3, fun j hj => ?_⟩⟩
          have := h2 j hj
          dsimp only
          rw [getD_set (by omega)]
          rw [List.count_append, List.count_singleton] at this
          by_cases e : j = i
          · subst e; simp at this ⊢; omega
          · rw [if_neg e]
            have e2 : ((i : Int) == (j : Int)) = false := by simp; omega
            rw [e2] at this; simpa using this
        · left
          refine (feasB_iff n adj H d hd).2 ⟨wh', h3, fun j hj => ?_⟩
          have := h2 j hj
          rw [List.count_append, List.count_singleton] at this
          by_cases e : j = i
          · subst e; dsimp only; omega
          · have e2 : ((i : Int) == (j : Int)) = false := by simp; omega
            rw [e2] at this; simpa using this
end Go.Proofs.Ytdhhneflhmkonaa

/- The mill's plan: 'open': a plan with all hours free. -/
namespace Go.Proofs.Ytdhhneflhmkonaa
open Go.RowKit Go.Shelf

/-- A plan that stands in memory. -/
structure Mp (W : World) (bp bw : Nat) (A : Option Addr) (n cc H left : Nat) (xs : List Comer) : Prop where
  h0 : W.cell? ⟨bp, 0, none⟩ = some (.int .i64 H)
  h1 : W.cell? ⟨bp, 1, none⟩ = some (.slice A n cc)
  h2 : W.cell? ⟨bp, 2, none⟩ = some (.slice (some ⟨bw, 0, none⟩) H H)
  h3 : W.cell? ⟨bp, 3, none⟩ = some (.int .i64 left)
  arr : Arr ccells 3 W A n xs
  n1 : bp ≠ bw
  n2 : ∀ b o, A = some ⟨b, o, none⟩ → 0 < n → b ≠ bw

def mv (A : Option Addr) (n cc : Nat) (H : Int) : Value := .agg #[.int .i64 H, .slice A n cc]

theorem made_vals (k : Nat) : madeCells #[.int .i64 0] k = vals (List.replicate k 0) := by
  apply Array.ext
  · simp [madeCells, vals]
  · intro i h1 h2; simp [madeCells, vals, Nat.mod_one]
theorem lv (H : Nat) (h : H ≤ 24) : wrap64 (wrap64 (2 ^ H) - 1) = ((2 ^ H - 1 : Nat) : Int) := by
  have h1 : 2 ^ H ≤ 2 ^ 24 := Nat.pow_le_pow_right (by decide) h
  have h0 : 0 < 2 ^ H := Nat.two_pow_pos H
  have e : (2 : Int) ^ H = ((2 ^ H : Nat) : Int) := by simp
  rw [e]; generalize 2 ^ H = q at h0 h1 ⊢
  rw [IntWalk.wrap64_in (q : Int) ⟨by omega, by omega⟩, IntWalk.wrap64_in _ ⟨by omega, by omega⟩]; omega
theorem andNot64 (a b : Nat) (ha : a < 9223372036854775808) (hb : b < 9223372036854775808) : bits .andNot .i64 (a : Int) (b : Int) = ((a ^^^ (a &&& b) : Nat) : Int) := by
  have hx : a ^^^ (a &&& b) < 2 ^ 63 := Nat.xor_lt_two_pow (by omega) (Nat.and_lt_two_pow _ (by omega))
  have e : (BitVec.ofInt 64 (a : Int) &&& ~~~ BitVec.ofInt 64 (b : Int)).toNat = a ^^^ (a &&& b) := by
    apply Nat.eq_of_testBit_eq
    intro i
    rw [BitVec.testBit_toNat, BitVec.getLsbD_and, BitVec.getLsbD_not, ← BitVec.testBit_toNat, ← BitVec.testBit_toNat, ofInt64 a ha, ofInt64 b hb, Nat.testBit_xor, Nat.testBit_and]
    by_cases hi : i < 64
    · cases a.testBit i <;> cases b.testBit i <;> simp [hi]
    · have : a.testBit i = false := Nat.testBit_lt_two_pow (Nat.lt_of_lt_of_le (show a < 2 ^ 64 by omega) (Nat.pow_le_pow_right (by decide) (by omega)))
      simp [this]
  show IntKind.i64.wrap ((BitVec.ofInt 64 (a : Int) &&& ~~~ BitVec.ofInt 64 (b : Int)).toNat : Int) = _
  rw [e, IntKind.wrap_i64]
  omega
theorem ones_bit (H h : Nat) : (2 ^ H - 1).testBit h = decide (h < H) := Nat.testBit_two_pow_sub_one H h

set_option maxRecDepth 100000 in
set_option maxHeartbeats 2000000 in
theorem open_any (A : Option Addr) (n cc H : Nat) (xs : List Comer) (barred : Int) (w : World) (ha : Arr ccells 3 w A n xs) (hH : H ≤ 24) (hb : -1 ≤ barred) (hb2 : barred < 24) :
    Calls Try.prog 67 #[mv A n cc H, .int .i64 barred] w fun e w' => ∃ bp bw left : Nat, e = .returned (.pointer (some ⟨bp, 0, none⟩)) ∧ Mp w' bp bw A n cc H left xs ∧ Blk w' bw 3 (vals (List.replicate H (-1))) ∧
      left < 16777216 ∧ (∀ h, left.testBit h = (decide (h < H) && decide ((h : Int) ≠ barred))) ∧ w.heap.size ≤ bw ∧ Below w.heap.size w w' := by
  unfold mv
  go_enter Try.func67, Try.ntmps67
  go_wp2_with fail
  generalize hW1 : w.alloc (.cells #[.int .i64 H, .slice A n cc] 24) = W1
  obtain ⟨g1, c0, c1⟩ := box2 hW1
  have hlt : w.heap.size < W1.heap.size := by rw [boxSize hW1]; omega
  have d0 : ∀ o, (W1.alloc o).cell? ⟨w.heap.size, 0, none⟩ = some (.int .i64 H) := fun o => (World.cell?_alloc_lt W1 o _ hlt).trans c0
  have d1 : ∀ o, (W1.alloc o).cell? ⟨w.heap.size, 1, none⟩ = some (.slice A n cc) := fun o => (World.cell?_alloc_lt W1 o _ hlt).trans c1
  clear hW1
  have hmk := fun w => run_make_row' (P := Try.prog) 28 3 (.int .i64 0) 8 (by kernel_rfl) (by kernel_rfl) (by simp [Value.cells]) .i64 .i64 H (by omega) (by omega) w
  go_region
  rw [lv H hH, made_vals]
  generalize hW2 : (W1.alloc (.cells (vals (List.replicate H 0)) 3)) = W2
  have hb2 : Blk W2 W1.heap.size 3 (vals (List.replicate H 0)) := by rw [← hW2]; exact Blk.new _ _ _
  have g2 : Below W1.heap.size W1 W2 := by rw [← hW2]; exact (Below.refl _ _).alloc (Nat.le_refl _) _
  have s2 := boxSize hW2
  rw [← s2]
  generalize hW3 : (W2.alloc (.cells #[.int .i64 H, .slice A n cc, .slice (some ⟨W1.heap.size, 0, none⟩) H H, .int .i64 ((2 ^ H - 1 : Nat) : Int)] 109)) = W3
  have hb3 : Blk W3 W2.heap.size 109 #[.int .i64 H, .slice A n cc, .slice (some ⟨W1.heap.size, 0, none⟩) H H, .int .i64 ((2 ^ H - 1 : Nat) : Int)] := by rw [← hW3]; exact Blk.new _ _ _
  have g3 : Below W2.heap.size W2 W3 := by rw [← hW3]; exact (Below.refl _ _).alloc (Nat.le_refl _) _
  have hbw := hb2.ext g3
  have hG := Lib.hid (extTrans g1 (extTrans g2 g3))
  have hG1 := Lib.hid (extTrans g2 g3)
  have hne : W1.heap.size ≠ W2.heap.size := by omega
  have hge : w.heap.size ≤ W1.heap.size ∧ w.heap.size ≤ W2.heap.size := by omega
  clear hW2 hW3 s2 g1 g2 g3 c0 c1 d0 d1 hb2 hlt hmk
  generalize W1.heap.size = bw at hbw hb3 hne hge ⊢
  generalize W2.heap.size = bp at hb3 hne hge ⊢
  have hbd : Blk W3.drew bp 109 #[.int .i64 H, .slice A n cc, .slice (some ⟨bw, 0, none⟩) H H, .int .i64 ((2 ^ H - 1 : Nat) : Int)] := hb3
  have e0 : W3.drew.cell? ⟨bp, 2, none⟩ = some (.slice (some ⟨bw, 0, none⟩) H H) := hbd.cell 2
  have hbw' : Blk W3.drew bw 3 (vals (List.replicate H 0)) := hbw
  have hG' := Lib.hid (show Below w.heap.size w W3.drew from hG.out.drew)
  have hB := Lib.hid hbd
  have hBw := Lib.hid hbw'
  clear hbd hbw' hbw hb3
  generalize W3.drew = W4 at e0 hG' hB hBw ⊢
  go_wp2_with fail
  go_loopw [22] (fun i wr => ∃ k : Nat, i = .int .i64 k ∧ k ≤ H ∧ Below w.heap.size w wr ∧ Blk wr bp 109 #[.int .i64 H, .slice A n cc, .slice (some ⟨bw, 0, none⟩) H H, .int .i64 ((2 ^ H - 1 : Nat) : Int)] ∧ Blk wr bw 3 (vals (List.replicate k (-1) ++ List.replicate (H - k) 0))) (fun i _ => H - (intOf i).toNat)
  case atStart => exact ⟨0, rfl, Nat.zero_le _, hG'.out, hB.out, hBw.out⟩
  case round =>
    obtain ⟨k, rfl, hk, hg, hb, hbw⟩ := hrel
    have Hg := Lib.hid hg
    have Hb := Lib.hid hb
    have Hbw := Lib.hid hbw
    by_cases hkH : k < H
    · have e0 : wr.cell? ⟨bp, 2, none⟩ = some (.slice (some ⟨bw, 0, none⟩) H H) := hb.cell 2
      have e1 : wr.cell? ⟨bw, k, none⟩ = some (.int .i64 0) := by
        rw [hbw.cell k, vals_get, List.getElem?_append_right (by simp), List.getElem?_replicate, if_pos (by simp; omega)]; rfl
      have e2 := hbw.frozen k
      clear hg hb hbw
      go_wp2_with fail
      go_roundw
      case rel =>
        refine ⟨k + 1, by go_num, by omega, Hg.out.setCell (p := ⟨bw, k, none⟩) hge.1 _, Hb.out.far hne.symm _, ?_⟩
        have := Hbw.out.set_ k (.int .i64 (-1))
        rw [vals_set] at this
        have e : (List.replicate k (-1 : Int) ++ List.replicate (H - k) 0).set k (-1) = List.replicate (k + 1) (-1) ++ List.replicate (H - (k + 1)) 0 := by
          rw [List.set_append_right _ _ (by simp), show H - k = (H - (k + 1)) + 1 by omega, List.replicate_succ, List.replicate_succ']
          simp
        rw [e] at this
        exact this
      case measure => simp [intOf]; omega
    · obtain rfl : k = H := by omega
      have e3 : wr.cell? ⟨bp, 3, none⟩ = some (.int .i64 ((2 ^ k - 1 : Nat) : Int)) := hb.cell 3
      have e4 := hb.frozen 3
      have hbw : Blk wr bw 3 (vals (List.replicate k (-1))) := by have := hbw; rwa [Nat.sub_self, List.replicate_zero, List.append_nil] at this
      clear Hbw
      have Hbw := Lib.hid hbw
      have ha' := Lib.hid (ha.below hg)
      have hA := Lib.hid (show ∀ b o, A = some ⟨b, o, none⟩ → 0 < n → b ≠ bw from fun b o e hn => by
        obtain ⟨b', o', e', hlt, _⟩ := ha.2 hn; rw [e] at e'; cases e'; omega)
      clear hg hb hbw
      have Hbd : barred < 0 ∨ 0 ≤ barred := by omega
      rcases Hbd with hneg | hpos
      · go_wp2_with fail
        go_ret
        refine ⟨bp, bw, 2 ^ k - 1, rfl, ⟨Hb.out.cell 0, Hb.out.cell 1, Hb.out.cell 2, Hb.out.cell 3, ha'.out, hne.symm, hA.out⟩, Hbw.out, ?_, fun h => ?_, hge.1, Hg.out⟩
        · have : 2 ^ k ≤ 2 ^ 24 := Nat.pow_le_pow_right (by decide) hH
          omega
        · rw [ones_bit]
          have : decide ((h : Int) ≠ barred) = true := by simp; omega
          rw [this, Bool.and_true]
      · obtain ⟨q, rfl⟩ : ∃ q : Nat, barred = q := ⟨barred.toNat, by omega⟩
        have hq24 : q < 24 := by omega
        have hpq : 2 ^ q < 2 ^ 24 := Nat.pow_lt_pow_right (by decide) hq24
        have hpk : 2 ^ k ≤ 2 ^ 24 := Nat.pow_le_pow_right (by decide) hH
        have hwq : wrap64 ((2 : Int) ^ q) = ((2 ^ q : Nat) : Int) := by
          rw [show (2 : Int) ^ q = ((2 ^ q : Nat) : Int) by simp]; generalize 2 ^ q = y at hpq ⊢; exact IntWalk.wrap64_in _ ⟨by omega, by omega⟩
        have han := andNot64 (2 ^ k - 1) (2 ^ q) (by omega) (by omega)
        have HW := Lib.hid hwq
        have HAN := Lib.hid han
        have Hlt := Lib.hid (show (2 ^ k - 1) ^^^ ((2 ^ k - 1) &&& 2 ^ q) < 16777216 from Nat.xor_lt_two_pow (n := 24) (by omega) (Nat.and_lt_two_pow _ (by omega)))
        clear hwq han hpq hpk
        go_wp2_with fail
        have F : ∀ x : Wd wr, x.val.cell? ⟨bp, 3, none⟩ = some (.int .i64 ((2 ^ k - 1 : Nat) : Int)) ∧ x.val.frozen? ⟨bp, 3, none⟩ = false := fun x => ⟨cellW e3 x, frozenW e3 e4 x⟩
        refine wp_region_calm_tail wr 9 (by kernel_rfl) (by kernel_rfl) (Below.refl _ _) ?_
        simp only [List.take_succ_cons, List.take_zero, List.drop_succ_cons, List.drop_zero]
        repeat (go_big_quiet_step (fail))
        refine wpQuiet_nil ?_
        rintro _ ⟨z, rfl⟩
        have Z3 := Hb.out.ext z.ok
        have Zw := Hbw.out.ext z.ok
        have Za := ha'.out.below z.ok
        have Zg := extTrans Hg.out z.ok
        simp only [HW.out, HAN.out]
        have HZ3 := Lib.hid Z3
        have HZw := Lib.hid Zw
        have HZa := Lib.hid Za
        have HZg := Lib.hid Zg
        clear Z3 Zw Za Zg
        go_wp2_with fail
        go_ret
        have P3 := HZ3.out.set_ 3 (.int .i64 (((2 ^ k - 1) ^^^ ((2 ^ k - 1) &&& 2 ^ q) : Nat) : Int))
        have Pg := HZg.out.setCell (p := ⟨bp, 3, none⟩) hge.2 (.int .i64 (((2 ^ k - 1) ^^^ ((2 ^ k - 1) &&& 2 ^ q) : Nat) : Int))
        refine ⟨bp, bw, _, rfl, ⟨P3.cell 0, P3.cell 1, P3.cell 2, P3.cell 3, ha.below Pg, hne.symm, hA.out⟩, HZw.out.far hne _, Hlt.out, fun h => ?_, hge.1, Pg⟩
        rw [Nat.testBit_xor, Nat.testBit_and, ones_bit, Nat.testBit_two_pow]
        by_cases h1 : h < k <;> by_cases h2 : q = h <;> simp [h1, h2]
        omega
end Go.Proofs.Ytdhhneflhmkonaa

/- The mill's plan: 'serve': each comer gets what it demands, or the hours that were tried in vain. -/
namespace Go.Proofs.Ytdhhneflhmkonaa
open Go.RowKit Go.Shelf

def icells (x : Int) : List Value := [.int .i64 x]
/-- A slice of numbers. -/
abbrev Ints (w : World) (A : Option Addr) (n : Nat) (xs : List Int) : Prop := Arr icells 1 w A n xs

theorem Arr.fix {α : Type} {f : α → List Value} {size : Nat} {w w' : World} {A : Option Addr} {n : Nat} {xs : List α} {bw bs : Nat} (h : Arr f size w A n xs) (k : Fix bw bs w w')
    (hd : ∀ b o, A = some ⟨b, o, none⟩ → 0 < n → b ≠ bw ∧ b ≠ bs) : Arr f size w' A n xs :=
  ⟨h.1, fun hn => by
    obtain ⟨b, o, rfl, hlt, hc⟩ := h.2 hn
    obtain ⟨h1, h2⟩ := hd b o rfl hn
    exact ⟨b, o, rfl, Nat.lt_of_lt_of_le hlt k.size, fun i x hx j u hu => (World.cell?_of_block (a := ⟨b, _, none⟩) (k.block b hlt h1 h2)).trans (hc i x hx j u hu)⟩⟩
theorem ints_at {w : World} {A : Option Addr} {n : Nat} {xs : List Int} (h : Ints w A n xs) {k : Nat} (hk : k < n) :
    ∃ b o, A = some ⟨b, o, none⟩ ∧ b < w.heap.size ∧ xs[k]? = some (xs.getD k 0) ∧ ∀ w', Below w.heap.size w w' → w'.cell? ⟨b, o + k, none⟩ = some (.int .i64 (xs.getD k 0)) := by
  obtain ⟨b, o, x, rfl, hb, hx, hc⟩ := h.at hk
  have e : xs.getD k 0 = x := by rw [List.getD_eq_getElem?_getD, hx]; rfl
  rw [e]
  exact ⟨b, o, rfl, hb, hx, fun w' hw => by have := hc w' hw 0 _ rfl; simpa using this⟩
/-- A second block is as new as the call. -/
theorem Fix.drop {A W W' : World} {bw bs : Nat} (h : Fix bw bw A W) (k : Fix bw bs W W') (hs : A.heap.size ≤ bs) : Fix bw bw A W' :=
  ⟨k.os.trans h.os, k.tape.trans h.tape, k.output.trans h.output, Nat.le_trans h.size k.size, fun i hi h1 _ => (k.block i (Nat.lt_of_lt_of_le hi h.size) h1 (by omega)).trans (h.block i hi h1 h1)⟩
theorem Mp.fix {W W' : World} {bp bw n cc H left : Nat} {A : Option Addr} {xs : List Comer} (h : Mp W bp bw A n cc H left xs) (f : Fix bw bw W W') : Mp W' bp bw A n cc H left xs :=
  ⟨f.cell h.h0 h.n1 h.n1, f.cell h.h1 h.n1 h.n1, f.cell h.h2 h.n1 h.n1, f.cell h.h3 h.n1 h.n1, h.arr.fix f (fun b o e hn => ⟨h.n2 b o e hn, h.n2 b o e hn⟩), h.n1, h.n2⟩
theorem Mp.ext {W W' : World} {bp bw n cc H left : Nat} {A : Option Addr} {xs : List Comer} (h : Mp W bp bw A n cc H left xs) (f : Below W.heap.size W W') : Mp W' bp bw A n cc H left xs :=
  h.fix (Fix.of_below f)

/-- The hours of the comers are sets of hours. -/
def Hrs (xs : List Comer) : Prop := ∀ x ∈ xs, 0 ≤ x.hours ∧ x.hours < 16777216
theorem Hrs.nat {xs : List Comer} (h : Hrs xs) {i : Nat} {x : Comer} (hx : xs[i]? = some x) : x.hours = (hrs xs i : Nat) := by
  have := h x (List.mem_of_getElem? hx)
  unfold hrs
  rw [List.getD_eq_getElem?_getD, hx]
  simp; omega
theorem Hrs.lt {xs : List Comer} (h : Hrs xs) (i : Nat) : hrs xs i < 16777216 := by
  unfold hrs
  rw [List.getD_eq_getElem?_getD]
  cases hx : xs[i]? with
  | none => simp
  | some x => have := h x (List.mem_of_getElem? hx); simp; omega

theorem Mp.plan {W : World} {bp bw n cc H left : Nat} {A : Option Addr} {xs : List Comer} (h : Mp W bp bw A n cc H left xs) (hx : Hrs xs) (hn : 0 < n) :
    ∃ b o, A = some ⟨b, o, none⟩ ∧ b < W.heap.size ∧ Plan W bp bw b o n cc H left xs := by
  obtain ⟨b, o, x, rfl, hb, -, -⟩ := h.arr.at hn
  refine ⟨b, o, rfl, hb, ⟨h.h0, h.h1, h.h2, h.h3, fun i hi => ?_, h.n1, h.n2 b o rfl hn⟩⟩
  obtain ⟨b', o', x, e, -, hx', hc⟩ := comer_at h.arr hi
  cases e
  rw [← hx.nat hx']
  exact (hc W (Below.refl _ _)).2.1

/-- How 'serve' ends. -/
def ServePost (bw n H left : Nat) (xs : List Comer) (d : List Int) (W : World) (e : Ending) (W' : World) : Prop :=
  Fix bw bw W W' ∧ ∃ wh, Blk W' bw 3 (vals wh) ∧ Asg n H (adj xs left) wh ∧
    ((e = .returned (.tuple #[.int .i64 0, .bool true]) ∧ ∀ j, j < n → wh.count (j : Int) = (d.getD j 0).toNat) ∨
     (∃ c s : Nat, e = .returned (.tuple #[.int .i64 ((s ||| hrs xs c : Nat) : Int), .bool false]) ∧ c < n ∧ StepF n H (adj xs left) c 0 wh s ∧
        (∀ j, j < n → wh.count (j : Int) ≤ (d.getD j 0).toNat) ∧ wh.count (c : Int) < (d.getD c 0).toNat))

/-- What the first i comers have, and k hours of the next one. -/
def cnt (d : List Int) (i k j : Nat) : Nat := if j < i then (d.getD j 0).toNat else if j = i then k else 0

set_option maxRecDepth 100000 in
set_option maxHeartbeats 4000000 in
theorem serve_any (bp bw n cc H left cd : Nat) (A D : Option Addr) (xs : List Comer) (d : List Int) (W : World) (hmp : Mp W bp bw A n cc H left xs) (hX : Hrs xs) (hH : H ≤ 24) (hl : left < 16777216) (hn : n ≤ 12)
    (hbw : Blk W bw 3 (vals (List.replicate H (-1)))) (hd : Ints W D n d) (hD : ∀ b o, D = some ⟨b, o, none⟩ → 0 < n → b ≠ bw) (hdb : ∀ x ∈ d, x ≤ 9223372036854775807) :
    Calls Try.prog 68 #[.pointer (some ⟨bp, 0, none⟩), .slice D n cd] W (ServePost bw n H left xs d W) := by
  have HMP := Lib.hid hmp
  have HHX := Lib.hid hX
  have HBW := Lib.hid hbw
  have HD := Lib.hid hd
  have HDd := Lib.hid hD
  have HDB := Lib.hid hdb
  clear hmp hX hbw hd hD hdb
  go_enter Try.func68, Try.ntmps68
  go_wp2_with fail
  go_step3
  go_wp2_with fail
  go_step3
  go_wp2_with fail
  go_loopw [11] (fun i wr => ∃ k : Nat, i = .int .i64 k ∧ k ≤ n ∧ Fix bw bw W wr ∧ ∃ wh, Blk wr bw 3 (vals wh) ∧ Asg n H (adj xs left) wh ∧ ∀ j, j < n → wh.count (j : Int) = cnt d k 0 j) (fun i _ => n - (intOf i).toNat)
  case atStart =>
    exact ⟨0, rfl, Nat.zero_le _, Fix.refl _ _ _, _, HBW.out, Asg.free _ _ _, fun j _ => by rw [count_free]; simp [cnt]⟩
  case round =>
    obtain ⟨i, rfl, hi, hfx, wh, hb, hasg, hcnt⟩ := hrel
    have HFX := Lib.hid hfx
    have HB := Lib.hid hb
    have HASG := Lib.hid hasg
    have HCNT := Lib.hid hcnt
    clear hfx hb hasg hcnt
    by_cases hin : i < n
    · have hD1 := HD.out.fix HFX.out (fun b o e hn => ⟨HDd.out b o e hn, HDd.out b o e hn⟩)
      obtain ⟨b, o, hDe, hbl, hdi, hcl⟩ := ints_at hD1 hin
      have hmb := HDB.out _ (List.mem_of_getElem? hdi)
      clear hdi
      have e0 := hcl wr (Below.refl _ _)
      obtain ⟨m, hm⟩ : ∃ m, d.getD i 0 = m := ⟨_, rfl⟩
      have HM := Lib.hid hm
      rw [hm] at e0 hmb
      clear hcl hm hD1
      subst hDe
      go_wp2_with fail
      go_loopw [17] (fun j wi => ∃ q : Nat, j = .int .i64 q ∧ q ≤ m.toNat ∧ Fix bw bw W wi ∧ ∃ wh, Blk wi bw 3 (vals wh) ∧ Asg n H (adj xs left) wh ∧ ∀ j, j < n → wh.count (j : Int) = cnt d i q j) (fun j _ => m.toNat - (intOf j).toNat)
      case atStart => exact ⟨0, rfl, Nat.zero_le _, HFX.out, wh, HB.out, HASG.out, HCNT.out⟩
      case round =>
        obtain ⟨q, rfl, hq, hfx, wh2, hb, hasg, hcnt⟩ := hrel
        rename World => wi
        have HFX2 := Lib.hid hfx
        have HB2 := Lib.hid hb
        have HASG2 := Lib.hid hasg
        have HCNT2 := Lib.hid hcnt
        clear hfx hb hasg hcnt
        by_cases hqm : (q : Int) < m
        · go_wp2_with fail
          have hbs := Blk.new wi 3 #[.int .i64 0]
          have hext : Below wi.heap.size wi (wi.alloc (.cells #[.int .i64 0] 3)) := (Below.refl _ _).alloc (Nat.le_refl _) _
          have hmp2 := (HMP.out.fix HFX2.out).ext hext
          have hb2 := HB2.out.ext hext
          have F1 := HFX2.out.trans (Fix.of_below hext)
          have hbwlt := HB2.out.lt
          have hbplt : bp < wi.heap.size := World.block_lt_of_cell? wi _ (HMP.out.fix HFX2.out).h0
          obtain ⟨ba, oa, hA, -, hpl0⟩ := (HMP.out.fix HFX2.out).plan HHX.out (by omega)
          have hpl := hpl0.ext hext
          have hbalt : ba < wi.heap.size := World.block_lt_of_cell? wi _ (hpl0.hx i hin)
          have hWle := HFX2.out.size
          have HWle := Lib.hid hWle
          obtain ⟨W1, hW1⟩ : ∃ W1, wi.alloc (.cells #[.int .i64 0] 3) = W1 := ⟨_, rfl⟩
          rw [hW1] at hbs hext hmp2 hb2 F1 hpl ⊢
          generalize wi.heap.size = bs at hbs hbwlt hbplt hbalt hWle HWle ⊢
          have HMP2 := Lib.hid hmp2
          have HF1 := Lib.hid F1
          have N := Lib.hid (show bp ≠ bs ∧ ba ≠ bs ∧ bw ≠ bs from by omega)
          refine (give_any bp bw bs ba oa n cc H left xs hH hl (fun i _ => HHX.out.lt i) W1 i 0 wh2 hpl N.out.1 N.out.2.1 N.out.2.2 hb2 hbs HASG2.out.len HASG2.out.weak (Nat.two_pow_pos H) hin).mono ?_
          clear hbs hext hmp2 hb2 F1 hbwlt hbplt hbalt hWle hpl0 hpl hW1
          rintro e W2 ⟨ok, s', wh3, rfl, hf2, hb3, hs3, hlt3, -, hyes, hno⟩
          have HF2 := Lib.hid (HF1.out.drop hf2 HWle.out)
          have HB3 := Lib.hid hb3
          have HS3 := Lib.hid hs3
          cases ok with
          | true =>
            have HT := Lib.hid (hyes rfl)
            clear hf2 hb3 hs3 hlt3 hyes hno
            go_wp2_with fail
            go_roundw
            case rel =>
              refine ⟨q + 1, by go_num, by omega, HF2.out, wh3, HB3.out, HASG2.out.step HT.out, fun j hj => ?_⟩
              rw [HT.out.count j, HCNT2.out j hj]
              unfold cnt
              by_cases h1 : j < i
              · rw [if_pos h1, if_pos h1, if_neg (by omega)]; rfl
              · rw [if_neg h1, if_neg h1]
                by_cases h2 : j = i
                · rw [if_pos h2, if_pos h2, if_pos h2]
                · rw [if_neg h2, if_neg h2, if_neg h2]
            case measure => simp [intOf]; omega
          | false =>
            obtain ⟨rfl, hF⟩ := hno rfl
            have HSF := Lib.hid hF
            have hs24 : s' < 16777216 := Nat.lt_of_lt_of_le hlt3 (Nat.pow_le_pow_right (by decide) hH)
            have hs0 : W2.cell? ⟨bs, 0, none⟩ = some (.int .i64 s') := hs3.cell 0
            have hmp3 := HMP.out.fix HF2.out
            have hp1 := hmp3.h1
            have hp1l : bp < W2.heap.size := World.block_lt_of_cell? W2 _ hp1
            obtain ⟨b3, o3, x3, e3, hb3l, hx3, hc3⟩ := comer_at hmp3.arr hin
            rw [hA] at e3 hp1
            cases e3
            have hx0 := (hc3 W2 (Below.refl _ _)).2.1
            rw [HHX.out.nat hx3] at hx0
            have ev := or64 s' (hrs xs i) (by omega) (by have := HHX.out.lt i; omega)
            have HEV := Lib.hid ev
            have F : ∀ x : Wd W2, x.val.cell? ⟨bs, 0, none⟩ = some (.int .i64 s') ∧ x.val.cell? ⟨bp, 1, none⟩ = some (.slice (some ⟨ba, oa, none⟩) n cc) ∧ x.val.cell? ⟨ba, oa + i * 3 + 1, none⟩ = some (.int .i64 (hrs xs i : Nat)) :=
              fun x => ⟨cellW hs0 x, cellW hp1 x, cellW hx0 x⟩
            have G : ∀ x : Wd W2, bp < x.val.heap.size := fun x => by have := x.size; omega
            clear hf2 hb3 hs3 hlt3 hyes hno hF hs0 hmp3 hp1 hx0 hc3 ev hp1l hb3l
            go_wp2_with fail
            refine wp_region_calm W2 (by kernel_rfl) (by kernel_rfl) (Below.refl _ _) ?_
            repeat (go_big_quiet_step (fail))
            refine wpQuiet_nil ?_
            rintro _ ⟨z, rfl⟩
            rw [HEV.out]
            go_wp2_with fail
            rw [Exit.noGoto_ret]
            go_ret2
            refine ⟨HF2.out.trans (Fix.of_below z.ok), wh3, HB3.out.ext z.ok, HASG2.out, .inr ⟨i, s', rfl, hin, HSF.out, fun j hj => ?_, ?_⟩⟩
            · rw [HCNT2.out j hj]
              unfold cnt
              have := HM.out
              by_cases h1 : j < i
              · rw [if_pos h1]; exact Nat.le_refl _
              · rw [if_neg h1]
                by_cases h2 : j = i
                · subst h2; rw [if_pos rfl, this]; exact hq
                · rw [if_neg h2]; exact Nat.zero_le _
            · rw [HCNT2.out i hin, HM.out]
              simp [cnt]; omega
        · go_wp2_with fail
          go_roundw
          case rel =>
            refine ⟨i + 1, by go_num, by omega, HFX2.out, wh2, HB2.out, HASG2.out, fun j hj => ?_⟩
            rw [HCNT2.out j hj]
            unfold cnt
            have := HM.out
            by_cases h1 : j < i
            · rw [if_pos h1, if_pos (by omega)]
            · rw [if_neg h1]
              by_cases h2 : j = i
              · subst h2; rw [if_pos rfl, if_pos (by omega), this]; omega
              · rw [if_neg h2, if_neg (by omega)]; simp
          case measure => simp [intOf]; omega
    · obtain rfl : i = n := by omega
      go_wp2_with fail
      rw [Exit.noGoto_ret]
      go_ret2
      refine ⟨HFX.out, wh, HB.out, HASG.out, .inl ⟨rfl, fun j hj => ?_⟩⟩
      rw [HCNT.out j hj]; simp [cnt, hj]
end Go.Proofs.Ytdhhneflhmkonaa

/- The mill: 'serves', 'sum'. -/
namespace Go.Proofs.Ytdhhneflhmkonaa
open Go.RowKit Go.Shelf

/-- Whether comer i can come at hour h, an hour being barred (-1: none). -/
def can (xs : List Comer) (barred : Int) (i h : Nat) : Bool := (hrs xs i).testBit h && decide ((h : Int) ≠ barred)
/-- Whether demands can be met. -/
def fea (xs : List Comer) (H : Nat) (barred : Int) (d : List Int) : Bool := feasB xs.length (can xs barred) H d

theorem Feas.congr {n H : Nat} {adj adj' : Nat → Nat → Bool} {d : Nat → Int} (h : Feas n H adj d) (e : ∀ i k, i < n → k < H → adj i k = adj' i k) : Feas n H adj' d := by
  obtain ⟨wh, h1, h2⟩ := h
  refine ⟨wh, ⟨h1.len, fun k x hx => ?_⟩, h2⟩
  have hk : k < H := by rw [← h1.len]; exact (List.getElem?_eq_some_iff.1 hx).1
  rcases h1.ok k x hx with h | ⟨i, e1, e2, e3⟩
  · exact .inl h
  · exact .inr ⟨i, e1, e2, by rw [← e i k e2 hk]; exact e3⟩

theorem adj_can {xs : List Comer} {left H : Nat} {barred : Int} (hl : ∀ h, left.testBit h = (decide (h < H) && decide ((h : Int) ≠ barred))) (i h : Nat) (hh : h < H) : adj xs left i h = can xs barred i h := by
  unfold adj can
  rw [Nat.testBit_and, hl]; simp [hh]

theorem fea_iff {xs : List Comer} {H : Nat} {barred : Int} {d : List Int} (hd : d.length = xs.length) : fea xs H barred d = true ↔ Feas xs.length H (can xs barred) (fun i => d.getD i 0) :=
  feasB_iff _ _ _ _ hd

theorem ServePost.ok {bw n H left : Nat} {xs : List Comer} {d : List Int} {W W' : World} {e : Ending} {barred : Int} (h : ServePost bw n H left xs d W e W') (hn : xs.length = n) (hd : d.length = n)
    (hl : ∀ h, left.testBit h = (decide (h < H) && decide ((h : Int) ≠ barred))) : Fix bw bw W W' ∧ ∃ v, e = .returned (.tuple #[.int .i64 v, .bool (fea xs H barred d)]) := by
  obtain ⟨hf, wh, -, ha, hc⟩ := h
  refine ⟨hf, ?_⟩
  rcases hc with ⟨rfl, hc⟩ | ⟨c, s, rfl, hcn, hs, hle, hlt⟩
  · have hF : Feas n H (adj xs left) (fun i => d.getD i 0) := ⟨wh, ha, fun i hi => by have := hc i hi; dsimp only; omega⟩
    have := (fea_iff (H := H) (barred := barred) (hd.trans hn.symm)).2 (by rw [hn]; exact hF.congr (fun i k _ hk => adj_can hl i k hk))
    exact ⟨0, by rw [this]⟩
  · have hF := hs.no ha (d := fun i => d.getD i 0) (fun i hi => by have := hle i hi; omega) hcn (by omega)
    have : fea xs H barred d = false := by
      cases hq : fea xs H barred d with
      | false => rfl
      | true =>
        have := (fea_iff (hd.trans hn.symm)).1 hq
        rw [hn] at this
        exact absurd (this.congr (fun i k _ hk => (adj_can hl i k hk).symm)) hF
    exact ⟨_, by rw [this]⟩

theorem Fix.calm {A W W' : World} {bw : Nat} (hg : Below A.heap.size A W) (h : Fix bw bw W W') (hb : A.heap.size ≤ bw) : Below A.heap.size A W' :=
  hg.trans ⟨h.os, h.tape, h.output, h.size, fun i hi => h.block i (Nat.lt_of_lt_of_le hi hg.size) (by omega) (by omega)⟩

set_option maxRecDepth 100000 in
theorem serves_any (A D : Option Addr) (n cc cd H : Nat) (xs : List Comer) (d : List Int) (w : World) (ha : Arr ccells 3 w A n xs) (hX : Hrs xs) (hH : H ≤ 24) (hn : n ≤ 12) (hd : Ints w D n d) (hdb : ∀ x ∈ d, x ≤ 9223372036854775807) :
    Calls Try.prog 70 #[mv A n cc H, .slice D n cd] w fun e w' => e = .returned (.bool (fea xs H (-1) d)) ∧ Below w.heap.size w w' := by
  have ha0 := Lib.hid ha
  have hd0 := Lib.hid hd
  have hX0 := Lib.hid hX
  have hB0 := Lib.hid hdb
  clear ha hd hX hdb
  unfold mv
  go_enter Try.func70, Try.ntmps70
  go_wp2_with fail
  generalize hW1 : w.alloc (.cells #[.int .i64 H, .slice A n cc] 24) = W1
  obtain ⟨g1, c0, c1⟩ := box2 hW1
  have HG1 := Lib.hid g1
  clear hW1
  refine (open_any A n cc H xs (-1) W1 (ha0.out.below g1) hH (by omega) (by omega)).mono ?_
  rintro e W2 ⟨bp, bw, left, rfl, hmp, hbw, hl, hlb, hge, g2⟩
  have hd2 := (hd0.out.below g1).below g2
  have hD : ∀ b o, D = some ⟨b, o, none⟩ → 0 < n → b ≠ bw := fun b o e hn => by
    obtain ⟨b', o', e', hlt, _⟩ := (hd0.out.below g1).2 hn; rw [e] at e'; cases e'; omega
  have HG := Lib.hid (extTrans HG1.out g2)
  have HMP := Lib.hid hmp
  have HBW := Lib.hid hbw
  have HL := Lib.hid hlb
  have HD2 := Lib.hid hd2
  have HDn := Lib.hid hD
  have HGE := Lib.hid (show w.heap.size ≤ bw from Nat.le_trans g1.size hge)
  clear hmp hbw hlb hd2 hD hge g1 g2 c0 c1
  go_wp2_with fail
  refine (serve_any bp bw n cc H left cd A D xs d W2 HMP.out hX0.out hH hl hn HBW.out HD2.out HDn.out hB0.out).mono ?_
  rintro e W3 hsp
  obtain ⟨hf, v, rfl⟩ := hsp.ok HMP.out.arr.1 HD2.out.1 HL.out
  have HF := Lib.hid hf
  clear hf hsp
  go_wp2_with fail
  go_ret
  exact ⟨rfl, HF.out.calm HG.out HGE.out⟩
end Go.Proofs.Ytdhhneflhmkonaa

/- The mill: slices that a call makes; 'sum', 'atMost'. -/
namespace Go.Proofs.Ytdhhneflhmkonaa
open Go.RowKit Go.Shelf

/-- A slice of numbers that the call itself makes. -/
def Own (w : World) (base : Nat) (v : Value) (l : List Int) : Prop := w.ownsRow base 3 1 v l.length (l.map (Value.int .i64))
section
variable {w w' : World} {base : Nat} {v : Value} {l : List Int}
theorem Own.nil (w : World) (base : Nat) : Own w base (.slice none 0 0) [] := World.ownsRow_nil w base 3 1
theorem Own.ext (h : Own w base v l) (g : Below w.heap.size w w') : Own w' base v l :=
  World.ownsRow.kept h (row := none) ⟨g.os, g.tape, g.output, g.size, fun k hk _ => g.block k hk⟩ (by
    cases hq : v.ownBlock with
    | none => exact .inl rfl
    | some k => exact .inr (by simp))
theorem Own.ints (h : Own w base v l) : ∃ A c, v = .slice A l.length c ∧ Ints w A l.length l := by
  obtain ⟨h1, h2 | ⟨g, cap, cur, rfl, hb, hg, h4, h5, h6, h7⟩⟩ := h
  · obtain ⟨rfl, h3⟩ := h2
    have : l = [] := List.eq_nil_of_length_eq_zero h3
    subst this
    exact ⟨none, 0, rfl, rfl, fun h => absurd h (by simp)⟩
  · refine ⟨_, _, rfl, rfl, fun _ => ⟨g, 0, rfl, ?_, fun k x hx j u hu => ?_⟩⟩
    · rcases Nat.lt_or_ge g w.heap.size with hlt | hge
      · exact hlt
      · rw [Array.getElem?_eq_none hge] at hg; cases hg
    · have hk : k < l.length := (List.getElem?_eq_some_iff.1 hx).1
      have hj : j = 0 := by
        rcases Nat.lt_or_ge j 1 with h | h
        · omega
        · rw [List.getElem?_eq_none (by simp [icells]; omega)] at hu; cases hu
      subst hj
      have hu' : u = .int .i64 x := by simp [icells] at hu; exact hu.symm
      subst hu'
      rw [show 0 + k * 1 + 0 = k by omega, cell_of_row w g k cur 3 (0, 0) hg]
      have e1 : (l.map (Value.int .i64))[k]? = some (.int .i64 x) := by rw [List.getElem?_map, hx]; rfl
      rw [← h7, List.getElem?_take, if_pos (by omega)] at e1
      simpa using e1
/-- What is changed lies beyond 'base'. -/
theorem Own.base_le (h : Own w base v l) : ∀ k, v.ownBlock = some k → base ≤ k ∧ k < w.heap.size := World.ownsRow.lt h
end

theorem info3 : (Try.prog.info? 3).map (fun i => (i.zero, i.size, i.bytes)) = some (some (.int .i64 0), 1, 8) := by kernel_rfl
theorem under28 : Try.prog.underlying 28 = some (.slice 3) := by kernel_rfl

/-- 'append(l, x)' on such a slice. -/
theorem push_int {w : World} {ops : Array Oper} {rest : List Oper} {o : Oper} {a : Act} {Q : Exit → Act → World → Prop} (hgd : o.guard = none) (s x : Operand)
    (ho : o.op = .call { callee := .builtin .append, args := #[s, x], argTypes := #[28, 28] }) (base : Nat) (v : Value) (l : List Int) (hs : a.eval s = v) (hown : Own w base v l)
    (ad : Addr) (m c : Nat) (y : Int) (hx : a.eval x = .slice (some ad) m c) (hm : m = 1) (hc : w.cell? ad = some (.int .i64 y)) (hl : l.length < 100000) (hbase : base ≤ w.heap.size)
    (h : ∀ v' w', Own w' base v' (l ++ [y]) → (∀ B, B ≤ base → Below B w w') → wpList Try.prog ops Q rest (a.put o.dst v') w') : wpList Try.prog ops Q (o :: rest) a w := by
  subst hm
  obtain ⟨i, hi, hz0, hz1, hz2⟩ := info_parts info3
  refine wpList_append_own w hgd s x 28 ho base 3 i (.int .i64 0) 1 8 under28 hi hz0 hz1 hz2 (by simp [Value.cells]) (by decide) v l.length _ hs hown ad 1 c [.int .i64 y] hx rfl ?_ ?_ (by unfold maxLen; omega) (by omega) hbase ?_
  · intro j u hu
    have hj : j = 0 := by
      rcases Nat.lt_or_ge j 1 with h | h
      · omega
      · rw [List.getElem?_eq_none (by simp; omega)] at hu; cases hu
    subst hj
    simp at hu; subst hu
    simpa [Addr.add] using hc
  · intro u hu; simp at hu; subst hu; rfl
  · intro v' w' h1 h2 _
    refine h v' w' ?_ (fun B hB => (Below.refl _ _).grown h2 (by omega) (fun k hk => ?_))
    · unfold Own; simpa using h1
    · have := hown.base_le k hk; omega

theorem cell_new1 (w : World) (v : Value) (t : TypeId) (k : Nat) (hk : k = w.heap.size) : (w.alloc (.cells #[v] t)).cell? ⟨k, 0, none⟩ = some v := by subst hk; simp [go_sem]

theorem two_more (w : World) (o o' : Obj) : Below w.heap.size w ((w.alloc o).alloc o') := ((Below.refl _ _).alloc (Nat.le_refl _) o).alloc (by simp) o'
theorem two_more2 {w : World} {B : Nat} (h : B ≤ w.heap.size) (o o' : Obj) : Below B w ((w.alloc o).alloc o') := (two_more w o o').mono h
theorem two_le {w : World} {B : Nat} (h : B ≤ w.heap.size) (o o' : Obj) : B ≤ ((w.alloc o).alloc o').heap.size := by simp; omega

theorem sum_take (l : List Int) (k : Nat) (hk : k < l.length) : (l.take (k + 1)).sum = (l.take k).sum + l.getD k 0 := by
  rw [List.take_add_one, List.sum_append, List.getD_eq_getElem?_getD, List.getElem?_eq_getElem hk]
  simp
theorem sum_bd (l : List Int) (hb : ∀ x ∈ l, -1000000 ≤ x ∧ x ≤ 1000000) : -(1000000 * (l.length : Int)) ≤ l.sum ∧ l.sum ≤ 1000000 * (l.length : Int) := by
  induction l with
  | nil => simp
  | cons y l ih =>
    have h1 := hb y (by simp)
    have h2 := ih (fun x hx => hb x (List.mem_cons_of_mem _ hx))
    rw [List.sum_cons, List.length_cons]
    omega

theorem sum_any (D : Option Addr) (n cd : Nat) (d : List Int) (w : World) (hd : Ints w D n d) (hn : n ≤ 1000000) (hb : ∀ x ∈ d, -1000000 ≤ x ∧ x ≤ 1000000) :
    Calls Try.prog 99 #[.slice D n cd] w fun e w' => e = .returned (.int .i64 d.sum) ∧ w = w' := by
  have hD := Lib.hid hd
  have hB := Lib.hid hb
  have hlen := Lib.hid hd.1
  clear hd hb
  go_enter Try.func99, Try.ntmps99
  go_wp2
  go_loopw [3, 8] (fun s i wr => ∃ k : Nat, i = .int .i64 k ∧ k ≤ n ∧ s = .int .i64 ((d.take k).sum) ∧ w = wr) (fun _ i _ => n - (intOf i).toNat)
  case atStart => exact ⟨0, rfl, Nat.zero_le _, rfl, rfl⟩
  case round =>
    obtain ⟨k, rfl, hk, rfl, rfl⟩ := hrel
    by_cases hkn : k < n
    · obtain ⟨b, o, rfl, hbl, hmem, hc⟩ := ints_at hD.out hkn
      have c0 := hc w (Below.refl _ _)
      obtain ⟨x, hx⟩ : ∃ x, d.getD k 0 = x := ⟨_, rfl⟩
      have h1 := hB.out _ (List.mem_of_getElem? hmem)
      have h2 := sum_bd (d.take k) (fun x hx => hB.out x (List.mem_of_mem_take hx))
      have h3 : (d.take k).length = k := by rw [List.length_take]; have := hlen.out; omega
      have HS := Lib.hid (sum_take d k (by have := hlen.out; omega))
      rw [hx] at c0 h1 HS
      rw [h3] at h2
      generalize hS : (d.take k).sum = S at h2 HS ⊢
      clear hc hmem hx h3
      go_wp2
      go_roundw
      case rel => exact ⟨k + 1, by go_num, by omega, by rw [HS.out], trivial⟩
      case measure => simp [intOf]; omega
    · obtain rfl : k = n := by omega
      go_wp2
      go_ret
      exact ⟨by rw [List.take_of_length_le (by have := hlen.out; omega)]; rfl, rfl⟩

/-- Of each the lesser one of a number and what it wants. -/
def capped (xs : List Comer) (m : Int) : List Int := xs.map fun c => min m c.wants

set_option maxRecDepth 100000 in
theorem atMost_any (A : Option Addr) (n cc : Nat) (H m : Int) (xs : List Comer) (w : World) (ha : Arr ccells 3 w A n xs) (hn : n ≤ 12) :
    Calls Try.prog 88 #[mv A n cc H, .int .i64 m] w fun e w' => (∃ D c, e = .returned (.slice D n c) ∧ Ints w' D n (capped xs m)) ∧ Below w.heap.size w w' := by
  have ha0 := Lib.hid ha
  have hlen := Lib.hid ha.1
  clear ha
  unfold mv
  go_enter Try.func88, Try.ntmps88
  go_wp2_with fail
  generalize hW1 : w.alloc (.cells #[.int .i64 H, .slice A n cc] 24) = W1
  obtain ⟨g1, c0, c1⟩ := box2 hW1
  have HG1 := Lib.hid g1
  clear hW1
  go_wp2_with fail
  go_loopw [5, 11] (fun v i wr => ∃ k : Nat, i = .int .i64 k ∧ k ≤ n ∧ Below W1.heap.size W1 wr ∧ Own wr W1.heap.size v ((capped xs m).take k)) (fun _ i _ => n - (intOf i).toNat)
  case atStart => exact ⟨0, rfl, Nat.zero_le _, Below.refl _ _, Own.nil _ _⟩
  case round =>
    obtain ⟨k, rfl, hk, hbl, hown⟩ := hrel
    have HB := Lib.hid hbl
    have HO := Lib.hid hown
    have hsz := hbl.size
    by_cases hkn : k < n
    · obtain ⟨b, o, x, rfl, hb, hx, hc⟩ := comer_at (ha0.out.below (HG1.out.trans (hbl.mono HG1.out.size))) hkn
      obtain ⟨d0, d1, d2⟩ := hc wr (Below.refl _ _)
      have HX := Lib.hid hx
      clear hbl hown hc hx
      have HL : (List.take k (capped xs m)).length < 100000 := by rw [List.length_take]; omega
      go_wp2_with (first | (at_builtin; refine push_int rfl _ _ rfl W1.heap.size _ ((capped xs m).take k) rfl (HO.out.ext (two_more _ _ _)) _ _ _ _ rfl rfl (cell_new1 _ _ _ _ (World.size_alloc _ _).symm) HL (two_le hsz _ _) ?_; intro v' w' ho hbw))
      all_goals
        go_roundw
        case rel =>
          refine ⟨k + 1, by go_num, by omega, HB.out.trans ((two_more2 hsz _ _).trans (hbw _ (Nat.le_refl _))), ?_⟩
          have e : (capped xs m).take (k + 1) = (capped xs m).take k ++ [min m x.wants] := by
            rw [List.take_add_one, capped, List.getElem?_map, HX.out]; rfl
          rw [e]
          rw [show min m x.wants = if x.wants < m then x.wants else m by split <;> omega]
          exact ho
        case measure => simp [intOf]; omega
    · obtain rfl : k = n := by omega
      have hl : (capped xs m).take k = capped xs m := List.take_of_length_le (by rw [capped, List.length_map]; have := hlen.out; omega)
      obtain ⟨D, c, rfl, hi⟩ := hown.ints
      have e : ((capped xs m).take k).length = k := by rw [hl, capped, List.length_map, hlen.out]
      rw [e] at hi
      rw [hl] at hi e
      have HI := Lib.hid hi
      have E := Lib.hid e
      clear hbl hown hi e hl
      go_wp2_with fail
      go_ret
      exact ⟨⟨D, c, by rw [List.take_of_length_le (by rw [E.out]; exact Nat.le_refl _), E.out]; rfl, HI.out⟩, HG1.out.trans (HB.out.mono HG1.out.size)⟩
end Go.Proofs.Ytdhhneflhmkonaa

/- Plain: the turns of the comers. -/
namespace Go.Proofs.Ytdhhneflhmkonaa

/-- One comer's turn. -/
def stepI (xs : List Comer) (H : Nat) (r : Int) (out : List Int) (i : Nat) : List Int :=
  if (xs.getD i ⟨0, 0, 0⟩).wants < r ∨ out.getD i 0 ≠ r - 1 then out
  else if fea xs H (-1) (out.set i (out.getD i 0 + 1)) = true then out.set i (out.getD i 0 + 1) else out
/-- The turns of the first k comers. -/
def rowT (xs : List Comer) (H : Nat) (r : Int) : Nat → List Int → List Int
  | 0, out => out
  | k + 1, out => stepI xs H r (rowT xs H r k out) k
/-- The first r rounds. -/
def turnsT (xs : List Comer) (H : Nat) : Nat → List Int
  | 0 => List.replicate xs.length 0
  | r + 1 => rowT xs H (r + 1) xs.length (turnsT xs H r)
def turnsS (xs : List Comer) (H : Nat) : List Int := turnsT xs H 24

theorem stepI_len (xs : List Comer) (H : Nat) (r : Int) (out : List Int) (i : Nat) : (stepI xs H r out i).length = out.length := by
  unfold stepI; split
  · rfl
  · split <;> simp
theorem rowT_len (xs : List Comer) (H : Nat) (r : Int) : ∀ k out, (rowT xs H r k out).length = out.length
  | 0, _ => rfl
  | k + 1, out => (stepI_len _ _ _ _ _).trans (rowT_len xs H r k out)
theorem turnsT_len (xs : List Comer) (H : Nat) : ∀ r, (turnsT xs H r).length = xs.length
  | 0 => by simp [turnsT]
  | r + 1 => (rowT_len _ _ _ _ _).trans (turnsT_len xs H r)

theorem stepI_bd {xs : List Comer} {H : Nat} {r : Int} {out : List Int} {i : Nat} (hr : 1 ≤ r) (h : ∀ x ∈ out, 0 ≤ x ∧ x ≤ r) : ∀ x ∈ stepI xs H r out i, 0 ≤ x ∧ x ≤ r := by
  unfold stepI; split
  · exact h
  · rename_i hn
    split
    · intro x hx
      rcases List.mem_or_eq_of_mem_set hx with h1 | h1
      · exact h x h1
      · omega
    · exact h
theorem rowT_bd {xs : List Comer} {H : Nat} {r : Int} (hr : 1 ≤ r) : ∀ k out, (∀ x ∈ out, 0 ≤ x ∧ x ≤ r) → ∀ x ∈ rowT xs H r k out, 0 ≤ x ∧ x ≤ r
  | 0, _, h => h
  | k + 1, out, h => stepI_bd hr (rowT_bd hr k out h)
theorem turnsT_bd (xs : List Comer) (H : Nat) : ∀ r : Nat, ∀ x ∈ turnsT xs H r, 0 ≤ x ∧ x ≤ (r : Int)
  | 0 => by intro x hx; simp [turnsT] at hx; omega
  | r + 1 => by
    have := rowT_bd (xs := xs) (H := H) (r := (r : Int) + 1) (by omega) xs.length (turnsT xs H r) (fun x hx => by have := turnsT_bd xs H r x hx; omega)
    intro x hx
    have := this x hx
    simpa using this

theorem sum_le_of {l : List Int} {f : Nat → Nat} (h : ∀ i, i < l.length → l.getD i 0 ≤ f i) : l.sum ≤ (sumS l.length (fun _ => true) f : Nat) := by
  have : ∀ k, k ≤ l.length → (l.take k).sum ≤ (sumS k (fun _ => true) f : Nat) := by
    intro k
    induction k with
    | zero => intro _; simp [sumS]
    | succ k ih =>
      intro hk
      rw [sum_take l k (by omega), sumS_succ]
      have := ih (by omega)
      have := h k (by omega)
      rw [if_pos rfl]; omega
  have := this l.length (Nat.le_refl _)
  rwa [List.take_length] at this
theorem fea_sum {xs : List Comer} {H : Nat} {b : Int} {d : List Int} (hd : d.length = xs.length) (h : fea xs H b d = true) : d.sum ≤ H := by
  obtain ⟨wh, h1, h2⟩ := (fea_iff hd).1 h
  have := sum_le_of (l := d) (f := fun j => wh.count (j : Int)) (fun i hi => h2 i (by omega))
  rw [sum_count] at this
  have h3 := List.countP_le_length (p := inS d.length (fun _ => true)) (l := wh)
  rw [h1.len] at h3
  omega
end Go.Proofs.Ytdhhneflhmkonaa
