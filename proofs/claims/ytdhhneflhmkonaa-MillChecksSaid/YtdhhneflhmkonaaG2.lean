/- The mill's plan: the step of the search ('give'). -/
import Derived.Test.YtdhhneflhmkonaaG1
import Derived.Test.YtdhhneflhmkonaaP1
namespace Go.Proofs.Ytdhhneflhmkonaa
open Go.RowKit Go.Shelf
attribute [local go_sem] Oper.semAt_some

theorem Blk.own {W W' : World} {g : Nat} {t : TypeId} {cs : Array Value} {row : Option Nat} (h : Blk W g t cs) (hg : W.grownBy W' row) (hr : ∀ r, row = some r → ∃ o : Obj, W.heap[r]? = some o ∧ o.isCells = false) : Blk W' g t cs := by
  refine (hg.block g h.lt ?_).trans h
  intro e
  obtain ⟨o, ho, hc⟩ := hr g e.symm
  rw [show W.heap[g]? = _ from h] at ho
  cases ho; cases hc
theorem Fix.own {A W W' : World} {bw bs : Nat} {row : Option Nat} (h : Fix bw bs A W) (hg : W.grownBy W' row) (hr : ∀ r, row = some r → A.heap.size ≤ r) : Fix bw bs A W' :=
  ⟨hg.os.trans h.os, hg.tape.trans h.tape, hg.output.trans h.output, Nat.le_trans h.size hg.size, fun k hk h1 h2 =>
    (hg.block k (Nat.lt_of_lt_of_le hk h.size) (fun e => by have := hr k e.symm; omega)).trans (h.block k hk h1 h2)⟩

def hrs (xs : List Comer) (i : Nat) : Nat := (xs.getD i ⟨0, 0, 0⟩).hours.toNat
/-- Whether comer i can come at hour h, of the hours that are left. -/
def adj (xs : List Comer) (left : Nat) (i h : Nat) : Bool := (hrs xs i &&& left).testBit h
def vals (l : List Int) : Array Value := (l.map (Value.int .i64)).toArray

theorem vals_get (l : List Int) (i : Nat) : (vals l)[i]? = (l[i]?).map (Value.int .i64) := by simp [vals]
theorem vals_set (l : List Int) (i : Nat) (v : Int) : (vals l).setIfInBounds i (.int .i64 v) = vals (l.set i v) := by
  simp [vals, List.map_set]

/-- What stands still while a plan is searched. -/
structure PC (W : World) (bpp bps bst bp bw bs b o n cc H left : Nat) (xs : List Comer) : Prop where
  pp : W.cell? ⟨bpp, 0, none⟩ = some (.pointer (some ⟨bp, 0, none⟩))
  ps : W.cell? ⟨bps, 0, none⟩ = some (.pointer (some ⟨bs, 0, none⟩))
  st : W.cell? ⟨bst, 0, none⟩ = some (.func (.func 108) #[] #[.pointer (some ⟨bpp, 0, none⟩), .pointer (some ⟨bps, 0, none⟩), .pointer (some ⟨bst, 0, none⟩)])
  h0 : W.cell? ⟨bp, 0, none⟩ = some (.int .i64 H)
  h1 : W.cell? ⟨bp, 1, none⟩ = some (.slice (some ⟨b, o, none⟩) n cc)
  h2 : W.cell? ⟨bp, 2, none⟩ = some (.slice (some ⟨bw, 0, none⟩) H H)
  h3 : W.cell? ⟨bp, 3, none⟩ = some (.int .i64 left)
  hx : ∀ i, i < n → W.cell? ⟨b, o + i * 3 + 1, none⟩ = some (.int .i64 (hrs xs i : Nat))
  n1 : bpp ≠ bw
  n2 : bpp ≠ bs
  n3 : bps ≠ bw
  n4 : bps ≠ bs
  n5 : bst ≠ bw
  n6 : bst ≠ bs
  n7 : bp ≠ bw
  n8 : bp ≠ bs
  n9 : b ≠ bw
  n10 : b ≠ bs
  n11 : bw ≠ bs

theorem PC.fix {W W' : World} {bpp bps bst bp bw bs b o n cc H left : Nat} {xs : List Comer} (h : PC W bpp bps bst bp bw bs b o n cc H left xs) (f : Fix bw bs W W') : PC W' bpp bps bst bp bw bs b o n cc H left xs :=
  ⟨f.cell h.pp h.n1 h.n2, f.cell h.ps h.n3 h.n4, f.cell h.st h.n5 h.n6, f.cell h.h0 h.n7 h.n8, f.cell h.h1 h.n7 h.n8, f.cell h.h2 h.n7 h.n8, f.cell h.h3 h.n7 h.n8, fun i hi => f.cell (h.hx i hi) h.n9 h.n10,
   h.n1, h.n2, h.n3, h.n4, h.n5, h.n6, h.n7, h.n8, h.n9, h.n10, h.n11⟩

theorem keepsFrom_of_fix {W W' : World} {bw bs : Nat} (B : Nat) {t t' : TypeId} {cs cs' : Array Value} (h : Fix bw bs W W') (hw : Blk W bw t cs) (hs : Blk W bs t' cs') : KeepsFrom B W W' :=
  ⟨h.size, fun k o _ hk ho => by
    refine (h.block k (Array.getElem?_eq_some_iff.1 hk).1 ?_ ?_).trans hk
    · rintro rfl; rw [show W.heap[k]? = _ from hw] at hk; cases hk; cases ho
    · rintro rfl; rw [show W.heap[k]? = _ from hs] at hk; cases hk; cases ho⟩
theorem zip1 (p : Nat) (v : Value) (t : Array Value) : (#[p].zip #[v]).foldl (fun t (x : Nat × Value) => match x with | (p, v) => t.setIfInBounds p v) t = t.setIfInBounds p v := by simp
theorem Blk.drewN {w : World} {g : Nat} {t : TypeId} {cs : Array Value} (h : Blk w g t cs) (n : Nat) : Blk (w.drewN n) g t cs := h
theorem Fix.drewN {w W : World} {bw bs : Nat} (h : Fix bw bs W w) (n : Nat) : Fix bw bs W (w.drewN n) := ⟨h.os, h.tape, h.output, h.size, h.block⟩
theorem orbit (sc h : Nat) (hs : sc < 16777216) (hh : h < 24) : bits .or .i64 (sc : Int) (wrap64 (2 ^ h)) = ((sc ||| 2 ^ h : Nat) : Int) := by
  have h1 : 2 ^ h < 2 ^ 24 := Nat.pow_lt_pow_right (by decide) hh
  have e : wrap64 ((2 : Int) ^ h) = ((2 ^ h : Nat) : Int) := by
    rw [show (2 : Int) ^ h = ((2 ^ h : Nat) : Int) by simp]; generalize 2 ^ h = q at h1 ⊢; exact IntWalk.wrap64_in _ ⟨by omega, by omega⟩
  rw [e]; exact or64 sc (2 ^ h) (by omega) (by omega)

theorem Fix.putObj {A W : World} {bw bs : Nat} (h : Fix bw bs A W) {D : Nat} (hD : A.heap.size ≤ D) (o : Obj) : Fix bw bs A (W.putObj D o) :=
  ⟨h.os, h.tape, h.output, by simpa using h.size, fun k hk h1 h2 => (World.putObj_heap_other (by omega)).trans (h.block k hk h1 h2)⟩
theorem Blk.putObj {W : World} {g : Nat} {t : TypeId} {cs : Array Value} (h : Blk W g t cs) {D : Nat} (hD : g ≠ D) (o : Obj) : Blk (W.putObj D o) g t cs := (World.putObj_heap_other hD).trans h

/-- How a step leaves the world. -/
def StepPost (bw bs n H left : Nat) (xs : List Comer) (c s : Nat) (wh : List Int) (W : World) (e : Ending) (W' : World) : Prop :=
  ∃ (ok : Bool) (s' : Nat) (wh' : List Int), e = .returned (.bool ok) ∧ Fix bw bs W W' ∧ Blk W' bw 3 (vals wh') ∧ Blk W' bs 3 #[.int .i64 s'] ∧ s' < 2 ^ H ∧ Sub s s' ∧
    (ok = true → StepT n H (adj xs left) c s wh wh') ∧ (ok = false → wh' = wh ∧ StepF n H (adj xs left) c s wh s')

/-- Between two rounds. -/
def StepR (bw bs n H left : Nat) (xs : List Comer) (s : Nat) (wh : List Int) (W4 : World) (pre : List Nat) (W' : World) : Prop :=
  Fix bw bs W4 W' ∧ Blk W' bw 3 (vals wh) ∧ ∃ sc : Nat, Blk W' bs 3 #[.int .i64 sc] ∧ StepI n H (adj xs left) s wh pre sc
/-- A round has returned. -/
def StepX (bw bs br n H left : Nat) (xs : List Comer) (c s : Nat) (wh : List Int) (W : World) (W' : World) : Prop :=
  Fix bw bs W W' ∧ Blk W' br 4 #[.bool true] ∧ ∃ (s' : Nat) (wh' : List Int), Blk W' bw 3 (vals wh') ∧ Blk W' bs 3 #[.int .i64 s'] ∧ s' < 2 ^ H ∧ Sub s s' ∧ StepT n H (adj xs left) c s wh wh'

theorem plan_hours_any (a : Addr) (c : Int) (w : World) :
    Calls Try.prog 109 #[.pointer (some a), .int .i64 c] w fun e w' => e = .returned (.func (.func 123) #[] #[.pointer (some ⟨w.heap.size, 0, none⟩), .pointer (some ⟨w.heap.size + 1, 0, none⟩)]) ∧
      (w.alloc (.cells #[.pointer (some a)] 84)).alloc (.cells #[.int .i64 c] 3) = w' := by
  go_enter Try.func109, Try.ntmps109
  go_wp2
  go_ret
  exact ⟨rfl, rfl⟩

theorem ret_end {bw bs n H left : Nat} {xs : List Comer} {c s s1 hq d3 B : Nat} {wh wh1 : List Int} {W Wr W6 : World} {b : Bool} (hbwlt : bw < W.heap.size) (hbslt : bs < W.heap.size) (_hB : W.heap.size + 1 < B)
    (hr : Fix bw bs W Wr) (F6 : Fix bw bs Wr W6) (hbw : Blk Wr bw 3 (vals wh)) {sc : Value} (hbs : Blk Wr bs 3 #[sc]) (B6 : Blk W6 bw 3 (vals wh1)) (S6 : Blk W6 bs 3 #[.int .i64 s1]) (M2 : Blk W6 (W.heap.size + 1) 4 #[.bool b]) (hne : bw ≠ bs)
    (hlt : s1 < 2 ^ H) (hsub : Sub s s1) (hT : StepT n H (adj xs left) c s wh (wh1.set hq c)) :
    KeepsFrom B Wr (((W6.drewN d3).setCell ⟨bw, hq, none⟩ (.int .i64 c)).setCell ⟨W.heap.size + 1, 0, none⟩ (.bool true)) ∧
    (Code.ret = Code.ret ∧ StepX bw bs (W.heap.size + 1) n H left xs c s wh W (((W6.drewN d3).setCell ⟨bw, hq, none⟩ (.int .i64 c)).setCell ⟨W.heap.size + 1, 0, none⟩ (.bool true))) := by
  have f1 : Fix bw bs Wr ((W6.drewN d3).setCell ⟨bw, hq, none⟩ (.int .i64 c)) := (F6.drewN d3).setCell (.inl rfl) _
  refine ⟨(keepsFrom_of_fix B f1 hbw hbs).trans ((KeepsOthers.setCell _ _ _).from _), rfl, (hr.trans f1).setCell (.inr (.inr (by simp))) _, ?_, s1, wh1.set hq c, ?_, ?_, hlt, hsub, hT⟩
  · exact ((M2.drewN d3).far (p := ⟨bw, hq, none⟩) (by simp; omega) _).set_ 0 _
  · have := (B6.drewN d3).set_ hq (.int .i64 c)
    rw [vals_set] at this
    exact this.far (by simp; omega) _
  · exact ((S6.drewN d3).far (p := ⟨bw, hq, none⟩) (fun e => hne e.symm) _).far (by simp; omega) _

set_option maxRecDepth 100000 in
set_option maxHeartbeats 4000000 in
theorem step_any (bpp bps bst bp bw bs b o n cc H left : Nat) (xs : List Comer) (hH : H ≤ 24) (hl : left < 16777216) (hhr : ∀ i, i < n → hrs xs i < 16777216) :
    ∀ (N : Nat) (W : World) (c s : Nat) (wh : List Int), unseen H s ≤ N → PC W bpp bps bst bp bw bs b o n cc H left xs → Blk W bw 3 (vals wh) → Blk W bs 3 #[.int .i64 s] → wh.length = H →
      (∀ (h : Nat) (x : Int), wh[h]? = some x → x = -1 ∨ ∃ i : Nat, x = i ∧ i < n) → s < 2 ^ H → c < n →
      Calls Try.prog 108 #[.int .i64 c, .pointer (some ⟨bpp, 0, none⟩), .pointer (some ⟨bps, 0, none⟩), .pointer (some ⟨bst, 0, none⟩)] W (StepPost bw bs n H left xs c s wh W) := by
  intro N
  induction N using Nat.strongRecOn with
  | _ N ih =>
  intro W c s wh hN hpc hbw hbs hwl hwv hs hc
  have IH := Lib.hid ih
  have PC0 := Lib.hid hpc
  have p0 := hpc.pp
  have l0 := World.block_lt_of_cell? W _ p0
  dsimp only at l0
  have l1 : bpp < W.heap.size + 1 := by omega
  have BW := Lib.hid hbw
  have BS := Lib.hid hbs
  have WV := Lib.hid hwv
  have HN := Lib.hid hN
  have HS := Lib.hid hs
  have HWL := Lib.hid hwl
  have HHR := Lib.hid hhr
  clear ih hpc hbw hbs hwv hN hs hwl hhr
  refine (callsIn_wide (n := 4)).1 (callsIn_of_wp_marks Try.func108 rfl trivial ?_ rfl)
  simp only [Try.ntmps108, List.size_toArray, List.length_cons, List.length_nil, Nat.reduceAdd, Nat.reduceSub, Array.replicate_succ, Array.replicate_zero, List.push_toArray, List.append_toArray, List.nil_append, List.cons_append]
  gi_wp2_with fail
  refine ⟨trivial, (callsIn_wide.2 (plan_hours_any _ _ _)).mono ?_⟩
  rintro e w' ⟨rfl, hw'⟩
  have hb1 : Blk w' W.heap.size 3 #[.int .i64 c] := by rw [← hw']; exact (((Blk.new _ _ _).alloc _).alloc _).alloc _
  have hb2 : Blk w' (W.heap.size + 1) 4 #[.bool false] := by
    rw [← hw']; have := Blk.new (W.alloc (.cells #[.int .i64 c] 3)) 4 #[.bool false]; rw [World.size_alloc] at this; exact (this.alloc _).alloc _
  have hb3 : Blk w' (W.heap.size + 1 + 1) 84 #[.pointer (some ⟨bp, 0, none⟩)] := by
    rw [← hw']; have := Blk.new ((W.alloc (.cells #[.int .i64 c] 3)).alloc (.cells #[.bool false] 4)) 84 #[.pointer (some ⟨bp, 0, none⟩)]; simp only [World.size_alloc] at this; exact this.alloc _
  have hb4 : Blk w' (W.heap.size + 1 + 1 + 1) 3 #[.int .i64 c] := by
    rw [← hw']; have := Blk.new (((W.alloc (.cells #[.int .i64 c] 3)).alloc (.cells #[.bool false] 4)).alloc (.cells #[.pointer (some ⟨bp, 0, none⟩)] 84)) 3 #[.int .i64 c]; simp only [World.size_alloc] at this; exact this
  have hsz : w'.heap.size = W.heap.size + 4 := by rw [← hw']; simp
  have hbel : Below W.heap.size W w' := by rw [← hw']; exact ((((Below.refl _ _).alloc (Nat.le_refl _) _).alloc (by simp) _).alloc (by simp; omega) _).alloc (by simp; omega) _
  clear hw'
  rename World => W4
  gi_wp2_with fail
  have PC4 := (PC0.out.fix (Fix.of_below hbel))
  have hFb : Fix bw bs W W4 := Fix.of_below hbel
  have hbwlt := BW.out.lt
  have hbslt := BS.out.lt
  have Hsz := Lib.hid hsz
  have Hbel := Lib.hid hbel
  have Hfb := Lib.hid hFb
  have PC4' := Lib.hid PC4
  have hseq := hours1_stops 3 W4 (W.heap.size + 1 + 1) (W.heap.size + 1 + 1 + 1) bp bw bs c b o n cc H (hrs xs c) left (hb3.cell 0) (hb4.cell 0) PC4.h0 PC4.h1 PC4.h3 (PC4.hx c hc) hc hH (HHR.out c hc) hl
    (by omega) (by omega) (by omega) (by omega) PC4.n7 PC4.n8 PC4.n9 PC4.n10
  have HSQ := Lib.hid hseq
  clear hseq PC4 hFb hbel hsz
  refine wpIn_rangeFunc_ownG (α := Hr H (hrs xs c &&& left)) (F := Fence.wide) (n := 4) rfl (by omega) (gf := 123) (lb := #[.pointer (some ⟨W.heap.size + 1 + 1, 0, none⟩), .pointer (some ⟨W.heap.size + 1 + 1 + 1, 0, none⟩)]) rfl trivial
    (enters_of Try.func123 (by kernel_rfl) rfl) HSQ.out (fun h k => FixTo.trans h k) ?hKb (Below.refl _ _) (fun _ => rfl)
    (fun pre W' => StepR bw bs n H left xs s wh W4 (pre.map (·.1)) W') (fun cde _ W' => cde = .ret ∧ StepX bw bs (W.heap.size + 1) n H left xs c s wh W W') ?hI ?hIx ?h0 (fun x => { tmps := #[.int .i64 c, .pointer (some ⟨bpp, 0, none⟩), .pointer (some ⟨bps, 0, none⟩), .pointer (some ⟨bst, 0, none⟩), .pointer (some ⟨W.heap.size, 0, none⟩), .pointer (some ⟨W.heap.size + 1, 0, none⟩), .int .i64 x.1, .pointer (some ⟨bp, 0, none⟩), .int .i64 c, .func (.func 123) #[] #[.pointer (some ⟨W.heap.size + 1 + 1, 0, none⟩), .pointer (some ⟨W.heap.size + 1 + 1 + 1, 0, none⟩)], .int .i64 x.1, undef, undef, undef, undef, undef, undef, undef, undef, undef, undef, undef, undef, undef, undef, undef, undef, undef, undef, undef, undef, undef, undef, undef, undef, undef, undef, undef, undef, undef, undef, undef, undef, undef, undef, undef, undef, undef, undef, undef, undef], defers := [] }) ?assign ?body ?done ?stop
  case assign =>
    intro l x Wa K hK
    unfold encHr
    rw [zip1]
    simp only [List.setIfInBounds_toArray, List.set_cons_zero, List.set_cons_succ]
    gi_wp2
    exact hK
  case hKb =>
    intro Wb l o o' hl ho _ _
    exact FixTo.putObj _ _ _ _ (by omega) _
  case hI =>
    rintro pre A B row ⟨hfx, hbw, sc, hbs, hi⟩ hg hr
    have hr1 : ∀ r, row = some r → ∃ o : Obj, A.heap[r]? = some o ∧ o.isCells = false := fun r e => (hr r e).2
    exact ⟨hfx.own hg (fun r e => (hr r e).1), hbw.own hg hr1, sc, hbs.own hg hr1, hi⟩
  case hIx =>
    rintro cde pre A B row ⟨e, hfx, hbr, s2, wh2, hbw, hbs, rest⟩ hg hr
    have hr1 : ∀ r, row = some r → ∃ o : Obj, A.heap[r]? = some o ∧ o.isCells = false := fun r e => (hr r e).2
    have hWn := Hbel.out.size
    exact ⟨e, hfx.own hg (fun r e => Nat.le_trans hWn (hr r e).1), hbr.own hg hr1, s2, wh2, hbw.own hg hr1, hbs.own hg hr1, rest⟩
  case h0 => exact ⟨Fix.refl _ _ _, BW.out.ext Hbel.out, s, BS.out.ext Hbel.out, StepI.start HS.out⟩
  case body =>
    rintro l pre x Wr ⟨hfx, hbw, sc, hbs, hi⟩ _
    have HB1 := Lib.hid (hfx.blk hb1 (by omega) (by omega))
    have HB2 := Lib.hid (hfx.blk hb2 (by omega) (by omega))
    have PCr := PC4'.out.fix hfx
    have p0 := PCr.pp
    have p1 := PCr.ps
    have p2 := PCr.st
    have p3 := PCr.h0
    have p4 := PCr.h2
    have c0 : Wr.cell? ⟨bs, 0, none⟩ = some (.int .i64 sc) := hbs.cell 0
    have f0 := hbs.frozen 0
    have hxH := x.2.1
    have Hx2 := Lib.hid x.2.2
    have HI := Lib.hid hi
    have hsc : sc < 16777216 := Nat.lt_of_lt_of_le hi.lt (Nat.pow_le_pow_right (by decide) hH)
    have Hb := Lib.hid (bit64 sc x.1 (by omega))
    have Hfx := Lib.hid hfx
    have HBW := Lib.hid hbw
    have HBS := Lib.hid hbs
    have HPC := Lib.hid PCr
    clear hfx hbw hbs hi PCr
    obtain ⟨hq, hh⟩ : ∃ hq, x.1 = hq := ⟨_, rfl⟩
    rw [hh] at Hb hxH Hx2 ⊢
    cases ht : sc.testBit hq with
    | true =>
      have hbit : (bits .and .i64 ((sc : Int) / 2 ^ hq) 1 == 1) = true := Hb.out.trans ht
      gi_wp2
      exact ⟨KeepsFrom.refl _ _, FixTo.refl _ _ _ _, Hfx.out, HBW.out, sc, HBS.out, by rw [List.map_append, List.map_cons, List.map_nil, hh]; exact HI.out.again ht⟩
    | false =>
      have hbit : (bits .and .i64 ((sc : Int) / 2 ^ hq) 1 == 1) = false := Hb.out.trans ht
      gi_wp2
      refine wpIn_region_quiet_tail (Open.round l) 7 (C := fun w' => ∃ n, w' = Wr.drewN n) (by kernel_rfl) (by kernel_rfl) (by kernel_rfl) ⟨1, rfl⟩ ?_
      simp only [List.take_succ_cons, List.take_zero, List.drop_succ_cons, List.drop_zero]
      repeat (go_big_quiet_step (fail))
      refine wpQuiet_nil ?_
      rintro _ ⟨d, rfl⟩
      gi_wp2
      have ev := orbit sc hq hsc (by omega)
      rw [ev]
      have hbs5 : Blk ((Wr.drewN d).setCell ⟨bs, 0, none⟩ (.int .i64 ((sc ||| 2 ^ hq : Nat) : Int))) bs 3 #[.int .i64 ((sc ||| 2 ^ hq : Nat) : Int)] := (HBS.out.drewN d).set_ 0 _
      have hbw5 : Blk ((Wr.drewN d).setCell ⟨bs, 0, none⟩ (.int .i64 ((sc ||| 2 ^ hq : Nat) : Int))) bw 3 (vals wh) := (HBW.out.drewN d).far HPC.out.n11 _
      have hf5 : Fix bw bs Wr ((Wr.drewN d).setCell ⟨bs, 0, none⟩ (.int .i64 ((sc ||| 2 ^ hq : Nat) : Int))) := ((Fix.refl bw bs Wr).drewN d).setCell (.inr (.inl rfl)) _
      generalize (Wr.drewN d).setCell ⟨bs, 0, none⟩ (.int .i64 ((sc ||| 2 ^ hq : Nat) : Int)) = W5 at hbs5 hbw5 hf5 ⊢
      have hlt1 : sc ||| 2 ^ hq < 2 ^ H := put_lt HI.out.lt hxH
      have hsub1 : Sub s (sc ||| 2 ^ hq) := HI.out.sub.trans (Sub.or _ _)
      have hun : unseen H (sc ||| 2 ^ hq) < N := Nat.lt_of_lt_of_le (Nat.lt_of_lt_of_le (unseen_lt (Sub.or sc (2 ^ hq)) hxH ht put_bit) (unseen_le HI.out.sub)) HN.out
      obtain ⟨s1, hs1⟩ : ∃ s1, sc ||| 2 ^ hq = s1 := ⟨_, rfl⟩
      have Hs1 := Lib.hid hs1
      rw [hs1] at hbs5 hlt1 hsub1 hun ⊢
      have HPC5 := Lib.hid (HPC.out.fix hf5)
      clear p0 p1 p2 p3 p4 c0 f0 hbit ev hs1
      have p0 := HPC5.out.pp
      have p1 := HPC5.out.ps
      have p2 := HPC5.out.st
      have p4 := HPC5.out.h2
      have Hbs5 := Lib.hid hbs5
      have Hbw5 := Lib.hid hbw5
      have Hf5 := Lib.hid hf5
      have Hlt1 := Lib.hid hlt1
      have Hsub1 := Lib.hid hsub1
      have Hun := Lib.hid hun
      have hwlt : hq < wh.length := by have := HWL.out; omega
      obtain ⟨a, ha⟩ : ∃ a, wh[hq]? = some a := ⟨_, List.getElem?_eq_getElem hwlt⟩
      have q0 : W5.cell? ⟨bw, hq, none⟩ = some (.int .i64 a) := by rw [hbw5.cell hq, vals_get, ha]; rfl
      have q1 := hbw5.frozen hq
      have Ha := Lib.hid ha
      clear hbs5 hbw5 hf5 hlt1 hsub1 hun ha hwlt
      rcases WV.out hq a Ha.out with rfl | ⟨i, rfl, hi⟩
      · refine wpIn_region_quiet_tail (Open.round l) 17 (C := fun w' => ∃ n, w' = W5.drewN n) (by kernel_rfl) (by kernel_rfl) (by kernel_rfl) ⟨1, rfl⟩ ?_
        simp only [List.take_succ_cons, List.take_zero, List.drop_succ_cons, List.drop_zero]
        repeat (go_big_quiet_step (fail))
        refine wpQuiet_nil ?_
        rintro _ ⟨d2, rfl⟩
        gi_wp2
        refine ⟨fun _ h => (by cases h), ?_⟩
        have F6 := Hf5.out.drewN d2
        have PC6 := HPC5.out.fix ((Fix.refl bw bs W5).drewN d2)
        have B6 := Hbw5.out.drewN d2
        have S6 := Hbs5.out.drewN d2
        have m1 := F6.blk HB1.out (by omega) (by omega)
        have m2 := F6.blk HB2.out (by omega) (by omega)
        generalize W5.drewN d2 = W6 at F6 PC6 B6 S6 m1 m2 ⊢
        have q0 : W6.cell? ⟨bw, hq, none⟩ = some (.int .i64 (-1)) := by rw [B6.cell hq, vals_get, Ha.out]; rfl
        have q1 := B6.frozen hq
        have p0 := PC6.pp
        have p4 := PC6.h2
        have m1c : W6.cell? ⟨W.heap.size, 0, none⟩ = some (.int .i64 c) := m1.cell 0
        have m2c : W6.cell? ⟨W.heap.size + 1, 0, none⟩ = some (.bool false) := m2.cell 0
        have m2f := m2.frozen 0
        have hT := StepT.free (nc := n) (H := H) (adj := adj xs left) HI.out.sub ht Ha.out hc Hx2.out
        have HTT := Lib.hid hT
        have M2 := Lib.hid m2
        have B6' := Lib.hid B6
        have S6' := Lib.hid S6
        have F6' := Lib.hid F6
        have N11 := Lib.hid PC6.n11
        clear hT m1 m2 B6 S6 F6 PC6
        gi_wp2
        refine wpIn_region_quiet_tail (Open.round l) 7 (C := fun w' => ∃ n, w' = W6.drewN n) (by kernel_rfl) (by kernel_rfl) (by kernel_rfl) ⟨1, rfl⟩ ?_
        simp only [List.take_succ_cons, List.take_zero, List.drop_succ_cons, List.drop_zero]
        repeat (go_big_quiet_step (fail))
        refine wpQuiet_nil ?_
        rintro _ ⟨d3, rfl⟩
        gi_wp2
        exact ret_end hbwlt hbslt (by have := Hsz.out; omega) (Hfb.out.trans Hfx.out) F6'.out HBW.out HBS.out B6'.out S6'.out M2.out N11.out Hlt1.out Hsub1.out HTT.out
      · have hne : ((i : Int) == -1) = false := by simp
        refine wpIn_region_quiet_tail (Open.round l) 17 (C := fun w' => ∃ n, w' = W5.drewN n) (by kernel_rfl) (by kernel_rfl) (by kernel_rfl) ⟨1, rfl⟩ ?_
        simp only [List.take_succ_cons, List.take_zero, List.drop_succ_cons, List.drop_zero]
        repeat (go_big_quiet_step (fail))
        refine wpQuiet_nil ?_
        rintro _ ⟨d2, rfl⟩
        gi_wp2_with fail
        have F6 := Hf5.out.drewN d2
        have PC6 := HPC5.out.fix ((Fix.refl bw bs W5).drewN d2)
        have B6 := Hbw5.out.drewN d2
        have S6 := Hbs5.out.drewN d2
        generalize W5.drewN d2 = W6 at F6 PC6 B6 S6 ⊢
        refine ⟨trivial, (CallsIn.inRound l (callsIn_wide.2 (IH.out _ Hun.out W6 i s1 wh (Nat.le_refl _) PC6 B6 S6 HWL.out WV.out Hlt1.out hi))).mono ?_⟩
        rintro e W7 ⟨ok, s2, wh2, rfl, f7, b7, t7, hlt2, hsub2, hyes, hno⟩
        cases ok with
        | false =>
          obtain ⟨rfl, hF⟩ := hno rfl
          have Hend := Lib.hid (F6.trans f7)
          have HbW := Lib.hid b7
          have HbS := Lib.hid t7
          have HFF := Lib.hid hF
          clear f7 b7 t7 hyes hno hF hlt2 hsub2 F6 PC6 B6 S6
          gi_wp2
          have hMore := HI.out.more Ha.out hi (by rw [Hs1.out]; exact HFF.out)
          exact ⟨keepsFrom_of_fix _ Hend.out HBW.out HBS.out, Hend.out.to _, Hfx.out.trans Hend.out, HbW.out, s2, HbS.out, by rw [List.map_append, List.map_cons, List.map_nil, hh]; exact hMore⟩
        | true =>
          have hT := hyes rfl
          have F7 := F6.trans f7
          have PC7 := PC6.fix f7
          have m1 := F7.blk HB1.out (by omega) (by omega)
          have m2 := F7.blk HB2.out (by omega) (by omega)
          have hk : wh2[hq]? = some (i : Int) := (hT.kept hq (by rw [← Hs1.out]; exact put_bit)).trans Ha.out
          have q0 : W7.cell? ⟨bw, hq, none⟩ = some (.int .i64 i) := by rw [b7.cell hq, vals_get, hk]; rfl
          have q1 := b7.frozen hq
          have p0 := PC7.pp
          have p4 := PC7.h2
          have m1c : W7.cell? ⟨W.heap.size, 0, none⟩ = some (.int .i64 c) := m1.cell 0
          have m2c : W7.cell? ⟨W.heap.size + 1, 0, none⟩ = some (.bool false) := m2.cell 0
          have m2f := m2.frozen 0
          have hTM := StepT.moved (H := H) (adj := adj xs left) HI.out.sub ht Ha.out hc Hx2.out (by rw [Hs1.out]; exact hT)
          have HTT := Lib.hid hTM
          have M2 := Lib.hid m2
          have B7' := Lib.hid b7
          have S7' := Lib.hid t7
          have F7' := Lib.hid F7
          have N11 := Lib.hid PC7.n11
          have Hlt2 := Lib.hid hlt2
          have Hsub2 := Lib.hid hsub2
          clear hT hk hTM m1 m2 b7 t7 F7 PC7 f7 F6 PC6 B6 S6 hyes hno hlt2 hsub2
          gi_wp2
          refine wpIn_region_quiet_tail (Open.round l) 7 (C := fun w' => ∃ n, w' = W7.drewN n) (by kernel_rfl) (by kernel_rfl) (by kernel_rfl) ⟨1, rfl⟩ ?_
          simp only [List.take_succ_cons, List.take_zero, List.drop_succ_cons, List.drop_zero]
          repeat (go_big_quiet_step (fail))
          refine wpQuiet_nil ?_
          rintro _ ⟨d3, rfl⟩
          gi_wp2
          exact ret_end hbwlt hbslt (by have := Hsz.out; omega) (Hfb.out.trans Hfx.out) F7'.out HBW.out HBS.out B7'.out S7'.out M2.out N11.out Hlt2.out (Hsub1.out.trans Hsub2.out) HTT.out
  case done =>
    rintro D ys Wd hD hS ⟨hfx, hbw, sc, hbs, hi⟩ hK
    have hb2d := hfx.blk hb2 (by omega) (by omega)
    have m2c : Wd.cell? ⟨W.heap.size + 1, 0, none⟩ = some (.bool false) := hb2d.cell 0
    have m2f := hb2d.frozen 0
    have HK := Lib.hid ((KeepsOthers.setCell Wd ⟨W.heap.size + 1, 0, none⟩ (.bool false)).same D _ hK rfl)
    have hres : (((Wd.setCell ⟨W.heap.size + 1, 0, none⟩ (.bool false)).putObj D (.deferred none)).cell? ⟨W.heap.size + 1, 0, none⟩) = some (.bool false) :=
      (cell_kept (a := ⟨W.heap.size + 1, 0, none⟩) ((hb2d.set_ 0 (.bool false)).cell 0) (grownBy_putObj' _ D (.deferred none)) (fun r e => by cases e; exact ⟨_, HK.out, rfl⟩))
    have HB := Lib.hid hbw
    have HSs := Lib.hid hbs
    have HFX := Lib.hid hfx
    have HII := Lib.hid hi
    have hDn := Hsz.out
    have HDw := Lib.hid (show D ≠ bw ∧ D ≠ bs ∧ W.heap.size ≤ D from by omega)
    clear hbw hbs hfx hi hK hDn
    gi_wp2
    refine ⟨by simp, .inl ⟨_, _, rfl, run_takeDeferred HK.out, ?_⟩⟩
    refine ⟨.bool false, ?_, ?_⟩
    · simp [results, Try.results108, go_sem, hres]
    · refine ⟨false, sc, wh, rfl, ?_, ?_, ?_, HII.out.lt, HII.out.sub, (fun h => by cases h), fun _ => ⟨rfl, HII.out.done (fun h hh ha => ?_)⟩⟩
      · exact ((Hfb.out.trans HFX.out).setCell (.inr (.inr (by simp))) _).putObj HDw.out.2.2 _
      · exact (HB.out.far (by simp; omega) _).putObj (fun e => HDw.out.1 e.symm) _
      · exact (HSs.out.far (by simp; omega) _).putObj (fun e => HDw.out.2.1 e.symm) _
      · rw [hS]; exact List.mem_filter.2 ⟨List.mem_range.2 hh, ha⟩
  case stop =>
    rintro D cde pre Wd hD _ ⟨rfl, hfx, hbr, s2, wh2, hbw, hbs, hlt2, hsub2, hT⟩ hK
    have hres : ((Wd.putObj D (.deferred none)).cell? ⟨W.heap.size + 1, 0, none⟩) = some (.bool true) :=
      (cell_kept (a := ⟨W.heap.size + 1, 0, none⟩) (hbr.cell 0) (grownBy_putObj' _ D (.deferred none)) (fun r e => by cases e; exact ⟨_, hK, rfl⟩))
    have HK := Lib.hid hK
    have HB := Lib.hid hbw
    have HSs := Lib.hid hbs
    have HFX := Lib.hid hfx
    have HT := Lib.hid hT
    have hDn := Hsz.out
    have HDw := Lib.hid (show D ≠ bw ∧ D ≠ bs ∧ W.heap.size ≤ D from by omega)
    clear hbw hbs hfx hT hK hDn hbr
    gi_wp2
    refine ⟨by simp, .inl ⟨_, _, rfl, run_takeDeferred HK.out, ?_⟩⟩
    refine ⟨.bool true, ?_, ?_⟩
    · simp [results, Try.results108, go_sem, hres]
    · refine ⟨true, s2, wh2, rfl, ?_, ?_, ?_, hlt2, hsub2, fun _ => HT.out, (fun h => by cases h)⟩
      · exact HFX.out.putObj HDw.out.2.2 _
      · exact HB.out.putObj (fun e => HDw.out.1 e.symm) _
      · exact HSs.out.putObj (fun e => HDw.out.2.1 e.symm) _
end Go.Proofs.Ytdhhneflhmkonaa
