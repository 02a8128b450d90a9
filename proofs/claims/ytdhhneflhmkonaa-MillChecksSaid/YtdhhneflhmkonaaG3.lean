/- The mill's plan: 'give': one more hour for a comer. -/
import Derived.Test.YtdhhneflhmkonaaG2
import Derived.Laws.EntriesVeiled
namespace Go.Proofs.Ytdhhneflhmkonaa
open Go.RowKit Go.Shelf

/-- A plan that stands: what a search leaves as it is. -/
structure Plan (W : World) (bp bw b o n cc H left : Nat) (xs : List Comer) : Prop where
  h0 : W.cell? ⟨bp, 0, none⟩ = some (.int .i64 H)
  h1 : W.cell? ⟨bp, 1, none⟩ = some (.slice (some ⟨b, o, none⟩) n cc)
  h2 : W.cell? ⟨bp, 2, none⟩ = some (.slice (some ⟨bw, 0, none⟩) H H)
  h3 : W.cell? ⟨bp, 3, none⟩ = some (.int .i64 left)
  hx : ∀ i, i < n → W.cell? ⟨b, o + i * 3 + 1, none⟩ = some (.int .i64 (hrs xs i : Nat))
  n1 : bp ≠ bw
  n2 : b ≠ bw

theorem Plan.fix {W W' : World} {bp bw bs b o n cc H left : Nat} {xs : List Comer} (h : Plan W bp bw b o n cc H left xs) (f : Fix bw bs W W') (e1 : bp ≠ bs) (e2 : b ≠ bs) : Plan W' bp bw b o n cc H left xs :=
  ⟨f.cell h.h0 h.n1 e1, f.cell h.h1 h.n1 e1, f.cell h.h2 h.n1 e1, f.cell h.h3 h.n1 e1, fun i hi => f.cell (h.hx i hi) h.n2 e2, h.n1, h.n2⟩
theorem Plan.ext {W W' : World} {bp bw b o n cc H left : Nat} {xs : List Comer} (h : Plan W bp bw b o n cc H left xs) (f : Below W.heap.size W W') : Plan W' bp bw b o n cc H left xs :=
  ⟨(f.cell (World.block_lt_of_cell? W _ h.h0)).trans h.h0, (f.cell (World.block_lt_of_cell? W _ h.h1)).trans h.h1, (f.cell (World.block_lt_of_cell? W _ h.h2)).trans h.h2, (f.cell (World.block_lt_of_cell? W _ h.h3)).trans h.h3,
   fun i hi => (f.cell (World.block_lt_of_cell? W _ (h.hx i hi))).trans (h.hx i hi), h.n1, h.n2⟩
theorem Plan.far {W : World} {bp bw b o n cc H left : Nat} {xs : List Comer} (h : Plan W bp bw b o n cc H left xs) {p : Addr} (e0 : bp ≠ p.block) (e1 : b ≠ p.block) (u : Value) : Plan (W.setCell p u) bp bw b o n cc H left xs := by
  have k : ∀ a : Addr, a.block ≠ p.block → (W.setCell p u).cell? a = W.cell? a := fun a ha => World.cell?_of_block (Below.heap_setCell _ _ _ _ ha)
  exact ⟨(k _ e0).trans h.h0, (k _ e0).trans h.h1, (k _ e0).trans h.h2, (k _ e0).trans h.h3, fun i hi => (k _ e1).trans (h.hx i hi), h.n1, h.n2⟩

set_option maxRecDepth 100000 in
theorem give_any (bp bw bs b o n cc H left : Nat) (xs : List Comer) (hH : H ≤ 24) (hl : left < 16777216) (hhr : ∀ i, i < n → hrs xs i < 16777216) 
    (W : World) (c s : Nat) (wh : List Int) (hp : Plan W bp bw b o n cc H left xs) (e1 : bp ≠ bs) (e2 : b ≠ bs) (e3 : bw ≠ bs) (hbw : Blk W bw 3 (vals wh)) (hbs : Blk W bs 3 #[.int .i64 s]) (hwl : wh.length = H)
    (hwv : ∀ (h : Nat) (x : Int), wh[h]? = some x → x = -1 ∨ ∃ i : Nat, x = i ∧ i < n) (hs : s < 2 ^ H) (hc : c < n) :
    Calls Try.prog 100 #[.pointer (some ⟨bp, 0, none⟩), .int .i64 c, .pointer (some ⟨bs, 0, none⟩)] W (StepPost bw bs n H left xs c s wh W) := by
  have hbwlt := hbw.lt
  have hbslt := hbs.lt
  have l1 : bp < W.heap.size := World.block_lt_of_cell? W _ hp.h0
  have l2 : b < W.heap.size := World.block_lt_of_cell? W _ (hp.hx c hc)
  go_enter Try.func100, Try.ntmps100
  go_wp2_with fail
  generalize hW1 : W.alloc (.cells #[.pointer (some ⟨bp, 0, none⟩)] 84) = W1
  obtain ⟨g1, c1⟩ := box1 hW1
  rw [← boxSize hW1]
  generalize hW2 : W1.alloc (.cells #[.pointer (some ⟨bs, 0, none⟩)] 111) = W2
  obtain ⟨g2, c2⟩ := box1 hW2
  rw [← boxSize hW2]
  generalize hW3 : W2.alloc (.cells #[.func (.func 108) #[] #[.pointer (some ⟨W.heap.size, 0, none⟩), .pointer (some ⟨W1.heap.size, 0, none⟩), .pointer (some ⟨W2.heap.size, 0, none⟩)]] 120) = W3
  obtain ⟨g3, c3⟩ := box1 hW3
  have s1 := boxSize hW1
  have s2 := boxSize hW2
  have hg := extTrans g1 (extTrans g2 g3)
  have hn1 := hp.n1
  have hn2 := hp.n2
  have C1 := (extTrans g2 g3).cell (p := ⟨W.heap.size, 0, none⟩) (by simp; omega) |>.trans c1
  have C2 := g3.cell (p := ⟨W1.heap.size, 0, none⟩) (by simp; omega) |>.trans c2
  have hp3 := hp.ext hg
  have hPC : PC W3 W.heap.size W1.heap.size W2.heap.size bp bw bs b o n cc H left xs :=
    ⟨C1, C2, c3, hp3.h0, hp3.h1, hp3.h2, hp3.h3, hp3.hx, by omega, by omega, by omega, by omega, by omega, by omega, hn1, e1, hn2, e2, e3⟩
  have hb1 := hbw.ext hg
  have hb2 := hbs.ext hg
  have HF := Lib.hid (Fix.of_below (bw := bw) (bs := bs) hg)
  clear hW1 hW2 hW3 c1 c2 c3 g1 g2 g3 s1 s2 hp hbw hbs hn1 hn2 hbwlt hbslt l1 l2 hg C1 C2 hp3
  refine (step_any W.heap.size W1.heap.size W2.heap.size bp bw bs b o n cc H left xs hH hl hhr _ W3 c s wh (Nat.le_refl _) hPC hb1 hb2 hwl hwv hs hc).mono ?_
  rintro e w' ⟨ok, s2, wh2, rfl, f2, rest⟩
  have hR := Lib.hid rest
  have hF2 := Lib.hid f2
  clear rest f2 hPC hb1 hb2
  go_wp2_with fail
  go_ret
  exact ⟨ok, s2, wh2, rfl, HF.out.trans hF2.out, hR.out⟩
end Go.Proofs.Ytdhhneflhmkonaa
