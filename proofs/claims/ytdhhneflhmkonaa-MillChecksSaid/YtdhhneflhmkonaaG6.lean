/- The mill: 'serves', 'sum'. -/
import Derived.Test.YtdhhneflhmkonaaG5
namespace Go.Proofs.Ytdhhneflhmkonaa
open Go.RowKit Go.Shelf

/-- Whether comer i can come at hour h, an hour being barred (-1: none). -/
def can (xs : List Comer) (barred : Int) (i h : Nat) : Bool := (hrs xs i).testBit h && decide ((h : Int) ≠ barred)
/-- Whether demands can be met. -/
def fea (xs : List Comer) (H : Nat) (barred : Int) (d : List Int) : Bool := feasB xs.length (can xs barred) H d

theorem Feas.congr {n H : Nat} {adj adj' : Nat → Nat → Bool} {d : Nat → Int} (h : Feas n H adj d) (e : ∀ i k, i < n → k < H → adj i k = adj' i k) : Feas n H adj' d := by
  obtain ⟨wh, h1, h2⟩ := h
  refine ⟨wh, ⟨h1.len, fun k x hx => ?_⟩, h2⟩
  have hk : k < H := by rw [← h1.len]; exact (List.getElem?_eq_some_iff.1 hx).1
  rcases h1.ok k x hx with h | ⟨i, e1, e2, e3⟩
  · exact .inl h
  · exact .inr ⟨i, e1, e2, by rw [← e i k e2 hk]; exact e3⟩

theorem adj_can {xs : List Comer} {left H : Nat} {barred : Int} (hl : ∀ h, left.testBit h = (decide (h < H) && decide ((h : Int) ≠ barred))) (i h : Nat) (hh : h < H) : adj xs left i h = can xs barred i h := by
  unfold adj can
  rw [Nat.testBit_and, hl]; simp [hh]

theorem fea_iff {xs : List Comer} {H : Nat} {barred : Int} {d : List Int} (hd : d.length = xs.length) : fea xs H barred d = true ↔ Feas xs.length H (can xs barred) (fun i => d.getD i 0) :=
  feasB_iff _ _ _ _ hd

theorem ServePost.ok {bw n H left : Nat} {xs : List Comer} {d : List Int} {W W' : World} {e : Ending} {barred : Int} (h : ServePost bw n H left xs d W e W') (hn : xs.length = n) (hd : d.length = n)
    (hl : ∀ h, left.testBit h = (decide (h < H) && decide ((h : Int) ≠ barred))) : Fix bw bw W W' ∧ ∃ v, e = .returned (.tuple #[.int .i64 v, .bool (fea xs H barred d)]) := by
  obtain ⟨hf, wh, -, ha, hc⟩ := h
  refine ⟨hf, ?_⟩
  rcases hc with ⟨rfl, hc⟩ | ⟨c, s, rfl, hcn, hs, hle, hlt⟩
  · have hF : Feas n H (adj xs left) (fun i => d.getD i 0) := ⟨wh, ha, fun i hi => by have := hc i hi; dsimp only; omega⟩
    have := (fea_iff (H := H) (barred := barred) (hd.trans hn.symm)).2 (by rw [hn]; exact hF.congr (fun i k _ hk => adj_can hl i k hk))
    exact ⟨0, by rw [this]⟩
  · have hF := hs.no ha (d := fun i => d.getD i 0) (fun i hi => by have := hle i hi; omega) hcn (by omega)
    have : fea xs H barred d = false := by
      cases hq : fea xs H barred d with
      | false => rfl
      | true =>
        have := (fea_iff (hd.trans hn.symm)).1 hq
        rw [hn] at this
        exact absurd (this.congr (fun i k _ hk => (adj_can hl i k hk).symm)) hF
    exact ⟨_, by rw [this]⟩

theorem Fix.calm {A W W' : World} {bw : Nat} (hg : Below A.heap.size A W) (h : Fix bw bw W W') (hb : A.heap.size ≤ bw) : Below A.heap.size A W' :=
  hg.trans ⟨h.os, h.tape, h.output, h.size, fun i hi => h.block i (Nat.lt_of_lt_of_le hi hg.size) (by omega) (by omega)⟩

set_option maxRecDepth 100000 in
theorem serves_any (A D : Option Addr) (n cc cd H : Nat) (xs : List Comer) (d : List Int) (w : World) (ha : Arr ccells 3 w A n xs) (hX : Hrs xs) (hH : H ≤ 24) (hn : n ≤ 12) (hd : Ints w D n d) (hdb : ∀ x ∈ d, x ≤ 9223372036854775807) :
    Calls Try.prog 70 #[mv A n cc H, .slice D n cd] w fun e w' => e = .returned (.bool (fea xs H (-1) d)) ∧ Below w.heap.size w w' := by
  have ha0 := Lib.hid ha
  have hd0 := Lib.hid hd
  have hX0 := Lib.hid hX
  have hB0 := Lib.hid hdb
  clear ha hd hX hdb
  unfold mv
  go_enter Try.func70, Try.ntmps70
  go_wp2_with fail
  generalize hW1 : w.alloc (.cells #[.int .i64 H, .slice A n cc] 24) = W1
  obtain ⟨g1, c0, c1⟩ := box2 hW1
  have HG1 := Lib.hid g1
  clear hW1
  refine (open_any A n cc H xs (-1) W1 (ha0.out.below g1) hH (by omega) (by omega)).mono ?_
  rintro e W2 ⟨bp, bw, left, rfl, hmp, hbw, hl, hlb, hge, g2⟩
  have hd2 := (hd0.out.below g1).below g2
  have hD : ∀ b o, D = some ⟨b, o, none⟩ → 0 < n → b ≠ bw := fun b o e hn => by
    obtain ⟨b', o', e', hlt, _⟩ := (hd0.out.below g1).2 hn; rw [e] at e'; cases e'; omega
  have HG := Lib.hid (extTrans HG1.out g2)
  have HMP := Lib.hid hmp
  have HBW := Lib.hid hbw
  have HL := Lib.hid hlb
  have HD2 := Lib.hid hd2
  have HDn := Lib.hid hD
  have HGE := Lib.hid (show w.heap.size ≤ bw from Nat.le_trans g1.size hge)
  clear hmp hbw hlb hd2 hD hge g1 g2 c0 c1
  go_wp2_with fail
  refine (serve_any bp bw n cc H left cd A D xs d W2 HMP.out hX0.out hH hl hn HBW.out HD2.out HDn.out hB0.out).mono ?_
  rintro e W3 hsp
  obtain ⟨hf, v, rfl⟩ := hsp.ok HMP.out.arr.1 HD2.out.1 HL.out
  have HF := Lib.hid hf
  clear hf hsp
  go_wp2_with fail
  go_ret
  exact ⟨rfl, HF.out.calm HG.out HGE.out⟩
end Go.Proofs.Ytdhhneflhmkonaa
