/- The mill: 'without'. -/
import Derived.Test.YtdhhneflhmkonaaTB
namespace Go.Proofs.Ytdhhneflhmkonaa
open Go.RowKit Go.Shelf

/-- How 'without' ends. -/
def WithoutPost (A : Option Addr) (n cc : Nat) (h f : Int) (xs : List Comer) (w : World) (e : Ending) (w' : World) : Prop :=
  Below w.heap.size w w' ∧ ((idx xs f = -1 ∧ e = .returned (.tuple #[mv A n cc h, .bool false])) ∨
    ∃ (i : Nat) (A' : Option Addr) (c' : Nat), idx xs f = i ∧ i < n ∧ e = .returned (.tuple #[mv A' (n - 1) c' h, .bool true]) ∧ n - 1 ≤ c' ∧ Arr ccells 3 w' A' (n - 1) (xs.eraseIdx i) ∧ (∀ b o, A' = some ⟨b, o, none⟩ → w.heap.size ≤ b) ∧ c' ≤ maxLen)

set_option maxRecDepth 100000 in
set_option maxHeartbeats 2000000 in
theorem without_any (A : Option Addr) (n cc : Nat) (h f : Int) (xs : List Comer) (w : World) (ha : Arr ccells 3 w A n xs) (hn : n ≤ 1000000) :
    Calls Try.prog 77 #[mv A n cc h, .int .i64 f] w (WithoutPost A n cc h f xs w) := by
  have HA := Lib.hid ha
  have hlen := Lib.hid ha.1
  clear ha
  go_enter Try.func77, Try.ntmps77
  unfold mv
  go_wp2_with fail
  generalize hW1 : w.alloc (.cells #[.int .i64 h, .slice A n cc] 24) = W1
  obtain ⟨g1, c0, c1⟩ := box2 hW1
  have HB1 := Lib.hid (show Blk W1 w.heap.size 24 #[.int .i64 h, .slice A n cc] by rw [← hW1]; exact Blk.new _ _ _)
  have s1 := boxSize hW1
  rw [← s1]
  generalize hW2 : W1.alloc (.cells #[.int .i64 0, .slice none 0 0] 24) = W2
  have g2 : Below W1.heap.size W1 W2 := by rw [← hW2]; exact (Below.refl _ _).alloc (Nat.le_refl _) _
  have HR2 := Lib.hid (show Blk W2 W1.heap.size 24 #[.int .i64 0, .slice none 0 0] by rw [← hW2]; exact Blk.new _ _ _)
  have HB2 := Lib.hid (HB1.out.ext g2)
  have HG2 := Lib.hid (extTrans g1 g2)
  have hne : w.heap.size < W1.heap.size := by omega
  obtain ⟨br, hbr⟩ : ∃ br, W1.heap.size = br := ⟨_, rfl⟩
  rw [hbr] at HR2 hne ⊢
  clear hW1 hW2 g1 g2 c0 c1 s1 hbr
  refine (index_any A n cc xs f W2 (HA.out.below HG2.out) (by omega)).mono ?_
  rintro e W3 ⟨rfl, hg3⟩
  have HR3 := Lib.hid (HR2.out.ext hg3)
  have HB3 := Lib.hid (HB2.out.ext hg3)
  have HG3 := Lib.hid (HG2.out.trans (hg3.mono HG2.out.size))
  have r0 := HR3.out.cell 0
  have r1 := HR3.out.cell 1
  have rf0 := HR3.out.frozen 0
  have rf1 := HR3.out.frozen 1
  have m0 := HB3.out.cell 0
  have m1 := HB3.out.cell 1
  clear hg3
  rcases idx_cases xs f with hi | ⟨i, hi, hin, -⟩
  · have HI := Lib.hid hi
    rw [hi]
    clear hi
    go_wp2_with fail
    have B0 := (HR3.out.set_ 0 (.int .i64 h)).set_ 1 (.slice A n cc)
    have b0 := B0.cell 0
    have b1 := B0.cell 1
    have GG := Lib.hid ((HG3.out.setCell (p := ⟨br, 0, none⟩) (by dsimp only; omega) (.int .i64 h)).setCell (p := ⟨br, 1, none⟩) (by dsimp only; omega) (.slice A n cc))
    generalize (W3.setCell ⟨br, 0, none⟩ (.int .i64 h)).setCell ⟨br, 1, none⟩ (.slice A n cc) = W9 at b0 b1 GG ⊢
    clear B0
    refine bodyPost_ret (v := .tuple #[mv A n cc h, .bool false]) ?_ rfl ⟨GG.out, .inl ⟨HI.out, rfl⟩⟩
    unfold mv
    simp [results, Try.results77, go_sem, b0, b1]
  · have HI := Lib.hid hi
    have hin' : i < n := by have := hlen.out; omega
    rw [hi]
    clear hi
    go_wp2_with fail
    refine (cloneComers_any A n cc xs W3 (HA.out.below HG3.out) (by omega)).mono ?_
    rintro e W4 ⟨⟨v4, rfl, ho4⟩, hg4⟩
    obtain ⟨g4, c4, rfl, hge4, hlt4, hnc4⟩ := ho4.get (by omega)
    obtain ⟨A4, c4', e4, -, ha4, -, hfz⟩ := ho4.arr
    cases e4
    have hln := hlen.out
    have hcm : c4 ≤ 9223372036854775807 := by
      rcases ho4.2 with ⟨h1, -⟩ | ⟨g, cap, cur, hv, -, -, -, h5, -⟩
      · cases h1
      · cases hv; exact h5
    have hcells : ∀ k x, xs[k]? = some x → ∀ j u, (ccells x)[j]? = some u → W4.cell? ⟨g4, k * 3 + j, none⟩ = some u := by
      intro k x hx j u hu
      obtain ⟨b', o', e', -, hc⟩ := ha4.2 (by omega)
      cases e'
      have := hc k x hx j u hu
      rwa [show 0 + k * 3 + j = k * 3 + j by omega] at this
    have HR4 := Lib.hid (HR3.out.ext hg4)
    have HB4 := Lib.hid (HB3.out.ext hg4)
    have HG4 := Lib.hid (HG3.out.trans (hg4.mono HG3.out.size))
    have hbrlt := HR3.out.lt
    have hgen : w.heap.size ≤ g4 := by have := HG3.out.size; omega
    have HDEL := Lib.hid (delete_any g4 n c4 i xs W4 hin' (by omega) hcm hln hn hcells (fun j => hfz g4 0 rfl j))
    have HDA := Lib.hid (delete_arr hin' hln hlt4 hcells)
    rw [hln]
    have hfar : ∀ (g : Nat) (cs : Array Value) (vs : List Value) (o : Nat) (W : World), g ≠ g4 → Blk W g 24 cs → Blk (W.setCells g4 o vs) g 24 cs := by
      intro g cs vs
      induction vs with
      | nil => intro o W _ h; exact h
      | cons v vs ih => intro o W hne h; exact ih (o + 1) _ hne (h.far (p := ⟨g4, o, none⟩) hne v)
    have HFAR := Lib.hid hfar
    clear hg4 ho4 ha4 hfz hcells hfar r0 r1 rf0 rf1 m0 m1
    go_wp2_with fail
    refine HDEL.out.mono ?_
    rintro e W5 ⟨rfl, hW5⟩
    have HR5 := Lib.hid (show Blk W5 br 24 _ by rw [hW5]; exact HFAR.out br _ _ _ _ (by omega) (HFAR.out br _ _ _ _ (by omega) (show Blk W4.drew br 24 _ from HR4.out)))
    have HB5 := Lib.hid (show Blk W5 w.heap.size 24 _ by rw [hW5]; exact HFAR.out _ _ _ _ _ (by omega) (HFAR.out _ _ _ _ _ (by omega) (show Blk W4.drew w.heap.size 24 _ from HB4.out)))
    have HG5 := Lib.hid (show Below w.heap.size w W5 by rw [hW5]; exact Below.cells g4 hgen _ _ _ (Below.cells g4 hgen _ _ _ HG4.out.drew))
    have HA5 := Lib.hid (show Arr ccells 3 W5 (some ⟨g4, 0, none⟩) (n - 1) (xs.eraseIdx i) by rw [hW5]; exact HDA.out)
    have r0 := HR5.out.cell 0
    have r1 := HR5.out.cell 1
    have rf0 := HR5.out.frozen 0
    have rf1 := HR5.out.frozen 1
    have m0 := HB5.out.cell 0
    have m1 := HB5.out.cell 1
    have mf1 := HB5.out.frozen 1
    have BM := HB5.out.set_ 1 (.slice (some ⟨g4, 0, none⟩) (n - 1) c4)
    have x0 := BM.cell 0
    have x1 := BM.cell 1
    have BR := HR5.out.far (p := ⟨w.heap.size, 1, none⟩) (by dsimp only; omega) (.slice (some ⟨g4, 0, none⟩) (n - 1) c4)
    have y0 := BR.cell 0
    have y1 := BR.cell 1
    have z0 := BR.frozen 0
    have z1 := BR.frozen 1
    have HBR := Lib.hid BR
    clear BM BR hW5
    go_wp2_with fail
    have B9 := (HBR.out.set_ 0 (.int .i64 h)).set_ 1 (.slice (some ⟨g4, 0, none⟩) (n - 1) c4)
    have b0 := B9.cell 0
    have b1 := B9.cell 1
    have F9 := (((Fix.refl w.heap.size br W5).setCell (p := ⟨w.heap.size, 1, none⟩) (.inl rfl) (.slice (some ⟨g4, 0, none⟩) (n - 1) c4)).setCell (p := ⟨br, 0, none⟩) (.inr (.inl rfl)) (.int .i64 h)).setCell (p := ⟨br, 1, none⟩) (.inr (.inl rfl)) (.slice (some ⟨g4, 0, none⟩) (n - 1) c4)
    have A9 := HA5.out.fix F9 (fun b o e _ => by cases e; omega)
    have GG := ((HG5.out.setCell (p := ⟨w.heap.size, 1, none⟩) (Nat.le_refl _) (.slice (some ⟨g4, 0, none⟩) (n - 1) c4)).setCell (p := ⟨br, 0, none⟩) (by dsimp only; omega) (.int .i64 h)).setCell (p := ⟨br, 1, none⟩) (by dsimp only; omega) (.slice (some ⟨g4, 0, none⟩) (n - 1) c4)
    have HA9 := Lib.hid A9
    have HGG := Lib.hid GG
    clear F9 B9 A9 GG
    generalize ((W5.setCell ⟨w.heap.size, 1, none⟩ (.slice (some ⟨g4, 0, none⟩) (n - 1) c4)).setCell ⟨br, 0, none⟩ (.int .i64 h)).setCell ⟨br, 1, none⟩ (.slice (some ⟨g4, 0, none⟩) (n - 1) c4) = W9 at b0 b1 HA9 HGG ⊢
    refine bodyPost_ret (v := .tuple #[mv (some ⟨g4, 0, none⟩) (n - 1) c4 h, .bool true]) ?_ rfl ⟨HGG.out, .inr ⟨i, some ⟨g4, 0, none⟩, c4, HI.out, hin', rfl, by omega, HA9.out, fun b o e => by cases e; exact hgen, by unfold maxLen; omega⟩⟩
    unfold mv
    simp [results, Try.results77, go_sem, b0, b1]
end Go.Proofs.Ytdhhneflhmkonaa
