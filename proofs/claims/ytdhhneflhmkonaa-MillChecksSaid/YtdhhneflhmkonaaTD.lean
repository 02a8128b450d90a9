/- slices.Sort of numbers, by the shelf. -/
import Derived.Test.YtdhhneflhmkonaaTC
import Derived.Ground.NamesProg
import Derived.Shelf.Lay
import Derived.Shelf.Slices.In.SortNone
import Derived.Shelf.Sort.Plain
import Derived.Sort.OwnSortedInts
import Derived.Lib.OwnBridge
namespace Go.Proofs.Ytdhhneflhmkonaa
open Go.RowKit Go.Shelf Go.Sort
shelf_lay Lays.n189 Nm 189 at Try as laysSort

/-- Sorted. -/
def srt (l : List Int) : List Int := l.mergeSort fun x y => decide (x ≤ y)
theorem sort_any (base : Nat) (v : Value) (l : List Int) (w : World) (h : Own w base v l) (hl : l.length ≤ 1000000) (hb : base ≤ w.heap.size) :
    Calls Try.prog 78 #[v] w fun e w' => e = .returned (.tuple #[]) ∧ Own w' base v (srt l) ∧ Below base w w' := by
  by_cases hv : v = .slice none 0 0
  · subst hv
    have e : l = [] := by
      obtain ⟨h1, h2 | ⟨g, cap, cur, h3, -⟩⟩ := h
      · exact List.eq_nil_of_length_eq_zero h2.2
      · cases h3
    subst e
    refine (Any.slices_Sort_int_none laysSort none 0 w).mono ?_
    rintro e w' ⟨rfl, rfl⟩
    exact ⟨rfl, (show Own _ base _ (srt []) by rw [show srt [] = [] by simp [srt]]; exact h), Below.refl _ _⟩
  · obtain ⟨g, cap, rfl, hbg, hgl, hncap, hcm, hlen, hH⟩ := Lib.holds_of_ownsRow h hv
    refine (Any.slices_Sort_int laysSort g 0 cap l w hH hgl (by omega)).mono ?_
    rintro e w' ⟨rfl, n, os, rfl⟩
    have hl2 : (srt l).length = l.length := List.length_mergeSort l
    rcases h.2 with ⟨h0, _⟩ | ⟨g', cap', cur, hv', hbase, hcur, h1, h2, h3, h4⟩
    · cases h0
    · cases hv'
      refine ⟨rfl, ?_, (Below.refl _ _).grown (grownBy_sortedI _) hb (fun j hj => by cases hj; exact hbase)⟩
      have := ownsRow_sortedI (n := n) (os := os) (ts := srt l) hl2 hbase hcur h1 h2 h3
      unfold Own
      rw [hl2]
      exact this
end Go.Proofs.Ytdhhneflhmkonaa
