/- Equality of lists of numbers: SameInts, slices.Equal. -/
import Derived.Test.YtdhhneflhmkonaaT5
namespace Go.Proofs.Ytdhhneflhmkonaa
open Go.RowKit Go.Shelf

theorem eq_of_getD {l l' : List Int} (hl : l.length = l'.length) (h : ∀ j, j < l.length → l.getD j 0 = l'.getD j 0) : l = l' := by
  apply List.ext_getElem hl
  intro j h1 h2
  have := h j h1
  rw [List.getD_eq_getElem?_getD, List.getD_eq_getElem?_getD, List.getElem?_eq_getElem h1, List.getElem?_eq_getElem h2] at this
  exact this

set_option maxRecDepth 100000 in
theorem sameInts_any (A B : Option Addr) (n c m c' : Nat) (l l' : List Int) (w : World) (ha : Ints w A n l) (hb : Ints w B m l') (hn : n ≤ 9223372036854775807) (hm : m ≤ 9223372036854775807) :
    Calls Try.prog 20 #[.slice A n c, .slice B m c'] w fun e w' => e = .returned (.bool (decide (l = l'))) ∧ Below w.heap.size w w' := by
  have HA := Lib.hid ha
  have HB := Lib.hid hb
  have hl := Lib.hid ha.1
  have hl' := Lib.hid hb.1
  clear ha hb
  by_cases hmn : n = m
  · subst hmn
    go_enter Try.func20, Try.ntmps20
    go_wp2_with fail
    all_goals first
      | (exfalso; omega)
      | skip
    go_loopw [5] (fun i wr => ∃ k : Nat, k ≤ n ∧ i = .int .i64 k ∧ (∀ j, j < k → l.getD j 0 = l'.getD j 0) ∧ Below w.heap.size w wr) (fun i _ => n - (intOf i).toNat)
    case atStart => exact ⟨0, Nat.zero_le _, rfl, by omega, Below.refl _ _⟩
    case round =>
      obtain ⟨k, hk, rfl, hno, hg⟩ := hrel
      have HN := Lib.hid hno
      have HG := Lib.hid hg
      clear hno
      by_cases hlt : k < n
      · obtain ⟨b, o, rfl, -, -, hc⟩ := ints_at HA.out hlt
        obtain ⟨b', o', rfl, -, -, hc'⟩ := ints_at HB.out hlt
        have c0 := hc wr hg
        have c1 := hc' wr hg
        obtain ⟨x, hx⟩ : ∃ x, l.getD k 0 = x := ⟨_, rfl⟩
        obtain ⟨y, hy⟩ : ∃ y, l'.getD k 0 = y := ⟨_, rfl⟩
        have HX := Lib.hid hx
        have HY := Lib.hid hy
        rw [hx] at c0
        rw [hy] at c1
        clear hc hc' hx hy hg
        go_wp2_with fail
        have F : ∀ z : Wd wr, z.val.cell? ⟨b, o + k, none⟩ = some (.int .i64 x) ∧ z.val.cell? ⟨b', o' + k, none⟩ = some (.int .i64 y) := fun z => ⟨cellW c0 z, cellW c1 z⟩
        refine wp_region_calm wr (by kernel_rfl) (by kernel_rfl) (Below.refl _ _) ?_
        repeat (go_big_quiet_step (fail))
        refine wpQuiet_nil ?_
        rintro _ ⟨z, rfl⟩
        by_cases hxy : x = y
        · subst hxy
          have hb : (x != x) = false := by simp
          go_wp2_with fail
          all_goals first
            | (exfalso; simp at *; done)
            | skip
          go_roundw
          case rel =>
            refine ⟨k + 1, by omega, by go_num, fun j hj => ?_, HG.out.trans (z.ok.mono HG.out.size)⟩
            by_cases hjk : j < k
            · exact HN.out j hjk
            · obtain rfl : j = k := by omega
              rw [HX.out, HY.out]
          case measure => simp [intOf]; omega
        · have hb : (x != y) = true := by simpa using hxy
          go_wp2_with fail
          all_goals first
            | (exfalso; omega)
            | skip
          go_ret
          have : decide (l = l') = false := by
            simp; rintro rfl; exact hxy (HX.out.symm.trans HY.out)
          rw [this]
          exact ⟨rfl, HG.out.trans (z.ok.mono HG.out.size)⟩
      · obtain rfl : k = n := by omega
        clear hg
        go_wp2_with fail
        go_ret
        have : decide (l = l') = true := by
          simp; exact eq_of_getD (by rw [hl.out, hl'.out]) (fun j hj => HN.out j (by rw [← hl.out]; exact hj))
        rw [this]
        exact ⟨rfl, HG.out⟩
  · go_enter Try.func20, Try.ntmps20
    have hne : ((n : Int) != (m : Int)) = true := by simp; omega
    go_wp2_with fail
    all_goals first
      | (exfalso; omega)
      | skip
    go_ret
    have : decide (l = l') = false := by
      simp; rintro rfl; exact hmn (by rw [← hl.out, ← hl'.out])
    rw [this]
    exact ⟨rfl, Below.refl _ _⟩

set_option maxRecDepth 100000 in
theorem equal_any (A B : Option Addr) (n c m c' : Nat) (l l' : List Int) (w : World) (ha : Ints w A n l) (hb : Ints w B m l') (hn : n ≤ 9223372036854775807) (hm : m ≤ 9223372036854775807) :
    Calls Try.prog 91 #[.slice A n c, .slice B m c'] w fun e w' => e = .returned (.bool (decide (l = l'))) ∧ Below w.heap.size w w' := by
  have HA := Lib.hid ha
  have HB := Lib.hid hb
  have hl := Lib.hid ha.1
  have hl' := Lib.hid hb.1
  clear ha hb
  by_cases hmn : n = m
  · subst hmn
    go_enter Try.func91, Try.ntmps91
    go_wp2_with fail
    all_goals first
      | (exfalso; omega)
      | skip
    go_loopw [13] (fun i wr => ∃ k : Nat, k ≤ n ∧ i = .int .i64 k ∧ (∀ j, j < k → l.getD j 0 = l'.getD j 0) ∧ Below w.heap.size w wr) (fun i _ => n - (intOf i).toNat)
    case atStart => exact ⟨0, Nat.zero_le _, rfl, by omega, Below.refl _ _⟩
    case round =>
      obtain ⟨k, hk, rfl, hno, hg⟩ := hrel
      have HN := Lib.hid hno
      have HG := Lib.hid hg
      clear hno
      by_cases hlt : k < n
      · obtain ⟨b, o, rfl, -, -, hc⟩ := ints_at HA.out hlt
        obtain ⟨b', o', rfl, -, -, hc'⟩ := ints_at HB.out hlt
        have c0 := hc wr hg
        have c1 := hc' wr hg
        obtain ⟨x, hx⟩ : ∃ x, l.getD k 0 = x := ⟨_, rfl⟩
        obtain ⟨y, hy⟩ : ∃ y, l'.getD k 0 = y := ⟨_, rfl⟩
        have HX := Lib.hid hx
        have HY := Lib.hid hy
        rw [hx] at c0
        rw [hy] at c1
        clear hc hc' hx hy hg
        go_wp2_with fail
        have F : ∀ z : Wd wr, z.val.cell? ⟨b, o + k, none⟩ = some (.int .i64 x) ∧ z.val.cell? ⟨b', o' + k, none⟩ = some (.int .i64 y) := fun z => ⟨cellW c0 z, cellW c1 z⟩
        refine wp_region_calm wr (by kernel_rfl) (by kernel_rfl) (Below.refl _ _) ?_
        repeat (go_big_quiet_step (fail))
        refine wpQuiet_nil ?_
        rintro _ ⟨z, rfl⟩
        by_cases hxy : x = y
        · subst hxy
          have hb : (x != x) = false := by simp
          go_wp2_with fail
          all_goals first
            | (exfalso; simp at *; done)
            | skip
          go_roundw
          case rel =>
            refine ⟨k + 1, by omega, by go_num, fun j hj => ?_, HG.out.trans (z.ok.mono HG.out.size)⟩
            by_cases hjk : j < k
            · exact HN.out j hjk
            · obtain rfl : j = k := by omega
              rw [HX.out, HY.out]
          case measure => simp [intOf]; omega
        · have hb : (x != y) = true := by simpa using hxy
          go_wp2_with fail
          all_goals first
            | (exfalso; omega)
            | skip
          go_ret
          have : decide (l = l') = false := by
            simp; rintro rfl; exact hxy (HX.out.symm.trans HY.out)
          rw [this]
          exact ⟨rfl, HG.out.trans (z.ok.mono HG.out.size)⟩
      · obtain rfl : k = n := by omega
        clear hg
        go_wp2_with fail
        go_ret
        have : decide (l = l') = true := by
          simp; exact eq_of_getD (by rw [hl.out, hl'.out]) (fun j hj => HN.out j (by rw [← hl.out]; exact hj))
        rw [this]
        exact ⟨rfl, HG.out⟩
  · go_enter Try.func91, Try.ntmps91
    have hne : ((n : Int) != (m : Int)) = true := by simp; omega
    go_wp2_with fail
    all_goals first
      | (exfalso; omega)
      | skip
    go_ret
    have : decide (l = l') = false := by
      simp; rintro rfl; exact hmn (by rw [← hl.out, ← hl'.out])
    rw [this]
    exact ⟨rfl, Below.refl _ _⟩
end Go.Proofs.Ytdhhneflhmkonaa
