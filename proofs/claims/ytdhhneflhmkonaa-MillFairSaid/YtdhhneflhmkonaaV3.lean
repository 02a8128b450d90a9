/- Plain: a step of the reference's search that found an hour; what a world keeps while the hours that were tried turn. -/
import Derived.Test.YtdhhneflhmkonaaV2
namespace Go.Proofs.Ytdhhneflhmkonaa
open Go.RowKit
section
variable {nc H c s : Nat} {adj : Nat → Nat → Bool} {wh : List Int}
/-- The hour was given first; the one who had it found another one. -/
theorem StepT.via {s' h i : Nat} {wh1 : List Int} (hs : Sub s s') (hb : s'.testBit h = false) (hwh : wh[h]? = some (i : Int)) (hc : c < nc) (ha : adj c h = true) (t : StepT nc H adj i (s' ||| 2 ^ h) (wh.set h (c : Int)) wh1) :
    StepT nc H adj c s wh wh1 := by
  refine ⟨by rw [t.len, List.length_set], fun x hx => ?_, fun x => ?_, fun x y hy => ?_⟩
  · rw [t.kept x (Sub.or s' _ x (hs x hx)), List.getElem?_set_ne]
    rintro rfl
    rw [hs _ hx] at hb; cases hb
  · have e := count_set hwh (c : Int) (x : Int)
    have e2 := t.count x
    by_cases hxc : x = c <;> by_cases hxi : x = i
    · rw [if_pos (by omega), if_pos (by omega)] at e; rw [if_pos hxi] at e2; rw [if_pos hxc]; omega
    · rw [if_neg (by omega), if_pos (by omega)] at e; rw [if_neg hxi] at e2; rw [if_pos hxc]; omega
    · rw [if_pos (by omega), if_neg (by omega)] at e; rw [if_pos hxi] at e2; rw [if_neg hxc]; omega
    · rw [if_neg (by omega), if_neg (by omega)] at e; rw [if_neg hxi] at e2; rw [if_neg hxc]; omega
  · rcases t.right x y hy with h1 | h1
    · by_cases hxh : x = h
      · subst hxh
        rw [List.getElem?_set] at h1
        simp at h1
        exact .inr ⟨c, by omega, hc, ha⟩
      · exact .inl ((set_other hxh).1 h1)
    · exact .inr h1
end

/-- The cells of the hours that were tried. -/
def bits24 (s : Nat) : Array Value := ((List.range 24).map fun h => Value.bool (s.testBit h)).toArray
theorem bits24_get (s h : Nat) (hh : h < 24) : (bits24 s)[h]? = some (.bool (s.testBit h)) := by
  simp [bits24, hh]
theorem bits24_set (s h : Nat) : (bits24 s).setIfInBounds h (.bool true) = bits24 (s ||| 2 ^ h) := by
  apply Array.ext
  · simp [bits24]
  · intro i h1 h2
    have hi : i < (bits24 s).size := by simpa using h1
    rw [Array.getElem_setIfInBounds hi]
    simp only [bits24, List.getElem_toArray, List.getElem_map, List.getElem_range, Nat.testBit_or, pow_bit]
    split
    · rename_i e; simp [e]
    · rename_i e; simp [e]
theorem bits24_free : bits24 0 = madeCells #[.bool false] 24 := by
  apply Array.ext
  · simp [madeCells, bits24]
  · intro i h1 h2
    simp [madeCells, bits24, Nat.mod_one]
end Go.Proofs.Ytdhhneflhmkonaa
