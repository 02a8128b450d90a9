/- Plain: of two comers that can come at the same hours and want as many, the earlier one has no fewer hours, and at most one more. -/
import Derived.Test.YtdhhneflhmkonaaN2
namespace Go.Proofs.Ytdhhneflhmkonaa

theorem St_mono (xs : List Comer) (H r a b : Nat) (hab : a ≤ b) (hb : b ≤ xs.length) {i : Nat} (hi : i < xs.length) : (St xs H r a).getD i 0 ≤ (St xs H r b).getD i 0 := by
  have := got_bd xs H hi r
  rw [St_at xs H r a (by omega), St_at xs H r b hb]
  by_cases h1 : i < a ∧ Gt xs H r i = true
  · rw [if_pos h1, if_pos ⟨by omega, h1.2⟩]; exact Int.le_refl _
  · rw [if_neg h1]
    split
    · omega
    · exact Int.le_refl _
theorem can_same {xs : List Comer} {a b : Nat} (hh : hrs xs a = hrs xs b) (k : Nat) : can xs (-1) a k = can xs (-1) b k := by
  unfold can; rw [hh]

theorem twin {xs : List Comer} {H a b : Nat} (ha : a < xs.length) (hb : b < xs.length) (hab : a < b) (hw : (xs.getD a ⟨0, 0, 0⟩).wants = (xs.getD b ⟨0, 0, 0⟩).wants) (hh : hrs xs a = hrs xs b)
    (h0 : ∀ j, j < xs.length → 0 ≤ (xs.getD j ⟨0, 0, 0⟩).wants) :
    (turnsS xs H).getD b 0 ≤ (turnsS xs H).getD a 0 ∧ (turnsS xs H).getD a 0 ≤ (turnsS xs H).getD b 0 + 1 := by
  have ba := turns_bd xs H ha
  have bb := turns_bd xs H hb
  constructor
  · rcases Int.lt_or_le ((turnsS xs H).getD a 0) ((turnsS xs H).getD b 0) with hlt | h
    · exfalso
      obtain ⟨q, hq⟩ : ∃ q : Nat, (turnsS xs H).getD a 0 = q := ⟨_, (Int.toNat_of_nonneg ba.1).symm⟩
      have hqa : got xs H 24 a = q := hq
      have hqb : (q : Int) < got xs H 24 b := by show (q : Int) < (turnsS xs H).getD b 0; omega
      have v1 := got_at xs H ha (s := 24) (by omega) hqa
      obtain ⟨hq24, hG, -⟩ := got_more xs H hb hqb
      obtain ⟨p1, p2, p3⟩ := Gt_parts hb hG
      have hGa : Gt xs H q a = false := by
        cases hg : Gt xs H q a with
        | false => rfl
        | true =>
          have e := got_succ xs H q ha
          rw [if_pos hg] at e
          have := got_mono xs H ha (show q + 1 ≤ 24 by omega)
          omega
      have hno := Gt_no ha v1 (by rw [hw]; exact p2) hGa
      have la : ((St xs H q a).set a ((q : Int) + 1)).length = xs.length := by rw [List.length_set, St_len]
      have lb : ((St xs H q b).set b ((q : Int) + 1)).length = xs.length := by rw [List.length_set, St_len]
      have hF := (fea_iff lb).1 p3
      have hF2 : fea xs H (-1) ((St xs H q a).set a ((q : Int) + 1)) = true := by
        refine (fea_iff la).2 (hF.move (a := b) (b := a) hb ha (by omega) (fun k _ h => by rw [can_same hh]; exact h) ?_ ?_ ?_ fun i hi h1 h2 => ?_)
        · rw [getD_set (by rw [St_len]; exact hb), if_pos rfl]; omega
        · rw [getD_set (by rw [St_len]; exact ha), if_neg (by omega), getD_set (by rw [St_len]; exact hb), if_pos rfl, St_at xs H q a (by omega), if_neg (by omega), p1]; omega
        · rw [getD_set (by rw [St_len]; exact ha), if_pos rfl, getD_set (by rw [St_len]; exact hb), if_neg (by omega), St_at xs H q b (by omega), if_neg (by rw [hGa]; simp), v1]; exact Int.le_refl _
        · rw [getD_set (by rw [St_len]; exact ha), if_neg h2, getD_set (by rw [St_len]; exact hb), if_neg h1]
          exact St_mono xs H q a b (by omega) (by omega) hi
      rw [hno] at hF2; cases hF2
    · exact h
  · rcases Int.lt_or_le ((turnsS xs H).getD b 0 + 1) ((turnsS xs H).getD a 0) with hlt | h
    · exfalso
      obtain ⟨q, hq⟩ : ∃ q : Nat, (turnsS xs H).getD b 0 = q := ⟨_, (Int.toNat_of_nonneg bb.1).symm⟩
      have hqb : got xs H 24 b = q := hq
      have hqa : (q : Int) < got xs H 24 a := by show (q : Int) < (turnsS xs H).getD a 0; omega
      have v1 := got_at xs H hb (s := 24) (by omega) hqb
      obtain ⟨hq24, hG, hg1⟩ := got_more xs H ha hqa
      have hGb : Gt xs H q b = false := by
        cases hg : Gt xs H q b with
        | false => rfl
        | true =>
          have e := got_succ xs H q hb
          rw [if_pos hg] at e
          have := got_mono xs H hb (show q + 1 ≤ 24 by omega)
          omega
      have hwa := turns_wants (H := H) h0 ha
      have hno := Gt_no hb v1 (by omega) hGb
      have lb : ((St xs H q b).set b ((q : Int) + 1)).length = xs.length := by rw [List.length_set, St_len]
      have hF := (fea_iff (turns_len xs H)).1 (turns_fea xs H)
      have hF2 : fea xs H (-1) ((St xs H q b).set b ((q : Int) + 1)) = true := by
        refine (fea_iff lb).2 (hF.move (a := a) (b := b) ha hb (by omega) (fun k _ h => by rw [← can_same hh]; exact h) ?_ ?_ ?_ fun i hi h1 h2 => ?_)
        · omega
        · rw [getD_set (by rw [St_len]; exact hb), if_neg (by omega), St_at xs H q b (by omega), if_pos ⟨hab, hG⟩]; omega
        · rw [getD_set (by rw [St_len]; exact hb), if_pos rfl]; omega
        · rw [getD_set (by rw [St_len]; exact hb), if_neg h2]
          exact Int.le_trans (St_le xs H q b (by omega) hi) (got_mono xs H hi (show q + 1 ≤ 24 by omega))
      rw [hno] at hF2; cases hF2
    · exact h
end Go.Proofs.Ytdhhneflhmkonaa
