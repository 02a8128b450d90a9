/- Plain: a made mill with one comer's twin. -/
import Derived.Test.YtdhhneflhmkonaaN4
import Derived.Test.YtdhhneflhmkonaaM1
import Derived.Test.YtdhhneflhmkonaaC5
namespace Go.Proofs.Ytdhhneflhmkonaa

theorem made_fam (n : Int) (l : List Pr) {i : Nat} {x : Comer} (hx : (madeX n l)[i]? = some x) : 1 ≤ x.family ∧ x.family ≤ 9 := by
  unfold madeX at hx
  have hi : i < min l.length 6 := by
    have := (List.getElem?_eq_some_iff.1 hx).1
    rwa [madeL_len] at this
  rw [madeL_get _ _ _ _ hi] at hx
  obtain rfl := Option.some.inj hx
  unfold madeC
  dsimp only
  omega
theorem made_len (n : Int) (l : List Pr) : (madeX n l).length ≤ 6 := by
  unfold madeX
  rw [madeL_len]
  omega
/-- The twin of a comer, as the last one. -/
theorem twin_ok {n : Int} {l : List Pr} {k : Nat} {x : Comer} (hx : (madeX n l)[k]? = some x) : okComer (madeH n : Nat) (madeX n l) { x with family := 50 } = true := by
  have ok := made_ok n l
  obtain ⟨h1, h2, -⟩ := ok.com k x hx
  have hno : idx (madeX n l) 50 = -1 := idx_none fun j _ y hy e => by
    have := made_fam n l hy
    omega
  unfold okComer
  rw [hno]
  unfold isComer at h1 ⊢
  simp only [Bool.and_eq_true, decide_eq_true_eq] at h1 ⊢
  exact ⟨⟨⟨⟨by simp [rng], h1.1.2⟩, h1.2⟩, h2⟩, by omega⟩
end Go.Proofs.Ytdhhneflhmkonaa
