/- The plot that numbers determine, as the laws take it. -/
import Derived.Test.YtkoejeghihcmlaaGreatTX
import Derived.Test.YtkoejeghihcmlaaGreatMG
import Derived.Test.YtkoejeghihcmlaaGreatTY
namespace Go.Proofs.YtkoejeghihcmlaaGreat
open Go.RowKit Go.Shelf

/-- A plot and true numbers, as Made returns them. -/
def MadeEnd (r : Raw) (right : Bool) (w : World) (e : Ending) (w' : World) : Prop :=
  (∃ D1 d1 D2 d2 D3 d3 Dn dn m1 m2 m3 mn, m1 = (madeP r right).loads.length ∧ m2 = (madeP r right).stands.length ∧ m3 = (madeP r right).spells.length ∧ mn = (madeNums r).length ∧
    e = .returned (.tuple #[plv (madeP r right) D1 D2 D3 m1 d1 m2 d2 m3 d3, .agg #[.int .i64 (r.sown % 200), .slice Dn mn dn]]) ∧ Pa w' (madeP r right) D1 D2 D3 m1 d1 m2 d2 m3 d3 ∧ Ints w' Dn mn (madeNums r)) ∧ Below w.heap.size w w'
theorem made_call (r : Raw) (right : Bool) (A1 A2 A3 : Option Addr) (n1 c1 n2 c2 n3 c3 : Nat) (w : World) (h1 : Arr q4cells 4 w A1 n1 r.loads) (h2 : Arr q4cells 4 w A2 n2 r.stands) (h3 : Arr q4cells 4 w A3 n3 r.spells)
    (hn : n1 ≤ 9223372036854775807 ∧ n2 ≤ 9223372036854775807 ∧ n3 ≤ 9223372036854775807) (hr : RawOk r) :
    Calls Tryz.prog 15 #[.agg (rawv r A1 A2 A3 n1 c1 n2 c2 n3 c3), .bool right] w (MadeEnd r right w) := by
  refine (made_any r right A1 A2 A3 n1 c1 n2 c2 n3 c3 w h1 h2 h3 hn hr).mono ?_
  rintro e w' ⟨⟨v1, v2, v3, vn, rfl, o1, o2, o3, on⟩, hg⟩
  obtain ⟨D1, d1, e1, k1, j1, l1, -⟩ := OwnL.arr kdL o1
  obtain ⟨D2, d2, e2, k2, j2, l2, -⟩ := OwnL.arr kdS o2
  obtain ⟨D3, d3, e3, k3, j3, l3, -⟩ := OwnL.arr kdP o3
  obtain ⟨Dn, dn, e4, k4, j4, l4, -⟩ := OwnL.arr kdI on
  unfold maxLen at j1 j2 j3
  subst e1 e2 e3 e4
  exact ⟨⟨D1, d1, D2, d2, D3, d3, Dn, dn, _, _, _, _, rfl, rfl, rfl, rfl, rfl, ⟨l1, l2, l3, ⟨k1, Nat.le_trans k1 j1⟩, ⟨k2, Nat.le_trans k2 j2⟩, ⟨k3, Nat.le_trans k3 j3⟩⟩, l4⟩, hg⟩
end Go.Proofs.YtkoejeghihcmlaaGreat
