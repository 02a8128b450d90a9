/- A mill whose comers were copied by append. -/
import Derived.Test.YtdhhneflhmkonaaKF
namespace Go.Proofs.Ytdhhneflhmkonaa
open Go.RowKit Go.Shelf

/-- A mill of the same hours, its comers copied. -/
def CopyEnd (V : World) (H : Int) (n : Nat) (xs : List Comer) (s : Value) (wx : World) : Prop :=
  ∃ g A c', s = .pointer (some ⟨g, 0, none⟩) ∧ Below V.heap.size V wx ∧ V.heap.size ≤ g ∧ g < wx.heap.size ∧ Blk wx g 24 #[.int .i64 H, .slice A n c'] ∧
    OwnC wx V.heap.size (.slice A n c') xs ∧ n ≤ c' ∧ ∀ b, (Value.slice A n c').ownBlock = some b → b ≠ g
theorem copyGet {w1 : World} {base n : Nat} {xs : List Comer} {v1 : Value} (hl : xs.length = n) (ho : OwnL ccells 3 53 w1 base v1 ([] ++ xs)) :
    ∃ A c1, v1 = .slice A n c1 ∧ n ≤ c1 ∧ OwnC w1 base (.slice A n c1) xs := by
  rw [List.nil_append] at ho
  obtain ⟨A, c, rfl, h1, -, -, -⟩ := ho.arr kdCom
  rw [hl] at h1 ho
  exact ⟨A, c, by rw [hl], h1, ho⟩
theorem copyA {V : World} {n : Nat} {xs : List Comer} {v1 : Value} {w1 : World} (hl : xs.length = n) (H : Int)
    (ho : OwnL ccells 3 53 w1 V.heap.size v1 ([] ++ xs)) (hg : (V.alloc (.cells #[] 53)).drew.grownBy w1 (Value.slice (some ⟨V.heap.size, 0, none⟩) 0 0).ownBlock) :
    ∃ A c1, v1 = .slice A n c1 ∧ Below V.heap.size V w1 ∧ CopyEnd V H n xs (.pointer (some ⟨w1.heap.size, 0, none⟩)) (w1.alloc (.cells #[.int .i64 H, .slice A n c1] 24)) := by
  have g5 : Below V.heap.size V (V.alloc (.cells #[] 53)).drew := (one_more _ _).drew
  have hb : Below V.heap.size V w1 := g5.grown hg g5.size (fun k hk => by simp [Value.ownBlock] at hk; omega)
  obtain ⟨A, c1, rfl, h3, h4⟩ := copyGet hl ho
  refine ⟨A, c1, rfl, hb, w1.heap.size, A, c1, rfl, hb.alloc hb.size _, hb.size, by rw [World.size_alloc]; omega, Blk.new _ _ _, h4.ext (one_more _ _), h3, fun b e => ?_⟩
  have := (World.ownsRow.lt h4 b e).2
  omega
theorem copySet {V w1 : World} {n g c1 : Nat} {A : Option Addr} {xs : List Comer} (H : Int) (hb : Below V.heap.size V w1) (hg : V.heap.size ≤ g) (hB : Blk w1 g 24 #[.int .i64 0, .slice none 0 0]) (hne : ∀ b, (Value.slice A n c1).ownBlock = some b → b ≠ g) (h3 : n ≤ c1)
    (h4 : OwnC w1 V.heap.size (.slice A n c1) xs) :
    CopyEnd V H n xs (.pointer (some ⟨g, 0, none⟩)) ((w1.setCell ⟨g, 0, none⟩ (.int .i64 H)).setCell ⟨g, 1, none⟩ (.slice A n c1)) := by
  have hlt := hB.lt
  refine ⟨g, A, c1, rfl, (hb.setCell (p := ⟨g, 0, none⟩) hg _).setCell (p := ⟨g, 1, none⟩) hg _, hg, by simpa [World.setCell] using hlt, (hB.set_ 0 _).set_ 1 _, ?_, h3, hne⟩
  exact (h4.far (p := ⟨g, 0, none⟩) (fun b e => hne b e) _).far (p := ⟨g, 1, none⟩) (fun b e => hne b e) _
theorem copyB {V : World} {n : Nat} {xs : List Comer} {v1 : Value} {w1 : World} (hl : xs.length = n) (H : Int)
    (ho : OwnL ccells 3 53 w1 V.heap.size v1 ([] ++ xs)) (hg : ((V.alloc (.cells #[] 53)).alloc (.cells #[.int .i64 0, .slice none 0 0] 24)).drew.grownBy w1 (Value.slice (some ⟨V.heap.size, 0, none⟩) 0 0).ownBlock)
    (hat : v1.ownBlock = (Value.slice (some ⟨V.heap.size, 0, none⟩) 0 0).ownBlock ∨ v1.ownBlock = some ((V.alloc (.cells #[] 53)).alloc (.cells #[.int .i64 0, .slice none 0 0] 24)).drew.heap.size) :
    ∃ A c1, v1 = .slice A n c1 ∧ Below V.heap.size V w1 ∧ Blk w1 (V.heap.size + 1) 24 #[.int .i64 0, .slice none 0 0] ∧
      CopyEnd V H n xs (.pointer (some ⟨V.heap.size + 1, 0, none⟩)) ((w1.setCell ⟨V.heap.size + 1, 0, none⟩ (.int .i64 H)).setCell ⟨V.heap.size + 1, 1, none⟩ (.slice A n c1)) := by
  have g5 : Below V.heap.size V ((V.alloc (.cells #[] 53)).alloc (.cells #[.int .i64 0, .slice none 0 0] 24)).drew := ((one_more V (.cells #[] 53)).alloc (by simp) _).drew
  have hb : Below V.heap.size V w1 := g5.grown hg g5.size (fun k hk => by simp [Value.ownBlock] at hk; omega)
  obtain ⟨A, c1, rfl, h3, h4⟩ := copyGet hl ho
  have b0 : Blk ((V.alloc (.cells #[] 53)).alloc (.cells #[.int .i64 0, .slice none 0 0] 24)).drew (V.heap.size + 1) 24 #[.int .i64 0, .slice none 0 0] := by
    have := Blk.new (V.alloc (.cells #[] 53)) 24 #[.int .i64 0, .slice none 0 0]
    rw [World.size_alloc] at this
    exact this
  have b1 : Blk w1 (V.heap.size + 1) 24 #[.int .i64 0, .slice none 0 0] := (hg.block (V.heap.size + 1) b0.lt (by simp [Value.ownBlock])).trans b0
  refine ⟨A, c1, rfl, hb, b1, copySet H hb (by omega) b1 (fun b e0 => ?_) h3 h4⟩
  rw [e0] at hat
  rcases hat with e | e
  · simp [Value.ownBlock] at e; omega
  · simp [World.drew] at e; omega
theorem copyC {V : World} {n : Nat} {xs : List Comer} {v1 : Value} {w1 : World} (hl : xs.length = n) (H : Int)
    (ho : OwnL ccells 3 53 w1 V.heap.size v1 ([] ++ xs)) (hg : ((V.alloc (.cells #[.int .i64 0, .slice none 0 0] 24)).alloc (.cells #[] 53)).drew.grownBy w1 (Value.slice (some ⟨V.heap.size + 1, 0, none⟩) 0 0).ownBlock)
    (hat : v1.ownBlock = (Value.slice (some ⟨V.heap.size + 1, 0, none⟩) 0 0).ownBlock ∨ v1.ownBlock = some ((V.alloc (.cells #[.int .i64 0, .slice none 0 0] 24)).alloc (.cells #[] 53)).drew.heap.size) :
    ∃ A c1, v1 = .slice A n c1 ∧ Below V.heap.size V w1 ∧ Blk w1 V.heap.size 24 #[.int .i64 0, .slice none 0 0] ∧
      CopyEnd V H n xs (.pointer (some ⟨V.heap.size, 0, none⟩)) ((w1.setCell ⟨V.heap.size, 0, none⟩ (.int .i64 H)).setCell ⟨V.heap.size, 1, none⟩ (.slice A n c1)) := by
  have g5 : Below V.heap.size V ((V.alloc (.cells #[.int .i64 0, .slice none 0 0] 24)).alloc (.cells #[] 53)).drew := ((one_more V _).alloc (by simp) _).drew
  have hb : Below V.heap.size V w1 := g5.grown hg g5.size (fun k hk => by simp [Value.ownBlock] at hk; omega)
  obtain ⟨A, c1, rfl, h3, h4⟩ := copyGet hl ho
  have b0 : Blk ((V.alloc (.cells #[.int .i64 0, .slice none 0 0] 24)).alloc (.cells #[] 53)).drew V.heap.size 24 #[.int .i64 0, .slice none 0 0] := (Blk.new V 24 #[.int .i64 0, .slice none 0 0]).alloc _
  have b1 : Blk w1 V.heap.size 24 #[.int .i64 0, .slice none 0 0] := (hg.block V.heap.size b0.lt (by simp [Value.ownBlock])).trans b0
  refine ⟨A, c1, rfl, hb, b1, copySet H hb (Nat.le_refl _) b1 (fun b e0 => ?_) h3 h4⟩
  rw [e0] at hat
  rcases hat with e | e
  · simp [Value.ownBlock] at e; omega
  · simp [World.drew] at e; omega
/-- The empty slices that the copies begin with. -/
theorem copyE1 (V : World) : OwnL ccells 3 53 (V.alloc (.cells #[] 53)).drew V.heap.size (.slice (some ⟨V.heap.size, 0, none⟩) 0 0) [] := World.ownsRow_made (e := 53) (size := 3) V #[] 0 (Nat.le_refl _) (by decide) rfl
theorem copyE2 (V : World) (o : Obj) : OwnL ccells 3 53 ((V.alloc (.cells #[] 53)).alloc o).drew V.heap.size (.slice (some ⟨V.heap.size, 0, none⟩) 0 0) [] := (copyE1 V).ext (one_more (V.alloc (.cells #[] 53)).drew o)
theorem copyE3 (V : World) (o : Obj) : OwnL ccells 3 53 ((V.alloc o).alloc (.cells #[] 53)).drew V.heap.size (.slice (some ⟨V.heap.size + 1, 0, none⟩) 0 0) [] := by
  have := World.ownsRow_made (e := 53) (size := 3) (base := V.heap.size) (V.alloc o) #[] 0 (by simp) (by decide) rfl
  rw [World.size_alloc] at this
  exact this
end Go.Proofs.Ytdhhneflhmkonaa
