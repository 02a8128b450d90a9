/- The reference's less, Without; the mill's Without. -/
import Derived.Test.YtdhhneflhmkonaaC2
import Derived.Deep.RegionLaw
namespace Go.Proofs.Ytdhhneflhmkonaa
open Go.RowKit Go.Shelf

/-- Without the comers of a family. -/
def lessL (xs : List Comer) (f : Int) : List Comer := xs.filter fun c => c.family != f
theorem lessL_len (xs : List Comer) (f : Int) : (lessL xs f).length ≤ xs.length := List.length_filter_le _ _
theorem lessL_snoc (xs : List Comer) (f : Int) {k : Nat} {x : Comer} (hx : xs[k]? = some x) : lessL (xs.take (k + 1)) f = lessL (xs.take k) f ++ if x.family = f then [] else [x] := by
  rw [List.take_add_one, hx]
  unfold lessL
  rw [List.filter_append]
  by_cases h : x.family = f <;> simp [h]

theorem OwnL.far {α : Type} {f : α → List Value} {size : Nat} {e : TypeId} {w : World} {base : Nat} {v : Value} {xs : List α} (h : OwnL f size e w base v xs) {p : Addr} (hp : p.block < base) (u : Value) : OwnL f size e (w.setCell p u) base v xs :=
  World.ownsRow.kept h (row := some p.block) ⟨rfl, rfl, rfl, by simp [World.setCell], fun k _ hk => Below.heap_setCell _ _ _ _ (fun e => hk (by rw [e]))⟩ (by
    cases hq : v.ownBlock with
    | none => exact .inl rfl
    | some k => exact .inr (fun e => by have := World.ownsRow.lt h k hq; cases e; omega))

def LessPost (h f : Int) (xs : List Comer) (w : World) (e : Ending) (w' : World) : Prop :=
  Below w.heap.size w w' ∧ ∃ A c, e = .returned (mv A (lessL xs f).length c h) ∧ (lessL xs f).length ≤ c ∧ c ≤ maxLen ∧ Arr ccells 3 w' A (lessL xs f).length (lessL xs f) ∧ ∀ b o, A = some ⟨b, o, none⟩ → w.heap.size ≤ b

set_option maxRecDepth 100000 in
set_option maxHeartbeats 2000000 in
theorem less_any (A : Option Addr) (n cc : Nat) (h f : Int) (xs : List Comer) (w : World) (ha : Arr ccells 3 w A n xs) (hn : n ≤ 1000) :
    Calls Try.prog 79 #[mv A n cc h, .int .i64 f] w (LessPost h f xs w) := by
  have HA := Lib.hid ha
  have hlen := Lib.hid ha.1
  clear ha
  unfold mv
  go_enter Try.func79, Try.ntmps79
  go_wp2_with fail
  generalize hW1 : w.alloc (.cells #[.int .i64 h, .slice A n cc] 24) = W1
  have b1 : Blk W1 w.heap.size 24 #[.int .i64 h, .slice A n cc] := by rw [← hW1]; exact Blk.new _ _ _
  have g1 : Below w.heap.size w W1 := by rw [← hW1]; exact one_more _ _
  have s1 := boxSize hW1
  generalize hW2 : W1.alloc (.cells #[.int .i64 0, .slice none 0 0] 24) = W2
  have b2 : Blk W2 W1.heap.size 24 #[.int .i64 0, .slice none 0 0] := by rw [← hW2]; exact Blk.new _ _ _
  have g2 : Below W1.heap.size W1 W2 := by rw [← hW2]; exact one_more _ _
  have s2 := boxSize hW2
  generalize hW3 : W2.alloc (.cells #[.int .i64 h, .slice none 0 0] 24) = W3
  have b3 : Blk W3 W2.heap.size 24 #[.int .i64 h, .slice none 0 0] := by rw [← hW3]; exact Blk.new _ _ _
  have g3 : Below W2.heap.size W2 W3 := by rw [← hW3]; exact one_more _ _
  have s3 := boxSize hW3
  have HM := Lib.hid ((b1.ext g2).ext g3)
  have HR := Lib.hid (b2.ext g3)
  have HO := Lib.hid b3
  have HG := Lib.hid (extTrans g1 (extTrans g2 g3))
  have hge : w.heap.size < W1.heap.size ∧ W1.heap.size < W2.heap.size ∧ W2.heap.size < W3.heap.size := by omega
  have HA3 := Lib.hid (HA.out.below HG.out)
  obtain ⟨bm, hbm⟩ : ∃ bm, w.heap.size = bm := ⟨_, rfl⟩
  obtain ⟨br, hbr⟩ : ∃ br, W1.heap.size = br := ⟨_, rfl⟩
  obtain ⟨bo, hbo⟩ : ∃ bo, W2.heap.size = bo := ⟨_, rfl⟩
  obtain ⟨bs, hbs⟩ : ∃ bs, W3.heap.size = bs := ⟨_, rfl⟩
  rw [hbm] at HM
  rw [hbr] at HR
  rw [hbo] at HO
  rw [hbm, hbr, hbo, hbs] at hge
  rw [← s1, ← s2, hbm, hbr, hbo]
  have HBM := Lib.hid hbm
  have HBS := Lib.hid hbs
  clear hW1 hW2 hW3 b1 b2 b3 g1 g2 g3 s1 s2 s3 hbm hbr hbo hbs
  obtain ⟨l1, l2, l3⟩ := hge
  go_loopw [6] (fun i wr => ∃ (k : Nat) (v : Value), i = .int .i64 k ∧ k ≤ n ∧ Below bm w wr ∧ bs ≤ wr.heap.size ∧ Blk wr bm 24 #[.int .i64 h, .slice A n cc] ∧ Blk wr br 24 #[.int .i64 0, .slice none 0 0] ∧ Blk wr bo 24 #[.int .i64 h, v] ∧
    OwnL ccells 3 53 wr bs v (lessL (xs.take k) f)) (fun i _ => n - (intOf i).toNat)
  case atStart => exact ⟨0, .slice none 0 0, rfl, Nat.zero_le _, by rw [← HBM.out]; exact HG.out, by rw [← HBS.out]; exact Nat.le_refl _, HM.out, HR.out, HO.out, OwnL.nil _ _⟩
  case round =>
    obtain ⟨k, v, rfl, hk, hg, hsz, hm, hr, ho, hown⟩ := hrel
    have HGr := Lib.hid hg
    have HM := Lib.hid hm
    have HR := Lib.hid hr
    have HO := Lib.hid ho
    have HW := Lib.hid hown
    have e1 : wr.cell? ⟨bm, 1, none⟩ = some (.slice A n cc) := hm.cell 1
    by_cases hlt : k < n
    · obtain ⟨b, o, x, rfl, hbl, hx, hc⟩ := comer_at (HA.out.below (by rw [HBM.out]; exact hg)) hlt
      have q0 := (hc wr (Below.refl _ _))
      have HX := Lib.hid hx
      have HNX := Lib.hid (lessL_snoc xs f hx)
      have HL := Lib.hid (lessL_len (xs.take k) f)
      clear hg hm hr ho hown hx
      by_cases hf : x.family = f
      · have hf' : (x.family != f) = false := by simpa using hf
        have HN0 := Lib.hid (show lessL (xs.take (k + 1)) f = lessL (xs.take k) f by rw [HNX.out, if_pos hf, List.append_nil])
        clear hc
        go_wp2_with fail
        all_goals first
          | (exfalso; omega)
          | skip
        go_roundw
        case rel => exact ⟨k + 1, v, by go_num, by omega, HGr.out, hsz, HM.out, HR.out, HO.out, by rw [HN0.out]; exact HW.out⟩
        case measure => simp [intOf]; omega
      · have hf' : (x.family != f) = true := by simpa using hf
        have HN0 := Lib.hid (show lessL (xs.take (k + 1)) f = lessL (xs.take k) f ++ [x] by rw [HNX.out, if_neg hf])
        go_wp2_with fail
        all_goals first
          | (exfalso; omega)
          | skip
        have gd : Below wr.heap.size wr wr.drew := (Below.refl _ _).drew
        obtain ⟨W5, hW5⟩ : ∃ W5, wr.drew.alloc (.cells #[.int .i64 x.family, .int .i64 x.hours, .int .i64 x.wants] 53) = W5 := ⟨_, rfl⟩
        have g5 : Below wr.heap.size wr W5 := by rw [← hW5]; exact gd.alloc (Nat.le_refl _) _
        have hb5 : Blk W5 wr.heap.size 53 #[.int .i64 x.family, .int .i64 x.hours, .int .i64 x.wants] := by rw [← hW5]; exact Blk.new _ _ _
        have HA5 := Lib.hid (Blk.arr1 (f := ccells) (size := 3) (x := x) hb5)
        have HOW5 := Lib.hid (HW.out.ext g5)
        have HM5 := Lib.hid (HM.out.ext g5)
        have HR5 := Lib.hid (HR.out.ext g5)
        have HO5 := Lib.hid (HO.out.ext g5)
        have hs5 : bs ≤ W5.heap.size := by have := g5.size; omega
        have HG5 := Lib.hid (HGr.out.trans (g5.mono (by omega)))
        have p0 := HO.out.cell 1
        have p1 := HO5.out.cell 1
        have p2 := HM5.out.cell 1
        have q5 := hc W5 g5
        have hlen5 : (lessL (xs.take k) f).length + 1 ≤ 1000000 := by have := HL.out; rw [List.length_take] at this; omega
        clear g5 gd hb5 hc
        go_region_law ((refine step_app kdCom (by rfl) _ _ (by rfl) bs v (lessL (xs.take k) f) (by rfl) HOW5.out _ _ _ [x] (by rfl) HA5.out hlen5 hs5 ?_; intro v' w' hov hgr hat; obtain ⟨A6, c6, e6, -, -, -, -⟩ := hov.arr kdCom; obtain ⟨m6, hm6⟩ : ∃ m6, (lessL (List.take k xs) f ++ [x]).length = m6 := ⟨_, rfl⟩; rw [hm6] at e6; clear hm6; subst e6; have hbw := Lib.hid (HOW5.out.below hgr (Nat.le_refl bs) hs5); have ho6 := (show Blk w' bo 24 _ from (hbw.out.block bo l3).trans HO5.out); have e6 := ho6.cell 1; have f6 := ho6.frozen 1; have HO6 := Lib.hid ho6; have HOV := Lib.hid hov; clear ho6 hgr hat hov))
        all_goals
          go_wp2_with fail
          go_roundw
          case rel =>
            refine ⟨k + 1, .slice A6 m6 c6, by go_num, by omega, (HG5.out.trans (hbw.out.mono (by omega))).setCell (p := ⟨bo, 1, none⟩) (by dsimp only; omega) _, ?_, ?_, ?_, ?_, ?_⟩
            · have := hbw.out.size; simp [World.setCell]; omega
            · exact (show Blk w' bm 24 _ from (hbw.out.block bm (by omega)).trans HM5.out).far (p := ⟨bo, 1, none⟩) (by dsimp only; omega) _
            · exact (show Blk w' br 24 _ from (hbw.out.block br (by omega)).trans HR5.out).far (p := ⟨bo, 1, none⟩) (by dsimp only; omega) _
            · exact HO6.out.set_ 1 _
            · rw [HN0.out]; exact HOV.out.far (p := ⟨bo, 1, none⟩) l3 _
          case measure => simp [intOf]; omega
    · obtain rfl : k = n := by omega
      have hx : xs.take k = xs := List.take_of_length_le (by rw [hlen.out]; exact Nat.le_refl _)
      rw [hx] at HW
      obtain ⟨A', c', rfl, k1, k2, k3, -⟩ := HW.out.arr kdCom
      obtain ⟨A2, c2, e2, -, -, h2, h3⟩ := (((HW.out.far (p := ⟨br, 0, none⟩) (by dsimp only; omega) (.int .i64 h)).far (p := ⟨br, 1, none⟩) (by dsimp only; omega) (.slice A' (lessL xs f).length c'))).arr kdCom
      obtain ⟨rfl, -, rfl⟩ := Value.slice.inj e2
      have H2 := Lib.hid h2
      have H3 := Lib.hid (show ∀ b o, A' = some ⟨b, o, none⟩ → w.heap.size ≤ b from fun b o e => by have := (h3 b o e).2.1; have := HBM.out; omega)
      have GG := Lib.hid ((hg.setCell (p := ⟨br, 0, none⟩) (by dsimp only; omega) (.int .i64 h)).setCell (p := ⟨br, 1, none⟩) (by dsimp only; omega) (.slice A' (lessL xs f).length c'))
      have B9 := (hr.set_ 0 (.int .i64 h)).set_ 1 (.slice A' (lessL xs f).length c')
      have b0 := B9.cell 0
      have b1 := B9.cell 1
      have o0 := ho.cell 0
      have o1 := ho.cell 1
      have r0 := hr.cell 0
      have r1 := hr.cell 1
      have rf0 := hr.frozen 0
      have rf1 := hr.frozen 1
      rw [← HBM.out] at GG
      obtain ⟨W9, hW9⟩ : ∃ W9, (wr.setCell ⟨br, 0, none⟩ (.int .i64 h)).setCell ⟨br, 1, none⟩ (.slice A' (lessL xs f).length c') = W9 := ⟨_, rfl⟩
      rw [hW9] at H2 GG b0 b1
      clear hg hm hr ho hown hx B9 h2 h3 k3 e2
      go_wp2_with fail
      clear hW9
      refine bodyPost_ret (v := mv A' (lessL xs f).length c' h) ?_ rfl ⟨GG.out, A', c', rfl, k1, k2, H2.out, H3.out⟩
      unfold mv
      simp [results, Try.results79, go_sem, b0, b1]

/-- Erasing the only one of a family. -/
theorem erase_less {h : Int} {xs : List Comer} (k : Ok h xs) {f : Int} {i : Nat} (hi : idx xs f = i) (hin : i < xs.length) : xs.eraseIdx i = lessL xs f := by
  have hf : xs[i].family = f := by
    rcases idx_cases' xs f with h1 | ⟨j, h1, hj, h2⟩
    · omega
    · have : j = i := by omega
      subst this
      rw [List.getD_eq_getElem?_getD, List.getElem?_eq_getElem hj] at h2
      exact h2
  have hne : ∀ j, (hj : j < xs.length) → j ≠ i → xs[j].family ≠ f := by
    intro j hj hji e
    have hj0 : i < j := by
      rcases Nat.lt_or_ge i j with h1 | h1
      · exact h1
      · have := idx_le (List.getElem?_eq_getElem hj) e
        omega
    obtain ⟨-, -, h3⟩ := k.com j _ (List.getElem?_eq_getElem hj)
    exact idx_neg h3 i (by rw [List.length_take]; omega) xs[i] (by rw [List.getElem?_take, if_pos hj0, List.getElem?_eq_getElem hin]) (hf.trans e.symm)
  have e1 : xs = xs.take i ++ xs[i] :: xs.drop (i + 1) := by rw [List.getElem_cons_drop, List.take_append_drop]
  have a1 : (xs.take i).filter (fun c => c.family != f) = xs.take i := by
    rw [List.filter_eq_self]
    intro c hc
    obtain ⟨j, hj, rfl⟩ := List.getElem_of_mem hc
    rw [List.length_take] at hj
    rw [List.getElem_take]
    simpa using hne j (by omega) (by omega)
  have a2 : (xs.drop (i + 1)).filter (fun c => c.family != f) = xs.drop (i + 1) := by
    rw [List.filter_eq_self]
    intro c hc
    obtain ⟨j, hj, rfl⟩ := List.getElem_of_mem hc
    rw [List.length_drop] at hj
    rw [List.getElem_drop]
    simpa using hne (i + 1 + j) (by omega) (by omega)
  unfold lessL
  rw [List.eraseIdx_eq_take_drop_succ]
  conv => rhs; rw [e1]
  rw [List.filter_append, List.filter_cons, a1, a2, hf]
  simp

def withoutE (xs : List Comer) (h f : Int) : Int := if okMill h xs = true then (if idx xs f < 0 then 57 else 0) else 52
def withoutH (xs : List Comer) (h f : Int) : Int := if withoutE xs h f = 0 then h else 0
def withoutL (xs : List Comer) (h f : Int) : List Comer := if withoutE xs h f = 0 then lessL xs f else []

/-- A mill, and an error. -/
def MillPost (h : Int) (xs : List Comer) (er : Int) (w : World) (e : Ending) (w' : World) : Prop :=
  Below w.heap.size w w' ∧ ∃ A c, e = .returned (.tuple #[mv A xs.length c h, .int .i64 er]) ∧ xs.length ≤ c ∧ c ≤ maxLen ∧ Arr ccells 3 w' A xs.length xs

end Go.Proofs.Ytdhhneflhmkonaa
