/- The mill that numbers describe: the walk of Made. -/
import Derived.Test.YtdhhneflhmkonaaM1
namespace Go.Proofs.Ytdhhneflhmkonaa
open Go.RowKit Go.Shelf

theorem keepSet {W : World} {b o b' o' : Nat} {v : Value} (h : W.cell? ⟨b, o, none⟩ = some v) (hne : b ≠ b') (u : Value) : (W.setCell ⟨b', o', none⟩ u).cell? ⟨b, o, none⟩ = some v :=
  (World.cell?_of_block (a := ⟨b, o, none⟩) (Below.heap_setCell W ⟨b', o', none⟩ u b hne)).trans h
theorem pair_at {w : World} {A : Option Addr} {n : Nat} {l : List Pr} (h : Arr pcells 2 w A n l) {k : Nat} (hk : k < n) :
    ∃ b o, A = some ⟨b, o, none⟩ ∧ b < w.heap.size ∧ ∀ w', Below w.heap.size w w' → w'.cell? ⟨b, o + k * 2, none⟩ = some (.int .i64 (l.getD k (0, 0)).1) ∧ w'.cell? ⟨b, o + k * 2 + 1, none⟩ = some (.int .i64 (l.getD k (0, 0)).2) := by
  obtain ⟨b, o, x, rfl, hb, hx, hc⟩ := h.at hk
  have e : l.getD k (0, 0) = x := by rw [List.getD_eq_getElem?_getD, hx]; rfl
  rw [e]
  exact ⟨b, o, rfl, hb, fun w' hw => ⟨hc w' hw 0 _ rfl, hc w' hw 1 _ rfl⟩⟩

theorem pw10 (H : Nat) (h : H ≤ 10) : wrap64 ((2 : Int) ^ H) = ((2 ^ H : Nat) : Int) ∧ 1 ≤ 2 ^ H ∧ 2 ^ H ≤ 1024 := by
  have h1 : 2 ^ H ≤ 2 ^ 10 := Nat.pow_le_pow_right (by decide) h
  have h2 : 0 < 2 ^ H := Nat.two_pow_pos H
  refine ⟨?_, h2, h1⟩
  rw [show (2 : Int) ^ H = ((2 ^ H : Nat) : Int) by simp]
  exact IntWalk.wrap64_in _ ⟨by omega, by omega⟩

theorem madeC_eq {H k : Nat} {l : List Pr} {p q X q1 q2 q3 : Int} (hp : (l.getD k (0, 0)).1 = p) (hq : (l.getD k (0, 0)).2 = q) (hX : ((2 ^ H : Nat) : Int) = X) (h1 : (7 * (k : Int) + 5) % 9 = q1) (h2 : p % X = q2) (h3 : q % 7 = q3) :
    madeC H l k = ⟨1 + q1, q2, q3⟩ := by
  subst hp hq hX h1 h2 h3
  rfl

/-- A load, or what yields anyhow, may be taken first: the slot written out. -/
theorem held_take {P : Program} {md : Region.Mode} {ops : Array Oper} {Q : Exit → Act → World → Prop} {S : World → Prop} {i : Nat} {oi : Oper} {d : Option Tmp} {v : Value} {fuel : Nat} {listed : Array Bool} {a : Act} {w : World} (hi : ops[i]? = some oi) (hd : oi.dst = d)
    (hs : Region.noSelect ops = true) (hf : Region.free md ops listed i = true) (hr : (Region.ready md ops listed).contains i = true)
    (hQ : ∀ c a w, Q (.panic c) (a.put oi.dst v) w → Q (.panic c) a w) (hg : Region.wanted oi (yielded ops a.tmps) = true) (hy : ∀ w, S w → (execOp a.eval oi).run P w = .ok (.value v) w) (hS : S w)
    (h : wpAnyH P md ops Q S fuel (listed.setIfInBounds i true) (a.put d v) w) : wpAnyH P md ops Q S (fuel + 1) listed a w := by
  subst hd
  exact wpAnyH_take hi hs hf hr hQ (.inl ⟨hg, hy⟩) hS h

theorem pwi (H : Nat) (h : H ≤ 10) : IntKind.i64.wrap ((2 : Int) ^ H) = ((2 ^ H : Nat) : Int) := by
  have h1 : 2 ^ H ≤ 2 ^ 10 := Nat.pow_le_pow_right (by decide) h
  have h2 : 2 ^ H ≤ 1024 := h1
  rw [show (2 : Int) ^ H = ((2 ^ H : Nat) : Int) by simp]
  generalize 2 ^ H = y at h2 ⊢
  exact IntWalk.i64_in _ (by omega)

/-- A mill, new. -/
def NewMill (h : Int) (xs : List Comer) (w : World) (e : Ending) (w' : World) : Prop :=
  Below w.heap.size w w' ∧ ∃ A c, e = .returned (mv A xs.length c h) ∧ xs.length ≤ c ∧ c ≤ maxLen ∧ Arr ccells 3 w' A xs.length xs ∧ ∀ b o, A = some ⟨b, o, none⟩ → w.heap.size ≤ b

set_option maxRecDepth 100000 in
set_option maxHeartbeats 16000000 in
theorem made_any (n : Int) (A : Option Addr) (m c : Nat) (l : List Pr) (w : World) (ha : Arr pcells 2 w A m l) (hm : m ≤ 9223372036854775807) :
    Calls Try.prog 33 #[.int .i64 n, .slice A m c] w (NewMill (madeH n : Nat) (madeX n l) w) := by
  have HA := Lib.hid ha
  have hlen := Lib.hid ha.1
  have hHle := madeH_le n
  have hmod0 : ∀ W, Calls Try.prog 32 #[.int .i64 n, .int .i64 11] W fun e w' => e = .returned (.int .i64 ((madeH n : Nat) : Int)) ∧ W = w' := fun W => callsRet (mod_any n 11 W (by decide) (by decide)) (by
    unfold madeH
    have := Int.emod_nonneg n (show (11 : Int) ≠ 0 by decide)
    congr 1; omega)
  have HMX := Lib.hid (show madeX n l = madeL (madeH n) l (min m 6) by rw [← ha.1]; rfl)
  generalize madeX n l = res at HMX ⊢
  generalize madeH n = H at hHle hmod0 HMX ⊢
  have HM0 := Lib.hid hmod0
  clear ha hmod0
  go_enter Try.func33, Try.ntmps33
  go_wp2_with (first | (go_at_call 32; (with_reducible refine (HM0.out _).mono ?_); rintro e w' ⟨rfl, rfl⟩))
  generalize hW2 : w.alloc (.cells #[.int .i64 0, .slice none 0 0] 24) = W2
  have b2 : Blk W2 w.heap.size 24 #[.int .i64 0, .slice none 0 0] := by rw [← hW2]; exact Blk.new _ _ _
  have g2 : Below w.heap.size w W2 := by rw [← hW2]; exact one_more _ _
  have s2 := boxSize hW2
  generalize hW3 : W2.alloc (.cells #[.int .i64 H, .slice none 0 0] 24) = W3
  have b3 : Blk W3 W2.heap.size 24 #[.int .i64 H, .slice none 0 0] := by rw [← hW3]; exact Blk.new _ _ _
  have g3 : Below W2.heap.size W2 W3 := by rw [← hW3]; exact one_more _ _
  have s3 := boxSize hW3
  have HR := Lib.hid (b2.ext g3)
  have HO := Lib.hid b3
  have HG := Lib.hid (extTrans g2 g3)
  have hge : w.heap.size < W2.heap.size ∧ W2.heap.size < W3.heap.size := by omega
  rw [← s2]
  obtain ⟨br, hbr⟩ : ∃ br, w.heap.size = br := ⟨_, rfl⟩
  obtain ⟨bo, hbo⟩ : ∃ bo, W2.heap.size = bo := ⟨_, rfl⟩
  obtain ⟨bs, hbs⟩ : ∃ bs, W3.heap.size = bs := ⟨_, rfl⟩
  rw [hbr] at HR
  rw [hbo] at HO
  rw [hbr, hbo, hbs] at hge
  rw [hbr, hbo]
  have HBR := Lib.hid hbr
  have HBS := Lib.hid hbs
  clear hW2 hW3 b2 b3 g2 g3 s2 s3 hbr hbo hbs
  obtain ⟨l2, l3⟩ := hge
  go_loopw [6] (fun i wr => ∃ (k : Nat) (v : Value), i = .int .i64 k ∧ k ≤ m ∧ k ≤ 6 ∧ Below br w wr ∧ bs ≤ wr.heap.size ∧ Blk wr br 24 #[.int .i64 0, .slice none 0 0] ∧ Blk wr bo 24 #[.int .i64 H, v] ∧
    OwnL ccells 3 53 wr bs v (madeL H l k)) (fun i _ => 6 - (intOf i).toNat)
  case atStart => exact ⟨0, .slice none 0 0, rfl, Nat.zero_le _, Nat.zero_le _, by rw [← HBR.out]; exact HG.out, by rw [← HBS.out]; exact Nat.le_refl _, HR.out, HO.out, OwnL.nil _ _⟩
  case round =>
    obtain ⟨k, v, rfl, hk, hk6, hg, hsz, hr, ho, hown⟩ := hrel
    have HGr := Lib.hid hg
    have HR := Lib.hid hr
    have HO := Lib.hid ho
    have HW := Lib.hid hown
    by_cases hlt : k < m ∧ k < 6
    · obtain ⟨hlm, hl6⟩ := hlt
      obtain ⟨b, o, hAe, hbl0, -⟩ := pair_at HA.out hlm
      subst hAe
      obtain ⟨b', o', e', hbl, hc⟩ := pair_at (HA.out.below (by rw [HBR.out]; exact hg)) hlm
      cases e'
      have hbl1 : b < br := by have := HBR.out; omega
      have HNX := Lib.hid (show madeL H l (k + 1) = madeL H l k ++ [madeC H l k] from rfl)
      have HL := Lib.hid (madeL_len H l k)
      obtain ⟨p, hp⟩ : ∃ p, (l.getD k (0, 0)).1 = p := ⟨_, rfl⟩
      obtain ⟨q, hq⟩ : ∃ q, (l.getD k (0, 0)).2 = q := ⟨_, rfl⟩
      obtain ⟨hpw, h0, hp10'⟩ := pw10 H hHle
      obtain ⟨X, hX⟩ : ∃ X : Int, ((2 ^ H : Nat) : Int) = X := ⟨_, rfl⟩
      have hXb : 1 ≤ X ∧ X ≤ 1024 := by omega
      rw [hX] at hpw
      have hpi := pwi H hHle
      rw [hX] at hpi
      clear h0 hp10'
      obtain ⟨q1, hq1⟩ : ∃ q1, (7 * (k : Int) + 5) % 9 = q1 := ⟨_, rfl⟩
      obtain ⟨q2, hq2⟩ : ∃ q2, p % X = q2 := ⟨_, rfl⟩
      obtain ⟨q3, hq3⟩ : ∃ q3, q % 7 = q3 := ⟨_, rfl⟩
      have hq1b : 0 ≤ q1 ∧ q1 < 9 := by omega
      have HX := Lib.hid (show madeC H l k = ⟨1 + q1, q2, q3⟩ from madeC_eq hp hq hX hq1 hq2 hq3)
      have T1 := Lib.hid (fun W => callsRet (mod_any (7 * (k : Int) + 5) 9 W (by decide) (by decide)) (by rw [hq1]))
      have T2 := Lib.hid (fun W => callsRet (mod_any p X W hXb.1 (by omega)) (by rw [hq2]))
      have T3 := Lib.hid (fun W => callsRet (mod_any q 7 W (by decide) (by decide)) (by rw [hq3]))
      rw [hp, hq] at hc
      rw [HX.out] at HNX
      have e0 := HO.out.cell 0
      have e1 := HO.out.cell 1
      have q5 := hc wr (Below.refl _ _)
      obtain ⟨W5, hW5⟩ : ∃ W5, (wr.alloc (.cells #[.int .i64 (1 + q1), .int .i64 q2, .int .i64 q3] 53)).drew = W5 := ⟨_, rfl⟩
      have g5 : Below wr.heap.size wr W5 := by rw [← hW5]; exact (one_more _ _).drew
      have hb5 : Blk W5 wr.heap.size 53 #[.int .i64 (1 + q1), .int .i64 q2, .int .i64 q3] := by rw [← hW5]; exact Blk.new _ _ _
      have HA5 := Lib.hid (Blk.arr1 (f := ccells) (size := 3) (x := (⟨1 + q1, q2, q3⟩ : Comer)) hb5)
      have HOW5 := Lib.hid (HW.out.ext g5)
      have HR5 := Lib.hid (HR.out.ext g5)
      have HO5 := Lib.hid (HO.out.ext g5)
      have hs5 : bs ≤ W5.heap.size := by have := g5.size; omega
      have HG5 := Lib.hid (HGr.out.trans (g5.mono (by have := HBR.out; omega)))
      have p1 := HO5.out.cell 1
      have p0 := HO5.out.cell 0
      have hlen5 : (madeL H l k).length + 1 ≤ 1000000 := by have := HL.out; omega
      have s1 : IntKind.i64.wrap (7 * (k : Int)) = 7 * (k : Int) := IntWalk.i64_in _ (by omega)
      have s2 : IntKind.i64.wrap (7 * (k : Int) + 5) = 7 * (k : Int) + 5 := IntWalk.i64_in _ (by omega)
      have s3 : IntKind.i64.wrap (1 + q1) = 1 + q1 := IntWalk.i64_in _ (by omega)
      clear hg hr ho hown hb5 hp hq hX hq1 hq2 hq3
      have hbb : b < bs := by omega
      have hbne : b ≠ bo := by omega
      have q5' := hc W5 g5
      clear g5 hc
      go_wp2_with fail
      refine wp_region_held_drew (S := fun w' => w'.cell? ⟨b, o + k * 2, none⟩ = some (.int .i64 p) ∧ w'.cell? ⟨b, o + k * 2 + 1, none⟩ = some (.int .i64 q) ∧ w'.cell? ⟨bo, 0, none⟩ = some (.int .i64 H)) (by kernel_rfl) (⟨q5.1, q5.2, e0⟩) (fun hHeld => ?_)
      (refine held_take (i := 0) (oi := ⟨_, _, _, _, _, _⟩) (d := some 20) (v := ?_) rfl rfl (by kernel_rfl) (by kernel_rfl) (by kernel_rfl) (fun _ _ _ h => h) (by rfl) ?_ (by assumption) ?_; rotate_left; (focus (intro w hSw; (try dsimp only at hSw); go_simp; try with_reducible rfl)); (try simp only [Act.put, List.setIfInBounds_toArray, List.set_cons_zero, List.set_cons_succ]))
      (refine held_take (i := 2) (oi := ⟨_, _, _, _, _, _⟩) (d := some 22) (v := ?_) rfl rfl (by kernel_rfl) (by kernel_rfl) (by kernel_rfl) (fun _ _ _ h => h) (by rfl) ?_ (by assumption) ?_; rotate_left; (focus (intro w hSw; (try dsimp only at hSw); go_simp; try with_reducible rfl)); (try simp only [Act.put, List.setIfInBounds_toArray, List.set_cons_zero, List.set_cons_succ]))
      (refine held_take (i := 3) (oi := ⟨_, _, _, _, _, _⟩) (d := some 23) (v := ?_) rfl rfl (by kernel_rfl) (by kernel_rfl) (by kernel_rfl) (fun _ _ _ h => h) (by rfl) ?_ (by assumption) ?_; rotate_left; (focus (intro w hSw; (try dsimp only at hSw); go_simp; try with_reducible rfl)); (try simp only [Act.put, List.setIfInBounds_toArray, List.set_cons_zero, List.set_cons_succ]))
      (refine held_take (i := 4) (oi := ⟨_, _, _, _, _, _⟩) (d := some 24) (v := ?_) rfl rfl (by kernel_rfl) (by kernel_rfl) (by kernel_rfl) (fun _ _ _ h => h) (by rfl) ?_ (by assumption) ?_; rotate_left; (focus (intro w hSw; (try dsimp only at hSw); go_simp; try with_reducible rfl)); (try simp only [Act.put, List.setIfInBounds_toArray, List.set_cons_zero, List.set_cons_succ]))
      (refine held_take (i := 7) (oi := ⟨_, _, _, _, _, _⟩) (d := some 27) (v := ?_) rfl rfl (by kernel_rfl) (by kernel_rfl) (by kernel_rfl) (fun _ _ _ h => h) (by rfl) ?_ (by assumption) ?_; rotate_left; (focus (intro w hSw; (try dsimp only at hSw); go_simp; try with_reducible rfl)); (try simp only [Act.put, List.setIfInBounds_toArray, List.set_cons_zero, List.set_cons_succ]))
      (refine held_take (i := 8) (oi := ⟨_, _, _, _, _, _⟩) (d := some 28) (v := ?_) rfl rfl (by kernel_rfl) (by kernel_rfl) (by kernel_rfl) (fun _ _ _ h => h) (by rfl) ?_ (by assumption) ?_; rotate_left; (focus (intro w hSw; (try dsimp only at hSw); go_simp; try with_reducible rfl)); (try simp only [Act.put, List.setIfInBounds_toArray, List.set_cons_zero, List.set_cons_succ]))
      (refine held_take (i := 9) (oi := ⟨_, _, _, _, _, _⟩) (d := some 29) (v := ?_) rfl rfl (by kernel_rfl) (by kernel_rfl) (by kernel_rfl) (fun _ _ _ h => h) (by rfl) ?_ (by assumption) ?_; rotate_left; (focus (intro w hSw; (try dsimp only at hSw); go_simp; try with_reducible rfl)); (try simp only [Act.put, List.setIfInBounds_toArray, List.set_cons_zero, List.set_cons_succ]))
      (refine held_take (i := 10) (oi := ⟨_, _, _, _, _, _⟩) (d := some 30) (v := ?_) rfl rfl (by kernel_rfl) (by kernel_rfl) (by kernel_rfl) (fun _ _ _ h => h) (by rfl) ?_ (by assumption) ?_; rotate_left; (focus (intro w hSw; (try dsimp only at hSw); go_simp; try with_reducible rfl)); (try simp only [Act.put, List.setIfInBounds_toArray, List.set_cons_zero, List.set_cons_succ]))
      (refine held_take (i := 11) (oi := ⟨_, _, _, _, _, _⟩) (d := some 31) (v := ?_) rfl rfl (by kernel_rfl) (by kernel_rfl) (by kernel_rfl) (fun _ _ _ h => h) (by rfl) ?_ (by assumption) ?_; rotate_left; (focus (intro w hSw; (try dsimp only at hSw); go_simp; try with_reducible rfl)); (try simp only [Act.put, List.setIfInBounds_toArray, List.set_cons_zero, List.set_cons_succ]))
      (refine held_take (i := 12) (oi := ⟨_, _, _, _, _, _⟩) (d := some 32) (v := ?_) rfl rfl (by kernel_rfl) (by kernel_rfl) (by kernel_rfl) (fun _ _ _ h => h) (by rfl) ?_ (by assumption) ?_; rotate_left; (focus (intro w hSw; (try dsimp only at hSw); go_simp; try with_reducible rfl)); (try simp only [Act.put, List.setIfInBounds_toArray, List.set_cons_zero, List.set_cons_succ]))
      (refine held_take (i := 13) (oi := ⟨_, _, _, _, _, _⟩) (d := some 33) (v := ?_) rfl rfl (by kernel_rfl) (by kernel_rfl) (by kernel_rfl) (fun _ _ _ h => h) (by rfl) ?_ (by assumption) ?_; rotate_left; (focus (intro w hSw; (try dsimp only at hSw); go_simp; try with_reducible rfl)); (try simp only [Act.put, List.setIfInBounds_toArray, List.set_cons_zero, List.set_cons_succ]))
      (refine held_take (i := 14) (oi := ⟨_, _, _, _, _, _⟩) (d := some 34) (v := ?_) rfl rfl (by kernel_rfl) (by kernel_rfl) (by kernel_rfl) (fun _ _ _ h => h) (by rfl) ?_ (by assumption) ?_; rotate_left; (focus (intro w hSw; (try dsimp only at hSw); go_simp; try with_reducible rfl)); (try simp only [Act.put, List.setIfInBounds_toArray, List.set_cons_zero, List.set_cons_succ]))
      (refine held_take (i := 16) (oi := ⟨_, _, _, _, _, _⟩) (d := some 36) (v := ?_) rfl rfl (by kernel_rfl) (by kernel_rfl) (by kernel_rfl) (fun _ _ _ h => h) (by rfl) ?_ (by assumption) ?_; rotate_left; (focus (intro w hSw; (try dsimp only at hSw); go_simp; try with_reducible rfl)); (try simp only [Act.put, List.setIfInBounds_toArray, List.set_cons_zero, List.set_cons_succ]))
      (refine held_take (i := 17) (oi := ⟨_, _, _, _, _, _⟩) (d := some 37) (v := ?_) rfl rfl (by kernel_rfl) (by kernel_rfl) (by kernel_rfl) (fun _ _ _ h => h) (by rfl) ?_ (by assumption) ?_; rotate_left; (focus (intro w hSw; (try dsimp only at hSw); go_simp; try with_reducible rfl)); (try simp only [Act.put, List.setIfInBounds_toArray, List.set_cons_zero, List.set_cons_succ]))
      (refine held_take (i := 18) (oi := ⟨_, _, _, _, _, _⟩) (d := some 38) (v := ?_) rfl rfl (by kernel_rfl) (by kernel_rfl) (by kernel_rfl) (fun _ _ _ h => h) (by rfl) ?_ (by assumption) ?_; rotate_left; (focus (intro w hSw; (try dsimp only at hSw); go_simp; try with_reducible rfl)); (try simp only [Act.put, List.setIfInBounds_toArray, List.set_cons_zero, List.set_cons_succ]))
      (refine held_take (i := 19) (oi := ⟨_, _, _, _, _, _⟩) (d := some 39) (v := ?_) rfl rfl (by kernel_rfl) (by kernel_rfl) (by kernel_rfl) (fun _ _ _ h => h) (by rfl) ?_ (by assumption) ?_; rotate_left; (focus (intro w hSw; (try dsimp only at hSw); go_simp; try with_reducible rfl)); (try simp only [Act.put, List.setIfInBounds_toArray, List.set_cons_zero, List.set_cons_succ]))
      (refine held_take (i := 20) (oi := ⟨_, _, _, _, _, _⟩) (d := some 40) (v := ?_) rfl rfl (by kernel_rfl) (by kernel_rfl) (by kernel_rfl) (fun _ _ _ h => h) (by rfl) ?_ (by assumption) ?_; rotate_left; (focus (intro w hSw; (try dsimp only at hSw); go_simp; try with_reducible rfl)); (try simp only [Act.put, List.setIfInBounds_toArray, List.set_cons_zero, List.set_cons_succ]))
      refine wpAnyH_ready (rs := [1, 5]) (by kernel_rfl) (by simp) ?_
      refine AllReadyH.cons (o := ⟨_, _, _, _, _, _⟩) rfl (fun K hK => ?_) ?_
      · go_simp
        refine hK.out _ _ ?_ (fun hHeld => ?_)
        · first | exact hHeld | exact ⟨q5'.1, q5'.2, p0⟩ | exact ⟨j1, j2, j3⟩ | exact ⟨i1, i2, i3⟩ | exact ⟨keepAlloc hHeld.1 _, keepAlloc hHeld.2.1 _, keepAlloc hHeld.2.2 _⟩
        clear hK K
        (try simp only [Act.put, List.setIfInBounds_toArray, List.set_cons_zero, List.set_cons_succ])
        refine wpAnyH_ready (rs := [5]) (by kernel_rfl) (by simp) ?_
        refine AllReadyH.cons (o := ⟨_, _, _, _, _, _⟩) rfl (fun K hK => ?_) ?_
        · (go_simp; go_at_call 32; refine (T1.out _).mono ?_; rintro e w' ⟨rfl, rfl⟩; dsimp only)
          refine hK.out _ _ ?_ (fun hHeld => ?_)
          · first | exact hHeld | exact ⟨q5'.1, q5'.2, p0⟩ | exact ⟨j1, j2, j3⟩ | exact ⟨i1, i2, i3⟩ | exact ⟨keepAlloc hHeld.1 _, keepAlloc hHeld.2.1 _, keepAlloc hHeld.2.2 _⟩
          clear hK K
          (try simp only [Act.put, List.setIfInBounds_toArray, List.set_cons_zero, List.set_cons_succ])
          (refine held_take (i := 6) (oi := ⟨_, _, _, _, _, _⟩) (d := some 26) (v := ?_) rfl rfl (by kernel_rfl) (by kernel_rfl) (by kernel_rfl) (fun _ _ _ h => h) (by rfl) ?_ (by assumption) ?_; rotate_left; (focus (intro w hSw; (try dsimp only at hSw); go_simp; try with_reducible rfl)); (try simp only [Act.put, List.setIfInBounds_toArray, List.set_cons_zero, List.set_cons_succ]))
          refine wpAnyH_ready (rs := [15]) (by kernel_rfl) (by simp) ?_
          refine AllReadyH.cons (o := ⟨_, _, _, _, _, _⟩) rfl (fun K hK => ?_) ?_
          · (go_simp; go_at_call 32; refine (T2.out _).mono ?_; rintro e w' ⟨rfl, rfl⟩; dsimp only)
            refine hK.out _ _ ?_ (fun hHeld => ?_)
            · first | exact hHeld | exact ⟨q5'.1, q5'.2, p0⟩ | exact ⟨j1, j2, j3⟩ | exact ⟨i1, i2, i3⟩ | exact ⟨keepAlloc hHeld.1 _, keepAlloc hHeld.2.1 _, keepAlloc hHeld.2.2 _⟩
            clear hK K
            (try simp only [Act.put, List.setIfInBounds_toArray, List.set_cons_zero, List.set_cons_succ])
            refine wpAnyH_ready (rs := [21]) (by kernel_rfl) (by simp) ?_
            refine AllReadyH.cons (o := ⟨_, _, _, _, _, _⟩) rfl (fun K hK => ?_) ?_
            · (go_simp; go_at_call 32; refine (T3.out _).mono ?_; rintro e w' ⟨rfl, rfl⟩; dsimp only)
              refine hK.out _ _ ?_ (fun hHeld => ?_)
              · first | exact hHeld | exact ⟨q5'.1, q5'.2, p0⟩ | exact ⟨j1, j2, j3⟩ | exact ⟨i1, i2, i3⟩ | exact ⟨keepAlloc hHeld.1 _, keepAlloc hHeld.2.1 _, keepAlloc hHeld.2.2 _⟩
              clear hK K
              (try simp only [Act.put, List.setIfInBounds_toArray, List.set_cons_zero, List.set_cons_succ])
              (refine held_take (i := 22) (oi := ⟨_, _, _, _, _, _⟩) (d := some 42) (v := ?_) rfl rfl (by kernel_rfl) (by kernel_rfl) (by kernel_rfl) (fun _ _ _ h => h) (by rfl) ?_ (by assumption) ?_; rotate_left; (focus (intro w hSw; (try dsimp only at hSw); go_simp; try with_reducible rfl)); (try simp only [Act.put, List.setIfInBounds_toArray, List.set_cons_zero, List.set_cons_succ]))
              refine wpAnyH_ready (rs := [23]) (by kernel_rfl) (by simp) ?_
              refine AllReadyH.cons (o := ⟨_, _, _, _, _, _⟩) rfl (fun K hK => ?_) ?_
              · go_simp
                refine hK.out _ _ ?_ (fun hHeld => ?_)
                · first | exact hHeld | exact ⟨q5'.1, q5'.2, p0⟩ | exact ⟨j1, j2, j3⟩ | exact ⟨i1, i2, i3⟩ | exact ⟨keepAlloc hHeld.1 _, keepAlloc hHeld.2.1 _, keepAlloc hHeld.2.2 _⟩
                clear hK K
                (try simp only [Act.put, List.setIfInBounds_toArray, List.set_cons_zero, List.set_cons_succ])
                refine wpAnyH_ready (rs := [24]) (by kernel_rfl) (by simp) ?_
                refine AllReadyH.cons (o := ⟨_, _, _, _, _, _⟩) rfl (fun K hK => ?_) ?_
                · (refine step_app kdCom (by rfl) _ _ (by rfl) bs v (madeL H l k) (by rfl) HOW5.out _ _ _ [(⟨1 + q1, q2, q3⟩ : Comer)] (by rfl) HA5.out hlen5 hs5 ?_; intro v' w' hov hgr hat; obtain ⟨A6, c6, e6, -, -, -, -⟩ := hov.arr kdCom; obtain ⟨m6, hm6⟩ : ∃ m6, (madeL H l k ++ [(⟨1 + q1, q2, q3⟩ : Comer)]).length = m6 := ⟨_, rfl⟩; rw [hm6] at e6; clear hm6; subst e6; have hbw := Lib.hid (HOW5.out.below hgr (Nat.le_refl bs) hs5); have ho6 := (show Blk w' bo 24 _ from (hbw.out.block bo l3).trans HO5.out); have e7 := ho6.cell 1; have f6 := ho6.frozen 1; have i1 := (hbw.out.cell (p := ⟨b, o + k * 2, none⟩) hbb).trans q5'.1; have i2 := (hbw.out.cell (p := ⟨b, o + k * 2 + 1, none⟩) hbb).trans q5'.2; have i3 := ho6.cell 0; have j1 := keepSet (b' := bo) (o' := 1) i1 hbne (.slice A6 m6 c6); have j2 := keepSet (b' := bo) (o' := 1) i2 hbne (.slice A6 m6 c6); have j3 := (ho6.set_ 1 (.slice A6 m6 c6)).cell 0; have HO6 := Lib.hid ho6; have HOV := Lib.hid hov; clear ho6 hgr hat hov)
                  refine hK.out _ _ ?_ (fun hHeld => ?_)
                  · first | exact hHeld | exact ⟨q5'.1, q5'.2, p0⟩ | exact ⟨j1, j2, j3⟩ | exact ⟨i1, i2, i3⟩ | exact ⟨keepAlloc hHeld.1 _, keepAlloc hHeld.2.1 _, keepAlloc hHeld.2.2 _⟩
                  clear hK K
                  (try simp only [Act.put, List.setIfInBounds_toArray, List.set_cons_zero, List.set_cons_succ])
                  (refine held_take (i := 25) (oi := ⟨_, _, _, _, _, _⟩) (d := some 45) (v := ?_) rfl rfl (by kernel_rfl) (by kernel_rfl) (by kernel_rfl) (fun _ _ _ h => h) (by rfl) ?_ (by assumption) ?_; rotate_left; (focus (intro w hSw; (try dsimp only at hSw); go_simp; try with_reducible rfl)); (try simp only [Act.put, List.setIfInBounds_toArray, List.set_cons_zero, List.set_cons_succ]))
                  refine wpAnyH_ready (rs := [26]) (by kernel_rfl) (by simp) ?_
                  refine AllReadyH.cons (o := ⟨_, _, _, _, _, _⟩) rfl (fun K hK => ?_) ?_
                  · go_simp
                    refine hK.out _ _ ?_ (fun hHeld => ?_)
                    · first | exact hHeld | exact ⟨q5'.1, q5'.2, p0⟩ | exact ⟨j1, j2, j3⟩ | exact ⟨i1, i2, i3⟩ | exact ⟨keepAlloc hHeld.1 _, keepAlloc hHeld.2.1 _, keepAlloc hHeld.2.2 _⟩
                    clear hK K
                    (try simp only [Act.put, List.setIfInBounds_toArray, List.set_cons_zero, List.set_cons_succ])
                    refine wpAnyH_done (by kernel_rfl) ?_ _
                    go_wp2_with fail
                    go_roundw
                    case rel =>
                      refine ⟨k + 1, .slice A6 m6 c6, by go_num, by omega, by omega, ?_, ?_, ?_, ?_, ?_⟩
                      · exact (HG5.out.trans (hbw.out.mono (by have := HBR.out; omega))).setCell (p := ⟨bo, 1, none⟩) (by dsimp only; omega) _
                      · have := hbw.out.size; simp [World.setCell]; omega
                      · exact (show Blk w' br 24 _ from (hbw.out.block br (by omega)).trans HR5.out).far (p := ⟨bo, 1, none⟩) (by dsimp only; omega) _
                      · exact HO6.out.set_ 1 _
                      · rw [HNX.out]; exact HOV.out.far (p := ⟨bo, 1, none⟩) l3 _
                    case measure => simp [intOf]; omega
                  exact AllReadyH.nil
                exact AllReadyH.nil
              exact AllReadyH.nil
            exact AllReadyH.nil
          exact AllReadyH.nil
        exact AllReadyH.nil
      refine AllReadyH.cons (o := ⟨_, _, _, _, _, _⟩) rfl (fun K hK => ?_) ?_
      · (go_simp; go_at_call 32; refine (T1.out _).mono ?_; rintro e w' ⟨rfl, rfl⟩; dsimp only)
        refine hK.out _ _ ?_ (fun hHeld => ?_)
        · first | exact hHeld | exact ⟨q5'.1, q5'.2, p0⟩ | exact ⟨j1, j2, j3⟩ | exact ⟨i1, i2, i3⟩ | exact ⟨keepAlloc hHeld.1 _, keepAlloc hHeld.2.1 _, keepAlloc hHeld.2.2 _⟩
        clear hK K
        (try simp only [Act.put, List.setIfInBounds_toArray, List.set_cons_zero, List.set_cons_succ])
        (refine held_take (i := 6) (oi := ⟨_, _, _, _, _, _⟩) (d := some 26) (v := ?_) rfl rfl (by kernel_rfl) (by kernel_rfl) (by kernel_rfl) (fun _ _ _ h => h) (by rfl) ?_ (by assumption) ?_; rotate_left; (focus (intro w hSw; (try dsimp only at hSw); go_simp; try with_reducible rfl)); (try simp only [Act.put, List.setIfInBounds_toArray, List.set_cons_zero, List.set_cons_succ]))
        refine wpAnyH_ready (rs := [1, 15]) (by kernel_rfl) (by simp) ?_
        refine AllReadyH.cons (o := ⟨_, _, _, _, _, _⟩) rfl (fun K hK => ?_) ?_
        · go_simp
          refine hK.out _ _ ?_ (fun hHeld => ?_)
          · first | exact hHeld | exact ⟨q5'.1, q5'.2, p0⟩ | exact ⟨j1, j2, j3⟩ | exact ⟨i1, i2, i3⟩ | exact ⟨keepAlloc hHeld.1 _, keepAlloc hHeld.2.1 _, keepAlloc hHeld.2.2 _⟩
          clear hK K
          (try simp only [Act.put, List.setIfInBounds_toArray, List.set_cons_zero, List.set_cons_succ])
          refine wpAnyH_ready (rs := [15]) (by kernel_rfl) (by simp) ?_
          refine AllReadyH.cons (o := ⟨_, _, _, _, _, _⟩) rfl (fun K hK => ?_) ?_
          · (go_simp; go_at_call 32; refine (T2.out _).mono ?_; rintro e w' ⟨rfl, rfl⟩; dsimp only)
            refine hK.out _ _ ?_ (fun hHeld => ?_)
            · first | exact hHeld | exact ⟨q5'.1, q5'.2, p0⟩ | exact ⟨j1, j2, j3⟩ | exact ⟨i1, i2, i3⟩ | exact ⟨keepAlloc hHeld.1 _, keepAlloc hHeld.2.1 _, keepAlloc hHeld.2.2 _⟩
            clear hK K
            (try simp only [Act.put, List.setIfInBounds_toArray, List.set_cons_zero, List.set_cons_succ])
            refine wpAnyH_ready (rs := [21]) (by kernel_rfl) (by simp) ?_
            refine AllReadyH.cons (o := ⟨_, _, _, _, _, _⟩) rfl (fun K hK => ?_) ?_
            · (go_simp; go_at_call 32; refine (T3.out _).mono ?_; rintro e w' ⟨rfl, rfl⟩; dsimp only)
              refine hK.out _ _ ?_ (fun hHeld => ?_)
              · first | exact hHeld | exact ⟨q5'.1, q5'.2, p0⟩ | exact ⟨j1, j2, j3⟩ | exact ⟨i1, i2, i3⟩ | exact ⟨keepAlloc hHeld.1 _, keepAlloc hHeld.2.1 _, keepAlloc hHeld.2.2 _⟩
              clear hK K
              (try simp only [Act.put, List.setIfInBounds_toArray, List.set_cons_zero, List.set_cons_succ])
              (refine held_take (i := 22) (oi := ⟨_, _, _, _, _, _⟩) (d := some 42) (v := ?_) rfl rfl (by kernel_rfl) (by kernel_rfl) (by kernel_rfl) (fun _ _ _ h => h) (by rfl) ?_ (by assumption) ?_; rotate_left; (focus (intro w hSw; (try dsimp only at hSw); go_simp; try with_reducible rfl)); (try simp only [Act.put, List.setIfInBounds_toArray, List.set_cons_zero, List.set_cons_succ]))
              refine wpAnyH_ready (rs := [23]) (by kernel_rfl) (by simp) ?_
              refine AllReadyH.cons (o := ⟨_, _, _, _, _, _⟩) rfl (fun K hK => ?_) ?_
              · go_simp
                refine hK.out _ _ ?_ (fun hHeld => ?_)
                · first | exact hHeld | exact ⟨q5'.1, q5'.2, p0⟩ | exact ⟨j1, j2, j3⟩ | exact ⟨i1, i2, i3⟩ | exact ⟨keepAlloc hHeld.1 _, keepAlloc hHeld.2.1 _, keepAlloc hHeld.2.2 _⟩
                clear hK K
                (try simp only [Act.put, List.setIfInBounds_toArray, List.set_cons_zero, List.set_cons_succ])
                refine wpAnyH_ready (rs := [24]) (by kernel_rfl) (by simp) ?_
                refine AllReadyH.cons (o := ⟨_, _, _, _, _, _⟩) rfl (fun K hK => ?_) ?_
                · (refine step_app kdCom (by rfl) _ _ (by rfl) bs v (madeL H l k) (by rfl) HOW5.out _ _ _ [(⟨1 + q1, q2, q3⟩ : Comer)] (by rfl) HA5.out hlen5 hs5 ?_; intro v' w' hov hgr hat; obtain ⟨A6, c6, e6, -, -, -, -⟩ := hov.arr kdCom; obtain ⟨m6, hm6⟩ : ∃ m6, (madeL H l k ++ [(⟨1 + q1, q2, q3⟩ : Comer)]).length = m6 := ⟨_, rfl⟩; rw [hm6] at e6; clear hm6; subst e6; have hbw := Lib.hid (HOW5.out.below hgr (Nat.le_refl bs) hs5); have ho6 := (show Blk w' bo 24 _ from (hbw.out.block bo l3).trans HO5.out); have e7 := ho6.cell 1; have f6 := ho6.frozen 1; have i1 := (hbw.out.cell (p := ⟨b, o + k * 2, none⟩) hbb).trans q5'.1; have i2 := (hbw.out.cell (p := ⟨b, o + k * 2 + 1, none⟩) hbb).trans q5'.2; have i3 := ho6.cell 0; have j1 := keepSet (b' := bo) (o' := 1) i1 hbne (.slice A6 m6 c6); have j2 := keepSet (b' := bo) (o' := 1) i2 hbne (.slice A6 m6 c6); have j3 := (ho6.set_ 1 (.slice A6 m6 c6)).cell 0; have HO6 := Lib.hid ho6; have HOV := Lib.hid hov; clear ho6 hgr hat hov)
                  refine hK.out _ _ ?_ (fun hHeld => ?_)
                  · first | exact hHeld | exact ⟨q5'.1, q5'.2, p0⟩ | exact ⟨j1, j2, j3⟩ | exact ⟨i1, i2, i3⟩ | exact ⟨keepAlloc hHeld.1 _, keepAlloc hHeld.2.1 _, keepAlloc hHeld.2.2 _⟩
                  clear hK K
                  (try simp only [Act.put, List.setIfInBounds_toArray, List.set_cons_zero, List.set_cons_succ])
                  (refine held_take (i := 25) (oi := ⟨_, _, _, _, _, _⟩) (d := some 45) (v := ?_) rfl rfl (by kernel_rfl) (by kernel_rfl) (by kernel_rfl) (fun _ _ _ h => h) (by rfl) ?_ (by assumption) ?_; rotate_left; (focus (intro w hSw; (try dsimp only at hSw); go_simp; try with_reducible rfl)); (try simp only [Act.put, List.setIfInBounds_toArray, List.set_cons_zero, List.set_cons_succ]))
                  refine wpAnyH_ready (rs := [26]) (by kernel_rfl) (by simp) ?_
                  refine AllReadyH.cons (o := ⟨_, _, _, _, _, _⟩) rfl (fun K hK => ?_) ?_
                  · go_simp
                    refine hK.out _ _ ?_ (fun hHeld => ?_)
                    · first | exact hHeld | exact ⟨q5'.1, q5'.2, p0⟩ | exact ⟨j1, j2, j3⟩ | exact ⟨i1, i2, i3⟩ | exact ⟨keepAlloc hHeld.1 _, keepAlloc hHeld.2.1 _, keepAlloc hHeld.2.2 _⟩
                    clear hK K
                    (try simp only [Act.put, List.setIfInBounds_toArray, List.set_cons_zero, List.set_cons_succ])
                    refine wpAnyH_done (by kernel_rfl) ?_ _
                    go_wp2_with fail
                    go_roundw
                    case rel =>
                      refine ⟨k + 1, .slice A6 m6 c6, by go_num, by omega, by omega, ?_, ?_, ?_, ?_, ?_⟩
                      · exact (HG5.out.trans (hbw.out.mono (by have := HBR.out; omega))).setCell (p := ⟨bo, 1, none⟩) (by dsimp only; omega) _
                      · have := hbw.out.size; simp [World.setCell]; omega
                      · exact (show Blk w' br 24 _ from (hbw.out.block br (by omega)).trans HR5.out).far (p := ⟨bo, 1, none⟩) (by dsimp only; omega) _
                      · exact HO6.out.set_ 1 _
                      · rw [HNX.out]; exact HOV.out.far (p := ⟨bo, 1, none⟩) l3 _
                    case measure => simp [intOf]; omega
                  exact AllReadyH.nil
                exact AllReadyH.nil
              exact AllReadyH.nil
            exact AllReadyH.nil
          exact AllReadyH.nil
        refine AllReadyH.cons (o := ⟨_, _, _, _, _, _⟩) rfl (fun K hK => ?_) ?_
        · (go_simp; go_at_call 32; refine (T2.out _).mono ?_; rintro e w' ⟨rfl, rfl⟩; dsimp only)
          refine hK.out _ _ ?_ (fun hHeld => ?_)
          · first | exact hHeld | exact ⟨q5'.1, q5'.2, p0⟩ | exact ⟨j1, j2, j3⟩ | exact ⟨i1, i2, i3⟩ | exact ⟨keepAlloc hHeld.1 _, keepAlloc hHeld.2.1 _, keepAlloc hHeld.2.2 _⟩
          clear hK K
          (try simp only [Act.put, List.setIfInBounds_toArray, List.set_cons_zero, List.set_cons_succ])
          refine wpAnyH_ready (rs := [1, 21]) (by kernel_rfl) (by simp) ?_
          refine AllReadyH.cons (o := ⟨_, _, _, _, _, _⟩) rfl (fun K hK => ?_) ?_
          · go_simp
            refine hK.out _ _ ?_ (fun hHeld => ?_)
            · first | exact hHeld | exact ⟨q5'.1, q5'.2, p0⟩ | exact ⟨j1, j2, j3⟩ | exact ⟨i1, i2, i3⟩ | exact ⟨keepAlloc hHeld.1 _, keepAlloc hHeld.2.1 _, keepAlloc hHeld.2.2 _⟩
            clear hK K
            (try simp only [Act.put, List.setIfInBounds_toArray, List.set_cons_zero, List.set_cons_succ])
            refine wpAnyH_ready (rs := [21]) (by kernel_rfl) (by simp) ?_
            refine AllReadyH.cons (o := ⟨_, _, _, _, _, _⟩) rfl (fun K hK => ?_) ?_
            · (go_simp; go_at_call 32; refine (T3.out _).mono ?_; rintro e w' ⟨rfl, rfl⟩; dsimp only)
              refine hK.out _ _ ?_ (fun hHeld => ?_)
              · first | exact hHeld | exact ⟨q5'.1, q5'.2, p0⟩ | exact ⟨j1, j2, j3⟩ | exact ⟨i1, i2, i3⟩ | exact ⟨keepAlloc hHeld.1 _, keepAlloc hHeld.2.1 _, keepAlloc hHeld.2.2 _⟩
              clear hK K
              (try simp only [Act.put, List.setIfInBounds_toArray, List.set_cons_zero, List.set_cons_succ])
              (refine held_take (i := 22) (oi := ⟨_, _, _, _, _, _⟩) (d := some 42) (v := ?_) rfl rfl (by kernel_rfl) (by kernel_rfl) (by kernel_rfl) (fun _ _ _ h => h) (by rfl) ?_ (by assumption) ?_; rotate_left; (focus (intro w hSw; (try dsimp only at hSw); go_simp; try with_reducible rfl)); (try simp only [Act.put, List.setIfInBounds_toArray, List.set_cons_zero, List.set_cons_succ]))
              refine wpAnyH_ready (rs := [23]) (by kernel_rfl) (by simp) ?_
              refine AllReadyH.cons (o := ⟨_, _, _, _, _, _⟩) rfl (fun K hK => ?_) ?_
              · go_simp
                refine hK.out _ _ ?_ (fun hHeld => ?_)
                · first | exact hHeld | exact ⟨q5'.1, q5'.2, p0⟩ | exact ⟨j1, j2, j3⟩ | exact ⟨i1, i2, i3⟩ | exact ⟨keepAlloc hHeld.1 _, keepAlloc hHeld.2.1 _, keepAlloc hHeld.2.2 _⟩
                clear hK K
                (try simp only [Act.put, List.setIfInBounds_toArray, List.set_cons_zero, List.set_cons_succ])
                refine wpAnyH_ready (rs := [24]) (by kernel_rfl) (by simp) ?_
                refine AllReadyH.cons (o := ⟨_, _, _, _, _, _⟩) rfl (fun K hK => ?_) ?_
                · (refine step_app kdCom (by rfl) _ _ (by rfl) bs v (madeL H l k) (by rfl) HOW5.out _ _ _ [(⟨1 + q1, q2, q3⟩ : Comer)] (by rfl) HA5.out hlen5 hs5 ?_; intro v' w' hov hgr hat; obtain ⟨A6, c6, e6, -, -, -, -⟩ := hov.arr kdCom; obtain ⟨m6, hm6⟩ : ∃ m6, (madeL H l k ++ [(⟨1 + q1, q2, q3⟩ : Comer)]).length = m6 := ⟨_, rfl⟩; rw [hm6] at e6; clear hm6; subst e6; have hbw := Lib.hid (HOW5.out.below hgr (Nat.le_refl bs) hs5); have ho6 := (show Blk w' bo 24 _ from (hbw.out.block bo l3).trans HO5.out); have e7 := ho6.cell 1; have f6 := ho6.frozen 1; have i1 := (hbw.out.cell (p := ⟨b, o + k * 2, none⟩) hbb).trans q5'.1; have i2 := (hbw.out.cell (p := ⟨b, o + k * 2 + 1, none⟩) hbb).trans q5'.2; have i3 := ho6.cell 0; have j1 := keepSet (b' := bo) (o' := 1) i1 hbne (.slice A6 m6 c6); have j2 := keepSet (b' := bo) (o' := 1) i2 hbne (.slice A6 m6 c6); have j3 := (ho6.set_ 1 (.slice A6 m6 c6)).cell 0; have HO6 := Lib.hid ho6; have HOV := Lib.hid hov; clear ho6 hgr hat hov)
                  refine hK.out _ _ ?_ (fun hHeld => ?_)
                  · first | exact hHeld | exact ⟨q5'.1, q5'.2, p0⟩ | exact ⟨j1, j2, j3⟩ | exact ⟨i1, i2, i3⟩ | exact ⟨keepAlloc hHeld.1 _, keepAlloc hHeld.2.1 _, keepAlloc hHeld.2.2 _⟩
                  clear hK K
                  (try simp only [Act.put, List.setIfInBounds_toArray, List.set_cons_zero, List.set_cons_succ])
                  (refine held_take (i := 25) (oi := ⟨_, _, _, _, _, _⟩) (d := some 45) (v := ?_) rfl rfl (by kernel_rfl) (by kernel_rfl) (by kernel_rfl) (fun _ _ _ h => h) (by rfl) ?_ (by assumption) ?_; rotate_left; (focus (intro w hSw; (try dsimp only at hSw); go_simp; try with_reducible rfl)); (try simp only [Act.put, List.setIfInBounds_toArray, List.set_cons_zero, List.set_cons_succ]))
                  refine wpAnyH_ready (rs := [26]) (by kernel_rfl) (by simp) ?_
                  refine AllReadyH.cons (o := ⟨_, _, _, _, _, _⟩) rfl (fun K hK => ?_) ?_
                  · go_simp
                    refine hK.out _ _ ?_ (fun hHeld => ?_)
                    · first | exact hHeld | exact ⟨q5'.1, q5'.2, p0⟩ | exact ⟨j1, j2, j3⟩ | exact ⟨i1, i2, i3⟩ | exact ⟨keepAlloc hHeld.1 _, keepAlloc hHeld.2.1 _, keepAlloc hHeld.2.2 _⟩
                    clear hK K
                    (try simp only [Act.put, List.setIfInBounds_toArray, List.set_cons_zero, List.set_cons_succ])
                    refine wpAnyH_done (by kernel_rfl) ?_ _
                    go_wp2_with fail
                    go_roundw
                    case rel =>
                      refine ⟨k + 1, .slice A6 m6 c6, by go_num, by omega, by omega, ?_, ?_, ?_, ?_, ?_⟩
                      · exact (HG5.out.trans (hbw.out.mono (by have := HBR.out; omega))).setCell (p := ⟨bo, 1, none⟩) (by dsimp only; omega) _
                      · have := hbw.out.size; simp [World.setCell]; omega
                      · exact (show Blk w' br 24 _ from (hbw.out.block br (by omega)).trans HR5.out).far (p := ⟨bo, 1, none⟩) (by dsimp only; omega) _
                      · exact HO6.out.set_ 1 _
                      · rw [HNX.out]; exact HOV.out.far (p := ⟨bo, 1, none⟩) l3 _
                    case measure => simp [intOf]; omega
                  exact AllReadyH.nil
                exact AllReadyH.nil
              exact AllReadyH.nil
            exact AllReadyH.nil
          refine AllReadyH.cons (o := ⟨_, _, _, _, _, _⟩) rfl (fun K hK => ?_) ?_
          · (go_simp; go_at_call 32; refine (T3.out _).mono ?_; rintro e w' ⟨rfl, rfl⟩; dsimp only)
            refine hK.out _ _ ?_ (fun hHeld => ?_)
            · first | exact hHeld | exact ⟨q5'.1, q5'.2, p0⟩ | exact ⟨j1, j2, j3⟩ | exact ⟨i1, i2, i3⟩ | exact ⟨keepAlloc hHeld.1 _, keepAlloc hHeld.2.1 _, keepAlloc hHeld.2.2 _⟩
            clear hK K
            (try simp only [Act.put, List.setIfInBounds_toArray, List.set_cons_zero, List.set_cons_succ])
            (refine held_take (i := 22) (oi := ⟨_, _, _, _, _, _⟩) (d := some 42) (v := ?_) rfl rfl (by kernel_rfl) (by kernel_rfl) (by kernel_rfl) (fun _ _ _ h => h) (by rfl) ?_ (by assumption) ?_; rotate_left; (focus (intro w hSw; (try dsimp only at hSw); go_simp; try with_reducible rfl)); (try simp only [Act.put, List.setIfInBounds_toArray, List.set_cons_zero, List.set_cons_succ]))
            refine wpAnyH_ready (rs := [1, 23]) (by kernel_rfl) (by simp) ?_
            refine AllReadyH.cons (o := ⟨_, _, _, _, _, _⟩) rfl (fun K hK => ?_) ?_
            · go_simp
              refine hK.out _ _ ?_ (fun hHeld => ?_)
              · first | exact hHeld | exact ⟨q5'.1, q5'.2, p0⟩ | exact ⟨j1, j2, j3⟩ | exact ⟨i1, i2, i3⟩ | exact ⟨keepAlloc hHeld.1 _, keepAlloc hHeld.2.1 _, keepAlloc hHeld.2.2 _⟩
              clear hK K
              (try simp only [Act.put, List.setIfInBounds_toArray, List.set_cons_zero, List.set_cons_succ])
              refine wpAnyH_ready (rs := [23]) (by kernel_rfl) (by simp) ?_
              refine AllReadyH.cons (o := ⟨_, _, _, _, _, _⟩) rfl (fun K hK => ?_) ?_
              · go_simp
                refine hK.out _ _ ?_ (fun hHeld => ?_)
                · first | exact hHeld | exact ⟨q5'.1, q5'.2, p0⟩ | exact ⟨j1, j2, j3⟩ | exact ⟨i1, i2, i3⟩ | exact ⟨keepAlloc hHeld.1 _, keepAlloc hHeld.2.1 _, keepAlloc hHeld.2.2 _⟩
                clear hK K
                (try simp only [Act.put, List.setIfInBounds_toArray, List.set_cons_zero, List.set_cons_succ])
                refine wpAnyH_ready (rs := [24]) (by kernel_rfl) (by simp) ?_
                refine AllReadyH.cons (o := ⟨_, _, _, _, _, _⟩) rfl (fun K hK => ?_) ?_
                · (refine step_app kdCom (by rfl) _ _ (by rfl) bs v (madeL H l k) (by rfl) HOW5.out _ _ _ [(⟨1 + q1, q2, q3⟩ : Comer)] (by rfl) HA5.out hlen5 hs5 ?_; intro v' w' hov hgr hat; obtain ⟨A6, c6, e6, -, -, -, -⟩ := hov.arr kdCom; obtain ⟨m6, hm6⟩ : ∃ m6, (madeL H l k ++ [(⟨1 + q1, q2, q3⟩ : Comer)]).length = m6 := ⟨_, rfl⟩; rw [hm6] at e6; clear hm6; subst e6; have hbw := Lib.hid (HOW5.out.below hgr (Nat.le_refl bs) hs5); have ho6 := (show Blk w' bo 24 _ from (hbw.out.block bo l3).trans HO5.out); have e7 := ho6.cell 1; have f6 := ho6.frozen 1; have i1 := (hbw.out.cell (p := ⟨b, o + k * 2, none⟩) hbb).trans q5'.1; have i2 := (hbw.out.cell (p := ⟨b, o + k * 2 + 1, none⟩) hbb).trans q5'.2; have i3 := ho6.cell 0; have j1 := keepSet (b' := bo) (o' := 1) i1 hbne (.slice A6 m6 c6); have j2 := keepSet (b' := bo) (o' := 1) i2 hbne (.slice A6 m6 c6); have j3 := (ho6.set_ 1 (.slice A6 m6 c6)).cell 0; have HO6 := Lib.hid ho6; have HOV := Lib.hid hov; clear ho6 hgr hat hov)
                  refine hK.out _ _ ?_ (fun hHeld => ?_)
                  · first | exact hHeld | exact ⟨q5'.1, q5'.2, p0⟩ | exact ⟨j1, j2, j3⟩ | exact ⟨i1, i2, i3⟩ | exact ⟨keepAlloc hHeld.1 _, keepAlloc hHeld.2.1 _, keepAlloc hHeld.2.2 _⟩
                  clear hK K
                  (try simp only [Act.put, List.setIfInBounds_toArray, List.set_cons_zero, List.set_cons_succ])
                  (refine held_take (i := 25) (oi := ⟨_, _, _, _, _, _⟩) (d := some 45) (v := ?_) rfl rfl (by kernel_rfl) (by kernel_rfl) (by kernel_rfl) (fun _ _ _ h => h) (by rfl) ?_ (by assumption) ?_; rotate_left; (focus (intro w hSw; (try dsimp only at hSw); go_simp; try with_reducible rfl)); (try simp only [Act.put, List.setIfInBounds_toArray, List.set_cons_zero, List.set_cons_succ]))
                  refine wpAnyH_ready (rs := [26]) (by kernel_rfl) (by simp) ?_
                  refine AllReadyH.cons (o := ⟨_, _, _, _, _, _⟩) rfl (fun K hK => ?_) ?_
                  · go_simp
                    refine hK.out _ _ ?_ (fun hHeld => ?_)
                    · first | exact hHeld | exact ⟨q5'.1, q5'.2, p0⟩ | exact ⟨j1, j2, j3⟩ | exact ⟨i1, i2, i3⟩ | exact ⟨keepAlloc hHeld.1 _, keepAlloc hHeld.2.1 _, keepAlloc hHeld.2.2 _⟩
                    clear hK K
                    (try simp only [Act.put, List.setIfInBounds_toArray, List.set_cons_zero, List.set_cons_succ])
                    refine wpAnyH_done (by kernel_rfl) ?_ _
                    go_wp2_with fail
                    go_roundw
                    case rel =>
                      refine ⟨k + 1, .slice A6 m6 c6, by go_num, by omega, by omega, ?_, ?_, ?_, ?_, ?_⟩
                      · exact (HG5.out.trans (hbw.out.mono (by have := HBR.out; omega))).setCell (p := ⟨bo, 1, none⟩) (by dsimp only; omega) _
                      · have := hbw.out.size; simp [World.setCell]; omega
                      · exact (show Blk w' br 24 _ from (hbw.out.block br (by omega)).trans HR5.out).far (p := ⟨bo, 1, none⟩) (by dsimp only; omega) _
                      · exact HO6.out.set_ 1 _
                      · rw [HNX.out]; exact HOV.out.far (p := ⟨bo, 1, none⟩) l3 _
                    case measure => simp [intOf]; omega
                  exact AllReadyH.nil
                exact AllReadyH.nil
              exact AllReadyH.nil
            refine AllReadyH.cons (o := ⟨_, _, _, _, _, _⟩) rfl (fun K hK => ?_) ?_
            · go_simp
              refine hK.out _ _ ?_ (fun hHeld => ?_)
              · first | exact hHeld | exact ⟨q5'.1, q5'.2, p0⟩ | exact ⟨j1, j2, j3⟩ | exact ⟨i1, i2, i3⟩ | exact ⟨keepAlloc hHeld.1 _, keepAlloc hHeld.2.1 _, keepAlloc hHeld.2.2 _⟩
              clear hK K
              (try simp only [Act.put, List.setIfInBounds_toArray, List.set_cons_zero, List.set_cons_succ])
              refine wpAnyH_ready (rs := [1]) (by kernel_rfl) (by simp) ?_
              refine AllReadyH.cons (o := ⟨_, _, _, _, _, _⟩) rfl (fun K hK => ?_) ?_
              · go_simp
                refine hK.out _ _ ?_ (fun hHeld => ?_)
                · first | exact hHeld | exact ⟨q5'.1, q5'.2, p0⟩ | exact ⟨j1, j2, j3⟩ | exact ⟨i1, i2, i3⟩ | exact ⟨keepAlloc hHeld.1 _, keepAlloc hHeld.2.1 _, keepAlloc hHeld.2.2 _⟩
                clear hK K
                (try simp only [Act.put, List.setIfInBounds_toArray, List.set_cons_zero, List.set_cons_succ])
                refine wpAnyH_ready (rs := [24]) (by kernel_rfl) (by simp) ?_
                refine AllReadyH.cons (o := ⟨_, _, _, _, _, _⟩) rfl (fun K hK => ?_) ?_
                · (refine step_app kdCom (by rfl) _ _ (by rfl) bs v (madeL H l k) (by rfl) HOW5.out _ _ _ [(⟨1 + q1, q2, q3⟩ : Comer)] (by rfl) HA5.out hlen5 hs5 ?_; intro v' w' hov hgr hat; obtain ⟨A6, c6, e6, -, -, -, -⟩ := hov.arr kdCom; obtain ⟨m6, hm6⟩ : ∃ m6, (madeL H l k ++ [(⟨1 + q1, q2, q3⟩ : Comer)]).length = m6 := ⟨_, rfl⟩; rw [hm6] at e6; clear hm6; subst e6; have hbw := Lib.hid (HOW5.out.below hgr (Nat.le_refl bs) hs5); have ho6 := (show Blk w' bo 24 _ from (hbw.out.block bo l3).trans HO5.out); have e7 := ho6.cell 1; have f6 := ho6.frozen 1; have i1 := (hbw.out.cell (p := ⟨b, o + k * 2, none⟩) hbb).trans q5'.1; have i2 := (hbw.out.cell (p := ⟨b, o + k * 2 + 1, none⟩) hbb).trans q5'.2; have i3 := ho6.cell 0; have j1 := keepSet (b' := bo) (o' := 1) i1 hbne (.slice A6 m6 c6); have j2 := keepSet (b' := bo) (o' := 1) i2 hbne (.slice A6 m6 c6); have j3 := (ho6.set_ 1 (.slice A6 m6 c6)).cell 0; have HO6 := Lib.hid ho6; have HOV := Lib.hid hov; clear ho6 hgr hat hov)
                  refine hK.out _ _ ?_ (fun hHeld => ?_)
                  · first | exact hHeld | exact ⟨q5'.1, q5'.2, p0⟩ | exact ⟨j1, j2, j3⟩ | exact ⟨i1, i2, i3⟩ | exact ⟨keepAlloc hHeld.1 _, keepAlloc hHeld.2.1 _, keepAlloc hHeld.2.2 _⟩
                  clear hK K
                  (try simp only [Act.put, List.setIfInBounds_toArray, List.set_cons_zero, List.set_cons_succ])
                  (refine held_take (i := 25) (oi := ⟨_, _, _, _, _, _⟩) (d := some 45) (v := ?_) rfl rfl (by kernel_rfl) (by kernel_rfl) (by kernel_rfl) (fun _ _ _ h => h) (by rfl) ?_ (by assumption) ?_; rotate_left; (focus (intro w hSw; (try dsimp only at hSw); go_simp; try with_reducible rfl)); (try simp only [Act.put, List.setIfInBounds_toArray, List.set_cons_zero, List.set_cons_succ]))
                  refine wpAnyH_ready (rs := [26]) (by kernel_rfl) (by simp) ?_
                  refine AllReadyH.cons (o := ⟨_, _, _, _, _, _⟩) rfl (fun K hK => ?_) ?_
                  · go_simp
                    refine hK.out _ _ ?_ (fun hHeld => ?_)
                    · first | exact hHeld | exact ⟨q5'.1, q5'.2, p0⟩ | exact ⟨j1, j2, j3⟩ | exact ⟨i1, i2, i3⟩ | exact ⟨keepAlloc hHeld.1 _, keepAlloc hHeld.2.1 _, keepAlloc hHeld.2.2 _⟩
                    clear hK K
                    (try simp only [Act.put, List.setIfInBounds_toArray, List.set_cons_zero, List.set_cons_succ])
                    refine wpAnyH_done (by kernel_rfl) ?_ _
                    go_wp2_with fail
                    go_roundw
                    case rel =>
                      refine ⟨k + 1, .slice A6 m6 c6, by go_num, by omega, by omega, ?_, ?_, ?_, ?_, ?_⟩
                      · exact (HG5.out.trans (hbw.out.mono (by have := HBR.out; omega))).setCell (p := ⟨bo, 1, none⟩) (by dsimp only; omega) _
                      · have := hbw.out.size; simp [World.setCell]; omega
                      · exact (show Blk w' br 24 _ from (hbw.out.block br (by omega)).trans HR5.out).far (p := ⟨bo, 1, none⟩) (by dsimp only; omega) _
                      · exact HO6.out.set_ 1 _
                      · rw [HNX.out]; exact HOV.out.far (p := ⟨bo, 1, none⟩) l3 _
                    case measure => simp [intOf]; omega
                  exact AllReadyH.nil
                exact AllReadyH.nil
              exact AllReadyH.nil
            exact AllReadyH.nil
          exact AllReadyH.nil
        exact AllReadyH.nil
      exact AllReadyH.nil
    · obtain hkk : k = min m 6 := by omega
      have hx : madeL H l k = res := by rw [HMX.out, ← hkk]
      have HK := Lib.hid hlt
      rw [hx] at hown
      clear HW
      have HW := Lib.hid hown
      obtain ⟨A', c', rfl, k1, k2, k3, -⟩ := hown.arr kdCom
      obtain ⟨A2, c2, e2, -, -, h2, h3⟩ := (((HW.out.far (p := ⟨br, 0, none⟩) (by dsimp only; omega) (.int .i64 H)).far (p := ⟨br, 1, none⟩) (by dsimp only; omega) (.slice A' res.length c'))).arr kdCom
      obtain ⟨rfl, -, rfl⟩ := Value.slice.inj e2
      have H2 := Lib.hid h2
      have H3 := Lib.hid (show ∀ b o, A' = some ⟨b, o, none⟩ → w.heap.size ≤ b from fun b o e => by have := (h3 b o e).2.1; have := HBR.out; omega)
      have GG := Lib.hid ((hg.setCell (p := ⟨br, 0, none⟩) (Nat.le_refl _) (.int .i64 H)).setCell (p := ⟨br, 1, none⟩) (Nat.le_refl _) (.slice A' res.length c'))
      have B9 := (hr.set_ 0 (.int .i64 H)).set_ 1 (.slice A' res.length c')
      have b0 := B9.cell 0
      have b1 := B9.cell 1
      have o0 := ho.cell 0
      have o1 := ho.cell 1
      have r0 := hr.cell 0
      have r1 := hr.cell 1
      have rf0 := hr.frozen 0
      have rf1 := hr.frozen 1
      obtain ⟨W9, hW9⟩ : ∃ W9, (wr.setCell ⟨br, 0, none⟩ (.int .i64 H)).setCell ⟨br, 1, none⟩ (.slice A' res.length c') = W9 := ⟨_, rfl⟩
      rw [hW9] at H2 GG b0 b1
      rw [← HBR.out] at GG
      clear hg hr ho hown B9 h2 h3 k3 e2 hkk hx hlt
      by_cases hkm : k < m
      · have hk6' : decide ((k : Int) < 6) = false := by have := HK.out; simp; omega
        go_wp2_with fail
        clear hW9
        refine bodyPost_ret (v := mv A' res.length c' H) ?_ rfl ⟨GG.out, A', c', rfl, k1, k2, H2.out, H3.out⟩
        unfold mv
        simp [results, Try.results33, go_sem, b0, b1]
      · go_wp2_with fail
        clear hW9
        refine bodyPost_ret (v := mv A' res.length c' H) ?_ rfl ⟨GG.out, A', c', rfl, k1, k2, H2.out, H3.out⟩
        unfold mv
        simp [results, Try.results33, go_sem, b0, b1]
end Go.Proofs.Ytdhhneflhmkonaa
