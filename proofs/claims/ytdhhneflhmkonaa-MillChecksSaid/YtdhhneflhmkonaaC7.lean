/- The law MillChecks. -/
import Derived.Test.YtdhhneflhmkonaaC6
import Derived.Test.YtdhhneflhmkonaaS2
namespace Go.Proofs.Ytdhhneflhmkonaa
open Go.RowKit Go.Shelf

theorem sameM_self (h : Int) (l : List Comer) : sameM h h l l = true := by simp [sameM]

/-- What stands while the law is reckoned: the mill, the comer and the yield. -/
structure LC (W : World) (bm bc by0 : Nat) (h : Int) (A : Option Addr) (n cc : Nat) (x : Comer) (y : Yield) (xs : List Comer) : Prop where
  m : Blk W bm 24 #[.int .i64 h, .slice A n cc]
  c : Blk W bc 53 #[.int .i64 x.family, .int .i64 x.hours, .int .i64 x.wants]
  y : Blk W by0 38 #[.int .i64 y.lo, .int .i64 y.hi, .int .i64 y.toll]
  a : Arr ccells 3 W A n xs
theorem LC.ext {W W' : World} {bm bc by0 : Nat} {h : Int} {A : Option Addr} {n cc : Nat} {x : Comer} {y : Yield} {xs : List Comer} (k : LC W bm bc by0 h A n cc x y xs) (g : Below W.heap.size W W') : LC W' bm bc by0 h A n cc x y xs := ⟨k.m.ext g, k.c.ext g, k.y.ext g, k.a.below g⟩
/-- A mill that was kept. -/
structure KM (W : World) (b : Nat) (h : Int) (A : Option Addr) (n c : Nat) (xs : List Comer) : Prop where
  b : Blk W b 24 #[.int .i64 h, .slice A n c]
  a : Arr ccells 3 W A n xs
theorem KM.ext {W W' : World} {b : Nat} {h : Int} {A : Option Addr} {n c : Nat} {xs : List Comer} (k : KM W b h A n c xs) (g : Below W.heap.size W W') : KM W' b h A n c xs := ⟨k.b.ext g, k.a.below g⟩

set_option maxRecDepth 100000 in
set_option maxHeartbeats 8000000 in
theorem law11_any (A : Option Addr) (n cc : Nat) (h : Int) (xs : List Comer) (x : Comer) (y : Yield) (w : World) (ha : Arr ccells 3 w A n xs) (hnc : n ≤ cc) (hn : n ≤ 9223372036854775807) :
    Calls Try.prog 11 #[mv A n cc h, cv x, yv y] w fun e w' => e = .returned (.bool true) ∧ Below w.heap.size w w' := by
  have HA := Lib.hid ha
  clear ha
  unfold mv
  go_enter Try.func11, Try.ntmps11
  go_wp2_with fail
  generalize hW1 : w.alloc (.cells #[.int .i64 h, .slice A n cc] 24) = W1
  have b1 : Blk W1 w.heap.size 24 #[.int .i64 h, .slice A n cc] := by rw [← hW1]; exact Blk.new _ _ _
  have g1 : Below w.heap.size w W1 := by rw [← hW1]; exact one_more _ _
  have s1 := boxSize hW1
  generalize hWc : W1.alloc (.cells #[.int .i64 x.family, .int .i64 x.hours, .int .i64 x.wants] 53) = Wc
  have bc : Blk Wc W1.heap.size 53 #[.int .i64 x.family, .int .i64 x.hours, .int .i64 x.wants] := by rw [← hWc]; exact Blk.new _ _ _
  have gc : Below W1.heap.size W1 Wc := by rw [← hWc]; exact one_more _ _
  have sc := boxSize hWc
  generalize hW2 : Wc.alloc (.cells #[.int .i64 y.lo, .int .i64 y.hi, .int .i64 y.toll] 38) = W2
  have b2 : Blk W2 Wc.heap.size 38 #[.int .i64 y.lo, .int .i64 y.hi, .int .i64 y.toll] := by rw [← hW2]; exact Blk.new _ _ _
  have g2 : Below Wc.heap.size Wc W2 := by rw [← hW2]; exact one_more _ _
  have HG0 := Lib.hid (extTrans g1 (extTrans gc g2))
  have HM0 := Lib.hid (⟨(b1.ext gc).ext g2, bc.ext g2, b2, HA.out.below HG0.out⟩ : LC W2 w.heap.size W1.heap.size Wc.heap.size h A n cc x y xs)
  rw [← s1, ← sc]
  obtain ⟨by0, hby⟩ : ∃ by0, Wc.heap.size = by0 := ⟨_, rfl⟩
  obtain ⟨bcc, hbc⟩ : ∃ bcc, W1.heap.size = bcc := ⟨_, rfl⟩
  obtain ⟨bm, hbm⟩ : ∃ bm, w.heap.size = bm := ⟨_, rfl⟩
  have HBM := Lib.hid hbm
  rw [hby, hbc, hbm] at HM0
  rw [hby, hbc, hbm]
  clear hW1 hW2 hWc b1 b2 bc g1 g2 gc s1 sc hby hbc hbm
  have m0 := HM0.out.m.cell 0
  have m1 := HM0.out.m.cell 1
  -- With
  refine (With_any A n cc h xs x W2 HM0.out.a hnc hn).mono ?_
  rintro e U1 ⟨gu, A1, c1, rfl, -, -, ha1⟩
  obtain ⟨X1, hX1⟩ : ∃ X, U1.alloc (.cells #[.int .i64 (withH xs h x), .slice A1 (withL xs h x).length c1] 24) = X := ⟨_, rfl⟩
  have gx : Below U1.heap.size U1 X1 := by rw [← hX1]; exact one_more _ _
  have gz := extTrans gu gx
  have hk : Blk X1 U1.heap.size 24 #[.int .i64 (withH xs h x), .slice A1 (withL xs h x).length c1] := by rw [← hX1]; exact Blk.new _ _ _
  have K1 := Lib.hid (⟨hk, ha1.below gx⟩ : KM X1 U1.heap.size (withH xs h x) A1 (withL xs h x).length c1 (withL xs h x))
  have HM1 := Lib.hid (HM0.out.ext gz)
  have HG1 := Lib.hid (HG0.out.trans (gz.mono HG0.out.size))
  obtain ⟨B1, hB1⟩ : ∃ B, U1.heap.size = B := ⟨_, rfl⟩
  rw [hB1] at K1
  clear gu gx gz hk ha1 m0 m1
  have m0 := HM1.out.m.cell 0
  have m1 := HM1.out.m.cell 1
  have q0 := HM1.out.c.cell 0
  have q1 := HM1.out.c.cell 1
  have q2 := HM1.out.c.cell 2
  unfold mv
  go_wp2_with fail
  clear hX1 hB1 q0 q1 q2
  -- refWith_any
  refine (refWith_any A n cc h xs x X1 HM1.out.a hnc hn).mono ?_
  rintro e U2 ⟨gu, A2, c2, rfl, -, -, ha2⟩
  obtain ⟨X2, hX2⟩ : ∃ X, U2.alloc (.cells #[.int .i64 (withH xs h x), .slice A2 (withL xs h x).length c2] 24) = X := ⟨_, rfl⟩
  have gx : Below U2.heap.size U2 X2 := by rw [← hX2]; exact one_more _ _
  have gz := extTrans gu gx
  have hk : Blk X2 U2.heap.size 24 #[.int .i64 (withH xs h x), .slice A2 (withL xs h x).length c2] := by rw [← hX2]; exact Blk.new _ _ _
  have K2 := Lib.hid (⟨hk, ha2.below gx⟩ : KM X2 U2.heap.size (withH xs h x) A2 (withL xs h x).length c2 (withL xs h x))
  have K1 := Lib.hid (K1.out.ext gz)
  have HM2 := Lib.hid (HM1.out.ext gz)
  have HG2 := Lib.hid (HG1.out.trans (gz.mono HG1.out.size))
  obtain ⟨B2, hB2⟩ : ∃ B, U2.heap.size = B := ⟨_, rfl⟩
  rw [hB2] at K2
  clear gu gx gz hk ha2 m0 m1
  have m0 := HM2.out.m.cell 0
  have m1 := HM2.out.m.cell 1
  have q0 := HM2.out.c.cell 0
  have q1 := HM2.out.c.cell 1
  have q2 := HM2.out.c.cell 2
  unfold mv
  go_wp2_with fail
  clear hX2 hB2 q0 q1 q2
  -- Without_any
  refine (Without_any A n cc h x.family xs X2 HM2.out.a hnc hn).mono ?_
  rintro e U3 ⟨gu, A3, c3, rfl, -, -, ha3⟩
  obtain ⟨X3, hX3⟩ : ∃ X, U3.alloc (.cells #[.int .i64 (withoutH xs h x.family), .slice A3 (withoutL xs h x.family).length c3] 24) = X := ⟨_, rfl⟩
  have gx : Below U3.heap.size U3 X3 := by rw [← hX3]; exact one_more _ _
  have gz := extTrans gu gx
  have hk : Blk X3 U3.heap.size 24 #[.int .i64 (withoutH xs h x.family), .slice A3 (withoutL xs h x.family).length c3] := by rw [← hX3]; exact Blk.new _ _ _
  have K3 := Lib.hid (⟨hk, ha3.below gx⟩ : KM X3 U3.heap.size (withoutH xs h x.family) A3 (withoutL xs h x.family).length c3 (withoutL xs h x.family))
  have K1 := Lib.hid (K1.out.ext gz)
  have K2 := Lib.hid (K2.out.ext gz)
  have HM3 := Lib.hid (HM2.out.ext gz)
  have HG3 := Lib.hid (HG2.out.trans (gz.mono HG2.out.size))
  obtain ⟨B3, hB3⟩ : ∃ B, U3.heap.size = B := ⟨_, rfl⟩
  rw [hB3] at K3
  clear gu gx gz hk ha3 m0 m1
  have m0 := HM3.out.m.cell 0
  have m1 := HM3.out.m.cell 1
  have q0 := HM3.out.c.cell 0
  have q1 := HM3.out.c.cell 1
  have q2 := HM3.out.c.cell 2
  unfold mv
  go_wp2_with fail
  clear hX3 hB3 q0 q1 q2
  -- refWithout_any
  refine (refWithout_any A n cc h x.family xs X3 HM3.out.a hnc hn).mono ?_
  rintro e U4 ⟨gu, A4, c4, rfl, -, -, ha4⟩
  obtain ⟨X4, hX4⟩ : ∃ X, U4.alloc (.cells #[.int .i64 (withoutH xs h x.family), .slice A4 (withoutL xs h x.family).length c4] 24) = X := ⟨_, rfl⟩
  have gx : Below U4.heap.size U4 X4 := by rw [← hX4]; exact one_more _ _
  have gz := extTrans gu gx
  have hk : Blk X4 U4.heap.size 24 #[.int .i64 (withoutH xs h x.family), .slice A4 (withoutL xs h x.family).length c4] := by rw [← hX4]; exact Blk.new _ _ _
  have K4 := Lib.hid (⟨hk, ha4.below gx⟩ : KM X4 U4.heap.size (withoutH xs h x.family) A4 (withoutL xs h x.family).length c4 (withoutL xs h x.family))
  have K1 := Lib.hid (K1.out.ext gz)
  have K2 := Lib.hid (K2.out.ext gz)
  have K3 := Lib.hid (K3.out.ext gz)
  have HM4 := Lib.hid (HM3.out.ext gz)
  have HG4 := Lib.hid (HG3.out.trans (gz.mono HG3.out.size))
  obtain ⟨B4, hB4⟩ : ∃ B, U4.heap.size = B := ⟨_, rfl⟩
  rw [hB4] at K4
  clear gu gx gz hk ha4 m0 m1
  have m0 := HM4.out.m.cell 0
  have m1 := HM4.out.m.cell 1
  have q0 := HM4.out.c.cell 0
  have q1 := HM4.out.c.cell 1
  have q2 := HM4.out.c.cell 2
  unfold mv
  have F : ∀ z : Wd X4, (z.val.cell? ⟨bm, 0, none⟩ = some (.int .i64 h) ∧ z.val.cell? ⟨bm, 1, none⟩ = some (.slice A n cc)) ∧ (z.val.cell? ⟨bcc, 0, none⟩ = some (.int .i64 x.family) ∧ z.val.cell? ⟨bcc, 1, none⟩ = some (.int .i64 x.hours) ∧ z.val.cell? ⟨bcc, 2, none⟩ = some (.int .i64 x.wants)) ∧
      (z.val.cell? ⟨by0, 0, none⟩ = some (.int .i64 y.lo) ∧ z.val.cell? ⟨by0, 1, none⟩ = some (.int .i64 y.hi) ∧ z.val.cell? ⟨by0, 2, none⟩ = some (.int .i64 y.toll)) :=
    fun z => let k := HM4.out.ext z.ok; ⟨⟨k.m.cell 0, k.m.cell 1⟩, ⟨k.c.cell 0, k.c.cell 1, k.c.cell 2⟩, ⟨k.y.cell 0, k.y.cell 1, k.y.cell 2⟩⟩
  have F1 : ∀ z : Wd X4, z.val.cell? ⟨B1, 0, none⟩ = some (.int .i64 (withH xs h x)) ∧ z.val.cell? ⟨B1, 1, none⟩ = some (.slice A1 (withL xs h x).length c1) := fun z => let k := K1.out.ext z.ok; ⟨k.b.cell 0, k.b.cell 1⟩
  have F2 : ∀ z : Wd X4, z.val.cell? ⟨B2, 0, none⟩ = some (.int .i64 (withH xs h x)) ∧ z.val.cell? ⟨B2, 1, none⟩ = some (.slice A2 (withL xs h x).length c2) := fun z => let k := K2.out.ext z.ok; ⟨k.b.cell 0, k.b.cell 1⟩
  have F3 : ∀ z : Wd X4, z.val.cell? ⟨B3, 0, none⟩ = some (.int .i64 (withoutH xs h x.family)) ∧ z.val.cell? ⟨B3, 1, none⟩ = some (.slice A3 (withoutL xs h x.family).length c3) := fun z => let k := K3.out.ext z.ok; ⟨k.b.cell 0, k.b.cell 1⟩
  have F4 : ∀ z : Wd X4, z.val.cell? ⟨B4, 0, none⟩ = some (.int .i64 (withoutH xs h x.family)) ∧ z.val.cell? ⟨B4, 1, none⟩ = some (.slice A4 (withoutL xs h x.family).length c4) := fun z => let k := K4.out.ext z.ok; ⟨k.b.cell 0, k.b.cell 1⟩
  have hl1 : (withL xs h x).length ≤ 9223372036854775807 := by
    cases hq : okMill h xs with
    | false => simp [withL, withE, hq]
    | true =>
      have := ((okMill_iff h xs).1 hq).n12
      unfold withL; split
      · simp; omega
      · simp
  have hl2 : (withoutL xs h x.family).length ≤ 9223372036854775807 := by
    cases hq : okMill h xs with
    | false => simp [withoutL, withoutE, hq]
    | true =>
      have := ((okMill_iff h xs).1 hq).n12
      have := lessL_len xs x.family
      unfold withoutL; split
      · omega
      · simp
  have T1 := Lib.hid (fun z : Wd X4 => callsCalm (callsRet (sameMill_any A1 A2 _ c1 _ c2 (withH xs h x) (withH xs h x) _ _ z.val (K1.out.ext z.ok).a (K2.out.ext z.ok).a hl1 hl1) (congrArg Value.bool (sameM_self _ _))))
  have T2 := Lib.hid (fun z : Wd X4 => callsCalm (callsRet (sameMill_any A3 A4 _ c3 _ c4 (withoutH xs h x.family) (withoutH xs h x.family) _ _ z.val (K3.out.ext z.ok).a (K4.out.ext z.ok).a hl2 hl2) (congrArg Value.bool (sameM_self _ _))))
  have T3 := Lib.hid (fun z : Wd X4 => callsCalm (check_any h A n cc xs z.val (HM4.out.ext z.ok).a hnc hn))
  have T4 := Lib.hid (fun z : Wd X4 => callsCalm (refCheck_any h A n cc xs z.val (HM4.out.ext z.ok).a hnc hn))
  unfold mv at T1 T2
  generalize withL xs h x = L1 at *
  generalize withoutL xs h x.family = L2 at *
  generalize withH xs h x = H1 at *
  generalize withoutH xs h x.family = H2 at *
  generalize withE xs h x = E1 at *
  generalize withoutE xs h x.family = E2 at *
  generalize err (okMill h xs) 52 = E3 at *
  go_wp2_with fail
  refine wp_region_calm X4 (by kernel_rfl) (by kernel_rfl) (Below.refl _ _) ?_
  repeat (go_big_quiet_step (first
    | (go_at_call 48; with_reducible exact T1.out _)
    | (go_at_call 48; with_reducible exact T2.out _)
    | (go_at_call 49; exact callsCalm (checkYield_any y _))
    | (go_at_call 50; exact callsCalm (refYield_any y _))
    | (go_at_call 51; exact callsCalm (checkComer_any x _))
    | (go_at_call 52; exact callsCalm (refComer_any x _))
    | (go_at_call 53; exact T3.out _)
    | (go_at_call 54; exact T4.out _)
    | (go_at_call 21; exact callsCalm (sane_any _))))
  refine wpQuiet_nil ?_
  rintro _ ⟨z, rfl⟩
  go_wp2_with fail
  go_ret
  exact ⟨rfl, HG4.out.trans (z.ok.mono HG4.out.size)⟩
end Go.Proofs.Ytdhhneflhmkonaa
