/- With: the reference's. -/
import Derived.Test.YtdhhneflhmkonaaC5
namespace Go.Proofs.Ytdhhneflhmkonaa
open Go.RowKit Go.Shelf

set_option maxRecDepth 100000 in
set_option maxHeartbeats 4000000 in
theorem refWith_any (A : Option Addr) (n cc : Nat) (h : Int) (xs : List Comer) (x : Comer) (w : World) (ha : Arr ccells 3 w A n xs) (hnc : n ≤ cc) (hn : n ≤ 9223372036854775807) :
    Calls Try.prog 46 #[mv A n cc h, cv x] w (MillPost (withH xs h x) (withL xs h x) (withE xs h x) w) := by
  have HA := Lib.hid ha
  have hlen := Lib.hid ha.1
  obtain ⟨ok, hok⟩ : ∃ ok, okMill h xs = ok := ⟨_, rfl⟩
  obtain ⟨er, her⟩ : ∃ er, withE xs h x = er := ⟨_, rfl⟩
  have HE := Lib.hid (show er = if ok = true then (if okComer h xs x = true then (if xs.length = 12 then 2 else 0) else 51) else 52 by rw [← her, ← hok]; rfl)
  have HH := Lib.hid (show withH xs h x = if er = 0 then h else 0 by rw [← her]; rfl)
  have HL := Lib.hid (show withL xs h x = if er = 0 then xs ++ [x] else [] by rw [← her]; rfl)
  rw [her]
  generalize withH xs h x = rh at HH ⊢
  generalize withL xs h x = rl at HL ⊢
  have HOK := Lib.hid hok
  clear ha hok her
  unfold mv
  go_enter Try.func46, Try.ntmps46
  go_wp2_with fail
  generalize hW1 : w.alloc (.cells #[.int .i64 h, .slice A n cc] 24) = W1
  have b1 : Blk W1 w.heap.size 24 #[.int .i64 h, .slice A n cc] := by rw [← hW1]; exact Blk.new _ _ _
  have g1 : Below w.heap.size w W1 := by rw [← hW1]; exact one_more _ _
  have s1 := boxSize hW1
  generalize hWc : W1.alloc (.cells #[.int .i64 x.family, .int .i64 x.hours, .int .i64 x.wants] 53) = Wc
  have bc : Blk Wc W1.heap.size 53 #[.int .i64 x.family, .int .i64 x.hours, .int .i64 x.wants] := by rw [← hWc]; exact Blk.new _ _ _
  have gc : Below W1.heap.size W1 Wc := by rw [← hWc]; exact one_more _ _
  have sc := boxSize hWc
  generalize hW2 : Wc.alloc (.cells #[.int .i64 0, .slice none 0 0] 24) = W2
  have b2 : Blk W2 Wc.heap.size 24 #[.int .i64 0, .slice none 0 0] := by rw [← hW2]; exact Blk.new _ _ _
  have g2 : Below Wc.heap.size Wc W2 := by rw [← hW2]; exact one_more _ _
  have HM2 := Lib.hid (⟨(b1.ext gc).ext g2, bc.ext g2, b2⟩ : MC W2 w.heap.size W1.heap.size Wc.heap.size h A n cc x)
  have HG2 := Lib.hid (extTrans g1 (extTrans gc g2))
  have hwr : w.heap.size ≤ Wc.heap.size := by omega
  have hwc : w.heap.size < W1.heap.size ∧ W1.heap.size < Wc.heap.size := by omega
  rw [← s1, ← sc]
  obtain ⟨br, hbr⟩ : ∃ br, Wc.heap.size = br := ⟨_, rfl⟩
  obtain ⟨bcc, hbc⟩ : ∃ bcc, W1.heap.size = bcc := ⟨_, rfl⟩
  rw [hbr, hbc] at HM2 hwc ⊢
  rw [hbr] at hwr
  clear hW1 hW2 hWc b1 b2 bc g1 g2 gc s1 sc hbr hbc
  obtain ⟨hwc1, hwc2⟩ := hwc
  refine (refCheck_any h A n cc xs W2 (HA.out.below HG2.out) hnc hn).mono ?_
  rw [HOK.out]
  rintro e W3 ⟨rfl, g3⟩
  have HM3 := Lib.hid (HM2.out.ext g3)
  have HG3 := Lib.hid (HG2.out.trans (g3.mono HG2.out.size))
  clear g3
  have m0 := HM3.out.m.cell 0
  have m1 := HM3.out.m.cell 1
  have c0 := HM3.out.c.cell 0
  have c1 := HM3.out.c.cell 1
  have c2 := HM3.out.c.cell 2
  cases ok with
  | false =>
    rw [show err false 52 = 52 from rfl]
    have HM4 := HM3
    have HG4 := HG3
    have r0 := HM4.out.r.cell 0
    have r1 := HM4.out.r.cell 1
    have rf0 := HM4.out.r.frozen 0
    have rf1 := HM4.out.r.frozen 1
    have p1 := HM4.out.m.cell 1
    obtain ⟨W9, hW9, hb9, hg9, -⟩ := put2 HM4.out.r HG4.out hwr 0 none 0 0
    have b0 := hb9.cell 0
    have b1 := hb9.cell 1
    have GG := Lib.hid hg9
    clear hb9 hg9
    go_wp2_with fail
    all_goals first
      | (exfalso; omega)
      | skip
    have e : er = 52 := by exact HE.out
    subst e
    have e1 : rh = 0 := HH.out
    have e2 : rl = [] := HL.out
    subst e1 e2
    refine bodyPost_ret (v := .tuple #[mv none 0 0 0, .int .i64 52]) ?_ rfl ⟨GG.out, none, 0, rfl, Nat.le_refl _, Nat.zero_le _, Arr.nil_⟩
    unfold mv
    simp [results, Try.results46, go_sem, b0, b1]
  | true =>
    rw [show err true 52 = 0 from rfl]
    have hO := (okMill_iff h xs).1 HOK.out
    have hn12 : n ≤ 12 := by have := hO.n12; have := hlen.out; omega
    have h0 := hO.h0
    have h24 := hO.h24
    obtain ⟨hp, -, -⟩ := pow24 h0 h24
    clear hO
    have HE2 := Lib.hid (show er = if okComer h xs x = true then (if xs.length = 12 then 2 else 0) else 51 from HE.out)
    have F : ∀ y : Wd W3, y.val.cell? ⟨w.heap.size, 0, none⟩ = some (.int .i64 h) ∧ y.val.cell? ⟨w.heap.size, 1, none⟩ = some (.slice A n cc) ∧ y.val.cell? ⟨bcc, 0, none⟩ = some (.int .i64 x.family) ∧ y.val.cell? ⟨bcc, 1, none⟩ = some (.int .i64 x.hours) ∧ y.val.cell? ⟨bcc, 2, none⟩ = some (.int .i64 x.wants) :=
      fun y => ⟨cellW m0 y, cellW m1 y, cellW c0 y, cellW c1 y, cellW c2 y⟩
    have G : ∀ y : Wd W3, w.heap.size < y.val.heap.size ∧ bcc < y.val.heap.size := fun y => by have := y.size; have := HM3.out.m.lt; have := HM3.out.c.lt; omega
    clear m0 m1 c0 c1 c2
    have f0 := F ⟨W3, Below.refl _ _⟩
    dsimp only at f0
    cases hA : isComer x with
    | false =>
      have ce : Value.int .i64 (err (isComer x) 51) = .int .i64 51 := by rw [hA]; rfl
      have HNO := Lib.hid (show okComer h xs x = false by simp [okComer, hA])
      go_wp2_with fail
      refine wp_region_calm W3 (by kernel_rfl) (by kernel_rfl) (Below.refl _ _) ?_
      repeat (go_big_quiet_step (first | (go_at_call 52; exact callsCalm (callsRet (refComer_any x _) ce))))
      refine wpQuiet_nil ?_
      rintro _ ⟨z, rfl⟩
      have HM4 := Lib.hid (HM3.out.ext z.ok)
      have HG4 := Lib.hid (HG3.out.trans (z.ok.mono HG3.out.size))
      have r0 := HM4.out.r.cell 0
      have r1 := HM4.out.r.cell 1
      have rf0 := HM4.out.r.frozen 0
      have rf1 := HM4.out.r.frozen 1
      have p1 := HM4.out.m.cell 1
      obtain ⟨W9, hW9, hb9, hg9, -⟩ := put2 HM4.out.r HG4.out hwr 0 none 0 0
      have b0 := hb9.cell 0
      have b1 := hb9.cell 1
      have GG := Lib.hid hg9
      clear hb9 hg9
      go_wp2_with fail
      all_goals first
        | (exfalso; omega)
        | skip
      have e : er = 51 := by rw [HE2.out, HNO.out]; rfl
      subst e
      have e1 : rh = 0 := HH.out
      have e2 : rl = [] := HL.out
      subst e1 e2
      refine bodyPost_ret (v := .tuple #[mv none 0 0 0, .int .i64 51]) ?_ rfl ⟨GG.out, none, 0, rfl, Nat.le_refl _, Nat.zero_le _, Arr.nil_⟩
      unfold mv
      simp [results, Try.results46, go_sem, b0, b1]
    | true =>
      have ce : Value.int .i64 (err (isComer x) 51) = .int .i64 0 := by rw [hA]; rfl
      by_cases hB : x.hours < 2 ^ h.toNat
      · have hB' : decide (2 ^ h.toNat ≤ x.hours) = false := by simpa using hB
        obtain ⟨ix, hix⟩ : ∃ ix, idx xs x.family = ix := ⟨_, rfl⟩
        have HIX := Lib.hid hix
        have HOC := Lib.hid (show okComer h xs x = decide (ix < 0) by simp [okComer, hA, hB, hix])
        clear hix
        by_cases hneg : 0 ≤ ix
        · have hd : decide (0 ≤ ix) = true := by simpa using hneg
          go_wp2_with fail
          refine wp_region_calm W3 (by kernel_rfl) (by kernel_rfl) (Below.refl _ _) ?_
          repeat (go_big_quiet_step (first | (go_at_call 52; exact callsCalm (callsRet (refComer_any x _) ce)) | (go_at_call 71; exact callsCalm (callsRet (refAt_any _ _ _ _ _ _ _ (HA.out.below (HG3.out.trans ((Wd.ok _).mono HG3.out.size))) hn) (by rw [HIX.out])))))
          refine wpQuiet_nil ?_
          rintro _ ⟨z, rfl⟩
          have HM4 := Lib.hid (HM3.out.ext z.ok)
          have HG4 := Lib.hid (HG3.out.trans (z.ok.mono HG3.out.size))
          have r0 := HM4.out.r.cell 0
          have r1 := HM4.out.r.cell 1
          have rf0 := HM4.out.r.frozen 0
          have rf1 := HM4.out.r.frozen 1
          have p1 := HM4.out.m.cell 1
          obtain ⟨W9, hW9, hb9, hg9, -⟩ := put2 HM4.out.r HG4.out hwr 0 none 0 0
          have b0 := hb9.cell 0
          have b1 := hb9.cell 1
          have GG := Lib.hid hg9
          clear hb9 hg9
          go_wp2_with fail
          all_goals first
            | (exfalso; omega)
            | skip
          have e : er = 51 := by rw [HE2.out, HOC.out, if_neg (by simp; omega)]
          subst e
          have e1 : rh = 0 := HH.out
          have e2 : rl = [] := HL.out
          subst e1 e2
          refine bodyPost_ret (v := .tuple #[mv none 0 0 0, .int .i64 51]) ?_ rfl ⟨GG.out, none, 0, rfl, Nat.le_refl _, Nat.zero_le _, Arr.nil_⟩
          unfold mv
          simp [results, Try.results46, go_sem, b0, b1]
        · have hd : decide (0 ≤ ix) = false := by simpa using hneg
          have HOC2 := Lib.hid (show okComer h xs x = true by rw [HOC.out]; simp; omega)
          go_wp2_with fail
          refine wp_region_calm W3 (by kernel_rfl) (by kernel_rfl) (Below.refl _ _) ?_
          repeat (go_big_quiet_step (first | (go_at_call 52; exact callsCalm (callsRet (refComer_any x _) ce)) | (go_at_call 71; exact callsCalm (callsRet (refAt_any _ _ _ _ _ _ _ (HA.out.below (HG3.out.trans ((Wd.ok _).mono HG3.out.size))) hn) (by rw [HIX.out])))))
          refine wpQuiet_nil ?_
          rintro _ ⟨z, rfl⟩
          have HM4 := Lib.hid (HM3.out.ext z.ok)
          have HG4 := Lib.hid (HG3.out.trans (z.ok.mono HG3.out.size))
          by_cases hn0 : n = 12
          · subst hn0
            have r0 := HM4.out.r.cell 0
            have r1 := HM4.out.r.cell 1
            have rf0 := HM4.out.r.frozen 0
            have rf1 := HM4.out.r.frozen 1
            have p1 := HM4.out.m.cell 1
            obtain ⟨W9, hW9, hb9, hg9, -⟩ := put2 HM4.out.r HG4.out hwr 0 none 0 0
            have b0 := hb9.cell 0
            have b1 := hb9.cell 1
            have GG := Lib.hid hg9
            clear hb9 hg9
            go_wp2_with fail
            all_goals first
              | (exfalso; omega)
              | skip
            have e : er = 2 := by rw [HE2.out, HOC2.out, hlen.out]; rfl
            subst e
            have e1 : rh = 0 := HH.out
            have e2 : rl = [] := HL.out
            subst e1 e2
            refine bodyPost_ret (v := .tuple #[mv none 0 0 0, .int .i64 2]) ?_ rfl ⟨GG.out, none, 0, rfl, Nat.le_refl _, Nat.zero_le _, Arr.nil_⟩
            unfold mv
            simp [results, Try.results46, go_sem, b0, b1]
          · have hne : ((n : Int) == 12) = false := by simp; omega
            have e : er = 0 := by rw [HE2.out, HOC2.out, hlen.out, if_pos rfl, if_neg hn0]
            subst e
            have e1 : rh = h := HH.out
            have e2 : rl = xs ++ [x] := HL.out
            subst e1 e2
            have p0 := HM4.out.m.cell 0
            have p1 := HM4.out.m.cell 1
            obtain ⟨V, hV⟩ : ∃ V, z.val = V := ⟨_, rfl⟩
            rw [hV] at HM4 HG4 p0 p1
            have HAV := Lib.hid (HA.out.below HG4.out)
            have hmlt := HM4.out.m.lt
            have hclt := HM4.out.c.lt
            have hrlt := HM4.out.r.lt
            obtain ⟨base, hbase⟩ : ∃ base, V.heap.size = base := ⟨_, rfl⟩
            have g1 : Below V.heap.size V (V.alloc (.cells #[] 53)).drew := (one_more _ _).drew
            have g2 : Below V.heap.size V ((V.alloc (.cells #[] 53)).alloc (.cells #[.int .i64 x.family, .int .i64 x.hours, .int .i64 x.wants] 53)).drew := (two_more _ _ _).drew
            have g3 : Below V.heap.size V ((V.alloc (.cells #[.int .i64 x.family, .int .i64 x.hours, .int .i64 x.wants] 53)).alloc (.cells #[] 53)).drew := (two_more _ _ _).drew
            have oe1 : OwnL ccells 3 53 (V.alloc (.cells #[] 53)).drew V.heap.size (.slice (some ⟨V.heap.size, 0, none⟩) 0 0) [] := World.ownsRow_made (e := 53) (size := 3) V #[] 0 (Nat.le_refl _) (by decide) rfl
            have oe2 : OwnL ccells 3 53 ((V.alloc (.cells #[] 53)).alloc (.cells #[.int .i64 x.family, .int .i64 x.hours, .int .i64 x.wants] 53)).drew V.heap.size (.slice (some ⟨V.heap.size, 0, none⟩) 0 0) [] := OwnL.ext (w := V.alloc (.cells #[] 53)) oe1 ((one_more (V.alloc (.cells #[] 53)) _).drew)
            have oe3 : OwnL ccells 3 53 ((V.alloc (.cells #[.int .i64 x.family, .int .i64 x.hours, .int .i64 x.wants] 53)).alloc (.cells #[] 53)).drew V.heap.size (.slice (some ⟨V.heap.size + 1, 0, none⟩) 0 0) [] := by
              have := World.ownsRow_made (e := 53) (size := 3) (base := V.heap.size) (V.alloc (.cells #[.int .i64 x.family, .int .i64 x.hours, .int .i64 x.wants] 53)) #[] 0 (by simp) (by decide) rfl
              rw [World.size_alloc] at this
              exact this
            have bx2 : Blk ((V.alloc (.cells #[] 53)).alloc (.cells #[.int .i64 x.family, .int .i64 x.hours, .int .i64 x.wants] 53)).drew (V.heap.size + 1) 53 #[.int .i64 x.family, .int .i64 x.hours, .int .i64 x.wants] := by
              have := Blk.new (V.alloc (.cells #[] 53)) 53 #[.int .i64 x.family, .int .i64 x.hours, .int .i64 x.wants]
              rw [World.size_alloc] at this
              exact this
            have bx3 : Blk ((V.alloc (.cells #[.int .i64 x.family, .int .i64 x.hours, .int .i64 x.wants] 53)).alloc (.cells #[] 53)).drew V.heap.size 53 #[.int .i64 x.family, .int .i64 x.hours, .int .i64 x.wants] := (Blk.new V 53 #[.int .i64 x.family, .int .i64 x.hours, .int .i64 x.wants]).alloc _
            rw [hbase] at oe1 oe2 oe3 bx2 bx3
            have GE1 := Lib.hid g1
            have GE2 := Lib.hid g2
            have GE3 := Lib.hid g3
            have OE1 := Lib.hid oe1
            have OE2 := Lib.hid oe2
            have OE3 := Lib.hid oe3
            have BX2 := Lib.hid bx2
            have BX3 := Lib.hid bx3
            have hx1 : w.heap.size < base := by omega
            have hx2 : ¬ w.heap.size = base := by omega
            have hx3 : ¬ bcc = base := by omega
            have hx4 : ¬ w.heap.size = base + 1 := by omega
            have hx5 : ¬ bcc = base + 1 := by omega
            have hx6 : w.heap.size ≠ br := by omega
            have hx7 : bcc ≠ br := by omega
            have hl1001 : ([] : List Comer).length + n ≤ 1000000 := by simp; omega
            have hl1001' : xs.length + 1 ≤ 1000000 := by have := hlen.out; omega
            have HLX := Lib.hid (show (xs ++ [x]).length = n + 1 by simp [hlen.out])
            clear g1 g2 g3 oe1 oe2 oe3 bx2 bx3 F G f0
            have c0 := HM4.out.c.cell 0
            have c1 := HM4.out.c.cell 1
            have c2 := HM4.out.c.cell 2
            go_wp2_with fail
            go_region_held3 (fun w' => w'.cell? ⟨w.heap.size, 0, none⟩ = some (.int .i64 rh) ∧ w'.cell? ⟨w.heap.size, 1, none⟩ = some (.slice A n cc) ∧ w'.cell? ⟨bcc, 0, none⟩ = some (.int .i64 x.family) ∧ w'.cell? ⟨bcc, 1, none⟩ = some (.int .i64 x.hours) ∧ w'.cell? ⟨bcc, 2, none⟩ = some (.int .i64 x.wants))
              (first
                | go_keep
                | exact ⟨j5, j4, j0, j1, j2⟩
                | exact ⟨k5, k4, k0, k1, k2⟩
                | exact ⟨keepAlloc k5 _, keepAlloc k4 _, keepAlloc k0 _, keepAlloc k1 _, keepAlloc k2 _⟩
                | exact ⟨i5, i4, i0, i1, i2⟩)
              (first
              | (refine step_app kdCom (by rfl) _ _ (by rfl) base _ [] (by rfl) OE1.out A n cc xs (by rfl) (HAV.out.below GE1.out) hl1001 (by have := GE1.out.size; omega) ?_; intro v1 w1 ho1 hg1 hat1; have hbw := OE1.out.below hg1 (Nat.le_refl base) (by have := GE1.out.size; omega); have HGA := Lib.hid (show Below V.heap.size V w1 from GE1.out.trans (hbw.mono (by omega))); have HMA := Lib.hid (HM4.out.ext HGA.out); have HO1 := Lib.hid (show OwnL ccells 3 53 w1 base v1 xs by simpa using ho1); have HSA := Lib.hid HGA.out.size; have k0 := HMA.out.c.cell 0; have k1 := HMA.out.c.cell 1; have k2 := HMA.out.c.cell 2; have k5 := HMA.out.m.cell 0; have k4 := HMA.out.m.cell 1; clear hbw ho1 hg1 hat1)
              | (refine step_app kdCom (by rfl) _ _ (by rfl) base _ [] (by rfl) OE2.out A n cc xs (by rfl) (HAV.out.below GE2.out) hl1001 (by have := GE2.out.size; omega) ?_; intro v1 w1 ho1 hg1 hat1; have hbw := OE2.out.below hg1 (Nat.le_refl base) (by have := GE2.out.size; omega); have HGA := Lib.hid (show Below V.heap.size V w1 from GE2.out.trans (hbw.mono (by omega))); have HMA := Lib.hid (HM4.out.ext HGA.out); have HO1 := Lib.hid (show OwnL ccells 3 53 w1 base v1 xs by simpa using ho1); have HSA := Lib.hid HGA.out.size; have k0 := HMA.out.c.cell 0; have k1 := HMA.out.c.cell 1; have k2 := HMA.out.c.cell 2; have k5 := HMA.out.m.cell 0; have k4 := HMA.out.m.cell 1; have HBX := Lib.hid (show Blk w1 (base + 1) 53 _ from (hg1.block (base + 1) BX2.out.lt (by simp [Value.ownBlock])).trans BX2.out); clear hbw ho1 hg1 hat1)
              | (refine step_app kdCom (by rfl) _ _ (by rfl) base _ [] (by rfl) OE3.out A n cc xs (by rfl) (HAV.out.below GE3.out) hl1001 (by have := GE3.out.size; omega) ?_; intro v1 w1 ho1 hg1 hat1; have hbw := OE3.out.below hg1 (Nat.le_refl base) (by have := GE3.out.size; omega); have HGA := Lib.hid (show Below V.heap.size V w1 from GE3.out.trans (hbw.mono (by omega))); have HMA := Lib.hid (HM4.out.ext HGA.out); have HO1 := Lib.hid (show OwnL ccells 3 53 w1 base v1 xs by simpa using ho1); have HSA := Lib.hid HGA.out.size; have k0 := HMA.out.c.cell 0; have k1 := HMA.out.c.cell 1; have k2 := HMA.out.c.cell 2; have k5 := HMA.out.m.cell 0; have k4 := HMA.out.m.cell 1; have HBX := Lib.hid (show Blk w1 base 53 _ from (hg1.block base BX3.out.lt (by simp [Value.ownBlock])).trans BX3.out); clear hbw ho1 hg1 hat1)
              | (refine step_app kdCom (by rfl) _ _ (by rfl) base v1 xs (by rfl) (HO1.out.ext (one_more w1 (.cells #[.int .i64 x.family, .int .i64 x.hours, .int .i64 x.wants] 53))) _ _ _ [x] (by rfl) (Blk.arr1 (f := ccells) (size := 3) (x := x) (Blk.new w1 53 _)) hl1001' (by have := HSA.out; rw [World.size_alloc]; omega) ?_; intro v' w' hov hgr hat; obtain ⟨A', c', e1, q1, q2, hr1, hr2⟩ := hov.arr kdCom; rw [HLX.out] at e1 q1 hr1; subst e1; have hbw := (HO1.out.ext (one_more w1 (.cells #[.int .i64 x.family, .int .i64 x.hours, .int .i64 x.wants] 53))).below hgr (Nat.le_refl base) (by have := HSA.out; rw [World.size_alloc]; omega); have hmw := (HMA.out.ext (one_more w1 (.cells #[.int .i64 x.family, .int .i64 x.hours, .int .i64 x.wants] 53))).below hbw (by omega) (by omega) (by omega); have j5 := hmw.m.cell 0; have j4 := hmw.m.cell 1; have j0 := hmw.c.cell 0; have j1 := hmw.c.cell 1; have j2 := hmw.c.cell 2; have k6 := hmw.r.cell 0; have k7 := hmw.r.cell 1; have k8 := hmw.r.frozen 0; have k9 := hmw.r.frozen 1; obtain ⟨W9, hW9, hb9, hg9, hf9⟩ := put2 hmw.r (HG4.out.trans (((HGA.out.trans ((one_more w1 (.cells #[.int .i64 x.family, .int .i64 x.hours, .int .i64 x.wants] 53)).mono HSA.out)).trans (hbw.mono (by omega))).mono HG4.out.size)) hwr rh A' (n + 1) c'; have i5 := hf9.cell j5 hx6 hx6; have i4 := hf9.cell j4 hx6 hx6; have i0 := hf9.cell j0 hx7 hx7; have i1 := hf9.cell j1 hx7 hx7; have i2 := hf9.cell j2 hx7 hx7; have b0 := hb9.cell 0; have b1 := hb9.cell 1; have GG := Lib.hid hg9; have K4 := Lib.hid (hr1.fix hf9 (fun b o e hn => by have := hr2 b o e; omega)); clear hbw hmw hov hgr hat hr1 hr2 hb9 hg9 hf9)
              | (refine step_app kdCom (by rfl) _ _ (by rfl) base v1 xs (by rfl) HO1.out _ _ _ [x] (by rfl) (Blk.arr1 (f := ccells) (size := 3) (x := x) HBX.out) hl1001' (by have := HSA.out; omega) ?_; intro v' w' hov hgr hat; obtain ⟨A', c', e1, q1, q2, hr1, hr2⟩ := hov.arr kdCom; rw [HLX.out] at e1 q1 hr1; subst e1; have hbw := (HO1.out).below hgr (Nat.le_refl base) (by have := HSA.out; omega); have hmw := HMA.out.below hbw (by omega) (by omega) (by omega); have j5 := hmw.m.cell 0; have j4 := hmw.m.cell 1; have j0 := hmw.c.cell 0; have j1 := hmw.c.cell 1; have j2 := hmw.c.cell 2; have k6 := hmw.r.cell 0; have k7 := hmw.r.cell 1; have k8 := hmw.r.frozen 0; have k9 := hmw.r.frozen 1; obtain ⟨W9, hW9, hb9, hg9, hf9⟩ := put2 hmw.r (HG4.out.trans (((HGA.out).trans (hbw.mono (by omega))).mono HG4.out.size)) hwr rh A' (n + 1) c'; have i5 := hf9.cell j5 hx6 hx6; have i4 := hf9.cell j4 hx6 hx6; have i0 := hf9.cell j0 hx7 hx7; have i1 := hf9.cell j1 hx7 hx7; have i2 := hf9.cell j2 hx7 hx7; have b0 := hb9.cell 0; have b1 := hb9.cell 1; have GG := Lib.hid hg9; have K4 := Lib.hid (hr1.fix hf9 (fun b o e hn => by have := hr2 b o e; omega)); clear hbw hmw hov hgr hat hr1 hr2 hb9 hg9 hf9))
            all_goals (try go_wp2_with fail)
            all_goals
              refine bodyPost_ret (v := .tuple #[mv A' (n + 1) c' rh, .int .i64 0]) ?_ rfl ⟨GG.out, A', c', by rw [HLX.out], by rw [HLX.out]; exact q1, q2, by rw [HLX.out]; exact K4.out⟩
              unfold mv
              simp [results, Try.results46, go_sem, b0, b1]
      · have hB' : decide (2 ^ h.toNat ≤ x.hours) = true := by simpa using hB
        have HNO := Lib.hid (show okComer h xs x = false by simp [okComer, hB])
        go_wp2_with fail
        refine wp_region_calm W3 (by kernel_rfl) (by kernel_rfl) (Below.refl _ _) ?_
        repeat (go_big_quiet_step (first | (go_at_call 52; exact callsCalm (callsRet (refComer_any x _) ce))))
        refine wpQuiet_nil ?_
        rintro _ ⟨z, rfl⟩
        have HM4 := Lib.hid (HM3.out.ext z.ok)
        have HG4 := Lib.hid (HG3.out.trans (z.ok.mono HG3.out.size))
        have r0 := HM4.out.r.cell 0
        have r1 := HM4.out.r.cell 1
        have rf0 := HM4.out.r.frozen 0
        have rf1 := HM4.out.r.frozen 1
        have p1 := HM4.out.m.cell 1
        obtain ⟨W9, hW9, hb9, hg9, -⟩ := put2 HM4.out.r HG4.out hwr 0 none 0 0
        have b0 := hb9.cell 0
        have b1 := hb9.cell 1
        have GG := Lib.hid hg9
        clear hb9 hg9
        go_wp2_with fail
        all_goals first
          | (exfalso; omega)
          | skip
        have e : er = 51 := by rw [HE2.out, HNO.out]; rfl
        subst e
        have e1 : rh = 0 := HH.out
        have e2 : rl = [] := HL.out
        subst e1 e2
        refine bodyPost_ret (v := .tuple #[mv none 0 0 0, .int .i64 51]) ?_ rfl ⟨GG.out, none, 0, rfl, Nat.le_refl _, Nat.zero_le _, Arr.nil_⟩
        unfold mv
        simp [results, Try.results46, go_sem, b0, b1]
end Go.Proofs.Ytdhhneflhmkonaa
