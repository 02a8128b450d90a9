/- With: the mill's and the reference's. -/
import Derived.Test.YtdhhneflhmkonaaKF
import Derived.Deep.RegionHeld3
namespace Go.Proofs.Ytdhhneflhmkonaa
open Go.RowKit Go.Shelf

def withE (xs : List Comer) (h : Int) (c : Comer) : Int := if okMill h xs = true then (if okComer h xs c = true then (if xs.length = 12 then 2 else 0) else 51) else 52
def withH (xs : List Comer) (h : Int) (c : Comer) : Int := if withE xs h c = 0 then h else 0
def withL (xs : List Comer) (h : Int) (c : Comer) : List Comer := if withE xs h c = 0 then xs ++ [c] else []

/-- What stands while such a function walks: its mill, its comer, and its result. -/
structure MC (W : World) (bm bc br : Nat) (h : Int) (A : Option Addr) (n cc : Nat) (x : Comer) : Prop where
  m : Blk W bm 24 #[.int .i64 h, .slice A n cc]
  c : Blk W bc 53 #[.int .i64 x.family, .int .i64 x.hours, .int .i64 x.wants]
  r : Blk W br 24 #[.int .i64 0, .slice none 0 0]
theorem MC.ext {W W' : World} {bm bc br : Nat} {h : Int} {A : Option Addr} {n cc : Nat} {x : Comer} (k : MC W bm bc br h A n cc x) (g : Below W.heap.size W W') : MC W' bm bc br h A n cc x := ⟨k.m.ext g, k.c.ext g, k.r.ext g⟩

theorem MC.below {W W' : World} {bm bc br B : Nat} {h : Int} {A : Option Addr} {n cc : Nat} {x : Comer} (k : MC W bm bc br h A n cc x) (g : Below B W W') (h1 : bm < B) (h2 : bc < B) (h3 : br < B) : MC W' bm bc br h A n cc x :=
  ⟨(g.block bm h1).trans k.m, (g.block bc h2).trans k.c, (g.block br h3).trans k.r⟩
/-- One comer more. -/
theorem app1 {W : World} {base g c : Nat} {va : Value} {xs : List Comer} {x : Comer} (hown : OwnL ccells 3 53 W base va xs) (harr : Arr ccells 3 W (some ⟨g, 0, none⟩) 1 [x]) (hb : base ≤ W.heap.size) (hn : xs.length ≤ 1000) (m : Nat) (hm : xs.length + 1 = m) :
    ∃ A' c' W', (Builtin.append_ #[22, 22] 22 #[va, .slice (some ⟨g, 0, none⟩) 1 c]).run Try.prog W = .ok (.slice A' m c') W' ∧ OwnL ccells 3 53 W' base (.slice A' m c') (xs ++ [x]) ∧ Below base W W' ∧ m ≤ c' ∧ c' ≤ maxLen := by
  obtain ⟨v', w', hrun, h2, h3, -⟩ := run_app kdCom W 22 base va xs hown _ 1 c [x] harr (by omega) hb
  obtain ⟨A', c', e, h4, h5, -, -⟩ := h2.arr kdCom
  have hl : (xs ++ [x]).length = m := by simp [hm]
  rw [hl] at e h4
  subst e
  exact ⟨A', c', w', hrun, h2, hown.below h3 (Nat.le_refl _) hb, h4, h5⟩

set_option maxRecDepth 100000 in
set_option maxHeartbeats 4000000 in
theorem With_any (A : Option Addr) (n cc : Nat) (h : Int) (xs : List Comer) (x : Comer) (w : World) (ha : Arr ccells 3 w A n xs) (hnc : n ≤ cc) (hn : n ≤ 9223372036854775807) :
    Calls Try.prog 37 #[mv A n cc h, cv x] w (MillPost (withH xs h x) (withL xs h x) (withE xs h x) w) := by
  have HA := Lib.hid ha
  have hlen := Lib.hid ha.1
  obtain ⟨ok, hok⟩ : ∃ ok, okMill h xs = ok := ⟨_, rfl⟩
  obtain ⟨er, her⟩ : ∃ er, withE xs h x = er := ⟨_, rfl⟩
  have HE := Lib.hid (show er = if ok = true then (if okComer h xs x = true then (if xs.length = 12 then 2 else 0) else 51) else 52 by rw [← her, ← hok]; rfl)
  have HH := Lib.hid (show withH xs h x = if er = 0 then h else 0 by rw [← her]; rfl)
  have HL := Lib.hid (show withL xs h x = if er = 0 then xs ++ [x] else [] by rw [← her]; rfl)
  rw [her]
  generalize withH xs h x = rh at HH ⊢
  generalize withL xs h x = rl at HL ⊢
  have HOK := Lib.hid hok
  clear ha hok her
  unfold mv
  go_enter Try.func37, Try.ntmps37
  go_wp2_with fail
  generalize hW1 : w.alloc (.cells #[.int .i64 h, .slice A n cc] 24) = W1
  have b1 : Blk W1 w.heap.size 24 #[.int .i64 h, .slice A n cc] := by rw [← hW1]; exact Blk.new _ _ _
  have g1 : Below w.heap.size w W1 := by rw [← hW1]; exact one_more _ _
  have s1 := boxSize hW1
  generalize hWc : W1.alloc (.cells #[.int .i64 x.family, .int .i64 x.hours, .int .i64 x.wants] 53) = Wc
  have bc : Blk Wc W1.heap.size 53 #[.int .i64 x.family, .int .i64 x.hours, .int .i64 x.wants] := by rw [← hWc]; exact Blk.new _ _ _
  have gc : Below W1.heap.size W1 Wc := by rw [← hWc]; exact one_more _ _
  have sc := boxSize hWc
  generalize hW2 : Wc.alloc (.cells #[.int .i64 0, .slice none 0 0] 24) = W2
  have b2 : Blk W2 Wc.heap.size 24 #[.int .i64 0, .slice none 0 0] := by rw [← hW2]; exact Blk.new _ _ _
  have g2 : Below Wc.heap.size Wc W2 := by rw [← hW2]; exact one_more _ _
  have HM2 := Lib.hid (⟨(b1.ext gc).ext g2, bc.ext g2, b2⟩ : MC W2 w.heap.size W1.heap.size Wc.heap.size h A n cc x)
  have HG2 := Lib.hid (extTrans g1 (extTrans gc g2))
  have hwr : w.heap.size ≤ Wc.heap.size := by omega
  have hwc : w.heap.size < W1.heap.size ∧ W1.heap.size < Wc.heap.size := by omega
  rw [← s1, ← sc]
  obtain ⟨br, hbr⟩ : ∃ br, Wc.heap.size = br := ⟨_, rfl⟩
  obtain ⟨bcc, hbc⟩ : ∃ bcc, W1.heap.size = bcc := ⟨_, rfl⟩
  rw [hbr, hbc] at HM2 hwc ⊢
  rw [hbr] at hwr
  clear hW1 hW2 hWc b1 b2 bc g1 g2 gc s1 sc hbr hbc
  obtain ⟨hwc1, hwc2⟩ := hwc
  refine (check_any h A n cc xs W2 (HA.out.below HG2.out) hnc hn).mono ?_
  rw [HOK.out]
  rintro e W3 ⟨rfl, g3⟩
  have HM3 := Lib.hid (HM2.out.ext g3)
  have HG3 := Lib.hid (HG2.out.trans (g3.mono HG2.out.size))
  clear g3
  have m0 := HM3.out.m.cell 0
  have m1 := HM3.out.m.cell 1
  have c0 := HM3.out.c.cell 0
  have c1 := HM3.out.c.cell 1
  have c2 := HM3.out.c.cell 2
  cases ok with
  | false =>
    rw [show err false 52 = 52 from rfl]
    have HM4 := HM3
    have HG4 := HG3
    have r0 := HM4.out.r.cell 0
    have r1 := HM4.out.r.cell 1
    have rf0 := HM4.out.r.frozen 0
    have rf1 := HM4.out.r.frozen 1
    have p1 := HM4.out.m.cell 1
    obtain ⟨W9, hW9, hb9, hg9, -⟩ := put2 HM4.out.r HG4.out hwr 0 none 0 0
    have b0 := hb9.cell 0
    have b1 := hb9.cell 1
    have GG := Lib.hid hg9
    clear hb9 hg9
    go_wp2_with fail
    all_goals first
      | (exfalso; omega)
      | skip
    have e : er = 52 := by exact HE.out
    subst e
    have e1 : rh = 0 := HH.out
    have e2 : rl = [] := HL.out
    subst e1 e2
    refine bodyPost_ret (v := .tuple #[mv none 0 0 0, .int .i64 52]) ?_ rfl ⟨GG.out, none, 0, rfl, Nat.le_refl _, Nat.zero_le _, Arr.nil_⟩
    unfold mv
    simp [results, Try.results37, go_sem, b0, b1]
  | true =>
    rw [show err true 52 = 0 from rfl]
    have hO := (okMill_iff h xs).1 HOK.out
    have hn12 : n ≤ 12 := by have := hO.n12; have := hlen.out; omega
    have h0 := hO.h0
    have h24 := hO.h24
    obtain ⟨hp, -, -⟩ := pow24 h0 h24
    clear hO
    have HE2 := Lib.hid (show er = if okComer h xs x = true then (if xs.length = 12 then 2 else 0) else 51 from HE.out)
    have F : ∀ y : Wd W3, y.val.cell? ⟨w.heap.size, 0, none⟩ = some (.int .i64 h) ∧ y.val.cell? ⟨w.heap.size, 1, none⟩ = some (.slice A n cc) ∧ y.val.cell? ⟨bcc, 0, none⟩ = some (.int .i64 x.family) ∧ y.val.cell? ⟨bcc, 1, none⟩ = some (.int .i64 x.hours) ∧ y.val.cell? ⟨bcc, 2, none⟩ = some (.int .i64 x.wants) :=
      fun y => ⟨cellW m0 y, cellW m1 y, cellW c0 y, cellW c1 y, cellW c2 y⟩
    have G : ∀ y : Wd W3, w.heap.size < y.val.heap.size ∧ bcc < y.val.heap.size := fun y => by have := y.size; have := HM3.out.m.lt; have := HM3.out.c.lt; omega
    clear m0 m1 c0 c1 c2
    have f0 := F ⟨W3, Below.refl _ _⟩
    dsimp only at f0
    cases hA : isComer x with
    | false =>
      have ce : Value.int .i64 (err (isComer x) 51) = .int .i64 51 := by rw [hA]; rfl
      have HNO := Lib.hid (show okComer h xs x = false by simp [okComer, hA])
      go_wp2_with fail
      refine wp_region_calm W3 (by kernel_rfl) (by kernel_rfl) (Below.refl _ _) ?_
      repeat (go_big_quiet_step (first | (go_at_call 51; exact callsCalm (callsRet (checkComer_any x _) ce))))
      refine wpQuiet_nil ?_
      rintro _ ⟨z, rfl⟩
      have HM4 := Lib.hid (HM3.out.ext z.ok)
      have HG4 := Lib.hid (HG3.out.trans (z.ok.mono HG3.out.size))
      have r0 := HM4.out.r.cell 0
      have r1 := HM4.out.r.cell 1
      have rf0 := HM4.out.r.frozen 0
      have rf1 := HM4.out.r.frozen 1
      have p1 := HM4.out.m.cell 1
      obtain ⟨W9, hW9, hb9, hg9, -⟩ := put2 HM4.out.r HG4.out hwr 0 none 0 0
      have b0 := hb9.cell 0
      have b1 := hb9.cell 1
      have GG := Lib.hid hg9
      clear hb9 hg9
      go_wp2_with fail
      all_goals first
        | (exfalso; omega)
        | skip
      have e : er = 51 := by rw [HE2.out, HNO.out]; rfl
      subst e
      have e1 : rh = 0 := HH.out
      have e2 : rl = [] := HL.out
      subst e1 e2
      refine bodyPost_ret (v := .tuple #[mv none 0 0 0, .int .i64 51]) ?_ rfl ⟨GG.out, none, 0, rfl, Nat.le_refl _, Nat.zero_le _, Arr.nil_⟩
      unfold mv
      simp [results, Try.results37, go_sem, b0, b1]
    | true =>
      have ce : Value.int .i64 (err (isComer x) 51) = .int .i64 0 := by rw [hA]; rfl
      by_cases hB : x.hours < 2 ^ h.toNat
      · have hB' : decide (2 ^ h.toNat ≤ x.hours) = false := by simpa using hB
        obtain ⟨ix, hix⟩ : ∃ ix, idx xs x.family = ix := ⟨_, rfl⟩
        have HIX := Lib.hid hix
        have HOC := Lib.hid (show okComer h xs x = decide (ix < 0) by simp [okComer, hA, hB, hix])
        clear hix
        by_cases hneg : 0 ≤ ix
        · have hd : decide (0 ≤ ix) = true := by simpa using hneg
          go_wp2_with fail
          refine wp_region_calm W3 (by kernel_rfl) (by kernel_rfl) (Below.refl _ _) ?_
          repeat (go_big_quiet_step (first | (go_at_call 51; exact callsCalm (callsRet (checkComer_any x _) ce)) | (go_at_call 63; exact callsCalm (callsRet (index_any _ _ _ _ _ _ (HA.out.below (HG3.out.trans ((Wd.ok _).mono HG3.out.size))) hn) (by rw [HIX.out])))))
          refine wpQuiet_nil ?_
          rintro _ ⟨z, rfl⟩
          have HM4 := Lib.hid (HM3.out.ext z.ok)
          have HG4 := Lib.hid (HG3.out.trans (z.ok.mono HG3.out.size))
          have r0 := HM4.out.r.cell 0
          have r1 := HM4.out.r.cell 1
          have rf0 := HM4.out.r.frozen 0
          have rf1 := HM4.out.r.frozen 1
          have p1 := HM4.out.m.cell 1
          obtain ⟨W9, hW9, hb9, hg9, -⟩ := put2 HM4.out.r HG4.out hwr 0 none 0 0
          have b0 := hb9.cell 0
          have b1 := hb9.cell 1
          have GG := Lib.hid hg9
          clear hb9 hg9
          go_wp2_with fail
          all_goals first
            | (exfalso; omega)
            | skip
          have e : er = 51 := by rw [HE2.out, HOC.out, if_neg (by simp; omega)]
          subst e
          have e1 : rh = 0 := HH.out
          have e2 : rl = [] := HL.out
          subst e1 e2
          refine bodyPost_ret (v := .tuple #[mv none 0 0 0, .int .i64 51]) ?_ rfl ⟨GG.out, none, 0, rfl, Nat.le_refl _, Nat.zero_le _, Arr.nil_⟩
          unfold mv
          simp [results, Try.results37, go_sem, b0, b1]
        · have hd : decide (0 ≤ ix) = false := by simpa using hneg
          have HOC2 := Lib.hid (show okComer h xs x = true by rw [HOC.out]; simp; omega)
          go_wp2_with fail
          refine wp_region_calm W3 (by kernel_rfl) (by kernel_rfl) (Below.refl _ _) ?_
          repeat (go_big_quiet_step (first | (go_at_call 51; exact callsCalm (callsRet (checkComer_any x _) ce)) | (go_at_call 63; exact callsCalm (callsRet (index_any _ _ _ _ _ _ (HA.out.below (HG3.out.trans ((Wd.ok _).mono HG3.out.size))) hn) (by rw [HIX.out])))))
          refine wpQuiet_nil ?_
          rintro _ ⟨z, rfl⟩
          have HM4 := Lib.hid (HM3.out.ext z.ok)
          have HG4 := Lib.hid (HG3.out.trans (z.ok.mono HG3.out.size))
          by_cases hn0 : n = 12
          · subst hn0
            have r0 := HM4.out.r.cell 0
            have r1 := HM4.out.r.cell 1
            have rf0 := HM4.out.r.frozen 0
            have rf1 := HM4.out.r.frozen 1
            have p1 := HM4.out.m.cell 1
            obtain ⟨W9, hW9, hb9, hg9, -⟩ := put2 HM4.out.r HG4.out hwr 0 none 0 0
            have b0 := hb9.cell 0
            have b1 := hb9.cell 1
            have GG := Lib.hid hg9
            clear hb9 hg9
            go_wp2_with fail
            all_goals first
              | (exfalso; omega)
              | skip
            have e : er = 2 := by rw [HE2.out, HOC2.out, hlen.out]; rfl
            subst e
            have e1 : rh = 0 := HH.out
            have e2 : rl = [] := HL.out
            subst e1 e2
            refine bodyPost_ret (v := .tuple #[mv none 0 0 0, .int .i64 2]) ?_ rfl ⟨GG.out, none, 0, rfl, Nat.le_refl _, Nat.zero_le _, Arr.nil_⟩
            unfold mv
            simp [results, Try.results37, go_sem, b0, b1]
          · have hne : ((n : Int) == 12) = false := by simp; omega
            have e : er = 0 := by rw [HE2.out, HOC2.out, hlen.out, if_pos rfl, if_neg hn0]
            subst e
            have e1 : rh = h := HH.out
            have e2 : rl = xs ++ [x] := HL.out
            subst e1 e2
            have p0 := HM4.out.m.cell 0
            have p1 := HM4.out.m.cell 1
            obtain ⟨V, hV⟩ : ∃ V, z.val = V := ⟨_, rfl⟩
            rw [hV] at HM4 HG4 p0 p1
            have HAV := Lib.hid (HA.out.below HG4.out)
            have HMD := Lib.hid (HM4.out.ext (show Below V.heap.size V V.drew from (Below.refl _ _).drew))
            have gd : Below V.heap.size V V.drew := (Below.refl _ _).drew
            have hmlt := HM4.out.m.lt
            have hclt := HM4.out.c.lt
            have hrlt := HM4.out.r.lt
            obtain ⟨base, hbase⟩ : ∃ base, V.heap.size = base := ⟨_, rfl⟩
            have hb1 : Blk (V.alloc (.cells #[.int .i64 x.family, .int .i64 x.hours, .int .i64 x.wants] 53)).drew V.heap.size 53 #[.int .i64 x.family, .int .i64 x.hours, .int .i64 x.wants] := Blk.new V _ _
            have gb : Below V.heap.size V (V.alloc (.cells #[.int .i64 x.family, .int .i64 x.hours, .int .i64 x.wants] 53)).drew := (one_more _ _).drew
            have C1 := Lib.hid (cloneComers_any A n cc xs V.drew (HAV.out.below gd) (by omega))
            have C2 := Lib.hid (cloneComers_any A n cc xs (V.alloc (.cells #[.int .i64 x.family, .int .i64 x.hours, .int .i64 x.wants] 53)).drew (HAV.out.below gb) (by omega))
            rw [hbase] at hb1
            have hx1 : w.heap.size < base := by omega
            have hx2 : ¬ w.heap.size = base := by omega
            have p3 := (HM4.out.ext gb).m.cell 1
            have HB1 := Lib.hid hb1
            have HGB := Lib.hid gb
            have HGD := Lib.hid gd
            have hl1000 : xs.length ≤ 1000 := by have := hlen.out; omega
            have HLL := Lib.hid (show xs.length + 1 = n + 1 by rw [hlen.out])
            clear hb1 gb gd F G f0
            have c0 := HM4.out.c.cell 0
            have c1 := HM4.out.c.cell 1
            have c2 := HM4.out.c.cell 2
            have c3 := HMD.out.c.cell 0
            have c4 := HMD.out.c.cell 1
            have c5 := HMD.out.c.cell 2
            have p2 := HMD.out.m.cell 1
            go_wp2_with fail
            go_cut [] from 40 to 46 (fun wx => ∃ A' c', Blk wx w.heap.size 24 #[.int .i64 rh, .slice A' (n + 1) c'] ∧ Blk wx br 24 #[.int .i64 0, .slice none 0 0] ∧ OwnL ccells 3 53 wx base (.slice A' (n + 1) c') (xs ++ [x]) ∧ Below w.heap.size w wx ∧ n + 1 ≤ c' ∧ c' ≤ maxLen)
            case first =>
              have hl1001 : xs.length + 1 ≤ 1000000 := by omega
              have HLX := Lib.hid (show (xs ++ [x]).length = n + 1 by simp [HLL.out])
              go_region_law (first
                | (refine step_app kdCom (by rfl) _ _ (by rfl) base va xs (by rfl) (HOA.out.ext (one_more Va (.cells #[.int .i64 x.family, .int .i64 x.hours, .int .i64 x.wants] 53))) _ _ _ [x] (by rfl) (Blk.arr1 (f := ccells) (size := 3) (x := x) (Blk.new Va 53 _)) hl1001 (by have := HSA.out; rw [World.size_alloc]; omega) ?_; intro v' w' hov hgr hat; obtain ⟨A', c', e1, q1, q2, -, -⟩ := hov.arr kdCom; rw [HLX.out] at e1 q1; subst e1; have hbw := (HOA.out.ext (one_more Va (.cells #[.int .i64 x.family, .int .i64 x.hours, .int .i64 x.wants] 53))).below hgr (Nat.le_refl base) (by have := HSA.out; rw [World.size_alloc]; omega); have hmw := (HMA.out.ext (one_more Va (.cells #[.int .i64 x.family, .int .i64 x.hours, .int .i64 x.wants] 53))).below hbw (by omega) (by omega) (by omega); have k3 := hmw.m.cell 1; have k4 := hmw.m.frozen 1; have k5 := hmw.c.cell 0; have k6 := hmw.c.cell 1; have k7 := hmw.c.cell 2; have HMW := Lib.hid hmw; have HOW := Lib.hid hov; have HBW := Lib.hid (HG4.out.trans (((HGA.out.trans ((one_more Va (.cells #[.int .i64 x.family, .int .i64 x.hours, .int .i64 x.wants] 53)).mono HSA.out)).trans (hbw.mono (by omega))).mono HG4.out.size)); clear hbw hmw hov hgr hat)
                | (refine step_app kdCom (by rfl) _ _ (by rfl) base va xs (by rfl) HOB.out _ _ _ [x] (by rfl) (Blk.arr1 (f := ccells) (size := 3) (x := x) HBX.out) hl1001 (by have := HSA.out; omega) ?_; intro v' w' hov hgr hat; obtain ⟨A', c', e1, q1, q2, -, -⟩ := hov.arr kdCom; rw [HLX.out] at e1 q1; subst e1; have hbw := HOB.out.below hgr (Nat.le_refl base) (by have := HSA.out; omega); have hmw := HMA.out.below hbw (by omega) (by omega) (by omega); have k3 := hmw.m.cell 1; have k4 := hmw.m.frozen 1; have k5 := hmw.c.cell 0; have k6 := hmw.c.cell 1; have k7 := hmw.c.cell 2; have HMW := Lib.hid hmw; have HOW := Lib.hid hov; have HBW := Lib.hid (HG4.out.trans ((HGA.out.trans (hbw.mono (by omega))).mono HG4.out.size)); clear hbw hmw hov hgr hat)
                | (go_simp; go_at_call 69; (with_reducible refine (C1.out).mono ?_); rintro e Va ⟨⟨va, rfl, hoa⟩, hga⟩; have HMA := Lib.hid (HMD.out.ext hga); have HGA := Lib.hid (show Below V.heap.size V Va from HGD.out.trans (hga.mono (Nat.le_refl _))); have HOA := Lib.hid ((hoa.l).mono (show base ≤ V.drew.heap.size by rw [← hbase]; exact Nat.le_refl _)); have k0 := HMA.out.c.cell 0; have k1 := HMA.out.c.cell 1; have k2 := HMA.out.c.cell 2; have HSA := Lib.hid HGA.out.size; clear hga hoa)
                | (go_simp; go_at_call 69; (with_reducible refine (C2.out).mono ?_); rintro e Vb ⟨⟨va, rfl, hoa⟩, hga⟩; have HGA := Lib.hid (show Below V.heap.size V Vb from HGB.out.trans (hga.mono (by simp))); have HMA := Lib.hid (HM4.out.ext HGA.out); have HOB := Lib.hid ((hoa.l).mono (show base ≤ _ by rw [← hbase]; simp)); have HBX := Lib.hid (HB1.out.ext hga); have k0 := HMA.out.c.cell 0; have k1 := HMA.out.c.cell 1; have k2 := HMA.out.c.cell 2; have HSA := Lib.hid HGA.out.size; clear hga hoa))
              all_goals (try go_wp2_with fail)
              all_goals go_meet
              all_goals exact ⟨A', c', HMW.out.m.set_ 1 _, HMW.out.r.far (p := ⟨w.heap.size, 1, none⟩) (by dsimp only; omega) _, HOW.out.far (p := ⟨w.heap.size, 1, none⟩) hx1 _, HBW.out.setCell (p := ⟨w.heap.size, 1, none⟩) (Nat.le_refl _) _, q1, q2⟩
            case rest =>
              obtain ⟨A', c', hm, hr, ho, hg, q1, q2⟩ := hcut
              rename World => W5
              have m0 := hm.cell 0
              have m1 := hm.cell 1
              have r0 := hr.cell 0
              have r1 := hr.cell 1
              have rf0 := hr.frozen 0
              have rf1 := hr.frozen 1
              obtain ⟨A2, c2, e2, -, -, h2, h3⟩ := ho.arr kdCom
              have hl2 : (xs ++ [x]).length = n + 1 := by simp [HLL.out]
              rw [hl2] at e2 h2
              cases e2
              obtain ⟨W9, hW9, hb9, hg9, hf9⟩ := put2 hr hg hwr rh A' (n + 1) c'
              have b0 := hb9.cell 0
              have b1 := hb9.cell 1
              have GG := Lib.hid hg9
              have K4 := Lib.hid (h2.fix hf9 (fun b o e hn => by have := h3 b o e; omega))
              have HL2 := Lib.hid hl2
              clear hb9 hg9 hf9 hm hr ho hg h2 h3 hl2 c0 c1 c2 c3 c4 c5 p0 p1 p2 p3 hV
              go_wp2_with fail
              refine bodyPost_ret (v := .tuple #[mv A' (n + 1) c' rh, .int .i64 0]) ?_ rfl ⟨GG.out, A', c', by rw [HL2.out], by rw [HL2.out]; exact q1, q2, by rw [HL2.out]; exact K4.out⟩
              unfold mv
              simp [results, Try.results37, go_sem, b0, b1]
      · have hB' : decide (2 ^ h.toNat ≤ x.hours) = true := by simpa using hB
        have HNO := Lib.hid (show okComer h xs x = false by simp [okComer, hB])
        go_wp2_with fail
        refine wp_region_calm W3 (by kernel_rfl) (by kernel_rfl) (Below.refl _ _) ?_
        repeat (go_big_quiet_step (first | (go_at_call 51; exact callsCalm (callsRet (checkComer_any x _) ce))))
        refine wpQuiet_nil ?_
        rintro _ ⟨z, rfl⟩
        have HM4 := Lib.hid (HM3.out.ext z.ok)
        have HG4 := Lib.hid (HG3.out.trans (z.ok.mono HG3.out.size))
        have r0 := HM4.out.r.cell 0
        have r1 := HM4.out.r.cell 1
        have rf0 := HM4.out.r.frozen 0
        have rf1 := HM4.out.r.frozen 1
        have p1 := HM4.out.m.cell 1
        obtain ⟨W9, hW9, hb9, hg9, -⟩ := put2 HM4.out.r HG4.out hwr 0 none 0 0
        have b0 := hb9.cell 0
        have b1 := hb9.cell 1
        have GG := Lib.hid hg9
        clear hb9 hg9
        go_wp2_with fail
        all_goals first
          | (exfalso; omega)
          | skip
        have e : er = 51 := by rw [HE2.out, HNO.out]; rfl
        subst e
        have e1 : rh = 0 := HH.out
        have e2 : rl = [] := HL.out
        subst e1 e2
        refine bodyPost_ret (v := .tuple #[mv none 0 0 0, .int .i64 51]) ?_ rfl ⟨GG.out, none, 0, rfl, Nat.le_refl _, Nat.zero_le _, Arr.nil_⟩
        unfold mv
        simp [results, Try.results37, go_sem, b0, b1]
end Go.Proofs.Ytdhhneflhmkonaa
