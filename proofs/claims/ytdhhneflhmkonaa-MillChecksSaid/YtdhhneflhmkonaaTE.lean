/- The mill: Moved. -/
import Derived.Test.YtdhhneflhmkonaaTD
import Derived.Deep.CutRange
import Derived.Deep.RegionWith
namespace Go.Proofs.Ytdhhneflhmkonaa
open Go.RowKit Go.Shelf

theorem Ok.erase {h : Int} {xs : List Comer} (k : Ok h xs) (i : Nat) : Hrs (xs.eraseIdx i) := fun x hx => k.hrs x (List.mem_of_mem_eraseIdx hx)

/-- Those of the first k whose hours are others. -/
def movK (xs ys : List Comer) (was now : List Int) : Nat → List Int
  | 0 => []
  | k + 1 => movK xs ys was now k ++ if 0 ≤ idx ys (xs.getD k ⟨0, 0, 0⟩).family ∧ was.getD k 0 ≠ now.getD (idx ys (xs.getD k ⟨0, 0, 0⟩).family).toNat 0 then [(xs.getD k ⟨0, 0, 0⟩).family] else []
theorem movK_len (xs ys : List Comer) (was now : List Int) : ∀ k, (movK xs ys was now k).length ≤ k
  | 0 => Nat.le_refl _
  | k + 1 => by
    have := movK_len xs ys was now k
    unfold movK
    rw [List.length_append]
    split <;> simp <;> omega
def movedE (xs : List Comer) (h f : Int) : Int := if okMill h xs = true then (if idx xs f < 0 then 57 else 0) else 52
def movedL (xs : List Comer) (h f : Int) : List Int :=
  movK xs (xs.eraseIdx (idx xs f).toNat) (turnsS xs h.toNat) (turnsS (xs.eraseIdx (idx xs f).toNat) h.toNat) xs.length
def movedS (xs : List Comer) (h f : Int) : List Int := if movedE xs h f = 0 then srt (movedL xs h f) else []

set_option maxRecDepth 100000 in
set_option maxHeartbeats 1000000 in
theorem Moved_any (A : Option Addr) (n cc : Nat) (h f : Int) (xs : List Comer) (w : World) (ha : Arr ccells 3 w A n xs) (hnc : n ≤ cc) (hn : n ≤ 9223372036854775807) :
    Calls Try.prog 18 #[mv A n cc h, .int .i64 f] w fun e w' => (∃ D c, e = .returned (.tuple #[.slice D (movedS xs h f).length c, .int .i64 (movedE xs h f)]) ∧ Ints w' D (movedS xs h f).length (movedS xs h f)) ∧ Below w.heap.size w w' := by
  have HA := Lib.hid ha
  have hlen := Lib.hid ha.1
  obtain ⟨ok, hok⟩ : ∃ ok, okMill h xs = ok := ⟨_, rfl⟩
  have HOK := Lib.hid hok
  have HEE := Lib.hid (show movedE xs h f = if ok = true then (if idx xs f < 0 then 57 else 0) else 52 by rw [← hok]; rfl)
  have HSS := Lib.hid (show movedS xs h f = if movedE xs h f = 0 then srt (movedL xs h f) else [] from rfl)
  generalize movedS xs h f = ls at HSS ⊢
  generalize movedE xs h f = ce at HSS HEE ⊢
  clear ha hok
  unfold mv
  go_enter Try.func18, Try.ntmps18
  go_wp2_with fail
  generalize hW1 : w.alloc (.cells #[.int .i64 h, .slice A n cc] 24) = W1
  obtain ⟨g1, c0, c1⟩ := box2 hW1
  have HG1 := Lib.hid g1
  have hwl : w.heap.size < W1.heap.size := by rw [boxSize hW1]; omega
  clear hW1
  refine (check_any h A n cc xs W1 (HA.out.below g1) hnc hn).mono ?_
  rw [HOK.out]
  rintro e W2 ⟨rfl, hg2⟩
  have HG2 := Lib.hid (HG1.out.trans (hg2.mono HG1.out.size))
  have d0 := (hg2.cell (p := ⟨w.heap.size, 0, none⟩) hwl).trans c0
  have d1 := (hg2.cell (p := ⟨w.heap.size, 1, none⟩) hwl).trans c1
  have hwl2 : w.heap.size < W2.heap.size := by have := hg2.size; omega
  clear c0 c1 g1 hg2
  cases ok with
  | false =>
    rw [show err false 52 = 52 from rfl]
    go_wp2_with fail
    go_ret2
    have e : ce = 52 := HEE.out
    subst e
    have e : ls = [] := HSS.out
    subst e
    exact ⟨⟨none, 0, rfl, Arr.nil_⟩, HG2.out⟩
  | true =>
    rw [show err true 52 = 0 from rfl]
    have hO := (okMill_iff h xs).1 HOK.out
    obtain ⟨H, rfl⟩ : ∃ H : Nat, h = H := ⟨h.toNat, by have := hO.h0; omega⟩
    have hH : H ≤ 24 := by have := hO.h24; omega
    have hn12 : n ≤ 12 := by have := hO.n12; have := hlen.out; omega
    have HX := Lib.hid hO.hrs
    have HOO := Lib.hid hO
    clear hO
    have HEE2 := Lib.hid (show ce = if idx xs f < 0 then 57 else 0 from HEE.out)
    go_wp2_with fail
    refine (without_any A n cc (H : Int) f xs W2 (HA.out.below HG2.out) (by omega)).mono ?_
    rintro e W3 ⟨hg3, ⟨hi, rfl⟩ | ⟨i, A', c', hi, hin, rfl, hnc', ha', -, -⟩⟩
    · have e : ce = 57 := by rw [HEE2.out, hi]; rfl
      subst e
      have e : ls = [] := HSS.out
      subst e
      have HG3 := Lib.hid (HG2.out.trans (hg3.mono HG2.out.size))
      clear hg3 hi
      unfold mv
      go_wp2_with fail
      go_ret2
      exact ⟨⟨none, 0, rfl, Arr.nil_⟩, HG3.out.alloc HG3.out.size _⟩
    · have e : ce = 0 := by rw [HEE2.out, hi]; simp
      subst e
      have HG3 := Lib.hid (HG2.out.trans (hg3.mono HG2.out.size))
      have HA' := Lib.hid ha'
      obtain ⟨ys, hys⟩ : ∃ ys, xs.eraseIdx i = ys := ⟨_, rfl⟩
      have HYS := Lib.hid hys
      have HXY := Lib.hid (show Hrs ys by rw [← hys]; exact HOO.out.erase i)
      have HLS := Lib.hid (show ls = srt (movK xs ys (turnsS xs H) (turnsS ys H) n) by
        have := HSS.out
        rw [if_pos rfl, movedL, hi, Int.toNat_natCast, hys, hlen.out] at this
        exact this)
      have e0 := (hg3.cell (p := ⟨w.heap.size, 0, none⟩) hwl2).trans d0
      have e1 := (hg3.cell (p := ⟨w.heap.size, 1, none⟩) hwl2).trans d1
      have hwl3 : w.heap.size < W3.heap.size := by have := hg3.size; omega
      rw [hys] at HA'
      clear hg3 ha' hys hi d0 d1
      unfold mv
      go_wp2_with fail
      generalize hW4 : W3.alloc (.cells #[.int .i64 H, .slice A' (n - 1) c'] 24) = W4
      obtain ⟨g4, p0, p1⟩ := box2 hW4
      have s4 := boxSize hW4
      have q0 := (g4.cell (p := ⟨w.heap.size, 0, none⟩) hwl3).trans e0
      have q1 := (g4.cell (p := ⟨w.heap.size, 1, none⟩) hwl3).trans e1
      have HG4 := Lib.hid (HG3.out.trans (g4.mono HG3.out.size))
      have HA4 := Lib.hid (HA'.out.below g4)
      have hwl4 : w.heap.size < W4.heap.size := by omega
      obtain ⟨bl, hbl⟩ : ∃ bl, W3.heap.size = bl := ⟨_, rfl⟩
      rw [hbl] at p0 p1 s4 hwl3 ⊢
      clear hW4 g4 e0 e1 hbl
      have GD := Lib.hid (show Below W4.heap.size W4 W4.drew from (Below.refl _ _).drew)
      have T1 := fun W (g : Below W4.heap.size W4 W) => turns_any A n cc H xs W ((HA.out.below HG4.out).below g) HX.out hH hn12
      have T2 := fun W (g : Below W4.heap.size W4 W) => turns_any A' (n - 1) c' H ys W (HA4.out.below g) HXY.out hH (by omega)
      unfold mv at T1 T2
      have HT1 := Lib.hid T1
      have HT2 := Lib.hid T2
      have hwb : bl < W4.heap.size := by omega
      have K := fun W (g : Below W4.heap.size W4 W) => (⟨(g.cell (p := ⟨w.heap.size, 0, none⟩) hwl4).trans q0, (g.cell (p := ⟨w.heap.size, 1, none⟩) hwl4).trans q1, (g.cell (p := ⟨bl, 0, none⟩) hwb).trans p0, (g.cell (p := ⟨bl, 1, none⟩) hwb).trans p1⟩ : W.cell? ⟨w.heap.size, 0, none⟩ = _ ∧ W.cell? ⟨w.heap.size, 1, none⟩ = _ ∧ W.cell? ⟨bl, 0, none⟩ = _ ∧ W.cell? ⟨bl, 1, none⟩ = _)
      have HK := Lib.hid K
      clear T1 T2 K
      go_cut [9, 10] from 28 to 31 (fun s9 s10 wx => ∃ b1 b2, s9 = .slice (some ⟨b1, 0, none⟩) n n ∧ s10 = .slice (some ⟨b2, 0, none⟩) (n - 1) (n - 1) ∧ Below W4.heap.size W4 wx ∧ Blk wx b1 3 (vals (turnsS xs H)) ∧ Blk wx b2 3 (vals (turnsS ys H)))
      case first =>
        go_region_with (first
          | (go_at_call 65; with_reducible refine (HT1.out W4.drew GD.out).mono ?_; rintro e wa ⟨⟨b1, rfl, -, hb1⟩, hga⟩; have GA := Lib.hid (GD.out.trans (hga.mono GD.out.size)); have HB1 := Lib.hid hb1; obtain ⟨u0, u1, u2, u3⟩ := HK.out wa GA.out; clear hga hb1)
          | (go_at_call 65; with_reducible refine (HT2.out W4.drew GD.out).mono ?_; rintro e wb ⟨⟨b2, rfl, -, hb2⟩, hgb⟩; have GB := Lib.hid (GD.out.trans (hgb.mono GD.out.size)); have HB2 := Lib.hid hb2; obtain ⟨u0, u1, u2, u3⟩ := HK.out wb GB.out; clear hgb hb2)
          | (go_at_call 65; with_reducible refine (HT1.out wb GB.out).mono ?_; rintro e wa ⟨⟨b1, rfl, -, hb1⟩, hga⟩; have GA := Lib.hid (GB.out.trans (hga.mono GB.out.size)); have HB1 := Lib.hid hb1; have HB2 := Lib.hid (HB2.out.ext hga); clear hga hb1)
          | (go_at_call 65; with_reducible refine (HT2.out wa GA.out).mono ?_; rintro e wb ⟨⟨b2, rfl, -, hb2⟩, hgb⟩; have GB := Lib.hid (GA.out.trans (hgb.mono GA.out.size)); have HB2 := Lib.hid hb2; have HB1 := Lib.hid (HB1.out.ext hgb); clear hgb hb2))
        all_goals (try go_wp2_with fail)
        all_goals go_meet
        all_goals first
          | exact ⟨b1, b2, rfl, rfl, GA.out, HB1.out, HB2.out⟩
          | exact ⟨b1, b2, rfl, rfl, GB.out, HB1.out, HB2.out⟩
      case rest =>
        obtain ⟨b1, b2, rfl, rfl, hg5, hb1, hb2⟩ := hcut
        rename World => W6
        obtain ⟨was, hwas⟩ : ∃ was, turnsS xs H = was := ⟨_, rfl⟩
        obtain ⟨now, hnow⟩ : ∃ now, turnsS ys H = now := ⟨_, rfl⟩
        have hwl1 : was.length = n := by rw [← hwas]; exact (turnsT_len _ _ _).trans hlen.out
        have hyl : ys.length = n - 1 := HA'.out.1
        have hnl : now.length = n - 1 := by rw [← hnow]; exact (turnsT_len _ _ _).trans hyl
        have HLS2 := Lib.hid (show ls = srt (movK xs ys was now n) by rw [← hwas, ← hnow]; exact HLS.out)
        rw [hwas] at hb1
        rw [hnow] at hb2
        have HI1 := Lib.hid (hb1.intsN hwl1)
        have HI2 := Lib.hid (hb2.intsN hnl)
        have HWL := Lib.hid hwl1
        have HNL := Lib.hid hnl
        have HYL := Lib.hid hyl
        have HG6 := Lib.hid (HG4.out.trans (hg5.mono HG4.out.size))
        have HA6 := Lib.hid (HA4.out.below hg5)
        obtain ⟨u0, u1, u2, u3⟩ := HK.out W6 hg5
        have C1 := Lib.hid u1
        have C3 := Lib.hid u3
        have hw6 : w.heap.size < W6.heap.size := by have := hg5.size; omega
        have hb6 : bl < W6.heap.size := by have := hg5.size; omega
        clear hb1 hb2 hwl1 hnl hyl hwas hnow hg5 u0 u2 p0 p1 q0 q1
        go_wp2_with fail
        go_loopw [11, 35] (fun v i wr => ∃ k : Nat, i = .int .i64 k ∧ k ≤ n ∧ Below W6.heap.size W6 wr ∧ Own wr W6.heap.size v (movK xs ys was now k)) (fun _ i _ => n - (intOf i).toNat)
        case atStart => exact ⟨0, rfl, by omega, Below.refl _ _, Own.nil _ _⟩
        case round =>
          obtain ⟨k, rfl, hk, hg, hown⟩ := hrel
          rename World => wr
          have HGr := Lib.hid hg
          have HO := Lib.hid hown
          have hsz := hg.size
          by_cases hkn : k < n
          · obtain ⟨b, o, x, hAe, -, hx, hca⟩ := comer_at ((HA.out.below HG6.out).below hg) hkn
            obtain ⟨v0, v1, v2⟩ := hca wr (Below.refl _ _)
            have hxd : xs.getD k ⟨0, 0, 0⟩ = x := by rw [List.getD_eq_getElem?_getD, hx]; rfl
            have HNX := Lib.hid (show movK xs ys was now (k + 1) = movK xs ys was now k ++ if 0 ≤ idx ys x.family ∧ was.getD k 0 ≠ now.getD (idx ys x.family).toNat 0 then [x.family] else [] by
              rw [movK, hxd])
            subst hAe
            obtain ⟨W7, hW7⟩ : ∃ W7, wr.alloc (.cells #[.int .i64 x.family, .int .i64 x.hours, .int .i64 x.wants] 53) = W7 := ⟨_, rfl⟩
            have g7 : Below wr.heap.size wr W7 := by rw [← hW7]; exact (Below.refl _ _).alloc (Nat.le_refl _) _
            have hb7 : Blk W7 wr.heap.size 53 #[.int .i64 x.family, .int .i64 x.hours, .int .i64 x.wants] := by rw [← hW7]; exact Blk.new _ _ _
            have HB7 := Lib.hid hb7
            have HG7 := Lib.hid (HGr.out.trans (g7.mono HGr.out.size))
            have HO7 := Lib.hid (HO.out.ext g7)
            have y3 : W7.cell? ⟨bl, 1, none⟩ = some (.slice A' (n - 1) c') := (HG7.out.cell (p := ⟨bl, 1, none⟩) hb6).trans C3.out
            have y0 := hb7.cell 0
            have HL100 : (movK xs ys was now k).length < 100000 := by have := movK_len xs ys was now k; omega
            have HIX := Lib.hid (index_any A' (n - 1) c' ys x.family W7 (HA6.out.below HG7.out) (by omega))
            obtain ⟨b1', o1', e1', -, hdw, hc1⟩ := ints_at (HI1.out.below HG7.out) hkn
            cases e1'
            have z1 := hc1
            obtain ⟨was_k, hwk⟩ : ∃ was_k, was.getD k 0 = was_k := ⟨_, rfl⟩
            rw [hwk] at z1 HNX
            have Z1 := Lib.hid z1
            have hsz7 : W6.heap.size ≤ W7.heap.size := HG7.out.size
            clear hg hown hca hx hxd g7 hb7 z1 hc1 hdw hwk
            rw [show (0 : Nat) + k = k by omega] at Z1
            have HW7 := Lib.hid hW7
            rw [← hW7] at y3 y0
            clear hW7
            rcases idx_cases ys x.family with hj | ⟨j, hj, hjn, -⟩
            · rw [hj] at HIX HNX
              have HN0 := Lib.hid (show movK xs ys was now (k + 1) = movK xs ys was now k by rw [HNX.out, if_neg (by omega), List.append_nil])
              clear hj
              go_wp2_with (first | (go_at_call 63; rw [HW7.out]; refine HIX.out.mono ?_; rintro e W8 ⟨rfl, hg8⟩; have HG8 := Lib.hid hg8; clear hg8))
              refine wp_region_calm W8 (by kernel_rfl) (by kernel_rfl) (Below.refl _ _) ?_
              repeat (go_big_quiet_step (fail))
              refine wpQuiet_nil ?_
              rintro _ ⟨z, rfl⟩
              go_wp2_with fail
              go_roundw
              case rel => exact ⟨k + 1, by go_num, by omega, HG7.out.trans ((extTrans HG8.out z.ok).mono HG7.out.size), by rw [HN0.out]; exact HO7.out.ext (extTrans HG8.out z.ok)⟩
              case measure => simp [intOf]; omega
            · rw [hj] at HIX HNX
              have hjn' : j < n - 1 := by have := HYL.out; omega
              clear hj
              obtain ⟨b2', o2', e2', -, -, hc2⟩ := ints_at (HI2.out.below HG7.out) hjn'
              cases e2'
              obtain ⟨now_j, hnj⟩ : ∃ now_j, now.getD j 0 = now_j := ⟨_, rfl⟩
              rw [hnj] at hc2
              have HN1 := Lib.hid (show movK xs ys was now (k + 1) = movK xs ys was now k ++ if was_k ≠ now_j then [x.family] else [] by
                rw [HNX.out, Int.toNat_natCast, hnj]
                have : (0 : Int) ≤ (j : Int) := by omega
                simp only [this, true_and])
              rw [show (0 : Nat) + j = j by omega] at hc2
              have Z2 := Lib.hid hc2
              clear hc2 hnj
              by_cases hne : was_k = now_j
              · have HN2 := Lib.hid (show movK xs ys was now (k + 1) = movK xs ys was now k by rw [HN1.out, if_neg (by simpa using hne), List.append_nil])
                have hnb : (was_k != now_j) = false := by simpa using hne
                go_wp2_with (first | (go_at_call 63; rw [HW7.out]; refine HIX.out.mono ?_; rintro e W8 ⟨rfl, hg8⟩; have HG8 := Lib.hid hg8; clear hg8))
                have F : ∀ z : Wd W8, z.val.cell? ⟨b1, k, none⟩ = some (.int .i64 was_k) ∧ z.val.cell? ⟨b2, j, none⟩ = some (.int .i64 now_j) := fun z => ⟨Z1.out _ (extTrans HG8.out z.ok), Z2.out _ (extTrans HG8.out z.ok)⟩
                refine wp_region_calm W8 (by kernel_rfl) (by kernel_rfl) (Below.refl _ _) ?_
                repeat (go_big_quiet_step (fail))
                refine wpQuiet_nil ?_
                rintro _ ⟨z, rfl⟩
                go_wp2_with fail
                all_goals first
                  | (exfalso; omega)
                  | skip
                go_roundw
                case rel => exact ⟨k + 1, by go_num, by omega, HG7.out.trans ((extTrans HG8.out z.ok).mono HG7.out.size), by rw [HN2.out]; exact HO7.out.ext (extTrans HG8.out z.ok)⟩
                case measure => simp [intOf]; omega
              · have HN2 := Lib.hid (show movK xs ys was now (k + 1) = movK xs ys was now k ++ [x.family] by rw [HN1.out, if_pos hne])
                have hnb : (was_k != now_j) = true := by simpa using hne
                go_wp2_with (first | (go_at_call 63; rw [HW7.out]; refine HIX.out.mono ?_; rintro e W8 ⟨rfl, hg8⟩; have HG8 := Lib.hid hg8; clear hg8))
                have F : ∀ z : Wd W8, z.val.cell? ⟨b1, k, none⟩ = some (.int .i64 was_k) ∧ z.val.cell? ⟨b2, j, none⟩ = some (.int .i64 now_j) := fun z => ⟨Z1.out _ (extTrans HG8.out z.ok), Z2.out _ (extTrans HG8.out z.ok)⟩
                refine wp_region_calm W8 (by kernel_rfl) (by kernel_rfl) (Below.refl _ _) ?_
                repeat (go_big_quiet_step (fail))
                refine wpQuiet_nil ?_
                rintro _ ⟨z, rfl⟩
                have g9 := extTrans HG8.out z.ok
                have HO9 := Lib.hid (HO7.out.ext g9)
                have k0 := (HB7.out.ext g9).cell 0
                have hsz9 : W6.heap.size ≤ z.val.heap.size := by have := g9.size; omega
                have HG9 := Lib.hid (HG7.out.trans (g9.mono HG7.out.size))
                clear g9
                go_wp2_with (first | (at_builtin; refine push_int rfl _ _ rfl W6.heap.size _ (movK xs ys was now k) rfl (HO9.out.ext ((Below.refl _ _).alloc (Nat.le_refl _) _)) _ _ _ _ rfl rfl (cell_new1 _ _ _ _ rfl) HL100 (by simp; omega) ?_; intro v' w' ho hbw))
                all_goals first
                  | (exfalso; omega)
                  | skip
                go_roundw
                case rel =>
                  refine ⟨k + 1, by go_num, by omega, (HG9.out.alloc hsz9 _).trans (hbw _ (Nat.le_refl _)), ?_⟩
                  rw [HN2.out]; exact ho
                case measure => simp [intOf]; omega
          · obtain rfl : k = n := by omega
            have HSO := Lib.hid (sort_any W6.heap.size _ (movK xs ys was now k) wr hown (by have := movK_len xs ys was now k; omega) hsz)
            clear hg hown
            go_wp2_with fail
            refine HSO.out.mono ?_
            rintro e W8 ⟨rfl, ho8, hg8⟩
            obtain ⟨D, c, rfl, hi⟩ := ho8.ints
            have HI8 := Lib.hid hi
            have HG8 := Lib.hid hg8
            clear hi ho8 hg8
            go_wp2_with fail
            go_ret2
            rw [HLS2.out]
            exact ⟨⟨D, c, rfl, HI8.out⟩, HG6.out.trans ((HGr.out.trans HG8.out).mono HG6.out.size)⟩
end Go.Proofs.Ytdhhneflhmkonaa
