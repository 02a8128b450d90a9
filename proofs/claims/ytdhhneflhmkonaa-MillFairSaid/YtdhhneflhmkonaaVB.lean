/- The reference's Had and CheckShare (func 44, 42). -/
import Derived.Test.YtdhhneflhmkonaaV9
namespace Go.Proofs.Ytdhhneflhmkonaa
open Go.RowKit Go.Shelf

/-- What Had hands back. -/
def HadPost (xs : List Comer) (h : Int) (share : List Int) (n : Nat) (w : World) (e : Ending) (w' : World) : Prop :=
  Below w.heap.size w w' ∧ ∃ (b : Nat) (out : List Int) (ok : Bool), e = .returned (.tuple #[.slice (some ⟨b, 0, none⟩) n n, .bool ok]) ∧ Ints w' (some ⟨b, 0, none⟩) n out ∧ w.heap.size ≤ b ∧
    (ok = true → (share.length : Int) = h ∧ gotK xs share share.length = some out) ∧ (ok = false → ¬ ((share.length : Int) = h ∧ (gotK xs share share.length).isSome = true))

set_option maxRecDepth 100000 in
set_option maxHeartbeats 4000000 in
theorem had_any (A D : Option Addr) (n cc m cd H : Nat) (xs : List Comer) (share : List Int) (w : World) (ha : Arr ccells 3 w A n xs) (hO : Ok (H : Int) xs) (hd : Ints w D m share) (hm : m ≤ 9223372036854775807) :
    Calls Try.prog 44 #[mv A n cc H, .slice D m cd] w (HadPost xs H share n w) := by
  have HA := Lib.hid ha
  have HD := Lib.hid hd
  have hln := Lib.hid ha.1
  have hlm := Lib.hid hd.1
  have hH : H ≤ 24 := by have := hO.h24; omega
  have hn12 : n ≤ 12 := by have := hO.n12; have := hln.out; omega
  have HX := Lib.hid hO.hrs
  clear ha hd hO
  have hmk := fun w => run_make_row' (P := Try.prog) 28 3 (.int .i64 0) 8 (by kernel_rfl) (by kernel_rfl) (by simp [Value.cells]) .i64 .i64 n (by omega) (by omega) w
  unfold mv
  go_enter Try.func44, Try.ntmps44
  go_upto_region 2 with fail
  obtain ⟨W2, hW2, g2, c1, b2⟩ := box_make w H A n cc n
  rw [hW2]
  clear hW2
  have G2 := Lib.hid g2
  clear g2
  obtain ⟨bm, hbm⟩ : ∃ bm, w.heap.size = bm := ⟨_, rfl⟩
  rw [hbm] at c1 b2 ⊢
  obtain ⟨bo, hbo⟩ : ∃ bo, bm + 1 = bo := ⟨_, rfl⟩
  rw [hbo] at b2 ⊢
  have z1 : bm < bo := by omega
  have HBM := Lib.hid hbm
  have C1 := Lib.hid c1
  have B2 := Lib.hid b2
  have m0 := c1.cell 0
  clear hmk hbm hbo c1 b2
  by_cases hmH : m ≠ H
  · have hb : ((m : Int) != (H : Int)) = true := by rw [bne_iff_ne]; omega
    have HMH := Lib.hid hmH
    clear hmH
    go_wp2_with fail
    go_ret2
    exact ⟨G2.out, bo, _, false, rfl, B2.out.intsN (by rw [List.length_replicate]), by rw [HBM.out]; omega, fun h => (by cases h), fun _ h => HMH.out (by have := h.1; have := hlm.out; omega)⟩
  obtain rfl : H = m := by omega
  clear hmH
  go_wp2_with fail
  clear m0
  go_loopw [7] (fun i wr => ∃ (k : Nat) (g : List Int), i = .int .i64 k ∧ k ≤ H ∧ Below w.heap.size w wr ∧ Blk wr bm 24 #[.int .i64 H, .slice A n cc] ∧ Blk wr bo 3 (vals g) ∧ gotK xs share k = some g) (fun i _ => H - (intOf i).toNat)
  case atStart => exact ⟨0, _, rfl, Nat.zero_le _, G2.out, C1.out, B2.out, by unfold gotK; rw [hln.out]⟩
  case round =>
    obtain ⟨k, g, rfl, hk, hg, c1, c2, hgot⟩ := hrel
    have HG := Lib.hid hg
    have C1 := Lib.hid c1
    have C2 := Lib.hid c2
    have HGOT := Lib.hid hgot
    have hgl : g.length = n := (gotK_len hgot).trans hln.out
    have HGL := Lib.hid hgl
    by_cases hkH : k < H
    · obtain ⟨db, dof, rfl, -, -, hdc⟩ := ints_at (HD.out.below hg) hkH
      obtain ⟨f, hf⟩ : ∃ f, share.getD k 0 = f := ⟨_, rfl⟩
      have d0 := hdc _ (Below.refl _ _)
      rw [hf] at d0
      have HF := Lib.hid hf
      have HNX := Lib.hid (show gotK xs share (k + 1) = if f = 0 then some g else if idx xs f < 0 ∨ (hrs xs (idx xs f).toNat).testBit k = false then none else some (g.set (idx xs f).toNat (g.getD (idx xs f).toNat 0 + 1)) by
        rw [gotK, hgot, Option.bind_some, hf])
      have hbd := gotK_bd hgot
      clear hg c1 c2 hgot hgl hdc hf
      by_cases hf0 : f = 0
      · subst hf0
        have HN := Lib.hid (show gotK xs share (k + 1) = some g by rw [HNX.out, if_pos rfl])
        clear hbd
        go_wp2_with fail
        go_roundw
        case rel => exact ⟨k + 1, g, by go_num, by omega, HG.out, C1.out, C2.out, HN.out⟩
        case measure => simp [intOf]; omega
      · have hfb : (f == 0) = false := beq_eq_false_iff_ne.2 hf0
        have HF0 := Lib.hid hf0
        clear hf0
        have m0 := cellW (C1.out.cell 0)
        have m1 := cellW (C1.out.cell 1)
        have dw := cellW d0
        obtain ⟨ix, hix⟩ : ∃ ix, idx xs f = ix := ⟨_, rfl⟩
        have HIX := Lib.hid hix
        have HFAIL : gotK xs share (k + 1) = none → ¬ ((share.length : Int) = (H : Int) ∧ (gotK xs share share.length).isSome = true) := by
          intro hnone h
          rw [gotK_none hnone share.length (by have := hlm.out; omega)] at h
          exact absurd h.2 (by simp)
        have HFL := Lib.hid HFAIL
        clear HFAIL
        go_upto_region 8 with fail
        refine wp_region_calm wr (by kernel_rfl) (by kernel_rfl) (Below.refl _ _) ?_
        repeat (go_big_quiet_step ((go_at_call 71; exact callsCalm (callsRet (refAt_any _ _ _ _ _ _ _ ((HA.out.below HG.out).below (Wd.ok _)) (by omega)) (by rw [HIX.out])))))
        refine wpQuiet_nil ?_
        rintro _ ⟨y, rfl⟩
        have GY := Lib.hid (HG.out.trans (y.ok.mono HG.out.size))
        have D2 := Lib.hid (C2.out.ext y.ok)
        have D1 := Lib.hid (C1.out.ext y.ok)
        rcases idx_cases xs f with hi | ⟨i, hi, hin, -⟩
        · obtain rfl : ix = -1 := hix.symm.trans hi
          have HN := Lib.hid (HFL.out (by rw [HNX.out, if_neg HF0.out, if_pos (.inl (by omega))]))
          have hno : decide ((-1 : Int) < 0) = true := rfl
          clear hi hix hbd
          go_wp2_with fail
          go_ret2
          exact ⟨GY.out, bo, g, false, rfl, D2.out.intsN HGL.out, by rw [HBM.out]; omega, fun h => (by cases h), fun _ => HN.out⟩
        · obtain rfl : ix = (i : Int) := hix.symm.trans hi
          have hin' : i < n := by have := hln.out; omega
          obtain ⟨x, hx⟩ : ∃ x, xs[i]? = some x := ⟨_, List.getElem?_eq_getElem hin⟩
          have hxb := HX.out x (List.mem_of_getElem? hx)
          have hxr : hrs xs i = x.hours.toNat := by unfold hrs; rw [List.getD_eq_getElem?_getD, hx]; rfl
          obtain ⟨tb, htb⟩ : ∃ tb, x.hours.toNat.testBit k = tb := ⟨_, rfl⟩
          have T1 := comesRef_any A n cc i k (H : Int) xs x y.val (HA.out.below GY.out) hin' hx (by omega) hxb
          rw [htb] at T1
          unfold mv at T1
          have HT1 := Lib.hid T1
          have HBIT := Lib.hid (show (hrs xs i).testBit k = tb by rw [hxr]; exact htb)
          have hi0 : decide ((i : Int) < 0) = false := by simp
          have hv := hbd (g.getD i 0) (by
            rw [List.getD_eq_getElem?_getD, List.getElem?_eq_getElem (by rw [HGL.out]; exact hin')]; exact List.getElem_mem _)
          obtain ⟨gi, hgi⟩ : ∃ gi, g.getD i 0 = gi := ⟨_, rfl⟩
          have hge : g[i]? = some gi := by rw [← hgi, List.getD_eq_getElem?_getD, List.getElem?_eq_getElem (by rw [HGL.out]; exact hin')]; rfl
          rw [hgi] at hv
          have HGE := Lib.hid hge
          have HGI := Lib.hid hgi
          clear hi hix hbd hx hxb hxr htb T1 hge hgi
          cases tb with
          | false =>
            have HN := Lib.hid (HFL.out (by rw [HNX.out, if_neg HF0.out, if_pos (.inr (by rw [HIX.out]; exact HBIT.out))]))
            go_wp2_with (go_at_call 74; (with_reducible refine HT1.out.mono ?_); rintro e w7 ⟨rfl, g7⟩; have G7 := Lib.hid g7; clear g7)
            go_ret2
            exact ⟨GY.out.trans (G7.out.mono GY.out.size), bo, g, false, rfl, (D2.out.ext G7.out).intsN HGL.out, by rw [HBM.out]; omega, fun h => (by cases h), fun _ => HN.out⟩
          | true =>
            have HN := Lib.hid (show gotK xs share (k + 1) = some (g.set i (gi + 1)) by
              rw [HNX.out, if_neg HF0.out, if_neg, HIX.out, show ((i : Int)).toNat = i from rfl, HGI.out]
              rw [HIX.out, show ((i : Int)).toNat = i from rfl, HBIT.out]
              intro h
              rcases h with h | h
              · omega
              · cases h)
            go_wp2_with (go_at_call 74; (with_reducible refine HT1.out.mono ?_); rintro e w7 ⟨rfl, g7⟩; have G7 := Lib.hid g7; have q1 := (D2.out.ext g7).cell i; rw [vals_get, HGE.out] at q1; have q2 := (D2.out.ext g7).frozen i; clear g7)
            have NB := (D2.out.ext G7.out).set_ i (.int .i64 (gi + 1))
            rw [vals_set] at NB
            have HNB := Lib.hid NB
            have GZ := Lib.hid ((GY.out.trans (G7.out.mono GY.out.size)).setCell (p := ⟨bo, i, none⟩) (by rw [HBM.out]; dsimp only; omega) (.int .i64 (gi + 1)))
            have D1' := Lib.hid ((D1.out.ext G7.out).far (p := ⟨bo, i, none⟩) (by simp; omega) (.int .i64 (gi + 1)))
            clear NB
            go_roundw
            case rel => exact ⟨k + 1, _, by go_num, by omega, GZ.out, D1'.out, HNB.out, HN.out⟩
            case measure => simp [intOf]; omega
    · obtain rfl : H = k := by omega
      clear hg c1 c2 hgot hgl
      go_wp2_with fail
      go_ret2
      exact ⟨HG.out, bo, g, true, rfl, C2.out.intsN HGL.out, by rw [HBM.out]; omega, fun _ => ⟨by have := hlm.out; omega, by rw [hlm.out]; exact HGOT.out⟩, fun h => by cases h⟩
end Go.Proofs.Ytdhhneflhmkonaa
