/- Made: the plot that numbers determine. -/
import Derived.Test.YtkoejeghihcmlaaGreatMG
import Derived.Test.YtkoejeghihcmlaaGreatWA
namespace Go.Proofs.YtkoejeghihcmlaaGreat
open Go.RowKit Go.Shelf

theorem q4_at {w : World} {A : Option Addr} {n : Nat} {xs : List Q4} (h : Arr q4cells 4 w A n xs) {k : Nat} (hk : k < n) :
    ∃ b o, A = some ⟨b, o, none⟩ ∧ b < w.heap.size ∧ ∀ w', Below w.heap.size w w' → w'.cell? ⟨b, o + k * 4, none⟩ = some (.int .i64 (xs.getD k z4).a) ∧ w'.cell? ⟨b, o + k * 4 + 1, none⟩ = some (.int .i64 (xs.getD k z4).b) ∧
      w'.cell? ⟨b, o + k * 4 + 2, none⟩ = some (.int .i64 (xs.getD k z4).c) ∧ w'.cell? ⟨b, o + k * 4 + 3, none⟩ = some (.int .i64 (xs.getD k z4).d) := by
  obtain ⟨b, o, x, rfl, hlt, hx, hc⟩ := h.at hk
  have e : xs.getD k z4 = x := by rw [List.getD_eq_getElem?_getD, hx]; rfl
  rw [e]
  refine ⟨b, o, rfl, hlt, fun w' g => ⟨?_, ?_, ?_, ?_⟩⟩
  · exact hc w' g 0 _ rfl
  · exact hc w' g 1 _ rfl
  · exact hc w' g 2 _ rfl
  · exact hc w' g 3 _ rfl

/-- A number of Go's. -/
def I64 (n : Int) : Prop := -9223372036854775808 ≤ n ∧ n ≤ 9223372036854775807
theorem wtd200 {n : Int} (h : I64 n) : wrap64 (n.tdiv 200) = n.tdiv 200 := by
  have h1 : (n.tdiv 200).natAbs = n.natAbs / 200 := Int.natAbs_tdiv n 200
  unfold I64 at h
  unfold wrap64
  omega
theorem wtd1800 {n : Int} (h : I64 n) : wrap64 (n.tdiv 1800) = n.tdiv 1800 := by
  have h1 : (n.tdiv 1800).natAbs = n.natAbs / 1800 := Int.natAbs_tdiv n 1800
  unfold I64 at h
  unfold wrap64
  omega
theorem wtd12 {n : Int} (h : I64 n) : wrap64 (n.tdiv 12) = n.tdiv 12 := by
  have h1 : (n.tdiv 12).natAbs = n.natAbs / 12 := Int.natAbs_tdiv n 12
  unfold I64 at h
  unfold wrap64
  omega
/-- Numbers of Go's throughout. -/
structure RawOk (r : Raw) : Prop where
  sown : I64 r.sown
  loads : ∀ x ∈ r.loads, I64 x.c
  stands : ∀ x ∈ r.stands, I64 x.c
  spells : ∀ x ∈ r.spells, I64 x.c

theorem stoodAt_bd (r : Raw) (h : Int) {k : Nat} (hk : k ≤ manyL r) : 0 ≤ stoodAt (madeLoads r) (madeNums r) (r.sown % 200) h k ∧ stoodAt (madeLoads r) (madeNums r) (r.sown % 200) h k ≤ 199 := by
  have hl := made_len r
  rw [stoodAt_left (r := r) (h := h) hk (fun j hj => after_spec (made_up r) j (by omega))]
  exact (stL_ok r _).left
theorem nums_bd (r : Raw) {j : Nat} (hj : j < manyL r) : 0 ≤ (madeNums r).getD j 0 ∧ (madeNums r).getD j 0 ≤ 210 := by
  have h := made_each (r := r) hj
  omega
set_option maxRecDepth 100000 in
set_option maxHeartbeats 40000000 in
theorem made_any (r : Raw) (right : Bool) (A1 A2 A3 : Option Addr) (n1 c1 n2 c2 n3 c3 : Nat) (w : World) (h1 : Arr q4cells 4 w A1 n1 r.loads) (h2 : Arr q4cells 4 w A2 n2 r.stands) (h3 : Arr q4cells 4 w A3 n3 r.spells)
    (hn : n1 ≤ 9223372036854775807 ∧ n2 ≤ 9223372036854775807 ∧ n3 ≤ 9223372036854775807) (hr : RawOk r) :
    Calls Tryz.prog 15 #[.agg (rawv r A1 A2 A3 n1 c1 n2 c2 n3 c3), .bool right] w fun e w' => (∃ v1 v2 v3 vn, e = .returned (.tuple #[.agg (plw (madeP r right) v1 v2 v3), .agg #[.int .i64 (r.sown % 200), vn]]) ∧
      OwnL scells 6 103 w' w.heap.size v1 (madeLoads r) ∧ OwnL scells 6 105 w' w.heap.size v2 (madeP r right).stands ∧ OwnL scells 6 107 w' w.heap.size v3 (madeP r right).spells ∧ OwnL icells 1 3 w' w.heap.size vn (madeNums r)) ∧ Below w.heap.size w w' := by
  obtain ⟨W1, hW1⟩ : ∃ W1, ((w.alloc (.cells (rawv r A1 A2 A3 n1 c1 n2 c2 n3 c3) 24)).alloc (.cells #[.int .i64 0, .int .i64 0, .slice none 0 0, .slice none 0 0, .slice none 0 0, .int .i64 0] 38)).alloc (.cells #[.int .i64 0, .slice none 0 0] 41) = W1 := ⟨_, rfl⟩
  have g1 : Below w.heap.size w W1 := by rw [← hW1]; exact three_more _ _ _ _
  have b2 : Blk W1 w.heap.size 24 (rawv r A1 A2 A3 n1 c1 n2 c2 n3 c3) := by rw [← hW1]; exact blk3_1 _ _ _ _ _
  have b4 : Blk W1 (w.heap.size + 1) 38 #[.int .i64 0, .int .i64 0, .slice none 0 0, .slice none 0 0, .slice none 0 0, .int .i64 0] := by rw [← hW1]; exact blk3_2 _ _ _ _ _
  have b5 : Blk W1 (w.heap.size + 1 + 1) 41 #[.int .i64 0, .slice none 0 0] := by rw [← hW1]; exact blk3_3 _ _ _ _ _
  have hz1 : W1.heap.size = w.heap.size + 1 + 1 + 1 := by rw [← hW1]; simp
  have r0 := b2.cell 0
  have r1 := b2.cell 1
  have HW1 := Lib.hid hW1
  have HB2 := Lib.hid b2
  have HB4 := Lib.hid b4
  have HB5 := Lib.hid b5
  have G1 := Lib.hid g1
  have HZ1 := Lib.hid hz1
  have H1 := Lib.hid h1
  have H2 := Lib.hid h2
  have H3 := Lib.hid h3
  have HN := Lib.hid hn
  have HRO := Lib.hid hr
  have TM := Lib.hid (fun n m V h0 h1 => mod_any n m V h0 h1)
  clear hW1 b2 b4 b5 g1 hz1 h1 h2 h3 hn hr
  go_enter Tryz.func15, Tryz.ntmps15
  go_upto_region 1 with fail
  rw [HW1.out]
  obtain ⟨bx, hbx⟩ : ∃ bx, w.heap.size = bx := ⟨_, rfl⟩
  rw [hbx] at HB2 HB4 HB5 G1 HZ1 r0 r1 ⊢
  have HBX := Lib.hid hbx
  clear hbx
  go_upto_region 2 with (go_at_call 17; (with_reducible refine (TM.out _ _ _ (by omega) (by omega)).mono ?_); rintro e w' ⟨rfl, rfl⟩)
  obtain ⟨W2, hW2⟩ : ∃ W2, W1.alloc (.cells #[.int .i64 0, .int .i64 0, .slice none 0 0, .slice none 0 0, .slice none 0 0, .int .i64 (r.geese % 4)] 38) = W2 := ⟨_, rfl⟩
  have g2 : Below W1.heap.size W1 W2 := by rw [← hW2]; exact one_more _ _
  have b6 : Blk W2 W1.heap.size 38 #[.int .i64 0, .int .i64 0, .slice none 0 0, .slice none 0 0, .slice none 0 0, .int .i64 (r.geese % 4)] := by rw [← hW2]; exact Blk.new _ _ _
  have HB6 := Lib.hid b6
  have s0 := (HB2.out.ext g2).cell 0
  have G2 := Lib.hid g2
  have HZ2 := Lib.hid (show W2.heap.size = W1.heap.size + 1 by rw [← hW2]; simp)
  have HW2 := Lib.hid hW2
  clear b6 g2 hW2 r0 r1
  rw [HW2.out]
  rw [HZ1.out] at HB6 HZ2 ⊢
  go_upto_region 4 with (go_at_call 17; (with_reducible refine (TM.out _ _ _ (by omega) (by omega)).mono ?_); rintro e w' ⟨rfl, rfl⟩)
  obtain ⟨W3, hW3⟩ : ∃ W3, W2.alloc (.cells #[.int .i64 (r.sown % 200), .slice none 0 0] 41) = W3 := ⟨_, rfl⟩
  have g3 : Below W2.heap.size W2 W3 := by rw [← hW3]; exact one_more _ _
  have b8 : Blk W3 W2.heap.size 41 #[.int .i64 (r.sown % 200), .slice none 0 0] := by rw [← hW3]; exact Blk.new _ _ _
  have HB8 := Lib.hid b8
  have q0 := ((HB2.out.ext G2.out).ext g3).cell 0
  have HC6 := Lib.hid (HB6.out.ext g3)
  have G3 := Lib.hid g3
  have HZ3 := Lib.hid (show W3.heap.size = W2.heap.size + 1 by rw [← hW3]; simp)
  have HW3 := Lib.hid hW3
  clear b8 g3 hW3 s0
  (try rw [HW3.out])
  rw [HZ2.out] at HB8 HZ3 ⊢
  have q1 := HC6.out.cell 0
  have q2 := HC6.out.cell 1
  have q3 := HC6.out.frozen 0
  have q4 := HC6.out.frozen 1
  have hl0 : 0 ≤ r.sown % 200 := by omega
  have hl1 : r.sown % 200 < 200 := by omega
  have ha0 : 0 ≤ r.sown.tdiv 200 % 9 := by omega
  have ha1 : r.sown.tdiv 200 % 9 < 9 := by omega
  have hb0 : 0 ≤ r.sown.tdiv 1800 % 9 := by omega
  have hb1 : r.sown.tdiv 1800 % 9 < 9 := by omega
  have qq0 := cellW (show W3.cell? ⟨bx, 0, none⟩ = some (.int .i64 r.sown) from q0)
  have hw1 := wtd200 HRO.out.sown
  have hw2 := wtd1800 HRO.out.sown
  refine wp_region_calm_tail W3 15 (by kernel_rfl) (by kernel_rfl) (Below.refl _ _) ?_
  simp only [List.take_succ_cons, List.take_zero, List.drop_succ_cons, List.drop_zero]
  repeat (go_big_quiet_step (first | (go_at_call 17; exact callsCalmSame (TM.out _ _ _ (by omega) (by omega)))))
  refine wpQuiet_nil ?_
  rintro _ ⟨z, rfl⟩
  clear q0 q1 q2 q3 q4 qq0 hw1 hw2
  have q1 := (HC6.out.ext z.ok).cell 0
  have q2 := (HC6.out.ext z.ok).cell 1
  have q3 := (HC6.out.ext z.ok).frozen 0
  have q4 := (HC6.out.ext z.ok).frozen 1
  go_upto_region 6 with fail
  obtain ⟨lo, hlo⟩ : ∃ lo, max 0 (r.sown % 200 - r.sown.tdiv 200 % 9) = lo := ⟨_, rfl⟩
  obtain ⟨hi, hhi⟩ : ∃ hi, r.sown % 200 + r.sown.tdiv 1800 % 9 = hi := ⟨_, rfl⟩
  obtain ⟨Z, hZ⟩ : ∃ Z, (z.val.setCell ⟨bx + 1 + 1 + 1, 0, none⟩ (.int .i64 lo)).setCell ⟨bx + 1 + 1 + 1, 1, none⟩ (.int .i64 hi) = Z := ⟨_, rfl⟩
  have gz3 : W3.heap.size = bx + 1 + 1 + 1 + 1 + 1 := HZ3.out
  have gz2 : W2.heap.size = bx + 1 + 1 + 1 + 1 := HZ2.out
  have gz1 : W1.heap.size = bx + 1 + 1 + 1 := HZ1.out
  have hzz := z.ok.size
  have GW := Lib.hid (show Below bx w z.val from G1.out.trans ((G2.out.trans ((G3.out.trans (z.ok.mono G3.out.size)).mono G2.out.size)).mono (by omega)))
  have M0 : Mk w (bx + 1 + 1 + 1 + 1 + 1) bx (bx + 1) (bx + 1 + 1) (bx + 1 + 1 + 1) (bx + 1 + 1 + 1 + 1) (rawv r A1 A2 A3 n1 c1 n2 c2 n3 c3) lo hi (r.geese % 4) (r.sown % 200) Z (.slice none 0 0) (.slice none 0 0) (.slice none 0 0) (.slice none 0 0) [] [] [] [] := by
    rw [← hZ]
    have e3 := G3.out.trans (z.ok.mono G3.out.size)
    have e2 := G2.out.trans (e3.mono G2.out.size)
    exact ⟨by omega, (GW.out.setCell (p := ⟨bx + 1 + 1 + 1, 0, none⟩) (by show bx ≤ bx + 1 + 1 + 1; omega) _).setCell (p := ⟨bx + 1 + 1 + 1, 1, none⟩) (by show bx ≤ bx + 1 + 1 + 1; omega) _,
      ((HB2.out.ext e2).far (by show bx ≠ bx + 1 + 1 + 1; omega) _).far (by show bx ≠ bx + 1 + 1 + 1; omega) _,
      ((HB4.out.ext e2).far (by show bx + 1 ≠ bx + 1 + 1 + 1; omega) _).far (by show bx + 1 ≠ bx + 1 + 1 + 1; omega) _,
      ((HB5.out.ext e2).far (by show bx + 1 + 1 ≠ bx + 1 + 1 + 1; omega) _).far (by show bx + 1 + 1 ≠ bx + 1 + 1 + 1; omega) _,
      ((HC6.out.ext z.ok).set_ 0 _).set_ 1 _,
      ((HB8.out.ext z.ok).far (by show bx + 1 + 1 + 1 + 1 ≠ bx + 1 + 1 + 1; omega) _).far (by show bx + 1 + 1 + 1 + 1 ≠ bx + 1 + 1 + 1; omega) _,
      OwnL.nil _ _, OwnL.nil _ _, OwnL.nil _ _, OwnL.nil _ _, fun k e => (by cases e), fun k e => (by cases e), fun k e => (by cases e), fun k e => (by cases e), fun k e => (by cases e), fun k e => (by cases e)⟩
  have HM0 := Lib.hid M0
  have HLO := Lib.hid hlo
  have HHI := Lib.hid hhi
  rw [hlo, hhi, hZ]
  clear q1 q2 q3 q4 hlo hhi hZ M0 gz1 gz2 gz3 hzz ha0 ha1 hb0 hb1
  obtain ⟨s0, hs0⟩ : ∃ s, stL r 0 = s := ⟨_, rfl⟩
  have HL := Lib.hid H1.out.1
  have HWS := Lib.hid (show bx = w.heap.size from HBX.out.symm)
  go_wp2_with fail
  go_loopw [7, 9, 10] (fun l h i wr => ∃ (k : Nat) (v1 vn : Value), i = .int .i64 k ∧ l = .int .i64 (stL r k).left ∧ h = .int .i64 (stL r k).hour ∧ k ≤ manyL r ∧ Mk w (bx + 1 + 1 + 1 + 1 + 1) bx (bx + 1) (bx + 1 + 1) (bx + 1 + 1 + 1) (bx + 1 + 1 + 1 + 1) (rawv r A1 A2 A3 n1 c1 n2 c2 n3 c3) lo hi (r.geese % 4) (r.sown % 200) wr v1 (.slice none 0 0) (.slice none 0 0) vn (stL r k).loads [] [] (stL r k).nums) (fun _ _ i _ => 6 - (intOf i).toNat)
  case atStart => exact ⟨0, _, _, rfl, rfl, rfl, Nat.zero_le _, HM0.out⟩
  case round =>
    obtain ⟨k, v1, vn, rfl, rfl, rfl, hk, hm⟩ := hrel
    have hk6 := manyL_le r
    have HM := Lib.hid hm
    have hord := hm.ord
    have raw2 := hm.r.cell 2
    by_cases hkm : k < manyL r
    · have hkl : k < n1 := by rw [← HL.out]; unfold manyL at hkm; omega
      have hstep := Lib.hid (show stL r (k + 1) = stepL (stL r k) k (r.loads.getD k z4) from rfl)
      have hso := stL_ok r k
      obtain ⟨b0, o0, e0, hb0l, hc⟩ := q4_at H1.out hkl
      have hx := HRO.out.loads (r.loads.getD k z4) (by rw [List.getD_eq_getElem?_getD, List.getElem?_eq_getElem (by rw [HL.out]; exact hkl)]; exact List.getElem_mem _)
      obtain ⟨x, hxg⟩ : ∃ x, r.loads.getD k z4 = x := ⟨_, rfl⟩
      rw [hxg] at hc hstep hx
      obtain ⟨s, hs⟩ : ∃ s, stL r k = s := ⟨_, rfl⟩
      rw [hs] at HM hstep hso ⊢
      have hgw := hm.g
      obtain ⟨x0, x1, x2, x3⟩ := hc wr (by rw [← HWS.out]; exact hgw)
      subst e0
      have htk := took_bd hso.left.1 x
      have HTK := Lib.hid (show mkTook s.left x = if x.b % 5 = 0 then s.left else x.b % (s.left + 1) from rfl)
      have hk5 : decide ((k : Int) < 6) = true := decide_eq_true (by omega)
      have hl0 := hso.left
      have hh0 := hso.hour
      have hki : (k : Int) < (n1 : Int) := by omega
      have HSO := Lib.hid hso
      clear hc hxg hs hgw hm hso
      go_upto_region 10 with fail
      obtain ⟨Wa, hWa⟩ : ∃ Wa, wr.alloc (.cells #[.int .i64 x.a, .int .i64 x.b, .int .i64 x.c, .int .i64 x.d] 133) = Wa := ⟨_, rfl⟩
      have ga : Below wr.heap.size wr Wa := by rw [← hWa]; exact one_more _ _
      have b11 : Blk Wa wr.heap.size 133 #[.int .i64 x.a, .int .i64 x.b, .int .i64 x.c, .int .i64 x.d] := by rw [← hWa]; exact Blk.new _ _ _
      have HMa := Lib.hid (HM.out.ext ga)
      have HB11 := Lib.hid b11
      obtain ⟨bb, hbb⟩ : ∃ b, wr.heap.size = b := ⟨_, rfl⟩
      rw [hbb] at HB11 ⊢
      have hbbw := HB11.out.lt
      have hbbl : bx + 1 + 1 + 1 + 1 < bb := by have := HM.out.c.lt; omega
      have HWa := Lib.hid hWa
      have y0 := HB11.out.cell 0
      have y1 := HB11.out.cell 1
      have HBBE := Lib.hid hbb
      clear ga b11 hWa hbb x0 x1 x2 x3 raw2
      rw [HWa.out]
      go_upto_region 12 with (go_at_call 17; (with_reducible refine (TM.out _ _ _ (by omega) (by omega)).mono ?_); rintro e w' ⟨rfl, rfl⟩)
      have y2 := HB11.out.cell 2
      have y3 := HB11.out.cell 3
      have HBW := Lib.hid hbbw
      have HLB := Lib.hid hbbl
      by_cases hf : x.b % 5 = 0
      have hfd : decide (x.b % 5 = 0) = true := decide_eq_true hf
      obtain ⟨tk, hte⟩ : ∃ t, t = s.left := ⟨_, rfl⟩
      have HT := Lib.hid (show mkTook s.left x = tk from by rw [HTK.out, if_pos hf, hte])
      rotate_left
      have hfd : decide (x.b % 5 = 0) = false := decide_eq_false hf
      obtain ⟨tk, hte⟩ : ∃ t, t = x.b % (s.left + 1) := ⟨_, rfl⟩
      have HT := Lib.hid (show mkTook s.left x = tk from by rw [HTK.out, if_neg hf, hte])
      rotate_left
      all_goals
        rw [HT.out, hte] at htk
        have htk0 := htk.1
        have htk1 := htk.2
        have HE := Lib.hid hte
        clear htk hte
        go_upto_region 14 with (go_at_call 17; (with_reducible refine (TM.out _ _ _ (by omega) (by omega)).mono ?_); rintro e w' ⟨rfl, rfl⟩)
        go_upto_region 15 with fail
        have hn1 := HMa.out.c.cell 1
        obtain ⟨An, cn, hvn, -, -, -, -⟩ := OwnL.arr kdI HMa.out.on
        subst hvn
        have W5 := Lib.hid (show Below Wa.heap.size Wa (Wa.alloc (.cells #[.int .i64 tk] 3)) from one_more _ _)
        rw [HE.out] at W5
        have IX := Lib.hid (show ∀ W, W = Wa.alloc (.cells #[.int .i64 tk] 3) → Ints W (some ⟨Wa.heap.size, 0, none⟩) 1 [tk] from fun W e => e ▸ one_int (Blk.new _ _ _))
        have HMb := Lib.hid (HMa.out.ext W5.out)
        have HBb := Lib.hid (HB11.out.ext W5.out)
        have HLENN := Lib.hid (show s.nums.length + 1 ≤ 1000000 by have := HSO.out.nlen; omega)
        have HBAS := Lib.hid (show ∀ o, bx + 1 + 1 + 1 + 1 + 1 ≤ (Wa.alloc o).heap.size from fun o => by have := HMa.out.c.lt; have h2 : (Wa.alloc o).heap.size = Wa.heap.size + 1 := (by simp); omega)
        go_wp2_with (at_builtin; go_loud (refine wpList_app kdI (by rfl) _ _ (by rfl) (bx + 1 + 1 + 1 + 1 + 1) _ s.nums (by rfl) HMb.out.on _ 1 1 [tk] (by rfl) (IX.out _ (by rw [HE.out])) HLENN.out (HBAS.out _) ?_); intro v' w' ho hgr hz; obtain ⟨A6, c6, e6, -, -, -, -⟩ := OwnL.arr kdI ho; obtain ⟨m6, hm6⟩ : ∃ m6, (s.nums ++ [tk]).length = m6 := ⟨_, rfl⟩; rw [hm6] at e6; clear hm6; subst e6; have HMc := Lib.hid (HMb.out.turnn hgr ho hz); have HBc := Lib.hid ((HBb.out.grown hgr (fun e => by have := (own_lt HM.out.on e).2; have := HBBE.out; omega)).far (p := ⟨bx + 1 + 1 + 1 + 1, 1, none⟩) (by have := HLB.out; show bb ≠ bx + 1 + 1 + 1 + 1; omega) (.slice A6 m6 c6)); have f1 := (HMb.out.c.grown hgr (fun e => by have := (own_lt HM.out.on e).1; omega)).frozen 1; have e1 := (HMb.out.c.grown hgr (fun e => by have := (own_lt HM.out.on e).1; omega)).cell 1; clear ho hgr hz)
        obtain ⟨Wx, hWx⟩ : ∃ W, w'.setCell ⟨bx + 1 + 1 + 1 + 1, 1, none⟩ (.slice A6 m6 c6) = W := ⟨_, rfl⟩
        have HMd := HMc
        have HBd := HBc
        rw [hWx] at HMd HBd ⊢
        clear HMc HBc hWx hn1 f1 e1
        have HW12 := Lib.hid (show IntKind.i64.wrap (x.c.tdiv 12) = x.c.tdiv 12 from by have h := wtd12 hx; unfold wrap64 at h; rw [IntKind.wrap_i64]; exact h)
        have HMe := Lib.hid (HMd.out.ext ((Below.refl _ _).drew))
        have HMF := Lib.hid (fun o => HMe.out.ext (one_more _ o))
        have HJ := Lib.hid (fun o => (show ((fun w' => w'.cell? ⟨bx + 1 + 1 + 1, 2, none⟩ = some v1 ∧ w'.cell? ⟨bb, 2, none⟩ = some (.int .i64 x.c) ∧ w'.cell? ⟨bb, 3, none⟩ = some (.int .i64 x.d)) : World → Prop) (Wx.drew.alloc o) from ⟨(HMF.out o).p.cell 2, ((HBd.out.ext ((Below.refl _ _).drew)).ext (one_more _ o)).cell 2, ((HBd.out.ext ((Below.refl _ _).drew)).ext (one_more _ o)).cell 3⟩))
        have HLENL := Lib.hid (show s.loads.length + 1 ≤ 1000000 by have := HSO.out.len; omega)
        have HBAL := Lib.hid (show ∀ o, bx + 1 + 1 + 1 + 1 + 1 ≤ (Wx.drew.alloc o).heap.size from fun o => by have := HMe.out.c.lt; have h2 : (Wx.drew.alloc o).heap.size = Wx.drew.heap.size + 1 := (by simp); omega)
        have IXL := Lib.hid (show ∀ o a c d, o = .cells #[.int .i64 a, .int .i64 (s.hour + x.a % 9), .int .i64 c, .int .i64 d, .int .i64 (x.d % 20), .int .i64 0] 103 → a = 1 + (k : Int) → c = max 0 (tk - x.c % 12) → d = tk + x.c.tdiv 12 % 12 → Arr scells 6 (Wx.drew.alloc o) (some ⟨Wx.drew.heap.size, 0, none⟩) 1 [mkLoad k (s.hour + x.a % 9) tk x] from fun o a c d e e1 e2 e3 => by subst e e1 e2 e3; exact Blk.arr1 (f := scells) (x := mkLoad k (s.hour + x.a % 9) tk x) (Blk.new _ _ _))
        clear y0 y1 y2 y3
        refine wp_region_till (S := fun w' => w'.cell? ⟨bx + 1 + 1 + 1, 2, none⟩ = some v1 ∧ w'.cell? ⟨bb, 2, none⟩ = some (.int .i64 x.c) ∧ w'.cell? ⟨bb, 3, none⟩ = some (.int .i64 x.d)) 25 (by kernel_rfl) (⟨HMe.out.p.cell 2, (HBd.out.ext ((Below.refl _ _).drew)).cell 2, (HBd.out.ext ((Below.refl _ _).drew)).cell 3⟩) (fun hHeld => ?_)
        (refine till_take [25] (i := 0) (oi := ⟨_, _, _, _, _, _⟩) (d := some 85) (v := ?_) rfl rfl (by kernel_rfl) (by kernel_rfl) (fun _ _ _ h => h) (by rfl) ?_ (by assumption) ?_; rotate_left; (focus (intro w hSw; (try dsimp only at hSw); go_simp; try with_reducible rfl)); (try simp only [Act.put, List.setIfInBounds_toArray, List.set_cons_zero, List.set_cons_succ]))
        (refine till_take [25] (i := 1) (oi := ⟨_, _, _, _, _, _⟩) (d := some 86) (v := ?_) rfl rfl (by kernel_rfl) (by kernel_rfl) (fun _ _ _ h => h) (by rfl) ?_ (by assumption) ?_; rotate_left; (focus (intro w hSw; (try dsimp only at hSw); go_simp; try with_reducible rfl)); (try simp only [Act.put, List.setIfInBounds_toArray, List.set_cons_zero, List.set_cons_succ]))
        (refine till_take [25] (i := 2) (oi := ⟨_, _, _, _, _, _⟩) (d := some 87) (v := ?_) rfl rfl (by kernel_rfl) (by kernel_rfl) (fun _ _ _ h => h) (by rfl) ?_ (by assumption) ?_; rotate_left; (focus (intro w hSw; (try dsimp only at hSw); go_simp; try with_reducible rfl)); (try simp only [Act.put, List.setIfInBounds_toArray, List.set_cons_zero, List.set_cons_succ]))
        (refine till_take [25] (i := 3) (oi := ⟨_, _, _, _, _, _⟩) (d := some 88) (v := ?_) rfl rfl (by kernel_rfl) (by kernel_rfl) (fun _ _ _ h => h) (by rfl) ?_ (by assumption) ?_; rotate_left; (focus (intro w hSw; (try dsimp only at hSw); go_simp; try with_reducible rfl)); (try simp only [Act.put, List.setIfInBounds_toArray, List.set_cons_zero, List.set_cons_succ]))
        (refine till_take [25] (i := 4) (oi := ⟨_, _, _, _, _, _⟩) (d := some 89) (v := ?_) rfl rfl (by kernel_rfl) (by kernel_rfl) (fun _ _ _ h => h) (by rfl) ?_ (by assumption) ?_; rotate_left; (focus (intro w hSw; (try dsimp only at hSw); go_simp; try with_reducible rfl)); (try simp only [Act.put, List.setIfInBounds_toArray, List.set_cons_zero, List.set_cons_succ]))
        (refine till_take [25] (i := 5) (oi := ⟨_, _, _, _, _, _⟩) (d := some 90) (v := ?_) rfl rfl (by kernel_rfl) (by kernel_rfl) (fun _ _ _ h => h) (by rfl) ?_ (by assumption) ?_; rotate_left; (focus (intro w hSw; (try dsimp only at hSw); go_simp; try with_reducible rfl)); (try simp only [Act.put, List.setIfInBounds_toArray, List.set_cons_zero, List.set_cons_succ]))
        (refine till_take [25] (i := 6) (oi := ⟨_, _, _, _, _, _⟩) (d := some 91) (v := ?_) rfl rfl (by kernel_rfl) (by kernel_rfl) (fun _ _ _ h => h) (by rfl) ?_ (by assumption) ?_; rotate_left; (focus (intro w hSw; (try dsimp only at hSw); go_simp; try with_reducible rfl)); (try simp only [Act.put, List.setIfInBounds_toArray, List.set_cons_zero, List.set_cons_succ]))
        (refine till_take [25] (i := 7) (oi := ⟨_, _, _, _, _, _⟩) (d := some 92) (v := ?_) rfl rfl (by kernel_rfl) (by kernel_rfl) (fun _ _ _ h => h) (by rfl) ?_ (by assumption) ?_; rotate_left; (focus (intro w hSw; (try dsimp only at hSw); go_simp; try with_reducible rfl)); (try simp only [Act.put, List.setIfInBounds_toArray, List.set_cons_zero, List.set_cons_succ]))
        (refine till_take [25] (i := 11) (oi := ⟨_, _, _, _, _, _⟩) (d := some 96) (v := ?_) rfl rfl (by kernel_rfl) (by kernel_rfl) (fun _ _ _ h => h) (by rfl) ?_ (by assumption) ?_; rotate_left; (focus (intro w hSw; (try dsimp only at hSw); go_simp; try with_reducible rfl)); (try simp only [Act.put, List.setIfInBounds_toArray, List.set_cons_zero, List.set_cons_succ]))
        (refine till_take [25] (i := 12) (oi := ⟨_, _, _, _, _, _⟩) (d := some 97) (v := ?_) rfl rfl (by kernel_rfl) (by kernel_rfl) (fun _ _ _ h => h) (by rfl) ?_ (by assumption) ?_; rotate_left; (focus (intro w hSw; (try dsimp only at hSw); go_simp; try with_reducible rfl)); (try simp only [Act.put, List.setIfInBounds_toArray, List.set_cons_zero, List.set_cons_succ]))
        (refine till_take [25] (i := 13) (oi := ⟨_, _, _, _, _, _⟩) (d := some 98) (v := ?_) rfl rfl (by kernel_rfl) (by kernel_rfl) (fun _ _ _ h => h) (by rfl) ?_ (by assumption) ?_; rotate_left; (focus (intro w hSw; (try dsimp only at hSw); go_simp; try with_reducible rfl)); (try simp only [Act.put, List.setIfInBounds_toArray, List.set_cons_zero, List.set_cons_succ]))
        (refine till_take [25] (i := 14) (oi := ⟨_, _, _, _, _, _⟩) (d := some 99) (v := ?_) rfl rfl (by kernel_rfl) (by kernel_rfl) (fun _ _ _ h => h) (by rfl) ?_ (by assumption) ?_; rotate_left; (focus (intro w hSw; (try dsimp only at hSw); go_simp; try with_reducible rfl)); (try simp only [Act.put, List.setIfInBounds_toArray, List.set_cons_zero, List.set_cons_succ]))
        (refine till_take [25] (i := 18) (oi := ⟨_, _, _, _, _, _⟩) (d := some 103) (v := ?_) rfl rfl (by kernel_rfl) (by kernel_rfl) (fun _ _ _ h => h) (by rfl) ?_ (by assumption) ?_; rotate_left; (focus (intro w hSw; (try dsimp only at hSw); go_simp; try with_reducible rfl)); (try simp only [Act.put, List.setIfInBounds_toArray, List.set_cons_zero, List.set_cons_succ]))
        (refine till_take [25] (i := 19) (oi := ⟨_, _, _, _, _, _⟩) (d := some 104) (v := ?_) rfl rfl (by kernel_rfl) (by kernel_rfl) (fun _ _ _ h => h) (by rfl) ?_ (by assumption) ?_; rotate_left; (focus (intro w hSw; (try dsimp only at hSw); go_simp; try with_reducible rfl)); (try simp only [Act.put, List.setIfInBounds_toArray, List.set_cons_zero, List.set_cons_succ]))
        refine till_one 8 (o := ⟨_, _, _, _, _, _⟩) rfl (by kernel_rfl) (by decide) (fun K hK => ?_)
        (go_simp; go_at_call 17; refine (TM.out _ _ _ (by omega) (by omega)).mono ?_; rintro e w' ⟨rfl, rfl⟩; (try dsimp only))
        refine hK.out _ _ ?_ (fun hHeld => ?_)
        · exact hHeld
        clear hK K
        (try simp only [Act.put, List.setIfInBounds_toArray, List.set_cons_zero, List.set_cons_succ])
        (refine till_take [25] (i := 9) (oi := ⟨_, _, _, _, _, _⟩) (d := some 94) (v := ?_) rfl rfl (by kernel_rfl) (by kernel_rfl) (fun _ _ _ h => h) (by rfl) ?_ (by assumption) ?_; rotate_left; (focus (intro w hSw; (try dsimp only at hSw); go_simp; try with_reducible rfl)); (try simp only [Act.put, List.setIfInBounds_toArray, List.set_cons_zero, List.set_cons_succ]))
        (refine till_take [25] (i := 10) (oi := ⟨_, _, _, _, _, _⟩) (d := some 95) (v := ?_) rfl rfl (by kernel_rfl) (by kernel_rfl) (fun _ _ _ h => h) (by rfl) ?_ (by assumption) ?_; rotate_left; (focus (intro w hSw; (try dsimp only at hSw); go_simp; try with_reducible rfl)); (try simp only [Act.put, List.setIfInBounds_toArray, List.set_cons_zero, List.set_cons_succ]))
        refine till_one 15 (o := ⟨_, _, _, _, _, _⟩) rfl (by kernel_rfl) (by decide) (fun K hK => ?_)
        (go_simp; go_at_call 17; refine (TM.out _ _ _ (by omega) (by omega)).mono ?_; rintro e w' ⟨rfl, rfl⟩; (try dsimp only))
        refine hK.out _ _ ?_ (fun hHeld => ?_)
        · exact hHeld
        clear hK K
        (try simp only [Act.put, List.setIfInBounds_toArray, List.set_cons_zero, List.set_cons_succ])
        (refine till_take [25] (i := 16) (oi := ⟨_, _, _, _, _, _⟩) (d := some 101) (v := ?_) rfl rfl (by kernel_rfl) (by kernel_rfl) (fun _ _ _ h => h) (by rfl) ?_ (by assumption) ?_; rotate_left; (focus (intro w hSw; (try dsimp only at hSw); go_simp; try with_reducible rfl)); (try simp only [Act.put, List.setIfInBounds_toArray, List.set_cons_zero, List.set_cons_succ]))
        (refine till_take [25] (i := 17) (oi := ⟨_, _, _, _, _, _⟩) (d := some 102) (v := ?_) rfl rfl (by kernel_rfl) (by kernel_rfl) (fun _ _ _ h => h) (by rfl) ?_ (by assumption) ?_; rotate_left; (focus (intro w hSw; (try dsimp only at hSw); go_simp; try with_reducible rfl)); (try simp only [Act.put, List.setIfInBounds_toArray, List.set_cons_zero, List.set_cons_succ]))
        refine till_one 20 (o := ⟨_, _, _, _, _, _⟩) rfl (by kernel_rfl) (by decide) (fun K hK => ?_)
        (go_simp; go_at_call 17; refine (TM.out _ _ _ (by omega) (by omega)).mono ?_; rintro e w' ⟨rfl, rfl⟩; (try dsimp only))
        refine hK.out _ _ ?_ (fun hHeld => ?_)
        · exact hHeld
        clear hK K
        (try simp only [Act.put, List.setIfInBounds_toArray, List.set_cons_zero, List.set_cons_succ])
        (refine till_take [25] (i := 21) (oi := ⟨_, _, _, _, _, _⟩) (d := some 106) (v := ?_) rfl rfl (by kernel_rfl) (by kernel_rfl) (fun _ _ _ h => h) (by rfl) ?_ (by assumption) ?_; rotate_left; (focus (intro w hSw; (try dsimp only at hSw); go_simp; try with_reducible rfl)); (try simp only [Act.put, List.setIfInBounds_toArray, List.set_cons_zero, List.set_cons_succ]))
        refine till_one 22 (o := ⟨_, _, _, _, _, _⟩) rfl (by kernel_rfl) (by decide) (fun K hK => ?_)
        go_simp
        refine hK.out _ _ ?_ (fun hHeld => ?_)
        · exact HJ.out _
        clear hK K
        (try simp only [Act.put, List.setIfInBounds_toArray, List.set_cons_zero, List.set_cons_succ])
        refine till_one 23 (o := ⟨_, _, _, _, _, _⟩) rfl (by kernel_rfl) (by decide) (fun K hK => ?_)
        (refine step_app kdL (by rfl) _ _ (by rfl) (bx + 1 + 1 + 1 + 1 + 1) _ s.loads (by rfl) (HMF.out _).o1 _ 1 1 [mkLoad k (s.hour + x.a % 9) tk x] (by rfl) (IXL.out _ _ _ _ rfl (by (simp only [IntKind.wrap_i64]; omega)) (by (try rw [HE.out]); (simp only [IntKind.wrap_i64]; omega)) (by (try rw [HE.out]); rw [HW12.out]; (simp only [IntKind.wrap_i64]; omega))) HLENL.out (HBAL.out _) ?_; intro v' w' ho hgr hz; obtain ⟨A7, c7, e7, -, -, -, -⟩ := OwnL.arr kdL ho; obtain ⟨m7, hm7⟩ : ∃ m7, (s.loads ++ [mkLoad k (s.hour + x.a % 9) tk x]).length = m7 := ⟨_, rfl⟩; rw [hm7] at e7; clear hm7; subst e7; have HMG := Lib.hid ((HMF.out _).turn1 hgr ho hz); have hpg := ((HMF.out _).p.grown hgr (fun e => by have := (own_lt HMd.out.o1 e).1; omega)); have hbg := (((HBd.out.ext ((Below.refl _ _).drew)).ext (one_more _ _)).grown hgr (fun e => by have := (own_lt HM.out.o1 e).2; have := HBBE.out; omega)); have fz := hpg.frozen 2; have j2 := hpg.cell 2; have jc := hbg.cell 2; have jd := hbg.cell 3; clear ho hgr hz hpg hbg)
        refine hK.out _ _ ?_ (fun hHeld => ?_)
        · exact ⟨j2, jc, jd⟩
        clear hK K
        (try simp only [Act.put, List.setIfInBounds_toArray, List.set_cons_zero, List.set_cons_succ])
        (refine till_take [25] (i := 24) (oi := ⟨_, _, _, _, _, _⟩) (d := some 109) (v := ?_) rfl rfl (by kernel_rfl) (by kernel_rfl) (fun _ _ _ h => h) (by rfl) ?_ (by assumption) ?_; rotate_left; (focus (intro w hSw; (try dsimp only at hSw); go_simp; try with_reducible rfl)); (try simp only [Act.put, List.setIfInBounds_toArray, List.set_cons_zero, List.set_cons_succ]))
        refine till_last (o := ⟨_, _, _, _, _, _⟩) rfl (by kernel_rfl) (by kernel_rfl) (fun K hK => ?_)
        go_simp
        refine hK.out _ _ ?_
        clear hK K
        go_wp2_with fail
        go_roundw
        case rel => exact ⟨k + 1, _, _, by go_num, congrArg (Value.int .i64) (by rw [hstep.out]; show _ = s.left - mkTook s.left x; rw [HT.out]; have := HE.out; omega), congrArg (Value.int .i64) (by rw [hstep.out]; rfl), by omega, by rw [hstep.out]; unfold stepL; dsimp only; rw [HT.out]; exact HMG.out⟩
        case measure => simp [intOf]; omega
    · have HKE := Lib.hid (show k = manyL r by omega)
      have hd6 : ¬ (k < n1 ∧ k < 6) := by have := HL.out; unfold manyL at hkm; omega
      go_upto_region 7 with fail
      go_cut [53] from 45 to 53 (fun c wx => c = .bool false ∧ wx = wr)
      case first =>
        by_cases c1 : k < n1
        · have e1 : decide ((k : Int) < (n1 : Int)) = true := decide_eq_true (by omega)
          have e2 : decide ((k : Int) < 6) = false := decide_eq_false (by omega)
          go_wp2_with fail
          go_meet
          exact ⟨rfl, rfl⟩
        · have e1 : decide ((k : Int) < (n1 : Int)) = false := decide_eq_false (by omega)
          go_wp2_with fail
          go_meet
          exact ⟨rfl, rfl⟩
      case rest =>
        obtain ⟨rfl, rfl⟩ := hcut
        have HM1 := Lib.hid (show Mk w (bx + 1 + 1 + 1 + 1 + 1) bx (bx + 1) (bx + 1 + 1) (bx + 1 + 1 + 1) (bx + 1 + 1 + 1 + 1) (rawv r A1 A2 A3 n1 c1 n2 c2 n3 c3) lo hi (r.geese % 4) (r.sown % 200) wc v1 (.slice none 0 0) (.slice none 0 0) vn (madeLoads r) [] [] (madeNums r) by have := HM.out; rw [HKE.out] at this; exact this)
        have HL2 := Lib.hid H2.out.1
        have HL3 := Lib.hid H3.out.1
        obtain ⟨D1, d1, hv1, -, -, -, -⟩ := OwnL.arr kdL HM1.out.o1
        obtain ⟨Dn, dn, hvn, -, -, -, -⟩ := OwnL.arr kdI HM1.out.on
        subst hv1 hvn
        obtain ⟨nL, hnL⟩ : ∃ n, (madeLoads r).length = n := ⟨_, rfl⟩
        obtain ⟨nN, hnN⟩ : ∃ n, (madeNums r).length = n := ⟨_, rfl⟩
        rw [hnL, hnN] at HM1
        have HNL := Lib.hid hnL
        have hnN2 : nN = nL := by rw [← hnN, ← hnL, made_len]; exact (madeL_ok r).nlen
        have HNN := Lib.hid hnN
        have HNM := Lib.hid (show nL = manyL r by rw [← hnL]; exact made_len r)
        have hnL6 : nL ≤ 6 := by rw [HNM.out]; exact hk6
        subst hnN2
        clear hnL hnN hd6 hkm hk raw2 HM HM0
        go_wp2_with fail
        go_loopw [13] (fun i wr => ∃ (k2 : Nat) (v2 : Value), i = .int .i64 k2 ∧ k2 ≤ min n2 6 ∧ Mk w (bx + 1 + 1 + 1 + 1 + 1) bx (bx + 1) (bx + 1 + 1) (bx + 1 + 1 + 1) (bx + 1 + 1 + 1 + 1) (rawv r A1 A2 A3 n1 c1 n2 c2 n3 c3) lo hi (r.geese % 4) (r.sown % 200) wr (.slice D1 nN d1) v2 (.slice none 0 0) (.slice Dn nN dn) (madeLoads r) (madeStandsK r right k2) [] (madeNums r)) (fun i _ => 6 - (intOf i).toNat)
        case atStart => exact ⟨0, _, rfl, Nat.zero_le _, HM1.out⟩
        case round =>
          obtain ⟨k2, v2, rfl, hk2, hm2⟩ := hrel
          have HM2 := Lib.hid hm2
          have hord2 := hm2.ord
          have raw3 := hm2.r.cell 3
          by_cases hkm2 : k2 < min n2 6
          · have hkl2 : k2 < n2 := by omega
            obtain ⟨b0, o0, e0, hb0l, hc⟩ := q4_at H2.out hkl2
            have hx := HRO.out.stands (r.stands.getD k2 z4) (by rw [List.getD_eq_getElem?_getD, List.getElem?_eq_getElem (by rw [HL2.out]; exact hkl2)]; exact List.getElem_mem _)
            have HST := Lib.hid (show madeStandsK r right (k2 + 1) = madeStandsK r right k2 ++ [mkStand r right k2 (r.stands.getD k2 z4)] from rfl)
            have HSL := Lib.hid (stands_len r right k2)
            obtain ⟨x, hxg⟩ : ∃ x, r.stands.getD k2 z4 = x := ⟨_, rfl⟩
            rw [hxg] at hc hx HST
            have hgw := hm2.g
            obtain ⟨x0, x1, x2, x3⟩ := hc wr (by rw [← HWS.out]; exact hgw)
            subst e0
            have hk5 : decide ((k2 : Int) < 6) = true := decide_eq_true (by omega)
            have hki : (k2 : Int) < (n2 : Int) := by omega
            have HXI := Lib.hid hx
            clear hc hxg hgw hm2 hx
            go_upto_region 21 with fail
            obtain ⟨Wa, hWa⟩ : ∃ Wa, wr.alloc (.cells #[.int .i64 x.a, .int .i64 x.b, .int .i64 x.c, .int .i64 x.d] 133) = Wa := ⟨_, rfl⟩
            have ga : Below wr.heap.size wr Wa := by rw [← hWa]; exact one_more _ _
            have b14 : Blk Wa wr.heap.size 133 #[.int .i64 x.a, .int .i64 x.b, .int .i64 x.c, .int .i64 x.d] := by rw [← hWa]; exact Blk.new _ _ _
            have HMa := Lib.hid (HM2.out.ext ga)
            have HB14 := Lib.hid b14
            have hbs : bx + 1 + 1 + 1 + 1 < wr.heap.size := HM2.out.c.lt
            obtain ⟨bb, hbb⟩ : ∃ b, wr.heap.size = b := ⟨_, rfl⟩
            rw [hbb] at HB14 hbs ⊢
            have HBBE := Lib.hid hbb
            have HWa := Lib.hid hWa
            clear ga b14 hWa hbb x0 x1 x2 x3 raw3
            rw [HWa.out]
            have y0 := HB14.out.cell 0
            have y1 := HB14.out.cell 1
            have y2 := HB14.out.cell 2
            have y3 := HB14.out.cell 3
            have hw1 : IntKind.i64.wrap (21 + (k2 : Int)) = 21 + (k2 : Int) := by rw [IntKind.wrap_i64]; omega
            have hw2 : IntKind.i64.wrap (18 + x.a % 50) = 18 + x.a % 50 := by rw [IntKind.wrap_i64]; omega
            have HKP := Lib.hid (fun W (g : Below Wa.heap.size Wa W) => (⟨(HB14.out.ext g).cell 0, (HB14.out.ext g).cell 3⟩ : W.cell? ⟨bb, 0, none⟩ = some (.int .i64 x.a) ∧ W.cell? ⟨bb, 3, none⟩ = some (.int .i64 x.d)))
            go_cut [15] from 126 to 135 (fun s15 wx => ∃ b15, s15 = .pointer (some ⟨b15, 0, none⟩) ∧ Below Wa.heap.size Wa wx ∧ Wa.heap.size ≤ b15 ∧ Blk wx b15 105 #[.int .i64 (21 + (k2 : Int)), .int .i64 (18 + x.a % 50), .int .i64 0, .int .i64 0, .int .i64 (x.d % 20), .int .i64 0])
            case first =>
              go_region_held3 (fun W => W.cell? ⟨bb, 0, none⟩ = some (.int .i64 x.a) ∧ W.cell? ⟨bb, 3, none⟩ = some (.int .i64 x.d))
                (first | exact HKP.out _ (by exact (Below.refl _ _).drew) | exact HKP.out _ (by exact (one_more _ _).drew))
                ((go_at_call 17; (with_reducible refine (TM.out _ _ _ (by omega) (by omega)).mono ?_); rintro e w' ⟨rfl, rfl⟩))
              all_goals (try go_wp2_with fail)
              all_goals go_meet
              all_goals exact ⟨_, rfl, (one_more _ _).drew, Nat.le_refl _, (Blk.new _ _ _).ext ((Below.refl _ _).drew)⟩
            case rest =>
              obtain ⟨b15, rfl, hg15, hb15, hB15⟩ := hcut
              have HG15 := Lib.hid hg15
              have HMb := Lib.hid (HMa.out.ext hg15)
              have HBb := Lib.hid (HB14.out.ext hg15)
              have HB15 := Lib.hid hB15
              have HB15L := Lib.hid hb15
              have hbl5 := hB15.lt
              have sw := HMb.out.c.cell 0
              clear y0 y1 y2 y3 hw1 hw2 hg15 hb15 hB15
              obtain ⟨D, c, hv, -, -, hla, -⟩ := OwnL.arr kdL HMb.out.o1
              rw [HNL.out] at hv hla
              cases hv
              obtain ⟨D', c', hv', -, -, hna, -⟩ := OwnL.arr kdI HMb.out.on
              rw [HNN.out] at hv' hna
              cases hv'
              have HLA := Lib.hid hla
              have HNA := Lib.hid hna
              clear hla hna
              obtain ⟨hq, hhq⟩ : ∃ h, 18 + x.a % 50 = h := ⟨_, rfl⟩
              have HHQ := Lib.hid hhq
              rw [hhq] at HB15
              have hq0 : 0 ≤ hq := by omega
              clear hhq
              go_wp2_with fail
              clear sw
              go_loopw [16, 17] (fun s i wv => ∃ j : Nat, i = .int .i64 j ∧ s = .int .i64 (stoodAt (madeLoads r) (madeNums r) (r.sown % 200) hq j) ∧ j ≤ nN ∧ Below wc.heap.size wc wv) (fun _ i _ => nN - (intOf i).toNat)
              case atStart => exact ⟨0, rfl, rfl, Nat.zero_le _, Below.refl _ _⟩
              case round =>
                obtain ⟨j, rfl, rfl, hj, hgv⟩ := hrel
                have HGV := Lib.hid hgv
                have HMv := Lib.hid (HMb.out.ext hgv)
                have m2 := HMv.out.p.cell 2
                have m1 := HMv.out.c.cell 1
                have z1 := (HB15.out.ext hgv).cell 1
                have hjw : (j : Int) ≤ 6 := by omega
                clear hgv
                by_cases hjn : j < nN
                · obtain ⟨b0, o0, e0, -, -, hc⟩ := six_at (HLA.out.below HGV.out) hjn
                  obtain ⟨u0, u1, u2, u3, u4, u5⟩ := hc _ (Below.refl _ _)
                  obtain ⟨b1, o1, e1, -, -, hc1⟩ := ints_at (HNA.out.below HGV.out) hjn
                  have v0 := hc1 _ (Below.refl _ _)
                  have hbd := stoodAt_bd r hq (k := j) (by rw [← HNM.out]; exact hj)
                  have hbn := nums_bd r (j := j) (by rw [← HNM.out]; exact hjn)
                  have HSS := Lib.hid (show stoodAt (madeLoads r) (madeNums r) (r.sown % 200) hq (j + 1) = stoodAt (madeLoads r) (madeNums r) (r.sown % 200) hq j - (if ((madeLoads r).getD j z6).b ≤ hq then (madeNums r).getD j 0 else 0) from rfl)
                  subst e0 e1
                  obtain ⟨y, hy⟩ : ∃ y, (madeLoads r).getD j z6 = y := ⟨_, rfl⟩
                  obtain ⟨nm, hnm⟩ : ∃ y, (madeNums r).getD j 0 = y := ⟨_, rfl⟩
                  obtain ⟨sa, hsa⟩ : ∃ y, stoodAt (madeLoads r) (madeNums r) (r.sown % 200) hq j = y := ⟨_, rfl⟩
                  rw [hy] at u1 HSS
                  rw [hnm] at v0 hbn HSS
                  rw [hsa] at hbd HSS ⊢
                  have hji : (j : Int) < (nN : Int) := by omega
                  clear hc hc1 u0 u2 u3 u4 u5 hy hnm hsa
                  go_upto_region 26 with fail
                  by_cases hle : y.b ≤ hq
                  · have hd : decide (y.b ≤ hq) = true := decide_eq_true hle
                    have HLE := Lib.hid hle
                    clear hle
                    go_quiet (fail)
                    have m1' := (HMv.out.ext ⟨rfl, rfl, rfl, Nat.le_refl _, fun _ _ => rfl⟩ : Mk w _ _ _ _ _ _ _ _ _ _ _ (World.drewN _ nq) _ _ _ _ _ _ _ _).c.cell 1
                    go_wp2_with fail
                    go_roundw
                    case rel => exact ⟨j + 1, by go_num, congrArg (Value.int .i64) (by rw [HSS.out, if_pos HLE.out]), by omega, HGV.out.trans (⟨rfl, rfl, rfl, Nat.le_refl _, fun _ _ => rfl⟩)⟩
                    case measure => simp [intOf]; omega
                  · have hd : decide (y.b ≤ hq) = false := decide_eq_false hle
                    have HLE := Lib.hid hle
                    clear hle
                    go_quiet (fail)
                    go_wp2_with fail
                    go_roundw
                    case rel => exact ⟨j + 1, by go_num, congrArg (Value.int .i64) (by rw [HSS.out, if_neg HLE.out]; omega), by omega, HGV.out.trans (⟨rfl, rfl, rfl, Nat.le_refl _, fun _ _ => rfl⟩)⟩
                    case measure => simp [intOf]; omega
                · obtain rfl : nN = j := by omega
                  have HSV := Lib.hid (show stoodAt (madeLoads r) (madeNums r) (r.sown % 200) hq nN = stoodAt (madeLoads r) (madeNums r) (r.sown % 200) (18 + x.a % 50) (madeLoads r).length by rw [HNL.out, HHQ.out])
                  have yc1 := (HBb.out.ext HGV.out).cell 1
                  obtain ⟨sa, hsa⟩ : ∃ y, stoodAt (madeLoads r) (madeNums r) (r.sown % 200) hq nN = y := ⟨_, rfl⟩
                  rw [hsa] at HSV ⊢
                  have HSA := Lib.hid hsa
                  clear hsa
                  go_upto_if 162 with fail
                  go_cut [16] from 163 to 165 (fun s16 wx => s16 = .int .i64 (standV r right x) ∧ wx = wr)
                  case first =>
                    have HV := Lib.hid (show standV r right x = if right = true then stoodAt (madeLoads r) (madeNums r) (r.sown % 200) (18 + x.a % 50) (madeLoads r).length else x.b % 200 from rfl)
                    cases right with
                    | true =>
                      have HV2 := Lib.hid (show standV r true x = sa by rw [HV.out, if_pos rfl, ← HSV.out])
                      go_wp2_with fail
                      go_meet
                      exact ⟨by rw [HV2.out], rfl⟩
                    | false =>
                      have HV2 := Lib.hid (show standV r false x = x.b % 200 by rw [HV.out]; rfl)
                      go_wp2_with (go_at_call 17; (with_reducible refine (TM.out _ _ _ (by omega) (by omega)).mono ?_); rintro e w' ⟨rfl, rfl⟩)
                      go_meet
                      exact ⟨by rw [HV2.out], rfl⟩
                  case rest =>
                    obtain ⟨rfl, rfl⟩ := hcut
                    obtain ⟨sv, hsv⟩ : ∃ v, standV r right x = v := ⟨_, rfl⟩
                    have hsb := standV_bd r right x
                    rw [hsv] at hsb ⊢
                    have HSVV := Lib.hid hsv
                    have hx12 := wtd12 HXI.out
                    have ha0 : 0 ≤ x.c % 12 := by omega
                    have ha1 : x.c % 12 < 12 := by omega
                    have hb0 : 0 ≤ x.c.tdiv 12 % 12 := by omega
                    have hb1 : x.c.tdiv 12 % 12 < 12 := by omega
                    have hs0 := hsb.1
                    have hs1 := hsb.2
                    have yc2 := (HBb.out.ext HGV.out).cell 2
                    have qq2 := cellW (show wc.cell? ⟨bb, 2, none⟩ = some (.int .i64 x.c) from yc2)
                    have HB15v := Lib.hid (HB15.out.ext HGV.out)
                    have z2 := HB15v.out.cell 2
                    have z3 := HB15v.out.cell 3
                    have zf2 := HB15v.out.frozen 2
                    have zf3 := HB15v.out.frozen 3
                    clear hsv hsb yc1 m1 m2 z1
                    go_upto_region 30 with fail
                    refine wp_region_calm_tail wc 14 (by kernel_rfl) (by kernel_rfl) (Below.refl _ _) ?_
                    simp only [List.take_succ_cons, List.take_zero, List.drop_succ_cons, List.drop_zero]
                    repeat (go_big_quiet_step (first | (go_at_call 17; exact callsCalmSame (TM.out _ _ _ (by omega) (by omega)))))
                    refine wpQuiet_nil ?_
                    rintro _ ⟨zz, rfl⟩
                    clear yc2 qq2 z2 z3 zf2 zf3 hx12
                    have z2 := (HB15v.out.ext zz.ok).cell 2
                    have z3 := (HB15v.out.ext zz.ok).cell 3
                    have zf2 := (HB15v.out.ext zz.ok).frozen 2
                    have zf3 := (HB15v.out.ext zz.ok).frozen 3
                    go_upto_region 31 with fail
                    clear z2 z3 zf2 zf3
                    obtain ⟨c2v, hc2v⟩ : ∃ v, max 0 (sv - x.c % 12) = v := ⟨_, rfl⟩
                    obtain ⟨c3v, hc3v⟩ : ∃ v, sv + x.c.tdiv 12 % 12 = v := ⟨_, rfl⟩
                    obtain ⟨Z, hZ⟩ : ∃ Z, (zz.val.setCell ⟨b15, 2, none⟩ (.int .i64 c2v)).setCell ⟨b15, 3, none⟩ (.int .i64 c3v) = Z := ⟨_, rfl⟩
                    have GZ := Lib.hid (show Below Wa.heap.size Wa Z by rw [← hZ]; exact ((HG15.out.trans ((HGV.out.trans (zz.ok.mono HGV.out.size)).mono HG15.out.size)).setCell (p := ⟨b15, 2, none⟩) HB15L.out _).setCell (p := ⟨b15, 3, none⟩) HB15L.out _)
                    have HBZ := Lib.hid (show Blk Z b15 105 #[.int .i64 (21 + (k2 : Int)), .int .i64 hq, .int .i64 c2v, .int .i64 c3v, .int .i64 (x.d % 20), .int .i64 0] by rw [← hZ]; exact ((HB15v.out.ext zz.ok).set_ 2 _).set_ 3 _)
                    rw [hc2v, hc3v, hZ]
                    have HMK := Lib.hid (show mkStand r right k2 x = ⟨21 + (k2 : Int), hq, c2v, c3v, x.d % 20, 0⟩ by rw [← hc2v, ← hc3v, ← HSVV.out, ← HHQ.out]; rfl)
                    have HMz := Lib.hid (HMa.out.ext GZ.out)
                    have p3 := HMz.out.p.cell 3
                    have t0 := HBZ.out.cell 0
                    have t1 := HBZ.out.cell 1
                    have t2 := HBZ.out.cell 2
                    have t3 := HBZ.out.cell 3
                    have t4 := HBZ.out.cell 4
                    have t5 := HBZ.out.cell 5
                    obtain ⟨A2v, c2c, hv2, -, -, -, -⟩ := OwnL.arr kdS HMz.out.o2
                    rw [HSL.out] at hv2
                    subst hv2
                    clear hZ hc2v hc3v ha0 ha1 hb0 hb1 hs0 hs1
                    have HIX := Lib.hid (show ∀ W, W = Z.alloc (.cells #[.int .i64 (21 + (k2 : Int)), .int .i64 hq, .int .i64 c2v, .int .i64 c3v, .int .i64 (x.d % 20), .int .i64 0] 105) → Arr scells 6 W (some ⟨Z.heap.size, 0, none⟩) 1 [mkStand r right k2 x] from fun W e => by subst e; rw [HMK.out]; exact Blk.arr1 (f := scells) (x := ⟨21 + (k2 : Int), hq, c2v, c3v, x.d % 20, 0⟩) (Blk.new _ _ _))
                    have HMy := Lib.hid (fun o => HMz.out.ext (one_more Z o))
                    have HLENS := Lib.hid (show (madeStandsK r right k2).length + 1 ≤ 1000000 by rw [HSL.out]; omega)
                    have HBAS := Lib.hid (show ∀ o, bx + 1 + 1 + 1 + 1 + 1 ≤ (Z.alloc o).heap.size from fun o => by have := HMz.out.c.lt; have h2 : (Z.alloc o).heap.size = Z.heap.size + 1 := (by simp); omega)
                    go_wp2_with (at_builtin; go_loud (refine wpList_app kdS (by rfl) _ _ (by rfl) (bx + 1 + 1 + 1 + 1 + 1) _ (madeStandsK r right k2) (by rfl) (HMy.out _).o2 _ 1 1 [mkStand r right k2 x] (by rfl) (HIX.out _ rfl) HLENS.out (HBAS.out _) ?_); intro v' w' ho hgr hz; obtain ⟨A6, c6, e6, -, -, -, -⟩ := OwnL.arr kdS ho; obtain ⟨m6, hm6⟩ : ∃ m6, (madeStandsK r right k2 ++ [mkStand r right k2 x]).length = m6 := ⟨_, rfl⟩; rw [hm6] at e6; clear hm6; subst e6; have HMc := Lib.hid ((HMy.out _).turn2 hgr ho hz); have hpg := ((HMy.out _).p.grown hgr (fun e => by have := (own_lt HMz.out.o2 e).1; omega)); have f1 := hpg.frozen 3; have e1 := hpg.cell 3; clear ho hgr hz hpg)
                    go_roundw
                    case rel => exact ⟨k2 + 1, _, by go_num, by omega, by rw [HST.out]; exact HMc.out⟩
                    case measure => simp [intOf]; omega
          · have HKE2 := Lib.hid (show k2 = min n2 6 by omega)
            have hd6 : ¬ (k2 < n2 ∧ k2 < 6) := by omega
            go_upto_region 18 with fail
            go_cut [118] from 110 to 118 (fun c wx => c = .bool false ∧ wx = wr)
            case first =>
              by_cases c1 : k2 < n2
              · have e1 : decide ((k2 : Int) < (n2 : Int)) = true := decide_eq_true (by omega)
                have e2 : decide ((k2 : Int) < 6) = false := decide_eq_false (by omega)
                go_wp2_with fail
                go_meet
                exact ⟨rfl, rfl⟩
              · have e1 : decide ((k2 : Int) < (n2 : Int)) = false := decide_eq_false (by omega)
                go_wp2_with fail
                go_meet
                exact ⟨rfl, rfl⟩
            case rest =>
              obtain ⟨rfl, rfl⟩ := hcut
              have HSP := Lib.hid (show (madeP r right).stands = madeStandsK r right k2 by rw [HKE2.out, ← HL2.out]; rfl)
              rw [← HSP.out] at HM2
              clear hd6 hkm2 hk2 raw3 hm2
              go_wp2_with fail
              go_loopw [18] (fun i wr => ∃ (k3 : Nat) (v3 : Value), i = .int .i64 k3 ∧ k3 ≤ min n3 4 ∧ Mk w (bx + 1 + 1 + 1 + 1 + 1) bx (bx + 1) (bx + 1 + 1) (bx + 1 + 1 + 1) (bx + 1 + 1 + 1 + 1) (rawv r A1 A2 A3 n1 c1 n2 c2 n3 c3) lo hi (r.geese % 4) (r.sown % 200) wr (.slice D1 nN d1) v2 v3 (.slice Dn nN dn) (madeLoads r) (madeP r right).stands (madeSpellsK r k3) (madeNums r)) (fun i _ => 4 - (intOf i).toNat)
              case atStart => exact ⟨0, _, rfl, Nat.zero_le _, HM2.out⟩
              case round =>
                obtain ⟨k3, v3, rfl, hk3, hm3⟩ := hrel
                have HM3 := Lib.hid hm3
                have hord3 := hm3.ord
                have raw4 := hm3.r.cell 4
                by_cases hkm3 : k3 < min n3 4
                · have hkl3 : k3 < n3 := by omega
                  obtain ⟨b0, o0, e0, hb0l, hc⟩ := q4_at H3.out hkl3
                  have HST := Lib.hid (show madeSpellsK r (k3 + 1) = madeSpellsK r k3 ++ [mkSpell k3 (r.spells.getD k3 z4)] from rfl)
                  have HSL := Lib.hid (spells_len r k3)
                  obtain ⟨x, hxg⟩ : ∃ x, r.spells.getD k3 z4 = x := ⟨_, rfl⟩
                  rw [hxg] at hc HST
                  have hgw := hm3.g
                  obtain ⟨x0, x1, x2, x3⟩ := hc wr (by rw [← HWS.out]; exact hgw)
                  subst e0
                  have hk5 : decide ((k3 : Int) < 4) = true := decide_eq_true (by omega)
                  have hki : (k3 : Int) < (n3 : Int) := by omega
                  clear hc hxg hgw hm3
                  go_upto_region 36 with fail
                  obtain ⟨Wa, hWa⟩ : ∃ Wa, wr.alloc (.cells #[.int .i64 x.a, .int .i64 x.b, .int .i64 x.c, .int .i64 x.d] 133) = Wa := ⟨_, rfl⟩
                  have ga : Below wr.heap.size wr Wa := by rw [← hWa]; exact one_more _ _
                  have b14 : Blk Wa wr.heap.size 133 #[.int .i64 x.a, .int .i64 x.b, .int .i64 x.c, .int .i64 x.d] := by rw [← hWa]; exact Blk.new _ _ _
                  have HMa := Lib.hid (HM3.out.ext ga)
                  have HB14 := Lib.hid b14
                  have hbs : bx + 1 + 1 + 1 + 1 < wr.heap.size := HM3.out.c.lt
                  obtain ⟨bb, hbb⟩ : ∃ b, wr.heap.size = b := ⟨_, rfl⟩
                  rw [hbb] at HB14 hbs ⊢
                  have HWa := Lib.hid hWa
                  clear ga b14 hWa hbb x0 x1 x2 x3 raw4
                  rw [HWa.out]
                  have y0 := HB14.out.cell 0
                  have y1 := HB14.out.cell 1
                  have y2 := HB14.out.cell 2
                  have y3 := HB14.out.cell 3
                  have hw1 : IntKind.i64.wrap (41 + (k3 : Int)) = 41 + (k3 : Int) := by rw [IntKind.wrap_i64]; omega
                  have hw2 : IntKind.i64.wrap (1 + x.a % 2) = 1 + x.a % 2 := by rw [IntKind.wrap_i64]; omega
                  have hw3 : IntKind.i64.wrap (20 + x.b % 90) = 20 + x.b % 90 := by rw [IntKind.wrap_i64]; omega
                  have HKP := Lib.hid (fun W (g : Below Wa.heap.size Wa W) => (⟨(HB14.out.ext g).cell 0, (HB14.out.ext g).cell 1, (HB14.out.ext g).cell 3⟩ : W.cell? ⟨bb, 0, none⟩ = some (.int .i64 x.a) ∧ W.cell? ⟨bb, 1, none⟩ = some (.int .i64 x.b) ∧ W.cell? ⟨bb, 3, none⟩ = some (.int .i64 x.d)))
                  go_cut [20] from 202 to 215 (fun s20 wx => ∃ b20, s20 = .pointer (some ⟨b20, 0, none⟩) ∧ Below Wa.heap.size Wa wx ∧ Wa.heap.size ≤ b20 ∧ Blk wx b20 107 #[.int .i64 (41 + (k3 : Int)), .int .i64 (1 + x.a % 2), .int .i64 (20 + x.b % 90), .int .i64 0, .int .i64 (x.d % 20), .int .i64 0])
                  case first =>
                    go_region_held3 (fun W => W.cell? ⟨bb, 0, none⟩ = some (.int .i64 x.a) ∧ W.cell? ⟨bb, 1, none⟩ = some (.int .i64 x.b) ∧ W.cell? ⟨bb, 3, none⟩ = some (.int .i64 x.d))
                      (first | exact HKP.out _ (by exact (Below.refl _ _).drew) | exact HKP.out _ (by exact (one_more _ _).drew))
                      ((go_at_call 17; (with_reducible refine (TM.out _ _ _ (by omega) (by omega)).mono ?_); rintro e w' ⟨rfl, rfl⟩))
                    all_goals (try go_wp2_with fail)
                    all_goals go_meet
                    all_goals exact ⟨_, rfl, (one_more _ _).drew, Nat.le_refl _, (Blk.new _ _ _).ext ((Below.refl _ _).drew)⟩
                  case rest =>
                    obtain ⟨b20, rfl, hg15, hb15, hB15⟩ := hcut
                    have HG15 := Lib.hid hg15
                    have HBb := Lib.hid (HB14.out.ext hg15)
                    have HB15 := Lib.hid hB15
                    have HB15L := Lib.hid hb15
                    have hbl5 := hB15.lt
                    clear y0 y1 y2 y3 hw1 hw2 hw3 hg15 hb15 hB15
                    obtain ⟨fr, hfr⟩ : ∃ h, 20 + x.b % 90 = h := ⟨_, rfl⟩
                    have HFR := Lib.hid hfr
                    rw [hfr] at HB15
                    have hf0 : 20 ≤ fr := by omega
                    have hf1 : fr < 110 := by omega
                    have ha0 : 0 ≤ x.c % 12 := by omega
                    have ha1 : x.c % 12 < 12 := by omega
                    have yc2 := HBb.out.cell 2
                    have qq2 := cellW (show wc.cell? ⟨bb, 2, none⟩ = some (.int .i64 x.c) from yc2)
                    have z2 := HB15.out.cell 2
                    have qq3 := cellW (show wc.cell? ⟨b20, 2, none⟩ = some (.int .i64 fr) from z2)
                    have z3 := HB15.out.cell 3
                    have zf3 := HB15.out.frozen 3
                    clear hfr
                    go_upto_region 37 with fail
                    refine wp_region_calm_tail wc 7 (by kernel_rfl) (by kernel_rfl) (Below.refl _ _) ?_
                    simp only [List.take_succ_cons, List.take_zero, List.drop_succ_cons, List.drop_zero]
                    repeat (go_big_quiet_step (first | (go_at_call 17; exact callsCalmSame (TM.out _ _ _ (by omega) (by omega)))))
                    refine wpQuiet_nil ?_
                    rintro _ ⟨zz, rfl⟩
                    clear yc2 qq2 qq3 z2 z3 zf3
                    have z3 := (HB15.out.ext zz.ok).cell 3
                    have zf3 := (HB15.out.ext zz.ok).frozen 3
                    go_upto_region 38 with fail
                    clear z3 zf3
                    obtain ⟨c3v, hc3v⟩ : ∃ v, fr + x.c % 12 = v := ⟨_, rfl⟩
                    obtain ⟨Z, hZ⟩ : ∃ Z, zz.val.setCell ⟨b20, 3, none⟩ (.int .i64 c3v) = Z := ⟨_, rfl⟩
                    have GZ := Lib.hid (show Below Wa.heap.size Wa Z by rw [← hZ]; exact (HG15.out.trans (zz.ok.mono HG15.out.size)).setCell (p := ⟨b20, 3, none⟩) HB15L.out _)
                    have HBZ := Lib.hid (show Blk Z b20 107 #[.int .i64 (41 + (k3 : Int)), .int .i64 (1 + x.a % 2), .int .i64 fr, .int .i64 c3v, .int .i64 (x.d % 20), .int .i64 0] by rw [← hZ]; exact (HB15.out.ext zz.ok).set_ 3 _)
                    rw [hc3v, hZ]
                    have HMK := Lib.hid (show mkSpell k3 x = ⟨41 + (k3 : Int), 1 + x.a % 2, fr, c3v, x.d % 20, 0⟩ by rw [← hc3v, ← HFR.out]; rfl)
                    have HMz := Lib.hid (HMa.out.ext GZ.out)
                    have p4 := HMz.out.p.cell 4
                    have t0 := HBZ.out.cell 0
                    have t1 := HBZ.out.cell 1
                    have t2 := HBZ.out.cell 2
                    have t3 := HBZ.out.cell 3
                    have t4 := HBZ.out.cell 4
                    have t5 := HBZ.out.cell 5
                    obtain ⟨A3v, c3c, hv3, -, -, -, -⟩ := OwnL.arr kdP HMz.out.o3
                    rw [HSL.out] at hv3
                    subst hv3
                    clear hZ hc3v ha0 ha1 hf0 hf1
                    have HIX := Lib.hid (show ∀ W, W = Z.alloc (.cells #[.int .i64 (41 + (k3 : Int)), .int .i64 (1 + x.a % 2), .int .i64 fr, .int .i64 c3v, .int .i64 (x.d % 20), .int .i64 0] 107) → Arr scells 6 W (some ⟨Z.heap.size, 0, none⟩) 1 [mkSpell k3 x] from fun W e => by subst e; rw [HMK.out]; exact Blk.arr1 (f := scells) (x := ⟨41 + (k3 : Int), 1 + x.a % 2, fr, c3v, x.d % 20, 0⟩) (Blk.new _ _ _))
                    have HMy := Lib.hid (fun o => HMz.out.ext (one_more Z o))
                    have HLENS := Lib.hid (show (madeSpellsK r k3).length + 1 ≤ 1000000 by rw [HSL.out]; omega)
                    have HBAS := Lib.hid (show ∀ o, bx + 1 + 1 + 1 + 1 + 1 ≤ (Z.alloc o).heap.size from fun o => by have := HMz.out.c.lt; have h2 : (Z.alloc o).heap.size = Z.heap.size + 1 := (by simp); omega)
                    go_wp2_with (at_builtin; go_loud (refine wpList_app kdP (by rfl) _ _ (by rfl) (bx + 1 + 1 + 1 + 1 + 1) _ (madeSpellsK r k3) (by rfl) (HMy.out _).o3 _ 1 1 [mkSpell k3 x] (by rfl) (HIX.out _ rfl) HLENS.out (HBAS.out _) ?_); intro v' w' ho hgr hz; obtain ⟨A6, c6, e6, -, -, -, -⟩ := OwnL.arr kdP ho; obtain ⟨m6, hm6⟩ : ∃ m6, (madeSpellsK r k3 ++ [mkSpell k3 x]).length = m6 := ⟨_, rfl⟩; rw [hm6] at e6; clear hm6; subst e6; have HMc := Lib.hid ((HMy.out _).turn3 hgr ho hz); have hpg := ((HMy.out _).p.grown hgr (fun e => by have := (own_lt HMz.out.o3 e).1; omega)); have f1 := hpg.frozen 4; have e1 := hpg.cell 4; clear ho hgr hz hpg)
                    go_roundw
                    case rel => exact ⟨k3 + 1, _, by go_num, by omega, by rw [HST.out]; exact HMc.out⟩
                    case measure => simp [intOf]; omega
                · have HKE3 := Lib.hid (show k3 = min n3 4 by omega)
                  have hd6 : ¬ (k3 < n3 ∧ k3 < 4) := by omega
                  go_upto_region 33 with fail
                  go_cut [194] from 186 to 194 (fun c wx => c = .bool false ∧ wx = wr)
                  case first =>
                    by_cases c1 : k3 < n3
                    · have e1 : decide ((k3 : Int) < (n3 : Int)) = true := decide_eq_true (by omega)
                      have e2 : decide ((k3 : Int) < 4) = false := decide_eq_false (by omega)
                      go_wp2_with fail
                      go_meet
                      exact ⟨rfl, rfl⟩
                    · have e1 : decide ((k3 : Int) < (n3 : Int)) = false := decide_eq_false (by omega)
                      go_wp2_with fail
                      go_meet
                      exact ⟨rfl, rfl⟩
                  case rest =>
                    obtain ⟨rfl, rfl⟩ := hcut
                    have HSPP := Lib.hid (show (madeP r right).spells = madeSpellsK r k3 by rw [HKE3.out, ← HL3.out]; rfl)
                    have HLO2 := Lib.hid (show (madeP r right).lo = lo from HLO.out)
                    have HHI2 := Lib.hid (show (madeP r right).hi = hi from HHI.out)
                    rw [← HSPP.out] at HM3
                    clear hd6 hkm3 hk3 raw4 hm3
                    obtain ⟨A2v, c2c, hv2, -, -, -, -⟩ := OwnL.arr kdS HM3.out.o2
                    obtain ⟨A3v, c3c, hv3, -, -, -, -⟩ := OwnL.arr kdP HM3.out.o3
                    obtain ⟨ms, hms⟩ : ∃ n, (madeP r right).stands.length = n := ⟨_, rfl⟩
                    obtain ⟨mp, hmp⟩ : ∃ n, (madeP r right).spells.length = n := ⟨_, rfl⟩
                    rw [hms] at hv2
                    rw [hmp] at hv3
                    subst hv2 hv3
                    clear hms hmp
                    have a0 := HM3.out.p.cell 0
                    have a1 := HM3.out.p.cell 1
                    have a2 := HM3.out.p.cell 2
                    have a3 := HM3.out.p.cell 3
                    have a4 := HM3.out.p.cell 4
                    have a5 := HM3.out.p.cell 5
                    have e0 := HM3.out.c.cell 0
                    have e1 := HM3.out.c.cell 1
                    go_upto_region 39 with fail
                    have qc0 := HM3.out.q4.cell 0
                    have qc1 := HM3.out.q4.cell 1
                    have qc2 := HM3.out.q4.cell 2
                    have qc3 := HM3.out.q4.cell 3
                    have qc4 := HM3.out.q4.cell 4
                    have qc5 := HM3.out.q4.cell 5
                    have qd0 := HM3.out.q5.cell 0
                    have qd1 := HM3.out.q5.cell 1
                    have z0 := HM3.out.q4.frozen 0
                    have z1 := HM3.out.q4.frozen 1
                    have z2 := HM3.out.q4.frozen 2
                    have z3 := HM3.out.q4.frozen 3
                    have z4 := HM3.out.q4.frozen 4
                    have z5 := HM3.out.q4.frozen 5
                    have z6' := HM3.out.q5.frozen 0
                    have z7 := HM3.out.q5.frozen 1
                    go_region
                    have HPL := Lib.hid (show plw (madeP r right) (.slice D1 nN d1) (.slice A2v ms c2c) (.slice A3v mp c3c) = #[.int .i64 lo, .int .i64 hi, .slice D1 nN d1, .slice A2v ms c2c, .slice A3v mp c3c, .int .i64 (r.geese % 4)] by
                      show #[Value.int .i64 (madeP r right).lo, Value.int .i64 (madeP r right).hi, _, _, _, Value.int .i64 (madeP r right).geese] = _
                      rw [HLO2.out, HHI2.out]; rfl)
                    have hf1 : bx + 1 < bx + 1 + 1 + 1 + 1 + 1 := by omega
                    have hf2 : bx + 1 + 1 < bx + 1 + 1 + 1 + 1 + 1 := by omega
                    have hf3 : bx ≤ bx + 1 := by omega
                    have hf4 : bx ≤ bx + 1 + 1 := by omega
                    have hf5 : bx + 1 ≠ bx + 1 + 1 := by omega
                    have HF1 := Lib.hid hf1
                    have HF2 := Lib.hid hf2
                    have HF3 := Lib.hid hf3
                    have HF4 := Lib.hid hf4
                    have HF5 := Lib.hid hf5
                    clear a0 a1 a2 a3 a4 a5 e0 e1 qc0 qc1 qc2 qc3 qc4 qc5 qd0 qd1 z0 z1 z2 z3 z4 z5 z6' z7 hf1 hf2 hf3 hf4 hf5
                    have hb9 := (((((((((HM3.out.q4.set_ 0 (.int .i64 lo)).set_ 1 (.int .i64 hi)).set_ 2 (.slice D1 nN d1)).set_ 3 (.slice A2v ms c2c)).set_ 4 (.slice A3v mp c3c)).set_ 5 (.int .i64 (r.geese % 4))).far (p := ⟨bx + 1 + 1, 0, none⟩) HF5.out (.int .i64 (r.sown % 200))).far (p := ⟨bx + 1 + 1, 1, none⟩) HF5.out (.slice Dn nN dn))).ext ((Below.refl _ _).drew)
                    have hb8 := ((((((((HM3.out.q5.far (p := ⟨bx + 1, 0, none⟩) (Ne.symm HF5.out) (.int .i64 lo)).far (p := ⟨bx + 1, 1, none⟩) (Ne.symm HF5.out) (.int .i64 hi)).far (p := ⟨bx + 1, 2, none⟩) (Ne.symm HF5.out) (.slice D1 nN d1)).far (p := ⟨bx + 1, 3, none⟩) (Ne.symm HF5.out) (.slice A2v ms c2c)).far (p := ⟨bx + 1, 4, none⟩) (Ne.symm HF5.out) (.slice A3v mp c3c)).far (p := ⟨bx + 1, 5, none⟩) (Ne.symm HF5.out) (.int .i64 (r.geese % 4))).set_ 0 (.int .i64 (r.sown % 200))).set_ 1 (.slice Dn nN dn)).ext ((Below.refl _ _).drew)
                    have GF := Lib.hid (((((((((HM3.out.g.setCell (p := ⟨bx + 1, 0, none⟩) HF3.out (.int .i64 lo)).setCell (p := ⟨bx + 1, 1, none⟩) HF3.out (.int .i64 hi)).setCell (p := ⟨bx + 1, 2, none⟩) HF3.out (.slice D1 nN d1)).setCell (p := ⟨bx + 1, 3, none⟩) HF3.out (.slice A2v ms c2c)).setCell (p := ⟨bx + 1, 4, none⟩) HF3.out (.slice A3v mp c3c)).setCell (p := ⟨bx + 1, 5, none⟩) HF3.out (.int .i64 (r.geese % 4))).setCell (p := ⟨bx + 1 + 1, 0, none⟩) HF4.out (.int .i64 (r.sown % 200))).setCell (p := ⟨bx + 1 + 1, 1, none⟩) HF4.out (.slice Dn nN dn)).drew)
                    have HFAN := Lib.hid ((((((((((HM3.out.on.far (p := ⟨bx + 1, 0, none⟩) HF1.out (.int .i64 lo)).far (p := ⟨bx + 1, 1, none⟩) HF1.out (.int .i64 hi)).far (p := ⟨bx + 1, 2, none⟩) HF1.out (.slice D1 nN d1)).far (p := ⟨bx + 1, 3, none⟩) HF1.out (.slice A2v ms c2c)).far (p := ⟨bx + 1, 4, none⟩) HF1.out (.slice A3v mp c3c)).far (p := ⟨bx + 1, 5, none⟩) HF1.out (.int .i64 (r.geese % 4))).far (p := ⟨bx + 1 + 1, 0, none⟩) HF2.out (.int .i64 (r.sown % 200))).far (p := ⟨bx + 1 + 1, 1, none⟩) HF2.out (.slice Dn nN dn)).ext ((Below.refl _ _).drew)).mono (show bx ≤ bx + 1 + 1 + 1 + 1 + 1 by omega))
                    have O1 := Lib.hid ((((((((((HM3.out.o1.far (p := ⟨bx + 1, 0, none⟩) HF1.out (.int .i64 lo)).far (p := ⟨bx + 1, 1, none⟩) HF1.out (.int .i64 hi)).far (p := ⟨bx + 1, 2, none⟩) HF1.out (.slice D1 nN d1)).far (p := ⟨bx + 1, 3, none⟩) HF1.out (.slice A2v ms c2c)).far (p := ⟨bx + 1, 4, none⟩) HF1.out (.slice A3v mp c3c)).far (p := ⟨bx + 1, 5, none⟩) HF1.out (.int .i64 (r.geese % 4))).far (p := ⟨bx + 1 + 1, 0, none⟩) HF2.out (.int .i64 (r.sown % 200))).far (p := ⟨bx + 1 + 1, 1, none⟩) HF2.out (.slice Dn nN dn)).ext ((Below.refl _ _).drew)).mono (show bx ≤ bx + 1 + 1 + 1 + 1 + 1 by omega))
                    have O2 := Lib.hid ((((((((((HM3.out.o2.far (p := ⟨bx + 1, 0, none⟩) HF1.out (.int .i64 lo)).far (p := ⟨bx + 1, 1, none⟩) HF1.out (.int .i64 hi)).far (p := ⟨bx + 1, 2, none⟩) HF1.out (.slice D1 nN d1)).far (p := ⟨bx + 1, 3, none⟩) HF1.out (.slice A2v ms c2c)).far (p := ⟨bx + 1, 4, none⟩) HF1.out (.slice A3v mp c3c)).far (p := ⟨bx + 1, 5, none⟩) HF1.out (.int .i64 (r.geese % 4))).far (p := ⟨bx + 1 + 1, 0, none⟩) HF2.out (.int .i64 (r.sown % 200))).far (p := ⟨bx + 1 + 1, 1, none⟩) HF2.out (.slice Dn nN dn)).ext ((Below.refl _ _).drew)).mono (show bx ≤ bx + 1 + 1 + 1 + 1 + 1 by omega))
                    have O3 := Lib.hid ((((((((((HM3.out.o3.far (p := ⟨bx + 1, 0, none⟩) HF1.out (.int .i64 lo)).far (p := ⟨bx + 1, 1, none⟩) HF1.out (.int .i64 hi)).far (p := ⟨bx + 1, 2, none⟩) HF1.out (.slice D1 nN d1)).far (p := ⟨bx + 1, 3, none⟩) HF1.out (.slice A2v ms c2c)).far (p := ⟨bx + 1, 4, none⟩) HF1.out (.slice A3v mp c3c)).far (p := ⟨bx + 1, 5, none⟩) HF1.out (.int .i64 (r.geese % 4))).far (p := ⟨bx + 1 + 1, 0, none⟩) HF2.out (.int .i64 (r.sown % 200))).far (p := ⟨bx + 1 + 1, 1, none⟩) HF2.out (.slice Dn nN dn)).ext ((Below.refl _ _).drew)).mono (show bx ≤ bx + 1 + 1 + 1 + 1 + 1 by omega))
                    obtain ⟨V, hV⟩ : ∃ V, ((((((((wc.setCell ⟨bx + 1, 0, none⟩ (.int .i64 lo)).setCell ⟨bx + 1, 1, none⟩ (.int .i64 hi)).setCell ⟨bx + 1, 2, none⟩ (.slice D1 nN d1)).setCell ⟨bx + 1, 3, none⟩ (.slice A2v ms c2c)).setCell ⟨bx + 1, 4, none⟩ (.slice A3v mp c3c)).setCell ⟨bx + 1, 5, none⟩ (.int .i64 (r.geese % 4))).setCell ⟨bx + 1 + 1, 0, none⟩ (.int .i64 (r.sown % 200))).setCell ⟨bx + 1 + 1, 1, none⟩ (.slice Dn nN dn)).drew = V := ⟨_, rfl⟩
                    rw [hV] at hb9 hb8 GF HFAN O1 O2 O3 ⊢
                    have t0 := hb9.cell 0
                    have t1 := hb9.cell 1
                    have t2 := hb9.cell 2
                    have t3 := hb9.cell 3
                    have t4 := hb9.cell 4
                    have t5 := hb9.cell 5
                    have u0 := hb8.cell 0
                    have u1 := hb8.cell 1
                    clear hb9 hb8 hV
                    go_wp2_with fail
                    rw [HBX.out]
                    refine bodyPost_ret (v := .tuple #[.agg #[.int .i64 lo, .int .i64 hi, .slice D1 nN d1, .slice A2v ms c2c, .slice A3v mp c3c, .int .i64 (r.geese % 4)], .agg #[.int .i64 (r.sown % 200), .slice Dn nN dn]]) ?_ rfl ⟨⟨_, _, _, _, by rw [HPL.out], O1.out, O2.out, O3.out, HFAN.out⟩, GF.out⟩
                    simp [results, Tryz.results15, go_sem, t0, t1, t2, t3, t4, t5, u0, u1]
end Go.Proofs.YtkoejeghihcmlaaGreat
