/- The plot's lists are valid; Check. The plot's stands are valid. -/
import Derived.Test.YtkoejeghihcmlaaGreatMA

/- The plot's lists are valid; Check. -/
namespace Go.Proofs.YtkoejeghihcmlaaGreat
open Go.RowKit Go.Shelf Go.Maps

theorem getD_six {l : List Six} {i : Nat} (hi : i < l.length) : l[i]? = some (l.getD i z6) := by rw [List.getD_eq_getElem?_getD, List.getElem?_eq_getElem hi]; rfl
theorem getD_six_of {l : List Six} {i : Nat} {x : Six} (h : l[i]? = some x) : l.getD i z6 = x := by rw [List.getD_eq_getElem?_getD, h]; rfl

/-- A map of the call's own: the sources that were seen. -/
def Seen (w : World) (b m : Nat) (ks : List Int) : Prop :=
  ∃ (n : Nat) (D : DataW Unit), n ≤ m ∧ w.ownsMap Tryz.prog 3 (plainElem Tryz.prog 4) b n D ∧ ∀ i : Int, 0 ≤ i → i ≤ 100000 → D.atKey (.int .i64 i) (.lit (.bool false)) = .lit (.bool (ks.contains i))
theorem lit_wf {i : Int} (h0 : 0 ≤ i) (h1 : i ≤ 100000) : (Lit.int .i64 i).wf = true := by
  have e1 : IntKind.i64.min = -9223372036854775808 := by decide
  have e2 : IntKind.i64.max = 9223372036854775807 := by decide
  show (decide (IntKind.i64.min ≤ i) && decide (i ≤ IntKind.i64.max)) = true
  rw [e1, e2]
  simp only [Bool.and_eq_true, decide_eq_true_eq]
  omega
set_option maxRecDepth 100000 in
theorem plain_bool {v : Value} {b : Bool} {ps : List MemPlace} (h : plainElem (H := Unit) Tryz.prog 4 v = some (.lit (.bool b), ps)) : v = .bool b := by
  unfold plainElem at h
  rw [Tryz.underlying4] at h
  cases v <;> simp at h
  rw [h.1]
theorem six_at {w : World} {A : Option Addr} {n : Nat} {xs : List Six} (h : Arr scells 6 w A n xs) {k : Nat} (hk : k < n) :
    ∃ b o, A = some ⟨b, o, none⟩ ∧ b < w.heap.size ∧ xs[k]? = some (xs.getD k z6) ∧ ∀ w', Below w.heap.size w w' → w'.cell? ⟨b, o + k * 6, none⟩ = some (.int .i64 (xs.getD k z6).a) ∧ w'.cell? ⟨b, o + k * 6 + 1, none⟩ = some (.int .i64 (xs.getD k z6).b) ∧
      w'.cell? ⟨b, o + k * 6 + 2, none⟩ = some (.int .i64 (xs.getD k z6).c) ∧ w'.cell? ⟨b, o + k * 6 + 3, none⟩ = some (.int .i64 (xs.getD k z6).d) ∧ w'.cell? ⟨b, o + k * 6 + 4, none⟩ = some (.int .i64 (xs.getD k z6).e) ∧ w'.cell? ⟨b, o + k * 6 + 5, none⟩ = some (.int .i64 (xs.getD k z6).f) := by
  obtain ⟨b, o, x, rfl, hb, hx, hc⟩ := h.at hk
  have e := getD_six_of hx
  rw [e]
  exact ⟨b, o, rfl, hb, hx, fun w' hw => ⟨hc w' hw 0 _ rfl, hc w' hw 1 _ rfl, hc w' hw 2 _ rfl, hc w' hw 3 _ rfl, hc w' hw 4 _ rfl, hc w' hw 5 _ rfl⟩⟩
theorem Seen.lt {w : World} {b m : Nat} {ks : List Int} (h : Seen w b m ks) : b < w.heap.size := by
  obtain ⟨n, D, -, h2, -⟩ := h
  exact h2.lt
theorem Seen.ne {w : World} {b m : Nat} {ks : List Int} (h : Seen w b m ks) {p : Addr} {v : Value} (hc : w.cell? p = some v) : p.block ≠ b := by
  obtain ⟨n, D, -, ⟨es, clock, hb, -⟩, -⟩ := h
  rintro rfl
  unfold World.cell? at hc
  simp [hb] at hc
theorem okAt_succ {is : Six → Bool} {ks : List Int} {l : List Six} {k : Nat} (h : ∀ j, j < k → okAt is ks l j = true) (hk : okAt is ks l k = true) : ∀ j, j < k + 1 → okAt is ks l j = true := by
  intro j hj
  by_cases e : j = k
  · subst e; exact hk
  · exact h j (by omega)
theorem okL_no {is : Six → Bool} {ks : List Int} {l : List Six} {k : Nat} (hk : k < l.length) (h : okAt is ks l k = false) : okL is ks l = false := by
  unfold okL
  rw [Bool.and_eq_false_iff]
  left
  rw [List.all_eq_false]
  exact ⟨k, List.mem_range.2 hk, by rw [h]; decide⟩
theorem okL_yes {is : Six → Bool} {ks : List Int} {l : List Six} (h : ∀ j, j < l.length → okAt is ks l j = true) : okL is ks l = decide (l.length ≤ 60) := by
  unfold okL
  rw [List.all_eq_true.2 (fun j hj => h j (List.mem_range.1 hj)), Bool.true_and]
theorem srcs_take {l : List Six} {k : Nat} {x : Six} (hx : l[k]? = some x) : srcs (l.take (k + 1)) = srcs (l.take k) ++ [x.a] := by
  unfold srcs
  rw [List.take_add_one, hx]
  simp
theorem Seen.ext {w w' : World} {b m : Nat} {ks : List Int} (h : Seen w b m ks) (g : Below w.heap.size w w') : Seen w' b m ks := by
  obtain ⟨n, D, h1, h2, h3⟩ := h
  exact ⟨n, D, h1, h2.kept (row := none) ⟨g.os, g.tape, g.output, g.size, fun k hk _ => g.block k hk⟩ (by simp), h3⟩
theorem Seen.look {w : World} {b m : Nat} {ks : List Int} (h : Seen w b m ks) {i : Int} (h0 : 0 ≤ i) (h1 : i ≤ 100000) :
    (Instr.lookup 213 (.map (some b)) (.int .i64 i) false).run Tryz.prog w = .ok (.bool (ks.contains i)) w := by
  obtain ⟨n, D, -, h2, h3⟩ := h
  obtain ⟨v, ps, hrun, hv⟩ := h2.lookup (int_keyed Tryz.underlying3) Tryz.underlying213 (Tryz.zeroValue4 _) (plainElem_bool Tryz.underlying4 false) (keyOf_int_mk Tryz.underlying3 (lit_wf h0 h1))
  rw [h3 i h0 h1] at hv
  rw [plain_bool hv] at hrun
  exact hrun
theorem Seen.put {w' : World} {b m n : Nat} {ks : List Int} {D : DataW Unit} {i : Int} (h0 : 0 ≤ i) (h1 : i ≤ 100000) (hn : n ≤ m) (hm : IsMap D) (h3 : ∀ i : Int, 0 ≤ i → i ≤ 100000 → D.atKey (.int .i64 i) (.lit (.bool false)) = .lit (.bool (ks.contains i)))
    (h : w'.ownsMap Tryz.prog 3 (plainElem Tryz.prog 4) b (n + 1) (D.put (.int .i64 i) (.lit (.bool true)))) : Seen w' b (m + 1) (ks ++ [i]) := by
  refine ⟨n + 1, _, by omega, h, fun j hj0 hj1 => ?_⟩
  by_cases e : j = i
  · subst e
    rw [atKey_put_same hm (by unfold WideAt.IsKeyLit; trivial)]
    simp
  · rw [atKey_put_other (by intro e2; cases e2; exact e rfl), h3 j hj0 hj1]
    rw [show (ks ++ [i]).contains j = ks.contains j by rw [Bool.eq_iff_iff]; simp [e]]

theorem load_src {x : Six} (h : isLoad x = true) : 1 ≤ x.a ∧ x.a ≤ 99999 := by
  unfold isLoad rng at h
  simp only [Bool.and_eq_true, decide_eq_true_eq] at h
  omega
theorem spell_src {x : Six} (h : isSpell x = true) : 1 ≤ x.a ∧ x.a ≤ 99999 := by
  unfold isSpell rng at h
  simp only [Bool.and_eq_true, decide_eq_true_eq] at h
  omega
theorem okAt_parts {is : Six → Bool} {ks : List Int} {l : List Six} {j : Nat} (h : okAt is ks l j = true) : is (l.getD j z6) = true ∧ (j = 0 ∨ (l.getD (j - 1) z6).a < (l.getD j z6).a) ∧ (l.getD j z6).a ∉ ks ++ srcs (l.take j) := by
  unfold okAt at h
  simp only [Bool.and_eq_true, Bool.or_eq_true, decide_eq_true_eq, Bool.not_eq_true'] at h
  refine ⟨h.1.1, h.1.2, fun hm => ?_⟩
  have := List.contains_iff_mem.2 hm
  rw [this] at h
  simp at h
theorem okAt_ge {is : Six → Bool} (hs : ∀ x, is x = true → 1 ≤ x.a ∧ x.a ≤ 99999) {ks : List Int} {l : List Six} {k : Nat} (h : ∀ j, j < k → okAt is ks l j = true) : ∀ j, j < k → (j : Int) + 1 ≤ (l.getD j z6).a
  | 0, hj => by have := hs _ (okAt_parts (h 0 hj)).1; omega
  | j + 1, hj => by
    have ih := okAt_ge hs h j (by omega)
    rcases (okAt_parts (h (j + 1) hj)).2.1 with e | e
    · omega
    · rw [Nat.add_sub_cancel] at e
      omega
theorem okAt_bound {is : Six → Bool} (hs : ∀ x, is x = true → 1 ≤ x.a ∧ x.a ≤ 99999) {ks : List Int} {l : List Six} {k : Nat} (h : ∀ j, j < k → okAt is ks l j = true) : k ≤ 99999 := by
  rcases Nat.eq_zero_or_pos k with e | e
  · omega
  · have h1 := okAt_ge hs h (k - 1) (by omega)
    have h2 := hs _ (okAt_parts (h (k - 1) (by omega))).1
    omega
theorem fix_turn {w w' : World} {b : Nat} (h : w.grownBy w' (some b)) : Fix b b w w' := ⟨h.os, h.tape, h.output, h.size, fun k hk h1 _ => h.block k hk (by intro e; cases e; exact h1 rfl)⟩

set_option maxRecDepth 100000 in
set_option maxHeartbeats 8000000 in
theorem valid138_any (A : Option Addr) (n c b m : Nat) (ks : List Int) (l : List Six) (w : World) (ha : Arr scells 6 w A n l) (hn : n ≤ 9223372036854775807) (hm : m ≤ 1000000) (hs : Seen w b m ks) :
    Calls Tryz.prog 138 #[.slice A n c, .func (.func 67) #[] #[], .func (.func 139) #[] #[], .map (some b)] w fun e w' => e = .returned (.bool (okL isLoad ks l)) ∧ Fix b b w w' ∧ (okL isLoad ks l = true → Seen w' b (m + n) (ks ++ srcs l)) := by
  have HA := Lib.hid ha
  have hlen := Lib.hid ha.1
  have HS := Lib.hid hs
  have hbw := hs.lt
  have hdj : ∀ b' o', A = some ⟨b', o', none⟩ → 0 < n → b' ≠ b := fun b' o' e hn => by
    obtain ⟨b2, o2, e2, -, hc⟩ := ha.2 hn
    rw [e] at e2
    cases e2
    have hx : l[0]? = some (l.getD 0 z6) := getD_six (by rw [ha.1]; exact hn)
    have h := hc 0 _ hx 0 _ rfl
    exact hs.ne h
  have HDJ := Lib.hid hdj
  clear ha hs hdj
  go_enter Tryz.func138, Tryz.ntmps138
  go_wp2_with fail
  go_loopw [13] (fun i wr => ∃ k : Nat, k ≤ n ∧ i = .int .i64 k ∧ Fix b b w wr ∧ Seen wr b (m + k) (ks ++ srcs (l.take k)) ∧ ∀ j, j < k → okAt isLoad ks l j = true) (fun i _ => n - (intOf i).toNat)
  case atStart => exact ⟨0, Nat.zero_le _, rfl, Fix.refl _ _ _, by simpa [srcs] using HS.out, fun j hj => absurd hj (by omega)⟩
  case round =>
    obtain ⟨k, hk, rfl, hf, hse, hok⟩ := hrel
    obtain ⟨V, rfl⟩ : ∃ V : World, V = wr := ⟨_, rfl⟩
    have HF := Lib.hid hf
    have HSE := Lib.hid hse
    have HOK := Lib.hid hok
    have hkb := okAt_bound (fun x h => load_src h) hok
    have HAV := Lib.hid (HA.out.fix hf (fun b' o' e h0 => ⟨HDJ.out b' o' e h0, HDJ.out b' o' e h0⟩))
    clear hf hse hok
    by_cases hkn : k < n
    · obtain ⟨b0, o0, e0, hb0, hx, hc⟩ := six_at HAV.out hkn
      obtain ⟨x, hxg⟩ : ∃ x, l.getD k z6 = x := ⟨_, rfl⟩
      rw [hxg] at hx hc
      obtain ⟨x0, x1, x2, x3, x4, x5⟩ := hc V (Below.refl _ _)
      have HX := Lib.hid hx
      have HXG := Lib.hid hxg
      have HE0 := Lib.hid e0
      have hsb := HDJ.out b0 o0 e0 (by omega)
      subst e0
      clear hc hx hxg
      go_upto_region 4 with fail
      obtain ⟨V1, hV1⟩ : ∃ V1, V.alloc (.cells #[.int .i64 x.a, .int .i64 x.b, .int .i64 x.c, .int .i64 x.d, .int .i64 x.e, .int .i64 x.f] 103) = V1 := ⟨_, rfl⟩
      have g1 : Below V.heap.size V V1 := by rw [← hV1]; exact one_more _ _
      have b1 : Blk V1 V.heap.size 103 #[.int .i64 x.a, .int .i64 x.b, .int .i64 x.c, .int .i64 x.d, .int .i64 x.e, .int .i64 x.f] := by rw [← hV1]; exact Blk.new _ _ _
      rw [hV1]
      have HS1 := Lib.hid (HSE.out.ext g1)
      have hVs := HF.out.size
      have F1 := Lib.hid (HF.out.trans (Fix.of_below g1))
      have HB1 := Lib.hid b1
      have w0 := cellW (b1.cell 0)
      have w1 := cellW (b1.cell 1)
      have w2 := cellW (b1.cell 2)
      have w3 := cellW (b1.cell 3)
      have w4 := cellW (b1.cell 4)
      have w5 := cellW (b1.cell 5)
      obtain ⟨y, hy⟩ : ∃ y, l.getD (k - 1) z6 = y := ⟨_, rfl⟩
      have HY := Lib.hid (fun (h0 : 0 < k) (z : Wd V1) => (show z.val.cell? ⟨b0, o0 + (k - 1) * 6, none⟩ = some (.int .i64 y.a) ∧ z.val.cell? ⟨b0, o0 + (k - 1) * 6 + 1, none⟩ = some (.int .i64 y.b) ∧ z.val.cell? ⟨b0, o0 + (k - 1) * 6 + 2, none⟩ = some (.int .i64 y.c) ∧ z.val.cell? ⟨b0, o0 + (k - 1) * 6 + 3, none⟩ = some (.int .i64 y.d) ∧ z.val.cell? ⟨b0, o0 + (k - 1) * 6 + 4, none⟩ = some (.int .i64 y.e) ∧ z.val.cell? ⟨b0, o0 + (k - 1) * 6 + 5, none⟩ = some (.int .i64 y.f) from by
        obtain ⟨b2, o2, e2, -, -, hc2⟩ := six_at HAV.out (show k - 1 < n by omega)
        cases e2
        rw [hy] at hc2
        exact hc2 z.val (g1.trans (z.ok.mono g1.size))))
      clear hV1 x0 x1 x2 x3 x4 x5 g1 b1
      obtain ⟨iv, hiv⟩ : ∃ iv, isLoad x = iv := ⟨_, rfl⟩
      have TCK := fun W => checkLoad_any x W
      rw [hiv] at TCK
      cases iv with
      | false =>
        rw [show err false 10 = 10 from rfl] at TCK
        have HCK := Lib.hid TCK
        have HNO := Lib.hid (okL_no (is := isLoad) (ks := ks) (l := l) (k := k) (by rw [hlen.out]; exact hkn) (by unfold okAt; rw [HXG.out, hiv]; rfl))
        clear TCK hiv hy
        go_wp2_with fail
        refine wp_region_calm V1 (by kernel_rfl) (by kernel_rfl) (Below.refl _ _) ?_
        repeat (go_big_quiet_step (first | (go_at_call 67; exact callsCalm (HCK.out _)) | (go_at_call 139; exact callsCalm (loadSource_any y _)) | (go_at_call 139; exact callsCalm (loadSource_any x _))))
        refine wpQuiet_nil ?_
        rintro _ ⟨z, rfl⟩
        go_wp2_with fail
        go_ret
        exact ⟨ret_bool HNO.out.symm, F1.out.trans (Fix.of_below z.ok), fun h => by rw [HNO.out] at h; cases h⟩
      | true =>
        rw [show err true 10 = 0 from rfl] at TCK
        have HCK := Lib.hid TCK
        have hxa : 1 ≤ x.a ∧ x.a ≤ 99999 := by
          unfold isLoad rng at hiv
          simp only [Bool.and_eq_true, decide_eq_true_eq] at hiv
          omega
        have hlk : ∀ z : Wd V1, (Instr.lookup 213 (.map (some b)) (.int .i64 x.a) false).run Tryz.prog z.val = .ok (.bool ((ks ++ srcs (l.take k)).contains x.a)) z.val := fun z => (HS1.out.ext z.ok).look (by omega) (by omega)
        obtain ⟨sn, hsn⟩ : ∃ sn, (ks ++ srcs (l.take k)).contains x.a = sn := ⟨_, rfl⟩
        rw [hsn] at hlk
        by_cases hk0 : k = 0
        · have e1 : decide ((0 : Int) < (k : Int)) = false := decide_eq_false (by omega)
          have e2 : decide (0 < k) = false := decide_eq_false (by omega)
          cases sn with
          | true =>
            have HNO := Lib.hid (okL_no (is := isLoad) (ks := ks) (l := l) (k := k) (by rw [hlen.out]; exact hkn) (by unfold okAt; rw [HXG.out, hiv, hsn]; simp))
            clear TCK hiv hy hsn hk0
            go_wp2_with fail
            refine wp_region_calm V1 (by kernel_rfl) (by kernel_rfl) (Below.refl _ _) ?_
            repeat (go_big_quiet_step (first | (go_at_call 67; exact callsCalm (HCK.out _)) | (go_at_call 139; exact callsCalm (loadSource_any y _)) | (go_at_call 139; exact callsCalm (loadSource_any x _))))
            refine wpQuiet_nil ?_
            rintro _ ⟨z, rfl⟩
            go_wp2_with fail
            go_ret
            exact ⟨ret_bool HNO.out.symm, F1.out.trans (Fix.of_below z.ok), fun h => by rw [HNO.out] at h; cases h⟩
          | false =>
            have HAT := Lib.hid (show okAt isLoad ks l k = true by unfold okAt; rw [HXG.out, hiv, hsn, decide_eq_true hk0]; rfl)
            clear TCK hiv hy hsn hk0
            go_wp2_with fail
            refine wp_region_calm V1 (by kernel_rfl) (by kernel_rfl) (Below.refl _ _) ?_
            repeat (go_big_quiet_step (first | (go_at_call 67; exact callsCalm (HCK.out _)) | (go_at_call 139; exact callsCalm (loadSource_any y _)) | (go_at_call 139; exact callsCalm (loadSource_any x _))))
            refine wpQuiet_nil ?_
            rintro _ ⟨z, rfl⟩
            have HSZ := Lib.hid (HS1.out.ext z.ok)
            have FZ := Lib.hid (F1.out.trans (Fix.of_below z.ok))
            obtain ⟨Vz, hVz⟩ : ∃ Vz, z.val = Vz := ⟨_, rfl⟩
            have u0 := w0 z
            have u1 := w1 z
            have u2 := w2 z
            have u3 := w3 z
            have u4 := w4 z
            have u5 := w5 z
            rw [hVz] at HSZ FZ u0 u1 u2 u3 u4 u5 ⊢
            clear hVz z w0 w1 w2 w3 w4 w5 hlk
            go_wp2_with (first | (go_at_call 139; (with_reducible refine (loadSource_any x _).mono ?_); rintro e Vy ⟨rfl, gy⟩; have HSY := Lib.hid (HSZ.out.ext gy); have FY := Lib.hid (FZ.out.trans (Fix.of_below gy)); obtain ⟨nn, D, hD1, hD2, hD3⟩ := HSY.out; have HD3 := Lib.hid hD3; have HD2 := Lib.hid hD2; clear gy hD2 hD3) | (at_mapUpdate; refine wpList_mapUpdate_own _ rfl _ _ _ 213 rfl 3 4 (int_keyed Tryz.underlying3) Tryz.underlying213 _ b nn D rfl HD2.out (by unfold maxLen; omega) _ _ (.int .i64 x.a) rfl rfl (keyOf_int_mk Tryz.underlying3 (lit_wf (by omega) (by omega))) (.lit (.bool true)) [] (plainElem_bool Tryz.underlying4 true) ?_; intro Vu hown1 hgrow1; have HSU := Lib.hid (Seen.put (by omega) (by omega) hD1 HD2.out.isMap HD3.out hown1); have FU := Lib.hid (FY.out.trans (fix_turn hgrow1)); clear hown1 hgrow1))
            go_roundw
            case rel => exact ⟨k + 1, by omega, by go_num, FU.out, by rw [srcs_take HX.out, ← List.append_assoc]; exact HSU.out, okAt_succ HOK.out HAT.out⟩
            case measure => simp [intOf]; omega
        · obtain ⟨k', rfl⟩ : ∃ k', k = k' + 1 := ⟨k - 1, by omega⟩
          have e1 : decide ((0 : Int) < ((k' + 1 : Nat) : Int)) = true := decide_eq_true (by omega)
          have e2 : decide (0 < k' + 1) = true := decide_eq_true (by omega)
          have y0 := fun z => (HY.out (by omega) z).1
          have y1 := fun z => (HY.out (by omega) z).2.1
          have y2 := fun z => (HY.out (by omega) z).2.2.1
          have y3 := fun z => (HY.out (by omega) z).2.2.2.1
          have y4 := fun z => (HY.out (by omega) z).2.2.2.2.1
          have y5 := fun z => (HY.out (by omega) z).2.2.2.2.2
          rw [Nat.add_sub_cancel] at y0 y1 y2 y3 y4 y5 hy
          by_cases hr : y.a < x.a
          · have e3 : decide (x.a ≤ y.a) = false := decide_eq_false (by omega)
            cases sn with
            | true =>
              have HNO := Lib.hid (okL_no (is := isLoad) (ks := ks) (l := l) (k := k' + 1) (by rw [hlen.out]; exact hkn) (by unfold okAt; rw [HXG.out, hiv, hsn]; simp))
              clear TCK hiv hy hsn hk0 HY hr
              go_wp2_with fail
              refine wp_region_calm V1 (by kernel_rfl) (by kernel_rfl) (Below.refl _ _) ?_
              repeat (go_big_quiet_step (first | (go_at_call 67; exact callsCalm (HCK.out _)) | (go_at_call 139; exact callsCalm (loadSource_any y _)) | (go_at_call 139; exact callsCalm (loadSource_any x _))))
              refine wpQuiet_nil ?_
              rintro _ ⟨z, rfl⟩
              go_wp2_with fail
              go_ret
              exact ⟨ret_bool HNO.out.symm, F1.out.trans (Fix.of_below z.ok), fun h => by rw [HNO.out] at h; cases h⟩
            | false =>
              have HAT := Lib.hid (show okAt isLoad ks l (k' + 1) = true by unfold okAt; rw [HXG.out, hiv, hsn, Nat.add_sub_cancel, hy, decide_eq_true hr]; simp)
              clear TCK hiv hy hsn hk0 HY hr
              go_wp2_with fail
              refine wp_region_calm V1 (by kernel_rfl) (by kernel_rfl) (Below.refl _ _) ?_
              repeat (go_big_quiet_step (first | (go_at_call 67; exact callsCalm (HCK.out _)) | (go_at_call 139; exact callsCalm (loadSource_any y _)) | (go_at_call 139; exact callsCalm (loadSource_any x _))))
              refine wpQuiet_nil ?_
              rintro _ ⟨z, rfl⟩
              have HSZ := Lib.hid (HS1.out.ext z.ok)
              have FZ := Lib.hid (F1.out.trans (Fix.of_below z.ok))
              obtain ⟨Vz, hVz⟩ : ∃ Vz, z.val = Vz := ⟨_, rfl⟩
              have u0 := w0 z
              have u1 := w1 z
              have u2 := w2 z
              have u3 := w3 z
              have u4 := w4 z
              have u5 := w5 z
              rw [hVz] at HSZ FZ u0 u1 u2 u3 u4 u5 ⊢
              clear hVz z w0 w1 w2 w3 w4 w5 hlk
              go_wp2_with (first | (go_at_call 139; (with_reducible refine (loadSource_any x _).mono ?_); rintro e Vy ⟨rfl, gy⟩; have HSY := Lib.hid (HSZ.out.ext gy); have FY := Lib.hid (FZ.out.trans (Fix.of_below gy)); obtain ⟨nn, D, hD1, hD2, hD3⟩ := HSY.out; have HD3 := Lib.hid hD3; have HD2 := Lib.hid hD2; clear gy hD2 hD3) | (at_mapUpdate; refine wpList_mapUpdate_own _ rfl _ _ _ 213 rfl 3 4 (int_keyed Tryz.underlying3) Tryz.underlying213 _ b nn D rfl HD2.out (by unfold maxLen; omega) _ _ (.int .i64 x.a) rfl rfl (keyOf_int_mk Tryz.underlying3 (lit_wf (by omega) (by omega))) (.lit (.bool true)) [] (plainElem_bool Tryz.underlying4 true) ?_; intro Vu hown1 hgrow1; have HSU := Lib.hid (Seen.put (by omega) (by omega) hD1 HD2.out.isMap HD3.out hown1); have FU := Lib.hid (FY.out.trans (fix_turn hgrow1)); clear hown1 hgrow1))
              go_roundw
              case rel => exact ⟨k' + 1 + 1, by omega, by go_num, FU.out, by rw [srcs_take HX.out, ← List.append_assoc]; exact HSU.out, okAt_succ HOK.out HAT.out⟩
              case measure => simp [intOf]; omega
          · have e3 : decide (x.a ≤ y.a) = true := decide_eq_true (by omega)
            have HNO := Lib.hid (okL_no (is := isLoad) (ks := ks) (l := l) (k := k' + 1) (by rw [hlen.out]; exact hkn) (by unfold okAt; rw [HXG.out, hiv, Nat.add_sub_cancel, hy, decide_eq_false hr]; simp))
            clear TCK hiv hy hsn hk0 HY hr
            go_wp2_with fail
            refine wp_region_calm V1 (by kernel_rfl) (by kernel_rfl) (Below.refl _ _) ?_
            repeat (go_big_quiet_step (first | (go_at_call 67; exact callsCalm (HCK.out _)) | (go_at_call 139; exact callsCalm (loadSource_any y _)) | (go_at_call 139; exact callsCalm (loadSource_any x _))))
            refine wpQuiet_nil ?_
            rintro _ ⟨z, rfl⟩
            go_wp2_with fail
            go_ret
            exact ⟨ret_bool HNO.out.symm, F1.out.trans (Fix.of_below z.ok), fun h => by rw [HNO.out] at h; cases h⟩
    · obtain rfl : n = k := by omega
      have HE := Lib.hid (okL_yes (is := isLoad) (ks := ks) (l := l) (by rw [hlen.out]; exact HOK.out))
      rw [hlen.out] at HE
      have HTK := Lib.hid (show l.take n = l from List.take_of_length_le (by rw [hlen.out]; exact Nat.le_refl _))
      go_wp2_with fail
      go_ret
      refine ⟨ret_bool (by rw [HE.out]; exact decide_eq_decide.2 (by omega)), HF.out, fun _ => ?_⟩
      have := HSE.out
      rw [HTK.out] at this
      exact this
end Go.Proofs.YtkoejeghihcmlaaGreat

/- The plot's stands are valid. -/
namespace Go.Proofs.YtkoejeghihcmlaaGreat
open Go.RowKit Go.Shelf Go.Maps

set_option maxRecDepth 100000 in
set_option maxHeartbeats 8000000 in
theorem valid140_any (A : Option Addr) (n c b m : Nat) (ks : List Int) (l : List Six) (w : World) (ha : Arr scells 6 w A n l) (hn : n ≤ 9223372036854775807) (hm : m ≤ 1000000) (hs : Seen w b m ks) :
    Calls Tryz.prog 140 #[.slice A n c, .func (.func 69) #[] #[], .func (.func 141) #[] #[], .map (some b)] w fun e w' => e = .returned (.bool (okL isLoad ks l)) ∧ Fix b b w w' ∧ (okL isLoad ks l = true → Seen w' b (m + n) (ks ++ srcs l)) := by
  have HA := Lib.hid ha
  have hlen := Lib.hid ha.1
  have HS := Lib.hid hs
  have hbw := hs.lt
  have hdj : ∀ b' o', A = some ⟨b', o', none⟩ → 0 < n → b' ≠ b := fun b' o' e hn => by
    obtain ⟨b2, o2, e2, -, hc⟩ := ha.2 hn
    rw [e] at e2
    cases e2
    have hx : l[0]? = some (l.getD 0 z6) := getD_six (by rw [ha.1]; exact hn)
    have h := hc 0 _ hx 0 _ rfl
    exact hs.ne h
  have HDJ := Lib.hid hdj
  clear ha hs hdj
  go_enter Tryz.func140, Tryz.ntmps140
  go_wp2_with fail
  go_loopw [13] (fun i wr => ∃ k : Nat, k ≤ n ∧ i = .int .i64 k ∧ Fix b b w wr ∧ Seen wr b (m + k) (ks ++ srcs (l.take k)) ∧ ∀ j, j < k → okAt isLoad ks l j = true) (fun i _ => n - (intOf i).toNat)
  case atStart => exact ⟨0, Nat.zero_le _, rfl, Fix.refl _ _ _, by simpa [srcs] using HS.out, fun j hj => absurd hj (by omega)⟩
  case round =>
    obtain ⟨k, hk, rfl, hf, hse, hok⟩ := hrel
    obtain ⟨V, rfl⟩ : ∃ V : World, V = wr := ⟨_, rfl⟩
    have HF := Lib.hid hf
    have HSE := Lib.hid hse
    have HOK := Lib.hid hok
    have hkb := okAt_bound (fun x h => load_src h) hok
    have HAV := Lib.hid (HA.out.fix hf (fun b' o' e h0 => ⟨HDJ.out b' o' e h0, HDJ.out b' o' e h0⟩))
    clear hf hse hok
    by_cases hkn : k < n
    · obtain ⟨b0, o0, e0, hb0, hx, hc⟩ := six_at HAV.out hkn
      obtain ⟨x, hxg⟩ : ∃ x, l.getD k z6 = x := ⟨_, rfl⟩
      rw [hxg] at hx hc
      obtain ⟨x0, x1, x2, x3, x4, x5⟩ := hc V (Below.refl _ _)
      have HX := Lib.hid hx
      have HXG := Lib.hid hxg
      have HE0 := Lib.hid e0
      have hsb := HDJ.out b0 o0 e0 (by omega)
      subst e0
      clear hc hx hxg
      go_upto_region 4 with fail
      obtain ⟨V1, hV1⟩ : ∃ V1, V.alloc (.cells #[.int .i64 x.a, .int .i64 x.b, .int .i64 x.c, .int .i64 x.d, .int .i64 x.e, .int .i64 x.f] 105) = V1 := ⟨_, rfl⟩
      have g1 : Below V.heap.size V V1 := by rw [← hV1]; exact one_more _ _
      have b1 : Blk V1 V.heap.size 105 #[.int .i64 x.a, .int .i64 x.b, .int .i64 x.c, .int .i64 x.d, .int .i64 x.e, .int .i64 x.f] := by rw [← hV1]; exact Blk.new _ _ _
      rw [hV1]
      have HS1 := Lib.hid (HSE.out.ext g1)
      have hVs := HF.out.size
      have F1 := Lib.hid (HF.out.trans (Fix.of_below g1))
      have HB1 := Lib.hid b1
      have w0 := cellW (b1.cell 0)
      have w1 := cellW (b1.cell 1)
      have w2 := cellW (b1.cell 2)
      have w3 := cellW (b1.cell 3)
      have w4 := cellW (b1.cell 4)
      have w5 := cellW (b1.cell 5)
      obtain ⟨y, hy⟩ : ∃ y, l.getD (k - 1) z6 = y := ⟨_, rfl⟩
      have HY := Lib.hid (fun (h0 : 0 < k) (z : Wd V1) => (show z.val.cell? ⟨b0, o0 + (k - 1) * 6, none⟩ = some (.int .i64 y.a) ∧ z.val.cell? ⟨b0, o0 + (k - 1) * 6 + 1, none⟩ = some (.int .i64 y.b) ∧ z.val.cell? ⟨b0, o0 + (k - 1) * 6 + 2, none⟩ = some (.int .i64 y.c) ∧ z.val.cell? ⟨b0, o0 + (k - 1) * 6 + 3, none⟩ = some (.int .i64 y.d) ∧ z.val.cell? ⟨b0, o0 + (k - 1) * 6 + 4, none⟩ = some (.int .i64 y.e) ∧ z.val.cell? ⟨b0, o0 + (k - 1) * 6 + 5, none⟩ = some (.int .i64 y.f) from by
        obtain ⟨b2, o2, e2, -, -, hc2⟩ := six_at HAV.out (show k - 1 < n by omega)
        cases e2
        rw [hy] at hc2
        exact hc2 z.val (g1.trans (z.ok.mono g1.size))))
      clear hV1 x0 x1 x2 x3 x4 x5 g1 b1
      obtain ⟨iv, hiv⟩ : ∃ iv, isLoad x = iv := ⟨_, rfl⟩
      have TCK := fun W => checkStand_any x W
      rw [hiv] at TCK
      cases iv with
      | false =>
        rw [show err false 11 = 11 from rfl] at TCK
        have HCK := Lib.hid TCK
        have HNO := Lib.hid (okL_no (is := isLoad) (ks := ks) (l := l) (k := k) (by rw [hlen.out]; exact hkn) (by unfold okAt; rw [HXG.out, hiv]; rfl))
        clear TCK hiv hy
        go_wp2_with fail
        refine wp_region_calm V1 (by kernel_rfl) (by kernel_rfl) (Below.refl _ _) ?_
        repeat (go_big_quiet_step (first | (go_at_call 69; exact callsCalm (HCK.out _)) | (go_at_call 141; exact callsCalm (standSource_any y _)) | (go_at_call 141; exact callsCalm (standSource_any x _))))
        refine wpQuiet_nil ?_
        rintro _ ⟨z, rfl⟩
        go_wp2_with fail
        go_ret
        exact ⟨ret_bool HNO.out.symm, F1.out.trans (Fix.of_below z.ok), fun h => by rw [HNO.out] at h; cases h⟩
      | true =>
        rw [show err true 11 = 0 from rfl] at TCK
        have HCK := Lib.hid TCK
        have hxa : 1 ≤ x.a ∧ x.a ≤ 99999 := by
          unfold isLoad rng at hiv
          simp only [Bool.and_eq_true, decide_eq_true_eq] at hiv
          omega
        have hlk : ∀ z : Wd V1, (Instr.lookup 213 (.map (some b)) (.int .i64 x.a) false).run Tryz.prog z.val = .ok (.bool ((ks ++ srcs (l.take k)).contains x.a)) z.val := fun z => (HS1.out.ext z.ok).look (by omega) (by omega)
        obtain ⟨sn, hsn⟩ : ∃ sn, (ks ++ srcs (l.take k)).contains x.a = sn := ⟨_, rfl⟩
        rw [hsn] at hlk
        by_cases hk0 : k = 0
        · have e1 : decide ((0 : Int) < (k : Int)) = false := decide_eq_false (by omega)
          have e2 : decide (0 < k) = false := decide_eq_false (by omega)
          cases sn with
          | true =>
            have HNO := Lib.hid (okL_no (is := isLoad) (ks := ks) (l := l) (k := k) (by rw [hlen.out]; exact hkn) (by unfold okAt; rw [HXG.out, hiv, hsn]; simp))
            clear TCK hiv hy hsn hk0
            go_wp2_with fail
            refine wp_region_calm V1 (by kernel_rfl) (by kernel_rfl) (Below.refl _ _) ?_
            repeat (go_big_quiet_step (first | (go_at_call 69; exact callsCalm (HCK.out _)) | (go_at_call 141; exact callsCalm (standSource_any y _)) | (go_at_call 141; exact callsCalm (standSource_any x _))))
            refine wpQuiet_nil ?_
            rintro _ ⟨z, rfl⟩
            go_wp2_with fail
            go_ret
            exact ⟨ret_bool HNO.out.symm, F1.out.trans (Fix.of_below z.ok), fun h => by rw [HNO.out] at h; cases h⟩
          | false =>
            have HAT := Lib.hid (show okAt isLoad ks l k = true by unfold okAt; rw [HXG.out, hiv, hsn, decide_eq_true hk0]; rfl)
            clear TCK hiv hy hsn hk0
            go_wp2_with fail
            refine wp_region_calm V1 (by kernel_rfl) (by kernel_rfl) (Below.refl _ _) ?_
            repeat (go_big_quiet_step (first | (go_at_call 69; exact callsCalm (HCK.out _)) | (go_at_call 141; exact callsCalm (standSource_any y _)) | (go_at_call 141; exact callsCalm (standSource_any x _))))
            refine wpQuiet_nil ?_
            rintro _ ⟨z, rfl⟩
            have HSZ := Lib.hid (HS1.out.ext z.ok)
            have FZ := Lib.hid (F1.out.trans (Fix.of_below z.ok))
            obtain ⟨Vz, hVz⟩ : ∃ Vz, z.val = Vz := ⟨_, rfl⟩
            have u0 := w0 z
            have u1 := w1 z
            have u2 := w2 z
            have u3 := w3 z
            have u4 := w4 z
            have u5 := w5 z
            rw [hVz] at HSZ FZ u0 u1 u2 u3 u4 u5 ⊢
            clear hVz z w0 w1 w2 w3 w4 w5 hlk
            go_wp2_with (first | (go_at_call 141; (with_reducible refine (standSource_any x _).mono ?_); rintro e Vy ⟨rfl, gy⟩; have HSY := Lib.hid (HSZ.out.ext gy); have FY := Lib.hid (FZ.out.trans (Fix.of_below gy)); obtain ⟨nn, D, hD1, hD2, hD3⟩ := HSY.out; have HD3 := Lib.hid hD3; have HD2 := Lib.hid hD2; clear gy hD2 hD3) | (at_mapUpdate; refine wpList_mapUpdate_own _ rfl _ _ _ 213 rfl 3 4 (int_keyed Tryz.underlying3) Tryz.underlying213 _ b nn D rfl HD2.out (by unfold maxLen; omega) _ _ (.int .i64 x.a) rfl rfl (keyOf_int_mk Tryz.underlying3 (lit_wf (by omega) (by omega))) (.lit (.bool true)) [] (plainElem_bool Tryz.underlying4 true) ?_; intro Vu hown1 hgrow1; have HSU := Lib.hid (Seen.put (by omega) (by omega) hD1 HD2.out.isMap HD3.out hown1); have FU := Lib.hid (FY.out.trans (fix_turn hgrow1)); clear hown1 hgrow1))
            go_roundw
            case rel => exact ⟨k + 1, by omega, by go_num, FU.out, by rw [srcs_take HX.out, ← List.append_assoc]; exact HSU.out, okAt_succ HOK.out HAT.out⟩
            case measure => simp [intOf]; omega
        · obtain ⟨k', rfl⟩ : ∃ k', k = k' + 1 := ⟨k - 1, by omega⟩
          have e1 : decide ((0 : Int) < ((k' + 1 : Nat) : Int)) = true := decide_eq_true (by omega)
          have e2 : decide (0 < k' + 1) = true := decide_eq_true (by omega)
          have y0 := fun z => (HY.out (by omega) z).1
          have y1 := fun z => (HY.out (by omega) z).2.1
          have y2 := fun z => (HY.out (by omega) z).2.2.1
          have y3 := fun z => (HY.out (by omega) z).2.2.2.1
          have y4 := fun z => (HY.out (by omega) z).2.2.2.2.1
          have y5 := fun z => (HY.out (by omega) z).2.2.2.2.2
          rw [Nat.add_sub_cancel] at y0 y1 y2 y3 y4 y5 hy
          by_cases hr : y.a < x.a
          · have e3 : decide (x.a ≤ y.a) = false := decide_eq_false (by omega)
            cases sn with
            | true =>
              have HNO := Lib.hid (okL_no (is := isLoad) (ks := ks) (l := l) (k := k' + 1) (by rw [hlen.out]; exact hkn) (by unfold okAt; rw [HXG.out, hiv, hsn]; simp))
              clear TCK hiv hy hsn hk0 HY hr
              go_wp2_with fail
              refine wp_region_calm V1 (by kernel_rfl) (by kernel_rfl) (Below.refl _ _) ?_
              repeat (go_big_quiet_step (first | (go_at_call 69; exact callsCalm (HCK.out _)) | (go_at_call 141; exact callsCalm (standSource_any y _)) | (go_at_call 141; exact callsCalm (standSource_any x _))))
              refine wpQuiet_nil ?_
              rintro _ ⟨z, rfl⟩
              go_wp2_with fail
              go_ret
              exact ⟨ret_bool HNO.out.symm, F1.out.trans (Fix.of_below z.ok), fun h => by rw [HNO.out] at h; cases h⟩
            | false =>
              have HAT := Lib.hid (show okAt isLoad ks l (k' + 1) = true by unfold okAt; rw [HXG.out, hiv, hsn, Nat.add_sub_cancel, hy, decide_eq_true hr]; simp)
              clear TCK hiv hy hsn hk0 HY hr
              go_wp2_with fail
              refine wp_region_calm V1 (by kernel_rfl) (by kernel_rfl) (Below.refl _ _) ?_
              repeat (go_big_quiet_step (first | (go_at_call 69; exact callsCalm (HCK.out _)) | (go_at_call 141; exact callsCalm (standSource_any y _)) | (go_at_call 141; exact callsCalm (standSource_any x _))))
              refine wpQuiet_nil ?_
              rintro _ ⟨z, rfl⟩
              have HSZ := Lib.hid (HS1.out.ext z.ok)
              have FZ := Lib.hid (F1.out.trans (Fix.of_below z.ok))
              obtain ⟨Vz, hVz⟩ : ∃ Vz, z.val = Vz := ⟨_, rfl⟩
              have u0 := w0 z
              have u1 := w1 z
              have u2 := w2 z
              have u3 := w3 z
              have u4 := w4 z
              have u5 := w5 z
              rw [hVz] at HSZ FZ u0 u1 u2 u3 u4 u5 ⊢
              clear hVz z w0 w1 w2 w3 w4 w5 hlk
              go_wp2_with (first | (go_at_call 141; (with_reducible refine (standSource_any x _).mono ?_); rintro e Vy ⟨rfl, gy⟩; have HSY := Lib.hid (HSZ.out.ext gy); have FY := Lib.hid (FZ.out.trans (Fix.of_below gy)); obtain ⟨nn, D, hD1, hD2, hD3⟩ := HSY.out; have HD3 := Lib.hid hD3; have HD2 := Lib.hid hD2; clear gy hD2 hD3) | (at_mapUpdate; refine wpList_mapUpdate_own _ rfl _ _ _ 213 rfl 3 4 (int_keyed Tryz.underlying3) Tryz.underlying213 _ b nn D rfl HD2.out (by unfold maxLen; omega) _ _ (.int .i64 x.a) rfl rfl (keyOf_int_mk Tryz.underlying3 (lit_wf (by omega) (by omega))) (.lit (.bool true)) [] (plainElem_bool Tryz.underlying4 true) ?_; intro Vu hown1 hgrow1; have HSU := Lib.hid (Seen.put (by omega) (by omega) hD1 HD2.out.isMap HD3.out hown1); have FU := Lib.hid (FY.out.trans (fix_turn hgrow1)); clear hown1 hgrow1))
              go_roundw
              case rel => exact ⟨k' + 1 + 1, by omega, by go_num, FU.out, by rw [srcs_take HX.out, ← List.append_assoc]; exact HSU.out, okAt_succ HOK.out HAT.out⟩
              case measure => simp [intOf]; omega
          · have e3 : decide (x.a ≤ y.a) = true := decide_eq_true (by omega)
            have HNO := Lib.hid (okL_no (is := isLoad) (ks := ks) (l := l) (k := k' + 1) (by rw [hlen.out]; exact hkn) (by unfold okAt; rw [HXG.out, hiv, Nat.add_sub_cancel, hy, decide_eq_false hr]; simp))
            clear TCK hiv hy hsn hk0 HY hr
            go_wp2_with fail
            refine wp_region_calm V1 (by kernel_rfl) (by kernel_rfl) (Below.refl _ _) ?_
            repeat (go_big_quiet_step (first | (go_at_call 69; exact callsCalm (HCK.out _)) | (go_at_call 141; exact callsCalm (standSource_any y _)) | (go_at_call 141; exact callsCalm (standSource_any x _))))
            refine wpQuiet_nil ?_
            rintro _ ⟨z, rfl⟩
            go_wp2_with fail
            go_ret
            exact ⟨ret_bool HNO.out.symm, F1.out.trans (Fix.of_below z.ok), fun h => by rw [HNO.out] at h; cases h⟩
    · obtain rfl : n = k := by omega
      have HE := Lib.hid (okL_yes (is := isLoad) (ks := ks) (l := l) (by rw [hlen.out]; exact HOK.out))
      rw [hlen.out] at HE
      have HTK := Lib.hid (show l.take n = l from List.take_of_length_le (by rw [hlen.out]; exact Nat.le_refl _))
      go_wp2_with fail
      go_ret
      refine ⟨ret_bool (by rw [HE.out]; exact decide_eq_decide.2 (by omega)), HF.out, fun _ => ?_⟩
      have := HSE.out
      rw [HTK.out] at this
      exact this
end Go.Proofs.YtkoejeghihcmlaaGreat
