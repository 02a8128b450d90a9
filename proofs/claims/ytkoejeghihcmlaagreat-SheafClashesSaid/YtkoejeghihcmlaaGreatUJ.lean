/- The reference: the loads that count, by Hour and Source. -/
import Derived.Test.YtkoejeghihcmlaaGreatUI
import Derived.Test.YtkoejeghihcmlaaGreatMF
namespace Go.Proofs.YtkoejeghihcmlaaGreat
open Go.RowKit Go.Shelf

theorem Below.allo9 {B : Nat} {V X : World} (h : Below B V X) (hB : B ≤ X.heap.size) (o : Obj) : Below B V (X.alloc o) := h.trans ((one_more X o).mono hB)
theorem Arr.drop {α : Type} {f : α → List Value} {size : Nat} {w : World} {b o n : Nat} {xs : List α} (h : Arr f size w (some ⟨b, o, none⟩) n xs) (k : Nat) : Arr f size w (some ⟨b, o + k * size, none⟩) (n - k) (xs.drop k) := by
  refine ⟨by rw [List.length_drop, h.1], fun hn => ?_⟩
  obtain ⟨b', o', e, hb, hc⟩ := h.2 (by omega)
  cases e
  refine ⟨b, o + k * size, rfl, hb, fun i x hx j u hu => ?_⟩
  rw [List.getElem?_drop] at hx
  have := hc (k + i) x hx j u hu
  rw [Nat.add_mul] at this
  rw [show o + k * size + i * size + j = o + (k * size + i * size) + j by omega]
  exact this
theorem insH_at {x : Six} : ∀ {l : List Six} {t : Nat}, t ≤ l.length → (∀ j, j < t → (l.getD j z6).b ≤ x.b) → (t < l.length → x.b < (l.getD t z6).b) → insH x l = l.take t ++ x :: l.drop t
  | [], t, ht, _, _ => by
    have : t = 0 := by simpa using ht
    subst this; rfl
  | y :: l, 0, _, _, h2 => by
    have := h2 (by simp)
    have h3 : x.b < y.b := by simpa using this
    unfold insH
    rw [if_pos h3]; rfl
  | y :: l, t + 1, ht, h1, h2 => by
    have h0 := h1 0 (by omega)
    have h3 : ¬ x.b < y.b := by
      have : (y :: l).getD 0 z6 = y := rfl
      rw [this] at h0; omega
    unfold insH
    rw [if_neg h3, insH_at (l := l) (t := t) (by simpa using ht) (fun j hj => by have := h1 (j + 1) (by omega); simpa using this) (fun h => by have := h2 (by simpa using h); simpa using this)]
    rfl
/-- The loads that count among the first k ones, in order. -/
def cartK (p : Pl) (known : Int) (k : Nat) : List Six := srtH ((p.loads.take k).filter fun x => cnt x known)
theorem cartK_zero (p : Pl) (known : Int) : cartK p known 0 = [] := rfl
theorem cartK_succ {p : Pl} {known : Int} {k : Nat} (hk : k < p.loads.length) : cartK p known (k + 1) = if cnt (p.loads.getD k z6) known = true then insH (p.loads.getD k z6) (cartK p known k) else cartK p known k := by
  unfold cartK
  rw [List.take_succ_eq_append_getElem hk, List.filter_append, six_get hk]
  by_cases h : cnt p.loads[k] known = true
  · rw [if_pos h, List.filter_cons, if_pos h]
    unfold srtH
    rw [List.foldl_append]
    rfl
  · rw [if_neg h, List.filter_cons, if_neg h]
    simp
theorem cartK_len (p : Pl) (known : Int) (k : Nat) : (cartK p known k).length ≤ k := by
  unfold cartK
  rw [srtH_len]
  refine Nat.le_trans (List.length_filter_le _ _) ?_
  rw [List.length_take]
  omega
theorem own_head {w : World} {base : Nat} {A : Option Addr} {n c : Nat} {L : List Six} (h : OwnL scells 6 103 w base (.slice A n c) L) : (A = none ∧ n = 0 ∧ c = 0 ∧ L = []) ∨ ∃ b, A = some ⟨b, 0, none⟩ := by
  obtain ⟨-, ⟨e, h0⟩ | ⟨g, cap, cur, e, -⟩⟩ := h
  · cases e
    exact .inl ⟨rfl, rfl, rfl, List.eq_nil_of_length_eq_zero h0⟩
  · cases e
    exact .inr ⟨_, rfl⟩
theorem empty_own (V : World) : OwnL scells 6 103 (V.alloc (.cells #[] 103)).drew V.heap.size (.slice (some ⟨V.heap.size, 0, none⟩) 0 0) [] := World.ownsRow_made (e := 103) (size := 6) V #[] 0 (Nat.le_refl _) (by decide) rfl
theorem empty_own2 (V : World) (cs : Array Value) : OwnL scells 6 103 ((V.alloc (.cells cs 103)).alloc (.cells #[] 103)).drew V.heap.size (.slice (some ⟨V.heap.size + 1, 0, none⟩) 0 0) [] := by
  have := World.ownsRow_made (e := 103) (size := 6) (base := V.heap.size) (V.alloc (.cells cs 103)) #[] 0 (by simp) (by decide) rfl
  rw [World.size_alloc] at this
  exact this
set_option maxRecDepth 100000 in
set_option maxHeartbeats 8000000 in
theorem refCarted_any (p : Pl) (A1 A2 A3 : Option Addr) (n1 c1 n2 c2 n3 c3 : Nat) (known : Int) (w : World) (hp : Pa w p A1 A2 A3 n1 c1 n2 c2 n3 c3) (hnb : n1 ≤ 1000) :
    Calls Tryz.prog 129 #[plv p A1 A2 A3 n1 c1 n2 c2 n3 c3, .int .i64 known] w fun e w' => (∃ v, e = .returned v ∧ OwnL scells 6 103 w' w.heap.size v (srtH (p.loads.filter fun x => cnt x known))) ∧ Below w.heap.size w w' := by
  obtain ⟨W0, hW0⟩ : ∃ W0, w.alloc (.cells (plb p A1 A2 A3 n1 c1 n2 c2 n3 c3) 38) = W0 := ⟨_, rfl⟩
  have g0 : Below w.heap.size w W0 := by rw [← hW0]; exact one_more _ _
  have b0 : Blk W0 w.heap.size 38 (plb p A1 A2 A3 n1 c1 n2 c2 n3 c3) := by rw [← hW0]; exact Blk.new _ _ _
  have HNB := Lib.hid hnb
  have HL1 := Lib.hid (hp.l1.below g0)
  have GA := Lib.hid g0
  have HB0 := Lib.hid b0
  have HW0 := Lib.hid hW0
  clear hp g0 b0 hW0 hnb
  go_enter Tryz.func129, Tryz.ntmps129
  go_upto_region 1 with fail
  rw [HW0.out]
  go_wp2_with fail
  go_loopw [5, 6] (fun v i wr => ∃ (k : Nat) (u : Value), u = v ∧ i = .int .i64 k ∧ k ≤ n1 ∧ Below W0.heap.size W0 wr ∧ OwnL scells 6 103 wr W0.heap.size v (cartK p known k)) (fun _ i _ => n1 - (intOf i).toNat)
  case atStart => exact ⟨0, _, rfl, rfl, Nat.zero_le _, Below.refl _ _, by rw [cartK_zero]; exact OwnL.nil _ _⟩
  case round =>
    obtain ⟨k, u, rfl, rfl, hk, hg, hown⟩ := hrel
    obtain ⟨V0, rfl⟩ : ∃ V : World, V = wr := ⟨_, rfl⟩
    have HG := Lib.hid hg
    have HO := Lib.hid hown
    have q1 := (HB0.out.ext hg).cell 2
    have hk9 : k ≤ 1000 := by have := HNB.out; omega
    by_cases hkn : k < n1
    · obtain ⟨b9, o9, e9, -, -, hc⟩ := six_at (HL1.out.below hg) hkn
      obtain ⟨x0, x1, x2, x3, x4, x5⟩ := hc _ (Below.refl _ _)
      have HN := Lib.hid (cartK_succ (p := p) (known := known) (k := k) (by rw [HL1.out.1]; exact hkn))
      have HCL := Lib.hid (cartK_len p known k)
      obtain ⟨x, hxg⟩ : ∃ x, p.loads.getD k z6 = x := ⟨_, rfl⟩
      rw [hxg] at x0 x1 x2 x3 x4 x5 HN
      subst e9
      have hki : (k : Int) < (n1 : Int) := by omega
      obtain ⟨L, hL⟩ : ∃ L, cartK p known k = L := ⟨_, rfl⟩
      rw [hL] at HO HN HCL
      have HLE := Lib.hid hL
      clear hc hxg hg hown hL
      go_upto_region 6 with fail
      obtain ⟨V1, hV1⟩ : ∃ V1, V0.alloc (.cells #[.int .i64 x.a, .int .i64 x.b, .int .i64 x.c, .int .i64 x.d, .int .i64 x.e, .int .i64 x.f] 103) = V1 := ⟨_, rfl⟩
      have g1 : Below V0.heap.size V0 V1 := by rw [← hV1]; exact one_more _ _
      have BX := Lib.hid (show Blk V1 V0.heap.size 103 #[.int .i64 x.a, .int .i64 x.b, .int .i64 x.c, .int .i64 x.d, .int .i64 x.e, .int .i64 x.f] by rw [← hV1]; exact Blk.new _ _ _)
      rw [hV1]
      have hvs0 := HG.out.size
      have hvs1 : V1.heap.size = V0.heap.size + 1 := by rw [← hV1]; simp
      have HG1 := Lib.hid (HG.out.trans (g1.mono hvs0))
      have HO1 := Lib.hid (HO.out.ext g1)
      have HVS := Lib.hid hvs1
      clear hV1 g1 x0 x1 x2 x3 x4 x5 q1 hvs1
      have s0 := BX.out.cell 0
      have s1 := BX.out.cell 1
      have s2 := BX.out.cell 2
      have s3 := BX.out.cell 3
      have s4 := BX.out.cell 4
      have s5 := BX.out.cell 5
      obtain ⟨cb, hcb⟩ : ∃ cb, cnt x known = cb := ⟨_, rfl⟩
      have T := fun W => refCnt_any x known W
      rw [hcb] at T HN
      have HT := Lib.hid T
      clear hcb T
      cases cb with
      | false =>
        have HN2 := Lib.hid (show cartK p known (k + 1) = L by rw [HN.out]; rfl)
        go_wp2_with (go_at_call 183; (with_reducible refine (HT.out _).mono ?_); rintro e w' ⟨rfl, rfl⟩)
        go_roundw
        case rel => exact ⟨k + 1, _, rfl, by go_num, by omega, HG1.out, by rw [HN2.out]; exact HO1.out⟩
        case measure => simp [intOf]; omega
      | true =>
        have HN2 := Lib.hid (show cartK p known (k + 1) = insH x L by rw [HN.out]; rfl)
        obtain ⟨A, c, hv, hc1, hc2, hi, -⟩ := HO1.out.arr kdL
        obtain ⟨n, hn⟩ : ∃ n, L.length = n := ⟨_, rfl⟩
        rw [hn] at hv hc1 hi
        subst hv
        have HI := Lib.hid hi
        have HNL := Lib.hid hn
        have hn9 : n ≤ 1000 := by have := HCL.out; omega
        have hcm : c ≤ 9223372036854775807 := by unfold maxLen at hc2; omega
        clear hi hn hc2
        go_upto_region 7 with (go_at_call 183; (with_reducible refine (HT.out _).mono ?_); rintro e w' ⟨rfl, rfl⟩)
        go_cut [8] from 28 to 43 (fun s wx => s = .int .i64 0 ∧ V1 = wx)
        case first =>
          go_wp2_with fail
          go_meet
          exact ⟨rfl, rfl⟩
        case rest =>
        obtain ⟨rfl, rfl⟩ := hcut
        rename_i hK9
        refine hK9 _ _ ?_
        clear hK9
        go_step
        go_cut [8] from 28 to 43 (fun s wx => ∃ t : Nat, s = .int .i64 t ∧ t ≤ n ∧ Hid (insH x L = L.take t ++ x :: L.drop t) ∧ Below V1.heap.size V1 wx)
        case first =>
          go_step
          go_loopw [8] (fun i wr => ∃ t : Nat, t ≤ n ∧ i = .int .i64 t ∧ Below V1.heap.size V1 wr ∧ ∀ j, j < t → (L.getD j z6).b ≤ x.b) (fun i _ => n - (intOf i).toNat)
          case atStart => exact ⟨0, Nat.zero_le _, rfl, Below.refl _ _, fun j hj => absurd hj (by omega)⟩
          case round =>
            obtain ⟨t, ht, rfl, hg2, hall⟩ := hrel
            have HG2 := Lib.hid hg2
            have HALL := Lib.hid hall
            have z1 := cellW ((BX.out.ext hg2).cell 1)
            clear hall
            have hvs2 := hg2.size
            by_cases htn : t < n
            · obtain ⟨b8, o8, e8, -, -, hc8⟩ := six_at (HI.out.below hg2) htn
              obtain ⟨y, hyg⟩ : ∃ y, L.getD t z6 = y := ⟨_, rfl⟩
              rw [hyg] at hc8
              have u1 := cellW (hc8 _ (Below.refl _ _)).2.1
              have hti : (t : Int) < (n : Int) := by omega
              have htd : decide (t < n) = true := decide_eq_true htn
              subst e8
              have HY := Lib.hid hyg
              clear hc8 hyg hg2
              by_cases hle : y.b ≤ x.b
              · have hled := decide_eq_true hle
                have HLE2 := Lib.hid hle
                go_upto_region 8 with fail
                refine wp_region_calm wr (by kernel_rfl) (by kernel_rfl) (Below.refl _ _) ?_
                repeat (go_big_quiet_step (fail))
                refine wpQuiet_nil ?_
                rintro _ ⟨z, rfl⟩
                have GZ := Lib.hid (HG2.out.trans (z.ok.mono HG2.out.size))
                go_wp2_with fail
                go_roundw
                case rel => exact ⟨t + 1, by omega, by go_num, GZ.out, fun j hj => by
                  by_cases e : j = t
                  · subst e; rw [HY.out]; exact HLE2.out
                  · exact HALL.out j (by omega)⟩
                case measure => simp [intOf]; omega
              · have hled := decide_eq_false hle
                have HIN := Lib.hid (insH_at (x := x) (l := L) (t := t) (by rw [HNL.out]; omega) HALL.out (fun _ => by rw [HY.out]; omega))
                go_upto_region 8 with fail
                refine wp_region_calm wr (by kernel_rfl) (by kernel_rfl) (Below.refl _ _) ?_
                repeat (go_big_quiet_step (fail))
                refine wpQuiet_nil ?_
                rintro _ ⟨z, rfl⟩
                have GZ := Lib.hid (HG2.out.trans (z.ok.mono HG2.out.size))
                go_wp2_with fail
                go_meet
                exact ⟨t, rfl, ht, HIN, GZ.out⟩
            · obtain rfl : n = t := by omega
              have htd : decide (n < n) = false := decide_eq_false (by omega)
              have HIN := Lib.hid (insH_at (x := x) (l := L) (t := n) (by rw [HNL.out]; exact Nat.le_refl _) HALL.out (fun h => by rw [HNL.out] at h; omega))
              go_upto_region 8 with fail
              refine wp_region_calm wr (by kernel_rfl) (by kernel_rfl) (Below.refl _ _) ?_
              repeat (go_big_quiet_step (fail))
              refine wpQuiet_nil ?_
              rintro _ ⟨z, rfl⟩
              have GZ := Lib.hid (HG2.out.trans (z.ok.mono HG2.out.size))
              go_wp2_with fail
              go_meet
              exact ⟨n, rfl, Nat.le_refl _, HIN, GZ.out⟩
        case rest =>
          obtain ⟨t, rfl, ht, HIN, hg2⟩ := hcut
          obtain ⟨V, rfl⟩ : ∃ V : World, V = wc := ⟨_, rfl⟩
          have HG2 := Lib.hid hg2
          have hvs2 := hg2.size
          have HBXV := Lib.hid (BX.out.ext hg2)
          have HAV := Lib.hid (HI.out.below hg2)
          have hti : (t : Int) ≤ (n : Int) := by omega
          have htc : (t : Int) ≤ (c : Int) := by omega
          have hnc : (n : Int) ≤ (c : Int) := by omega
          have w0 := HBXV.out.cell 0
          have w1 := HBXV.out.cell 1
          have w2 := HBXV.out.cell 2
          have w3 := HBXV.out.cell 3
          have w4 := HBXV.out.cell 4
          have w5 := HBXV.out.cell 5
          clear hg2
          rename_i hK9
          refine hK9 _ _ ?_
          clear hK9
          go_upto_region 10 with fail
          have HKP := Lib.hid (fun X (g : Below V.heap.size V X) => (⟨(HBXV.out.ext g).cell 0, (HBXV.out.ext g).cell 1, (HBXV.out.ext g).cell 2, (HBXV.out.ext g).cell 3, (HBXV.out.ext g).cell 4, (HBXV.out.ext g).cell 5⟩ : X.cell? ⟨V0.heap.size, 0, none⟩ = some (.int .i64 x.a) ∧ X.cell? ⟨V0.heap.size, 1, none⟩ = some (.int .i64 x.b) ∧ X.cell? ⟨V0.heap.size, 2, none⟩ = some (.int .i64 x.c) ∧ X.cell? ⟨V0.heap.size, 3, none⟩ = some (.int .i64 x.d) ∧ X.cell? ⟨V0.heap.size, 4, none⟩ = some (.int .i64 x.e) ∧ X.cell? ⟨V0.heap.size, 5, none⟩ = some (.int .i64 x.f)))
          obtain ⟨base, hbase⟩ : ∃ base, V.heap.size = base := ⟨_, rfl⟩
          have GE1 := Lib.hid (show Below V.heap.size V (V.alloc (.cells #[] 103)).drew from (one_more _ _).drew)
          have GE2 := Lib.hid (show Below V.heap.size V ((V.alloc (.cells #[] 103)).alloc (.cells #[.int .i64 x.a, .int .i64 x.b, .int .i64 x.c, .int .i64 x.d, .int .i64 x.e, .int .i64 x.f] 103)).drew from (two_more _ _ _).drew)
          have GE3 := Lib.hid (show Below V.heap.size V ((V.alloc (.cells #[.int .i64 x.a, .int .i64 x.b, .int .i64 x.c, .int .i64 x.d, .int .i64 x.e, .int .i64 x.f] 103)).alloc (.cells #[] 103)).drew from (two_more _ _ _).drew)
          have OE1 := Lib.hid (empty_own V)
          have OE2 := Lib.hid (OwnL.ext (w := V.alloc (.cells #[] 103)) (empty_own V) ((one_more (V.alloc (.cells #[] 103)) (.cells #[.int .i64 x.a, .int .i64 x.b, .int .i64 x.c, .int .i64 x.d, .int .i64 x.e, .int .i64 x.f] 103)).drew))
          have OE3 := Lib.hid (empty_own2 V #[.int .i64 x.a, .int .i64 x.b, .int .i64 x.c, .int .i64 x.d, .int .i64 x.e, .int .i64 x.f])
          have BX2 := Lib.hid (show Blk ((V.alloc (.cells #[] 103)).alloc (.cells #[.int .i64 x.a, .int .i64 x.b, .int .i64 x.c, .int .i64 x.d, .int .i64 x.e, .int .i64 x.f] 103)).drew (V.heap.size + 1) 103 #[.int .i64 x.a, .int .i64 x.b, .int .i64 x.c, .int .i64 x.d, .int .i64 x.e, .int .i64 x.f] by
            have := Blk.new (V.alloc (.cells #[] 103)) 103 #[.int .i64 x.a, .int .i64 x.b, .int .i64 x.c, .int .i64 x.d, .int .i64 x.e, .int .i64 x.f]
            rw [World.size_alloc] at this
            exact this)
          have BX3 := Lib.hid (show Blk ((V.alloc (.cells #[.int .i64 x.a, .int .i64 x.b, .int .i64 x.c, .int .i64 x.d, .int .i64 x.e, .int .i64 x.f] 103)).alloc (.cells #[] 103)).drew V.heap.size 103 #[.int .i64 x.a, .int .i64 x.b, .int .i64 x.c, .int .i64 x.d, .int .i64 x.e, .int .i64 x.f] from (Blk.new V 103 #[.int .i64 x.a, .int .i64 x.b, .int .i64 x.c, .int .i64 x.d, .int .i64 x.e, .int .i64 x.f]).alloc _)
          rw [hbase] at OE1 OE2 OE3 BX2 BX3
          have HBS := Lib.hid hbase
          rcases own_head HO1.out with ⟨rfl, rfl, rfl, rfl⟩ | ⟨b7, rfl⟩
          · obtain rfl : t = 0 := by omega
            go_region_held3 (fun X => X.cell? ⟨V0.heap.size, 0, none⟩ = some (.int .i64 x.a) ∧ X.cell? ⟨V0.heap.size, 1, none⟩ = some (.int .i64 x.b) ∧ X.cell? ⟨V0.heap.size, 2, none⟩ = some (.int .i64 x.c) ∧ X.cell? ⟨V0.heap.size, 3, none⟩ = some (.int .i64 x.d) ∧ X.cell? ⟨V0.heap.size, 4, none⟩ = some (.int .i64 x.e) ∧ X.cell? ⟨V0.heap.size, 5, none⟩ = some (.int .i64 x.f))
              (with_reducible refine HKP.out _ ?_; repeat' first | (with_reducible exact Below.refl _ _) | (with_reducible exact HGA.out) | (with_reducible exact HGB.out) | (with_reducible exact HGC.out) | (with_reducible refine Below.drew ?_) | (with_reducible refine Below.allo9 ?_ (by first | (simp; done) | (simp; omega) | omega) _))
              (first
                | (refine step_app kdL (by rfl) _ _ (by rfl) base _ [] (by rfl) OE1.out none 0 0 [] (by rfl) Arr.nil_ (by first | (simp; done) | (simp; omega)) (by have := GE1.out.size; have := HBS.out; omega) ?_; intro v1 w1 ho1 hg1 hat1; have hbw := OE1.out.below hg1 (Nat.le_refl base) (by have := GE1.out.size; have := HBS.out; omega); have HGA := Lib.hid (show Below V.heap.size V w1 from GE1.out.trans (hbw.mono (by have := HBS.out; omega))); have HO1 := Lib.hid (show OwnL scells 6 103 w1 base v1 [] by simpa using ho1); have hsa : base ≤ w1.heap.size := (by have := HGA.out.size; have := HBS.out; omega); have HSA := Lib.hid hsa; clear hbw ho1 hg1 hat1)
                | (refine step_app kdL (by rfl) _ _ (by rfl) base _ [] (by rfl) OE2.out none 0 0 [] (by rfl) Arr.nil_ (by first | (simp; done) | (simp; omega)) (by have := GE2.out.size; have := HBS.out; omega) ?_; intro v1 w1 ho1 hg1 hat1; have hbw := OE2.out.below hg1 (Nat.le_refl base) (by have := GE2.out.size; have := HBS.out; omega); have HGA := Lib.hid (show Below V.heap.size V w1 from GE2.out.trans (hbw.mono (by have := HBS.out; omega))); have HO1 := Lib.hid (show OwnL scells 6 103 w1 base v1 [] by simpa using ho1); have hsa : base ≤ w1.heap.size := (by have := HGA.out.size; have := HBS.out; omega); have HSA := Lib.hid hsa; have HBX := Lib.hid (show Blk w1 (base + 1) 103 _ from (hg1.block (base + 1) BX2.out.lt (by simp [Value.ownBlock])).trans BX2.out); clear hbw ho1 hg1 hat1)
                | (refine step_app kdL (by rfl) _ _ (by rfl) base _ [] (by rfl) OE3.out none 0 0 [] (by rfl) Arr.nil_ (by first | (simp; done) | (simp; omega)) (by have := GE3.out.size; have := HBS.out; omega) ?_; intro v1 w1 ho1 hg1 hat1; have hbw := OE3.out.below hg1 (Nat.le_refl base) (by have := GE3.out.size; have := HBS.out; omega); have HGA := Lib.hid (show Below V.heap.size V w1 from GE3.out.trans (hbw.mono (by have := HBS.out; omega))); have HO1 := Lib.hid (show OwnL scells 6 103 w1 base v1 [] by simpa using ho1); have hsa : base ≤ w1.heap.size := (by have := HGA.out.size; have := HBS.out; omega); have HSA := Lib.hid hsa; have HBX := Lib.hid (show Blk w1 base 103 _ from (hg1.block base BX3.out.lt (by simp [Value.ownBlock])).trans BX3.out); clear hbw ho1 hg1 hat1)
                | (refine step_app kdL (by rfl) _ _ (by rfl) base v1 [] (by rfl) (HO1.out.ext (one_more w1 (.cells #[.int .i64 x.a, .int .i64 x.b, .int .i64 x.c, .int .i64 x.d, .int .i64 x.e, .int .i64 x.f] 103))) _ _ _ [x] (by rfl) (Blk.arr1 (f := scells) (size := 6) (x := x) (Blk.new w1 103 _)) (by simp) (by have := HSA.out; rw [World.size_alloc]; omega) ?_; intro v2 w2 ho2 hg2 hat2; have hbw := (HO1.out.ext (one_more w1 (.cells #[.int .i64 x.a, .int .i64 x.b, .int .i64 x.c, .int .i64 x.d, .int .i64 x.e, .int .i64 x.f] 103))).below hg2 (Nat.le_refl base) (by have := HSA.out; rw [World.size_alloc]; omega); have HGB := Lib.hid (show Below V.heap.size V w2 from (HGA.out.trans ((one_more w1 _).mono (by have := HSA.out; have := HBS.out; omega))).trans (hbw.mono (by have := HBS.out; omega))); have HO2 := Lib.hid ho2; have hsb : base ≤ w2.heap.size := (by have := HGB.out.size; have := HBS.out; omega); have HSB := Lib.hid hsb; clear hbw ho2 hg2 hat2)
                | (refine step_app kdL (by rfl) _ _ (by rfl) base v1 [] (by rfl) HO1.out _ _ _ [x] (by rfl) (Blk.arr1 (f := scells) (size := 6) (x := x) HBX.out) (by simp) (by have := HSA.out; omega) ?_; intro v2 w2 ho2 hg2 hat2; have hbw := HO1.out.below hg2 (Nat.le_refl base) (by have := HSA.out; omega); have HGB := Lib.hid (show Below V.heap.size V w2 from HGA.out.trans (hbw.mono (by have := HBS.out; omega))); have HO2 := Lib.hid ho2; have hsb : base ≤ w2.heap.size := (by have := HGB.out.size; have := HBS.out; omega); have HSB := Lib.hid hsb; clear hbw ho2 hg2 hat2)
                | (go_loud (refine step_app kdL (by rfl) _ _ (by rfl) base v2 ([] ++ [x]) (by rfl) HO2.out none 0 0 [] (by rfl) Arr.nil_ (by simp) (by have := HSB.out; omega) ?_); intro v3 w3 ho3 hg3 hat3; have hbw := HO2.out.below hg3 (Nat.le_refl base) (by have := HSB.out; omega); have HGC := Lib.hid (show Below V.heap.size V w3 from HGB.out.trans (hbw.mono (by have := HBS.out; omega))); have HO3 := Lib.hid ho3; clear hbw ho3 hg3 hat3))
            all_goals (try go_wp2_with fail)
            all_goals (
              go_roundw
              case rel => exact ⟨k + 1, v3, rfl, by go_num, by omega, HG1.out.trans ((HG2.out.trans (HGC.out.mono hvs2)).mono HG1.out.size), by
                rw [HN2.out, HIN.out]
                have h3 := HO3.out
                exact h3.mono (by have := HG1.out.size; have := HBS.out; omega)⟩
              case measure => simp [intOf]; omega)
          · have HA1 := Lib.hid (HAV.out.take ht)
            have HA2 := Lib.hid (show Arr scells 6 V (if c = t then some ⟨b7, 0, none⟩ else some ⟨b7, t * 6, none⟩) (n - t) (L.drop t) by
              have h2 := Arr.drop HAV.out t
              rw [Nat.zero_add] at h2
              split
              · exact ⟨h2.1, fun h => by omega⟩
              · exact h2)
            obtain ⟨L1, hL1⟩ : ∃ l, L.take t = l := ⟨_, rfl⟩
            obtain ⟨L2, hL2⟩ : ∃ l, L.drop t = l := ⟨_, rfl⟩
            rw [hL1] at HA1 HIN
            rw [hL2] at HA2 HIN
            have HLL := Lib.hid (show L1.length ≤ 1000 by rw [HA1.out.1]; omega)
            clear hL1 hL2
            go_region_held3 (fun X => X.cell? ⟨V0.heap.size, 0, none⟩ = some (.int .i64 x.a) ∧ X.cell? ⟨V0.heap.size, 1, none⟩ = some (.int .i64 x.b) ∧ X.cell? ⟨V0.heap.size, 2, none⟩ = some (.int .i64 x.c) ∧ X.cell? ⟨V0.heap.size, 3, none⟩ = some (.int .i64 x.d) ∧ X.cell? ⟨V0.heap.size, 4, none⟩ = some (.int .i64 x.e) ∧ X.cell? ⟨V0.heap.size, 5, none⟩ = some (.int .i64 x.f))
              (with_reducible refine HKP.out _ ?_; repeat' first | (with_reducible exact Below.refl _ _) | (with_reducible exact HGA.out) | (with_reducible exact HGB.out) | (with_reducible exact HGC.out) | (with_reducible refine Below.drew ?_) | (with_reducible refine Below.allo9 ?_ (by first | (simp; done) | (simp; omega) | omega) _))
              (first
                | (refine step_app kdL (by rfl) _ _ (by rfl) base _ [] (by rfl) OE1.out (some ⟨b7, 0, none⟩) t c L1 (by rfl) (HA1.out.below GE1.out) (by simp; omega) (by have := GE1.out.size; have := HBS.out; omega) ?_; intro v1 w1 ho1 hg1 hat1; have hbw := OE1.out.below hg1 (Nat.le_refl base) (by have := GE1.out.size; have := HBS.out; omega); have HGA := Lib.hid (show Below V.heap.size V w1 from GE1.out.trans (hbw.mono (by have := HBS.out; omega))); have HO1 := Lib.hid (show OwnL scells 6 103 w1 base v1 L1 by simpa using ho1); have hsa : base ≤ w1.heap.size := (by have := HGA.out.size; have := HBS.out; omega); have HSA := Lib.hid hsa; clear hbw ho1 hg1 hat1)
                | (refine step_app kdL (by rfl) _ _ (by rfl) base _ [] (by rfl) OE2.out (some ⟨b7, 0, none⟩) t c L1 (by rfl) (HA1.out.below GE2.out) (by simp; omega) (by have := GE2.out.size; have := HBS.out; omega) ?_; intro v1 w1 ho1 hg1 hat1; have hbw := OE2.out.below hg1 (Nat.le_refl base) (by have := GE2.out.size; have := HBS.out; omega); have HGA := Lib.hid (show Below V.heap.size V w1 from GE2.out.trans (hbw.mono (by have := HBS.out; omega))); have HO1 := Lib.hid (show OwnL scells 6 103 w1 base v1 L1 by simpa using ho1); have hsa : base ≤ w1.heap.size := (by have := HGA.out.size; have := HBS.out; omega); have HSA := Lib.hid hsa; have HBX := Lib.hid (show Blk w1 (base + 1) 103 _ from (hg1.block (base + 1) BX2.out.lt (by simp [Value.ownBlock])).trans BX2.out); clear hbw ho1 hg1 hat1)
                | (refine step_app kdL (by rfl) _ _ (by rfl) base _ [] (by rfl) OE3.out (some ⟨b7, 0, none⟩) t c L1 (by rfl) (HA1.out.below GE3.out) (by simp; omega) (by have := GE3.out.size; have := HBS.out; omega) ?_; intro v1 w1 ho1 hg1 hat1; have hbw := OE3.out.below hg1 (Nat.le_refl base) (by have := GE3.out.size; have := HBS.out; omega); have HGA := Lib.hid (show Below V.heap.size V w1 from GE3.out.trans (hbw.mono (by have := HBS.out; omega))); have HO1 := Lib.hid (show OwnL scells 6 103 w1 base v1 L1 by simpa using ho1); have hsa : base ≤ w1.heap.size := (by have := HGA.out.size; have := HBS.out; omega); have HSA := Lib.hid hsa; have HBX := Lib.hid (show Blk w1 base 103 _ from (hg1.block base BX3.out.lt (by simp [Value.ownBlock])).trans BX3.out); clear hbw ho1 hg1 hat1)
                | (refine step_app kdL (by rfl) _ _ (by rfl) base v1 L1 (by rfl) (HO1.out.ext (one_more w1 (.cells #[.int .i64 x.a, .int .i64 x.b, .int .i64 x.c, .int .i64 x.d, .int .i64 x.e, .int .i64 x.f] 103))) _ _ _ [x] (by rfl) (Blk.arr1 (f := scells) (size := 6) (x := x) (Blk.new w1 103 _)) (by have := HLL.out; omega) (by have := HSA.out; rw [World.size_alloc]; omega) ?_; intro v2 w2 ho2 hg2 hat2; have hbw := (HO1.out.ext (one_more w1 (.cells #[.int .i64 x.a, .int .i64 x.b, .int .i64 x.c, .int .i64 x.d, .int .i64 x.e, .int .i64 x.f] 103))).below hg2 (Nat.le_refl base) (by have := HSA.out; rw [World.size_alloc]; omega); have HGB := Lib.hid (show Below V.heap.size V w2 from (HGA.out.trans ((one_more w1 _).mono (by have := HSA.out; have := HBS.out; omega))).trans (hbw.mono (by have := HBS.out; omega))); have HO2 := Lib.hid ho2; have hsb : base ≤ w2.heap.size := (by have := HGB.out.size; have := HBS.out; omega); have HSB := Lib.hid hsb; clear hbw ho2 hg2 hat2)
                | (refine step_app kdL (by rfl) _ _ (by rfl) base v1 L1 (by rfl) HO1.out _ _ _ [x] (by rfl) (Blk.arr1 (f := scells) (size := 6) (x := x) HBX.out) (by have := HLL.out; omega) (by have := HSA.out; omega) ?_; intro v2 w2 ho2 hg2 hat2; have hbw := HO1.out.below hg2 (Nat.le_refl base) (by have := HSA.out; omega); have HGB := Lib.hid (show Below V.heap.size V w2 from HGA.out.trans (hbw.mono (by have := HBS.out; omega))); have HO2 := Lib.hid ho2; have hsb : base ≤ w2.heap.size := (by have := HGB.out.size; have := HBS.out; omega); have HSB := Lib.hid hsb; clear hbw ho2 hg2 hat2)
                | (go_loud (refine step_app kdL (by rfl) _ _ (by rfl) base v2 (L1 ++ [x]) (by rfl) HO2.out (if c = t then some ⟨b7, 0, none⟩ else some ⟨b7, t * 6, none⟩) (n - t) (c - t) L2 (by rfl) (HA2.out.below HGB.out) (by have := HLL.out; simp; omega) (by have := HSB.out; omega) ?_); intro v3 w3 ho3 hg3 hat3; have hbw := HO2.out.below hg3 (Nat.le_refl base) (by have := HSB.out; omega); have HGC := Lib.hid (show Below V.heap.size V w3 from HGB.out.trans (hbw.mono (by have := HBS.out; omega))); have HO3 := Lib.hid ho3; clear hbw ho3 hg3 hat3))
            all_goals (try go_wp2_with fail)
            all_goals (
              go_roundw
              case rel => exact ⟨k + 1, v3, rfl, by go_num, by omega, HG1.out.trans ((HG2.out.trans (HGC.out.mono hvs2)).mono HG1.out.size), by
                rw [HN2.out, HIN.out]
                have h3 := HO3.out
                rw [List.append_assoc] at h3
                exact h3.mono (by have := HG1.out.size; have := HBS.out; omega)⟩
              case measure => simp [intOf]; omega)
    · obtain rfl : n1 = k := by omega
      have HEND := Lib.hid (show OwnL scells 6 103 V0 W0.heap.size u (srtH (p.loads.filter fun x => cnt x known)) by have := HO.out; unfold cartK at this; rwa [List.take_of_length_le (by rw [HL1.out.1]; exact Nat.le_refl _)] at this)
      go_wp2_with fail
      go_ret
      exact ⟨⟨_, rfl, HEND.out.mono GA.out.size⟩, GA.out.trans (HG.out.mono GA.out.size)⟩
end Go.Proofs.YtkoejeghihcmlaaGreat
