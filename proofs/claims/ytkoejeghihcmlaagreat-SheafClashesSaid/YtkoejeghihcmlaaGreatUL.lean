/- The reference: the row of a plot. -/
import Derived.Test.YtkoejeghihcmlaaGreatUK
import Derived.Test.YtkoejeghihcmlaaGreatTZ
namespace Go.Proofs.YtkoejeghihcmlaaGreat
open Go.RowKit Go.Shelf

/-- All, or those of some sources. -/
def mB (all : Bool) (by_ : List Int) (s : Int) : Bool := all || hasI by_ s
theorem mB_all (by_ : List Int) : mB true by_ = every := by funext s; rfl
theorem mB_some (by_ : List Int) : mB false by_ = hasI by_ := by funext s; rfl
/-- The loads while the row is made: the first k are veiled. -/
def lkK (m : Int → Bool) (ls : List Six) (k : Nat) : List Six := (ls.take k).map (veil m) ++ ls.drop k
theorem lkK_zero (m : Int → Bool) (ls : List Six) : lkK m ls 0 = ls := rfl
theorem lkK_end (m : Int → Bool) (ls : List Six) : lkK m ls ls.length = ls.map (veil m) := by unfold lkK; simp
theorem lkK_len (m : Int → Bool) (ls : List Six) (k : Nat) : (lkK m ls k).length = ls.length := by
  unfold lkK
  rw [List.length_append, List.length_map, List.length_take, List.length_drop]
  omega
theorem lkK_at {m : Int → Bool} {ls : List Six} {k : Nat} (hk : k < ls.length) : (lkK m ls k)[k]? = some (ls.getD k z6) := by
  unfold lkK
  rw [List.getElem?_append_right (by rw [List.length_map, List.length_take]; omega), List.length_map, List.length_take, List.getElem?_drop, show k + (k - min k ls.length) = k by omega]
  exact getD_six hk
theorem lkK_succ {m : Int → Bool} {ls : List Six} {k : Nat} (hk : k < ls.length) : (lkK m ls k).set k (veil m (ls.getD k z6)) = lkK m ls (k + 1) := by
  unfold lkK
  rw [take_succ_D hk, List.map_append, drop_cons_D hk, List.set_append_right _ _ (by rw [List.length_map, List.length_take]; omega), List.length_map, List.length_take, show k - min k ls.length = 0 by omega]
  simp
theorem lkK_same {m : Int → Bool} {ls : List Six} {k : Nat} (hk : k < ls.length) (h : m (ls.getD k z6).a = true) : lkK m ls (k + 1) = lkK m ls k := by
  rw [← lkK_succ hk, veil_yes h]
  unfold lkK
  rw [List.set_append_right _ _ (by rw [List.length_map, List.length_take]; omega), List.length_map, List.length_take, show k - min k ls.length = 0 by omega, drop_cons_D hk]
  rfl
theorem stood0_succ (p : Pl) (k : Nat) : stood0 p k ++ [⟨0, 10000⟩] = stood0 p (k + 1) := by
  unfold stood0
  rw [List.cons_append, ← List.replicate_succ']
theorem row_turn {W3 U V' : World} {o : Obj} {b7 : Nat} {A : Option Addr} {n c : Nat} {v v' : Value} {l : List Six} {st st' : List Rg} (hU : Below W3.heap.size W3 U) (hb : W3.heap.size ≤ b7) (B7 : Blk U b7 191 #[.slice A n c, v])
    (OL : OwnL scells 6 103 U W3.heap.size (.slice A n c) l) (hlt : ∀ k, (Value.slice A n c).ownBlock = some k → k < b7) (OS : OwnL rcells 2 33 U (b7 + 1) v st) (hgr : (U.alloc o).grownBy V' v.ownBlock) (ho : OwnL rcells 2 33 V' (b7 + 1) v' st') :
    Below W3.heap.size W3 (V'.setCell ⟨b7, 1, none⟩ v') ∧ Blk (V'.setCell ⟨b7, 1, none⟩ v') b7 191 #[.slice A n c, v'] ∧ OwnL scells 6 103 (V'.setCell ⟨b7, 1, none⟩ v') W3.heap.size (.slice A n c) l ∧ OwnL rcells 2 33 (V'.setCell ⟨b7, 1, none⟩ v') (b7 + 1) v' st' := by
  have hne : v.ownBlock ≠ some b7 := fun e => by have := (own_lt OS e).1; omega
  refine ⟨?_, ?_, ?_, ho.far (p := ⟨b7, 1, none⟩) (by dsimp only; omega) _⟩
  · refine ((hU.trans ((one_more U o).mono hU.size)).grown hgr (by have := hU.size; simp; omega) (fun k e => by have := (own_lt OS e).1; omega)).setCell (p := ⟨b7, 1, none⟩) (by dsimp only; omega) _
  · exact ((B7.alloc o).grown hgr hne).set_ 1 v'
  · refine (((OL.ext (one_more U o)).grown hgr (fun k e e2 => ?_))).apart (p := ⟨b7, 1, none⟩) (fun e => ?_) _
    · have h1 := hlt k e
      have h2 := (own_lt OS e2).1
      omega
    · have h1 := hlt _ e
      dsimp only at h1
      omega
theorem six_own {w : World} {base n c : Nat} {A : Option Addr} {l : List Six} (h : OwnL scells 6 103 w base (.slice A n c) l) (hn : 0 < n) : ∃ b, A = some ⟨b, 0, none⟩ := by
  rcases own_head h with ⟨-, h0, -, -⟩ | h
  · omega
  · exact h
theorem own_arr {w : World} {base n c : Nat} {A : Option Addr} {l : List Six} (h : OwnL scells 6 103 w base (.slice A n c) l) : Arr scells 6 w A n l := by
  obtain ⟨A', c', e, -, -, hi, -⟩ := h.arr kdL
  obtain ⟨n', hn'⟩ : ∃ n', l.length = n' := ⟨_, rfl⟩
  rw [hn'] at e hi
  cases e
  exact hi
theorem own_arrR {w : World} {base n c : Nat} {A : Option Addr} {l : List Rg} (h : OwnL rcells 2 33 w base (.slice A n c) l) : Arr rcells 2 w A n l := by
  obtain ⟨A', c', e, -, -, hi, -⟩ := h.arr kdR
  obtain ⟨n', hn'⟩ : ∃ n', l.length = n' := ⟨_, rfl⟩
  rw [hn'] at e hi
  cases e
  exact hi
theorem own_free {w : World} {base g n cap : Nat} {l : List Six} (h : OwnL scells 6 103 w base (.slice (some ⟨g, 0, none⟩) n cap) l) (i : Nat) : w.frozen? ⟨g, i, none⟩ = false := by
  obtain ⟨-, -, cur, hg, -, -, -, -⟩ := own_inv h
  exact Blk.frozen hg i
theorem own_freeR {w : World} {base g n cap : Nat} {l : List Rg} (h : OwnL rcells 2 33 w base (.slice (some ⟨g, 0, none⟩) n cap) l) (i : Nat) : w.frozen? ⟨g, i, none⟩ = false := by
  obtain ⟨-, -, cur, hg, -, -, -, -⟩ := own_inv h
  exact Blk.frozen hg i
theorem own_someR {w : World} {base n c : Nat} {A : Option Addr} {l : List Rg} (h : OwnL rcells 2 33 w base (.slice A n c) l) (hn : 0 < n) : ∃ b, A = some ⟨b, 0, none⟩ := by
  obtain ⟨-, ⟨e, h0⟩ | ⟨g, cap, cur, e, -⟩⟩ := h
  · cases e
    omega
  · cases e
    exact ⟨_, rfl⟩
theorem rg_at9 {w : World} {A : Option Addr} {n : Nat} {xs : List Rg} (h : Arr rcells 2 w A n xs) {k : Nat} (hk : k < n) :
    ∃ b o, A = some ⟨b, o, none⟩ ∧ xs[k]? = some (xs.getD k zR) ∧ ∀ w', Below w.heap.size w w' → w'.cell? ⟨b, o + k * 2, none⟩ = some (.int .i64 (xs.getD k zR).lo) ∧ w'.cell? ⟨b, o + k * 2 + 1, none⟩ = some (.int .i64 (xs.getD k zR).hi) := by
  obtain ⟨b, o, x, rfl, hb, hx, hc⟩ := h.at hk
  have e : xs.getD k zR = x := by rw [List.getD_eq_getElem?_getD, hx]; rfl
  rw [e]
  exact ⟨b, o, rfl, hx, fun w' hw => ⟨hc w' hw 0 _ rfl, hc w' hw 1 _ rfl⟩⟩
def RowEnd (p : Pl) (known : Int) (m : Int → Bool) (w : World) (e : Ending) (w' : World) : Prop :=
  (∃ A n c B q d, e = .returned (.agg #[.slice A n c, .slice B q d]) ∧ OwnL scells 6 103 w' w.heap.size (.slice A n c) (lookL p known m) ∧ OwnL rcells 2 33 w' w.heap.size (.slice B q d) (standsF known m (lookL p known m) p.stands (stood0 p (lookL p known m).length)) ∧ (∀ k, (Value.slice A n c).ownBlock = some k → (Value.slice B q d).ownBlock ≠ some k)) ∧ Below w.heap.size w w'
set_option maxRecDepth 100000 in
set_option maxHeartbeats 16000000 in
theorem refRow_any (p : Pl) (A1 A2 A3 : Option Addr) (n1 c1 n2 c2 n3 c3 : Nat) (known : Int) (all : Bool) (N : Option Addr) (nn cn : Nat) (by_ : List Int) (w : World) (hp : Pa w p A1 A2 A3 n1 c1 n2 c2 n3 c3) (hnb : n1 ≤ 1000 ∧ n2 ≤ 1000) (hby : Ints w N nn by_) (hnn : nn ≤ 1000000) :
    Calls Tryz.prog 120 #[plv p A1 A2 A3 n1 c1 n2 c2 n3 c3, .int .i64 known, .agg #[.bool all, .slice N nn cn]] w (RowEnd p known (mB all by_) w) := by
  obtain ⟨W3, hW3⟩ : ∃ W3, ((w.alloc (.cells (plb p A1 A2 A3 n1 c1 n2 c2 n3 c3) 38)).alloc (.cells #[.bool all, .slice N nn cn] 179)).alloc (.cells #[.slice none 0 0, .slice none 0 0] 191) = W3 := ⟨_, rfl⟩
  have g0 : Below w.heap.size w W3 := by rw [← hW3]; exact three_more _ _ _ _
  have b0 : Blk W3 w.heap.size 38 (plb p A1 A2 A3 n1 c1 n2 c2 n3 c3) := by rw [← hW3]; exact ((Blk.new _ _ _).alloc _).alloc _
  have b1 : Blk W3 (w.heap.size + 1) 179 #[.bool all, .slice N nn cn] := by rw [← hW3]; exact blk3_2 _ _ _ _ _
  have b2 : Blk W3 (w.heap.size + 1 + 1) 191 #[.slice none 0 0, .slice none 0 0] := by rw [← hW3]; exact blk3_3 _ _ _ _ _
  have HNB := Lib.hid hnb
  have HNN := Lib.hid hnn
  have HPA := Lib.hid (hp.below g0)
  have HBY := Lib.hid (hby.below g0)
  have GA := Lib.hid g0
  have HB0 := Lib.hid b0
  have HB1 := Lib.hid b1
  have HB2 := Lib.hid b2
  have HW3 := Lib.hid hW3
  have HSZ := Lib.hid b2.lt
  obtain ⟨m, hm⟩ : ∃ m, mB all by_ = m := ⟨_, rfl⟩
  have HM := Lib.hid hm
  have HLC := Lib.hid (lookL_cart p known m)
  have HUP := Lib.hid (show Up (lookL p known m) from srtH_up _)
  rw [hm]
  obtain ⟨ls, hls⟩ : ∃ ls, cartL p known = ls := ⟨_, rfl⟩
  obtain ⟨n, hn⟩ : ∃ n, ls.length = n := ⟨_, rfl⟩
  have HN9 := Lib.hid (show n ≤ 1000 by
    have h1 : (cartL p known).length ≤ p.loads.length := by unfold cartL; rw [srtH_len]; exact List.length_filter_le _ _
    rw [hls, hn] at h1
    have h2 := HPA.out.l1.1
    have h3 := HNB.out
    omega)
  have HNL := Lib.hid hn
  have HLS := Lib.hid hls
  have HC := Lib.hid (fun V (g : Below W3.heap.size W3 V) => show Calls Tryz.prog 129 #[plv p A1 A2 A3 n1 c1 n2 c2 n3 c3, .int .i64 known] V fun e w' => (∃ v, e = .returned v ∧ OwnL scells 6 103 w' V.heap.size v ls) ∧ Below V.heap.size V w' from by
    have := refCarted_any p A1 A2 A3 n1 c1 n2 c2 n3 c3 known V (HPA.out.below g) hnb.1
    rw [← hls]
    exact this)
  rw [hls] at HLC
  clear hp hby g0 b0 b1 b2 hW3 hnb hnn hm hls hn
  go_enter Tryz.func120, Tryz.ntmps120
  go_upto_region 1 with fail
  rw [HW3.out]
  have r0 := HB0.out.cell 0
  have r1 := HB0.out.cell 1
  have r2 := HB0.out.cell 2
  have r3 := HB0.out.cell 3
  have r4 := HB0.out.cell 4
  have r5 := HB0.out.cell 5
  go_upto_region 2 with (go_at_call 129; (with_reducible refine (HC.out _ (Below.refl _ _)).mono ?_); rintro e V4 ⟨⟨v, rfl, ho⟩, hg⟩; obtain ⟨A, c, hv, hc1, hc2, hi, -⟩ := OwnL.arr kdL ho; rw [HNL.out] at hv hc1 hi; subst hv; have HO4 := Lib.hid ho; have HG4 := Lib.hid hg; have HI4 := Lib.hid hi; have HCC := Lib.hid hc1; have HCM := Lib.hid hc2; clear ho hg hi hc1 hc2)
  clear r0 r1 r2 r3 r4 r5
  obtain ⟨W5, hW5⟩ : ∃ W5, V4.alloc (.cells #[.slice A n c, .slice none 0 0] 191) = W5 := ⟨_, rfl⟩
  have g5 : Below V4.heap.size V4 W5 := by rw [← hW5]; exact one_more _ _
  have b7 : Blk W5 V4.heap.size 191 #[.slice A n c, .slice none 0 0] := by rw [← hW5]; exact Blk.new _ _ _
  have G5 := Lib.hid (HG4.out.trans (g5.mono HG4.out.size))
  have O5 := Lib.hid (HO4.out.ext g5)
  have B7 := Lib.hid b7
  have HLT := Lib.hid (fun k (h : (Value.slice A n c).ownBlock = some k) => (own_lt HO4.out h).2)
  have HV4 := Lib.hid HG4.out.size
  have HWB := Lib.hid (show w.heap.size ≤ W3.heap.size by rw [← HW3.out]; simp; omega)
  rw [hW5]
  clear g5 b7 hW5
  have HPO := Lib.hid (show Blk W5 w.heap.size 38 (plb p A1 A2 A3 n1 c1 n2 c2 n3 c3) from HB0.out.ext G5.out)
  -- the first range
  have q0 := HPO.out.cell 0
  have q1 := HPO.out.cell 1
  have t0 := B7.out.cell 0
  have t1 := B7.out.cell 1
  have z1 := B7.out.frozen 1
  have GU := Lib.hid G5.out
  have HB7 := Lib.hid (show W3.heap.size ≤ V4.heap.size from HV4.out)
  have BU := Lib.hid B7.out
  have OL := Lib.hid O5.out
  have OS := Lib.hid (OwnL.nil (f := rcells) (size := 2) (e := 33) W5 (V4.heap.size + 1))
  have XO := Lib.hid (OS.out.ext (one_more W5 (.cells #[.int .i64 p.lo, .int .i64 p.hi] 33)))
  have hb7 := B7.out.lt
  go_upto_region 3 with (at_builtin; go_loud ((refine wpList_app kdR (by rfl) _ _ (by rfl) (V4.heap.size + 1) _ [] (by rfl) XO.out _ _ _ [⟨p.lo, p.hi⟩] (by rfl) (Blk.arr1 (f := rcells) (size := 2) (e := 33) (x := (⟨p.lo, p.hi⟩ : Rg)) (Blk.new W5 33 _)) (by simp) (by rw [World.size_alloc]; omega) ?_); intro v6 V6 ho hgr hz; obtain ⟨B9, d9, hv6, -, -, -, -⟩ := OwnL.arr kdR ho; obtain ⟨q9, hq9⟩ : ∃ q, ([] ++ [(⟨p.lo, p.hi⟩ : Rg)]).length = q := ⟨_, rfl⟩; rw [hq9] at hv6; subst hv6; have HQ9 := Lib.hid hq9; have HTN := Lib.hid (row_turn (v' := .slice B9 q9 d9) GU.out HB7.out BU.out OL.out HLT.out OS.out hgr ho); have hbg := (BU.out.alloc (.cells #[.int .i64 p.lo, .int .i64 p.hi] 33)).grown hgr (fun e => by have := (own_lt OS.out e).1; omega); have l1 := hbg.cell 1; have f1 := hbg.frozen 1; clear ho hgr hz hbg hq9))
  obtain ⟨hT1, hT2, hT3, hT4⟩ := HTN.out
  obtain ⟨b7, hb7e⟩ : ∃ b, V4.heap.size = b := ⟨_, rfl⟩
  rw [hb7e] at hT1 hT2 hT3 hT4 HB7 HLT
  rw [hb7e]
  obtain ⟨W7, hW7⟩ : ∃ W, V6.setCell ⟨b7, 1, none⟩ (.slice B9 q9 d9) = W := ⟨_, rfl⟩
  rw [hW7] at hT1 hT2 hT3 hT4
  rw [hW7]
  have G7 := Lib.hid hT1
  have B77 := Lib.hid hT2
  have L7 := Lib.hid hT3
  have S7 := Lib.hid (show OwnL rcells 2 33 W7 (b7 + 1) (.slice B9 q9 d9) (stood0 p 0) from hT4)
  clear hT1 hT2 hT3 hT4 hb7e hW7 l1 f1 t0 t1 z1 q0 q1 hb7 HTN GU BU OL OS XO
  go_wp2_with fail
  go_loopw [8] (fun i wr => ∃ (k : Nat) (B : Option Addr) (q d : Nat), i = .int .i64 k ∧ k ≤ n ∧ Below W3.heap.size W3 wr ∧ Blk wr b7 191 #[.slice A n c, .slice B q d] ∧ OwnL scells 6 103 wr W3.heap.size (.slice A n c) (lkK m ls k) ∧ OwnL rcells 2 33 wr (b7 + 1) (.slice B q d) (stood0 p k)) (fun i _ => n - (intOf i).toNat)
  case atStart => exact ⟨0, _, _, _, rfl, Nat.zero_le _, G7.out, B77.out, L7.out, S7.out⟩
  case round =>
    clear G7 B77 L7 S7
    obtain ⟨k, B, q, d, rfl, hk, hg, hb, hl, hs⟩ := hrel
    obtain ⟨V, rfl⟩ : ∃ V : World, V = wr := ⟨_, rfl⟩
    have GV := Lib.hid hg
    have BV := Lib.hid hb
    have LV := Lib.hid hl
    have SV := Lib.hid hs
    have t0 := hb.cell 0
    have t1 := hb.cell 1
    have hk9 : k ≤ 1000 := by have := HN9.out; omega
    clear hg hb hl hs
    by_cases hkn : k < n
    · obtain ⟨bA, hA⟩ := six_own LV.out (by omega)
      obtain ⟨x, hx⟩ : ∃ x, ls.getD k z6 = x := ⟨_, rfl⟩
      have hkl : k < ls.length := by rw [HNL.out]; exact hkn
      have HAT := Lib.hid (show (lkK m ls k)[k]? = some x by rw [lkK_at hkl, hx])
      have HX := Lib.hid hx
      have HKL := Lib.hid hkl
      obtain ⟨b9, o9, e9, -, -, hc9⟩ := six_at (own_arr LV.out) hkn
      rw [getD_six_of HAT.out] at hc9
      subst hA
      cases e9
      simp only [Nat.zero_add] at hc9
      have hki : (k : Int) < (n : Int) := by omega
      have u0 := cellW (hc9 V (Below.refl _ _)).1
      have u1 := cellW t0
      have u2 := cellW ((HB1.out.ext GV.out).cell 0)
      have u3 := cellW ((HB1.out.ext GV.out).cell 1)
      have TH := fun (z : Wd V) => refHas_any N nn cn by_ x.a z.val ((HBY.out.below GV.out).below z.ok) HNN.out
      obtain ⟨mx, hmx⟩ : ∃ b, m x.a = b := ⟨_, rfl⟩
      have HMX := Lib.hid hmx
      clear hx hkl hc9
      go_upto_region 6 with fail
      go_cut [44] from 30 to 44 (fun s wx => s = .bool (!mx) ∧ Below V.heap.size V wx)
      case first =>
        cases all with
        | true =>
          have e : mx = true := by rw [← HMX.out, ← HM.out]; rfl
          subst e
          clear TH hmx
          refine wp_region_calm V (by kernel_rfl) (by kernel_rfl) (Below.refl _ _) ?_
          repeat (go_big_quiet_step (fail))
          refine wpQuiet_nil ?_
          rintro _ ⟨z, rfl⟩
          go_wp2_with fail
          go_meet
          exact ⟨rfl, z.ok⟩
        | false =>
          have e : hasI by_ x.a = mx := by rw [← HMX.out, ← HM.out]; rfl
          rw [e] at TH
          have HTH := Lib.hid TH
          clear TH e hmx
          refine wp_region_calm V (by kernel_rfl) (by kernel_rfl) (Below.refl _ _) ?_
          repeat (go_big_quiet_step ((go_at_call 47; exact callsCalmSame (HTH.out _))))
          refine wpQuiet_nil ?_
          rintro _ ⟨z, rfl⟩
          go_wp2_with fail
          go_meet
          exact ⟨rfl, z.ok⟩
      case rest =>
        obtain ⟨rfl, hgc⟩ := hcut
        obtain ⟨U, rfl⟩ : ∃ U : World, U = wc := ⟨_, rfl⟩
        have HB7 := HB7
        have GU := Lib.hid (GV.out.trans (hgc.mono GV.out.size))
        have BU := Lib.hid (BV.out.ext hgc)
        have OL := Lib.hid (LV.out.ext hgc)
        have OS := Lib.hid (SV.out.ext hgc)
        clear hgc u0 u1 u2 u3 t0 t1 TH hmx
        cases mx with
        | true =>
          have HLK := Lib.hid (lkK_same (m := m) HKL.out (by rw [HX.out]; exact HMX.out))
          have t0 := BU.out.cell 0
          have t1 := BU.out.cell 1
          have hul := BU.out.lt
          have XO := Lib.hid (OS.out.ext (one_more U (.cells #[.int .i64 0, .int .i64 10000] 33)))
          go_wp2_with (at_builtin; go_loud ((refine wpList_app kdR (by rfl) _ _ (by rfl) (b7 + 1) _ (stood0 p k) (by rfl) XO.out _ _ _ [⟨0, 10000⟩] (by rfl) (Blk.arr1 (f := rcells) (size := 2) (e := 33) (x := (⟨0, 10000⟩ : Rg)) (Blk.new U 33 _)) (by unfold stood0; simp; omega) (by rw [World.size_alloc]; omega) ?_); intro v6 V6 ho hgr hz; obtain ⟨B9, d9, hv6, -, -, -, -⟩ := OwnL.arr kdR ho; obtain ⟨q9, hq9⟩ : ∃ q, ((stood0 p k) ++ [(⟨0, 10000⟩ : Rg)]).length = q := ⟨_, rfl⟩; rw [hq9] at hv6; subst hv6; have HQ9 := Lib.hid hq9; have HTN := Lib.hid (row_turn (v' := .slice B9 q9 d9) GU.out HB7.out BU.out OL.out HLT.out OS.out hgr ho); have hbg := (BU.out.alloc (.cells #[.int .i64 0, .int .i64 10000] 33)).grown hgr (fun e => by have := (own_lt OS.out e).1; omega); have l1 := hbg.cell 1; have f1 := hbg.frozen 1; clear ho hgr hz hbg hq9))
          obtain ⟨hT1, hT2, hT3, hT4⟩ := HTN.out
          go_roundw
          case rel => exact ⟨k + 1, B9, q9, d9, by go_num, by omega, hT1, hT2, by rw [HLK.out]; exact hT3, by rw [← stood0_succ]; exact hT4⟩
          case measure => simp [intOf]; omega
        | false =>
          have HSU := Lib.hid (lkK_succ (m := m) HKL.out)
          have t0 := BU.out.cell 0
          obtain ⟨b9, o9, e9, -, -, hc9⟩ := six_at (own_arr OL.out) hkn
          rw [getD_six_of HAT.out] at hc9
          cases e9
          simp only [Nat.zero_add] at hc9
          obtain ⟨-, -, y2, y3, -, -⟩ := hc9 U (Below.refl _ _)
          have f2 := own_free OL.out (k * 6 + 2)
          have f3 := own_free OL.out (k * 6 + 3)
          have hAb := HLT.out bA rfl
          have hv : veil m x = { x with c := 0, d := 10000 } := by unfold veil; rw [if_neg (by rw [HMX.out]; decide)]
          have HV := Lib.hid hv
          clear hc9 hv
          go_upto_region 8 with fail
          obtain ⟨U2, hU2⟩ : ∃ W, (U.setCell ⟨bA, k * 6 + 2, none⟩ (.int .i64 0)).setCell ⟨bA, k * 6 + 3, none⟩ (.int .i64 10000) = W := ⟨_, rfl⟩
          have hp1 := OL.out.put1 scells_len (x := x) (x' := { x with c := 0 }) (u := .int .i64 0) (j := 2) HAT.out (by decide) rfl
          have hp2 := hp1.put1 scells_len (x := { x with c := 0 }) (x' := { x with c := 0, d := 10000 }) (u := .int .i64 10000) (j := 3) (i := k) (by rw [List.getElem?_set_self (by rw [lkK_len]; exact HKL.out)]) (by decide) rfl
          rw [List.set_set, ← HV.out, ← HX.out, HSU.out, hU2] at hp2
          have GU := Lib.hid (show Below W3.heap.size W3 U2 by
            rw [← hU2]
            have hb := (own_lt OL.out (k := bA) rfl).1
            exact (GU.out.setCell (p := ⟨bA, k * 6 + 2, none⟩) hb _).setCell (p := ⟨bA, k * 6 + 3, none⟩) hb _)
          have BU := Lib.hid (show Blk U2 b7 191 #[.slice (some ⟨bA, 0, none⟩) n c, .slice B q d] by
            rw [← hU2]
            exact (BU.out.far (p := ⟨bA, k * 6 + 2, none⟩) (by dsimp only; omega) _).far (p := ⟨bA, k * 6 + 3, none⟩) (by dsimp only; omega) _)
          have OS := Lib.hid (show OwnL rcells 2 33 U2 (b7 + 1) (.slice B q d) (stood0 p k) by
            rw [← hU2]
            exact (OS.out.far (p := ⟨bA, k * 6 + 2, none⟩) (by dsimp only; omega) _).far (p := ⟨bA, k * 6 + 3, none⟩) (by dsimp only; omega) _)
          have OL := Lib.hid hp2
          rw [hU2]
          clear hp1 hp2 hU2 y2 y3 f2 f3 t0 hAb
          have t0 := BU.out.cell 0
          have t1 := BU.out.cell 1
          have hul := BU.out.lt
          have XO := Lib.hid (OS.out.ext (one_more U2 (.cells #[.int .i64 0, .int .i64 10000] 33)))
          go_wp2_with (at_builtin; go_loud ((refine wpList_app kdR (by rfl) _ _ (by rfl) (b7 + 1) _ (stood0 p k) (by rfl) XO.out _ _ _ [⟨0, 10000⟩] (by rfl) (Blk.arr1 (f := rcells) (size := 2) (e := 33) (x := (⟨0, 10000⟩ : Rg)) (Blk.new U2 33 _)) (by unfold stood0; simp; omega) (by rw [World.size_alloc]; omega) ?_); intro v6 V6 ho hgr hz; obtain ⟨B9, d9, hv6, -, -, -, -⟩ := OwnL.arr kdR ho; obtain ⟨q9, hq9⟩ : ∃ q, ((stood0 p k) ++ [(⟨0, 10000⟩ : Rg)]).length = q := ⟨_, rfl⟩; rw [hq9] at hv6; subst hv6; have HQ9 := Lib.hid hq9; have HTN := Lib.hid (row_turn (v' := .slice B9 q9 d9) GU.out HB7.out BU.out OL.out HLT.out OS.out hgr ho); have hbg := (BU.out.alloc (.cells #[.int .i64 0, .int .i64 10000] 33)).grown hgr (fun e => by have := (own_lt OS.out e).1; omega); have l1 := hbg.cell 1; have f1 := hbg.frozen 1; clear ho hgr hz hbg hq9))
          obtain ⟨hT1, hT2, hT3, hT4⟩ := HTN.out
          go_roundw
          case rel => exact ⟨k + 1, B9, q9, d9, by go_num, by omega, hT1, hT2, hT3, by rw [← stood0_succ]; exact hT4⟩
          case measure => simp [intOf]; omega
    · obtain rfl : n = k := by omega
      have hq1 := (own_arrR SV.out).1
      have hq2 : (stood0 p n).length = n + 1 := by unfold stood0; simp
      obtain ⟨gB, hB⟩ := own_someR SV.out (by omega)
      have HQ := Lib.hid (show q = n + 1 by omega)
      have HLL := Lib.hid (show (lookL p known m).length = n by rw [HLC.out, List.length_map]; exact HNL.out)
      obtain ⟨LL, hLL⟩ : ∃ l, lookL p known m = l := ⟨_, rfl⟩
      have L8 := Lib.hid (show OwnL scells 6 103 V W3.heap.size (.slice A n c) LL by
        have h := LV.out
        rw [← hLL, HLC.out]
        have e := lkK_end m ls
        rw [HNL.out] at e
        rwa [e] at h)
      rw [hLL] at HLL HUP
      have HLLE := Lib.hid hLL
      have HF0 := Lib.hid (show OwnL rcells 2 33 V (b7 + 1) (.slice B q d) (standsF known m LL (p.stands.take 0) (stood0 p n)) from SV.out)
      subst hB
      have t1' := BV.out.cell 1
      clear hLL hq1 hq2 SV LV
      have h20 := (HB0.out.ext GV.out).cell 3
      have G0 := Lib.hid GV.out
      have BB := Lib.hid BV.out
      clear GV BV
      obtain ⟨V9, hV9⟩ : ∃ V9, V = V9 := ⟨_, rfl⟩
      rw [hV9] at G0 BB L8 HF0 t0 t1 h20 t1' ⊢
      clear hV9
      go_wp2_with fail
      clear t0 t1 h20 t1'
      go_loopw [9] (fun i wr => ∃ j : Nat, i = .int .i64 j ∧ j ≤ n2 ∧ Below W3.heap.size W3 wr ∧ Blk wr b7 191 #[.slice A n c, .slice (some ⟨gB, 0, none⟩) q d] ∧ OwnL scells 6 103 wr W3.heap.size (.slice A n c) LL ∧ OwnL rcells 2 33 wr (b7 + 1) (.slice (some ⟨gB, 0, none⟩) q d) (standsF known m LL (p.stands.take j) (stood0 p n))) (fun i _ => n2 - (intOf i).toNat)
      case atStart => exact ⟨0, rfl, Nat.zero_le _, G0.out, BB.out, L8.out, HF0.out⟩
      case round =>
        clear G0 BB L8 HF0
        obtain ⟨j, rfl, hj, hg, hb, hl, hs⟩ := hrel
        obtain ⟨V, rfl⟩ : ∃ V : World, V = wr := ⟨_, rfl⟩
        have GV := Lib.hid hg
        have BV := Lib.hid hb
        have LV := Lib.hid hl
        have SV := Lib.hid hs
        have t0 := hb.cell 0
        have t1 := hb.cell 1
        have h20 := (HB0.out.ext hg).cell 3
        have hj9 : j ≤ 1000 := by have := HNB.out; omega
        have hbl := hb.lt
        clear hg hb hl hs
        by_cases hjn : j < n2
        · obtain ⟨b9, o9, e9, -, -, hc9⟩ := six_at (HPA.out.l2.below GV.out) hjn
          obtain ⟨x0, x1, x2, x3, x4, x5⟩ := hc9 _ (Below.refl _ _)
          have HSN := Lib.hid (standsF_snoc known m LL (l := p.stands) (k := j) (by rw [HPA.out.l2.1]; exact hjn) (stood0 p n))
          obtain ⟨s, hs⟩ : ∃ s, p.stands.getD j z6 = s := ⟨_, rfl⟩
          rw [hs] at x0 x1 x2 x3 x4 x5 HSN
          subst e9
          have hji : (j : Int) < (n2 : Int) := by omega
          clear hc9 hs
          go_upto_region 13 with fail
          obtain ⟨V1, hV1⟩ : ∃ V1, V.alloc (.cells #[.int .i64 s.a, .int .i64 s.b, .int .i64 s.c, .int .i64 s.d, .int .i64 s.e, .int .i64 s.f] 105) = V1 := ⟨_, rfl⟩
          have g1 : Below V.heap.size V V1 := by rw [← hV1]; exact one_more _ _
          have BS := Lib.hid (show Blk V1 V.heap.size 105 #[.int .i64 s.a, .int .i64 s.b, .int .i64 s.c, .int .i64 s.d, .int .i64 s.e, .int .i64 s.f] by rw [← hV1]; exact Blk.new _ _ _)
          rw [hV1]
          have G1 := Lib.hid (GV.out.trans (g1.mono GV.out.size))
          have B1' := Lib.hid (BV.out.ext g1)
          have L1' := Lib.hid (LV.out.ext g1)
          have S1' := Lib.hid (SV.out.ext g1)
          have HVB := Lib.hid hbl
          clear hV1 g1 x0 x1 x2 x3 x4 x5 t0 t1 h20
          have y0 := BS.out.cell 0
          have y1 := BS.out.cell 1
          have y2 := BS.out.cell 2
          have y3 := BS.out.cell 3
          have y4 := BS.out.cell 4
          have y5 := BS.out.cell 5
          have w0 := (HB1.out.ext G1.out).cell 0
          have w1 := (HB1.out.ext G1.out).cell 1
          obtain ⟨cs, hcs⟩ : ∃ b, cnt s known = b := ⟨_, rfl⟩
          obtain ⟨ms, hms⟩ : ∃ b, m s.a = b := ⟨_, rfl⟩
          rw [hcs, hms] at HSN
          have TC := fun X => refCnt_any s known X
          rw [hcs] at TC
          have HTC := Lib.hid TC
          have TH := fun (X : World) (g : Below V1.heap.size V1 X) => refHas_any N nn cn by_ s.a X ((HBY.out.below G1.out).below g) HNN.out
          have HMS := Lib.hid hms
          clear TC hcs
          go_cut [85] from 69 to 85 (fun q wx => q = .bool (cs && ms) ∧ V1 = wx)
          case first =>
            cases cs with
            | false =>
              clear TH hms
              go_wp2_with (go_at_call 183; (with_reducible refine (HTC.out _).mono ?_); rintro e w' ⟨rfl, rfl⟩)
              go_meet
              exact ⟨rfl, rfl⟩
            | true =>
              cases all with
              | true =>
                have e : ms = true := by rw [← HMS.out, ← HM.out]; rfl
                subst e
                clear TH hms
                go_wp2_with (go_at_call 183; (with_reducible refine (HTC.out _).mono ?_); rintro e w' ⟨rfl, rfl⟩)
                go_meet
                exact ⟨rfl, rfl⟩
              | false =>
                have e : hasI by_ s.a = ms := by rw [← HMS.out, ← HM.out]; rfl
                rw [e] at TH
                have HTH := Lib.hid (TH V1 (Below.refl _ _))
                clear TH e hms
                go_wp2_with (first
                  | (go_at_call 183; (with_reducible refine (HTC.out _).mono ?_); rintro e w' ⟨rfl, rfl⟩)
                  | (go_at_call 47; (with_reducible refine (HTH.out).mono ?_); rintro e w' ⟨rfl, rfl⟩))
                go_meet
                exact ⟨by simp, rfl⟩
          case rest =>
            obtain ⟨rfl, rfl⟩ := hcut
            clear TH hms w0 w1
            obtain ⟨cm, hcm⟩ : ∃ b, (cs && ms) = b := ⟨_, rfl⟩
            rw [hcm] at HSN
            rw [hcm]
            clear hcm
            cases cm with
            | false =>
              have HS2 := Lib.hid (show standsF known m LL (p.stands.take (j + 1)) (stood0 p n) = standsF known m LL (p.stands.take j) (stood0 p n) by rw [HSN.out]; rfl)
              go_wp2_with fail
              go_roundw
              case rel => exact ⟨j + 1, by go_num, by omega, G1.out, B1'.out, L1'.out, by rw [HS2.out]; exact S1'.out⟩
              case measure => simp [intOf]; omega
            | true =>
              obtain ⟨t, ht⟩ : ∃ t, after LL s.b = t := ⟨_, rfl⟩
              have HS2 := Lib.hid (show standsF known m LL (p.stands.take (j + 1)) (stood0 p n) = nar (standsF known m LL (p.stands.take j) (stood0 p n)) t ⟨s.c, s.d⟩ by rw [HSN.out, ← ht]; rfl)
              have TI := refIndex_any A n c LL (some ⟨gB, 0, none⟩) q d s.b V1 (own_arr L1'.out) HN9.out HUP.out
              rw [ht] at TI
              have HTI := Lib.hid TI
              have htn : t ≤ n := by rw [← ht, ← HLL.out]; exact after_len _ _
              obtain ⟨st, hst⟩ : ∃ l, standsF known m LL (p.stands.take j) (stood0 p n) = l := ⟨_, rfl⟩
              rw [hst] at HS2 S1'
              have t0 := B1'.out.cell 0
              have t1 := B1'.out.cell 1
              clear TI ht hst
              go_upto_region 15 with (go_at_call 118; (with_reducible refine (HTI.out).mono ?_); rintro e V2 ⟨rfl, hg⟩; have HG2 := Lib.hid hg; clear hg)
              have G2 := Lib.hid (G1.out.trans (HG2.out.mono G1.out.size))
              have B2' := Lib.hid (B1'.out.ext HG2.out)
              have L2' := Lib.hid (L1'.out.ext HG2.out)
              have S2' := Lib.hid (S1'.out.ext HG2.out)
              have BS2 := Lib.hid (BS.out.ext HG2.out)
              obtain ⟨b8, o8, e8, hx8, hc8⟩ := rg_at9 (own_arrR S2'.out) (k := t) (by have := HQ.out; omega)
              cases e8
              simp only [Nat.zero_add] at hc8
              obtain ⟨r, hr⟩ : ∃ r, st.getD t zR = r := ⟨_, rfl⟩
              rw [hr] at hx8 hc8
              have HX8 := Lib.hid hx8
              have HR := Lib.hid hr
              have HKP := Lib.hid (fun X (g : Below V2.heap.size V2 X) => (⟨(B2'.out.ext g).cell 1, (hc8 X g).1, (hc8 X g).2, (BS2.out.ext g).cell 2, (BS2.out.ext g).cell 3⟩ : X.cell? ⟨b7, 1, none⟩ = some (.slice (some ⟨gB, 0, none⟩) q d) ∧ X.cell? ⟨gB, t * 2, none⟩ = some (.int .i64 r.lo) ∧ X.cell? ⟨gB, t * 2 + 1, none⟩ = some (.int .i64 r.hi) ∧ X.cell? ⟨V.heap.size, 2, none⟩ = some (.int .i64 s.c) ∧ X.cell? ⟨V.heap.size, 3, none⟩ = some (.int .i64 s.d)))
              have htq : (t : Int) < (q : Int) := by have := HQ.out; omega
              clear t0 t1 y0 y1 y2 y3 y4 y5 hx8 hc8 hr
              obtain ⟨k0, k1, k2, k3, k4⟩ := HKP.out V2 (Below.refl _ _)
              have u0 := cellW k0
              have u1 := cellW k1
              have u2 := cellW k2
              have u3 := cellW k3
              have u4 := cellW k4
              refine wp_region_calm_tail V2 12 (by kernel_rfl) (by kernel_rfl) (Below.refl _ _) ?_
              simp only [List.take_succ_cons, List.take_zero, List.drop_succ_cons, List.drop_zero]
              repeat (go_big_quiet_step ((go_at_call 121; exact callsCalm (cut_any r.lo r.hi s.c s.d _))))
              refine wpQuiet_nil ?_
              rintro _ ⟨z, rfl⟩
              obtain ⟨V9, hV9⟩ : ∃ V9, z.val = V9 := ⟨_, rfl⟩
              have g9 := z.ok
              rw [hV9] at g9 ⊢
              have G9 := Lib.hid g9
              clear g9 hV9 u0 u1 u2 u3 u4 k0 k1 k2 k3 k4 z
              obtain ⟨i0, i1, i2, i3, i4⟩ := HKP.out V9 G9.out
              have f0 := own_freeR (S2'.out.ext G9.out) (t * 2)
              have f1 := own_freeR (S2'.out.ext G9.out) (t * 2 + 1)
              go_wp2_with fail
              have hO := (S2'.out.ext G9.out)
              have hp1 := hO.put1 rcells_len (x := r) (x' := ⟨max r.lo s.c, r.hi⟩) (u := .int .i64 (max r.lo s.c)) (j := 0) HX8.out (by decide) rfl
              have hlt : t < st.length := (List.getElem?_eq_some_iff.1 HX8.out).1
              have hp2 := hp1.put1 rcells_len (x := ⟨max r.lo s.c, r.hi⟩) (x' := ⟨max r.lo s.c, min r.hi s.d⟩) (u := .int .i64 (min r.hi s.d)) (j := 1) (i := t) (by rw [List.getElem?_set_self hlt]) (by decide) rfl
              rw [List.set_set] at hp2
              have hgb := (own_lt hO (k := gB) rfl).1
              have hA9 := HLT.out
              have h7 := HB7.out
              have hW := HWB.out
              go_roundw
              case rel => exact ⟨j + 1, by go_num, by omega, ((G2.out.trans (G9.out.mono G2.out.size)).setCell (p := ⟨gB, t * 2, none⟩) (by dsimp only; omega) _).setCell (p := ⟨gB, t * 2 + 1, none⟩) (by dsimp only; omega) _,
                ((B2'.out.ext G9.out).far (p := ⟨gB, t * 2, none⟩) (by dsimp only; omega) _).far (p := ⟨gB, t * 2 + 1, none⟩) (by dsimp only; omega) _,
                ((L2'.out.ext G9.out).apart (p := ⟨gB, t * 2, none⟩) (fun e => by have := hA9 _ e; dsimp only at this; omega) _).apart (p := ⟨gB, t * 2 + 1, none⟩) (fun e => by have := hA9 _ e; dsimp only at this; omega) _,
                by rw [HS2.out]; unfold nar; rw [HR.out]; exact hp2⟩
              case measure => simp [intOf]; omega
        · obtain rfl : n2 = j := by omega
          have HEND := Lib.hid (show OwnL rcells 2 33 V (b7 + 1) (.slice (some ⟨gB, 0, none⟩) q d) (standsF known m LL p.stands (stood0 p n)) by have := SV.out; rwa [List.take_of_length_le (by rw [HPA.out.l2.1]; exact Nat.le_refl _)] at this)
          have HBR := Lib.hid (HB2.out.ext GV.out)
          have m0 := HBR.out.cell 0
          have m1 := HBR.out.cell 1
          have z0 := HBR.out.frozen 0
          have z1 := HBR.out.frozen 1
          go_wp2_with fail
          have hb9 := (HBR.out.set_ 0 (.slice A n c)).set_ 1 (.slice (some ⟨gB, 0, none⟩) q d)
          have v0 := hb9.cell 0
          have v1 := hb9.cell 1
          have h3 := HSZ.out
          have h7 := HB7.out
          have HG9 := Lib.hid (((GA.out.trans (GV.out.mono GA.out.size)).setCell (p := ⟨w.heap.size + 1 + 1, 0, none⟩) (by dsimp only; omega) (.slice A n c)).setCell (p := ⟨w.heap.size + 1 + 1, 1, none⟩) (by dsimp only; omega) (.slice (some ⟨gB, 0, none⟩) q d))
          have HL9 := Lib.hid ((LV.out.far (p := ⟨w.heap.size + 1 + 1, 0, none⟩) (by dsimp only; omega) (.slice A n c)).far (p := ⟨w.heap.size + 1 + 1, 1, none⟩) (by dsimp only; omega) (.slice (some ⟨gB, 0, none⟩) q d))
          have HS9 := Lib.hid ((HEND.out.far (p := ⟨w.heap.size + 1 + 1, 0, none⟩) (by dsimp only; omega) (.slice A n c)).far (p := ⟨w.heap.size + 1 + 1, 1, none⟩) (by dsimp only; omega) (.slice (some ⟨gB, 0, none⟩) q d))
          have HAP := Lib.hid (show ∀ k, (Value.slice A n c).ownBlock = some k → (Value.slice (some ⟨gB, 0, none⟩) q d).ownBlock ≠ some k from fun k e e2 => by
            have h1 := HLT.out k e
            have h2 := (own_lt HEND.out e2).1
            omega)
          clear hb9
          refine bodyPost_ret (v := .agg #[.slice A n c, .slice (some ⟨gB, 0, none⟩) q d]) ?_ rfl ⟨⟨A, n, c, some ⟨gB, 0, none⟩, q, d, rfl, ?_, ?_, HAP.out⟩, HG9.out⟩
          · simp [results, Tryz.results120, go_sem, v0, v1]
          · rw [HLLE.out]; exact HL9.out.mono GA.out.size
          · rw [HLLE.out, HLL.out]; exact HS9.out.mono (by have := GA.out.size; omega)
end Go.Proofs.YtkoejeghihcmlaaGreat
