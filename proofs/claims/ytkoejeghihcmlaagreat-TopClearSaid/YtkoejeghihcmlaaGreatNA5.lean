/- Part of the proof: DG, DH, DI, DJ, DK, DL, DM, DN, DO, DP, DQ. -/
import Derived.Test.YtkoejeghihcmlaaGreatNA0
import Derived.Test.YtkoejeghihcmlaaGreatNA2
import Derived.Test.YtkoejeghihcmlaaGreatNA3
import Derived.Test.YtkoejeghihcmlaaGreatNA4
namespace Go.Proofs.YtkoejeghihcmlaaGreat
open Go.RowKit Go.Shelf
theorem isNaND_any (n : Int) (w : World) : Calls Tryz.prog 198 #[.int .i64 n] w fun e w' => e = .returned (.bool false) ∧ w = w' := by
 go_enter Tryz.func198, Tryz.ntmps198
 go_wp2_with fail
 go_ret
 exact ⟨by simp, rfl⟩
def cmpD (x y : Int) : Int := if x < y then -1 else if x = y then 0 else 1
theorem agn_cmp (a b : Int × Int) : agn a b = cmpD (a.1 * b.2) (b.1 * a.2) := rfl
set_option maxRecDepth 100000 in
theorem cmpD_any (x y : Int) (w : World) : Calls Tryz.prog 135 #[.int .i64 x, .int .i64 y] w fun e w' => e = .returned (.int .i64 (cmpD x y)) ∧ w = w' := by
 unfold cmpD
 by_cases h1 : x < y
 ·rw [if_pos h1]
  go_enter Tryz.func135, Tryz.ntmps135
  go_wp2_with (go_at_call 198; (with_reducible refine (isNaND_any _ _).mono ?_); rintro e V ⟨rfl, rfl⟩)
  go_ret
  exact ⟨rfl, rfl⟩
 ·rw [if_neg h1]
  by_cases h2 : x = y
  ·rw [if_pos h2]
   have h3 : ¬ (y < x) := by omega
   go_enter Tryz.func135, Tryz.ntmps135
   go_wp2_with (go_at_call 198; (with_reducible refine (isNaND_any _ _).mono ?_); rintro e V ⟨rfl, rfl⟩)
   go_ret
   exact ⟨rfl, rfl⟩
  ·rw [if_neg h2]
   have h3 : y < x := by omega
   go_enter Tryz.func135, Tryz.ntmps135
   go_wp2_with (go_at_call 198; (with_reducible refine (isNaND_any _ _).mono ?_); rintro e V ⟨rfl, rfl⟩)
   go_ret
   exact ⟨rfl, rfl⟩
/-- numbers of a gain in their bounds -/
def inG (a : Int × Int) : Prop := 0 ≤ a.1 ∧ a.1 ≤ 1000000 ∧ 0 ≤ a.2 ∧ a.2 ≤ 1000000
theorem mul_bdD {x y : Int} (h1 : 0 ≤ x) (h2 : x ≤ 1000000) (h3 : 0 ≤ y) (h4 : y ≤ 1000000) : 0 ≤ x * y ∧ x * y ≤ 1000000000000 := by
 refine ⟨Int.mul_nonneg h1 h3, ?_⟩
 have := Int.mul_le_mul h2 h4 h3 (by omega)
 omega
set_option maxRecDepth 100000 in
theorem against_any (a b : Int × Int) (w : World) (ha : inG a) (hb : inG b) : Calls Tryz.prog 98 #[prv a, prv b] w fun e w' => e = .returned (.int .i64 (agn a b)) ∧ Below w.heap.size w w' := by
 rw [agn_cmp]
 unfold inG at ha hb
 have m1 := mul_bdD ha.1 ha.2.1 hb.2.2.1 hb.2.2.2
 have m2 := mul_bdD hb.1 hb.2.1 ha.2.2.1 ha.2.2.2
 obtain ⟨p, hp⟩ : ∃ p, a.1 * b.2 = p := ⟨_, rfl⟩
 obtain ⟨q, hq⟩ : ∃ p, b.1 * a.2 = p := ⟨_, rfl⟩
 rw [hp] at m1 ⊢
 rw [hq] at m2 ⊢
 have w1 : IntKind.i64.wrap (a.1 * b.2) = p := by rw [hp, IntKind.wrap_i64]; omega
 have w2 : IntKind.i64.wrap (b.1 * a.2) = q := by rw [hq, IntKind.wrap_i64]; omega
 obtain ⟨W1, hW1⟩ : ∃ X, (w.alloc (.cells #[.int .i64 a.1, .int .i64 a.2] 174)).alloc (.cells #[.int .i64 b.1, .int .i64 b.2] 174) = X := ⟨_, rfl⟩
 have GW1 := Lib.hid (show Below w.heap.size w W1 by rw [← hW1]; exact (one_more _ _).alloc (by simp <;> omega) _)
 have BW1_0 := Lib.hid (show Blk W1 (w.heap.size) 174 #[.int .i64 a.1, .int .i64 a.2] by
  rw [← hW1]
  have := Blk.new w 174 #[.int .i64 a.1, .int .i64 a.2]
  (try simp only [World.size_alloc] at this)
  exact (this).alloc _)
 have BW1_1 := Lib.hid (show Blk W1 (w.heap.size + 1) 174 #[.int .i64 b.1, .int .i64 b.2] by
  rw [← hW1]
  have := Blk.new (w.alloc (.cells #[.int .i64 a.1, .int .i64 a.2] 174)) 174 #[.int .i64 b.1, .int .i64 b.2]
  (try simp only [World.size_alloc] at this)
  exact this)
 have HW1 := Lib.hid hW1
 clear hW1
 have d0 := BW1_0.out.cell 0
 have d1 := BW1_0.out.cell 1
 have e0 := BW1_1.out.cell 0
 have e1 := BW1_1.out.cell 1
 clear hp hq m1 m2
 go_enter Tryz.func98, Tryz.ntmps98
 go_upto_region 1 with fail
 rw [HW1.out]
 go_wp2_with (go_at_call 135; (with_reducible refine (cmpD_any p q _).mono ?_); rintro e V ⟨rfl, rfl⟩)
 go_ret
 exact ⟨rfl, GW1.out⟩
set_option maxRecDepth 100000 in
theorem compare_any (a b : Int × Int) (w : World) (ha : inG a) (hb : inG b) (ha1 : 1 ≤ a.2) (hb1 : 1 ≤ b.2) : Calls Tryz.prog 33 #[prv a, prv b] w fun e w' => e = .returned (.tuple #[.int .i64 (agn a b), .int .i64 0]) ∧ Below w.heap.size w w' := by
 unfold inG at ha hb
 have T1 := Lib.hid (fun W => isGain_any a ha.1 ha.2.1 ha1 ha.2.2.2 W)
 have T2 := Lib.hid (fun W => isGain_any b hb.1 hb.2.1 hb1 hb.2.2.2 W)
 have T3 := Lib.hid (fun W => against_any a b W ha hb)
 obtain ⟨q, hq⟩ : ∃ p, agn a b = p := ⟨_, rfl⟩
 rw [hq] at T3 ⊢
 obtain ⟨W1, hW1⟩ : ∃ X, (w.alloc (.cells #[.int .i64 a.1, .int .i64 a.2] 66)).alloc (.cells #[.int .i64 b.1, .int .i64 b.2] 66) = X := ⟨_, rfl⟩
 have GW1 := Lib.hid (show Below w.heap.size w W1 by rw [← hW1]; exact (one_more _ _).alloc (by simp <;> omega) _)
 have BW1_0 := Lib.hid (show Blk W1 (w.heap.size) 66 #[.int .i64 a.1, .int .i64 a.2] by
  rw [← hW1]
  have := Blk.new w 66 #[.int .i64 a.1, .int .i64 a.2]
  (try simp only [World.size_alloc] at this)
  exact (this).alloc _)
 have BW1_1 := Lib.hid (show Blk W1 (w.heap.size + 1) 66 #[.int .i64 b.1, .int .i64 b.2] by
  rw [← hW1]
  have := Blk.new (w.alloc (.cells #[.int .i64 a.1, .int .i64 a.2] 66)) 66 #[.int .i64 b.1, .int .i64 b.2]
  (try simp only [World.size_alloc] at this)
  exact this)
 have HW1 := Lib.hid hW1
 clear hW1
 clear hq
 go_enter Tryz.func33, Tryz.ntmps33
 go_upto_region 1 with fail
 rw [HW1.out]
 have d0 := BW1_0.out.cell 0
 have d1 := BW1_0.out.cell 1
 go_wp2_with (first
  | (go_at_call 94; (with_reducible refine (T1.out _).mono ?_); rintro e V ⟨rfl, hg⟩; have GV := Lib.hid hg; clear hg; have e0 := (BW1_1.out.ext GV.out).cell 0; have e1 := (BW1_1.out.ext GV.out).cell 1)
  | (go_at_call 94; (with_reducible refine (T2.out _).mono ?_); rintro e V2 ⟨rfl, hg⟩; have GV2 := Lib.hid (GV.out.trans (hg.mono GV.out.size)); clear hg; have f0 := (BW1_0.out.ext GV2.out).cell 0; have f1 := (BW1_0.out.ext GV2.out).cell 1; have g0 := (BW1_1.out.ext GV2.out).cell 0; have g1 := (BW1_1.out.ext GV2.out).cell 1)
  | (go_at_call 98; (with_reducible refine (T3.out _).mono ?_); rintro e V3 ⟨rfl, hg⟩; have GV3 := Lib.hid (GV2.out.trans (hg.mono GV2.out.size)); clear hg))
 go_ret2
 exact ⟨rfl, GW1.out.trans (GV3.out.mono GW1.out.size)⟩
set_option maxRecDepth 100000 in
theorem checkDrifts_any (g : Gd) (A1 A2 A3 : Option Addr) (n1 c1 n2 c2 n3 c3 : Nat) (l : List Cm) (D : Option Addr) (m cd : Nat) (ds : List (Int × Int)) (w : World) (hg : Ga w g A1 A2 n1 c1 n2 c2) (ho : OkG g) (hl : Sl ccells 4 w A3 n3 c3 l) (hol : OkL g l) (hd : Arr dcells 2 w D m ds) (hm : m ≤ 1000000) :
  Calls Tryz.prog 31 #[gv A1 A2 n1 c1 n2 c2, .slice A3 n3 c3, .slice D m cd] w fun e w' => e = .returned (.int .i64 (err (shr l ds (-1)) 46)) ∧ Below w.heap.size w w' := by
 obtain ⟨W1, hW1⟩ : ∃ X, w.alloc (.cells #[.slice A1 n1 c1, .slice A2 n2 c2] 47) = X := ⟨_, rfl⟩
 have GW1 := Lib.hid (show Below w.heap.size w W1 by rw [← hW1]; exact one_more _ _)
 have BW1_0 := Lib.hid (show Blk W1 (w.heap.size) 47 #[.slice A1 n1 c1, .slice A2 n2 c2] by
  rw [← hW1]
  have := Blk.new w 47 #[.slice A1 n1 c1, .slice A2 n2 c2]
  (try simp only [World.size_alloc] at this)
  exact this)
 have HW1 := Lib.hid hW1
 clear hW1
 have h12 : n3 ≤ 1000 := by have := hol.n; have := hl.1.1; omega
 have HLK := Lib.hid (lookD_any g A1 A2 A3 n1 c1 n2 c2 n3 c3 l W1 (hg.below GW1.out) ho (hl.below GW1.out) hol)
 have HSH := Lib.hid (fun b V (hp : Pt V b g l A1 A2 A3 n1 c1 n2 c2 n3 c3) (hb : Below W1.heap.size W1 V) => isSharing_any b g l A1 A2 A3 n1 c1 n2 c2 n3 c3 D m cd ds V hp (hd.below (GW1.out.trans (hb.mono GW1.out.size))) h12 hm)
 have d0 := BW1_0.out.cell 0
 have d1 := BW1_0.out.cell 1
 clear hg ho hl hol hd
 obtain ⟨sb, hsb⟩ : ∃ b, shr l ds (-1) = b := ⟨_, rfl⟩
 rw [hsb] at HSH ⊢
 clear hsb
 go_enter Tryz.func31, Tryz.ntmps31
 go_upto_region 1 with fail
 rw [HW1.out]
 go_upto_region 4 with (go_at_call 90; (with_reducible refine (HLK.out).mono ?_); rintro e V ⟨⟨b, rfl, -, hpt⟩, hgv⟩; have GV := Lib.hid hgv; have HPT := Lib.hid hpt; clear hgv hpt)
 cases sb with
 | false =>
  go_wp2_with (go_at_call 96; (with_reducible refine (HSH.out _ _ HPT.out GV.out).mono ?_); rintro e V2 ⟨rfl, hg⟩; have GX := Lib.hid (GW1.out.trans ((GV.out.trans (hg.mono GV.out.size)).mono GW1.out.size)); clear hg)
  go_ret
  exact ⟨rfl, GX.out⟩
 | true =>
  go_wp2_with (go_at_call 96; (with_reducible refine (HSH.out _ _ HPT.out GV.out).mono ?_); rintro e V2 ⟨rfl, hg⟩; have GX := Lib.hid (GW1.out.trans ((GV.out.trans (hg.mono GV.out.size)).mono GW1.out.size)); clear hg)
  go_ret
  exact ⟨rfl, GX.out⟩
theorem gns_cons_ (ws : List Int) (c : Cm) (l : List Cm) (d : Int × Int) (ds : List (Int × Int)) : gns ws (c :: l) (d :: ds) = gai ws c d :: gns ws l ds := rfl
set_option maxRecDepth 100000 in
set_option maxHeartbeats 4000000 in
theorem gains_any (b : Nat) (g : Gd) (l : List Cm) (A1 A2 A3 : Option Addr) (n1 c1 n2 c2 n3 c3 : Nat) (D : Option Addr) (m cd : Nat) (ds : List (Int × Int)) (w : World) (hp : Pt w b g l A1 A2 A3 n1 c1 n2 c2 n3 c3) (ho : OkG g) (hol : OkL g l) (hd : Arr dcells 2 w D m ds) (hs : shr l ds (-1) = true) :
  Calls Tryz.prog 97 #[.pointer (some ⟨b, 0, none⟩), .slice D m cd] w fun e w' => (∃ v, e = .returned v ∧ OwnL dcells 2 66 w' w.heap.size v (gns (wsG g) l ds)) ∧ Below w.heap.size w w' := by
 have HP := Lib.hid hp
 have HD := Lib.hid hd
 have hll := hp.l.1.1
 have hdl := hd.1
 have hel : g.cells.length = n2 := hp.g.e.1.1
 have h24 : n2 ≤ 24 := by have := ho.en; omega
 have HO := Lib.hid ho
 have HC := Lib.hid hol.c
 have h12 : n3 ≤ 12 := by have := hol.n; omega
 have hmn : m = n3 := by have := (gns_len (ws := []) hs).2; omega
 subst hmn
 have HV := Lib.hid (ho.valid hol)
 clear hp hd ho hol
 go_enter Tryz.func97, Tryz.ntmps97
 go_wp2_with fail
 go_loopw [5, 10] (fun v i wr => ∃ (k : Nat) (lv : Int) (u : Value) (done : List (Int × Int)), u = v ∧ k ≤ m ∧ i = .int .i64 k ∧ Below w.heap.size w wr ∧ OwnL dcells 2 66 wr w.heap.size v done ∧ done.length = k ∧ gns (wsG g) l ds = done ++ gns (wsG g) (l.drop k) (ds.drop k) ∧ shr (l.drop k) (ds.drop k) lv = true) (fun _ i _ => m - (intOf i).toNat)
 case atStart => exact ⟨0, -1, _, [], rfl, Nat.zero_le _, rfl, Below.refl _ _, OwnL.nil _ _, rfl, rfl, hs⟩
 case round =>
  obtain ⟨k, lv, u, done, rfl, hk, rfl, hg, hown, hdn, hgn, hsh⟩ := hrel
  have HG := Lib.hid hg
  have HOW := Lib.hid hown
  have HDN := Lib.hid hdn
  by_cases hkn : k < m
  ·obtain ⟨b1, o1, e1, -, -, hc1⟩ := d_at (HD.out.below hg) hkn
   obtain ⟨x0, x1⟩ := hc1 _ (Below.refl _ _)
   obtain ⟨b0, o0, e0, -, hmem, hc0⟩ := c_at (HP.out.l.1.below hg) hkn
   have hokc := HC.out _ hmem
   rw [drop_cat (by omega), drop_dat (by omega)] at hsh hgn
   obtain ⟨x, hxe⟩ : ∃ x, dat ds k = x := ⟨_, rfl⟩
   obtain ⟨c, hce⟩ : ∃ x, cat l k = x := ⟨_, rfl⟩
   rw [hxe] at x0 x1 hsh hgn
   rw [hce] at hc0 hsh hgn hokc
   rw [shr_cons, Bool.and_eq_true, decide_eq_true_eq] at hsh
   rw [gns_cons_] at hgn
   unfold okC at hokc
   have HGN := Lib.hid hgn
   have HSH := Lib.hid hsh.2
   obtain ⟨W2, hW2⟩ : ∃ X, wr.alloc (.cells #[.int .i64 x.1, .int .i64 x.2] 84) = X := ⟨_, rfl⟩
   have GW2 := Lib.hid (show Below wr.heap.size wr W2 by rw [← hW2]; exact one_more _ _)
   have BW2_0 := Lib.hid (show Blk W2 (wr.heap.size) 84 #[.int .i64 x.1, .int .i64 x.2] by
    rw [← hW2]
    have := Blk.new wr 84 #[.int .i64 x.1, .int .i64 x.2]
    (try simp only [World.size_alloc] at this)
    exact this)
   have HW2 := Lib.hid hW2
   clear hW2
   have G2 := Lib.hid (HG.out.trans (GW2.out.mono HG.out.size))
   obtain ⟨-, y41, -, -⟩ := hc0 _ GW2.out
   have HK := Lib.hid (fun X (hx : Below W2.heap.size W2 X) => (show X.cell? ⟨b, 0, none⟩ = some (.slice A1 n1 c1) ∧ X.cell? ⟨b, 1, none⟩ = some (.slice A2 n2 c2) ∧ X.cell? ⟨b, 2, none⟩ = some (.slice A3 m c3) ∧ X.cell? ⟨wr.heap.size, 0, none⟩ = some (.int .i64 x.1) ∧ X.cell? ⟨wr.heap.size, 1, none⟩ = some (.int .i64 x.2) ∧ X.cell? ⟨b0, o0 + k * 4 + 1, none⟩ = some (.int .i64 c.hd) from
    ⟨((HP.out.b.ext G2.out).ext hx).cell 0, ((HP.out.b.ext G2.out).ext hx).cell 1, ((HP.out.b.ext G2.out).ext hx).cell 2, (BW2_0.out.ext hx).cell 0, (BW2_0.out.ext hx).cell 1, (hc0 _ (GW2.out.trans (hx.mono GW2.out.size))).2.1⟩))
   have HC0 := Lib.hid (fun X (hx : Below w.heap.size w X) => (show X.cell? ⟨b0, o0 + k * 4 + 1, none⟩ = some (.int .i64 c.hd) from by
    obtain ⟨b9, o9, e9, -, -, hc9⟩ := c_at HP.out.l.1 hkn
    rw [e0] at e9
    cases e9
    rw [hce] at hc9
    exact (hc9 X hx).2.1))
   obtain ⟨k0, k1, k2, k3, k4, k5⟩ := HK.out _ (Below.refl _ _)
   have HTW := Lib.hid (fun X (hx : Below W2.heap.size W2 X) => worth_any g A1 A2 n1 c1 n2 c2 x.1 x.2 X ((HP.out.g.below G2.out).below hx) HO.out (by omega) (by omega) (by omega) (by omega))
   have hwb := HV.out.wor_bd x.1 x.2
   have HGI := Lib.hid (show gai (wsG g) c x = low (wor (wsG g) x.1 x.2) c.hd from rfl)
   obtain ⟨wv, hwv⟩ : ∃ n, wor (wsG g) x.1 x.2 = n := ⟨_, rfl⟩
   rw [hwv] at hwb HGI HTW
   have HTL := Lib.hid (fun X => lowest_any wv c.hd X (by omega) (by omega) (by omega) (by omega))
   obtain ⟨gx, hgx⟩ : ∃ n, low wv c.hd = n := ⟨_, rfl⟩
   rw [hgx] at HGI HTL
   subst e1
   cases e0
   clear hg hsh hgn hc1 hc0 hxe hce hown hwv hgx hmem y41
   go_upto_region 5 with fail
   rw [HW2.out]
   clear x0 x1
   have HA3 := Lib.hid (fun (X : World) => (show Arr dcells 2 (X.alloc (.cells #[.int .i64 gx.1, .int .i64 gx.2] 66)) (some ⟨X.heap.size, 0, none⟩) 1 [gx] from (Blk.new X 66 #[.int .i64 gx.1, .int .i64 gx.2]).arr1 (f := dcells)))
   have HO3 := Lib.hid (fun X (hx : Below W2.heap.size W2 X) => (show OwnL dcells 2 66 (X.alloc (.cells #[.int .i64 gx.1, .int .i64 gx.2] 66)) w.heap.size u done ∧ w.heap.size ≤ (X.alloc (.cells #[.int .i64 gx.1, .int .i64 gx.2] 66)).heap.size ∧ Below w.heap.size w (X.alloc (.cells #[.int .i64 gx.1, .int .i64 gx.2] 66)) from by
    have h1 : Below W2.heap.size W2 (X.alloc (.cells #[.int .i64 gx.1, .int .i64 gx.2] 66)) := hx.alloc hx.size _
    exact ⟨HOW.out.ext (GW2.out.trans (h1.mono GW2.out.size)), Nat.le_trans G2.out.size h1.size, G2.out.trans (h1.mono G2.out.size)⟩))
   have HOL := Lib.hid (fun r (e : u.ownBlock = some r) => (World.ownsRow.lt HOW.out r e).2)
   have HLE := Lib.hid (show done.length + 1 ≤ 1000000 by have := HDN.out; omega)
   go_region_held3 (fun X => X.cell? ⟨b, 0, none⟩ = some (.slice A1 n1 c1) ∧ X.cell? ⟨b, 1, none⟩ = some (.slice A2 n2 c2) ∧ X.cell? ⟨b, 2, none⟩ = some (.slice (some ⟨b0, o0, none⟩) m c3) ∧ X.cell? ⟨wr.heap.size, 0, none⟩ = some (.int .i64 x.1) ∧ X.cell? ⟨wr.heap.size, 1, none⟩ = some (.int .i64 x.2) ∧ X.cell? ⟨b0, o0 + k * 4 + 1, none⟩ = some (.int .i64 c.hd))
    (first | exact HK.out _ (by exact (Below.refl _ _).drew) | exact HK.out _ G8.out | exact HK.out _ G9.out | exact HK.out _ (G9.out.alloc G9.out.size _) | exact ⟨(HP.out.b.ext HGC.out).cell 0, (HP.out.b.ext HGC.out).cell 1, (HP.out.b.ext HGC.out).cell 2, HXB.out.cell 0, HXB.out.cell 1, (HC0.out _ HGC.out)⟩)
    (first
     | (go_at_call 176; (with_reducible refine (HTW.out _ (Below.refl _ _).drew).mono ?_); rintro e W8 ⟨rfl, g8⟩; have G8 := Lib.hid (show Below W2.heap.size W2 W8 from ((Below.refl _ _).drew).trans (g8.mono (Nat.le_refl _))); clear g8)
     | (go_at_call 178; (with_reducible refine (HTL.out _).mono ?_); rintro e W9 ⟨rfl, g9⟩; have G9 := Lib.hid (G8.out.trans (g9.mono G8.out.size)); clear g9)
     | (refine step_app kdGn (by rfl) _ _ (by rfl) w.heap.size u done (by rfl) (HO3.out _ G9.out).1 (some ⟨W9.heap.size, 0, none⟩) 1 1 [gx] (by rfl) (HA3.out W9) HLE.out (HO3.out _ G9.out).2.1 ?_; intro v1 w1 ho1 hg1 hat1; have hbw := (HO3.out _ G9.out).1.below hg1 (Nat.le_refl w.heap.size) (HO3.out _ G9.out).2.1; have HGC := Lib.hid ((HO3.out _ G9.out).2.2.trans hbw); have HO1 := Lib.hid ho1; have HXB := Lib.hid (show Blk w1 wr.heap.size 84 #[.int .i64 x.1, .int .i64 x.2] from (hg1.block wr.heap.size ((BW2_0.out.ext (G9.out.alloc G9.out.size (.cells #[.int .i64 gx.1, .int .i64 gx.2] 66))).lt) (fun e => by have := HOL.out _ e.symm; omega)).trans (BW2_0.out.ext (G9.out.alloc G9.out.size (.cells #[.int .i64 gx.1, .int .i64 gx.2] 66)))); clear hbw ho1 hg1 hat1))
   all_goals go_wp2_with fail
   all_goals go_roundw
   case rel => exact ⟨k + 1, x.2, _, done ++ [gx], rfl, by omega, by go_num, HGC.out, HO1.out, by rw [List.length_append, HDN.out]; rfl, by rw [HGN.out, HGI.out, List.append_assoc]; rfl, HSH.out⟩
   case measure => simp [intOf]; omega
  ·obtain rfl : m = k := by omega
   have HE := Lib.hid (show OwnL dcells 2 66 wr w.heap.size u (gns (wsG g) l ds) by
    rw [hgn, List.drop_of_length_le (by omega)]
    have : gns (wsG g) [] (List.drop m ds) = [] := by cases List.drop m ds <;> rfl
    rw [this, List.append_nil]; exact hown)
   clear hown hgn hsh hg
   go_wp2_with fail
   go_ret
   exact ⟨⟨_, rfl, HE.out⟩, HG.out⟩
end Go.Proofs.YtkoejeghihcmlaaGreat

namespace Go.Proofs.YtkoejeghihcmlaaGreat
open Go.RowKit Go.Shelf
set_option maxRecDepth 100000 in
theorem anything_any (c : Cm) (n : Int) (w : World) : Calls Tryz.prog 93 #[cv c, .int .i64 n] w fun e w' => e = .returned (.bool (any_ c n)) ∧ Below w.heap.size w w' := by
 obtain ⟨W1, hW1⟩ : ∃ X, w.alloc (.cells #[.int .i64 c.fam, .int .i64 c.hd, .int .i64 c.lo, .int .i64 c.hi] 87) = X := ⟨_, rfl⟩
 have GW1 := Lib.hid (show Below w.heap.size w W1 by rw [← hW1]; exact one_more _ _)
 have BW1_0 := Lib.hid (show Blk W1 (w.heap.size) 87 #[.int .i64 c.fam, .int .i64 c.hd, .int .i64 c.lo, .int .i64 c.hi] by
  rw [← hW1]
  have := Blk.new w 87 #[.int .i64 c.fam, .int .i64 c.hd, .int .i64 c.lo, .int .i64 c.hi]
  (try simp only [World.size_alloc] at this)
  exact this)
 have HW1 := Lib.hid hW1
 clear hW1
 go_enter Tryz.func93, Tryz.ntmps93
 go_upto_region 1 with fail
 rw [HW1.out]
 go_wp2_with fail
 go_ret
 exact ⟨rfl, GW1.out⟩
set_option maxRecDepth 100000 in
theorem above1_any (gn : Int × Int) (bg : Nat) (c : Cm) (n : Int) (w : World) (hb : Blk w bg 66 #[.int .i64 gn.1, .int .i64 gn.2]) (hg : inG gn) (hn : 0 ≤ n) (hn2 : n ≤ 1000000) (hc : 0 ≤ c.hd) (hc2 : c.hd ≤ 1000000) :
  Calls Tryz.prog 211 #[cv c, .int .i64 n, .pointer (some ⟨bg, 0, none⟩)] w fun e w' => e = .returned (.bool (abv gn c n)) ∧ Below w.heap.size w w' := by
 obtain ⟨W1, hW1⟩ : ∃ X, w.alloc (.cells #[.int .i64 c.fam, .int .i64 c.hd, .int .i64 c.lo, .int .i64 c.hi] 87) = X := ⟨_, rfl⟩
 have GW1 := Lib.hid (show Below w.heap.size w W1 by rw [← hW1]; exact one_more _ _)
 have BW1_0 := Lib.hid (show Blk W1 (w.heap.size) 87 #[.int .i64 c.fam, .int .i64 c.hd, .int .i64 c.lo, .int .i64 c.hi] by
  rw [← hW1]
  have := Blk.new w 87 #[.int .i64 c.fam, .int .i64 c.hd, .int .i64 c.lo, .int .i64 c.hi]
  (try simp only [World.size_alloc] at this)
  exact this)
 have HW1 := Lib.hid hW1
 clear hW1
 have T := Lib.hid (fun W => against_any (n, c.hd) gn W ⟨hn, hn2, hc, hc2⟩ hg)
 have HAB := Lib.hid (show abv gn c n = decide (0 < agn (n, c.hd) gn) from rfl)
 obtain ⟨q, hq⟩ : ∃ q, agn (n, c.hd) gn = q := ⟨_, rfl⟩
 rw [hq] at T HAB
 have d0 := BW1_0.out.cell 1
 have e0 := (hb.ext GW1.out).cell 0
 have e1 := (hb.ext GW1.out).cell 1
 clear hb hq
 go_enter Tryz.func211, Tryz.ntmps211
 go_upto_region 1 with fail
 rw [HW1.out]
 go_wp2_with (go_at_call 98; (with_reducible refine (T.out _).mono ?_); rintro e V ⟨rfl, hg⟩; have GV := Lib.hid (GW1.out.trans (hg.mono GW1.out.size)); clear hg)
 go_ret
 exact ⟨ret_bool HAB.out.symm, GV.out⟩
set_option maxRecDepth 100000 in
theorem above_any (gn : Int × Int) (w : World) : Calls Tryz.prog 173 #[prv gn] w fun e w' => (e = .returned (.func (.func 211) #[] #[.pointer (some ⟨w.heap.size, 0, none⟩)]) ∧ Blk w' w.heap.size 66 #[.int .i64 gn.1, .int .i64 gn.2]) ∧ Below w.heap.size w w' := by
 obtain ⟨W1, hW1⟩ : ∃ X, w.alloc (.cells #[.int .i64 gn.1, .int .i64 gn.2] 66) = X := ⟨_, rfl⟩
 have GW1 := Lib.hid (show Below w.heap.size w W1 by rw [← hW1]; exact one_more _ _)
 have BW1_0 := Lib.hid (show Blk W1 (w.heap.size) 66 #[.int .i64 gn.1, .int .i64 gn.2] by
  rw [← hW1]
  have := Blk.new w 66 #[.int .i64 gn.1, .int .i64 gn.2]
  (try simp only [World.size_alloc] at this)
  exact this)
 have HW1 := Lib.hid hW1
 clear hW1
 go_enter Tryz.func173, Tryz.ntmps173
 go_upto_region 1 with fail
 rw [HW1.out]
 go_wp2_with fail
 go_ret
 exact ⟨⟨rfl, BW1_0.out⟩, GW1.out⟩
set_option maxRecDepth 100000 in
theorem poorest1_any (a b : Int × Int) (w : World) (ha : inG a) (hb : inG b) : Calls Tryz.prog 210 #[prv a, prv b] w fun e w' => e = .returned (.int .i64 (agn a b)) ∧ Below w.heap.size w w' := by
 obtain ⟨W1, hW1⟩ : ∃ X, (w.alloc (.cells #[.int .i64 a.1, .int .i64 a.2] 66)).alloc (.cells #[.int .i64 b.1, .int .i64 b.2] 66) = X := ⟨_, rfl⟩
 have GW1 := Lib.hid (show Below w.heap.size w W1 by rw [← hW1]; exact (one_more _ _).alloc (by simp <;> omega) _)
 have BW1_0 := Lib.hid (show Blk W1 (w.heap.size) 66 #[.int .i64 a.1, .int .i64 a.2] by
  rw [← hW1]
  have := Blk.new w 66 #[.int .i64 a.1, .int .i64 a.2]
  (try simp only [World.size_alloc] at this)
  exact (this).alloc _)
 have BW1_1 := Lib.hid (show Blk W1 (w.heap.size + 1) 66 #[.int .i64 b.1, .int .i64 b.2] by
  rw [← hW1]
  have := Blk.new (w.alloc (.cells #[.int .i64 a.1, .int .i64 a.2] 66)) 66 #[.int .i64 b.1, .int .i64 b.2]
  (try simp only [World.size_alloc] at this)
  exact this)
 have HW1 := Lib.hid hW1
 clear hW1
 have T := Lib.hid (fun W => against_any a b W ha hb)
 have d0 := BW1_0.out.cell 0
 have d1 := BW1_0.out.cell 1
 have e0 := BW1_1.out.cell 0
 have e1 := BW1_1.out.cell 1
 go_enter Tryz.func210, Tryz.ntmps210
 go_upto_region 1 with fail
 rw [HW1.out]
 go_wp2_with (go_at_call 98; (with_reducible refine (T.out _).mono ?_); rintro e V ⟨rfl, hg⟩; have GV := Lib.hid (GW1.out.trans (hg.mono GW1.out.size)); clear hg)
 go_ret
 exact ⟨rfl, GV.out⟩
theorem poo_drop {l : List (Int × Int)} (h : l ≠ []) : poo l = (l.drop 1).foldl lea2 (dat l 0) := by
 cases l with
 | nil => exact absurd rfl h
 | cons g l => rfl
theorem foldl_drop {l : List (Int × Int)} {k : Nat} (h : k < l.length) (m : Int × Int) : (l.drop k).foldl lea2 m = (l.drop (k + 1)).foldl lea2 (lea2 m (dat l k)) := by
 rw [drop_dat h, List.foldl_cons]
set_option maxRecDepth 100000 in
set_option maxHeartbeats 4000000 in
theorem minFunc_any (A : Option Addr) (n cp : Nat) (l : List (Int × Int)) (w : World) (h : Arr dcells 2 w A n l) (h0 : 0 < n) (hn : n ≤ 1000) (hl : ∀ x ∈ l, inG x) :
  Calls Tryz.prog 209 #[.slice A n cp, .func (.func 210) #[] #[]] w fun e w' => e = .returned (prv (poo l)) ∧ Below w.heap.size w w' := by
 have HL := Lib.hid h
 have HI := Lib.hid hl
 have hlen := h.1
 have HPO := Lib.hid (poo_drop (l := l) (fun e => by rw [e] at hlen; simp at hlen; omega))
 obtain ⟨b0, o0, e0, -, hm0, hc0⟩ := d_at h h0
 have hi0 := hl _ hm0
 obtain ⟨g, hge⟩ : ∃ g, dat l 0 = g := ⟨_, rfl⟩
 rw [hge] at hc0 hi0 HPO
 obtain ⟨W1, hW1⟩ : ∃ X, (w.alloc (.cells #[.int .i64 0, .int .i64 0] 66)).alloc (.cells #[.int .i64 g.1, .int .i64 g.2] 66) = X := ⟨_, rfl⟩
 have GW1 := Lib.hid (show Below w.heap.size w W1 by rw [← hW1]; exact (one_more _ _).alloc (by simp <;> omega) _)
 have BW1_0 := Lib.hid (show Blk W1 (w.heap.size) 66 #[.int .i64 0, .int .i64 0] by
  rw [← hW1]
  have := Blk.new w 66 #[.int .i64 0, .int .i64 0]
  (try simp only [World.size_alloc] at this)
  exact (this).alloc _)
 have BW1_1 := Lib.hid (show Blk W1 (w.heap.size + 1) 66 #[.int .i64 g.1, .int .i64 g.2] by
  rw [← hW1]
  have := Blk.new (w.alloc (.cells #[.int .i64 0, .int .i64 0] 66)) 66 #[.int .i64 g.1, .int .i64 g.2]
  (try simp only [World.size_alloc] at this)
  exact this)
 have HW1 := Lib.hid hW1
 clear hW1
 obtain ⟨z0, z1⟩ := hc0 _ ((one_more w (.cells #[.int .i64 0, .int .i64 0] 66)))
 have hn1 : ¬ ((n : Int) < 1) := by omega
 rw [Nat.zero_mul, Nat.add_zero] at z0 z1
 subst e0
 clear h hl hc0 hge hm0
 go_enter Tryz.func209, Tryz.ntmps209
 go_upto_region 4 with fail
 rw [HW1.out]
 clear z0 z1
 go_wp2_with fail
 go_loopw [6] (fun i wr => ∃ (k : Nat) (mn : Int × Int), 1 ≤ k ∧ k ≤ n ∧ i = .int .i64 k ∧ Below w.heap.size w wr ∧ Blk wr (w.heap.size + 1) 66 #[.int .i64 mn.1, .int .i64 mn.2] ∧ Blk wr w.heap.size 66 #[.int .i64 0, .int .i64 0] ∧ inG mn ∧ poo l = (l.drop k).foldl lea2 mn) (fun i _ => n - (intOf i).toNat)
 case atStart => exact ⟨1, g, Nat.le_refl _, h0, rfl, GW1.out, BW1_1.out, BW1_0.out, hi0, HPO.out⟩
 case round =>
  obtain ⟨k, mn, hk1, hk, rfl, hg, hb, hbr, hin, hpo⟩ := hrel
  have HG := Lib.hid hg
  have HB := Lib.hid hb
  have HBR := Lib.hid hbr
  have HIN := Lib.hid hin
  by_cases hkn : k < n
  ·obtain ⟨b1, o1, e1, -, hmem, hc⟩ := d_at (HL.out.below hg) hkn
   cases e1
   rw [foldl_drop (by omega)] at hpo
   have hix := HI.out _ hmem
   obtain ⟨x, hxe⟩ : ∃ x, dat l k = x := ⟨_, rfl⟩
   rw [hxe] at hc hpo hix
   have HC := Lib.hid hc
   have HPOS := Lib.hid hpo
   have T := Lib.hid (fun V => poorest1_any x mn V hix hin)
   have HLE := Lib.hid (show lea2 mn x = if agn x mn < 0 then x else mn from rfl)
   obtain ⟨q, hq⟩ : ∃ q, agn x mn = q := ⟨_, rfl⟩
   rw [hq] at T HLE
   have x0 := cellW (hc _ (Below.refl _ _)).1
   have x1 := cellW (hc _ (Below.refl _ _)).2
   have m0 := cellW (hb.cell 0)
   have m1 := cellW (hb.cell 1)
   have HIX := Lib.hid hix
   clear hc hpo hxe hq hix hin hb hg hmem hbr
   go_upto_region 7 with fail
   refine wp_region_calm wr (by kernel_rfl) (by kernel_rfl) (Below.refl _ _) ?_
   repeat (go_big_quiet_step ((go_at_call 210; exact callsCalm (T.out _))))
   refine wpQuiet_nil ?_
   rintro _ ⟨z, rfl⟩
   obtain ⟨V3, hV3⟩ : ∃ V, z.val = V := ⟨_, rfl⟩
   have G3 := Lib.hid (show Below wr.heap.size wr V3 by rw [← hV3]; exact z.ok)
   rw [hV3]
   clear hV3 z x0 x1 m0 m1
   have GX := Lib.hid (HG.out.trans (G3.out.mono HG.out.size))
   have B3 := Lib.hid (HB.out.ext G3.out)
   have BR3 := Lib.hid (HBR.out.ext G3.out)
   by_cases hq0 : q < 0
   ·have x0 := (HC.out _ G3.out).1
    have x1 := (HC.out _ G3.out).2
    have f0 := B3.out.frozen 0
    have f1 := B3.out.frozen 1
    have c0 := B3.out.cell 0
    have c1 := B3.out.cell 1
    have HE := Lib.hid (show lea2 mn x = x by rw [HLE.out, if_pos hq0])
    have hx := (GX.out.setCell (p := ⟨w.heap.size + 1, 0, none⟩) (by dsimp only; omega) (.int .i64 x.1)).setCell (p := ⟨w.heap.size + 1, 1, none⟩) (by dsimp only; omega) (.int .i64 x.2)
    have hy := (B3.out.set_ 0 (.int .i64 x.1)).set_ 1 (.int .i64 x.2)
    have hz := (BR3.out.far (p := ⟨w.heap.size + 1, 0, none⟩) (by show w.heap.size ≠ w.heap.size + 1; omega) (.int .i64 x.1)).far (p := ⟨w.heap.size + 1, 1, none⟩) (by show w.heap.size ≠ w.heap.size + 1; omega) (.int .i64 x.2)
    have HX := Lib.hid hx
    have HY := Lib.hid hy
    have HZ := Lib.hid hz
    clear hx hy hz
    go_wp2_with fail
    go_roundw
    case rel => exact ⟨k + 1, x, by omega, by omega, by go_num, HX.out, HY.out, HZ.out, HIX.out, by rw [HPOS.out, HE.out]⟩
    case measure => simp [intOf]; omega
   ·have HE := Lib.hid (show lea2 mn x = mn by rw [HLE.out, if_neg hq0])
    go_wp2_with fail
    go_roundw
    case rel => exact ⟨k + 1, mn, by omega, by omega, by go_num, GX.out, B3.out, BR3.out, HIN.out, by rw [HPOS.out, HE.out]⟩
    case measure => simp [intOf]; omega
  ·obtain rfl : n = k := by omega
   have HE := Lib.hid (show poo l = mn by rw [hpo, List.drop_of_length_le (by omega)]; rfl)
   have c0 := hb.cell 0
   have c1 := hb.cell 1
   have f0 := hbr.frozen 0
   have f1 := hbr.frozen 1
   have r0 := hbr.cell 0
   have r1 := hbr.cell 1
   have hb2 := (hbr.set_ 0 (.int .i64 mn.1)).set_ 1 (.int .i64 mn.2)
   have t0 := hb2.cell 0
   have t1 := hb2.cell 1
   have hx := (hg.setCell (p := ⟨w.heap.size, 0, none⟩) (by dsimp only; omega) (.int .i64 mn.1)).setCell (p := ⟨w.heap.size, 1, none⟩) (by dsimp only; omega) (.int .i64 mn.2)
   have HX := Lib.hid hx
   clear hx hb2 hpo hg hb hbr hin
   go_wp2_with fail
   refine bodyPost_ret (v := prv mn) ?_ rfl ⟨by rw [HE.out], HX.out⟩
   simp [results, Tryz.results209, go_sem, t0, t1]
set_option maxRecDepth 100000 in
theorem poorest_any (A : Option Addr) (n cp : Nat) (l : List (Int × Int)) (w : World) (h : Arr dcells 2 w A n l) (h0 : 0 < n) (hn : n ≤ 1000) (hl : ∀ x ∈ l, inG x) :
  Calls Tryz.prog 172 #[.slice A n cp] w fun e w' => e = .returned (prv (poo l)) ∧ Below w.heap.size w w' := by
 obtain ⟨W1, hW1⟩ : ∃ X, w.alloc (.cells #[.int .i64 0, .int .i64 0] 66) = X := ⟨_, rfl⟩
 have GW1 := Lib.hid (show Below w.heap.size w W1 by rw [← hW1]; exact one_more _ _)
 have BW1_0 := Lib.hid (show Blk W1 (w.heap.size) 66 #[.int .i64 0, .int .i64 0] by
  rw [← hW1]
  have := Blk.new w 66 #[.int .i64 0, .int .i64 0]
  (try simp only [World.size_alloc] at this)
  exact this)
 have HW1 := Lib.hid hW1
 clear hW1
 have T := Lib.hid (minFunc_any A n cp l W1 (h.below GW1.out) h0 hn hl)
 obtain ⟨q, hq⟩ : ∃ q, poo l = q := ⟨_, rfl⟩
 rw [hq] at T ⊢
 clear h hl hq
 go_enter Tryz.func172, Tryz.ntmps172
 go_upto_region 1 with fail
 rw [HW1.out]
 go_wp2_with (go_at_call 209; (with_reducible refine (T.out).mono ?_); rintro e V ⟨rfl, hg⟩; have GV := Lib.hid (GW1.out.trans (hg.mono GW1.out.size)); have BV := Lib.hid (BW1_0.out.ext hg); clear hg; have f0 := BV.out.frozen 0; have f1 := BV.out.frozen 1; have c0 := BV.out.cell 0; have c1 := BV.out.cell 1)
 have hb2 := (BV.out.set_ 0 (.int .i64 q.1)).set_ 1 (.int .i64 q.2)
 have t0 := hb2.cell 0
 have t1 := hb2.cell 1
 have hx := (GV.out.setCell (p := ⟨w.heap.size, 0, none⟩) (by dsimp only; omega) (.int .i64 q.1)).setCell (p := ⟨w.heap.size, 1, none⟩) (by dsimp only; omega) (.int .i64 q.2)
 refine bodyPost_ret (v := prv q) ?_ rfl ⟨rfl, hx⟩
 simp [results, Tryz.results172, go_sem, t0, t1]
set_option maxRecDepth 100000 in
set_option maxHeartbeats 2000000 in
theorem gainsF_any (g : Gd) (A1 A2 A3 : Option Addr) (n1 c1 n2 c2 n3 c3 : Nat) (l : List Cm) (D : Option Addr) (m cd : Nat) (ds : List (Int × Int)) (w : World) (hg : Ga w g A1 A2 n1 c1 n2 c2) (ho : OkG g) (hl : Sl ccells 4 w A3 n3 c3 l) (hol : OkL g l) (hd : Arr dcells 2 w D m ds) (hm : m ≤ 1000000) :
  Calls Tryz.prog 32 #[gv A1 A2 n1 c1 n2 c2, .slice A3 n3 c3, .slice D m cd] w fun e w' => (∃ v er, e = .returned (.tuple #[v, .int .i64 er]) ∧ er = err (shr l ds (-1)) 46 ∧ (shr l ds (-1) = true → OwnL dcells 2 66 w' w.heap.size v (gns (wsG g) l ds))) ∧ Below w.heap.size w w' := by
 obtain ⟨W1, hW1⟩ : ∃ X, w.alloc (.cells #[.slice A1 n1 c1, .slice A2 n2 c2] 47) = X := ⟨_, rfl⟩
 have GW1 := Lib.hid (show Below w.heap.size w W1 by rw [← hW1]; exact one_more _ _)
 have BW1_0 := Lib.hid (show Blk W1 (w.heap.size) 47 #[.slice A1 n1 c1, .slice A2 n2 c2] by
  rw [← hW1]
  have := Blk.new w 47 #[.slice A1 n1 c1, .slice A2 n2 c2]
  (try simp only [World.size_alloc] at this)
  exact this)
 have HW1 := Lib.hid hW1
 clear hW1
 have HGA := Lib.hid (hg.below GW1.out)
 have HLA := Lib.hid (hl.below GW1.out)
 have HDA := Lib.hid (hd.below GW1.out)
 have HCK := Lib.hid (checkDrifts_any g A1 A2 A3 n1 c1 n2 c2 n3 c3 l D m cd ds W1 HGA.out ho HLA.out hol HDA.out hm)
 have HO := Lib.hid ho
 have HOL := Lib.hid hol
 have d0 := BW1_0.out.cell 0
 have d1 := BW1_0.out.cell 1
 clear hg ho hl hol hd
 obtain ⟨sb, hsb⟩ : ∃ b, shr l ds (-1) = b := ⟨_, rfl⟩
 rw [hsb] at HCK ⊢
 have HSB := Lib.hid hsb
 clear hsb
 go_enter Tryz.func32, Tryz.ntmps32
 go_upto_region 1 with fail
 rw [HW1.out]
 cases sb with
 | false =>
  go_wp2_with (go_at_call 31; (with_reducible refine (HCK.out).mono ?_); rintro e V ⟨rfl, hgv⟩; have GV := Lib.hid (GW1.out.trans (hgv.mono GW1.out.size)); clear hgv; rw [show err false 46 = 46 from rfl])
  go_ret2
  exact ⟨⟨_, _, rfl, rfl, fun h => (by cases h)⟩, GV.out⟩
 | true =>
  go_upto_region 4 with (go_at_call 31; (with_reducible refine (HCK.out).mono ?_); rintro e V ⟨rfl, hgv⟩; have GV := Lib.hid hgv; clear hgv; rw [show err true 46 = 0 from rfl])
  rename World => V1
  have e0 := (BW1_0.out.ext GV.out).cell 0
  have e1 := (BW1_0.out.ext GV.out).cell 1
  clear d0 d1
  obtain ⟨W2, hW2⟩ : ∃ X, V1.alloc (.cells #[.slice A1 n1 c1, .slice A2 n2 c2, .slice A3 n3 c3] 170) = X := ⟨_, rfl⟩
  have GW2 := Lib.hid (show Below V1.heap.size V1 W2 by rw [← hW2]; exact one_more _ _)
  have BW2_0 := Lib.hid (show Blk W2 (V1.heap.size) 170 #[.slice A1 n1 c1, .slice A2 n2 c2, .slice A3 n3 c3] by
   rw [← hW2]
   have := Blk.new V1 170 #[.slice A1 n1 c1, .slice A2 n2 c2, .slice A3 n3 c3]
   (try simp only [World.size_alloc] at this)
   exact this)
  have HW2 := Lib.hid hW2
  clear hW2
  have HPT := Lib.hid (show Pt W2 V1.heap.size g l A1 A2 A3 n1 c1 n2 c2 n3 c3 from ⟨BW2_0.out, (HGA.out.below GV.out).below GW2.out, (HLA.out.below GV.out).below GW2.out⟩)
  have HGN := Lib.hid (gains_any V1.heap.size g l A1 A2 A3 n1 c1 n2 c2 n3 c3 D m cd ds W2 HPT.out HO.out HOL.out ((HDA.out.below GV.out).below GW2.out) HSB.out)
  have G2 := Lib.hid (GW1.out.trans ((GV.out.trans (GW2.out.mono GV.out.size)).mono GW1.out.size))
  go_upto_region 5 with fail
  rw [HW2.out]
  have h2s := G2.out.size
  go_wp2_with (go_at_call 97; (with_reducible refine (HGN.out).mono ?_); rintro e V3 ⟨⟨v, rfl, ho⟩, hg3⟩; have HO3 := Lib.hid ho; have G3 := Lib.hid (G2.out.trans (hg3.mono G2.out.size)); clear ho hg3)
  go_ret2
  exact ⟨⟨v, 0, rfl, rfl, HO3.out.mono h2s⟩, G3.out⟩
end Go.Proofs.YtkoejeghihcmlaaGreat

namespace Go.Proofs.YtkoejeghihcmlaaGreat
open Go.RowKit Go.Shelf
attribute [local go_sem] Oper.semAt_some
def tosK (f : Int) (k : Nat) : List (Int × Int) := (List.range k).map fun (i : Nat) => (f, f + (i : Int))
theorem tosK_succ (f : Int) (k : Nat) : tosK f (k + 1) = tosK f k ++ [(f, f + (k : Int))] := by unfold tosK; rw [List.range_succ, List.map_append]; rfl
theorem tosK_len (f : Int) (k : Nat) : (tosK f k).length = k := by unfold tosK; rw [List.length_map, List.length_range]
theorem tosK_pre (f : Int) {k m : Nat} (h : k ≤ m) : tosK f k <+: tosK f m := by
 obtain ⟨d, rfl⟩ : ∃ d, m = k + d := ⟨m - k, by omega⟩
 unfold tosK
 rw [List.range_add, List.map_append]
 exact ⟨_, rfl⟩
def encD (x : Int × Int) : Array Value := #[.agg #[.int .i64 x.1, .int .i64 x.2]]
/-- how many drifts there are -/
def manyD (c : Cm) (f : Int) : Nat := (c.hi + 1 - f).toNat
set_option maxRecDepth 100000 in
theorem reached_any (b : Nat) (c : Cm) (f : Int) (w : World) : Calls Tryz.prog 175 #[.pointer (some ⟨b, 0, none⟩), cv c, .int .i64 f] w fun e w' =>
  (e = .returned (.func (.func 212) #[] #[.pointer (some ⟨w.heap.size + 1 + 1, 0, none⟩), .pointer (some ⟨w.heap.size + 1, 0, none⟩), .pointer (some ⟨w.heap.size, 0, none⟩)]) ∧ Blk w' w.heap.size 157 #[.pointer (some ⟨b, 0, none⟩)] ∧ Blk w' (w.heap.size + 1) 87 #[.int .i64 c.fam, .int .i64 c.hd, .int .i64 c.lo, .int .i64 c.hi] ∧ Blk w' (w.heap.size + 1 + 1) 3 #[.int .i64 f] ∧ w'.heap.size = w.heap.size + 3) ∧ Below w.heap.size w w' := by
 obtain ⟨W1, hW1⟩ : ∃ X, ((w.alloc (.cells #[.pointer (some ⟨b, 0, none⟩)] 157)).alloc (.cells #[.int .i64 c.fam, .int .i64 c.hd, .int .i64 c.lo, .int .i64 c.hi] 87)).alloc (.cells #[.int .i64 f] 3) = X := ⟨_, rfl⟩
 have GW1 := Lib.hid (show Below w.heap.size w W1 by rw [← hW1]; exact ((one_more _ _).alloc (by simp <;> omega) _).alloc (by simp <;> omega) _)
 have BW1_0 := Lib.hid (show Blk W1 (w.heap.size) 157 #[.pointer (some ⟨b, 0, none⟩)] by
  rw [← hW1]
  have := Blk.new w 157 #[.pointer (some ⟨b, 0, none⟩)]
  (try simp only [World.size_alloc] at this)
  exact ((this).alloc _).alloc _)
 have BW1_1 := Lib.hid (show Blk W1 (w.heap.size + 1) 87 #[.int .i64 c.fam, .int .i64 c.hd, .int .i64 c.lo, .int .i64 c.hi] by
  rw [← hW1]
  have := Blk.new (w.alloc (.cells #[.pointer (some ⟨b, 0, none⟩)] 157)) 87 #[.int .i64 c.fam, .int .i64 c.hd, .int .i64 c.lo, .int .i64 c.hi]
  (try simp only [World.size_alloc] at this)
  exact (this).alloc _)
 have BW1_2 := Lib.hid (show Blk W1 (w.heap.size + 1 + 1) 3 #[.int .i64 f] by
  rw [← hW1]
  have := Blk.new ((w.alloc (.cells #[.pointer (some ⟨b, 0, none⟩)] 157)).alloc (.cells #[.int .i64 c.fam, .int .i64 c.hd, .int .i64 c.lo, .int .i64 c.hi] 87)) 3 #[.int .i64 f]
  (try simp only [World.size_alloc] at this)
  exact this)
 have HW1 := Lib.hid hW1
 clear hW1
 have hs : W1.heap.size = w.heap.size + 3 := by rw [← HW1.out]; simp
 go_enter Tryz.func175, Tryz.ntmps175
 go_upto_region 1 with fail
 rw [HW1.out]
 go_wp2_with fail
 go_ret
 exact ⟨⟨rfl, BW1_0.out, BW1_1.out, BW1_2.out, hs⟩, GW1.out⟩
set_option maxRecDepth 100000 in
set_option maxHeartbeats 4000000 in
theorem reached_seq (m : Nat) (W0 : World) (B bP bC bF b bw bs : Nat) (c : Cm) (f : Int) (A2 : Option Addr) (n2 c2 : Nat) (hf : W0.cell? ⟨bF, 0, none⟩ = some (.int .i64 f)) (hc : W0.cell? ⟨bC, 3, none⟩ = some (.int .i64 c.hi)) (hp : W0.cell? ⟨bP, 0, none⟩ = some (.pointer (some ⟨b, 0, none⟩))) (hb : W0.cell? ⟨b, 1, none⟩ = some (.slice A2 n2 c2))
  (h0 : 0 ≤ f) (h1 : f ≤ 1000) (h2 : c.hi < n2) (h3 : n2 ≤ 24)
  (dF : bF ≠ bw ∧ bF ≠ bs ∧ bF < B) (dC : bC ≠ bw ∧ bC ≠ bs ∧ bC < B) (dP : bP ≠ bw ∧ bP ≠ bs ∧ bP < B) (dB : b ≠ bw ∧ b ≠ bs ∧ b < B) :
  SeqO m 212 #[.pointer (some ⟨bF, 0, none⟩), .pointer (some ⟨bC, 0, none⟩), .pointer (some ⟨bP, 0, none⟩)] encD (fun x => x.1 = f ∧ f ≤ x.2 ∧ x.2 ≤ c.hi) (FixU B bw bs) (fun xs => xs = tosK f (manyD c f)) (fun pre => pre <+: tosK f (manyD c f)) (manyD c f + 1) W0 := by
 intro l J Jx W hW hJ hJx hY hJ0
 refine callsIn_of_wp Tryz.func212 rfl trivial ?_ rfl
 simp only [Tryz.ntmps212, List.size_toArray, List.length_cons, List.length_nil, Nat.reduceAdd, Nat.reduceSub, Array.replicate_succ, Array.replicate_zero, List.push_toArray, List.append_toArray, List.nil_append, List.cons_append]
 have hf := (hW.cell (p := ⟨bF, 0, none⟩) (World.block_lt_of_cell? W0 _ hf)).trans hf
 have hc := (hW.cell (p := ⟨bC, 3, none⟩) (World.block_lt_of_cell? W0 _ hc)).trans hc
 have hp := (hW.cell (p := ⟨bP, 0, none⟩) (World.block_lt_of_cell? W0 _ hp)).trans hp
 have hb := (hW.cell (p := ⟨b, 1, none⟩) (World.block_lt_of_cell? W0 _ hb)).trans hb
 have HJ := Lib.hid hJ
 have HY := Lib.hid hY
 obtain ⟨M, hM⟩ : ∃ M, manyD c f = M := ⟨_, rfl⟩
 have hM2 : M = (c.hi + 1 - f).toNat := by rw [← hM]; rfl
 rw [hM] at HY ⊢
 clear hJ hJx hY hW hM
 have HCF := Lib.hid hf
 have HCC := Lib.hid hc
 have HCP := Lib.hid hp
 have HCB := Lib.hid hb
 gi_wp2
 gi_loopw [5] (fun i wr => ∃ k : Nat, i = .int .i64 (f + (k : Int)) ∧ k ≤ M ∧ FixU B bw bs W wr ∧ J (tosK f k) wr) (fun i _ => (c.hi + 1 - intOf i).toNat)
 case atStart => exact ⟨0, by simp, Nat.zero_le _, FixU.refl _ _ _ _, hJ0⟩
 case round =>
  obtain ⟨k, rfl, hk, hfix, hj⟩ := hrel
  have HFX := Lib.hid hfix
  have v0 := hfix.cell HCF.out dF.1 dF.2.1 dF.2.2
  have v1 := hfix.cell HCC.out dC.1 dC.2.1 dC.2.2
  have v2 := hfix.cell HCP.out dP.1 dP.2.1 dP.2.2
  have v3 := hfix.cell HCB.out dB.1 dB.2.1 dB.2.2
  clear hfix hf hc hp hb
  by_cases hkn : k < M
  ·obtain ⟨fn, tmps, assign, body, hy, hR⟩ := HY.out (tosK f k) (f, f + (k : Int)) wr hj (by rw [tosK_len]; omega) ⟨rfl, by dsimp only; omega, by dsimp only; omega⟩
   unfold encD at hy
   dsimp only at hy
   have g1 : f + (k : Int) ≤ c.hi := by omega
   have g2 : f + (k : Int) < n2 := by omega
   gi_wp2
   refine ⟨fun h => (by simp [Fence.wide] at h), hR.mono ?_⟩
   rintro e W' ⟨⟨rfl, hJ', hk'⟩ | ⟨rfl, hJx'⟩, hkf⟩
   ·have Hfx := Lib.hid (HFX.out.trans hk')
    clear hR hk' hy hkf v0 v1 v2 v3
    gi_wp2
    go_roundw
    case rel => exact ⟨k + 1, by go_num, by omega, Hfx.out, by rw [tosK_succ]; exact hJ'⟩
    case measure => simp [intOf]; omega
   ·clear hR hy hkf
    gi_wp2
    refine bodyPost_ret (results_none rfl _ _ _) rfl ?_
    exact ⟨⟨_, rfl⟩, .inr ⟨_, by rw [← tosK_succ]; exact tosK_pre f (by omega), hJx'⟩⟩
  ·obtain rfl : k = M := by omega
   have g1 : ¬ (f + (k : Int) ≤ c.hi) := by omega
   gi_wp2
   go_end0
   exact ⟨⟨_, rfl⟩, .inl (by first | exact hj | (rw [← hM2]; exact hj))⟩
end Go.Proofs.YtkoejeghihcmlaaGreat

namespace Go.Proofs.YtkoejeghihcmlaaGreat
open Go.RowKit Go.Shelf
attribute [local go_sem] Oper.semAt_some
/-- What stays but for some blocks. -/
structure Fw (F : Nat → Prop) (W W' : World) : Prop where
 os : W'.os = W.os
 tape : W'.tape = W.tape
 output : W'.output = W.output
 size : W.heap.size ≤ W'.heap.size
 block : ∀ k, k < W.heap.size → ¬ F k → W'.heap[k]? = W.heap[k]?
section
variable {F : Nat → Prop} {W W' W'' : World}
theorem Fw.refl (F : Nat → Prop) (W : World) : Fw F W W := ⟨rfl, rfl, rfl, Nat.le_refl _, fun _ _ _ => rfl⟩
theorem Fw.trans (h : Fw F W W') (k : Fw F W' W'') : Fw F W W'' :=
 ⟨k.os.trans h.os, k.tape.trans h.tape, k.output.trans h.output, Nat.le_trans h.size k.size, fun i hi hn => (k.block i (Nat.lt_of_lt_of_le hi h.size) hn).trans (h.block i hi hn)⟩
theorem Fw.of_below (h : Below W.heap.size W W') : Fw F W W' := ⟨h.os, h.tape, h.output, h.size, fun k hk _ => h.block k hk⟩
theorem Fw.of_grown {row : Option Nat} (h : W.grownBy W' row) (hr : ∀ r, row = some r → F r ∨ W.heap.size ≤ r) : Fw F W W' :=
 ⟨h.os, h.tape, h.output, h.size, fun k hk hn => h.block k hk (fun e => by rcases hr k e.symm with h1 | h1; exact hn h1; omega)⟩
theorem Fw.set {p : Addr} (h : Fw F W W') (hp : F p.block ∨ W.heap.size ≤ p.block) (u : Value) : Fw F W (W'.setCell p u) :=
 ⟨h.os, h.tape, h.output, by simpa using h.size, fun k hk hn => (Below.heap_setCell _ _ _ _ (fun e => by rcases hp with h1 | h1; exact hn (e ▸ h1); omega)).trans (h.block k hk hn)⟩
theorem Fw.blk (h : Fw F W W') {g : Nat} {t : TypeId} {cs : Array Value} (hb : Blk W g t cs) (hn : ¬ F g) : Blk W' g t cs := (h.block g hb.lt hn).trans hb
theorem Fw.below (h : Fw F W W') {B : Nat} (hF : ∀ k, F k → B ≤ k) (hB : B ≤ W.heap.size) : Below B W W' :=
 ⟨h.os, h.tape, h.output, h.size, fun k hk => h.block k (by omega) (fun e => by have := hF k e; omega)⟩
theorem Fw.grown {row : Option Nat} (h : Fw F W W') (hg : W'.grownBy W'' row) (hr : ∀ r, row = some r → W.heap.size ≤ r) : Fw F W W'' :=
 ⟨hg.os.trans h.os, hg.tape.trans h.tape, hg.output.trans h.output, Nat.le_trans h.size hg.size, fun k hk hn => (hg.block k (Nat.lt_of_lt_of_le hk h.size) (fun e => by have := hr k e.symm; omega)).trans (h.block k hk hn)⟩
theorem Fw.keeps (h : Fw F W W') (hc : ∀ k, F k → ∀ o, W.heap[k]? = some o → o.isCells = true) (B : Nat) : KeepsFrom B W W' :=
 ⟨h.size, fun k o _ hk ho => (h.block k (Array.getElem?_eq_some_iff.1 hk).1 (fun e => by rw [hc k e o hk] at ho; cases ho)).trans hk⟩
end
theorem own_isCells {α : Type} {f : α → List Value} {size : Nat} {e : TypeId} {w : World} {base : Nat} {v : Value} {xs : List α} (h : OwnL f size e w base v xs) {g : Nat} (hg : v.ownBlock = some g) : ∀ o, w.heap[g]? = some o → o.isCells = true := fun o e => by
 obtain ⟨-, -, cur, hc⟩ := own_cells h hg
 rw [hc] at e; cases e; rfl
theorem own_farD {α : Type} {f : α → List Value} {size : Nat} {e : TypeId} {w : World} {base : Nat} {v : Value} {xs : List α} (h : OwnL f size e w base v xs) {p : Addr} (hp : ∀ k, v.ownBlock = some k → k ≠ p.block) (u : Value) : OwnL f size e (w.setCell p u) base v xs := by
 obtain ⟨h1, h2 | ⟨g, cap, cur, rfl, hb', hg, h4⟩⟩ := h
 ·exact ⟨h1, .inl h2⟩
 ·exact ⟨h1, .inr ⟨g, cap, cur, rfl, hb', (Below.heap_setCell w p u g (hp g rfl)).trans hg, h4⟩⟩
theorem own_apart {α : Type} {f : α → List Value} {size : Nat} {e : TypeId} {w : World} {base : Nat} {v : Value} {xs : List α} (h : OwnL f size e w base v xs) {g : Nat} (hg : v.ownBlock = some g) {r : Nat} {t : TypeId} {cs : Array Value} (hb : Blk w r t cs) (ht : e ≠ t) : g ≠ r := fun er => by
 obtain ⟨-, -, cur, hc⟩ := own_cells h hg
 have hb : w.heap[r]? = some (.cells cs t (0, 0)) := hb
 rw [er, hb] at hc
 injection hc with hc
 injection hc with _ hc
 exact ht hc.symm
/-- What is told when a claim has got its drift. -/
structure PEnd (W W' : World) (base ba bt : Nat) (vD vS : Value) (ds : List (Int × Int)) (x : Int × Int) (vD' : Value) : Prop where
 fw : Fw (fun k => k = ba ∨ k = bt ∨ vD.ownBlock = some k) W W'
 at_ : Blk W' ba 3 #[.int .i64 (x.2 + 1)]
 t : Blk W' bt 161 #[vD', vS, .bool false]
 own : OwnL dcells 2 84 W' base vD' (ds ++ [x])
theorem PEnd.grown {W X Y : World} {base ba bt : Nat} {vD vS : Value} {ds : List (Int × Int)} {x : Int × Int} {vD' : Value} {row : Option Nat} (h : PEnd W X base ba bt vD vS ds x vD') (hg : X.grownBy Y row) (hr : ∀ r, row = some r → W.heap.size ≤ r) (hr1 : ∀ r, row = some r → ∃ o : Obj, X.heap[r]? = some o ∧ o.isCells = false) : PEnd W Y base ba bt vD vS ds x vD' :=
 ⟨h.fw.grown hg hr, h.at_.own hg hr1, h.t.own hg hr1, h.own.held hg hr1⟩
theorem nxt_tos {con : Cm → Int → Bool} {ws : List Int} {c : Cm} {f : Int} : nxt con ws c f = ((tosK f (manyD c f)).find? fun d => con c (wor ws d.1 d.2)).map (·.2) := by
 unfold nxt tosL tosK manyD
 rw [List.find?_map, List.find?_map, Option.map_map]
 rfl
theorem nxt_no {con : Cm → Int → Bool} {ws : List Int} {c : Cm} {f : Int} (h : ∀ y ∈ tosK f (manyD c f), con c (wor ws y.1 y.2) = false) : nxt con ws c f = none := by
 rw [nxt_tos, List.find?_eq_none.2 (fun y hy => by rw [h y hy]; simp)]; rfl
theorem nxt_at {con : Cm → Int → Bool} {ws : List Int} {c : Cm} {f : Int} {pre : List (Int × Int)} {x : Int × Int} (h : (pre ++ [x]) <+: tosK f (manyD c f)) (hx : con c (wor ws x.1 x.2) = true) (hn : ∀ y ∈ pre, con c (wor ws y.1 y.2) = false) : nxt con ws c f = some x.2 := by
 obtain ⟨s, hs⟩ := h
 rw [nxt_tos, ← hs, List.append_assoc, List.find?_append, List.find?_eq_none.2 (fun y hy => by rw [hn y hy]; simp)]
 simp [hx]
theorem OkG.validC {g : Gd} (hg : OkG g) {c : Cm} (hc : okC g.cells.length c) : Valid (wsG g) [c] := by
 refine ⟨fun x hx => ?_, by unfold wsG; rw [List.length_map]; exact hg.en.2, by simp, fun x hx => ?_⟩
 ·unfold wsG at hx
  obtain ⟨e, he, rfl⟩ := List.mem_map.1 hx
  have := hg.e e he
  unfold okE at this; omega
 ·rw [List.mem_singleton.1 hx]; unfold wsG; rw [List.length_map]; exact hc
/-- What part returns. -/
def PartEnd (con : Cm → Int → Bool) (ws : List Int) (c : Cm) (a : Int) (base ba bt : Nat) (vD vS : Value) (ds : List (Int × Int)) (W : World) (e : Ending) (W' : World) : Prop :=
 match nxt con ws c (ft a c) with
 | none => e = .returned (.bool false) ∧ Below W.heap.size W W'
 | some t => e = .returned (.bool true) ∧ ∃ vD', PEnd W W' base ba bt vD vS ds (ft a c, t) vD'
-- PARTS
set_option maxRecDepth 100000 in
set_option maxHeartbeats 8000000 in
theorem part93_any (_u : Unit) (g : Gd) (l : List Cm) (A1 A2 A3 : Option Addr) (n1 c1 n2 c2 n3 c3 : Nat) (b ba bpp bcf bt base : Nat) (c : Cm) (a : Int) (vD vS : Value) (ds : List (Int × Int)) (W : World) (hp : Pt W b g l A1 A2 A3 n1 c1 n2 c2 n3 c3) (ho : OkG g) (hc : okC g.cells.length c) (ha0 : 0 ≤ a) (ha1 : a ≤ 100)
  (hba : Blk W ba 3 #[.int .i64 a]) (hbp : Blk W bpp 157 #[.pointer (some ⟨b, 0, none⟩)]) (hbc : Blk W bcf 165 #[.func (.func 93) #[] #[]]) (hbt : Blk W bt 161 #[vD, vS, .bool false]) (hD : OwnL dcells 2 84 W base vD ds) (hds : ds.length ≤ 100) (hbase : base ≤ W.heap.size)
  (hne : ba ≠ bt ∧ bt < base ∧ ba < base) :
  Calls Tryz.prog 174 #[cv c, .pointer (some ⟨ba, 0, none⟩), .pointer (some ⟨bpp, 0, none⟩), .pointer (some ⟨bcf, 0, none⟩), .pointer (some ⟨bt, 0, none⟩)] W (PartEnd (any_) (wsG g) c a base ba bt vD vS ds W) := by
 have hv := ho.e
 obtain ⟨f, hf⟩ : ∃ f, ft a c = f := ⟨_, rfl⟩
 have hff : max a c.lo = f := by rw [← hf]; rfl
 have hokc := hc
 unfold okC at hokc
 have hlen : g.cells.length = n2 := hp.g.e.1.1
 have h24 : n2 ≤ 24 := by have := ho.en.2; omega
 have hf0 : 0 ≤ f := by omega
 have hf1 : f ≤ 1000 := by omega
 have HPE := Lib.hid (fun (e : Ending) (W' : World) => (show PartEnd (any_) (wsG g) c a base ba bt vD vS ds W e W' ↔ (match nxt (any_) (wsG g) c f with | none => e = .returned (.bool false) ∧ Below W.heap.size W W' | some t => e = .returned (.bool true) ∧ ∃ vD', PEnd W W' base ba bt vD vS ds (f, t) vD') by unfold PartEnd; rw [hf]))
 obtain ⟨W1, hW1⟩ : ∃ X, (W.alloc (.cells #[.int .i64 c.fam, .int .i64 c.hd, .int .i64 c.lo, .int .i64 c.hi] 87)).alloc (.cells #[.bool false] 4) = X := ⟨_, rfl⟩
 have GW1 := Lib.hid (show Below W.heap.size W W1 by rw [← hW1]; exact (one_more _ _).alloc (by simp <;> omega) _)
 have BW1_0 := Lib.hid (show Blk W1 (W.heap.size) 87 #[.int .i64 c.fam, .int .i64 c.hd, .int .i64 c.lo, .int .i64 c.hi] by
  rw [← hW1]
  have := Blk.new W 87 #[.int .i64 c.fam, .int .i64 c.hd, .int .i64 c.lo, .int .i64 c.hi]
  (try simp only [World.size_alloc] at this)
  exact (this).alloc _)
 have BW1_1 := Lib.hid (show Blk W1 (W.heap.size + 1) 4 #[.bool false] by
  rw [← hW1]
  have := Blk.new (W.alloc (.cells #[.int .i64 c.fam, .int .i64 c.hd, .int .i64 c.lo, .int .i64 c.hi] 87)) 4 #[.bool false]
  (try simp only [World.size_alloc] at this)
  exact this)
 have HW1 := Lib.hid hW1
 clear hW1
 have d0 := (hba.ext GW1.out).cell 0
 have d1 := BW1_0.out.cell 2
 have HP := Lib.hid hp
 have HO := Lib.hid ho
 have HC := Lib.hid hc
 have HBA := Lib.hid hba
 have HBP := Lib.hid hbp
 have HBC := Lib.hid hbc
 have HBT := Lib.hid hbt
 have HD := Lib.hid hD
 have HBS := Lib.hid hbase
 have hbal := hba.lt
 have hbtl := hbt.lt
 clear hp ho hc hba hbp hbc hbt hD hf hbase hv
 refine (callsIn_wide (n := 4)).1 (callsIn_of_wp_marks Tryz.func174 rfl trivial ?_ rfl)
 simp only [Tryz.ntmps174, List.size_toArray, List.length_cons, List.length_nil, Nat.reduceAdd, Nat.reduceSub, Array.replicate_succ, Array.replicate_zero, List.push_toArray, List.append_toArray, List.nil_append, List.cons_append]
 refine wpIn_wide.2 ?_
 go_upto_region 1 with fail
 rw [HW1.out]
 go_upto_region 2 with fail
 have d2 := (HBP.out.ext GW1.out).cell 0
 have d3 := BW1_0.out.cell 0
 have d4 := BW1_0.out.cell 1
 have d5 := BW1_0.out.cell 3
 have HRE := Lib.hid (reached_any b c f W1)
 go_wp2_with (go_at_call 175; (with_reducible refine (HRE.out).mono ?_); rintro e W2 ⟨⟨rfl, hr0, hr1, hr2, hr3⟩, hg2⟩; have HR0 := Lib.hid hr0; have HR1 := Lib.hid hr1; have HR2 := Lib.hid hr2; have GW2 := Lib.hid hg2; clear hr0 hr1 hr2 hg2)
 have GA := Lib.hid (GW1.out.trans (GW2.out.mono GW1.out.size))
 have h1s := GW1.out.size
 have h2s := GW2.out.size
 have hw1 : W1.heap.size = W.heap.size + 2 := by rw [← HW1.out]; simp
 have HB1 := Lib.hid (BW1_0.out.ext GW2.out)
 have HRS := Lib.hid (BW1_1.out.ext GW2.out)
 have HPT := Lib.hid (HP.out.below GA.out)
 have hptl := HPT.out.b.lt
 have hbl := HP.out.b.lt
 have HSQ := Lib.hid (reached_seq 3 W2 W2.heap.size W1.heap.size (W1.heap.size + 1) (W1.heap.size + 1 + 1) b W2.heap.size W2.heap.size c f A2 n2 c2 (HR2.out.cell 0) (HR1.out.cell 3) (HR0.out.cell 0) (HPT.out.b.cell 1) hf0 hf1 (by rw [← hlen]; omega) h24 ⟨by omega, by omega, by omega⟩ ⟨by omega, by omega, by omega⟩ ⟨by omega, by omega, by omega⟩ ⟨by omega, by omega, by omega⟩)
 clear d0 d1 d2 d3 d4 d5
 refine (wpIn_wide (n := 4)).1 ?_
 refine wp_rangeO (α := Int × Int) (n := 4) (by omega) (gf := 212) (lb := #[.pointer (some ⟨W1.heap.size + 1 + 1, 0, none⟩), .pointer (some ⟨W1.heap.size + 1, 0, none⟩), .pointer (some ⟨W1.heap.size, 0, none⟩)]) rfl (enters_of Tryz.func212 (by kernel_rfl) rfl) HSQ.out (Below.refl _ _) (fun _ => rfl)
  (fun pre X => Below W2.heap.size W2 X ∧ ∀ y ∈ pre, (any_) c (wor (wsG g) y.1 y.2) = false)
  (fun cc pre X => cc = .ret ∧ ∃ pre' x, pre = pre' ++ [x] ∧ x.1 = f ∧ (any_) c (wor (wsG g) x.1 x.2) = true ∧ (∀ y ∈ pre', (any_) c (wor (wsG g) y.1 y.2) = false) ∧ (∃ vD', PEnd W X base ba bt vD vS ds x vD') ∧ Blk X (W.heap.size + 1) 4 #[.bool true]) ?hI ?hIx ?h0
  ((fun (F : Int × Int → Nat → Act) (x : Int × Int) (a' : Act) (X : World) => ∃ Bx, W2.heap.size ≤ Bx ∧ Blk X Bx 84 #[.int .i64 x.1, .int .i64 x.2] ∧ a' = F x Bx) ?F) ?hAx ?assign ?body ?done ?stop
 case assign =>
  rintro l' pre x X K ⟨hb, hno⟩ hK
  unfold encD
  gi_wp2
  refine hK _ _ ((KeepsOthers.alloc _ _).from _) (FixU.of_below (one_more _ _)) ⟨hb.alloc hb.size _, hno⟩ ⟨X.heap.size, hb.size, Blk.new _ _ _, ?_⟩
  generalize X.heap.size = Bz
  rfl
 case hI =>
  rintro pre X Y row ⟨h1, h2⟩ hg hr
  exact ⟨h1.grown hg h1.size (fun k hk => by have := (hr k hk).1; omega), h2⟩
 case hIx =>
  rintro cc pre X Y row ⟨h1, pre', x, h2, h3, h4, h5, ⟨vD', h6⟩, h7⟩ hg hr
  have hr1 : ∀ r, row = some r → ∃ o : Obj, X.heap[r]? = some o ∧ o.isCells = false := fun r e => (hr r e).2
  exact ⟨h1, pre', x, h2, h3, h4, h5, ⟨vD', h6.grown hg (fun r e => by have := (hr r e).1; omega) hr1⟩, h7.own hg hr1⟩
 case h0 => exact ⟨Below.refl _ _, fun y hy => (by cases hy)⟩
 case hAx =>
  rintro x a' _ X Y row ⟨Bx, h1, h2, h3⟩ hg hr
  exact ⟨Bx, h1, h2.own hg (fun r e => (hr r e).2), h3⟩
 case body =>
  rintro l' pre ⟨x0, x1⟩ a' X hl - ⟨hb, hno⟩ ⟨Bx, hBx, hbx, rfl⟩ hlt ⟨hx0, hx1, hx2⟩
  dsimp only at hx0 hx1 hx2
  subst hx0
  have HB := Lib.hid hb
  have HNO := Lib.hid hno
  have HBX := Lib.hid hbx
  have GX := Lib.hid (GA.out.trans (hb.mono GA.out.size))
  have hXs := hb.size
  have HTW := Lib.hid (fun (z : Wd X) => callsCalm (x := z) (worth_any g A1 A2 n1 c1 n2 c2 x0 x1 z.val ((HP.out.g.below GX.out).below z.ok) HO.out hf0 hf1 (by omega) (by omega)))
  have hwb := (HO.out.validC HC.out).wor_bd x0 x1
  obtain ⟨wv, hwv⟩ : ∃ n, wor (wsG g) x0 x1 = n := ⟨_, rfl⟩
  rw [hwv] at hwb HTW
  have HWV := Lib.hid hwv
  have HTC := Lib.hid (fun (z : Wd X) => callsCalm (x := z) (anything_any c wv z.val))
  obtain ⟨cb, hcb⟩ : ∃ cb, (any_) c wv = cb := ⟨_, rfl⟩
  rw [hcb] at HTC
  have HCB := Lib.hid hcb
  have y0 := cellW ((HBC.out.ext GX.out).cell 0)
  have y1 := cellW ((HB1.out.ext hb).cell 0)
  have y2 := cellW ((HB1.out.ext hb).cell 1)
  have y3 := cellW ((HB1.out.ext hb).cell 2)
  have y4 := cellW ((HB1.out.ext hb).cell 3)
  have y5 := cellW ((HBP.out.ext GX.out).cell 0)
  have y6 := cellW ((HPT.out.b.ext hb).cell 0)
  have y7 := cellW ((HPT.out.b.ext hb).cell 1)
  have y8 := cellW (hbx.cell 0)
  have y9 := cellW (hbx.cell 1)
  clear hb hno hbx hwv hcb
  gi_wp2_with fail
  refine wpIn_region_quiet (Open.round l') (C := fun w' => ∃ z : Wd X, w' = z.val) (by kernel_rfl) (by kernel_rfl) (by kernel_rfl) (Wd.of (Below.refl _ _).drew) ?_
  repeat (go_big_quiet_step (first | (go_at_call 176; exact HTW.out _) | (go_at_call 93; exact HTC.out _)))
  refine wpQuiet_nil ?_
  rintro _ ⟨z, rfl⟩
  obtain ⟨V, hV⟩ : ∃ V, z.val = V := ⟨_, rfl⟩
  have GV := Lib.hid (show Below X.heap.size X V by rw [← hV]; exact z.ok)
  rw [hV]
  clear hV z y0 y1 y2 y3 y4 y5 y6 y7 y8 y9
  have GXV := Lib.hid (GX.out.trans (GV.out.mono GX.out.size))
  have hvs := GV.out.size
  have KV := Lib.hid (show KeepsFrom W2.heap.size X V from ⟨GV.out.size, fun k o _ hk _ => (GV.out.block k (Array.getElem?_eq_some_iff.1 hk).1).trans hk⟩)
  cases cb with
  | false =>
   gi_wp2_with fail
   refine ⟨KV.out, FixU.of_below GV.out, HB.out.trans (GV.out.mono HB.out.size), fun y hy => ?_⟩
   rcases List.mem_append.1 hy with hy | hy
   ·exact HNO.out y hy
   ·rw [List.mem_singleton.1 hy]
    show (any_) c (wor (wsG g) x0 x1) = false
    rw [HWV.out]; exact HCB.out
  | true =>
   have hbsz := HBS.out
   have hgs := GXV.out.size
   have HOX := Lib.hid ((HD.out.ext GXV.out).ext (one_more V (.cells #[.int .i64 x0, .int .i64 x1] 84)))
   have HA1 := Lib.hid (show Arr dcells 2 (V.alloc (.cells #[.int .i64 x0, .int .i64 x1] 84)) (some ⟨V.heap.size, 0, none⟩) 1 [(x0, x1)] from (Blk.new V 84 #[.int .i64 x0, .int .i64 x1]).arr1 (f := dcells) (x := (x0, x1)))
   have HLEN := Lib.hid (show ds.length + 1 ≤ 1000000 by omega)
   have HOB := Lib.hid (fun k (e : vD.ownBlock = some k) => (own_cells HD.out e).1)
   have HOC := Lib.hid (fun k (e : vD.ownBlock = some k) => (own_cells HD.out e).2.1)
   have HFX := Lib.hid ((HBX.out.ext GV.out).alloc (.cells #[.int .i64 x0, .int .i64 x1] 84))
   have HFT := Lib.hid ((HBT.out.ext GXV.out).alloc (.cells #[.int .i64 x0, .int .i64 x1] 84))
   have HFA := Lib.hid ((HBA.out.ext GXV.out).alloc (.cells #[.int .i64 x0, .int .i64 x1] 84))
   have HFR := Lib.hid (((HRS.out.ext HB.out).ext GV.out).alloc (.cells #[.int .i64 x0, .int .i64 x1] 84))
   have t0 := (HBT.out.ext GXV.out).cell 0
   have u0 := (HBX.out.ext GV.out).cell 0
   have u1 := (HBX.out.ext GV.out).cell 1
   have hx1b : x1 ≤ 24 := by omega
   gi_wp2_with (gi_at_builtin; go_loud (refine wpListIn_app kdDr (by rfl) _ _ (by rfl) base vD ds (by rfl) HOX.out _ 1 1 [(x0, x1)] (by rfl) HA1.out HLEN.out (by simp; omega) ?_); intro v' w2 ho2 hg2; obtain ⟨Av, cv, hve, -⟩ := OwnL.arr kdDr ho2; obtain ⟨nv, hnv⟩ : ∃ nv, (ds ++ [(x0, x1)]).length = nv := ⟨_, rfl⟩; rw [hnv] at hve; subst hve; clear hnv; have bX := HFX.out.grown hg2 (fun e => by have := HOC.out _ e; omega); have bT := HFT.out.grown hg2 (fun e => by have := HOB.out _ e; omega); have bA := HFA.out.grown hg2 (fun e => by have := HOB.out _ e; omega); have bR := HFR.out.grown hg2 (fun e => by have := HOC.out _ e; omega); have m0 := bX.cell 1; have m1 := bT.frozen 0; have m2 := bA.frozen 0; have m3 := bR.frozen 0; have m4 := bT.cell 0; have m5 := bA.cell 0; have m6 := bR.cell 0; have HO2 := Lib.hid ho2; have HG2 := Lib.hid hg2; have HBT2 := Lib.hid bT; have HBA2 := Lib.hid bA; have HBR2 := Lib.hid bR; clear ho2 hg2 bX bT bA bR)
   have hba2 : Blk w2 ba 3 #[.int .i64 a] := HBA2.out
   have F1 : Fw (fun k => k = ba ∨ k = bt ∨ vD.ownBlock = some k) W w2 := (Fw.of_below GXV.out).trans ((Fw.of_below (one_more V _)).trans (Fw.of_grown HG2.out (fun r e => .inl (.inr (.inr e)))))
   have KF : KeepsFrom W2.heap.size X w2 := (KV.out.trans ((KeepsOthers.alloc _ _).from _)).trans (Fw.keeps (F := fun k => vD.ownBlock = some k) (Fw.of_grown HG2.out (fun r e => .inl e)) (fun k e o ho => own_isCells HOX.out e o ho) _)
   refine ⟨?_, rfl, pre, (x0, x1), rfl, rfl, ?_, HNO.out, ⟨.slice Av nv cv, ⟨?_, ?_, ?_, ?_⟩⟩, ?_⟩
   ·first
     | exact KF.trans (((KeepsOthers.setCell _ _ _).from _).trans (((KeepsOthers.setCell _ _ _).from _).trans ((KeepsOthers.setCell _ _ _).from _)))
     | skip
   ·show (any_) c (wor (wsG g) x0 x1) = true
    rw [HWV.out]; exact HCB.out
   ·exact ((F1.set (p := ⟨bt, 0, none⟩) (.inl (.inr (.inl rfl))) _).set (p := ⟨ba, 0, none⟩) (.inl (.inl rfl)) _).set (p := ⟨W.heap.size + 1, 0, none⟩) (.inr (by show W.heap.size ≤ W.heap.size + 1; omega)) _
   ·exact (((HBA2.out.far (p := ⟨bt, 0, none⟩) hne.1 _).set_ 0 _)).far (p := ⟨W.heap.size + 1, 0, none⟩) (by show ba ≠ W.heap.size + 1; omega) _
   ·exact (((HBT2.out.set_ 0 _).far (p := ⟨ba, 0, none⟩) (fun e => hne.1 e.symm) _)).far (p := ⟨W.heap.size + 1, 0, none⟩) (by show bt ≠ W.heap.size + 1; omega) _
   ·exact own_farD (own_farD (own_farD HO2.out (fun k e => by have := (own_cells HO2.out e).1; show k ≠ bt; omega) _) (fun k e => by have := (own_cells HO2.out e).1; show k ≠ ba; omega) _) (fun k e => own_apart HO2.out e HBR2.out (by decide)) _
   ·exact (((HBR2.out.far (p := ⟨bt, 0, none⟩) (by show W.heap.size + 1 ≠ bt; omega) _).far (p := ⟨ba, 0, none⟩) (by show W.heap.size + 1 ≠ ba; omega) _)).set_ 0 _
 case done =>
  rintro E xs X hE hS ⟨hb, hno⟩ hK
  have HN := Lib.hid (nxt_no (by rw [← hS]; exact hno))
  have HB := Lib.hid hb
  have HK := Lib.hid hK
  have hXs := hb.size
  have bR := HRS.out.ext hb
  have m0 := bR.cell 0
  have m1 := bR.frozen 0
  have HBR := Lib.hid bR
  have HGX := Lib.hid (GA.out.trans (hb.mono GA.out.size))
  clear hb hno hS hK bR
  go_wp2_with fail
  have t0 := ((HBR.out.set_ 0 (.bool false)).putObj (D := E) (by omega) (.deferred none)).cell 0
  refine ⟨by simp, .inl ⟨_, _, rfl, run_takeDeferred ((Below.heap_setCell _ _ _ _ (by show E ≠ W.heap.size + 1; omega)).trans HK.out), ?_⟩⟩
  refine ⟨.bool false, ?_, (HPE.out _ _).2 ?_⟩
  ·simp [results, Tryz.results174, go_sem, t0]
  ·rw [HN.out]
   refine ⟨rfl, ?_⟩
   have gx := HGX.out.setCell (p := ⟨W.heap.size + 1, 0, none⟩) (by show W.heap.size ≤ W.heap.size + 1; omega) (.bool false)
   exact gx.grown (grownBy_putObj' _ E _) gx.size (fun k hk => by cases hk; omega)
 case stop =>
  rintro E cd pre X hE hS ⟨rfl, pre', x, rfl, hx1, hx, hno, ⟨vD', hpe⟩, hb4⟩ hK
  have HN := Lib.hid (nxt_at hS hx hno)
  have HPN := Lib.hid hpe
  have t0 := (hb4.putObj (D := E) (by have := hb4.lt; omega) (.deferred none)).cell 0
  clear hpe hx hno hS
  gi_wp2
  refine ⟨by simp, .inl ⟨_, _, rfl, run_takeDeferred hK, ?_⟩⟩
  refine ⟨.bool true, ?_, (HPE.out _ _).2 ?_⟩
  ·simp [results, Tryz.results174, go_sem, t0]
  ·rw [HN.out]
   refine ⟨rfl, vD', ?_⟩
   have : (f, x.2) = x := by rw [← hx1]
   show PEnd W _ base ba bt vD vS ds (f, x.2) vD'
   rw [this]
   exact HPN.out.grown (grownBy_putObj' _ E _) (fun r e => by cases e; omega) (fun r e => by cases e; exact ⟨_, hK, rfl⟩)
set_option maxRecDepth 100000 in
set_option maxHeartbeats 8000000 in
theorem part211_any (gn : Int × Int) (bg : Nat) (g : Gd) (l : List Cm) (A1 A2 A3 : Option Addr) (n1 c1 n2 c2 n3 c3 : Nat) (b ba bpp bcf bt base : Nat) (c : Cm) (a : Int) (vD vS : Value) (ds : List (Int × Int)) (W : World) (hp : Pt W b g l A1 A2 A3 n1 c1 n2 c2 n3 c3) (ho : OkG g) (hc : okC g.cells.length c) (ha0 : 0 ≤ a) (ha1 : a ≤ 100)
  (hba : Blk W ba 3 #[.int .i64 a]) (hbp : Blk W bpp 157 #[.pointer (some ⟨b, 0, none⟩)]) (hbc : Blk W bcf 165 #[.func (.func 211) #[] #[.pointer (some ⟨bg, 0, none⟩)]]) (hbt : Blk W bt 161 #[vD, vS, .bool false]) (hD : OwnL dcells 2 84 W base vD ds) (hds : ds.length ≤ 100) (hbase : base ≤ W.heap.size)
  (hne : ba ≠ bt ∧ bt < base ∧ ba < base) (hbg : Blk W bg 66 #[.int .i64 gn.1, .int .i64 gn.2]) (hgn : inG gn) :
  Calls Tryz.prog 174 #[cv c, .pointer (some ⟨ba, 0, none⟩), .pointer (some ⟨bpp, 0, none⟩), .pointer (some ⟨bcf, 0, none⟩), .pointer (some ⟨bt, 0, none⟩)] W (PartEnd (abv gn) (wsG g) c a base ba bt vD vS ds W) := by
 have hv := ho.e
 obtain ⟨f, hf⟩ : ∃ f, ft a c = f := ⟨_, rfl⟩
 have hff : max a c.lo = f := by rw [← hf]; rfl
 have hokc := hc
 unfold okC at hokc
 have hlen : g.cells.length = n2 := hp.g.e.1.1
 have h24 : n2 ≤ 24 := by have := ho.en.2; omega
 have hf0 : 0 ≤ f := by omega
 have hf1 : f ≤ 1000 := by omega
 have HPE := Lib.hid (fun (e : Ending) (W' : World) => (show PartEnd (abv gn) (wsG g) c a base ba bt vD vS ds W e W' ↔ (match nxt (abv gn) (wsG g) c f with | none => e = .returned (.bool false) ∧ Below W.heap.size W W' | some t => e = .returned (.bool true) ∧ ∃ vD', PEnd W W' base ba bt vD vS ds (f, t) vD') by unfold PartEnd; rw [hf]))
 obtain ⟨W1, hW1⟩ : ∃ X, (W.alloc (.cells #[.int .i64 c.fam, .int .i64 c.hd, .int .i64 c.lo, .int .i64 c.hi] 87)).alloc (.cells #[.bool false] 4) = X := ⟨_, rfl⟩
 have GW1 := Lib.hid (show Below W.heap.size W W1 by rw [← hW1]; exact (one_more _ _).alloc (by simp <;> omega) _)
 have BW1_0 := Lib.hid (show Blk W1 (W.heap.size) 87 #[.int .i64 c.fam, .int .i64 c.hd, .int .i64 c.lo, .int .i64 c.hi] by
  rw [← hW1]
  have := Blk.new W 87 #[.int .i64 c.fam, .int .i64 c.hd, .int .i64 c.lo, .int .i64 c.hi]
  (try simp only [World.size_alloc] at this)
  exact (this).alloc _)
 have BW1_1 := Lib.hid (show Blk W1 (W.heap.size + 1) 4 #[.bool false] by
  rw [← hW1]
  have := Blk.new (W.alloc (.cells #[.int .i64 c.fam, .int .i64 c.hd, .int .i64 c.lo, .int .i64 c.hi] 87)) 4 #[.bool false]
  (try simp only [World.size_alloc] at this)
  exact this)
 have HW1 := Lib.hid hW1
 clear hW1
 have d0 := (hba.ext GW1.out).cell 0
 have d1 := BW1_0.out.cell 2
 have HP := Lib.hid hp
 have HO := Lib.hid ho
 have HC := Lib.hid hc
 have HBA := Lib.hid hba
 have HBP := Lib.hid hbp
 have HBC := Lib.hid hbc
 have HBT := Lib.hid hbt
 have HD := Lib.hid hD
 have HBS := Lib.hid hbase
 have hbal := hba.lt
 have hbtl := hbt.lt
 have HBG := Lib.hid hbg
 have HGN := Lib.hid hgn
 clear hbg hgn
 clear hp ho hc hba hbp hbc hbt hD hf hbase hv
 refine (callsIn_wide (n := 4)).1 (callsIn_of_wp_marks Tryz.func174 rfl trivial ?_ rfl)
 simp only [Tryz.ntmps174, List.size_toArray, List.length_cons, List.length_nil, Nat.reduceAdd, Nat.reduceSub, Array.replicate_succ, Array.replicate_zero, List.push_toArray, List.append_toArray, List.nil_append, List.cons_append]
 refine wpIn_wide.2 ?_
 go_upto_region 1 with fail
 rw [HW1.out]
 go_upto_region 2 with fail
 have d2 := (HBP.out.ext GW1.out).cell 0
 have d3 := BW1_0.out.cell 0
 have d4 := BW1_0.out.cell 1
 have d5 := BW1_0.out.cell 3
 have HRE := Lib.hid (reached_any b c f W1)
 go_wp2_with (go_at_call 175; (with_reducible refine (HRE.out).mono ?_); rintro e W2 ⟨⟨rfl, hr0, hr1, hr2, hr3⟩, hg2⟩; have HR0 := Lib.hid hr0; have HR1 := Lib.hid hr1; have HR2 := Lib.hid hr2; have GW2 := Lib.hid hg2; clear hr0 hr1 hr2 hg2)
 have GA := Lib.hid (GW1.out.trans (GW2.out.mono GW1.out.size))
 have h1s := GW1.out.size
 have h2s := GW2.out.size
 have hw1 : W1.heap.size = W.heap.size + 2 := by rw [← HW1.out]; simp
 have HB1 := Lib.hid (BW1_0.out.ext GW2.out)
 have HRS := Lib.hid (BW1_1.out.ext GW2.out)
 have HPT := Lib.hid (HP.out.below GA.out)
 have hptl := HPT.out.b.lt
 have hbl := HP.out.b.lt
 have HSQ := Lib.hid (reached_seq 3 W2 W2.heap.size W1.heap.size (W1.heap.size + 1) (W1.heap.size + 1 + 1) b W2.heap.size W2.heap.size c f A2 n2 c2 (HR2.out.cell 0) (HR1.out.cell 3) (HR0.out.cell 0) (HPT.out.b.cell 1) hf0 hf1 (by rw [← hlen]; omega) h24 ⟨by omega, by omega, by omega⟩ ⟨by omega, by omega, by omega⟩ ⟨by omega, by omega, by omega⟩ ⟨by omega, by omega, by omega⟩)
 clear d0 d1 d2 d3 d4 d5
 refine (wpIn_wide (n := 4)).1 ?_
 refine wp_rangeO (α := Int × Int) (n := 4) (by omega) (gf := 212) (lb := #[.pointer (some ⟨W1.heap.size + 1 + 1, 0, none⟩), .pointer (some ⟨W1.heap.size + 1, 0, none⟩), .pointer (some ⟨W1.heap.size, 0, none⟩)]) rfl (enters_of Tryz.func212 (by kernel_rfl) rfl) HSQ.out (Below.refl _ _) (fun _ => rfl)
  (fun pre X => Below W2.heap.size W2 X ∧ ∀ y ∈ pre, (abv gn) c (wor (wsG g) y.1 y.2) = false)
  (fun cc pre X => cc = .ret ∧ ∃ pre' x, pre = pre' ++ [x] ∧ x.1 = f ∧ (abv gn) c (wor (wsG g) x.1 x.2) = true ∧ (∀ y ∈ pre', (abv gn) c (wor (wsG g) y.1 y.2) = false) ∧ (∃ vD', PEnd W X base ba bt vD vS ds x vD') ∧ Blk X (W.heap.size + 1) 4 #[.bool true]) ?hI ?hIx ?h0
  ((fun (F : Int × Int → Nat → Act) (x : Int × Int) (a' : Act) (X : World) => ∃ Bx, W2.heap.size ≤ Bx ∧ Blk X Bx 84 #[.int .i64 x.1, .int .i64 x.2] ∧ a' = F x Bx) ?F) ?hAx ?assign ?body ?done ?stop
 case assign =>
  rintro l' pre x X K ⟨hb, hno⟩ hK
  unfold encD
  gi_wp2
  refine hK _ _ ((KeepsOthers.alloc _ _).from _) (FixU.of_below (one_more _ _)) ⟨hb.alloc hb.size _, hno⟩ ⟨X.heap.size, hb.size, Blk.new _ _ _, ?_⟩
  generalize X.heap.size = Bz
  rfl
 case hI =>
  rintro pre X Y row ⟨h1, h2⟩ hg hr
  exact ⟨h1.grown hg h1.size (fun k hk => by have := (hr k hk).1; omega), h2⟩
 case hIx =>
  rintro cc pre X Y row ⟨h1, pre', x, h2, h3, h4, h5, ⟨vD', h6⟩, h7⟩ hg hr
  have hr1 : ∀ r, row = some r → ∃ o : Obj, X.heap[r]? = some o ∧ o.isCells = false := fun r e => (hr r e).2
  exact ⟨h1, pre', x, h2, h3, h4, h5, ⟨vD', h6.grown hg (fun r e => by have := (hr r e).1; omega) hr1⟩, h7.own hg hr1⟩
 case h0 => exact ⟨Below.refl _ _, fun y hy => (by cases hy)⟩
 case hAx =>
  rintro x a' _ X Y row ⟨Bx, h1, h2, h3⟩ hg hr
  exact ⟨Bx, h1, h2.own hg (fun r e => (hr r e).2), h3⟩
 case body =>
  rintro l' pre ⟨x0, x1⟩ a' X hl - ⟨hb, hno⟩ ⟨Bx, hBx, hbx, rfl⟩ hlt ⟨hx0, hx1, hx2⟩
  dsimp only at hx0 hx1 hx2
  subst hx0
  have HB := Lib.hid hb
  have HNO := Lib.hid hno
  have HBX := Lib.hid hbx
  have GX := Lib.hid (GA.out.trans (hb.mono GA.out.size))
  have hXs := hb.size
  have HTW := Lib.hid (fun (z : Wd X) => callsCalm (x := z) (worth_any g A1 A2 n1 c1 n2 c2 x0 x1 z.val ((HP.out.g.below GX.out).below z.ok) HO.out hf0 hf1 (by omega) (by omega)))
  have hwb := (HO.out.validC HC.out).wor_bd x0 x1
  obtain ⟨wv, hwv⟩ : ∃ n, wor (wsG g) x0 x1 = n := ⟨_, rfl⟩
  rw [hwv] at hwb HTW
  have HWV := Lib.hid hwv
  have HTC := Lib.hid (fun (z : Wd X) => callsCalm (x := z) (above1_any gn bg c wv z.val ((HBG.out.ext GX.out).ext z.ok) HGN.out (by omega) (by omega) (by omega) (by omega)))
  obtain ⟨cb, hcb⟩ : ∃ cb, (abv gn) c wv = cb := ⟨_, rfl⟩
  rw [hcb] at HTC
  have HCB := Lib.hid hcb
  have y0 := cellW ((HBC.out.ext GX.out).cell 0)
  have y1 := cellW ((HB1.out.ext hb).cell 0)
  have y2 := cellW ((HB1.out.ext hb).cell 1)
  have y3 := cellW ((HB1.out.ext hb).cell 2)
  have y4 := cellW ((HB1.out.ext hb).cell 3)
  have y5 := cellW ((HBP.out.ext GX.out).cell 0)
  have y6 := cellW ((HPT.out.b.ext hb).cell 0)
  have y7 := cellW ((HPT.out.b.ext hb).cell 1)
  have y8 := cellW (hbx.cell 0)
  have y9 := cellW (hbx.cell 1)
  clear hb hno hbx hwv hcb
  gi_wp2_with fail
  refine wpIn_region_quiet (Open.round l') (C := fun w' => ∃ z : Wd X, w' = z.val) (by kernel_rfl) (by kernel_rfl) (by kernel_rfl) (Wd.of (Below.refl _ _).drew) ?_
  repeat (go_big_quiet_step (first | (go_at_call 176; exact HTW.out _) | (go_at_call 211; exact HTC.out _)))
  refine wpQuiet_nil ?_
  rintro _ ⟨z, rfl⟩
  obtain ⟨V, hV⟩ : ∃ V, z.val = V := ⟨_, rfl⟩
  have GV := Lib.hid (show Below X.heap.size X V by rw [← hV]; exact z.ok)
  rw [hV]
  clear hV z y0 y1 y2 y3 y4 y5 y6 y7 y8 y9
  have GXV := Lib.hid (GX.out.trans (GV.out.mono GX.out.size))
  have hvs := GV.out.size
  have KV := Lib.hid (show KeepsFrom W2.heap.size X V from ⟨GV.out.size, fun k o _ hk _ => (GV.out.block k (Array.getElem?_eq_some_iff.1 hk).1).trans hk⟩)
  cases cb with
  | false =>
   gi_wp2_with fail
   refine ⟨KV.out, FixU.of_below GV.out, HB.out.trans (GV.out.mono HB.out.size), fun y hy => ?_⟩
   rcases List.mem_append.1 hy with hy | hy
   ·exact HNO.out y hy
   ·rw [List.mem_singleton.1 hy]
    show (abv gn) c (wor (wsG g) x0 x1) = false
    rw [HWV.out]; exact HCB.out
  | true =>
   have hbsz := HBS.out
   have hgs := GXV.out.size
   have HOX := Lib.hid ((HD.out.ext GXV.out).ext (one_more V (.cells #[.int .i64 x0, .int .i64 x1] 84)))
   have HA1 := Lib.hid (show Arr dcells 2 (V.alloc (.cells #[.int .i64 x0, .int .i64 x1] 84)) (some ⟨V.heap.size, 0, none⟩) 1 [(x0, x1)] from (Blk.new V 84 #[.int .i64 x0, .int .i64 x1]).arr1 (f := dcells) (x := (x0, x1)))
   have HLEN := Lib.hid (show ds.length + 1 ≤ 1000000 by omega)
   have HOB := Lib.hid (fun k (e : vD.ownBlock = some k) => (own_cells HD.out e).1)
   have HOC := Lib.hid (fun k (e : vD.ownBlock = some k) => (own_cells HD.out e).2.1)
   have HFX := Lib.hid ((HBX.out.ext GV.out).alloc (.cells #[.int .i64 x0, .int .i64 x1] 84))
   have HFT := Lib.hid ((HBT.out.ext GXV.out).alloc (.cells #[.int .i64 x0, .int .i64 x1] 84))
   have HFA := Lib.hid ((HBA.out.ext GXV.out).alloc (.cells #[.int .i64 x0, .int .i64 x1] 84))
   have HFR := Lib.hid (((HRS.out.ext HB.out).ext GV.out).alloc (.cells #[.int .i64 x0, .int .i64 x1] 84))
   have t0 := (HBT.out.ext GXV.out).cell 0
   have u0 := (HBX.out.ext GV.out).cell 0
   have u1 := (HBX.out.ext GV.out).cell 1
   have hx1b : x1 ≤ 24 := by omega
   gi_wp2_with (gi_at_builtin; go_loud (refine wpListIn_app kdDr (by rfl) _ _ (by rfl) base vD ds (by rfl) HOX.out _ 1 1 [(x0, x1)] (by rfl) HA1.out HLEN.out (by simp; omega) ?_); intro v' w2 ho2 hg2; obtain ⟨Av, cv, hve, -⟩ := OwnL.arr kdDr ho2; obtain ⟨nv, hnv⟩ : ∃ nv, (ds ++ [(x0, x1)]).length = nv := ⟨_, rfl⟩; rw [hnv] at hve; subst hve; clear hnv; have bX := HFX.out.grown hg2 (fun e => by have := HOC.out _ e; omega); have bT := HFT.out.grown hg2 (fun e => by have := HOB.out _ e; omega); have bA := HFA.out.grown hg2 (fun e => by have := HOB.out _ e; omega); have bR := HFR.out.grown hg2 (fun e => by have := HOC.out _ e; omega); have m0 := bX.cell 1; have m1 := bT.frozen 0; have m2 := bA.frozen 0; have m3 := bR.frozen 0; have m4 := bT.cell 0; have m5 := bA.cell 0; have m6 := bR.cell 0; have HO2 := Lib.hid ho2; have HG2 := Lib.hid hg2; have HBT2 := Lib.hid bT; have HBA2 := Lib.hid bA; have HBR2 := Lib.hid bR; clear ho2 hg2 bX bT bA bR)
   have hba2 : Blk w2 ba 3 #[.int .i64 a] := HBA2.out
   have F1 : Fw (fun k => k = ba ∨ k = bt ∨ vD.ownBlock = some k) W w2 := (Fw.of_below GXV.out).trans ((Fw.of_below (one_more V _)).trans (Fw.of_grown HG2.out (fun r e => .inl (.inr (.inr e)))))
   have KF : KeepsFrom W2.heap.size X w2 := (KV.out.trans ((KeepsOthers.alloc _ _).from _)).trans (Fw.keeps (F := fun k => vD.ownBlock = some k) (Fw.of_grown HG2.out (fun r e => .inl e)) (fun k e o ho => own_isCells HOX.out e o ho) _)
   refine ⟨?_, rfl, pre, (x0, x1), rfl, rfl, ?_, HNO.out, ⟨.slice Av nv cv, ⟨?_, ?_, ?_, ?_⟩⟩, ?_⟩
   ·first
     | exact KF.trans (((KeepsOthers.setCell _ _ _).from _).trans (((KeepsOthers.setCell _ _ _).from _).trans ((KeepsOthers.setCell _ _ _).from _)))
     | skip
   ·show (abv gn) c (wor (wsG g) x0 x1) = true
    rw [HWV.out]; exact HCB.out
   ·exact ((F1.set (p := ⟨bt, 0, none⟩) (.inl (.inr (.inl rfl))) _).set (p := ⟨ba, 0, none⟩) (.inl (.inl rfl)) _).set (p := ⟨W.heap.size + 1, 0, none⟩) (.inr (by show W.heap.size ≤ W.heap.size + 1; omega)) _
   ·exact (((HBA2.out.far (p := ⟨bt, 0, none⟩) hne.1 _).set_ 0 _)).far (p := ⟨W.heap.size + 1, 0, none⟩) (by show ba ≠ W.heap.size + 1; omega) _
   ·exact (((HBT2.out.set_ 0 _).far (p := ⟨ba, 0, none⟩) (fun e => hne.1 e.symm) _)).far (p := ⟨W.heap.size + 1, 0, none⟩) (by show bt ≠ W.heap.size + 1; omega) _
   ·exact own_farD (own_farD (own_farD HO2.out (fun k e => by have := (own_cells HO2.out e).1; show k ≠ bt; omega) _) (fun k e => by have := (own_cells HO2.out e).1; show k ≠ ba; omega) _) (fun k e => own_apart HO2.out e HBR2.out (by decide)) _
   ·exact (((HBR2.out.far (p := ⟨bt, 0, none⟩) (by show W.heap.size + 1 ≠ bt; omega) _).far (p := ⟨ba, 0, none⟩) (by show W.heap.size + 1 ≠ ba; omega) _)).set_ 0 _
 case done =>
  rintro E xs X hE hS ⟨hb, hno⟩ hK
  have HN := Lib.hid (nxt_no (by rw [← hS]; exact hno))
  have HB := Lib.hid hb
  have HK := Lib.hid hK
  have hXs := hb.size
  have bR := HRS.out.ext hb
  have m0 := bR.cell 0
  have m1 := bR.frozen 0
  have HBR := Lib.hid bR
  have HGX := Lib.hid (GA.out.trans (hb.mono GA.out.size))
  clear hb hno hS hK bR
  go_wp2_with fail
  have t0 := ((HBR.out.set_ 0 (.bool false)).putObj (D := E) (by omega) (.deferred none)).cell 0
  refine ⟨by simp, .inl ⟨_, _, rfl, run_takeDeferred ((Below.heap_setCell _ _ _ _ (by show E ≠ W.heap.size + 1; omega)).trans HK.out), ?_⟩⟩
  refine ⟨.bool false, ?_, (HPE.out _ _).2 ?_⟩
  ·simp [results, Tryz.results174, go_sem, t0]
  ·rw [HN.out]
   refine ⟨rfl, ?_⟩
   have gx := HGX.out.setCell (p := ⟨W.heap.size + 1, 0, none⟩) (by show W.heap.size ≤ W.heap.size + 1; omega) (.bool false)
   exact gx.grown (grownBy_putObj' _ E _) gx.size (fun k hk => by cases hk; omega)
 case stop =>
  rintro E cd pre X hE hS ⟨rfl, pre', x, rfl, hx1, hx, hno, ⟨vD', hpe⟩, hb4⟩ hK
  have HN := Lib.hid (nxt_at hS hx hno)
  have HPN := Lib.hid hpe
  have t0 := (hb4.putObj (D := E) (by have := hb4.lt; omega) (.deferred none)).cell 0
  clear hpe hx hno hS
  gi_wp2
  refine ⟨by simp, .inl ⟨_, _, rfl, run_takeDeferred hK, ?_⟩⟩
  refine ⟨.bool true, ?_, (HPE.out _ _).2 ?_⟩
  ·simp [results, Tryz.results174, go_sem, t0]
  ·rw [HN.out]
   refine ⟨rfl, vD', ?_⟩
   have : (f, x.2) = x := by rw [← hx1]
   show PEnd W _ base ba bt vD vS ds (f, x.2) vD'
   rw [this]
   exact HPN.out.grown (grownBy_putObj' _ E _) (fun r e => by cases e; omega) (fun r e => by cases e; exact ⟨_, hK, rfl⟩)
end Go.Proofs.YtkoejeghihcmlaaGreat

namespace Go.Proofs.YtkoejeghihcmlaaGreat
open Go.RowKit Go.Shelf
/-- What least returns. -/
def LeastEnd (tr : Tr) (w : World) (e : Ending) (w' : World) : Prop :=
 (∃ vD vS, e = .returned (.agg #[vD, vS, .bool tr.all]) ∧ OwnL dcells 2 84 w' w.heap.size vD tr.ds ∧ OwnL icells 1 3 w' w.heap.size vS tr.ss) ∧ Below w.heap.size w w'
theorem own_fw {α : Type} {f : α → List Value} {size : Nat} {e : TypeId} {W W' : World} {base : Nat} {v : Value} {xs : List α} {F : Nat → Prop} (h : OwnL f size e W base v xs) (fw : Fw F W W') (hn : ∀ k, v.ownBlock = some k → ¬ F k) : OwnL f size e W' base v xs := by
 obtain ⟨h1, h2 | ⟨g, cap, cur, rfl, hb', hg, h4⟩⟩ := h
 ·exact ⟨h1, .inl h2⟩
 ·exact ⟨h1, .inr ⟨g, cap, cur, rfl, hb', (fw.block g (Array.getElem?_eq_some_iff.1 hg).1 (hn g rfl)).trans hg, h4⟩⟩
theorem gre_none {con : Cm → Int → Bool} {ws : List Int} {c : Cm} {l : List Cm} {a : Int} (h : nxt con ws c (ft a c) = none) : gre con ws (c :: l) a = ⟨[], [a], false⟩ := by
 unfold gre; rw [h]
theorem gre_some {con : Cm → Int → Bool} {ws : List Int} {c : Cm} {l : List Cm} {a t : Int} (h : nxt con ws c (ft a c) = some t) : gre con ws (c :: l) a = ⟨(ft a c, t) :: (gre con ws l (t + 1)).ds, a :: (gre con ws l (t + 1)).ss, (gre con ws l (t + 1)).all⟩ := by
 conv => lhs; unfold gre
 rw [h]
-- PARTS
set_option maxRecDepth 100000 in
set_option maxHeartbeats 8000000 in
theorem least93_any (_u : Unit) (g : Gd) (l : List Cm) (A1 A2 A3 : Option Addr) (n1 c1 n2 c2 n3 c3 : Nat) (b : Nat) (w : World) (hp : Pt w b g l A1 A2 A3 n1 c1 n2 c2 n3 c3) (ho : OkG g) (hol : OkL g l) :
  Calls Tryz.prog 92 #[.pointer (some ⟨b, 0, none⟩), .func (.func 93) #[] #[]] w (LeastEnd (gre (any_) (wsG g) l 0) w) := by
 obtain ⟨W1, hW1⟩ : ∃ X, ((((w.alloc (.cells #[.pointer (some ⟨b, 0, none⟩)] 157)).alloc (.cells #[.func (.func 93) #[] #[]] 165)).alloc (.cells #[.slice none 0 0, .slice none 0 0, .bool false] 161)).alloc (.cells #[.slice none 0 0, .slice none 0 0, .bool false] 161)).alloc (.cells #[.int .i64 0] 3) = X := ⟨_, rfl⟩
 have GW1 := Lib.hid (show Below w.heap.size w W1 by rw [← hW1]; exact ((((one_more _ _).alloc (by simp <;> omega) _).alloc (by simp <;> omega) _).alloc (by simp <;> omega) _).alloc (by simp <;> omega) _)
 have BW1_0 := Lib.hid (show Blk W1 (w.heap.size) 157 #[.pointer (some ⟨b, 0, none⟩)] by
  rw [← hW1]
  have := Blk.new w 157 #[.pointer (some ⟨b, 0, none⟩)]
  (try simp only [World.size_alloc] at this)
  exact ((((this).alloc _).alloc _).alloc _).alloc _)
 have BW1_1 := Lib.hid (show Blk W1 (w.heap.size + 1) 165 #[.func (.func 93) #[] #[]] by
  rw [← hW1]
  have := Blk.new (w.alloc (.cells #[.pointer (some ⟨b, 0, none⟩)] 157)) 165 #[.func (.func 93) #[] #[]]
  (try simp only [World.size_alloc] at this)
  exact (((this).alloc _).alloc _).alloc _)
 have BW1_2 := Lib.hid (show Blk W1 (w.heap.size + 1 + 1) 161 #[.slice none 0 0, .slice none 0 0, .bool false] by
  rw [← hW1]
  have := Blk.new ((w.alloc (.cells #[.pointer (some ⟨b, 0, none⟩)] 157)).alloc (.cells #[.func (.func 93) #[] #[]] 165)) 161 #[.slice none 0 0, .slice none 0 0, .bool false]
  (try simp only [World.size_alloc] at this)
  exact ((this).alloc _).alloc _)
 have BW1_3 := Lib.hid (show Blk W1 (w.heap.size + 1 + 1 + 1) 161 #[.slice none 0 0, .slice none 0 0, .bool false] by
  rw [← hW1]
  have := Blk.new (((w.alloc (.cells #[.pointer (some ⟨b, 0, none⟩)] 157)).alloc (.cells #[.func (.func 93) #[] #[]] 165)).alloc (.cells #[.slice none 0 0, .slice none 0 0, .bool false] 161)) 161 #[.slice none 0 0, .slice none 0 0, .bool false]
  (try simp only [World.size_alloc] at this)
  exact (this).alloc _)
 have BW1_4 := Lib.hid (show Blk W1 (w.heap.size + 1 + 1 + 1 + 1) 3 #[.int .i64 0] by
  rw [← hW1]
  have := Blk.new ((((w.alloc (.cells #[.pointer (some ⟨b, 0, none⟩)] 157)).alloc (.cells #[.func (.func 93) #[] #[]] 165)).alloc (.cells #[.slice none 0 0, .slice none 0 0, .bool false] 161)).alloc (.cells #[.slice none 0 0, .slice none 0 0, .bool false] 161)) 3 #[.int .i64 0]
  (try simp only [World.size_alloc] at this)
  exact this)
 have HW1 := Lib.hid hW1
 clear hW1
 have hs1 : W1.heap.size = w.heap.size + 5 := by rw [← HW1.out]; simp
 have HS1 := Lib.hid hs1
 have HP := Lib.hid hp
 have HO := Lib.hid ho
 have HOL := Lib.hid hol
 have hll : l.length = n3 := hp.l.1.1
 have h12 : n3 ≤ 12 := by have := hol.n; omega
 have HPX := Lib.hid (hp.b.ext GW1.out)
 have d0 := BW1_0.out.cell 0
 have d1 := HPX.out.cell 2
 clear hp ho hol hs1
 obtain ⟨tr, htr⟩ : ∃ tr, gre (any_) (wsG g) l 0 = tr := ⟨_, rfl⟩
 rw [htr]
 have HTR := Lib.hid htr
 clear htr
 go_enter Tryz.func92, Tryz.ntmps92
 go_upto_region 3 with fail
 rw [HW1.out]
 go_wp2_with fail
 go_loopw [16] (fun i wr => ∃ (k : Nat) (a : Int) (vD vS : Value) (ds : List (Int × Int)) (ss : List Int), i = .int .i64 k ∧ k ≤ n3 ∧ Below w.heap.size w wr ∧ w.heap.size + 5 ≤ wr.heap.size ∧ Blk wr w.heap.size 157 #[.pointer (some ⟨b, 0, none⟩)] ∧ Blk wr (w.heap.size + 1) 165 #[.func (.func 93) #[] #[]] ∧ Blk wr (w.heap.size + 1 + 1) 161 #[.slice none 0 0, .slice none 0 0, .bool false] ∧ Blk wr (w.heap.size + 1 + 1 + 1) 161 #[vD, vS, .bool false] ∧ Blk wr (w.heap.size + 1 + 1 + 1 + 1) 3 #[.int .i64 a]
  ∧ OwnL dcells 2 84 wr (w.heap.size + 5) vD ds ∧ OwnL icells 1 3 wr (w.heap.size + 5) vS ss ∧ 0 ≤ a ∧ a ≤ 100 ∧ ds.length = k ∧ ss.length = k ∧ tr = ⟨ds ++ (gre (any_) (wsG g) (l.drop k) a).ds, ss ++ (gre (any_) (wsG g) (l.drop k) a).ss, (gre (any_) (wsG g) (l.drop k) a).all⟩) (fun i _ => n3 - (intOf i).toNat)
 case atStart => exact ⟨0, 0, _, _, [], [], rfl, Nat.zero_le _, GW1.out, by have := HS1.out; omega, BW1_0.out, BW1_1.out, BW1_2.out, BW1_3.out, BW1_4.out, OwnL.nil _ _, OwnL.nil _ _, Int.le_refl _, by omega, rfl, rfl, by rw [← HTR.out]; rfl⟩
 case round =>
  obtain ⟨k, a, vD, vS, ds, ss, rfl, hk, hg, hws, hb0, hb1, hb2, hb3, hb4, hD, hS, ha0, ha1, hdl, hsl, htr⟩ := hrel
  obtain ⟨AD, cD, hvD, -⟩ := OwnL.arr kdDr hD
  obtain ⟨nD, hnD⟩ : ∃ n, ds.length = n := ⟨_, rfl⟩
  rw [hnD] at hvD
  obtain ⟨AS, cS, hvS, -⟩ := OwnL.arr kdN hS
  obtain ⟨nS, hnS⟩ : ∃ n, ss.length = n := ⟨_, rfl⟩
  rw [hnS] at hvS
  subst hvD hvS
  clear hnD hnS
  have HG := Lib.hid hg
  have HWS := Lib.hid hws
  have HB0 := Lib.hid hb0
  have HB1 := Lib.hid hb1
  have HB2 := Lib.hid hb2
  have HB3 := Lib.hid hb3
  have HB4 := Lib.hid hb4
  have HD := Lib.hid hD
  have HS := Lib.hid hS
  have HDL := Lib.hid hdl
  have HSL := Lib.hid hsl
  clear hg hws hb0 hb1 hb2 hb3 hb4 hD hS hdl hsl d0 d1
  by_cases hkn : k < n3
  ·obtain ⟨b0, o0, e0, -, hmem, hc⟩ := c_at (HP.out.l.1.below HG.out) hkn
   obtain ⟨x0, x1, x2, x3⟩ := hc _ (Below.refl _ _)
   have HOC := Lib.hid (HOL.out.c _ hmem)
   rw [drop_cat (by omega)] at htr
   obtain ⟨c, hce⟩ : ∃ c, cat l k = c := ⟨_, rfl⟩
   rw [hce] at x0 x1 x2 x3 HOC htr
   subst e0
   obtain ⟨W2, hW2⟩ : ∃ X, wr.alloc (.cells #[.int .i64 c.fam, .int .i64 c.hd, .int .i64 c.lo, .int .i64 c.hi] 87) = X := ⟨_, rfl⟩
   have GW2 := Lib.hid (show Below wr.heap.size wr W2 by rw [← hW2]; exact one_more _ _)
   have BW2_0 := Lib.hid (show Blk W2 (wr.heap.size) 87 #[.int .i64 c.fam, .int .i64 c.hd, .int .i64 c.lo, .int .i64 c.hi] by
    rw [← hW2]
    have := Blk.new wr 87 #[.int .i64 c.fam, .int .i64 c.hd, .int .i64 c.lo, .int .i64 c.hi]
    (try simp only [World.size_alloc] at this)
    exact this)
   have HW2 := Lib.hid hW2
   clear hW2
   have G2 := Lib.hid (HG.out.trans (GW2.out.mono HG.out.size))
   have hw2s := GW2.out.size
   have hwr := HWS.out
   have t1 := (HB3.out.ext GW2.out).cell 1
   have t2 := (HB4.out.ext GW2.out).cell 0
   have HOX := Lib.hid ((HS.out.ext GW2.out).ext (one_more W2 (.cells #[.int .i64 a] 3)))
   have HI1 := Lib.hid (show Ints (W2.alloc (.cells #[.int .i64 a] 3)) (some ⟨W2.heap.size, 0, none⟩) 1 [a] from (Blk.new W2 3 #[.int .i64 a] : Blk _ _ 3 (vals [a])).intsN rfl)
   have HLEN := Lib.hid (show ss.length + 1 ≤ 1000000 by have := HSL.out; omega)
   have HOB := Lib.hid (fun r (e : (Value.slice AS nS cS).ownBlock = some r) => (own_cells HS.out e).1)
   have HOC2 := Lib.hid (fun r (e : (Value.slice AS nS cS).ownBlock = some r) => (own_cells HS.out e).2.1)
   have HX0 := Lib.hid (BW2_0.out.alloc (.cells #[.int .i64 a] 3))
   have HX1 := Lib.hid ((HB3.out.ext GW2.out).alloc (.cells #[.int .i64 a] 3))
   have HTR := Lib.hid htr
   clear hc hce hmem htr
   go_upto_region 7 with fail
   rw [HW2.out]
   go_upto_region 8 with (at_builtin; go_loud (refine wpList_app kdN (by rfl) _ _ (by rfl) (w.heap.size + 5) (.slice AS nS cS) ss (by rfl) HOX.out _ 1 1 [a] (by rfl) HI1.out HLEN.out (by simp; omega) ?_); intro v' w3 ho hbw hz; obtain ⟨Av, cv, hve, -⟩ := OwnL.arr kdN ho; obtain ⟨nv, hnv⟩ : ∃ nv, (ss ++ [a]).length = nv := ⟨_, rfl⟩; rw [hnv] at hve; subst hve; clear hnv; have bX := HX0.out.grown hbw (fun e => by have := HOC2.out _ e; omega); have bT := HX1.out.grown hbw (fun e => by have := HOB.out _ e; omega); have m0 := bT.cell 1; have m1 := bT.frozen 1; have HO3 := Lib.hid ho; have HG3 := Lib.hid hbw; have HX3 := Lib.hid bX; have HT3 := Lib.hid bT; clear ho hbw hz bX bT)
   obtain ⟨W4, hW4⟩ : ∃ X, w3.setCell ⟨w.heap.size + 1 + 1 + 1, 1, none⟩ (.slice Av nv cv) = X := ⟨_, rfl⟩
   have F3 : Fw (fun r => r = w.heap.size + 1 + 1 + 1 ∨ (Value.slice AS nS cS).ownBlock = some r) wr W4 := by
    rw [← hW4]
    exact (((Fw.of_below GW2.out).trans (Fw.of_below (one_more W2 _))).trans (Fw.of_grown HG3.out (fun r e => .inl (.inr e)))).set (.inl (.inl rfl)) _
   have hob := HOB.out
   have G4 := Lib.hid (HG.out.trans (F3.below (B := w.heap.size) (fun r h => by rcases h with h | h; omega; have := hob r h; omega) HG.out.size))
   have hw4 := F3.size
   have C0 := Lib.hid (F3.blk HB0.out (fun h => by rcases h with h | h; omega; have := hob _ h; omega))
   have C1 := Lib.hid (F3.blk HB1.out (fun h => by rcases h with h | h; omega; have := hob _ h; omega))
   have C2 := Lib.hid (F3.blk HB2.out (fun h => by rcases h with h | h; omega; have := hob _ h; omega))
   have C4 := Lib.hid (F3.blk HB4.out (fun h => by rcases h with h | h; omega; have := hob _ h; omega))
   have C3 := Lib.hid (show Blk W4 (w.heap.size + 1 + 1 + 1) 161 #[.slice AD nD cD, .slice Av nv cv, .bool false] by rw [← hW4]; exact HT3.out.set_ 1 _)
   have D4 := Lib.hid (own_fw HD.out F3 (fun r e h => by
    rcases h with h | h
    ·have := (own_cells HD.out e).1; omega
    ·obtain ⟨-, -, cur, h1⟩ := own_cells HD.out e
     obtain ⟨-, -, cur2, h2⟩ := own_cells HS.out h
     rw [h1] at h2; injection h2 with h2; injection h2 with _ h2; cases h2))
   have S4 := Lib.hid (show OwnL icells 1 3 W4 (w.heap.size + 5) (.slice Av nv cv) (ss ++ [a]) by rw [← hW4]; exact own_farD HO3.out (fun r e => by have := (own_cells HO3.out e).1; show r ≠ w.heap.size + 1 + 1 + 1; omega) _)
   have X4 := Lib.hid (show Blk W4 wr.heap.size 87 #[.int .i64 c.fam, .int .i64 c.hd, .int .i64 c.lo, .int .i64 c.hi] by rw [← hW4]; exact HX3.out.far (p := ⟨w.heap.size + 1 + 1 + 1, 1, none⟩) (by show wr.heap.size ≠ w.heap.size + 1 + 1 + 1; omega) _)
   have HT := part93_any () g l A1 A2 (some ⟨b0, o0, none⟩) n1 c1 n2 c2 n3 c3 b (w.heap.size + 1 + 1 + 1 + 1) w.heap.size (w.heap.size + 1) (w.heap.size + 1 + 1 + 1) (w.heap.size + 5) c a (.slice AD nD cD) (.slice Av nv cv) ds W4 (HP.out.below G4.out) HO.out HOC.out ha0 ha1 C4.out C0.out C1.out C3.out D4.out (by have := HDL.out; omega) (by omega) ⟨by omega, by omega, by omega⟩
   unfold PartEnd at HT
   rw [hW4]
   have u0 := X4.out.cell 0
   have u1 := X4.out.cell 1
   have u2 := X4.out.cell 2
   have u3 := X4.out.cell 3
   have hokc := HOC.out
   unfold okC at hokc
   have h24 := hokc.2.2.2.2.2.2.2
   cases hn : nxt (any_) (wsG g) c (ft a c) with
   | none =>
    have HE := Lib.hid (show tr = ⟨ds, ss ++ [a], false⟩ by rw [HTR.out, gre_none hn, List.append_nil])
    rw [hn] at HT
    have HTT := Lib.hid HT
    clear HT hn hW4 F3 x0 x1 x2 x3 t1 t2 m0 m1
    go_upto_region 9 with (go_at_call 174; (with_reducible refine (HTT.out).mono ?_); rintro e V5 ⟨rfl, hg5⟩; have G5 := Lib.hid (G4.out.trans (hg5.mono G4.out.size)); have RT := Lib.hid (C3.out.ext hg5); have RR := Lib.hid (C2.out.ext hg5); have D5 := Lib.hid (D4.out.ext hg5); have S5 := Lib.hid (S4.out.ext hg5); clear hg5)
    have f0 := RR.out.frozen 0
    have f1 := RR.out.frozen 1
    have f2 := RR.out.frozen 2
    have r0 := RR.out.cell 0
    have r1 := RR.out.cell 1
    have r2 := RR.out.cell 2
    have q0 := RT.out.cell 0
    have q1 := RT.out.cell 1
    have q2 := RT.out.cell 2
    clear u0 u1 u2 u3
    have hB := ((RR.out.set_ 0 (.slice AD nD cD)).set_ 1 (.slice Av nv cv)).set_ 2 (.bool false)
    have t0 := hB.cell 0
    have t1 := hB.cell 1
    have t2 := hB.cell 2
    have hG := ((G5.out.setCell (p := ⟨w.heap.size + 1 + 1, 0, none⟩) (by show w.heap.size ≤ w.heap.size + 1 + 1; omega) (.slice AD nD cD)).setCell (p := ⟨w.heap.size + 1 + 1, 1, none⟩) (by show w.heap.size ≤ w.heap.size + 1 + 1; omega) (.slice Av nv cv)).setCell (p := ⟨w.heap.size + 1 + 1, 2, none⟩) (by show w.heap.size ≤ w.heap.size + 1 + 1; omega) (.bool false)
    have hDD := own_farD (own_farD (own_farD D5.out (p := ⟨w.heap.size + 1 + 1, 0, none⟩) (fun r e => by have := (own_cells D5.out e).1; show r ≠ w.heap.size + 1 + 1; omega) (.slice AD nD cD)) (p := ⟨w.heap.size + 1 + 1, 1, none⟩) (fun r e => by have := (own_cells D5.out e).1; show r ≠ w.heap.size + 1 + 1; omega) (.slice Av nv cv)) (p := ⟨w.heap.size + 1 + 1, 2, none⟩) (fun r e => by have := (own_cells D5.out e).1; show r ≠ w.heap.size + 1 + 1; omega) (.bool false)
    have hSS := own_farD (own_farD (own_farD S5.out (p := ⟨w.heap.size + 1 + 1, 0, none⟩) (fun r e => by have := (own_cells S5.out e).1; show r ≠ w.heap.size + 1 + 1; omega) (.slice AD nD cD)) (p := ⟨w.heap.size + 1 + 1, 1, none⟩) (fun r e => by have := (own_cells S5.out e).1; show r ≠ w.heap.size + 1 + 1; omega) (.slice Av nv cv)) (p := ⟨w.heap.size + 1 + 1, 2, none⟩) (fun r e => by have := (own_cells S5.out e).1; show r ≠ w.heap.size + 1 + 1; omega) (.bool false)
    have HGG := Lib.hid hG
    have HDD := Lib.hid hDD
    have HSS := Lib.hid hSS
    clear hB hG hDD hSS
    go_wp2_with fail
    refine bodyPost_ret (v := .agg #[.slice AD nD cD, .slice Av nv cv, .bool false]) ?_ rfl ?_
    ·simp [results, Tryz.results92, go_sem, t0, t1, t2]
    ·rw [HE.out]
     exact ⟨⟨_, _, rfl, HDD.out.mono (by omega), HSS.out.mono (by omega)⟩, HGG.out⟩
   | some t =>
    have hnx := nxt_spec hn
    have hgs := gre_some (l := l.drop (k + 1)) hn
    rw [hn] at HT
    have HTT := Lib.hid HT
    clear HT hn hW4 F3 x0 x1 x2 x3 t1 t2 m0 m1
    go_wp2_with (go_at_call 174; (with_reducible refine (HTT.out).mono ?_); rintro e V5 ⟨rfl, vD', hpe⟩; have HPE := Lib.hid hpe; clear hpe)
    have hfw := HPE.out.fw
    have hdo : ∀ r, (Value.slice AD nD cD).ownBlock = some r → w.heap.size + 5 ≤ r := fun r e => (own_cells HD.out e).1
    go_roundw
    case rel =>
     have hF : ∀ r, (r = w.heap.size + 1 + 1 + 1 + 1 ∨ r = w.heap.size + 1 + 1 + 1 ∨ (Value.slice AD nD cD).ownBlock = some r) → w.heap.size + 3 ≤ r := fun r h => by
      rcases h with h | h | h
      ·omega
      ·omega
      ·have := hdo r h; omega
     refine ⟨k + 1, t + 1, vD', _, ds ++ [(ft a c, t)], ss ++ [a], by go_num, by omega, G4.out.trans (hfw.below (B := w.heap.size) (fun r h => by have := hF r h; omega) (by omega)), by have := hfw.size; omega, hfw.blk C0.out (fun h => by have := hF _ h; omega), hfw.blk C1.out (fun h => by have := hF _ h; omega), hfw.blk C2.out (fun h => by have := hF _ h; omega), HPE.out.t, HPE.out.at_, HPE.out.own, own_fw S4.out hfw (fun r e h => ?_), by unfold ft at hnx; omega, by omega, by rw [List.length_append, HDL.out]; rfl, by rw [List.length_append, HSL.out]; rfl, ?_⟩
     ·rcases h with h | h | h
      ·have := (own_cells S4.out e).1; omega
      ·have := (own_cells S4.out e).1; omega
      ·obtain ⟨-, -, cur, h1⟩ := own_cells S4.out e
       obtain ⟨-, -, cur2, h2⟩ := own_cells D4.out h
       rw [h1] at h2; injection h2 with h2; injection h2 with _ h2; cases h2
     ·rw [HTR.out, hgs, List.append_assoc, List.append_assoc]; rfl
    case measure => simp [intOf]; omega
  ·obtain rfl : n3 = k := by omega
   have HE := Lib.hid (show tr = ⟨ds, ss, true⟩ by rw [htr, List.drop_of_length_le (by omega)]; simp [gre])
   clear htr
   have g0 := HB3.out.cell 0
   have g1 := HB3.out.cell 1
   have g2 := HB3.out.cell 2
   have g3 := HB3.out.frozen 2
   have RT := HB3.out.set_ 2 (.bool true)
   have RR := HB2.out.far (p := ⟨w.heap.size + 1 + 1 + 1, 2, none⟩) (by show w.heap.size + 1 + 1 ≠ w.heap.size + 1 + 1 + 1; omega) (.bool true)
   have f0 := RR.frozen 0
   have f1 := RR.frozen 1
   have f2 := RR.frozen 2
   have r0 := RR.cell 0
   have r1 := RR.cell 1
   have r2 := RR.cell 2
   have q0 := RT.cell 0
   have q1 := RT.cell 1
   have q2 := RT.cell 2
   have hG0 := HG.out.setCell (p := ⟨w.heap.size + 1 + 1 + 1, 2, none⟩) (by show w.heap.size ≤ w.heap.size + 1 + 1 + 1; omega) (.bool true)
   have D5 := own_farD HD.out (p := ⟨w.heap.size + 1 + 1 + 1, 2, none⟩) (fun r e => by have := (own_cells HD.out e).1; show r ≠ w.heap.size + 1 + 1 + 1; omega) (.bool true)
   have S5 := own_farD HS.out (p := ⟨w.heap.size + 1 + 1 + 1, 2, none⟩) (fun r e => by have := (own_cells HS.out e).1; show r ≠ w.heap.size + 1 + 1 + 1; omega) (.bool true)
   have hB := ((RR.set_ 0 (.slice AD nD cD)).set_ 1 (.slice AS nS cS)).set_ 2 (.bool true)
   have t0 := hB.cell 0
   have t1 := hB.cell 1
   have t2 := hB.cell 2
   have hG := ((hG0.setCell (p := ⟨w.heap.size + 1 + 1, 0, none⟩) (by show w.heap.size ≤ w.heap.size + 1 + 1; omega) (.slice AD nD cD)).setCell (p := ⟨w.heap.size + 1 + 1, 1, none⟩) (by show w.heap.size ≤ w.heap.size + 1 + 1; omega) (.slice AS nS cS)).setCell (p := ⟨w.heap.size + 1 + 1, 2, none⟩) (by show w.heap.size ≤ w.heap.size + 1 + 1; omega) (.bool true)
   have hDD := own_farD (own_farD (own_farD D5 (p := ⟨w.heap.size + 1 + 1, 0, none⟩) (fun r e => by have := (own_cells D5 e).1; show r ≠ w.heap.size + 1 + 1; omega) (.slice AD nD cD)) (p := ⟨w.heap.size + 1 + 1, 1, none⟩) (fun r e => by have := (own_cells D5 e).1; show r ≠ w.heap.size + 1 + 1; omega) (.slice AS nS cS)) (p := ⟨w.heap.size + 1 + 1, 2, none⟩) (fun r e => by have := (own_cells D5 e).1; show r ≠ w.heap.size + 1 + 1; omega) (.bool true)
   have hSS := own_farD (own_farD (own_farD S5 (p := ⟨w.heap.size + 1 + 1, 0, none⟩) (fun r e => by have := (own_cells S5 e).1; show r ≠ w.heap.size + 1 + 1; omega) (.slice AD nD cD)) (p := ⟨w.heap.size + 1 + 1, 1, none⟩) (fun r e => by have := (own_cells S5 e).1; show r ≠ w.heap.size + 1 + 1; omega) (.slice AS nS cS)) (p := ⟨w.heap.size + 1 + 1, 2, none⟩) (fun r e => by have := (own_cells S5 e).1; show r ≠ w.heap.size + 1 + 1; omega) (.bool true)
   have HGG := Lib.hid hG
   have HDD := Lib.hid hDD
   have HSS := Lib.hid hSS
   clear hB hG hG0 hDD hSS D5 S5 RR RT
   go_wp2_with fail
   refine bodyPost_ret (v := .agg #[.slice AD nD cD, .slice AS nS cS, .bool true]) ?_ rfl ?_
   ·simp [results, Tryz.results92, go_sem, t0, t1, t2]
   ·rw [HE.out]
    exact ⟨⟨_, _, rfl, HDD.out.mono (by omega), HSS.out.mono (by omega)⟩, HGG.out⟩
set_option maxRecDepth 100000 in
set_option maxHeartbeats 8000000 in
theorem least211_any (gn : Int × Int) (bg : Nat) (g : Gd) (l : List Cm) (A1 A2 A3 : Option Addr) (n1 c1 n2 c2 n3 c3 : Nat) (b : Nat) (w : World) (hp : Pt w b g l A1 A2 A3 n1 c1 n2 c2 n3 c3) (ho : OkG g) (hol : OkL g l) (hbg : Blk w bg 66 #[.int .i64 gn.1, .int .i64 gn.2]) (hgn : inG gn) :
  Calls Tryz.prog 92 #[.pointer (some ⟨b, 0, none⟩), .func (.func 211) #[] #[.pointer (some ⟨bg, 0, none⟩)]] w (LeastEnd (gre (abv gn) (wsG g) l 0) w) := by
 obtain ⟨W1, hW1⟩ : ∃ X, ((((w.alloc (.cells #[.pointer (some ⟨b, 0, none⟩)] 157)).alloc (.cells #[.func (.func 211) #[] #[.pointer (some ⟨bg, 0, none⟩)]] 165)).alloc (.cells #[.slice none 0 0, .slice none 0 0, .bool false] 161)).alloc (.cells #[.slice none 0 0, .slice none 0 0, .bool false] 161)).alloc (.cells #[.int .i64 0] 3) = X := ⟨_, rfl⟩
 have GW1 := Lib.hid (show Below w.heap.size w W1 by rw [← hW1]; exact ((((one_more _ _).alloc (by simp <;> omega) _).alloc (by simp <;> omega) _).alloc (by simp <;> omega) _).alloc (by simp <;> omega) _)
 have BW1_0 := Lib.hid (show Blk W1 (w.heap.size) 157 #[.pointer (some ⟨b, 0, none⟩)] by
  rw [← hW1]
  have := Blk.new w 157 #[.pointer (some ⟨b, 0, none⟩)]
  (try simp only [World.size_alloc] at this)
  exact ((((this).alloc _).alloc _).alloc _).alloc _)
 have BW1_1 := Lib.hid (show Blk W1 (w.heap.size + 1) 165 #[.func (.func 211) #[] #[.pointer (some ⟨bg, 0, none⟩)]] by
  rw [← hW1]
  have := Blk.new (w.alloc (.cells #[.pointer (some ⟨b, 0, none⟩)] 157)) 165 #[.func (.func 211) #[] #[.pointer (some ⟨bg, 0, none⟩)]]
  (try simp only [World.size_alloc] at this)
  exact (((this).alloc _).alloc _).alloc _)
 have BW1_2 := Lib.hid (show Blk W1 (w.heap.size + 1 + 1) 161 #[.slice none 0 0, .slice none 0 0, .bool false] by
  rw [← hW1]
  have := Blk.new ((w.alloc (.cells #[.pointer (some ⟨b, 0, none⟩)] 157)).alloc (.cells #[.func (.func 211) #[] #[.pointer (some ⟨bg, 0, none⟩)]] 165)) 161 #[.slice none 0 0, .slice none 0 0, .bool false]
  (try simp only [World.size_alloc] at this)
  exact ((this).alloc _).alloc _)
 have BW1_3 := Lib.hid (show Blk W1 (w.heap.size + 1 + 1 + 1) 161 #[.slice none 0 0, .slice none 0 0, .bool false] by
  rw [← hW1]
  have := Blk.new (((w.alloc (.cells #[.pointer (some ⟨b, 0, none⟩)] 157)).alloc (.cells #[.func (.func 211) #[] #[.pointer (some ⟨bg, 0, none⟩)]] 165)).alloc (.cells #[.slice none 0 0, .slice none 0 0, .bool false] 161)) 161 #[.slice none 0 0, .slice none 0 0, .bool false]
  (try simp only [World.size_alloc] at this)
  exact (this).alloc _)
 have BW1_4 := Lib.hid (show Blk W1 (w.heap.size + 1 + 1 + 1 + 1) 3 #[.int .i64 0] by
  rw [← hW1]
  have := Blk.new ((((w.alloc (.cells #[.pointer (some ⟨b, 0, none⟩)] 157)).alloc (.cells #[.func (.func 211) #[] #[.pointer (some ⟨bg, 0, none⟩)]] 165)).alloc (.cells #[.slice none 0 0, .slice none 0 0, .bool false] 161)).alloc (.cells #[.slice none 0 0, .slice none 0 0, .bool false] 161)) 3 #[.int .i64 0]
  (try simp only [World.size_alloc] at this)
  exact this)
 have HW1 := Lib.hid hW1
 clear hW1
 have hs1 : W1.heap.size = w.heap.size + 5 := by rw [← HW1.out]; simp
 have HS1 := Lib.hid hs1
 have HP := Lib.hid hp
 have HO := Lib.hid ho
 have HOL := Lib.hid hol
 have hll : l.length = n3 := hp.l.1.1
 have h12 : n3 ≤ 12 := by have := hol.n; omega
 have HPX := Lib.hid (hp.b.ext GW1.out)
 have d0 := BW1_0.out.cell 0
 have d1 := HPX.out.cell 2
 have HBG := Lib.hid hbg
 have HGN := Lib.hid hgn
 clear hbg hgn
 clear hp ho hol hs1
 obtain ⟨tr, htr⟩ : ∃ tr, gre (abv gn) (wsG g) l 0 = tr := ⟨_, rfl⟩
 rw [htr]
 have HTR := Lib.hid htr
 clear htr
 go_enter Tryz.func92, Tryz.ntmps92
 go_upto_region 3 with fail
 rw [HW1.out]
 go_wp2_with fail
 go_loopw [16] (fun i wr => ∃ (k : Nat) (a : Int) (vD vS : Value) (ds : List (Int × Int)) (ss : List Int), i = .int .i64 k ∧ k ≤ n3 ∧ Below w.heap.size w wr ∧ w.heap.size + 5 ≤ wr.heap.size ∧ Blk wr w.heap.size 157 #[.pointer (some ⟨b, 0, none⟩)] ∧ Blk wr (w.heap.size + 1) 165 #[.func (.func 211) #[] #[.pointer (some ⟨bg, 0, none⟩)]] ∧ Blk wr (w.heap.size + 1 + 1) 161 #[.slice none 0 0, .slice none 0 0, .bool false] ∧ Blk wr (w.heap.size + 1 + 1 + 1) 161 #[vD, vS, .bool false] ∧ Blk wr (w.heap.size + 1 + 1 + 1 + 1) 3 #[.int .i64 a]
  ∧ OwnL dcells 2 84 wr (w.heap.size + 5) vD ds ∧ OwnL icells 1 3 wr (w.heap.size + 5) vS ss ∧ 0 ≤ a ∧ a ≤ 100 ∧ ds.length = k ∧ ss.length = k ∧ tr = ⟨ds ++ (gre (abv gn) (wsG g) (l.drop k) a).ds, ss ++ (gre (abv gn) (wsG g) (l.drop k) a).ss, (gre (abv gn) (wsG g) (l.drop k) a).all⟩) (fun i _ => n3 - (intOf i).toNat)
 case atStart => exact ⟨0, 0, _, _, [], [], rfl, Nat.zero_le _, GW1.out, by have := HS1.out; omega, BW1_0.out, BW1_1.out, BW1_2.out, BW1_3.out, BW1_4.out, OwnL.nil _ _, OwnL.nil _ _, Int.le_refl _, by omega, rfl, rfl, by rw [← HTR.out]; rfl⟩
 case round =>
  obtain ⟨k, a, vD, vS, ds, ss, rfl, hk, hg, hws, hb0, hb1, hb2, hb3, hb4, hD, hS, ha0, ha1, hdl, hsl, htr⟩ := hrel
  obtain ⟨AD, cD, hvD, -⟩ := OwnL.arr kdDr hD
  obtain ⟨nD, hnD⟩ : ∃ n, ds.length = n := ⟨_, rfl⟩
  rw [hnD] at hvD
  obtain ⟨AS, cS, hvS, -⟩ := OwnL.arr kdN hS
  obtain ⟨nS, hnS⟩ : ∃ n, ss.length = n := ⟨_, rfl⟩
  rw [hnS] at hvS
  subst hvD hvS
  clear hnD hnS
  have HG := Lib.hid hg
  have HWS := Lib.hid hws
  have HB0 := Lib.hid hb0
  have HB1 := Lib.hid hb1
  have HB2 := Lib.hid hb2
  have HB3 := Lib.hid hb3
  have HB4 := Lib.hid hb4
  have HD := Lib.hid hD
  have HS := Lib.hid hS
  have HDL := Lib.hid hdl
  have HSL := Lib.hid hsl
  clear hg hws hb0 hb1 hb2 hb3 hb4 hD hS hdl hsl d0 d1
  by_cases hkn : k < n3
  ·obtain ⟨b0, o0, e0, -, hmem, hc⟩ := c_at (HP.out.l.1.below HG.out) hkn
   obtain ⟨x0, x1, x2, x3⟩ := hc _ (Below.refl _ _)
   have HOC := Lib.hid (HOL.out.c _ hmem)
   rw [drop_cat (by omega)] at htr
   obtain ⟨c, hce⟩ : ∃ c, cat l k = c := ⟨_, rfl⟩
   rw [hce] at x0 x1 x2 x3 HOC htr
   subst e0
   obtain ⟨W2, hW2⟩ : ∃ X, wr.alloc (.cells #[.int .i64 c.fam, .int .i64 c.hd, .int .i64 c.lo, .int .i64 c.hi] 87) = X := ⟨_, rfl⟩
   have GW2 := Lib.hid (show Below wr.heap.size wr W2 by rw [← hW2]; exact one_more _ _)
   have BW2_0 := Lib.hid (show Blk W2 (wr.heap.size) 87 #[.int .i64 c.fam, .int .i64 c.hd, .int .i64 c.lo, .int .i64 c.hi] by
    rw [← hW2]
    have := Blk.new wr 87 #[.int .i64 c.fam, .int .i64 c.hd, .int .i64 c.lo, .int .i64 c.hi]
    (try simp only [World.size_alloc] at this)
    exact this)
   have HW2 := Lib.hid hW2
   clear hW2
   have G2 := Lib.hid (HG.out.trans (GW2.out.mono HG.out.size))
   have hw2s := GW2.out.size
   have hwr := HWS.out
   have t1 := (HB3.out.ext GW2.out).cell 1
   have t2 := (HB4.out.ext GW2.out).cell 0
   have HOX := Lib.hid ((HS.out.ext GW2.out).ext (one_more W2 (.cells #[.int .i64 a] 3)))
   have HI1 := Lib.hid (show Ints (W2.alloc (.cells #[.int .i64 a] 3)) (some ⟨W2.heap.size, 0, none⟩) 1 [a] from (Blk.new W2 3 #[.int .i64 a] : Blk _ _ 3 (vals [a])).intsN rfl)
   have HLEN := Lib.hid (show ss.length + 1 ≤ 1000000 by have := HSL.out; omega)
   have HOB := Lib.hid (fun r (e : (Value.slice AS nS cS).ownBlock = some r) => (own_cells HS.out e).1)
   have HOC2 := Lib.hid (fun r (e : (Value.slice AS nS cS).ownBlock = some r) => (own_cells HS.out e).2.1)
   have HX0 := Lib.hid (BW2_0.out.alloc (.cells #[.int .i64 a] 3))
   have HX1 := Lib.hid ((HB3.out.ext GW2.out).alloc (.cells #[.int .i64 a] 3))
   have HTR := Lib.hid htr
   clear hc hce hmem htr
   go_upto_region 7 with fail
   rw [HW2.out]
   go_upto_region 8 with (at_builtin; go_loud (refine wpList_app kdN (by rfl) _ _ (by rfl) (w.heap.size + 5) (.slice AS nS cS) ss (by rfl) HOX.out _ 1 1 [a] (by rfl) HI1.out HLEN.out (by simp; omega) ?_); intro v' w3 ho hbw hz; obtain ⟨Av, cv, hve, -⟩ := OwnL.arr kdN ho; obtain ⟨nv, hnv⟩ : ∃ nv, (ss ++ [a]).length = nv := ⟨_, rfl⟩; rw [hnv] at hve; subst hve; clear hnv; have bX := HX0.out.grown hbw (fun e => by have := HOC2.out _ e; omega); have bT := HX1.out.grown hbw (fun e => by have := HOB.out _ e; omega); have m0 := bT.cell 1; have m1 := bT.frozen 1; have HO3 := Lib.hid ho; have HG3 := Lib.hid hbw; have HX3 := Lib.hid bX; have HT3 := Lib.hid bT; clear ho hbw hz bX bT)
   obtain ⟨W4, hW4⟩ : ∃ X, w3.setCell ⟨w.heap.size + 1 + 1 + 1, 1, none⟩ (.slice Av nv cv) = X := ⟨_, rfl⟩
   have F3 : Fw (fun r => r = w.heap.size + 1 + 1 + 1 ∨ (Value.slice AS nS cS).ownBlock = some r) wr W4 := by
    rw [← hW4]
    exact (((Fw.of_below GW2.out).trans (Fw.of_below (one_more W2 _))).trans (Fw.of_grown HG3.out (fun r e => .inl (.inr e)))).set (.inl (.inl rfl)) _
   have hob := HOB.out
   have G4 := Lib.hid (HG.out.trans (F3.below (B := w.heap.size) (fun r h => by rcases h with h | h; omega; have := hob r h; omega) HG.out.size))
   have hw4 := F3.size
   have C0 := Lib.hid (F3.blk HB0.out (fun h => by rcases h with h | h; omega; have := hob _ h; omega))
   have C1 := Lib.hid (F3.blk HB1.out (fun h => by rcases h with h | h; omega; have := hob _ h; omega))
   have C2 := Lib.hid (F3.blk HB2.out (fun h => by rcases h with h | h; omega; have := hob _ h; omega))
   have C4 := Lib.hid (F3.blk HB4.out (fun h => by rcases h with h | h; omega; have := hob _ h; omega))
   have C3 := Lib.hid (show Blk W4 (w.heap.size + 1 + 1 + 1) 161 #[.slice AD nD cD, .slice Av nv cv, .bool false] by rw [← hW4]; exact HT3.out.set_ 1 _)
   have D4 := Lib.hid (own_fw HD.out F3 (fun r e h => by
    rcases h with h | h
    ·have := (own_cells HD.out e).1; omega
    ·obtain ⟨-, -, cur, h1⟩ := own_cells HD.out e
     obtain ⟨-, -, cur2, h2⟩ := own_cells HS.out h
     rw [h1] at h2; injection h2 with h2; injection h2 with _ h2; cases h2))
   have S4 := Lib.hid (show OwnL icells 1 3 W4 (w.heap.size + 5) (.slice Av nv cv) (ss ++ [a]) by rw [← hW4]; exact own_farD HO3.out (fun r e => by have := (own_cells HO3.out e).1; show r ≠ w.heap.size + 1 + 1 + 1; omega) _)
   have X4 := Lib.hid (show Blk W4 wr.heap.size 87 #[.int .i64 c.fam, .int .i64 c.hd, .int .i64 c.lo, .int .i64 c.hi] by rw [← hW4]; exact HX3.out.far (p := ⟨w.heap.size + 1 + 1 + 1, 1, none⟩) (by show wr.heap.size ≠ w.heap.size + 1 + 1 + 1; omega) _)
   have HT := part211_any gn bg g l A1 A2 (some ⟨b0, o0, none⟩) n1 c1 n2 c2 n3 c3 b (w.heap.size + 1 + 1 + 1 + 1) w.heap.size (w.heap.size + 1) (w.heap.size + 1 + 1 + 1) (w.heap.size + 5) c a (.slice AD nD cD) (.slice Av nv cv) ds W4 (HP.out.below G4.out) HO.out HOC.out ha0 ha1 C4.out C0.out C1.out C3.out D4.out (by have := HDL.out; omega) (by omega) ⟨by omega, by omega, by omega⟩ (HBG.out.ext G4.out) HGN.out
   unfold PartEnd at HT
   rw [hW4]
   have u0 := X4.out.cell 0
   have u1 := X4.out.cell 1
   have u2 := X4.out.cell 2
   have u3 := X4.out.cell 3
   have hokc := HOC.out
   unfold okC at hokc
   have h24 := hokc.2.2.2.2.2.2.2
   cases hn : nxt (abv gn) (wsG g) c (ft a c) with
   | none =>
    have HE := Lib.hid (show tr = ⟨ds, ss ++ [a], false⟩ by rw [HTR.out, gre_none hn, List.append_nil])
    rw [hn] at HT
    have HTT := Lib.hid HT
    clear HT hn hW4 F3 x0 x1 x2 x3 t1 t2 m0 m1
    go_upto_region 9 with (go_at_call 174; (with_reducible refine (HTT.out).mono ?_); rintro e V5 ⟨rfl, hg5⟩; have G5 := Lib.hid (G4.out.trans (hg5.mono G4.out.size)); have RT := Lib.hid (C3.out.ext hg5); have RR := Lib.hid (C2.out.ext hg5); have D5 := Lib.hid (D4.out.ext hg5); have S5 := Lib.hid (S4.out.ext hg5); clear hg5)
    have f0 := RR.out.frozen 0
    have f1 := RR.out.frozen 1
    have f2 := RR.out.frozen 2
    have r0 := RR.out.cell 0
    have r1 := RR.out.cell 1
    have r2 := RR.out.cell 2
    have q0 := RT.out.cell 0
    have q1 := RT.out.cell 1
    have q2 := RT.out.cell 2
    clear u0 u1 u2 u3
    have hB := ((RR.out.set_ 0 (.slice AD nD cD)).set_ 1 (.slice Av nv cv)).set_ 2 (.bool false)
    have t0 := hB.cell 0
    have t1 := hB.cell 1
    have t2 := hB.cell 2
    have hG := ((G5.out.setCell (p := ⟨w.heap.size + 1 + 1, 0, none⟩) (by show w.heap.size ≤ w.heap.size + 1 + 1; omega) (.slice AD nD cD)).setCell (p := ⟨w.heap.size + 1 + 1, 1, none⟩) (by show w.heap.size ≤ w.heap.size + 1 + 1; omega) (.slice Av nv cv)).setCell (p := ⟨w.heap.size + 1 + 1, 2, none⟩) (by show w.heap.size ≤ w.heap.size + 1 + 1; omega) (.bool false)
    have hDD := own_farD (own_farD (own_farD D5.out (p := ⟨w.heap.size + 1 + 1, 0, none⟩) (fun r e => by have := (own_cells D5.out e).1; show r ≠ w.heap.size + 1 + 1; omega) (.slice AD nD cD)) (p := ⟨w.heap.size + 1 + 1, 1, none⟩) (fun r e => by have := (own_cells D5.out e).1; show r ≠ w.heap.size + 1 + 1; omega) (.slice Av nv cv)) (p := ⟨w.heap.size + 1 + 1, 2, none⟩) (fun r e => by have := (own_cells D5.out e).1; show r ≠ w.heap.size + 1 + 1; omega) (.bool false)
    have hSS := own_farD (own_farD (own_farD S5.out (p := ⟨w.heap.size + 1 + 1, 0, none⟩) (fun r e => by have := (own_cells S5.out e).1; show r ≠ w.heap.size + 1 + 1; omega) (.slice AD nD cD)) (p := ⟨w.heap.size + 1 + 1, 1, none⟩) (fun r e => by have := (own_cells S5.out e).1; show r ≠ w.heap.size + 1 + 1; omega) (.slice Av nv cv)) (p := ⟨w.heap.size + 1 + 1, 2, none⟩) (fun r e => by have := (own_cells S5.out e).1; show r ≠ w.heap.size + 1 + 1; omega) (.bool false)
    have HGG := Lib.hid hG
    have HDD := Lib.hid hDD
    have HSS := Lib.hid hSS
    clear hB hG hDD hSS
    go_wp2_with fail
    refine bodyPost_ret (v := .agg #[.slice AD nD cD, .slice Av nv cv, .bool false]) ?_ rfl ?_
    ·simp [results, Tryz.results92, go_sem, t0, t1, t2]
    ·rw [HE.out]
     exact ⟨⟨_, _, rfl, HDD.out.mono (by omega), HSS.out.mono (by omega)⟩, HGG.out⟩
   | some t =>
    have hnx := nxt_spec hn
    have hgs := gre_some (l := l.drop (k + 1)) hn
    rw [hn] at HT
    have HTT := Lib.hid HT
    clear HT hn hW4 F3 x0 x1 x2 x3 t1 t2 m0 m1
    go_wp2_with (go_at_call 174; (with_reducible refine (HTT.out).mono ?_); rintro e V5 ⟨rfl, vD', hpe⟩; have HPE := Lib.hid hpe; clear hpe)
    have hfw := HPE.out.fw
    have hdo : ∀ r, (Value.slice AD nD cD).ownBlock = some r → w.heap.size + 5 ≤ r := fun r e => (own_cells HD.out e).1
    go_roundw
    case rel =>
     have hF : ∀ r, (r = w.heap.size + 1 + 1 + 1 + 1 ∨ r = w.heap.size + 1 + 1 + 1 ∨ (Value.slice AD nD cD).ownBlock = some r) → w.heap.size + 3 ≤ r := fun r h => by
      rcases h with h | h | h
      ·omega
      ·omega
      ·have := hdo r h; omega
     refine ⟨k + 1, t + 1, vD', _, ds ++ [(ft a c, t)], ss ++ [a], by go_num, by omega, G4.out.trans (hfw.below (B := w.heap.size) (fun r h => by have := hF r h; omega) (by omega)), by have := hfw.size; omega, hfw.blk C0.out (fun h => by have := hF _ h; omega), hfw.blk C1.out (fun h => by have := hF _ h; omega), hfw.blk C2.out (fun h => by have := hF _ h; omega), HPE.out.t, HPE.out.at_, HPE.out.own, own_fw S4.out hfw (fun r e h => ?_), by unfold ft at hnx; omega, by omega, by rw [List.length_append, HDL.out]; rfl, by rw [List.length_append, HSL.out]; rfl, ?_⟩
     ·rcases h with h | h | h
      ·have := (own_cells S4.out e).1; omega
      ·have := (own_cells S4.out e).1; omega
      ·obtain ⟨-, -, cur, h1⟩ := own_cells S4.out e
       obtain ⟨-, -, cur2, h2⟩ := own_cells D4.out h
       rw [h1] at h2; injection h2 with h2; injection h2 with _ h2; cases h2
     ·rw [HTR.out, hgs, List.append_assoc, List.append_assoc]; rfl
    case measure => simp [intOf]; omega
  ·obtain rfl : n3 = k := by omega
   have HE := Lib.hid (show tr = ⟨ds, ss, true⟩ by rw [htr, List.drop_of_length_le (by omega)]; simp [gre])
   clear htr
   have g0 := HB3.out.cell 0
   have g1 := HB3.out.cell 1
   have g2 := HB3.out.cell 2
   have g3 := HB3.out.frozen 2
   have RT := HB3.out.set_ 2 (.bool true)
   have RR := HB2.out.far (p := ⟨w.heap.size + 1 + 1 + 1, 2, none⟩) (by show w.heap.size + 1 + 1 ≠ w.heap.size + 1 + 1 + 1; omega) (.bool true)
   have f0 := RR.frozen 0
   have f1 := RR.frozen 1
   have f2 := RR.frozen 2
   have r0 := RR.cell 0
   have r1 := RR.cell 1
   have r2 := RR.cell 2
   have q0 := RT.cell 0
   have q1 := RT.cell 1
   have q2 := RT.cell 2
   have hG0 := HG.out.setCell (p := ⟨w.heap.size + 1 + 1 + 1, 2, none⟩) (by show w.heap.size ≤ w.heap.size + 1 + 1 + 1; omega) (.bool true)
   have D5 := own_farD HD.out (p := ⟨w.heap.size + 1 + 1 + 1, 2, none⟩) (fun r e => by have := (own_cells HD.out e).1; show r ≠ w.heap.size + 1 + 1 + 1; omega) (.bool true)
   have S5 := own_farD HS.out (p := ⟨w.heap.size + 1 + 1 + 1, 2, none⟩) (fun r e => by have := (own_cells HS.out e).1; show r ≠ w.heap.size + 1 + 1 + 1; omega) (.bool true)
   have hB := ((RR.set_ 0 (.slice AD nD cD)).set_ 1 (.slice AS nS cS)).set_ 2 (.bool true)
   have t0 := hB.cell 0
   have t1 := hB.cell 1
   have t2 := hB.cell 2
   have hG := ((hG0.setCell (p := ⟨w.heap.size + 1 + 1, 0, none⟩) (by show w.heap.size ≤ w.heap.size + 1 + 1; omega) (.slice AD nD cD)).setCell (p := ⟨w.heap.size + 1 + 1, 1, none⟩) (by show w.heap.size ≤ w.heap.size + 1 + 1; omega) (.slice AS nS cS)).setCell (p := ⟨w.heap.size + 1 + 1, 2, none⟩) (by show w.heap.size ≤ w.heap.size + 1 + 1; omega) (.bool true)
   have hDD := own_farD (own_farD (own_farD D5 (p := ⟨w.heap.size + 1 + 1, 0, none⟩) (fun r e => by have := (own_cells D5 e).1; show r ≠ w.heap.size + 1 + 1; omega) (.slice AD nD cD)) (p := ⟨w.heap.size + 1 + 1, 1, none⟩) (fun r e => by have := (own_cells D5 e).1; show r ≠ w.heap.size + 1 + 1; omega) (.slice AS nS cS)) (p := ⟨w.heap.size + 1 + 1, 2, none⟩) (fun r e => by have := (own_cells D5 e).1; show r ≠ w.heap.size + 1 + 1; omega) (.bool true)
   have hSS := own_farD (own_farD (own_farD S5 (p := ⟨w.heap.size + 1 + 1, 0, none⟩) (fun r e => by have := (own_cells S5 e).1; show r ≠ w.heap.size + 1 + 1; omega) (.slice AD nD cD)) (p := ⟨w.heap.size + 1 + 1, 1, none⟩) (fun r e => by have := (own_cells S5 e).1; show r ≠ w.heap.size + 1 + 1; omega) (.slice AS nS cS)) (p := ⟨w.heap.size + 1 + 1, 2, none⟩) (fun r e => by have := (own_cells S5 e).1; show r ≠ w.heap.size + 1 + 1; omega) (.bool true)
   have HGG := Lib.hid hG
   have HDD := Lib.hid hDD
   have HSS := Lib.hid hSS
   clear hB hG hG0 hDD hSS D5 S5 RR RT
   go_wp2_with fail
   refine bodyPost_ret (v := .agg #[.slice AD nD cD, .slice AS nS cS, .bool true]) ?_ rfl ?_
   ·simp [results, Tryz.results92, go_sem, t0, t1, t2]
   ·rw [HE.out]
    exact ⟨⟨_, _, rfl, HDD.out.mono (by omega), HSS.out.mono (by omega)⟩, HGG.out⟩
end Go.Proofs.YtkoejeghihcmlaaGreat

namespace Go.Proofs.YtkoejeghihcmlaaGreat
open Go.RowKit Go.Shelf
theorem jmx_ex (K : Nat) : ∃ f : (Nat → Prop) → Nat, ∀ P : Nat → Prop, (∃ j, j ≤ K ∧ P j) → P (f P) ∧ f P ≤ K ∧ ∀ j, j ≤ K → P j → j ≤ f P := by
 have key : ∀ P : Nat → Prop, ∃ m, (∃ j, j ≤ K ∧ P j) → P m ∧ m ≤ K ∧ ∀ j, j ≤ K → P j → j ≤ m := by
  intro P
  have : ∀ n, n ≤ K → (∃ m, (P m ∧ m ≤ n ∧ ∀ j, j ≤ n → P j → j ≤ m)) ∨ ∀ j, j ≤ n → ¬ P j := by
   intro n
   induction n with
   | zero =>
    intro _
    by_cases h : P 0
    ·exact .inl ⟨0, h, Nat.le_refl _, fun j hj _ => hj⟩
    ·exact .inr fun j hj hp => h (by rwa [Nat.le_zero.1 hj] at hp)
   | succ n ih =>
    intro hn
    by_cases h : P (n + 1)
    ·exact .inl ⟨n + 1, h, Nat.le_refl _, fun j hj _ => hj⟩
    ·rcases ih (by omega) with ⟨m, h1, h2, h3⟩ | h1
     ·refine .inl ⟨m, h1, by omega, fun j hj hp => ?_⟩
      by_cases e : j = n + 1
      ·subst e; exact absurd hp h
      ·exact h3 j (by omega) hp
     ·refine .inr fun j hj hp => ?_
      by_cases e : j = n + 1
      ·subst e; exact h hp
      ·exact h1 j (by omega) hp
  rcases this K (Nat.le_refl _) with ⟨m, h1, h2, h3⟩ | h
  ·exact ⟨m, fun _ => ⟨h1, h2, h3⟩⟩
  ·exact ⟨0, fun ⟨j, hj, hp⟩ => absurd hp (h j hj)⟩
 exact ⟨fun P => Classical.choose (key P), fun P => Classical.choose_spec (key P)⟩
/-- How things stand ahead of try j. -/
structure FairI (ws : List Int) (l : List Cm) (w : World) (s : Nat) (j : Nat) (vB isv : Value) (wr : World) : Prop where
 below : Below w.heap.size w wr
 sz : s + 2 ≤ wr.heap.size
 is : isv = .bool (decide (0 < j))
 gn : ∃ gn : Int × Int, Blk wr s 66 #[.int .i64 gn.1, .int .i64 gn.2] ∧ (0 < j → gn = lea ws l (j - 1))
 tr : ∃ AD nD cD AS nS cS, Blk wr (s + 1) 161 #[.slice AD nD cD, .slice AS nS cS, .bool (mo ws l j).all] ∧ OwnL dcells 2 84 wr (s + 2) (.slice AD nD cD) (mo ws l j).ds ∧ OwnL icells 1 3 wr (s + 2) (.slice AS nS cS) (mo ws l j).ss
 bs : ∃ AB nB cB, vB = .slice AB nB cB ∧ (0 < j → OwnL dcells 2 84 wr (s + 2) (.slice AB nB cB) (mo ws l (j - 1)).ds)
/-- What fairest returns. -/
def FairEnd (ws : List Int) (l : List Cm) (K : Nat) (w : World) (e : Ending) (w' : World) : Prop :=
 (∃ AB nB cB gn AD nD cD AS nS cS, e = .returned (.tuple #[.slice AB nB cB, prv gn, .agg #[.slice AD nD cD, .slice AS nS cS, .bool false], .bool (decide (0 < K))]) ∧ OwnL icells 1 3 w' w.heap.size (.slice AS nS cS) (mo ws l K).ss ∧
  (0 < K → gn = lea ws l (K - 1) ∧ OwnL dcells 2 84 w' w.heap.size (.slice AB nB cB) (mo ws l (K - 1)).ds)) ∧ Below w.heap.size w w'
theorem Valid.inG {ws : List Int} {l : List Cm} (V : Valid ws l) {ds : List (Int × Int)} : ∀ x ∈ gns ws l ds, inG x := fun x hx => by
 have := V.gn x hx
 unfold okGn at this
 unfold Go.Proofs.YtkoejeghihcmlaaGreat.inG
 omega
set_option maxRecDepth 100000 in
set_option maxHeartbeats 8000000 in
theorem fairest_any (g : Gd) (l : List Cm) (A1 A2 A3 : Option Addr) (n1 c1 n2 c2 n3 c3 : Nat) (b : Nat) (K : Nat) (w : World) (hp : Pt w b g l A1 A2 A3 n1 c1 n2 c2 n3 c3) (ho : OkG g) (hol : OkL g l) (hK : (mo (wsG g) l K).all = false) (hK2 : ∀ j < K, (mo (wsG g) l j).all = true) :
  Calls Tryz.prog 91 #[.pointer (some ⟨b, 0, none⟩)] w (FairEnd (wsG g) l K w) := by
 obtain ⟨W1, hW1⟩ : ∃ X, (w.alloc (.cells #[.int .i64 0, .int .i64 0] 66)).alloc (.cells #[.slice none 0 0, .slice none 0 0, .bool false] 161) = X := ⟨_, rfl⟩
 have GW1 := Lib.hid (show Below w.heap.size w W1 by rw [← hW1]; exact (one_more _ _).alloc (by simp <;> omega) _)
 have BW1_0 := Lib.hid (show Blk W1 (w.heap.size) 66 #[.int .i64 0, .int .i64 0] by
  rw [← hW1]
  have := Blk.new w 66 #[.int .i64 0, .int .i64 0]
  (try simp only [World.size_alloc] at this)
  exact (this).alloc _)
 have BW1_1 := Lib.hid (show Blk W1 (w.heap.size + 1) 161 #[.slice none 0 0, .slice none 0 0, .bool false] by
  rw [← hW1]
  have := Blk.new (w.alloc (.cells #[.int .i64 0, .int .i64 0] 66)) 161 #[.slice none 0 0, .slice none 0 0, .bool false]
  (try simp only [World.size_alloc] at this)
  exact this)
 have HW1 := Lib.hid hW1
 clear hW1
 have hs1 : W1.heap.size = w.heap.size + 2 := by rw [← HW1.out]; simp
 have HP := Lib.hid hp
 have HO := Lib.hid ho
 have HOL := Lib.hid hol
 have HV := Lib.hid (ho.valid hol)
 have HK := Lib.hid hK
 have HK2 := Lib.hid hK2
 have h12 : l.length ≤ 12 := hol.n.2
 obtain ⟨fm, hfm⟩ := jmx_ex K
 have HFM := Lib.hid hfm
 have HL0 := Lib.hid (least93_any () g l A1 A2 A3 n1 c1 n2 c2 n3 c3 b W1 (hp.below GW1.out) ho hol)
 have HM0 := Lib.hid (show gre any_ (wsG g) l 0 = mo (wsG g) l 0 from rfl)
 clear hp ho hol hK hK2 hfm
 go_enter Tryz.func91, Tryz.ntmps91
 go_upto_region 1 with fail
 rw [HW1.out]
 unfold LeastEnd at HL0
 go_wp2_with (go_at_call 92; (with_reducible refine (HL0.out).mono ?_); rintro e V ⟨⟨vD, vS, rfl, hD, hS⟩, hg⟩; obtain ⟨AD, cD, hvD, -⟩ := OwnL.arr kdDr hD; obtain ⟨AS, cS, hvS, -⟩ := OwnL.arr kdN hS; subst hvD hvS; have HD := Lib.hid hD; have HS := Lib.hid hS; have RR := Lib.hid (BW1_1.out.ext hg); have RG := Lib.hid (BW1_0.out.ext hg); have GV := Lib.hid hg; have f0 := RR.out.frozen 0; have f1 := RR.out.frozen 1; have f2 := RR.out.frozen 2; have r0 := RR.out.cell 0; have r1 := RR.out.cell 1; have r2 := RR.out.cell 2; clear hD hS hg)
 rw [HM0.out] at HD HS ⊢
 obtain ⟨nD, hnD⟩ : ∃ n, (mo (wsG g) l 0).ds.length = n := ⟨_, rfl⟩
 obtain ⟨nS, hnS⟩ : ∃ n, (mo (wsG g) l 0).ss.length = n := ⟨_, rfl⟩
 obtain ⟨al, hal⟩ : ∃ n, (mo (wsG g) l 0).all = n := ⟨_, rfl⟩
 rw [hnD] at HD ⊢
 rw [hnS] at HS ⊢
 rw [hal]
 have HAL := Lib.hid hal
 have HS1 := Lib.hid hs1
 have hvs := GV.out.size
 clear hnD hnS hal f0 f1 f2 r0 r1 r2
 go_loopw [2, 5] (fun vB isv wr => ∃ j, j ≤ K ∧ FairI (wsG g) l w w.heap.size j vB isv wr) (fun vB isv wr => K - fm (fun j => FairI (wsG g) l w w.heap.size j vB isv wr))
 case atStart =>
  have hD := HD.out
  have hS := HS.out
  rw [HS1.out] at hD hS
  refine ⟨0, Nat.zero_le _, ?_, ?_, rfl, ⟨(0, 0), ?_, fun h => absurd h (by omega)⟩, ⟨AD, nD, cD, AS, nS, cS, ?_, ?_, ?_⟩, ⟨none, 0, 0, rfl, fun h => absurd h (by omega)⟩⟩
  ·exact (((GW1.out.trans (GV.out.mono GW1.out.size)).setCell (p := ⟨w.heap.size + 1, 0, none⟩) (by show w.heap.size ≤ w.heap.size + 1; omega) _).setCell (p := ⟨w.heap.size + 1, 1, none⟩) (by show w.heap.size ≤ w.heap.size + 1; omega) _).setCell (p := ⟨w.heap.size + 1, 2, none⟩) (by show w.heap.size ≤ w.heap.size + 1; omega) _
  ·simp; omega
  ·exact ((RG.out.far (p := ⟨w.heap.size + 1, 0, none⟩) (by show w.heap.size ≠ w.heap.size + 1; omega) _).far (p := ⟨w.heap.size + 1, 1, none⟩) (by show w.heap.size ≠ w.heap.size + 1; omega) _).far (p := ⟨w.heap.size + 1, 2, none⟩) (by show w.heap.size ≠ w.heap.size + 1; omega) _
  ·rw [HAL.out]; exact ((RR.out.set_ 0 _).set_ 1 _).set_ 2 _
  ·exact own_farD (own_farD (own_farD hD (fun r e => by have := (own_cells hD e).1; show r ≠ w.heap.size + 1; omega) _) (fun r e => by have := (own_cells hD e).1; show r ≠ w.heap.size + 1; omega) _) (fun r e => by have := (own_cells hD e).1; show r ≠ w.heap.size + 1; omega) _
  ·exact own_farD (own_farD (own_farD hS (fun r e => by have := (own_cells hS e).1; show r ≠ w.heap.size + 1; omega) _) (fun r e => by have := (own_cells hS e).1; show r ≠ w.heap.size + 1; omega) _) (fun r e => by have := (own_cells hS e).1; show r ≠ w.heap.size + 1; omega) _
 case round =>
  clear HD HS RR RG GV HAL hvs HM0 HL0
  obtain ⟨hI, hjK, -⟩ := HFM.out _ hrel
  obtain ⟨j, hj⟩ : ∃ j, fm (fun j => FairI (wsG g) l w w.heap.size j u2 u5 wr) = j := ⟨_, rfl⟩
  rw [hj] at hI hjK
  have HJ := Lib.hid hj
  clear hj hrel
  obtain ⟨hbw, hsz, his, ⟨gn0, hgb, hgn⟩, ⟨CD, oD, eD, CS, oS, eS, htb, hD, hS⟩, ⟨AB, nB, cB, hvB, hB⟩⟩ := hI
  have HG := Lib.hid hbw
  have HGB := Lib.hid hgb
  have HTB := Lib.hid htb
  have HSZ := Lib.hid hsz
  cases hal : (mo (wsG g) l j).all with
  | true =>
   have hjlt : j < K := by
    rcases Nat.lt_or_ge j K with h | h
    ·exact h
    ·have : j = K := by omega
     subst this; rw [HK.out] at hal; cases hal
   rw [hal] at htb
   obtain ⟨A9, c9, e9, -, -, ha9, -⟩ := OwnL.arr kdDr hD
   injection e9 with q1 q2 q3
   rw [← q1, ← q2] at ha9
   have hshr := mo_shr hal
   have hlm := HV.out.lea_mem hal
   have HLE := Lib.hid (show poo (gns (wsG g) l (mo (wsG g) l j).ds) = lea (wsG g) l j from rfl)
   have hin := HV.out.inG _ hlm.1
   have hgl := (gns_len (ws := wsG g) hshr).1
   have hln := HOL.out.n
   obtain ⟨m9, hm9⟩ : ∃ m, (gns (wsG g) l (mo (wsG g) l j).ds).length = m := ⟨_, rfl⟩
   rw [hm9] at hgl
   have HM9 := Lib.hid hm9
   have HGI := Lib.hid (fun x hx => HV.out.inG (ds := (mo (wsG g) l j).ds) x hx)
   have HGN := Lib.hid (gains_any b g l A1 A2 A3 n1 c1 n2 c2 n3 c3 CD oD eD (mo (wsG g) l j).ds wr (HP.out.below hbw) HO.out HOL.out ha9 hshr)
   have HMO := Lib.hid (show gre (abv (lea (wsG g) l j)) (wsG g) l 0 = mo (wsG g) l (j + 1) from rfl)
   obtain ⟨gn, hgnE⟩ : ∃ gn, lea (wsG g) l j = gn := ⟨_, rfl⟩
   rw [hgnE] at HLE hin HMO
   have HGNE := Lib.hid hgnE
   have HIN := Lib.hid hin
   have HD := Lib.hid hD
   have k0 := htb.cell 0
   have k1 := htb.cell 1
   have k2 := htb.cell 2
   have hpo := HP.out
   clear hgn hS hB q1 q2 q3 ha9 hshr hlm hgnE hin hm9 hal hD htb hgb hbw
   go_upto_region 4 with fail
   go_upto_region 5 with (first
    | (go_at_call 97; (with_reducible refine (HGN.out).mono ?_); rintro e V2 ⟨⟨v2, rfl, ho2⟩, hg2⟩; have G2 := Lib.hid hg2; have HT2 := Lib.hid (show Calls Tryz.prog 172 #[v2] V2 fun e w' => e = .returned (prv gn) ∧ Below V2.heap.size V2 w' by obtain ⟨A8, c8, e8, -, -, ha8, -⟩ := OwnL.arr kdGn ho2; rw [e8, ← HLE.out]; exact poorest_any A8 _ c8 _ V2 ha8 (by rw [HM9.out]; omega) (by rw [HM9.out]; omega) HGI.out); clear hg2 ho2)
    | (go_at_call 172; (with_reducible refine (HT2.out).mono ?_); rintro e V3 ⟨rfl, hg3⟩; have G3 := Lib.hid (G2.out.trans (hg3.mono G2.out.size)); have RG3 := Lib.hid (HGB.out.ext G3.out); have f0 := RG3.out.frozen 0; have f1 := RG3.out.frozen 1; have r0 := RG3.out.cell 0; have r1 := RG3.out.cell 1; clear hg3))
   obtain ⟨W4, hW4⟩ : ∃ X, (V3.setCell ⟨w.heap.size, 0, none⟩ (.int .i64 gn.1)).setCell ⟨w.heap.size, 1, none⟩ (.int .i64 gn.2) = X := ⟨_, rfl⟩
   have h3s := G3.out.size
   have G4 := Lib.hid (show Below w.heap.size w W4 by rw [← hW4]; exact ((HG.out.trans (G3.out.mono HG.out.size)).setCell (p := ⟨w.heap.size, 0, none⟩) (Nat.le_refl _) _).setCell (p := ⟨w.heap.size, 1, none⟩) (Nat.le_refl _) _)
   have h4s : V3.heap.size ≤ W4.heap.size := by rw [← hW4]; simp
   have B4 := Lib.hid (show Blk W4 w.heap.size 66 #[.int .i64 gn.1, .int .i64 gn.2] by rw [← hW4]; exact (RG3.out.set_ 0 _).set_ 1 _)
   have T4 := Lib.hid (show Blk W4 (w.heap.size + 1) 161 _ by rw [← hW4]; exact ((HTB.out.ext G3.out).far (p := ⟨w.heap.size, 0, none⟩) (by show w.heap.size + 1 ≠ w.heap.size; omega) _).far (p := ⟨w.heap.size, 1, none⟩) (by show w.heap.size + 1 ≠ w.heap.size; omega) _)
   have D4 := Lib.hid (show OwnL dcells 2 84 W4 (w.heap.size + 2) (.slice CD oD eD) (mo (wsG g) l j).ds by rw [← hW4]; exact own_farD (own_farD (HD.out.ext G3.out) (fun r e => by have := (own_cells (HD.out.ext G3.out) e).1; show r ≠ w.heap.size; omega) _) (fun r e => by have := (own_cells (HD.out.ext G3.out) e).1; show r ≠ w.heap.size; omega) _)
   have HAB := Lib.hid (above_any gn W4)
   have HLS := Lib.hid (fun V (hg : Below W4.heap.size W4 V) (hb : Blk V W4.heap.size 66 #[.int .i64 gn.1, .int .i64 gn.2]) => (show Calls Tryz.prog 92 #[.pointer (some ⟨b, 0, none⟩), .func (.func 211) #[] #[.pointer (some ⟨W4.heap.size, 0, none⟩)]] V (LeastEnd (mo (wsG g) l (j + 1)) V) by rw [← HMO.out]; exact least211_any gn W4.heap.size g l A1 A2 A3 n1 c1 n2 c2 n3 c3 b V (HP.out.below (G4.out.trans (hg.mono G4.out.size))) HO.out HOL.out hb HIN.out))
   unfold LeastEnd at HLS
   rw [hW4]
   have k3 := B4.out.cell 0
   have k4 := B4.out.cell 1
   clear hW4 k0 k1 k2 hpo
   go_wp2_with (first
    | (go_at_call 173; (with_reducible refine (HAB.out).mono ?_); rintro e V5 ⟨⟨rfl, hb5⟩, hg5⟩; have G5 := Lib.hid hg5; have HLS5 := Lib.hid (HLS.out V5 hg5 hb5); clear hg5 hb5)
    | (go_at_call 92; (with_reducible refine (HLS5.out).mono ?_); rintro e V6 ⟨⟨vD, vS, rfl, hD, hS⟩, hg⟩; obtain ⟨ED, yD, hvD, -⟩ := OwnL.arr kdDr hD; obtain ⟨ES, yS, hvS, -⟩ := OwnL.arr kdN hS; subst hvD hvS; have HD6 := Lib.hid hD; have HS6 := Lib.hid hS; have G6 := Lib.hid (G5.out.trans (hg.mono G5.out.size)); have h56 := G5.out.size; have RR := Lib.hid (T4.out.ext G6.out); have f0 := RR.out.frozen 0; have f1 := RR.out.frozen 1; have f2 := RR.out.frozen 2; have r0 := RR.out.cell 0; have r1 := RR.out.cell 1; have r2 := RR.out.cell 2; clear hD hS hg))
   obtain ⟨mD, hmD⟩ : ∃ n, (mo (wsG g) l (j + 1)).ds.length = n := ⟨_, rfl⟩
   obtain ⟨mS, hmS⟩ : ∃ n, (mo (wsG g) l (j + 1)).ss.length = n := ⟨_, rfl⟩
   rw [hmD] at HD6 ⊢
   rw [hmS] at HS6 ⊢
   have hsz2 := HSZ.out
   have h6s := G6.out.size
   have hD := HD6.out.mono (show w.heap.size + 2 ≤ V5.heap.size by omega)
   have hS := HS6.out.mono (show w.heap.size + 2 ≤ V5.heap.size by omega)
   have hB6 := D4.out.ext G6.out
   have hne : ∀ i, ∀ r, w.heap.size + 2 ≤ r → r ≠ (⟨w.heap.size + 1, i, none⟩ : Addr).block := fun i r h => by show r ≠ w.heap.size + 1; omega
   have HNEW := Lib.hid (show FairI (wsG g) l w w.heap.size (j + 1) (.slice CD oD eD) (.bool true) (((V6.setCell ⟨w.heap.size + 1, 0, none⟩ (.slice ED mD yD)).setCell ⟨w.heap.size + 1, 1, none⟩ (.slice ES mS yS)).setCell ⟨w.heap.size + 1, 2, none⟩ (.bool (mo (wsG g) l (j + 1)).all)) from by
    refine ⟨?_, ?_, by rw [decide_eq_true (by omega)], ⟨gn, ?_, fun _ => ?_⟩, ⟨ED, mD, yD, ES, mS, yS, ?_, ?_, ?_⟩, ⟨CD, oD, eD, rfl, fun _ => ?_⟩⟩
    ·exact (((G4.out.trans (G6.out.mono G4.out.size)).setCell (p := ⟨w.heap.size + 1, 0, none⟩) (by show w.heap.size ≤ w.heap.size + 1; omega) _).setCell (p := ⟨w.heap.size + 1, 1, none⟩) (by show w.heap.size ≤ w.heap.size + 1; omega) _).setCell (p := ⟨w.heap.size + 1, 2, none⟩) (by show w.heap.size ≤ w.heap.size + 1; omega) _
    ·simp; omega
    ·exact (((B4.out.ext G6.out).far (p := ⟨w.heap.size + 1, 0, none⟩) (by show w.heap.size ≠ w.heap.size + 1; omega) _).far (p := ⟨w.heap.size + 1, 1, none⟩) (by show w.heap.size ≠ w.heap.size + 1; omega) _).far (p := ⟨w.heap.size + 1, 2, none⟩) (by show w.heap.size ≠ w.heap.size + 1; omega) _
    ·rw [Nat.add_sub_cancel]; exact HGNE.out.symm
    ·exact ((RR.out.set_ 0 _).set_ 1 _).set_ 2 _
    ·exact own_farD (own_farD (own_farD hD (fun r e => hne 0 r (own_cells hD e).1) _) (fun r e => hne 1 r (own_cells hD e).1) _) (fun r e => hne 2 r (own_cells hD e).1) _
    ·exact own_farD (own_farD (own_farD hS (fun r e => hne 0 r (own_cells hS e).1) _) (fun r e => hne 1 r (own_cells hS e).1) _) (fun r e => hne 2 r (own_cells hS e).1) _
    ·rw [Nat.add_sub_cancel]
     exact own_farD (own_farD (own_farD hB6 (fun r e => hne 0 r (own_cells hB6 e).1) _) (fun r e => hne 1 r (own_cells hB6 e).1) _) (fun r e => hne 2 r (own_cells hB6 e).1) _)
   clear hD hS hB6 hne hmD hmS
   go_roundw
   case rel => exact ⟨j + 1, by omega, HNEW.out⟩
   case measure =>
    have h1 := HFM.out (fun i => FairI (wsG g) l w w.heap.size i (.slice CD oD eD) (.bool true) _) ⟨j + 1, by omega, HNEW.out⟩
    have h2 := h1.2.2 (j + 1) (by omega) HNEW.out
    have h3 := h1.2.1
    have h4 := HJ.out
    rw [h4]
    omega
  | false =>
   have hjE : j = K := by
    rcases Nat.lt_or_ge j K with h | h
    ·rw [HK2.out j h] at hal; cases hal
    ·omega
   subst hjE
   rw [hal] at htb
   have t0 := hgb.cell 0
   have t1 := hgb.cell 1
   have k0 := htb.cell 0
   have k1 := htb.cell 1
   have k2 := htb.cell 2
   have HS := Lib.hid hS
   have HB9 := Lib.hid hB
   have HGN9 := Lib.hid hgn
   subst hvB his
   clear hD hS hB hgn hal htb hgb hbw HFM HJ
   go_wp2_with fail
   refine bodyPost_ret (v := .tuple #[.slice AB nB cB, prv gn0, .agg #[.slice CD oD eD, .slice CS oS eS, .bool false], .bool (decide (0 < j))]) ?_ rfl ?_
   ·simp [results, Tryz.results91, go_sem, t0, t1, k0, k1, k2]
   ·exact ⟨⟨AB, nB, cB, gn0, CD, oD, eD, CS, oS, eS, rfl, HS.out.mono (by omega), fun h => ⟨HGN9.out h, (HB9.out h).mono (by omega)⟩⟩, HG.out⟩
end Go.Proofs.YtkoejeghihcmlaaGreat

namespace Go.Proofs.YtkoejeghihcmlaaGreat
open Go.RowKit Go.Shelf
/-- What Least returns. -/
def LeastFEnd (ws : List Int) (l : List Cm) (K : Nat) (w : World) (e : Ending) (w' : World) : Prop :=
 (∃ gn : Int × Int, e = .returned (.tuple #[prv gn, .int .i64 (if 0 < K then 0 else 47)]) ∧ (0 < K → gn = lea ws l (K - 1))) ∧ Below w.heap.size w w'
/-- What Share returns. -/
def ShareEnd (ws : List Int) (l : List Cm) (K : Nat) (w : World) (e : Ending) (w' : World) : Prop :=
 (∃ v, e = .returned (.tuple #[v, .int .i64 (if 0 < K then 0 else 47)]) ∧ (0 < K → OwnL dcells 2 84 w' w.heap.size v (mo ws l (K - 1)).ds)) ∧ Below w.heap.size w w'
set_option maxRecDepth 100000 in
set_option maxHeartbeats 8000000 in
theorem leastF_any (g : Gd) (A1 A2 A3 : Option Addr) (n1 c1 n2 c2 n3 c3 : Nat) (l : List Cm) (K : Nat) (w : World) (hg : Ga w g A1 A2 n1 c1 n2 c2) (ho : OkG g) (hl : Sl ccells 4 w A3 n3 c3 l) (hol : OkL g l) (hK : (mo (wsG g) l K).all = false) (hK2 : ∀ j < K, (mo (wsG g) l j).all = true) :
  Calls Tryz.prog 25 #[gv A1 A2 n1 c1 n2 c2, .slice A3 n3 c3] w (LeastFEnd (wsG g) l K w) := by
 obtain ⟨W1, hW1⟩ : ∃ X, (w.alloc (.cells #[.slice A1 n1 c1, .slice A2 n2 c2] 47)).alloc (.cells #[.int .i64 0, .int .i64 0] 66) = X := ⟨_, rfl⟩
 have GW1 := Lib.hid (show Below w.heap.size w W1 by rw [← hW1]; exact (one_more _ _).alloc (by simp <;> omega) _)
 have BW1_0 := Lib.hid (show Blk W1 (w.heap.size) 47 #[.slice A1 n1 c1, .slice A2 n2 c2] by
  rw [← hW1]
  have := Blk.new w 47 #[.slice A1 n1 c1, .slice A2 n2 c2]
  (try simp only [World.size_alloc] at this)
  exact (this).alloc _)
 have BW1_1 := Lib.hid (show Blk W1 (w.heap.size + 1) 66 #[.int .i64 0, .int .i64 0] by
  rw [← hW1]
  have := Blk.new (w.alloc (.cells #[.slice A1 n1 c1, .slice A2 n2 c2] 47)) 66 #[.int .i64 0, .int .i64 0]
  (try simp only [World.size_alloc] at this)
  exact this)
 have HW1 := Lib.hid hW1
 clear hW1
 have HLK := Lib.hid (lookD_any g A1 A2 A3 n1 c1 n2 c2 n3 c3 l W1 (hg.below GW1.out) ho (hl.below GW1.out) hol)
 have HF := Lib.hid (fun b V (hp : Pt V b g l A1 A2 A3 n1 c1 n2 c2 n3 c3) => (show Calls Tryz.prog 91 #[.pointer (some ⟨b, 0, none⟩)] V (FairEnd (wsG g) l K V) from fairest_any g l A1 A2 A3 n1 c1 n2 c2 n3 c3 b K V hp ho hol hK hK2))
 unfold FairEnd at HF
 have d0 := BW1_0.out.cell 0
 have d1 := BW1_0.out.cell 1
 clear hg ho hl hol hK hK2
 go_enter Tryz.func25, Tryz.ntmps25
 go_upto_region 1 with fail
 rw [HW1.out]
 go_upto_region 4 with (go_at_call 90; (with_reducible refine (HLK.out).mono ?_); rintro e V ⟨⟨b, rfl, -, hpt⟩, hgv⟩; have GV := Lib.hid hgv; have HPT := Lib.hid hpt; clear hgv hpt)
 rename World => V1
 rcases Nat.eq_zero_or_pos K with hz | hz
 ·have hdz : decide (0 < K) = false := decide_eq_false (by omega)
  rw [hdz] at HF
  go_upto_region 5 with (go_at_call 91; (with_reducible refine (HF.out _ _ HPT.out).mono ?_); rintro e V2 ⟨⟨AB, nB, cB, gn, AD, nD, cD, AS, nS, cS, rfl, -, -⟩, hg2⟩; have G2 := Lib.hid (GV.out.trans (hg2.mono GV.out.size)); clear hg2)
  obtain ⟨W5, hW5⟩ : ∃ X, (V2.alloc (.cells #[.int .i64 gn.1, .int .i64 gn.2] 66)).alloc (.cells #[.slice AD nD cD, .slice AS nS cS, .bool false] 161) = X := ⟨_, rfl⟩
  have GW5 := Lib.hid (show Below V2.heap.size V2 W5 by rw [← hW5]; exact (one_more _ _).alloc (by simp <;> omega) _)
  have BW5_0 := Lib.hid (show Blk W5 (V2.heap.size) 66 #[.int .i64 gn.1, .int .i64 gn.2] by
   rw [← hW5]
   have := Blk.new V2 66 #[.int .i64 gn.1, .int .i64 gn.2]
   (try simp only [World.size_alloc] at this)
   exact (this).alloc _)
  have BW5_1 := Lib.hid (show Blk W5 (V2.heap.size + 1) 161 #[.slice AD nD cD, .slice AS nS cS, .bool false] by
   rw [← hW5]
   have := Blk.new (V2.alloc (.cells #[.int .i64 gn.1, .int .i64 gn.2] 66)) 161 #[.slice AD nD cD, .slice AS nS cS, .bool false]
   (try simp only [World.size_alloc] at this)
   exact this)
  have HW5 := Lib.hid hW5
  clear hW5
  have G5 := Lib.hid (G2.out.trans (GW5.out.mono G2.out.size))
  have RR := Lib.hid (BW1_1.out.ext G5.out)
  have GX := Lib.hid (GW1.out.trans (G5.out.mono GW1.out.size))
  rw [HW5.out]
  have f0 := RR.out.frozen 0
  have f1 := RR.out.frozen 1
  have r0 := RR.out.cell 0
  have r1 := RR.out.cell 1
  have u0 := BW5_0.out.cell 0
  have u1 := BW5_0.out.cell 1
  clear d0 d1
  have hb2 := (RR.out.set_ 0 (.int .i64 0)).set_ 1 (.int .i64 0)
  have t0 := hb2.cell 0
  have t1 := hb2.cell 1
  have hx := Lib.hid ((GX.out.setCell (p := ⟨w.heap.size + 1, 0, none⟩) (by show w.heap.size ≤ w.heap.size + 1; omega) (.int .i64 0)).setCell (p := ⟨w.heap.size + 1, 1, none⟩) (by show w.heap.size ≤ w.heap.size + 1; omega) (.int .i64 0))
  clear hb2
  go_wp2_with fail
  refine bodyPost_ret (v := .tuple #[prv (0, 0), .int .i64 47]) ?_ rfl ?_
  ·simp [results, Tryz.results25, go_sem, t0, t1]
  ·exact ⟨⟨(0, 0), by rw [if_neg (by omega)], fun h => absurd h (by omega)⟩, hx.out⟩
 ·have hdz : decide (0 < K) = true := decide_eq_true hz
  rw [hdz] at HF
  go_upto_region 5 with (go_at_call 91; (with_reducible refine (HF.out _ _ HPT.out).mono ?_); rintro e V2 ⟨⟨AB, nB, cB, gn, AD, nD, cD, AS, nS, cS, rfl, -, hx0⟩, hg2⟩; have G2 := Lib.hid (GV.out.trans (hg2.mono GV.out.size)); clear hg2; have HX := Lib.hid (hx0 hz).1; clear hx0)
  obtain ⟨W5, hW5⟩ : ∃ X, (V2.alloc (.cells #[.int .i64 gn.1, .int .i64 gn.2] 66)).alloc (.cells #[.slice AD nD cD, .slice AS nS cS, .bool false] 161) = X := ⟨_, rfl⟩
  have GW5 := Lib.hid (show Below V2.heap.size V2 W5 by rw [← hW5]; exact (one_more _ _).alloc (by simp <;> omega) _)
  have BW5_0 := Lib.hid (show Blk W5 (V2.heap.size) 66 #[.int .i64 gn.1, .int .i64 gn.2] by
   rw [← hW5]
   have := Blk.new V2 66 #[.int .i64 gn.1, .int .i64 gn.2]
   (try simp only [World.size_alloc] at this)
   exact (this).alloc _)
  have BW5_1 := Lib.hid (show Blk W5 (V2.heap.size + 1) 161 #[.slice AD nD cD, .slice AS nS cS, .bool false] by
   rw [← hW5]
   have := Blk.new (V2.alloc (.cells #[.int .i64 gn.1, .int .i64 gn.2] 66)) 161 #[.slice AD nD cD, .slice AS nS cS, .bool false]
   (try simp only [World.size_alloc] at this)
   exact this)
  have HW5 := Lib.hid hW5
  clear hW5
  have G5 := Lib.hid (G2.out.trans (GW5.out.mono G2.out.size))
  have RR := Lib.hid (BW1_1.out.ext G5.out)
  have GX := Lib.hid (GW1.out.trans (G5.out.mono GW1.out.size))
  rw [HW5.out]
  have f0 := RR.out.frozen 0
  have f1 := RR.out.frozen 1
  have r0 := RR.out.cell 0
  have r1 := RR.out.cell 1
  have u0 := BW5_0.out.cell 0
  have u1 := BW5_0.out.cell 1
  clear d0 d1
  have hb2 := (RR.out.set_ 0 (.int .i64 gn.1)).set_ 1 (.int .i64 gn.2)
  have t0 := hb2.cell 0
  have t1 := hb2.cell 1
  have hx := Lib.hid ((GX.out.setCell (p := ⟨w.heap.size + 1, 0, none⟩) (by show w.heap.size ≤ w.heap.size + 1; omega) (.int .i64 gn.1)).setCell (p := ⟨w.heap.size + 1, 1, none⟩) (by show w.heap.size ≤ w.heap.size + 1; omega) (.int .i64 gn.2))
  clear hb2
  go_wp2_with fail
  refine bodyPost_ret (v := .tuple #[prv (gn.1, gn.2), .int .i64 0]) ?_ rfl ?_
  ·simp [results, Tryz.results25, go_sem, t0, t1]
  ·exact ⟨⟨(gn.1, gn.2), by rw [if_pos hz], fun h => HX.out⟩, hx.out⟩
set_option maxRecDepth 100000 in
set_option maxHeartbeats 8000000 in
theorem shareF_any (g : Gd) (A1 A2 A3 : Option Addr) (n1 c1 n2 c2 n3 c3 : Nat) (l : List Cm) (K : Nat) (w : World) (hg : Ga w g A1 A2 n1 c1 n2 c2) (ho : OkG g) (hl : Sl ccells 4 w A3 n3 c3 l) (hol : OkL g l) (hK : (mo (wsG g) l K).all = false) (hK2 : ∀ j < K, (mo (wsG g) l j).all = true) :
  Calls Tryz.prog 26 #[gv A1 A2 n1 c1 n2 c2, .slice A3 n3 c3] w (ShareEnd (wsG g) l K w) := by
 obtain ⟨W1, hW1⟩ : ∃ X, w.alloc (.cells #[.slice A1 n1 c1, .slice A2 n2 c2] 47) = X := ⟨_, rfl⟩
 have GW1 := Lib.hid (show Below w.heap.size w W1 by rw [← hW1]; exact one_more _ _)
 have BW1_0 := Lib.hid (show Blk W1 (w.heap.size) 47 #[.slice A1 n1 c1, .slice A2 n2 c2] by
  rw [← hW1]
  have := Blk.new w 47 #[.slice A1 n1 c1, .slice A2 n2 c2]
  (try simp only [World.size_alloc] at this)
  exact this)
 have HW1 := Lib.hid hW1
 clear hW1
 have HLK := Lib.hid (lookD_any g A1 A2 A3 n1 c1 n2 c2 n3 c3 l W1 (hg.below GW1.out) ho (hl.below GW1.out) hol)
 have HF := Lib.hid (fun b V (hp : Pt V b g l A1 A2 A3 n1 c1 n2 c2 n3 c3) => (show Calls Tryz.prog 91 #[.pointer (some ⟨b, 0, none⟩)] V (FairEnd (wsG g) l K V) from fairest_any g l A1 A2 A3 n1 c1 n2 c2 n3 c3 b K V hp ho hol hK hK2))
 unfold FairEnd at HF
 have d0 := BW1_0.out.cell 0
 have d1 := BW1_0.out.cell 1
 clear hg ho hl hol hK hK2
 go_enter Tryz.func26, Tryz.ntmps26
 go_upto_region 1 with fail
 rw [HW1.out]
 go_upto_region 4 with (go_at_call 90; (with_reducible refine (HLK.out).mono ?_); rintro e V ⟨⟨b, rfl, -, hpt⟩, hgv⟩; have GV := Lib.hid hgv; have HPT := Lib.hid hpt; clear hgv hpt)
 rename World => V1
 rcases Nat.eq_zero_or_pos K with hz | hz
 ·have hdz : decide (0 < K) = false := decide_eq_false (by omega)
  rw [hdz] at HF
  go_upto_region 5 with (go_at_call 91; (with_reducible refine (HF.out _ _ HPT.out).mono ?_); rintro e V2 ⟨⟨AB, nB, cB, gn, AD, nD, cD, AS, nS, cS, rfl, -, -⟩, hg2⟩; have G2 := Lib.hid (GV.out.trans (hg2.mono GV.out.size)); clear hg2)
  obtain ⟨W5, hW5⟩ : ∃ X, (V2.alloc (.cells #[.int .i64 gn.1, .int .i64 gn.2] 66)).alloc (.cells #[.slice AD nD cD, .slice AS nS cS, .bool false] 161) = X := ⟨_, rfl⟩
  have GW5 := Lib.hid (show Below V2.heap.size V2 W5 by rw [← hW5]; exact (one_more _ _).alloc (by simp <;> omega) _)
  have BW5_0 := Lib.hid (show Blk W5 (V2.heap.size) 66 #[.int .i64 gn.1, .int .i64 gn.2] by
   rw [← hW5]
   have := Blk.new V2 66 #[.int .i64 gn.1, .int .i64 gn.2]
   (try simp only [World.size_alloc] at this)
   exact (this).alloc _)
  have BW5_1 := Lib.hid (show Blk W5 (V2.heap.size + 1) 161 #[.slice AD nD cD, .slice AS nS cS, .bool false] by
   rw [← hW5]
   have := Blk.new (V2.alloc (.cells #[.int .i64 gn.1, .int .i64 gn.2] 66)) 161 #[.slice AD nD cD, .slice AS nS cS, .bool false]
   (try simp only [World.size_alloc] at this)
   exact this)
  have HW5 := Lib.hid hW5
  clear hW5
  have G5 := Lib.hid (G2.out.trans (GW5.out.mono G2.out.size))
  have GX := Lib.hid (GW1.out.trans (G5.out.mono GW1.out.size))
  rw [HW5.out]
  clear d0 d1
  go_wp2_with fail
  go_ret2
  exact ⟨⟨.slice none 0 0, by rw [if_neg (by omega)]; rfl, fun h => absurd h (by omega)⟩, GX.out⟩
 ·have hdz : decide (0 < K) = true := decide_eq_true hz
  rw [hdz] at HF
  go_upto_region 5 with (go_at_call 91; (with_reducible refine (HF.out _ _ HPT.out).mono ?_); rintro e V2 ⟨⟨AB, nB, cB, gn, AD, nD, cD, AS, nS, cS, rfl, -, hx0⟩, hg2⟩; have G2 := Lib.hid (GV.out.trans (hg2.mono GV.out.size)); clear hg2; have hv1 := GV.out.size; have HX0 := Lib.hid (hx0 hz).2; clear hx0)
  obtain ⟨W5, hW5⟩ : ∃ X, (V2.alloc (.cells #[.int .i64 gn.1, .int .i64 gn.2] 66)).alloc (.cells #[.slice AD nD cD, .slice AS nS cS, .bool false] 161) = X := ⟨_, rfl⟩
  have GW5 := Lib.hid (show Below V2.heap.size V2 W5 by rw [← hW5]; exact (one_more _ _).alloc (by simp <;> omega) _)
  have BW5_0 := Lib.hid (show Blk W5 (V2.heap.size) 66 #[.int .i64 gn.1, .int .i64 gn.2] by
   rw [← hW5]
   have := Blk.new V2 66 #[.int .i64 gn.1, .int .i64 gn.2]
   (try simp only [World.size_alloc] at this)
   exact (this).alloc _)
  have BW5_1 := Lib.hid (show Blk W5 (V2.heap.size + 1) 161 #[.slice AD nD cD, .slice AS nS cS, .bool false] by
   rw [← hW5]
   have := Blk.new (V2.alloc (.cells #[.int .i64 gn.1, .int .i64 gn.2] 66)) 161 #[.slice AD nD cD, .slice AS nS cS, .bool false]
   (try simp only [World.size_alloc] at this)
   exact this)
  have HW5 := Lib.hid hW5
  clear hW5
  have G5 := Lib.hid (G2.out.trans (GW5.out.mono G2.out.size))
  have GX := Lib.hid (GW1.out.trans (G5.out.mono GW1.out.size))
  rw [HW5.out]
  clear d0 d1
  have hg1 := GW1.out.size
  have HX := Lib.hid ((HX0.out.ext GW5.out).mono (show w.heap.size ≤ V1.heap.size by omega))
  go_wp2_with fail
  go_ret2
  exact ⟨⟨.slice AB nB cB, by rw [if_pos hz]; rfl, fun _ => HX.out⟩, GX.out⟩
end Go.Proofs.YtkoejeghihcmlaaGreat

namespace Go.Proofs.YtkoejeghihcmlaaGreat
open Go.RowKit Go.Shelf
theorem own_seti {w : World} {base g n c : Nat} {ss : List Int} (h : OwnL icells 1 3 w base (.slice (some ⟨g, 0, none⟩) n c) ss) (i : Nat) (x : Int) : OwnL icells 1 3 (w.setCell ⟨g, i, none⟩ (.int .i64 x)) base (.slice (some ⟨g, 0, none⟩) n c) (ss.set i x) := by
 obtain ⟨h1, ⟨e, _⟩ | ⟨g', cap, cur, e, hb, hg, hn, hm, hs, ht⟩⟩ := h
 ·cases e
 ·cases e
  refine ⟨by rw [flat_icells]; simp, .inr ⟨g, c, cur.setIfInBounds i (.int .i64 x), ?_, hb, Blk.set_ (hg : Blk w g 3 cur) i _, by simpa using hn, hm, by simpa using hs, ?_⟩⟩
  ·simp
  ·rw [List.length_set]
   rw [flat_icells] at ht ⊢
   rw [Array.toList_setIfInBounds, List.take_set, ht, List.map_set]
/-- What Wall returns where there is a sharing. -/
def WallEnd (ws : List Int) (l : List Cm) (K : Nat) (w : World) (e : Ending) (w' : World) : Prop :=
 (∃ v, e = .returned (.tuple #[.agg #[.int .i64 0, v], .int .i64 0]) ∧ OwnL icells 1 3 w' w.heap.size v (wallS l (mo ws l K).ss)) ∧ Below w.heap.size w w'
set_option maxRecDepth 100000 in
set_option maxHeartbeats 8000000 in
theorem wallF_any (g : Gd) (A1 A2 A3 : Option Addr) (n1 c1 n2 c2 n3 c3 : Nat) (l : List Cm) (K : Nat) (w : World) (hg : Ga w g A1 A2 n1 c1 n2 c2) (ho : OkG g) (hl : Sl ccells 4 w A3 n3 c3 l) (hol : OkL g l) (hK : (mo (wsG g) l K).all = false) (hK2 : ∀ j < K, (mo (wsG g) l j).all = true) (hz : 0 < K) :
  Calls Tryz.prog 29 #[gv A1 A2 n1 c1 n2 c2, .slice A3 n3 c3] w (WallEnd (wsG g) l K w) := by
 obtain ⟨W1, hW1⟩ : ∃ X, (w.alloc (.cells #[.slice A1 n1 c1, .slice A2 n2 c2] 47)).alloc (.cells #[.int .i64 0, .slice none 0 0] 78) = X := ⟨_, rfl⟩
 have GW1 := Lib.hid (show Below w.heap.size w W1 by rw [← hW1]; exact (one_more _ _).alloc (by simp <;> omega) _)
 have BW1_0 := Lib.hid (show Blk W1 (w.heap.size) 47 #[.slice A1 n1 c1, .slice A2 n2 c2] by
  rw [← hW1]
  have := Blk.new w 47 #[.slice A1 n1 c1, .slice A2 n2 c2]
  (try simp only [World.size_alloc] at this)
  exact (this).alloc _)
 have BW1_1 := Lib.hid (show Blk W1 (w.heap.size + 1) 78 #[.int .i64 0, .slice none 0 0] by
  rw [← hW1]
  have := Blk.new (w.alloc (.cells #[.slice A1 n1 c1, .slice A2 n2 c2] 47)) 78 #[.int .i64 0, .slice none 0 0]
  (try simp only [World.size_alloc] at this)
  exact this)
 have HW1 := Lib.hid hW1
 clear hW1
 have HLK := Lib.hid (lookD_any g A1 A2 A3 n1 c1 n2 c2 n3 c3 l W1 (hg.below GW1.out) ho (hl.below GW1.out) hol)
 have HF := Lib.hid (fun b V (hp : Pt V b g l A1 A2 A3 n1 c1 n2 c2 n3 c3) => (show Calls Tryz.prog 91 #[.pointer (some ⟨b, 0, none⟩)] V (FairEnd (wsG g) l K V) from fairest_any g l A1 A2 A3 n1 c1 n2 c2 n3 c3 b K V hp ho hol hK hK2))
 unfold FairEnd at HF
 have hdz : decide (0 < K) = true := decide_eq_true hz
 rw [hdz] at HF
 have d0 := BW1_0.out.cell 0
 have d1 := BW1_0.out.cell 1
 have HLA := Lib.hid hl
 have HC := Lib.hid hol.c
 have hlen : l.length = n3 := hl.1.1
 have hn12 : 1 ≤ n3 ∧ n3 ≤ 12 := by have := hol.n; omega
 obtain ⟨hn121, hn122⟩ := hn12
 have HAT := Lib.hid (show GreAt (conK (wsG g) l K) (wsG g) l 0 (mo (wsG g) l K) by rw [mo_con]; exact gre_at l 0)
 have hsl : (mo (wsG g) l K).ss.length ≤ l.length := HAT.out.len
 have hsn : (mo (wsG g) l K).ss ≠ [] := (HAT.out.no hK).1
 have hss := gre_starts (con := conK (wsG g) l K) (ws := wsG g) hol.c
 rw [← mo_con] at hss
 obtain ⟨ss, hsse⟩ : ∃ ss, (mo (wsG g) l K).ss = ss := ⟨_, rfl⟩
 have HWE := Lib.hid (fun (e : Ending) (w' : World) => (show WallEnd (wsG g) l K w e w' ↔ ((∃ v, e = .returned (.tuple #[.agg #[.int .i64 0, v], .int .i64 0]) ∧ OwnL icells 1 3 w' w.heap.size v (wallS l ss)) ∧ Below w.heap.size w w') by unfold WallEnd; rw [hsse]))
 rw [hsse] at HF hsl hsn hss
 have hs0 : 0 < ss.length := List.length_pos_iff.2 hsn
 have HSS := Lib.hid hss
 clear hg ho hl hol hK hK2 hsse hsn hss HAT
 go_enter Tryz.func29, Tryz.ntmps29
 go_upto_region 1 with fail
 rw [HW1.out]
 go_upto_region 4 with (go_at_call 90; (with_reducible refine (HLK.out).mono ?_); rintro e V ⟨⟨b, rfl, -, hpt⟩, hgv⟩; have GV := Lib.hid hgv; have HPT := Lib.hid hpt; clear hgv hpt)
 rename World => V1
 go_upto_region 5 with (go_at_call 91; (with_reducible refine (HF.out _ _ HPT.out).mono ?_); rintro e V2 ⟨⟨AB, nB, cB, gn, AD, nD, cD, AS, nS, cS, rfl, hx0, -⟩, hg2⟩; have G2 := Lib.hid (GV.out.trans (hg2.mono GV.out.size)); have hv1 := GV.out.size; have HX0 := Lib.hid hx0; clear hg2 hx0)
 obtain ⟨W5, hW5⟩ : ∃ X, (V2.alloc (.cells #[.int .i64 gn.1, .int .i64 gn.2] 66)).alloc (.cells #[.slice AD nD cD, .slice AS nS cS, .bool false] 161) = X := ⟨_, rfl⟩
 have GW5 := Lib.hid (show Below V2.heap.size V2 W5 by rw [← hW5]; exact (one_more _ _).alloc (by simp <;> omega) _)
 have BW5_0 := Lib.hid (show Blk W5 (V2.heap.size) 66 #[.int .i64 gn.1, .int .i64 gn.2] by
  rw [← hW5]
  have := Blk.new V2 66 #[.int .i64 gn.1, .int .i64 gn.2]
  (try simp only [World.size_alloc] at this)
  exact (this).alloc _)
 have BW5_1 := Lib.hid (show Blk W5 (V2.heap.size + 1) 161 #[.slice AD nD cD, .slice AS nS cS, .bool false] by
  rw [← hW5]
  have := Blk.new (V2.alloc (.cells #[.int .i64 gn.1, .int .i64 gn.2] 66)) 161 #[.slice AD nD cD, .slice AS nS cS, .bool false]
  (try simp only [World.size_alloc] at this)
  exact this)
 have HW5 := Lib.hid hW5
 clear hW5
 rw [HW5.out]
 have u1 := BW5_1.out.cell 1
 go_upto_region 7 with fail
 obtain ⟨W6, hW6⟩ : ∃ X, W5.alloc (.cells #[.int .i64 0, .slice AS nS cS] 78) = X := ⟨_, rfl⟩
 have GW6 := Lib.hid (show Below W5.heap.size W5 W6 by rw [← hW6]; exact one_more _ _)
 have BW6_0 := Lib.hid (show Blk W6 (W5.heap.size) 78 #[.int .i64 0, .slice AS nS cS] by
  rw [← hW6]
  have := Blk.new W5 78 #[.int .i64 0, .slice AS nS cS]
  (try simp only [World.size_alloc] at this)
  exact this)
 have HW6 := Lib.hid hW6
 clear hW6
 have G5 := Lib.hid (G2.out.trans (GW5.out.mono G2.out.size))
 have G6 := Lib.hid (G5.out.trans (GW6.out.mono G5.out.size))
 obtain ⟨A9, c9, e9, hle9, hcm9, ha9, -⟩ := OwnL.arr kdN HX0.out
 injection e9 with q1 q2 q3
 subst q1 q2 q3
 have hown := HX0.out
 obtain ⟨gs, hgs⟩ : ∃ gs, AS = some ⟨gs, 0, none⟩ := by
  obtain ⟨-, ⟨e, -⟩ | ⟨gs, cap, cur, e, -⟩⟩ := hown
  ·injection e with _ e2 _; omega
  ·injection e with e1 _ _; exact ⟨gs, e1⟩
 subst hgs
 have hg2l := (own_cells hown (g := gs) rfl).2.1
 have h25 := GW5.out.size
 obtain ⟨m, hm⟩ : ∃ m, ss.length = m + 1 := ⟨ss.length - 1, by omega⟩
 have HM := Lib.hid hm
 rw [hm] at hle9 hsl
 have HX6 := Lib.hid (show OwnL icells 1 3 W6 V1.heap.size (.slice (some ⟨gs, 0, none⟩) (m + 1) cS) ss by rw [← hm]; exact (hown.ext GW5.out).ext GW6.out)
 obtain ⟨hgb, hgl, cur, hcur⟩ := own_cells HX6.out (g := gs) rfl
 have G1s := GW1.out.size
 have hcat0 := HC.out _ (cat_mem (l := l) (i := 0) (by omega))
 have hcatm := HC.out _ (cat_mem (l := l) (i := m) (by omega))
 obtain ⟨b3, o3, rfl, hb3l, -, hc0⟩ := c_at HLA.out.1 (show 0 < n3 by omega)
 obtain ⟨b4, o4, e4, -, -, hcm⟩ := c_at HLA.out.1 (show m < n3 by omega)
 cases e4
 obtain ⟨lo0, hlo0⟩ : ∃ x, (cat l 0).lo = x := ⟨_, rfl⟩
 obtain ⟨cm, hcme⟩ : ∃ x, cat l m = x := ⟨_, rfl⟩
 rw [hlo0] at hc0
 rw [hcme] at hcm hcatm
 have HC0 := Lib.hid hc0
 have HCM := Lib.hid hcm
 have GX6 := Lib.hid (GW1.out.trans (G6.out.mono GW1.out.size))
 have v0 := cellW (BW6_0.out.cell 1)
 have v1 := cellW ((HC0.out _ GX6.out).2.2.1)
 have hn30 : (0 : Int) < (n3 : Int) := by omega
 have HLO := Lib.hid hlo0
 have HCME := Lib.hid hcme
 unfold okC at hcatm hcat0
 rw [hlo0] at hcat0
 rw [Nat.zero_mul, Nat.add_zero] at v1
 clear hc0 hcm hlo0 hcme ha9 hown hm
 go_upto_region 8 with fail
 rw [HW6.out]
 rw [HM.out]
 clear u1
 refine wp_region_calm_tail W6 7 (by kernel_rfl) (by kernel_rfl) (Below.refl _ _) ?_
 simp only [List.take_succ_cons, List.take_zero, List.drop_succ_cons, List.drop_zero]
 repeat (go_big_quiet_step (fail))
 refine wpQuiet_nil ?_
 rintro _ ⟨z, rfl⟩
 have hBg : Blk z.val gs 3 cur := Blk.ext (hcur : Blk W6 gs 3 cur) z.ok
 have f0 := hBg.frozen 0
 have g0 : z.val.cell? ⟨gs, 0, none⟩ = some (.int .i64 (ss.getD 0 0)) := by
  obtain ⟨A8, c8, e8, -, -, ha8, -⟩ := OwnL.arr kdN (HX6.out.ext z.ok)
  rw [HM.out] at e8 ha8
  cases e8
  obtain ⟨b8, o8, e8, -, -, hc8⟩ := ints_at ha8 (show 0 < m + 1 by omega)
  cases e8
  exact hc8 _ (Below.refl _ _)
 obtain ⟨V7, hV7⟩ : ∃ X, z.val.setCell ⟨gs, 0, none⟩ (.int .i64 lo0) = X := ⟨_, rfl⟩
 have G7 := Lib.hid (show Below W1.heap.size W1 V7 by rw [← hV7]; exact (G6.out.trans (z.ok.mono G6.out.size)).setCell (p := ⟨gs, 0, none⟩) (by show W1.heap.size ≤ gs; omega) _)
 have B7 := Lib.hid (show Blk V7 W5.heap.size 78 #[.int .i64 0, .slice (some ⟨gs, 0, none⟩) (m + 1) cS] by
  rw [← hV7]
  exact Blk.far (by rw [← HM.out]; exact BW6_0.out.ext z.ok) (p := ⟨gs, 0, none⟩) (by show W5.heap.size ≠ gs; omega) _)
 have HO7 := Lib.hid (show OwnL icells 1 3 V7 V1.heap.size (.slice (some ⟨gs, 0, none⟩) (m + 1) cS) (ss.set 0 lo0) by rw [← hV7]; exact own_seti (HX6.out.ext z.ok) 0 lo0)
 go_upto_region 9 with fail
 (try rw [hV7])
 clear hV7 z f0 g0 v0 v1 hBg
 obtain ⟨ss1, hss1⟩ : ∃ l, ss.set 0 lo0 = l := ⟨_, rfl⟩
 have hl1 : ss1.length = m + 1 := by rw [← hss1, List.length_set, HM.out]
 have ha9 : 0 ≤ sat ss1 m ∧ sat ss1 m ≤ 24 := by
  rw [← hss1]
  by_cases e : m = 0
  ·subst e; rw [sat_set_eq (by rw [HM.out]; omega)]; omega
  ·rw [sat_set_ne (by omega)]
   have := HSS.out m (by rw [HM.out]; omega)
   omega
 have HWS := Lib.hid (show wallS l ss = ss1 ++ [max (max (sat ss1 m) cm.lo + 1) (cm.hi + 2)] by
  unfold wallS
  rw [HLO.out, hss1, HM.out, Nat.add_sub_cancel, HCME.out])
 rw [hss1] at HO7
 obtain ⟨a9, ha9e⟩ : ∃ a, sat ss1 m = a := ⟨_, rfl⟩
 rw [ha9e] at ha9 HWS
 have HINT := Lib.hid (show ∀ X, Below V7.heap.size V7 X → X.cell? ⟨gs, m, none⟩ = some (.int .i64 a9) from fun X hx => by
  obtain ⟨A8, c8, e8, -, -, ha8, -⟩ := OwnL.arr kdN HO7.out
  rw [hl1] at e8 ha8
  cases e8
  obtain ⟨b8, o8, e8, -, -, hc8⟩ := ints_at ha8 (show m < m + 1 by omega)
  cases e8
  have := hc8 X hx
  rw [Nat.zero_add] at this
  rw [this, ← ha9e]; rfl)
 have w1 := B7.out.cell 1
 have hml : (m : Int) < (n3 : Int) := by omega
 clear hss1 ha9e
 go_upto_region 10 with fail
 have y0 := cellW w1
 have y1 := cellW (HINT.out V7 (Below.refl _ _))
 have y2 := cellW (HCM.out V7 (GW1.out.trans (G7.out.mono GW1.out.size))).2.2.1
 have hmm : (m : Int) < (m : Int) + 1 := by omega
 clear w1
 refine wp_region_calm V7 (by kernel_rfl) (by kernel_rfl) (Below.refl _ _) ?_
 repeat (go_big_quiet_step (fail))
 refine wpQuiet_nil ?_
 rintro _ ⟨z, rfl⟩
 obtain ⟨V8, hV8⟩ : ∃ X, z.val = X := ⟨_, rfl⟩
 have g8 : Below V7.heap.size V7 V8 := by rw [← hV8]; exact z.ok
 rw [hV8]
 clear y0 y1 y2 hV8 z
 have G8 := Lib.hid (G7.out.trans (g8.mono G7.out.size))
 have B8 := Lib.hid (B7.out.ext g8)
 have HO8 := Lib.hid (HO7.out.ext g8)
 have k3 := (HCM.out V8 (GW1.out.trans (G8.out.mono GW1.out.size))).2.2.2
 have k1 := B8.out.cell 1
 have HB8s := Lib.hid (show V1.heap.size ≤ V8.heap.size by
  have h1 := G5.out.size
  have h2 := (own_cells HO8.out (g := gs) rfl).2.1
  omega)
 obtain ⟨x, hx⟩ : ∃ x, max (max a9 cm.lo + 1) (cm.hi + 2) = x := ⟨_, rfl⟩
 have hw1 : IntKind.i64.wrap (max a9 cm.lo + 1) = max a9 cm.lo + 1 := by rw [IntKind.wrap_i64]; omega
 have hw2 : IntKind.i64.wrap (cm.hi + 2) = cm.hi + 2 := by rw [IntKind.wrap_i64]; omega
 rw [hx] at HWS
 have ga : Below V8.heap.size V8 (V8.alloc (.cells #[.int .i64 x] 3)).drew := (one_more _ _).drew
 have HOX := Lib.hid (HO8.out.ext ga)
 have BXA := Lib.hid (B8.out.ext ga)
 have k1a := BXA.out.cell 1
 have HI1 := Lib.hid (show Ints (V8.alloc (.cells #[.int .i64 x] 3)).drew (some ⟨V8.heap.size, 0, none⟩) 1 [x] from (Blk.new V8 3 #[.int .i64 x] : Blk _ _ 3 (vals [x])).intsN rfl)
 have HLEN := Lib.hid (show ss1.length + 1 ≤ 1000000 by omega)
 have HGA := Lib.hid (show V1.heap.size ≤ (V8.alloc (.cells #[.int .i64 x] 3)).drew.heap.size by have h1 := ga.size; have h2 := HB8s.out; omega)
 have HGSN := Lib.hid (show gs ≠ W5.heap.size by omega)
 have HG9 := Lib.hid (show Below W1.heap.size W1 (V8.alloc (.cells #[.int .i64 x] 3)).drew from G8.out.trans (ga.mono G8.out.size))
 clear g8 ga
 have RRA := Lib.hid (BW1_1.out.ext HG9.out)
 have hgb2 := hgb
 have h2w : w.heap.size + 2 ≤ V1.heap.size := by
  have h1 := GV.out.size
  have h2 := HW1.out
  have h3 : W1.heap.size = w.heap.size + 2 := by rw [← h2]; simp
  omega
 have HGS2 := Lib.hid (show gs ≠ w.heap.size + 1 by omega)
 have h5w : V1.heap.size ≤ W5.heap.size := by omega
 have HGW := Lib.hid (GW1.out.trans (HG9.out.mono GW1.out.size))
 go_wp2_with fail
 go_region_law ((refine step_app kdN (by rfl) _ _ (by rfl) V1.heap.size (.slice (some ⟨gs, 0, none⟩) (m + 1) cS) ss1 (by rfl) HOX.out (some ⟨V8.heap.size, 0, none⟩) 1 1 [x] (by rfl) HI1.out HLEN.out HGA.out ?_; intro v1 w1 ho1 hg1 hat1; obtain ⟨Av, cv, hve, -⟩ := OwnL.arr kdN ho1; obtain ⟨nv, hnv⟩ : ∃ nv, (ss1 ++ [x]).length = nv := ⟨_, rfl⟩; rw [hnv] at hve; subst hve; clear hnv; have BT := Lib.hid (BXA.out.grown hg1 (fun e => by injection e with e; exact HGSN.out e)); have m0 := BT.out.cell 1; have m1 := BT.out.frozen 1; have HO1 := Lib.hid ho1; have HGR := Lib.hid hg1; clear ho1 hg1 hat1))
 all_goals
  have RW := (RRA.out.grown HGR.out (fun e => by injection e with e; exact HGS2.out e)).far (p := ⟨W5.heap.size, 1, none⟩) (by show w.heap.size + 1 ≠ W5.heap.size; omega) (.slice Av nv cv)
  have f0 := RW.frozen 0
  have f1 := RW.frozen 1
  have r0 := RW.cell 0
  have r1 := RW.cell 1
  have TW := BT.out.set_ 1 (.slice Av nv cv)
  have q0 := TW.cell 0
  have q1 := TW.cell 1
  have hb2 := (RW.set_ 0 (.int .i64 0)).set_ 1 (.slice Av nv cv)
  have t0 := hb2.cell 0
  have t1 := hb2.cell 1
  have gx := ((((HGW.out.grown HGR.out HGW.out.size (fun k hk => by injection hk with hk; have hk2 : gs = k := hk; omega)).setCell (p := ⟨W5.heap.size, 1, none⟩) (by show w.heap.size ≤ W5.heap.size; omega) (.slice Av nv cv))).setCell (p := ⟨w.heap.size + 1, 0, none⟩) (by show w.heap.size ≤ w.heap.size + 1; omega) (.int .i64 0)).setCell (p := ⟨w.heap.size + 1, 1, none⟩) (by show w.heap.size ≤ w.heap.size + 1; omega) (.slice Av nv cv)
  have ow := own_farD (own_farD (own_farD HO1.out (p := ⟨W5.heap.size, 1, none⟩) (fun r e => own_apart HO1.out e BT.out (by decide)) (.slice Av nv cv)) (p := ⟨w.heap.size + 1, 0, none⟩) (fun r e => by have := (own_cells HO1.out e).1; show r ≠ w.heap.size + 1; omega) (.int .i64 0)) (p := ⟨w.heap.size + 1, 1, none⟩) (fun r e => by have := (own_cells HO1.out e).1; show r ≠ w.heap.size + 1; omega) (.slice Av nv cv)
  have HGF := Lib.hid gx
  have HOF := Lib.hid ow
  clear gx ow hb2 RW TW
  go_wp2_with fail
  refine bodyPost_ret (v := .tuple #[.agg #[.int .i64 0, .slice Av nv cv], .int .i64 0]) ?_ rfl ((HWE.out _ _).2 ?_)
  ·simp [results, Tryz.results29, go_sem, t0, t1]
  ·exact ⟨⟨_, rfl, by rw [HWS.out]; exact HOF.out.mono (by omega)⟩, HGF.out⟩
end Go.Proofs.YtkoejeghihcmlaaGreat

namespace Go.Proofs.YtkoejeghihcmlaaGreat
open Go.RowKit Go.Shelf
/-- What Crowded returns where there is no sharing. -/
def CrowdEnd (l : List Cm) (ss : List Int) (w : World) (e : Ending) (w' : World) : Prop :=
 e = .returned (.tuple #[.agg #[.int .i64 (crd l ss (ss.length - 1) : Nat), .int .i64 ((ss.length - 1 : Nat) : Int)], .int .i64 0]) ∧ Below w.heap.size w w'
set_option maxRecDepth 100000 in
set_option maxHeartbeats 8000000 in
theorem crowded_any (g : Gd) (A1 A2 A3 : Option Addr) (n1 c1 n2 c2 n3 c3 : Nat) (l : List Cm) (w : World) (hg : Ga w g A1 A2 n1 c1 n2 c2) (ho : OkG g) (hl : Sl ccells 4 w A3 n3 c3 l) (hol : OkL g l) (hK : (gre any_ (wsG g) l 0).all = false) :
  Calls Tryz.prog 27 #[gv A1 A2 n1 c1 n2 c2, .slice A3 n3 c3] w (CrowdEnd l (gre any_ (wsG g) l 0).ss w) := by
 obtain ⟨W1, hW1⟩ : ∃ X, (w.alloc (.cells #[.slice A1 n1 c1, .slice A2 n2 c2] 47)).alloc (.cells #[.int .i64 0, .int .i64 0] 73) = X := ⟨_, rfl⟩
 have GW1 := Lib.hid (show Below w.heap.size w W1 by rw [← hW1]; exact (one_more _ _).alloc (by simp <;> omega) _)
 have BW1_0 := Lib.hid (show Blk W1 (w.heap.size) 47 #[.slice A1 n1 c1, .slice A2 n2 c2] by
  rw [← hW1]
  have := Blk.new w 47 #[.slice A1 n1 c1, .slice A2 n2 c2]
  (try simp only [World.size_alloc] at this)
  exact (this).alloc _)
 have BW1_1 := Lib.hid (show Blk W1 (w.heap.size + 1) 73 #[.int .i64 0, .int .i64 0] by
  rw [← hW1]
  have := Blk.new (w.alloc (.cells #[.slice A1 n1 c1, .slice A2 n2 c2] 47)) 73 #[.int .i64 0, .int .i64 0]
  (try simp only [World.size_alloc] at this)
  exact this)
 have HW1 := Lib.hid hW1
 clear hW1
 have HLK := Lib.hid (lookD_any g A1 A2 A3 n1 c1 n2 c2 n3 c3 l W1 (hg.below GW1.out) ho (hl.below GW1.out) hol)
 have HF := Lib.hid (fun b V (hp : Pt V b g l A1 A2 A3 n1 c1 n2 c2 n3 c3) => (show Calls Tryz.prog 92 #[.pointer (some ⟨b, 0, none⟩), .func (.func 93) #[] #[]] V (LeastEnd (gre any_ (wsG g) l 0) V) from least93_any () g l A1 A2 A3 n1 c1 n2 c2 n3 c3 b V hp ho hol))
 unfold LeastEnd at HF
 have d0 := BW1_0.out.cell 0
 have d1 := BW1_0.out.cell 1
 have HLA := Lib.hid hl
 have hlen : l.length = n3 := hl.1.1
 have HAT := gre_at (con := any_) (ws := wsG g) l 0
 have hsl := HAT.len
 have hsn := (HAT.no hK).1
 have hz := HAT.zero hsn
 have hc0 := hol.c
 have hn12 : 1 ≤ n3 ∧ n3 ≤ 12 := by have := hol.n; omega
 obtain ⟨hn121, hn122⟩ := hn12
 rw [hK] at HF
 obtain ⟨ss, hsse⟩ : ∃ ss, (gre any_ (wsG g) l 0).ss = ss := ⟨_, rfl⟩
 have HWE := Lib.hid (fun (e : Ending) (w' : World) => (show CrowdEnd l (gre any_ (wsG g) l 0).ss w e w' ↔ CrowdEnd l ss w e w' by rw [hsse]))
 rw [hsse] at HF hsl hsn hz
 have hs0 : 0 < ss.length := List.length_pos_iff.2 hsn
 obtain ⟨m, hm⟩ : ∃ m, ss.length = m + 1 := ⟨ss.length - 1, by omega⟩
 have HM := Lib.hid hm
 have HZ := Lib.hid (show ¬ (cat l 0).lo < sat ss 0 by
  have := hc0 _ (cat_mem (l := l) (i := 0) (by omega))
  unfold okC at this
  rw [hz]; omega)
 rw [hm] at hsl
 clear hg ho hl hol hK hsse hsn HAT hz hc0 hm hs0
 go_enter Tryz.func27, Tryz.ntmps27
 go_upto_region 1 with fail
 rw [HW1.out]
 go_upto_region 4 with (go_at_call 90; (with_reducible refine (HLK.out).mono ?_); rintro e V ⟨⟨b, rfl, -, hpt⟩, hgv⟩; have GV := Lib.hid hgv; have HPT := Lib.hid hpt; clear hgv hpt)
 rename World => V1
 go_upto_region 5 with (go_at_call 92; (with_reducible refine (HF.out _ _ HPT.out).mono ?_); rintro e V2 ⟨⟨vD, vS, rfl, hD, hS⟩, hg2⟩; obtain ⟨AD, cD, hvD, -⟩ := OwnL.arr kdDr hD; obtain ⟨AS, cS, hvS, -, -, haS, -⟩ := OwnL.arr kdN hS; subst hvD hvS; have G2 := Lib.hid (GV.out.trans (hg2.mono GV.out.size)); have HAS := Lib.hid haS; clear hg2 hD hS haS)
 rw [HM.out] at HAS ⊢
 obtain ⟨W5, hW5⟩ : ∃ X, V2.alloc (.cells #[.slice AD (gre any_ (wsG g) l 0).ds.length cD, .slice AS (m + 1) cS, .bool false] 161) = X := ⟨_, rfl⟩
 have GW5 := Lib.hid (show Below V2.heap.size V2 W5 by rw [← hW5]; exact one_more _ _)
 have BW5_0 := Lib.hid (show Blk W5 (V2.heap.size) 161 #[.slice AD (gre any_ (wsG g) l 0).ds.length cD, .slice AS (m + 1) cS, .bool false] by
  rw [← hW5]
  have := Blk.new V2 161 #[.slice AD (gre any_ (wsG g) l 0).ds.length cD, .slice AS (m + 1) cS, .bool false]
  (try simp only [World.size_alloc] at this)
  exact this)
 have HW5 := Lib.hid hW5
 clear hW5
 rw [HW5.out]
 have u1 := BW5_0.out.cell 1
 have u2 := BW5_0.out.cell 2
 go_upto_region 8 with fail
 obtain ⟨W6, hW6⟩ : ∃ X, W5.alloc (.cells #[.int .i64 0, .int .i64 (m : Int)] 73) = X := ⟨_, rfl⟩
 have GW6 := Lib.hid (show Below W5.heap.size W5 W6 by rw [← hW6]; exact one_more _ _)
 have BW6_0 := Lib.hid (show Blk W6 (W5.heap.size) 73 #[.int .i64 0, .int .i64 (m : Int)] by
  rw [← hW6]
  have := Blk.new W5 73 #[.int .i64 0, .int .i64 (m : Int)]
  (try simp only [World.size_alloc] at this)
  exact this)
 have HW6 := Lib.hid hW6
 clear hW6
 rw [HW6.out]
 have x0 := BW6_0.out.cell 0
 have x1 := BW6_0.out.cell 1
 have x2 := BW6_0.out.frozen 0
 have G6 := Lib.hid (G2.out.trans ((GW5.out.trans (GW6.out.mono GW5.out.size)).mono G2.out.size))
 have GX6 := Lib.hid (GW1.out.trans (G6.out.mono GW1.out.size))
 have B6 := Lib.hid (BW5_0.out.ext GW6.out)
 have h16 := G6.out.size
 have h5 := GW5.out.size
 have h2 := G2.out.size
 have hw1 := GW1.out.size
 go_wp2_with fail
 go_loopw [48] (fun _ wr => ∃ f : Nat, f ≤ m ∧ crd l ss f = crd l ss m ∧ Below W5.heap.size W5 wr ∧ Blk wr W5.heap.size 73 #[.int .i64 (f : Int), .int .i64 (m : Int)]) (fun _ wr => (intOf ((wr.cell? ⟨W5.heap.size, 0, none⟩).getD undef)).toNat)
 case atStart => exact ⟨m, Nat.le_refl _, rfl, GW6.out.setCell (p := ⟨W5.heap.size, 0, none⟩) (Nat.le_refl _) _, BW6_0.out.set_ 0 _⟩
 case round =>
  obtain ⟨f, hf, hcr, hb, hx⟩ := hrel
  have HCR := Lib.hid hcr
  have HB := Lib.hid hb
  have HX := Lib.hid hx
  obtain ⟨b3, o3, e3, -, -, hc3⟩ := c_at HLA.out.1 (show f < n3 by omega)
  cases e3
  obtain ⟨b4, o4, e4, -, -, hc4⟩ := ints_at HAS.out (show f < m + 1 by omega)
  cases e4
  obtain ⟨sv, hsv⟩ : ∃ x, ss.getD f 0 = x := ⟨_, rfl⟩
  obtain ⟨cf, hcf⟩ : ∃ x, cat l f = x := ⟨_, rfl⟩
  rw [hsv] at hc4
  rw [hcf] at hc3
  have GB5 := Lib.hid (G2.out.trans ((GW5.out.trans (hb.mono GW5.out.size)).mono G2.out.size))
  have HC4 := hc4 wr (GW5.out.trans (hb.mono GW5.out.size))
  have HC3 := (hc3 wr (GW1.out.trans (GB5.out.mono GW1.out.size))).2.2.1
  have y0 := cellW HC4
  have y1 := cellW HC3
  have y2 := cellW (hx.cell 0)
  have y3 := cellW ((BW5_0.out.ext hb).cell 1)
  have hsv2 : sat ss f = sv := hsv
  have z0 : (f : Int) < (m : Int) + 1 := by omega
  have z1 : (f : Int) < (n3 : Int) := by omega
  clear hc3 hc4 hb hx hcr HC3 HC4 x0 x1 x2 u1 u2 d0 d1 hsv
  go_upto_region 9 with fail
  refine wp_region_calm wr (by kernel_rfl) (by kernel_rfl) (Below.refl _ _) ?_
  repeat (go_big_quiet_step (fail))
  refine wpQuiet_nil ?_
  rintro _ ⟨z, rfl⟩
  obtain ⟨V8, hV8⟩ : ∃ X, z.val = X := ⟨_, rfl⟩
  have g8 : Below wr.heap.size wr V8 := by rw [← hV8]; exact z.ok
  rw [hV8]
  clear y0 y1 y2 y3 hV8 z
  have GB8 := Lib.hid (HB.out.trans (g8.mono HB.out.size))
  have X8 := Lib.hid (HX.out.ext g8)
  have HX0 := Lib.hid (HX.out.cell 0)
  clear g8
  by_cases hlt : cf.lo < sv
  ·cases f with
   | zero =>
    exfalso
    have h := HZ.out
    rw [hcf, hsv2] at h
    omega
   | succ f =>
    have HCR2 := Lib.hid (show crd l ss f = crd l ss m by
     rw [← HCR.out]
     conv => rhs; unfold crd
     rw [hcf, hsv2, if_pos hlt])
    have q0 := X8.out.cell 0
    have q1 := X8.out.frozen 0
    have GBN := Lib.hid (GB8.out.setCell (p := ⟨W5.heap.size, 0, none⟩) (Nat.le_refl _) (.int .i64 (f : Int)))
    have XN := Lib.hid (X8.out.set_ 0 (.int .i64 (f : Int)))
    go_wp2_with fail
    go_roundw
    case rel => exact ⟨f, by omega, HCR2.out, GBN.out, XN.out⟩
    case measure =>
     have e1 := XN.out.cell 0
     have e2 := HX0.out
     rw [e1, e2]
     show ((f : Nat) : Int).toNat < ((f + 1 : Nat) : Int).toNat
     omega
  ·have HCR2 := Lib.hid (show crd l ss m = f by
    rw [← HCR.out]
    cases f with
    | zero => rfl
    | succ f =>
     unfold crd
     rw [hcf, hsv2, if_neg hlt])
   have q0 := X8.out.cell 0
   have q1 := X8.out.cell 1
   have GX8 := Lib.hid (GW1.out.trans ((G2.out.trans ((GW5.out.trans (GB8.out.mono GW5.out.size)).mono G2.out.size)).mono GW1.out.size))
   have RR := Lib.hid ((BW1_1.out.ext G2.out).ext (GW5.out.trans (GB8.out.mono GW5.out.size)))
   have f0 := RR.out.frozen 0
   have f1 := RR.out.frozen 1
   have r0 := RR.out.cell 0
   have r1 := RR.out.cell 1
   have hb2 := (RR.out.set_ 0 (.int .i64 (f : Int))).set_ 1 (.int .i64 (m : Int))
   have t0 := hb2.cell 0
   have t1 := hb2.cell 1
   have gx := (GX8.out.setCell (p := ⟨w.heap.size + 1, 0, none⟩) (by show w.heap.size ≤ w.heap.size + 1; omega) (.int .i64 (f : Int))).setCell (p := ⟨w.heap.size + 1, 1, none⟩) (by show w.heap.size ≤ w.heap.size + 1; omega) (.int .i64 (m : Int))
   have HGF := Lib.hid gx
   clear gx hb2
   go_wp2_with fail
   refine bodyPost_ret (v := .tuple #[.agg #[.int .i64 (f : Int), .int .i64 (m : Int)], .int .i64 0]) ?_ rfl ((HWE.out _ _).2 ?_)
   ·simp [results, Tryz.results27, go_sem, t0, t1]
   ·unfold CrowdEnd
    rw [HM.out, Nat.add_sub_cancel, HCR2.out]
    exact ⟨rfl, HGF.out⟩
set_option maxRecDepth 100000 in
set_option maxHeartbeats 4000000 in
theorem checkCrowd_any (g : Gd) (A1 A2 A3 : Option Addr) (n1 c1 n2 c2 n3 c3 : Nat) (l : List Cm) (f k : Nat) (w : World) (hg : Ga w g A1 A2 n1 c1 n2 c2) (ho : OkG g) (hl : Sl ccells 4 w A3 n3 c3 l) (hol : OkL g l) (h1 : k < l.length) (h2 : f ≤ k) (h3 : (cat l k).hi - (cat l f).lo + 1 ≤ (k : Int) - f) :
  Calls Tryz.prog 28 #[gv A1 A2 n1 c1 n2 c2, .slice A3 n3 c3, .agg #[.int .i64 (f : Int), .int .i64 (k : Int)]] w fun e w' => e = .returned (.int .i64 0) ∧ Below w.heap.size w w' := by
 obtain ⟨W1, hW1⟩ : ∃ X, (w.alloc (.cells #[.slice A1 n1 c1, .slice A2 n2 c2] 47)).alloc (.cells #[.int .i64 (f : Int), .int .i64 (k : Int)] 73) = X := ⟨_, rfl⟩
 have GW1 := Lib.hid (show Below w.heap.size w W1 by rw [← hW1]; exact (one_more _ _).alloc (by simp <;> omega) _)
 have BW1_0 := Lib.hid (show Blk W1 (w.heap.size) 47 #[.slice A1 n1 c1, .slice A2 n2 c2] by
  rw [← hW1]
  have := Blk.new w 47 #[.slice A1 n1 c1, .slice A2 n2 c2]
  (try simp only [World.size_alloc] at this)
  exact (this).alloc _)
 have BW1_1 := Lib.hid (show Blk W1 (w.heap.size + 1) 73 #[.int .i64 (f : Int), .int .i64 (k : Int)] by
  rw [← hW1]
  have := Blk.new (w.alloc (.cells #[.slice A1 n1 c1, .slice A2 n2 c2] 47)) 73 #[.int .i64 (f : Int), .int .i64 (k : Int)]
  (try simp only [World.size_alloc] at this)
  exact this)
 have HW1 := Lib.hid hW1
 clear hW1
 have HLK := Lib.hid (lookD_any g A1 A2 A3 n1 c1 n2 c2 n3 c3 l W1 (hg.below GW1.out) ho (hl.below GW1.out) hol)
 have d0 := BW1_0.out.cell 0
 have d1 := BW1_0.out.cell 1
 have HLA := Lib.hid (hl.below GW1.out)
 have hlen : l.length = n3 := hl.1.1
 have hn12 : n3 ≤ 12 := by have := hol.n; omega
 have hcf := hol.c _ (cat_mem (l := l) (i := f) (by omega))
 have hck := hol.c _ (cat_mem (l := l) (i := k) (by omega))
 unfold okC at hcf hck
 obtain ⟨b3, o3, e3, -, -, hc3⟩ := c_at HLA.out.1 (show f < n3 by omega)
 subst e3
 obtain ⟨b4, o4, e4, -, -, hc4⟩ := c_at HLA.out.1 (show k < n3 by omega)
 cases e4
 obtain ⟨cf, hcfe⟩ : ∃ x, cat l f = x := ⟨_, rfl⟩
 obtain ⟨ck, hcke⟩ : ∃ x, cat l k = x := ⟨_, rfl⟩
 rw [hcfe] at hc3 hcf h3
 rw [hcke] at hc4 hck h3
 have HC3 := Lib.hid hc3
 have HC4 := Lib.hid hc4
 clear hg ho hl hol hc3 hc4 hcfe hcke
 go_enter Tryz.func28, Tryz.ntmps28
 go_upto_region 1 with fail
 rw [HW1.out]
 go_upto_region 4 with (go_at_call 90; (with_reducible refine (HLK.out).mono ?_); rintro e V ⟨⟨b, rfl, -, -⟩, hgv⟩; have GV := Lib.hid hgv; clear hgv)
 rename World => V1
 have x0 := cellW ((BW1_1.out.ext GV.out).cell 0)
 have x1 := cellW ((BW1_1.out.ext GV.out).cell 1)
 have y0 := cellW (HC3.out _ GV.out).2.2.1
 have y1 := cellW (HC4.out _ GV.out).2.2.2
 have z0 : (f : Int) < (n3 : Int) := by omega
 have z1 : (k : Int) < (n3 : Int) := by omega
 have e1 : decide ((f : Int) < 0) = false := decide_eq_false (by omega)
 have e2 : decide ((k : Int) < (f : Int)) = false := decide_eq_false (by omega)
 have e2n : decide (k < f) = false := decide_eq_false (by omega)
 have e3n : decide (n3 ≤ k) = false := decide_eq_false (by omega)
 have e3 : decide ((n3 : Int) ≤ (k : Int)) = false := decide_eq_false (by omega)
 have w1 : IntKind.i64.wrap (ck.hi - cf.lo) = ck.hi - cf.lo := by rw [IntKind.wrap_i64]; omega
 have w2 : IntKind.i64.wrap (ck.hi - cf.lo + 1) = ck.hi - cf.lo + 1 := by rw [IntKind.wrap_i64]; omega
 have w3 : IntKind.i64.wrap ((k : Int) - (f : Int)) = (k : Int) - (f : Int) := by rw [IntKind.wrap_i64]; omega
 have e4 : decide ((k : Int) - (f : Int) < max 0 (ck.hi - cf.lo + 1)) = false := decide_eq_false (Int.not_lt.2 (Int.max_le.2 ⟨by omega, by omega⟩))
 clear d0 d1
 refine wp_region_calm V1 (by kernel_rfl) (by kernel_rfl) (Below.refl _ _) ?_
 repeat (go_big_quiet_step (fail))
 refine wpQuiet_nil ?_
 rintro _ ⟨z, rfl⟩
 have GZ := Lib.hid (GW1.out.trans ((GV.out.trans (z.ok.mono GV.out.size)).mono GW1.out.size))
 go_wp2_with fail
 go_ret
 exact ⟨rfl, GZ.out⟩
end Go.Proofs.YtkoejeghihcmlaaGreat

namespace Go.Proofs.YtkoejeghihcmlaaGreat
open Go.RowKit Go.Shelf
set_option maxRecDepth 100000 in
theorem far_any (n : Int) (w : World) (h0 : 0 ≤ n) (h1 : n ≤ 25) : Calls Tryz.prog 177 #[.int .i64 n] w fun e w' => e = .returned (.bool false) ∧ w = w' := by
 go_enter Tryz.func177, Tryz.ntmps177
 go_wp2_with (go_at_call 88; (with_reducible refine (withinT (by omega) (by omega) _).mono ?_); rintro e V ⟨rfl, rfl⟩)
 go_ret
 exact ⟨rfl, rfl⟩
set_option maxRecDepth 100000 in
theorem idxFar_any (A : Option Addr) (n cp : Nat) (l : List Int) (w : World) (h : Ints w A n l) (hn : n ≤ 1000) (hl : ∀ x ∈ l, 0 ≤ x ∧ x ≤ 25) :
  Calls Tryz.prog 193 #[.slice A n cp, .func (.func 177) #[] #[]] w fun e w' => e = .returned (.int .i64 (-1)) ∧ w = w' := by
 have HL := Lib.hid h
 have HI := Lib.hid hl
 clear h hl
 go_enter Tryz.func193, Tryz.ntmps193
 go_wp2_with fail
 go_loop [8] (fun i => ∃ k : Nat, k ≤ n ∧ i = .int .i64 k) (fun i => n - (intOf i).toNat)
 case atStart => exact ⟨0, Nat.zero_le _, rfl⟩
 case round =>
  obtain ⟨k, hk, rfl⟩ := hrel
  by_cases hkn : k < n
  ·obtain ⟨b, o, rfl, -, hx, hc⟩ := ints_at HL.out hkn
   have c0 := hc _ (Below.refl _ _)
   have hb := HI.out _ (List.mem_of_getElem? hx)
   obtain ⟨x, hxe⟩ : ∃ x, l.getD k 0 = x := ⟨_, rfl⟩
   rw [hxe] at c0 hb
   clear hxe hc hx
   go_wp2_with (go_at_call 177; (with_reducible refine (far_any x _ hb.1 hb.2).mono ?_); rintro e V ⟨rfl, rfl⟩)
   go_round
   case rel => exact ⟨k + 1, by omega, by go_num⟩
   case measure => simp [intOf]; omega
  ·obtain rfl : n = k := by omega
   go_wp2_with fail
   go_ret
   exact ⟨rfl, rfl⟩
set_option maxRecDepth 100000 in
theorem hasFar_any (A : Option Addr) (n cp : Nat) (l : List Int) (w : World) (h : Ints w A n l) (hn : n ≤ 1000) (hl : ∀ x ∈ l, 0 ≤ x ∧ x ≤ 25) :
  Calls Tryz.prog 155 #[.slice A n cp, .func (.func 177) #[] #[]] w fun e w' => e = .returned (.bool false) ∧ w = w' := by
 have HT := Lib.hid (idxFar_any A n cp l w h hn hl)
 clear h hl
 go_enter Tryz.func155, Tryz.ntmps155
 go_wp2_with (go_at_call 193; (with_reducible refine (HT.out).mono ?_); rintro e w' ⟨rfl, rfl⟩)
 go_ret
 exact ⟨rfl, rfl⟩
set_option maxRecDepth 100000 in
set_option maxHeartbeats 8000000 in
theorem shows_any (b : Nat) (g : Gd) (l : List Cm) (A1 A2 A3 : Option Addr) (n1 c1 n2 c2 n3 c3 : Nat) (S : Option Addr) (ns cs : Nat) (st : List Int) (gn : Int × Int) (w : World) (hp : Pt w b g l A1 A2 A3 n1 c1 n2 c2 n3 c3) (ho : OkG g) (hol : OkL g l) (hS : Ints w S ns st) (hok : WallOk (wsG g) l gn st) (hgn : inG gn) :
  Calls Tryz.prog 95 #[.pointer (some ⟨b, 0, none⟩), .agg #[.int .i64 0, .slice S ns cs], prv gn] w fun e w' => e = .returned (.bool true) ∧ Below w.heap.size w w' := by
 obtain ⟨W1, hW1⟩ : ∃ X, (w.alloc (.cells #[.int .i64 0, .slice S ns cs] 78)).alloc (.cells #[.int .i64 gn.1, .int .i64 gn.2] 66) = X := ⟨_, rfl⟩
 have GW1 := Lib.hid (show Below w.heap.size w W1 by rw [← hW1]; exact (one_more _ _).alloc (by simp <;> omega) _)
 have BW1_0 := Lib.hid (show Blk W1 (w.heap.size) 78 #[.int .i64 0, .slice S ns cs] by
  rw [← hW1]
  have := Blk.new w 78 #[.int .i64 0, .slice S ns cs]
  (try simp only [World.size_alloc] at this)
  exact (this).alloc _)
 have BW1_1 := Lib.hid (show Blk W1 (w.heap.size + 1) 66 #[.int .i64 gn.1, .int .i64 gn.2] by
  rw [← hW1]
  have := Blk.new (w.alloc (.cells #[.int .i64 0, .slice S ns cs] 78)) 66 #[.int .i64 gn.1, .int .i64 gn.2]
  (try simp only [World.size_alloc] at this)
  exact this)
 have HW1 := Lib.hid hW1
 clear hW1
 have HP := Lib.hid (hp.below GW1.out)
 have HO := Lib.hid ho
 have HC := Lib.hid hol.c
 have HV := Lib.hid (ho.valid hol)
 have HSS := Lib.hid (hS.below GW1.out)
 have HOK := Lib.hid hok
 have HGN := Lib.hid hgn
 have hll : l.length = n3 := hp.l.1.1
 have hsl : st.length = ns := hS.1
 have hn12 : n3 ≤ 12 := by have := hol.n; omega
 obtain ⟨hm1, hm2⟩ := hok.many
 obtain ⟨m, rfl⟩ : ∃ m, ns = m + 1 := ⟨ns - 1, by omega⟩
 have hm : 1 ≤ m ∧ m ≤ n3 := by omega
 obtain ⟨hma, hmb⟩ := hm
 have h24 : g.cells.length ≤ 24 := ho.en.2
 have HH := Lib.hid hok.hd
 obtain ⟨b3, o3, hA3, -, -, hc0⟩ := c_at HP.out.l.1 (show 0 < n3 by omega)
 subst hA3
 obtain ⟨b4, o4, hA4, -, -, hs0⟩ := ints_at HSS.out (show 0 < m + 1 by omega)
 subst hA4
 obtain ⟨lo0, hlo0⟩ : ∃ x, (cat l 0).lo = x := ⟨_, rfl⟩
 have hst0 : st.getD 0 0 = lo0 := by rw [← hlo0]; exact HH.out
 rw [hst0] at hs0
 rw [hlo0] at hc0
 have HS0 := Lib.hid hs0
 have HC0 := Lib.hid hc0
 have HFR := Lib.hid (hasFar_any (some ⟨b4, o4, none⟩) (m + 1) cs st)
 have HIN := Lib.hid hok.inn
 clear hp ho hol hS hok hgn hlo0 hst0 hs0 hc0
 have d0 := cellW (BW1_0.out.cell 0)
 have d1 := cellW (BW1_0.out.cell 1)
 have d2 := cellW (HP.out.b.cell 2)
 have y0 := cellW (HS0.out _ (Below.refl _ _))
 have y1 := cellW (HC0.out _ (Below.refl _ _)).2.2.1
 rw [Nat.add_zero] at y0
 rw [Nat.zero_mul, Nat.add_zero] at y1
 have e0 := BW1_0.out.cell 1
 have z0 : (0 : Int) < (m : Int) + 1 := by omega
 have z1 : (0 : Int) < (n3 : Int) := by omega
 have q1 : decide ((m : Int) < 1) = false := decide_eq_false (by omega)
 have q2 : decide ((n3 : Int) - (m : Int) < 0) = false := decide_eq_false (by omega)
 have w1 : IntKind.i64.wrap ((n3 : Int) - (m : Int)) = (n3 : Int) - (m : Int) := by rw [IntKind.wrap_i64]; omega
 go_enter Tryz.func95, Tryz.ntmps95
 go_upto_region 1 with fail
 rw [HW1.out]
 go_upto_region 2 with fail
 clear e0
 refine wp_region_calm W1 (by kernel_rfl) (by kernel_rfl) (Below.refl _ _) ?_
 repeat (go_big_quiet_step (fail))
 refine wpQuiet_nil ?_
 rintro _ ⟨z, rfl⟩
 obtain ⟨V2, hV2⟩ : ∃ X, z.val = X := ⟨_, rfl⟩
 have G2 := Lib.hid (show Below W1.heap.size W1 V2 by rw [← hV2]; exact z.ok)
 rw [hV2]
 clear y0 y1 hV2 z d0 d1 d2
 have e0 := (BW1_0.out.ext G2.out).cell 1
 have HF2 := Lib.hid (HFR.out V2 (HSS.out.below G2.out) (by omega) HIN.out)
 go_wp2_with (go_at_call 155; (with_reducible refine (HF2.out).mono ?_); rintro e V ⟨rfl, rfl⟩)
 go_loopw [55] (fun i wr => ∃ k : Nat, i = .int .i64 k ∧ k ≤ m ∧ Below W1.heap.size W1 wr) (fun i _ => m - (intOf i).toNat)
 case atStart => exact ⟨0, rfl, Nat.zero_le _, G2.out⟩
 case round =>
  obtain ⟨k, rfl, hk, hg⟩ := hrel
  have HG := Lib.hid hg
  by_cases hkn : k < m
  ·obtain ⟨b5, o5, hA5, -, hmem, hc⟩ := c_at HP.out.l.1 (show k < n3 by omega)
   cases hA5
   obtain ⟨b6, o6, hA6, -, -, hs6⟩ := ints_at HSS.out (show k < m + 1 by omega)
   cases hA6
   obtain ⟨b7, o7, hA7, -, -, hs7⟩ := ints_at HSS.out (show k + 1 < m + 1 by omega)
   cases hA7
   have hokc := HC.out _ hmem
   obtain ⟨hstp1, hstp2⟩ := HOK.out.step k (by omega)
   have hin6 := HIN.out _ (sat_mem (l := st) (i := k) (by omega))
   have hin7 := HIN.out _ (sat_mem (l := st) (i := k + 1) (by omega))
   obtain ⟨c, hce⟩ : ∃ x, cat l k = x := ⟨_, rfl⟩
   obtain ⟨sk, hsk⟩ : ∃ x, sat st k = x := ⟨_, rfl⟩
   obtain ⟨sn, hsn⟩ : ∃ x, sat st (k + 1) = x := ⟨_, rfl⟩
   have hsk2 : st.getD k 0 = sk := hsk
   have hsn2 : st.getD (k + 1) 0 = sn := hsn
   rw [hce] at hc hokc hstp1 hstp2
   rw [hsk] at hstp1 hstp2 hin6
   rw [hsn] at hstp1 hstp2 hin7
   rw [hsk2] at hs6
   rw [hsn2] at hs7
   unfold okC at hokc
   have HCC := Lib.hid hc
   have HS6 := Lib.hid hs6
   have HS7 := Lib.hid hs7
   obtain ⟨f, hf⟩ : ∃ f, max sk c.lo = f := ⟨_, rfl⟩
   rw [hf] at hstp1 hstp2
   have hf0 : 0 ≤ f := by omega
   have hf1 : f ≤ 25 := by omega
   have HAB := Lib.hid hstp2
   have x0 := cellW ((HP.out.b.ext hg).cell 2)
   have x1 := cellW ((BW1_0.out.ext hg).cell 0)
   have x2 := cellW ((BW1_0.out.ext hg).cell 1)
   obtain ⟨v0, v1, v2, v3⟩ := hc wr hg
   have y0 := cellW v0
   have y1 := cellW v1
   have y2 := cellW v2
   have y3 := cellW v3
   have y4 := cellW (hs7 wr hg)
   have z0 : (k : Int) < (n3 : Int) := by omega
   have z1 : (k : Int) + 1 < (m : Int) + 1 := by omega
   have z2 : (k : Int) < (m : Int) + 1 := by omega
   have wz : IntKind.i64.wrap ((k : Int) + 1) = (k : Int) + 1 := by rw [IntKind.wrap_i64]; omega
   have wz0 : IntKind.i64.wrap (k : Int) = (k : Int) := by rw [IntKind.wrap_i64]; omega
   have hzz : (0 : Int) ≤ (k : Int) + 1 := by omega
   have hzt : ((k : Int) + 1).toNat = k + 1 := by omega
   clear hce hsk hsn hsk2 hsn2 hmem v0 v1 v2 v3 hc hs6 hs7 hstp2 hg
   have HKP := Lib.hid (fun X (hx : Below wr.heap.size wr X) => (show X.cell? ⟨b, 2, none⟩ = some (.slice (some ⟨b3, o3, none⟩) n3 c3) ∧ X.cell? ⟨w.heap.size, 0, none⟩ = some (.int .i64 0) ∧ X.cell? ⟨w.heap.size, 1, none⟩ = some (.slice (some ⟨b4, o4, none⟩) (m + 1) cs) ∧ X.cell? ⟨b3, o3 + k * 4, none⟩ = some (.int .i64 c.fam) ∧ X.cell? ⟨b3, o3 + k * 4 + 1, none⟩ = some (.int .i64 c.hd) ∧ X.cell? ⟨b3, o3 + k * 4 + 2, none⟩ = some (.int .i64 c.lo) ∧ X.cell? ⟨b3, o3 + k * 4 + 3, none⟩ = some (.int .i64 c.hi) ∧ X.cell? ⟨b4, o4 + (k + 1), none⟩ = some (.int .i64 sn) from
    have h1 := HG.out.trans (hx.mono HG.out.size)
    ⟨(HP.out.b.ext h1).cell 2, (BW1_0.out.ext h1).cell 0, (BW1_0.out.ext h1).cell 1, (HCC.out X h1).1, (HCC.out X h1).2.1, (HCC.out X h1).2.2.1, (HCC.out X h1).2.2.2, HS7.out X h1⟩))
   obtain ⟨k0, k1, k2, k3, k4, k5, k6, k7⟩ := HKP.out _ (Below.refl _ _)
   clear x0 x1 x2 y0 y1 y2 y3 y4
   go_upto_region 9 with fail
   go_cut [9, 10] from 58 to 73 (fun s9 s10 wx => ∃ b9, s9 = .pointer (some ⟨b9, 0, none⟩) ∧ s10 = .int .i64 sn ∧ Below wr.heap.size wr wx ∧ Blk wx b9 87 #[.int .i64 c.fam, .int .i64 c.hd, .int .i64 c.lo, .int .i64 c.hi])
   case first =>
    go_region_held3 (fun X => X.cell? ⟨b, 2, none⟩ = some (.slice (some ⟨b3, o3, none⟩) n3 c3) ∧ X.cell? ⟨w.heap.size, 0, none⟩ = some (.int .i64 0) ∧ X.cell? ⟨w.heap.size, 1, none⟩ = some (.slice (some ⟨b4, o4, none⟩) (m + 1) cs) ∧ X.cell? ⟨b3, o3 + k * 4, none⟩ = some (.int .i64 c.fam) ∧ X.cell? ⟨b3, o3 + k * 4 + 1, none⟩ = some (.int .i64 c.hd) ∧ X.cell? ⟨b3, o3 + k * 4 + 2, none⟩ = some (.int .i64 c.lo) ∧ X.cell? ⟨b3, o3 + k * 4 + 3, none⟩ = some (.int .i64 c.hi) ∧ X.cell? ⟨b4, o4 + (k + 1), none⟩ = some (.int .i64 sn))
     (first | exact HKP.out _ (by exact (Below.refl _ _).drew) | exact HKP.out _ (by exact (one_more _ _).drew) | exact HKP.out _ (by exact (one_more _ _)))
     (fail)
    all_goals (try go_wp2_with fail)
    all_goals go_meet
    all_goals first
     | exact ⟨_, rfl, rfl, (one_more _ _).drew, (Blk.new _ _ _).ext ((Below.refl _ _).drew)⟩
     | exact ⟨_, rfl, rfl, one_more _ _, Blk.new _ _ _⟩
   case rest =>
   obtain ⟨b9, rfl, rfl, hg9, hb9⟩ := hcut
   rename World => V9
   have G9 := Lib.hid (HG.out.trans (hg9.mono HG.out.size))
   have BV9_0 := Lib.hid hb9
   clear k0 k1 k2 k3 k4 k5 k6 k7 hg9 hb9
   have x2 := cellW ((BW1_0.out.ext G9.out).cell 1)
   have x3 := cellW (HS6.out V9 G9.out)
   have x4 := cellW (BV9_0.out.cell 2)
   go_upto_region 10 with fail
   refine wp_region_calm V9 (by kernel_rfl) (by kernel_rfl) (Below.refl _ _) ?_
   repeat (go_big_quiet_step (fail))
   refine wpQuiet_nil ?_
   rintro _ ⟨z, rfl⟩
   obtain ⟨W2, hV10⟩ : ∃ X, z.val = X := ⟨_, rfl⟩
   have G10 := Lib.hid (show Below V9.heap.size V9 W2 by rw [← hV10]; exact z.ok)
   rw [hV10]
   clear hV10 z x2 x3 x4
   have hf2 : (if sk < c.lo then c.lo else sk) = f := by rw [← hf]; split <;> omega
   (try rw [hf2])
   have GW := Lib.hid (G9.out.trans (G10.out.mono G9.out.size))
   have e1 : decide (sn ≤ f) = false := decide_eq_false (by omega)
   have hw9 : IntKind.i64.wrap (sn - 2) = sn - 2 := by rw [IntKind.wrap_i64]; omega
   have HK := Lib.hid (fun X (hx : Below W2.heap.size W2 X) => (show X.cell? ⟨w.heap.size + 1, 0, none⟩ = some (.int .i64 gn.1) ∧ X.cell? ⟨w.heap.size + 1, 1, none⟩ = some (.int .i64 gn.2) ∧ X.cell? ⟨b9, 0, none⟩ = some (.int .i64 c.fam) ∧ X.cell? ⟨b9, 1, none⟩ = some (.int .i64 c.hd) ∧ X.cell? ⟨b9, 2, none⟩ = some (.int .i64 c.lo) ∧ X.cell? ⟨b9, 3, none⟩ = some (.int .i64 c.hi) ∧ X.cell? ⟨b, 0, none⟩ = some (.slice A1 n1 c1) ∧ X.cell? ⟨b, 1, none⟩ = some (.slice A2 n2 c2) from
    have h1 := GW.out.trans (hx.mono GW.out.size)
    ⟨(BW1_1.out.ext h1).cell 0, (BW1_1.out.ext h1).cell 1, ((BV9_0.out.ext G10.out).ext hx).cell 0, ((BV9_0.out.ext G10.out).ext hx).cell 1, ((BV9_0.out.ext G10.out).ext hx).cell 2, ((BV9_0.out.ext G10.out).ext hx).cell 3, (HP.out.b.ext h1).cell 0, (HP.out.b.ext h1).cell 1⟩))
   obtain ⟨k0, k1, k2, k3, k4, k5, k6, k7⟩ := HK.out _ (Below.refl _ _)
   have HTW := Lib.hid (fun X (hx : Below W2.heap.size W2 X) => worth_any g A1 A2 n1 c1 n2 c2 f (sn - 2) X ((HP.out.g.below GW.out).below hx) HO.out hf0 (by omega) (by omega) (by omega))
   have hwb := HV.out.wor_bd f (sn - 2)
   obtain ⟨wv, hwv⟩ : ∃ n, wor (wsG g) f (sn - 2) = n := ⟨_, rfl⟩
   rw [hwv] at hwb HTW HAB
   have HTA := Lib.hid (fun X => above_any gn X)
   have HTC := Lib.hid (fun X bg (hb : Blk X bg 66 #[.int .i64 gn.1, .int .i64 gn.2]) => (show Calls Tryz.prog 211 #[cv c, .int .i64 wv, .pointer (some ⟨bg, 0, none⟩)] X fun e w' => e = .returned (.bool false) ∧ Below X.heap.size X w' by
    have := above1_any gn bg c wv X hb HGN.out (by omega) (by omega) (by omega) (by omega)
    rw [HAB.out] at this; exact this))
   clear hwv
   go_upto_region 11 with fail
   go_region_held3 (fun X => X.cell? ⟨w.heap.size + 1, 0, none⟩ = some (.int .i64 gn.1) ∧ X.cell? ⟨w.heap.size + 1, 1, none⟩ = some (.int .i64 gn.2) ∧ X.cell? ⟨b9, 0, none⟩ = some (.int .i64 c.fam) ∧ X.cell? ⟨b9, 1, none⟩ = some (.int .i64 c.hd) ∧ X.cell? ⟨b9, 2, none⟩ = some (.int .i64 c.lo) ∧ X.cell? ⟨b9, 3, none⟩ = some (.int .i64 c.hi) ∧ X.cell? ⟨b, 0, none⟩ = some (.slice A1 n1 c1) ∧ X.cell? ⟨b, 1, none⟩ = some (.slice A2 n2 c2))
    (first | exact HK.out _ (by exact (Below.refl _ _).drew) | exact HK.out _ G11.out | exact HK.out _ G12.out | exact HK.out _ G13.out)
    (first
     | (go_at_call 173; (with_reducible refine (HTA.out _).mono ?_); rintro e W11 ⟨⟨rfl, hb11⟩, g11⟩; have B11 := Lib.hid (show Blk W11 W2.heap.size 66 #[.int .i64 gn.1, .int .i64 gn.2] from hb11); have G11 := Lib.hid (show Below W2.heap.size W2 W11 from ((Below.refl _ _).drew).trans (g11.mono (Nat.le_refl _))); clear g11 hb11)
     | (go_at_call 176; (with_reducible refine (HTW.out _ G11.out).mono ?_); rintro e W12 ⟨rfl, g12⟩; have B12 := Lib.hid (B11.out.ext g12); have G12 := Lib.hid (G11.out.trans (g12.mono G11.out.size)); clear g12)
     | (go_at_call 211; (with_reducible refine (HTC.out _ _ B12.out).mono ?_); rintro e W13 ⟨rfl, g13⟩; have G13 := Lib.hid (G12.out.trans (g13.mono G12.out.size)); clear g13))
   all_goals
    go_wp2_with fail
    go_roundw
    case rel => exact ⟨k + 1, by go_num, by omega, GW.out.trans (G13.out.mono GW.out.size)⟩
    case measure => simp [intOf]; omega
  ·obtain rfl : m = k := by omega
   obtain ⟨p, rfl⟩ : ∃ p, m = p + 1 := ⟨m - 1, by omega⟩
   obtain ⟨b5, o5, hA5, -, -, hc⟩ := c_at HP.out.l.1 (show p < n3 by omega)
   cases hA5
   obtain ⟨b6, o6, hA6, -, -, hs6⟩ := ints_at HSS.out (show p + 1 < p + 1 + 1 by omega)
   cases hA6
   have hlast := HOK.out.last
   rw [hsl, show p + 1 + 1 - 2 = p by omega, show p + 1 + 1 - 1 = p + 1 by omega] at hlast
   have hin6 := HIN.out _ (sat_mem (l := st) (i := p + 1) (by omega))
   obtain ⟨c, hce⟩ : ∃ x, cat l p = x := ⟨_, rfl⟩
   obtain ⟨sk, hsk⟩ : ∃ x, sat st (p + 1) = x := ⟨_, rfl⟩
   have hsk2 : st.getD (p + 1) 0 = sk := hsk
   rw [hce] at hc hlast
   rw [hsk] at hlast hin6
   rw [hsk2] at hs6
   have x0 := cellW ((HP.out.b.ext hg).cell 2)
   have x1 := cellW ((BW1_0.out.ext hg).cell 0)
   have x2 := cellW ((BW1_0.out.ext hg).cell 1)
   have y3 := cellW (hc wr hg).2.2.2
   have y4 := cellW (hs6 wr hg)
   have z0 : (p : Int) < (n3 : Int) := by omega
   have z1 : (p : Int) + 1 < (p : Int) + 1 + 1 := by omega
   have wz0 : IntKind.i64.wrap ((p : Int) + 1) = (p : Int) + 1 := by rw [IntKind.wrap_i64]; omega
   have wz1 : IntKind.i64.wrap (p : Int) = (p : Int) := by rw [IntKind.wrap_i64]; omega
   have wz2 : IntKind.i64.wrap (sk - 1) = sk - 1 := by rw [IntKind.wrap_i64]; omega
   have hzz : (0 : Int) ≤ (p : Int) + 1 := by omega
   have hzt : ((p : Int) + 1).toNat = p + 1 := by omega
   have qe : decide (c.hi < sk - 1) = true := decide_eq_true hlast
   clear hce hsk hsk2 hc hs6 hg hlast
   go_upto_region 14 with fail
   refine wp_region_calm wr (by kernel_rfl) (by kernel_rfl) (Below.refl _ _) ?_
   repeat (go_big_quiet_step (fail))
   refine wpQuiet_nil ?_
   rintro _ ⟨z, rfl⟩
   have GX := Lib.hid (GW1.out.trans ((HG.out.trans (z.ok.mono HG.out.size)).mono GW1.out.size))
   go_wp2_with fail
   go_ret
   exact ⟨rfl, GX.out⟩
end Go.Proofs.YtkoejeghihcmlaaGreat

namespace Go.Proofs.YtkoejeghihcmlaaGreat
open Go.RowKit Go.Shelf
set_option maxRecDepth 100000 in
set_option maxHeartbeats 4000000 in
theorem checkWall_any (g : Gd) (A1 A2 A3 : Option Addr) (n1 c1 n2 c2 n3 c3 : Nat) (l : List Cm) (S : Option Addr) (ns cs : Nat) (st : List Int) (gn : Int × Int) (w : World) (hg : Ga w g A1 A2 n1 c1 n2 c2) (ho : OkG g) (hl : Sl ccells 4 w A3 n3 c3 l) (hol : OkL g l) (hS : Ints w S ns st) (hok : WallOk (wsG g) l gn st) (hgn : inG gn) (hg1 : 1 ≤ gn.2) :
  Calls Tryz.prog 30 #[gv A1 A2 n1 c1 n2 c2, .slice A3 n3 c3, .agg #[.int .i64 0, .slice S ns cs], prv gn] w fun e w' => e = .returned (.int .i64 0) ∧ Below w.heap.size w w' := by
 obtain ⟨W1, hW1⟩ : ∃ X, ((w.alloc (.cells #[.slice A1 n1 c1, .slice A2 n2 c2] 47)).alloc (.cells #[.int .i64 0, .slice S ns cs] 78)).alloc (.cells #[.int .i64 gn.1, .int .i64 gn.2] 66) = X := ⟨_, rfl⟩
 have GW1 := Lib.hid (show Below w.heap.size w W1 by rw [← hW1]; exact ((one_more _ _).alloc (by simp <;> omega) _).alloc (by simp <;> omega) _)
 have BW1_0 := Lib.hid (show Blk W1 (w.heap.size) 47 #[.slice A1 n1 c1, .slice A2 n2 c2] by
  rw [← hW1]
  have := Blk.new w 47 #[.slice A1 n1 c1, .slice A2 n2 c2]
  (try simp only [World.size_alloc] at this)
  exact ((this).alloc _).alloc _)
 have BW1_1 := Lib.hid (show Blk W1 (w.heap.size + 1) 78 #[.int .i64 0, .slice S ns cs] by
  rw [← hW1]
  have := Blk.new (w.alloc (.cells #[.slice A1 n1 c1, .slice A2 n2 c2] 47)) 78 #[.int .i64 0, .slice S ns cs]
  (try simp only [World.size_alloc] at this)
  exact (this).alloc _)
 have BW1_2 := Lib.hid (show Blk W1 (w.heap.size + 1 + 1) 66 #[.int .i64 gn.1, .int .i64 gn.2] by
  rw [← hW1]
  have := Blk.new ((w.alloc (.cells #[.slice A1 n1 c1, .slice A2 n2 c2] 47)).alloc (.cells #[.int .i64 0, .slice S ns cs] 78)) 66 #[.int .i64 gn.1, .int .i64 gn.2]
  (try simp only [World.size_alloc] at this)
  exact this)
 have HW1 := Lib.hid hW1
 clear hW1
 have HLK := Lib.hid (lookD_any g A1 A2 A3 n1 c1 n2 c2 n3 c3 l W1 (hg.below GW1.out) ho (hl.below GW1.out) hol)
 have HGN := Lib.hid (fun V => isGain_any gn hgn.1 hgn.2.1 hg1 hgn.2.2.2 V)
 have HSH := Lib.hid (fun b V (hp : Pt V b g l A1 A2 A3 n1 c1 n2 c2 n3 c3) (hb : Below W1.heap.size W1 V) => shows_any b g l A1 A2 A3 n1 c1 n2 c2 n3 c3 S ns cs st gn V hp ho hol (hS.below (GW1.out.trans (hb.mono GW1.out.size))) hok hgn)
 have d0 := BW1_0.out.cell 0
 have d1 := BW1_0.out.cell 1
 clear hg ho hl hol hS hok hgn hg1
 go_enter Tryz.func30, Tryz.ntmps30
 go_upto_region 1 with fail
 rw [HW1.out]
 go_upto_region 4 with (go_at_call 90; (with_reducible refine (HLK.out).mono ?_); rintro e V ⟨⟨b, rfl, -, hpt⟩, hgv⟩; have GV := Lib.hid hgv; have HPT := Lib.hid hpt; clear hgv hpt)
 rename World => V1
 clear d0 d1
 have x0 := (BW1_2.out.ext GV.out).cell 0
 have x1 := (BW1_2.out.ext GV.out).cell 1
 go_upto_region 6 with (go_at_call 94; (with_reducible refine (HGN.out _).mono ?_); rintro e V2 ⟨rfl, hg2⟩; have G2 := Lib.hid (GV.out.trans (hg2.mono GV.out.size)); have HP2 := Lib.hid (HPT.out.below hg2); clear hg2)
 have x2 := (BW1_2.out.ext G2.out).cell 0
 have x3 := (BW1_2.out.ext G2.out).cell 1
 have y2 := (BW1_1.out.ext G2.out).cell 0
 have y3 := (BW1_1.out.ext G2.out).cell 1
 clear x0 x1
 go_wp2_with (go_at_call 95; (with_reducible refine (HSH.out _ _ HP2.out G2.out).mono ?_); rintro e V3 ⟨rfl, hg3⟩; have G3 := Lib.hid (GW1.out.trans ((G2.out.trans (hg3.mono G2.out.size)).mono GW1.out.size)); clear hg3)
 go_ret
 exact ⟨rfl, G3.out⟩
end Go.Proofs.YtkoejeghihcmlaaGreat
