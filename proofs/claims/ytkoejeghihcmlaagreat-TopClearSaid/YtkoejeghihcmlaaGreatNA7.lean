/- Part of the proof: DU. -/
import Derived.Test.YtkoejeghihcmlaaGreatNA4
import Derived.Test.YtkoejeghihcmlaaGreatNA5
import Derived.Test.YtkoejeghihcmlaaGreatNA6
namespace Go.Proofs.YtkoejeghihcmlaaGreat
open Go.RowKit Go.Shelf
theorem shr_at : ∀ {l : List Cm} {ds : List (Int × Int)} {a : Int}, shr l ds a = true → ∀ k, k < ds.length → ∃ c ∈ l, c.lo ≤ (dat ds k).1 ∧ (dat ds k).1 ≤ (dat ds k).2 ∧ (dat ds k).2 ≤ c.hi
 | [], [], _, _, k, hk => by simp at hk
 | [], d :: ds, _, h, _, _ => by simp [shr] at h
 | c :: l, [], _, h, _, _ => by simp [shr] at h
 | c :: l, d :: ds, a, h, k, hk => by
  unfold shr at h
  rw [Bool.and_eq_true, decide_eq_true_eq] at h
  obtain ⟨⟨h1, h2, h3, -⟩, h4⟩ := h
  cases k with
  | zero => exact ⟨c, List.mem_cons_self .., h1, h2, h3⟩
  | succ k =>
   obtain ⟨c', hc', h5⟩ := shr_at h4 k (by simpa using hk)
   exact ⟨c', List.mem_cons_of_mem _ hc', h5⟩
theorem shr_up : ∀ {l : List Cm} {ds : List (Int × Int)} {a : Int}, shr l ds a = true → ∀ k, k + 1 < ds.length → (dat ds k).2 < (dat ds (k + 1)).1
 | [], [], _, _, k, hk => by simp at hk
 | [], d :: ds, _, h, _, _ => by simp [shr] at h
 | c :: l, [], _, h, _, _ => by simp [shr] at h
 | c :: l, d :: ds, a, h, k, hk => by
  unfold shr at h
  rw [Bool.and_eq_true, decide_eq_true_eq] at h
  obtain ⟨-, h4⟩ := h
  cases k with
  | zero =>
   match l, ds, h4, hk with
   | [], [], h4, hk => simp at hk
   | [], d' :: ds, h4, _ => simp [shr] at h4
   | c :: l, [], h4, _ => simp [shr] at h4
   | c' :: l, d' :: ds, h4, _ =>
    unfold shr at h4
    rw [Bool.and_eq_true, decide_eq_true_eq] at h4
    exact h4.1.2.2.2
  | succ k => exact shr_up h4 k (by simpa using hk)
theorem turn_ok {g : Gd} {l : List Cm} (h : OkL g l) (d : Int) : OkL g (turnL l d) := by
 have hp : (turnL l d).Perm l := by
  unfold turnL
  exact List.perm_append_comm.trans (by rw [List.take_append_drop])
 refine ⟨by rw [hp.length_eq]; exact h.n, fun c hc => h.c c (hp.mem_iff.1 hc), ?_⟩
 exact (hp.map Cm.fam).nodup_iff.2 h.nd
/-- The memory while the law runs. -/
structure TopM (P : Pl) (D1 D2 D3 : Option Addr) (m1 d1 m2 d2 m3 d3 : Nat) (sw : Int) (Dn : Option Addr) (mn dn : Nat) (nu : List Int) (bP bC bG : Nat) (g : Gd) (B1 B2 : Option Addr) (u1 v1 u2 v2 : Nat) (l : List Cm) (B3 : Option Addr) (u3 v3 : Nat) (W : World) : Prop where
 p : Blk W bP 38 (plb P D1 D2 D3 m1 d1 m2 d2 m3 d3)
 c : Blk W bC 41 #[.int .i64 sw, .slice Dn mn dn]
 q : Blk W bG 47 #[.slice B1 u1 v1, .slice B2 u2 v2]
 pa : Pa W P D1 D2 D3 m1 d1 m2 d2 m3 d3
 nu : Ints W Dn mn nu
 g : Ga W g B1 B2 u1 v1 u2 v2
 l : Sl ccells 4 W B3 u3 v3 l
theorem TopM.ext {P : Pl} {D1 D2 D3 : Option Addr} {m1 d1 m2 d2 m3 d3 : Nat} {sw : Int} {Dn : Option Addr} {mn dn : Nat} {nu : List Int} {bP bC bG : Nat} {g : Gd} {B1 B2 : Option Addr} {u1 v1 u2 v2 : Nat} {l : List Cm} {B3 : Option Addr} {u3 v3 : Nat} {W W' : World}
  (h : TopM P D1 D2 D3 m1 d1 m2 d2 m3 d3 sw Dn mn dn nu bP bC bG g B1 B2 u1 v1 u2 v2 l B3 u3 v3 W) (hb : Below W.heap.size W W') : TopM P D1 D2 D3 m1 d1 m2 d2 m3 d3 sw Dn mn dn nu bP bC bG g B1 B2 u1 v1 u2 v2 l B3 u3 v3 W' :=
 ⟨h.p.ext hb, h.c.ext hb, h.q.ext hb, h.pa.below hb, h.nu.below hb, h.g.below hb, h.l.below hb⟩
structure TopN (xs : List (Int × Int)) (X0 : Option Addr) (nx bG : Nat) (g : Gd) (B1 B2 : Option Addr) (u1 v1 u2 v2 : Nat) (l : List Cm) (B4 : Option Addr) (u3 v4 : Nat) (W : World) : Prop where
 q : Blk W bG 47 #[.slice B1 u1 v1, .slice B2 u2 v2]
 g : Ga W g B1 B2 u1 v1 u2 v2
 l : Sl ccells 4 W B4 u3 v4 l
 x : Arr dcells 2 W X0 nx xs
theorem TopN.ext {xs : List (Int × Int)} {X0 : Option Addr} {nx bG : Nat} {g : Gd} {B1 B2 : Option Addr} {u1 v1 u2 v2 : Nat} {l : List Cm} {B4 : Option Addr} {u3 v4 : Nat} {W W' : World} (h : TopN xs X0 nx bG g B1 B2 u1 v1 u2 v2 l B4 u3 v4 W) (hb : Below W.heap.size W W') : TopN xs X0 nx bG g B1 B2 u1 v1 u2 v2 l B4 u3 v4 W' :=
 ⟨h.q.ext hb, h.g.below hb, h.l.below hb, h.x.below hb⟩
theorem least_no (g : Gd) (A1 A2 A3 : Option Addr) (n1 c1 n2 c2 n3 c3 : Nat) (l : List Cm) (w : World) (hg : Ga w g A1 A2 n1 c1 n2 c2) (ho : OkG g) (hl : Sl ccells 4 w A3 n3 c3 l) (hol : OkL g l) (h : (mo (wsG g) l 0).all = false) :
  Calls Tryz.prog 25 #[gv A1 A2 n1 c1 n2 c2, .slice A3 n3 c3] w fun e w' => (∃ a b : Int, e = .returned (.tuple #[.agg #[.int .i64 a, .int .i64 b], .int .i64 47])) ∧ Below w.heap.size w w' :=
 (leastF_any g A1 A2 A3 n1 c1 n2 c2 n3 c3 l 0 w hg ho hl hol h (fun j hj => absurd hj (Nat.not_lt_zero _))).mono fun _ _ h => ⟨by obtain ⟨⟨gn, h1, -⟩, -⟩ := h; exact ⟨gn.1, gn.2, h1⟩, h.2⟩
theorem least_yes (g : Gd) (A1 A2 A3 : Option Addr) (n1 c1 n2 c2 n3 c3 : Nat) (l : List Cm) (K : Nat) (w : World) (hg : Ga w g A1 A2 n1 c1 n2 c2) (ho : OkG g) (hl : Sl ccells 4 w A3 n3 c3 l) (hol : OkL g l) (h : (mo (wsG g) l (K + 1)).all = false) (h2 : ∀ j < K + 1, (mo (wsG g) l j).all = true) :
  Calls Tryz.prog 25 #[gv A1 A2 n1 c1 n2 c2, .slice A3 n3 c3] w fun e w' => e = .returned (.tuple #[prv (lea (wsG g) l K), .int .i64 0]) ∧ Below w.heap.size w w' :=
 (leastF_any g A1 A2 A3 n1 c1 n2 c2 n3 c3 l (K + 1) w hg ho hl hol h h2).mono fun _ _ h => ⟨by obtain ⟨⟨gn, h1, h2⟩, -⟩ := h; rw [h1, h2 (Nat.succ_pos _), if_pos (Nat.succ_pos _)]; rfl, h.2⟩
theorem share_no (g : Gd) (A1 A2 A3 : Option Addr) (n1 c1 n2 c2 n3 c3 : Nat) (l : List Cm) (w : World) (hg : Ga w g A1 A2 n1 c1 n2 c2) (ho : OkG g) (hl : Sl ccells 4 w A3 n3 c3 l) (hol : OkL g l) (h : (mo (wsG g) l 0).all = false) :
  Calls Tryz.prog 26 #[gv A1 A2 n1 c1 n2 c2, .slice A3 n3 c3] w fun e w' => (∃ v, e = .returned (.tuple #[v, .int .i64 47])) ∧ Below w.heap.size w w' :=
 (shareF_any g A1 A2 A3 n1 c1 n2 c2 n3 c3 l 0 w hg ho hl hol h (fun j hj => absurd hj (Nat.not_lt_zero _))).mono fun _ _ h => ⟨by obtain ⟨⟨v, h1, -⟩, -⟩ := h; exact ⟨v, h1⟩, h.2⟩
theorem share_yes (g : Gd) (A1 A2 A3 : Option Addr) (n1 c1 n2 c2 n3 c3 : Nat) (l : List Cm) (K : Nat) (w : World) (hg : Ga w g A1 A2 n1 c1 n2 c2) (ho : OkG g) (hl : Sl ccells 4 w A3 n3 c3 l) (hol : OkL g l) (h : (mo (wsG g) l (K + 1)).all = false) (h2 : ∀ j < K + 1, (mo (wsG g) l j).all = true) :
  Calls Tryz.prog 26 #[gv A1 A2 n1 c1 n2 c2, .slice A3 n3 c3] w fun e w' => (∃ v, e = .returned (.tuple #[v, .int .i64 0]) ∧ OwnL dcells 2 84 w' w.heap.size v (mo (wsG g) l K).ds) ∧ Below w.heap.size w w' :=
 (shareF_any g A1 A2 A3 n1 c1 n2 c2 n3 c3 l (K + 1) w hg ho hl hol h h2).mono fun _ _ h => ⟨by obtain ⟨⟨v, h1, h2⟩, -⟩ := h; exact ⟨v, by rw [h1, if_pos (Nat.succ_pos _)], h2 (Nat.succ_pos _)⟩, h.2⟩
theorem crowd_yes (g : Gd) (A1 A2 A3 : Option Addr) (n1 c1 n2 c2 n3 c3 : Nat) (l : List Cm) (w : World) (hg : Ga w g A1 A2 n1 c1 n2 c2) (ho : OkG g) (hl : Sl ccells 4 w A3 n3 c3 l) (hol : OkL g l) (h : (mo (wsG g) l 0).all = false) :
  Calls Tryz.prog 27 #[gv A1 A2 n1 c1 n2 c2, .slice A3 n3 c3] w fun e w' => (∃ f k : Nat, e = .returned (.tuple #[.agg #[.int .i64 (f : Int), .int .i64 (k : Int)], .int .i64 0]) ∧ k < l.length ∧ f ≤ k ∧ (cat l k).hi - (cat l f).lo + 1 ≤ (k : Int) - f) ∧ Below w.heap.size w w' :=
 (crowded_any g A1 A2 A3 n1 c1 n2 c2 n3 c3 l w hg ho hl hol h).mono fun _ _ h2 => ⟨⟨_, _, h2.1, crowd_ok (ho.valid hol).cl h _ _ rfl rfl⟩, h2.2⟩
theorem wall_yes (g : Gd) (A1 A2 A3 : Option Addr) (n1 c1 n2 c2 n3 c3 : Nat) (l : List Cm) (K : Nat) (w : World) (hg : Ga w g A1 A2 n1 c1 n2 c2) (ho : OkG g) (hl : Sl ccells 4 w A3 n3 c3 l) (hol : OkL g l) (h : (mo (wsG g) l (K + 1)).all = false) (h2 : ∀ j < K + 1, (mo (wsG g) l j).all = true) :
  Calls Tryz.prog 29 #[gv A1 A2 n1 c1 n2 c2, .slice A3 n3 c3] w fun e w' => (∃ v st, e = .returned (.tuple #[.agg #[.int .i64 0, v], .int .i64 0]) ∧ OwnL icells 1 3 w' w.heap.size v st ∧ WallOk (wsG g) l (lea (wsG g) l K) st) ∧ Below w.heap.size w w' :=
 (wallF_any g A1 A2 A3 n1 c1 n2 c2 n3 c3 l (K + 1) w hg ho hl hol h h2 (Nat.succ_pos _)).mono fun _ _ h3 => ⟨by obtain ⟨⟨v, h4, h5⟩, -⟩ := h3; exact ⟨v, _, h4, h5, wall_ok (ho.valid hol).cl ((ho.valid hol).lea_mem (h2 K (Nat.lt_succ_self K))).2.1 h⟩, h3.2⟩
/-- what is asked of a plot, in numbers -/
structure PlotQ (P : Pl) (hh oa lv sh f0 ge : Int) : Prop where
 yes : oa = 1 → lv = 0 ∧ shutB P 20 hh = false
 shut : shutB P 20 hh = true → oa ≠ 1 → oa = 0
 no : shutB P 20 hh = false → oa ≠ 1 → 0 < sh ∨ (0 < ge ∧ f0 + 24 * ge ≤ hh)
set_option maxRecDepth 100000 in
set_option maxHeartbeats 16000000 in
theorem law3_any (r : Raw) (A1 A2 A3 : Option Addr) (n1 c1 n2 c2 n3 c3 : Nat) (rg : Gra) (R1 R2 R3 : Option Addr) (k1 q1 k2 q2 k3 q3 : Nat) (x : Int) (X0 : Option Addr) (nx cx : Nat) (xs : List (Int × Int)) (w : World)
  (h1 : Arr q4cells 4 w A1 n1 r.loads) (h2 : Arr q4cells 4 w A2 n2 r.stands) (h3 : Arr q4cells 4 w A3 n3 r.spells)
  (hn : n1 ≤ 9223372036854775807 ∧ n2 ≤ 9223372036854775807 ∧ n3 ≤ 9223372036854775807) (hr : RawOk r)
  (g1 : Arr dcells 2 w R1 k1 rg.ch) (g2 : Arr t3cells 3 w R2 k2 rg.ce) (g3 : Arr t3cells 3 w R3 k3 rg.cl) (hgn : k1 ≤ 9223372036854775807 ∧ k2 ≤ 9223372036854775807 ∧ k3 ≤ 9223372036854775807) (_ix : I64 x) (hxs : Arr dcells 2 w X0 nx xs) (_hnx : nx ≤ 9223372036854775807) :
  Calls Tryz.prog 3 #[.agg #[.int .i64 r.sown, .int .i64 r.geese, .slice A1 n1 c1, .slice A2 n2 c2, .slice A3 n3 c3, .slice R1 k1 q1, .slice R2 k2 q2, .slice R3 k3 q3], .int .i64 x, .slice X0 nx cx] w fun e w' => e = .returned (.bool true) ∧ Below w.heap.size w w' := by
 obtain ⟨W1, hW1⟩ : ∃ X, w.alloc (.cells #[.int .i64 r.sown, .int .i64 r.geese, .slice A1 n1 c1, .slice A2 n2 c2, .slice A3 n3 c3, .slice R1 k1 q1, .slice R2 k2 q2, .slice R3 k3 q3] 30) = X := ⟨_, rfl⟩
 have GW1 := Lib.hid (show Below w.heap.size w W1 by rw [← hW1]; exact one_more _ _)
 have BW1_0 := Lib.hid (show Blk W1 (w.heap.size) 30 #[.int .i64 r.sown, .int .i64 r.geese, .slice A1 n1 c1, .slice A2 n2 c2, .slice A3 n3 c3, .slice R1 k1 q1, .slice R2 k2 q2, .slice R3 k3 q3] by
  rw [← hW1]
  have := Blk.new w 30 #[.int .i64 r.sown, .int .i64 r.geese, .slice A1 n1 c1, .slice A2 n2 c2, .slice A3 n3 c3, .slice R1 k1 q1, .slice R2 k2 q2, .slice R3 k3 q3]
  (try simp only [World.size_alloc] at this)
  exact this)
 have HW1 := Lib.hid hW1
 clear hW1
 have H1 := Lib.hid h1
 have H2 := Lib.hid h2
 have H3 := Lib.hid h3
 have HN := Lib.hid hn
 have HR := Lib.hid hr
 have J1 := Lib.hid g1
 have J2 := Lib.hid g2
 have J3 := Lib.hid g3
 have JN := Lib.hid hgn
 have HX := Lib.hid hxs
 clear h1 h2 h3 hn hr g1 g2 g3 hgn hxs
 obtain ⟨P, hP⟩ : ∃ P, madeP r true = P := ⟨_, rfl⟩
 obtain ⟨nu, hnu⟩ : ∃ l, madeNums r = l := ⟨_, rfl⟩
 obtain ⟨sw, hsw⟩ : ∃ s, r.sown % 200 = s := ⟨_, rfl⟩
 have H19 := Lib.hid (show P.loads.length ≤ 60 by rw [← hP]; exact made_19 r true)
 have HNI := Lib.hid (show ∀ x ∈ nu, -9223372036854775808 ≤ x ∧ x ≤ 9223372036854775807 from fun x hx => by
  rw [← hnu] at hx
  obtain ⟨i, hi, rfl⟩ := List.getElem_of_mem hx
  have := nums_bd r (j := i) (by have := made_nlen r; omega)
  rw [getD_int hi] at this
  omega)
 obtain ⟨hh, hhh⟩ : ∃ h, 15 + x % 130 = h := ⟨_, rfl⟩
 have hh0 : 15 ≤ hh := by omega
 have hh1 : hh ≤ 144 := by omega
 have a1 : askE P [hh] 20 = 0 := by rw [← hP]; exact made_ask r (by omega) (by omega)
 have a0 : askE P [0] 20 = 0 := by rw [← hP]; exact made_ask r (by omega) (by omega)
 have htr : Tru (lookL P 20 every) (lookS P 20 every) (leftS r) := by rw [← hP]; exact made_tru r
 have htb : truthB P 20 sw nu = true := by rw [← hP, ← hsw, ← hnu]; exact made_truth r
 have hts : truS P 20 sw nu = leftS r := by rw [← hP, ← hsw, ← hnu]; exact made_truS r true
 have hok : okPl P = true := by rw [← hP]; exact made_ok r true
 have f0 : firstE P [] [20] = 0 := first_of hok (fun h hh => (by cases hh)) (by omega) (by omega)
 have f1 : firstE P [hh] [20] = 0 := first_of hok (fun h hh' => by rw [List.mem_singleton.1 hh']; omega) (by omega) (by omega)
 have l0 : leftE P [] 20 sw nu = 0 := by unfold leftE; rw [if_pos f0, htb]; rfl
 have l1 : leftE P [hh] 20 sw nu = 0 := by unfold leftE; rw [if_pos f1, htb]; rfl
 have lv : leftV P hh 20 sw nu = (leftS r).getD (after (lookL P 20 every) hh) 0 := by unfold leftV; rw [if_pos l1, hts]
 have hal := att_left a1 f1 true
 have hab := att_bd a1 true
 rw [if_pos rfl] at hal
 have hge : 0 ≤ P.geese ∧ P.geese ≤ 60 := by
  have h := hok
  unfold okPl rng at h
  simp only [Bool.and_eq_true, decide_eq_true_eq] at h
  exact h.2
 have hsv : shutV P hh 20 = shutB P 20 hh := by unfold shutV; rw [if_pos f1]
 have hfr : 0 ≤ (firstR P 20).lo ∧ (firstR P 20).lo ≤ 100000 := by
  rw [firstR_of a0]
  have h := (minI_spec (fromsP_ne a0)).1
  exact mem_fromsL_bd (fun y hy => by have := lookL_num hok 20 every y hy; unfold Num at this; omega) h
 have HPQ := Lib.hid (show PlotQ P hh (openA P hh 20) (leftV P hh 20 sw nu) (stoodR P hh 20).hi (firstR P 20).lo P.geese from
  ⟨fun h => by rw [lv]; exact top_yes a1 htr h, fun h1 h2 => top_shut a1 h1 h2, fun h1 h2 => top_not a1 a0 (by omega) (by omega) hge.1 h1 h2⟩)
 have T0 := fun D1 d1 D2 d2 D3 d3 m1 m2 m3 N nn cn W (hp : Pa W P D1 D2 D3 m1 d1 m2 d2 m3 d3) (hn : Ints W N nn nu) (hm : nn ≤ 9223372036854775807) => checkCart_any P D1 D2 D3 m1 d1 m2 d2 m3 d3 20 N nn cn nu sw W hp H19.out hn HNI.out hm
 have T1 := fun D1 d1 D2 d2 D3 d3 m1 m2 m3 W (hp : Pa W P D1 D2 D3 m1 d1 m2 d2 m3 d3) => openP_any P D1 D2 D3 m1 d1 m2 d2 m3 d3 hh 20 W hp H19.out
 have T2 := fun D1 d1 D2 d2 D3 d3 m1 m2 m3 N nn cn W (hp : Pa W P D1 D2 D3 m1 d1 m2 d2 m3 d3) (hn : Ints W N nn nu) (hm : nn ≤ 9223372036854775807) => left_any P D1 D2 D3 m1 d1 m2 d2 m3 d3 hh 20 N nn cn nu sw W hp H19.out hn HNI.out hm
 have T3 := fun D1 d1 D2 d2 D3 d3 m1 m2 m3 W (hp : Pa W P D1 D2 D3 m1 d1 m2 d2 m3 d3) => shutP_any P D1 D2 D3 m1 d1 m2 d2 m3 d3 hh 20 W hp H19.out
 have T4 := fun D1 d1 D2 d2 D3 d3 m1 m2 m3 W (hp : Pa W P D1 D2 D3 m1 d1 m2 d2 m3 d3) => attain_any P D1 D2 D3 m1 d1 m2 d2 m3 d3 hh 20 true W hp H19.out
 have T6 := fun D1 d1 D2 d2 D3 d3 m1 m2 m3 W (hp : Pa W P D1 D2 D3 m1 d1 m2 d2 m3 d3) => first'_any P D1 D2 D3 m1 d1 m2 d2 m3 d3 20 W hp H19.out
 obtain ⟨ats, hats⟩ : ∃ l, pickC P 20 (attS P hh 20 true) = l := ⟨_, rfl⟩
 obtain ⟨as0, has0⟩ : ∃ l, (attS P hh 20 true).getD 0 0 = l := ⟨_, rfl⟩
 rw [hats, has0] at hal
 rw [hats] at hab
 have HAB := Lib.hid hab
 have T5 := fun D1 d1 D2 d2 D3 d3 m1 m2 m3 N nn cn W (hp : Pa W P D1 D2 D3 m1 d1 m2 d2 m3 d3) (hn : Ints W N nn ats) (hm : nn ≤ 9223372036854775807) => left_any P D1 D2 D3 m1 d1 m2 d2 m3 d3 hh 20 N nn cn ats as0 W hp H19.out hn HAB.out hm
 rw [l0] at T0
 rw [a1] at T1
 rw [l1] at T2
 rw [f1, hsv] at T3
 rw [a0] at T6
 rw [hal.1, hal.2] at T5
 unfold AttEnd at T4
 rw [a1, hats, has0] at T4
 obtain ⟨⟨fr0, fr1⟩, hfE⟩ : ∃ s, firstR P 20 = s := ⟨_, rfl⟩
 obtain ⟨oa, hoa⟩ : ∃ c, openA P hh 20 = c := ⟨_, rfl⟩
 obtain ⟨nv, hnv⟩ : ∃ c, leftV P hh 20 sw nu = c := ⟨_, rfl⟩
 obtain ⟨sh, hsh⟩ : ∃ c, (stoodR P hh 20).hi = c := ⟨_, rfl⟩
 obtain ⟨sb, hsb⟩ : ∃ c, shutB P 20 hh = c := ⟨_, rfl⟩
 rw [hfE] at T6 hfr HPQ
 rw [hoa] at T1 HPQ
 rw [hnv] at T2 HPQ
 rw [hsh] at T5 HPQ
 rw [hsb] at T3
 have HPY := Lib.hid HPQ.out.yes
 have HPS := Lib.hid HPQ.out.shut
 have HPN := Lib.hid HPQ.out.no
 rw [hsb] at HPY HPS HPN
 dsimp only at hfr HPN
 have H4 := Lib.hid T0
 have H5 := Lib.hid T1
 have H6 := Lib.hid T2
 have H7 := Lib.hid T3
 have H8 := Lib.hid T4
 have H9 := Lib.hid T5
 have H10 := Lib.hid T6
 have OV := Lib.hid (show oa = 0 ∨ oa = 1 ∨ oa = 2 by rw [← hoa]; exact openA_vals _ _ _)
 have HP := Lib.hid hP
 have HHH := Lib.hid hhh
 have HNU := Lib.hid hnu
 have HSW := Lib.hid hsw
 have HNL := Lib.hid (show nu.length = P.loads.length by rw [← hP, ← hnu, made_nlen]; exact (made_len r).symm)
 have HGE := Lib.hid hge
 clear T0 T1 T2 T3 T4 T5 T6 hfE hoa hnv hsh hsb a0 a1 hP hhh hnu hsw l0 l1 lv f0 f1 htr htb hts hok hal hab hats has0 HPQ hge hsv
 have HG4 := Lib.hid (madeG_ok rg)
 have HC4 := Lib.hid (madeC_ok rg)
 have TM := Lib.hid (fun n m V h0 h1 => mod_any n m V h0 h1)
 have e0 := BW1_0.out.cell 0
 go_enter Tryz.func3, Tryz.ntmps3
 go_upto_region 1 with fail
 rw [HW1.out]
 go_upto_region 2 with (go_at_call 14; (with_reducible refine (fields_any _).mono ?_); rintro e V1 ⟨rfl, hg⟩; have G1 := Lib.hid hg; clear hg)
 have e0 := (BW1_0.out.ext G1.out).cell 0
 have e1 := (BW1_0.out.ext G1.out).cell 1
 have e2 := (BW1_0.out.ext G1.out).cell 2
 have e3 := (BW1_0.out.ext G1.out).cell 3
 have e4 := (BW1_0.out.ext G1.out).cell 4
 have GA1 := Lib.hid (GW1.out.trans (G1.out.mono GW1.out.size))
 have HMD := Lib.hid (made_call r true A1 A2 A3 n1 c1 n2 c2 n3 c3 V1 (H1.out.below GA1.out) (H2.out.below GA1.out) (H3.out.below GA1.out) HN.out HR.out)
 go_upto_region 3 with (go_at_call 15; (with_reducible refine (HMD.out).mono ?_); rintro e V2 ⟨⟨D1, d1, D2, d2, D3, d3, Dn, dn, m1, m2, m3, mn, hm1, hm2, hm3, hmn, rfl, hpa, hia⟩, hg⟩; have HPA := Lib.hid hpa; have HIA := Lib.hid hia; have HMN := Lib.hid hmn; have G2 := Lib.hid (G1.out.trans (hg.mono G1.out.size)); clear hpa hia hm1 hm2 hm3 hmn hg)
 clear e0 e1 e2 e3 e4
 rw [HP.out] at HPA ⊢
 obtain ⟨W3, hW3⟩ : ∃ X, (V2.alloc (.cells (plb P D1 D2 D3 m1 d1 m2 d2 m3 d3) 38)).alloc (.cells #[.int .i64 (r.sown % 200), .slice Dn mn dn] 41) = X := ⟨_, rfl⟩
 have GW3 := Lib.hid (show Below V2.heap.size V2 W3 by rw [← hW3]; exact (one_more _ _).alloc (by simp <;> omega) _)
 have BW3_0 := Lib.hid (show Blk W3 (V2.heap.size) 38 (plb P D1 D2 D3 m1 d1 m2 d2 m3 d3) by
  rw [← hW3]
  have := Blk.new V2 38 (plb P D1 D2 D3 m1 d1 m2 d2 m3 d3)
  (try simp only [World.size_alloc] at this)
  exact (this).alloc _)
 have BW3_1 := Lib.hid (show Blk W3 (V2.heap.size + 1) 41 #[.int .i64 (r.sown % 200), .slice Dn mn dn] by
  rw [← hW3]
  have := Blk.new (V2.alloc (.cells (plb P D1 D2 D3 m1 d1 m2 d2 m3 d3) 38)) 41 #[.int .i64 (r.sown % 200), .slice Dn mn dn]
  (try simp only [World.size_alloc] at this)
  exact this)
 have HW3 := Lib.hid hW3
 clear hW3
 rw [HW3.out]
 rw [HNU.out] at HMN HIA
 rw [HSW.out] at BW3_1 ⊢
 have HM19 := Lib.hid (show mn ≤ 9223372036854775807 by rw [HMN.out, HNL.out]; have := H19.out; omega)
 have G3 := Lib.hid (G2.out.trans (GW3.out.mono G2.out.size))
 have e5 := (BW1_0.out.ext G3.out).cell 5
 have e6 := (BW1_0.out.ext G3.out).cell 6
 have e7 := (BW1_0.out.ext G3.out).cell 7
 have GA3 := Lib.hid (GW1.out.trans (G3.out.mono GW1.out.size))
 have HMG := Lib.hid (made4_any rg R1 R2 R3 k1 q1 k2 q2 k3 q3 W3 (J1.out.below GA3.out) (J2.out.below GA3.out) (J3.out.below GA3.out) JN.out)
 unfold Made4End at HMG
 go_upto_region 4 with (go_at_call 16; (with_reducible refine (HMG.out).mono ?_); rintro e V3 ⟨⟨vC, vE, vL, rfl, oC, oE, oL⟩, hg⟩; obtain ⟨B1, v1, hvC, hc1, hc2, aC, -⟩ := OwnL.arr kdCh oC; obtain ⟨B2, v2, hvE, hc3, hc4, aE, -⟩ := OwnL.arr kdCe oE; obtain ⟨B3, v3, hvL, hc5, hc6, aL, -⟩ := OwnL.arr kdCm oL; subst hvC hvE hvL; have G4 := Lib.hid hg; have HGA := Lib.hid (show Ga V3 (madeG rg) B1 B2 (madeG rg).chains.length v1 (madeG rg).cells.length v2 from ⟨⟨aC, hc1, by unfold maxLen at hc2; omega⟩, ⟨aE, hc3, by unfold maxLen at hc4; omega⟩⟩); have HLA := Lib.hid (show Sl ccells 4 V3 B3 (madeC rg).length v3 (madeC rg) from ⟨aL, hc5, by unfold maxLen at hc6; omega⟩); clear hg oC oE oL aC aE aL hc1 hc2 hc3 hc4 hc5 hc6)
 clear e5 e6 e7
 obtain ⟨gg, hgg⟩ : ∃ g, madeG rg = g := ⟨_, rfl⟩
 obtain ⟨ll, hll⟩ : ∃ l, madeC rg = l := ⟨_, rfl⟩
 rw [hgg] at HG4 HC4 HGA ⊢
 rw [hll] at HC4 HLA ⊢
 clear hgg hll
 obtain ⟨u1, hu1⟩ : ∃ n, gg.chains.length = n := ⟨_, rfl⟩
 obtain ⟨u2, hu2⟩ : ∃ n, gg.cells.length = n := ⟨_, rfl⟩
 obtain ⟨u3, hu3⟩ : ∃ n, ll.length = n := ⟨_, rfl⟩
 rw [hu1, hu2] at HGA ⊢
 rw [hu3] at HLA ⊢
 have HU2 := Lib.hid hu2
 have HU3 := Lib.hid hu3
 clear hu1 hu2 hu3
 obtain ⟨W4, hW4⟩ : ∃ X, V3.alloc (.cells #[.slice B1 u1 v1, .slice B2 u2 v2] 47) = X := ⟨_, rfl⟩
 have GW4 := Lib.hid (show Below V3.heap.size V3 W4 by rw [← hW4]; exact one_more _ _)
 have BW4_0 := Lib.hid (show Blk W4 (V3.heap.size) 47 #[.slice B1 u1 v1, .slice B2 u2 v2] by
  rw [← hW4]
  have := Blk.new V3 47 #[.slice B1 u1 v1, .slice B2 u2 v2]
  (try simp only [World.size_alloc] at this)
  exact this)
 have HW4 := Lib.hid hW4
 clear hW4
 rw [HW4.out]
 have HTM := Lib.hid (show TopM P D1 D2 D3 m1 d1 m2 d2 m3 d3 sw Dn mn dn nu V2.heap.size (V2.heap.size + 1) V3.heap.size gg B1 B2 u1 v1 u2 v2 ll B3 u3 v3 W4 from
  ⟨(BW3_0.out.ext G4.out).ext GW4.out, (BW3_1.out.ext G4.out).ext GW4.out, BW4_0.out, (HPA.out.below GW3.out |>.below G4.out).below GW4.out, ((HIA.out.below GW3.out).below G4.out).below GW4.out, HGA.out.below GW4.out, HLA.out.below GW4.out⟩)
 have G5 := Lib.hid (G3.out.trans ((G4.out.trans (GW4.out.mono G4.out.size)).mono G3.out.size))
 obtain ⟨bP, hbP⟩ : ∃ b, V2.heap.size = b := ⟨_, rfl⟩
 obtain ⟨bG, hbG⟩ : ∃ b, V3.heap.size = b := ⟨_, rfl⟩
 rw [hbP, hbG] at HTM ⊢
 clear hbP hbG
 go_upto_region 5 with (go_at_call 17; (with_reducible refine (TM.out _ _ _ (by omega) (by omega)).mono ?_); rintro e w' ⟨rfl, rfl⟩)
 rw [HHH.out]
 have p0 := HTM.out.p.cell 0
 have p1 := HTM.out.p.cell 1
 have p2 := HTM.out.p.cell 2
 have p3 := HTM.out.p.cell 3
 have p4 := HTM.out.p.cell 4
 have p5 := HTM.out.p.cell 5
 go_upto_region 6 with (go_at_call 18; (with_reducible refine (H5.out D1 d1 D2 d2 D3 d3 m1 m2 m3 _ HTM.out.pa).mono ?_); rintro e V6 ⟨rfl, hg⟩)
 clear p0 p1 p2 p3 p4 p5
 have G6 := Lib.hid (G5.out.trans (hg.mono G5.out.size))
 have HTM := Lib.hid (HTM.out.ext hg)
 clear hg
 have p0 := HTM.out.p.cell 0
 have p1 := HTM.out.p.cell 1
 have p2 := HTM.out.p.cell 2
 have p3 := HTM.out.p.cell 3
 have p4 := HTM.out.p.cell 4
 have p5 := HTM.out.p.cell 5
 have p6 := HTM.out.c.cell 0
 have p7 := HTM.out.c.cell 1
 go_upto_region 7 with (go_at_call 19; (with_reducible refine (H6.out D1 d1 D2 d2 D3 d3 m1 m2 m3 Dn mn dn _ HTM.out.pa HTM.out.nu HM19.out).mono ?_); rintro e V7 ⟨rfl, hg⟩)
 clear p0 p1 p2 p3 p4 p5 p6 p7
 have G7 := Lib.hid (G6.out.trans (hg.mono G6.out.size))
 have HTM := Lib.hid (HTM.out.ext hg)
 clear hg
 have p0 := HTM.out.p.cell 0
 have p1 := HTM.out.p.cell 1
 have p2 := HTM.out.p.cell 2
 have p3 := HTM.out.p.cell 3
 have p4 := HTM.out.p.cell 4
 have p5 := HTM.out.p.cell 5
 go_upto_region 8 with (go_at_call 20; (with_reducible refine (H7.out D1 d1 D2 d2 D3 d3 m1 m2 m3 _ HTM.out.pa).mono ?_); rintro e V8 ⟨rfl, hg⟩)
 clear p0 p1 p2 p3 p4 p5
 have G8 := Lib.hid (G7.out.trans (hg.mono G7.out.size))
 have HTM := Lib.hid (HTM.out.ext hg)
 clear hg
 have p0 := HTM.out.p.cell 0
 have p1 := HTM.out.p.cell 1
 have p2 := HTM.out.p.cell 2
 have p3 := HTM.out.p.cell 3
 have p4 := HTM.out.p.cell 4
 have p5 := HTM.out.p.cell 5
 have p6 := HTM.out.c.cell 0
 have p7 := HTM.out.c.cell 1
 go_upto_region 10 with (go_at_call 21; (with_reducible refine (H4.out D1 d1 D2 d2 D3 d3 m1 m2 m3 Dn mn dn _ HTM.out.pa HTM.out.nu HM19.out).mono ?_); rintro e V9 ⟨rfl, hg⟩)
 clear p0 p1 p2 p3 p4 p5 p6 p7
 have G9 := Lib.hid (G8.out.trans (hg.mono G8.out.size))
 have HTM := Lib.hid (HTM.out.ext hg)
 clear hg
 by_cases ho : oa = 1
 case neg =>
  have y1 : (oa != (1:Int)) = true := by simpa using ho
  go_upto_region 11 with fail
  cases sb
  case true =>
   obtain rfl := HPS.out rfl ho
   go_wp2_with fail
   go_ret
   exact ⟨rfl, GW1.out.trans (G9.out.mono GW1.out.size)⟩
  case false =>
   go_upto_region 13 with fail
   have p0 := HTM.out.p.cell 0
   have p1 := HTM.out.p.cell 1
   have p2 := HTM.out.p.cell 2
   have p3 := HTM.out.p.cell 3
   have p4 := HTM.out.p.cell 4
   have p5 := HTM.out.p.cell 5
   go_upto_region 14 with (go_at_call 22; (with_reducible refine (H8.out D1 d1 D2 d2 D3 d3 m1 m2 m3 _ HTM.out.pa).mono ?_); rintro e V10 ⟨⟨sv, v, rfl, h0, -⟩, hg⟩; obtain ⟨e0, hown⟩ := h0 (by first | rfl | trivial); rw [e0]; clear e0; obtain ⟨N0, cn0, rfl, hk, hq, hin, -⟩ := OwnL.arr kdI hown; have HI9 := Lib.hid hin; have HQ9 := Lib.hid (Nat.le_trans hk hq); clear h0 hown hin hq hk)
   clear p0 p1 p2 p3 p4 p5
   obtain ⟨W10, hW10⟩ : ∃ X, V10.alloc (.cells #[.int .i64 as0, .slice N0 ats.length cn0] 41) = X := ⟨_, rfl⟩
   have GW10 := Lib.hid (show Below V10.heap.size V10 W10 by rw [← hW10]; exact one_more _ _)
   have BW10_0 := Lib.hid (show Blk W10 (V10.heap.size) 41 #[.int .i64 as0, .slice N0 ats.length cn0] by
    rw [← hW10]
    have := Blk.new V10 41 #[.int .i64 as0, .slice N0 ats.length cn0]
    (try simp only [World.size_alloc] at this)
    exact this)
   have HW10 := Lib.hid hW10
   clear hW10
   rw [HW10.out]
   have gb := hg.trans (GW10.out.mono hg.size)
   have G10 := Lib.hid (G9.out.trans (gb.mono G9.out.size))
   have HTM := Lib.hid (HTM.out.ext gb)
   have HI9 := Lib.hid (HI9.out.below GW10.out)
   have HNL := Lib.hid (show ats.length ≤ 9223372036854775807 by have := HQ9.out; unfold maxLen at this; exact this)
   clear hg gb
   have p0 := HTM.out.p.cell 0
   have p1 := HTM.out.p.cell 1
   have p2 := HTM.out.p.cell 2
   have p3 := HTM.out.p.cell 3
   have p4 := HTM.out.p.cell 4
   have p5 := HTM.out.p.cell 5
   have p6 := BW10_0.out.cell 0
   have p7 := BW10_0.out.cell 1
   go_upto_region 15 with (go_at_call 19; (with_reducible refine (H9.out D1 d1 D2 d2 D3 d3 m1 m2 m3 N0 ats.length cn0 _ HTM.out.pa HI9.out HNL.out).mono ?_); rintro e V11 ⟨rfl, hg⟩)
   clear p0 p1 p2 p3 p4 p5 p6 p7
   have G11 := Lib.hid (G10.out.trans (hg.mono G10.out.size))
   have HTM := Lib.hid (HTM.out.ext hg)
   clear hg
   have p0 := HTM.out.p.cell 0
   have p1 := HTM.out.p.cell 1
   have p2 := HTM.out.p.cell 2
   have p3 := HTM.out.p.cell 3
   have p4 := HTM.out.p.cell 4
   have p5 := HTM.out.p.cell 5
   go_upto_region 16 with (go_at_call 23; (with_reducible refine (H10.out D1 d1 D2 d2 D3 d3 m1 m2 m3 _ HTM.out.pa).mono ?_); rintro e V12 ⟨rfl, hg⟩)
   clear p0 p1 p2 p3 p4 p5
   obtain ⟨W12, hW12⟩ : ∃ X, V12.alloc (.cells #[.int .i64 fr0, .int .i64 fr1] 33) = X := ⟨_, rfl⟩
   have GW12 := Lib.hid (show Below V12.heap.size V12 W12 by rw [← hW12]; exact one_more _ _)
   have BW12_0 := Lib.hid (show Blk W12 (V12.heap.size) 33 #[.int .i64 fr0, .int .i64 fr1] by
    rw [← hW12]
    have := Blk.new V12 33 #[.int .i64 fr0, .int .i64 fr1]
    (try simp only [World.size_alloc] at this)
    exact this)
   have HW12 := Lib.hid hW12
   clear hW12
   rw [HW12.out]
   have gb := hg.trans (GW12.out.mono hg.size)
   have G12 := Lib.hid (G11.out.trans (gb.mono G11.out.size))
   have HTM := Lib.hid (HTM.out.ext gb)
   clear hg gb
   have hpn := HPN.out (by first | rfl | trivial) ho
   have hf := hfr
   have hge := HGE.out
   obtain ⟨ge, hgq⟩ : ∃ g, P.geese = g := ⟨_, rfl⟩
   have p6 := BW12_0.out.cell 0
   have p7 := BW12_0.out.cell 1
   rw [hgq] at hpn hge
   have p5 : W12.cell? { block := bP, off := 5 } = some (.int .i64 ge) := by rw [← hgq]; exact HTM.out.p.cell 5
   clear hgq
   go_upto_region 18 with fail
   by_cases y0 : 0 < sh
   ·have y2 : decide (0 < sh) = true := decide_eq_true y0
    go_wp2_with fail
    go_ret
    exact ⟨rfl, GW1.out.trans (G12.out.mono GW1.out.size)⟩
   ·have y2 : decide (0 < sh) = false := decide_eq_false y0
    have y3 : decide (0 < ge) = true := decide_eq_true (by omega)
    have y4 : decide (fr0 + 24 * ge ≤ hh) = true := decide_eq_true (by omega)
    have y5 : IntKind.i64.wrap (24 * ge) = 24 * ge := by rw [IntKind.wrap_i64]; omega
    have y6 : IntKind.i64.wrap (fr0 + 24 * ge) = fr0 + 24 * ge := by rw [IntKind.wrap_i64]; omega
    clear hpn hf hge
    go_wp2_with fail
    go_ret
    exact ⟨rfl, GW1.out.trans (G12.out.mono GW1.out.size)⟩
 case pos =>
  subst ho
  obtain ⟨rfl, rfl⟩ := HPY.out rfl
  have HTN := Lib.hid (show TopM P D1 D2 D3 m1 d1 m2 d2 m3 d3 sw Dn mn dn nu bP (bP + 1) bG gg B1 B2 u1 v1 u2 v2 ll B3 u3 v3 V9 ∧ Arr dcells 2 V9 X0 nx xs from ⟨HTM.out, HX.out.below (GW1.out.trans (G9.out.mono GW1.out.size))⟩)
  clear HTM HPY HPS HPN H4 H5 H6 H7 H8 H9 H10 HGE hfr HNI HAB H19 HM19 HNL HPA HIA HMN HX H1 H2 H3 HN HR J1 J2 J3 JN HP HNU HSW BW1_0 BW3_0 BW3_1 BW4_0 HW1 HW3 HW4 G1 G2 G3 G4 G5 G6 G7 G8 GA1 GA3 HMD HMG GW3 GW4 HGA HLA OV
  obtain ⟨dy, hdy⟩ : ∃ d, hh.tdiv 24 = d := ⟨_, rfl⟩
  have hdy0 : 0 ≤ dy ∧ dy ≤ 4166 := by rw [← hdy, Int.tdiv_eq_ediv_of_nonneg (by omega)]; omega
  have HT24 := Lib.hid (turn_any gg B1 B2 B3 u1 v1 u2 v2 u3 v3 ll dy V9 HTN.out.1.g HG4.out HTN.out.1.l HC4.out hdy0.1 hdy0.2)
  have hw1 : IntKind.i64.wrap (hh.tdiv 24) = dy := by rw [hdy, IntKind.wrap_i64]; omega
  have p8 := HTN.out.1.q.cell 0
  have p9 := HTN.out.1.q.cell 1
  go_upto_region 22 with (go_at_call 24; (with_reducible refine (HT24.out).mono ?_); rintro e V10 ⟨⟨v, rfl, hown⟩, hg⟩; obtain ⟨B4, v4, hvL, hc5, hc6, aL, -⟩ := OwnL.arr kdCm hown; subst hvL; have HLA := Lib.hid (show Sl ccells 4 V10 B4 (turnL ll dy).length v4 (turnL ll dy) from ⟨aL, hc5, by unfold maxLen at hc6; omega⟩); clear hown aL hc5 hc6)
  clear p8 p9 hw1 hdy HT24
  have HC5 := Lib.hid (turn_ok HC4.out dy)
  have hlen : (turnL ll dy).length = u3 := by
   rw [← HU3.out]; unfold turnL; rw [List.length_append, List.length_take, List.length_drop]; omega
  rw [hlen] at HLA ⊢
  obtain ⟨tl, htl⟩ : ∃ t, turnL ll dy = t := ⟨_, rfl⟩
  rw [htl] at HLA HC5 hlen
  clear htl hdy0
  have HTP := Lib.hid (show TopN xs X0 nx bG gg B1 B2 u1 v1 u2 v2 tl B4 u3 v4 V10 from ⟨HTN.out.1.q.ext hg, HTN.out.1.g.below hg, HLA.out, HTN.out.2.below hg⟩)
  have G10 := Lib.hid (G9.out.trans (hg.mono G9.out.size))
  have HTL := Lib.hid hlen
  clear hg HTN HLA hlen HC4 G9
  obtain ⟨K, hK1, hK2⟩ := (HG4.out.valid HC5.out).ends
  go_upto_region 24 with fail
  cases K
  case zero =>
   clear hK2
   have p8 := HTP.out.q.cell 0
   have p9 := HTP.out.q.cell 1
   go_upto_region 25 with (go_at_call 25; (with_reducible refine (least_no gg B1 B2 B4 u1 v1 u2 v2 u3 v4 tl _ HTP.out.g HG4.out HTP.out.l HC5.out hK1).mono ?_); rintro e V11 ⟨⟨ga, gz, rfl⟩, hg⟩)
   clear p8 p9
   obtain ⟨W11, hW11⟩ : ∃ X, V11.alloc (.cells #[.int .i64 ga, .int .i64 gz] 66) = X := ⟨_, rfl⟩
   have GW11 := Lib.hid (show Below V11.heap.size V11 W11 by rw [← hW11]; exact one_more _ _)
   have BW11_0 := Lib.hid (show Blk W11 (V11.heap.size) 66 #[.int .i64 ga, .int .i64 gz] by
    rw [← hW11]
    have := Blk.new V11 66 #[.int .i64 ga, .int .i64 gz]
    (try simp only [World.size_alloc] at this)
    exact this)
   have HW11 := Lib.hid hW11
   clear hW11
   rw [HW11.out]
   have gb := hg.trans (GW11.out.mono hg.size)
   have G11 := Lib.hid (G10.out.trans (gb.mono G10.out.size))
   have HTP := Lib.hid (HTP.out.ext gb)
   clear hg gb
   have p8 := HTP.out.q.cell 0
   have p9 := HTP.out.q.cell 1
   go_upto_region 26 with (go_at_call 26; (with_reducible refine (share_no gg B1 B2 B4 u1 v1 u2 v2 u3 v4 tl _ HTP.out.g HG4.out HTP.out.l HC5.out hK1).mono ?_); rintro e V12 ⟨⟨vs, rfl⟩, hg⟩)
   clear p8 p9
   have G12 := Lib.hid (G11.out.trans (hg.mono G11.out.size))
   have HTP := Lib.hid (HTP.out.ext hg)
   clear hg
   go_upto_region 27 with fail
   have p8 := HTP.out.q.cell 0
   have p9 := HTP.out.q.cell 1
   go_upto_region 28 with (go_at_call 27; (with_reducible refine (crowd_yes gg B1 B2 B4 u1 v1 u2 v2 u3 v4 tl _ HTP.out.g HG4.out HTP.out.l HC5.out hK1).mono ?_); rintro e V13 ⟨⟨f, k, rfl, hf1, hf2, hf3⟩, hg⟩)
   clear p8 p9
   obtain ⟨W13, hW13⟩ : ∃ X, V13.alloc (.cells #[.int .i64 (f : Int), .int .i64 (k : Int)] 73) = X := ⟨_, rfl⟩
   have GW13 := Lib.hid (show Below V13.heap.size V13 W13 by rw [← hW13]; exact one_more _ _)
   have BW13_0 := Lib.hid (show Blk W13 (V13.heap.size) 73 #[.int .i64 (f : Int), .int .i64 (k : Int)] by
    rw [← hW13]
    have := Blk.new V13 73 #[.int .i64 (f : Int), .int .i64 (k : Int)]
    (try simp only [World.size_alloc] at this)
    exact this)
   have HW13 := Lib.hid hW13
   clear hW13
   rw [HW13.out]
   have gb := hg.trans (GW13.out.mono hg.size)
   have G13 := Lib.hid (G12.out.trans (gb.mono G12.out.size))
   have HTP := Lib.hid (HTP.out.ext gb)
   clear hg gb
   have p8 := HTP.out.q.cell 0
   have p9 := HTP.out.q.cell 1
   have p10 := BW13_0.out.cell 0
   have p11 := BW13_0.out.cell 1
   have HT28 := Lib.hid (checkCrowd_any gg B1 B2 B4 u1 v1 u2 v2 u3 v4 tl f k W13 HTP.out.g HG4.out HTP.out.l HC5.out hf1 hf2 hf3)
   clear hf1 hf2 hf3
   go_wp2_with (go_at_call 28; (with_reducible refine (HT28.out).mono ?_); rintro e V14 ⟨rfl, hg⟩; have HG14 := Lib.hid hg; clear hg)
   go_ret
   exact ⟨rfl, GW1.out.trans ((G13.out.trans (HG14.out.mono G13.out.size)).mono GW1.out.size)⟩
  case succ K =>
   obtain ⟨gn, hgn⟩ : ∃ g, lea (wsG gg) tl K = g := ⟨_, rfl⟩
   obtain ⟨ds, hds⟩ : ∃ g, (mo (wsG gg) tl K).ds = g := ⟨_, rfl⟩
   have HLM := Lib.hid ((HG4.out.valid HC5.out).lea_mem (hK2 K (Nat.lt_succ_self K)))
   have HSH := Lib.hid (mo_shr (hK2 K (Nat.lt_succ_self K)))
   have HMO := Lib.hid (fun l (h : shr tl l (-1) = true) => (HG4.out.valid HC5.out).most (hK2 K (Nat.lt_succ_self K)) hK1 h)
   have HL := Lib.hid (fun (W : World) (h : TopN xs X0 nx bG gg B1 B2 u1 v1 u2 v2 tl B4 u3 v4 W) => least_yes gg B1 B2 B4 u1 v1 u2 v2 u3 v4 tl K W h.g HG4.out h.l HC5.out hK1 hK2)
   have HS := Lib.hid (fun (W : World) (h : TopN xs X0 nx bG gg B1 B2 u1 v1 u2 v2 tl B4 u3 v4 W) => share_yes gg B1 B2 B4 u1 v1 u2 v2 u3 v4 tl K W h.g HG4.out h.l HC5.out hK1 hK2)
   have HW := Lib.hid (fun (W : World) (h : TopN xs X0 nx bG gg B1 B2 u1 v1 u2 v2 tl B4 u3 v4 W) => wall_yes gg B1 B2 B4 u1 v1 u2 v2 u3 v4 tl K W h.g HG4.out h.l HC5.out hK1 hK2)
   rw [hgn] at HLM HMO HL HW
   rw [hds] at HSH HS
   have hin : inG gn ∧ 1 ≤ gn.2 := ⟨by have := (HG4.out.valid HC5.out).inG _ HLM.out.1; exact this, HLM.out.2.1.2⟩
   have HIN := Lib.hid hin
   have HDL := Lib.hid (show ds.length = u3 by rw [(gns_len (ws := []) HSH.out).2]; exact HTL.out)
   have HU12 := Lib.hid (show 1 ≤ u3 ∧ u3 ≤ 12 by rw [← HTL.out]; exact HC5.out.n)
   clear hgn hds hin hK1 hK2 HLM
   have p8 := HTP.out.q.cell 0
   have p9 := HTP.out.q.cell 1
   go_upto_region 25 with (go_at_call 25; (with_reducible refine (HL.out _ HTP.out).mono ?_); rintro e V11 ⟨rfl, hg⟩)
   clear p8 p9
   obtain ⟨W11, hW11⟩ : ∃ X, V11.alloc (.cells #[.int .i64 gn.1, .int .i64 gn.2] 66) = X := ⟨_, rfl⟩
   have GW11 := Lib.hid (show Below V11.heap.size V11 W11 by rw [← hW11]; exact one_more _ _)
   have BW11_0 := Lib.hid (show Blk W11 (V11.heap.size) 66 #[.int .i64 gn.1, .int .i64 gn.2] by
    rw [← hW11]
    have := Blk.new V11 66 #[.int .i64 gn.1, .int .i64 gn.2]
    (try simp only [World.size_alloc] at this)
    exact this)
   have HW11 := Lib.hid hW11
   clear hW11
   rw [HW11.out]
   have gb := hg.trans (GW11.out.mono hg.size)
   have G11 := Lib.hid (G10.out.trans (gb.mono G10.out.size))
   have HTP := Lib.hid (HTP.out.ext gb)
   clear hg gb
   have p8 := HTP.out.q.cell 0
   have p9 := HTP.out.q.cell 1
   go_upto_region 26 with (go_at_call 26; (with_reducible refine (HS.out _ HTP.out).mono ?_); rintro e V12 ⟨⟨vs, rfl, hown⟩, hg⟩; obtain ⟨BD, cd, hvL, hc1, hc2, aD, -⟩ := OwnL.arr kdDr hown; subst hvL; have HDA := Lib.hid aD; clear hown aD hc1 hc2)
   clear p8 p9
   have G12 := Lib.hid (G11.out.trans (hg.mono G11.out.size))
   have HTP := Lib.hid (HTP.out.ext hg)
   have HGN := Lib.hid (BW11_0.out.ext hg)
   clear hg
   rw [HDL.out] at HDA ⊢
   go_upto_region 29 with fail
   have p8 := HTP.out.q.cell 0
   have p9 := HTP.out.q.cell 1
   go_upto_region 30 with (go_at_call 29; (with_reducible refine (HW.out _ HTP.out).mono ?_); rintro e V13 ⟨⟨vw, st, rfl, hown, hok⟩, hg⟩; obtain ⟨BS, cs, hvL, hc1, hc2, aS, -⟩ := OwnL.arr kdN hown; subst hvL; have HSA := Lib.hid aS; have HOK := Lib.hid hok; clear hown aS hc1 hc2 hok)
   clear p8 p9
   obtain ⟨W13, hW13⟩ : ∃ X, V13.alloc (.cells #[.int .i64 0, .slice BS st.length cs] 78) = X := ⟨_, rfl⟩
   have GW13 := Lib.hid (show Below V13.heap.size V13 W13 by rw [← hW13]; exact one_more _ _)
   have BW13_0 := Lib.hid (show Blk W13 (V13.heap.size) 78 #[.int .i64 0, .slice BS st.length cs] by
    rw [← hW13]
    have := Blk.new V13 78 #[.int .i64 0, .slice BS st.length cs]
    (try simp only [World.size_alloc] at this)
    exact this)
   have HW13 := Lib.hid hW13
   clear hW13
   rw [HW13.out]
   have gb := hg.trans (GW13.out.mono hg.size)
   have G13 := Lib.hid (G12.out.trans (gb.mono G12.out.size))
   have HTP := Lib.hid (HTP.out.ext gb)
   have HDA := Lib.hid (HDA.out.below gb)
   have HSA := Lib.hid (HSA.out.below GW13.out)
   have HGN := Lib.hid (HGN.out.ext gb)
   clear hg gb
   have HT30 := Lib.hid (checkWall_any gg B1 B2 B4 u1 v1 u2 v2 u3 v4 tl BS st.length cs st gn W13 HTP.out.g HG4.out HTP.out.l HC5.out HSA.out HOK.out HIN.out.1 HIN.out.2)
   have HT31 := Lib.hid (fun (W : World) (h : TopN xs X0 nx bG gg B1 B2 u1 v1 u2 v2 tl B4 u3 v4 W) (h2 : Arr dcells 2 W BD u3 ds) => checkDrifts_any gg B1 B2 B4 u1 v1 u2 v2 u3 v4 tl BD u3 cd ds W h.g HG4.out h.l HC5.out h2 (by have := HU12.out; omega))
   rw [HSH.out, show err true 46 = 0 from rfl] at HT31
   have p8 := HTP.out.q.cell 0
   have p9 := HTP.out.q.cell 1
   have p10 := BW13_0.out.cell 0
   have p11 := BW13_0.out.cell 1
   have p12 := HGN.out.cell 0
   have p13 := HGN.out.cell 1
   go_upto_region 32 with (first
    | (go_at_call 30; (with_reducible refine (HT30.out).mono ?_); rintro e V14 ⟨rfl, hg⟩; have G14 := Lib.hid hg; have HTP := Lib.hid (HTP.out.ext hg); have HDA := Lib.hid (HDA.out.below hg); have HGN := Lib.hid (HGN.out.ext hg); clear hg p8 p9 p10 p11 p12 p13; have p8 := HTP.out.q.cell 0; have p9 := HTP.out.q.cell 1)
    | (go_at_call 31; (with_reducible refine (HT31.out _ HTP.out HDA.out).mono ?_); rintro e V15 ⟨rfl, hg⟩; have GE := Lib.hid (G14.out.trans (hg.mono G14.out.size)); have HTP := Lib.hid (HTP.out.ext hg); have HDA := Lib.hid (HDA.out.below hg); have HGN := Lib.hid (HGN.out.ext hg); clear hg))
   clear p8 p9 HT30 HT31
   have G15 := Lib.hid (GW1.out.trans ((G13.out.trans (GE.out.mono G13.out.size)).mono GW1.out.size))
   clear GE G14 G13 G12 G11 G10 HSA HOK HS HL HW BW13_0 BW11_0 HW11 HW13 GW11 GW13
   have HGL := Lib.hid HG4.out.en
   go_wp2_with fail
   go_loopw [34] (fun i wr => ∃ k : Nat, k ≤ u3 ∧ i = .int .i64 k ∧ Below V15.heap.size V15 wr) (fun i _ => u3 - (intOf i).toNat)
   case atStart => exact ⟨0, Nat.zero_le _, rfl, Below.refl _ _⟩
   case round =>
    obtain ⟨k, hk, rfl, hg⟩ := hrel
    have HG := Lib.hid hg
    by_cases hkn : k < u3
    ·obtain ⟨b1, o1, e1, -, -, hc⟩ := d_at HDA.out hkn
     subst e1
     obtain ⟨c1, c2⟩ := hc _ hg
     obtain ⟨cm, hcm, hq1, hq2, hq3⟩ := shr_at HSH.out k (by rw [HDL.out]; exact hkn)
     have hcm2 := HC5.out.c cm hcm
     unfold okC at hcm2
     rw [HU2.out] at hcm2
     have hu2 := HGL.out
     rw [HU2.out] at hu2
     have d0 := cellW ((HTP.out.q.ext hg).cell 1)
     have hkb : k ≤ 12 := by have := HU12.out; omega
     by_cases hk0 : k = 0
     ·subst hk0
      obtain ⟨⟨a, b⟩, hd⟩ : ∃ x, dat ds 0 = x := ⟨_, rfl⟩
      rw [hd] at c1 c2 hq1 hq2 hq3
      rw [Nat.zero_mul, Nat.add_zero] at c1 c2
      dsimp only at c1 c2 hq1 hq2 hq3
      have x0 := cellW c1
      have x1 := cellW c2
      have y1 : decide (a < 0) = false := decide_eq_false (by omega)
      have y2 : decide ((u2 : Int) ≤ b) = false := decide_eq_false (by omega)
      clear hcm2 hd hq1 hq2 hq3 c1 c2 hc hg
      go_upto_region 35 with fail
      refine wp_region_calm wr (by kernel_rfl) (by kernel_rfl) (Below.refl _ _) ?_
      repeat (go_big_quiet_step (fail))
      refine wpQuiet_nil ?_
      rintro _ ⟨z, rfl⟩
      have GX := Lib.hid (HG.out.trans (z.ok.mono HG.out.size))
      clear x0 x1 d0
      go_wp2_with fail
      go_roundw
      case rel => exact ⟨1, by omega, by go_num, GX.out⟩
      case measure => simp [intOf]; omega
     ·obtain ⟨j, hj⟩ : ∃ j, k = j + 1 := ⟨k - 1, by omega⟩
      obtain ⟨b1', o1', e1, -, -, hc'⟩ := d_at HDA.out (show j < u3 by omega)
      cases e1
      have hup := shr_up HSH.out j (by rw [HDL.out]; omega)
      rw [← hj] at hup
      have c3 := (hc' _ hg).2
      obtain ⟨⟨a, b⟩, hd⟩ : ∃ x, dat ds k = x := ⟨_, rfl⟩
      obtain ⟨⟨a', b'⟩, hd'⟩ : ∃ x, dat ds j = x := ⟨_, rfl⟩
      rw [hd] at c1 c2 hq1 hq2 hq3 hup
      rw [hd'] at c3 hup
      dsimp only at c1 c2 c3 hq1 hq2 hq3 hup
      have x0 := cellW c1
      have x1 := cellW c2
      have x2 := cellW c3
      have y1 : decide (a < 0) = false := decide_eq_false (by omega)
      have y2 : decide ((u2 : Int) ≤ b) = false := decide_eq_false (by omega)
      have y3 : decide (a ≤ b') = false := decide_eq_false (by omega)
      have y4 : decide (0 < (k : Int)) = true := decide_eq_true (by omega)
      have y4n : decide (0 < k) = true := decide_eq_true (by omega)
      have y5 : IntKind.i64.wrap ((k : Int) - 1) = j := by rw [IntKind.wrap_i64]; have := HU12.out; omega
      have y6 : (j : Int) < (u3 : Int) := by omega
      have HJ := Lib.hid hj
      clear hj hcm2 hd hd' hq1 hq2 hq3 c1 c2 c3 hc hc' hg hup hk0
      go_upto_region 35 with fail
      refine wp_region_calm wr (by kernel_rfl) (by kernel_rfl) (Below.refl _ _) ?_
      repeat (go_big_quiet_step (fail))
      refine wpQuiet_nil ?_
      rintro _ ⟨z, rfl⟩
      have GX := Lib.hid (HG.out.trans (z.ok.mono HG.out.size))
      clear x0 x1 x2 d0
      go_wp2_with fail
      go_roundw
      case rel => exact ⟨k + 1, by omega, by go_num, GX.out⟩
      case measure => simp [intOf]; omega
    ·obtain rfl : u3 = k := by omega
     have G16 := Lib.hid (G15.out.trans (HG.out.mono G15.out.size))
     have HTP := Lib.hid (HTP.out.ext HG.out)
     have HGN := Lib.hid (HGN.out.ext HG.out)
     clear hg HG HDA G15
     rename World => V16
     have HU12 := Lib.hid HU12.out
     clear hkn hk
     go_wp2_with fail
     go_loopw [35, 36, 37] (fun v at_ i wr => ∃ (k : Nat) (a : Int) (oth : List (Int × Int)) (u : Value), u = v ∧ at_ = .int .i64 a ∧ i = .int .i64 k ∧ k ≤ u3 ∧ 0 ≤ a ∧ a ≤ 30 + 6 * k ∧ oth.length = k ∧ OwnL dcells 2 84 wr V16.heap.size v oth ∧ Below V16.heap.size V16 wr) (fun _ _ i _ => u3 - (intOf i).toNat)
     case atStart => exact ⟨0, 0, [], _, rfl, rfl, rfl, Nat.zero_le _, by omega, by omega, rfl, OwnL.nil _ _, Below.refl _ _⟩
     case round =>
      obtain ⟨k, a, oth, u, rfl, rfl, rfl, hk, ha0, ha1, hol, hown, hg⟩ := hrel
      have HG := Lib.hid hg
      have HO := Lib.hid hown
      have HOL := Lib.hid hol
      clear hown hol
      by_cases hkn : k < u3
      ·have hkb : k ≤ 12 := by have := HU12.out; omega
       obtain ⟨b0, o0, e0, -, hmem, hcc⟩ := c_at (HTP.out.l.1.below hg) hkn
       subst e0
       have hokc := HC5.out.c _ hmem
       unfold okC at hokc
       have hu2 := HGL.out
       rw [HU2.out] at hokc hu2
       obtain ⟨lo, hlo⟩ : ∃ x, (cat tl k).lo = x := ⟨_, rfl⟩
       rw [hlo] at hokc
       have hl0 : 0 ≤ lo ∧ lo ≤ 24 := by omega
       have HCC := Lib.hid (fun X (hx : Below wr.heap.size wr X) => (show X.cell? ⟨b0, o0 + k * 4 + 2, none⟩ = some (.int .i64 lo) by rw [← hlo]; exact (hcc X hx).2.2.1))
       clear hlo hmem hcc hokc hu2
       by_cases hlt : k < nx
       ·obtain ⟨bb, oo, hA, -, -, hc⟩ := d_at (HTP.out.x.below hg) hlt
        subst hA
        obtain ⟨qx, hqx⟩ : ∃ q, dat xs k = q := ⟨_, rfl⟩
        rw [hqx] at hc
        have z0 : (k : Int) < (nx : Int) := by omega
        obtain ⟨v0, v1⟩ := hc (wr.alloc (.cells #[.int .i64 0, .int .i64 0] 85)) (one_more wr _)
        obtain ⟨W6, hW6⟩ : ∃ X, wr.alloc (.cells #[.int .i64 qx.1, .int .i64 qx.2] 85) = X := ⟨_, rfl⟩
        have GW6 := Lib.hid (show Below wr.heap.size wr W6 by rw [← hW6]; exact one_more _ _)
        have BW6_0 := Lib.hid (show Blk W6 (wr.heap.size) 85 #[.int .i64 qx.1, .int .i64 qx.2] by
         rw [← hW6]
         have := Blk.new wr 85 #[.int .i64 qx.1, .int .i64 qx.2]
         (try simp only [World.size_alloc] at this)
         exact this)
        have HW6 := Lib.hid hW6
        clear hW6
        clear hc hqx hg
        go_upto_region 45 with fail
        rw [HW6.out]
        clear v0 v1 z0
        have HK := Lib.hid (fun X (hx : Below W6.heap.size W6 X) => (show X.cell? ⟨b0, o0 + k * 4 + 2, none⟩ = some (.int .i64 lo) ∧ X.cell? ⟨wr.heap.size, 0, none⟩ = some (.int .i64 qx.1) from ⟨HCC.out X (GW6.out.trans (hx.mono GW6.out.size)), (BW6_0.out.ext hx).cell 0⟩))
        obtain ⟨t0, t1⟩ := HK.out _ (Below.refl _ _)
        have hw0 : IntKind.i64.wrap (max a lo + qx.1 % 2) = max a lo + qx.1 % 2 := by rw [IntKind.wrap_i64]; omega
        go_cut [39] from 293 to 304 (fun s39 wx => ∃ b9, s39 = .pointer (some ⟨b9, 0, none⟩) ∧ Below W6.heap.size W6 wx ∧ W6.heap.size ≤ b9 ∧ Blk wx b9 84 #[.int .i64 (max a lo + qx.1 % 2), .int .i64 0])
        case first =>
         go_region_held3 (fun X => X.cell? ⟨b0, o0 + k * 4 + 2, none⟩ = some (.int .i64 lo) ∧ X.cell? ⟨wr.heap.size, 0, none⟩ = some (.int .i64 qx.1))
          (first | exact HK.out _ (by exact (Below.refl _ _).drew) | exact HK.out _ (by exact (one_more _ _).drew) | exact HK.out _ (by exact (one_more _ _)))
          ((go_at_call 17; (with_reducible refine (TM.out _ _ _ (by omega) (by omega)).mono ?_); rintro e w' ⟨rfl, rfl⟩))
         all_goals (try go_wp2_with fail)
         all_goals go_meet
         all_goals first
          | exact ⟨_, rfl, (one_more _ _).drew, Nat.le_refl _, (Blk.new _ _ _).ext ((Below.refl _ _).drew)⟩
          | exact ⟨_, rfl, one_more _ _, Nat.le_refl _, Blk.new _ _ _⟩
        case rest =>
        obtain ⟨b9, rfl, hg9, hle9, hb9⟩ := hcut
        rename World => V9
        obtain ⟨f, hf⟩ : ∃ f, max a lo + qx.1 % 2 = f := ⟨_, rfl⟩
        have hf0 : 0 ≤ f ∧ f ≤ 31 + 6 * k := by omega
        rw [hf] at hb9
        obtain ⟨q2, hq2⟩ : ∃ q, qx.2 % 3 = q := ⟨_, rfl⟩
        have hq3 : 0 ≤ q2 ∧ q2 ≤ 2 := by omega
        have TQ := Lib.hid (fun V => TM.out qx.2 3 V (by omega) (by omega))
        rw [hq2] at TQ
        have BY := Lib.hid hb9
        have HG9 := Lib.hid (GW6.out.trans (hg9.mono GW6.out.size))
        have y0 := cellW (hb9.cell 0)
        have y1 := cellW ((BW6_0.out.ext hg9).cell 1)
        have hwA : IntKind.i64.wrap (f + q2) = f + q2 := by rw [IntKind.wrap_i64]; omega
        have hle : wr.heap.size ≤ b9 := Nat.le_trans GW6.out.size hle9
        have hle1 : wr.heap.size < b9 := by have h := GW6.out.size; have h2 : W6.heap.size = wr.heap.size + 1 := by { rw [← HW6.out]; simp }; omega
        clear t0 t1 hb9 hg9 hf hq2 hw0 hle9
        go_upto_region 46 with fail
        refine wp_region_calm_tail V9 7 (by kernel_rfl) (by kernel_rfl) (Below.refl _ _) ?_
        simp only [List.take_succ_cons, List.take_zero, List.drop_succ_cons, List.drop_zero]
        repeat (go_big_quiet_step ((go_at_call 17; exact callsCalmSame (TQ.out _))))
        refine wpQuiet_nil ?_
        rintro _ ⟨z, rfl⟩
        have hgz := HG9.out.trans (z.ok.mono HG9.out.size)
        have B8 := BY.out.ext z.ok
        generalize z.val = V8 at hgz B8 ⊢
        clear y0 y1
        have f0 := B8.frozen 1
        have f1 := B8.cell 1
        obtain ⟨V7, hV7⟩ : ∃ X, V8.setCell ⟨b9, 1, none⟩ (.int .i64 (f + q2)) = X := ⟨_, rfl⟩
        have hg7 : Below wr.heap.size wr V7 := by rw [← hV7]; exact hgz.setCell (p := ⟨b9, 1, none⟩) hle _
        have B7 := Lib.hid (show Blk V7 b9 84 #[.int .i64 f, .int .i64 (f + q2)] by rw [← hV7]; exact B8.set_ 1 _)
        have G7 := Lib.hid hg7
        go_upto_region 47 with fail
        (try rw [hV7])
        clear hV7 f0 f1 B8 hgz hg7 hwA
        have r0 := B7.out.cell 0
        have r1 := B7.out.cell 1
        have GA := Lib.hid (G7.out.trans ((one_more V7 (.cells #[.int .i64 f, .int .i64 (f + q2)] 84)).mono G7.out.size))
        have OA := Lib.hid (HO.out.ext GA.out)
        have IX := Lib.hid (show Arr dcells 2 (V7.alloc (.cells #[.int .i64 f, .int .i64 (f + q2)] 84)) (some ⟨V7.heap.size, 0, none⟩) 1 [(f, f + q2)] from (Blk.new V7 84 #[.int .i64 f, .int .i64 (f + q2)]).arr1 (f := dcells) (x := (f, f + q2)))
        have BA := Lib.hid (B7.out.alloc (.cells #[.int .i64 f, .int .i64 (f + q2)] 84))
        have HLEN := Lib.hid (show oth.length + 1 ≤ 1000000 by rw [HOL.out]; omega)
        have HSZ := Lib.hid (Nat.le_trans HG.out.size GA.out.size)
        have hwB : IntKind.i64.wrap (f + q2 + 1) = f + q2 + 1 := by rw [IntKind.wrap_i64]; omega
        go_upto_region 48 with (at_builtin; go_loud (refine wpList_app kdDr (by rfl) _ _ (by rfl) V16.heap.size u oth (by rfl) OA.out _ 1 1 [(f, f + q2)] (by rfl) IX.out HLEN.out HSZ.out ?_); intro v' w' ho hbw hz; have HO9 := Lib.hid ho; have HB9 := Lib.hid ((HG.out.trans (GA.out.mono HG.out.size)).grown hbw HSZ.out (fun g e => (own_cells HO.out e).1)); have b99 := BA.out.grown hbw (fun e => by have := (own_cells HO.out e).2.1; omega); have r2 := b99.cell 1; clear ho hbw hz b99)
        clear r0 r1 OA IX BA B7 GA G7
        go_wp2_with fail
        clear r2 hwB
        go_roundw
        case rel => exact ⟨k + 1, f + q2 + 1, oth ++ [(f, f + q2)], _, rfl, rfl, by go_num, by omega, by omega, by omega, by rw [List.length_append, HOL.out]; rfl, HO9.out, HB9.out⟩
        case measure => simp [intOf]; omega
       ·obtain ⟨qx, hqx⟩ : ∃ q : Int × Int, (0, 0) = q := ⟨_, rfl⟩
        have z1 : decide ((k : Int) < (nx : Int)) = false := decide_eq_false (by omega)
        obtain ⟨W6, hW6⟩ : ∃ X, wr.alloc (.cells #[.int .i64 qx.1, .int .i64 qx.2] 85) = X := ⟨_, rfl⟩
        have GW6 := Lib.hid (show Below wr.heap.size wr W6 by rw [← hW6]; exact one_more _ _)
        have BW6_0 := Lib.hid (show Blk W6 (wr.heap.size) 85 #[.int .i64 qx.1, .int .i64 qx.2] by
         rw [← hW6]
         have := Blk.new wr 85 #[.int .i64 qx.1, .int .i64 qx.2]
         (try simp only [World.size_alloc] at this)
         exact this)
        have HW6 := Lib.hid hW6
        clear hW6
        have hzw := Lib.hid (show wr.alloc (.cells #[.int .i64 0, .int .i64 0] 85) = W6 by rw [← HW6.out, ← hqx])
        clear hqx hg
        go_upto_region 45 with fail
        rw [hzw.out]
        clear z1 hzw
        have HK := Lib.hid (fun X (hx : Below W6.heap.size W6 X) => (show X.cell? ⟨b0, o0 + k * 4 + 2, none⟩ = some (.int .i64 lo) ∧ X.cell? ⟨wr.heap.size, 0, none⟩ = some (.int .i64 qx.1) from ⟨HCC.out X (GW6.out.trans (hx.mono GW6.out.size)), (BW6_0.out.ext hx).cell 0⟩))
        obtain ⟨t0, t1⟩ := HK.out _ (Below.refl _ _)
        have hw0 : IntKind.i64.wrap (max a lo + qx.1 % 2) = max a lo + qx.1 % 2 := by rw [IntKind.wrap_i64]; omega
        go_cut [39] from 293 to 304 (fun s39 wx => ∃ b9, s39 = .pointer (some ⟨b9, 0, none⟩) ∧ Below W6.heap.size W6 wx ∧ W6.heap.size ≤ b9 ∧ Blk wx b9 84 #[.int .i64 (max a lo + qx.1 % 2), .int .i64 0])
        case first =>
         go_region_held3 (fun X => X.cell? ⟨b0, o0 + k * 4 + 2, none⟩ = some (.int .i64 lo) ∧ X.cell? ⟨wr.heap.size, 0, none⟩ = some (.int .i64 qx.1))
          (first | exact HK.out _ (by exact (Below.refl _ _).drew) | exact HK.out _ (by exact (one_more _ _).drew) | exact HK.out _ (by exact (one_more _ _)))
          ((go_at_call 17; (with_reducible refine (TM.out _ _ _ (by omega) (by omega)).mono ?_); rintro e w' ⟨rfl, rfl⟩))
         all_goals (try go_wp2_with fail)
         all_goals go_meet
         all_goals first
          | exact ⟨_, rfl, (one_more _ _).drew, Nat.le_refl _, (Blk.new _ _ _).ext ((Below.refl _ _).drew)⟩
          | exact ⟨_, rfl, one_more _ _, Nat.le_refl _, Blk.new _ _ _⟩
        case rest =>
        obtain ⟨b9, rfl, hg9, hle9, hb9⟩ := hcut
        rename World => V9
        obtain ⟨f, hf⟩ : ∃ f, max a lo + qx.1 % 2 = f := ⟨_, rfl⟩
        have hf0 : 0 ≤ f ∧ f ≤ 31 + 6 * k := by omega
        rw [hf] at hb9
        obtain ⟨q2, hq2⟩ : ∃ q, qx.2 % 3 = q := ⟨_, rfl⟩
        have hq3 : 0 ≤ q2 ∧ q2 ≤ 2 := by omega
        have TQ := Lib.hid (fun V => TM.out qx.2 3 V (by omega) (by omega))
        rw [hq2] at TQ
        have BY := Lib.hid hb9
        have HG9 := Lib.hid (GW6.out.trans (hg9.mono GW6.out.size))
        have y0 := cellW (hb9.cell 0)
        have y1 := cellW ((BW6_0.out.ext hg9).cell 1)
        have hwA : IntKind.i64.wrap (f + q2) = f + q2 := by rw [IntKind.wrap_i64]; omega
        have hle : wr.heap.size ≤ b9 := Nat.le_trans GW6.out.size hle9
        have hle1 : wr.heap.size < b9 := by have h := GW6.out.size; have h2 : W6.heap.size = wr.heap.size + 1 := by { rw [← HW6.out]; simp }; omega
        clear t0 t1 hb9 hg9 hf hq2 hw0 hle9
        go_upto_region 46 with fail
        refine wp_region_calm_tail V9 7 (by kernel_rfl) (by kernel_rfl) (Below.refl _ _) ?_
        simp only [List.take_succ_cons, List.take_zero, List.drop_succ_cons, List.drop_zero]
        repeat (go_big_quiet_step ((go_at_call 17; exact callsCalmSame (TQ.out _))))
        refine wpQuiet_nil ?_
        rintro _ ⟨z, rfl⟩
        have hgz := HG9.out.trans (z.ok.mono HG9.out.size)
        have B8 := BY.out.ext z.ok
        generalize z.val = V8 at hgz B8 ⊢
        clear y0 y1
        have f0 := B8.frozen 1
        have f1 := B8.cell 1
        obtain ⟨V7, hV7⟩ : ∃ X, V8.setCell ⟨b9, 1, none⟩ (.int .i64 (f + q2)) = X := ⟨_, rfl⟩
        have hg7 : Below wr.heap.size wr V7 := by rw [← hV7]; exact hgz.setCell (p := ⟨b9, 1, none⟩) hle _
        have B7 := Lib.hid (show Blk V7 b9 84 #[.int .i64 f, .int .i64 (f + q2)] by rw [← hV7]; exact B8.set_ 1 _)
        have G7 := Lib.hid hg7
        go_upto_region 47 with fail
        (try rw [hV7])
        clear hV7 f0 f1 B8 hgz hg7 hwA
        have r0 := B7.out.cell 0
        have r1 := B7.out.cell 1
        have GA := Lib.hid (G7.out.trans ((one_more V7 (.cells #[.int .i64 f, .int .i64 (f + q2)] 84)).mono G7.out.size))
        have OA := Lib.hid (HO.out.ext GA.out)
        have IX := Lib.hid (show Arr dcells 2 (V7.alloc (.cells #[.int .i64 f, .int .i64 (f + q2)] 84)) (some ⟨V7.heap.size, 0, none⟩) 1 [(f, f + q2)] from (Blk.new V7 84 #[.int .i64 f, .int .i64 (f + q2)]).arr1 (f := dcells) (x := (f, f + q2)))
        have BA := Lib.hid (B7.out.alloc (.cells #[.int .i64 f, .int .i64 (f + q2)] 84))
        have HLEN := Lib.hid (show oth.length + 1 ≤ 1000000 by rw [HOL.out]; omega)
        have HSZ := Lib.hid (Nat.le_trans HG.out.size GA.out.size)
        have hwB : IntKind.i64.wrap (f + q2 + 1) = f + q2 + 1 := by rw [IntKind.wrap_i64]; omega
        go_upto_region 48 with (at_builtin; go_loud (refine wpList_app kdDr (by rfl) _ _ (by rfl) V16.heap.size u oth (by rfl) OA.out _ 1 1 [(f, f + q2)] (by rfl) IX.out HLEN.out HSZ.out ?_); intro v' w' ho hbw hz; have HO9 := Lib.hid ho; have HB9 := Lib.hid ((HG.out.trans (GA.out.mono HG.out.size)).grown hbw HSZ.out (fun g e => (own_cells HO.out e).1)); have b99 := BA.out.grown hbw (fun e => by have := (own_cells HO.out e).2.1; omega); have r2 := b99.cell 1; clear ho hbw hz b99)
        clear r0 r1 OA IX BA B7 GA G7
        go_wp2_with fail
        clear r2 hwB
        go_roundw
        case rel => exact ⟨k + 1, f + q2 + 1, oth ++ [(f, f + q2)], _, rfl, rfl, by go_num, by omega, by omega, by omega, by rw [List.length_append, HOL.out]; rfl, HO9.out, HB9.out⟩
        case measure => simp [intOf]; omega
      ·obtain rfl : u3 = k := by omega
       have HTP := Lib.hid (HTP.out.ext HG.out)
       have HGN := Lib.hid (HGN.out.ext HG.out)
       have G17 := Lib.hid (G16.out.trans (HG.out.mono G16.out.size))
       obtain ⟨AO, co, hvO, -, -, aO, -⟩ := OwnL.arr kdDr HO.out
       rw [HOL.out] at aO hvO
       subst hvO
       have HT32 := Lib.hid (gainsF_any gg B1 B2 B4 u1 v1 u2 v2 u3 v4 tl AO u3 co oth wr HTP.out.g HG4.out HTP.out.l HC5.out aO (by have := HU12.out; omega))
       have p8 := HTP.out.q.cell 0
       have p9 := HTP.out.q.cell 1
       clear hg ha0 ha1 aO hkn hk HG HO HOL G16
       go_upto_region 50 with (go_at_call 32; (with_reducible refine (HT32.out).mono ?_); rintro e V18 ⟨⟨v, er, rfl, her, hown⟩, hg⟩)
       have G18 := Lib.hid (G17.out.trans (hg.mono G17.out.size))
       have HGN := Lib.hid (HGN.out.ext hg)
       clear p8 p9 hg HT32 HTP G17
       cases hsr : shr tl oth (-1)
       case false =>
        rw [hsr] at her
        obtain rfl : er = 46 := her
        clear hown hsr
        go_wp2_with fail
        go_ret
        exact ⟨rfl, G18.out⟩
       case true =>
        rw [hsr] at her
        obtain rfl : er = 0 := her
        obtain ⟨AG, cg, hvG, -, -, aG, -⟩ := OwnL.arr kdGn (hown hsr)
        subst hvG
        have HMX := Lib.hid (HMO.out oth hsr)
        have HIG := Lib.hid (fun x (hx : x ∈ gns (wsG gg) tl oth) => (⟨(HG4.out.valid HC5.out).inG x hx, ((HG4.out.valid HC5.out).gn x hx).1.2⟩ : inG x ∧ 1 ≤ x.2))
        have HGLN := Lib.hid (show (gns (wsG gg) tl oth).length = u3 by rw [(gns_len hsr).1]; exact HTL.out)
        clear hown hsr
        obtain ⟨gs, hgs⟩ : ∃ l, gns (wsG gg) tl oth = l := ⟨_, rfl⟩
        rw [hgs] at aG HMX HIG ⊢
        obtain ⟨ng, hng⟩ : ∃ n, gs.length = n := ⟨_, rfl⟩
        rw [hng] at aG ⊢
        have HAG := Lib.hid aG
        have HNG := Lib.hid hng
        have hng2 : ng ≤ 12 := by
         rw [← hng, ← hgs, HGLN.out]
         exact HU12.out.2
        clear hgs aG hng
        go_wp2_with fail
        go_loopw [42] (fun i wr => ∃ k : Nat, k ≤ ng ∧ i = .int .i64 k ∧ Below V18.heap.size V18 wr ∧ ∀ j, j < k → 0 < agn (dat gs j) gn) (fun i _ => ng - (intOf i).toNat)
        case atStart => exact ⟨0, Nat.zero_le _, rfl, Below.refl _ _, fun j hj => absurd hj (Nat.not_lt_zero _)⟩
        case round =>
         obtain ⟨k, hk, rfl, hg, hall⟩ := hrel
         have HG := Lib.hid hg
         have HALL := Lib.hid hall
         by_cases hkn : k < ng
         ·obtain ⟨b5, o5, e5, -, hmem, hc⟩ := d_at HAG.out hkn
          cases e5
          obtain ⟨c1, c2⟩ := hc _ hg
          obtain ⟨hi1, hi2⟩ := HIG.out _ hmem
          obtain ⟨x, hx⟩ : ∃ x, dat gs k = x := ⟨_, rfl⟩
          rw [hx] at c1 c2 hi1 hi2
          have HXE := Lib.hid hx
          have T := Lib.hid (fun V => compare_any x gn V hi1 HIN.out.1 hi2 HIN.out.2)
          obtain ⟨q, hq⟩ : ∃ q, agn x gn = q := ⟨_, rfl⟩
          rw [hq] at T
          have HQ := Lib.hid hq
          have x0 := cellW c1
          have x1 := cellW c2
          have m0 := cellW ((HGN.out.ext hg).cell 0)
          have m1 := cellW ((HGN.out.ext hg).cell 1)
          clear hc hmem c1 c2 hx hq hi1 hi2 hg hall
          go_upto_region 55 with fail
          refine wp_region_calm wr (by kernel_rfl) (by kernel_rfl) (Below.refl _ _) ?_
          repeat (go_big_quiet_step ((go_at_call 33; exact callsCalm (T.out _))))
          refine wpQuiet_nil ?_
          rintro _ ⟨z, rfl⟩
          have GX := Lib.hid (HG.out.trans (z.ok.mono HG.out.size))
          clear x0 x1 m0 m1
          by_cases h0 : 0 < q
          ·have y0 : decide (0 < q) = true := decide_eq_true h0
           have HNX := Lib.hid (show ∀ j, j < k + 1 → 0 < agn (dat gs j) gn from fun j hj => by
            by_cases h : j = k
            ·rw [h, HXE.out, HQ.out]; exact h0
            ·exact HALL.out j (by omega))
           go_wp2_with fail
           go_roundw
           case rel => exact ⟨k + 1, by omega, by go_num, GX.out, HNX.out⟩
           case measure => simp [intOf]; omega
          ·have y0 : decide (0 < q) = false := decide_eq_false h0
           go_wp2_with fail
           go_ret
           exact ⟨rfl, G18.out.trans (GX.out.mono G18.out.size)⟩
         ·exfalso
          obtain ⟨x, hx1, hx2⟩ := HMX.out
          obtain ⟨j, hj, rfl⟩ := List.getElem_of_mem hx1
          have h := hall j (by rw [← HNG.out] at hkn hk; omega)
          rw [dat_of (List.getElem?_eq_getElem hj)] at h
          omega
end Go.Proofs.YtkoejeghihcmlaaGreat
