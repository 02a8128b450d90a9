import Derived.Test.YtehhlgdkhecacaaGreatVA4

namespace Go.Proofs.YtehhlgdkhecacaaGreat
open Go.RowKit Go.Shelf Go.Sort
theorem blk_second (V : World) (o : Obj) (t : TypeId) (cs : Array Value) : Blk ((V.alloc o).alloc (.cells cs t)).drew (V.heap.size + 1) t cs := by
  have := Blk.new (V.alloc o) t cs
  rw [World.size_alloc] at this
  exact this
end Go.Proofs.YtehhlgdkhecacaaGreat
namespace Go.Proofs.YtehhlgdkhecacaaGreat
def ckCl (c : List Qf) (by_ : List Int) : Bool :=
  upB by_ && by_.all (fun n => decide (n ∈ srcL c)) && !isRead (ofL c by_) && (List.range by_.length).all fun i => isRead (ofL c (by_.eraseIdx i))
theorem ofL_sub (c : List Qf) (b : List Int) : (ofL c b).Sublist c := List.filter_sublist
theorem ofL_srcs {c : List Qf} {b : List Int} (hc : (srcL c).Pairwise (· < ·)) (hb : b.Pairwise (· < ·)) (h : ∀ x ∈ b, x ∈ srcL c) : srcL (ofL c b) = b := by
  refine rise_ext ?_ hb fun x => ?_
  · exact hc.sublist ((ofL_sub c b).map Qf.src)
  · unfold ofL srcL
    constructor
    · intro hx
      obtain ⟨p, hp, rfl⟩ := List.mem_map.1 hx
      exact of_decide_eq_true (List.mem_filter.1 hp).2
    · intro hx
      obtain ⟨p, hp, rfl⟩ := List.mem_map.1 (h x hx)
      exact List.mem_map.2 ⟨p, List.mem_filter.2 ⟨hp, decide_eq_true hx⟩, rfl⟩
theorem ofL_len {c : List Qf} {b : List Int} (hc : (srcL c).Pairwise (· < ·)) (hb : b.Pairwise (· < ·)) : (ofL c b).length = b.length ↔ ∀ x ∈ b, x ∈ srcL c := by
  constructor
  · intro h x hx
    have h2 : (srcL (ofL c b)).length = b.length := by unfold srcL; rw [List.length_map]; exact h
    have hu : (srcL (ofL c b)).Pairwise (· < ·) := hc.sublist ((ofL_sub c b).map Qf.src)
    have hin : ∀ y ∈ srcL (ofL c b), y ∈ b := fun y hy => by
      obtain ⟨p, hp, rfl⟩ := List.mem_map.1 hy
      exact of_decide_eq_true (List.mem_filter.1 hp).2
    have hsub : (srcL (ofL c b)).Sublist b := by
      clear h h2 hx x
      generalize srcL (ofL c b) = a at hu hin
      induction b generalizing a with
      | nil => 
        cases a with
        | nil => exact List.Sublist.refl _
        | cons y a => exact absurd (hin y (by simp)) (by simp)
      | cons y b ih =>
        obtain ⟨h1, h2⟩ := List.pairwise_cons.1 hb
        cases a with
        | nil => exact List.nil_sublist _
        | cons z a =>
          obtain ⟨h3, h4⟩ := List.pairwise_cons.1 hu
          by_cases e : z = y
          · subst e
            refine (ih h2 a h4 fun u hu2 => ?_).cons_cons z
            rcases List.mem_cons.1 (hin u (List.mem_cons_of_mem _ hu2)) with e | e
            · have := h3 u hu2; omega
            · exact e
          · have hz : z ∈ b := by
              rcases List.mem_cons.1 (hin z (by simp)) with e2 | e2
              · exact absurd e2 e
              · exact e2
            refine (ih h2 (z :: a) hu fun u hu2 => ?_).cons y
            rcases List.mem_cons.1 (hin u hu2) with e2 | e2
            · rcases List.mem_cons.1 hu2 with e3 | e3
              · exact absurd (e3.symm.trans e2) e
              · have h5 := h3 u e3
                have h6 := h1 z hz
                omega
            · exact e2
    have := hsub.eq_of_length h2
    rw [← this] at hx
    obtain ⟨p, hp, rfl⟩ := List.mem_map.1 hx
    exact List.mem_map.2 ⟨p, (ofL_sub c b).subset hp, rfl⟩
  · intro h
    have := congrArg List.length (ofL_srcs hc hb h)
    unfold srcL at this
    rwa [List.length_map] at this
end Go.Proofs.YtehhlgdkhecacaaGreat
namespace Go.Proofs.YtehhlgdkhecacaaGreat
open Go.RowKit Go.Shelf
theorem works_any (k : Int) (w : World) : Calls Tryz.prog 157 #[.int .i64 k] w fun e w' => e = .returned (.bool (decide (k = 3) || decide (k = 5))) ∧ w = w' := by
  by_cases h3 : k = 3
  · subst h3
    go_enter Tryz.func157, Tryz.ntmps157
    go_wp2
    go_ret
    exact ⟨rfl, rfl⟩
  · have e3 : (k == 3) = false := beq_eq_false_iff_ne.2 h3
    go_enter Tryz.func157, Tryz.ntmps157
    go_wp2
    go_ret
    refine ⟨?_, rfl⟩
    simp [h3]
    rfl
end Go.Proofs.YtehhlgdkhecacaaGreat
namespace Go.Proofs.YtehhlgdkhecacaaGreat
open Go.RowKit Go.Shelf
/-- The error of a reading. -/
def ckRdE (l : List Qf) (known : Int) (r : List Int) : Int := if lookE l [known] = 0 then err (isRd (cntL l known) r) 23 else lookE l [known]
set_option maxRecDepth 100000 in
set_option maxHeartbeats 8000000 in
theorem checkReading_any (A : Option Addr) (n c : Nat) (l : List Pf) (known : Int) (B : Option Addr) (m d : Nat) (rd : List Int) (w : World) (ha : Prf w A n l) (hn : n ≤ 9223372036854775807) (hb : Ints w B m rd) (hmd : m ≤ d) (hd : d ≤ 9223372036854775807) :
    Calls Tryz.prog 45 #[.slice A n c, .int .i64 known, .slice B m d] w fun e w' => e = .returned (.int .i64 (ckRdE (l.map Pf.q) known rd)) ∧ Below w.heap.size w w' := by
  obtain ⟨W1, hW1⟩ : ∃ W1, w.alloc (.cells #[.int .i64 known] 3) = W1 := ⟨_, rfl⟩
  have g1 : Below w.heap.size w W1 := by rw [← hW1]; exact one_more _ _
  have b1 : Blk W1 w.heap.size 3 #[.int .i64 known] := by rw [← hW1]; exact Blk.new _ _ _
  have T := look_any A n c l (some ⟨w.heap.size, 0, none⟩) 1 1 [known] W1 (ha.below g1) hn (one_int b1) (by decide) (by decide)
  unfold LookEnd at T
  rw [show ([known] : List Int).getD (([known] : List Int).length - 1) 0 = known from rfl] at T
  have HCE := Lib.hid (show ckRdE (l.map Pf.q) known rd = if lookE (l.map Pf.q) [known] = 0 then err (isRd (cntL (l.map Pf.q) known) rd) 23 else lookE (l.map Pf.q) [known] from rfl)
  have HN6 := Lib.hid (show lookE (l.map Pf.q) [known] = 0 → n ≤ 60 from fun h => by
    unfold lookE at h
    by_cases ho : okL (l.map Pf.q) = true
    · have := okL_len ho; rw [List.length_map, ha.len] at this; exact this
    · rw [if_neg ho] at h; exact absurd h (by decide))
  have HFL := Lib.hid (show (l.filter fun p => cnt p.q known).length ≤ n by rw [← ha.len]; exact List.length_filter_le _ _)
  have HPI := Lib.hid (fun (W : World) (g : Below w.heap.size w W) p (hp : p ∈ l.filter fun p => cnt p.q known) => (ha.p p (List.mem_filter.1 hp).1).below g)
  have HFM := Lib.hid (show (l.filter fun p => cnt p.q known).map Pf.q = cntL (l.map Pf.q) known from filt_map l (fun q => cnt q known))
  obtain ⟨ce, hce⟩ : ∃ s, ckRdE (l.map Pf.q) known rd = s := ⟨_, rfl⟩
  rw [hce] at HCE ⊢
  obtain ⟨le, hle⟩ : ∃ s, lookE (l.map Pf.q) [known] = s := ⟨_, rfl⟩
  rw [hle] at T HN6 HCE
  obtain ⟨fl, hfl⟩ : ∃ s, (l.filter fun p => cnt p.q known) = s := ⟨_, rfl⟩
  rw [hfl] at T HFL HPI HFM
  rw [← HFM.out] at HCE
  have HT := Lib.hid T
  have G1 := Lib.hid g1
  have HB := Lib.hid hb
  have HW1 := Lib.hid hW1
  clear T g1 b1 hW1 hle hfl ha hce hb HFM
  by_cases hz : le = 0
  · subst hz
    have hn60 := HN6.out rfl
    have hce := HCE.out
    rw [if_pos rfl] at hce
    have HCE2 := Lib.hid hce
    clear hce HCE
    go_enter Tryz.func45, Tryz.ntmps45
    go_upto_region 2 with (go_at_call 73; rw [HW1.out]; (with_reducible refine (HT.out).mono ?_); rintro e V ⟨⟨v, rfl, ho, -⟩, hg⟩; have HO := Lib.hid (ho rfl); have GV := Lib.hid (G1.out.trans (hg.mono G1.out.size)); clear ho hg)
    obtain ⟨A2, c2, rfl, hc1, hc2, hpr⟩ := own_prf HO.out (HPI.out V GV.out)
    obtain ⟨fn, hfn⟩ : ∃ k, fl.length = k := ⟨_, rfl⟩
    rw [hfn] at hpr HFL ⊢
    have TR := isReading_any A2 fn c2 fl B m d rd V hpr (by have := HFL.out; omega) (HB.out.below GV.out) hmd hd
    obtain ⟨rb, hrb⟩ : ∃ s, isRd (fl.map Pf.q) rd = s := ⟨_, rfl⟩
    rw [hrb] at TR HCE2
    have HTR := Lib.hid TR
    clear hfn hpr hc1 hc2 TR hrb
    cases rb
    all_goals
      go_wp2_with (go_at_call 84; (with_reducible refine (HTR.out).mono ?_); rintro e V2 ⟨rfl, hg⟩; have G2 := Lib.hid (GV.out.trans (hg.mono GV.out.size)); clear hg)
      go_ret
      rw [HCE2.out]
      exact ⟨rfl, G2.out⟩
  · have hzb : (le != 0) = true := by simpa using hz
    have hce := HCE.out
    rw [if_neg hz] at hce
    subst hce
    clear hz
    go_enter Tryz.func45, Tryz.ntmps45
    go_wp2_with (go_at_call 73; rw [HW1.out]; (with_reducible refine (HT.out).mono ?_); rintro e V ⟨⟨v, rfl, -, ho⟩, hg⟩; have GV := Lib.hid (G1.out.trans (hg.mono G1.out.size)); clear ho hg)
    go_ret
    exact ⟨rfl, GV.out⟩
end Go.Proofs.YtehhlgdkhecacaaGreat
namespace Go.Proofs.YtehhlgdkhecacaaGreat
open Go.RowKit Go.Shelf
def servK (k : Int) : Bool := decide (k = 3) || decide (k = 5)
theorem kind4 (k : Int) : ((k == 1) = true ∧ servK k = false ∧ (k == 8) = false) ∨ ((k == 1) = false ∧ servK k = true ∧ (k == 8) = false) ∨ ((k == 1) = false ∧ servK k = false ∧ (k == 8) = true) ∨ ((k == 1) = false ∧ servK k = false ∧ (k == 8) = false) := by
  by_cases h1 : k = 1
  · subst h1; exact .inl ⟨rfl, rfl, rfl⟩
  · have e1 : (k == 1) = false := beq_eq_false_iff_ne.2 h1
    by_cases h8 : k = 8
    · subst h8; exact .inr (.inr (.inl ⟨rfl, rfl, rfl⟩))
    · have e8 : (k == 8) = false := beq_eq_false_iff_ne.2 h8
      cases h : servK k
      · exact .inr (.inr (.inr ⟨e1, rfl, e8⟩))
      · exact .inr (.inl ⟨e1, rfl, e8⟩)
def oddR (a1 b1 a8 b8 wa wb lba lab t1 t2 pn ia ib : Bool) : Bool :=
  if (a1 && b1 || a1 && lba || b1 && lab) = true then true else if (wa && wb && t1 && t2) = true then true else if (a8 && wb) = true then pn && ia else if (b8 && wa) = true then pn && ib else false
theorem odds_R (x y : Qf) : oddsB x y = oddR (x.kind == 1) (y.kind == 1) (x.kind == 8) (y.kind == 8) (servK x.kind) (servK y.kind) (decide (y.day < x.day)) (decide (x.day < y.day)) (decide (x.day ≤ y.thr)) (decide (y.day ≤ x.thr)) (x.par != y.par) (rng x.day y.day y.thr) (rng y.day x.day x.thr) := by
  have e1 : ∀ k : Int, (k == 1) = decide (k = 1) := fun k => by by_cases h : k = 1 <;> simp [h]
  have e8 : ∀ k : Int, (k == 8) = decide (k = 8) := fun k => by by_cases h : k = 8 <;> simp [h]
  have hk : ∀ q : Qf, servB q = servK q.kind := fun q => rfl
  unfold oddsB ruleB birthB servicB examB
  have hx := kind4 x.kind
  have hy := kind4 y.kind
  rw [hk x, hk y]
  have hp : decide (y.par ≠ x.par) = (x.par != y.par) := by
    by_cases h : x.par = y.par
    · rw [h]; simp
    · have h2 : y.par ≠ x.par := fun e => h e.symm
      simp [h, h2]
  have hp2 : decide (x.par ≠ y.par) = (x.par != y.par) := by
    by_cases h : x.par = y.par
    · rw [h]; simp
    · simp [h]
  rw [hp, hp2]
  generalize decide (y.day < x.day) = lba
  generalize decide (x.day < y.day) = lab
  generalize decide (x.day ≤ y.thr) = t1
  generalize decide (y.day ≤ x.thr) = t2
  generalize rng x.day y.day y.thr = ia
  generalize rng y.day x.day x.thr = ib
  generalize (x.par != y.par) = pn
  simp only [e1, e8, decide_eq_true_eq, decide_eq_false_iff_not] at hx hy
  simp only [e1, e8]
  rcases hx with ⟨h1, h2, h3⟩ | ⟨h1, h2, h3⟩ | ⟨h1, h2, h3⟩ | ⟨h1, h2, h3⟩ <;> rcases hy with ⟨g1, g2, g3⟩ | ⟨g1, g2, g3⟩ | ⟨g1, g2, g3⟩ | ⟨g1, g2, g3⟩ <;> simp only [h1, h2, h3, g1, g2, g3, oddR] <;> (try rfl) <;> cases lba <;> cases lab <;> cases t1 <;> cases t2 <;> cases pn <;> cases ia <;> cases ib <;> rfl
set_option maxRecDepth 100000 in
set_option maxHeartbeats 16000000 in
theorem refOdds_any (x y : Pf) (w : World) : Calls Tryz.prog 140 #[pv x, pv y] w fun e w' => e = .returned (.bool (oddsB x.q y.q)) ∧ Below w.heap.size w w' := by
  obtain ⟨W1, hW1⟩ : ∃ X, (w.alloc (.cells #[.int .i64 x.q.src, .int .i64 x.q.kind, .slice x.A x.n x.c, .int .i64 x.q.oth, .int .i64 x.q.par, .int .i64 x.q.day, .int .i64 x.q.thr, .int .i64 x.q.kno, .int .i64 x.q.unt] 56)).alloc (.cells #[.int .i64 y.q.src, .int .i64 y.q.kind, .slice y.A y.n y.c, .int .i64 y.q.oth, .int .i64 y.q.par, .int .i64 y.q.day, .int .i64 y.q.thr, .int .i64 y.q.kno, .int .i64 y.q.unt] 56) = X := ⟨_, rfl⟩
  have G1 := Lib.hid (show Below w.heap.size w W1 by rw [← hW1]; exact two_more _ _ _)
  have BX := Lib.hid (show Blk W1 w.heap.size 56 #[.int .i64 x.q.src, .int .i64 x.q.kind, .slice x.A x.n x.c, .int .i64 x.q.oth, .int .i64 x.q.par, .int .i64 x.q.day, .int .i64 x.q.thr, .int .i64 x.q.kno, .int .i64 x.q.unt] by rw [← hW1]; exact (Blk.new _ _ _).alloc _)
  have BY := Lib.hid (show Blk W1 (w.heap.size + 1) 56 #[.int .i64 y.q.src, .int .i64 y.q.kind, .slice y.A y.n y.c, .int .i64 y.q.oth, .int .i64 y.q.par, .int .i64 y.q.day, .int .i64 y.q.thr, .int .i64 y.q.kno, .int .i64 y.q.unt] by
    rw [← hW1]
    have := Blk.new (w.alloc (.cells #[.int .i64 x.q.src, .int .i64 x.q.kind, .slice x.A x.n x.c, .int .i64 x.q.oth, .int .i64 x.q.par, .int .i64 x.q.day, .int .i64 x.q.thr, .int .i64 x.q.kno, .int .i64 x.q.unt] 56)) 56 #[.int .i64 y.q.src, .int .i64 y.q.kind, .slice y.A y.n y.c, .int .i64 y.q.oth, .int .i64 y.q.par, .int .i64 y.q.day, .int .i64 y.q.thr, .int .i64 y.q.kno, .int .i64 y.q.unt]
    rwa [World.size_alloc] at this)
  have HW1 := Lib.hid hW1
  clear hW1
  rw [odds_R]
  have hx := kind4 x.q.kind
  have hy := kind4 y.q.kind
  have TX := fun W => works_any x.q.kind W
  have TY := fun W => works_any y.q.kind W
  have TA := fun W => in_any x.q.day y.q.day y.q.thr W
  have TB := fun W => in_any y.q.day x.q.day x.q.thr W
  rw [show (decide (x.q.kind = 3) || decide (x.q.kind = 5)) = servK x.q.kind from rfl] at TX
  rw [show (decide (y.q.kind = 3) || decide (y.q.kind = 5)) = servK y.q.kind from rfl] at TY
  obtain ⟨a1, ha1⟩ : ∃ b, (x.q.kind == 1) = b := ⟨_, rfl⟩
  obtain ⟨b1, hb1⟩ : ∃ b, (y.q.kind == 1) = b := ⟨_, rfl⟩
  obtain ⟨a8, ha8⟩ : ∃ b, (x.q.kind == 8) = b := ⟨_, rfl⟩
  obtain ⟨b8, hb8⟩ : ∃ b, (y.q.kind == 8) = b := ⟨_, rfl⟩
  obtain ⟨lba, hlba⟩ : ∃ b, decide (y.q.day < x.q.day) = b := ⟨_, rfl⟩
  obtain ⟨lab, hlab⟩ : ∃ b, decide (x.q.day < y.q.day) = b := ⟨_, rfl⟩
  obtain ⟨t1, ht1⟩ : ∃ b, decide (x.q.day ≤ y.q.thr) = b := ⟨_, rfl⟩
  obtain ⟨t2, ht2⟩ : ∃ b, decide (y.q.day ≤ x.q.thr) = b := ⟨_, rfl⟩
  obtain ⟨pn, hpn⟩ : ∃ b, (x.q.par != y.q.par) = b := ⟨_, rfl⟩
  rw [ha1, hb1, ha8, hb8, hlba, hlab, ht1, ht2, hpn]
  rw [ha1, ha8] at hx
  rw [hb1, hb8] at hy
  generalize servK x.q.kind = wa at TX hx ⊢
  generalize servK y.q.kind = wb at TY hy ⊢
  generalize rng x.q.day y.q.day y.q.thr = ia at TA ⊢
  generalize rng y.q.day x.q.day x.q.thr = ib at TB ⊢
  have HX := Lib.hid TX
  have HY := Lib.hid TY
  have HA := Lib.hid TA
  have HB := Lib.hid TB
  clear TX TY TA TB
  go_enter Tryz.func140, Tryz.ntmps140
  go_upto_region 1 with fail
  rw [HW1.out]
  have d1 := BX.out.cell 1
  have f1 := BY.out.cell 1
  have d4 := BX.out.cell 4
  have f4 := BY.out.cell 4
  have d5 := BX.out.cell 5
  have f5 := BY.out.cell 5
  have d6 := BX.out.cell 6
  have f6 := BY.out.cell 6
  clear d5 f5 d6 f6
  have d5 := BX.out.cell 5
  have f5 := BY.out.cell 5
  have d6 := BX.out.cell 6
  have f6 := BY.out.cell 6
  rcases hx with ⟨rfl, rfl, rfl⟩ | ⟨rfl, rfl, rfl⟩ | ⟨rfl, rfl, rfl⟩ | ⟨rfl, rfl, rfl⟩
  · rcases hy with ⟨rfl, rfl, rfl⟩ | ⟨rfl, rfl, rfl⟩ | ⟨rfl, rfl, rfl⟩ | ⟨rfl, rfl, rfl⟩
    · go_wp2_with (first | (go_at_call 157; (with_reducible refine (HX.out _).mono ?_); rintro e w' ⟨rfl, rfl⟩) | (go_at_call 157; (with_reducible refine (HY.out _).mono ?_); rintro e w' ⟨rfl, rfl⟩) | (go_at_call 108; (with_reducible refine (HA.out _).mono ?_); rintro e w' ⟨rfl, rfl⟩) | (go_at_call 108; (with_reducible refine (HB.out _).mono ?_); rintro e w' ⟨rfl, rfl⟩))
      go_ret
      exact ⟨rfl, G1.out⟩
    · cases lba with
      | true =>
        go_wp2_with (first | (go_at_call 157; (with_reducible refine (HX.out _).mono ?_); rintro e w' ⟨rfl, rfl⟩) | (go_at_call 157; (with_reducible refine (HY.out _).mono ?_); rintro e w' ⟨rfl, rfl⟩) | (go_at_call 108; (with_reducible refine (HA.out _).mono ?_); rintro e w' ⟨rfl, rfl⟩) | (go_at_call 108; (with_reducible refine (HB.out _).mono ?_); rintro e w' ⟨rfl, rfl⟩))
        go_ret
        exact ⟨rfl, G1.out⟩
      | false =>
        go_wp2_with (first | (go_at_call 157; (with_reducible refine (HX.out _).mono ?_); rintro e w' ⟨rfl, rfl⟩) | (go_at_call 157; (with_reducible refine (HY.out _).mono ?_); rintro e w' ⟨rfl, rfl⟩) | (go_at_call 108; (with_reducible refine (HA.out _).mono ?_); rintro e w' ⟨rfl, rfl⟩) | (go_at_call 108; (with_reducible refine (HB.out _).mono ?_); rintro e w' ⟨rfl, rfl⟩))
        go_ret
        exact ⟨rfl, G1.out⟩
    · cases lba with
      | true =>
        go_wp2_with (first | (go_at_call 157; (with_reducible refine (HX.out _).mono ?_); rintro e w' ⟨rfl, rfl⟩) | (go_at_call 157; (with_reducible refine (HY.out _).mono ?_); rintro e w' ⟨rfl, rfl⟩) | (go_at_call 108; (with_reducible refine (HA.out _).mono ?_); rintro e w' ⟨rfl, rfl⟩) | (go_at_call 108; (with_reducible refine (HB.out _).mono ?_); rintro e w' ⟨rfl, rfl⟩))
        go_ret
        exact ⟨rfl, G1.out⟩
      | false =>
        go_wp2_with (first | (go_at_call 157; (with_reducible refine (HX.out _).mono ?_); rintro e w' ⟨rfl, rfl⟩) | (go_at_call 157; (with_reducible refine (HY.out _).mono ?_); rintro e w' ⟨rfl, rfl⟩) | (go_at_call 108; (with_reducible refine (HA.out _).mono ?_); rintro e w' ⟨rfl, rfl⟩) | (go_at_call 108; (with_reducible refine (HB.out _).mono ?_); rintro e w' ⟨rfl, rfl⟩))
        go_ret
        exact ⟨rfl, G1.out⟩
    · cases lba with
      | true =>
        go_wp2_with (first | (go_at_call 157; (with_reducible refine (HX.out _).mono ?_); rintro e w' ⟨rfl, rfl⟩) | (go_at_call 157; (with_reducible refine (HY.out _).mono ?_); rintro e w' ⟨rfl, rfl⟩) | (go_at_call 108; (with_reducible refine (HA.out _).mono ?_); rintro e w' ⟨rfl, rfl⟩) | (go_at_call 108; (with_reducible refine (HB.out _).mono ?_); rintro e w' ⟨rfl, rfl⟩))
        go_ret
        exact ⟨rfl, G1.out⟩
      | false =>
        go_wp2_with (first | (go_at_call 157; (with_reducible refine (HX.out _).mono ?_); rintro e w' ⟨rfl, rfl⟩) | (go_at_call 157; (with_reducible refine (HY.out _).mono ?_); rintro e w' ⟨rfl, rfl⟩) | (go_at_call 108; (with_reducible refine (HA.out _).mono ?_); rintro e w' ⟨rfl, rfl⟩) | (go_at_call 108; (with_reducible refine (HB.out _).mono ?_); rintro e w' ⟨rfl, rfl⟩))
        go_ret
        exact ⟨rfl, G1.out⟩
  · rcases hy with ⟨rfl, rfl, rfl⟩ | ⟨rfl, rfl, rfl⟩ | ⟨rfl, rfl, rfl⟩ | ⟨rfl, rfl, rfl⟩
    · cases lab with
      | true =>
        go_wp2_with (first | (go_at_call 157; (with_reducible refine (HX.out _).mono ?_); rintro e w' ⟨rfl, rfl⟩) | (go_at_call 157; (with_reducible refine (HY.out _).mono ?_); rintro e w' ⟨rfl, rfl⟩) | (go_at_call 108; (with_reducible refine (HA.out _).mono ?_); rintro e w' ⟨rfl, rfl⟩) | (go_at_call 108; (with_reducible refine (HB.out _).mono ?_); rintro e w' ⟨rfl, rfl⟩))
        go_ret
        exact ⟨rfl, G1.out⟩
      | false =>
        go_wp2_with (first | (go_at_call 157; (with_reducible refine (HX.out _).mono ?_); rintro e w' ⟨rfl, rfl⟩) | (go_at_call 157; (with_reducible refine (HY.out _).mono ?_); rintro e w' ⟨rfl, rfl⟩) | (go_at_call 108; (with_reducible refine (HA.out _).mono ?_); rintro e w' ⟨rfl, rfl⟩) | (go_at_call 108; (with_reducible refine (HB.out _).mono ?_); rintro e w' ⟨rfl, rfl⟩))
        go_ret
        exact ⟨rfl, G1.out⟩
    · cases t1 with
      | true =>
        cases t2 with
        | true =>
          go_wp2_with (first | (go_at_call 157; (with_reducible refine (HX.out _).mono ?_); rintro e w' ⟨rfl, rfl⟩) | (go_at_call 157; (with_reducible refine (HY.out _).mono ?_); rintro e w' ⟨rfl, rfl⟩) | (go_at_call 108; (with_reducible refine (HA.out _).mono ?_); rintro e w' ⟨rfl, rfl⟩) | (go_at_call 108; (with_reducible refine (HB.out _).mono ?_); rintro e w' ⟨rfl, rfl⟩))
          go_ret
          exact ⟨rfl, G1.out⟩
        | false =>
          go_wp2_with (first | (go_at_call 157; (with_reducible refine (HX.out _).mono ?_); rintro e w' ⟨rfl, rfl⟩) | (go_at_call 157; (with_reducible refine (HY.out _).mono ?_); rintro e w' ⟨rfl, rfl⟩) | (go_at_call 108; (with_reducible refine (HA.out _).mono ?_); rintro e w' ⟨rfl, rfl⟩) | (go_at_call 108; (with_reducible refine (HB.out _).mono ?_); rintro e w' ⟨rfl, rfl⟩))
          go_ret
          exact ⟨rfl, G1.out⟩
      | false =>
        go_wp2_with (first | (go_at_call 157; (with_reducible refine (HX.out _).mono ?_); rintro e w' ⟨rfl, rfl⟩) | (go_at_call 157; (with_reducible refine (HY.out _).mono ?_); rintro e w' ⟨rfl, rfl⟩) | (go_at_call 108; (with_reducible refine (HA.out _).mono ?_); rintro e w' ⟨rfl, rfl⟩) | (go_at_call 108; (with_reducible refine (HB.out _).mono ?_); rintro e w' ⟨rfl, rfl⟩))
        go_ret
        exact ⟨rfl, G1.out⟩
    · cases pn with
      | true =>
        go_wp2_with (first | (go_at_call 157; (with_reducible refine (HX.out _).mono ?_); rintro e w' ⟨rfl, rfl⟩) | (go_at_call 157; (with_reducible refine (HY.out _).mono ?_); rintro e w' ⟨rfl, rfl⟩) | (go_at_call 108; (with_reducible refine (HA.out _).mono ?_); rintro e w' ⟨rfl, rfl⟩) | (go_at_call 108; (with_reducible refine (HB.out _).mono ?_); rintro e w' ⟨rfl, rfl⟩))
        go_ret
        exact ⟨rfl, G1.out⟩
      | false =>
        go_wp2_with (first | (go_at_call 157; (with_reducible refine (HX.out _).mono ?_); rintro e w' ⟨rfl, rfl⟩) | (go_at_call 157; (with_reducible refine (HY.out _).mono ?_); rintro e w' ⟨rfl, rfl⟩) | (go_at_call 108; (with_reducible refine (HA.out _).mono ?_); rintro e w' ⟨rfl, rfl⟩) | (go_at_call 108; (with_reducible refine (HB.out _).mono ?_); rintro e w' ⟨rfl, rfl⟩))
        go_ret
        exact ⟨rfl, G1.out⟩
    · go_wp2_with (first | (go_at_call 157; (with_reducible refine (HX.out _).mono ?_); rintro e w' ⟨rfl, rfl⟩) | (go_at_call 157; (with_reducible refine (HY.out _).mono ?_); rintro e w' ⟨rfl, rfl⟩) | (go_at_call 108; (with_reducible refine (HA.out _).mono ?_); rintro e w' ⟨rfl, rfl⟩) | (go_at_call 108; (with_reducible refine (HB.out _).mono ?_); rintro e w' ⟨rfl, rfl⟩))
      go_ret
      exact ⟨rfl, G1.out⟩
  · rcases hy with ⟨rfl, rfl, rfl⟩ | ⟨rfl, rfl, rfl⟩ | ⟨rfl, rfl, rfl⟩ | ⟨rfl, rfl, rfl⟩
    · cases lab with
      | true =>
        go_wp2_with (first | (go_at_call 157; (with_reducible refine (HX.out _).mono ?_); rintro e w' ⟨rfl, rfl⟩) | (go_at_call 157; (with_reducible refine (HY.out _).mono ?_); rintro e w' ⟨rfl, rfl⟩) | (go_at_call 108; (with_reducible refine (HA.out _).mono ?_); rintro e w' ⟨rfl, rfl⟩) | (go_at_call 108; (with_reducible refine (HB.out _).mono ?_); rintro e w' ⟨rfl, rfl⟩))
        go_ret
        exact ⟨rfl, G1.out⟩
      | false =>
        go_wp2_with (first | (go_at_call 157; (with_reducible refine (HX.out _).mono ?_); rintro e w' ⟨rfl, rfl⟩) | (go_at_call 157; (with_reducible refine (HY.out _).mono ?_); rintro e w' ⟨rfl, rfl⟩) | (go_at_call 108; (with_reducible refine (HA.out _).mono ?_); rintro e w' ⟨rfl, rfl⟩) | (go_at_call 108; (with_reducible refine (HB.out _).mono ?_); rintro e w' ⟨rfl, rfl⟩))
        go_ret
        exact ⟨rfl, G1.out⟩
    · cases pn with
      | true =>
        go_wp2_with (first | (go_at_call 157; (with_reducible refine (HX.out _).mono ?_); rintro e w' ⟨rfl, rfl⟩) | (go_at_call 157; (with_reducible refine (HY.out _).mono ?_); rintro e w' ⟨rfl, rfl⟩) | (go_at_call 108; (with_reducible refine (HA.out _).mono ?_); rintro e w' ⟨rfl, rfl⟩) | (go_at_call 108; (with_reducible refine (HB.out _).mono ?_); rintro e w' ⟨rfl, rfl⟩))
        go_ret
        exact ⟨rfl, G1.out⟩
      | false =>
        go_wp2_with (first | (go_at_call 157; (with_reducible refine (HX.out _).mono ?_); rintro e w' ⟨rfl, rfl⟩) | (go_at_call 157; (with_reducible refine (HY.out _).mono ?_); rintro e w' ⟨rfl, rfl⟩) | (go_at_call 108; (with_reducible refine (HA.out _).mono ?_); rintro e w' ⟨rfl, rfl⟩) | (go_at_call 108; (with_reducible refine (HB.out _).mono ?_); rintro e w' ⟨rfl, rfl⟩))
        go_ret
        exact ⟨rfl, G1.out⟩
    · go_wp2_with (first | (go_at_call 157; (with_reducible refine (HX.out _).mono ?_); rintro e w' ⟨rfl, rfl⟩) | (go_at_call 157; (with_reducible refine (HY.out _).mono ?_); rintro e w' ⟨rfl, rfl⟩) | (go_at_call 108; (with_reducible refine (HA.out _).mono ?_); rintro e w' ⟨rfl, rfl⟩) | (go_at_call 108; (with_reducible refine (HB.out _).mono ?_); rintro e w' ⟨rfl, rfl⟩))
      go_ret
      exact ⟨rfl, G1.out⟩
    · go_wp2_with (first | (go_at_call 157; (with_reducible refine (HX.out _).mono ?_); rintro e w' ⟨rfl, rfl⟩) | (go_at_call 157; (with_reducible refine (HY.out _).mono ?_); rintro e w' ⟨rfl, rfl⟩) | (go_at_call 108; (with_reducible refine (HA.out _).mono ?_); rintro e w' ⟨rfl, rfl⟩) | (go_at_call 108; (with_reducible refine (HB.out _).mono ?_); rintro e w' ⟨rfl, rfl⟩))
      go_ret
      exact ⟨rfl, G1.out⟩
  · rcases hy with ⟨rfl, rfl, rfl⟩ | ⟨rfl, rfl, rfl⟩ | ⟨rfl, rfl, rfl⟩ | ⟨rfl, rfl, rfl⟩
    · cases lab with
      | true =>
        go_wp2_with (first | (go_at_call 157; (with_reducible refine (HX.out _).mono ?_); rintro e w' ⟨rfl, rfl⟩) | (go_at_call 157; (with_reducible refine (HY.out _).mono ?_); rintro e w' ⟨rfl, rfl⟩) | (go_at_call 108; (with_reducible refine (HA.out _).mono ?_); rintro e w' ⟨rfl, rfl⟩) | (go_at_call 108; (with_reducible refine (HB.out _).mono ?_); rintro e w' ⟨rfl, rfl⟩))
        go_ret
        exact ⟨rfl, G1.out⟩
      | false =>
        go_wp2_with (first | (go_at_call 157; (with_reducible refine (HX.out _).mono ?_); rintro e w' ⟨rfl, rfl⟩) | (go_at_call 157; (with_reducible refine (HY.out _).mono ?_); rintro e w' ⟨rfl, rfl⟩) | (go_at_call 108; (with_reducible refine (HA.out _).mono ?_); rintro e w' ⟨rfl, rfl⟩) | (go_at_call 108; (with_reducible refine (HB.out _).mono ?_); rintro e w' ⟨rfl, rfl⟩))
        go_ret
        exact ⟨rfl, G1.out⟩
    · go_wp2_with (first | (go_at_call 157; (with_reducible refine (HX.out _).mono ?_); rintro e w' ⟨rfl, rfl⟩) | (go_at_call 157; (with_reducible refine (HY.out _).mono ?_); rintro e w' ⟨rfl, rfl⟩) | (go_at_call 108; (with_reducible refine (HA.out _).mono ?_); rintro e w' ⟨rfl, rfl⟩) | (go_at_call 108; (with_reducible refine (HB.out _).mono ?_); rintro e w' ⟨rfl, rfl⟩))
      go_ret
      exact ⟨rfl, G1.out⟩
    · go_wp2_with (first | (go_at_call 157; (with_reducible refine (HX.out _).mono ?_); rintro e w' ⟨rfl, rfl⟩) | (go_at_call 157; (with_reducible refine (HY.out _).mono ?_); rintro e w' ⟨rfl, rfl⟩) | (go_at_call 108; (with_reducible refine (HA.out _).mono ?_); rintro e w' ⟨rfl, rfl⟩) | (go_at_call 108; (with_reducible refine (HB.out _).mono ?_); rintro e w' ⟨rfl, rfl⟩))
      go_ret
      exact ⟨rfl, G1.out⟩
    · go_wp2_with (first | (go_at_call 157; (with_reducible refine (HX.out _).mono ?_); rintro e w' ⟨rfl, rfl⟩) | (go_at_call 157; (with_reducible refine (HY.out _).mono ?_); rintro e w' ⟨rfl, rfl⟩) | (go_at_call 108; (with_reducible refine (HA.out _).mono ?_); rintro e w' ⟨rfl, rfl⟩) | (go_at_call 108; (with_reducible refine (HB.out _).mono ?_); rintro e w' ⟨rfl, rfl⟩))
      go_ret
      exact ⟨rfl, G1.out⟩
end Go.Proofs.YtehhlgdkhecacaaGreat
namespace Go.Proofs.YtehhlgdkhecacaaGreat
open Go.RowKit Go.Shelf
set_option maxRecDepth 100000 in
set_option maxHeartbeats 8000000 in
theorem refFits_any (A : Option Addr) (n c : Nat) (l : List Pf) (B : Option Addr) (m d : Nat) (rd : List Int) (person : Int) (w : World) (ha : Prf w A n l) (hn : n ≤ 1000) (hb : Ints w B m rd) (hmn : m < n) :
    Calls Tryz.prog 101 #[.slice A n c, .slice B m d, .int .i64 person] w fun e w' => e = .returned (.bool (fitB (l.map Pf.q) rd person)) ∧ Below w.heap.size w w' := by
  have HA := Lib.hid ha
  have HB := Lib.hid hb
  have hrl := hb.1
  have HRL := Lib.hid hrl
  have HLM := Lib.hid (show l.length = n from ha.len)
  have hkn := hmn
  obtain ⟨b, o, rfl, -, hyi, hym, hyc⟩ := (HA.out.below (Below.refl _ _)).at hkn
  obtain ⟨y, hy⟩ : ∃ y, l.getD m p0 = y := ⟨_, rfl⟩
  rw [hy] at hyi hym hyc
  obtain ⟨e0, e1, e2, e3, e4, e5, e6, e7, e8⟩ := hyc _ (Below.refl _ _)
  have HyE := Lib.hid hy
  have HyI := Lib.hid hyi
  have HyM := Lib.hid hym
  clear hy hyi hym hyc
  obtain ⟨W2, hW2⟩ : ∃ X, w.alloc (.cells #[.int .i64 y.q.src, .int .i64 y.q.kind, .slice y.A y.n y.c, .int .i64 y.q.oth, .int .i64 y.q.par, .int .i64 y.q.day, .int .i64 y.q.thr, .int .i64 y.q.kno, .int .i64 y.q.unt] 56) = X := ⟨_, rfl⟩
  have GW2 := Lib.hid (show Below w.heap.size w W2 by rw [← hW2]; exact one_more _ _)
  have BW2 := Lib.hid (show Blk W2 w.heap.size 56 #[.int .i64 y.q.src, .int .i64 y.q.kind, .slice y.A y.n y.c, .int .i64 y.q.oth, .int .i64 y.q.par, .int .i64 y.q.day, .int .i64 y.q.thr, .int .i64 y.q.kno, .int .i64 y.q.unt] by rw [← hW2]; exact Blk.new _ _ _)
  have HW2 := Lib.hid hW2
  clear hW2
  have HYQ := Lib.hid (show (l.map Pf.q).getD rd.length q0 = y.q by rw [HRL.out, map_pf (by rw [HLM.out]; exact hmn), HyE.out])
  obtain ⟨fb, hfb⟩ : ∃ s, fitB (l.map Pf.q) rd person = s := ⟨_, rfl⟩
  rw [hfb]
  have HFB := Lib.hid hfb
  have hmi : (m : Int) < (n : Int) := by omega
  clear hfb ha hb hrl
  go_enter Tryz.func101, Tryz.ntmps101
  go_upto_region 2 with fail
  rw [HW2.out]
  clear e0 e1 e2 e3 e4 e5 e6 e7 e8
  have d0 := BW2.out.cell 0
  have d1 := BW2.out.cell 1
  have d2 := BW2.out.cell 2
  have d3 := BW2.out.cell 3
  have d4 := BW2.out.cell 4
  have d5 := BW2.out.cell 5
  have d6 := BW2.out.cell 6
  have d7 := BW2.out.cell 7
  have d8 := BW2.out.cell 8
  have hcase : (y.q.kind = 2 ∧ y.q.oth = person) ∨ ¬ (y.q.kind = 2 ∧ y.q.oth = person) := Classical.em _
  rcases hcase with ⟨h1, h2⟩ | hno
  · have e1 : (y.q.kind == 2) = true := by simpa using h1
    have e2 : (y.q.oth == person) = true := by simpa using h2
    have hf : fb = false := HFB.out.symm.trans (fit_no1 (by rw [HYQ.out]; exact h1) (by rw [HYQ.out]; exact h2))
    subst hf
    clear h1 h2
    go_wp2_with fail
    go_ret
    exact ⟨rfl, GW2.out⟩
  · have HNO := Lib.hid hno
    go_cut [6, 22] from 14 to 22 (fun s t wx => s = .bool false ∧ t = .bool false ∧ W2 = wx)
    case first =>
      by_cases h1 : y.q.kind = 2
      · have e1 : (y.q.kind == 2) = true := by simpa using h1
        have e2 : (y.q.oth == person) = false := by simpa using fun e => HNO.out ⟨h1, e⟩
        clear h1 hno
        go_wp2_with fail
        go_meet
        exact ⟨rfl, rfl, rfl⟩
      · have e1 : (y.q.kind == 2) = false := by simpa using h1
        clear h1 hno
        go_wp2_with fail
        go_meet
        exact ⟨rfl, rfl, rfl⟩
    case rest =>
    obtain ⟨rfl, rfl, rfl⟩ := hcut
    rename_i hK9
    refine hK9 _ _ ?_
    clear hK9 hno
    have HZ := Lib.hid (Below.refl W2.heap.size W2)
    clear d0 d1 d2 d3 d4 d5 d6 d7 d8
    go_wp2_with fail
    go_loopw [8] (fun i wr => ∃ k : Nat, k ≤ m ∧ i = .int .i64 k ∧ Below W2.heap.size W2 wr ∧ ∀ j, j < k → ¬ (rd.getD j 0 = person ∧ oddsB ((l.map Pf.q).getD j q0) y.q = true)) (fun i _ => m - (intOf i).toNat)
    case atStart => exact ⟨0, Nat.zero_le _, rfl, HZ.out, fun j hj => absurd hj (by omega)⟩
    case round =>
      obtain ⟨k, hk, rfl, hg, hall⟩ := hrel
      have HG := Lib.hid hg
      have HALL := Lib.hid hall
      have HGW := Lib.hid (GW2.out.trans (hg.mono GW2.out.size))
      clear hall
      by_cases hkm : k < m
      · have hkn : k < n := by omega
        obtain ⟨b2, o2, rfl, -, -, hc2⟩ := ints_at (HB.out.below HGW.out) hkm
        have r0 := hc2 wr (Below.refl _ _)
        obtain ⟨x, hx⟩ : ∃ x, rd.getD k 0 = x := ⟨_, rfl⟩
        rw [hx] at r0
        have HX := Lib.hid hx
        have HPK := Lib.hid (map_pf (l := l) (k := k) (by rw [HLM.out]; exact hkn))
        obtain ⟨b3, o3, e3, -, hzi, hzm, hzc⟩ := (HA.out.below HGW.out).at hkn
        cases e3
        obtain ⟨z, hz⟩ : ∃ z, l.getD k p0 = z := ⟨_, rfl⟩
        rw [hz] at hzc HPK
        obtain ⟨e0, e1, e2, e3, e4, e5, e6, e7, e8⟩ := hzc _ (Below.refl _ _)
        clear hzi hzm hzc hz hx hc2
        have hwr2 : wrap64 ((k : Int) + 1) = (k : Int) + 1 := wrap_in (by omega)
        have hki : (k : Int) < (n : Int) := by omega
        have BYR := Lib.hid (BW2.out.ext hg)
        have TO := fun (X : Wd wr) => refOdds_any z y X.val
        obtain ⟨ob, hob⟩ : ∃ s, oddsB z.q y.q = s := ⟨_, rfl⟩
        rw [hob] at TO
        have HOB := Lib.hid hob
        have HTO := Lib.hid TO
        clear TO hob hg
        go_upto_region 7 with fail
        replace r0 := cellW r0
        replace e0 := cellW e0
        replace e1 := cellW e1
        replace e2 := cellW e2
        replace e3 := cellW e3
        replace e4 := cellW e4
        replace e5 := cellW e5
        replace e6 := cellW e6
        replace e7 := cellW e7
        replace e8 := cellW e8
        have d0 := cellW (BYR.out.cell 0)
        have d1 := cellW (BYR.out.cell 1)
        have d2 := cellW (BYR.out.cell 2)
        have d3 := cellW (BYR.out.cell 3)
        have d4 := cellW (BYR.out.cell 4)
        have d5 := cellW (BYR.out.cell 5)
        have d6 := cellW (BYR.out.cell 6)
        have d7 := cellW (BYR.out.cell 7)
        have d8 := cellW (BYR.out.cell 8)
        by_cases hxp : x = person
        · have hxb : (x == person) = true := by simpa using hxp
          have HXP := Lib.hid hxp
          clear hxp
          refine wp_region_calm wr (by kernel_rfl) (by kernel_rfl) (Below.refl _ _) ?_
          repeat (go_big_quiet_step ((go_at_call 140; exact callsCalm (HTO.out _))))
          refine wpQuiet_nil ?_
          rintro _ ⟨zz, rfl⟩
          have GZ := Lib.hid (HG.out.trans (zz.ok.mono HG.out.size))
          cases ob with
          | true =>
            have hf : fb = false := HFB.out.symm.trans (fit_no2 (j := k) (by rw [HRL.out]; exact hkm) (HX.out.trans HXP.out) (by rw [HYQ.out, HPK.out]; exact HOB.out))
            subst hf
            go_wp2_with fail
            go_ret
            exact ⟨rfl, GW2.out.trans (GZ.out.mono GW2.out.size)⟩
          | false =>
            go_wp2_with fail
            go_roundw
            case rel => exact ⟨k + 1, by omega, by go_num, GZ.out, fun j hj => by
              by_cases e : j = k
              · subst e; rintro ⟨-, h2⟩; rw [HPK.out, HOB.out] at h2; exact absurd h2 (by decide)
              · exact HALL.out j (by omega)⟩
            case measure => simp [intOf]; omega
        · have hxb : (x == person) = false := by simpa using hxp
          have HXP := Lib.hid hxp
          clear hxp
          refine wp_region_calm wr (by kernel_rfl) (by kernel_rfl) (Below.refl _ _) ?_
          repeat (go_big_quiet_step ((go_at_call 140; exact callsCalm (HTO.out _))))
          refine wpQuiet_nil ?_
          rintro _ ⟨zz, rfl⟩
          have GZ := Lib.hid (HG.out.trans (zz.ok.mono HG.out.size))
          go_wp2_with fail
          go_roundw
          case rel => exact ⟨k + 1, by omega, by go_num, GZ.out, fun j hj => by
            by_cases e : j = k
            · subst e; rintro ⟨h1, -⟩; exact HXP.out (HX.out.symm.trans h1)
            · exact HALL.out j (by omega)⟩
          case measure => simp [intOf]; omega
      · obtain rfl : k = m := by omega
        have hf : fb = true := HFB.out.symm.trans (fit_yes (by rw [HYQ.out]; exact HNO.out) (fun j hj => by rw [HYQ.out]; exact HALL.out j (by rw [← HRL.out]; exact hj)))
        subst hf
        clear hg
        go_wp2_with fail
        go_ret
        exact ⟨rfl, HGW.out⟩
end Go.Proofs.YtehhlgdkhecacaaGreat
namespace Go.Proofs.YtehhlgdkhecacaaGreat
open Go.RowKit Go.Shelf
theorem ofReadW_any (A : Option Addr) (n : Nat) (l : List Pf) (b : List Int) (w : World) (h : Cn w A n l) (V : World) (v : Value) (g : Below w.heap.size w V) (ho : OwnL pcells 9 56 V w.heap.size v (l.filter fun p => hasI b p.q.src)) :
    ∃ A2 n2 c2, v = .slice A2 n2 c2 ∧ n2 = (ofL (l.map Pf.q) b).length ∧ ∀ W, Below V.heap.size V W → Calls Tryz.prog 109 #[.slice A2 n2 c2] W fun e w' => e = .returned (.bool (isRead (ofL (l.map Pf.q) b))) ∧ Below W.heap.size W w' := by
  obtain ⟨A2, c2, rfl, -, -, hp⟩ := own_prf ho (fun p hp => (h.prf.p p (List.mem_filter.1 hp).1).below g)
  have hl := List.length_filter_le (fun p : Pf => hasI b p.q.src) l
  rw [h.prf.len] at hl
  have T := fun W (g2 : Below V.heap.size V W) => isRead_any A2 _ c2 _ W (hp.below g2) (by have := h.n; omega)
  rw [of_map] at T
  exact ⟨A2, _, c2, rfl, by rw [← of_map, List.length_map], T⟩
/-- The error of CheckClash. -/
def ckClE (l : List Qf) (known : Int) (b : List Int) : Int := if lookE l [known] = 0 then err (ckCl (cntL l known) b) 25 else lookE l [known]
theorem ckCl_no1 {c : List Qf} {b : List Int} (h : upB b = false) : ckCl c b = false := by unfold ckCl; rw [h]; simp
theorem ckCl_no2 {c : List Qf} {b : List Int} (hc : (srcL c).Pairwise (· < ·)) (h : upB b = true) (hl : (ofL c b).length ≠ b.length) : ckCl c b = false := by
  rw [Bool.eq_false_iff]
  intro e
  unfold ckCl at e
  simp only [Bool.and_eq_true] at e
  refine hl ((ofL_len hc (upB_iff.1 h)).2 fun x hx => ?_)
  exact of_decide_eq_true (List.all_eq_true.1 e.1.1.2 x hx)
theorem ckCl_no3 {c : List Qf} {b : List Int} (h : isRead (ofL c b) = true) : ckCl c b = false := by unfold ckCl; rw [h]; simp
theorem ckCl_no4 {c : List Qf} {b : List Int} {i : Nat} (hi : i < b.length) (h : isRead (ofL c (b.eraseIdx i)) = false) : ckCl c b = false := by
  rw [Bool.eq_false_iff]
  intro e
  unfold ckCl at e
  simp only [Bool.and_eq_true] at e
  have := List.all_eq_true.1 e.2 i (List.mem_range.2 hi)
  rw [h] at this
  exact absurd this (by decide)
theorem ckCl_yes {c : List Qf} {b : List Int} (hc : (srcL c).Pairwise (· < ·)) (h : upB b = true) (hl : (ofL c b).length = b.length) (h3 : isRead (ofL c b) = false) (h4 : ∀ i, i < b.length → isRead (ofL c (b.eraseIdx i)) = true) : ckCl c b = true := by
  unfold ckCl
  simp only [Bool.and_eq_true, Bool.not_eq_true']
  refine ⟨⟨⟨h, List.all_eq_true.2 fun x hx => decide_eq_true ((ofL_len hc (upB_iff.1 h)).1 hl x hx)⟩, h3⟩, List.all_eq_true.2 fun i hi => h4 i (List.mem_range.1 hi)⟩
set_option maxRecDepth 100000 in
set_option maxHeartbeats 8000000 in
theorem checkClash_any (A : Option Addr) (n c : Nat) (l : List Pf) (known : Int) (B : Option Addr) (m d0 : Nat) (b : List Int) (w : World) (ha : Prf w A n l) (hn : n ≤ 9223372036854775807) (hb : Ints w B m b) (hm : m ≤ 9223372036854775807) :
    Calls Tryz.prog 54 #[.slice A n c, .int .i64 known, .slice B m d0] w fun e w' => e = .returned (.int .i64 (ckClE (l.map Pf.q) known b)) ∧ Below w.heap.size w w' := by
  have T := look_one A n c l known w ha hn
  have HCE := Lib.hid (show ckClE (l.map Pf.q) known b = if lookE (l.map Pf.q) [known] = 0 then err (ckCl (cntL (l.map Pf.q) known) b) 25 else lookE (l.map Pf.q) [known] from rfl)
  have HCN := Lib.hid (fun (V : World) (D : Option Addr) (k : Nat) (fl : List Pf) (h : okL (l.map Pf.q) = true) (hs : fl.Sublist l) (hq : fl.map Pf.q = cntL (l.map Pf.q) known) (hp : Prf V D k fl) (h60 : k ≤ 60) =>
    (⟨⟨hp, h60, fun p hp => okL_all h _ (List.mem_map.2 ⟨p, hs.subset hp, rfl⟩), (((hs.map Pf.q).map Qf.src).nodup ((okL_src h).imp fun hlt => by omega)), by rw [hq]; exact reads_len h known⟩, ((okL_src h).sublist ((hs.map Pf.q).map Qf.src))⟩ : Cn V D k fl ∧ (srcL (fl.map Pf.q)).Pairwise (· < ·)))
  have HBI := Lib.hid (fun (W : World) (g : Below w.heap.size w W) => hb.below g)
  have HBL := Lib.hid (show b.length = m from hb.1)
  obtain ⟨ce, hce⟩ : ∃ s, ckClE (l.map Pf.q) known b = s := ⟨_, rfl⟩
  rw [hce] at HCE ⊢
  obtain ⟨le, hle⟩ : ∃ s, lookE (l.map Pf.q) [known] = s := ⟨_, rfl⟩
  rw [hle] at T HCE
  obtain ⟨cq, hcq⟩ : ∃ s, cntL (l.map Pf.q) known = s := ⟨_, rfl⟩
  rw [hcq] at T HCE HCN
  have HT := Lib.hid T
  clear T ha hb hce hle hcq
  by_cases hz : le = 0
  · subst hz
    go_enter Tryz.func54, Tryz.ntmps54
    go_upto_region 4 with (go_at_call 73; (with_reducible refine (HT.out).mono ?_); rintro e V ⟨v, rfl, hg, h1, -⟩; obtain ⟨D, k, d, fl, rfl, hfq, hp, h60, -, -, hsub, hok⟩ := h1 (by trivial); have GV := Lib.hid hg; have CN := Lib.hid (HCN.out V D k fl hok hsub hfq hp h60); have HFQ := Lib.hid hfq; clear hg h1 hfq hp h60 hsub hok)
    have HSU := Lib.hid (show (srcL cq).Pairwise (· < ·) by rw [← HFQ.out]; exact CN.out.2)
    have HCE2 := Lib.hid (show ce = err (ckCl cq b) 25 by have := HCE.out; rwa [if_pos (by trivial)] at this)
    have TOF := Lib.hid (of_any D k d fl B m d0 b V CN.out.1.prf (by have := CN.out.1.n; omega) (HBI.out V GV.out) hm)
    go_upto_region 5 with (go_at_call 111; (with_reducible refine (TOF.out).mono ?_); rintro e V2 ⟨⟨v2, rfl, ho⟩, hg⟩; obtain ⟨A2, n2, c2, hv2, hn2, T8⟩ := ofReadW_any D k fl b V CN.out.1 V2 v2 hg ho; subst hv2; rw [HFQ.out] at T8 hn2; have HT8 := Lib.hid T8; have HN2 := Lib.hid hn2; have GV2 := Lib.hid (GV.out.trans (hg.mono GV.out.size)); have G12 := Lib.hid hg; clear ho hg T8 hn2)
    have TR := risesI_any B m d0 b V2 (HBI.out V2 GV2.out) hm
    obtain ⟨ub, hub⟩ : ∃ s, upB b = s := ⟨_, rfl⟩
    rw [hub] at TR
    have HTR := Lib.hid TR
    have HUB := Lib.hid hub
    clear TR hub
    cases ub with
    | false =>
      have e : ce = 25 := by rw [HCE2.out, ckCl_no1 HUB.out]; rfl
      subst e
      go_wp2_with (go_at_call 112; (with_reducible refine (HTR.out).mono ?_); rintro e V3 ⟨rfl, hg⟩; have GV3 := Lib.hid (GV2.out.trans (hg.mono GV2.out.size)); clear hg)
      go_ret
      exact ⟨rfl, GV3.out⟩
    | true =>
      by_cases hlen : n2 = m
      · have hl2 : ((n2 : Int) != (m : Int)) = false := by simp [hlen]
        have HL := Lib.hid (show (ofL cq b).length = b.length by rw [← HN2.out, HBL.out]; exact hlen)
        have TI := HT8.out
        obtain ⟨rb, hrb⟩ : ∃ s, isRead (ofL cq b) = s := ⟨_, rfl⟩
        rw [hrb] at TI
        have HTI := Lib.hid TI
        have HRB := Lib.hid hrb
        have hm60 : m ≤ 60 := by
          rw [← hlen, HN2.out]
          have h1 := (ofL_sub cq b).length_le
          have h2 : cq.length = k := by rw [← HFQ.out, List.length_map, CN.out.1.prf.len]
          have := CN.out.1.n
          omega
        clear TI hrb hlen
        cases rb with
        | true =>
          have e : ce = 25 := by rw [HCE2.out, ckCl_no3 HRB.out]; rfl
          subst e
          go_wp2_with (first
            | (go_at_call 112; (with_reducible refine (HTR.out).mono ?_); rintro e V3 ⟨rfl, hg⟩; have G23 := Lib.hid hg; have GV3 := Lib.hid (GV2.out.trans (hg.mono GV2.out.size)); clear hg)
            | (go_at_call 109; (with_reducible refine (HTI.out _ G23.out).mono ?_); rintro e V4 ⟨rfl, hg⟩; have GV4 := Lib.hid (GV3.out.trans (hg.mono GV3.out.size)); clear hg))
          go_ret
          exact ⟨rfl, GV4.out⟩
        | false =>
          go_upto_region 8 with (first
            | (go_at_call 112; (with_reducible refine (HTR.out).mono ?_); rintro e V3 ⟨rfl, hg⟩; have G23 := Lib.hid hg; have GV3 := Lib.hid (GV2.out.trans (hg.mono GV2.out.size)); clear hg)
            | (go_at_call 109; (with_reducible refine (HTI.out _ G23.out).mono ?_); rintro e V4 ⟨rfl, hg⟩; have GV4 := Lib.hid (GV3.out.trans (hg.mono GV3.out.size)); have G14 := Lib.hid (G12.out.trans ((G23.out.trans (hg.mono G23.out.size)).mono G12.out.size)); clear hg))
          go_loopw [40] (fun i wr => ∃ j : Nat, j ≤ m ∧ i = .int .i64 j ∧ Below V.heap.size V wr ∧ ∀ t, t < j → isRead (ofL cq (b.eraseIdx t)) = true) (fun i _ => m - (intOf i).toNat)
          case atStart => exact ⟨0, Nat.zero_le _, rfl, G14.out, fun t ht => absurd ht (by omega)⟩
          case round =>
            obtain ⟨j, hj, rfl, hg, hall⟩ := hrel
            have HG := Lib.hid hg
            have HALL := Lib.hid hall
            clear hg hall
            by_cases hjm : j < m
            · obtain ⟨rb, hrb⟩ : ∃ s, isRead (ofL cq (b.eraseIdx j)) = s := ⟨_, rfl⟩
              have HRB2 := Lib.hid hrb
              have HEL := Lib.hid (show (b.eraseIdx j).length = m - 1 by rw [List.length_eraseIdx_of_lt (by rw [HBL.out]; exact hjm), HBL.out])
              have TC := Lib.hid (cloneI_any B m d0 b wr (HBI.out wr (GV.out.trans (HG.out.mono GV.out.size))) (by omega))
              have hw1 : wrap64 ((j : Int) + 1) = (j : Int) + 1 := wrap_in (by omega)
              have hji : (j : Int) < (m : Int) := by omega
              clear hrb
              cases rb with
              | false =>
                have e : ce = 25 := by rw [HCE2.out, ckCl_no4 (by rw [HBL.out]; exact hjm) HRB2.out]; rfl
                subst e
                go_wp2_with (first
                  | (go_at_call 95; (with_reducible refine (TC.out).mono ?_); rintro e W5 ⟨⟨v5, rfl, ho5⟩, hg5⟩; obtain ⟨g5, c5, hv5, hb5⟩ := own_head ho5 (by rw [HBL.out]; omega); rw [HBL.out] at hv5; subst hv5; have HO5 := Lib.hid ho5; have HG5 := Lib.hid hg5; have HB5 := Lib.hid hb5; have TD := Lib.hid (delInt_any wr.heap.size g5 m c5 j b W5 ho5 (by omega) (by omega)); clear ho5 hg5 hb5)
                  | (go_at_call 110; (with_reducible refine (TD.out).mono ?_); rintro e W6 ⟨rfl, ho6, hf6⟩; have HG6 := Lib.hid (show Below wr.heap.size wr W6 from HG5.out.trans (hf6.low HB5.out HG5.out.size)); have HG7 := Lib.hid (HG.out.trans (HG6.out.mono HG.out.size)); have CN6 := Lib.hid (CN.out.1.below HG7.out); obtain ⟨A6, c6, e6, -, -, ha6, -⟩ := OwnL.arr kdI ho6; rw [HEL.out] at e6 ha6; cases e6; have TOF2 := Lib.hid (of_any D k d fl (some ⟨g5, 0, none⟩) (m - 1) c5 (b.eraseIdx j) W6 CN6.out.prf (by have := CN.out.1.n; omega) ha6 (by omega)); clear ho6 hf6 ha6)
                  | (go_at_call 111; (with_reducible refine (TOF2.out).mono ?_); rintro e W7 ⟨⟨v7, rfl, ho7⟩, hg7⟩; obtain ⟨A8, n8, c8, hv8, -, T8⟩ := ofRead_any D k fl (b.eraseIdx j) W6 CN6.out W7 v7 hg7 ho7; subst hv8; rw [HFQ.out, HRB2.out] at T8; have HT9 := Lib.hid T8; have HG8 := Lib.hid (HG7.out.trans (hg7.mono HG7.out.size)); clear ho7 hg7 T8)
                  | (go_at_call 109; (with_reducible refine (HT9.out).mono ?_); rintro e W8 ⟨rfl, hg8⟩; have HG9 := Lib.hid (HG8.out.trans (hg8.mono HG8.out.size)); clear hg8))
                go_ret
                exact ⟨rfl, GV.out.trans (HG9.out.mono GV.out.size)⟩
              | true =>
                go_wp2_with (first
                  | (go_at_call 95; (with_reducible refine (TC.out).mono ?_); rintro e W5 ⟨⟨v5, rfl, ho5⟩, hg5⟩; obtain ⟨g5, c5, hv5, hb5⟩ := own_head ho5 (by rw [HBL.out]; omega); rw [HBL.out] at hv5; subst hv5; have HO5 := Lib.hid ho5; have HG5 := Lib.hid hg5; have HB5 := Lib.hid hb5; have TD := Lib.hid (delInt_any wr.heap.size g5 m c5 j b W5 ho5 (by omega) (by omega)); clear ho5 hg5 hb5)
                  | (go_at_call 110; (with_reducible refine (TD.out).mono ?_); rintro e W6 ⟨rfl, ho6, hf6⟩; have HG6 := Lib.hid (show Below wr.heap.size wr W6 from HG5.out.trans (hf6.low HB5.out HG5.out.size)); have HG7 := Lib.hid (HG.out.trans (HG6.out.mono HG.out.size)); have CN6 := Lib.hid (CN.out.1.below HG7.out); obtain ⟨A6, c6, e6, -, -, ha6, -⟩ := OwnL.arr kdI ho6; rw [HEL.out] at e6 ha6; cases e6; have TOF2 := Lib.hid (of_any D k d fl (some ⟨g5, 0, none⟩) (m - 1) c5 (b.eraseIdx j) W6 CN6.out.prf (by have := CN.out.1.n; omega) ha6 (by omega)); clear ho6 hf6 ha6)
                  | (go_at_call 111; (with_reducible refine (TOF2.out).mono ?_); rintro e W7 ⟨⟨v7, rfl, ho7⟩, hg7⟩; obtain ⟨A8, n8, c8, hv8, -, T8⟩ := ofRead_any D k fl (b.eraseIdx j) W6 CN6.out W7 v7 hg7 ho7; subst hv8; rw [HFQ.out, HRB2.out] at T8; have HT9 := Lib.hid T8; have HG8 := Lib.hid (HG7.out.trans (hg7.mono HG7.out.size)); clear ho7 hg7 T8)
                  | (go_at_call 109; (with_reducible refine (HT9.out).mono ?_); rintro e W8 ⟨rfl, hg8⟩; have HG9 := Lib.hid (HG8.out.trans (hg8.mono HG8.out.size)); clear hg8))
                go_roundw
                case rel => exact ⟨j + 1, by omega, rfl, HG9.out, fun t ht => by
                  by_cases e : t = j
                  · subst e; exact HRB2.out
                  · exact HALL.out t (by omega)⟩
                case measure => simp only [intOf]; omega
            · obtain rfl : j = m := by omega
              have e : ce = 0 := by rw [HCE2.out, ckCl_yes HSU.out HUB.out HL.out HRB.out (fun t ht => HALL.out t (by rw [← HBL.out]; exact ht))]; rfl
              subst e
              go_wp2_with fail
              go_ret
              exact ⟨rfl, GV.out.trans (HG.out.mono GV.out.size)⟩
      · have hl2 : ((n2 : Int) != (m : Int)) = true := by simp; omega
        have e : ce = 25 := by rw [HCE2.out, ckCl_no2 HSU.out HUB.out (by rw [← HN2.out, HBL.out]; exact hlen)]; rfl
        subst e
        clear hlen
        go_wp2_with (go_at_call 112; (with_reducible refine (HTR.out).mono ?_); rintro e V3 ⟨rfl, hg⟩; have GV3 := Lib.hid (GV2.out.trans (hg.mono GV2.out.size)); clear hg)
        go_ret
        exact ⟨rfl, GV3.out⟩
  · have hzb : (le != 0) = true := by simpa using hz
    have HZ := Lib.hid hz
    have e : ce = le := by have := HCE.out; rwa [if_neg hz] at this
    subst e
    clear hz
    go_enter Tryz.func54, Tryz.ntmps54
    go_wp2_with (go_at_call 73; (with_reducible refine (HT.out).mono ?_); rintro e V ⟨v, rfl, hg, -, h2⟩; have e2 := h2 HZ.out; subst e2; have GV := Lib.hid hg; clear hg h2)
    go_ret
    exact ⟨rfl, GV.out⟩
end Go.Proofs.YtehhlgdkhecacaaGreat
namespace Go.Proofs.YtehhlgdkhecacaaGreat
open Go.RowKit Go.Shelf
theorem refIdx_any (A : Option Addr) (n c : Nat) (l : List Int) (x : Int) (w : World) (ha : Ints w A n l) (hn : n ≤ 1000000) :
    Calls Tryz.prog 100 #[.slice A n c, .int .i64 x] w fun e w' => (∃ i : Int, e = .returned (.int .i64 i) ∧ decide (0 ≤ i) = hasI l x) ∧ w = w' := by
  have HA := Lib.hid ha
  have hlen := Lib.hid ha.1
  clear ha
  go_enter Tryz.func100, Tryz.ntmps100
  go_wp2_with fail
  go_loop [5] (fun i => ∃ k : Nat, k ≤ n ∧ i = .int .i64 k ∧ ∀ j, j < k → l.getD j 0 ≠ x) (fun i => n - (intOf i).toNat)
  case atStart => exact ⟨0, Nat.zero_le _, rfl, fun j hj => absurd hj (by omega)⟩
  case round =>
    obtain ⟨k, hk, rfl, hno⟩ := hrel
    have HNO := Lib.hid hno
    clear hno
    by_cases hkn : k < n
    · obtain ⟨b, o, rfl, -, hmem, hc⟩ := ints_at HA.out hkn
      have d0 := hc _ (Below.refl _ _)
      obtain ⟨y, hy⟩ : ∃ y, l.getD k 0 = y := ⟨_, rfl⟩
      rw [hy] at d0 hmem
      have HY := Lib.hid hy
      have HM := Lib.hid hmem
      have hki : (k : Int) < (n : Int) := by omega
      have hwr : wrap64 ((k : Int) + 1) = (k : Int) + 1 := wrap_in (by omega)
      clear hc hmem hy
      by_cases e : y = x
      · subst e
        go_wp2_with fail
        go_ret
        exact ⟨⟨k, rfl, by rw [decide_eq_true (show (0 : Int) ≤ k by omega)]; exact (hasI_true (List.mem_of_getElem? HM.out)).symm⟩, rfl⟩
      · have e1 : (y == x) = false := by simpa using e
        have E := Lib.hid e
        clear e
        go_wp2_with fail
        go_round
        case rel => exact ⟨k + 1, by omega, by go_num, fun j hj => by
          by_cases e : j = k
          · subst e; rw [HY.out]; exact E.out
          · exact HNO.out j (by omega)⟩
        case measure => simp only [intOf]; omega
    · obtain rfl : n = k := by omega
      have hki : ¬ (n : Int) < (n : Int) := by omega
      go_wp2_with fail
      go_ret
      refine ⟨⟨-1, rfl, ?_⟩, rfl⟩
      rw [decide_eq_false (by omega)]
      exact (hasI_false fun j hj => HNO.out j (by rw [← hlen.out]; exact hj)).symm
theorem refHas_any (A : Option Addr) (n c : Nat) (l : List Int) (x : Int) (w : World) (ha : Ints w A n l) (hn : n ≤ 1000000) :
    Calls Tryz.prog 40 #[.slice A n c, .int .i64 x] w fun e w' => e = .returned (.bool (hasI l x)) ∧ w = w' := by
  have T := refIdx_any A n c l x w ha hn
  generalize hasI l x = r at T ⊢
  clear ha
  go_enter Tryz.func40, Tryz.ntmps40
  go_wp2_with (go_at_call 100; (with_reducible refine T.mono ?_); rintro e w' ⟨⟨i, rfl, hi⟩, rfl⟩)
  go_ret
  exact ⟨rfl, rfl⟩
end Go.Proofs.YtehhlgdkhecacaaGreat
namespace Go.Proofs.YtehhlgdkhecacaaGreat
open Go.RowKit Go.Shelf
set_option maxRecDepth 100000 in
set_option maxHeartbeats 8000000 in
theorem refIs_any (A : Option Addr) (n c : Nat) (l : List Pf) (B : Option Addr) (m d : Nat) (rd : List Int) (w : World) (ha : Prf w A n l) (hn : n ≤ 1000) (hp4 : ∀ p ∈ l, p.n ≤ 1000000) (hb : Ints w B m rd) (hmd : m ≤ d) (_ : d ≤ 9223372036854775807) :
    Calls Tryz.prog 87 #[.slice A n c, .slice B m d] w fun e w' => e = .returned (.bool (isRd (l.map Pf.q) rd)) ∧ Below w.heap.size w w' := by
  by_cases hnm : m = n
  rotate_left
  · have hf : isRd (l.map Pf.q) rd = false := by
      rw [Bool.eq_false_iff]
      intro e
      have h1 := (isRd_zip.1 e).1
      rw [hb.1, List.length_map, ha.len] at h1
      exact hnm h1
    have hne : ((m : Int) != (n : Int)) = true := by simp; omega
    rw [hf]
    clear ha hb hf
    go_enter Tryz.func87, Tryz.ntmps87
    go_wp2_with fail
    go_ret
    exact ⟨rfl, Below.refl _ _⟩
  · subst hnm
    have HA := Lib.hid ha
    have HB := Lib.hid hb
    have HNO := Lib.hid (fun k (hk : k < m) (h : ¬ (rd.getD k 0 ∈ (l.getD k p0).q.per ∧ fitB (l.map Pf.q) (rd.take k) (rd.getD k 0) = true)) => (show isRd (l.map Pf.q) rd = false from rd_no (by rw [List.length_map, ha.len]; exact hk) (by rw [map_pf (by rw [ha.len]; exact hk)]; exact h)))
    have HYE := Lib.hid (fun (h : ∀ k, k < m → rd.getD k 0 ∈ (l.getD k p0).q.per ∧ fitB (l.map Pf.q) (rd.take k) (rd.getD k 0) = true) => (show isRd (l.map Pf.q) rd = true from rd_yes (by rw [List.length_map, ha.len, hb.1]) (fun k hk => by
      rw [List.length_map, ha.len] at hk
      rw [map_pf (by rw [ha.len]; exact hk)]; exact h k hk)))
    have HF := Lib.hid (fun k (hk : k < m) (person : Int) (W : World) (g : Below w.heap.size w W) => refFits_any A m c l B k d (rd.take k) person W (ha.below g) hn ((hb.below g).take (by omega)) hk)
    have HP4 := Lib.hid hp4
    have hnn : ((m : Int) != (m : Int)) = false := by simp
    obtain ⟨r, hr⟩ : ∃ r, isRd (l.map Pf.q) rd = r := ⟨_, rfl⟩
    rw [hr] at HNO HYE ⊢
    obtain ⟨LQ, hLQ⟩ : ∃ r, l.map Pf.q = r := ⟨_, rfl⟩
    rw [hLQ] at HNO HYE HF
    clear ha hb hr hLQ hp4
    go_enter Tryz.func87, Tryz.ntmps87
    go_wp2_with fail
    go_loopw [5] (fun i wr => ∃ k : Nat, k ≤ m ∧ i = .int .i64 k ∧ Below w.heap.size w wr ∧ ∀ j, j < k → rd.getD j 0 ∈ (l.getD j p0).q.per ∧ fitB LQ (rd.take j) (rd.getD j 0) = true) (fun i _ => m - (intOf i).toNat)
    case atStart => exact ⟨0, Nat.zero_le _, rfl, Below.refl _ _, fun j hj => absurd hj (by omega)⟩
    case round =>
      obtain ⟨k, hk, rfl, hg, hall⟩ := hrel
      have HG := Lib.hid hg
      have HALL := Lib.hid hall
      clear hall
      by_cases hkn : k < m
      · have HN2 := Lib.hid (HNO.out k hkn)
        obtain ⟨b0, o0, rfl, -, hyi, hym, hyc⟩ := (HA.out.below hg).at hkn
        have hy4 := HP4.out _ hym
        obtain ⟨b1, o1, rfl, -, -, hcr⟩ := ints_at (HB.out.below hg) hkn
        obtain ⟨y, hy⟩ : ∃ y, l.getD k p0 = y := ⟨_, rfl⟩
        obtain ⟨x, hx⟩ : ∃ x, rd.getD k 0 = x := ⟨_, rfl⟩
        rw [hy] at hyi hyc hy4 HN2
        rw [hx] at hcr HN2
        have HX := Lib.hid hx
        have HY := Lib.hid hy
        obtain ⟨-, -, e2, -⟩ := hyc _ (Below.refl _ _)
        have er := hcr _ (Below.refl _ _)
        have T1 := Lib.hid (fun W (g : Below wr.heap.size wr W) => refHas_any y.A y.n y.c y.q.per x W (hyi.below g).i hy4)
        have T2 := Lib.hid (fun W (g : Below wr.heap.size wr W) => HF.out k hkn x W (HG.out.trans (g.mono HG.out.size)))
        have HIN := Lib.hid (show hasI y.q.per x = true ↔ x ∈ y.q.per from hasI_iff)
        have xe := cellW e2
        have xr := cellW er
        have hki : (k : Int) < (m : Int) := by omega
        have hki2 : (k : Int) ≤ (d : Int) := by omega
        have hwr2 : wrap64 ((k : Int) + 1) = (k : Int) + 1 := wrap_in (by omega)
        obtain ⟨h1, hh1⟩ : ∃ h, hasI y.q.per x = h := ⟨_, rfl⟩
        rw [hh1] at T1 HIN
        obtain ⟨h2, hh2⟩ : ∃ h, fitB LQ (rd.take k) x = h := ⟨_, rfl⟩
        rw [hh2] at T2 HN2
        have HH2 := Lib.hid hh2
        clear hyi hym hyc hcr hy hx e2 er hh1 hh2 hg hy4
        cases h1 with
        | false =>
          have hf := HN2.out (fun h => by have := HIN.out.2 h.1; cases this)
          subst hf
          go_upto_region 6 with fail
          refine wp_region_calm wr (by kernel_rfl) (by kernel_rfl) (Below.refl _ _) ?_
          repeat (go_big_quiet_step (first | (go_at_call 40; with_reducible exact callsCalmSame (T1.out _ (Wd.ok _))) | (go_at_call 101; with_reducible exact callsCalm (T2.out _ (Wd.ok _)))))
          refine wpQuiet_nil ?_
          rintro _ ⟨z, rfl⟩
          have GQ := Lib.hid z.ok
          go_wp2
          go_ret
          exact ⟨rfl, HG.out.trans (GQ.out.mono HG.out.size)⟩
        | true =>
          have hin := HIN.out.1 rfl
          cases h2 with
          | false =>
            have hf := HN2.out (fun h => by have := h.2; cases this)
            subst hf
            clear hin
            go_upto_region 6 with fail
            refine wp_region_calm wr (by kernel_rfl) (by kernel_rfl) (Below.refl _ _) ?_
            repeat (go_big_quiet_step (first | (go_at_call 40; with_reducible exact callsCalmSame (T1.out _ (Wd.ok _))) | (go_at_call 101; with_reducible exact callsCalm (T2.out _ (Wd.ok _)))))
            refine wpQuiet_nil ?_
            rintro _ ⟨z, rfl⟩
            have GQ := Lib.hid z.ok
            go_wp2
            go_ret
            exact ⟨rfl, HG.out.trans (GQ.out.mono HG.out.size)⟩
          | true =>
            have HIN2 := Lib.hid hin
            clear hin
            go_upto_region 6 with fail
            refine wp_region_calm wr (by kernel_rfl) (by kernel_rfl) (Below.refl _ _) ?_
            repeat (go_big_quiet_step (first | (go_at_call 40; with_reducible exact callsCalmSame (T1.out _ (Wd.ok _))) | (go_at_call 101; with_reducible exact callsCalm (T2.out _ (Wd.ok _)))))
            refine wpQuiet_nil ?_
            rintro _ ⟨z, rfl⟩
            have GQ := Lib.hid z.ok
            go_wp2
            go_roundw
            case rel => exact ⟨k + 1, by omega, rfl, HG.out.trans (GQ.out.mono HG.out.size), fun j hj => by
              by_cases e : j = k
              · subst e; rw [HX.out, HY.out]; exact ⟨HIN2.out, HH2.out⟩
              · exact HALL.out j (by omega)⟩
            case measure => simp only [intOf]; omega
      · obtain rfl : k = m := by omega
        have hf := HYE.out HALL.out
        subst hf
        clear hg
        go_wp2_with fail
        go_ret
        exact ⟨rfl, HG.out⟩
/-- What a valid list gives. -/
theorem look_ok {l : List Qf} {days : List Int} (h : lookE l days = 0) : okL l = true := by
  unfold lookE at h
  by_cases e : okL l = true
  · exact e
  · rw [if_neg e] at h; exact absurd h (by decide)
theorem ok_mem {w : World} {A : Option Addr} {n : Nat} {l : List Pf} (ha : Prf w A n l) (h : okL (l.map Pf.q) = true) : n ≤ 60 ∧ ∀ p ∈ l, 1 ≤ p.n ∧ p.n ≤ 4 := by
  have h1 := okL_len h
  rw [List.length_map, ha.len] at h1
  refine ⟨h1, fun p hp => ?_⟩
  have h2 := isQf_per (okL_all h _ (List.mem_map.2 ⟨p, hp, rfl⟩))
  have h3 := (ha.p p hp).len
  omega
theorem cntP_q (l : List Pf) (d : Int) : (l.filter fun p => cnt p.q d).map Pf.q = cntL (l.map Pf.q) d := by unfold cntL; rw [← filt_map]
set_option maxRecDepth 100000 in
set_option maxHeartbeats 8000000 in
theorem refCheckReading_any (A : Option Addr) (n c : Nat) (l : List Pf) (known : Int) (B : Option Addr) (m d : Nat) (rd : List Int) (w : World) (ha : Prf w A n l) (hn : n ≤ 9223372036854775807) (hb : Ints w B m rd) (hmd : m ≤ d) (hd : d ≤ 9223372036854775807) :
    Calls Tryz.prog 53 #[.slice A n c, .int .i64 known, .slice B m d] w fun e w' => e = .returned (.int .i64 (ckRdE (l.map Pf.q) known rd)) ∧ Below w.heap.size w w' := by
  have TA := Lib.hid (by have := refAsked_any A n c l 0 0 0 known false false w ha hn; rwa [rAsk_one] at this)
  have HCE := Lib.hid (show ckRdE (l.map Pf.q) known rd = if lookE (l.map Pf.q) [known] = 0 then err (isRd (cntL (l.map Pf.q) known) rd) 23 else lookE (l.map Pf.q) [known] from rfl)
  have HOK := Lib.hid (fun (h : lookE (l.map Pf.q) [known] = 0) => ok_mem ha (look_ok h))
  have TC := Lib.hid (fun (h : n ≤ 60) W (g : Below w.heap.size w W) => refCounting_any A n c l known W (ha.below g) (by omega))
  have HPF := Lib.hid (fun W (g : Below w.heap.size w W) p (hp : p ∈ l.filter fun p => cnt p.q known) => (ha.p p (List.mem_filter.1 hp).1).below g)
  have HFM := Lib.hid (fun p (hp : p ∈ l.filter fun p => cnt p.q known) => (List.mem_filter.1 hp).1)
  have HFL := Lib.hid (fun (h : n ≤ 60) => (show (l.filter fun p => cnt p.q known).length ≤ 60 by have h1 := List.length_filter_le (fun p : Pf => cnt p.q known) l; have h2 := ha.len; omega))
  have HFQ := Lib.hid (cntP_q l known)
  have HB := Lib.hid hb
  obtain ⟨le, hle⟩ : ∃ e, lookE (l.map Pf.q) [known] = e := ⟨_, rfl⟩
  rw [hle] at TA HOK HCE
  obtain ⟨fl, hfl⟩ : ∃ s, (l.filter fun p => cnt p.q known) = s := ⟨_, rfl⟩
  rw [hfl] at TC HPF HFM HFL HFQ
  obtain ⟨ce, hce⟩ : ∃ e, ckRdE (l.map Pf.q) known rd = e := ⟨_, rfl⟩
  rw [hce] at HCE ⊢
  clear ha hle hfl hb hce
  by_cases h0 : le = 0
  · obtain ⟨hn6, hp4⟩ := HOK.out h0
    have HP4 := Lib.hid hp4
    subst h0
    rw [if_pos rfl, ← HFQ.out] at HCE
    obtain ⟨r, hr⟩ : ∃ r, isRd (fl.map Pf.q) rd = r := ⟨_, rfl⟩
    rw [hr] at HCE
    have HR := Lib.hid hr
    have h23 := HCE.out
    clear hp4 hr
    cases r with
    | false =>
      obtain rfl : ce = 23 := h23
      go_enter Tryz.func53, Tryz.ntmps53
      go_wp2_with (first
        | (go_at_call 77; (with_reducible refine (TA.out).mono ?_); rintro e V ⟨rfl, hg⟩; have GV := Lib.hid hg; clear hg)
        | (go_at_call 71; (with_reducible refine (TC.out hn6 _ GV.out).mono ?_); rintro e V2 ⟨⟨v, rfl, ho⟩, hg⟩; obtain ⟨A2, c2, rfl, -, -, hp2⟩ := own_prf ho (fun p hp => (HPF.out _ (GV.out.trans (hg.mono GV.out.size)) p hp)); have HP2 := Lib.hid hp2; have G2 := Lib.hid (GV.out.trans (hg.mono GV.out.size)); have TI := refIs_any A2 fl.length c2 fl B m d rd V2 HP2.out (by have := HFL.out hn6; omega) (fun p hp => by have := HP4.out p (HFM.out p hp); omega) (HB.out.below G2.out) hmd hd; rw [HR.out] at TI; have HTI := Lib.hid TI; clear ho hg hp2 TI)
        | (go_at_call 87; (with_reducible refine (HTI.out).mono ?_); rintro e V3 ⟨rfl, hg⟩; have G3 := Lib.hid (G2.out.trans (hg.mono G2.out.size)); clear hg))
      go_ret
      exact ⟨rfl, G3.out⟩
    | true =>
      obtain rfl : ce = 0 := h23
      go_enter Tryz.func53, Tryz.ntmps53
      go_wp2_with (first
        | (go_at_call 77; (with_reducible refine (TA.out).mono ?_); rintro e V ⟨rfl, hg⟩; have GV := Lib.hid hg; clear hg)
        | (go_at_call 71; (with_reducible refine (TC.out hn6 _ GV.out).mono ?_); rintro e V2 ⟨⟨v, rfl, ho⟩, hg⟩; obtain ⟨A2, c2, rfl, -, -, hp2⟩ := own_prf ho (fun p hp => (HPF.out _ (GV.out.trans (hg.mono GV.out.size)) p hp)); have HP2 := Lib.hid hp2; have G2 := Lib.hid (GV.out.trans (hg.mono GV.out.size)); have TI := refIs_any A2 fl.length c2 fl B m d rd V2 HP2.out (by have := HFL.out hn6; omega) (fun p hp => by have := HP4.out p (HFM.out p hp); omega) (HB.out.below G2.out) hmd hd; rw [HR.out] at TI; have HTI := Lib.hid TI; clear ho hg hp2 TI)
        | (go_at_call 87; (with_reducible refine (HTI.out).mono ?_); rintro e V3 ⟨rfl, hg⟩; have G3 := Lib.hid (G2.out.trans (hg.mono G2.out.size)); clear hg))
      go_ret
      exact ⟨rfl, G3.out⟩
  · have hne : (le != 0) = true := by simpa using h0
    have h1 := HCE.out
    rw [if_neg h0] at h1
    subst h1
    clear h0
    go_enter Tryz.func53, Tryz.ntmps53
    go_wp2_with (first
      | (go_at_call 77; (with_reducible refine (TA.out).mono ?_); rintro e V ⟨rfl, hg⟩; have GV := Lib.hid hg; clear hg))
    go_ret
    exact ⟨rfl, GV.out⟩
end Go.Proofs.YtehhlgdkhecacaaGreat
namespace Go.Proofs.YtehhlgdkhecacaaGreat
theorem manyF (l : List Qf) : manyL l = (l.map fun q => q.per.length).foldr (· * ·) 1 := by
  have g : ∀ (l : List Nat) (m : Nat), l.foldl (· * ·) m = m * l.foldr (· * ·) 1 := fun l => by
    induction l with
    | nil => intro m; simp
    | cons x l ih => intro m; rw [List.foldl_cons, List.foldr_cons, ih, Nat.mul_assoc]
  unfold manyL
  rw [g, Nat.one_mul]
theorem manyS : ∀ {c l : List Qf}, c.Sublist l → (∀ q ∈ l, 1 ≤ q.per.length) → manyL c ≤ manyL l
  | _, _, .slnil, _ => Nat.le_refl _
  | c, _, .cons (l₂ := l) q h, hq => by
    refine Nat.le_trans (manyS h fun x hx => hq x (List.mem_cons_of_mem _ hx)) ?_
    rw [manyF (q :: l), manyF l, List.map_cons, List.foldr_cons]
    exact Nat.le_mul_of_pos_left _ (hq q (by simp))
  | _, _, .cons_cons (l₁ := c) (l₂ := l) q h, hq => by
    have := manyS h fun x hx => hq x (List.mem_cons_of_mem _ hx)
    rw [manyF c, manyF l] at this
    rw [manyF (q :: c), manyF (q :: l), List.map_cons, List.map_cons, List.foldr_cons, List.foldr_cons]
    exact Nat.mul_le_mul_left _ this
theorem isQf_per1 {q : Qf} (h : isQf q = true) : 1 ≤ q.per.length := by
  unfold isQf at h
  simp only [Bool.and_eq_true] at h
  have := h.1.1.1.1.1.1.1.2
  unfold rng at this
  simp at this
  omega
theorem okL_subl {c l : List Qf} (h : okL l = true) (hs : c.Sublist l) : okL c = true := by
  unfold okL at h ⊢
  simp only [Bool.and_eq_true, decide_eq_true_eq] at h ⊢
  obtain ⟨⟨⟨h1, h2⟩, h3⟩, h4⟩ := h
  have ha : ∀ q ∈ l, isQf q = true := List.all_eq_true.1 h1
  exact ⟨⟨⟨List.all_eq_true.2 fun q hq => ha q (hs.subset hq), Nat.le_trans hs.length_le h2⟩, Nat.le_trans (manyS hs fun q hq => isQf_per1 (ha q hq)) h3⟩, upB_iff.2 ((upB_iff.1 h4).sublist (hs.map _))⟩
end Go.Proofs.YtehhlgdkhecacaaGreat
namespace Go.Proofs.YtehhlgdkhecacaaGreat
theorem ofL_self : ∀ {s c : List Qf}, s.Sublist c → (srcL c).Pairwise (· < ·) → ofL c (srcL s) = s := by
  intro s c h
  induction h with
  | slnil => intro _; rfl
  | cons a hs ih =>
    intro hc
    unfold srcL at hc
    rw [List.map_cons, List.pairwise_cons] at hc
    have e := ih hc.2
    unfold ofL at e ⊢
    rw [List.filter_cons_of_neg, e]
    intro hm
    obtain ⟨p, hp, he⟩ := List.mem_map.1 (of_decide_eq_true hm)
    have := hc.1 p.src (List.mem_map.2 ⟨p, hs.subset hp, rfl⟩)
    omega
  | cons_cons a hs ih =>
    intro hc
    unfold srcL at hc
    rw [List.map_cons, List.pairwise_cons] at hc
    have e := ih hc.2
    unfold ofL srcL at e ⊢
    rw [List.map_cons, List.filter_cons_of_pos (by simp)]
    refine congrArg (a :: ·) (Eq.trans (List.filter_congr fun p hp => ?_) e)
    have := hc.1 p.src (List.mem_map.2 ⟨p, hp, rfl⟩)
    have h2 : p.src ≠ a.src := by omega
    simp [h2]
theorem reads_subl {l s : List Qf} {known : Int} (h : okL l = true) (hs : s.Sublist (cntL l known)) : okL s = true ∧ (reads s).length ≤ 2000 := by
  have h1 : okL s = true := okL_subl h (hs.trans List.filter_sublist)
  have h2 := reads_len h1 known
  have h3 : cntL s known = s := by
    unfold cntL
    exact List.filter_eq_self.2 fun q hq => (List.mem_filter.1 (hs.subset hq)).2
  rw [h3] at h2
  exact ⟨h1, h2⟩
theorem isRead_len (c : List Qf) : isRead c = !decide ((reads c).length = 0) := by
  unfold isRead
  cases reads c <;> simp
/-- What holds before the proof with index i is tried. -/
def ClI (c : List Qf) (i : Nat) (l : List Qf) : Prop := l.Sublist c ∧ l.take i = c.take i ∧ clF c i (srcL l) = clashL c
theorem ClI.start (c : List Qf) : ClI c c.length c := ⟨List.Sublist.refl _, rfl, rfl⟩
theorem ClI.stop {c l : List Qf} (h : ClI c 0 l) : srcL l = clashL c := h.2.2
theorem ClI.lss {c l : List Qf} {i : Nat} (hc : (srcL c).Pairwise (· < ·)) (hi : i < c.length) (h : ClI c (i + 1) l) : lssL l ((srcL c).getD i 0) = l.eraseIdx i ∧ i < l.length := by
  obtain ⟨h1, h2, -⟩ := h
  have hl : i < l.length := by
    have := congrArg List.length h2
    rw [List.length_take, List.length_take] at this
    omega
  have e : l.getD i q0 = c.getD i q0 := by
    rw [← getD_take (a := l) (k := i + 1) (by omega), h2, getD_take (by omega)]
  have e2 : (srcL c).getD i 0 = (l.getD i q0).src := by
    rw [e]
    unfold srcL
    rw [List.getD_eq_getElem?_getD, List.getElem?_map, List.getElem?_eq_getElem hi, List.getD_eq_getElem?_getD, List.getElem?_eq_getElem hi]; rfl
  rw [e2]
  exact ⟨lss_at hl (hc.sublist (h1.map Qf.src)), hl⟩
theorem ClI.step {c l : List Qf} {i : Nat} (hc : (srcL c).Pairwise (· < ·)) (hi : i < c.length) (h : ClI c (i + 1) l) :
    (lssL l ((srcL c).getD i 0)).Sublist c ∧ (isRead (lssL l ((srcL c).getD i 0)) = true → ClI c i l) ∧ (isRead (lssL l ((srcL c).getD i 0)) = false → ClI c i (lssL l ((srcL c).getD i 0))) := by
  obtain ⟨he, hl⟩ := h.lss hc hi
  obtain ⟨h1, h2, h3⟩ := h
  rw [he]
  have hsub : (l.eraseIdx i).Sublist c := (List.eraseIdx_sublist l i).trans h1
  have hsrc : (srcL l).eraseIdx i = srcL (l.eraseIdx i) := by
    unfold srcL
    rw [List.eraseIdx_eq_take_drop_succ, List.eraseIdx_eq_take_drop_succ, List.map_append, List.map_take, List.map_drop]
  have hof : ofL c ((srcL l).eraseIdx i) = l.eraseIdx i := by rw [hsrc]; exact ofL_self hsub hc
  have ht : l.take i = c.take i := by
    have := congrArg (List.take i) h2
    rwa [List.take_take, List.take_take, Nat.min_eq_left (by omega)] at this
  unfold clF at h3
  rw [hof] at h3
  refine ⟨hsub, fun hr => ⟨h1, ht, ?_⟩, fun hr => ⟨hsub, ?_, ?_⟩⟩
  · rw [if_pos hr] at h3; exact h3
  · rw [List.eraseIdx_eq_take_drop_succ, List.take_append_of_le_length (by rw [List.length_take]; omega), List.take_take, Nat.min_self]
    exact ht
  · rw [if_neg (by rw [hr]; decide), hsrc] at h3; exact h3
def pkF (c : List Qf) (s : Int) : Qf := c.getD ((srcL c).idxOf s) q0
theorem pk_self {c : List Qf} (hc : (srcL c).Pairwise (· < ·)) {p : Qf} (hp : p ∈ c) : pkF c p.src = p := by
  obtain ⟨i, hi, rfl⟩ := List.mem_iff_getElem.1 hp
  have hi2 : i < (srcL c).length := by unfold srcL; simpa using hi
  have e : (srcL c)[i] = c[i].src := List.getElem_map Qf.src
  have hx : (srcL c).idxOf c[i].src = i := by
    have hm : c[i].src ∈ srcL c := List.mem_map.2 ⟨_, hp, rfl⟩
    have h1 := List.idxOf_lt_length_of_mem hm
    have h2 : (srcL c)[(srcL c).idxOf c[i].src] = c[i].src := List.getElem_idxOf h1
    rcases Nat.lt_trichotomy ((srcL c).idxOf c[i].src) i with h | h | h
    · have := List.pairwise_iff_getElem.1 hc _ i h1 hi2 h
      rw [h2, e] at this; omega
    · exact h
    · have := List.pairwise_iff_getElem.1 hc i _ hi2 h1 h
      rw [h2, e] at this; omega
  unfold pkF
  rw [hx, List.getD_eq_getElem?_getD, List.getElem?_eq_getElem hi]; rfl
theorem pk_of {c : List Qf} {b : List Int} (hc : (srcL c).Pairwise (· < ·)) (hb : b.Pairwise (· < ·)) (h : ∀ x ∈ b, x ∈ srcL c) : b.map (pkF c) = ofL c b := by
  have e := ofL_srcs hc hb h
  conv => lhs; rw [← e]
  unfold srcL
  rw [List.map_map]
  conv => rhs; rw [← List.map_id (ofL c b)]
  exact List.map_congr_left fun p hp => pk_self hc ((ofL_sub c b).subset hp)
theorem of_lss {c : List Qf} {b : List Int} {i : Nat} (hc : (srcL c).Pairwise (· < ·)) (hb : b.Pairwise (· < ·)) (h : ∀ x ∈ b, x ∈ srcL c) (hi : i < b.length) : lssL (ofL c b) (b.getD i 0) = ofL c (b.eraseIdx i) := by
  have e := ofL_srcs hc hb h
  have hl : i < (ofL c b).length := by rw [(ofL_len hc hb).2 h]; exact hi
  have e2 : b.getD i 0 = ((ofL c b).getD i q0).src := by
    conv => lhs; rw [← e]
    unfold srcL
    rw [List.getD_eq_getElem?_getD, List.getElem?_map, List.getElem?_eq_getElem hl, List.getD_eq_getElem?_getD, List.getElem?_eq_getElem hl]; rfl
  have hs : ((ofL c b).eraseIdx i).Sublist c := (List.eraseIdx_sublist _ _).trans (ofL_sub c b)
  rw [e2, lss_at hl (hc.sublist ((ofL_sub c b).map Qf.src)), ← ofL_self hs hc]
  congr 1
  conv => rhs; rw [← e]
  unfold srcL
  rw [List.eraseIdx_eq_take_drop_succ, List.eraseIdx_eq_take_drop_succ, List.map_append, List.map_take, List.map_drop]
theorem ckCl_nin {c : List Qf} {b : List Int} {x : Int} (hx : x ∈ b) (h : x ∉ srcL c) : ckCl c b = false := by
  rw [Bool.eq_false_iff]
  intro e
  unfold ckCl at e
  simp only [Bool.and_eq_true] at e
  exact h (of_decide_eq_true (List.all_eq_true.1 e.1.1.2 x hx))
theorem up_step {b : List Int} {k : Nat} (hk : k < b.length) (h0 : k ≠ 0) (h : ¬ b.getD (k - 1) 0 < b.getD k 0) : upB b = false := by
  rw [Bool.eq_false_iff]
  intro e
  have := List.pairwise_iff_getElem.1 (upB_iff.1 e) (k - 1) k (by omega) hk (by omega)
  rw [getD_int (by omega), getD_int hk] at h
  exact h this
theorem up_all2 {b : List Int} (h : ∀ j, j < b.length → j = 0 ∨ b.getD (j - 1) 0 < b.getD j 0) : b.Pairwise (· < ·) := by
  refine upB_iff.1 ?_
  unfold upB
  refine List.all_eq_true.2 fun j hj => ?_
  rw [Bool.or_eq_true, decide_eq_true_eq, decide_eq_true_eq]
  exact h j (List.mem_range.1 hj)
theorem in_short {c : List Qf} {b : List Int} (hc : (srcL c).Pairwise (· < ·)) {k : Nat} (hk : k ≤ b.length) (h : ∀ j, j < k → b.getD j 0 ∈ srcL c ∧ (j = 0 ∨ b.getD (j - 1) 0 < b.getD j 0)) : k ≤ c.length := by
  have e : ∀ j, j < k → (b.take k).getD j 0 = b.getD j 0 := fun j hj => getD_take hj
  have hl : (b.take k).length = k := by rw [List.length_take]; omega
  have hb : (b.take k).Pairwise (· < ·) := up_all2 fun j hj => by
    rw [hl] at hj
    rw [e j hj]
    rcases (h j hj).2 with h2 | h2
    · exact .inl h2
    · rw [e (j - 1) (by omega)]; exact .inr h2
  have hin : ∀ x ∈ b.take k, x ∈ srcL c := fun x hx => by
    obtain ⟨j, hj, rfl⟩ := List.mem_iff_getElem.1 hx
    have := (h j (by omega)).1
    rw [← e j (by omega), getD_int hj] at this
    exact this
  have h1 := (ofL_len hc hb).2 hin
  have h2 := (ofL_sub c (b.take k)).length_le
  omega
end Go.Proofs.YtehhlgdkhecacaaGreat
namespace Go.Proofs.YtehhlgdkhecacaaGreat
open Go.RowKit Go.Shelf
/-- A list of numbers with its header. -/
structure Hr where
  r : List Int
  A : Option Addr
  n : Nat
  c : Nat
def h0 : Hr := ⟨[], none, 0, 0⟩
def hcells (h : Hr) : List Value := [.slice h.A h.n h.c]
theorem hcells_len (h : Hr) : (hcells h).length = 1 := rfl
theorem info25 : (Tryz.prog.info? 25).map (fun i => (i.zero, i.size, i.bytes)) = some (some (.slice none 0 0), 1, 24) := by kernel_rfl
theorem hcells_one (x : Hr) : ∀ v ∈ hcells x, v.oneCell' = true := fun v hv => by
  unfold hcells at hv
  rw [List.mem_singleton] at hv
  subst hv; rfl
theorem kdH : Kd hcells 1 25 96 24 (.slice none 0 0) := ⟨by kernel_rfl, info25, by simp [Value.cells], by decide, hcells_len, hcells_one, by decide⟩
/-- A list of one's own of lists of one's own. -/
structure Lr (w W : World) (v : Value) (hs : List Hr) : Prop where
  g : Below w.heap.size w W
  o : OwnL hcells 1 25 W w.heap.size v hs
  per : ∀ h ∈ hs, (Ints W h.A h.n h.r ∧ h.n ≤ h.c ∧ h.c ≤ maxLen) ∧ ∀ a, h.A = some a → v.ownBlock ≠ some a.block ∧ w.heap.size ≤ a.block ∧ a.block < W.heap.size
section
variable {w W W0 W1 W2 : World} {v v' v2 : Value} {hs hs2 : List Hr}
theorem Below.allo7 {B : Nat} {V X : World} (h : Below B V X) (hB : B ≤ X.heap.size) (o : Obj) : Below B V (X.alloc o) := h.trans ((one_more X o).mono hB)
theorem Lr.nil (w : World) : Lr w w (.slice none 0 0) [] := ⟨Below.refl _ _, OwnL.nil _ _, fun h hh => by cases hh⟩
theorem Lr.ext (h : Lr w W v hs) (k : Below W.heap.size W W2) : Lr w W2 v hs :=
  ⟨h.g.trans (k.mono h.g.size), h.o.ext k, fun x hx => by
    obtain ⟨⟨h1, h2, h3⟩, h4⟩ := h.per x hx
    exact ⟨⟨h1.below k, h2, h3⟩, fun a e => ⟨(h4 a e).1, (h4 a e).2.1, Nat.lt_of_lt_of_le (h4 a e).2.2 k.size⟩⟩⟩
theorem Lr.low (h : Lr W1 W v hs) (g : Below w.heap.size w W1) : Lr w W v hs :=
  ⟨g.trans (h.g.mono g.size), h.o.mono g.size, fun x hx => by
    obtain ⟨h1, h4⟩ := h.per x hx
    exact ⟨h1, fun a e => ⟨(h4 a e).1, Nat.le_trans g.size (h4 a e).2.1, (h4 a e).2.2⟩⟩⟩
theorem Lr.arr (h : Lr w W v hs) : ∃ A c, v = .slice A hs.length c ∧ hs.length ≤ c ∧ c ≤ maxLen ∧ Arr hcells 1 W A hs.length hs := by
  obtain ⟨A, c, e, h1, h2, h3, -⟩ := OwnL.arr kdH h.o
  exact ⟨A, c, e, h1, h2, h3⟩
theorem Lr.app (h : Lr w W0 v hs) (g01 : Below W0.heap.size W0 W1) (h2 : Lr W1 W v2 hs2) (ho : OwnL hcells 1 25 W2 w.heap.size v' (hs ++ hs2)) (hg : W.grownBy W2 v.ownBlock) (hz : v'.ownBlock = v.ownBlock ∨ v'.ownBlock = some W.heap.size) : Lr w W2 v' (hs ++ hs2) := by
  have h0 := (h.ext g01).ext h2.g
  have hlt : ∀ k, v.ownBlock = some k → k < W1.heap.size := fun k hk => Nat.lt_of_lt_of_le (own_lt2 h.o hk) g01.size
  have hall : ∀ x ∈ hs ++ hs2, (Ints W x.A x.n x.r ∧ x.n ≤ x.c ∧ x.c ≤ maxLen) ∧ ∀ a, x.A = some a → v.ownBlock ≠ some a.block ∧ w.heap.size ≤ a.block ∧ a.block < W.heap.size := fun x hx => by
    rw [List.mem_append] at hx
    rcases hx with hx | hx
    · exact h0.per x hx
    · obtain ⟨h1, h4⟩ := h2.per x hx
      refine ⟨h1, fun a e => ⟨fun e2 => ?_, ?_, (h4 a e).2.2⟩⟩
      · have := hlt _ e2
        have := (h4 a e).2.1
        omega
      · have h5 := (h4 a e).2.1
        have h6 := (h.ext g01).g.size
        omega
  refine ⟨h0.g.trans (h0.o.below hg (Nat.le_refl _) h0.g.size), ho, fun x hx => ?_⟩
  obtain ⟨⟨h1, h3, h4⟩, h5⟩ := hall x hx
  refine ⟨⟨ints_grown h1 (fun a e => (h5 a e).1) hg, h3, h4⟩, fun a e => ?_⟩
  obtain ⟨k1, k2, k3⟩ := h5 a e
  refine ⟨?_, k2, Nat.lt_of_lt_of_le k3 hg.size⟩
  rcases hz with hz | hz
  · rw [hz]; exact k1
  · rw [hz]; intro e2; have := Option.some.inj e2; omega
end
/-- One list alone. -/
theorem Lr.one {w W : World} {A : Option Addr} {n c : Nat} {l : List Int} (g : Below w.heap.size w W) (o : OwnL icells 1 3 W w.heap.size (.slice A n c) l) : Lr w (W.alloc (.cells #[.slice A n c] 25)) (.slice (some ⟨W.heap.size, 0, none⟩) 1 1) [⟨l, A, n, c⟩] := by
  have g2 : Below W.heap.size W (W.alloc (.cells #[.slice A n c] 25)) := one_more _ _
  have o2 := o.ext g2
  obtain ⟨A', c', e, h1, h2, h3, -⟩ := OwnL.arr kdI o2
  simp only [Value.slice.injEq] at e
  obtain ⟨e1, e2, e3⟩ := e
  rw [← e1, ← e2] at h3
  refine ⟨g.trans (g2.mono g.size), own_mk (cur := #[.slice A n c]) hcells_len rfl g.size (Blk.new _ _ _) (Nat.le_refl _) (by unfold maxLen; omega) rfl rfl, fun x hx => ?_⟩
  rw [List.mem_singleton] at hx
  subst hx
  refine ⟨⟨h3, show n ≤ c by omega, show c ≤ maxLen by omega⟩, fun a e => ?_⟩
  have hob : (Value.slice A n c).ownBlock = some a.block := by
    have e' : A = some a := e
    rw [e']; rfl
  have h5 := own_lt2 o hob
  refine ⟨fun e2 => ?_, (own_block o hob).1, Nat.lt_of_lt_of_le h5 g2.size⟩
  have : W.heap.size = a.block := Option.some.inj e2
  omega
def morS (c : List Qf) (k : Nat) (b per : List Int) (i : Nat) : List (List Int) := ((per.take i).filter fun n => fitB c b n).flatMap fun n => moreK c k (b ++ [n])
theorem morS_succ (c : List Qf) (k : Nat) (b per : List Int) {i : Nat} (hi : i < per.length) : morS c k b per (i + 1) = morS c k b per i ++ (if fitB c b (per.getD i 0) = true then moreK c k (b ++ [per.getD i 0]) else []) := by
  unfold morS
  rw [filt_succ per (fun n => fitB c b n) hi, List.flatMap_append]
  congr 1
  split <;> simp
theorem morS_all (c : List Qf) (k : Nat) (b : List Int) : morS c k b (c.getD b.length q0).per (c.getD b.length q0).per.length = moreK c (k + 1) b := by
  unfold morS
  rw [List.take_length]; rfl
theorem morS_le (c : List Qf) (k : Nat) (b per : List Int) (i : Nat) : (morS c k b per i).length ≤ (morS c k b per per.length).length := by
  unfold morS
  rw [List.take_length]
  have e : (per.filter fun n => fitB c b n) = ((per.take i).filter fun n => fitB c b n) ++ ((per.drop i).filter fun n => fitB c b n) := by rw [← List.filter_append, List.take_append_drop]
  rw [e, List.flatMap_append, List.length_append]
  exact Nat.le_add_right _ _
/-- What more returns. -/
def MorEnd (L : List (List Int)) (w : World) (e : Ending) (w' : World) : Prop := ∃ v hs, e = .returned v ∧ Lr w w' v hs ∧ hs.map Hr.r = L
set_option maxRecDepth 100000 in
set_option maxHeartbeats 16000000 in
theorem refMore_any (A : Option Addr) (n c : Nat) (l : List Pf) (hn : n ≤ 60) (hp4 : ∀ p ∈ l, p.n ≤ 4) : ∀ (k : Nat) (B : Option Addr) (m d : Nat) (bg : List Int) (w : World) (_ : Prf w A n l) (_ : Ints w B m bg) (_ : m + k = n) (_ : (moreK (l.map Pf.q) k bg).length ≤ 2000),
    Calls Tryz.prog 79 #[.slice A n c, .slice B m d] w (MorEnd (moreK (l.map Pf.q) k bg) w)
  | 0, B, m, d, bg, w, ha, hb, hk, hL => by
    obtain rfl : m = n := by omega
    have hmm : ((m : Int) == (m : Int)) = true := by simp
    have HB := Lib.hid hb
    have OE := Lib.hid (show OwnL icells 1 3 (w.alloc (.cells #[] 3)) w.heap.size (.slice (some ⟨w.heap.size, 0, none⟩) 0 0) [] from own_empty icells_len w (Nat.le_refl _))
    have G3 := Lib.hid (show Below w.heap.size w (w.alloc (.cells #[] 3)) from one_more _ _)
    have HBX := Lib.hid (hb.below G3.out)
    have HBL := Lib.hid hb.1
    clear ha hb hL hp4
    go_enter Tryz.func79, Tryz.ntmps79
    go_wp2_with (first
      | (at_builtin; go_loud (refine wpList_app kdI (by rfl) _ _ (by rfl) w.heap.size _ [] (by rfl) OE.out _ m d bg (by rfl) HBX.out (by rw [List.length_nil]; omega) G3.out.size ?_); intro v' w' ho hgr hz; rw [List.nil_append] at ho; obtain ⟨A5, c5, e5, -, -, -, -⟩ := OwnL.arr kdI ho; rw [HBL.out] at e5; subst e5; have GX := Lib.hid (G3.out.trans (OE.out.below hgr (Nat.le_refl _) G3.out.size)); have HO := Lib.hid ho; clear ho hgr hz))
    go_ret
    exact ⟨_, _, rfl, Lr.one GX.out HO.out, rfl⟩
  | k + 1, B, m, d, bg, w, ha, hb, hk, hL => by
    have hmn : m < n := by omega
    have HMB := Lib.hid hb.1
    have hmne : ((m : Int) == (n : Int)) = false := beq_eq_false_iff_ne.2 (by omega)
    have HA := Lib.hid ha
    have HBI := Lib.hid hb
    have HIH := Lib.hid (fun B m d bg w ha hb hk hL => refMore_any A n c l hn hp4 k B m d bg w ha hb hk hL)
    have HFT := Lib.hid (fun (person : Int) (W : World) (g : Below w.heap.size w W) => refFits_any A n c l B m d bg person W (ha.below g) (by omega) (hb.below g) hmn)
    have HQY := Lib.hid (show (l.map Pf.q).getD m q0 = (l.getD m p0).q from map_pf (by rw [ha.len]; exact hmn))
    have HAL := morS_all (l.map Pf.q) k bg
    rw [hb.1, HQY.out] at HAL
    obtain ⟨b0, o0, eA, -, hyi, hym, hyc⟩ := ha.at hmn
    have hy4 := hp4 _ hym
    obtain ⟨y, hy⟩ : ∃ y, l.getD m p0 = y := ⟨_, rfl⟩
    rw [hy] at hyi hyc hy4 HAL
    have HYL := Lib.hid hyi.len
    have HST := Lib.hid (fun i (hi : i < y.n) => morS_succ (l.map Pf.q) k bg y.q.per (i := i) (by rw [hyi.len]; exact hi))
    have HLE := Lib.hid (fun i => (show (morS (l.map Pf.q) k bg y.q.per i).length ≤ 2000 from Nat.le_trans (morS_le _ _ _ _ i) (by rw [HAL]; exact hL)))
    rw [hyi.len] at HAL
    have HS0 := Lib.hid (show morS (l.map Pf.q) k bg y.q.per 0 = [] from rfl)
    obtain ⟨LQ, hLQ⟩ : ∃ x, l.map Pf.q = x := ⟨_, rfl⟩
    rw [hLQ] at HIH HFT HAL HST HLE HS0 ⊢
    obtain ⟨FIN, hFIN⟩ : ∃ x, moreK LQ (k + 1) bg = x := ⟨_, rfl⟩
    rw [hFIN] at HAL ⊢
    have HFIN := Lib.hid HAL
    obtain ⟨MS, hMS⟩ : ∃ f : Nat → List (List Int), morS LQ k bg y.q.per = f := ⟨_, rfl⟩
    rw [hMS] at HFIN HST HLE HS0
    obtain ⟨W1, hW1⟩ : ∃ X, w.alloc (.cells #[.int .i64 y.q.src, .int .i64 y.q.kind, .slice y.A y.n y.c, .int .i64 y.q.oth, .int .i64 y.q.par, .int .i64 y.q.day, .int .i64 y.q.thr, .int .i64 y.q.kno, .int .i64 y.q.unt] 56) = X := ⟨_, rfl⟩
    have G1 := Lib.hid (show Below w.heap.size w W1 by rw [← hW1]; exact one_more _ _)
    obtain ⟨bx, hbx⟩ : ∃ x, w.heap.size = x := ⟨_, rfl⟩
    have B1 := Lib.hid (show Blk W1 bx 56 #[.int .i64 y.q.src, .int .i64 y.q.kind, .slice y.A y.n y.c, .int .i64 y.q.oth, .int .i64 y.q.par, .int .i64 y.q.day, .int .i64 y.q.thr, .int .i64 y.q.kno, .int .i64 y.q.unt] by rw [← hW1, ← hbx]; exact Blk.new _ _ _)
    have HW1 := Lib.hid hW1
    have HBW := Lib.hid hbx
    have HYI := Lib.hid (hyi.below G1.out)
    subst eA
    obtain ⟨e0, e1, e2, e3, e4, e5, e6, e7, e8⟩ := hyc _ (Below.refl _ _)
    have hmi : (m : Int) < (n : Int) := by omega
    clear ha hb hyi hym hyc hy hLQ hFIN hMS hW1 hbx HAL hL hp4
    go_enter Tryz.func79, Tryz.ntmps79
    go_upto_region 5 with fail
    rw [HW1.out, HBW.out]
    clear e0 e1 e2 e3 e4 e5 e6 e7 e8 hmne hmi
    go_wp2_with fail
    go_loopw [5, 7] (fun v i wr => ∃ (j : Nat) (hs : List Hr), j ≤ y.n ∧ i = .int .i64 j ∧ Lr W1 wr v hs ∧ hs.map Hr.r = MS j) (fun _ i _ => y.n - (intOf i).toNat)
    case atStart => exact ⟨0, [], Nat.zero_le _, rfl, Lr.nil _, by rw [HS0.out]; rfl⟩
    case round =>
      obtain ⟨j, hs, hj, rfl, hlr, hhs⟩ := hrel
      have HLR := Lib.hid hlr
      have HHS := Lib.hid hhs
      have GZ := Lib.hid (G1.out.trans (hlr.g.mono G1.out.size))
      have HKB := Lib.hid (fun X (g : Below W1.heap.size W1 X) => (show X.cell? ⟨bx, 2, none⟩ = some (.slice y.A y.n y.c) from (B1.out.ext g).cell 2))
      clear hlr hhs
      by_cases hjn : j < y.n
      · have HS := Lib.hid (HST.out j hjn)
        have HLB := Lib.hid (show hs.length ≤ 2000 by have := HLE.out j; rw [← HHS.out, List.length_map] at this; exact this)
        have HLB2 := Lib.hid (HLE.out (j + 1))
        obtain ⟨b5, o5, eyA, -, -, hcp⟩ := ints_at HYI.out.i hjn
        obtain ⟨x, hx⟩ : ∃ x, y.q.per.getD j 0 = x := ⟨_, rfl⟩
        rw [hx] at HS hcp
        have HCP := Lib.hid hcp
        have TF := HFT.out x wr GZ.out
        have hki : (j : Int) < (y.n : Int) := by omega
        have hkd : decide ((j : Int) < (y.n : Int)) = true := decide_eq_true hki
        have hkd2 : decide (j < y.n) = true := decide_eq_true hjn
        have hwr2 : wrap64 ((j : Int) + 1) = (j : Int) + 1 := wrap_in (by omega)
        rw [eyA] at HKB
        have x2 := HKB.out wr HLR.out.g
        have xp := HCP.out wr HLR.out.g
        obtain ⟨fb, hfb⟩ : ∃ f, fitB LQ bg x = f := ⟨_, rfl⟩
        rw [hfb] at HS TF
        have HTF := Lib.hid TF
        clear hcp hx TF hfb eyA
        cases fb with
        | false =>
          have HS2 := Lib.hid (show MS (j + 1) = MS j by rw [HS.out, if_neg (by decide), List.append_nil])
          go_wp2_with (go_at_call 101; (with_reducible refine (HTF.out).mono ?_); rintro e V4 ⟨rfl, hg⟩; have G4 := Lib.hid hg; clear hg)
          go_roundw
          case rel => exact ⟨j + 1, hs, by omega, rfl, HLR.out.ext G4.out, by rw [HS2.out]; exact HHS.out⟩
          case measure => simp only [intOf]; omega
        | true =>
          have HS2 := Lib.hid (show MS (j + 1) = MS j ++ moreK LQ k (bg ++ [x]) by rw [HS.out, if_pos rfl])
          go_upto_region 9 with (go_at_call 101; (with_reducible refine (HTF.out).mono ?_); rintro e V4 ⟨rfl, hg⟩; have G4 := Lib.hid hg; clear hg)
          have HLR4 := Lib.hid (HLR.out.ext G4.out)
          have GZ4 := Lib.hid (GZ.out.trans (G4.out.mono GZ.out.size))
          clear x2 xp
          have x2 := HKB.out V4 HLR4.out.g
          have xp := HCP.out V4 HLR4.out.g
          have HA7 := Lib.hid (HBI.out.below GZ4.out)
          have HLL := Lib.hid (show bg.length + 2 ≤ 1000000 ∧ bg.length = m by have := HMB.out; omega)
          have HKPn := Lib.hid (fun X (g : Below V4.heap.size V4 X) => (⟨HKB.out X (HLR4.out.g.trans (g.mono HLR4.out.g.size)), HCP.out X (HLR4.out.g.trans (g.mono HLR4.out.g.size))⟩ : X.cell? ⟨bx, 2, none⟩ = some (.slice (some ⟨b5, o5, none⟩) y.n y.c) ∧ X.cell? ⟨b5, o5 + j, none⟩ = some (.int .i64 x)))
          go_cut [8] from 38 to 47 (fun s wx => ∃ A9 c9, s = .slice A9 (m + 1) c9 ∧ Ints wx A9 (m + 1) (bg ++ [x]) ∧ Below V4.heap.size V4 wx)
          case first =>
            have GE1 := Lib.hid (show Below V4.heap.size V4 (V4.alloc (.cells #[] 3)).drew from (one_more _ _).drew)
            have GE2 := Lib.hid (show Below V4.heap.size V4 ((V4.alloc (.cells #[] 3)).alloc (.cells #[.int .i64 x] 3)).drew from (two_more _ _ _).drew)
            have GE3 := Lib.hid (show Below V4.heap.size V4 ((V4.alloc (.cells #[.int .i64 x] 3)).alloc (.cells #[] 3)).drew from (two_more _ _ _).drew)
            have OE1 := Lib.hid (show OwnL icells 1 3 (V4.alloc (.cells #[] 3)).drew V4.heap.size (.slice (some ⟨V4.heap.size, 0, none⟩) 0 0) [] from own_empty icells_len V4 (Nat.le_refl _))
            have OE2 := Lib.hid (show OwnL icells 1 3 ((V4.alloc (.cells #[] 3)).alloc (.cells #[.int .i64 x] 3)).drew V4.heap.size (.slice (some ⟨V4.heap.size, 0, none⟩) 0 0) [] from OwnL.ext (w := V4.alloc (.cells #[] 3)) (own_empty icells_len V4 (Nat.le_refl _)) ((one_more (V4.alloc (.cells #[] 3)) (.cells #[.int .i64 x] 3)).drew))
            have OE3 := Lib.hid (show OwnL icells 1 3 ((V4.alloc (.cells #[.int .i64 x] 3)).alloc (.cells #[] 3)).drew V4.heap.size (.slice (some ⟨V4.heap.size + 1, 0, none⟩) 0 0) [] by
              have := own_empty (f := icells) (size := 1) (e := 3) icells_len (V4.alloc (.cells #[.int .i64 x] 3)) (base := V4.heap.size) (by rw [World.size_alloc]; omega)
              rw [World.size_alloc] at this
              exact this)
            have BX2 := Lib.hid (show Blk ((V4.alloc (.cells #[] 3)).alloc (.cells #[.int .i64 x] 3)).drew (V4.heap.size + 1) 3 #[.int .i64 x] from blk_second _ _ _ _)
            have BX3 := Lib.hid (show Blk ((V4.alloc (.cells #[.int .i64 x] 3)).alloc (.cells #[] 3)).drew V4.heap.size 3 #[.int .i64 x] from (Blk.new V4 3 #[.int .i64 x]).alloc _)
            obtain ⟨base, hbase⟩ : ∃ base, V4.heap.size = base := ⟨_, rfl⟩
            rw [hbase] at OE1 OE2 OE3 BX2 BX3
            have HBS := Lib.hid hbase
            go_region_held3 (fun X => X.cell? ⟨bx, 2, none⟩ = some (.slice (some ⟨b5, o5, none⟩) y.n y.c) ∧ X.cell? ⟨b5, o5 + j, none⟩ = some (.int .i64 x))
              (with_reducible refine HKPn.out _ ?_; repeat' first | (with_reducible exact Below.refl _ _) | (with_reducible exact HGA.out) | (with_reducible exact HGB.out) | (with_reducible refine Below.drew ?_) | (with_reducible refine Below.allo7 ?_ (by first | (simp; done) | (simp; omega) | omega) _))
              (first
                | (refine step_app kdI (by rfl) _ _ (by rfl) base _ [] (by rfl) OE1.out B m d bg (by rfl) (HA7.out.below GE1.out) (by have := HLL.out; simp; omega) (by have := GE1.out.size; have := HBS.out; omega) ?_; intro v1 w1 ho1 hg1 hat1; have hbw := OE1.out.below hg1 (Nat.le_refl base) (by have := GE1.out.size; have := HBS.out; omega); have HGA := Lib.hid (show Below V4.heap.size V4 w1 from GE1.out.trans (hbw.mono (by have := HBS.out; omega))); have HO1 := Lib.hid (show OwnL icells 1 3 w1 base v1 bg by simpa using ho1); have hsa : base ≤ w1.heap.size := (by have := HGA.out.size; have := HBS.out; omega); have HSA := Lib.hid hsa; clear hbw ho1 hg1 hat1)
                | (refine step_app kdI (by rfl) _ _ (by rfl) base _ [] (by rfl) OE2.out B m d bg (by rfl) (HA7.out.below GE2.out) (by have := HLL.out; simp; omega) (by have := GE2.out.size; have := HBS.out; omega) ?_; intro v1 w1 ho1 hg1 hat1; have hbw := OE2.out.below hg1 (Nat.le_refl base) (by have := GE2.out.size; have := HBS.out; omega); have HGA := Lib.hid (show Below V4.heap.size V4 w1 from GE2.out.trans (hbw.mono (by have := HBS.out; omega))); have HO1 := Lib.hid (show OwnL icells 1 3 w1 base v1 bg by simpa using ho1); have hsa : base ≤ w1.heap.size := (by have := HGA.out.size; have := HBS.out; omega); have HSA := Lib.hid hsa; have HBX := Lib.hid (show Blk w1 (base + 1) 3 _ from (hg1.block (base + 1) BX2.out.lt (by simp [Value.ownBlock])).trans BX2.out); clear hbw ho1 hg1 hat1)
                | (refine step_app kdI (by rfl) _ _ (by rfl) base _ [] (by rfl) OE3.out B m d bg (by rfl) (HA7.out.below GE3.out) (by have := HLL.out; simp; omega) (by have := GE3.out.size; have := HBS.out; omega) ?_; intro v1 w1 ho1 hg1 hat1; have hbw := OE3.out.below hg1 (Nat.le_refl base) (by have := GE3.out.size; have := HBS.out; omega); have HGA := Lib.hid (show Below V4.heap.size V4 w1 from GE3.out.trans (hbw.mono (by have := HBS.out; omega))); have HO1 := Lib.hid (show OwnL icells 1 3 w1 base v1 bg by simpa using ho1); have hsa : base ≤ w1.heap.size := (by have := HGA.out.size; have := HBS.out; omega); have HSA := Lib.hid hsa; have HBX := Lib.hid (show Blk w1 base 3 _ from (hg1.block base BX3.out.lt (by simp [Value.ownBlock])).trans BX3.out); clear hbw ho1 hg1 hat1)
                | (refine step_app kdI (by rfl) _ _ (by rfl) base v1 bg (by rfl) (HO1.out.ext (one_more w1 (.cells #[.int .i64 x] 3))) _ _ _ [x] (by rfl) (one_int (Blk.new w1 3 _)) (by have := HLL.out; omega) (by have := HSA.out; rw [World.size_alloc]; omega) ?_; intro v2 w2 ho2 hg2 hat2; have hbw := (HO1.out.ext (one_more w1 (.cells #[.int .i64 x] 3))).below hg2 (Nat.le_refl base) (by have := HSA.out; rw [World.size_alloc]; omega); have HGB := Lib.hid (show Below V4.heap.size V4 w2 from (HGA.out.trans ((one_more w1 _).mono (by have := HSA.out; have := HBS.out; omega))).trans (hbw.mono (by have := HBS.out; omega))); have HO2 := Lib.hid ho2; have hsb : base ≤ w2.heap.size := (by have := HGB.out.size; have := HBS.out; omega); have HSB := Lib.hid hsb; clear hbw ho2 hg2 hat2)
                | (refine step_app kdI (by rfl) _ _ (by rfl) base v1 bg (by rfl) HO1.out _ _ _ [x] (by rfl) (one_int HBX.out) (by have := HLL.out; omega) (by have := HSA.out; omega) ?_; intro v2 w2 ho2 hg2 hat2; have hbw := HO1.out.below hg2 (Nat.le_refl base) (by have := HSA.out; omega); have HGB := Lib.hid (show Below V4.heap.size V4 w2 from HGA.out.trans (hbw.mono (by have := HBS.out; omega))); have HO2 := Lib.hid ho2; have hsb : base ≤ w2.heap.size := (by have := HGB.out.size; have := HBS.out; omega); have HSB := Lib.hid hsb; clear hbw ho2 hg2 hat2))
            all_goals (try go_wp2_with fail)
            all_goals (
              obtain ⟨A9, c9, e9, k1, k2, har, -⟩ := OwnL.arr kdI HO2.out
              rw [List.length_append, List.length_singleton, HLL.out.2] at har e9
              subst e9
              go_meet
              exact ⟨A9, c9, rfl, har, HGB.out⟩)
          case rest =>
            obtain ⟨A9, c9, rfl, har, hg9⟩ := hcut
            rename_i hK9
            refine hK9 _ _ ?_
            clear hK9 x2 xp
            have HG9 := Lib.hid hg9
            have HLR9 := Lib.hid (HLR4.out.ext hg9)
            have GZ9 := Lib.hid (GZ4.out.trans (hg9.mono GZ4.out.size))
            have HSB2 := Lib.hid (show (moreK LQ k (bg ++ [x])).length ≤ 2000 ∧ hs.length + (moreK LQ k (bg ++ [x])).length ≤ 2000 by
              have h1 := HLB2.out
              rw [HS2.out, List.length_append, ← HHS.out, List.length_map] at h1
              omega)
            have TM := Lib.hid (HIH.out A9 (m + 1) c9 (bg ++ [x]) wc (HA.out.below GZ9.out) har (by omega) HSB2.out.1)
            obtain ⟨ML, hML⟩ : ∃ L, moreK LQ k (bg ++ [x]) = L := ⟨_, rfl⟩
            rw [hML] at TM HSB2 HS2
            clear har hg9 hML
            go_wp2_with (first
              | (go_at_call 79; (with_reducible refine (TM.out).mono ?_); rintro e W5 ⟨v5, hs5, rfl, hl5, hm5⟩; obtain ⟨A6, c6, e6, -, -, ha6⟩ := hl5.arr; subst e6; have HL5 := Lib.hid hl5; have HM5 := Lib.hid hm5; have HA6 := Lib.hid ha6; have HLX := Lib.hid (HLR9.out.ext hl5.g); clear hl5 hm5 ha6)
              | (at_builtin; go_loud ((refine wpList_app kdH (by rfl) _ _ (by rfl) W1.heap.size _ hs (by rfl) HLX.out.o A6 hs5.length c6 hs5 (by rfl) HA6.out (by have h1 := HSB2.out.2; rw [← HM5.out, List.length_map] at h1; omega) HLX.out.g.size ?_); intro v6 w6 ho hgr hz; have HL6 := Lib.hid (HLR4.out.app HG9.out HL5.out ho hgr hz); clear ho hgr hz)))
            go_roundw
            case rel => exact ⟨j + 1, _, by omega, by go_num, HL6.out, by rw [List.map_append, HHS.out, HM5.out, HS2.out]⟩
            case measure => simp [intOf]; omega
      · obtain rfl : j = y.n := by omega
        have x2 := HKB.out wr HLR.out.g
        go_wp2_with fail
        go_ret
        exact ⟨_, hs, rfl, HLR.out.low G1.out, by rw [HHS.out, HFIN.out]⟩
end Go.Proofs.YtehhlgdkhecacaaGreat
namespace Go.Proofs.YtehhlgdkhecacaaGreat
open Go.RowKit Go.Shelf
theorem refReads_any (A : Option Addr) (n c : Nat) (l : List Pf) (w : World) (ha : Prf w A n l) (hn : n ≤ 60) (h4 : ∀ p ∈ l, p.n ≤ 4) (hL : (reads (l.map Pf.q)).length ≤ 2000) :
    Calls Tryz.prog 79 #[.slice A n c, .slice none 0 0] w (MorEnd (reads (l.map Pf.q)) w) := by
  have e : reads (l.map Pf.q) = moreK (l.map Pf.q) n [] := by unfold reads; rw [List.length_map, ha.len]
  rw [e] at hL ⊢
  exact refMore_any A n c l hn h4 n none 0 0 [] w ha Arr.nil_ (by omega) hL
set_option maxRecDepth 100000 in
set_option maxHeartbeats 8000000 in
theorem refReadings_any (A : Option Addr) (n c : Nat) (l : List Pf) (known : Int) (w : World) (ha : Prf w A n l) (hn : n ≤ 9223372036854775807) :
    Calls Tryz.prog 49 #[.slice A n c, .int .i64 known] w fun e w' => e = .returned (.tuple #[.int .i64 (rdsN (l.map Pf.q) known), .int .i64 (lookE (l.map Pf.q) [known])]) ∧ Below w.heap.size w w' := by
  unfold rdsN
  have TA := Lib.hid (by have := refAsked_any A n c l 0 0 0 known false false w ha hn; rwa [rAsk_one] at this)
  have HOK := Lib.hid (fun (h : lookE (l.map Pf.q) [known] = 0) => ok_mem ha (look_ok h))
  have HRL0 := Lib.hid (fun (h : lookE (l.map Pf.q) [known] = 0) => reads_len (look_ok h) known)
  have TC := Lib.hid (fun (h : n ≤ 60) W (g : Below w.heap.size w W) => refCounting_any A n c l known W (ha.below g) (by omega))
  have HPF := Lib.hid (fun W (g : Below w.heap.size w W) p (hp : p ∈ l.filter fun p => cnt p.q known) => (ha.p p (List.mem_filter.1 hp).1).below g)
  have HFM := Lib.hid (fun p (hp : p ∈ l.filter fun p => cnt p.q known) => (List.mem_filter.1 hp).1)
  have HFL := Lib.hid (fun (h : n ≤ 60) => (show (l.filter fun p => cnt p.q known).length ≤ 60 by have h1 := List.length_filter_le (fun p : Pf => cnt p.q known) l; have h2 := ha.len; omega))
  have HFQ := Lib.hid (cntP_q l known)
  obtain ⟨le, hle⟩ : ∃ e, lookE (l.map Pf.q) [known] = e := ⟨_, rfl⟩
  have HLE := Lib.hid hle
  rw [hle] at TA HOK HRL0
  obtain ⟨fl, hfl⟩ : ∃ s, (l.filter fun p => cnt p.q known) = s := ⟨_, rfl⟩
  rw [hfl] at TC HPF HFM HFL HFQ
  rw [hle]
  obtain ⟨LQ, hLQ⟩ : ∃ x, cntL (l.map Pf.q) known = x := ⟨_, rfl⟩
  rw [hLQ] at HFQ HRL0 ⊢
  obtain ⟨RL, hRL⟩ : ∃ x, reads LQ = x := ⟨_, rfl⟩
  have HRD := Lib.hid (show reads (fl.map Pf.q) = RL by rw [HFQ.out]; exact hRL)
  rw [hRL] at HRL0 ⊢
  clear ha hle hfl hLQ hRL
  by_cases h0 : le = 0
  · obtain ⟨hn6, hp4⟩ := HOK.out h0
    have HP4 := Lib.hid hp4
    have HRL := Lib.hid (show (reads (fl.map Pf.q)).length ≤ 2000 by rw [HRD.out]; exact HRL0.out h0)
    subst h0
    rw [if_pos rfl]
    obtain ⟨RN, hRN⟩ : ∃ x, RL.length = x := ⟨_, rfl⟩
    have HRN := Lib.hid hRN
    rw [hRN]
    clear hp4 hRN
    go_enter Tryz.func49, Tryz.ntmps49
    go_wp2_with (first
      | (go_at_call 77; (with_reducible refine (TA.out).mono ?_); rintro e V ⟨rfl, hg⟩; have GV := Lib.hid hg; clear hg)
      | (go_at_call 71; (with_reducible refine (TC.out hn6 _ GV.out).mono ?_); rintro e V2 ⟨⟨v, rfl, ho⟩, hg⟩; obtain ⟨A2, c2, rfl, -, -, hp2⟩ := own_prf ho (fun p hp => (HPF.out _ (GV.out.trans (hg.mono GV.out.size)) p hp)); have HP2 := Lib.hid hp2; have G2 := Lib.hid (GV.out.trans (hg.mono GV.out.size)); have HTI := Lib.hid (by have := refReads_any A2 fl.length c2 fl V2 HP2.out (HFL.out hn6) (fun p hp => (HP4.out p (HFM.out p hp)).2) HRL.out; rwa [HRD.out] at this); clear ho hg hp2)
      | (go_at_call 79; (with_reducible refine (HTI.out).mono ?_); rintro e V3 ⟨v3, hs, rfl, hl3, hm3⟩; obtain ⟨A3, c3, e3, -, -, ha3⟩ := hl3.arr; subst e3; have HL3 := Lib.hid hl3; have HM3 := Lib.hid hm3; have HA3 := Lib.hid ha3; have G3 := Lib.hid (G2.out.trans (hl3.g.mono G2.out.size)); have HLN := Lib.hid (show hs.length = RN by rw [← HRN.out, ← hm3, List.length_map]); rw [HLN.out]; clear hl3 hm3 ha3))
    go_ret2
    exact ⟨rfl, G3.out⟩
  · have hne : (le != 0) = true := by simpa using h0
    rw [if_neg h0]
    clear h0
    go_enter Tryz.func49, Tryz.ntmps49
    go_wp2_with (go_at_call 77; (with_reducible refine (TA.out).mono ?_); rintro e V ⟨rfl, hg⟩; have GV := Lib.hid hg; clear hg)
    go_ret2
    exact ⟨rfl, GV.out⟩
set_option maxRecDepth 100000 in
set_option maxHeartbeats 8000000 in
theorem refReading_any (A : Option Addr) (n c : Nat) (l : List Pf) (known nth : Int) (w : World) (ha : Prf w A n l) (hn : n ≤ 9223372036854775807) :
    Calls Tryz.prog 50 #[.slice A n c, .int .i64 known, .int .i64 nth] w (RdEnd (l.map Pf.q) known nth w) := by
  have TA := Lib.hid (by have := refAsked_any A n c l 0 0 0 known false false w ha hn; rwa [rAsk_one] at this)
  have HOK := Lib.hid (fun (h : lookE (l.map Pf.q) [known] = 0) => ok_mem ha (look_ok h))
  have HRL0 := Lib.hid (fun (h : lookE (l.map Pf.q) [known] = 0) => reads_len (look_ok h) known)
  have TC := Lib.hid (fun (h : n ≤ 60) W (g : Below w.heap.size w W) => refCounting_any A n c l known W (ha.below g) (by omega))
  have HPF := Lib.hid (fun W (g : Below w.heap.size w W) p (hp : p ∈ l.filter fun p => cnt p.q known) => (ha.p p (List.mem_filter.1 hp).1).below g)
  have HFM := Lib.hid (fun p (hp : p ∈ l.filter fun p => cnt p.q known) => (List.mem_filter.1 hp).1)
  have HFL := Lib.hid (fun (h : n ≤ 60) => (show (l.filter fun p => cnt p.q known).length ≤ 60 by have h1 := List.length_filter_le (fun p : Pf => cnt p.q known) l; have h2 := ha.len; omega))
  have HFQ := Lib.hid (cntP_q l known)
  obtain ⟨le, hle⟩ : ∃ e, lookE (l.map Pf.q) [known] = e := ⟨_, rfl⟩
  have HLE := Lib.hid hle
  rw [hle] at TA HOK HRL0
  obtain ⟨fl, hfl⟩ : ∃ s, (l.filter fun p => cnt p.q known) = s := ⟨_, rfl⟩
  rw [hfl] at TC HPF HFM HFL HFQ
  have HDE := Lib.hid (show rdE (l.map Pf.q) known nth = if lookE (l.map Pf.q) [known] = 0 then (if 0 ≤ nth ∧ nth < (reads (cntL (l.map Pf.q) known)).length then 0 else 3) else lookE (l.map Pf.q) [known] from rfl)
  rw [hle] at HDE
  obtain ⟨LQ, hLQ⟩ : ∃ x, cntL (l.map Pf.q) known = x := ⟨_, rfl⟩
  have HLQ := Lib.hid hLQ
  rw [hLQ] at HFQ HRL0 HDE
  obtain ⟨RL, hRL⟩ : ∃ x, reads LQ = x := ⟨_, rfl⟩
  have HRLE := Lib.hid hRL
  have HRD := Lib.hid (show reads (fl.map Pf.q) = RL by rw [HFQ.out]; exact hRL)
  rw [hRL] at HRL0 HDE
  have TN := Lib.hid (in_any nth 0 ((RL.length : Int) - 1))
  clear ha hle hfl hLQ hRL
  by_cases h0 : le = 0
  · obtain ⟨hn6, hp4⟩ := HOK.out h0
    have HP4 := Lib.hid hp4
    have HRL := Lib.hid (show (reads (fl.map Pf.q)).length ≤ 2000 by rw [HRD.out]; exact HRL0.out h0)
    have HDE2 := Lib.hid (show rdE (l.map Pf.q) known nth = if 0 ≤ nth ∧ nth < RL.length then 0 else 3 by rw [HDE.out, if_pos h0])
    have HR2 := Lib.hid (show RL.length ≤ 2000 from HRL0.out h0)
    subst h0
    obtain ⟨RN, hRN⟩ : ∃ x, RL.length = x := ⟨_, rfl⟩
    have HRN := Lib.hid hRN
    rw [hRN] at TN HDE2 HR2
    have hwn : wrap64 ((RN : Int) - 1) = (RN : Int) - 1 := wrap_in (by have := HR2.out; omega)
    clear hp4 hRN
    by_cases hin : 0 ≤ nth ∧ nth < (RN : Int)
    · have HE := Lib.hid (show rdE (l.map Pf.q) known nth = 0 by rw [HDE2.out, if_pos hin])
      have TN2 := Lib.hid (show ∀ w : World, Calls Tryz.prog 108 #[.int .i64 nth, .int .i64 0, .int .i64 ((RN : Int) - 1)] w fun e w' => e = .returned (.bool true) ∧ w = w' by
        have e : rng nth 0 ((RN : Int) - 1) = true := by unfold rng; simp only [Bool.and_eq_true, decide_eq_true_eq]; omega
        have := TN.out; rwa [e] at this)
      obtain ⟨i, hi⟩ : ∃ i : Nat, nth = i := ⟨nth.toNat, by omega⟩
      subst hi
      have hir : i < RN := by omega
      have hir2 : (i : Int) < (RN : Int) := by omega
      clear hin
      go_enter Tryz.func50, Tryz.ntmps50
      go_upto_region 5 with (first
        | (go_at_call 77; (with_reducible refine (TA.out).mono ?_); rintro e V ⟨rfl, hg⟩; have GV := Lib.hid hg; clear hg)
        | (go_at_call 71; (with_reducible refine (TC.out hn6 _ GV.out).mono ?_); rintro e V2 ⟨⟨v, rfl, ho⟩, hg⟩; obtain ⟨A2, c2, rfl, -, -, hp2⟩ := own_prf ho (fun p hp => (HPF.out _ (GV.out.trans (hg.mono GV.out.size)) p hp)); have HP2 := Lib.hid hp2; have G2 := Lib.hid (GV.out.trans (hg.mono GV.out.size)); have HTI := Lib.hid (by have := refReads_any A2 fl.length c2 fl V2 HP2.out (HFL.out hn6) (fun p hp => (HP4.out p (HFM.out p hp)).2) HRL.out; rwa [HRD.out] at this); clear ho hg hp2)
        | (go_at_call 79; (with_reducible refine (HTI.out).mono ?_); rintro e V3 ⟨v3, hs, rfl, hl3, hm3⟩; obtain ⟨A3, c3, e3, -, -, ha3⟩ := hl3.arr; subst e3; have HL3 := Lib.hid hl3; have HM3 := Lib.hid hm3; have HA3 := Lib.hid ha3; have G3 := Lib.hid (G2.out.trans (hl3.g.mono G2.out.size)); have HLN := Lib.hid (show hs.length = RN by rw [← HRN.out, ← hm3, List.length_map]); rw [HLN.out]; clear hl3 hm3 ha3))
      obtain ⟨b6, o6, x6, e6, -, hx6, hc6⟩ := HA3.out.at (show i < hs.length by rw [HLN.out]; exact hir)
      subst e6
      have k6 := hc6 V3 (Below.refl _ _) 0 _ rfl
      rw [Nat.mul_one, Nat.add_zero] at k6
      have HX6 := Lib.hid hx6
      clear hc6 hx6
      go_wp2_with (go_at_call 108; (with_reducible refine (TN2.out _).mono ?_); rintro e w' ⟨rfl, rfl⟩)
      go_ret2
      obtain ⟨⟨p1, p2, p3⟩, -⟩ := HL3.out.per x6 (List.mem_of_getElem? HX6.out)
      refine rdEnd_ok HE.out p2 p3 ?_ G3.out
      have h7 : (hs.map Hr.r)[i]? = some x6.r := by rw [List.getElem?_map, HX6.out]; rfl
      rw [HLQ.out, HRLE.out, ← HM3.out, Int.toNat_natCast, List.getD_eq_getElem?_getD, h7]
      exact p1
    · have HE := Lib.hid (show rdE (l.map Pf.q) known nth = 3 by rw [HDE2.out, if_neg hin])
      have TN2 := Lib.hid (show ∀ w : World, Calls Tryz.prog 108 #[.int .i64 nth, .int .i64 0, .int .i64 ((RN : Int) - 1)] w fun e w' => e = .returned (.bool false) ∧ w = w' by
        have e : rng nth 0 ((RN : Int) - 1) = false := by unfold rng; rw [Bool.and_eq_false_iff, decide_eq_false_iff_not, decide_eq_false_iff_not]; omega
        have := TN.out; rwa [e] at this)
      clear hin
      go_enter Tryz.func50, Tryz.ntmps50
      go_wp2_with (first
        | (go_at_call 77; (with_reducible refine (TA.out).mono ?_); rintro e V ⟨rfl, hg⟩; have GV := Lib.hid hg; clear hg)
        | (go_at_call 71; (with_reducible refine (TC.out hn6 _ GV.out).mono ?_); rintro e V2 ⟨⟨v, rfl, ho⟩, hg⟩; obtain ⟨A2, c2, rfl, -, -, hp2⟩ := own_prf ho (fun p hp => (HPF.out _ (GV.out.trans (hg.mono GV.out.size)) p hp)); have HP2 := Lib.hid hp2; have G2 := Lib.hid (GV.out.trans (hg.mono GV.out.size)); have HTI := Lib.hid (by have := refReads_any A2 fl.length c2 fl V2 HP2.out (HFL.out hn6) (fun p hp => (HP4.out p (HFM.out p hp)).2) HRL.out; rwa [HRD.out] at this); clear ho hg hp2)
        | (go_at_call 79; (with_reducible refine (HTI.out).mono ?_); rintro e V3 ⟨v3, hs, rfl, hl3, hm3⟩; obtain ⟨A3, c3, e3, -, -, ha3⟩ := hl3.arr; subst e3; have HL3 := Lib.hid hl3; have HM3 := Lib.hid hm3; have HA3 := Lib.hid ha3; have G3 := Lib.hid (G2.out.trans (hl3.g.mono G2.out.size)); have HLN := Lib.hid (show hs.length = RN by rw [← HRN.out, ← hm3, List.length_map]); rw [HLN.out]; clear hl3 hm3 ha3)
        | (go_at_call 108; (with_reducible refine (TN2.out _).mono ?_); rintro e w' ⟨rfl, rfl⟩))
      go_ret2
      exact rdEnd_no HE.out (by decide) G3.out
  · have hne : (le != 0) = true := by simpa using h0
    have HE := Lib.hid (show rdE (l.map Pf.q) known nth = le by rw [HDE.out, if_neg h0])
    have HN0 := Lib.hid h0
    clear h0
    go_enter Tryz.func50, Tryz.ntmps50
    go_wp2_with (go_at_call 77; (with_reducible refine (TA.out).mono ?_); rintro e V ⟨rfl, hg⟩; have GV := Lib.hid hg; clear hg)
    go_ret2
    exact rdEnd_no HE.out HN0.out GV.out
end Go.Proofs.YtehhlgdkhecacaaGreat
namespace Go.Proofs.YtehhlgdkhecacaaGreat
open Go.RowKit Go.Shelf
theorem refRd_any (A : Option Addr) (n c : Nat) (l : List Pf) (w : World) (ha : Prf w A n l) (hok : okL (l.map Pf.q) = true) (hL : (reads (l.map Pf.q)).length ≤ 2000) :
    Calls Tryz.prog 79 #[.slice A n c, .slice none 0 0] w (MorEnd (reads (l.map Pf.q)) w) := by
  obtain ⟨h1, h2⟩ := ok_mem ha hok
  exact refReads_any A n c l w ha h1 (fun p hp => (h2 p hp).2) hL
theorem refLs_any (A : Option Addr) (n c : Nat) (l : List Pf) (s : Int) (w : World) (ha : Prf w A n l) (hok : okL (l.map Pf.q) = true) :
    Calls Tryz.prog 72 #[.slice A n c, .int .i64 s] w fun e w' => ∃ v ls, e = .returned v ∧ Md w w' v (.slice none 0 0) ls [] ∧ ls.map Pf.q = lssL (l.map Pf.q) s := by
  obtain ⟨h1, h2⟩ := ok_mem ha hok
  exact refLess_any A n c l s w ha (by omega) fun p hp => by have := h2 p hp; omega
set_option maxRecDepth 100000 in
set_option maxHeartbeats 8000000 in
theorem refClash_any (A : Option Addr) (n c : Nat) (l : List Pf) (known : Int) (w : World) (ha : Prf w A n l) (hn : n ≤ 9223372036854775807) :
    Calls Tryz.prog 52 #[.slice A n c, .int .i64 known] w (ListEnd (clashL (cntL (l.map Pf.q) known)) (clE (l.map Pf.q) known) w) := by
  have TA := Lib.hid (by have := refAsked_any A n c l 0 0 0 known false false w ha hn; rwa [rAsk_one] at this)
  have HOK := Lib.hid (fun (h : lookE (l.map Pf.q) [known] = 0) => ok_mem ha (look_ok h))
  have HRS := Lib.hid (fun (h : lookE (l.map Pf.q) [known] = 0) (s : List Qf) (hs : s.Sublist (cntL (l.map Pf.q) known)) => reads_subl (look_ok h) hs)
  have HUP := Lib.hid (fun (h : lookE (l.map Pf.q) [known] = 0) => (show (srcL (cntL (l.map Pf.q) known)).Pairwise (· < ·) from (okL_src (look_ok h)).sublist ((List.filter_sublist).map Qf.src)))
  have TC := Lib.hid (fun (h : n ≤ 60) W (g : Below w.heap.size w W) => refCounting_any A n c l known W (ha.below g) (by omega))
  have HPF := Lib.hid (fun W (g : Below w.heap.size w W) p (hp : p ∈ l.filter fun p => cnt p.q known) => (ha.p p (List.mem_filter.1 hp).1).below g)
  have HFM := Lib.hid (fun p (hp : p ∈ l.filter fun p => cnt p.q known) => (List.mem_filter.1 hp).1)
  have HFL := Lib.hid (fun (h : n ≤ 60) => (show (l.filter fun p => cnt p.q known).length ≤ 60 by have h1 := List.length_filter_le (fun p : Pf => cnt p.q known) l; have h2 := ha.len; omega))
  have HFQ := Lib.hid (cntP_q l known)
  obtain ⟨le, hle⟩ : ∃ e, lookE (l.map Pf.q) [known] = e := ⟨_, rfl⟩
  rw [hle] at TA HOK HRS HUP
  obtain ⟨fl, hfl⟩ : ∃ s, (l.filter fun p => cnt p.q known) = s := ⟨_, rfl⟩
  rw [hfl] at TC HPF HFM HFL HFQ
  have HCE := Lib.hid (show clE (l.map Pf.q) known = if lookE (l.map Pf.q) [known] = 0 then (if isRead (cntL (l.map Pf.q) known) = true then 25 else 0) else lookE (l.map Pf.q) [known] from rfl)
  rw [hle] at HCE
  obtain ⟨LQ, hLQ⟩ : ∃ x, cntL (l.map Pf.q) known = x := ⟨_, rfl⟩
  rw [hLQ] at HFQ HRS HUP HCE ⊢
  obtain ⟨ce, hce⟩ : ∃ x, clE (l.map Pf.q) known = x := ⟨_, rfl⟩
  rw [hce] at HCE ⊢
  clear ha hle hfl hLQ hce
  by_cases h0 : le = 0
  rotate_left
  · have hne : (le != 0) = true := by simpa using h0
    have HN0 := Lib.hid h0
    have h1 := HCE.out
    rw [if_neg h0] at h1
    subst h1
    clear h0
    go_enter Tryz.func52, Tryz.ntmps52
    go_wp2_with (go_at_call 77; (with_reducible refine (TA.out).mono ?_); rintro e V ⟨rfl, hg⟩; have GV := Lib.hid hg; clear hg)
    go_ret2
    exact listEnd_no HN0.out GV.out
  · obtain ⟨hn6, -⟩ := HOK.out h0
    have HR2 := Lib.hid (HRS.out h0)
    have HUPS := Lib.hid (HUP.out h0)
    have HSUB := Lib.hid (show okL (fl.map Pf.q) = true ∧ (reads (fl.map Pf.q)).length ≤ 2000 by rw [HFQ.out]; exact HR2.out _ (List.Sublist.refl _))
    have HCE2 := Lib.hid (show ce = if isRead LQ = true then 25 else 0 by rw [HCE.out, if_pos h0])
    subst h0
    obtain ⟨RN, hRN⟩ : ∃ x, (reads (fl.map Pf.q)).length = x := ⟨_, rfl⟩
    have HRN := Lib.hid hRN
    have HIR := Lib.hid (show isRead LQ = !decide (RN = 0) by rw [isRead_len, ← HFQ.out, hRN])
    clear hRN
    by_cases hz : RN = 0
    rotate_left
    · obtain rfl : ce = 25 := by rw [HCE2.out, HIR.out, decide_eq_false hz]; rfl
      have hd : decide ((0 : Int) < (RN : Int)) = true := decide_eq_true (by omega)
      have hd2 : decide (0 < RN) = true := decide_eq_true (by omega)
      clear hz
      go_enter Tryz.func52, Tryz.ntmps52
      go_wp2_with (first
        | (go_at_call 77; (with_reducible refine (TA.out).mono ?_); rintro e V ⟨rfl, hg⟩; have GV := Lib.hid hg; clear hg)
        | (go_at_call 71; (with_reducible refine (TC.out hn6 _ GV.out).mono ?_); rintro e V2 ⟨⟨v, rfl, ho⟩, hg⟩; obtain ⟨A2, c2, rfl, -, -, hp2⟩ := own_prf ho (fun p hp => (HPF.out _ (GV.out.trans (hg.mono GV.out.size)) p hp)); have HP2 := Lib.hid hp2; have G2 := Lib.hid (GV.out.trans (hg.mono GV.out.size)); have HTI := Lib.hid (refRd_any A2 fl.length c2 fl V2 HP2.out HSUB.out.1 HSUB.out.2); have HTS := Lib.hid (fun W (g : Below V2.heap.size V2 W) => refSources_any A2 fl.length c2 fl W (HP2.out.below g) (by have := HFL.out hn6; omega)); clear ho hg hp2)
        | (go_at_call 79; (with_reducible refine (HTI.out).mono ?_); rintro e V3 ⟨v3, hs, rfl, hl3, hm3⟩; obtain ⟨A3, c3, e3, -, -, -⟩ := hl3.arr; subst e3; have HL3 := Lib.hid hl3; have GS3 := Lib.hid hl3.g; have G3 := Lib.hid (G2.out.trans (hl3.g.mono G2.out.size)); have HLN := Lib.hid (show hs.length = RN by rw [← HRN.out, ← hm3, List.length_map]); rw [HLN.out]; clear hl3 hm3))
      go_ret2
      exact listEnd_no (by decide) G3.out
    · obtain rfl : ce = 0 := by rw [HCE2.out, HIR.out, decide_eq_true hz]; rfl
      have hd : decide ((0 : Int) < (RN : Int)) = false := decide_eq_false (by omega)
      have hd2 : decide (0 < RN) = false := decide_eq_false (by omega)
      clear hz
      go_enter Tryz.func52, Tryz.ntmps52
      go_upto_region 7 with (first
        | (go_at_call 77; (with_reducible refine (TA.out).mono ?_); rintro e V ⟨rfl, hg⟩; have GV := Lib.hid hg; clear hg)
        | (go_at_call 71; (with_reducible refine (TC.out hn6 _ GV.out).mono ?_); rintro e V2 ⟨⟨v, rfl, ho⟩, hg⟩; obtain ⟨A2, c2, rfl, -, -, hp2⟩ := own_prf ho (fun p hp => (HPF.out _ (GV.out.trans (hg.mono GV.out.size)) p hp)); have HP2 := Lib.hid hp2; have G2 := Lib.hid (GV.out.trans (hg.mono GV.out.size)); have HTI := Lib.hid (refRd_any A2 fl.length c2 fl V2 HP2.out HSUB.out.1 HSUB.out.2); have HTS := Lib.hid (fun W (g : Below V2.heap.size V2 W) => refSources_any A2 fl.length c2 fl W (HP2.out.below g) (by have := HFL.out hn6; omega)); clear ho hg hp2)
        | (go_at_call 79; (with_reducible refine (HTI.out).mono ?_); rintro e V3 ⟨v3, hs, rfl, hl3, hm3⟩; obtain ⟨A3, c3, e3, -, -, -⟩ := hl3.arr; subst e3; have HL3 := Lib.hid hl3; have GS3 := Lib.hid hl3.g; have G3 := Lib.hid (G2.out.trans (hl3.g.mono G2.out.size)); have HLN := Lib.hid (show hs.length = RN by rw [← HRN.out, ← hm3, List.length_map]); rw [HLN.out]; clear hl3 hm3))
      clear hd hd2
      have HLQL := Lib.hid (show LQ.length ≤ 60 ∧ fl.length = LQ.length by have h1 := HFL.out hn6; have h2 := HFQ.out; rw [← h2, List.length_map]; exact ⟨h1, rfl⟩)
      have HSRC := Lib.hid (show (fl.map fun p => p.q.src) = srcL LQ by rw [← srcL_map, HFQ.out])
      have HSL := Lib.hid (show (srcL LQ).length = LQ.length by unfold srcL; rw [List.length_map])
      go_upto_region 8 with (go_at_call 70; (with_reducible refine (HTS.out _ GS3.out).mono ?_); rintro e V4 ⟨⟨v4, rfl, ho⟩, hg⟩; rw [HSRC.out] at ho; obtain ⟨A4, c4, e4, -, -, ha4, -⟩ := OwnL.arr kdI ho; rw [HSL.out] at e4 ha4; subst e4; have HA4 := Lib.hid ha4; have G4 := Lib.hid (G3.out.trans (hg.mono G3.out.size)); have GS4 := Lib.hid (GS3.out.trans (hg.mono GS3.out.size)); clear ho hg ha4)
      obtain ⟨N, hN⟩ : ∃ x, LQ.length = x := ⟨_, rfl⟩
      have HN := Lib.hid hN
      have HST := Lib.hid (show ClI LQ N LQ by rw [← hN]; exact ClI.start LQ)
      have HSTEP := Lib.hid (fun (i : Nat) (hi : i < N) (s : List Qf) (h : ClI LQ (i + 1) s) => h.step HUPS.out (by rw [hN]; exact hi))
      rw [hN] at HA4 HLQL HSL ⊢
      have HP4 := Lib.hid (HP2.out.below GS4.out)
      rw [HLQL.out.2] at HP4 ⊢
      have hN6 := HLQL.out.1
      have hwn : wrap64 ((N : Int) - 1) = (N : Int) - 1 := wrap_in (by omega)
      clear hN
      go_wp2_with fail
      go_loopw [7, 9] (fun v i wr => ∃ (k : Nat) (A5 : Option Addr) (m5 c5 : Nat) (ls : List Pf), k ≤ N ∧ v = .slice A5 m5 c5 ∧ i = .int .i64 ((k : Int) - 1) ∧ Prf wr A5 m5 ls ∧ ClI LQ k (ls.map Pf.q) ∧ Below V4.heap.size V4 wr) (fun _ i _ => (intOf i + 1).toNat)
      case atStart => exact ⟨N, _, _, _, fl, Nat.le_refl _, rfl, rfl, HP4.out, by rw [HFQ.out]; exact HST.out, Below.refl _ _⟩
      case round =>
        obtain ⟨k, A5, m5, c5, ls, hk, rfl, rfl, hp5, hci, hg⟩ := hrel
        have HP5 := Lib.hid hp5
        have HCI := Lib.hid hci
        have HG := Lib.hid hg
        have HOK5 := Lib.hid (HR2.out _ hci.1)
        clear hp5 hci hg
        cases k with
        | zero =>
          have e1 : (((0 : Nat) : Int) - 1) = -1 := by decide
          rw [e1]
          have hd0 : decide ((0 : Int) ≤ -1) = false := by decide
          have HOKM := Lib.hid (ok_mem HP5.out HOK5.out.1)
          have HE := Lib.hid (show (ls.map fun p => p.q.src) = clashL LQ by rw [← srcL_map, HCI.out.stop])
          have TF := Lib.hid (by have := refSources_any A5 m5 c5 ls wr HP5.out (by have := HOKM.out.1; omega); rwa [HE.out] at this)
          go_wp2_with (go_at_call 70; (with_reducible refine (TF.out).mono ?_); rintro e V5 ⟨⟨v5, rfl, ho⟩, hg⟩; have HO5 := Lib.hid ho; have G5 := Lib.hid (G4.out.trans ((HG.out.trans (hg.mono HG.out.size)).mono G4.out.size)); clear ho hg)
          go_ret2
          exact listEnd_ok HO5.out G5.out
        | succ j =>
          have e1 : (((j + 1 : Nat) : Int) - 1) = (j : Int) := by omega
          rw [e1]
          have hjN : j < N := by omega
          have hd0 : decide ((0 : Int) ≤ (j : Int)) = true := decide_eq_true (by omega)
          have hd1 : (0 : Int) ≤ (j : Int) := by omega
          have hjN2 : (j : Int) < (N : Int) := by omega
          have hwj : wrap64 ((j : Int) - 1) = (j : Int) - 1 := wrap_in (by omega)
          obtain ⟨b6, o6, e6, -, -, hc6⟩ := ints_at (HA4.out.below HG.out) hjN
          subst e6
          obtain ⟨s, hs⟩ : ∃ s, (srcL LQ).getD j 0 = s := ⟨_, rfl⟩
          have HSP := Lib.hid (HSTEP.out j hjN _ HCI.out)
          rw [hs] at hc6 HSP
          have k6 := hc6 _ (Below.refl _ _)
          have TL := Lib.hid (refLs_any A5 m5 c5 ls s wr HP5.out HOK5.out.1)
          obtain ⟨LL, hLL⟩ : ∃ x, lssL (ls.map Pf.q) s = x := ⟨_, rfl⟩
          rw [hLL] at HSP TL
          have HOK6 := Lib.hid (HR2.out _ HSP.out.1)
          obtain ⟨rn, hrn⟩ : ∃ x, (reads LL).length = x := ⟨_, rfl⟩
          have HIR6 := Lib.hid (show isRead LL = !decide (rn = 0) by rw [isRead_len, hrn])
          have HRN6 := Lib.hid hrn
          clear hc6 hs hLL hrn e1
          by_cases hz : rn = 0
          · have hzb : ((rn : Int) == 0) = true := by simp; omega
            have HCJ := Lib.hid (HSP.out.2.2 (by rw [HIR6.out, decide_eq_true hz]; rfl))
            clear hz
            go_wp2_with (first
              | (go_at_call 72; (with_reducible refine (TL.out).mono ?_); rintro e W6 ⟨v6, ls6, rfl, hmd, hl6⟩; obtain ⟨A6, c6, e6, -, -, hp6⟩ := hmd.prf; subst e6; have HP6 := Lib.hid hp6; have HL6 := Lib.hid hl6; have HG6 := Lib.hid hmd.g; have TR := refRd_any A6 ls6.length c6 ls6 W6 hp6 (by rw [hl6]; exact HOK6.out.1) (by rw [hl6]; exact HOK6.out.2); rw [hl6] at TR; have HTR := Lib.hid TR; clear hmd hl6 hp6 TR)
              | (go_at_call 79; (with_reducible refine (HTR.out).mono ?_); rintro e W7 ⟨v7, hs7, rfl, hl7, hm7⟩; obtain ⟨A7, c7, e7, -, -, -⟩ := hl7.arr; subst e7; have HG7 := Lib.hid hl7.g; have HLN7 := Lib.hid (show hs7.length = rn by rw [← HRN6.out, ← hm7, List.length_map]); rw [HLN7.out]; clear hl7 hm7))
            go_roundw
            case rel => exact ⟨j, A6, ls6.length, c6, ls6, by omega, rfl, by go_num, HP6.out.below HG7.out, by rw [HL6.out]; exact HCJ.out, HG.out.trans ((HG6.out.trans (HG7.out.mono HG6.out.size)).mono HG.out.size)⟩
            case measure => simp [intOf]
          · have hzb : ((rn : Int) == 0) = false := by simp; omega
            have HCJ := Lib.hid (HSP.out.2.1 (by rw [HIR6.out, decide_eq_false hz]; rfl))
            clear hz
            go_wp2_with (first
              | (go_at_call 72; (with_reducible refine (TL.out).mono ?_); rintro e W6 ⟨v6, ls6, rfl, hmd, hl6⟩; obtain ⟨A6, c6, e6, -, -, hp6⟩ := hmd.prf; subst e6; have HP6 := Lib.hid hp6; have HL6 := Lib.hid hl6; have HG6 := Lib.hid hmd.g; have TR := refRd_any A6 ls6.length c6 ls6 W6 hp6 (by rw [hl6]; exact HOK6.out.1) (by rw [hl6]; exact HOK6.out.2); rw [hl6] at TR; have HTR := Lib.hid TR; clear hmd hl6 hp6 TR)
              | (go_at_call 79; (with_reducible refine (HTR.out).mono ?_); rintro e W7 ⟨v7, hs7, rfl, hl7, hm7⟩; obtain ⟨A7, c7, e7, -, -, -⟩ := hl7.arr; subst e7; have HG7 := Lib.hid hl7.g; have HLN7 := Lib.hid (show hs7.length = rn by rw [← HRN6.out, ← hm7, List.length_map]); rw [HLN7.out]; clear hl7 hm7))
            go_roundw
            case rel => exact ⟨j, A5, m5, c5, ls, by omega, rfl, by go_num, (HP5.out.below HG6.out).below HG7.out, HCJ.out, HG.out.trans ((HG6.out.trans (HG7.out.mono HG6.out.size)).mono HG.out.size)⟩
            case measure => simp [intOf]
end Go.Proofs.YtehhlgdkhecacaaGreat
namespace Go.Proofs.YtehhlgdkhecacaaGreat
open Go.RowKit Go.Shelf
theorem map_pf2 (l : List Pf) (i : Nat) : (l.map Pf.q).getD i q0 = (l.getD i p0).q := by
  by_cases h : i < l.length
  · exact map_pf h
  · rw [List.getD_eq_getElem?_getD, List.getElem?_eq_none (by rw [List.length_map]; omega), List.getD_eq_getElem?_getD, List.getElem?_eq_none (by omega)]; rfl
/-- The proofs that are named. -/
def pkP (fl : List Pf) (s : Int) : Pf := fl.getD ((srcL (fl.map Pf.q)).idxOf s) p0
theorem pkP_q (fl : List Pf) (b : List Int) : (b.map (pkP fl)).map Pf.q = b.map (pkF (fl.map Pf.q)) := by
  rw [List.map_map]
  refine List.map_congr_left fun s _ => ?_
  show (fl.getD ((srcL (fl.map Pf.q)).idxOf s) p0).q = _
  unfold pkF
  rw [map_pf2]
set_option maxRecDepth 100000 in
set_option maxHeartbeats 16000000 in
theorem refCheckClash_any (A : Option Addr) (n c : Nat) (l : List Pf) (known : Int) (B : Option Addr) (m d : Nat) (b : List Int) (w : World) (ha : Prf w A n l) (hn : n ≤ 9223372036854775807) (hb : Ints w B m b) (hm : m ≤ 9223372036854775807) :
    Calls Tryz.prog 55 #[.slice A n c, .int .i64 known, .slice B m d] w fun e w' => e = .returned (.int .i64 (ckClE (l.map Pf.q) known b)) ∧ Below w.heap.size w w' := by
  have TA := Lib.hid (by have := refAsked_any A n c l 0 0 0 known false false w ha hn; rwa [rAsk_one] at this)
  have HOK := Lib.hid (fun (h : lookE (l.map Pf.q) [known] = 0) => ok_mem ha (look_ok h))
  have HRS := Lib.hid (fun (h : lookE (l.map Pf.q) [known] = 0) (s : List Qf) (hs : s.Sublist (cntL (l.map Pf.q) known)) => reads_subl (look_ok h) hs)
  have HUP := Lib.hid (fun (h : lookE (l.map Pf.q) [known] = 0) => (show (srcL (cntL (l.map Pf.q) known)).Pairwise (· < ·) from (okL_src (look_ok h)).sublist ((List.filter_sublist).map Qf.src)))
  have TC := Lib.hid (fun (h : n ≤ 60) W (g : Below w.heap.size w W) => refCounting_any A n c l known W (ha.below g) (by omega))
  have HPF := Lib.hid (fun W (g : Below w.heap.size w W) p (hp : p ∈ l.filter fun p => cnt p.q known) => (ha.p p (List.mem_filter.1 hp).1).below g)
  have HFM := Lib.hid (fun p (hp : p ∈ l.filter fun p => cnt p.q known) => (List.mem_filter.1 hp).1)
  have HFL := Lib.hid (fun (h : n ≤ 60) => (show (l.filter fun p => cnt p.q known).length ≤ 60 by have h1 := List.length_filter_le (fun p : Pf => cnt p.q known) l; have h2 := ha.len; omega))
  have HFQ := Lib.hid (cntP_q l known)
  obtain ⟨le, hle⟩ : ∃ e, lookE (l.map Pf.q) [known] = e := ⟨_, rfl⟩
  rw [hle] at TA HOK HRS HUP
  obtain ⟨fl, hfl⟩ : ∃ s, (l.filter fun p => cnt p.q known) = s := ⟨_, rfl⟩
  rw [hfl] at TC HPF HFM HFL HFQ
  have HB := Lib.hid hb
  have HBL := Lib.hid hb.1
  have HCE := Lib.hid (show ckClE (l.map Pf.q) known b = if lookE (l.map Pf.q) [known] = 0 then err (ckCl (cntL (l.map Pf.q) known) b) 25 else lookE (l.map Pf.q) [known] from rfl)
  rw [hle] at HCE
  obtain ⟨LQ, hLQ⟩ : ∃ x, cntL (l.map Pf.q) known = x := ⟨_, rfl⟩
  rw [hLQ] at HFQ HRS HUP HCE
  obtain ⟨ce, hce⟩ : ∃ x, ckClE (l.map Pf.q) known b = x := ⟨_, rfl⟩
  rw [hce] at HCE ⊢
  clear ha hle hfl hLQ hce hb
  by_cases h0 : le = 0
  rotate_left
  · have hne : (le != 0) = true := by simpa using h0
    have h1 := HCE.out
    rw [if_neg h0] at h1
    subst h1
    clear h0
    go_enter Tryz.func55, Tryz.ntmps55
    go_wp2_with (go_at_call 77; (with_reducible refine (TA.out).mono ?_); rintro e V ⟨rfl, hg⟩; have GV := Lib.hid hg; clear hg)
    go_ret
    exact ⟨rfl, GV.out⟩
  · obtain ⟨hn6, -⟩ := HOK.out h0
    have HR2 := Lib.hid (HRS.out h0)
    have HUPS := Lib.hid (HUP.out h0)
    have HCE2 := Lib.hid (show ce = err (ckCl LQ b) 25 by rw [HCE.out, if_pos h0])
    have HF25 := Lib.hid (fun (h : ckCl LQ b = false) => (show ce = 25 by rw [HCE2.out, h]; rfl))
    have HFLN := Lib.hid (HFL.out hn6)
    have HLQL := Lib.hid (show LQ.length = fl.length by rw [← HFQ.out, List.length_map])
    subst h0
    go_enter Tryz.func55, Tryz.ntmps55
    go_upto_region 5 with (first
      | (go_at_call 77; (with_reducible refine (TA.out).mono ?_); rintro e V ⟨rfl, hg⟩; have GV := Lib.hid hg; clear hg)
      | (go_at_call 71; (with_reducible refine (TC.out hn6 _ GV.out).mono ?_); rintro e V2 ⟨⟨v, rfl, ho⟩, hg⟩; obtain ⟨A2, c2, rfl, -, -, hp2⟩ := own_prf ho (fun p hp => (HPF.out _ (GV.out.trans (hg.mono GV.out.size)) p hp)); have HP2 := Lib.hid hp2; have G2 := Lib.hid (GV.out.trans (hg.mono GV.out.size)); clear ho hg hp2))
    have HB2 := Lib.hid (HB.out.below G2.out)
    have HO0 := Lib.hid (OwnL.nil (f := pcells) (size := 9) (e := 56) V2 V2.heap.size)
    obtain ⟨ps, hps⟩ : ∃ f : Nat → List Pf, (fun k => (b.take k).map (pkP fl)) = f := ⟨_, rfl⟩
    have hpk : ∀ k, (b.take k).map (pkP fl) = ps k := fun k => by rw [← hps]
    have HPSS := Lib.hid (fun k (hk : k < m) => (show ps (k + 1) = ps k ++ [pkP fl (b.getD k 0)] by rw [← hpk, ← hpk, take_snoc (d := 0) (by rw [HBL.out]; exact hk), List.map_append]; rfl))
    have HPS0 := Lib.hid (show ps 0 = [] by rw [← hpk]; rfl)
    have HPSL := Lib.hid (fun k (hk : k ≤ m) => (show (ps k).length = k by rw [← hpk, List.length_map, List.length_take, HBL.out]; omega))
    have HPSE := Lib.hid (show ps m = b.map (pkP fl) by rw [← hpk, List.take_of_length_le (by rw [HBL.out]; exact Nat.le_refl _)])
    have HSHORT := Lib.hid (fun k (hk : k ≤ m) (h : ∀ j, j < k → b.getD j 0 ∈ srcL LQ ∧ (j = 0 ∨ b.getD (j - 1) 0 < b.getD j 0)) => (show k ≤ 60 by have := in_short HUPS.out (by rw [HBL.out]; exact hk) h; have h2 := HLQL.out; have h3 := HFLN.out; omega))
    clear hps hpk
    go_wp2_with fail
    go_loopw [9, 10] (fun v i wr => ∃ k : Nat, k ≤ m ∧ i = .int .i64 k ∧ OwnL pcells 9 56 wr V2.heap.size v (ps k) ∧ Below V2.heap.size V2 wr ∧ ∀ j, j < k → b.getD j 0 ∈ srcL LQ ∧ (j = 0 ∨ b.getD (j - 1) 0 < b.getD j 0)) (fun _ i _ => m - (intOf i).toNat)
    case atStart => exact ⟨0, Nat.zero_le _, rfl, by rw [HPS0.out]; exact HO0.out, Below.refl _ _, fun j hj => absurd hj (by omega)⟩
    case round =>
      obtain ⟨k, hk, rfl, ho, hg, hall⟩ := hrel
      have HO := Lib.hid ho
      have HG := Lib.hid hg
      have HALL := Lib.hid hall
      clear ho hg hall
      by_cases hkm : k < m
      · have HK60 := Lib.hid (HSHORT.out k hk HALL.out)
        have HPS1 := Lib.hid (HPSS.out k hkm)
        have HPL := Lib.hid (HPSL.out k hk)
        obtain ⟨b5, o5, rfl, -, hmem, hcb⟩ := ints_at (HB2.out.below HG.out) hkm
        have HMEM := Lib.hid (List.mem_of_getElem? hmem)
        have HPRE := Lib.hid (fun (h0 : k ≠ 0) => (show World.cell? wr ⟨b5, o5 + (k - 1), none⟩ = some (.int .i64 (b.getD (k - 1) 0)) by
          obtain ⟨b9, o9, e9, -, -, hc9⟩ := ints_at (HB2.out.below HG.out) (show k - 1 < m by omega)
          cases e9
          exact hc9 _ (Below.refl _ _)))
        have HUS := Lib.hid (fun (h0 : k ≠ 0) (h : ¬ b.getD (k - 1) 0 < b.getD k 0) => up_step (by rw [HBL.out]; exact hkm) h0 h)
        have HALLN := Lib.hid (fun (h : b.getD k 0 ∈ srcL LQ ∧ (k = 0 ∨ b.getD (k - 1) 0 < b.getD k 0)) => (show ∀ j, j < k + 1 → b.getD j 0 ∈ srcL LQ ∧ (j = 0 ∨ b.getD (j - 1) 0 < b.getD j 0) from fun j hj => by
          by_cases e : j = k
          · subst e; exact h
          · exact HALL.out j (by omega)))
        obtain ⟨x, hx⟩ : ∃ x, b.getD k 0 = x := ⟨_, rfl⟩
        rw [hx] at hcb HMEM HPS1 HUS HALLN
        obtain ⟨ac, hac⟩ : ∃ a, ps k = a := ⟨_, rfl⟩
        rw [hac] at HO HPS1 HPL
        have HAL := Lib.hid (show ac.length ≤ 60 by have := HPL.out; have := HK60.out; omega)
        have kx := hcb _ (Below.refl _ _)
        have TAT := at_any A2 fl.length c2 fl x wr (HP2.out.below HG.out) (by have := HFLN.out; omega)
        rw [HFQ.out] at TAT
        have hwr2 : wrap64 ((k : Int) + 1) = (k : Int) + 1 := wrap_in (by omega)
        have hki : (k : Int) < (m : Int) := by omega
        clear hmem hcb hx hac
        by_cases hin : x ∈ srcL LQ
        · have hat : atN LQ x = (((srcL LQ).idxOf x : Nat) : Int) := by
            unfold atN
            exact if_pos hin
          rw [hat] at TAT
          have hidx : (srcL LQ).idxOf x < fl.length := by
            have h1 := List.idxOf_lt_length_of_mem hin
            unfold srcL at h1
            rw [List.length_map, HLQL.out] at h1
            exact h1
          have HPS2 := Lib.hid (show ps (k + 1) = ac ++ [fl.getD ((srcL LQ).idxOf x) p0] by rw [HPS1.out]; unfold pkP; rw [HFQ.out])
          obtain ⟨ix, hix⟩ : ∃ i, (srcL LQ).idxOf x = i := ⟨_, rfl⟩
          rw [hix] at TAT hidx HPS2
          have TAT := Lib.hid TAT
          obtain ⟨y, hy⟩ : ∃ y, fl.getD ix p0 = y := ⟨_, rfl⟩
          rw [hy] at HPS2
          have HPS := Lib.hid HPS2.out
          have hin0 : decide ((ix : Int) < 0) = false := decide_eq_false (by omega)
          have hixf : (ix : Int) < (fl.length : Int) := by omega
          have HIN := Lib.hid hin
          clear hix hat hin
          go_upto_region 10 with (go_at_call 78; (with_reducible refine (TAT.out).mono ?_); rintro e V4 ⟨rfl, hg⟩; have G4 := Lib.hid hg; clear hg)
          have GX := Lib.hid (HG.out.trans (G4.out.mono HG.out.size))
          have kx4 := G4.out.cell (World.block_lt_of_cell? _ _ kx) |>.trans kx
          by_cases hk0 : k = 0
          · have hd0 : decide ((0 : Int) < (k : Int)) = false := decide_eq_false (by omega)
            have hd1 : decide (0 < k) = false := decide_eq_false (by omega)
            have HALL2 := Lib.hid (HALLN.out ⟨HIN.out, .inl hk0⟩)
            clear kx kx4 hk0
            go_upto_region 10 with fail
            refine wp_region_calm V4 (by kernel_rfl) (by kernel_rfl) (Below.refl _ _) ?_
            repeat (go_big_quiet_step (fail))
            refine wpQuiet_nil ?_
            rintro _ ⟨z, rfl⟩
            have GQ := Lib.hid z.ok
            go_upto_region 12 with fail
            obtain ⟨b7, o7, e7, -, hyi7, hym7, hyc7⟩ := ((HP2.out.below GX.out).below GQ.out).at hidx
            subst e7
            rw [hy] at hyi7 hym7 hyc7
            obtain ⟨e0, e1, e2, e3, e4, e5, e6, e7, e8⟩ := hyc7 _ (Below.refl _ _)
            have HO4 := Lib.hid ((HO.out.ext G4.out).ext GQ.out)
            have GZZ := Lib.hid (GX.out.trans (GQ.out.mono GX.out.size))
            have GX1 := Lib.hid (one_more z.val (.cells #[.int .i64 y.q.src, .int .i64 y.q.kind, .slice y.A y.n y.c, .int .i64 y.q.oth, .int .i64 y.q.par, .int .i64 y.q.day, .int .i64 y.q.thr, .int .i64 y.q.kno, .int .i64 y.q.unt] 56))
            have IX := Lib.hid (one_pf (x := y) (Blk.new z.val 56 #[.int .i64 y.q.src, .int .i64 y.q.kind, .slice y.A y.n y.c, .int .i64 y.q.oth, .int .i64 y.q.par, .int .i64 y.q.day, .int .i64 y.q.thr, .int .i64 y.q.kno, .int .i64 y.q.unt]))
            have OX := Lib.hid (HO4.out.ext GX1.out)
            have HSZ := Lib.hid (Nat.le_trans GZZ.out.size GX1.out.size)
            clear hyi7 hym7 hyc7 hy
            go_wp2_with (first | (at_builtin; go_loud (refine wpList_app kdQ (by rfl) _ _ (by rfl) V2.heap.size _ ac (by rfl) OX.out _ 1 1 [y] (by rfl) IX.out (by have := HAL.out; omega) HSZ.out ?_); intro v1 w1 ho hgr hz; have HO1 := Lib.hid ho; have GV1 := Lib.hid ((GZZ.out.trans (GX1.out.mono GZZ.out.size)).trans (OX.out.below hgr (Nat.le_refl _) HSZ.out)); clear ho hgr hz))
            go_roundw
            case rel => exact ⟨k + 1, by omega, by go_num, by rw [HPS.out]; exact HO1.out, GV1.out, HALL2.out⟩
            case measure => simp [intOf]; omega
          · have hd0 : decide ((0 : Int) < (k : Int)) = true := decide_eq_true (by omega)
            have hd1 : decide (0 < k) = true := decide_eq_true (by omega)
            have kp := HPRE.out hk0
            have kp4 := G4.out.cell (World.block_lt_of_cell? _ _ kp) |>.trans kp
            obtain ⟨j0, hj0⟩ : ∃ j, k - 1 = j := ⟨_, rfl⟩
            have hltl : (j0 : Int) < (m : Int) := by omega
            have hwr : wrap64 ((k : Int) - 1) = (j0 : Int) := by rw [wrap_in (by omega)]; omega
            have hwr3 : IntKind.i64.wrap ((k : Int) - 1) = (j0 : Int) := by rw [IntKind.wrap_i64]; omega
            rw [hj0] at kp4 HUS HALLN
            obtain ⟨x1, hx1⟩ : ∃ x, b.getD j0 0 = x := ⟨_, rfl⟩
            rw [hx1] at kp4 HUS HALLN
            have xp := cellW kp4
            have xk := cellW kx4
            have HK0 := Lib.hid hk0
            clear kx kx4 kp kp4 hj0 hx1
            by_cases hlt : x1 < x
            · have hd : decide (x ≤ x1) = false := decide_eq_false (by omega)
              have HALL2 := Lib.hid (HALLN.out ⟨HIN.out, .inr hlt⟩)
              clear hlt hk0
              go_upto_region 10 with fail
              refine wp_region_calm V4 (by kernel_rfl) (by kernel_rfl) (Below.refl _ _) ?_
              repeat (go_big_quiet_step (fail))
              refine wpQuiet_nil ?_
              rintro _ ⟨z, rfl⟩
              have GQ := Lib.hid z.ok
              clear xp xk hwr hwr3 hltl
              go_upto_region 12 with fail
              obtain ⟨b7, o7, e7, -, hyi7, hym7, hyc7⟩ := ((HP2.out.below GX.out).below GQ.out).at hidx
              subst e7
              rw [hy] at hyi7 hym7 hyc7
              obtain ⟨e0, e1, e2, e3, e4, e5, e6, e7, e8⟩ := hyc7 _ (Below.refl _ _)
              have HO4 := Lib.hid ((HO.out.ext G4.out).ext GQ.out)
              have GZZ := Lib.hid (GX.out.trans (GQ.out.mono GX.out.size))
              have GX1 := Lib.hid (one_more z.val (.cells #[.int .i64 y.q.src, .int .i64 y.q.kind, .slice y.A y.n y.c, .int .i64 y.q.oth, .int .i64 y.q.par, .int .i64 y.q.day, .int .i64 y.q.thr, .int .i64 y.q.kno, .int .i64 y.q.unt] 56))
              have IX := Lib.hid (one_pf (x := y) (Blk.new z.val 56 #[.int .i64 y.q.src, .int .i64 y.q.kind, .slice y.A y.n y.c, .int .i64 y.q.oth, .int .i64 y.q.par, .int .i64 y.q.day, .int .i64 y.q.thr, .int .i64 y.q.kno, .int .i64 y.q.unt]))
              have OX := Lib.hid (HO4.out.ext GX1.out)
              have HSZ := Lib.hid (Nat.le_trans GZZ.out.size GX1.out.size)
              clear hyi7 hym7 hyc7 hy
              go_wp2_with (first | (at_builtin; go_loud (refine wpList_app kdQ (by rfl) _ _ (by rfl) V2.heap.size _ ac (by rfl) OX.out _ 1 1 [y] (by rfl) IX.out (by have := HAL.out; omega) HSZ.out ?_); intro v1 w1 ho hgr hz; have HO1 := Lib.hid ho; have GV1 := Lib.hid ((GZZ.out.trans (GX1.out.mono GZZ.out.size)).trans (OX.out.below hgr (Nat.le_refl _) HSZ.out)); clear ho hgr hz))
              go_roundw
              case rel => exact ⟨k + 1, by omega, by go_num, by rw [HPS.out]; exact HO1.out, GV1.out, HALL2.out⟩
              case measure => simp [intOf]; omega
            · have hd : decide (x ≤ x1) = true := decide_eq_true (by omega)
              have hf := HF25.out (ckCl_no1 (HUS.out HK0.out (by omega)))
              subst hf
              clear hlt hk0 hy
              go_upto_region 10 with fail
              refine wp_region_calm V4 (by kernel_rfl) (by kernel_rfl) (Below.refl _ _) ?_
              repeat (go_big_quiet_step (fail))
              refine wpQuiet_nil ?_
              rintro _ ⟨z, rfl⟩
              have GQ := Lib.hid z.ok
              go_wp2
              go_ret
              exact ⟨rfl, G2.out.trans ((GX.out.trans (GQ.out.mono GX.out.size)).mono G2.out.size)⟩
        · have hat : atN LQ x = -1 := by
            unfold atN
            exact if_neg hin
          rw [hat] at TAT
          have TAT := Lib.hid TAT
          have hf := HF25.out (ckCl_nin HMEM.out hin)
          subst hf
          have hin0 : decide ((-1 : Int) < 0) = true := by decide
          clear hat hin
          go_upto_region 10 with (go_at_call 78; (with_reducible refine (TAT.out).mono ?_); rintro e V4 ⟨rfl, hg⟩; have G4 := Lib.hid hg; clear hg)
          have GX := Lib.hid (HG.out.trans (G4.out.mono HG.out.size))
          clear kx
          go_upto_region 10 with fail
          refine wp_region_calm V4 (by kernel_rfl) (by kernel_rfl) (Below.refl _ _) ?_
          repeat (go_big_quiet_step (fail))
          refine wpQuiet_nil ?_
          rintro _ ⟨z, rfl⟩
          have GQ := Lib.hid z.ok
          go_wp2
          go_ret
          exact ⟨rfl, G2.out.trans ((GX.out.trans (GQ.out.mono GX.out.size)).mono G2.out.size)⟩
      · obtain rfl : k = m := by omega
        have HK60 := Lib.hid (HSHORT.out k hk HALL.out)
        have HBUP := Lib.hid (show b.Pairwise (· < ·) from up_all2 fun j hj => (HALL.out j (by rw [HBL.out] at hj; exact hj)).2)
        have HBIN := Lib.hid (show ∀ x ∈ b, x ∈ srcL LQ from fun x hx => by
          obtain ⟨j, hj, rfl⟩ := List.mem_iff_getElem.1 hx
          have := (HALL.out j (by rw [HBL.out] at hj; exact hj)).1
          rwa [getD_int hj] at this)
        rw [HPSE.out] at HO
        have HSBQ := Lib.hid (show (b.map (pkP fl)).map Pf.q = ofL LQ b by rw [pkP_q, HFQ.out]; exact pk_of HUPS.out HBUP.out HBIN.out)
        obtain ⟨A5, c5, e5, -, -, hp5⟩ := own_prf HO.out (fun p hp => by
          obtain ⟨s, hs, rfl⟩ := List.mem_map.1 hp
          have hin := HBIN.out s hs
          have h1 := List.idxOf_lt_length_of_mem hin
          unfold srcL at h1
          rw [List.length_map, HLQL.out] at h1
          have h2 : pkP fl s ∈ fl := by
            unfold pkP
            rw [HFQ.out]
            exact mem_pf h1
          exact (HP2.out.p _ h2).below HG.out)
        subst e5
        have HP5 := Lib.hid hp5
        have HSUB := Lib.hid (HR2.out _ (ofL_sub LQ b))
        have T5 := refRd_any A5 (b.map (pkP fl)).length c5 (b.map (pkP fl)) wr HP5.out (by rw [HSBQ.out]; exact HSUB.out.1) (by rw [HSBQ.out]; exact HSUB.out.2)
        rw [HSBQ.out] at T5
        have HTI := Lib.hid T5
        obtain ⟨SB, hSB⟩ : ∃ x, b.map (pkP fl) = x := ⟨_, rfl⟩
        rw [hSB] at HP5 HSBQ HTI ⊢
        obtain ⟨OB, hOB⟩ : ∃ x, ofL LQ b = x := ⟨_, rfl⟩
        have HOB := Lib.hid hOB
        rw [hOB] at HSBQ HTI HSUB
        obtain ⟨RN, hRN⟩ : ∃ x, (reads OB).length = x := ⟨_, rfl⟩
        have HRN := Lib.hid hRN
        have HIR := Lib.hid (show isRead (ofL LQ b) = !decide (RN = 0) by rw [isRead_len, hOB, hRN])
        have HLSS := Lib.hid (fun i (hi : i < k) => (show lssL OB (b.getD i 0) = ofL LQ (b.eraseIdx i) by rw [← hOB]; exact of_lss HUPS.out HBUP.out HBIN.out (by rw [HBL.out]; exact hi)))
        have HYES := Lib.hid (fun (h3 : isRead (ofL LQ b) = false) (h4 : ∀ i, i < k → isRead (ofL LQ (b.eraseIdx i)) = true) => ckCl_yes HUPS.out (upB_iff.2 HBUP.out) ((ofL_len HUPS.out HBUP.out).2 HBIN.out) h3 (fun i hi => h4 i (by rw [HBL.out] at hi; exact hi)))
        obtain ⟨n5, hn5⟩ : ∃ x, SB.length = x := ⟨_, rfl⟩
        rw [hn5] at HP5 HTI ⊢
        have GW := Lib.hid (G2.out.trans (HG.out.mono G2.out.size))
        clear hp5 T5 hSB hOB hRN hn5
        by_cases hz : RN = 0
        rotate_left
        · have hf := HF25.out (ckCl_no3 (by rw [HIR.out, decide_eq_false hz]; rfl))
          subst hf
          have hd : decide ((0 : Int) < (RN : Int)) = true := decide_eq_true (by omega)
          have hd2 : decide (0 < RN) = true := decide_eq_true (by omega)
          clear hz
          go_wp2_with (go_at_call 79; (with_reducible refine (HTI.out).mono ?_); rintro e V3 ⟨v3, hs, rfl, hl3, hm3⟩; obtain ⟨A3, c3, e3, -, -, -⟩ := hl3.arr; subst e3; have GS3 := Lib.hid hl3.g; have G3 := Lib.hid (GW.out.trans (hl3.g.mono GW.out.size)); have HLN := Lib.hid (show hs.length = RN by rw [← HRN.out, ← hm3, List.length_map]); rw [HLN.out]; clear hl3 hm3)
          go_ret
          exact ⟨rfl, G3.out⟩
        · have HNR := Lib.hid (show isRead (ofL LQ b) = false by rw [HIR.out, decide_eq_true hz]; rfl)
          have hd : decide ((0 : Int) < (RN : Int)) = false := decide_eq_false (by omega)
          have hd2 : decide (0 < RN) = false := decide_eq_false (by omega)
          clear hz
          go_upto_region 15 with (go_at_call 79; (with_reducible refine (HTI.out).mono ?_); rintro e V3 ⟨v3, hs, rfl, hl3, hm3⟩; obtain ⟨A3, c3, e3, -, -, -⟩ := hl3.arr; subst e3; have GS3 := Lib.hid hl3.g; have G3 := Lib.hid (GW.out.trans (hl3.g.mono GW.out.size)); have HLN := Lib.hid (show hs.length = RN by rw [← HRN.out, ← hm3, List.length_map]); rw [HLN.out]; clear hl3 hm3)
          clear hd hd2
          have HP6 := Lib.hid (HP5.out.below GS3.out)
          have HB3 := Lib.hid (HB.out.below G3.out)
          clear GS3
          go_wp2_with fail
          go_loopw [12] (fun i wq => ∃ q : Nat, q ≤ k ∧ i = .int .i64 q ∧ Below V3.heap.size V3 wq ∧ ∀ j, j < q → isRead (ofL LQ (b.eraseIdx j)) = true) (fun i _ => k - (intOf i).toNat)
          case atStart => exact ⟨0, Nat.zero_le _, rfl, Below.refl _ _, fun j hj => absurd hj (by omega)⟩
          case round =>
            obtain ⟨q, hq, rfl, hg, hall⟩ := hrel
            have HGQ := Lib.hid hg
            have HALQ := Lib.hid hall
            clear hg hall
            by_cases hqk : q < k
            · have HLS := Lib.hid (HLSS.out q hqk)
              obtain ⟨b8, o8, rfl, -, -, hc8⟩ := ints_at (HB3.out.below HGQ.out) hqk
              obtain ⟨x, hx⟩ : ∃ x, b.getD q 0 = x := ⟨_, rfl⟩
              rw [hx] at HLS hc8
              have kx := hc8 _ (Below.refl _ _)
              have HNO := Lib.hid (fun (h : isRead (ofL LQ (b.eraseIdx q)) = false) => ckCl_no4 (c := LQ) (show q < b.length by rw [HBL.out]; exact hqk) h)
              have HOK6 := Lib.hid (HR2.out _ (ofL_sub LQ (b.eraseIdx q)))
              obtain ⟨LL, hLL⟩ : ∃ x, ofL LQ (b.eraseIdx q) = x := ⟨_, rfl⟩
              have HLL := Lib.hid hLL
              rw [hLL] at HLS HNO HOK6
              have TL := refLs_any A5 n5 c5 SB x wr (HP6.out.below HGQ.out) (by rw [HSBQ.out]; exact HSUB.out.1)
              rw [HSBQ.out, HLS.out] at TL
              have TL := Lib.hid TL
              obtain ⟨rn, hrn⟩ : ∃ x, (reads LL).length = x := ⟨_, rfl⟩
              have HRN6 := Lib.hid hrn
              have HIR6 := Lib.hid (show isRead LL = !decide (rn = 0) by rw [isRead_len, hrn])
              have hwr2 : wrap64 ((q : Int) + 1) = (q : Int) + 1 := wrap_in (by omega)
              have hqi : (q : Int) < (k : Int) := by omega
              clear hc8 hx hLL hrn
              by_cases hz : rn = 0
              · have hzb : ((rn : Int) == 0) = true := by simp; omega
                have hf := HF25.out (HNO.out (by rw [HIR6.out, decide_eq_true hz]; rfl))
                subst hf
                clear hz
                go_wp2_with (first
                  | (go_at_call 72; (with_reducible refine (TL.out).mono ?_); rintro e W6 ⟨v6, ls6, rfl, hmd, hl6⟩; obtain ⟨A6, c6, e6, -, -, hp6⟩ := hmd.prf; subst e6; have HP6 := Lib.hid hp6; have HG6 := Lib.hid hmd.g; have TR := refRd_any A6 ls6.length c6 ls6 W6 hp6 (by rw [hl6]; exact HOK6.out.1) (by rw [hl6]; exact HOK6.out.2); rw [hl6] at TR; have HTR := Lib.hid TR; clear hmd hl6 hp6 TR)
                  | (go_at_call 79; (with_reducible refine (HTR.out).mono ?_); rintro e W7 ⟨v7, hs7, rfl, hl7, hm7⟩; obtain ⟨A7, c7, e7, -, -, -⟩ := hl7.arr; subst e7; have HG7 := Lib.hid hl7.g; have HLN7 := Lib.hid (show hs7.length = rn by rw [← HRN6.out, ← hm7, List.length_map]); rw [HLN7.out]; clear hl7 hm7))
                go_ret
                exact ⟨rfl, G3.out.trans ((HGQ.out.trans ((HG6.out.trans (HG7.out.mono HG6.out.size)).mono HGQ.out.size)).mono G3.out.size)⟩
              · have hzb : ((rn : Int) == 0) = false := by simp; omega
                have HT6 := Lib.hid (show isRead LL = true by rw [HIR6.out, decide_eq_false hz]; rfl)
                clear hz
                go_wp2_with (first
                  | (go_at_call 72; (with_reducible refine (TL.out).mono ?_); rintro e W6 ⟨v6, ls6, rfl, hmd, hl6⟩; obtain ⟨A6, c6, e6, -, -, hp6⟩ := hmd.prf; subst e6; have HP6 := Lib.hid hp6; have HG6 := Lib.hid hmd.g; have TR := refRd_any A6 ls6.length c6 ls6 W6 hp6 (by rw [hl6]; exact HOK6.out.1) (by rw [hl6]; exact HOK6.out.2); rw [hl6] at TR; have HTR := Lib.hid TR; clear hmd hl6 hp6 TR)
                  | (go_at_call 79; (with_reducible refine (HTR.out).mono ?_); rintro e W7 ⟨v7, hs7, rfl, hl7, hm7⟩; obtain ⟨A7, c7, e7, -, -, -⟩ := hl7.arr; subst e7; have HG7 := Lib.hid hl7.g; have HLN7 := Lib.hid (show hs7.length = rn by rw [← HRN6.out, ← hm7, List.length_map]); rw [HLN7.out]; clear hl7 hm7))
                go_roundw
                case rel => exact ⟨q + 1, by omega, by go_num, HGQ.out.trans ((HG6.out.trans (HG7.out.mono HG6.out.size)).mono HGQ.out.size), fun j hj => by
                  by_cases e : j = q
                  · subst e; rw [HLL.out]; exact HT6.out
                  · exact HALQ.out j (by omega)⟩
                case measure => simp [intOf]; omega
            · obtain rfl : q = k := by omega
              have hf : ce = 0 := by rw [HCE2.out, HYES.out HNR.out HALQ.out]; rfl
              subst hf
              go_wp2_with fail
              go_ret
              exact ⟨rfl, G3.out.trans (HGQ.out.mono G3.out.size)⟩
end Go.Proofs.YtehhlgdkhecacaaGreat
namespace Go.Proofs.YtehhlgdkhecacaaGreat
open Go.RowKit Go.Shelf
set_option maxRecDepth 100000 in
set_option maxHeartbeats 16000000 in
theorem law12_any (A : Option Addr) (n c : Nat) (l : List Pf) (z0 z1 : Int) (C : Option Addr) (m c1 : Nat) (rd : List Int) (B : Option Addr) (k d : Nat) (by_ : List Int) (w : World) (ha : Prf w A n l) (hn : n ≤ 9223372036854775807) (hr : Ints w C m rd) (hmc : m ≤ c1) (hc1 : c1 ≤ 9223372036854775807) (hb : Ints w B k by_) (hkd : k ≤ d) (hd : d ≤ 9223372036854775807) :
    Calls Tryz.prog 12 #[.slice A n c, .agg #[.int .i64 z0, .int .i64 z1, .slice C m c1], .slice B k d] w fun e w' => e = .returned (.bool true) ∧ Below w.heap.size w w' := by
  obtain ⟨b, hbx⟩ : ∃ b, w.heap.size = b := ⟨_, rfl⟩
  obtain ⟨W1, hW1⟩ : ∃ X, w.alloc (.cells #[.int .i64 z0, .int .i64 z1, .slice C m c1] 76) = X := ⟨_, rfl⟩
  have G1 := Lib.hid (show Below w.heap.size w W1 by rw [← hW1]; exact one_more _ _)
  have B1 := Lib.hid (show Blk W1 b 76 #[.int .i64 z0, .int .i64 z1, .slice C m c1] by rw [← hW1, ← hbx]; exact Blk.new _ _ _)
  have HW1 := Lib.hid hW1
  have HBX := Lib.hid hbx
  have HA := Lib.hid (ha.below G1.out)
  have HR := Lib.hid (hr.below G1.out)
  have HBY := Lib.hid (hb.below G1.out)
  have T41 := Lib.hid (fun W (g : Below W1.heap.size W1 W) => readingsF_any A n c l z0 W (HA.out.below g) hn)
  have T49 := Lib.hid (fun W (g : Below W1.heap.size W1 W) => refReadings_any A n c l z0 W (HA.out.below g) hn)
  have T44 := Lib.hid (fun W (g : Below W1.heap.size W1 W) => readingF_any A n c l z0 z1 W (HA.out.below g) hn)
  have T50 := Lib.hid (fun W (g : Below W1.heap.size W1 W) => refReading_any A n c l z0 z1 W (HA.out.below g) hn)
  have T51 := Lib.hid (fun W (g : Below W1.heap.size W1 W) => clash_any A n c l z0 W (HA.out.below g) hn)
  have T52 := Lib.hid (fun W (g : Below W1.heap.size W1 W) => refClash_any A n c l z0 W (HA.out.below g) hn)
  have T45 := Lib.hid (fun W (g : Below W1.heap.size W1 W) => checkReading_any A n c l z0 C m c1 rd W (HA.out.below g) hn (HR.out.below g) hmc hc1)
  have T53 := Lib.hid (fun W (g : Below W1.heap.size W1 W) => refCheckReading_any A n c l z0 C m c1 rd W (HA.out.below g) hn (HR.out.below g) hmc hc1)
  have T54 := Lib.hid (fun W (g : Below W1.heap.size W1 W) => checkClash_any A n c l z0 B k d by_ W (HA.out.below g) hn (HBY.out.below g) (by omega))
  have T55 := Lib.hid (fun W (g : Below W1.heap.size W1 W) => refCheckClash_any A n c l z0 B k d by_ W (HA.out.below g) hn (HBY.out.below g) (by omega))
  have T20 := Lib.hid sane_any
  unfold RdEnd at T44 T50
  unfold ListEnd at T51 T52
  obtain ⟨LR, hLR⟩ : ∃ x, rdV (l.map Pf.q) z0 z1 = x := ⟨_, rfl⟩
  obtain ⟨LC, hLC⟩ : ∃ x, (if clE (l.map Pf.q) z0 = 0 then clashL (cntL (l.map Pf.q) z0) else []) = x := ⟨_, rfl⟩
  rw [hLR] at T44 T50
  rw [hLC] at T51 T52
  obtain ⟨NR, hNR⟩ : ∃ x, rdsN (l.map Pf.q) z0 = x := ⟨_, rfl⟩
  obtain ⟨EL, hEL⟩ : ∃ x, lookE (l.map Pf.q) [z0] = x := ⟨_, rfl⟩
  obtain ⟨ER, hER⟩ : ∃ x, rdE (l.map Pf.q) z0 z1 = x := ⟨_, rfl⟩
  obtain ⟨EC, hEC⟩ : ∃ x, clE (l.map Pf.q) z0 = x := ⟨_, rfl⟩
  obtain ⟨EK, hEK⟩ : ∃ x, ckRdE (l.map Pf.q) z0 rd = x := ⟨_, rfl⟩
  obtain ⟨EQ, hEQ⟩ : ∃ x, ckClE (l.map Pf.q) z0 by_ = x := ⟨_, rfl⟩
  rw [hNR, hEL] at T41 T49
  rw [hER] at T44 T50
  rw [hEC] at T51 T52
  rw [hEK] at T45 T53
  rw [hEQ] at T54 T55
  clear ha hr hb hW1 hbx hLR hLC hNR hEL hER hEC hEK hEQ
  go_enter Tryz.func12, Tryz.ntmps12
  go_upto_region 1 with fail
  rw [HW1.out, HBX.out]
  have k0 := B1.out.cell 0
  go_upto_region 2 with (go_at_call 41; (with_reducible refine (T41.out _ (Below.refl _ _)).mono ?_); rintro e V1 ⟨rfl, hg⟩; have GV1 := Lib.hid hg; have BV1 := Lib.hid (B1.out.ext hg); have HS1 := Lib.hid hg; clear hg)
  clear k0
  have k0 := BV1.out.cell 0
  go_upto_region 3 with (go_at_call 49; (with_reducible refine (T49.out _ GV1.out).mono ?_); rintro e V2 ⟨rfl, hg⟩; have GV2 := Lib.hid (GV1.out.trans (hg.mono GV1.out.size)); have BV2 := Lib.hid (B1.out.ext (GV1.out.trans (hg.mono GV1.out.size))); have HS2 := Lib.hid hg; clear hg)
  clear k0
  have k0 := BV2.out.cell 0
  have k1 := BV2.out.cell 1
  go_upto_region 4 with (go_at_call 44; (with_reducible refine (T44.out _ GV2.out).mono ?_); rintro e V3 ⟨⟨A3, n3, c13, rfl, hnc, hcm, hi⟩, hg⟩; have I3 := Lib.hid hi; have N3 := Lib.hid (show n3 ≤ 9223372036854775807 by unfold maxLen at hcm; omega); have GV3 := Lib.hid (GV2.out.trans (hg.mono GV2.out.size)); have BV3 := Lib.hid (B1.out.ext (GV2.out.trans (hg.mono GV2.out.size))); have HS3 := Lib.hid hg; clear hi hg hnc hcm)
  clear k0 k1
  have k0 := BV3.out.cell 0
  have k1 := BV3.out.cell 1
  go_upto_region 5 with (go_at_call 50; (with_reducible refine (T50.out _ GV3.out).mono ?_); rintro e V4 ⟨⟨A4, n4, c14, rfl, hnc, hcm, hi⟩, hg⟩; have I4 := Lib.hid hi; have N4 := Lib.hid (show n4 ≤ 9223372036854775807 by unfold maxLen at hcm; omega); have GV4 := Lib.hid (GV3.out.trans (hg.mono GV3.out.size)); have BV4 := Lib.hid (B1.out.ext (GV3.out.trans (hg.mono GV3.out.size))); have HS4 := Lib.hid hg; clear hi hg hnc hcm)
  clear k0 k1
  have k0 := BV4.out.cell 0
  go_upto_region 6 with (go_at_call 51; (with_reducible refine (T51.out _ GV4.out).mono ?_); rintro e V5 ⟨A5, n5, c15, rfl, hi, hnc, hcm, hg⟩; have I5 := Lib.hid hi; have N5 := Lib.hid (show n5 ≤ 9223372036854775807 by unfold maxLen at hcm; omega); have GV5 := Lib.hid (GV4.out.trans (hg.mono GV4.out.size)); have BV5 := Lib.hid (B1.out.ext (GV4.out.trans (hg.mono GV4.out.size))); have HS5 := Lib.hid hg; clear hi hg hnc hcm)
  clear k0
  have k0 := BV5.out.cell 0
  go_upto_region 7 with (go_at_call 52; (with_reducible refine (T52.out _ GV5.out).mono ?_); rintro e V6 ⟨A6, n6, c16, rfl, hi, hnc, hcm, hg⟩; have I6 := Lib.hid hi; have N6 := Lib.hid (show n6 ≤ 9223372036854775807 by unfold maxLen at hcm; omega); have GV6 := Lib.hid (GV5.out.trans (hg.mono GV5.out.size)); have BV6 := Lib.hid (B1.out.ext (GV5.out.trans (hg.mono GV5.out.size))); have HS6 := Lib.hid hg; clear hi hg hnc hcm)
  clear k0
  have X3 := Lib.hid (show Below V3.heap.size V3 V6 from ((HS4.out.trans (HS5.out.mono HS4.out.size)).trans (HS6.out.mono (HS4.out.trans (HS5.out.mono HS4.out.size)).size)))
  have X4 := Lib.hid (show Below V4.heap.size V4 V6 from (HS5.out.trans (HS6.out.mono HS5.out.size)))
  have X5 := Lib.hid (show Below V5.heap.size V5 V6 from HS6.out)
  have X6 := Lib.hid (show Below V6.heap.size V6 V6 from (Below.refl _ _))
  have Sc := Lib.hid (fun X (g : Below V6.heap.size V6 X) => (show Calls Tryz.prog 19 #[.slice A3 n3 c13, .slice A4 n4 c14] X fun e w' => e = .returned (.bool true) ∧ Below X.heap.size X w' by have := sameInts_any A3 A4 n3 c13 n4 c14 LR LR X ((I3.out.below X3.out).below g) ((I4.out.below X4.out).below g) N3.out N4.out; rwa [decide_eq_true rfl] at this))
  have Sd := Lib.hid (fun X (g : Below V6.heap.size V6 X) => (show Calls Tryz.prog 19 #[.slice A5 n5 c15, .slice A6 n6 c16] X fun e w' => e = .returned (.bool true) ∧ Below X.heap.size X w' by have := sameInts_any A5 A6 n5 c15 n6 c16 LC LC X ((I5.out.below X5.out).below g) ((I6.out.below X6.out).below g) N5.out N6.out; rwa [decide_eq_true rfl] at this))
  have Y45 := Lib.hid (fun X (g : Below V6.heap.size V6 X) => T45.out X (GV6.out.trans (g.mono GV6.out.size)))
  have Y53 := Lib.hid (fun X (g : Below V6.heap.size V6 X) => T53.out X (GV6.out.trans (g.mono GV6.out.size)))
  have Y54 := Lib.hid (fun X (g : Below V6.heap.size V6 X) => T54.out X (GV6.out.trans (g.mono GV6.out.size)))
  have Y55 := Lib.hid (fun X (g : Below V6.heap.size V6 X) => T55.out X (GV6.out.trans (g.mono GV6.out.size)))
  have k0 := cellW (BV6.out.cell 0)
  have k2 := cellW (BV6.out.cell 2)
  have hNR : (NR == NR) = true := by simp
  have hEL : (EL == EL) = true := by simp
  have hER : (ER == ER) = true := by simp
  have hEC : (EC == EC) = true := by simp
  have hEK : (EK == EK) = true := by simp
  have hEQ : (EQ == EQ) = true := by simp
  refine wp_region_calm V6 (by kernel_rfl) (by kernel_rfl) (Below.refl _ _) ?_
  repeat (go_big_quiet_step (first | (go_at_call 19; with_reducible exact callsCalm (Sc.out _ (Wd.ok _))) | (go_at_call 19; with_reducible exact callsCalm (Sd.out _ (Wd.ok _))) | (go_at_call 45; with_reducible exact callsCalm (Y45.out _ (Wd.ok _))) | (go_at_call 53; with_reducible exact callsCalm (Y53.out _ (Wd.ok _))) | (go_at_call 54; with_reducible exact callsCalm (Y54.out _ (Wd.ok _))) | (go_at_call 55; with_reducible exact callsCalm (Y55.out _ (Wd.ok _))) | (go_at_call 20; with_reducible exact callsCalm (T20.out _))))
  refine wpQuiet_nil ?_
  rintro _ ⟨z, rfl⟩
  have GQ := Lib.hid (G1.out.trans ((GV6.out.trans (z.ok.mono GV6.out.size)).mono G1.out.size))
  go_wp2
  go_ret
  exact ⟨rfl, GQ.out⟩
end Go.Proofs.YtehhlgdkhecacaaGreat
namespace Go.Proofs.YtehhlgdkhecacaaGreat
open Go.ChangeShapes Go.WideShapes Go.ChangeAt Go.RowKit
theorem cells76 : Tryz.prog.cellsOf 76 = 3 := by kernel_rfl
section
variable {H : Type} {enc : TypeId × Value → H} {w : World} {base : Nat} {sp : Nat → Bool} {held : Bool} {fuel : Nat} {cs : List Value} {x : DataW H × List MemPlace}
variable {r : Reach} {b0 : Nat} {v : Value} {d : DataW H} {p : List MemPlace}
set_option maxRecDepth 100000 in
theorem openIsV (hv : Value.okWide Tryz.prog w r b0 25 v) (h : DataW.Trod enc Tryz.prog w base sp held 25 v d p) : ∃ A n c l, v = .slice A n c ∧ n ≤ c ∧ c ≤ 9223372036854775807 ∧ Ints w A n l := by
  obtain ⟨fuel, hf⟩ := h
  obtain ⟨A, n, c, xs, e, h1, h2, h3⟩ := openSlice (f := icells) Tryz.underlying25 cells3 (by decide) (fun _ _ _ hq => by obtain ⟨a, e, -⟩ := openInt hq; exact ⟨a, e⟩) hf
  have hv1 : v = .slice A n c := by
    have hcl := okWide_slice Tryz.underlying25 hv
    obtain ⟨a, l, k, rfl, -⟩ := hcl
    simpa [Value.cells] using e
  unfold maxLen at h2
  exact ⟨A, n, c, xs, hv1, h1, h2, h3⟩
set_option maxRecDepth 100000 in
theorem openSomeV (hv : Value.okWide Tryz.prog w r b0 76 v) (h : DataW.Trod enc Tryz.prog w base sp held 76 v d p) : ∃ (z0 z1 : Int) (A : Option Addr) (n c : Nat) (l : List Int), v = .agg #[.int .i64 z0, .int .i64 z1, .slice A n c] ∧ n ≤ c ∧ c ≤ 9223372036854775807 ∧ Ints w A n l := by
  obtain ⟨cs, rfl, hsz⟩ := okWide_struct Tryz.underlying76 hv
  obtain ⟨fuel, hf⟩ := h
  rw [cells76] at hsz
  obtain ⟨u0, u1, u2, rfl⟩ : ∃ u0 u1 u2, cs = #[u0, u1, u2] := by
    obtain ⟨l⟩ := cs
    match l, hsz with
    | [u0, u1, u2], _ => exact ⟨u0, u1, u2, rfl⟩
  obtain ⟨xs, n, -, -, hl, hxl, hf⟩ := DataW.trod_struct Tryz.underlying76 hf
  have hxl' : xs.length = 3 := hxl
  have h0 : DataW.trod enc Tryz.prog w base sp held n 3 (((Value.agg #[u0, u1, u2]).cells.toList.drop 0).take (Tryz.prog.cellsOf 3)) = xs[0]? := hf 0 _ rfl
  have h1 : DataW.trod enc Tryz.prog w base sp held n 3 (((Value.agg #[u0, u1, u2]).cells.toList.drop 1).take (Tryz.prog.cellsOf 3)) = xs[1]? := hf 1 _ rfl
  have h2 : DataW.trod enc Tryz.prog w base sp held n 25 (((Value.agg #[u0, u1, u2]).cells.toList.drop 2).take (Tryz.prog.cellsOf 25)) = xs[2]? := hf 2 _ rfl
  rw [cells3] at h0 h1
  rw [cells25] at h2
  obtain ⟨a0, e0, -⟩ := openInt (h0.trans (List.getElem?_eq_getElem (by omega)))
  obtain ⟨a1, e1, -⟩ := openInt (h1.trans (List.getElem?_eq_getElem (by omega)))
  obtain ⟨A2, n2, m2, l2, e2, k1, k2, k3⟩ := openIs (h2.trans (List.getElem?_eq_getElem (by omega)))
  simp [Value.cells] at e0 e1 e2
  subst e0 e1 e2
  unfold maxLen at k2
  exact ⟨_, _, _, _, _, l2, rfl, k1, k2, k3⟩
end
end Go.Proofs.YtehhlgdkhecacaaGreat
