/- Part of the proof: WO, VM, VA, VC. -/
import Derived.Test.YtkoejeghihcmlaaGreatZA7
import Derived.Test.YtkoejeghihcmlaaGreatZA8
import Derived.Test.YtkoejeghihcmlaaGreatZB0
import Derived.Test.YtkoejeghihcmlaaGreatZB1
namespace Go.Proofs.YtkoejeghihcmlaaGreat
open Go.RowKit Go.Shelf
attribute [local go_sem] Oper.semAt_some
def trulyR (p : Pl) (hour known sown : Int) (ns : List Int) : Bool := if leftE p [hour] known sown ns = 0 then trulyV p known hour (truS p known sown ns) else false
theorem left_hour {p : Pl} {hour known sown : Int} {ns : List Int} (h : leftE p [hour] known sown ns = 0) : okPl p = true ∧ 0 ≤ hour ∧ hour ≤ 99999 := by
 unfold leftE at h
 by_cases hf : firstE p [hour] [known] = 0
 ·exact ⟨first_ok hf, hour_pos hf⟩
 ·rw [if_neg hf] at h
  exact absurd h hf
theorem Pa.fixU {B bw bs : Nat} {W W' : World} {p : Pl} {A1 A2 A3 : Option Addr} {n1 c1 n2 c2 n3 c3 : Nat} (h : FixU B bw bs W W') (hp : Pa W p A1 A2 A3 n1 c1 n2 c2 n3 c3)
  (d1 : ∀ b o, A1 = some ⟨b, o, none⟩ → 0 < n1 → b ≠ bw ∧ b ≠ bs ∧ b < B) (d2 : ∀ b o, A2 = some ⟨b, o, none⟩ → 0 < n2 → b ≠ bw ∧ b ≠ bs ∧ b < B) (d3 : ∀ b o, A3 = some ⟨b, o, none⟩ → 0 < n3 → b ≠ bw ∧ b ≠ bs ∧ b < B) : Pa W' p A1 A2 A3 n1 c1 n2 c2 n3 c3 :=
 ⟨h.arr hp.l1 d1, h.arr hp.l2 d2, h.arr hp.l3 d3, hp.m1, hp.m2, hp.m3⟩
theorem Pa.lt {w : World} {p : Pl} {A1 A2 A3 : Option Addr} {n1 c1 n2 c2 n3 c3 : Nat} (h : Pa w p A1 A2 A3 n1 c1 n2 c2 n3 c3) : (∀ b o, A1 = some ⟨b, o, none⟩ → 0 < n1 → b < w.heap.size) ∧ (∀ b o, A2 = some ⟨b, o, none⟩ → 0 < n2 → b < w.heap.size) ∧ (∀ b o, A3 = some ⟨b, o, none⟩ → 0 < n3 → b < w.heap.size) :=
 ⟨fun _ _ e h0 => h.l1.lt_of e h0, fun _ _ e h0 => h.l2.lt_of e h0, fun _ _ e h0 => h.l3.lt_of e h0⟩
theorem truly_no {p : Pl} {hour known : Int} {s : List Int} (h1 : hour ≤ 99999) (h : ∀ x ∈ endsL (lookL p known every), s.getD x.1 0 ≠ 0) : trulyV p known hour s = false := by
 have e : clrFrom (lookL p known every) s = 100000 := by
  rcases clr_cases (lookL p known every) s with ⟨l1, x, l2, e, hx, -, -⟩ | ⟨-, e⟩
  ·exact absurd hx (h x (by rw [e]; simp))
  ·exact e
 unfold trulyV openB
 rw [e, decide_eq_false (by omega)]
 rfl
theorem truly_at {p : Pl} {hour known : Int} {s : List Int} {pre : List (Nat × Int)} {x : Nat × Int} (hp : (pre ++ [x]) <+: endsL (lookL p known every)) (hx : s.getD x.1 0 = 0) (hn : ∀ y ∈ pre, s.getD y.1 0 ≠ 0) : trulyV p known hour s = openB p known hour x.2 := by
 obtain ⟨t, ht⟩ := hp
 unfold trulyV
 rw [clr_some (l1 := pre) (x := x) (l2 := t) (by rw [← ht, List.append_assoc]; rfl) hx hn]
/-- What Truly returns. -/
def TEnd (p : Pl) (hour known sown : Int) (ns : List Int) (w : World) (e : Ending) (w' : World) : Prop :=
 e = .returned (.tuple #[.bool (trulyR p hour known sown ns), .int .i64 (leftE p [hour] known sown ns)]) ∧ Below w.heap.size w w'
set_option maxRecDepth 100000 in
set_option maxHeartbeats 8000000 in
theorem trulyP_any (p : Pl) (A1 A2 A3 : Option Addr) (n1 c1 n2 c2 n3 c3 : Nat) (hour known : Int) (N : Option Addr) (nn cn : Nat) (ns : List Int) (sown : Int) (w : World)
  (hp : Pa w p A1 A2 A3 n1 c1 n2 c2 n3 c3) (h19 : p.loads.length ≤ 60) (hns : Ints w N nn ns) (hI : ∀ x ∈ ns, -9223372036854775808 ≤ x ∧ x ≤ 9223372036854775807) (hnn : nn ≤ 9223372036854775807) :
  Calls Tryz.prog 52 #[plv p A1 A2 A3 n1 c1 n2 c2 n3 c3, .agg #[.int .i64 sown, .slice N nn cn], .int .i64 hour, .int .i64 known] w (TEnd p hour known sown ns w) := by
 obtain ⟨W1, hW1⟩ : ∃ W1, ((((w.alloc (.cells (plb p A1 A2 A3 n1 c1 n2 c2 n3 c3) 38)).alloc (.cells #[.int .i64 sown, .slice N nn cn] 41)).alloc (.cells #[.int .i64 hour] 3)).alloc (.cells #[.bool false] 4)).alloc (.cells #[.int .i64 0] 52) = W1 := ⟨_, rfl⟩
 have g1 : Below w.heap.size w W1 := by rw [← hW1]; exact ((three_more _ _ _ _).alloc (by simp; omega) _).alloc (by simp; omega) _
 have b1 : Blk W1 w.heap.size 38 (plb p A1 A2 A3 n1 c1 n2 c2 n3 c3) := by rw [← hW1]; exact ((((Blk.new _ _ _).alloc _).alloc _).alloc _).alloc _
 have b2 : Blk W1 (w.heap.size + 1) 41 #[.int .i64 sown, .slice N nn cn] := by
  rw [← hW1]; have := Blk.new (w.alloc (.cells (plb p A1 A2 A3 n1 c1 n2 c2 n3 c3) 38)) 41 #[.int .i64 sown, .slice N nn cn]; rw [World.size_alloc] at this; exact ((this.alloc _).alloc _).alloc _
 have b3 : Blk W1 (w.heap.size + 1 + 1) 3 #[.int .i64 hour] := by
  rw [← hW1]; have := Blk.new ((w.alloc (.cells (plb p A1 A2 A3 n1 c1 n2 c2 n3 c3) 38)).alloc (.cells #[.int .i64 sown, .slice N nn cn] 41)) 3 #[.int .i64 hour]; simp only [World.size_alloc] at this; exact (this.alloc _).alloc _
 have b8 : Blk W1 (w.heap.size + 1 + 1 + 1) 4 #[.bool false] := by
  rw [← hW1]; have := Blk.new (((w.alloc (.cells (plb p A1 A2 A3 n1 c1 n2 c2 n3 c3) 38)).alloc (.cells #[.int .i64 sown, .slice N nn cn] 41)).alloc (.cells #[.int .i64 hour] 3)) 4 #[.bool false]; simp only [World.size_alloc] at this; exact this.alloc _
 have b9 : Blk W1 (w.heap.size + 1 + 1 + 1 + 1) 52 #[.int .i64 0] := by
  rw [← hW1]; have := Blk.new ((((w.alloc (.cells (plb p A1 A2 A3 n1 c1 n2 c2 n3 c3) 38)).alloc (.cells #[.int .i64 sown, .slice N nn cn] 41)).alloc (.cells #[.int .i64 hour] 3)).alloc (.cells #[.bool false] 4)) 52 #[.int .i64 0]; simp only [World.size_alloc] at this; exact this
 have HPA := Lib.hid (hp.below g1)
 have HPL := Lib.hid hp.lt
 have T := Lib.hid (truly_any p A1 A2 A3 n1 c1 n2 c2 n3 c3 w.heap.size hour known N nn cn ns sown W1 b1 (hp.below g1) h19 (hns.below g1) hI hnn)
 have HL19 := Lib.hid (lookL_len h19 known every)
 have G1 := Lib.hid g1
 have k0 := b2.cell 0
 have k1 := b2.cell 1
 have k2 := b3.cell 0
 have HB1 := Lib.hid b1
 have HB3 := Lib.hid b3
 have HB8 := Lib.hid b8
 have HB9 := Lib.hid b9
 have hb9l := b9.lt
 have HLN := Lib.hid (truS_len p known sown ns)
 have HR := Lib.hid (show trulyR p hour known sown ns = if leftE p [hour] known sown ns = 0 then trulyV p known hour (truS p known sown ns) else false from rfl)
 obtain ⟨le, hle⟩ : ∃ v, leftE p [hour] known sown ns = v := ⟨_, rfl⟩
 have HLH := Lib.hid (left_hour (p := p) (hour := hour) (known := known) (sown := sown) (ns := ns))
 rw [hle] at HR HLH
 have HLE := Lib.hid hle
 have HW1 := Lib.hid hW1
 clear hp h19 hns hI hW1 g1 b1 b2 b3 b8 b9 hle
 refine (callsIn_wide (n := 4)).1 (callsIn_of_wp_marks Tryz.func52 rfl trivial ?_ rfl)
 simp only [Tryz.ntmps52, List.size_toArray, List.length_cons, List.length_nil, Nat.reduceAdd, Nat.reduceSub, Array.replicate_succ, Array.replicate_zero, List.push_toArray, List.append_toArray, List.nil_append, List.cons_append]
 refine wpIn_wide.2 ?_
 by_cases h0 : le = 0
 ·subst h0
  have HR2 := Lib.hid (show trulyR p hour known sown ns = trulyV p known hour (truS p known sown ns) from HR.out)
  obtain ⟨hok, hh0, hh1⟩ := HLH.out rfl
  have HOK := Lib.hid hok
  have HHR := Lib.hid (fun x hx => (lookL_num hok known every x hx))
  clear hok
  go_upto_region 1 with fail
  rw [HW1.out]
  go_upto_region 2 with (go_at_call 78; (with_reducible refine (T.out).mono ?_); rintro e W2 ⟨r, v, rfl, hg, ht, -⟩; obtain ⟨bf, bs, A, n, c, rfl, hl, ho⟩ := ht HLE.out; rw [HLE.out]; have G2 := Lib.hid hg; have HL := Lib.hid hl; obtain ⟨D, c', hv, -, -, hi, hib⟩ := OwnL.arr kdI ho; subst hv; have HI2 := Lib.hid hi; have HIB := Lib.hid hib; clear hg hl ho hi ht hib)
  rw [HLN.out] at HI2 ⊢
  have hnum := HL.out.num
  rw [← hnum] at HI2 ⊢
  have hn19 : n ≤ 60 := by rw [hnum]; exact HL19.out
  obtain ⟨s, hs⟩ : ∃ s, truS p known sown ns = s := ⟨_, rfl⟩
  rw [hs] at HI2 HR2
  obtain ⟨ls, hls⟩ : ∃ l, lookL p known every = l := ⟨_, rfl⟩
  have HTN := Lib.hid (fun h => truly_no (p := p) (hour := hour) (known := known) (s := s) hh1 h)
  have HTA := Lib.hid (fun pre x (h1 : (pre ++ [x]) <+: endsL (lookL p known every)) h2 h3 => truly_at (hour := hour) (s := s) (pre := pre) (x := x) h1 h2 h3)
  rw [hls] at HTN HTA HHR hnum
  have HNUM := Lib.hid hnum
  clear hnum
  have HAR := Lib.hid (show Arr scells 6 W2 A n ls by rw [← hls]; exact HL.out.ar)
  have HFD := Lib.hid HL.out.fd.f
  have hbfl := HL.out.fd.f.lt
  have hbfg := HL.out.lef
  have hg2s := G2.out.size
  have hg1s := G1.out.size
  have HAP := Lib.hid HL.out.ap
  obtain ⟨W3, hW3⟩ : ∃ W, (W2.alloc (.cells #[.pointer (some ⟨bf, 0, none⟩)] 134)).alloc (.cells #[.slice D (n + 1) c'] 39) = W := ⟨_, rfl⟩
  rw [hW3]
  have g3 : Below W2.heap.size W2 W3 := by rw [← hW3]; exact two_more _ _ _
  have hb10 : Blk W3 W2.heap.size 134 #[.pointer (some ⟨bf, 0, none⟩)] := by rw [← hW3]; exact (Blk.new _ _ _).alloc _
  have hb11 : Blk W3 (W2.heap.size + 1) 39 #[.slice D (n + 1) c'] := by rw [← hW3]; have := Blk.new (W2.alloc (.cells #[.pointer (some ⟨bf, 0, none⟩)] 134)) 39 #[.slice D (n + 1) c']; rwa [World.size_alloc] at this
  have hs3 : W3.heap.size = W2.heap.size + 2 := by rw [← hW3]; simp
  have q0 := hb10.cell 0
  clear hW3 hs hls k0 k1 k2
  go_wp2_with fail
  refine (ends_any _ _).mono ?_
  rintro e w' ⟨rfl, hw'⟩
  have hbQ : Blk w' W3.heap.size 134 #[.pointer (some ⟨bf, 0, none⟩)] := by rw [← hw']; exact Blk.new _ _ _
  have g4 : Below W3.heap.size W3 w' := by rw [← hw']; exact one_more _ _
  have hs4 : w'.heap.size = W3.heap.size + 1 := by rw [← hw']; simp
  clear hw' q0
  rename World => W0
  have g5 : Below W2.heap.size W2 W0 := g3.trans (g4.mono g3.size)
  have g6 : Below W1.heap.size W1 W0 := G2.out.trans (g5.mono hg2s)
  have HB10 := Lib.hid (hb10.ext g4)
  have HB11 := Lib.hid (hb11.ext g4)
  have HB10' := Lib.hid (HB1.out.ext g6)
  have HB30 := Lib.hid (HB3.out.ext g6)
  have HB80 := Lib.hid (HB8.out.ext g6)
  have HB90 := Lib.hid (HB9.out.ext g6)
  have HPA0 := Lib.hid (HPA.out.below g6)
  have HAR0 := Lib.hid (HAR.out.below g5)
  have HFD0 := Lib.hid (HFD.out.ext g5)
  have HI0 := Lib.hid (HI2.out.below g5)
  have HIL := Lib.hid (show ∀ b o, D = some ⟨b, o, none⟩ → 0 < n + 1 → b < W0.heap.size from fun b o e h0 => Nat.lt_of_lt_of_le (HI2.out.lt_of e h0) g5.size)
  have HAL := Lib.hid (show ∀ b o, A = some ⟨b, o, none⟩ → 0 < n → b < W0.heap.size from fun b o e h0 => Nat.lt_of_lt_of_le (HAR.out.lt_of e h0) g5.size)
  have G0 := Lib.hid (G1.out.trans (g6.mono hg1s))
  obtain ⟨b10, hb10e⟩ : ∃ b, W2.heap.size = b := ⟨_, rfl⟩
  have HQ0 := Lib.hid (show Blk W0 (b10 + 2) 134 #[.pointer (some ⟨bf, 0, none⟩)] by rw [← hb10e, ← hs3]; exact hbQ)
  have h0s : b10 + 3 ≤ W0.heap.size := by omega
  rw [show W3.heap.size = b10 + 2 by omega]
  rw [hb10e] at HB10 HB11 hg2s hbfl ⊢
  clear g3 g4 g5 g6 hb10 hb11 hs3 hs4 hbQ hb10e
  obtain ⟨b8, hb8⟩ : ∃ b, w.heap.size + 1 + 1 + 1 = b := ⟨_, rfl⟩
  rw [hb8] at HB80 HB90 hb9l ⊢
  have HSQ := Lib.hid (ends_seq 3 (by omega) W0 W0.heap.size (b10 + 2) bf (w.heap.size + 1) (w.heap.size + 1) A n c ls (HQ0.out.cell 0) (HFD0.out.cell 2) HAR0.out (by omega) ⟨by omega, by omega, by omega⟩ ⟨by omega, by omega, by omega⟩ (by omega) (by omega) (fun b o e h0 => by
   have h1 := HAL.out b o e h0
   have h2 := (HAP.out b o e h0).1
   omega))
  go_wp2_with fail
  refine (wpIn_wide (n := 4)).1 ?_
  refine wp_rangeO (α := Nat × Int) (n := 4) (by omega) (gf := 194) (lb := #[.pointer (some ⟨b10 + 2, 0, none⟩)]) rfl (enters_of Tryz.func194 (by kernel_rfl) rfl) HSQ.out (Below.refl _ _) (fun _ => rfl)
   (fun pre W => FixU W0.heap.size (w.heap.size + 1) (w.heap.size + 1) W0 W ∧ (∀ y ∈ pre, s.getD y.1 0 ≠ 0) ∧ Oto W0 W)
   (fun cc pre W => cc = .ret ∧ Below w.heap.size w W ∧ ∃ pre' x, pre = pre' ++ [x] ∧ s.getD x.1 0 = 0 ∧ (∀ y ∈ pre', s.getD y.1 0 ≠ 0) ∧ Blk W b8 4 #[.bool (openB p known hour x.2)] ∧ Blk W (b8 + 1) 52 #[.int .i64 0]) ?hI ?hIx ?h0
   ((fun (F : Nat × Int → Act) (x : Nat × Int) (a' : Act) (_ : World) => a' = F x) ?F) ?hAx ?assign ?body ?done ?stop
  case assign =>
   rintro l pre x X K hI hK
   unfold encE
   gi_wp2
   refine hK _ _ (KeepsFrom.refl _ _) (FixU.refl _ _ _ _) hI ?_
   rfl
  case hI =>
   rintro pre X Y row ⟨hfx, hnz, hto⟩ hg hr
   exact ⟨(FixU.own (α := Nat) (Nat.le_refl _)) [] _ _ _ hfx hg hr, hnz, hto.grown hg⟩
  case hIx =>
   rintro cc pre X Y row ⟨h1, h2, pre', x, h3, h4, h5, h6, h7⟩ hg hr
   have hr1 : ∀ r, row = some r → ∃ o : Obj, X.heap[r]? = some o ∧ o.isCells = false := fun r e => (hr r e).2
   exact ⟨h1, h2.grown hg h2.size (fun k hk => by have := (hr k hk).1; omega), pre', x, h3, h4, h5, h6.own hg hr1, h7.own hg hr1⟩
  case h0 => exact ⟨FixU.refl _ _ _ _, fun y hy => (by cases hy), Oto.refl _⟩
  case hAx => exact fun _ _ _ _ _ _ h _ _ => h
  case body =>
   rintro l pre ⟨xm, xh⟩ a' X hl - ⟨hfx, hnz, hto⟩ rfl hlt hG
   have hXs := hfx.size
   have hxn : xm ≤ n := by
    rcases hG with e | ⟨i, hi, e⟩
    ·cases e; exact Nat.zero_le _
    ·cases e; have := HNUM.out; omega
   have hxb : 0 ≤ xh ∧ xh ≤ 100000 := by
    rcases hG with e | ⟨i, hi, e⟩
    ·cases e; omega
    ·have := HHR.out _ (getD_mem hi)
     unfold Num at this
     cases e
     omega
   obtain ⟨b7, o7, e7, -, -, hc7⟩ := ints_at (hfx.arr HI0.out (fun b o e h0 => by
    have h1 := HIL.out b o e h0
    obtain ⟨-, hlo, -⟩ := HIB.out b o e
    omega)) (show xm < n + 1 by omega)
   obtain ⟨sv, hsv⟩ : ∃ v, s.getD xm 0 = v := ⟨_, rfl⟩
   rw [hsv] at hc7
   have d0 := (hfx.blk HB11.out (by omega) (by omega) (.inl (by omega))).cell 0
   have d1 := hc7 X (Below.refl _ _)
   have HSV := Lib.hid hsv
   have HFX := Lib.hid hfx
   have HTO := Lib.hid hto
   have HNZ := Lib.hid hnz
   subst e7
   clear hsv hfx hto hnz hc7 hG
   have hxi : (xm : Int) < (n : Int) + 1 := by omega
   by_cases hz : sv = 0
   ·subst hz
    have hpx : Blk X w.heap.size 38 (plb p A1 A2 A3 n1 c1 n2 c2 n3 c3) := HFX.out.blk HB10'.out (by omega) (by omega) (.inl (by omega))
    have hpa := Pa.fixU HFX.out HPA0.out (fun b o e h0 => by have := HPL.out.1 b o e h0; omega) (fun b o e h0 => by have := HPL.out.2.1 b o e h0; omega) (fun b o e h0 => by have := HPL.out.2.2 b o e h0; omega)
    have hfx := HFX.out.blk HFD0.out (by omega) (by omega) (.inl (by omega))
    have HT := Lib.hid (open_any p A1 A2 A3 n1 c1 n2 c2 n3 c3 w.heap.size bf known hour xh X hpx hpa HOK.out (hfx.cell 0) (hfx.cell 1) hh0 hxb.1 hxb.2)
    have K8 := Lib.hid (HFX.out.blk HB80.out (by omega) (by omega) (.inl (by omega)))
    have K9 := Lib.hid (HFX.out.blk HB90.out (by omega) (by omega) (.inl (by omega)))
    have d2 := (HFX.out.blk HB10.out (by omega) (by omega) (.inl (by omega))).cell 0
    have d3 := (HFX.out.blk HB30.out (by omega) (by omega) (.inl (by omega))).cell 0
    have HGX := Lib.hid (show Below w.heap.size w X from G0.out.trans (HFX.out.below (D := w.heap.size) HTO.out (by omega) (by omega) (by omega) (by omega)))
    obtain ⟨ov, hov⟩ : ∃ b, openB p known hour xh = b := ⟨_, rfl⟩
    rw [hov] at HT
    have HOV := Lib.hid hov
    clear hpx hpa hfx hov
    gi_wp2_with (refine ⟨trivial, ?_⟩; gi_at_call 76; refine (CallsIn.inRound l (callsIn_wide.2 HT.out)).mono ?_; rintro e V ⟨rfl, g⟩; have G7 := Lib.hid g; have m0 := (K8.out.ext g).cell 0; have m1 := (K8.out.ext g).frozen 0; have m2 := (K9.out.ext g).cell 0; have m3 := (K9.out.ext g).frozen 0; clear g)
    refine ⟨(⟨G7.out.size, fun k o _ hk _ => (G7.out.block k (Array.getElem?_eq_some_iff.1 hk).1).trans hk⟩ : KeepsFrom W0.heap.size X V).trans (((KeepsOthers.setCell _ _ _).from _).trans ((KeepsOthers.setCell _ _ _).from _)), rfl, ?_, pre, (xm, xh), rfl, HSV.out, HNZ.out, ?_, ?_⟩
    ·exact ((HGX.out.trans (G7.out.mono HGX.out.size)).setCell (p := ⟨b8, 0, none⟩) (by show w.heap.size ≤ b8; omega) _).setCell (p := ⟨b8 + 1, 0, none⟩) (by show w.heap.size ≤ b8 + 1; omega) _
    ·show Blk _ b8 4 #[.bool (openB p known hour xh)]
     rw [HOV.out]
     exact ((K8.out.ext G7.out).set_ 0 (.bool ov)).far (p := ⟨b8 + 1, 0, none⟩) (by show b8 ≠ b8 + 1; omega) (.int .i64 0)
    ·exact ((K9.out.ext G7.out).far (p := ⟨b8, 0, none⟩) (by show b8 + 1 ≠ b8; omega) (.bool ov)).set_ 0 (.int .i64 0)
   ·have hzb : (sv == 0) = false := by simpa using hz
    gi_wp2_with fail
    refine ⟨KeepsFrom.refl _ _, FixU.refl _ _ _ _, HFX.out, fun y hy => ?_, HTO.out⟩
    rcases List.mem_append.1 hy with hy | hy
    ·exact HNZ.out y hy
    ·rw [List.mem_singleton.1 hy]
     show s.getD xm 0 ≠ 0
     rw [HSV.out]; exact hz
  case done =>
   rintro E xs X hD hS ⟨hfx, hnz, hto⟩ hK
   have hF9 := HTN.out (by rw [← hS]; exact hnz)
   have HF9 := Lib.hid (show trulyR p hour known sown ns = false by rw [HR2.out, hF9])
   have K8 := Lib.hid (hfx.blk HB80.out (by omega) (by omega) (.inl (by omega)))
   have K9 := Lib.hid (hfx.blk HB90.out (by omega) (by omega) (.inl (by omega)))
   have GX := Lib.hid (show Below w.heap.size w X from G0.out.trans (hfx.below (D := w.heap.size) hto (by omega) (by omega) (by omega) (by omega)))
   have HK := Lib.hid hK
   have m0 := K8.out.cell 0
   have m1 := K8.out.frozen 0
   have m2 := K9.out.cell 0
   have m3 := K9.out.frozen 0
   clear hF9 hfx hnz hto hS hK
   go_wp2_with fail
   have k8 := (K8.out.set_ 0 (.bool false)).far (p := ⟨b8 + 1, 0, none⟩) (by show b8 ≠ b8 + 1; omega) (.int .i64 0)
   have k9 := (K9.out.far (p := ⟨b8, 0, none⟩) (by show b8 + 1 ≠ b8; omega) (.bool false)).set_ 0 (.int .i64 0)
   have t0 := (k8.putObj (D := E) (by omega) (.deferred none)).cell 0
   have t1 := (k9.putObj (D := E) (by omega) (.deferred none)).cell 0
   refine ⟨by simp, .inl ⟨_, _, rfl, run_takeDeferred ((Below.heap_setCell _ _ _ _ (by show E ≠ b8 + 1; omega)).trans ((Below.heap_setCell _ _ _ _ (by show E ≠ b8; omega)).trans HK.out)), ?_⟩⟩
   refine ⟨.tuple #[.bool false, .int .i64 0], ?_, ⟨by rw [HF9.out, HLE.out], ?_⟩⟩
   ·simp [results, Tryz.results52, go_sem, t0, t1]
   ·have gx := (GX.out.setCell (p := ⟨b8, 0, none⟩) (by show w.heap.size ≤ b8; omega) (.bool false)).setCell (p := ⟨b8 + 1, 0, none⟩) (by show w.heap.size ≤ b8 + 1; omega) (.int .i64 0)
    exact gx.grown (grownBy_putObj' _ E _) gx.size (fun k hk => by cases hk; omega)
  case stop =>
   rintro E cd pre X hD hS ⟨rfl, hgw, pre', x, rfl, hx, hnz, hb4, hb5⟩ hK
   have hF9 := HTA.out _ _ hS hx hnz
   have t0 := (hb4.putObj (D := E) (by omega) (.deferred none)).cell 0
   have t1 := (hb5.putObj (D := E) (by omega) (.deferred none)).cell 0
   gi_wp2
   refine ⟨by simp, .inl ⟨_, _, rfl, run_takeDeferred hK, ?_⟩⟩
   refine ⟨.tuple #[.bool (openB p known hour x.2), .int .i64 0], ?_, ⟨by rw [HR2.out, HLE.out, hF9], ?_⟩⟩
   ·simp [results, Tryz.results52, go_sem, t0, t1]
   ·exact hgw.grown (grownBy_putObj' _ E _) hgw.size (fun k hk => by cases hk; omega)
 ·have HR2 := Lib.hid (show trulyR p hour known sown ns = false by rw [HR.out, if_neg h0])
  have hne : (le != 0) = true := by simpa using h0
  go_upto_region 1 with fail
  rw [HW1.out]
  go_upto_region 2 with (go_at_call 78; (with_reducible refine (T.out).mono ?_); rintro e W2 ⟨r, v, rfl, hg, -, ht⟩; obtain ⟨rfl, rfl⟩ := ht (by rw [HLE.out]; exact h0); rw [HLE.out]; have G2 := Lib.hid hg; clear hg ht)
  have gx : Below W1.heap.size W1 ((W2.alloc (.cells #[.pointer none] 134)).alloc (.cells #[.slice none 0 0] 39)) := G2.out.trans ((two_more W2 _ _).mono G2.out.size)
  have K8 := Lib.hid (HB8.out.ext gx)
  have K9 := Lib.hid (HB9.out.ext gx)
  have m0 := K8.out.cell 0
  have m1 := K8.out.frozen 0
  have m2 := K9.out.cell 0
  have m3 := K9.out.frozen 0
  have GX := Lib.hid (G1.out.trans (gx.mono G1.out.size))
  clear gx k0 k1 k2
  go_wp2_with fail
  have k8 := (K8.out.set_ 0 (.bool false)).far (p := ⟨w.heap.size + 1 + 1 + 1 + 1, 0, none⟩) (by show w.heap.size + 1 + 1 + 1 ≠ w.heap.size + 1 + 1 + 1 + 1; omega) (.int .i64 le)
  have k9 := (K9.out.far (p := ⟨w.heap.size + 1 + 1 + 1, 0, none⟩) (by show w.heap.size + 1 + 1 + 1 + 1 ≠ w.heap.size + 1 + 1 + 1; omega) (.bool false)).set_ 0 (.int .i64 le)
  have t0 := k8.cell 0
  have t1 := k9.cell 0
  refine ⟨.tuple #[.bool false, .int .i64 le], ?_, ⟨by rw [HR2.out, HLE.out], ?_⟩⟩
  ·simp [results, Tryz.results52, go_sem, t0, t1]
  ·exact (GX.out.setCell (p := ⟨w.heap.size + 1 + 1 + 1, 0, none⟩) (by show w.heap.size ≤ w.heap.size + 1 + 1 + 1; omega) _).setCell (p := ⟨w.heap.size + 1 + 1 + 1 + 1, 0, none⟩) (by show w.heap.size ≤ w.heap.size + 1 + 1 + 1 + 1; omega) _
end Go.Proofs.YtkoejeghihcmlaaGreat

namespace Go.Proofs.YtkoejeghihcmlaaGreat
open Go.RowKit Go.Shelf
theorem first_no {p : Pl} (h : okPl p = false) (hs ds : List Int) : firstE p hs ds ≠ 0 := by unfold firstE; rw [if_neg (by rw [h]; decide)]; decide
theorem ask_no {p : Pl} (h : okPl p = false) (hs : List Int) (known : Int) : askE p hs known ≠ 0 := by unfold askE; rw [if_neg (first_no h hs [known])]; exact first_no h hs [known]
theorem left_nz {p : Pl} (h : okPl p = false) (hs : List Int) (known sown : Int) (ns : List Int) : leftE p hs known sown ns ≠ 0 := by unfold leftE; rw [if_neg (first_no h hs [known])]; exact first_no h hs [known]
theorem many_no {p : Pl} (h : ¬ p.loads.length ≤ 60) : okPl p = false := by
 rw [← Bool.not_eq_true]
 exact fun e => h (ok_parts e).2.2.2.2.2.1
set_option maxRecDepth 100000 in
set_option maxHeartbeats 4000000 in
theorem asked_nok (p : Pl) (A1 A2 A3 : Option Addr) (n1 c1 n2 c2 n3 c3 pb : Nat) (hour known : Int) (w : World) (hP : Blk w pb 38 (plb p A1 A2 A3 n1 c1 n2 c2 n3 c3))
  (hp : Pa w p A1 A2 A3 n1 c1 n2 c2 n3 c3) (hno : okPl p = false) :
  Calls Tryz.prog 74 #[.pointer (some ⟨pb, 0, none⟩), .int .i64 hour, .int .i64 known] w fun e w' => ∃ r, e = .returned (.tuple #[r, .int .i64 (askE p [hour] known)]) ∧ Below w.heap.size w w' ∧
   (askE p [hour] known = 0 → ∃ bf bs A n c, r = .pointer (some ⟨bf, 0, none⟩) ∧ Lk w.heap.size w' pb known (lookL p known every) (lookS p known every) bf bs A n c) := by
 have HNZ := Lib.hid (show firstE p [hour] [known] ≠ 0 from first_no hno _ _)
 have p0 := hP.cell 0
 have p1 := hP.cell 1
 have p2 := hP.cell 2
 have p3 := hP.cell 3
 have p4 := hP.cell 4
 have p5 := hP.cell 5
 have HP := Lib.hid hP
 have HPA := Lib.hid hp
 clear hP hp
 obtain ⟨W2, hW2⟩ : ∃ W2, (w.alloc (.cells #[.int .i64 hour] 3)).alloc (.cells #[.int .i64 known] 3) = W2 := ⟨_, rfl⟩
 have g2 : Below w.heap.size w W2 := by rw [← hW2]; exact two_more _ _ _
 have i1 : Ints W2 (some ⟨w.heap.size, 0, none⟩) 1 [hour] := by rw [← hW2]; exact one_int ((Blk.new _ _ _).alloc _)
 have i2 : Ints W2 (some ⟨w.heap.size + 1, 0, none⟩) 1 [known] := by
  rw [← hW2]
  have := Blk.new (w.alloc (.cells #[.int .i64 hour] 3)) 3 #[.int .i64 known]
  rw [World.size_alloc] at this
  exact one_int this
 have T1 := Lib.hid (first_any p A1 A2 A3 n1 c1 n2 c2 n3 c3 _ _ 1 1 1 1 [hour] [known] W2 (HPA.out.below g2) i1 i2 (by decide) (by decide))
 have G2 := Lib.hid g2
 have HE := Lib.hid (show askE p [hour] known = if firstE p [hour] [known] = 0 then err (sound (lookS p known every)) 14 else firstE p [hour] [known] from rfl)
 have HOK := Lib.hid (fun h => first_ok (p := p) (hours := [hour]) (days := [known]) h)
 generalize askE p [hour] known = ae at HE ⊢
 generalize firstE p [hour] [known] = fe at T1 HE HOK HNZ
 clear g2 i1 i2
 have HW2 := Lib.hid hW2
 clear hW2
 have hfe : ¬ fe = 0 := HNZ.out
 have HE2 := Lib.hid (show ae = fe by rw [HE.out, if_neg hfe])
 have hne : (fe != 0) = true := by simpa using hfe
 go_enter Tryz.func74, Tryz.ntmps74
 go_wp2_with (go_at_call 80; (try rw [HW2.out]); (with_reducible refine (T1.out).mono ?_); rintro e W3 ⟨rfl, hg⟩; have G3 := Lib.hid (G2.out.trans (hg.mono G2.out.size)); clear hg)
 go_ret2
 exact ⟨.pointer none, by rw [HE2.out]; rfl, G3.out, fun h => absurd (HE2.out.symm.trans h) hfe⟩
set_option maxRecDepth 100000 in
set_option maxHeartbeats 4000000 in
theorem truly_nok (p : Pl) (A1 A2 A3 : Option Addr) (n1 c1 n2 c2 n3 c3 pb : Nat) (hour known : Int) (N : Option Addr) (nn cn : Nat) (ns : List Int) (sown : Int) (w : World) (hP : Blk w pb 38 (plb p A1 A2 A3 n1 c1 n2 c2 n3 c3))
  (hp : Pa w p A1 A2 A3 n1 c1 n2 c2 n3 c3) (hno : okPl p = false) (hns : Ints w N nn ns) (hI : ∀ x ∈ ns, -9223372036854775808 ≤ x ∧ x ≤ 9223372036854775807) (_hnn : nn ≤ 9223372036854775807) :
  Calls Tryz.prog 78 #[.pointer (some ⟨pb, 0, none⟩), .agg #[.int .i64 sown, .slice N nn cn], .int .i64 hour, .int .i64 known] w (TrulyEnd p pb hour known sown ns w) := by
 have HNZ := Lib.hid (show firstE p [hour] [known] ≠ 0 from first_no hno _ _)
 obtain ⟨W1, hW1⟩ : ∃ W1, w.alloc (.cells #[.int .i64 sown, .slice N nn cn] 41) = W1 := ⟨_, rfl⟩
 have g1 : Below w.heap.size w W1 := by rw [← hW1]; exact one_more _ _
 have HC := Lib.hid (show Blk W1 w.heap.size 41 #[.int .i64 sown, .slice N nn cn] by rw [← hW1]; exact Blk.new _ _ _)
 have HP := Lib.hid (hP.ext g1)
 have HPA := Lib.hid (hp.below g1)
 have HN := Lib.hid (hns.below g1)
 have HI := Lib.hid hI
 obtain ⟨W2, hW2⟩ : ∃ W2, (W1.alloc (.cells #[.int .i64 hour] 3)).alloc (.cells #[.int .i64 known] 3) = W2 := ⟨_, rfl⟩
 have g2 : Below W1.heap.size W1 W2 := by rw [← hW2]; exact two_more _ _ _
 have i1 : Ints W2 (some ⟨W1.heap.size, 0, none⟩) 1 [hour] := by rw [← hW2]; exact one_int ((Blk.new _ _ _).alloc _)
 have i2 : Ints W2 (some ⟨W1.heap.size + 1, 0, none⟩) 1 [known] := by
  rw [← hW2]
  have := Blk.new (W1.alloc (.cells #[.int .i64 hour] 3)) 3 #[.int .i64 known]
  rw [World.size_alloc] at this
  exact one_int this
 have T1 := Lib.hid (first_any p A1 A2 A3 n1 c1 n2 c2 n3 c3 _ _ 1 1 1 1 [hour] [known] W2 (HPA.out.below g2) i1 i2 (by decide) (by decide))
 have G1 := Lib.hid g1
 have G2 := Lib.hid g2
 have HE := Lib.hid (show leftE p [hour] known sown ns = if firstE p [hour] [known] = 0 then err (truthB p known sown ns) 16 else firstE p [hour] [known] from rfl)
 have HOK := Lib.hid (fun h => first_ok (p := p) (hours := [hour]) (days := [known]) h)
 obtain ⟨fe, hfe⟩ : ∃ fe, firstE p [hour] [known] = fe := ⟨_, rfl⟩
 rw [hfe] at HNZ
 rw [hfe] at T1 HE HOK
 have p0 := HP.out.cell 0
 have p1 := HP.out.cell 1
 have p2 := HP.out.cell 2
 have p3 := HP.out.cell 3
 have p4 := HP.out.cell 4
 have p5 := HP.out.cell 5
 clear hfe g1 g2 i1 i2 hP hp hns hI hno
 have HW1 := Lib.hid hW1
 have HW2 := Lib.hid hW2
 clear hW1 hW2
 have hf0 : ¬ fe = 0 := HNZ.out
 have HE2 := Lib.hid (show leftE p [hour] known sown ns = fe by rw [HE.out, if_neg hf0])
 have hne : (fe != 0) = true := by simpa using hf0
 go_enter Tryz.func78, Tryz.ntmps78
 go_upto_region 1 with fail
 rw [HW1.out]
 go_wp2_with (go_at_call 80; (try rw [HW2.out]); (with_reducible refine (T1.out).mono ?_); rintro e W3 ⟨rfl, hg⟩; have G3 := Lib.hid (G2.out.trans (hg.mono G2.out.size)); clear hg)
 go_ret3
 exact ⟨_, _, by rw [HE2.out]; rfl, G1.out.trans (G3.out.mono G1.out.size), fun h => absurd (HE2.out.symm.trans h) hf0, fun _ => ⟨rfl, rfl⟩⟩
set_option maxRecDepth 100000 in
set_option maxHeartbeats 4000000 in
theorem stood_nok (p : Pl) (A1 A2 A3 : Option Addr) (n1 c1 n2 c2 n3 c3 : Nat) (hour known : Int) (w : World) (hp : Pa w p A1 A2 A3 n1 c1 n2 c2 n3 c3) (hno : okPl p = false) :
  Calls Tryz.prog 35 #[plv p A1 A2 A3 n1 c1 n2 c2 n3 c3, .int .i64 hour, .int .i64 known] w fun e w' => e = .returned (.tuple #[rv (stoodR p hour known), .int .i64 (askE p [hour] known)]) ∧ Below w.heap.size w w' := by
 have HNZ := Lib.hid (show askE p [hour] known ≠ 0 from ask_no hno _ _)
 obtain ⟨W2, hW2⟩ : ∃ W2, (w.alloc (.cells (plb p A1 A2 A3 n1 c1 n2 c2 n3 c3) 38)).alloc (.cells #[.int .i64 0, .int .i64 0] 33) = W2 := ⟨_, rfl⟩
 have g2 : Below w.heap.size w W2 := by rw [← hW2]; exact two_more _ _ _
 have b1 : Blk W2 w.heap.size 38 (plb p A1 A2 A3 n1 c1 n2 c2 n3 c3) := by rw [← hW2]; exact (Blk.new _ _ _).alloc _
 have b2 : Blk W2 (w.heap.size + 1) 33 #[.int .i64 0, .int .i64 0] := by
  rw [← hW2]
  have := Blk.new (w.alloc (.cells (plb p A1 A2 A3 n1 c1 n2 c2 n3 c3) 38)) 33 #[.int .i64 0, .int .i64 0]
  rw [World.size_alloc] at this
  exact this
 have T := Lib.hid (asked_nok p A1 A2 A3 n1 c1 n2 c2 n3 c3 w.heap.size hour known W2 b1 (hp.below g2) hno)
 have G2 := Lib.hid g2
 have B2 := Lib.hid b2
 have hz2 := g2.size
 have HR := Lib.hid (show stoodR p hour known = if askE p [hour] known = 0 then (lookS p known every).getD (after (lookL p known every) hour) zR else zR from rfl)
 obtain ⟨rr, hrr⟩ : ∃ rr, stoodR p hour known = rr := ⟨_, rfl⟩
 rw [hrr] at HR ⊢
 clear hrr hp g2 b1
 obtain ⟨ae, hae⟩ : ∃ ae, askE p [hour] known = ae := ⟨_, rfl⟩
 rw [hae] at HNZ
 rw [hae] at T HR ⊢
 clear hae
 have hb2l := b2.lt
 clear b2
 have he : ¬ ae = 0 := HNZ.out
 have HR2 := Lib.hid (show rr = zR by rw [HR.out, if_neg he])
 have hne : (ae != 0) = true := by simpa using he
 go_enter Tryz.func35, Tryz.ntmps35
 go_upto_region 3 with (go_at_call 74; (with_reducible refine (T.out).mono ?_); rintro e W3 ⟨r, rfl, hg, hl⟩; have G3 := Lib.hid hg; clear hg hl)
 have hb3 := B2.out.ext G3.out
 have q0 := hb3.cell 0
 have q1 := hb3.cell 1
 have q2 := hb3.frozen 0
 have q3 := hb3.frozen 1
 have hb9 := (hb3.set_ 0 (.int .i64 0)).set_ 1 (.int .i64 0)
 have r0 := hb9.cell 0
 have r1 := hb9.cell 1
 have GG := Lib.hid (((G2.out.trans (G3.out.mono G2.out.size)).setCell (p := ⟨w.heap.size + 1, 0, none⟩) (Nat.le_succ _) (.int .i64 0)).setCell (p := ⟨w.heap.size + 1, 1, none⟩) (Nat.le_succ _) (.int .i64 0))
 clear hb3 hb9
 go_wp2_with fail
 refine bodyPost_ret (v := .tuple #[rv rr, .int .i64 ae]) ?_ rfl ⟨rfl, GG.out⟩
 rw [HR2.out]
 simp [results, Tryz.results35, go_sem, r0, r1]
 exact ⟨rfl, rfl⟩
set_option maxRecDepth 100000 in
set_option maxHeartbeats 4000000 in
theorem clear_nok (p : Pl) (A1 A2 A3 : Option Addr) (n1 c1 n2 c2 n3 c3 : Nat) (hour known : Int) (w : World) (hp : Pa w p A1 A2 A3 n1 c1 n2 c2 n3 c3) (hno : okPl p = false) :
  Calls Tryz.prog 36 #[plv p A1 A2 A3 n1 c1 n2 c2 n3 c3, .int .i64 hour, .int .i64 known] w fun e w' => e = .returned (.tuple #[.int .i64 (clearA p hour known), .int .i64 (askE p [hour] known)]) ∧ Below w.heap.size w w' := by
 have HNZ := Lib.hid (show askE p [hour] known ≠ 0 from ask_no hno _ _)
 obtain ⟨W2, hW2⟩ : ∃ W2, w.alloc (.cells (plb p A1 A2 A3 n1 c1 n2 c2 n3 c3) 38) = W2 := ⟨_, rfl⟩
 have g2 : Below w.heap.size w W2 := by rw [← hW2]; exact one_more _ _
 have b1 : Blk W2 w.heap.size 38 (plb p A1 A2 A3 n1 c1 n2 c2 n3 c3) := by rw [← hW2]; exact Blk.new _ _ _
 have T := Lib.hid (asked_nok p A1 A2 A3 n1 c1 n2 c2 n3 c3 w.heap.size hour known W2 b1 (hp.below g2) hno)
 have G2 := Lib.hid g2
 have hz2 := g2.size
 have HR := Lib.hid (show clearA p hour known = if askE p [hour] known = 0 then clearS ((lookS p known every).getD (after (lookL p known every) hour) zR) else 0 from rfl)
 obtain ⟨rr, hrr⟩ : ∃ rr, clearA p hour known = rr := ⟨_, rfl⟩
 rw [hrr] at HR ⊢
 clear hrr hp g2 b1
 obtain ⟨ae, hae⟩ : ∃ ae, askE p [hour] known = ae := ⟨_, rfl⟩
 rw [hae] at HNZ
 rw [hae] at T HR ⊢
 clear hae
 have he : ¬ ae = 0 := HNZ.out
 have HR2 := Lib.hid (show rr = 0 by rw [HR.out, if_neg he])
 have hne : (ae != 0) = true := by simpa using he
 go_enter Tryz.func36, Tryz.ntmps36
 go_wp2_with (go_at_call 74; (with_reducible refine (T.out).mono ?_); rintro e W3 ⟨r, rfl, hg, hl⟩; have G3 := Lib.hid hg; clear hg hl)
 go_ret2
 exact ⟨by rw [HR2.out]; rfl, G2.out.trans (G3.out.mono G2.out.size)⟩
set_option maxRecDepth 100000 in
set_option maxHeartbeats 4000000 in
theorem first'_nok (p : Pl) (A1 A2 A3 : Option Addr) (n1 c1 n2 c2 n3 c3 : Nat) (known : Int) (w : World) (hp : Pa w p A1 A2 A3 n1 c1 n2 c2 n3 c3) (hno : okPl p = false) :
  Calls Tryz.prog 23 #[plv p A1 A2 A3 n1 c1 n2 c2 n3 c3, .int .i64 known] w fun e w' => e = .returned (.tuple #[rv (firstR p known), .int .i64 (askE p [0] known)]) ∧ Below w.heap.size w w' := by
 have HNZ := Lib.hid (show askE p [0] known ≠ 0 from ask_no hno _ _)
 obtain ⟨W2, hW2⟩ : ∃ W2, (w.alloc (.cells (plb p A1 A2 A3 n1 c1 n2 c2 n3 c3) 38)).alloc (.cells #[.int .i64 0, .int .i64 0] 33) = W2 := ⟨_, rfl⟩
 have g2 : Below w.heap.size w W2 := by rw [← hW2]; exact two_more _ _ _
 have b1 : Blk W2 w.heap.size 38 (plb p A1 A2 A3 n1 c1 n2 c2 n3 c3) := by rw [← hW2]; exact (Blk.new _ _ _).alloc _
 have b2 : Blk W2 (w.heap.size + 1) 33 #[.int .i64 0, .int .i64 0] := by
  rw [← hW2]
  have := Blk.new (w.alloc (.cells (plb p A1 A2 A3 n1 c1 n2 c2 n3 c3) 38)) 33 #[.int .i64 0, .int .i64 0]
  rw [World.size_alloc] at this
  exact this
 have T := Lib.hid (asked_nok p A1 A2 A3 n1 c1 n2 c2 n3 c3 w.heap.size 0 known W2 b1 (hp.below g2) hno)
 have G2 := Lib.hid g2
 have B2 := Lib.hid b2
 have hz2 := g2.size
 have HR := Lib.hid (show firstR p known = if askE p [0] known = 0 then ⟨minI (fromsP p known), maxI (fromsP p known)⟩ else zR from rfl)
 obtain ⟨rr, hrr⟩ : ∃ rr, firstR p known = rr := ⟨_, rfl⟩
 rw [hrr] at HR ⊢
 clear hrr hp g2 b1 hno
 have he : ¬ askE p [0] known = 0 := HNZ.out
 have HR2 := Lib.hid (show rr = zR by rw [HR.out, if_neg he])
 obtain ⟨ae, hae⟩ : ∃ ae, askE p [0] known = ae := ⟨_, rfl⟩
 rw [hae] at T he ⊢
 clear hae b2
 have hne : (ae != 0) = true := by simpa using he
 go_enter Tryz.func23, Tryz.ntmps23
 go_upto_region 3 with (go_at_call 74; (with_reducible refine (T.out).mono ?_); rintro e W3 ⟨r, rfl, hg, hl⟩; have G3 := Lib.hid hg; clear hg hl)
 have hb3 := B2.out.ext G3.out
 have q0 := hb3.cell 0
 have q1 := hb3.cell 1
 have q2 := hb3.frozen 0
 have q3 := hb3.frozen 1
 have hb9 := (hb3.set_ 0 (.int .i64 0)).set_ 1 (.int .i64 0)
 have r0 := hb9.cell 0
 have r1 := hb9.cell 1
 have GG := Lib.hid (((G2.out.trans (G3.out.mono G2.out.size)).setCell (p := ⟨w.heap.size + 1, 0, none⟩) (Nat.le_succ _) (.int .i64 0)).setCell (p := ⟨w.heap.size + 1, 1, none⟩) (Nat.le_succ _) (.int .i64 0))
 clear hb3 hb9
 go_wp2_with fail
 refine bodyPost_ret (v := .tuple #[rv rr, .int .i64 ae]) ?_ rfl ⟨rfl, GG.out⟩
 rw [HR2.out]
 simp [results, Tryz.results23, go_sem, r0, r1]
 exact ⟨rfl, rfl⟩
set_option maxRecDepth 100000 in
set_option maxHeartbeats 4000000 in
theorem openP_nok (p : Pl) (A1 A2 A3 : Option Addr) (n1 c1 n2 c2 n3 c3 : Nat) (hour known : Int) (w : World) (hp : Pa w p A1 A2 A3 n1 c1 n2 c2 n3 c3) (hno : okPl p = false) :
  Calls Tryz.prog 18 #[plv p A1 A2 A3 n1 c1 n2 c2 n3 c3, .int .i64 hour, .int .i64 known] w fun e w' => e = .returned (.tuple #[.int .i64 (openA p hour known), .int .i64 (askE p [hour] known)]) ∧ Below w.heap.size w w' := by
 have HNZ := Lib.hid (show askE p [hour] known ≠ 0 from ask_no hno _ _)
 obtain ⟨W2, hW2⟩ : ∃ W2, w.alloc (.cells (plb p A1 A2 A3 n1 c1 n2 c2 n3 c3) 38) = W2 := ⟨_, rfl⟩
 have g2 : Below w.heap.size w W2 := by rw [← hW2]; exact one_more _ _
 have b1 : Blk W2 w.heap.size 38 (plb p A1 A2 A3 n1 c1 n2 c2 n3 c3) := by rw [← hW2]; exact Blk.new _ _ _
 have T := Lib.hid (asked_nok p A1 A2 A3 n1 c1 n2 c2 n3 c3 w.heap.size hour known W2 b1 (hp.below g2) hno)
 have G2 := Lib.hid g2
 have HB1 := Lib.hid b1
 have HPA := Lib.hid (hp.below g2)
 have HR := Lib.hid (show openA p hour known = if askE p [hour] known = 0 then ans ((fromsP p known).any (openB p known hour)) ((fromsP p known).any fun f => !openB p known hour f) else 0 from rfl)
 obtain ⟨rr, hrr⟩ : ∃ rr, openA p hour known = rr := ⟨_, rfl⟩
 rw [hrr] at HR ⊢
 clear hrr hp g2 b1 hno
 have he : ¬ askE p [hour] known = 0 := HNZ.out
 have HR2 := Lib.hid (show rr = 0 by rw [HR.out, if_neg he])
 obtain ⟨ae, hae⟩ : ∃ ae, askE p [hour] known = ae := ⟨_, rfl⟩
 rw [hae] at T he ⊢
 clear hae
 have hne : (ae != 0) = true := by simpa using he
 go_enter Tryz.func18, Tryz.ntmps18
 go_wp2_with (go_at_call 74; (with_reducible refine (T.out).mono ?_); rintro e W3 ⟨r, rfl, hg, hl⟩; have G3 := Lib.hid hg; clear hg hl)
 go_ret2
 exact ⟨by rw [HR2.out]; rfl, G2.out.trans (G3.out.mono G2.out.size)⟩
set_option maxRecDepth 100000 in
set_option maxHeartbeats 4000000 in
theorem left_nok (p : Pl) (A1 A2 A3 : Option Addr) (n1 c1 n2 c2 n3 c3 : Nat) (hour known : Int) (N : Option Addr) (nn cn : Nat) (ns : List Int) (sown : Int) (w : World)
  (hp : Pa w p A1 A2 A3 n1 c1 n2 c2 n3 c3) (hno : okPl p = false) (hns : Ints w N nn ns) (hI : ∀ x ∈ ns, -9223372036854775808 ≤ x ∧ x ≤ 9223372036854775807) (hnn : nn ≤ 9223372036854775807) :
  Calls Tryz.prog 19 #[plv p A1 A2 A3 n1 c1 n2 c2 n3 c3, .agg #[.int .i64 sown, .slice N nn cn], .int .i64 hour, .int .i64 known] w fun e w' => e = .returned (.tuple #[.int .i64 (leftV p hour known sown ns), .int .i64 (leftE p [hour] known sown ns)]) ∧ Below w.heap.size w w' := by
 have HNZ := Lib.hid (show leftE p [hour] known sown ns ≠ 0 from left_nz hno _ _ _ _)
 obtain ⟨W1, hW1⟩ : ∃ W1, (w.alloc (.cells (plb p A1 A2 A3 n1 c1 n2 c2 n3 c3) 38)).alloc (.cells #[.int .i64 sown, .slice N nn cn] 41) = W1 := ⟨_, rfl⟩
 have g1 : Below w.heap.size w W1 := by rw [← hW1]; exact two_more _ _ _
 have b1 : Blk W1 w.heap.size 38 (plb p A1 A2 A3 n1 c1 n2 c2 n3 c3) := by rw [← hW1]; exact (Blk.new _ _ _).alloc _
 have b2 : Blk W1 (w.heap.size + 1) 41 #[.int .i64 sown, .slice N nn cn] := by rw [← hW1]; have := Blk.new (w.alloc (.cells (plb p A1 A2 A3 n1 c1 n2 c2 n3 c3) 38)) 41 #[.int .i64 sown, .slice N nn cn]; rwa [World.size_alloc] at this
 have T := Lib.hid (truly_nok p A1 A2 A3 n1 c1 n2 c2 n3 c3 w.heap.size hour known N nn cn ns sown W1 b1 (hp.below g1) hno (hns.below g1) hI hnn)
 have G1 := Lib.hid g1
 have k0 := b2.cell 0
 have k1 := b2.cell 1
 have HV := Lib.hid (show leftV p hour known sown ns = if leftE p [hour] known sown ns = 0 then (truS p known sown ns).getD (after (lookL p known every) hour) 0 else 0 from rfl)
 have HLN := Lib.hid (truS_len p known sown ns)
 obtain ⟨lv, hlv⟩ : ∃ v, leftV p hour known sown ns = v := ⟨_, rfl⟩
 obtain ⟨le, hle⟩ : ∃ v, leftE p [hour] known sown ns = v := ⟨_, rfl⟩
 rw [hle] at HNZ
 rw [hlv, hle] at HV ⊢
 have HLE := Lib.hid hle
 have HW1 := Lib.hid hW1
 clear hp hno hns hI hW1 g1 b1 b2 hlv hle
 have h0 : ¬ le = 0 := HNZ.out
 have HV2 := Lib.hid (show lv = 0 by rw [HV.out, if_neg h0])
 have hne : (le != 0) = true := by simpa using h0
 rw [HV2.out]
 go_enter Tryz.func19, Tryz.ntmps19
 go_upto_region 1 with fail
 rw [HW1.out]
 go_wp2_with (go_at_call 78; (with_reducible refine (T.out).mono ?_); rintro e W2 ⟨r, v, rfl, hg, -, ht⟩; obtain ⟨rfl, rfl⟩ := ht (by rw [HLE.out]; exact h0); rw [HLE.out]; have G2 := Lib.hid hg; clear hg ht)
 go_ret2
 exact ⟨rfl, G1.out.trans (G2.out.mono G1.out.size)⟩
set_option maxRecDepth 100000 in
set_option maxHeartbeats 4000000 in
theorem trulyP_nok (p : Pl) (A1 A2 A3 : Option Addr) (n1 c1 n2 c2 n3 c3 : Nat) (hour known : Int) (N : Option Addr) (nn cn : Nat) (ns : List Int) (sown : Int) (w : World)
  (hp : Pa w p A1 A2 A3 n1 c1 n2 c2 n3 c3) (hno : okPl p = false) (hns : Ints w N nn ns) (hI : ∀ x ∈ ns, -9223372036854775808 ≤ x ∧ x ≤ 9223372036854775807) (hnn : nn ≤ 9223372036854775807) :
  Calls Tryz.prog 52 #[plv p A1 A2 A3 n1 c1 n2 c2 n3 c3, .agg #[.int .i64 sown, .slice N nn cn], .int .i64 hour, .int .i64 known] w (TEnd p hour known sown ns w) := by
 have HNZ := Lib.hid (show leftE p [hour] known sown ns ≠ 0 from left_nz hno _ _ _ _)
 obtain ⟨W1, hW1⟩ : ∃ W1, ((((w.alloc (.cells (plb p A1 A2 A3 n1 c1 n2 c2 n3 c3) 38)).alloc (.cells #[.int .i64 sown, .slice N nn cn] 41)).alloc (.cells #[.int .i64 hour] 3)).alloc (.cells #[.bool false] 4)).alloc (.cells #[.int .i64 0] 52) = W1 := ⟨_, rfl⟩
 have g1 : Below w.heap.size w W1 := by rw [← hW1]; exact ((three_more _ _ _ _).alloc (by simp; omega) _).alloc (by simp; omega) _
 have b1 : Blk W1 w.heap.size 38 (plb p A1 A2 A3 n1 c1 n2 c2 n3 c3) := by rw [← hW1]; exact ((((Blk.new _ _ _).alloc _).alloc _).alloc _).alloc _
 have b2 : Blk W1 (w.heap.size + 1) 41 #[.int .i64 sown, .slice N nn cn] := by
  rw [← hW1]; have := Blk.new (w.alloc (.cells (plb p A1 A2 A3 n1 c1 n2 c2 n3 c3) 38)) 41 #[.int .i64 sown, .slice N nn cn]; rw [World.size_alloc] at this; exact ((this.alloc _).alloc _).alloc _
 have b3 : Blk W1 (w.heap.size + 1 + 1) 3 #[.int .i64 hour] := by
  rw [← hW1]; have := Blk.new ((w.alloc (.cells (plb p A1 A2 A3 n1 c1 n2 c2 n3 c3) 38)).alloc (.cells #[.int .i64 sown, .slice N nn cn] 41)) 3 #[.int .i64 hour]; simp only [World.size_alloc] at this; exact (this.alloc _).alloc _
 have b8 : Blk W1 (w.heap.size + 1 + 1 + 1) 4 #[.bool false] := by
  rw [← hW1]; have := Blk.new (((w.alloc (.cells (plb p A1 A2 A3 n1 c1 n2 c2 n3 c3) 38)).alloc (.cells #[.int .i64 sown, .slice N nn cn] 41)).alloc (.cells #[.int .i64 hour] 3)) 4 #[.bool false]; simp only [World.size_alloc] at this; exact this.alloc _
 have b9 : Blk W1 (w.heap.size + 1 + 1 + 1 + 1) 52 #[.int .i64 0] := by
  rw [← hW1]; have := Blk.new ((((w.alloc (.cells (plb p A1 A2 A3 n1 c1 n2 c2 n3 c3) 38)).alloc (.cells #[.int .i64 sown, .slice N nn cn] 41)).alloc (.cells #[.int .i64 hour] 3)).alloc (.cells #[.bool false] 4)) 52 #[.int .i64 0]; simp only [World.size_alloc] at this; exact this
 have HPA := Lib.hid (hp.below g1)
 have HPL := Lib.hid hp.lt
 have T := Lib.hid (truly_nok p A1 A2 A3 n1 c1 n2 c2 n3 c3 w.heap.size hour known N nn cn ns sown W1 b1 (hp.below g1) hno (hns.below g1) hI hnn)
 have G1 := Lib.hid g1
 have k0 := b2.cell 0
 have k1 := b2.cell 1
 have k2 := b3.cell 0
 have HB1 := Lib.hid b1
 have HB3 := Lib.hid b3
 have HB8 := Lib.hid b8
 have HB9 := Lib.hid b9
 have hb9l := b9.lt
 have HLN := Lib.hid (truS_len p known sown ns)
 have HR := Lib.hid (show trulyR p hour known sown ns = if leftE p [hour] known sown ns = 0 then trulyV p known hour (truS p known sown ns) else false from rfl)
 obtain ⟨le, hle⟩ : ∃ v, leftE p [hour] known sown ns = v := ⟨_, rfl⟩
 rw [hle] at HNZ
 have HLH := Lib.hid (left_hour (p := p) (hour := hour) (known := known) (sown := sown) (ns := ns))
 rw [hle] at HR HLH
 have HLE := Lib.hid hle
 have HW1 := Lib.hid hW1
 clear hp hno hns hI hW1 g1 b1 b2 b3 b8 b9 hle
 refine (callsIn_wide (n := 4)).1 (callsIn_of_wp_marks Tryz.func52 rfl trivial ?_ rfl)
 simp only [Tryz.ntmps52, List.size_toArray, List.length_cons, List.length_nil, Nat.reduceAdd, Nat.reduceSub, Array.replicate_succ, Array.replicate_zero, List.push_toArray, List.append_toArray, List.nil_append, List.cons_append]
 refine wpIn_wide.2 ?_
 have h0 : ¬ le = 0 := HNZ.out
 have HR2 := Lib.hid (show trulyR p hour known sown ns = false by rw [HR.out, if_neg h0])
 have hne : (le != 0) = true := by simpa using h0
 go_upto_region 1 with fail
 rw [HW1.out]
 go_upto_region 2 with (go_at_call 78; (with_reducible refine (T.out).mono ?_); rintro e W2 ⟨r, v, rfl, hg, -, ht⟩; obtain ⟨rfl, rfl⟩ := ht (by rw [HLE.out]; exact h0); rw [HLE.out]; have G2 := Lib.hid hg; clear hg ht)
 have gx : Below W1.heap.size W1 ((W2.alloc (.cells #[.pointer none] 134)).alloc (.cells #[.slice none 0 0] 39)) := G2.out.trans ((two_more W2 _ _).mono G2.out.size)
 have K8 := Lib.hid (HB8.out.ext gx)
 have K9 := Lib.hid (HB9.out.ext gx)
 have m0 := K8.out.cell 0
 have m1 := K8.out.frozen 0
 have m2 := K9.out.cell 0
 have m3 := K9.out.frozen 0
 have GX := Lib.hid (G1.out.trans (gx.mono G1.out.size))
 clear gx k0 k1 k2
 go_wp2_with fail
 have k8 := (K8.out.set_ 0 (.bool false)).far (p := ⟨w.heap.size + 1 + 1 + 1 + 1, 0, none⟩) (by show w.heap.size + 1 + 1 + 1 ≠ w.heap.size + 1 + 1 + 1 + 1; omega) (.int .i64 le)
 have k9 := (K9.out.far (p := ⟨w.heap.size + 1 + 1 + 1, 0, none⟩) (by show w.heap.size + 1 + 1 + 1 + 1 ≠ w.heap.size + 1 + 1 + 1; omega) (.bool false)).set_ 0 (.int .i64 le)
 have t0 := k8.cell 0
 have t1 := k9.cell 0
 refine ⟨.tuple #[.bool false, .int .i64 le], ?_, ⟨by rw [HR2.out, HLE.out], ?_⟩⟩
 ·simp [results, Tryz.results52, go_sem, t0, t1]
 ·exact (GX.out.setCell (p := ⟨w.heap.size + 1 + 1 + 1, 0, none⟩) (by show w.heap.size ≤ w.heap.size + 1 + 1 + 1; omega) _).setCell (p := ⟨w.heap.size + 1 + 1 + 1 + 1, 0, none⟩) (by show w.heap.size ≤ w.heap.size + 1 + 1 + 1 + 1; omega) _
set_option maxRecDepth 100000 in
set_option maxHeartbeats 4000000 in
theorem cartedP_nok (p : Pl) (A1 A2 A3 : Option Addr) (n1 c1 n2 c2 n3 c3 : Nat) (source known : Int) (w : World) (hp : Pa w p A1 A2 A3 n1 c1 n2 c2 n3 c3) (hno : okPl p = false) :
  Calls Tryz.prog 55 #[plv p A1 A2 A3 n1 c1 n2 c2 n3 c3, .int .i64 source, .int .i64 known] w fun e w' => e = .returned (.tuple #[rv (cartR p source known), .int .i64 (cartE p source known)]) ∧ Below w.heap.size w w' := by
 have HNZ := Lib.hid (show firstE p [] [known] ≠ 0 from first_no hno _ _)
 obtain ⟨W1, hW1⟩ : ∃ W1, ((w.alloc (.cells (plb p A1 A2 A3 n1 c1 n2 c2 n3 c3) 38)).alloc (.cells #[.int .i64 source] 3)).alloc (.cells #[.int .i64 0, .int .i64 0] 33) = W1 := ⟨_, rfl⟩
 have g1 : Below w.heap.size w W1 := by rw [← hW1]; exact (two_more w _ _).alloc (by simp; omega) _
 have b1 : Blk W1 w.heap.size 38 (plb p A1 A2 A3 n1 c1 n2 c2 n3 c3) := by rw [← hW1]; exact ((Blk.new _ _ _).alloc _).alloc _
 have b2 : Blk W1 (w.heap.size + 1) 3 #[.int .i64 source] := by
  rw [← hW1]
  have := Blk.new (w.alloc (.cells (plb p A1 A2 A3 n1 c1 n2 c2 n3 c3) 38)) 3 #[.int .i64 source]
  rw [World.size_alloc] at this
  exact this.alloc _
 have b3 : Blk W1 (w.heap.size + 1 + 1) 33 #[.int .i64 0, .int .i64 0] := by
  rw [← hW1]
  have := Blk.new ((w.alloc (.cells (plb p A1 A2 A3 n1 c1 n2 c2 n3 c3) 38)).alloc (.cells #[.int .i64 source] 3)) 33 #[.int .i64 0, .int .i64 0]
  simp only [World.size_alloc] at this
  exact this
 have hz1 : W1.heap.size = w.heap.size + 3 := by rw [← hW1]; simp
 have p0 := b1.cell 0
 have p1 := b1.cell 1
 have p2 := b1.cell 2
 have p3 := b1.cell 3
 have p4 := b1.cell 4
 have p5 := b1.cell 5
 have HPA := Lib.hid (hp.below g1)
 have HB := Lib.hid b1
 have HB2 := Lib.hid b2
 have HB3 := Lib.hid b3
 have G1 := Lib.hid g1
 have T := Lib.hid (fun W (g : Below W1.heap.size W1 W) (i1 : Ints W (some ⟨W1.heap.size, 0, none⟩) 1 [known]) => first_any p A1 A2 A3 n1 c1 n2 c2 n3 c3 none (some ⟨W1.heap.size, 0, none⟩) 0 0 1 1 [] [known] W (HPA.out.below g) Arr.nil_ i1 (by decide) (by decide))
 have HI := Lib.hid (one_int (Blk.new W1 3 #[.int .i64 known]))
 have HG := Lib.hid (one_more W1 (.cells #[.int .i64 known] 3))
 have HR := Lib.hid (show cartR p source known = if cartE p source known = 0 then cartV (lookL p known every) (lookS p known every) (cartIx p source known) else zR from rfl)
 have HE := Lib.hid (show cartE p source known = if firstE p [] [known] = 0 then (if cartIx p source known = (lookL p known every).length then 17 else err (sound (lookS p known every)) 14) else firstE p [] [known] from rfl)
 have HN := Lib.hid (no_hours p known)
 obtain ⟨rr, hrr⟩ : ∃ rr, cartR p source known = rr := ⟨_, rfl⟩
 obtain ⟨ce, hce⟩ : ∃ ce, cartE p source known = ce := ⟨_, rfl⟩
 rw [hrr, hce] at HR
 rw [hce] at HE
 rw [hrr, hce]
 obtain ⟨fe, hfe⟩ : ∃ fe, firstE p [] [known] = fe := ⟨_, rfl⟩
 rw [hfe] at HNZ
 rw [hfe] at HE HN T
 have HW1 := Lib.hid hW1
 have HZ := Lib.hid hz1
 clear hrr hfe hce hp g1 b1 b2 b3 hno hW1 hz1
 obtain ⟨bR, hbR⟩ : ∃ bR, w.heap.size + 1 + 1 = bR := ⟨_, rfl⟩
 rw [hbR] at HB3
 have he : ¬ fe = 0 := HNZ.out
 have HE2 := Lib.hid (show ce = fe by rw [HE.out, if_neg he])
 have HR2 := Lib.hid (show rr = zR by rw [HR.out, HE2.out, if_neg he])
 have hne : (fe != 0) = true := by simpa using he
 go_enter Tryz.func55, Tryz.ntmps55
 go_upto_region 1 with fail
 rw [HW1.out]
 have HBRE := Lib.hid hbR
 clear hbR
 go_upto_region 2 with (go_at_call 80; (with_reducible refine (T.out _ HG.out HI.out).mono ?_); rintro e W3 ⟨rfl, hg⟩; have G3 := Lib.hid (HG.out.trans (hg.mono HG.out.size)); clear hg)
 have hb5 := HB3.out.ext G3.out
 have q0 := hb5.cell 0
 have q1 := hb5.cell 1
 have q2 := hb5.frozen 0
 have q3 := hb5.frozen 1
 clear hb5
 go_wp2_with fail
 have hb9 := ((HB3.out.ext G3.out).set_ 0 (.int .i64 0)).set_ 1 (.int .i64 0)
 have r0 := hb9.cell 0
 have r1 := hb9.cell 1
 have GG := Lib.hid (((G1.out.trans (G3.out.mono G1.out.size)).setCell (p := ⟨bR, 0, none⟩) (by rw [← HBRE.out]; show w.heap.size ≤ w.heap.size + 1 + 1; omega) (.int .i64 0)).setCell (p := ⟨bR, 1, none⟩) (by rw [← HBRE.out]; show w.heap.size ≤ w.heap.size + 1 + 1; omega) (.int .i64 0))
 clear hb9
 refine bodyPost_ret (v := .tuple #[rv rr, .int .i64 ce]) ?_ rfl ⟨rfl, GG.out⟩
 rw [HR2.out, HE2.out]
 simp [results, Tryz.results55, go_sem, r0, r1]
 first | done | exact ⟨rfl, rfl⟩ | exact ⟨⟨rfl, rfl⟩, rfl⟩
set_option maxRecDepth 100000 in
set_option maxHeartbeats 4000000 in
theorem shutP_nok (p : Pl) (A1 A2 A3 : Option Addr) (n1 c1 n2 c2 n3 c3 : Nat) (hour known : Int) (w : World) (hp : Pa w p A1 A2 A3 n1 c1 n2 c2 n3 c3) (hno : okPl p = false) :
  Calls Tryz.prog 20 #[plv p A1 A2 A3 n1 c1 n2 c2 n3 c3, .int .i64 hour, .int .i64 known] w fun e w' => e = .returned (.tuple #[.bool (shutV p hour known), .int .i64 (firstE p [hour] [known])]) ∧ Below w.heap.size w w' := by
 have HNZ := Lib.hid (show firstE p [hour] [known] ≠ 0 from first_no hno _ _)
 obtain ⟨W1, hW1⟩ : ∃ W1, w.alloc (.cells (plb p A1 A2 A3 n1 c1 n2 c2 n3 c3) 38) = W1 := ⟨_, rfl⟩
 have g1 : Below w.heap.size w W1 := by rw [← hW1]; exact one_more _ _
 have b1 : Blk W1 w.heap.size 38 (plb p A1 A2 A3 n1 c1 n2 c2 n3 c3) := by rw [← hW1]; exact Blk.new _ _ _
 have p0 := b1.cell 0
 have p1 := b1.cell 1
 have p2 := b1.cell 2
 have p3 := b1.cell 3
 have p4 := b1.cell 4
 have p5 := b1.cell 5
 have HPA := Lib.hid (hp.below g1)
 have HB := Lib.hid b1
 have G1 := Lib.hid g1
 obtain ⟨W2, hW2⟩ : ∃ W2, (W1.alloc (.cells #[.int .i64 hour] 3)).alloc (.cells #[.int .i64 known] 3) = W2 := ⟨_, rfl⟩
 have g2 : Below W1.heap.size W1 W2 := by rw [← hW2]; exact two_more _ _ _
 have i1 : Ints W2 (some ⟨W1.heap.size, 0, none⟩) 1 [hour] := by rw [← hW2]; exact one_int ((Blk.new _ _ _).alloc _)
 have i2 : Ints W2 (some ⟨W1.heap.size + 1, 0, none⟩) 1 [known] := by
  rw [← hW2]
  have := Blk.new (W1.alloc (.cells #[.int .i64 hour] 3)) 3 #[.int .i64 known]
  rw [World.size_alloc] at this
  exact one_int this
 have T := Lib.hid (first_any p A1 A2 A3 n1 c1 n2 c2 n3 c3 _ _ 1 1 1 1 [hour] [known] W2 (HPA.out.below g2) i1 i2 (by decide) (by decide))
 have HG := Lib.hid g2
 have HR := Lib.hid (show shutV p hour known = if firstE p [hour] [known] = 0 then shutB p known hour else false from rfl)
 have HN := Lib.hid (fun h => first_ok (p := p) (hours := [hour]) (days := [known]) h)
 have HH := Lib.hid (fun h => hour_pos (p := p) (hour := hour) (days := [known]) h)
 obtain ⟨rr, hrr⟩ : ∃ rr, shutV p hour known = rr := ⟨_, rfl⟩
 rw [hrr] at HR ⊢
 obtain ⟨fe, hfe⟩ : ∃ fe, firstE p [hour] [known] = fe := ⟨_, rfl⟩
 rw [hfe] at HNZ
 rw [hfe] at HR HN HH T ⊢
 have HW1 := Lib.hid hW1
 have HW2 := Lib.hid hW2
 clear hrr hfe hp g1 b1 hno hW1 hW2 g2 i1 i2
 have he : ¬ fe = 0 := HNZ.out
 have HR2 := Lib.hid (show rr = false by rw [HR.out, if_neg he])
 have hne : (fe != 0) = true := by simpa using he
 clear HR
 go_enter Tryz.func20, Tryz.ntmps20
 go_upto_region 1 with fail
 rw [HW1.out]
 go_wp2_with (go_at_call 80; (try rw [HW2.out]); (with_reducible refine (T.out).mono ?_); rintro e W3 ⟨rfl, hg⟩; have G3 := Lib.hid (HG.out.trans (hg.mono HG.out.size)); clear hg)
 go_ret2
 exact ⟨by rw [HR2.out]; rfl, G1.out.trans (G3.out.mono G1.out.size)⟩
set_option maxRecDepth 100000 in
set_option maxHeartbeats 4000000 in
theorem moved_nok (p : Pl) (A1 A2 A3 : Option Addr) (n1 c1 n2 c2 n3 c3 : Nat) (source known : Int) (w : World) (hp : Pa w p A1 A2 A3 n1 c1 n2 c2 n3 c3) (hno : okPl p = false) :
  Calls Tryz.prog 45 #[plv p A1 A2 A3 n1 c1 n2 c2 n3 c3, .int .i64 source, .int .i64 known] w fun e w' => (∃ D m c, e = .returned (.tuple #[.slice D m c, .int .i64 (movedE p source known)]) ∧ Ints w' D m (movedL p source known)) ∧ Below w.heap.size w w' := by
 have HNZ := Lib.hid (show firstE p [] [known] ≠ 0 from first_no hno _ _)
 obtain ⟨W1, hW1⟩ : ∃ W1, (w.alloc (.cells (plb p A1 A2 A3 n1 c1 n2 c2 n3 c3) 38)).alloc (.cells #[.int .i64 known] 3) = W1 := ⟨_, rfl⟩
 have g1 : Below w.heap.size w W1 := by rw [← hW1]; exact two_more _ _ _
 have b1 : Blk W1 w.heap.size 38 (plb p A1 A2 A3 n1 c1 n2 c2 n3 c3) := by rw [← hW1]; exact (Blk.new _ _ _).alloc _
 have bk : Blk W1 (w.heap.size + 1) 3 #[.int .i64 known] := by
  rw [← hW1]
  have := Blk.new (w.alloc (.cells (plb p A1 A2 A3 n1 c1 n2 c2 n3 c3) 38)) 3 #[.int .i64 known]
  rw [World.size_alloc] at this
  exact this
 have p0 := b1.cell 0
 have p1 := b1.cell 1
 have p2 := b1.cell 2
 have p3 := b1.cell 3
 have p4 := b1.cell 4
 have p5 := b1.cell 5
 have k0 := bk.cell 0
 have hz1 := bk.lt
 have HPA := Lib.hid (hp.below g1)
 have HB := Lib.hid b1
 have HBK := Lib.hid bk
 have G1 := Lib.hid g1
 have T := Lib.hid (fun W (g : Below W1.heap.size W1 W) (i1 : Ints W (some ⟨W1.heap.size, 0, none⟩) 1 [known]) => first_any p A1 A2 A3 n1 c1 n2 c2 n3 c3 none (some ⟨W1.heap.size, 0, none⟩) 0 0 1 1 [] [known] W (HPA.out.below g) Arr.nil_ i1 (by decide) (by decide))
 have HI := Lib.hid (one_int (Blk.new W1 3 #[.int .i64 known]))
 have HG := Lib.hid (one_more W1 (.cells #[.int .i64 known] 3))
 have HR := Lib.hid (show movedL p source known = if movedE p source known = 0 then (hoursL p).filter (fun h => !sameAt p (withoutP p source) known h) else [] from rfl)
 have HE := Lib.hid (show movedE p source known = if firstE p [] [known] = 0 then err (hasI (srcsAll p) source) 3 else firstE p [] [known] from rfl)
 have HN := Lib.hid (no_hours p known)
 obtain ⟨rr, hrr⟩ : ∃ rr, movedL p source known = rr := ⟨_, rfl⟩
 obtain ⟨ce, hce⟩ : ∃ ce, movedE p source known = ce := ⟨_, rfl⟩
 rw [hrr, hce] at HR
 rw [hce] at HE
 rw [hrr, hce]
 obtain ⟨fe, hfe⟩ : ∃ fe, firstE p [] [known] = fe := ⟨_, rfl⟩
 rw [hfe] at HNZ
 rw [hfe] at HE HN T
 have HW1 := Lib.hid hW1
 clear hrr hfe hce hp g1 b1 bk hno hW1
 obtain ⟨bx, hbx⟩ : ∃ bx, w.heap.size = bx := ⟨_, rfl⟩
 have HBX := Lib.hid hbx
 have he : ¬ fe = 0 := HNZ.out
 have HE2 := Lib.hid (show ce = fe by rw [HE.out, if_neg he])
 have HR2 := Lib.hid (show rr = [] by rw [HR.out, HE2.out, if_neg he])
 have hne : (fe != 0) = true := by simpa using he
 go_enter Tryz.func45, Tryz.ntmps45
 go_upto_region 1 with fail
 rw [HW1.out]
 rw [hbx] at G1 HB HBK hz1 p0 p1 p2 p3 p4 p5 k0
 clear hbx
 go_wp2_with (go_at_call 80; (with_reducible refine (T.out _ HG.out HI.out).mono ?_); rintro e W3 ⟨rfl, hg⟩; have G3 := Lib.hid (HG.out.trans (hg.mono HG.out.size)); clear hg)
 go_ret2
 exact ⟨⟨none, 0, 0, by rw [HE2.out]; rfl, by rw [HR2.out]; exact Arr.nil_⟩, by rw [HBX.out]; exact G1.out.trans (G3.out.mono (by omega))⟩
set_option maxRecDepth 100000 in
set_option maxHeartbeats 4000000 in
theorem checkCart_nok (p : Pl) (A1 A2 A3 : Option Addr) (n1 c1 n2 c2 n3 c3 : Nat) (known : Int) (N : Option Addr) (nn cn : Nat) (ns : List Int) (sown : Int) (w : World)
  (hp : Pa w p A1 A2 A3 n1 c1 n2 c2 n3 c3) (hno : okPl p = false) (hns : Ints w N nn ns) (hI : ∀ x ∈ ns, -9223372036854775808 ≤ x ∧ x ≤ 9223372036854775807) (_hnn : nn ≤ 9223372036854775807) :
  Calls Tryz.prog 21 #[plv p A1 A2 A3 n1 c1 n2 c2 n3 c3, .int .i64 known, .agg #[.int .i64 sown, .slice N nn cn]] w fun e w' => e = .returned (.int .i64 (leftE p [] known sown ns)) ∧ Below w.heap.size w w' := by
 have HNZ := Lib.hid (show firstE p [] [known] ≠ 0 from first_no hno _ _)
 obtain ⟨W1, hW1⟩ : ∃ W1, (w.alloc (.cells (plb p A1 A2 A3 n1 c1 n2 c2 n3 c3) 38)).alloc (.cells #[.int .i64 sown, .slice N nn cn] 41) = W1 := ⟨_, rfl⟩
 have g1 : Below w.heap.size w W1 := by rw [← hW1]; exact two_more _ _ _
 have HP := Lib.hid (show Blk W1 w.heap.size 38 (plb p A1 A2 A3 n1 c1 n2 c2 n3 c3) by rw [← hW1]; exact (Blk.new _ _ _).alloc _)
 have HC := Lib.hid (show Blk W1 (w.heap.size + 1) 41 #[.int .i64 sown, .slice N nn cn] by rw [← hW1]; have := Blk.new (w.alloc (.cells (plb p A1 A2 A3 n1 c1 n2 c2 n3 c3) 38)) 41 #[.int .i64 sown, .slice N nn cn]; rwa [World.size_alloc] at this)
 have HPA := Lib.hid (hp.below g1)
 have HN := Lib.hid (hns.below g1)
 have HI := Lib.hid hI
 have G1 := Lib.hid g1
 have T := Lib.hid (fun W (g : Below W1.heap.size W1 W) (i1 : Ints W (some ⟨W1.heap.size, 0, none⟩) 1 [known]) => first_any p A1 A2 A3 n1 c1 n2 c2 n3 c3 none (some ⟨W1.heap.size, 0, none⟩) 0 0 1 1 [] [known] W (HPA.out.below g) Arr.nil_ i1 (by decide) (by decide))
 have HI1 := Lib.hid (one_int (Blk.new W1 3 #[.int .i64 known]))
 have HG1 := Lib.hid (one_more W1 (.cells #[.int .i64 known] 3))
 have HE := Lib.hid (show leftE p [] known sown ns = if firstE p [] [known] = 0 then err (truthB p known sown ns) 16 else firstE p [] [known] from rfl)
 have HOK := Lib.hid (fun h => first_ok (p := p) (hours := []) (days := [known]) h)
 obtain ⟨fe, hfe⟩ : ∃ fe, firstE p [] [known] = fe := ⟨_, rfl⟩
 rw [hfe] at HNZ
 rw [hfe] at T HE HOK
 obtain ⟨le, hle⟩ : ∃ v, leftE p [] known sown ns = v := ⟨_, rfl⟩
 rw [hle] at HE ⊢
 have p0 := HP.out.cell 0
 have p1 := HP.out.cell 1
 have p2 := HP.out.cell 2
 have p3 := HP.out.cell 3
 have p4 := HP.out.cell 4
 have p5 := HP.out.cell 5
 have HW1 := Lib.hid hW1
 clear hp hno hns hI hW1 g1 hfe hle
 have hf0 : ¬ fe = 0 := HNZ.out
 have HE2 := Lib.hid (show le = fe by rw [HE.out, if_neg hf0])
 have hne : (fe != 0) = true := by simpa using hf0
 go_enter Tryz.func21, Tryz.ntmps21
 go_upto_region 1 with fail
 rw [HW1.out]
 go_wp2_with (go_at_call 80; (with_reducible refine (T.out _ HG1.out HI1.out).mono ?_); rintro e W3 ⟨rfl, hg⟩; have G3 := Lib.hid (HG1.out.trans (hg.mono HG1.out.size)); clear hg)
 go_ret
 exact ⟨by rw [HE2.out]; rfl, G1.out.trans (G3.out.mono G1.out.size)⟩
theorem stoodQ_any (p : Pl) (A1 A2 A3 : Option Addr) (n1 c1 n2 c2 n3 c3 : Nat) (hour known : Int) (w : World) (hp : Pa w p A1 A2 A3 n1 c1 n2 c2 n3 c3) :
  Calls Tryz.prog 35 #[plv p A1 A2 A3 n1 c1 n2 c2 n3 c3, .int .i64 hour, .int .i64 known] w fun e w' => e = .returned (.tuple #[rv (stoodR p hour known), .int .i64 (askE p [hour] known)]) ∧ Below w.heap.size w w' := by
 by_cases h : p.loads.length ≤ 60
 ·exact stood_any p A1 A2 A3 n1 c1 n2 c2 n3 c3 hour known w hp h
 ·exact stood_nok p A1 A2 A3 n1 c1 n2 c2 n3 c3 hour known w hp (many_no h)
theorem clearQ_any (p : Pl) (A1 A2 A3 : Option Addr) (n1 c1 n2 c2 n3 c3 : Nat) (hour known : Int) (w : World) (hp : Pa w p A1 A2 A3 n1 c1 n2 c2 n3 c3) :
  Calls Tryz.prog 36 #[plv p A1 A2 A3 n1 c1 n2 c2 n3 c3, .int .i64 hour, .int .i64 known] w fun e w' => e = .returned (.tuple #[.int .i64 (clearA p hour known), .int .i64 (askE p [hour] known)]) ∧ Below w.heap.size w w' := by
 by_cases h : p.loads.length ≤ 60
 ·exact clear_any p A1 A2 A3 n1 c1 n2 c2 n3 c3 hour known w hp h
 ·exact clear_nok p A1 A2 A3 n1 c1 n2 c2 n3 c3 hour known w hp (many_no h)
theorem first'Q_any (p : Pl) (A1 A2 A3 : Option Addr) (n1 c1 n2 c2 n3 c3 : Nat) (known : Int) (w : World) (hp : Pa w p A1 A2 A3 n1 c1 n2 c2 n3 c3) :
  Calls Tryz.prog 23 #[plv p A1 A2 A3 n1 c1 n2 c2 n3 c3, .int .i64 known] w fun e w' => e = .returned (.tuple #[rv (firstR p known), .int .i64 (askE p [0] known)]) ∧ Below w.heap.size w w' := by
 by_cases h : p.loads.length ≤ 60
 ·exact first'_any p A1 A2 A3 n1 c1 n2 c2 n3 c3 known w hp h
 ·exact first'_nok p A1 A2 A3 n1 c1 n2 c2 n3 c3 known w hp (many_no h)
theorem openQ_any (p : Pl) (A1 A2 A3 : Option Addr) (n1 c1 n2 c2 n3 c3 : Nat) (hour known : Int) (w : World) (hp : Pa w p A1 A2 A3 n1 c1 n2 c2 n3 c3) :
  Calls Tryz.prog 18 #[plv p A1 A2 A3 n1 c1 n2 c2 n3 c3, .int .i64 hour, .int .i64 known] w fun e w' => e = .returned (.tuple #[.int .i64 (openA p hour known), .int .i64 (askE p [hour] known)]) ∧ Below w.heap.size w w' := by
 by_cases h : p.loads.length ≤ 60
 ·exact openP_any p A1 A2 A3 n1 c1 n2 c2 n3 c3 hour known w hp h
 ·exact openP_nok p A1 A2 A3 n1 c1 n2 c2 n3 c3 hour known w hp (many_no h)
theorem leftQ_any (p : Pl) (A1 A2 A3 : Option Addr) (n1 c1 n2 c2 n3 c3 : Nat) (hour known : Int) (N : Option Addr) (nn cn : Nat) (ns : List Int) (sown : Int) (w : World)
  (hp : Pa w p A1 A2 A3 n1 c1 n2 c2 n3 c3) (hns : Ints w N nn ns) (hI : ∀ x ∈ ns, -9223372036854775808 ≤ x ∧ x ≤ 9223372036854775807) (hnn : nn ≤ 9223372036854775807) :
  Calls Tryz.prog 19 #[plv p A1 A2 A3 n1 c1 n2 c2 n3 c3, .agg #[.int .i64 sown, .slice N nn cn], .int .i64 hour, .int .i64 known] w fun e w' => e = .returned (.tuple #[.int .i64 (leftV p hour known sown ns), .int .i64 (leftE p [hour] known sown ns)]) ∧ Below w.heap.size w w' := by
 by_cases h : p.loads.length ≤ 60
 ·exact left_any p A1 A2 A3 n1 c1 n2 c2 n3 c3 hour known N nn cn ns sown w hp h hns hI hnn
 ·exact left_nok p A1 A2 A3 n1 c1 n2 c2 n3 c3 hour known N nn cn ns sown w hp (many_no h) hns hI hnn
theorem trulyQ_any (p : Pl) (A1 A2 A3 : Option Addr) (n1 c1 n2 c2 n3 c3 : Nat) (hour known : Int) (N : Option Addr) (nn cn : Nat) (ns : List Int) (sown : Int) (w : World)
  (hp : Pa w p A1 A2 A3 n1 c1 n2 c2 n3 c3) (hns : Ints w N nn ns) (hI : ∀ x ∈ ns, -9223372036854775808 ≤ x ∧ x ≤ 9223372036854775807) (hnn : nn ≤ 9223372036854775807) :
  Calls Tryz.prog 52 #[plv p A1 A2 A3 n1 c1 n2 c2 n3 c3, .agg #[.int .i64 sown, .slice N nn cn], .int .i64 hour, .int .i64 known] w (TEnd p hour known sown ns w) := by
 by_cases h : p.loads.length ≤ 60
 ·exact trulyP_any p A1 A2 A3 n1 c1 n2 c2 n3 c3 hour known N nn cn ns sown w hp h hns hI hnn
 ·exact trulyP_nok p A1 A2 A3 n1 c1 n2 c2 n3 c3 hour known N nn cn ns sown w hp (many_no h) hns hI hnn
theorem cartedQ_any (p : Pl) (A1 A2 A3 : Option Addr) (n1 c1 n2 c2 n3 c3 : Nat) (source known : Int) (w : World) (hp : Pa w p A1 A2 A3 n1 c1 n2 c2 n3 c3) :
  Calls Tryz.prog 55 #[plv p A1 A2 A3 n1 c1 n2 c2 n3 c3, .int .i64 source, .int .i64 known] w fun e w' => e = .returned (.tuple #[rv (cartR p source known), .int .i64 (cartE p source known)]) ∧ Below w.heap.size w w' := by
 by_cases h : p.loads.length ≤ 60
 ·exact cartedP_any p A1 A2 A3 n1 c1 n2 c2 n3 c3 source known w hp h
 ·exact cartedP_nok p A1 A2 A3 n1 c1 n2 c2 n3 c3 source known w hp (many_no h)
theorem shutQ_any (p : Pl) (A1 A2 A3 : Option Addr) (n1 c1 n2 c2 n3 c3 : Nat) (hour known : Int) (w : World) (hp : Pa w p A1 A2 A3 n1 c1 n2 c2 n3 c3) :
  Calls Tryz.prog 20 #[plv p A1 A2 A3 n1 c1 n2 c2 n3 c3, .int .i64 hour, .int .i64 known] w fun e w' => e = .returned (.tuple #[.bool (shutV p hour known), .int .i64 (firstE p [hour] [known])]) ∧ Below w.heap.size w w' := by
 by_cases h : p.loads.length ≤ 60
 ·exact shutP_any p A1 A2 A3 n1 c1 n2 c2 n3 c3 hour known w hp h
 ·exact shutP_nok p A1 A2 A3 n1 c1 n2 c2 n3 c3 hour known w hp (many_no h)
theorem movedQ_any (p : Pl) (A1 A2 A3 : Option Addr) (n1 c1 n2 c2 n3 c3 : Nat) (source known : Int) (w : World) (hp : Pa w p A1 A2 A3 n1 c1 n2 c2 n3 c3) :
  Calls Tryz.prog 45 #[plv p A1 A2 A3 n1 c1 n2 c2 n3 c3, .int .i64 source, .int .i64 known] w fun e w' => (∃ D m c, e = .returned (.tuple #[.slice D m c, .int .i64 (movedE p source known)]) ∧ Ints w' D m (movedL p source known)) ∧ Below w.heap.size w w' := by
 by_cases h : p.loads.length ≤ 60
 ·exact moved_any p A1 A2 A3 n1 c1 n2 c2 n3 c3 source known w hp h
 ·exact moved_nok p A1 A2 A3 n1 c1 n2 c2 n3 c3 source known w hp (many_no h)
theorem checkCartQ_any (p : Pl) (A1 A2 A3 : Option Addr) (n1 c1 n2 c2 n3 c3 : Nat) (known : Int) (N : Option Addr) (nn cn : Nat) (ns : List Int) (sown : Int) (w : World)
  (hp : Pa w p A1 A2 A3 n1 c1 n2 c2 n3 c3) (hns : Ints w N nn ns) (hI : ∀ x ∈ ns, -9223372036854775808 ≤ x ∧ x ≤ 9223372036854775807) (_hnn : nn ≤ 9223372036854775807) :
  Calls Tryz.prog 21 #[plv p A1 A2 A3 n1 c1 n2 c2 n3 c3, .int .i64 known, .agg #[.int .i64 sown, .slice N nn cn]] w fun e w' => e = .returned (.int .i64 (leftE p [] known sown ns)) ∧ Below w.heap.size w w' := by
 by_cases h : p.loads.length ≤ 60
 ·exact checkCart_any p A1 A2 A3 n1 c1 n2 c2 n3 c3 known N nn cn ns sown w hp h hns hI _hnn
 ·exact checkCart_nok p A1 A2 A3 n1 c1 n2 c2 n3 c3 known N nn cn ns sown w hp (many_no h) hns hI _hnn
end Go.Proofs.YtkoejeghihcmlaaGreat

namespace Go.Proofs.YtkoejeghihcmlaaGreat
open Go.RowKit Go.Shelf
/-- The hour behind so many loads. -/
def hourAt (ls : List Six) (i : Nat) : Int := if i = 0 then 0 else (ls.getD (i - 1) z6).b
/-- What a loop from the last row down leaves: the hour of the least row that fits. -/
def downH (ls : List Six) (q : Nat → Bool) : Nat → Int
 | 0 => 100000
 | d + 1 => if q (ls.length - d) = true then hourAt ls (ls.length - d) else downH ls q d
def qLo (ls : List Six) (st : List Rg) (k : Nat) : Bool := decide (Lo st (after ls (hourAt ls k)) = 0)
def qHi (ls : List Six) (st : List Rg) (k : Nat) : Bool := decide (Hi st (after ls (hourAt ls k)) = 0)
theorem hourAt_bd {ls : List Six} (h0 : ∀ x ∈ ls, 0 ≤ x.b ∧ x.b ≤ 99999) {i : Nat} (hi : i ≤ ls.length) : 0 ≤ hourAt ls i ∧ hourAt ls i ≤ 99999 := by
 unfold hourAt
 split
 ·omega
 ·exact h0 _ (getD_mem' (by omega))
theorem hourAt_mono {ls : List Six} (hu : Up ls) (h0 : ∀ x ∈ ls, 0 ≤ x.b ∧ x.b ≤ 99999) {i j : Nat} (hij : i ≤ j) (hj : j ≤ ls.length) : hourAt ls i ≤ hourAt ls j := by
 by_cases hi : i = 0
 ·subst hi
  exact (hourAt_bd h0 hj).1
 ·unfold hourAt
  rw [if_neg hi, if_neg (by omega)]
  exact up_get hu (by omega) (by omega)
theorem downH_spec {ls : List Six} (hu : Up ls) (h0 : ∀ x ∈ ls, 0 ≤ x.b ∧ x.b ≤ 99999) {q : Nat → Bool} {m : Int} (hm : m ≤ 100000) (hq : ∀ k, k ≤ ls.length → (q k = true ↔ m ≤ hourAt ls k)) :
  ∀ d, d ≤ ls.length + 1 → m ≤ downH ls q d ∧ downH ls q d ≤ 100000 ∧ ∀ k, k ≤ ls.length → ls.length + 1 ≤ k + d → hourAt ls k = m → downH ls q d = m
 | 0, _ => ⟨hm, Int.le_refl _, fun k h1 h2 _ => absurd h2 (by omega)⟩
 | d + 1, hd => by
  have ih := downH_spec hu h0 hm hq d (by omega)
  have hb := hourAt_bd h0 (Nat.sub_le ls.length d)
  have hqq := hq (ls.length - d) (Nat.sub_le _ _)
  unfold downH
  by_cases e : q (ls.length - d) = true
  ·rw [if_pos e]
   refine ⟨hqq.1 e, by omega, fun k h1 h2 h3 => ?_⟩
   have h4 := hourAt_mono hu h0 (i := ls.length - d) (j := k) (by omega) h1
   have h5 := hqq.1 e
   omega
  ·rw [if_neg e]
   refine ⟨ih.1, ih.2.1, fun k h1 h2 h3 => ?_⟩
   by_cases h4 : k = ls.length - d
   ·subst h4
    exact absurd (hqq.2 (by omega)) e
   ·exact ih.2.2 k h1 (by omega) h3
theorem downH_eq {ls : List Six} (hu : Up ls) (h0 : ∀ x ∈ ls, 0 ≤ x.b ∧ x.b ≤ 99999) {q : Nat → Bool} {m : Int} (hq : ∀ k, k ≤ ls.length → (q k = true ↔ m ≤ hourAt ls k)) (hm : m = 100000 ∨ ∃ k, k ≤ ls.length ∧ hourAt ls k = m) : downH ls q (ls.length + 1) = m := by
 have hm' : m ≤ 100000 := by
  rcases hm with h | ⟨k, hk, h⟩
  ·omega
  ·have := hourAt_bd h0 hk; omega
 have h := downH_spec hu h0 hm' hq (ls.length + 1) (Nat.le_refl _)
 rcases hm with h1 | ⟨k, hk, h1⟩
 ·omega
 ·exact h.2.2 k hk (by omega) h1
theorem from_hour {ls : List Six} {st : List Rg} (h : Rw ls st) {f : Int} (hf : f ∈ fromsL ls st) : f = 100000 ∨ ∃ k, k ≤ ls.length ∧ hourAt ls k = f := by
 obtain ⟨s, -, rfl⟩ := h.mem_froms.1 hf
 rcases clr_cases ls s with ⟨l1, x, l2, e, -, -, hc⟩ | ⟨-, hc⟩
 ·right
  rw [hc]
  have hm : x ∈ endsL ls := by rw [e]; simp
  rcases mem_ends.1 hm with rfl | ⟨i, hi, -, rfl⟩
  ·exact ⟨0, Nat.zero_le _, rfl⟩
  ·exact ⟨i + 1, hi, rfl⟩
 ·exact .inl hc
/-- The reference's First. -/
def firstD (p : Pl) (known : Int) (d : Nat) : Rg :=
 ⟨downH (lookL p known every) (qLo (lookL p known every) (lookS p known every)) d, downH (lookL p known every) (qHi (lookL p known every) (lookS p known every)) d⟩
theorem first_down {p : Pl} {known : Int} (h : askE p [0] known = 0) : firstR p known = firstD p known ((lookL p known every).length + 1) := by
 have hp := ask_parts h
 have hr := look_rw hp.1 hp.2.1
 have hne := fromsP_ne h
 rw [firstR_of h]
 unfold firstD
 congr 1
 ·refine (downH_eq hr.up hr.hrs (fun k hk => ?_) (from_hour hr (minI_spec hne).1)).symm
  have hb := hourAt_bd hr.hrs hk
  have hi := hr.no_iff hb.1 hb.2
  have hl := lt_minI hne (x := hourAt (lookL p known every) k)
  unfold qLo
  rw [decide_eq_true_eq]
  constructor
  ·intro e
   by_cases c : minI (fromsP p known) ≤ hourAt (lookL p known every) k
   ·exact c
   ·exact absurd e (hi.2 (hl.1 (by omega)))
  ·intro c
   by_cases e : Lo (lookS p known every) (after (lookL p known every) (hourAt (lookL p known every) k)) = 0
   ·exact e
   ·have := hl.2 (hi.1 e); omega
 ·refine (downH_eq hr.up hr.hrs (fun k hk => ?_) (from_hour hr (maxI_spec hne).1)).symm
  have hb := hourAt_bd hr.hrs hk
  have hi := hr.yes_iff hb.1 hb.2
  have hl := le_maxI hne (x := hourAt (lookL p known every) k)
  unfold qHi
  rw [decide_eq_true_eq, hi]
  exact hl.symm
/-- The reference's Open. -/
def roFree (p : Pl) (hour : Int) : Bool := decide (p.geese = 0) || decide (hour - 24 * p.geese < 0)
def roRow (p : Pl) (known : Int) : List Rg := standsF known every (lookL p known every) p.stands (stood0 p (lookL p known every).length)
def roAt (p : Pl) (hour known : Int) : List Rg := nar (roRow p known) (after (lookL p known every) hour) zR
def roSt (p : Pl) (hour known : Int) : List Rg :=
 if roFree p hour = true then roAt p hour known else nar (roAt p hour known) (after (lookL p known every) (hour - 24 * p.geese)) ⟨1, 10000⟩
def roEarly (p : Pl) (hour known : Int) : Bool := roFree p hour || decide (0 < Lo (lookS p known every) (after (lookL p known every) (hour - 24 * p.geese)))
def roMay (p : Pl) (hour known : Int) : Bool := sound (settle (lookL p known every) (roSt p hour known))
def roAns (p : Pl) (hour known : Int) : Int :=
 if shutB p known hour = true then 0 else if roMay p hour known = true then (if (decide (Hi (lookS p known every) (after (lookL p known every) hour) = 0) && roEarly p hour known) = true then 1 else 2) else 0
theorem roRow_len (p : Pl) (known : Int) : (roRow p known).length = (lookL p known every).length + 1 := by
 unfold roRow; rw [standsF_len]; unfold stood0; simp
theorem tru_nar_iff {ls : List Six} {st : List Rg} {s : List Int} {i : Nat} {r : Rg} (hl : st.length = ls.length + 1) (hi : i ≤ ls.length) : Tru ls (nar st i r) s ↔ Tru ls st s ∧ r.lo ≤ s.getD i 0 ∧ s.getD i 0 ≤ r.hi := by
 constructor
 ·intro h
  refine ⟨⟨h.1, h.2.1, fun j hj => ?_⟩, ?_⟩
  ·have h1 := h.2.2 j hj
   have h2 := nar_le (st := st) (i := i) (by omega) r j
   omega
  ·have h1 := h.2.2 i hi
   unfold nar Lo Hi at h1
   rw [List.getD_eq_getElem?_getD, List.getElem?_set_self (by omega)] at h1
   simp only [Option.getD_some] at h1
   omega
 ·rintro ⟨h, h1, h2⟩
  exact tru_nar hl hi h ⟨h1, h2⟩
theorem ro_tru {p : Pl} {hour known : Int} (ha : askE p [hour] known = 0) (s : List Int) : Tru (lookL p known every) (roSt p hour known) s ↔
  Tru (lookL p known every) (lookS p known every) s ∧ clrFrom (lookL p known every) s ≤ hour ∧ (p.geese = 0 ∨ hour < clrFrom (lookL p known every) s + 24 * p.geese) := by
 have hp := ask_parts ha
 have hr := look_rw hp.1 hp.2.1
 have hh := hour_of ha
 have hg := (ok_parts hp.1).2.2.2.2.2.2.2.2
 have hT : Tru (lookL p known every) (roRow p known) s ↔ Tru (lookL p known every) (lookS p known every) s :=
  ⟨fun h => tru_settle (roRow_len p known) h, fun h => settle_tru (roRow_len p known) h⟩
 have hA : Tru (lookL p known every) (roAt p hour known) s ↔ Tru (lookL p known every) (lookS p known every) s ∧ clrFrom (lookL p known every) s ≤ hour := by
  unfold roAt
  rw [tru_nar_iff (roRow_len p known) (after_len _ _), hT]
  constructor
  ·rintro ⟨h, h1, h2⟩
   exact ⟨h, (hr.clear_iff h hh.1 hh.2).1 (Int.le_antisymm h2 h1)⟩
  ·rintro ⟨h, h1⟩
   have h2 := (hr.clear_iff h hh.1 hh.2).2 h1
   exact ⟨h, by rw [h2]; exact Int.le_refl _, by rw [h2]; exact Int.le_refl _⟩
 have hc := clr_bd hr.hrs s
 unfold roSt
 by_cases hf : roFree p hour = true
 ·rw [if_pos hf, hA]
  unfold roFree at hf
  simp only [Bool.or_eq_true, decide_eq_true_eq] at hf
  constructor
  ·rintro ⟨h1, h2⟩; exact ⟨h1, h2, by omega⟩
  ·rintro ⟨h1, h2, -⟩; exact ⟨h1, h2⟩
 ·rw [if_neg hf]
  unfold roFree at hf
  simp only [Bool.or_eq_true, decide_eq_true_eq, not_or] at hf
  rw [tru_nar_iff (by unfold roAt; rw [nar_len, roRow_len]) (after_len _ _), hA]
  constructor
  ·rintro ⟨⟨h, h1⟩, h2, h3⟩
   refine ⟨h, h1, .inr ?_⟩
   by_cases e : clrFrom (lookL p known every) s ≤ hour - 24 * p.geese
   ·have := (hr.clear_iff h (hour := hour - 24 * p.geese) (by omega) (by omega)).2 e
    rw [this] at h2
    exact absurd h2 (by decide)
   ·omega
  ·rintro ⟨h, h1, h2⟩
   refine ⟨⟨h, h1⟩, ?_, ?_⟩
   ·have h4 := true_pos ha h (after_len (lookL p known every) (hour - 24 * p.geese))
    by_cases e : s.getD (after (lookL p known every) (hour - 24 * p.geese)) 0 = 0
    ·have := (hr.clear_iff h (hour := hour - 24 * p.geese) (by omega) (by omega)).1 e
     omega
    ·show (1 : Int) ≤ _
     omega
   ·have h4 := (h.2.2 _ (after_len (lookL p known every) (hour - 24 * p.geese))).2
    have h5 := look_hi hp.1 known every (after_len (lookL p known every) (hour - 24 * p.geese))
    show _ ≤ (10000 : Int)
    omega
theorem ro_may {p : Pl} {hour known : Int} (ha : askE p [hour] known = 0) (hs : shutB p known hour = false) : roMay p hour known = (fromsP p known).any (openB p known hour) := by
 have hp := ask_parts ha
 have hr := look_rw hp.1 hp.2.1
 rw [Bool.eq_iff_iff]
 unfold roMay
 rw [sound_tru (by unfold roSt; split <;> (unfold roAt; simp only [nar_len]; exact roRow_len p known)) (fun i hi => (hr.wid i hi).2), List.any_eq_true]
 unfold openB
 rw [hs]
 constructor
 ·rintro ⟨s, h⟩
  obtain ⟨h1, h2, h3⟩ := (ro_tru ha s).1 h
  refine ⟨clrFrom (lookL p known every) s, from_mem ha h1, ?_⟩
  simp only [Bool.not_false, Bool.and_true, Bool.and_eq_true, Bool.or_eq_true, decide_eq_true_eq]
  exact ⟨h2, h3⟩
 ·rintro ⟨f, hf, h⟩
  obtain ⟨s, h1, rfl⟩ := hr.mem_froms.1 hf
  simp only [Bool.not_false, Bool.and_true, Bool.and_eq_true, Bool.or_eq_true, decide_eq_true_eq] at h
  exact ⟨s, (ro_tru ha s).2 ⟨h1, h.1, h.2⟩⟩
theorem ro_sure {p : Pl} {hour known : Int} (ha : askE p [hour] known = 0) (hs : shutB p known hour = false) :
  (decide (Hi (lookS p known every) (after (lookL p known every) hour) = 0) && roEarly p hour known) = !((fromsP p known).any fun f => !openB p known hour f) := by
 have hp := ask_parts ha
 have hr := look_rw hp.1 hp.2.1
 have hh := hour_of ha
 have hg := (ok_parts hp.1).2.2.2.2.2.2.2.2
 have hy := hr.yes_iff hh.1 hh.2
 have hall : (∀ f ∈ fromsP p known, openB p known hour f = true) ↔ (Hi (lookS p known every) (after (lookL p known every) hour) = 0 ∧ roEarly p hour known = true) := by
  rw [hy]
  unfold roEarly roFree openB
  rw [hs]
  simp only [Bool.not_false, Bool.and_true, Bool.and_eq_true, Bool.or_eq_true, decide_eq_true_eq]
  by_cases hf : p.geese = 0 ∨ hour - 24 * p.geese < 0
  ·constructor
   ·intro h; exact ⟨fun f hf => (h f hf).1, .inl hf⟩
   ·rintro ⟨h, -⟩ f hm
    have := (mem_fromsL_bd hr.hrs hm).1
    exact ⟨h f hm, by omega⟩
  ·have hn := hr.no_iff (hour := hour - 24 * p.geese) (by omega) (by omega)
   have hpos := hr.pos _ (after_len (lookL p known every) (hour - 24 * p.geese))
   constructor
   ·intro h
    refine ⟨fun f hm => (h f hm).1, .inr ?_⟩
    have := hn.2 (fun f hm => by have := (h f hm).2; omega)
    omega
   ·rintro ⟨h, h1⟩ f hm
    refine ⟨h f hm, .inr ?_⟩
    rcases h1 with h1 | h1
    ·exact absurd h1 hf
    ·have := hn.1 (by omega) f hm
     omega
 rw [Bool.eq_iff_iff, Bool.and_eq_true, decide_eq_true_eq, ← hall, Bool.not_eq_true', ← Bool.not_eq_true, List.any_eq_true]
 constructor
 ·rintro h ⟨f, hf, h1⟩
  rw [h f hf] at h1
  cases h1
 ·intro h f hf
  cases e : openB p known hour f with
  | true => rfl
  | false => exact absurd ⟨f, hf, by rw [e]; rfl⟩ h
theorem ro_open {p : Pl} {hour known : Int} (ha : askE p [hour] known = 0) : roAns p hour known = openA p hour known := by
 unfold roAns openA
 rw [if_pos ha]
 have hne := fromsP_ne ha
 by_cases hs : shutB p known hour = true
 ·rw [if_pos hs]
  have e1 : (fromsP p known).any (openB p known hour) = false := by
   rw [← Bool.not_eq_true, List.any_eq_true]
   rintro ⟨f, -, h⟩
   unfold openB at h
   rw [hs] at h
   simp at h
  have e2 : ((fromsP p known).any fun f => !openB p known hour f) = true := by
   rw [List.any_eq_true]
   obtain ⟨f, hf⟩ := List.exists_mem_of_ne_nil _ hne
   refine ⟨f, hf, ?_⟩
   unfold openB
   rw [hs]
   simp
  rw [e1, e2]
  rfl
 ·have hs' : shutB p known hour = false := by simpa using hs
  rw [if_neg hs, ro_may ha hs', ro_sure ha hs']
  obtain ⟨f, hf⟩ := List.exists_mem_of_ne_nil _ hne
  unfold ans
  cases e1 : (fromsP p known).any fun f => !openB p known hour f with
  | true =>
   cases e2 : (fromsP p known).any (openB p known hour) with
   | true => rfl
   | false => rfl
  | false =>
   have e2 : (fromsP p known).any (openB p known hour) = true := by
    rw [List.any_eq_true]
    refine ⟨f, hf, ?_⟩
    cases e : openB p known hour f with
    | true => rfl
    | false =>
     rw [← Bool.not_eq_true, List.any_eq_true] at e1
     exact absurd ⟨f, hf, by rw [e]; rfl⟩ e1
   rw [e2]
   rfl
end Go.Proofs.YtkoejeghihcmlaaGreat

namespace Go.Proofs.YtkoejeghihcmlaaGreat
open Go.RowKit Go.Shelf
theorem look60 {p : Pl} (hok : okPl p = true) (known : Int) : (lookL p known every).length ≤ 60 := by
 rw [lookL_cart, List.length_map]
 unfold cartL
 rw [srtH_len]
 exact Nat.le_trans (List.length_filter_le _ _) (ok_parts hok).2.2.2.2.2.1
theorem lookS_len (p : Pl) (known : Int) (m : Int → Bool) : (lookS p known m).length = (lookL p known m).length + 1 := by
 show (settle _ _).length = _
 rw [settle_len, standsF_len]; unfold stood0; simp
theorem firstD_succ (p : Pl) (known : Int) (d : Nat) : firstD p known (d + 1) =
  ⟨if qLo (lookL p known every) (lookS p known every) ((lookL p known every).length - d) = true then hourAt (lookL p known every) ((lookL p known every).length - d) else (firstD p known d).lo,
   if qHi (lookL p known every) (lookS p known every) ((lookL p known every).length - d) = true then hourAt (lookL p known every) ((lookL p known every).length - d) else (firstD p known d).hi⟩ := rfl
set_option maxRecDepth 100000 in
set_option maxHeartbeats 8000000 in
theorem refFirst_any (p : Pl) (A1 A2 A3 : Option Addr) (n1 c1 n2 c2 n3 c3 : Nat) (known : Int) (w : World) (hp : Pa w p A1 A2 A3 n1 c1 n2 c2 n3 c3) :
  Calls Tryz.prog 49 #[plv p A1 A2 A3 n1 c1 n2 c2 n3 c3, .int .i64 known] w fun e w' => e = .returned (.tuple #[rv (firstR p known), .int .i64 (askE p [0] known)]) ∧ Below w.heap.size w w' := by
 obtain ⟨W1, hW1⟩ : ∃ W1, (w.alloc (.cells (plb p A1 A2 A3 n1 c1 n2 c2 n3 c3) 38)).alloc (.cells #[.int .i64 0, .int .i64 0] 33) = W1 := ⟨_, rfl⟩
 have g0 : Below w.heap.size w W1 := by rw [← hW1]; exact two_more _ _ _
 have b0 : Blk W1 w.heap.size 38 (plb p A1 A2 A3 n1 c1 n2 c2 n3 c3) := by rw [← hW1]; exact (Blk.new _ _ _).alloc _
 have b1 : Blk W1 (w.heap.size + 1) 33 #[.int .i64 0, .int .i64 0] := by
  rw [← hW1]
  have := Blk.new (w.alloc (.cells (plb p A1 A2 A3 n1 c1 n2 c2 n3 c3) 38)) 33 #[.int .i64 0, .int .i64 0]
  rwa [World.size_alloc] at this
 have T1 := refSettle_any p A1 A2 A3 n1 c1 n2 c2 n3 c3 0 known W1 (hp.below g0)
 have HR := Lib.hid (fun (h : askE p [0] known = 0) => first_down h)
 have HRz := Lib.hid (show askE p [0] known ≠ 0 → firstR p known = zR from fun h => by unfold firstR; rw [if_neg h])
 have HASK := Lib.hid (fun (h : askE p [0] known = 0) => (⟨look60 (ask_parts h).1 known, (look_rw (ask_parts h).1 (ask_parts h).2.1).up, (look_rw (ask_parts h).1 (ask_parts h).2.1).hrs⟩ : (lookL p known every).length ≤ 60 ∧ Up (lookL p known every) ∧ ∀ x ∈ lookL p known every, 0 ≤ x.b ∧ x.b ≤ 99999))
 have HFD := Lib.hid (fun d => firstD_succ p known d)
 have HF0 := Lib.hid (show firstD p known 0 = ⟨100000, 100000⟩ from rfl)
 have HSL := Lib.hid (lookS_len p known every)
 have HQL := Lib.hid (show ∀ k, qLo (lookL p known every) (lookS p known every) k = decide (((lookS p known every).getD (after (lookL p known every) (hourAt (lookL p known every) k)) zR).lo = 0) from fun _ => rfl)
 have HQH := Lib.hid (show ∀ k, qHi (lookL p known every) (lookS p known every) k = decide (((lookS p known every).getD (after (lookL p known every) (hourAt (lookL p known every) k)) zR).hi = 0) from fun _ => rfl)
 obtain ⟨rr, hrr⟩ : ∃ rr, firstR p known = rr := ⟨_, rfl⟩
 obtain ⟨ae, hae⟩ : ∃ ae, askE p [0] known = ae := ⟨_, rfl⟩
 obtain ⟨fd, hfd⟩ : ∃ fd, firstD p known = fd := ⟨_, rfl⟩
 rw [hae] at T1 HR HRz HASK
 rw [hrr] at HR HRz
 rw [hfd] at HR HFD HF0
 rw [hrr, hae]
 have HT1 := Lib.hid T1
 have HB1 := Lib.hid b1
 have GA := Lib.hid g0
 have HW1 := Lib.hid hW1
 have r0 := b0.cell 0
 have r1 := b0.cell 1
 have r2 := b0.cell 2
 have r3 := b0.cell 3
 have r4 := b0.cell 4
 have r5 := b0.cell 5
 clear T1 hp g0 b0 b1 hW1 hrr hae hfd
 by_cases hz : ae = 0
 ·subst hz
  have HR2 := Lib.hid (HR.out rfl)
  obtain ⟨h60, hup, hhrs⟩ := HASK.out rfl
  have HUP := Lib.hid hup
  have HHB := Lib.hid (fun k (hk : k ≤ (lookL p known every).length) => hourAt_bd hhrs hk)
  have H60 := Lib.hid h60
  clear HR HRz HASK hup hhrs h60
  obtain ⟨L, hL⟩ : ∃ L, lookL p known every = L := ⟨_, rfl⟩
  obtain ⟨S, hS⟩ : ∃ S, lookS p known every = S := ⟨_, rfl⟩
  rw [hL] at HR2 HUP HHB H60
  rw [hL, hS] at HFD HSL HQL HQH HT1
  clear hL hS
  go_enter Tryz.func49, Tryz.ntmps49
  go_upto_region 1 with fail
  rw [HW1.out]
  go_upto_region 4 with (go_at_call 117; (with_reducible refine (HT1.out).mono ?_); rintro e V ⟨⟨A, n, c, B, q, d, rfl, hq⟩, hg⟩; have HG1 := Lib.hid hg; have HQ := Lib.hid (hq rfl); clear hg hq)
  obtain ⟨V5, hV5⟩ : ∃ X, V.alloc (.cells #[.slice A n c, .slice B q d] 191) = X := ⟨_, rfl⟩
  have g5 : Below V.heap.size V V5 := by rw [← hV5]; exact one_more _ _
  have HSZ := Lib.hid (show V5.heap.size = V.heap.size + 1 by rw [← hV5]; simp)
  have BN := Lib.hid (show Blk V5 V.heap.size 191 #[.slice A n c, .slice B q d] by rw [← hV5]; exact Blk.new _ _ _)
  have HG5 := Lib.hid (GA.out.trans ((HG1.out.trans (g5.mono HG1.out.size)).mono GA.out.size))
  have HB5 := Lib.hid ((HB1.out.ext HG1.out).ext g5)
  have HA5 := Lib.hid (HQ.out.2.1.below g5)
  have HS5 := Lib.hid (HQ.out.2.2.below g5)
  have HN := Lib.hid (show L.length = n from HA5.out.1)
  have HNQ := Lib.hid (show S.length = q from HS5.out.1)
  have hn60 : n ≤ 60 := by have h1 := HN.out; have h2 := H60.out; omega
  have hqn : q = n + 1 := by have h1 := HN.out; have h2 := HNQ.out; have h3 := HSL.out; omega
  have HQN := Lib.hid hqn
  have HIX := Lib.hid (fun (X : World) (hour : Int) (g : Below V5.heap.size V5 X) => refIndex_any A n c L B q d hour X (HA5.out.below g) (by omega) HUP.out)
  rw [hV5]
  have HV5 := Lib.hid hV5
  clear hV5 g5 hqn r0 r1 r2 r3 r4 r5
  go_upto_region 5 with fail
  obtain ⟨V6, hV6⟩ : ∃ X, V5.alloc (.cells #[.int .i64 100000, .int .i64 100000] 33) = X := ⟨_, rfl⟩
  have G6 := Lib.hid (show Below V5.heap.size V5 V6 by rw [← hV6]; exact one_more _ _)
  have B6 := Lib.hid (show Blk V6 V5.heap.size 33 #[.int .i64 (fd 0).lo, .int .i64 (fd 0).hi] by rw [HF0.out, ← hV6]; exact Blk.new _ _ _)
  rw [hV6]
  have k0 := (BN.out.ext G6.out).cell 0
  clear hV6
  go_wp2_with fail
  go_loopw [9] (fun i wr => ∃ j : Nat, j ≤ n + 1 ∧ i = .int .i64 ((n : Int) - (j : Int)) ∧ Below V5.heap.size V5 wr ∧ Blk wr V5.heap.size 33 #[.int .i64 (fd j).lo, .int .i64 (fd j).hi]) (fun i _ => (intOf i + 1).toNat)
  case atStart => exact ⟨0, Nat.zero_le _, by simp, G6.out, B6.out⟩
  case round =>
   clear k0 G6 B6
   obtain ⟨j, hj, rfl, hg, hbl⟩ := hrel
   obtain ⟨wo, rfl⟩ : ∃ wo : World, wo = wr := ⟨_, rfl⟩
   have HG := Lib.hid hg
   have HBL := Lib.hid hbl
   have k0 := (BN.out.ext hg).cell 0
   have k1 := (BN.out.ext hg).cell 1
   have o0 := hbl.cell 0
   have o1 := hbl.cell 1
   have of0 := hbl.frozen 0
   have of1 := hbl.frozen 1
   clear hg hbl
   by_cases hjn : j < n + 1
   ·obtain ⟨k, hk⟩ : ∃ k, k + j = n := ⟨n - j, by omega⟩
    have HK := Lib.hid hk
    have hkn : k ≤ n := by omega
    have HFD1 := Lib.hid (HFD.out j)
    have hkj : L.length - j = k := by rw [HN.out]; omega
    rw [hkj] at HFD1
    have hb := HHB.out k (by rw [HN.out]; exact hkn)
    have HQL1 := Lib.hid (HQL.out k)
    have HQH1 := Lib.hid (HQH.out k)
    have HHV := Lib.hid (show k ≠ 0 → (L.getD (k - 1) z6).b = hourAt L k from fun h => by unfold hourAt; rw [if_neg h])
    have HHZ := Lib.hid (show k = 0 → hourAt L k = 0 from fun h => by unfold hourAt; rw [if_pos h])
    obtain ⟨hv, hhv⟩ : ∃ h, hourAt L k = h := ⟨_, rfl⟩
    rw [hhv] at HFD1 hb HQL1 HQH1 HHV HHZ
    have HTI := Lib.hid (fun X g => HIX.out X hv g)
    have hav := after_le L hv
    rw [HN.out] at hav
    obtain ⟨av, hav2⟩ : ∃ av, after L hv = av := ⟨_, rfl⟩
    rw [hav2] at HTI hav HQL1 HQH1
    obtain ⟨rg, hrg⟩ : ∃ rg, S.getD av zR = rg := ⟨_, rfl⟩
    rw [hrg] at HQL1 HQH1
    have havq : av < q := by have := HQN.out; omega
    have havi : (av : Int) < (q : Int) := by omega
    obtain ⟨b9, o9, rfl, -, hc9⟩ := rg_at9 HS5.out havq
    have HKK := Lib.hid (fun X (g : Below V5.heap.size V5 X) => (show X.cell? ⟨V.heap.size, 0, none⟩ = some (.slice A n c) ∧ X.cell? ⟨V.heap.size, 1, none⟩ = some (.slice (some ⟨b9, o9, none⟩) q d) ∧ X.cell? ⟨b9, o9 + av * 2, none⟩ = some (.int .i64 rg.lo) ∧ X.cell? ⟨b9, o9 + av * 2 + 1, none⟩ = some (.int .i64 rg.hi) from by
     have hN := BN.out.ext g
     refine ⟨hN.cell 0, hN.cell 1, ?_, ?_⟩
     ·rw [(hc9 X g).1, hrg]
     ·rw [(hc9 X g).2, hrg]))
    clear hc9 hrg hav2 hhv hav hkj hk
    have hx0 := HKK.out wo HG.out
    obtain ⟨-, -, k2, k3⟩ := hx0
    have HHVB := Lib.hid hb
    clear hb
    by_cases h0 : k = 0
    ·have hik : (n : Int) - (j : Int) = 0 := by have := HK.out; omega
     have HIK := Lib.hid hik
     obtain rfl : hv = 0 := HHZ.out h0
     rw [hik]
     clear hik
     go_upto_region 11 with fail
     have G79o := Lib.hid (Below.refl wo.heap.size wo)
     go_cut [11] from 39 to 45 (fun s11 wx => ∃ b11, s11 = .pointer (some ⟨b11, 0, none⟩) ∧ wo.heap.size ≤ b11 ∧ Below wo.heap.size wo wx ∧ Blk wx b11 33 #[.int .i64 rg.lo, .int .i64 rg.hi])
     case first =>
      go_region_held3 (fun X => X.cell? ⟨V.heap.size, 0, none⟩ = some (.slice A n c) ∧ X.cell? ⟨V.heap.size, 1, none⟩ = some (.slice (some ⟨b9, o9, none⟩) q d) ∧ X.cell? ⟨b9, o9 + av * 2, none⟩ = some (.int .i64 rg.lo) ∧ X.cell? ⟨b9, o9 + av * 2 + 1, none⟩ = some (.int .i64 rg.hi))
       (first | (with_reducible exact HKK.out _ HG.out) | (with_reducible exact HKK.out _ GX79.out) | exact HKK.out _ (HG.out.trans (by exact ((one_more wo _).drew).mono (HG.out.size))) | exact HKK.out _ (HG.out.trans (by exact ((Below.refl _ _).drew).mono (HG.out.size))) | exact HKK.out _ (GX79.out.alloc GX79.out.size _) | exact HKK.out _ ((GX79.out.setCell (p := ⟨wo.heap.size, 0, none⟩) HG.out.size _).setCell (p := ⟨wo.heap.size, 1, none⟩) HG.out.size _))
       (first
       | (go_at_call 118; (with_reducible refine (HTI.out _ (HG.out.drew)).mono ?_); rintro e W8 ⟨rfl, g79⟩; have G79 := Lib.hid (show Below wo.heap.size wo W8 from ((Below.refl _ _).drew).trans (g79.mono (Nat.le_refl _))); have GX79 := Lib.hid (HG.out.trans (G79.out.mono HG.out.size)); clear g79)
       | (go_at_call 118; (with_reducible refine (HTI.out _ (HG.out.trans (((one_more wo (.cells #[.int .i64 0, .int .i64 0] 33)).drew).mono HG.out.size))).mono ?_); rintro e W8 ⟨rfl, g79⟩; have G79 := Lib.hid (show Below wo.heap.size wo W8 from ((one_more wo (.cells #[.int .i64 0, .int .i64 0] 33)).drew).trans (g79.mono (by simp))); have GX79 := Lib.hid (HG.out.trans (G79.out.mono HG.out.size)); have B79 := Lib.hid (show Blk W8 wo.heap.size 33 #[.int .i64 0, .int .i64 0] from Blk.ext (w := (wo.alloc (.cells #[.int .i64 0, .int .i64 0] 33)).drew) (Blk.new wo 33 #[.int .i64 0, .int .i64 0]) g79); clear g79; have j3 := B79.out.cell 0; have j4 := B79.out.cell 1; have j5 := B79.out.frozen 0; have j6 := B79.out.frozen 1))
      all_goals (try go_wp2_with fail)
      all_goals go_meet
      all_goals first
       | exact ⟨_, rfl, G79.out.size, G79.out.alloc G79.out.size _, Blk.new _ _ _⟩
       | exact ⟨_, rfl, Nat.le_refl _, ((G79.out.setCell (p := ⟨wo.heap.size, 0, none⟩) (Nat.le_refl _) _).setCell (p := ⟨wo.heap.size, 1, none⟩) (Nat.le_refl _) _), (B79.out.set_ 0 _).set_ 1 _⟩
     case rest =>
      obtain ⟨b11, rfl, hb11, hg, hb⟩ := hcut
      rename World => W9
      have r0 := hb.cell 0
      have r1 := hb.cell 1
      have HBO := Lib.hid (HBL.out.ext hg)
      have GG := Lib.hid (HG.out.trans (hg.mono HG.out.size))
      have w0 := HBO.out.cell 0
      have w1 := HBO.out.cell 1
      have wf0 := HBO.out.frozen 0
      have wf1 := HBO.out.frozen 1
      have hneb : b11 ≠ V5.heap.size := by have := HBL.out.lt; omega
      clear hg hb k0 k1 k2 k3 o0 o1 of0 of1 hb11
      by_cases hlo : rg.lo = 0
      ·have e1 : (rg.lo == 0) = true := by simpa using hlo
       have HL1 := Lib.hid (show qLo L S k = true by rw [HQL1.out]; exact decide_eq_true hlo)
       clear hlo
       by_cases hhi : rg.hi = 0
       ·have e2 : (rg.hi == 0) = true := by simpa using hhi
        have HL2 := Lib.hid (show qHi L S k = true by rw [HQH1.out]; exact decide_eq_true hhi)
        have HNX := Lib.hid (show fd (j + 1) = ⟨0, 0⟩ by rw [HFD1.out, HL1.out, HL2.out]; rfl)
        clear hhi
        go_wp2_with fail
        go_roundw
        case rel => exact ⟨j + 1, by omega, by (have := HIK.out; congr 1; omega), ((GG.out).setCell (p := ⟨V5.heap.size, 0, none⟩) (Nat.le_refl _) _).setCell (p := ⟨V5.heap.size, 1, none⟩) (Nat.le_refl _) _, by rw [HNX.out]; exact ((HBO.out.set_ 0 (.int .i64 0)).set_ 1 (.int .i64 0))⟩
        case measure => (have := HIK.out; first | (simp [intOf]; done) | (simp [intOf]; omega))
       ·have e2 : (rg.hi == 0) = false := by simpa using hhi
        have HL2 := Lib.hid (show qHi L S k = false by rw [HQH1.out]; exact decide_eq_false hhi)
        have HNX := Lib.hid (show fd (j + 1) = ⟨0, (fd j).hi⟩ by rw [HFD1.out, HL1.out, HL2.out]; rfl)
        clear hhi
        go_wp2_with fail
        go_roundw
        case rel => exact ⟨j + 1, by omega, by (have := HIK.out; congr 1; omega), (GG.out).setCell (p := ⟨V5.heap.size, 0, none⟩) (Nat.le_refl _) _, by rw [HNX.out]; exact (HBO.out.set_ 0 (.int .i64 0))⟩
        case measure => (have := HIK.out; first | (simp [intOf]; done) | (simp [intOf]; omega))
      ·have e1 : (rg.lo == 0) = false := by simpa using hlo
       have HL1 := Lib.hid (show qLo L S k = false by rw [HQL1.out]; exact decide_eq_false hlo)
       clear hlo
       by_cases hhi : rg.hi = 0
       ·have e2 : (rg.hi == 0) = true := by simpa using hhi
        have HL2 := Lib.hid (show qHi L S k = true by rw [HQH1.out]; exact decide_eq_true hhi)
        have HNX := Lib.hid (show fd (j + 1) = ⟨(fd j).lo, 0⟩ by rw [HFD1.out, HL1.out, HL2.out]; rfl)
        clear hhi
        go_wp2_with fail
        go_roundw
        case rel => exact ⟨j + 1, by omega, by (have := HIK.out; congr 1; omega), (GG.out).setCell (p := ⟨V5.heap.size, 1, none⟩) (Nat.le_refl _) _, by rw [HNX.out]; exact (HBO.out.set_ 1 (.int .i64 0))⟩
        case measure => (have := HIK.out; first | (simp [intOf]; done) | (simp [intOf]; omega))
       ·have e2 : (rg.hi == 0) = false := by simpa using hhi
        have HL2 := Lib.hid (show qHi L S k = false by rw [HQH1.out]; exact decide_eq_false hhi)
        have HNX := Lib.hid (show fd (j + 1) = ⟨(fd j).lo, (fd j).hi⟩ by rw [HFD1.out, HL1.out, HL2.out]; rfl)
        clear hhi
        go_wp2_with fail
        go_roundw
        case rel => exact ⟨j + 1, by omega, by (have := HIK.out; congr 1; omega), GG.out, by rw [HNX.out]; exact HBO.out⟩
        case measure => (have := HIK.out; first | (simp [intOf]; done) | (simp [intOf]; omega))
    ·have hik : (n : Int) - (j : Int) = (k : Int) := by have := HK.out; omega
     have HIK := Lib.hid hik
     obtain ⟨bA, oA, eA, -, -, hcA⟩ := six_at (HA5.out.below HG.out) (k := k - 1) (by omega)
     have xb := (hcA wo (Below.refl _ _)).2.1
     rw [HHV.out h0] at xb
     have hk1 : (k : Int) - 1 = ((k - 1 : Nat) : Int) := by omega
     obtain ⟨t, ht⟩ : ∃ t, k - 1 = t := ⟨_, rfl⟩
     have hkt : k = t + 1 := by omega
     rw [ht] at xb
     subst hkt eA
     clear hcA hk1 ht
     have hk2 : ((t + 1 : Nat) : Int) - 1 = (t : Int) := by omega
     have hk3 : (0 : Int) < ((t + 1 : Nat) : Int) := by omega
     have htn : (t : Int) < (n : Int) := by omega
     rw [hik]
     clear hik
     go_upto_region 11 with fail
     clear xb
     have G79o := Lib.hid (Below.refl wo.heap.size wo)
     go_cut [11] from 39 to 45 (fun s11 wx => ∃ b11, s11 = .pointer (some ⟨b11, 0, none⟩) ∧ wo.heap.size ≤ b11 ∧ Below wo.heap.size wo wx ∧ Blk wx b11 33 #[.int .i64 rg.lo, .int .i64 rg.hi])
     case first =>
      go_region_held3 (fun X => X.cell? ⟨V.heap.size, 0, none⟩ = some (.slice (some ⟨bA, oA, none⟩) n c) ∧ X.cell? ⟨V.heap.size, 1, none⟩ = some (.slice (some ⟨b9, o9, none⟩) q d) ∧ X.cell? ⟨b9, o9 + av * 2, none⟩ = some (.int .i64 rg.lo) ∧ X.cell? ⟨b9, o9 + av * 2 + 1, none⟩ = some (.int .i64 rg.hi))
       (first | (with_reducible exact HKK.out _ HG.out) | (with_reducible exact HKK.out _ GX79.out) | exact HKK.out _ (HG.out.trans (by exact ((one_more wo _).drew).mono (HG.out.size))) | exact HKK.out _ (HG.out.trans (by exact ((Below.refl _ _).drew).mono (HG.out.size))) | exact HKK.out _ (GX79.out.alloc GX79.out.size _) | exact HKK.out _ ((GX79.out.setCell (p := ⟨wo.heap.size, 0, none⟩) HG.out.size _).setCell (p := ⟨wo.heap.size, 1, none⟩) HG.out.size _))
       (first
       | (go_at_call 118; (with_reducible refine (HTI.out _ (HG.out.drew)).mono ?_); rintro e W8 ⟨rfl, g79⟩; have G79 := Lib.hid (show Below wo.heap.size wo W8 from ((Below.refl _ _).drew).trans (g79.mono (Nat.le_refl _))); have GX79 := Lib.hid (HG.out.trans (G79.out.mono HG.out.size)); clear g79)
       | (go_at_call 118; (with_reducible refine (HTI.out _ (HG.out.trans (((one_more wo (.cells #[.int .i64 0, .int .i64 0] 33)).drew).mono HG.out.size))).mono ?_); rintro e W8 ⟨rfl, g79⟩; have G79 := Lib.hid (show Below wo.heap.size wo W8 from ((one_more wo (.cells #[.int .i64 0, .int .i64 0] 33)).drew).trans (g79.mono (by simp))); have GX79 := Lib.hid (HG.out.trans (G79.out.mono HG.out.size)); have B79 := Lib.hid (show Blk W8 wo.heap.size 33 #[.int .i64 0, .int .i64 0] from Blk.ext (w := (wo.alloc (.cells #[.int .i64 0, .int .i64 0] 33)).drew) (Blk.new wo 33 #[.int .i64 0, .int .i64 0]) g79); clear g79; have j3 := B79.out.cell 0; have j4 := B79.out.cell 1; have j5 := B79.out.frozen 0; have j6 := B79.out.frozen 1))
      all_goals (try go_wp2_with fail)
      all_goals go_meet
      all_goals first
       | exact ⟨_, rfl, G79.out.size, G79.out.alloc G79.out.size _, Blk.new _ _ _⟩
       | exact ⟨_, rfl, Nat.le_refl _, ((G79.out.setCell (p := ⟨wo.heap.size, 0, none⟩) (Nat.le_refl _) _).setCell (p := ⟨wo.heap.size, 1, none⟩) (Nat.le_refl _) _), (B79.out.set_ 0 _).set_ 1 _⟩
     case rest =>
      obtain ⟨b11, rfl, hb11, hg, hb⟩ := hcut
      rename World => W9
      have r0 := hb.cell 0
      have r1 := hb.cell 1
      have HBO := Lib.hid (HBL.out.ext hg)
      have GG := Lib.hid (HG.out.trans (hg.mono HG.out.size))
      have w0 := HBO.out.cell 0
      have w1 := HBO.out.cell 1
      have wf0 := HBO.out.frozen 0
      have wf1 := HBO.out.frozen 1
      have hneb : b11 ≠ V5.heap.size := by have := HBL.out.lt; omega
      clear hg hb k0 k1 k2 k3 o0 o1 of0 of1 hb11
      by_cases hlo : rg.lo = 0
      ·have e1 : (rg.lo == 0) = true := by simpa using hlo
       have HL1 := Lib.hid (show qLo L S (t + 1) = true by rw [HQL1.out]; exact decide_eq_true hlo)
       clear hlo
       by_cases hhi : rg.hi = 0
       ·have e2 : (rg.hi == 0) = true := by simpa using hhi
        have HL2 := Lib.hid (show qHi L S (t + 1) = true by rw [HQH1.out]; exact decide_eq_true hhi)
        have HNX := Lib.hid (show fd (j + 1) = ⟨hv, hv⟩ by rw [HFD1.out, HL1.out, HL2.out]; rfl)
        clear hhi
        go_wp2_with fail
        go_roundw
        case rel => exact ⟨j + 1, by omega, by (have := HIK.out; congr 1; omega), ((GG.out).setCell (p := ⟨V5.heap.size, 0, none⟩) (Nat.le_refl _) _).setCell (p := ⟨V5.heap.size, 1, none⟩) (Nat.le_refl _) _, by rw [HNX.out]; exact ((HBO.out.set_ 0 (.int .i64 hv)).set_ 1 (.int .i64 hv))⟩
        case measure => (have := HIK.out; first | (simp [intOf]; done) | (simp [intOf]; omega))
       ·have e2 : (rg.hi == 0) = false := by simpa using hhi
        have HL2 := Lib.hid (show qHi L S (t + 1) = false by rw [HQH1.out]; exact decide_eq_false hhi)
        have HNX := Lib.hid (show fd (j + 1) = ⟨hv, (fd j).hi⟩ by rw [HFD1.out, HL1.out, HL2.out]; rfl)
        clear hhi
        go_wp2_with fail
        go_roundw
        case rel => exact ⟨j + 1, by omega, by (have := HIK.out; congr 1; omega), (GG.out).setCell (p := ⟨V5.heap.size, 0, none⟩) (Nat.le_refl _) _, by rw [HNX.out]; exact (HBO.out.set_ 0 (.int .i64 hv))⟩
        case measure => (have := HIK.out; first | (simp [intOf]; done) | (simp [intOf]; omega))
      ·have e1 : (rg.lo == 0) = false := by simpa using hlo
       have HL1 := Lib.hid (show qLo L S (t + 1) = false by rw [HQL1.out]; exact decide_eq_false hlo)
       clear hlo
       by_cases hhi : rg.hi = 0
       ·have e2 : (rg.hi == 0) = true := by simpa using hhi
        have HL2 := Lib.hid (show qHi L S (t + 1) = true by rw [HQH1.out]; exact decide_eq_true hhi)
        have HNX := Lib.hid (show fd (j + 1) = ⟨(fd j).lo, hv⟩ by rw [HFD1.out, HL1.out, HL2.out]; rfl)
        clear hhi
        go_wp2_with fail
        go_roundw
        case rel => exact ⟨j + 1, by omega, by (have := HIK.out; congr 1; omega), (GG.out).setCell (p := ⟨V5.heap.size, 1, none⟩) (Nat.le_refl _) _, by rw [HNX.out]; exact (HBO.out.set_ 1 (.int .i64 hv))⟩
        case measure => (have := HIK.out; first | (simp [intOf]; done) | (simp [intOf]; omega))
       ·have e2 : (rg.hi == 0) = false := by simpa using hhi
        have HL2 := Lib.hid (show qHi L S (t + 1) = false by rw [HQH1.out]; exact decide_eq_false hhi)
        have HNX := Lib.hid (show fd (j + 1) = ⟨(fd j).lo, (fd j).hi⟩ by rw [HFD1.out, HL1.out, HL2.out]; rfl)
        clear hhi
        go_wp2_with fail
        go_roundw
        case rel => exact ⟨j + 1, by omega, by (have := HIK.out; congr 1; omega), GG.out, by rw [HNX.out]; exact HBO.out⟩
        case measure => (have := HIK.out; first | (simp [intOf]; done) | (simp [intOf]; omega))
   ·obtain rfl : n + 1 = j := by omega
    have hm : (n : Int) - ((n + 1 : Nat) : Int) = -1 := by omega
    rw [hm]
    have HRX := Lib.hid (show rr = fd (n + 1) by rw [HR2.out, HN.out])
    obtain ⟨fx, hfx⟩ : ∃ fx, fd (n + 1) = fx := ⟨_, rfl⟩
    rw [hfx] at HBL HRX o0 o1
    have HBR := Lib.hid (HB5.out.ext HG.out)
    have f0 := HBR.out.frozen 0
    have s0 := HBR.out.cell 0
    have f1 := HBR.out.frozen 1
    have s1 := HBR.out.cell 1
    have hne : V5.heap.size ≠ w.heap.size + 1 := by have := HB5.out.lt; omega
    clear hm hfx k0 k1 of0 of1
    go_wp2_with fail
    have hb9 := (HBR.out.set_ 0 (.int .i64 fx.lo)).set_ 1 (.int .i64 fx.hi)
    have y0 := hb9.cell 0
    have y1 := hb9.cell 1
    have GG := Lib.hid (((HG5.out.trans (HG.out.mono HG5.out.size)).setCell (p := ⟨w.heap.size + 1, 0, none⟩) (Nat.le_succ _) (.int .i64 fx.lo)).setCell (p := ⟨w.heap.size + 1, 1, none⟩) (Nat.le_succ _) (.int .i64 fx.hi))
    clear hb9
    refine bodyPost_ret (v := .tuple #[rv fx, .int .i64 0]) ?_ rfl ⟨by rw [HRX.out], GG.out⟩
    simp [results, Tryz.results49, go_sem, y0, y1]
 ·have HR2 := Lib.hid (show rr = zR from HRz.out hz)
  have hz2 : (ae != 0) = true := by simpa using hz
  clear hz HR
  go_enter Tryz.func49, Tryz.ntmps49
  go_upto_region 1 with fail
  rw [HW1.out]
  go_upto_region 2 with (go_at_call 117; (with_reducible refine (HT1.out).mono ?_); rintro e V ⟨⟨A, n, c, B, q, d, rfl, -⟩, hg⟩; have HG1 := Lib.hid hg; clear hg)
  obtain ⟨V5, hV5⟩ : ∃ X, V.alloc (.cells #[.slice A n c, .slice B q d] 191) = X := ⟨_, rfl⟩
  have g5 : Below V.heap.size V V5 := by rw [← hV5]; exact one_more _ _
  have HB5 := Lib.hid ((HB1.out.ext HG1.out).ext g5)
  have HG5 := Lib.hid (GA.out.trans ((HG1.out.trans (g5.mono HG1.out.size)).mono GA.out.size))
  have f0 := HB5.out.frozen 0
  have s0 := HB5.out.cell 0
  have z1 := (HB5.out.set_ 0 (.int .i64 0)).cell 1
  have zf := (HB5.out.set_ 0 (.int .i64 0)).frozen 1
  have y0 := ((HB5.out.set_ 0 (.int .i64 0)).set_ 1 (.int .i64 0)).cell 0
  have y1 := ((HB5.out.set_ 0 (.int .i64 0)).set_ 1 (.int .i64 0)).cell 1
  rw [hV5]
  clear hV5 g5
  go_wp2_with fail
  refine bodyPost_ret (v := .tuple #[rv zR, .int .i64 ae]) ?_ rfl ⟨by rw [HR2.out], (HG5.out.setCell (p := ⟨w.heap.size + 1, 0, none⟩) (by dsimp only; omega) _).setCell (p := ⟨w.heap.size + 1, 1, none⟩) (by dsimp only; omega) _⟩
  simp [results, Tryz.results49, go_sem, y0, y1, zR]
end Go.Proofs.YtkoejeghihcmlaaGreat
