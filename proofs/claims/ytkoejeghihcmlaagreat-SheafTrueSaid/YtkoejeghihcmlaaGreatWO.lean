/- Truly. -/
import Derived.Test.YtkoejeghihcmlaaGreatWN
import Derived.Test.YtkoejeghihcmlaaGreatWF
namespace Go.Proofs.YtkoejeghihcmlaaGreat
open Go.RowKit Go.Shelf
attribute [local go_sem] Oper.semAt_some

def trulyR (p : Pl) (hour known sown : Int) (ns : List Int) : Bool := if leftE p [hour] known sown ns = 0 then trulyV p known hour (truS p known sown ns) else false
theorem left_hour {p : Pl} {hour known sown : Int} {ns : List Int} (h : leftE p [hour] known sown ns = 0) : okPl p = true ∧ 0 ≤ hour ∧ hour ≤ 99999 := by
  unfold leftE at h
  by_cases hf : firstE p [hour] [known] = 0
  · exact ⟨first_ok hf, hour_pos hf⟩
  · rw [if_neg hf] at h
    exact absurd h hf
theorem Pa.fixU {B bw bs : Nat} {W W' : World} {p : Pl} {A1 A2 A3 : Option Addr} {n1 c1 n2 c2 n3 c3 : Nat} (h : FixU B bw bs W W') (hp : Pa W p A1 A2 A3 n1 c1 n2 c2 n3 c3)
    (d1 : ∀ b o, A1 = some ⟨b, o, none⟩ → 0 < n1 → b ≠ bw ∧ b ≠ bs ∧ b < B) (d2 : ∀ b o, A2 = some ⟨b, o, none⟩ → 0 < n2 → b ≠ bw ∧ b ≠ bs ∧ b < B) (d3 : ∀ b o, A3 = some ⟨b, o, none⟩ → 0 < n3 → b ≠ bw ∧ b ≠ bs ∧ b < B) : Pa W' p A1 A2 A3 n1 c1 n2 c2 n3 c3 :=
  ⟨h.arr hp.l1 d1, h.arr hp.l2 d2, h.arr hp.l3 d3, hp.m1, hp.m2, hp.m3⟩
theorem Pa.lt {w : World} {p : Pl} {A1 A2 A3 : Option Addr} {n1 c1 n2 c2 n3 c3 : Nat} (h : Pa w p A1 A2 A3 n1 c1 n2 c2 n3 c3) : (∀ b o, A1 = some ⟨b, o, none⟩ → 0 < n1 → b < w.heap.size) ∧ (∀ b o, A2 = some ⟨b, o, none⟩ → 0 < n2 → b < w.heap.size) ∧ (∀ b o, A3 = some ⟨b, o, none⟩ → 0 < n3 → b < w.heap.size) :=
  ⟨fun _ _ e h0 => h.l1.lt_of e h0, fun _ _ e h0 => h.l2.lt_of e h0, fun _ _ e h0 => h.l3.lt_of e h0⟩
theorem truly_no {p : Pl} {hour known : Int} {s : List Int} (h1 : hour ≤ 99999) (h : ∀ x ∈ endsL (lookL p known every), s.getD x.1 0 ≠ 0) : trulyV p known hour s = false := by
  have e : clrFrom (lookL p known every) s = 100000 := by
    rcases clr_cases (lookL p known every) s with ⟨l1, x, l2, e, hx, -, -⟩ | ⟨-, e⟩
    · exact absurd hx (h x (by rw [e]; simp))
    · exact e
  unfold trulyV openB
  rw [e, decide_eq_false (by omega)]
  rfl
theorem truly_at {p : Pl} {hour known : Int} {s : List Int} {pre : List (Nat × Int)} {x : Nat × Int} (hp : (pre ++ [x]) <+: endsL (lookL p known every)) (hx : s.getD x.1 0 = 0) (hn : ∀ y ∈ pre, s.getD y.1 0 ≠ 0) : trulyV p known hour s = openB p known hour x.2 := by
  obtain ⟨t, ht⟩ := hp
  unfold trulyV
  rw [clr_some (l1 := pre) (x := x) (l2 := t) (by rw [← ht, List.append_assoc]; rfl) hx hn]
/-- What Truly returns. -/
def TEnd (p : Pl) (hour known sown : Int) (ns : List Int) (w : World) (e : Ending) (w' : World) : Prop :=
  e = .returned (.tuple #[.bool (trulyR p hour known sown ns), .int .i64 (leftE p [hour] known sown ns)]) ∧ Below w.heap.size w w'

set_option maxRecDepth 100000 in
set_option maxHeartbeats 8000000 in
theorem trulyP_any (p : Pl) (A1 A2 A3 : Option Addr) (n1 c1 n2 c2 n3 c3 : Nat) (hour known : Int) (N : Option Addr) (nn cn : Nat) (ns : List Int) (sown : Int) (w : World)
    (hp : Pa w p A1 A2 A3 n1 c1 n2 c2 n3 c3) (h19 : p.loads.length ≤ 19) (hns : Ints w N nn ns) (hI : ∀ x ∈ ns, -9223372036854775808 ≤ x ∧ x ≤ 9223372036854775807) (hnn : nn ≤ 9223372036854775807) :
    Calls Tryz.prog 52 #[plv p A1 A2 A3 n1 c1 n2 c2 n3 c3, .agg #[.int .i64 sown, .slice N nn cn], .int .i64 hour, .int .i64 known] w (TEnd p hour known sown ns w) := by
  obtain ⟨W1, hW1⟩ : ∃ W1, ((((w.alloc (.cells (plb p A1 A2 A3 n1 c1 n2 c2 n3 c3) 38)).alloc (.cells #[.int .i64 sown, .slice N nn cn] 41)).alloc (.cells #[.int .i64 hour] 3)).alloc (.cells #[.bool false] 4)).alloc (.cells #[.int .i64 0] 52) = W1 := ⟨_, rfl⟩
  have g1 : Below w.heap.size w W1 := by rw [← hW1]; exact ((three_more _ _ _ _).alloc (by simp; omega) _).alloc (by simp; omega) _
  have b1 : Blk W1 w.heap.size 38 (plb p A1 A2 A3 n1 c1 n2 c2 n3 c3) := by rw [← hW1]; exact ((((Blk.new _ _ _).alloc _).alloc _).alloc _).alloc _
  have b2 : Blk W1 (w.heap.size + 1) 41 #[.int .i64 sown, .slice N nn cn] := by
    rw [← hW1]; have := Blk.new (w.alloc (.cells (plb p A1 A2 A3 n1 c1 n2 c2 n3 c3) 38)) 41 #[.int .i64 sown, .slice N nn cn]; rw [World.size_alloc] at this; exact ((this.alloc _).alloc _).alloc _
  have b3 : Blk W1 (w.heap.size + 1 + 1) 3 #[.int .i64 hour] := by
    rw [← hW1]; have := Blk.new ((w.alloc (.cells (plb p A1 A2 A3 n1 c1 n2 c2 n3 c3) 38)).alloc (.cells #[.int .i64 sown, .slice N nn cn] 41)) 3 #[.int .i64 hour]; simp only [World.size_alloc] at this; exact (this.alloc _).alloc _
  have b8 : Blk W1 (w.heap.size + 1 + 1 + 1) 4 #[.bool false] := by
    rw [← hW1]; have := Blk.new (((w.alloc (.cells (plb p A1 A2 A3 n1 c1 n2 c2 n3 c3) 38)).alloc (.cells #[.int .i64 sown, .slice N nn cn] 41)).alloc (.cells #[.int .i64 hour] 3)) 4 #[.bool false]; simp only [World.size_alloc] at this; exact this.alloc _
  have b9 : Blk W1 (w.heap.size + 1 + 1 + 1 + 1) 52 #[.int .i64 0] := by
    rw [← hW1]; have := Blk.new ((((w.alloc (.cells (plb p A1 A2 A3 n1 c1 n2 c2 n3 c3) 38)).alloc (.cells #[.int .i64 sown, .slice N nn cn] 41)).alloc (.cells #[.int .i64 hour] 3)).alloc (.cells #[.bool false] 4)) 52 #[.int .i64 0]; simp only [World.size_alloc] at this; exact this
  have HPA := Lib.hid (hp.below g1)
  have HPL := Lib.hid hp.lt
  have T := Lib.hid (truly_any p A1 A2 A3 n1 c1 n2 c2 n3 c3 w.heap.size hour known N nn cn ns sown W1 b1 (hp.below g1) h19 (hns.below g1) hI hnn)
  have HL19 := Lib.hid (lookL_len h19 known every)
  have G1 := Lib.hid g1
  have k0 := b2.cell 0
  have k1 := b2.cell 1
  have k2 := b3.cell 0
  have HB1 := Lib.hid b1
  have HB3 := Lib.hid b3
  have HB8 := Lib.hid b8
  have HB9 := Lib.hid b9
  have hb9l := b9.lt
  have HLN := Lib.hid (truS_len p known sown ns)
  have HR := Lib.hid (show trulyR p hour known sown ns = if leftE p [hour] known sown ns = 0 then trulyV p known hour (truS p known sown ns) else false from rfl)
  obtain ⟨le, hle⟩ : ∃ v, leftE p [hour] known sown ns = v := ⟨_, rfl⟩
  have HLH := Lib.hid (left_hour (p := p) (hour := hour) (known := known) (sown := sown) (ns := ns))
  rw [hle] at HR HLH
  have HLE := Lib.hid hle
  have HW1 := Lib.hid hW1
  clear hp h19 hns hI hW1 g1 b1 b2 b3 b8 b9 hle
  refine (callsIn_wide (n := 4)).1 (callsIn_of_wp_marks Tryz.func52 rfl trivial ?_ rfl)
  simp only [Tryz.ntmps52, List.size_toArray, List.length_cons, List.length_nil, Nat.reduceAdd, Nat.reduceSub, Array.replicate_succ, Array.replicate_zero, List.push_toArray, List.append_toArray, List.nil_append, List.cons_append]
  refine wpIn_wide.2 ?_
  by_cases h0 : le = 0
  · subst h0
    have HR2 := Lib.hid (show trulyR p hour known sown ns = trulyV p known hour (truS p known sown ns) from HR.out)
    obtain ⟨hok, hh0, hh1⟩ := HLH.out rfl
    have HOK := Lib.hid hok
    have HHR := Lib.hid (fun x hx => (lookL_num hok known every x hx))
    clear hok
    go_upto_region 1 with fail
    rw [HW1.out]
    go_upto_region 2 with (go_at_call 78; (with_reducible refine (T.out).mono ?_); rintro e W2 ⟨r, v, rfl, hg, ht, -⟩; obtain ⟨bf, bs, A, n, c, rfl, hl, ho⟩ := ht HLE.out; rw [HLE.out]; have G2 := Lib.hid hg; have HL := Lib.hid hl; obtain ⟨D, c', hv, -, -, hi, hib⟩ := OwnL.arr kdI ho; subst hv; have HI2 := Lib.hid hi; have HIB := Lib.hid hib; clear hg hl ho hi ht hib)
    rw [HLN.out] at HI2 ⊢
    have hnum := HL.out.num
    rw [← hnum] at HI2 ⊢
    have hn19 : n ≤ 19 := by rw [hnum]; exact HL19.out
    obtain ⟨s, hs⟩ : ∃ s, truS p known sown ns = s := ⟨_, rfl⟩
    rw [hs] at HI2 HR2
    obtain ⟨ls, hls⟩ : ∃ l, lookL p known every = l := ⟨_, rfl⟩
    have HTN := Lib.hid (fun h => truly_no (p := p) (hour := hour) (known := known) (s := s) hh1 h)
    have HTA := Lib.hid (fun pre x (h1 : (pre ++ [x]) <+: endsL (lookL p known every)) h2 h3 => truly_at (hour := hour) (s := s) (pre := pre) (x := x) h1 h2 h3)
    rw [hls] at HTN HTA HHR hnum
    have HNUM := Lib.hid hnum
    clear hnum
    have HAR := Lib.hid (show Arr scells 6 W2 A n ls by rw [← hls]; exact HL.out.ar)
    have HFD := Lib.hid HL.out.fd.f
    have hbfl := HL.out.fd.f.lt
    have hbfg := HL.out.lef
    have hg2s := G2.out.size
    have hg1s := G1.out.size
    have HAP := Lib.hid HL.out.ap
    obtain ⟨W3, hW3⟩ : ∃ W, (W2.alloc (.cells #[.pointer (some ⟨bf, 0, none⟩)] 134)).alloc (.cells #[.slice D (n + 1) c'] 39) = W := ⟨_, rfl⟩
    rw [hW3]
    have g3 : Below W2.heap.size W2 W3 := by rw [← hW3]; exact two_more _ _ _
    have hb10 : Blk W3 W2.heap.size 134 #[.pointer (some ⟨bf, 0, none⟩)] := by rw [← hW3]; exact (Blk.new _ _ _).alloc _
    have hb11 : Blk W3 (W2.heap.size + 1) 39 #[.slice D (n + 1) c'] := by rw [← hW3]; have := Blk.new (W2.alloc (.cells #[.pointer (some ⟨bf, 0, none⟩)] 134)) 39 #[.slice D (n + 1) c']; rwa [World.size_alloc] at this
    have hs3 : W3.heap.size = W2.heap.size + 2 := by rw [← hW3]; simp
    have q0 := hb10.cell 0
    clear hW3 hs hls k0 k1 k2
    go_wp2_with fail
    refine (ends_any _ _).mono ?_
    rintro e w' ⟨rfl, hw'⟩
    have hbQ : Blk w' W3.heap.size 134 #[.pointer (some ⟨bf, 0, none⟩)] := by rw [← hw']; exact Blk.new _ _ _
    have g4 : Below W3.heap.size W3 w' := by rw [← hw']; exact one_more _ _
    have hs4 : w'.heap.size = W3.heap.size + 1 := by rw [← hw']; simp
    clear hw' q0
    rename World => W0
    have g5 : Below W2.heap.size W2 W0 := g3.trans (g4.mono g3.size)
    have g6 : Below W1.heap.size W1 W0 := G2.out.trans (g5.mono hg2s)
    have HB10 := Lib.hid (hb10.ext g4)
    have HB11 := Lib.hid (hb11.ext g4)
    have HB10' := Lib.hid (HB1.out.ext g6)
    have HB30 := Lib.hid (HB3.out.ext g6)
    have HB80 := Lib.hid (HB8.out.ext g6)
    have HB90 := Lib.hid (HB9.out.ext g6)
    have HPA0 := Lib.hid (HPA.out.below g6)
    have HAR0 := Lib.hid (HAR.out.below g5)
    have HFD0 := Lib.hid (HFD.out.ext g5)
    have HI0 := Lib.hid (HI2.out.below g5)
    have HIL := Lib.hid (show ∀ b o, D = some ⟨b, o, none⟩ → 0 < n + 1 → b < W0.heap.size from fun b o e h0 => Nat.lt_of_lt_of_le (HI2.out.lt_of e h0) g5.size)
    have HAL := Lib.hid (show ∀ b o, A = some ⟨b, o, none⟩ → 0 < n → b < W0.heap.size from fun b o e h0 => Nat.lt_of_lt_of_le (HAR.out.lt_of e h0) g5.size)
    have G0 := Lib.hid (G1.out.trans (g6.mono hg1s))
    obtain ⟨b10, hb10e⟩ : ∃ b, W2.heap.size = b := ⟨_, rfl⟩
    have HQ0 := Lib.hid (show Blk W0 (b10 + 2) 134 #[.pointer (some ⟨bf, 0, none⟩)] by rw [← hb10e, ← hs3]; exact hbQ)
    have h0s : b10 + 3 ≤ W0.heap.size := by omega
    rw [show W3.heap.size = b10 + 2 by omega]
    rw [hb10e] at HB10 HB11 hg2s hbfl ⊢
    clear g3 g4 g5 g6 hb10 hb11 hs3 hs4 hbQ hb10e
    obtain ⟨b8, hb8⟩ : ∃ b, w.heap.size + 1 + 1 + 1 = b := ⟨_, rfl⟩
    rw [hb8] at HB80 HB90 hb9l ⊢
    have HSQ := Lib.hid (ends_seq 3 (by omega) W0 W0.heap.size (b10 + 2) bf (w.heap.size + 1) (w.heap.size + 1) A n c ls (HQ0.out.cell 0) (HFD0.out.cell 2) HAR0.out (by omega) ⟨by omega, by omega, by omega⟩ ⟨by omega, by omega, by omega⟩ (by omega) (by omega) (fun b o e h0 => by
      have h1 := HAL.out b o e h0
      have h2 := (HAP.out b o e h0).1
      omega))
    go_wp2_with fail
    refine (wpIn_wide (n := 4)).1 ?_
    refine wp_rangeO (α := Nat × Int) (n := 4) (by omega) (gf := 194) (lb := #[.pointer (some ⟨b10 + 2, 0, none⟩)]) rfl (enters_of Tryz.func194 (by kernel_rfl) rfl) HSQ.out (Below.refl _ _) (fun _ => rfl)
      (fun pre W => FixU W0.heap.size (w.heap.size + 1) (w.heap.size + 1) W0 W ∧ (∀ y ∈ pre, s.getD y.1 0 ≠ 0) ∧ Oto W0 W)
      (fun cc pre W => cc = .ret ∧ Below w.heap.size w W ∧ ∃ pre' x, pre = pre' ++ [x] ∧ s.getD x.1 0 = 0 ∧ (∀ y ∈ pre', s.getD y.1 0 ≠ 0) ∧ Blk W b8 4 #[.bool (openB p known hour x.2)] ∧ Blk W (b8 + 1) 52 #[.int .i64 0]) ?hI ?hIx ?h0
      ((fun (F : Nat × Int → Act) (x : Nat × Int) (a' : Act) (_ : World) => a' = F x) ?F) ?hAx ?assign ?body ?done ?stop
    case assign =>
      rintro l pre x X K hI hK
      unfold encE
      gi_wp2
      refine hK _ _ (KeepsFrom.refl _ _) (FixU.refl _ _ _ _) hI ?_
      rfl
    case hI =>
      rintro pre X Y row ⟨hfx, hnz, hto⟩ hg hr
      exact ⟨(FixU.own (α := Nat) (Nat.le_refl _)) [] _ _ _ hfx hg hr, hnz, hto.grown hg⟩
    case hIx =>
      rintro cc pre X Y row ⟨h1, h2, pre', x, h3, h4, h5, h6, h7⟩ hg hr
      have hr1 : ∀ r, row = some r → ∃ o : Obj, X.heap[r]? = some o ∧ o.isCells = false := fun r e => (hr r e).2
      exact ⟨h1, h2.grown hg h2.size (fun k hk => by have := (hr k hk).1; omega), pre', x, h3, h4, h5, h6.own hg hr1, h7.own hg hr1⟩
    case h0 => exact ⟨FixU.refl _ _ _ _, fun y hy => (by cases hy), Oto.refl _⟩
    case hAx => exact fun _ _ _ _ _ _ h _ _ => h
    case body =>
      rintro l pre ⟨xm, xh⟩ a' X hl - ⟨hfx, hnz, hto⟩ rfl hlt hG
      have hXs := hfx.size
      have hxn : xm ≤ n := by
        rcases hG with e | ⟨i, hi, e⟩
        · cases e; exact Nat.zero_le _
        · cases e; have := HNUM.out; omega
      have hxb : 0 ≤ xh ∧ xh ≤ 100000 := by
        rcases hG with e | ⟨i, hi, e⟩
        · cases e; omega
        · have := HHR.out _ (getD_mem hi)
          unfold Num at this
          cases e
          omega
      obtain ⟨b7, o7, e7, -, -, hc7⟩ := ints_at (hfx.arr HI0.out (fun b o e h0 => by
        have h1 := HIL.out b o e h0
        obtain ⟨-, hlo, -⟩ := HIB.out b o e
        omega)) (show xm < n + 1 by omega)
      obtain ⟨sv, hsv⟩ : ∃ v, s.getD xm 0 = v := ⟨_, rfl⟩
      rw [hsv] at hc7
      have d0 := (hfx.blk HB11.out (by omega) (by omega) (.inl (by omega))).cell 0
      have d1 := hc7 X (Below.refl _ _)
      have HSV := Lib.hid hsv
      have HFX := Lib.hid hfx
      have HTO := Lib.hid hto
      have HNZ := Lib.hid hnz
      subst e7
      clear hsv hfx hto hnz hc7 hG
      have hxi : (xm : Int) < (n : Int) + 1 := by omega
      by_cases hz : sv = 0
      · subst hz
        have hpx : Blk X w.heap.size 38 (plb p A1 A2 A3 n1 c1 n2 c2 n3 c3) := HFX.out.blk HB10'.out (by omega) (by omega) (.inl (by omega))
        have hpa := Pa.fixU HFX.out HPA0.out (fun b o e h0 => by have := HPL.out.1 b o e h0; omega) (fun b o e h0 => by have := HPL.out.2.1 b o e h0; omega) (fun b o e h0 => by have := HPL.out.2.2 b o e h0; omega)
        have hfx := HFX.out.blk HFD0.out (by omega) (by omega) (.inl (by omega))
        have HT := Lib.hid (open_any p A1 A2 A3 n1 c1 n2 c2 n3 c3 w.heap.size bf known hour xh X hpx hpa HOK.out (hfx.cell 0) (hfx.cell 1) hh0 hxb.1 hxb.2)
        have K8 := Lib.hid (HFX.out.blk HB80.out (by omega) (by omega) (.inl (by omega)))
        have K9 := Lib.hid (HFX.out.blk HB90.out (by omega) (by omega) (.inl (by omega)))
        have d2 := (HFX.out.blk HB10.out (by omega) (by omega) (.inl (by omega))).cell 0
        have d3 := (HFX.out.blk HB30.out (by omega) (by omega) (.inl (by omega))).cell 0
        have HGX := Lib.hid (show Below w.heap.size w X from G0.out.trans (HFX.out.below (D := w.heap.size) HTO.out (by omega) (by omega) (by omega) (by omega)))
        obtain ⟨ov, hov⟩ : ∃ b, openB p known hour xh = b := ⟨_, rfl⟩
        rw [hov] at HT
        have HOV := Lib.hid hov
        clear hpx hpa hfx hov
        gi_wp2_with (refine ⟨trivial, ?_⟩; gi_at_call 76; refine (CallsIn.inRound l (callsIn_wide.2 HT.out)).mono ?_; rintro e V ⟨rfl, g⟩; have G7 := Lib.hid g; have m0 := (K8.out.ext g).cell 0; have m1 := (K8.out.ext g).frozen 0; have m2 := (K9.out.ext g).cell 0; have m3 := (K9.out.ext g).frozen 0; clear g)
        refine ⟨(⟨G7.out.size, fun k o _ hk _ => (G7.out.block k (Array.getElem?_eq_some_iff.1 hk).1).trans hk⟩ : KeepsFrom W0.heap.size X V).trans (((KeepsOthers.setCell _ _ _).from _).trans ((KeepsOthers.setCell _ _ _).from _)), rfl, ?_, pre, (xm, xh), rfl, HSV.out, HNZ.out, ?_, ?_⟩
        · exact ((HGX.out.trans (G7.out.mono HGX.out.size)).setCell (p := ⟨b8, 0, none⟩) (by show w.heap.size ≤ b8; omega) _).setCell (p := ⟨b8 + 1, 0, none⟩) (by show w.heap.size ≤ b8 + 1; omega) _
        · show Blk _ b8 4 #[.bool (openB p known hour xh)]
          rw [HOV.out]
          exact ((K8.out.ext G7.out).set_ 0 (.bool ov)).far (p := ⟨b8 + 1, 0, none⟩) (by show b8 ≠ b8 + 1; omega) (.int .i64 0)
        · exact ((K9.out.ext G7.out).far (p := ⟨b8, 0, none⟩) (by show b8 + 1 ≠ b8; omega) (.bool ov)).set_ 0 (.int .i64 0)
      · have hzb : (sv == 0) = false := by simpa using hz
        gi_wp2_with fail
        refine ⟨KeepsFrom.refl _ _, FixU.refl _ _ _ _, HFX.out, fun y hy => ?_, HTO.out⟩
        rcases List.mem_append.1 hy with hy | hy
        · exact HNZ.out y hy
        · rw [List.mem_singleton.1 hy]
          show s.getD xm 0 ≠ 0
          rw [HSV.out]; exact hz
    case done =>
      rintro E xs X hD hS ⟨hfx, hnz, hto⟩ hK
      have hF9 := HTN.out (by rw [← hS]; exact hnz)
      have HF9 := Lib.hid (show trulyR p hour known sown ns = false by rw [HR2.out, hF9])
      have K8 := Lib.hid (hfx.blk HB80.out (by omega) (by omega) (.inl (by omega)))
      have K9 := Lib.hid (hfx.blk HB90.out (by omega) (by omega) (.inl (by omega)))
      have GX := Lib.hid (show Below w.heap.size w X from G0.out.trans (hfx.below (D := w.heap.size) hto (by omega) (by omega) (by omega) (by omega)))
      have HK := Lib.hid hK
      have m0 := K8.out.cell 0
      have m1 := K8.out.frozen 0
      have m2 := K9.out.cell 0
      have m3 := K9.out.frozen 0
      clear hF9 hfx hnz hto hS hK
      go_wp2_with fail
      have k8 := (K8.out.set_ 0 (.bool false)).far (p := ⟨b8 + 1, 0, none⟩) (by show b8 ≠ b8 + 1; omega) (.int .i64 0)
      have k9 := (K9.out.far (p := ⟨b8, 0, none⟩) (by show b8 + 1 ≠ b8; omega) (.bool false)).set_ 0 (.int .i64 0)
      have t0 := (k8.putObj (D := E) (by omega) (.deferred none)).cell 0
      have t1 := (k9.putObj (D := E) (by omega) (.deferred none)).cell 0
      refine ⟨by simp, .inl ⟨_, _, rfl, run_takeDeferred ((Below.heap_setCell _ _ _ _ (by show E ≠ b8 + 1; omega)).trans ((Below.heap_setCell _ _ _ _ (by show E ≠ b8; omega)).trans HK.out)), ?_⟩⟩
      refine ⟨.tuple #[.bool false, .int .i64 0], ?_, ⟨by rw [HF9.out, HLE.out], ?_⟩⟩
      · simp [results, Tryz.results52, go_sem, t0, t1]
      · have gx := (GX.out.setCell (p := ⟨b8, 0, none⟩) (by show w.heap.size ≤ b8; omega) (.bool false)).setCell (p := ⟨b8 + 1, 0, none⟩) (by show w.heap.size ≤ b8 + 1; omega) (.int .i64 0)
        exact gx.grown (grownBy_putObj' _ E _) gx.size (fun k hk => by cases hk; omega)
    case stop =>
      rintro E cd pre X hD hS ⟨rfl, hgw, pre', x, rfl, hx, hnz, hb4, hb5⟩ hK
      have hF9 := HTA.out _ _ hS hx hnz
      have t0 := (hb4.putObj (D := E) (by omega) (.deferred none)).cell 0
      have t1 := (hb5.putObj (D := E) (by omega) (.deferred none)).cell 0
      gi_wp2
      refine ⟨by simp, .inl ⟨_, _, rfl, run_takeDeferred hK, ?_⟩⟩
      refine ⟨.tuple #[.bool (openB p known hour x.2), .int .i64 0], ?_, ⟨by rw [HR2.out, HLE.out, hF9], ?_⟩⟩
      · simp [results, Tryz.results52, go_sem, t0, t1]
      · exact hgw.grown (grownBy_putObj' _ E _) hgw.size (fun k hk => by cases hk; omega)
  · have HR2 := Lib.hid (show trulyR p hour known sown ns = false by rw [HR.out, if_neg h0])
    have hne : (le != 0) = true := by simpa using h0
    go_upto_region 1 with fail
    rw [HW1.out]
    go_upto_region 2 with (go_at_call 78; (with_reducible refine (T.out).mono ?_); rintro e W2 ⟨r, v, rfl, hg, -, ht⟩; obtain ⟨rfl, rfl⟩ := ht (by rw [HLE.out]; exact h0); rw [HLE.out]; have G2 := Lib.hid hg; clear hg ht)
    have gx : Below W1.heap.size W1 ((W2.alloc (.cells #[.pointer none] 134)).alloc (.cells #[.slice none 0 0] 39)) := G2.out.trans ((two_more W2 _ _).mono G2.out.size)
    have K8 := Lib.hid (HB8.out.ext gx)
    have K9 := Lib.hid (HB9.out.ext gx)
    have m0 := K8.out.cell 0
    have m1 := K8.out.frozen 0
    have m2 := K9.out.cell 0
    have m3 := K9.out.frozen 0
    have GX := Lib.hid (G1.out.trans (gx.mono G1.out.size))
    clear gx k0 k1 k2
    go_wp2_with fail
    have k8 := (K8.out.set_ 0 (.bool false)).far (p := ⟨w.heap.size + 1 + 1 + 1 + 1, 0, none⟩) (by show w.heap.size + 1 + 1 + 1 ≠ w.heap.size + 1 + 1 + 1 + 1; omega) (.int .i64 le)
    have k9 := (K9.out.far (p := ⟨w.heap.size + 1 + 1 + 1, 0, none⟩) (by show w.heap.size + 1 + 1 + 1 + 1 ≠ w.heap.size + 1 + 1 + 1; omega) (.bool false)).set_ 0 (.int .i64 le)
    have t0 := k8.cell 0
    have t1 := k9.cell 0
    refine ⟨.tuple #[.bool false, .int .i64 le], ?_, ⟨by rw [HR2.out, HLE.out], ?_⟩⟩
    · simp [results, Tryz.results52, go_sem, t0, t1]
    · exact (GX.out.setCell (p := ⟨w.heap.size + 1 + 1 + 1, 0, none⟩) (by show w.heap.size ≤ w.heap.size + 1 + 1 + 1; omega) _).setCell (p := ⟨w.heap.size + 1 + 1 + 1 + 1, 0, none⟩) (by show w.heap.size ≤ w.heap.size + 1 + 1 + 1 + 1; omega) _
end Go.Proofs.YtkoejeghihcmlaaGreat
