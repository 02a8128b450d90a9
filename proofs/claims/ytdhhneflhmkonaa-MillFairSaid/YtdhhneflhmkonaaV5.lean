/- The reference's Serve (func 75). -/
import Derived.Test.YtdhhneflhmkonaaV4
namespace Go.Proofs.Ytdhhneflhmkonaa
open Go.RowKit Go.Shelf

/-- What one more hour for a comer leaves. -/
def SrvEnd (n H : Nat) (xs : List Comer) (P : Option Addr) (c : Nat) (wh : List Int) (V : World) (s10 s11 : Value) (wx : World) : Prop :=
  ∃ (b : Nat) (P' : Option Addr) (pc' : Nat) (ok : Bool) (wh' : List Int), s10 = .pointer (some ⟨b, 0, none⟩) ∧ s11 = .bool ok ∧ Below V.heap.size V wx ∧ V.heap.size ≤ b ∧ Blk wx b 90 #[.slice P' H pc'] ∧
    Ints wx P' H wh' ∧ (∀ b o, P' = some ⟨b, o, none⟩ → P' = P ∨ V.heap.size ≤ b) ∧ Asg n H (adj xs (2 ^ H - 1)) wh' ∧ (ok = true → ∀ j : Nat, wh'.count (j : Int) = wh.count (j : Int) + if j = c then 1 else 0) ∧ (ok = false → wh' = wh ∧ ∃ s', StepF n H (adj xs (2 ^ H - 1)) c 0 wh s')

theorem SrvEnd.mk0 {n H : Nat} {xs : List Comer} {c : Nat} {wh wh' : List Int} {ok : Bool} {s' : Nat} (ha : Asg n H (adj xs (2 ^ H - 1)) wh) (hc : c < n)
    (ht : ok = true → StepT n H (adj xs (2 ^ H - 1)) c 0 wh wh') (hf : ok = false → wh' = wh ∧ RefF n H (adj xs (2 ^ H - 1)) c 0 wh s') :
    Asg n H (adj xs (2 ^ H - 1)) wh' ∧ (ok = true → ∀ j : Nat, wh'.count (j : Int) = wh.count (j : Int) + if j = c then 1 else 0) ∧ (ok = false → wh' = wh ∧ ∃ s', StepF n H (adj xs (2 ^ H - 1)) c 0 wh s') := by
  cases ok with
  | true => exact ⟨ha.step (ht rfl), fun _ => (ht rfl).count, fun h => by cases h⟩
  | false => exact ⟨by rw [(hf rfl).1]; exact ha, fun h => (by cases h), fun _ => ⟨(hf rfl).1, (hf rfl).2.step hc⟩⟩

section
variable {bt n H : Nat} {xs : List Comer} {c : Nat} {wh : List Int} {V Wx wa : World} {P P' : Option Addr} {ok : Bool} {s' : Nat} {wh' : List Int}
theorem SrvEnd.mkA (pc' b : Nat) (g : Below V.heap.size V Wx) (hbt : V.heap.size ≤ bt) (hb : V.heap.size ≤ b) (hbb : b ≠ bt) (nb : Blk Wx b 90 #[.slice none 0 0]) (hP : ∀ b o, P = some ⟨b, o, none⟩ → b < V.heap.size)
    (hasg : Asg n H (adj xs (2 ^ H - 1)) wh) (hc : c < n) (fa : Fix bt bt Wx wa) (ia : Ints wa P' H wh') (na : ∀ b o, P' = some ⟨b, o, none⟩ → b ≠ bt ∧ (P' = P ∨ Wx.heap.size ≤ b))
    (ht : ok = true → StepT n H (adj xs (2 ^ H - 1)) c 0 wh wh') (hf : ok = false → wh' = wh ∧ RefF n H (adj xs (2 ^ H - 1)) c 0 wh s') :
    SrvEnd n H xs P c wh V (.pointer (some ⟨b, 0, none⟩)) (.bool ok) (wa.setCell ⟨b, 0, none⟩ (.slice P' H pc')) := by
  have nb' := fa.blk nb hbb hbb
  have hlt := nb.lt
  have hP' : ∀ b2 o, P' = some ⟨b2, o, none⟩ → b2 ≠ b ∧ (P' = P ∨ V.heap.size ≤ b2) := by
    intro b2 o e
    rcases (na b2 o e).2 with h | h
    · have := hP b2 o (by rw [← h]; exact e)
      exact ⟨by omega, .inl h⟩
    · have := g.size
      exact ⟨by omega, .inr (by omega)⟩
  have fs : Fix b b wa (wa.setCell ⟨b, 0, none⟩ (.slice P' H pc')) := (Fix.refl _ _ wa).setCell (p := ⟨b, 0, none⟩) (.inl rfl) _
  obtain ⟨h1, h2, h3⟩ := SrvEnd.mk0 hasg hc ht hf
  exact ⟨_, P', pc', ok, wh', rfl, rfl, (Fix.calm g fa hbt).setCell (p := ⟨b, 0, none⟩) hb _, hb, nb'.set_ 0 _, Arr.fix ia fs (fun b2 o e _ => ⟨(hP' b2 o e).1, (hP' b2 o e).1⟩), fun b2 o e => (hP' b2 o e).2, h1, h2, h3⟩
theorem SrvEnd.mkB (pc' : Nat) (g : Below V.heap.size V Wx) (hbt : V.heap.size ≤ bt)
    (hasg : Asg n H (adj xs (2 ^ H - 1)) wh) (hc : c < n) (fa : Fix bt bt Wx wa) (ia : Ints wa P' H wh') (na : ∀ b o, P' = some ⟨b, o, none⟩ → b ≠ bt ∧ (P' = P ∨ Wx.heap.size ≤ b))
    (ht : ok = true → StepT n H (adj xs (2 ^ H - 1)) c 0 wh wh') (hf : ok = false → wh' = wh ∧ RefF n H (adj xs (2 ^ H - 1)) c 0 wh s') :
    SrvEnd n H xs P c wh V (.pointer (some ⟨wa.heap.size, 0, none⟩)) (.bool ok) (wa.alloc (.cells #[.slice P' H pc'] 90)) := by
  have g1 := one_more wa (.cells #[.slice P' H pc'] 90)
  have g2 := Fix.calm g fa hbt
  obtain ⟨h1, h2, h3⟩ := SrvEnd.mk0 hasg hc ht hf
  refine ⟨_, P', pc', ok, wh', rfl, rfl, g2.trans (g1.mono g2.size), g2.size, Blk.new _ _ _, ia.below g1, fun b o e => ?_, h1, h2, h3⟩
  rcases (na b o e).2 with h | h
  · exact .inl h
  · have := g.size
    exact .inr (by omega)
end

theorem make24 (w : World) : (Instr.makeSlice 113 (.int .i64 24) (.int .i64 24)).run Try.prog w = .ok (.slice (some ⟨w.heap.size, 0, none⟩) 24 24) (w.alloc (.cells (bits24 0) 4)) := by
  rw [bits24_free]
  exact run_make_row' (P := Try.prog) 113 4 (.bool false) 1 (by kernel_rfl) (by kernel_rfl) (by simp [Value.cells]) .i64 .i64 24 (by omega) (by omega) w

/-- The three worlds in which the search begins: the hours tried and the plan's box, either first, or the hours alone. -/
structure Three (V : World) (p : World → Nat → Prop) : Prop where
  a : p ((V.alloc (.cells #[.slice none 0 0] 90)).alloc (.cells (bits24 0) 4)).drew (V.heap.size + 1)
  b : p ((V.alloc (.cells (bits24 0) 4)).alloc (.cells #[.slice none 0 0] 90)).drew V.heap.size
  c : p (V.alloc (.cells (bits24 0) 4)).drew V.heap.size
theorem Three.of {V : World} {p : World → Nat → Prop} (h : ∀ Wx bt, Below V.heap.size V Wx → V.heap.size ≤ bt → Blk Wx bt 4 (bits24 0) → p Wx bt) : Three V p := by
  refine ⟨h _ _ (two_more _ _ _).drew (by omega) ?_, h _ _ (two_more _ _ _).drew (Nat.le_refl _) ?_, h _ _ (one_more _ _).drew (Nat.le_refl _) (Blk.new _ _ _)⟩
  · have := Blk.new (V.alloc (.cells #[.slice none 0 0] 90)) 4 (bits24 0)
    rw [World.size_alloc] at this
    exact this
  · exact (Blk.new V 4 (bits24 0)).alloc _
theorem three_box_a (V : World) : Blk ((V.alloc (.cells #[.slice none 0 0] 90)).alloc (.cells (bits24 0) 4)).drew V.heap.size 90 #[.slice none 0 0] := (Blk.new V 90 _).alloc _
theorem three_box_b (V : World) : Blk ((V.alloc (.cells (bits24 0) 4)).alloc (.cells #[.slice none 0 0] 90)).drew (V.heap.size + 1) 90 #[.slice none 0 0] := by
  have := Blk.new (V.alloc (.cells (bits24 0) 4)) 90 #[.slice none 0 0]
  rw [World.size_alloc] at this
  exact this

/-- Where Serve stands. -/
def SrvSt (w : World) (bm br b6 n cc H : Nat) (A : Option Addr) (xs : List Comer) (d : List Int) (i k : Nat) (wr : World) : Prop :=
  ∃ (P : Option Addr) (pc : Nat) (wh : List Int), Below w.heap.size w wr ∧ Blk wr bm 24 #[.int .i64 H, .slice A n cc] ∧ Blk wr br 90 #[.slice none 0 0] ∧ Blk wr b6 90 #[.slice P H pc] ∧ Ints wr P H wh ∧ (∀ b o, P = some ⟨b, o, none⟩ → b6 < b ∧ b < wr.heap.size) ∧
    Asg n H (adj xs (2 ^ H - 1)) wh ∧ ∀ j : Nat, j < n → wh.count (j : Int) = cnt d i k j
theorem cnt_end {d : List Int} {i j : Nat} : cnt d i (d.getD i 0).toNat j = cnt d (i + 1) 0 j := by
  unfold cnt
  by_cases h1 : j < i
  · rw [if_pos h1, if_pos (by omega)]
  · rw [if_neg h1]
    by_cases h2 : j = i
    · subst h2; rw [if_pos rfl, if_pos (by omega)]
    · rw [if_neg h2, if_neg (by omega)]
      split <;> rfl
theorem three_boxes (w : World) (t1 t2 t3 : TypeId) (c1 c2 c3 : Array Value) : ∃ W3, ((w.alloc (.cells c1 t1)).alloc (.cells c2 t2)).alloc (.cells c3 t3) = W3 ∧ Below w.heap.size w W3 ∧ Blk W3 w.heap.size t1 c1 ∧ Blk W3 (w.heap.size + 1) t2 c2 ∧ Blk W3 (w.heap.size + 1 + 1) t3 c3 ∧ W3.heap.size = w.heap.size + 1 + 1 + 1 := by
  have b2 := Blk.new (w.alloc (.cells c1 t1)) t2 c2
  have b3 := Blk.new ((w.alloc (.cells c1 t1)).alloc (.cells c2 t2)) t3 c3
  rw [World.size_alloc] at b2
  rw [World.size_alloc, World.size_alloc] at b3
  exact ⟨_, rfl, (two_more w _ _).alloc (by rw [World.size_alloc, World.size_alloc]; omega) _, ((Blk.new w t1 c1).alloc _).alloc _, b2.alloc _, b3, by rw [World.size_alloc, World.size_alloc, World.size_alloc]⟩
theorem cnt_succ {d : List Int} {i k j : Nat} : cnt d i (k + 1) j = cnt d i k j + if j = i then 1 else 0 := by
  unfold cnt
  by_cases h1 : j < i
  · rw [if_pos h1, if_pos h1, if_neg (by omega), Nat.add_zero]
  · rw [if_neg h1, if_neg h1]
    by_cases h2 : j = i
    · rw [if_pos h2, if_pos h2, if_pos h2]
    · rw [if_neg h2, if_neg h2, if_neg h2]

/-- What Serve hands back. -/
def SrvPost (n H : Nat) (xs : List Comer) (d : List Int) (w : World) (e : Ending) (w' : World) : Prop :=
  Below w.heap.size w w' ∧ ∃ (P : Option Addr) (pc : Nat) (wh : List Int), e = .returned (.tuple #[.agg #[.slice P H pc], .bool (fea xs H (-1) d)]) ∧ Ints w' P H wh ∧ (∀ b o, P = some ⟨b, o, none⟩ → w.heap.size ≤ b ∧ b < w'.heap.size) ∧ Asg n H (adj xs (2 ^ H - 1)) wh ∧
    (fea xs H (-1) d = true → ∀ j : Nat, j < n → wh.count (j : Int) = (d.getD j 0).toNat)

theorem adj_ones {xs : List Comer} {H : Nat} (i k : Nat) (hk : k < H) : adj xs (2 ^ H - 1) i k = can xs (-1) i k := by
  rw [adj_all hk]; unfold can; simp

set_option maxRecDepth 100000 in
set_option maxHeartbeats 8000000 in
theorem serveRef_any (A D : Option Addr) (n cc cd H : Nat) (xs : List Comer) (d : List Int) (w : World) (ha : Arr ccells 3 w A n xs) (hX : Hrs xs) (hH : H ≤ 24) (hn : n ≤ 12) (hd : Ints w D n d) (hdb : ∀ x ∈ d, x ≤ 1000) :
    Calls Try.prog 75 #[mv A n cc H, .slice D n cd] w (SrvPost n H xs d w) := by
  have HA := Lib.hid ha
  have HD := Lib.hid hd
  have hlen := Lib.hid ha.1
  have hdl := Lib.hid hd.1
  have HDB := Lib.hid hdb
  have HHR := Lib.hid (show ∀ (i : Nat) x, xs[i]? = some x → 0 ≤ x.hours ∧ x.hours < 16777216 from fun i x h => hX x (List.mem_of_getElem? h))
  clear ha hd hdb
  unfold mv
  go_enter Try.func75, Try.ntmps75
  go_upto_region 2 with fail
  obtain ⟨W3, hW3, g3, b1, b2, b3, s3⟩ := three_boxes w 24 90 90 #[.int .i64 H, .slice A n cc] #[.slice none 0 0] #[.slice none 0 0]
  rw [hW3]
  have G3 := Lib.hid g3
  clear hW3 g3
  obtain ⟨bm, hbm⟩ : ∃ bm, w.heap.size = bm := ⟨_, rfl⟩
  rw [hbm] at b1 b2 b3 s3 ⊢
  obtain ⟨br, hbr⟩ : ∃ br, bm + 1 = br := ⟨_, rfl⟩
  rw [hbr] at b2 b3 s3 ⊢
  obtain ⟨b6, hb6⟩ : ∃ b6, br + 1 = b6 := ⟨_, rfl⟩
  rw [hb6] at b3 s3 ⊢
  have z1 : bm < br := by omega
  have z2 : br < b6 := by omega
  have HBM := Lib.hid hbm
  have B1 := Lib.hid b1
  have B2 := Lib.hid b2
  have B3 := Lib.hid b3
  have S3 := Lib.hid s3
  clear hbm hbr hb6 b1 b2 b3 s3
  go_wp2_with fail
  go_loopw [7] (fun i wr => ∃ (k : Nat) (v : Value), i = .int .i64 k ∧ k ≤ H ∧ Below w.heap.size w wr ∧ Blk wr bm 24 #[.int .i64 H, .slice A n cc] ∧ Blk wr br 90 #[.slice none 0 0] ∧ Blk wr b6 90 #[v] ∧ Own wr (b6 + 1) v (List.replicate k (-1)) ∧ b6 + 1 ≤ wr.heap.size) (fun i _ => H - (intOf i).toNat)
  case atStart => exact ⟨0, .slice none 0 0, rfl, Nat.zero_le _, G3.out, B1.out, B2.out, B3.out, Own.nil _ _, by have := S3.out; omega⟩
  case round =>
    obtain ⟨k, v, rfl, hk, hg, c1, c2, c3, ho, hsz⟩ := hrel
    have m0 := c1.cell 0
    have v0 := c3.cell 0
    have HG := Lib.hid hg
    have C1 := Lib.hid c1
    have C2 := Lib.hid c2
    have C3 := Lib.hid c3
    have HO := Lib.hid ho
    by_cases hkH : k < H
    · have HL : (List.replicate k (-1 : Int)).length < 100000 := by rw [List.length_replicate]; omega
      have hgl := hg.size
      rw [HBM.out] at hgl
      have POST : ∀ (v' : Value) (w' : World), Own w' (b6 + 1) v' (List.replicate k (-1) ++ [-1]) → (∀ B, B ≤ b6 + 1 → Below B (wr.alloc (.cells #[.int .i64 (-1)] 3)) w') →
          (∃ A' c', v' = .slice A' (k + 1) c') ∧ Below w.heap.size w (w'.setCell ⟨b6, 0, none⟩ v') ∧ Blk (w'.setCell ⟨b6, 0, none⟩ v') bm 24 #[.int .i64 H, .slice A n cc] ∧ Blk (w'.setCell ⟨b6, 0, none⟩ v') br 90 #[.slice none 0 0] ∧ Blk (w'.setCell ⟨b6, 0, none⟩ v') b6 90 #[v'] ∧ Own (w'.setCell ⟨b6, 0, none⟩ v') (b6 + 1) v' (List.replicate (k + 1) (-1)) ∧ b6 + 1 ≤ (w'.setCell ⟨b6, 0, none⟩ v').heap.size ∧ w'.cell? ⟨b6, 0, none⟩ = some v ∧ w'.frozen? ⟨b6, 0, none⟩ = false := by
        intro v' w' o hb
        have hbb := hb _ (Nat.le_refl _)
        have k1 : ∀ {g : Nat} {t : TypeId} {cs : Array Value}, Blk wr g t cs → g < b6 + 1 → Blk w' g t cs := fun h hl => (hbb.block _ hl).trans (h.alloc _)
        have q3 := k1 C3.out (by omega)
        have hz := hbb.size
        rw [World.size_alloc] at hz
        have hq : Below w.heap.size w w' := HG.out.trans (((one_more wr _).mono HG.out.size).trans (hb _ (by rw [HBM.out]; omega)))
        obtain ⟨A', c', e', -⟩ := o.ints
        refine ⟨⟨A', c', by rw [e']; simp⟩, hq.setCell (p := ⟨b6, 0, none⟩) (by rw [HBM.out]; dsimp only; omega) _, (k1 C1.out (by omega)).far (by simp; omega) _, (k1 C2.out (by omega)).far (by simp; omega) _, q3.set_ 0 _, ?_, by rw [World.size_setCell]; omega, q3.cell 0, q3.frozen 0⟩
        rw [List.replicate_succ']
        exact ownsRow_setCell_below o (Nat.lt_succ_self b6) _
      have HPOST := Lib.hid POST
      clear POST hg c1 c2 c3 ho
      go_wp2_with (first
        | (at_builtin; refine push_int rfl _ _ rfl (b6 + 1) _ (List.replicate k (-1)) rfl (HO.out.ext (one_more _ _)) _ _ _ _ rfl rfl (cell_new1 _ _ _ _ rfl) HL (by simp; omega) ?_; intro v' w' ho' hb'; obtain ⟨⟨A', c', rfl⟩, p1, p2, p3, p4, p5, p6, p7, p8⟩ := HPOST.out v' w' ho' hb'; have P1 := Lib.hid p1; have P2 := Lib.hid p2; have P3 := Lib.hid p3; have P4 := Lib.hid p4; have P5 := Lib.hid p5; have P6 := Lib.hid p6; clear ho' hb' p1 p2 p3 p4 p5 p6))
      go_roundw
      case rel => exact ⟨k + 1, _, by go_num, by omega, P1.out, P2.out, P3.out, P4.out, P5.out, P6.out⟩
      case measure => simp [intOf]; omega
    · obtain rfl : H = k := by omega
      obtain ⟨P0, pc0, rfl, hp0⟩ := ho.ints
      rw [List.length_replicate] at hp0
      have START : SrvSt w bm br b6 n cc H A xs d 0 0 wr := by
        refine ⟨P0, pc0, List.replicate H (-1), hg, c1, c2, ?_, hp0, ?_, Asg.free _ _ _, fun j _ => ?_⟩
        · rw [List.length_replicate] at c3; exact c3
        · intro b o e
          subst e
          have := ho.base_le b rfl
          omega
        · rw [count_free]; unfold cnt; rw [if_neg (by omega)]; split <;> rfl
      have HST := Lib.hid START
      clear START hg c1 c2 c3 ho hp0 v0 HG C1 C2 C3 HO B1 B2 B3 S3 G3 hsz
      obtain ⟨wo, rfl⟩ : ∃ wo : World, wo = wr := ⟨_, rfl⟩
      go_wp2_with fail
      clear m0
      go_loopw [8] (fun i wr => ∃ i0 : Nat, i = .int .i64 i0 ∧ i0 ≤ n ∧ SrvSt w bm br b6 n cc H A xs d i0 0 wr) (fun i _ => n - (intOf i).toNat)
      case atStart => exact ⟨0, rfl, Nat.zero_le _, HST.out⟩
      case round =>
        obtain ⟨i, rfl, hi, hst⟩ := hrel
        have HS := Lib.hid hst
        clear hst HST
        by_cases hin : i < n
        · obtain ⟨db, dof, rfl, -, hmem, hdc⟩ := ints_at HD.out hin
          obtain ⟨q, hq⟩ : ∃ q, d.getD i 0 = q := ⟨_, rfl⟩
          have hq1000 : q ≤ 1000 := by rw [← hq]; exact HDB.out _ (List.mem_of_getElem? hmem)
          rw [hq] at hdc
          have HQ := Lib.hid hq
          have HDC := Lib.hid hdc
          clear hmem hdc hq
          obtain ⟨w2, rfl⟩ : ∃ w2 : World, w2 = wr := ⟨_, rfl⟩
          go_wp2_with fail
          go_loopw [9] (fun kk wr => ∃ k : Nat, kk = .int .i64 k ∧ k ≤ q.toNat ∧ SrvSt w bm br b6 n cc H A xs d i k wr) (fun kk _ => q.toNat - (intOf kk).toNat)
          case atStart => exact ⟨0, rfl, Nat.zero_le _, HS.out⟩
          case round =>
            obtain ⟨k, rfl, hk, P, pc, wh, hg, c1, c2, c3, hp, hpb, hasg, hcnt⟩ := hrel
            have d0 := HDC.out wr hg
            have m0 := c1.cell 0
            have m1 := c1.cell 1
            have p0 := c3.cell 0
            by_cases hkq : (k : Int) < q
            · have HG := Lib.hid hg
              have C1 := Lib.hid c1
              have C2 := Lib.hid c2
              have C3 := Lib.hid c3
              have HP := Lib.hid hp
              have HPB := Lib.hid hpb
              have HASG := Lib.hid hasg
              have HCNT := Lib.hid hcnt
              have hlt := Lib.hid (show bm < wr.heap.size ∧ b6 < wr.heap.size from ⟨c1.lt, c3.lt⟩)
              clear hg c1 c2 c3 hp hpb hasg hcnt
              go_upto_region 12 with fail
              have ARG : ∀ Wx bt, Below wr.heap.size wr Wx → wr.heap.size ≤ bt → Blk Wx bt 4 (bits24 0) →
                  Calls Try.prog 101 #[.agg #[.int .i64 H, .slice A n cc], .agg #[.slice P H pc], .int .i64 i, .slice (some ⟨bt, 0, none⟩) 24 24] Wx (GivePost bt n H xs P i 0 wh Wx) := by
                intro Wx bt g hbt hb
                have hA : ∀ b o, A = some ⟨b, o, none⟩ → 0 < n → b < w.heap.size := fun b o e h => by
                  obtain ⟨b', o', x', e', hl, -⟩ := HA.out.at h
                  rw [e] at e'; cases e'; exact hl
                have hgs := HG.out.size
                refine giveRef_any bt n cc H A xs hH (fun b o e => ?_) HHR.out _ Wx i 0 wh P pc (Nat.le_refl _) ((HA.out.below HG.out).below g) (HP.out.below g) (fun b o e => ?_) hb HASG.out (Nat.two_pow_pos _) hin
                · have := hA b o e (by omega)
                  omega
                · have := HPB.out b o e
                  omega
              have TH := Three.of (V := wr) ARG
              have CA := Lib.hid TH.a
              have CB := Lib.hid TH.b
              have CC := Lib.hid TH.c
              have BA := Lib.hid (three_box_a wr)
              have BB := Lib.hid (three_box_b wr)
              have GA := Lib.hid (show Below wr.heap.size wr ((wr.alloc (.cells #[.slice none 0 0] 90)).alloc (.cells (bits24 0) 4)).drew from (two_more _ _ _).drew)
              have GB := Lib.hid (show Below wr.heap.size wr ((wr.alloc (.cells (bits24 0) 4)).alloc (.cells #[.slice none 0 0] 90)).drew from (two_more _ _ _).drew)
              have GC := Lib.hid (show Below wr.heap.size wr (wr.alloc (.cells (bits24 0) 4)).drew from (one_more _ _).drew)
              have HPL := Lib.hid (show ∀ b o, P = some ⟨b, o, none⟩ → b < wr.heap.size from fun b o e => (HPB.out b o e).2)
              have hmk := make24
              have K0 : ∀ Wx, Below wr.heap.size wr Wx → (Wx.cell? ⟨bm, 0, none⟩ = some (.int .i64 H) ∧ Wx.cell? ⟨bm, 1, none⟩ = some (.slice A n cc) ∧ Wx.cell? ⟨b6, 0, none⟩ = some (.slice P H pc)) :=
                fun Wx f => ⟨(C1.out.ext f).cell 0, (C1.out.ext f).cell 1, (C3.out.ext f).cell 0⟩
              have HK0 := Lib.hid K0
              clear K0 TH ARG d0 m0 m1 p0
              have KA := Lib.hid (HK0.out _ GA.out)
              have KB := Lib.hid (HK0.out _ GB.out)
              have KC := Lib.hid (HK0.out _ GC.out)
              go_cut [10, 11] from 38 to 45 (SrvEnd n H xs P i wh wr)
              case first =>
                go_region_held3 (fun w' => w'.cell? ⟨bm, 0, none⟩ = some (.int .i64 H) ∧ w'.cell? ⟨bm, 1, none⟩ = some (.slice A n cc) ∧ w'.cell? ⟨b6, 0, none⟩ = some (.slice P H pc))
                  (first
                    | exact KA.out
                    | exact KB.out
                    | exact KC.out
                    | exact KW.out
                    | exact KX.out
                    | exact KY.out
                    | exact HK0.out _ (one_more _ _).drew
                    | exact HK0.out _ (Below.refl _ _).drew
                    | go_keep)
                  (first
                  | (go_at_call 101; (with_reducible refine CA.out.mono ?_); rintro e wa ⟨fa, P', pc', ok, s', wh', rfl, ia, na, -, -, -, ht, hf⟩; have n9 := (fa.blk BA.out (by omega) (by omega)).cell 0; have n9f := (fa.blk BA.out (by omega) (by omega)).frozen 0; have g9 := Fix.calm GA.out fa (by omega); have KW := Lib.hid (HK0.out _ g9); have KX := Lib.hid (HK0.out _ (g9.setCell (p := ⟨wr.heap.size, 0, none⟩) (Nat.le_refl _) (.slice P' H pc'))); have EA := Lib.hid (SrvEnd.mkA pc' wr.heap.size GA.out (by omega) (by omega) (by omega) BA.out HPL.out HASG.out hin fa ia na ht hf); clear fa ia na ht hf g9)
                  | (go_at_call 101; (with_reducible refine CB.out.mono ?_); rintro e wa ⟨fa, P', pc', ok, s', wh', rfl, ia, na, -, -, -, ht, hf⟩; have n9 := (fa.blk BB.out (by omega) (by omega)).cell 0; have n9f := (fa.blk BB.out (by omega) (by omega)).frozen 0; have g9 := Fix.calm GB.out fa (Nat.le_refl _); have KW := Lib.hid (HK0.out _ g9); have KX := Lib.hid (HK0.out _ (g9.setCell (p := ⟨wr.heap.size + 1, 0, none⟩) (Nat.le_succ _) (.slice P' H pc'))); have EA := Lib.hid (SrvEnd.mkA pc' (wr.heap.size + 1) GB.out (Nat.le_refl _) (Nat.le_succ _) (by omega) BB.out HPL.out HASG.out hin fa ia na ht hf); clear fa ia na ht hf g9)
                  | (go_at_call 101; (with_reducible refine CC.out.mono ?_); rintro e wa ⟨fa, P', pc', ok, s', wh', rfl, ia, na, -, -, -, ht, hf⟩; have g9 := Fix.calm GC.out fa (Nat.le_refl _); have KW := Lib.hid (HK0.out _ g9); have KX := Lib.hid (HK0.out _ (g9.trans ((one_more wa (.cells #[.slice P' H pc'] 90)).mono g9.size))); have KY := Lib.hid (HK0.out _ (g9.trans ((one_more wa (.cells #[.slice none 0 0] 90)).mono g9.size))); have EA := Lib.hid (SrvEnd.mkB pc' GC.out (Nat.le_refl _) HASG.out hin fa ia na ht hf); clear fa ia na ht hf g9))
                all_goals (try go_wp2_with fail)
                all_goals go_meet
                all_goals exact EA.out
              case rest =>
                obtain ⟨b10, P', pc', ok, wh', rfl, rfl, gw, hb10, bw, iw, nw, aw, htw, hfw⟩ := hcut
                have e1 := C1.out.ext gw
                have e2 := C2.out.ext gw
                have e3 := C3.out.ext gw
                have x10 := bw.cell 0
                have y6 := e3.cell 0
                have y6f := e3.frozen 0
                have yr := e2.cell 0
                have yrf := e2.frozen 0
                have hlo := hlt.out
                have hgw := gw.size
                have GW := Lib.hid (show Below w.heap.size w wc from HG.out.trans (gw.mono HG.out.size))
                have GW2 := Lib.hid gw
                have E1 := Lib.hid e1
                have E2 := Lib.hid e2
                have E3 := Lib.hid e3
                have IW := Lib.hid iw
                have NW := Lib.hid nw
                have AW := Lib.hid aw
                have HTW := Lib.hid htw
                have HFW := Lib.hid hfw
                have BW := Lib.hid bw
                clear gw bw iw nw aw htw hfw e1 e2 e3 CA CB CC BA BB GA GB GC KA KB KC HK0 hmk
                cases ok with
                | false =>
                  obtain ⟨rfl, s', hstep⟩ := HFW.out (by trivial)
                  have hno : fea xs H (-1) d = false := by
                    have hF := hstep.no (d := fun j => d.getD j 0) HASG.out (fun j hj => by
                      have := HCNT.out j hj
                      have hqo := HQ.out
                      unfold cnt at this
                      split at this
                      · omega
                      · split at this
                        · rename_i e; subst e; omega
                        · omega) hin (by
                      have := HCNT.out i hin
                      have hqo := HQ.out
                      unfold cnt at this
                      rw [if_neg (by omega), if_pos rfl] at this
                      omega)
                    cases hq : fea xs H (-1) d with
                    | false => rfl
                    | true =>
                      have := (fea_iff (hdl.out.trans hlen.out.symm)).1 hq
                      rw [hlen.out] at this
                      exact absurd (this.congr (fun i k _ hk => (adj_ones i k hk).symm)) hF
                  have HNO := Lib.hid hno
                  clear hno hstep
                  go_wp2_with fail
                  have b9 := (E2.out.set_ 0 (.slice P H pc)).cell 0
                  refine bodyPost_ret (v := .tuple #[.agg #[.slice P H pc], .bool false]) ?_ rfl ⟨GW.out.setCell (p := ⟨br, 0, none⟩) (by rw [HBM.out]; dsimp only; omega) _, P, pc, wh', by rw [HNO.out], ?_, fun b o e => ⟨?_, ?_⟩, HASG.out, fun h => by rw [HNO.out] at h; cases h⟩
                  · simp [results, Try.results75, go_sem, b9]
                  · exact Arr.fix (HP.out.below GW2.out) ((Fix.refl br br wc).setCell (p := ⟨br, 0, none⟩) (.inl rfl) _) (fun b o e _ => by have := HPB.out b o e; omega)
                  · have := HPB.out b o e
                    rw [HBM.out]; omega
                  · rw [World.size_setCell]; have := HPB.out b o e; omega
                | true =>
                  have NEXT : SrvSt w bm br b6 n cc H A xs d i (k + 1) (wc.setCell ⟨b6, 0, none⟩ (.slice P' H pc')) := by
                    have hb6' : ∀ b o, P' = some ⟨b, o, none⟩ → b6 < b ∧ b < wc.heap.size := by
                      intro b o e
                      refine ⟨?_, ?_⟩
                      · rcases NW.out b o e with h | h
                        · exact (HPB.out b o (by rw [← h]; exact e)).1
                        · omega
                      · have hH0 : 0 < H ∨ H = 0 := by omega
                        rcases hH0 with h0 | h0
                        · obtain ⟨b', o', x', e', hl, -⟩ := IW.out.at h0
                          rw [e] at e'; cases e'; exact hl
                        · exfalso
                          have h1 := HTW.out (by trivial) i
                          rw [if_pos rfl] at h1
                          have h2 := List.count_le_length (a := (i : Int)) (l := wh')
                          rw [AW.out.len] at h2
                          omega
                    refine ⟨P', pc', wh', GW.out.setCell (p := ⟨b6, 0, none⟩) (by rw [HBM.out]; dsimp only; omega) _, E1.out.far (by simp; omega) _, E2.out.far (by simp; omega) _, E3.out.set_ 0 _, ?_, fun b o e => by rw [World.size_setCell]; exact hb6' b o e, AW.out, fun j hj => ?_⟩
                    · exact Arr.fix IW.out ((Fix.refl b6 b6 wc).setCell (p := ⟨b6, 0, none⟩) (.inl rfl) _) (fun b o e _ => by have := hb6' b o e; omega)
                    · rw [HTW.out (by trivial) j, HCNT.out j hj, cnt_succ]
                  have HN := Lib.hid NEXT
                  clear NEXT
                  go_wp2_with fail
                  go_roundw
                  case rel => exact ⟨k + 1, by go_num, by omega, HN.out⟩
                  case measure => simp [intOf]; omega
            · obtain rfl : q.toNat = k := by omega
              have NEXT : SrvSt w bm br b6 n cc H A xs d (i + 1) 0 wr := ⟨P, pc, wh, hg, c1, c2, c3, hp, hpb, hasg, fun j hj => by rw [← cnt_end, HQ.out]; exact hcnt j hj⟩
              have HN := Lib.hid NEXT
              clear NEXT hg c1 c2 c3 hp hpb hasg hcnt
              go_wp2_with fail
              go_roundw
              case rel => exact ⟨i + 1, by go_num, by omega, HN.out⟩
              case measure => simp [intOf]; omega
        · obtain rfl : n = i := by omega
          obtain ⟨P, pc, wh, hg, c1, c2, c3, hp, hpb, hasg, hcnt⟩ := HS.out
          have hfea : fea xs H (-1) d = true := by
            refine (fea_iff (hdl.out.trans hlen.out.symm)).2 ⟨wh, ?_, fun j hj => ?_⟩
            · rw [hlen.out]
              exact hasg.adj_mono fun i k _ hk _ h => by rw [← adj_ones i k hk]; exact h
            · have := hcnt j (by rw [← hlen.out]; exact hj)
              unfold cnt at this
              rw [if_pos (by rw [← hlen.out]; exact hj)] at this
              dsimp only
              omega
          have p0 := c3.cell 0
          have r0 := c2.cell 0
          have r1 := c2.frozen 0
          have HG := Lib.hid hg
          have C2 := Lib.hid c2
          have HP := Lib.hid hp
          have HPB := Lib.hid hpb
          have HASG := Lib.hid hasg
          have HCNT := Lib.hid hcnt
          have HFEA := Lib.hid hfea
          clear hg c1 c2 c3 hp hpb hasg hcnt hfea
          go_wp2_with fail
          have b9 := (C2.out.set_ 0 (.slice P H pc)).cell 0
          refine bodyPost_ret (v := .tuple #[.agg #[.slice P H pc], .bool true]) ?_ rfl ⟨HG.out.setCell (p := ⟨br, 0, none⟩) (by rw [HBM.out]; dsimp only; omega) _, P, pc, wh, by rw [HFEA.out], ?_, fun b o e => ⟨?_, ?_⟩, HASG.out, fun _ j hj => ?_⟩
          · simp [results, Try.results75, go_sem, b9]
          · exact Arr.fix HP.out ((Fix.refl br br wr).setCell (p := ⟨br, 0, none⟩) (.inl rfl) _) (fun b o e _ => by have := HPB.out b o e; omega)
          · have := HPB.out b o e
            rw [HBM.out]; omega
          · rw [World.size_setCell]; exact (HPB.out b o e).2
          · rw [HCNT.out j hj]; unfold cnt; rw [if_pos hj]
end Go.Proofs.Ytdhhneflhmkonaa
