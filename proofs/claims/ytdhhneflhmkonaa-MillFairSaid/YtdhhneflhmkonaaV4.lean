/- The reference's search: give (func 101). -/
import Derived.Test.YtdhhneflhmkonaaV3
import Derived.Test.YtdhhneflhmkonaaN2
import Derived.Deep.DeepCutAuto
namespace Go.Proofs.Ytdhhneflhmkonaa
open Go.RowKit Go.Shelf

/-- What give hands back. -/
def GivePost (bt n H : Nat) (xs : List Comer) (P : Option Addr) (c s : Nat) (wh : List Int) (W : World) (e : Ending) (W' : World) : Prop :=
  Fix bt bt W W' ∧ ∃ (P' : Option Addr) (pc' : Nat) (ok : Bool) (s' : Nat) (wh' : List Int), e = .returned (.tuple #[.agg #[.slice P' H pc'], .bool ok]) ∧ Ints W' P' H wh' ∧ (∀ b o, P' = some ⟨b, o, none⟩ → b ≠ bt ∧ (P' = P ∨ W.heap.size ≤ b)) ∧
    Blk W' bt 4 (bits24 s') ∧ s' < 2 ^ H ∧ Sub s s' ∧ (ok = true → StepT n H (adj xs (2 ^ H - 1)) c s wh wh') ∧ (ok = false → wh' = wh ∧ RefF n H (adj xs (2 ^ H - 1)) c s wh s')

theorem adj_all {xs : List Comer} {H c h : Nat} (hh : h < H) : adj xs (2 ^ H - 1) c h = (hrs xs c).testBit h := by
  unfold adj
  rw [Nat.testBit_and, ones_bit]
  simp [hh]

/-- What the search of the one who had the hour leaves. -/
def GiveEnd (bt n H : Nat) (xs : List Comer) (P : Option Addr) (c s : Nat) (wh : List Int) (V : World) (s12 s13 : Value) (wx : World) : Prop :=
  ∃ (b : Nat) (P' : Option Addr) (pc' : Nat) (ok : Bool) (s' : Nat) (wh' : List Int), s12 = .pointer (some ⟨b, 0, none⟩) ∧ s13 = .bool ok ∧ V.heap.size ≤ b ∧ Fix bt bt V wx ∧ Blk wx b 90 #[.slice P' H pc'] ∧
    Ints wx P' H wh' ∧ (∀ b o, P' = some ⟨b, o, none⟩ → b ≠ bt ∧ (P' = P ∨ V.heap.size ≤ b)) ∧ Blk wx bt 4 (bits24 s') ∧ s' < 2 ^ H ∧ Sub s s' ∧ (ok = true → StepT n H (adj xs (2 ^ H - 1)) c s wh wh') ∧ (ok = false → wh' = wh ∧ RefF n H (adj xs (2 ^ H - 1)) c s wh s')
theorem GiveEnd.mkA {bt n H : Nat} {xs : List Comer} {c s : Nat} {wh : List Int} {V wa : World} {P P' : Option Addr} {pc' : Nat} {ok : Bool} {s' : Nat} {wh' : List Int} (hbv : bt ≠ V.heap.size)
    (f0 : Fix bt bt V (V.alloc (.cells #[.slice none 0 0] 90)).drew) (fa : Fix bt bt (V.alloc (.cells #[.slice none 0 0] 90)).drew wa) (nb : Blk (V.alloc (.cells #[.slice none 0 0] 90)).drew V.heap.size 90 #[.slice none 0 0])
    (ia : Ints wa P' H wh') (na : ∀ b o, P' = some ⟨b, o, none⟩ → b ≠ bt ∧ (P' = P ∨ (V.alloc (.cells #[.slice none 0 0] 90)).drew.heap.size ≤ b)) (ba : Blk wa bt 4 (bits24 s')) (lt : s' < 2 ^ H) (sub : Sub s s') (ht : ok = true → StepT n H (adj xs (2 ^ H - 1)) c s wh wh') (hf : ok = false → wh' = wh ∧ RefF n H (adj xs (2 ^ H - 1)) c s wh s')
    (hP : ∀ b o, P = some ⟨b, o, none⟩ → b < V.heap.size) :
    GiveEnd bt n H xs P c s wh V (.pointer (some ⟨V.heap.size, 0, none⟩)) (.bool ok) (wa.setCell ⟨V.heap.size, 0, none⟩ (.slice P' H pc')) := by
  have nb' := fa.blk nb (Ne.symm hbv) (Ne.symm hbv)
  have hz : (V.alloc (.cells #[.slice none 0 0] 90)).drew.heap.size = V.heap.size + 1 := World.size_alloc _ _
  have hP' : ∀ b o, P' = some ⟨b, o, none⟩ → b ≠ V.heap.size ∧ (P' = P ∨ V.heap.size ≤ b) := by
    intro b o e
    rcases (na b o e).2 with h | h
    · have := hP b o (by rw [← h]; exact e)
      exact ⟨by omega, .inl h⟩
    · exact ⟨by omega, .inr (by omega)⟩
  have fs : Fix V.heap.size V.heap.size wa (wa.setCell ⟨V.heap.size, 0, none⟩ (.slice P' H pc')) := (Fix.refl _ _ wa).setCell (p := ⟨V.heap.size, 0, none⟩) (.inl rfl) _
  exact ⟨_, P', pc', ok, s', wh', rfl, rfl, Nat.le_refl _, (f0.trans fa).setCell (p := ⟨V.heap.size, 0, none⟩) (.inr (.inr (Nat.le_refl _))) _, nb'.set_ 0 _, Arr.fix ia fs (fun b o e _ => ⟨(hP' b o e).1, (hP' b o e).1⟩), fun b o e => ⟨(na b o e).1, (hP' b o e).2⟩, ba.far (by simpa using hbv) _, lt, sub, ht, hf⟩
theorem GiveEnd.mkB {bt n H : Nat} {xs : List Comer} {c s : Nat} {wh : List Int} {V wa : World} {P P' : Option Addr} {pc' : Nat} {ok : Bool} {s' : Nat} {wh' : List Int}
    (f0 : Fix bt bt V V.drew) (fa : Fix bt bt V.drew wa)
    (ia : Ints wa P' H wh') (na : ∀ b o, P' = some ⟨b, o, none⟩ → b ≠ bt ∧ (P' = P ∨ V.drew.heap.size ≤ b)) (ba : Blk wa bt 4 (bits24 s')) (lt : s' < 2 ^ H) (sub : Sub s s') (ht : ok = true → StepT n H (adj xs (2 ^ H - 1)) c s wh wh') (hf : ok = false → wh' = wh ∧ RefF n H (adj xs (2 ^ H - 1)) c s wh s') :
    GiveEnd bt n H xs P c s wh V (.pointer (some ⟨wa.heap.size, 0, none⟩)) (.bool ok) (wa.alloc (.cells #[.slice P' H pc'] 90)) := by
  have g := one_more wa (.cells #[.slice P' H pc'] 90)
  exact ⟨_, P', pc', ok, s', wh', rfl, rfl, (f0.trans fa).size, (f0.trans fa).trans (Fix.of_below g), Blk.new _ _ _, ia.below g, na, ba.ext g, lt, sub, ht, hf⟩

set_option maxRecDepth 100000 in
set_option maxHeartbeats 8000000 in
theorem giveRef_any (bt n cc H : Nat) (A : Option Addr) (xs : List Comer) (hH : H ≤ 24) (hA : ∀ b o, A = some ⟨b, o, none⟩ → b ≠ bt) (hhr : ∀ (i : Nat) x, xs[i]? = some x → 0 ≤ x.hours ∧ x.hours < 16777216) :
    ∀ (N : Nat) (W : World) (c s : Nat) (wh : List Int) (P : Option Addr) (pc : Nat), unseen H s ≤ N → Arr ccells 3 W A n xs → Ints W P H wh → (∀ b o, P = some ⟨b, o, none⟩ → b ≠ bt) → Blk W bt 4 (bits24 s) →
      Asg n H (adj xs (2 ^ H - 1)) wh → s < 2 ^ H → c < n →
      Calls Try.prog 101 #[mv A n cc H, .agg #[.slice P H pc], .int .i64 c, .slice (some ⟨bt, 0, none⟩) 24 24] W (GivePost bt n H xs P c s wh W) := by
  intro N
  induction N using Nat.strongRecOn with
  | _ N ih =>
  intro W c s wh P pc hN ha hp hpb hbt hasg hs hc
  have IH := Lib.hid ih
  have HA := Lib.hid ha
  have HP := Lib.hid hp
  have HPB := Lib.hid hpb
  have HBT := Lib.hid hbt
  have HAS := Lib.hid hasg
  have HS := Lib.hid hs
  have hlen := Lib.hid ha.1
  have hlt := hbt.lt
  clear ih ha hp hpb hbt hasg hs
  unfold mv
  go_enter Try.func101, Try.ntmps101
  go_wp2_with fail
  generalize hW1 : W.alloc (.cells #[.int .i64 H, .slice A n cc] 24) = W1
  have b1 : Blk W1 W.heap.size 24 #[.int .i64 H, .slice A n cc] := by rw [← hW1]; exact Blk.new _ _ _
  have g1 : Below W.heap.size W W1 := by rw [← hW1]; exact one_more _ _
  have s1 := boxSize hW1
  generalize hW2 : W1.alloc (.cells #[.slice P H pc] 90) = W2
  have b2 : Blk W2 W1.heap.size 90 #[.slice P H pc] := by rw [← hW2]; exact Blk.new _ _ _
  have g2 : Below W1.heap.size W1 W2 := by rw [← hW2]; exact one_more _ _
  have s2 := boxSize hW2
  generalize hW3 : W2.alloc (.cells #[.slice none 0 0] 90) = W3
  have b3 : Blk W3 W2.heap.size 90 #[.slice none 0 0] := by rw [← hW3]; exact Blk.new _ _ _
  have g3 : Below W2.heap.size W2 W3 := by rw [← hW3]; exact one_more _ _
  have s3 := boxSize hW3
  have G3 := Lib.hid (extTrans (extTrans g1 g2) g3)
  have B1 := Lib.hid ((b1.ext g2).ext g3)
  have B2 := Lib.hid (b2.ext g3)
  have B3 := Lib.hid b3
  have F3 := Lib.hid (Fix.of_below (bw := bt) (bs := bt) G3.out)
  rw [← s1, ← s2]
  obtain ⟨bm, hbm⟩ : ∃ bm, W.heap.size = bm := ⟨_, rfl⟩
  obtain ⟨bp, hbp⟩ : ∃ bp, W1.heap.size = bp := ⟨_, rfl⟩
  obtain ⟨br, hbr⟩ : ∃ br, W2.heap.size = br := ⟨_, rfl⟩
  rw [hbm] at B1 hlt
  rw [hbp] at B2
  rw [hbr] at B3
  rw [hbm, hbp, hbr]
  have hs : bt < bm ∧ bm < bp ∧ bp < br := by omega
  have HBM := Lib.hid hbm
  clear hW1 hW2 hW3 b1 b2 b3 g1 g2 g3 s1 s2 s3 hbm hbp hbr
  obtain ⟨z1, z2, z3⟩ := hs
  go_loopw [10] (fun i wr => ∃ k s1 : Nat, i = .int .i64 k ∧ k ≤ H ∧ Fix bt bt W3 wr ∧ Blk wr bt 4 (bits24 s1) ∧ RefI n H (adj xs (2 ^ H - 1)) c s wh k s1) (fun i _ => H - (intOf i).toNat)
  case atStart => exact ⟨0, s, rfl, Nat.zero_le _, Fix.refl _ _ _, HBT.out.ext G3.out, RefI.start HS.out⟩
  case round =>
    obtain ⟨k, s1, rfl, hk, hf, hbt, hri⟩ := hrel
    have HF := Lib.hid hf
    have HBTr := Lib.hid hbt
    have HRI := Lib.hid hri
    have R1 := Lib.hid (hf.blk B1.out (by omega) (by omega))
    have R2 := Lib.hid (hf.blk B2.out (by omega) (by omega))
    have R3 := Lib.hid (hf.blk B3.out (by omega) (by omega))
    have HAr := Lib.hid ((HA.out.below G3.out).fix hf (fun b o e _ => ⟨hA b o e, hA b o e⟩))
    have HPr := Lib.hid (Arr.fix (HP.out.below G3.out) hf (fun b o e _ => ⟨HPB.out b o e, HPB.out b o e⟩))
    have m0 := R1.out.cell 0
    have m1 := R1.out.cell 1
    have p0 := R2.out.cell 0
    have q0 := R3.out.cell 0
    have f0 := R3.out.frozen 0
    clear hf hbt hri
    by_cases hkH : k < H
    · obtain ⟨x, hx⟩ : ∃ x, xs[c]? = some x := ⟨_, List.getElem?_eq_getElem (show c < xs.length by rw [hlen.out]; exact hc)⟩
      have hxh := hhr c x hx
      have hadj : adj xs (2 ^ H - 1) c k = x.hours.toNat.testBit k := by
        rw [adj_all hkH]; unfold hrs; rw [List.getD_eq_getElem?_getD, hx]; rfl
      have c1 := comesRef_any A n cc c k H xs x wr HAr.out hc hx (by omega) hxh
      obtain ⟨pb, po, rfl, hpl, hpm, hpc⟩ := ints_at HPr.out hkH
      obtain ⟨y, hy⟩ : ∃ y, wh.getD k 0 = y := ⟨_, rfl⟩
      rw [hy] at hpm hpc
      have HPM := Lib.hid hpm
      have HPC := Lib.hid hpc
      have hpne : pb ≠ bt := HPB.out pb po rfl
      have tr := HBTr.out.cell k
      rw [bits24_get _ _ (by omega)] at tr
      obtain ⟨ab, hab⟩ : ∃ ab, x.hours.toNat.testBit k = ab := ⟨_, rfl⟩
      obtain ⟨tb, htb⟩ : ∃ tb, s1.testBit k = tb := ⟨_, rfl⟩
      rw [hab] at c1 hadj
      rw [htb] at tr
      have HTB := Lib.hid htb
      have HY := Lib.hid hy
      have HADJ := Lib.hid hadj
      have C1 := Lib.hid c1
      clear hpm hpc hx hxh hab htb hy hadj c1
      unfold mv at C1
      cases ab with
      | false =>
        go_wp2_with (go_at_call 74; (with_reducible refine C1.out.mono ?_); rintro e w1 ⟨rfl, g1⟩; have G1 := Lib.hid g1; clear g1)
        go_roundw
        case rel => exact ⟨k + 1, s1, by go_num, by omega, HF.out.trans (Fix.of_below G1.out), HBTr.out.ext G1.out, HRI.out.skip (fun e => by rw [HADJ.out] at e; cases e)⟩
        case measure => simp [intOf]; omega
      | true =>
        cases tb with
        | true =>
          go_wp2_with (go_at_call 74; (with_reducible refine C1.out.mono ?_); rintro e w1 ⟨rfl, g1⟩; have G1 := Lib.hid g1; have t1 := (HBTr.out.ext g1).cell k; rw [bits24_get _ _ (by omega), HTB.out] at t1; clear g1)
          go_roundw
          case rel => exact ⟨k + 1, s1, by go_num, by omega, HF.out.trans (Fix.of_below G1.out), HBTr.out.ext G1.out, HRI.out.skip (fun _ => .inl HTB.out)⟩
          case measure => simp [intOf]; omega
        | false =>
          by_cases hyc : y = (c : Int)
          · subst hyc
            go_wp2_with (go_at_call 74; (with_reducible refine C1.out.mono ?_); rintro e w1 ⟨rfl, g1⟩; have G1 := Lib.hid g1; have t1 := (HBTr.out.ext g1).cell k; rw [bits24_get _ _ (by omega), HTB.out] at t1; have q1 := (R2.out.ext g1).cell 0; have y1 := HPC.out _ g1; clear g1)
            go_roundw
            case rel => exact ⟨k + 1, s1, by go_num, by omega, HF.out.trans (Fix.of_below G1.out), HBTr.out.ext G1.out, HRI.out.skip (fun _ => .inr HPM.out)⟩
            case measure => simp [intOf]; omega
          · have hyb : (y == (c : Int)) = false := beq_eq_false_iff_ne.2 hyc
            have HYC := Lib.hid hyc
            clear hyc
            have hyv : y = -1 ∨ ∃ i : Nat, y = i ∧ i < n := HAS.out.weak k y HPM.out
            have PRE : ∀ w1 : World, Below wr.heap.size wr w1 → ∃ V, w1.setCell ⟨bt, k, none⟩ (.bool true) = V ∧ V.heap.size = w1.heap.size ∧ (Fix bt bt W V ∧ Fix bt bt W3 V) ∧ Blk V bt 4 (bits24 (s1 ||| 2 ^ k)) ∧ Blk V bm 24 #[.int .i64 H, .slice A n cc] ∧ Blk V bp 90 #[.slice (some ⟨pb, po, none⟩) H pc] ∧ Blk V br 90 #[.slice none 0 0] ∧ Arr ccells 3 V A n xs ∧ Ints V (some ⟨pb, po, none⟩) H wh := by
              intro w1 g
              have f1 : Fix bt bt wr (w1.setCell ⟨bt, k, none⟩ (.bool true)) := (Fix.of_below g).setCell (p := ⟨bt, k, none⟩) (.inl rfl) _
              have b1 := (HBTr.out.ext g).set_ k (.bool true)
              rw [bits24_set] at b1
              exact ⟨_, rfl, World.size_setCell _ _ _, ⟨(F3.out.trans HF.out).trans f1, HF.out.trans f1⟩, b1, f1.blk R1.out (by omega) (by omega), f1.blk R2.out (by omega) (by omega), f1.blk R3.out (by omega) (by omega), HAr.out.fix f1 (fun b o e _ => ⟨hA b o e, hA b o e⟩), Arr.fix HPr.out f1 (fun b o e _ => ⟨HPB.out b o e, HPB.out b o e⟩)⟩
            have HPRE := Lib.hid PRE
            have hbrr := Lib.hid R3.out.lt
            clear PRE m0 m1 q0 f0 p0
            have m0 := R1.out.cell 0
            have m1 := R1.out.cell 1
            go_upto_region 6 with (first | (go_at_call 74; (with_reducible refine C1.out.mono ?_); rintro e w1 ⟨rfl, g1⟩; have G1 := Lib.hid g1; have t1 := (HBTr.out.ext g1).cell k; rw [bits24_get _ _ (by omega), HTB.out] at t1; have t2 := (HBTr.out.ext g1).frozen k; have q1 := (R2.out.ext g1).cell 0; have y1 := HPC.out _ g1; clear g1))
            obtain ⟨V, hV, hsz, ⟨fV, fV3⟩, btV, bmV, bpV, brV, aV, iV⟩ := HPRE.out w1 G1.out
            rw [hV]
            have HVlt := Lib.hid brV.lt
            have HSZ := Lib.hid (show W.heap.size ≤ V.heap.size from fV.size)
            have FV := Lib.hid fV
            have FV3 := Lib.hid fV3
            have BTV := Lib.hid btV
            have BMV := Lib.hid bmV
            have BPV := Lib.hid bpV
            have BRV := Lib.hid brV
            have AV := Lib.hid aV
            have IV := Lib.hid iV
            clear hV hsz fV fV3 btV bmV bpV brV aV iV t1 t2 q1 y1 HPRE hbrr R1 R2 R3 HAr HPr HBTr C1
            have g5 : Below V.heap.size V (V.alloc (.cells #[] 3)) := one_more _ _
            have q5 : (V.alloc (.cells #[] 3)).cell? ⟨bp, 0, none⟩ = some (.slice (some ⟨pb, po, none⟩) H pc) := (BPV.out.ext g5).cell 0
            have I5 := Lib.hid (IV.out.below g5)
            have O5 := Lib.hid (show OwnL icells 1 3 (V.alloc (.cells #[] 3)) V.heap.size (.slice (some ⟨V.heap.size, 0, none⟩) 0 0) [] from World.ownsRow_made (e := 3) (size := 1) V #[] 0 (Nat.le_refl _) (by decide) rfl)
            have G5 := Lib.hid g5
            have s5 := Lib.hid g5.size
            clear g5
            have hl1 : ([] : List Int).length + H ≤ 1000000 := by simp; omega
            have HWL := Lib.hid HAS.out.len
            have POST : ∀ (v6 : Value) (w6 : World), OwnL icells 1 3 w6 V.heap.size v6 ([] ++ wh) → (V.alloc (.cells #[] 3)).grownBy w6 (Value.slice (some ⟨V.heap.size, 0, none⟩) 0 0).ownBlock →
                ∃ g c6, v6 = .slice (some ⟨g, 0, none⟩) H c6 ∧ V.heap.size ≤ g ∧ g < w6.heap.size ∧ H ≤ c6 ∧ Below V.heap.size V w6 ∧ Own w6 V.heap.size (.slice (some ⟨g, 0, none⟩) H c6) wh := by
              intro v6 w6 ho hg
              rw [List.nil_append] at ho
              obtain ⟨g, c6, e, h1, h2, h3⟩ := ho.ints.get (by rw [HWL.out]; omega)
              rw [HWL.out] at e h3
              refine ⟨g, c6, e, h1, h2, h3, G5.out.trans (O5.out.below hg (Nat.le_refl _) s5.out), ?_⟩
              rw [← e]; exact ho.ints
            have HPOST := Lib.hid POST
            clear POST
            go_upto_region 7 with (first
              | (at_builtin; refine wpList_app kdInt rfl _ _ rfl V.heap.size (.slice (some ⟨V.heap.size, 0, none⟩) 0 0) [] rfl O5.out (some ⟨pb, po, none⟩) H pc wh rfl I5.out hl1 s5.out ?_; intro v6 w6 ho6 hg6 hat6; obtain ⟨g, c6, rfl, z4, z5, hc6, g6, o6⟩ := HPOST.out v6 w6 ho6 hg6; have G6 := Lib.hid g6; have O6 := Lib.hid o6; clear ho6 hg6 hat6 g6 o6))
            have KEY : ∃ w7, w6.alloc (.cells #[.slice (some ⟨g, 0, none⟩) H c6] 90) = w7 ∧ w7.cell? ⟨w6.heap.size, 0, none⟩ = some (.slice (some ⟨g, 0, none⟩) H c6) ∧ w7.cell? ⟨g, k, none⟩ = some (.int .i64 (wh.getD k 0)) ∧ w7.frozen? ⟨g, k, none⟩ = false ∧ ∃ V8, w7.setCell ⟨g, k, none⟩ (.int .i64 c) = V8 ∧
                (Fix bt bt W V8 ∧ Fix bt bt W3 V8) ∧ Blk V8 bt 4 (bits24 (s1 ||| 2 ^ k)) ∧ Blk V8 bm 24 #[.int .i64 H, .slice A n cc] ∧ Blk V8 bp 90 #[.slice (some ⟨pb, po, none⟩) H pc] ∧ Blk V8 br 90 #[.slice none 0 0] ∧ Blk V8 w6.heap.size 90 #[.slice (some ⟨g, 0, none⟩) H c6] ∧ Arr ccells 3 V8 A n xs ∧ Ints V8 (some ⟨pb, po, none⟩) H wh ∧ Ints V8 (some ⟨g, 0, none⟩) H (wh.set k (c : Int)) := by
              have g7 : Below w6.heap.size w6 (w6.alloc (.cells #[.slice (some ⟨g, 0, none⟩) H c6] 90)) := one_more _ _
              have bl7 : Below V.heap.size V (w6.alloc (.cells #[.slice (some ⟨g, 0, none⟩) H c6] 90)) := G6.out.trans (g7.mono G6.out.size)
              have o7 := O6.out.ext g7
              have hlw := HWL.out
              have o8 : Own (w6.alloc (.cells #[.slice (some ⟨g, 0, none⟩) H c6] 90)) V.heap.size (.slice (some ⟨g, 0, none⟩) wh.length c6) wh := by rw [hlw]; exact o7
              obtain ⟨o9, f9⟩ := o8.set k (by omega) (c : Int)
              have bl8 : Below V.heap.size V ((w6.alloc (.cells #[.slice (some ⟨g, 0, none⟩) H c6] 90)).setCell ⟨g, k, none⟩ (.int .i64 c)) := bl7.setCell (p := ⟨g, k, none⟩) z4 _
              have f8 : Fix bt bt V ((w6.alloc (.cells #[.slice (some ⟨g, 0, none⟩) H c6] 90)).setCell ⟨g, k, none⟩ (.int .i64 c)) := Fix.of_below bl8
              have bn := Blk.new w6 90 #[.slice (some ⟨g, 0, none⟩) H c6]
              obtain ⟨b', o', e', -, -, hcell⟩ := ints_at (A := some ⟨g, 0, none⟩) (n := H) (xs := wh) (by
                obtain ⟨A', c', e', hi⟩ := o7.ints
                rw [hlw] at e' hi
                cases e'
                exact hi) hkH
              cases e'
              refine ⟨_, rfl, bn.cell 0, by simpa using hcell _ (Below.refl _ _), f9, _, rfl, ⟨FV.out.trans f8, FV3.out.trans f8⟩, BTV.out.ext bl8, BMV.out.ext bl8, BPV.out.ext bl8, BRV.out.ext bl8, bn.far (by simp; omega) _, AV.out.below bl8, IV.out.below bl8, ?_⟩
              obtain ⟨A', c', e', hi⟩ := o9.ints
              rw [List.length_set, hlw] at hi
              rw [hlw, List.length_set, hlw] at e'
              cases e'
              exact hi
            obtain ⟨w7, hw7, n7, c7, f7, V8, hV8, ⟨fV, fV3⟩, btV, bmV, bpV, brV, bnV, aV, iV, jV⟩ := KEY
            rw [hw7]
            have hbn : w6.heap.size < V8.heap.size := bnV.lt
            obtain ⟨bn, hbne⟩ : ∃ bn, w6.heap.size = bn := ⟨_, rfl⟩
            have q8 := bpV.cell 0
            have y8 : V8.cell? ⟨pb, po + k, none⟩ = some (.int .i64 y) := by
              obtain ⟨b', o', e', -, -, hcell⟩ := ints_at iV hkH
              cases e'
              exact (hcell _ (Below.refl _ _)).trans (by rw [HY.out])
            rw [← hV8] at q8 y8
            have FV8 := Lib.hid fV
            have FV38 := Lib.hid fV3
            have BTV8 := Lib.hid btV
            have HV8 := Lib.hid hV8
            have AV8 := Lib.hid aV
            have IV8 := Lib.hid iV
            have JV8 := Lib.hid jV
            have z6 : br < V.heap.size := HVlt.out
            have z7 := Lib.hid (show g ≠ bt by have := HVlt.out; omega)
            rw [hbne] at n7 bnV hbn z5 ⊢
            have z8 : V.heap.size ≤ bn := by rw [← hbne]; exact G6.out.size
            have m8 := bmV.cell 0
            have m8' := bmV.cell 1
            have r8 := brV.cell 0
            have r8f := brV.frozen 0
            have n8 := bnV.cell 0
            have BRV8 := Lib.hid brV
            rw [← hV8] at m8 m8' r8 r8f n8
            clear hw7 hV8 fV fV3 btV aV iV jV bmV bpV brV bnV G6 O6 hbne AV IV BMV BPV BRV FV BTV HPOST O5 G5 I5 q5
            have HSUB := Lib.hid (show Sub s (s1 ||| 2 ^ k) from HRI.out.sub.trans (Sub.or _ _))
            have HLT2 := Lib.hid (show s1 ||| 2 ^ k < 2 ^ H from put_lt HRI.out.lt hkH)
            rcases hyv with rfl | ⟨i, rfl, hin⟩
            · go_wp2_with fail
              rw [HV8.out]
              have F9 := FV8.out.setCell (p := ⟨br, 0, none⟩) (.inr (.inr (by rw [HBM.out]; dsimp only; omega))) (.slice (some ⟨g, 0, none⟩) H c6)
              have b9 := (BRV8.out.set_ 0 (.slice (some ⟨g, 0, none⟩) H c6)).cell 0
              refine bodyPost_ret (v := .tuple #[.agg #[.slice (some ⟨g, 0, none⟩) H c6], .bool true]) ?_ rfl ⟨F9, some ⟨g, 0, none⟩, c6, true, s1 ||| 2 ^ k, wh.set k (c : Int), rfl, ?_, ?_, ?_, HLT2.out, HSUB.out, fun _ => StepT.free HRI.out.sub HTB.out HPM.out hc HADJ.out, fun h => by cases h⟩
              · simp [results, Try.results101, go_sem, b9]
              · exact Arr.fix JV8.out ((Fix.refl br br V8).setCell (p := ⟨br, 0, none⟩) (.inl rfl) _) (fun b o e _ => by cases e; omega)
              · intro b o e; cases e; exact ⟨z7.out, .inr (by have := HSZ.out; omega)⟩
              · exact BTV8.out.far (by simp; omega) _
            · have hneg : decide ((i : Int) < 0) = false := by simp
              go_upto_region 10 with fail
              rw [HV8.out] at m8 m8' n8 q8 y8 r8 r8f ⊢
              have IHC : ∀ Wx, Fix bt bt V8 Wx → Blk Wx bt 4 (bits24 (s1 ||| 2 ^ k)) → Calls Try.prog 101 #[.agg #[.int .i64 H, .slice A n cc], .agg #[.slice (some ⟨g, 0, none⟩) H c6], .int .i64 i, .slice (some ⟨bt, 0, none⟩) 24 24] Wx (GivePost bt n H xs (some ⟨g, 0, none⟩) i (s1 ||| 2 ^ k) (wh.set k (c : Int)) Wx) := by
                intro Wx f hb
                refine IH.out (unseen H (s1 ||| 2 ^ k)) (Nat.lt_of_lt_of_le (unseen_lt HSUB.out hkH ?_ put_bit) hN) Wx i _ _ _ _ (Nat.le_refl _) (AV8.out.fix f (fun b o e _ => ⟨hA b o e, hA b o e⟩)) (Arr.fix JV8.out f (fun b o e _ => by cases e; exact ⟨z7.out, z7.out⟩)) (fun b o e => by cases e; exact z7.out) hb (HAS.out.put (.inr ⟨c, rfl, hc, HADJ.out⟩)) HLT2.out hin
                cases hq : s.testBit k with
                | false => rfl
                | true => have := HRI.out.sub k hq; rw [HTB.out] at this; cases this
              have HIC := Lib.hid IHC
              have hv8 : bn < V8.heap.size := hbn
              clear IHC hbn HV8
              have fa : Fix bt bt V8 (V8.alloc (.cells #[.slice none 0 0] 90)).drew := Fix.of_below (one_more _ _).drew
              have fb : Fix bt bt V8 V8.drew := Fix.of_below (Below.refl _ _).drew
              have FA := Lib.hid fa
              have FB := Lib.hid fb
              have BA := Lib.hid (show Blk (V8.alloc (.cells #[.slice none 0 0] 90)).drew bt 4 (bits24 (s1 ||| 2 ^ k)) from BTV8.out.alloc _)
              have BB := Lib.hid (show Blk V8.drew bt 4 (bits24 (s1 ||| 2 ^ k)) from BTV8.out)
              have NA := Lib.hid (show Blk (V8.alloc (.cells #[.slice none 0 0] 90)).drew V8.heap.size 90 #[.slice none 0 0] from Blk.new _ _ _)
              have hbv : bt ≠ V8.heap.size := by omega
              have HPG := Lib.hid (show ∀ b o, some (⟨g, 0, none⟩ : Addr) = some ⟨b, o, none⟩ → b < V8.heap.size from fun b o e => by cases e; omega)
              clear fa fb
              go_cut [12, 13] from 60 to 71 (GiveEnd bt n H xs (some ⟨g, 0, none⟩) i (s1 ||| 2 ^ k) (wh.set k (c : Int)) V8)
              case first =>
                have CA := Lib.hid (HIC.out _ FA.out BA.out)
                have CB := Lib.hid (HIC.out _ FB.out BB.out)
                have K0 : ∀ Wx, Fix bt bt V8 Wx → (Wx.cell? ⟨bm, 0, none⟩ = some (.int .i64 H) ∧ Wx.cell? ⟨bm, 1, none⟩ = some (.slice A n cc) ∧ Wx.cell? ⟨bn, 0, none⟩ = some (.slice (some ⟨g, 0, none⟩) H c6) ∧ Wx.cell? ⟨bp, 0, none⟩ = some (.slice (some ⟨pb, po, none⟩) H pc) ∧ Wx.cell? ⟨pb, po + k, none⟩ = some (.int .i64 i)) :=
                  fun Wx f => ⟨f.cell m8 (by omega) (by omega), f.cell m8' (by omega) (by omega), f.cell n8 (by omega) (by omega), f.cell q8 (by omega) (by omega), f.cell y8 hpne hpne⟩
                have HK0 := Lib.hid K0
                have HKA := Lib.hid (K0 _ FA.out)
                have HKB := Lib.hid (K0 _ FB.out)
                clear K0
                go_region_held3 (fun w' => w'.cell? ⟨bm, 0, none⟩ = some (.int .i64 H) ∧ w'.cell? ⟨bm, 1, none⟩ = some (.slice A n cc) ∧ w'.cell? ⟨bn, 0, none⟩ = some (.slice (some ⟨g, 0, none⟩) H c6) ∧ w'.cell? ⟨bp, 0, none⟩ = some (.slice (some ⟨pb, po, none⟩) H pc) ∧ w'.cell? ⟨pb, po + k, none⟩ = some (.int .i64 i))
                  (first
                    | exact HKB.out
                    | exact HKA.out
                    | exact KW.out
                    | exact KX.out
                    | exact KY.out
                    | go_keep)
                  (first
                  | (go_at_call 101; (with_reducible refine CA.out.mono ?_); rintro e wa ⟨fa, P', pc', ok, s', wh', rfl, ia, na, ba, lt, sub, ht, hf⟩; have n9 := (fa.blk NA.out (Ne.symm hbv) (Ne.symm hbv)).cell 0; have n9f := (fa.blk NA.out (Ne.symm hbv) (Ne.symm hbv)).frozen 0; have KW := Lib.hid (HK0.out _ (FA.out.trans fa)); have KX := Lib.hid (HK0.out _ ((FA.out.trans fa).setCell (p := ⟨V8.heap.size, 0, none⟩) (.inr (.inr (Nat.le_refl _))) (.slice P' H pc'))); have EA := Lib.hid (GiveEnd.mkA (pc' := pc') hbv FA.out fa NA.out ia na ba lt sub ht hf HPG.out); clear fa ia na ba lt sub ht hf)
                  | (go_at_call 101; (with_reducible refine CB.out.mono ?_); rintro e wa ⟨fa, P', pc', ok, s', wh', rfl, ia, na, ba, lt, sub, ht, hf⟩; have KW := Lib.hid (HK0.out _ (FB.out.trans fa)); have KX := Lib.hid (HK0.out _ ((FB.out.trans fa).trans (Fix.of_below (one_more wa (.cells #[.slice P' H pc'] 90))))); have KY := Lib.hid (HK0.out _ ((FB.out.trans fa).trans (Fix.of_below (one_more wa (.cells #[.slice none 0 0] 90))))); have EA := Lib.hid (GiveEnd.mkB (pc' := pc') FB.out fa ia na ba lt sub ht hf); clear fa ia na ba lt sub ht hf))
                all_goals (try go_wp2_with fail)
                all_goals go_meet
                all_goals exact EA.out
              case rest =>
                obtain ⟨b12, P', pc', ok, s', wh', rfl, rfl, hb12, fw, bw, iw, nw, btw, ltw, subw, htw, hfw⟩ := hcut
                have hbrv := BRV8.out.lt
                have x12 := bw.cell 0
                have brw := fw.blk BRV8.out (by omega) (by omega)
                have x13 := brw.cell 0
                have x14 := brw.frozen 0
                have FW := Lib.hid fw
                have NW := Lib.hid nw
                have IW := Lib.hid iw
                have BTW := Lib.hid btw
                have LTW := Lib.hid ltw
                have SUBW := Lib.hid subw
                have HTW := Lib.hid htw
                have HFW := Lib.hid hfw
                have BRW := Lib.hid brw
                have HVV := Lib.hid (show W.heap.size ≤ V8.heap.size from FV8.out.size)
                have HWV := Lib.hid (show W.heap.size ≤ V.heap.size from HSZ.out)
                clear fw bw iw nw btw ltw subw htw hfw brw m8 m8' n8 q8 y8 r8 r8f hb12
                cases ok with
                | true =>
                  go_wp2_with fail
                  have F9 := (FV8.out.trans FW.out).setCell (p := ⟨br, 0, none⟩) (.inr (.inr (by rw [HBM.out]; dsimp only; omega))) (.slice P' H pc')
                  have b9 := (BRW.out.set_ 0 (.slice P' H pc')).cell 0
                  refine bodyPost_ret (v := .tuple #[.agg #[.slice P' H pc'], .bool true]) ?_ rfl ⟨F9, P', pc', true, s', wh', rfl, ?_, ?_, ?_, LTW.out, HSUB.out.trans SUBW.out, fun _ => StepT.via HRI.out.sub HTB.out HPM.out hc HADJ.out (HTW.out (by trivial)), fun h => by cases h⟩
                  · simp [results, Try.results101, go_sem, b9]
                  · refine Arr.fix IW.out ((Fix.refl br br wc).setCell (p := ⟨br, 0, none⟩) (.inl rfl) _) (fun b o e _ => ?_)
                    rcases (NW.out b o e).2 with h | h
                    · rw [h] at e; cases e; omega
                    · omega
                  · intro b o e
                    obtain ⟨h1, h2⟩ := NW.out b o e
                    refine ⟨h1, .inr ?_⟩
                    have := HVV.out
                    have := HWV.out
                    rcases h2 with h | h
                    · rw [h] at e; cases e; omega
                    · omega
                  · exact BTW.out.far (by simp; omega) _
                | false =>
                  go_wp2_with fail
                  go_roundw
                  case rel => exact ⟨k + 1, s', by go_num, by omega, FV38.out.trans FW.out, BTW.out, HRI.out.more HPM.out hin (HFW.out (by trivial)).2⟩
                  case measure => simp [intOf]; omega
    · obtain rfl : k = H := by omega
      go_wp2_with fail
      have b8 := R3.out.set_ 0 (.slice P k pc)
      have b0 := b8.cell 0
      have F8 := Lib.hid ((F3.out.trans HF.out).setCell (p := ⟨br, 0, none⟩) (.inr (.inr (by rw [HBM.out]; dsimp only; omega))) (.slice P k pc))
      refine bodyPost_ret (v := .tuple #[.agg #[.slice P k pc], .bool false]) ?_ rfl ⟨F8.out, P, pc, false, s1, wh, rfl, Arr.fix HP.out F8.out (fun b o e _ => ⟨HPB.out b o e, HPB.out b o e⟩), fun b o e => ⟨HPB.out b o e, .inl rfl⟩, HBTr.out.far (by simp; omega) _, HRI.out.lt, HRI.out.sub, by simp, fun _ => ⟨rfl, HRI.out.done⟩⟩
      simp [results, Try.results101, go_sem, b0]
end Go.Proofs.Ytdhhneflhmkonaa
