/- The reference: counting. -/
import Derived.Test.YtkoejeghihcmlaaGreatUO
namespace Go.Proofs.YtkoejeghihcmlaaGreat
open Go.RowKit Go.Shelf

theorem putS_room (n x : Int) (s : List Int × Bool) : (putS n s x).1.length + (!(putS n s x).2).toNat ≤ s.1.length + (!s.2).toNat + 1 := by
  obtain ⟨a, b⟩ := s
  unfold putS
  dsimp only
  by_cases h1 : n ≤ x <;> by_cases h2 : x = n <;> cases b <;> simp [h1, h2]
theorem putF_room (n : Int) : ∀ (l : List Int) (s : List Int × Bool), (l.foldl (putS n) s).1.length + (!(l.foldl (putS n) s).2).toNat ≤ s.1.length + (!s.2).toNat + l.length
  | [], _ => Nat.le_refl _
  | x :: l, s => by
    have h1 := putF_room n l (putS n s x)
    have h2 := putS_room n x s
    simp only [List.foldl_cons, List.length_cons]
    omega
theorem putL_len (l : List Int) (n : Int) : (putL l n).length ≤ l.length + 1 := by
  have h := putF_room n l ([], false)
  unfold putL
  dsimp only at h ⊢
  obtain ⟨r, hr⟩ : ∃ r, l.foldl (putS n) ([], false) = r := ⟨_, rfl⟩
  rw [hr] at h ⊢
  obtain ⟨a, b⟩ := r
  cases b <;> simp at h ⊢ <;> omega
theorem putsL_len : ∀ (l Z : List Int), (l.foldl putL Z).length ≤ Z.length + l.length
  | [], _ => by simp
  | x :: l, Z => by
    have h1 := putsL_len l (putL Z x)
    have h2 := putL_len Z x
    simp only [List.foldl_cons, List.length_cons]
    omega
/-- The sources of the elements that count, put one by one. -/
def cntF (known : Int) (l : List Six) (Z : List Int) : List Int := (colL (fun x => cnt x known) Six.a l).foldl putL Z
theorem cntF_zero (known : Int) (l : List Six) (Z : List Int) : cntF known (l.take 0) Z = Z := rfl
theorem cntF_len (known : Int) (l : List Six) (Z : List Int) : (cntF known l Z).length ≤ Z.length + l.length := by
  unfold cntF
  have h1 := putsL_len (colL (fun x => cnt x known) Six.a l) Z
  have h2 := colL_len (fun x => cnt x known) Six.a l
  omega
theorem cntF_succ {known : Int} {l : List Six} {k : Nat} (Z : List Int) (hk : k < l.length) : cntF known (l.take (k + 1)) Z = if cnt (l.getD k z6) known = true then putL (cntF known (l.take k) Z) (l.getD k z6).a else cntF known (l.take k) Z := by
  unfold cntF
  rw [colL_snoc _ _ hk, List.foldl_append]
  split <;> rfl
def countingL (p : Pl) (known : Int) : List Int := cntF known p.stands (cntF known p.loads [])
/-- The number put where it belongs. -/
def insI (n : Int) : List Int → List Int
  | [] => [n]
  | x :: l => if n ≤ x then n :: x :: l else x :: insI n l
theorem putF_done (n : Int) : ∀ (l acc : List Int), n ∉ l → l.foldl (putS n) (acc, true) = (acc ++ l, true)
  | [], acc, _ => by simp
  | x :: l, acc, h => by
    have h1 : ¬ x = n := fun e => h (by simp [e])
    rw [List.foldl_cons, putS4 (.inl rfl) h1, putF_done n l _ (fun e => h (List.mem_cons_of_mem _ e))]
    simp
theorem putF_ins (n : Int) : ∀ (l acc : List Int), n ∉ l → (if (l.foldl (putS n) (acc, false)).2 = true then (l.foldl (putS n) (acc, false)).1 else (l.foldl (putS n) (acc, false)).1 ++ [n]) = acc ++ insI n l
  | [], acc, _ => by simp [insI]
  | x :: l, acc, h => by
    have h1 : ¬ x = n := fun e => h (by simp [e])
    have h2 : n ∉ l := fun e => h (List.mem_cons_of_mem _ e)
    rw [List.foldl_cons]
    unfold insI
    by_cases hn : n ≤ x
    · rw [putS2 hn h1, putF_done n l _ h2, if_pos hn]
      simp
    · rw [putS4 (.inr hn) h1, putF_ins n l _ h2, if_neg hn]
      simp
theorem putL_ins {n : Int} {l : List Int} (h : n ∉ l) : putL l n = insI n l := by
  have := putF_ins n l [] h
  rwa [List.nil_append] at this
theorem insI_perm (n : Int) : ∀ l : List Int, List.Perm (insI n l) (n :: l)
  | [] => List.Perm.refl _
  | x :: l => by
    unfold insI
    split
    · exact List.Perm.refl _
    · exact ((insI_perm n l).cons x).trans (List.Perm.swap n x l)
theorem insI_up {n : Int} : ∀ {l : List Int}, n ∉ l → l.Pairwise (· < ·) → (insI n l).Pairwise (· < ·)
  | [], _, _ => by simp [insI]
  | x :: l, h, hp => by
    have h1 : ¬ x = n := fun e => h (by simp [e])
    have h2 : n ∉ l := fun e => h (List.mem_cons_of_mem _ e)
    obtain ⟨hx, hl⟩ := List.pairwise_cons.1 hp
    unfold insI
    split
    · rename_i hn
      refine List.pairwise_cons.2 ⟨fun y hy => ?_, hp⟩
      rcases List.mem_cons.1 hy with rfl | hy
      · omega
      · have := hx y hy; omega
    · rename_i hn
      refine List.pairwise_cons.2 ⟨fun y hy => ?_, insI_up h2 hl⟩
      rcases List.mem_cons.1 ((insI_perm n l).mem_iff.1 hy) with rfl | hy
      · omega
      · exact hx y hy
theorem puts_all : ∀ (l Z : List Int), Z.Pairwise (· < ·) → (Z ++ l).Nodup → List.Perm (l.foldl putL Z) (Z ++ l) ∧ (l.foldl putL Z).Pairwise (· < ·)
  | [], Z, hZ, _ => by simpa using hZ
  | x :: l, Z, hZ, hn => by
    have hx : x ∉ Z := fun e => (List.nodup_append.1 hn).2.2 x e x (by simp) rfl
    rw [List.foldl_cons, putL_ins hx]
    have hp : List.Perm (insI x Z ++ l) (Z ++ x :: l) := ((insI_perm x Z).append_right l).trans List.perm_middle.symm
    obtain ⟨h1, h2⟩ := puts_all l (insI x Z) (insI_up hx hZ) (hp.nodup_iff.2 hn)
    exact ⟨h1.trans hp, h2⟩
theorem counting_tell {p : Pl} (h : okPl p = true) (known : Int) : countingL p known = tellL p known := by
  have h1 := (List.nodup_append.1 (ok_nodup h)).1
  have hs : (colL (fun x => cnt x known) Six.a p.loads ++ colL (fun x => cnt x known) Six.a p.stands).Sublist (srcs p.loads ++ srcs p.stands) :=
    List.Sublist.append (List.filter_sublist.map _) (List.filter_sublist.map _)
  have hn := h1.sublist hs
  have e : countingL p known = (colL (fun x => cnt x known) Six.a p.loads ++ colL (fun x => cnt x known) Six.a p.stands).foldl putL [] := by
    unfold countingL cntF
    rw [List.foldl_append]
  obtain ⟨hp, hu⟩ := puts_all _ [] List.Pairwise.nil (by rw [List.nil_append]; exact hn)
  rw [← e] at hp hu
  rw [List.nil_append] at hp
  have hp2 : List.Perm (countingL p known) (tellL p known) := hp.trans (by unfold tellL srt; exact (List.mergeSort_perm _ _).symm)
  exact hp2.eq_of_pairwise (fun _ _ _ _ h1 h2 => absurd h1 (by omega)) hu (tell_up h known)

set_option maxRecDepth 100000 in
set_option maxHeartbeats 4000000 in
theorem refCounting_any (p : Pl) (A1 A2 A3 : Option Addr) (n1 c1 n2 c2 n3 c3 : Nat) (known : Int) (w : World) (hp : Pa w p A1 A2 A3 n1 c1 n2 c2 n3 c3) (hnb : n1 ≤ 100 ∧ n2 ≤ 100) :
    Calls Tryz.prog 107 #[plv p A1 A2 A3 n1 c1 n2 c2 n3 c3, .int .i64 known] w fun e w' => (∃ v, e = .returned v ∧ OwnL icells 1 3 w' w.heap.size v (countingL p known)) ∧ Below w.heap.size w w' := by
  obtain ⟨W0, hW0⟩ : ∃ W0, w.alloc (.cells (plb p A1 A2 A3 n1 c1 n2 c2 n3 c3) 38) = W0 := ⟨_, rfl⟩
  have g0 : Below w.heap.size w W0 := by rw [← hW0]; exact one_more _ _
  have b0 : Blk W0 w.heap.size 38 (plb p A1 A2 A3 n1 c1 n2 c2 n3 c3) := by rw [← hW0]; exact Blk.new _ _ _
  have HNB := Lib.hid hnb
  have HL1 := Lib.hid (hp.l1.below g0)
  have HL2 := Lib.hid (hp.l2.below g0)
  have GA := Lib.hid g0
  have HB0 := Lib.hid b0
  have HW0 := Lib.hid hW0
  have HGZ := Lib.hid (Below.refl W0.heap.size W0)
  have OS0 := Lib.hid (OwnL.nil (f := icells) (size := 1) (e := 3) W0 W0.heap.size)
  have HCF := Lib.hid (show countingL p known = cntF known p.stands (cntF known p.loads []) from rfl)
  obtain ⟨res, hres⟩ : ∃ r, countingL p known = r := ⟨_, rfl⟩
  obtain ⟨Z0, hZ0⟩ : ∃ z : List Int, [] = z := ⟨_, rfl⟩
  have HZ0 := Lib.hid (show Z0.length ≤ 0 by rw [← hZ0]; simp)
  rw [hZ0] at HCF OS0
  rw [hres] at HCF ⊢
  clear hp g0 b0 hW0 hnb hres hZ0
  go_enter Tryz.func107, Tryz.ntmps107
  go_upto_region 1 with fail
  rw [HW0.out]
  go_wp2_with fail
  go_loopw [5, 6] (fun v i wr => ∃ (k : Nat) (u : Value), u = v ∧ i = .int .i64 k ∧ k ≤ n1 ∧ Below W0.heap.size W0 wr ∧ OwnL icells 1 3 wr W0.heap.size v (cntF known (p.loads.take k) Z0)) (fun _ i _ => n1 - (intOf i).toNat)
  case atStart => exact ⟨0, _, rfl, rfl, Nat.zero_le _, HGZ.out, by rw [cntF_zero]; exact OS0.out⟩
  case round =>
    obtain ⟨k, u, rfl, rfl, hk, hg, hown⟩ := hrel
    have HG := Lib.hid hg
    have HO := Lib.hid hown
    have q1 := (HB0.out.ext hg).cell 2
    by_cases hkn : k < n1
    · obtain ⟨b0, o0, e0, -, -, hc⟩ := six_at (HL1.out.below hg) hkn
      obtain ⟨x0, x1, x2, x3, x4, x5⟩ := hc _ (Below.refl _ _)
      have HN := Lib.hid (cntF_succ (known := known) (l := p.loads) (k := k) Z0 (by rw [HL1.out.1]; exact hkn))
      have HLEN := Lib.hid (show (cntF known (p.loads.take k) Z0).length ≤ 0 + 100 by
        have h1 := cntF_len known (p.loads.take k) Z0
        have h2 := HZ0.out
        have h3 := HNB.out
        rw [List.length_take] at h1
        omega)
      obtain ⟨x, hxg⟩ : ∃ x, p.loads.getD k z6 = x := ⟨_, rfl⟩
      rw [hxg] at x0 x1 x2 x3 x4 x5 HN
      obtain ⟨L, hL⟩ : ∃ L, cntF known (p.loads.take k) Z0 = L := ⟨_, rfl⟩
      rw [hL] at HO HN HLEN
      subst e0
      have hki : (k : Int) < (n1 : Int) := by omega
      obtain ⟨A, c, hv, hc1, hc2, hi, -⟩ := HO.out.arr kdI
      obtain ⟨n, hn⟩ : ∃ n, L.length = n := ⟨_, rfl⟩
      rw [hn] at hv hc1 hi HLEN
      subst hv
      have HI := Lib.hid hi
      have HT := Lib.hid (fun (X : World) (g : Below wr.heap.size wr X) => refPut_any A n c L x.a X (hi.below g) (by have := HLEN.out; omega))
      have HXC := Lib.hid (fun (X : World) (g : Below wr.heap.size wr X) => (hc X g).1)
      have HQ1 := Lib.hid (fun (X : World) (g : Below wr.heap.size wr X) => (((HB0.out.ext hg).ext g).cell 2))
      have hk9 : k < 1000 := by have := HNB.out; omega
      obtain ⟨cb, hcb⟩ : ∃ cb, cnt x known = cb := ⟨_, rfl⟩
      have TC := fun X => refCnt_any x known X
      rw [hcb] at TC HN
      have HTC := Lib.hid TC
      clear hc hxg hg hown hL hi hn hc1 hc2 hcb TC
      go_upto_region 5 with fail
      have z9 := cellW q1
      have z0 := cellW x0
      have z1 := cellW x1
      have z2 := cellW x2
      have z3 := cellW x3
      have z4 := cellW x4
      have z5 := cellW x5
      refine wp_region_calm wr (by kernel_rfl) (by kernel_rfl) (Below.refl _ _) ?_
      repeat (go_big_quiet_step ((go_at_call 183; exact callsCalmSame (HTC.out _))))
      refine wpQuiet_nil ?_
      rintro _ ⟨z, rfl⟩
      have HGZZ := Lib.hid (HG.out.trans (z.ok.mono HG.out.size))
      have HOZ := Lib.hid (HO.out.ext z.ok)
      have hsz := HGZZ.out.size
      have y0 := HXC.out _ z.ok
      have y1 := HQ1.out _ z.ok
      have HT2 := Lib.hid (HT.out _ z.ok)
      cases cb with
      | false =>
        have HN2 := Lib.hid (show cntF known (p.loads.take (k + 1)) Z0 = L by rw [HN.out]; rfl)
        go_wp2_with fail
        go_roundw
        case rel => exact ⟨k + 1, _, rfl, by go_num, by omega, HGZZ.out, by rw [HN2.out]; exact HOZ.out⟩
        case measure => simp [intOf]; omega
      | true =>
        have HN2 := Lib.hid (show cntF known (p.loads.take (k + 1)) Z0 = putL L x.a by rw [HN.out]; rfl)
        go_wp2_with (go_at_call 126; (with_reducible refine (HT2.out).mono ?_); rintro e w' ⟨⟨v, rfl, ho⟩, hgw⟩; have HO2 := Lib.hid ho; have HG2 := Lib.hid hgw; clear ho hgw)
        go_roundw
        case rel => exact ⟨k + 1, _, rfl, by go_num, by omega, HGZZ.out.trans (HG2.out.mono hsz), by rw [HN2.out]; exact HO2.out.mono hsz⟩
        case measure => simp [intOf]; omega
    · obtain rfl : n1 = k := by omega
      have HEND1 := Lib.hid (show OwnL icells 1 3 wr W0.heap.size u (cntF known p.loads Z0) by have := HO.out; rwa [List.take_of_length_le (by rw [HL1.out.1]; exact Nat.le_refl _)] at this)
      have HGE1 := Lib.hid (show Below W0.heap.size W0 wr from HG.out)
      have HZ1 := Lib.hid (show (cntF known p.loads Z0).length ≤ 0 + 100 by
        have h1 := cntF_len known p.loads Z0
        have h2 := HZ0.out
        have h3 := HNB.out
        have h4 := HL1.out.1
        omega)
      clear HG HO hg hown
      obtain ⟨V1, hV1⟩ : ∃ V, wr = V := ⟨_, rfl⟩
      obtain ⟨v1, hv1⟩ : ∃ v1, u = v1 := ⟨_, rfl⟩
      rw [hV1] at HEND1 HGE1 q1 ⊢
      rw [hv1] at HEND1 ⊢
      clear hV1 hv1 hkn hk
      obtain ⟨Z1, hZ1⟩ : ∃ z, cntF known p.loads Z0 = z := ⟨_, rfl⟩
      rw [hZ1] at HEND1 HZ1 HCF
      clear hZ1
      go_wp2_with fail
      go_loopw [5, 7] (fun v i wr => ∃ (k : Nat) (u : Value), u = v ∧ i = .int .i64 k ∧ k ≤ n2 ∧ Below W0.heap.size W0 wr ∧ OwnL icells 1 3 wr W0.heap.size v (cntF known (p.stands.take k) Z1)) (fun _ i _ => n2 - (intOf i).toNat)
      case atStart => exact ⟨0, _, rfl, rfl, Nat.zero_le _, HGE1.out, by rw [cntF_zero]; exact HEND1.out⟩
      case round =>
        obtain ⟨k, u, rfl, rfl, hk, hg, hown⟩ := hrel
        have HG := Lib.hid hg
        have HO := Lib.hid hown
        have q1 := (HB0.out.ext hg).cell 3
        by_cases hkn : k < n2
        · obtain ⟨b0, o0, e0, -, -, hc⟩ := six_at (HL2.out.below hg) hkn
          obtain ⟨x0, x1, x2, x3, x4, x5⟩ := hc _ (Below.refl _ _)
          have HN := Lib.hid (cntF_succ (known := known) (l := p.stands) (k := k) Z1 (by rw [HL2.out.1]; exact hkn))
          have HLEN := Lib.hid (show (cntF known (p.stands.take k) Z1).length ≤ 100 + 100 by
            have h1 := cntF_len known (p.stands.take k) Z1
            have h2 := HZ1.out
            have h3 := HNB.out
            rw [List.length_take] at h1
            omega)
          obtain ⟨x, hxg⟩ : ∃ x, p.stands.getD k z6 = x := ⟨_, rfl⟩
          rw [hxg] at x0 x1 x2 x3 x4 x5 HN
          obtain ⟨L, hL⟩ : ∃ L, cntF known (p.stands.take k) Z1 = L := ⟨_, rfl⟩
          rw [hL] at HO HN HLEN
          subst e0
          have hki : (k : Int) < (n2 : Int) := by omega
          obtain ⟨A, c, hv, hc1, hc2, hi, -⟩ := HO.out.arr kdI
          obtain ⟨n, hn⟩ : ∃ n, L.length = n := ⟨_, rfl⟩
          rw [hn] at hv hc1 hi HLEN
          subst hv
          have HI := Lib.hid hi
          have HT := Lib.hid (fun (X : World) (g : Below wr.heap.size wr X) => refPut_any A n c L x.a X (hi.below g) (by have := HLEN.out; omega))
          have HXC := Lib.hid (fun (X : World) (g : Below wr.heap.size wr X) => (hc X g).1)
          have HQ1 := Lib.hid (fun (X : World) (g : Below wr.heap.size wr X) => (((HB0.out.ext hg).ext g).cell 3))
          have hk9 : k < 1000 := by have := HNB.out; omega
          obtain ⟨cb, hcb⟩ : ∃ cb, cnt x known = cb := ⟨_, rfl⟩
          have TC := fun X => refCnt_any x known X
          rw [hcb] at TC HN
          have HTC := Lib.hid TC
          clear hc hxg hg hown hL hi hn hc1 hc2 hcb TC
          go_upto_region 10 with fail
          have z9 := cellW q1
          have z0 := cellW x0
          have z1 := cellW x1
          have z2 := cellW x2
          have z3 := cellW x3
          have z4 := cellW x4
          have z5 := cellW x5
          refine wp_region_calm wr (by kernel_rfl) (by kernel_rfl) (Below.refl _ _) ?_
          repeat (go_big_quiet_step ((go_at_call 183; exact callsCalmSame (HTC.out _))))
          refine wpQuiet_nil ?_
          rintro _ ⟨z, rfl⟩
          have HGZZ := Lib.hid (HG.out.trans (z.ok.mono HG.out.size))
          have HOZ := Lib.hid (HO.out.ext z.ok)
          have hsz := HGZZ.out.size
          have y0 := HXC.out _ z.ok
          have y1 := HQ1.out _ z.ok
          have HT2 := Lib.hid (HT.out _ z.ok)
          cases cb with
          | false =>
            have HN2 := Lib.hid (show cntF known (p.stands.take (k + 1)) Z1 = L by rw [HN.out]; rfl)
            go_wp2_with fail
            go_roundw
            case rel => exact ⟨k + 1, _, rfl, by go_num, by omega, HGZZ.out, by rw [HN2.out]; exact HOZ.out⟩
            case measure => simp [intOf]; omega
          | true =>
            have HN2 := Lib.hid (show cntF known (p.stands.take (k + 1)) Z1 = putL L x.a by rw [HN.out]; rfl)
            go_wp2_with (go_at_call 126; (with_reducible refine (HT2.out).mono ?_); rintro e w' ⟨⟨v, rfl, ho⟩, hgw⟩; have HO2 := Lib.hid ho; have HG2 := Lib.hid hgw; clear ho hgw)
            go_roundw
            case rel => exact ⟨k + 1, _, rfl, by go_num, by omega, HGZZ.out.trans (HG2.out.mono hsz), by rw [HN2.out]; exact HO2.out.mono hsz⟩
            case measure => simp [intOf]; omega
        · obtain rfl : n2 = k := by omega
          have HEND2 := Lib.hid (show OwnL icells 1 3 wr W0.heap.size u (cntF known p.stands Z1) by have := HO.out; rwa [List.take_of_length_le (by rw [HL2.out.1]; exact Nat.le_refl _)] at this)
          have HGE2 := Lib.hid (show Below W0.heap.size W0 wr from HG.out)
          have HZ2 := Lib.hid (show (cntF known p.stands Z1).length ≤ 100 + 100 by
            have h1 := cntF_len known p.stands Z1
            have h2 := HZ1.out
            have h3 := HNB.out
            have h4 := HL2.out.1
            omega)
          clear HG HO hg hown
          obtain ⟨V2, hV2⟩ : ∃ V, wr = V := ⟨_, rfl⟩
          obtain ⟨v2, hv2⟩ : ∃ v1, u = v1 := ⟨_, rfl⟩
          rw [hV2] at HEND2 HGE2 q1 ⊢
          rw [hv2] at HEND2 ⊢
          clear hV2 hv2 hkn hk
          go_wp2_with fail
          go_ret
          refine ⟨⟨_, rfl, ?_⟩, GA.out.trans (HGE2.out.mono GA.out.size)⟩
          rw [HCF.out]
          exact HEND2.out.mono GA.out.size
end Go.Proofs.YtkoejeghihcmlaaGreat
