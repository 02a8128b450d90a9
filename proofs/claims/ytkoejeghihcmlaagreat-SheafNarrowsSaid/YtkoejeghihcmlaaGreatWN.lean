/- CheckCarting, truly, Left. -/
import Derived.Test.YtkoejeghihcmlaaGreatWK
namespace Go.Proofs.YtkoejeghihcmlaaGreat
open Go.RowKit Go.Shelf

def leftE (p : Pl) (hours : List Int) (known sown : Int) (ns : List Int) : Int := if firstE p hours [known] = 0 then err (truthB p known sown ns) 16 else firstE p hours [known]
def leftV (p : Pl) (hour known sown : Int) (ns : List Int) : Int := if leftE p [hour] known sown ns = 0 then (truS p known sown ns).getD (after (lookL p known every) hour) 0 else 0
/-- What truly returns. -/
def TrulyEnd (p : Pl) (pb : Nat) (hour known sown : Int) (ns : List Int) (w : World) (e : Ending) (w' : World) : Prop :=
  ∃ r v, e = .returned (.tuple #[r, v, .int .i64 (leftE p [hour] known sown ns)]) ∧ Below w.heap.size w w' ∧
    (leftE p [hour] known sown ns = 0 → ∃ bf bs A n c, r = .pointer (some ⟨bf, 0, none⟩) ∧ Lk w.heap.size w' pb known (lookL p known every) (lookS p known every) bf bs A n c ∧ OwnL icells 1 3 w' w.heap.size v (truS p known sown ns)) ∧
    (leftE p [hour] known sown ns ≠ 0 → r = .pointer none ∧ v = .slice none 0 0)
set_option maxRecDepth 100000 in
set_option maxHeartbeats 4000000 in
theorem truly_any (p : Pl) (A1 A2 A3 : Option Addr) (n1 c1 n2 c2 n3 c3 pb : Nat) (hour known : Int) (N : Option Addr) (nn cn : Nat) (ns : List Int) (sown : Int) (w : World) (hP : Blk w pb 38 (plb p A1 A2 A3 n1 c1 n2 c2 n3 c3))
    (hp : Pa w p A1 A2 A3 n1 c1 n2 c2 n3 c3) (h19 : p.loads.length ≤ 19) (hns : Ints w N nn ns) (hI : ∀ x ∈ ns, -9223372036854775808 ≤ x ∧ x ≤ 9223372036854775807) (hnn : nn ≤ 9223372036854775807) :
    Calls Tryz.prog 78 #[.pointer (some ⟨pb, 0, none⟩), .agg #[.int .i64 sown, .slice N nn cn], .int .i64 hour, .int .i64 known] w (TrulyEnd p pb hour known sown ns w) := by
  obtain ⟨W1, hW1⟩ : ∃ W1, w.alloc (.cells #[.int .i64 sown, .slice N nn cn] 41) = W1 := ⟨_, rfl⟩
  have g1 : Below w.heap.size w W1 := by rw [← hW1]; exact one_more _ _
  have HC := Lib.hid (show Blk W1 w.heap.size 41 #[.int .i64 sown, .slice N nn cn] by rw [← hW1]; exact Blk.new _ _ _)
  have HP := Lib.hid (hP.ext g1)
  have HPA := Lib.hid (hp.below g1)
  have HN := Lib.hid (hns.below g1)
  have HI := Lib.hid hI
  have H19 := Lib.hid h19
  have HL19 := Lib.hid (lookL_len h19 known every)
  obtain ⟨W2, hW2⟩ : ∃ W2, (W1.alloc (.cells #[.int .i64 hour] 3)).alloc (.cells #[.int .i64 known] 3) = W2 := ⟨_, rfl⟩
  have g2 : Below W1.heap.size W1 W2 := by rw [← hW2]; exact two_more _ _ _
  have i1 : Ints W2 (some ⟨W1.heap.size, 0, none⟩) 1 [hour] := by rw [← hW2]; exact one_int ((Blk.new _ _ _).alloc _)
  have i2 : Ints W2 (some ⟨W1.heap.size + 1, 0, none⟩) 1 [known] := by
    rw [← hW2]
    have := Blk.new (W1.alloc (.cells #[.int .i64 hour] 3)) 3 #[.int .i64 known]
    rw [World.size_alloc] at this
    exact one_int this
  have T1 := Lib.hid (first_any p A1 A2 A3 n1 c1 n2 c2 n3 c3 _ _ 1 1 1 1 [hour] [known] W2 (HPA.out.below g2) i1 i2 (by decide) (by decide))
  have G1 := Lib.hid g1
  have G2 := Lib.hid g2
  have HE := Lib.hid (show leftE p [hour] known sown ns = if firstE p [hour] [known] = 0 then err (truthB p known sown ns) 16 else firstE p [hour] [known] from rfl)
  have HOK := Lib.hid (fun h => first_ok (p := p) (hours := [hour]) (days := [known]) h)
  obtain ⟨fe, hfe⟩ : ∃ fe, firstE p [hour] [known] = fe := ⟨_, rfl⟩
  rw [hfe] at T1 HE HOK
  have p0 := HP.out.cell 0
  have p1 := HP.out.cell 1
  have p2 := HP.out.cell 2
  have p3 := HP.out.cell 3
  have p4 := HP.out.cell 4
  have p5 := HP.out.cell 5
  clear hfe g1 g2 i1 i2 hP hp hns hI h19
  have HW1 := Lib.hid hW1
  have HW2 := Lib.hid hW2
  clear hW1 hW2
  by_cases hf0 : fe = 0
  · subst hf0
    have HOK1 := Lib.hid (HOK.out rfl)
    have HE2 := Lib.hid (show leftE p [hour] known sown ns = err (truthB p known sown ns) 16 from HE.out)
    have T2 := Lib.hid (fun W (g : Below W1.heap.size W1 W) => look_lk p A1 A2 A3 n1 c1 n2 c2 n3 c3 pb known every .nilFunc W (HP.out.ext g) (HPA.out.below g) HOK1.out H19.out (sm_nil W))
    have T3 := Lib.hid (fun W bf bs A n c (g : Below W1.heap.size W1 W) (hl : Lk W1.heap.size W pb known (lookL p known every) (lookS p known every) bf bs A n c) => truth_any p A1 A2 A3 n1 c1 n2 c2 n3 c3 pb bf known A n c _ N nn cn ns sown W (HP.out.ext g) (HPA.out.below g) HOK1.out (by have := hl.num; have := HL19.out; omega) hl.fd.f hl.ar (HN.out.below g) HI.out hnn)
    obtain ⟨tb, htb⟩ : ∃ b, truthB p known sown ns = b := ⟨_, rfl⟩
    rw [htb] at HE2
    have HTB := Lib.hid htb
    clear htb
    go_enter Tryz.func78, Tryz.ntmps78
    go_upto_region 1 with fail
    rw [HW1.out]
    go_upto_region 4 with (go_at_call 80; (try rw [HW2.out]); (with_reducible refine (T1.out).mono ?_); rintro e W3 ⟨rfl, hg⟩; have G3 := Lib.hid (G2.out.trans (hg.mono G2.out.size)); clear hg)
    go_upto_region 5 with (go_at_call 81; (with_reducible refine (T2.out _ G3.out).mono ?_); rintro e W4 ⟨bf, bs, A, n, c, rfl, hg, hl⟩; have G4 := Lib.hid (G3.out.trans (hg.mono G3.out.size)); have HL := Lib.hid (hl.le G3.out.size); clear hg hl)
    have k0 := (HC.out.ext G4.out).cell 0
    have k1 := (HC.out.ext G4.out).cell 1
    clear p0 p1 p2 p3 p4 p5
    go_upto_region 6 with (go_at_call 83; (with_reducible refine (T3.out _ _ _ _ _ _ G4.out HL.out).mono ?_); rintro e W5 ⟨⟨v, rfl, ho⟩, hg⟩; have HO := Lib.hid ho; have HG := Lib.hid hg; clear ho hg; rw [HTB.out])
    have HLE := Lib.hid (HL.out.ext HG.out)
    have GE := Lib.hid (G1.out.trans ((G4.out.trans (HG.out.mono G4.out.size)).mono G1.out.size))
    cases tb with
    | false =>
      go_wp2_with fail
      go_ret3
      exact ⟨_, _, by rw [HE2.out]; rfl, GE.out, fun h => (by rw [HE2.out] at h; cases h), fun _ => ⟨rfl, rfl⟩⟩
    | true =>
      go_wp2_with fail
      go_ret3
      exact ⟨_, _, by rw [HE2.out]; rfl, GE.out, fun _ => ⟨bf, bs, A, n, c, rfl, HLE.out.le G1.out.size, (HO.out HTB.out).mono (Nat.le_trans G1.out.size G4.out.size)⟩, fun h => absurd (HE2.out.trans rfl) h⟩
  · have HE2 := Lib.hid (show leftE p [hour] known sown ns = fe by rw [HE.out, if_neg hf0])
    have hne : (fe != 0) = true := by simpa using hf0
    go_enter Tryz.func78, Tryz.ntmps78
    go_upto_region 1 with fail
    rw [HW1.out]
    go_wp2_with (go_at_call 80; (try rw [HW2.out]); (with_reducible refine (T1.out).mono ?_); rintro e W3 ⟨rfl, hg⟩; have G3 := Lib.hid (G2.out.trans (hg.mono G2.out.size)); clear hg)
    go_ret3
    exact ⟨_, _, by rw [HE2.out]; rfl, G1.out.trans (G3.out.mono G1.out.size), fun h => absurd (HE2.out.symm.trans h) hf0, fun _ => ⟨rfl, rfl⟩⟩

set_option maxRecDepth 100000 in
set_option maxHeartbeats 4000000 in
theorem left_any (p : Pl) (A1 A2 A3 : Option Addr) (n1 c1 n2 c2 n3 c3 : Nat) (hour known : Int) (N : Option Addr) (nn cn : Nat) (ns : List Int) (sown : Int) (w : World)
    (hp : Pa w p A1 A2 A3 n1 c1 n2 c2 n3 c3) (h19 : p.loads.length ≤ 19) (hns : Ints w N nn ns) (hI : ∀ x ∈ ns, -9223372036854775808 ≤ x ∧ x ≤ 9223372036854775807) (hnn : nn ≤ 9223372036854775807) :
    Calls Tryz.prog 19 #[plv p A1 A2 A3 n1 c1 n2 c2 n3 c3, .agg #[.int .i64 sown, .slice N nn cn], .int .i64 hour, .int .i64 known] w fun e w' => e = .returned (.tuple #[.int .i64 (leftV p hour known sown ns), .int .i64 (leftE p [hour] known sown ns)]) ∧ Below w.heap.size w w' := by
  obtain ⟨W1, hW1⟩ : ∃ W1, (w.alloc (.cells (plb p A1 A2 A3 n1 c1 n2 c2 n3 c3) 38)).alloc (.cells #[.int .i64 sown, .slice N nn cn] 41) = W1 := ⟨_, rfl⟩
  have g1 : Below w.heap.size w W1 := by rw [← hW1]; exact two_more _ _ _
  have b1 : Blk W1 w.heap.size 38 (plb p A1 A2 A3 n1 c1 n2 c2 n3 c3) := by rw [← hW1]; exact (Blk.new _ _ _).alloc _
  have b2 : Blk W1 (w.heap.size + 1) 41 #[.int .i64 sown, .slice N nn cn] := by rw [← hW1]; have := Blk.new (w.alloc (.cells (plb p A1 A2 A3 n1 c1 n2 c2 n3 c3) 38)) 41 #[.int .i64 sown, .slice N nn cn]; rwa [World.size_alloc] at this
  have T := Lib.hid (truly_any p A1 A2 A3 n1 c1 n2 c2 n3 c3 w.heap.size hour known N nn cn ns sown W1 b1 (hp.below g1) h19 (hns.below g1) hI hnn)
  have HL19 := Lib.hid (lookL_len h19 known every)
  have G1 := Lib.hid g1
  have k0 := b2.cell 0
  have k1 := b2.cell 1
  have HV := Lib.hid (show leftV p hour known sown ns = if leftE p [hour] known sown ns = 0 then (truS p known sown ns).getD (after (lookL p known every) hour) 0 else 0 from rfl)
  have HLN := Lib.hid (truS_len p known sown ns)
  obtain ⟨lv, hlv⟩ : ∃ v, leftV p hour known sown ns = v := ⟨_, rfl⟩
  obtain ⟨le, hle⟩ : ∃ v, leftE p [hour] known sown ns = v := ⟨_, rfl⟩
  rw [hlv, hle] at HV ⊢
  have HLE := Lib.hid hle
  have HW1 := Lib.hid hW1
  clear hp h19 hns hI hW1 g1 b1 b2 hlv hle
  by_cases h0 : le = 0
  · subst h0
    have HV2 := Lib.hid (show lv = (truS p known sown ns).getD (after (lookL p known every) hour) 0 from HV.out)
    go_enter Tryz.func19, Tryz.ntmps19
    go_upto_region 1 with fail
    rw [HW1.out]
    go_upto_region 4 with (go_at_call 78; (with_reducible refine (T.out).mono ?_); rintro e W2 ⟨r, v, rfl, hg, ht, -⟩; obtain ⟨bf, bs, A, n, c, rfl, hl, ho⟩ := ht HLE.out; rw [HLE.out]; have G2 := Lib.hid hg; have HL := Lib.hid hl; obtain ⟨D, c', hv, -, -, hi, -⟩ := OwnL.arr kdI ho; subst hv; have HI2 := Lib.hid hi; clear hg hl ho hi ht)
    rw [HLN.out]
    have hnum := HL.out.num
    rw [HLN.out] at HI2
    rw [← hnum] at HI2 ⊢
    have hn19 : n ≤ 19 := by rw [hnum]; exact HL19.out
    have hav := after_le (lookL p known every) hour
    rw [← hnum] at hav
    have T79 := after_any bf A n c (lookL p known every) hour W2 HL.out.fd.f.lt (HL.out.fd.f.cell 2) HL.out.ar (by omega)
    obtain ⟨av, hav2⟩ : ∃ av, after (lookL p known every) hour = av := ⟨_, rfl⟩
    rw [hav2] at T79 HV2 hav
    obtain ⟨b7, o7, e7, -, -, hc7⟩ := ints_at HI2.out (show av < n + 1 by omega)
    rw [← HV2.out] at hc7
    have HC7 := Lib.hid hc7
    have HT := Lib.hid T79
    have havi : (av : Int) < (n : Int) + 1 := by omega
    subst e7
    clear T79 hav2 hc7 hnum k0 k1
    go_wp2_with (go_at_call 79; (with_reducible refine (HT.out).mono ?_); rintro e W3 ⟨rfl, hg⟩; have k9 := HC7.out _ hg; have G3 := Lib.hid hg; clear hg)
    go_ret2
    exact ⟨rfl, G1.out.trans ((G2.out.trans (G3.out.mono G2.out.size)).mono G1.out.size)⟩
  · have HV2 := Lib.hid (show lv = 0 by rw [HV.out, if_neg h0])
    have hne : (le != 0) = true := by simpa using h0
    rw [HV2.out]
    go_enter Tryz.func19, Tryz.ntmps19
    go_upto_region 1 with fail
    rw [HW1.out]
    go_wp2_with (go_at_call 78; (with_reducible refine (T.out).mono ?_); rintro e W2 ⟨r, v, rfl, hg, -, ht⟩; obtain ⟨rfl, rfl⟩ := ht (by rw [HLE.out]; exact h0); rw [HLE.out]; have G2 := Lib.hid hg; clear hg ht)
    go_ret2
    exact ⟨rfl, G1.out.trans (G2.out.mono G1.out.size)⟩


/- CheckCarting. -/
set_option maxRecDepth 100000 in
set_option maxHeartbeats 4000000 in
theorem checkCart_any (p : Pl) (A1 A2 A3 : Option Addr) (n1 c1 n2 c2 n3 c3 : Nat) (known : Int) (N : Option Addr) (nn cn : Nat) (ns : List Int) (sown : Int) (w : World)
    (hp : Pa w p A1 A2 A3 n1 c1 n2 c2 n3 c3) (h19 : p.loads.length ≤ 19) (hns : Ints w N nn ns) (hI : ∀ x ∈ ns, -9223372036854775808 ≤ x ∧ x ≤ 9223372036854775807) (hnn : nn ≤ 9223372036854775807) :
    Calls Tryz.prog 21 #[plv p A1 A2 A3 n1 c1 n2 c2 n3 c3, .int .i64 known, .agg #[.int .i64 sown, .slice N nn cn]] w fun e w' => e = .returned (.int .i64 (leftE p [] known sown ns)) ∧ Below w.heap.size w w' := by
  obtain ⟨W1, hW1⟩ : ∃ W1, (w.alloc (.cells (plb p A1 A2 A3 n1 c1 n2 c2 n3 c3) 38)).alloc (.cells #[.int .i64 sown, .slice N nn cn] 41) = W1 := ⟨_, rfl⟩
  have g1 : Below w.heap.size w W1 := by rw [← hW1]; exact two_more _ _ _
  have HP := Lib.hid (show Blk W1 w.heap.size 38 (plb p A1 A2 A3 n1 c1 n2 c2 n3 c3) by rw [← hW1]; exact (Blk.new _ _ _).alloc _)
  have HC := Lib.hid (show Blk W1 (w.heap.size + 1) 41 #[.int .i64 sown, .slice N nn cn] by rw [← hW1]; have := Blk.new (w.alloc (.cells (plb p A1 A2 A3 n1 c1 n2 c2 n3 c3) 38)) 41 #[.int .i64 sown, .slice N nn cn]; rwa [World.size_alloc] at this)
  have HPA := Lib.hid (hp.below g1)
  have HN := Lib.hid (hns.below g1)
  have HI := Lib.hid hI
  have H19 := Lib.hid h19
  have HL19 := Lib.hid (lookL_len h19 known every)
  have G1 := Lib.hid g1
  have T := Lib.hid (fun W (g : Below W1.heap.size W1 W) (i1 : Ints W (some ⟨W1.heap.size, 0, none⟩) 1 [known]) => first_any p A1 A2 A3 n1 c1 n2 c2 n3 c3 none (some ⟨W1.heap.size, 0, none⟩) 0 0 1 1 [] [known] W (HPA.out.below g) Arr.nil_ i1 (by decide) (by decide))
  have HI1 := Lib.hid (one_int (Blk.new W1 3 #[.int .i64 known]))
  have HG1 := Lib.hid (one_more W1 (.cells #[.int .i64 known] 3))
  have HE := Lib.hid (show leftE p [] known sown ns = if firstE p [] [known] = 0 then err (truthB p known sown ns) 16 else firstE p [] [known] from rfl)
  have HOK := Lib.hid (fun h => first_ok (p := p) (hours := []) (days := [known]) h)
  obtain ⟨fe, hfe⟩ : ∃ fe, firstE p [] [known] = fe := ⟨_, rfl⟩
  rw [hfe] at T HE HOK
  obtain ⟨le, hle⟩ : ∃ v, leftE p [] known sown ns = v := ⟨_, rfl⟩
  rw [hle] at HE ⊢
  have p0 := HP.out.cell 0
  have p1 := HP.out.cell 1
  have p2 := HP.out.cell 2
  have p3 := HP.out.cell 3
  have p4 := HP.out.cell 4
  have p5 := HP.out.cell 5
  have HW1 := Lib.hid hW1
  clear hp h19 hns hI hW1 g1 hfe hle
  by_cases hf0 : fe = 0
  · subst hf0
    have HOK1 := Lib.hid (HOK.out rfl)
    have HE2 := Lib.hid (show le = err (truthB p known sown ns) 16 from HE.out)
    have T2 := Lib.hid (fun W (g : Below W1.heap.size W1 W) => look_lk p A1 A2 A3 n1 c1 n2 c2 n3 c3 w.heap.size known every .nilFunc W (HP.out.ext g) (HPA.out.below g) HOK1.out H19.out (sm_nil W))
    have T3 := Lib.hid (fun W bf bs A n c (g : Below W1.heap.size W1 W) (hl : Lk W1.heap.size W w.heap.size known (lookL p known every) (lookS p known every) bf bs A n c) => truth_any p A1 A2 A3 n1 c1 n2 c2 n3 c3 w.heap.size bf known A n c _ N nn cn ns sown W (HP.out.ext g) (HPA.out.below g) HOK1.out (by have := hl.num; have := HL19.out; omega) hl.fd.f hl.ar (HN.out.below g) HI.out hnn)
    obtain ⟨tb, htb⟩ : ∃ b, truthB p known sown ns = b := ⟨_, rfl⟩
    rw [htb] at HE2
    have HTB := Lib.hid htb
    clear htb
    go_enter Tryz.func21, Tryz.ntmps21
    go_upto_region 1 with fail
    rw [HW1.out]
    go_upto_region 4 with (go_at_call 80; (with_reducible refine (T.out _ HG1.out HI1.out).mono ?_); rintro e W3 ⟨rfl, hg⟩; have G3 := Lib.hid (HG1.out.trans (hg.mono HG1.out.size)); clear hg)
    have k0 := (HC.out.ext G3.out).cell 0
    have k1 := (HC.out.ext G3.out).cell 1
    clear p0 p1 p2 p3 p4 p5
    refine wp_region_uptoQ (S := fun V => V.cell? ⟨w.heap.size + 1, 0, none⟩ = some (.int .i64 sown) ∧ V.cell? ⟨w.heap.size + 1, 1, none⟩ = some (.slice N nn cn)) 8 (by kernel_rfl) (⟨k0, k1⟩) (fun hHeld => ?_)
    (refine upto_take [1, 3, 7, 8] (i := 0) (oi := ⟨_, _, _, _, _, _⟩) (d := some 18) (v := ?_) rfl rfl (by kernel_rfl) (by kernel_rfl) (fun _ _ _ h => h) (by rfl) ?_ (by assumption) ?_; rotate_left; (focus (intro w hSw; (try dsimp only at hSw); go_simp; try with_reducible rfl)); (try simp only [Act.put, List.setIfInBounds_toArray, List.set_cons_zero, List.set_cons_succ]))
    (refine upto_take [3, 7, 8] (i := 2) (oi := ⟨_, _, _, _, _, _⟩) (d := some 20) (v := ?_) rfl rfl (by kernel_rfl) (by kernel_rfl) (fun _ _ _ h => h) (by rfl) ?_ (by assumption) ?_; rotate_left; (focus (intro w hSw; (try dsimp only at hSw); go_simp; try with_reducible rfl)); (try simp only [Act.put, List.setIfInBounds_toArray, List.set_cons_zero, List.set_cons_succ]))
    refine upto_one 1 (o := ⟨_, _, _, _, _, _⟩) rfl (by kernel_rfl) (by decide) (fun K hK => ?_)
    (go_simp; go_at_call 81; (with_reducible refine (T2.out _ G3.out.drew).mono ?_); rintro e W4 ⟨bf, bs, A, n, c, rfl, hg, hl⟩; have G4 := Lib.hid (G3.out.drew.trans (hg.mono G3.out.size)); have HL := Lib.hid (hl.le G3.out.size); clear hg hl)
    refine hK.out _ _ ?_ (fun hHeld => ?_)
    · exact ⟨(HC.out.ext G4.out).cell 0, (HC.out.ext G4.out).cell 1⟩
    clear hK K
    (try simp only [Act.put, List.setIfInBounds_toArray, List.set_cons_zero, List.set_cons_succ])
    refine upto_one 3 (o := ⟨_, _, _, _, _, _⟩) rfl (by kernel_rfl) (by decide) (fun K hK => ?_)
    (go_simp; go_at_call 83; (with_reducible refine (T3.out _ _ _ _ _ _ G4.out HL.out).mono ?_); rintro e W5 ⟨⟨v, rfl, ho⟩, hg⟩; have HG := Lib.hid hg; clear ho hg; rw [HTB.out])
    refine hK.out _ _ ?_ (fun hHeld => ?_)
    · exact ⟨(HC.out.ext (G4.out.trans (HG.out.mono G4.out.size))).cell 0, (HC.out.ext (G4.out.trans (HG.out.mono G4.out.size))).cell 1⟩
    clear hK K
    (try simp only [Act.put, List.setIfInBounds_toArray, List.set_cons_zero, List.set_cons_succ])
    (refine upto_take [6, 8] (i := 4) (oi := ⟨_, _, _, _, _, _⟩) (d := some 17) (v := ?_) rfl rfl (by kernel_rfl) (by kernel_rfl) (fun _ _ _ h => h) (by rfl) ?_ (by assumption) ?_; rotate_left; (focus (intro w hSw; (try dsimp only at hSw); go_simp; try with_reducible rfl)); (try simp only [Act.put, List.setIfInBounds_toArray, List.set_cons_zero, List.set_cons_succ]))
    (refine upto_take [7, 8] (i := 5) (oi := ⟨_, _, _, _, _, _⟩) (d := some 22) (v := ?_) rfl rfl (by kernel_rfl) (by kernel_rfl) (fun _ _ _ h => h) (by rfl) ?_ (by assumption) ?_; rotate_left; (focus (intro w hSw; (try dsimp only at hSw); go_simp; try with_reducible rfl)); (try simp only [Act.put, List.setIfInBounds_toArray, List.set_cons_zero, List.set_cons_succ]))
    (refine upto_take [8] (i := 6) (oi := ⟨_, _, _, _, _, _⟩) (d := some 23) (v := ?_) rfl rfl (by kernel_rfl) (by kernel_rfl) (fun _ _ _ h => h) (by rfl) ?_ (by assumption) ?_; rotate_left; (focus (intro w hSw; (try dsimp only at hSw); go_simp; try with_reducible rfl)); (try simp only [Act.put, List.setIfInBounds_toArray, List.set_cons_zero, List.set_cons_succ]))
    (refine upto_take [8] (i := 7) (oi := ⟨_, _, _, _, _, _⟩) (d := some 8) (v := ?_) rfl rfl (by kernel_rfl) (by kernel_rfl) (fun _ _ _ h => h) (by rfl) ?_ (by assumption) ?_; rotate_left; (focus (intro w hSw; (try dsimp only at hSw); go_simp; try with_reducible rfl)); (try simp only [Act.put, List.setIfInBounds_toArray, List.set_cons_zero, List.set_cons_succ]))
    refine upto_last (o := ⟨_, _, _, _, _, _⟩) rfl (by kernel_rfl) (fun K hK => ?_)
    go_simp
    refine hK.out _ _ ?_
    clear hK K
    (try simp only [Act.put, List.setIfInBounds_toArray, List.set_cons_zero, List.set_cons_succ])
    refine any_done (by kernel_rfl) ?_
    simp only [onlyQ]
    have GE := Lib.hid (G1.out.trans ((G4.out.trans (HG.out.mono G4.out.size)).mono G1.out.size))
    cases tb with
    | false =>
      go_wp2_with fail
      go_ret
      exact ⟨by rw [HE2.out]; rfl, GE.out⟩
    | true =>
      go_wp2_with fail
      go_ret
      exact ⟨by rw [HE2.out]; rfl, GE.out⟩
  · have HE2 := Lib.hid (show le = fe by rw [HE.out, if_neg hf0])
    have hne : (fe != 0) = true := by simpa using hf0
    go_enter Tryz.func21, Tryz.ntmps21
    go_upto_region 1 with fail
    rw [HW1.out]
    go_wp2_with (go_at_call 80; (with_reducible refine (T.out _ HG1.out HI1.out).mono ?_); rintro e W3 ⟨rfl, hg⟩; have G3 := Lib.hid (HG1.out.trans (hg.mono HG1.out.size)); clear hg)
    go_ret
    exact ⟨by rw [HE2.out]; rfl, G1.out.trans (G3.out.mono G1.out.size)⟩
end Go.Proofs.YtkoejeghihcmlaaGreat
