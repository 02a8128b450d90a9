/- The mill: crowd, Crowd, CheckCrowd, Unserved. -/
import Derived.Test.YtdhhneflhmkonaaD2
namespace Go.Proofs.Ytdhhneflhmkonaa
open Go.RowKit Go.Shelf

theorem ServePost.split {bw left : Nat} {h : Int} {xs : List Comer} {d : List Int} {W W' : World} {e : Ending} (hsp : ServePost bw xs.length h.toNat left xs d W e W') (k : Ok h xs) (hd : isDem xs d = true)
    (hl : ∀ b, left.testBit b = (decide (b < h.toNat) && decide ((b : Int) ≠ -1))) :
    Fix bw bw W W' ∧ ((e = .returned (.tuple #[.int .i64 0, .bool true]) ∧ fea xs h.toNat (-1) d = true) ∨
      ∃ S : Nat, e = .returned (.tuple #[.int .i64 (S : Nat), .bool false]) ∧ fea xs h.toNat (-1) d = false ∧ S < 16777216 ∧ crowdB xs d (srt (crowdK xs S d xs.length)) = true) := by
  have hdl := isDem_len hd
  have hdb := isDem_bd hd
  obtain ⟨hf, v, he⟩ := hsp.ok rfl hdl hl
  obtain ⟨-, wh, -, ha, hc⟩ := hsp
  refine ⟨hf, ?_⟩
  rcases hc with ⟨rfl, -⟩ | ⟨c, s, rfl, hcn, hs, hle, hlt⟩
  · left
    injection he with he
    injection he with he
    simp at he
    exact ⟨rfl, he.2⟩
  · right
    injection he with he
    injection he with he
    simp at he
    have hH24 : 2 ^ h.toNat ≤ 2 ^ 24 := Nat.pow_le_pow_right (by decide) (by have := k.h24; omega)
    exact ⟨s ||| hrs xs c, rfl, he.2, Nat.or_lt_two_pow (n := 24) (Nat.lt_of_lt_of_le hs.lt hH24) (Nat.lt_of_lt_of_le (hrs_pow k c) hH24), crowd_yes k (fun x hx => (hdb x hx).1) hl ha hcn hs hle hlt⟩

def CrowdPost (xs : List Comer) (H : Nat) (d : List Int) (w : World) (e : Ending) (w' : World) : Prop :=
  Below w.heap.size w w' ∧ ∃ D c F, e = .returned (.tuple #[.slice D F.length c, .bool (!fea xs H (-1) d)]) ∧ Ints w' D F.length F ∧ F.length ≤ 12 ∧ (fea xs H (-1) d = true → F = []) ∧ (fea xs H (-1) d = false → crowdB xs d F = true)

set_option maxRecDepth 100000 in
set_option maxHeartbeats 4000000 in
theorem crowd_any (A D : Option Addr) (n cc m cd : Nat) (h : Int) (xs : List Comer) (d : List Int) (w : World) (ha : Arr ccells 3 w A n xs) (hO : Ok h xs) (hd : Ints w D m d) (hdem : isDem xs d = true) :
    Calls Try.prog 95 #[mv A n cc h, .slice D m cd] w (CrowdPost xs h.toNat d w) := by
  obtain ⟨H, rfl⟩ : ∃ H : Nat, h = H := ⟨h.toNat, by have := hO.h0; omega⟩
  obtain rfl : m = n := by have := ha.1; have := hd.1; have := isDem_len hdem; omega
  rw [Int.toNat_natCast]
  have HA := Lib.hid ha
  have HD := Lib.hid hd
  have hln := Lib.hid ha.1
  have hlm := Lib.hid hd.1
  have hn12 : m ≤ 12 := by have := hO.n12; have := hln.out; omega
  have hH : H ≤ 24 := by have := hO.h24; omega
  have HX := Lib.hid hO.hrs
  have HOO := Lib.hid hO
  have HDM := Lib.hid hdem
  have HDB := Lib.hid (isDem_bd hdem)
  clear ha hd hO hdem
  unfold mv
  go_enter Try.func95, Try.ntmps95
  go_wp2_with fail
  generalize hW1 : w.alloc (.cells #[.int .i64 H, .slice A m cc] 24) = W1
  obtain ⟨g1, -, c1⟩ := box2 hW1
  have HG1 := Lib.hid g1
  have hwl : w.heap.size < W1.heap.size := by rw [boxSize hW1]; omega
  clear hW1
  refine (open_any A m cc H xs (-1) W1 (HA.out.below g1) hH (by omega) (by omega)).mono ?_
  rintro e W2 ⟨bp, bw, left, rfl, hmp, hbw, hl, hlb, hge, g2⟩
  have hd2 := (HD.out.below g1).below g2
  have hDn : ∀ b o, D = some ⟨b, o, none⟩ → 0 < m → b ≠ bw := fun b o e hn => by
    obtain ⟨b', o', e', hlt, _⟩ := (HD.out.below g1).2 hn; rw [e] at e'; cases e'; omega
  have HG := Lib.hid (extTrans HG1.out g2)
  have HMP := Lib.hid hmp
  have HBW := Lib.hid hbw
  have HL := Lib.hid hlb
  have HD2 := Lib.hid hd2
  have HDn := Lib.hid hDn
  have d1 : W2.cell? ⟨w.heap.size, 1, none⟩ = some (.slice A m cc) := (g2.cell (p := ⟨w.heap.size, 1, none⟩) hwl).trans c1
  have hbwne : w.heap.size ≠ bw := by omega
  have HGE := Lib.hid (show w.heap.size ≤ bw from Nat.le_trans g1.size hge)
  have hwl2 : w.heap.size < W2.heap.size := by have := g2.size; omega
  clear hmp hbw hlb hd2 hDn hge g1 g2 c1
  go_wp2_with fail
  refine (serve_any bp bw m cc H left cd A D xs d W2 HMP.out HX.out hH hl hn12 HBW.out HD2.out HDn.out (fun x hx => by have := HDB.out x hx; omega)).mono ?_
  rintro e W3 hsp
  have hsp' : ServePost bw xs.length ((H : Int)).toNat left xs d W2 e W3 := by rw [hln.out, Int.toNat_natCast]; exact hsp
  obtain ⟨hf, hcase⟩ := hsp'.split HOO.out HDM.out (by rw [Int.toNat_natCast]; exact HL.out)
  rw [Int.toNat_natCast] at hcase
  have hg3 : Below w.heap.size w W3 := hf.calm HG.out HGE.out
  have HG3 := Lib.hid hg3
  have d2 := hf.cell d1 hbwne hbwne
  have hwl3 : w.heap.size < W3.heap.size := by have := hf.size; omega
  clear hsp hsp' hf d1 hg3
  rcases hcase with ⟨rfl, hfe⟩ | ⟨S, rfl, hfe, hS, hcr⟩
  · have HFE := Lib.hid hfe
    clear hfe
    go_wp2_with fail
    go_ret2
    exact ⟨HG3.out, none, 0, [], by rw [HFE.out]; rfl, Arr.nil_, by simp, fun _ => rfl, fun q => by rw [HFE.out] at q; cases q⟩
  · have HFE := Lib.hid hfe
    have HCR := Lib.hid (show crowdB xs d (srt (crowdK xs S d m)) = true by rw [← hln.out]; exact hcr)
    have HD3 := Lib.hid (HD.out.below HG3.out)
    have HA3 := Lib.hid (HA.out.below HG3.out)
    clear hfe hcr
    go_wp2_with fail
    go_loopw [8, 22] (fun v i wr => ∃ k : Nat, i = .int .i64 k ∧ k ≤ m ∧ Below W3.heap.size W3 wr ∧ Own wr W3.heap.size v (crowdK xs S d k)) (fun _ i _ => m - (intOf i).toNat)
    case atStart => exact ⟨0, rfl, Nat.zero_le _, Below.refl _ _, Own.nil _ _⟩
    case round =>
      obtain ⟨k, rfl, hk, hg, hown⟩ := hrel
      rename World => wr
      have HGr := Lib.hid hg
      have HO := Lib.hid hown
      have hsz := hg.size
      by_cases hkm : k < m
      · obtain ⟨b, o, x, hAe, -, hx, hca⟩ := comer_at (HA3.out.below hg) hkm
        have q := hca wr (Below.refl _ _)
        have hxh := HX.out.nat hx
        rw [hxh] at q
        obtain ⟨q0, q1, q2⟩ := q
        have hxd : (xs.getD k ⟨0, 0, 0⟩).family = x.family := by rw [List.getD_eq_getElem?_getD, hx]; rfl
        obtain ⟨bd, od, hDe, -, hdm, hcd⟩ := ints_at (HD3.out.below hg) hkm
        obtain ⟨v, hv⟩ : ∃ v, d.getD k 0 = v := ⟨_, rfl⟩
        have hvb := HDB.out (d.getD k 0) (List.mem_of_getElem? hdm)
        rw [hv] at hvb hcd
        obtain ⟨bz, hbz⟩ : ∃ bz, (bits .andNot .i64 (hrs xs k : Nat) (S : Nat) == 0) = bz := ⟨_, rfl⟩
        have HNX := Lib.hid (show crowdK xs S d (k + 1) = crowdK xs S d k ++ if (bz && decide (0 < v)) = true then [x.family] else [] by
          rw [crowdK, named, hbz, hv, hxd])
        subst hAe hDe
        obtain ⟨W7, hW7⟩ : ∃ W7, wr.alloc (.cells #[.int .i64 x.family, .int .i64 (hrs xs k : Nat), .int .i64 x.wants] 53) = W7 := ⟨_, rfl⟩
        have g7 : Below wr.heap.size wr W7 := by rw [← hW7]; exact one_more _ _
        have hb7 : Blk W7 wr.heap.size 53 #[.int .i64 x.family, .int .i64 (hrs xs k : Nat), .int .i64 x.wants] := by rw [← hW7]; exact Blk.new _ _ _
        have y0 := hb7.cell 0
        have y1 := hb7.cell 1
        have y2 := hcd W7 g7
        have HB7 := Lib.hid hb7
        have HG7 := Lib.hid (HGr.out.trans (g7.mono HGr.out.size))
        have HO7 := Lib.hid (HO.out.ext g7)
        have hsz7 : W3.heap.size ≤ W7.heap.size := HG7.out.size
        have HL100 : (crowdK xs S d k).length < 100000 := by have := crowdK_len xs S d k; omega
        clear hg hown hca hx hxd hdm hcd hv g7 hb7 hxh
        cases bz with
        | false =>
          have HN0 := Lib.hid (show crowdK xs S d (k + 1) = crowdK xs S d k by rw [HNX.out]; simp)
          go_wp2_with fail
          go_roundw
          case rel => exact ⟨k + 1, by go_num, by omega, HG7.out, by rw [HN0.out]; exact HO7.out⟩
          case measure => simp [intOf]; omega
        | true =>
          by_cases hv0 : 0 < v
          · have HN0 := Lib.hid (show crowdK xs S d (k + 1) = crowdK xs S d k ++ [x.family] by rw [HNX.out]; simp [hv0])
            go_wp2_with (first | (at_builtin; refine push_int rfl _ _ rfl W3.heap.size _ (crowdK xs S d k) rfl (HO7.out.ext (one_more _ _)) _ _ _ _ rfl rfl (cell_new1 _ _ _ _ rfl) HL100 (by simp; omega) ?_; intro v' w' ho hbw))
            go_roundw
            case rel =>
              refine ⟨k + 1, by go_num, by omega, (HG7.out.alloc hsz7 _).trans (hbw _ (Nat.le_refl _)), ?_⟩
              rw [HN0.out]; exact ho
            case measure => simp [intOf]; omega
          · have HN0 := Lib.hid (show crowdK xs S d (k + 1) = crowdK xs S d k by rw [HNX.out]; simp; omega)
            go_wp2_with fail
            go_roundw
            case rel => exact ⟨k + 1, by go_num, by omega, HG7.out, by rw [HN0.out]; exact HO7.out⟩
            case measure => simp [intOf]; omega
      · obtain rfl : k = m := by omega
        have HSO := Lib.hid (sort_any W3.heap.size _ (crowdK xs S d k) wr hown (by have := crowdK_len xs S d k; omega) hsz)
        clear hg hown
        go_wp2_with fail
        refine HSO.out.mono ?_
        rintro e W8 ⟨rfl, ho8, hg8⟩
        have hlen8 : (srt (crowdK xs S d k)).length ≤ 12 := by
          have h1 := crowdK_len xs S d k
          have h2 : (srt (crowdK xs S d k)).length = (crowdK xs S d k).length := List.length_mergeSort _
          omega
        obtain ⟨E, c, rfl, hi⟩ := ho8.ints
        have HI8 := Lib.hid hi
        have HG8 := Lib.hid hg8
        clear hi ho8 hg8
        go_wp2_with fail
        go_ret2
        exact ⟨HG3.out.trans ((HGr.out.trans HG8.out).mono HG3.out.size), E, c, _, by rw [HFE.out]; rfl, HI8.out, hlen8, (fun q => by rw [HFE.out] at q; cases q), fun _ => HCR.out⟩

def crowdErr (xs : List Comer) (h : Int) (l F : List Int) : Int := if demE xs h l = 0 then (if crowdB xs l F = true then 0 else 54) else demE xs h l

set_option maxRecDepth 100000 in
theorem CheckCrowd_any (A D E : Option Addr) (n cc m cd q ce : Nat) (h : Int) (xs : List Comer) (l F : List Int) (w : World) (ha : Arr ccells 3 w A n xs) (hnc : n ≤ cc) (hd : Ints w D m l) (hF : Ints w E q F) (hm : m ≤ 9223372036854775807) (hn : n ≤ 9223372036854775807) (hq : q ≤ 9223372036854775807) :
    Calls Try.prog 60 #[mv A n cc h, .slice D m cd, .slice E q ce] w fun e w' => e = .returned (.int .i64 (crowdErr xs h l F)) ∧ Below w.heap.size w w' := by
  have HA := Lib.hid ha
  have HD := Lib.hid hd
  have HF := Lib.hid hF
  obtain ⟨de, hde⟩ : ∃ de, demE xs h l = de := ⟨_, rfl⟩
  have HDE := Lib.hid hde
  have HE := Lib.hid (show crowdErr xs h l F = if de = 0 then (if crowdB xs l F = true then 0 else 54) else de by rw [← hde]; rfl)
  generalize crowdErr xs h l F = res at HE ⊢
  clear ha hd hF hde
  unfold mv
  go_enter Try.func60, Try.ntmps60
  go_wp2_with fail
  generalize hW1 : w.alloc (.cells #[.int .i64 h, .slice A n cc] 24) = W1
  obtain ⟨g1, c0, c1⟩ := box2 hW1
  have HG1 := Lib.hid g1
  have hwl : w.heap.size < W1.heap.size := by rw [boxSize hW1]; omega
  clear hW1
  refine (demanded_any A D n cc m cd h xs l W1 (HA.out.below g1) hnc (HD.out.below g1) hm hn).mono ?_
  rw [HDE.out]
  rintro e W2 ⟨rfl, hg2⟩
  have HG2 := Lib.hid (HG1.out.trans (hg2.mono HG1.out.size))
  have d0 := (hg2.cell (p := ⟨w.heap.size, 0, none⟩) hwl).trans c0
  have d1 := (hg2.cell (p := ⟨w.heap.size, 1, none⟩) hwl).trans c1
  clear c0 c1 g1 hg2
  by_cases hz : de = 0
  · obtain ⟨k1, k2⟩ := demE_zero (HDE.out.trans hz)
    have HCR := Lib.hid (crowded_any A D E n cc m cd q ce h xs l F W2 (HA.out.below HG2.out) ((okMill_iff h xs).1 k1) (HD.out.below HG2.out) k2 (HF.out.below HG2.out) hq)
    unfold mv at HCR
    have HE2 := Lib.hid (show res = if crowdB xs l F = true then 0 else 54 by rw [HE.out, if_pos hz])
    subst hz
    clear k1 k2
    generalize crowdB xs l F = cb at HCR HE2
    cases cb with
    | true =>
      go_wp2_with (first | (go_at_call 96; refine HCR.out.mono ?_; rintro e w' ⟨rfl, hg3⟩; have HG3 := Lib.hid hg3; clear hg3))
      go_ret
      exact ⟨ret_int HE2.out.symm, HG2.out.trans (HG3.out.mono HG2.out.size)⟩
    | false =>
      go_wp2_with (first | (go_at_call 96; refine HCR.out.mono ?_; rintro e w' ⟨rfl, hg3⟩; have HG3 := Lib.hid hg3; clear hg3))
      go_ret
      exact ⟨ret_int HE2.out.symm, HG2.out.trans (HG3.out.mono HG2.out.size)⟩
  · have hz' : (de != 0) = true := by simpa using hz
    have HE2 := Lib.hid (show res = de by rw [HE.out, if_neg hz])
    clear hz
    go_wp2_with fail
    go_ret
    exact ⟨ret_int HE2.out.symm, HG2.out⟩

/-- The error of Crowd. -/
def crowE (xs : List Comer) (h : Int) (l : List Int) : Int := if demE xs h l = 0 then (if fea xs h.toNat (-1) l = true then 55 else 0) else demE xs h l
def CrowPost (xs : List Comer) (h : Int) (l : List Int) (er : Int) (w : World) (e : Ending) (w' : World) : Prop :=
  Below w.heap.size w w' ∧ ∃ D c F, e = .returned (.tuple #[.slice D F.length c, .int .i64 er]) ∧ Ints w' D F.length F ∧ F.length ≤ 12 ∧ (er ≠ 0 → F = []) ∧ (er = 0 → crowdErr xs h l F = 0)

set_option maxRecDepth 100000 in
set_option maxHeartbeats 1000000 in
theorem Crowd_any (A D : Option Addr) (n cc m cd : Nat) (h : Int) (xs : List Comer) (l : List Int) (w : World) (ha : Arr ccells 3 w A n xs) (hnc : n ≤ cc) (hd : Ints w D m l) (hm : m ≤ 9223372036854775807) (hn : n ≤ 9223372036854775807) :
    Calls Try.prog 56 #[mv A n cc h, .slice D m cd] w (CrowPost xs h l (crowE xs h l) w) := by
  have HA := Lib.hid ha
  have HD := Lib.hid hd
  obtain ⟨de, hde⟩ : ∃ de, demE xs h l = de := ⟨_, rfl⟩
  obtain ⟨er, her⟩ : ∃ er, crowE xs h l = er := ⟨_, rfl⟩
  have HDE := Lib.hid hde
  have HE := Lib.hid (show er = if de = 0 then (if fea xs h.toNat (-1) l = true then 55 else 0) else de by rw [← hde, ← her]; rfl)
  have HCE := Lib.hid (show ∀ F, crowdErr xs h l F = if de = 0 then (if crowdB xs l F = true then 0 else 54) else de from fun F => by rw [← hde]; rfl)
  rw [her]
  clear ha hd hde her
  unfold mv
  go_enter Try.func56, Try.ntmps56
  go_wp2_with fail
  generalize hW1 : w.alloc (.cells #[.int .i64 h, .slice A n cc] 24) = W1
  obtain ⟨g1, c0, c1⟩ := box2 hW1
  have HG1 := Lib.hid g1
  have hwl : w.heap.size < W1.heap.size := by rw [boxSize hW1]; omega
  clear hW1
  refine (demanded_any A D n cc m cd h xs l W1 (HA.out.below g1) hnc (HD.out.below g1) hm hn).mono ?_
  rw [HDE.out]
  rintro e W2 ⟨rfl, hg2⟩
  have HG2 := Lib.hid (HG1.out.trans (hg2.mono HG1.out.size))
  have d0 := (hg2.cell (p := ⟨w.heap.size, 0, none⟩) hwl).trans c0
  have d1 := (hg2.cell (p := ⟨w.heap.size, 1, none⟩) hwl).trans c1
  clear c0 c1 g1 hg2
  by_cases hz : de = 0
  · obtain ⟨k1, k2⟩ := demE_zero (HDE.out.trans hz)
    have HCR := Lib.hid (crowd_any A D n cc m cd h xs l W2 (HA.out.below HG2.out) ((okMill_iff h xs).1 k1) (HD.out.below HG2.out) k2)
    unfold mv at HCR
    have HE2 := Lib.hid (show er = if fea xs h.toNat (-1) l = true then 55 else 0 by rw [HE.out, if_pos hz])
    have HC2 := Lib.hid (show ∀ F, crowdErr xs h l F = if crowdB xs l F = true then 0 else 54 from fun F => by rw [HCE.out, if_pos hz])
    subst hz
    clear k1 k2
    go_wp2_with fail
    refine HCR.out.mono ?_
    rintro e W3 ⟨hg3, E, c, F, rfl, hi, hlen, hy, hno⟩
    have HG3 := Lib.hid (HG2.out.trans (hg3.mono HG2.out.size))
    have HI := Lib.hid hi
    have HY := Lib.hid hy
    have HN := Lib.hid hno
    generalize fea xs h.toNat (-1) l = fb at HY HN HE2 ⊢
    clear hg3 hi hy hno
    cases fb with
    | true =>
      go_wp2_with fail
      go_ret2
      have e : er = 55 := HE2.out
      subst e
      exact ⟨HG3.out, none, 0, [], rfl, Arr.nil_, by simp, fun _ => rfl, fun q => by omega⟩
    | false =>
      go_wp2_with fail
      go_ret2
      have e : er = 0 := HE2.out
      subst e
      exact ⟨HG3.out, E, c, F, rfl, HI.out, hlen, fun q => absurd rfl q, fun _ => by rw [HC2.out, if_pos (HN.out trivial)]⟩
  · have hz' : (de != 0) = true := by simpa using hz
    have HZ := Lib.hid hz
    have HE2 := Lib.hid (show er = de by rw [HE.out, if_neg hz])
    clear hz
    go_wp2_with fail
    go_ret2
    have e : er = de := HE2.out
    subst e
    exact ⟨HG2.out, none, 0, [], rfl, Arr.nil_, by simp, fun _ => rfl, fun q => absurd q HZ.out⟩

def unsE (xs : List Comer) (h : Int) : Int := if okMill h xs = true then crowE xs h (capped xs 1) else 52

set_option maxRecDepth 100000 in
set_option maxHeartbeats 2000000 in
theorem Unserved_any (A : Option Addr) (n cc : Nat) (h : Int) (xs : List Comer) (w : World) (ha : Arr ccells 3 w A n xs) (hnc : n ≤ cc) (hn : n ≤ 9223372036854775807) :
    Calls Try.prog 57 #[mv A n cc h] w (CrowPost xs h (capped xs 1) (unsE xs h) w) := by
  have HA := Lib.hid ha
  have hlen := Lib.hid ha.1
  obtain ⟨ok, hok⟩ : ∃ ok, okMill h xs = ok := ⟨_, rfl⟩
  have HOK := Lib.hid hok
  have HE := Lib.hid (show unsE xs h = if ok = true then crowE xs h (capped xs 1) else 52 by rw [← hok]; rfl)
  generalize unsE xs h = er at HE ⊢
  clear ha hok
  unfold mv
  go_enter Try.func57, Try.ntmps57
  go_wp2_with fail
  generalize hW1 : w.alloc (.cells #[.int .i64 h, .slice A n cc] 24) = W1
  obtain ⟨g1, c0, c1⟩ := box2 hW1
  have HG1 := Lib.hid g1
  have hwl : w.heap.size < W1.heap.size := by rw [boxSize hW1]; omega
  clear hW1
  refine (check_any h A n cc xs W1 (HA.out.below g1) hnc hn).mono ?_
  rw [HOK.out]
  rintro e W2 ⟨rfl, hg2⟩
  have HG2 := Lib.hid (HG1.out.trans (hg2.mono HG1.out.size))
  have d0 := (hg2.cell (p := ⟨w.heap.size, 0, none⟩) hwl).trans c0
  have d1 := (hg2.cell (p := ⟨w.heap.size, 1, none⟩) hwl).trans c1
  have hwl2 : w.heap.size < W2.heap.size := by have := hg2.size; omega
  clear c0 c1 g1 hg2
  cases ok with
  | false =>
    rw [show err false 52 = 52 from rfl]
    go_wp2_with fail
    go_ret2
    have e : er = 52 := HE.out
    subst e
    exact ⟨HG2.out, none, 0, [], rfl, Arr.nil_, by simp, fun _ => rfl, fun q => by omega⟩
  | true =>
    rw [show err true 52 = 0 from rfl]
    have hn12 : n ≤ 12 := by have := ((okMill_iff h xs).1 HOK.out).n12; have := hlen.out; omega
    have e : er = crowE xs h (capped xs 1) := HE.out
    subst e
    have HGd := Lib.hid (show Below w.heap.size w W2.drew from HG2.out.drew)
    have D0 := Lib.hid d0
    have D1 := Lib.hid d1
    have hd0 : W2.drew.cell? ⟨w.heap.size, 0, none⟩ = some (.int .i64 h) := d0
    have hd1 : W2.drew.cell? ⟨w.heap.size, 1, none⟩ = some (.slice A n cc) := d1
    have HC := Lib.hid (fun D c W' (hi : Ints W' D n (capped xs 1)) (hg : Below w.heap.size w W') => Crowd_any A D n cc n c h xs (capped xs 1) W' (HA.out.below hg) hnc hi (by omega) hn)
    have HM := Lib.hid (atMost_any A n cc h 1 xs W2.drew (HA.out.below HGd.out) hn12)
    unfold mv at HC HM
    have hwd : Below W2.heap.size W2 W2.drew := (Below.refl _ _).drew
    have HWD := Lib.hid hwd
    clear hwd
    go_wp2_with fail
    go_region_with (first
      | (go_at_call 88; (with_reducible refine (HM.out).mono ?_); rintro e w3 ⟨⟨D, c, rfl, hi⟩, hbl⟩; have HI := Lib.hid hi; have HB3 := Lib.hid (HWD.out.trans (hbl.mono (Nat.le_refl _))); have HG3 := Lib.hid (HG2.out.trans (HB3.out.mono HG2.out.size)); have d2 := keep HB3.out D0.out; have d3 := keep HB3.out D1.out; clear hi hbl)
      | (go_at_call 56; (with_reducible refine (HC.out D c w3 HI.out HG3.out).mono ?_); rintro e w4 ⟨hg4, E, c4, F, rfl, hi4, hl4, hy4, hn4⟩; have HG4 := Lib.hid (HG3.out.trans (hg4.mono HG3.out.size)); have HI4 := Lib.hid hi4; have HY4 := Lib.hid hy4; have HN4 := Lib.hid hn4; clear hg4 hi4 hy4 hn4))
    all_goals
      go_wp2_with fail
      go_ret2
      exact ⟨HG4.out, E, c4, F, rfl, HI4.out, hl4, HY4.out, HN4.out⟩
end Go.Proofs.Ytdhhneflhmkonaa
