/- The mill: Check, turns, Level, Hours, Serves, CheckShare, Idle, Clone. -/
import Derived.Test.YtdhhneflhmkonaaKA
import Derived.Test.YtdhhneflhmkonaaKB
import Derived.Deep.OwnRows
import Derived.Deep.RegionWith

/- The mill: Check of a mill within the bounds. -/
namespace Go.Proofs.Ytdhhneflhmkonaa
open Go.RowKit

theorem pow24 {h : Int} (h0 : 0 ≤ h) (h24 : h ≤ 24) : wrap64 (2 ^ h.toNat) = 2 ^ h.toNat ∧ (1 : Int) ≤ 2 ^ h.toNat ∧ (2 : Int) ^ h.toNat ≤ 16777216 := by
  obtain ⟨n, rfl⟩ := Int.eq_ofNat_of_zero_le h0
  rw [Int.toNat_natCast]
  have hn : n ≤ 24 := by omega
  have e : (2 : Int) ^ n = ((2 ^ n : Nat) : Int) := by simp
  have h1 : 2 ^ n ≤ 2 ^ 24 := Nat.pow_le_pow_right (by decide) hn
  have h2 : 0 < 2 ^ n := Nat.pow_pos (by decide)
  rw [e]
  refine ⟨IntWalk.wrap64_in _ ⟨by omega, by omega⟩, by omega, by omega⟩

def okComer (h : Int) (l : List Comer) (c : Comer) : Bool := isComer c && decide (c.hours < 2 ^ h.toNat) && decide (idx l c.family < 0)
/-- The comers are valid, each as behind the ones before it. -/
def okComers (h : Int) (xs : List Comer) : Bool := (List.range xs.length).all fun k => okComer h (xs.take k) (xs.getD k ⟨0, 0, 0⟩)

theorem okComers_no {h : Int} {xs : List Comer} {k : Nat} {x : Comer} (hx : xs[k]? = some x) (hk : okComer h (xs.take k) x = false) : okComers h xs = false := by
  have hlt : k < xs.length := (List.getElem?_eq_some_iff.1 hx).1
  unfold okComers
  rw [List.all_eq_false]
  refine ⟨k, List.mem_range.2 hlt, ?_⟩
  rw [List.getD_eq_getElem?_getD, hx]; simpa using hk

theorem check_in (h : Int) (A : Option Addr) (n c : Nat) (xs : List Comer) (w : World) (ha : Arr ccells 3 w A n xs) (hh : rng h 0 24 = true) (hn : n ≤ 12) (hnc : n ≤ c) :
    Calls Try.prog 53 #[.agg #[.int .i64 h, .slice A n c]] w fun e w' => e = .returned (.int .i64 (err (okComers h xs) 52)) ∧ Below w.heap.size w w' := by
  have h0 : 0 ≤ h := by simp [rng] at hh; omega
  have h24 : h ≤ 24 := by simp [rng] at hh; omega
  obtain ⟨hp, -, -⟩ := pow24 h0 h24
  have hlen := Lib.hid ha.1
  have hb0 : Below w.heap.size w (w.alloc (.cells #[.int .i64 h, .slice A n c] 24)) := (Below.refl _ _).alloc (Nat.le_refl _) _
  have c0 : (w.alloc (.cells #[.int .i64 h, .slice A n c] 24)).cell? ⟨w.heap.size, 0, none⟩ = some (.int .i64 h) := by simp [go_sem]
  have c1 : (w.alloc (.cells #[.int .i64 h, .slice A n c] 24)).cell? ⟨w.heap.size, 1, none⟩ = some (.slice A n c) := by simp [go_sem]
  go_enter Try.func53, Try.ntmps53
  go_wp2_with (first | (go_at_call 64; refine (within_any _ _ _ _).mono ?_; rintro e w' ⟨rfl, rfl⟩))
  generalize w.alloc (.cells #[.int .i64 h, .slice A n c] 24) = W0 at hb0 c0 c1 ⊢
  have e0 := cellW c0
  have e1 := cellW c1
  have ha0 := ha.below hb0
  clear ha
  go_loopw [18] (fun i wr => ∃ k : Nat, k ≤ n ∧ i = .int .i64 k ∧ (∃ x : Wd W0, wr = x.val) ∧ (∀ j, j < k → ∀ x, xs[j]? = some x → okComer h (xs.take j) x = true)) (fun i _ => n - (intOf i).toNat)
  case atStart => exact ⟨0, Nat.zero_le _, rfl, Wd.self _, fun j hj => absurd hj (by omega)⟩
  case round =>
    obtain ⟨k, hk, rfl, ⟨wx, rfl⟩, hall⟩ := hrel
    have Hall := Lib.hid hall
    clear hall c0 c1
    by_cases hlt : k < n
    · obtain ⟨b, o, x, rfl, hab, hx, hcell⟩ := comer_at ha0 hlt
      obtain ⟨q0, q1, q2⟩ := hcell _ wx.ok
      have Hx := Lib.hid hx
      have hb1 : Below W0.heap.size W0 (wx.val.alloc (.cells #[.int .i64 x.family, .int .i64 x.hours, .int .i64 x.wants] 53)) := wx.ok.alloc wx.size _
      have d0 : (wx.val.alloc (.cells #[.int .i64 x.family, .int .i64 x.hours, .int .i64 x.wants] 53)).cell? ⟨wx.val.heap.size, 0, none⟩ = some (.int .i64 x.family) := by simp [go_sem]
      have d1 : (wx.val.alloc (.cells #[.int .i64 x.family, .int .i64 x.hours, .int .i64 x.wants] 53)).cell? ⟨wx.val.heap.size, 1, none⟩ = some (.int .i64 x.hours) := by simp [go_sem]
      have d2 : (wx.val.alloc (.cells #[.int .i64 x.family, .int .i64 x.hours, .int .i64 x.wants] 53)).cell? ⟨wx.val.heap.size, 2, none⟩ = some (.int .i64 x.wants) := by simp [go_sem]
      clear hx hcell
      go_wp2_with fail
      have d3 := e0 ⟨_, hb1⟩
      have d4 := e1 ⟨_, hb1⟩
      dsimp only at d3 d4
      generalize (wx.val.alloc (.cells #[.int .i64 x.family, .int .i64 x.hours, .int .i64 x.wants] 53)) = W1 at hb1 d0 d1 d2 d3 d4 ⊢
      have f0 := cellW d0
      have f1 := cellW d1
      have f2 := cellW d2
      have f3 := cellW d3
      have f4 := cellW d4
      have ha1 := Lib.hid ((ha0.below hb1).take (Nat.le_of_lt hlt))
      clear d0 d1 d2 d3 d4 e0 e1
      cases hA : isComer x with
      | true =>
        have ce : Value.int .i64 (err (isComer x) 51) = .int .i64 0 := by rw [hA]; rfl
        by_cases hB : x.hours < 2 ^ h.toNat
        · have hB' : decide (2 ^ h.toNat ≤ x.hours) = false := by simpa using hB
          refine wp_region_calm W1 (by kernel_rfl) (by kernel_rfl) (Below.refl _ _) ?_
          repeat (go_big_quiet_step (first | (go_at_call 51; exact callsCalm (callsRet (checkComer_any x _) ce)) | (go_at_call 63; exact callsCalm (index_any _ _ _ _ _ _ (ha1.out.below (Wd.ok _)) (by omega)))))
          refine wpQuiet_nil ?_
          rintro _ ⟨wy, rfl⟩
          go_wp2
          · go_ret
            have hi : 0 ≤ idx (List.take k xs) x.family := by assumption
            exact ⟨ret_int (by rw [okComers_no Hx.out (by simp [okComer, hi])]; rfl), extTrans hb0 (extTrans hb1 wy.ok)⟩
          · have hi : idx (List.take k xs) x.family < 0 := by assumption
            go_roundw
            case rel =>
              refine ⟨k + 1, by omega, by go_num, Wd.of (extTrans hb1 wy.ok), fun j hj y hy => ?_⟩
              by_cases hjk : j < k
              · exact Hall.out j hjk y hy
              · obtain rfl : j = k := by omega
                rw [Hx.out] at hy; simp at hy; subst hy
                simp [okComer, hA, hB, hi]
            case measure => simp [intOf]; omega
        · have hno := Lib.hid (show okComer h (xs.take k) x = false by simp [okComer, hB])
          have hB' : decide (2 ^ h.toNat ≤ x.hours) = true := by simpa using hB
          refine wp_region_calm W1 (by kernel_rfl) (by kernel_rfl) (Below.refl _ _) ?_
          repeat (go_big_quiet_step ((go_at_call 51; exact callsCalm (callsRet (checkComer_any x _) ce))))
          refine wpQuiet_nil ?_
          rintro _ ⟨wy, rfl⟩
          go_wp2
          go_ret
          exact ⟨ret_int (by rw [okComers_no Hx.out hno.out]; rfl), extTrans hb0 (extTrans hb1 wy.ok)⟩
      | false =>
        have ce : Value.int .i64 (err (isComer x) 51) = .int .i64 51 := by rw [hA]; rfl
        refine wp_region_calm W1 (by kernel_rfl) (by kernel_rfl) (Below.refl _ _) ?_
        repeat (go_big_quiet_step ((go_at_call 51; exact callsCalm (callsRet (checkComer_any x _) ce))))
        refine wpQuiet_nil ?_
        rintro _ ⟨wy, rfl⟩
        go_wp2
        go_ret
        exact ⟨ret_int (by rw [okComers_no Hx.out (by simp [okComer, hA])]; rfl), extTrans hb0 (extTrans hb1 wy.ok)⟩
    · go_wp2
      go_ret
      have hok : okComers h xs = true := by
        unfold okComers
        rw [List.all_eq_true]
        intro j hj
        have hj' : j < xs.length := List.mem_range.1 hj
        have := Hall.out j (by have := hlen.out; omega) _ (List.getElem?_eq_getElem hj')
        rw [List.getD_eq_getElem?_getD, List.getElem?_eq_getElem hj']
        exact this
      exact ⟨ret_int (by rw [hok]; rfl), extTrans hb0 wx.ok⟩
end Go.Proofs.Ytdhhneflhmkonaa

/- The mill: Check, of any mill. -/
namespace Go.Proofs.Ytdhhneflhmkonaa
open Go.RowKit

/-- A valid mill. -/
def okMill (h : Int) (xs : List Comer) : Bool := rng h 0 24 && decide (xs.length ≤ 12) && okComers h xs

theorem check_any (h : Int) (A : Option Addr) (n c : Nat) (xs : List Comer) (w : World) (ha : Arr ccells 3 w A n xs) (hnc : n ≤ c) (hn : n ≤ 9223372036854775807) :
    Calls Try.prog 53 #[.agg #[.int .i64 h, .slice A n c]] w fun e w' => e = .returned (.int .i64 (err (okMill h xs) 52)) ∧ Below w.heap.size w w' := by
  have hlen := ha.1
  cases hr : rng h 0 24 with
  | true =>
    by_cases h12 : n ≤ 12
    · have : okMill h xs = okComers h xs := by simp [okMill, hr, hlen, h12]
      rw [this]
      exact check_in h A n c xs w ha hr h12 hnc
    · have : err (okMill h xs) 52 = 52 := by simp [okMill, err, hlen, h12]
      have HO := Lib.hid this
      have hgt : decide ((12 : Int) < n) = true := by simp; omega
      clear this hlen ha
      have hb0 : Below w.heap.size w (w.alloc (.cells #[.int .i64 h, .slice A n c] 24)) := (Below.refl _ _).alloc (Nat.le_refl _) _
      go_enter Try.func53, Try.ntmps53
      go_wp2_with (first | (go_at_call 64; refine (within_any _ _ _ _).mono ?_; rw [hr]; rintro e w' ⟨rfl, rfl⟩))
      go_ret
      exact ⟨ret_int HO.out.symm, hb0⟩
  | false =>
    have : err (okMill h xs) 52 = 52 := by simp [okMill, err, hr]
    have HO := Lib.hid this
    clear this hlen ha
    have hb0 : Below w.heap.size w (w.alloc (.cells #[.int .i64 h, .slice A n c] 24)) := (Below.refl _ _).alloc (Nat.le_refl _) _
    go_enter Try.func53, Try.ntmps53
    go_wp2_with (first | (go_at_call 64; refine (within_any _ _ _ _).mono ?_; rw [hr]; rintro e w' ⟨rfl, rfl⟩))
    go_ret
    exact ⟨ret_int HO.out.symm, hb0⟩
end Go.Proofs.Ytdhhneflhmkonaa

/- The mill: 'turns'. -/
namespace Go.Proofs.Ytdhhneflhmkonaa
open Go.RowKit Go.Shelf

theorem Blk.ints {w : World} {g : Nat} {l : List Int} (h : Blk w g 3 (vals l)) : Ints w (some ⟨g, 0, none⟩) l.length l :=
  ⟨rfl, fun _ => ⟨g, 0, rfl, h.lt, fun k x hx j u hu => by
    have hj : j = 0 := by
      rcases Nat.lt_or_ge j 1 with h | h
      · omega
      · rw [List.getElem?_eq_none (by simp [icells]; omega)] at hu; cases hu
    subst hj
    have hu' : u = .int .i64 x := by simp [icells] at hu; exact hu.symm
    subst hu'
    rw [show 0 + k * 1 + 0 = k by omega, h.cell k, vals_get, hx]; rfl⟩⟩
theorem Blk.intsN {w : World} {g n : Nat} {l : List Int} (h : Blk w g 3 (vals l)) (hn : l.length = n) : Ints w (some ⟨g, 0, none⟩) n l := hn ▸ h.ints

set_option maxRecDepth 100000 in
set_option maxHeartbeats 2000000 in
theorem turns_any (A : Option Addr) (n cc H : Nat) (xs : List Comer) (w : World) (ha : Arr ccells 3 w A n xs) (hX : Hrs xs) (hH : H ≤ 24) (hn : n ≤ 12) :
    Calls Try.prog 65 #[mv A n cc H] w fun e w' => (∃ b, e = .returned (.slice (some ⟨b, 0, none⟩) n n) ∧ w.heap.size ≤ b ∧ Blk w' b 3 (vals (turnsS xs H))) ∧ Below w.heap.size w w' := by
  have hlen := Lib.hid ha.1
  have HA := Lib.hid ha
  have HX := Lib.hid hX
  clear ha hX
  have hmk := fun w => run_make_row' (P := Try.prog) 28 3 (.int .i64 0) 8 (by kernel_rfl) (by kernel_rfl) (by simp [Value.cells]) .i64 .i64 n (by omega) (by omega) w
  unfold mv
  go_enter Try.func65, Try.ntmps65
  go_wp2_with fail
  rw [made_vals]
  generalize hW1 : w.alloc (.cells #[.int .i64 H, .slice A n cc] 24) = W1
  obtain ⟨g1, c0, c1⟩ := box2 hW1
  have s1 := boxSize hW1
  clear hW1
  rw [← s1]
  generalize hW2 : (W1.alloc (.cells (vals (List.replicate n 0)) 3)) = W2
  have hb2 : Blk W2 W1.heap.size 3 (vals (List.replicate n 0)) := by rw [← hW2]; exact Blk.new _ _ _
  have g2 : Below W1.heap.size W1 W2 := by rw [← hW2]; exact (Below.refl _ _).alloc (Nat.le_refl _) _
  have HB2 := Lib.hid hb2
  have HG2 := Lib.hid g2
  have HG1 := Lib.hid g1
  have hlt := hb2.lt
  have hwlt : w.heap.size < W1.heap.size := by omega
  have HA1 := Lib.hid (HA.out.below g1)
  have C0 := Lib.hid c0
  have C1 := Lib.hid c1
  clear hW2 hb2 g2 g1 c0 c1 s1 hmk
  obtain ⟨bo, hbo⟩ : ∃ bo, W1.heap.size = bo := ⟨_, rfl⟩
  rw [hbo] at hlt hwlt HB2 ⊢
  have HBO := Lib.hid hbo
  clear hbo
  go_loopw [4] (fun v wr => ∃ r : Nat, v = .int .i64 ((r : Int) + 1) ∧ r ≤ 24 ∧ Below W1.heap.size W1 wr ∧ Blk wr bo 3 (vals (turnsT xs H r))) (fun v _ => 25 - (intOf v).toNat)
  case atStart => exact ⟨0, rfl, by omega, HG2.out, by rw [turnsT, hlen.out]; exact HB2.out⟩
  case round =>
    obtain ⟨r, rfl, hr, hg, hb⟩ := hrel
    have HG := Lib.hid hg
    have HB := Lib.hid hb
    by_cases hr24 : r < 24
    · have d0 : wr.cell? ⟨w.heap.size, 0, none⟩ = some (.int .i64 H) := (hg.cell (p := ⟨w.heap.size, 0, none⟩) (by have := HBO.out; dsimp only; omega)).trans C0.out
      have d1 : wr.cell? ⟨w.heap.size, 1, none⟩ = some (.slice A n cc) := (hg.cell (p := ⟨w.heap.size, 1, none⟩) (by have := HBO.out; dsimp only; omega)).trans C1.out
      have hle : decide ((r : Int) + 1 ≤ 24) = true := by simp; omega
      clear hg hb
      go_wp2_with fail
      go_loopw [18] (fun v wi => ∃ k : Nat, v = .int .i64 k ∧ k ≤ n ∧ Below W1.heap.size W1 wi ∧ Blk wi bo 3 (vals (rowT xs H ((r : Int) + 1) k (turnsT xs H r)))) (fun v _ => n - (intOf v).toNat)
      case atStart => exact ⟨0, rfl, by omega, HG.out, HB.out⟩
      case round =>
        obtain ⟨k, rfl, hk, hg, hb⟩ := hrel
        rename World => wi
        have HGi := Lib.hid hg
        have HBi := Lib.hid hb
        by_cases hkn : k < n
        · obtain ⟨b, o, x, hAe, hbl, hx, hc⟩ := comer_at (HA1.out.below hg) hkn
          obtain ⟨q0, q1, q2⟩ := hc wi (Below.refl _ _)
          obtain ⟨out, hout⟩ : ∃ out, rowT xs H ((r : Int) + 1) k (turnsT xs H r) = out := ⟨_, rfl⟩
          have hol : out.length = n := by rw [← hout, rowT_len, turnsT_len, hlen.out]
          have hobd : ∀ y ∈ out, 0 ≤ y ∧ y ≤ (r : Int) + 1 := by
            rw [← hout]; exact rowT_bd (by omega) _ _ (fun y hy => by have := turnsT_bd xs H r y hy; omega)
          have hnext : rowT xs H ((r : Int) + 1) (k + 1) (turnsT xs H r) = stepI xs H ((r : Int) + 1) out k := by rw [← hout]; rfl
          have hstep : stepI xs H ((r : Int) + 1) out k = if x.wants < (r : Int) + 1 ∨ out.getD k 0 ≠ (r : Int) + 1 - 1 then out
              else if fea xs H (-1) (out.set k (out.getD k 0 + 1)) = true then out.set k (out.getD k 0 + 1) else out := by
            unfold stepI; rw [List.getD_eq_getElem?_getD, hx]; rfl
          obtain ⟨e, he⟩ : ∃ e, out.getD k 0 = e := ⟨_, rfl⟩
          have hek : out[k]? = some e := by rw [← he, List.getD_eq_getElem?_getD, List.getElem?_eq_getElem (by omega)]; rfl
          have hebd := hobd e (List.mem_of_getElem? hek)
          rw [he] at hstep
          rw [hout] at hb HBi
          have HNX := Lib.hid hnext
          have HST := Lib.hid hstep
          have HOL := Lib.hid hol
          have HOB := Lib.hid hobd
          have HEK := Lib.hid hek
          have HHE := Lib.hid he
          subst hAe
          have hba : Blk (wi.alloc (.cells #[.int .i64 x.family, .int .i64 x.hours, .int .i64 x.wants] 53)) bo 3 (vals out) := hb.alloc _
          have e0 : (wi.alloc (.cells #[.int .i64 x.family, .int .i64 x.hours, .int .i64 x.wants] 53)).cell? ⟨bo, k, none⟩ = some (.int .i64 e) := by rw [hba.cell k, vals_get, hek]; rfl
          have e1 := hba.frozen k
          have HBA := Lib.hid hba
          have hga : Below W1.heap.size W1 (wi.alloc (.cells #[.int .i64 x.family, .int .i64 x.hours, .int .i64 x.wants] 53)) := hg.alloc hg.size _
          have HGA := Lib.hid hga
          clear hc hnext hstep hol hobd hek he hout hx hb hba hg hga
          by_cases hw : x.wants < (r : Int) + 1
          · have HN := Lib.hid (show stepI xs H ((r : Int) + 1) out k = out by rw [HST.out, if_pos (.inl hw)])
            go_wp2_with fail
            go_roundw
            case rel => exact ⟨k + 1, by go_num, by omega, HGA.out, by rw [HNX.out, HN.out]; exact HBA.out⟩
            case measure => simp [intOf]; omega
          · by_cases her : e = (r : Int)
            · subst her
              have HN := Lib.hid (show stepI xs H ((r : Int) + 1) out k = if fea xs H (-1) (out.set k ((r : Int) + 1)) = true then out.set k ((r : Int) + 1) else out by
                rw [HST.out, if_neg (by omega)])
              obtain ⟨d, hd⟩ : ∃ d, out.set k ((r : Int) + 1) = d := ⟨_, rfl⟩
              have hdl : d.length = n := by rw [← hd, List.length_set]; exact HOL.out
              have hdb : ∀ y ∈ d, 0 ≤ y ∧ y ≤ 24 := by
                rw [← hd]; intro y hy
                rcases List.mem_or_eq_of_mem_set hy with h1 | h1
                · have := HOB.out y h1; omega
                · omega
              have hback : d.set k (r : Int) = out := by
                rw [← hd, List.set_set]
                apply List.ext_getElem?
                intro j
                rw [List.getElem?_set]
                have hol := HOL.out
                by_cases hj : k = j
                · subst hj; rw [if_pos rfl, if_pos (by omega)]; exact HEK.out.symm
                · rw [if_neg hj]
              have hdk : d[k]? = some ((r : Int) + 1) := by rw [← hd, List.getElem?_set]; have := HOL.out; simp; omega
              rw [hd] at HN
              have HD := Lib.hid hd
              have HDL := Lib.hid hdl
              have HDB := Lib.hid hdb
              have HBK := Lib.hid hback
              have HDK := Lib.hid hdk
              clear hd hdl hdb hback hdk
              go_wp2_with fail
              have hb5 : Blk ((wi.alloc (.cells #[.int .i64 x.family, .int .i64 x.hours, .int .i64 x.wants] 53)).setCell ⟨bo, k, none⟩ (.int .i64 ((r : Int) + 1))) bo 3 (vals d) := by
                have := HBA.out.set_ k (.int .i64 ((r : Int) + 1)); rw [vals_set, HD.out] at this; exact this
              have hg5 : Below W1.heap.size W1 ((wi.alloc (.cells #[.int .i64 x.family, .int .i64 x.hours, .int .i64 x.wants] 53)).setCell ⟨bo, k, none⟩ (.int .i64 ((r : Int) + 1))) :=
                HGA.out.setCell (p := ⟨bo, k, none⟩) (by have := HBO.out; dsimp only; omega) _
              generalize (wi.alloc (.cells #[.int .i64 x.family, .int .i64 x.hours, .int .i64 x.wants] 53)).setCell ⟨bo, k, none⟩ (.int .i64 ((r : Int) + 1)) = W5 at hb5 hg5 ⊢
              have d0' : W5.cell? ⟨w.heap.size, 0, none⟩ = some (.int .i64 H) := (hg5.cell (p := ⟨w.heap.size, 0, none⟩) (by have := HBO.out; dsimp only; omega)).trans C0.out
              have d1' : W5.cell? ⟨w.heap.size, 1, none⟩ = some (.slice (some ⟨b, o, none⟩) n cc) := (hg5.cell (p := ⟨w.heap.size, 1, none⟩) (by have := HBO.out; dsimp only; omega)).trans C1.out
              have F : ∀ x : Wd W5, x.val.cell? ⟨w.heap.size, 0, none⟩ = some (.int .i64 H) ∧ x.val.cell? ⟨w.heap.size, 1, none⟩ = some (.slice (some ⟨b, o, none⟩) n cc) := fun x => ⟨cellW d0' x, cellW d1' x⟩
              have HB5 := Lib.hid hb5
              have HG5 := Lib.hid hg5
              have hsum := fun x : Wd W5 => callsCalmSame (sum_any (some ⟨bo, 0, none⟩) n n d x.val ((HB5.out.intsN HDL.out).below x.ok) (by omega) (fun y hy => by have := HDB.out y hy; omega))
              have hsrv := fun x : Wd W5 => callsCalm (serves_any (some ⟨b, o, none⟩) (some ⟨bo, 0, none⟩) n cc n H xs d x.val ((HA1.out.below HG5.out).below x.ok) HX.out hH hn ((HB5.out.intsN HDL.out).below x.ok) (fun y hy => by have := HDB.out y hy; omega))
              have HSUM := Lib.hid hsum
              have HSRV := Lib.hid hsrv
              have hdk5 : W5.cell? ⟨bo, k, none⟩ = some (.int .i64 ((r : Int) + 1)) := by rw [hb5.cell k, vals_get, HDK.out]; rfl
              have HC5 := Lib.hid hdk5
              have hfz5 := hb5.frozen k
              have HF5 := Lib.hid hfz5
              have hfs := fea_sum (xs := xs) (H := H) (b := -1) (d := d) (by rw [HDL.out, hlen.out])
              have HFS := Lib.hid hfs
              clear d0' d1' hb5 hg5 hsum hsrv hdk5 hfz5 hfs e0 e1 q0 q1 q2
              obtain ⟨S, hS⟩ : ∃ S, d.sum = S := ⟨_, rfl⟩
              obtain ⟨bf, hbf⟩ : ∃ bf, fea xs H (-1) d = bf := ⟨_, rfl⟩
              rw [hS] at HSUM HFS
              rw [hbf] at HSRV HFS HN
              by_cases hSH : (H : Int) < S
              · have hbf0 : bf = false := by
                  cases hq : bf with
                  | false => rfl
                  | true => have := HFS.out hq; omega
                have HN0 := Lib.hid (show stepI xs H ((r : Int) + 1) out k = out by rw [HN.out, hbf0]; rfl)
                clear hbf hbf0 hS
                have hSH' : decide ((H : Int) < S) = true := by simpa using hSH
                refine wp_region_calm W5 (by kernel_rfl) (by kernel_rfl) (Below.refl _ _) ?_
                repeat (go_big_quiet_step (first | (go_at_call 99; exact HSUM.out _)))
                refine wpQuiet_nil ?_
                rintro _ ⟨z, rfl⟩
                have c5 : z.val.cell? ⟨bo, k, none⟩ = some (.int .i64 ((r : Int) + 1)) := cellW HC5.out z
                have f5 : z.val.frozen? ⟨bo, k, none⟩ = false := frozenW HC5.out HF5.out z
                go_wp2_with fail
                go_roundw
                case rel =>
                  refine ⟨k + 1, by go_num, by omega, (HG5.out.trans (z.ok.mono HG5.out.size)).setCell (p := ⟨bo, k, none⟩) (by have := HBO.out; dsimp only; omega) _, ?_⟩
                  have := (HB5.out.ext z.ok).set_ k (.int .i64 (r : Int))
                  rw [vals_set, HBK.out] at this
                  rw [HNX.out, HN0.out]; exact this
                case measure => simp [intOf]; omega
              · have hSH' : decide ((H : Int) < S) = false := by simpa using hSH
                clear hbf hS
                cases bf with
                | true =>
                  refine wp_region_calm W5 (by kernel_rfl) (by kernel_rfl) (Below.refl _ _) ?_
                  repeat (go_big_quiet_step (first | (go_at_call 99; exact HSUM.out _) | (go_at_call 70; exact HSRV.out _)))
                  refine wpQuiet_nil ?_
                  rintro _ ⟨z, rfl⟩
                  go_wp2_with fail
                  go_roundw
                  case rel =>
                    refine ⟨k + 1, by go_num, by omega, HG5.out.trans (z.ok.mono HG5.out.size), ?_⟩
                    rw [HNX.out, HN.out, if_pos rfl]; exact HB5.out.ext z.ok
                  case measure => simp [intOf]; omega
                | false =>
                  refine wp_region_calm W5 (by kernel_rfl) (by kernel_rfl) (Below.refl _ _) ?_
                  repeat (go_big_quiet_step (first | (go_at_call 99; exact HSUM.out _) | (go_at_call 70; exact HSRV.out _)))
                  refine wpQuiet_nil ?_
                  rintro _ ⟨z, rfl⟩
                  have c5 : z.val.cell? ⟨bo, k, none⟩ = some (.int .i64 ((r : Int) + 1)) := cellW HC5.out z
                  have f5 : z.val.frozen? ⟨bo, k, none⟩ = false := frozenW HC5.out HF5.out z
                  go_wp2_with fail
                  go_roundw
                  case rel =>
                    refine ⟨k + 1, by go_num, by omega, (HG5.out.trans (z.ok.mono HG5.out.size)).setCell (p := ⟨bo, k, none⟩) (by have := HBO.out; dsimp only; omega) _, ?_⟩
                    have := (HB5.out.ext z.ok).set_ k (.int .i64 (r : Int))
                    rw [vals_set, HBK.out] at this
                    rw [HNX.out, HN.out]; exact this
                  case measure => simp [intOf]; omega
            · have HN := Lib.hid (show stepI xs H ((r : Int) + 1) out k = out by rw [HST.out, if_pos (.inr (by omega))])
              have hne : (e != (r : Int)) = true := by simpa using her
              go_wp2_with fail
              go_roundw
              case rel => exact ⟨k + 1, by go_num, by omega, HGA.out, by rw [HNX.out, HN.out]; exact HBA.out⟩
              case measure => simp [intOf]; omega
        · obtain rfl : k = n := by omega
          clear hg hb
          go_wp2_with fail
          go_roundw
          case rel => exact ⟨r + 1, by go_num, by omega, HGi.out, by rw [turnsT, hlen.out]; exact HBi.out⟩
          case measure => simp [intOf]; omega
    · obtain rfl : r = 24 := by omega
      clear hg hb
      go_wp2_with fail
      go_ret
      exact ⟨⟨bo, rfl, by omega, HB.out⟩, HG1.out.trans (HG.out.mono HG1.out.size)⟩
end Go.Proofs.Ytdhhneflhmkonaa

/- The mill: Level, Hours. -/
namespace Go.Proofs.Ytdhhneflhmkonaa
open Go.RowKit Go.Shelf

/-- What is known of the comers of a valid mill. -/
structure Ok (h : Int) (xs : List Comer) : Prop where
  h0 : 0 ≤ h
  h24 : h ≤ 24
  n12 : xs.length ≤ 12
  com : ∀ (i : Nat) (x : Comer), xs[i]? = some x → isComer x = true ∧ x.hours < 2 ^ h.toNat ∧ idx (xs.take i) x.family < 0

theorem okMill_iff (h : Int) (xs : List Comer) : okMill h xs = true ↔ Ok h xs := by
  unfold okMill okComers
  simp only [Bool.and_eq_true, decide_eq_true_eq, List.all_eq_true, rng]
  constructor
  · rintro ⟨⟨⟨h0, h24⟩, h12⟩, hc⟩
    refine ⟨h0, h24, h12, fun i x hx => ?_⟩
    have hi : i < xs.length := (List.getElem?_eq_some_iff.1 hx).1
    have := hc i (List.mem_range.2 hi)
    rw [List.getD_eq_getElem?_getD, hx] at this
    simpa [okComer, and_assoc] using this
  · rintro ⟨h0, h24, h12, hc⟩
    refine ⟨⟨⟨h0, h24⟩, h12⟩, fun i hi => ?_⟩
    have hi' := List.mem_range.1 hi
    have := hc i _ (List.getElem?_eq_getElem hi')
    rw [List.getD_eq_getElem?_getD, List.getElem?_eq_getElem hi']
    simpa [okComer, and_assoc] using this
theorem Ok.hrs {h : Int} {xs : List Comer} (k : Ok h xs) : Hrs xs := by
  intro x hx
  obtain ⟨i, hi, rfl⟩ := List.getElem_of_mem hx
  obtain ⟨h1, -, -⟩ := k.com i _ (List.getElem?_eq_getElem hi)
  simp [isComer, rng] at h1
  omega

/-- The greatest k up to 24 such that 1, 2, .. k hours each can be had. -/
def lev (xs : List Comer) (H : Nat) : Nat → Nat → Nat
  | 0, k => k
  | f + 1, k => if fea xs H (-1) (capped xs ((k : Int) + 1)) = true then lev xs H f (k + 1) else k
def levS (xs : List Comer) (h : Int) : Int := if okMill h xs then ((lev xs h.toNat 24 0 : Nat) : Int) else 0

set_option maxRecDepth 100000 in
set_option maxHeartbeats 2000000 in
theorem Level_any (A : Option Addr) (n cc : Nat) (h : Int) (xs : List Comer) (w : World) (ha : Arr ccells 3 w A n xs) (hnc : n ≤ cc) (hn : n ≤ 9223372036854775807) :
    Calls Try.prog 35 #[mv A n cc h] w fun e w' => e = .returned (.tuple #[.int .i64 (levS xs h), .int .i64 (err (okMill h xs) 52)]) ∧ Below w.heap.size w w' := by
  have HA := Lib.hid ha
  have hlen := Lib.hid ha.1
  obtain ⟨ok, hok⟩ : ∃ ok, okMill h xs = ok := ⟨_, rfl⟩
  have HOK := Lib.hid hok
  have HL := Lib.hid (show levS xs h = if ok then ((lev xs h.toNat 24 0 : Nat) : Int) else 0 by rw [← hok]; rfl)
  generalize hls : levS xs h = ls at HL ⊢
  rw [hok]
  clear ha hok hls
  unfold mv
  go_enter Try.func35, Try.ntmps35
  go_wp2_with fail
  generalize hW1 : w.alloc (.cells #[.int .i64 h, .slice A n cc] 24) = W1
  obtain ⟨g1, c0, c1⟩ := box2 hW1
  have HG1 := Lib.hid g1
  have C0 := Lib.hid c0
  have C1 := Lib.hid c1
  have hwl : w.heap.size < W1.heap.size := by rw [boxSize hW1]; omega
  clear hW1
  refine (check_any h A n cc xs W1 (HA.out.below g1) hnc hn).mono ?_
  rintro e W2 ⟨rfl, hg2⟩
  rw [HOK.out]
  clear c0 c1 g1
  have HG2 := Lib.hid hg2
  clear hg2
  cases ok with
  | false =>
    rw [show err false 52 = 52 from rfl]
    go_wp2_with fail
    go_ret2
    rw [HL.out]
    exact ⟨rfl, HG1.out.trans (HG2.out.mono HG1.out.size)⟩
  | true =>
    have hO := (okMill_iff h xs).1 HOK.out
    obtain ⟨H, rfl⟩ : ∃ H : Nat, h = H := ⟨h.toNat, by have := hO.h0; omega⟩
    have hH : H ≤ 24 := by have := hO.h24; omega
    have hn12 : n ≤ 12 := by have := hO.n12; have := hlen.out; omega
    have HX := Lib.hid hO.hrs
    have HL2 := Lib.hid (show ls = ((lev xs H 24 0 : Nat) : Int) from HL.out)
    clear hO
    rw [show err true 52 = 0 from rfl]
    go_wp2_with fail
    go_loopw [5] (fun v wr => ∃ k : Nat, v = .int .i64 k ∧ k ≤ 24 ∧ Below W1.heap.size W1 wr ∧ lev xs H (24 - k) k = lev xs H 24 0) (fun v _ => 24 - (intOf v).toNat)
    case atStart => exact ⟨0, rfl, by omega, HG2.out, rfl⟩
    case round =>
      obtain ⟨k, rfl, hk, hg, hl⟩ := hrel
      have HG := Lib.hid hg
      have HLL := Lib.hid hl
      have d0 : wr.cell? ⟨w.heap.size, 0, none⟩ = some (.int .i64 H) := (hg.cell (p := ⟨w.heap.size, 0, none⟩) hwl).trans C0.out
      have d1 : wr.cell? ⟨w.heap.size, 1, none⟩ = some (.slice A n cc) := (hg.cell (p := ⟨w.heap.size, 1, none⟩) hwl).trans C1.out
      have F : ∀ x : Wd wr, x.val.cell? ⟨w.heap.size, 0, none⟩ = some (.int .i64 H) ∧ x.val.cell? ⟨w.heap.size, 1, none⟩ = some (.slice A n cc) := fun x => ⟨cellW d0 x, cellW d1 x⟩
      clear hg hl
      by_cases hk24 : k < 24
      · have hd : decide ((k : Int) < 24) = true := by simp; omega
        go_wp2_with fail
        have hwr : IntKind.i64.wrap ((k : Int) + 1) = (k : Int) + 1 := by rw [IntKind.wrap_i64]; omega
        have HGd := Lib.hid (show Below W1.heap.size W1 wr.drew from HG.out.drew)
        obtain ⟨bf, hbf⟩ : ∃ bf, fea xs H (-1) (capped xs ((k : Int) + 1)) = bf := ⟨_, rfl⟩
        have HNX := Lib.hid (show lev xs H (24 - k) k = if bf = true then lev xs H (24 - (k + 1)) (k + 1) else k by
          rw [← hbf, show 24 - k = (24 - (k + 1)) + 1 by omega]; rfl)
        have hcb : ∀ y ∈ capped xs ((k : Int) + 1), y ≤ 9223372036854775807 := by
          intro y hy; obtain ⟨x, -, rfl⟩ := List.mem_map.1 hy; omega
        have HBF := Lib.hid hbf
        clear hbf
        cases bf with
        | true =>
          go_region_with (first
            | (go_at_call 88; refine (atMost_any A n cc H _ xs _ ((HA.out.below HG1.out).below HGd.out) hn12).mono ?_; rintro e w' ⟨⟨D, c, rfl, hi⟩, hbl⟩; have HI := Lib.hid hi; have HBL := Lib.hid (HGd.out.trans (hbl.mono HGd.out.size)); have d0' : w'.cell? ⟨w.heap.size, 0, none⟩ = some (.int .i64 H) := (HBL.out.cell (p := ⟨w.heap.size, 0, none⟩) hwl).trans C0.out; have d1' : w'.cell? ⟨w.heap.size, 1, none⟩ = some (.slice A n cc) := (HBL.out.cell (p := ⟨w.heap.size, 1, none⟩) hwl).trans C1.out; clear hi hbl)
            | (go_at_call 70; refine (serves_any A D n cc c H xs _ _ ((HA.out.below HG1.out).below HBL.out) HX.out hH hn12 HI.out hcb).mono ?_; rw [HBF.out]; rintro e w' ⟨rfl, hbl⟩; have HBL2 := Lib.hid (HBL.out.trans (hbl.mono HBL.out.size)); clear hbl))
          all_goals
            go_wp2_with fail
            go_roundw
            case rel => exact ⟨k + 1, by go_num, by omega, HBL2.out, by rw [← HLL.out, HNX.out, if_pos trivial]⟩
            case measure => simp [intOf]; omega
        | false =>
          go_region_with (first
            | (go_at_call 88; refine (atMost_any A n cc H _ xs _ ((HA.out.below HG1.out).below HGd.out) hn12).mono ?_; rintro e w' ⟨⟨D, c, rfl, hi⟩, hbl⟩; have HI := Lib.hid hi; have HBL := Lib.hid (HGd.out.trans (hbl.mono HGd.out.size)); have d0' : w'.cell? ⟨w.heap.size, 0, none⟩ = some (.int .i64 H) := (HBL.out.cell (p := ⟨w.heap.size, 0, none⟩) hwl).trans C0.out; have d1' : w'.cell? ⟨w.heap.size, 1, none⟩ = some (.slice A n cc) := (HBL.out.cell (p := ⟨w.heap.size, 1, none⟩) hwl).trans C1.out; clear hi hbl)
            | (go_at_call 70; refine (serves_any A D n cc c H xs _ _ ((HA.out.below HG1.out).below HBL.out) HX.out hH hn12 HI.out hcb).mono ?_; rw [HBF.out]; rintro e w' ⟨rfl, hbl⟩; have HBL2 := Lib.hid (HBL.out.trans (hbl.mono HBL.out.size)); clear hbl))
          all_goals
            go_wp2_with fail
            go_ret2
            rw [HL2.out, ← HLL.out, HNX.out]
            exact ⟨rfl, HG1.out.trans (HBL2.out.mono HG1.out.size)⟩
      · obtain rfl : k = 24 := by omega
        have hd : decide (((24 : Nat) : Int) < 24) = false := by decide
        go_wp2_with fail
        refine wp_region_calm wr (by kernel_rfl) (by kernel_rfl) (Below.refl _ _) ?_
        repeat (go_big_quiet_step (fail))
        refine wpQuiet_nil ?_
        rintro _ ⟨z, rfl⟩
        go_wp2_with fail
        go_ret2
        rw [HL2.out, ← HLL.out]
        exact ⟨rfl, HG1.out.trans ((HG.out.trans (z.ok.mono HG.out.size)).mono HG1.out.size)⟩
end Go.Proofs.Ytdhhneflhmkonaa

/- The mill: Hours, demands, Serves. -/
namespace Go.Proofs.Ytdhhneflhmkonaa
open Go.RowKit Go.Shelf

def hoursS (xs : List Comer) (h : Int) : List Int := if okMill h xs then turnsS xs h.toNat else []

set_option maxRecDepth 100000 in
theorem Hours_any (A : Option Addr) (n cc : Nat) (h : Int) (xs : List Comer) (w : World) (ha : Arr ccells 3 w A n xs) (hnc : n ≤ cc) (hn : n ≤ 9223372036854775807) :
    Calls Try.prog 36 #[mv A n cc h] w fun e w' => (∃ D c, e = .returned (.tuple #[.slice D (hoursS xs h).length c, .int .i64 (err (okMill h xs) 52)]) ∧ Ints w' D (hoursS xs h).length (hoursS xs h)) ∧ Below w.heap.size w w' := by
  have HA := Lib.hid ha
  have hlen := Lib.hid ha.1
  obtain ⟨ok, hok⟩ : ∃ ok, okMill h xs = ok := ⟨_, rfl⟩
  have HOK := Lib.hid hok
  have HL := Lib.hid (show hoursS xs h = if ok then turnsS xs h.toNat else [] by rw [← hok]; rfl)
  generalize hls : hoursS xs h = ls at HL ⊢
  rw [hok]
  clear ha hok hls
  unfold mv
  go_enter Try.func36, Try.ntmps36
  go_wp2_with fail
  generalize hW1 : w.alloc (.cells #[.int .i64 h, .slice A n cc] 24) = W1
  obtain ⟨g1, c0, c1⟩ := box2 hW1
  have HG1 := Lib.hid g1
  have hwl : w.heap.size < W1.heap.size := by rw [boxSize hW1]; omega
  clear hW1
  refine (check_any h A n cc xs W1 (HA.out.below g1) hnc hn).mono ?_
  rintro e W2 ⟨rfl, hg2⟩
  rw [HOK.out]
  have HG2 := Lib.hid hg2
  cases ok with
  | false =>
    clear c0 c1 g1 hg2
    rw [show err false 52 = 52 from rfl]
    go_wp2_with fail
    go_ret2
    have e : ls = [] := HL.out
    subst e
    exact ⟨⟨none, 0, rfl, Arr.nil_⟩, HG1.out.trans (HG2.out.mono HG1.out.size)⟩
  | true =>
    have hO := (okMill_iff h xs).1 HOK.out
    obtain ⟨H, rfl⟩ : ∃ H : Nat, h = H := ⟨h.toNat, by have := hO.h0; omega⟩
    have hH : H ≤ 24 := by have := hO.h24; omega
    have hn12 : n ≤ 12 := by have := hO.n12; have := hlen.out; omega
    have HX := Lib.hid hO.hrs
    have d0 := (hg2.cell (p := ⟨w.heap.size, 0, none⟩) hwl).trans c0
    have d1 := (hg2.cell (p := ⟨w.heap.size, 1, none⟩) hwl).trans c1
    clear hO c0 c1 g1 hg2
    rw [show err true 52 = 0 from rfl]
    go_wp2_with fail
    refine (turns_any A n cc H xs W2 ((HA.out.below HG1.out).below HG2.out) HX.out hH hn12).mono ?_
    rintro e W3 ⟨⟨b, rfl, hbl, hb⟩, hg3⟩
    have HB := Lib.hid hb
    have HG3 := Lib.hid hg3
    clear hb hg3
    go_wp2_with fail
    go_ret2
    have e : ls = turnsS xs H := HL.out
    subst e
    have hl : (turnsS xs H).length = n := (turnsT_len _ _ _).trans hlen.out
    exact ⟨⟨some ⟨b, 0, none⟩, n, by rw [hl]; rfl, HB.out.ints⟩, HG1.out.trans ((HG2.out.trans (HG3.out.mono HG2.out.size)).mono HG1.out.size)⟩

def badD (l : List Int) : Bool := l.any fun x => !rng x 0 24
theorem isDemand1_any (x : Int) (w : World) : Calls Try.prog 122 #[.int .i64 x] w fun e w' => e = .returned (.bool (!rng x 0 24)) ∧ w = w' := by
  obtain ⟨b, hb⟩ : ∃ b, rng x 0 24 = b := ⟨_, rfl⟩
  rw [hb]
  cases b
  all_goals
    go_enter Try.func122, Try.ntmps122
    go_wp2_with (go_at_call 64; refine (within_any _ _ _ _).mono ?_; rw [hb]; rintro e w' ⟨rfl, rfl⟩)
    go_ret
    exact ⟨rfl, rfl⟩

theorem indexF_any (A : Option Addr) (n c : Nat) (l : List Int) (w : World) (ha : Ints w A n l) (hn : n ≤ 9223372036854775807) :
    Calls Try.prog 130 #[.slice A n c, .func (.func 122) #[] #[]] w fun e w' => (∃ v : Int, e = .returned (.int .i64 v) ∧ (decide (0 ≤ v) = badD l)) ∧ w = w' := by
  have hlen := Lib.hid ha.1
  have HA := Lib.hid ha
  clear ha
  go_enter Try.func130, Try.ntmps130
  go_wp2
  go_loopw [8] (fun i wr => ∃ k : Nat, k ≤ n ∧ i = .int .i64 k ∧ (∀ j, j < k → rng (l.getD j 0) 0 24 = true) ∧ w = wr) (fun i _ => n - (intOf i).toNat)
  case atStart => exact ⟨0, Nat.zero_le _, rfl, by omega, rfl⟩
  case round =>
    obtain ⟨k, hk, rfl, hno, rfl⟩ := hrel
    by_cases hlt : k < n
    · obtain ⟨b, o, rfl, hbl, hmem, hc⟩ := ints_at HA.out hlt
      have c0 := hc w (Below.refl _ _)
      obtain ⟨x, hx⟩ : ∃ x, l.getD k 0 = x := ⟨_, rfl⟩
      have HX := Lib.hid hx
      have HM := Lib.hid hmem
      have HN := Lib.hid hno
      rw [hx] at c0
      clear hc hmem hx hno
      cases hf : rng x 0 24 with
      | true =>
        go_wp2_with (first | (go_at_call 122; refine (isDemand1_any x _).mono ?_; rw [hf]; rintro e w' ⟨rfl, rfl⟩))
        go_roundw
        case rel =>
          refine ⟨k + 1, by omega, by go_num, fun j hj => ?_, trivial⟩
          by_cases hjk : j < k
          · exact HN.out j hjk
          · obtain rfl : j = k := by omega
            rw [HX.out]; exact hf
        case measure => simp [intOf]; omega
      | false =>
        go_wp2_with (first | (go_at_call 122; refine (isDemand1_any x _).mono ?_; rw [hf]; rintro e w' ⟨rfl, rfl⟩))
        go_ret
        refine ⟨⟨k, rfl, ?_⟩, rfl⟩
        have : badD l = true := List.any_eq_true.2 ⟨x, List.mem_of_getElem? (HX.out ▸ HM.out), by rw [hf]; rfl⟩
        rw [this]; simp
    · obtain rfl : k = n := by omega
      have HN := Lib.hid hno
      clear hno
      go_wp2
      go_ret
      refine ⟨⟨-1, rfl, ?_⟩, rfl⟩
      have : badD l = false := by
        unfold badD
        rw [List.any_eq_false]
        intro x hx
        obtain ⟨j, hj, rfl⟩ := List.getElem_of_mem hx
        have := HN.out j (by have := hlen.out; omega)
        rw [List.getD_eq_getElem?_getD, List.getElem?_eq_getElem hj] at this
        simpa using this
      rw [this]; decide
theorem containsF_any (A : Option Addr) (n c : Nat) (l : List Int) (w : World) (ha : Ints w A n l) (hn : n ≤ 9223372036854775807) :
    Calls Try.prog 121 #[.slice A n c, .func (.func 122) #[] #[]] w fun e w' => e = .returned (.bool (badD l)) ∧ w = w' := by
  have H := Lib.hid (indexF_any A n c l w ha hn)
  clear ha
  go_enter Try.func121, Try.ntmps121
  go_wp2_with (first | (go_at_call 130; refine H.out.mono ?_; rintro e w' ⟨⟨v, rfl, hv⟩, rfl⟩))
  go_ret
  exact ⟨rfl, rfl⟩

/-- A list of demands of a mill. -/
def isDem (xs : List Comer) (l : List Int) : Bool := decide (l.length = xs.length) && !badD l
theorem isDemand_any (A D : Option Addr) (n cc m cd : Nat) (h : Int) (xs : List Comer) (l : List Int) (w : World) (ha : Arr ccells 3 w A n xs) (hd : Ints w D m l) (hm : m ≤ 9223372036854775807) (hn : n ≤ 9223372036854775807) :
    Calls Try.prog 106 #[mv A n cc h, .slice D m cd] w fun e w' => e = .returned (.bool (isDem xs l)) ∧ Below w.heap.size w w' := by
  have hln := Lib.hid ha.1
  have hlm := Lib.hid hd.1
  have HD := Lib.hid hd
  clear ha hd
  have HG1 := Lib.hid (show Below w.heap.size w (w.alloc (.cells #[.int .i64 h, .slice A n cc] 24)) from (Below.refl _ _).alloc (Nat.le_refl _) _)
  unfold mv
  by_cases hmn : m = n
  · subst hmn
    go_enter Try.func106, Try.ntmps106
    go_wp2_with (first | (go_at_call 121; refine (containsF_any D m cd l _ (HD.out.below HG1.out) hm).mono ?_; rintro e w' ⟨rfl, rfl⟩))
    go_ret
    have : isDem xs l = !badD l := by unfold isDem; rw [hln.out, hlm.out]; simp
    rw [this]
    exact ⟨rfl, HG1.out⟩
  · have hne : ((m : Int) == (n : Int)) = false := by simp; omega
    go_enter Try.func106, Try.ntmps106
    go_wp2_with fail
    all_goals first
      | (exfalso; omega)
      | (go_ret
         have : isDem xs l = false := by unfold isDem; rw [hln.out, hlm.out]; simp [hmn]
         rw [this]
         exact ⟨rfl, HG1.out⟩)

/-- The error of a mill and demands. -/
def demE (xs : List Comer) (h : Int) (l : List Int) : Int := if okMill h xs then (if isDem xs l then 0 else 56) else 52
theorem demanded_any (A D : Option Addr) (n cc m cd : Nat) (h : Int) (xs : List Comer) (l : List Int) (w : World) (ha : Arr ccells 3 w A n xs) (hnc : n ≤ cc) (hd : Ints w D m l) (hm : m ≤ 9223372036854775807) (hn : n ≤ 9223372036854775807) :
    Calls Try.prog 92 #[mv A n cc h, .slice D m cd] w fun e w' => e = .returned (.int .i64 (demE xs h l)) ∧ Below w.heap.size w w' := by
  have HA := Lib.hid ha
  have HD := Lib.hid hd
  clear ha hd
  obtain ⟨ok, hok⟩ : ∃ ok, okMill h xs = ok := ⟨_, rfl⟩
  have HOK := Lib.hid hok
  obtain ⟨dm, hdm⟩ : ∃ dm, isDem xs l = dm := ⟨_, rfl⟩
  have HDM := Lib.hid hdm
  have HE := Lib.hid (show demE xs h l = if ok then (if dm then 0 else 56) else 52 by rw [← hok, ← hdm]; rfl)
  generalize demE xs h l = de at HE ⊢
  clear hok hdm
  unfold mv
  go_enter Try.func92, Try.ntmps92
  go_wp2_with fail
  generalize hW1 : w.alloc (.cells #[.int .i64 h, .slice A n cc] 24) = W1
  obtain ⟨g1, c0, c1⟩ := box2 hW1
  have HG1 := Lib.hid g1
  have hwl : w.heap.size < W1.heap.size := by rw [boxSize hW1]; omega
  clear hW1
  refine (check_any h A n cc xs W1 (HA.out.below g1) hnc hn).mono ?_
  rintro e W2 ⟨rfl, hg2⟩
  rw [HOK.out]
  have HG2 := Lib.hid hg2
  have d0 := (hg2.cell (p := ⟨w.heap.size, 0, none⟩) hwl).trans c0
  have d1 := (hg2.cell (p := ⟨w.heap.size, 1, none⟩) hwl).trans c1
  clear c0 c1 g1 hg2
  cases ok with
  | false =>
    rw [show err false 52 = 52 from rfl]
    go_wp2_with fail
    go_ret
    exact ⟨ret_int HE.out.symm, HG1.out.trans (HG2.out.mono HG1.out.size)⟩
  | true =>
    rw [show err true 52 = 0 from rfl]
    have HI := Lib.hid (isDemand_any A D n cc m cd h xs l W2 ((HA.out.below HG1.out).below HG2.out) ((HD.out.below HG1.out).below HG2.out) hm hn)
    cases dm with
    | true =>
      go_wp2_with (first | (go_at_call 106; refine HI.out.mono ?_; rw [HDM.out]; rintro e w' ⟨rfl, hg3⟩; have HG3 := Lib.hid hg3; clear hg3))
      go_ret
      exact ⟨ret_int HE.out.symm, HG1.out.trans ((HG2.out.trans (HG3.out.mono HG2.out.size)).mono HG1.out.size)⟩
    | false =>
      go_wp2_with (first | (go_at_call 106; refine HI.out.mono ?_; rw [HDM.out]; rintro e w' ⟨rfl, hg3⟩; have HG3 := Lib.hid hg3; clear hg3))
      go_ret
      exact ⟨ret_int HE.out.symm, HG1.out.trans ((HG2.out.trans (HG3.out.mono HG2.out.size)).mono HG1.out.size)⟩

theorem isDem_len {xs : List Comer} {l : List Int} (h : isDem xs l = true) : l.length = xs.length := by
  unfold isDem at h; simp at h; exact h.1
theorem isDem_bd {xs : List Comer} {l : List Int} (h : isDem xs l = true) : ∀ x ∈ l, 0 ≤ x ∧ x ≤ 24 := by
  intro x hx
  unfold isDem badD at h
  simp only [Bool.and_eq_true, Bool.not_eq_true', List.any_eq_false] at h
  have := h.2 x hx
  simpa [rng] using this

def servesS (xs : List Comer) (h : Int) (l : List Int) : Bool := decide (demE xs h l = 0) && fea xs h.toNat (-1) l
theorem demE_zero {xs : List Comer} {h : Int} {l : List Int} (k : demE xs h l = 0) : okMill h xs = true ∧ isDem xs l = true := by
  unfold demE at k
  split at k
  · rename_i h1; refine ⟨h1, ?_⟩
    split at k
    · assumption
    · omega
  · omega
set_option maxRecDepth 100000 in
theorem Serves_any (A D : Option Addr) (n cc m cd : Nat) (h : Int) (xs : List Comer) (l : List Int) (w : World) (ha : Arr ccells 3 w A n xs) (hnc : n ≤ cc) (hd : Ints w D m l) (hm : m ≤ 9223372036854775807) (hn : n ≤ 9223372036854775807) :
    Calls Try.prog 45 #[mv A n cc h, .slice D m cd] w fun e w' => e = .returned (.tuple #[.bool (servesS xs h l), .int .i64 (demE xs h l)]) ∧ Below w.heap.size w w' := by
  have HA := Lib.hid ha
  have HD := Lib.hid hd
  have hln := Lib.hid ha.1
  have hlm := Lib.hid hd.1
  clear ha hd
  obtain ⟨de, hde⟩ : ∃ de, demE xs h l = de := ⟨_, rfl⟩
  have HDE := Lib.hid hde
  have HS := Lib.hid (show servesS xs h l = (decide (de = 0) && fea xs h.toNat (-1) l) by rw [← hde]; rfl)
  generalize servesS xs h l = sv at HS ⊢
  rw [hde]
  clear hde
  unfold mv
  go_enter Try.func45, Try.ntmps45
  go_wp2_with fail
  generalize hW1 : w.alloc (.cells #[.int .i64 h, .slice A n cc] 24) = W1
  obtain ⟨g1, c0, c1⟩ := box2 hW1
  have HG1 := Lib.hid g1
  have hwl : w.heap.size < W1.heap.size := by rw [boxSize hW1]; omega
  clear hW1
  refine (demanded_any A D n cc m cd h xs l W1 (HA.out.below g1) hnc (HD.out.below g1) hm hn).mono ?_
  rw [HDE.out]
  rintro e W2 ⟨rfl, hg2⟩
  have HG2 := Lib.hid hg2
  have d0 := (hg2.cell (p := ⟨w.heap.size, 0, none⟩) hwl).trans c0
  have d1 := (hg2.cell (p := ⟨w.heap.size, 1, none⟩) hwl).trans c1
  clear c0 c1 g1 hg2
  by_cases hz : de = 0
  · obtain ⟨k1, k2⟩ := demE_zero (HDE.out.trans hz)
    have HDM := Lib.hid k2
    have hO := (okMill_iff h xs).1 k1
    obtain ⟨H, rfl⟩ : ∃ H : Nat, h = H := ⟨h.toNat, by have := hO.h0; omega⟩
    have hH : H ≤ 24 := by have := hO.h24; omega
    have hn12 : n ≤ 12 := by have := hO.n12; have := hln.out; omega
    obtain rfl : m = n := by have := isDem_len k2; have := hln.out; have := hlm.out; omega
    have HX := Lib.hid hO.hrs
    clear hO k1 k2
    subst hz
    go_wp2_with fail
    refine (serves_any A D m cc cd H xs l W2 ((HA.out.below HG1.out).below HG2.out) HX.out hH hn12 ((HD.out.below HG1.out).below HG2.out) (fun x hx => by have := isDem_bd HDM.out x hx; omega)).mono ?_
    rintro e W3 ⟨rfl, hg3⟩
    have HG3 := Lib.hid hg3
    clear hg3
    go_wp2_with fail
    go_ret2
    have e : sv = fea xs H (-1) l := HS.out
    rw [e]
    exact ⟨rfl, HG1.out.trans ((HG2.out.trans (HG3.out.mono HG2.out.size)).mono HG1.out.size)⟩
  · have hz' : (de != 0) = true := by simpa using hz
    go_wp2_with fail
    go_ret2
    have e : sv = false := by rw [HS.out]; simp [hz]
    rw [e]
    exact ⟨rfl, HG1.out.trans (HG2.out.mono HG1.out.size)⟩
end Go.Proofs.Ytdhhneflhmkonaa

/- Equality of lists of numbers: SameInts, slices.Equal. -/
namespace Go.Proofs.Ytdhhneflhmkonaa
open Go.RowKit Go.Shelf

theorem eq_of_getD {l l' : List Int} (hl : l.length = l'.length) (h : ∀ j, j < l.length → l.getD j 0 = l'.getD j 0) : l = l' := by
  apply List.ext_getElem hl
  intro j h1 h2
  have := h j h1
  rw [List.getD_eq_getElem?_getD, List.getD_eq_getElem?_getD, List.getElem?_eq_getElem h1, List.getElem?_eq_getElem h2] at this
  exact this

set_option maxRecDepth 100000 in
theorem sameInts_any (A B : Option Addr) (n c m c' : Nat) (l l' : List Int) (w : World) (ha : Ints w A n l) (hb : Ints w B m l') (hn : n ≤ 9223372036854775807) (hm : m ≤ 9223372036854775807) :
    Calls Try.prog 20 #[.slice A n c, .slice B m c'] w fun e w' => e = .returned (.bool (decide (l = l'))) ∧ Below w.heap.size w w' := by
  have HA := Lib.hid ha
  have HB := Lib.hid hb
  have hl := Lib.hid ha.1
  have hl' := Lib.hid hb.1
  clear ha hb
  by_cases hmn : n = m
  · subst hmn
    go_enter Try.func20, Try.ntmps20
    go_wp2_with fail
    all_goals first
      | (exfalso; omega)
      | skip
    go_loopw [5] (fun i wr => ∃ k : Nat, k ≤ n ∧ i = .int .i64 k ∧ (∀ j, j < k → l.getD j 0 = l'.getD j 0) ∧ Below w.heap.size w wr) (fun i _ => n - (intOf i).toNat)
    case atStart => exact ⟨0, Nat.zero_le _, rfl, by omega, Below.refl _ _⟩
    case round =>
      obtain ⟨k, hk, rfl, hno, hg⟩ := hrel
      have HN := Lib.hid hno
      have HG := Lib.hid hg
      clear hno
      by_cases hlt : k < n
      · obtain ⟨b, o, rfl, -, -, hc⟩ := ints_at HA.out hlt
        obtain ⟨b', o', rfl, -, -, hc'⟩ := ints_at HB.out hlt
        have c0 := hc wr hg
        have c1 := hc' wr hg
        obtain ⟨x, hx⟩ : ∃ x, l.getD k 0 = x := ⟨_, rfl⟩
        obtain ⟨y, hy⟩ : ∃ y, l'.getD k 0 = y := ⟨_, rfl⟩
        have HX := Lib.hid hx
        have HY := Lib.hid hy
        rw [hx] at c0
        rw [hy] at c1
        clear hc hc' hx hy hg
        go_wp2_with fail
        have F : ∀ z : Wd wr, z.val.cell? ⟨b, o + k, none⟩ = some (.int .i64 x) ∧ z.val.cell? ⟨b', o' + k, none⟩ = some (.int .i64 y) := fun z => ⟨cellW c0 z, cellW c1 z⟩
        refine wp_region_calm wr (by kernel_rfl) (by kernel_rfl) (Below.refl _ _) ?_
        repeat (go_big_quiet_step (fail))
        refine wpQuiet_nil ?_
        rintro _ ⟨z, rfl⟩
        by_cases hxy : x = y
        · subst hxy
          have hb : (x != x) = false := by simp
          go_wp2_with fail
          all_goals first
            | (exfalso; simp at *; done)
            | skip
          go_roundw
          case rel =>
            refine ⟨k + 1, by omega, by go_num, fun j hj => ?_, HG.out.trans (z.ok.mono HG.out.size)⟩
            by_cases hjk : j < k
            · exact HN.out j hjk
            · obtain rfl : j = k := by omega
              rw [HX.out, HY.out]
          case measure => simp [intOf]; omega
        · have hb : (x != y) = true := by simpa using hxy
          go_wp2_with fail
          all_goals first
            | (exfalso; omega)
            | skip
          go_ret
          have : decide (l = l') = false := by
            simp; rintro rfl; exact hxy (HX.out.symm.trans HY.out)
          rw [this]
          exact ⟨rfl, HG.out.trans (z.ok.mono HG.out.size)⟩
      · obtain rfl : k = n := by omega
        clear hg
        go_wp2_with fail
        go_ret
        have : decide (l = l') = true := by
          simp; exact eq_of_getD (by rw [hl.out, hl'.out]) (fun j hj => HN.out j (by rw [← hl.out]; exact hj))
        rw [this]
        exact ⟨rfl, HG.out⟩
  · go_enter Try.func20, Try.ntmps20
    have hne : ((n : Int) != (m : Int)) = true := by simp; omega
    go_wp2_with fail
    all_goals first
      | (exfalso; omega)
      | skip
    go_ret
    have : decide (l = l') = false := by
      simp; rintro rfl; exact hmn (by rw [← hl.out, ← hl'.out])
    rw [this]
    exact ⟨rfl, Below.refl _ _⟩

set_option maxRecDepth 100000 in
theorem equal_any (A B : Option Addr) (n c m c' : Nat) (l l' : List Int) (w : World) (ha : Ints w A n l) (hb : Ints w B m l') (hn : n ≤ 9223372036854775807) (hm : m ≤ 9223372036854775807) :
    Calls Try.prog 91 #[.slice A n c, .slice B m c'] w fun e w' => e = .returned (.bool (decide (l = l'))) ∧ Below w.heap.size w w' := by
  have HA := Lib.hid ha
  have HB := Lib.hid hb
  have hl := Lib.hid ha.1
  have hl' := Lib.hid hb.1
  clear ha hb
  by_cases hmn : n = m
  · subst hmn
    go_enter Try.func91, Try.ntmps91
    go_wp2_with fail
    all_goals first
      | (exfalso; omega)
      | skip
    go_loopw [13] (fun i wr => ∃ k : Nat, k ≤ n ∧ i = .int .i64 k ∧ (∀ j, j < k → l.getD j 0 = l'.getD j 0) ∧ Below w.heap.size w wr) (fun i _ => n - (intOf i).toNat)
    case atStart => exact ⟨0, Nat.zero_le _, rfl, by omega, Below.refl _ _⟩
    case round =>
      obtain ⟨k, hk, rfl, hno, hg⟩ := hrel
      have HN := Lib.hid hno
      have HG := Lib.hid hg
      clear hno
      by_cases hlt : k < n
      · obtain ⟨b, o, rfl, -, -, hc⟩ := ints_at HA.out hlt
        obtain ⟨b', o', rfl, -, -, hc'⟩ := ints_at HB.out hlt
        have c0 := hc wr hg
        have c1 := hc' wr hg
        obtain ⟨x, hx⟩ : ∃ x, l.getD k 0 = x := ⟨_, rfl⟩
        obtain ⟨y, hy⟩ : ∃ y, l'.getD k 0 = y := ⟨_, rfl⟩
        have HX := Lib.hid hx
        have HY := Lib.hid hy
        rw [hx] at c0
        rw [hy] at c1
        clear hc hc' hx hy hg
        go_wp2_with fail
        have F : ∀ z : Wd wr, z.val.cell? ⟨b, o + k, none⟩ = some (.int .i64 x) ∧ z.val.cell? ⟨b', o' + k, none⟩ = some (.int .i64 y) := fun z => ⟨cellW c0 z, cellW c1 z⟩
        refine wp_region_calm wr (by kernel_rfl) (by kernel_rfl) (Below.refl _ _) ?_
        repeat (go_big_quiet_step (fail))
        refine wpQuiet_nil ?_
        rintro _ ⟨z, rfl⟩
        by_cases hxy : x = y
        · subst hxy
          have hb : (x != x) = false := by simp
          go_wp2_with fail
          all_goals first
            | (exfalso; simp at *; done)
            | skip
          go_roundw
          case rel =>
            refine ⟨k + 1, by omega, by go_num, fun j hj => ?_, HG.out.trans (z.ok.mono HG.out.size)⟩
            by_cases hjk : j < k
            · exact HN.out j hjk
            · obtain rfl : j = k := by omega
              rw [HX.out, HY.out]
          case measure => simp [intOf]; omega
        · have hb : (x != y) = true := by simpa using hxy
          go_wp2_with fail
          all_goals first
            | (exfalso; omega)
            | skip
          go_ret
          have : decide (l = l') = false := by
            simp; rintro rfl; exact hxy (HX.out.symm.trans HY.out)
          rw [this]
          exact ⟨rfl, HG.out.trans (z.ok.mono HG.out.size)⟩
      · obtain rfl : k = n := by omega
        clear hg
        go_wp2_with fail
        go_ret
        have : decide (l = l') = true := by
          simp; exact eq_of_getD (by rw [hl.out, hl'.out]) (fun j hj => HN.out j (by rw [← hl.out]; exact hj))
        rw [this]
        exact ⟨rfl, HG.out⟩
  · go_enter Try.func91, Try.ntmps91
    have hne : ((n : Int) != (m : Int)) = true := by simp; omega
    go_wp2_with fail
    all_goals first
      | (exfalso; omega)
      | skip
    go_ret
    have : decide (l = l') = false := by
      simp; rintro rfl; exact hmn (by rw [← hl.out, ← hl'.out])
    rw [this]
    exact ⟨rfl, Below.refl _ _⟩
end Go.Proofs.Ytdhhneflhmkonaa

/- The mill: CheckShare. -/
namespace Go.Proofs.Ytdhhneflhmkonaa
open Go.RowKit Go.Shelf

theorem bit0 (a k : Nat) (ha : a < 9223372036854775808) : (bits .and .i64 ((a : Int) / 2 ^ k) 1 == 0) = !a.testBit k := by
  have e : (a : Int) / 2 ^ k = ((a >>> k : Nat) : Int) := by
    rw [Nat.shiftRight_eq_div_pow]; simp
  have hlt : a >>> k < 9223372036854775808 := by rw [Nat.shiftRight_eq_div_pow]; exact Nat.lt_of_le_of_lt (Nat.div_le_self _ _) ha
  rw [e, show (1 : Int) = ((1 : Nat) : Int) from rfl, and64 _ _ hlt (by decide), Nat.testBit, Nat.and_comm]
  have h2 := Nat.and_le_left (n := 1) (m := a >>> k)
  cases h : (1 &&& a >>> k) with
  | zero => rfl
  | succ m => have : m = 0 := by omega
              subst this; rfl

theorem idx_cases (l : List Comer) (f : Int) : (idx l f = -1) ∨ ∃ i : Nat, idx l f = i ∧ i < l.length ∧ (l.getD i ⟨0, 0, 0⟩).family = f := by
  unfold idx
  cases h : l.findIdx? (fun c => c.family == f) with
  | none => exact .inl rfl
  | some i =>
    rw [List.findIdx?_eq_some_iff_getElem] at h
    obtain ⟨hi, h1, -⟩ := h
    refine .inr ⟨i, rfl, hi, ?_⟩
    rw [List.getD_eq_getElem?_getD, List.getElem?_eq_getElem hi]
    simpa using h1

/-- How many hours each has, by the first k hours of a sharing. -/
def gotK (xs : List Comer) (share : List Int) : Nat → Option (List Int)
  | 0 => some (List.replicate xs.length 0)
  | k + 1 => (gotK xs share k).bind fun g =>
      if share.getD k 0 = 0 then some g
      else if idx xs (share.getD k 0) < 0 ∨ (hrs xs (idx xs (share.getD k 0)).toNat).testBit k = false then none
      else some (g.set (idx xs (share.getD k 0)).toNat (g.getD (idx xs (share.getD k 0)).toNat 0 + 1))
theorem gotK_none {xs : List Comer} {share : List Int} {k : Nat} (h : gotK xs share k = none) : ∀ m, k ≤ m → gotK xs share m = none := by
  intro m hm
  obtain ⟨d, rfl⟩ := Nat.exists_eq_add_of_le hm
  clear hm
  induction d with
  | zero => exact h
  | succ d ih => show (gotK xs share (k + d)).bind _ = none; rw [ih]; rfl
theorem gotK_len {xs : List Comer} {share : List Int} : ∀ {k : Nat} {g : List Int}, gotK xs share k = some g → g.length = xs.length
  | 0, g, h => by cases h; simp
  | k + 1, g, h => by
    unfold gotK at h
    cases hg : gotK xs share k with
    | none => rw [hg] at h; cases h
    | some g' =>
      rw [hg] at h
      have := gotK_len hg
      simp only [Option.bind_some] at h
      split at h
      · cases h; exact this
      · split at h
        · cases h
        · cases h; simpa using this
theorem gotK_bd {xs : List Comer} {share : List Int} : ∀ {k : Nat} {g : List Int}, gotK xs share k = some g → ∀ x ∈ g, 0 ≤ x ∧ x ≤ (k : Int)
  | 0, g, h => by cases h; intro x hx; simp at hx; omega
  | k + 1, g, h => by
    unfold gotK at h
    cases hg : gotK xs share k with
    | none => rw [hg] at h; cases h
    | some g' =>
      rw [hg] at h
      have ih := gotK_bd hg
      simp only [Option.bind_some] at h
      split at h
      · cases h; intro x hx; have := ih x hx; omega
      · split at h
        · cases h
        · cases h
          generalize (idx xs (share.getD k 0)).toNat = q
          intro x hx
          rcases List.mem_or_eq_of_mem_set hx with h1 | h1
          · have := ih x h1; omega
          · by_cases hlt : q < g'.length
            · have := ih _ (List.getElem_mem hlt)
              rw [List.getD_eq_getElem?_getD, List.getElem?_eq_getElem hlt] at h1
              simp at h1; omega
            · rw [List.getD_eq_getElem?_getD, List.getElem?_eq_none (by omega)] at h1
              simp at h1; omega

def shareE (xs : List Comer) (h : Int) (share : List Int) : Int :=
  if okMill h xs then (if (share.length : Int) = h ∧ gotK xs share share.length = some (turnsS xs h.toNat) then 0 else 53) else 52

set_option maxRecDepth 100000 in
set_option maxHeartbeats 2000000 in
theorem CheckShare_any (A D : Option Addr) (n cc m cd : Nat) (h : Int) (xs : List Comer) (l : List Int) (w : World) (ha : Arr ccells 3 w A n xs) (hnc : n ≤ cc) (hd : Ints w D m l) (hm : m ≤ 9223372036854775807) (hn : n ≤ 9223372036854775807) :
    Calls Try.prog 41 #[mv A n cc h, .slice D m cd] w fun e w' => e = .returned (.int .i64 (shareE xs h l)) ∧ Below w.heap.size w w' := by
  have HA := Lib.hid ha
  have HD := Lib.hid hd
  have hln := Lib.hid ha.1
  have hlm := Lib.hid hd.1
  clear ha hd
  obtain ⟨ok, hok⟩ : ∃ ok, okMill h xs = ok := ⟨_, rfl⟩
  have HOK := Lib.hid hok
  have HE := Lib.hid (show shareE xs h l = if ok then (if (m : Int) = h ∧ gotK xs l m = some (turnsS xs h.toNat) then 0 else 53) else 52 by rw [← hok, ← hlm.out]; rfl)
  generalize shareE xs h l = de at HE ⊢
  clear hok
  unfold mv
  go_enter Try.func41, Try.ntmps41
  go_wp2_with fail
  generalize hW1 : w.alloc (.cells #[.int .i64 h, .slice A n cc] 24) = W1
  obtain ⟨g1, c0, c1⟩ := box2 hW1
  have HG1 := Lib.hid g1
  have hwl : w.heap.size < W1.heap.size := by rw [boxSize hW1]; omega
  clear hW1
  refine (check_any h A n cc xs W1 (HA.out.below g1) hnc hn).mono ?_
  rw [HOK.out]
  rintro e W2 ⟨rfl, hg2⟩
  have HG2 := Lib.hid hg2
  have d0 := (hg2.cell (p := ⟨w.heap.size, 0, none⟩) hwl).trans c0
  have d1 := (hg2.cell (p := ⟨w.heap.size, 1, none⟩) hwl).trans c1
  have hwl2 : w.heap.size < W2.heap.size := by have := hg2.size; omega
  clear c0 c1 g1 hg2
  have HG := Lib.hid (HG1.out.trans (HG2.out.mono HG1.out.size))
  cases ok with
  | false =>
    rw [show err false 52 = 52 from rfl]
    go_wp2_with fail
    go_ret
    exact ⟨ret_int HE.out.symm, HG.out⟩
  | true =>
    rw [show err true 52 = 0 from rfl]
    have hO := (okMill_iff h xs).1 HOK.out
    obtain ⟨H, rfl⟩ : ∃ H : Nat, h = H := ⟨h.toNat, by have := hO.h0; omega⟩
    have hH : H ≤ 24 := by have := hO.h24; omega
    have hn12 : n ≤ 12 := by have := hO.n12; have := hln.out; omega
    have HX := Lib.hid hO.hrs
    clear hO
    have HE2 := Lib.hid (show de = if (m : Int) = H ∧ gotK xs l m = some (turnsS xs H) then 0 else 53 from HE.out)
    by_cases hmH : m = H
    · subst hmH
      have hmk := fun w => run_make_row' (P := Try.prog) 28 3 (.int .i64 0) 8 (by kernel_rfl) (by kernel_rfl) (by simp [Value.cells]) .i64 .i64 n (by omega) (by omega) w
      go_wp2_with fail
      all_goals first
        | (exfalso; omega)
        | skip
      rw [made_vals]
      generalize hW3 : (W2.alloc (.cells (vals (List.replicate n 0)) 3)) = W3
      have hb3 : Blk W3 W2.heap.size 3 (vals (List.replicate n 0)) := by rw [← hW3]; exact Blk.new _ _ _
      have g3 : Below W2.heap.size W2 W3 := by rw [← hW3]; exact (Below.refl _ _).alloc (Nat.le_refl _) _
      have HB3 := Lib.hid hb3
      have HG3 := Lib.hid g3
      have D0 := Lib.hid d0
      have D1 := Lib.hid d1
      clear hW3 hb3 g3 hmk d0 d1
      obtain ⟨bo, hbo⟩ : ∃ bo, W2.heap.size = bo := ⟨_, rfl⟩
      rw [hbo] at HB3 hwl2 ⊢
      have HBO := Lib.hid hbo
      clear hbo
      go_loopw [26] (fun v wr => ∃ k : Nat, v = .int .i64 k ∧ k ≤ m ∧ Below W2.heap.size W2 wr ∧ ∃ g, gotK xs l k = some g ∧ Blk wr bo 3 (vals g)) (fun v _ => m - (intOf v).toNat)
      case atStart => exact ⟨0, rfl, by omega, HG3.out, _, rfl, by rw [hln.out]; exact HB3.out⟩
      case round =>
        obtain ⟨k, rfl, hk, hg, got, hgot, hb⟩ := hrel
        have HGr := Lib.hid hg
        have HGOT := Lib.hid hgot
        have HB := Lib.hid hb
        have d0 : wr.cell? ⟨w.heap.size, 0, none⟩ = some (.int .i64 m) := (hg.cell (p := ⟨w.heap.size, 0, none⟩) (by have := HBO.out; dsimp only; omega)).trans D0.out
        have d1 : wr.cell? ⟨w.heap.size, 1, none⟩ = some (.slice A n cc) := (hg.cell (p := ⟨w.heap.size, 1, none⟩) (by have := HBO.out; dsimp only; omega)).trans D1.out
        by_cases hkm : k < m
        · obtain ⟨b, o, hDe, -, -, hc⟩ := ints_at ((HD.out.below HG.out).below hg) hkm
          have e0 := hc wr (Below.refl _ _)
          obtain ⟨f, hf⟩ : ∃ f, l.getD k 0 = f := ⟨_, rfl⟩
          rw [hf] at e0
          have HNX := Lib.hid (show gotK xs l (k + 1) = if f = 0 then some got else if idx xs f < 0 ∨ (hrs xs (idx xs f).toNat).testBit k = false then none
              else some (got.set (idx xs f).toNat (got.getD (idx xs f).toNat 0 + 1)) by
            rw [← hf]; show (gotK xs l k).bind _ = _; rw [hgot]; rfl)
          clear hc hgot hb hf
          subst hDe
          by_cases hf0 : f = 0
          · subst hf0
            clear hg
            go_wp2_with fail
            go_roundw
            case rel => exact ⟨k + 1, by go_num, by omega, HGr.out, got, by rw [HNX.out, if_pos rfl], HB.out⟩
            case measure => simp [intOf]; omega
          · have hf0' : (f == 0) = false := by simpa using hf0
            have HNX2 := Lib.hid (show gotK xs l (k + 1) = if idx xs f < 0 ∨ (hrs xs (idx xs f).toNat).testBit k = false then none
              else some (got.set (idx xs f).toNat (got.getD (idx xs f).toNat 0 + 1)) by rw [HNX.out, if_neg hf0])
            have HIX := Lib.hid (index_any A n cc xs f wr ((HA.out.below HG.out).below HGr.out) (by omega))
            have hgl := gotK_len HGOT.out
            have HGL := Lib.hid (show got.length = n by rw [hgl, hln.out])
            have HBD := Lib.hid (gotK_bd HGOT.out)
            clear hgl
            rcases idx_cases xs f with hi | ⟨i, hi, hin, -⟩
            · rw [hi] at HIX HNX2
              have HN0 := Lib.hid (show gotK xs l m = none from gotK_none (by rw [HNX2.out, if_pos (.inl (by omega))]) m (by omega))
              clear hg hi
              go_wp2_with (first | (go_at_call 63; refine HIX.out.mono ?_; rintro e w' ⟨rfl, hg4⟩; have HG4 := Lib.hid hg4; clear hg4))
              go_ret
              refine ⟨ret_int ?_, HG.out.trans ((HGr.out.trans (HG4.out.mono HGr.out.size)).mono HG.out.size)⟩
              rw [HE2.out, if_neg (by rw [HN0.out]; rintro ⟨-, h⟩; cases h)]
            · rw [hi] at HIX HNX2
              have hin' : i < n := by have := hln.out; omega
              have HN1 := Lib.hid (show gotK xs l (k + 1) = if (hrs xs i).testBit k = false then none else some (got.set i (got.getD i 0 + 1)) by
                rw [HNX2.out]
                have : ¬ ((i : Int) < 0) := by omega
                simp only [this, false_or, Int.toNat_natCast])
              obtain ⟨ba, oa, x, hAe, -, hx, hca⟩ := comer_at ((HA.out.below HG.out).below HGr.out) hin'
              subst hAe
              have q1 := fun w' (hw : Below wr.heap.size wr w') => (hca w' hw).2.1
              rw [HX.out.nat hx] at q1
              have Q1 := Lib.hid q1
              have hb0 := bit0 (hrs xs i) k (by have := HX.out.lt i; omega)
              have HB0 := Lib.hid hb0
              have D0r := Lib.hid d0
              have D1r := Lib.hid d1
              clear hi hg hca q1 hx hb0
              cases ht : (hrs xs i).testBit k with
              | false =>
                have HN0 := Lib.hid (show gotK xs l m = none from gotK_none (by rw [HN1.out, if_pos ht]) m (by omega))
                have hbt : (bits .and .i64 ((hrs xs i : Nat) / 2 ^ k) 1 == 0) = true := by rw [HB0.out, ht]; rfl
                go_wp2_with (first | (go_at_call 63; refine HIX.out.mono ?_; rintro e w' ⟨rfl, hg4⟩; have q4 := Q1.out w' hg4; have d4 := (hg4.cell (World.block_lt_of_cell? wr _ D1r.out)).trans D1r.out; have HG4 := Lib.hid hg4; clear hg4))
                go_ret
                refine ⟨ret_int ?_, HG.out.trans ((HGr.out.trans (HG4.out.mono HGr.out.size)).mono HG.out.size)⟩
                rw [HE2.out, if_neg (by rw [HN0.out]; rintro ⟨-, h⟩; cases h)]
              | true =>
                have hbt : (bits .and .i64 ((hrs xs i : Nat) / 2 ^ k) 1 == 0) = false := by rw [HB0.out, ht]; rfl
                obtain ⟨v, hv⟩ : ∃ v, got[i]? = some v := ⟨_, List.getElem?_eq_getElem (by have := HGL.out; omega)⟩
                have hvb := HBD.out v (List.mem_of_getElem? hv)
                have HN2 := Lib.hid (show gotK xs l (k + 1) = some (got.set i (v + 1)) by
                  rw [HN1.out, ht, List.getD_eq_getElem?_getD, hv]; rfl)
                have HV := Lib.hid hv
                clear hv
                go_wp2_with (first | (go_at_call 63; refine HIX.out.mono ?_; rintro e w' ⟨rfl, hg4⟩; have q4 := Q1.out w' hg4; have d4 := (hg4.cell (World.block_lt_of_cell? wr _ D1r.out)).trans D1r.out; have b4 := HB.out.ext hg4; have c4 : w'.cell? ⟨bo, i, none⟩ = some (.int .i64 v) := by { rw [b4.cell i, vals_get, HV.out]; rfl }; have f4 := b4.frozen i; have HB4 := Lib.hid b4; have HG4 := Lib.hid hg4; clear hg4 b4))
                go_roundw
                case rel =>
                  refine ⟨k + 1, by go_num, by omega, (HGr.out.trans (HG4.out.mono HGr.out.size)).setCell (p := ⟨bo, i, none⟩) (by have := HBO.out; dsimp only; omega) _, _, HN2.out, ?_⟩
                  have := HB4.out.set_ i (.int .i64 (v + 1))
                  rw [vals_set] at this
                  exact this
                case measure => simp [intOf]; omega
        · obtain rfl : k = m := by omega
          have HTR := Lib.hid (turns_any A n cc k xs wr ((HA.out.below HG.out).below hg) HX.out hH hn12)
          clear hg hgot hb
          go_wp2_with fail
          refine HTR.out.mono ?_
          rintro e W5 ⟨⟨bt, rfl, hbt, hb5⟩, hg5⟩
          have HG5 := Lib.hid hg5
          have hl5 : (turnsS xs k).length = n := (turnsT_len _ _ _).trans hln.out
          have hgl := gotK_len HGOT.out
          have HEQ := Lib.hid (equal_any (some ⟨bo, 0, none⟩) (some ⟨bt, 0, none⟩) n n n n got (turnsS xs k) W5 ((HB.out.intsN (by rw [hgl, hln.out])).below hg5) (hb5.intsN hl5) (by omega) (by omega))
          obtain ⟨eq, heq⟩ : ∃ eq, decide (got = turnsS xs k) = eq := ⟨_, rfl⟩
          have HEQ2 := Lib.hid heq
          have hfin : de = if eq = true then 0 else 53 := by
            rw [HE2.out, HGOT.out, ← heq]; simp
          have HFIN := Lib.hid hfin
          clear hg5 hb5 hgl heq hfin
          cases eq with
          | true =>
            go_wp2_with (first | (go_at_call 91; refine HEQ.out.mono ?_; rw [HEQ2.out]; rintro e w' ⟨rfl, hg6⟩; have HG6 := Lib.hid hg6; clear hg6))
            go_ret
            exact ⟨ret_int HFIN.out.symm, HG.out.trans ((HGr.out.trans ((HG5.out.trans (HG6.out.mono HG5.out.size)).mono HGr.out.size)).mono HG.out.size)⟩
          | false =>
            go_wp2_with (first | (go_at_call 91; refine HEQ.out.mono ?_; rw [HEQ2.out]; rintro e w' ⟨rfl, hg6⟩; have HG6 := Lib.hid hg6; clear hg6))
            go_ret
            exact ⟨ret_int HFIN.out.symm, HG.out.trans ((HGr.out.trans ((HG5.out.trans (HG6.out.mono HG5.out.size)).mono HGr.out.size)).mono HG.out.size)⟩
    · have hne : ((m : Int) != (H : Int)) = true := by simp; omega
      go_wp2_with fail
      all_goals first
        | (exfalso; omega)
        | skip
      go_ret
      have : ¬ ((m : Int) = H ∧ gotK xs l m = some (turnsS xs H)) := fun h => by omega
      rw [HE2.out, if_neg this]
      exact ⟨rfl, HG.out⟩
end Go.Proofs.Ytdhhneflhmkonaa

/- The mill: Idle. -/
namespace Go.Proofs.Ytdhhneflhmkonaa
open Go.RowKit Go.Shelf

/-- The hours below k without which the demands can be met. -/
def idleK (xs : List Comer) (H : Nat) (due : List Int) : Nat → List Int
  | 0 => []
  | k + 1 => idleK xs H due k ++ if fea xs H (k : Int) due = true then [(k : Int)] else []
theorem idleK_len (xs : List Comer) (H : Nat) (due : List Int) : ∀ k, (idleK xs H due k).length ≤ k
  | 0 => Nat.le_refl _
  | k + 1 => by
    have := idleK_len xs H due k
    unfold idleK
    split <;> simp <;> omega
def idleS (xs : List Comer) (h : Int) : List Int := if okMill h xs then idleK xs h.toNat (turnsS xs h.toNat) h.toNat else []

set_option maxRecDepth 100000 in
set_option maxHeartbeats 2000000 in
theorem Idle_any (A : Option Addr) (n cc : Nat) (h : Int) (xs : List Comer) (w : World) (ha : Arr ccells 3 w A n xs) (hnc : n ≤ cc) (hn : n ≤ 9223372036854775807) :
    Calls Try.prog 16 #[mv A n cc h] w fun e w' => (∃ D c, e = .returned (.tuple #[.slice D (idleS xs h).length c, .int .i64 (err (okMill h xs) 52)]) ∧ Ints w' D (idleS xs h).length (idleS xs h)) ∧ Below w.heap.size w w' := by
  have HA := Lib.hid ha
  have hlen := Lib.hid ha.1
  obtain ⟨ok, hok⟩ : ∃ ok, okMill h xs = ok := ⟨_, rfl⟩
  have HOK := Lib.hid hok
  have HL := Lib.hid (show idleS xs h = if ok then idleK xs h.toNat (turnsS xs h.toNat) h.toNat else [] by rw [← hok]; rfl)
  generalize hls : idleS xs h = ls at HL ⊢
  rw [hok]
  clear ha hok hls
  unfold mv
  go_enter Try.func16, Try.ntmps16
  go_wp2_with fail
  generalize hW1 : w.alloc (.cells #[.int .i64 h, .slice A n cc] 24) = W1
  obtain ⟨g1, c0, c1⟩ := box2 hW1
  have HG1 := Lib.hid g1
  have hwl : w.heap.size < W1.heap.size := by rw [boxSize hW1]; omega
  clear hW1
  refine (check_any h A n cc xs W1 (HA.out.below g1) hnc hn).mono ?_
  rintro e W2 ⟨rfl, hg2⟩
  rw [HOK.out]
  have HG2 := Lib.hid hg2
  have HG := Lib.hid (HG1.out.trans (HG2.out.mono HG1.out.size))
  cases ok with
  | false =>
    clear c0 c1 g1 hg2
    rw [show err false 52 = 52 from rfl]
    go_wp2_with fail
    go_ret2
    have e : ls = [] := HL.out
    subst e
    exact ⟨⟨none, 0, rfl, Arr.nil_⟩, HG.out⟩
  | true =>
    have hO := (okMill_iff h xs).1 HOK.out
    obtain ⟨H, rfl⟩ : ∃ H : Nat, h = H := ⟨h.toNat, by have := hO.h0; omega⟩
    have hH : H ≤ 24 := by have := hO.h24; omega
    have hn12 : n ≤ 12 := by have := hO.n12; have := hlen.out; omega
    have HX := Lib.hid hO.hrs
    have d0 := (hg2.cell (p := ⟨w.heap.size, 0, none⟩) hwl).trans c0
    have d1 := (hg2.cell (p := ⟨w.heap.size, 1, none⟩) hwl).trans c1
    have hwl2 : w.heap.size < W2.heap.size := by have := hg2.size; omega
    clear hO c0 c1 g1 hg2
    rw [show err true 52 = 0 from rfl]
    go_wp2_with fail
    refine (turns_any A n cc H xs W2 (HA.out.below HG.out) HX.out hH hn12).mono ?_
    rintro e W3 ⟨⟨b, rfl, hbl, hb⟩, hg3⟩
    have hdl : (turnsS xs H).length = n := (turnsT_len _ _ _).trans hlen.out
    have hdb := turnsT_bd xs H 24
    have hI := hb.intsN hdl
    have HL2 := Lib.hid (show ls = idleK xs H (turnsS xs H) H from HL.out)
    obtain ⟨due, hdue⟩ : ∃ due, turnsS xs H = due := ⟨_, rfl⟩
    have hdb' : ∀ x ∈ due, x ≤ 9223372036854775807 := by rw [← hdue]; intro x hx; have := hdb x hx; omega
    rw [hdue] at hI HL2 hdl
    have HI := Lib.hid hI
    have HDL := Lib.hid hdl
    have HDB := Lib.hid hdb'
    have HG3 := Lib.hid hg3
    have D0 := Lib.hid ((hg3.cell (p := ⟨w.heap.size, 0, none⟩) hwl2).trans d0)
    have D1 := Lib.hid ((hg3.cell (p := ⟨w.heap.size, 1, none⟩) hwl2).trans d1)
    have hb3 := hb.lt
    have e0 := D0.out
    have hwl3 : w.heap.size < W3.heap.size := by have := hg3.size; omega
    have HGG := Lib.hid (HG.out.trans (HG3.out.mono HG.out.size))
    clear hI hb hg3 hdl hdb hdb' hdue d0 d1
    go_wp2_with fail
    go_loopw [6, 19] (fun v i wr => ∃ k : Nat, i = .int .i64 k ∧ k ≤ H ∧ Below W3.heap.size W3 wr ∧ Own wr W3.heap.size v (idleK xs H due k)) (fun _ i _ => H - (intOf i).toNat)
    case atStart => exact ⟨0, rfl, by omega, Below.refl _ _, Own.nil _ _⟩
    case round =>
      obtain ⟨k, rfl, hk, hg, hown⟩ := hrel
      have HGr := Lib.hid hg
      have HO := Lib.hid hown
      have d0 : wr.cell? ⟨w.heap.size, 0, none⟩ = some (.int .i64 H) := (hg.cell (p := ⟨w.heap.size, 0, none⟩) hwl3).trans D0.out
      have d1 : wr.cell? ⟨w.heap.size, 1, none⟩ = some (.slice A n cc) := (hg.cell (p := ⟨w.heap.size, 1, none⟩) hwl3).trans D1.out
      have hsz := hg.size
      by_cases hkH : k < H
      · clear hg hown
        go_wp2_with fail
        refine (open_any A n cc H xs (k : Int) wr ((HA.out.below HGG.out).below HGr.out) hH (by omega) (by omega)).mono ?_
        rintro e W5 ⟨bp, bw, left, rfl, hmp, hbw, hl, hlb, hge, hg5⟩
        have HD5 := Lib.hid ((HI.out.below HGr.out).below hg5)
        have hDn : ∀ b' o', (some ⟨b, 0, none⟩ : Option Addr) = some ⟨b', o', none⟩ → 0 < n → b' ≠ bw := fun b' o' e _ => by cases e; omega
        have HDn := Lib.hid hDn
        have HMP := Lib.hid hmp
        have HBW := Lib.hid hbw
        have HLB := Lib.hid hlb
        have HG5 := Lib.hid hg5
        have HGE := Lib.hid hge
        clear hmp hbw hlb hg5 hDn hge
        go_wp2_with fail
        refine (serve_any bp bw n cc H left n A (some ⟨b, 0, none⟩) xs due W5 HMP.out HX.out hH hl hn12 HBW.out HD5.out HDn.out HDB.out).mono ?_
        rintro e W6 hsp
        obtain ⟨hf, v, rfl⟩ := hsp.ok HMP.out.arr.1 HD5.out.1 HLB.out
        have hg6 : Below wr.heap.size wr W6 := hf.calm HG5.out HGE.out
        have HG6 := Lib.hid hg6
        have HO6 := Lib.hid (HO.out.ext hg6)
        have hsz6 : W3.heap.size ≤ W6.heap.size := by have := hg6.size; omega
        obtain ⟨bf, hbf⟩ : ∃ bf, fea xs H (k : Int) due = bf := ⟨_, rfl⟩
        have HNX := Lib.hid (show idleK xs H due (k + 1) = idleK xs H due k ++ if bf = true then [(k : Int)] else [] by rw [← hbf]; rfl)
        rw [hbf]
        have HL100 : (idleK xs H due k).length < 100000 := by have := idleK_len xs H due k; omega
        clear hf hsp hg6 hbf
        cases bf with
        | true =>
          go_wp2_with (first | (at_builtin; refine push_int rfl _ _ rfl W3.heap.size _ (idleK xs H due k) rfl (HO6.out.ext ((Below.refl _ _).alloc (Nat.le_refl _) _)) _ _ _ _ rfl rfl (cell_new1 _ _ _ _ rfl) HL100 (by simp; omega) ?_; intro v' w' ho hbw))
          go_roundw
          case rel =>
            refine ⟨k + 1, by go_num, by omega, ((HGr.out.trans (HG6.out.mono HGr.out.size)).alloc hsz6 _).trans (hbw _ (Nat.le_refl _)), ?_⟩
            rw [HNX.out, if_pos trivial]; exact ho
          case measure => simp [intOf]; omega
        | false =>
          go_wp2_with fail
          go_roundw
          case rel => exact ⟨k + 1, by go_num, by omega, HGr.out.trans (HG6.out.mono HGr.out.size), by rw [HNX.out]; simpa using HO6.out⟩
          case measure => simp [intOf]; omega
      · obtain rfl : k = H := by omega
        obtain ⟨D, c, rfl, hi⟩ := hown.ints
        have HI2 := Lib.hid hi
        clear hg hown hi
        go_wp2_with fail
        go_ret2
        rw [HL2.out]
        exact ⟨⟨D, c, rfl, HI2.out⟩, HGG.out.trans (HGr.out.mono HGG.out.size)⟩
end Go.Proofs.Ytdhhneflhmkonaa

/- slices.Clone, of numbers and of comers. -/
namespace Go.Proofs.Ytdhhneflhmkonaa
open Go.RowKit Go.Shelf

theorem add_at (b o j : Nat) : (⟨b, o, none⟩ : Addr).add j = ⟨b, o + j, none⟩ := by unfold Addr.add; split <;> simp_all

set_option maxRecDepth 100000 in
theorem eqNil (t : TypeId) (ht : t = 28 ∨ t = 22) (a : Option Addr) (n c : Nat) (w : World) : (binOp .eql t (.slice a n c) (.slice none 0 0)).run Try.prog w = .ok (.bool a.isNone) w := by
  rcases ht with rfl | rfl <;> cases a <;> rfl

set_option maxRecDepth 100000 in
theorem cloneInts_any (A : Option Addr) (n c : Nat) (l : List Int) (w : World) (ha : Ints w A n l) (hn : n ≤ 1000000) :
    Calls Try.prog 66 #[.slice A n c] w fun e w' => (∃ v, e = .returned v ∧ Own w' w.heap.size v l) ∧ Below w.heap.size w w' := by
  have HA := Lib.hid ha
  have hl := Lib.hid ha.1
  clear ha
  cases A with
  | none =>
    have h0 : n = 0 := by
      rcases Nat.eq_zero_or_pos n with h | h
      · exact h
      · obtain ⟨b, o, e, _⟩ := HA.out.2 h; cases e
    subst h0
    have : l = [] := List.eq_nil_of_length_eq_zero hl.out
    subst this
    have heq := fun w => eqNil 28 (.inl rfl) none 0 c w
    go_enter Try.func66, Try.ntmps66
    go_wp2_with fail
    go_ret
    exact ⟨⟨_, rfl, Own.nil _ _⟩, Below.refl _ _⟩
  | some a =>
    have heq := fun w => eqNil 28 (.inl rfl) (some a) n c w
    have hnews : ∀ (j : Nat) (u : Value), (l.map (Value.int .i64))[j]? = some u → w.cell? (a.add j) = some u := by
      intro j u hu
      rw [List.getElem?_map] at hu
      have hj : j < n := by
        rw [← hl.out]
        rcases Nat.lt_or_ge j l.length with h | h
        · exact h
        · rw [List.getElem?_eq_none h] at hu; cases hu
      obtain ⟨b, o, e, -, hx, hc⟩ := ints_at HA.out hj
      cases e
      have h0 := hc w (Below.refl _ _)
      rw [hx] at hu; cases hu
      rw [add_at]; exact h0
    have HN := Lib.hid hnews
    clear hnews
    obtain ⟨i, hi, hz0, hz1, hz2⟩ := info_parts info3
    have hown := World.ownsRow_made (e := 3) (size := 1) w #[] 0 (Nat.le_refl w.heap.size) (by decide) rfl
    have HOW := Lib.hid hown
    clear hown
    go_enter Try.func66, Try.ntmps66
    go_wp2_with (first | (at_builtin; go_loud (refine wpList_append_own _ rfl _ _ 28 rfl w.heap.size 3 i (.int .i64 0) 1 8 under28 hi hz0 hz1 hz2 (by simp [Value.cells]) (by decide) _ 0 [] rfl HOW.out a n c (l.map (Value.int .i64)) rfl (by simp [hl.out]) (fun j u hu => (World.cell?_alloc_lt _ _ _ (World.block_lt_of_cell? _ _ (HN.out j u hu))).trans (HN.out j u hu)) (by simp [Value.oneCell']) (by unfold maxLen; omega) (by omega) (by simp) ?_); intro v' w' ho hbw hz))
    go_ret
    refine ⟨⟨_, rfl, ?_⟩, ((Below.refl _ _).alloc (Nat.le_refl _) _).grown hbw (by simp) (fun k hk => Nat.le_of_eq (Option.some.inj hk))⟩
    unfold Own
    rw [hl.out]
    simpa using ho

/-! ### Comers -/
theorem ccells_len (x : Comer) : (ccells x).length = 3 := rfl
theorem flat_get {α : Type} {f : α → List Value} {s : Nat} (hf : ∀ x, (f x).length = s) : ∀ (xs : List α) (k j : Nat), j < s → (xs.flatMap f)[k * s + j]? = xs[k]?.bind fun x => (f x)[j]?
  | [], k, j, _ => by simp
  | x :: xs, 0, j, hj => by
    rw [List.flatMap_cons, List.getElem?_append_left (by rw [hf]; omega)]; simp
  | x :: xs, k + 1, j, hj => by
    have e : (k + 1) * s + j = s + (k * s + j) := by rw [Nat.succ_mul]; omega
    rw [List.flatMap_cons, List.getElem?_append_right (by rw [hf, e]; omega), hf, e, Nat.add_sub_cancel_left, flat_get hf xs k j hj]
    rfl
theorem flat_len {α : Type} {f : α → List Value} {s : Nat} (hf : ∀ x, (f x).length = s) : ∀ xs : List α, (xs.flatMap f).length = xs.length * s
  | [] => by simp
  | x :: xs => by rw [List.flatMap_cons, List.length_append, hf, flat_len hf xs, List.length_cons, Nat.succ_mul]; omega

/-- A slice of comers that the call itself makes. -/
def OwnC (w : World) (base : Nat) (v : Value) (xs : List Comer) : Prop := w.ownsRow base 53 3 v xs.length (xs.flatMap ccells)
section
variable {w w' : World} {base : Nat} {v : Value} {xs : List Comer}
theorem OwnC.nil (w : World) (base : Nat) : OwnC w base (.slice none 0 0) [] := World.ownsRow_nil w base 53 3
theorem OwnC.ext (h : OwnC w base v xs) (g : Below w.heap.size w w') : OwnC w' base v xs :=
  World.ownsRow.kept h (row := none) ⟨g.os, g.tape, g.output, g.size, fun k hk _ => g.block k hk⟩ (by
    cases hq : v.ownBlock with
    | none => exact .inl rfl
    | some k => exact .inr (by simp))
/-- As a slice; where it lies. -/
theorem OwnC.arr (h : OwnC w base v xs) : ∃ A c, v = .slice A xs.length c ∧ xs.length ≤ c ∧ Arr ccells 3 w A xs.length xs ∧
    (∀ b o, A = some ⟨b, o, none⟩ → base ≤ b ∧ o = 0) ∧ ∀ b o, A = some ⟨b, o, none⟩ → ∀ j, w.frozen? ⟨b, j, none⟩ = false := by
  obtain ⟨h1, h2 | ⟨g, cap, cur, rfl, hb, hg, h4, h5, h6, h7⟩⟩ := h
  · obtain ⟨rfl, h3⟩ := h2
    have : xs = [] := List.eq_nil_of_length_eq_zero h3
    subst this
    exact ⟨none, 0, rfl, Nat.le_refl _, Arr.nil_, (by simp), (by simp)⟩
  · have hg' : Blk w g 53 cur := hg
    refine ⟨_, _, rfl, h4, ⟨rfl, fun _ => ⟨g, 0, rfl, hg'.lt, fun k x hx j u hu => ?_⟩⟩, fun b o e => by cases e; exact ⟨hb, rfl⟩, fun b o e j => by cases e; exact hg'.frozen j⟩
    have hk : k < xs.length := (List.getElem?_eq_some_iff.1 hx).1
    have hj : j < 3 := by
      rcases Nat.lt_or_ge j 3 with h | h
      · exact h
      · rw [List.getElem?_eq_none (by simp [ccells]; omega)] at hu; cases hu
    have e1 : (xs.flatMap ccells)[k * 3 + j]? = some u := by rw [flat_get ccells_len xs k j hj, hx]; exact hu
    rw [← h7, List.getElem?_take, if_pos (by omega)] at e1
    rw [show 0 + k * 3 + j = k * 3 + j by omega, hg'.cell]
    simpa using e1
end
theorem info53 : (Try.prog.info? 53).map (fun i => (i.zero, i.size, i.bytes)) = some (some (.agg #[.int .i64 0, .int .i64 0, .int .i64 0]), 3, 24) := by kernel_rfl
theorem under22 : Try.prog.underlying 22 = some (.slice 53) := by kernel_rfl

set_option maxRecDepth 100000 in
theorem cloneComers_any (A : Option Addr) (n c : Nat) (xs : List Comer) (w : World) (ha : Arr ccells 3 w A n xs) (hn : n ≤ 1000000) :
    Calls Try.prog 69 #[.slice A n c] w fun e w' => (∃ v, e = .returned v ∧ OwnC w' w.heap.size v xs) ∧ Below w.heap.size w w' := by
  have HA := Lib.hid ha
  have hl := Lib.hid ha.1
  clear ha
  cases A with
  | none =>
    have h0 : n = 0 := by
      rcases Nat.eq_zero_or_pos n with h | h
      · exact h
      · obtain ⟨b, o, e, _⟩ := HA.out.2 h; cases e
    subst h0
    have : xs = [] := List.eq_nil_of_length_eq_zero hl.out
    subst this
    have heq := fun w => eqNil 22 (.inr rfl) none 0 c w
    go_enter Try.func69, Try.ntmps69
    go_wp2_with fail
    go_ret
    exact ⟨⟨_, rfl, OwnC.nil _ _⟩, Below.refl _ _⟩
  | some a =>
    have heq := fun w => eqNil 22 (.inr rfl) (some a) n c w
    have hnews : ∀ (j : Nat) (u : Value), (xs.flatMap ccells)[j]? = some u → w.cell? (a.add j) = some u := by
      intro j u hu
      have hj : j < n * 3 := by
        rw [← hl.out, ← flat_len ccells_len xs]
        exact (List.getElem?_eq_some_iff.1 hu).1
      obtain ⟨b, o, x, e, -, hx, hc⟩ := HA.out.at (k := j / 3) (by omega)
      cases e
      rw [show j = j / 3 * 3 + j % 3 by omega, flat_get ccells_len xs _ _ (Nat.mod_lt _ (by decide)), hx] at hu
      have := hc w (Below.refl _ _) (j % 3) u hu
      rw [add_at, show o + j = o + j / 3 * 3 + j % 3 by omega]
      exact this
    have HN := Lib.hid hnews
    clear hnews
    obtain ⟨i, hi, hz0, hz1, hz2⟩ := info_parts info53
    have hown := World.ownsRow_made (e := 53) (size := 3) w #[] 0 (Nat.le_refl w.heap.size) (by decide) rfl
    have HOW := Lib.hid hown
    have h1c : ∀ u ∈ xs.flatMap ccells, u.oneCell' = true := by
      intro u hu
      obtain ⟨x, -, hx⟩ := List.mem_flatMap.1 hu
      simp [ccells] at hx
      rcases hx with rfl | rfl | rfl <;> rfl
    have hfl : (xs.flatMap ccells).length = n * 3 := by rw [flat_len ccells_len xs, hl.out]
    have HFL := Lib.hid hfl
    have H1 := Lib.hid h1c
    clear hown h1c hfl
    go_enter Try.func69, Try.ntmps69
    go_wp2_with (first | (at_builtin; go_loud (refine wpList_append_own _ rfl _ _ 22 rfl w.heap.size 53 i (.agg #[.int .i64 0, .int .i64 0, .int .i64 0]) 3 24 under22 hi hz0 hz1 hz2 (by simp [Value.cells]) (by decide) _ 0 [] rfl HOW.out a n c (xs.flatMap ccells) rfl HFL.out (fun j u hu => (World.cell?_alloc_lt _ _ _ (World.block_lt_of_cell? _ _ (HN.out j u hu))).trans (HN.out j u hu)) H1.out (by unfold maxLen; omega) (by omega) (by simp) ?_); intro v' w' ho hbw hz))
    go_ret
    refine ⟨⟨_, rfl, ?_⟩, ((Below.refl _ _).alloc (Nat.le_refl _) _).grown hbw (by simp) (fun k hk => Nat.le_of_eq (Option.some.inj hk))⟩
    unfold OwnC
    rw [hl.out]
    simpa using ho
end Go.Proofs.Ytdhhneflhmkonaa
