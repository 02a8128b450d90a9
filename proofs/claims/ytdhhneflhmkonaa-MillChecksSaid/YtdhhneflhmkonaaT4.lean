/- The mill: Level, Hours. -/
import Derived.Test.YtdhhneflhmkonaaT3
import Derived.Deep.RegionWith
namespace Go.Proofs.Ytdhhneflhmkonaa
open Go.RowKit Go.Shelf

/-- What is known of the comers of a valid mill. -/
structure Ok (h : Int) (xs : List Comer) : Prop where
  h0 : 0 ≤ h
  h24 : h ≤ 24
  n12 : xs.length ≤ 12
  com : ∀ (i : Nat) (x : Comer), xs[i]? = some x → isComer x = true ∧ x.hours < 2 ^ h.toNat ∧ idx (xs.take i) x.family < 0

theorem okMill_iff (h : Int) (xs : List Comer) : okMill h xs = true ↔ Ok h xs := by
  unfold okMill okComers
  simp only [Bool.and_eq_true, decide_eq_true_eq, List.all_eq_true, rng]
  constructor
  · rintro ⟨⟨⟨h0, h24⟩, h12⟩, hc⟩
    refine ⟨h0, h24, h12, fun i x hx => ?_⟩
    have hi : i < xs.length := (List.getElem?_eq_some_iff.1 hx).1
    have := hc i (List.mem_range.2 hi)
    rw [List.getD_eq_getElem?_getD, hx] at this
    simpa [okComer, and_assoc] using this
  · rintro ⟨h0, h24, h12, hc⟩
    refine ⟨⟨⟨h0, h24⟩, h12⟩, fun i hi => ?_⟩
    have hi' := List.mem_range.1 hi
    have := hc i _ (List.getElem?_eq_getElem hi')
    rw [List.getD_eq_getElem?_getD, List.getElem?_eq_getElem hi']
    simpa [okComer, and_assoc] using this
theorem Ok.hrs {h : Int} {xs : List Comer} (k : Ok h xs) : Hrs xs := by
  intro x hx
  obtain ⟨i, hi, rfl⟩ := List.getElem_of_mem hx
  obtain ⟨h1, -, -⟩ := k.com i _ (List.getElem?_eq_getElem hi)
  simp [isComer, rng] at h1
  omega

/-- The greatest k up to 24 such that 1, 2, .. k hours each can be had. -/
def lev (xs : List Comer) (H : Nat) : Nat → Nat → Nat
  | 0, k => k
  | f + 1, k => if fea xs H (-1) (capped xs ((k : Int) + 1)) = true then lev xs H f (k + 1) else k
def levS (xs : List Comer) (h : Int) : Int := if okMill h xs then ((lev xs h.toNat 24 0 : Nat) : Int) else 0

set_option maxRecDepth 100000 in
set_option maxHeartbeats 2000000 in
theorem Level_any (A : Option Addr) (n cc : Nat) (h : Int) (xs : List Comer) (w : World) (ha : Arr ccells 3 w A n xs) (hnc : n ≤ cc) (hn : n ≤ 9223372036854775807) :
    Calls Try.prog 35 #[mv A n cc h] w fun e w' => e = .returned (.tuple #[.int .i64 (levS xs h), .int .i64 (err (okMill h xs) 52)]) ∧ Below w.heap.size w w' := by
  have HA := Lib.hid ha
  have hlen := Lib.hid ha.1
  obtain ⟨ok, hok⟩ : ∃ ok, okMill h xs = ok := ⟨_, rfl⟩
  have HOK := Lib.hid hok
  have HL := Lib.hid (show levS xs h = if ok then ((lev xs h.toNat 24 0 : Nat) : Int) else 0 by rw [← hok]; rfl)
  generalize hls : levS xs h = ls at HL ⊢
  rw [hok]
  clear ha hok hls
  unfold mv
  go_enter Try.func35, Try.ntmps35
  go_wp2_with fail
  generalize hW1 : w.alloc (.cells #[.int .i64 h, .slice A n cc] 24) = W1
  obtain ⟨g1, c0, c1⟩ := box2 hW1
  have HG1 := Lib.hid g1
  have C0 := Lib.hid c0
  have C1 := Lib.hid c1
  have hwl : w.heap.size < W1.heap.size := by rw [boxSize hW1]; omega
  clear hW1
  refine (check_any h A n cc xs W1 (HA.out.below g1) hnc hn).mono ?_
  rintro e W2 ⟨rfl, hg2⟩
  rw [HOK.out]
  clear c0 c1 g1
  have HG2 := Lib.hid hg2
  clear hg2
  cases ok with
  | false =>
    rw [show err false 52 = 52 from rfl]
    go_wp2_with fail
    go_ret2
    rw [HL.out]
    exact ⟨rfl, HG1.out.trans (HG2.out.mono HG1.out.size)⟩
  | true =>
    have hO := (okMill_iff h xs).1 HOK.out
    obtain ⟨H, rfl⟩ : ∃ H : Nat, h = H := ⟨h.toNat, by have := hO.h0; omega⟩
    have hH : H ≤ 24 := by have := hO.h24; omega
    have hn12 : n ≤ 12 := by have := hO.n12; have := hlen.out; omega
    have HX := Lib.hid hO.hrs
    have HL2 := Lib.hid (show ls = ((lev xs H 24 0 : Nat) : Int) from HL.out)
    clear hO
    rw [show err true 52 = 0 from rfl]
    go_wp2_with fail
    go_loopw [5] (fun v wr => ∃ k : Nat, v = .int .i64 k ∧ k ≤ 24 ∧ Below W1.heap.size W1 wr ∧ lev xs H (24 - k) k = lev xs H 24 0) (fun v _ => 24 - (intOf v).toNat)
    case atStart => exact ⟨0, rfl, by omega, HG2.out, rfl⟩
    case round =>
      obtain ⟨k, rfl, hk, hg, hl⟩ := hrel
      have HG := Lib.hid hg
      have HLL := Lib.hid hl
      have d0 : wr.cell? ⟨w.heap.size, 0, none⟩ = some (.int .i64 H) := (hg.cell (p := ⟨w.heap.size, 0, none⟩) hwl).trans C0.out
      have d1 : wr.cell? ⟨w.heap.size, 1, none⟩ = some (.slice A n cc) := (hg.cell (p := ⟨w.heap.size, 1, none⟩) hwl).trans C1.out
      have F : ∀ x : Wd wr, x.val.cell? ⟨w.heap.size, 0, none⟩ = some (.int .i64 H) ∧ x.val.cell? ⟨w.heap.size, 1, none⟩ = some (.slice A n cc) := fun x => ⟨cellW d0 x, cellW d1 x⟩
      clear hg hl
      by_cases hk24 : k < 24
      · have hd : decide ((k : Int) < 24) = true := by simp; omega
        go_wp2_with fail
        have hwr : IntKind.i64.wrap ((k : Int) + 1) = (k : Int) + 1 := by rw [IntKind.wrap_i64]; omega
        have HGd := Lib.hid (show Below W1.heap.size W1 wr.drew from HG.out.drew)
        obtain ⟨bf, hbf⟩ : ∃ bf, fea xs H (-1) (capped xs ((k : Int) + 1)) = bf := ⟨_, rfl⟩
        have HNX := Lib.hid (show lev xs H (24 - k) k = if bf = true then lev xs H (24 - (k + 1)) (k + 1) else k by
          rw [← hbf, show 24 - k = (24 - (k + 1)) + 1 by omega]; rfl)
        have hcb : ∀ y ∈ capped xs ((k : Int) + 1), y ≤ 9223372036854775807 := by
          intro y hy; obtain ⟨x, -, rfl⟩ := List.mem_map.1 hy; omega
        have HBF := Lib.hid hbf
        clear hbf
        cases bf with
        | true =>
          go_region_with (first
            | (go_at_call 88; refine (atMost_any A n cc H _ xs _ ((HA.out.below HG1.out).below HGd.out) hn12).mono ?_; rintro e w' ⟨⟨D, c, rfl, hi⟩, hbl⟩; have HI := Lib.hid hi; have HBL := Lib.hid (HGd.out.trans (hbl.mono HGd.out.size)); have d0' : w'.cell? ⟨w.heap.size, 0, none⟩ = some (.int .i64 H) := (HBL.out.cell (p := ⟨w.heap.size, 0, none⟩) hwl).trans C0.out; have d1' : w'.cell? ⟨w.heap.size, 1, none⟩ = some (.slice A n cc) := (HBL.out.cell (p := ⟨w.heap.size, 1, none⟩) hwl).trans C1.out; clear hi hbl)
            | (go_at_call 70; refine (serves_any A D n cc c H xs _ _ ((HA.out.below HG1.out).below HBL.out) HX.out hH hn12 HI.out hcb).mono ?_; rw [HBF.out]; rintro e w' ⟨rfl, hbl⟩; have HBL2 := Lib.hid (HBL.out.trans (hbl.mono HBL.out.size)); clear hbl))
          all_goals
            go_wp2_with fail
            go_roundw
            case rel => exact ⟨k + 1, by go_num, by omega, HBL2.out, by rw [← HLL.out, HNX.out, if_pos trivial]⟩
            case measure => simp [intOf]; omega
        | false =>
          go_region_with (first
            | (go_at_call 88; refine (atMost_any A n cc H _ xs _ ((HA.out.below HG1.out).below HGd.out) hn12).mono ?_; rintro e w' ⟨⟨D, c, rfl, hi⟩, hbl⟩; have HI := Lib.hid hi; have HBL := Lib.hid (HGd.out.trans (hbl.mono HGd.out.size)); have d0' : w'.cell? ⟨w.heap.size, 0, none⟩ = some (.int .i64 H) := (HBL.out.cell (p := ⟨w.heap.size, 0, none⟩) hwl).trans C0.out; have d1' : w'.cell? ⟨w.heap.size, 1, none⟩ = some (.slice A n cc) := (HBL.out.cell (p := ⟨w.heap.size, 1, none⟩) hwl).trans C1.out; clear hi hbl)
            | (go_at_call 70; refine (serves_any A D n cc c H xs _ _ ((HA.out.below HG1.out).below HBL.out) HX.out hH hn12 HI.out hcb).mono ?_; rw [HBF.out]; rintro e w' ⟨rfl, hbl⟩; have HBL2 := Lib.hid (HBL.out.trans (hbl.mono HBL.out.size)); clear hbl))
          all_goals
            go_wp2_with fail
            go_ret2
            rw [HL2.out, ← HLL.out, HNX.out]
            exact ⟨rfl, HG1.out.trans (HBL2.out.mono HG1.out.size)⟩
      · obtain rfl : k = 24 := by omega
        have hd : decide (((24 : Nat) : Int) < 24) = false := by decide
        go_wp2_with fail
        refine wp_region_calm wr (by kernel_rfl) (by kernel_rfl) (Below.refl _ _) ?_
        repeat (go_big_quiet_step (fail))
        refine wpQuiet_nil ?_
        rintro _ ⟨z, rfl⟩
        go_wp2_with fail
        go_ret2
        rw [HL2.out, ← HLL.out]
        exact ⟨rfl, HG1.out.trans ((HG.out.trans (z.ok.mono HG.out.size)).mono HG1.out.size)⟩
end Go.Proofs.Ytdhhneflhmkonaa
