/- The mill: Idle. -/
import Derived.Test.YtdhhneflhmkonaaT7
namespace Go.Proofs.Ytdhhneflhmkonaa
open Go.RowKit Go.Shelf

/-- The hours below k without which the demands can be met. -/
def idleK (xs : List Comer) (H : Nat) (due : List Int) : Nat → List Int
  | 0 => []
  | k + 1 => idleK xs H due k ++ if fea xs H (k : Int) due = true then [(k : Int)] else []
theorem idleK_len (xs : List Comer) (H : Nat) (due : List Int) : ∀ k, (idleK xs H due k).length ≤ k
  | 0 => Nat.le_refl _
  | k + 1 => by
    have := idleK_len xs H due k
    unfold idleK
    split <;> simp <;> omega
def idleS (xs : List Comer) (h : Int) : List Int := if okMill h xs then idleK xs h.toNat (turnsS xs h.toNat) h.toNat else []

set_option maxRecDepth 100000 in
set_option maxHeartbeats 2000000 in
theorem Idle_any (A : Option Addr) (n cc : Nat) (h : Int) (xs : List Comer) (w : World) (ha : Arr ccells 3 w A n xs) (hnc : n ≤ cc) (hn : n ≤ 9223372036854775807) :
    Calls Try.prog 16 #[mv A n cc h] w fun e w' => (∃ D c, e = .returned (.tuple #[.slice D (idleS xs h).length c, .int .i64 (err (okMill h xs) 52)]) ∧ Ints w' D (idleS xs h).length (idleS xs h)) ∧ Below w.heap.size w w' := by
  have HA := Lib.hid ha
  have hlen := Lib.hid ha.1
  obtain ⟨ok, hok⟩ : ∃ ok, okMill h xs = ok := ⟨_, rfl⟩
  have HOK := Lib.hid hok
  have HL := Lib.hid (show idleS xs h = if ok then idleK xs h.toNat (turnsS xs h.toNat) h.toNat else [] by rw [← hok]; rfl)
  generalize hls : idleS xs h = ls at HL ⊢
  rw [hok]
  clear ha hok hls
  unfold mv
  go_enter Try.func16, Try.ntmps16
  go_wp2_with fail
  generalize hW1 : w.alloc (.cells #[.int .i64 h, .slice A n cc] 24) = W1
  obtain ⟨g1, c0, c1⟩ := box2 hW1
  have HG1 := Lib.hid g1
  have hwl : w.heap.size < W1.heap.size := by rw [boxSize hW1]; omega
  clear hW1
  refine (check_any h A n cc xs W1 (HA.out.below g1) hnc hn).mono ?_
  rintro e W2 ⟨rfl, hg2⟩
  rw [HOK.out]
  have HG2 := Lib.hid hg2
  have HG := Lib.hid (HG1.out.trans (HG2.out.mono HG1.out.size))
  cases ok with
  | false =>
    clear c0 c1 g1 hg2
    rw [show err false 52 = 52 from rfl]
    go_wp2_with fail
    go_ret2
    have e : ls = [] := HL.out
    subst e
    exact ⟨⟨none, 0, rfl, Arr.nil_⟩, HG.out⟩
  | true =>
    have hO := (okMill_iff h xs).1 HOK.out
    obtain ⟨H, rfl⟩ : ∃ H : Nat, h = H := ⟨h.toNat, by have := hO.h0; omega⟩
    have hH : H ≤ 24 := by have := hO.h24; omega
    have hn12 : n ≤ 12 := by have := hO.n12; have := hlen.out; omega
    have HX := Lib.hid hO.hrs
    have d0 := (hg2.cell (p := ⟨w.heap.size, 0, none⟩) hwl).trans c0
    have d1 := (hg2.cell (p := ⟨w.heap.size, 1, none⟩) hwl).trans c1
    have hwl2 : w.heap.size < W2.heap.size := by have := hg2.size; omega
    clear hO c0 c1 g1 hg2
    rw [show err true 52 = 0 from rfl]
    go_wp2_with fail
    refine (turns_any A n cc H xs W2 (HA.out.below HG.out) HX.out hH hn12).mono ?_
    rintro e W3 ⟨⟨b, rfl, hbl, hb⟩, hg3⟩
    have hdl : (turnsS xs H).length = n := (turnsT_len _ _ _).trans hlen.out
    have hdb := turnsT_bd xs H 24
    have hI := hb.intsN hdl
    have HL2 := Lib.hid (show ls = idleK xs H (turnsS xs H) H from HL.out)
    obtain ⟨due, hdue⟩ : ∃ due, turnsS xs H = due := ⟨_, rfl⟩
    have hdb' : ∀ x ∈ due, x ≤ 9223372036854775807 := by rw [← hdue]; intro x hx; have := hdb x hx; omega
    rw [hdue] at hI HL2 hdl
    have HI := Lib.hid hI
    have HDL := Lib.hid hdl
    have HDB := Lib.hid hdb'
    have HG3 := Lib.hid hg3
    have D0 := Lib.hid ((hg3.cell (p := ⟨w.heap.size, 0, none⟩) hwl2).trans d0)
    have D1 := Lib.hid ((hg3.cell (p := ⟨w.heap.size, 1, none⟩) hwl2).trans d1)
    have hb3 := hb.lt
    have e0 := D0.out
    have hwl3 : w.heap.size < W3.heap.size := by have := hg3.size; omega
    have HGG := Lib.hid (HG.out.trans (HG3.out.mono HG.out.size))
    clear hI hb hg3 hdl hdb hdb' hdue d0 d1
    go_wp2_with fail
    go_loopw [6, 19] (fun v i wr => ∃ k : Nat, i = .int .i64 k ∧ k ≤ H ∧ Below W3.heap.size W3 wr ∧ Own wr W3.heap.size v (idleK xs H due k)) (fun _ i _ => H - (intOf i).toNat)
    case atStart => exact ⟨0, rfl, by omega, Below.refl _ _, Own.nil _ _⟩
    case round =>
      obtain ⟨k, rfl, hk, hg, hown⟩ := hrel
      have HGr := Lib.hid hg
      have HO := Lib.hid hown
      have d0 : wr.cell? ⟨w.heap.size, 0, none⟩ = some (.int .i64 H) := (hg.cell (p := ⟨w.heap.size, 0, none⟩) hwl3).trans D0.out
      have d1 : wr.cell? ⟨w.heap.size, 1, none⟩ = some (.slice A n cc) := (hg.cell (p := ⟨w.heap.size, 1, none⟩) hwl3).trans D1.out
      have hsz := hg.size
      by_cases hkH : k < H
      · clear hg hown
        go_wp2_with fail
        refine (open_any A n cc H xs (k : Int) wr ((HA.out.below HGG.out).below HGr.out) hH (by omega) (by omega)).mono ?_
        rintro e W5 ⟨bp, bw, left, rfl, hmp, hbw, hl, hlb, hge, hg5⟩
        have HD5 := Lib.hid ((HI.out.below HGr.out).below hg5)
        have hDn : ∀ b' o', (some ⟨b, 0, none⟩ : Option Addr) = some ⟨b', o', none⟩ → 0 < n → b' ≠ bw := fun b' o' e _ => by cases e; omega
        have HDn := Lib.hid hDn
        have HMP := Lib.hid hmp
        have HBW := Lib.hid hbw
        have HLB := Lib.hid hlb
        have HG5 := Lib.hid hg5
        have HGE := Lib.hid hge
        clear hmp hbw hlb hg5 hDn hge
        go_wp2_with fail
        refine (serve_any bp bw n cc H left n A (some ⟨b, 0, none⟩) xs due W5 HMP.out HX.out hH hl hn12 HBW.out HD5.out HDn.out HDB.out).mono ?_
        rintro e W6 hsp
        obtain ⟨hf, v, rfl⟩ := hsp.ok HMP.out.arr.1 HD5.out.1 HLB.out
        have hg6 : Below wr.heap.size wr W6 := hf.calm HG5.out HGE.out
        have HG6 := Lib.hid hg6
        have HO6 := Lib.hid (HO.out.ext hg6)
        have hsz6 : W3.heap.size ≤ W6.heap.size := by have := hg6.size; omega
        obtain ⟨bf, hbf⟩ : ∃ bf, fea xs H (k : Int) due = bf := ⟨_, rfl⟩
        have HNX := Lib.hid (show idleK xs H due (k + 1) = idleK xs H due k ++ if bf = true then [(k : Int)] else [] by rw [← hbf]; rfl)
        rw [hbf]
        have HL100 : (idleK xs H due k).length < 100000 := by have := idleK_len xs H due k; omega
        clear hf hsp hg6 hbf
        cases bf with
        | true =>
          go_wp2_with (first | (at_builtin; refine push_int rfl _ _ rfl W3.heap.size _ (idleK xs H due k) rfl (HO6.out.ext ((Below.refl _ _).alloc (Nat.le_refl _) _)) _ _ _ _ rfl rfl (cell_new1 _ _ _ _ rfl) HL100 (by simp; omega) ?_; intro v' w' ho hbw))
          go_roundw
          case rel =>
            refine ⟨k + 1, by go_num, by omega, ((HGr.out.trans (HG6.out.mono HGr.out.size)).alloc hsz6 _).trans (hbw _ (Nat.le_refl _)), ?_⟩
            rw [HNX.out, if_pos trivial]; exact ho
          case measure => simp [intOf]; omega
        | false =>
          go_wp2_with fail
          go_roundw
          case rel => exact ⟨k + 1, by go_num, by omega, HGr.out.trans (HG6.out.mono HGr.out.size), by rw [HNX.out]; simpa using HO6.out⟩
          case measure => simp [intOf]; omega
      · obtain rfl : k = H := by omega
        obtain ⟨D, c, rfl, hi⟩ := hown.ints
        have HI2 := Lib.hid hi
        clear hg hown hi
        go_wp2_with fail
        go_ret2
        rw [HL2.out]
        exact ⟨⟨D, c, rfl, HI2.out⟩, HGG.out.trans (HGr.out.mono HGG.out.size)⟩
end Go.Proofs.Ytdhhneflhmkonaa
