/- Attain. -/
import Derived.Test.YtkoejeghihcmlaaGreatWQ
namespace Go.Proofs.YtkoejeghihcmlaaGreat
open Go.RowKit Go.Shelf

def attS (p : Pl) (hour known : Int) (high : Bool) : List Int :=
  pickS (lookL p known every) (lookS p known every) (after (lookL p known every) hour) (if high = true then Hi (lookS p known every) (after (lookL p known every) hour) else Lo (lookS p known every) (after (lookL p known every) hour))
/-- What Attain returns. -/
def AttEnd (p : Pl) (hour known : Int) (high : Bool) (w : World) (e : Ending) (w' : World) : Prop :=
  (∃ sv v, e = .returned (.tuple #[.agg #[.int .i64 sv, v], .int .i64 (askE p [hour] known)]) ∧ (askE p [hour] known = 0 → sv = (attS p hour known high).getD 0 0 ∧ OwnL icells 1 3 w' w.heap.size v (pickC p known (attS p hour known high))) ∧
    (askE p [hour] known ≠ 0 → sv = 0 ∧ v = .slice none 0 0)) ∧ Below w.heap.size w w'
set_option maxRecDepth 100000 in
set_option maxHeartbeats 8000000 in
theorem attain_any (p : Pl) (A1 A2 A3 : Option Addr) (n1 c1 n2 c2 n3 c3 : Nat) (hour known : Int) (high : Bool) (w : World) (hp : Pa w p A1 A2 A3 n1 c1 n2 c2 n3 c3) (h19 : p.loads.length ≤ 19) :
    Calls Tryz.prog 22 #[plv p A1 A2 A3 n1 c1 n2 c2 n3 c3, .int .i64 hour, .int .i64 known, .bool high] w (AttEnd p hour known high w) := by
  obtain ⟨W2, hW2⟩ : ∃ W2, (w.alloc (.cells (plb p A1 A2 A3 n1 c1 n2 c2 n3 c3) 38)).alloc (.cells #[.int .i64 0, .slice none 0 0] 41) = W2 := ⟨_, rfl⟩
  have g2 : Below w.heap.size w W2 := by rw [← hW2]; exact two_more _ _ _
  have b1 : Blk W2 w.heap.size 38 (plb p A1 A2 A3 n1 c1 n2 c2 n3 c3) := by rw [← hW2]; exact (Blk.new _ _ _).alloc _
  have b2 : Blk W2 (w.heap.size + 1) 41 #[.int .i64 0, .slice none 0 0] := by
    rw [← hW2]
    have := Blk.new (w.alloc (.cells (plb p A1 A2 A3 n1 c1 n2 c2 n3 c3) 38)) 41 #[.int .i64 0, .slice none 0 0]
    rwa [World.size_alloc] at this
  have T := Lib.hid (asked_any p A1 A2 A3 n1 c1 n2 c2 n3 c3 w.heap.size hour known W2 b1 (hp.below g2) h19)
  have HL19 := Lib.hid (lookL_len h19 known every)
  have G2 := Lib.hid g2
  have B1 := Lib.hid b1
  have B2 := Lib.hid b2
  have HPA := Lib.hid (hp.below g2)
  have hz2 := g2.size
  have hb2l := b2.lt
  obtain ⟨ae, hae⟩ : ∃ ae, askE p [hour] known = ae := ⟨_, rfl⟩
  have HAP := Lib.hid (show ae = 0 → okPl p = true ∧ sound (lookS p known every) = true from fun e => ⟨(ask_parts (hae.trans e)).1, (ask_parts (hae.trans e)).2.1⟩)
  rw [hae] at T
  have HAE := Lib.hid hae
  have HW2 := Lib.hid hW2
  clear hp g2 b1 b2 hae h19 hW2
  by_cases he : ae = 0
  · subst he
    obtain ⟨hok, hs⟩ := HAP.out rfl
    have HOK := Lib.hid hok
    have HS := Lib.hid hs
    have hrw := look_rw hok hs
    obtain ⟨av, hav2⟩ : ∃ av, after (lookL p known every) hour = av := ⟨_, rfl⟩
    have hav := after_le (lookL p known every) hour
    rw [hav2] at hav
    have HSND := Lib.hid (hrw.snd av hav)
    have HATT := Lib.hid (show attS p hour known high = pickS (lookL p known every) (lookS p known every) av (if high = true then Hi (lookS p known every) av else Lo (lookS p known every) av) by unfold attS; rw [hav2])
    have HAV := Lib.hid hav2
    clear hok hs hrw hav2
    go_enter Tryz.func22, Tryz.ntmps22
    go_upto_region 1 with fail
    rw [HW2.out]
    go_upto_region 4 with (go_at_call 74; (with_reducible refine (T.out).mono ?_); rintro e W3 ⟨r, rfl, hg, hl⟩; obtain ⟨bf, bs, A, n, c, rfl, hl2⟩ := hl (by trivial); have G3 := Lib.hid hg; have HL := Lib.hid hl2; clear hg hl hl2)
    have hnn := HL.out.num
    have hn19 : n ≤ 19 := by rw [hnn]; exact HL19.out
    have havn : av ≤ n := by rw [hnn]; exact hav
    have T79 := after_any bf A n c (lookL p known every) hour W3 (HL.out.fd.f.lt) (HL.out.fd.f.cell 2) HL.out.ar (by omega)
    rw [HAV.out] at T79
    have HT79 := Lib.hid T79
    clear T79 hnn hav
    go_upto_region 5 with (go_at_call 79; (with_reducible refine (HT79.out).mono ?_); rintro e W4 ⟨rfl, hg⟩; have G4 := Lib.hid hg; clear hg)
    have HLf := Lib.hid (HL.out.fd.ext G4.out)
    have G34 := Lib.hid (G3.out.trans (G4.out.mono G3.out.size))
    have f3 := HLf.out.f.cell 3
    obtain ⟨s0, s1⟩ := HLf.out.cells (show av < n + 1 by omega)
    have hsd := HSND.out
    have TP := fun v h1 h2 => pick_any p A1 A2 A3 n1 c1 n2 c2 n3 c3 w.heap.size bf bs known A n c av v W4 (B1.out.ext G34.out) (HPA.out.below G34.out) HOK.out (by omega) HS.out HLf.out (HL.out.ar.below G4.out) havn h1 h2
    obtain ⟨lo, hlo⟩ : ∃ v, Lo (lookS p known every) av = v := ⟨_, rfl⟩
    obtain ⟨hi, hhi⟩ : ∃ v, Hi (lookS p known every) av = v := ⟨_, rfl⟩
    rw [hlo, hhi] at TP HATT hsd
    rw [hlo] at s0
    rw [hhi] at s1
    have HTP := Lib.hid TP
    have HB2 := Lib.hid (B2.out.ext G34.out)
    have hgs := G34.out.size
    have m0 := HB2.out.cell 0
    have m1 := HB2.out.cell 1
    have m2 := HB2.out.frozen 0
    have m3 := HB2.out.frozen 1
    obtain ⟨m, hm⟩ : ∃ m, n + 1 = m := ⟨_, rfl⟩
    rw [hm] at f3
    have havm : (av : Int) < (m : Int) := by omega
    have HSD := Lib.hid hsd
    clear TP hm hlo hhi hsd
    cases high with
    | false =>
      have HATT2 := Lib.hid (show attS p hour known false = pickS (lookL p known every) (lookS p known every) av lo from HATT.out)
      have HT84 := Lib.hid (HTP.out lo (Int.le_refl _) HSD.out)
      go_wp2_with (go_at_call 84; (with_reducible refine (HT84.out).mono ?_); rintro e W5 ⟨⟨v, rfl, ho⟩, hg⟩; obtain ⟨D, c', hv, -, -, -, -⟩ := OwnL.arr kdI ho; obtain ⟨nv, hnv⟩ : ∃ q, (pickC p known (pickS (lookL p known every) (lookS p known every) av lo)).length = q := ⟨_, rfl⟩; rw [hnv] at hv; subst hv; have G5 := Lib.hid hg; have HO := Lib.hid ho; have KB := Lib.hid (HB2.out.ext hg); obtain ⟨sw, hsw⟩ : ∃ q, (pickS (lookL p known every) (lookS p known every) av lo).getD 0 0 = q := ⟨_, rfl⟩; rw [hsw]; have HSW := Lib.hid hsw; have y0 := KB.out.cell 0; have y1 := KB.out.cell 1; have y2 := KB.out.frozen 0; have y3 := KB.out.frozen 1; clear hg ho hnv hsw m0 m1 m2 m3 f3 s0 s1)
      have k6 := (KB.out.set_ 0 (.int .i64 sw)).set_ 1 (.slice D nv c')
      have t0 := k6.cell 0
      have t1 := k6.cell 1
      have hg5 := G5.out.size
      refine bodyPost_ret (v := .tuple #[.agg #[.int .i64 sw, .slice D nv c'], .int .i64 0]) ?_ rfl ⟨⟨_, _, by rw [HAE.out], fun _ => ⟨by rw [HATT2.out, HSW.out], ?_⟩, fun h => absurd HAE.out h⟩, ?_⟩
      · simp [results, Tryz.results22, go_sem, t0, t1]
      · rw [HATT2.out]
        exact ((HO.out.far (p := ⟨w.heap.size + 1, 0, none⟩) (by show w.heap.size + 1 < W4.heap.size; omega) _).far (p := ⟨w.heap.size + 1, 1, none⟩) (by show w.heap.size + 1 < W4.heap.size; omega) _).mono (by omega)
      · exact ((G2.out.trans ((G34.out.trans (G5.out.mono hgs)).mono hz2)).setCell (p := ⟨w.heap.size + 1, 0, none⟩) (by show w.heap.size ≤ w.heap.size + 1; omega) _).setCell (p := ⟨w.heap.size + 1, 1, none⟩) (by show w.heap.size ≤ w.heap.size + 1; omega) _
    | true =>
      have HATT2 := Lib.hid (show attS p hour known true = pickS (lookL p known every) (lookS p known every) av hi from HATT.out)
      have HT84 := Lib.hid (HTP.out hi HSD.out (Int.le_refl _))
      go_wp2_with (go_at_call 84; (with_reducible refine (HT84.out).mono ?_); rintro e W5 ⟨⟨v, rfl, ho⟩, hg⟩; obtain ⟨D, c', hv, -, -, -, -⟩ := OwnL.arr kdI ho; obtain ⟨nv, hnv⟩ : ∃ q, (pickC p known (pickS (lookL p known every) (lookS p known every) av hi)).length = q := ⟨_, rfl⟩; rw [hnv] at hv; subst hv; have G5 := Lib.hid hg; have HO := Lib.hid ho; have KB := Lib.hid (HB2.out.ext hg); obtain ⟨sw, hsw⟩ : ∃ q, (pickS (lookL p known every) (lookS p known every) av hi).getD 0 0 = q := ⟨_, rfl⟩; rw [hsw]; have HSW := Lib.hid hsw; have y0 := KB.out.cell 0; have y1 := KB.out.cell 1; have y2 := KB.out.frozen 0; have y3 := KB.out.frozen 1; clear hg ho hnv hsw m0 m1 m2 m3 f3 s0 s1)
      have k6 := (KB.out.set_ 0 (.int .i64 sw)).set_ 1 (.slice D nv c')
      have t0 := k6.cell 0
      have t1 := k6.cell 1
      have hg5 := G5.out.size
      refine bodyPost_ret (v := .tuple #[.agg #[.int .i64 sw, .slice D nv c'], .int .i64 0]) ?_ rfl ⟨⟨_, _, by rw [HAE.out], fun _ => ⟨by rw [HATT2.out, HSW.out], ?_⟩, fun h => absurd HAE.out h⟩, ?_⟩
      · simp [results, Tryz.results22, go_sem, t0, t1]
      · rw [HATT2.out]
        exact ((HO.out.far (p := ⟨w.heap.size + 1, 0, none⟩) (by show w.heap.size + 1 < W4.heap.size; omega) _).far (p := ⟨w.heap.size + 1, 1, none⟩) (by show w.heap.size + 1 < W4.heap.size; omega) _).mono (by omega)
      · exact ((G2.out.trans ((G34.out.trans (G5.out.mono hgs)).mono hz2)).setCell (p := ⟨w.heap.size + 1, 0, none⟩) (by show w.heap.size ≤ w.heap.size + 1; omega) _).setCell (p := ⟨w.heap.size + 1, 1, none⟩) (by show w.heap.size ≤ w.heap.size + 1; omega) _
  · have hne : (ae != 0) = true := by simpa using he
    go_enter Tryz.func22, Tryz.ntmps22
    go_upto_region 1 with fail
    rw [HW2.out]
    go_wp2_with (go_at_call 74; (with_reducible refine (T.out).mono ?_); rintro e W3 ⟨r, rfl, hg, -⟩; have G3 := Lib.hid hg; have KB := Lib.hid (B2.out.ext hg); have m0 := KB.out.cell 0; have m1 := KB.out.cell 1; have m2 := KB.out.frozen 0; have m3 := KB.out.frozen 1; clear hg)
    have k6 := (KB.out.set_ 0 (.int .i64 0)).set_ 1 (.slice none 0 0)
    have t0 := k6.cell 0
    have t1 := k6.cell 1
    refine bodyPost_ret (v := .tuple #[.agg #[.int .i64 0, .slice none 0 0], .int .i64 ae]) ?_ rfl ⟨⟨_, _, by rw [HAE.out], fun h => absurd (HAE.out.symm.trans h) he, fun _ => ⟨rfl, rfl⟩⟩, ?_⟩
    · simp [results, Tryz.results22, go_sem, t0, t1]
    · exact ((G2.out.trans (G3.out.mono hz2)).setCell (p := ⟨w.heap.size + 1, 0, none⟩) (by show w.heap.size ≤ w.heap.size + 1; omega) _).setCell (p := ⟨w.heap.size + 1, 1, none⟩) (by show w.heap.size ≤ w.heap.size + 1; omega) _
end Go.Proofs.YtkoejeghihcmlaaGreat
