/- The mill: 'turns'. -/
import Derived.Test.YtdhhneflhmkonaaP3
import Derived.Test.YtdhhneflhmkonaaT2
import Derived.Deep.OwnRows
namespace Go.Proofs.Ytdhhneflhmkonaa
open Go.RowKit Go.Shelf

theorem Blk.ints {w : World} {g : Nat} {l : List Int} (h : Blk w g 3 (vals l)) : Ints w (some ⟨g, 0, none⟩) l.length l :=
  ⟨rfl, fun _ => ⟨g, 0, rfl, h.lt, fun k x hx j u hu => by
    have hj : j = 0 := by
      rcases Nat.lt_or_ge j 1 with h | h
      · omega
      · rw [List.getElem?_eq_none (by simp [icells]; omega)] at hu; cases hu
    subst hj
    have hu' : u = .int .i64 x := by simp [icells] at hu; exact hu.symm
    subst hu'
    rw [show 0 + k * 1 + 0 = k by omega, h.cell k, vals_get, hx]; rfl⟩⟩
theorem Blk.intsN {w : World} {g n : Nat} {l : List Int} (h : Blk w g 3 (vals l)) (hn : l.length = n) : Ints w (some ⟨g, 0, none⟩) n l := hn ▸ h.ints

set_option maxRecDepth 100000 in
set_option maxHeartbeats 2000000 in
theorem turns_any (A : Option Addr) (n cc H : Nat) (xs : List Comer) (w : World) (ha : Arr ccells 3 w A n xs) (hX : Hrs xs) (hH : H ≤ 24) (hn : n ≤ 12) :
    Calls Try.prog 65 #[mv A n cc H] w fun e w' => (∃ b, e = .returned (.slice (some ⟨b, 0, none⟩) n n) ∧ w.heap.size ≤ b ∧ Blk w' b 3 (vals (turnsS xs H))) ∧ Below w.heap.size w w' := by
  have hlen := Lib.hid ha.1
  have HA := Lib.hid ha
  have HX := Lib.hid hX
  clear ha hX
  have hmk := fun w => run_make_row' (P := Try.prog) 28 3 (.int .i64 0) 8 (by kernel_rfl) (by kernel_rfl) (by simp [Value.cells]) .i64 .i64 n (by omega) (by omega) w
  unfold mv
  go_enter Try.func65, Try.ntmps65
  go_wp2_with fail
  rw [made_vals]
  generalize hW1 : w.alloc (.cells #[.int .i64 H, .slice A n cc] 24) = W1
  obtain ⟨g1, c0, c1⟩ := box2 hW1
  have s1 := boxSize hW1
  clear hW1
  rw [← s1]
  generalize hW2 : (W1.alloc (.cells (vals (List.replicate n 0)) 3)) = W2
  have hb2 : Blk W2 W1.heap.size 3 (vals (List.replicate n 0)) := by rw [← hW2]; exact Blk.new _ _ _
  have g2 : Below W1.heap.size W1 W2 := by rw [← hW2]; exact (Below.refl _ _).alloc (Nat.le_refl _) _
  have HB2 := Lib.hid hb2
  have HG2 := Lib.hid g2
  have HG1 := Lib.hid g1
  have hlt := hb2.lt
  have hwlt : w.heap.size < W1.heap.size := by omega
  have HA1 := Lib.hid (HA.out.below g1)
  have C0 := Lib.hid c0
  have C1 := Lib.hid c1
  clear hW2 hb2 g2 g1 c0 c1 s1 hmk
  obtain ⟨bo, hbo⟩ : ∃ bo, W1.heap.size = bo := ⟨_, rfl⟩
  rw [hbo] at hlt hwlt HB2 ⊢
  have HBO := Lib.hid hbo
  clear hbo
  go_loopw [4] (fun v wr => ∃ r : Nat, v = .int .i64 ((r : Int) + 1) ∧ r ≤ 24 ∧ Below W1.heap.size W1 wr ∧ Blk wr bo 3 (vals (turnsT xs H r))) (fun v _ => 25 - (intOf v).toNat)
  case atStart => exact ⟨0, rfl, by omega, HG2.out, by rw [turnsT, hlen.out]; exact HB2.out⟩
  case round =>
    obtain ⟨r, rfl, hr, hg, hb⟩ := hrel
    have HG := Lib.hid hg
    have HB := Lib.hid hb
    by_cases hr24 : r < 24
    · have d0 : wr.cell? ⟨w.heap.size, 0, none⟩ = some (.int .i64 H) := (hg.cell (p := ⟨w.heap.size, 0, none⟩) (by have := HBO.out; dsimp only; omega)).trans C0.out
      have d1 : wr.cell? ⟨w.heap.size, 1, none⟩ = some (.slice A n cc) := (hg.cell (p := ⟨w.heap.size, 1, none⟩) (by have := HBO.out; dsimp only; omega)).trans C1.out
      have hle : decide ((r : Int) + 1 ≤ 24) = true := by simp; omega
      clear hg hb
      go_wp2_with fail
      go_loopw [18] (fun v wi => ∃ k : Nat, v = .int .i64 k ∧ k ≤ n ∧ Below W1.heap.size W1 wi ∧ Blk wi bo 3 (vals (rowT xs H ((r : Int) + 1) k (turnsT xs H r)))) (fun v _ => n - (intOf v).toNat)
      case atStart => exact ⟨0, rfl, by omega, HG.out, HB.out⟩
      case round =>
        obtain ⟨k, rfl, hk, hg, hb⟩ := hrel
        rename World => wi
        have HGi := Lib.hid hg
        have HBi := Lib.hid hb
        by_cases hkn : k < n
        · obtain ⟨b, o, x, hAe, hbl, hx, hc⟩ := comer_at (HA1.out.below hg) hkn
          obtain ⟨q0, q1, q2⟩ := hc wi (Below.refl _ _)
          obtain ⟨out, hout⟩ : ∃ out, rowT xs H ((r : Int) + 1) k (turnsT xs H r) = out := ⟨_, rfl⟩
          have hol : out.length = n := by rw [← hout, rowT_len, turnsT_len, hlen.out]
          have hobd : ∀ y ∈ out, 0 ≤ y ∧ y ≤ (r : Int) + 1 := by
            rw [← hout]; exact rowT_bd (by omega) _ _ (fun y hy => by have := turnsT_bd xs H r y hy; omega)
          have hnext : rowT xs H ((r : Int) + 1) (k + 1) (turnsT xs H r) = stepI xs H ((r : Int) + 1) out k := by rw [← hout]; rfl
          have hstep : stepI xs H ((r : Int) + 1) out k = if x.wants < (r : Int) + 1 ∨ out.getD k 0 ≠ (r : Int) + 1 - 1 then out
              else if fea xs H (-1) (out.set k (out.getD k 0 + 1)) = true then out.set k (out.getD k 0 + 1) else out := by
            unfold stepI; rw [List.getD_eq_getElem?_getD, hx]; rfl
          obtain ⟨e, he⟩ : ∃ e, out.getD k 0 = e := ⟨_, rfl⟩
          have hek : out[k]? = some e := by rw [← he, List.getD_eq_getElem?_getD, List.getElem?_eq_getElem (by omega)]; rfl
          have hebd := hobd e (List.mem_of_getElem? hek)
          rw [he] at hstep
          rw [hout] at hb HBi
          have HNX := Lib.hid hnext
          have HST := Lib.hid hstep
          have HOL := Lib.hid hol
          have HOB := Lib.hid hobd
          have HEK := Lib.hid hek
          have HHE := Lib.hid he
          subst hAe
          have hba : Blk (wi.alloc (.cells #[.int .i64 x.family, .int .i64 x.hours, .int .i64 x.wants] 53)) bo 3 (vals out) := hb.alloc _
          have e0 : (wi.alloc (.cells #[.int .i64 x.family, .int .i64 x.hours, .int .i64 x.wants] 53)).cell? ⟨bo, k, none⟩ = some (.int .i64 e) := by rw [hba.cell k, vals_get, hek]; rfl
          have e1 := hba.frozen k
          have HBA := Lib.hid hba
          have hga : Below W1.heap.size W1 (wi.alloc (.cells #[.int .i64 x.family, .int .i64 x.hours, .int .i64 x.wants] 53)) := hg.alloc hg.size _
          have HGA := Lib.hid hga
          clear hc hnext hstep hol hobd hek he hout hx hb hba hg hga
          by_cases hw : x.wants < (r : Int) + 1
          · have HN := Lib.hid (show stepI xs H ((r : Int) + 1) out k = out by rw [HST.out, if_pos (.inl hw)])
            go_wp2_with fail
            go_roundw
            case rel => exact ⟨k + 1, by go_num, by omega, HGA.out, by rw [HNX.out, HN.out]; exact HBA.out⟩
            case measure => simp [intOf]; omega
          · by_cases her : e = (r : Int)
            · subst her
              have HN := Lib.hid (show stepI xs H ((r : Int) + 1) out k = if fea xs H (-1) (out.set k ((r : Int) + 1)) = true then out.set k ((r : Int) + 1) else out by
                rw [HST.out, if_neg (by omega)])
              obtain ⟨d, hd⟩ : ∃ d, out.set k ((r : Int) + 1) = d := ⟨_, rfl⟩
              have hdl : d.length = n := by rw [← hd, List.length_set]; exact HOL.out
              have hdb : ∀ y ∈ d, 0 ≤ y ∧ y ≤ 24 := by
                rw [← hd]; intro y hy
                rcases List.mem_or_eq_of_mem_set hy with h1 | h1
                · have := HOB.out y h1; omega
                · omega
              have hback : d.set k (r : Int) = out := by
                rw [← hd, List.set_set]
                apply List.ext_getElem?
                intro j
                rw [List.getElem?_set]
                have hol := HOL.out
                by_cases hj : k = j
                · subst hj; rw [if_pos rfl, if_pos (by omega)]; exact HEK.out.symm
                · rw [if_neg hj]
              have hdk : d[k]? = some ((r : Int) + 1) := by rw [← hd, List.getElem?_set]; have := HOL.out; simp; omega
              rw [hd] at HN
              have HD := Lib.hid hd
              have HDL := Lib.hid hdl
              have HDB := Lib.hid hdb
              have HBK := Lib.hid hback
              have HDK := Lib.hid hdk
              clear hd hdl hdb hback hdk
              go_wp2_with fail
              have hb5 : Blk ((wi.alloc (.cells #[.int .i64 x.family, .int .i64 x.hours, .int .i64 x.wants] 53)).setCell ⟨bo, k, none⟩ (.int .i64 ((r : Int) + 1))) bo 3 (vals d) := by
                have := HBA.out.set_ k (.int .i64 ((r : Int) + 1)); rw [vals_set, HD.out] at this; exact this
              have hg5 : Below W1.heap.size W1 ((wi.alloc (.cells #[.int .i64 x.family, .int .i64 x.hours, .int .i64 x.wants] 53)).setCell ⟨bo, k, none⟩ (.int .i64 ((r : Int) + 1))) :=
                HGA.out.setCell (p := ⟨bo, k, none⟩) (by have := HBO.out; dsimp only; omega) _
              generalize (wi.alloc (.cells #[.int .i64 x.family, .int .i64 x.hours, .int .i64 x.wants] 53)).setCell ⟨bo, k, none⟩ (.int .i64 ((r : Int) + 1)) = W5 at hb5 hg5 ⊢
              have d0' : W5.cell? ⟨w.heap.size, 0, none⟩ = some (.int .i64 H) := (hg5.cell (p := ⟨w.heap.size, 0, none⟩) (by have := HBO.out; dsimp only; omega)).trans C0.out
              have d1' : W5.cell? ⟨w.heap.size, 1, none⟩ = some (.slice (some ⟨b, o, none⟩) n cc) := (hg5.cell (p := ⟨w.heap.size, 1, none⟩) (by have := HBO.out; dsimp only; omega)).trans C1.out
              have F : ∀ x : Wd W5, x.val.cell? ⟨w.heap.size, 0, none⟩ = some (.int .i64 H) ∧ x.val.cell? ⟨w.heap.size, 1, none⟩ = some (.slice (some ⟨b, o, none⟩) n cc) := fun x => ⟨cellW d0' x, cellW d1' x⟩
              have HB5 := Lib.hid hb5
              have HG5 := Lib.hid hg5
              have hsum := fun x : Wd W5 => callsCalmSame (sum_any (some ⟨bo, 0, none⟩) n n d x.val ((HB5.out.intsN HDL.out).below x.ok) (by omega) (fun y hy => by have := HDB.out y hy; omega))
              have hsrv := fun x : Wd W5 => callsCalm (serves_any (some ⟨b, o, none⟩) (some ⟨bo, 0, none⟩) n cc n H xs d x.val ((HA1.out.below HG5.out).below x.ok) HX.out hH hn ((HB5.out.intsN HDL.out).below x.ok) (fun y hy => by have := HDB.out y hy; omega))
              have HSUM := Lib.hid hsum
              have HSRV := Lib.hid hsrv
              have hdk5 : W5.cell? ⟨bo, k, none⟩ = some (.int .i64 ((r : Int) + 1)) := by rw [hb5.cell k, vals_get, HDK.out]; rfl
              have HC5 := Lib.hid hdk5
              have hfz5 := hb5.frozen k
              have HF5 := Lib.hid hfz5
              have hfs := fea_sum (xs := xs) (H := H) (b := -1) (d := d) (by rw [HDL.out, hlen.out])
              have HFS := Lib.hid hfs
              clear d0' d1' hb5 hg5 hsum hsrv hdk5 hfz5 hfs e0 e1 q0 q1 q2
              obtain ⟨S, hS⟩ : ∃ S, d.sum = S := ⟨_, rfl⟩
              obtain ⟨bf, hbf⟩ : ∃ bf, fea xs H (-1) d = bf := ⟨_, rfl⟩
              rw [hS] at HSUM HFS
              rw [hbf] at HSRV HFS HN
              by_cases hSH : (H : Int) < S
              · have hbf0 : bf = false := by
                  cases hq : bf with
                  | false => rfl
                  | true => have := HFS.out hq; omega
                have HN0 := Lib.hid (show stepI xs H ((r : Int) + 1) out k = out by rw [HN.out, hbf0]; rfl)
                clear hbf hbf0 hS
                have hSH' : decide ((H : Int) < S) = true := by simpa using hSH
                refine wp_region_calm W5 (by kernel_rfl) (by kernel_rfl) (Below.refl _ _) ?_
                repeat (go_big_quiet_step (first | (go_at_call 99; exact HSUM.out _)))
                refine wpQuiet_nil ?_
                rintro _ ⟨z, rfl⟩
                have c5 : z.val.cell? ⟨bo, k, none⟩ = some (.int .i64 ((r : Int) + 1)) := cellW HC5.out z
                have f5 : z.val.frozen? ⟨bo, k, none⟩ = false := frozenW HC5.out HF5.out z
                go_wp2_with fail
                go_roundw
                case rel =>
                  refine ⟨k + 1, by go_num, by omega, (HG5.out.trans (z.ok.mono HG5.out.size)).setCell (p := ⟨bo, k, none⟩) (by have := HBO.out; dsimp only; omega) _, ?_⟩
                  have := (HB5.out.ext z.ok).set_ k (.int .i64 (r : Int))
                  rw [vals_set, HBK.out] at this
                  rw [HNX.out, HN0.out]; exact this
                case measure => simp [intOf]; omega
              · have hSH' : decide ((H : Int) < S) = false := by simpa using hSH
                clear hbf hS
                cases bf with
                | true =>
                  refine wp_region_calm W5 (by kernel_rfl) (by kernel_rfl) (Below.refl _ _) ?_
                  repeat (go_big_quiet_step (first | (go_at_call 99; exact HSUM.out _) | (go_at_call 70; exact HSRV.out _)))
                  refine wpQuiet_nil ?_
                  rintro _ ⟨z, rfl⟩
                  go_wp2_with fail
                  go_roundw
                  case rel =>
                    refine ⟨k + 1, by go_num, by omega, HG5.out.trans (z.ok.mono HG5.out.size), ?_⟩
                    rw [HNX.out, HN.out, if_pos rfl]; exact HB5.out.ext z.ok
                  case measure => simp [intOf]; omega
                | false =>
                  refine wp_region_calm W5 (by kernel_rfl) (by kernel_rfl) (Below.refl _ _) ?_
                  repeat (go_big_quiet_step (first | (go_at_call 99; exact HSUM.out _) | (go_at_call 70; exact HSRV.out _)))
                  refine wpQuiet_nil ?_
                  rintro _ ⟨z, rfl⟩
                  have c5 : z.val.cell? ⟨bo, k, none⟩ = some (.int .i64 ((r : Int) + 1)) := cellW HC5.out z
                  have f5 : z.val.frozen? ⟨bo, k, none⟩ = false := frozenW HC5.out HF5.out z
                  go_wp2_with fail
                  go_roundw
                  case rel =>
                    refine ⟨k + 1, by go_num, by omega, (HG5.out.trans (z.ok.mono HG5.out.size)).setCell (p := ⟨bo, k, none⟩) (by have := HBO.out; dsimp only; omega) _, ?_⟩
                    have := (HB5.out.ext z.ok).set_ k (.int .i64 (r : Int))
                    rw [vals_set, HBK.out] at this
                    rw [HNX.out, HN.out]; exact this
                  case measure => simp [intOf]; omega
            · have HN := Lib.hid (show stepI xs H ((r : Int) + 1) out k = out by rw [HST.out, if_pos (.inr (by omega))])
              have hne : (e != (r : Int)) = true := by simpa using her
              go_wp2_with fail
              go_roundw
              case rel => exact ⟨k + 1, by go_num, by omega, HGA.out, by rw [HNX.out, HN.out]; exact HBA.out⟩
              case measure => simp [intOf]; omega
        · obtain rfl : k = n := by omega
          clear hg hb
          go_wp2_with fail
          go_roundw
          case rel => exact ⟨r + 1, by go_num, by omega, HGi.out, by rw [turnsT, hlen.out]; exact HBi.out⟩
          case measure => simp [intOf]; omega
    · obtain rfl : r = 24 := by omega
      clear hg hb
      go_wp2_with fail
      go_ret
      exact ⟨⟨bo, rfl, by omega, HB.out⟩, HG1.out.trans (HG.out.mono HG1.out.size)⟩
end Go.Proofs.Ytdhhneflhmkonaa
