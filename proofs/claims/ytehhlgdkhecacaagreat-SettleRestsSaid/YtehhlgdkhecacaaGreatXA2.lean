/- Part of the proof: BD, BE, BF, BG, BH, BI, BJ, BK, BL, BN, BO, BP, BQ, CA. -/
import Derived.OrdersIn
import Derived.Laws.OwnMore
import Derived.Test.YtehhlgdkhecacaaGreatXA1
namespace Go.Proofs.YtehhlgdkhecacaaGreat
open Go.RowKit Go.Shelf Go.Sort
theorem lastT_snoc (l : List Tt) (t : Tt) (day : Int) : lastT (l ++ [t]) day = if t.day ≤ day then t.par else lastT l day := by
 unfold lastT
 rw [List.foldl_append]
 rfl
theorem Li.Ok.days {x : Li} (hx : x.Ok) : Days x.qs := fun i hi => by
 have h1 : i < x.l.length := by rwa [List.length_map] at hi
 rw [map_pf h1]
 exact (day_bd (hx.q _ (mem_pf h1))).1
set_option maxRecDepth 100000 in
set_option maxHeartbeats 8000000 in
theorem life_any (x : Li) (person day : Int) (w : World) (hx : x.Ok) (ha : x.At w) (hp : In64 person) (hd : In64 day)
  (hT : ∀ (i : Nat) (W : World), x.At W → i < x.n → (x.qs.getD i q0).day ≤ day → Calls Tryz.prog 128 #[.pointer (some ⟨x.Lb, 0, none⟩), .int .i64 i] W (TitEnd x (titS (setS x.qs x.r) x.qs x.r i).1 (titS (setS x.qs x.r) x.qs x.r i).2 W)) :
  Calls Tryz.prog 135 #[.pointer (some ⟨x.Lb, 0, none⟩), .int .i64 person, .int .i64 day] w fun e w' => e = .returned (.int .i64 (setS x.qs x.r person day)) ∧ x.At w' ∧ Kp x.W0.heap.size w w' := by
 have HX := Lib.hid hx
 have HPP := Lib.hid hp
 have HDD := Lib.hid hd
 have HAT := Lib.hid ha
 have HMW := Lib.hid ha.lt
 have HTL := Lib.hid (fun (W : World) (h : x.At W) => titles_any x person day W hx h hT)
 have HSS := Lib.hid (setS_eq (r := x.r) hx.days person day)
 obtain ⟨sv, hsv⟩ : ∃ s, setS x.qs x.r person day = s := ⟨_, rfl⟩
 obtain ⟨tl, htl⟩ : ∃ s, srtT (titL (setS x.qs x.r) x.qs x.r person day) = s := ⟨_, rfl⟩
 rw [htl] at HTL HSS
 rw [hsv] at HSS
 rw [hsv]
 have HSV := Lib.hid hsv
 have htlen : tl.length ≤ 1000 := by
  rw [← htl, (srtT_perm _).length_eq]
  unfold titL
  rw [List.length_map]
  have := List.length_filter_le (fun i => hasT (setS x.qs x.r) x.qs x.r person day i) (List.range x.qs.length)
  rw [List.length_range] at this
  have h2 := hx.n
  have h3 : x.qs.length = x.n := by rw [List.length_map, hx.len]
  omega
 have HLEN := Lib.hid htlen
 obtain ⟨W1, hW1⟩ : ∃ X, w.alloc (.cells #[.int .i64 person, .int .i64 day] 65) = X := ⟨_, rfl⟩
 have GW1 := Lib.hid (show Below w.heap.size w W1 by rw [← hW1]; exact one_more _ _)
 have BW1 := Lib.hid (show Blk W1 w.heap.size 65 #[.int .i64 person, .int .i64 day] by rw [← hW1]; exact Blk.new _ _ _)
 have HW1 := Lib.hid hW1
 have HA1 := Lib.hid (ha.ext GW1.out)
 obtain ⟨es, clock, hm, hg⟩ := HA1.out.map
 obtain ⟨is, v, hv, hlook⟩ := run_look (w := W1.drew) hm hg hp hd
 have HV := Lib.hid hv
 have HSN := Lib.hid (fun (V : World) (h : x.At V) => h.map)
 obtain ⟨Lb, hLb⟩ : ∃ b, x.Lb = b := ⟨_, rfl⟩
 obtain ⟨A, hA⟩ : ∃ b, x.A = b := ⟨_, rfl⟩
 obtain ⟨B, hB⟩ : ∃ b, x.B = b := ⟨_, rfl⟩
 obtain ⟨n, hn⟩ : ∃ b, x.n = b := ⟨_, rfl⟩
 obtain ⟨c, hc⟩ : ∃ b, x.c = b := ⟨_, rfl⟩
 obtain ⟨d, hd'⟩ : ∃ b, x.d = b := ⟨_, rfl⟩
 obtain ⟨M, hM⟩ : ∃ b, x.W0.heap.size = b := ⟨_, rfl⟩
 have HBL := Lib.hid (show ∀ W, x.At W → Blk W Lb 141 #[.slice A n c, .slice B n d, .map (some M)] by
  intro W h
  have h3 := h.blk
  rwa [hLb, hA, hB, hn, hc, hd', hM] at h3)
 rw [hLb]
 rw [hLb] at HTL
 rw [hM] at hlook
 have HXM := Lib.hid hM
 have b2 := (HBL.out _ HA1.out).cell 2
 have k0 := BW1.out.cell 0
 have k1 := BW1.out.cell 1
 have HLO := Lib.hid hlook
 clear hT hx ha hp hd hsv htl htlen hW1 hm hg hv hlook hLb hA hB hn hc hd' hM
 go_enter Tryz.func135, Tryz.ntmps135
 go_upto_region 2 with fail
 rw [HW1.out]
 have L2 := HLO.out
 go_region_held3 (fun W => W.cell? ⟨Lb, 2, none⟩ = some (.map (some M)) ∧ W.cell? ⟨w.heap.size, 0, none⟩ = some (.int .i64 person) ∧ W.cell? ⟨w.heap.size, 1, none⟩ = some (.int .i64 day) ∧ (Instr.lookup 139 (.map (some M)) (.agg #[.int .i64 person, .int .i64 day]) true).run Tryz.prog W = .ok (.tuple #[.int .i64 v, .bool is]) W)
  (exact ⟨b2, k0, k1, L2⟩) (fail)
 clear b2 k0 k1 L2
 cases is with
 | true =>
  have e : v = sv := by rw [HV.out rfl, HSV.out]
  subst e
  go_wp2_with fail
  go_ret
  exact ⟨rfl, HA1.out.drew, (Kp.of_below GW1.out).drew⟩
 | false =>
  have T := Lib.hid (HTL.out _ HA1.out.drew)
  go_upto_region 7 with (go_at_call 86; (with_reducible refine (T.out).mono ?_); rintro e V ⟨⟨vv, rfl, hown⟩, hat, hkp⟩; obtain ⟨A', c', rfl, -, -, harr, -⟩ := OwnL.arr kdT hown; have HAV := Lib.hid hat; have HKV := Lib.hid (((Kp.of_below GW1.out).drew).trans hkp); have HKD := Lib.hid (Kp.trans ((Kp.refl _ W1).drew) hkp); have HARR := Lib.hid harr; clear hown hat hkp harr)
  go_loopw [10, 32] (fun o i wr => ∃ k : Nat, k ≤ tl.length ∧ o = .int .i64 (lastT (tl.take k) day) ∧ i = .int .i64 k ∧ Below V.heap.size V wr) (fun _ i _ => tl.length - (intOf i).toNat)
  case atStart => exact ⟨0, Nat.zero_le _, rfl, rfl, Below.refl _ _⟩
  case round =>
   obtain ⟨k, hk, rfl, rfl, hg⟩ := hrel
   have HG := Lib.hid hg
   clear hg
   by_cases hkn : k < tl.length
   ·obtain ⟨b2, o2, tt, eA, -, hx2, hc2⟩ := HARR.out.at hkn
    subst eA
    have e0 := hc2 wr HG.out 0 _ rfl
    have e1 := hc2 wr HG.out 1 _ rfl
    have e2 := hc2 wr HG.out 2 _ rfl
    simp only [Nat.add_zero] at e0
    have HSN := Lib.hid (show lastT (tl.take (k + 1)) day = if tt.day ≤ day then tt.par else lastT (tl.take k) day by
     rw [take_snoc (d := tt) hkn, lastT_snoc, List.getD_eq_getElem?_getD, hx2]; rfl)
    obtain ⟨W2, hW2⟩ : ∃ X, wr.alloc (.cells #[.int .i64 tt.day, .int .i64 tt.par, .int .i64 tt.src] 67) = X := ⟨_, rfl⟩
    have GW2 := Lib.hid (show Below wr.heap.size wr W2 by rw [← hW2]; exact one_more _ _)
    have BW2 := Lib.hid (show Blk W2 wr.heap.size 67 #[.int .i64 tt.day, .int .i64 tt.par, .int .i64 tt.src] by rw [← hW2]; exact Blk.new _ _ _)
    have HW2 := Lib.hid hW2
    have GX := Lib.hid (HG.out.trans (GW2.out.mono HG.out.size))
    have hwr2 : wrap64 ((k : Int) + 1) = (k : Int) + 1 := wrap_in (by have := HLEN.out; omega)
    have hki : (k : Int) < (tl.length : Int) := by omega
    obtain ⟨lk, hlk⟩ : ∃ s, lastT (tl.take k) day = s := ⟨_, rfl⟩
    rw [hlk] at HSN
    rw [hlk]
    clear hW2 hx2 hc2 hlk
    go_upto_region 9 with fail
    rw [HW2.out]
    clear e0 e1 e2
    have d0 := BW2.out.cell 0
    have d1 := BW2.out.cell 1
    by_cases h1 : tt.day ≤ day
    ·have h1b := decide_eq_true h1
     have HS2 := Lib.hid (HSN.out.trans (if_pos h1))
     clear h1
     go_wp2_with fail
     go_roundw
     case rel => exact ⟨k + 1, by omega, by rw [HS2.out], by rw [hwr2]; rfl, GX.out⟩
     case measure => rw [hwr2]; simp only [intOf]; omega
    ·have h1b := decide_eq_false h1
     have HS2 := Lib.hid (HSN.out.trans (if_neg h1))
     clear h1
     go_wp2_with fail
     go_roundw
     case rel => exact ⟨k + 1, by omega, by rw [HS2.out], by rw [hwr2]; rfl, GX.out⟩
     case measure => rw [hwr2]; simp only [intOf]; omega
   ·have e : k = tl.length := by omega
    subst e
    have HSE := Lib.hid (show lastT (tl.take tl.length) day = sv by rw [List.take_of_length_le (Nat.le_refl _)]; exact HSS.out.symm)
    rw [HSE.out]
    have HAR := Lib.hid (HAV.out.ext HG.out)
    obtain ⟨es2, clock2, hm2, hg2⟩ := HAR.out.map
    obtain ⟨es3, clock3, hup, hg3⟩ := run_seen (w := wr.drew) hm2 hg2 HPP.out HDD.out
    rw [HXM.out, HSV.out] at hup
    have HUP := Lib.hid hup
    have HG3 := Lib.hid hg3
    have BKR := Lib.hid (((HKD.out.blk BW1.out (by have h1 := HMW.out; omega)).ext HG.out))
    have b2 := (HBL.out _ HAR.out).cell 2
    have k0 := BKR.out.cell 0
    have k1 := BKR.out.cell 1
    have HAP := Lib.hid (show x.At (wr.drew.putObj M (.map es3 clock3)) by rw [← HXM.out]; exact HAR.out.drew.put HX.out clock3 HG3.out)
    have BKP := Lib.hid (show Blk (wr.drew.putObj M (.map es3 clock3)) w.heap.size 65 #[.int .i64 person, .int .i64 day] from (World.putObj_heap_other (by have h1 := HMW.out; have h2 := HXM.out; omega)).trans BKR.out)
    have p2 := (HBL.out _ HAP.out).cell 2
    have q0' := BKP.out.cell 0
    have q1' := BKP.out.cell 1
    clear hm2 hg2 hup hg3
    go_upto_region 12 with fail
    have L2 := HUP.out
    go_region_held3 (fun W => W.cell? ⟨Lb, 2, none⟩ = some (.map (some M)) ∧ W.cell? ⟨w.heap.size, 0, none⟩ = some (.int .i64 person) ∧ W.cell? ⟨w.heap.size, 1, none⟩ = some (.int .i64 day)) (first | exact ⟨b2, k0, k1⟩ | exact ⟨p2, q0', q1'⟩) (fail)
    all_goals go_wp2_with fail
    all_goals go_ret
    all_goals exact ⟨rfl, HAP.out, by rw [← HXM.out]; exact ((HKV.out.trans (Kp.of_below HG.out)).drew).put _⟩
theorem set_all (x : Li) (hx : x.Ok) : ∀ k : Nat, SetC x k
 | 0 => fun person day w hp hd hk ha => life_any x person day w hx ha hp hd fun i W _ hi hdi => by
  have h1 := hx.days i (by rw [List.length_map, hx.len]; exact hi)
  omega
 | k + 1 => fun person day w hp hd hk ha => life_any x person day w hx ha hp hd fun i W h hi hdi => title_any x k (set_all x hx k) i W hx h hi (by omega)
theorem settled_any (x : Li) (person day : Int) (w : World) (hx : x.Ok) (ha : x.At w) (hp : In64 person) (hd : In64 day) :
  Calls Tryz.prog 135 #[.pointer (some ⟨x.Lb, 0, none⟩), .int .i64 person, .int .i64 day] w fun e w' => e = .returned (.int .i64 (setS x.qs x.r person day)) ∧ x.At w' ∧ Kp x.W0.heap.size w w' :=
 set_all x hx (day + 1).toNat person day w hp hd (Nat.le_refl _) ha
theorem titlesT_any (x : Li) (person day : Int) (w : World) (hx : x.Ok) (ha : x.At w) :
  Calls Tryz.prog 86 #[.pointer (some ⟨x.Lb, 0, none⟩), .int .i64 person, .int .i64 day] w (TitsEnd x (srtT (titL (setS x.qs x.r) x.qs x.r person day)) w) :=
 titles_any x person day w hx ha fun i W h hi hdi => title_any x (day.toNat) (set_all x hx _) i W hx h hi (by omega)
/-- What is asked of proofs and a reading. -/
structure Rdg (w : World) (A : Option Addr) (n : Nat) (B : Option Addr) (l : List Pf) (r : List Int) : Prop where
 prf : Prf w A n l
 rd : Ints w B n r
 n : n ≤ 1000
 q : ∀ p ∈ l, isQf p.q = true
 src : ((l.map Pf.q).map Qf.src).Nodup
theorem live_any (A : Option Addr) (n c : Nat) (B : Option Addr) (d : Nat) (l : List Pf) (r : List Int) (w : World) (h : Rdg w A n B l r) :
  Calls Tryz.prog 85 #[.slice A n c, .slice B n d] w fun e w' => ∃ x : Li, e = .returned (.pointer (some ⟨x.Lb, 0, none⟩)) ∧ x.Ok ∧ x.At w' ∧ x.W0 = w ∧ x.l = l ∧ x.r = r ∧ Below w.heap.size w w' := by
 have HR := Lib.hid h
 have hmk : (Instr.makeMap 139 none).run Tryz.prog w = .ok (.map (some w.heap.size)) (w.alloc (.map #[] 0)) := by simp [Instr.makeMap, go_sem]
 obtain ⟨W1, hW1⟩ : ∃ X, w.alloc (.map #[] 0) = X := ⟨_, rfl⟩
 have g1 : Below w.heap.size w W1 := by rw [← hW1]; exact one_more _ _
 have m1 : MapAt W1 w.heap.size #[] 0 := by rw [← hW1]; exact World.alloc_heap_new w _
 have s1 : W1.heap.size = w.heap.size + 1 := by rw [← hW1]; simp
 rw [hW1] at hmk
 have G1 := Lib.hid g1
 have M1 := Lib.hid m1
 have S1 := Lib.hid s1
 clear hW1 g1 m1 s1 h
 go_enter Tryz.func85, Tryz.ntmps85
 go_wp2_with fail
 go_ret
 have g2 := one_more W1 (.cells #[.slice A n c, .slice B n d, .map (some w.heap.size)] 141)
 refine ⟨⟨w, W1.heap.size, A, n, c, B, d, l, r⟩, rfl, ⟨HR.out.prf, HR.out.rd, HR.out.n, HR.out.q, HR.out.src, by show w.heap.size < W1.heap.size; have := S1.out; omega⟩, ⟨extTrans G1.out g2, Blk.new W1 _ _, #[], 0, M1.out.ext g2, Good.nil _ _⟩, rfl, rfl, rfl, extTrans G1.out g2⟩
theorem settledBy_any (A : Option Addr) (n c : Nat) (B : Option Addr) (d : Nat) (l : List Pf) (r : List Int) (person day : Int) (w : World) (h : Rdg w A n B l r) (hp : In64 person) (hd : In64 day) :
  Calls Tryz.prog 89 #[.slice A n c, .slice B n d, .int .i64 person, .int .i64 day] w fun e w' => e = .returned (.int .i64 (setS (l.map Pf.q) r person day)) ∧ Below w.heap.size w w' := by
 have TL := Lib.hid (live_any A n c B d l r w h)
 have TS := Lib.hid (fun (x : Li) (W : World) (hx : x.Ok) (ha : x.At W) => settled_any x person day W hx ha hp hd)
 clear h hp hd
 go_enter Tryz.func89, Tryz.ntmps89
 go_wp2_with (first
  | (go_at_call 85; (with_reducible refine (TL.out).mono ?_); rintro e W1 ⟨x, rfl, hx, ha, e1, e2, e3, hg⟩; have HX := Lib.hid hx; have HA := Lib.hid ha; have HE := Lib.hid (And.intro e1 (And.intro e2 e3)); have HG := Lib.hid hg; clear hx ha e1 e2 e3 hg)
  | (go_at_call 135; (with_reducible refine (TS.out _ _ HX.out HA.out).mono ?_); rintro e W2 ⟨rfl, ha2, hk2⟩; have HK2 := Lib.hid hk2; clear ha2 hk2))
 go_ret
 obtain ⟨e1, e2, e3⟩ := HE.out
 refine ⟨?_, ?_⟩
 ·show _ = Ending.returned (.int .i64 (setS (l.map Pf.q) r person day))
  rw [← e2, ← e3]
  rfl
 ·have h2 := HK2.out
  rw [e1] at h2
  exact HG.out.trans (h2.below HG.out.size)
end Go.Proofs.YtehhlgdkhecacaaGreat

namespace Go.Proofs.YtehhlgdkhecacaaGreat
open Go.RowKit Go.Shelf Go.Sort
/-- The error of what is asked for of a person, a parish, on days. -/
def askE (l : List Qf) (person parish : Int) (days : List Int) : Int := if okL l = true then (if rng person 1 999 = true then (if rng parish 0 5 = true then lookE l days else 27) else 26) else 21
/-- .. if a reading is wanted. -/
def readE (l : List Qf) (person parish : Int) (days : List Int) (known : Int) : Int := if askE l person parish days = 0 then (if isRead (cntL l known) = true then 0 else 24) else askE l person parish days
/-- What look and read hand back. -/
def AskEnd (l : List Pf) (known E : Int) (w : World) (e : Ending) (w' : World) : Prop :=
 ∃ A n c, e = .returned (.tuple #[.slice A n c, .int .i64 E]) ∧ (E = 0 → Prf w' A n (l.filter fun p => cnt p.q known) ∧ n ≤ 60 ∧ n ≤ c ∧ c ≤ maxLen ∧ ∀ b o, A = some ⟨b, o, none⟩ → w.heap.size ≤ b) ∧ (E ≠ 0 → A = none ∧ n = 0 ∧ c = 0) ∧ Below w.heap.size w w'
theorem askEnd_no {l : List Pf} {known E : Int} {w V : World} (h : E ≠ 0) (hg : Below w.heap.size w V) : AskEnd l known E w (.returned (.tuple #[.slice none 0 0, .int .i64 E])) V :=
 ⟨none, 0, 0, rfl, fun e => absurd e h, fun _ => ⟨rfl, rfl, rfl⟩, hg⟩
theorem askEnd_ok {l : List Pf} {known : Int} {w V : World} {A : Option Addr} {n c : Nat} (h : Prf V A n (l.filter fun p => cnt p.q known)) (hn : n ≤ 60) (hc : n ≤ c) (hm : c ≤ maxLen) (hA : ∀ b o, A = some ⟨b, o, none⟩ → w.heap.size ≤ b) (hg : Below w.heap.size w V) : AskEnd l known 0 w (.returned (.tuple #[.slice A n c, .int .i64 0])) V :=
 ⟨A, n, c, rfl, fun _ => ⟨h, hn, hc, hm, hA⟩, fun e => absurd rfl e, hg⟩
theorem askE_ok {l : List Qf} {person parish : Int} {days : List Int} (h : askE l person parish days = 0) : okL l = true ∧ rng person 1 999 = true ∧ rng parish 0 5 = true ∧ ∀ d ∈ days, rng d 0 4166 = true := by
 unfold askE at h
 by_cases h1 : okL l = true
 ·rw [if_pos h1] at h
  by_cases h2 : rng person 1 999 = true
  ·rw [if_pos h2] at h
   by_cases h3 : rng parish 0 5 = true
   ·rw [if_pos h3] at h
    unfold lookE at h
    rw [if_pos h1] at h
    refine ⟨h1, h2, h3, fun d hd => ?_⟩
    by_cases h4 : days.any badDay = true
    ·rw [if_pos h4] at h; exact absurd h (by decide)
    ·rw [List.any_eq_true] at h4
     cases h5 : rng d 0 4166 with
     | true => rfl
     | false => exact absurd ⟨d, hd, by unfold badDay; rw [h5]; rfl⟩ h4
   ·rw [if_neg h3] at h; exact absurd h (by decide)
  ·rw [if_neg h2] at h; exact absurd h (by decide)
 ·rw [if_neg h1] at h; exact absurd h (by decide)
theorem rdg_of {l : List Pf} (h : okL (l.map Pf.q) = true) {known : Int} {w : World} {A B : Option Addr} {n : Nat} {r : List Int} (hp : Prf w A n (l.filter fun p => cnt p.q known)) (hr : Ints w B n r) (hn : n ≤ 60) : Rdg w A n B (l.filter fun p => cnt p.q known) r := by
 refine ⟨hp, hr, by omega, fun p hp => ?_, ?_⟩
 ·exact okL_all h _ (List.mem_map.2 ⟨p, (List.mem_filter.1 hp).1, rfl⟩)
 ·have h1 : ((l.map Pf.q).map Qf.src).Nodup := ((okL_src h).imp fun hlt => by omega)
  rw [List.map_map] at h1 ⊢
  exact (List.filter_sublist.map _).nodup h1
/-- The record of what is asked. -/
abbrev askV (person parish : Int) (D : Option Addr) (m k : Nat) : Value := .agg #[.int .i64 person, .int .i64 parish, .slice D m k]
set_option maxRecDepth 100000 in
set_option maxHeartbeats 8000000 in
theorem askLook_any (person parish : Int) (D : Option Addr) (m k : Nat) (days : List Int) (known : Int) (A : Option Addr) (n c : Nat) (l : List Pf) (w : World) (ha : Prf w A n l) (hn : n ≤ 9223372036854775807) (hd : Ints w D m days) (hm : m ≤ 1000) (h1m : 1 ≤ m) (hk : days.getD (days.length - 1) 0 = known) :
  Calls Tryz.prog 83 #[askV person parish D m k, .slice A n c] w (AskEnd l known (askE (l.map Pf.q) person parish days) w) := by
 obtain ⟨W1, hW1⟩ : ∃ X, w.alloc (.cells #[.int .i64 person, .int .i64 parish, .slice D m k] 84) = X := ⟨_, rfl⟩
 have g1 : Below w.heap.size w W1 := by rw [← hW1]; exact one_more _ _
 have b1 : Blk W1 w.heap.size 84 #[.int .i64 person, .int .i64 parish, .slice D m k] := by rw [← hW1]; exact Blk.new _ _ _
 have T := check_any A n c l W1 (ha.below g1) hn
 have HTL := Lib.hid (fun (W : World) (g : Below w.heap.size w W) => look_any A n c l D m k days W (ha.below g) hn (hd.below g) hm h1m)
 have HPI := Lib.hid (fun (W : World) (g : Below w.heap.size w W) p (hp : p ∈ l.filter fun p => cnt p.q known) => (ha.p p (List.mem_filter.1 hp).1).below g)
 have HLEN := Lib.hid (show okL (l.map Pf.q) = true → (l.filter fun p => cnt p.q known).length ≤ 60 from fun h => by
  have h1 := okL_len h
  have h2 := List.length_filter_le (fun p : Pf => cnt p.q known) l
  rw [List.length_map] at h1
  omega)
 have HKN := Lib.hid hk
 have HAE := Lib.hid (show askE (l.map Pf.q) person parish days = if okL (l.map Pf.q) = true then (if rng person 1 999 = true then (if rng parish 0 5 = true then lookE (l.map Pf.q) days else 27) else 26) else 21 from rfl)
 have TP := isPerson_any person
 have TQ := isParish_any parish
 obtain ⟨ae, hae⟩ : ∃ s, askE (l.map Pf.q) person parish days = s := ⟨_, rfl⟩
 rw [hae] at HAE ⊢
 obtain ⟨ok, hok⟩ : ∃ s, okL (l.map Pf.q) = s := ⟨_, rfl⟩
 obtain ⟨op, hop⟩ : ∃ s, rng person 1 999 = s := ⟨_, rfl⟩
 obtain ⟨oq, hoq⟩ : ∃ s, rng parish 0 5 = s := ⟨_, rfl⟩
 rw [hok] at HAE HLEN T
 rw [hop] at HAE TP
 rw [hoq] at HAE TQ
 have G1 := Lib.hid g1
 have B1 := Lib.hid b1
 have HW1 := Lib.hid hW1
 have HTP := Lib.hid TP
 have HTQ := Lib.hid TQ
 clear ha hd hk hae hok hop hoq g1 b1 hW1 TP TQ
 cases ok with
 | false =>
  have T' := Lib.hid T
  clear T
  rw [show err false 21 = 21 from rfl] at T'
  have e : ae = 21 := HAE.out
  subst e
  go_enter Tryz.func83, Tryz.ntmps83
  go_upto_region 1 with fail
  rw [HW1.out]
  go_wp2_with (go_at_call 48; (with_reducible refine (T'.out).mono ?_); rintro e V ⟨rfl, hg⟩; have GV := Lib.hid (G1.out.trans (hg.mono G1.out.size)); clear hg)
  go_ret2
  exact askEnd_no (by decide) GV.out
 | true =>
  have T' := Lib.hid T
  clear T
  rw [show err true 21 = 0 from rfl] at T'
  go_enter Tryz.func83, Tryz.ntmps83
  go_upto_region 1 with fail
  rw [HW1.out]
  go_upto_region 3 with (go_at_call 48; (with_reducible refine (T'.out).mono ?_); rintro e V ⟨rfl, hg⟩; have GV := Lib.hid (G1.out.trans (hg.mono G1.out.size)); have BV := Lib.hid (B1.out.ext hg); clear hg)
  have d0 := BV.out.cell 0
  have d1 := BV.out.cell 1
  have d2 := BV.out.cell 2
  cases op with
  | false =>
   have e : ae = 26 := HAE.out
   subst e
   go_wp2_with (go_at_call 125; (with_reducible refine (HTP.out _).mono ?_); rintro e w' ⟨rfl, rfl⟩)
   go_ret2
   exact askEnd_no (by decide) GV.out
  | true =>
   cases oq with
   | false =>
    have e : ae = 27 := HAE.out
    subst e
    go_wp2_with (first | (go_at_call 125; (with_reducible refine (HTP.out _).mono ?_); rintro e w' ⟨rfl, rfl⟩) | (go_at_call 126; (with_reducible refine (HTQ.out _).mono ?_); rintro e w' ⟨rfl, rfl⟩))
    go_ret2
    exact askEnd_no (by decide) GV.out
   | true =>
    have e : ae = lookE (l.map Pf.q) days := HAE.out
    have HE := Lib.hid e
    clear e
    go_wp2_with (first
     | (go_at_call 125; (with_reducible refine (HTP.out _).mono ?_); rintro e w' ⟨rfl, rfl⟩)
     | (go_at_call 126; (with_reducible refine (HTQ.out _).mono ?_); rintro e w' ⟨rfl, rfl⟩)
     | (go_at_call 73; (with_reducible refine (HTL.out _ GV.out).mono ?_); rintro e V2 ⟨⟨v, rfl, ho, hz⟩, hg⟩; have HO := Lib.hid ho; have HZ := Lib.hid hz; have G2 := Lib.hid (GV.out.trans (hg.mono GV.out.size)); have GV2 := Lib.hid hg; clear ho hz hg))
    go_ret2
    have HO2 := HO.out
    have HZ2 := HZ.out
    rw [← HE.out] at HO2 HZ2 ⊢
    by_cases hz : ae = 0
    ·subst hz
     have ho := HO2 rfl
     rw [HKN.out] at ho
     obtain ⟨A2, c2, rfl, hc1, hc2, hpr⟩ := own_prf ho (HPI.out V2 G2.out)
     exact askEnd_ok hpr (HLEN.out (by trivial)) hc1 hc2 (fun b o e => by
      subst e
      have h1 := (own_block ho (k := b) rfl).1
      exact Nat.le_trans GV.out.size h1) G2.out
    ·have e2 := HZ2 hz
     subst e2
     exact askEnd_no hz G2.out
set_option maxRecDepth 100000 in
set_option maxHeartbeats 8000000 in
theorem askRead_any (person parish : Int) (D : Option Addr) (m k : Nat) (days : List Int) (known : Int) (A : Option Addr) (n c : Nat) (l : List Pf) (w : World) (ha : Prf w A n l) (hn : n ≤ 9223372036854775807) (hd : Ints w D m days) (hm : m ≤ 1000) (h1m : 1 ≤ m) (hk : days.getD (days.length - 1) 0 = known) :
  Calls Tryz.prog 66 #[askV person parish D m k, .slice A n c] w (AskEnd l known (readE (l.map Pf.q) person parish days known) w) := by
 obtain ⟨W1, hW1⟩ : ∃ X, w.alloc (.cells #[.int .i64 person, .int .i64 parish, .slice D m k] 84) = X := ⟨_, rfl⟩
 have g1 : Below w.heap.size w W1 := by rw [← hW1]; exact one_more _ _
 have b1 : Blk W1 w.heap.size 84 #[.int .i64 person, .int .i64 parish, .slice D m k] := by rw [← hW1]; exact Blk.new _ _ _
 have T := askLook_any person parish D m k days known A n c l W1 (ha.below g1) hn (hd.below g1) hm h1m hk
 have HRE := Lib.hid (show readE (l.map Pf.q) person parish days known = if askE (l.map Pf.q) person parish days = 0 then (if isRead (cntL (l.map Pf.q) known) = true then 0 else 24) else askE (l.map Pf.q) person parish days from rfl)
 have HFM := Lib.hid (show (l.filter fun p => cnt p.q known).map Pf.q = cntL (l.map Pf.q) known from filt_map l (fun q => cnt q known))
 obtain ⟨re, hre⟩ : ∃ s, readE (l.map Pf.q) person parish days known = s := ⟨_, rfl⟩
 rw [hre] at HRE ⊢
 obtain ⟨ae, hae⟩ : ∃ s, askE (l.map Pf.q) person parish days = s := ⟨_, rfl⟩
 rw [hae] at HRE T
 obtain ⟨ir, hir⟩ : ∃ s, isRead (cntL (l.map Pf.q) known) = s := ⟨_, rfl⟩
 rw [hir] at HRE
 have HIR := Lib.hid hir
 have G1 := Lib.hid g1
 have B1 := Lib.hid b1
 have HW1 := Lib.hid hW1
 have HT := Lib.hid T
 have d0 := b1.cell 0
 have d1 := b1.cell 1
 have d2 := b1.cell 2
 clear ha hd hk hre hae hir g1 b1 hW1 T
 by_cases hz : ae = 0
 ·subst hz
  go_enter Tryz.func66, Tryz.ntmps66
  go_upto_region 1 with fail
  rw [HW1.out]
  go_upto_region 2 with (go_at_call 83; (with_reducible refine (HT.out).mono ?_); rintro e V ⟨A2, n2, c2, rfl, ho, -, hg⟩; have HO := Lib.hid (ho rfl); have GV := Lib.hid (G1.out.trans (hg.mono G1.out.size)); clear ho hg)
  have TR := Lib.hid (isRead_any A2 n2 c2 _ V HO.out.1 (by have := HO.out.2.1; omega))
  rw [HFM.out, HIR.out] at TR
  cases ir with
  | true =>
   have e : re = 0 := HRE.out
   subst e
   go_wp2_with (go_at_call 109; (with_reducible refine (TR.out).mono ?_); rintro e V2 ⟨rfl, hg⟩; have GV2 := Lib.hid hg; clear hg)
   go_ret2
   exact askEnd_ok (HO.out.1.below GV2.out) HO.out.2.1 HO.out.2.2.1 HO.out.2.2.2.1 (fun b o e => Nat.le_trans G1.out.size (HO.out.2.2.2.2 b o e)) (GV.out.trans (GV2.out.mono GV.out.size))
  | false =>
   have e : re = 24 := HRE.out
   subst e
   go_wp2_with (go_at_call 109; (with_reducible refine (TR.out).mono ?_); rintro e V2 ⟨rfl, hg⟩; have GV2 := Lib.hid hg; clear hg)
   go_ret2
   exact askEnd_no (by decide) (GV.out.trans (GV2.out.mono GV.out.size))
 ·have hzb : (ae == 0) = false := by simpa using hz
  have HZ := Lib.hid hz
  have e : re = ae := by have := HRE.out; rwa [if_neg hz] at this
  subst e
  clear hz
  go_enter Tryz.func66, Tryz.ntmps66
  go_upto_region 1 with fail
  rw [HW1.out]
  go_wp2_with (go_at_call 83; (with_reducible refine (HT.out).mono ?_); rintro e V ⟨A2, n2, c2, rfl, -, ho, hg⟩; obtain ⟨rfl, rfl, rfl⟩ := ho HZ.out; have GV := Lib.hid (G1.out.trans (hg.mono G1.out.size)); clear ho hg)
  go_ret2
  exact askEnd_no HZ.out GV.out
end Go.Proofs.YtehhlgdkhecacaaGreat

namespace Go.Proofs.YtehhlgdkhecacaaGreat
open Go.RowKit Go.Shelf Go.Sort
/-- The error of what is asked for by a reading. -/
def byRdE (l : List Qf) (person known : Int) (days : List Int) (r : List Int) : Int := if askE l person 0 days = 0 then (if isRd (cntL l known) r = true then 0 else 23) else askE l person 0 days
/-- The titles of a person by a reading. -/
def titlesS (c : List Qf) (r : List Int) (person : Int) : List Tt := srtT (titL (setS c r) c r person 4166)
def TitlesEnd (c : List Qf) (r : List Int) (person E : Int) (w : World) (e : Ending) (w' : World) : Prop :=
 ∃ A n k, e = .returned (.tuple #[.slice A n k, .int .i64 E]) ∧ Arr tcells 3 w' A n (if E = 0 then titlesS c r person else []) ∧ Below w.heap.size w w'
theorem titlesEnd_no {c : List Qf} {r : List Int} {person E : Int} {w V : World} (h : E ≠ 0) (hg : Below w.heap.size w V) : TitlesEnd c r person E w (.returned (.tuple #[.slice none 0 0, .int .i64 E])) V :=
 ⟨none, 0, 0, rfl, by rw [if_neg h]; exact Arr.nil_, hg⟩
theorem titlesEnd_ok {c : List Qf} {r : List Int} {person : Int} {w V : World} {v : Value} {base : Nat} (h : OwnL tcells 3 67 V base v (titlesS c r person)) (hg : Below w.heap.size w V) : TitlesEnd c r person 0 w (.returned (.tuple #[v, .int .i64 0])) V := by
 obtain ⟨A, c', rfl, -, -, ha, -⟩ := OwnL.arr kdT h
 exact ⟨A, _, c', rfl, by rw [if_pos rfl]; exact ha, hg⟩
theorem two_ints {w : World} {b : Nat} {x y : Int} (h : Blk w b 3 #[.int .i64 x, .int .i64 y]) : Ints w (some ⟨b, 0, none⟩) 2 [x, y] := by
 refine ⟨rfl, fun _ => ⟨b, 0, rfl, h.lt, fun k z hz j u hu => ?_⟩⟩
 have hj : j = 0 := by
  rcases j with _ | j
  ·rfl
  ·simp [icells] at hu
 subst hj
 have hu2 : u = .int .i64 z := by simpa [icells] using hu.symm
 subst hu2
 rcases k with _ | _ | k
 ·simp at hz; subst hz; exact h.cell 0
 ·simp at hz; subst hz; exact h.cell 1
 ·simp at hz
set_option maxRecDepth 100000 in
set_option maxHeartbeats 8000000 in
theorem titlesF_any (A : Option Addr) (n c : Nat) (l : List Pf) (B : Option Addr) (m d : Nat) (rd : List Int) (person known : Int) (w : World) (ha : Prf w A n l) (hn : n ≤ 9223372036854775807) (hb : Ints w B m rd) (hmd : m ≤ d) (hd : d ≤ 9223372036854775807) :
  Calls Tryz.prog 21 #[.slice A n c, .slice B m d, .int .i64 person, .int .i64 known] w (TitlesEnd (cntL (l.map Pf.q) known) rd person (byRdE (l.map Pf.q) person known [known] rd) w) := by
 obtain ⟨W1, hW1⟩ : ∃ X, w.alloc (.cells #[.int .i64 known] 3) = X := ⟨_, rfl⟩
 have g1 : Below w.heap.size w W1 := by rw [← hW1]; exact one_more _ _
 have b1 : Blk W1 w.heap.size 3 #[.int .i64 known] := by rw [← hW1]; exact Blk.new _ _ _
 have T := askLook_any person 0 (some ⟨w.heap.size, 0, none⟩) 1 1 [known] known A n c l W1 (ha.below g1) hn (one_int b1) (by decide) (by decide) rfl
 have HRE := Lib.hid (show byRdE (l.map Pf.q) person known [known] rd = if askE (l.map Pf.q) person 0 [known] = 0 then (if isRd (cntL (l.map Pf.q) known) rd = true then 0 else 23) else askE (l.map Pf.q) person 0 [known] from rfl)
 have HFM := Lib.hid (show (l.filter fun p => cnt p.q known).map Pf.q = cntL (l.map Pf.q) known from filt_map l (fun q => cnt q known))
 have HOK := Lib.hid (fun (h : askE (l.map Pf.q) person 0 [known] = 0) => (askE_ok h).1)
 have HRD := Lib.hid (fun (W : World) (g : Below w.heap.size w W) => hb.below g)
 have HMD := Lib.hid (And.intro hmd hd)
 obtain ⟨re, hre⟩ : ∃ s, byRdE (l.map Pf.q) person known [known] rd = s := ⟨_, rfl⟩
 rw [hre] at HRE ⊢
 obtain ⟨ae, hae⟩ : ∃ s, askE (l.map Pf.q) person 0 [known] = s := ⟨_, rfl⟩
 rw [hae] at HRE T HOK
 obtain ⟨ir, hir⟩ : ∃ s, isRd (cntL (l.map Pf.q) known) rd = s := ⟨_, rfl⟩
 rw [hir] at HRE
 have HIR := Lib.hid hir
 have G1 := Lib.hid g1
 have HW1 := Lib.hid hW1
 have HT := Lib.hid T
 clear ha hb hmd hd hre hae hir g1 b1 hW1 T
 by_cases hz : ae = 0
 ·subst hz
  go_enter Tryz.func21, Tryz.ntmps21
  go_upto_region 2 with (go_at_call 83; rw [HW1.out]; (with_reducible refine (HT.out).mono ?_); rintro e V ⟨A2, n2, c2, rfl, ho, -, hg⟩; have HO := Lib.hid (ho rfl); have GV := Lib.hid (G1.out.trans (hg.mono G1.out.size)); clear ho hg)
  have TR := Lib.hid (isReading_any A2 n2 c2 _ B m d rd V HO.out.1 (by have := HO.out.2.1; omega) (HRD.out V GV.out) HMD.out.1 HMD.out.2)
  rw [HFM.out, HIR.out] at TR
  cases ir with
  | false =>
   have e : re = 23 := HRE.out
   subst e
   go_wp2_with (go_at_call 84; (with_reducible refine (TR.out).mono ?_); rintro e V2 ⟨rfl, hg⟩; have GV2 := Lib.hid (GV.out.trans (hg.mono GV.out.size)); clear hg)
   go_ret2
   exact titlesEnd_no (by decide) GV2.out
  | true =>
   have e : re = 0 := HRE.out
   subst e
   have HLEN := Lib.hid (show rd.length = n2 by
    have h1 := HIR.out
    unfold isRd at h1
    rw [Bool.and_eq_true, decide_eq_true_eq] at h1
    rw [h1.1, ← HFM.out, List.length_map, HO.out.1.len])
   have hmn : m = n2 := by rw [← HLEN.out, (HRD.out V GV.out).1]
   subst hmn
   have TL := Lib.hid (fun (W : World) (g : Below V.heap.size V W) => live_any A2 m c2 B d _ rd W (rdg_of (HOK.out (by trivial)) (HO.out.1.below g) ((HRD.out V GV.out).below g) HO.out.2.1))
   have TT := Lib.hid (fun (x : Li) (W : World) (hx : x.Ok) (ha : x.At W) => titlesT_any x person 4166 W hx ha)
   go_wp2_with (first
    | (go_at_call 84; (with_reducible refine (TR.out).mono ?_); rintro e V2 ⟨rfl, hg⟩; have GV2 := Lib.hid hg; clear hg)
    | (go_at_call 85; (with_reducible refine (TL.out _ GV2.out).mono ?_); rintro e V3 ⟨x, rfl, hx, ha, e1, e2, e3, hg⟩; have HX := Lib.hid hx; have HA := Lib.hid ha; have HE := Lib.hid (And.intro e1 (And.intro e2 e3)); have HG := Lib.hid hg; clear hx ha e1 e2 e3 hg)
    | (go_at_call 86; (with_reducible refine (TT.out _ _ HX.out HA.out).mono ?_); rintro e V4 ⟨⟨v, rfl, hown⟩, -, hk⟩; have HO4 := Lib.hid hown; have HK := Lib.hid hk; clear hown hk))
   go_ret2
   obtain ⟨e1, e2, e3⟩ := HE.out
   have h2 := HK.out
   rw [e1] at h2
   have h3 := HO4.out
   have e4 : x.qs = cntL (l.map Pf.q) known := by show x.l.map Pf.q = _; rw [e2]; exact HFM.out
   rw [e4, e3] at h3
   exact titlesEnd_ok h3 (GV.out.trans ((GV2.out.trans ((HG.out.trans (h2.below HG.out.size)).mono GV2.out.size)).mono GV.out.size))
 ·have hzb : (ae != 0) = true := by simpa using hz
  have HZ := Lib.hid hz
  have e : re = ae := by have := HRE.out; rwa [if_neg hz] at this
  subst e
  clear hz
  go_enter Tryz.func21, Tryz.ntmps21
  go_wp2_with (go_at_call 83; rw [HW1.out]; (with_reducible refine (HT.out).mono ?_); rintro e V ⟨A2, n2, c2, rfl, -, ho, hg⟩; obtain ⟨rfl, rfl, rfl⟩ := ho HZ.out; have GV := Lib.hid (G1.out.trans (hg.mono G1.out.size)); clear ho hg)
  go_ret2
  exact titlesEnd_no HZ.out GV.out
end Go.Proofs.YtehhlgdkhecacaaGreat

namespace Go.Proofs.YtehhlgdkhecacaaGreat
section
variable {P : Program} {ops : Array Oper} {Q : Exit → Act → World → Prop} {md : Region.Mode} {S : World → Prop} {last : Nat}
theorem waits_not {m i : Nat} {listed : Array Bool} (hw : Region.waitsFor md ops m i = true) (hun : listed.getD i true = false) : m ∉ Region.ready md ops listed := fun hm => by
 obtain ⟨oj, hoj, e, he, hb, hon⟩ := Region.waitsFor_spec hw
 obtain ⟨-, o2, ho2, hall⟩ := mem_ready.1 hm
 cases hoj.symm.trans ho2
 have := hall e he hb
 rw [hon, getD_both hun] at this
 cases this
/-- A way from 'i' to the last operation: each waits for the one ahead, none has come up. -/
def pathB (md : Region.Mode) (ops : Array Oper) (last : Nat) (listed : Array Bool) : Nat → List Nat → Bool
 | i, [] => decide (i = last)
 | i, m :: ms => Region.waitsFor md ops m i && (!(listed.getD m true) && pathB md ops last listed m ms)
theorem path_not {listed : Array Bool} : ∀ (ms : List Nat) (i : Nat), pathB md ops last listed i ms = true → listed.getD i true = false → i ≠ last → last ∉ Region.ready md ops listed
 | [], i, h, _, hil => absurd (of_decide_eq_true h) hil
 | m :: ms, i, h, hun, _ => by
  simp only [pathB, Bool.and_eq_true, Bool.not_eq_true'] at h
  by_cases e : m = last
  ·subst e; exact waits_not h.1 hun
  ·exact path_not ms m h.2.2 h.2.1 e
theorem path_step {listed : Array Bool} {j : Nat} (hj : j ∈ Region.ready md ops listed) : ∀ (ms : List Nat) (i : Nat), pathB md ops last listed i ms = true → listed.getD i true = false → pathB md ops last (listed.setIfInBounds j true) i ms = true
 | [], _, h, _ => h
 | m :: ms, i, h, hun => by
  simp only [pathB, Bool.and_eq_true, Bool.not_eq_true'] at h ⊢
  have : j ≠ m := fun e => by subst e; exact waits_not h.1 hun hj
  exact ⟨h.1, by rw [getD_set_ne true this]; exact h.2.1, path_step hj ms m h.2.2 h.2.1⟩
end
section
variable {P : Program} {ops : Array Oper} {Q : Exit → Act → World → Prop} {md : Region.Mode} {S : World → Prop} {last : Nat}
def wpAnyU (P : Program) (md : Region.Mode) (ops : Array Oper) (Q : Exit → Act → World → Prop) (S : World → Prop) (last : Nat) : Nat → Array Bool → Act → World → Prop
 | 0, listed, a, w => Region.ready md ops listed = [] ∧ Q .normal a w
 | fuel + 1, listed, a, w =>
  (Region.ready md ops listed = [] → Q .normal a w) ∧
  ∀ i ∈ Region.ready md ops listed, wpOp P ops Q i (fun a' w' => if i = last then wpAny P md ops Q fuel (listed.setIfInBounds i true) a' w' else S w' ∧ wpAnyU P md ops Q S last fuel (listed.setIfInBounds i true) a' w') a w
theorem wpAny_of_upto : ∀ (fuel : Nat) (listed : Array Bool) (a : Act) (w : World), wpAnyU P md ops Q S last fuel listed a w → wpAny P md ops Q fuel listed a w
 | 0, _, _, _, h => h
 | fuel + 1, _, _, _, h => ⟨h.1, fun i hi => wpOp_mono (fun a' w' h' => by
   by_cases e : i = last
   ·rw [if_pos e] at h'; exact h'
   ·rw [if_neg e] at h'; exact wpAny_of_upto fuel _ a' w' h'.2) (h.2 i hi)⟩
theorem wpAnyU_first {i : Nat} (ms : List Nat) {oi : Oper} {v : Value} (hi : ops[i]? = some oi) (hsel : ∀ (j : Nat) (o : Oper) cs b, ops[j]? = some o → o.op ≠ .select cs b)
  (hQ : ∀ c a w, Q (.panic c) (a.put oi.dst v) w → Q (.panic c) a w) :
  ∀ (fuel : Nat) (listed : Array Bool) (a : Act) (w : World),
   (∀ j oj, ops[j]? = some oj → j ≠ i → listed.getD j true = false → (∀ e ∈ oj.after, Region.binds md e = true → e.on ≠ i) → oi.apart ops oj = true) →
   i ∈ Region.ready md ops listed → i ≠ last → pathB md ops last listed i ms = true → YieldsIf P ops S oi v a → S w →
   wpAnyU P md ops Q S last fuel (listed.setIfInBounds i true) (a.put oi.dst v) w → wpAnyU P md ops Q S last (fuel + 1) listed a w := by
 intro fuel
 induction fuel with
 | zero =>
  intro listed a w _ hr hil hla hy hS H
  refine ⟨fun h => (by rw [h] at hr; cases hr), fun j hj => ?_⟩
  by_cases hji : j = i
  ·subst hji; exact hy.wpOp hi hS (by rw [if_neg hil]; exact ⟨hS, H⟩)
  ·have := ready_mono hj hji
   rw [H.1] at this
   cases this
 | succ fuel ih =>
  intro listed a w hfree hr hil hla hy hS H
  refine ⟨fun h => (by rw [h] at hr; cases hr), fun j hj => ?_⟩
  by_cases hji : j = i
  ·subst hji; exact hy.wpOp hi hS (by rw [if_neg hil]; exact ⟨hS, H⟩)
  ·have h1 := H.2 j (ready_mono hj hji)
   obtain ⟨hjun, oj, hoj, hall⟩ := mem_ready.1 hj
   have h0 := (mem_ready.1 hr).1
   have hnot : ∀ e ∈ oj.after, Region.binds md e = true → e.on ≠ i := fun e he hb heq => by
    have h1 := hall e he hb
    rw [heq, getD_both h0] at h1; cases h1
   have hjl : j ≠ last := fun e => path_not ms i hla h0 hil (e ▸ hj)
   have h2 := wpOp_putIf hoj (hfree j oj hoj hji hjun hnot) (fun cs b => hsel i oi cs b hi) (fun cs b => hsel j oj cs b hoj) hQ hy h1
   have hfree' : ∀ k ok, ops[k]? = some ok → k ≠ i → (listed.setIfInBounds j true).getD k true = false →
     (∀ e ∈ ok.after, Region.binds md e = true → e.on ≠ i) → oi.apart ops ok = true := fun k ok hk hki hun hno => by
    refine hfree k ok hk hki ?_ hno
    by_cases hjk : j = k
    ·subst hjk; exact hjun
    ·rw [getD_set_ne true hjk] at hun; exact hun
   refine wpOp_mono (fun a' w' h3 => ?_) h2
   obtain ⟨h3a, h3b⟩ := h3
   rw [if_neg hjl] at h3b ⊢
   refine ⟨h3b.1, ih (listed.setIfInBounds j true) a' w' hfree' (ready_mono hr (Ne.symm hji)) hil (path_step hj ms i hla h0) h3a h3b.1 ?_⟩
   rw [Array.setIfInBounds_comm _ _ hji]
   exact h3b.2
/-- A load, or what yields anyhow, may be taken first: 'ms' leads from it to the last operation. -/
theorem upto_take (ms : List Nat) {i : Nat} {oi : Oper} {d : Option Tmp} {v : Value} {fuel : Nat} {listed : Array Bool} {a : Act} {w : World} (hi : ops[i]? = some oi) (hd : oi.dst = d)
  (hs : Region.noSelect ops = true) (hf : (Region.free md ops listed i && ((Region.ready md ops listed).contains i && (decide (i ≠ last) && pathB md ops last listed i ms))) = true)
  (hQ : ∀ c a w, Q (.panic c) (a.put oi.dst v) w → Q (.panic c) a w) (hg : Region.wanted oi (yielded ops a.tmps) = true) (hy : ∀ w, S w → (execOp a.eval oi).run P w = .ok (.value v) w) (hS : S w)
  (h : wpAnyU P md ops Q S last fuel (listed.setIfInBounds i true) (a.put d v) w) : wpAnyU P md ops Q S last (fuel + 1) listed a w := by
 subst hd
 simp only [Bool.and_eq_true, decide_eq_true_eq] at hf
 obtain ⟨hf, hr, hil, hw⟩ := hf
 exact wpAnyU_first ms hi (Region.noSelect_spec hs) hQ fuel listed a w (Region.free_spec hi hf) (by simpa using hr) hil hw (.inl ⟨hg, hy⟩) hS h
/-- One operation alone may come up. -/
theorem upto_one (i : Nat) {o : Oper} {fuel : Nat} {listed : Array Bool} {a : Act} {w : World} (ho : ops[i]? = some o) (hr : Region.ready md ops listed = [i]) (hil : i ≠ last)
  (h : ∀ K' : Act → World → Prop, Shut (∀ a w, S w → (S w → wpAnyU P md ops Q S last fuel (listed.setIfInBounds i true) a w) → K' a w) → if Region.wanted o (yielded ops a.tmps) = true then Oper.wp P o a w K' Q else K' (a.put o.dst undef) w) :
  wpAnyU P md ops Q S last (fuel + 1) listed a w :=
 ⟨fun h0 => (by rw [hr] at h0; cases h0), fun j hj => by
  rw [hr] at hj
  obtain rfl : j = i := by simpa using hj
  exact wpOp_step ho (fun K' hK => h K' (fun a w hS hW => hK a w (by rw [if_neg hil]; exact ⟨hS, hW hS⟩)))⟩
/-- The one up to which it holds. -/
theorem upto_last {o : Oper} {fuel : Nat} {listed : Array Bool} {a : Act} {w : World} (ho : ops[last]? = some o) (hr : Region.ready md ops listed = [last])
  (h : ∀ K' : Act → World → Prop, Shut (∀ a w, wpAny P md ops Q fuel (listed.setIfInBounds last true) a w → K' a w) → if Region.wanted o (yielded ops a.tmps) = true then Oper.wp P o a w K' Q else K' (a.put o.dst undef) w) :
  wpAnyU P md ops Q S last (fuel + 1) listed a w :=
 ⟨fun h0 => (by rw [hr] at h0; cases h0), fun j hj => by
  rw [hr] at hj
  obtain rfl : j = last := by simpa using hj
  exact wpOp_step ho (fun K' hK => h K' (fun a w hW => hK a w (by rw [if_pos rfl]; exact hW)))⟩
/-- Behind it: one operation alone may come up. -/
theorem any_one (i : Nat) {o : Oper} {fuel : Nat} {listed : Array Bool} {a : Act} {w : World} (ho : ops[i]? = some o) (hr : Region.ready md ops listed = [i])
  (h : ∀ K' : Act → World → Prop, Shut (∀ a w, wpAny P md ops Q fuel (listed.setIfInBounds i true) a w → K' a w) → if Region.wanted o (yielded ops a.tmps) = true then Oper.wp P o a w K' Q else K' (a.put o.dst undef) w) :
  wpAny P md ops Q (fuel + 1) listed a w :=
 ⟨fun h0 => (by rw [hr] at h0; cases h0), fun j hj => by
  rw [hr] at hj
  obtain rfl : j = i := by simpa using hj
  exact wpOp_step ho (fun K' hK => h K' (fun a w hW => hK a w hW))⟩
theorem any_done {fuel : Nat} {listed : Array Bool} {a : Act} {w : World} (hr : Region.ready md ops listed = []) (h : Q .normal a w) : wpAny P md ops Q fuel listed a w := by
 cases fuel with
 | zero => exact ⟨hr, h⟩
 | succ f => exact ⟨fun _ => h, by rw [hr]; simp⟩
/-- Nothing but the region's end. -/
def onlyQ (Q : Exit → Act → World → Prop) : Exit → Act → World → Prop
 | .normal, a, w => Q .normal a w
 | _, _, _ => False
theorem onlyQ_lets : ¬ LetsOut (onlyQ Q) := fun ⟨_, _, h⟩ => h
theorem rowsIn_round {l n : Nat} {row : String} {args : Array Value} {w : World} {R : Value → World → Prop} (h : Rows P row args w R) : RowsIn (Fence.wide.inRound l) n P row args w R :=
 fun c cs _ => let ⟨v, w', r, s⟩ := h c cs; ⟨v, w', r, stepsIn_wide.2 s⟩
theorem operWpIn_of_wp {l n : Nat} {o : Oper} (hnd : ∀ c, o.op ≠ .defer c) {a : Act} {K K' : Act → World → Prop} {Q' : Exit → Act → World → Prop} {w : World} (hK : ∀ a w, K a w → K' a w) (h : o.wp P a w K (onlyQ Q)) : o.wpIn (Fence.wide.inRound l) n P a w K' Q' := by
 unfold Oper.wp at h
 unfold Oper.wpIn
 rw [Oper.semAt_eq _ _ _ hnd]
 refine ⟨fun f _ => trivial, ?_⟩
 generalize (execOp a.eval o).run P w = r at *
 cases r with
 | ok x w' =>
  cases x <;> simp only [Oper.upon] at h <;> simp only [Oper.uponIn]
  case value u => exact hK _ _ h
  case skip => exact hK _ _ h
  case defer d => exact hK _ _ h
  case enter f args =>
   refine ⟨fun hd => (by cases hd), CallsIn.inRound l (callsIn_wide.2 (h.mono ?_))⟩
   intro e w'' he
   cases e with
   | returned v => exact hK _ _ he
   | panicked c => exact he.elim
   | outgrown => exact (onlyQ_lets he).elim
  case row rw_ args => exact ⟨fun hd => (by cases hd), rowsIn_round (h.mono fun v w'' hv => hK _ _ hv)⟩
 | halt x w' =>
  cases x <;> simp only [Oper.upon] at h
  exact h.elim
theorem wpAnyIn_of_wp {l n : Nat} (hnd : noDefer ops = true) : ∀ (fuel : Nat) (listed : Array Bool) (a : Act) (w : World), wpAny P md ops (onlyQ Q) fuel listed a w → wpAnyIn (Fence.wide.inRound l) n P md ops Q fuel listed a w
 | 0, _, _, _, h => h
 | fuel + 1, listed, a, w, h => ⟨h.1, fun i hi => by
   have h1 := h.2 i hi
   unfold wpOp at h1
   unfold wpOpIn
   split
   ·rename_i ho; simp only [ho] at h1; exact wpAnyIn_of_wp hnd fuel _ _ _ h1
   ·rename_i o ho
    simp only [ho] at h1
    split
    ·rename_i hw
     simp only [hw, if_true] at h1
     rcases h1 with h1 | ⟨-, h1⟩
     ·exact operWpIn_of_wp (noDefer_spec hnd ho) (fun a w hk => wpAnyIn_of_wp hnd fuel _ a w hk) h1
     ·exact (onlyQ_lets h1).elim
    ·rename_i hw
     simp only [hw] at h1
     exact ⟨fun f _ => trivial, wpAnyIn_of_wp hnd fuel _ _ _ h1⟩⟩
theorem wpIn_region_upto {l n id : Nat} {a : Act} {w : World} (last : Nat) (hm : P.follows .mixedOrders = true) (hnd : noDefer ops = true) (hS : S w.drew)
  (h : S w.drew → wpAnyU P .any ops (onlyQ Q) S last ops.size (Array.replicate ops.size false) a w.drew) : (Code.region id ops true).wpIn (Fence.wide.inRound l) n P Q a w :=
 wpIn_region_any hm (wpAnyIn_of_wp hnd _ _ _ _ (wpAny_of_upto _ _ _ _ (h hS)))
end
end Go.Proofs.YtehhlgdkhecacaaGreat

namespace Go.Proofs.YtehhlgdkhecacaaGreat
open Go.RowKit Go.Shelf
attribute [local go_sem] Oper.semAt_some
theorem mem_srt {l : List Int} {x : Int} : x ∈ srt l ↔ x ∈ l := (List.mergeSort_perm l _).mem_iff
theorem toArray_get {l : List Int} {i : Nat} (hi : i < l.length) : l.toArray[i]! = l[i] := by
 rw [getElem!_pos l.toArray i (by simpa using hi)]
 simp
theorem mem_compactUp {l : List Int} {x : Int} : ∀ m, m ≤ l.length → x ∈ l.take m → x ∈ Lib.compactUpTo l.toArray m
 | 0, _, h => by rw [List.take_zero] at h; cases h
 | m + 1, hm, h => by
  rw [Lib.compactUpTo_succ]
  rw [List.take_succ_eq_append_getElem (show m < l.length by omega), List.mem_append] at h
  rcases h with h | h
  ·exact List.mem_append_left _ (mem_compactUp m (by omega) h)
  ·rw [List.mem_singleton] at h
   cases hk : Lib.keeps l.toArray m with
   | true =>
    rw [if_pos rfl, toArray_get (show m < l.length by omega), ← h]
    exact List.mem_append_right _ (List.mem_singleton.2 rfl)
   | false =>
    have hk' : ¬ (m = 0 ∨ l.toArray[m]! ≠ l.toArray[m - 1]!) := by
     unfold Lib.keeps at hk
     exact of_decide_eq_false hk
    have hm0 : m ≠ 0 := fun e => hk' (.inl e)
    have he : l.toArray[m]! = l.toArray[m - 1]! := Classical.not_not.1 fun e => hk' (.inr e)
    rw [toArray_get (show m < l.length by omega), toArray_get (show m - 1 < l.length by omega)] at he
    refine List.mem_append_left _ (mem_compactUp m (by omega) ?_)
    rw [h, he]
    rw [List.mem_take_iff_getElem]
    exact ⟨m - 1, by omega, rfl⟩
theorem mem_compact {l : List Int} {x : Int} : x ∈ Lib.compact l ↔ x ∈ l :=
 ⟨fun h => (compact_sub l).subset h, fun h => mem_compactUp l.length (Nat.le_refl _) (by rw [List.take_of_length_le (Nat.le_refl _)]; exact h)⟩
theorem setL_compact (l : List Int) : Lib.compact (srt l) = setL l := setL_eq (compact_up (srt_up l)) fun x => by rw [mem_compact, mem_srt]
theorem ro_grown {F : Nat → Prop} {A B : World} {row : Option Nat} (h : A.grownBy B row) (hr : ∀ r, row = some r → F r) : Ro F F A B :=
 ⟨h.os, h.tape, h.output, h.size, fun k hk hf => h.block k hk (fun e => hf (hr k e.symm)), fun _ h => .inl h⟩
/-- Sorting turns the slice's own block alone. -/
theorem sortG_any (base : Nat) (v : Value) (l : List Int) (w : World) (h : OwnL icells 1 3 w base v l) (hl : l.length ≤ 1000000) :
  Calls Tryz.prog 103 #[v] w fun e w' => e = .returned (.tuple #[]) ∧ OwnL icells 1 3 w' base v (srt l) ∧ w.grownBy w' v.ownBlock := by
 have h : w.ownsRow base 3 1 v l.length (l.map (Value.int .i64)) := by
  unfold OwnL at h
  rwa [flat_icells] at h
 by_cases hv : v = .slice none 0 0
 ·subst hv
  have e : l = [] := by
   obtain ⟨h1, h2 | ⟨g, cap, cur, h3, -⟩⟩ := h
   ·exact List.eq_nil_of_length_eq_zero h2.2
   ·cases h3
  subst e
  refine (Any.slices_Sort_int_none laysSort none 0 w).mono ?_
  rintro e w' ⟨rfl, rfl⟩
  exact ⟨rfl, (show OwnL icells 1 3 _ base _ (srt []) by rw [show srt [] = [] by simp [srt]]; exact OwnL.nil _ _), ⟨rfl, rfl, rfl, Nat.le_refl _, fun _ _ _ => rfl⟩⟩
 ·obtain ⟨g, cap, rfl, hbg, hgl, hncap, hcm, hlen, hH⟩ := Lib.holds_of_ownsRow h hv
  refine (Any.slices_Sort_int laysSort g 0 cap l w hH hgl (by omega)).mono ?_
  rintro e w' ⟨rfl, n, os, rfl⟩
  have hl2 : (srt l).length = l.length := List.length_mergeSort l
  rcases h.2 with ⟨h0, _⟩ | ⟨g', cap', cur, hv', hbase, hcur, h1, h2, h3, h4⟩
  ·cases h0
  ·cases hv'
   refine ⟨rfl, ?_, grownBy_sortedI _⟩
   have := ownsRow_sortedI (n := n) (os := os) (ts := srt l) hl2 hbase hcur h1 h2 h3
   unfold OwnL
   rw [hl2, flat_icells]
   exact this
/-- An element pushed onto the list in a box. -/
theorem push_own {F : Nat → Prop} {X V w2 : World} {bo B : Nat} {v v' : Value} {xs : List Int} {y : Int} (hF : F bo) (hb : Blk X bo 25 #[v]) (ho : OwnL icells 1 3 X B v xs) (hf : ∀ k, v.ownBlock = some k → F k) (gV : Below X.heap.size X V)
  (h2 : OwnL icells 1 3 w2 B v' (xs ++ [y])) (hg : (V.alloc (.cells #[.int .i64 y] 3)).grownBy w2 v.ownBlock) (hz : v'.ownBlock = v.ownBlock ∨ v'.ownBlock = some (V.alloc (.cells #[.int .i64 y] 3)).heap.size) :
  Ro F (fun k => F k ∨ v'.ownBlock = some k) X (w2.setCell ⟨bo, 0, none⟩ v') ∧ Blk (w2.setCell ⟨bo, 0, none⟩ v') bo 25 #[v'] ∧ OwnL icells 1 3 (w2.setCell ⟨bo, 0, none⟩ v') B v' (xs ++ [y]) ∧ ∀ W0 : World, W0.heap.size ≤ bo → W0.heap.size ≤ B → Below W0.heap.size W0 X → Below W0.heap.size W0 (w2.setCell ⟨bo, 0, none⟩ v') := by
 have gA : Below X.heap.size X (V.alloc (.cells #[.int .i64 y] 3)) := gV.trans ((one_more V _).mono gV.size)
 have hne : ∀ k, v.ownBlock = some k → k ≠ bo := fun k hk e => by
  obtain ⟨-, cur, hc⟩ := own_block ho hk
  rw [e] at hc
  exact absurd (blk_type hc hb) (by decide)
 have b2 : Blk w2 bo 25 #[v] := (hg.block bo (hb.ext gA).lt (fun e => hne bo e.symm rfl)).trans (hb.ext gA)
 have hne2 : ∀ k, v'.ownBlock = some k → k ≠ bo := fun k hk e => by
  obtain ⟨-, cur, hc⟩ := own_block h2 hk
  rw [e] at hc
  exact absurd (blk_type hc b2) (by decide)
 have r0 : Ro F F X (w2.setCell ⟨bo, 0, none⟩ v') := ((Ro.of_below gA).trans (ro_grown hg (fun r hr => hf r hr))).trans (Ro.setCell (p := ⟨bo, 0, none⟩) hF v')
 refine ⟨⟨r0.os, r0.tape, r0.output, r0.size, r0.keep, fun k hk => ?_⟩, ?_, own_far h2 (fun k hk => hne2 k hk) _, fun W0 h0 h1 h3 => ?_⟩
 ·rcases hk with hk | hk
  ·exact .inl hk
  ·rcases hz with e | e
   ·exact .inl (hf k (by rw [← e]; exact hk))
   ·rw [e] at hk
    cases hk
    obtain ⟨-, cur, hc⟩ := own_block h2 e
    have h4 := hc.lt
    have h5 := gA.size
    right
    simp [World.setCell]
    simp at h4 h5
    omega
 ·have := b2.set_ 0 v'
  exact this
 ·exact ((h3.trans (gA.mono h3.size)).grown hg (Nat.le_trans h3.size gA.size) (fun k hk => by have := (own_block ho hk).1; omega)).setCell (p := ⟨bo, 0, none⟩) h0 v'
/-- Proofs that hold, with all that a walk asks of them. -/
structure Cn (w : World) (A : Option Addr) (n : Nat) (l : List Pf) : Prop where
 prf : Prf w A n l
 n : n ≤ 60
 q : ∀ p ∈ l, isQf p.q = true
 src : ((l.map Pf.q).map Qf.src).Nodup
 many : (reads (l.map Pf.q)).length ≤ 2000
theorem Cn.below {w w' : World} {A : Option Addr} {n : Nat} {l : List Pf} (h : Cn w A n l) (g : Below w.heap.size w w') : Cn w' A n l := ⟨h.prf.below g, h.n, h.q, h.src, h.many⟩
set_option maxRecDepth 100000 in
set_option maxHeartbeats 8000000 in
theorem where_any (A : Option Addr) (n c : Nat) (l : List Pf) (person day : Int) (w : World) (h : Cn w A n l) (hp : In64 person) (hd : In64 day) :
  Calls Tryz.prog 91 #[.slice A n c, .int .i64 person, .int .i64 day] w fun e w' => (∃ v, e = .returned v ∧ OwnL icells 1 3 w' w.heap.size v (wherS (l.map Pf.q) person day)) ∧ Below w.heap.size w w' := by
 have HC := Lib.hid h
 have HP := Lib.hid (And.intro hp hd)
 have HWS := Lib.hid (show setL ((reads (l.map Pf.q)).map fun r => setS (l.map Pf.q) r person day) = wherS (l.map Pf.q) person day from rfl)
 obtain ⟨ws, hws⟩ : ∃ s, wherS (l.map Pf.q) person day = s := ⟨_, rfl⟩
 rw [hws] at HWS ⊢
 obtain ⟨W1, hW1⟩ : ∃ X, ((w.alloc (.cells #[.slice A n c] 22)).alloc (.cells #[.int .i64 person] 3)).alloc (.cells #[.int .i64 day] 3) = X := ⟨_, rfl⟩
 have g1 : Below w.heap.size w W1 := by rw [← hW1]; exact three_more _ _ _ _
 have b1 : Blk W1 w.heap.size 22 #[.slice A n c] := by rw [← hW1]; exact ((Blk.new _ _ _).alloc _).alloc _
 have b2 : Blk W1 (w.heap.size + 1) 3 #[.int .i64 person] := by rw [← hW1]; exact (blk_second2 _ _ _ _).alloc _
 have b3 : Blk W1 (w.heap.size + 1 + 1) 3 #[.int .i64 day] := by
  rw [← hW1]; have := Blk.new ((w.alloc (.cells #[.slice A n c] 22)).alloc (.cells #[.int .i64 person] 3)) 3 #[.int .i64 day]; rw [World.size_alloc, World.size_alloc] at this; exact this
 have s1 : W1.heap.size = w.heap.size + 3 := by rw [← hW1]; simp
 obtain ⟨W2, hW2⟩ : ∃ X, W1.alloc (.cells #[.slice none 0 0] 25) = X := ⟨_, rfl⟩
 have g2 : Below W1.heap.size W1 W2 := by rw [← hW2]; exact one_more _ _
 have bo : Blk W2 W1.heap.size 25 #[.slice none 0 0] := by rw [← hW2]; exact Blk.new _ _ _
 have s2 : W2.heap.size = w.heap.size + 4 := by rw [← hW2]; simp [s1]
 obtain ⟨W3, hW3⟩ : ∃ X, W2.alloc (.cells #[.slice A n c] 22) = X := ⟨_, rfl⟩
 have g3 : Below W2.heap.size W2 W3 := by rw [← hW3]; exact one_more _ _
 have bq : Blk W3 W2.heap.size 22 #[.slice A n c] := by rw [← hW3]; exact Blk.new _ _ _
 have s3 : W3.heap.size = w.heap.size + 5 := by rw [← hW3]; simp [s2]
 have HSQ := Lib.hid (readings_seq W1 A n c l (h.prf.below g1) (by have := h.n; omega) W2.heap.size W3 (extTrans g2 g3) bq)
 have G1 := Lib.hid g1
 have G2 := Lib.hid g2
 have G3 := Lib.hid g3
 have G13 := Lib.hid (extTrans g2 g3)
 have B1 := Lib.hid b1
 have B2 := Lib.hid b2
 have B3 := Lib.hid b3
 have BO := Lib.hid bo
 have BO3 := Lib.hid (bo.ext g3)
 have HW1 := Lib.hid hW1
 have HW2 := Lib.hid hW2
 have HW3 := Lib.hid hW3
 have S1 := Lib.hid s1
 have S2 := Lib.hid s2
 have S3' := Lib.hid s3
 have d0 := (b1.ext g2).cell 0
 clear h hp hd hws hW1 hW2 hW3 g1 g2 g3 b1 b2 b3 bo bq s1 s2 s3
 refine (callsIn_wide (n := 4)).1 (callsIn_of_wp_marks Tryz.func91 rfl trivial ?_ rfl)
 simp only [Tryz.ntmps91, List.size_toArray, List.length_cons, List.length_nil, Nat.reduceAdd, Nat.reduceSub, Array.replicate_succ, Array.replicate_zero, List.push_toArray, List.append_toArray, List.nil_append, List.cons_append]
 gi_wp2_with fail
 rw [HW1.out]
 gi_wp2_with fail
 refine ⟨trivial, (callsIn_wide.2 (readings_any _ _ _ _)).mono ?_⟩
 rintro e w' ⟨rfl, hw'⟩
 rw [HW2.out, HW3.out] at hw'
 subst hw'
 rw [HW2.out]
 gi_wp2_with fail
 refine wp_rangeW (α := Rd) (n := 4) (by omega) (gf := 136) (lb := #[ptr W2.heap.size]) rfl (enters_of Tryz.func136 (by kernel_rfl) rfl) HSQ.out (Below.refl _ _) (fun _ => rfl)
  (fun F pre W => F (w.heap.size + 1 + 1 + 1) ∧ (∃ v, Blk W (w.heap.size + 1 + 1 + 1) 25 #[v] ∧ OwnL icells 1 3 W (w.heap.size + 1 + 1 + 1 + 1) v (pre.map fun x => setS (l.map Pf.q) x.r person day) ∧ ∀ k, v.ownBlock = some k → F k) ∧ Below W1.heap.size W1 W) (fun cd F pre W => False) ?hI ?hIx
  (fun pre x l o A hl h hr => gwR_put o h hr) (fun k hk => by have := S3'.out; have := S1.out; have := S2.out; omega) (fun k => k = w.heap.size + 1 + 1 + 1) (fun k hk => by have := S3'.out; have := S1.out; have := S2.out; omega) ⟨rfl, ⟨_, by have := BO3.out; rw [S1.out] at this; exact this, OwnL.nil _ _, fun k hk => (by cases hk)⟩, G13.out⟩
  (fun x a' => a' = { tmps := #[.slice A n c, .int .i64 person, .int .i64 day, ptr w.heap.size, ptr (w.heap.size + 1), ptr (w.heap.size + 1 + 1), .slice none 0 0, ptr (w.heap.size + 1 + 1 + 1), .slice x.A x.n x.c, .slice A n c, .func (.func 136) #[] #[ptr W2.heap.size], .slice x.A x.n x.c, undef, undef, undef, undef, undef, undef, undef, undef, undef, undef, undef, undef], defers := [] }) ?assign ?body ?done ?stop
 case hI =>
  rintro F s X Y ⟨h1, ⟨v, h2, h3, h4⟩, h5⟩ hi
  exact ⟨h1, ⟨v, hi.blk h2 (.inr h1), own_it h3 hi h4, h4⟩, hi.below h5 (by have := S3'.out; have := S1.out; omega) (Nat.le_refl _)⟩
 case hIx => exact fun cd F s X Y h _ => h
 case assign =>
  rintro l x X K hK
  unfold encR
  gi_wp2
  simp
 case body =>
  rintro lr F pre x a' X hl - ⟨h1, ⟨v, h2, h3, h4⟩, h5⟩ ⟨hgi, hgn, -, post, hpo⟩ rfl
  have hxr : isRd (l.map Pf.q) x.r = true := mem_reads.1 (by rw [← hpo]; simp)
  have hxn : x.n = n := by
   have e1 := (isRd_zip.1 hxr).1
   rw [List.length_map, HC.out.prf.len] at e1
   rw [← e1, hgi.1]
  have hlen : pre.length + 1 ≤ 2000 := by
   have := congrArg List.length hpo
   rw [List.length_append, List.length_map, List.length_cons] at this
   have := HC.out.many
   omega
  have TS := Lib.hid (settledBy_any A n c x.A x.c l x.r person day X.drew ⟨(HC.out.prf.below G1.out).below (h5.drew), by rw [← hxn]; exact hgi, by have := HC.out.n; omega, HC.out.q, HC.out.src⟩ HP.out.1 HP.out.2)
  obtain ⟨sv, hsv⟩ : ∃ s, setS (l.map Pf.q) x.r person day = s := ⟨_, rfl⟩
  rw [hsv] at TS
  obtain ⟨xs, hxs⟩ : ∃ s, pre.map (fun x => setS (l.map Pf.q) x.r person day) = s := ⟨_, rfl⟩
  have HXS := Lib.hid (show (pre ++ [x]).map (fun x => setS (l.map Pf.q) x.r person day) = xs ++ [sv] by rw [List.map_append, hxs, ← hsv]; rfl)
  have HXL := Lib.hid (show xs.length + 1 ≤ 1000000 by rw [← hxs, List.length_map]; omega)
  rw [hxs] at h3
  have hbx : w.heap.size + 1 + 1 + 1 < X.heap.size := h2.lt
  have HBX := Lib.hid hbx
  have HF := Lib.hid h1
  have HB2 := Lib.hid h2
  have HO3 := Lib.hid h3
  have HF4 := Lib.hid h4
  have HG5 := Lib.hid h5
  have u0 := h2.cell 0
  have u1 := (B1.out.ext h5).cell 0
  have u2 := (B2.out.ext h5).cell 0
  have u3 := (B3.out.ext h5).cell 0
  rw [hxn]
  clear h1 h2 h3 h4 h5 hgi hgn hpo hxr hlen hsv hxs hbx hxn
  gi_wp2_with fail
  refine wpIn_region_upto (S := fun W => W.cell? ⟨w.heap.size + 1 + 1 + 1, 0, none⟩ = some v ∧ W.cell? ⟨w.heap.size, 0, none⟩ = some (.slice A n c) ∧ W.cell? ⟨w.heap.size + 1, 0, none⟩ = some (.int .i64 person) ∧ W.cell? ⟨w.heap.size + 1 + 1, 0, none⟩ = some (.int .i64 day)) 7 (by kernel_rfl) (by kernel_rfl) (⟨u0, u1, u2, u3⟩) (fun hHeld => ?_)
  (refine upto_take [7] (i := 0) (oi := ⟨_, _, _, _, _, _⟩) (d := some 12) (v := ?_) rfl rfl (by kernel_rfl) (by kernel_rfl) (fun _ _ _ h => h) (by rfl) ?_ (by assumption) ?_; rotate_left; (focus (intro w hSw; (try dsimp only at hSw); go_simp; try with_reducible rfl)); (try simp only [Act.put, List.setIfInBounds_toArray, List.set_cons_zero, List.set_cons_succ]))
  (refine upto_take [5, 7] (i := 1) (oi := ⟨_, _, _, _, _, _⟩) (d := some 13) (v := ?_) rfl rfl (by kernel_rfl) (by kernel_rfl) (fun _ _ _ h => h) (by rfl) ?_ (by assumption) ?_; rotate_left; (focus (intro w hSw; (try dsimp only at hSw); go_simp; try with_reducible rfl)); (try simp only [Act.put, List.setIfInBounds_toArray, List.set_cons_zero, List.set_cons_succ]))
  (refine upto_take [5, 7] (i := 2) (oi := ⟨_, _, _, _, _, _⟩) (d := some 14) (v := ?_) rfl rfl (by kernel_rfl) (by kernel_rfl) (fun _ _ _ h => h) (by rfl) ?_ (by assumption) ?_; rotate_left; (focus (intro w hSw; (try dsimp only at hSw); go_simp; try with_reducible rfl)); (try simp only [Act.put, List.setIfInBounds_toArray, List.set_cons_zero, List.set_cons_succ]))
  (refine upto_take [5, 7] (i := 3) (oi := ⟨_, _, _, _, _, _⟩) (d := some 15) (v := ?_) rfl rfl (by kernel_rfl) (by kernel_rfl) (fun _ _ _ h => h) (by rfl) ?_ (by assumption) ?_; rotate_left; (focus (intro w hSw; (try dsimp only at hSw); go_simp; try with_reducible rfl)); (try simp only [Act.put, List.setIfInBounds_toArray, List.set_cons_zero, List.set_cons_succ]))
  (refine upto_take [5, 7] (i := 4) (oi := ⟨_, _, _, _, _, _⟩) (d := some 16) (v := ?_) rfl rfl (by kernel_rfl) (by kernel_rfl) (fun _ _ _ h => h) (by rfl) ?_ (by assumption) ?_; rotate_left; (focus (intro w hSw; (try dsimp only at hSw); go_simp; try with_reducible rfl)); (try simp only [Act.put, List.setIfInBounds_toArray, List.set_cons_zero, List.set_cons_succ]))
  refine upto_one 5 (o := ⟨_, _, _, _, _, _⟩) rfl (by kernel_rfl) (by decide) (fun K hK => ?_)
  (go_simp; go_at_call 89; (with_reducible refine (TS.out).mono ?_); rintro e V ⟨rfl, hg⟩; have HGV := Lib.hid (show Below X.heap.size X V from (Below.refl _ X).drew.trans hg); clear hg)
  refine hK.out _ _ ?_ (fun hHeld => ?_)
  ·exact ⟨(HB2.out.ext HGV.out).cell 0, ((B1.out.ext HG5.out).ext HGV.out).cell 0, ((B2.out.ext HG5.out).ext HGV.out).cell 0, ((B3.out.ext HG5.out).ext HGV.out).cell 0⟩
  clear hK K
  (try simp only [Act.put, List.setIfInBounds_toArray, List.set_cons_zero, List.set_cons_succ])
  refine upto_one 6 (o := ⟨_, _, _, _, _, _⟩) rfl (by kernel_rfl) (by decide) (fun K hK => ?_)
  go_simp
  refine hK.out _ _ ?_ (fun hHeld => ?_)
  ·exact ⟨keepAlloc ((HB2.out.ext HGV.out).cell 0) _, keepAlloc (((B1.out.ext HG5.out).ext HGV.out).cell 0) _, keepAlloc (((B2.out.ext HG5.out).ext HGV.out).cell 0) _, keepAlloc (((B3.out.ext HG5.out).ext HGV.out).cell 0) _⟩
  clear hK K
  (try simp only [Act.put, List.setIfInBounds_toArray, List.set_cons_zero, List.set_cons_succ])
  refine upto_last (o := ⟨_, _, _, _, _, _⟩) rfl (by kernel_rfl) (fun K hK => ?_)
  (have HOX := Lib.hid ((HO3.out.ext HGV.out).ext (one_more V (.cells #[.int .i64 sv] 3))); have HI1 := Lib.hid (one_int (Blk.new V 3 #[.int .i64 sv])); have HBB := Lib.hid (show w.heap.size + 1 + 1 + 1 + 1 ≤ (V.alloc (.cells #[.int .i64 sv] 3)).heap.size by have h1 := HBX.out; have h2 := HGV.out.size; simp; omega); go_loud (refine step_app kdI (by rfl) _ _ (by rfl) (w.heap.size + 1 + 1 + 1 + 1) v xs (by rfl) HOX.out _ 1 1 [sv] (by rfl) HI1.out HXL.out HBB.out ?_); intro v' w2 ho2 hg2 hz2; obtain ⟨Av2, cv2, hve, -⟩ := OwnL.arr kdI ho2; obtain ⟨nv2, hnv⟩ : ∃ q, (xs ++ [sv]).length = q := ⟨_, rfl⟩; rw [hnv] at hve; subst hve; clear hnv; have HPU := Lib.hid (push_own HF.out HB2.out HO3.out HF4.out HGV.out ho2 hg2 hz2); have B9 : Blk w2 (w.heap.size + 1 + 1 + 1) 25 #[v] := (hg2.block (w.heap.size + 1 + 1 + 1) (by have h1 := HBX.out; have h2 := HGV.out.size; simp; omega) (fun e => by obtain ⟨-, cur, hc⟩ := own_block HO3.out e.symm; exact absurd (blk_type hc HB2.out) (by decide))).trans ((HB2.out.ext HGV.out).alloc (.cells #[.int .i64 sv] 3)); have m0 := B9.cell 0; have m1 := B9.frozen 0; clear B9 ho2 hg2 hz2)
  refine hK.out _ _ ?_
  clear hK K
  (try simp only [Act.put, List.setIfInBounds_toArray, List.set_cons_zero, List.set_cons_succ])
  refine any_one 8 (o := ⟨_, _, _, _, _, _⟩) rfl (by kernel_rfl) (fun K hK => ?_)
  go_simp
  refine hK.out _ _ ?_
  clear hK K
  (try simp only [Act.put, List.setIfInBounds_toArray, List.set_cons_zero, List.set_cons_succ])
  refine any_done (by kernel_rfl) ?_
  obtain ⟨r1, r2, r3, r4⟩ := HPU.out
  rw [← HXS.out] at r3
  exact ⟨_, r1, .inl HF.out, ⟨_, r2, r3, fun k hk => .inr hk⟩, r4 W1 (by have := S1.out; omega) (by have := S1.out; omega) HG5.out⟩
 case done =>
  rintro E F xs X hD hS ⟨h1, ⟨v, h2, h3, h4⟩, h5⟩ hK
  have hxl : xs.length ≤ 2000 := by
   have := congrArg List.length hS
   rw [List.length_map] at this
   have := HC.out.many
   omega
  have hll : xs.map (fun x => setS (l.map Pf.q) x.r person day) = (reads (l.map Pf.q)).map fun r => setS (l.map Pf.q) r person day := by rw [← hS, List.map_map]; rfl
  rw [hll] at h3
  obtain ⟨ll, hll2⟩ : ∃ s, ((reads (l.map Pf.q)).map fun r => setS (l.map Pf.q) r person day) = s := ⟨_, rfl⟩
  have HLL := Lib.hid (show ll.length ≤ 1000000 by rw [← hll2, ← hll, List.length_map]; omega)
  have HW4 := Lib.hid (show Lib.compact (srt ll) = ws by rw [setL_compact, ← hll2]; exact HWS.out)
  rw [hll2] at h3
  have hown : ∀ k, v.ownBlock = some k → k ≠ E ∧ k ≠ w.heap.size + 1 + 1 + 1 := fun k hk => by
   obtain ⟨h6, cur, hb⟩ := own_block h3 hk
   refine ⟨fun e => ?_, by omega⟩
   rw [e] at hb
   have := (show X.heap[E]? = _ from hb).symm.trans hK
   cases this
  have TS := Lib.hid (sortG_any _ v ll X h3 HLL.out)
  have HOW := Lib.hid hown
  have HB2 := Lib.hid h2
  have HG5 := Lib.hid h5
  have HK := Lib.hid hK
  have HO3 := Lib.hid h3
  have c0 := h2.cell 0
  clear h1 h2 h3 h4 h5 hK hS hxl hll hll2 hown
  gi_wp2_with fail
  refine ⟨trivial, (callsIn_wide.2 TS.out).mono ?_⟩
  rintro e V5 ⟨rfl, ho5, hg5⟩
  have HO5 := Lib.hid ho5
  have hlt := HB2.out.lt
  have HB5 := Lib.hid (show Blk V5 (w.heap.size + 1 + 1 + 1) 25 #[v] from (hg5.block (w.heap.size + 1 + 1 + 1) hlt (fun e => (HOW.out _ e.symm).2 rfl)).trans HB2.out)
  have HK5 := Lib.hid (show V5.heap[E]? = some (.deferred (some [])) from (hg5.block E (Array.getElem?_eq_some_iff.1 HK.out).1 (fun e => (HOW.out _ e.symm).1 rfl)).trans HK.out)
  have HG6 := Lib.hid (show Below W1.heap.size W1 V5 from HG5.out.grown hg5 HG5.out.size (fun k hk => by have h6 := (own_block HO3.out hk).1; have h7 := S1.out; omega))
  have TC := Lib.hid (compact_any _ v (srt ll) V5 ho5 (by have := HLL.out; unfold srt; rw [List.length_mergeSort]; exact this) (by have := HB5.out.lt; omega))
  have c1 := HB5.out.cell 0
  clear ho5 hg5 c0
  gi_wp2_with fail
  refine ⟨trivial, (callsIn_wide.2 TC.out).mono ?_⟩
  rintro e V6 ⟨⟨v6, rfl, ho6, he6⟩, hg6⟩
  rw [HW4.out] at ho6
  have HK6 := Lib.hid (show V6.heap[E]? = some (.deferred (some [])) from (hg6.block E (Array.getElem?_eq_some_iff.1 HK5.out).1 (fun e => (HOW.out _ e.symm).1 rfl)).trans HK5.out)
  have HG7 := Lib.hid (show Below W1.heap.size W1 V6 from HG6.out.grown hg6 HG6.out.size (fun k hk => by have h6 := (own_block HO3.out hk).1; have h7 := S1.out; omega))
  have HO6 := Lib.hid (own_put ho6 (D := E) (fun k hk => (HOW.out k (by rw [← he6]; exact hk)).1) (.deferred none))
  have HG8 := Lib.hid (G1.out.trans ((put_below HG7.out (D := E) (by have := S3'.out; have := S1.out; omega) (.deferred none)).mono G1.out.size))
  clear ho6 he6 hg6 c1
  gi_wp2_with fail
  refine ⟨by simp, .inl ⟨_, _, rfl, run_takeDeferred HK6.out, ?_⟩⟩
  refine ⟨v6, ?_, ⟨v6, rfl, HO6.out.mono (by omega)⟩, HG8.out⟩
  simp [results, Tryz.results91, go_sem]
 case stop => exact fun E F cd pre X _ _ h _ => h.elim
end Go.Proofs.YtehhlgdkhecacaaGreat

namespace Go.Proofs.YtehhlgdkhecacaaGreat
open Go.RowKit Go.Shelf
theorem cn_of {l : List Pf} (h : okL (l.map Pf.q) = true) {known : Int} {w : World} {A : Option Addr} {n : Nat} (hp : Prf w A n (l.filter fun p => cnt p.q known)) (hn : n ≤ 60) : Cn w A n (l.filter fun p => cnt p.q known) := by
 have h1 := rdg_of h hp (r := []) (B := none) (n := n) (w := w)
 refine ⟨hp, hn, fun p hp => okL_all h _ (List.mem_map.2 ⟨p, (List.mem_filter.1 hp).1, rfl⟩), ?_, ?_⟩
 ·have h1 : ((l.map Pf.q).map Qf.src).Nodup := ((okL_src h).imp fun hlt => by omega)
  rw [List.map_map] at h1 ⊢
  exact (List.filter_sublist.map _).nodup h1
 ·rw [show (l.filter fun p => cnt p.q known).map Pf.q = cntL (l.map Pf.q) known from filt_map l (fun q => cnt q known)]
  exact reads_len h known
theorem in64_person {n : Int} (h : rng n 1 999 = true) : In64 n := in64_of (by simp only [rng, Bool.and_eq_true, decide_eq_true_eq] at h; omega)
theorem in64_day {n : Int} (h : rng n 0 4166 = true) : In64 n := in64_of (by simp only [rng, Bool.and_eq_true, decide_eq_true_eq] at h; omega)
theorem readE_ask {l : List Qf} {person parish : Int} {days : List Int} {known : Int} (h : readE l person parish days known = 0) : askE l person parish days = 0 := by
 unfold readE at h
 by_cases h1 : askE l person parish days = 0
 ·exact h1
 ·rw [if_neg h1] at h; exact h
/-- A list and an error. -/
def ListEnd (l : List Int) (E : Int) (w : World) (e : Ending) (w' : World) : Prop :=
 ∃ A n k, e = .returned (.tuple #[.slice A n k, .int .i64 E]) ∧ Ints w' A n (if E = 0 then l else []) ∧ n ≤ k ∧ k ≤ maxLen ∧ Below w.heap.size w w'
theorem listEnd_no {l : List Int} {E : Int} {w V : World} (h : E ≠ 0) (hg : Below w.heap.size w V) : ListEnd l E w (.returned (.tuple #[.slice none 0 0, .int .i64 E])) V :=
 ⟨none, 0, 0, rfl, by rw [if_neg h]; exact Arr.nil_, Nat.le_refl _, Nat.zero_le _, hg⟩
theorem listEnd_ok {l : List Int} {w V : World} {v : Value} {base : Nat} (h : OwnL icells 1 3 V base v l) (hg : Below w.heap.size w V) : ListEnd l 0 w (.returned (.tuple #[v, .int .i64 0])) V := by
 obtain ⟨A, c', rfl, h1, h2, ha, -⟩ := OwnL.arr kdI h
 exact ⟨A, _, c', rfl, by rw [if_pos rfl]; exact ha, h1, h2, hg⟩
set_option maxRecDepth 100000 in
set_option maxHeartbeats 8000000 in
theorem whereF_any (A : Option Addr) (n c : Nat) (l : List Pf) (person day known : Int) (w : World) (ha : Prf w A n l) (hn : n ≤ 9223372036854775807) :
  Calls Tryz.prog 26 #[.slice A n c, .int .i64 person, .int .i64 day, .int .i64 known] w (ListEnd (wherS (cntL (l.map Pf.q) known) person day) (readE (l.map Pf.q) person 0 [day, known] known) w) := by
 obtain ⟨W1, hW1⟩ : ∃ X, w.alloc (.cells #[.int .i64 day, .int .i64 known] 3) = X := ⟨_, rfl⟩
 have g1 : Below w.heap.size w W1 := by rw [← hW1]; exact one_more _ _
 have b1 : Blk W1 w.heap.size 3 #[.int .i64 day, .int .i64 known] := by rw [← hW1]; exact Blk.new _ _ _
 have T := askRead_any person 0 (some ⟨w.heap.size, 0, none⟩) 2 2 [day, known] known A n c l W1 (ha.below g1) hn (two_ints b1) (by decide) (by decide) rfl
 have HFM := Lib.hid (show (l.filter fun p => cnt p.q known).map Pf.q = cntL (l.map Pf.q) known from filt_map l (fun q => cnt q known))
 have HOK := Lib.hid (fun (h : readE (l.map Pf.q) person 0 [day, known] known = 0) => (askE_ok (readE_ask h)))
 obtain ⟨re, hre⟩ : ∃ s, readE (l.map Pf.q) person 0 [day, known] known = s := ⟨_, rfl⟩
 rw [hre] at HOK T ⊢
 obtain ⟨ws, hws⟩ : ∃ s, wherS (cntL (l.map Pf.q) known) person day = s := ⟨_, rfl⟩
 rw [hws]
 have HWS := Lib.hid hws
 have G1 := Lib.hid g1
 have HW1 := Lib.hid hW1
 have HT := Lib.hid T
 clear ha hre hws g1 b1 hW1 T
 by_cases hz : re = 0
 ·subst hz
  go_enter Tryz.func26, Tryz.ntmps26
  go_upto_region 2 with (go_at_call 66; rw [HW1.out]; (with_reducible refine (HT.out).mono ?_); rintro e V ⟨A2, n2, c2, rfl, ho, -, hg⟩; have HO := Lib.hid (ho rfl); have GV := Lib.hid (G1.out.trans (hg.mono G1.out.size)); clear ho hg)
  obtain ⟨hok, hper, -, hdays⟩ := HOK.out (by trivial)
  have TW := where_any A2 n2 c2 _ person day V (cn_of hok HO.out.1 HO.out.2.1) (in64_person hper) (in64_day (hdays day (by simp)))
  rw [HFM.out, HWS.out] at TW
  have HTW := Lib.hid TW
  clear TW hok hper hdays
  go_wp2_with (go_at_call 91; (with_reducible refine (HTW.out).mono ?_); rintro e V2 ⟨⟨v, rfl, ho⟩, hg⟩; have HO2 := Lib.hid ho; have GV2 := Lib.hid (GV.out.trans (hg.mono GV.out.size)); clear ho hg)
  go_ret2
  exact listEnd_ok HO2.out GV2.out
 ·have hzb : (re != 0) = true := by simpa using hz
  have HZ := Lib.hid hz
  clear hz
  go_enter Tryz.func26, Tryz.ntmps26
  go_wp2_with (go_at_call 66; rw [HW1.out]; (with_reducible refine (HT.out).mono ?_); rintro e V ⟨A2, n2, c2, rfl, -, ho, hg⟩; obtain ⟨rfl, rfl, rfl⟩ := ho HZ.out; have GV := Lib.hid (G1.out.trans (hg.mono G1.out.size)); clear ho hg)
  go_ret2
  exact listEnd_no HZ.out GV.out
set_option maxRecDepth 100000 in
set_option maxHeartbeats 8000000 in
theorem right_any (A : Option Addr) (n c : Nat) (l : List Pf) (person parish day : Int) (w : World) (h : Cn w A n l) (hp : In64 person) (hd : In64 day) :
  Calls Tryz.prog 67 #[.slice A n c, .int .i64 person, .int .i64 parish, .int .i64 day] w fun e w' => e = .returned (.int .i64 (righN (wherS (l.map Pf.q) person day) parish)) ∧ Below w.heap.size w w' := by
 have HT := Lib.hid (where_any A n c l person day w h hp hd)
 have HLN := Lib.hid (show (wherS (l.map Pf.q) person day).length ≤ 2000 by
  have h1 : (wherS (l.map Pf.q) person day).length ≤ ((reads (l.map Pf.q)).map fun r => setS (l.map Pf.q) r person day).length := by
   rw [show wherS (l.map Pf.q) person day = setL ((reads (l.map Pf.q)).map fun r => setS (l.map Pf.q) r person day) from rfl, ← setL_compact]
   have h2 := (compact_sub (srt ((reads (l.map Pf.q)).map fun r => setS (l.map Pf.q) r person day))).length_le
   unfold srt at h2 ⊢
   rwa [List.length_mergeSort] at h2
  rw [List.length_map] at h1
  have := h.many
  omega)
 obtain ⟨ws, hws⟩ : ∃ s, wherS (l.map Pf.q) person day = s := ⟨_, rfl⟩
 rw [hws] at HT HLN ⊢
 have HRN := Lib.hid (show righN ws parish = if parish ∈ ws then (if ws.length = 1 then 1 else 2) else 0 from rfl)
 obtain ⟨rn, hrn⟩ : ∃ s, righN ws parish = s := ⟨_, rfl⟩
 rw [hrn] at HRN ⊢
 clear h hp hd hws hrn
 go_enter Tryz.func67, Tryz.ntmps67
 go_upto_region 2 with (go_at_call 91; (with_reducible refine (HT.out).mono ?_); rintro e V ⟨⟨v, rfl, ho⟩, hg⟩; obtain ⟨A2, c2, rfl, -, -, ha, -⟩ := OwnL.arr kdI ho; have HA := Lib.hid ha; have GV := Lib.hid hg; clear ho hg ha)
 obtain ⟨m, hm⟩ : ∃ m, ws.length = m := ⟨_, rfl⟩
 rw [hm] at HA HLN HRN ⊢
 have TH := Lib.hid (fun W (g : Below V.heap.size V W) => has_any A2 m c2 ws parish W (HA.out.below g) (by have := HLN.out; omega))
 by_cases h1 : parish ∈ ws
 ·have hh : hasI ws parish = true := hasI_true h1
  rw [hh] at TH
  by_cases h2 : m = 1
  ·have e : rn = 1 := by rw [HRN.out, if_pos h1, if_pos h2]
   subst e
   subst h2
   clear h1 hh
   go_wp2_with (go_at_call 121; (with_reducible refine (TH.out _ (Below.refl _ _)).mono ?_); rintro e w' ⟨rfl, rfl⟩)
   go_ret
   exact ⟨rfl, GV.out⟩
  ·have e : rn = 2 := by rw [HRN.out, if_pos h1, if_neg h2]
   subst e
   have h2b : ((m : Int) == 1) = false := beq_eq_false_iff_ne.2 (by omega)
   clear h1 hh h2
   go_wp2_with (go_at_call 121; (with_reducible refine (TH.out _ (Below.refl _ _)).mono ?_); rintro e w' ⟨rfl, rfl⟩)
   go_ret
   exact ⟨rfl, GV.out⟩
 ·have hh : hasI ws parish = false := by
   refine hasI_false fun j hj e => h1 ?_
   rw [← e, List.getD_eq_getElem?_getD, List.getElem?_eq_getElem hj]
   exact List.getElem_mem _
  rw [hh] at TH
  have e : rn = 0 := by rw [HRN.out, if_neg h1]
  subst e
  clear h1 hh
  go_wp2_with (go_at_call 121; (with_reducible refine (TH.out _ (Below.refl _ _)).mono ?_); rintro e w' ⟨rfl, rfl⟩)
  go_ret
  exact ⟨rfl, GV.out⟩
def NumEnd (x E : Int) (w : World) (e : Ending) (w' : World) : Prop := e = .returned (.tuple #[.int .i64 (if E = 0 then x else 0), .int .i64 E]) ∧ Below w.heap.size w w'
theorem numEnd_no {x E : Int} {w V : World} (h : E ≠ 0) (hg : Below w.heap.size w V) : NumEnd x E w (.returned (.tuple #[.int .i64 0, .int .i64 E])) V := ⟨by rw [if_neg h], hg⟩
theorem numEnd_ok {x : Int} {w V : World} (hg : Below w.heap.size w V) : NumEnd x 0 w (.returned (.tuple #[.int .i64 x, .int .i64 0])) V := ⟨by rw [if_pos rfl], hg⟩
set_option maxRecDepth 100000 in
set_option maxHeartbeats 8000000 in
theorem rightF_any (A : Option Addr) (n c : Nat) (l : List Pf) (person parish day known : Int) (w : World) (ha : Prf w A n l) (hn : n ≤ 9223372036854775807) :
  Calls Tryz.prog 28 #[.slice A n c, .int .i64 person, .int .i64 parish, .int .i64 day, .int .i64 known] w (NumEnd (righN (wherS (cntL (l.map Pf.q) known) person day) parish) (readE (l.map Pf.q) person parish [day, known] known) w) := by
 obtain ⟨W1, hW1⟩ : ∃ X, w.alloc (.cells #[.int .i64 day, .int .i64 known] 3) = X := ⟨_, rfl⟩
 have g1 : Below w.heap.size w W1 := by rw [← hW1]; exact one_more _ _
 have b1 : Blk W1 w.heap.size 3 #[.int .i64 day, .int .i64 known] := by rw [← hW1]; exact Blk.new _ _ _
 have T := askRead_any person parish (some ⟨w.heap.size, 0, none⟩) 2 2 [day, known] known A n c l W1 (ha.below g1) hn (two_ints b1) (by decide) (by decide) rfl
 have HFM := Lib.hid (show (l.filter fun p => cnt p.q known).map Pf.q = cntL (l.map Pf.q) known from filt_map l (fun q => cnt q known))
 have HOK := Lib.hid (fun (h : readE (l.map Pf.q) person parish [day, known] known = 0) => (askE_ok (readE_ask h)))
 obtain ⟨re, hre⟩ : ∃ s, readE (l.map Pf.q) person parish [day, known] known = s := ⟨_, rfl⟩
 rw [hre] at HOK T ⊢
 obtain ⟨ws, hws⟩ : ∃ s, righN (wherS (cntL (l.map Pf.q) known) person day) parish = s := ⟨_, rfl⟩
 rw [hws]
 have HWS := Lib.hid hws
 have G1 := Lib.hid g1
 have HW1 := Lib.hid hW1
 have HT := Lib.hid T
 clear ha hre hws g1 b1 hW1 T
 by_cases hz : re = 0
 ·subst hz
  go_enter Tryz.func28, Tryz.ntmps28
  go_upto_region 2 with (go_at_call 66; rw [HW1.out]; (with_reducible refine (HT.out).mono ?_); rintro e V ⟨A2, n2, c2, rfl, ho, -, hg⟩; have HO := Lib.hid (ho rfl); have GV := Lib.hid (G1.out.trans (hg.mono G1.out.size)); clear ho hg)
  obtain ⟨hok, hper, -, hdays⟩ := HOK.out (by trivial)
  have TW := right_any A2 n2 c2 _ person parish day V (cn_of hok HO.out.1 HO.out.2.1) (in64_person hper) (in64_day (hdays day (by simp)))
  rw [HFM.out, HWS.out] at TW
  have HTW := Lib.hid TW
  clear TW hok hper hdays
  go_wp2_with (go_at_call 67; (with_reducible refine (HTW.out).mono ?_); rintro e V2 ⟨rfl, hg⟩; have GV2 := Lib.hid (GV.out.trans (hg.mono GV.out.size)); clear hg)
  go_ret2
  exact numEnd_ok GV2.out
 ·have hzb : (re != 0) = true := by simpa using hz
  have HZ := Lib.hid hz
  clear hz
  go_enter Tryz.func28, Tryz.ntmps28
  go_wp2_with (go_at_call 66; rw [HW1.out]; (with_reducible refine (HT.out).mono ?_); rintro e V ⟨A2, n2, c2, rfl, -, ho, hg⟩; obtain ⟨rfl, rfl, rfl⟩ := ho HZ.out; have GV := Lib.hid (G1.out.trans (hg.mono G1.out.size)); clear ho hg)
  go_ret2
  exact numEnd_no HZ.out GV.out
end Go.Proofs.YtehhlgdkhecacaaGreat

namespace Go.Proofs.YtehhlgdkhecacaaGreat
open Go.RowKit Go.Shelf
/-- Whom a proof names. -/
def namQ (q : Qf) : List Int := q.per ++ (if q.kind = 2 then [q.oth] else [])
def namL (c : List Qf) : List Int := c.flatMap namQ
/-- The persons whom proofs name, rising. -/
def persS (c : List Qf) : List Int := setL (namL c)
theorem namL_len : ∀ (c : List Qf), (∀ q ∈ c, q.per.length ≤ 4) → (namL c).length ≤ 5 * c.length
 | [], _ => by simp [namL]
 | q :: c, h => by
  have h1 := namL_len c (fun x hx => h x (List.mem_cons_of_mem _ hx))
  have h2 := h q (by simp)
  unfold namL at h1 ⊢
  rw [List.flatMap_cons, List.length_append, List.length_cons]
  have h3 : (namQ q).length ≤ 5 := by
   unfold namQ
   rw [List.length_append]
   split
   ·rw [List.length_singleton]; omega
   ·rw [List.length_nil]; omega
  omega
theorem namL_take {l : List Pf} {k : Nat} (hk : k < l.length) : namL ((l.take (k + 1)).map Pf.q) = namL ((l.take k).map Pf.q) ++ namQ (l.getD k p0).q := by
 rw [take_snoc (d := p0) hk, List.map_append]
 unfold namL
 rw [List.flatMap_append]
 simp
theorem isQf_per4 {q : Qf} (h : isQf q = true) : 1 ≤ q.per.length ∧ q.per.length ≤ 4 := by
 unfold isQf at h
 simp only [Bool.and_eq_true] at h
 have h1 := h.1.1.1.1.1.1.1.2
 simp only [rng, Bool.and_eq_true, decide_eq_true_eq] at h1
 omega
set_option maxRecDepth 100000 in
set_option maxHeartbeats 8000000 in
theorem persons_any (A : Option Addr) (n c : Nat) (l : List Pf) (w : World) (h : Cn w A n l) :
  Calls Tryz.prog 75 #[.slice A n c] w fun e w' => (∃ v, e = .returned v ∧ OwnL icells 1 3 w' w.heap.size v (persS (l.map Pf.q))) ∧ Below w.heap.size w w' := by
 have HA := Lib.hid h.prf
 have hlen := Lib.hid h.prf.len
 have HN := Lib.hid h.n
 have HQ := Lib.hid h.q
 have HO0 := Lib.hid (OwnL.nil (f := icells) (size := 1) (e := 3) w w.heap.size)
 have HNL := Lib.hid (show ∀ k, k ≤ n → (namL ((l.take k).map Pf.q)).length ≤ 5 * k from fun k hk => by
  have := namL_len ((l.take k).map Pf.q) (fun q hq => by
   obtain ⟨p, hp, rfl⟩ := List.mem_map.1 hq
   exact (isQf_per4 (h.q p (List.take_sublist _ _ |>.subset hp))).2)
  rw [List.length_map, List.length_take] at this
  omega)
 obtain ⟨nm, hnm⟩ : ∃ f : Nat → List Int, (fun k => namL ((l.take k).map Pf.q)) = f := ⟨_, rfl⟩
 have HNM := Lib.hid (fun (k : Nat) => (show namL ((l.take k).map Pf.q) = nm k by rw [← hnm]))
 have HPS := Lib.hid (show persS (l.map Pf.q) = setL (nm n) by rw [← hnm]; show _ = setL (namL ((l.take n).map Pf.q)); rw [List.take_of_length_le (by rw [hlen.out]; exact Nat.le_refl _)]; rfl)
 have HN0 := Lib.hid (show nm 0 = [] by rw [← hnm]; rfl)
 obtain ⟨ps, hps⟩ : ∃ s, persS (l.map Pf.q) = s := ⟨_, rfl⟩
 rw [hps] at HPS ⊢
 clear h hnm hps
 go_enter Tryz.func75, Tryz.ntmps75
 go_wp2_with fail
 go_loopw [3, 8] (fun v i wr => ∃ k : Nat, k ≤ n ∧ OwnL icells 1 3 wr w.heap.size v (nm k) ∧ i = .int .i64 k ∧ Below w.heap.size w wr) (fun _ i _ => n - (intOf i).toNat)
 case atStart => exact ⟨0, Nat.zero_le _, by rw [HN0.out]; exact HO0.out, rfl, Below.refl _ _⟩
 case round =>
  obtain ⟨k, hk, ho, rfl, hg⟩ := hrel
  have HG := Lib.hid hg
  have HO := Lib.hid ho
  clear ho
  by_cases hkn : k < n
  ·have HTK := Lib.hid (namL_take (l := l) (k := k) (by rw [hlen.out]; exact hkn))
   obtain ⟨b, o, rfl, -, hyi, hym, hyc⟩ := (HA.out.below hg).at hkn
   obtain ⟨y, hy⟩ : ∃ y, l.getD k p0 = y := ⟨_, rfl⟩
   rw [hy] at hyi hym hyc HTK
   obtain ⟨e0, e1, e2, e3, e4, e5, e6, e7, e8⟩ := hyc _ (Below.refl _ _)
   have HyI := Lib.hid hyi
   have HTQ := Lib.hid (show nm (k + 1) = nm k ++ (y.q.per ++ (if y.q.kind = 2 then [y.q.oth] else [])) by rw [← HNM.out, ← HNM.out, HTK.out]; rfl)
   have HP4 := Lib.hid (isQf_per4 (HQ.out y hym))
   have HPL := Lib.hid hyi.len
   have HNK := Lib.hid (show (nm k).length ≤ 300 by rw [← HNM.out]; have := HNL.out k hk; have := HN.out; omega)
   obtain ⟨W2, hW2⟩ : ∃ X, wr.alloc (.cells #[.int .i64 y.q.src, .int .i64 y.q.kind, .slice y.A y.n y.c, .int .i64 y.q.oth, .int .i64 y.q.par, .int .i64 y.q.day, .int .i64 y.q.thr, .int .i64 y.q.kno, .int .i64 y.q.unt] 56) = X := ⟨_, rfl⟩
   have GW2 := Lib.hid (show Below wr.heap.size wr W2 by rw [← hW2]; exact one_more _ _)
   have BW2 := Lib.hid (show Blk W2 wr.heap.size 56 #[.int .i64 y.q.src, .int .i64 y.q.kind, .slice y.A y.n y.c, .int .i64 y.q.oth, .int .i64 y.q.par, .int .i64 y.q.day, .int .i64 y.q.thr, .int .i64 y.q.kno, .int .i64 y.q.unt] by rw [← hW2]; exact Blk.new _ _ _)
   have HW2 := Lib.hid hW2
   have hwr2 : wrap64 ((k : Int) + 1) = (k : Int) + 1 := wrap_in (by have := HN.out; omega)
   clear hW2 hy hyi hym hyc hg
   go_upto_region 5 with fail
   rw [HW2.out]
   clear e0 e1 e2 e3 e4 e5 e6 e7 e8
   have d1 := BW2.out.cell 1
   have d2 := BW2.out.cell 2
   have d3 := BW2.out.cell 3
   have HOX := Lib.hid (HO.out.ext GW2.out)
   have HI := Lib.hid (HyI.out.below GW2.out).i
   have HTL := Lib.hid (show (nm k).length + y.n ≤ 1000000 by have := HNK.out; have := HP4.out; have := HPL.out; omega)
   have HBB := Lib.hid (show w.heap.size ≤ W2.heap.size by have h1 := HG.out.size; have h2 := GW2.out.size; omega)
   have hu1 : ¬ wr.heap.size < w.heap.size := by have := HG.out.size; omega
   go_upto_region 6 with (first | (at_builtin; go_loud (refine wpList_app kdI (by rfl) _ _ (by rfl) w.heap.size _ (nm k) (by rfl) HOX.out y.A y.n y.c y.q.per (by rfl) HI.out HTL.out HBB.out ?_); intro v' w' ho hgr hz; have HO2 := Lib.hid ho; have GV := Lib.hid (HG.out.trans ((GW2.out.mono HG.out.size)) |>.trans (HOX.out.below hgr (Nat.le_refl _) HBB.out)); have BV := Lib.hid (show Blk w' wr.heap.size 56 #[.int .i64 y.q.src, .int .i64 y.q.kind, .slice y.A y.n y.c, .int .i64 y.q.oth, .int .i64 y.q.par, .int .i64 y.q.day, .int .i64 y.q.thr, .int .i64 y.q.kno, .int .i64 y.q.unt] from (hgr.block wr.heap.size BW2.out.lt (fun e => by obtain ⟨-, cur, hc⟩ := own_block HOX.out e.symm; exact absurd (blk_type hc BW2.out) (by decide))).trans BW2.out); clear ho hgr hz))
   have d1' := BV.out.cell 1
   have d3' := BV.out.cell 3
   clear d1 d2 d3
   by_cases h2 : y.q.kind = 2
   ·have h2b : (y.q.kind == 2) = true := by simpa using h2
    have HT2 := Lib.hid (show nm (k + 1) = (nm k ++ y.q.per) ++ [y.q.oth] by rw [HTQ.out, if_pos h2, List.append_assoc])
    have GX := Lib.hid (one_more w' (.cells #[.int .i64 y.q.oth] 3))
    have HI2 := Lib.hid (one_int (Blk.new w' 3 #[.int .i64 y.q.oth]))
    have HOX2 := Lib.hid (HO2.out.ext GX.out)
    have HTL2 := Lib.hid (show (nm k ++ y.q.per).length + 1 ≤ 1000000 by rw [List.length_append]; have := HNK.out; have := HP4.out; omega)
    have HBB2 := Lib.hid (show w.heap.size ≤ (w'.alloc (.cells #[.int .i64 y.q.oth] 3)).heap.size by have h1 := GV.out.size; have h3 := GX.out.size; omega)
    obtain ⟨ls, hls⟩ : ∃ s, nm k ++ y.q.per = s := ⟨_, rfl⟩
    rw [hls] at HT2 HOX2 HTL2
    clear h2 hls
    go_wp2_with (first | (at_builtin; go_loud (refine wpList_app kdI (by rfl) _ _ (by rfl) w.heap.size _ ls (by rfl) HOX2.out _ 1 1 [y.q.oth] (by rfl) HI2.out HTL2.out HBB2.out ?_); intro v2 w2 ho hgr hz; have HO3 := Lib.hid ho; have GV3 := Lib.hid ((GV.out.trans (GX.out.mono GV.out.size)).trans (HOX2.out.below hgr (Nat.le_refl _) HBB2.out)); clear ho hgr hz))
    go_roundw
    case rel => exact ⟨k + 1, by omega, by rw [HT2.out]; exact HO3.out, by rw [hwr2]; rfl, GV3.out⟩
    case measure => rw [hwr2]; simp only [intOf]; omega
   ·have h2b : (y.q.kind == 2) = false := by simpa using h2
    have HT2 := Lib.hid (show nm (k + 1) = nm k ++ y.q.per by rw [HTQ.out, if_neg h2, List.append_nil])
    clear h2
    go_wp2_with fail
    go_roundw
    case rel => exact ⟨k + 1, by omega, by rw [HT2.out]; exact HO2.out, by rw [hwr2]; rfl, GV.out⟩
    case measure => rw [hwr2]; simp only [intOf]; omega
  ·obtain rfl : k = n := by omega
   have TS := Lib.hid (fun (v : Value) (h : OwnL icells 1 3 wr w.heap.size v (nm k)) => sortG_any w.heap.size v (nm k) wr h (by rw [← HNM.out]; have := HNL.out k (Nat.le_refl _); have := HN.out; omega))
   have TC := Lib.hid (fun (v : Value) (W : World) (h : OwnL icells 1 3 W w.heap.size v (srt (nm k))) (hb : w.heap.size ≤ W.heap.size) => compact_any w.heap.size v (srt (nm k)) W h (by unfold srt; rw [List.length_mergeSort, ← HNM.out]; have := HNL.out k (Nat.le_refl _); have := HN.out; omega) hb)
   have HSE := Lib.hid (show Lib.compact (srt (nm k)) = ps by rw [setL_compact]; exact HPS.out.symm)
   clear hg
   go_wp2_with (first
    | (go_at_call 103; (with_reducible refine (TS.out _ HO.out).mono ?_); rintro e V ⟨rfl, hown, hbel⟩; have HOV := Lib.hid hown; have GV := Lib.hid (HG.out.trans (HO.out.below hbel (Nat.le_refl _) HG.out.size)); clear hown hbel)
    | (go_at_call 104; (with_reducible refine (TC.out _ _ HOV.out GV.out.size).mono ?_); rintro e V2 ⟨⟨v2, rfl, hown, -⟩, hbel⟩; have HOV2 := Lib.hid hown; have GV2 := Lib.hid (GV.out.trans (HOV.out.below hbel (Nat.le_refl _) GV.out.size)); clear hown hbel))
   go_ret
   exact ⟨⟨_, rfl, by rw [← HSE.out]; exact HOV2.out⟩, GV2.out⟩
end Go.Proofs.YtehhlgdkhecacaaGreat

namespace Go.Proofs.YtehhlgdkhecacaaGreat
open Go.RowKit Go.Shelf
set_option maxRecDepth 100000 in
set_option maxHeartbeats 4000000 in
theorem idxM_any (g : FuncId) (cl : Array Value) (q : Int → Bool) (A : Option Addr) (n c : Nat) (l : List Int) (w : World) (ha : Ints w A n l) (hn : n ≤ 1000000)
  (eg : ∀ args W, (callFunc g args).run Tryz.prog W = .ok (.enter g args) W) (hq : ∀ x ∈ l, ∀ W, Below w.heap.size w W → Calls Tryz.prog g (#[.int .i64 x] ++ cl) W fun e W' => e = .returned (.bool (q x)) ∧ Below W.heap.size W W') :
  Calls Tryz.prog 156 #[.slice A n c, .func (.func g) #[] cl] w fun e w' => (∃ i : Int, e = .returned (.int .i64 i) ∧ ((∃ k : Nat, i = k ∧ k < n ∧ q (l.getD k 0) = true ∧ ∀ j, j < k → q (l.getD j 0) = false) ∨ (i = -1 ∧ ∀ j, j < n → q (l.getD j 0) = false))) ∧ Below w.heap.size w w' := by
 have HA := Lib.hid ha
 have HQ := Lib.hid hq
 clear ha hq
 go_enter Tryz.func156, Tryz.ntmps156
 go_wp2_with fail
 go_loopw [8] (fun i wr => ∃ k : Nat, k ≤ n ∧ i = .int .i64 k ∧ Below w.heap.size w wr ∧ ∀ j, j < k → q (l.getD j 0) = false) (fun i _ => n - (intOf i).toNat)
 case atStart => exact ⟨0, Nat.zero_le _, rfl, Below.refl _ _, fun j hj => absurd hj (by omega)⟩
 case round =>
  obtain ⟨k, hk, rfl, hg, hno⟩ := hrel
  have HNO := Lib.hid hno
  have HG := Lib.hid hg
  clear hno
  by_cases hkn : k < n
  ·obtain ⟨b, o, rfl, -, hmm, hc⟩ := ints_at (HA.out.below hg) hkn
   have d0 := hc _ (Below.refl _ _)
   obtain ⟨y, hy⟩ : ∃ y, l.getD k 0 = y := ⟨_, rfl⟩
   rw [hy] at d0
   obtain ⟨pb, hpb⟩ : ∃ pb, q y = pb := ⟨_, rfl⟩
   have T := HQ.out y (by rw [← hy]; exact List.mem_of_getElem? hmm) wr hg
   clear hmm
   rw [hpb] at T
   have HT := Lib.hid T
   have HY := Lib.hid hy
   have HPB := Lib.hid hpb
   clear hc hy T hpb hg
   cases pb with
   | true =>
    go_wp2_with (go_at_fn g; (with_reducible refine (HT.out).mono ?_); rintro e w' ⟨rfl, hg2⟩; have G2 := Lib.hid (HG.out.trans (hg2.mono HG.out.size)); clear hg2)
    go_ret
    exact ⟨⟨k, rfl, .inl ⟨k, rfl, hkn, by rw [HY.out]; exact HPB.out, HNO.out⟩⟩, G2.out⟩
   | false =>
    go_wp2_with (go_at_fn g; (with_reducible refine (HT.out).mono ?_); rintro e w' ⟨rfl, hg2⟩; have G2 := Lib.hid (HG.out.trans (hg2.mono HG.out.size)); clear hg2)
    go_roundw
    case rel => exact ⟨k + 1, by omega, by go_num, G2.out, fun j hj => by
     by_cases e : j = k
     ·subst e; rw [HY.out]; exact HPB.out
     ·exact HNO.out j (by omega)⟩
    case measure => simp [intOf]; omega
  ·obtain rfl : n = k := by omega
   go_wp2_with fail
   go_ret
   exact ⟨⟨-1, rfl, .inr ⟨rfl, HNO.out⟩⟩, HG.out⟩
set_option maxRecDepth 100000 in
set_option maxHeartbeats 4000000 in
theorem delMs_any (g0 : FuncId) (cl : Array Value) (q : Int → Bool) (base g n c : Nat) (xs : List Int) (w : World) (h : OwnL icells 1 3 w base (.slice (some ⟨g, 0, none⟩) n c) xs) (hn : n ≤ 1000000)
  (eg : ∀ args W, (callFunc g0 args).run Tryz.prog W = .ok (.enter g0 args) W) (hq : ∀ x ∈ xs, ∀ W, Fix g g w W → Calls Tryz.prog g0 (#[.int .i64 x] ++ cl) W fun e W' => e = .returned (.bool (q x)) ∧ Below W.heap.size W W') :
  Calls Tryz.prog 138 #[.slice (some ⟨g, 0, none⟩) n c, .func (.func g0) #[] cl] w fun e w' => ∃ m, e = .returned (.slice (some ⟨g, 0, none⟩) m c) ∧ OwnL icells 1 3 w' base (.slice (some ⟨g, 0, none⟩) m c) (xs.filter fun x => !q x) ∧ Fix g g w w' := by
 obtain ⟨hn0, hbg, cur0, hb0, hnc, hcm, -, -⟩ := own_inv h
 obtain ⟨A', c', hv', -, -, ha, -⟩ := OwnL.arr kdI h
 cases hv'
 have hgl := hb0.lt
 have T := Lib.hid (idxM_any g0 cl q (some ⟨g, 0, none⟩) xs.length c xs w ha (by omega) eg (fun x hx W gg => hq x hx W (Fix.of_below gg)))
 have HQ := Lib.hid hq
 have HOW := Lib.hid h
 have HN0 := Lib.hid hn0
 have hxl : xs.length ≤ 1000000 := by omega
 have hxc : xs.length ≤ c := by omega
 unfold maxLen at hcm
 clear h hq ha hb0 hn0 hbg cur0
 obtain ⟨n, hnn⟩ : ∃ n, xs.length = n := ⟨_, rfl⟩
 rw [hnn] at T HOW hxl hxc ⊢
 have HNN := Lib.hid hnn
 clear hnn hn hnc HN0
 go_enter Tryz.func138, Tryz.ntmps138
 go_upto_region 2 with (go_at_call 156; (with_reducible refine T.out.mono ?_); rintro e W1 ⟨⟨ix, rfl, hix⟩, hg⟩; have G1 := Lib.hid hg; have HIX := Lib.hid hix; clear hg hix)
 rcases HIX.out with ⟨k0, rfl, hk0, hq0, hno0⟩ | ⟨rfl, hno0⟩
 ·have hne : ((k0 : Int) == -1) = false := by simp
  have HQ0 := Lib.hid hq0
  have HNO := Lib.hid hno0
  clear hq0 hno0
  have HST := Lib.hid (show (xs.take k0).filter (fun x => !q x) = xs.take k0 from List.filter_eq_self.2 (fun x hx => by
   obtain ⟨j, hj, rfl⟩ := List.getElem_of_mem hx
   have hj' : j < k0 := by rw [List.length_take] at hj; omega
   have hjn : j < xs.length := by rw [HNN.out]; omega
   have := HNO.out j hj'
   rw [List.getElem_take]
   rw [List.getD_eq_getElem?_getD, List.getElem?_eq_getElem hjn] at this
   simpa using this))
  go_upto_region 4 with fail
  go_wp2_with fail
  go_loopw [5, 6] (fun i j wr => ∃ (a b : Nat) (ys : List Int), i = .int .i64 a ∧ j = .int .i64 b ∧ a < b ∧ b ≤ n ∧ OwnL icells 1 3 wr base (.slice (some ⟨g, 0, none⟩) n c) ys ∧ Fix g g w wr ∧ ys.take a = (xs.take b).filter (fun x => !q x) ∧ ys.drop b = xs.drop b) (fun _ j _ => n - (intOf j).toNat)
  case atStart =>
   refine ⟨k0, k0 + 1, xs, rfl, by go_num, by omega, by omega, HOW.out.ext G1.out, Fix.of_below G1.out, ?_, rfl⟩
   rw [List.take_succ_eq_append_getElem (by rw [HNN.out]; omega), List.filter_append, HST.out]
   have := HQ0.out
   rw [List.getD_eq_getElem?_getD, List.getElem?_eq_getElem (by rw [HNN.out]; omega)] at this
   have hk0' : k0 < xs.length := by rw [HNN.out]; omega
   have this2 : q xs[k0] = true := this
   simp [this2]
  case round =>
   obtain ⟨a, b, ys, rfl, rfl, hab, hbn, ho, hfx, htk, hdr⟩ := hrel
   obtain ⟨hyl, -, cur, hcb, -, -, -, -⟩ := own_inv ho
   obtain ⟨A', c', hv', -, -, har, -⟩ := OwnL.arr kdI ho
   have hA' : A' = some ⟨g, 0, none⟩ := by cases hv'; rfl
   subst hA'
   rw [← hyl] at har
   clear hv'
   have HO := Lib.hid ho
   have HFX := Lib.hid hfx
   have HTK := Lib.hid htk
   have HDR := Lib.hid hdr
   have HYL := Lib.hid hyl
   have HCB := Lib.hid hcb
   have HAR := Lib.hid har
   clear ho hfx htk hdr hyl hcb har
   by_cases hbl : b < n
   ·obtain ⟨b', o', e', -, hmem, hc⟩ := ints_at HAR.out hbl
    cases e'
    have hcs := hc _ (Below.refl _ _)
    have x0 := hcs
    rw [Nat.zero_add] at x0
    have hxy : ys.getD b 0 = xs.getD b 0 := by
     have h1 : (ys.drop b)[0]? = (xs.drop b)[0]? := by rw [HDR.out]
     rw [List.getElem?_drop, List.getElem?_drop, Nat.add_zero] at h1
     rw [List.getD_eq_getElem?_getD, List.getD_eq_getElem?_getD, h1]
    have hxs : xs[b]? = some (xs.getD b 0) := getD_int1 (by rw [HNN.out]; exact hbl)
    obtain ⟨x, hx⟩ : ∃ x, xs.getD b 0 = x := ⟨_, rfl⟩
    rw [hxy, hx] at x0
    rw [hx] at hxs
    have HTN := Lib.hid (show (xs.take (b + 1)).filter (fun x => !q x) = ys.take a ++ (if q x = true then [] else [x]) by
     rw [HTK.out, List.take_add_one, hxs, List.filter_append]
     by_cases hqx : q x = true <;> simp [hqx])
    have HDN := Lib.hid (show ys.drop (b + 1) = xs.drop (b + 1) by rw [← List.drop_drop, HDR.out, List.drop_drop])
    have TQ := Lib.hid (fun W (g : Fix g g w W) => HQ.out x (List.mem_of_getElem? hxs) W g)
    have T3 := Lib.hid (TQ.out wr HFX.out)
    obtain ⟨qb, hqb⟩ : ∃ qb, q x = qb := ⟨_, rfl⟩
    rw [hqb] at T3 HTN
    have hab2 : (a : Int) < (n : Int) := by omega
    clear hc hxy hxs hx hqb hmem
    cases qb with
    | true =>
     go_wp2_with (go_at_fn g0; (with_reducible refine (T3.out).mono ?_); rintro e W4 ⟨rfl, hg4⟩; have G4 := Lib.hid hg4; clear hg4)
     go_roundw
     case rel =>
      refine ⟨a, b + 1, ys, rfl, by go_num, by omega, by omega, HO.out.ext (G4.out), HFX.out.trans (Fix.of_below (G4.out)), ?_, HDN.out⟩
      rw [HTN.out]; simp
     case measure => simp [intOf]; omega
    | false =>
     go_upto_region 9 with (go_at_fn g0; (with_reducible refine (T3.out).mono ?_); rintro e W4 ⟨rfl, hg4⟩; have G4 := Lib.hid hg4; clear hg4)
     have HO4 := Lib.hid (HO.out.ext (G4.out))
     obtain ⟨-, -, cur4, hcb4, -, -, hsz4, -⟩ := own_inv HO4.out
     have hc6 : a + 1 ≤ c := by omega
     have hcc : ∀ j, j < c → W4.cell? ⟨g, j, none⟩ = some (cur4[j]!) := fun j hj => by rw [hcb4.cell, Array.getElem?_eq_getElem (by omega), getElem!_pos cur4 j (by omega)]
     have w0 := hcc a (by omega)
     have v0 := hcb4.frozen a
     clear hcc hcb4 hsz4 x0
     go_wp2_with fail
     go_roundw
     case rel =>
      have hput := HO4.out.put icells_len (i := a) (by omega) x
      rw [Nat.mul_one] at hput
      have hfix : Fix g g W4 (W4.setCells g a (icells x)) := fix_setCells _ _ _
      refine ⟨a + 1, b + 1, ys.set a x, by go_num, by go_num, by omega, by omega, hput, (HFX.out.trans (Fix.of_below (G4.out))).trans hfix, ?_, ?_⟩
      ·rw [HTN.out, List.take_set]
       have hal : a < ys.length := by rw [← HYL.out]; omega
       rw [List.take_succ_eq_append_getElem hal, List.set_append_right _ _ (by rw [List.length_take]; omega)]
       rw [List.length_take, Nat.min_eq_left (by omega), Nat.sub_self]
       simp
      ·rw [List.drop_set_of_lt (by omega)]; exact HDN.out
     case measure => simp [intOf]; omega
   ·obtain rfl : n = b := by omega
    have HTK2 := Lib.hid (show ys.take a = xs.filter (fun x => !q x) by rw [HTK.out, List.take_of_length_le (by rw [HNN.out]; exact Nat.le_refl _)])
    have hca : ¬ c = a := by omega
    obtain ⟨m, hm⟩ : ∃ m, n - a = m := ⟨_, rfl⟩
    obtain ⟨-, -, curn, hcbn, -, -, hszn, -⟩ := own_inv HO.out
    obtain ⟨i0, hi0, hz0, hz1, hz2⟩ := info_parts info3
    have hclr := Lib.hid (fun ty => run_clear_gen wr 25 3 ty (.int .i64 0) 1 g a (n - a) (c - a) Tryz.underlying25 (fun w => by simp [zeroValue, typeInfo, hi0, hz0]) (by omega) rfl (by decide) (by intro v hv; simp [Value.cells] at hv; subst hv; rfl)
     (fun j hj => by rw [hcbn.cell, Array.getElem?_eq_getElem (by rw [hszn]; omega)]; rfl) (fun j _ => hcbn.frozen _))
    have hclr2 := hclr.out
    clear hcbn hszn hi0 hz0 hz1 hz2
    have hac : (a : Int) ≤ (n : Int) := by omega
    have hac2 : (a : Int) ≤ (c : Int) := by omega
    obtain ⟨vs, hvs⟩ : ∃ vs, (Builtin.zeroCells (Value.int .i64 0).cells (n - a)).toList = vs := ⟨_, rfl⟩
    have HVL := Lib.hid (show vs.length = (n - a) * 1 by rw [← hvs]; exact zeroCells_len _ _)
    rw [hvs] at hclr2
    clear hvs hclr hm
    go_wp2_with fail
    go_ret
    refine ⟨a, rfl, ?_, HFX.out.trans (fix_setCells _ _ _)⟩
    have hfr := HO.out.front icells_len (i := a) (by omega)
    rw [HTK2.out] at hfr
    exact hfr.behind icells_len (by omega) (by rw [HVL.out]; omega)
 ·have HFI := Lib.hid (show xs.filter (fun x => !q x) = xs from List.filter_eq_self.2 (fun x hx => by
   obtain ⟨j, hj, rfl⟩ := List.getElem_of_mem hx
   have := hno0 j (by rw [← HNN.out]; exact hj)
   rw [List.getD_eq_getElem?_getD, List.getElem?_eq_getElem hj] at this
   simpa using this))
  clear hno0
  go_wp2_with fail
  go_ret
  exact ⟨n, rfl, by rw [HFI.out]; exact HOW.out.ext G1.out, Fix.of_below G1.out⟩
set_option maxRecDepth 100000 in
theorem delM_nil (g0 : FuncId) (cl : Array Value) (q : Int → Bool) (w : World) (eg : ∀ args W, (callFunc g0 args).run Tryz.prog W = .ok (.enter g0 args) W) :
  Calls Tryz.prog 138 #[.slice none 0 0, .func (.func g0) #[] cl] w fun e w' => e = .returned (.slice none 0 0) ∧ Below w.heap.size w w' := by
 have T := Lib.hid (idxM_any g0 cl q none 0 0 [] w Arr.nil_ (by decide) eg (fun x hx => absurd hx (by simp)))
 go_enter Tryz.func138, Tryz.ntmps138
 go_upto_region 2 with (go_at_call 156; (with_reducible refine T.out.mono ?_); rintro e W1 ⟨⟨ix, rfl, hix⟩, hg⟩; have G1 := Lib.hid hg; have HIX := Lib.hid hix; clear hg hix)
 rcases HIX.out with ⟨k0, rfl, hk0, hq0, hno0⟩ | ⟨rfl, hno0⟩
 ·omega
 ·clear hno0
  go_wp2_with fail
  go_ret
  exact ⟨rfl, G1.out⟩
theorem delM_any (g0 : FuncId) (cl : Array Value) (q : Int → Bool) (base : Nat) (v : Value) (xs : List Int) (w : World) (h : OwnL icells 1 3 w base v xs) (hn : xs.length ≤ 1000000)
  (eg : ∀ args W, (callFunc g0 args).run Tryz.prog W = .ok (.enter g0 args) W) (hq : ∀ x ∈ xs, ∀ W, w.grownBy W v.ownBlock → Calls Tryz.prog g0 (#[.int .i64 x] ++ cl) W fun e W' => e = .returned (.bool (q x)) ∧ Below W.heap.size W W') :
  Calls Tryz.prog 138 #[v, .func (.func g0) #[] cl] w fun e w' => ∃ v', e = .returned v' ∧ OwnL icells 1 3 w' base v' (xs.filter fun x => !q x) ∧ w.grownBy w' v.ownBlock ∧ v'.ownBlock = v.ownBlock := by
 obtain ⟨A, c, hv, hnc, -, -, hgb⟩ := OwnL.arr kdI h
 cases A with
 | none =>
  have h2 : v = .slice none 0 0 ∧ xs = [] := by
   obtain ⟨h1, ⟨e0, h3⟩ | ⟨g, cap, cur, e0, -⟩⟩ := h
   ·exact ⟨e0, List.eq_nil_of_length_eq_zero h3⟩
   ·rw [e0] at hv; cases hv
  obtain ⟨rfl, rfl⟩ := h2
  refine (delM_nil g0 cl q w eg).mono ?_
  rintro e w' ⟨rfl, hg⟩
  exact ⟨_, rfl, OwnL.nil _ _, ⟨hg.os, hg.tape, hg.output, hg.size, fun k hk _ => hg.block k hk⟩, rfl⟩
 | some a =>
  obtain ⟨g, o, sp⟩ := a
  have h2 : v = .slice (some ⟨g, 0, none⟩) xs.length c := by
   obtain ⟨h1, ⟨e0, h3⟩ | ⟨g', cap, cur, e0, -⟩⟩ := h
   ·rw [e0] at hv; cases hv
   ·rw [e0] at hv; cases hv; exact e0
  subst h2
  refine (delMs_any g0 cl q base g xs.length c xs w h hn eg (fun x hx W gg => hq x hx W (fix_grown gg))).mono ?_
  rintro e w' ⟨m, rfl, ho, hf⟩
  exact ⟨_, rfl, ho, fix_grown hf, rfl⟩
theorem yes_any (n : Int) (w : World) : Calls Tryz.prog 97 #[.int .i64 n] w fun e w' => e = .returned (.bool (decide (n = 1))) ∧ w = w' := by
 go_enter Tryz.func97, Tryz.ntmps97
 go_wp2
 go_ret
 exact ⟨by by_cases h : n = 1 <;> simp [h], rfl⟩
/-- The members for whom the answer is one that is wanted. -/
def memS (g : Int → Bool) (c : List Qf) (parish day : Int) : List Int := (persS c).filter fun n => g (righN (wherS c n day) parish)
set_option maxRecDepth 100000 in
set_option maxHeartbeats 8000000 in
theorem member_any (f : FuncId) (g : Int → Bool) (eg : ∀ args W, (callFunc f args).run Tryz.prog W = .ok (.enter f args) W) (hg : ∀ n W, Calls Tryz.prog f #[.int .i64 n] W fun e w' => e = .returned (.bool (g n)) ∧ W = w')
  (A : Option Addr) (n c : Nat) (l : List Pf) (x parish day : Int) (bf bc bp bd : Nat) (w : World) (h : Cn w A n l) (hp : In64 x) (hd : In64 day)
  (h1 : Blk w bf 119 #[.func (.func f) #[] #[]]) (h2 : Blk w bc 22 #[.slice A n c]) (h3 : Blk w bp 3 #[.int .i64 parish]) (h4 : Blk w bd 3 #[.int .i64 day]) :
  Calls Tryz.prog 139 #[.int .i64 x, ptr bf, ptr bc, ptr bp, ptr bd] w fun e w' => e = .returned (.bool (!g (righN (wherS (l.map Pf.q) x day) parish))) ∧ Below w.heap.size w w' := by
 have T := fun (X : Wd w) => right_any A n c l x parish day X.val (h.below X.ok) hp hd
 obtain ⟨rn, hrn⟩ : ∃ s, righN (wherS (l.map Pf.q) x day) parish = s := ⟨_, rfl⟩
 rw [hrn] at T ⊢
 have TG := fun (X : Wd w) => hg rn X.val
 obtain ⟨gb, hgb⟩ : ∃ s, g rn = s := ⟨_, rfl⟩
 rw [hgb] at TG ⊢
 have HT := Lib.hid T
 have HTG := Lib.hid TG
 have d1 := cellW (h1.cell 0)
 have d2 := cellW (h2.cell 0)
 have d3 := cellW (h3.cell 0)
 have d4 := cellW (h4.cell 0)
 clear h hp hd h1 h2 h3 h4 hrn hgb hg T TG
 go_enter Tryz.func139, Tryz.ntmps139
 go_upto_region 1 with fail
 refine wp_region_calm w (by kernel_rfl) (by kernel_rfl) (Below.refl _ _) ?_
 repeat (go_big_quiet_step ((first | (go_at_call 67; exact callsCalm (HT.out _)) | (go_at_fn f; exact callsCalmSame (HTG.out _)))))
 refine wpQuiet_nil ?_
 rintro _ ⟨zz, rfl⟩
 have GZ := Lib.hid zz.ok
 go_wp2_with fail
 go_ret
 exact ⟨rfl, GZ.out⟩
theorem persS_rng {l : List Pf} (h : ∀ p ∈ l, isQf p.q = true) {x : Int} (hx : x ∈ persS (l.map Pf.q)) : rng x 1 999 = true := by
 unfold persS at hx
 rw [setL_mem] at hx
 unfold namL at hx
 obtain ⟨q, hq, hxq⟩ := List.mem_flatMap.1 hx
 obtain ⟨p, hp, rfl⟩ := List.mem_map.1 hq
 have h1 := h p hp
 unfold isQf at h1
 simp only [Bool.and_eq_true] at h1
 obtain ⟨⟨⟨⟨⟨⟨⟨⟨⟨-, -⟩, -⟩, -⟩, h2⟩, -⟩, -⟩, -⟩, -⟩, h3⟩ := h1
 unfold namQ at hxq
 rcases List.mem_append.1 hxq with h4 | h4
 ·exact List.all_eq_true.1 h2 x h4
 ·by_cases hk : p.q.kind = 2
  ·rw [if_pos hk] at h4 h3
   rw [List.mem_singleton] at h4
   rw [h4]
   rw [Bool.and_eq_true] at h3
   exact h3.1
  ·rw [if_neg hk] at h4
   cases h4
set_option maxRecDepth 100000 in
set_option maxHeartbeats 8000000 in
theorem members_any (f : FuncId) (g : Int → Bool) (eg : ∀ args W, (callFunc f args).run Tryz.prog W = .ok (.enter f args) W) (hg : ∀ n W, Calls Tryz.prog f #[.int .i64 n] W fun e w' => e = .returned (.bool (g n)) ∧ W = w')
  (A : Option Addr) (n c : Nat) (l : List Pf) (parish day known : Int) (w : World) (ha : Prf w A n l) (hn : n ≤ 9223372036854775807) :
  Calls Tryz.prog 96 #[.slice A n c, .int .i64 parish, .int .i64 day, .int .i64 known, .func (.func f) #[] #[]] w (ListEnd (memS g (cntL (l.map Pf.q) known) parish day) (readE (l.map Pf.q) 1 parish [day, known] known) w) := by
 obtain ⟨W1, hW1⟩ : ∃ X, ((w.alloc (.cells #[.int .i64 parish] 3)).alloc (.cells #[.int .i64 day] 3)).alloc (.cells #[.func (.func f) #[] #[]] 119) = X := ⟨_, rfl⟩
 have g1 : Below w.heap.size w W1 := by rw [← hW1]; exact three_more _ _ _ _
 have bp : Blk W1 w.heap.size 3 #[.int .i64 parish] := by rw [← hW1]; exact ((Blk.new _ _ _).alloc _).alloc _
 have bd : Blk W1 (w.heap.size + 1) 3 #[.int .i64 day] := by rw [← hW1]; exact (blk_second2 _ _ _ _).alloc _
 have bf : Blk W1 (w.heap.size + 1 + 1) 119 #[.func (.func f) #[] #[]] := by
  rw [← hW1]; have := Blk.new ((w.alloc (.cells #[.int .i64 parish] 3)).alloc (.cells #[.int .i64 day] 3)) 119 #[.func (.func f) #[] #[]]; rw [World.size_alloc, World.size_alloc] at this; exact this
 have s1 : W1.heap.size = w.heap.size + 1 + 1 + 1 := by rw [← hW1]; simp
 obtain ⟨W2, hW2⟩ : ∃ X, W1.alloc (.cells #[.int .i64 day, .int .i64 known] 3) = X := ⟨_, rfl⟩
 have g2 : Below W1.heap.size W1 W2 := by rw [← hW2]; exact one_more _ _
 have b2 : Blk W2 (w.heap.size + 1 + 1 + 1) 3 #[.int .i64 day, .int .i64 known] := by rw [← hW2, ← s1]; exact Blk.new _ _ _
 have T := askRead_any 1 parish (some ⟨w.heap.size + 1 + 1 + 1, 0, none⟩) 2 2 [day, known] known A n c l W2 (ha.below (extTrans g1 g2)) hn (two_ints b2) (by decide) (by decide) rfl
 have HFM := Lib.hid (show (l.filter fun p => cnt p.q known).map Pf.q = cntL (l.map Pf.q) known from filt_map l (fun q => cnt q known))
 have HOK := Lib.hid (fun (h : readE (l.map Pf.q) 1 parish [day, known] known = 0) => (askE_ok (readE_ask h)))
 have HMS := Lib.hid (show memS g (cntL (l.map Pf.q) known) parish day = (persS (cntL (l.map Pf.q) known)).filter fun n => g (righN (wherS (cntL (l.map Pf.q) known) n day) parish) from rfl)
 obtain ⟨re, hre⟩ : ∃ s, readE (l.map Pf.q) 1 parish [day, known] known = s := ⟨_, rfl⟩
 rw [hre] at HOK T ⊢
 obtain ⟨ms, hms⟩ : ∃ s, memS g (cntL (l.map Pf.q) known) parish day = s := ⟨_, rfl⟩
 rw [hms] at HMS ⊢
 have G1 := Lib.hid g1
 have G2 := Lib.hid (extTrans g1 g2)
 have BP := Lib.hid (bp.ext g2)
 have BD := Lib.hid (bd.ext g2)
 have BF := Lib.hid (bf.ext g2)
 have p0 := bp.cell 0
 have d0 := bd.cell 0
 have HW1 := Lib.hid hW1
 have HW2 := Lib.hid hW2
 have S1 := Lib.hid s1
 have HT := Lib.hid T
 have HG := Lib.hid hg
 clear ha hre hms g1 g2 bp bd bf b2 s1 hW1 hW2 T hg
 by_cases hz : re = 0
 ·subst hz
  go_enter Tryz.func96, Tryz.ntmps96
  go_upto_region 1 with fail
  rw [HW1.out]
  go_upto_region 2 with (go_at_call 66; rw [HW2.out, S1.out]; (with_reducible refine (HT.out).mono ?_); rintro e V ⟨A2, n2, c2, rfl, ho, -, hg⟩; have HO := Lib.hid (ho rfl); have GV := Lib.hid (hg); clear ho hg)
  obtain ⟨hok, -, -, hdays⟩ := HOK.out (by trivial)
  have hcn := cn_of hok HO.out.1 HO.out.2.1
  obtain ⟨V2, hV2⟩ : ∃ X, V.alloc (.cells #[.slice A2 n2 c2] 22) = X := ⟨_, rfl⟩
  have gv2 : Below V.heap.size V V2 := by rw [← hV2]; exact one_more _ _
  have bc : Blk V2 V.heap.size 22 #[.slice A2 n2 c2] := by rw [← hV2]; exact Blk.new _ _ _
  have gt : Below W2.heap.size W2 V2 := GV.out.trans (gv2.mono GV.out.size)
  have TP := persons_any A2 n2 c2 _ V2 (hcn.below gv2)
  have TM := Lib.hid (fun (W : World) (gW : Below V2.heap.size V2 W) (x : Int) (hx : x ∈ persS ((l.filter fun p => cnt p.q known).map Pf.q)) => member_any f g eg HG.out A2 n2 c2 _ x parish day (w.heap.size + 1 + 1) V.heap.size w.heap.size (w.heap.size + 1) W (hcn.below (gv2.trans (gW.mono gv2.size))) (in64_person (persS_rng hcn.q hx)) (in64_day (hdays day (by simp))) ((BF.out.ext gt).ext gW) (bc.ext gW) ((BP.out.ext gt).ext gW) ((BD.out.ext gt).ext gW))
  have HPL := Lib.hid (show (persS ((l.filter fun p => cnt p.q known).map Pf.q)).length ≤ 1000000 by
   have h1 : (persS ((l.filter fun p => cnt p.q known).map Pf.q)).length ≤ (namL ((l.filter fun p => cnt p.q known).map Pf.q)).length := by
    unfold persS
    rw [← setL_compact]
    have h2 := (compact_sub (srt (namL ((l.filter fun p => cnt p.q known).map Pf.q)))).length_le
    unfold srt at h2 ⊢
    rwa [List.length_mergeSort] at h2
   have h3 := namL_len ((l.filter fun p => cnt p.q known).map Pf.q) (fun q hq => by
    obtain ⟨p, hp, rfl⟩ := List.mem_map.1 hq
    exact (isQf_per4 (hcn.q p hp)).2)
   rw [List.length_map, hcn.prf.len] at h3
   have := hcn.n
   omega)
  rw [HFM.out] at TP TM HPL
  have HTP := Lib.hid TP
  have HMS2 := Lib.hid HMS.out
  obtain ⟨ps, hps⟩ : ∃ s, persS (cntL (l.map Pf.q) known) = s := ⟨_, rfl⟩
  rw [hps] at HTP TM HPL HMS2
  have c0 := bc.cell 0
  have HV2 := Lib.hid hV2
  have GVV := Lib.hid (G2.out.trans (gt.mono G2.out.size))
  clear hok hdays hcn hV2 gv2 bc gt TP hps p0 d0
  rw [HV2.out]
  go_wp2_with (first
   | (go_at_call 75; (with_reducible refine (HTP.out).mono ?_); rintro e V3 ⟨⟨v, rfl, ho⟩, hg3⟩; have HO3 := Lib.hid ho; have GV3 := Lib.hid hg3; have TD := Lib.hid (delM_any 139 #[ptr (w.heap.size + 1 + 1), ptr V.heap.size, ptr w.heap.size, ptr (w.heap.size + 1)] _ _ v ps V3 ho HPL.out (enters_of Tryz.func139 (by kernel_rfl) rfl) (fun x hx W gW => TM.out W (hg3.grown gW hg3.size (fun k hk => (own_block ho hk).1)) x hx)); clear ho hg3)
   | (go_at_call 138; (with_reducible refine (TD.out).mono ?_); rintro e V4 ⟨v4, rfl, ho4, hg4, -⟩; have HO4 := Lib.hid ho4; have GV4 := Lib.hid (GV3.out.grown hg4 GV3.out.size (fun k hk => (own_block HO3.out hk).1)); clear ho4 hg4))
  go_ret2
  refine listEnd_ok (base := V2.heap.size) ?_ (GVV.out.trans (GV4.out.mono GVV.out.size))
  have h5 := HO4.out
  rw [HMS2.out]
  simpa using h5
 ·have hzb : (re != 0) = true := by simpa using hz
  have HZ := Lib.hid hz
  clear hz
  go_enter Tryz.func96, Tryz.ntmps96
  go_upto_region 1 with fail
  rw [HW1.out]
  go_wp2_with (go_at_call 66; rw [HW2.out, S1.out]; (with_reducible refine (HT.out).mono ?_); rintro e V ⟨A2, n2, c2, rfl, -, ho, hg⟩; obtain ⟨rfl, rfl, rfl⟩ := ho HZ.out; have GV := Lib.hid (G2.out.trans (hg.mono G2.out.size)); clear ho hg)
  go_ret2
  exact listEnd_no HZ.out (GV.out.trans ((one_more _ _).mono GV.out.size))
/-- Belong and May. -/
def belS (c : List Qf) (parish day : Int) : List Int := memS (fun n => decide (n = 1)) c parish day
theorem belong_any (A : Option Addr) (n c : Nat) (l : List Pf) (parish day known : Int) (w : World) (ha : Prf w A n l) (hn : n ≤ 9223372036854775807) :
  Calls Tryz.prog 34 #[.slice A n c, .int .i64 parish, .int .i64 day, .int .i64 known] w (ListEnd (belS (cntL (l.map Pf.q) known) parish day) (readE (l.map Pf.q) 1 parish [day, known] known) w) := by
 have T := Lib.hid (members_any 97 (fun n => decide (n = 1)) (enters_of Tryz.func97 (by kernel_rfl) rfl) yes_any A n c l parish day known w ha hn)
 rw [show memS (fun n => decide (n = 1)) (cntL (l.map Pf.q) known) parish day = belS (cntL (l.map Pf.q) known) parish day from rfl] at T
 generalize belS (cntL (l.map Pf.q) known) parish day = ms at T ⊢
 generalize readE (l.map Pf.q) 1 parish [day, known] known = re at T ⊢
 clear ha hn
 go_enter Tryz.func34, Tryz.ntmps34
 go_wp2_with (go_at_call 96; (with_reducible refine (T.out).mono ?_); rintro e V ⟨A2, n2, c2, rfl, h1, h2, h3, h4⟩; have H := Lib.hid (And.intro h1 (And.intro h2 (And.intro h3 h4))); clear h1 h2 h3 h4)
 go_ret2
 exact ⟨A2, n2, c2, rfl, H.out⟩
end Go.Proofs.YtehhlgdkhecacaaGreat

namespace Go.Proofs.YtehhlgdkhecacaaGreat
open Go.RowKit Go.Shelf
theorem own_head {α : Type} {f : α → List Value} {size : Nat} {e : TypeId} {w : World} {base : Nat} {v : Value} {xs : List α} (h : OwnL f size e w base v xs) (hx : 0 < xs.length) : ∃ g c, v = .slice (some ⟨g, 0, none⟩) xs.length c ∧ base ≤ g := by
 obtain ⟨h1, ⟨rfl, h2⟩ | ⟨g, cap, cur, rfl, hb, -⟩⟩ := h
 ·omega
 ·exact ⟨g, cap, rfl, hb⟩
theorem Fix.low {w w' : World} {g B : Nat} (h : Fix g g w w') (hB : B ≤ g) (_hw : B ≤ w.heap.size) : Below B w w' := by
 have := h.size
 refine ⟨h.os, h.tape, h.output, h.size, fun k hk => ?_⟩
 exact h.block k (by omega) (by omega) (by omega)
theorem of_map (l : List Pf) (b : List Int) : (l.filter fun p => hasI b p.q.src).map Pf.q = ofL (l.map Pf.q) b := by
 unfold ofL
 rw [List.filter_map]
 congr 1
 refine List.filter_congr fun p _ => ?_
 show hasI b p.q.src = decide (p.q.src ∈ b)
 by_cases h : p.q.src ∈ b
 ·rw [hasI_true h, decide_eq_true h]
 ·rw [decide_eq_false h, Bool.eq_false_iff]
  exact fun e => h (hasI_iff.1 e)
/-- Whether there is a reading of the proofs with some sources: of, then isRead. -/
theorem ofRead_any (A : Option Addr) (n : Nat) (l : List Pf) (b : List Int) (w : World) (h : Cn w A n l) (V : World) (v : Value) (g : Below w.heap.size w V) (ho : OwnL pcells 9 56 V w.heap.size v (l.filter fun p => hasI b p.q.src)) :
  ∃ A2 n2 c2, v = .slice A2 n2 c2 ∧ n2 = (ofL (l.map Pf.q) b).length ∧ Calls Tryz.prog 109 #[.slice A2 n2 c2] V fun e w' => e = .returned (.bool (isRead (ofL (l.map Pf.q) b))) ∧ Below V.heap.size V w' := by
 obtain ⟨A2, c2, rfl, -, -, hp⟩ := own_prf ho (fun p hp => (h.prf.p p (List.mem_filter.1 hp).1).below g)
 have hl := List.length_filter_le (fun p : Pf => hasI b p.q.src) l
 rw [h.prf.len] at hl
 have T := isRead_any A2 _ c2 _ V hp (by have := h.n; omega)
 rw [of_map] at T
 exact ⟨A2, _, c2, rfl, by rw [← of_map, List.length_map], T⟩
/-- The error of Clash. -/
def clE (l : List Qf) (known : Int) : Int := if lookE l [known] = 0 then (if isRead (cntL l known) = true then 25 else 0) else lookE l [known]
set_option maxRecDepth 100000 in
set_option maxHeartbeats 8000000 in
theorem clash_any (A : Option Addr) (n c : Nat) (l : List Pf) (known : Int) (w : World) (ha : Prf w A n l) (hn : n ≤ 9223372036854775807) :
  Calls Tryz.prog 51 #[.slice A n c, .int .i64 known] w (ListEnd (clashL (cntL (l.map Pf.q) known)) (clE (l.map Pf.q) known) w) := by
 have T := look_one A n c l known w ha hn
 have HCE := Lib.hid (show clE (l.map Pf.q) known = if lookE (l.map Pf.q) [known] = 0 then (if isRead (cntL (l.map Pf.q) known) = true then 25 else 0) else lookE (l.map Pf.q) [known] from rfl)
 have HCN := Lib.hid (fun (V : World) (D : Option Addr) (k : Nat) (fl : List Pf) (h : okL (l.map Pf.q) = true) (hs : fl.Sublist l) (hq : fl.map Pf.q = cntL (l.map Pf.q) known) (hp : Prf V D k fl) (h60 : k ≤ 60) =>
  (⟨hp, h60, fun p hp => okL_all h _ (List.mem_map.2 ⟨p, hs.subset hp, rfl⟩), (((hs.map Pf.q).map Qf.src).nodup ((okL_src h).imp fun hlt => by omega)), by rw [hq]; exact reads_len h known⟩ : Cn V D k fl))
 obtain ⟨ce, hce⟩ : ∃ s, clE (l.map Pf.q) known = s := ⟨_, rfl⟩
 rw [hce] at HCE ⊢
 obtain ⟨le, hle⟩ : ∃ s, lookE (l.map Pf.q) [known] = s := ⟨_, rfl⟩
 rw [hle] at T HCE
 obtain ⟨cq, hcq⟩ : ∃ s, cntL (l.map Pf.q) known = s := ⟨_, rfl⟩
 rw [hcq] at T HCE HCN ⊢
 have HT := Lib.hid T
 clear T ha hce hle hcq
 by_cases hz : le = 0
 ·subst hz
  go_enter Tryz.func51, Tryz.ntmps51
  go_upto_region 2 with (go_at_call 73; (with_reducible refine (HT.out).mono ?_); rintro e V ⟨v, rfl, hg, h1, -⟩; obtain ⟨D, k, d, fl, rfl, hfq, hp, h60, -, -, hsub, hok⟩ := h1 (by trivial); have GV := Lib.hid hg; have CN := Lib.hid (HCN.out V D k fl hok hsub hfq hp h60); have HFQ := Lib.hid hfq; clear hg h1 hfq hp h60 hsub hok)
  have TR := isRead_any D k d fl V CN.out.prf (by have := CN.out.n; omega)
  rw [HFQ.out] at TR
  have HCE2 := HCE.out
  rw [if_pos (by trivial)] at HCE2
  obtain ⟨rb, hrb⟩ : ∃ s, isRead cq = s := ⟨_, rfl⟩
  rw [hrb] at TR HCE2
  have HTR := Lib.hid TR
  have HRB := Lib.hid hrb
  clear TR hrb HCE
  cases rb with
  | true =>
   have e : ce = 25 := HCE2
   subst e
   clear HCE2
   go_wp2_with (go_at_call 109; (with_reducible refine (HTR.out).mono ?_); rintro e V2 ⟨rfl, hg⟩; have GV2 := Lib.hid (GV.out.trans (hg.mono GV.out.size)); clear hg)
   go_ret2
   exact listEnd_no (by decide) GV2.out
  | false =>
   have e : ce = 0 := HCE2
   subst e
   clear HCE2
   have TS := Lib.hid (fun (W : World) (g : Below V.heap.size V W) => sources_any D k d fl W (CN.out.prf.below g) (by have := CN.out.n; omega))
   rw [HFQ.out] at TS
   go_upto_region 7 with (first
    | (go_at_call 109; (with_reducible refine (HTR.out).mono ?_); rintro e V2 ⟨rfl, hg⟩; have GV2 := Lib.hid hg; clear hg)
    | (go_at_call 102; (with_reducible refine (TS.out _ GV2.out).mono ?_); rintro e V3 ⟨⟨v3, rfl, ho⟩, hg⟩; have HO3 := Lib.hid ho; have GV3 := Lib.hid (GV2.out.trans (hg.mono GV2.out.size)); have HB3 := Lib.hid (show V.heap.size ≤ V2.heap.size from GV2.out.size); clear ho hg))
   have HO0 := Lib.hid (HO3.out.mono HB3.out)
   obtain ⟨A3, c3, e3, -, -, -, -⟩ := OwnL.arr kdI HO0.out
   have hsl : (srcL cq).length = k := by unfold srcL; rw [List.length_map, ← HFQ.out, List.length_map, CN.out.prf.len]
   have hcl : cq.length = k := by rw [← HFQ.out, List.length_map, CN.out.prf.len]
   have HSL := Lib.hid hsl
   have HCL := Lib.hid hcl
   rw [hsl] at e3
   subst e3
   have hk60 := CN.out.n
   have hwm : wrap64 ((k : Int) - 1) = (k : Int) - 1 := wrap_in (by omega)
   clear hsl hcl
   go_upto_region 8 with fail
   go_loopw [8, 9] (fun v i wr => ∃ (j : Nat) (b : List Int), j ≤ b.length ∧ b.length ≤ 60 ∧ OwnL icells 1 3 wr V.heap.size v b ∧ i = .int .i64 ((j : Int) - 1) ∧ clF cq j b = clashL cq ∧ Below V.heap.size V wr) (fun _ i _ => (intOf i + 1).toNat)
   case atStart => exact ⟨k, srcL cq, by rw [HSL.out]; exact Nat.le_refl _, by rw [HSL.out]; exact hk60, HO0.out, by first | rfl | rw [hwm], by unfold clashL; rw [HCL.out], GV3.out⟩
   case round =>
    obtain ⟨j, b, hjb, hb60, ho, rfl, hcf, hg⟩ := hrel
    have HG := Lib.hid hg
    have HO := Lib.hid ho
    have HCF := Lib.hid hcf
    obtain ⟨A4, c4, e4, hc41, hc42, ha4, -⟩ := OwnL.arr kdI ho
    subst e4
    have HA4 := Lib.hid ha4
    clear ho hcf ha4 hg
    by_cases hj : j = 0
    ·subst hj
     have HCF2 := Lib.hid (show b = clashL cq from HCF.out)
     have hb : decide ((0 : Int) ≤ ((0 : Nat) : Int) - 1) = false := by decide
     go_wp2_with fail
     go_ret2
     exact listEnd_ok (base := V.heap.size) (by rw [← HCF2.out]; exact HO.out) (GV.out.trans (HG.out.mono GV.out.size))
    ·obtain ⟨j', rfl⟩ : ∃ q, j = q + 1 := ⟨j - 1, by omega⟩
     rw [show (((j' + 1 : Nat) : Int) - 1) = (j' : Int) by omega]
     have hjlt : j' < b.length := by omega
     obtain ⟨rb, hrb⟩ : ∃ s, isRead (ofL cq (b.eraseIdx j')) = s := ⟨_, rfl⟩
     have HCF2 := Lib.hid (show clF cq j' (if rb = true then b else b.eraseIdx j') = clashL cq by rw [← hrb]; exact HCF.out)
     have HRB2 := Lib.hid hrb
     have HEL := Lib.hid (show (b.eraseIdx j').length = b.length - 1 from List.length_eraseIdx_of_lt hjlt)
     have TC := Lib.hid (cloneI_any A4 b.length c4 b wr HA4.out (by omega))
     have hb : decide ((0 : Int) ≤ (j' : Int)) = true := decide_eq_true (by omega)
     have hw1 : wrap64 ((j' : Int) + 1) = (j' : Int) + 1 := wrap_in (by omega)
     have hw2 : wrap64 ((j' : Int) - 1) = (j' : Int) - 1 := wrap_in (by omega)
     clear hrb
     go_upto_region 11 with (first
      | (go_at_call 95; (with_reducible refine (TC.out).mono ?_); rintro e W5 ⟨⟨v5, rfl, ho5⟩, hg5⟩; obtain ⟨g5, c5, hv5, hb5⟩ := own_head ho5 (by omega); subst hv5; have HO5 := Lib.hid ho5; have HG5 := Lib.hid hg5; have HB5 := Lib.hid hb5; have TD := Lib.hid (delInt_any wr.heap.size g5 b.length c5 j' b W5 ho5 (by omega) (by omega)); clear ho5 hg5 hb5)
      | (go_at_call 110; (with_reducible refine (TD.out).mono ?_); rintro e W6 ⟨rfl, ho6, hf6⟩; have HO6 := Lib.hid ho6; have HG6 := Lib.hid (show Below wr.heap.size wr W6 from HG5.out.trans (hf6.low HB5.out HG5.out.size)); clear ho6 hf6))
     have HG7 := Lib.hid (HG.out.trans (HG6.out.mono HG.out.size))
     have CN6 := Lib.hid (CN.out.below HG7.out)
     obtain ⟨A6, c6, e6, -, -, ha6, -⟩ := OwnL.arr kdI HO6.out
     rw [HEL.out] at e6 ha6
     cases e6
     have TOF := Lib.hid (of_any D k d fl (some ⟨g5, 0, none⟩) (b.length - 1) c5 (b.eraseIdx j') W6 CN6.out.prf (by omega) ha6 (by omega))
     clear ha6
     cases rb with
     | true =>
      go_wp2_with (first
       | (go_at_call 111; (with_reducible refine (TOF.out).mono ?_); rintro e W7 ⟨⟨v7, rfl, ho7⟩, hg7⟩; obtain ⟨A8, n8, c8, hv8, -, T8⟩ := ofRead_any D k fl (b.eraseIdx j') W6 CN6.out W7 v7 hg7 ho7; subst hv8; rw [HFQ.out, HRB2.out] at T8; have HT8 := Lib.hid T8; have HG8 := Lib.hid (HG7.out.trans (hg7.mono HG7.out.size)); have HG86 := Lib.hid (HG6.out.trans (hg7.mono HG6.out.size)); clear ho7 hg7 T8)
       | (go_at_call 109; (with_reducible refine (HT8.out).mono ?_); rintro e W8 ⟨rfl, hg8⟩; have HG9 := Lib.hid (HG8.out.trans (hg8.mono HG8.out.size)); have HG96 := Lib.hid (HG86.out.trans (hg8.mono HG86.out.size)); clear hg8))
      go_roundw
      case rel => exact ⟨j', b, by omega, hb60, HO.out.ext HG96.out, rfl, HCF2.out, HG9.out⟩
      case measure => simp only [intOf]; omega
     | false =>
      go_wp2_with (first
       | (go_at_call 111; (with_reducible refine (TOF.out).mono ?_); rintro e W7 ⟨⟨v7, rfl, ho7⟩, hg7⟩; obtain ⟨A8, n8, c8, hv8, -, T8⟩ := ofRead_any D k fl (b.eraseIdx j') W6 CN6.out W7 v7 hg7 ho7; subst hv8; rw [HFQ.out, HRB2.out] at T8; have HT8 := Lib.hid T8; have HG8 := Lib.hid (HG7.out.trans (hg7.mono HG7.out.size)); have HO8 := Lib.hid (HO6.out.ext hg7); clear ho7 hg7 T8)
       | (go_at_call 109; (with_reducible refine (HT8.out).mono ?_); rintro e W8 ⟨rfl, hg8⟩; have HG9 := Lib.hid (HG8.out.trans (hg8.mono HG8.out.size)); have HO9 := Lib.hid (HO8.out.ext hg8); clear hg8))
      go_roundw
      case rel => exact ⟨j', b.eraseIdx j', by rw [HEL.out]; omega, by rw [HEL.out]; omega, HO9.out.mono HG.out.size, rfl, HCF2.out, HG9.out⟩
      case measure => simp only [intOf]; omega
 ·have hzb : (le != 0) = true := by simpa using hz
  have HZ := Lib.hid hz
  have e : ce = le := by have := HCE.out; rwa [if_neg hz] at this
  subst e
  clear hz
  go_enter Tryz.func51, Tryz.ntmps51
  go_wp2_with (go_at_call 73; (with_reducible refine (HT.out).mono ?_); rintro e V ⟨v, rfl, hg, -, h2⟩; have e2 := h2 HZ.out; subst e2; have GV := Lib.hid hg; clear hg h2)
  go_ret2
  exact listEnd_no HZ.out GV.out
end Go.Proofs.YtehhlgdkhecacaaGreat

namespace Go.Proofs.YtehhlgdkhecacaaGreat
open Go.RowKit Go.Shelf
attribute [local go_sem] Oper.semAt_some
/-- The blocks of Pb lie as they lay. -/
structure Ag (Pb : Nat → Prop) (w0 W : World) : Prop where
 size : w0.heap.size ≤ W.heap.size
 same : ∀ k, Pb k → W.heap[k]? = w0.heap[k]?
theorem Ag.refl (Pb : Nat → Prop) (w0 : World) : Ag Pb w0 w0 := ⟨Nat.le_refl _, fun _ _ => rfl⟩
theorem Ag.below {Pb : Nat → Prop} {w0 W W' : World} (h : Ag Pb w0 W) (hl : ∀ k, Pb k → k < w0.heap.size) (g : Below W.heap.size W W') : Ag Pb w0 W' :=
 ⟨Nat.le_trans h.size g.size, fun k hk => (g.block k (Nat.lt_of_lt_of_le (hl k hk) h.size)).trans (h.same k hk)⟩
theorem Arr.ag {α : Type} {f : α → List Value} {size : Nat} {Pb : Nat → Prop} {w0 W : World} {A : Option Addr} {n : Nat} {xs : List α} (h : Arr f size w0 A n xs) (hA : ∀ b o, A = some ⟨b, o, none⟩ → 0 < n → Pb b) (g : Ag Pb w0 W) : Arr f size W A n xs :=
 ⟨h.1, fun hn => by
  obtain ⟨b, o, rfl, hb, hh⟩ := h.2 hn
  have hp := hA b o rfl hn
  exact ⟨b, o, rfl, Nat.lt_of_lt_of_le hb g.size, fun k x hx j u hu => (World.cell?_of_block (a := ⟨b, o + k * size + j, none⟩) (g.same b hp)).trans (hh k x hx j u hu)⟩⟩
/-- The iterator's memory: its three boxes, the row of the reading so far (b). -/
structure SJ (Pb : Nat → Prop) (w0 : World) (D bq bR bY bS l : Nat) (A : Option Addr) (n c : Nat) (F : Nat → Prop) (W : World) (v : Value) (b : List Int) : Prop where
 data : Ag Pb w0 W
 lt : ∀ k, Pb k → k < w0.heap.size
 q : Blk W bq 22 #[.slice A n c]
 r : Blk W bR 25 #[v]
 y : Blk W bY 149 #[.func (.yield l) #[] #[]]
 s : Blk W bS 33 #[stepF bR bq bY bS]
 o : OwnL icells 1 3 W D v b
 fq : ¬ F bq
 fR : ¬ F bR
 fY : ¬ F bY
 fS : ¬ F bS
 fo : ∀ k, v.ownBlock = some k → ¬ F k
 lo : ∀ k, F k → ¬ Pb k
 up : ∀ k, F k → k < W.heap.size
section
variable {Pb : Nat → Prop} {w0 : World} {D bq bR bY bS l : Nat} {A : Option Addr} {n c : Nat} {F F' : Nat → Prop} {W W' : World} {v : Value} {b : List Int}
theorem SJ.below (h : SJ Pb w0 D bq bR bY bS l A n c F W v b) (g : Below W.heap.size W W') : SJ Pb w0 D bq bR bY bS l A n c F W' v b :=
 ⟨h.data.below h.lt g, h.lt, h.q.ext g, h.r.ext g, h.y.ext g, h.s.ext g, h.o.ext g, h.fq, h.fR, h.fY, h.fS, h.fo, h.lo, fun k hk => Nat.lt_of_lt_of_le (h.up k hk) g.size⟩
theorem SJ.round (h : SJ Pb w0 D bq bR bY bS l A n c F W v b) (g : Ro F F' W W') : SJ Pb w0 D bq bR bY bS l A n c F' W' v b := by
 have nf : ∀ k, k < W.heap.size → ¬ F k → ¬ F' k := fun k hk hf e => by
  rcases g.foot k e with e | e
  ·exact hf e
  ·omega
 have ho : W.grownBy W' none → True := fun _ => trivial
 refine ⟨⟨Nat.le_trans h.data.size g.size, fun k hk => (g.keep k (Nat.lt_of_lt_of_le (h.lt k hk) h.data.size) (fun e => h.lo k e hk)).trans (h.data.same k hk)⟩, h.lt,
  (g.keep _ h.q.lt h.fq).trans h.q, (g.keep _ h.r.lt h.fR).trans h.r, (g.keep _ h.y.lt h.fY).trans h.y, (g.keep _ h.s.lt h.fS).trans h.s, ?_, nf _ h.q.lt h.fq, nf _ h.r.lt h.fR, nf _ h.y.lt h.fY, nf _ h.s.lt h.fS, fun k hk => ?_, fun k hk => ?_, fun k hk => ?_⟩
 ·obtain ⟨h1, h2 | ⟨g', cap, cur, hv, hb, hg, h4⟩⟩ := h.o
  ·exact ⟨h1, .inl h2⟩
  ·refine ⟨h1, .inr ⟨g', cap, cur, hv, hb, ?_, h4⟩⟩
   have hlt : g' < W.heap.size := (Array.getElem?_eq_some_iff.1 hg).1
   exact (g.keep g' hlt (h.fo g' (by rw [hv]; rfl))).trans hg
 ·obtain ⟨-, cur, hb⟩ := own_block h.o hk
  exact nf k hb.lt (h.fo k hk)
 ·rcases g.foot k hk with e | e
  ·exact h.lo k e
  ·intro hp
   have h1 := h.lt k hp
   have h2 := h.data.size
   omega
 ·rcases g.foot k hk with e | e
  ·exact Nat.lt_of_lt_of_le (h.up k e) g.size
  ·exact e.2
/-- Blocks are apart. -/
theorem SJ.ne (h : SJ Pb w0 D bq bR bY bS l A n c F W v b) : bq ≠ bR ∧ bY ≠ bR ∧ bS ≠ bR ∧ ∀ k, v.ownBlock = some k → k ≠ bq ∧ k ≠ bR ∧ k ≠ bY ∧ k ≠ bS := by
 refine ⟨fun e => ?_, fun e => ?_, fun e => ?_, fun k hk => ?_⟩
 ·exact absurd (blk_type (e ▸ h.q) h.r) (by decide)
 ·exact absurd (blk_type (e ▸ h.y) h.r) (by decide)
 ·exact absurd (blk_type (e ▸ h.s) h.r) (by decide)
 ·obtain ⟨-, cur, hb⟩ := own_block h.o hk
  refine ⟨fun e => ?_, fun e => ?_, fun e => ?_, fun e => ?_⟩
  ·exact absurd (blk_type (e ▸ hb) h.q) (by decide)
  ·exact absurd (blk_type (e ▸ hb) h.r) (by decide)
  ·exact absurd (blk_type (e ▸ hb) h.y) (by decide)
  ·exact absurd (blk_type (e ▸ hb) h.s) (by decide)
/-- A new value in the reading's box. -/
theorem SJ.store (h : SJ Pb w0 D bq bR bY bS l A n c F W v b) (hR : w0.heap.size ≤ bR) {V : World} {v2 : Value} {b2 : List Int} (hg : W.grownBy V v.ownBlock) (hD : w0.heap.size ≤ D) (ho : OwnL icells 1 3 V D v2 b2) (hz : v2.ownBlock = none ∨ v2.ownBlock = v.ownBlock ∨ ∃ k, v2.ownBlock = some k ∧ W.heap.size ≤ k) : SJ Pb w0 D bq bR bY bS l A n c F (V.setCell ⟨bR, 0, none⟩ v2) v2 b2 := by
 obtain ⟨n1, n2, n3, n4⟩ := h.ne
 have keep : ∀ {g : Nat} {t : TypeId} {cs : Array Value}, Blk W g t cs → (∀ k, v.ownBlock = some k → k ≠ g) → Blk V g t cs := fun {g t cs} hb hne => (hg.block g hb.lt (fun e => hne g e.symm rfl)).trans hb
 have vq := keep h.q (fun k hk => (n4 k hk).1)
 have vr := keep h.r (fun k hk => (n4 k hk).2.1)
 have vy := keep h.y (fun k hk => (n4 k hk).2.2.1)
 have vs := keep h.s (fun k hk => (n4 k hk).2.2.2)
 have vd : Ag Pb w0 V := ⟨Nat.le_trans h.data.size hg.size, fun k hk => (hg.block k (Nat.lt_of_lt_of_le (h.lt k hk) h.data.size) (fun e => by
  have h1 := (own_block h.o e.symm).1
  have h2 := h.lt k hk
  omega)).trans (h.data.same k hk)⟩
 refine ⟨⟨by simpa [World.setCell] using vd.size, fun k hk => (Below.heap_setCell _ _ _ _ (by have := h.lt k hk; show k ≠ bR; omega)).trans (vd.same k hk)⟩, h.lt, vq.far n1 v2, ?_, vy.far n2 v2, vs.far n3 v2, ?_, h.fq, h.fR, h.fY, h.fS, fun k hk hf => ?_, h.lo, fun k hk => ?_⟩
 ·have := vr.set_ 0 v2
  exact this
 ·obtain ⟨h1, h2 | ⟨g', cap, cur, hv, hb, hg', h4⟩⟩ := ho
  ·exact ⟨h1, .inl h2⟩
  ·refine ⟨h1, .inr ⟨g', cap, cur, hv, hb, ?_, h4⟩⟩
   exact Blk.far (p := ⟨bR, 0, none⟩) (show Blk V g' 3 cur from hg') (fun e => absurd (blk_type (show Blk V g' 3 cur from hg') (show Blk V g' 25 #[v] from (show g' = bR from e) ▸ vr)) (by decide)) v2
 ·rcases hz with e | e | ⟨k', e, hk'⟩
  ·rw [e] at hk; cases hk
  ·exact h.fo k (e ▸ hk) hf
  ·rw [e] at hk
   cases hk
   have := h.up k hf
   omega
 ·have := h.up k hk
  have := hg.size
  simp [World.setCell]
  omega
end
/-- What the closure comes to. -/
def StepJ (Pb : Nat → Prop) (w0 : World) (D bq bR bY bS l : Nat) (A : Option Addr) (n c : Nat) (J Jx : (Nat → Prop) → List Rd → World → Prop) (pre : List Rd) (ms : List (List Int)) (b : List Int) (e : Ending) (W' : World) : Prop :=
 ∃ F' v' rb, SJ Pb w0 D bq bR bY bS l A n c F' W' v' b ∧ e = .returned (.bool rb) ∧ (rb = true → ∃ xs, xs.map Rd.r = ms ∧ J F' (pre ++ xs) W') ∧ (rb = false → ∃ xs, (∃ post, xs.map Rd.r ++ post = ms) ∧ Jx F' (pre ++ xs) W')
set_option maxRecDepth 100000 in
set_option maxHeartbeats 8000000 in
theorem stepJ_leaf (Pb : Nat → Prop) (w0 : World) (A : Option Addr) (n c : Nat) (lp : List Pf) (D bq bR bY bS l : Nat)
  (J Jx : (Nat → Prop) → List Rd → World → Prop)
  (hY : ∀ m F pre x A, J F pre A → GwR (lp.map Pf.q) pre x A → YieldAt Fence.wide m Tryz.prog l (encR x) A fun e B => ∃ F', Ro F F' A B ∧ ((e = .returned (.bool true) ∧ J F' (pre ++ [x]) B) ∨ (e = .returned (.bool false) ∧ Jx F' (pre ++ [x]) B)))
  (b : List Int) (pre : List Rd) (F : Nat → Prop) (v : Value) (W : World) (m : Nat) (hb : b.length = n) (hs : SJ Pb w0 D bq bR bY bS l A n c F W v b) (hj : J F pre W) (hp : ∃ post, pre.map Rd.r ++ [b] ++ post = reads (lp.map Pf.q)) :
  CallsIn Fence.wide m Tryz.prog 137 #[ptr bR, ptr bq, ptr bY, ptr bS] W (StepJ Pb w0 D bq bR bY bS l A n c J Jx pre [b] b) := by
 obtain ⟨Av, cv, rfl, hle, hcm, harr, hob⟩ := OwnL.arr kdI hs.o
 obtain ⟨post, hpost⟩ := hp
 obtain ⟨fn, tmps, assign, body, hy, hR⟩ := hY (m - 1) F pre ⟨Av, b.length, cv, b⟩ W hj ⟨harr, hle, hcm, post, by rw [← hpost, List.append_assoc]; rfl⟩
 have HS := Lib.hid hs
 have c0 := hs.r.cell 0
 have c1 := hs.q.cell 0
 have c2 := hs.y.cell 0
 have HB := Lib.hid hb
 obtain ⟨bl, hbl⟩ : ∃ k, b.length = k := ⟨_, rfl⟩
 rw [hbl] at hb c0 hy hR
 unfold encR at hy
 dsimp only at hy
 subst hb
 clear hs hj hpost hle hcm harr hob hY
 refine callsIn_of_wp Tryz.func137 rfl trivial ?_ rfl
 simp only [Tryz.ntmps137, List.size_toArray, List.length_cons, List.length_nil, Nat.reduceAdd, Nat.reduceSub, Array.replicate_succ, Array.replicate_zero, List.push_toArray, List.append_toArray, List.nil_append, List.cons_append]
 gi_wp2
 refine ⟨fun h => (by simp [Fence.wide] at h), hR.mono ?_⟩
 rintro e B ⟨F', hro, ⟨rfl, hj2⟩ | ⟨rfl, hj2⟩⟩
 ·have HRO := Lib.hid hro
  clear hR hy hro c0 c1 c2
  gi_wp2
  go_ret
  exact ⟨F', _, true, HS.out.round HRO.out, rfl, fun _ => ⟨_, rfl, hj2⟩, fun h => absurd h (by decide)⟩
 ·have HRO := Lib.hid hro
  clear hR hy hro c0 c1 c2
  gi_wp2
  go_ret
  exact ⟨F', _, false, HS.out.round HRO.out, rfl, fun h => absurd h (by decide), fun _ => ⟨_, ⟨[], rfl⟩, hj2⟩⟩
set_option maxRecDepth 100000 in
set_option maxHeartbeats 16000000 in
theorem stepJ_any (Pb : Nat → Prop) (w0 : World) (A : Option Addr) (n c : Nat) (lp : List Pf) (hpr : ∀ W, Ag Pb w0 W → Prf W A n lp) (hn : n ≤ 1000) (D bq bR bY bS l : Nat) (hD : w0.heap.size ≤ D) (hR0 : w0.heap.size ≤ bR) (hRD : D ≤ bR)
  (J Jx : (Nat → Prop) → List Rd → World → Prop) (hJ : Abide D J) (hJx : Abide D Jx)
  (hY : ∀ m F pre x A, J F pre A → GwR (lp.map Pf.q) pre x A → YieldAt Fence.wide m Tryz.prog l (encR x) A fun e B => ∃ F', Ro F F' A B ∧ ((e = .returned (.bool true) ∧ J F' (pre ++ [x]) B) ∨ (e = .returned (.bool false) ∧ Jx F' (pre ++ [x]) B))) :
  ∀ (k : Nat) (b : List Int) (pre : List Rd) (F : Nat → Prop) (v : Value) (W : World) (m : Nat), b.length + k = n → SJ Pb w0 D bq bR bY bS l A n c F W v b → J F pre W → (∃ post, pre.map Rd.r ++ moreK (lp.map Pf.q) k b ++ post = reads (lp.map Pf.q)) →
  CallsIn Fence.wide m Tryz.prog 137 #[ptr bR, ptr bq, ptr bY, ptr bS] W (StepJ Pb w0 D bq bR bY bS l A n c J Jx pre (moreK (lp.map Pf.q) k b) b)
 | 0, b, pre, F, v, W, m, hb, hs, hj, hp => stepJ_leaf Pb w0 A n c lp D bq bR bY bS l J Jx hY b pre F v W m (by omega) hs hj hp
 | k + 1, b, pre, F, v, W, m, hb, hs, hj, hp => by
  have IH := fun (y : Int) (pre' : List Rd) (F' : Nat → Prop) (v' : Value) (W' : World) (m' : Nat) (h1 : SJ Pb w0 D bq bR bY bS l A n c F' W' v' (b ++ [y])) (h2 : J F' pre' W') (h3 : ∃ post, pre'.map Rd.r ++ moreK (lp.map Pf.q) k (b ++ [y]) ++ post = reads (lp.map Pf.q)) =>
   stepJ_any Pb w0 A n c lp hpr hn D bq bR bY bS l hD hR0 hRD J Jx hJ hJx hY k (b ++ [y]) pre' F' v' W' m' (by simp; omega) h1 h2 h3
  have hLen := (hpr _ hs.data).len
  have hbn : b.length < n := by omega
  obtain ⟨Av, cv, rfl, hle, hcm, harr, hob⟩ := OwnL.arr kdI hs.o
  obtain ⟨post, hpost⟩ := hp
  have hPRW := hpr _ hs.data
  obtain ⟨pb0, po0, rfl, -, hpi, hpm, hpc⟩ := hPRW.at hbn
  obtain ⟨p, hpp⟩ : ∃ p, lp.getD b.length p0 = p := ⟨_, rfl⟩
  rw [hpp] at hpi hpm hpc
  have hpq : ((lp.map Pf.q).getD b.length q0) = p.q := by rw [map_pf (by rw [hLen]; exact hbn), hpp]
  obtain ⟨e0, e1, e2, e3, e4, e5, e6, e7, e8⟩ := hpc _ (Below.refl _ _)
  obtain ⟨pA, hpA⟩ : ∃ a, p.A = a := ⟨_, rfl⟩
  rw [hpA] at e2
  have HPI := Lib.hid ((hpr _ hs.data).p p hpm)
  have HPA := Lib.hid (show ∀ W', Ag Pb w0 W' → Ints W' pA p.n p.q.per by intro W' gW; rw [← hpA]; exact ((hpr W' gW).p p hpm).i)
  have hmk : moreK (lp.map Pf.q) (k + 1) b = (p.q.per.filter fun n => fitB (lp.map Pf.q) b n).flatMap fun n => moreK (lp.map Pf.q) k (b ++ [n]) := by
   show ((((lp.map Pf.q).getD b.length q0).per).filter _).flatMap _ = _
   rw [hpq]
  rw [hmk] at hpost ⊢
  have hplen := HPI.out.len
  have hpm2 := HPI.out.m
  have HS := Lib.hid hs
  have HJ0 := Lib.hid hj
  have HPOST := Lib.hid hpost
  have HIH := Lib.hid IH
  have HJA := Lib.hid hJ
  have HJXA := Lib.hid hJx
  have HPR := Lib.hid hpr
  have HPL := Lib.hid hplen
  have c0 := hs.r.cell 0
  have c1 := hs.q.cell 0
  have hbl : (b.length : Int) < (n : Int) := by omega
  have hbne : ((b.length : Int) == (n : Int)) = false := by simp; omega
  obtain ⟨bl, hbl2⟩ : ∃ k, b.length = k := ⟨_, rfl⟩
  have HBL := Lib.hid hbl2
  rw [hbl2] at c0 hbl hbne e0 e1 e2 e3 e4 e5 e6 e7 e8 hbn
  clear hs hj hpost hle hcm harr hob hY hJ hJx IH hpi hpm hpc hpp hpq hmk hpA hplen hbl2 hpr hPRW hb
  refine callsIn_of_wp Tryz.func137 rfl trivial ?_ rfl
  simp only [Tryz.ntmps137, List.size_toArray, List.length_cons, List.length_nil, Nat.reduceAdd, Nat.reduceSub, Array.replicate_succ, Array.replicate_zero, List.push_toArray, List.append_toArray, List.nil_append, List.cons_append]
  gi_wp2
  gi_loopw [23] (fun i wr => ∃ (j : Nat) (F' : Nat → Prop) (v' : Value) (xs : List Rd), i = .int .i64 j ∧ j ≤ p.n ∧ SJ Pb w0 D bq bR bY bS l (some ⟨pb0, po0, none⟩) n c F' wr v' b ∧ J F' (pre ++ xs) wr ∧ xs.map Rd.r = ((p.q.per.take j).filter fun n => fitB (lp.map Pf.q) b n).flatMap fun n => moreK (lp.map Pf.q) k (b ++ [n])) (fun i _ => p.n - (intOf i).toNat)
  case atStart => exact ⟨0, F, _, [], rfl, Nat.zero_le _, HS.out, by simpa using HJ0.out, by simp⟩
  case round =>
   obtain ⟨j, F', v', xs, rfl, hj, hs, hjj, hxs⟩ := hrel
   have HSR := Lib.hid hs
   have HJJ := Lib.hid hjj
   have HXS := Lib.hid hxs
   clear hxs hjj
   by_cases hjn : j < p.n
   ·have hwr2 : wrap64 ((j : Int) + 1) = (j : Int) + 1 := wrap_in (by omega)
    obtain ⟨b2, o2, rfl, -, -, hc2⟩ := ints_at (HPA.out _ hs.data) hjn
    have d0 := hc2 _ (Below.refl _ _)
    obtain ⟨y, hy⟩ : ∃ y, p.q.per.getD j 0 = y := ⟨_, rfl⟩
    rw [hy] at d0
    have HFT := Lib.hid (flatR_take (c := lp.map Pf.q) (k := k) (b := b) (per := p.q.per) (j := j) (by rw [HPL.out]; exact hjn))
    have HFS := Lib.hid (flatR_split (c := lp.map Pf.q) (k := k) (b := b) (per := p.q.per) (j := j) (by rw [HPL.out]; exact hjn))
    rw [hy] at HFT HFS
    obtain ⟨Av', cv', rfl, hle', hcm', harr', hob'⟩ := OwnL.arr kdI hs.o
    have c0 := hs.r.cell 0
    have c1 := hs.q.cell 0
    rw [HBL.out] at c0
    have TF := fits_any (some ⟨pb0, po0, none⟩) n c lp Av' bl cv' b y wr (HPR.out _ hs.data) hn (by rw [HBL.out] at harr'; exact harr') hbn
    obtain ⟨fv, hfv⟩ : ∃ s, fitB (lp.map Pf.q) b y = s := ⟨_, rfl⟩
    rw [hfv] at TF HFT HFS
    have HTF := Lib.hid TF
    clear hs hc2 hy TF hle' hcm' harr' hob' hfv e0 e1 e2 e3 e4 e5 e6 e7 e8
    have HN4 := Lib.hid (show (b ++ [y]).length = bl + 1 by rw [List.length_append, HBL.out]; rfl)
    have hw4 : wrap64 (((bl + 1 : Nat) : Int) - 1) = (bl : Int) := by rw [wrap_in (by omega)]; omega
    cases fv with
    | false =>
     gi_wp2_with (refine ⟨trivial, fun h => (by simp [Fence.wide] at h), ?_⟩; gi_at_call 127; refine (callsIn_wide.2 HTF.out).mono ?_; rintro e V ⟨rfl, hg⟩; have HG := Lib.hid hg; have HSV := Lib.hid (HSR.out.below hg); have HJV := Lib.hid (HJA.out _ _ _ _ HJJ.out (It.of_below hg)); clear hg c0 c1 d0)
     go_roundw
     case rel => exact ⟨j + 1, F', _, xs, by go_num, by omega, HSR.out.below HG.out, HJA.out _ _ _ _ HJJ.out (It.of_below HG.out), by rw [HXS.out, HFT.out, if_neg (by decide), List.append_nil]⟩
     case measure => simp [intOf]; omega
    | true =>
     have HPP := Lib.hid (show ∃ post, (pre ++ xs).map Rd.r ++ moreK (lp.map Pf.q) k (b ++ [y]) ++ post = reads (lp.map Pf.q) from ⟨_, by
      rw [List.map_append, HXS.out, ← HPOST.out, HFS.out, if_pos rfl]
      simp only [List.append_assoc]
      rfl⟩)
     gi_wp2_with (first
      | (refine ⟨trivial, fun h => (by simp [Fence.wide] at h), ?_⟩; gi_at_call 127; refine (callsIn_wide.2 HTF.out).mono ?_; rintro e V ⟨rfl, hg⟩; have HG := Lib.hid hg; have HSV := Lib.hid (HSR.out.below hg); have HJV := Lib.hid (HJA.out _ _ _ _ HJJ.out (It.of_below hg)); clear hg c0 c1 d0; have c0 := HSV.out.r.cell 0; have g1 := one_more V (.cells #[.int .i64 y] 3); have HSX := Lib.hid (HSV.out.below g1); have HJX := Lib.hid (HJA.out _ _ _ _ HJV.out (It.of_below g1)); have HI1 := Lib.hid (one_int (Blk.new V 3 #[.int .i64 y])); have HBL2 := Lib.hid (show b.length + 1 ≤ 1000000 by have := HBL.out; omega); have HDV := Lib.hid (show D ≤ (V.alloc (.cells #[.int .i64 y] 3)).heap.size by have := HSX.out.r.lt; omega); rw [HBL.out] at c0; clear g1)
      | (gi_at_builtin; go_loud (refine wpListIn_app kdI (by rfl) _ _ (by rfl) D _ b (by rfl) (by rw [← HBL.out]; exact HSX.out.o) _ 1 1 [y] (by rfl) HI1.out HBL2.out HDV.out ?_); intro v2 V2 ho2 hg2 hz2; obtain ⟨A2, k2, hv2, -, -, -, -⟩ := OwnL.arr kdI ho2; obtain ⟨n2, hn2⟩ : ∃ q, (b ++ [y]).length = q := ⟨_, rfl⟩; rw [hn2] at hv2; subst hv2; have HS3 := Lib.hid (HSX.out.store hR0 (by rw [HBL.out]; exact hg2) hD ho2 (by rw [HBL.out]; rcases hz2 with e | e; exact .inr (.inl e); exact .inr (.inr ⟨_, e, Nat.le_refl _⟩))); have HJ3 := Lib.hid (HJA.out _ _ _ _ HJX.out ((It.of_grown hg2 (fun r e => ⟨(own_block HSX.out.o (by rw [HBL.out]; exact e)).1, HSX.out.fo r (by rw [HBL.out]; exact e)⟩)).trans (It.setCell (p := ⟨bR, 0, none⟩) hRD HSX.out.fR (.slice A2 n2 k2)))); have b9 : Blk V2 bR 25 _ := (hg2.block bR HSX.out.r.lt (fun e => (HSX.out.ne.2.2.2 bR (by rw [HBL.out]; exact e.symm)).2.1 rfl)).trans HSX.out.r; have m0 := b9.cell 0; have m1 := b9.frozen 0; have m2 := HS3.out.s.cell 0; clear ho2 hg2 hz2 hn2 b9 c0)
      | (refine ⟨trivial, fun h => (by simp [Fence.wide] at h), ?_⟩; gi_at_call 137; refine (HIH.out y (pre ++ xs) F' _ _ _ HS3.out HJ3.out HPP.out).mono ?_; rintro e V4 ⟨F2, v3, rb, hs4, rfl, ht, hf⟩; have HS4 := Lib.hid hs4; have HRT := Lib.hid ht; have HRF := Lib.hid hf; obtain ⟨g3, k3, hv3, hk3⟩ := own_some hs4.o (by simp); subst hv3; have c0 := HS4.out.r.cell 0; have c1 := HS4.out.r.frozen 0; rw [HN4.out] at c0; have hkk : (bl : Int) ≤ (k3 : Int) := (by have h1 := hk3; rw [HN4.out] at h1; omega); clear hs4 ht hf hk3 m0 m1 m2))
     all_goals
      have HO5 := OwnL.front icells_len HS4.out.o (i := bl) (by rw [HN4.out]; omega)
      rw [show (b ++ [y]).take bl = b by rw [← HBL.out, List.take_left']; rfl] at HO5
      have HS5 := Lib.hid (HS4.out.store hR0 (World.grownBy.refl V4 _) hD HO5 (.inr (.inl rfl)))
      have HI5 := Lib.hid (It.setCell (D := D) (F := F2) (A := V4) (p := ⟨bR, 0, none⟩) hRD HS4.out.fR (.slice (some ⟨g3, 0, none⟩) bl k3))
      clear HO5
     ·have hrb : rb = false := by
       cases rb with
       | false => rfl
       | true => exfalso; simp at *
      obtain ⟨xs2, ⟨post2, hx2⟩, hj2⟩ := HRF.out hrb
      have HX2 := Lib.hid hx2
      have HJ5 := Lib.hid (HJXA.out _ _ _ _ hj2 HI5.out)
      clear hx2 hj2
      go_ret
      refine ⟨F2, _, false, HS5.out, rfl, fun h => absurd h (by decide), fun _ => ⟨xs ++ xs2, ⟨post2 ++ ((p.q.per.drop (j + 1)).filter fun n => fitB (lp.map Pf.q) b n).flatMap (fun n => moreK (lp.map Pf.q) k (b ++ [n])), ?_⟩, by rw [← List.append_assoc]; exact HJ5.out⟩⟩
      rw [List.map_append, HXS.out, HFS.out, if_pos trivial, ← HX2.out]
      simp only [List.append_assoc]
     ·have hrb : rb = true := by
       cases rb with
       | true => rfl
       | false => exfalso; simp at *
      obtain ⟨xs2, hx2, hj2⟩ := HRT.out hrb
      have HX2 := Lib.hid hx2
      have HJ5 := Lib.hid (HJA.out _ _ _ _ hj2 HI5.out)
      clear hx2 hj2
      go_roundw
      case rel => exact ⟨j + 1, F2, _, xs ++ xs2, by go_num, by omega, HS5.out, by rw [← List.append_assoc]; exact HJ5.out, by rw [List.map_append, HXS.out, HX2.out, HFT.out, if_pos trivial]⟩
      case measure => simp [intOf]; omega
   ·obtain rfl : j = p.n := by omega
    have HT := Lib.hid (show p.q.per.take p.n = p.q.per from List.take_of_length_le (by rw [HPL.out]; exact Nat.le_refl _))
    clear hs e0 e1 e2 e3 e4 e5 e6 e7 e8
    gi_wp2
    go_ret
    exact ⟨F', _, true, HSR.out, rfl, fun _ => ⟨xs, by rw [HXS.out, HT.out], HJJ.out⟩, fun h => absurd h (by decide)⟩
set_option maxRecDepth 100000 in
set_option maxHeartbeats 8000000 in
theorem readingsJ_seq (Pb : Nat → Prop) (w0 : World) (hlt : ∀ k, Pb k → k < w0.heap.size) (A : Option Addr) (n c : Nat) (lp : List Pf) (hpr : ∀ W, Ag Pb w0 W → Prf W A n lp) (hn : n ≤ 1000) (bq : Nat) (w : World) (hb : Below w0.heap.size w0 w) (hq : Blk w bq 22 #[.slice A n c]) :
  SeqW 136 #[ptr bq] encR (GwR (lp.map Pf.q)) (fun k => ¬ Pb k ∧ k ≠ bq) (fun xs => xs.map Rd.r = reads (lp.map Pf.q)) (fun pre => ∃ post, pre.map Rd.r ++ post = reads (lp.map Pf.q)) w := by
 intro m l J Jx W hW hJ hJx hY F0 hF0 hj0
 obtain ⟨W3, hW3⟩ : ∃ X, ((W.alloc (.cells #[.func (.yield l) #[] #[]] 149)).alloc (.cells #[.slice none 0 0] 25)).alloc (.cells #[stepF (W.heap.size + 1) bq W.heap.size (W.heap.size + 1 + 1)] 33) = X := ⟨_, rfl⟩
 have g3 : Below W.heap.size W W3 := by rw [← hW3]; exact three_more _ _ _ _
 have bY : Blk W3 W.heap.size 149 #[.func (.yield l) #[] #[]] := by rw [← hW3]; exact ((Blk.new _ _ _).alloc _).alloc _
 have bR : Blk W3 (W.heap.size + 1) 25 #[.slice none 0 0] := by
  rw [← hW3]; have := Blk.new (W.alloc (.cells #[.func (.yield l) #[] #[]] 149)) 25 #[.slice none 0 0]; rw [World.size_alloc] at this; exact this.alloc _
 have bS : Blk W3 (W.heap.size + 1 + 1) 33 #[stepF (W.heap.size + 1) bq W.heap.size (W.heap.size + 1 + 1)] := by
  rw [← hW3]; have := Blk.new ((W.alloc (.cells #[.func (.yield l) #[] #[]] 149)).alloc (.cells #[.slice none 0 0] 25)) 33 #[stepF (W.heap.size + 1) bq W.heap.size (W.heap.size + 1 + 1)]; rw [World.size_alloc, World.size_alloc] at this; exact this
 have hq' := hq.ext hW
 have hql := hq'.lt
 have hsi : SJ Pb w0 W.heap.size bq (W.heap.size + 1) W.heap.size (W.heap.size + 1 + 1) l A n c F0 W3 (.slice none 0 0) [] := by
  have hw0 : w0.heap.size ≤ W.heap.size := Nat.le_trans hb.size hW.size
  have h2 := g3.size
  have hbb := (hb.trans (hW.mono hb.size)).trans (g3.mono hw0)
  exact ⟨⟨hbb.size, fun k hk => hbb.block k (hlt k hk)⟩, hlt, hq'.ext g3, bR, bY, bS, OwnL.nil _ _, fun h => (hF0 _ h).2.2 rfl, fun h => by have := (hF0 _ h).1; omega, fun h => by have := (hF0 _ h).1; omega, fun h => by have := (hF0 _ h).1; omega, fun k hk => (by cases hk), fun k hk => (hF0 k hk).2.1, fun k hk => by have h1 := (hF0 k hk).1; omega⟩
 have hj3 : J F0 [] W3 := hJ _ _ _ _ hj0 (It.of_below g3)
 have T := stepJ_any Pb w0 A n c lp hpr hn W.heap.size bq (W.heap.size + 1) W.heap.size (W.heap.size + 1 + 1) l (Nat.le_trans hb.size hW.size) (by have := hb.size; have := hW.size; omega) (by omega) J Jx hJ hJx (fun m' F pre x X h1 h2 => yieldAt_wide (hY F pre x X h1 h2)) n [] [] F0 _ _ (m - 1) (by simp) hsi hj3 ⟨[], by
  have : (lp.map Pf.q).length = n := by rw [List.length_map]; exact (hpr _ (Ag.refl _ _)).len
  unfold reads
  rw [this]; simp⟩
 have HML := Lib.hid (show moreK (lp.map Pf.q) n [] = reads (lp.map Pf.q) by
  unfold reads
  rw [List.length_map, (hpr _ (Ag.refl _ _)).len])
 rw [HML.out] at T
 have HT := Lib.hid T
 have m3 := hsi.s.cell 0
 have HW3 := Lib.hid hW3
 clear hW3 g3 bY bR bS hq' hql hsi hj3 T hpr hq hb hW hJ hJx hY hF0 hj0 HML
 refine callsIn_of_wp Tryz.func136 rfl trivial ?_ rfl
 simp only [Tryz.ntmps136, List.size_toArray, List.length_cons, List.length_nil, Nat.reduceAdd, Nat.reduceSub, Array.replicate_succ, Array.replicate_zero, List.push_toArray, List.append_toArray, List.nil_append, List.cons_append]
 gi_wp2
 refine ⟨trivial, fun h => (by simp [Fence.wide] at h), ?_⟩
 rw [HW3.out]
 refine (HT.out).mono ?_
 rintro e V ⟨F, v, rb, -, rfl, ht, hf⟩
 have HF := Lib.hid hf
 have HTT := Lib.hid ht
 clear ht hf m3
 gi_wp2
 go_end0
 refine ⟨⟨_, rfl⟩, F, ?_⟩
 cases rb with
 | true => 
  obtain ⟨xs, h1, h2⟩ := HTT.out rfl
  exact .inl ⟨xs, h1, h2⟩
 | false =>
  obtain ⟨xs, h1, h2⟩ := HF.out rfl
  exact .inr ⟨xs, h1, h2⟩
end Go.Proofs.YtehhlgdkhecacaaGreat

namespace Go.Proofs.YtehhlgdkhecacaaGreat
open Go.RowKit Go.Shelf
attribute [local go_sem] Oper.semAt_some
/-- Is a person settled in the parish by a reading, or is he not, as is asked? -/
def shB (c : List Qf) (person parish day : Int) (iv : Bool) (r : List Int) : Bool := (setS c r person day == parish) == iv
/-- The reading that Show finds; its error. -/
def shL (c : List Qf) (person parish day : Int) (iv : Bool) : List Int := ((reads c).find? (shB c person parish day iv)).getD []
def shE (l : List Qf) (person parish day known : Int) (iv : Bool) : Int :=
 if readE l person parish [day, known] known = 0 then (if ((reads (cntL l known)).find? (shB (cntL l known) person parish day iv)).isSome = true then 0 else 3) else readE l person parish [day, known] known
theorem Ag.it {Pb : Nat → Prop} {w0 A B : World} {D : Nat} {F : Nat → Prop} (h : Ag Pb w0 A) (hl : ∀ k, Pb k → k < w0.heap.size) (hD : w0.heap.size ≤ D) (hi : It D F A B) : Ag Pb w0 B :=
 ⟨Nat.le_trans h.size hi.size, fun k hk => (hi.low k (Nat.lt_of_lt_of_le (hl k hk) h.size) (Nat.lt_of_lt_of_le (hl k hk) hD)).trans (h.same k hk)⟩
theorem Ag.set {Pb : Nat → Prop} {w0 W : World} (h : Ag Pb w0 W) {p : Addr} (hp : ¬ Pb p.block) (u : Value) : Ag Pb w0 (W.setCell p u) :=
 ⟨by simpa [World.setCell] using h.size, fun k hk => (Below.heap_setCell _ _ _ _ (fun e => hp (e ▸ hk))).trans (h.same k hk)⟩
theorem Ag.blk {Pb : Nat → Prop} {w0 W : World} (h : Ag Pb w0 W) {g : Nat} {t : TypeId} {cs : Array Value} (hb : Blk w0 g t cs) (hg : Pb g) : Blk W g t cs := (h.same g hg).trans hb
/-- What a round that says 'no more' leaves. -/
def ShStop (f : List Int → Bool) (B r1 r2 : Nat) (F : Nat → Prop) (pre : List Rd) (W : World) : Prop :=
 F r1 ∧ F r2 ∧ Blk W r2 26 #[.int .i64 0] ∧ ∃ x pre0 D m d, pre = pre0 ++ [x] ∧ (∀ y ∈ pre0, f y.r = false) ∧ f x.r = true ∧ Blk W r1 25 #[.slice D m d] ∧ OwnL icells 1 3 W B (.slice D m d) x.r ∧ ∀ k, Value.ownBlock (.slice D m d) = some k → F k
theorem ShStop.it {f : List Int → Bool} {B r1 r2 D0 : Nat} {F : Nat → Prop} {pre : List Rd} {X Y : World} (h : ShStop f B r1 r2 F pre X) (hi : It D0 F X Y) : ShStop f B r1 r2 F pre Y := by
 obtain ⟨h1, h2, h3, x, pre0, D, m, d, h4, h5, h6, h7, h8, h9⟩ := h
 exact ⟨h1, h2, hi.blk h3 (.inr h2), x, pre0, D, m, d, h4, h5, h6, hi.blk h7 (.inr h1), own_it h8 hi h9, h9⟩
theorem find_first {c : List Qf} {f : List Int → Bool} {pre0 : List Rd} {x : Rd} {post : List (List Int)} (h : (pre0 ++ [x]).map Rd.r ++ post = reads c) (h0 : ∀ y ∈ pre0, f y.r = false) (hx : f x.r = true) : (reads c).find? f = some x.r := by
 rw [← h, List.map_append, List.append_assoc, List.find?_append]
 have e : (pre0.map Rd.r).find? f = none := List.find?_eq_none.2 fun r hr => by
  obtain ⟨y, hy, rfl⟩ := List.mem_map.1 hr
  rw [h0 y hy]; decide
 rw [e]
 simp [hx]
theorem find_none {c : List Qf} {f : List Int → Bool} {xs : List Rd} (h : xs.map Rd.r = reads c) (h0 : ∀ y ∈ xs, f y.r = false) : (reads c).find? f = none := by
 rw [← h]
 refine List.find?_eq_none.2 fun r hr => ?_
 obtain ⟨y, hy, rfl⟩ := List.mem_map.1 hr
 rw [h0 y hy]; decide
set_option maxRecDepth 100000 in
set_option maxHeartbeats 8000000 in
theorem show_any (A : Option Addr) (n c : Nat) (l : List Pf) (person parish day known : Int) (iv : Bool) (w : World) (ha : Prf w A n l) (hn : n ≤ 9223372036854775807) :
  Calls Tryz.prog 30 #[.slice A n c, .int .i64 person, .int .i64 parish, .int .i64 day, .int .i64 known, .bool iv] w (ListEnd (shL (cntL (l.map Pf.q) known) person parish day iv) (shE (l.map Pf.q) person parish day known iv) w) := by
 obtain ⟨W1, hW1⟩ : ∃ X, (((((w.alloc (.cells #[.int .i64 person] 3)).alloc (.cells #[.int .i64 parish] 3)).alloc (.cells #[.int .i64 day] 3)).alloc (.cells #[.bool iv] 4)).alloc (.cells #[.slice none 0 0] 25)).alloc (.cells #[.int .i64 0] 26) = X := ⟨_, rfl⟩
 have g1 : Below w.heap.size w W1 := by
  rw [← hW1]
  exact ((three_more _ _ _ _).trans ((three_more _ _ _ _).mono (by simp; omega)))
 have bp : Blk W1 w.heap.size 3 #[.int .i64 person] := by rw [← hW1]; exact (((((Blk.new _ _ _).alloc _).alloc _).alloc _).alloc _).alloc _
 have bq' : Blk W1 (w.heap.size + 1) 3 #[.int .i64 parish] := by rw [← hW1]; exact ((((blk_second2 _ _ _ _).alloc _).alloc _).alloc _).alloc _
 have bd : Blk W1 (w.heap.size + 1 + 1) 3 #[.int .i64 day] := by
  rw [← hW1]; have := Blk.new ((w.alloc (.cells #[.int .i64 person] 3)).alloc (.cells #[.int .i64 parish] 3)) 3 #[.int .i64 day]; rw [World.size_alloc, World.size_alloc] at this; exact ((this.alloc _).alloc _).alloc _
 have bi : Blk W1 (w.heap.size + 1 + 1 + 1) 4 #[.bool iv] := by
  rw [← hW1]; have := Blk.new (((w.alloc (.cells #[.int .i64 person] 3)).alloc (.cells #[.int .i64 parish] 3)).alloc (.cells #[.int .i64 day] 3)) 4 #[.bool iv]; rw [World.size_alloc, World.size_alloc, World.size_alloc] at this; exact (this.alloc _).alloc _
 have br : Blk W1 (w.heap.size + 1 + 1 + 1 + 1) 25 #[.slice none 0 0] := by
  rw [← hW1]; have := Blk.new ((((w.alloc (.cells #[.int .i64 person] 3)).alloc (.cells #[.int .i64 parish] 3)).alloc (.cells #[.int .i64 day] 3)).alloc (.cells #[.bool iv] 4)) 25 #[.slice none 0 0]; rw [World.size_alloc, World.size_alloc, World.size_alloc, World.size_alloc] at this; exact this.alloc _
 have be : Blk W1 (w.heap.size + 1 + 1 + 1 + 1 + 1) 26 #[.int .i64 0] := by
  rw [← hW1]; have := Blk.new (((((w.alloc (.cells #[.int .i64 person] 3)).alloc (.cells #[.int .i64 parish] 3)).alloc (.cells #[.int .i64 day] 3)).alloc (.cells #[.bool iv] 4)).alloc (.cells #[.slice none 0 0] 25)) 26 #[.int .i64 0]; rw [World.size_alloc, World.size_alloc, World.size_alloc, World.size_alloc, World.size_alloc] at this; exact this
 have s1 : W1.heap.size = w.heap.size + 1 + 1 + 1 + 1 + 1 + 1 := by rw [← hW1]; simp
 obtain ⟨W2, hW2⟩ : ∃ X, W1.alloc (.cells #[.int .i64 day, .int .i64 known] 3) = X := ⟨_, rfl⟩
 have g2 : Below W1.heap.size W1 W2 := by rw [← hW2]; exact one_more _ _
 have b2 : Blk W2 W1.heap.size 3 #[.int .i64 day, .int .i64 known] := by rw [← hW2]; exact Blk.new _ _ _
 have T := askRead_any person parish (some ⟨W1.heap.size, 0, none⟩) 2 2 [day, known] known A n c l W2 (ha.below (extTrans g1 g2)) hn (two_ints b2) (by decide) (by decide) rfl
 rw [s1] at T
 have HFM := Lib.hid (show (l.filter fun p => cnt p.q known).map Pf.q = cntL (l.map Pf.q) known from filt_map l (fun q => cnt q known))
 have HOK := Lib.hid (fun (h : readE (l.map Pf.q) person parish [day, known] known = 0) => (askE_ok (readE_ask h)))
 have HSE := Lib.hid (show shE (l.map Pf.q) person parish day known iv = if readE (l.map Pf.q) person parish [day, known] known = 0 then (if ((reads (cntL (l.map Pf.q) known)).find? (shB (cntL (l.map Pf.q) known) person parish day iv)).isSome = true then 0 else 3) else readE (l.map Pf.q) person parish [day, known] known from rfl)
 have HSL := Lib.hid (show shL (cntL (l.map Pf.q) known) person parish day iv = ((reads (cntL (l.map Pf.q) known)).find? (shB (cntL (l.map Pf.q) known) person parish day iv)).getD [] from rfl)
 have HPI := Lib.hid (fun p (hp : p ∈ l.filter fun p => cnt p.q known) => ha.p p (List.mem_filter.1 hp).1)
 obtain ⟨re, hre⟩ : ∃ s, readE (l.map Pf.q) person parish [day, known] known = s := ⟨_, rfl⟩
 rw [hre] at HOK T HSE
 obtain ⟨se, hse⟩ : ∃ s, shE (l.map Pf.q) person parish day known iv = s := ⟨_, rfl⟩
 obtain ⟨sl, hsl⟩ : ∃ s, shL (cntL (l.map Pf.q) known) person parish day iv = s := ⟨_, rfl⟩
 rw [hse] at HSE ⊢
 rw [hsl] at HSL ⊢
 have G1 := Lib.hid g1
 have G2 := Lib.hid (extTrans g1 g2)
 have G12 := Lib.hid g2
 have BP := Lib.hid bp
 have BQ := Lib.hid bq'
 have BD := Lib.hid bd
 have BI := Lib.hid bi
 have BR := Lib.hid br
 have BE := Lib.hid be
 have p0 := bp.cell 0
 have q0' := bq'.cell 0
 have d0 := bd.cell 0
 have HW1 := Lib.hid hW1
 have HW2 := Lib.hid hW2
 have S1 := Lib.hid s1
 have HT := Lib.hid T
 clear ha hre hse hsl g1 g2 bp bq' bd bi br be b2 s1 hW1 hW2 T
 by_cases hz : re = 0
 ·subst hz
  refine (callsIn_wide (n := 4)).1 (callsIn_of_wp_marks Tryz.func30 rfl trivial ?_ rfl)
  simp only [Tryz.ntmps30, List.size_toArray, List.length_cons, List.length_nil, Nat.reduceAdd, Nat.reduceSub, Array.replicate_succ, Array.replicate_zero, List.push_toArray, List.append_toArray, List.nil_append, List.cons_append]
  gi_wp2_with fail
  rw [HW1.out]
  gi_wp2_with fail
  rw [HW2.out]
  refine ⟨trivial, (callsIn_wide.2 HT.out).mono ?_⟩
  rintro e V ⟨D, k, d, rfl, ho, -, hg⟩
  have HO := Lib.hid (ho rfl)
  have GV := Lib.hid (show Below W1.heap.size W1 V from G12.out.trans (hg.mono G12.out.size))
  obtain ⟨hok, hper, -, hdays⟩ := HOK.out (by trivial)
  have HCN := Lib.hid (cn_of hok HO.out.1 HO.out.2.1)
  have HP64 := Lib.hid (And.intro (in64_person hper) (in64_day (hdays day (by simp))))
  obtain ⟨V2, hV2⟩ : ∃ X, V.alloc (.cells #[.slice D k d] 22) = X := ⟨_, rfl⟩
  have gv2 : Below V.heap.size V V2 := by rw [← hV2]; exact one_more _ _
  have bt : Blk V2 V.heap.size 22 #[.slice D k d] := by rw [← hV2]; exact Blk.new _ _ _
  have sv2 : V2.heap.size = V.heap.size + 1 := by rw [← hV2]; simp
  obtain ⟨V3, hV3⟩ : ∃ X, V2.alloc (.cells #[.slice D k d] 22) = X := ⟨_, rfl⟩
  have gv3 : Below V2.heap.size V2 V3 := by rw [← hV3]; exact one_more _ _
  have bq3 : Blk V3 V2.heap.size 22 #[.slice D k d] := by rw [← hV3]; exact Blk.new _ _ _
  have sv3 : V3.heap.size = V2.heap.size + 1 := by rw [← hV3]; simp
  have GW := Lib.hid (show Below W1.heap.size W1 V2 from GV.out.trans (gv2.mono GV.out.size))
  have HSZ := Lib.hid (show W1.heap.size ≤ V.heap.size from GV.out.size)
  have HPR := Lib.hid (show ∀ W, Ag (fun k => k < V2.heap.size ∧ k ≠ w.heap.size + 1 + 1 + 1 + 1 ∧ k ≠ w.heap.size + 1 + 1 + 1 + 1 + 1) V2 W → Prf W D k (l.filter fun p => cnt p.q known) from fun W gW => by
   have h1 := S1.out
   have h2 := HSZ.out
   have h3 := sv2
   refine ⟨(HO.out.1.below gv2).a.ag (fun b o e _ => ?_) gW, fun p hp => ?_⟩
   ·have h4 := HO.out.2.2.2.2 b o e
    have h5 := G12.out.size
    have h6 : b < V2.heap.size ∨ ¬ b < V2.heap.size := Classical.em _
    rcases h6 with h6 | h6
    ·exact ⟨h6, by omega, by omega⟩
    ·exfalso
     obtain ⟨b', o', e', hb', -⟩ := (HO.out.1.below gv2).a.2 (by omega)
     rw [e] at e'
     cases e'
     exact h6 hb'
   ·have hpi := HPI.out p hp
    have hpV := (hpi.below G1.out).below GW.out
    refine ⟨hpV.i.ag (fun b o e hn0 => ?_) gW, hpV.m⟩
    obtain ⟨b', o', e', hb', -⟩ := hpi.i.2 hn0
    rw [e] at e'
    cases e'
    exact ⟨by omega, by omega, by omega⟩)
  have HLT := Lib.hid (show ∀ k, (fun k => k < V2.heap.size ∧ k ≠ w.heap.size + 1 + 1 + 1 + 1 ∧ k ≠ w.heap.size + 1 + 1 + 1 + 1 + 1) k → k < V2.heap.size from fun k h => h.1)
  have HSQ := Lib.hid (readingsJ_seq (fun k => k < V2.heap.size ∧ k ≠ w.heap.size + 1 + 1 + 1 + 1 ∧ k ≠ w.heap.size + 1 + 1 + 1 + 1 + 1) V2 HLT.out D k d (l.filter fun p => cnt p.q known) HPR.out (by have := HO.out.2.1; omega) V2.heap.size V3 gv3 bq3)
  rw [HFM.out] at HSQ
  have GV2 := Lib.hid gv2
  have GV3 := Lib.hid gv3
  have BT := Lib.hid bt
  have SV2 := Lib.hid sv2
  have SV3 := Lib.hid sv3
  have HV2 := Lib.hid hV2
  have HV3 := Lib.hid hV3
  have HFQ := Lib.hid (show ((l.filter fun p => cnt p.q known).map Pf.q) = cntL (l.map Pf.q) known from HFM.out)
  obtain ⟨cq, hcq⟩ : ∃ q, cntL (l.map Pf.q) known = q := ⟨_, rfl⟩
  rw [hcq] at HSQ HSL HSE HFQ
  obtain ⟨sf, hsf⟩ : ∃ f, shB cq person parish day iv = f := ⟨_, rfl⟩
  rw [hsf] at HSL HSE
  have HSF := Lib.hid hsf
  have HSE2 := Lib.hid (show se = if ((reads cq).find? sf).isSome = true then 0 else 3 by have := HSE.out; rwa [if_pos (by trivial)] at this)
  clear hg ho hok hper hdays hV2 gv2 bt sv2 hV3 gv3 bq3 sv3 hcq hsf p0 q0' d0
  gi_wp2_with fail
  rw [HV2.out]
  refine ⟨trivial, (callsIn_wide.2 (readings_any _ _ _ _)).mono ?_⟩
  rintro e w' ⟨rfl, hw'⟩
  rw [HV3.out] at hw'
  subst hw'
  gi_wp2_with fail
  have HRS := Lib.hid (And.intro S1.out (And.intro HSZ.out (And.intro SV2.out SV3.out)))
  have HBR3 := Lib.hid (show Blk V3 (w.heap.size + 1 + 1 + 1 + 1) 25 #[.slice none 0 0] from (BR.out.ext GW.out).ext GV3.out)
  have HBE3 := Lib.hid (show Blk V3 (w.heap.size + 1 + 1 + 1 + 1 + 1) 26 #[.int .i64 0] from (BE.out.ext GW.out).ext GV3.out)
  have HGW3 := Lib.hid (show Below w.heap.size w V3 from (G1.out.trans (GW.out.mono G1.out.size)).trans (GV3.out.mono (Nat.le_trans G1.out.size GW.out.size)))
  refine wp_rangeW (α := Rd) (n := 4) (by omega) (gf := 136) (lb := #[ptr V2.heap.size]) rfl (enters_of Tryz.func136 (by kernel_rfl) rfl) HSQ.out (Below.refl _ _) (fun _ => rfl)
   (fun F pre W => F (w.heap.size + 1 + 1 + 1 + 1) ∧ F (w.heap.size + 1 + 1 + 1 + 1 + 1) ∧ Ag (fun k => k < V2.heap.size ∧ k ≠ w.heap.size + 1 + 1 + 1 + 1 ∧ k ≠ w.heap.size + 1 + 1 + 1 + 1 + 1) V2 W ∧ Blk W (w.heap.size + 1 + 1 + 1 + 1) 25 #[.slice none 0 0] ∧ Blk W (w.heap.size + 1 + 1 + 1 + 1 + 1) 26 #[.int .i64 0] ∧ Below w.heap.size w W ∧ ∀ y ∈ pre, sf y.r = false)
   (fun cd F pre W => cd = .ret ∧ Below w.heap.size w W ∧ ShStop sf w.heap.size (w.heap.size + 1 + 1 + 1 + 1) (w.heap.size + 1 + 1 + 1 + 1 + 1) F pre W) ?hI ?hIx
   (fun pre x l o A hl h hr => gwR_put o h hr) (fun j hj => by obtain ⟨h1, h2, h3, h4⟩ := HRS.out; exact ⟨fun h => by have := h.1; omega, by omega⟩) (fun j => j = w.heap.size + 1 + 1 + 1 + 1 ∨ j = w.heap.size + 1 + 1 + 1 + 1 + 1) (fun j hj => by obtain ⟨h1, h2, h3, h4⟩ := HRS.out; exact ⟨by omega, fun h => by have := h.2; omega, by omega⟩)
   ⟨.inl rfl, .inr rfl, ⟨GV3.out.size, fun j hj => GV3.out.block j hj.1⟩, HBR3.out, HBE3.out, HGW3.out, fun y hy => absurd hy (by simp)⟩
   (fun x a' => a' = { tmps := #[.slice A n c, .int .i64 person, .int .i64 parish, .int .i64 day, .int .i64 known, .bool iv, undef, ptr w.heap.size, ptr (w.heap.size + 1), ptr (w.heap.size + 1 + 1), undef, ptr (w.heap.size + 1 + 1 + 1), ptr (w.heap.size + 1 + 1 + 1 + 1), ptr (w.heap.size + 1 + 1 + 1 + 1 + 1), ptr V.heap.size, .int .i64 0, .slice x.A x.n x.c, .tuple #[.slice D k d, .int .i64 0], .int .i64 person, .int .i64 parish, .int .i64 day, .int .i64 known, .slice (some ⟨w.heap.size + 1 + 1 + 1 + 1 + 1 + 1, 0, none⟩) 2 2, .agg #[.int .i64 person, .int .i64 parish, .slice (some ⟨w.heap.size + 1 + 1 + 1 + 1 + 1 + 1, 0, none⟩) 2 2], .slice A n c, .tuple #[.slice D k d, .int .i64 0], .slice D k d, .int .i64 0, .int .i64 0, .bool false, undef, .slice D k d, .func (.func 136) #[] #[ptr V2.heap.size], .slice x.A x.n x.c, undef, undef, undef, undef, undef, undef, undef, undef, undef, undef, undef], defers := [] }) ?assign ?body ?done ?stop
  case hI =>
   rintro F t X Y ⟨h1, h2, h3, h4, h5, h6, h7⟩ hi
   exact ⟨h1, h2, h3.it HLT.out (by have := SV3.out; omega) hi, hi.blk h4 (.inr h1), hi.blk h5 (.inr h2), hi.below h6 (by obtain ⟨h1, h2, h3, h4⟩ := HRS.out; omega) (Nat.le_refl _), h7⟩
  case hIx =>
   rintro cd F t X Y ⟨h1, h2, h3⟩ hi
   exact ⟨h1, hi.below h2 (by obtain ⟨h1, h2, h3, h4⟩ := HRS.out; omega) (Nat.le_refl _), h3.it hi⟩
  case assign =>
   rintro lr x X K hK
   unfold encR
   gi_wp2
   simp
  case body =>
   rintro lr F pre x a' X hl - ⟨h1, h2, h3, h4, h5, h6, h7⟩ ⟨hgi, hgn, hgm, post, hpo⟩ rfl
   have hxr : isRd cq x.r = true := mem_reads.1 (by rw [← hpo]; simp)
   have hxn : x.n = k := by
    have e1 := (isRd_zip.1 hxr).1
    rw [← HFQ.out, List.length_map, HCN.out.prf.len] at e1
    rw [← e1, hgi.1]
   have TS := Lib.hid (fun (z : Wd X) => settledBy_any D k d x.A x.c (l.filter fun p => cnt p.q known) x.r person day z.val ⟨(HPR.out _ (h3.below HLT.out z.ok)), by rw [← hxn]; exact hgi.below z.ok, by have := HCN.out.n; omega, HCN.out.q, HCN.out.src⟩ HP64.out.1 HP64.out.2)
   rw [HFQ.out] at TS
   obtain ⟨sv, hsv⟩ : ∃ q, setS cq x.r person day = q := ⟨_, rfl⟩
   rw [hsv] at TS
   obtain ⟨bv, hbv⟩ : ∃ q, ((sv == parish) == iv) = q := ⟨_, rfl⟩
   have HBV := Lib.hid (show sf x.r = bv by rw [← HSF.out, ← hbv, ← hsv]; rfl)
   have HPN := Lib.hid (show x.n ≤ 1000000 by have := HCN.out.n; omega)
   have TC := Lib.hid (fun (W : World) (g : Below X.heap.size X W) => cloneI_any x.A x.n x.c x.r W (hgi.below g) (by have := HPN.out; omega))
   have HB1 := Lib.hid h1
   have HB2 := Lib.hid h2
   have HAG := Lib.hid h3
   have HR1 := Lib.hid h4
   have HR2 := Lib.hid h5
   have HGX := Lib.hid h6
   have H7 := Lib.hid h7
   obtain ⟨z1, z2, z3, z4⟩ := HRS.out
   have u0 := cellW ((HAG.out.blk BT.out ⟨by omega, by omega, by omega⟩).cell 0)
   have u1 := cellW ((HAG.out.blk (BP.out.ext GW.out) ⟨by omega, by omega, by omega⟩).cell 0)
   have u2 := cellW ((HAG.out.blk (BQ.out.ext GW.out) ⟨by omega, by omega, by omega⟩).cell 0)
   have u3 := cellW ((HAG.out.blk (BD.out.ext GW.out) ⟨by omega, by omega, by omega⟩).cell 0)
   have u4 := cellW ((HAG.out.blk (BI.out.ext GW.out) ⟨by omega, by omega, by omega⟩).cell 0)
   rw [hxn] at TC ⊢
   clear h1 h2 h3 h4 h5 h6 h7 hgi hgn hgm hpo hxr hxn hsv z1 z2 z3 z4
   gi_wp2_with fail
   refine wpIn_region_quiet (Open.round lr) (C := fun w' => ∃ x : Wd X, w' = x.val) (by kernel_rfl) (by kernel_rfl) (by kernel_rfl) (Wd.of (Below.refl _ _).drew) ?_
   repeat (go_big_quiet_step (first | (go_at_call 89; exact callsCalm (TS.out _))))
   refine wpQuiet_nil ?_
   rintro _ ⟨z, rfl⟩
   clear u0 u1 u2 u3 u4
   have GZ := Lib.hid z.ok
   obtain ⟨Z, hZ⟩ : ∃ Z, z.val = Z := ⟨_, rfl⟩
   rw [hZ] at GZ ⊢
   clear hZ z
   cases bv with
   | false =>
    gi_wp2
    refine ⟨F, Ro.of_below GZ.out, HB1.out, HB2.out, HAG.out.below HLT.out GZ.out, HR1.out.ext GZ.out, HR2.out.ext GZ.out, HGX.out.trans (GZ.out.mono HGX.out.size), fun y hy => ?_⟩
    rcases List.mem_append.1 hy with hy | hy
    ·exact H7.out y hy
    ·rw [List.mem_singleton.1 hy]; exact HBV.out
   | true =>
    have HZ1 := Lib.hid (HR1.out.ext GZ.out)
    have HZ2 := Lib.hid (HR2.out.ext GZ.out)
    gi_wp2_with (refine ⟨trivial, (CallsIn.inRound lr (callsIn_wide.2 (TC.out Z GZ.out))).mono ?_⟩; rintro e V5 ⟨⟨v, rfl, ho⟩, hg⟩; obtain ⟨D5, d5, hv5, hd3, hd4, -, -⟩ := OwnL.arr kdI ho; obtain ⟨k5, hk5⟩ : ∃ q, x.r.length = q := ⟨_, rfl⟩; rw [hk5] at hv5; subst hv5; have HO5 := Lib.hid ho; have HG5 := Lib.hid hg; have r0 := (HZ1.out.ext hg).cell 0; have r1 := (HZ1.out.ext hg).frozen 0; have s0 := ((HZ2.out.ext hg).far (p := ⟨w.heap.size + 1 + 1 + 1 + 1, 0, none⟩) (by show w.heap.size + 1 + 1 + 1 + 1 + 1 ≠ w.heap.size + 1 + 1 + 1 + 1; omega) (.slice D5 k5 d5)).cell 0; have s1 := ((HZ2.out.ext hg).far (p := ⟨w.heap.size + 1 + 1 + 1 + 1, 0, none⟩) (by show w.heap.size + 1 + 1 + 1 + 1 + 1 ≠ w.heap.size + 1 + 1 + 1 + 1; omega) (.slice D5 k5 d5)).frozen 0; clear ho hg hd3 hd4 hk5)
    have HOB := Lib.hid (fun (j : Nat) (e : Value.ownBlock (.slice D5 k5 d5) = some j) => (⟨(own_block HO5.out e).1, by obtain ⟨-, cur, hb⟩ := own_block HO5.out e; exact hb.lt⟩ : Z.heap.size ≤ j ∧ j < V5.heap.size))
    have hx1 := HZ1.out.lt
    have hx2 := HZ2.out.lt
    have hgs := GZ.out.size
    refine ⟨fun j => F j ∨ Value.ownBlock (.slice D5 k5 d5) = some j, ro_more (((Ro.of_below (GZ.out.trans (HG5.out.mono GZ.out.size))).trans (Ro.setCell (p := ⟨w.heap.size + 1 + 1 + 1 + 1, 0, none⟩) HB1.out _)).trans (Ro.setCell (p := ⟨w.heap.size + 1 + 1 + 1 + 1 + 1, 0, none⟩) HB2.out _)) (fun j hj => ?_), rfl, ?_, .inl HB1.out, .inl HB2.out, ?_, x, pre, D5, k5, d5, rfl, H7.out, HBV.out, ?_, ?_, fun j hj => .inr hj⟩
    ·have h1 := HOB.out j hj
     simp [World.setCell]
     omega
    ·exact (((HGX.out.trans (GZ.out.mono HGX.out.size)).trans (HG5.out.mono (Nat.le_trans HGX.out.size GZ.out.size))).setCell (p := ⟨w.heap.size + 1 + 1 + 1 + 1, 0, none⟩) (by show w.heap.size ≤ w.heap.size + 1 + 1 + 1 + 1; omega) _).setCell (p := ⟨w.heap.size + 1 + 1 + 1 + 1 + 1, 0, none⟩) (by show w.heap.size ≤ w.heap.size + 1 + 1 + 1 + 1 + 1; omega) _
    ·have := (((HZ2.out.ext HG5.out).far (p := ⟨w.heap.size + 1 + 1 + 1 + 1, 0, none⟩) (by show w.heap.size + 1 + 1 + 1 + 1 + 1 ≠ w.heap.size + 1 + 1 + 1 + 1; omega) (.slice D5 k5 d5)).set_ 0 (.int .i64 0))
     exact this
    ·have := ((HZ1.out.ext HG5.out).set_ 0 (.slice D5 k5 d5)).far (p := ⟨w.heap.size + 1 + 1 + 1 + 1 + 1, 0, none⟩) (by show w.heap.size + 1 + 1 + 1 + 1 ≠ w.heap.size + 1 + 1 + 1 + 1 + 1; omega) (.int .i64 0)
     exact this
    ·refine OwnL.mono (own_far (own_far HO5.out (fun j hj => ?_) _) (fun j hj => ?_) _) (Nat.le_trans HGX.out.size GZ.out.size)
     ·have := (HOB.out j hj).1
      show j ≠ w.heap.size + 1 + 1 + 1 + 1
      omega
     ·have := (HOB.out j hj).1
      show j ≠ w.heap.size + 1 + 1 + 1 + 1 + 1
      omega
  case done =>
   rintro E F xs X hD hS ⟨h1, h2, h3, h4, h5, h6, h7⟩ hK
   have hnone := find_none hS h7
   have e1 : se = 3 := by rw [HSE2.out, hnone]; rfl
   have e2 : sl = [] := by rw [HSL.out, hnone]; rfl
   subst e1 e2
   obtain ⟨z1, z2, z3, z4⟩ := HRS.out
   have hne1 : w.heap.size + 1 + 1 + 1 + 1 ≠ E := by omega
   have hne2 : w.heap.size + 1 + 1 + 1 + 1 + 1 ≠ E := by omega
   have c0 := h4.cell 0
   have c1 := h4.frozen 0
   have B2' := h5.far (p := ⟨w.heap.size + 1 + 1 + 1 + 1, 0, none⟩) (by show w.heap.size + 1 + 1 + 1 + 1 + 1 ≠ w.heap.size + 1 + 1 + 1 + 1; omega) (.slice none 0 0)
   have c2 := B2'.cell 0
   have c3 := B2'.frozen 0
   have t0 := (((h4.set_ 0 (.slice none 0 0)).far (p := ⟨w.heap.size + 1 + 1 + 1 + 1 + 1, 0, none⟩) (by show w.heap.size + 1 + 1 + 1 + 1 ≠ w.heap.size + 1 + 1 + 1 + 1 + 1; omega) (.int .i64 3)).putObj hne1 (.deferred none)).cell 0
   have t1 := ((B2'.set_ 0 (.int .i64 3)).putObj hne2 (.deferred none)).cell 0
   have HK := Lib.hid (show ((X.setCell ⟨w.heap.size + 1 + 1 + 1 + 1, 0, none⟩ (.slice none 0 0)).setCell ⟨w.heap.size + 1 + 1 + 1 + 1 + 1, 0, none⟩ (.int .i64 3)).heap[E]? = some (.deferred (some [])) from (Below.heap_setCell _ _ _ _ (fun e => hne2 e.symm)).trans ((Below.heap_setCell _ _ _ _ (fun e => hne1 e.symm)).trans hK))
   have HG5 := Lib.hid (put_below ((h6.setCell (p := ⟨w.heap.size + 1 + 1 + 1 + 1, 0, none⟩) (by show w.heap.size ≤ w.heap.size + 1 + 1 + 1 + 1; omega) (.slice none 0 0)).setCell (p := ⟨w.heap.size + 1 + 1 + 1 + 1 + 1, 0, none⟩) (by show w.heap.size ≤ w.heap.size + 1 + 1 + 1 + 1 + 1; omega) (.int .i64 3)) (D := E) (by omega) (.deferred none))
   clear h1 h2 h3 h4 h5 h6 h7 hK hS hnone B2' z1 z2 z3 z4
   gi_wp2
   refine ⟨by simp, .inl ⟨_, _, rfl, run_takeDeferred HK.out, ?_⟩⟩
   refine ⟨.tuple #[.slice none 0 0, .int .i64 3], ?_, listEnd_no (by decide) HG5.out⟩
   simp [results, Tryz.results30, go_sem, t0, t1]
  case stop =>
   rintro E F cd pre X hD ⟨post, hS⟩ ⟨rfl, h5, h6⟩ hK
   obtain ⟨-, -, h2, x, pre0, D5, k5, d5, rfl, h3, h4, h7, h8, -⟩ := h6
   have hfind := find_first hS h3 h4
   have e1 : se = 0 := by rw [HSE2.out, hfind]; rfl
   have e2 : sl = x.r := by rw [HSL.out, hfind]; rfl
   subst e1 e2
   obtain ⟨z1, z2, z3, z4⟩ := HRS.out
   have hne1 : w.heap.size + 1 + 1 + 1 + 1 ≠ E := by omega
   have hne2 : w.heap.size + 1 + 1 + 1 + 1 + 1 ≠ E := by omega
   have t0 := (h7.putObj hne1 (.deferred none)).cell 0
   have t1 := (h2.putObj hne2 (.deferred none)).cell 0
   have hne : ∀ j, Value.ownBlock (.slice D5 k5 d5) = some j → j ≠ E := fun j hj e => by
    obtain ⟨-, cur, hb⟩ := own_block h8 hj
    rw [e] at hb
    have := (show X.heap[E]? = _ from hb).symm.trans hK
    cases this
   have HOP := Lib.hid (own_put h8 hne (.deferred none))
   have HK := Lib.hid hK
   have HG5 := Lib.hid (put_below h5 (D := E) (by omega) (.deferred none))
   clear h2 h3 h4 h5 h7 h8 hK hS hfind hne z1 z2 z3 z4
   gi_wp2
   refine ⟨by simp, .inl ⟨_, _, rfl, run_takeDeferred HK.out, ?_⟩⟩
   refine ⟨.tuple #[.slice D5 k5 d5, .int .i64 0], ?_, listEnd_ok HOP.out HG5.out⟩
   simp [results, Tryz.results30, go_sem, t0, t1]
 ·have hzb : (re != 0) = true := by simpa using hz
  have HZ := Lib.hid hz
  have e : se = re := by have := HSE.out; rwa [if_neg hz] at this
  subst e
  clear hz
  go_enter Tryz.func30, Tryz.ntmps30
  go_upto_region 1 with fail
  rw [HW1.out]
  go_upto_region 2 with (go_at_call 66; rw [HW2.out, S1.out]; (with_reducible refine (HT.out).mono ?_); rintro e V ⟨A2, n2, c2, rfl, -, ho, hg⟩; obtain ⟨rfl, rfl, rfl⟩ := ho HZ.out; have GV := Lib.hid (show Below W1.heap.size W1 V from G12.out.trans (hg.mono G12.out.size)); clear ho hg)
  obtain ⟨V2, hV2⟩ : ∃ X, V.alloc (.cells #[.slice none 0 0] 22) = X := ⟨_, rfl⟩
  have gv2 : Below V.heap.size V V2 := by rw [← hV2]; exact one_more _ _
  have GW := Lib.hid (show Below W1.heap.size W1 V2 from GV.out.trans (gv2.mono GV.out.size))
  have B1' := BR.out.ext GW.out
  have B2' := BE.out.ext GW.out
  have c0 := B1'.cell 0
  have c1 := B1'.frozen 0
  have B3' := B2'.far (p := ⟨w.heap.size + 1 + 1 + 1 + 1, 0, none⟩) (by show w.heap.size + 1 + 1 + 1 + 1 + 1 ≠ w.heap.size + 1 + 1 + 1 + 1; omega) (.slice none 0 0)
  have c2 := B3'.cell 0
  have c3 := B3'.frozen 0
  have t0 := ((B1'.set_ 0 (.slice none 0 0)).far (p := ⟨w.heap.size + 1 + 1 + 1 + 1 + 1, 0, none⟩) (by show w.heap.size + 1 + 1 + 1 + 1 ≠ w.heap.size + 1 + 1 + 1 + 1 + 1; omega) (.int .i64 se)).cell 0
  have t1 := (B3'.set_ 0 (.int .i64 se)).cell 0
  have HG5 := Lib.hid (((G1.out.trans (GW.out.mono G1.out.size)).setCell (p := ⟨w.heap.size + 1 + 1 + 1 + 1, 0, none⟩) (by show w.heap.size ≤ w.heap.size + 1 + 1 + 1 + 1; omega) (.slice none 0 0)).setCell (p := ⟨w.heap.size + 1 + 1 + 1 + 1 + 1, 0, none⟩) (by show w.heap.size ≤ w.heap.size + 1 + 1 + 1 + 1 + 1; omega) (.int .i64 se))
  rw [hV2]
  clear hV2 gv2 B1' B2' B3'
  go_wp2_with fail
  refine bodyPost_ret (v := .tuple #[.slice none 0 0, .int .i64 se]) ?_ rfl (listEnd_no HZ.out HG5.out)
  simp [results, Tryz.results30, go_sem, t0, t1]
end Go.Proofs.YtehhlgdkhecacaaGreat

namespace Go.Proofs.YtehhlgdkhecacaaGreat
open Go.RowKit Go.Shelf
set_option maxRecDepth 100000 in
theorem eqNil22 (a : Option Addr) (n c : Nat) (w : World) : (binOp .eql 22 (.slice a n c) (.slice none 0 0)).run Tryz.prog w = .ok (.bool a.isNone) w := by
 cases a <;> rfl
set_option maxRecDepth 100000 in
set_option maxHeartbeats 1000000 in
theorem cloneP_any (A : Option Addr) (n c : Nat) (xs : List Pf) (w : World) (ha : Arr pcells 9 w A n xs) (hn : n ≤ 1000000) :
  Calls Tryz.prog 69 #[.slice A n c] w fun e w' => (∃ v, e = .returned v ∧ OwnL pcells 9 56 w' w.heap.size v xs) ∧ Below w.heap.size w w' := by
 cases A with
 | none =>
  have h0 : n = 0 := by
   rcases Nat.eq_zero_or_pos n with h | h
   ·exact h
   ·obtain ⟨b, o, e, _⟩ := ha.2 h; cases e
  subst h0
  have : xs = [] := List.eq_nil_of_length_eq_zero ha.1
  subst this
  have heq := fun w => eqNil22 none 0 c w
  clear ha
  go_enter Tryz.func69, Tryz.ntmps69
  go_wp2_with fail
  go_ret
  exact ⟨⟨_, rfl, OwnL.nil _ _⟩, Below.refl _ _⟩
 | some a =>
  have heq := fun w => eqNil22 (some a) n c w
  have HOW := Lib.hid (show OwnL pcells 9 56 (w.alloc (.cells #[] 56)) w.heap.size (.slice (some ⟨w.heap.size, 0, none⟩) 0 0) [] from World.ownsRow_made (e := 56) (size := 9) w #[] 0 (Nat.le_refl w.heap.size) (by decide) rfl)
  have HAA := Lib.hid (ha.below (one_more w (.cells #[] 56)))
  clear ha
  go_enter Tryz.func69, Tryz.ntmps69
  go_wp2_with (first | (at_builtin; go_loud (refine wpList_app kdQ (by rfl) _ _ (by rfl) w.heap.size _ [] (by rfl) HOW.out (some a) n c xs (by rfl) HAA.out (by simpa using hn) (by simp) ?_); intro v' w' ho hbw hz; have HO := Lib.hid ho; have HB := Lib.hid (HOW.out.below hbw (Nat.le_refl _) (by simp)); clear ho hbw hz))
  go_ret
  exact ⟨⟨_, rfl, by have := HO.out; rwa [List.nil_append] at this⟩, (one_more w _).trans HB.out⟩
end Go.Proofs.YtehhlgdkhecacaaGreat

namespace Go.Proofs.YtehhlgdkhecacaaGreat
open Go.RowKit Go.Shelf
abbrev zP : Value := .agg #[.int .i64 0, .int .i64 0, .slice none 0 0, .int .i64 0, .int .i64 0, .int .i64 0, .int .i64 0, .int .i64 0, .int .i64 0]
/-- An append whose run is known. -/
theorem step_runA {w w' : World} {o : Oper} {ops : Array Oper} {a : Act} {K1 : Act → World → Prop} {Q : Exit → Act → World → Prop} {E : Prop} {t : TypeId} (hgd : o.guard = none) (s x : Operand)
  (ho : o.op = .call { callee := .builtin .append, args := #[s, x], argTypes := #[t, t] }) (v u : Value) {v' : Value} (hs : a.eval s = v) (hx : a.eval x = u)
  (hrun : (Builtin.append_ #[t, t] o.type #[v, u]).run Tryz.prog w = .ok v' w') (h : K1 (a.put o.dst v') w') :
  if Region.wanted o (yielded ops a.tmps) = true then Oper.wp Tryz.prog o a w K1 Q else E := by
 have hw : Region.wanted o (yielded ops a.tmps) = true := by simp [Region.wanted, hgd]
 rw [if_pos hw]
 unfold Oper.wp execOp
 simp only [ho, resolve, invoke, builtin, Sem.run_bind, Sem.run_pure, Result.andThen_ok, List.map_toArray, List.map_cons, List.map_nil, hs, hx, hrun]
 exact h
set_option maxRecDepth 100000 in
set_option maxHeartbeats 8000000 in
theorem delP_any (base g n c i : Nat) (l : List Pf) (w : World) (h : OwnL pcells 9 56 w base (.slice (some ⟨g, 0, none⟩) n c) l) (hi : i < n) (hn : n ≤ 1000) :
  Calls Tryz.prog 68 #[.slice (some ⟨g, 0, none⟩) n c, .int .i64 i, .int .i64 ((i : Int) + 1)] w fun e w' => e = .returned (.slice (some ⟨g, 0, none⟩) (n - 1) c) ∧ OwnL pcells 9 56 w' base (.slice (some ⟨g, 0, none⟩) (n - 1) c) (l.eraseIdx i) ∧ Fix g g w w' := by
 obtain ⟨hn0, hb, cur, hg, hnc, hm, hs, -⟩ := own_inv h
 have hfr := h.front pcells_len (i := i) (by omega)
 obtain ⟨A', c', hv', -, -, har, -⟩ := OwnL.arr kdQ h
 have hA' : A' = some ⟨g, 0, none⟩ := by cases hv'; rfl
 subst hA'
 rw [← hn0] at har
 clear hv'
 obtain ⟨i0, hi0, hz0, hz1, hz2⟩ := info_parts info56
 have hnews : ∀ j u, ((l.drop (i + 1)).flatMap pcells)[j]? = some u → w.cell? ((⟨g, if c = i + 1 then 0 else 0 + (i + 1) * 9, none⟩ : Addr).add j) = some u := by
  intro j u hu
  have hjl : j < ((l.drop (i + 1)).flatMap pcells).length := (List.getElem?_eq_some_iff.1 hu).1
  rw [flat_len pcells_len, List.length_drop] at hjl
  have hne : ¬ c = i + 1 := by omega
  rw [if_neg hne, add_at]
  have hjm : i + 1 + j / 9 < n := by omega
  obtain ⟨b', o', x, e1, -, hx, hc⟩ := har.at hjm
  cases e1
  have hd := Nat.div_add_mod j 9
  rw [← hd, Nat.mul_comm, flat_get pcells_len _ _ _ (Nat.mod_lt _ (by decide)), List.getElem?_drop, hx] at hu
  have := hc w (Below.refl _ _) (j % 9) u hu
  rw [show 0 + (i + 1) * 9 + j = 0 + (i + 1 + j / 9) * 9 + j % 9 by omega]
  exact this
 have happ := fun ty => run_append_fits (P := Tryz.prog) w.drew base 22 ty 56 i0 9 kdQ.ht hi0 hz1 g i c ((l.take i).flatMap pcells) (by have := hfr; unfold OwnL at this; rwa [List.length_take, Nat.min_eq_left (by omega)] at this) ⟨g, if c = i + 1 then 0 else 0 + (i + 1) * 9, none⟩ (n - (i + 1)) (c - (i + 1)) ((l.drop (i + 1)).flatMap pcells) (by rw [flat_len pcells_len, List.length_drop]; omega) hnews
  (fun u hu => by obtain ⟨x, -, hx⟩ := List.mem_flatMap.1 hu; exact pcells_one x u hx) (by omega)
 have HAP := Lib.hid happ
 have HN0 := Lib.hid hn0
 have HCM := Lib.hid hm
 have hw1 : i + (n - (i + 1)) = n - 1 := by omega
 rw [hw1] at HAP
 have hc1 : ¬ c < n := by omega
 have HB := Lib.hid hg
 have HH := Lib.hid h
 unfold maxLen at hm
 have hne : ((i : Int) == (i : Int) + 1) = false := by simp; omega
 have hq3 : ((i : Int) + 1).toNat = i + 1 := by omega
 have hq4 : (0 : Int) ≤ (i : Int) + 1 := by omega
 clear h hfr har hi0 hz0 hz1 hz2 hnews happ hg hb hs hn0
 have b1 : (0 : Int) ≤ (i : Int) := by omega
 have b2 : (i : Int) ≤ (c : Int) := by omega
 have b3 : (i : Int) + 1 ≤ (n : Int) := by omega
 have b4 : (n : Int) ≤ (c : Int) := by omega
 have b5 : (i : Int) ≤ (n : Int) := by omega
 by_cases hcl : c = i + 1
 ·have HAPc := Lib.hid (show n = i + 1 by omega)
  have hnn := HAPc.out
  subst hcl
  subst hnn
  rw [if_pos rfl] at HAP
  have b6 : (i : Int) ≤ (i : Int) + 1 := by omega
  go_enter Tryz.func68, Tryz.ntmps68
  go_upto_region 5 with fail
  obtain ⟨w1, hrun, how, hgr⟩ := HAP.out 22
  have HOW := Lib.hid how
  have HGR := Lib.hid hgr
  clear how hgr
  go_region_held3 (fun _ => True) (trivial) (fail)
  have hel : l.eraseIdx i = l.take i := by rw [List.eraseIdx_eq_take_drop_succ, List.drop_of_length_le (by rw [← HN0.out]; exact Nat.le_refl _), List.append_nil]
  have h2 : OwnL pcells 9 56 w base (.slice (some ⟨g, 0, none⟩) i (i + 1)) (l.take i) := HH.out.front pcells_len (i := i) (by omega)
  obtain ⟨-, -, cur2, hg2, -, -, hs2, -⟩ := own_inv h2
  obtain ⟨i1, hi1, hy0, hy1, hy2⟩ := info_parts info56
  have hclr := Lib.hid (fun ty => run_clear_gen w.drew 22 56 ty zP 9 g (i * 9) 1 1 Tryz.underlying22 (fun w => by simp [zeroValue, typeInfo, hi1, hy0]) (by omega) rfl (by decide) (by intro v hv; simp [Value.cells] at hv; rcases hv with rfl | rfl | rfl <;> rfl)
   (fun j hj => by
    have e1 := hg2.cell (i * 9 + j)
    rw [Array.getElem?_eq_getElem (by rw [hs2]; omega)] at e1
    exact Option.isSome_iff_exists.2 ⟨_, e1⟩) (fun j _ => hg2.frozen _))
  have hclr2 := hclr.out
  obtain ⟨vs, hvs⟩ : ∃ vs, (Builtin.zeroCells zP.cells 1).toList = vs := ⟨_, rfl⟩
  have HVL := Lib.hid (show vs.length = 1 * 9 by rw [← hvs]; exact zeroCells_len _ _)
  rw [hvs] at hclr2
  have HEL := Lib.hid hel
  have HO2 := Lib.hid h2
  clear hvs hclr hg2 hi1 hy0 hy1 hy2 hel h2
  go_wp2_with fail
  go_ret
  refine ⟨rfl, ?_, (show Fix g g w w.drew from ⟨rfl, rfl, rfl, Nat.le_refl _, fun _ _ _ _ => rfl⟩).trans (fix_setCells _ _ _)⟩
  rw [HEL.out]
  exact OwnL.behind pcells_len (w := w.drew) HO2.out (Nat.le_refl _) (by rw [HVL.out]; omega)
 ·rw [if_neg hcl, Nat.zero_add] at HAP
  go_enter Tryz.func68, Tryz.ntmps68
  go_upto_region 5 with fail
  obtain ⟨w1, hrun, how, hgr⟩ := HAP.out 22
  have HOW := Lib.hid how
  have HGR := Lib.hid hgr
  clear how hgr
  have HRU := Lib.hid hrun
  clear hrun
  go_region_held3 (fun _ => True) (trivial) (go_loud (refine step_runA (t := 22) (by rfl) _ _ (by rfl) _ _ (by rfl) (by rfl) HRU.out ?_))
  obtain ⟨-, -, cur2, hg2, -, -, hs2, -⟩ := own_inv (show OwnL pcells 9 56 w1 base (.slice (some ⟨g, 0, none⟩) (n - 1) c) (l.eraseIdx i) by
   have h1 := HOW.out
   rw [← List.flatMap_append, ← List.eraseIdx_eq_take_drop_succ] at h1
   unfold OwnL
   rw [show (l.eraseIdx i).length = n - 1 by rw [List.length_eraseIdx_of_lt (by rw [← HN0.out]; exact hi), ← HN0.out]]
   exact h1)
  obtain ⟨i1, hi1, hy0, hy1, hy2⟩ := info_parts info56
  have hclr := Lib.hid (fun ty => run_clear_gen w1 22 56 ty zP 9 g ((n - 1) * 9) (n - (n - 1)) (c - (n - 1)) Tryz.underlying22 (fun w => by simp [zeroValue, typeInfo, hi1, hy0]) (by omega) rfl (by decide) (by intro v hv; simp [Value.cells] at hv; rcases hv with rfl | rfl | rfl <;> rfl)
   (fun j hj => by rw [hg2.cell, Array.getElem?_eq_getElem (by rw [hs2]; omega)]; rfl) (fun j _ => hg2.frozen _))
  have hclr2 := hclr.out
  obtain ⟨vs, hvs⟩ : ∃ vs, (Builtin.zeroCells zP.cells (n - (n - 1))).toList = vs := ⟨_, rfl⟩
  have HVL := Lib.hid (show vs.length = (n - (n - 1)) * 9 by rw [← hvs]; exact zeroCells_len _ _)
  rw [hvs] at hclr2
  have HG2 := Lib.hid hg2
  have hca : ¬ c = n - 1 := by omega
  have q1 : ((n - 1 : Nat) : Int) ≤ (n : Int) := by omega
  have q2 : (0 : Int) ≤ (n : Int) := by omega
  have q3 : (0 : Int) ≤ ((n - 1 : Nat) : Int) := by omega
  clear hvs hclr hg2 hi1 hy0 hy1 hy2 hcl
  go_wp2_with fail
  go_ret
  have hel : (l.eraseIdx i).length = n - 1 := by rw [List.length_eraseIdx_of_lt (by rw [← HN0.out]; exact hi), ← HN0.out]
  have h1 := HOW.out
  rw [← List.flatMap_append, ← List.eraseIdx_eq_take_drop_succ] at h1
  have h2 : OwnL pcells 9 56 w1 base (.slice (some ⟨g, 0, none⟩) (n - 1) c) (l.eraseIdx i) := by unfold OwnL; rw [hel]; exact h1
  refine ⟨rfl, h2.behind pcells_len (Nat.le_refl _) (by rw [HVL.out]; omega), (show Fix g g w w1 from ⟨HGR.out.os, HGR.out.tape, HGR.out.output, HGR.out.size, fun k hk h3 _ => HGR.out.block k hk (by intro e; cases e; exact h3 rfl)⟩).trans (fix_setCells _ _ _)⟩
end Go.Proofs.YtehhlgdkhecacaaGreat

namespace Go.Proofs.YtehhlgdkhecacaaGreat
open Go.RowKit Go.Shelf
theorem neqT (x y : Tt) (w : World) : (binOp .neq 67 (.agg #[.int .i64 x.day, .int .i64 x.par, .int .i64 x.src]) (.agg #[.int .i64 y.day, .int .i64 y.par, .int .i64 y.src])).run Tryz.prog w = .ok (.bool (!decide (x = y))) w := by
 obtain ⟨a, b, c⟩ := x
 obtain ⟨a', b', c'⟩ := y
 by_cases h1 : a = a' <;> by_cases h2 : b = b' <;> by_cases h3 : c = c' <;> simp [go_sem, h1, h2, h3]
def t1 (l : List Tt) (k : Nat) : Tt := l.getD k t0
theorem tit_at {w : World} {A : Option Addr} {n : Nat} {l : List Tt} (h : Arr tcells 3 w A n l) {k : Nat} (hk : k < n) : ∃ b o, A = some ⟨b, o, none⟩ ∧ ∀ w', Below w.heap.size w w' → w'.cell? ⟨b, o + k * 3, none⟩ = some (.int .i64 (t1 l k).day) ∧ w'.cell? ⟨b, o + k * 3 + 1, none⟩ = some (.int .i64 (t1 l k).par) ∧ w'.cell? ⟨b, o + k * 3 + 2, none⟩ = some (.int .i64 (t1 l k).src) := by
 obtain ⟨b, o, x, rfl, -, hx, hc⟩ := h.at hk
 have e : t1 l k = x := by unfold t1; rw [List.getD_eq_getElem?_getD, hx]; rfl
 rw [e]
 exact ⟨b, o, rfl, fun w' hw => ⟨hc w' hw 0 _ rfl, hc w' hw 1 _ rfl, hc w' hw 2 _ rfl⟩⟩
theorem eq_of_t1 {l l' : List Tt} (hl : l.length = l'.length) (h : ∀ j, j < l.length → t1 l j = t1 l' j) : l = l' := by
 apply List.ext_getElem hl
 intro j h1 h2
 have := h j h1
 unfold t1 at this
 rw [List.getD_eq_getElem?_getD, List.getD_eq_getElem?_getD, List.getElem?_eq_getElem h1, List.getElem?_eq_getElem h2] at this
 exact this
set_option maxRecDepth 100000 in
theorem sameTits_any (A B : Option Addr) (n c m c' : Nat) (l l' : List Tt) (w : World) (ha : Arr tcells 3 w A n l) (hb : Arr tcells 3 w B m l') (hn : n ≤ 9223372036854775807) (hm : m ≤ 9223372036854775807) :
  Calls Tryz.prog 25 #[.slice A n c, .slice B m c'] w fun e w' => e = .returned (.bool (decide (l = l'))) ∧ Below w.heap.size w w' := by
 have HA := Lib.hid ha
 have HB := Lib.hid hb
 have hl := Lib.hid ha.1
 have hl' := Lib.hid hb.1
 clear ha hb
 by_cases hmn : n = m
 ·subst hmn
  go_enter Tryz.func25, Tryz.ntmps25
  go_wp2_with fail
  all_goals first
   | (exfalso; omega)
   | skip
  go_loopw [5] (fun i wr => ∃ k : Nat, k ≤ n ∧ i = .int .i64 k ∧ (∀ j, j < k → t1 l j = t1 l' j) ∧ Below w.heap.size w wr) (fun i _ => n - (intOf i).toNat)
  case atStart => exact ⟨0, Nat.zero_le _, rfl, by omega, Below.refl _ _⟩
  case round =>
   obtain ⟨k, hk, rfl, hno, hg⟩ := hrel
   have HN := Lib.hid hno
   have HG := Lib.hid hg
   clear hno
   by_cases hlt : k < n
   ·obtain ⟨b, o, rfl, hc⟩ := tit_at HA.out hlt
    obtain ⟨b', o', rfl, hc'⟩ := tit_at HB.out hlt
    obtain ⟨c0, c1, c2⟩ := hc wr hg
    obtain ⟨d0, d1, d2⟩ := hc' wr hg
    obtain ⟨x, hx⟩ : ∃ x, t1 l k = x := ⟨_, rfl⟩
    obtain ⟨y, hy⟩ : ∃ y, t1 l' k = y := ⟨_, rfl⟩
    have HX := Lib.hid hx
    have HY := Lib.hid hy
    rw [hx] at c0 c1 c2
    rw [hy] at d0 d1 d2
    clear hc hc' hx hy hg
    go_wp2_with fail
    replace c0 := cellW c0
    replace c1 := cellW c1
    replace c2 := cellW c2
    replace d0 := cellW d0
    replace d1 := cellW d1
    replace d2 := cellW d2
    by_cases hxy : x = y
    ·have hne : ∀ w, (binOp .neq 67 (.agg #[.int .i64 x.day, .int .i64 x.par, .int .i64 x.src]) (.agg #[.int .i64 y.day, .int .i64 y.par, .int .i64 y.src])).run Tryz.prog w = .ok (.bool false) w := fun w => by rw [neqT, decide_eq_true hxy]; rfl
     have HXY := Lib.hid hxy
     clear hxy
     refine wp_region_calm wr (by kernel_rfl) (by kernel_rfl) (Below.refl _ _) ?_
     repeat (go_big_quiet_step (fail))
     refine wpQuiet_nil ?_
     rintro _ ⟨z, rfl⟩
     go_wp2_with fail
     all_goals first
      | (exfalso; simp at *; done)
      | skip
     go_roundw
     case rel =>
      refine ⟨k + 1, by omega, by go_num, fun j hj => ?_, HG.out.trans (z.ok.mono HG.out.size)⟩
      by_cases hjk : j < k
      ·exact HN.out j hjk
      ·obtain rfl : j = k := by omega
       rw [HX.out, HY.out, HXY.out]
     case measure => simp [intOf]; omega
    ·have hne : ∀ w, (binOp .neq 67 (.agg #[.int .i64 x.day, .int .i64 x.par, .int .i64 x.src]) (.agg #[.int .i64 y.day, .int .i64 y.par, .int .i64 y.src])).run Tryz.prog w = .ok (.bool true) w := fun w => by rw [neqT, decide_eq_false hxy]; rfl
     have HXY := Lib.hid hxy
     clear hxy
     refine wp_region_calm wr (by kernel_rfl) (by kernel_rfl) (Below.refl _ _) ?_
     repeat (go_big_quiet_step (fail))
     refine wpQuiet_nil ?_
     rintro _ ⟨z, rfl⟩
     go_wp2_with fail
     all_goals first
      | (exfalso; omega)
      | skip
     go_ret
     have : decide (l = l') = false := by
      simp; rintro rfl; exact HXY.out (HX.out.symm.trans HY.out)
     rw [this]
     exact ⟨rfl, HG.out.trans (z.ok.mono HG.out.size)⟩
   ·obtain rfl : k = n := by omega
    clear hg
    go_wp2_with fail
    go_ret
    have : decide (l = l') = true := by
     simp; exact eq_of_t1 (by rw [hl.out, hl'.out]) (fun j hj => HN.out j (by rw [← hl.out]; exact hj))
    rw [this]
    exact ⟨rfl, HG.out⟩
 ·go_enter Tryz.func25, Tryz.ntmps25
  have hne : ((n : Int) != (m : Int)) = true := by simp; omega
  go_wp2_with fail
  all_goals first
   | (exfalso; omega)
   | skip
  go_ret
  have : decide (l = l') = false := by
   simp; rintro rfl; exact hmn (by rw [← hl.out, ← hl'.out])
  rw [this]
  exact ⟨rfl, Below.refl _ _⟩
end Go.Proofs.YtehhlgdkhecacaaGreat
