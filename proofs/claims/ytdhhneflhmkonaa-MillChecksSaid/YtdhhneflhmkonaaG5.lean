/- The mill's plan: 'serve': each comer gets what it demands, or the hours that were tried in vain. -/
import Derived.Test.YtdhhneflhmkonaaG4
import Derived.Test.YtdhhneflhmkonaaP2
import Derived.WalkMore
namespace Go.Proofs.Ytdhhneflhmkonaa
open Go.RowKit Go.Shelf

def icells (x : Int) : List Value := [.int .i64 x]
/-- A slice of numbers. -/
abbrev Ints (w : World) (A : Option Addr) (n : Nat) (xs : List Int) : Prop := Arr icells 1 w A n xs

theorem Arr.fix {α : Type} {f : α → List Value} {size : Nat} {w w' : World} {A : Option Addr} {n : Nat} {xs : List α} {bw bs : Nat} (h : Arr f size w A n xs) (k : Fix bw bs w w')
    (hd : ∀ b o, A = some ⟨b, o, none⟩ → 0 < n → b ≠ bw ∧ b ≠ bs) : Arr f size w' A n xs :=
  ⟨h.1, fun hn => by
    obtain ⟨b, o, rfl, hlt, hc⟩ := h.2 hn
    obtain ⟨h1, h2⟩ := hd b o rfl hn
    exact ⟨b, o, rfl, Nat.lt_of_lt_of_le hlt k.size, fun i x hx j u hu => (World.cell?_of_block (a := ⟨b, _, none⟩) (k.block b hlt h1 h2)).trans (hc i x hx j u hu)⟩⟩
theorem ints_at {w : World} {A : Option Addr} {n : Nat} {xs : List Int} (h : Ints w A n xs) {k : Nat} (hk : k < n) :
    ∃ b o, A = some ⟨b, o, none⟩ ∧ b < w.heap.size ∧ xs[k]? = some (xs.getD k 0) ∧ ∀ w', Below w.heap.size w w' → w'.cell? ⟨b, o + k, none⟩ = some (.int .i64 (xs.getD k 0)) := by
  obtain ⟨b, o, x, rfl, hb, hx, hc⟩ := h.at hk
  have e : xs.getD k 0 = x := by rw [List.getD_eq_getElem?_getD, hx]; rfl
  rw [e]
  exact ⟨b, o, rfl, hb, hx, fun w' hw => by have := hc w' hw 0 _ rfl; simpa using this⟩
/-- A second block is as new as the call. -/
theorem Fix.drop {A W W' : World} {bw bs : Nat} (h : Fix bw bw A W) (k : Fix bw bs W W') (hs : A.heap.size ≤ bs) : Fix bw bw A W' :=
  ⟨k.os.trans h.os, k.tape.trans h.tape, k.output.trans h.output, Nat.le_trans h.size k.size, fun i hi h1 _ => (k.block i (Nat.lt_of_lt_of_le hi h.size) h1 (by omega)).trans (h.block i hi h1 h1)⟩
theorem Mp.fix {W W' : World} {bp bw n cc H left : Nat} {A : Option Addr} {xs : List Comer} (h : Mp W bp bw A n cc H left xs) (f : Fix bw bw W W') : Mp W' bp bw A n cc H left xs :=
  ⟨f.cell h.h0 h.n1 h.n1, f.cell h.h1 h.n1 h.n1, f.cell h.h2 h.n1 h.n1, f.cell h.h3 h.n1 h.n1, h.arr.fix f (fun b o e hn => ⟨h.n2 b o e hn, h.n2 b o e hn⟩), h.n1, h.n2⟩
theorem Mp.ext {W W' : World} {bp bw n cc H left : Nat} {A : Option Addr} {xs : List Comer} (h : Mp W bp bw A n cc H left xs) (f : Below W.heap.size W W') : Mp W' bp bw A n cc H left xs :=
  h.fix (Fix.of_below f)

/-- The hours of the comers are sets of hours. -/
def Hrs (xs : List Comer) : Prop := ∀ x ∈ xs, 0 ≤ x.hours ∧ x.hours < 16777216
theorem Hrs.nat {xs : List Comer} (h : Hrs xs) {i : Nat} {x : Comer} (hx : xs[i]? = some x) : x.hours = (hrs xs i : Nat) := by
  have := h x (List.mem_of_getElem? hx)
  unfold hrs
  rw [List.getD_eq_getElem?_getD, hx]
  simp; omega
theorem Hrs.lt {xs : List Comer} (h : Hrs xs) (i : Nat) : hrs xs i < 16777216 := by
  unfold hrs
  rw [List.getD_eq_getElem?_getD]
  cases hx : xs[i]? with
  | none => simp
  | some x => have := h x (List.mem_of_getElem? hx); simp; omega

theorem Mp.plan {W : World} {bp bw n cc H left : Nat} {A : Option Addr} {xs : List Comer} (h : Mp W bp bw A n cc H left xs) (hx : Hrs xs) (hn : 0 < n) :
    ∃ b o, A = some ⟨b, o, none⟩ ∧ b < W.heap.size ∧ Plan W bp bw b o n cc H left xs := by
  obtain ⟨b, o, x, rfl, hb, -, -⟩ := h.arr.at hn
  refine ⟨b, o, rfl, hb, ⟨h.h0, h.h1, h.h2, h.h3, fun i hi => ?_, h.n1, h.n2 b o rfl hn⟩⟩
  obtain ⟨b', o', x, e, -, hx', hc⟩ := comer_at h.arr hi
  cases e
  rw [← hx.nat hx']
  exact (hc W (Below.refl _ _)).2.1

/-- How 'serve' ends. -/
def ServePost (bw n H left : Nat) (xs : List Comer) (d : List Int) (W : World) (e : Ending) (W' : World) : Prop :=
  Fix bw bw W W' ∧ ∃ wh, Blk W' bw 3 (vals wh) ∧ Asg n H (adj xs left) wh ∧
    ((e = .returned (.tuple #[.int .i64 0, .bool true]) ∧ ∀ j, j < n → wh.count (j : Int) = (d.getD j 0).toNat) ∨
     (∃ c s : Nat, e = .returned (.tuple #[.int .i64 ((s ||| hrs xs c : Nat) : Int), .bool false]) ∧ c < n ∧ StepF n H (adj xs left) c 0 wh s ∧
        (∀ j, j < n → wh.count (j : Int) ≤ (d.getD j 0).toNat) ∧ wh.count (c : Int) < (d.getD c 0).toNat))

/-- What the first i comers have, and k hours of the next one. -/
def cnt (d : List Int) (i k j : Nat) : Nat := if j < i then (d.getD j 0).toNat else if j = i then k else 0

set_option maxRecDepth 100000 in
set_option maxHeartbeats 4000000 in
theorem serve_any (bp bw n cc H left cd : Nat) (A D : Option Addr) (xs : List Comer) (d : List Int) (W : World) (hmp : Mp W bp bw A n cc H left xs) (hX : Hrs xs) (hH : H ≤ 24) (hl : left < 16777216) (hn : n ≤ 12)
    (hbw : Blk W bw 3 (vals (List.replicate H (-1)))) (hd : Ints W D n d) (hD : ∀ b o, D = some ⟨b, o, none⟩ → 0 < n → b ≠ bw) (hdb : ∀ x ∈ d, x ≤ 9223372036854775807) :
    Calls Try.prog 68 #[.pointer (some ⟨bp, 0, none⟩), .slice D n cd] W (ServePost bw n H left xs d W) := by
  have HMP := Lib.hid hmp
  have HHX := Lib.hid hX
  have HBW := Lib.hid hbw
  have HD := Lib.hid hd
  have HDd := Lib.hid hD
  have HDB := Lib.hid hdb
  clear hmp hX hbw hd hD hdb
  go_enter Try.func68, Try.ntmps68
  go_wp2_with fail
  go_step3
  go_wp2_with fail
  go_step3
  go_wp2_with fail
  go_loopw [11] (fun i wr => ∃ k : Nat, i = .int .i64 k ∧ k ≤ n ∧ Fix bw bw W wr ∧ ∃ wh, Blk wr bw 3 (vals wh) ∧ Asg n H (adj xs left) wh ∧ ∀ j, j < n → wh.count (j : Int) = cnt d k 0 j) (fun i _ => n - (intOf i).toNat)
  case atStart =>
    exact ⟨0, rfl, Nat.zero_le _, Fix.refl _ _ _, _, HBW.out, Asg.free _ _ _, fun j _ => by rw [count_free]; simp [cnt]⟩
  case round =>
    obtain ⟨i, rfl, hi, hfx, wh, hb, hasg, hcnt⟩ := hrel
    have HFX := Lib.hid hfx
    have HB := Lib.hid hb
    have HASG := Lib.hid hasg
    have HCNT := Lib.hid hcnt
    clear hfx hb hasg hcnt
    by_cases hin : i < n
    · have hD1 := HD.out.fix HFX.out (fun b o e hn => ⟨HDd.out b o e hn, HDd.out b o e hn⟩)
      obtain ⟨b, o, hDe, hbl, hdi, hcl⟩ := ints_at hD1 hin
      have hmb := HDB.out _ (List.mem_of_getElem? hdi)
      clear hdi
      have e0 := hcl wr (Below.refl _ _)
      obtain ⟨m, hm⟩ : ∃ m, d.getD i 0 = m := ⟨_, rfl⟩
      have HM := Lib.hid hm
      rw [hm] at e0 hmb
      clear hcl hm hD1
      subst hDe
      go_wp2_with fail
      go_loopw [17] (fun j wi => ∃ q : Nat, j = .int .i64 q ∧ q ≤ m.toNat ∧ Fix bw bw W wi ∧ ∃ wh, Blk wi bw 3 (vals wh) ∧ Asg n H (adj xs left) wh ∧ ∀ j, j < n → wh.count (j : Int) = cnt d i q j) (fun j _ => m.toNat - (intOf j).toNat)
      case atStart => exact ⟨0, rfl, Nat.zero_le _, HFX.out, wh, HB.out, HASG.out, HCNT.out⟩
      case round =>
        obtain ⟨q, rfl, hq, hfx, wh2, hb, hasg, hcnt⟩ := hrel
        rename World => wi
        have HFX2 := Lib.hid hfx
        have HB2 := Lib.hid hb
        have HASG2 := Lib.hid hasg
        have HCNT2 := Lib.hid hcnt
        clear hfx hb hasg hcnt
        by_cases hqm : (q : Int) < m
        · go_wp2_with fail
          have hbs := Blk.new wi 3 #[.int .i64 0]
          have hext : Below wi.heap.size wi (wi.alloc (.cells #[.int .i64 0] 3)) := (Below.refl _ _).alloc (Nat.le_refl _) _
          have hmp2 := (HMP.out.fix HFX2.out).ext hext
          have hb2 := HB2.out.ext hext
          have F1 := HFX2.out.trans (Fix.of_below hext)
          have hbwlt := HB2.out.lt
          have hbplt : bp < wi.heap.size := World.block_lt_of_cell? wi _ (HMP.out.fix HFX2.out).h0
          obtain ⟨ba, oa, hA, -, hpl0⟩ := (HMP.out.fix HFX2.out).plan HHX.out (by omega)
          have hpl := hpl0.ext hext
          have hbalt : ba < wi.heap.size := World.block_lt_of_cell? wi _ (hpl0.hx i hin)
          have hWle := HFX2.out.size
          have HWle := Lib.hid hWle
          obtain ⟨W1, hW1⟩ : ∃ W1, wi.alloc (.cells #[.int .i64 0] 3) = W1 := ⟨_, rfl⟩
          rw [hW1] at hbs hext hmp2 hb2 F1 hpl ⊢
          generalize wi.heap.size = bs at hbs hbwlt hbplt hbalt hWle HWle ⊢
          have HMP2 := Lib.hid hmp2
          have HF1 := Lib.hid F1
          have N := Lib.hid (show bp ≠ bs ∧ ba ≠ bs ∧ bw ≠ bs from by omega)
          refine (give_any bp bw bs ba oa n cc H left xs hH hl (fun i _ => HHX.out.lt i) W1 i 0 wh2 hpl N.out.1 N.out.2.1 N.out.2.2 hb2 hbs HASG2.out.len HASG2.out.weak (Nat.two_pow_pos H) hin).mono ?_
          clear hbs hext hmp2 hb2 F1 hbwlt hbplt hbalt hWle hpl0 hpl hW1
          rintro e W2 ⟨ok, s', wh3, rfl, hf2, hb3, hs3, hlt3, -, hyes, hno⟩
          have HF2 := Lib.hid (HF1.out.drop hf2 HWle.out)
          have HB3 := Lib.hid hb3
          have HS3 := Lib.hid hs3
          cases ok with
          | true =>
            have HT := Lib.hid (hyes rfl)
            clear hf2 hb3 hs3 hlt3 hyes hno
            go_wp2_with fail
            go_roundw
            case rel =>
              refine ⟨q + 1, by go_num, by omega, HF2.out, wh3, HB3.out, HASG2.out.step HT.out, fun j hj => ?_⟩
              rw [HT.out.count j, HCNT2.out j hj]
              unfold cnt
              by_cases h1 : j < i
              · rw [if_pos h1, if_pos h1, if_neg (by omega)]; rfl
              · rw [if_neg h1, if_neg h1]
                by_cases h2 : j = i
                · rw [if_pos h2, if_pos h2, if_pos h2]
                · rw [if_neg h2, if_neg h2, if_neg h2]
            case measure => simp [intOf]; omega
          | false =>
            obtain ⟨rfl, hF⟩ := hno rfl
            have HSF := Lib.hid hF
            have hs24 : s' < 16777216 := Nat.lt_of_lt_of_le hlt3 (Nat.pow_le_pow_right (by decide) hH)
            have hs0 : W2.cell? ⟨bs, 0, none⟩ = some (.int .i64 s') := hs3.cell 0
            have hmp3 := HMP.out.fix HF2.out
            have hp1 := hmp3.h1
            have hp1l : bp < W2.heap.size := World.block_lt_of_cell? W2 _ hp1
            obtain ⟨b3, o3, x3, e3, hb3l, hx3, hc3⟩ := comer_at hmp3.arr hin
            rw [hA] at e3 hp1
            cases e3
            have hx0 := (hc3 W2 (Below.refl _ _)).2.1
            rw [HHX.out.nat hx3] at hx0
            have ev := or64 s' (hrs xs i) (by omega) (by have := HHX.out.lt i; omega)
            have HEV := Lib.hid ev
            have F : ∀ x : Wd W2, x.val.cell? ⟨bs, 0, none⟩ = some (.int .i64 s') ∧ x.val.cell? ⟨bp, 1, none⟩ = some (.slice (some ⟨ba, oa, none⟩) n cc) ∧ x.val.cell? ⟨ba, oa + i * 3 + 1, none⟩ = some (.int .i64 (hrs xs i : Nat)) :=
              fun x => ⟨cellW hs0 x, cellW hp1 x, cellW hx0 x⟩
            have G : ∀ x : Wd W2, bp < x.val.heap.size := fun x => by have := x.size; omega
            clear hf2 hb3 hs3 hlt3 hyes hno hF hs0 hmp3 hp1 hx0 hc3 ev hp1l hb3l
            go_wp2_with fail
            refine wp_region_calm W2 (by kernel_rfl) (by kernel_rfl) (Below.refl _ _) ?_
            repeat (go_big_quiet_step (fail))
            refine wpQuiet_nil ?_
            rintro _ ⟨z, rfl⟩
            rw [HEV.out]
            go_wp2_with fail
            rw [Exit.noGoto_ret]
            go_ret2
            refine ⟨HF2.out.trans (Fix.of_below z.ok), wh3, HB3.out.ext z.ok, HASG2.out, .inr ⟨i, s', rfl, hin, HSF.out, fun j hj => ?_, ?_⟩⟩
            · rw [HCNT2.out j hj]
              unfold cnt
              have := HM.out
              by_cases h1 : j < i
              · rw [if_pos h1]; exact Nat.le_refl _
              · rw [if_neg h1]
                by_cases h2 : j = i
                · subst h2; rw [if_pos rfl, this]; exact hq
                · rw [if_neg h2]; exact Nat.zero_le _
            · rw [HCNT2.out i hin, HM.out]
              simp [cnt]; omega
        · go_wp2_with fail
          go_roundw
          case rel =>
            refine ⟨i + 1, by go_num, by omega, HFX2.out, wh2, HB2.out, HASG2.out, fun j hj => ?_⟩
            rw [HCNT2.out j hj]
            unfold cnt
            have := HM.out
            by_cases h1 : j < i
            · rw [if_pos h1, if_pos (by omega)]
            · rw [if_neg h1]
              by_cases h2 : j = i
              · subst h2; rw [if_pos rfl, if_pos (by omega), this]; omega
              · rw [if_neg h2, if_neg (by omega)]; simp
          case measure => simp [intOf]; omega
    · obtain rfl : i = n := by omega
      go_wp2_with fail
      rw [Exit.noGoto_ret]
      go_ret2
      refine ⟨HFX.out, wh, HB.out, HASG.out, .inl ⟨rfl, fun j hj => ?_⟩⟩
      rw [HCNT.out j hj]; simp [cnt, hj]
end Go.Proofs.Ytdhhneflhmkonaa
