/- The reference: Put. -/
import Derived.Test.YtkoejeghihcmlaaGreatUN
namespace Go.Proofs.YtkoejeghihcmlaaGreat
open Go.RowKit Go.Shelf

/-- What one element does to the list and to the mark. -/
def putS (n : Int) (s : List Int × Bool) (x : Int) : List Int × Bool :=
  let t := if decide (n ≤ x) && !s.2 then (s.1 ++ [n], true) else s
  if x = n then t else (t.1 ++ [x], t.2)
def putL (l : List Int) (n : Int) : List Int :=
  let s := l.foldl (putS n) ([], false)
  if s.2 then s.1 else s.1 ++ [n]
theorem putS1 {n x : Int} {acc : List Int} (_ : n ≤ x) (e : x = n) : putS n (acc, false) x = (acc ++ [n], true) := by unfold putS; simp [e]
theorem putS2 {n x : Int} {acc : List Int} (h : n ≤ x) (e : ¬ x = n) : putS n (acc, false) x = (acc ++ [n] ++ [x], true) := by unfold putS; simp [h, e]
theorem putS3 {n x : Int} {acc : List Int} {b : Bool} (h : b = true ∨ ¬ n ≤ x) (e : x = n) : putS n (acc, b) x = (acc, b) := by
  subst e
  have hb : b = true := by rcases h with h | h; exact h; exact absurd (Int.le_refl _) h
  unfold putS; simp [hb]
theorem putS4 {n x : Int} {acc : List Int} {b : Bool} (h : b = true ∨ ¬ n ≤ x) (e : ¬ x = n) : putS n (acc, b) x = (acc ++ [x], b) := by
  unfold putS
  rcases h with h | h
  · simp [h, e]
  · have : decide (n ≤ x) = false := by simpa using h
    simp [this, e]
theorem putS_len (n x : Int) (s : List Int × Bool) : (putS n s x).1.length ≤ s.1.length + 2 := by
  unfold putS
  dsimp only
  split <;> split <;> simp
theorem putF_len (n : Int) : ∀ (l : List Int) (s : List Int × Bool), (l.foldl (putS n) s).1.length ≤ s.1.length + 2 * l.length
  | [], _ => by simp
  | x :: l, s => by
    have h1 := putF_len n l (putS n s x)
    have h2 := putS_len n x s
    simp only [List.foldl_cons, List.length_cons]
    omega
theorem putF_snoc {n : Int} {l : List Int} {k : Nat} (hk : k < l.length) (s : List Int × Bool) : (l.take (k + 1)).foldl (putS n) s = putS n ((l.take k).foldl (putS n) s) (l.getD k 0) := by
  rw [List.take_succ_eq_append_getElem hk, List.foldl_append]
  simp [List.getD_eq_getElem?_getD, List.getElem?_eq_getElem hk]

set_option maxRecDepth 100000 in
set_option maxHeartbeats 4000000 in
theorem refPut_any (A : Option Addr) (n0 c0 : Nat) (l : List Int) (n : Int) (w : World) (hl : Ints w A n0 l) (hn : n0 ≤ 1000) :
    Calls Tryz.prog 126 #[.slice A n0 c0, .int .i64 n] w fun e w' => (∃ v, e = .returned v ∧ OwnL icells 1 3 w' w.heap.size v (putL l n)) ∧ Below w.heap.size w w' := by
  have HL := Lib.hid hl
  have HLEN0 := Lib.hid hl.1
  have HPL := Lib.hid (show putL l n = if (l.foldl (putS n) ([], false)).2 then (l.foldl (putS n) ([], false)).1 else (l.foldl (putS n) ([], false)).1 ++ [n] from rfl)
  have HGZ := Lib.hid (Below.refl w.heap.size w)
  have OS0 := Lib.hid (OwnL.nil (f := icells) (size := 1) (e := 3) w w.heap.size)
  obtain ⟨res, hres⟩ : ∃ r, putL l n = r := ⟨_, rfl⟩
  rw [hres] at HPL ⊢
  clear hl hres
  go_enter Tryz.func126, Tryz.ntmps126
  go_wp2_with fail
  go_loopw [5, 6, 7] (fun v d i wr => ∃ (k : Nat) (u : Value) (b : Bool) (acc : List Int), u = v ∧ d = .bool b ∧ i = .int .i64 k ∧ k ≤ n0 ∧ Below w.heap.size w wr ∧ OwnL icells 1 3 wr w.heap.size v acc ∧ (l.take k).foldl (putS n) ([], false) = (acc, b)) (fun _ _ i _ => n0 - (intOf i).toNat)
  case atStart => exact ⟨0, _, false, [], rfl, rfl, rfl, Nat.zero_le _, HGZ.out, OS0.out, by simp⟩
  case round =>
    obtain ⟨k, u, b, acc, rfl, rfl, rfl, hk, hg, hown, hst⟩ := hrel
    have HG := Lib.hid hg
    have HO := Lib.hid hown
    have HST := Lib.hid hst
    clear hst
    by_cases hkn : k < n0
    · obtain ⟨b0, o0, rfl, -, -, hc⟩ := ints_at (HL.out.below hg) hkn
      have HC := Lib.hid hc
      have x0 := hc _ (Below.refl _ _)
      have HLB := Lib.hid (show acc.length + 2 ≤ 1000000 by
        have h1 := putF_len n (l.take k) ([], false)
        rw [HST.out] at h1
        simp only [List.length_nil, List.length_take] at h1
        omega)
      have HN := Lib.hid (show (l.take (k + 1)).foldl (putS n) ([], false) = putS n (acc, b) (l.getD k 0) by rw [putF_snoc (by rw [HLEN0.out]; exact hkn), HST.out])
      obtain ⟨x, hxg⟩ : ∃ x, l.getD k 0 = x := ⟨_, rfl⟩
      have HXG := Lib.hid hxg
      rw [hxg] at x0 HN
      have hki : (k : Int) < (n0 : Int) := by omega
      have hws := HG.out.size
      have hk9 : k < 1000 := by omega
      have HKN := Lib.hid hkn
      clear hc hxg hg hown hkn
      have HXV := Lib.hid (fun (V : World) (g : Below w.heap.size w V) => (show V.cell? ⟨b0, o0 + k, none⟩ = some (.int .i64 x) by
        obtain ⟨b9, o9, e9, -, -, h9⟩ := ints_at (HL.out.below g) HKN.out
        cases e9
        have := h9 _ (Below.refl _ _)
        rwa [HXG.out] at this))
      by_cases hle : n ≤ x
      · have E1 := Lib.hid hle
        have e1 : n ≤ x := hle
        clear hle
        cases b
        case false =>
          have E2 := Lib.hid (show (true = true) from rfl)
          by_cases hx : x = n
          · have E3 := Lib.hid hx
            have e3 : (x != n) = false := by simp [hx]
            clear hx
            have OX1 := Lib.hid (HO.out.ext (one_more wr (.cells #[.int .i64 n] 3)))
            have IX1 := Lib.hid (one_int (Blk.new wr 3 #[.int .i64 n]))
            go_wp2_with (at_builtin; go_loud (refine wpList_app kdI (by rfl) _ _ (by rfl) w.heap.size _ acc (by rfl) OX1.out _ 1 1 [n] (by rfl) IX1.out (by have := HLB.out; omega) (by simp; omega) ?_); intro v1 w1 ho hbw hz; have HO1 := Lib.hid ho; have HB1 := Lib.hid (((HG.out.trans ((one_more wr _).mono HG.out.size)).trans ((OX1.out).below hbw (B := w.heap.size) (Nat.le_refl _) (by simp; omega)))); have x1 := HXV.out w1 HB1.out; clear ho hbw hz)
            go_roundw
            case rel => exact ⟨k + 1, _, true, _, rfl, rfl, by go_num, by omega, HB1.out, HO1.out, by rw [HN.out]; first | exact putS1 E1.out E3.out | exact putS2 E1.out E3.out | exact putS3 (.inl rfl) E3.out | exact putS4 (.inl rfl) E3.out | exact putS3 (.inr E1.out) E3.out | exact putS4 (.inr E1.out) E3.out⟩
            case measure => simp [intOf]; omega
          · have E3 := Lib.hid hx
            have e3 : (x != n) = true := by simpa using hx
            clear hx
            have OX1 := Lib.hid (HO.out.ext (one_more wr (.cells #[.int .i64 n] 3)))
            have IX1 := Lib.hid (one_int (Blk.new wr 3 #[.int .i64 n]))
            go_wp2_with (first
              | (at_builtin; go_loud (refine wpList_app kdI (by rfl) _ _ (by rfl) w.heap.size _ acc (by rfl) OX1.out _ 1 1 [n] (by rfl) IX1.out (by have := HLB.out; omega) (by simp; omega) ?_); intro v1 w1 ho hbw hz; have HO1 := Lib.hid ho; have HB1 := Lib.hid ((HG.out.trans ((one_more wr _).mono HG.out.size)).trans ((OX1.out).below hbw (B := w.heap.size) (Nat.le_refl _) (by simp; omega))); have HS1 := HB1.out.size; have x1 := HXV.out w1 HB1.out; have OX2 := Lib.hid (HO1.out.ext (one_more w1 (.cells #[.int .i64 x] 3))); have IX2 := Lib.hid (one_int (Blk.new w1 3 #[.int .i64 x])); clear ho hbw hz)
              | (at_builtin; go_loud (refine wpList_app kdI (by rfl) _ _ (by rfl) w.heap.size _ (acc ++ [n]) (by rfl) OX2.out _ 1 1 [x] (by rfl) IX2.out (by have := HLB.out; first | omega | (simp only [List.length_append, List.length_cons, List.length_nil]; omega)) (by have := HB1.out.size; simp; omega) ?_); intro v2 w2 ho hbw hz; have HO2 := Lib.hid ho; have HB2 := Lib.hid ((HB1.out.trans ((one_more w1 _).mono HB1.out.size)).trans ((OX2.out).below hbw (B := w.heap.size) (Nat.le_refl _) (by have := HB1.out.size; simp; omega))); clear ho hbw hz))
            go_roundw
            case rel => exact ⟨k + 1, _, true, _, rfl, rfl, by go_num, by omega, HB2.out, HO2.out, by rw [HN.out]; first | exact putS1 E1.out E3.out | exact putS2 E1.out E3.out | exact putS3 (.inl rfl) E3.out | exact putS4 (.inl rfl) E3.out | exact putS3 (.inr E1.out) E3.out | exact putS4 (.inr E1.out) E3.out⟩
            case measure => simp [intOf]; omega
        case true =>
          have E2 := Lib.hid (show (true = true) from rfl)
          by_cases hx : x = n
          · have E3 := Lib.hid hx
            have e3 : (x != n) = false := by simp [hx]
            clear hx
            go_wp2_with fail
            go_roundw
            case rel => exact ⟨k + 1, _, _, _, rfl, rfl, by go_num, by omega, HG.out, HO.out, by rw [HN.out]; first | exact putS1 E1.out E3.out | exact putS2 E1.out E3.out | exact putS3 (.inl rfl) E3.out | exact putS4 (.inl rfl) E3.out | exact putS3 (.inr E1.out) E3.out | exact putS4 (.inr E1.out) E3.out⟩
            case measure => simp [intOf]; omega
          · have E3 := Lib.hid hx
            have e3 : (x != n) = true := by simpa using hx
            clear hx
            have OX2 := Lib.hid (HO.out.ext (one_more wr (.cells #[.int .i64 x] 3)))
            have IX2 := Lib.hid (one_int (Blk.new wr 3 #[.int .i64 x]))
            go_wp2_with (at_builtin; go_loud (refine wpList_app kdI (by rfl) _ _ (by rfl) w.heap.size _ acc (by rfl) OX2.out _ 1 1 [x] (by rfl) IX2.out (by have := HLB.out; first | omega | (simp only [List.length_append, List.length_cons, List.length_nil]; omega)) (by have := HG.out.size; simp; omega) ?_); intro v2 w2 ho hbw hz; have HO2 := Lib.hid ho; have HB2 := Lib.hid ((HG.out.trans ((one_more wr _).mono HG.out.size)).trans ((OX2.out).below hbw (B := w.heap.size) (Nat.le_refl _) (by have := HG.out.size; simp; omega))); clear ho hbw hz)
            go_roundw
            case rel => exact ⟨k + 1, _, _, _, rfl, rfl, by go_num, by omega, HB2.out, HO2.out, by rw [HN.out]; first | exact putS1 E1.out E3.out | exact putS2 E1.out E3.out | exact putS3 (.inl rfl) E3.out | exact putS4 (.inl rfl) E3.out | exact putS3 (.inr E1.out) E3.out | exact putS4 (.inr E1.out) E3.out⟩
            case measure => simp [intOf]; omega
      · have E1 := Lib.hid hle
        have e1 : decide (n ≤ x) = false := by simpa using hle
        have E2 := Lib.hid (show (true = true) from rfl)
        clear hle
        by_cases hx : x = n
        · have E3 := Lib.hid hx
          have e3 : (x != n) = false := by simp [hx]
          clear hx
          go_wp2_with fail
          go_roundw
          case rel => exact ⟨k + 1, _, _, _, rfl, rfl, by go_num, by omega, HG.out, HO.out, by rw [HN.out]; first | exact putS1 E1.out E3.out | exact putS2 E1.out E3.out | exact putS3 (.inl rfl) E3.out | exact putS4 (.inl rfl) E3.out | exact putS3 (.inr E1.out) E3.out | exact putS4 (.inr E1.out) E3.out⟩
          case measure => simp [intOf]; omega
        · have E3 := Lib.hid hx
          have e3 : (x != n) = true := by simpa using hx
          clear hx
          have OX2 := Lib.hid (HO.out.ext (one_more wr (.cells #[.int .i64 x] 3)))
          have IX2 := Lib.hid (one_int (Blk.new wr 3 #[.int .i64 x]))
          go_wp2_with (at_builtin; go_loud (refine wpList_app kdI (by rfl) _ _ (by rfl) w.heap.size _ acc (by rfl) OX2.out _ 1 1 [x] (by rfl) IX2.out (by have := HLB.out; first | omega | (simp only [List.length_append, List.length_cons, List.length_nil]; omega)) (by have := HG.out.size; simp; omega) ?_); intro v2 w2 ho hbw hz; have HO2 := Lib.hid ho; have HB2 := Lib.hid ((HG.out.trans ((one_more wr _).mono HG.out.size)).trans ((OX2.out).below hbw (B := w.heap.size) (Nat.le_refl _) (by have := HG.out.size; simp; omega))); clear ho hbw hz)
          go_roundw
          case rel => exact ⟨k + 1, _, _, _, rfl, rfl, by go_num, by omega, HB2.out, HO2.out, by rw [HN.out]; first | exact putS1 E1.out E3.out | exact putS2 E1.out E3.out | exact putS3 (.inl rfl) E3.out | exact putS4 (.inl rfl) E3.out | exact putS3 (.inr E1.out) E3.out | exact putS4 (.inr E1.out) E3.out⟩
          case measure => simp [intOf]; omega
    · obtain rfl : n0 = k := by omega
      have HEND := Lib.hid (show l.foldl (putS n) ([], false) = (acc, b) by have := HST.out; rwa [List.take_of_length_le (by rw [HLEN0.out]; exact Nat.le_refl _)] at this)
      have HRE := Lib.hid (show res = if b = true then acc else acc ++ [n] by rw [HPL.out, HEND.out])
      have hws := HG.out.size
      have HLB := Lib.hid (show acc.length + 2 ≤ 1000000 by
        have h1 := putF_len n l ([], false)
        rw [HEND.out] at h1
        simp only [List.length_nil] at h1
        have := HLEN0.out
        omega)
      clear hkn hk hg hown
      cases b
      case false =>
        have OX1 := Lib.hid (HO.out.ext (one_more wr (.cells #[.int .i64 n] 3)))
        have IX1 := Lib.hid (one_int (Blk.new wr 3 #[.int .i64 n]))
        go_wp2_with (at_builtin; go_loud (refine wpList_app kdI (by rfl) _ _ (by rfl) w.heap.size _ acc (by rfl) OX1.out _ 1 1 [n] (by rfl) IX1.out (by have := HLB.out; omega) (by simp; omega) ?_); intro v1 w1 ho hbw hz; have HO1 := Lib.hid ho; have HB1 := Lib.hid ((HG.out.trans ((one_more wr _).mono HG.out.size)).trans ((OX1.out).below hbw (B := w.heap.size) (Nat.le_refl _) (by simp; omega))); clear ho hbw hz)
        go_ret
        exact ⟨⟨_, rfl, by rw [HRE.out]; exact HO1.out⟩, HB1.out⟩
      case true =>
        go_wp2_with fail
        go_ret
        exact ⟨⟨_, rfl, by rw [HRE.out]; exact HO.out⟩, HG.out⟩
end Go.Proofs.YtkoejeghihcmlaaGreat
