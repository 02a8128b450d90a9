/- slices.Delete, of one comer. -/
import Derived.Test.YtdhhneflhmkonaaTA
import Derived.Deep.RegionLaw
import Derived.Lib.SliceRun
namespace Go.Proofs.Ytdhhneflhmkonaa
open Go.RowKit Go.Shelf

/-- The cells that move one comer to the left. -/
def movedC (xs : List Comer) (i : Nat) : List Value := (xs.drop (i + 1)).flatMap ccells
theorem movedC_len (xs : List Comer) (i : Nat) : (movedC xs i).length = (xs.length - (i + 1)) * 3 := by
  unfold movedC; rw [flat_len ccells_len, List.length_drop]

theorem run_clear_one (w : World) (ty : TypeId) (b o c : Nat) (hc : ∀ j, j < 3 → (w.cell? ⟨b, o + j, none⟩).isSome = true) (hf : ∀ j, j < 3 → w.frozen? ⟨b, o + j, none⟩ = false) :
    (Builtin.clear_ #[22] ty #[.slice (some ⟨b, o, none⟩) 1 c]).run Try.prog w = .ok (.tuple #[]) (w.setCells b o [.int .i64 0, .int .i64 0, .int .i64 0]) := by
  obtain ⟨i, hi, hz0, hz1, hz2⟩ := info_parts info53
  have hv : ∀ w, (zeroValue 53).run Try.prog w = .ok (.agg #[.int .i64 0, .int .i64 0, .int .i64 0]) w := by
    intro w; simp [zeroValue, typeInfo, hi, hz0]
  have hst := run_storeCells_cells (P := Try.prog) b o [.int .i64 0, .int .i64 0, .int .i64 0] 0 w (by simpa using hc) (by simpa using hf) (by intro v hv'; simp at hv'; subst hv'; rfl)
  simp only [Nat.add_zero] at hst
  have hzc : (Builtin.zeroCells (Value.agg #[.int .i64 0, .int .i64 0, .int .i64 0]).cells 1).toList = [.int .i64 0, .int .i64 0, .int .i64 0] := by kernel_rfl
  simp [Builtin.clear_, run_underlying under22, hv, hzc, hst]

set_option maxHeartbeats 1600000 in
set_option maxRecDepth 1000000 in
theorem delete_any (b n c i : Nat) (xs : List Comer) (w : World) (hi : i < n) (hnc : n ≤ c) (hcm : c ≤ 9223372036854775807) (hl : xs.length = n) (hn : n ≤ 1000000)
    (hc : ∀ k x, xs[k]? = some x → ∀ j u, (ccells x)[j]? = some u → w.cell? ⟨b, k * 3 + j, none⟩ = some u) (hf : ∀ j, w.frozen? ⟨b, j, none⟩ = false) :
    Calls Try.prog 102 #[.slice (some ⟨b, 0, none⟩) n c, .int .i64 i, .int .i64 ((i : Int) + 1)] w fun e w' => e = .returned (.slice (some ⟨b, 0, none⟩) (n - 1) c) ∧
      w' = (w.drew.setCells b (i * 3) (movedC xs i)).setCells b ((n - 1) * 3) [.int .i64 0, .int .i64 0, .int .i64 0] := by
  obtain ⟨m, rfl⟩ : ∃ m, n = m + 1 := ⟨n - 1, by omega⟩
  obtain ⟨i0, hi0, hz0, hz1, hz2⟩ := info_parts info53
  have hsome : ∀ j, j < (m + 1) * 3 → (w.cell? ⟨b, j, none⟩).isSome = true := by
    intro j hj
    have hk : j / 3 < xs.length := by omega
    have := hc (j / 3) _ (List.getElem?_eq_getElem hk) (j % 3) _ (List.getElem?_eq_getElem (by rw [ccells_len]; exact Nat.mod_lt _ (by decide)))
    rw [show j / 3 * 3 + j % 3 = j by omega] at this
    rw [this]; rfl
  obtain ⟨A, hA, hnews⟩ : ∃ A : Addr, (if c = i + 1 then some (⟨b, 0, none⟩ : Addr) else some ⟨b, (i + 1) * 3, none⟩) = some A ∧ Hid (∀ j u, (movedC xs i)[j]? = some u → w.drew.cell? (A.add j) = some u) := by
    by_cases h : c = i + 1
    · refine ⟨⟨b, 0, none⟩, by simp [h], fun j u hu => ?_⟩
      have h0 : (movedC xs i).length = 0 := by rw [movedC_len]; omega
      rw [List.length_eq_zero_iff.1 h0] at hu
      simp at hu
    · refine ⟨⟨b, (i + 1) * 3, none⟩, by simp [h], fun j u hu => ?_⟩
      unfold movedC at hu
      rw [show j = j / 3 * 3 + j % 3 by omega, flat_get ccells_len _ _ _ (Nat.mod_lt _ (by decide))] at hu
      obtain ⟨x, hx, hxu⟩ := Option.bind_eq_some_iff.1 hu
      rw [List.getElem?_drop] at hx
      have := hc _ x hx _ u hxu
      rw [add_at, show (i + 1) * 3 + j = (i + 1 + j / 3) * 3 + j % 3 by omega]
      exact this
  have s1 : Hid ((movedC xs i).length = (m - i) * 3) := by rw [movedC_len, hl, Nat.add_sub_add_right]; rfl
  have s2 : Hid (∀ u ∈ movedC xs i, u.oneCell' = true) := by
    intro u hu
    obtain ⟨x, -, hx⟩ := List.mem_flatMap.1 hu
    simp [ccells] at hx
    rcases hx with rfl | rfl | rfl <;> rfl
  have s3 : Hid (∀ j, j < (movedC xs i).length → (w.drew.cell? ⟨b, 0 + i * 3 + j, none⟩).isSome = true ∧ w.drew.frozen? ⟨b, 0 + i * 3 + j, none⟩ = false) := by
    intro j hj
    rw [movedC_len] at hj
    exact ⟨hsome _ (by omega), hf _⟩
  have hi1 : ((i : Int) + 1).toNat = i + 1 := by omega
  have hne : ((i : Int) == (i : Int) + 1) = false := by simp; omega
  have hp0 : (0 : Int) ≤ (i : Int) + 1 := by omega
  have hp1 : (i : Int) + 1 ≤ ((m + 1 : Nat) : Int) := by omega
  have hp2 : (i : Int) + 1 ≤ (c : Int) := by omega
  have hic : i ≤ c := by omega
  have HS := Lib.hid hsome
  have HF := Lib.hid hf
  clear hc hf hsome
  go_enter Try.func102, Try.ntmps102
  go_wp2_with fail
  have hst : i + (m - i) = m := by omega
  have him : i ≤ m := by omega
  have hroom : i + (m - i) ≤ c := by omega
  go_region_law (refine step_append_room rfl (.tmp 22) (.tmp 25) 22 rfl 53 i0 3 under22 hi0 hz1 b 0 i c (by simp [Act.eval, Act.put]) A (m - i) (c - (i + 1)) (movedC xs i) (by simp [Act.eval, Act.put]) s1.out hnews.out s2.out hroom s3.out ?_)
  have hcmn : ¬ c = m := by omega
  have hmc : m + 1 ≤ c := by omega
  have h11 : m + 1 - m = 1 := by omega
  have hclr : ∀ ty, (Builtin.clear_ #[22] ty #[.slice (some ⟨b, m * 3, none⟩) 1 (c - m)]).run Try.prog (w.drew.setCells b (i * 3) (movedC xs i)) = _ := fun ty => run_clear_one _ ty b (m * 3) (c - m) (fun j hj => by
      by_cases hin : m * 3 + j < i * 3 + (movedC xs i).length
      · have := World.cell?_setCells_in b (movedC xs i) (i * 3) w.drew (fun j hj => by
          rw [movedC_len, hl, Nat.add_sub_add_right] at hj
          exact HS.out _ (by omega)) (m * 3 + j - i * 3) (by omega)
        rw [show i * 3 + (m * 3 + j - i * 3) = m * 3 + j by omega] at this
        rw [this]; rfl
      · rw [World.cell?_setCells_out b (movedC xs i) (i * 3) w.drew ⟨b, m * 3 + j, none⟩ (fun _ _ => .inr (by dsimp only; omega))]
        exact HS.out _ (by omega)) (fun j hj => by rw [World.frozen?_setCells]; exact HF.out _)
  generalize hW5 : w.drew.setCells b (i * 3) (movedC xs i) = W5 at hclr ⊢
  have HW5 := Lib.hid hW5
  clear hW5
  go_wp2_with fail
  go_ret
  exact ⟨rfl, by rw [HW5.out]; rfl⟩

/-- What stands behind Delete. -/
theorem delete_arr {b n i : Nat} {xs : List Comer} {w : World} (hi : i < n) (hl : xs.length = n) (hb : b < w.heap.size)
    (hc : ∀ k x, xs[k]? = some x → ∀ j u, (ccells x)[j]? = some u → w.cell? ⟨b, k * 3 + j, none⟩ = some u) :
    Arr ccells 3 ((w.drew.setCells b (i * 3) (movedC xs i)).setCells b ((n - 1) * 3) [.int .i64 0, .int .i64 0, .int .i64 0]) (some ⟨b, 0, none⟩) (n - 1) (xs.eraseIdx i) := by
  have hsz : ∀ (vs : List Value) (o : Nat) (w : World), (w.setCells b o vs).heap.size = w.heap.size := by
    intro vs
    induction vs with
    | nil => intro o w; rfl
    | cons v vs ih => intro o w; rw [World.setCells, ih]; simp [World.setCell]
  refine ⟨by rw [List.length_eraseIdx, if_pos (by omega)]; omega, fun _ => ⟨b, 0, rfl, by rw [hsz, hsz]; exact hb, fun k x hx j u hu => ?_⟩⟩
  have hj : j < 3 := by
    rcases Nat.lt_or_ge j 3 with h | h
    · exact h
    · rw [List.getElem?_eq_none (by rw [ccells_len]; exact h)] at hu; cases hu
  have hk : k < n - 1 := by
    have := (List.getElem?_eq_some_iff.1 hx).1
    rw [List.length_eraseIdx, if_pos (by omega)] at this
    omega
  rw [show 0 + k * 3 + j = k * 3 + j by omega]
  rw [World.cell?_setCells_out b _ ((n - 1) * 3) _ ⟨b, k * 3 + j, none⟩ (fun _ _ => .inl (by dsimp only; omega))]
  rw [List.getElem?_eraseIdx] at hx
  split at hx
  · rw [World.cell?_setCells_out b _ (i * 3) _ ⟨b, k * 3 + j, none⟩ (fun _ _ => .inl (by dsimp only; omega))]
    exact hc k x hx j u hu
  · rename_i hki
    have hml := movedC_len xs i
    have hin : k * 3 + j - i * 3 < (movedC xs i).length := by rw [hml]; omega
    have := World.cell?_setCells_in b (movedC xs i) (i * 3) w.drew (fun j' hj' => by
      rw [hml] at hj'
      have hq : (i * 3 + j') / 3 < xs.length := by omega
      have := hc ((i * 3 + j') / 3) _ (List.getElem?_eq_getElem hq) ((i * 3 + j') % 3) _ (List.getElem?_eq_getElem (by rw [ccells_len]; exact Nat.mod_lt _ (by decide)))
      rw [show (i * 3 + j') / 3 * 3 + (i * 3 + j') % 3 = i * 3 + j' by omega] at this
      show (w.cell? _).isSome = true
      rw [this]; rfl) (k * 3 + j - i * 3) hin
    rw [show i * 3 + (k * 3 + j - i * 3) = k * 3 + j by omega] at this
    rw [this]
    have e : (movedC xs i)[k * 3 + j - i * 3]? = some u := by
      unfold movedC
      rw [show k * 3 + j - i * 3 = (k - i) * 3 + j by omega, flat_get ccells_len _ _ _ hj, List.getElem?_drop, show i + 1 + (k - i) = k + 1 by omega, hx]
      exact hu
    rw [List.getElem?_eq_getElem hin] at e
    exact e
theorem Below.cells {B : Nat} {a : World} (b : Nat) (hb : B ≤ b) : ∀ (vs : List Value) (o : Nat) (w : World), Below B a w → Below B a (w.setCells b o vs)
  | [], _, _, h => h
  | v :: vs, o, _, h => Below.cells b hb vs (o + 1) _ (h.setCell (p := ⟨b, o, none⟩) hb v)
end Go.Proofs.Ytdhhneflhmkonaa
