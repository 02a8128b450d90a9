/- The reference's SameMill, less, Without; the mill's Without. -/
import Derived.Test.YtdhhneflhmkonaaAP
import Derived.Test.YtdhhneflhmkonaaC1
import Derived.Test.YtdhhneflhmkonaaS2
namespace Go.Proofs.Ytdhhneflhmkonaa
open Go.RowKit Go.Shelf

theorem eq_of_getElem {l l' : List Comer} (hl : l.length = l'.length) (h : ∀ j, j < l.length → l[j]? = l'[j]?) : l = l' := by
  apply List.ext_getElem?
  intro j
  by_cases hj : j < l.length
  · exact h j hj
  · rw [List.getElem?_eq_none (by omega), List.getElem?_eq_none (by omega)]

set_option maxRecDepth 100000 in
theorem neqComer (x y : Comer) (w : World) : (binOp .neq 53 (.agg #[.int .i64 x.family, .int .i64 x.hours, .int .i64 x.wants]) (.agg #[.int .i64 y.family, .int .i64 y.hours, .int .i64 y.wants])).run Try.prog w = .ok (.bool (!decide (x = y))) w := by
  obtain ⟨a, b, c⟩ := x
  obtain ⟨a', b', c'⟩ := y
  by_cases h1 : a = a' <;> by_cases h2 : b = b' <;> by_cases h3 : c = c' <;> simp [go_sem, h1, h2, h3]

def sameM (h h' : Int) (l l' : List Comer) : Bool := decide (h = h') && decide (l = l')

set_option maxRecDepth 100000 in
set_option maxHeartbeats 1000000 in
theorem sameMill_any (A B : Option Addr) (n c m c' : Nat) (h h' : Int) (l l' : List Comer) (w : World) (ha : Arr ccells 3 w A n l) (hb : Arr ccells 3 w B m l') (hn : n ≤ 9223372036854775807) (hm : m ≤ 9223372036854775807) :
    Calls Try.prog 48 #[mv A n c h, mv B m c' h'] w fun e w' => e = .returned (.bool (sameM h h' l l')) ∧ Below w.heap.size w w' := by
  have HA := Lib.hid ha
  have HB := Lib.hid hb
  have hl := Lib.hid ha.1
  have hl' := Lib.hid hb.1
  clear ha hb
  unfold mv
  by_cases hh : h = h'
  · subst hh
    by_cases hmn : n = m
    · subst hmn
      go_enter Try.func48, Try.ntmps48
      go_wp2_with fail
      all_goals first
        | (exfalso; simp at *; done)
        | (exfalso; omega)
        | skip
      generalize hW1 : w.alloc (.cells #[.int .i64 h, .slice A n c] 24) = W1
      obtain ⟨g1, -, a1⟩ := box2 hW1
      generalize hW2 : W1.alloc (.cells #[.int .i64 h, .slice B n c'] 24) = W2
      obtain ⟨g2, -, b1⟩ := box2 hW2
      have s1 := boxSize hW1
      rw [← s1]
      have HG := Lib.hid (extTrans g1 g2)
      have HA2 := Lib.hid (HA.out.below HG.out)
      have HB2 := Lib.hid (HB.out.below HG.out)
      have a1 := keep g2 a1
      have F : ∀ x : Wd W2, x.val.cell? ⟨w.heap.size, 1, none⟩ = some (.slice A n c) ∧ x.val.cell? ⟨W1.heap.size, 1, none⟩ = some (.slice B n c') := fun x => ⟨cellW a1 x, cellW b1 x⟩
      have G : ∀ x : Wd W2, w.heap.size < x.val.heap.size ∧ W1.heap.size < x.val.heap.size := fun x => by have := x.size; have := boxSize hW2; omega
      clear hW1 hW2 g1 g2 s1 a1 b1
      go_loopw [5] (fun i wr => ∃ k : Nat, k ≤ n ∧ i = .int .i64 k ∧ (∀ j, j < k → l[j]? = l'[j]?) ∧ ∃ x : Wd W2, wr = x.val) (fun i _ => n - (intOf i).toNat)
      case atStart => exact ⟨0, Nat.zero_le _, rfl, by omega, Wd.self _⟩
      case round =>
        obtain ⟨k, hk, rfl, hno, wr, rfl⟩ := hrel
        have HN := Lib.hid hno
        clear hno
        by_cases hlt : k < n
        · obtain ⟨b, o, x, rfl, -, hx, hc⟩ := comer_at (HA2.out.below wr.ok) hlt
          obtain ⟨b', o', y, rfl, -, hy, hc'⟩ := comer_at (HB2.out.below wr.ok) hlt
          have P := fun z : Wd wr.val => hc z.val z.ok
          have P' := fun z : Wd wr.val => hc' z.val z.ok
          have F2 : ∀ z : Wd wr.val, z.val.cell? ⟨w.heap.size, 1, none⟩ = some (.slice (some ⟨b, o, none⟩) n c) ∧ z.val.cell? ⟨W1.heap.size, 1, none⟩ = some (.slice (some ⟨b', o', none⟩) n c') := lift (p := fun V => V.cell? _ = _ ∧ V.cell? _ = _) wr.ok F
          have G2 : ∀ z : Wd wr.val, w.heap.size < z.val.heap.size ∧ W1.heap.size < z.val.heap.size := lift (p := fun V => _ < V.heap.size ∧ _ < V.heap.size) wr.ok G
          have HX := Lib.hid hx
          have HY := Lib.hid hy
          clear hx hy hc hc'
          have f0 := (F wr)
          go_wp2_with fail
          clear f0 F G
          have hneq := fun w => neqComer x y w
          obtain ⟨q, hq⟩ : ∃ q, decide (x = y) = q := ⟨_, rfl⟩
          rw [hq] at hneq
          have HQ := Lib.hid hq
          clear hq
          cases q with
          | true =>
            refine wp_region_calm wr.val (by kernel_rfl) (by kernel_rfl) (Below.refl _ _) ?_
            repeat (go_big_quiet_step (fail))
            refine wpQuiet_nil ?_
            rintro _ ⟨z, rfl⟩
            go_wp2_with fail
            go_roundw
            case rel =>
              refine ⟨k + 1, by omega, by go_num, fun j hj => ?_, ⟨z.val, extTrans wr.ok z.ok⟩, rfl⟩
              by_cases hjk : j < k
              · exact HN.out j hjk
              · obtain rfl : j = k := by omega
                rw [HX.out, HY.out, of_decide_eq_true HQ.out]
            case measure => simp [intOf]; omega
          | false =>
            refine wp_region_calm wr.val (by kernel_rfl) (by kernel_rfl) (Below.refl _ _) ?_
            repeat (go_big_quiet_step (fail))
            refine wpQuiet_nil ?_
            rintro _ ⟨z, rfl⟩
            go_wp2_with fail
            go_ret
            have : sameM h h l l' = false := by
              simp [sameM]
              rintro rfl
              have := HX.out.symm.trans HY.out
              exact of_decide_eq_false HQ.out (Option.some.inj this)
            rw [this]
            exact ⟨rfl, HG.out.trans ((extTrans wr.ok z.ok).mono HG.out.size)⟩
        · obtain rfl : k = n := by omega
          have f0 := F wr
          go_wp2_with fail
          go_ret
          have : sameM h h l l' = true := by
            simp [sameM]; exact eq_of_getElem (by rw [hl.out, hl'.out]) (fun j hj => HN.out j (by rw [← hl.out]; exact hj))
          rw [this]
          exact ⟨rfl, HG.out.trans (wr.ok.mono HG.out.size)⟩
    · have hne : ((n : Int) != (m : Int)) = true := by simp; omega
      go_enter Try.func48, Try.ntmps48
      go_wp2_with fail
      all_goals first
        | (exfalso; simp at *; done)
        | (exfalso; omega)
        | skip
      go_ret
      have : sameM h h l l' = false := by
        simp [sameM]; rintro rfl; exact hmn (by rw [← hl.out, ← hl'.out])
      rw [this]
      exact ⟨rfl, two_more _ _ _⟩
  · have hne : (h != h') = true := by simpa using hh
    go_enter Try.func48, Try.ntmps48
    go_wp2_with fail
    all_goals first
      | (exfalso; omega)
      | skip
    go_ret
    have : sameM h h' l l' = false := by simp [sameM, hh]
    rw [this]
    exact ⟨rfl, two_more _ _ _⟩
end Go.Proofs.Ytdhhneflhmkonaa
