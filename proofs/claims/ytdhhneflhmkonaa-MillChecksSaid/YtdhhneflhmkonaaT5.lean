/- The mill: Hours, demands, Serves. -/
import Derived.Test.YtdhhneflhmkonaaT4
namespace Go.Proofs.Ytdhhneflhmkonaa
open Go.RowKit Go.Shelf

def hoursS (xs : List Comer) (h : Int) : List Int := if okMill h xs then turnsS xs h.toNat else []

set_option maxRecDepth 100000 in
theorem Hours_any (A : Option Addr) (n cc : Nat) (h : Int) (xs : List Comer) (w : World) (ha : Arr ccells 3 w A n xs) (hnc : n ≤ cc) (hn : n ≤ 9223372036854775807) :
    Calls Try.prog 36 #[mv A n cc h] w fun e w' => (∃ D c, e = .returned (.tuple #[.slice D (hoursS xs h).length c, .int .i64 (err (okMill h xs) 52)]) ∧ Ints w' D (hoursS xs h).length (hoursS xs h)) ∧ Below w.heap.size w w' := by
  have HA := Lib.hid ha
  have hlen := Lib.hid ha.1
  obtain ⟨ok, hok⟩ : ∃ ok, okMill h xs = ok := ⟨_, rfl⟩
  have HOK := Lib.hid hok
  have HL := Lib.hid (show hoursS xs h = if ok then turnsS xs h.toNat else [] by rw [← hok]; rfl)
  generalize hls : hoursS xs h = ls at HL ⊢
  rw [hok]
  clear ha hok hls
  unfold mv
  go_enter Try.func36, Try.ntmps36
  go_wp2_with fail
  generalize hW1 : w.alloc (.cells #[.int .i64 h, .slice A n cc] 24) = W1
  obtain ⟨g1, c0, c1⟩ := box2 hW1
  have HG1 := Lib.hid g1
  have hwl : w.heap.size < W1.heap.size := by rw [boxSize hW1]; omega
  clear hW1
  refine (check_any h A n cc xs W1 (HA.out.below g1) hnc hn).mono ?_
  rintro e W2 ⟨rfl, hg2⟩
  rw [HOK.out]
  have HG2 := Lib.hid hg2
  cases ok with
  | false =>
    clear c0 c1 g1 hg2
    rw [show err false 52 = 52 from rfl]
    go_wp2_with fail
    go_ret2
    have e : ls = [] := HL.out
    subst e
    exact ⟨⟨none, 0, rfl, Arr.nil_⟩, HG1.out.trans (HG2.out.mono HG1.out.size)⟩
  | true =>
    have hO := (okMill_iff h xs).1 HOK.out
    obtain ⟨H, rfl⟩ : ∃ H : Nat, h = H := ⟨h.toNat, by have := hO.h0; omega⟩
    have hH : H ≤ 24 := by have := hO.h24; omega
    have hn12 : n ≤ 12 := by have := hO.n12; have := hlen.out; omega
    have HX := Lib.hid hO.hrs
    have d0 := (hg2.cell (p := ⟨w.heap.size, 0, none⟩) hwl).trans c0
    have d1 := (hg2.cell (p := ⟨w.heap.size, 1, none⟩) hwl).trans c1
    clear hO c0 c1 g1 hg2
    rw [show err true 52 = 0 from rfl]
    go_wp2_with fail
    refine (turns_any A n cc H xs W2 ((HA.out.below HG1.out).below HG2.out) HX.out hH hn12).mono ?_
    rintro e W3 ⟨⟨b, rfl, hbl, hb⟩, hg3⟩
    have HB := Lib.hid hb
    have HG3 := Lib.hid hg3
    clear hb hg3
    go_wp2_with fail
    go_ret2
    have e : ls = turnsS xs H := HL.out
    subst e
    have hl : (turnsS xs H).length = n := (turnsT_len _ _ _).trans hlen.out
    exact ⟨⟨some ⟨b, 0, none⟩, n, by rw [hl]; rfl, HB.out.ints⟩, HG1.out.trans ((HG2.out.trans (HG3.out.mono HG2.out.size)).mono HG1.out.size)⟩

def badD (l : List Int) : Bool := l.any fun x => !rng x 0 24
theorem isDemand1_any (x : Int) (w : World) : Calls Try.prog 122 #[.int .i64 x] w fun e w' => e = .returned (.bool (!rng x 0 24)) ∧ w = w' := by
  obtain ⟨b, hb⟩ : ∃ b, rng x 0 24 = b := ⟨_, rfl⟩
  rw [hb]
  cases b
  all_goals
    go_enter Try.func122, Try.ntmps122
    go_wp2_with (go_at_call 64; refine (within_any _ _ _ _).mono ?_; rw [hb]; rintro e w' ⟨rfl, rfl⟩)
    go_ret
    exact ⟨rfl, rfl⟩

theorem indexF_any (A : Option Addr) (n c : Nat) (l : List Int) (w : World) (ha : Ints w A n l) (hn : n ≤ 9223372036854775807) :
    Calls Try.prog 130 #[.slice A n c, .func (.func 122) #[] #[]] w fun e w' => (∃ v : Int, e = .returned (.int .i64 v) ∧ (decide (0 ≤ v) = badD l)) ∧ w = w' := by
  have hlen := Lib.hid ha.1
  have HA := Lib.hid ha
  clear ha
  go_enter Try.func130, Try.ntmps130
  go_wp2
  go_loopw [8] (fun i wr => ∃ k : Nat, k ≤ n ∧ i = .int .i64 k ∧ (∀ j, j < k → rng (l.getD j 0) 0 24 = true) ∧ w = wr) (fun i _ => n - (intOf i).toNat)
  case atStart => exact ⟨0, Nat.zero_le _, rfl, by omega, rfl⟩
  case round =>
    obtain ⟨k, hk, rfl, hno, rfl⟩ := hrel
    by_cases hlt : k < n
    · obtain ⟨b, o, rfl, hbl, hmem, hc⟩ := ints_at HA.out hlt
      have c0 := hc w (Below.refl _ _)
      obtain ⟨x, hx⟩ : ∃ x, l.getD k 0 = x := ⟨_, rfl⟩
      have HX := Lib.hid hx
      have HM := Lib.hid hmem
      have HN := Lib.hid hno
      rw [hx] at c0
      clear hc hmem hx hno
      cases hf : rng x 0 24 with
      | true =>
        go_wp2_with (first | (go_at_call 122; refine (isDemand1_any x _).mono ?_; rw [hf]; rintro e w' ⟨rfl, rfl⟩))
        go_roundw
        case rel =>
          refine ⟨k + 1, by omega, by go_num, fun j hj => ?_, trivial⟩
          by_cases hjk : j < k
          · exact HN.out j hjk
          · obtain rfl : j = k := by omega
            rw [HX.out]; exact hf
        case measure => simp [intOf]; omega
      | false =>
        go_wp2_with (first | (go_at_call 122; refine (isDemand1_any x _).mono ?_; rw [hf]; rintro e w' ⟨rfl, rfl⟩))
        go_ret
        refine ⟨⟨k, rfl, ?_⟩, rfl⟩
        have : badD l = true := List.any_eq_true.2 ⟨x, List.mem_of_getElem? (HX.out ▸ HM.out), by rw [hf]; rfl⟩
        rw [this]; simp
    · obtain rfl : k = n := by omega
      have HN := Lib.hid hno
      clear hno
      go_wp2
      go_ret
      refine ⟨⟨-1, rfl, ?_⟩, rfl⟩
      have : badD l = false := by
        unfold badD
        rw [List.any_eq_false]
        intro x hx
        obtain ⟨j, hj, rfl⟩ := List.getElem_of_mem hx
        have := HN.out j (by have := hlen.out; omega)
        rw [List.getD_eq_getElem?_getD, List.getElem?_eq_getElem hj] at this
        simpa using this
      rw [this]; decide
theorem containsF_any (A : Option Addr) (n c : Nat) (l : List Int) (w : World) (ha : Ints w A n l) (hn : n ≤ 9223372036854775807) :
    Calls Try.prog 121 #[.slice A n c, .func (.func 122) #[] #[]] w fun e w' => e = .returned (.bool (badD l)) ∧ w = w' := by
  have H := Lib.hid (indexF_any A n c l w ha hn)
  clear ha
  go_enter Try.func121, Try.ntmps121
  go_wp2_with (first | (go_at_call 130; refine H.out.mono ?_; rintro e w' ⟨⟨v, rfl, hv⟩, rfl⟩))
  go_ret
  exact ⟨rfl, rfl⟩

/-- A list of demands of a mill. -/
def isDem (xs : List Comer) (l : List Int) : Bool := decide (l.length = xs.length) && !badD l
theorem isDemand_any (A D : Option Addr) (n cc m cd : Nat) (h : Int) (xs : List Comer) (l : List Int) (w : World) (ha : Arr ccells 3 w A n xs) (hd : Ints w D m l) (hm : m ≤ 9223372036854775807) (hn : n ≤ 9223372036854775807) :
    Calls Try.prog 106 #[mv A n cc h, .slice D m cd] w fun e w' => e = .returned (.bool (isDem xs l)) ∧ Below w.heap.size w w' := by
  have hln := Lib.hid ha.1
  have hlm := Lib.hid hd.1
  have HD := Lib.hid hd
  clear ha hd
  have HG1 := Lib.hid (show Below w.heap.size w (w.alloc (.cells #[.int .i64 h, .slice A n cc] 24)) from (Below.refl _ _).alloc (Nat.le_refl _) _)
  unfold mv
  by_cases hmn : m = n
  · subst hmn
    go_enter Try.func106, Try.ntmps106
    go_wp2_with (first | (go_at_call 121; refine (containsF_any D m cd l _ (HD.out.below HG1.out) hm).mono ?_; rintro e w' ⟨rfl, rfl⟩))
    go_ret
    have : isDem xs l = !badD l := by unfold isDem; rw [hln.out, hlm.out]; simp
    rw [this]
    exact ⟨rfl, HG1.out⟩
  · have hne : ((m : Int) == (n : Int)) = false := by simp; omega
    go_enter Try.func106, Try.ntmps106
    go_wp2_with fail
    all_goals first
      | (exfalso; omega)
      | (go_ret
         have : isDem xs l = false := by unfold isDem; rw [hln.out, hlm.out]; simp [hmn]
         rw [this]
         exact ⟨rfl, HG1.out⟩)

/-- The error of a mill and demands. -/
def demE (xs : List Comer) (h : Int) (l : List Int) : Int := if okMill h xs then (if isDem xs l then 0 else 56) else 52
theorem demanded_any (A D : Option Addr) (n cc m cd : Nat) (h : Int) (xs : List Comer) (l : List Int) (w : World) (ha : Arr ccells 3 w A n xs) (hnc : n ≤ cc) (hd : Ints w D m l) (hm : m ≤ 9223372036854775807) (hn : n ≤ 9223372036854775807) :
    Calls Try.prog 92 #[mv A n cc h, .slice D m cd] w fun e w' => e = .returned (.int .i64 (demE xs h l)) ∧ Below w.heap.size w w' := by
  have HA := Lib.hid ha
  have HD := Lib.hid hd
  clear ha hd
  obtain ⟨ok, hok⟩ : ∃ ok, okMill h xs = ok := ⟨_, rfl⟩
  have HOK := Lib.hid hok
  obtain ⟨dm, hdm⟩ : ∃ dm, isDem xs l = dm := ⟨_, rfl⟩
  have HDM := Lib.hid hdm
  have HE := Lib.hid (show demE xs h l = if ok then (if dm then 0 else 56) else 52 by rw [← hok, ← hdm]; rfl)
  generalize demE xs h l = de at HE ⊢
  clear hok hdm
  unfold mv
  go_enter Try.func92, Try.ntmps92
  go_wp2_with fail
  generalize hW1 : w.alloc (.cells #[.int .i64 h, .slice A n cc] 24) = W1
  obtain ⟨g1, c0, c1⟩ := box2 hW1
  have HG1 := Lib.hid g1
  have hwl : w.heap.size < W1.heap.size := by rw [boxSize hW1]; omega
  clear hW1
  refine (check_any h A n cc xs W1 (HA.out.below g1) hnc hn).mono ?_
  rintro e W2 ⟨rfl, hg2⟩
  rw [HOK.out]
  have HG2 := Lib.hid hg2
  have d0 := (hg2.cell (p := ⟨w.heap.size, 0, none⟩) hwl).trans c0
  have d1 := (hg2.cell (p := ⟨w.heap.size, 1, none⟩) hwl).trans c1
  clear c0 c1 g1 hg2
  cases ok with
  | false =>
    rw [show err false 52 = 52 from rfl]
    go_wp2_with fail
    go_ret
    exact ⟨ret_int HE.out.symm, HG1.out.trans (HG2.out.mono HG1.out.size)⟩
  | true =>
    rw [show err true 52 = 0 from rfl]
    have HI := Lib.hid (isDemand_any A D n cc m cd h xs l W2 ((HA.out.below HG1.out).below HG2.out) ((HD.out.below HG1.out).below HG2.out) hm hn)
    cases dm with
    | true =>
      go_wp2_with (first | (go_at_call 106; refine HI.out.mono ?_; rw [HDM.out]; rintro e w' ⟨rfl, hg3⟩; have HG3 := Lib.hid hg3; clear hg3))
      go_ret
      exact ⟨ret_int HE.out.symm, HG1.out.trans ((HG2.out.trans (HG3.out.mono HG2.out.size)).mono HG1.out.size)⟩
    | false =>
      go_wp2_with (first | (go_at_call 106; refine HI.out.mono ?_; rw [HDM.out]; rintro e w' ⟨rfl, hg3⟩; have HG3 := Lib.hid hg3; clear hg3))
      go_ret
      exact ⟨ret_int HE.out.symm, HG1.out.trans ((HG2.out.trans (HG3.out.mono HG2.out.size)).mono HG1.out.size)⟩

theorem isDem_len {xs : List Comer} {l : List Int} (h : isDem xs l = true) : l.length = xs.length := by
  unfold isDem at h; simp at h; exact h.1
theorem isDem_bd {xs : List Comer} {l : List Int} (h : isDem xs l = true) : ∀ x ∈ l, 0 ≤ x ∧ x ≤ 24 := by
  intro x hx
  unfold isDem badD at h
  simp only [Bool.and_eq_true, Bool.not_eq_true', List.any_eq_false] at h
  have := h.2 x hx
  simpa [rng] using this

def servesS (xs : List Comer) (h : Int) (l : List Int) : Bool := decide (demE xs h l = 0) && fea xs h.toNat (-1) l
theorem demE_zero {xs : List Comer} {h : Int} {l : List Int} (k : demE xs h l = 0) : okMill h xs = true ∧ isDem xs l = true := by
  unfold demE at k
  split at k
  · rename_i h1; refine ⟨h1, ?_⟩
    split at k
    · assumption
    · omega
  · omega
set_option maxRecDepth 100000 in
theorem Serves_any (A D : Option Addr) (n cc m cd : Nat) (h : Int) (xs : List Comer) (l : List Int) (w : World) (ha : Arr ccells 3 w A n xs) (hnc : n ≤ cc) (hd : Ints w D m l) (hm : m ≤ 9223372036854775807) (hn : n ≤ 9223372036854775807) :
    Calls Try.prog 45 #[mv A n cc h, .slice D m cd] w fun e w' => e = .returned (.tuple #[.bool (servesS xs h l), .int .i64 (demE xs h l)]) ∧ Below w.heap.size w w' := by
  have HA := Lib.hid ha
  have HD := Lib.hid hd
  have hln := Lib.hid ha.1
  have hlm := Lib.hid hd.1
  clear ha hd
  obtain ⟨de, hde⟩ : ∃ de, demE xs h l = de := ⟨_, rfl⟩
  have HDE := Lib.hid hde
  have HS := Lib.hid (show servesS xs h l = (decide (de = 0) && fea xs h.toNat (-1) l) by rw [← hde]; rfl)
  generalize servesS xs h l = sv at HS ⊢
  rw [hde]
  clear hde
  unfold mv
  go_enter Try.func45, Try.ntmps45
  go_wp2_with fail
  generalize hW1 : w.alloc (.cells #[.int .i64 h, .slice A n cc] 24) = W1
  obtain ⟨g1, c0, c1⟩ := box2 hW1
  have HG1 := Lib.hid g1
  have hwl : w.heap.size < W1.heap.size := by rw [boxSize hW1]; omega
  clear hW1
  refine (demanded_any A D n cc m cd h xs l W1 (HA.out.below g1) hnc (HD.out.below g1) hm hn).mono ?_
  rw [HDE.out]
  rintro e W2 ⟨rfl, hg2⟩
  have HG2 := Lib.hid hg2
  have d0 := (hg2.cell (p := ⟨w.heap.size, 0, none⟩) hwl).trans c0
  have d1 := (hg2.cell (p := ⟨w.heap.size, 1, none⟩) hwl).trans c1
  clear c0 c1 g1 hg2
  by_cases hz : de = 0
  · obtain ⟨k1, k2⟩ := demE_zero (HDE.out.trans hz)
    have HDM := Lib.hid k2
    have hO := (okMill_iff h xs).1 k1
    obtain ⟨H, rfl⟩ : ∃ H : Nat, h = H := ⟨h.toNat, by have := hO.h0; omega⟩
    have hH : H ≤ 24 := by have := hO.h24; omega
    have hn12 : n ≤ 12 := by have := hO.n12; have := hln.out; omega
    obtain rfl : m = n := by have := isDem_len k2; have := hln.out; have := hlm.out; omega
    have HX := Lib.hid hO.hrs
    clear hO k1 k2
    subst hz
    go_wp2_with fail
    refine (serves_any A D m cc cd H xs l W2 ((HA.out.below HG1.out).below HG2.out) HX.out hH hn12 ((HD.out.below HG1.out).below HG2.out) (fun x hx => by have := isDem_bd HDM.out x hx; omega)).mono ?_
    rintro e W3 ⟨rfl, hg3⟩
    have HG3 := Lib.hid hg3
    clear hg3
    go_wp2_with fail
    go_ret2
    have e : sv = fea xs H (-1) l := HS.out
    rw [e]
    exact ⟨rfl, HG1.out.trans ((HG2.out.trans (HG3.out.mono HG2.out.size)).mono HG1.out.size)⟩
  · have hz' : (de != 0) = true := by simpa using hz
    go_wp2_with fail
    go_ret2
    have e : sv = false := by rw [HS.out]; simp [hz]
    rw [e]
    exact ⟨rfl, HG1.out.trans (HG2.out.mono HG1.out.size)⟩
end Go.Proofs.Ytdhhneflhmkonaa
