import Derived.Test.YtehhlgdkhecacaaGreatXA5

namespace Go.Proofs.YtehhlgdkhecacaaGreat
def befB : List Int → List Int → Bool
  | x :: a, y :: b => if x = y then befB a b else decide (x < y)
  | _, _ => false
theorem bef_at {x y : Int} (h : x < y) : ∀ (p a b : List Int), befB (p ++ x :: a) (p ++ y :: b) = true
  | [], a, b => by
    show befB (x :: a) (y :: b) = true
    unfold befB
    rw [if_neg (by omega), decide_eq_true h]
  | z :: p, a, b => by
    show befB (z :: (p ++ x :: a)) (z :: (p ++ y :: b)) = true
    unfold befB
    rw [if_pos rfl]
    exact bef_at h p a b
theorem more_pre {c : List Qf} : ∀ (k : Nat) (b r : List Int), r ∈ moreK c k b → ∃ s, r = b ++ s
  | 0, b, r, h => ⟨[], by unfold moreK at h; rw [List.mem_singleton] at h; rw [h, List.append_nil]⟩
  | k + 1, b, r, h => by
    unfold moreK at h
    obtain ⟨n, -, h1⟩ := List.mem_flatMap.1 h
    obtain ⟨s, rfl⟩ := more_pre k _ _ h1
    exact ⟨n :: s, by simp⟩
theorem more_up {c : List Qf} (hc : ∀ i, i < c.length → ((c.getD i q0).per).Pairwise (· < ·)) : ∀ (k : Nat) (b : List Int), b.length + k = c.length → (moreK c k b).Pairwise fun a b => befB a b = true
  | 0, b, _ => by unfold moreK; exact List.pairwise_singleton _ _
  | k + 1, b, h => by
    unfold moreK
    have hp := (hc b.length (by omega)).filter (fun n => fitB c b n)
    generalize (c.getD b.length q0).per.filter (fun n => fitB c b n) = ns at hp
    induction ns with
    | nil => exact List.Pairwise.nil
    | cons n ns ih =>
      obtain ⟨h1, h2⟩ := List.pairwise_cons.1 hp
      rw [List.flatMap_cons]
      refine List.pairwise_append.2 ⟨more_up hc k _ (by simp; omega), ih h2, fun x hx y hy => ?_⟩
      obtain ⟨m, hm, hy⟩ := List.mem_flatMap.1 hy
      obtain ⟨s, rfl⟩ := more_pre k _ _ hx
      obtain ⟨s', rfl⟩ := more_pre k _ _ hy
      rw [List.append_assoc, List.append_assoc]
      exact bef_at (h1 m hm) b s s'
theorem reads_up {c : List Qf} (hc : ∀ i, i < c.length → ((c.getD i q0).per).Pairwise (· < ·)) : (reads c).Pairwise fun a b => befB a b = true := more_up hc c.length [] (by simp)
/-- Fewer proofs have a reading if more have one. -/
theorem reads_sub {c c' : List Qf} (hs : c'.Sublist c) {r : List Int} (h : isRd c r = true) : ∃ r', isRd c' r' = true := by
  obtain ⟨h1, h2, h3⟩ := isRd_zip.1 h
  have key : ∀ {c c' : List Qf} {r : List Int}, c'.Sublist c → r.length = c.length → ∃ r', r'.length = c'.length ∧ (c'.zip r').Sublist (c.zip r) := by
    intro c c' r hs
    induction hs generalizing r with
    | slnil => intro _; exact ⟨[], rfl, by simp⟩
    | cons a _ ih =>
      intro hl
      cases r with
      | nil => simp at hl
      | cons n r =>
        obtain ⟨r', e1, e2⟩ := ih (r := r) (by simpa using hl)
        exact ⟨r', e1, e2.cons _⟩
    | cons_cons a _ ih =>
      intro hl
      cases r with
      | nil => simp at hl
      | cons n r =>
        obtain ⟨r', e1, e2⟩ := ih (r := r) (by simpa using hl)
        exact ⟨n :: r', by simp [e1], e2.cons_cons _⟩
  obtain ⟨r', e1, e2⟩ := key hs h1
  exact ⟨r', isRd_zip.2 ⟨e1, fun z hz => h2 z (e2.subset hz), h3.sublist e2⟩⟩
theorem isRead_sub {c c' : List Qf} (hs : c'.Sublist c) (h : isRead c = true) : isRead c' = true := by
  obtain ⟨r, hr⟩ := isRead_iff.1 h
  exact isRead_iff.2 (reads_sub hs hr)
end Go.Proofs.YtehhlgdkhecacaaGreat
namespace Go.Proofs.YtehhlgdkhecacaaGreat
theorem manyS : ∀ {c l : List Qf}, c.Sublist l → (∀ q ∈ l, 1 ≤ q.per.length) → manyL c ≤ manyL l
  | _, _, .slnil, _ => Nat.le_refl _
  | c, _, .cons (l₂ := l) q h, hq => by
    refine Nat.le_trans (manyS h fun x hx => hq x (List.mem_cons_of_mem _ hx)) ?_
    rw [manyF (q :: l), manyF l, List.map_cons, List.foldr_cons]
    exact Nat.le_mul_of_pos_left _ (hq q (by simp))
  | _, _, .cons_cons (l₁ := c) (l₂ := l) q h, hq => by
    have := manyS h fun x hx => hq x (List.mem_cons_of_mem _ hx)
    rw [manyF c, manyF l] at this
    rw [manyF (q :: c), manyF (q :: l), List.map_cons, List.map_cons, List.foldr_cons, List.foldr_cons]
    exact Nat.mul_le_mul_left _ this
theorem okL_subl {c l : List Qf} (h : okL l = true) (hs : c.Sublist l) : okL c = true := by
  unfold okL at h ⊢
  simp only [Bool.and_eq_true, decide_eq_true_eq] at h ⊢
  obtain ⟨⟨⟨h1, h2⟩, h3⟩, h4⟩ := h
  have ha : ∀ q ∈ l, isQf q = true := List.all_eq_true.1 h1
  exact ⟨⟨⟨List.all_eq_true.2 fun q hq => ha q (hs.subset hq), Nat.le_trans hs.length_le h2⟩, Nat.le_trans (manyS hs fun q hq => isQf_per1 (ha q hq)) h3⟩, upB_iff.2 ((upB_iff.1 h4).sublist (hs.map _))⟩
end Go.Proofs.YtehhlgdkhecacaaGreat
namespace Go.Proofs.YtehhlgdkhecacaaGreat
theorem lss_sub (l : List Qf) (s : Int) : (lssL l s).Sublist l := List.filter_sublist
theorem lss_cnt (l : List Qf) (s known : Int) : cntL (lssL l s) known = lssL (cntL l known) s := by
  unfold cntL lssL
  rw [List.filter_filter, List.filter_filter]
  exact List.filter_congr fun q _ => Bool.and_comm _ _
theorem lss_none {l : List Qf} {s : Int} (h : s ∉ srcL l) : lssL l s = l := by
  unfold lssL
  refine List.filter_eq_self.2 fun q hq => decide_eq_true fun e => h ?_
  unfold srcL
  exact List.mem_map.2 ⟨q, hq, e⟩
def nearQ (N : List Int) (q : Qf) : List Int := if q.kind = 2 ∧ q.oth ∈ N then q.per.foldl putI N else N
def nearR (l : List Qf) (N : List Int) : List Int := l.foldl nearQ N
def nearL (l : List Qf) : Nat → List Int → List Int
  | 0, N => N
  | k + 1, N => nearR l (nearL l k N)
theorem nearQ_sub {N : List Int} (q : Qf) {n : Int} (h : n ∈ N) : n ∈ nearQ N q := by
  unfold nearQ
  split
  · exact (putF_mem _ _ _).2 (.inl h)
  · exact h
theorem nearR_sub : ∀ {l : List Qf} {N : List Int} {n : Int}, n ∈ N → n ∈ nearR l N
  | [], _, _, h => h
  | q :: l, _, _, h => nearR_sub (l := l) (nearQ_sub q h)
theorem nearR_adds : ∀ {l : List Qf} {N : List Int} {q : Qf}, q ∈ l → q.kind = 2 → q.oth ∈ N → ∀ n ∈ q.per, n ∈ nearR l N
  | x :: l, N, q, hq, hk, ho, n, hn => by
    show n ∈ nearR l (nearQ N x)
    rcases List.mem_cons.1 hq with rfl | hq
    · refine nearR_sub ?_
      unfold nearQ
      rw [if_pos ⟨hk, ho⟩]
      exact (putF_mem _ _ _).2 (.inr hn)
    · exact nearR_adds hq hk (nearQ_sub x ho) n hn
theorem nearR_shut : ∀ {l k : List Qf} {N M : List Int}, Shut k N → (∀ q ∈ l, q ∈ k) → (∀ n, n ∈ M ↔ n ∈ N) → ∀ n, n ∈ nearR l M ↔ n ∈ N
  | [], _, _, _, _, _, h, n => h n
  | q :: l, k, N, M, hs, hl, h, n => by
    show n ∈ nearR l (nearQ M q) ↔ n ∈ N
    refine nearR_shut hs (fun x hx => hl x (List.mem_cons_of_mem _ hx)) (fun m => ?_) n
    unfold nearQ
    split
    · next hc =>
      rw [putF_mem, h m]
      exact ⟨fun g => g.elim id fun g => hs q (hl q (by simp)) hc.1 ((h _).1 hc.2) m g, .inl⟩
    · exact h m
/-- Those whose persons are all in. -/
def satN (l : List Qf) (N : List Int) : Nat := l.countP fun q => decide (q.kind = 2 ∧ q.oth ∈ N ∧ ∀ n ∈ q.per, n ∈ N)
theorem near_step {l : List Qf} {N : List Int} (h : ¬ Shut l N) : satN l N + 1 ≤ satN l (nearR l N) := by
  have hx : ∃ q, q ∈ l ∧ q.kind = 2 ∧ q.oth ∈ N ∧ ∃ n, n ∈ q.per ∧ n ∉ N := by
    refine Classical.byContradiction fun hn => h fun q hq hk ho n hp => Classical.byContradiction fun hm => hn ⟨q, hq, hk, ho, n, hp, hm⟩
  obtain ⟨q, hq, hk, ho, n, hp, hm⟩ := hx
  have g : ∀ k : List Qf, (∀ x ∈ k, x ∈ l) → satN k N ≤ satN k (nearR l N) := fun k hkl => by
    unfold satN
    refine List.countP_mono_left fun x hx e => ?_
    have e := of_decide_eq_true e
    exact decide_eq_true ⟨e.1, nearR_sub e.2.1, fun m hm => nearR_sub (e.2.2 m hm)⟩
  obtain ⟨a, b, e⟩ := List.append_of_mem hq
  have ga := g a (fun x hx => by rw [e]; simp [hx])
  have gb := g b (fun x hx => by rw [e]; simp [hx])
  have c1 : satN l N = satN a N + (satN b N + 0) := by
    rw [e]
    unfold satN
    rw [List.countP_append, List.countP_cons_of_neg (by simp; intro _ _; exact ⟨n, hp, hm⟩), Nat.add_zero]
  have c2 : satN l (nearR l N) = satN a (nearR l N) + (satN b (nearR l N) + 1) := by
    conv => lhs; rw [e]
    unfold satN
    rw [List.countP_append, List.countP_cons_of_pos]
    · rw [← e]
    · rw [← e]
      exact decide_eq_true ⟨hk, nearR_sub ho, nearR_adds hq hk ho⟩
  omega
theorem near_grow (l : List Qf) (N : List Int) : ∀ k, Shut l (nearL l k N) ∨ k ≤ satN l (nearL l k N)
  | 0 => .inr (Nat.zero_le _)
  | k + 1 => by
    show Shut l (nearR l (nearL l k N)) ∨ k + 1 ≤ satN l (nearR l (nearL l k N))
    by_cases h : Shut l (nearL l k N)
    · left
      have e := nearR_shut h (fun q hq => hq) (fun _ => Iff.rfl)
      intro q hq hk ho n hn
      exact (e n).2 (h q hq hk ((e _).1 ho) n hn)
    · right
      have := near_step h
      have := (near_grow l N k).resolve_left h
      omega
theorem near_shut (l : List Qf) (N : List Int) : Shut l (nearL l l.length N) := by
  rcases near_grow l N l.length with h | h
  · exact h
  · intro q hq hk ho n hn
    have h2 : satN l (nearL l l.length N) = l.length := Nat.le_antisymm List.countP_le_length h
    unfold satN at h2
    rw [List.countP_eq_length] at h2
    exact (of_decide_eq_true (h2 q hq)).2.2 n hn
theorem near_has (l : List Qf) {N : List Int} {n : Int} (h : n ∈ N) : ∀ k, n ∈ nearL l k N
  | 0 => h
  | k + 1 => nearR_sub (near_has l h k)
def certZ (zs : List (Qf × Int)) (person day : Int) : Bool := zs.any fun z => decide (z.1.kind = 6) && decide (z.2 = person) && decide (z.1.day ≤ day)
def titZ (s : Int → Int → Int) (zs : List (Qf × Int)) (z : Qf × Int) : Tt × Bool :=
  if z.1.kind = 8 then (⟨z.1.day, z.1.par, z.1.src⟩, false)
  else if z.1.kind = 2 then (⟨z.1.day, s z.1.oth (z.1.day - 1), z.1.src⟩, decide (s z.1.oth (z.1.day - 1) ≠ -1))
  else if 0 < needs z.1.kind then (⟨z.1.day + needs z.1.kind, z.1.par, z.1.src⟩, decide (needs z.1.kind ≤ z.1.thr - z.1.day + 1) && !certZ zs z.2 z.1.day)
  else (⟨z.1.day, z.1.par, z.1.src⟩, true)
def hasZ (s : Int → Int → Int) (zs : List (Qf × Int)) (person day : Int) (z : Qf × Int) : Bool := decide (z.2 = person) && decide (z.1.day ≤ day) && (titZ s zs z).2
def titLZ (s : Int → Int → Int) (zs : List (Qf × Int)) (person day : Int) : List Tt := (zs.filter (hasZ s zs person day)).map fun z => (titZ s zs z).1
theorem zip_map {c : List Qf} {r : List Int} (h : r.length = c.length) : c.zip r = (List.range c.length).map fun i => (c.getD i q0, r.getD i 0) := by
  refine List.ext_getElem (by simp [h]) fun i h1 h2 => ?_
  rw [zip_getD h h1, List.getElem_map, List.getElem_range]
theorem certZ_eq {c : List Qf} {r : List Int} (h : r.length = c.length) (person day : Int) : certB c r person day = certZ (c.zip r) person day := by
  unfold certB certZ
  rw [zip_map h, List.any_map]
  rfl
theorem titZ_eq {c : List Qf} {r : List Int} (h : r.length = c.length) (s : Int → Int → Int) (i : Nat) : titS s c r i = titZ s (c.zip r) (c.getD i q0, r.getD i 0) := by
  unfold titS titZ
  rw [certZ_eq h]
theorem titLZ_eq {c : List Qf} {r : List Int} (h : r.length = c.length) (s : Int → Int → Int) (person day : Int) : titL s c r person day = titLZ s (c.zip r) person day := by
  unfold titL titLZ
  have e : ∀ f : Qf × Int → Bool, (c.zip r).filter f = ((List.range c.length).filter fun i => f (c.getD i q0, r.getD i 0)).map fun i => (c.getD i q0, r.getD i 0) := fun f => by
    rw [zip_map h, List.filter_map]
    rfl
  rw [e, List.map_map]
  have e2 : ∀ i, hasT s c r person day i = hasZ s (c.zip r) person day (c.getD i q0, r.getD i 0) := fun i => by
    unfold hasT hasZ
    rw [titZ_eq h]
  simp only [e2]
  refine List.map_congr_left fun i _ => ?_
  rw [titZ_eq h]
  rfl
/-- Of persons that are not near, nothing rests on the proof. -/
theorem near_setK {a b : List Qf} {q : Qf} {ra rb : List Int} {x : Int} {N : List Int} (hla : ra.length = a.length) (hlb : rb.length = b.length) (hN : Shut (a ++ b) N) (hx : x ∈ N) (hper : ∀ z ∈ (a ++ b).zip (ra ++ rb), z.2 ∈ z.1.per) :
    ∀ (k : Nat) (person day : Int), person ∉ N → setK (a ++ q :: b) (ra ++ x :: rb) k person day = setK (a ++ b) (ra ++ rb) k person day
  | 0, _, _, _ => rfl
  | k + 1, person, day, hp => by
    unfold setK
    have hl1 : (ra ++ x :: rb).length = (a ++ q :: b).length := by simp [hla, hlb]
    have hl2 : (ra ++ rb).length = (a ++ b).length := by simp [hla, hlb]
    rw [titLZ_eq hl1, titLZ_eq hl2]
    congr 2
    have hz1 : (a ++ q :: b).zip (ra ++ x :: rb) = a.zip ra ++ (q, x) :: b.zip rb := by rw [List.zip_append hla.symm, List.zip_cons_cons]
    have hz2 : (a ++ b).zip (ra ++ rb) = a.zip ra ++ b.zip rb := List.zip_append hla.symm
    rw [hz2] at hper
    have hne : ¬ x = person := fun e => hp (e ▸ hx)
    have hcert : ∀ d, certZ ((a ++ q :: b).zip (ra ++ x :: rb)) person d = certZ ((a ++ b).zip (ra ++ rb)) person d := fun d => by
      rw [hz1, hz2]
      unfold certZ
      rw [List.any_append, List.any_cons, List.any_append]
      simp [hne]
    have ht : ∀ z, z ∈ a.zip ra ++ b.zip rb → z.2 = person → titZ (setK (a ++ q :: b) (ra ++ x :: rb) k) ((a ++ q :: b).zip (ra ++ x :: rb)) z = titZ (setK (a ++ b) (ra ++ rb) k) ((a ++ b).zip (ra ++ rb)) z := fun z hz hzp => by
      unfold titZ
      rw [hzp, hcert]
      by_cases h2 : z.1.kind = 2
      · have ho : z.1.oth ∉ N := fun ho => hp (by
          have hzm : z.1 ∈ a ++ b := by
            rw [List.mem_append] at hz
            rw [List.mem_append]
            rcases hz with hz | hz
            · exact .inl (List.of_mem_zip hz).1
            · exact .inr (List.of_mem_zip hz).1
          have := hN z.1 hzm h2 ho z.2 (hper z hz)
          rwa [hzp] at this)
        rw [near_setK hla hlb hN hx (by rw [hz2]; exact hper) k z.1.oth (z.1.day - 1) ho]
      · simp [h2]
    have hf : ∀ zs : List (Qf × Int), (∀ z ∈ zs, z ∈ a.zip ra ++ b.zip rb) → (zs.filter (hasZ (setK (a ++ q :: b) (ra ++ x :: rb) k) ((a ++ q :: b).zip (ra ++ x :: rb)) person day)).map (fun z => (titZ (setK (a ++ q :: b) (ra ++ x :: rb) k) ((a ++ q :: b).zip (ra ++ x :: rb)) z).1) = (zs.filter (hasZ (setK (a ++ b) (ra ++ rb) k) ((a ++ b).zip (ra ++ rb)) person day)).map fun z => (titZ (setK (a ++ b) (ra ++ rb) k) ((a ++ b).zip (ra ++ rb)) z).1 := fun zs hzs => by
      have e1 : zs.filter (hasZ (setK (a ++ q :: b) (ra ++ x :: rb) k) ((a ++ q :: b).zip (ra ++ x :: rb)) person day) = zs.filter (hasZ (setK (a ++ b) (ra ++ rb) k) ((a ++ b).zip (ra ++ rb)) person day) := List.filter_congr fun z hz => by
        unfold hasZ
        by_cases hzp : z.2 = person
        · rw [ht z (hzs z hz) hzp]
        · simp [hzp]
      rw [e1]
      refine List.map_congr_left fun z hz => ?_
      obtain ⟨hz1, hz2⟩ := List.mem_filter.1 hz
      unfold hasZ at hz2
      simp only [Bool.and_eq_true, decide_eq_true_eq] at hz2
      rw [ht z (hzs z hz1) hz2.1.1]
    unfold titLZ
    rw [show ((a ++ q :: b).zip (ra ++ x :: rb)).filter (hasZ (setK (a ++ q :: b) (ra ++ x :: rb) k) ((a ++ q :: b).zip (ra ++ x :: rb)) person day) = ((a ++ b).zip (ra ++ rb)).filter (hasZ (setK (a ++ q :: b) (ra ++ x :: rb) k) ((a ++ q :: b).zip (ra ++ x :: rb)) person day) by
      conv => lhs; arg 2; rw [hz1]
      conv => rhs; arg 2; rw [hz2]
      rw [List.filter_append, List.filter_append, List.filter_cons_of_neg (by unfold hasZ; simp [hne])]]
    exact hf _ fun z hz => by rw [hz2] at hz; exact hz
theorem near_setS {a b : List Qf} {q : Qf} {ra rb : List Int} {x : Int} {N : List Int} (hla : ra.length = a.length) (hlb : rb.length = b.length) (hN : Shut (a ++ b) N) (hx : x ∈ N) (hper : ∀ z ∈ (a ++ b).zip (ra ++ rb), z.2 ∈ z.1.per) {person : Int} (day : Int) (hp : person ∉ N) : setS (a ++ q :: b) (ra ++ x :: rb) person day = setS (a ++ b) (ra ++ rb) person day :=
  near_setK hla hlb hN hx hper _ _ _ hp
theorem all_taken {α : Type} [DecidableEq α] : ∀ {A B : List α}, A.Nodup → (∀ x ∈ A, x ∈ B) → B.length ≤ A.length → ∀ x ∈ B, x ∈ A
  | [], B, _, _, hl, x, hx => by
    have : B = [] := List.length_eq_zero_iff.1 (Nat.le_zero.1 hl)
    rw [this] at hx; exact hx
  | a :: A, B, hn, hs, hl, x, hx => by
    obtain ⟨h1, h2⟩ := List.nodup_cons.1 hn
    have ha : a ∈ B := hs a (by simp)
    by_cases e : x = a
    · rw [e]; simp
    · refine List.mem_cons_of_mem _ (all_taken (B := B.erase a) h2 (fun y hy => ?_) ?_ x ((List.mem_erase_of_ne e).2 hx))
      · exact (List.mem_erase_of_ne (show y ≠ a from fun e => h1 (by rw [← e]; exact hy))).2 (hs y (List.mem_cons_of_mem _ hy))
      · rw [List.length_erase_of_mem ha]
        rw [List.length_cons] at hl
        omega
theorem bef_irr : ∀ a : List Int, befB a a = false
  | [] => rfl
  | x :: a => by unfold befB; rw [if_pos rfl]; exact bef_irr a
theorem reads_nodup {c : List Qf} (hc : ∀ i, i < c.length → ((c.getD i q0).per).Pairwise (· < ·)) : (reads c).Nodup := (reads_up hc).imp fun {a b} h e => by
  rw [e, bef_irr] at h
  cases h
theorem app_split {r : List Int} {a b : List Qf} {q : Qf} (h : r.length = (a ++ q :: b).length) : ∃ ra x rb, r = ra ++ x :: rb ∧ ra.length = a.length ∧ rb.length = b.length := by
  rw [List.length_append, List.length_cons] at h
  have hk : a.length < r.length := by omega
  refine ⟨r.take a.length, r[a.length], r.drop (a.length + 1), ?_, by rw [List.length_take]; omega, by rw [List.length_drop]; omega⟩
  rw [← List.drop_eq_getElem_cons hk, List.take_append_drop]
/-- Without a proof of one person alone, by which no reading is lost or won, only those who are near move. -/
theorem near_wher {a b : List Qf} {q : Qf} {x : Int} {N : List Int} (hq : q.per = [x]) (hN : Shut (a ++ b) N) (hx : x ∈ N) (hu : ∀ i, i < (a ++ q :: b).length → (((a ++ q :: b).getD i q0).per).Pairwise (· < ·))
    (hl : (reads (a ++ q :: b)).length = (reads (a ++ b)).length) {person : Int} (day : Int) (hp : person ∉ N) : wherS (a ++ q :: b) person day = wherS (a ++ b) person day := by
  have hsplit : ∀ r, isRd (a ++ q :: b) r = true → ∃ ra rb, r = ra ++ x :: rb ∧ ra.length = a.length ∧ rb.length = b.length ∧ isRd (a ++ b) (ra ++ rb) = true := fun r hr => by
    obtain ⟨h1, h2, h3⟩ := isRd_zip.1 hr
    obtain ⟨ra, y, rb, rfl, hla, hlb⟩ := app_split h1
    rw [List.zip_append hla.symm, List.zip_cons_cons] at h2 h3
    have hy : y = x := by
      have := h2 (q, y) (by simp)
      unfold okZ at this
      simp only [Bool.and_eq_true, decide_eq_true_eq] at this
      have := this.1
      rw [hq, List.mem_singleton] at this
      exact this
    subst hy
    refine ⟨ra, rb, rfl, hla, hlb, isRd_zip.2 ⟨by simp [hla, hlb], ?_, ?_⟩⟩
    · rw [List.zip_append hla.symm]
      intro z hz
      refine h2 z ?_
      rw [List.mem_append] at hz ⊢
      exact hz.imp id fun h => List.mem_cons_of_mem _ h
    · rw [List.zip_append hla.symm]
      exact h3.sublist (List.Sublist.append (List.Sublist.refl _) (List.sublist_cons_self _ _))
  have hset : ∀ ra rb, ra.length = a.length → rb.length = b.length → isRd (a ++ b) (ra ++ rb) = true → setS (a ++ q :: b) (ra ++ x :: rb) person day = setS (a ++ b) (ra ++ rb) person day := fun ra rb hla hlb hr =>
    near_setS hla hlb hN hx (fun z hz => by
      have := (isRd_zip.1 hr).2.1 z hz
      unfold okZ at this
      simp only [Bool.and_eq_true, decide_eq_true_eq] at this
      exact this.1) day hp
  let f : List Int → List Int := fun r => r.eraseIdx a.length
  have hf : ∀ ra rb : List Int, ra.length = a.length → f (ra ++ x :: rb) = ra ++ rb := fun ra rb h => by
    show (ra ++ x :: rb).eraseIdx a.length = ra ++ rb
    rw [← h, List.eraseIdx_append_of_length_le (Nat.le_refl _), Nat.sub_self, List.eraseIdx_cons_zero]
  have hin : ∀ r ∈ (reads (a ++ q :: b)).map f, r ∈ reads (a ++ b) := fun r hr => by
    obtain ⟨r', hr', rfl⟩ := List.mem_map.1 hr
    obtain ⟨ra, rb, rfl, hla, -, hrd⟩ := hsplit r' (mem_reads.1 hr')
    rw [hf ra rb hla]
    exact mem_reads.2 hrd
  have hnd : ((reads (a ++ q :: b)).map f).Nodup := by
    rw [List.Nodup, List.pairwise_map]
    refine List.Pairwise.imp_of_mem ?_ (reads_nodup hu)
    intro r1 r2 m1 m2 hne e
    obtain ⟨ra1, rb1, rfl, hla1, -, -⟩ := hsplit r1 (mem_reads.1 m1)
    obtain ⟨ra2, rb2, rfl, hla2, -, -⟩ := hsplit r2 (mem_reads.1 m2)
    rw [hf _ _ hla1, hf _ _ hla2] at e
    obtain ⟨e1, e2⟩ := List.append_inj e (by rw [hla1, hla2])
    exact hne (by rw [e1, e2])
  have hall := all_taken hnd hin (by rw [List.length_map, hl]; exact Nat.le_refl _)
  refine rise_ext (wherS_up _ _ _) (wherS_up _ _ _) fun y => ?_
  rw [wherS_mem, wherS_mem]
  constructor
  · rintro ⟨r, hr, e⟩
    obtain ⟨ra, rb, rfl, hla, hlb, hrd⟩ := hsplit r hr
    exact ⟨_, hrd, by rw [← hset ra rb hla hlb hrd]; exact e⟩
  · rintro ⟨r, hr, e⟩
    obtain ⟨r', hr', e'⟩ := List.mem_map.1 (hall r (mem_reads.2 hr))
    obtain ⟨ra, rb, rfl, hla, hlb, hrd⟩ := hsplit r' (mem_reads.1 hr')
    rw [hf ra rb hla] at e'
    exact ⟨_, mem_reads.1 hr', by rw [hset ra rb hla hlb hrd, e']; exact e⟩
end Go.Proofs.YtehhlgdkhecacaaGreat
namespace Go.Proofs.YtehhlgdkhecacaaGreat
open Go.RowKit Go.Shelf
def woE (l : List Qf) (s : Int) : Int := if okL l = true then (if s ∈ srcL l then 0 else 3) else 21
/-- A list of proofs, and an error. -/
def PrfEnd (l : List Qf) (E : Int) (w : World) (e : Ending) (w' : World) : Prop :=
  ∃ A n c l', e = .returned (.tuple #[.slice A n c, .int .i64 E]) ∧ Prf w' A n l' ∧ l'.map Pf.q = (if E = 0 then l else []) ∧ n ≤ 1000 ∧ Below w.heap.size w w'
theorem prfEnd_no {l : List Qf} {E : Int} {w V : World} (h : E ≠ 0) (hg : Below w.heap.size w V) : PrfEnd l E w (.returned (.tuple #[.slice none 0 0, .int .i64 E])) V :=
  ⟨_, _, _, [], rfl, Prf.none _, by rw [if_neg h]; rfl, by omega, hg⟩
set_option maxRecDepth 100000 in
set_option maxHeartbeats 4000000 in
theorem withoutF_any (A : Option Addr) (n c : Nat) (l : List Pf) (s : Int) (w : World) (ha : Prf w A n l) (hn : n ≤ 9223372036854775807) :
    Calls Tryz.prog 39 #[.slice A n c, .int .i64 s] w (PrfEnd (lssL (l.map Pf.q) s) (woE (l.map Pf.q) s) w) := by
  have TC := Lib.hid (check_any A n c l w ha hn)
  by_cases hok : okL (l.map Pf.q) = true
  · have TW := Lib.hid (fun W (g : Below w.heap.size w W) => without_any A n c l s W (ha.below g) hok)
    have HE := Lib.hid (show woE (l.map Pf.q) s = if s ∈ srcL (l.map Pf.q) then 0 else 3 by unfold woE; rw [if_pos hok])
    rw [hok] at TC
    obtain ⟨lq, hlq⟩ : ∃ s, l.map Pf.q = s := ⟨_, rfl⟩
    rw [hlq] at TW HE ⊢
    clear ha hok hlq
    by_cases hm : s ∈ srcL lq
    · have HM := Lib.hid hm
      have HE0 := Lib.hid (show woE lq s = 0 by rw [HE.out, if_pos hm])
      clear hm HE
      go_enter Tryz.func39, Tryz.ntmps39
      go_wp2_with (first
        | (go_at_call 48; (with_reducible refine (TC.out).mono ?_); rintro e W1 ⟨rfl, hg1⟩; rw [show err true 21 = 0 from rfl]; have HG1 := Lib.hid hg1; clear hg1)
        | (go_at_call 74; (with_reducible refine (TW.out _ HG1.out).mono ?_); rintro e W2 ⟨⟨A2, n2, c2, rfl, hp2, -⟩, hg2⟩; rw [decide_eq_true HM.out]; have HP2 := Lib.hid (hp2 HM.out); have HG2 := Lib.hid (HG1.out.trans (hg2.mono HG1.out.size)); clear hp2 hg2))
      go_ret2
      rw [HE0.out]
      obtain ⟨l', h1, h2, h3⟩ := HP2.out
      exact ⟨_, _, _, l', rfl, h1, by rw [if_pos rfl]; exact h2, by omega, HG2.out⟩
    · have HM := Lib.hid hm
      have HE0 := Lib.hid (show woE lq s = 3 by rw [HE.out, if_neg hm])
      clear hm HE
      go_enter Tryz.func39, Tryz.ntmps39
      go_wp2_with (first
        | (go_at_call 48; (with_reducible refine (TC.out).mono ?_); rintro e W1 ⟨rfl, hg1⟩; rw [show err true 21 = 0 from rfl]; have HG1 := Lib.hid hg1; clear hg1)
        | (go_at_call 74; (with_reducible refine (TW.out _ HG1.out).mono ?_); rintro e W2 ⟨⟨A2, n2, c2, rfl, -, hp2⟩, hg2⟩; rw [decide_eq_false HM.out]; have HP2 := Lib.hid (hp2 HM.out); have HG2 := Lib.hid (HG1.out.trans (hg2.mono HG1.out.size)); clear hp2 hg2))
      go_ret2
      rw [HE0.out]
      exact prfEnd_no (by decide) HG2.out
  · have HE0 := Lib.hid (show woE (l.map Pf.q) s = 21 by unfold woE; rw [if_neg hok])
    have hokf : okL (l.map Pf.q) = false := by simpa using hok
    rw [hokf] at TC
    clear ha hok hokf
    go_enter Tryz.func39, Tryz.ntmps39
    go_wp2_with (first
      | (go_at_call 48; (with_reducible refine (TC.out).mono ?_); rintro e W1 ⟨rfl, hg1⟩; rw [show err false 21 = 21 from rfl]; have HG1 := Lib.hid hg1; clear hg1))
    go_ret2
    rw [HE0.out]
    exact prfEnd_no (by decide) HG1.out
end Go.Proofs.YtehhlgdkhecacaaGreat
namespace Go.Proofs.YtehhlgdkhecacaaGreat
open Go.RowKit Go.Shelf
theorem made_open {w W : World} {v u : Value} {ls : List Pf} {x : List Ra} (h : Md w W v u ls (whoL x)) (hq : ls.map Pf.q = madeL x) : ∃ A1 n1 c1 A2 n2 c2, v = .slice A1 n1 c1 ∧ u = .slice A2 n2 c2 ∧ Prf W A1 n1 ls ∧ n1 ≤ 10 ∧ Ints W A2 n2 (whoL x) ∧ n2 ≤ c2 ∧ c2 ≤ maxLen ∧ n2 = n1 ∧ Below w.heap.size w W := by
  obtain ⟨A1, c1, rfl, -, -, hp⟩ := h.prf
  obtain ⟨A2, c2, rfl, k1, k2, hi, -⟩ := OwnL.arr kdI h.o2
  have h1 := congrArg List.length hq
  have h2 := madeN_le x
  rw [List.length_map, madeL_len] at h1
  exact ⟨A1, _, c1, A2, _, c2, rfl, rfl, hp, by omega, hi, k1, k2, by rw [show (whoL x).length = madeN x from whoP_len x _, h1], h.g⟩
end Go.Proofs.YtehhlgdkhecacaaGreat
namespace Go.Proofs.YtehhlgdkhecacaaGreat
open Go.RowKit Go.Shelf
theorem up_few : ∀ {l : List Int} {a M : Int}, l.Pairwise (· < ·) → a ≤ M → (∀ y ∈ l, a < y ∧ y ≤ M) → (l.length : Int) ≤ M - a
  | [], a, M, _, h, _ => by simp; omega
  | x :: l, a, M, hp, h, hb => by
    have hp2 := List.pairwise_cons.1 hp
    have hx := hb x (by simp)
    have := up_few (l := l) (a := x) (M := M) hp2.2 hx.2 fun y hy => ⟨hp2.1 y hy, (hb y (List.mem_cons_of_mem _ hy)).2⟩
    rw [List.length_cons]
    omega
theorem isQf_all {q : Qf} (h : isQf q = true) : ∀ n ∈ q.per, 1 ≤ n ∧ n ≤ 999 := fun n hn => by
  unfold isQf at h
  simp only [Bool.and_eq_true] at h
  have h1 := h.1.1.1.1.1.2
  have := List.all_eq_true.1 h1 n hn
  unfold rng at this
  simpa only [Bool.and_eq_true, decide_eq_true_eq] using this
theorem isQf_up {q : Qf} (h : isQf q = true) : q.per.Pairwise (· < ·) := by
  unfold isQf at h
  simp only [Bool.and_eq_true] at h
  exact upB_iff.1 h.1.1.1.1.1.1.2
/-- Who is near: rising, and persons. -/
def Nr (N : List Int) : Prop := N.Pairwise (· < ·) ∧ ∀ n ∈ N, 1 ≤ n ∧ n ≤ 999
theorem Nr.len {N : List Int} (h : Nr N) : N.length ≤ 999 := by
  have := up_few (a := 0) (M := 999) h.1 (by omega) fun y hy => by have := h.2 y hy; omega
  omega
theorem Nr.put {N : List Int} (h : Nr N) {n : Int} (hn : 1 ≤ n ∧ n ≤ 999) : Nr (putI N n) := ⟨putI_up h.1, fun m hm => by
  rw [putI_mem] at hm
  rcases hm with rfl | hm
  · exact hn
  · exact h.2 m hm⟩
theorem srcL_at {c : List Qf} {s : Int} (h : s ∈ srcL c) : ∃ i, i < c.length ∧ (c.getD i q0).src = s := by
  unfold srcL at h
  obtain ⟨q, hq, hs⟩ := List.mem_map.1 h
  obtain ⟨i, hi, he⟩ := List.getElem_of_mem hq
  exact ⟨i, hi, by rw [List.getD_eq_getElem?_getD, List.getElem?_eq_getElem hi]; show (c[i]).src = s; rw [he, hs]⟩
theorem src_inj {c : List Qf} (hs : (srcL c).Pairwise (· < ·)) {i j : Nat} (hi : i < c.length) (hj : j < c.length) (h : (c.getD i q0).src = (c.getD j q0).src) : i = j := by
  unfold srcL at hs
  have hp := List.pairwise_iff_getElem.1 hs
  have e : ∀ k (hk : k < c.length), (c.getD k q0).src = (c.map Qf.src)[k]'(by rw [List.length_map]; exact hk) := fun k hk => by
    rw [List.getElem_map, List.getD_eq_getElem?_getD, List.getElem?_eq_getElem hk]; rfl
  rw [e i hi, e j hj] at h
  by_cases h1 : i < j
  · have := hp i j (by rw [List.length_map]; exact hi) (by rw [List.length_map]; exact hj) h1; omega
  · by_cases h2 : j < i
    · have := hp j i (by rw [List.length_map]; exact hj) (by rw [List.length_map]; exact hi) h2; omega
    · omega
theorem rst_has {c : List Qf} {s : Int} (person parish day : Int) (hs : (srcL c).Pairwise (· < ·)) :
    hasI (rstS c person parish day) s = decide (righN (wherS (lssL c s) person day) parish ≠ righN (wherS c person day) parish) := by
  have hm : s ∈ rstS c person parish day ↔ ∃ i, i < c.length ∧ rstB c person parish day i = true ∧ (c.getD i q0).src = s := by
    unfold rstS rstP
    rw [List.mem_map]
    constructor
    · rintro ⟨i, hi, he⟩
      rw [List.mem_filter, List.mem_range] at hi
      exact ⟨i, hi.1, hi.2, he⟩
    · rintro ⟨i, hi, hb, he⟩
      exact ⟨i, List.mem_filter.2 ⟨List.mem_range.2 hi, hb⟩, he⟩
  by_cases h : s ∈ srcL c
  · obtain ⟨i, hi, he⟩ := srcL_at h
    subst he
    rw [lss_at hi hs]
    show _ = rstB c person parish day i
    by_cases hb : rstB c person parish day i = true
    · rw [hb, hasI_iff, hm]
      exact ⟨i, hi, hb, rfl⟩
    · have hb := Bool.not_eq_true _ ▸ hb
      rw [hb, ← Bool.not_eq_true, hasI_iff, hm]
      rintro ⟨j, hj, hb2, he⟩
      have := src_inj hs hj hi he
      subst this
      rw [hb] at hb2
      cases hb2
  · rw [lss_none h, decide_eq_false (fun hn => hn rfl), ← Bool.not_eq_true, hasI_iff, hm]
    rintro ⟨i, hi, -, he⟩
    refine h ?_
    unfold srcL
    refine List.mem_map.2 ⟨c.getD i q0, ?_, he⟩
    rw [List.getD_eq_getElem?_getD, List.getElem?_eq_getElem hi]
    exact List.getElem_mem hi
theorem pers_in {c : List Qf} (h : ∀ q ∈ c, isQf q = true) {n : Int} (hn : n ∈ persS c) : 1 ≤ n ∧ n ≤ 999 := by
  unfold persS at hn
  rw [setL_mem] at hn
  unfold namL at hn
  obtain ⟨q, hq, hm⟩ := List.mem_flatMap.1 hn
  have hQ := h q hq
  unfold namQ at hm
  have h2 := isQf_all hQ
  have h3 : q.kind = 2 → 1 ≤ q.oth ∧ q.oth ≤ 999 := fun hk => by
    unfold isQf at hQ
    simp only [Bool.and_eq_true] at hQ
    have := hQ.2
    rw [if_pos hk] at this
    unfold rng at this
    simp only [Bool.and_eq_true, decide_eq_true_eq] at this
    exact this.1
  rw [List.mem_append] at hm
  rcases hm with hm | hm
  · exact h2 n hm
  · by_cases hk : q.kind = 2
    · rw [if_pos hk, List.mem_singleton] at hm
      rw [hm]; exact h3 hk
    · rw [if_neg hk] at hm; cases hm
theorem at_mem {c : List Qf} {i : Nat} (hi : i < c.length) : c.getD i q0 ∈ c := by
  rw [List.getD_eq_getElem?_getD, List.getElem?_eq_getElem hi]
  exact List.getElem_mem hi
theorem mem_src {c : List Qf} {q : Qf} (h : q ∈ c) : q.src ∈ srcL c := by
  unfold srcL
  exact List.mem_map.2 ⟨q, h, rfl⟩
theorem mem_inj {c : List Qf} (hs : (srcL c).Pairwise (· < ·)) {q p : Qf} (hq : q ∈ c) (hp : p ∈ c) (h : q.src = p.src) : q = p := by
  obtain ⟨i, hi, rfl⟩ := List.getElem_of_mem hq
  obtain ⟨j, hj, rfl⟩ := List.getElem_of_mem hp
  have e : ∀ k (hk : k < c.length), c.getD k q0 = c[k] := fun k hk => by rw [List.getD_eq_getElem?_getD, List.getElem?_eq_getElem hk]; rfl
  have := src_inj hs hi hj (by rw [e i hi, e j hj]; exact h)
  subst this
  rfl
theorem near_moved {ml : List Qf} {kn day : Int} {q : Qf} (hok : okL ml = true) (hq : q ∈ ml) (hkn : 0 ≤ kn ∧ kn ≤ 4166) (hd : 0 ≤ day ∧ day ≤ 4166) (hr : isRead (cntL ml kn) = true) (h1 : q.per.length ≤ 1)
    (hl : (reads (cntL ml kn)).length = (reads (lssL (cntL ml kn) q.src)).length) {n : Int} (hn : n ∈ movS ml q.src day kn) : n ∈ nearL ml ml.length [q.per.getD 0 0] := by
  have hall := okL_all hok
  have hQ := hall q hq
  obtain ⟨x, hx⟩ : ∃ x, q.per = [x] := by
    have := (isQf_per hQ).1
    match hp : q.per with
    | [] => rw [hp] at this; simp at this
    | [x] => exact ⟨x, rfl⟩
    | _ :: _ :: _ => rw [hp] at h1; simp at h1
  have hx0 : q.per.getD 0 0 = x := by rw [hx]; rfl
  rw [hx0]
  have hcs : ∀ y ∈ cntL ml kn, y ∈ ml := fun y hy => (List.mem_filter.1 hy).1
  have hcr : (srcL (cntL ml kn)).Pairwise (· < ·) := (okL_src hok).sublist (List.filter_sublist.map _)
  unfold movS at hn
  rw [List.mem_filter] at hn
  have hpn := pers_in (fun y hy => hall y (hcs y hy)) hn.1
  refine Classical.byContradiction fun hnn => ?_
  have hw : wherS (cntL ml kn) n day = wherS (lssL (cntL ml kn) q.src) n day := by
    by_cases hs : q.src ∈ srcL (cntL ml kn)
    · obtain ⟨i, hi, he⟩ := srcL_at hs
      have hE : (cntL ml kn).getD i q0 = q := mem_inj (okL_src hok) (hcs _ (at_mem hi)) hq he
      have hsp := split_at hi
      rw [hE] at hsp
      obtain ⟨a, ha⟩ : ∃ a, (cntL ml kn).take i = a := ⟨_, rfl⟩
      obtain ⟨b, hb⟩ : ∃ b, (cntL ml kn).drop (i + 1) = b := ⟨_, rfl⟩
      rw [ha, hb] at hsp
      have hls : lssL (cntL ml kn) q.src = a ++ b := by rw [hsp]; exact lss_split (by rw [← hsp]; exact hcr)
      rw [hls] at hl ⊢
      rw [hsp] at hl hcs ⊢
      refine near_wher hx ?_ (near_has ml (List.mem_singleton.2 rfl) _) (fun j hj => isQf_up (hall _ (hcs _ (at_mem hj)))) hl day hnn
      intro y hy hk ho m hm
      refine near_shut ml [x] y (hcs y ?_) hk ho m hm
      rw [List.mem_append] at hy ⊢
      exact hy.imp id fun h => List.mem_cons_of_mem _ h
    · rw [lss_none hs]
  have h2 := hn.2
  have hdd : ∀ d ∈ [day, kn], 0 ≤ d ∧ d ≤ 4166 := fun d hm => by
    simp only [List.mem_cons, List.not_mem_nil, or_false] at hm
    rcases hm with rfl | rfl
    · exact hd
    · exact hkn
  have hE1 : whE ml day kn n = 0 := by
    unfold whE
    rw [readE_of hok hpn ⟨by omega, by omega⟩ hdd, if_pos hr]
  have hE2 : whE (lssL ml q.src) day kn n = 0 := by
    unfold whE
    rw [readE_of (okL_subl hok (lss_sub _ _)) hpn ⟨by omega, by omega⟩ hdd, lss_cnt, if_pos (isRead_sub (lss_sub _ _) hr)]
  unfold movB whA at h2
  rw [hE1, hE2, if_pos rfl, if_pos rfl, lss_cnt, hw] at h2
  simp at h2
end Go.Proofs.YtehhlgdkhecacaaGreat
namespace Go.Proofs.YtehhlgdkhecacaaGreat
open Go.RowKit Go.Shelf
section
variable {W : World} {A : Option Addr} {n c : Nat} {ls : List Pf} {ml : List Qf} {known day person parish : Int}
theorem c15 (hp : Prf W A n ls) (hq : ls.map Pf.q = ml) (hok : okL ml = true) (hn : n ≤ 1000) (hpr : 1 ≤ person ∧ person ≤ 999) (hpa : 0 ≤ parish ∧ parish ≤ 5) (hd : 0 ≤ day ∧ day ≤ 4166) (hk : 0 ≤ known ∧ known ≤ 4166) :
    Calls Tryz.prog 15 #[.slice A n c, .int .i64 person, .int .i64 parish, .int .i64 day, .int .i64 known] W fun e w' => ∃ D m d, e = .returned (.tuple #[.slice D m d, .int .i64 (if isRead (cntL ml known) = true then 0 else 24)]) ∧
      Ints w' D m (if isRead (cntL ml known) = true then rstS (cntL ml known) person parish day else []) ∧ m ≤ 3000 ∧ Below W.heap.size W w' := by
  have := rests_any A n c ls person parish day known W hp (by omega)
  rw [hq, readE_of hok hpr hpa (two_days hd hk)] at this
  refine this.mono ?_
  rintro e w' ⟨D, m, d, rfl, hi, -, -, hg⟩
  have hw := rstP_len (cntL ml known) person parish day (cntL ml known).length
  have hcl := cnt_len hok known
  by_cases h : isRead (cntL ml known) = true
  · rw [if_pos h, if_pos rfl] at hi
    exact ⟨D, m, d, rfl, by rw [if_pos h]; exact hi, by have h1 := hi.1; unfold rstS at h1; omega, hg⟩
  · rw [if_neg h, if_neg (by decide)] at hi
    exact ⟨D, m, d, rfl, by rw [if_neg h]; exact hi, by have := hi.1; rw [List.length_nil] at this; omega, hg⟩
theorem c39 {s : Int} (hp : Prf W A n ls) (hq : ls.map Pf.q = ml) (hok : okL ml = true) (hn : n ≤ 1000) (hs : s ∈ srcL ml) :
    Calls Tryz.prog 39 #[.slice A n c, .int .i64 s] W fun e w' => ∃ D m d l', e = .returned (.tuple #[.slice D m d, .int .i64 0]) ∧ Prf w' D m l' ∧ l'.map Pf.q = lssL ml s ∧ m ≤ 1000 ∧ Below W.heap.size W w' := by
  have := withoutF_any A n c ls s W hp (by omega)
  rw [hq] at this
  refine this.mono ?_
  rintro e w' ⟨D, m, d, l', rfl, hp2, hq2, hm, hg⟩
  have hE : woE ml s = 0 := by unfold woE; rw [if_pos hok, if_pos hs]
  rw [hE, if_pos rfl] at hq2
  exact ⟨D, m, d, l', by rw [hE], hp2, hq2, hm, hg⟩
theorem c17 {s : Int} (hp : Prf W A n ls) (hq : ls.map Pf.q = ml) (hok : okL ml = true) (hn : n ≤ 1000) (hs : s ∈ srcL ml) (hd : 0 ≤ day ∧ day ≤ 4166) (hk : 0 ≤ known ∧ known ≤ 4166) :
    Calls Tryz.prog 17 #[.slice A n c, .int .i64 s, .int .i64 day, .int .i64 known] W fun e w' => ∃ D m d, e = .returned (.tuple #[.slice D m d, .int .i64 0]) ∧ Ints w' D m (movS ml s day known) ∧ m ≤ 3000 ∧ Below W.heap.size W w' := by
  have := moved_any A n c ls s day known W hp (by omega)
  rw [hq] at this
  refine this.mono ?_
  rintro e w' ⟨D, m, d, rfl, hi, -, -, hg⟩
  have hE : movE ml s day known = 0 := by unfold movE; rw [lookE_ok hok (two_days hd hk), if_pos rfl, if_pos hs]
  rw [hE, if_pos rfl] at hi
  have hcl := cnt_len hok known
  have h1 := namL_len (cntL ml known) fun q hq => (isQf_per (okL_all hok q (List.mem_filter.1 hq).1)).2
  have h2 := setL_len (namL (cntL ml known))
  have h3 := List.length_filter_le (movB ml (lssL ml s) day known) (persS (cntL ml known))
  have h4 : (movS ml s day known).length = m := hi.1
  unfold movS at h4
  unfold persS at h3 h4
  exact ⟨D, m, d, by rw [hE], hi, by omega, hg⟩
end
/-- Who is near, as a slice. -/
def NrS (w : World) (v : Value) (N : List Int) : Prop := ∃ A n c, v = .slice A n c ∧ Ints w A n N ∧ Nr N
theorem NrS.ext {w w' : World} {v : Value} {N : List Int} (h : NrS w v N) (g : Below w.heap.size w w') : NrS w' v N := by
  obtain ⟨A, n, c, h1, h2, h3⟩ := h
  exact ⟨A, n, c, h1, h2.below g, h3⟩
theorem nrS_own {w : World} {base : Nat} {v : Value} {N : List Int} (h : OwnL icells 1 3 w base v N) (hn : Nr N) : NrS w v N := by
  obtain ⟨A, c', rfl, -, -, ha, -⟩ := OwnL.arr kdI h
  exact ⟨A, _, c', rfl, ha, hn⟩
theorem nearQ_take {l : List Qf} {j : Nat} (hj : j < l.length) (N : List Int) : (l.take (j + 1)).foldl nearQ N = nearQ ((l.take j).foldl nearQ N) (l.getD j q0) := by
  rw [take_snoc (d := q0) hj, List.foldl_append]
  rfl
theorem putF_take {l : List Int} {j : Nat} (hj : j < l.length) (N : List Int) : (l.take (j + 1)).foldl putI N = putI ((l.take j).foldl putI N) (l.getD j 0) := by
  rw [take_snoc (d := 0) hj, List.foldl_append]
  rfl
set_option maxRecDepth 100000 in
set_option maxHeartbeats 16000000 in
theorem law6_any (A : Option Addr) (n c : Nat) (x : List Ra) (z0 z1 z2 z3 z4 : Int) (w : World) (ha : Arr rcells 9 w A n x) (hn : n ≤ 9223372036854775807) (hx : ∀ r ∈ x, RaOk r) :
    Calls Tryz.prog 6 #[.slice A n c, .agg #[.int .i64 z0, .int .i64 z1, .int .i64 z2, .int .i64 z3, .int .i64 z4]] w fun e w' => e = .returned (.bool true) ∧ Below w.heap.size w w' := by
  obtain ⟨W1, hW1⟩ : ∃ X, w.alloc (.cells #[.int .i64 z0, .int .i64 z1, .int .i64 z2, .int .i64 z3, .int .i64 z4] 51) = X := ⟨_, rfl⟩
  have G1 := Lib.hid (show Below w.heap.size w W1 by rw [← hW1]; exact one_more _ _)
  have B1 := Lib.hid (show Blk W1 w.heap.size 51 #[.int .i64 z0, .int .i64 z1, .int .i64 z2, .int .i64 z3, .int .i64 z4] by rw [← hW1]; exact Blk.new _ _ _)
  have HW1 := Lib.hid hW1
  have TM := Lib.hid refMod_any
  have TS := Lib.hid sane_any
  have TH := Lib.hid (made_any A n c x W1 (ha.below G1.out) hn hx)
  have HOK := Lib.hid (made_ok x)
  have HMO := Lib.hid (fun (W : World) v u ls (h : Md W1 W v u ls (whoL x)) hq => made_open h hq)
  obtain ⟨ml, hml⟩ : ∃ l, madeL x = l := ⟨_, rfl⟩
  obtain ⟨wl, hwl⟩ : ∃ l, whoL x = l := ⟨_, rfl⟩
  rw [hml, hwl] at TH HMO
  rw [hml] at HOK
  clear ha hx hml hwl hW1
  go_enter Tryz.func6, Tryz.ntmps6
  go_upto_region 1 with fail
  rw [HW1.out]
  go_upto_region 2 with (go_at_call 37; (with_reducible refine (TH.out).mono ?_); rintro e V ⟨v, u, ls, rfl, hmd, hq⟩; obtain ⟨A1, n1, c1, A2, n2, c2, rfl, rfl, hp, hn1, -, -, -, -, hg⟩ := HMO.out _ _ _ _ hmd hq; have HP := Lib.hid hp; have HQ := Lib.hid hq; have HN := Lib.hid (show n1 ≤ 1000 by omega); have GV := Lib.hid hg; have HG := Lib.hid (G1.out.trans (hg.mono G1.out.size)); clear hmd hp hq hn1 hg)
  have HBX := Lib.hid (B1.out.ext GV.out)
  obtain ⟨bX, hbX⟩ : ∃ b, w.heap.size = b := ⟨_, rfl⟩
  have HBXE := Lib.hid hbX
  rw [hbX] at HBX ⊢
  clear hbX
  have d0 := HBX.out.cell 0
  have d1 := HBX.out.cell 1
  have d2 := HBX.out.cell 2
  have d3 := HBX.out.cell 3
  have hw1 : wrap64 (1 + z2 % 5) = 1 + z2 % 5 := wrap_in (by omega)
  go_upto_region 6 with (go_at_call 38; (with_reducible refine (TM.out _ _ _ (by omega) (by omega)).mono ?_); rintro e w' ⟨rfl, rfl⟩)
  clear d0 d1 d2 d3
  obtain ⟨kn, hkn⟩ : ∃ d, z0 % 60 = d := ⟨_, rfl⟩
  obtain ⟨day, hday⟩ : ∃ d, z1 % 2500 = d := ⟨_, rfl⟩
  obtain ⟨per, hper⟩ : ∃ d, 1 + z2 % 5 = d := ⟨_, rfl⟩
  obtain ⟨par, hpar⟩ : ∃ d, z3 % 3 = d := ⟨_, rfl⟩
  have HK := Lib.hid (show 0 ≤ kn ∧ kn ≤ 4166 by omega)
  have HD := Lib.hid (show 0 ≤ day ∧ day ≤ 4166 by omega)
  have HPR := Lib.hid (show 1 ≤ per ∧ per ≤ 999 by omega)
  have HPA := Lib.hid (show 0 ≤ par ∧ par ≤ 5 by omega)
  rw [hkn, hday, hper, hpar]
  clear hkn hday hper hpar hw1
  have HLN := Lib.hid HP.out.len
  have HLM := Lib.hid (show ml.length = n1 by rw [← HQ.out, List.length_map]; exact HLN.out)
  have hn1k : n1 ≤ 1000 := HN.out
  have T28 := Lib.hid (fun W (g : Below V.heap.size V W) => c28 (c := c1) (HP.out.below g) HQ.out HOK.out HN.out HPR.out HPA.out HD.out HK.out)
  have T15 := Lib.hid (fun W (g : Below V.heap.size V W) => c15 (c := c1) (HP.out.below g) HQ.out HOK.out HN.out HPR.out HPA.out HD.out HK.out)
  have T41 := Lib.hid (fun W (g : Below V.heap.size V W) => c41 (c := c1) (HP.out.below g) HQ.out HOK.out HN.out HK.out)
  have T39 := Lib.hid (fun W (g : Below V.heap.size V W) s hs => c39 (c := c1) (s := s) (HP.out.below g) HQ.out HOK.out HN.out hs)
  have T17 := Lib.hid (fun W (g : Below V.heap.size V W) s hs => c17 (c := c1) (s := s) (HP.out.below g) HQ.out HOK.out HN.out hs HD.out HK.out)
  have T28l := Lib.hid (fun W (A3 : Option Addr) (n3 c3 : Nat) (l3 : List Pf) s (hp : Prf W A3 n3 l3) (hq : l3.map Pf.q = lssL ml s) (hn : n3 ≤ 1000) => c28 (c := c3) hp hq (okL_subl HOK.out (lss_sub _ _)) hn HPR.out HPA.out HD.out HK.out)
  have T41l := Lib.hid (fun W (A3 : Option Addr) (n3 c3 : Nat) (l3 : List Pf) s (hp : Prf W A3 n3 l3) (hq : l3.map Pf.q = lssL ml s) (hn : n3 ≤ 1000) => c41 (c := c3) hp hq (okL_subl HOK.out (lss_sub _ _)) hn HK.out)
  simp only [lss_cnt] at T28l T41l
  have HCR := Lib.hid (show (srcL (cntL ml kn)).Pairwise (· < ·) from (okL_src HOK.out).sublist (List.filter_sublist.map _))
  have HNM := Lib.hid (fun q (hq : q ∈ ml) (hr : isRead (cntL ml kn) = true) h1 hl n hn => near_moved (n := n) HOK.out hq HK.out HD.out hr h1 hl hn)
  obtain ⟨cq, hcq⟩ : ∃ l, cntL ml kn = l := ⟨_, rfl⟩
  rw [hcq] at T28 T15 T41 HCR
  simp only [hcq] at T28l T41l HNM
  clear hcq
  by_cases hr : isRead cq = true
  · rw [if_pos hr, if_pos hr] at T28 T15
    have HRL := Lib.hid (fun s => isRead_sub (lss_sub cq s) hr)
    simp only [HRL.out, if_pos] at T28l
    have HR := Lib.hid hr
    clear hr
    have HRH := Lib.hid (fun s => rst_has (s := s) per par day HCR.out)
    obtain ⟨rs, hrs⟩ : ∃ l, rstS cq per par day = l := ⟨_, rfl⟩
    rw [hrs] at T15 HRH
    obtain ⟨an, han⟩ : ∃ t, righN (wherS cq per day) par = t := ⟨_, rfl⟩
    rw [han] at T28 HRH
    clear hrs han
    go_upto_region 8 with (first
      | (go_at_call 28; (with_reducible refine (T28.out _ (Below.refl _ _)).mono ?_); rintro e X1 ⟨rfl, hg⟩; have Q1 := Lib.hid hg; clear hg)
      | (go_at_call 15; (with_reducible refine (T15.out _ Q1.out).mono ?_); rintro e X2 ⟨D, m, d, rfl, hi, hm, hg⟩; have HI := Lib.hid hi; have HM := Lib.hid hm; have Q2 := Lib.hid (Q1.out.trans (hg.mono Q1.out.size)); clear hi hm hg))
    by_cases h0 : n1 = 0
    · have h0b : ((n1 : Int) == 0) = true := beq_iff_eq.2 (by omega)
      go_wp2_with (go_at_call 20; (with_reducible refine (TS.out _).mono ?_); rintro e V9 ⟨rfl, hg⟩; have GV9 := Lib.hid (Q2.out.trans (hg.mono Q2.out.size)); clear hg)
      go_ret
      exact ⟨rfl, HG.out.trans (GV9.out.mono HG.out.size)⟩
    · have h0b : ((n1 : Int) == 0) = false := beq_eq_false_iff_ne.2 (by omega)
      have hk0 : 0 ≤ z4 % (n1 : Int) := Int.emod_nonneg _ (by omega)
      have hk1 : z4 % (n1 : Int) < (n1 : Int) := Int.emod_lt_of_pos _ (by omega)
      obtain ⟨kk, hkk⟩ : ∃ k : Nat, z4 % (n1 : Int) = k := ⟨(z4 % (n1 : Int)).toNat, by omega⟩
      have hkl : kk < n1 := by omega
      have hkli : (kk : Int) < (n1 : Int) := by omega
      have TMk := Lib.hid (fun W => (show Calls Tryz.prog 38 #[.int .i64 z4, .int .i64 (n1 : Int)] W fun e w' => e = .returned (.int .i64 (kk : Int)) ∧ W = w' by rw [← hkk]; exact TM.out _ _ W (by omega) (by omega)))
      clear hk0 hk1 hkk
      have HPX := Lib.hid (HP.out.below Q2.out)
      obtain ⟨b, o, rfl, -, hyi, hym, hyc⟩ := HPX.out.at hkl
      obtain ⟨y, hy⟩ : ∃ y, ls.getD kk p0 = y := ⟨_, rfl⟩
      rw [hy] at hyi hym hyc
      obtain ⟨e0, e1, e2, e3, e4, e5, e6, e7, e8⟩ := hyc _ (Below.refl _ _)
      have d4 := (HBX.out.ext Q2.out).cell 4
      have HYI := Lib.hid hyi
      have HYQ := Lib.hid (show y.q ∈ ml by rw [← HQ.out]; exact List.mem_map.2 ⟨y, hym, rfl⟩)
      have HYN := Lib.hid (show 1 ≤ y.n ∧ y.n ≤ 4 by have h1 := isQf_per4 (okL_all HOK.out _ HYQ.out); have h2 := HYI.out.len; omega)
      obtain ⟨W2, hW2⟩ : ∃ X, X2.alloc (.cells #[.int .i64 y.q.src, .int .i64 y.q.kind, .slice y.A y.n y.c, .int .i64 y.q.oth, .int .i64 y.q.par, .int .i64 y.q.day, .int .i64 y.q.thr, .int .i64 y.q.kno, .int .i64 y.q.unt] 56) = X := ⟨_, rfl⟩
      have GW2 := Lib.hid (show Below X2.heap.size X2 W2 by rw [← hW2]; exact one_more _ _)
      have BW2 := Lib.hid (show Blk W2 X2.heap.size 56 #[.int .i64 y.q.src, .int .i64 y.q.kind, .slice y.A y.n y.c, .int .i64 y.q.oth, .int .i64 y.q.par, .int .i64 y.q.day, .int .i64 y.q.thr, .int .i64 y.q.kno, .int .i64 y.q.unt] by rw [← hW2]; exact Blk.new _ _ _)
      have HW2 := Lib.hid hW2
      clear hW2 hy hyi hym hyc
      go_upto_region 13 with (go_at_call 38; (with_reducible refine (TMk.out _).mono ?_); rintro e w' ⟨rfl, rfl⟩)
      rw [HW2.out]
      obtain ⟨bP, hbP⟩ : ∃ b, X2.heap.size = b := ⟨_, rfl⟩
      rw [hbP] at BW2 ⊢
      clear hbP e0 e1 e2 e3 e4 e5 e6 e7 e8 d4 hkl hkli
      have GV2 := Lib.hid (Q2.out.trans (GW2.out.mono Q2.out.size))
      have HI2 := Lib.hid (HI.out.below GW2.out)
      have HY2 := Lib.hid (HYI.out.below GW2.out)
      obtain ⟨bn, hbn⟩ : ∃ t, righN (wherS (lssL cq y.q.src) per day) par = t := ⟨_, rfl⟩
      have T28s := Lib.hid (fun W (A3 : Option Addr) (n3 c3 : Nat) (l3 : List Pf) hp hq hn => T28l.out W A3 n3 c3 l3 y.q.src hp hq hn)
      rw [hbn] at T28s
      have HHB := Lib.hid (show hasI rs y.q.src = (an != bn) by
        rw [HRH.out, hbn]
        by_cases h : bn = an
        · subst h; simp
        · rw [decide_eq_true h]; exact (bne_iff_ne.2 fun e => h e.symm).symm)
      have T39s := Lib.hid (T39.out _ GV2.out y.q.src (mem_src HYQ.out))
      clear hbn
      have c0 : World.cell? W2 ⟨bP, 0, none⟩ = some (.int .i64 y.q.src) := BW2.out.cell 0
      go_upto_region 15 with (first
        | (go_at_call 39; (with_reducible refine (T39s.out).mono ?_); rintro e X3 ⟨A3, n3, c3, l3, rfl, hp, hq, hn, hg⟩; have HP3 := Lib.hid hp; have HQ3 := Lib.hid hq; have HN3 := Lib.hid hn; have R3 := Lib.hid hg; clear hp hq hn hg)
        | (go_at_call 28; (with_reducible refine (T28s.out X3 A3 n3 c3 l3 HP3.out HQ3.out HN3.out).mono ?_); rintro e X4 ⟨rfl, hg⟩; have HP4 := Lib.hid (HP3.out.below hg); have R4 := Lib.hid (R3.out.trans (hg.mono R3.out.size)); clear hg))
      clear c0
      have c1 : World.cell? X4 ⟨bP, 0, none⟩ = some (.int .i64 y.q.src) := (BW2.out.ext R4.out).cell 0
      have T40 := Lib.hid (refHas_any D m d rs y.q.src X4 (HI2.out.below R4.out) (by have := HM.out; omega))
      rw [HHB.out] at T40
      obtain ⟨bb, hbb⟩ : ∃ t, (an != bn) = t := ⟨_, rfl⟩
      rw [hbb] at T40
      have hb2 : (bb != bb) = false := by cases bb <;> rfl
      go_upto_region 17 with (go_at_call 40; (with_reducible refine (T40.out).mono ?_); rintro e w' ⟨rfl, rfl⟩)
      clear c1 hbb hb2
      obtain ⟨N1, hN1⟩ : ∃ k, (reads cq).length = k := ⟨_, rfl⟩
      obtain ⟨N2, hN2⟩ : ∃ k, (reads (lssL cq y.q.src)).length = k := ⟨_, rfl⟩
      have HN12 := Lib.hid (And.intro hN1 hN2)
      have T41a := Lib.hid (T41.out _ (GV2.out.trans (R4.out.mono GV2.out.size)))
      have T41b := Lib.hid (fun W (g : Below X4.heap.size X4 W) => T41l.out W A3 n3 c3 l3 y.q.src (HP4.out.below g) HQ3.out HN3.out)
      rw [hN1] at T41a
      rw [hN2] at T41b
      clear hN1 hN2
      go_upto_region 19 with (first
        | (go_at_call 41; (with_reducible refine (T41a.out).mono ?_); rintro e X5 ⟨rfl, hg⟩; have R5 := Lib.hid hg; clear hg)
        | (go_at_call 41; (with_reducible refine (T41b.out _ R5.out).mono ?_); rintro e X6 ⟨rfl, hg⟩; have R6 := Lib.hid (R4.out.trans ((R5.out.trans (hg.mono R5.out.size)).mono R4.out.size)); clear hg))
      have c6 : World.cell? X6 ⟨bP, 0, none⟩ = some (.int .i64 y.q.src) := (BW2.out.ext R6.out).cell 0
      have T17s := Lib.hid (T17.out _ (GV2.out.trans (R6.out.mono GV2.out.size)) y.q.src (mem_src HYQ.out))
      obtain ⟨mv, hmv⟩ : ∃ l, movS ml y.q.src day kn = l := ⟨_, rfl⟩
      rw [hmv] at T17s
      have HMV := Lib.hid hmv
      clear hmv
      go_upto_region 22 with (go_at_call 17; (with_reducible refine (T17s.out).mono ?_); rintro e X7 ⟨D4, m4, d4, rfl, hi, hm, hg⟩; have HI4 := Lib.hid hi; have HM4 := Lib.hid hm; have R7 := Lib.hid (R6.out.trans (hg.mono R6.out.size)); clear hi hm hg)
      clear c6
      have c2 : World.cell? X7 ⟨bP, 2, none⟩ = some (.slice y.A y.n y.c) := (BW2.out.ext R7.out).cell 2
      have hm4 : m4 ≤ 3000 := HM4.out
      by_cases hpn : 1 < y.n
      · have hpni : (1 : Int) < (y.n : Int) := by omega
        go_wp2_with (go_at_call 20; (with_reducible refine (TS.out _).mono ?_); rintro e V9 ⟨rfl, hg⟩; have GV9 := Lib.hid (GV2.out.trans ((R7.out.trans (hg.mono R7.out.size)).mono GV2.out.size)); clear hg)
        go_ret
        exact ⟨rfl, HG.out.trans (GV9.out.mono HG.out.size)⟩
      · have hpni : ¬ (1 : Int) < (y.n : Int) := by omega
        have hpn1 : y.n = 1 := by have := HYN.out; omega
        by_cases hnn : N1 = N2
        · have hnb : ((N1 : Int) != (N2 : Int)) = false := by rw [hnn]; simp
          have HLQ := Lib.hid (show y.q.per.length = y.n from HYI.out.len)
          have HNV := Lib.hid (fun s (hs : s ∈ mv) => HNM.out y.q HYQ.out HR.out (by rw [HLQ.out]; omega) (by rw [HN12.out.1, HN12.out.2]; exact hnn) s (by rw [HMV.out]; exact hs))
          obtain ⟨bp, op, hpa, -, hel, hpc⟩ := ints_at (HY2.out.below R7.out).i (show 0 < y.n by omega)
          have HPE := Lib.hid (isQf_all (okL_all HOK.out _ HYQ.out) _ (List.mem_of_getElem? hel))
          obtain ⟨pe, hpe⟩ : ∃ t, y.q.per.getD 0 0 = t := ⟨_, rfl⟩
          rw [hpe] at hpc hel HPE HNV
          have x1 := hpc _ (Below.refl _ _)
          rw [hpa] at c2
          simp only [Nat.add_zero] at x1
          obtain ⟨V3, hV3⟩ : ∃ X, X7.alloc (.cells #[.int .i64 pe] 3) = X := ⟨_, rfl⟩
          have GV3 := Lib.hid (show Below X7.heap.size X7 V3 by rw [← hV3]; exact one_more _ _)
          have HN0 := Lib.hid (show NrS V3 (.slice (some ⟨X7.heap.size, 0, none⟩) 1 1) (nearL ml 0 [pe]) from ⟨_, _, _, rfl, by rw [← hV3]; exact one_int (Blk.new _ _ _), ⟨List.pairwise_singleton _ _, fun m hm => by rw [List.mem_singleton.1 hm]; exact HPE.out⟩⟩)
          have HV3 := Lib.hid hV3
          have HHP := Lib.hid hpa
          clear hV3 hpe hpc hel hpa
          go_upto_region 25 with fail
          rw [HV3.out]
          obtain ⟨bs, hbs⟩ : ∃ b, X7.heap.size = b := ⟨_, rfl⟩
          have HBS := Lib.hid hbs
          rw [hbs] at HN0 ⊢
          clear hbs c2 x1
          have RV3 := Lib.hid (R7.out.trans (GV3.out.mono R7.out.size))
          have GG3 := Lib.hid (GV2.out.trans (RV3.out.mono GV2.out.size))
          have HPW := Lib.hid (HP.out.below GG3.out)
          have HMW := Lib.hid (HI4.out.below GV3.out)
          clear hpn hpni hpn1 hnn hnb h0 h0b
          go_wp2_with fail
          go_loopw [26, 27] (fun v i wr => ∃ k : Nat, k ≤ n1 ∧ i = .int .i64 k ∧ NrS wr v (nearL ml k [pe]) ∧ Below V3.heap.size V3 wr) (fun _ i _ => n1 - (intOf i).toNat)
          case atStart => exact ⟨0, Nat.zero_le _, rfl, HN0.out, Below.refl _ _⟩
          case round =>
            rename World => Wk
            obtain ⟨k, hk, rfl, ⟨AN, mN, cN, rfl, hni, hnr⟩, hg⟩ := hrel
            have HNI := Lib.hid hni
            have HNN := Lib.hid hnr
            have HGk := Lib.hid hg
            have HWK := Lib.hid (show wrap64 ((k : Int) + 1) = (k : Int) + 1 from wrap_in (by omega))
            clear hni hnr hg
            by_cases hkn1 : k < n1
            · go_wp2_with fail
              go_loopw [26, 28] (fun v i wr => ∃ j : Nat, j ≤ n1 ∧ i = .int .i64 j ∧ NrS wr v ((ml.take j).foldl nearQ (nearL ml k [pe])) ∧ Below V3.heap.size V3 wr) (fun _ i _ => n1 - (intOf i).toNat)
              case atStart => exact ⟨0, Nat.zero_le _, rfl, ⟨_, _, _, rfl, HNI.out, HNN.out⟩, HGk.out⟩
              case round =>
                rename World => Wj
                obtain ⟨j, hj, rfl, ⟨AM, mM, cM, rfl, hni, hnr⟩, hg⟩ := hrel
                have HJI := Lib.hid hni
                have HJN := Lib.hid hnr
                have HGj := Lib.hid hg
                have HWJ := Lib.hid (show wrap64 ((j : Int) + 1) = (j : Int) + 1 from wrap_in (by omega))
                clear hni hnr hg
                by_cases hjn : j < n1
                · have HS := Lib.hid (nearQ_take (l := ml) (j := j) (by rw [HLM.out]; exact hjn) (nearL ml k [pe]))
                  obtain ⟨NJ, hNJ⟩ : ∃ l, (ml.take j).foldl nearQ (nearL ml k [pe]) = l := ⟨_, rfl⟩
                  rw [hNJ] at HJI HJN HS
                  clear hNJ
                  obtain ⟨b9, o9, hb9, -, hyi, hym, hyc⟩ := (HPW.out.below HGj.out).at hjn
                  obtain ⟨rfl, rfl⟩ : b = b9 ∧ o = o9 := by simpa using hb9
                  obtain ⟨t, ht⟩ : ∃ t, ls.getD j p0 = t := ⟨_, rfl⟩
                  rw [show ml.getD j q0 = (ls.getD j p0).q by rw [← HQ.out]; exact map_pf (by rw [HLN.out]; exact hjn)] at HS
                  rw [ht] at hyi hym hyc HS
                  have HYC := Lib.hid hyc
                  have HTI := Lib.hid hyi
                  have HTQ := Lib.hid (show t.q ∈ ml by rw [← HQ.out]; exact List.mem_map.2 ⟨t, hym, rfl⟩)
                  obtain ⟨tn, htn⟩ : ∃ k, t.n = k := ⟨_, rfl⟩
                  have HTN := Lib.hid htn
                  have HTL := Lib.hid (show t.q.per.length = tn from HTI.out.len.trans htn)
                  have ht4 : tn ≤ 4 := by rw [← HTL.out]; exact (isQf_per4 (okL_all HOK.out _ HTQ.out)).2
                  obtain ⟨e0, e1, e2, e3, e4, e5, e6, e7, e8⟩ := hyc _ (Below.refl _ _)
                  rw [htn] at e2
                  clear hb9 hyi hym hyc ht htn e0 e4 e5 e6 e7 e8
                  by_cases hk2 : t.q.kind = 2
                  · have hk2b : (t.q.kind == 2) = true := beq_iff_eq.2 hk2
                    have T40n := Lib.hid (refHas_any AM mM cM NJ t.q.oth Wj HJI.out (by have h1 := HJN.out.len; have h2 := HJI.out.1; omega))
                    by_cases ho : t.q.oth ∈ NJ
                    · rw [hasI_true ho] at T40n
                      have HE := Lib.hid (show nearQ NJ t.q = t.q.per.foldl putI NJ by unfold nearQ; rw [if_pos ⟨hk2, ho⟩])
                      rw [HE.out] at HS
                      clear ho hk2
                      go_wp2_with (go_at_call 40; (with_reducible refine (T40n.out).mono ?_); rintro e w' ⟨rfl, rfl⟩)
                      go_loopw [26, 29] (fun v i wr => ∃ q : Nat, q ≤ tn ∧ i = .int .i64 q ∧ NrS wr v ((t.q.per.take q).foldl putI NJ) ∧ Below Wj.heap.size Wj wr) (fun _ i _ => tn - (intOf i).toNat)
                      case atStart => exact ⟨0, Nat.zero_le _, rfl, ⟨_, _, _, rfl, HJI.out, HJN.out⟩, Below.refl _ _⟩
                      case round =>
                        rename World => Wq
                        obtain ⟨q, hq, rfl, ⟨AQ, mQ, cQ, rfl, hni, hnr⟩, hg⟩ := hrel
                        have HQI := Lib.hid hni
                        have HQN := Lib.hid hnr
                        have HGq := Lib.hid hg
                        have HWQ := Lib.hid (show wrap64 ((q : Int) + 1) = (q : Int) + 1 from wrap_in (by omega))
                        clear hni hnr hg e1 e2 e3
                        obtain ⟨f0, f1, f2, f3, f4, f5, f6, f7, f8⟩ := HYC.out _ HGq.out
                        rw [HTN.out] at f2
                        clear f0 f1 f3 f4 f5 f6 f7 f8
                        by_cases hqt : q < tn
                        · have HS3 := Lib.hid (putF_take (l := t.q.per) (j := q) (by rw [HTL.out]; exact hqt) NJ)
                          obtain ⟨NQ, hNQ⟩ : ∃ l, (t.q.per.take q).foldl putI NJ = l := ⟨_, rfl⟩
                          rw [hNQ] at HQI HQN HS3
                          obtain ⟨bt, ot, hta, -, hel, hpc⟩ := ints_at (HTI.out.below HGq.out).i (show q < t.n by rw [HTN.out]; exact hqt)
                          have HPV := Lib.hid (isQf_all (okL_all HOK.out _ HTQ.out) _ (List.mem_of_getElem? hel))
                          obtain ⟨pv, hpv⟩ : ∃ t', t.q.per.getD q 0 = t' := ⟨_, rfl⟩
                          rw [hpv] at hpc hel HPV HS3
                          have x0 := hpc _ (Below.refl _ _)
                          rw [hta] at f2
                          have T42 := Lib.hid (refPut_any AQ mQ cQ NQ pv Wq HQI.out (by have h1 := HQN.out.len; have h2 := HQI.out.1; omega) HQN.out.1)
                          clear hNQ hpv hpc hel hta
                          have hwq9 := HWQ.out
                          go_wp2_with (go_at_call 42; (with_reducible refine (T42.out).mono ?_); rintro e X9 ⟨⟨v9, rfl, ho⟩, hg⟩; have HO9 := Lib.hid (nrS_own ho (HQN.out.put HPV.out)); have GX9 := Lib.hid (HGq.out.trans (hg.mono HGq.out.size)); clear ho hg)
                          go_roundw
                          case rel => exact ⟨q + 1, by omega, rfl, by rw [HS3.out]; exact HO9.out, GX9.out⟩
                          case measure => simp only [intOf]; omega
                        · obtain rfl : tn = q := Nat.le_antisymm (Nat.not_lt.1 hqt) hq
                          have HSL := Lib.hid (show (t.q.per.take tn).foldl putI NJ = t.q.per.foldl putI NJ by rw [List.take_of_length_le (Nat.le_of_eq HTL.out)])
                          rw [HSL.out] at HQI HQN
                          have hwj9 := HWJ.out
                          go_wp2_with fail
                          go_roundw
                          case rel => exact ⟨j + 1, by omega, rfl, ⟨_, _, _, rfl, by rw [HS.out]; exact HQI.out, by rw [HS.out]; exact HQN.out⟩, HGj.out.trans (HGq.out.mono HGj.out.size)⟩
                          case measure => simp only [intOf]; omega
                    · rw [show hasI NJ t.q.oth = false from Bool.not_eq_true _ ▸ fun h => ho (hasI_iff.1 h)] at T40n
                      have HE := Lib.hid (show nearQ NJ t.q = NJ by unfold nearQ; rw [if_neg (fun h => ho h.2)])
                      rw [HE.out] at HS
                      clear ho hk2
                      have hwj9 := HWJ.out
                      go_wp2_with (go_at_call 40; (with_reducible refine (T40n.out).mono ?_); rintro e w' ⟨rfl, rfl⟩)
                      go_roundw
                      case rel => exact ⟨j + 1, by omega, rfl, ⟨_, _, _, rfl, by rw [HS.out]; exact HJI.out, by rw [HS.out]; exact HJN.out⟩, HGj.out⟩
                      case measure => simp only [intOf]; omega
                  · have hk2b : (t.q.kind == 2) = false := beq_eq_false_iff_ne.2 hk2
                    have HE := Lib.hid (show nearQ NJ t.q = NJ by unfold nearQ; rw [if_neg (fun h => hk2 h.1)])
                    rw [HE.out] at HS
                    have hwj9 := HWJ.out
                    go_wp2_with fail
                    go_roundw
                    case rel => exact ⟨j + 1, by omega, rfl, ⟨_, _, _, rfl, by rw [HS.out]; exact HJI.out, by rw [HS.out]; exact HJN.out⟩, HGj.out⟩
                    case measure => simp only [intOf]; omega
                · obtain rfl : n1 = j := by omega
                  have HSL := Lib.hid (show (ml.take n1).foldl nearQ (nearL ml k [pe]) = nearL ml (k + 1) [pe] by rw [List.take_of_length_le (by rw [HLM.out]; exact Nat.le_refl _)]; rfl)
                  rw [HSL.out] at HJI HJN
                  have hwk9 := HWK.out
                  go_wp2_with fail
                  go_roundw
                  case rel => exact ⟨k + 1, by omega, rfl, ⟨_, _, _, rfl, HJI.out, HJN.out⟩, HGj.out⟩
                  case measure => simp only [intOf]; omega
            · obtain rfl : n1 = k := by omega
              obtain ⟨NE, hNE⟩ : ∃ l, nearL ml n1 [pe] = l := ⟨_, rfl⟩
              have HNE := Lib.hid (show ∀ s ∈ mv, s ∈ NE by rw [← hNE, ← HLM.out]; exact HNV.out)
              rw [hNE] at HNI HNN
              have HMK := Lib.hid (HMW.out.below HGk.out)
              clear hNE
              go_wp2_with fail
              go_loopw [30] (fun i wr => ∃ s : Nat, s ≤ m4 ∧ i = .int .i64 s ∧ Below Wk.heap.size Wk wr) (fun i _ => m4 - (intOf i).toNat)
              case atStart => exact ⟨0, Nat.zero_le _, rfl, Below.refl _ _⟩
              case round =>
                rename World => Ws
                obtain ⟨s, hs, rfl, hg⟩ := hrel
                have HGs := Lib.hid hg
                have hws : wrap64 ((s : Int) + 1) = (s : Int) + 1 := wrap_in (by omega)
                by_cases hsm : s < m4
                · obtain ⟨bv, ov, rfl, -, hel, hc⟩ := ints_at (HMK.out.below hg) hsm
                  have x0 := hc _ (Below.refl _ _)
                  obtain ⟨vv, hvv⟩ : ∃ t, mv.getD s 0 = t := ⟨_, rfl⟩
                  rw [hvv] at x0 hel
                  have V40 := Lib.hid (refHas_any AN mN cN NE vv _ (HNI.out.below hg) (by have h1 := HNN.out.len; have h2 := HNI.out.1; omega))
                  rw [hasI_true (HNE.out vv (List.mem_of_getElem? hel))] at V40
                  clear hc hvv hel hg
                  go_wp2_with (go_at_call 40; (with_reducible refine (V40.out).mono ?_); rintro e X9 ⟨rfl, rfl⟩)
                  go_roundw
                  case rel => exact ⟨s + 1, by omega, rfl, HGs.out⟩
                  case measure => simp only [intOf]; omega
                · obtain rfl : m4 = s := by omega
                  clear hg
                  go_wp2_with (go_at_call 20; (with_reducible refine (TS.out _).mono ?_); rintro e V9 ⟨rfl, hg⟩; have GV9 := Lib.hid (HG.out.trans ((GG3.out.trans ((HGk.out.trans ((HGs.out.trans (hg.mono HGs.out.size)).mono HGk.out.size)).mono GG3.out.size)).mono HG.out.size)); clear hg)
                  go_ret
                  exact ⟨rfl, GV9.out⟩
        · have hnb : ((N1 : Int) != (N2 : Int)) = true := bne_iff_ne.2 (by omega)
          go_wp2_with (go_at_call 20; (with_reducible refine (TS.out _).mono ?_); rintro e V9 ⟨rfl, hg⟩; have GV9 := Lib.hid (GV2.out.trans ((R7.out.trans (hg.mono R7.out.size)).mono GV2.out.size)); clear hg)
          go_ret
          exact ⟨rfl, HG.out.trans (GV9.out.mono HG.out.size)⟩
  · rw [if_neg hr, if_neg hr] at T28 T15
    go_upto_region 8 with (first
      | (go_at_call 28; (with_reducible refine (T28.out _ (Below.refl _ _)).mono ?_); rintro e X1 ⟨rfl, hg⟩; have Q1 := Lib.hid hg; clear hg)
      | (go_at_call 15; (with_reducible refine (T15.out _ Q1.out).mono ?_); rintro e X2 ⟨D, m, d, rfl, hi, hm, hg⟩; have HI := Lib.hid hi; have HM := Lib.hid hm; have Q2 := Lib.hid (Q1.out.trans (hg.mono Q1.out.size)); clear hi hm hg))
    by_cases h0 : n1 = 0
    · have h0b : ((n1 : Int) == 0) = true := beq_iff_eq.2 (by omega)
      go_wp2_with (go_at_call 20; (with_reducible refine (TS.out _).mono ?_); rintro e V9 ⟨rfl, hg⟩; have GV9 := Lib.hid (Q2.out.trans (hg.mono Q2.out.size)); clear hg)
      go_ret
      exact ⟨rfl, HG.out.trans (GV9.out.mono HG.out.size)⟩
    · have h0b : ((n1 : Int) == 0) = false := beq_eq_false_iff_ne.2 (by omega)
      go_wp2_with (go_at_call 20; (with_reducible refine (TS.out _).mono ?_); rintro e V9 ⟨rfl, hg⟩; have GV9 := Lib.hid (Q2.out.trans (hg.mono Q2.out.size)); clear hg)
      go_ret
      exact ⟨rfl, HG.out.trans (GV9.out.mono HG.out.size)⟩
end Go.Proofs.YtehhlgdkhecacaaGreat
