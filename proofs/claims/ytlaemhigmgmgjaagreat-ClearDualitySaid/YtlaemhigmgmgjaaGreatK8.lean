/- Several texts of my own, joined. No condition beyond what each theorem states. -/
import Derived.Test.YtlaemhigmgmgjaaGreatK4
/- Plain: rotating the curves of a stack. No condition. -/
namespace Go.Proofs.YtlaemhigmgmgjaaGreat
set_option linter.unusedVariables false
set_option linter.unusedSimpArgs false

theorem perm_sum {l k : List Int} (h : l.Perm k) : l.sum = k.sum := by
  induction h with
  | nil => rfl
  | cons x _ ih => simp [ih]
  | swap x y l => simp; omega
  | trans _ _ h1 h2 => exact h1.trans h2
theorem pricesOf_perm {L M : List Crv} (h : L.Perm M) (up : Bool) : sortP up (pricesOf L) = sortP up (pricesOf M) := by
  refine sorted_one (sorted_sortP up _) (sorted_sortP up _) fun x => ?_
  rw [mem_sortP, mem_sortP, mem_pricesOf, mem_pricesOf]
  constructor
  · rintro ⟨c, hc, r⟩; exact ⟨c, h.mem_iff.1 hc, r⟩
  · rintro ⟨c, hc, r⟩; exact ⟨c, h.mem_iff.2 hc, r⟩
theorem partsAt_sum_perm {L M : List Crv} (h : L.Perm M) (p : Int) : (partsAt L p).sum = (partsAt M p).sum :=
  perm_sum (h.map _)
theorem badAt_nz {up : Bool} : ∀ {M : List Crv} {i : Nat} {e : Int}, badAt up M = some (i, e) → e ≠ 0
  | [], _, _, h => by simp [badAt] at h
  | c :: r, i, e, h => by
    unfold badAt at h
    by_cases hc : curveE (afterOf up) c = 0
    · rw [if_pos hc] at h
      cases hb : badAt up r with
      | none => rw [hb] at h; simp at h
      | some x =>
        rw [hb] at h
        simp only [Option.map_some, Option.some.injEq, Prod.mk.injEq] at h
        obtain ⟨_, rfl⟩ := h
        exact badAt_nz (i := x.1) hb
    · rw [if_neg hc] at h
      simp only [Option.some.injEq, Prod.mk.injEq] at h
      exact h.2 ▸ hc
/-- When curves are merged, and what comes out. -/
def Valid (up : Bool) (L : List Crv) : Prop := L.length ≤ 16 ∧ ∀ c ∈ L, curveE (afterOf up) c = 0
theorem mergeR_valid {up : Bool} {L : List Crv} (h : Valid up L) : mergeR up L = (stackOf up L, 0, 0) := by
  unfold mergeR
  rw [if_neg (by have := h.1; omega), badAt_none.2 h.2]
theorem mergeR_not {up : Bool} {L : List Crv} (h : ¬ Valid up L) : (mergeR up L).1 = [] ∧ (mergeR up L).2.2 ≠ 0 := by
  unfold mergeR
  by_cases h1 : 16 < L.length
  · rw [if_pos h1]; exact ⟨rfl, by decide⟩
  · rw [if_neg h1]
    cases hb : badAt up L with
    | none => exact absurd ⟨by omega, badAt_none.1 hb⟩ h
    | some x => exact ⟨rfl, badAt_nz (i := x.1) hb⟩
theorem mergeR_ok {up : Bool} {L : List Crv} : (mergeR up L).2.2 = 0 ↔ Valid up L := by
  constructor
  · intro h
    by_cases hv : Valid up L
    · exact hv
    · exact absurd h (mergeR_not hv).2
  · intro h; rw [mergeR_valid h]

/-! ### Rotating -/
def rotL (L : List Crv) (r : Nat) : List Crv := (List.range L.length).map (fun i => (L[(i + r) % L.length]?).getD [])
theorem rotL_len (L : List Crv) (r : Nat) : (rotL L r).length = L.length := by simp [rotL]
theorem rotL_get {L : List Crv} {r i : Nat} (hi : i < L.length) : (rotL L r)[i]'(by rw [rotL_len]; exact hi) = L[(i + r) % L.length]'(Nat.mod_lt _ (by omega)) := by
  have h1 : (i + r) % L.length < L.length := Nat.mod_lt _ (by omega)
  simp [rotL, h1]
theorem rotL_eq {L : List Crv} (r : Nat) : rotL L r = L.drop (r % L.length) ++ L.take (r % L.length) := by
  by_cases h0 : L.length = 0
  · obtain rfl := List.eq_nil_of_length_eq_zero h0; simp [rotL]
  have hr : r % L.length < L.length := Nat.mod_lt _ (by omega)
  refine List.ext_getElem (by rw [rotL_len]; simp; omega) fun i h1 h2 => ?_
  rw [rotL_len] at h1
  rw [rotL_get h1, List.getElem_append]
  by_cases hi : i < L.length - r % L.length
  · rw [dif_pos (by simpa using hi), List.getElem_drop]
    congr 1
    rw [Nat.add_mod, Nat.mod_eq_of_lt h1, Nat.mod_eq_of_lt (by omega)]
    omega
  · rw [dif_neg (by simpa using hi), List.getElem_take]
    congr 1
    rw [List.length_drop, Nat.add_mod, Nat.mod_eq_of_lt h1]
    have e : i + r % L.length = (i - (L.length - r % L.length)) + L.length := by omega
    rw [e, Nat.add_mod_right, Nat.mod_eq_of_lt (by omega)]
theorem rotL_perm (L : List Crv) (r : Nat) : L.Perm (rotL L r) := by
  rw [rotL_eq]
  have h := (List.perm_append_comm (l₁ := L.take (r % L.length)) (l₂ := L.drop (r % L.length)))
  rwa [List.take_append_drop] at h
theorem valid_rot {up : Bool} {L : List Crv} (r : Nat) : Valid up L ↔ Valid up (rotL L r) := by
  have hp := rotL_perm L r
  unfold Valid
  rw [rotL_len]
  constructor
  · rintro ⟨h1, h2⟩; exact ⟨h1, fun c hc => h2 c (hp.mem_iff.2 hc)⟩
  · rintro ⟨h1, h2⟩; exact ⟨h1, fun c hc => h2 c (hp.mem_iff.1 hc)⟩
theorem stackOf_len {up : Bool} (L : List Crv) : (stackOf up L).length = (sortP up (pricesOf L)).length := by simp [stackOf]
theorem stackOf_get {up : Bool} {L : List Crv} {i : Nat} (h : i < (stackOf up L).length) : (stackOf up L)[i] = lvl L ((sortP up (pricesOf L))[i]'(by rw [← stackOf_len]; exact h)) := by
  simp [stackOf]
/-- The law: a rotation of the curves rotates the parts of each level. -/
theorem rot_law (up : Bool) (L : List Crv) (r : Nat) (S T : List Lv) (i j e f : Int) (hS : mergeR up L = (S, i, e)) (hT : mergeR up (rotL L r) = (T, j, f)) :
    (e = 0 ↔ f = 0) ∧ S.length = T.length ∧ ∀ k (h : k < S.length) (h' : k < T.length), S[k].1 = T[k].1 ∧ S[k].2.1 = T[k].2.1 ∧ S[k].2.2.length = L.length ∧ T[k].2.2.length = L.length ∧
      ∀ m (_ : m < L.length) (h1 : (m + r) % L.length < S[k].2.2.length) (h2 : m < T[k].2.2.length), T[k].2.2[m] = S[k].2.2[(m + r) % L.length] := by
  by_cases hv : Valid up L
  · have hv' := (valid_rot r).1 hv
    rw [mergeR_valid hv] at hS
    rw [mergeR_valid hv'] at hT
    simp only [Prod.mk.injEq] at hS hT
    obtain ⟨rfl, rfl, rfl⟩ := hS
    obtain ⟨rfl, rfl, rfl⟩ := hT
    have hp := pricesOf_perm (rotL_perm L r) up
    refine ⟨Iff.rfl, by rw [stackOf_len, stackOf_len, hp], fun k h h' => ?_⟩
    have e1 := stackOf_get h
    have e2 := stackOf_get h'
    have e3 : (sortP up (pricesOf (rotL L r)))[k]'(by rw [← stackOf_len]; exact h') = (sortP up (pricesOf L))[k]'(by rw [← stackOf_len]; exact h) := by simp only [hp]
    obtain ⟨p, hpd⟩ : ∃ p, p = (sortP up (pricesOf L))[k]'(by rw [← stackOf_len]; exact h) := ⟨_, rfl⟩
    rw [← hpd] at e1 e3
    rw [e3] at e2
    have q1 : (stackOf up L)[k].2.2 = partsAt L p := by rw [e1]; rfl
    have q2 : (stackOf up (rotL L r))[k].2.2 = partsAt (rotL L r) p := by rw [e2]; rfl
    refine ⟨by rw [e1, e2]; rfl, by rw [e1, e2]; exact partsAt_sum_perm (rotL_perm L r) p, by rw [q1, partsAt_len], by rw [q2, partsAt_len, rotL_len], fun m hm h1 h2 => ?_⟩
    simp only [q1, q2, partsAt, List.getElem_map]
    rw [rotL_get hm]
  · have hv' : ¬ Valid up (rotL L r) := fun h => hv ((valid_rot r).2 h)
    have h1 := mergeR_not hv
    have h2 := mergeR_not hv'
    rw [hS] at h1
    rw [hT] at h2
    obtain ⟨h1, h3⟩ := h1
    obtain ⟨h2, h4⟩ := h2
    simp only at h1 h2 h3 h4
    subst h1 h2
    exact ⟨⟨fun h => absurd h h3, fun h => absurd h h4⟩, rfl, fun k h => absurd h (by simp)⟩
#print axioms rot_law
end Go.Proofs.YtlaemhigmgmgjaaGreat
/- Plain: the stack of valid curves is valid; what its total is, and what stands at a price. No condition. -/
namespace Go.Proofs.YtlaemhigmgmgjaaGreat
set_option linter.unusedVariables false
set_option linter.unusedSimpArgs false

theorem qAt_cons (s : Int × Int) (c : Crv) (p : Int) : qAt (s :: c) p = (if s.2 = p then s.1 else 0) + qAt c p := by
  unfold qAt
  by_cases h : s.2 = p <;> simp [h]
theorem qAt_of_mem {c : Crv} (ha : c.Pairwise (fun s t => s.2 ≠ t.2)) {s : Int × Int} (hs : s ∈ c) : qAt c s.2 = s.1 := by
  induction c with
  | nil => simp at hs
  | cons a c ih =>
    obtain ⟨h1, h2⟩ := List.pairwise_cons.1 ha
    rw [qAt_cons]
    rcases List.mem_cons.1 hs with rfl | hs
    · rw [if_pos rfl, qAt_none (fun t ht e => h1 t ht e.symm), Int.add_zero]
    · rw [if_neg (h1 s hs), ih h2 hs, Int.zero_add]
theorem qAt_cases {c : Crv} (ha : c.Pairwise (fun s t => s.2 ≠ t.2)) (p : Int) : qAt c p = 0 ∨ ∃ s ∈ c, s.2 = p ∧ qAt c p = s.1 := by
  by_cases h : ∃ s ∈ c, s.2 = p
  · obtain ⟨s, hs, rfl⟩ := h
    exact .inr ⟨s, hs, rfl, qAt_of_mem ha hs⟩
  · exact .inl (qAt_none fun s hs e => h ⟨s, hs, e⟩)
theorem qAt_bound {up : Bool} {c : Crv} (h : curveE (afterOf up) c = 0) (p : Int) : 0 ≤ qAt c p ∧ qAt c p ≤ 1000000 := by
  rcases qAt_cases (curveE_apart h) p with e | ⟨s, hs, _, e⟩
  · omega
  · have := (curveE_in h).2.2 s hs
    unfold StepIn at this
    omega
theorem insP_len {up : Bool} {p : Int} : ∀ {l : List Int}, (insP up p l).length ≤ l.length + 1
  | [] => by simp [insP]
  | a :: r => by
    unfold insP
    by_cases h : p = a
    · rw [if_pos h]; omega
    · rw [if_neg h]
      by_cases h2 : afterOf up p a = true
      · rw [if_pos h2]; simp
      · rw [if_neg h2]
        have := insP_len (up := up) (p := p) (l := r)
        simp only [List.length_cons]; omega
theorem sortP_len {up : Bool} : ∀ {l : List Int}, (sortP up l).length ≤ l.length
  | [] => by simp [sortP]
  | a :: r => by
    show (insP up a (sortP up r)).length ≤ _
    have h1 := insP_len (up := up) (p := a) (l := sortP up r)
    have h2 := sortP_len (up := up) (l := r)
    simp only [List.length_cons]; omega
theorem pricesOf_len : ∀ {L : List Crv}, (∀ c ∈ L, c.length ≤ 3) → (pricesOf L).length ≤ 3 * L.length
  | [], _ => by simp [pricesOf]
  | c :: r, h => by
    have h1 := h c (by simp)
    have h2 := pricesOf_len (L := r) (fun c hc => h c (List.mem_cons_of_mem _ hc))
    have e : pricesOf (c :: r) = c.map (·.2) ++ pricesOf r := by simp [pricesOf]
    rw [e, List.length_append, List.length_map, List.length_cons]
    omega
theorem sum_nonneg' : ∀ {l : List Int}, (∀ x ∈ l, 0 ≤ x) → 0 ≤ l.sum
  | [], _ => by simp
  | a :: r, h => by
    have h1 := h a (by simp)
    have h2 := sum_nonneg' (l := r) (fun x hx => h x (List.mem_cons_of_mem _ hx))
    simp; omega
theorem sum_ge_mem : ∀ {l : List Int} {x : Int}, (∀ x ∈ l, 0 ≤ x) → x ∈ l → x ≤ l.sum
  | [], _, _, hx => by simp at hx
  | a :: r, x, h, hx => by
    have h1 := h a (by simp)
    have h2 := sum_nonneg' (l := r) (fun x hx => h x (List.mem_cons_of_mem _ hx))
    rcases List.mem_cons.1 hx with rfl | hx
    · simp; omega
    · have := sum_ge_mem (l := r) (fun x hx => h x (List.mem_cons_of_mem _ hx)) hx
      simp; omega
theorem cmpI_after {up : Bool} {a b : Int} (h : afterOf up a b = true) : cmpI b a = if up then 1 else -1 := by
  rw [afterOf_iff] at h
  unfold cmpI
  cases up
  · simp only [Bool.false_eq_true, if_false] at h ⊢; rw [if_pos h]
  · simp only [if_true] at h ⊢; rw [if_neg (by omega), if_pos h]
/-- The prices of a stack. -/
def prs (up : Bool) (L : List Crv) : List Int := sortP up (pricesOf L)
theorem prs_sorted (up : Bool) (L : List Crv) : (prs up L).Pairwise (fun a b => afterOf up a b = true) := sorted_sortP up _
theorem prs_apart (up : Bool) (L : List Crv) : (prs up L).Pairwise (fun a b => a ≠ b) :=
  (prs_sorted up L).imp (fun {a b} h e => by rw [e, afterOf_irrefl] at h; cases h)
theorem mem_prs {up : Bool} {L : List Crv} {p : Int} : p ∈ prs up L ↔ ∃ c ∈ L, ∃ s ∈ c, s.2 = p := by
  unfold prs; rw [mem_sortP, mem_pricesOf]
theorem stackOf_prs (up : Bool) (L : List Crv) : stackOf up L = (prs up L).map (lvl L) := rfl
theorem lvAt_stack {up : Bool} {L : List Crv} {k : Nat} (hk : k < (stackOf up L).length) : lvAt (stackOf up L) k = lvl L ((prs up L)[k]'(by rw [stackOf_prs, List.length_map] at hk; exact hk)) := by
  rw [lvAt_eq hk, stackOf_get hk]; rfl
theorem prs_in {up : Bool} {L : List Crv} (hv : Valid up L) {p : Int} (hp : p ∈ prs up L) : -1000000 ≤ p ∧ p ≤ 1000000 := by
  obtain ⟨c, hc, s, hs, rfl⟩ := mem_prs.1 hp
  have := (curveE_in (hv.2 c hc)).2.2 s hs
  unfold StepIn at this
  omega
theorem parts_in {up : Bool} {L : List Crv} (hv : Valid up L) (p : Int) : ∀ y ∈ partsAt L p, 0 ≤ y ∧ y ≤ 1000000 := by
  intro y hy
  obtain ⟨c, hc, rfl⟩ := List.mem_map.1 hy
  exact qAt_bound (hv.2 c hc) p
theorem parts_pos {up : Bool} {L : List Crv} (hv : Valid up L) {p : Int} (hp : p ∈ prs up L) : 0 < (partsAt L p).sum := by
  obtain ⟨c, hc, s, hs, rfl⟩ := mem_prs.1 hp
  have h1 := qAt_of_mem (curveE_apart (hv.2 c hc)) hs
  have h2 := (curveE_in (hv.2 c hc)).2.2 s hs
  unfold StepIn at h2
  have h3 := sum_ge_mem (fun y hy => (parts_in hv s.2 y hy).1) (List.mem_map.2 ⟨c, hc, rfl⟩ : qAt c s.2 ∈ partsAt L s.2)
  omega
theorem stack_len {up : Bool} {L : List Crv} (hv : Valid up L) : (stackOf up L).length ≤ 48 := by
  rw [stackOf_len]
  have h1 := sortP_len (up := up) (l := pricesOf L)
  have h2 := pricesOf_len (L := L) (fun c hc => (curveE_in (hv.2 c hc)).2.1)
  have := hv.1
  omega
theorem check_stack {up : Bool} {L : List Crv} (hv : Valid up L) : checkE (stackOf up L) = 0 := by
  refine checkE_zero.2 ⟨stack_len hv, fun k hk => ?_⟩
  have hlen : (stackOf up L).length = (prs up L).length := by rw [stackOf_prs, List.length_map]
  have hkp : k < (prs up L).length := by omega
  have h0 : 0 < (stackOf up L).length := by omega
  have hpm := List.getElem_mem hkp
  have e := lvAt_stack hk
  have e0 := lvAt_stack h0
  have hb := prs_in hv hpm
  have hL : 1 ≤ L.length := by
    obtain ⟨c, hc, _⟩ := mem_prs.1 hpm
    exact List.length_pos_of_mem hc
  have ho : ownE (lvAt (stackOf up L) k) = 0 := by
    rw [e]
    unfold ownE
    rw [if_neg]
    simp only [lvl, partsAt_len]
    rintro (h | h | h | h | h)
    · omega
    · omega
    · omega
    · have := hv.1; omega
    · obtain ⟨y, hy, hf⟩ := List.any_eq_true.1 h
      have := parts_in hv _ y hy
      simp [farP] at hf
      omega
  unfold levelE
  rw [if_pos ho]
  unfold restE
  rw [if_neg]
  · by_cases hk0 : k = 0
    · rw [if_pos hk0]
    · rw [if_neg hk0, if_neg]
      have hpw := List.pairwise_iff_getElem.1 (prs_sorted up L)
      have e1 := lvAt_stack (up := up) (L := L) (k := k - 1) (by omega)
      have e2 := lvAt_stack (up := up) (L := L) (k := 1) (by omega)
      rw [e, e1, e2, e0]
      simp only [lvl]
      rw [cmpI_after (hpw (k - 1) k (by omega) hkp (by omega)), cmpI_after (hpw 0 1 (by omega) (by omega) (by omega))]
      cases up <;> simp
  · rw [e, e0]
    simp only [lvl, partsAt_len]
    have := parts_pos hv hpm
    rintro (h | h | h)
    · exact h rfl
    · omega
    · exact h rfl

/-! ### Sums -/
theorem sum_zero_map {α : Type} : ∀ (l : List α), (l.map (fun _ => (0 : Int))).sum = 0
  | [] => rfl
  | _ :: r => by simp [sum_zero_map r]
theorem sum_add_map {α : Type} (f g : α → Int) : ∀ (l : List α), (l.map (fun x => f x + g x)).sum = (l.map f).sum + (l.map g).sum
  | [] => rfl
  | a :: r => by simp [sum_add_map f g r]; omega
theorem sum_swap {α β : Type} (f : α → β → Int) (K : List β) : ∀ (l : List α), (l.map (fun x => (K.map (fun y => f x y)).sum)).sum = (K.map (fun y => (l.map (fun x => f x y)).sum)).sum
  | [] => by simp [sum_zero_map]
  | a :: r => by
    simp only [List.map_cons, List.sum_cons]
    rw [sum_swap f K r, ← sum_add_map]
theorem qtySum_cons (s : Int × Int) (c : Crv) : qtySum (s :: c) = s.1 + qtySum c := by
  have h : ∀ (l : List Int) (a : Int), l.foldl (· + ·) a = a + l.foldl (· + ·) 0 := by
    intro l
    induction l with
    | nil => intro a; simp
    | cons b l ih => intro a; simp only [List.foldl_cons]; rw [ih (a + b), ih (0 + b)]; omega
  unfold qtySum
  simp only [List.map_cons, List.foldl_cons]
  rw [h]; omega
theorem sum_one {p x : Int} : ∀ {P : List Int}, P.Pairwise (fun a b => a ≠ b) → (P.map (fun q => if p = q then x else 0)).sum = if p ∈ P then x else 0
  | [], _ => by simp
  | a :: r, h => by
    obtain ⟨h1, h2⟩ := List.pairwise_cons.1 h
    have ih := sum_one (p := p) (x := x) h2
    simp only [List.map_cons, List.sum_cons, ih]
    by_cases e : p = a
    · subst e
      have : p ∉ r := fun hp => h1 p hp rfl
      simp [this]
    · simp [e]
theorem sum_qAt {P : List Int} (hP : P.Pairwise (fun a b => a ≠ b)) : ∀ {c : Crv}, (∀ s ∈ c, s.2 ∈ P) → (P.map (fun p => qAt c p)).sum = qtySum c
  | [], _ => by simp [qAt_nil, sum_zero_map, qtySum]
  | s :: c, h => by
    have e : (fun p => qAt (s :: c) p) = (fun p => (if s.2 = p then s.1 else 0) + qAt c p) := by funext p; exact qAt_cons s c p
    rw [e, sum_add_map, sum_one hP, if_pos (h s (by simp)), sum_qAt hP (fun t ht => h t (List.mem_cons_of_mem _ ht)), qtySum_cons]
theorem total_stack {up : Bool} {L : List Crv} (hv : Valid up L) : totalE (stackOf up L) = (L.map qtySum).sum := by
  unfold totalE
  rw [if_pos (check_stack hv)]
  have e : qtys (stackOf up L) = (prs up L).map (fun p => (L.map (fun c => qAt c p)).sum) := by
    rw [stackOf_prs]; unfold qtys; rw [List.map_map]; rfl
  rw [e, sum_swap]
  congr 1
  refine List.map_congr_left fun c hc => ?_
  exact sum_qAt (prs_apart up L) (fun s hs => mem_prs.2 ⟨c, hc, s, hs, rfl⟩)

/-! ### The quantity of the level at a price -/
def atP (s : List Lv) (p : Int) : Int := ((s.filter (fun x => x.1 == p)).map (·.2.1)).sum
theorem atP_cons (x : Lv) (s : List Lv) (p : Int) : atP (x :: s) p = (if x.1 = p then x.2.1 else 0) + atP s p := by
  unfold atP
  by_cases h : x.1 = p <;> simp [h]
theorem atP_snoc (x : Lv) (s : List Lv) (p : Int) : atP (s ++ [x]) p = atP s p + (if x.1 = p then x.2.1 else 0) := by
  unfold atP
  by_cases h : x.1 = p <;> simp [List.filter_append, h]
theorem atP_map (L : List Crv) (p : Int) : ∀ {P : List Int}, P.Pairwise (fun a b => a ≠ b) → atP (P.map (lvl L)) p = if p ∈ P then (partsAt L p).sum else 0
  | [], _ => by simp [atP]
  | a :: r, h => by
    obtain ⟨h1, h2⟩ := List.pairwise_cons.1 h
    rw [List.map_cons, atP_cons, atP_map L p h2]
    by_cases e : a = p
    · subst e
      have : a ∉ r := fun hp => h1 a hp rfl
      simp [this, lvl]
    · simp [e, lvl, Ne.symm e]
theorem atP_stack {up : Bool} (L : List Crv) (p : Int) : atP (stackOf up L) p = (partsAt L p).sum := by
  rw [stackOf_prs, atP_map L p (prs_apart up L)]
  by_cases h : p ∈ prs up L
  · rw [if_pos h]
  · rw [if_neg h]
    rw [qAt_zero_of_not (M := L) (p := p) (fun h2 => h (by unfold prs; rw [mem_sortP]; exact h2))]
    induction L.length with
    | zero => rfl
    | succ n ih => simp [List.replicate_succ] 
#print axioms total_stack
end Go.Proofs.YtlaemhigmgmgjaaGreat
