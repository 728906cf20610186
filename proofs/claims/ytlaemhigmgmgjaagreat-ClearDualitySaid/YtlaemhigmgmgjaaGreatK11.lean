/- Several texts of my own, joined. No condition beyond what each theorem states. -/
import Derived.Test.YtlaemhigmgmgjaaGreatK9
import Derived.Test.YtlaemhigmgmgjaaGreatAddPK
import Derived.Test.YtlaemhigmgmgjaaGreatK2
import Derived.Test.YtlaemhigmgmgjaaGreatK10
import Derived.Test.YtlaemhigmgmgjaaGreatK5
import Derived.Deep.LoopGhost
/- Plain: the price that clears a market, nearest to 0. No condition. -/
namespace Go.Proofs.YtlaemhigmgmgjaaGreat
set_option linter.unusedVariables false
set_option linter.unusedSimpArgs false

abbrev Stps := List (Int × Int)
theorem wantI_flat (up : Bool) (l : Rat) : ∀ (L : List Stps), leastI up l L.flatten = (L.map (leastI up l)).sum ∧ mostI up l L.flatten = (L.map (mostI up l)).sum
  | [] => ⟨rfl, rfl⟩
  | c :: L => by
    obtain ⟨a, b⟩ := wantI_flat up l L
    have h : ∀ (c : Stps), leastI up l (c ++ L.flatten) = leastI up l c + leastI up l L.flatten ∧ mostI up l (c ++ L.flatten) = mostI up l c + mostI up l L.flatten := by
      intro c
      induction c with
      | nil => simp [leastI, mostI]
      | cons s c ih => rw [List.cons_append, leastI_cons, mostI_cons, ih.1, ih.2, leastI_cons, mostI_cons]; omega
    rw [List.flatten_cons, (h c).1, (h c).2, a, b]
    simp
/-! ### How wants move with the price -/
theorem want_mono {up : Bool} {l k : Rat} (h : sg up * l ≤ sg up * k) : ∀ {c : Stps}, (∀ s ∈ c, 0 ≤ s.1) → leastI up l c ≤ leastI up k c ∧ mostI up l c ≤ mostI up k c
  | [], _ => ⟨Int.le_refl _, Int.le_refl _⟩
  | s :: r, hc => by
    have h0 := hc s (by simp)
    obtain ⟨a, b⟩ := want_mono h (c := r) (fun t ht => hc t (List.mem_cons_of_mem _ ht))
    have e1 : wayQ up s.2 l < 0 → wayQ up s.2 k < 0 := fun h1 => by rw [way_lt] at h1 ⊢; grind
    have e2 : wayQ up s.2 l ≤ 0 → wayQ up s.2 k ≤ 0 := fun h1 => by rw [way_le] at h1 ⊢; grind
    rw [leastI_cons, mostI_cons, leastI_cons, mostI_cons]
    constructor
    · by_cases h1 : wayQ up s.2 l < 0
      · rw [if_pos h1, if_pos (e1 h1)]; omega
      · rw [if_neg h1]; split <;> omega
    · by_cases h1 : wayQ up s.2 l ≤ 0
      · rw [if_pos h1, if_pos (e2 h1)]; omega
      · rw [if_neg h1]; split <;> omega
theorem want_cross {up : Bool} {l k : Rat} (h : sg up * l < sg up * k) : ∀ {c : Stps}, (∀ s ∈ c, 0 ≤ s.1) → mostI up l c ≤ leastI up k c
  | [], _ => Int.le_refl _
  | s :: r, hc => by
    have h0 := hc s (by simp)
    have b := want_cross h (c := r) (fun t ht => hc t (List.mem_cons_of_mem _ ht))
    have e1 : wayQ up s.2 l ≤ 0 → wayQ up s.2 k < 0 := fun h1 => by rw [way_le] at h1; rw [way_lt]; grind
    rw [mostI_cons, leastI_cons]
    by_cases h1 : wayQ up s.2 l ≤ 0
    · rw [if_pos h1, if_pos (e1 h1)]; omega
    · rw [if_neg h1]; split <;> omega
/-- Nothing lies between: as much up to the one as up to the other. -/
theorem gap_most {up : Bool} {l k : Rat} : ∀ {c : Stps}, (∀ s ∈ c, (0 ≤ sg up * (l - (s.2 : Rat)) ↔ 0 ≤ sg up * (k - (s.2 : Rat)))) → mostI up l c = mostI up k c
  | [], _ => rfl
  | s :: r, h => by
    have h0 := h s (by simp)
    have b := gap_most (c := r) (fun t ht => h t (List.mem_cons_of_mem _ ht))
    rw [mostI_cons, mostI_cons, b]
    by_cases h1 : wayQ up s.2 l ≤ 0
    · rw [if_pos h1, if_pos (way_le.2 (h0.1 (way_le.1 h1)))]
    · rw [if_neg h1, if_neg (fun h2 => h1 (way_le.2 (h0.2 (way_le.1 h2))))]
theorem gap_least {up : Bool} {l k : Rat} : ∀ {c : Stps}, (∀ s ∈ c, (0 < sg up * (l - (s.2 : Rat)) ↔ 0 < sg up * (k - (s.2 : Rat)))) → leastI up l c = leastI up k c
  | [], _ => rfl
  | s :: r, h => by
    have h0 := h s (by simp)
    have b := gap_least (c := r) (fun t ht => h t (List.mem_cons_of_mem _ ht))
    rw [leastI_cons, leastI_cons, b]
    by_cases h1 : wayQ up s.2 l < 0
    · rw [if_pos h1, if_pos (way_lt.2 (h0.1 (way_lt.1 h1)))]
    · rw [if_neg h1, if_neg (fun h2 => h1 (way_lt.2 (h0.2 (way_lt.1 h2))))]
theorem gap_cross {up : Bool} {l k : Rat} : ∀ {c : Stps}, (∀ s ∈ c, (0 ≤ sg up * (l - (s.2 : Rat)) ↔ 0 < sg up * (k - (s.2 : Rat)))) → mostI up l c = leastI up k c
  | [], _ => rfl
  | s :: r, h => by
    have h0 := h s (by simp)
    have b := gap_cross (c := r) (fun t ht => h t (List.mem_cons_of_mem _ ht))
    rw [mostI_cons, leastI_cons, b]
    by_cases h1 : wayQ up s.2 l ≤ 0
    · rw [if_pos h1, if_pos (way_lt.2 (h0.1 (way_le.1 h1)))]
    · rw [if_neg h1, if_neg (fun h2 => h1 (way_le.2 (h0.2 (way_lt.1 h2))))]
theorem least_none {up : Bool} {l : Rat} : ∀ {c : Stps}, (∀ s ∈ c, sg up * (l - (s.2 : Rat)) ≤ 0) → leastI up l c = 0
  | [], _ => rfl
  | s :: r, h => by
    have h0 := h s (by simp)
    rw [leastI_cons, least_none (c := r) (fun t ht => h t (List.mem_cons_of_mem _ ht)), if_neg (fun h2 => by rw [way_lt] at h2; grind)]; rfl

/-! ### The price -/
def clearsF (S D : Stps) (l : Rat) : Bool := decide (leastI true l S ≤ mostI false l D) && decide (leastI false l D ≤ mostI true l S)
theorem clearsF_iff {S D : Stps} {l : Rat} : clearsF S D l = true ↔ leastI true l S ≤ mostI false l D ∧ leastI false l D ≤ mostI true l S := by simp [clearsF]
theorem clears_between {S D : Stps} (hS : ∀ s ∈ S, 0 ≤ s.1) (hD : ∀ s ∈ D, 0 ≤ s.1) {a m b : Rat} (h1 : a ≤ m) (h2 : m ≤ b) (ha : clearsF S D a = true) (hb : clearsF S D b = true) : clearsF S D m = true := by
  rw [clearsF_iff] at *
  have i1 := want_mono (up := true) (l := m) (k := b) (by unfold sg; simp; grind) hS
  have i2 := want_mono (up := true) (l := a) (k := m) (by unfold sg; simp; grind) hS
  have i3 := want_mono (up := false) (l := b) (k := m) (by unfold sg; simp; grind) hD
  have i4 := want_mono (up := false) (l := m) (k := a) (by unfold sg; simp; grind) hD
  omega
theorem exists_least (P : Int → Prop) : ∀ {l : List Int}, (∃ x ∈ l, P x) → ∃ x ∈ l, P x ∧ ∀ y ∈ l, P y → x ≤ y
  | [], h => by obtain ⟨x, hx, _⟩ := h; simp at hx
  | a :: r, h => by
    by_cases hr : ∃ x ∈ r, P x
    · obtain ⟨x, hx, px, hm⟩ := exists_least P hr
      by_cases ha : P a ∧ a ≤ x
      · refine ⟨a, by simp, ha.1, fun y hy py => ?_⟩
        rcases List.mem_cons.1 hy with rfl | hy
        · exact Int.le_refl _
        · have := hm y hy py; omega
      · refine ⟨x, List.mem_cons_of_mem _ hx, px, fun y hy py => ?_⟩
        rcases List.mem_cons.1 hy with rfl | hy
        · have : ¬ y ≤ x := fun h => ha ⟨py, h⟩
          omega
        · exact hm y hy py
    · obtain ⟨x, hx, px⟩ := h
      rcases List.mem_cons.1 hx with rfl | hx
      · refine ⟨x, by simp, px, fun y hy py => ?_⟩
        rcases List.mem_cons.1 hy with rfl | hy
        · exact Int.le_refl _
        · exact absurd ⟨y, hy, py⟩ hr
      · exact absurd ⟨x, hx, px⟩ hr
theorem exists_most (P : Int → Prop) {l : List Int} (h : ∃ x ∈ l, P x) : ∃ x ∈ l, P x ∧ ∀ y ∈ l, P y → y ≤ x := by
  obtain ⟨x, hx, px⟩ := h
  obtain ⟨y, hy, py, hm⟩ := exists_least (fun z => P (-z)) (l := l.map (fun z => -z)) ⟨-x, List.mem_map.2 ⟨x, hx, rfl⟩, by simpa using px⟩
  obtain ⟨z, hz, rfl⟩ := List.mem_map.1 hy
  refine ⟨z, hz, by simpa using py, fun t ht pt => ?_⟩
  have := hm (-t) (List.mem_map.2 ⟨t, ht, rfl⟩) (by simpa using pt)
  omega
/-- The prices of all steps. -/
def candsF (S D : Stps) : List Int := S.map (·.2) ++ D.map (·.2)
theorem mem_cands_l {S D : Stps} {s : Int × Int} (h : s ∈ S) : s.2 ∈ candsF S D := List.mem_append_left _ (List.mem_map.2 ⟨s, h, rfl⟩)
theorem mem_cands_r {S D : Stps} {s : Int × Int} (h : s ∈ D) : s.2 ∈ candsF S D := List.mem_append_right _ (List.mem_map.2 ⟨s, h, rfl⟩)
theorem sgt (x : Rat) : sg true * x = x := by unfold sg; simp
theorem sgf (x : Rat) : sg false * x = -x := by unfold sg; simp; grind
theorem icast_lt {a b : Int} : (a : Rat) < (b : Rat) ↔ a < b := by exact_mod_cast Iff.rfl
theorem icast_le {a b : Int} : (a : Rat) ≤ (b : Rat) ↔ a ≤ b := by exact_mod_cast Iff.rfl
/-- More is asked at 0 than is offered, and no longer at l: a step's price between clears. -/
theorem clear_up {S D : Stps} (hS : ∀ s ∈ S, 0 ≤ s.1) (hD : ∀ s ∈ D, 0 ≤ s.1) (h0 : mostI true 0 S < leastI false 0 D) {l : Rat} (hl : leastI false l D ≤ mostI true l S) :
    ∃ q ∈ candsF S D, 0 < q ∧ (q : Rat) ≤ l ∧ clearsF S D (q : Rat) = true := by
  have hl0 : 0 < l := by
    rcases tri 0 l with h | h | h
    · exact h
    · subst h; omega
    · have i1 := want_mono (up := true) (l := l) (k := 0) (by rw [sgt, sgt]; grind) hS
      have i2 := want_mono (up := false) (l := 0) (k := l) (by rw [sgf, sgf]; grind) hD
      omega
  -- some step's price in (0, l] where no more is asked
  have hT : ∃ q ∈ candsF S D, 0 < q ∧ (q : Rat) ≤ l ∧ leastI false (q : Rat) D ≤ mostI true (q : Rat) S := by
    by_cases hc : ∃ q ∈ candsF S D, 0 < q ∧ (q : Rat) ≤ l
    · obtain ⟨q, hq, ⟨q0, q1⟩, hm⟩ := exists_most (fun q => 0 < q ∧ (q : Rat) ≤ l) hc
      refine ⟨q, hq, q0, q1, ?_⟩
      have hq0 : (0 : Rat) < (q : Rat) := by exact_mod_cast q0
      have hn : ∀ p ∈ candsF S D, ((p : Rat) ≤ (q : Rat) ↔ (p : Rat) ≤ l) := fun p hp => by
        constructor
        · intro h; grind
        · intro h
          by_cases hp0 : 0 < p
          · have := hm p hp ⟨hp0, h⟩; exact_mod_cast this
          · have : (p : Rat) ≤ 0 := by exact_mod_cast (by omega : p ≤ 0)
            grind
      rw [gap_most (up := true) (l := (q : Rat)) (k := l) (fun s hs => by
          have := hn s.2 (mem_cands_l hs); rw [sgt, sgt]; grind),
        gap_least (up := false) (l := (q : Rat)) (k := l) (fun s hs => by
          have := hn s.2 (mem_cands_r hs); rw [sgf, sgf]; grind)]
      exact hl
    · exfalso
      have hn : ∀ p ∈ candsF S D, ((p : Rat) ≤ 0 ↔ (p : Rat) ≤ l) := fun p hp => by
        constructor
        · intro h; grind
        · intro h
          by_cases hp0 : 0 < p
          · exact absurd ⟨p, hp, hp0, h⟩ hc
          · exact_mod_cast (by omega : p ≤ 0)
      rw [gap_most (up := true) (l := 0) (k := l) (fun s hs => by
          have := hn s.2 (mem_cands_l hs); rw [sgt, sgt]; grind),
        gap_least (up := false) (l := 0) (k := l) (fun s hs => by
          have := hn s.2 (mem_cands_r hs); rw [sgf, sgf]; grind)] at h0
      omega
  obtain ⟨q, hq, ⟨q0, q1, q2⟩, hm⟩ := exists_least (fun q => 0 < q ∧ (q : Rat) ≤ l ∧ leastI false (q : Rat) D ≤ mostI true (q : Rat) S) hT
  refine ⟨q, hq, q0, q1, clearsF_iff.2 ⟨?_, q2⟩⟩
  have hq0 : (0 : Rat) < (q : Rat) := by exact_mod_cast q0
  -- the last step's price ahead of it, or 0
  have hr : ∃ r : Rat, 0 ≤ r ∧ r < (q : Rat) ∧ mostI true r S < leastI false r D ∧ ∀ p ∈ candsF S D, (p : Rat) < (q : Rat) → (p : Rat) ≤ r := by
    by_cases hc : ∃ p ∈ candsF S D, 0 < p ∧ p < q
    · obtain ⟨p, hp, ⟨p0, p1⟩, hmx⟩ := exists_most (fun p => 0 < p ∧ p < q) hc
      have hpq : (p : Rat) < (q : Rat) := by exact_mod_cast p1
      have hp0 : (0 : Rat) < (p : Rat) := by exact_mod_cast p0
      refine ⟨(p : Rat), by grind, hpq, ?_, fun t ht htq => ?_⟩
      · by_cases hE : leastI false (p : Rat) D ≤ mostI true (p : Rat) S
        · have := hm p hp ⟨p0, by grind, hE⟩; omega
        · omega
      · by_cases ht0 : 0 < t
        · have := hmx t ht ⟨ht0, icast_lt.1 htq⟩; exact_mod_cast this
        · have : (t : Rat) ≤ 0 := by exact_mod_cast (by omega : t ≤ 0)
          grind
    · refine ⟨0, Rat.le_refl, hq0, h0, fun t ht htq => ?_⟩
      by_cases ht0 : 0 < t
      · exact absurd ⟨t, ht, ht0, icast_lt.1 htq⟩ hc
      · exact_mod_cast (by omega : t ≤ 0)
  obtain ⟨r, r0, r1, r2, r3⟩ := hr
  have e1 := gap_cross (up := true) (l := r) (k := (q : Rat)) (c := S) (fun s hs => by
    have := r3 s.2 (mem_cands_l hs); rw [sgt, sgt]; grind)
  have e2 := gap_cross (up := false) (l := (q : Rat)) (k := r) (c := D) (fun s hs => by
    have := r3 s.2 (mem_cands_r hs); rw [sgf, sgf]; grind)
  omega
/-! ### The mirror -/
def turnF (c : Stps) : Stps := c.map (fun s => (s.1, -s.2))
theorem way_turn (up : Bool) (p : Int) (l : Rat) : (wayQ up (-p) l < 0 ↔ wayQ (!up) p (-l) < 0) ∧ (wayQ up (-p) l ≤ 0 ↔ wayQ (!up) p (-l) ≤ 0) := by
  have e : ((-p : Int) : Rat) = -(p : Rat) := Rat.intCast_neg p
  rw [way_lt, way_lt, way_le, way_le, e]
  cases up
  · simp only [Bool.not_false, sgt, sgf]; constructor <;> grind
  · simp only [Bool.not_true, sgt, sgf]; constructor <;> grind
theorem want_turn (up : Bool) (l : Rat) : ∀ (c : Stps), leastI up l (turnF c) = leastI (!up) (-l) c ∧ mostI up l (turnF c) = mostI (!up) (-l) c
  | [] => ⟨rfl, rfl⟩
  | s :: r => by
    obtain ⟨a, b⟩ := want_turn up l r
    obtain ⟨e1, e2⟩ := way_turn up s.2 l
    show leastI up l ((s.1, -s.2) :: turnF r) = _ ∧ mostI up l ((s.1, -s.2) :: turnF r) = _
    rw [leastI_cons, mostI_cons, leastI_cons, mostI_cons, a, b]
    constructor
    · by_cases h : wayQ up (-s.2) l < 0
      · rw [if_pos h, if_pos (e1.1 h)]
      · rw [if_neg h, if_neg (fun h2 => h (e1.2 h2))]
    · by_cases h : wayQ up (-s.2) l ≤ 0
      · rw [if_pos h, if_pos (e2.1 h)]
      · rw [if_neg h, if_neg (fun h2 => h (e2.2 h2))]
theorem clears_turn (S D : Stps) (l : Rat) : clearsF (turnF D) (turnF S) l = clearsF S D (-l) := by
  unfold clearsF
  rw [(want_turn true l D).1, (want_turn true l D).2, (want_turn false l S).1, (want_turn false l S).2, Bool.and_comm]
  rfl
theorem turn_nn {c : Stps} (h : ∀ s ∈ c, 0 ≤ s.1) : ∀ s ∈ turnF c, 0 ≤ s.1 := by
  intro s hs
  obtain ⟨t, ht, rfl⟩ := List.mem_map.1 hs
  exact h t ht
theorem mem_cands_turn {S D : Stps} {p : Int} : p ∈ candsF (turnF D) (turnF S) ↔ -p ∈ candsF S D := by
  unfold candsF turnF
  simp only [List.mem_append, List.mem_map, List.map_map]
  constructor
  · rintro (⟨s, hs, rfl⟩ | ⟨s, hs, rfl⟩)
    · exact .inr ⟨s, hs, by simp⟩
    · exact .inl ⟨s, hs, by simp⟩
  · rintro (⟨s, hs, e⟩ | ⟨s, hs, e⟩)
    · exact .inr ⟨s, hs, by simp [e]⟩
    · exact .inl ⟨s, hs, by simp [e]⟩
theorem clear_down {S D : Stps} (hS : ∀ s ∈ S, 0 ≤ s.1) (hD : ∀ s ∈ D, 0 ≤ s.1) (h0 : mostI false 0 D < leastI true 0 S) {l : Rat} (hl : leastI true l S ≤ mostI false l D) :
    ∃ q ∈ candsF S D, q < 0 ∧ l ≤ (q : Rat) ∧ clearsF S D (q : Rat) = true := by
  have z : -(0 : Rat) = 0 := by grind
  have zz : -(-l) = l := by grind
  obtain ⟨q, hq, q0, q1, q2⟩ := clear_up (S := turnF D) (D := turnF S) (turn_nn hD) (turn_nn hS) (l := -l)
    (by rw [(want_turn true 0 D).2, (want_turn false 0 S).1, z]; exact h0) (by rw [(want_turn true (-l) D).2, (want_turn false (-l) S).1, zz]; exact hl)
  refine ⟨-q, mem_cands_turn.1 hq, by omega, by rw [Rat.intCast_neg]; grind, ?_⟩
  rw [clears_turn] at q2
  rw [Rat.intCast_neg]; exact q2
theorem above_all : ∀ (c : Stps), ∃ m : Int, ∀ s ∈ c, s.2 ≤ m
  | [] => ⟨0, fun _ h => by simp at h⟩
  | s :: r => by
    obtain ⟨m, hm⟩ := above_all r
    refine ⟨max s.2 m, fun t ht => ?_⟩
    rcases List.mem_cons.1 ht with rfl | ht
    · omega
    · have := hm t ht; omega
theorem below_all' : ∀ (c : Stps), ∃ m : Int, ∀ s ∈ c, m ≤ s.2
  | [] => ⟨0, fun _ h => by simp at h⟩
  | s :: r => by
    obtain ⟨m, hm⟩ := below_all' r
    refine ⟨min s.2 m, fun t ht => ?_⟩
    rcases List.mem_cons.1 ht with rfl | ht
    · omega
    · have := hm t ht; omega
theorem most_nn {up : Bool} {l : Rat} {c : Stps} (h : ∀ s ∈ c, 0 ≤ s.1) : 0 ≤ mostI up l c := by
  have := least_mostI (up := up) (l := l) h; omega
theorem iabs_le {q : Int} {l : Rat} (h : (0 < q ∧ (q : Rat) ≤ l) ∨ (q < 0 ∧ l ≤ (q : Rat))) : ((max q (-q) : Int) : Rat) ≤ max l (-l) := by
  rcases h with ⟨a, b⟩ | ⟨a, b⟩
  · have : max q (-q) = q := by omega
    rw [this]; grind
  · have : max q (-q) = -q := by omega
    rw [this, Rat.intCast_neg]; grind
/-- Where 0 does not clear, a step's price does; and none that clears lies nearer to 0 than all of these. -/
theorem cand_near {S D : Stps} (hS : ∀ s ∈ S, 0 ≤ s.1) (hD : ∀ s ∈ D, 0 ≤ s.1) (h0 : clearsF S D 0 = false) :
    (∃ q ∈ candsF S D, clearsF S D (q : Rat) = true) ∧ ∀ l : Rat, clearsF S D l = true → ∃ q ∈ candsF S D, clearsF S D (q : Rat) = true ∧ ((max q (-q) : Int) : Rat) ≤ max l (-l) := by
  have hc : mostI true 0 S < leastI false 0 D ∨ mostI false 0 D < leastI true 0 S := by
    unfold clearsF at h0
    simp only [Bool.and_eq_false_iff, decide_eq_false_iff_not] at h0
    omega
  rcases hc with hc | hc
  · obtain ⟨m, hm⟩ := above_all D
    have e : leastI false (m : Rat) D = 0 := least_none (fun s hs => by
      have : (s.2 : Rat) ≤ (m : Rat) := by exact_mod_cast hm s hs
      rw [sgf]; grind)
    refine ⟨?_, fun l hl => ?_⟩
    · obtain ⟨q, hq, _, _, q2⟩ := clear_up hS hD hc (l := (m : Rat)) (by rw [e]; exact most_nn hS)
      exact ⟨q, hq, q2⟩
    · obtain ⟨q, hq, q0, q1, q2⟩ := clear_up hS hD hc (clearsF_iff.1 hl).2
      exact ⟨q, hq, q2, iabs_le (.inl ⟨q0, q1⟩)⟩
  · obtain ⟨m, hm⟩ := below_all' S
    have e : leastI true (m : Rat) S = 0 := least_none (fun s hs => by
      have : (m : Rat) ≤ (s.2 : Rat) := by exact_mod_cast hm s hs
      rw [sgt]; grind)
    refine ⟨?_, fun l hl => ?_⟩
    · obtain ⟨q, hq, _, _, q2⟩ := clear_down hS hD hc (l := (m : Rat)) (by rw [e]; exact most_nn hD)
      exact ⟨q, hq, q2⟩
    · obtain ⟨q, hq, q0, q1, q2⟩ := clear_down hS hD hc (clearsF_iff.1 hl).1
      exact ⟨q, hq, q2, iabs_le (.inr ⟨q0, q1⟩)⟩
/-- The rounds over the steps' prices. -/
def pickF (f : Int → Bool) : List Int → Int × Int → Int × Int
  | [], st => st
  | p :: r, st => pickF f r (if (0 ≤ st.1 ∧ st.1 ≤ max p (-p)) ∨ f p = false then st else (max p (-p), p))
def nearF (S D : Stps) : Int := if clearsF S D 0 = true then 0 else (pickF (fun p => clearsF S D (p : Rat)) (candsF S D) (-1, 0)).2
theorem pickF_spec (f : Int → Bool) : ∀ (l : List Int) (st : Int × Int), (st.1 = -1 ∨ (st.1 = max st.2 (-st.2) ∧ f st.2 = true)) →
    let r := pickF f l st
    (r.1 = -1 ∨ (r.1 = max r.2 (-r.2) ∧ f r.2 = true)) ∧ (0 ≤ st.1 → 0 ≤ r.1 ∧ r.1 ≤ st.1) ∧ ∀ p ∈ l, f p = true → 0 ≤ r.1 ∧ r.1 ≤ max p (-p)
  | [], st, h => ⟨h, fun h => ⟨h, Int.le_refl _⟩, fun _ h => by simp at h⟩
  | p :: l, st, h => by
    unfold pickF
    by_cases hc : (0 ≤ st.1 ∧ st.1 ≤ max p (-p)) ∨ f p = false
    · rw [if_pos hc]
      obtain ⟨a, b, c⟩ := pickF_spec f l st h
      refine ⟨a, b, fun q hq hf => ?_⟩
      rcases List.mem_cons.1 hq with rfl | hq
      · rcases hc with hc | hc
        · have := b hc.1; omega
        · rw [hc] at hf; cases hf
      · exact c q hq hf
    · rw [if_neg hc]
      have hf : f p = true := by
        cases hfp : f p with
        | true => rfl
        | false => exact absurd (.inr hfp) hc
      obtain ⟨a, b, c⟩ := pickF_spec f l (max p (-p), p) (.inr ⟨rfl, hf⟩)
      simp only at b
      have b' := b (by omega)
      refine ⟨a, fun h0 => ?_, fun q hq hfq => ?_⟩
      · have : ¬ (0 ≤ st.1 ∧ st.1 ≤ max p (-p)) := fun h => hc (.inl h)
        omega
      · rcases List.mem_cons.1 hq with rfl | hq
        · exact b'
        · exact c q hq hfq
theorem absQ_int (p : Int) : ((max p (-p) : Int) : Rat) = max (p : Rat) (-(p : Rat)) := by
  by_cases h : 0 ≤ p
  · have : (0 : Rat) ≤ (p : Rat) := by exact_mod_cast h
    rw [show max p (-p) = p by omega]; grind
  · have : (p : Rat) ≤ 0 := by exact_mod_cast (by omega : p ≤ 0)
    rw [show max p (-p) = -p by omega, Rat.intCast_neg]; grind
/-- The price clears, and none that clears is nearer to 0. -/
theorem near_spec {S D : Stps} (hS : ∀ s ∈ S, 0 ≤ s.1) (hD : ∀ s ∈ D, 0 ≤ s.1) : clearsF S D (nearF S D : Rat) = true ∧ ∀ l : Rat, clearsF S D l = true → max (nearF S D : Rat) (-(nearF S D : Rat)) ≤ max l (-l) := by
  unfold nearF
  by_cases h0 : clearsF S D 0 = true
  · rw [if_pos h0]
    exact ⟨h0, fun l _ => by
      have : ((0 : Int) : Rat) = 0 := rfl
      rw [this]; grind⟩
  · rw [if_neg h0]
    obtain ⟨⟨q, hq, hc⟩, hn⟩ := cand_near hS hD (by simpa using h0)
    obtain ⟨a, _, c⟩ := pickF_spec (fun p => clearsF S D (p : Rat)) (candsF S D) (-1, 0) (.inl rfl)
    have h1 := c q hq hc
    rcases a with a | ⟨a, b⟩
    · omega
    · refine ⟨b, fun l hl => ?_⟩
      obtain ⟨q', hq', hc', hle⟩ := hn l hl
      have h2 := (c q' hq' hc').2
      rw [← absQ_int, ← a]
      have h3 : (((pickF (fun p => clearsF S D (p : Rat)) (candsF S D) (-1, 0)).1 : Int) : Rat) ≤ ((max q' (-q') : Int) : Rat) := by exact_mod_cast h2
      grind
/-- There is but one such price. -/
theorem near_one {S D : Stps} (hS : ∀ s ∈ S, 0 ≤ s.1) (hD : ∀ s ∈ D, 0 ≤ s.1) {x : Int} (hx : clearsF S D (x : Rat) = true) (hm : ∀ l : Rat, clearsF S D l = true → max (x : Rat) (-(x : Rat)) ≤ max l (-l)) : x = nearF S D := by
  obtain ⟨a, b⟩ := near_spec hS hD
  have h1 := hm _ a
  have h2 := b _ hx
  generalize nearF S D = y at *
  rw [← absQ_int, ← absQ_int, icast_le] at h1 h2
  by_cases e : x = y
  · exact e
  · exfalso
    have hz : clearsF S D 0 = true := by
      rcases Int.lt_or_le x 0 with h | h
      · have h3 : (x : Rat) ≤ 0 := by exact_mod_cast (by omega : x ≤ 0)
        have h4 : (0 : Rat) ≤ (y : Rat) := by exact_mod_cast (by omega : 0 ≤ y)
        exact clears_between hS hD h3 h4 hx a
      · have h3 : (y : Rat) ≤ 0 := by exact_mod_cast (by omega : y ≤ 0)
        have h4 : (0 : Rat) ≤ (x : Rat) := by exact_mod_cast h
        exact clears_between hS hD h3 h4 a hx
    have h5 := hm 0 hz
    have : max (0 : Rat) (-0) = ((0 : Int) : Rat) := by show max (0 : Rat) (-0) = 0; grind
    rw [← absQ_int, this, icast_le] at h5
    omega
#print axioms near_one
end Go.Proofs.YtlaemhigmgmgjaaGreat
/- Plain: a cleared market: its trade, its welfare, and that none is better. No condition. -/
namespace Go.Proofs.YtlaemhigmgmgjaaGreat
set_option linter.unusedVariables false
set_option linter.unusedSimpArgs false

/-! ### Whole numbers -/
def gEndI : List Int → Int → List Int × Int
  | [], q => ([], q)
  | p :: r, q => (min (gEndI r q).2 p :: (gEndI r q).1, (gEndI r q).2 - min (gEndI r q).2 p)
def sharePI (n : Nat) : List Lv → Int → List Int × Int
  | [], q => (List.replicate n 0, q)
  | x :: s, q => (List.zipWith (· + ·) (gEndI x.2.2 q).1 (sharePI n s (gEndI x.2.2 q).2).1, (sharePI n s (gEndI x.2.2 q).2).2)
def shareXI (up : Bool) (L : List Crv) (q : Int) : List Int := (sharePI L.length (stackOf up L) q).1
def costI : List (Int × Int) → Int → Int
  | [], _ => 0
  | s :: r, y => min y s.1 * s.2 + costI r (y - min y s.1)
theorem minQ_int (a b : Int) : minQ (a : Rat) (b : Rat) = ((min a b : Int) : Rat) := by
  unfold minQ
  by_cases h : a ≤ b
  · rw [if_pos (by exact_mod_cast h), show min a b = a by omega]
  · rw [if_neg (fun h2 => h (by exact_mod_cast h2)), show min a b = b by omega]
theorem castL_add : ∀ (a b : List Int), addL (castL a) (castL b) = castL (List.zipWith (· + ·) a b)
  | [], _ => by simp [addL, castL]
  | _ :: _, [] => by simp [addL, castL]
  | x :: a, y :: b => by
    rw [castL_cons, castL_cons, addL_cons, castL_add a b, List.zipWith_cons_cons, castL_cons, Rat.intCast_add]
theorem castL_rep : ∀ (n : Nat), castL (List.replicate n 0) = List.replicate n (0 : Rat)
  | 0 => rfl
  | n + 1 => by rw [List.replicate_succ, castL_cons, castL_rep n, List.replicate_succ]; rfl
theorem gEnd_int : ∀ (P : List Int) (q : Int), gEnd P (q : Rat) = (castL (gEndI P q).1, (((gEndI P q).2 : Int) : Rat))
  | [], q => rfl
  | p :: P, q => by
    rw [gEnd_cons, gEnd_int P q]
    simp only [minQ_int]
    refine Prod.ext ?_ ?_
    · rfl
    · show _ = (((gEndI P q).2 - min (gEndI P q).2 p : Int) : Rat)
      rw [Rat.intCast_sub]
theorem shareP_int (n : Nat) : ∀ (s : List Lv) (q : Int), shareP n s (q : Rat) = (castL (sharePI n s q).1, (((sharePI n s q).2 : Int) : Rat))
  | [], q => by show (List.replicate n (0 : Rat), (q : Rat)) = (castL (List.replicate n 0), (q : Rat)); rw [castL_rep]
  | x :: s, q => by
    rw [shareP_cons, gEnd_int]
    simp only
    rw [shareP_int n s]
    simp only
    rw [castL_add]
    rfl
theorem shareX_int (up : Bool) (L : List Crv) (q : Int) : shareX up L (q : Rat) = castL (shareXI up L q) := by
  unfold shareX shareXI
  rw [shareP_int]
theorem costC_int : ∀ (c : List (Int × Int)) (y : Int), costC c (y : Rat) = ((costI c y : Int) : Rat)
  | [], _ => rfl
  | s :: r, y => by
    rw [costC_cons, minQ_int, ← Rat.intCast_sub, costC_int r]
    show _ = ((min y s.1 * s.2 + costI r (y - min y s.1) : Int) : Rat)
    rw [Rat.intCast_add, Rat.intCast_mul]
theorem castL_sum : ∀ (a : List Int), (castL a).sum = ((a.sum : Int) : Rat)
  | [] => rfl
  | x :: a => by rw [castL_cons, List.sum_cons, castL_sum a, List.sum_cons, Rat.intCast_add]
theorem shareXI_len {up : Bool} {L : List Crv} (hv : Valid up L) (q : Int) : (shareXI up L q).length = L.length := by
  have h1 := shareX_len hv (q : Rat)
  rw [shareX_int, castL_len] at h1
  exact h1

/-! ### The market -/
theorem flat_nn {up : Bool} {L : List Crv} (hv : Valid up L) : ∀ s ∈ L.flatten, 0 ≤ s.1 := by
  intro s hs
  obtain ⟨c, hc, hs⟩ := List.mem_flatten.1 hs
  exact Int.le_of_lt (crv_pos hv c hc s hs)
def priceP (O B : List Crv) : Int := nearF O.flatten B.flatten
def volP (O B : List Crv) : Int := max (leastI true (priceP O B : Rat) O.flatten) (leastI false (priceP O B : Rat) B.flatten)
def welP (O B : List Crv) : Int := costI (pairsS (stackOf false B)) (volP O B) - costI (pairsS (stackOf true O)) (volP O B)
theorem flat_least (up : Bool) (l : Rat) (L : List Crv) : ((leastI up l L.flatten : Int) : Rat) = (L.map (leastC up l)).sum := by
  rw [(wantI_flat up l L).1, rsum_int _ _ (leastI_cast up l)]
theorem flat_most (up : Bool) (l : Rat) (L : List Crv) : ((mostI up l L.flatten : Int) : Rat) = (L.map (mostC up l)).sum := by
  rw [(wantI_flat up l L).2, rsum_int _ _ (mostI_cast up l)]
/-- The volume lies between what offers want and between what bids want. -/
theorem vol_in {O B : List Crv} (hO : Valid true O) (hB : Valid false B) :
    leastI true (priceP O B : Rat) O.flatten ≤ volP O B ∧ volP O B ≤ mostI true (priceP O B : Rat) O.flatten ∧ leastI false (priceP O B : Rat) B.flatten ≤ volP O B ∧ volP O B ≤ mostI false (priceP O B : Rat) B.flatten := by
  have h1 := clearsF_iff.1 (near_spec (flat_nn hO) (flat_nn hB)).1
  have h2 := least_mostI (up := true) (l := (priceP O B : Rat)) (flat_nn hO)
  have h3 := least_mostI (up := false) (l := (priceP O B : Rat)) (flat_nn hB)
  unfold volP
  unfold priceP at *
  omega
/-- One side: what is shared of the volume, at the price. -/
structure Side (up : Bool) (L : List Crv) (l : Rat) (q : Int) : Prop where
  tg : TG (L.map (leastC up l)) (castL (shareXI up L q)) (L.map (mostC up l))
  sum : (shareXI up L q).sum = q
  tight : sg up * ((costI (pairsS (stackOf up L)) q : Int) : Rat) = sg up * l * (q : Rat) - (L.map (vC up l)).sum
  own : costs L (castL (shareXI up L q)) = ((costI (pairsS (stackOf up L)) q : Int) : Rat)
  bnd : ∀ (i : Nat) (h1 : i < L.length) (h2 : i < (castL (shareXI up L q)).length), 0 ≤ (castL (shareXI up L q))[i] ∧ (castL (shareXI up L q))[i] ≤ totC L[i]
theorem sgsg (up : Bool) : sg up * sg up = 1 := by unfold sg; cases up <;> simp <;> grind
theorem sg_inj {up : Bool} {a b : Rat} (h : sg up * a = sg up * b) : a = b := by
  have h1 := sgsg up
  have h4 : sg up * (sg up * a) = sg up * (sg up * b) := by rw [h]
  grind
theorem side_law {up : Bool} {L : List Crv} (hv : Valid up L) {l : Rat} {q : Int} (h0 : leastI up l L.flatten ≤ q) (h1 : q ≤ mostI up l L.flatten) : Side up L l q := by
  have g0 : (L.map (leastC up l)).sum ≤ (q : Rat) := by rw [← flat_least]; exact_mod_cast h0
  have g1 : (q : Rat) ≤ (L.map (mostC up l)).sum := by rw [← flat_most]; exact_mod_cast h1
  have hpos := crv_pos hv
  have hsor : ∀ c ∈ L, c.Pairwise (fun s t => afterOf up s.2 t.2 = true) := fun c hc => curveE_sorted (hv.2 c hc)
  obtain ⟨tg, ts⟩ := share_law hv l (q : Rat) g0 g1
  rw [shareX_int] at tg ts
  have hxl : (castL (shareXI up L q)).length = L.length := by rw [castL_len, shareXI_len hv]
  have hxb : ∀ (i : Nat) (h1 : i < L.length) (h2 : i < (castL (shareXI up L q)).length), leastC up l L[i] ≤ (castL (shareXI up L q))[i] ∧ (castL (shareXI up L q))[i] ≤ mostC up l L[i] := fun i h1 h2 => by
    have := tg.get i (by simpa using h1) h2 (by simpa using h1)
    simpa using this
  have hx0 : ∀ (i : Nat) (h1 : i < L.length) (h2 : i < (castL (shareXI up L q)).length), 0 ≤ (castL (shareXI up L q))[i] ∧ (castL (shareXI up L q))[i] ≤ totC L[i] := fun i h1 h2 => by
    have h3 := hxb i h1 h2
    have h4 := least_most (up := up) (l := l) (c := L[i]) (fun s hs => Int.le_of_lt (hpos _ (List.getElem_mem h1) s hs))
    grind
  have b0 : 0 ≤ (q : Rat) ∧ (q : Rat) ≤ (L.map totC).sum := by
    have := sum_bounds hxl hx0
    rw [ts] at this
    exact this
  have htS := (cost_tight up l (stack_pos hv) (stack_sorted up L) b0.1 (by rw [stack_tot]; exact b0.2)).2 ⟨by rw [stack_least]; exact g0, by rw [stack_most]; exact g1⟩
  rw [stack_v, costC_int] at htS
  have hct := (costs_tight up l hpos hsor hxl hx0).2 hxb
  rw [ts] at hct
  refine ⟨tg, ?_, htS, sg_inj (by rw [hct, htS]), hx0⟩
  rw [castL_sum] at ts
  exact_mod_cast ts
theorem offers_side {O B : List Crv} (hO : Valid true O) (hB : Valid false B) : Side true O (priceP O B : Rat) (volP O B) := side_law hO (vol_in hO hB).1 (vol_in hO hB).2.1
theorem bids_side {O B : List Crv} (hO : Valid true O) (hB : Valid false B) : Side false B (priceP O B : Rat) (volP O B) := side_law hB (vol_in hO hB).2.2.1 (vol_in hO hB).2.2.2
/-- The welfare, at the price. -/
theorem wel_eq {O B : List Crv} (hO : Valid true O) (hB : Valid false B) : ((welP O B : Int) : Rat) = (O.map (vC true (priceP O B : Rat))).sum + (B.map (vC false (priceP O B : Rat))).sum := by
  have h1 := (offers_side hO hB).tight
  have h2 := (bids_side hO hB).tight
  unfold welP
  rw [Rat.intCast_sub]
  rw [sgt, sgt] at h1
  rw [sgf, sgf] at h2
  grind
theorem vC_nn {up : Bool} {l : Rat} : ∀ {c : Stps}, (∀ s ∈ c, 0 ≤ s.1) → 0 ≤ vC up l c
  | [], _ => Rat.le_refl
  | s :: r, h => by
    have h0 : (0 : Rat) ≤ (s.1 : Rat) := by exact_mod_cast h s (by simp)
    have h1 := vC_nn (up := up) (l := l) (c := r) (fun t ht => h t (List.mem_cons_of_mem _ ht))
    rw [vC_cons]
    by_cases hd : 0 ≤ sg up * (l - (s.2 : Rat))
    · rw [if_pos hd]
      have := mul_nn hd h0
      grind
    · rw [if_neg hd]; grind
theorem vsum_nn {up : Bool} {l : Rat} : ∀ {L : List Crv}, (∀ c ∈ L, ∀ s ∈ c, 0 ≤ s.1) → 0 ≤ (L.map (vC up l)).sum
  | [], _ => Rat.le_refl
  | c :: L, h => by
    have h1 := vC_nn (up := up) (l := l) (h c (by simp))
    have h2 := vsum_nn (up := up) (l := l) (L := L) (fun c hc => h c (List.mem_cons_of_mem _ hc))
    rw [List.map_cons, List.sum_cons]; grind
theorem wel_nn {O B : List Crv} (hO : Valid true O) (hB : Valid false B) : 0 ≤ welP O B := by
  have h1 := wel_eq hO hB
  have h2 := vsum_nn (up := true) (l := (priceP O B : Rat)) (L := O) (fun c hc s hs => Int.le_of_lt (crv_pos hO c hc s hs))
  have h3 := vsum_nn (up := false) (l := (priceP O B : Rat)) (L := B) (fun c hc s hs => Int.le_of_lt (crv_pos hB c hc s hs))
  have h4 : ((0 : Int) : Rat) ≤ ((welP O B : Int) : Rat) := by rw [h1]; show (0 : Rat) ≤ _; grind
  exact_mod_cast h4
/-! ### No trade is better -/
def Div (L : List Crv) (y : List Rat) : Prop := y.length = L.length ∧ ∀ (i : Nat) (h1 : i < L.length) (h2 : i < y.length), 0 ≤ y[i] ∧ y[i] ≤ totC L[i]
theorem trade_le {O B : List Crv} (hO : Valid true O) (hB : Valid false B) {g t : List Rat} (hg : Div O g) (ht : Div B t) (hs : g.sum = t.sum) : costs B t - costs O g ≤ ((welP O B : Int) : Rat) := by
  have h1 := costs_weak true (priceP O B : Rat) (crv_pos hO) hg.1 hg.2
  have h2 := costs_weak false (priceP O B : Rat) (crv_pos hB) ht.1 ht.2
  rw [wel_eq hO hB]
  rw [sgt, sgt] at h1
  rw [sgf, sgf] at h2
  grind
theorem TG.lex_le : ∀ {l x h y : List Rat}, TG l x h → y.length = x.length → x.sum ≤ y.sum → (∀ (i : Nat) (h1 : i < l.length) (h2 : i < y.length) (h3 : i < h.length), l[i] ≤ y[i] ∧ y[i] ≤ h[i]) →
    ∀ (i : Nat) (h1 : i < x.length) (h2 : i < y.length), (∀ j (hj : j < i), x[j] = y[j]) → x[i] ≠ y[i] → x[i] < y[i]
  | [], [], [], _, _, _, _, _, i, h1, _, _, _ => absurd h1 (by simp)
  | l :: ls, x :: xs, h :: hs, [], _, hy, _, _, _, _, _, _, _ => by simp at hy
  | l :: ls, x :: xs, h :: hs, y :: ys, hT, hy, hs', hb, i, h1, h2, hj, hne => by
    obtain ⟨a, b, c, d⟩ := hT
    obtain ⟨e1, e2⟩ := d.len
    have hyl : ys.length = xs.length := by simpa using hy
    simp only [List.sum_cons] at hs'
    have b0 := hb 0 (by simp) (by simp) (by simp)
    simp only [List.getElem_cons_zero] at b0
    have bt : ∀ (i : Nat) (h1 : i < ls.length) (h2 : i < ys.length) (h3 : i < hs.length), ls[i] ≤ ys[i] ∧ ys[i] ≤ hs[i] := fun i h1 h2 h3 => by
      have := hb (i + 1) (by simpa using h1) (by simpa using h2) (by simpa using h3)
      simpa using this
    cases i with
    | zero =>
      simp only [List.getElem_cons_zero] at hne ⊢
      rcases tri x y with hlt | heq | hgt
      · exact hlt
      · exact absurd heq hne
      · have := c (by grind)
        subst this
        have := sum_le_of (a := ys) (b := xs) hyl (fun i h1 h2 => (bt i (by omega) h1 h2).2)
        grind
    | succ i =>
      have hj0 := hj 0 (by omega)
      simp only [List.getElem_cons_zero] at hj0
      simp only [List.getElem_cons_succ] at hne ⊢
      refine TG.lex_le d hyl (by grind) bt i (by simpa using h1) (by simpa using h2) (fun j hji => ?_) hne
      have := hj (j + 1) (by omega)
      simpa using this
/-- Of the trades of the greatest welfare it is the least in order. -/
theorem trade_lex {O B : List Crv} (hO : Valid true O) (hB : Valid false B) {g t : List Rat} (hg : Div O g) (ht : Div B t) (hs : g.sum = t.sum) (he : costs B t - costs O g = ((welP O B : Int) : Rat)) :
    (∀ (i : Nat) (h1 : i < (castL (shareXI true O (volP O B))).length) (h2 : i < g.length), (∀ j (hj : j < i), (castL (shareXI true O (volP O B)))[j] = g[j]) → (castL (shareXI true O (volP O B)))[i] ≠ g[i] → (castL (shareXI true O (volP O B)))[i] < g[i]) ∧
      (castL (shareXI true O (volP O B)) = g → ∀ (i : Nat) (h1 : i < (castL (shareXI false B (volP O B))).length) (h2 : i < t.length), (∀ j (hj : j < i), (castL (shareXI false B (volP O B)))[j] = t[j]) → (castL (shareXI false B (volP O B)))[i] ≠ t[i] → (castL (shareXI false B (volP O B)))[i] < t[i]) := by
  have h1 := costs_weak true (priceP O B : Rat) (crv_pos hO) hg.1 hg.2
  have h2 := costs_weak false (priceP O B : Rat) (crv_pos hB) ht.1 ht.2
  have hw := wel_eq hO hB
  rw [sgt, sgt] at h1
  rw [sgf, sgf] at h2
  have t1 := (costs_tight true (priceP O B : Rat) (crv_pos hO) (fun c hc => curveE_sorted (hO.2 c hc)) hg.1 hg.2).1 (by rw [sgt, sgt]; grind)
  have t2 := (costs_tight false (priceP O B : Rat) (crv_pos hB) (fun c hc => curveE_sorted (hB.2 c hc)) ht.1 ht.2).1 (by rw [sgf, sgf]; grind)
  have so := offers_side hO hB
  have sb := bids_side hO hB
  have hlo : (O.map (leastC true (priceP O B : Rat))).sum ≤ g.sum := sum_le_of (by simp [hg.1]) (fun i h1 h2 => by
    have := (t1 i (by simpa using h1) h2).1; simpa using this)
  have hlb : (B.map (leastC false (priceP O B : Rat))).sum ≤ t.sum := sum_le_of (by simp [ht.1]) (fun i h1 h2 => by
    have := (t2 i (by simpa using h1) h2).1; simpa using this)
  rw [← flat_least] at hlo hlb
  have hvol : ((volP O B : Int) : Rat) ≤ g.sum := by
    have hm : volP O B = leastI true (priceP O B : Rat) O.flatten ∨ volP O B = leastI false (priceP O B : Rat) B.flatten := by unfold volP; omega
    rcases hm with hm | hm
    · rw [hm]; exact hlo
    · rw [hm, hs]; exact hlb
  have e1 : (castL (shareXI true O (volP O B))).sum = ((volP O B : Int) : Rat) := by rw [castL_sum, so.sum]
  have e2 : (castL (shareXI false B (volP O B))).sum = ((volP O B : Int) : Rat) := by rw [castL_sum, sb.sum]
  refine ⟨?_, fun heq => ?_⟩
  · exact so.tg.lex_le (by rw [hg.1, castL_len, shareXI_len hO]) (by rw [e1]; exact hvol) (fun i h1 h2 h3 => by have := t1 i (by simpa using h1) h2; simpa using this)
  · have : g.sum = ((volP O B : Int) : Rat) := by rw [← heq, e1]
    exact sb.tg.lex_le (by rw [ht.1, castL_len, shareXI_len hB]) (by rw [e2, ← hs, this]; exact Rat.le_refl) (fun i h1 h2 h3 => by have := t2 i (by simpa using h1) h2; simpa using this)
/-- The trade itself. -/
theorem own_div {up : Bool} {L : List Crv} (hv : Valid up L) {l : Rat} {q : Int} (s : Side up L l q) : Div L (castL (shareXI up L q)) := ⟨by rw [castL_len, shareXI_len hv], s.bnd⟩
theorem own_wel {O B : List Crv} (hO : Valid true O) (hB : Valid false B) : costs B (castL (shareXI false B (volP O B))) - costs O (castL (shareXI true O (volP O B))) = ((welP O B : Int) : Rat) := by
  rw [(offers_side hO hB).own, (bids_side hO hB).own]
  unfold welP
  rw [Rat.intCast_sub]
#print axioms trade_lex
end Go.Proofs.YtlaemhigmgmgjaaGreat
/- Plain: a cleared market when a curve is added, when the curves are rotated, and in the mirror. No condition. -/
namespace Go.Proofs.YtlaemhigmgmgjaaGreat
set_option linter.unusedVariables false
set_option linter.unusedSimpArgs false

theorem want_append (up : Bool) (l : Rat) : ∀ (c d : Stps), leastI up l (c ++ d) = leastI up l c + leastI up l d ∧ mostI up l (c ++ d) = mostI up l c + mostI up l d
  | [], d => by simp [leastI, mostI]
  | s :: c, d => by
    obtain ⟨a, b⟩ := want_append up l c d
    rw [List.cons_append, leastI_cons, mostI_cons, a, b, leastI_cons, mostI_cons]; omega
theorem least_nn {up : Bool} {l : Rat} {c : Stps} (h : ∀ s ∈ c, 0 ≤ s.1) : 0 ≤ leastI up l c := (least_mostI (up := up) (l := l) h).1
/-- More is asked: the price does not fall. -/
theorem near_bid {S D E : Stps} (hS : ∀ s ∈ S, 0 ≤ s.1) (hD : ∀ s ∈ D, 0 ≤ s.1) (hE : ∀ s ∈ E, 0 ≤ s.1) : nearF S D ≤ nearF S (D ++ E) := by
  have hDE : ∀ s ∈ D ++ E, 0 ≤ s.1 := fun s hs => (List.mem_append.1 hs).elim (hD s) (hE s)
  obtain ⟨x1, x2⟩ := near_spec hS hD
  obtain ⟨y1, y2⟩ := near_spec hS hDE
  generalize nearF S D = x at *
  generalize nearF S (D ++ E) = y at *
  rcases Int.lt_or_le y x with hlt | hle
  · exfalso
    have hyx : (y : Rat) ≤ (x : Rat) := by exact_mod_cast Int.le_of_lt hlt
    have cx := clearsF_iff.1 x1
    have cy := clearsF_iff.1 y1
    rw [(want_append false (y : Rat) D E).1, (want_append false (y : Rat) D E).2] at cy
    have e1 := least_nn (up := false) (l := (y : Rat)) hE
    have e2 := most_nn (up := false) (l := (x : Rat)) hE
    have i1 := want_mono (up := true) (l := (y : Rat)) (k := (x : Rat)) (by rw [sgt, sgt]; exact hyx) hS
    have i2 := want_mono (up := false) (l := (x : Rat)) (k := (y : Rat)) (by rw [sgf, sgf]; grind) hD
    have i3 := want_mono (up := false) (l := (x : Rat)) (k := (y : Rat)) (by rw [sgf, sgf]; grind) hE
    have hy : clearsF S D (y : Rat) = true := clearsF_iff.2 ⟨by omega, by omega⟩
    have hx : clearsF S (D ++ E) (x : Rat) = true := clearsF_iff.2 (by
      rw [(want_append false (x : Rat) D E).1, (want_append false (x : Rat) D E).2]
      constructor <;> omega)
    have h1 := x2 _ hy
    have h2 := y2 _ hx
    rw [← absQ_int, ← absQ_int, icast_le] at h1 h2
    have h3 : (y : Rat) ≤ 0 := by exact_mod_cast (by omega : y ≤ 0)
    have h4 : (0 : Rat) ≤ (x : Rat) := by exact_mod_cast (by omega : 0 ≤ x)
    have h5 := x2 0 (clears_between hS hD h3 h4 hy x1)
    have : max (0 : Rat) (-0) = ((0 : Int) : Rat) := by show max (0 : Rat) (-0) = 0; grind
    rw [← absQ_int, this, icast_le] at h5
    omega
  · exact hle
theorem near_offer {S D E : Stps} (hS : ∀ s ∈ S, 0 ≤ s.1) (hD : ∀ s ∈ D, 0 ≤ s.1) (hE : ∀ s ∈ E, 0 ≤ s.1) : nearF (S ++ E) D ≤ nearF S D := by
  have hSE : ∀ s ∈ S ++ E, 0 ≤ s.1 := fun s hs => (List.mem_append.1 hs).elim (hS s) (hE s)
  obtain ⟨x1, x2⟩ := near_spec hS hD
  obtain ⟨y1, y2⟩ := near_spec hSE hD
  generalize nearF S D = x at *
  generalize nearF (S ++ E) D = y at *
  rcases Int.lt_or_le x y with hlt | hle
  · exfalso
    have hyx : (x : Rat) ≤ (y : Rat) := by exact_mod_cast Int.le_of_lt hlt
    have cx := clearsF_iff.1 x1
    have cy := clearsF_iff.1 y1
    rw [(want_append true (y : Rat) S E).1, (want_append true (y : Rat) S E).2] at cy
    have e1 := least_nn (up := true) (l := (y : Rat)) hE
    have e2 := most_nn (up := true) (l := (x : Rat)) hE
    have i1 := want_mono (up := true) (l := (x : Rat)) (k := (y : Rat)) (by rw [sgt, sgt]; exact hyx) hS
    have i2 := want_mono (up := false) (l := (y : Rat)) (k := (x : Rat)) (by rw [sgf, sgf]; grind) hD
    have i3 := want_mono (up := true) (l := (x : Rat)) (k := (y : Rat)) (by rw [sgt, sgt]; exact hyx) hE
    have hy : clearsF S D (y : Rat) = true := clearsF_iff.2 ⟨by omega, by omega⟩
    have hx : clearsF (S ++ E) D (x : Rat) = true := clearsF_iff.2 (by
      rw [(want_append true (x : Rat) S E).1, (want_append true (x : Rat) S E).2]
      constructor <;> omega)
    have h1 := x2 _ hy
    have h2 := y2 _ hx
    rw [← absQ_int, ← absQ_int, icast_le] at h1 h2
    have h3 : (x : Rat) ≤ 0 := by exact_mod_cast (by omega : x ≤ 0)
    have h4 : (0 : Rat) ≤ (y : Rat) := by exact_mod_cast (by omega : 0 ≤ y)
    have h5 := x2 0 (clears_between hS hD h3 h4 x1 hy)
    have : max (0 : Rat) (-0) = ((0 : Int) : Rat) := by show max (0 : Rat) (-0) = 0; grind
    rw [← absQ_int, this, icast_le] at h5
    omega
  · exact hle
theorem flat_snoc (L : List Crv) (c : Crv) : (L ++ [c]).flatten = L.flatten ++ c := by simp
theorem costC_zero : ∀ (c : List (Int × Int)), (∀ s ∈ c, 0 ≤ s.1) → costC c 0 = 0
  | [], _ => rfl
  | s :: r, h => by
    have h0 : (0 : Rat) ≤ (s.1 : Rat) := by exact_mod_cast h s (by simp)
    have hm := minQ_cases 0 (s.1 : Rat)
    have e : minQ 0 (s.1 : Rat) = 0 := by grind
    rw [costC_cons, e, show (0 : Rat) - 0 = 0 by grind, costC_zero r (fun t ht => h t (List.mem_cons_of_mem _ ht))]
    grind
theorem costs_snoc (c : Crv) (x : Rat) : ∀ {L : List Crv} {y : List Rat}, y.length = L.length → costs (L ++ [c]) (y ++ [x]) = costs L y + costC c x
  | [], [], _ => by show costC c x + 0 = 0 + costC c x; grind
  | [], _ :: _, h => by simp at h
  | _ :: _, [], h => by simp at h
  | d :: L, z :: y, h => by
    rw [List.cons_append, List.cons_append, costs_cons, costs_cons, costs_snoc c x (by simpa using h)]; grind
theorem div_snoc {L : List Crv} {y : List Rat} {c : Crv} (h : Div L y) (hc : ∀ s ∈ c, 0 ≤ s.1) : Div (L ++ [c]) (y ++ [0]) := by
  obtain ⟨h1, h2⟩ := h
  refine ⟨by simp [h1], fun i a b => ?_⟩
  by_cases hi : i < L.length
  · rw [List.getElem_append_left hi, List.getElem_append_left (by omega)]
    exact h2 i hi (by omega)
  · have hi' : i = L.length := by simp at a; omega
    subst hi'
    rw [List.getElem_append_right (Nat.le_refl _), List.getElem_append_right (by omega)]
    simp only [Nat.sub_self, List.getElem_cons_zero, h1]
    exact ⟨Rat.le_refl, totC_nn hc⟩
theorem rsum_snoc (x : Rat) : ∀ (y : List Rat), (y ++ [x]).sum = y.sum + x
  | [] => by show x + 0 = 0 + x; grind
  | a :: y => by rw [List.cons_append, List.sum_cons, rsum_snoc x y, List.sum_cons]; grind
/-- One bid more. -/
theorem mono_bid {O B : List Crv} {c : Crv} (hO : Valid true O) (hB : Valid false (B ++ [c])) (hB' : Valid false B) : priceP O B ≤ priceP O (B ++ [c]) ∧ welP O B ≤ welP O (B ++ [c]) := by
  have hc : ∀ s ∈ c, 0 ≤ s.1 := fun s hs => Int.le_of_lt (crv_pos hB c (by simp) s hs)
  constructor
  · unfold priceP
    rw [flat_snoc]
    exact near_bid (flat_nn hO) (flat_nn hB') hc
  · have so := offers_side hO hB'
    have sb := bids_side hO hB'
    have h1 := trade_le hO hB (own_div hO so) (div_snoc (own_div hB' sb) hc) (by rw [rsum_snoc, castL_sum, castL_sum, so.sum, sb.sum]; grind)
    rw [costs_snoc c 0 (own_div hB' sb).1, costC_zero c hc] at h1
    have h2 := own_wel hO hB'
    have h3 : ((welP O B : Int) : Rat) ≤ ((welP O (B ++ [c]) : Int) : Rat) := by grind
    exact icast_le.1 h3
theorem mono_offer {O B : List Crv} {c : Crv} (hO : Valid true (O ++ [c])) (hO' : Valid true O) (hB : Valid false B) : priceP (O ++ [c]) B ≤ priceP O B ∧ welP O B ≤ welP (O ++ [c]) B := by
  have hc : ∀ s ∈ c, 0 ≤ s.1 := fun s hs => Int.le_of_lt (crv_pos hO c (by simp) s hs)
  constructor
  · unfold priceP
    rw [flat_snoc]
    exact near_offer (flat_nn hO') (flat_nn hB) hc
  · have so := offers_side hO' hB
    have sb := bids_side hO' hB
    have h1 := trade_le hO hB (div_snoc (own_div hO' so) hc) (own_div hB sb) (by rw [rsum_snoc, castL_sum, castL_sum, so.sum, sb.sum]; grind)
    rw [costs_snoc c 0 (own_div hO' so).1, costC_zero c hc] at h1
    have h2 := own_wel hO' hB
    have h3 : ((welP O B : Int) : Rat) ≤ ((welP (O ++ [c]) B : Int) : Rat) := by grind
    exact icast_le.1 h3

/-! ### Rotations -/
theorem want_perm {L M : List Crv} (h : L.Perm M) (up : Bool) (l : Rat) : leastI up l L.flatten = leastI up l M.flatten ∧ mostI up l L.flatten = mostI up l M.flatten := by
  rw [(wantI_flat up l L).1, (wantI_flat up l L).2, (wantI_flat up l M).1, (wantI_flat up l M).2]
  exact ⟨perm_sum (h.map _), perm_sum (h.map _)⟩
theorem rsum_perm {l k : List Rat} (h : l.Perm k) : l.sum = k.sum := by
  induction h with
  | nil => rfl
  | cons x _ ih => simp [ih]
  | swap x y l => simp only [List.sum_cons]; grind
  | trans _ _ h1 h2 => exact h1.trans h2
theorem perm_law {O O' B B' : List Crv} (hO : Valid true O) (hO' : Valid true O') (hB : Valid false B) (hB' : Valid false B') (p : O.Perm O') (q : B.Perm B') :
    priceP O B = priceP O' B' ∧ volP O B = volP O' B' ∧ welP O B = welP O' B' := by
  have hcl : ∀ l : Rat, clearsF O'.flatten B'.flatten l = clearsF O.flatten B.flatten l := fun l => by
    unfold clearsF
    rw [(want_perm p true l).1, (want_perm p true l).2, (want_perm q false l).1, (want_perm q false l).2]
  obtain ⟨a, b⟩ := near_spec (flat_nn hO) (flat_nn hB)
  have h1 : priceP O B = priceP O' B' := near_one (flat_nn hO') (flat_nn hB') (by rw [hcl]; exact a) (fun l hl => b l (by rw [← hcl]; exact hl))
  refine ⟨h1, ?_, ?_⟩
  · unfold volP
    rw [h1, (want_perm p true _).1, (want_perm q false _).1]
  · have h2 := wel_eq hO hB
    have h3 := wel_eq hO' hB'
    rw [h1, rsum_perm (p.map (vC true (priceP O' B' : Rat))), rsum_perm (q.map (vC false (priceP O' B' : Rat))), ← h3] at h2
    exact cast_inj h2

/-! ### The mirror -/
theorem turn_flat : ∀ (L : List Crv), (L.map turnF).flatten = turnF L.flatten
  | [] => rfl
  | c :: L => by
    rw [List.map_cons, List.flatten_cons, turn_flat L, List.flatten_cons]
    simp [turnF]
theorem scan_turn (up : Bool) : ∀ (c : Crv) (pr : Option Int), scanE (afterOf (!up)) (pr.map (fun x => -x)) (turnF c) = scanE (afterOf up) pr c
  | [], pr => by cases pr <;> rfl
  | s :: c, pr => by
    show scanE (afterOf (!up)) (pr.map (fun x => -x)) ((s.1, -s.2) :: turnF c) = _
    rw [scanE_cons, scanE_cons]
    have e1 : (s.1 < 1 ∨ 1000000 < s.1 ∨ -s.2 < -1000000 ∨ 1000000 < -s.2) ↔ (s.1 < 1 ∨ 1000000 < s.1 ∨ s.2 < -1000000 ∨ 1000000 < s.2) := by omega
    have e2 : notAfter (afterOf (!up)) (pr.map (fun x => -x)) (-s.2) = notAfter (afterOf up) pr s.2 := by
      cases pr with
      | none => rfl
      | some a => cases up <;> simp [notAfter, afterOf, upA, downA] <;> omega
    have e3 := scan_turn up c (some s.2)
    simp only [Option.map_some] at e3
    simp only [e1, e2, e3]
theorem curve_turn (up : Bool) (c : Crv) : curveE (afterOf (!up)) (turnF c) = curveE (afterOf up) c := by
  unfold curveE
  have e := scan_turn up c none
  rw [Option.map_none] at e
  rw [e]
  simp [turnF]
theorem valid_turn {up : Bool} {L : List Crv} : Valid (!up) (L.map turnF) ↔ Valid up L := by
  unfold Valid
  rw [List.length_map]
  constructor
  · rintro ⟨a, b⟩
    exact ⟨a, fun c hc => by rw [← curve_turn]; exact b _ (List.mem_map.2 ⟨c, hc, rfl⟩)⟩
  · rintro ⟨a, b⟩
    refine ⟨a, fun c hc => ?_⟩
    obtain ⟨d, hd, rfl⟩ := List.mem_map.1 hc
    rw [curve_turn]; exact b d hd
theorem want_turnC (up : Bool) (l : Rat) (c : Crv) : leastC up l (turnF c) = leastC (!up) (-l) c ∧ mostC up l (turnF c) = mostC (!up) (-l) c := by
  rw [← leastI_cast, ← mostI_cast, ← leastI_cast, ← mostI_cast, (want_turn up l c).1, (want_turn up l c).2]
  exact ⟨rfl, rfl⟩
theorem v_turn (up : Bool) (l : Rat) : ∀ (c : Crv), vC up l (turnF c) = vC (!up) (-l) c
  | [] => rfl
  | s :: c => by
    show vC up l ((s.1, -s.2) :: turnF c) = _
    rw [vC_cons, vC_cons, v_turn up l c]
    have e : ((-s.2 : Int) : Rat) = -(s.2 : Rat) := Rat.intCast_neg _
    have e2 : sg up * (l - ((-s.2 : Int) : Rat)) = sg (!up) * (-l - (s.2 : Rat)) := by
      rw [e]; cases up <;> simp [sgt, sgf] <;> grind
    simp only [e2]
theorem TG.uniq {l x y h : List Rat} (hx : TG l x h) (hy : TG l y h) (hs : x.sum = y.sum) : x = y := by
  have lx := hx.len
  have ly := hy.len
  have bx : ∀ (i : Nat) (h1 : i < l.length) (h2 : i < x.length) (h3 : i < h.length), l[i] ≤ x[i] ∧ x[i] ≤ h[i] := fun i a b c => hx.get i a b c
  have bY : ∀ (i : Nat) (h1 : i < l.length) (h2 : i < y.length) (h3 : i < h.length), l[i] ≤ y[i] ∧ y[i] ≤ h[i] := fun i a b c => hy.get i a b c
  have key : ∀ (i : Nat) (h1 : i < x.length) (h2 : i < y.length), x[i] = y[i] := by
    intro i
    induction i using Nat.strongRecOn with
    | ind i ih =>
      intro h1 h2
      rcases tri x[i] y[i] with hlt | heq | hgt
      · have := hy.lex (by omega) hs.symm bx i h2 h1 (fun j hj => (ih j hj (by omega) (by omega)).symm) (by grind)
        grind
      · exact heq
      · have := hx.lex (by omega) hs bY i h1 h2 (fun j hj => ih j hj (by omega) (by omega)) (by grind)
        grind
  exact List.ext_getElem (by omega) key
theorem castL_inj : ∀ {a b : List Int}, castL a = castL b → a = b
  | [], [], _ => rfl
  | [], _ :: _, h => by simp [castL] at h
  | _ :: _, [], h => by simp [castL] at h
  | x :: a, y :: b, h => by
    rw [castL_cons, castL_cons] at h
    injection h with h1 h2
    rw [cast_inj h1, castL_inj h2]
theorem dual_law {O B : List Crv} (hO : Valid true O) (hB : Valid false B) :
    priceP (B.map turnF) (O.map turnF) = -priceP O B ∧ volP (B.map turnF) (O.map turnF) = volP O B ∧ welP (B.map turnF) (O.map turnF) = welP O B ∧
      shareXI true (B.map turnF) (volP O B) = shareXI false B (volP O B) ∧ shareXI false (O.map turnF) (volP O B) = shareXI true O (volP O B) := by
  have hB' : Valid true (B.map turnF) := (valid_turn (up := false)).2 hB
  have hO' : Valid false (O.map turnF) := (valid_turn (up := true)).2 hO
  obtain ⟨a, b⟩ := near_spec (flat_nn hO) (flat_nn hB)
  have nn : ∀ x : Rat, -(-x) = x := fun x => by grind
  have h1 : -priceP O B = priceP (B.map turnF) (O.map turnF) := by
    refine near_one (flat_nn hB') (flat_nn hO') ?_ (fun l hl => ?_)
    · rw [turn_flat, turn_flat, clears_turn, Rat.intCast_neg, nn]; exact a
    · rw [turn_flat, turn_flat, clears_turn] at hl
      have := b _ hl
      rw [Rat.intCast_neg, nn]
      unfold priceP
      grind
  have hv : volP (B.map turnF) (O.map turnF) = volP O B := by
    unfold volP
    rw [← h1, turn_flat, turn_flat, Rat.intCast_neg, (want_turn true _ _).1, (want_turn false _ _).1, nn]
    show max (leastI false _ _) (leastI true _ _) = _
    omega
  have hw : welP (B.map turnF) (O.map turnF) = welP O B := by
    have h2 := wel_eq hB' hO'
    have h3 := wel_eq hO hB
    rw [← h1, Rat.intCast_neg, List.map_map, List.map_map] at h2
    have e1 : (vC true (-(priceP O B : Rat)) ∘ turnF) = vC false (priceP O B : Rat) := by
      funext c; show vC true _ (turnF c) = _; rw [v_turn, nn]; rfl
    have e2 : (vC false (-(priceP O B : Rat)) ∘ turnF) = vC true (priceP O B : Rat) := by
      funext c; show vC false _ (turnF c) = _; rw [v_turn, nn]; rfl
    rw [e1, e2] at h2
    refine cast_inj ?_
    rw [h2, h3]; grind
  have so := offers_side hO hB
  have sb := bids_side hO hB
  have so' := offers_side hB' hO'
  have sb' := bids_side hB' hO'
  rw [hv, ← h1] at so' sb'
  refine ⟨h1.symm, hv, hw, ?_, ?_⟩
  · have t1 := so'.tg
    rw [Rat.intCast_neg, List.map_map, List.map_map] at t1
    have e1 : (leastC true (-(priceP O B : Rat)) ∘ turnF) = leastC false (priceP O B : Rat) := by
      funext c; show leastC true _ (turnF c) = _; rw [(want_turnC true _ c).1, nn]; rfl
    have e2 : (mostC true (-(priceP O B : Rat)) ∘ turnF) = mostC false (priceP O B : Rat) := by
      funext c; show mostC true _ (turnF c) = _; rw [(want_turnC true _ c).2, nn]; rfl
    rw [e1, e2] at t1
    exact castL_inj (t1.uniq sb.tg (by rw [castL_sum, castL_sum, so'.sum, sb.sum]))
  · have t1 := sb'.tg
    rw [Rat.intCast_neg, List.map_map, List.map_map] at t1
    have e1 : (leastC false (-(priceP O B : Rat)) ∘ turnF) = leastC true (priceP O B : Rat) := by
      funext c; show leastC false _ (turnF c) = _; rw [(want_turnC false _ c).1, nn]; rfl
    have e2 : (mostC false (-(priceP O B : Rat)) ∘ turnF) = mostC true (priceP O B : Rat) := by
      funext c; show mostC false _ (turnF c) = _; rw [(want_turnC false _ c).2, nn]; rfl
    rw [e1, e2] at t1
    exact castL_inj (t1.uniq so.tg (by rw [castL_sum, castL_sum, sb'.sum, so.sum]))
#print axioms dual_law
#print axioms perm_law
#print axioms mono_offer
end Go.Proofs.YtlaemhigmgmgjaaGreat
/- whole: Int64: what it returns. No condition beyond sizes. -/
namespace Go.Proofs.YtlaemhigmgmgjaaGreat
set_option linter.unusedVariables false
set_option linter.unusedSimpArgs false
open Go.RowKit Go.Shelf
attribute [local go_sem] Oper.semAt_some

theorem wf_nil0 : WF [] := fun _ h => absurd h (by simp)
def i64step (u : Nat) (p : W2) : Nat := u / 4294967296 + p.1.1 * 4294967296
theorem i64step_lt {u : Nat} (h : u < 18446744073709551616) (p : W2) : i64step u p < 18446744073709551616 := by
  unfold i64step
  have := p.2.1
  omega
theorem i64fold_lt (pre : List W2) : ∀ (u : Nat), u < 18446744073709551616 → pre.foldl i64step u < 18446744073709551616 := by
  induction pre with
  | nil => intro u h; exact h
  | cons p r ih => intro u h; rw [List.foldl_cons]; exact ih _ (i64step_lt h p)
def i64end (d : List Nat) (u : Nat) : Nat := if d.length = 1 then u / 4294967296 else u
theorem i64_one (p : W2) : i64step 0 p / 4294967296 = p.1.1 := by unfold i64step; omega
theorem i64_two (p q : W2) : i64step (i64step 0 p) q = p.1.1 + 4294967296 * q.1.1 := by unfold i64step; omega
theorem i64_end {d : List Nat} (hd : WF d) (hb : WF []) (hl : d.length ≤ 2) : i64end d ((upto (pz hd hb) (max d.length ([] : List Nat).length)).foldl i64step 0) = nv d := by
  match d, hd, hl with
  | [], _, _ => rfl
  | [x], hd, _ =>
    have e : upto (pz hd hb) (max [x].length ([] : List Nat).length) = [pz hd hb 0] := rfl
    rw [e, List.foldl_cons, List.foldl_nil]
    unfold i64end
    rw [if_pos (by rfl), i64_one]
    have e2 : (pz hd hb 0).1.1 = x := rfl
    rw [e2]
    simp [nv]
  | [x, y], hd, _ =>
    have e : upto (pz hd hb) (max [x, y].length ([] : List Nat).length) = [pz hd hb 0, pz hd hb 1] := rfl
    rw [e, List.foldl_cons, List.foldl_cons, List.foldl_nil]
    unfold i64end
    rw [if_neg (by simp), i64_two, nv_two]
    have e2 : (pz hd hb 0).1.1 = x := rfl
    have e3 : (pz hd hb 1).1.1 = y := rfl
    rw [e2, e3]
set_option maxRecDepth 100000 in
set_option maxHeartbeats 2000000 in
theorem int64_in (ok : Nat → Option Obj → Prop) (neg : Bool) (Aa : Option Addr) (na ca : Nat) (l : List Nat) (w : World) (ra : Row Kd.u32 ok w (.slice Aa na ca) l) (hz : nv l < 9223372036854775808) :
    CallsIn Fence.wide 3 Tryz.prog 44 #[.agg #[.bool neg, .slice Aa na ca]] w fun e w' => e = .returned (.tuple #[.int .i64 (zv neg l), .bool true]) ∧ Below w.heap.size w w' := by
  obtain rfl := ra.len
  obtain ⟨d, hd⟩ : ∃ d, d = tr l := ⟨_, rfl⟩
  have hdd : d = dig (nv l) := by rw [hd, tr_eq_dig ra.wf]
  have hdl : d.length ≤ 2 := by rw [hdd]; exact dig_length_le (by omega)
  have hnd : nv d = nv l := by rw [hdd, nv_dig]
  have rd : Row Kd.u32 ok w (.slice Aa d.length ca) d := by rw [hd]; exact ra.trim
  have htr := Lib.hid (fun (w' : World) (h : Row Kd.u32 ok w' (.slice Aa l.length ca) l) => trim_calls ok Aa l.length ca l w' h)
  rw [← hd] at htr
  have HND := Lib.hid hnd
  have hdl' : ¬ (2 : Int) < (d.length : Int) := by omega
  have HRA := Lib.hid ra
  have HZ := Lib.hid hz
  have HDL := Lib.hid hdl
  clear hd hdd hnd ra hz hdl
  refine callsIn_of_wp_marks Tryz.func44 rfl trivial ?_ rfl
  simp only [Tryz.ntmps44, List.size_toArray, List.length_cons, List.length_nil, Nat.reduceAdd, Nat.reduceSub, Array.replicate_succ, Array.replicate_zero, List.push_toArray, List.append_toArray, List.nil_append, List.cons_append]
  gi_wp2_with fail
  refine ⟨trivial, (callsIn_wide.2 (htr.out _ (HRA.out.below (below_alloc _ _)))).mono ?_⟩
  rintro e w1 ⟨rfl, rfl⟩
  dsimp only
  gi_wp2_with fail
  refine ⟨trivial, (callsIn_wide.2 (pairs_calls _ _ _ _ _ _ _)).mono ?_⟩
  rintro e w2 ⟨rfl, rfl⟩
  dsimp only
  gi_wp2_with fail
  simp only [World.size_alloc]
  obtain ⟨W, hW, gb, g0, g1, g2, hB, hs⟩ := four_boxes w (.cells #[.bool neg, .slice Aa l.length ca] 42) (.cells #[.int .u64 0] 107) (.cells #[.slice Aa d.length ca] 40) (.cells #[.slice none 0 0] 40)
  rw [hW]
  obtain ⟨S, hSd⟩ : ∃ S : Nat → Prop, S = fun k => k < w.heap.size ∨ k = w.heap.size + 1 + 1 ∨ k = w.heap.size + 1 + 1 + 1 := ⟨_, rfl⟩
  have hS1 : S (w.heap.size + 1 + 1) := by rw [hSd]; exact .inr (.inl rfl)
  have hS2 : S (w.heap.size + 1 + 1 + 1) := by rw [hSd]; exact .inr (.inr rfl)
  have hSW : ∀ k, S k → k < W.heap.size := fun k hk => by rw [hSd] at hk; rcases hk with hk | hk | hk <;> omega
  have hSo : ∀ k, k < w.heap.size → S k := fun k hk => by rw [hSd]; exact .inl hk
  have hrow : ∀ {A n c l}, Row Kd.u32 ok w (.slice A n c) l → Row Kd.u32 (fun k _ => S k) W (.slice A n c) l := fun h => (h.live.mono (fun _ _ hk => hk.2.1)).keep (w' := W) (fun k hk => hB.block k hk) |>.mono (fun _ _ hk => hSo _ hk)
  have HS := Lib.hid hs
  have HSD := Lib.hid hSd
  clear hW hs hSd hSo
  refine wpIn_rangeFunc_ownG (a := _) rfl (by decide) (gf := 90) (lb := #[.pointer (some ⟨w.heap.size + 1 + 1, 0, none⟩), .pointer (some ⟨w.heap.size + 1 + 1 + 1, 0, none⟩)]) rfl trivial (enters_of Tryz.func90 (by kernel_rfl) rfl)
    (pairs_stops 2 (by decide) S (w.heap.size + 1 + 1) (w.heap.size + 1 + 1 + 1) _ ca _ 0 Aa none d [] rd.wf wf_nil0 W hS1 hS2 hSW (hcell g1 0 rfl) (hcell g2 0 rfl) (hrow rd) (Row.nil 0 none (fun _ => rfl))) (fun h k => h.trans k) (same_b hSW) (Below.refl _ _) (fun _ => rfl)
    (fun pre V => (V.heap[w.heap.size]? = some (.cells #[.bool neg, .slice Aa l.length ca] 42 (0, 0)) ∧ V.heap[w.heap.size + 1]? = some (.cells #[.int .u64 ((pre.foldl i64step 0 : Nat) : Int)] 107 (0, 0)) ∧ V.heap[w.heap.size + 1 + 1]? = some (.cells #[.slice Aa d.length ca] 40 (0, 0)) ∧ V.heap[w.heap.size + 1 + 1 + 1]? = some (.cells #[.slice none 0 0] 40 (0, 0))) ∧ Below w.heap.size w V)
    (fun _ _ _ => False) ?hI (fun _ _ _ _ _ hs _ _ => hs) ⟨⟨gb, g0, g1, g2⟩, hB⟩
    (fun x => { tmps := #[.agg #[.bool neg, .slice Aa l.length ca], .pointer (some ⟨w.heap.size, 0, none⟩), .int .i64 0, .bool false, .slice Aa d.length ca, .pointer (some ⟨w.heap.size + 1, 0, none⟩), .int .u64 (x.1.1 : Int), undef, .pointer (some ⟨w.heap.size, 1, none⟩), .slice Aa l.length ca, .slice Aa d.length ca, .slice Aa d.length ca, .int .i64 d.length, .bool (decide ((2 : Int) < (d.length : Int))), .slice Aa d.length ca, .func (.func 90) #[] #[.pointer (some ⟨w.heap.size + 1 + 1, 0, none⟩), .pointer (some ⟨w.heap.size + 1 + 1 + 1, 0, none⟩)], .int .u64 (x.1.1 : Int), .int .u64 (x.1.2 : Int), undef, undef, undef, undef, undef, undef, undef, undef, undef, undef, undef, undef, undef, undef, undef, undef, undef, undef, undef, undef, undef, undef, undef, undef, undef, undef, undef, undef], defers := [] }) ?assign ?body ?done ?stop
  case hI =>
    refine OwnFrom.and (fun s V V' row hs hg hr => ?_) (ownFrom_below (Nat.le_refl _) hB.size)
    obtain ⟨h1, h2, h3, h4⟩ := hs
    have hr' := fun r e => (hr r e).2
    exact ⟨cells_kept h1 hg hr', cells_kept h2 hg hr', cells_kept h3 hg hr', cells_kept h4 hg hr'⟩
  case assign =>
    intro l x W K hK
    gi_wp2
    exact hK
  case body =>
    rintro lb pre x V ⟨⟨eb, e0, e1, e2⟩, hBV⟩ _
    have hx1 := x.2.1
    have hlt := i64fold_lt pre 0 (by decide)
    have fin : ∀ (u : Int), u = (i64step (pre.foldl i64step 0) x : Nat) → ownPostG W.heap.size (Same S)
        (fun pre V => (V.heap[w.heap.size]? = some (.cells #[.bool neg, .slice Aa l.length ca] 42 (0, 0)) ∧ V.heap[w.heap.size + 1]? = some (.cells #[.int .u64 ((pre.foldl i64step 0 : Nat) : Int)] 107 (0, 0)) ∧ V.heap[w.heap.size + 1 + 1]? = some (.cells #[.slice Aa d.length ca] 40 (0, 0)) ∧ V.heap[w.heap.size + 1 + 1 + 1]? = some (.cells #[.slice none 0 0] 40 (0, 0))) ∧ Below w.heap.size w V)
        (fun _ _ _ => False) (pre ++ [x]) V .normal { tmps := #[], defers := [] } (V.setCell ⟨w.heap.size + 1, 0, none⟩ (.int .u64 u)) := by
      intro u hu
      refine ⟨(KeepsOthers.setCell _ _ _).from _, fun k hk => Below.heap_setCell _ _ _ _ ?_, ⟨set_far eb (by show _ ≠ w.heap.size + 1; omega), ?_, set_far e1 (by show _ ≠ w.heap.size + 1; omega), set_far e2 (by show _ ≠ w.heap.size + 1; omega)⟩, hBV.setCell (p := ⟨w.heap.size + 1, 0, none⟩) (Nat.le_succ _) _⟩
      · rw [HSD.out] at hk
        show k ≠ w.heap.size + 1
        rcases hk with hk | hk | hk <;> omega
      · rw [List.foldl_append, List.foldl_cons, List.foldl_nil, ← hu]
        exact set_same e0
    have c0 : V.cell? ⟨w.heap.size + 1, 0, none⟩ = some (.int .u64 ((pre.foldl i64step 0 : Nat) : Int)) := hcell e0 0 rfl
    have f0 := hfree e0 0
    have FIN := Lib.hid fin
    obtain ⟨u, hu⟩ : ∃ u, u = pre.foldl i64step 0 := ⟨_, rfl⟩
    rw [← hu] at c0 hlt
    have HU : Hid ((i64step (pre.foldl i64step 0) x : Nat) = u / 4294967296 + x.1.1 * 4294967296) := Lib.hid (by rw [← hu]; rfl)
    clear fin e0 e1 e2 eb hBV gb g0 g1 g2 hrow hSW hu
    gi_wp2
    exact FIN.out _ (by have h := HU.out; omega)
  case done =>
    rintro D ys V hD rfl ⟨⟨eb, e0, e1, e2⟩, hBV⟩ hK
    have hc := i64_end rd.wf wf_nil0 HDL.out
    have hrlt := i64fold_lt (upto (pz rd.wf wf_nil0) (max d.length ([] : List Nat).length)) 0 (by decide)
    obtain ⟨r, hr⟩ : ∃ r, r = (upto (pz rd.wf wf_nil0) (max d.length ([] : List Nat).length)).foldl i64step 0 := ⟨_, rfl⟩
    rw [← hr] at hc hrlt e0
    rw [HND.out] at hc
    obtain ⟨m, hmd⟩ : ∃ m, m = nv l := ⟨_, rfl⟩
    rw [← hmd] at hc
    have hm : m < 9223372036854775808 := hmd ▸ HZ.out
    have HZV : Hid (zv neg l = if neg then -(m : Int) else m) := Lib.hid (by rw [hmd]; rfl)
    have c0 : V.cell? ⟨w.heap.size + 1, 0, none⟩ = some (.int .u64 (r : Int)) := hcell e0 0 rfl
    have cb : V.cell? ⟨w.heap.size, 0, none⟩ = some (.bool neg) := hcell eb 0 rfl
    have f0 := hfree e0 0
    have HBV := Lib.hid hBV
    have HK := Lib.hid hK
    have HDD := Lib.hid hD
    have hm0 : (0 : Int) ≤ (m : Int) := by omega
    have hm1 : (m : Int) ≤ 9223372036854775807 := by omega
    have hm2 : (m : Int) ≤ 9223372036854775808 := by omega
    have hw1 : IntKind.i64.wrap (m : Int) = (m : Int) := IntWalk.i64_in _ ⟨by omega, by omega⟩
    have hw2 : IntKind.i64.wrap (-(m : Int)) = -(m : Int) := IntWalk.i64_in _ ⟨by omega, by omega⟩
    clear eb e0 e1 e2 hBV hK hD g0 g1 g2 gb hrow hSW hB hr hmd
    by_cases h1 : d.length = 1
    · unfold i64end at hc
      rw [if_pos h1] at hc
      have hd1 : ((d.length : Int) == 1) = true := by rw [h1]; rfl
      have hq : (r : Int) / 4294967296 = (m : Int) := by omega
      clear h1 hc
      cases neg
      · gi_wp2
        have hD1 : w.heap.size ≤ D := by have := HDD.out; have := HS.out; omega
        have hK2 := set_far (a := ⟨w.heap.size + 1, 0, none⟩) (v := .int .u64 (m : Int)) HK.out (by have := HDD.out; have := HS.out; show _ ≠ w.heap.size + 1; omega)
        refine ⟨by simp, .inl ⟨_, _, rfl, run_takeDeferred hK2, ?_⟩⟩
        refine ⟨_, results_tmp2 rfl _ _ _, by rw [HZV.out]; rfl, (HBV.out.setCell (p := ⟨w.heap.size + 1, 0, none⟩) (Nat.le_succ _) _).trans (belowK_b (w := w) (Nat.le_refl _) _ D _ _ hD1 hK2 rfl rfl)⟩
      · gi_wp2
        have hD1 : w.heap.size ≤ D := by have := HDD.out; have := HS.out; omega
        have hK2 := set_far (a := ⟨w.heap.size + 1, 0, none⟩) (v := .int .u64 (m : Int)) HK.out (by have := HDD.out; have := HS.out; show _ ≠ w.heap.size + 1; omega)
        refine ⟨by simp, .inl ⟨_, _, rfl, run_takeDeferred hK2, ?_⟩⟩
        refine ⟨_, results_tmp2 rfl _ _ _, by rw [HZV.out]; rfl, (HBV.out.setCell (p := ⟨w.heap.size + 1, 0, none⟩) (Nat.le_succ _) _).trans (belowK_b (w := w) (Nat.le_refl _) _ D _ _ hD1 hK2 rfl rfl)⟩
    · unfold i64end at hc
      rw [if_neg h1] at hc
      have hd1 : ((d.length : Int) == 1) = false := by rw [beq_eq_false_iff_ne]; omega
      clear h1
      subst hc
      cases neg
      · gi_wp2
        refine ⟨by simp, .inl ⟨_, _, rfl, run_takeDeferred HK.out, ?_⟩⟩
        have hD1 : w.heap.size ≤ D := by have := HDD.out; have := HS.out; omega
        refine ⟨_, results_tmp2 rfl _ _ _, by rw [HZV.out]; rfl, HBV.out.trans (belowK_b (w := w) (Nat.le_refl _) V D _ _ hD1 HK.out rfl rfl)⟩
      · gi_wp2
        refine ⟨by simp, .inl ⟨_, _, rfl, run_takeDeferred HK.out, ?_⟩⟩
        have hD1 : w.heap.size ≤ D := by have := HDD.out; have := HS.out; omega
        refine ⟨_, results_tmp2 rfl _ _ _, by rw [HZV.out]; rfl, HBV.out.trans (belowK_b (w := w) (Nat.le_refl _) V D _ _ hD1 HK.out rfl rfl)⟩
  case stop =>
    rintro D c pre W _ _ h _
    exact h.elim
theorem int64_calls (ok : Nat → Option Obj → Prop) (neg : Bool) (Aa : Option Addr) (na ca : Nat) (l : List Nat) (w : World) (ra : Row Kd.u32 ok w (.slice Aa na ca) l) (hz : nv l < 9223372036854775808) :
    Calls Tryz.prog 44 #[.agg #[.bool neg, .slice Aa na ca]] w fun e w' => Below w.heap.size w w' ∧ e = .returned (.tuple #[.int .i64 (zv neg l), .bool true]) :=
  (callsIn_wide.1 (int64_in ok neg Aa na ca l w ra hz)).mono fun _ _ h => ⟨h.2, h.1⟩
#print axioms int64_calls
end Go.Proofs.YtlaemhigmgmgjaaGreat
/- clear: wrong, meet, sum, clears: what they return. No condition beyond sizes. -/
namespace Go.Proofs.YtlaemhigmgmgjaaGreat
set_option linter.unusedVariables false
set_option linter.unusedSimpArgs false
open Go.RowKit

def badE (up : Bool) (L : List Crv) : Int := match badAt up L with | some x => x.2 | none => 0
def wrongM (O B : List Crv) : Int := if 5 < O.length ∨ 6 < B.length then 5 else if badE true O ≠ 0 then badE true O else badE false B
theorem badE_zero {up : Bool} {L : List Crv} : badE up L = 0 ↔ ∀ c ∈ L, curveE (afterOf up) c = 0 := by
  unfold badE
  cases h : badAt up L with
  | none => simp only [true_iff]; exact badAt_none.1 h
  | some x =>
    have h1 : x.2 ≠ 0 := badAt_nz (i := x.1) (e := x.2) h
    constructor
    · intro h2; exact absurd h2 h1
    · intro h2; rw [badAt_none.2 h2] at h; cases h
theorem wrongM_ok {O B : List Crv} : wrongM O B = 0 ↔ O.length ≤ 5 ∧ B.length ≤ 6 ∧ Valid true O ∧ Valid false B := by
  unfold wrongM
  by_cases h : 5 < O.length ∨ 6 < B.length
  · rw [if_pos h]
    constructor
    · intro h1; omega
    · rintro ⟨a, b, _⟩; omega
  · rw [if_neg h]
    by_cases h1 : badE true O = 0
    · rw [if_neg (by simpa using h1), badE_zero]
      rw [badE_zero] at h1
      constructor
      · intro h2; exact ⟨by omega, by omega, ⟨by omega, h1⟩, ⟨by omega, h2⟩⟩
      · rintro ⟨_, _, _, _, h2⟩; exact h2
    · rw [if_pos h1]
      constructor
      · intro h2; exact absurd h2 h1
      · rintro ⟨_, _, ⟨_, h2⟩, _⟩; exact absurd (badE_zero.2 h2) h1

set_option maxRecDepth 100000 in
set_option maxHeartbeats 2000000 in
theorem cwrong_calls (ok : Nat → Option Obj → Prop) (A : Option Addr) (n c : Nat) (O : List Crv) (A2 : Option Addr) (n2 c2 : Nat) (B : List Crv) (w : World) (h : Row Kd.curve ok w (.slice A n c) O) (h2 : Row Kd.curve ok w (.slice A2 n2 c2) B) :
    Calls Tryz.prog 36 #[.slice A n c, .slice A2 n2 c2] w fun e w' => Below w.heap.size w w' ∧ e = .returned (.int .i64 (wrongM O B)) := by
  obtain rfl := h.len
  obtain rfl := h2.len
  have hm := h.small
  have hm2 := h2.small
  have HR := Lib.hid h
  have HR2 := Lib.hid h2
  clear h h2
  go_enter Tryz.func36, Tryz.ntmps36
  by_cases hO : 5 < O.length
  · have HE : Hid (wrongM O B = 5) := Lib.hid (by unfold wrongM; rw [if_pos (.inl hO)])
    have hO' : (5 : Int) < (O.length : Int) := by omega
    clear hO
    go_wp2
    go_ret
    exact ⟨Below.refl _ _, by rw [HE.out]; rfl⟩
  by_cases hB : 6 < B.length
  · have HE : Hid (wrongM O B = 5) := Lib.hid (by unfold wrongM; rw [if_pos (.inr hB)])
    have hO' : (O.length : Int) ≤ 5 := by omega
    have hB' : (6 : Int) < (B.length : Int) := by omega
    clear hO hB
    go_wp2
    go_ret
    exact ⟨Below.refl _ _, by rw [HE.out]; rfl⟩
  have HE : Hid (wrongM O B = if badE true O ≠ 0 then badE true O else badE false B) := Lib.hid (by unfold wrongM; rw [if_neg (by omega)])
  have hO' : (O.length : Int) ≤ 5 := by omega
  have hB' : (B.length : Int) ≤ 6 := by omega
  clear hO hB
  go_wp2_with fail
  go_loopw [21] (fun i wr => ∃ k : Nat, k ≤ O.length ∧ i = .int .i64 k ∧ Hid (∀ j (hj : j < O.length), j < k → curveE (afterOf true) O[j] = 0) ∧ Hid (Below w.heap.size w wr))
    (fun i _ => O.length - (intOf i).toNat)
  case atStart => exact ⟨0, Nat.zero_le _, rfl, fun j _ h => absurd h (by omega), Below.refl _ _⟩
  case round =>
    obtain ⟨k, hk, rfl, HV, HBW⟩ := hrel
    by_cases hlt : k < O.length
    · obtain ⟨b, off, A', c', rfl, y0, hv⟩ := curve_cell (HR.out.below HBW.out) hlt
      obtain ⟨cv, hcvd⟩ : ∃ cv, cv = O[k] := ⟨_, rfl⟩
      rw [← hcvd] at y0 hv
      have HCV := Lib.hid hcvd
      have HVC := Lib.hid hv
      have hk0 : (0 : Int) ≤ (k : Int) := by omega
      have hk1 : (k : Int) < (O.length : Int) := by omega
      clear hcvd hv
      go_wp2_with fail
      refine (check_up ok _ _ _ cv _ HVC.out).mono ?_
      rintro e w5 ⟨hb5, rfl⟩
      have HB5 := Lib.hid (below_next HBW.out hb5)
      obtain ⟨d, hd⟩ : ∃ d, d = curveE upA cv := ⟨_, rfl⟩
      rw [← hd]
      have HD := Lib.hid hd
      clear hb5 hd y0
      by_cases h0 : d = 0
      · have HV2 : Hid (∀ j (hj : j < O.length), j < k + 1 → curveE (afterOf true) O[j] = 0) := Lib.hid (fun j hj hjk => by
          by_cases he : j = k
          · subst he; show curveE upA O[j] = 0; rw [← HCV.out, ← HD.out]; exact h0
          · exact HV.out j hj (by omega))
        subst h0
        go_wp2
        go_roundw
        case rel => exact ⟨k + 1, hlt, by go_num, HV2.out, HB5.out⟩
        case measure => simp [intOf]; omega
      · have hb : badAt true O = some (k, d) := by
          have h1 := badAt_first (up := true) hlt (fun j hj => HV.out j (by omega) hj) (by show curveE upA O[k] ≠ 0; rw [← HCV.out, ← HD.out]; exact h0)
          rw [h1]
          show some (k, curveE upA O[k]) = _
          rw [← HCV.out, ← HD.out]
        have hbe : badE true O = d := by unfold badE; rw [hb]
        have HEE : Hid (wrongM O B = d) := Lib.hid (by rw [HE.out, hbe, if_pos h0])
        have hd0 : (d == 0) = false := by rw [beq_eq_false_iff_ne]; exact h0
        clear hb hbe h0
        go_wp2
        go_ret
        exact ⟨HB5.out, by rw [HEE.out]; rfl⟩
    · obtain rfl : k = O.length := by omega
      have hO0 : badE true O = 0 := badE_zero.2 (fun c hc => by
        obtain ⟨j, hj, rfl⟩ := List.getElem_of_mem hc
        exact HV.out j hj hj)
      have HE2 : Hid (wrongM O B = badE false B) := Lib.hid (by rw [HE.out, if_neg (by simpa using hO0)])
      have HRB := Lib.hid (HR2.out.below HBW.out)
      obtain ⟨wo, hwo⟩ : ∃ wo : World, wo = wr := ⟨_, rfl⟩
      rw [← hwo] at HRB HBW ⊢
      clear hwo hO0 HV
      go_wp2_with fail
      go_loopw [33] (fun i wr => ∃ k : Nat, k ≤ B.length ∧ i = .int .i64 k ∧ Hid (∀ j (hj : j < B.length), j < k → curveE (afterOf false) B[j] = 0) ∧ Hid (Below wo.heap.size wo wr))
        (fun i _ => B.length - (intOf i).toNat)
      case atStart => exact ⟨0, Nat.zero_le _, rfl, fun j _ h => absurd h (by omega), Below.refl _ _⟩
      case round =>
        obtain ⟨k, hk, rfl, HV, HBX⟩ := hrel
        by_cases hlt : k < B.length
        · obtain ⟨b, off, A', c', rfl, y0, hv⟩ := curve_cell (HRB.out.below HBX.out) hlt
          obtain ⟨cv, hcvd⟩ : ∃ cv, cv = B[k] := ⟨_, rfl⟩
          rw [← hcvd] at y0 hv
          have HCV := Lib.hid hcvd
          have HVC := Lib.hid hv
          have hk0 : (0 : Int) ≤ (k : Int) := by omega
          have hk1 : (k : Int) < (B.length : Int) := by omega
          clear hcvd hv
          go_wp2_with fail
          refine (check_down ok _ _ _ cv _ HVC.out).mono ?_
          rintro e w5 ⟨hb5, rfl⟩
          have HB5 := Lib.hid (below_next HBX.out hb5)
          obtain ⟨d, hd⟩ : ∃ d, d = curveE downA cv := ⟨_, rfl⟩
          rw [← hd]
          have HD := Lib.hid hd
          clear hb5 hd y0
          by_cases h0 : d = 0
          · have HV2 : Hid (∀ j (hj : j < B.length), j < k + 1 → curveE (afterOf false) B[j] = 0) := Lib.hid (fun j hj hjk => by
              by_cases he : j = k
              · subst he; show curveE downA B[j] = 0; rw [← HCV.out, ← HD.out]; exact h0
              · exact HV.out j hj (by omega))
            subst h0
            go_wp2
            go_roundw
            case rel => exact ⟨k + 1, hlt, by go_num, HV2.out, HB5.out⟩
            case measure => simp [intOf]; omega
          · have hb : badAt false B = some (k, d) := by
              have h1 := badAt_first (up := false) hlt (fun j hj => HV.out j (by omega) hj) (by show curveE downA B[k] ≠ 0; rw [← HCV.out, ← HD.out]; exact h0)
              rw [h1]
              show some (k, curveE downA B[k]) = _
              rw [← HCV.out, ← HD.out]
            have hbe : badE false B = d := by unfold badE; rw [hb]
            have HEE : Hid (wrongM O B = d) := Lib.hid (by rw [HE2.out, hbe])
            have hd0 : (d == 0) = false := by rw [beq_eq_false_iff_ne]; exact h0
            clear hb hbe h0
            go_wp2
            go_ret
            exact ⟨below_next HBW.out HB5.out, by rw [HEE.out]; rfl⟩
        · obtain rfl : k = B.length := by omega
          have hB0 : badE false B = 0 := badE_zero.2 (fun c hc => by
            obtain ⟨j, hj, rfl⟩ := List.getElem_of_mem hc
            exact HV.out j hj hj)
          have HEE : Hid (wrongM O B = 0) := Lib.hid (by rw [HE2.out, hB0])
          clear hB0
          go_wp2
          go_ret
          exact ⟨below_next HBW.out HBX.out, by rw [HEE.out]; rfl⟩
#print axioms cwrong_calls

set_option maxRecDepth 100000 in
set_option maxHeartbeats 1000000 in
theorem meet_calls (a b c d : Int) (w : World) :
    Calls Tryz.prog 72 #[.agg #[.int .i64 a, .int .i64 b], .agg #[.int .i64 c, .int .i64 d]] w fun e w' => Below w.heap.size w w' ∧ e = .returned (.bool (decide (a ≤ d) && decide (c ≤ b))) := by
  obtain ⟨W, hW, g0, g1, hB, hs⟩ := two_boxes w (.cells #[.int .i64 a, .int .i64 b] 68) (.cells #[.int .i64 c, .int .i64 d] 68)
  have a0 : W.cell? ⟨w.heap.size, 0, none⟩ = some (.int .i64 a) := hcell g0 0 rfl
  have a1 : W.cell? ⟨w.heap.size, 1, none⟩ = some (.int .i64 b) := hcell g0 1 rfl
  have b0 : W.cell? ⟨w.heap.size + 1, 0, none⟩ = some (.int .i64 c) := hcell g1 0 rfl
  have b1 : W.cell? ⟨w.heap.size + 1, 1, none⟩ = some (.int .i64 d) := hcell g1 1 rfl
  have HB := Lib.hid hB
  clear g0 g1 hB hs
  go_enter Tryz.func72, Tryz.ntmps72
  by_cases h1 : a ≤ d
  · by_cases h2 : c ≤ b
    · have HE : Hid ((decide (a ≤ d) && decide (c ≤ b)) = true) := Lib.hid (by simp [h1, h2])
      go_wp2
      go_ret
      exact ⟨HB.out, by first | rfl | (rw [HE.out]; rfl)⟩
    · have HE : Hid ((decide (a ≤ d) && decide (c ≤ b)) = false) := Lib.hid (by simp [h1, h2])
      have h2' : decide (c ≤ b) = false := by simpa using h2
      go_wp2
      go_ret
      exact ⟨HB.out, by first | rfl | (rw [HE.out]; rfl)⟩
  · have HE : Hid ((decide (a ≤ d) && decide (c ≤ b)) = false) := Lib.hid (by simp [h1])
    have h1' : decide (a ≤ d) = false := by simpa using h1
    go_wp2
    go_ret
    exact ⟨HB.out, by first | rfl | (rw [HE.out]; rfl)⟩
#print axioms meet_calls
end Go.Proofs.YtlaemhigmgmgjaaGreat
/- clear: sum: what it returns. No condition beyond sizes. -/
namespace Go.Proofs.YtlaemhigmgmgjaaGreat
set_option linter.unusedVariables false
set_option linter.unusedSimpArgs false
open Go.RowKit

theorem flat_want {up : Bool} {q : Rat} {O : List Crv} (hv : ∀ c ∈ O, curveE (afterOf up) c = 0) : ∀ k, k ≤ O.length → 0 ≤ leastI up q (O.take k).flatten ∧ leastI up q (O.take k).flatten ≤ 3000000 * k ∧ 0 ≤ mostI up q (O.take k).flatten ∧ mostI up q (O.take k).flatten ≤ 3000000 * k
  | 0, _ => by simp [leastI, mostI]
  | k + 1, hk => by
    have h1 := flat_want (q := q) hv k (by omega)
    have h2 := curveE_in (hv O[k] (List.getElem_mem _))
    have h3 := want_le (up := up) (l := q) h2.2.2 _ (Nat.le_refl _)
    rw [List.take_length] at h3
    have h4 := want_append up q (O.take k).flatten O[k]
    rw [List.take_succ_eq_append_getElem hk, List.flatten_append, show [O[k]].flatten = O[k] by simp, h4.1, h4.2]
    have h5 := h2.2.1
    omega
theorem flat_take {up : Bool} {q : Rat} {O : List Crv} {k : Nat} (hk : k < O.length) : leastI up q (O.take (k + 1)).flatten = leastI up q (O.take k).flatten + leastI up q O[k] ∧ mostI up q (O.take (k + 1)).flatten = mostI up q (O.take k).flatten + mostI up q O[k] := by
  have h4 := want_append up q (O.take k).flatten O[k]
  rw [List.take_succ_eq_append_getElem hk, List.flatten_append, show [O[k]].flatten = O[k] by simp, h4.1, h4.2]
  exact ⟨rfl, rfl⟩
theorem wantR_ok {up : Bool} {q : Rat} {c : Crv} (h : curveE (afterOf up) c = 0) : wantR up q c = (leastI up q c, mostI up q c, 0) := by unfold wantR; rw [if_pos h]
theorem set2h {w : World} {b : Nat} {x y x' y' : Value} {e : TypeId} {fr : Nat × Nat} (h : w.heap[b]? = some (.cells #[x, y] e fr)) :
    ((w.setCell ⟨b, 0, none⟩ x').setCell ⟨b, 1, none⟩ y').heap[b]? = some (.cells #[x', y'] e fr) := by
  have h1 := set_same (i := 0) (v := x') h
  have h2 := set_same (i := 1) (v := y') h1
  exact h2
set_option maxRecDepth 100000 in
set_option maxHeartbeats 2000000 in
theorem sum_up_calls (ok : Nat → Option Obj → Prop) (A : Option Addr) (n c : Nat) (O : List Crv) (u : Value) (q : Rat) (kq : Nat) (w : World) (h : Row Kd.curve ok w (.slice A n c) O)
    (hv : ∀ c ∈ O, curveE (afterOf true) c = 0) (hl : O.length ≤ 6) (hu : QIn (fun _ _ => True) w u q kq) (hk : kq ≤ 100000000) (hk1 : 1 ≤ kq) :
    Calls Tryz.prog 38 #[.slice A n c, u, .func (.func 30) #[] #[]] w fun e w' => Below w.heap.size w w' ∧ e = .returned (.agg #[.int .i64 (leastI true q O.flatten), .int .i64 (mostI true q O.flatten)]) := by
  obtain rfl := h.len
  have hm := h.small
  obtain ⟨t0, A0, m0, c0, s0, B0, j0, d0, rfl, HU⟩ := hu.form
  obtain ⟨W, hW, g0, g1, g2, hB, hs⟩ := three_boxes w (.cells #[.bool t0, .slice A0 m0 c0, .bool s0, .slice B0 j0 d0] 44) (.cells #[.int .i64 0, .int .i64 0] 68) (.cells #[.int .i64 0, .int .i64 0] 68)
  obtain ⟨B, hBd⟩ : ∃ B, B = w.heap.size + 1 + 1 := ⟨_, rfl⟩
  obtain ⟨D, hDd⟩ : ∃ D, D = w.heap.size + 1 := ⟨_, rfl⟩
  have G0 := Lib.hid g0
  have G1 : Hid (W.heap[D]? = some (.cells #[.int .i64 0, .int .i64 0] 68 (0, 0))) := Lib.hid (hDd ▸ g1)
  have G2 : Hid (W.heap[B]? = some (.cells #[.int .i64 0, .int .i64 0] 68 (0, 0))) := Lib.hid (hBd ▸ g2)
  have HB := Lib.hid hB
  have HS : Hid (W.heap.size = B + 1) := Lib.hid (by omega)
  have HDB : Hid (w.heap.size < D ∧ D < B) := Lib.hid (by omega)
  have HR := Lib.hid h
  have HV := Lib.hid hv
  clear g0 g1 g2 hB hs hu h hv
  go_enter Tryz.func38, Tryz.ntmps38
  go_wp2_with fail
  rw [← hBd, ← hDd]
  clear hW hBd hDd
  have b0 : W.cell? ⟨B, 0, none⟩ = some (.int .i64 0) := hcell G2.out 0 rfl
  go_loopw [15] (fun i wr => ∃ (k : Nat) (x y : Int), k ≤ O.length ∧ i = .int .i64 k ∧ Hid (x = leastI true q (O.take k).flatten) ∧ Hid (y = mostI true q (O.take k).flatten) ∧ Hid (wr.heap[B]? = some (.cells #[.int .i64 x, .int .i64 y] 68 (0, 0))) ∧ Hid (∀ j, j < B → wr.heap[j]? = W.heap[j]?) ∧ Hid (Below w.heap.size w wr) ∧ Hid (B + 1 ≤ wr.heap.size))
    (fun i _ => O.length - (intOf i).toNat)
  case atStart => exact ⟨0, 0, 0, Nat.zero_le _, rfl, rfl, rfl, G2.out, fun _ _ => rfl, HB.out, Nat.le_of_eq HS.out.symm⟩
  case round =>
    obtain ⟨k, x, y, hkl, rfl, HX, HY, HG, HKP, HBW, HSZ⟩ := hrel
    by_cases hlt : k < O.length
    · obtain ⟨b, off, A', c', rfl, y0, hrv⟩ := curve_cell (HR.out.below HBW.out) hlt
      obtain ⟨cv, hcvd⟩ : ∃ cv, cv = O[k] := ⟨_, rfl⟩
      have hfl := flat_want (q := q) HV.out k hkl
      have hft := flat_take (up := true) (q := q) hlt
      have hcv0 := HV.out O[k] (List.getElem_mem _)
      have hci := curveE_in hcv0
      have hcw := want_le (up := true) (l := q) hci.2.2 _ (Nat.le_refl _)
      rw [List.take_length] at hcw
      rw [← HX.out, ← HY.out] at hfl
      rw [← HX.out, ← HY.out, ← hcvd] at hft
      rw [← hcvd] at y0 hrv hcw hcv0 hci
      obtain ⟨x1, hx1⟩ : ∃ x1, x1 = leastI true q cv := ⟨_, rfl⟩
      obtain ⟨y1, hy1⟩ : ∃ y1, y1 = mostI true q cv := ⟨_, rfl⟩
      rw [← hx1, ← hy1] at hft hcw
      have hkk := hci.2.1
      have hwx : IntKind.i64.wrap (x + x1) = x + x1 := IntWalk.i64_in _ ⟨by omega, by omega⟩
      have hwy : IntKind.i64.wrap (y + y1) = y + y1 := IntWalk.i64_in _ ⟨by omega, by omega⟩
      have HXN : Hid (x + x1 = leastI true q (O.take (k + 1)).flatten) := Lib.hid hft.1.symm
      have HYN : Hid (y + y1 = mostI true q (O.take (k + 1)).flatten) := Lib.hid hft.2.symm
      have HW : Hid (wantR true q cv = (x1, y1, 0)) := Lib.hid (by rw [wantR_ok hcv0, hx1, hy1])
      have HRV := Lib.hid hrv
      have hi0 : (0 : Int) ≤ (k : Int) := by omega
      have hi1 : (k : Int) < (O.length : Int) := by omega
      have hg0' : wr.heap[w.heap.size]? = _ := (HKP.out w.heap.size (by have := HDB.out; omega)).trans G0.out
      have a0 : wr.cell? ⟨w.heap.size, 0, none⟩ = some (.bool t0) := hcell hg0' 0 rfl
      have a1 : wr.cell? ⟨w.heap.size, 1, none⟩ = some (.slice A0 m0 c0) := hcell hg0' 1 rfl
      have a2 : wr.cell? ⟨w.heap.size, 2, none⟩ = some (.bool s0) := hcell hg0' 2 rfl
      have a3 : wr.cell? ⟨w.heap.size, 3, none⟩ = some (.slice B0 j0 d0) := hcell hg0' 3 rfl
      clear hcvd hrv hfl hft hcv0 hci hcw hx1 hy1 hkk hg0' b0
      go_wp2_with fail
      refine (supply_calls ok _ _ _ cv _ q kq _ HRV.out (HU.out.below HBW.out) hk hk1).mono ?_
      rw [HW.out]
      rintro e w5 ⟨hb5, rfl⟩
      have g5 := heap_below hb5 HG.out
      have e0 : w5.cell? ⟨B, 0, none⟩ = some (.int .i64 x) := hcell g5 0 rfl
      have e1 : w5.cell? ⟨B, 1, none⟩ = some (.int .i64 y) := hcell g5 1 rfl
      have f0 := hfree g5 0
      have f1 := hfree g5 1
      have HB5 := Lib.hid hb5
      have G5 := Lib.hid g5
      clear hb5 g5 a0 a1 a2 a3 y0
      go_wp2
      have hszb := HSZ.out
      have hdb := HDB.out
      obtain ⟨Wy, hWy⟩ : ∃ Wy, Wy = (w5.setCell ⟨B, 0, none⟩ (.int .i64 (x + x1))).setCell ⟨B, 1, none⟩ (.int .i64 (y + y1)) := ⟨_, rfl⟩
      rw [← hWy]
      have hkk : ∀ i, i ≠ B → Wy.heap[i]? = w5.heap[i]? := fun i hi => by rw [hWy]; exact set_far (set_far rfl hi) hi
      have HGY : Hid (Wy.heap[B]? = some (.cells #[.int .i64 (x + x1), .int .i64 (y + y1)] 68 (0, 0))) := Lib.hid (by rw [hWy]; exact set2h G5.out)
      have HBY : Hid (Below w.heap.size w Wy) := Lib.hid (by rw [hWy]; exact two_stores (below_next HBW.out HB5.out) (by omega))
      have HKY : Hid (∀ j, j < B → Wy.heap[j]? = W.heap[j]?) := Lib.hid (fun j hj => (hkk j (by omega)).trans ((HB5.out.block j (by omega)).trans (HKP.out j hj)))
      have HSY : Hid (B + 1 ≤ Wy.heap.size) := Lib.hid (by rw [hWy]; have := HB5.out.size; show _ ≤ _; simp only [World.size_setCell]; omega)
      clear e0 e1 f0 f1 hszb hdb hkk hWy
      go_roundw
      case rel => exact ⟨k + 1, x + x1, y + y1, hlt, by go_num, HXN.out, HYN.out, HGY.out, HKY.out, HBY.out, HSY.out⟩
      case measure => simp [intOf]; omega
    · obtain rfl : k = O.length := by omega
      have hx2 : leastI true q O.flatten = x := by rw [HX.out, List.take_length]
      have hy2 : mostI true q O.flatten = y := by rw [HY.out, List.take_length]
      have HX2 := Lib.hid hx2
      have HY2 := Lib.hid hy2
      have hdb := HDB.out
      have g1 := (HKP.out D hdb.2).trans G1.out
      have d0 : wr.cell? ⟨D, 0, none⟩ = some (.int .i64 0) := hcell g1 0 rfl
      have d1 : wr.cell? ⟨D, 1, none⟩ = some (.int .i64 0) := hcell g1 1 rfl
      have e0 : wr.cell? ⟨B, 0, none⟩ = some (.int .i64 x) := hcell HG.out 0 rfl
      have e1 : wr.cell? ⟨B, 1, none⟩ = some (.int .i64 y) := hcell HG.out 1 rfl
      have f0 := hfree g1 0
      have f1 := hfree g1 1
      clear hx2 hy2 g1 b0
      go_wp2
      refine bodyPost_ret (v := .agg #[.int .i64 x, .int .i64 y]) (by simp [results, Tryz.results38, go_sem, d0, d1]) rfl ?_
      rw [HX2.out, HY2.out]
      exact ⟨two_stores HBW.out (by omega), rfl⟩
#print axioms sum_up_calls
set_option maxRecDepth 100000 in
set_option maxHeartbeats 2000000 in
theorem sum_down_calls (ok : Nat → Option Obj → Prop) (A : Option Addr) (n c : Nat) (O : List Crv) (u : Value) (q : Rat) (kq : Nat) (w : World) (h : Row Kd.curve ok w (.slice A n c) O)
    (hv : ∀ c ∈ O, curveE (afterOf false) c = 0) (hl : O.length ≤ 6) (hu : QIn (fun _ _ => True) w u q kq) (hk : kq ≤ 100000000) (hk1 : 1 ≤ kq) :
    Calls Tryz.prog 38 #[.slice A n c, u, .func (.func 31) #[] #[]] w fun e w' => Below w.heap.size w w' ∧ e = .returned (.agg #[.int .i64 (leastI false q O.flatten), .int .i64 (mostI false q O.flatten)]) := by
  obtain rfl := h.len
  have hm := h.small
  obtain ⟨t0, A0, m0, c0, s0, B0, j0, d0, rfl, HU⟩ := hu.form
  obtain ⟨W, hW, g0, g1, g2, hB, hs⟩ := three_boxes w (.cells #[.bool t0, .slice A0 m0 c0, .bool s0, .slice B0 j0 d0] 44) (.cells #[.int .i64 0, .int .i64 0] 68) (.cells #[.int .i64 0, .int .i64 0] 68)
  obtain ⟨B, hBd⟩ : ∃ B, B = w.heap.size + 1 + 1 := ⟨_, rfl⟩
  obtain ⟨D, hDd⟩ : ∃ D, D = w.heap.size + 1 := ⟨_, rfl⟩
  have G0 := Lib.hid g0
  have G1 : Hid (W.heap[D]? = some (.cells #[.int .i64 0, .int .i64 0] 68 (0, 0))) := Lib.hid (hDd ▸ g1)
  have G2 : Hid (W.heap[B]? = some (.cells #[.int .i64 0, .int .i64 0] 68 (0, 0))) := Lib.hid (hBd ▸ g2)
  have HB := Lib.hid hB
  have HS : Hid (W.heap.size = B + 1) := Lib.hid (by omega)
  have HDB : Hid (w.heap.size < D ∧ D < B) := Lib.hid (by omega)
  have HR := Lib.hid h
  have HV := Lib.hid hv
  clear g0 g1 g2 hB hs hu h hv
  go_enter Tryz.func38, Tryz.ntmps38
  go_wp2_with fail
  rw [← hBd, ← hDd]
  clear hW hBd hDd
  have b0 : W.cell? ⟨B, 0, none⟩ = some (.int .i64 0) := hcell G2.out 0 rfl
  go_loopw [15] (fun i wr => ∃ (k : Nat) (x y : Int), k ≤ O.length ∧ i = .int .i64 k ∧ Hid (x = leastI false q (O.take k).flatten) ∧ Hid (y = mostI false q (O.take k).flatten) ∧ Hid (wr.heap[B]? = some (.cells #[.int .i64 x, .int .i64 y] 68 (0, 0))) ∧ Hid (∀ j, j < B → wr.heap[j]? = W.heap[j]?) ∧ Hid (Below w.heap.size w wr) ∧ Hid (B + 1 ≤ wr.heap.size))
    (fun i _ => O.length - (intOf i).toNat)
  case atStart => exact ⟨0, 0, 0, Nat.zero_le _, rfl, rfl, rfl, G2.out, fun _ _ => rfl, HB.out, Nat.le_of_eq HS.out.symm⟩
  case round =>
    obtain ⟨k, x, y, hkl, rfl, HX, HY, HG, HKP, HBW, HSZ⟩ := hrel
    by_cases hlt : k < O.length
    · obtain ⟨b, off, A', c', rfl, y0, hrv⟩ := curve_cell (HR.out.below HBW.out) hlt
      obtain ⟨cv, hcvd⟩ : ∃ cv, cv = O[k] := ⟨_, rfl⟩
      have hfl := flat_want (q := q) HV.out k hkl
      have hft := flat_take (up := false) (q := q) hlt
      have hcv0 := HV.out O[k] (List.getElem_mem _)
      have hci := curveE_in hcv0
      have hcw := want_le (up := false) (l := q) hci.2.2 _ (Nat.le_refl _)
      rw [List.take_length] at hcw
      rw [← HX.out, ← HY.out] at hfl
      rw [← HX.out, ← HY.out, ← hcvd] at hft
      rw [← hcvd] at y0 hrv hcw hcv0 hci
      obtain ⟨x1, hx1⟩ : ∃ x1, x1 = leastI false q cv := ⟨_, rfl⟩
      obtain ⟨y1, hy1⟩ : ∃ y1, y1 = mostI false q cv := ⟨_, rfl⟩
      rw [← hx1, ← hy1] at hft hcw
      have hkk := hci.2.1
      have hwx : IntKind.i64.wrap (x + x1) = x + x1 := IntWalk.i64_in _ ⟨by omega, by omega⟩
      have hwy : IntKind.i64.wrap (y + y1) = y + y1 := IntWalk.i64_in _ ⟨by omega, by omega⟩
      have HXN : Hid (x + x1 = leastI false q (O.take (k + 1)).flatten) := Lib.hid hft.1.symm
      have HYN : Hid (y + y1 = mostI false q (O.take (k + 1)).flatten) := Lib.hid hft.2.symm
      have HW : Hid (wantR false q cv = (x1, y1, 0)) := Lib.hid (by rw [wantR_ok hcv0, hx1, hy1])
      have HRV := Lib.hid hrv
      have hi0 : (0 : Int) ≤ (k : Int) := by omega
      have hi1 : (k : Int) < (O.length : Int) := by omega
      have hg0' : wr.heap[w.heap.size]? = _ := (HKP.out w.heap.size (by have := HDB.out; omega)).trans G0.out
      have a0 : wr.cell? ⟨w.heap.size, 0, none⟩ = some (.bool t0) := hcell hg0' 0 rfl
      have a1 : wr.cell? ⟨w.heap.size, 1, none⟩ = some (.slice A0 m0 c0) := hcell hg0' 1 rfl
      have a2 : wr.cell? ⟨w.heap.size, 2, none⟩ = some (.bool s0) := hcell hg0' 2 rfl
      have a3 : wr.cell? ⟨w.heap.size, 3, none⟩ = some (.slice B0 j0 d0) := hcell hg0' 3 rfl
      clear hcvd hrv hfl hft hcv0 hci hcw hx1 hy1 hkk hg0' b0
      go_wp2_with fail
      refine (demand_calls ok _ _ _ cv _ q kq _ HRV.out (HU.out.below HBW.out) hk hk1).mono ?_
      rw [HW.out]
      rintro e w5 ⟨hb5, rfl⟩
      have g5 := heap_below hb5 HG.out
      have e0 : w5.cell? ⟨B, 0, none⟩ = some (.int .i64 x) := hcell g5 0 rfl
      have e1 : w5.cell? ⟨B, 1, none⟩ = some (.int .i64 y) := hcell g5 1 rfl
      have f0 := hfree g5 0
      have f1 := hfree g5 1
      have HB5 := Lib.hid hb5
      have G5 := Lib.hid g5
      clear hb5 g5 a0 a1 a2 a3 y0
      go_wp2
      have hszb := HSZ.out
      have hdb := HDB.out
      obtain ⟨Wy, hWy⟩ : ∃ Wy, Wy = (w5.setCell ⟨B, 0, none⟩ (.int .i64 (x + x1))).setCell ⟨B, 1, none⟩ (.int .i64 (y + y1)) := ⟨_, rfl⟩
      rw [← hWy]
      have hkk : ∀ i, i ≠ B → Wy.heap[i]? = w5.heap[i]? := fun i hi => by rw [hWy]; exact set_far (set_far rfl hi) hi
      have HGY : Hid (Wy.heap[B]? = some (.cells #[.int .i64 (x + x1), .int .i64 (y + y1)] 68 (0, 0))) := Lib.hid (by rw [hWy]; exact set2h G5.out)
      have HBY : Hid (Below w.heap.size w Wy) := Lib.hid (by rw [hWy]; exact two_stores (below_next HBW.out HB5.out) (by omega))
      have HKY : Hid (∀ j, j < B → Wy.heap[j]? = W.heap[j]?) := Lib.hid (fun j hj => (hkk j (by omega)).trans ((HB5.out.block j (by omega)).trans (HKP.out j hj)))
      have HSY : Hid (B + 1 ≤ Wy.heap.size) := Lib.hid (by rw [hWy]; have := HB5.out.size; show _ ≤ _; simp only [World.size_setCell]; omega)
      clear e0 e1 f0 f1 hszb hdb hkk hWy
      go_roundw
      case rel => exact ⟨k + 1, x + x1, y + y1, hlt, by go_num, HXN.out, HYN.out, HGY.out, HKY.out, HBY.out, HSY.out⟩
      case measure => simp [intOf]; omega
    · obtain rfl : k = O.length := by omega
      have hx2 : leastI false q O.flatten = x := by rw [HX.out, List.take_length]
      have hy2 : mostI false q O.flatten = y := by rw [HY.out, List.take_length]
      have HX2 := Lib.hid hx2
      have HY2 := Lib.hid hy2
      have hdb := HDB.out
      have g1 := (HKP.out D hdb.2).trans G1.out
      have d0 : wr.cell? ⟨D, 0, none⟩ = some (.int .i64 0) := hcell g1 0 rfl
      have d1 : wr.cell? ⟨D, 1, none⟩ = some (.int .i64 0) := hcell g1 1 rfl
      have e0 : wr.cell? ⟨B, 0, none⟩ = some (.int .i64 x) := hcell HG.out 0 rfl
      have e1 : wr.cell? ⟨B, 1, none⟩ = some (.int .i64 y) := hcell HG.out 1 rfl
      have f0 := hfree g1 0
      have f1 := hfree g1 1
      clear hx2 hy2 g1 b0
      go_wp2
      refine bodyPost_ret (v := .agg #[.int .i64 x, .int .i64 y]) (by simp [results, Tryz.results38, go_sem, d0, d1]) rfl ?_
      rw [HX2.out, HY2.out]
      exact ⟨two_stores HBW.out (by omega), rfl⟩
#print axioms sum_down_calls
end Go.Proofs.YtlaemhigmgmgjaaGreat
/- clear: clears, Clears: what they return. No condition beyond sizes. -/
namespace Go.Proofs.YtlaemhigmgmgjaaGreat
set_option linter.unusedVariables false
set_option linter.unusedSimpArgs false
open Go.RowKit

set_option maxRecDepth 100000 in
set_option maxHeartbeats 2000000 in
theorem cl_calls (ok : Nat → Option Obj → Prop) (A : Option Addr) (n c : Nat) (O : List Crv) (A2 : Option Addr) (n2 c2 : Nat) (B : List Crv) (u : Value) (q : Rat) (kq : Nat) (w : World) (h : Row Kd.curve ok w (.slice A n c) O) (h2 : Row Kd.curve ok w (.slice A2 n2 c2) B)
    (hv : wrongM O B = 0) (hu : QIn (fun _ _ => True) w u q kq) (hk : kq ≤ 100000000) (hk1 : 1 ≤ kq) :
    Calls Tryz.prog 50 #[.slice A n c, .slice A2 n2 c2, u] w fun e w' => Below w.heap.size w w' ∧ e = .returned (.bool (clearsF O.flatten B.flatten q)) := by
  obtain rfl := h.len
  obtain rfl := h2.len
  obtain ⟨t0, A0, m0, c0, s0, B0, j0, d0, rfl, HU⟩ := hu.form
  obtain ⟨W, hW, g0, hB, hs⟩ := one_box w (.cells #[.bool t0, .slice A0 m0 c0, .bool s0, .slice B0 j0 d0] 44)
  have a0 : W.drew.cell? ⟨w.heap.size, 0, none⟩ = some (.bool t0) := hcell (heap_drew g0) 0 rfl
  have a1 : W.drew.cell? ⟨w.heap.size, 1, none⟩ = some (.slice A0 m0 c0) := hcell (heap_drew g0) 1 rfl
  have a2 : W.drew.cell? ⟨w.heap.size, 2, none⟩ = some (.bool s0) := hcell (heap_drew g0) 2 rfl
  have a3 : W.drew.cell? ⟨w.heap.size, 3, none⟩ = some (.slice B0 j0 d0) := hcell (heap_drew g0) 3 rfl
  have HB := Lib.hid hB
  have HR := Lib.hid ((h.below hB).drew)
  have HR2 := Lib.hid ((h2.below hB).drew)
  have HQ := Lib.hid ((HU.out.below hB).drew)
  have HV := Lib.hid (wrongM_ok.1 hv)
  obtain ⟨x, hx⟩ : ∃ x, x = leastI true q O.flatten := ⟨_, rfl⟩
  obtain ⟨y, hy⟩ : ∃ y, y = mostI true q O.flatten := ⟨_, rfl⟩
  obtain ⟨x2, hx2⟩ : ∃ x, x = leastI false q B.flatten := ⟨_, rfl⟩
  obtain ⟨y2, hy2⟩ : ∃ y, y = mostI false q B.flatten := ⟨_, rfl⟩
  obtain ⟨g, hg⟩ : ∃ g, g = clearsF O.flatten B.flatten q := ⟨_, rfl⟩
  rw [← hg]
  have HE : Hid (g = (decide (x ≤ y2) && decide (x2 ≤ y))) := Lib.hid (by rw [hg]; unfold clearsF; rw [hx, hy, hx2, hy2])
  have HXY := Lib.hid (And.intro hx (And.intro hy (And.intro hx2 hy2)))
  clear g0 hB hs hu h h2 hv hx hy hx2 hy2 hg
  go_enter Tryz.func50, Tryz.ntmps50
  go_upto_region 1 with fail
  clear hW
  go_region_held3 (fun w' => w'.cell? ⟨w.heap.size, 0, none⟩ = some (.bool t0) ∧ w'.cell? ⟨w.heap.size, 1, none⟩ = some (.slice A0 m0 c0) ∧ w'.cell? ⟨w.heap.size, 2, none⟩ = some (.bool s0) ∧ w'.cell? ⟨w.heap.size, 3, none⟩ = some (.slice B0 j0 d0))
    (first | with_reducible exact ⟨a0, a1, a2, a3⟩ | with_reducible exact ⟨k0, k1, k2, k3⟩ | go_keep)
    (first
      | (go_at_call 38; have hx := HB1.out; clear hx; refine (sum_down_calls ok _ _ _ B _ q kq _ (by exact HR2.out.below HB1.out) (by exact HV.out.2.2.2.2) (by exact HV.out.2.1) (by exact HQ.out.below HB1.out) hk hk1).mono ?_; rintro e w5 ⟨hb5, rfl⟩; rw [← HXY.out.2.2.1, ← HXY.out.2.2.2]; have k0 := cell_below hb5 k0; have k1 := cell_below hb5 k1; have k2 := cell_below hb5 k2; have k3 := cell_below hb5 k3; have HB1 := Lib.hid (below_next HB1.out hb5); clear hb5)
      | (go_at_call 38; refine (sum_up_calls ok _ _ _ O _ q kq _ (by exact HR.out) (by exact HV.out.2.2.1.2) (by have := HV.out.1; omega) (by exact HQ.out) hk hk1).mono ?_; rintro e w4 ⟨hb4, rfl⟩; rw [← HXY.out.1, ← HXY.out.2.1]; have k0 := cell_below hb4 a0; have k1 := cell_below hb4 a1; have k2 := cell_below hb4 a2; have k3 := cell_below hb4 a3; have HB1 := Lib.hid hb4; clear hb4)
      | (go_at_call 72; refine (meet_calls _ _ _ _ _).mono ?_; rintro e w6 ⟨hb6, rfl⟩; rw [← HE.out]; have k0 := cell_below hb6 k0; have k1 := cell_below hb6 k1; have k2 := cell_below hb6 k2; have k3 := cell_below hb6 k3; have HB1 := Lib.hid (below_next HB1.out hb6); clear hb6))
  all_goals
    go_wp2
    go_ret
    exact ⟨below_next HB.out (below_next (below_drew (Below.refl _ _)) HB1.out), rfl⟩
#print axioms cl_calls

def clR (O B : List Crv) (q : Rat) : Bool × Int := if wrongM O B = 0 then (clearsF O.flatten B.flatten q, 0) else (false, wrongM O B)
set_option maxRecDepth 100000 in
set_option maxHeartbeats 2000000 in
theorem clears_calls (ok : Nat → Option Obj → Prop) (A : Option Addr) (n c : Nat) (O : List Crv) (A2 : Option Addr) (n2 c2 : Nat) (B : List Crv) (u : Value) (q : Rat) (kq : Nat) (w : World) (h : Row Kd.curve ok w (.slice A n c) O) (h2 : Row Kd.curve ok w (.slice A2 n2 c2) B)
    (hu : QIn (fun _ _ => True) w u q kq) (hk : kq ≤ 100000000) (hk1 : 1 ≤ kq) :
    Calls Tryz.prog 20 #[.slice A n c, .slice A2 n2 c2, u] w fun e w' => Below w.heap.size w w' ∧ e = .returned (.tuple #[.bool (clR O B q).1, .int .i64 (clR O B q).2]) := by
  obtain rfl := h.len
  obtain rfl := h2.len
  obtain ⟨t0, A0, m0, c0, s0, B0, j0, d0, rfl, HU⟩ := hu.form
  obtain ⟨W, hW, g0, hB, hs⟩ := one_box w (.cells #[.bool t0, .slice A0 m0 c0, .bool s0, .slice B0 j0 d0] 44)
  have G0 := Lib.hid g0
  have HB := Lib.hid hB
  have HR := Lib.hid (h.below hB)
  have HR2 := Lib.hid (h2.below hB)
  have HQ := Lib.hid (HU.out.below hB)
  obtain ⟨g, hg⟩ : ∃ g, g = clR O B q := ⟨_, rfl⟩
  rw [← hg]
  have HG := Lib.hid hg
  clear g0 hB hs hu h h2 hg
  go_enter Tryz.func20, Tryz.ntmps20
  go_wp2_with fail
  clear hW
  refine (cwrong_calls ok _ _ _ O _ _ _ B _ HR.out HR2.out).mono ?_
  rintro e w1 ⟨hb1, rfl⟩
  have HB1 := Lib.hid hb1
  have hg := heap_below hb1 G0.out
  have a0 : w1.cell? ⟨w.heap.size, 0, none⟩ = some (.bool t0) := hcell hg 0 rfl
  have a1 : w1.cell? ⟨w.heap.size, 1, none⟩ = some (.slice A0 m0 c0) := hcell hg 1 rfl
  have a2 : w1.cell? ⟨w.heap.size, 2, none⟩ = some (.bool s0) := hcell hg 2 rfl
  have a3 : w1.cell? ⟨w.heap.size, 3, none⟩ = some (.slice B0 j0 d0) := hcell hg 3 rfl
  clear hb1 hg
  obtain ⟨d, hd⟩ : ∃ d, d = wrongM O B := ⟨_, rfl⟩
  rw [← hd]
  by_cases h0 : d = 0
  · have HE : Hid (g = (clearsF O.flatten B.flatten q, 0)) := Lib.hid (by rw [HG.out]; unfold clR; rw [if_pos (hd ▸ h0)])
    have HV : Hid (wrongM O B = 0) := Lib.hid (hd ▸ h0)
    obtain ⟨r, hr⟩ : ∃ r, r = clearsF O.flatten B.flatten q := ⟨_, rfl⟩
    have HRR := Lib.hid hr
    clear hd hr
    subst h0
    go_wp2_with fail
    refine (cl_calls ok _ _ _ O _ _ _ B _ q kq _ (HR.out.below HB1.out) (HR2.out.below HB1.out) HV.out (HQ.out.below HB1.out) hk hk1).mono ?_
    rintro e w4 ⟨hb4, rfl⟩
    rw [← HRR.out]
    have HB4 := Lib.hid hb4
    clear hb4
    go_wp2
    go_ret2
    exact ⟨below_next HB.out (below_next HB1.out HB4.out), by rw [HE.out, ← HRR.out]; rfl⟩
  · have HE : Hid (g = (false, d)) := Lib.hid (by rw [HG.out, hd]; unfold clR; rw [if_neg (hd ▸ h0)])
    have hf : (d == 0) = false := by rw [beq_eq_false_iff_ne]; exact h0
    clear hd h0
    go_wp2
    go_ret2
    exact ⟨below_next HB.out HB1.out, by rw [HE.out]; rfl⟩
#print axioms clears_calls
end Go.Proofs.YtlaemhigmgmgjaaGreat
/- clear: nearest: what it returns. No condition beyond sizes. -/
namespace Go.Proofs.YtlaemhigmgmgjaaGreat
set_option linter.unusedVariables false
set_option linter.unusedSimpArgs false
open Go.RowKit

theorem pick_one {f : Int → Bool} (h0 : f 0 = false) (p : Int) : ∀ l : List Int, pickF f l (1, p) = (1, p)
  | [] => rfl
  | x :: r => by
    show pickF f r (if (0 ≤ (1 : Int) ∧ 1 ≤ max x (-x)) ∨ f x = false then (1, p) else (max x (-x), x)) = (1, p)
    rw [if_pos]
    · exact pick_one h0 p r
    · by_cases hx : x = 0
      · right; rw [hx]; exact h0
      · left; omega
theorem pick_skip {f : Int → Bool} {x b v : Int} {r : List Int} (h : (0 ≤ b ∧ b ≤ max x (-x)) ∨ f x = false) : pickF f (x :: r) (b, v) = pickF f r (b, v) := by
  show pickF f r (if (0 ≤ b ∧ b ≤ max x (-x)) ∨ f x = false then (b, v) else (max x (-x), x)) = _
  rw [if_pos h]
theorem pick_take {f : Int → Bool} {x b v : Int} {r : List Int} (h : ¬ (0 ≤ b ∧ b ≤ max x (-x))) (hf : f x = true) : pickF f (x :: r) (b, v) = pickF f r (max x (-x), x) := by
  show pickF f r (if (0 ≤ b ∧ b ≤ max x (-x)) ∨ f x = false then (b, v) else (max x (-x), x)) = _
  rw [if_neg]
  rintro (h1 | h1)
  · exact h h1
  · rw [hf] at h1; cases h1
/-- The prices still to be looked at when i sides are through. -/
def restS (O B : List Crv) (i : Nat) : List Int := if i = 0 then O.flatten.map (·.2) ++ B.flatten.map (·.2) else if i = 1 then B.flatten.map (·.2) else []
def pricesL (L : List Crv) : List Int := L.flatten.map (·.2)
theorem prices_drop {L : List Crv} {j : Nat} (hj : j < L.length) : pricesL (L.drop j) = L[j].map (·.2) ++ pricesL (L.drop (j + 1)) := by
  unfold pricesL
  rw [List.drop_eq_getElem_cons hj, List.flatten_cons, List.map_append]
structure SideIs (ok : Nat → Option Obj → Prop) (w : World) (O B : List Crv) (i : Nat) (A : Option Addr) (c : Nat) (L : List Crv) : Prop where
  row : Row Kd.curve ok w (.slice A L.length c) L
  rest : restS O B i = pricesL L ++ restS O B (i + 1)
  stp : ∀ cv ∈ L, cv.length ≤ 3 ∧ ∀ s ∈ cv, StepIn s
  len : L.length ≤ 6
theorem side_is {ok : Nat → Option Obj → Prop} {w : World} {A A2 : Option Addr} {c c2 : Nat} {O B : List Crv} (h : Row Kd.curve ok w (.slice A O.length c) O) (h2 : Row Kd.curve ok w (.slice A2 B.length c2) B) (hv : wrongM O B = 0) :
    SideIs ok w O B 0 A c O ∧ SideIs ok w O B 1 A2 c2 B := by
  obtain ⟨h5, h6, hO, hB⟩ := wrongM_ok.1 hv
  exact ⟨⟨h, rfl, fun cv hc => (curveE_in (hO.2 cv hc)).2, by omega⟩, ⟨h2, by unfold restS pricesL; simp, fun cv hc => (curveE_in (hB.2 cv hc)).2, h6⟩⟩
theorem bset2 {α : Type} {x y : α} {i : Nat} (h : i < 2) : (#[x, y] : Array α)[i]? = some (if i = 0 then x else y) := by
  match i, h with
  | 0, _ => rfl
  | 1, _ => rfl
set_option maxRecDepth 100000 in
set_option maxHeartbeats 4000000 in
theorem near_calls (ok : Nat → Option Obj → Prop) (A : Option Addr) (n c : Nat) (O : List Crv) (A2 : Option Addr) (n2 c2 : Nat) (B : List Crv) (w : World) (h : Row Kd.curve ok w (.slice A n c) O) (h2 : Row Kd.curve ok w (.slice A2 n2 c2) B)
    (hv : wrongM O B = 0) :
    Calls Tryz.prog 37 #[.slice A n c, .slice A2 n2 c2] w fun e w' => Below w.heap.size w w' ∧ e = .returned (.int .i64 (priceP O B)) := by
  obtain rfl := h.len
  obtain rfl := h2.len
  obtain ⟨g, hg⟩ : ∃ g, g = priceP O B := ⟨_, rfl⟩
  obtain ⟨FF, hFF⟩ : ∃ FF : Int → Bool, FF = fun (p : Int) => clearsF O.flatten B.flatten (p : Rat) := ⟨_, rfl⟩
  obtain ⟨z0, hz0⟩ : ∃ z0, z0 = clearsF O.flatten B.flatten 0 := ⟨_, rfl⟩
  rw [← hg]
  have HG : Hid (g = if z0 = true then 0 else (pickF FF (restS O B 0) (-1, 0)).2) := Lib.hid (by rw [hg, hz0, hFF]; rfl)
  have HFF := Lib.hid hFF
  have HZ0 := Lib.hid hz0
  have HR := Lib.hid h
  have HR2 := Lib.hid h2
  have HV := Lib.hid hv
  clear hg hFF hz0 h h2 hv
  go_enter Tryz.func37, Tryz.ntmps37
  go_wp2_with fail
  go_step3
  go_wp2_with fail
  refine (cl_calls ok _ _ _ O _ _ _ B _ 0 1 _ HR.out HR2.out HV.out (QIn.zero _ _ _) (by omega) (by omega)).mono ?_
  rintro e w1 ⟨hb1, rfl⟩
  rw [← HZ0.out]
  have HB1 := Lib.hid hb1
  clear hb1
  cases z0
  case true =>
    have HE : Hid (g = 0) := Lib.hid (by rw [HG.out, if_pos rfl])
    go_wp2
    rw [Exit.noGoto_ret]
    go_ret
    exact ⟨HB1.out, by rw [HE.out]; rfl⟩
  case false =>
    have HE : Hid ((pickF FF (restS O B 0) (-1, 0)).2 = g) := Lib.hid (by rw [HG.out, if_neg (by decide)])
    have HF0 : Hid (FF 0 = false) := Lib.hid (by rw [HFF.out]; exact HZ0.out.symm)
    obtain ⟨Wb, hWb, gz, hBz, hsz⟩ := one_box w1 (.cells #[.slice A O.length c, .slice A2 B.length c2] 22)
    obtain ⟨Z, hZd⟩ : ∃ Z, Z = w1.heap.size := ⟨_, rfl⟩
    have HZB : Hid (w.heap.size ≤ Z) := Lib.hid (by have := HB1.out.size; omega)
    rw [← hZd] at gz
    have HZ := Lib.hid gz
    have HBW := Lib.hid (below_next HB1.out hBz)
    have HWS : Hid (Z < Wb.heap.size) := Lib.hid (by omega)
    clear gz hBz hsz HG HZ0 HB1
    go_wp2_with fail
    go_step3
    go_wp2_with fail
    rw [← hZd]
    clear hZd hWb
    go_loopg [5, 6, 22] 2 (fun g5 s5 s6 s22 wr => ∃ (i : Nat) (bst fnd : Int), i + g5 = 2 ∧ s5 = .int .i64 bst ∧ s6 = .int .i64 fnd ∧ s22 = .int .i64 i ∧ Hid ((pickF FF (restS O B i) (bst, fnd)).2 = g) ∧ Hid (Below w.heap.size w wr) ∧ Hid (wr.heap[Z]? = some (.cells #[.slice A O.length c, .slice A2 B.length c2] 22 (0, 0))))
    case atStart => exact ⟨0, -1, 0, rfl, rfl, rfl, rfl, HE.out, HBW.out, HZ.out⟩
    case round =>
      obtain ⟨i, bst, fnd, hig, rfl, rfl, rfl, HP, HBR, HZR⟩ := hrel
      clear HBW HZ HE HWS
      cases gk with
      | zero =>
        obtain rfl : i = 2 := by omega
        have hfe : fnd = g := HP.out
        have HFE := Lib.hid hfe
        clear hfe
        go_wp2
        try rw [Exit.noGoto_ret]
        go_ret
        exact ⟨HBR.out, by rw [HFE.out]; rfl⟩
      | succ g5 =>
        obtain ⟨L, AL, cL, hcell, HS⟩ : ∃ (L : List Crv) (AL : Option Addr) (cL : Nat), wr.cell? ⟨Z, i, none⟩ = some (.slice AL L.length cL) ∧ Hid (SideIs ok w O B i AL cL L) := by
          have hs := side_is HR.out HR2.out HV.out
          match i, hig with
          | 0, _ => exact ⟨O, A, c, hcell HZR.out 0 rfl, hs.1⟩
          | 1, _ => exact ⟨B, A2, c2, hcell HZR.out 1 rfl, hs.2⟩
          | i + 2, h => omega
        have hil : (i : Int) < 2 := by omega
        have hi0 : (0 : Int) ≤ (i : Int) := by omega
        have hLl := HS.out.len
        go_wp2_with fail
        clear hcell
        go_loopg [5, 6, 28] L.length (fun g6 s5 s6 s28 wr => ∃ (j : Nat) (bst fnd : Int), j + g6 = L.length ∧ s5 = .int .i64 bst ∧ s6 = .int .i64 fnd ∧ s28 = .int .i64 j ∧ Hid ((pickF FF (pricesL (L.drop j) ++ restS O B (i + 1)) (bst, fnd)).2 = g) ∧ Hid (Below w.heap.size w wr) ∧ Hid (wr.heap[Z]? = some (.cells #[.slice A O.length c, .slice A2 B.length c2] 22 (0, 0))))
        case atStart => exact ⟨0, bst, fnd, by omega, rfl, rfl, rfl, by have h1 := HP.out; rw [HS.out.rest] at h1; exact h1, HBR.out, HZR.out⟩
        case round =>
          clear HP HBR HZR
          obtain ⟨j, bst, fnd, hjg, rfl, rfl, rfl, HP, HBR, HZR⟩ := hrel
          cases gk with
          | zero =>
            obtain rfl : j = L.length := by omega
            have HPE : Hid ((pickF FF (restS O B (i + 1)) (bst, fnd)).2 = g) := by
              have h1 := HP.out
              rw [List.drop_length] at h1
              exact h1
            go_wp2
            go_roundg g5
            case measure => omega
            case rel => exact ⟨i + 1, bst, fnd, by omega, rfl, rfl, by go_num, HPE.out, HBR.out, HZR.out⟩
          | succ g6 =>
            have hlt : j < L.length := by omega
            obtain ⟨b, off, A', c', rfl, y0, hrv⟩ := curve_cell HS.out.row hlt
            have y0 := cell_below HBR.out y0
            have hstp := HS.out.stp L[j] (List.getElem_mem _)
            have hpd := prices_drop hlt
            obtain ⟨cv, hcvd⟩ : ∃ cv, cv = L[j] := ⟨_, rfl⟩
            rw [← hcvd] at y0 hrv hstp hpd
            have HRV := Lib.hid hrv
            have HSTP := Lib.hid hstp
            have hcl := hstp.1
            have HPD := Lib.hid hpd
            have hj0 : (0 : Int) ≤ (j : Int) := by omega
            have hj1 : (j : Int) < (L.length : Int) := by omega
            clear hcvd hrv hstp hpd
            go_wp2_with fail
            clear y0
            go_loopg [5, 6, 34] cv.length (fun g7 s5 s6 s34 wr => ∃ (k : Nat) (bst fnd : Int), k + g7 = cv.length ∧ s5 = .int .i64 bst ∧ s6 = .int .i64 fnd ∧ s34 = .int .i64 k ∧ Hid ((pickF FF ((cv.drop k).map (·.2) ++ (pricesL (L.drop (j + 1)) ++ restS O B (i + 1))) (bst, fnd)).2 = g) ∧ Hid (Below w.heap.size w wr) ∧ Hid (wr.heap[Z]? = some (.cells #[.slice A O.length c, .slice A2 B.length c2] 22 (0, 0))))
            case atStart => exact ⟨0, bst, fnd, by omega, rfl, rfl, rfl, by have h1 := HP.out; rw [HPD.out, List.append_assoc] at h1; exact h1, HBR.out, HZR.out⟩
            case round =>
              clear HP HBR HZR
              obtain ⟨k, bst, fnd, hkg, rfl, rfl, rfl, HP, HBR2, HZR⟩ := hrel
              cases gk with
              | zero =>
                obtain rfl : k = cv.length := by omega
                have HPE : Hid ((pickF FF (pricesL (L.drop (j + 1)) ++ restS O B (i + 1)) (bst, fnd)).2 = g) := by
                  have h1 := HP.out
                  rw [List.drop_length] at h1
                  exact h1
                go_wp2
                go_roundg g6
                case measure => omega
                case rel => exact ⟨j + 1, bst, fnd, by omega, rfl, rfl, by go_num, HPE.out, HBR2.out, HZR.out⟩
              | succ g7 =>
                have hlt3 : k < cv.length := by omega
                obtain ⟨b3, off3, rfl, hq, hp, iq, ip⟩ := step_cell (HRV.out.below HBR2.out) hlt3
                have hsi := HSTP.out.2 cv[k] (List.getElem_mem _)
                have hdr : (cv.drop k).map (·.2) = cv[k].2 :: (cv.drop (k + 1)).map (·.2) := by rw [List.drop_eq_getElem_cons hlt3, List.map_cons]
                obtain ⟨qt, hqd⟩ : ∃ z, z = cv[k].1 := ⟨_, rfl⟩
                obtain ⟨p, hpd⟩ : ∃ z, z = cv[k].2 := ⟨_, rfl⟩
                unfold StepIn at hsi
                rw [← hqd, ← hpd] at hsi
                rw [← hqd] at hq
                rw [← hpd] at hp hdr
                obtain ⟨-, -, hp0, hp1⟩ := hsi
                have HPN : Hid ((pickF FF (p :: ((cv.drop (k + 1)).map (·.2) ++ (pricesL (L.drop (j + 1)) ++ restS O B (i + 1)))) (bst, fnd)).2 = g) := Lib.hid (by rw [← HP.out, hdr]; rfl)
                obtain ⟨rest, hrest⟩ : ∃ rest, rest = (cv.drop (k + 1)).map (·.2) ++ (pricesL (L.drop (j + 1)) ++ restS O B (i + 1)) := ⟨_, rfl⟩
                rw [← hrest] at HPN
                have HREST := Lib.hid hrest
                have hneg : IntKind.i64.wrap (-p) = -p := IntWalk.i64_in _ ⟨by omega, by omega⟩
                have hk0 : (0 : Int) ≤ (k : Int) := by omega
                have hk1 : (k : Int) < (cv.length : Int) := by omega
                obtain ⟨Wx, hWx, gx, hBx, hsx⟩ := one_box wr (.cells #[.int .i64 qt, .int .i64 p] 99)
                have HBX := Lib.hid (below_next HBR2.out hBx)
                have HZX := Lib.hid (heap_below hBx HZR.out)
                have z0 : Wx.cell? ⟨wr.heap.size, 0, none⟩ = some (.int .i64 qt) := hcell gx 0 rfl
                have z1 : Wx.cell? ⟨wr.heap.size, 1, none⟩ = some (.int .i64 p) := hcell gx 1 rfl
                obtain ⟨far, hfar⟩ : ∃ far, far = max p (-p) := ⟨_, rfl⟩
                have HFAR := Lib.hid hfar
                clear hqd hpd iq ip hdr hrest gx hBx hsx HP hfar
                go_upto_region 14 with fail
                clear hWx hq hp
                go_upto_region 15 with fail
                rw [← HFAR.out]
                obtain ⟨r, hr⟩ : ∃ r, r = FF p := ⟨_, rfl⟩
                have HFR0 := Lib.hid hr
                have HFP : Hid (clearsF O.flatten B.flatten (p : Rat) = r) := Lib.hid (by rw [hr, HFF.out])
                have HFR : Hid (FF p = r) := Lib.hid hr.symm
                clear hr HFR0
                by_cases hb : 0 ≤ bst
                · by_cases hge : bst ≤ far
                  · have HPR : Hid ((pickF FF rest (bst, fnd)).2 = g) := Lib.hid (by rw [← HPN.out, pick_skip (.inl ⟨hb, by rw [← HFAR.out]; exact hge⟩)])
                    rw [HREST.out] at HPR
                    go_wp2
                    go_roundg g7
                    case measure => omega
                    case rel => exact ⟨k + 1, bst, fnd, by omega, rfl, rfl, by go_num, HPR.out, HBX.out, HZX.out⟩
                  · have HNB : Hid (¬ (0 ≤ bst ∧ bst ≤ max p (-p))) := Lib.hid (by rw [← HFAR.out]; omega)
                    have hlt4 : far < bst := by omega
                    clear hge
                    go_wp2_with fail
                    refine (ffrom_calls p _ ⟨by omega, by omega⟩).mono ?_
                    rintro e w4 ⟨hb4, r4, rfl, hr4⟩
                    obtain ⟨t1, A1, m1, c1, s1, B1, j1, d1, rfl, Z4⟩ := hr4.open
                    have z1 := cell_below hb4 z1
                    have HB4 := Lib.hid (below_next HBX.out hb4)
                    have HZ4 := Lib.hid (heap_below hb4 HZX.out)
                    clear hb4 hr4 z0
                    go_wp2_with fail
                    refine (cl_calls ok _ _ _ O _ _ _ B _ (p : Rat) 2 _ (HR.out.below HB4.out) (HR2.out.below HB4.out) HV.out ((Z4.out.qin (fits_int (by omega))).any.le (by omega)) (by omega) (by omega)).mono ?_
                    rw [HFP.out]
                    rintro e w5 ⟨hb5, rfl⟩
                    have z1 := cell_below hb5 z1
                    have HB5 := Lib.hid (below_next HB4.out hb5)
                    have HZ5 := Lib.hid (heap_below hb5 HZ4.out)
                    clear hb5
                    cases r
                    case false =>
                      have HPR : Hid ((pickF FF rest (bst, fnd)).2 = g) := Lib.hid (by rw [← HPN.out, pick_skip (.inr HFR.out)])
                      rw [HREST.out] at HPR
                      go_wp2
                      go_roundg g7
                      case measure => omega
                      case rel => exact ⟨k + 1, bst, fnd, by omega, rfl, rfl, by go_num, HPR.out, HB5.out, HZ5.out⟩
                    case true =>
                      have HPR : Hid ((pickF FF rest (far, p)).2 = g) := Lib.hid (by rw [← HPN.out, HFAR.out, pick_take HNB.out HFR.out])
                      have z1 : w5.drew.cell? ⟨wr.heap.size, 1, none⟩ = some (.int .i64 p) := z1
                      have HB5 := Lib.hid (below_drew HB5.out)
                      have HZ5 := Lib.hid (heap_drew HZ5.out)
                      go_upto_region 16 with fail
                      go_region
                      all_goals
                        by_cases h1 : far = 1
                        · have HE : Hid (g = p) := Lib.hid (by have h2 := HPR.out; rw [h1, pick_one HF0.out] at h2; exact h2.symm)
                          have hf1 : (far == 1) = true := by rw [h1]; rfl
                          clear h1
                          go_wp2
                          try rw [Exit.noGoto_ret]
                          go_ret
                          exact ⟨HB5.out, by rw [HE.out]; rfl⟩
                        · have hf1 : (far == 1) = false := by rw [beq_eq_false_iff_ne]; exact h1
                          rw [HREST.out] at HPR
                          clear h1
                          go_wp2
                          go_roundg g7
                          case measure => omega
                          case rel => exact ⟨k + 1, far, p, by omega, rfl, rfl, by go_num, HPR.out, HB5.out, HZ5.out⟩
                · have HNB : Hid (¬ (0 ≤ bst ∧ bst ≤ max p (-p))) := Lib.hid (by omega)
                  have hlt4 : bst < 0 := by omega
                  clear hb
                  go_wp2_with fail
                  refine (ffrom_calls p _ ⟨by omega, by omega⟩).mono ?_
                  rintro e w4 ⟨hb4, r4, rfl, hr4⟩
                  obtain ⟨t1, A1, m1, c1, s1, B1, j1, d1, rfl, Z4⟩ := hr4.open
                  have z1 := cell_below hb4 z1
                  have HB4 := Lib.hid (below_next HBX.out hb4)
                  have HZ4 := Lib.hid (heap_below hb4 HZX.out)
                  clear hb4 hr4 z0
                  go_wp2_with fail
                  refine (cl_calls ok _ _ _ O _ _ _ B _ (p : Rat) 2 _ (HR.out.below HB4.out) (HR2.out.below HB4.out) HV.out ((Z4.out.qin (fits_int (by omega))).any.le (by omega)) (by omega) (by omega)).mono ?_
                  rw [HFP.out]
                  rintro e w5 ⟨hb5, rfl⟩
                  have z1 := cell_below hb5 z1
                  have HB5 := Lib.hid (below_next HB4.out hb5)
                  have HZ5 := Lib.hid (heap_below hb5 HZ4.out)
                  clear hb5
                  cases r
                  case false =>
                    have HPR : Hid ((pickF FF rest (bst, fnd)).2 = g) := Lib.hid (by rw [← HPN.out, pick_skip (.inr HFR.out)])
                    rw [HREST.out] at HPR
                    go_wp2
                    go_roundg g7
                    case measure => omega
                    case rel => exact ⟨k + 1, bst, fnd, by omega, rfl, rfl, by go_num, HPR.out, HB5.out, HZ5.out⟩
                  case true =>
                    have HPR : Hid ((pickF FF rest (far, p)).2 = g) := Lib.hid (by rw [← HPN.out, HFAR.out, pick_take HNB.out HFR.out])
                    have z1 : w5.drew.cell? ⟨wr.heap.size, 1, none⟩ = some (.int .i64 p) := z1
                    have HB5 := Lib.hid (below_drew HB5.out)
                    have HZ5 := Lib.hid (heap_drew HZ5.out)
                    go_upto_region 16 with fail
                    go_region
                    all_goals
                      by_cases h1 : far = 1
                      · have HE : Hid (g = p) := Lib.hid (by have h2 := HPR.out; rw [h1, pick_one HF0.out] at h2; exact h2.symm)
                        have hf1 : (far == 1) = true := by rw [h1]; rfl
                        clear h1
                        go_wp2
                        try rw [Exit.noGoto_ret]
                        go_ret
                        exact ⟨HB5.out, by rw [HE.out]; rfl⟩
                      · have hf1 : (far == 1) = false := by rw [beq_eq_false_iff_ne]; exact h1
                        rw [HREST.out] at HPR
                        clear h1
                        go_wp2
                        go_roundg g7
                        case measure => omega
                        case rel => exact ⟨k + 1, far, p, by omega, rfl, rfl, by go_num, HPR.out, HB5.out, HZ5.out⟩
#print axioms near_calls
end Go.Proofs.YtlaemhigmgmgjaaGreat
