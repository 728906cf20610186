/- Plain: one more curve of a stack. No condition. -/
import Derived.Test.YtlaemhigmgmgjaaGreatK8
namespace Go.Proofs.YtlaemhigmgmgjaaGreat
set_option linter.unusedVariables false
set_option linter.unusedSimpArgs false

theorem parts_snoc (L : List Crv) (c : Crv) (p : Int) : partsAt (L ++ [c]) p = partsAt L p ++ [qAt c p] := by simp [partsAt]
theorem valid_snoc {up : Bool} {L : List Crv} {c : Crv} (hl : L.length < 16) : Valid up (L ++ [c]) ↔ Valid up L ∧ Valid up [c] := by
  unfold Valid
  constructor
  · rintro ⟨h1, h2⟩
    exact ⟨⟨by omega, fun d hd => h2 d (by simp [hd])⟩, ⟨by simp, fun d hd => h2 d (by simp at hd; simp [hd])⟩⟩
  · rintro ⟨⟨h1, h2⟩, h3, h4⟩
    refine ⟨by simp; omega, fun d hd => ?_⟩
    rcases List.mem_append.1 hd with hd | hd
    · exact h2 d hd
    · exact h4 d hd
theorem prs_one {up : Bool} {c : Crv} (h : curveE (afterOf up) c = 0) : prs up [c] = c.map (·.2) := by
  refine sorted_one (prs_sorted up _) ?_ fun x => ?_
  · rw [List.pairwise_map]; exact curveE_sorted h
  · rw [mem_prs]; simp
theorem stack_one {up : Bool} {c : Crv} (h : curveE (afterOf up) c = 0) : stackOf up [c] = c.map (fun s => (s.2, s.1, [s.1])) := by
  rw [stackOf_prs, prs_one h, List.map_map]
  refine List.map_congr_left fun s hs => ?_
  have := qAt_of_mem (curveE_apart h) hs
  simp [lvl, partsAt, this]
/-- The law: one more curve. -/
theorem add_law (up : Bool) (L : List Crv) (c : Crv) (S T O : List Lv) (i j k e f g : Int) (hl : L.length < 16) (hS : mergeR up L = (S, i, e)) (hT : mergeR up (L ++ [c]) = (T, j, f)) (hO : mergeR up [c] = (O, k, g)) :
    ((e = 0 ∧ g = 0) ↔ f = 0) ∧ (f = 0 → O.length = c.length ∧ (∀ m (h : m < c.length) (h' : m < O.length), O[m].1 = c[m].2 ∧ O[m].2.1 = c[m].1 ∧ O[m].2.2.length = 1) ∧
      (∀ m (h : m < T.length), T[m].2.1 = atP S T[m].1 + atP O T[m].1 ∧ T[m].2.2.length = L.length + 1 ∧ ∀ (h2 : L.length < T[m].2.2.length), T[m].2.2[L.length] = atP O T[m].1) ∧ totalE T = totalE S + totalE O ∧
      checkE S = 0 ∧ checkE O = 0 ∧ checkE T = 0) := by
  have q0 := mergeR_ok (up := up) (L := L)
  have q1 := mergeR_ok (up := up) (L := L ++ [c])
  have q2 := mergeR_ok (up := up) (L := [c])
  rw [hS] at q0
  rw [hT] at q1
  rw [hO] at q2
  simp only at q0 q1 q2
  refine ⟨by rw [q0, q1, q2, valid_snoc hl], fun hf => ?_⟩
  have hvT := q1.1 hf
  obtain ⟨hvS, hvO⟩ := (valid_snoc hl).1 hvT
  rw [mergeR_valid hvS] at hS
  rw [mergeR_valid hvT] at hT
  rw [mergeR_valid hvO] at hO
  simp only [Prod.mk.injEq] at hS hT hO
  obtain ⟨rfl, -, -⟩ := hS
  obtain ⟨rfl, -, -⟩ := hT
  obtain ⟨rfl, -, -⟩ := hO
  have hc := hvO.2 c (by simp)
  have e1 := stack_one hc
  refine ⟨by rw [e1, List.length_map], fun m h h' => ?_, fun m h => ?_, ?_, check_stack hvS, check_stack hvO, check_stack hvT⟩
  · simp [e1, List.getElem_map]
  · have e2 := stackOf_get h
    obtain ⟨p, hp⟩ : ∃ p, p = (sortP up (pricesOf (L ++ [c])))[m]'(by rw [← stackOf_len]; exact h) := ⟨_, rfl⟩
    rw [← hp] at e2
    have e3 : (stackOf up (L ++ [c]))[m].1 = p := by rw [e2]; rfl
    have e4 : (stackOf up (L ++ [c]))[m].2.2 = partsAt L p ++ [qAt c p] := by rw [e2]; exact parts_snoc L c p
    have e5 : (stackOf up (L ++ [c]))[m].2.1 = (partsAt L p).sum + qAt c p := by
      rw [e2]; simp only [lvl]; rw [parts_snoc, List.sum_append]; simp
    have e6 : atP (stackOf up [c]) p = qAt c p := by rw [atP_stack]; simp [partsAt]
    rw [e3, e5, e6, atP_stack]
    refine ⟨rfl, by rw [e4, List.length_append, partsAt_len]; rfl, fun h2 => ?_⟩
    simp only [e4]
    rw [List.getElem_append_right (by rw [partsAt_len]; exact Nat.le_refl _)]
    simp [partsAt_len]
  · rw [total_stack hvS, total_stack hvT, total_stack hvO]; simp
#print axioms add_law
end Go.Proofs.YtlaemhigmgmgjaaGreat
